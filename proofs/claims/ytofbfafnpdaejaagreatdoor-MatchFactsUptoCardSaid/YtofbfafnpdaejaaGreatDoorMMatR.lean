/- Texts of the claim. -/
import Derived.Test.YtofbfafnpdaejaaGreatDoorMMatL
namespace Go.Proofs.YtofbfafnpdaejaaGreatDoor
open Go.RowKit
set_option linter.unusedSimpArgs false
set_option linter.unusedVariables false
set_option maxRecDepth 100000
set_option maxHeartbeats 8000000
theorem rsame11_go (A B : Option Addr) (ca cb : Nat) (L M : List Int) (w : World) (hA : IntsAt w A L) (hB : IntsAt w B M) (hl : L.length ≤ 100000000) (hca : L.length ≤ ca) (hcb : M.length ≤ cb) :
  Calls Tryz.prog 103 #[.slice A L.length ca, .slice B M.length cb] w fun e w' => e = .returned (.bool (decide (L = M))) ∧ Below w.heap.size w w' := by
 have HA := Lib.hid hA
 have HB := Lib.hid hB
 clear hA hB
 by_cases hlen : L.length = M.length
 ·rw [← hlen] at hcb ⊢
  have HLen := Lib.hid hlen
  clear hlen
  go_enter Tryz.func103, Tryz.ntmps103
  go_wp2
  go_loopw [5] (fun i wr => ∃ k : Nat, k ≤ L.length ∧ Hid (∀ j, j < k → L[j]? = M[j]?) ∧ i = .int .i64 (k : Int) ∧ Hid (Below w.heap.size w wr)) (fun i _ => L.length - (intOf i).toNat)
  case atStart => exact ⟨0, Nat.zero_le _, Lib.hid (fun j h => by omega), rfl, Lib.hid (Below.refl _ _)⟩
  case round =>
   obtain ⟨k, hk, HK, rfl, HW⟩ := hrel
   by_cases hlt : k < L.length
   ·have hlt2 : k < M.length := by have := HLen.out; omega
    obtain ⟨a, hr⟩ : ∃ a, L[k]? = some a := ⟨_, List.getElem?_eq_getElem hlt⟩
    obtain ⟨c, hr2⟩ : ∃ c, M[k]? = some c := ⟨_, List.getElem?_eq_getElem hlt2⟩
    obtain ⟨b, o, rfl, hc⟩ := (HA.out.below HW.out) k a hr
    obtain ⟨b2, o2, rfl, hc2⟩ := (HB.out.below HW.out) k c hr2
    have HR := Lib.hid hr
    have HR2 := Lib.hid hr2
    have hd1 : (k : Int) < (L.length : Int) := by omega
    have hd2 : (k : Int) ≤ (ca : Int) := by omega
    have hd3 : (k : Int) < (ca : Int) := by omega
    have hd4 : (k : Int) < (cb : Int) := by omega
    have HW2 := Lib.hid HW.out.drew
    by_cases he : a = c
    ·have HV := Lib.hid (show ∀ j, j < k + 1 → L[j]? = M[j]? from fun j hj => by
      rcases Nat.lt_or_ge j k with h | h
      ·exact HK.out j h
      ·obtain rfl : j = k := by omega
       rw [HR.out, HR2.out, he])
     have hs : (a != c) = false := by simpa using he
     clear hr hr2 he hlt2
     go_wp2_with fail
     go_region
     go_wp2
     go_light
     go_roundw
     case rel => exact ⟨k + 1, by omega, HV, by go_num, HW2⟩
     case measure => simp [intOf]; omega
    ·have HV := Lib.hid (show decide (L = M) = false from decide_eq_false (fun e => he (by
      have h1 := HR.out
      rw [e, HR2.out] at h1
      exact (Option.some.inj h1).symm)))
     have hs : (a != c) = true := by simpa using he
     clear hr hr2 he hlt2
     go_wp2_with fail
     go_region
     go_wp2
     go_light
     go_ret
     exact ⟨ret_b HV.out.symm, HW2.out⟩
   ·have HV := Lib.hid (show decide (L = M) = true from decide_eq_true (List.ext_getElem? fun j => by
     rcases Nat.lt_or_ge j L.length with h | h
     ·exact HK.out j (by omega)
     ·rw [List.getElem?_eq_none h, List.getElem?_eq_none (by have := HLen.out; omega)]))
    go_wp2
    go_light
    go_ret
    exact ⟨ret_b HV.out.symm, HW.out⟩
 ·have HV := Lib.hid (show decide (L = M) = false from decide_eq_false (fun e => hlen (by rw [e])))
  have hs : ((L.length : Int) != (M.length : Int)) = true := by simp; omega
  go_enter Tryz.func103, Tryz.ntmps103
  go_wp2
  go_light
  go_ret
  exact ⟨ret_b HV.out.symm, Below.refl _ _⟩
end Go.Proofs.YtofbfafnpdaejaaGreatDoor
