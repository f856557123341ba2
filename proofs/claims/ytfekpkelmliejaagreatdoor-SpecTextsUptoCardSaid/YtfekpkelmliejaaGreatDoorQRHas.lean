/- Texts of the claim. -/
import Derived.Test.YtfekpkelmliejaaGreatDoorQRuleRow
namespace Go.Proofs.YtfekpkelmliejaaGreatDoor
open Go.RowKit Go.Maps
set_option linter.unusedSimpArgs false
set_option linter.unusedVariables false
set_option maxRecDepth 100000
set_option maxHeartbeats 8000000
theorem strOf_eq {a b : List Nat} (ha : ∀ c ∈ a, c < 256) (hb : ∀ c ∈ b, c < 256) : strOf a = strOf b ↔ a = b := by
 constructor
 ·intro h
  exact u8_inj ha hb (by rw [← strOf_list, ← strOf_list, h])
 ·rintro rfl; rfl
theorem strOf_ne {a b : List Nat} (ha : ∀ c ∈ a, c < 256) (hb : ∀ c ∈ b, c < 256) (h : a ≠ b) : ((strOf a).toList == (strOf b).toList) = false := by
 rw [beq_eq_false_iff_ne, ByteArray.toList_eq, ByteArray.toList_eq, strOf_list, strOf_list]
 exact fun e => h (u8_inj ha hb e)
theorem called_get {rs : List RuleS} {nm : List Nat} : called rs nm = true ↔ ∃ (k : Nat) (r : RuleS), rs[k]? = some r ∧ r.name = nm := by
 unfold called
 rw [List.any_eq_true]
 constructor
 ·rintro ⟨r, hr, he⟩
  obtain ⟨k, hk⟩ := List.getElem?_of_mem hr
  exact ⟨k, r, hk, by simpa using he⟩
 ·rintro ⟨k, r, hk, he⟩
  exact ⟨r, List.mem_of_getElem? hk, by simpa using he⟩
theorem rhas_go (A : Option Addr) (cap : Nat) (rs : List RuleS) (nm : List Nat) (P : Nat → Prop) (w : World) (hA : RulesAt w P rs A) (hl : rs.length ≤ 100000000) (h256 : ∀ r ∈ rs, ∀ c ∈ r.name, c < 256) (hn : ∀ c ∈ nm, c < 256) :
  Calls Tryz.prog 92 #[.slice A rs.length cap, .string (strOf nm)] w fun e w' => e = .returned (.bool (called rs nm)) ∧ w = w' := by
 have HA := Lib.hid hA
 have H2 := Lib.hid h256
 have HN := Lib.hid hn
 clear hA h256 hn
 go_enter Tryz.func92, Tryz.ntmps92
 go_wp2
 go_loop [5] (fun i => ∃ k : Nat, k ≤ rs.length ∧ Hid (∀ j r, j < k → rs[j]? = some r → r.name ≠ nm) ∧ i = .int .i64 (k : Int)) (fun i => rs.length - (intOf i).toNat)
 case atStart => exact ⟨0, Nat.zero_le _, Lib.hid (fun j r h => by omega), rfl⟩
 case round =>
  obtain ⟨k, hk, HK, rfl⟩ := hrel
  by_cases hlt : k < rs.length
  ·obtain ⟨r, hr⟩ : ∃ r, rs[k]? = some r := ⟨_, List.getElem?_eq_getElem hlt⟩
   obtain ⟨b, o, B, capb, rfl, _, _, hc, _⟩ := HA.out k r hr
   have heq := strOf_eq (H2.out r (List.mem_of_getElem? hr)) HN.out
   have HR := Lib.hid hr
   by_cases he : r.name = nm
   ·have HV := Lib.hid (called_get.2 ⟨k, r, hr, he⟩)
    have hs : ((strOf r.name).toList == (strOf nm).toList) = true := by rw [he]; simp
    clear heq hr he
    go_wp2
    go_ret
    exact ⟨ret_b HV.out.symm, rfl⟩
   ·have HV := Lib.hid (show ∀ j r, j < k + 1 → rs[j]? = some r → r.name ≠ nm from fun j r' hj hr' => by
     rcases Nat.lt_or_ge j k with h | h
     ·exact HK.out j r' h hr'
     ·obtain rfl : j = k := by omega
      rw [HR.out] at hr'
      cases hr'
      exact he)
    have hs := strOf_ne (H2.out r (List.mem_of_getElem? hr)) HN.out he
    clear hr heq he
    go_wp2
    go_round
    case rel => exact ⟨k + 1, by omega, HV, by go_num⟩
    case measure => simp [intOf]; omega
  ·have HV := Lib.hid (show called rs nm = false from by
    cases hc : called rs nm
    ·rfl
    ·obtain ⟨j, r, hj, he⟩ := called_get.1 hc
     exact absurd he (HK.out j r (by have := (List.getElem?_eq_some_iff.1 hj).1; omega) hj))
   go_wp2
   go_ret
   exact ⟨ret_b HV.out.symm, rfl⟩
end Go.Proofs.YtfekpkelmliejaaGreatDoor
