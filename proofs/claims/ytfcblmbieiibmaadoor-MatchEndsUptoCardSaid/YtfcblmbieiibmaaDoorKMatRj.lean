/- Texts of the claim. -/
import Derived.Test.YtfcblmbieiibmaaDoorKMatR
import Derived.Test.YtfcblmbieiibmaaDoorKZ04
namespace Go.Proofs.YtfcblmbieiibmaaDoor
open Go.RowKit
set_option linter.unusedSimpArgs false
set_option linter.unusedVariables false
set_option maxRecDepth 100000
set_option maxHeartbeats 8000000
def PlOut (Q : List Int → Prop) (w : World) (e : Ending) (w' : World) : Prop := ∃ R A c, Q R ∧ e = .returned (.slice A R.length c) ∧ Below w.heap.size w w' ∧ IntsAt w' A R ∧ R.length ≤ c
theorem own_listM {w : World} {base : Nat} {v : Value} {R : List Int} (h : w.ownsRow base 3 1 v R.length (intsC R)) : ∃ A c, v = .slice A R.length c ∧ IntsAt w A R ∧ R.length ≤ c := by
 obtain ⟨A', c, e⟩ := own_slice h
 refine ⟨A', c, e, ?_, ?_⟩
 ·rw [e] at h
  exact own_intsC h
 ·rcases Nat.eq_zero_or_pos R.length with h0 | h0
  ·omega
  ·obtain ⟨_, c2, e2, _, _, h3⟩ := own_form_capC h h0
   rw [e] at e2
   cases e2
   exact h3
def joinL (a b : List Int) (k : Nat) : List Int := ((List.range k).filter fun t : Nat => hasI a (t : Int) || hasI b (t : Int)).map fun t : Nat => (t : Int)
theorem joinL_yes {a b : List Int} {k : Nat} (h : (hasI a (k : Int) || hasI b (k : Int)) = true) : joinL a b (k + 1) = joinL a b k ++ [(k : Int)] := by
 unfold joinL
 rw [List.range_succ, List.filter_append, List.map_append]
 simp [h]
theorem joinL_no {a b : List Int} {k : Nat} (h : (hasI a (k : Int) || hasI b (k : Int)) = false) : joinL a b (k + 1) = joinL a b k := by
 unfold joinL
 rw [List.range_succ, List.filter_append, List.map_append]
 simp [h]
theorem joinL_len (a b : List Int) (k : Nat) : (joinL a b k).length ≤ k := by
 unfold joinL
 rw [List.length_map]
 exact Nat.le_trans (List.length_filter_le _ _) (by simp)
theorem joinL_is (a b : List Int) (n : Nat) : IsJoin a b n (joinL a b (n + 1)) := by
 refine ⟨?_, fun t => ?_⟩
 ·unfold Rises joinL
  rw [List.pairwise_map]
  exact (List.pairwise_lt_range.filter _).imp fun {x y} h => by omega
 ·unfold joinL
  simp only [List.mem_map, List.mem_filter, List.mem_range, Bool.or_eq_true, hasI_iff]
  constructor
  ·rintro ⟨x, ⟨h1, h2⟩, rfl⟩
   exact ⟨h2, by omega, by omega⟩
  ·rintro ⟨h1, h2, h3⟩
   refine ⟨t.toNat, ⟨by omega, ?_⟩, by omega⟩
   rw [show ((t.toNat : Nat) : Int) = t by omega]
   exact h1
theorem rjoin11_go (A B : Option Addr) (ca cb : Nat) (a b : List Int) (n : Nat) (w : World) (hA : IntsAt w A a) (hB : IntsAt w B b) (hla : a.length ≤ 100000000) (hlb : b.length ≤ 100000000) (hn : n ≤ 1000000) :
  Calls Tryd.prog 49 #[.slice A a.length ca, .slice B b.length cb, .int .i64 (n : Int)] w (PlOut (IsJoin a b n) w) := by
 have HA := Lib.hid hA
 have HB := Lib.hid hB
 have HR0 := Lib.hid (ints_made w)
 have HB0 := Lib.hid ((Below.refl w.heap.size w).alloc (Nat.le_refl _) (.cells #[] 3))
 clear hA hB
 go_enter Tryd.func49, Tryd.ntmps49
 go_wp2
 go_loopw [7, 8] (fun v i' wr => ∃ i : Nat, i' = .int .i64 (i : Int) ∧ i ≤ n + 1 ∧ Hid (wr.ownsRow w.heap.size 3 1 v (joinL a b i).length (intsC (joinL a b i))) ∧ Hid (Below w.heap.size w wr)) (fun _ i' _ => n + 1 - (intOf i').toNat)
 case atStart => exact ⟨0, rfl, Nat.zero_le _, Lib.hid (by rw [show joinL a b 0 = [] from rfl]; exact HR0.out), HB0⟩
 case round =>
  clear HR0 HB0
  obtain ⟨i, rfl, hi, HR, HW⟩ := hrel
  by_cases hlt : i ≤ n
  ·have hdl : (i : Int) ≤ (n : Int) := by omega
   have hwi : IntKind.i64.wrap ((i : Int) + 1) = (i : Int) + 1 := by rw [IntKind.wrap_i64]; omega
   have HHa := Lib.hid (rhas11_go A ca a (i : Int) wr (HA.out.below HW.out) hla)
   have HHb := Lib.hid (rhas11_go B cb b (i : Int) wr (HB.out.below HW.out) hlb)
   have HYes := Lib.hid (fun h => joinL_yes (a := a) (b := b) (k := i) h)
   have HNo := Lib.hid (fun h => joinL_no (a := a) (b := b) (k := i) h)
   go_wp2_with fail
   refine HHa.out.mono ?_
   rintro e _ ⟨rfl, rfl⟩
   dsimp only
   cases ha : hasI a (i : Int) with
   | true =>
    rw [ha] at HYes
    clear ha
    obtain ⟨v2, w2, hr2, ho2, hb2⟩ := push_own_int wr w.heap.size _ (joinL a b i) HR.out (i : Int) (by have := joinL_len a b i; omega) HW.out.size
    have HR2 := Lib.hid hr2
    have HO2 := Lib.hid ho2
    have HB2 := Lib.hid (hb2 w.heap.size w HW.out (Nat.le_refl _))
    clear hr2 ho2 hb2
    go_wp2_with (at_builtin; refine wpList_append_by rfl _ _ 32 32 rfl _ _ _ _ rfl rfl HR2.out ?_)
    refine ⟨⟨i + 1, by rw [show ((i + 1 : Nat) : Int) = (i : Int) + 1 by omega], by omega, Lib.hid (by rw [HYes.out rfl]; exact HO2.out), HB2⟩, ?_⟩
    simp [intOf]
    omega
   | false =>
    rw [ha] at HYes HNo
    clear ha
    go_wp2_with fail
    refine HHb.out.mono ?_
    rintro e _ ⟨rfl, rfl⟩
    dsimp only
    cases hb : hasI b (i : Int) with
    | true =>
     rw [hb] at HYes
     clear hb
     obtain ⟨v2, w2, hr2, ho2, hb2⟩ := push_own_int wr w.heap.size _ (joinL a b i) HR.out (i : Int) (by have := joinL_len a b i; omega) HW.out.size
     have HR2 := Lib.hid hr2
     have HO2 := Lib.hid ho2
     have HB2 := Lib.hid (hb2 w.heap.size w HW.out (Nat.le_refl _))
     clear hr2 ho2 hb2
     go_wp2_with (at_builtin; refine wpList_append_by rfl _ _ 32 32 rfl _ _ _ _ rfl rfl HR2.out ?_)
     refine ⟨⟨i + 1, by rw [show ((i + 1 : Nat) : Int) = (i : Int) + 1 by omega], by omega, Lib.hid (by rw [HYes.out rfl]; exact HO2.out), HB2⟩, ?_⟩
     simp [intOf]
     omega
    | false =>
     rw [hb] at HNo
     clear hb
     go_wp2
     refine ⟨⟨i + 1, by rw [show ((i + 1 : Nat) : Int) = (i : Int) + 1 by omega], by omega, Lib.hid (by rw [HNo.out rfl]; exact HR.out), HW⟩, ?_⟩
     simp [intOf]
     omega
  ·obtain rfl : i = n + 1 := by omega
   have hdl : ¬ ((n + 1 : Nat) : Int) ≤ (n : Int) := by omega
   go_wp2
   go_light
   go_ret
   obtain ⟨A', c, rfl, h1, h2⟩ := own_listM HR.out
   exact ⟨joinL a b (n + 1), A', c, joinL_is a b n, rfl, HW.out, h1, h2⟩
end Go.Proofs.YtfcblmbieiibmaaDoor
