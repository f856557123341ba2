/-
  The walk of LexemeJoins.
-/
import Derived.Test.YtkelkadalikibaaDoorQJoinW
import Derived.Test.YtkelkadalikibaaDoorQRJoinW
import Derived.Test.YtkelkadalikibaaDoorQKnows05
namespace Go.Proofs.YtkelkadalikibaaDoor
open Go.RowKit
set_option linter.unusedSimpArgs false
set_option linter.unusedVariables false
set_option maxRecDepth 100000

theorem joinV_cases (L : List Lex) : ∃ (s : ByteArray) (e : Int), joinV L = .tuple #[.string s, .int .i64 e] ∧ (e = 0 ∨ e = 6) := by
  unfold joinV
  split
  · exact ⟨_, _, rfl, .inl rfl⟩
  · exact ⟨_, _, rfl, .inr rfl⟩
set_option maxHeartbeats 2000000 in
theorem joins_go (A : Option Addr) (cap : Nat) (L : List Lex) (c : Nat) (w : World) (hc : c < 256) (hA : LexsAt w w.heap.size A L) (hlen : L.length ≤ 1048576) (hT : TabAt 0 Lib.deBruijn64tab w) (hw0 : 0 < w.heap.size) :
    Calls Tryd.prog 7 #[.slice A L.length cap, .int .u8 (c : Int)] w fun e w' => e = .returned (.bool true) ∧ Below w.heap.size w w' := by
  obtain ⟨s, er, hv, he⟩ := joinV_cases L
  have H1 := Lib.hid (join_go A cap L w hA hlen hT hw0)
  have H2 := Lib.hid (fun w1 (h : LexsAt w1 w1.heap.size A L) => rjoin_go A cap L w1 h hlen)
  rw [hv] at H1 H2
  have HA := Lib.hid hA
  have hee : (er != er) = false := by simp
  clear hA hT hv
  go_enter Tryd.func7, Tryd.ntmps7
  go_wp2_with fail
  refine H1.out.mono ?_
  rintro e w1 ⟨rfl, hb1⟩
  have HB := Lib.hid hb1
  clear hb1
  go_wp2_with fail
  refine (H2.out _ ((HA.out.below HB.out).more HB.out.size)).mono ?_
  rintro e w2 ⟨rfl, hb1⟩
  have HB := Lib.hid (HB.out.trans (hb1.mono HB.out.size))
  clear hb1
  go_wp2_with fail
  refine (lit_go c _ hc).mono ?_
  rintro e w3 ⟨rfl, hb1⟩
  have HB := Lib.hid (HB.out.trans (hb1.mono HB.out.size))
  clear hb1
  go_wp2_with fail
  refine (rlit_go c _ hc).mono ?_
  rintro e w4 ⟨rfl, hb1⟩
  have HB := Lib.hid (HB.out.trans (hb1.mono HB.out.size))
  clear hb1
  go_wp2
  go_loopw [9] (fun i wr => ∃ k : Nat, i = .int .i64 (k : Int) ∧ k ≤ L.length ∧ Hid (Below w.heap.size w wr)) (fun i _ => L.length - (intOf i).toNat)
  case atStart => exact ⟨0, rfl, Nat.zero_le _, HB⟩
  case round =>
    rename_i HB0 _ _ _ _
    clear HB0
    obtain ⟨k, rfl, hk, HB⟩ := hrel
    by_cases hlt : k < L.length
    · obtain ⟨x, hx⟩ : ∃ x, L[k]? = some x := ⟨_, List.getElem?_eq_getElem hlt⟩
      obtain ⟨b, o, rfl, hbl⟩ := HA.out.form (by omega)
      obtain ⟨c0, c1, c2, c3, c4, c5, c6, c7⟩ := (HA.out.below HB.out).at hx
      have Hx := Lib.hid hx
      have hdl : (k : Int) < (L.length : Int) := by omega
      clear hx
      go_wp2
      go_region_with (first
        | (go_at_call 23; refine (right_go _ _ _ _ _ _ _ _ _).mono ?_; rintro e w5 ⟨rfl, hb1⟩; have HC := Lib.hid (HB.out.drew.trans (hb1.mono HB.out.drew.size)); clear hb1; obtain ⟨d0, d1, d2, d3, d4, d5, d6, d7⟩ := (HA.out.below HC.out).at Hx.out)
        | (go_at_call 24; refine (rright_go _ _ _ _ _ _ _ _ _).mono ?_; rintro e w6 ⟨rfl, hb1⟩; have HD := Lib.hid (HC.out.trans (hb1.mono HC.out.size)); clear hb1))
      all_goals go_wp2
      all_goals go_light
      all_goals exact ⟨⟨k + 1, by go_num, by omega, HD⟩, by simp [intOf]; omega⟩
    · have hdl : ¬ (k : Int) < (L.length : Int) := by omega
      go_wp2_with fail
      refine (knows05_go _).mono ?_
      rintro e w5 ⟨rfl, hb1⟩
      have HB := Lib.hid (HB.out.trans (hb1.mono HB.out.size))
      clear hb1
      go_wp2
      go_light
      go_ret
      exact ⟨rfl, HB.out⟩

end Go.Proofs.YtkelkadalikibaaDoor
