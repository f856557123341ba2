/-
  The contract of the reference's Same, its places left out, at two rows of lexemes that are alike.
-/
import Derived.Test.YtkelkadalikibaaDoorQSameFar
import Derived.Test.YtkelkadalikibaaDoorQBackS
namespace Go.Proofs.YtkelkadalikibaaDoor
open Go.RowKit
set_option linter.unusedSimpArgs false
set_option linter.unusedVariables false
set_option maxRecDepth 100000

set_option maxHeartbeats 4000000 in
theorem same_like_go (v v' : Value) (L M : List Lex) (o o2 : Nat) (w : World) (h : LexRowO w o2 v M) (h' : LexRowO w o v' L) (hlen : M.length = L.length) (heq : ∀ (k : Nat) x y, M[k]? = some x → L[k]? = some y → likeW x y) (hL : L.length ≤ 100000) :
    Calls Tryd.prog 27 #[v, v', .bool false] w fun e w' => e = .returned (.bool true) ∧ ∃ n, w' = w.drewN n := by
  obtain ⟨A, cap, rfl, hc⟩ := h
  obtain ⟨A', cap', rfl, hc'⟩ := h'
  have Hc := Lib.hid hc
  have Hc' := Lib.hid hc'
  have Hq := Lib.hid heq
  have Hlen := Lib.hid hlen
  rw [hlen]
  clear hc hc' heq hlen
  go_enter Tryd.func27, Tryd.ntmps27
  go_wp2
  go_loopw [7] (fun i wr => ∃ k n : Nat, i = .int .i64 (k : Int) ∧ k ≤ L.length ∧ wr = w.drewN n) (fun i _ => L.length - (intOf i).toNat)
  case atStart => exact ⟨0, 0, rfl, Nat.zero_le _, rfl⟩
  case round =>
    obtain ⟨k, n, rfl, hk, rfl⟩ := hrel
    by_cases hlt : k < L.length
    · obtain ⟨y, hy⟩ : ∃ y, L[k]? = some y := ⟨_, List.getElem?_eq_getElem hlt⟩
      obtain ⟨x, hx⟩ : ∃ x, M[k]? = some x := ⟨_, List.getElem?_eq_getElem (by have := Hlen.out; omega)⟩
      obtain ⟨q1, q2, q3, q4⟩ := Hq.out k x y hx hy
      obtain ⟨g, rfl, c0, c1, c2, c3, c4, c5, c6, c7⟩ := Hc.out k x hx
      obtain ⟨g', rfl, d0, d1, d2, d3, d4, d5, d6, d7⟩ := Hc'.out k y hy
      rw [q1] at c0
      rw [q2 0 (by decide)] at c2
      rw [q2 1 (by decide)] at c3
      rw [q2 2 (by decide)] at c4
      rw [q2 3 (by decide)] at c5
      rw [q3] at c6
      rw [q4] at c7
      have hdl : (k : Int) < (L.length : Int) := by omega
      have eb0 : (((word y.set 0 : Nat) : Int) == ((word y.set 0 : Nat) : Int)) = true := by simp
      have eb1 : (((word y.set 1 : Nat) : Int) == ((word y.set 1 : Nat) : Int)) = true := by simp
      have eb2 : (((word y.set 2 : Nat) : Int) == ((word y.set 2 : Nat) : Int)) = true := by simp
      have eb3 : (((word y.set 3 : Nat) : Int) == ((word y.set 3 : Nat) : Int)) = true := by simp
      have ek : (y.kind != y.kind) = false := by simp
      have el : (y.lo != y.lo) = false := by simp
      have eh : (y.hi != y.hi) = false := by simp
      have c3' : w.cell? ⟨g, o2 + k * 8 + 2 + 1, none⟩ = some (.int .u64 ((word y.set 1 : Nat) : Int)) := c3
      have c4' : w.cell? ⟨g, o2 + k * 8 + 2 + 2, none⟩ = some (.int .u64 ((word y.set 2 : Nat) : Int)) := c4
      have c5' : w.cell? ⟨g, o2 + k * 8 + 2 + 3, none⟩ = some (.int .u64 ((word y.set 3 : Nat) : Int)) := c5
      have d3' : w.cell? ⟨g', o + k * 8 + 2 + 1, none⟩ = some (.int .u64 ((word y.set 1 : Nat) : Int)) := d3
      have d4' : w.cell? ⟨g', o + k * 8 + 2 + 2, none⟩ = some (.int .u64 ((word y.set 2 : Nat) : Int)) := d4
      have d5' : w.cell? ⟨g', o + k * 8 + 2 + 3, none⟩ = some (.int .u64 ((word y.set 3 : Nat) : Int)) := d5
      clear hx hy q1 q2 q3 q4
      go_wp2
      refine wp_region_quiet_lit (by kernel_rfl) (by kernel_rfl) ?_
      iterate 52 (quiet_step (fail))
      refine wpQuiet_step (fun K hK => ?_)
      go_simp
      iterate 13 (generalize ha : Act.mk _ _ = aa; have h2 := hK aa; clear hK; refine h2 ?_; clear h2 K; refine wpQuiet_step (fun K hK => ?_); rw [← ha]; clear ha; go_simp)
      generalize ha : Act.mk _ _ = aa
      have h2 := hK aa
      clear hK
      refine h2 ?_
      clear h2 K
      refine wpQuiet_nil ?_
      rw [← ha]
      clear ha aa
      intro _ hw'
      obtain ⟨nq, hw''⟩ := hw'
      subst hw''
      go_wp2
      go_light
      go_roundw
      case rel => exact ⟨k + 1, _, by go_num, by omega, rfl⟩
      case measure => simp [intOf]; omega
    · have hdl : ¬ (k : Int) < (L.length : Int) := by omega
      go_wp2
      go_light
      go_ret
      exact ⟨rfl, _, rfl⟩


theorem LexRow.off {w : World} {v : Value} {L : List Lex} (h : LexRow w v L) : LexRowO w 0 v L := by
  obtain ⟨A, cap, hv, hc⟩ := h
  refine ⟨A, cap, hv, fun k x hx => ?_⟩
  rw [Nat.zero_add]
  exact hc k x hx
theorem LexsAt.row {w : World} {B : Nat} {A : Option Addr} {L : List Lex} (h : LexsAt w B A L) (cap : Nat) : ∃ o, LexRowO w o (.slice A L.length cap) L := by
  rcases Nat.eq_zero_or_pos L.length with h0 | h0
  · have : L = [] := List.length_eq_zero_iff.1 h0
    subst this
    exact ⟨0, A, cap, rfl, fun k x hx => by simp at hx⟩
  · obtain ⟨b, o, rfl, _, hc⟩ := h h0
    exact ⟨o, some ⟨b, o, none⟩, cap, rfl, fun k x hx => ⟨b, rfl, hc k x hx⟩⟩

end Go.Proofs.YtkelkadalikibaaDoor
