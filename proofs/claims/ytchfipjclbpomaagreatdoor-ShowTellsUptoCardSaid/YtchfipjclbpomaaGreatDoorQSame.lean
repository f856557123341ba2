/-
  The contract of the reference's Same, at two rows of the same lexemes.
-/
import Derived.Deep.QuietTactic
import Derived.BigQuiet
import Derived.Test.YtchfipjclbpomaaGreatDoorQZ03
namespace Go.Proofs.YtchfipjclbpomaaGreatDoor
open Go.RowKit
set_option linter.unusedSimpArgs false
set_option linter.unusedVariables false
set_option maxRecDepth 100000

set_option maxHeartbeats 1000000 in
theorem same_go (v v' : Value) (L : List Lex) (w : World) (h : LexRow w v L) (h' : LexRow w v' L) (hL : L.length ≤ 100000) :
    Calls Tryz.prog 9 #[v, v', .bool true] w fun e w' => e = .returned (.bool true) ∧ ∃ n, w' = w.drewN n := by
  obtain ⟨A, cap, rfl, hc⟩ := h
  obtain ⟨A', cap', rfl, hc'⟩ := h'
  have Hc := Lib.hid hc
  have Hc' := Lib.hid hc'
  clear hc hc'
  go_enter Tryz.func9, Tryz.ntmps9
  go_wp2
  go_loopw [7] (fun i wr => ∃ k n : Nat, i = .int .i64 (k : Int) ∧ k ≤ L.length ∧ wr = w.drewN n) (fun i _ => L.length - (intOf i).toNat)
  case atStart => exact ⟨0, 0, rfl, Nat.zero_le _, rfl⟩
  case round =>
    obtain ⟨k, n, rfl, hk, rfl⟩ := hrel
    by_cases hlt : k < L.length
    · obtain ⟨x, hx⟩ : ∃ x, L[k]? = some x := ⟨_, List.getElem?_eq_getElem hlt⟩
      obtain ⟨g, rfl, c0, c1, c2, c3, c4, c5, c6, c7⟩ := Hc.out k x hx
      obtain ⟨g', rfl, d0, d1, d2, d3, d4, d5, d6, d7⟩ := Hc'.out k x hx
      have hdl : (k : Int) < (L.length : Int) := by omega
      have eb0 : (((word x.set 0 : Nat) : Int) == ((word x.set 0 : Nat) : Int)) = true := by simp
      have eb1 : (((word x.set 1 : Nat) : Int) == ((word x.set 1 : Nat) : Int)) = true := by simp
      have eb2 : (((word x.set 2 : Nat) : Int) == ((word x.set 2 : Nat) : Int)) = true := by simp
      have eb3 : (((word x.set 3 : Nat) : Int) == ((word x.set 3 : Nat) : Int)) = true := by simp
      have ek : (x.kind != x.kind) = false := by simp
      have ep : (x.place != x.place) = false := by simp
      have el : (x.lo != x.lo) = false := by simp
      have eh : (x.hi != x.hi) = false := by simp
      have c3' : w.cell? ⟨g, k * 8 + 3, none⟩ = some (.int .u64 ((word x.set 1 : Nat) : Int)) := c3
      have c4' : w.cell? ⟨g, k * 8 + 4, none⟩ = some (.int .u64 ((word x.set 2 : Nat) : Int)) := c4
      have c5' : w.cell? ⟨g, k * 8 + 5, none⟩ = some (.int .u64 ((word x.set 3 : Nat) : Int)) := c5
      have d3' : w.cell? ⟨g', k * 8 + 3, none⟩ = some (.int .u64 ((word x.set 1 : Nat) : Int)) := d3
      have d4' : w.cell? ⟨g', k * 8 + 4, none⟩ = some (.int .u64 ((word x.set 2 : Nat) : Int)) := d4
      have d5' : w.cell? ⟨g', k * 8 + 5, none⟩ = some (.int .u64 ((word x.set 3 : Nat) : Int)) := d5
      clear hx
      go_wp2
      go_quiet (fail)
      go_wp2
      go_light
      go_roundw
      case rel => exact ⟨k + 1, _, by go_num, by omega, rfl⟩
      case measure => simp [intOf]; omega
    · have hdl : ¬ (k : Int) < (L.length : Int) := by omega
      go_wp2
      go_light
      go_ret
      exact ⟨rfl, _, rfl⟩

end Go.Proofs.YtchfipjclbpomaaGreatDoor
