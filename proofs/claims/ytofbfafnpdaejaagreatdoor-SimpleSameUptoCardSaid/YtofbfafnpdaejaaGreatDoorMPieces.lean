/- Texts of the claim. -/
import Derived.Deep.QuietTactic
import Derived.BigQuiet
import Derived.Test.YtofbfafnpdaejaaGreatDoorMZ01
import Derived.Test.YtofbfafnpdaejaaGreatDoorMRSpansGo
import Derived.Test.YtofbfafnpdaejaaGreatDoorMZ03
set_option linter.all false
set_option maxRecDepth 100000
set_option maxHeartbeats 8000000
namespace Go.Proofs.YtofbfafnpdaejaaGreatDoor
open Go.RowKit
theorem spanCells_at : ∀ (l : List (Nat × Nat)) (i a b : Nat), l[i]? = some (a, b) → (spanCells l)[i * 2]? = some (.int .u8 (a : Int)) ∧ (spanCells l)[i * 2 + 1]? = some (.int .u8 (b : Int))
 | [], i, a, b, h => by simp at h
 | q :: l, 0, a, b, h => by
  simp at h; subst h
  exact ⟨rfl, rfl⟩
 | q :: l, i + 1, a, b, h => by
  have ih := spanCells_at l i a b (by simpa using h)
  rw [show (i + 1) * 2 = i * 2 + 1 + 1 by omega]
  exact ih
theorem addr0 (g j : Nat) : (⟨g, 0, none⟩ : Addr).add j = ⟨g, j, none⟩ := by unfold Addr.add; split <;> simp_all
theorem span_row {W : World} {n₀ : Nat} {v : Value} {l : List (Nat × Nat)} (h : W.ownsRow n₀ 253 2 v l.length (spanCells l)) :
  ∃ A cap, v = .slice A l.length cap ∧ ∀ i a b : Nat, l[i]? = some (a, b) → ∃ g, A = some ⟨g, 0, none⟩ ∧ g < W.heap.size ∧ n₀ ≤ g ∧ W.cell? ⟨g, i * 2, none⟩ = some (.int .u8 (a : Int)) ∧ W.cell? ⟨g, i * 2 + 1, none⟩ = some (.int .u8 (b : Int)) := by
 have hc := fun g hg => h.cells (g := g) hg
 have hl := h.lt
 rcases h.2 with ⟨rfl, h0⟩ | ⟨g, cap, cur, rfl, hg, hgb, hn, hcap, hsz, htk⟩
 ·have e : l = [] := by cases l; rfl; simp at h0
  subst e
  exact ⟨none, 0, rfl, by simp⟩
 ·refine ⟨_, cap, rfl, ?_⟩
  intro i a b hi
  obtain ⟨e1, e2⟩ := spanCells_at l i a b hi
  have c1 := hc g rfl _ _ e1
  have c2 := hc g rfl _ _ e2
  rw [addr0] at c1 c2
  exact ⟨g, rfl, (hl g rfl).2, hg, c1, c2⟩
theorem piecesS_take {l : List (Nat × Nat)} {k : Nat} {x : Nat × Nat} (h : l[k]? = some x) : piecesS (l.take (k + 1)) = piecesS (l.take k) ++ pieceS x := by
 rw [List.take_add_one, h]
 simp [piecesS]
theorem cuts_len (p : Nat → Bool) : (cutsOf p).length ≤ 256 := Nat.le_trans (spans_len _) (elems_len p 256)
theorem taken_len (p : Nat → Bool) (k : Nat) : (piecesS ((cutsOf p).take k)).length ≤ 2304 := by
 have h1 := piecesS_len ((cutsOf p).take k)
 have h2 := cuts_len p
 have h3 : ((cutsOf p).take k).length ≤ (cutsOf p).length := List.length_take_le' _ _
 omega
theorem e45 : (⟨#[45]⟩ : ByteArray) = strOf [45] := rfl
theorem ret_s {a b : ByteArray} (h : a = b) : Ending.returned (.string a) = .returned (.string b) := by rw [h]
theorem val_s {a b : ByteArray} (h : a = b) : Value.string a = .string b := by rw [h]
end Go.Proofs.YtofbfafnpdaejaaGreatDoor
