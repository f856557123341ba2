/-
  The contract of the reference's Write of chapter 08.
-/
import Derived.Test.YtfekpkelmliejaaGreatDoorQZ05
import Derived.Test.YtfekpkelmliejaaGreatDoorQShowG
namespace Go.Proofs.YtfekpkelmliejaaGreatDoor
open Go.RowKit
set_option linter.unusedSimpArgs false
set_option linter.unusedVariables false
set_option maxRecDepth 100000

theorem row_zero (w : World) (base : Nat) (h : base ≤ w.heap.size) : (w.alloc (.cells #[] 139)).ownsRow base 139 8 (.slice (some ⟨w.heap.size, 0, none⟩) 0 0) ([] : List Lex).length (lexCells []) :=
  ⟨rfl, .inr ⟨w.heap.size, 0, #[], rfl, h, heap_alloc_new w _, Nat.le_refl _, Nat.zero_le _, rfl, rfl⟩⟩
/-- The frame of the loop: the node's box, the row that was made. -/
def BFr (w : World) (nd : Array Value) (L : List Lex) (v : Value) (wr : World) : Prop := Blk wr w.heap.size 28 nd ∧ Below w.heap.size w wr ∧ wr.ownsRow w.heap.size 139 8 v L.length (lexCells L)
theorem BFr.start (w : World) (nd : Array Value) : BFr w nd [] (.slice (some ⟨w.heap.size + 1, 0, none⟩) 0 0) ((w.alloc (.cells nd 28)).alloc (.cells #[] 139)) := by
  refine ⟨(Blk.new w _ _).alloc _, ((Below.refl _ _).alloc (Nat.le_refl _) _).alloc (by simp) _, ?_⟩
  have h := row_zero (w.alloc (.cells nd 28)) w.heap.size (by simp)
  rw [World.size_alloc] at h
  exact h
end Go.Proofs.YtfekpkelmliejaaGreatDoor
