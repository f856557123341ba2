/-
  Cells of some blocks that stand through a drawn region.
-/
import Derived.Test.YtchfipjclbpomaaDoorQNfaM
namespace Go.Proofs.YtchfipjclbpomaaDoor
open Go.RowKit
set_option linter.unusedSimpArgs false
set_option linter.unusedVariables false
set_option maxRecDepth 100000

/-- The cells of blocks of P are as they were. -/
def KeepP (P : Nat → Prop) (w1 w2 : World) : Prop := ∀ b' o', P b' → w2.cell? ⟨b', o', none⟩ = w1.cell? ⟨b', o', none⟩
theorem cell_heap {w w' : World} {b o : Nat} (h : w'.heap[b]? = w.heap[b]?) : w'.cell? ⟨b, o, none⟩ = w.cell? ⟨b, o, none⟩ := by
  simp only [World.cell?, h]
theorem KeepP.refl (P : Nat → Prop) (w : World) : KeepP P w w := fun _ _ _ => rfl
theorem KeepP.start (P : Nat → Prop) (w : World) : KeepP P w w.drew := fun _ _ _ => rfl
theorem KeepP.drew {P : Nat → Prop} {w1 w2 : World} (h : KeepP P w1 w2) : KeepP P w1 w2.drew := h
theorem KeepP.by {P : Nat → Prop} {w1 w2 w3 : World} (h : KeepP P w1 w2) (hk : ∀ b, P b → w3.heap[b]? = w2.heap[b]?) : KeepP P w1 w3 := fun b' o' h' => (cell_heap (hk b' h')).trans (h b' o' h')
theorem KeepP.alloc {P : Nat → Prop} {w1 w2 : World} (h : KeepP P w1 w2) (hP : ∀ b, P b → b < w2.heap.size) (o : Obj) : KeepP P w1 (w2.alloc o) := h.by fun b hb => Below.heap_alloc w2 o b (hP b hb)
theorem KeepP.below {P : Nat → Prop} {w1 w2 w3 : World} (h : KeepP P w1 w2) (hB : Below w2.heap.size w2 w3) (hP : ∀ b, P b → b < w2.heap.size) : KeepP P w1 w3 := h.by fun b hb => hB.block b (hP b hb)
theorem KeepP.moves {P : Nat → Prop} {base : Nat} {S S2 : Nat → Prop} {w1 w2 w3 : World} (h : KeepP P w1 w2) (hv : Moves base S w2 S2 w3) (hP : ∀ b, P b → b < w2.heap.size ∧ ¬ S b) : KeepP P w1 w3 := h.by fun b hb => hv.kept b (hP b hb).1 (hP b hb).2
theorem KeepP.grown {P : Nat → Prop} {w1 w2 w3 : World} {row : Option Nat} (h : KeepP P w1 w2) (hg : w2.grownBy w3 row) (hP : ∀ b, P b → b < w2.heap.size ∧ some b ≠ row) : KeepP P w1 w3 := h.by fun b hb => hg.block b (hP b hb).1 (hP b hb).2
theorem KeepP.set {P : Nat → Prop} {w1 w2 : World} (h : KeepP P w1 w2) {p : Addr} (hP : ∀ b, P b → b ≠ p.block) (u : Value) : KeepP P w1 (w2.setCell p u) := h.by fun b hb => Below.heap_setCell w2 p u b (hP b hb)
theorem two_of {Q : Nat → Prop} {p q : Nat} (hp : Q p) (hq : Q q) : ∀ b, b = p ∨ b = q → Q b := by
  rintro b (rfl | rfl)
  · exact hp
  · exact hq
end Go.Proofs.YtchfipjclbpomaaDoor
