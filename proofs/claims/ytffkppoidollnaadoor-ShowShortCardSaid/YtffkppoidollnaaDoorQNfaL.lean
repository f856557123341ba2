/-
  The contracts of the layer's state and link, and of an edge laid.
-/
import Derived.Test.YtffkppoidollnaaDoorQZ03
namespace Go.Proofs.YtffkppoidollnaaDoor
open Go.RowKit
set_option linter.unusedSimpArgs false
set_option linter.unusedVariables false
set_option maxRecDepth 100000

/-- A store to a block of S. -/
theorem Moves.setS {base : Nat} {S S1 : Nat → Prop} {w w1 : World} (h : Moves base S w S1 w1) {p : Addr} (hp : S p.block) (hb : base ≤ p.block) (u : Value) : Moves base S w S1 (w1.setCell p u) :=
  ⟨h.below.setCell hb u, by have := h.size; simpa [World.setCell] using this, fun b hlt hn => (Below.heap_setCell w1 p u b (fun e => hn (e ▸ hp))).trans (h.kept b hlt hn), h.fresh⟩
/-- An append to a row of the machine. -/
theorem Moves.push {base : Nat} {S : Nat → Prop} {w wa w1 : World} {v : Value} {gg : Nat} (hS : ∀ b, S b → base ≤ b ∧ b < w.heap.size) (hb : base ≤ w.heap.size) (ha : Below w.heap.size w wa) (hgrow : wa.grownBy w1 v.ownBlock) (hv : ∀ b, v.ownBlock = some b → S b) (hat : v.ownBlock = some gg ∨ w.heap.size ≤ gg) :
    Moves base S w (fun b => S b ∨ b = gg) w1 := by
  have hsz := ha.size
  have hs2 : wa.heap.size ≤ w1.heap.size := hgrow.size
  refine ⟨(ha.mono hb).grown hgrow (by omega) (fun k hk => (hS k (hv k hk)).1), by omega, fun b hlt hn => ?_, fun b hb => ?_⟩
  · exact (hgrow.block b (by omega) (fun e => hn (hv b e.symm))).trans (ha.block b hlt)
  · rcases hb with h | rfl
    · exact .inl h
    · rcases hat with h | h
      · exact .inl (hv _ h)
      · exact .inr h
end Go.Proofs.YtffkppoidollnaaDoor
