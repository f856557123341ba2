/-
  A machine in memory: its rows, the program's layer, and what laying may change.
-/
import Derived.Maps.AppendAt
import Derived.Deep.AppendLies
import Derived.Deep.RegionLaw
import Derived.Deep.RegionHeld3
import Derived.RegionTactic
import Derived.BigRegion
import Derived.Test.YtchfipjclbpomaaDoorQZ03
namespace Go.Proofs.YtchfipjclbpomaaDoor
open Go.RowKit
set_option linter.unusedSimpArgs false
set_option linter.unusedVariables false
set_option maxRecDepth 100000

theorem ownsRow_block {W W' : World} {base size k : Nat} {e : TypeId} {v : Value} {xs : List Value} (hr : W.ownsRow base e size v k xs) (hb : ∀ k, v.ownBlock = some k → W'.heap[k]? = W.heap[k]?) : W'.ownsRow base e size v k xs := by
  refine ⟨hr.1, ?_⟩
  rcases hr.2 with h | ⟨g, cap, cur, rfl, h1, h2, h3⟩
  · exact .inl h
  · exact .inr ⟨g, cap, cur, rfl, h1, (hb g rfl).trans h2, h3⟩
/-- What became of the world: blocks below base and those not of S stand; new blocks of S' are new. -/
structure Moves (base : Nat) (S : Nat → Prop) (w : World) (S' : Nat → Prop) (w' : World) : Prop where
  below : Below base w w'
  size : w.heap.size ≤ w'.heap.size
  kept : ∀ b, b < w.heap.size → ¬ S b → w'.heap[b]? = w.heap[b]?
  fresh : ∀ b, S' b → S b ∨ w.heap.size ≤ b
theorem Moves.refl (base : Nat) (S : Nat → Prop) (w : World) : Moves base S w S w := ⟨Below.refl _ _, Nat.le_refl _, fun _ _ _ => rfl, fun b hb => .inl hb⟩
theorem Moves.trans {base : Nat} {S S1 S2 : Nat → Prop} {w w1 w2 : World} (h : Moves base S w S1 w1) (h' : Moves base S1 w1 S2 w2) : Moves base S w S2 w2 :=
  ⟨h.below.trans h'.below, Nat.le_trans h.size h'.size, fun b hb hn => by
    have hn1 : ¬ S1 b := fun hb1 => by
      rcases h.fresh b hb1 with h2 | h2
      · exact hn h2
      · omega
    exact (h'.kept b (by have := h.size; omega) hn1).trans (h.kept b hb hn), fun b hb => by
    rcases h'.fresh b hb with h2 | h2
    · exact h.fresh b h2
    · right; have := h.size; omega⟩
theorem Moves.alloc {base : Nat} {S S1 : Nat → Prop} {w w1 : World} (h : Moves base S w S1 w1) (hb : base ≤ w.heap.size) (o : Obj) : Moves base S w S1 (w1.alloc o) :=
  ⟨h.below.alloc (by have := h.size; omega) o, by have := h.size; simp; omega, fun b hb hn => (Below.heap_alloc w1 o b (by have := h.size; omega)).trans (h.kept b hb hn), h.fresh⟩
theorem Moves.drew {base : Nat} {S S1 : Nat → Prop} {w w1 : World} (h : Moves base S w S1 w1) : Moves base S w S1 w1.drew := ⟨h.below.drew, h.size, h.kept, h.fresh⟩
theorem Moves.drewN {base : Nat} {S S1 : Nat → Prop} {w w1 : World} (h : Moves base S w S1 w1) (n : Nat) : Moves base S w S1 (w1.drewN n) := ⟨bel_drewN h.below n, h.size, h.kept, h.fresh⟩
/-- A store to a block of one's own. -/
theorem Moves.set {base : Nat} {S S1 : Nat → Prop} {w w1 : World} (h : Moves base S w S1 w1) {p : Addr} (hp : w.heap.size ≤ p.block) (hb : base ≤ w.heap.size) (u : Value) : Moves base S w S1 (w1.setCell p u) :=
  ⟨h.below.setCell (by omega) u, by have := h.size; simpa [World.setCell] using this, fun b hb hn => (Below.heap_setCell w1 p u b (by omega)).trans (h.kept b hb hn), h.fresh⟩
theorem Blk.moves {base : Nat} {S S1 : Nat → Prop} {w w1 : World} {b : Nat} {t : TypeId} {cs : Array Value} (h : Blk w b t cs) (hm : Moves base S w S1 w1) (hn : ¬ S b) : Blk w1 b t cs := (hm.kept b h.lt hn).trans h
theorem Moves.notIn {base : Nat} {S S1 : Nat → Prop} {w w1 : World} (h : Moves base S w S1 w1) {b : Nat} (hb : b < w.heap.size) (hn : ¬ S b) : ¬ S1 b := fun h1 => by
  rcases h.fresh b h1 with h2 | h2
  · exact hn h2
  · omega
/-- What a call keeps of everything below the heap's end, as far as laying goes. -/
theorem Moves.of_below {base : Nat} {S : Nat → Prop} {w w' : World} (h : Below w.heap.size w w') (hb : base ≤ w.heap.size) : Moves base S w S w' :=
  ⟨h.mono hb, h.size, fun b hb _ => h.block b hb, fun b hb => .inl hb⟩
/-- Trees that stand below base stay. -/
theorem TreesAt.moves {base : Nat} {S S1 : Nat → Prop} {w w1 : World} {F : Trees} {B : Option Addr} (h : TreesAt w (fun b => b < base) F B) (hm : Moves base S w S1 w1) : TreesAt w1 (fun b => b < base) F B :=
  h.keep (fun b o hb _ => hm.below.cell (p := ⟨b, o, none⟩) hb) (fun b hb _ => hb)
end Go.Proofs.YtchfipjclbpomaaDoor
