/-
  The contracts of the reference's part and alternative.
-/
import Derived.Test.YtfekpkelmliejaaGreatDoorQRPiece
namespace Go.Proofs.YtfekpkelmliejaaGreatDoor
open Go.RowKit
set_option linter.unusedSimpArgs false
set_option linter.unusedVariables false
set_option maxRecDepth 100000

/-! Rows of nodes that the reference makes. -/
def RRow (w : World) (acc : List Nd) (u : Value) (wr : World) : Prop :=
  (∃ cs, wr.ownsRow (w.heap.size + 1) 28 8 u acc.length cs ∧ CellsAre wr (fun b => w.heap.size + 1 ≤ b ∧ some b ≠ u.ownBlock) acc cs) ∧ Blk wr w.heap.size 28 #[.int .i64 0, .int .u64 0, .int .u64 0, .int .u64 0, .int .u64 0, .slice none 0 0, .int .i64 0, .int .i64 0] ∧ Below w.heap.size w wr
section
variable {w wr w2 w' : World} {acc : List Nd} {u : Value}
theorem RRow.own (h : RRow w acc u wr) : ∀ g, u.ownBlock = some g → w.heap.size + 1 ≤ g ∧ g < wr.heap.size := by
  obtain ⟨⟨cs, hr, _⟩, _⟩ := h
  exact hr.lt
theorem RRow.below (h : RRow w acc u wr) (hb : Below wr.heap.size wr w2) : RRow w acc u w2 := by
  obtain ⟨⟨cs, hr, hc⟩, h2, h3⟩ := h
  exact ⟨⟨cs, own_below hr hb, hc.below hb⟩, h2.below hb h2.lt, h3.trans (hb.mono h3.size)⟩
theorem RRow.append {z : Nd} {B : Option Addr} {cap gg capg : Nat} {o : Obj} {cs : List Value} (h : RRow w acc u wr)
    (hz : TreesAt wr (fun b => w.heap.size + 1 ≤ b ∧ some b ≠ u.ownBlock) z.kids B) (hcz : z.kids.len ≤ cap) (hcs : CellsAre wr (fun b => w.heap.size + 1 ≤ b ∧ some b ≠ u.ownBlock) acc cs)
    (hown : w'.ownsRow (w.heap.size + 1) 28 8 (.slice (some ⟨gg, 0, none⟩) (acc.length + 1) capg) (acc.length + 1) (cs ++ ndCell z B cap)) (hgrow : (wr.alloc o).grownBy w' u.ownBlock) (hat : u.ownBlock = some gg ∨ gg = wr.heap.size + 1) :
    RRow w (acc ++ [z]) (.slice (some ⟨gg, 0, none⟩) (acc.length + 1) capg) w' := by
  have hl := h.own
  obtain ⟨_, h2, h3⟩ := h
  have hb : Below wr.heap.size wr (wr.alloc o) := (Below.refl _ _).alloc (Nat.le_refl _) o
  have hk : ∀ b i, (w.heap.size + 1 ≤ b ∧ some b ≠ u.ownBlock) → b < wr.heap.size → w'.cell? ⟨b, i, none⟩ = wr.cell? ⟨b, i, none⟩ := fun b i hb2 hbl =>
    (World.cell?_of_block (hgrow.block b (by simp; omega) hb2.2)).trans (hb.cell (p := ⟨b, i, none⟩) hbl)
  have hq : ∀ b, (w.heap.size + 1 ≤ b ∧ some b ≠ u.ownBlock) → b < wr.heap.size → w.heap.size + 1 ≤ b ∧ some b ≠ (Value.slice (some ⟨gg, 0, none⟩) (acc.length + 1) capg).ownBlock := fun b hb2 hbl => ⟨hb2.1, fun e => by
    have e' : b = gg := by simpa [Value.ownBlock] using e
    rcases hat with hh | hh
    · exact hb2.2 (by rw [e', hh])
    · omega⟩
  refine ⟨⟨cs ++ ndCell z B cap, by simpa using hown, CellsAre.snoc hcz (hz.keep hk hq) (hcs.keep hk hq)⟩, (h2.below hb h2.lt).grown hgrow (fun e => by have := (hl _ e.symm).1; omega),
    (h3.trans (hb.mono h3.size)).grown hgrow (by have := h3.size; simp; omega) (fun k e => by have := (hl k e).1; omega)⟩
theorem RRow.trees (h : RRow w acc u wr) : ∃ A cap, u = .slice A acc.length cap ∧ acc.length ≤ cap ∧ TreesAt wr (fun b => w.heap.size + 1 ≤ b) (Trees.of acc) A := by
  have hl := h.own
  obtain ⟨⟨cs, hr, hc⟩, _⟩ := h
  exact trees_of hr (hc.keep (fun _ _ _ _ => rfl) (fun b hb _ => hb.1)) (fun g e => (hl g e).1)
end
end Go.Proofs.YtfekpkelmliejaaGreatDoor
