/-
  The contract of the reference's piece.
-/
import Derived.StillTailTactics
import Derived.Test.YtfekpkelmliejaaGreatDoorQZ02
namespace Go.Proofs.YtfekpkelmliejaaGreatDoor
open Go.RowKit
set_option linter.unusedSimpArgs false
set_option linter.unusedVariables false
set_option maxRecDepth 100000

/-- The block X holds the node so far, the first new block none yet. -/
def Holds (w : World) (X : Nat) (z : Nd) (B : Option Addr) (cap : Nat) (wr : World) : Prop :=
  Blk wr X 28 (ndA z B cap) ∧ Blk wr w.heap.size 28 #[.int .i64 0, .int .u64 0, .int .u64 0, .int .u64 0, .int .u64 0, .slice none 0 0, .int .i64 0, .int .i64 0] ∧ Below w.heap.size w wr ∧ z.kids.len ≤ cap ∧ TreesAt wr (fun b => w.heap.size + 1 ≤ b ∧ b ≠ X) z.kids B ∧ w.heap.size < X
section
variable {w wr w2 w3 : World} {X : Nat} {z z' : Nd} {B B' : Option Addr} {cap cap' : Nat}
theorem Holds.below (h : Holds w X z B cap wr) (hb : Below wr.heap.size wr w2) : Holds w X z B cap w2 :=
  ⟨h.1.below hb h.1.lt, h.2.1.below hb h.2.1.lt, h.2.2.1.trans (hb.mono h.2.2.1.size), h.2.2.2.1, h.2.2.2.2.1.below hb, h.2.2.2.2.2⟩
theorem Holds.next (h : Holds w X z B cap wr) (hb : Below wr.heap.size wr w2) (hc : z'.kids.len ≤ cap') (ht : TreesAt w2 (fun b => w.heap.size + 1 ≤ b ∧ b ≠ X) z'.kids B')
    (hw : w3 = ((((((((w2.setCell ⟨X, 0, none⟩ (.int .i64 z'.kind)).setCell ⟨X, 1, none⟩ (.int .u64 ((word z'.set.testBit 0 : Nat) : Int))).setCell ⟨X, 2, none⟩ (.int .u64 ((word z'.set.testBit 1 : Nat) : Int))).setCell ⟨X, 3, none⟩ (.int .u64 ((word z'.set.testBit 2 : Nat) : Int))).setCell ⟨X, 4, none⟩ (.int .u64 ((word z'.set.testBit 3 : Nat) : Int))).setCell ⟨X, 5, none⟩ (.slice B' z'.kids.len cap')).setCell ⟨X, 6, none⟩ (.int .i64 z'.lo)).setCell ⟨X, 7, none⟩ (.int .i64 z'.hi))) :
    Holds w X z' B' cap' w3 := by
  have hg : w2.grownBy w3 (some X) := by rw [hw]; exact only_put8 _ _ _ _ _ _ _ _ _ _
  have h2 := h.below hb
  have hX := h.2.2.2.2.2
  refine ⟨by rw [hw]; exact h2.1.put8 _ _ _ _ _ _ _ _, h2.2.1.grown hg (fun e => by have := Option.some.inj e; omega), by rw [hw]; exact below_put8 h2.2.2.1 (Nat.le_of_lt hX) _ _ _ _ _ _ _ _, hc, ht.keep (fun b o hb hl => World.cell?_of_block (hg.block b hl (fun e => hb.2 (Option.some.inj e)))) (fun b hb _ => hb), hX⟩
theorem Holds.drew (h : Holds w X z B cap wr) : Holds w X z B cap wr.drew := ⟨h.1, h.2.1, h.2.2.1.drew, h.2.2.2.1, h.2.2.2.2.1.drew, h.2.2.2.2.2⟩
end
theorem Holds.done {w wr w' : World} {X : Nat} {z : Nd} {B : Option Addr} {cap : Nat} (h : Holds w X z B cap wr)
    (hw : w' = ((((((((wr.setCell ⟨w.heap.size, 0, none⟩ (.int .i64 z.kind)).setCell ⟨w.heap.size, 1, none⟩ (.int .u64 ((word z.set.testBit 0 : Nat) : Int))).setCell ⟨w.heap.size, 2, none⟩ (.int .u64 ((word z.set.testBit 1 : Nat) : Int))).setCell ⟨w.heap.size, 3, none⟩ (.int .u64 ((word z.set.testBit 2 : Nat) : Int))).setCell ⟨w.heap.size, 4, none⟩ (.int .u64 ((word z.set.testBit 3 : Nat) : Int))).setCell ⟨w.heap.size, 5, none⟩ (.slice B z.kids.len cap)).setCell ⟨w.heap.size, 6, none⟩ (.int .i64 z.lo)).setCell ⟨w.heap.size, 7, none⟩ (.int .i64 z.hi))) :
    Blk w' w.heap.size 28 (ndA z B cap) ∧ Below w.heap.size w w' ∧ TreesAt w' (fun b => w.heap.size ≤ b) z.kids B := by
  have hg : wr.grownBy w' (some w.heap.size) := by rw [hw]; exact only_put8 _ _ _ _ _ _ _ _ _ _
  refine ⟨by rw [hw]; exact h.2.1.put8 _ _ _ _ _ _ _ _, by rw [hw]; exact below_put8 h.2.2.1 (Nat.le_refl _) _ _ _ _ _ _ _ _, h.2.2.2.2.1.keep (fun b o hb hl => World.cell?_of_block (hg.block b hl (fun e => by have := Option.some.inj e; have := hb.1; omega))) (fun b hb _ => by have := hb.1; omega)⟩
/-- The row of one node that a sign is laid over. -/
theorem Holds.one {w wr : World} {X : Nat} {z : Nd} {B : Option Addr} {cap : Nat} (h : Holds w X z B cap wr) : TreesAt (wr.alloc (.cells (ndA z B cap) 28)) (fun b => w.heap.size + 1 ≤ b ∧ b ≠ X) (Trees.of [z]) (some ⟨wr.heap.size, 0, none⟩) := by
  have h1 := h.2.1.lt
  have h2 := h.1.lt
  exact TreesAt.one (Blk.new _ _ _) h.2.2.2.1 (h.2.2.2.2.1.below ((Below.refl _ _).alloc (Nat.le_refl _) _)) ⟨by omega, by omega⟩

end Go.Proofs.YtfekpkelmliejaaGreatDoor
