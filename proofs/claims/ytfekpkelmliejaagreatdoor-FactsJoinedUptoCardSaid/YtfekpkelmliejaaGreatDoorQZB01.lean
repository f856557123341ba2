/-
  The writer in memory; the contracts of its put and of level. The closure of show's write that writes a kid, between brackets if it must be. The contract of show's write. The contract of the reference's Write of chapter 08.
-/
import Derived.Test.YtfekpkelmliejaaGreatDoorQZ04
import Derived.Test.YtfekpkelmliejaaGreatDoorQZ01
import Derived.Test.YtfekpkelmliejaaGreatDoorQZ05
import Derived.Test.YtfekpkelmliejaaGreatDoorQZ03
namespace Go.Proofs.YtfekpkelmliejaaGreatDoor
open Go.RowKit
set_option linter.unusedSimpArgs false
set_option linter.unusedVariables false
set_option maxRecDepth 100000

/-- A writer that holds lexemes, its blocks of S. -/
def WrAt (w : World) (base g : Nat) (S : Nat → Prop) (L : List Lex) : Prop :=
  (∀ b, S b → base ≤ b ∧ b < w.heap.size) ∧ S g ∧ ∃ v, Blk w g 208 #[v] ∧ w.ownsRow base 139 8 v L.length (lexCells L) ∧ ∀ b, v.ownBlock = some b → S b
theorem WrAt.keep {w w' : World} {base g : Nat} {S : Nat → Prop} {L : List Lex} (h : WrAt w base g S L) (hs : w.heap.size ≤ w'.heap.size) (hk : ∀ b, S b → w'.heap[b]? = w.heap[b]?) : WrAt w' base g S L := by
  obtain ⟨h0, hg, v, h1, h2, h3⟩ := h
  exact ⟨fun b hb => ⟨(h0 b hb).1, by have := (h0 b hb).2; omega⟩, hg, v, (hk g hg).trans h1, ownsRow_block h2 (fun k e => hk k (h3 k e)), h3⟩
theorem WrAt.lt {w : World} {base g : Nat} {S : Nat → Prop} {L : List Lex} (h : WrAt w base g S L) : ∀ b, S b → b < w.heap.size := fun b hb => (h.1 b hb).2
theorem WrAt.alloc {w : World} {base g : Nat} {S : Nat → Prop} {L : List Lex} (h : WrAt w base g S L) (o : Obj) : WrAt (w.alloc o) base g S L :=
  h.keep (by simp) (fun b hb => Below.heap_alloc w o b (h.lt b hb))
theorem WrAt.drew {w : World} {base g : Nat} {S : Nat → Prop} {L : List Lex} (h : WrAt w base g S L) : WrAt w.drew base g S L := h.keep (Nat.le_refl _) (fun _ _ => rfl)
theorem WrAt.below {w w' : World} {base g : Nat} {S : Nat → Prop} {L : List Lex} (h : WrAt w base g S L) (hb : Below w.heap.size w w') : WrAt w' base g S L :=
  h.keep hb.size (fun b hs => hb.block b (h.lt b hs))
theorem WrAt.not {w : World} {base g : Nat} {S : Nat → Prop} {L : List Lex} (h : WrAt w base g S L) {b : Nat} (hb : w.heap.size ≤ b) : ¬ S b := fun h' => by have := h.lt b h'; omega
/-- How a call that writes ends. -/
def WrOut (base g : Nat) (S : Nat → Prop) (w : World) (L : List Lex) (e : Ending) (w' : World) : Prop :=
  e = .returned (.tuple #[]) ∧ ∃ S', WrAt w' base g S' L ∧ Moves base S w S' w'
/-! How much holds a tree together. -/
end Go.Proofs.YtfekpkelmliejaaGreatDoor
namespace Go.Proofs.YtfekpkelmliejaaGreatDoor
open Go.RowKit
set_option linter.unusedSimpArgs false
set_option linter.unusedVariables false
set_option maxRecDepth 100000

theorem cell_blk {w w' : World} {b o : Nat} (h : w'.heap[b]? = w.heap[b]?) : w'.cell? ⟨b, o, none⟩ = w.cell? ⟨b, o, none⟩ := by
  simp only [World.cell?, h]
/-- The frame of the closure. -/
structure KFr (w : World) (base g pb : Nat) (S : Nat → Prop) (nd : Array Value) (S1 : Nat → Prop) (L : List Lex) (w1 : World) : Prop where
  x : Blk w1 w.heap.size 28 nd
  p : w1.cell? ⟨pb, 0, none⟩ = some (.pointer (some ⟨g, 0, none⟩))
  wr : WrAt w1 base g S1 L
  mvs : Moves base S w S1 w1
  nx : ¬ S1 w.heap.size
  np : ¬ S1 pb
  hb : base ≤ w.heap.size
  hpl : pb < w.heap.size
theorem KFr.start {w : World} {base g pb : Nat} {S : Nat → Prop} {L : List Lex} (nd : Array Value) (h : WrAt w base g S L) (hb : base ≤ w.heap.size) (hp : w.cell? ⟨pb, 0, none⟩ = some (.pointer (some ⟨g, 0, none⟩))) (hnp : ¬ S pb) : KFr w base g pb S nd S L (w.alloc (.cells nd 28)) :=
  have hl := World.block_lt_of_cell? w _ hp
  ⟨Blk.new w _ _, (cell_blk (Below.heap_alloc w _ pb hl)).trans hp, h.alloc _, (Moves.refl base S w).alloc hb _, h.not (Nat.le_refl _), hnp, hb, hl⟩
theorem KFr.go {w w1 : World} {base g pb : Nat} {S S1 : Nat → Prop} {L : List Lex} {nd : Array Value} (h : KFr w base g pb S nd S1 L w1) {w2 : World} {S2 : Nat → Prop} {L2 : List Lex} (hm : WrAt w2 base g S2 L2) (hv : Moves base S1 w1 S2 w2) : KFr w base g pb S nd S2 L2 w2 :=
  have hl : pb < w1.heap.size := World.block_lt_of_cell? w1 _ h.p
  ⟨h.x.moves hv h.nx, (cell_blk (hv.kept pb hl h.np)).trans h.p, hm, h.mvs.trans hv, hv.notIn h.x.lt h.nx, hv.notIn hl h.np, h.hb, h.hpl⟩
theorem KFr.below {w w1 : World} {base g pb : Nat} {S S1 : Nat → Prop} {L : List Lex} {nd : Array Value} (h : KFr w base g pb S nd S1 L w1) {w2 : World} (hB : Below w1.heap.size w1 w2) : KFr w base g pb S nd S1 L w2 :=
  h.go (h.wr.below hB) (Moves.of_below hB (by have := h.mvs.size; have := h.hb; omega))
theorem KFr.size {w w1 : World} {base g pb : Nat} {S S1 : Nat → Prop} {L : List Lex} {nd : Array Value} (h : KFr w base g pb S nd S1 L w1) : base ≤ w1.heap.size := by
  have := h.mvs.size; have := h.hb; omega
end Go.Proofs.YtfekpkelmliejaaGreatDoor
namespace Go.Proofs.YtfekpkelmliejaaGreatDoor
open Go.RowKit
set_option linter.unusedSimpArgs false
set_option linter.unusedVariables false
set_option maxRecDepth 100000

/-- The frame of write: the box of the writer's pointer, the box of the node, the writer. -/
structure WFr (w : World) (base g : Nat) (S : Nat → Prop) (nd : Array Value) (S1 : Nat → Prop) (L : List Lex) (w1 : World) : Prop where
  p : Blk w1 w.heap.size 231 #[.pointer (some ⟨g, 0, none⟩)]
  x : Blk w1 (w.heap.size + 1) 28 nd
  wr : WrAt w1 base g S1 L
  mvs : Moves base S w S1 w1
  np : ¬ S1 w.heap.size
  nx : ¬ S1 (w.heap.size + 1)
  hb : base ≤ w.heap.size
theorem WFr.start {w : World} {base g : Nat} {S : Nat → Prop} {L : List Lex} (nd : Array Value) (h : WrAt w base g S L) (hb : base ≤ w.heap.size) : WFr w base g S nd S L ((w.alloc (.cells #[.pointer (some ⟨g, 0, none⟩)] 231)).alloc (.cells nd 28)) :=
  ⟨(Blk.new w _ _).alloc _, Blk.new_at (by simp), (h.alloc _).alloc _, ((Moves.refl base S w).alloc hb _).alloc hb _, h.not (Nat.le_refl _), h.not (by omega), hb⟩
theorem WFr.go {w w1 : World} {base g : Nat} {S S1 : Nat → Prop} {L : List Lex} {nd : Array Value} (h : WFr w base g S nd S1 L w1) {w2 : World} {S2 : Nat → Prop} {L2 : List Lex} (hm : WrAt w2 base g S2 L2) (hv : Moves base S1 w1 S2 w2) : WFr w base g S nd S2 L2 w2 :=
  ⟨h.p.moves hv h.np, h.x.moves hv h.nx, hm, h.mvs.trans hv, hv.notIn h.p.lt h.np, hv.notIn h.x.lt h.nx, h.hb⟩
theorem WFr.below {w w1 : World} {base g : Nat} {S S1 : Nat → Prop} {L : List Lex} {nd : Array Value} (h : WFr w base g S nd S1 L w1) {w2 : World} (hB : Below w1.heap.size w1 w2) : WFr w base g S nd S1 L w2 :=
  h.go (h.wr.below hB) (Moves.of_below hB (by have := h.mvs.size; have := h.hb; omega))
theorem WFr.size {w w1 : World} {base g : Nat} {S S1 : Nat → Prop} {L : List Lex} {nd : Array Value} (h : WFr w base g S nd S1 L w1) : base ≤ w1.heap.size := by
  have := h.mvs.size; have := h.hb; omega
theorem WFr.out {w w1 : World} {base g : Nat} {S S1 : Nat → Prop} {L : List Lex} {nd : Array Value} (h : WFr w base g S nd S1 L w1) {e : Ending} (he : e = .returned (.tuple #[])) : WrOut base g S w L e w1 := ⟨he, S1, h.wr, h.mvs⟩
end Go.Proofs.YtfekpkelmliejaaGreatDoor
namespace Go.Proofs.YtfekpkelmliejaaGreatDoor
open Go.RowKit
set_option linter.unusedSimpArgs false
set_option linter.unusedVariables false
set_option maxRecDepth 100000

theorem row_zero (w : World) (base : Nat) (h : base ≤ w.heap.size) : (w.alloc (.cells #[] 139)).ownsRow base 139 8 (.slice (some ⟨w.heap.size, 0, none⟩) 0 0) ([] : List Lex).length (lexCells []) :=
  ⟨rfl, .inr ⟨w.heap.size, 0, #[], rfl, h, heap_alloc_new w _, Nat.le_refl _, Nat.zero_le _, rfl, rfl⟩⟩
/-- The frame of the loop: the node's box, the row that was made. -/
def BFr (w : World) (nd : Array Value) (L : List Lex) (v : Value) (wr : World) : Prop := Blk wr w.heap.size 28 nd ∧ Below w.heap.size w wr ∧ wr.ownsRow w.heap.size 139 8 v L.length (lexCells L)
theorem BFr.start (w : World) (nd : Array Value) : BFr w nd [] (.slice (some ⟨w.heap.size + 1, 0, none⟩) 0 0) ((w.alloc (.cells nd 28)).alloc (.cells #[] 139)) := by
  refine ⟨(Blk.new w _ _).alloc _, ((Below.refl _ _).alloc (Nat.le_refl _) _).alloc (by simp) _, ?_⟩
  have h := row_zero (w.alloc (.cells nd 28)) w.heap.size (by simp)
  rw [World.size_alloc] at h
  exact h
end Go.Proofs.YtfekpkelmliejaaGreatDoor
