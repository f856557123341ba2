/-
  Words for memory: a block that is known whole; bytes and sets that a slice holds; what a call keeps.
-/
import Derived.Test.YtkelkadalikibaaSpecA
import Derived.Below
import Derived.Laws.Rows
import Derived.Laws.NewBlocks
import Derived.Deep.Draws
import Derived.WalkKit
namespace Go.Proofs.Ytkelkadalikibaa
set_option linter.unusedSimpArgs false
set_option linter.unusedVariables false
open Go.RowKit

theorem ret_b {a b : Bool} (h : a = b) : Ending.returned (.bool a) = .returned (.bool b) := by rw [h]
theorem ret_i {k : IntKind} {a b : Int} (h : a = b) : Ending.returned (.int k a) = .returned (.int k b) := by rw [h]

/-- Block g is just the cells cs of type t, none frozen. -/
def Blk (w : World) (g : Nat) (t : TypeId) (cs : Array Value) : Prop := w.heap[g]? = some (.cells cs t (0, 0))

section
variable {w w' : World} {g : Nat} {t : TypeId} {cs : Array Value}
theorem Blk.lt (h : Blk w g t cs) : g < w.heap.size := by
  rcases Nat.lt_or_ge g w.heap.size with hlt | hge
  · exact hlt
  · unfold Blk at h; rw [Array.getElem?_eq_none hge] at h; cases h
theorem Blk.cell (h : Blk w g t cs) (i : Nat) : w.cell? ⟨g, i, none⟩ = cs[i]? := cell_of_row w g i cs t (0, 0) h
theorem Blk.frozen (h : Blk w g t cs) (i : Nat) : w.frozen? ⟨g, i, none⟩ = false := by
  unfold Blk at h
  simp [World.frozen?, h]
theorem Blk.new (w : World) (t : TypeId) (cs : Array Value) : Blk (w.alloc (.cells cs t)) w.heap.size t cs := heap_alloc_new w _
theorem Blk.new_at {n : Nat} (hn : n = w.heap.size) : Blk (w.alloc (.cells cs t)) n t cs := by subst hn; exact Blk.new w t cs
theorem Blk.drew (h : Blk w g t cs) : Blk w.drew g t cs := h
theorem Blk.drewN (h : Blk w g t cs) (n : Nat) : Blk (w.drewN n) g t cs := h
theorem Blk.alloc (h : Blk w g t cs) (o : Obj) : Blk (w.alloc o) g t cs := (Below.heap_alloc w o g h.lt).trans h
theorem Blk.set_ (h : Blk w g t cs) (i : Nat) (u : Value) : Blk (w.setCell ⟨g, i, none⟩ u) g t (cs.setIfInBounds i u) := by
  unfold Blk at h ⊢
  simp [World.setCell, Array.getElem?_modify, h]
theorem Blk.far (h : Blk w g t cs) {p : Addr} (hp : g ≠ p.block) (u : Value) : Blk (w.setCell p u) g t cs := (Below.heap_setCell w p u g hp).trans h
theorem Blk.below {B : Nat} (h : Blk w g t cs) (hb : Below B w w') (hg : g < B) : Blk w' g t cs := (hb.block g hg).trans h
theorem Blk.grown {row : Option Nat} (h : Blk w g t cs) (hb : w.grownBy w' row) (hg : some g ≠ row) : Blk w' g t cs := (hb.block g h.lt hg).trans h
theorem Blk.c4 {a b c d : Value} (h : Blk w g t #[a, b, c, d]) :
    w.cell? ⟨g, 0, none⟩ = some a ∧ w.cell? ⟨g, 1, none⟩ = some b ∧ w.cell? ⟨g, 2, none⟩ = some c ∧ w.cell? ⟨g, 3, none⟩ = some d ∧
    w.frozen? ⟨g, 0, none⟩ = false ∧ w.frozen? ⟨g, 1, none⟩ = false ∧ w.frozen? ⟨g, 2, none⟩ = false ∧ w.frozen? ⟨g, 3, none⟩ = false :=
  ⟨h.cell 0, h.cell 1, h.cell 2, h.cell 3, h.frozen 0, h.frozen 1, h.frozen 2, h.frozen 3⟩
theorem Blk.c2 {a b : Value} (h : Blk w g t #[a, b]) : w.cell? ⟨g, 0, none⟩ = some a ∧ w.cell? ⟨g, 1, none⟩ = some b ∧ w.frozen? ⟨g, 0, none⟩ = false ∧ w.frozen? ⟨g, 1, none⟩ = false := ⟨h.cell 0, h.cell 1, h.frozen 0, h.frozen 1⟩
theorem Blk.set2 {a b a' b' : Value} (h : Blk w g t #[a, b]) : Blk ((w.setCell ⟨g, 0, none⟩ a').setCell ⟨g, 1, none⟩ b') g t #[a', b'] := (h.set_ 0 a').set_ 1 b'
theorem Blk.far4 {g' : Nat} (h : Blk w g t cs) (hg : g ≠ g') (a b c d : Value) : Blk ((((w.setCell ⟨g', 0, none⟩ a).setCell ⟨g', 1, none⟩ b).setCell ⟨g', 2, none⟩ c).setCell ⟨g', 3, none⟩ d) g t cs :=
  (((h.far (p := ⟨g', 0, none⟩) hg a).far (p := ⟨g', 1, none⟩) hg b).far (p := ⟨g', 2, none⟩) hg c).far (p := ⟨g', 3, none⟩) hg d
theorem Blk.far2 {g' : Nat} (h : Blk w g t cs) (hg : g ≠ g') (a b : Value) : Blk ((w.setCell ⟨g', 0, none⟩ a).setCell ⟨g', 1, none⟩ b) g t cs :=
  (h.far (p := ⟨g', 0, none⟩) hg a).far (p := ⟨g', 1, none⟩) hg b
theorem Blk.set4 {a b c d a' b' c' d' : Value} (h : Blk w g t #[a, b, c, d]) : Blk ((((w.setCell ⟨g, 0, none⟩ a').setCell ⟨g, 1, none⟩ b').setCell ⟨g, 2, none⟩ c').setCell ⟨g, 3, none⟩ d') g t #[a', b', c', d'] :=
  (((h.set_ 0 a').set_ 1 b').set_ 2 c').set_ 3 d'
end

theorem frozen_later {w wx : World} {a : Addr} {v : Value} (hb : Below w.heap.size w wx) (h : w.cell? a = some v) (hf : w.frozen? a = false) : wx.frozen? a = false :=
  (hb.frozen (World.block_lt_of_cell? w a h)).trans hf

theorem below_set4 {B g : Nat} {a w : World} (h : Below B a w) (hg : B ≤ g) (x y z u : Value) : Below B a ((((w.setCell ⟨g, 0, none⟩ x).setCell ⟨g, 1, none⟩ y).setCell ⟨g, 2, none⟩ z).setCell ⟨g, 3, none⟩ u) :=
  (((h.setCell (p := ⟨g, 0, none⟩) hg x).setCell (p := ⟨g, 1, none⟩) hg y).setCell (p := ⟨g, 2, none⟩) hg z).setCell (p := ⟨g, 3, none⟩) hg u
theorem below_set2 {B g : Nat} {a w : World} (h : Below B a w) (hg : B ≤ g) (x y : Value) : Below B a ((w.setCell ⟨g, 0, none⟩ x).setCell ⟨g, 1, none⟩ y) :=
  (h.setCell (p := ⟨g, 0, none⟩) hg x).setCell (p := ⟨g, 1, none⟩) hg y
theorem below_only {B g : Nat} {a w w' : World} (h : Below B a w) (k : w.grownBy w' (some g)) (hg : B ≤ g) (hB : B ≤ w.heap.size) : Below B a w' := h.grown k hB (fun x e => by cases e; exact hg)

/-- What a callee keeps below B: each cell and each mark, as the walk wants them. -/
theorem bcell {B : Nat} {W w1 : World} (hb : Below B W w1) : (∀ b o, b < B → w1.cell? ⟨b, o, none⟩ = W.cell? ⟨b, o, none⟩) ∧ (∀ b o, b < B → w1.frozen? ⟨b, o, none⟩ = W.frozen? ⟨b, o, none⟩) :=
  ⟨fun b o h => hb.cell (p := ⟨b, o, none⟩) h, fun b o h => hb.frozen (p := ⟨b, o, none⟩) h⟩

/-- The slice at A holds the bytes bs; its block is below B. -/
def BytesAt (w : World) (B : Nat) (A : Option Addr) (bs : List Nat) : Prop :=
  (∀ x ∈ bs, x < 256) ∧ bs.length ≤ 140737488355328 ∧ (0 < bs.length → ∃ b o, A = some ⟨b, o, none⟩ ∧ b < B ∧ ∀ i, i < bs.length → w.cell? ⟨b, o + i, none⟩ = some (.int .u8 ((byteAt bs i : Nat) : Int)))
theorem BytesAt.below {w w' : World} {B : Nat} {A : Option Addr} {bs : List Nat} (h : BytesAt w B A bs) (hb : Below B w w') : BytesAt w' B A bs :=
  ⟨h.1, h.2.1, fun hn => by
    obtain ⟨b, o, ha, hl, hc⟩ := h.2.2 hn
    exact ⟨b, o, ha, hl, fun i hi => (hb.cell (p := ⟨b, _, none⟩) hl).trans (hc i hi)⟩⟩
theorem BytesAt.drewN {w : World} {B : Nat} {A : Option Addr} {bs : List Nat} (h : BytesAt w B A bs) (n : Nat) : BytesAt (w.drewN n) B A bs := h
theorem BytesAt.drew {w : World} {B : Nat} {A : Option Addr} {bs : List Nat} (h : BytesAt w B A bs) : BytesAt w.drew B A bs := h
theorem BytesAt.more {w : World} {B B' : Nat} {A : Option Addr} {bs : List Nat} (h : BytesAt w B A bs) (hB : B ≤ B') : BytesAt w B' A bs :=
  ⟨h.1, h.2.1, fun hn => by
    obtain ⟨b, o, ha, hl, hc⟩ := h.2.2 hn
    exact ⟨b, o, ha, by omega, hc⟩⟩
theorem BytesAt.grown {w w' : World} {B : Nat} {row : Option Nat} {A : Option Addr} {bs : List Nat} (h : BytesAt w B A bs) (hg : w.grownBy w' row) (hB : B ≤ w.heap.size) (hr : ∀ g, row = some g → B ≤ g) : BytesAt w' B A bs :=
  h.below ⟨hg.os, hg.tape, hg.output, hg.size, fun k hk => hg.block k (by omega) (fun e => by have := hr k e.symm; omega)⟩

theorem BytesAt.only {w w' : World} {B g : Nat} {A : Option Addr} {bs : List Nat} (h : BytesAt w B A bs) (hg : w.grownBy w' (some g)) (hB : B ≤ g) (hl : g < w.heap.size) : BytesAt w' B A bs :=
  h.grown hg (by omega) (fun k e => by cases e; exact hB)

/-- At a place stand the four words of a set. -/
def SetAt (w : World) (b o : Nat) (p : Nat → Bool) : Prop :=
  w.cell? ⟨b, o, none⟩ = some (.int .u64 ((word p 0 : Nat) : Int)) ∧ w.cell? ⟨b, o + 1, none⟩ = some (.int .u64 ((word p 1 : Nat) : Int)) ∧
  w.cell? ⟨b, o + 2, none⟩ = some (.int .u64 ((word p 2 : Nat) : Int)) ∧ w.cell? ⟨b, o + 3, none⟩ = some (.int .u64 ((word p 3 : Nat) : Int))
theorem SetAt.below {w w' : World} {B b o : Nat} {p : Nat → Bool} (h : SetAt w b o p) (hb : Below B w w') (hl : b < B) : SetAt w' b o p :=
  ⟨(hb.cell (p := ⟨b, _, none⟩) hl).trans h.1, (hb.cell (p := ⟨b, _, none⟩) hl).trans h.2.1, (hb.cell (p := ⟨b, _, none⟩) hl).trans h.2.2.1, (hb.cell (p := ⟨b, _, none⟩) hl).trans h.2.2.2⟩
/-- The slice at A holds the sets ps; its block is below B. -/
def SetsAt (w : World) (B : Nat) (A : Option Addr) (ps : List (Nat → Bool)) : Prop :=
  0 < ps.length → ∃ b o, A = some ⟨b, o, none⟩ ∧ b < B ∧ ∀ i p, ps[i]? = some p → SetAt w b (o + i * 4) p

end Go.Proofs.Ytkelkadalikibaa
