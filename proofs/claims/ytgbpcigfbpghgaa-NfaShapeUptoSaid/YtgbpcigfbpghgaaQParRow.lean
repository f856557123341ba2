/-
  Rows of nodes that the parser's functions make while the parser goes on.
-/
import Derived.Test.YtgbpcigfbpghgaaQAtom
namespace Go.Proofs.Ytgbpcigfbpghgaa
open Go.RowKit
set_option linter.unusedSimpArgs false
set_option linter.unusedVariables false
set_option maxRecDepth 100000

/-- The nodes acc stand in the row u; R is left. -/
def RowAt (W : World) (v0 : Value) (p m : Nat) (R : List Lex) (acc : List Nd) (u v : Value) (w : World) : Prop :=
  PAt w p v R m ∧ Still p W v0 w v ∧ Zr p W.heap.size v w ∧ (∃ cs, w.ownsRow (W.heap.size + 1) 37 8 u acc.length cs ∧ CellsAre w (fun b => New (W.heap.size + 1) p v b ∧ some b ≠ u.ownBlock) acc cs) ∧ (∀ g, u.ownBlock = some g → Off p v g)

section
variable {W w w' : World} {v0 u v v' : Value} {p m : Nat} {R R' : List Lex} {acc : List Nd}
theorem RowAt.own (h : RowAt W v0 p m R acc u v w) : ∀ g, u.ownBlock = some g → W.heap.size + 1 ≤ g ∧ g < w.heap.size := by
  obtain ⟨_, _, _, ⟨cs, hr, _⟩, _⟩ := h
  exact hr.lt
theorem RowAt.still (h : RowAt W v0 p m R acc u v w) (hs : Still p w v w' v') (hp : PAt w' p v' R' m) : RowAt W v0 p m R' acc u v' w' := by
  obtain ⟨h1, h2, h3, ⟨cs, hr, hc⟩, ho⟩ := h
  refine ⟨hp, h2.trans hs, h3.still hs, ⟨cs, hs.own hr ho, hc.keep (fun b o hb hl => hs.cell hb.1.2 hl o) (fun b hb hl => ⟨⟨hb.1.1, hs.off hb.1.2 hl⟩, hb.2⟩)⟩, fun g e => hs.off (ho g e) (hr.lt g e).2⟩
theorem RowAt.below (h : RowAt W v0 p m R acc u v w) (hb : Below w.heap.size w w') : RowAt W v0 p m R acc u v w' :=
  h.still (Still.of_below hb (Nat.le_of_lt h.1.lt)) (h.1.below hb)
theorem PAt.row {w w' : World} {p : Nat} {v : Value} {L : List Lex} {m : Nat} {row : Option Nat} (h : PAt w p v L m) (hg : w.grownBy w' row) (hr : ∀ g, row = some g → p < g ∧ Off p v g) : PAt w' p v L m := by
  obtain ⟨A, cap, xs, hb, hc, hl, hr2⟩ := h
  refine ⟨A, cap, xs, hb.grown hg (fun e => by have := (hr p e.symm).1; omega), hc, hl.below ⟨hg.os, hg.tape, hg.output, hg.size, fun k hk => hg.block k (Nat.lt_trans hk hb.lt) (fun e => by have := (hr k e.symm).1; omega)⟩, hr2.kept hg ?_⟩
  cases hvo : v.ownBlock with
  | none => exact .inl rfl
  | some g => exact .inr (fun e => (hr g e.symm).2.2 (by rw [hvo]))
theorem Still.row {row : Option Nat} (h : Still p W v0 w v) (hg : w.grownBy w' row) (hp : p < W.heap.size) (hr : ∀ g, row = some g → W.heap.size ≤ g) : Still p W v0 w' v :=
  ⟨h.1.grown hg (by have := h.1.size; omega) (fun k e => by have := hr k e; omega), fun b hb ho => (hg.block b (Nat.lt_of_lt_of_le hb h.1.size) (fun e => by have := hr b e.symm; omega)).trans (h.2.1 b hb ho), h.2.2⟩
theorem RowAt.append {z : Nd} {B : Option Addr} {cap gg capg : Nat} {o : Obj} {cs : List Value} (h : RowAt W v0 p m R acc u v w) (hp : p < W.heap.size)
    (hz : TreesAt w (fun b => New (W.heap.size + 1) p v b ∧ some b ≠ u.ownBlock) z.kids B) (hcz : z.kids.len ≤ cap) (hcs : CellsAre w (fun b => New (W.heap.size + 1) p v b ∧ some b ≠ u.ownBlock) acc cs)
    (hown : w'.ownsRow (W.heap.size + 1) 37 8 (.slice (some ⟨gg, 0, none⟩) (acc.length + 1) capg) (acc.length + 1) (cs ++ ndCell z B cap)) (hgrow : (w.alloc o).grownBy w' u.ownBlock) (hat : u.ownBlock = some gg ∨ gg = w.heap.size + 1) :
    RowAt W v0 p m R (acc ++ [z]) (.slice (some ⟨gg, 0, none⟩) (acc.length + 1) capg) v w' := by
  have hl := h.own
  obtain ⟨h1, h2, h3, _, ho⟩ := h
  have hW := h2.1.size
  have hb : Below w.heap.size w (w.alloc o) := (Below.refl _ _).alloc (Nat.le_refl _) o
  have hv : ∀ g, v.ownBlock = some g → g < w.heap.size := by
    obtain ⟨_, _, _, _, _, _, hr⟩ := h1
    exact fun g e => (hr.lt g e).2
  have hk : ∀ b i, (New (W.heap.size + 1) p v b ∧ some b ≠ u.ownBlock) → b < w.heap.size → w'.cell? ⟨b, i, none⟩ = w.cell? ⟨b, i, none⟩ := fun b i hb2 hbl =>
    (World.cell?_of_block (hgrow.block b (by simp; omega) hb2.2)).trans (hb.cell (p := ⟨b, i, none⟩) hbl)
  have hq : ∀ b, (New (W.heap.size + 1) p v b ∧ some b ≠ u.ownBlock) → b < w.heap.size → New (W.heap.size + 1) p v b ∧ some b ≠ (Value.slice (some ⟨gg, 0, none⟩) (acc.length + 1) capg).ownBlock := fun b hb2 hbl => ⟨hb2.1, fun e => by
    have e' : b = gg := by simpa [Value.ownBlock] using e
    rcases hat with hh | hh
    · exact hb2.2 (by rw [e', hh])
    · omega⟩
  refine ⟨(h1.below hb).row hgrow (fun g e => ⟨by have := (hl g e).1; omega, ho g e⟩), (h2.more hb (Nat.le_of_lt hp)).row hgrow hp (fun g e => by have := (hl g e).1; omega),
    ⟨(h3.1.below hb h3.1.lt).grown hgrow (fun e => by have := (hl _ e.symm).1; omega), h3.2⟩, ⟨cs ++ ndCell z B cap, by simpa using hown, ?_⟩, fun g e => ?_⟩
  · exact CellsAre.snoc hcz (hz.keep hk hq) (hcs.keep hk hq)
  · obtain rfl : gg = g := by simpa [Value.ownBlock] using e
    rcases hat with hh | hh
    · exact ho _ hh
    · exact ⟨by omega, fun e => by have := hv _ e.symm; omega⟩
theorem RowAt.trees (h : RowAt W v0 p m R acc u v w) : ∃ A cap, u = .slice A acc.length cap ∧ acc.length ≤ cap ∧ TreesAt w (New (W.heap.size + 1) p v) (Trees.of acc) A := by
  have hl := h.own
  obtain ⟨_, _, _, ⟨cs, hr, hc⟩, ho⟩ := h
  exact trees_of hr (hc.keep (fun _ _ _ _ => rfl) (fun b hb _ => hb.1)) (fun g e => ⟨(hl g e).1, ho g e⟩)
end

theorem info_node : (Try.prog.info? 37).map (fun i => (i.zero, i.size, i.bytes)) = some (some (.agg #[.int .i64 0, .int .u64 0, .int .u64 0, .int .u64 0, .int .u64 0, .slice none 0 0, .int .i64 0, .int .i64 0]), 8, 80) := by kernel_rfl

end Go.Proofs.Ytgbpcigfbpghgaa
