/-
  The contract of the reference's piece. The contracts of the reference's part and alternative. The contracts of the reference's part and alternative: the walks.
-/
import Derived.StillTailTactics
import Derived.Test.YtkelkadalikibaaQZ02
namespace Go.Proofs.Ytkelkadalikibaa
open Go.RowKit
set_option linter.unusedSimpArgs false
set_option linter.unusedVariables false
set_option maxRecDepth 100000

/-- A node and the place behind. -/
def RGives (x : Nd) (j : Nat) (w : World) (e : Ending) (w' : World) : Prop :=
  ∃ B cap, e = .returned (.tuple #[ndV x B cap, .int .i64 (j : Int)]) ∧ Below w.heap.size w w' ∧ x.kids.len ≤ cap ∧ TreesAt w' (fun b => w.heap.size ≤ b) x.kids B
/-- The block X holds the node so far, the first new block none yet. -/
def Holds (w : World) (X : Nat) (z : Nd) (B : Option Addr) (cap : Nat) (wr : World) : Prop :=
  Blk wr X 42 (ndA z B cap) ∧ Blk wr w.heap.size 42 #[.int .i64 0, .int .u64 0, .int .u64 0, .int .u64 0, .int .u64 0, .slice none 0 0, .int .i64 0, .int .i64 0] ∧ Below w.heap.size w wr ∧ z.kids.len ≤ cap ∧ TreesAt wr (fun b => w.heap.size + 1 ≤ b ∧ b ≠ X) z.kids B ∧ w.heap.size < X
section
variable {w wr w2 w3 : World} {X : Nat} {z z' : Nd} {B B' : Option Addr} {cap cap' : Nat}
theorem Holds.below (h : Holds w X z B cap wr) (hb : Below wr.heap.size wr w2) : Holds w X z B cap w2 :=
  ⟨h.1.below hb h.1.lt, h.2.1.below hb h.2.1.lt, h.2.2.1.trans (hb.mono h.2.2.1.size), h.2.2.2.1, h.2.2.2.2.1.below hb, h.2.2.2.2.2⟩
theorem Holds.next (h : Holds w X z B cap wr) (hb : Below wr.heap.size wr w2) (hc : z'.kids.len ≤ cap') (ht : TreesAt w2 (fun b => w.heap.size + 1 ≤ b ∧ b ≠ X) z'.kids B')
    (hw : w3 = ((((((((w2.setCell ⟨X, 0, none⟩ (.int .i64 z'.kind)).setCell ⟨X, 1, none⟩ (.int .u64 ((word z'.set.testBit 0 : Nat) : Int))).setCell ⟨X, 2, none⟩ (.int .u64 ((word z'.set.testBit 1 : Nat) : Int))).setCell ⟨X, 3, none⟩ (.int .u64 ((word z'.set.testBit 2 : Nat) : Int))).setCell ⟨X, 4, none⟩ (.int .u64 ((word z'.set.testBit 3 : Nat) : Int))).setCell ⟨X, 5, none⟩ (.slice B' z'.kids.len cap')).setCell ⟨X, 6, none⟩ (.int .i64 z'.lo)).setCell ⟨X, 7, none⟩ (.int .i64 z'.hi))) :
    Holds w X z' B' cap' w3 := by
  have hg : w2.grownBy w3 (some X) := by rw [hw]; exact only_put8 _ _ _ _ _ _ _ _ _ _
  have h2 := h.below hb
  have hX := h.2.2.2.2.2
  refine ⟨by rw [hw]; exact h2.1.put8 _ _ _ _ _ _ _ _, h2.2.1.grown hg (fun e => by have := Option.some.inj e; omega), by rw [hw]; exact below_put8 h2.2.2.1 (Nat.le_of_lt hX) _ _ _ _ _ _ _ _, hc, ht.keep (fun b o hb hl => World.cell?_of_block (hg.block b hl (fun e => hb.2 (Option.some.inj e)))) (fun b hb _ => hb), hX⟩
theorem Holds.drew (h : Holds w X z B cap wr) : Holds w X z B cap wr.drew := ⟨h.1, h.2.1, h.2.2.1.drew, h.2.2.2.1, h.2.2.2.2.1.drew, h.2.2.2.2.2⟩
end
/-- A round of piece. -/
def InPiece (w : World) (X : Nat) (L : List Lex) (r : Nd × List Lex) (i : Value) (wr : World) : Prop :=
  ∃ j : Nat, ∃ z B cap, i = .int .i64 (j : Int) ∧ j ≤ L.length ∧ postsG z (L.drop j) = r ∧ Holds w X z B cap wr
theorem drop_cons {L : List Lex} {k : Nat} {x : Lex} (h : L[k]? = some x) : L.drop k = x :: L.drop (k + 1) := by
  obtain ⟨hlt, e⟩ := List.getElem?_eq_some_iff.1 h
  rw [List.drop_eq_getElem_cons hlt, e]
theorem LexsAt.at' {w : World} {B : Nat} {A : Option Addr} {L : List Lex} (h : LexsAt w B A L) {k : Nat} {x : Lex} (hx : L[k]? = some x) : ∃ b o, A = some ⟨b, o, none⟩ ∧ b < B ∧
    (w.cell? ⟨b, o + k * 8, none⟩ = some (.int .i64 x.kind) ∧ w.cell? ⟨b, o + k * 8 + 1, none⟩ = some (.int .i64 x.place) ∧
    w.cell? ⟨b, o + k * 8 + 2, none⟩ = some (.int .u64 ((word x.set 0 : Nat) : Int)) ∧ w.cell? ⟨b, o + k * 8 + 3, none⟩ = some (.int .u64 ((word x.set 1 : Nat) : Int)) ∧ w.cell? ⟨b, o + k * 8 + 4, none⟩ = some (.int .u64 ((word x.set 2 : Nat) : Int)) ∧ w.cell? ⟨b, o + k * 8 + 5, none⟩ = some (.int .u64 ((word x.set 3 : Nat) : Int)) ∧
    w.cell? ⟨b, o + k * 8 + 6, none⟩ = some (.int .i64 x.lo) ∧ w.cell? ⟨b, o + k * 8 + 7, none⟩ = some (.int .i64 x.hi)) := by
  obtain ⟨b, o, ha, hl, hc⟩ := h (by have := (List.getElem?_eq_some_iff.1 hx).1; omega)
  exact ⟨b, o, ha, hl, hc k x hx⟩
/-- What comes of the loop. -/
def Rd07 (L : List Lex) (r : Nd × List Lex) (w : World) : Ending → World → Prop := RGives r.1 (L.length - r.2.length) w

theorem Holds.done {w wr w' : World} {X : Nat} {z : Nd} {B : Option Addr} {cap : Nat} (h : Holds w X z B cap wr)
    (hw : w' = ((((((((wr.setCell ⟨w.heap.size, 0, none⟩ (.int .i64 z.kind)).setCell ⟨w.heap.size, 1, none⟩ (.int .u64 ((word z.set.testBit 0 : Nat) : Int))).setCell ⟨w.heap.size, 2, none⟩ (.int .u64 ((word z.set.testBit 1 : Nat) : Int))).setCell ⟨w.heap.size, 3, none⟩ (.int .u64 ((word z.set.testBit 2 : Nat) : Int))).setCell ⟨w.heap.size, 4, none⟩ (.int .u64 ((word z.set.testBit 3 : Nat) : Int))).setCell ⟨w.heap.size, 5, none⟩ (.slice B z.kids.len cap)).setCell ⟨w.heap.size, 6, none⟩ (.int .i64 z.lo)).setCell ⟨w.heap.size, 7, none⟩ (.int .i64 z.hi))) :
    Blk w' w.heap.size 42 (ndA z B cap) ∧ Below w.heap.size w w' ∧ TreesAt w' (fun b => w.heap.size ≤ b) z.kids B := by
  have hg : wr.grownBy w' (some w.heap.size) := by rw [hw]; exact only_put8 _ _ _ _ _ _ _ _ _ _
  refine ⟨by rw [hw]; exact h.2.1.put8 _ _ _ _ _ _ _ _, by rw [hw]; exact below_put8 h.2.2.1 (Nat.le_refl _) _ _ _ _ _ _ _ _, h.2.2.2.2.1.keep (fun b o hb hl => World.cell?_of_block (hg.block b hl (fun e => by have := Option.some.inj e; have := hb.1; omega))) (fun b hb _ => by have := hb.1; omega)⟩
/-- The row of one node that a sign is laid over. -/
theorem Holds.one {w wr : World} {X : Nat} {z : Nd} {B : Option Addr} {cap : Nat} (h : Holds w X z B cap wr) : TreesAt (wr.alloc (.cells (ndA z B cap) 42)) (fun b => w.heap.size + 1 ≤ b ∧ b ≠ X) (Trees.of [z]) (some ⟨wr.heap.size, 0, none⟩) := by
  have h1 := h.2.1.lt
  have h2 := h.1.lt
  exact TreesAt.one (Blk.new _ _ _) h.2.2.2.1 (h.2.2.2.2.1.below ((Below.refl _ _).alloc (Nat.le_refl _) _)) ⟨by omega, by omega⟩

set_option maxHeartbeats 8000000 in
theorem piece_set (A : Option Addr) (cap0 : Nat) (L : List Lex) (i : Nat) (x : Lex) (w : World) (hx : L[i]? = some x) (h1 : x.kind = 1) (hA : LexsAt w w.heap.size A L) (hlen : L.length ≤ 100000) :
    Calls Try.prog 88 #[.slice A L.length cap0, .int .i64 (i : Int)] w (Rd07 L (postsG (leafN (maskOf x.set)) (L.drop (i + 1))) w) := by
  generalize hr : postsG (leafN (maskOf x.set)) (L.drop (i + 1)) = r
  have Hr := Lib.hid hr
  clear hr
  have hlt := (List.getElem?_eq_some_iff.1 hx).1
  obtain ⟨b, o, rfl, hbl, hc⟩ := hA.at' hx
  have hdi : (i : Int) < (L.length : Int) := by omega
  have hb1 : Below w.heap.size w (w.alloc (.cells #[.int .i64 0, .int .u64 0, .int .u64 0, .int .u64 0, .int .u64 0, .slice none 0 0, .int .i64 0, .int .i64 0] 42)) := (Below.refl _ _).alloc (Nat.le_refl _) _
  have HA := Lib.hid hA
  obtain ⟨c0, _, c2, c3, c4, c5, _⟩ := hc
  rw [h1] at c0
  have c3' : w.cell? ⟨b, o + i * 8 + 2 + 1, none⟩ = some (.int .u64 ((word x.set 1 : Nat) : Int)) := c3
  have c4' : w.cell? ⟨b, o + i * 8 + 2 + 2, none⟩ = some (.int .u64 ((word x.set 2 : Nat) : Int)) := c4
  have c5' : w.cell? ⟨b, o + i * 8 + 2 + 3, none⟩ = some (.int .u64 ((word x.set 3 : Nat) : Int)) := c5
  have HZ := Lib.hid (Blk.new w 42 #[.int .i64 0, .int .u64 0, .int .u64 0, .int .u64 0, .int .u64 0, .slice none 0 0, .int .i64 0, .int .i64 0])
  have HB := Lib.hid hb1
  have Hx := Lib.hid hx
  clear hA hb1 c3 c4 c5 hx h1
  go_enter Try.func88, Try.ntmps88
  go_wp2_with fail
  refine (nbytes_any x.set _).mono ?_
  rintro e w2 ⟨rfl, hb2⟩
  have hc0 := (hb2.cell (p := ⟨b, o + i * 8, none⟩) (by simp; omega)).trans ((HB.out.cell (p := ⟨b, o + i * 8, none⟩) hbl).trans c0)
  have hw2 : w.heap.size < w2.heap.size := by have := hb2.size; simp at this; omega
  have hbl2 : b < w2.heap.size := by omega
  have H0 : Hid (InPiece w w2.heap.size L r (.int .i64 ((i : Int) + 1)) (w2.alloc (.cells (ndA (leafN (maskOf x.set)) none 0) 42))) :=
    Lib.hid ⟨i + 1, leafN (maskOf x.set), none, 0, by go_num, by omega, Hr.out, Blk.new _ _ _, (HZ.out.below hb2 HZ.out.lt).alloc _, (HB.out.trans (hb2.mono HB.out.size)).alloc (by omega) _, Nat.le_refl _, trivial, hw2⟩
  clear hb2 HZ HB c0 c2 c3' c4' c5'
  have hv3 : ndV (leafN (maskOf x.set)) none 0 = .agg #[.int .i64 3, .int .u64 ((word ((maskOf x.set).testBit) 0 : Nat) : Int), .int .u64 ((word ((maskOf x.set).testBit) 1 : Nat) : Int), .int .u64 ((word ((maskOf x.set).testBit) 2 : Nat) : Int), .int .u64 ((word ((maskOf x.set).testBit) 3 : Nat) : Int), .slice none 0 0, .int .i64 0, .int .i64 0] := rfl
  rw [hv3]
  clear hv3
  dsimp only
  go_wp2
  go_loopw [7] (fun i wr => InPiece w w2.heap.size L r i wr) (fun i _ => L.length - (intOf i).toNat)
  case atStart => exact H0.out
  case round =>
    clear H0 hc0
    generalize hX : w2.heap.size = X at *
    clear hX
    obtain ⟨j, z, B, cap, rfl, hj, hz, hH⟩ := hrel
    have HH := Lib.hid hH
    have hzl := hH.2.1.lt
    have hXl := hH.1.lt
    have hwX := hH.2.2.2.2.2
    have x0 : wr.cell? ⟨X, 0, none⟩ = some (.int .i64 z.kind) := hH.1.cell 0
    have x1 : wr.cell? ⟨X, 1, none⟩ = some (.int .u64 ((word z.set.testBit 0 : Nat) : Int)) := hH.1.cell 1
    have x2 : wr.cell? ⟨X, 2, none⟩ = some (.int .u64 ((word z.set.testBit 1 : Nat) : Int)) := hH.1.cell 2
    have x3 : wr.cell? ⟨X, 3, none⟩ = some (.int .u64 ((word z.set.testBit 2 : Nat) : Int)) := hH.1.cell 3
    have x4 : wr.cell? ⟨X, 4, none⟩ = some (.int .u64 ((word z.set.testBit 3 : Nat) : Int)) := hH.1.cell 4
    have x5 : wr.cell? ⟨X, 5, none⟩ = some (.slice B z.kids.len cap) := hH.1.cell 5
    have x6 : wr.cell? ⟨X, 6, none⟩ = some (.int .i64 z.lo) := hH.1.cell 6
    have x7 : wr.cell? ⟨X, 7, none⟩ = some (.int .i64 z.hi) := hH.1.cell 7
    have f0 := hH.1.frozen 0
    have f1 := hH.1.frozen 1
    have f2 := hH.1.frozen 2
    have f3 := hH.1.frozen 3
    have f4 := hH.1.frozen 4
    have f5 := hH.1.frozen 5
    have f6 := hH.1.frozen 6
    have f7 := hH.1.frozen 7
    have y0 : wr.cell? ⟨w.heap.size, 0, none⟩ = some (.int .i64 0) := hH.2.1.cell 0
    have y1 : wr.cell? ⟨w.heap.size, 1, none⟩ = some (.int .u64 0) := hH.2.1.cell 1
    have y2 : wr.cell? ⟨w.heap.size, 2, none⟩ = some (.int .u64 0) := hH.2.1.cell 2
    have y3 : wr.cell? ⟨w.heap.size, 3, none⟩ = some (.int .u64 0) := hH.2.1.cell 3
    have y4 : wr.cell? ⟨w.heap.size, 4, none⟩ = some (.int .u64 0) := hH.2.1.cell 4
    have y5 : wr.cell? ⟨w.heap.size, 5, none⟩ = some (.slice none 0 0) := hH.2.1.cell 5
    have y6 : wr.cell? ⟨w.heap.size, 6, none⟩ = some (.int .i64 0) := hH.2.1.cell 6
    have y7 : wr.cell? ⟨w.heap.size, 7, none⟩ = some (.int .i64 0) := hH.2.1.cell 7
    have g0 := hH.2.1.frozen 0
    have g1 := hH.2.1.frozen 1
    have g2 := hH.2.1.frozen 2
    have g3 := hH.2.1.frozen 3
    have g4 := hH.2.1.frozen 4
    have g5 := hH.2.1.frozen 5
    have g6 := hH.2.1.frozen 6
    have g7 := hH.2.1.frozen 7
    by_cases hlt : j < L.length
    · obtain ⟨y, hy⟩ : ∃ y, L[j]? = some y := ⟨_, List.getElem?_eq_getElem hlt⟩
      obtain ⟨b', o', hbo, hbl', c0, _, _, _, _, _, c6, c7⟩ := ((HA.out.below hH.2.2.1).more hH.2.2.1.size).at' hy
      obtain ⟨rfl, rfl⟩ : b = b' ∧ o = o' := by simpa using hbo
      have hdl : (j : Int) < (L.length : Int) := by omega
      clear hbo
      rw [drop_cons hy] at hz
      clear hH hy
      by_cases hpost : isPost y.kind = true
      · have hk5 := (isPost_iff _).1 hpost
        have HR := Lib.hid ((postsG_go hpost).symm.trans hz)
        have hk : y.kind = 5 ∨ y.kind = 6 ∨ y.kind = 7 ∨ y.kind = 8 := by omega
        clear hpost hz g0 g1 g2 g3 g4 g5 g6 g7 y0 y1 y2 y3 y4 y5 y6 y7 hk5
        rcases hk with hk | hk | hk | hk
        · have HZ := Lib.hid (show postsG ⟨6, 0, Trees.of [z], 0, 0⟩ (L.drop (j + 1)) = r by rw [← HR.out]; unfold postN; rw [if_neg (by omega), hk]; rfl)
          have HO := Lib.hid (nof_go 6 _ (some ⟨wr.heap.size, 0, none⟩) 1 [z] _ (by simp) (by simp) HH.out.one)
          rw [hk] at c0
          go_wp2_with fail
          refine HO.out.mono ?_
          rintro e w2 ⟨B2, cap2, rfl, hb2, hc2, ht2⟩
          have hb2' := ((Below.refl wr.heap.size wr).alloc (Nat.le_refl _) (.cells (ndA z B cap) 42)).trans (hb2.mono (by simp))
          have hH2 := HH.out.below hb2'
          have x0 : w2.cell? ⟨X, 0, none⟩ = some (.int .i64 z.kind) := hH2.1.cell 0
          have x1 : w2.cell? ⟨X, 1, none⟩ = some (.int .u64 ((word z.set.testBit 0 : Nat) : Int)) := hH2.1.cell 1
          have x2 : w2.cell? ⟨X, 2, none⟩ = some (.int .u64 ((word z.set.testBit 1 : Nat) : Int)) := hH2.1.cell 2
          have x3 : w2.cell? ⟨X, 3, none⟩ = some (.int .u64 ((word z.set.testBit 2 : Nat) : Int)) := hH2.1.cell 3
          have x4 : w2.cell? ⟨X, 4, none⟩ = some (.int .u64 ((word z.set.testBit 3 : Nat) : Int)) := hH2.1.cell 4
          have x5 : w2.cell? ⟨X, 5, none⟩ = some (.slice B z.kids.len cap) := hH2.1.cell 5
          have x6 : w2.cell? ⟨X, 6, none⟩ = some (.int .i64 z.lo) := hH2.1.cell 6
          have x7 : w2.cell? ⟨X, 7, none⟩ = some (.int .i64 z.hi) := hH2.1.cell 7
          have f0 := hH2.1.frozen 0
          have f1 := hH2.1.frozen 1
          have f2 := hH2.1.frozen 2
          have f3 := hH2.1.frozen 3
          have f4 := hH2.1.frozen 4
          have f5 := hH2.1.frozen 5
          have f6 := hH2.1.frozen 6
          have f7 := hH2.1.frozen 7

          have HT2 := Lib.hid (ht2.weak (Q := fun b => w.heap.size + 1 ≤ b ∧ b ≠ X) (fun b hb _ => by rcases hb with h | h; exact h; simp at h; omega))
          have HB2 := Lib.hid hb2'
          clear hb2 hb2' hH2 ht2 HO
          rw [ndV_plain]
          dsimp only
          go_wp2
          go_light
          go_roundw
          case rel => exact ⟨j + 1, _, B2, cap2, by go_num, by omega, HZ.out, HH.out.next (z' := ⟨6, 0, Trees.of [z], 0, 0⟩) HB2.out hc2 HT2.out (by simp only [word_zero]; rfl)⟩
          case measure => simp [intOf]; omega
        · have HZ := Lib.hid (show postsG ⟨7, 0, Trees.of [z], 0, 0⟩ (L.drop (j + 1)) = r by rw [← HR.out]; unfold postN; rw [if_neg (by omega), hk]; rfl)
          have HO := Lib.hid (nof_go 7 _ (some ⟨wr.heap.size, 0, none⟩) 1 [z] _ (by simp) (by simp) HH.out.one)
          rw [hk] at c0
          go_wp2_with fail
          refine HO.out.mono ?_
          rintro e w2 ⟨B2, cap2, rfl, hb2, hc2, ht2⟩
          have hb2' := ((Below.refl wr.heap.size wr).alloc (Nat.le_refl _) (.cells (ndA z B cap) 42)).trans (hb2.mono (by simp))
          have hH2 := HH.out.below hb2'
          have x0 : w2.cell? ⟨X, 0, none⟩ = some (.int .i64 z.kind) := hH2.1.cell 0
          have x1 : w2.cell? ⟨X, 1, none⟩ = some (.int .u64 ((word z.set.testBit 0 : Nat) : Int)) := hH2.1.cell 1
          have x2 : w2.cell? ⟨X, 2, none⟩ = some (.int .u64 ((word z.set.testBit 1 : Nat) : Int)) := hH2.1.cell 2
          have x3 : w2.cell? ⟨X, 3, none⟩ = some (.int .u64 ((word z.set.testBit 2 : Nat) : Int)) := hH2.1.cell 3
          have x4 : w2.cell? ⟨X, 4, none⟩ = some (.int .u64 ((word z.set.testBit 3 : Nat) : Int)) := hH2.1.cell 4
          have x5 : w2.cell? ⟨X, 5, none⟩ = some (.slice B z.kids.len cap) := hH2.1.cell 5
          have x6 : w2.cell? ⟨X, 6, none⟩ = some (.int .i64 z.lo) := hH2.1.cell 6
          have x7 : w2.cell? ⟨X, 7, none⟩ = some (.int .i64 z.hi) := hH2.1.cell 7
          have f0 := hH2.1.frozen 0
          have f1 := hH2.1.frozen 1
          have f2 := hH2.1.frozen 2
          have f3 := hH2.1.frozen 3
          have f4 := hH2.1.frozen 4
          have f5 := hH2.1.frozen 5
          have f6 := hH2.1.frozen 6
          have f7 := hH2.1.frozen 7

          have HT2 := Lib.hid (ht2.weak (Q := fun b => w.heap.size + 1 ≤ b ∧ b ≠ X) (fun b hb _ => by rcases hb with h | h; exact h; simp at h; omega))
          have HB2 := Lib.hid hb2'
          clear hb2 hb2' hH2 ht2 HO
          rw [ndV_plain]
          dsimp only
          go_wp2
          go_light
          go_roundw
          case rel => exact ⟨j + 1, _, B2, cap2, by go_num, by omega, HZ.out, HH.out.next (z' := ⟨7, 0, Trees.of [z], 0, 0⟩) HB2.out hc2 HT2.out (by simp only [word_zero]; rfl)⟩
          case measure => simp [intOf]; omega
        · have HZ := Lib.hid (show postsG ⟨8, 0, Trees.of [z], 0, 0⟩ (L.drop (j + 1)) = r by rw [← HR.out]; unfold postN; rw [if_neg (by omega), hk]; rfl)
          have HO := Lib.hid (nof_go 8 _ (some ⟨wr.heap.size, 0, none⟩) 1 [z] _ (by simp) (by simp) HH.out.one)
          rw [hk] at c0
          go_wp2_with fail
          refine HO.out.mono ?_
          rintro e w2 ⟨B2, cap2, rfl, hb2, hc2, ht2⟩
          have hb2' := ((Below.refl wr.heap.size wr).alloc (Nat.le_refl _) (.cells (ndA z B cap) 42)).trans (hb2.mono (by simp))
          have hH2 := HH.out.below hb2'
          have x0 : w2.cell? ⟨X, 0, none⟩ = some (.int .i64 z.kind) := hH2.1.cell 0
          have x1 : w2.cell? ⟨X, 1, none⟩ = some (.int .u64 ((word z.set.testBit 0 : Nat) : Int)) := hH2.1.cell 1
          have x2 : w2.cell? ⟨X, 2, none⟩ = some (.int .u64 ((word z.set.testBit 1 : Nat) : Int)) := hH2.1.cell 2
          have x3 : w2.cell? ⟨X, 3, none⟩ = some (.int .u64 ((word z.set.testBit 2 : Nat) : Int)) := hH2.1.cell 3
          have x4 : w2.cell? ⟨X, 4, none⟩ = some (.int .u64 ((word z.set.testBit 3 : Nat) : Int)) := hH2.1.cell 4
          have x5 : w2.cell? ⟨X, 5, none⟩ = some (.slice B z.kids.len cap) := hH2.1.cell 5
          have x6 : w2.cell? ⟨X, 6, none⟩ = some (.int .i64 z.lo) := hH2.1.cell 6
          have x7 : w2.cell? ⟨X, 7, none⟩ = some (.int .i64 z.hi) := hH2.1.cell 7
          have f0 := hH2.1.frozen 0
          have f1 := hH2.1.frozen 1
          have f2 := hH2.1.frozen 2
          have f3 := hH2.1.frozen 3
          have f4 := hH2.1.frozen 4
          have f5 := hH2.1.frozen 5
          have f6 := hH2.1.frozen 6
          have f7 := hH2.1.frozen 7

          have HT2 := Lib.hid (ht2.weak (Q := fun b => w.heap.size + 1 ≤ b ∧ b ≠ X) (fun b hb _ => by rcases hb with h | h; exact h; simp at h; omega))
          have HB2 := Lib.hid hb2'
          clear hb2 hb2' hH2 ht2 HO
          rw [ndV_plain]
          dsimp only
          go_wp2
          go_light
          go_roundw
          case rel => exact ⟨j + 1, _, B2, cap2, by go_num, by omega, HZ.out, HH.out.next (z' := ⟨8, 0, Trees.of [z], 0, 0⟩) HB2.out hc2 HT2.out (by simp only [word_zero]; rfl)⟩
          case measure => simp [intOf]; omega
        · have HZ := Lib.hid (show postsG ⟨9, 0, Trees.of [z], y.lo, y.hi⟩ (L.drop (j + 1)) = r by rw [← HR.out]; unfold postN; rw [if_pos hk])
          rw [hk] at c0
          obtain ⟨W1, hW1⟩ : ∃ W1, wr.alloc (.cells #[.int .i64 z.kind, .int .u64 ((word z.set.testBit 0 : Nat) : Int), .int .u64 ((word z.set.testBit 1 : Nat) : Int), .int .u64 ((word z.set.testBit 2 : Nat) : Int), .int .u64 ((word z.set.testBit 3 : Nat) : Int), .slice B z.kids.len cap, .int .i64 z.lo, .int .i64 z.hi] 42) = W1 := ⟨_, rfl⟩
          have hb1 : Below wr.heap.size wr W1 := by rw [← hW1]; exact (Below.refl wr.heap.size wr).alloc (Nat.le_refl _) _
          have hH1 := HH.out.below hb1
          have HO := Lib.hid (nrep_go (fun b => w.heap.size + 1 ≤ b ∧ b ≠ X) z B cap y.lo y.hi W1.drew hH1.2.2.2.1 hH1.drew.2.2.2.2.1)
          have c6 := (hb1.cell (p := ⟨b, o + j * 8 + 6, none⟩) hbl').trans c6
          have c7 := (hb1.cell (p := ⟨b, o + j * 8 + 7, none⟩) hbl').trans c7
          have c0 := (hb1.cell (p := ⟨b, o + j * 8, none⟩) hbl').trans c0
          have HW1 := Lib.hid hW1
          have HH1 := Lib.hid hH1
          have HB1 := Lib.hid hb1
          go_wp2
          clear hW1 hb1 x0 x1 x2 x3 x4 x5 x6 x7 f0 f1 f2 f3 f4 f5 f6 f7 c0
          have x0 : W1.cell? ⟨X, 0, none⟩ = some (.int .i64 z.kind) := hH1.1.cell 0
          have x1 : W1.cell? ⟨X, 1, none⟩ = some (.int .u64 ((word z.set.testBit 0 : Nat) : Int)) := hH1.1.cell 1
          have x2 : W1.cell? ⟨X, 2, none⟩ = some (.int .u64 ((word z.set.testBit 1 : Nat) : Int)) := hH1.1.cell 2
          have x3 : W1.cell? ⟨X, 3, none⟩ = some (.int .u64 ((word z.set.testBit 2 : Nat) : Int)) := hH1.1.cell 3
          have x4 : W1.cell? ⟨X, 4, none⟩ = some (.int .u64 ((word z.set.testBit 3 : Nat) : Int)) := hH1.1.cell 4
          have x5 : W1.cell? ⟨X, 5, none⟩ = some (.slice B z.kids.len cap) := hH1.1.cell 5
          have x6 : W1.cell? ⟨X, 6, none⟩ = some (.int .i64 z.lo) := hH1.1.cell 6
          have x7 : W1.cell? ⟨X, 7, none⟩ = some (.int .i64 z.hi) := hH1.1.cell 7
          have f0 := hH1.1.frozen 0
          have f1 := hH1.1.frozen 1
          have f2 := hH1.1.frozen 2
          have f3 := hH1.1.frozen 3
          have f4 := hH1.1.frozen 4
          have f5 := hH1.1.frozen 5
          have f6 := hH1.1.frozen 6
          have f7 := hH1.1.frozen 7
          clear hH1
          go_still_tail 11, (by kernel_rfl)
          change wpList _ _ _ _ _ W1.drew
          clear c0 c6 c7
          go_wp2_with fail
          refine HO.out.mono ?_
          rintro e w3 ⟨B2, cap2, rfl, hb2, hc2, ht2⟩
          have hb2' := ((HB1.out.drew).trans (hb2.mono (by have := HB1.out.size; exact this)))
          have hH2 := HH.out.below hb2'
          have hX1 := HH1.out.1.lt
          clear x0 x1 x2 x3 x4 x5 x6 x7 f0 f1 f2 f3 f4 f5 f6 f7
          have x0 : w3.cell? ⟨X, 0, none⟩ = some (.int .i64 z.kind) := hH2.1.cell 0
          have x1 : w3.cell? ⟨X, 1, none⟩ = some (.int .u64 ((word z.set.testBit 0 : Nat) : Int)) := hH2.1.cell 1
          have x2 : w3.cell? ⟨X, 2, none⟩ = some (.int .u64 ((word z.set.testBit 1 : Nat) : Int)) := hH2.1.cell 2
          have x3 : w3.cell? ⟨X, 3, none⟩ = some (.int .u64 ((word z.set.testBit 2 : Nat) : Int)) := hH2.1.cell 3
          have x4 : w3.cell? ⟨X, 4, none⟩ = some (.int .u64 ((word z.set.testBit 3 : Nat) : Int)) := hH2.1.cell 4
          have x5 : w3.cell? ⟨X, 5, none⟩ = some (.slice B z.kids.len cap) := hH2.1.cell 5
          have x6 : w3.cell? ⟨X, 6, none⟩ = some (.int .i64 z.lo) := hH2.1.cell 6
          have x7 : w3.cell? ⟨X, 7, none⟩ = some (.int .i64 z.hi) := hH2.1.cell 7
          have f0 := hH2.1.frozen 0
          have f1 := hH2.1.frozen 1
          have f2 := hH2.1.frozen 2
          have f3 := hH2.1.frozen 3
          have f4 := hH2.1.frozen 4
          have f5 := hH2.1.frozen 5
          have f6 := hH2.1.frozen 6
          have f7 := hH2.1.frozen 7
          have HT2 := Lib.hid (ht2.weak (Q := fun b => w.heap.size + 1 ≤ b ∧ b ≠ X) (fun b hb _ => by rcases hb with h | h; exact h; exact ⟨by have := HB1.out.size; have : W1.heap.size ≤ b := h; omega, by have : W1.heap.size ≤ b := h; omega⟩))
          have HB2 := Lib.hid hb2'
          clear hb2 hb2' hH2 ht2 HO
          have hv9 : ndV ⟨9, 0, Trees.of [z], y.lo, y.hi⟩ B2 cap2 = .agg #[.int .i64 9, .int .u64 0, .int .u64 0, .int .u64 0, .int .u64 0, .slice B2 (Trees.of [z]).len cap2, .int .i64 y.lo, .int .i64 y.hi] := ndV_plain _ _ _ _ _ _
          rw [hv9]
          clear hv9
          dsimp only
          go_wp2
          go_light
          go_roundw
          case rel => exact ⟨j + 1, _, B2, cap2, by go_num, by omega, HZ.out, HH.out.next (z' := ⟨9, 0, Trees.of [z], y.lo, y.hi⟩) HB2.out hc2 HT2.out (by simp only [word_zero]; rfl)⟩
          case measure => simp [intOf]; omega
      · have hk5 : ¬ (5 ≤ y.kind ∧ y.kind ≤ 8) := fun h => hpost ((isPost_iff _).2 h)
        have k5 : (y.kind == 5) = false := by simp; omega
        have k6 : (y.kind == 6) = false := by simp; omega
        have k7 : (y.kind == 7) = false := by simp; omega
        have k8 : (y.kind == 8) = false := by simp; omega
        have HR := Lib.hid ((postsG_stop (by simpa using hpost)).symm.trans hz)
        have hjl : L.length - (y :: L.drop (j + 1)).length = j := by simp; omega
        have Hjl := Lib.hid hjl
        clear hz hpost hk5 hjl
        go_wp2
        go_light
        have hF := HH.out.done rfl
        rw [← HR.out]
        exact bodyPost_ret (ret_atom Try.results88 rfl rfl (Blk.alloc hF.1 _)) rfl ⟨B, cap, by show _ = Ending.returned (.tuple #[_, .int .i64 ((L.length - (y :: L.drop (j + 1)).length : Nat) : Int)]); rw [Hjl.out]; rfl, hF.2.1.alloc hF.2.1.size _, HH.out.2.2.2.1, hF.2.2.below ((Below.refl _ _).alloc (Nat.le_refl _) _)⟩
    · have hdr : L.drop j = [] := List.drop_eq_nil_of_le (by omega)
      rw [hdr] at hz
      have HR := Lib.hid hz
      have Hjl := Lib.hid (show L.length - ([] : List Lex).length = j by simp; omega)
      have hdl : ¬ (j : Int) < (L.length : Int) := by omega
      clear hz hH hdr
      go_wp2
      go_light
      have hF := HH.out.done rfl
      rw [← HR.out]
      exact bodyPost_ret (ret_atom Try.results88 rfl rfl hF.1) rfl ⟨B, cap, by show _ = Ending.returned (.tuple #[_, .int .i64 ((L.length - ([] : List Lex).length : Nat) : Int)]); rw [Hjl.out]; rfl, hF.2.1, HH.out.2.2.2.1, hF.2.2⟩


set_option maxHeartbeats 8000000 in
theorem piece_open (A : Option Addr) (cap0 : Nat) (L : List Lex) (i j0 : Nat) (y0 : Lex) (x : Nd) (w : World) (hx : L[i]? = some y0) (h2 : y0.kind = 2) (hA : LexsAt w w.heap.size A L) (hlen : L.length ≤ 100000) (hj0 : j0 + 1 ≤ L.length)
    (halt : ∀ w1, LexsAt w1 w1.heap.size A L → Calls Try.prog 29 #[.slice A L.length cap0, .int .i64 ((i : Int) + 1)] w1 (RGives x j0 w1)) :
    Calls Try.prog 88 #[.slice A L.length cap0, .int .i64 (i : Int)] w (Rd07 L (postsG x (L.drop (j0 + 1))) w) := by
  generalize hr : postsG x (L.drop (j0 + 1)) = r
  have Hr := Lib.hid hr
  clear hr
  have hlt := (List.getElem?_eq_some_iff.1 hx).1
  obtain ⟨b, o, rfl, hbl, hc⟩ := hA.at' hx
  have hdi : (i : Int) < (L.length : Int) := by omega
  have hb1 : Below w.heap.size w (w.alloc (.cells #[.int .i64 0, .int .u64 0, .int .u64 0, .int .u64 0, .int .u64 0, .slice none 0 0, .int .i64 0, .int .i64 0] 42)) := (Below.refl _ _).alloc (Nat.le_refl _) _
  have HA := Lib.hid hA
  obtain ⟨c0, _, c2, c3, c4, c5, _⟩ := hc
  rw [h2] at c0
  have c3' : w.cell? ⟨b, o + i * 8 + 2 + 1, none⟩ = some (.int .u64 ((word y0.set 1 : Nat) : Int)) := c3
  have c4' : w.cell? ⟨b, o + i * 8 + 2 + 2, none⟩ = some (.int .u64 ((word y0.set 2 : Nat) : Int)) := c4
  have c5' : w.cell? ⟨b, o + i * 8 + 2 + 3, none⟩ = some (.int .u64 ((word y0.set 3 : Nat) : Int)) := c5
  have HZ := Lib.hid (Blk.new w 42 #[.int .i64 0, .int .u64 0, .int .u64 0, .int .u64 0, .int .u64 0, .slice none 0 0, .int .i64 0, .int .i64 0])
  have HB := Lib.hid hb1
  have Halt := Lib.hid halt
  clear hA hb1 c3 c4 c5 hx h2 halt
  go_enter Try.func88, Try.ntmps88
  go_wp2_with fail
  refine (nbytes_any y0.set _).mono ?_
  rintro e w2 ⟨rfl, hb2⟩
  have hc0 := (hb2.cell (p := ⟨b, o + i * 8, none⟩) (by simp; omega)).trans ((HB.out.cell (p := ⟨b, o + i * 8, none⟩) hbl).trans c0)
  have hw2 : w.heap.size < w2.heap.size := by have := hb2.size; simp at this; omega
  have hbl2 : b < w2.heap.size := by omega
  have hH3 : Holds w w2.heap.size (leafN (maskOf y0.set)) none 0 (w2.alloc (.cells (ndA (leafN (maskOf y0.set)) none 0) 42)) :=
    ⟨Blk.new _ _ _, (HZ.out.below hb2 HZ.out.lt).alloc _, (HB.out.trans (hb2.mono HB.out.size)).alloc (by omega) _, Nat.le_refl _, trivial, hw2⟩
  have HH3 := Lib.hid hH3
  have HL3 := Lib.hid ((HA.out.below hH3.2.2.1).more hH3.2.2.1.size)
  clear hb2 HZ HB c0 c2 c3' c4' c5' hH3
  have hv3 : ndV (leafN (maskOf y0.set)) none 0 = .agg #[.int .i64 3, .int .u64 ((word ((maskOf y0.set).testBit) 0 : Nat) : Int), .int .u64 ((word ((maskOf y0.set).testBit) 1 : Nat) : Int), .int .u64 ((word ((maskOf y0.set).testBit) 2 : Nat) : Int), .int .u64 ((word ((maskOf y0.set).testBit) 3 : Nat) : Int), .slice none 0 0, .int .i64 0, .int .i64 0] := rfl
  rw [hv3]
  clear hv3
  dsimp only
  go_wp2_with fail
  refine (Halt.out _ HL3.out).mono ?_
  rintro e w4 ⟨B4, cap4, rfl, hb4, hc4, ht4⟩
  have hH4 := HH3.out.below hb4
  have hX3 := HH3.out.1.lt
  have hZ3 := HH3.out.2.1.lt
  have x0 : w4.cell? ⟨w2.heap.size, 0, none⟩ = some (.int .i64 3) := hH4.1.cell 0
  have x1 : w4.cell? ⟨w2.heap.size, 1, none⟩ = some (.int .u64 ((word (maskOf y0.set).testBit 0 : Nat) : Int)) := hH4.1.cell 1
  have x2 : w4.cell? ⟨w2.heap.size, 2, none⟩ = some (.int .u64 ((word (maskOf y0.set).testBit 1 : Nat) : Int)) := hH4.1.cell 2
  have x3 : w4.cell? ⟨w2.heap.size, 3, none⟩ = some (.int .u64 ((word (maskOf y0.set).testBit 2 : Nat) : Int)) := hH4.1.cell 3
  have x4 : w4.cell? ⟨w2.heap.size, 4, none⟩ = some (.int .u64 ((word (maskOf y0.set).testBit 3 : Nat) : Int)) := hH4.1.cell 4
  have x5 : w4.cell? ⟨w2.heap.size, 5, none⟩ = some (.slice none 0 0) := hH4.1.cell 5
  have x6 : w4.cell? ⟨w2.heap.size, 6, none⟩ = some (.int .i64 0) := hH4.1.cell 6
  have x7 : w4.cell? ⟨w2.heap.size, 7, none⟩ = some (.int .i64 0) := hH4.1.cell 7
  have f0 := hH4.1.frozen 0
  have f1 := hH4.1.frozen 1
  have f2 := hH4.1.frozen 2
  have f3 := hH4.1.frozen 3
  have f4 := hH4.1.frozen 4
  have f5 := hH4.1.frozen 5
  have f6 := hH4.1.frozen 6
  have f7 := hH4.1.frozen 7
  have HT4 := Lib.hid (ht4.weak (Q := fun b => w.heap.size + 1 ≤ b ∧ b ≠ w2.heap.size) (fun b hb _ => ⟨by omega, by omega⟩))
  have HB4 := Lib.hid hb4
  clear hb4 ht4 hH4 HL3 Halt
  unfold ndV
  dsimp only
  go_wp2
  have H0 : Hid (InPiece w w2.heap.size L r (.int .i64 ((j0 : Int) + 1)) ((((((((w4.setCell ⟨w2.heap.size, 0, none⟩ (.int .i64 x.kind)).setCell ⟨w2.heap.size, 1, none⟩ (.int .u64 ((word x.set.testBit 0 : Nat) : Int))).setCell ⟨w2.heap.size, 2, none⟩ (.int .u64 ((word x.set.testBit 1 : Nat) : Int))).setCell ⟨w2.heap.size, 3, none⟩ (.int .u64 ((word x.set.testBit 2 : Nat) : Int))).setCell ⟨w2.heap.size, 4, none⟩ (.int .u64 ((word x.set.testBit 3 : Nat) : Int))).setCell ⟨w2.heap.size, 5, none⟩ (.slice B4 x.kids.len cap4)).setCell ⟨w2.heap.size, 6, none⟩ (.int .i64 x.lo)).setCell ⟨w2.heap.size, 7, none⟩ (.int .i64 x.hi))) :=
    Lib.hid ⟨j0 + 1, x, B4, cap4, by go_num, hj0, Hr.out, HH3.out.next HB4.out hc4 HT4.out rfl⟩
  clear x0 x1 x2 x3 x4 x5 x6 x7 f0 f1 f2 f3 f4 f5 f6 f7 HH3 HT4 HB4 hX3 hZ3
  go_loopw [7] (fun i wr => InPiece w w2.heap.size L r i wr) (fun i _ => L.length - (intOf i).toNat)
  case atStart => exact H0.out
  case round =>
    clear H0 hc0
    generalize hX : w2.heap.size = X at *
    clear hX
    obtain ⟨j, z, B, cap, rfl, hj, hz, hH⟩ := hrel
    have HH := Lib.hid hH
    have hzl := hH.2.1.lt
    have hXl := hH.1.lt
    have hwX := hH.2.2.2.2.2
    have x0 : wr.cell? ⟨X, 0, none⟩ = some (.int .i64 z.kind) := hH.1.cell 0
    have x1 : wr.cell? ⟨X, 1, none⟩ = some (.int .u64 ((word z.set.testBit 0 : Nat) : Int)) := hH.1.cell 1
    have x2 : wr.cell? ⟨X, 2, none⟩ = some (.int .u64 ((word z.set.testBit 1 : Nat) : Int)) := hH.1.cell 2
    have x3 : wr.cell? ⟨X, 3, none⟩ = some (.int .u64 ((word z.set.testBit 2 : Nat) : Int)) := hH.1.cell 3
    have x4 : wr.cell? ⟨X, 4, none⟩ = some (.int .u64 ((word z.set.testBit 3 : Nat) : Int)) := hH.1.cell 4
    have x5 : wr.cell? ⟨X, 5, none⟩ = some (.slice B z.kids.len cap) := hH.1.cell 5
    have x6 : wr.cell? ⟨X, 6, none⟩ = some (.int .i64 z.lo) := hH.1.cell 6
    have x7 : wr.cell? ⟨X, 7, none⟩ = some (.int .i64 z.hi) := hH.1.cell 7
    have f0 := hH.1.frozen 0
    have f1 := hH.1.frozen 1
    have f2 := hH.1.frozen 2
    have f3 := hH.1.frozen 3
    have f4 := hH.1.frozen 4
    have f5 := hH.1.frozen 5
    have f6 := hH.1.frozen 6
    have f7 := hH.1.frozen 7
    have y0 : wr.cell? ⟨w.heap.size, 0, none⟩ = some (.int .i64 0) := hH.2.1.cell 0
    have y1 : wr.cell? ⟨w.heap.size, 1, none⟩ = some (.int .u64 0) := hH.2.1.cell 1
    have y2 : wr.cell? ⟨w.heap.size, 2, none⟩ = some (.int .u64 0) := hH.2.1.cell 2
    have y3 : wr.cell? ⟨w.heap.size, 3, none⟩ = some (.int .u64 0) := hH.2.1.cell 3
    have y4 : wr.cell? ⟨w.heap.size, 4, none⟩ = some (.int .u64 0) := hH.2.1.cell 4
    have y5 : wr.cell? ⟨w.heap.size, 5, none⟩ = some (.slice none 0 0) := hH.2.1.cell 5
    have y6 : wr.cell? ⟨w.heap.size, 6, none⟩ = some (.int .i64 0) := hH.2.1.cell 6
    have y7 : wr.cell? ⟨w.heap.size, 7, none⟩ = some (.int .i64 0) := hH.2.1.cell 7
    have g0 := hH.2.1.frozen 0
    have g1 := hH.2.1.frozen 1
    have g2 := hH.2.1.frozen 2
    have g3 := hH.2.1.frozen 3
    have g4 := hH.2.1.frozen 4
    have g5 := hH.2.1.frozen 5
    have g6 := hH.2.1.frozen 6
    have g7 := hH.2.1.frozen 7
    by_cases hlt : j < L.length
    · obtain ⟨y, hy⟩ : ∃ y, L[j]? = some y := ⟨_, List.getElem?_eq_getElem hlt⟩
      obtain ⟨b', o', hbo, hbl', c0, _, _, _, _, _, c6, c7⟩ := ((HA.out.below hH.2.2.1).more hH.2.2.1.size).at' hy
      obtain ⟨rfl, rfl⟩ : b = b' ∧ o = o' := by simpa using hbo
      have hdl : (j : Int) < (L.length : Int) := by omega
      clear hbo
      rw [drop_cons hy] at hz
      clear hH hy
      by_cases hpost : isPost y.kind = true
      · have hk5 := (isPost_iff _).1 hpost
        have HR := Lib.hid ((postsG_go hpost).symm.trans hz)
        have hk : y.kind = 5 ∨ y.kind = 6 ∨ y.kind = 7 ∨ y.kind = 8 := by omega
        clear hpost hz g0 g1 g2 g3 g4 g5 g6 g7 y0 y1 y2 y3 y4 y5 y6 y7 hk5
        rcases hk with hk | hk | hk | hk
        · have HZ := Lib.hid (show postsG ⟨6, 0, Trees.of [z], 0, 0⟩ (L.drop (j + 1)) = r by rw [← HR.out]; unfold postN; rw [if_neg (by omega), hk]; rfl)
          have HO := Lib.hid (nof_go 6 _ (some ⟨wr.heap.size, 0, none⟩) 1 [z] _ (by simp) (by simp) HH.out.one)
          rw [hk] at c0
          go_wp2_with fail
          refine HO.out.mono ?_
          rintro e w2 ⟨B2, cap2, rfl, hb2, hc2, ht2⟩
          have hb2' := ((Below.refl wr.heap.size wr).alloc (Nat.le_refl _) (.cells (ndA z B cap) 42)).trans (hb2.mono (by simp))
          have hH2 := HH.out.below hb2'
          have x0 : w2.cell? ⟨X, 0, none⟩ = some (.int .i64 z.kind) := hH2.1.cell 0
          have x1 : w2.cell? ⟨X, 1, none⟩ = some (.int .u64 ((word z.set.testBit 0 : Nat) : Int)) := hH2.1.cell 1
          have x2 : w2.cell? ⟨X, 2, none⟩ = some (.int .u64 ((word z.set.testBit 1 : Nat) : Int)) := hH2.1.cell 2
          have x3 : w2.cell? ⟨X, 3, none⟩ = some (.int .u64 ((word z.set.testBit 2 : Nat) : Int)) := hH2.1.cell 3
          have x4 : w2.cell? ⟨X, 4, none⟩ = some (.int .u64 ((word z.set.testBit 3 : Nat) : Int)) := hH2.1.cell 4
          have x5 : w2.cell? ⟨X, 5, none⟩ = some (.slice B z.kids.len cap) := hH2.1.cell 5
          have x6 : w2.cell? ⟨X, 6, none⟩ = some (.int .i64 z.lo) := hH2.1.cell 6
          have x7 : w2.cell? ⟨X, 7, none⟩ = some (.int .i64 z.hi) := hH2.1.cell 7
          have f0 := hH2.1.frozen 0
          have f1 := hH2.1.frozen 1
          have f2 := hH2.1.frozen 2
          have f3 := hH2.1.frozen 3
          have f4 := hH2.1.frozen 4
          have f5 := hH2.1.frozen 5
          have f6 := hH2.1.frozen 6
          have f7 := hH2.1.frozen 7

          have HT2 := Lib.hid (ht2.weak (Q := fun b => w.heap.size + 1 ≤ b ∧ b ≠ X) (fun b hb _ => by rcases hb with h | h; exact h; simp at h; omega))
          have HB2 := Lib.hid hb2'
          clear hb2 hb2' hH2 ht2 HO
          rw [ndV_plain]
          dsimp only
          go_wp2
          go_light
          go_roundw
          case rel => exact ⟨j + 1, _, B2, cap2, by go_num, by omega, HZ.out, HH.out.next (z' := ⟨6, 0, Trees.of [z], 0, 0⟩) HB2.out hc2 HT2.out (by simp only [word_zero]; rfl)⟩
          case measure => simp [intOf]; omega
        · have HZ := Lib.hid (show postsG ⟨7, 0, Trees.of [z], 0, 0⟩ (L.drop (j + 1)) = r by rw [← HR.out]; unfold postN; rw [if_neg (by omega), hk]; rfl)
          have HO := Lib.hid (nof_go 7 _ (some ⟨wr.heap.size, 0, none⟩) 1 [z] _ (by simp) (by simp) HH.out.one)
          rw [hk] at c0
          go_wp2_with fail
          refine HO.out.mono ?_
          rintro e w2 ⟨B2, cap2, rfl, hb2, hc2, ht2⟩
          have hb2' := ((Below.refl wr.heap.size wr).alloc (Nat.le_refl _) (.cells (ndA z B cap) 42)).trans (hb2.mono (by simp))
          have hH2 := HH.out.below hb2'
          have x0 : w2.cell? ⟨X, 0, none⟩ = some (.int .i64 z.kind) := hH2.1.cell 0
          have x1 : w2.cell? ⟨X, 1, none⟩ = some (.int .u64 ((word z.set.testBit 0 : Nat) : Int)) := hH2.1.cell 1
          have x2 : w2.cell? ⟨X, 2, none⟩ = some (.int .u64 ((word z.set.testBit 1 : Nat) : Int)) := hH2.1.cell 2
          have x3 : w2.cell? ⟨X, 3, none⟩ = some (.int .u64 ((word z.set.testBit 2 : Nat) : Int)) := hH2.1.cell 3
          have x4 : w2.cell? ⟨X, 4, none⟩ = some (.int .u64 ((word z.set.testBit 3 : Nat) : Int)) := hH2.1.cell 4
          have x5 : w2.cell? ⟨X, 5, none⟩ = some (.slice B z.kids.len cap) := hH2.1.cell 5
          have x6 : w2.cell? ⟨X, 6, none⟩ = some (.int .i64 z.lo) := hH2.1.cell 6
          have x7 : w2.cell? ⟨X, 7, none⟩ = some (.int .i64 z.hi) := hH2.1.cell 7
          have f0 := hH2.1.frozen 0
          have f1 := hH2.1.frozen 1
          have f2 := hH2.1.frozen 2
          have f3 := hH2.1.frozen 3
          have f4 := hH2.1.frozen 4
          have f5 := hH2.1.frozen 5
          have f6 := hH2.1.frozen 6
          have f7 := hH2.1.frozen 7

          have HT2 := Lib.hid (ht2.weak (Q := fun b => w.heap.size + 1 ≤ b ∧ b ≠ X) (fun b hb _ => by rcases hb with h | h; exact h; simp at h; omega))
          have HB2 := Lib.hid hb2'
          clear hb2 hb2' hH2 ht2 HO
          rw [ndV_plain]
          dsimp only
          go_wp2
          go_light
          go_roundw
          case rel => exact ⟨j + 1, _, B2, cap2, by go_num, by omega, HZ.out, HH.out.next (z' := ⟨7, 0, Trees.of [z], 0, 0⟩) HB2.out hc2 HT2.out (by simp only [word_zero]; rfl)⟩
          case measure => simp [intOf]; omega
        · have HZ := Lib.hid (show postsG ⟨8, 0, Trees.of [z], 0, 0⟩ (L.drop (j + 1)) = r by rw [← HR.out]; unfold postN; rw [if_neg (by omega), hk]; rfl)
          have HO := Lib.hid (nof_go 8 _ (some ⟨wr.heap.size, 0, none⟩) 1 [z] _ (by simp) (by simp) HH.out.one)
          rw [hk] at c0
          go_wp2_with fail
          refine HO.out.mono ?_
          rintro e w2 ⟨B2, cap2, rfl, hb2, hc2, ht2⟩
          have hb2' := ((Below.refl wr.heap.size wr).alloc (Nat.le_refl _) (.cells (ndA z B cap) 42)).trans (hb2.mono (by simp))
          have hH2 := HH.out.below hb2'
          have x0 : w2.cell? ⟨X, 0, none⟩ = some (.int .i64 z.kind) := hH2.1.cell 0
          have x1 : w2.cell? ⟨X, 1, none⟩ = some (.int .u64 ((word z.set.testBit 0 : Nat) : Int)) := hH2.1.cell 1
          have x2 : w2.cell? ⟨X, 2, none⟩ = some (.int .u64 ((word z.set.testBit 1 : Nat) : Int)) := hH2.1.cell 2
          have x3 : w2.cell? ⟨X, 3, none⟩ = some (.int .u64 ((word z.set.testBit 2 : Nat) : Int)) := hH2.1.cell 3
          have x4 : w2.cell? ⟨X, 4, none⟩ = some (.int .u64 ((word z.set.testBit 3 : Nat) : Int)) := hH2.1.cell 4
          have x5 : w2.cell? ⟨X, 5, none⟩ = some (.slice B z.kids.len cap) := hH2.1.cell 5
          have x6 : w2.cell? ⟨X, 6, none⟩ = some (.int .i64 z.lo) := hH2.1.cell 6
          have x7 : w2.cell? ⟨X, 7, none⟩ = some (.int .i64 z.hi) := hH2.1.cell 7
          have f0 := hH2.1.frozen 0
          have f1 := hH2.1.frozen 1
          have f2 := hH2.1.frozen 2
          have f3 := hH2.1.frozen 3
          have f4 := hH2.1.frozen 4
          have f5 := hH2.1.frozen 5
          have f6 := hH2.1.frozen 6
          have f7 := hH2.1.frozen 7

          have HT2 := Lib.hid (ht2.weak (Q := fun b => w.heap.size + 1 ≤ b ∧ b ≠ X) (fun b hb _ => by rcases hb with h | h; exact h; simp at h; omega))
          have HB2 := Lib.hid hb2'
          clear hb2 hb2' hH2 ht2 HO
          rw [ndV_plain]
          dsimp only
          go_wp2
          go_light
          go_roundw
          case rel => exact ⟨j + 1, _, B2, cap2, by go_num, by omega, HZ.out, HH.out.next (z' := ⟨8, 0, Trees.of [z], 0, 0⟩) HB2.out hc2 HT2.out (by simp only [word_zero]; rfl)⟩
          case measure => simp [intOf]; omega
        · have HZ := Lib.hid (show postsG ⟨9, 0, Trees.of [z], y.lo, y.hi⟩ (L.drop (j + 1)) = r by rw [← HR.out]; unfold postN; rw [if_pos hk])
          rw [hk] at c0
          obtain ⟨W1, hW1⟩ : ∃ W1, wr.alloc (.cells #[.int .i64 z.kind, .int .u64 ((word z.set.testBit 0 : Nat) : Int), .int .u64 ((word z.set.testBit 1 : Nat) : Int), .int .u64 ((word z.set.testBit 2 : Nat) : Int), .int .u64 ((word z.set.testBit 3 : Nat) : Int), .slice B z.kids.len cap, .int .i64 z.lo, .int .i64 z.hi] 42) = W1 := ⟨_, rfl⟩
          have hb1 : Below wr.heap.size wr W1 := by rw [← hW1]; exact (Below.refl wr.heap.size wr).alloc (Nat.le_refl _) _
          have hH1 := HH.out.below hb1
          have HO := Lib.hid (nrep_go (fun b => w.heap.size + 1 ≤ b ∧ b ≠ X) z B cap y.lo y.hi W1.drew hH1.2.2.2.1 hH1.drew.2.2.2.2.1)
          have c6 := (hb1.cell (p := ⟨b, o + j * 8 + 6, none⟩) hbl').trans c6
          have c7 := (hb1.cell (p := ⟨b, o + j * 8 + 7, none⟩) hbl').trans c7
          have c0 := (hb1.cell (p := ⟨b, o + j * 8, none⟩) hbl').trans c0
          have HW1 := Lib.hid hW1
          have HH1 := Lib.hid hH1
          have HB1 := Lib.hid hb1
          go_wp2
          clear hW1 hb1 x0 x1 x2 x3 x4 x5 x6 x7 f0 f1 f2 f3 f4 f5 f6 f7 c0
          have x0 : W1.cell? ⟨X, 0, none⟩ = some (.int .i64 z.kind) := hH1.1.cell 0
          have x1 : W1.cell? ⟨X, 1, none⟩ = some (.int .u64 ((word z.set.testBit 0 : Nat) : Int)) := hH1.1.cell 1
          have x2 : W1.cell? ⟨X, 2, none⟩ = some (.int .u64 ((word z.set.testBit 1 : Nat) : Int)) := hH1.1.cell 2
          have x3 : W1.cell? ⟨X, 3, none⟩ = some (.int .u64 ((word z.set.testBit 2 : Nat) : Int)) := hH1.1.cell 3
          have x4 : W1.cell? ⟨X, 4, none⟩ = some (.int .u64 ((word z.set.testBit 3 : Nat) : Int)) := hH1.1.cell 4
          have x5 : W1.cell? ⟨X, 5, none⟩ = some (.slice B z.kids.len cap) := hH1.1.cell 5
          have x6 : W1.cell? ⟨X, 6, none⟩ = some (.int .i64 z.lo) := hH1.1.cell 6
          have x7 : W1.cell? ⟨X, 7, none⟩ = some (.int .i64 z.hi) := hH1.1.cell 7
          have f0 := hH1.1.frozen 0
          have f1 := hH1.1.frozen 1
          have f2 := hH1.1.frozen 2
          have f3 := hH1.1.frozen 3
          have f4 := hH1.1.frozen 4
          have f5 := hH1.1.frozen 5
          have f6 := hH1.1.frozen 6
          have f7 := hH1.1.frozen 7
          clear hH1
          go_still_tail 11, (by kernel_rfl)
          change wpList _ _ _ _ _ W1.drew
          clear c0 c6 c7
          go_wp2_with fail
          refine HO.out.mono ?_
          rintro e w3 ⟨B2, cap2, rfl, hb2, hc2, ht2⟩
          have hb2' := ((HB1.out.drew).trans (hb2.mono (by have := HB1.out.size; exact this)))
          have hH2 := HH.out.below hb2'
          have hX1 := HH1.out.1.lt
          clear x0 x1 x2 x3 x4 x5 x6 x7 f0 f1 f2 f3 f4 f5 f6 f7
          have x0 : w3.cell? ⟨X, 0, none⟩ = some (.int .i64 z.kind) := hH2.1.cell 0
          have x1 : w3.cell? ⟨X, 1, none⟩ = some (.int .u64 ((word z.set.testBit 0 : Nat) : Int)) := hH2.1.cell 1
          have x2 : w3.cell? ⟨X, 2, none⟩ = some (.int .u64 ((word z.set.testBit 1 : Nat) : Int)) := hH2.1.cell 2
          have x3 : w3.cell? ⟨X, 3, none⟩ = some (.int .u64 ((word z.set.testBit 2 : Nat) : Int)) := hH2.1.cell 3
          have x4 : w3.cell? ⟨X, 4, none⟩ = some (.int .u64 ((word z.set.testBit 3 : Nat) : Int)) := hH2.1.cell 4
          have x5 : w3.cell? ⟨X, 5, none⟩ = some (.slice B z.kids.len cap) := hH2.1.cell 5
          have x6 : w3.cell? ⟨X, 6, none⟩ = some (.int .i64 z.lo) := hH2.1.cell 6
          have x7 : w3.cell? ⟨X, 7, none⟩ = some (.int .i64 z.hi) := hH2.1.cell 7
          have f0 := hH2.1.frozen 0
          have f1 := hH2.1.frozen 1
          have f2 := hH2.1.frozen 2
          have f3 := hH2.1.frozen 3
          have f4 := hH2.1.frozen 4
          have f5 := hH2.1.frozen 5
          have f6 := hH2.1.frozen 6
          have f7 := hH2.1.frozen 7
          have HT2 := Lib.hid (ht2.weak (Q := fun b => w.heap.size + 1 ≤ b ∧ b ≠ X) (fun b hb _ => by rcases hb with h | h; exact h; exact ⟨by have := HB1.out.size; have : W1.heap.size ≤ b := h; omega, by have : W1.heap.size ≤ b := h; omega⟩))
          have HB2 := Lib.hid hb2'
          clear hb2 hb2' hH2 ht2 HO
          have hv9 : ndV ⟨9, 0, Trees.of [z], y.lo, y.hi⟩ B2 cap2 = .agg #[.int .i64 9, .int .u64 0, .int .u64 0, .int .u64 0, .int .u64 0, .slice B2 (Trees.of [z]).len cap2, .int .i64 y.lo, .int .i64 y.hi] := ndV_plain _ _ _ _ _ _
          rw [hv9]
          clear hv9
          dsimp only
          go_wp2
          go_light
          go_roundw
          case rel => exact ⟨j + 1, _, B2, cap2, by go_num, by omega, HZ.out, HH.out.next (z' := ⟨9, 0, Trees.of [z], y.lo, y.hi⟩) HB2.out hc2 HT2.out (by simp only [word_zero]; rfl)⟩
          case measure => simp [intOf]; omega
      · have hk5 : ¬ (5 ≤ y.kind ∧ y.kind ≤ 8) := fun h => hpost ((isPost_iff _).2 h)
        have k5 : (y.kind == 5) = false := by simp; omega
        have k6 : (y.kind == 6) = false := by simp; omega
        have k7 : (y.kind == 7) = false := by simp; omega
        have k8 : (y.kind == 8) = false := by simp; omega
        have HR := Lib.hid ((postsG_stop (by simpa using hpost)).symm.trans hz)
        have hjl : L.length - (y :: L.drop (j + 1)).length = j := by simp; omega
        have Hjl := Lib.hid hjl
        clear hz hpost hk5 hjl
        go_wp2
        go_light
        have hF := HH.out.done rfl
        rw [← HR.out]
        exact bodyPost_ret (ret_atom Try.results88 rfl rfl (Blk.alloc hF.1 _)) rfl ⟨B, cap, by show _ = Ending.returned (.tuple #[_, .int .i64 ((L.length - (y :: L.drop (j + 1)).length : Nat) : Int)]); rw [Hjl.out]; rfl, hF.2.1.alloc hF.2.1.size _, HH.out.2.2.2.1, hF.2.2.below ((Below.refl _ _).alloc (Nat.le_refl _) _)⟩
    · have hdr : L.drop j = [] := List.drop_eq_nil_of_le (by omega)
      rw [hdr] at hz
      have HR := Lib.hid hz
      have Hjl := Lib.hid (show L.length - ([] : List Lex).length = j by simp; omega)
      have hdl : ¬ (j : Int) < (L.length : Int) := by omega
      clear hz hH hdr
      go_wp2
      go_light
      have hF := HH.out.done rfl
      rw [← HR.out]
      exact bodyPost_ret (ret_atom Try.results88 rfl rfl hF.1) rfl ⟨B, cap, by show _ = Ending.returned (.tuple #[_, .int .i64 ((L.length - ([] : List Lex).length : Nat) : Int)]); rw [Hjl.out]; rfl, hF.2.1, HH.out.2.2.2.1, hF.2.2⟩


end Go.Proofs.Ytkelkadalikibaa
namespace Go.Proofs.Ytkelkadalikibaa
open Go.RowKit
set_option linter.unusedSimpArgs false
set_option linter.unusedVariables false
set_option maxRecDepth 100000

theorem suf_drop {L R : List Lex} {i : Nat} (h : R <:+ L.drop i) (hi : i ≤ L.length) : R = L.drop (L.length - R.length) ∧ i ≤ L.length - R.length ∧ L.length - R.length ≤ L.length := by
  have h2 : R <:+ L := h.trans (List.drop_suffix i L)
  have hl := h.length_le
  simp at hl
  exact ⟨List.suffix_iff_eq_drop.1 h2, by omega, by omega⟩
theorem atomG_some {k : Nat} {op : List Int} {M R : List Lex} {x : Nd} (h : atomG k op M = .ok (some x, R)) : ∃ y M', M = y :: M' ∧ (y.kind = 1 ∧ x = leafN (maskOf y.set) ∧ R = M' ∨ y.kind = 2 ∧ ∃ n c, k = n + 1 ∧ altG n (y.place :: op) [] M' = .ok (x, c :: R)) := by
  cases k with
  | zero => rw [atomG] at h; cases h
  | succ n =>
    cases M with
    | nil => rw [atomG_nil] at h; cases h
    | cons y M' =>
      refine ⟨y, M', rfl, ?_⟩
      by_cases h1 : y.kind = 1
      · rw [atomG_set h1] at h
        cases h
        exact .inl ⟨h1, rfl, rfl⟩
      by_cases h2 : y.kind = 2
      · rw [atomG, if_neg h1, if_pos h2] at h
        split at h
        · cases h
        split at h
        · cases h
        · rename_i x' R' hx
          split at h
          · cases h
          · rename_i c R''
            split at h
            · cases h
              exact .inr ⟨h2, n, c, rfl, hx⟩
            · cases h
      rw [atomG, if_neg h1, if_neg h2] at h
      split at h
      · cases h
      split at h <;> cases h
theorem atomG_none {k : Nat} {op : List Int} {M R : List Lex} (h : atomG k op M = .ok (none, R)) : R = M ∧ ∀ y M', M = y :: M' → y.kind ≠ 1 ∧ y.kind ≠ 2 := by
  cases k with
  | zero => rw [atomG] at h; cases h
  | succ n =>
    cases M with
    | nil => rw [atomG_nil] at h; cases h; exact ⟨rfl, fun y M' e => by cases e⟩
    | cons y M' =>
      by_cases h1 : y.kind = 1
      · rw [atomG_set h1] at h; cases h
      by_cases h2 : y.kind = 2
      · rw [atomG, if_neg h1, if_pos h2] at h
        split at h
        · cases h
        split at h
        · cases h
        · split at h
          · cases h
          · split at h <;> cases h
      rw [atomG, if_neg h1, if_neg h2] at h
      split at h
      · cases h
      split at h
      · cases h
      · cases h
        exact ⟨rfl, fun z M'' e => by cases e; exact ⟨h1, h2⟩⟩

def RAltC (n : Nat) : Prop := ∀ (op : List Int) (i : Nat) (x : Nd) (R : List Lex) (A : Option Addr) (cap : Nat) (L : List Lex) (w : World), altG n op [] (L.drop i) = .ok (x, R) → LexsAt w w.heap.size A L → i ≤ L.length → L.length ≤ 90000 →
  Calls Try.prog 29 #[.slice A L.length cap, .int .i64 (i : Int)] w (RGives x (L.length - R.length) w)
def RPartC (n : Nat) : Prop := ∀ (op : List Int) (i : Nat) (ps : List Nd) (R : List Lex) (A : Option Addr) (cap : Nat) (L : List Lex) (w : World), piecesG n op [] (L.drop i) = .ok (ps, R) → LexsAt w w.heap.size A L → i ≤ L.length → L.length ≤ 90000 →
  Calls Try.prog 59 #[.slice A L.length cap, .int .i64 (i : Int)] w (RGives (partN ps) (L.length - R.length) w)
def RPieceC (n : Nat) : Prop := ∀ (op : List Int) (i : Nat) (x : Nd) (R : List Lex) (A : Option Addr) (cap : Nat) (L : List Lex) (w : World), atomG n op (L.drop i) = .ok (some x, R) → LexsAt w w.heap.size A L → L.length ≤ 90000 →
  Calls Try.prog 88 #[.slice A L.length cap, .int .i64 (i : Int)] w (RGives (postsG x R).1 (L.length - (postsG x R).2.length) w)
theorem rpiece_step {n : Nat} (hA : ∀ k, k < n → RAltC k) : RPieceC n := by
  intro op i x R A cap L w h hL hlen
  obtain ⟨y, M', hM, hk⟩ := atomG_some h
  have hlt : i < L.length := by
    rcases Nat.lt_or_ge i L.length with h1 | h1
    · exact h1
    · rw [List.drop_eq_nil_of_le h1] at hM; cases hM
  obtain ⟨y', hy⟩ : ∃ y, L[i]? = some y := ⟨_, List.getElem?_eq_getElem hlt⟩
  rw [drop_cons hy] at hM
  obtain ⟨rfl, rfl⟩ := List.cons.inj hM
  rcases hk with ⟨h1, rfl, rfl⟩ | ⟨h2, k, c, rfl, hx⟩
  · exact piece_set A cap L i y' w hy h1 hL (by omega)
  · have hs := (readG_suf k).1 _ _ _ _ _ hx
    obtain ⟨hd, hj1, hj2⟩ := suf_drop hs (by omega)
    have hl : (c :: R).length = R.length + 1 := rfl
    have hRl := hs.length_le
    simp at hRl
    have hR : R = L.drop (L.length - (c :: R).length + 1) := by
      have h3 : (c :: R).drop 1 = (L.drop (L.length - (c :: R).length)).drop 1 := by rw [← hd]
      rw [List.drop_drop] at h3
      exact h3
    have hp := piece_open A cap L i (L.length - (c :: R).length) y' x w hy h2 hL (by omega) (by omega) (fun w1 hL1 => by
      have := hA k (by omega) _ (i + 1) x (c :: R) A cap L w1 hx hL1 (by omega) hlen
      exact this)
    rw [← hR] at hp
    exact hp

/-! Rows of nodes that the reference makes. -/
def RRow (w : World) (acc : List Nd) (u : Value) (wr : World) : Prop :=
  (∃ cs, wr.ownsRow (w.heap.size + 1) 42 8 u acc.length cs ∧ CellsAre wr (fun b => w.heap.size + 1 ≤ b ∧ some b ≠ u.ownBlock) acc cs) ∧ Blk wr w.heap.size 42 #[.int .i64 0, .int .u64 0, .int .u64 0, .int .u64 0, .int .u64 0, .slice none 0 0, .int .i64 0, .int .i64 0] ∧ Below w.heap.size w wr
section
variable {w wr w2 w' : World} {acc : List Nd} {u : Value}
theorem RRow.own (h : RRow w acc u wr) : ∀ g, u.ownBlock = some g → w.heap.size + 1 ≤ g ∧ g < wr.heap.size := by
  obtain ⟨⟨cs, hr, _⟩, _⟩ := h
  exact hr.lt
theorem RRow.below (h : RRow w acc u wr) (hb : Below wr.heap.size wr w2) : RRow w acc u w2 := by
  obtain ⟨⟨cs, hr, hc⟩, h2, h3⟩ := h
  exact ⟨⟨cs, own_below hr hb, hc.below hb⟩, h2.below hb h2.lt, h3.trans (hb.mono h3.size)⟩
theorem RRow.append {z : Nd} {B : Option Addr} {cap gg capg : Nat} {o : Obj} {cs : List Value} (h : RRow w acc u wr)
    (hz : TreesAt wr (fun b => w.heap.size + 1 ≤ b ∧ some b ≠ u.ownBlock) z.kids B) (hcz : z.kids.len ≤ cap) (hcs : CellsAre wr (fun b => w.heap.size + 1 ≤ b ∧ some b ≠ u.ownBlock) acc cs)
    (hown : w'.ownsRow (w.heap.size + 1) 42 8 (.slice (some ⟨gg, 0, none⟩) (acc.length + 1) capg) (acc.length + 1) (cs ++ ndCell z B cap)) (hgrow : (wr.alloc o).grownBy w' u.ownBlock) (hat : u.ownBlock = some gg ∨ gg = wr.heap.size + 1) :
    RRow w (acc ++ [z]) (.slice (some ⟨gg, 0, none⟩) (acc.length + 1) capg) w' := by
  have hl := h.own
  obtain ⟨_, h2, h3⟩ := h
  have hb : Below wr.heap.size wr (wr.alloc o) := (Below.refl _ _).alloc (Nat.le_refl _) o
  have hk : ∀ b i, (w.heap.size + 1 ≤ b ∧ some b ≠ u.ownBlock) → b < wr.heap.size → w'.cell? ⟨b, i, none⟩ = wr.cell? ⟨b, i, none⟩ := fun b i hb2 hbl =>
    (World.cell?_of_block (hgrow.block b (by simp; omega) hb2.2)).trans (hb.cell (p := ⟨b, i, none⟩) hbl)
  have hq : ∀ b, (w.heap.size + 1 ≤ b ∧ some b ≠ u.ownBlock) → b < wr.heap.size → w.heap.size + 1 ≤ b ∧ some b ≠ (Value.slice (some ⟨gg, 0, none⟩) (acc.length + 1) capg).ownBlock := fun b hb2 hbl => ⟨hb2.1, fun e => by
    have e' : b = gg := by simpa [Value.ownBlock] using e
    rcases hat with hh | hh
    · exact hb2.2 (by rw [e', hh])
    · omega⟩
  refine ⟨⟨cs ++ ndCell z B cap, by simpa using hown, CellsAre.snoc hcz (hz.keep hk hq) (hcs.keep hk hq)⟩, (h2.below hb h2.lt).grown hgrow (fun e => by have := (hl _ e.symm).1; omega),
    (h3.trans (hb.mono h3.size)).grown hgrow (by have := h3.size; simp; omega) (fun k e => by have := (hl k e).1; omega)⟩
theorem RRow.trees (h : RRow w acc u wr) : ∃ A cap, u = .slice A acc.length cap ∧ acc.length ≤ cap ∧ TreesAt wr (fun b => w.heap.size + 1 ≤ b) (Trees.of acc) A := by
  have hl := h.own
  obtain ⟨⟨cs, hr, hc⟩, _⟩ := h
  exact trees_of hr (hc.keep (fun _ _ _ _ => rfl) (fun b hb _ => hb.1)) (fun g e => (hl g e).1)
end
theorem rrow_start (w : World) : RRow w [] (.slice (some ⟨w.heap.size + 1, 0, none⟩) 0 0) ((w.alloc (.cells #[.int .i64 0, .int .u64 0, .int .u64 0, .int .u64 0, .int .u64 0, .slice none 0 0, .int .i64 0, .int .i64 0] 42)).alloc (.cells #[] 42)) := by
  refine ⟨⟨[], ?_, rfl⟩, (Blk.new _ _ _).alloc _, ((Below.refl _ _).alloc (Nat.le_refl _) _).alloc (by simp) _⟩
  have h := World.ownsRow_made (base := w.heap.size + 1) (size := 8) (e := 42) (w.alloc (.cells #[.int .i64 0, .int .u64 0, .int .u64 0, .int .u64 0, .int .u64 0, .slice none 0 0, .int .i64 0, .int .i64 0] 42)) #[] 0 (by simp) (by decide) rfl
  rw [World.size_alloc] at h
  exact h

end Go.Proofs.Ytkelkadalikibaa
namespace Go.Proofs.Ytkelkadalikibaa
open Go.RowKit
set_option linter.unusedSimpArgs false
set_option linter.unusedVariables false
set_option maxRecDepth 100000

/-- A round of part. -/
def RInPart (N : Nat) (w : World) (op : List Int) (L : List Lex) (r : Except Wrong (List Nd × List Lex)) (at_ u : Value) (wr : World) : Prop :=
  ∃ acc : List Nd, ∃ j n : Nat, at_ = .int .i64 (j : Int) ∧ j ≤ L.length ∧ piecesG n op acc (L.drop j) = r ∧ n ≤ N ∧ acc.length ≤ j ∧ RRow w acc u wr
set_option maxHeartbeats 8000000 in
theorem rpart_step {N : Nat} (hT : ∀ k, k < N → RPieceC k) : RPartC N := by
  intro op i ps R A cap L w h hL hi hlen
  obtain ⟨i0, hi0, hz0, hz1, hz2⟩ := info_parts info_nd
  have hsf := suf_drop ((readG_suf N).2.1 _ _ _ _ _ h) hi
  have H0 : Hid (RInPart N w op L (.ok (ps, R)) (.int .i64 (i : Int)) (.slice (some ⟨w.heap.size + 1, 0, none⟩) 0 0) ((w.alloc (.cells #[.int .i64 0, .int .u64 0, .int .u64 0, .int .u64 0, .int .u64 0, .slice none 0 0, .int .i64 0, .int .i64 0] 42)).alloc (.cells #[] 42))) :=
    Lib.hid ⟨[], i, N, rfl, hi, h, Nat.le_refl _, Nat.zero_le _, rrow_start w⟩
  have HL := Lib.hid hL
  have HT := Lib.hid hT
  clear h hL hT hsf
  go_enter Try.func59, Try.ntmps59
  go_wp2
  go_loopw [1, 6] (fun a u wr => RInPart N w op L (.ok (ps, R)) a u wr) (fun a _ _ => L.length - (intOf a).toNat)
  case atStart => exact H0.out
  case round =>
    clear H0
    obtain ⟨acc, j, n, rfl, hj, hr, hN, hacc, hrow⟩ := hrel
    have Hrow := Lib.hid hrow
    have hwr := hrow.2.2.size
    have hzl := hrow.2.1.lt
    clear hrow
    obtain ⟨k, rfl⟩ : ∃ k, n = k + 1 := by
      cases n with
      | zero => rw [piecesG] at hr; cases hr
      | succ k => exact ⟨k, rfl⟩
    cases hx : atomG k op (L.drop j) with
    | error x => rw [piecesG_bad hx] at hr; cases hr
    | ok x =>
      obtain ⟨x, R1⟩ := x
      cases x with
      | none =>
        rw [piecesG_end hx] at hr
        obtain ⟨hR1, hk⟩ := atomG_none hx
        obtain ⟨rfl, rfl⟩ : acc = ps ∧ R1 = R := by simpa using hr
        have Hjl := Lib.hid (show L.length - R1.length = j by rw [hR1]; simp; omega)
        have hHk := Lib.hid hk
        obtain ⟨Au, cu, hu, hcu, htr⟩ := Hrow.out.trees
        subst hu
        have HTr := Lib.hid htr
        clear hr hx hR1 hk htr
        by_cases hlt : j < L.length
        · obtain ⟨y, hy⟩ : ∃ y, L[j]? = some y := ⟨_, List.getElem?_eq_getElem hlt⟩
          obtain ⟨k1, k2⟩ := hHk.out y _ (drop_cons hy)
          have e1 : (y.kind == 1) = false := by simp; exact k1
          have e2 : (y.kind == 2) = false := by simp; exact k2
          obtain ⟨b, o, rfl, hbl, c0, _⟩ := ((HL.out.below Hrow.out.2.2).more hwr).at' hy
          have hdl : (j : Int) < (L.length : Int) := by omega
          clear hy k1 k2
          go_wp2_with fail
          refine (ncat_go _ Au cu acc _ (by omega) HTr.out).mono ?_
          rintro e w4 ⟨B4, cap4, rfl, hb4, hc4, ht4⟩
          have hrow4 := Hrow.out.below hb4
          have hzb := hrow4.2.1
          have y0 : w4.cell? ⟨w.heap.size, 0, none⟩ = some (.int .i64 0) := hzb.cell 0
          have y1 : w4.cell? ⟨w.heap.size, 1, none⟩ = some (.int .u64 0) := hzb.cell 1
          have y2 : w4.cell? ⟨w.heap.size, 2, none⟩ = some (.int .u64 0) := hzb.cell 2
          have y3 : w4.cell? ⟨w.heap.size, 3, none⟩ = some (.int .u64 0) := hzb.cell 3
          have y4 : w4.cell? ⟨w.heap.size, 4, none⟩ = some (.int .u64 0) := hzb.cell 4
          have y5 : w4.cell? ⟨w.heap.size, 5, none⟩ = some (.slice none 0 0) := hzb.cell 5
          have y6 : w4.cell? ⟨w.heap.size, 6, none⟩ = some (.int .i64 0) := hzb.cell 6
          have y7 : w4.cell? ⟨w.heap.size, 7, none⟩ = some (.int .i64 0) := hzb.cell 7
          have g0 := hzb.frozen 0
          have g1 := hzb.frozen 1
          have g2 := hzb.frozen 2
          have g3 := hzb.frozen 3
          have g4 := hzb.frozen 4
          have g5 := hzb.frozen 5
          have g6 := hzb.frozen 6
          have g7 := hzb.frozen 7
          have Hrow4 := Lib.hid hrow4
          have HT4 := Lib.hid ht4
          clear hb4 hrow4 hzb ht4
          unfold ndV
          dsimp only
          go_wp2
          go_light
          have hF := flat_put (P := fun _ => False) (x := partN acc) (B := B4) (cap := cap4) Hrow4.out.2.1 Hrow4.out.2.2 (HT4.out.weak (fun b hb _ => .inr (by rcases hb with h | h; exact h; omega))) rfl
          exact bodyPost_ret (ret_atom Try.results59 rfl rfl hF.1) rfl ⟨B4, cap4, by rw [Hjl.out]; rfl, hF.2.1, hc4, hF.2.2.weak (fun b hb _ => hb.elim (fun h => h.elim) id)⟩
        · have hdl : ¬ (j : Int) < (L.length : Int) := by omega
          go_wp2_with fail
          refine (ncat_go _ Au cu acc _ (by omega) HTr.out).mono ?_
          rintro e w4 ⟨B4, cap4, rfl, hb4, hc4, ht4⟩
          have hrow4 := Hrow.out.below hb4
          have hzb := hrow4.2.1
          have y0 : w4.cell? ⟨w.heap.size, 0, none⟩ = some (.int .i64 0) := hzb.cell 0
          have y1 : w4.cell? ⟨w.heap.size, 1, none⟩ = some (.int .u64 0) := hzb.cell 1
          have y2 : w4.cell? ⟨w.heap.size, 2, none⟩ = some (.int .u64 0) := hzb.cell 2
          have y3 : w4.cell? ⟨w.heap.size, 3, none⟩ = some (.int .u64 0) := hzb.cell 3
          have y4 : w4.cell? ⟨w.heap.size, 4, none⟩ = some (.int .u64 0) := hzb.cell 4
          have y5 : w4.cell? ⟨w.heap.size, 5, none⟩ = some (.slice none 0 0) := hzb.cell 5
          have y6 : w4.cell? ⟨w.heap.size, 6, none⟩ = some (.int .i64 0) := hzb.cell 6
          have y7 : w4.cell? ⟨w.heap.size, 7, none⟩ = some (.int .i64 0) := hzb.cell 7
          have g0 := hzb.frozen 0
          have g1 := hzb.frozen 1
          have g2 := hzb.frozen 2
          have g3 := hzb.frozen 3
          have g4 := hzb.frozen 4
          have g5 := hzb.frozen 5
          have g6 := hzb.frozen 6
          have g7 := hzb.frozen 7
          have Hrow4 := Lib.hid hrow4
          have HT4 := Lib.hid ht4
          clear hb4 hrow4 hzb ht4
          unfold ndV
          dsimp only
          go_wp2
          go_light
          have hF := flat_put (P := fun _ => False) (x := partN acc) (B := B4) (cap := cap4) Hrow4.out.2.1 Hrow4.out.2.2 (HT4.out.weak (fun b hb _ => .inr (by rcases hb with h | h; exact h; omega))) rfl
          exact bodyPost_ret (ret_atom Try.results59 rfl rfl hF.1) rfl ⟨B4, cap4, by rw [Hjl.out]; rfl, hF.2.1, hc4, hF.2.2.weak (fun b hb _ => hb.elim (fun h => h.elim) id)⟩
      | some x =>
        rw [piecesG_go hx] at hr
        obtain ⟨y, M', hM, hk⟩ := atomG_some hx
        have hk12 : y.kind = 1 ∨ y.kind = 2 := by rcases hk with h | h; exact .inl h.1; exact .inr h.1
        have hlt : j < L.length := by
          rcases Nat.lt_or_ge j L.length with h1 | h1
          · exact h1
          · rw [List.drop_eq_nil_of_le h1] at hM; cases hM
        obtain ⟨y', hy⟩ : ∃ y, L[j]? = some y := ⟨_, List.getElem?_eq_getElem hlt⟩
        rw [drop_cons hy] at hM
        obtain ⟨rfl, rfl⟩ := List.cons.inj hM
        have hs1 := ((readG_suf k).2.2 _ _ _ _ hx)
        have hl1 := hs1.2 (by simp)
        obtain ⟨hd, hj1, hj2⟩ := suf_drop ((postsG_suf R1 x).trans hs1.1) hj
        have hl2 := (postsG_suf R1 x).length_le
        have hPc := HT.out k (by omega) op j x R1 A cap L wr hx ((HL.out.below Hrow.out.2.2).more hwr) hlen
        generalize postsG x R1 = zr at *
        obtain ⟨z, R2⟩ := zr
        simp only at hr hd hj1 hj2 hl2 hPc
        have HPc := Lib.hid hPc
        have HR := Lib.hid (show piecesG k op (acc ++ [z]) (L.drop (L.length - R2.length)) = .ok (ps, R) by rw [← hd]; exact hr)
        simp at hl1
        obtain ⟨b, o, rfl, hbl, c0, _⟩ := ((HL.out.below Hrow.out.2.2).more hwr).at' hy
        have hdl : (j : Int) < (L.length : Int) := by omega
        have hnj : j < L.length - R2.length := by omega
        generalize L.length - R2.length = j' at *
        clear hM hk hr hx hy hd hs1 hPc hl1 hl2 hj1
        rcases hk12 with hk | hk
        all_goals
          rw [hk] at c0
          go_wp2_with fail
          refine HPc.out.mono ?_
          rintro e w4 ⟨B4, cap4, rfl, hb4, hc4, ht4⟩
          have hrow4 := Hrow.out.below hb4
          obtain ⟨⟨cs, hr4, hcs4⟩, _⟩ := id hrow4
          have hl := Hrow.out.own
          have hz4 := ht4.weak (Q := fun b => w.heap.size + 1 ≤ b ∧ some b ≠ u6.ownBlock) (fun b hb _ => ⟨by omega, fun e => by have := (hl b e.symm).2; omega⟩)
          have hb5 : Below w4.heap.size w4 (w4.alloc (.cells (ndA z B4 cap4) 42)) := (Below.refl _ _).alloc (Nat.le_refl _) _
          have Hrow5 := Lib.hid (hrow4.below hb5)
          have HR5 := Lib.hid (hr4.alloc (.cells (ndA z B4 cap4) 42))
          have HC5 := Lib.hid (hcs4.below hb5)
          have HZ5 := Lib.hid (hz4.below hb5)
          have h63 : acc.length + 1 ≤ maxLen := Nat.le_trans (by omega) (show 200000 ≤ maxLen by decide)
          have hby : (acc.length + 1) * 80 ≤ 140737488355328 := by omega
          have hWs : w.heap.size + 1 ≤ w4.heap.size := by have := hb4.size; omega
          clear hrow4 hr4 hcs4 hz4 ht4 hl hb5 hb4
          unfold ndV
          dsimp only
          go_wp2_with (at_builtin; refine wpList_append_lies _ rfl _ _ 40 rfl (w.heap.size + 1) 42 i0 _ 8 80 Try.underlying40 hi0 hz0 hz1 hz2 rfl (by decide) u6 acc.length cs rfl (HR5.out.alloc _) ⟨w4.heap.size + 1, 0, none⟩ 1 1 (ndCell z B4 cap4) rfl rfl (World.news_of_block (Blk.new_at (cs := ndA z B4 cap4) (t := 42) (by simp))) (by simp [ndCell, Value.oneCell']) (by decide) h63 hby (by simp; omega) (w4.heap.size + 2) (by simp) ?_; intro gg capg w5 hown5 hgrow5 hat5 hg5; have HA6 := Lib.hid (Hrow5.out.append HZ5.out hc4 HC5.out hown5 hgrow5 (by simpa using hat5)); clear hown5 hgrow5 hat5)
          go_light
          go_roundw
          case rel => exact ⟨acc ++ [z], j', k, rfl, hj2, HR.out, by omega, by simp; omega, HA6.out⟩
          case measure => simp [intOf]; omega

/-- A round of alternative. -/
def RInAlt (N : Nat) (w : World) (op : List Int) (L : List Lex) (r : Except Wrong (Nd × List Lex)) (at_ u : Value) (wr : World) : Prop :=
  ∃ acc : List Nd, ∃ j n : Nat, at_ = .int .i64 (j : Int) ∧ j ≤ L.length ∧ altG n op acc (L.drop j) = r ∧ n ≤ N ∧ acc.length ≤ j ∧ RRow w acc u wr
set_option maxHeartbeats 8000000 in
theorem ralt_step {N : Nat} (hT : ∀ k, k < N → RPartC k) : RAltC N := by
  intro op i x R A cap L w h hL hi hlen
  obtain ⟨i0, hi0, hz0, hz1, hz2⟩ := info_parts info_nd
  have H0 : Hid (RInAlt N w op L (.ok (x, R)) (.int .i64 (i : Int)) (.slice (some ⟨w.heap.size + 1, 0, none⟩) 0 0) ((w.alloc (.cells #[.int .i64 0, .int .u64 0, .int .u64 0, .int .u64 0, .int .u64 0, .slice none 0 0, .int .i64 0, .int .i64 0] 42)).alloc (.cells #[] 42))) :=
    Lib.hid ⟨[], i, N, rfl, hi, h, Nat.le_refl _, Nat.zero_le _, rrow_start w⟩
  have HL := Lib.hid hL
  have HT := Lib.hid hT
  clear h hL hT
  go_enter Try.func29, Try.ntmps29
  go_wp2
  go_loopw [1, 6] (fun a u wr => RInAlt N w op L (.ok (x, R)) a u wr) (fun a _ _ => L.length - (intOf a).toNat)
  case atStart => exact H0.out
  case round =>
    clear H0
    obtain ⟨acc, j, n, rfl, hj, hr, hN, hacc, hrow⟩ := hrel
    have Hrow := Lib.hid hrow
    have hwr := hrow.2.2.size
    have hzl := hrow.2.1.lt
    clear hrow
    obtain ⟨k, rfl⟩ : ∃ k, n = k + 1 := by
      cases n with
      | zero => rw [altG] at hr; cases hr
      | succ k => exact ⟨k, rfl⟩
    cases hx : piecesG k op [] (L.drop j) with
    | error x => rw [altG_bad hx] at hr; cases hr
    | ok y =>
      obtain ⟨ps, R1⟩ := y
      rw [altG_ok hx] at hr
      obtain ⟨hd, hj1, hj2⟩ := suf_drop ((readG_suf k).2.1 _ _ _ _ _ hx) hj
      have HPc := Lib.hid (HT.out k (by omega) op j ps R1 A cap L wr hx ((HL.out.below Hrow.out.2.2).more hwr) hj hlen)
      have HD := Lib.hid hd
      have HR := Lib.hid hr
      have Hjj := Lib.hid (show L.length - R1.length = L.length - R1.length from rfl)
      clear hx hr hd
      generalize hz : partN ps = z at *
      clear hz
      generalize hj' : L.length - R1.length = j' at *
      have Hj' := Lib.hid hj'
      clear hj' Hjj
      go_wp2_with fail
      refine HPc.out.mono ?_
      rintro e w4 ⟨B4, cap4, rfl, hb4, hc4, ht4⟩
      have hrow4 := Hrow.out.below hb4
      obtain ⟨⟨cs, hr4, hcs4⟩, _⟩ := id hrow4
      have hl := Hrow.out.own
      have hz4 := ht4.weak (Q := fun b => w.heap.size + 1 ≤ b ∧ some b ≠ u6.ownBlock) (fun b hb _ => ⟨by omega, fun e => by have := (hl b e.symm).2; omega⟩)
      have hb5 : Below w4.heap.size w4 (w4.alloc (.cells (ndA z B4 cap4) 42)) := (Below.refl _ _).alloc (Nat.le_refl _) _
      have Hrow5 := Lib.hid (hrow4.below hb5)
      have HR5 := Lib.hid (hr4.alloc (.cells (ndA z B4 cap4) 42))
      have HC5 := Lib.hid (hcs4.below hb5)
      have HZ5 := Lib.hid (hz4.below hb5)
      have h63 : acc.length + 1 ≤ maxLen := Nat.le_trans (by omega) (show 200000 ≤ maxLen by decide)
      have hby : (acc.length + 1) * 80 ≤ 140737488355328 := by omega
      have hWs : w.heap.size + 1 ≤ w4.heap.size := by have := hb4.size; omega
      clear hrow4 hr4 hcs4 hz4 ht4 hl hb5 hb4
      unfold ndV
      dsimp only
      have hcase : (∃ c R', R1 = c :: R' ∧ c.kind = 4) ∨ (∀ c R', R1 = c :: R' → c.kind ≠ 4) := by
        cases R1 with
        | nil => exact .inr (fun c R' e => by cases e)
        | cons c R' =>
          by_cases h4 : c.kind = 4
          · exact .inl ⟨c, R', rfl, h4⟩
          · exact .inr (fun c' R'' e => by cases e; exact h4)
      rcases hcase with ⟨c, R', hRc, h4⟩ | hno
      · have hlt : j' < L.length := by have := Hj'.out; rw [hRc] at this; simp at this; have h5 : (c :: R').length ≤ L.length := by rw [← hRc, HD.out]; simp
                                       simp at h5; omega
        obtain ⟨y, hy⟩ : ∃ y, L[j']? = some y := ⟨_, List.getElem?_eq_getElem hlt⟩
        have hyc : y = c ∧ L.drop (j' + 1) = R' := by
          have := (drop_cons hy).symm.trans (HD.out.symm.trans hRc)
          exact List.cons.inj this
        obtain ⟨rfl, hdr⟩ := hyc
        have HX := Lib.hid (show altG k op (acc ++ [z]) (L.drop (j' + 1)) = .ok (x, R) by rw [hdr]; have := HR.out; rw [hRc, tailG_bar h4] at this; exact this)
        obtain ⟨b, o, hAo, hbl, c0, _⟩ := (HL.out).at' hy
        subst hAo
        rw [h4] at c0
        have hge : ¬ (L.length : Int) ≤ (j' : Int) := by omega
        have hdl : (j' : Int) < (L.length : Int) := by omega
        have Hc0 := Lib.hid c0
        clear hy hdr hRc h4 c0
        go_wp2_with (at_builtin; refine wpList_append_lies _ rfl _ _ 40 rfl (w.heap.size + 1) 42 i0 _ 8 80 Try.underlying40 hi0 hz0 hz1 hz2 rfl (by decide) u6 acc.length cs rfl (HR5.out.alloc _) ⟨w4.heap.size + 1, 0, none⟩ 1 1 (ndCell z B4 cap4) rfl rfl (World.news_of_block (Blk.new_at (cs := ndA z B4 cap4) (t := 42) (by simp))) (by simp [ndCell, Value.oneCell']) (by decide) h63 hby (by simp; omega) (w4.heap.size + 2) (by simp) ?_; intro gg capg w5 hown5 hgrow5 hat5 hg5; have hA6 := Hrow5.out.append HZ5.out hc4 HC5.out hown5 hgrow5 (by simpa using hat5); have c0 := (hA6.2.2.cell (p := ⟨b, o + j' * 8, none⟩) hbl).trans Hc0.out; have HA6 := Lib.hid hA6; clear hown5 hgrow5 hat5 hA6)
        go_light
        go_roundw
        case rel => exact ⟨acc ++ [z], j' + 1, k, by go_num, by omega, HX.out, by omega, by simp; omega, HA6.out⟩
        case measure => simp [intOf]; omega
      · have HX := Lib.hid (show (flatN 5 (acc ++ [z]), R1) = (x, R) by
          have := HR.out
          cases R1 with
          | nil => rw [tailG_nil] at this; exact Except.ok.inj this
          | cons c R' => rw [tailG_stop (hno c R' rfl)] at this; exact Except.ok.inj this)
        have hxx := Prod.mk.inj HX.out
        obtain ⟨hx1, hx2⟩ := hxx
        have Hjl := Lib.hid (show L.length - R.length = j' by rw [← hx2]; exact Hj'.out)
        have HX := Lib.hid hx1
        clear hx1 hx2
        by_cases hlt : j' < L.length
        · obtain ⟨y, hy⟩ : ∃ y, L[j']? = some y := ⟨_, List.getElem?_eq_getElem hlt⟩
          have h4 := hno y _ (HD.out.trans (drop_cons hy))
          have e4 : (y.kind != 4) = true := by simp; exact h4
          obtain ⟨b, o, hAo, hbl, c0, _⟩ := (HL.out).at' hy
          subst hAo
          have hge : ¬ (L.length : Int) ≤ (j' : Int) := by omega
          have hdl : (j' : Int) < (L.length : Int) := by omega
          have Hc0 := Lib.hid c0
          clear hy h4 c0 hno
          go_wp2_with (at_builtin; refine wpList_append_lies _ rfl _ _ 40 rfl (w.heap.size + 1) 42 i0 _ 8 80 Try.underlying40 hi0 hz0 hz1 hz2 rfl (by decide) u6 acc.length cs rfl (HR5.out.alloc _) ⟨w4.heap.size + 1, 0, none⟩ 1 1 (ndCell z B4 cap4) rfl rfl (World.news_of_block (Blk.new_at (cs := ndA z B4 cap4) (t := 42) (by simp))) (by simp [ndCell, Value.oneCell']) (by decide) h63 hby (by simp; omega) (w4.heap.size + 2) (by simp) ?_; intro gg capg w5 hown5 hgrow5 hat5 hg5; have hA6 := Hrow5.out.append HZ5.out hc4 HC5.out hown5 hgrow5 (by simpa using hat5); have c0 := (hA6.2.2.cell (p := ⟨b, o + j' * 8, none⟩) hbl).trans Hc0.out; have HA6 := Lib.hid hA6; clear hown5 hgrow5 hat5 hA6)
          clear c0 Hc0
          obtain ⟨A6, cap6, hv6, _, ht6⟩ := HA6.out.trees
          obtain ⟨rfl, _, rfl⟩ := Value.slice.inj hv6
          have hN6 := nalt_go _ (some ⟨gg, 0, none⟩) capg (acc ++ [z]) w5 (by simp; omega) ht6
          rw [List.length_append, List.length_singleton] at hN6
          have HN6 := Lib.hid hN6
          have hw5 := HA6.out.2.1.lt
          clear hN6 hv6 ht6
          refine HN6.out.mono ?_
          rintro e w7 ⟨B7, cap7, rfl, hb7, hc7, ht7⟩
          rw [manyN_flat _ (by simp)] at hc7 ht7
          rw [manyN_flat _ (by simp)]
          have hrow7 := HA6.out.below hb7
          have hzb := hrow7.2.1
          have y0 : w7.cell? ⟨w.heap.size, 0, none⟩ = some (.int .i64 0) := hzb.cell 0
          have y1 : w7.cell? ⟨w.heap.size, 1, none⟩ = some (.int .u64 0) := hzb.cell 1
          have y2 : w7.cell? ⟨w.heap.size, 2, none⟩ = some (.int .u64 0) := hzb.cell 2
          have y3 : w7.cell? ⟨w.heap.size, 3, none⟩ = some (.int .u64 0) := hzb.cell 3
          have y4 : w7.cell? ⟨w.heap.size, 4, none⟩ = some (.int .u64 0) := hzb.cell 4
          have y5 : w7.cell? ⟨w.heap.size, 5, none⟩ = some (.slice none 0 0) := hzb.cell 5
          have y6 : w7.cell? ⟨w.heap.size, 6, none⟩ = some (.int .i64 0) := hzb.cell 6
          have y7 : w7.cell? ⟨w.heap.size, 7, none⟩ = some (.int .i64 0) := hzb.cell 7
          have g0 := hzb.frozen 0
          have g1 := hzb.frozen 1
          have g2 := hzb.frozen 2
          have g3 := hzb.frozen 3
          have g4 := hzb.frozen 4
          have g5 := hzb.frozen 5
          have g6 := hzb.frozen 6
          have g7 := hzb.frozen 7

          have Hrow7 := Lib.hid hrow7
          have HT7 := Lib.hid ht7
          clear hb7 hrow7 hzb ht7
          unfold ndV
          dsimp only
          go_wp2
          go_light
          have hF := flat_put (P := fun _ => False) (x := flatN 5 (acc ++ [z])) (B := B7) (cap := cap7) Hrow7.out.2.1 Hrow7.out.2.2 (HT7.out.weak (fun b hb _ => .inr (by rcases hb with h | h; exact h; omega))) rfl
          rw [← HX.out]
          exact bodyPost_ret (ret_atom Try.results29 rfl rfl hF.1) rfl ⟨B7, cap7, by rw [Hjl.out]; rfl, hF.2.1, hc7, hF.2.2.weak (fun b hb _ => hb.elim (fun h => h.elim) id)⟩
        · have hge : (L.length : Int) ≤ (j' : Int) := by omega
          clear hno
          go_wp2_with (at_builtin; refine wpList_append_lies _ rfl _ _ 40 rfl (w.heap.size + 1) 42 i0 _ 8 80 Try.underlying40 hi0 hz0 hz1 hz2 rfl (by decide) u6 acc.length cs rfl (HR5.out.alloc _) ⟨w4.heap.size + 1, 0, none⟩ 1 1 (ndCell z B4 cap4) rfl rfl (World.news_of_block (Blk.new_at (cs := ndA z B4 cap4) (t := 42) (by simp))) (by simp [ndCell, Value.oneCell']) (by decide) h63 hby (by simp; omega) (w4.heap.size + 2) (by simp) ?_; intro gg capg w5 hown5 hgrow5 hat5 hg5; have hA6 := Hrow5.out.append HZ5.out hc4 HC5.out hown5 hgrow5 (by simpa using hat5); have HA6 := Lib.hid hA6; clear hown5 hgrow5 hat5 hA6)
          obtain ⟨A6, cap6, hv6, _, ht6⟩ := HA6.out.trees
          obtain ⟨rfl, _, rfl⟩ := Value.slice.inj hv6
          have hN6 := nalt_go _ (some ⟨gg, 0, none⟩) capg (acc ++ [z]) w5 (by simp; omega) ht6
          rw [List.length_append, List.length_singleton] at hN6
          have HN6 := Lib.hid hN6
          have hw5 := HA6.out.2.1.lt
          clear hN6 hv6 ht6
          refine HN6.out.mono ?_
          rintro e w7 ⟨B7, cap7, rfl, hb7, hc7, ht7⟩
          rw [manyN_flat _ (by simp)] at hc7 ht7
          rw [manyN_flat _ (by simp)]
          have hrow7 := HA6.out.below hb7
          have hzb := hrow7.2.1
          have y0 : w7.cell? ⟨w.heap.size, 0, none⟩ = some (.int .i64 0) := hzb.cell 0
          have y1 : w7.cell? ⟨w.heap.size, 1, none⟩ = some (.int .u64 0) := hzb.cell 1
          have y2 : w7.cell? ⟨w.heap.size, 2, none⟩ = some (.int .u64 0) := hzb.cell 2
          have y3 : w7.cell? ⟨w.heap.size, 3, none⟩ = some (.int .u64 0) := hzb.cell 3
          have y4 : w7.cell? ⟨w.heap.size, 4, none⟩ = some (.int .u64 0) := hzb.cell 4
          have y5 : w7.cell? ⟨w.heap.size, 5, none⟩ = some (.slice none 0 0) := hzb.cell 5
          have y6 : w7.cell? ⟨w.heap.size, 6, none⟩ = some (.int .i64 0) := hzb.cell 6
          have y7 : w7.cell? ⟨w.heap.size, 7, none⟩ = some (.int .i64 0) := hzb.cell 7
          have g0 := hzb.frozen 0
          have g1 := hzb.frozen 1
          have g2 := hzb.frozen 2
          have g3 := hzb.frozen 3
          have g4 := hzb.frozen 4
          have g5 := hzb.frozen 5
          have g6 := hzb.frozen 6
          have g7 := hzb.frozen 7

          have Hrow7 := Lib.hid hrow7
          have HT7 := Lib.hid ht7
          clear hb7 hrow7 hzb ht7
          unfold ndV
          dsimp only
          go_wp2
          go_light
          have hF := flat_put (P := fun _ => False) (x := flatN 5 (acc ++ [z])) (B := B7) (cap := cap7) Hrow7.out.2.1 Hrow7.out.2.2 (HT7.out.weak (fun b hb _ => .inr (by rcases hb with h | h; exact h; omega))) rfl
          rw [← HX.out]
          exact bodyPost_ret (ret_atom Try.results29 rfl rfl hF.1) rfl ⟨B7, cap7, by rw [Hjl.out]; rfl, hF.2.1, hc7, hF.2.2.weak (fun b hb _ => hb.elim (fun h => h.elim) id)⟩

/-- The reference's reading, of lexemes that are read. -/
theorem rreads_go (n : Nat) : RAltC n := by
  have h : ∀ m, ∀ k, k ≤ m → RAltC k ∧ RPartC k ∧ RPieceC k := by
    intro m
    induction m with
    | zero =>
      intro k hk
      obtain rfl : k = 0 := by omega
      exact ⟨ralt_step (fun k hk => by omega), rpart_step (fun k hk => by omega), rpiece_step (fun k hk => by omega)⟩
    | succ m ih =>
      intro k hk
      rcases Nat.lt_or_ge k (m + 1) with hlt | hge
      · exact ih k (by omega)
      · obtain rfl : k = m + 1 := by omega
        exact ⟨ralt_step (fun k hk => (ih k (by omega)).2.1), rpart_step (fun k hk => (ih k (by omega)).2.2), rpiece_step (fun k hk => (ih k (by omega)).1)⟩
  exact (h n n (Nat.le_refl _)).1

end Go.Proofs.Ytkelkadalikibaa
