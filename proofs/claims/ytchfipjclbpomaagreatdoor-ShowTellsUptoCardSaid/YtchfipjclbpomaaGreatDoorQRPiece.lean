/-
  The contract of the reference's piece.
-/
import Derived.StillTailTactics
import Derived.Test.YtchfipjclbpomaaGreatDoorQRTree
import Derived.Test.YtchfipjclbpomaaGreatDoorQZ02
namespace Go.Proofs.YtchfipjclbpomaaGreatDoor
open Go.RowKit
set_option linter.unusedSimpArgs false
set_option linter.unusedVariables false
set_option maxRecDepth 100000

/-- A node and the place behind. -/
def RGives (x : Nd) (j : Nat) (w : World) (e : Ending) (w' : World) : Prop :=
  ∃ B cap, e = .returned (.tuple #[ndV x B cap, .int .i64 (j : Int)]) ∧ Below w.heap.size w w' ∧ x.kids.len ≤ cap ∧ TreesAt w' (fun b => w.heap.size ≤ b) x.kids B
/-- The block X holds the node so far, the first new block none yet. -/
def Holds (w : World) (X : Nat) (z : Nd) (B : Option Addr) (cap : Nat) (wr : World) : Prop :=
  Blk wr X 28 (ndA z B cap) ∧ Blk wr w.heap.size 28 #[.int .i64 0, .int .u64 0, .int .u64 0, .int .u64 0, .int .u64 0, .slice none 0 0, .int .i64 0, .int .i64 0] ∧ Below w.heap.size w wr ∧ z.kids.len ≤ cap ∧ TreesAt wr (fun b => w.heap.size + 1 ≤ b ∧ b ≠ X) z.kids B ∧ w.heap.size < X
section
variable {w wr w2 w3 : World} {X : Nat} {z z' : Nd} {B B' : Option Addr} {cap cap' : Nat}
theorem Holds.below (h : Holds w X z B cap wr) (hb : Below wr.heap.size wr w2) : Holds w X z B cap w2 :=
  ⟨h.1.below hb h.1.lt, h.2.1.below hb h.2.1.lt, h.2.2.1.trans (hb.mono h.2.2.1.size), h.2.2.2.1, h.2.2.2.2.1.below hb, h.2.2.2.2.2⟩
theorem Holds.next (h : Holds w X z B cap wr) (hb : Below wr.heap.size wr w2) (hc : z'.kids.len ≤ cap') (ht : TreesAt w2 (fun b => w.heap.size + 1 ≤ b ∧ b ≠ X) z'.kids B')
    (hw : w3 = ((((((((w2.setCell ⟨X, 0, none⟩ (.int .i64 z'.kind)).setCell ⟨X, 1, none⟩ (.int .u64 ((word z'.set.testBit 0 : Nat) : Int))).setCell ⟨X, 2, none⟩ (.int .u64 ((word z'.set.testBit 1 : Nat) : Int))).setCell ⟨X, 3, none⟩ (.int .u64 ((word z'.set.testBit 2 : Nat) : Int))).setCell ⟨X, 4, none⟩ (.int .u64 ((word z'.set.testBit 3 : Nat) : Int))).setCell ⟨X, 5, none⟩ (.slice B' z'.kids.len cap')).setCell ⟨X, 6, none⟩ (.int .i64 z'.lo)).setCell ⟨X, 7, none⟩ (.int .i64 z'.hi))) :
    Holds w X z' B' cap' w3 := by
  have hg : w2.grownBy w3 (some X) := by rw [hw]; exact only_put8 _ _ _ _ _ _ _ _ _ _
  have h2 := h.below hb
  have hX := h.2.2.2.2.2
  refine ⟨by rw [hw]; exact h2.1.put8 _ _ _ _ _ _ _ _, h2.2.1.grown hg (fun e => by have := Option.some.inj e; omega), by rw [hw]; exact below_put8 h2.2.2.1 (Nat.le_of_lt hX) _ _ _ _ _ _ _ _, hc, ht.keep (fun b o hb hl => World.cell?_of_block (hg.block b hl (fun e => hb.2 (Option.some.inj e)))) (fun b hb _ => hb), hX⟩
theorem Holds.drew (h : Holds w X z B cap wr) : Holds w X z B cap wr.drew := ⟨h.1, h.2.1, h.2.2.1.drew, h.2.2.2.1, h.2.2.2.2.1.drew, h.2.2.2.2.2⟩
end
/-- A round of piece. -/
def InPiece (w : World) (X : Nat) (L : List Lex) (r : Nd × List Lex) (i : Value) (wr : World) : Prop :=
  ∃ j : Nat, ∃ z B cap, i = .int .i64 (j : Int) ∧ j ≤ L.length ∧ postsG z (L.drop j) = r ∧ Holds w X z B cap wr
theorem drop_cons {L : List Lex} {k : Nat} {x : Lex} (h : L[k]? = some x) : L.drop k = x :: L.drop (k + 1) := by
  obtain ⟨hlt, e⟩ := List.getElem?_eq_some_iff.1 h
  rw [List.drop_eq_getElem_cons hlt, e]
theorem LexsAt.at' {w : World} {B : Nat} {A : Option Addr} {L : List Lex} (h : LexsAt w B A L) {k : Nat} {x : Lex} (hx : L[k]? = some x) : ∃ b o, A = some ⟨b, o, none⟩ ∧ b < B ∧
    (w.cell? ⟨b, o + k * 8, none⟩ = some (.int .i64 x.kind) ∧ w.cell? ⟨b, o + k * 8 + 1, none⟩ = some (.int .i64 x.place) ∧
    w.cell? ⟨b, o + k * 8 + 2, none⟩ = some (.int .u64 ((word x.set 0 : Nat) : Int)) ∧ w.cell? ⟨b, o + k * 8 + 3, none⟩ = some (.int .u64 ((word x.set 1 : Nat) : Int)) ∧ w.cell? ⟨b, o + k * 8 + 4, none⟩ = some (.int .u64 ((word x.set 2 : Nat) : Int)) ∧ w.cell? ⟨b, o + k * 8 + 5, none⟩ = some (.int .u64 ((word x.set 3 : Nat) : Int)) ∧
    w.cell? ⟨b, o + k * 8 + 6, none⟩ = some (.int .i64 x.lo) ∧ w.cell? ⟨b, o + k * 8 + 7, none⟩ = some (.int .i64 x.hi)) := by
  obtain ⟨b, o, ha, hl, hc⟩ := h (by have := (List.getElem?_eq_some_iff.1 hx).1; omega)
  exact ⟨b, o, ha, hl, hc k x hx⟩
/-- What comes of the loop. -/
def Rd07 (L : List Lex) (r : Nd × List Lex) (w : World) : Ending → World → Prop := RGives r.1 (L.length - r.2.length) w

theorem Holds.done {w wr w' : World} {X : Nat} {z : Nd} {B : Option Addr} {cap : Nat} (h : Holds w X z B cap wr)
    (hw : w' = ((((((((wr.setCell ⟨w.heap.size, 0, none⟩ (.int .i64 z.kind)).setCell ⟨w.heap.size, 1, none⟩ (.int .u64 ((word z.set.testBit 0 : Nat) : Int))).setCell ⟨w.heap.size, 2, none⟩ (.int .u64 ((word z.set.testBit 1 : Nat) : Int))).setCell ⟨w.heap.size, 3, none⟩ (.int .u64 ((word z.set.testBit 2 : Nat) : Int))).setCell ⟨w.heap.size, 4, none⟩ (.int .u64 ((word z.set.testBit 3 : Nat) : Int))).setCell ⟨w.heap.size, 5, none⟩ (.slice B z.kids.len cap)).setCell ⟨w.heap.size, 6, none⟩ (.int .i64 z.lo)).setCell ⟨w.heap.size, 7, none⟩ (.int .i64 z.hi))) :
    Blk w' w.heap.size 28 (ndA z B cap) ∧ Below w.heap.size w w' ∧ TreesAt w' (fun b => w.heap.size ≤ b) z.kids B := by
  have hg : wr.grownBy w' (some w.heap.size) := by rw [hw]; exact only_put8 _ _ _ _ _ _ _ _ _ _
  refine ⟨by rw [hw]; exact h.2.1.put8 _ _ _ _ _ _ _ _, by rw [hw]; exact below_put8 h.2.2.1 (Nat.le_refl _) _ _ _ _ _ _ _ _, h.2.2.2.2.1.keep (fun b o hb hl => World.cell?_of_block (hg.block b hl (fun e => by have := Option.some.inj e; have := hb.1; omega))) (fun b hb _ => by have := hb.1; omega)⟩
/-- The row of one node that a sign is laid over. -/
theorem Holds.one {w wr : World} {X : Nat} {z : Nd} {B : Option Addr} {cap : Nat} (h : Holds w X z B cap wr) : TreesAt (wr.alloc (.cells (ndA z B cap) 28)) (fun b => w.heap.size + 1 ≤ b ∧ b ≠ X) (Trees.of [z]) (some ⟨wr.heap.size, 0, none⟩) := by
  have h1 := h.2.1.lt
  have h2 := h.1.lt
  exact TreesAt.one (Blk.new _ _ _) h.2.2.2.1 (h.2.2.2.2.1.below ((Below.refl _ _).alloc (Nat.le_refl _) _)) ⟨by omega, by omega⟩

set_option maxHeartbeats 8000000 in
theorem piece_set (A : Option Addr) (cap0 : Nat) (L : List Lex) (i : Nat) (x : Lex) (w : World) (hx : L[i]? = some x) (h1 : x.kind = 1) (hA : LexsAt w w.heap.size A L) (hlen : L.length ≤ 100000) :
    Calls Tryz.prog 91 #[.slice A L.length cap0, .int .i64 (i : Int)] w (Rd07 L (postsG (leafN (maskOf x.set)) (L.drop (i + 1))) w) := by
  generalize hr : postsG (leafN (maskOf x.set)) (L.drop (i + 1)) = r
  have Hr := Lib.hid hr
  clear hr
  have hlt := (List.getElem?_eq_some_iff.1 hx).1
  obtain ⟨b, o, rfl, hbl, hc⟩ := hA.at' hx
  have hdi : (i : Int) < (L.length : Int) := by omega
  have hb1 : Below w.heap.size w (w.alloc (.cells #[.int .i64 0, .int .u64 0, .int .u64 0, .int .u64 0, .int .u64 0, .slice none 0 0, .int .i64 0, .int .i64 0] 28)) := (Below.refl _ _).alloc (Nat.le_refl _) _
  have HA := Lib.hid hA
  obtain ⟨c0, _, c2, c3, c4, c5, _⟩ := hc
  rw [h1] at c0
  have c3' : w.cell? ⟨b, o + i * 8 + 2 + 1, none⟩ = some (.int .u64 ((word x.set 1 : Nat) : Int)) := c3
  have c4' : w.cell? ⟨b, o + i * 8 + 2 + 2, none⟩ = some (.int .u64 ((word x.set 2 : Nat) : Int)) := c4
  have c5' : w.cell? ⟨b, o + i * 8 + 2 + 3, none⟩ = some (.int .u64 ((word x.set 3 : Nat) : Int)) := c5
  have HZ := Lib.hid (Blk.new w 28 #[.int .i64 0, .int .u64 0, .int .u64 0, .int .u64 0, .int .u64 0, .slice none 0 0, .int .i64 0, .int .i64 0])
  have HB := Lib.hid hb1
  have Hx := Lib.hid hx
  clear hA hb1 c3 c4 c5 hx h1
  go_enter Tryz.func91, Tryz.ntmps91
  go_wp2_with fail
  refine (nbytes_any x.set _).mono ?_
  rintro e w2 ⟨rfl, hb2⟩
  have hc0 := (hb2.cell (p := ⟨b, o + i * 8, none⟩) (by simp; omega)).trans ((HB.out.cell (p := ⟨b, o + i * 8, none⟩) hbl).trans c0)
  have hw2 : w.heap.size < w2.heap.size := by have := hb2.size; simp at this; omega
  have hbl2 : b < w2.heap.size := by omega
  have H0 : Hid (InPiece w w2.heap.size L r (.int .i64 ((i : Int) + 1)) (w2.alloc (.cells (ndA (leafN (maskOf x.set)) none 0) 28))) :=
    Lib.hid ⟨i + 1, leafN (maskOf x.set), none, 0, by go_num, by omega, Hr.out, Blk.new _ _ _, (HZ.out.below hb2 HZ.out.lt).alloc _, (HB.out.trans (hb2.mono HB.out.size)).alloc (by omega) _, Nat.le_refl _, trivial, hw2⟩
  clear hb2 HZ HB c0 c2 c3' c4' c5'
  have hv3 : ndV (leafN (maskOf x.set)) none 0 = .agg #[.int .i64 3, .int .u64 ((word ((maskOf x.set).testBit) 0 : Nat) : Int), .int .u64 ((word ((maskOf x.set).testBit) 1 : Nat) : Int), .int .u64 ((word ((maskOf x.set).testBit) 2 : Nat) : Int), .int .u64 ((word ((maskOf x.set).testBit) 3 : Nat) : Int), .slice none 0 0, .int .i64 0, .int .i64 0] := rfl
  rw [hv3]
  clear hv3
  dsimp only
  go_wp2
  go_loopw [7] (fun i wr => InPiece w w2.heap.size L r i wr) (fun i _ => L.length - (intOf i).toNat)
  case atStart => exact H0.out
  case round =>
    clear H0 hc0
    generalize hX : w2.heap.size = X at *
    clear hX
    obtain ⟨j, z, B, cap, rfl, hj, hz, hH⟩ := hrel
    have HH := Lib.hid hH
    have hzl := hH.2.1.lt
    have hXl := hH.1.lt
    have hwX := hH.2.2.2.2.2
    have x0 : wr.cell? ⟨X, 0, none⟩ = some (.int .i64 z.kind) := hH.1.cell 0
    have x1 : wr.cell? ⟨X, 1, none⟩ = some (.int .u64 ((word z.set.testBit 0 : Nat) : Int)) := hH.1.cell 1
    have x2 : wr.cell? ⟨X, 2, none⟩ = some (.int .u64 ((word z.set.testBit 1 : Nat) : Int)) := hH.1.cell 2
    have x3 : wr.cell? ⟨X, 3, none⟩ = some (.int .u64 ((word z.set.testBit 2 : Nat) : Int)) := hH.1.cell 3
    have x4 : wr.cell? ⟨X, 4, none⟩ = some (.int .u64 ((word z.set.testBit 3 : Nat) : Int)) := hH.1.cell 4
    have x5 : wr.cell? ⟨X, 5, none⟩ = some (.slice B z.kids.len cap) := hH.1.cell 5
    have x6 : wr.cell? ⟨X, 6, none⟩ = some (.int .i64 z.lo) := hH.1.cell 6
    have x7 : wr.cell? ⟨X, 7, none⟩ = some (.int .i64 z.hi) := hH.1.cell 7
    have f0 := hH.1.frozen 0
    have f1 := hH.1.frozen 1
    have f2 := hH.1.frozen 2
    have f3 := hH.1.frozen 3
    have f4 := hH.1.frozen 4
    have f5 := hH.1.frozen 5
    have f6 := hH.1.frozen 6
    have f7 := hH.1.frozen 7
    have y0 : wr.cell? ⟨w.heap.size, 0, none⟩ = some (.int .i64 0) := hH.2.1.cell 0
    have y1 : wr.cell? ⟨w.heap.size, 1, none⟩ = some (.int .u64 0) := hH.2.1.cell 1
    have y2 : wr.cell? ⟨w.heap.size, 2, none⟩ = some (.int .u64 0) := hH.2.1.cell 2
    have y3 : wr.cell? ⟨w.heap.size, 3, none⟩ = some (.int .u64 0) := hH.2.1.cell 3
    have y4 : wr.cell? ⟨w.heap.size, 4, none⟩ = some (.int .u64 0) := hH.2.1.cell 4
    have y5 : wr.cell? ⟨w.heap.size, 5, none⟩ = some (.slice none 0 0) := hH.2.1.cell 5
    have y6 : wr.cell? ⟨w.heap.size, 6, none⟩ = some (.int .i64 0) := hH.2.1.cell 6
    have y7 : wr.cell? ⟨w.heap.size, 7, none⟩ = some (.int .i64 0) := hH.2.1.cell 7
    have g0 := hH.2.1.frozen 0
    have g1 := hH.2.1.frozen 1
    have g2 := hH.2.1.frozen 2
    have g3 := hH.2.1.frozen 3
    have g4 := hH.2.1.frozen 4
    have g5 := hH.2.1.frozen 5
    have g6 := hH.2.1.frozen 6
    have g7 := hH.2.1.frozen 7
    by_cases hlt : j < L.length
    · obtain ⟨y, hy⟩ : ∃ y, L[j]? = some y := ⟨_, List.getElem?_eq_getElem hlt⟩
      obtain ⟨b', o', hbo, hbl', c0, _, _, _, _, _, c6, c7⟩ := ((HA.out.below hH.2.2.1).more hH.2.2.1.size).at' hy
      obtain ⟨rfl, rfl⟩ : b = b' ∧ o = o' := by simpa using hbo
      have hdl : (j : Int) < (L.length : Int) := by omega
      clear hbo
      rw [drop_cons hy] at hz
      clear hH hy
      by_cases hpost : isPost y.kind = true
      · have hk5 := (isPost_iff _).1 hpost
        have HR := Lib.hid ((postsG_go hpost).symm.trans hz)
        have hk : y.kind = 5 ∨ y.kind = 6 ∨ y.kind = 7 ∨ y.kind = 8 := by omega
        clear hpost hz g0 g1 g2 g3 g4 g5 g6 g7 y0 y1 y2 y3 y4 y5 y6 y7 hk5
        rcases hk with hk | hk | hk | hk
        · have HZ := Lib.hid (show postsG ⟨6, 0, Trees.of [z], 0, 0⟩ (L.drop (j + 1)) = r by rw [← HR.out]; unfold postN; rw [if_neg (by omega), hk]; rfl)
          have HO := Lib.hid (nof_go 6 _ (some ⟨wr.heap.size, 0, none⟩) 1 [z] _ (by simp) (by simp) HH.out.one)
          rw [hk] at c0
          go_wp2_with fail
          refine HO.out.mono ?_
          rintro e w2 ⟨B2, cap2, rfl, hb2, hc2, ht2⟩
          have hb2' := ((Below.refl wr.heap.size wr).alloc (Nat.le_refl _) (.cells (ndA z B cap) 28)).trans (hb2.mono (by simp))
          have hH2 := HH.out.below hb2'
          have x0 : w2.cell? ⟨X, 0, none⟩ = some (.int .i64 z.kind) := hH2.1.cell 0
          have x1 : w2.cell? ⟨X, 1, none⟩ = some (.int .u64 ((word z.set.testBit 0 : Nat) : Int)) := hH2.1.cell 1
          have x2 : w2.cell? ⟨X, 2, none⟩ = some (.int .u64 ((word z.set.testBit 1 : Nat) : Int)) := hH2.1.cell 2
          have x3 : w2.cell? ⟨X, 3, none⟩ = some (.int .u64 ((word z.set.testBit 2 : Nat) : Int)) := hH2.1.cell 3
          have x4 : w2.cell? ⟨X, 4, none⟩ = some (.int .u64 ((word z.set.testBit 3 : Nat) : Int)) := hH2.1.cell 4
          have x5 : w2.cell? ⟨X, 5, none⟩ = some (.slice B z.kids.len cap) := hH2.1.cell 5
          have x6 : w2.cell? ⟨X, 6, none⟩ = some (.int .i64 z.lo) := hH2.1.cell 6
          have x7 : w2.cell? ⟨X, 7, none⟩ = some (.int .i64 z.hi) := hH2.1.cell 7
          have f0 := hH2.1.frozen 0
          have f1 := hH2.1.frozen 1
          have f2 := hH2.1.frozen 2
          have f3 := hH2.1.frozen 3
          have f4 := hH2.1.frozen 4
          have f5 := hH2.1.frozen 5
          have f6 := hH2.1.frozen 6
          have f7 := hH2.1.frozen 7

          have HT2 := Lib.hid (ht2.weak (Q := fun b => w.heap.size + 1 ≤ b ∧ b ≠ X) (fun b hb _ => by rcases hb with h | h; exact h; simp at h; omega))
          have HB2 := Lib.hid hb2'
          clear hb2 hb2' hH2 ht2 HO
          rw [ndV_plain]
          dsimp only
          go_wp2
          go_light
          go_roundw
          case rel => exact ⟨j + 1, _, B2, cap2, by go_num, by omega, HZ.out, HH.out.next (z' := ⟨6, 0, Trees.of [z], 0, 0⟩) HB2.out hc2 HT2.out (by simp only [word_zero]; rfl)⟩
          case measure => simp [intOf]; omega
        · have HZ := Lib.hid (show postsG ⟨7, 0, Trees.of [z], 0, 0⟩ (L.drop (j + 1)) = r by rw [← HR.out]; unfold postN; rw [if_neg (by omega), hk]; rfl)
          have HO := Lib.hid (nof_go 7 _ (some ⟨wr.heap.size, 0, none⟩) 1 [z] _ (by simp) (by simp) HH.out.one)
          rw [hk] at c0
          go_wp2_with fail
          refine HO.out.mono ?_
          rintro e w2 ⟨B2, cap2, rfl, hb2, hc2, ht2⟩
          have hb2' := ((Below.refl wr.heap.size wr).alloc (Nat.le_refl _) (.cells (ndA z B cap) 28)).trans (hb2.mono (by simp))
          have hH2 := HH.out.below hb2'
          have x0 : w2.cell? ⟨X, 0, none⟩ = some (.int .i64 z.kind) := hH2.1.cell 0
          have x1 : w2.cell? ⟨X, 1, none⟩ = some (.int .u64 ((word z.set.testBit 0 : Nat) : Int)) := hH2.1.cell 1
          have x2 : w2.cell? ⟨X, 2, none⟩ = some (.int .u64 ((word z.set.testBit 1 : Nat) : Int)) := hH2.1.cell 2
          have x3 : w2.cell? ⟨X, 3, none⟩ = some (.int .u64 ((word z.set.testBit 2 : Nat) : Int)) := hH2.1.cell 3
          have x4 : w2.cell? ⟨X, 4, none⟩ = some (.int .u64 ((word z.set.testBit 3 : Nat) : Int)) := hH2.1.cell 4
          have x5 : w2.cell? ⟨X, 5, none⟩ = some (.slice B z.kids.len cap) := hH2.1.cell 5
          have x6 : w2.cell? ⟨X, 6, none⟩ = some (.int .i64 z.lo) := hH2.1.cell 6
          have x7 : w2.cell? ⟨X, 7, none⟩ = some (.int .i64 z.hi) := hH2.1.cell 7
          have f0 := hH2.1.frozen 0
          have f1 := hH2.1.frozen 1
          have f2 := hH2.1.frozen 2
          have f3 := hH2.1.frozen 3
          have f4 := hH2.1.frozen 4
          have f5 := hH2.1.frozen 5
          have f6 := hH2.1.frozen 6
          have f7 := hH2.1.frozen 7

          have HT2 := Lib.hid (ht2.weak (Q := fun b => w.heap.size + 1 ≤ b ∧ b ≠ X) (fun b hb _ => by rcases hb with h | h; exact h; simp at h; omega))
          have HB2 := Lib.hid hb2'
          clear hb2 hb2' hH2 ht2 HO
          rw [ndV_plain]
          dsimp only
          go_wp2
          go_light
          go_roundw
          case rel => exact ⟨j + 1, _, B2, cap2, by go_num, by omega, HZ.out, HH.out.next (z' := ⟨7, 0, Trees.of [z], 0, 0⟩) HB2.out hc2 HT2.out (by simp only [word_zero]; rfl)⟩
          case measure => simp [intOf]; omega
        · have HZ := Lib.hid (show postsG ⟨8, 0, Trees.of [z], 0, 0⟩ (L.drop (j + 1)) = r by rw [← HR.out]; unfold postN; rw [if_neg (by omega), hk]; rfl)
          have HO := Lib.hid (nof_go 8 _ (some ⟨wr.heap.size, 0, none⟩) 1 [z] _ (by simp) (by simp) HH.out.one)
          rw [hk] at c0
          go_wp2_with fail
          refine HO.out.mono ?_
          rintro e w2 ⟨B2, cap2, rfl, hb2, hc2, ht2⟩
          have hb2' := ((Below.refl wr.heap.size wr).alloc (Nat.le_refl _) (.cells (ndA z B cap) 28)).trans (hb2.mono (by simp))
          have hH2 := HH.out.below hb2'
          have x0 : w2.cell? ⟨X, 0, none⟩ = some (.int .i64 z.kind) := hH2.1.cell 0
          have x1 : w2.cell? ⟨X, 1, none⟩ = some (.int .u64 ((word z.set.testBit 0 : Nat) : Int)) := hH2.1.cell 1
          have x2 : w2.cell? ⟨X, 2, none⟩ = some (.int .u64 ((word z.set.testBit 1 : Nat) : Int)) := hH2.1.cell 2
          have x3 : w2.cell? ⟨X, 3, none⟩ = some (.int .u64 ((word z.set.testBit 2 : Nat) : Int)) := hH2.1.cell 3
          have x4 : w2.cell? ⟨X, 4, none⟩ = some (.int .u64 ((word z.set.testBit 3 : Nat) : Int)) := hH2.1.cell 4
          have x5 : w2.cell? ⟨X, 5, none⟩ = some (.slice B z.kids.len cap) := hH2.1.cell 5
          have x6 : w2.cell? ⟨X, 6, none⟩ = some (.int .i64 z.lo) := hH2.1.cell 6
          have x7 : w2.cell? ⟨X, 7, none⟩ = some (.int .i64 z.hi) := hH2.1.cell 7
          have f0 := hH2.1.frozen 0
          have f1 := hH2.1.frozen 1
          have f2 := hH2.1.frozen 2
          have f3 := hH2.1.frozen 3
          have f4 := hH2.1.frozen 4
          have f5 := hH2.1.frozen 5
          have f6 := hH2.1.frozen 6
          have f7 := hH2.1.frozen 7

          have HT2 := Lib.hid (ht2.weak (Q := fun b => w.heap.size + 1 ≤ b ∧ b ≠ X) (fun b hb _ => by rcases hb with h | h; exact h; simp at h; omega))
          have HB2 := Lib.hid hb2'
          clear hb2 hb2' hH2 ht2 HO
          rw [ndV_plain]
          dsimp only
          go_wp2
          go_light
          go_roundw
          case rel => exact ⟨j + 1, _, B2, cap2, by go_num, by omega, HZ.out, HH.out.next (z' := ⟨8, 0, Trees.of [z], 0, 0⟩) HB2.out hc2 HT2.out (by simp only [word_zero]; rfl)⟩
          case measure => simp [intOf]; omega
        · have HZ := Lib.hid (show postsG ⟨9, 0, Trees.of [z], y.lo, y.hi⟩ (L.drop (j + 1)) = r by rw [← HR.out]; unfold postN; rw [if_pos hk])
          rw [hk] at c0
          obtain ⟨W1, hW1⟩ : ∃ W1, wr.alloc (.cells #[.int .i64 z.kind, .int .u64 ((word z.set.testBit 0 : Nat) : Int), .int .u64 ((word z.set.testBit 1 : Nat) : Int), .int .u64 ((word z.set.testBit 2 : Nat) : Int), .int .u64 ((word z.set.testBit 3 : Nat) : Int), .slice B z.kids.len cap, .int .i64 z.lo, .int .i64 z.hi] 28) = W1 := ⟨_, rfl⟩
          have hb1 : Below wr.heap.size wr W1 := by rw [← hW1]; exact (Below.refl wr.heap.size wr).alloc (Nat.le_refl _) _
          have hH1 := HH.out.below hb1
          have HO := Lib.hid (nrep_go (fun b => w.heap.size + 1 ≤ b ∧ b ≠ X) z B cap y.lo y.hi W1.drew hH1.2.2.2.1 hH1.drew.2.2.2.2.1)
          have c6 := (hb1.cell (p := ⟨b, o + j * 8 + 6, none⟩) hbl').trans c6
          have c7 := (hb1.cell (p := ⟨b, o + j * 8 + 7, none⟩) hbl').trans c7
          have c0 := (hb1.cell (p := ⟨b, o + j * 8, none⟩) hbl').trans c0
          have HW1 := Lib.hid hW1
          have HH1 := Lib.hid hH1
          have HB1 := Lib.hid hb1
          go_wp2
          clear hW1 hb1 x0 x1 x2 x3 x4 x5 x6 x7 f0 f1 f2 f3 f4 f5 f6 f7 c0
          have x0 : W1.cell? ⟨X, 0, none⟩ = some (.int .i64 z.kind) := hH1.1.cell 0
          have x1 : W1.cell? ⟨X, 1, none⟩ = some (.int .u64 ((word z.set.testBit 0 : Nat) : Int)) := hH1.1.cell 1
          have x2 : W1.cell? ⟨X, 2, none⟩ = some (.int .u64 ((word z.set.testBit 1 : Nat) : Int)) := hH1.1.cell 2
          have x3 : W1.cell? ⟨X, 3, none⟩ = some (.int .u64 ((word z.set.testBit 2 : Nat) : Int)) := hH1.1.cell 3
          have x4 : W1.cell? ⟨X, 4, none⟩ = some (.int .u64 ((word z.set.testBit 3 : Nat) : Int)) := hH1.1.cell 4
          have x5 : W1.cell? ⟨X, 5, none⟩ = some (.slice B z.kids.len cap) := hH1.1.cell 5
          have x6 : W1.cell? ⟨X, 6, none⟩ = some (.int .i64 z.lo) := hH1.1.cell 6
          have x7 : W1.cell? ⟨X, 7, none⟩ = some (.int .i64 z.hi) := hH1.1.cell 7
          have f0 := hH1.1.frozen 0
          have f1 := hH1.1.frozen 1
          have f2 := hH1.1.frozen 2
          have f3 := hH1.1.frozen 3
          have f4 := hH1.1.frozen 4
          have f5 := hH1.1.frozen 5
          have f6 := hH1.1.frozen 6
          have f7 := hH1.1.frozen 7
          clear hH1
          go_still_tail 11, (by kernel_rfl)
          change wpList _ _ _ _ _ W1.drew
          clear c0 c6 c7
          go_wp2_with fail
          refine HO.out.mono ?_
          rintro e w3 ⟨B2, cap2, rfl, hb2, hc2, ht2⟩
          have hb2' := ((HB1.out.drew).trans (hb2.mono (by have := HB1.out.size; exact this)))
          have hH2 := HH.out.below hb2'
          have hX1 := HH1.out.1.lt
          clear x0 x1 x2 x3 x4 x5 x6 x7 f0 f1 f2 f3 f4 f5 f6 f7
          have x0 : w3.cell? ⟨X, 0, none⟩ = some (.int .i64 z.kind) := hH2.1.cell 0
          have x1 : w3.cell? ⟨X, 1, none⟩ = some (.int .u64 ((word z.set.testBit 0 : Nat) : Int)) := hH2.1.cell 1
          have x2 : w3.cell? ⟨X, 2, none⟩ = some (.int .u64 ((word z.set.testBit 1 : Nat) : Int)) := hH2.1.cell 2
          have x3 : w3.cell? ⟨X, 3, none⟩ = some (.int .u64 ((word z.set.testBit 2 : Nat) : Int)) := hH2.1.cell 3
          have x4 : w3.cell? ⟨X, 4, none⟩ = some (.int .u64 ((word z.set.testBit 3 : Nat) : Int)) := hH2.1.cell 4
          have x5 : w3.cell? ⟨X, 5, none⟩ = some (.slice B z.kids.len cap) := hH2.1.cell 5
          have x6 : w3.cell? ⟨X, 6, none⟩ = some (.int .i64 z.lo) := hH2.1.cell 6
          have x7 : w3.cell? ⟨X, 7, none⟩ = some (.int .i64 z.hi) := hH2.1.cell 7
          have f0 := hH2.1.frozen 0
          have f1 := hH2.1.frozen 1
          have f2 := hH2.1.frozen 2
          have f3 := hH2.1.frozen 3
          have f4 := hH2.1.frozen 4
          have f5 := hH2.1.frozen 5
          have f6 := hH2.1.frozen 6
          have f7 := hH2.1.frozen 7
          have HT2 := Lib.hid (ht2.weak (Q := fun b => w.heap.size + 1 ≤ b ∧ b ≠ X) (fun b hb _ => by rcases hb with h | h; exact h; exact ⟨by have := HB1.out.size; have : W1.heap.size ≤ b := h; omega, by have : W1.heap.size ≤ b := h; omega⟩))
          have HB2 := Lib.hid hb2'
          clear hb2 hb2' hH2 ht2 HO
          have hv9 : ndV ⟨9, 0, Trees.of [z], y.lo, y.hi⟩ B2 cap2 = .agg #[.int .i64 9, .int .u64 0, .int .u64 0, .int .u64 0, .int .u64 0, .slice B2 (Trees.of [z]).len cap2, .int .i64 y.lo, .int .i64 y.hi] := ndV_plain _ _ _ _ _ _
          rw [hv9]
          clear hv9
          dsimp only
          go_wp2
          go_light
          go_roundw
          case rel => exact ⟨j + 1, _, B2, cap2, by go_num, by omega, HZ.out, HH.out.next (z' := ⟨9, 0, Trees.of [z], y.lo, y.hi⟩) HB2.out hc2 HT2.out (by simp only [word_zero]; rfl)⟩
          case measure => simp [intOf]; omega
      · have hk5 : ¬ (5 ≤ y.kind ∧ y.kind ≤ 8) := fun h => hpost ((isPost_iff _).2 h)
        have k5 : (y.kind == 5) = false := by simp; omega
        have k6 : (y.kind == 6) = false := by simp; omega
        have k7 : (y.kind == 7) = false := by simp; omega
        have k8 : (y.kind == 8) = false := by simp; omega
        have HR := Lib.hid ((postsG_stop (by simpa using hpost)).symm.trans hz)
        have hjl : L.length - (y :: L.drop (j + 1)).length = j := by simp; omega
        have Hjl := Lib.hid hjl
        clear hz hpost hk5 hjl
        go_wp2
        go_light
        have hF := HH.out.done rfl
        rw [← HR.out]
        exact bodyPost_ret (ret_atom Tryz.results91 rfl rfl (Blk.alloc hF.1 _)) rfl ⟨B, cap, by show _ = Ending.returned (.tuple #[_, .int .i64 ((L.length - (y :: L.drop (j + 1)).length : Nat) : Int)]); rw [Hjl.out]; rfl, hF.2.1.alloc hF.2.1.size _, HH.out.2.2.2.1, hF.2.2.below ((Below.refl _ _).alloc (Nat.le_refl _) _)⟩
    · have hdr : L.drop j = [] := List.drop_eq_nil_of_le (by omega)
      rw [hdr] at hz
      have HR := Lib.hid hz
      have Hjl := Lib.hid (show L.length - ([] : List Lex).length = j by simp; omega)
      have hdl : ¬ (j : Int) < (L.length : Int) := by omega
      clear hz hH hdr
      go_wp2
      go_light
      have hF := HH.out.done rfl
      rw [← HR.out]
      exact bodyPost_ret (ret_atom Tryz.results91 rfl rfl hF.1) rfl ⟨B, cap, by show _ = Ending.returned (.tuple #[_, .int .i64 ((L.length - ([] : List Lex).length : Nat) : Int)]); rw [Hjl.out]; rfl, hF.2.1, HH.out.2.2.2.1, hF.2.2⟩


set_option maxHeartbeats 8000000 in
theorem piece_open (A : Option Addr) (cap0 : Nat) (L : List Lex) (i j0 : Nat) (y0 : Lex) (x : Nd) (w : World) (hx : L[i]? = some y0) (h2 : y0.kind = 2) (hA : LexsAt w w.heap.size A L) (hlen : L.length ≤ 100000) (hj0 : j0 + 1 ≤ L.length)
    (halt : ∀ w1, LexsAt w1 w1.heap.size A L → Calls Tryz.prog 45 #[.slice A L.length cap0, .int .i64 ((i : Int) + 1)] w1 (RGives x j0 w1)) :
    Calls Tryz.prog 91 #[.slice A L.length cap0, .int .i64 (i : Int)] w (Rd07 L (postsG x (L.drop (j0 + 1))) w) := by
  generalize hr : postsG x (L.drop (j0 + 1)) = r
  have Hr := Lib.hid hr
  clear hr
  have hlt := (List.getElem?_eq_some_iff.1 hx).1
  obtain ⟨b, o, rfl, hbl, hc⟩ := hA.at' hx
  have hdi : (i : Int) < (L.length : Int) := by omega
  have hb1 : Below w.heap.size w (w.alloc (.cells #[.int .i64 0, .int .u64 0, .int .u64 0, .int .u64 0, .int .u64 0, .slice none 0 0, .int .i64 0, .int .i64 0] 28)) := (Below.refl _ _).alloc (Nat.le_refl _) _
  have HA := Lib.hid hA
  obtain ⟨c0, _, c2, c3, c4, c5, _⟩ := hc
  rw [h2] at c0
  have c3' : w.cell? ⟨b, o + i * 8 + 2 + 1, none⟩ = some (.int .u64 ((word y0.set 1 : Nat) : Int)) := c3
  have c4' : w.cell? ⟨b, o + i * 8 + 2 + 2, none⟩ = some (.int .u64 ((word y0.set 2 : Nat) : Int)) := c4
  have c5' : w.cell? ⟨b, o + i * 8 + 2 + 3, none⟩ = some (.int .u64 ((word y0.set 3 : Nat) : Int)) := c5
  have HZ := Lib.hid (Blk.new w 28 #[.int .i64 0, .int .u64 0, .int .u64 0, .int .u64 0, .int .u64 0, .slice none 0 0, .int .i64 0, .int .i64 0])
  have HB := Lib.hid hb1
  have Halt := Lib.hid halt
  clear hA hb1 c3 c4 c5 hx h2 halt
  go_enter Tryz.func91, Tryz.ntmps91
  go_wp2_with fail
  refine (nbytes_any y0.set _).mono ?_
  rintro e w2 ⟨rfl, hb2⟩
  have hc0 := (hb2.cell (p := ⟨b, o + i * 8, none⟩) (by simp; omega)).trans ((HB.out.cell (p := ⟨b, o + i * 8, none⟩) hbl).trans c0)
  have hw2 : w.heap.size < w2.heap.size := by have := hb2.size; simp at this; omega
  have hbl2 : b < w2.heap.size := by omega
  have hH3 : Holds w w2.heap.size (leafN (maskOf y0.set)) none 0 (w2.alloc (.cells (ndA (leafN (maskOf y0.set)) none 0) 28)) :=
    ⟨Blk.new _ _ _, (HZ.out.below hb2 HZ.out.lt).alloc _, (HB.out.trans (hb2.mono HB.out.size)).alloc (by omega) _, Nat.le_refl _, trivial, hw2⟩
  have HH3 := Lib.hid hH3
  have HL3 := Lib.hid ((HA.out.below hH3.2.2.1).more hH3.2.2.1.size)
  clear hb2 HZ HB c0 c2 c3' c4' c5' hH3
  have hv3 : ndV (leafN (maskOf y0.set)) none 0 = .agg #[.int .i64 3, .int .u64 ((word ((maskOf y0.set).testBit) 0 : Nat) : Int), .int .u64 ((word ((maskOf y0.set).testBit) 1 : Nat) : Int), .int .u64 ((word ((maskOf y0.set).testBit) 2 : Nat) : Int), .int .u64 ((word ((maskOf y0.set).testBit) 3 : Nat) : Int), .slice none 0 0, .int .i64 0, .int .i64 0] := rfl
  rw [hv3]
  clear hv3
  dsimp only
  go_wp2_with fail
  refine (Halt.out _ HL3.out).mono ?_
  rintro e w4 ⟨B4, cap4, rfl, hb4, hc4, ht4⟩
  have hH4 := HH3.out.below hb4
  have hX3 := HH3.out.1.lt
  have hZ3 := HH3.out.2.1.lt
  have x0 : w4.cell? ⟨w2.heap.size, 0, none⟩ = some (.int .i64 3) := hH4.1.cell 0
  have x1 : w4.cell? ⟨w2.heap.size, 1, none⟩ = some (.int .u64 ((word (maskOf y0.set).testBit 0 : Nat) : Int)) := hH4.1.cell 1
  have x2 : w4.cell? ⟨w2.heap.size, 2, none⟩ = some (.int .u64 ((word (maskOf y0.set).testBit 1 : Nat) : Int)) := hH4.1.cell 2
  have x3 : w4.cell? ⟨w2.heap.size, 3, none⟩ = some (.int .u64 ((word (maskOf y0.set).testBit 2 : Nat) : Int)) := hH4.1.cell 3
  have x4 : w4.cell? ⟨w2.heap.size, 4, none⟩ = some (.int .u64 ((word (maskOf y0.set).testBit 3 : Nat) : Int)) := hH4.1.cell 4
  have x5 : w4.cell? ⟨w2.heap.size, 5, none⟩ = some (.slice none 0 0) := hH4.1.cell 5
  have x6 : w4.cell? ⟨w2.heap.size, 6, none⟩ = some (.int .i64 0) := hH4.1.cell 6
  have x7 : w4.cell? ⟨w2.heap.size, 7, none⟩ = some (.int .i64 0) := hH4.1.cell 7
  have f0 := hH4.1.frozen 0
  have f1 := hH4.1.frozen 1
  have f2 := hH4.1.frozen 2
  have f3 := hH4.1.frozen 3
  have f4 := hH4.1.frozen 4
  have f5 := hH4.1.frozen 5
  have f6 := hH4.1.frozen 6
  have f7 := hH4.1.frozen 7
  have HT4 := Lib.hid (ht4.weak (Q := fun b => w.heap.size + 1 ≤ b ∧ b ≠ w2.heap.size) (fun b hb _ => ⟨by omega, by omega⟩))
  have HB4 := Lib.hid hb4
  clear hb4 ht4 hH4 HL3 Halt
  unfold ndV
  dsimp only
  go_wp2
  have H0 : Hid (InPiece w w2.heap.size L r (.int .i64 ((j0 : Int) + 1)) ((((((((w4.setCell ⟨w2.heap.size, 0, none⟩ (.int .i64 x.kind)).setCell ⟨w2.heap.size, 1, none⟩ (.int .u64 ((word x.set.testBit 0 : Nat) : Int))).setCell ⟨w2.heap.size, 2, none⟩ (.int .u64 ((word x.set.testBit 1 : Nat) : Int))).setCell ⟨w2.heap.size, 3, none⟩ (.int .u64 ((word x.set.testBit 2 : Nat) : Int))).setCell ⟨w2.heap.size, 4, none⟩ (.int .u64 ((word x.set.testBit 3 : Nat) : Int))).setCell ⟨w2.heap.size, 5, none⟩ (.slice B4 x.kids.len cap4)).setCell ⟨w2.heap.size, 6, none⟩ (.int .i64 x.lo)).setCell ⟨w2.heap.size, 7, none⟩ (.int .i64 x.hi))) :=
    Lib.hid ⟨j0 + 1, x, B4, cap4, by go_num, hj0, Hr.out, HH3.out.next HB4.out hc4 HT4.out rfl⟩
  clear x0 x1 x2 x3 x4 x5 x6 x7 f0 f1 f2 f3 f4 f5 f6 f7 HH3 HT4 HB4 hX3 hZ3
  go_loopw [7] (fun i wr => InPiece w w2.heap.size L r i wr) (fun i _ => L.length - (intOf i).toNat)
  case atStart => exact H0.out
  case round =>
    clear H0 hc0
    generalize hX : w2.heap.size = X at *
    clear hX
    obtain ⟨j, z, B, cap, rfl, hj, hz, hH⟩ := hrel
    have HH := Lib.hid hH
    have hzl := hH.2.1.lt
    have hXl := hH.1.lt
    have hwX := hH.2.2.2.2.2
    have x0 : wr.cell? ⟨X, 0, none⟩ = some (.int .i64 z.kind) := hH.1.cell 0
    have x1 : wr.cell? ⟨X, 1, none⟩ = some (.int .u64 ((word z.set.testBit 0 : Nat) : Int)) := hH.1.cell 1
    have x2 : wr.cell? ⟨X, 2, none⟩ = some (.int .u64 ((word z.set.testBit 1 : Nat) : Int)) := hH.1.cell 2
    have x3 : wr.cell? ⟨X, 3, none⟩ = some (.int .u64 ((word z.set.testBit 2 : Nat) : Int)) := hH.1.cell 3
    have x4 : wr.cell? ⟨X, 4, none⟩ = some (.int .u64 ((word z.set.testBit 3 : Nat) : Int)) := hH.1.cell 4
    have x5 : wr.cell? ⟨X, 5, none⟩ = some (.slice B z.kids.len cap) := hH.1.cell 5
    have x6 : wr.cell? ⟨X, 6, none⟩ = some (.int .i64 z.lo) := hH.1.cell 6
    have x7 : wr.cell? ⟨X, 7, none⟩ = some (.int .i64 z.hi) := hH.1.cell 7
    have f0 := hH.1.frozen 0
    have f1 := hH.1.frozen 1
    have f2 := hH.1.frozen 2
    have f3 := hH.1.frozen 3
    have f4 := hH.1.frozen 4
    have f5 := hH.1.frozen 5
    have f6 := hH.1.frozen 6
    have f7 := hH.1.frozen 7
    have y0 : wr.cell? ⟨w.heap.size, 0, none⟩ = some (.int .i64 0) := hH.2.1.cell 0
    have y1 : wr.cell? ⟨w.heap.size, 1, none⟩ = some (.int .u64 0) := hH.2.1.cell 1
    have y2 : wr.cell? ⟨w.heap.size, 2, none⟩ = some (.int .u64 0) := hH.2.1.cell 2
    have y3 : wr.cell? ⟨w.heap.size, 3, none⟩ = some (.int .u64 0) := hH.2.1.cell 3
    have y4 : wr.cell? ⟨w.heap.size, 4, none⟩ = some (.int .u64 0) := hH.2.1.cell 4
    have y5 : wr.cell? ⟨w.heap.size, 5, none⟩ = some (.slice none 0 0) := hH.2.1.cell 5
    have y6 : wr.cell? ⟨w.heap.size, 6, none⟩ = some (.int .i64 0) := hH.2.1.cell 6
    have y7 : wr.cell? ⟨w.heap.size, 7, none⟩ = some (.int .i64 0) := hH.2.1.cell 7
    have g0 := hH.2.1.frozen 0
    have g1 := hH.2.1.frozen 1
    have g2 := hH.2.1.frozen 2
    have g3 := hH.2.1.frozen 3
    have g4 := hH.2.1.frozen 4
    have g5 := hH.2.1.frozen 5
    have g6 := hH.2.1.frozen 6
    have g7 := hH.2.1.frozen 7
    by_cases hlt : j < L.length
    · obtain ⟨y, hy⟩ : ∃ y, L[j]? = some y := ⟨_, List.getElem?_eq_getElem hlt⟩
      obtain ⟨b', o', hbo, hbl', c0, _, _, _, _, _, c6, c7⟩ := ((HA.out.below hH.2.2.1).more hH.2.2.1.size).at' hy
      obtain ⟨rfl, rfl⟩ : b = b' ∧ o = o' := by simpa using hbo
      have hdl : (j : Int) < (L.length : Int) := by omega
      clear hbo
      rw [drop_cons hy] at hz
      clear hH hy
      by_cases hpost : isPost y.kind = true
      · have hk5 := (isPost_iff _).1 hpost
        have HR := Lib.hid ((postsG_go hpost).symm.trans hz)
        have hk : y.kind = 5 ∨ y.kind = 6 ∨ y.kind = 7 ∨ y.kind = 8 := by omega
        clear hpost hz g0 g1 g2 g3 g4 g5 g6 g7 y0 y1 y2 y3 y4 y5 y6 y7 hk5
        rcases hk with hk | hk | hk | hk
        · have HZ := Lib.hid (show postsG ⟨6, 0, Trees.of [z], 0, 0⟩ (L.drop (j + 1)) = r by rw [← HR.out]; unfold postN; rw [if_neg (by omega), hk]; rfl)
          have HO := Lib.hid (nof_go 6 _ (some ⟨wr.heap.size, 0, none⟩) 1 [z] _ (by simp) (by simp) HH.out.one)
          rw [hk] at c0
          go_wp2_with fail
          refine HO.out.mono ?_
          rintro e w2 ⟨B2, cap2, rfl, hb2, hc2, ht2⟩
          have hb2' := ((Below.refl wr.heap.size wr).alloc (Nat.le_refl _) (.cells (ndA z B cap) 28)).trans (hb2.mono (by simp))
          have hH2 := HH.out.below hb2'
          have x0 : w2.cell? ⟨X, 0, none⟩ = some (.int .i64 z.kind) := hH2.1.cell 0
          have x1 : w2.cell? ⟨X, 1, none⟩ = some (.int .u64 ((word z.set.testBit 0 : Nat) : Int)) := hH2.1.cell 1
          have x2 : w2.cell? ⟨X, 2, none⟩ = some (.int .u64 ((word z.set.testBit 1 : Nat) : Int)) := hH2.1.cell 2
          have x3 : w2.cell? ⟨X, 3, none⟩ = some (.int .u64 ((word z.set.testBit 2 : Nat) : Int)) := hH2.1.cell 3
          have x4 : w2.cell? ⟨X, 4, none⟩ = some (.int .u64 ((word z.set.testBit 3 : Nat) : Int)) := hH2.1.cell 4
          have x5 : w2.cell? ⟨X, 5, none⟩ = some (.slice B z.kids.len cap) := hH2.1.cell 5
          have x6 : w2.cell? ⟨X, 6, none⟩ = some (.int .i64 z.lo) := hH2.1.cell 6
          have x7 : w2.cell? ⟨X, 7, none⟩ = some (.int .i64 z.hi) := hH2.1.cell 7
          have f0 := hH2.1.frozen 0
          have f1 := hH2.1.frozen 1
          have f2 := hH2.1.frozen 2
          have f3 := hH2.1.frozen 3
          have f4 := hH2.1.frozen 4
          have f5 := hH2.1.frozen 5
          have f6 := hH2.1.frozen 6
          have f7 := hH2.1.frozen 7

          have HT2 := Lib.hid (ht2.weak (Q := fun b => w.heap.size + 1 ≤ b ∧ b ≠ X) (fun b hb _ => by rcases hb with h | h; exact h; simp at h; omega))
          have HB2 := Lib.hid hb2'
          clear hb2 hb2' hH2 ht2 HO
          rw [ndV_plain]
          dsimp only
          go_wp2
          go_light
          go_roundw
          case rel => exact ⟨j + 1, _, B2, cap2, by go_num, by omega, HZ.out, HH.out.next (z' := ⟨6, 0, Trees.of [z], 0, 0⟩) HB2.out hc2 HT2.out (by simp only [word_zero]; rfl)⟩
          case measure => simp [intOf]; omega
        · have HZ := Lib.hid (show postsG ⟨7, 0, Trees.of [z], 0, 0⟩ (L.drop (j + 1)) = r by rw [← HR.out]; unfold postN; rw [if_neg (by omega), hk]; rfl)
          have HO := Lib.hid (nof_go 7 _ (some ⟨wr.heap.size, 0, none⟩) 1 [z] _ (by simp) (by simp) HH.out.one)
          rw [hk] at c0
          go_wp2_with fail
          refine HO.out.mono ?_
          rintro e w2 ⟨B2, cap2, rfl, hb2, hc2, ht2⟩
          have hb2' := ((Below.refl wr.heap.size wr).alloc (Nat.le_refl _) (.cells (ndA z B cap) 28)).trans (hb2.mono (by simp))
          have hH2 := HH.out.below hb2'
          have x0 : w2.cell? ⟨X, 0, none⟩ = some (.int .i64 z.kind) := hH2.1.cell 0
          have x1 : w2.cell? ⟨X, 1, none⟩ = some (.int .u64 ((word z.set.testBit 0 : Nat) : Int)) := hH2.1.cell 1
          have x2 : w2.cell? ⟨X, 2, none⟩ = some (.int .u64 ((word z.set.testBit 1 : Nat) : Int)) := hH2.1.cell 2
          have x3 : w2.cell? ⟨X, 3, none⟩ = some (.int .u64 ((word z.set.testBit 2 : Nat) : Int)) := hH2.1.cell 3
          have x4 : w2.cell? ⟨X, 4, none⟩ = some (.int .u64 ((word z.set.testBit 3 : Nat) : Int)) := hH2.1.cell 4
          have x5 : w2.cell? ⟨X, 5, none⟩ = some (.slice B z.kids.len cap) := hH2.1.cell 5
          have x6 : w2.cell? ⟨X, 6, none⟩ = some (.int .i64 z.lo) := hH2.1.cell 6
          have x7 : w2.cell? ⟨X, 7, none⟩ = some (.int .i64 z.hi) := hH2.1.cell 7
          have f0 := hH2.1.frozen 0
          have f1 := hH2.1.frozen 1
          have f2 := hH2.1.frozen 2
          have f3 := hH2.1.frozen 3
          have f4 := hH2.1.frozen 4
          have f5 := hH2.1.frozen 5
          have f6 := hH2.1.frozen 6
          have f7 := hH2.1.frozen 7

          have HT2 := Lib.hid (ht2.weak (Q := fun b => w.heap.size + 1 ≤ b ∧ b ≠ X) (fun b hb _ => by rcases hb with h | h; exact h; simp at h; omega))
          have HB2 := Lib.hid hb2'
          clear hb2 hb2' hH2 ht2 HO
          rw [ndV_plain]
          dsimp only
          go_wp2
          go_light
          go_roundw
          case rel => exact ⟨j + 1, _, B2, cap2, by go_num, by omega, HZ.out, HH.out.next (z' := ⟨7, 0, Trees.of [z], 0, 0⟩) HB2.out hc2 HT2.out (by simp only [word_zero]; rfl)⟩
          case measure => simp [intOf]; omega
        · have HZ := Lib.hid (show postsG ⟨8, 0, Trees.of [z], 0, 0⟩ (L.drop (j + 1)) = r by rw [← HR.out]; unfold postN; rw [if_neg (by omega), hk]; rfl)
          have HO := Lib.hid (nof_go 8 _ (some ⟨wr.heap.size, 0, none⟩) 1 [z] _ (by simp) (by simp) HH.out.one)
          rw [hk] at c0
          go_wp2_with fail
          refine HO.out.mono ?_
          rintro e w2 ⟨B2, cap2, rfl, hb2, hc2, ht2⟩
          have hb2' := ((Below.refl wr.heap.size wr).alloc (Nat.le_refl _) (.cells (ndA z B cap) 28)).trans (hb2.mono (by simp))
          have hH2 := HH.out.below hb2'
          have x0 : w2.cell? ⟨X, 0, none⟩ = some (.int .i64 z.kind) := hH2.1.cell 0
          have x1 : w2.cell? ⟨X, 1, none⟩ = some (.int .u64 ((word z.set.testBit 0 : Nat) : Int)) := hH2.1.cell 1
          have x2 : w2.cell? ⟨X, 2, none⟩ = some (.int .u64 ((word z.set.testBit 1 : Nat) : Int)) := hH2.1.cell 2
          have x3 : w2.cell? ⟨X, 3, none⟩ = some (.int .u64 ((word z.set.testBit 2 : Nat) : Int)) := hH2.1.cell 3
          have x4 : w2.cell? ⟨X, 4, none⟩ = some (.int .u64 ((word z.set.testBit 3 : Nat) : Int)) := hH2.1.cell 4
          have x5 : w2.cell? ⟨X, 5, none⟩ = some (.slice B z.kids.len cap) := hH2.1.cell 5
          have x6 : w2.cell? ⟨X, 6, none⟩ = some (.int .i64 z.lo) := hH2.1.cell 6
          have x7 : w2.cell? ⟨X, 7, none⟩ = some (.int .i64 z.hi) := hH2.1.cell 7
          have f0 := hH2.1.frozen 0
          have f1 := hH2.1.frozen 1
          have f2 := hH2.1.frozen 2
          have f3 := hH2.1.frozen 3
          have f4 := hH2.1.frozen 4
          have f5 := hH2.1.frozen 5
          have f6 := hH2.1.frozen 6
          have f7 := hH2.1.frozen 7

          have HT2 := Lib.hid (ht2.weak (Q := fun b => w.heap.size + 1 ≤ b ∧ b ≠ X) (fun b hb _ => by rcases hb with h | h; exact h; simp at h; omega))
          have HB2 := Lib.hid hb2'
          clear hb2 hb2' hH2 ht2 HO
          rw [ndV_plain]
          dsimp only
          go_wp2
          go_light
          go_roundw
          case rel => exact ⟨j + 1, _, B2, cap2, by go_num, by omega, HZ.out, HH.out.next (z' := ⟨8, 0, Trees.of [z], 0, 0⟩) HB2.out hc2 HT2.out (by simp only [word_zero]; rfl)⟩
          case measure => simp [intOf]; omega
        · have HZ := Lib.hid (show postsG ⟨9, 0, Trees.of [z], y.lo, y.hi⟩ (L.drop (j + 1)) = r by rw [← HR.out]; unfold postN; rw [if_pos hk])
          rw [hk] at c0
          obtain ⟨W1, hW1⟩ : ∃ W1, wr.alloc (.cells #[.int .i64 z.kind, .int .u64 ((word z.set.testBit 0 : Nat) : Int), .int .u64 ((word z.set.testBit 1 : Nat) : Int), .int .u64 ((word z.set.testBit 2 : Nat) : Int), .int .u64 ((word z.set.testBit 3 : Nat) : Int), .slice B z.kids.len cap, .int .i64 z.lo, .int .i64 z.hi] 28) = W1 := ⟨_, rfl⟩
          have hb1 : Below wr.heap.size wr W1 := by rw [← hW1]; exact (Below.refl wr.heap.size wr).alloc (Nat.le_refl _) _
          have hH1 := HH.out.below hb1
          have HO := Lib.hid (nrep_go (fun b => w.heap.size + 1 ≤ b ∧ b ≠ X) z B cap y.lo y.hi W1.drew hH1.2.2.2.1 hH1.drew.2.2.2.2.1)
          have c6 := (hb1.cell (p := ⟨b, o + j * 8 + 6, none⟩) hbl').trans c6
          have c7 := (hb1.cell (p := ⟨b, o + j * 8 + 7, none⟩) hbl').trans c7
          have c0 := (hb1.cell (p := ⟨b, o + j * 8, none⟩) hbl').trans c0
          have HW1 := Lib.hid hW1
          have HH1 := Lib.hid hH1
          have HB1 := Lib.hid hb1
          go_wp2
          clear hW1 hb1 x0 x1 x2 x3 x4 x5 x6 x7 f0 f1 f2 f3 f4 f5 f6 f7 c0
          have x0 : W1.cell? ⟨X, 0, none⟩ = some (.int .i64 z.kind) := hH1.1.cell 0
          have x1 : W1.cell? ⟨X, 1, none⟩ = some (.int .u64 ((word z.set.testBit 0 : Nat) : Int)) := hH1.1.cell 1
          have x2 : W1.cell? ⟨X, 2, none⟩ = some (.int .u64 ((word z.set.testBit 1 : Nat) : Int)) := hH1.1.cell 2
          have x3 : W1.cell? ⟨X, 3, none⟩ = some (.int .u64 ((word z.set.testBit 2 : Nat) : Int)) := hH1.1.cell 3
          have x4 : W1.cell? ⟨X, 4, none⟩ = some (.int .u64 ((word z.set.testBit 3 : Nat) : Int)) := hH1.1.cell 4
          have x5 : W1.cell? ⟨X, 5, none⟩ = some (.slice B z.kids.len cap) := hH1.1.cell 5
          have x6 : W1.cell? ⟨X, 6, none⟩ = some (.int .i64 z.lo) := hH1.1.cell 6
          have x7 : W1.cell? ⟨X, 7, none⟩ = some (.int .i64 z.hi) := hH1.1.cell 7
          have f0 := hH1.1.frozen 0
          have f1 := hH1.1.frozen 1
          have f2 := hH1.1.frozen 2
          have f3 := hH1.1.frozen 3
          have f4 := hH1.1.frozen 4
          have f5 := hH1.1.frozen 5
          have f6 := hH1.1.frozen 6
          have f7 := hH1.1.frozen 7
          clear hH1
          go_still_tail 11, (by kernel_rfl)
          change wpList _ _ _ _ _ W1.drew
          clear c0 c6 c7
          go_wp2_with fail
          refine HO.out.mono ?_
          rintro e w3 ⟨B2, cap2, rfl, hb2, hc2, ht2⟩
          have hb2' := ((HB1.out.drew).trans (hb2.mono (by have := HB1.out.size; exact this)))
          have hH2 := HH.out.below hb2'
          have hX1 := HH1.out.1.lt
          clear x0 x1 x2 x3 x4 x5 x6 x7 f0 f1 f2 f3 f4 f5 f6 f7
          have x0 : w3.cell? ⟨X, 0, none⟩ = some (.int .i64 z.kind) := hH2.1.cell 0
          have x1 : w3.cell? ⟨X, 1, none⟩ = some (.int .u64 ((word z.set.testBit 0 : Nat) : Int)) := hH2.1.cell 1
          have x2 : w3.cell? ⟨X, 2, none⟩ = some (.int .u64 ((word z.set.testBit 1 : Nat) : Int)) := hH2.1.cell 2
          have x3 : w3.cell? ⟨X, 3, none⟩ = some (.int .u64 ((word z.set.testBit 2 : Nat) : Int)) := hH2.1.cell 3
          have x4 : w3.cell? ⟨X, 4, none⟩ = some (.int .u64 ((word z.set.testBit 3 : Nat) : Int)) := hH2.1.cell 4
          have x5 : w3.cell? ⟨X, 5, none⟩ = some (.slice B z.kids.len cap) := hH2.1.cell 5
          have x6 : w3.cell? ⟨X, 6, none⟩ = some (.int .i64 z.lo) := hH2.1.cell 6
          have x7 : w3.cell? ⟨X, 7, none⟩ = some (.int .i64 z.hi) := hH2.1.cell 7
          have f0 := hH2.1.frozen 0
          have f1 := hH2.1.frozen 1
          have f2 := hH2.1.frozen 2
          have f3 := hH2.1.frozen 3
          have f4 := hH2.1.frozen 4
          have f5 := hH2.1.frozen 5
          have f6 := hH2.1.frozen 6
          have f7 := hH2.1.frozen 7
          have HT2 := Lib.hid (ht2.weak (Q := fun b => w.heap.size + 1 ≤ b ∧ b ≠ X) (fun b hb _ => by rcases hb with h | h; exact h; exact ⟨by have := HB1.out.size; have : W1.heap.size ≤ b := h; omega, by have : W1.heap.size ≤ b := h; omega⟩))
          have HB2 := Lib.hid hb2'
          clear hb2 hb2' hH2 ht2 HO
          have hv9 : ndV ⟨9, 0, Trees.of [z], y.lo, y.hi⟩ B2 cap2 = .agg #[.int .i64 9, .int .u64 0, .int .u64 0, .int .u64 0, .int .u64 0, .slice B2 (Trees.of [z]).len cap2, .int .i64 y.lo, .int .i64 y.hi] := ndV_plain _ _ _ _ _ _
          rw [hv9]
          clear hv9
          dsimp only
          go_wp2
          go_light
          go_roundw
          case rel => exact ⟨j + 1, _, B2, cap2, by go_num, by omega, HZ.out, HH.out.next (z' := ⟨9, 0, Trees.of [z], y.lo, y.hi⟩) HB2.out hc2 HT2.out (by simp only [word_zero]; rfl)⟩
          case measure => simp [intOf]; omega
      · have hk5 : ¬ (5 ≤ y.kind ∧ y.kind ≤ 8) := fun h => hpost ((isPost_iff _).2 h)
        have k5 : (y.kind == 5) = false := by simp; omega
        have k6 : (y.kind == 6) = false := by simp; omega
        have k7 : (y.kind == 7) = false := by simp; omega
        have k8 : (y.kind == 8) = false := by simp; omega
        have HR := Lib.hid ((postsG_stop (by simpa using hpost)).symm.trans hz)
        have hjl : L.length - (y :: L.drop (j + 1)).length = j := by simp; omega
        have Hjl := Lib.hid hjl
        clear hz hpost hk5 hjl
        go_wp2
        go_light
        have hF := HH.out.done rfl
        rw [← HR.out]
        exact bodyPost_ret (ret_atom Tryz.results91 rfl rfl (Blk.alloc hF.1 _)) rfl ⟨B, cap, by show _ = Ending.returned (.tuple #[_, .int .i64 ((L.length - (y :: L.drop (j + 1)).length : Nat) : Int)]); rw [Hjl.out]; rfl, hF.2.1.alloc hF.2.1.size _, HH.out.2.2.2.1, hF.2.2.below ((Below.refl _ _).alloc (Nat.le_refl _) _)⟩
    · have hdr : L.drop j = [] := List.drop_eq_nil_of_le (by omega)
      rw [hdr] at hz
      have HR := Lib.hid hz
      have Hjl := Lib.hid (show L.length - ([] : List Lex).length = j by simp; omega)
      have hdl : ¬ (j : Int) < (L.length : Int) := by omega
      clear hz hH hdr
      go_wp2
      go_light
      have hF := HH.out.done rfl
      rw [← HR.out]
      exact bodyPost_ret (ret_atom Tryz.results91 rfl rfl hF.1) rfl ⟨B, cap, by show _ = Ending.returned (.tuple #[_, .int .i64 ((L.length - ([] : List Lex).length : Nat) : Int)]); rw [Hjl.out]; rfl, hF.2.1, HH.out.2.2.2.1, hF.2.2⟩


end Go.Proofs.YtchfipjclbpomaaGreatDoor
