/- Texts of the claim. -/
import Derived.LoopTactic
import Derived.RegionTactic
import Derived.BigRegion
import Derived.WalkSmall
import Derived.RangeFuncNested
import Derived.RangeFuncBound
import Derived.RangeFuncCalls
import Derived.RangeFuncLeaves
import Derived.Shelf.Abstract
import Derived.Shelf.RegionOpen
import Derived.WalkKit
import Derived.OwnWalkIn
import Derived.TacticsInMore
import Derived.LoopNIn
import Derived.LoopIn
import Derived.Laws.BytesString
import Derived.Laws.Concat
import Derived.OwnWalk
import Derived.Laws.AppendOwn
import Derived.Laws.MakeOwn
import Derived.Deep.RegionWith
import Derived.IntWalk
import Derived.OneCell
import Derived.Deep.AppendLies
import Derived.Tactics2
import Derived.Defers
import Derived.Recover
import Derived.RangeFuncBox
import Derived.Maps.AppendAt
import Derived.Lib.Hide
import Derived.StillTailTactics
import Derived.Test.YtofbfafnpdaejaaGreatDoorMZ01
import Derived.Test.YtofbfafnpdaejaaGreatDoorMEscapeX
import Derived.Test.YtofbfafnpdaejaaGreatDoorMRefTwo
set_option linter.all false
set_option maxRecDepth 100000
set_option maxHeartbeats 8000000
namespace Go.Proofs.YtofbfafnpdaejaaGreatDoor
section
open Go.RowKit
theorem word_zero (i : Nat) : word (Nat.testBit 0) i = 0 := by
 have : (Nat.testBit 0) = fun _ => false := by funext j; simp
 rw [this]
 exact word_none i
theorem ndV_plain (k : Int) (ks : Trees) (lo hi : Int) (B : Option Addr) (cap : Nat) : ndV ⟨k, 0, ks, lo, hi⟩ B cap = .agg #[.int .i64 k, .int .u64 0, .int .u64 0, .int .u64 0, .int .u64 0, .slice B ks.len cap, .int .i64 lo, .int .i64 hi] := by
 unfold ndV
 simp only [word_zero]
 rfl
@[inline] def ndA (x : Nd) (B : Option Addr) (cap : Nat) : Array Value :=
 #[.int .i64 x.kind, .int .u64 (word x.set.testBit 0), .int .u64 (word x.set.testBit 1), .int .u64 (word x.set.testBit 2), .int .u64 (word x.set.testBit 3), .slice B x.kids.len cap, .int .i64 x.lo, .int .i64 x.hi]
theorem NdAt.of_blk {w : World} {g : Nat} {t : TypeId} {x : Nd} {B : Option Addr} {cap : Nat} (h : Blk w g t (ndA x B cap)) : NdAt w g 0 x.kind x.set x.kids.len x.lo x.hi B cap :=
 ⟨h.cell 0, h.cell 1, h.cell 2, h.cell 3, h.cell 4, h.cell 5, h.cell 6, h.cell 7⟩
theorem TreesAt.one {w : World} {P : Nat → Prop} {g : Nat} {t : TypeId} {x : Nd} {B : Option Addr} {cap : Nat} (h : Blk w g t (ndA x B cap)) (hc : x.kids.len ≤ cap) (ht : TreesAt w P x.kids B) (hg : P g) : TreesAt w P (Trees.of [x]) (some ⟨g, 0, none⟩) :=
 ⟨g, 0, B, cap, rfl, hg, hc, NdAt.of_blk h, ht, trivial⟩
def Overs (k : Int) (x : Nd) (B : Option Addr) (cap : Nat) (W : World) (e : Ending) (W' : World) : Prop :=
 ∃ g, e = .returned (ndV ⟨k, 0, Trees.of [x], 0, 0⟩ (some ⟨g, 0, none⟩) 1) ∧ Below W.heap.size W W' ∧ W.heap.size ≤ g ∧ Blk W' g 28 (ndA x B cap)
theorem over_go (k : Int) (X : Nat) (x : Nd) (B : Option Addr) (cap : Nat) (W : World) (hX : Blk W X 28 (ndA x B cap)) :
  Calls Tryz.prog 251 #[.int .i64 k, .pointer (some ⟨X, 0, none⟩)] W (Overs k x B cap W) := by
 have c0 : W.cell? ⟨X, 0, none⟩ = some (.int .i64 x.kind) := hX.cell 0
 have c1 : W.cell? ⟨X, 1, none⟩ = some (.int .u64 (word x.set.testBit 0)) := hX.cell 1
 have c2 : W.cell? ⟨X, 2, none⟩ = some (.int .u64 (word x.set.testBit 1)) := hX.cell 2
 have c3 : W.cell? ⟨X, 3, none⟩ = some (.int .u64 (word x.set.testBit 2)) := hX.cell 3
 have c4 : W.cell? ⟨X, 4, none⟩ = some (.int .u64 (word x.set.testBit 3)) := hX.cell 4
 have c5 : W.cell? ⟨X, 5, none⟩ = some (.slice B x.kids.len cap) := hX.cell 5
 have c6 : W.cell? ⟨X, 6, none⟩ = some (.int .i64 x.lo) := hX.cell 6
 have c7 : W.cell? ⟨X, 7, none⟩ = some (.int .i64 x.hi) := hX.cell 7
 have hl := hX.lt
 clear hX
 go_enter Tryz.func251, Tryz.ntmps251
 go_wp2
 go_light
 refine bodyPost_ret (ret_node Tryz.results251 rfl ((Blk.new_at (by simp)).alloc _)) rfl ⟨W.heap.size + 1, by rw [ndV_plain]; rfl, ((Below.refl _ _).alloc (Nat.le_refl _) _).alloc (by simp) _, by omega, Blk.new_at (by simp)⟩
def lenOf : Value → Nat
 | .slice _ n _ => n
 | _ => 0
def Posted (n p : Nat) (v : Value) (m : Nat) (r : Nd × List Lex) (W : World) (e : Ending) (W' : World) : Prop :=
 ∃ B cap, e = .returned (ndV r.1 B cap) ∧ PAt W' p v r.2 m ∧ Still p W v W' v ∧ r.1.kids.len ≤ cap ∧ TreesAt W' (New n p v) r.1.kids B
def InPosts (n p : Nat) (v : Value) (m X : Nat) (r : Nd × List Lex) (W wr : World) : Prop :=
 ∃ z B cap L, postsG z L = r ∧ L.length ≤ 100000 ∧ PAt wr p v L m ∧ Still p W v wr v ∧ Blk wr X 28 (ndA z B cap) ∧ Blk wr (X + 1) 28 #[.int .i64 0, .int .u64 0, .int .u64 0, .int .u64 0, .int .u64 0, .slice none 0 0, .int .i64 0, .int .i64 0] ∧ z.kids.len ≤ cap ∧ TreesAt wr (fun b => New n p v b ∧ b ≠ X ∧ b ≠ X + 1) z.kids B
theorem PAt.len {w : World} {p : Nat} {v : Value} {L : List Lex} {m : Nat} (h : PAt w p v L m) : lenOf ((w.cell? ⟨p, 0, none⟩).getD undef) = L.length := by
 obtain ⟨A, cap, xs, hb, _⟩ := h
 have h0 : w.cell? ⟨p, 0, none⟩ = some (.slice A L.length cap) := hb.cell 0
 rw [h0]
 rfl
theorem only_put8 (w : World) (Y : Nat) (b0 b1 b2 b3 b4 b5 b6 b7 : Value) : w.grownBy ((((((((w.setCell ⟨Y, 0, none⟩ b0).setCell ⟨Y, 1, none⟩ b1).setCell ⟨Y, 2, none⟩ b2).setCell ⟨Y, 3, none⟩ b3).setCell ⟨Y, 4, none⟩ b4).setCell ⟨Y, 5, none⟩ b5).setCell ⟨Y, 6, none⟩ b6).setCell ⟨Y, 7, none⟩ b7) (some Y) :=
 only_set (only_set (only_set (only_set (only_set (only_set (only_set (only_set (only_refl w _) 0 b0) 1 b1) 2 b2) 3 b3) 4 b4) 5 b5) 6 b6) 7 b7
theorem PAt.only {w w' : World} {p Y : Nat} {v : Value} {L : List Lex} {m : Nat} (h : PAt w p v L m) (hg : w.grownBy w' (some Y)) (hp : p < Y) (hv : ∀ g, v.ownBlock = some g → g ≠ Y) : PAt w' p v L m := by
 obtain ⟨A, cap, xs, hb, hc, hl, hr⟩ := h
 exact ⟨A, cap, xs, hb.grown hg (by simp; omega), hc, hl.below ⟨hg.os, hg.tape, hg.output, hg.size, fun k hk => hg.block k (Nat.lt_trans hk hb.lt) (by simp; omega)⟩,
  hr.kept hg (by cases hvo : v.ownBlock with
   | none => exact .inl rfl
   | some g => exact .inr (fun e => hv g hvo (by simpa using e)))⟩
theorem Still.only {w w' : World} {p Y : Nat} {W : World} {v v' : Value} (h : Still p W v w v') (hg : w.grownBy w' (some Y)) (hp : p < W.heap.size) (hY : W.heap.size ≤ Y) : Still p W v w' v' :=
 ⟨h.1.grown hg (by have := h.1.size; omega) (fun k e => by cases e; omega), fun b hb ho => (hg.block b (Nat.lt_of_lt_of_le hb h.1.size) (by simp; omega)).trans (h.2.1 b hb ho), h.2.2⟩
theorem postsG_stop {x : Nd} {y : Lex} {L : List Lex} (h : isPost y.kind = false) : postsG x (y :: L) = (x, y :: L) := by
 conv => lhs; unfold postsG
 rw [if_neg (by rw [h]; decide)]
theorem postsG_go {x : Nd} {y : Lex} {L : List Lex} (h : isPost y.kind = true) : postsG x (y :: L) = postsG (postN y x) L := by
 conv => lhs; unfold postsG
 rw [if_pos h]
theorem ndA_plain (k : Int) (ks : Trees) (lo hi : Int) (B : Option Addr) (cap : Nat) : ndA ⟨k, 0, ks, lo, hi⟩ B cap = #[.int .i64 k, .int .u64 0, .int .u64 0, .int .u64 0, .int .u64 0, .slice B ks.len cap, .int .i64 lo, .int .i64 hi] := by
 unfold ndA
 simp only [word_zero]
 rfl
theorem posts_step {W w1 w2 w3 : World} {n p m g : Nat} {v : Value} {y : Lex} {L : List Lex} {z : Nd} {B : Option Addr} {cap : Nat} {k lo hi : Int} (hv : ∀ g, v.ownBlock = some g → g < W.heap.size) (hn : n ≤ W.heap.size) (hp : p < W.heap.size) (hS : Still p W v w1 v) (hP : PAt w1 p v (y :: L) m)
  (hb2 : Below w1.heap.size w1 w2) (hg2 : w1.heap.size ≤ g) (hB2 : Blk w2 g 28 (ndA z B cap)) (hY : Blk w1 (W.heap.size + 1) 28 #[.int .i64 0, .int .u64 0, .int .u64 0, .int .u64 0, .int .u64 0, .slice none 0 0, .int .i64 0, .int .i64 0])
  (hT : TreesAt w1 (fun b => New n p v b ∧ b ≠ W.heap.size ∧ b ≠ W.heap.size + 1) z.kids B) (hc : z.kids.len ≤ cap) (hlen : L.length + 1 ≤ 100000)
  (h3 : w2.grownBy w3 (some W.heap.size)) (hX3 : Blk w3 W.heap.size 28 (ndA ⟨k, 0, Trees.of [z], lo, hi⟩ (some ⟨g, 0, none⟩) 1)) :
  PAt w3 p v (y :: L) m ∧ ∀ w5, PAt w5 p v L m → Still p w3 v w5 v → InPosts n p v m W.heap.size (postsG ⟨k, 0, Trees.of [z], lo, hi⟩ L) W w5 ∧ lenOf ((w5.cell? ⟨p, 0, none⟩).getD undef) < lenOf ((w1.cell? ⟨p, 0, none⟩).getD undef) := by
 have hY1 := hY.lt
 have hs2 := hb2.size
 have hs3 := h3.size
 have hoX : Off p v W.heap.size := ⟨by omega, fun e => by have := hv _ e.symm; omega⟩
 have hoY : Off p v (W.heap.size + 1) := ⟨by omega, fun e => by have := hv _ e.symm; omega⟩
 have hog : Off p v g := ⟨by omega, fun e => by have := hv _ e.symm; omega⟩
 have h13 : Still p W v w3 v := (hS.more hb2 (Nat.le_of_lt hp)).only h3 hp (Nat.le_refl _)
 refine ⟨(hP.below hb2).only h3 hp (fun g e => by have := hv g e; omega), fun w5 hP5 hS5 => ⟨?_, ?_⟩⟩
 ·have ht3 : TreesAt w3 (fun b => New n p v b ∧ b ≠ W.heap.size ∧ b ≠ W.heap.size + 1) (Trees.of [z]) (some ⟨g, 0, none⟩) := by
   refine TreesAt.one (t := 28) (hB2.grown h3 (by simp; omega)) hc ?_ ⟨⟨by omega, hog⟩, by omega, by omega⟩
   exact (hT.below hb2).keep (fun b o hb hl => World.cell?_of_block (h3.block b hl (by simp; omega))) (fun b hb _ => hb)
  refine ⟨⟨k, 0, Trees.of [z], lo, hi⟩, some ⟨g, 0, none⟩, 1, L, rfl, by omega, hP5, h13.trans hS5, hS5.blk hoX hX3, hS5.blk hoY ((hY.below hb2 hY1).grown h3 (by simp)), Nat.le_refl _, ?_⟩
  exact ht3.keep (fun b o hb hl => hS5.cell hb.1.2 hl o) (fun b hb hl => ⟨⟨hb.1.1, hS5.off hb.1.2 hl⟩, hb.2⟩)
 ·rw [hP5.len, hP.len]
  simp
theorem posts_go {W : World} {n p : Nat} {v : Value} {L0 : List Lex} {m : Nat} (x : Nd) (B : Option Addr) (cap : Nat) (h : PAt W p v L0 m) (hx : x.kids.len ≤ cap) (ht : TreesAt W (New n p v) x.kids B) (hn : n ≤ W.heap.size) (hlen : L0.length ≤ 100000) :
  Calls Tryz.prog 234 #[.pointer (some ⟨p, 0, none⟩), ndV x B cap] W (Posted n p v m (postsG x L0) W) := by
 have hp := h.lt
 have hv : ∀ g, v.ownBlock = some g → g < W.heap.size := by
  obtain ⟨_, _, _, _, _, _, hr⟩ := h
  exact fun g e => (hr.lt g e).2
 have h0 : InPosts n p v m W.heap.size (postsG x L0) W ((W.alloc (.cells (ndA x B cap) 28)).alloc (.cells #[.int .i64 0, .int .u64 0, .int .u64 0, .int .u64 0, .int .u64 0, .slice none 0 0, .int .i64 0, .int .i64 0] 28)) := by
  have hb : Below W.heap.size W ((W.alloc (.cells (ndA x B cap) 28)).alloc (.cells #[.int .i64 0, .int .u64 0, .int .u64 0, .int .u64 0, .int .u64 0, .slice none 0 0, .int .i64 0, .int .i64 0] 28)) := ((Below.refl _ _).alloc (Nat.le_refl _) _).alloc (by simp) _
  exact ⟨x, B, cap, L0, rfl, hlen, h.below hb, Still.of_below hb (Nat.le_of_lt hp), (Blk.new _ _ _).alloc _, Blk.new_at (by simp), hx, (ht.weak (fun b h1 h2 => ⟨h1, by omega, by omega⟩)).below hb⟩
 have H0 := Lib.hid h0
 clear h0 h ht
 unfold ndA at H0
 unfold ndV
 go_enter Tryz.func234, Tryz.ntmps234
 go_wp2
 go_loopw [7] (fun _ wr => InPosts n p v m W.heap.size (postsG x L0) W wr) (fun _ wr => lenOf ((wr.cell? ⟨p, 0, none⟩).getD undef))
 case atStart => exact H0.out
 case round =>
  obtain ⟨z, B, cap, L, hr, hlen, hP, hS, hX, hY, hc, ht⟩ := hrel
  have hw : W.heap.size ≤ wr.heap.size := hS.1.size
  have hXl := hX.lt
  have hYl := hY.lt
  have x0 : wr.cell? ⟨W.heap.size, 0, none⟩ = some (.int .i64 z.kind) := hX.cell 0
  have x1 : wr.cell? ⟨W.heap.size, 1, none⟩ = some (.int .u64 (word z.set.testBit 0)) := hX.cell 1
  have x2 : wr.cell? ⟨W.heap.size, 2, none⟩ = some (.int .u64 (word z.set.testBit 1)) := hX.cell 2
  have x3 : wr.cell? ⟨W.heap.size, 3, none⟩ = some (.int .u64 (word z.set.testBit 2)) := hX.cell 3
  have x4 : wr.cell? ⟨W.heap.size, 4, none⟩ = some (.int .u64 (word z.set.testBit 3)) := hX.cell 4
  have x5 : wr.cell? ⟨W.heap.size, 5, none⟩ = some (.slice B z.kids.len cap) := hX.cell 5
  have x6 : wr.cell? ⟨W.heap.size, 6, none⟩ = some (.int .i64 z.lo) := hX.cell 6
  have x7 : wr.cell? ⟨W.heap.size, 7, none⟩ = some (.int .i64 z.hi) := hX.cell 7
  have y0 : wr.cell? ⟨W.heap.size + 1, 0, none⟩ = some (.int .i64 0) := hY.cell 0
  have y1 : wr.cell? ⟨W.heap.size + 1, 1, none⟩ = some (.int .u64 0) := hY.cell 1
  have y2 : wr.cell? ⟨W.heap.size + 1, 2, none⟩ = some (.int .u64 0) := hY.cell 2
  have y3 : wr.cell? ⟨W.heap.size + 1, 3, none⟩ = some (.int .u64 0) := hY.cell 3
  have y4 : wr.cell? ⟨W.heap.size + 1, 4, none⟩ = some (.int .u64 0) := hY.cell 4
  have y5 : wr.cell? ⟨W.heap.size + 1, 5, none⟩ = some (.slice none 0 0) := hY.cell 5
  have y6 : wr.cell? ⟨W.heap.size + 1, 6, none⟩ = some (.int .i64 0) := hY.cell 6
  have y7 : wr.cell? ⟨W.heap.size + 1, 7, none⟩ = some (.int .i64 0) := hY.cell 7
  have g0 := hY.frozen 0
  have g1 := hY.frozen 1
  have g2 := hY.frozen 2
  have g3 := hY.frozen 3
  have g4 := hY.frozen 4
  have g5 := hY.frozen 5
  have g6 := hY.frozen 6
  have g7 := hY.frozen 7
  have HP := Lib.hid hP
  have HS := Lib.hid hS
  have HX := Lib.hid hX
  have HY := Lib.hid hY
  have HT := Lib.hid ht
  have HR := Lib.hid hr
  clear hP hS hX hY ht hr H0
  cases L with
  | nil =>
   go_wp2_with fail
   refine (peek_nil HP.out).mono ?_
   rintro e w1 ⟨rfl, rfl⟩
   go_wp2
   go_light
   have hg := only_put8 w1 (W.heap.size + 1) (.int .i64 z.kind) (.int .u64 (word z.set.testBit 0)) (.int .u64 (word z.set.testBit 1)) (.int .u64 (word z.set.testBit 2)) (.int .u64 (word z.set.testBit 3)) (.slice B z.kids.len cap) (.int .i64 z.lo) (.int .i64 z.hi)
   rw [← HR.out]
   refine bodyPost_ret (ret_node Tryz.results234 rfl (HY.out.put8 _ _ _ _ _ _ _ _)) rfl ⟨B, cap, rfl, HP.out.only hg (by omega) (fun g e => by have := hv g e; omega), HS.out.only hg (by omega) (by omega), hc, HT.out.keep (fun b o hb hl => World.cell?_of_block (hg.block b hl (fun e => hb.2.2 (Option.some.inj e)))) (fun b hb hl => hb.1)⟩
  | cons y L =>
   simp only [List.length_cons] at hlen
   by_cases hpost : isPost y.kind = true
   ·have hk := (isPost_iff _).1 hpost
    have HR := Lib.hid ((postsG_go hpost).symm.trans HR.out)
    clear hpost
    by_cases h8 : y.kind = 8
    ·have HZ := Lib.hid (show postsG x L0 = postsG ⟨9, 0, Trees.of [z], y.lo, y.hi⟩ L by rw [← HR.out]; unfold postN; rw [if_pos h8])
     go_wp2_with fail
     refine (peek_go HP.out (by omega)).mono ?_
     rintro e w1 ⟨rfl, rfl⟩
     rw [h8]
     go_wp2_with fail
     refine (over_go 9 W.heap.size z B cap w1 HX.out).mono ?_
     rintro e w2 ⟨g, rfl, hb2, hg2, hB2⟩
     rw [ndV_plain]
     have hX2 := HX.out.below hb2 hXl
     have hsz2 := hb2.size
     have f0 := hX2.frozen 0
     have f1 := hX2.frozen 1
     have f2 := hX2.frozen 2
     have f3 := hX2.frozen 3
     have f4 := hX2.frozen 4
     have f5 := hX2.frozen 5
     have f6 := hX2.frozen 6
     have f7 := hX2.frozen 7
     have e0 : w2.cell? ⟨W.heap.size, 0, none⟩ = some (.int .i64 z.kind) := hX2.cell 0
     have e1 : w2.cell? ⟨W.heap.size, 1, none⟩ = some (.int .u64 (word z.set.testBit 0)) := hX2.cell 1
     have e2 : w2.cell? ⟨W.heap.size, 2, none⟩ = some (.int .u64 (word z.set.testBit 1)) := hX2.cell 2
     have e3 : w2.cell? ⟨W.heap.size, 3, none⟩ = some (.int .u64 (word z.set.testBit 2)) := hX2.cell 3
     have e4 : w2.cell? ⟨W.heap.size, 4, none⟩ = some (.int .u64 (word z.set.testBit 3)) := hX2.cell 4
     have e5 : w2.cell? ⟨W.heap.size, 5, none⟩ = some (.slice B z.kids.len cap) := hX2.cell 5
     have e6 : w2.cell? ⟨W.heap.size, 6, none⟩ = some (.int .i64 z.lo) := hX2.cell 6
     have e7 : w2.cell? ⟨W.heap.size, 7, none⟩ = some (.int .i64 z.hi) := hX2.cell 7
     have HX2 := Lib.hid hX2
     have HB2 := Lib.hid hB2
     have Hb2 := Lib.hid hb2
     clear hX2 hB2 hb2 x0 x1 x2 x3 x4 x5 x6 x7 y0 y1 y2 y3 y4 y5 y6 y7 g0 g1 g2 g3 g4 g5 g6 g7
     obtain ⟨A0, cap0, xs0, hb0, hc0, hl0, _⟩ := (HP.out.below Hb2.out)
     obtain ⟨b0, o0, rfl, hbp, ⟨q0, q1, q2, q3, q4, q5, q6, q7⟩, _⟩ := hl0.cons
     have p0 : w2.cell? ⟨p, 0, none⟩ = some (.slice (some ⟨b0, o0, none⟩) (L.length + 1) cap0) := hb0.cell 0
     clear hb0 hl0 q0 q1 q2 q3 q4 q5
     have hz3 : (0 : Int) < (L.length : Int) + 1 := by omega
     have hne1 : ¬ p = W.heap.size := by omega
     have hne2 : ¬ b0 = W.heap.size := by omega
     go_wp2
     go_region
     have hg3 := only_put8 w2 W.heap.size (.int .i64 9) (.int .u64 0) (.int .u64 0) (.int .u64 0) (.int .u64 0) (.slice (some ⟨g, 0, none⟩) (Trees.of [z]).len 1) (.int .i64 0) (.int .i64 0)
     have hx3 := HX2.out.put8 (.int .i64 9) (.int .u64 0) (.int .u64 0) (.int .u64 0) (.int .u64 0) (.slice (some ⟨g, 0, none⟩) (Trees.of [z]).len 1) (.int .i64 0) (.int .i64 0)
     have hx4 := Blk.set_ hx3 6 (.int .i64 y.lo)
     have hx5 := Blk.set_ hx4 7 (.int .i64 y.hi)
     have hstep := posts_step hv hn hp HS.out HP.out Hb2.out hg2 HB2.out HY.out HT.out hc hlen (only_drew (only_set (only_set hg3 6 (.int .i64 y.lo)) 7 (.int .i64 y.hi))) (by rw [ndA_plain]; exact Blk.drew hx5)
     clear hg3 hx3 hx4 hx5
     have HN := Lib.hid hstep.2
     have HM := Lib.hid hstep.1
     clear hstep
     go_wp2_with fail
     refine (next_any HM.out (by omega)).mono ?_
     rintro e w5 ⟨rfl, hP5, hS5⟩
     have HF := Lib.hid (HN.out w5 hP5 hS5)
     clear hP5 hS5
     unfold lexV
     go_wp2
     go_roundw
     case rel => rw [HZ.out]; exact HF.out.1
     case measure => exact HF.out.2
    ·have hk : y.kind = 5 ∨ y.kind = 6 ∨ y.kind = 7 := by omega
     rcases hk with hk | hk | hk
     ·have HZ := Lib.hid (show postsG x L0 = postsG ⟨6, 0, Trees.of [z], 0, 0⟩ L by rw [← HR.out]; unfold postN; rw [if_neg h8, hk]; rfl)
      go_wp2_with fail
      refine (peek_go HP.out (by omega)).mono ?_
      rintro e w1 ⟨rfl, rfl⟩
      rw [hk]
      go_wp2_with fail
      refine (over_go 6 W.heap.size z B cap w1 HX.out).mono ?_
      rintro e w2 ⟨g, rfl, hb2, hg2, hB2⟩
      rw [ndV_plain]
      have hX2 := HX.out.below hb2 hXl
      have hsz2 := hb2.size
      have f0 := hX2.frozen 0
      have f1 := hX2.frozen 1
      have f2 := hX2.frozen 2
      have f3 := hX2.frozen 3
      have f4 := hX2.frozen 4
      have f5 := hX2.frozen 5
      have f6 := hX2.frozen 6
      have f7 := hX2.frozen 7
      have e0 : w2.cell? ⟨W.heap.size, 0, none⟩ = some (.int .i64 z.kind) := hX2.cell 0
      have e1 : w2.cell? ⟨W.heap.size, 1, none⟩ = some (.int .u64 (word z.set.testBit 0)) := hX2.cell 1
      have e2 : w2.cell? ⟨W.heap.size, 2, none⟩ = some (.int .u64 (word z.set.testBit 1)) := hX2.cell 2
      have e3 : w2.cell? ⟨W.heap.size, 3, none⟩ = some (.int .u64 (word z.set.testBit 2)) := hX2.cell 3
      have e4 : w2.cell? ⟨W.heap.size, 4, none⟩ = some (.int .u64 (word z.set.testBit 3)) := hX2.cell 4
      have e5 : w2.cell? ⟨W.heap.size, 5, none⟩ = some (.slice B z.kids.len cap) := hX2.cell 5
      have e6 : w2.cell? ⟨W.heap.size, 6, none⟩ = some (.int .i64 z.lo) := hX2.cell 6
      have e7 : w2.cell? ⟨W.heap.size, 7, none⟩ = some (.int .i64 z.hi) := hX2.cell 7
      have HX2 := Lib.hid hX2
      have HB2 := Lib.hid hB2
      have Hb2 := Lib.hid hb2
      clear hX2 hB2 hb2 x0 x1 x2 x3 x4 x5 x6 x7 y0 y1 y2 y3 y4 y5 y6 y7 g0 g1 g2 g3 g4 g5 g6 g7
      go_wp2_with fail
      have hg3 := only_put8 w2 W.heap.size (.int .i64 6) (.int .u64 0) (.int .u64 0) (.int .u64 0) (.int .u64 0) (.slice (some ⟨g, 0, none⟩) (Trees.of [z]).len 1) (.int .i64 0) (.int .i64 0)
      have hx3 := HX2.out.put8 (.int .i64 6) (.int .u64 0) (.int .u64 0) (.int .u64 0) (.int .u64 0) (.slice (some ⟨g, 0, none⟩) (Trees.of [z]).len 1) (.int .i64 0) (.int .i64 0)
      have hstep := posts_step hv hn hp HS.out HP.out Hb2.out hg2 HB2.out HY.out HT.out hc hlen hg3 (by rw [ndA_plain]; exact hx3)
      clear hg3 hx3
      have HN := Lib.hid hstep.2
      refine (next_any hstep.1 (by omega)).mono ?_
      clear hstep
      rintro e w5 ⟨rfl, hP5, hS5⟩
      have HF := Lib.hid (HN.out w5 hP5 hS5)
      clear hP5 hS5
      unfold lexV
      go_wp2
      go_roundw
      case rel => rw [HZ.out]; exact HF.out.1
      case measure => exact HF.out.2
     ·have HZ := Lib.hid (show postsG x L0 = postsG ⟨7, 0, Trees.of [z], 0, 0⟩ L by rw [← HR.out]; unfold postN; rw [if_neg h8, hk]; rfl)
      go_wp2_with fail
      refine (peek_go HP.out (by omega)).mono ?_
      rintro e w1 ⟨rfl, rfl⟩
      rw [hk]
      go_wp2_with fail
      refine (over_go 7 W.heap.size z B cap w1 HX.out).mono ?_
      rintro e w2 ⟨g, rfl, hb2, hg2, hB2⟩
      rw [ndV_plain]
      have hX2 := HX.out.below hb2 hXl
      have hsz2 := hb2.size
      have f0 := hX2.frozen 0
      have f1 := hX2.frozen 1
      have f2 := hX2.frozen 2
      have f3 := hX2.frozen 3
      have f4 := hX2.frozen 4
      have f5 := hX2.frozen 5
      have f6 := hX2.frozen 6
      have f7 := hX2.frozen 7
      have e0 : w2.cell? ⟨W.heap.size, 0, none⟩ = some (.int .i64 z.kind) := hX2.cell 0
      have e1 : w2.cell? ⟨W.heap.size, 1, none⟩ = some (.int .u64 (word z.set.testBit 0)) := hX2.cell 1
      have e2 : w2.cell? ⟨W.heap.size, 2, none⟩ = some (.int .u64 (word z.set.testBit 1)) := hX2.cell 2
      have e3 : w2.cell? ⟨W.heap.size, 3, none⟩ = some (.int .u64 (word z.set.testBit 2)) := hX2.cell 3
      have e4 : w2.cell? ⟨W.heap.size, 4, none⟩ = some (.int .u64 (word z.set.testBit 3)) := hX2.cell 4
      have e5 : w2.cell? ⟨W.heap.size, 5, none⟩ = some (.slice B z.kids.len cap) := hX2.cell 5
      have e6 : w2.cell? ⟨W.heap.size, 6, none⟩ = some (.int .i64 z.lo) := hX2.cell 6
      have e7 : w2.cell? ⟨W.heap.size, 7, none⟩ = some (.int .i64 z.hi) := hX2.cell 7
      have HX2 := Lib.hid hX2
      have HB2 := Lib.hid hB2
      have Hb2 := Lib.hid hb2
      clear hX2 hB2 hb2 x0 x1 x2 x3 x4 x5 x6 x7 y0 y1 y2 y3 y4 y5 y6 y7 g0 g1 g2 g3 g4 g5 g6 g7
      go_wp2_with fail
      have hg3 := only_put8 w2 W.heap.size (.int .i64 7) (.int .u64 0) (.int .u64 0) (.int .u64 0) (.int .u64 0) (.slice (some ⟨g, 0, none⟩) (Trees.of [z]).len 1) (.int .i64 0) (.int .i64 0)
      have hx3 := HX2.out.put8 (.int .i64 7) (.int .u64 0) (.int .u64 0) (.int .u64 0) (.int .u64 0) (.slice (some ⟨g, 0, none⟩) (Trees.of [z]).len 1) (.int .i64 0) (.int .i64 0)
      have hstep := posts_step hv hn hp HS.out HP.out Hb2.out hg2 HB2.out HY.out HT.out hc hlen hg3 (by rw [ndA_plain]; exact hx3)
      clear hg3 hx3
      have HN := Lib.hid hstep.2
      refine (next_any hstep.1 (by omega)).mono ?_
      clear hstep
      rintro e w5 ⟨rfl, hP5, hS5⟩
      have HF := Lib.hid (HN.out w5 hP5 hS5)
      clear hP5 hS5
      unfold lexV
      go_wp2
      go_roundw
      case rel => rw [HZ.out]; exact HF.out.1
      case measure => exact HF.out.2
     ·have HZ := Lib.hid (show postsG x L0 = postsG ⟨8, 0, Trees.of [z], 0, 0⟩ L by rw [← HR.out]; unfold postN; rw [if_neg h8, hk]; rfl)
      go_wp2_with fail
      refine (peek_go HP.out (by omega)).mono ?_
      rintro e w1 ⟨rfl, rfl⟩
      rw [hk]
      go_wp2_with fail
      refine (over_go 8 W.heap.size z B cap w1 HX.out).mono ?_
      rintro e w2 ⟨g, rfl, hb2, hg2, hB2⟩
      rw [ndV_plain]
      have hX2 := HX.out.below hb2 hXl
      have hsz2 := hb2.size
      have f0 := hX2.frozen 0
      have f1 := hX2.frozen 1
      have f2 := hX2.frozen 2
      have f3 := hX2.frozen 3
      have f4 := hX2.frozen 4
      have f5 := hX2.frozen 5
      have f6 := hX2.frozen 6
      have f7 := hX2.frozen 7
      have e0 : w2.cell? ⟨W.heap.size, 0, none⟩ = some (.int .i64 z.kind) := hX2.cell 0
      have e1 : w2.cell? ⟨W.heap.size, 1, none⟩ = some (.int .u64 (word z.set.testBit 0)) := hX2.cell 1
      have e2 : w2.cell? ⟨W.heap.size, 2, none⟩ = some (.int .u64 (word z.set.testBit 1)) := hX2.cell 2
      have e3 : w2.cell? ⟨W.heap.size, 3, none⟩ = some (.int .u64 (word z.set.testBit 2)) := hX2.cell 3
      have e4 : w2.cell? ⟨W.heap.size, 4, none⟩ = some (.int .u64 (word z.set.testBit 3)) := hX2.cell 4
      have e5 : w2.cell? ⟨W.heap.size, 5, none⟩ = some (.slice B z.kids.len cap) := hX2.cell 5
      have e6 : w2.cell? ⟨W.heap.size, 6, none⟩ = some (.int .i64 z.lo) := hX2.cell 6
      have e7 : w2.cell? ⟨W.heap.size, 7, none⟩ = some (.int .i64 z.hi) := hX2.cell 7
      have HX2 := Lib.hid hX2
      have HB2 := Lib.hid hB2
      have Hb2 := Lib.hid hb2
      clear hX2 hB2 hb2 x0 x1 x2 x3 x4 x5 x6 x7 y0 y1 y2 y3 y4 y5 y6 y7 g0 g1 g2 g3 g4 g5 g6 g7
      go_wp2_with fail
      have hg3 := only_put8 w2 W.heap.size (.int .i64 8) (.int .u64 0) (.int .u64 0) (.int .u64 0) (.int .u64 0) (.slice (some ⟨g, 0, none⟩) (Trees.of [z]).len 1) (.int .i64 0) (.int .i64 0)
      have hx3 := HX2.out.put8 (.int .i64 8) (.int .u64 0) (.int .u64 0) (.int .u64 0) (.int .u64 0) (.slice (some ⟨g, 0, none⟩) (Trees.of [z]).len 1) (.int .i64 0) (.int .i64 0)
      have hstep := posts_step hv hn hp HS.out HP.out Hb2.out hg2 HB2.out HY.out HT.out hc hlen hg3 (by rw [ndA_plain]; exact hx3)
      clear hg3 hx3
      have HN := Lib.hid hstep.2
      refine (next_any hstep.1 (by omega)).mono ?_
      clear hstep
      rintro e w5 ⟨rfl, hP5, hS5⟩
      have HF := Lib.hid (HN.out w5 hP5 hS5)
      clear hP5 hS5
      unfold lexV
      go_wp2
      go_roundw
      case rel => rw [HZ.out]; exact HF.out.1
      case measure => exact HF.out.2
   ·have hk : ¬ (5 ≤ y.kind ∧ y.kind ≤ 8) := fun h => hpost ((isPost_iff _).2 h)
    have k5 : (y.kind == 5) = false := by simp; omega
    have k6 : (y.kind == 6) = false := by simp; omega
    have k7 : (y.kind == 7) = false := by simp; omega
    have k8 : (y.kind == 8) = false := by simp; omega
    have HR := Lib.hid ((postsG_stop (by simpa using hpost)).symm.trans HR.out)
    go_wp2_with fail
    refine (peek_go HP.out (by omega)).mono ?_
    rintro e w1 ⟨rfl, rfl⟩
    go_wp2
    go_light
    have hg := only_put8 w1 (W.heap.size + 1) (.int .i64 z.kind) (.int .u64 (word z.set.testBit 0)) (.int .u64 (word z.set.testBit 1)) (.int .u64 (word z.set.testBit 2)) (.int .u64 (word z.set.testBit 3)) (.slice B z.kids.len cap) (.int .i64 z.lo) (.int .i64 z.hi)
    rw [← HR.out]
    refine bodyPost_ret (ret_node Tryz.results234 rfl (HY.out.put8 _ _ _ _ _ _ _ _)) rfl ⟨B, cap, rfl, HP.out.only hg (by omega) (fun g e => by have := hv g e; omega), HS.out.only hg (by omega) (by omega), hc, HT.out.keep (fun b o hb hl => World.cell?_of_block (hg.block b hl (fun e => hb.2.2 (Option.some.inj e)))) (fun b hb hl => hb.1)⟩
theorem times_any (lo : Int) (w : World) (h0 : 0 ≤ lo) (h1 : lo ≤ 1000) :
  Calls Tryz.prog 118 #[.int .i64 lo, .int .i64 (-1)] w fun e w' => e = .returned (.bool true) ∧ Below w.heap.size w w' := by
 go_enter Tryz.func118, Tryz.ntmps118
 go_wp2
 go_light
 go_ret
 exact ⟨rfl, Below.refl _ _⟩
theorem times_two (lo hi : Int) (w : World) (h0 : 0 ≤ lo) (h1 : lo ≤ 1000) (h2 : lo ≤ hi) (h3 : hi ≤ 1000) :
  Calls Tryz.prog 118 #[.int .i64 lo, .int .i64 hi] w fun e w' => e = .returned (.bool true) ∧ Below w.heap.size w w' := by
 have hm : (hi == -1) = false := by simp; omega
 go_enter Tryz.func118, Tryz.ntmps118
 go_wp2
 go_light
 go_ret
 exact ⟨rfl, Below.refl _ _⟩
theorem arity2 (w : World) : Calls Tryz.prog 119 #[.int .i64 2] w fun e w' => e = .returned (.int .i64 0) ∧ Below w.heap.size w w' := by
 go_enter Tryz.func119, Tryz.ntmps119
 go_wp2
 go_light
 go_ret
 exact ⟨rfl, (Below.refl _ _).alloc (Nat.le_refl _) _⟩
theorem arity3 (w : World) : Calls Tryz.prog 119 #[.int .i64 3] w fun e w' => e = .returned (.int .i64 0) ∧ Below w.heap.size w w' := by
 go_enter Tryz.func119, Tryz.ntmps119
 go_wp2
 go_light
 go_ret
 exact ⟨rfl, (Below.refl _ _).alloc (Nat.le_refl _) _⟩
theorem arity4 (w : World) : Calls Tryz.prog 119 #[.int .i64 4] w fun e w' => e = .returned (.int .i64 2) ∧ Below w.heap.size w w' := by
 go_enter Tryz.func119, Tryz.ntmps119
 go_wp2
 go_light
 go_ret
 exact ⟨rfl, (Below.refl _ _).alloc (Nat.le_refl _) _⟩
theorem arity5 (w : World) : Calls Tryz.prog 119 #[.int .i64 5] w fun e w' => e = .returned (.int .i64 2) ∧ Below w.heap.size w w' := by
 go_enter Tryz.func119, Tryz.ntmps119
 go_wp2
 go_light
 go_ret
 exact ⟨rfl, (Below.refl _ _).alloc (Nat.le_refl _) _⟩
theorem arity6 (w : World) : Calls Tryz.prog 119 #[.int .i64 6] w fun e w' => e = .returned (.int .i64 1) ∧ Below w.heap.size w w' := by
 go_enter Tryz.func119, Tryz.ntmps119
 go_wp2
 go_light
 go_ret
 exact ⟨rfl, (Below.refl _ _).alloc (Nat.le_refl _) _⟩
theorem arity7 (w : World) : Calls Tryz.prog 119 #[.int .i64 7] w fun e w' => e = .returned (.int .i64 1) ∧ Below w.heap.size w w' := by
 go_enter Tryz.func119, Tryz.ntmps119
 go_wp2
 go_light
 go_ret
 exact ⟨rfl, (Below.refl _ _).alloc (Nat.le_refl _) _⟩
theorem arity8 (w : World) : Calls Tryz.prog 119 #[.int .i64 8] w fun e w' => e = .returned (.int .i64 1) ∧ Below w.heap.size w w' := by
 go_enter Tryz.func119, Tryz.ntmps119
 go_wp2
 go_light
 go_ret
 exact ⟨rfl, (Below.refl _ _).alloc (Nat.le_refl _) _⟩
theorem arity9 (w : World) : Calls Tryz.prog 119 #[.int .i64 9] w fun e w' => e = .returned (.int .i64 1) ∧ Below w.heap.size w w' := by
 go_enter Tryz.func119, Tryz.ntmps119
 go_wp2
 go_light
 go_ret
 exact ⟨rfl, (Below.refl _ _).alloc (Nat.le_refl _) _⟩
theorem alone3 (B : Option Addr) (cap : Nat) (a b c d : Int) (w : World)  : Calls Tryz.prog 60 #[.agg #[.int .i64 3, .int .u64 a, .int .u64 b, .int .u64 c, .int .u64 d, .slice B 0 cap, .int .i64 0, .int .i64 0]] w fun e w' => e = .returned (.bool true) ∧ Below w.heap.size w w' := by
 skip
 have hb1 : Below w.heap.size w (w.alloc (.cells #[.int .i64 3, .int .u64 a, .int .u64 b, .int .u64 c, .int .u64 d, .slice B 0 cap, .int .i64 0, .int .i64 0] 28)) := (Below.refl _ _).alloc (Nat.le_refl _) _
 have HB := Lib.hid hb1
 have HK := Lib.hid (Blk.new w 28 #[.int .i64 3, .int .u64 a, .int .u64 b, .int .u64 c, .int .u64 d, .slice B 0 cap, .int .i64 0, .int .i64 0])
 have HR := Lib.hid (arity3 (w.alloc (.cells #[.int .i64 3, .int .u64 a, .int .u64 b, .int .u64 c, .int .u64 d, .slice B 0 cap, .int .i64 0, .int .i64 0] 28)))
 clear hb1
 go_enter Tryz.func60, Tryz.ntmps60
 go_wp2_with fail
 refine HR.out.mono ?_
 rintro e w2 ⟨rfl, hb2⟩
 have HB2 := Lib.hid (HB.out.trans (hb2.mono HB.out.size))
 have c5 := (HK.out.below hb2 (by simp)).cell 5
 have c5 : w2.cell? ⟨w.heap.size, 5, none⟩ = some (.slice B 0 cap) := c5
 clear hb2 HB HR HK
 dsimp only
 go_wp2
 go_light
 go_ret
 exact ⟨rfl, HB2.out⟩
theorem times_go (lo hi : Int) (w : World) (h0 : 0 ≤ lo) (h1 : lo ≤ 1000) (h : hi = -1 ∨ lo ≤ hi ∧ hi ≤ 1000) :
  Calls Tryz.prog 118 #[.int .i64 lo, .int .i64 hi] w fun e w' => e = .returned (.bool true) ∧ Below w.heap.size w w' := by
 rcases h with rfl | ⟨h2, h3⟩
 ·exact times_any lo w h0 h1
 ·exact times_two lo hi w h0 h1 h2 h3
theorem alone9 (B : Option Addr) (cap : Nat) (lo hi : Int) (w : World) (h0 : 0 ≤ lo) (h1 : lo ≤ 1000) (h : hi = -1 ∨ lo ≤ hi ∧ hi ≤ 1000) :
  Calls Tryz.prog 60 #[.agg #[.int .i64 9, .int .u64 0, .int .u64 0, .int .u64 0, .int .u64 0, .slice B 1 cap, .int .i64 lo, .int .i64 hi]] w fun e w' => e = .returned (.bool true) ∧ Below w.heap.size w w' := by
 have hb1 : Below w.heap.size w (w.alloc (.cells #[.int .i64 9, .int .u64 0, .int .u64 0, .int .u64 0, .int .u64 0, .slice B 1 cap, .int .i64 lo, .int .i64 hi] 28)) := (Below.refl _ _).alloc (Nat.le_refl _) _
 have HB := Lib.hid hb1
 have HK := Lib.hid (Blk.new w 28 #[.int .i64 9, .int .u64 0, .int .u64 0, .int .u64 0, .int .u64 0, .slice B 1 cap, .int .i64 lo, .int .i64 hi])
 have HT := Lib.hid (times_go lo hi (w.alloc (.cells #[.int .i64 9, .int .u64 0, .int .u64 0, .int .u64 0, .int .u64 0, .slice B 1 cap, .int .i64 lo, .int .i64 hi] 28)) h0 h1 h)
 clear hb1 h0 h1 h
 go_enter Tryz.func60, Tryz.ntmps60
 go_wp2_with fail
 refine HT.out.mono ?_
 rintro e w2 ⟨rfl, hb2⟩
 have HB2 := Lib.hid (HB.out.trans (hb2.mono HB.out.size))
 have HK2 := Lib.hid (HK.out.below hb2 (by simp))
 have c0 : w2.cell? ⟨w.heap.size, 0, none⟩ = some (.int .i64 9) := HK2.out.cell 0
 clear hb2 HB HK HT
 dsimp only
 go_wp2_with fail
 refine (arity9 _).mono ?_
 rintro e w3 ⟨rfl, hb3⟩
 have c5 : w3.cell? ⟨w.heap.size, 5, none⟩ = some (.slice B 1 cap) := (HK2.out.below hb3 HK2.out.lt).cell 5
 have HB3 := Lib.hid (HB2.out.trans (hb3.mono HB2.out.size))
 clear hb3 HB2 HK2 c0
 dsimp only
 go_wp2
 go_light
 go_ret
 exact ⟨rfl, HB3.out⟩
def arityS (k : Int) : Int := if k = 1 ∨ k = 2 ∨ k = 3 then 0 else if k = 4 ∨ k = 5 then 2 else if 6 ≤ k ∧ k ≤ 9 then 1 else -1
theorem arityx0 (w : World) : Calls Tryz.prog 119 #[.int .i64 0] w fun e w' => e = .returned (.int .i64 (-1)) ∧ Below w.heap.size w w' := by
 go_enter Tryz.func119, Tryz.ntmps119
 go_wp2
 go_light
 go_ret
 exact ⟨rfl, (Below.refl _ _).alloc (Nat.le_refl _) _⟩
theorem arityx1 (w : World) : Calls Tryz.prog 119 #[.int .i64 1] w fun e w' => e = .returned (.int .i64 (0)) ∧ Below w.heap.size w w' := by
 go_enter Tryz.func119, Tryz.ntmps119
 go_wp2
 go_light
 go_ret
 exact ⟨rfl, (Below.refl _ _).alloc (Nat.le_refl _) _⟩
theorem arity_low (k : Int) (w : World) (h : k < 0) : Calls Tryz.prog 119 #[.int .i64 k] w fun e w' => e = .returned (.int .i64 (-1)) ∧ Below w.heap.size w w' := by
 go_enter Tryz.func119, Tryz.ntmps119
 go_wp2
 go_light
 go_ret
 exact ⟨rfl, (Below.refl _ _).alloc (Nat.le_refl _) _⟩
theorem arity_high (k : Int) (w : World) (h : 10 ≤ k) : Calls Tryz.prog 119 #[.int .i64 k] w fun e w' => e = .returned (.int .i64 (-1)) ∧ Below w.heap.size w w' := by
 have h0 : ¬ k < 0 := by omega
 go_enter Tryz.func119, Tryz.ntmps119
 go_wp2
 go_light
 go_ret
 exact ⟨rfl, (Below.refl _ _).alloc (Nat.le_refl _) _⟩
theorem arity_go (k : Int) (w : World) : Calls Tryz.prog 119 #[.int .i64 k] w fun e w' => e = .returned (.int .i64 (arityS k)) ∧ Below w.heap.size w w' := by
 rcases Int.lt_or_le k 0 with h | h
 ·rw [show arityS k = -1 by unfold arityS; rw [if_neg (by omega), if_neg (by omega), if_neg (by omega)]]
  exact arity_low k w h
 ·rcases Int.lt_or_le k 10 with h1 | h1
  ·have hk : k = 0 ∨ k = 1 ∨ k = 2 ∨ k = 3 ∨ k = 4 ∨ k = 5 ∨ k = 6 ∨ k = 7 ∨ k = 8 ∨ k = 9 := by omega
   rcases hk with rfl | rfl | rfl | rfl | rfl | rfl | rfl | rfl | rfl | rfl
   ·exact arityx0 w
   ·exact arityx1 w
   ·exact arity2 w
   ·exact arity3 w
   ·exact arity4 w
   ·exact arity5 w
   ·exact arity6 w
   ·exact arity7 w
   ·exact arity8 w
   ·exact arity9 w
  ·rw [show arityS k = -1 by unfold arityS; rw [if_neg (by omega), if_neg (by omega), if_neg (by omega)]]
   exact arity_high k w h1
def timesB (lo hi : Int) : Bool := decide (0 ≤ lo) && decide (lo ≤ 1000) && (decide (hi = -1) || decide (lo ≤ hi) && decide (hi ≤ 1000))
theorem times1 (lo hi : Int) (w : World) (h : ¬ 0 ≤ lo) : Calls Tryz.prog 118 #[.int .i64 lo, .int .i64 hi] w fun e w' => e = .returned (.bool false) ∧ Below w.heap.size w w' := by
 skip
 go_enter Tryz.func118, Tryz.ntmps118
 go_wp2
 go_light
 go_ret
 exact ⟨rfl, Below.refl _ _⟩
theorem times2 (lo hi : Int) (w : World) (h0 : 0 ≤ lo) (h : ¬ lo ≤ 1000) : Calls Tryz.prog 118 #[.int .i64 lo, .int .i64 hi] w fun e w' => e = .returned (.bool false) ∧ Below w.heap.size w w' := by
 skip
 go_enter Tryz.func118, Tryz.ntmps118
 go_wp2
 go_light
 go_ret
 exact ⟨rfl, Below.refl _ _⟩
theorem times3 (lo hi : Int) (w : World) (h0 : 0 ≤ lo) (h1 : lo ≤ 1000) (hm : hi ≠ -1) (h : ¬ lo ≤ hi) : Calls Tryz.prog 118 #[.int .i64 lo, .int .i64 hi] w fun e w' => e = .returned (.bool false) ∧ Below w.heap.size w w' := by
 have hb : (hi == -1) = false := by simpa using hm
 go_enter Tryz.func118, Tryz.ntmps118
 go_wp2
 go_light
 go_ret
 exact ⟨rfl, Below.refl _ _⟩
theorem times4 (lo hi : Int) (w : World) (h0 : 0 ≤ lo) (h1 : lo ≤ 1000) (hm : hi ≠ -1) (h2 : lo ≤ hi) (h : ¬ hi ≤ 1000) : Calls Tryz.prog 118 #[.int .i64 lo, .int .i64 hi] w fun e w' => e = .returned (.bool false) ∧ Below w.heap.size w w' := by
 have hb : (hi == -1) = false := by simpa using hm
 go_enter Tryz.func118, Tryz.ntmps118
 go_wp2
 go_light
 go_ret
 exact ⟨rfl, Below.refl _ _⟩
theorem timesB_go (lo hi : Int) (w : World) : Calls Tryz.prog 118 #[.int .i64 lo, .int .i64 hi] w fun e w' => e = .returned (.bool (timesB lo hi)) ∧ Below w.heap.size w w' := by
 unfold timesB
 by_cases h0 : 0 ≤ lo
 ·by_cases h1 : lo ≤ 1000
  ·by_cases hm : hi = -1
   ·subst hm
    simp only [h0, h1, decide_true, Bool.true_and, Bool.true_or]
    exact times_any lo w h0 h1
   ·by_cases h2 : lo ≤ hi
    ·by_cases h3 : hi ≤ 1000
     ·simp only [h0, h1, hm, h2, h3, decide_true, decide_false, Bool.true_and, Bool.false_or, Bool.and_self]
      exact times_two lo hi w h0 h1 h2 h3
     ·simp only [h0, h1, hm, h2, h3, decide_true, decide_false, Bool.true_and, Bool.false_or, Bool.and_false]
      exact times4 lo hi w h0 h1 hm h2 h3
    ·simp only [h0, h1, hm, h2, decide_true, decide_false, Bool.true_and, Bool.false_or, Bool.false_and]
     exact times3 lo hi w h0 h1 hm h2
  ·simp only [h0, h1, decide_true, decide_false, Bool.true_and, Bool.false_and]
   exact times2 lo hi w h0 h1
 ·simp only [h0, decide_false, Bool.false_and]
  exact times1 lo hi w h0
theorem aset1 (k a b c d lo hi : Int) (B : Option Addr) (n cap : Nat) (w : World) (h3 : k ≠ 3) (h : a ≠ 0) : Calls Tryz.prog 60 #[.agg #[.int .i64 k, .int .u64 a, .int .u64 b, .int .u64 c, .int .u64 d, .slice B n cap, .int .i64 lo, .int .i64 hi]] w fun e w' => e = .returned (.bool false) ∧ Below w.heap.size w w' := by
 have hk : (k != 3) = true := by simpa using h3
 have hb : (a == 0) = false := by simpa using h
 go_enter Tryz.func60, Tryz.ntmps60
 go_wp2
 go_light
 go_ret
 exact ⟨rfl, (Below.refl _ _).alloc (Nat.le_refl _) _⟩
theorem aset2 (k a b c d lo hi : Int) (B : Option Addr) (n cap : Nat) (w : World) (h3 : k ≠ 3) (h0 : a = 0) (h : b ≠ 0) : Calls Tryz.prog 60 #[.agg #[.int .i64 k, .int .u64 a, .int .u64 b, .int .u64 c, .int .u64 d, .slice B n cap, .int .i64 lo, .int .i64 hi]] w fun e w' => e = .returned (.bool false) ∧ Below w.heap.size w w' := by
 have hk : (k != 3) = true := by simpa using h3
 subst h0; have hb : (b == 0) = false := by simpa using h
 go_enter Tryz.func60, Tryz.ntmps60
 go_wp2
 go_light
 go_ret
 exact ⟨rfl, (Below.refl _ _).alloc (Nat.le_refl _) _⟩
theorem aset3 (k a b c d lo hi : Int) (B : Option Addr) (n cap : Nat) (w : World) (h3 : k ≠ 3) (h0 : a = 0) (h1 : b = 0) (h : c ≠ 0) : Calls Tryz.prog 60 #[.agg #[.int .i64 k, .int .u64 a, .int .u64 b, .int .u64 c, .int .u64 d, .slice B n cap, .int .i64 lo, .int .i64 hi]] w fun e w' => e = .returned (.bool false) ∧ Below w.heap.size w w' := by
 have hk : (k != 3) = true := by simpa using h3
 subst h0 h1; have hb : (c == 0) = false := by simpa using h
 go_enter Tryz.func60, Tryz.ntmps60
 go_wp2
 go_light
 go_ret
 exact ⟨rfl, (Below.refl _ _).alloc (Nat.le_refl _) _⟩
theorem aset4 (k a b c d lo hi : Int) (B : Option Addr) (n cap : Nat) (w : World) (h3 : k ≠ 3) (h0 : a = 0) (h1 : b = 0) (h2 : c = 0) (h : d ≠ 0) : Calls Tryz.prog 60 #[.agg #[.int .i64 k, .int .u64 a, .int .u64 b, .int .u64 c, .int .u64 d, .slice B n cap, .int .i64 lo, .int .i64 hi]] w fun e w' => e = .returned (.bool false) ∧ Below w.heap.size w w' := by
 have hk : (k != 3) = true := by simpa using h3
 subst h0 h1 h2; have hb : (d == 0) = false := by simpa using h
 go_enter Tryz.func60, Tryz.ntmps60
 go_wp2
 go_light
 go_ret
 exact ⟨rfl, (Below.refl _ _).alloc (Nat.le_refl _) _⟩
theorem anum1 (k a b c d lo hi : Int) (B : Option Addr) (n cap : Nat) (w : World) (h3 : k ≠ 3) (h9 : k ≠ 9) (h : lo ≠ 0) : Calls Tryz.prog 60 #[.agg #[.int .i64 k, .int .u64 0, .int .u64 0, .int .u64 0, .int .u64 0, .slice B n cap, .int .i64 lo, .int .i64 hi]] w fun e w' => e = .returned (.bool false) ∧ Below w.heap.size w w' := by
 have hk : (k != 3) = true := (by simpa using h3); have hk9 : (k == 9) = false := (by simpa using h9); have hb : (lo != 0) = true := (by simpa using h)
 go_enter Tryz.func60, Tryz.ntmps60
 go_wp2
 go_light
 go_ret
 exact ⟨rfl, (Below.refl _ _).alloc (Nat.le_refl _) _⟩
theorem anum2 (k a b c d lo hi : Int) (B : Option Addr) (n cap : Nat) (w : World) (h3 : k ≠ 3) (h9 : k ≠ 9) (h : hi ≠ 0) : Calls Tryz.prog 60 #[.agg #[.int .i64 k, .int .u64 0, .int .u64 0, .int .u64 0, .int .u64 0, .slice B n cap, .int .i64 0, .int .i64 hi]] w fun e w' => e = .returned (.bool false) ∧ Below w.heap.size w w' := by
 have hk : (k != 3) = true := (by simpa using h3); have hk9 : (k == 9) = false := (by simpa using h9); have hb : (hi != 0) = true := (by simpa using h)
 go_enter Tryz.func60, Tryz.ntmps60
 go_wp2
 go_light
 go_ret
 exact ⟨rfl, (Below.refl _ _).alloc (Nat.le_refl _) _⟩
theorem anum3 (k a b c d lo hi : Int) (B : Option Addr) (n cap : Nat) (w : World) (h : lo ≠ 0) : Calls Tryz.prog 60 #[.agg #[.int .i64 3, .int .u64 a, .int .u64 b, .int .u64 c, .int .u64 d, .slice B n cap, .int .i64 lo, .int .i64 hi]] w fun e w' => e = .returned (.bool false) ∧ Below w.heap.size w w' := by
 have hb : (lo != 0) = true := (by simpa using h)
 go_enter Tryz.func60, Tryz.ntmps60
 go_wp2
 go_light
 go_ret
 exact ⟨rfl, (Below.refl _ _).alloc (Nat.le_refl _) _⟩
theorem anum4 (k a b c d lo hi : Int) (B : Option Addr) (n cap : Nat) (w : World) (h : hi ≠ 0) : Calls Tryz.prog 60 #[.agg #[.int .i64 3, .int .u64 a, .int .u64 b, .int .u64 c, .int .u64 d, .slice B n cap, .int .i64 0, .int .i64 hi]] w fun e w' => e = .returned (.bool false) ∧ Below w.heap.size w w' := by
 have hb : (hi != 0) = true := (by simpa using h)
 go_enter Tryz.func60, Tryz.ntmps60
 go_wp2
 go_light
 go_ret
 exact ⟨rfl, (Below.refl _ _).alloc (Nat.le_refl _) _⟩
theorem anum9 (B : Option Addr) (n cap : Nat) (lo hi : Int) (w : World) (h : timesB lo hi = false) :
  Calls Tryz.prog 60 #[.agg #[.int .i64 9, .int .u64 0, .int .u64 0, .int .u64 0, .int .u64 0, .slice B n cap, .int .i64 lo, .int .i64 hi]] w fun e w' => e = .returned (.bool false) ∧ Below w.heap.size w w' := by
 have hb1 : Below w.heap.size w (w.alloc (.cells #[.int .i64 9, .int .u64 0, .int .u64 0, .int .u64 0, .int .u64 0, .slice B n cap, .int .i64 lo, .int .i64 hi] 28)) := (Below.refl _ _).alloc (Nat.le_refl _) _
 have HB := Lib.hid hb1
 have hT := timesB_go lo hi (w.alloc (.cells #[.int .i64 9, .int .u64 0, .int .u64 0, .int .u64 0, .int .u64 0, .slice B n cap, .int .i64 lo, .int .i64 hi] 28))
 rw [h] at hT
 have HT := Lib.hid hT
 clear hb1 hT h
 go_enter Tryz.func60, Tryz.ntmps60
 go_wp2_with fail
 refine HT.out.mono ?_
 rintro e w2 ⟨rfl, hb2⟩
 have HB2 := Lib.hid (HB.out.trans (hb2.mono HB.out.size))
 clear hb2 HB HT
 dsimp only
 go_wp2
 go_light
 go_ret
 exact ⟨rfl, HB2.out⟩
theorem akidn (k a b c d : Int) (B : Option Addr) (n cap : Nat) (w : World) (h3 : k ≠ 3) (h9 : k ≠ 9) (hr : arityS k = -1) : Calls Tryz.prog 60 #[.agg #[.int .i64 k, .int .u64 0, .int .u64 0, .int .u64 0, .int .u64 0, .slice B n cap, .int .i64 0, .int .i64 0]] w fun e w' => e = .returned (.bool false) ∧ Below w.heap.size w w' := by
 have hk : (k != 3) = true := (by simpa using h3); have hk9 : (k == 9) = false := (by simpa using h9)
 have hb1 : Below w.heap.size w (w.alloc (.cells #[.int .i64 k, .int .u64 0, .int .u64 0, .int .u64 0, .int .u64 0, .slice B n cap, .int .i64 0, .int .i64 0] 28)) := (Below.refl _ _).alloc (Nat.le_refl _) _
 have HB := Lib.hid hb1
 have HK := Lib.hid (Blk.new w 28 #[.int .i64 k, .int .u64 0, .int .u64 0, .int .u64 0, .int .u64 0, .slice B n cap, .int .i64 0, .int .i64 0])
 have hR := arity_go k (w.alloc (.cells #[.int .i64 k, .int .u64 0, .int .u64 0, .int .u64 0, .int .u64 0, .slice B n cap, .int .i64 0, .int .i64 0] 28))
 rw [hr] at hR
 have HR := Lib.hid hR
 clear hb1 hR hr
 go_enter Tryz.func60, Tryz.ntmps60
 go_wp2_with fail
 refine HR.out.mono ?_
 rintro e w2 ⟨rfl, hb2⟩
 have HB2 := Lib.hid (HB.out.trans (hb2.mono HB.out.size))
 have c5 := (HK.out.below hb2 (by simp)).cell 5
 have c5 : w2.cell? ⟨w.heap.size, 5, none⟩ = some (.slice B n cap) := c5
 clear hb2 HB HR HK
 dsimp only
 go_wp2
 go_light
 go_ret
 exact ⟨rfl, HB2.out⟩
theorem akid0y (k a b c d : Int) (B : Option Addr) (n cap : Nat) (w : World) (h3 : k ≠ 3) (h9 : k ≠ 9) (hr : arityS k = 0) : Calls Tryz.prog 60 #[.agg #[.int .i64 k, .int .u64 0, .int .u64 0, .int .u64 0, .int .u64 0, .slice B 0 cap, .int .i64 0, .int .i64 0]] w fun e w' => e = .returned (.bool true) ∧ Below w.heap.size w w' := by
 have hk : (k != 3) = true := (by simpa using h3); have hk9 : (k == 9) = false := (by simpa using h9)
 have hb1 : Below w.heap.size w (w.alloc (.cells #[.int .i64 k, .int .u64 0, .int .u64 0, .int .u64 0, .int .u64 0, .slice B 0 cap, .int .i64 0, .int .i64 0] 28)) := (Below.refl _ _).alloc (Nat.le_refl _) _
 have HB := Lib.hid hb1
 have HK := Lib.hid (Blk.new w 28 #[.int .i64 k, .int .u64 0, .int .u64 0, .int .u64 0, .int .u64 0, .slice B 0 cap, .int .i64 0, .int .i64 0])
 have hR := arity_go k (w.alloc (.cells #[.int .i64 k, .int .u64 0, .int .u64 0, .int .u64 0, .int .u64 0, .slice B 0 cap, .int .i64 0, .int .i64 0] 28))
 rw [hr] at hR
 have HR := Lib.hid hR
 clear hb1 hR hr
 go_enter Tryz.func60, Tryz.ntmps60
 go_wp2_with fail
 refine HR.out.mono ?_
 rintro e w2 ⟨rfl, hb2⟩
 have HB2 := Lib.hid (HB.out.trans (hb2.mono HB.out.size))
 have c5 := (HK.out.below hb2 (by simp)).cell 5
 have c5 : w2.cell? ⟨w.heap.size, 5, none⟩ = some (.slice B 0 cap) := c5
 clear hb2 HB HR HK
 dsimp only
 go_wp2
 go_light
 go_ret
 exact ⟨rfl, HB2.out⟩
theorem akid0n (k a b c d : Int) (B : Option Addr) (n cap : Nat) (w : World) (h3 : k ≠ 3) (h9 : k ≠ 9) (hr : arityS k = 0) (h : n ≠ 0) : Calls Tryz.prog 60 #[.agg #[.int .i64 k, .int .u64 0, .int .u64 0, .int .u64 0, .int .u64 0, .slice B n cap, .int .i64 0, .int .i64 0]] w fun e w' => e = .returned (.bool false) ∧ Below w.heap.size w w' := by
 have hk : (k != 3) = true := (by simpa using h3); have hk9 : (k == 9) = false := (by simpa using h9); have hb : ((n : Int) == 0) = false := (by rw [beq_eq_false_iff_ne]; omega)
 have hb1 : Below w.heap.size w (w.alloc (.cells #[.int .i64 k, .int .u64 0, .int .u64 0, .int .u64 0, .int .u64 0, .slice B n cap, .int .i64 0, .int .i64 0] 28)) := (Below.refl _ _).alloc (Nat.le_refl _) _
 have HB := Lib.hid hb1
 have HK := Lib.hid (Blk.new w 28 #[.int .i64 k, .int .u64 0, .int .u64 0, .int .u64 0, .int .u64 0, .slice B n cap, .int .i64 0, .int .i64 0])
 have hR := arity_go k (w.alloc (.cells #[.int .i64 k, .int .u64 0, .int .u64 0, .int .u64 0, .int .u64 0, .slice B n cap, .int .i64 0, .int .i64 0] 28))
 rw [hr] at hR
 have HR := Lib.hid hR
 clear hb1 hR hr
 go_enter Tryz.func60, Tryz.ntmps60
 go_wp2_with fail
 refine HR.out.mono ?_
 rintro e w2 ⟨rfl, hb2⟩
 have HB2 := Lib.hid (HB.out.trans (hb2.mono HB.out.size))
 have c5 := (HK.out.below hb2 (by simp)).cell 5
 have c5 : w2.cell? ⟨w.heap.size, 5, none⟩ = some (.slice B n cap) := c5
 clear hb2 HB HR HK
 dsimp only
 go_wp2
 go_light
 go_ret
 exact ⟨rfl, HB2.out⟩
theorem akid1y (k a b c d : Int) (B : Option Addr) (n cap : Nat) (w : World) (h3 : k ≠ 3) (h9 : k ≠ 9) (hr : arityS k = 1) : Calls Tryz.prog 60 #[.agg #[.int .i64 k, .int .u64 0, .int .u64 0, .int .u64 0, .int .u64 0, .slice B 1 cap, .int .i64 0, .int .i64 0]] w fun e w' => e = .returned (.bool true) ∧ Below w.heap.size w w' := by
 have hk : (k != 3) = true := (by simpa using h3); have hk9 : (k == 9) = false := (by simpa using h9)
 have hb1 : Below w.heap.size w (w.alloc (.cells #[.int .i64 k, .int .u64 0, .int .u64 0, .int .u64 0, .int .u64 0, .slice B 1 cap, .int .i64 0, .int .i64 0] 28)) := (Below.refl _ _).alloc (Nat.le_refl _) _
 have HB := Lib.hid hb1
 have HK := Lib.hid (Blk.new w 28 #[.int .i64 k, .int .u64 0, .int .u64 0, .int .u64 0, .int .u64 0, .slice B 1 cap, .int .i64 0, .int .i64 0])
 have hR := arity_go k (w.alloc (.cells #[.int .i64 k, .int .u64 0, .int .u64 0, .int .u64 0, .int .u64 0, .slice B 1 cap, .int .i64 0, .int .i64 0] 28))
 rw [hr] at hR
 have HR := Lib.hid hR
 clear hb1 hR hr
 go_enter Tryz.func60, Tryz.ntmps60
 go_wp2_with fail
 refine HR.out.mono ?_
 rintro e w2 ⟨rfl, hb2⟩
 have HB2 := Lib.hid (HB.out.trans (hb2.mono HB.out.size))
 have c5 := (HK.out.below hb2 (by simp)).cell 5
 have c5 : w2.cell? ⟨w.heap.size, 5, none⟩ = some (.slice B 1 cap) := c5
 clear hb2 HB HR HK
 dsimp only
 go_wp2
 go_light
 go_ret
 exact ⟨rfl, HB2.out⟩
theorem akid1n (k a b c d : Int) (B : Option Addr) (n cap : Nat) (w : World) (h3 : k ≠ 3) (h9 : k ≠ 9) (hr : arityS k = 1) (h : n ≠ 1) : Calls Tryz.prog 60 #[.agg #[.int .i64 k, .int .u64 0, .int .u64 0, .int .u64 0, .int .u64 0, .slice B n cap, .int .i64 0, .int .i64 0]] w fun e w' => e = .returned (.bool false) ∧ Below w.heap.size w w' := by
 have hk : (k != 3) = true := (by simpa using h3); have hk9 : (k == 9) = false := (by simpa using h9); have hb : ((n : Int) == 1) = false := (by rw [beq_eq_false_iff_ne]; omega)
 have hb1 : Below w.heap.size w (w.alloc (.cells #[.int .i64 k, .int .u64 0, .int .u64 0, .int .u64 0, .int .u64 0, .slice B n cap, .int .i64 0, .int .i64 0] 28)) := (Below.refl _ _).alloc (Nat.le_refl _) _
 have HB := Lib.hid hb1
 have HK := Lib.hid (Blk.new w 28 #[.int .i64 k, .int .u64 0, .int .u64 0, .int .u64 0, .int .u64 0, .slice B n cap, .int .i64 0, .int .i64 0])
 have hR := arity_go k (w.alloc (.cells #[.int .i64 k, .int .u64 0, .int .u64 0, .int .u64 0, .int .u64 0, .slice B n cap, .int .i64 0, .int .i64 0] 28))
 rw [hr] at hR
 have HR := Lib.hid hR
 clear hb1 hR hr
 go_enter Tryz.func60, Tryz.ntmps60
 go_wp2_with fail
 refine HR.out.mono ?_
 rintro e w2 ⟨rfl, hb2⟩
 have HB2 := Lib.hid (HB.out.trans (hb2.mono HB.out.size))
 have c5 := (HK.out.below hb2 (by simp)).cell 5
 have c5 : w2.cell? ⟨w.heap.size, 5, none⟩ = some (.slice B n cap) := c5
 clear hb2 HB HR HK
 dsimp only
 go_wp2
 go_light
 go_ret
 exact ⟨rfl, HB2.out⟩
theorem akid2y (k a b c d : Int) (B : Option Addr) (n cap : Nat) (w : World) (h3 : k ≠ 3) (h9 : k ≠ 9) (hr : arityS k = 2) (h : 2 ≤ n) : Calls Tryz.prog 60 #[.agg #[.int .i64 k, .int .u64 0, .int .u64 0, .int .u64 0, .int .u64 0, .slice B n cap, .int .i64 0, .int .i64 0]] w fun e w' => e = .returned (.bool true) ∧ Below w.heap.size w w' := by
 have hk : (k != 3) = true := (by simpa using h3); have hk9 : (k == 9) = false := (by simpa using h9); have hb : (2 : Int) ≤ (n : Int) := (by omega)
 have hb1 : Below w.heap.size w (w.alloc (.cells #[.int .i64 k, .int .u64 0, .int .u64 0, .int .u64 0, .int .u64 0, .slice B n cap, .int .i64 0, .int .i64 0] 28)) := (Below.refl _ _).alloc (Nat.le_refl _) _
 have HB := Lib.hid hb1
 have HK := Lib.hid (Blk.new w 28 #[.int .i64 k, .int .u64 0, .int .u64 0, .int .u64 0, .int .u64 0, .slice B n cap, .int .i64 0, .int .i64 0])
 have hR := arity_go k (w.alloc (.cells #[.int .i64 k, .int .u64 0, .int .u64 0, .int .u64 0, .int .u64 0, .slice B n cap, .int .i64 0, .int .i64 0] 28))
 rw [hr] at hR
 have HR := Lib.hid hR
 clear hb1 hR hr
 go_enter Tryz.func60, Tryz.ntmps60
 go_wp2_with fail
 refine HR.out.mono ?_
 rintro e w2 ⟨rfl, hb2⟩
 have HB2 := Lib.hid (HB.out.trans (hb2.mono HB.out.size))
 have c5 := (HK.out.below hb2 (by simp)).cell 5
 have c5 : w2.cell? ⟨w.heap.size, 5, none⟩ = some (.slice B n cap) := c5
 clear hb2 HB HR HK
 dsimp only
 go_wp2
 go_light
 go_ret
 exact ⟨rfl, HB2.out⟩
theorem akid2n (k a b c d : Int) (B : Option Addr) (n cap : Nat) (w : World) (h3 : k ≠ 3) (h9 : k ≠ 9) (hr : arityS k = 2) (h : ¬ 2 ≤ n) : Calls Tryz.prog 60 #[.agg #[.int .i64 k, .int .u64 0, .int .u64 0, .int .u64 0, .int .u64 0, .slice B n cap, .int .i64 0, .int .i64 0]] w fun e w' => e = .returned (.bool false) ∧ Below w.heap.size w w' := by
 have hk : (k != 3) = true := (by simpa using h3); have hk9 : (k == 9) = false := (by simpa using h9); have hb : decide ((2 : Int) ≤ (n : Int)) = false := (by rw [decide_eq_false_iff_not]; omega)
 have hb1 : Below w.heap.size w (w.alloc (.cells #[.int .i64 k, .int .u64 0, .int .u64 0, .int .u64 0, .int .u64 0, .slice B n cap, .int .i64 0, .int .i64 0] 28)) := (Below.refl _ _).alloc (Nat.le_refl _) _
 have HB := Lib.hid hb1
 have HK := Lib.hid (Blk.new w 28 #[.int .i64 k, .int .u64 0, .int .u64 0, .int .u64 0, .int .u64 0, .slice B n cap, .int .i64 0, .int .i64 0])
 have hR := arity_go k (w.alloc (.cells #[.int .i64 k, .int .u64 0, .int .u64 0, .int .u64 0, .int .u64 0, .slice B n cap, .int .i64 0, .int .i64 0] 28))
 rw [hr] at hR
 have HR := Lib.hid hR
 clear hb1 hR hr
 go_enter Tryz.func60, Tryz.ntmps60
 go_wp2_with fail
 refine HR.out.mono ?_
 rintro e w2 ⟨rfl, hb2⟩
 have HB2 := Lib.hid (HB.out.trans (hb2.mono HB.out.size))
 have c5 := (HK.out.below hb2 (by simp)).cell 5
 have c5 : w2.cell? ⟨w.heap.size, 5, none⟩ = some (.slice B n cap) := c5
 clear hb2 HB HR HK
 dsimp only
 go_wp2
 go_light
 go_ret
 exact ⟨rfl, HB2.out⟩
theorem akid3n (k a b c d : Int) (B : Option Addr) (n cap : Nat) (w : World) (h : n ≠ 0) : Calls Tryz.prog 60 #[.agg #[.int .i64 3, .int .u64 a, .int .u64 b, .int .u64 c, .int .u64 d, .slice B n cap, .int .i64 0, .int .i64 0]] w fun e w' => e = .returned (.bool false) ∧ Below w.heap.size w w' := by
 have hr : arityS 3 = 0 := rfl; have hb : ((n : Int) == 0) = false := (by rw [beq_eq_false_iff_ne]; omega)
 have hb1 : Below w.heap.size w (w.alloc (.cells #[.int .i64 3, .int .u64 a, .int .u64 b, .int .u64 c, .int .u64 d, .slice B n cap, .int .i64 0, .int .i64 0] 28)) := (Below.refl _ _).alloc (Nat.le_refl _) _
 have HB := Lib.hid hb1
 have HK := Lib.hid (Blk.new w 28 #[.int .i64 3, .int .u64 a, .int .u64 b, .int .u64 c, .int .u64 d, .slice B n cap, .int .i64 0, .int .i64 0])
 have hR := arity_go 3 (w.alloc (.cells #[.int .i64 3, .int .u64 a, .int .u64 b, .int .u64 c, .int .u64 d, .slice B n cap, .int .i64 0, .int .i64 0] 28))
 rw [hr] at hR
 have HR := Lib.hid hR
 clear hb1 hR hr
 go_enter Tryz.func60, Tryz.ntmps60
 go_wp2_with fail
 refine HR.out.mono ?_
 rintro e w2 ⟨rfl, hb2⟩
 have HB2 := Lib.hid (HB.out.trans (hb2.mono HB.out.size))
 have c5 := (HK.out.below hb2 (by simp)).cell 5
 have c5 : w2.cell? ⟨w.heap.size, 5, none⟩ = some (.slice B n cap) := c5
 clear hb2 HB HR HK
 dsimp only
 go_wp2
 go_light
 go_ret
 exact ⟨rfl, HB2.out⟩
theorem akid9n (B : Option Addr) (n cap : Nat) (lo hi : Int) (w : World) (hn : n ≠ 1) (h0 : 0 ≤ lo) (h1 : lo ≤ 1000) (h : hi = -1 ∨ lo ≤ hi ∧ hi ≤ 1000) :
  Calls Tryz.prog 60 #[.agg #[.int .i64 9, .int .u64 0, .int .u64 0, .int .u64 0, .int .u64 0, .slice B n cap, .int .i64 lo, .int .i64 hi]] w fun e w' => e = .returned (.bool false) ∧ Below w.heap.size w w' := by
 have hnb : ((n : Int) == 1) = false := (by rw [beq_eq_false_iff_ne]; omega)
 have hb1 : Below w.heap.size w (w.alloc (.cells #[.int .i64 9, .int .u64 0, .int .u64 0, .int .u64 0, .int .u64 0, .slice B n cap, .int .i64 lo, .int .i64 hi] 28)) := (Below.refl _ _).alloc (Nat.le_refl _) _
 have HB := Lib.hid hb1
 have HK := Lib.hid (Blk.new w 28 #[.int .i64 9, .int .u64 0, .int .u64 0, .int .u64 0, .int .u64 0, .slice B n cap, .int .i64 lo, .int .i64 hi])
 have HT := Lib.hid (times_go lo hi (w.alloc (.cells #[.int .i64 9, .int .u64 0, .int .u64 0, .int .u64 0, .int .u64 0, .slice B n cap, .int .i64 lo, .int .i64 hi] 28)) h0 h1 h)
 clear hb1 h0 h1 h
 go_enter Tryz.func60, Tryz.ntmps60
 go_wp2_with fail
 refine HT.out.mono ?_
 rintro e w2 ⟨rfl, hb2⟩
 have HB2 := Lib.hid (HB.out.trans (hb2.mono HB.out.size))
 have HK2 := Lib.hid (HK.out.below hb2 (by simp))
 have c0 : w2.cell? ⟨w.heap.size, 0, none⟩ = some (.int .i64 9) := HK2.out.cell 0
 clear hb2 HB HK HT
 dsimp only
 go_wp2_with fail
 refine (arity9 _).mono ?_
 rintro e w3 ⟨rfl, hb3⟩
 have c5 : w3.cell? ⟨w.heap.size, 5, none⟩ = some (.slice B n cap) := (HK2.out.below hb3 HK2.out.lt).cell 5
 have HB3 := Lib.hid (HB2.out.trans (hb3.mono HB2.out.size))
 clear hb3 HB2 HK2 c0
 dsimp only
 go_wp2
 go_light
 go_ret
 exact ⟨rfl, HB3.out⟩
def aloneV (k a b c d : Int) (n : Nat) (lo hi : Int) : Bool :=
 if k = 3 then decide (lo = 0) && (decide (hi = 0) && decide (n = 0))
 else if a ≠ 0 ∨ b ≠ 0 ∨ c ≠ 0 ∨ d ≠ 0 then false
 else if k = 9 then timesB lo hi && decide (n = 1)
 else decide (lo = 0) && (decide (hi = 0) && (if arityS k = 0 then decide (n = 0) else if arityS k = 1 then decide (n = 1) else if arityS k = 2 then decide (2 ≤ n) else false))
theorem arityS_of (k : Int) : arityS k = 0 ∨ arityS k = 1 ∨ arityS k = 2 ∨ arityS k = -1 := by
 unfold arityS
 split
 ·simp
 split
 ·simp
 split <;> simp
theorem alone_any (k a b c d lo hi : Int) (B : Option Addr) (n cap : Nat) (w : World) :
  Calls Tryz.prog 60 #[.agg #[.int .i64 k, .int .u64 a, .int .u64 b, .int .u64 c, .int .u64 d, .slice B n cap, .int .i64 lo, .int .i64 hi]] w fun e w' => e = .returned (.bool (aloneV k a b c d n lo hi)) ∧ Below w.heap.size w w' := by
 unfold aloneV
 by_cases h3 : k = 3
 ·subst h3
  rw [if_pos rfl]
  by_cases h1 : lo = 0
  ·subst h1
   by_cases h2 : hi = 0
   ·subst h2
    by_cases h4 : n = 0
    ·subst h4
     exact alone3 B cap a b c d w
    ·simp only [h4, decide_true, decide_false, Bool.true_and]
     exact akid3n 0 a b c d B n cap w h4
   ·simp only [h2, decide_true, decide_false, Bool.true_and, Bool.false_and]
    exact anum4 0 a b c d 0 hi B n cap w h2
  ·simp only [h1, decide_false, Bool.false_and]
   exact anum3 0 a b c d lo hi B n cap w h1
 rw [if_neg h3]
 by_cases hs : a ≠ 0 ∨ b ≠ 0 ∨ c ≠ 0 ∨ d ≠ 0
 ·rw [if_pos hs]
  by_cases ha : a = 0
  ·by_cases hb : b = 0
   ·by_cases hc : c = 0
    ·exact aset4 k a b c d lo hi B n cap w h3 ha hb hc (by omega)
    ·exact aset3 k a b c d lo hi B n cap w h3 ha hb hc
   ·exact aset2 k a b c d lo hi B n cap w h3 ha hb
  ·exact aset1 k a b c d lo hi B n cap w h3 ha
 rw [if_neg hs]
 obtain ⟨rfl, rfl, rfl, rfl⟩ : a = 0 ∧ b = 0 ∧ c = 0 ∧ d = 0 := by omega
 by_cases h9 : k = 9
 ·subst h9
  rw [if_pos rfl]
  cases ht : timesB lo hi
  ·rw [Bool.false_and]
   exact anum9 B n cap lo hi w ht
  ·have ht' := ht
   unfold timesB at ht'
   simp only [Bool.and_eq_true, Bool.or_eq_true, decide_eq_true_eq] at ht'
   obtain ⟨⟨t0, t1⟩, t2⟩ := ht'
   by_cases hn : n = 1
   ·subst hn
    exact alone9 B cap lo hi w t0 t1 t2
   ·simp only [hn, decide_false, Bool.and_false]
    exact akid9n B n cap lo hi w hn t0 t1 t2
 rw [if_neg h9]
 by_cases h1 : lo = 0
 ·subst h1
  by_cases h2 : hi = 0
  ·subst h2
   simp only [decide_true, Bool.true_and]
   rcases arityS_of k with hr | hr | hr | hr
   ·rw [if_pos hr]
    by_cases hn : n = 0
    ·subst hn
     exact akid0y k 0 0 0 0 B 0 cap w h3 h9 hr
    ·simp only [hn, decide_false]
     exact akid0n k 0 0 0 0 B n cap w h3 h9 hr hn
   ·rw [if_neg (by omega), if_pos hr]
    by_cases hn : n = 1
    ·subst hn
     exact akid1y k 0 0 0 0 B 1 cap w h3 h9 hr
    ·simp only [hn, decide_false]
     exact akid1n k 0 0 0 0 B n cap w h3 h9 hr hn
   ·rw [if_neg (by omega), if_neg (by omega), if_pos hr]
    by_cases hn : 2 ≤ n
    ·simp only [hn, decide_true]
     exact akid2y k 0 0 0 0 B n cap w h3 h9 hr hn
    ·simp only [hn, decide_false]
     exact akid2n k 0 0 0 0 B n cap w h3 h9 hr hn
   ·rw [if_neg (by omega), if_neg (by omega), if_neg (by omega)]
    exact akidn k 0 0 0 0 B n cap w h3 h9 hr
  ·simp only [h2, decide_true, decide_false, Bool.true_and, Bool.false_and]
   exact anum2 k 0 0 0 0 0 hi B n cap w h3 h9 h2
 ·simp only [h1, decide_false, Bool.false_and]
  exact anum1 k 0 0 0 0 lo hi B n cap w h3 h9 h1
theorem tbytes_any (p : Nat → Bool) (w : World) :
  Calls Tryz.prog 122 #[.agg #[.int .u64 (word p 0), .int .u64 (word p 1), .int .u64 (word p 2), .int .u64 (word p 3)]] w fun e w' => e = .returned (ndV (leafN (maskOf p)) none 0) ∧ Below w.heap.size w w' := by
 have hv : ndV (leafN (maskOf p)) none 0 = .agg #[.int .i64 3, .int .u64 (word p 0), .int .u64 (word p 1), .int .u64 (word p 2), .int .u64 (word p 3), .slice none 0 0, .int .i64 0, .int .i64 0] := by
  unfold ndV leafN
  dsimp only
  rw [word_mask p 0 (by decide), word_mask p 1 (by decide), word_mask p 2 (by decide), word_mask p 3 (by decide)]
  rfl
 rw [hv]
 go_enter Tryz.func122, Tryz.ntmps122
 go_wp2
 go_light
 refine bodyPost_ret (ret_node Tryz.results122 rfl (Blk.new_at (by simp))) rfl ⟨rfl, ((Below.refl _ _).alloc (Nat.le_refl _) _).alloc (by simp) _⟩
theorem tempty_any (w : World) :
  Calls Tryz.prog 90 #[] w fun e w' => e = .returned (ndV emptyN none 0) ∧ Below w.heap.size w w' := by
 have hv : ndV emptyN none 0 = .agg #[.int .i64 2, .int .u64 0, .int .u64 0, .int .u64 0, .int .u64 0, .slice none 0 0, .int .i64 0, .int .i64 0] := ndV_plain _ _ _ _ _ _
 rw [hv]
 go_enter Tryz.func90, Tryz.ntmps90
 go_wp2
 go_light
 refine bodyPost_ret (ret_node Tryz.results90 rfl (Blk.new_at (by simp))) rfl ⟨rfl, (Below.refl _ _).alloc (Nat.le_refl _) _⟩
def Flatted (P : Nat → Prop) (x : Nd) (w : World) (e : Ending) (w' : World) : Prop :=
 ∃ B cap, e = .returned (ndV x B cap) ∧ Below w.heap.size w w' ∧ x.kids.len ≤ cap ∧ TreesAt w' P x.kids B
theorem flatN_many (k : Int) (l : List Nd) (h : l.length ≠ 1) : flatN k l = ⟨k, 0, Trees.of l, 0, 0⟩ := by
 match l, h with
 | [], _ => rfl
 | [x], h => exact absurd rfl h
 | x :: y :: l, _ => rfl
theorem flat_go (k : Int) (P : Nat → Prop) (A : Option Addr) (cap : Nat) (l : List Nd) (w : World) (hc : l.length ≤ cap) (ht : TreesAt w P (Trees.of l) A) :
  Calls Tryz.prog 204 #[.int .i64 k, .slice A l.length cap] w (Flatted P (flatN k l) w) := by
 by_cases h1 : l.length = 1
 ·obtain ⟨x, rfl⟩ := List.length_eq_one_iff.1 h1
  obtain ⟨b, o, B, cap', rfl, hb, hc', hn, hk⟩ := ht.get (i := 0) (x := x) (by rw [Trees.list_of]; rfl)
  obtain ⟨c0, c1, c2, c3, c4, c5, c6, c7⟩ := hn
  have hbl := World.block_lt_of_cell? w _ c0
  have HK := Lib.hid hk
  simp only [Nat.zero_mul, Nat.add_zero] at c0 c1 c2 c3 c4 c5 c6 c7
  clear hk ht h1
  show Calls _ _ #[.int .i64 k, .slice (some ⟨b, o, none⟩) 1 cap] w (Flatted P x w)
  go_enter Tryz.func204, Tryz.ntmps204
  go_wp2
  go_light
  exact bodyPost_ret (ret_node Tryz.results204 rfl (Blk.new_at (by simp))) rfl ⟨B, cap', rfl, (Below.refl _ _).alloc (Nat.le_refl _) _, hc', HK.out.below ((Below.refl _ _).alloc (Nat.le_refl _) _)⟩
 ·rw [flatN_many k l h1]
  have hd : ((l.length : Int) == 1) = false := by simp; omega
  have HT := Lib.hid ht
  clear ht h1
  go_enter Tryz.func204, Tryz.ntmps204
  go_wp2
  go_light
  exact bodyPost_ret (ret_node Tryz.results204 rfl (Blk.new_at (by simp))) rfl ⟨A, cap, by rw [ndV_plain, Trees.len_of], (Below.refl _ _).alloc (Nat.le_refl _) _, by rw [Trees.len_of]; exact hc, HT.out.below ((Below.refl _ _).alloc (Nat.le_refl _) _)⟩
def badV (k q : Int) : Value := .iface 77 (.agg #[.int .i64 k, .int .i64 q])
def Panics (p : Nat) (r : Wrong) (W : World) (e : Ending) (W' : World) : Prop := e = .panicked [{ v := badV r.1 r.2, recovered := false }] ∧ Below p W W'
def Gives (p m : Nat) (v : Value) (r : Except Wrong (Nd × List Lex)) (W : World) (e : Ending) (W' : World) : Prop :=
 match r with
 | .ok (x, R) => ∃ v' B cap, e = .returned (ndV x B cap) ∧ PAt W' p v' R m ∧ Still p W v W' v' ∧ x.kids.len ≤ cap ∧ TreesAt W' (New W.heap.size p v') x.kids B
 | .error x => Panics p x W e W'
def zeroN : Value := .agg #[.int .i64 0, .int .u64 0, .int .u64 0, .int .u64 0, .int .u64 0, .slice none 0 0, .int .i64 0, .int .i64 0]
def GivesO (p m : Nat) (v : Value) (r : Except Wrong (Option Nd × List Lex)) (W : World) (e : Ending) (W' : World) : Prop :=
 match r with
 | .ok (some x, R) => ∃ v' B cap, e = .returned (.tuple #[ndV x B cap, .bool true]) ∧ PAt W' p v' R m ∧ Still p W v W' v' ∧ x.kids.len ≤ cap ∧ TreesAt W' (New W.heap.size p v') x.kids B
 | .ok (none, R) => ∃ v', e = .returned (.tuple #[zeroN, .bool false]) ∧ PAt W' p v' R m ∧ Still p W v W' v'
 | .error x => Panics p x W e W'
def partR : Except Wrong (List Nd × List Lex) → Except Wrong (Nd × List Lex)
 | .ok (ps, R) => .ok (partN ps, R)
 | .error e => .error e
def AltC (n : Nat) : Prop := ∀ (p : Nat) (op : List Int) (L : List Lex) (W : World) (v : Value), PAt W p v L op.length → L.length ≤ 100000 → op.length ≤ 64 → 3 * L.length + 2 < n →
 Calls Tryz.prog 160 #[.pointer (some ⟨p, 0, none⟩)] W (Gives p op.length v (altG n op [] L) W)
def PartC (n : Nat) : Prop := ∀ (p : Nat) (op : List Int) (L : List Lex) (W : World) (v : Value), PAt W p v L op.length → L.length ≤ 100000 → op.length ≤ 64 → 3 * L.length + 1 < n →
 Calls Tryz.prog 201 #[.pointer (some ⟨p, 0, none⟩)] W (Gives p op.length v (partR (piecesG n op [] L)) W)
def AtomC (n : Nat) : Prop := ∀ (p : Nat) (op : List Int) (L : List Lex) (W : World) (v : Value), PAt W p v L op.length → L.length ≤ 100000 → op.length ≤ 64 → 3 * L.length < n →
 Calls Tryz.prog 233 #[.pointer (some ⟨p, 0, none⟩)] W (GivesO p op.length v (atomG n op L) W)
def GivesG (p m : Nat) (v : Value) (r : Except Wrong (Option Nd × List Lex)) (W : World) (e : Ending) (W' : World) : Prop :=
 match r with
 | .ok (some x, R) => ∃ v' B cap, e = .returned (ndV x B cap) ∧ PAt W' p v' R m ∧ Still p W v W' v' ∧ x.kids.len ≤ cap ∧ TreesAt W' (New W.heap.size p v') x.kids B
 | .ok (none, R) => False
 | .error x => Panics p x W e W'
theorem info_int : (Tryz.prog.info? 3).map (fun i => (i.zero, i.size, i.bytes)) = some (some (.int .i64 0), 1, 8) := by kernel_rfl
def Zr (p R : Nat) (v : Value) (w : World) : Prop := Blk w R 28 #[.int .i64 0, .int .u64 0, .int .u64 0, .int .u64 0, .int .u64 0, .slice none 0 0, .int .i64 0, .int .i64 0] ∧ Off p v R
theorem Zr.still {p R : Nat} {v v' : Value} {w w' : World} (h : Zr p R v w) (hs : Still p w v w' v') : Zr p R v' w' := ⟨hs.blk h.2 h.1, hs.off h.2 h.1.lt⟩
theorem Zr.below {p R : Nat} {v : Value} {w w' : World} (h : Zr p R v w) (hb : Below w.heap.size w w') : Zr p R v w' := ⟨h.1.below hb h.1.lt, h.2⟩
theorem zr_new {p : Nat} {v : Value} {W : World} (hp : p < W.heap.size) (hv : ∀ g, v.ownBlock = some g → g < W.heap.size) : Zr p W.heap.size v (W.alloc (.cells #[.int .i64 0, .int .u64 0, .int .u64 0, .int .u64 0, .int .u64 0, .slice none 0 0, .int .i64 0, .int .i64 0] 28)) :=
 ⟨Blk.new W _ _, by omega, fun e => by have := hv _ e.symm; omega⟩
theorem PAt.drew {w : World} {p : Nat} {v : Value} {L : List Lex} {m : Nat} (h : PAt w p v L m) : PAt w.drew p v L m := by
 obtain ⟨A, cap, xs, hb, hc, hl, hr⟩ := h
 exact ⟨A, cap, xs, hb.drew, hc, hl.below (Below.refl _ _).drew, hr⟩
theorem Still.drew {p : Nat} {w w' : World} {v v' : Value} (h : Still p w v w' v') : Still p w v w'.drew v' := ⟨h.1.drew, h.2.1, h.2.2⟩
theorem TreesAt.drew {w : World} {P : Nat → Prop} {F : Trees} {A : Option Addr} (h : TreesAt w P F A) : TreesAt w.drew P F A := TreesAt.keep (w := w) (w' := w.drew) (fun _ _ _ _ => rfl) (fun _ h _ => h) h
theorem filled {W w : World} {p R m : Nat} {v0 v : Value} {L : List Lex} {x : Nd} {B : Option Addr} {cap : Nat} (hP : PAt w p v L m) (hS : Still p W v0 w v) (hZ : Zr p R v w) (hR : W.heap.size = R) (hp : p < W.heap.size) (ht : TreesAt w (New (R + 1) p v) x.kids B) {w' : World}
  (hw' : w' = ((((((((w.setCell ⟨R, 0, none⟩ (.int .i64 x.kind)).setCell ⟨R, 1, none⟩ (.int .u64 (word x.set.testBit 0))).setCell ⟨R, 2, none⟩ (.int .u64 (word x.set.testBit 1))).setCell ⟨R, 3, none⟩ (.int .u64 (word x.set.testBit 2))).setCell ⟨R, 4, none⟩ (.int .u64 (word x.set.testBit 3))).setCell ⟨R, 5, none⟩ (.slice B x.kids.len cap)).setCell ⟨R, 6, none⟩ (.int .i64 x.lo)).setCell ⟨R, 7, none⟩ (.int .i64 x.hi))) :
  Blk w' R 28 (ndA x B cap) ∧ PAt w' p v L m ∧ Still p W v0 w' v ∧ TreesAt w' (New W.heap.size p v) x.kids B := by
 have hg : w.grownBy w' (some R) := by rw [hw']; exact only_put8 _ _ _ _ _ _ _ _ _ _
 have hx : Blk w' R 28 (ndA x B cap) := by rw [hw']; exact hZ.1.put8 _ _ _ _ _ _ _ _
 refine ⟨hx, hP.only hg (by omega) (fun g e h => hZ.2.2 (by rw [e, h])), hS.only hg hp (by omega), ht.keep (fun b o hb hl => World.cell?_of_block (hg.block b hl (fun e => ?_))) (fun b hb _ => ⟨by have := hb.1; omega, hb.2⟩)⟩
 have := hb.1
 have := Option.some.inj e
 omega
theorem group_deep (n p : Nat) (op : List Int) (y : Lex) (L : List Lex) (W : World) (v : Value) (hP : PAt W p v (y :: L) op.length) (hlen : (y :: L).length ≤ 100000) (hk : y.kind = 2) (h64 : op.length = 64) :
  Calls Tryz.prog 249 #[.pointer (some ⟨p, 0, none⟩)] W (GivesG p op.length v (atomG (n + 1) op (y :: L)) W) := by
 rw [atomG_deep hk h64]
 have hd : ((op.length : Int) == 64) = true := by simp; omega
 obtain ⟨i0, hi, hz0, hz1, hz2⟩ := info_parts info_int
 have hp := hP.lt
 have hP1 := hP.below ((Below.refl W.heap.size W).alloc (Nat.le_refl _) (.cells #[.int .i64 0, .int .u64 0, .int .u64 0, .int .u64 0, .int .u64 0, .slice none 0 0, .int .i64 0, .int .i64 0] 28))
 have HN := Lib.hid (next_any hP1 (by simp at hlen; omega))
 have hv : ∀ g, v.ownBlock = some g → g < W.heap.size := by
  obtain ⟨_, _, _, _, _, _, hr⟩ := hP
  exact fun g e => (hr.lt g e).2
 obtain ⟨Av, cv, rfl⟩ : ∃ A c, v = .slice A op.length c := by
  obtain ⟨_, _, _, _, _, _, hr⟩ := hP
  exact own_slice hr
 clear hP hP1
 go_enter Tryz.func249, Tryz.ntmps249
 go_wp2_with fail
 refine HN.out.mono ?_
 rintro e w2 ⟨rfl, hP2, hS2⟩
 have HZ := Lib.hid ((zr_new hp hv).still hS2)
 have hS2 := (Still.of_below (v := .slice Av op.length cv) ((Below.refl W.heap.size W).alloc (Nat.le_refl _) (.cells #[.int .i64 0, .int .u64 0, .int .u64 0, .int .u64 0, .int .u64 0, .slice none 0 0, .int .i64 0, .int .i64 0] 28)) (Nat.le_of_lt hp)).trans hS2
 clear HN
 unfold lexV
 have hsz2 := hS2.1.size
 have HS2 := Lib.hid hS2
 obtain ⟨A2, cap2, xs2, hb2, hc2, hl2, hr2⟩ := hP2
 have q0 : w2.cell? ⟨p, 0, none⟩ = some (.slice A2 L.length cap2) := hb2.cell 0
 have q1 : w2.cell? ⟨p, 1, none⟩ = some (.slice Av op.length cv) := hb2.cell 1
 have fq1 := hb2.frozen 1
 have HB2 := Lib.hid hb2
 have HL2 := Lib.hid hl2
 have HR2 := Lib.hid hr2
 clear hS2 hb2 hl2 hr2
 clear h64
 go_wp2_with fail
 refine (fail_any _ _ _).mono ?_
 rintro e w3 ⟨rfl, rfl⟩
 go_wp2
 exact ⟨rfl, rfl, HS2.out.1⟩
theorem pushed {w2 w3 : World} {p m g cap : Nat} {A2 : Option Addr} {cap2 : Nat} {v : Value} {L : List Lex} {xs xs3 : List Value} {o : Obj} (hb : Blk w2 p 179 #[.slice A2 L.length cap2, v]) (hc2 : L.length ≤ cap2) (hl : LexsAt w2 p A2 L) (hr : w2.ownsRow (p + 1) 3 1 v m xs)
  (hown : w3.ownsRow (p + 1) 3 1 (.slice (some ⟨g, 0, none⟩) (m + 1) cap) (m + 1) xs3) (hgrow : (w2.alloc o).grownBy w3 v.ownBlock) (hat : v.ownBlock = some g ∨ g = w2.heap.size + 1) :
  PAt (w3.setCell ⟨p, 1, none⟩ (.slice (some ⟨g, 0, none⟩) (m + 1) cap)) p (.slice (some ⟨g, 0, none⟩) (m + 1) cap) L (m + 1) ∧ Still p w2 v (w3.setCell ⟨p, 1, none⟩ (.slice (some ⟨g, 0, none⟩) (m + 1) cap)) (.slice (some ⟨g, 0, none⟩) (m + 1) cap) := by
 have hp := hb.lt
 have hne := blk_not_row hb (by decide) hr
 have hg : p + 1 ≤ g := (hown.lt g rfl).1
 have hB : Below p w2 (w3.setCell ⟨p, 1, none⟩ (.slice (some ⟨g, 0, none⟩) (m + 1) cap)) :=
  (((Below.refl p w2).alloc (Nat.le_of_lt hp) o).grown hgrow (by simp; omega) (fun k hk => by have := (hr.lt k hk).1; omega)).setCell (p := ⟨p, 1, none⟩) (Nat.le_refl _) _
 have hb3 : Blk w3 p 179 #[.slice A2 L.length cap2, v] := (hb.alloc o).grown hgrow hne
 refine ⟨⟨A2, cap2, xs3, hb3.set_ 1 _, hc2, hl.below hB, own_set hown (by simp [Value.ownBlock]; omega)⟩, hB, fun b hl ho => ?_, fun k hk => ?_⟩
 ·rw [Below.heap_setCell w3 ⟨p, 1, none⟩ _ b ho.1, hgrow.block b (by simp; omega) ho.2]
  exact Below.heap_alloc w2 o b hl
 ·obtain rfl : g = k := by simpa [Value.ownBlock] using hk
  rcases hat with h | h
  ·exact .inl h
  ·exact .inr (by omega)
theorem popped {w : World} {p m g cap : Nat} {L : List Lex} (h : PAt w p (.slice (some ⟨g, 0, none⟩) (m + 1) cap) L (m + 1)) :
  PAt (w.setCell ⟨p, 1, none⟩ (.slice (some ⟨g, 0, none⟩) m cap)) p (.slice (some ⟨g, 0, none⟩) m cap) L m ∧ Still p w (.slice (some ⟨g, 0, none⟩) (m + 1) cap) (w.setCell ⟨p, 1, none⟩ (.slice (some ⟨g, 0, none⟩) m cap)) (.slice (some ⟨g, 0, none⟩) m cap) := by
 obtain ⟨A, c, xs, hb, hc, hl, hr⟩ := h
 have hne := blk_not_row hb (by decide) hr
 have hx := hr.1
 have hxs : xs = xs.take m ++ xs.drop m := (List.take_append_drop m xs).symm
 rw [hxs] at hr
 have hr2 := ownsRow_pop (n := m) (xs := xs.take m) (last := xs.drop m) (by simp; omega) hr
 refine ⟨⟨A, c, _, hb.set_ 1 _, hc, hl.below ((Below.refl p w).setCell (p := ⟨p, 1, none⟩) (Nat.le_refl _) _), own_set hr2 hne⟩, (Below.refl p w).setCell (p := ⟨p, 1, none⟩) (Nat.le_refl _) _, fun b _ ho => Below.heap_setCell w ⟨p, 1, none⟩ _ b ho.1, fun k hk => .inl hk⟩
theorem group_go (n p : Nat) (op : List Int) (y : Lex) (L : List Lex) (W : World) (v : Value) (hA : AltC n) (hP : PAt W p v (y :: L) op.length) (hlen : (y :: L).length ≤ 100000) (hk : y.kind = 2) (h64 : op.length < 64) (hn : 3 * (y :: L).length < n + 1) :
  Calls Tryz.prog 249 #[.pointer (some ⟨p, 0, none⟩)] W (GivesG p op.length v (atomG (n + 1) op (y :: L)) W) := by
 have hd : ((op.length : Int) == 64) = false := by simp; omega
 obtain ⟨i0, hi, hz0, hz1, hz2⟩ := info_parts info_int
 have hp := hP.lt
 have hP1 := hP.below ((Below.refl W.heap.size W).alloc (Nat.le_refl _) (.cells #[.int .i64 0, .int .u64 0, .int .u64 0, .int .u64 0, .int .u64 0, .slice none 0 0, .int .i64 0, .int .i64 0] 28))
 have HN := Lib.hid (next_any hP1 (by simp at hlen; omega))
 have hv : ∀ g, v.ownBlock = some g → g < W.heap.size := by
  obtain ⟨_, _, _, _, _, _, hr⟩ := hP
  exact fun g e => (hr.lt g e).2
 obtain ⟨Av, cv, rfl⟩ : ∃ A c, v = .slice A op.length c := by
  obtain ⟨_, _, _, _, _, _, hr⟩ := hP
  exact own_slice hr
 clear hP hP1
 go_enter Tryz.func249, Tryz.ntmps249
 go_wp2_with fail
 refine HN.out.mono ?_
 rintro e w2 ⟨rfl, hP2, hS2⟩
 have HZ := Lib.hid ((zr_new hp hv).still hS2)
 have hS2 := (Still.of_below (v := .slice Av op.length cv) ((Below.refl W.heap.size W).alloc (Nat.le_refl _) (.cells #[.int .i64 0, .int .u64 0, .int .u64 0, .int .u64 0, .int .u64 0, .slice none 0 0, .int .i64 0, .int .i64 0] 28)) (Nat.le_of_lt hp)).trans hS2
 clear HN
 unfold lexV
 have hsz2 := hS2.1.size
 have HS2 := Lib.hid hS2
 obtain ⟨A2, cap2, xs2, hb2, hc2, hl2, hr2⟩ := hP2
 have q0 : w2.cell? ⟨p, 0, none⟩ = some (.slice A2 L.length cap2) := hb2.cell 0
 have q1 : w2.cell? ⟨p, 1, none⟩ = some (.slice Av op.length cv) := hb2.cell 1
 have fq1 := hb2.frozen 1
 have HB2 := Lib.hid hb2
 have HL2 := Lib.hid hl2
 have HR2 := Lib.hid hr2
 clear hS2 hb2 hl2 hr2
 have hv2 : ∀ g, (Value.slice Av op.length cv).ownBlock = some g → g < w2.heap.size := fun g e => (HR2.out.lt g e).2
 have Hne := Lib.hid (blk_not_row HB2.out (by decide) HR2.out)
 have HH := Lib.hid hv2
 have hp2 : p + 1 ≤ w2.heap.size := HB2.out.lt
 have HV := Lib.hid hv
 clear hv hv2
 have h63 : op.length + 1 ≤ maxLen := Nat.le_trans (by omega) (show 200000 ≤ maxLen by decide)
 have hby : (op.length + 1) * 8 ≤ 140737488355328 := by omega
 go_wp2_with (at_builtin; refine wpList_append_lies _ rfl _ _ 38 rfl (p + 1) 3 i0 _ 1 8 Tryz.underlying38 hi hz0 hz1 hz2 rfl (by decide) _ _ _ rfl (HR2.out.alloc _) ⟨w2.heap.size, 0, none⟩ 1 1 [.int .i64 y.place] rfl rfl (cell_one_new _ _ _) (by simp [Value.oneCell']) (by decide) h63 hby (by simp; omega) (w2.heap.size + 1) (by simp) ?_; intro g3 cap3 w3 hown3 hgrow3 hat3 hg3; have hB3 : Blk w3 p 179 #[.slice A2 L.length cap2, .slice Av op.length cv] := (HB2.out.alloc (.cells #[.int .i64 y.place] 3)).grown hgrow3 Hne.out; have fq := hB3.frozen 1; have q3 : w3.cell? ⟨p, 1, none⟩ = some (.slice Av op.length cv) := hB3.cell 1; have HPS := Lib.hid (pushed HB2.out hc2 HL2.out HR2.out hown3 hgrow3 hat3); clear hB3 hown3 hgrow3 hat3)
 obtain ⟨hP4, hS4⟩ := HPS.out
 have HP4 := Lib.hid hP4
 have HS4 := Lib.hid (HS2.out.trans hS4)
 have HT4 := Lib.hid hS4
 clear hP4 hS4 HPS
 have HZ := Lib.hid (HZ.out.still HT4.out)
 clear q0 q1 fq1 q3 fq HB2 HL2 HR2 Hne HH HV hd
 cases hx : altG n (y.place :: op) [] L with
 | error x =>
  have HX := Lib.hid hx
  have HE := Lib.hid (atomG_in hk (by omega) hx)
  clear hx
  refine (hA p (y.place :: op) L _ _ HP4.out (by simp at hlen; omega) (by simp; omega) (by simp at hn; omega)).mono ?_
  rw [HX.out]
  rintro e w5 ⟨rfl, hb5⟩
  rw [HE.out]
  go_wp2
  exact ⟨rfl, rfl, HS4.out.1.trans hb5⟩
 | ok r =>
  obtain ⟨x, R⟩ := r
  have HX := Lib.hid hx
  clear hx
  refine (hA p (y.place :: op) L _ _ HP4.out (by simp at hlen; omega) (by simp; omega) (by simp at hn; omega)).mono ?_
  rw [HX.out]
  rintro e w5 ⟨v5, B, cap, rfl, hP5, hS5, hc5, ht5⟩
  have hRl := ((readG_suf n).1 _ _ _ _ _ HX.out).length_le
  have HZ5 := Lib.hid (HZ.out.still hS5)
  have HS5 := Lib.hid (HS4.out.trans hS5)
  have HP5 := Lib.hid hP5
  have HT5 := Lib.hid ht5
  have hs5 := hS5.1.size
  have hlt4 : W.heap.size + 1 ≤ (w3.setCell ⟨p, 1, none⟩ (.slice (some ⟨g3, 0, none⟩) (op.length + 1) cap3)).heap.size := HZ.out.1.lt
  have HT5 := Lib.hid (ht5.weak (Q := New (W.heap.size + 1) p v5) (fun b hb _ => ⟨Nat.le_trans hlt4 hb.1, hb.2⟩))
  have hb6 : Below w5.heap.size w5 (w5.alloc (.cells (ndA x B cap) 28)) := (Below.refl _ _).alloc (Nat.le_refl _) _
  have HP6 := Lib.hid (hP5.below hb6)
  have HZ6 := Lib.hid (HZ5.out.below hb6)
  have HT6 := Lib.hid (HT5.out.below hb6)
  have HS6 := Lib.hid (HS5.out.more hb6 (Nat.le_of_lt hp))
  have HX6 := Lib.hid (Blk.new w5 28 (ndA x B cap))
  obtain ⟨g5, cap5, hv5, hg5a, hg5b, hc5b⟩ : ∃ g c, v5 = .slice (some ⟨g, 0, none⟩) (op.length + 1) c ∧ p + 1 ≤ g ∧ g < w5.heap.size ∧ op.length + 1 ≤ c := by
   obtain ⟨_, _, _, _, _, _, hr⟩ := hP5
   rcases hr.2 with ⟨_, h0⟩ | ⟨g, c, cur, hv, hb, hh, hc, _⟩
   ·simp at h0
   ·exact ⟨g, c, hv, hb, (Array.getElem?_eq_some_iff.1 hh).1, hc⟩
  subst hv5
  have hoX : Off p (.slice (some ⟨g5, 0, none⟩) (op.length + 1) cap5) w5.heap.size := ⟨by omega, by simp [Value.ownBlock]; omega⟩
  have hsz6 : w5.heap.size < (w5.alloc (.cells (ndA x B cap) 28)).heap.size := by simp
  have hlv : op.length + 1 = (y.place :: op).length := rfl
  have hW5 := HS5.out.1.size
  clear hP5 hS5 ht5 HS4 HZ HT5 HP5 HZ5 HS5 hb6 hlt4 hi hz0 hz1 hz2 h63 hby hs5
  unfold ndV
  dsimp only
  cases R with
  | nil =>
   have HE := Lib.hid (atomG_open hk (by omega) HX.out (fun c R' e => by cases e))
   go_wp2_with fail
   refine (peek_nil HP6.out).mono ?_
   rintro e w7 ⟨rfl, hw7⟩
   subst hw7
   dsimp only
   go_wp2_with fail
   refine (fail_any _ _ _).mono ?_
   rintro e w8 ⟨rfl, hw8⟩
   subst hw8
   dsimp only
   go_wp2
   rw [HE.out]
   exact ⟨rfl, rfl, HS6.out.1⟩
  | cons c R =>
   simp only [List.length_cons] at hlen hRl
   by_cases h3 : c.kind = 3
   ·have HE := Lib.hid (atomG_close hk (by omega) HX.out h3)
    have HK := Lib.hid hk
    have hj : IntKind.i64.wrap ((op.length : Int) + 1 - 1) = (op.length : Int) := by rw [Int.add_sub_cancel]; exact IntWalk.i64_in _ (by omega)
    have hj0 : (0 : Int) ≤ (op.length : Int) := by omega
    have hj1 : (op.length : Int) ≤ (cap5 : Int) := by omega
    have HN := Lib.hid (next_any HP6.out (by omega))
    clear hk hlv
    go_wp2_with fail
    refine (peek_go HP6.out (by omega)).mono ?_
    rintro e w7 ⟨rfl, hw7⟩
    subst hw7
    rw [h3]
    dsimp only
    go_wp2_with fail
    refine HN.out.mono ?_
    rintro e w8 ⟨rfl, hP8, hS8⟩
    have hX8 := hS8.blk hoX HX6.out
    have hZ8 := HZ6.out.still hS8
    have hT8 := Lib.hid (hS8.trees HT6.out)
    have hS8' := HS6.out.trans hS8
    have hs8 := hS8.1.size
    have hpop := popped hP8
    obtain ⟨_, _, _, hb8, _⟩ := hP8
    have q8 : w8.cell? ⟨p, 1, none⟩ = some (.slice (some ⟨g5, 0, none⟩) (op.length + 1) cap5) := hb8.cell 1
    have fq8 := hb8.frozen 1
    have HX8 := Lib.hid hX8
    have HZ8 := Lib.hid hZ8
    have HS8 := Lib.hid hS8'
    have HO := Lib.hid hpop
    have hps : p ≠ w5.heap.size := by omega
    have hR0 : p ≠ W.heap.size := by omega
    have x0 : w8.cell? ⟨w5.heap.size, 0, none⟩ = some (.int .i64 x.kind) := hX8.cell 0
    have x1 : w8.cell? ⟨w5.heap.size, 1, none⟩ = some (.int .u64 (word x.set.testBit 0)) := hX8.cell 1
    have x2 : w8.cell? ⟨w5.heap.size, 2, none⟩ = some (.int .u64 (word x.set.testBit 1)) := hX8.cell 2
    have x3 : w8.cell? ⟨w5.heap.size, 3, none⟩ = some (.int .u64 (word x.set.testBit 2)) := hX8.cell 3
    have x4 : w8.cell? ⟨w5.heap.size, 4, none⟩ = some (.int .u64 (word x.set.testBit 3)) := hX8.cell 4
    have x5 : w8.cell? ⟨w5.heap.size, 5, none⟩ = some (.slice B x.kids.len cap) := hX8.cell 5
    have x6 : w8.cell? ⟨w5.heap.size, 6, none⟩ = some (.int .i64 x.lo) := hX8.cell 6
    have x7 : w8.cell? ⟨w5.heap.size, 7, none⟩ = some (.int .i64 x.hi) := hX8.cell 7
    have y0 : w8.cell? ⟨W.heap.size, 0, none⟩ = some (.int .i64 0) := hZ8.1.cell 0
    have y1 : w8.cell? ⟨W.heap.size, 1, none⟩ = some (.int .u64 0) := hZ8.1.cell 1
    have y2 : w8.cell? ⟨W.heap.size, 2, none⟩ = some (.int .u64 0) := hZ8.1.cell 2
    have y3 : w8.cell? ⟨W.heap.size, 3, none⟩ = some (.int .u64 0) := hZ8.1.cell 3
    have y4 : w8.cell? ⟨W.heap.size, 4, none⟩ = some (.int .u64 0) := hZ8.1.cell 4
    have y5 : w8.cell? ⟨W.heap.size, 5, none⟩ = some (.slice none 0 0) := hZ8.1.cell 5
    have y6 : w8.cell? ⟨W.heap.size, 6, none⟩ = some (.int .i64 0) := hZ8.1.cell 6
    have y7 : w8.cell? ⟨W.heap.size, 7, none⟩ = some (.int .i64 0) := hZ8.1.cell 7
    have z0 := hZ8.1.frozen 0
    have z1 := hZ8.1.frozen 1
    have z2 := hZ8.1.frozen 2
    have z3 := hZ8.1.frozen 3
    have z4 := hZ8.1.frozen 4
    have z5 := hZ8.1.frozen 5
    have z6 := hZ8.1.frozen 6
    have z7 := hZ8.1.frozen 7
    clear hX8 hZ8 hS8' hpop hb8 hS8 HN
    unfold lexV
    dsimp only
    go_wp2
    go_region
    go_wp2
    go_light
    have hF := filled HO.out.1 (HS8.out.trans HO.out.2) (HZ8.out.still HO.out.2) rfl hp (HO.out.2.trees hT8.out) (cap := cap) rfl
    refine bodyPost_ret (ret_node Tryz.results249 rfl (Blk.drew hF.1)) rfl ?_
    rw [HE.out]
    exact ⟨_, B, cap, rfl, hF.2.1.drew, hF.2.2.1.drew, hc5, hF.2.2.2.drew⟩
   ·have HE := Lib.hid (atomG_open hk (by omega) HX.out (fun c' R' e => by cases e; exact h3))
    have hd : (c.kind != 3) = true := by simp; exact h3
    go_wp2_with fail
    refine (peek_go HP6.out (by omega)).mono ?_
    rintro e w7 ⟨rfl, hw7⟩
    subst hw7
    dsimp only
    go_wp2_with fail
    refine (fail_any _ _ _).mono ?_
    rintro e w8 ⟨rfl, hw8⟩
    subst hw8
    dsimp only
    go_wp2
    rw [HE.out]
    exact ⟨rfl, rfl, HS6.out.1⟩
theorem ret_atom {fn : Func} {t2 t3 : Tmp} (h : fn.results = #[.cell t2 28, .tmp t3]) {tmps : Array Value} {w : World} {g : Nat} {a0 a1 a2 a3 a4 a5 a6 a7 c : Value}
  (hp : tmps.getD t2 undef = .pointer (some ⟨g, 0, none⟩)) (hc : tmps.getD t3 undef = c) (hb : Blk w g 28 #[a0, a1, a2, a3, a4, a5, a6, a7]) :
  (results fn tmps).run Tryz.prog w = .ok (.tuple #[.agg #[a0, a1, a2, a3, a4, a5, a6, a7], c]) w := by
 have h1 := run_loadVar_row (P := Tryz.prog) w g 28 28 #[a0, a1, a2, a3, a4, a5, a6, a7] (0, 0) _ hb Tryz.underlying28 rfl (by kernel_rfl)
 simp only [results, h]
 simp only [Array.getD_eq_getD_getElem?] at hp hc
 simp [Sem.run_bind, hp, hc, asAddr, h1, Result.andThen]
theorem atom_nil (n p : Nat) (op : List Int) (W : World) (v : Value) (hP : PAt W p v [] op.length) :
  Calls Tryz.prog 233 #[.pointer (some ⟨p, 0, none⟩)] W (GivesO p op.length v (atomG (n + 1) op []) W) := by
 rw [atomG_nil]
 have hp := hP.lt
 have hv : ∀ g, (v : Value).ownBlock = some g → g < W.heap.size := by
  obtain ⟨_, _, _, _, _, _, hr⟩ := hP
  exact fun g e => (hr.lt g e).2
 have hb1 : Below W.heap.size W (W.alloc (.cells #[.int .i64 0, .int .u64 0, .int .u64 0, .int .u64 0, .int .u64 0, .slice none 0 0, .int .i64 0, .int .i64 0] 28)) := (Below.refl W.heap.size W).alloc (Nat.le_refl _) _
 have HP := Lib.hid (hP.below hb1)
 have HZ := Lib.hid (zr_new hp hv)
 have HS := Lib.hid (Still.of_below (p := p) (v := v) hb1 (Nat.le_of_lt hp))
 clear hP hb1 hv
 go_enter Tryz.func233, Tryz.ntmps233
 go_wp2_with fail
 refine (peek_nil HP.out).mono ?_
 rintro e w1 ⟨rfl, hw1⟩
 subst hw1
 dsimp only
 go_wp2
 go_light
 exact bodyPost_ret (ret_atom Tryz.results233 rfl rfl HZ.out.1) rfl ⟨v, rfl, HP.out, HS.out⟩
theorem atom_stop (n p : Nat) (op : List Int) (y : Lex) (L : List Lex) (W : World) (v : Value) (hP : PAt W p v (y :: L) op.length) (hlen : (y :: L).length ≤ 100000) (h1 : y.kind ≠ 1) (h2 : y.kind ≠ 2) (h5 : isPost y.kind = false) (h3 : ¬ (y.kind = 3 ∧ op.length = 0)) :
  Calls Tryz.prog 233 #[.pointer (some ⟨p, 0, none⟩)] W (GivesO p op.length v (atomG (n + 1) op (y :: L)) W) := by
 rw [atomG_stop h1 h2 h5 h3]
 have h5' : ¬ (5 ≤ y.kind ∧ y.kind ≤ 8) := fun h => by rw [(isPost_iff _).2 h] at h5; cases h5
 have k1 : (y.kind == 1) = false := by simp; omega
 have k2 : (y.kind == 2) = false := by simp; omega
 have k5 : (y.kind == 5) = false := by simp; omega
 have k6 : (y.kind == 6) = false := by simp; omega
 have k7 : (y.kind == 7) = false := by simp; omega
 have k8 : (y.kind == 8) = false := by simp; omega
 simp only [List.length_cons] at hlen
 obtain ⟨Av, cv, hva⟩ : ∃ A c, v = .slice A op.length c := by
  obtain ⟨_, _, _, _, _, _, hr⟩ := hP
  exact own_slice hr
 subst hva
 have hp := hP.lt
 have hv : ∀ g, (.slice Av op.length cv : Value).ownBlock = some g → g < W.heap.size := by
  obtain ⟨_, _, _, _, _, _, hr⟩ := hP
  exact fun g e => (hr.lt g e).2
 have hb1 : Below W.heap.size W (W.alloc (.cells #[.int .i64 0, .int .u64 0, .int .u64 0, .int .u64 0, .int .u64 0, .slice none 0 0, .int .i64 0, .int .i64 0] 28)) := (Below.refl W.heap.size W).alloc (Nat.le_refl _) _
 have HP := Lib.hid (hP.below hb1)
 have HZ := Lib.hid (zr_new hp hv)
 have HS := Lib.hid (Still.of_below (p := p) (v := .slice Av op.length cv) hb1 (Nat.le_of_lt hp))
 clear hP hb1 hv
 obtain ⟨_, _, _, hb, _⟩ := HP.out
 have q1 : (W.alloc (.cells #[.int .i64 0, .int .u64 0, .int .u64 0, .int .u64 0, .int .u64 0, .slice none 0 0, .int .i64 0, .int .i64 0] 28)).cell? ⟨p, 1, none⟩ = some (.slice Av op.length cv) := hb.cell 1
 clear hb
 have HS := Lib.hid HS.out
 by_cases e3 : y.kind = 3
 ·have h0 : ((op.length : Int) == 0) = false := by rw [beq_eq_false_iff_ne]; omega
  have k3 : (y.kind == 3) = true := by simp; omega
  clear h3
  go_enter Tryz.func233, Tryz.ntmps233
  go_wp2_with fail
  refine (peek_go HP.out (by omega)).mono ?_
  rintro e w1 ⟨rfl, hw1⟩
  subst hw1
  dsimp only
  go_wp2
  go_light
  exact bodyPost_ret (ret_atom Tryz.results233 rfl rfl HZ.out.1) rfl ⟨_, rfl, HP.out, HS.out⟩
 ·have k3 : (y.kind == 3) = false := by simp; omega
  clear h3
  go_enter Tryz.func233, Tryz.ntmps233
  go_wp2_with fail
  refine (peek_go HP.out (by omega)).mono ?_
  rintro e w1 ⟨rfl, hw1⟩
  subst hw1
  dsimp only
  go_wp2
  go_light
  exact bodyPost_ret (ret_atom Tryz.results233 rfl rfl HZ.out.1) rfl ⟨_, rfl, HP.out, HS.out⟩
theorem atom_post (n p : Nat) (op : List Int) (y : Lex) (L : List Lex) (W : World) (v : Value) (hP : PAt W p v (y :: L) op.length) (hlen : (y :: L).length ≤ 100000) (h5 : isPost y.kind = true) :
  Calls Tryz.prog 233 #[.pointer (some ⟨p, 0, none⟩)] W (GivesO p op.length v (atomG (n + 1) op (y :: L)) W) := by
 rw [atomG_post h5]
 have h5' := (isPost_iff _).1 h5
 have hk : y.kind = 5 ∨ y.kind = 6 ∨ y.kind = 7 ∨ y.kind = 8 := by omega
 clear h5 h5'
 simp only [List.length_cons] at hlen
 have hz3 : (0 : Int) < (L.length : Int) + 1 := by omega
 have hp := hP.lt
 have hv : ∀ g, (v : Value).ownBlock = some g → g < W.heap.size := by
  obtain ⟨_, _, _, _, _, _, hr⟩ := hP
  exact fun g e => (hr.lt g e).2
 have hb1 : Below W.heap.size W (W.alloc (.cells #[.int .i64 0, .int .u64 0, .int .u64 0, .int .u64 0, .int .u64 0, .slice none 0 0, .int .i64 0, .int .i64 0] 28)) := (Below.refl W.heap.size W).alloc (Nat.le_refl _) _
 have HP := Lib.hid (hP.below hb1)
 have HZ := Lib.hid (zr_new hp hv)
 have HS := Lib.hid (Still.of_below (p := p) (v := v) hb1 (Nat.le_of_lt hp))
 clear hP hb1 hv
 obtain ⟨A, cap, xs, hb, hc, hl, _⟩ := HP.out
 obtain ⟨b, o, rfl, hbp, ⟨c0, c1, _⟩, _⟩ := hl.cons
 have q0 : (W.alloc (.cells #[.int .i64 0, .int .u64 0, .int .u64 0, .int .u64 0, .int .u64 0, .slice none 0 0, .int .i64 0, .int .i64 0] 28)).cell? ⟨p, 0, none⟩ = some (.slice (some ⟨b, o, none⟩) (L.length + 1) cap) := hb.cell 0
 clear hb hl c0 hc
 rcases hk with hk | hk | hk | hk
 all_goals
  go_enter Tryz.func233, Tryz.ntmps233
  go_wp2_with fail
  refine (peek_go HP.out (by omega)).mono ?_
  rintro e w1 ⟨rfl, hw1⟩
  subst hw1
  rw [hk]
  dsimp only
  go_wp2_with fail
  refine (fail_any _ _ _).mono ?_
  rintro e w8 ⟨rfl, hw8⟩
  subst hw8
  dsimp only
  go_wp2
  exact ⟨rfl, rfl, HS.out.1⟩
theorem atom_lone (n p : Nat) (op : List Int) (y : Lex) (L : List Lex) (W : World) (v : Value) (hP : PAt W p v (y :: L) op.length) (hlen : (y :: L).length ≤ 100000) (h3 : y.kind = 3) (h0 : op.length = 0) :
  Calls Tryz.prog 233 #[.pointer (some ⟨p, 0, none⟩)] W (GivesO p op.length v (atomG (n + 1) op (y :: L)) W) := by
 rw [atomG_lone h3 h0]
 simp only [List.length_cons] at hlen
 have hz3 : (0 : Int) < (L.length : Int) + 1 := by omega
 have hd : ((op.length : Int) == 0) = true := by rw [beq_iff_eq]; omega
 obtain ⟨Av, cv, hva⟩ : ∃ A c, v = .slice A op.length c := by
  obtain ⟨_, _, _, _, _, _, hr⟩ := hP
  exact own_slice hr
 subst hva
 have hp := hP.lt
 have hv : ∀ g, (.slice Av op.length cv : Value).ownBlock = some g → g < W.heap.size := by
  obtain ⟨_, _, _, _, _, _, hr⟩ := hP
  exact fun g e => (hr.lt g e).2
 have hb1 : Below W.heap.size W (W.alloc (.cells #[.int .i64 0, .int .u64 0, .int .u64 0, .int .u64 0, .int .u64 0, .slice none 0 0, .int .i64 0, .int .i64 0] 28)) := (Below.refl W.heap.size W).alloc (Nat.le_refl _) _
 have HP := Lib.hid (hP.below hb1)
 have HZ := Lib.hid (zr_new hp hv)
 have HS := Lib.hid (Still.of_below (p := p) (v := .slice Av op.length cv) hb1 (Nat.le_of_lt hp))
 clear hP hb1 hv
 obtain ⟨A, cap, xs, hb, hc, hl, _⟩ := HP.out
 obtain ⟨b, o, rfl, hbp, ⟨c0, c1, _⟩, _⟩ := hl.cons
 have q0 : (W.alloc (.cells #[.int .i64 0, .int .u64 0, .int .u64 0, .int .u64 0, .int .u64 0, .slice none 0 0, .int .i64 0, .int .i64 0] 28)).cell? ⟨p, 0, none⟩ = some (.slice (some ⟨b, o, none⟩) (L.length + 1) cap) := hb.cell 0
 have q1 : (W.alloc (.cells #[.int .i64 0, .int .u64 0, .int .u64 0, .int .u64 0, .int .u64 0, .slice none 0 0, .int .i64 0, .int .i64 0] 28)).cell? ⟨p, 1, none⟩ = some (.slice Av op.length cv) := hb.cell 1
 clear hb hl c0 hc h0
 go_enter Tryz.func233, Tryz.ntmps233
 go_wp2_with fail
 refine (peek_go HP.out (by omega)).mono ?_
 rintro e w1 ⟨rfl, hw1⟩
 subst hw1
 rw [h3]
 dsimp only
 go_wp2_with fail
 refine (fail_any _ _ _).mono ?_
 rintro e w8 ⟨rfl, hw8⟩
 subst hw8
 dsimp only
 go_wp2
 exact ⟨rfl, rfl, HS.out.1⟩
theorem atom_set (n p : Nat) (op : List Int) (y : Lex) (L : List Lex) (W : World) (v : Value) (hP : PAt W p v (y :: L) op.length) (hlen : (y :: L).length ≤ 100000) (h1 : y.kind = 1) :
  Calls Tryz.prog 233 #[.pointer (some ⟨p, 0, none⟩)] W (GivesO p op.length v (atomG (n + 1) op (y :: L)) W) := by
 rw [atomG_set h1]
 simp only [List.length_cons] at hlen
 have hp := hP.lt
 have hv : ∀ g, (v : Value).ownBlock = some g → g < W.heap.size := by
  obtain ⟨_, _, _, _, _, _, hr⟩ := hP
  exact fun g e => (hr.lt g e).2
 have hb1 : Below W.heap.size W (W.alloc (.cells #[.int .i64 0, .int .u64 0, .int .u64 0, .int .u64 0, .int .u64 0, .slice none 0 0, .int .i64 0, .int .i64 0] 28)) := (Below.refl W.heap.size W).alloc (Nat.le_refl _) _
 have HP := Lib.hid (hP.below hb1)
 have HZ := Lib.hid (zr_new hp hv)
 have HS := Lib.hid (Still.of_below (p := p) (v := v) hb1 (Nat.le_of_lt hp))
 clear hP hb1 hv
 have HN := Lib.hid (next_any HP.out (by omega))
 go_enter Tryz.func233, Tryz.ntmps233
 go_wp2_with fail
 refine (peek_go HP.out (by omega)).mono ?_
 rintro e w1 ⟨rfl, hw1⟩
 subst hw1
 rw [h1]
 dsimp only
 go_wp2_with fail
 refine HN.out.mono ?_
 rintro e w2 ⟨rfl, hP2, hS2⟩
 have HZ2 := Lib.hid (HZ.out.still hS2)
 have HS2 := Lib.hid (HS.out.trans hS2)
 have HP2 := Lib.hid hP2
 clear hP2 hS2 HN HP HS HZ
 unfold lexV
 dsimp only
 go_wp2_with fail
 refine (tbytes_any y.set _).mono ?_
 rintro e w3 ⟨rfl, hb3⟩
 have hZ3 := HZ2.out.below hb3
 have HP3 := Lib.hid (HP2.out.below hb3)
 have HS3 := Lib.hid (HS2.out.more hb3 (Nat.le_of_lt hp))
 have hX := hZ3.1
 have y0 : w3.cell? ⟨W.heap.size, 0, none⟩ = some (.int .i64 0) := hX.cell 0
 have y1 : w3.cell? ⟨W.heap.size, 1, none⟩ = some (.int .u64 0) := hX.cell 1
 have y2 : w3.cell? ⟨W.heap.size, 2, none⟩ = some (.int .u64 0) := hX.cell 2
 have y3 : w3.cell? ⟨W.heap.size, 3, none⟩ = some (.int .u64 0) := hX.cell 3
 have y4 : w3.cell? ⟨W.heap.size, 4, none⟩ = some (.int .u64 0) := hX.cell 4
 have y5 : w3.cell? ⟨W.heap.size, 5, none⟩ = some (.slice none 0 0) := hX.cell 5
 have y6 : w3.cell? ⟨W.heap.size, 6, none⟩ = some (.int .i64 0) := hX.cell 6
 have y7 : w3.cell? ⟨W.heap.size, 7, none⟩ = some (.int .i64 0) := hX.cell 7
 have z0 := hX.frozen 0
 have z1 := hX.frozen 1
 have z2 := hX.frozen 2
 have z3 := hX.frozen 3
 have z4 := hX.frozen 4
 have z5 := hX.frozen 5
 have z6 := hX.frozen 6
 have z7 := hX.frozen 7
 have HZ3 := Lib.hid hZ3
 clear hb3 hZ3 hX
 have hv3 : ndV (leafN (maskOf y.set)) none 0 = .agg #[.int .i64 3, .int .u64 ((word ((maskOf y.set).testBit) 0 : Nat) : Int), .int .u64 ((word ((maskOf y.set).testBit) 1 : Nat) : Int), .int .u64 ((word ((maskOf y.set).testBit) 2 : Nat) : Int), .int .u64 ((word ((maskOf y.set).testBit) 3 : Nat) : Int), .slice none 0 0, .int .i64 0, .int .i64 0] := rfl
 rw [hv3]
 clear hv3
 dsimp only
 go_wp2
 go_light
 have hF := filled (x := leafN (maskOf y.set)) (B := none) (cap := 0) HP3.out HS3.out HZ3.out rfl hp trivial rfl
 exact bodyPost_ret (ret_atom Tryz.results233 rfl rfl hF.1) rfl ⟨v, none, 0, rfl, hF.2.1, hF.2.2.1, Nat.le_refl _, trivial⟩
theorem atom_open (n p : Nat) (op : List Int) (y : Lex) (L : List Lex) (W : World) (v : Value) (hA : AltC n) (hP : PAt W p v (y :: L) op.length) (hlen : (y :: L).length ≤ 100000) (h2 : y.kind = 2) (h64 : op.length ≤ 64) (hn : 3 * (y :: L).length < n + 1) :
  Calls Tryz.prog 233 #[.pointer (some ⟨p, 0, none⟩)] W (GivesO p op.length v (atomG (n + 1) op (y :: L)) W) := by
 have hlen' := hlen
 simp only [List.length_cons] at hlen'
 have hp := hP.lt
 have hv : ∀ g, (v : Value).ownBlock = some g → g < W.heap.size := by
  obtain ⟨_, _, _, _, _, _, hr⟩ := hP
  exact fun g e => (hr.lt g e).2
 have hb1 : Below W.heap.size W (W.alloc (.cells #[.int .i64 0, .int .u64 0, .int .u64 0, .int .u64 0, .int .u64 0, .slice none 0 0, .int .i64 0, .int .i64 0] 28)) := (Below.refl W.heap.size W).alloc (Nat.le_refl _) _
 have HP := Lib.hid (hP.below hb1)
 have HZ := Lib.hid (zr_new hp hv)
 have HS := Lib.hid (Still.of_below (p := p) (v := v) hb1 (Nat.le_of_lt hp))
 clear hP hb1 hv
 have HG : Hid (Calls Tryz.prog 249 #[.pointer (some ⟨p, 0, none⟩)] (W.alloc (.cells #[.int .i64 0, .int .u64 0, .int .u64 0, .int .u64 0, .int .u64 0, .slice none 0 0, .int .i64 0, .int .i64 0] 28)) (GivesG p op.length v (atomG (n + 1) op (y :: L)) (W.alloc (.cells #[.int .i64 0, .int .u64 0, .int .u64 0, .int .u64 0, .int .u64 0, .slice none 0 0, .int .i64 0, .int .i64 0] 28)))) := Lib.hid (by
  by_cases h : op.length = 64
  ·exact group_deep n p op y L _ v HP.out hlen h2 h
  ·exact group_go n p op y L _ v hA HP.out hlen h2 (by omega) hn)
 have hs1 : (W.alloc (.cells #[.int .i64 0, .int .u64 0, .int .u64 0, .int .u64 0, .int .u64 0, .slice none 0 0, .int .i64 0, .int .i64 0] 28)).heap.size = W.heap.size + 1 := by simp
 have Hs1 := Lib.hid hs1
 clear hs1
 generalize hr : atomG (n + 1) op (y :: L) = r at *
 clear hr
 go_enter Tryz.func233, Tryz.ntmps233
 go_wp2_with fail
 refine (peek_go HP.out (by omega)).mono ?_
 rintro e w1 ⟨rfl, hw1⟩
 subst hw1
 rw [h2]
 dsimp only
 go_wp2_with fail
 refine HG.out.mono ?_
 match r with
 | .error x =>
  rintro e w3 ⟨rfl, hb3⟩
  dsimp only
  go_wp2
  exact ⟨rfl, rfl, HS.out.1.trans hb3⟩
 | .ok (none, R) =>
  intro e w3 h
  exact h.elim
 | .ok (some x, R) =>
  rintro e w3 ⟨v3, B, cap, rfl, hP3, hS3, hc3, ht3⟩
  have hZ3 := HZ.out.still hS3
  have HP3 := Lib.hid hP3
  have HS3 := Lib.hid (HS.out.trans hS3)
  have HT3 := Lib.hid ht3
  have hX := hZ3.1
  have y0 : w3.cell? ⟨W.heap.size, 0, none⟩ = some (.int .i64 0) := hX.cell 0
  have y1 : w3.cell? ⟨W.heap.size, 1, none⟩ = some (.int .u64 0) := hX.cell 1
  have y2 : w3.cell? ⟨W.heap.size, 2, none⟩ = some (.int .u64 0) := hX.cell 2
  have y3 : w3.cell? ⟨W.heap.size, 3, none⟩ = some (.int .u64 0) := hX.cell 3
  have y4 : w3.cell? ⟨W.heap.size, 4, none⟩ = some (.int .u64 0) := hX.cell 4
  have y5 : w3.cell? ⟨W.heap.size, 5, none⟩ = some (.slice none 0 0) := hX.cell 5
  have y6 : w3.cell? ⟨W.heap.size, 6, none⟩ = some (.int .i64 0) := hX.cell 6
  have y7 : w3.cell? ⟨W.heap.size, 7, none⟩ = some (.int .i64 0) := hX.cell 7
  have z0 := hX.frozen 0
  have z1 := hX.frozen 1
  have z2 := hX.frozen 2
  have z3 := hX.frozen 3
  have z4 := hX.frozen 4
  have z5 := hX.frozen 5
  have z6 := hX.frozen 6
  have z7 := hX.frozen 7
  have HZ3 := Lib.hid hZ3
  clear hP3 hS3 ht3 hZ3 hX HP HG HS HZ
  unfold ndV
  dsimp only
  go_wp2
  go_light
  have hF := filled (x := x) (B := B) (cap := cap) HP3.out HS3.out HZ3.out rfl hp (HT3.out.weak (fun b hb _ => ⟨by rw [← Hs1.out]; exact hb.1, hb.2⟩)) rfl
  exact bodyPost_ret (ret_atom Tryz.results233 rfl rfl hF.1) rfl ⟨v3, B, cap, rfl, hF.2.1, hF.2.2.1, hc3, hF.2.2.2⟩
theorem atom_step {n : Nat} (hA : AltC n) : AtomC (n + 1) := by
 intro p op L W v hP hlen h64 hn
 match L, hP, hlen, hn with
 | [], hP, _, _ => exact atom_nil n p op W v hP
 | y :: L, hP, hlen, hn =>
  by_cases h1 : y.kind = 1
  ·exact atom_set n p op y L W v hP hlen h1
  by_cases h2 : y.kind = 2
  ·exact atom_open n p op y L W v hA hP hlen h2 h64 hn
  cases h5 : isPost y.kind
  ·by_cases h3 : y.kind = 3 ∧ op.length = 0
   ·exact atom_lone n p op y L W v hP hlen h3.1 h3.2
   ·exact atom_stop n p op y L W v hP hlen h1 h2 h5 h3
  ·exact atom_post n p op y L W v hP hlen h5
def RowAt (W : World) (v0 : Value) (p m : Nat) (R : List Lex) (acc : List Nd) (u v : Value) (w : World) : Prop :=
 PAt w p v R m ∧ Still p W v0 w v ∧ Zr p W.heap.size v w ∧ (∃ cs, w.ownsRow (W.heap.size + 1) 28 8 u acc.length cs ∧ CellsAre w (fun b => New (W.heap.size + 1) p v b ∧ some b ≠ u.ownBlock) acc cs) ∧ (∀ g, u.ownBlock = some g → Off p v g)
section
variable {W w w' : World} {v0 u v v' : Value} {p m : Nat} {R R' : List Lex} {acc : List Nd}
theorem RowAt.own (h : RowAt W v0 p m R acc u v w) : ∀ g, u.ownBlock = some g → W.heap.size + 1 ≤ g ∧ g < w.heap.size := by
 obtain ⟨_, _, _, ⟨cs, hr, _⟩, _⟩ := h
 exact hr.lt
theorem RowAt.still (h : RowAt W v0 p m R acc u v w) (hs : Still p w v w' v') (hp : PAt w' p v' R' m) : RowAt W v0 p m R' acc u v' w' := by
 obtain ⟨h1, h2, h3, ⟨cs, hr, hc⟩, ho⟩ := h
 refine ⟨hp, h2.trans hs, h3.still hs, ⟨cs, hs.own hr ho, hc.keep (fun b o hb hl => hs.cell hb.1.2 hl o) (fun b hb hl => ⟨⟨hb.1.1, hs.off hb.1.2 hl⟩, hb.2⟩)⟩, fun g e => hs.off (ho g e) (hr.lt g e).2⟩
theorem RowAt.below (h : RowAt W v0 p m R acc u v w) (hb : Below w.heap.size w w') : RowAt W v0 p m R acc u v w' :=
 h.still (Still.of_below hb (Nat.le_of_lt h.1.lt)) (h.1.below hb)
theorem PAt.row {w w' : World} {p : Nat} {v : Value} {L : List Lex} {m : Nat} {row : Option Nat} (h : PAt w p v L m) (hg : w.grownBy w' row) (hr : ∀ g, row = some g → p < g ∧ Off p v g) : PAt w' p v L m := by
 obtain ⟨A, cap, xs, hb, hc, hl, hr2⟩ := h
 refine ⟨A, cap, xs, hb.grown hg (fun e => by have := (hr p e.symm).1; omega), hc, hl.below ⟨hg.os, hg.tape, hg.output, hg.size, fun k hk => hg.block k (Nat.lt_trans hk hb.lt) (fun e => by have := (hr k e.symm).1; omega)⟩, hr2.kept hg ?_⟩
 cases hvo : v.ownBlock with
 | none => exact .inl rfl
 | some g => exact .inr (fun e => (hr g e.symm).2.2 (by rw [hvo]))
theorem Still.row {row : Option Nat} (h : Still p W v0 w v) (hg : w.grownBy w' row) (hp : p < W.heap.size) (hr : ∀ g, row = some g → W.heap.size ≤ g) : Still p W v0 w' v :=
 ⟨h.1.grown hg (by have := h.1.size; omega) (fun k e => by have := hr k e; omega), fun b hb ho => (hg.block b (Nat.lt_of_lt_of_le hb h.1.size) (fun e => by have := hr b e.symm; omega)).trans (h.2.1 b hb ho), h.2.2⟩
theorem RowAt.append {z : Nd} {B : Option Addr} {cap gg capg : Nat} {o : Obj} {cs : List Value} (h : RowAt W v0 p m R acc u v w) (hp : p < W.heap.size)
  (hz : TreesAt w (fun b => New (W.heap.size + 1) p v b ∧ some b ≠ u.ownBlock) z.kids B) (hcz : z.kids.len ≤ cap) (hcs : CellsAre w (fun b => New (W.heap.size + 1) p v b ∧ some b ≠ u.ownBlock) acc cs)
  (hown : w'.ownsRow (W.heap.size + 1) 28 8 (.slice (some ⟨gg, 0, none⟩) (acc.length + 1) capg) (acc.length + 1) (cs ++ ndCell z B cap)) (hgrow : (w.alloc o).grownBy w' u.ownBlock) (hat : u.ownBlock = some gg ∨ gg = w.heap.size + 1) :
  RowAt W v0 p m R (acc ++ [z]) (.slice (some ⟨gg, 0, none⟩) (acc.length + 1) capg) v w' := by
 have hl := h.own
 obtain ⟨h1, h2, h3, _, ho⟩ := h
 have hW := h2.1.size
 have hb : Below w.heap.size w (w.alloc o) := (Below.refl _ _).alloc (Nat.le_refl _) o
 have hv : ∀ g, v.ownBlock = some g → g < w.heap.size := by
  obtain ⟨_, _, _, _, _, _, hr⟩ := h1
  exact fun g e => (hr.lt g e).2
 have hk : ∀ b i, (New (W.heap.size + 1) p v b ∧ some b ≠ u.ownBlock) → b < w.heap.size → w'.cell? ⟨b, i, none⟩ = w.cell? ⟨b, i, none⟩ := fun b i hb2 hbl =>
  (World.cell?_of_block (hgrow.block b (by simp; omega) hb2.2)).trans (hb.cell (p := ⟨b, i, none⟩) hbl)
 have hq : ∀ b, (New (W.heap.size + 1) p v b ∧ some b ≠ u.ownBlock) → b < w.heap.size → New (W.heap.size + 1) p v b ∧ some b ≠ (Value.slice (some ⟨gg, 0, none⟩) (acc.length + 1) capg).ownBlock := fun b hb2 hbl => ⟨hb2.1, fun e => by
  have e' : b = gg := by simpa [Value.ownBlock] using e
  rcases hat with hh | hh
  ·exact hb2.2 (by rw [e', hh])
  ·omega⟩
 refine ⟨(h1.below hb).row hgrow (fun g e => ⟨by have := (hl g e).1; omega, ho g e⟩), (h2.more hb (Nat.le_of_lt hp)).row hgrow hp (fun g e => by have := (hl g e).1; omega),
  ⟨(h3.1.below hb h3.1.lt).grown hgrow (fun e => by have := (hl _ e.symm).1; omega), h3.2⟩, ⟨cs ++ ndCell z B cap, by simpa using hown, ?_⟩, fun g e => ?_⟩
 ·exact CellsAre.snoc hcz (hz.keep hk hq) (hcs.keep hk hq)
 ·obtain rfl : gg = g := by simpa [Value.ownBlock] using e
  rcases hat with hh | hh
  ·exact ho _ hh
  ·exact ⟨by omega, fun e => by have := hv _ e.symm; omega⟩
theorem RowAt.trees (h : RowAt W v0 p m R acc u v w) : ∃ A cap, u = .slice A acc.length cap ∧ acc.length ≤ cap ∧ TreesAt w (New (W.heap.size + 1) p v) (Trees.of acc) A := by
 have hl := h.own
 obtain ⟨_, _, _, ⟨cs, hr, hc⟩, ho⟩ := h
 exact trees_of hr (hc.keep (fun _ _ _ _ => rfl) (fun b hb _ => hb.1)) (fun g e => ⟨(hl g e).1, ho g e⟩)
end
theorem info_node : (Tryz.prog.info? 28).map (fun i => (i.zero, i.size, i.bytes)) = some (some (.agg #[.int .i64 0, .int .u64 0, .int .u64 0, .int .u64 0, .int .u64 0, .slice none 0 0, .int .i64 0, .int .i64 0]), 8, 80) := by kernel_rfl
def InPart (N : Nat) (W : World) (v0 : Value) (p : Nat) (op : List Int) (r : Except Wrong (List Nd × List Lex)) (u : Value) (w : World) : Prop :=
 ∃ acc R n v, piecesG n op acc R = r ∧ n ≤ N ∧ acc.length + R.length ≤ 100000 ∧ 3 * R.length + 1 < n ∧ RowAt W v0 p op.length R acc u v w
theorem inPart_start {N : Nat} {W : World} {v0 : Value} {p : Nat} {op : List Int} {L : List Lex} (hP : PAt W p v0 L op.length) (hlen : L.length ≤ 100000) (hn : 3 * L.length + 1 < N) :
  InPart N W v0 p op (piecesG N op [] L) (.slice none 0 0) (W.alloc (.cells #[.int .i64 0, .int .u64 0, .int .u64 0, .int .u64 0, .int .u64 0, .slice none 0 0, .int .i64 0, .int .i64 0] 28)) := by
 have hb1 : Below W.heap.size W (W.alloc (.cells #[.int .i64 0, .int .u64 0, .int .u64 0, .int .u64 0, .int .u64 0, .slice none 0 0, .int .i64 0, .int .i64 0] 28)) := (Below.refl W.heap.size W).alloc (Nat.le_refl _) _
 have hv : ∀ g, v0.ownBlock = some g → g < W.heap.size := by
  obtain ⟨_, _, _, _, _, _, hr⟩ := hP
  exact fun g e => (hr.lt g e).2
 exact ⟨[], L, N, v0, rfl, Nat.le_refl _, by simpa using hlen, hn, hP.below hb1, Still.of_below hb1 (Nat.le_of_lt hP.lt), zr_new hP.lt hv, ⟨[], World.ownsRow_nil _ _ _ _, rfl⟩, fun g e => by simp [Value.ownBlock] at e⟩
theorem part_step {N : Nat} (hT : ∀ k, k < N → AtomC k) : PartC N := by
 intro p op L W v0 hP hlen h64 hn
 obtain ⟨i0, hi, hz0, hz1, hz2⟩ := info_parts info_node
 have hp := hP.lt
 have H0 := Lib.hid (inPart_start hP hlen hn)
 clear hP
 generalize hr : piecesG N op [] L = r at *
 clear hr
 go_enter Tryz.func201, Tryz.ntmps201
 go_wp2
 go_loopw [3] (fun u wr => InPart N W v0 p op r u wr) (fun _ wr => lenOf ((wr.cell? ⟨p, 0, none⟩).getD undef))
 case atStart => exact H0.out
 case round =>
  obtain ⟨acc, R, n, v, hr, hN, hal, hR, hrow⟩ := hrel
  obtain ⟨n, rfl⟩ : ∃ k, n = k + 1 := ⟨n - 1, by omega⟩
  have HA := Lib.hid (hT n (by omega) p op R wr v hrow.1 (by omega) h64 (by omega))
  have Hrow := Lib.hid hrow
  have Hr := Lib.hid hr
  clear hrow hr H0
  cases hx : atomG n op R with
  | error x =>
   have HX := Lib.hid (show r = .error x by rw [← Hr.out]; exact piecesG_bad hx)
   rw [hx] at HA
   clear hx
   go_wp2_with fail
   refine HA.out.mono ?_
   rintro e w2 ⟨rfl, hb2⟩
   go_wp2
   rw [HX.out]
   exact ⟨rfl, rfl, Hrow.out.2.1.1.trans hb2⟩
  | ok x =>
   obtain ⟨x, R2⟩ := x
   rw [hx] at HA
   cases x with
   | none =>
    have HX := Lib.hid (show r = .ok (acc, R2) by rw [← Hr.out]; exact piecesG_end hx)
    clear hx
    go_wp2_with fail
    refine HA.out.mono ?_
    rintro e w2 ⟨v2, rfl, hP2, hS2⟩
    have Hrow2 := Lib.hid (Hrow.out.still hS2 hP2)
    clear hP2 hS2 HA
    unfold zeroN
    dsimp only
    have hb3 : Below w2.heap.size w2 (w2.alloc (.cells #[.int .i64 0, .int .u64 0, .int .u64 0, .int .u64 0, .int .u64 0, .slice none 0 0, .int .i64 0, .int .i64 0] 28)) := (Below.refl _ _).alloc (Nat.le_refl _) _
    have hrow3 := Hrow2.out.below hb3
    obtain ⟨A, cu, hu, hcu, htr⟩ := hrow3.trees
    subst hu
    have Hrow3 := Lib.hid hrow3
    have HT3 := Lib.hid htr
    clear hb3 hrow3 htr Hrow2
    by_cases h0 : acc = []
    ·subst h0
     go_wp2_with fail
     refine (tempty_any _).mono ?_
     rintro e w4 ⟨rfl, hb4⟩
     have hrow4 := Hrow3.out.below hb4
     have hX := hrow4.2.2.1.1
     have y0 : w4.cell? ⟨W.heap.size, 0, none⟩ = some (.int .i64 0) := hX.cell 0
     have y1 : w4.cell? ⟨W.heap.size, 1, none⟩ = some (.int .u64 0) := hX.cell 1
     have y2 : w4.cell? ⟨W.heap.size, 2, none⟩ = some (.int .u64 0) := hX.cell 2
     have y3 : w4.cell? ⟨W.heap.size, 3, none⟩ = some (.int .u64 0) := hX.cell 3
     have y4 : w4.cell? ⟨W.heap.size, 4, none⟩ = some (.int .u64 0) := hX.cell 4
     have y5 : w4.cell? ⟨W.heap.size, 5, none⟩ = some (.slice none 0 0) := hX.cell 5
     have y6 : w4.cell? ⟨W.heap.size, 6, none⟩ = some (.int .i64 0) := hX.cell 6
     have y7 : w4.cell? ⟨W.heap.size, 7, none⟩ = some (.int .i64 0) := hX.cell 7
     have z0 := hX.frozen 0
     have z1 := hX.frozen 1
     have z2 := hX.frozen 2
     have z3 := hX.frozen 3
     have z4 := hX.frozen 4
     have z5 := hX.frozen 5
     have z6 := hX.frozen 6
     have z7 := hX.frozen 7
     have Hrow4 := Lib.hid hrow4
     clear hb4 hrow4 hX
     rw [show ndV emptyN none 0 = .agg #[.int .i64 2, .int .u64 0, .int .u64 0, .int .u64 0, .int .u64 0, .slice none 0 0, .int .i64 0, .int .i64 0] from ndV_plain _ _ _ _ _ _]
     dsimp only
     go_wp2
     go_light
     have hF := filled (x := emptyN) (B := none) (cap := 0) Hrow4.out.1 Hrow4.out.2.1 Hrow4.out.2.2.1 rfl hp trivial (by unfold emptyN; simp only [word_zero]; rfl)
     rw [HX.out]
     exact bodyPost_ret (ret_node Tryz.results201 rfl hF.1) rfl ⟨v2, none, 0, rfl, hF.2.1, hF.2.2.1, Nat.le_refl _, trivial⟩
    ·have hd : ((acc.length : Int) == 0) = false := by rw [beq_eq_false_iff_ne]; intro e; exact h0 (List.length_eq_zero_iff.1 (by omega))
     have hpn : partN acc = flatN 4 acc := by
      cases acc with
      | nil => exact absurd rfl h0
      | cons y l => rfl
     have HPN := Lib.hid hpn
     clear h0 hpn
     go_wp2_with fail
     refine (flat_go 4 _ A cu acc _ hcu HT3.out).mono ?_
     rintro e w4 ⟨B4, cap4, rfl, hb4, hc4, ht4⟩
     have hrow4 := Hrow3.out.below hb4
     have hX := hrow4.2.2.1.1
     have y0 : w4.cell? ⟨W.heap.size, 0, none⟩ = some (.int .i64 0) := hX.cell 0
     have y1 : w4.cell? ⟨W.heap.size, 1, none⟩ = some (.int .u64 0) := hX.cell 1
     have y2 : w4.cell? ⟨W.heap.size, 2, none⟩ = some (.int .u64 0) := hX.cell 2
     have y3 : w4.cell? ⟨W.heap.size, 3, none⟩ = some (.int .u64 0) := hX.cell 3
     have y4 : w4.cell? ⟨W.heap.size, 4, none⟩ = some (.int .u64 0) := hX.cell 4
     have y5 : w4.cell? ⟨W.heap.size, 5, none⟩ = some (.slice none 0 0) := hX.cell 5
     have y6 : w4.cell? ⟨W.heap.size, 6, none⟩ = some (.int .i64 0) := hX.cell 6
     have y7 : w4.cell? ⟨W.heap.size, 7, none⟩ = some (.int .i64 0) := hX.cell 7
     have z0 := hX.frozen 0
     have z1 := hX.frozen 1
     have z2 := hX.frozen 2
     have z3 := hX.frozen 3
     have z4 := hX.frozen 4
     have z5 := hX.frozen 5
     have z6 := hX.frozen 6
     have z7 := hX.frozen 7
     have Hrow4 := Lib.hid hrow4
     have HT4 := Lib.hid ht4
     clear hb4 hrow4 hX ht4
     unfold ndV
     dsimp only
     go_wp2
     go_light
     have hF := filled (x := flatN 4 acc) (B := B4) (cap := cap4) Hrow4.out.1 Hrow4.out.2.1 Hrow4.out.2.2.1 rfl hp HT4.out rfl
     rw [HX.out]
     refine bodyPost_ret (ret_node Tryz.results201 rfl hF.1) rfl ?_
     show ∃ v' B cap, _
     rw [HPN.out]
     exact ⟨v2, B4, cap4, rfl, hF.2.1, hF.2.2.1, hc4, hF.2.2.2⟩
   | some x =>
    have HX := Lib.hid (show piecesG n op (acc ++ [(postsG x R2).1]) (postsG x R2).2 = r by rw [← Hr.out]; exact (piecesG_go hx).symm)
    have hs := (readG_suf n).2.2 _ _ _ _ hx
    have hR2 := hs.2 (by simp)
    clear hx hs
    go_wp2_with fail
    refine HA.out.mono ?_
    rintro e w2 ⟨v2, B, cap, rfl, hP2, hS2, hc2, ht2⟩
    have hb3 : Below w2.heap.size w2 (w2.alloc (.cells (ndA x B cap) 28)) := (Below.refl _ _).alloc (Nat.le_refl _) _
    have hs3 : Still p wr v (w2.alloc (.cells (ndA x B cap) 28)) v2 := hS2.more hb3 (Nat.le_of_lt Hrow.out.1.lt)
    have HPo := Lib.hid (posts_go x B cap (hP2.below hb3) hc2 (ht2.below hb3) (n := wr.heap.size) hs3.1.size (by omega))
    have HS3 := Lib.hid hs3
    clear hP2 hS2 ht2 hb3 hs3 HA
    unfold ndV
    dsimp only
    go_wp2_with fail
    refine HPo.out.mono ?_
    rintro e w4 ⟨B4, cap4, rfl, hP4, hS4, hc4, ht4⟩
    have hrow4 := Hrow.out.still (HS3.out.trans hS4) hP4
    obtain ⟨_, _, hzr, ⟨cs, hr4, hcs4⟩, _⟩ := id hrow4
    have hl := Hrow.out.own
    have hzl := Hrow.out.2.2.1.1.lt
    have hz4 := ht4.weak (Q := fun b => New (W.heap.size + 1) p v2 b ∧ some b ≠ u3.ownBlock) (fun b hb _ => ⟨⟨by have := hb.1; omega, hb.2⟩, fun e => by have := (hl b e.symm).2; have := hb.1; omega⟩)
    have hsuf := (postsG_suf R2 x).length_le
    have Hrow4 := Lib.hid hrow4
    have HR4 := Lib.hid hr4
    have HC4 := Lib.hid hcs4
    have HZ4 := Lib.hid hz4
    have HP4 := Lib.hid hP4
    have HPw := Lib.hid Hrow.out.1
    have h63 : acc.length + 1 ≤ maxLen := Nat.le_trans (by omega) (show 200000 ≤ maxLen by decide)
    have hby : (acc.length + 1) * 80 ≤ 140737488355328 := by omega
    have hWs : W.heap.size + 1 ≤ w4.heap.size := by have := hrow4.2.2.1.1.lt; omega
    clear hrow4 hr4 hcs4 hz4 hP4 hS4 ht4 hl hzl hzr HPo HS3
    generalize postsG x R2 = zr at *
    obtain ⟨z, R3⟩ := zr
    simp only at HX hc4 hsuf HP4 HZ4 Hrow4
    unfold ndV
    dsimp only
    go_wp2_with (at_builtin; refine wpList_append_lies _ rfl _ _ 26 rfl (W.heap.size + 1) 28 i0 _ 8 80 Tryz.underlying26 hi hz0 hz1 hz2 rfl (by decide) _ _ _ rfl (HR4.out.alloc _) ⟨w4.heap.size, 0, none⟩ 1 1 (ndCell z B4 cap4) rfl rfl (World.news_of_block (Blk.new w4 28 (ndA z B4 cap4))) (by simp [ndCell, Value.oneCell']) (by decide) h63 hby (by simp; omega) (w4.heap.size + 1) (by simp) ?_; intro gg capg w5 hown5 hgrow5 hat5 hg5; have HA5 := Lib.hid (Hrow4.out.append hp HZ4.out hc4 HC4.out hown5 hgrow5 hat5); clear hown5 hgrow5 hat5)
    go_light
    go_roundw
    case rel => exact ⟨acc ++ [z], R3, n, v2, HX.out, by omega, by simp; omega, by omega, HA5.out⟩
    case measure => rw [HA5.out.1.len, HPw.out.len]; omega
theorem RowAt.first {W w : World} {v0 v : Value} {p m : Nat} {R : List Lex} {x : Nd} {B : Option Addr} {cap : Nat} (hP : PAt w p v R m) (hS : Still p W v0 w v) (hZ : Zr p W.heap.size v w) (hp : p < W.heap.size) (hc : x.kids.len ≤ cap) (ht : TreesAt w (New (W.heap.size + 1) p v) x.kids B) :
  RowAt W v0 p m R [x] (.slice (some ⟨w.heap.size, 0, none⟩) 1 1) v (w.alloc (.cells (ndA x B cap) 28)) := by
 have hb : Below w.heap.size w (w.alloc (.cells (ndA x B cap) 28)) := (Below.refl _ _).alloc (Nat.le_refl _) _
 have hW := hS.1.size
 have hzl := hZ.1.lt
 have hv : ∀ g, v.ownBlock = some g → g < w.heap.size := by
  obtain ⟨_, _, _, _, _, _, hr⟩ := hP
  exact fun g e => (hr.lt g e).2
 refine ⟨hP.below hb, hS.more hb (Nat.le_of_lt hp), hZ.below hb, ⟨ndCell x B cap, ⟨by simp [ndCell], .inr ⟨w.heap.size, 1, ndA x B cap, rfl, by omega, heap_alloc_new w _, Nat.le_refl _, by decide, by simp [ndA], by simp [ndA, ndCell]⟩⟩, ⟨B, cap, [], by simp, hc, ?_, rfl⟩⟩, fun g e => ?_⟩
 ·exact (ht.weak (fun b hb hl => ⟨hb, fun e => by have := (Option.some.inj (show some b = some w.heap.size from e)); omega⟩)).below hb
 ·obtain rfl : w.heap.size = g := by simpa [Value.ownBlock] using e
  exact ⟨by omega, fun e => by have := hv _ e.symm; omega⟩
def InAlt (N : Nat) (W : World) (v0 : Value) (p : Nat) (op : List Int) (r : Except Wrong (Nd × List Lex)) (u : Value) (w : World) : Prop :=
 ∃ acc R n v, tailG n op acc R = r ∧ n ≤ N ∧ acc.length + R.length ≤ 100001 ∧ 3 * R.length ≤ n ∧ RowAt W v0 p op.length R acc u v w
theorem alt_step {N : Nat} (hT : ∀ k, k ≤ N → PartC k) : AltC (N + 1) := by
 intro p op L W v0 hP hlen h64 hn
 obtain ⟨i0, hi, hz0, hz1, hz2⟩ := info_parts info_node
 have hp := hP.lt
 have hv : ∀ g, v0.ownBlock = some g → g < W.heap.size := by
  obtain ⟨_, _, _, _, _, _, hr⟩ := hP
  exact fun g e => (hr.lt g e).2
 have hb1 : Below W.heap.size W (W.alloc (.cells #[.int .i64 0, .int .u64 0, .int .u64 0, .int .u64 0, .int .u64 0, .slice none 0 0, .int .i64 0, .int .i64 0] 28)) := (Below.refl W.heap.size W).alloc (Nat.le_refl _) _
 have HPa := Lib.hid (hT N (Nat.le_refl _) p op L (W.alloc (.cells #[.int .i64 0, .int .u64 0, .int .u64 0, .int .u64 0, .int .u64 0, .slice none 0 0, .int .i64 0, .int .i64 0] 28)) v0 (hP.below hb1) hlen h64 (by omega))
 have HZ := Lib.hid (zr_new hp hv)
 have HS := Lib.hid (Still.of_below (p := p) (v := v0) hb1 (Nat.le_of_lt hp))
 have HW1 := Lib.hid (show (W.alloc (.cells #[.int .i64 0, .int .u64 0, .int .u64 0, .int .u64 0, .int .u64 0, .slice none 0 0, .int .i64 0, .int .i64 0] 28)).heap.size = W.heap.size + 1 by simp)
 clear hP hv hb1
 generalize hr : altG (N + 1) op [] L = r at *
 have Hr := Lib.hid hr
 clear hr
 cases hx : piecesG N op [] L with
 | error x =>
  have HX := Lib.hid (show r = .error x by rw [← Hr.out]; exact altG_bad hx)
  rw [hx] at HPa
  clear hx
  go_enter Tryz.func160, Tryz.ntmps160
  go_wp2_with fail
  refine HPa.out.mono ?_
  rintro e w2 ⟨rfl, hb2⟩
  dsimp only
  go_wp2
  rw [HX.out]
  exact ⟨rfl, rfl, HS.out.1.trans hb2⟩
 | ok x =>
  obtain ⟨ps, R⟩ := x
  have HX := Lib.hid (show tailG N op [partN ps] R = r by rw [← Hr.out]; exact (altG_ok (acc := []) hx).symm)
  have hsuf := ((readG_suf N).2.1 _ _ _ _ _ hx).length_le
  rw [hx] at HPa
  have HPa := Lib.hid (show Calls Tryz.prog 201 #[.pointer (some ⟨p, 0, none⟩)] (W.alloc (.cells #[.int .i64 0, .int .u64 0, .int .u64 0, .int .u64 0, .int .u64 0, .slice none 0 0, .int .i64 0, .int .i64 0] 28)) (Gives p op.length v0 (.ok (partN ps, R)) (W.alloc (.cells #[.int .i64 0, .int .u64 0, .int .u64 0, .int .u64 0, .int .u64 0, .slice none 0 0, .int .i64 0, .int .i64 0] 28))) from HPa.out)
  clear hx Hr
  generalize partN ps = x at HX HPa
  go_enter Tryz.func160, Tryz.ntmps160
  go_wp2_with fail
  refine HPa.out.mono ?_
  rintro e w2 ⟨v2, B, cap, rfl, hP2, hS2, hc2, ht2⟩
  have H0 : Hid (InAlt N W v0 p op r (.slice (some ⟨w2.heap.size, 0, none⟩) 1 1) (w2.alloc (.cells (ndA x B cap) 28))) :=
   Lib.hid ⟨[x], R, N, v2, HX.out, Nat.le_refl _, by simp; omega, by omega, RowAt.first hP2 (HS.out.trans hS2) (HZ.out.still hS2) hp hc2 (ht2.weak (fun b hb _ => ⟨by rw [← HW1.out]; exact hb.1, hb.2⟩))⟩
  clear hP2 hS2 ht2 HPa HZ HS HX HW1
  unfold ndV
  dsimp only
  go_wp2
  go_loopw [3] (fun u wr => InAlt N W v0 p op r u wr) (fun _ wr => lenOf ((wr.cell? ⟨p, 0, none⟩).getD undef))
  case atStart => exact H0.out
  case round =>
   obtain ⟨acc, R, n, v, hr, hN, hal, hR, hrow⟩ := hrel
   have Hrow := Lib.hid hrow
   have Hr := Lib.hid hr
   clear hrow hr H0
   cases R with
   | nil =>
    have HX := Lib.hid (show r = .ok (flatN 5 acc, []) from Hr.out.symm)
    go_wp2_with fail
    refine (peek_nil Hrow.out.1).mono ?_
    rintro e w3 ⟨rfl, hw3⟩
    subst hw3
    dsimp only
    obtain ⟨A, cu, hu, hcu, htr⟩ := Hrow.out.trees
    subst hu
    have HT3 := Lib.hid htr
    clear htr
    go_wp2_with fail
    refine (flat_go 5 _ A cu acc _ hcu HT3.out).mono ?_
    rintro e w4 ⟨B4, cap4, rfl, hb4, hc4, ht4⟩
    have hrow4 := Hrow.out.below hb4
    have hX := hrow4.2.2.1.1
    have y0 : w4.cell? ⟨W.heap.size, 0, none⟩ = some (.int .i64 0) := hX.cell 0
    have y1 : w4.cell? ⟨W.heap.size, 1, none⟩ = some (.int .u64 0) := hX.cell 1
    have y2 : w4.cell? ⟨W.heap.size, 2, none⟩ = some (.int .u64 0) := hX.cell 2
    have y3 : w4.cell? ⟨W.heap.size, 3, none⟩ = some (.int .u64 0) := hX.cell 3
    have y4 : w4.cell? ⟨W.heap.size, 4, none⟩ = some (.int .u64 0) := hX.cell 4
    have y5 : w4.cell? ⟨W.heap.size, 5, none⟩ = some (.slice none 0 0) := hX.cell 5
    have y6 : w4.cell? ⟨W.heap.size, 6, none⟩ = some (.int .i64 0) := hX.cell 6
    have y7 : w4.cell? ⟨W.heap.size, 7, none⟩ = some (.int .i64 0) := hX.cell 7
    have z0 := hX.frozen 0
    have z1 := hX.frozen 1
    have z2 := hX.frozen 2
    have z3 := hX.frozen 3
    have z4 := hX.frozen 4
    have z5 := hX.frozen 5
    have z6 := hX.frozen 6
    have z7 := hX.frozen 7
    have Hrow4 := Lib.hid hrow4
    have HT4 := Lib.hid ht4
    clear hb4 hrow4 hX ht4
    unfold ndV
    dsimp only
    go_wp2
    go_light
    have hF := filled (x := flatN 5 acc) (B := B4) (cap := cap4) Hrow4.out.1 Hrow4.out.2.1 Hrow4.out.2.2.1 rfl hp HT4.out rfl
    rw [HX.out]
    exact bodyPost_ret (ret_node Tryz.results160 rfl hF.1) rfl ⟨v, B4, cap4, rfl, hF.2.1, hF.2.2.1, hc4, hF.2.2.2⟩
   | cons c R =>
    simp only [List.length_cons] at hal hR
    by_cases h4 : c.kind = 4
    ·obtain ⟨n, rfl⟩ : ∃ k, n = k + 1 := ⟨n - 1, by omega⟩
     have Hr := Lib.hid ((tailG_bar h4).symm.trans Hr.out)
     have HN := Lib.hid (next_any Hrow.out.1 (by omega))
     go_wp2_with fail
     refine (peek_go Hrow.out.1 (by omega)).mono ?_
     rintro e w3 ⟨rfl, hw3⟩
     subst hw3
     rw [h4]
     dsimp only
     go_wp2_with fail
     refine HN.out.mono ?_
     rintro e w4 ⟨rfl, hP4, hS4⟩
     have Hrow4 := Lib.hid (Hrow.out.still hS4 hP4)
     have HPa := Lib.hid (hT n (by omega) p op R w4 v hP4 (by omega) h64 (by omega))
     have hl := Hrow4.out.own
     have hzl := Hrow4.out.2.2.1.1.lt
     have Hl := Lib.hid hl
     have HPw := Lib.hid Hrow.out.1
     clear hP4 hS4 HN hl
     unfold lexV
     dsimp only
     cases hx : piecesG n op [] R with
     | error x =>
      have HX := Lib.hid (show r = .error x by rw [← Hr.out]; exact altG_bad hx)
      rw [hx] at HPa
      clear hx
      go_wp2_with fail
      refine HPa.out.mono ?_
      rintro e w5 ⟨rfl, hb5⟩
      dsimp only
      go_wp2
      rw [HX.out]
      exact ⟨rfl, rfl, Hrow4.out.2.1.1.trans hb5⟩
     | ok x =>
      obtain ⟨ps, R2⟩ := x
      have HX := Lib.hid (show tailG n op (acc ++ [partN ps]) R2 = r by rw [← Hr.out]; exact (altG_ok hx).symm)
      have hsuf := ((readG_suf n).2.1 _ _ _ _ _ hx).length_le
      rw [hx] at HPa
      have HPa := Lib.hid (show Calls Tryz.prog 201 #[.pointer (some ⟨p, 0, none⟩)] w4 (Gives p op.length v (.ok (partN ps, R2)) w4) from HPa.out)
      clear hx Hr
      generalize partN ps = x at HX HPa
      go_wp2_with fail
      refine HPa.out.mono ?_
      rintro e w5 ⟨v5, B5, cap5, rfl, hP5, hS5, hc5, ht5⟩
      have hrow5 := Hrow4.out.still hS5 hP5
      obtain ⟨_, _, _, ⟨cs, hr5, hcs5⟩, _⟩ := id hrow5
      have hz5 := ht5.weak (Q := fun b => New (W.heap.size + 1) p v5 b ∧ some b ≠ u3.ownBlock) (fun b hb _ => ⟨⟨by have := hb.1; omega, hb.2⟩, fun e => by have := (Hl.out b e.symm).2; have := hb.1; omega⟩)
      have HrowX := Lib.hid hrow5
      have HR5 := Lib.hid hr5
      have HC5 := Lib.hid hcs5
      have HZ5 := Lib.hid hz5
      have h63 : acc.length + 1 ≤ maxLen := Nat.le_trans (by omega) (show 200000 ≤ maxLen by decide)
      have hby : (acc.length + 1) * 80 ≤ 140737488355328 := by omega
      have hWs : W.heap.size + 1 ≤ w5.heap.size := by have := hrow5.2.2.1.1.lt; omega
      clear hrow5 hr5 hcs5 hz5 hP5 hS5 ht5 hzl HPa Hl Hrow4
      unfold ndV
      dsimp only
      go_wp2_with (at_builtin; refine wpList_append_lies _ rfl _ _ 26 rfl (W.heap.size + 1) 28 i0 _ 8 80 Tryz.underlying26 hi hz0 hz1 hz2 rfl (by decide) _ _ _ rfl (HR5.out.alloc _) ⟨w5.heap.size, 0, none⟩ 1 1 (ndCell x B5 cap5) rfl rfl (World.news_of_block (Blk.new w5 28 (ndA x B5 cap5))) (by simp [ndCell, Value.oneCell']) (by decide) h63 hby (by simp; omega) (w5.heap.size + 1) (by simp) ?_; intro gg capg w6 hown6 hgrow6 hat6 hg6; have HA6 := Lib.hid (HrowX.out.append hp HZ5.out hc5 HC5.out hown6 hgrow6 hat6); clear hown6 hgrow6 hat6)
      go_light
      go_roundw
      case rel => exact ⟨acc ++ [x], R2, n, v5, HX.out, by omega, by simp; omega, by omega, HA6.out⟩
      case measure => rw [HA6.out.1.len, HPw.out.len]; simp; omega
    ·have HX := Lib.hid (show r = .ok (flatN 5 acc, c :: R) from Hr.out.symm.trans (tailG_stop h4))
     have hd : (c.kind == 4) = false := by simp; exact h4
     go_wp2_with fail
     refine (peek_go Hrow.out.1 (by omega)).mono ?_
     rintro e w3 ⟨rfl, hw3⟩
     subst hw3
     dsimp only
     obtain ⟨A, cu, hu, hcu, htr⟩ := Hrow.out.trees
     subst hu
     have HT3 := Lib.hid htr
     clear htr
     go_wp2_with fail
     refine (flat_go 5 _ A cu acc _ hcu HT3.out).mono ?_
     rintro e w4 ⟨B4, cap4, rfl, hb4, hc4, ht4⟩
     have hrow4 := Hrow.out.below hb4
     have hX := hrow4.2.2.1.1
     have y0 : w4.cell? ⟨W.heap.size, 0, none⟩ = some (.int .i64 0) := hX.cell 0
     have y1 : w4.cell? ⟨W.heap.size, 1, none⟩ = some (.int .u64 0) := hX.cell 1
     have y2 : w4.cell? ⟨W.heap.size, 2, none⟩ = some (.int .u64 0) := hX.cell 2
     have y3 : w4.cell? ⟨W.heap.size, 3, none⟩ = some (.int .u64 0) := hX.cell 3
     have y4 : w4.cell? ⟨W.heap.size, 4, none⟩ = some (.int .u64 0) := hX.cell 4
     have y5 : w4.cell? ⟨W.heap.size, 5, none⟩ = some (.slice none 0 0) := hX.cell 5
     have y6 : w4.cell? ⟨W.heap.size, 6, none⟩ = some (.int .i64 0) := hX.cell 6
     have y7 : w4.cell? ⟨W.heap.size, 7, none⟩ = some (.int .i64 0) := hX.cell 7
     have z0 := hX.frozen 0
     have z1 := hX.frozen 1
     have z2 := hX.frozen 2
     have z3 := hX.frozen 3
     have z4 := hX.frozen 4
     have z5 := hX.frozen 5
     have z6 := hX.frozen 6
     have z7 := hX.frozen 7
     have Hrow4 := Lib.hid hrow4
     have HT4 := Lib.hid ht4
     clear hb4 hrow4 hX ht4
     unfold ndV
     dsimp only
     go_wp2
     go_light
     have hF := filled (x := flatN 5 acc) (B := B4) (cap := cap4) Hrow4.out.1 Hrow4.out.2.1 Hrow4.out.2.2.1 rfl hp HT4.out rfl
     rw [HX.out]
     exact bodyPost_ret (ret_node Tryz.results160 rfl hF.1) rfl ⟨v, B4, cap4, rfl, hF.2.1, hF.2.2.1, hc4, hF.2.2.2⟩
theorem reads_go (n : Nat) : AltC n ∧ PartC n ∧ AtomC n := by
 have h : ∀ m, ∀ k, k ≤ m → AltC k ∧ PartC k ∧ AtomC k := by
  intro m
  induction m with
  | zero =>
   intro k hk
   obtain rfl : k = 0 := by omega
   exact ⟨fun _ _ _ _ _ _ _ _ h => by omega, fun _ _ _ _ _ _ _ _ h => by omega, fun _ _ _ _ _ _ _ _ h => by omega⟩
  | succ m ih =>
   intro k hk
   rcases Nat.lt_or_ge k (m + 1) with hlt | hge
   ·exact ih k (by omega)
   ·obtain rfl : k = m + 1 := by omega
    have hA : AltC (m + 1) := alt_step (fun k hk => (ih k hk).2.1)
    exact ⟨hA, part_step (fun k hk => (ih k (by omega)).2.2), atom_step (ih m (Nat.le_refl _)).1⟩
 exact h n n (Nat.le_refl _)
end
section
open Go.RowKit Go.Shelf
attribute [local go_sem] Oper.semAt_some
theorem index_at (p : Nat → Bool) (i : Nat) (hi : i < 4) (w : World) : (Instr.index 25 (.agg #[.int .u64 (word p 0), .int .u64 (word p 1), .int .u64 (word p 2), .int .u64 (word p 3)]) (.int .i64 (i : Int))).run Tryz.prog w = .ok (.int .u64 ((word p i : Nat) : Int)) w := by
 rcases i with _ | _ | _ | _ | i
 ·exact index0 ..
 ·exact index1 ..
 ·exact index2 ..
 ·exact index3 ..
 ·omega
def byteArg (x : Nat) : Array Value := #[.int .u8 ((x % 256 : Nat) : Int)]
theorem each1_in (n : Nat) (hn : 1 ≤ n) (p : Nat → Bool) (l Bs n₀ : Nat) (hBs : 0 < n₀) (J Jx : List Nat → World → Prop)
  (hY : ∀ pre x W, J pre W → pre.length < 256 → YieldAt Fence.wide (n - 1) Tryz.prog l (byteArg x) W fun e W' =>
   (e = .returned (.bool true) ∧ J (pre ++ [x]) W' ∧ Below n₀ W W') ∨ (e = .returned (.bool false) ∧ Jx (pre ++ [x]) W'))
  (W : World) (hs : Blk W Bs 25 #[.int .u64 (word p 0), .int .u64 (word p 1), .int .u64 (word p 2), .int .u64 (word p 3)]) (hT : TabAt 0 Lib.deBruijn64tab W) (h0 : J [] W) :
  CallsIn Fence.wide n Tryz.prog 218 #[.func (.yield l) #[] #[], .pointer (some ⟨Bs, 0, none⟩)] W fun e W' => (∃ v, e = .returned v) ∧
   ((∃ ys, ys = elems p 256 ∧ J ys W') ∨ (∃ pre, (∃ k, k ≤ 256 ∧ pre = elems p k) ∧ Jx pre W')) := by
 refine callsIn_of_wp Tryz.func218 rfl trivial ?_ rfl
 simp only [Tryz.ntmps218, List.size_toArray, List.length_cons, List.length_nil, Nat.reduceAdd, Nat.reduceSub, Array.replicate_succ, Array.replicate_zero, List.push_toArray, List.append_toArray, List.nil_append, List.cons_append]
 obtain ⟨s0, s1, s2, s3, f0, f1, f2, f3⟩ := hs.c4
 gi_wp2
 gi_loopw [6] (fun v wr => ∃ i : Nat, i ≤ 4 ∧ v = .int .i64 (i : Int) ∧ J (elems p (64 * i)) wr ∧ Below n₀ W wr)
  (fun v _ => 4 - (intOf v).toNat)
 case atStart => exact ⟨0, by omega, rfl, h0, Below.refl _ _⟩
 case round =>
  obtain ⟨i, hi, rfl, hJ, hB⟩ := hrel
  by_cases hlt : i < 4
  ·have hix := index_at p i hlt
   gi_wp2
   have hd : decide ((i : Int) < 4) = true := by simp; omega
   rw [hd]
   gi_loopw [4] (fun v w2 => ∃ m : Nat, m ≤ 64 * i + 64 ∧ 64 * i ≤ m ∧ v = .int .u64 ((word (fun c => p c && decide (m ≤ c)) i : Nat) : Int) ∧ J (elems p m) w2 ∧ Below n₀ W w2)
    (fun v _ => (intOf v).toNat)
   case atStart => exact ⟨64 * i, by omega, Nat.le_refl _, by rw [word_start], hJ, hB⟩
   case round =>
    obtain ⟨m, hm1, hm2, rfl, hJ2, hB2⟩ := hrel
    by_cases hz : word (fun c => p c && decide (m ≤ c)) i = 0
    ·have hend := elems_end p i m hm1 hm2 hz
     rw [hz]
     gi_wp2
     exact ⟨⟨i + 1, by omega, by simp, by rw [hend]; exact hJ2, hB2⟩, by simp [intOf]; omega⟩
    ·obtain ⟨hk, hmk, hel, hand, hless⟩ := elems_next p i m hm1 hm2 hz
     have hx := word_lt (fun c => p c && decide (m ≤ c)) i
     generalize hwx : word (fun c => p c && decide (m ≤ c)) i = x at *
     have hx0 : ((x : Int) == 0) = false := by simp; omega
     have hTx : TabAt 0 Lib.deBruijn64tab _ := fun j hj => (hB2.cell (p := ⟨0, j, none⟩) (by show 0 < n₀; omega)).trans (hT j hj)
     have htz := tz_go x hx hz _ hTx
     generalize Lib.ctz 64 x = k at *
     obtain ⟨fn, tmps, assign, body, hy, hR⟩ := hY _ (64 * i + k) _ hJ2 (by have := elems_len p m; omega)
     unfold byteArg at hy
     have ev : (((64 * i + k) % 256 : Nat) : Int) = (i : Int) * 64 + (k : Int) := by omega
     rw [ev] at hy
     have esub : IntKind.u64.wrap ((x : Int) - 1) = ((x - 1 : Nat) : Int) := by rw [IntKind.wrap_u64]; omega
     have eand : bits .and .u64 (x : Int) ((x - 1 : Nat) : Int) = ((word (fun c => p c && decide (64 * i + k + 1 ≤ c)) i : Nat) : Int) := by
      rw [← hand]; exact u64_and_nat x (x - 1) hx (by omega)
     clear hwx
     gi_wp2_with (refine ⟨trivial, ?_⟩; gi_at_call 174; refine (callsIn_wide.2 htz).mono ?_; rintro e w' ⟨rfl, rfl⟩)
     refine hR.mono ?_
     rintro e W3 (⟨rfl, hJ3, hk3⟩ | ⟨rfl, hJx3⟩)
     ·gi_wp2
      go_roundw
      case rel => exact ⟨64 * i + k + 1, by omega, by omega, rfl, by rw [hel]; exact hJ3, hB2.trans hk3⟩
      case measure => simp [intOf]; omega
     ·gi_wp2
      refine bodyPost_ret (results_none rfl _ _ _) rfl ?_
      exact ⟨⟨_, rfl⟩, .inr ⟨_, ⟨64 * i + k + 1, by omega, hel.symm⟩, hJx3⟩⟩
  ·obtain rfl : i = 4 := by omega
   gi_wp2
   go_end0
   exact ⟨⟨_, rfl⟩, .inl ⟨_, rfl, hJ⟩⟩
theorem each_go (p : Nat → Bool) (w : World) :
  Calls Tryz.prog 180 #[.agg #[.int .u64 (word p 0), .int .u64 (word p 1), .int .u64 (word p 2), .int .u64 (word p 3)]] w fun e w' => e = .returned (.func (.func 218) #[] #[.pointer (some ⟨w.heap.size, 0, none⟩)]) ∧ w' = w.alloc (.cells #[.int .u64 (word p 0), .int .u64 (word p 1), .int .u64 (word p 2), .int .u64 (word p 3)] 25) := by
 go_enter Tryz.func180, Tryz.ntmps180
 go_wp2
 go_light
 go_ret
 exact ⟨rfl, rfl⟩
theorem TabAt.below {n₀ : Nat} {A B : World} (h : Below n₀ A B) (h0 : 0 < n₀) (hT : TabAt 0 Lib.deBruijn64tab A) : TabAt 0 Lib.deBruijn64tab B :=
 fun j hj => (h.cell (p := ⟨0, j, none⟩) h0).trans (hT j hj)
theorem each_stops (n : Nat) (hn : 1 ≤ n) (p : Nat → Bool) (Bs n₀ : Nat) (w : World) (hBs : 0 < n₀) (hBw : Bs < w.heap.size) (hs : Blk w Bs 25 #[.int .u64 (word p 0), .int .u64 (word p 1), .int .u64 (word p 2), .int .u64 (word p 3)]) (hT : TabAt 0 Lib.deBruijn64tab w) :
  SeqStopsK Fence.wide n Tryz.prog 218 #[.pointer (some ⟨Bs, 0, none⟩)] byteArg (Below n₀) (fun ys => ys = elems p 256) (fun pre => ∃ k, k ≤ 256 ∧ pre = elems p k) 256 w := fun l J Jx W hW _ _ hY h0 =>
 each1_in n hn p l Bs n₀ hBs J Jx hY W (hs.below hW hBw) (TabAt.below hW (World.block_lt_of_cell? w _ (hT 0 (by decide))) hT) h0
end
section
open Go.RowKit
def hexd (n : Nat) : Nat := if n < 10 then 48 + n else 87 + n
def isPlain (c : Nat) : Bool := decide (33 ≤ c) && decide (c ≤ 126) && !(c == 92)
def oneS (c : Nat) : List Nat := if isPlain c = true then [c] else [92, 120, hexd (c / 16), hexd (c % 16)]
def chrS (c : Nat) : List Nat := if c = 10 then [92, 110] else if c = 9 then [92, 116] else if c = 13 then [92, 114] else if isSpecial c = true then [92, c] else oneS c
theorem oneS_len (c : Nat) : (oneS c).length ≤ 4 := by unfold oneS; split <;> simp
theorem chrS_len (c : Nat) : (chrS c).length ≤ 4 := by unfold chrS; have := oneS_len c; split <;> (try split) <;> (try split) <;> (try split) <;> simp_all
theorem run_str4 (w : World) (a b c d : Nat) : (convert 29 9 (.slice (some ⟨w.heap.size, 0, none⟩) 4 4)).run Tryz.prog (w.alloc (.cells #[.int .u8 (a : Int), .int .u8 (b : Int), .int .u8 (c : Int), .int .u8 (d : Int)] 5)).drew =
  .ok (.string (strOf [a, b, c, d])) (w.alloc (.cells #[.int .u8 (a : Int), .int .u8 (b : Int), .int .u8 (c : Int), .int .u8 (d : Int)] 5)).drew :=
 run_str _ ⟨w.heap.size, 0, none⟩ 4 [a, b, c, d] (fun j u hu => by
  have hb := (Blk.new w 5 #[.int .u8 (a : Int), .int .u8 (b : Int), .int .u8 (c : Int), .int .u8 (d : Int)]).drew
  match j, hu with
  | 0, hu => simp at hu; subst hu; exact hb.cell 0
  | 1, hu => simp at hu; subst hu; exact hb.cell 1
  | 2, hu => simp at hu; subst hu; exact hb.cell 2
  | 3, hu => simp at hu; subst hu; exact hb.cell 3
  | j + 4, hu => simp at hu)
@[go_sem] theorem run_str4_92 (w : World) (c d : Nat) : (convert 29 9 (.slice (some ⟨w.heap.size, 0, none⟩) 4 4)).run Tryz.prog (w.alloc (.cells #[.int .u8 92, .int .u8 120, .int .u8 (c : Int), .int .u8 (d : Int)] 5)).drew =
  .ok (.string (strOf [92, 120, c, d])) (w.alloc (.cells #[.int .u8 92, .int .u8 120, .int .u8 (c : Int), .int .u8 (d : Int)] 5)).drew := run_str4 w 92 120 c d
theorem digit_go (n : Int) (w : World) (h0 : 0 ≤ n) (h1 : n < 16) :
  Calls Tryz.prog 262 #[.int .i64 n] w fun e w' => e = .returned (.int .u8 (hexd n.toNat : Nat)) ∧ w = w' := by
 obtain ⟨k, rfl⟩ := Int.eq_ofNat_of_zero_le h0
 have H : Hid (∀ k : Fin 16, ((sixteen[k.val]'(by show k.val < 16; exact k.2)).toNat : Int) = (hexd k.val : Nat)) := by show ∀ k : Fin 16, _; decide +kernel
 have hk : k < 16 := by omega
 go_enter Tryz.func262, Tryz.ntmps262
 go_wp2
 go_light
 go_ret
 exact ⟨ret_i (H.out ⟨k, hk⟩), rfl⟩
theorem plain_words : ∀ c : Fin 256, ((if c.val < 64 then 18446744065119617024 else if c.val < 128 then 9223372036586340351 else 0) / 2 ^ (c.val % 64)) % 2 = (isPlain c.val).toNat := by decide +kernel
theorem plain_bit (K n : Nat) (hn : n < 256) (hK : K = if n < 64 then 18446744065119617024 else if n < 128 then 9223372036586340351 else 0) : (bits .and .u64 ((K : Int) / 2 ^ (n % 64)) 1 == 1) = isPlain n := by
 have h := plain_words ⟨n, hn⟩
 dsimp only at h
 rw [← hK] at h
 have hK' : K < 18446744073709551616 := by rw [hK]; split <;> (try split) <;> decide
 rw [show ((K : Int) / 2 ^ (n % 64)) = ((K / 2 ^ (n % 64) : Nat) : Int) by simp]
 exact and1 _ (Nat.lt_of_le_of_lt (Nat.div_le_self _ _) hK') _ h
theorem plain_go (c : Int) (w : World) (h0 : 0 ≤ c) (h1 : c < 256) :
  Calls Tryz.prog 261 #[.int .u8 c] w fun e w' => e = .returned (.bool (isPlain c.toNat)) ∧ Below w.heap.size w w' := by
 obtain ⟨n, rfl⟩ := Int.eq_ofNat_of_zero_le h0
 have hn : n < 256 := by omega
 obtain hq | hq | hq | hq : n / 64 = 0 ∨ n / 64 = 1 ∨ n / 64 = 2 ∨ n / 64 = 3 := by omega
 ·go_enter Tryz.func261, Tryz.ntmps261
  go_wp2
  go_light
  go_ret
  refine ⟨ret_b ?_, (Below.refl _ _).alloc (Nat.le_refl _) _⟩
  rw [Int.toNat_natCast, ← plain_bit 18446744065119617024 n hn (by rw [if_pos (by omega)])]
  rfl
 ·go_enter Tryz.func261, Tryz.ntmps261
  go_wp2
  go_light
  go_ret
  refine ⟨ret_b ?_, (Below.refl _ _).alloc (Nat.le_refl _) _⟩
  rw [Int.toNat_natCast, ← plain_bit 9223372036586340351 n hn (by rw [if_neg (by omega), if_pos (by omega)])]
  rfl
 ·go_enter Tryz.func261, Tryz.ntmps261
  go_wp2
  go_light
  go_ret
  refine ⟨ret_b ?_, (Below.refl _ _).alloc (Nat.le_refl _) _⟩
  rw [Int.toNat_natCast, ← plain_bit 0 n hn (by rw [if_neg (by omega), if_neg (by omega)])]
  simp
 ·go_enter Tryz.func261, Tryz.ntmps261
  go_wp2
  go_light
  go_ret
  refine ⟨ret_b ?_, (Below.refl _ _).alloc (Nat.le_refl _) _⟩
  rw [Int.toNat_natCast, ← plain_bit 0 n hn (by rw [if_neg (by omega), if_neg (by omega)])]
  simp
@[go_sem] theorem run_str2_92 (w : World) (c : Nat) : (convert 29 9 (.slice (some ⟨w.heap.size, 0, none⟩) 2 2)).run Tryz.prog (w.alloc (.cells #[.int .u8 92, .int .u8 (c : Int)] 5)) =
  .ok (.string (strOf [92, c])) (w.alloc (.cells #[.int .u8 92, .int .u8 (c : Int)] 5)) :=
 run_str _ ⟨w.heap.size, 0, none⟩ 2 [92, c] (fun j u hu => by
  have hb := Blk.new w 5 #[.int .u8 92, .int .u8 (c : Int)]
  match j, hu with
  | 0, hu => simp at hu; subst hu; exact hb.cell 0
  | 1, hu => simp at hu; subst hu; exact hb.cell 1
  | j + 2, hu => simp at hu)
theorem u8_info : (Tryz.prog.info? 5).map (fun i => (i.zero, i.size, i.bytes)) = some (some (.int .u8 0), 1, 1) := by kernel_rfl
theorem own_str1 {w : World} {base : Nat} {v : Value} {a : Nat} (h : w.ownsRow base 5 1 v (0 + 1) ([] ++ [.int .u8 (a : Int)])) :
  ∃ g cap, v = .slice (some ⟨g, 0, none⟩) 1 cap ∧ (convert 29 9 (.slice (some ⟨g, 0, none⟩) 1 cap)).run Tryz.prog w = .ok (.string (strOf [a])) w := by
 obtain ⟨g, cap, hv, _, _⟩ := own_form h (by decide)
 exact ⟨g, cap, hv, run_str w ⟨g, 0, none⟩ cap [a] (h.cells (g := g) (by rw [hv]; rfl))⟩
theorem own_str4 {w : World} {base : Nat} {v : Value} {a b c d : Nat} (h : w.ownsRow base 5 1 v (0 + 4) ([] ++ [.int .u8 (a : Int), .int .u8 (b : Int), .int .u8 (c : Int), .int .u8 (d : Int)])) :
  ∃ g cap, v = .slice (some ⟨g, 0, none⟩) 4 cap ∧ (convert 29 9 (.slice (some ⟨g, 0, none⟩) 4 cap)).run Tryz.prog w = .ok (.string (strOf [a, b, c, d])) w := by
 obtain ⟨g, cap, hv, _, _⟩ := own_form h (by decide)
 exact ⟨g, cap, hv, run_str w ⟨g, 0, none⟩ cap [a, b, c, d] (h.cells (g := g) (by rw [hv]; rfl))⟩
theorem quote1_plain (b o : Nat) (c : Nat) (w : World) (hc : w.cell? ⟨b, o, none⟩ = some (.int .u8 (c : Int))) (hn : c < 256) (hp : isPlain c = true) :
  Calls Tryz.prog 253 #[.slice (some ⟨b, o, none⟩) 1 1] w fun e w' => e = .returned (.string (strOf (oneS c))) ∧ Below w.heap.size w w' := by
 have HV : Hid (oneS c = [c]) := by show oneS c = _; unfold oneS; rw [hp]; rfl
 rw [HV.out]
 obtain ⟨i0, hi, hz0, hz1, hz2⟩ := info_parts u8_info
 have hbl := World.block_lt_of_cell? w _ hc
 have hmk : ∀ w, (Instr.makeSlice 29 (.int .i64 0) (.int .i64 1)).run Tryz.prog w = .ok (.slice (some ⟨w.heap.size, 0, none⟩) 0 1) (w.alloc (.cells #[.int .u8 0] 5)) := fun _ => by kernel_rfl
 have hown0 : Hid ((w.alloc (.cells #[.int .u8 0] 5)).ownsRow w.heap.size 5 1 (.slice (some ⟨w.heap.size, 0, none⟩) 0 1) 0 []) := World.ownsRow_made w #[.int .u8 0] 1 (Nat.le_refl _) (by decide) rfl
 go_enter Tryz.func253, Tryz.ntmps253
 go_wp2
 refine wp_loop_rounds 2 ?_
 rw [rounds_succ]
 go_wp2_with fail
 refine (plain_go _ _ (by omega) (by omega)).mono ?_
 rintro e w1 ⟨rfl, hb1⟩
 have hb1' : Hid (Below w.heap.size w w1) := ((Below.refl w.heap.size w).alloc (Nat.le_refl _) _).trans (hb1.mono (by simp))
 have hown1 := Lib.hid (own_below hown0.out hb1)
 have hz1' : w.heap.size ≤ w1.heap.size := hb1'.out.size
 go_wp2_with (at_builtin; refine wpList_append_own _ rfl (.tmp 20) (.tmp 22) _ rfl w.heap.size 5 i0 (.int .u8 0) 1 1 Tryz.underlying29 hi hz0 hz1 hz2 rfl (by decide) _ _ _ rfl (hown1.out.alloc _) ⟨w1.heap.size, 0, none⟩ 1 1 [.int .u8 (c : Int)] rfl rfl (cell_one_new _ _ _) (by simp [Value.oneCell']) (by decide) (by decide) (by simp; omega) ?_; intro v' w2 hown2 hg2 _; obtain ⟨g', cap', rfl, hs⟩ := own_str1 hown2)
 rw [rounds_succ]
 go_wp2
 go_light
 go_ret
 exact ⟨rfl, below_grown ((hb1'.out).alloc hz1' _) hg2 (hown1.out.alloc _) (Nat.le_refl _) (by simp; omega)⟩
theorem quote1_hex (b o : Nat) (c : Nat) (w : World) (hc : w.cell? ⟨b, o, none⟩ = some (.int .u8 (c : Int))) (hn : c < 256) (hp : isPlain c = false) :
  Calls Tryz.prog 253 #[.slice (some ⟨b, o, none⟩) 1 1] w fun e w' => e = .returned (.string (strOf (oneS c))) ∧ Below w.heap.size w w' := by
 have HV : Hid (oneS c = [92, 120, hexd (c / 16), hexd (c % 16)]) := by show oneS c = _; unfold oneS; rw [hp]; rfl
 rw [HV.out]
 obtain ⟨i0, hi, hz0, hz1, hz2⟩ := info_parts u8_info
 have hbl := World.block_lt_of_cell? w _ hc
 have hmk : ∀ w, (Instr.makeSlice 29 (.int .i64 0) (.int .i64 1)).run Tryz.prog w = .ok (.slice (some ⟨w.heap.size, 0, none⟩) 0 1) (w.alloc (.cells #[.int .u8 0] 5)) := fun _ => by kernel_rfl
 have hown0 : Hid ((w.alloc (.cells #[.int .u8 0] 5)).ownsRow w.heap.size 5 1 (.slice (some ⟨w.heap.size, 0, none⟩) 0 1) 0 []) := World.ownsRow_made w #[.int .u8 0] 1 (Nat.le_refl _) (by decide) rfl
 go_enter Tryz.func253, Tryz.ntmps253
 go_wp2
 refine wp_loop_rounds 2 ?_
 rw [rounds_succ]
 go_wp2_with fail
 refine (plain_go _ _ (by omega) (by omega)).mono ?_
 rintro e w1 ⟨rfl, hb1⟩
 have hb1' : Hid (Below w.heap.size w w1) := ((Below.refl w.heap.size w).alloc (Nat.le_refl _) _).trans (hb1.mono (by simp))
 have hown1 := Lib.hid (own_below hown0.out hb1)
 have hz1' : w.heap.size ≤ w1.heap.size := hb1'.out.size
 go_wp2_with fail
 refine (digit_go _ _ (by omega) (by omega)).mono ?_
 rintro e w2 ⟨rfl, rfl⟩
 go_wp2_with fail
 refine (digit_go _ _ (by omega) (by omega)).mono ?_
 rintro e w2 ⟨rfl, rfl⟩
 go_wp2_with (at_builtin; refine wpList_append_own _ rfl (.tmp 24) (.tmp 33) _ rfl w.heap.size 5 i0 (.int .u8 0) 1 1 Tryz.underlying29 hi hz0 hz1 hz2 rfl (by decide) _ _ _ rfl (hown1.out.alloc _) ⟨w1.heap.size, 0, none⟩ 4 4 [.int .u8 92, .int .u8 120, .int .u8 ((hexd (c / 16) : Nat) : Int), .int .u8 ((hexd (c % 16) : Nat) : Int)] rfl rfl (World.news_of_block (cs := #[.int .u8 92, .int .u8 120, .int .u8 ((hexd (c / 16) : Nat) : Int), .int .u8 ((hexd (c % 16) : Nat) : Int)]) (t := 5) (fr := (0, 0)) (heap_alloc_new w1 _)) (by simp [Value.oneCell']) (by decide) (by decide) (by simp; omega) ?_; intro v' w2 hown2 hg2 _; obtain ⟨g', cap', rfl, hs⟩ := own_str4 (a := 92) (b := 120) hown2)
 rw [rounds_succ]
 go_wp2
 go_light
 go_ret
 exact ⟨rfl, below_grown ((hb1'.out).alloc hz1' _) hg2 (hown1.out.alloc _) (Nat.le_refl _) (by simp; omega)⟩
theorem quote1_go (b o : Nat) (c : Nat) (w : World) (hc : w.cell? ⟨b, o, none⟩ = some (.int .u8 (c : Int))) (hn : c < 256) :
  Calls Tryz.prog 253 #[.slice (some ⟨b, o, none⟩) 1 1] w fun e w' => e = .returned (.string (strOf (oneS c))) ∧ Below w.heap.size w w' := by
 cases hp : isPlain c
 ·exact quote1_hex b o c w hc hn hp
 ·exact quote1_plain b o c w hc hn hp
theorem chr_go (c : Int) (w : World) (h0 : 0 ≤ c) (h1 : c < 256) :
  Calls Tryz.prog 235 #[.int .u8 c] w fun e w' => e = .returned (.string (strOf (chrS c.toNat))) ∧ Below w.heap.size w w' := by
 obtain ⟨n, rfl⟩ := Int.eq_ofNat_of_zero_le h0
 rw [Int.toNat_natCast]
 have hn : n < 256 := by omega
 by_cases e1 : n = 10
 ·subst e1
  go_enter Tryz.func235, Tryz.ntmps235
  go_wp2
  go_light
  go_ret
  exact ⟨rfl, Below.refl _ _⟩
 by_cases e2 : n = 9
 ·subst e2
  go_enter Tryz.func235, Tryz.ntmps235
  go_wp2
  go_light
  go_ret
  exact ⟨rfl, Below.refl _ _⟩
 by_cases e3 : n = 13
 ·subst e3
  go_enter Tryz.func235, Tryz.ntmps235
  go_wp2
  go_light
  go_ret
  exact ⟨rfl, Below.refl _ _⟩
 have b1 : ((n : Int) == 10) = false := by simp; omega
 have b2 : ((n : Int) == 9) = false := by simp; omega
 have b3 : ((n : Int) == 13) = false := by simp; omega
 cases hs : isSpecial n
 ·have HV : Hid (chrS n = oneS n) := by show chrS n = _; unfold chrS; rw [if_neg e1, if_neg e2, if_neg e3, hs]; rfl
  rw [HV.out]
  clear e1 e2 e3
  go_enter Tryz.func235, Tryz.ntmps235
  go_wp2_with (first
   | (go_at_call 252; refine (special_go _ _ (by omega) (by omega)).mono ?_; rintro e w2 ⟨rfl, rfl⟩)
   | (go_at_call 253; refine (quote1_go w.heap.size 0 n _ ((Blk.new w 5 #[.int .u8 (n : Int)]).cell 0) hn).mono ?_; rintro e w2 ⟨rfl, hb2⟩))
  go_light
  go_ret
  exact ⟨rfl, ((Below.refl w.heap.size w).alloc (Nat.le_refl _) _).trans (hb2.mono (by simp))⟩
 ·have HV : Hid (chrS n = [92, n]) := by show chrS n = _; unfold chrS; rw [if_neg e1, if_neg e2, if_neg e3, hs]; rfl
  rw [HV.out]
  clear e1 e2 e3
  go_enter Tryz.func235, Tryz.ntmps235
  go_wp2_with (go_at_call 252; refine (special_go _ _ (by omega) (by omega)).mono ?_; rintro e w2 ⟨rfl, rfl⟩)
  go_light
  go_ret
  exact ⟨rfl, (Below.refl w.heap.size w).alloc (Nat.le_refl _) _⟩
@[go_sem] theorem run_assert_bad (k q : Int) (w : World) : (Instr.typeAssert (.iface 77 (.agg #[.int .i64 k, .int .i64 q])) 20 77 false).run Tryz.prog w = .ok (.agg #[.int .i64 k, .int .i64 q]) w := by kernel_rfl
theorem catch_idle (G H : Nat) (w : World) :
  CallsD Tryz.prog 159 #[.pointer (some ⟨G, 0, none⟩), .pointer (some ⟨H, 0, none⟩)] .returning w fun e u' w' => e = .returned (.tuple #[]) ∧ u' = .returning ∧ w' = w := by
 refine callsD_of_wpS Tryz.func159 rfl fun c₀ cs hu => ?_
 apply wpS_seq
 apply wpS_region
 simp [wpOpsS, go_sem, recoverD, hu, Tryz.ntmps159, Exit.thenS]
 refine wpS_of_wp ?_
 change Code.wp _ _ _ { tmps := #[.pointer (some ⟨G, 0, none⟩), .pointer (some ⟨H, 0, none⟩), .nilIface, .nilIface, undef, undef, undef, undef, undef], defers := [] } _
 go_wp2
 cases c₀
 simp_all [bodyPostS, results, Tryz.results159]
theorem catch_bad (G H : Nat) (k q : Int) (older : List PanicEntry) (w : World) (hG : Blk w G 28 #[.int .i64 0, .int .u64 0, .int .u64 0, .int .u64 0, .int .u64 0, .slice none 0 0, .int .i64 0, .int .i64 0]) (hH : Blk w H 77 #[.int .i64 0, .int .i64 0]) (hGH : G ≠ H) :
  CallsD Tryz.prog 159 #[.pointer (some ⟨G, 0, none⟩), .pointer (some ⟨H, 0, none⟩)] (.panicking ({ v := badV k q, recovered := false } :: older)) w fun e u' w' =>
   e = .returned (.tuple #[]) ∧ u' = .panicking ({ v := badV k q, recovered := true } :: older) ∧ Blk w' G 28 #[.int .i64 0, .int .u64 0, .int .u64 0, .int .u64 0, .int .u64 0, .slice none 0 0, .int .i64 0, .int .i64 0] ∧ Blk w' H 77 #[.int .i64 k, .int .i64 q] ∧ ∀ n, n ≤ G → n ≤ H → Below n w w' := by
 refine callsD_of_wpS Tryz.func159 rfl fun c₀ cs hu => ?_
 apply wpS_seq
 apply wpS_region
 unfold badV at hu ⊢
 simp [wpOpsS, go_sem, recoverD, hu, Tryz.ntmps159, Exit.thenS]
 refine wpS_of_wp ?_
 change Code.wp _ _ _ { tmps := #[.pointer (some ⟨G, 0, none⟩), .pointer (some ⟨H, 0, none⟩), .iface 77 (.agg #[.int .i64 k, .int .i64 q]), .iface 77 (.agg #[.int .i64 k, .int .i64 q]), undef, undef, undef, undef, undef], defers := [] } _
 have y0 : w.cell? ⟨G, 0, none⟩ = some (.int .i64 0) := hG.cell 0
 have y1 : w.cell? ⟨G, 1, none⟩ = some (.int .u64 0) := hG.cell 1
 have y2 : w.cell? ⟨G, 2, none⟩ = some (.int .u64 0) := hG.cell 2
 have y3 : w.cell? ⟨G, 3, none⟩ = some (.int .u64 0) := hG.cell 3
 have y4 : w.cell? ⟨G, 4, none⟩ = some (.int .u64 0) := hG.cell 4
 have y5 : w.cell? ⟨G, 5, none⟩ = some (.slice none 0 0) := hG.cell 5
 have y6 : w.cell? ⟨G, 6, none⟩ = some (.int .i64 0) := hG.cell 6
 have y7 : w.cell? ⟨G, 7, none⟩ = some (.int .i64 0) := hG.cell 7
 have z0 := hG.frozen 0
 have z1 := hG.frozen 1
 have z2 := hG.frozen 2
 have z3 := hG.frozen 3
 have z4 := hG.frozen 4
 have z5 := hG.frozen 5
 have z6 := hG.frozen 6
 have z7 := hG.frozen 7
 obtain ⟨b0, b1, f0, f1⟩ := hH.c2
 have HG := Lib.hid hG
 have HH := Lib.hid hH
 clear hG hH
 go_wp2
 go_region
 change bodyPostS Tryz.prog Tryz.f159 _ _ _ Exit.normal _ _ _
 refine ⟨rfl, _, rfl, _, results_none rfl _ _ _, rfl, rfl, ((HG.out.put8 _ _ _ _ _ _ _ _).far2 hGH _ _).drew, ((HH.out.past8 (fun e => hGH e.symm) _ _ _ _ _ _ _ _).set2).drew, fun n h1 h2 => (below_set2 (below_put8 (Below.refl n w) h1 _ _ _ _ _ _ _ _) h2 _ _).drew⟩
theorem special_is (c : Nat) (v : Bool) (w : World) (h1 : c < 256) (h : isSpecial c = v) :
  Calls Tryz.prog 252 #[.int .u8 (c : Int)] w fun e w' => e = .returned (.bool v) ∧ w = w' :=
 (special_go c w (by omega) (by omega)).mono fun _ _ q => by rw [Int.toNat_natCast, h] at q; exact q
def CharPost (g : Nat) (A : Option Addr) (cap : Nat) (bs : List Nat) (i s : Nat) (w : World) (e : Ending) (w' : World) : Prop :=
 w.grownBy w' (some g) ∧
 match charS bs s i with
 | .ok (c, j) => e = .returned (.int .u8 (c : Int)) ∧ Rd w' g A cap bs (j : Int) (s : Int) 0 0
 | .error (k, p) => k ≠ 0 ∧ ∃ c j : Nat, c < 256 ∧ e = .returned (.int .u8 (c : Int)) ∧ Rd w' g A cap bs (j : Int) (s : Int) k p
theorem CharPost.yes {g : Nat} {A : Option Addr} {cap : Nat} {bs : List Nat} {i s : Nat} {w : World} {e : Ending} {w' : World} {c j : Nat} (hg : w.grownBy w' (some g)) (hs : charS bs s i = .ok (c, j))
  (he : e = .returned (.int .u8 (c : Int))) (hr : Rd w' g A cap bs (j : Int) (s : Int) 0 0) : CharPost g A cap bs i s w e w' := by
 unfold CharPost; rw [hs]; exact ⟨hg, he, hr⟩
theorem CharPost.no {g : Nat} {A : Option Addr} {cap : Nat} {bs : List Nat} {i s : Nat} {w : World} {e : Ending} {w' : World} {k p : Int} (c j : Nat) (hg : w.grownBy w' (some g)) (hs : charS bs s i = .error (k, p)) (hk : k ≠ 0)
  (hc : c < 256) (he : e = .returned (.int .u8 (c : Int))) (hr : Rd w' g A cap bs (j : Int) (s : Int) k p) : CharPost g A cap bs i s w e w' := by
 unfold CharPost; rw [hs]; exact ⟨hg, hk, c, j, hc, he, hr⟩
theorem char_end (g : Nat) (A : Option Addr) (cap : Nat) (bs : List Nat) (i s : Nat) (B : Nat) (w : World) (hr : Rd w g A cap bs (i : Int) (s : Int) 0 0) (hA : BytesAt w B A bs) (hB : B ≤ g) (h : bs.length = i) : Calls Tryz.prog 258 #[.pointer (some ⟨g, 0, none⟩)] w (CharPost g A cap bs i s w) := by
 obtain ⟨c0, c1, c2, c3, c4, f1, f3, f4⟩ := hr.cells
 have Hr := Lib.hid hr
 have HA := Lib.hid hA
 have Hl := Lib.hid hA.2.1
 have hl := hA.2.1
 have Hh := Lib.hid h
 have hz : ((bs.length : Int) - (i : Int) == 0) = true := by simp; omega
 have hi : i ≤ bs.length := by omega
 clear hr hA h
 go_enter Tryz.func258, Tryz.ntmps258
 go_wp2_with fail
 with_reducible refine (left_go g A cap bs _ _ 0 0 _ Hr.out Hl.out (by omega) (by omega)).mono ?_
 rintro e w1 ⟨rfl, n1, rfl⟩
 go_wp2_with (go_at_call 255; refine (fail0_go g A cap bs _ _ 0 _ _ _ (Hr.out.drewN n1)).mono ?_; rintro e w2 ⟨rfl, hr2, hg2⟩)
 go_light
 go_ret
 exact CharPost.no 0 i (only_trans (only_drewN (only_refl _ _) _) hg2) (charS_end (by have := Hh.out; omega)) (by decide) (by decide) rfl hr2
theorem char_esc (g : Nat) (A : Option Addr) (cap : Nat) (bs : List Nat) (i s : Nat) (B : Nat) (w : World) (hr : Rd w g A cap bs (i : Int) (s : Int) 0 0) (hA : BytesAt w B A bs) (hB : B ≤ g) (h : i < bs.length) (hc : byteAt bs i = 92) : Calls Tryz.prog 258 #[.pointer (some ⟨g, 0, none⟩)] w (CharPost g A cap bs i s w) := by
 obtain ⟨c0, c1, c2, c3, c4, f1, f3, f4⟩ := hr.cells
 have Hr := Lib.hid hr
 have HA := Lib.hid hA
 have Hl := Lib.hid hA.2.1
 have hl := hA.2.1
 have hz : ((bs.length : Int) - (i : Int) == 0) = false := by simp; omega
 have hp0 : (0 : Int) ≤ (i : Int) := by omega
 have hp1 : (i : Int) < (bs.length : Int) := by omega
 have hbt := byteAt_lt hA.1 i
 have hat := hasAt_in (bs := bs) 92 h
 obtain ⟨b, o, rfl, hbB, hcell⟩ := hA.2.2 (by omega)
 have hx := hcell i (by omega)
 have hbg : b ≠ g := by omega
 obtain ⟨c, hk⟩ : ∃ c, byteAt bs i = c := ⟨_, rfl⟩
 rw [hk] at hx hbt hat
 have Hk := Lib.hid hk
 have hb : hasAt bs (i : Int) 92 = true := by rw [hat]; simp; omega
 have Hc := Lib.hid hc
 clear hr hA hcell hk hat hc
 cases he : escS bs i with
 | none =>
  have He := Lib.hid he
  clear he
  go_enter Tryz.func258, Tryz.ntmps258
  go_wp2_with fail
  with_reducible refine (left_go g (some ⟨b, o, none⟩) cap bs _ _ 0 0 _ Hr.out Hl.out (by omega) (by omega)).mono ?_
  rintro e w1 ⟨rfl, n1, rfl⟩
  go_wp2_with fail
  with_reducible refine (here_go g (some ⟨b, o, none⟩) cap bs (i : Int) _ _ _ _ B _ (Hr.out.drewN n1) (HA.out.drewN n1) (by omega) (by omega)).mono ?_
  rintro e w2 ⟨rfl, n2, rfl⟩
  go_wp2_with (go_at_call 244; refine (escape_go g (some ⟨b, o, none⟩) cap bs i _ B _ (Hr.out.drewN (n1 + n2)) (HA.out.drewN (n1 + n2)) hB h).mono ?_; rintro e w3 hp; unfold EscPost at hp; rw [He.out] at hp; obtain ⟨hg3, c', j', hc', rfl, hr3⟩ := hp)
  go_light
  go_ret
  exact CharPost.no c' j' (only_trans (only_drewN (only_refl _ _) _) hg3) (charS_bad h Hc.out He.out) (by decide) hc' rfl hr3
 | some x =>
  obtain ⟨c', j'⟩ := x
  have He := Lib.hid he
  clear he
  go_enter Tryz.func258, Tryz.ntmps258
  go_wp2_with fail
  with_reducible refine (left_go g (some ⟨b, o, none⟩) cap bs _ _ 0 0 _ Hr.out Hl.out (by omega) (by omega)).mono ?_
  rintro e w1 ⟨rfl, n1, rfl⟩
  go_wp2_with fail
  with_reducible refine (here_go g (some ⟨b, o, none⟩) cap bs (i : Int) _ _ _ _ B _ (Hr.out.drewN n1) (HA.out.drewN n1) (by omega) (by omega)).mono ?_
  rintro e w2 ⟨rfl, n2, rfl⟩
  go_wp2_with (go_at_call 244; refine (escape_go g (some ⟨b, o, none⟩) cap bs i _ B _ (Hr.out.drewN (n1 + n2)) (HA.out.drewN (n1 + n2)) hB h).mono ?_; rintro e w3 hp; unfold EscPost at hp; rw [He.out] at hp; obtain ⟨hg3, rfl, hr3⟩ := hp)
  go_light
  go_ret
  exact CharPost.yes (only_trans (only_drewN (only_refl _ _) _) hg3) (charS_esc h Hc.out He.out) rfl hr3
theorem char_special (g : Nat) (A : Option Addr) (cap : Nat) (bs : List Nat) (i s : Nat) (B : Nat) (w : World) (hr : Rd w g A cap bs (i : Int) (s : Int) 0 0) (hA : BytesAt w B A bs) (hB : B ≤ g) (h : i < bs.length) (hc : byteAt bs i ≠ 92) (hs : isSpecial (byteAt bs i) = true) : Calls Tryz.prog 258 #[.pointer (some ⟨g, 0, none⟩)] w (CharPost g A cap bs i s w) := by
 obtain ⟨c0, c1, c2, c3, c4, f1, f3, f4⟩ := hr.cells
 have Hr := Lib.hid hr
 have HA := Lib.hid hA
 have Hl := Lib.hid hA.2.1
 have hl := hA.2.1
 have hz : ((bs.length : Int) - (i : Int) == 0) = false := by simp; omega
 have hp0 : (0 : Int) ≤ (i : Int) := by omega
 have hp1 : (i : Int) < (bs.length : Int) := by omega
 have hbt := byteAt_lt hA.1 i
 have hat := hasAt_in (bs := bs) 92 h
 obtain ⟨b, o, rfl, hbB, hcell⟩ := hA.2.2 (by omega)
 have hx := hcell i (by omega)
 have hbg : b ≠ g := by omega
 obtain ⟨c, hk⟩ : ∃ c, byteAt bs i = c := ⟨_, rfl⟩
 rw [hk] at hx hbt hat
 have Hk := Lib.hid hk
 rw [hk] at hs
 have hb : hasAt bs (i : Int) 92 = false := by rw [hat]; simp; omega
 have Hc := Lib.hid hc
 clear hr hA hcell hk hat hc
 go_enter Tryz.func258, Tryz.ntmps258
 go_wp2_with fail
 with_reducible refine (left_go g (some ⟨b, o, none⟩) cap bs _ _ 0 0 _ Hr.out Hl.out (by omega) (by omega)).mono ?_
 rintro e w1 ⟨rfl, n1, rfl⟩
 go_wp2_with fail
 with_reducible refine (here_go g (some ⟨b, o, none⟩) cap bs (i : Int) _ _ _ _ B _ (Hr.out.drewN n1) (HA.out.drewN n1) (by omega) (by omega)).mono ?_
 rintro e w2 ⟨rfl, n2, rfl⟩
 go_wp2
 go_quiet ((go_at_call 252; exact quiet_add_left (special_is c true _ hbt hs)))
 go_wp2_with (go_at_call 255; refine (fail0_go g (some ⟨b, o, none⟩) cap bs _ _ 0 _ _ _ (Hr.out.drewN _)).mono ?_; rintro e w2 ⟨rfl, hr2, hg2⟩)
 go_light
 go_ret
 exact CharPost.no 0 i (only_trans (only_drewN (only_refl _ _) _) hg2) (charS_special h Hc.out (by rw [Hk.out]; exact hs)) (by decide) (by decide) rfl hr2
theorem char_self (g : Nat) (A : Option Addr) (cap : Nat) (bs : List Nat) (i s : Nat) (B : Nat) (w : World) (hr : Rd w g A cap bs (i : Int) (s : Int) 0 0) (hA : BytesAt w B A bs) (hB : B ≤ g) (h : i < bs.length) (hc : byteAt bs i ≠ 92) (hs : isSpecial (byteAt bs i) = false) : Calls Tryz.prog 258 #[.pointer (some ⟨g, 0, none⟩)] w (CharPost g A cap bs i s w) := by
 obtain ⟨c0, c1, c2, c3, c4, f1, f3, f4⟩ := hr.cells
 have Hr := Lib.hid hr
 have HA := Lib.hid hA
 have Hl := Lib.hid hA.2.1
 have hl := hA.2.1
 have hz : ((bs.length : Int) - (i : Int) == 0) = false := by simp; omega
 have hp0 : (0 : Int) ≤ (i : Int) := by omega
 have hp1 : (i : Int) < (bs.length : Int) := by omega
 have hbt := byteAt_lt hA.1 i
 have hat := hasAt_in (bs := bs) 92 h
 obtain ⟨b, o, rfl, hbB, hcell⟩ := hA.2.2 (by omega)
 have hx := hcell i (by omega)
 have hbg : b ≠ g := by omega
 obtain ⟨c, hk⟩ : ∃ c, byteAt bs i = c := ⟨_, rfl⟩
 rw [hk] at hx hbt hat
 have Hk := Lib.hid hk
 rw [hk] at hs
 have hb : hasAt bs (i : Int) 92 = false := by rw [hat]; simp; omega
 have Hc := Lib.hid hc
 clear hr hA hcell hk hat hc
 go_enter Tryz.func258, Tryz.ntmps258
 go_wp2_with fail
 with_reducible refine (left_go g (some ⟨b, o, none⟩) cap bs _ _ 0 0 _ Hr.out Hl.out (by omega) (by omega)).mono ?_
 rintro e w1 ⟨rfl, n1, rfl⟩
 go_wp2_with fail
 with_reducible refine (here_go g (some ⟨b, o, none⟩) cap bs (i : Int) _ _ _ _ B _ (Hr.out.drewN n1) (HA.out.drewN n1) (by omega) (by omega)).mono ?_
 rintro e w2 ⟨rfl, n2, rfl⟩
 go_wp2
 go_quiet ((go_at_call 252; exact quiet_add_left (special_is c false _ hbt hs)))
 go_wp2_with fail
 go_quiet (fail)
 go_wp2
 go_light
 go_ret
 exact CharPost.yes (only_drewN (only_set (only_drewN (only_refl _ _) _) _ _) _) (charS_self h Hc.out (by rw [Hk.out]; exact hs)) (by rw [Hk.out]; rfl) ((Hr.out.drewN _).move _)
theorem char_go (g : Nat) (A : Option Addr) (cap : Nat) (bs : List Nat) (i s : Nat) (B : Nat) (w : World) (hr : Rd w g A cap bs (i : Int) (s : Int) 0 0) (hA : BytesAt w B A bs) (hB : B ≤ g) (hi : i ≤ bs.length) : Calls Tryz.prog 258 #[.pointer (some ⟨g, 0, none⟩)] w (CharPost g A cap bs i s w) := by
 by_cases h0 : bs.length = i
 ·exact char_end g A cap bs i s B w hr hA hB h0
 by_cases h1 : byteAt bs i = 92
 ·exact char_esc g A cap bs i s B w hr hA hB (by omega) h1
 cases h2 : isSpecial (byteAt bs i)
 ·exact char_self g A cap bs i s B w hr hA hB (by omega) h1 h2
 ·exact char_special g A cap bs i s B w hr hA hB (by omega) h1 h2
end
section
open Go.RowKit Go.Shelf
attribute [local go_sem] Oper.semAt_some
theorem room_of_none {F : Fence} (hd : F.depth = none) (k : Nat) : F.room k := fun d h => by rw [hd] at h; cases h
theorem roundIn_any {F : Fence} (hd : F.depth = none) {m m' : Nat} {P : Program} {l : Nat} {f : FuncId} {tmps : Array Value} {assign body : Code} {w : World} {R : Ending → World → Prop}
  (h : RoundIn F m P l f tmps assign body w R) : RoundIn F m' P l f tmps assign body w R := ⟨h.1, fun c cs _ => h.2 c cs (room_of_none hd _)⟩
theorem yieldAt_any {F : Fence} (hd : F.depth = none) {m : Nat} (m' : Nat) {P : Program} {l : Nat} {args : Array Value} {W : World} {R : Ending → World → Prop} (h : YieldAt F m P l args W R) : YieldAt F m' P l args W R := by
 obtain ⟨fn, tmps, assign, body, hy, hR⟩ := h
 exact ⟨fn, tmps, assign, body, hy, roundIn_any hd hR⟩
abbrev Item := { q : Nd × Option Addr × Nat // Alone q.1 }
def Kc (Bn : Nat) (A B : World) : Prop := A.heap.size ≤ B.heap.size ∧ ∀ (p : Addr) (v : Value), p.block ≠ Bn → A.cell? p = some v → B.cell? p = some v
theorem Kc.trans {Bn : Nat} {A B C : World} (h : Kc Bn A B) (k : Kc Bn B C) : Kc Bn A C := ⟨Nat.le_trans h.1 k.1, fun p v hp hc => k.2 p v hp (h.2 p v hp hc)⟩
theorem Kc.below {Bn : Nat} {A B : World} (h : Below A.heap.size A B) : Kc Bn A B := ⟨h.size, fun p v _ hc => (h.cell (World.block_lt_of_cell? A _ hc)).trans hc⟩
theorem Kc.trees {Bn : Nat} {w w' : World} (hk : Kc Bn w w') {P : Nat → Prop} (hP : ∀ b, P b → b ≠ Bn) : ∀ {F : Trees} {A : Option Addr}, TreesAt w P F A → TreesAt w' P F A
 | .nil, _, _ => trivial
 | .cons k s ks lo hi r, A, ⟨b, o, B, cap, hA, hb, hc, ⟨n0, n1, n2, n3, n4, n5, n6, n7⟩, h1, h2⟩ =>
  ⟨b, o, B, cap, hA, hb, hc, ⟨hk.2 _ _ (hP b hb) n0, hk.2 _ _ (hP b hb) n1, hk.2 _ _ (hP b hb) n2, hk.2 _ _ (hP b hb) n3, hk.2 _ _ (hP b hb) n4, hk.2 _ _ (hP b hb) n5, hk.2 _ _ (hP b hb) n6, hk.2 _ _ (hP b hb) n7⟩, Kc.trees hk hP h1, Kc.trees hk hP h2⟩
section
variable {l Bn N : Nat} {P : Nat → Prop} {J Jx : List Item → World → Prop}
end
theorem nodes_go (x : Nd) (B : Option Addr) (cap : Nat) (w : World) :
  Calls Tryz.prog 59 #[ndV x B cap] w fun e w' => e = .returned (.func (.func 116) #[] #[.pointer (some ⟨w.heap.size, 0, none⟩)]) ∧ w' = w.alloc (.cells (ndA x B cap) 28) := by
 unfold ndV
 go_enter Tryz.func59, Tryz.ntmps59
 go_wp2
 go_light
 go_ret
 exact ⟨rfl, rfl⟩
attribute [local go_sem] Oper.semAt_some
abbrev ItemX := Nd × Option Addr × Nat
def itemX (q : ItemX) : Array Value := #[ndV q.1 q.2.1 q.2.2]
def Trees.nodes : Trees → List Nd
 | .nil => []
 | .cons k s ks lo hi r => ⟨k, s, ks, lo, hi⟩ :: (ks.nodes ++ r.nodes)
def Nd.nodes (x : Nd) : List Nd := x :: x.kids.nodes
theorem Trees.nodes_len : ∀ F : Trees, F.nodes.length = F.size
 | .nil => rfl
 | .cons k s ks lo hi r => by
  have h1 := Trees.nodes_len ks
  have h2 := Trees.nodes_len r
  simp [Trees.nodes, Trees.size, h1, h2]
  omega
theorem Nd.nodes_len (x : Nd) : x.nodes.length = x.size := by
 unfold Nd.nodes Nd.size
 rw [List.length_cons, Trees.nodes_len]
 omega
def Trees.upto : Trees → Nat → List Nd
 | .nil, _ => []
 | .cons _ _ _ _ _ _, 0 => []
 | .cons k s ks lo hi r, i + 1 => ⟨k, s, ks, lo, hi⟩ :: (ks.nodes ++ r.upto i)
theorem Trees.upto_zero (F : Trees) : F.upto 0 = [] := by cases F <;> rfl
theorem Trees.upto_succ : ∀ {F : Trees} {i : Nat} {z : Nd}, F.list[i]? = some z → F.upto (i + 1) = F.upto i ++ z.nodes
 | .nil, i, z, h => by simp [Trees.list] at h
 | .cons k s ks lo hi r, 0, z, h => by
  simp [Trees.list] at h
  subst h
  simp [Trees.upto, Trees.upto_zero, Nd.nodes]
 | .cons k s ks lo hi r, i + 1, z, h => by
  have := Trees.upto_succ (F := r) (i := i) (by simpa [Trees.list] using h)
  simp only [Trees.upto] at this ⊢
  rw [this]
  simp
theorem Trees.upto_prefix : ∀ (F : Trees) (i : Nat), F.upto i <+: F.nodes
 | .nil, i => List.prefix_refl _
 | .cons k s ks lo hi r, 0 => List.nil_prefix
 | .cons k s ks lo hi r, i + 1 => by
  have := Trees.upto_prefix r i
  obtain ⟨t, ht⟩ := this
  exact ⟨t, by simp [Trees.upto, Trees.nodes, ← ht]⟩
theorem Trees.upto_all : ∀ (F : Trees), F.upto F.len = F.nodes
 | .nil => rfl
 | .cons k s ks lo hi r => by
  have := Trees.upto_all r
  simp [Trees.upto, Trees.nodes, Trees.len, this]
section
variable {l Bn N : Nat} {P : Nat → Prop} {J Jx : List ItemX → World → Prop}
def WalkX (l Bn N : Nat) (P : Nat → Prop) (J Jx : List ItemX → World → Prop) (n : Nat) : Prop := ∀ (m : Nat) (x : Nd) (B : Option Addr) (cap : Nat) (pre : List ItemX) (W : World), x.size ≤ n → Bn < W.heap.size → TreesAt W P x.kids B → J pre W → pre.length + x.size ≤ N →
 CallsIn Fence.wide m Tryz.prog 117 #[ndV x B cap, .func (.yield l) #[] #[]] W fun e W' =>
  (e = .returned (.bool true) ∧ (∃ ys : List ItemX, ys.map (·.1) = pre.map (·.1) ++ x.nodes ∧ J ys W') ∧ Kc Bn W W') ∨ (e = .returned (.bool false) ∧ ∃ q : List ItemX, q.map (·.1) <+: pre.map (·.1) ++ x.nodes ∧ Jx q W')
theorem walkx_step (hP : ∀ b, P b → b ≠ Bn) (hN : N ≤ 4611686018427387903) (hJ : ∀ s W o, J s W → J s (World.alloc W o))
  (hY : ∀ m pre (x : ItemX) W, J pre W → pre.length < N → YieldAt Fence.wide m Tryz.prog l (itemX x) W fun e W' =>
   (e = .returned (.bool true) ∧ J (pre ++ [x]) W' ∧ Kc Bn W W') ∨ (e = .returned (.bool false) ∧ Jx (pre ++ [x]) W'))
  {n : Nat} (ih : WalkX l Bn N P J Jx n) : WalkX l Bn N P J Jx (n + 1) := by
 intro m x B cap pre W hsz hBn ht h0 hlen
 have hx1 : 1 ≤ x.size := by unfold Nd.size; omega
 have hxs : x.size = 1 + x.kids.size := rfl
 have hk0 := Trees.len_size x.kids
 have hlk : x.kids.len ≤ 4611686018427387903 := by omega
 have HA := Lib.hid (show Kc Bn W (W.alloc (.cells (ndA x B cap) 28)) from Kc.below ((Below.refl _ _).alloc (Nat.le_refl _) _))
 have HK := Lib.hid (Blk.new W 28 (ndA x B cap))
 obtain ⟨fn, tmps, assign, body, hy, hR⟩ := hY (m - 1) pre (x, B, cap) (W.alloc (.cells (ndA x B cap) 28)) (hJ _ _ _ h0) (by omega)
 have HR := Lib.hid hR
 have HT := Lib.hid ht
 have hne : W.heap.size ≠ Bn := by omega
 clear hR ht
 unfold itemX at hy
 dsimp only at hy
 unfold ndV ndA at hy
 unfold ndV
 refine callsIn_of_wp Tryz.func117 rfl trivial ?_ rfl
 simp only [Tryz.ntmps117, List.size_toArray, List.length_cons, List.length_nil, Nat.reduceAdd, Nat.reduceSub, Array.replicate_succ, Array.replicate_zero, List.push_toArray, List.append_toArray, List.nil_append, List.cons_append]
 have hdd : ∀ k : Nat, (Fence.wide.depth.isSome = true → 1 ≤ k) := fun k h => by cases h
 gi_wp2
 refine ⟨hdd _, HR.out.mono ?_⟩
 rintro e W3 (⟨rfl, hJ3, hk3⟩ | ⟨rfl, hJx3⟩)
 ·have hK3 := HA.out.trans hk3
  have c5 : W3.cell? ⟨W.heap.size, 5, none⟩ = some (.slice B x.kids.len cap) := hk3.2 ⟨W.heap.size, 5, none⟩ _ hne (HK.out.cell 5)
  have HJ3 := Lib.hid hJ3
  have HK3 := Lib.hid hK3
  clear hJ3 hk3 hK3 HR hy HA HK
  gi_wp2
  gi_loopw [14] (fun v wr => ∃ k : Nat, v = .int .i64 (k : Int) ∧ k ≤ x.kids.len ∧ Hid ((∃ ys : List ItemX, ys.map (·.1) = pre.map (·.1) ++ x :: x.kids.upto k ∧ J ys wr) ∧ Kc Bn W wr)) (fun v _ => x.kids.len - (intOf v).toNat)
  case atStart => exact ⟨0, rfl, Nat.zero_le _, Lib.hid ⟨⟨_, by rw [Trees.upto_zero]; simp, HJ3.out⟩, HK3.out⟩⟩
  case round =>
   obtain ⟨k, rfl, hk, HI⟩ := hrel
   clear HJ3 HK3
   by_cases hlt : k < x.kids.len
   ·obtain ⟨z, hz⟩ : ∃ z, x.kids.list[k]? = some z := ⟨_, List.getElem?_eq_getElem (by rw [Trees.len_list]; exact hlt)⟩
    have hzs := Trees.size_get x.kids k z hz
    obtain ⟨⟨ys, hys, hJy⟩, hKy⟩ := HI.out
    obtain ⟨b, o, C, capc, rfl, _, _, ⟨c0, c1, c2, c3, c4, c5, c6, c7⟩, hkz⟩ := (Kc.trees hKy hP HT.out).get hz
    have hf1 := Trees.upto_succ hz
    have hf2 := (Trees.upto_prefix x.kids (k + 1)).length_le
    rw [Trees.nodes_len, hf1, List.length_append, Nd.nodes_len] at hf2
    have hyl := congrArg List.length hys
    simp only [List.length_map, List.length_append, List.length_cons] at hyl
    have hdl : (k : Int) < (x.kids.len : Int) := by omega
    have hkA : Kc Bn wr (wr.alloc (.cells (ndA z C capc) 28)) := Kc.below ((Below.refl _ _).alloc (Nat.le_refl _) _)
    have HC := Lib.hid (ih (m - 1) z C capc ys (wr.alloc (.cells (ndA z C capc) 28)) (by omega) (by have := hKy.1; simp; omega) (Kc.trees hkA hP hkz) (hJ _ _ _ hJy) (by omega))
    have HKy := Lib.hid (hKy.trans hkA)
    have HF := Lib.hid (show ys.map (·.1) ++ z.nodes = pre.map (·.1) ++ x :: x.kids.upto (k + 1) by rw [hys, hf1]; simp)
    clear hyl
    clear hz hzs hys hJy hKy hkz hf1 hf2 hkA HI
    unfold ndV at HC
    gi_wp2
    refine ⟨trivial, hdd _, HC.out.mono ?_⟩
    clear HC
    rintro e W4 (⟨rfl, ⟨ys4, hl4, hJ4⟩, hk4⟩ | ⟨rfl, q, hqp, hq⟩)
    ·have HI4 := Lib.hid (show (∃ ys : List ItemX, ys.map (·.1) = pre.map (·.1) ++ x :: x.kids.upto (k + 1) ∧ J ys W4) ∧ Kc Bn W W4 from ⟨⟨ys4, hl4.trans HF.out, hJ4⟩, HKy.out.trans hk4⟩)
     clear hl4 hJ4 hk4 HF HKy c0 c1 c2 c3 c4 c5 c6 c7
     dsimp only
     gi_wp2
     go_roundw
     case rel => exact ⟨k + 1, by go_num, by omega, HI4⟩
     case measure => simp [intOf]; omega
    ·have HQ := Lib.hid (show q.map (·.1) <+: pre.map (·.1) ++ x.nodes ∧ Jx q W4 from ⟨by
      rw [HF.out] at hqp
      exact hqp.trans (by unfold Nd.nodes; exact (List.prefix_append_right_inj _).2 (List.cons_prefix_cons.2 ⟨rfl, Trees.upto_prefix _ _⟩)), hq⟩)
     clear hq hqp HF HKy c0 c1 c2 c3 c4 c5 c6 c7
     dsimp only
     gi_wp2
     go_ret
     exact .inr ⟨rfl, q, HQ.out⟩
   ·have hdl : ¬ (k : Int) < (x.kids.len : Int) := by omega
    obtain rfl : k = x.kids.len := by omega
    obtain ⟨⟨ys, hys, hJy⟩, hKy⟩ := HI.out
    have HY := Lib.hid (show (∃ ys : List ItemX, ys.map (·.1) = pre.map (·.1) ++ x.nodes ∧ J ys wr) ∧ Kc Bn W wr from ⟨⟨ys, by rw [hys, Trees.upto_all]; rfl, hJy⟩, hKy⟩)
    clear hys hJy hKy HI
    gi_wp2
    go_ret
    exact .inl ⟨rfl, HY.out.1, HY.out.2⟩
 ·gi_wp2
  go_ret
  exact .inr ⟨rfl, _, by unfold Nd.nodes; simp, hJx3⟩
theorem walkx_all (hP : ∀ b, P b → b ≠ Bn) (hN : N ≤ 4611686018427387903) (hJ : ∀ s W o, J s W → J s (World.alloc W o))
  (hY : ∀ m pre (x : ItemX) W, J pre W → pre.length < N → YieldAt Fence.wide m Tryz.prog l (itemX x) W fun e W' =>
   (e = .returned (.bool true) ∧ J (pre ++ [x]) W' ∧ Kc Bn W W') ∨ (e = .returned (.bool false) ∧ Jx (pre ++ [x]) W')) : ∀ n, WalkX l Bn N P J Jx n
 | 0 => fun m x B cap pre W h => by unfold Nd.size at h; omega
 | n + 1 => walkx_step hP hN hJ hY (walkx_all hP hN hJ hY n)
end
theorem nodesx1_in (n : Nat) (x : Nd) (B : Option Addr) (cap : Nat) (l Bs Bn : Nat) (P : Nat → Prop) (hP : ∀ b, P b → b ≠ Bn) (hsz : x.size ≤ 4611686018427387903) (J Jx : List ItemX → World → Prop) (hJ : ∀ s W o, J s W → J s (World.alloc W o))
  (hY : ∀ pre (y : ItemX) W, J pre W → pre.length < x.size → YieldAt Fence.wide (n - 1) Tryz.prog l (itemX y) W fun e W' =>
   (e = .returned (.bool true) ∧ J (pre ++ [y]) W' ∧ Kc Bn W W') ∨ (e = .returned (.bool false) ∧ Jx (pre ++ [y]) W'))
  (W : World) (hb : Blk W Bs 28 (ndA x B cap)) (hBn : Bn < W.heap.size) (ht : TreesAt W P x.kids B) (h0 : J [] W) :
  CallsIn Fence.wide n Tryz.prog 116 #[.func (.yield l) #[] #[], .pointer (some ⟨Bs, 0, none⟩)] W fun e W' => (∃ v, e = .returned v) ∧
   ((∃ ys : List ItemX, ys.map (·.1) = x.nodes ∧ J ys W') ∨ (∃ pre : List ItemX, pre.map (·.1) <+: x.nodes ∧ Jx pre W')) := by
 have HC := Lib.hid (walkx_all (N := x.size) hP hsz hJ (fun m pre x W hj hl => yieldAt_any rfl m (hY pre x W hj hl)) x.size (n - 1) x B cap [] W (Nat.le_refl _) hBn ht h0 (by simp))
 have c0 : W.cell? ⟨Bs, 0, none⟩ = some (.int .i64 x.kind) := hb.cell 0
 have c1 : W.cell? ⟨Bs, 1, none⟩ = some (.int .u64 (word x.set.testBit 0)) := hb.cell 1
 have c2 : W.cell? ⟨Bs, 2, none⟩ = some (.int .u64 (word x.set.testBit 1)) := hb.cell 2
 have c3 : W.cell? ⟨Bs, 3, none⟩ = some (.int .u64 (word x.set.testBit 2)) := hb.cell 3
 have c4 : W.cell? ⟨Bs, 4, none⟩ = some (.int .u64 (word x.set.testBit 3)) := hb.cell 4
 have c5 : W.cell? ⟨Bs, 5, none⟩ = some (.slice B x.kids.len cap) := hb.cell 5
 have c6 : W.cell? ⟨Bs, 6, none⟩ = some (.int .i64 x.lo) := hb.cell 6
 have c7 : W.cell? ⟨Bs, 7, none⟩ = some (.int .i64 x.hi) := hb.cell 7
 have hdd : ∀ k : Nat, (Fence.wide.depth.isSome = true → 1 ≤ k) := fun k h => by cases h
 clear hb ht h0 hY hsz
 refine callsIn_of_wp Tryz.func116 rfl trivial ?_ rfl
 simp only [Tryz.ntmps116, List.size_toArray, List.length_cons, List.length_nil, Nat.reduceAdd, Nat.reduceSub, Array.replicate_succ, Array.replicate_zero, List.push_toArray, List.append_toArray, List.nil_append, List.cons_append]
 gi_wp2
 refine ⟨trivial, hdd _, HC.out.mono ?_⟩
 rintro e W1 (⟨rfl, ⟨ys, hys, hJ1⟩, _⟩ | ⟨rfl, q, hqp, hq⟩)
 ·dsimp only
  gi_wp2
  go_end0
  exact ⟨⟨_, rfl⟩, .inl ⟨ys, by simpa using hys, hJ1⟩⟩
 ·dsimp only
  gi_wp2
  go_end0
  exact ⟨⟨_, rfl⟩, .inr ⟨q, by simpa using hqp, hq⟩⟩
theorem nodesx_stops (n : Nat) (x : Nd) (B : Option Addr) (cap : Nat) (Bs Bn : Nat) (P : Nat → Prop) (w : World) (hP : ∀ b, P b → b ≠ Bn) (hsz : x.size ≤ 4611686018427387903) (hb : Blk w Bs 28 (ndA x B cap)) (hBn : Bn < w.heap.size) (ht : TreesAt w P x.kids B) :
  SeqStopsK Fence.wide n Tryz.prog 116 #[.pointer (some ⟨Bs, 0, none⟩)] itemX (Kc Bn) (fun ys => ys.map (·.1) = x.nodes) (fun pre => pre.map (·.1) <+: x.nodes) x.size w := fun l J Jx W hW hJ _ hY h0 =>
 nodesx1_in n x B cap l Bs Bn P hP hsz J Jx (fun s W o h => hJ s W _ none h (World.grownBy_alloc W o none) (fun r e => by cases e)) hY W (hb.below hW hb.lt) (by have := hW.size; omega) (ht.below hW) h0
attribute [local go_sem] Oper.semAt_some
theorem Kc.put {Bn : Nat} (W : World) (l : Nat) (o o' : Obj) (h : W.heap[l]? = some o) (hc : o.isCells = false) : Kc Bn W (W.putObj l o') :=
 ⟨(grownBy_putObj' W l o').size, fun p v _ hv => cell_kept hv (grownBy_putObj' W l o') (fun r e => by cases e; exact ⟨o, h, hc⟩)⟩
theorem Kc.setCell {Bn : Nat} (W : World) (v : Value) : Kc Bn W (W.setCell ⟨Bn, 0, none⟩ v) :=
 ⟨by simp, fun p u hp hu => (World.cell?_of_block (Below.heap_setCell W ⟨Bn, 0, none⟩ v p.block hp)).trans hu⟩
theorem keepsFrom_below {B : Nat} {W W' : World} (h : Below W.heap.size W W') : KeepsFrom B W W' :=
 ⟨h.size, fun k o _ hk _ => (h.block k (Array.getElem?_eq_some_iff.1 hk).1).trans hk⟩
theorem ret_boolc {fn : Func} {t : Tmp} (h : fn.results = #[.cell t 4]) {tmps : Array Value} {w : World} {g : Nat} {b : Bool}
  (hp : tmps.getD t undef = .pointer (some ⟨g, 0, none⟩)) (hc : w.cell? ⟨g, 0, none⟩ = some (.bool b)) :
  (results fn tmps).run Tryz.prog w = .ok (.bool b) w := by
 have hp' : tmps[t]?.getD undef = .pointer (some ⟨g, 0, none⟩) := by simpa using hp
 simp [results, h, hp', asAddr, go_sem, hc]
end
section
open Go.RowKit
def isSign (c : Nat) : Bool := [92, 40, 41, 91, 93, 123, 125, 124, 42, 43, 63, 46].contains c
def litS (c : Nat) : List Nat := if isSign c = true then [92, c] else if c = 94 ∨ c = 45 then [c] else chrS c
theorem litS_chr {c : Nat} (h : isSign c = false) (h2 : ¬ (c = 94 ∨ c = 45)) : litS c = chrS c := by unfold litS; rw [h, if_neg h2]; rfl
theorem litS_len (c : Nat) : (litS c).length ≤ 4 := by unfold litS; have := chrS_len c; split <;> (try split) <;> simp_all
@[go_sem] theorem run_str1 (w : World) (c : Nat) : (convert 29 9 (.slice (some ⟨w.heap.size, 0, none⟩) 1 1)).run Tryz.prog (w.alloc (.cells #[.int .u8 (c : Int)] 5)) =
  .ok (.string (strOf [c])) (w.alloc (.cells #[.int .u8 (c : Int)] 5)) :=
 run_str _ ⟨w.heap.size, 0, none⟩ 1 [c] (fun j u hu => by
  have hb := Blk.new w 5 #[.int .u8 (c : Int)]
  match j, hu with
  | 0, hu => simp at hu; subst hu; exact hb.cell 0
  | j + 1, hu => simp at hu)
theorem lit_go (c : Nat) (w : World) (hc : c < 256) :
  Calls Tryz.prog 208 #[.int .u8 (c : Int)] w fun e w' => e = .returned (.string (strOf (litS c))) ∧ Below w.heap.size w w' := by
 by_cases e92 : c = 92
 ·have HV : Hid (litS c = [92, c]) := by subst e92; rfl
  have b : ((c : Int) == 92) = true := by simp; omega
  rw [HV.out]
  clear e92
  go_enter Tryz.func208, Tryz.ntmps208
  go_wp2
  go_light
  go_ret
  exact ⟨rfl, (Below.refl w.heap.size w).alloc (Nat.le_refl _) _⟩
 have b92 : ((c : Int) == 92) = false := by simp; omega
 by_cases e40 : c = 40
 ·have HV : Hid (litS c = [92, c]) := by subst e40; rfl
  have b : ((c : Int) == 40) = true := by simp; omega
  rw [HV.out]
  clear e40
  go_enter Tryz.func208, Tryz.ntmps208
  go_wp2
  go_light
  go_ret
  exact ⟨rfl, (Below.refl w.heap.size w).alloc (Nat.le_refl _) _⟩
 have b40 : ((c : Int) == 40) = false := by simp; omega
 by_cases e41 : c = 41
 ·have HV : Hid (litS c = [92, c]) := by subst e41; rfl
  have b : ((c : Int) == 41) = true := by simp; omega
  rw [HV.out]
  clear e41
  go_enter Tryz.func208, Tryz.ntmps208
  go_wp2
  go_light
  go_ret
  exact ⟨rfl, (Below.refl w.heap.size w).alloc (Nat.le_refl _) _⟩
 have b41 : ((c : Int) == 41) = false := by simp; omega
 by_cases e91 : c = 91
 ·have HV : Hid (litS c = [92, c]) := by subst e91; rfl
  have b : ((c : Int) == 91) = true := by simp; omega
  rw [HV.out]
  clear e91
  go_enter Tryz.func208, Tryz.ntmps208
  go_wp2
  go_light
  go_ret
  exact ⟨rfl, (Below.refl w.heap.size w).alloc (Nat.le_refl _) _⟩
 have b91 : ((c : Int) == 91) = false := by simp; omega
 by_cases e93 : c = 93
 ·have HV : Hid (litS c = [92, c]) := by subst e93; rfl
  have b : ((c : Int) == 93) = true := by simp; omega
  rw [HV.out]
  clear e93
  go_enter Tryz.func208, Tryz.ntmps208
  go_wp2
  go_light
  go_ret
  exact ⟨rfl, (Below.refl w.heap.size w).alloc (Nat.le_refl _) _⟩
 have b93 : ((c : Int) == 93) = false := by simp; omega
 by_cases e123 : c = 123
 ·have HV : Hid (litS c = [92, c]) := by subst e123; rfl
  have b : ((c : Int) == 123) = true := by simp; omega
  rw [HV.out]
  clear e123
  go_enter Tryz.func208, Tryz.ntmps208
  go_wp2
  go_light
  go_ret
  exact ⟨rfl, (Below.refl w.heap.size w).alloc (Nat.le_refl _) _⟩
 have b123 : ((c : Int) == 123) = false := by simp; omega
 by_cases e125 : c = 125
 ·have HV : Hid (litS c = [92, c]) := by subst e125; rfl
  have b : ((c : Int) == 125) = true := by simp; omega
  rw [HV.out]
  clear e125
  go_enter Tryz.func208, Tryz.ntmps208
  go_wp2
  go_light
  go_ret
  exact ⟨rfl, (Below.refl w.heap.size w).alloc (Nat.le_refl _) _⟩
 have b125 : ((c : Int) == 125) = false := by simp; omega
 by_cases e124 : c = 124
 ·have HV : Hid (litS c = [92, c]) := by subst e124; rfl
  have b : ((c : Int) == 124) = true := by simp; omega
  rw [HV.out]
  clear e124
  go_enter Tryz.func208, Tryz.ntmps208
  go_wp2
  go_light
  go_ret
  exact ⟨rfl, (Below.refl w.heap.size w).alloc (Nat.le_refl _) _⟩
 have b124 : ((c : Int) == 124) = false := by simp; omega
 by_cases e42 : c = 42
 ·have HV : Hid (litS c = [92, c]) := by subst e42; rfl
  have b : ((c : Int) == 42) = true := by simp; omega
  rw [HV.out]
  clear e42
  go_enter Tryz.func208, Tryz.ntmps208
  go_wp2
  go_light
  go_ret
  exact ⟨rfl, (Below.refl w.heap.size w).alloc (Nat.le_refl _) _⟩
 have b42 : ((c : Int) == 42) = false := by simp; omega
 by_cases e43 : c = 43
 ·have HV : Hid (litS c = [92, c]) := by subst e43; rfl
  have b : ((c : Int) == 43) = true := by simp; omega
  rw [HV.out]
  clear e43
  go_enter Tryz.func208, Tryz.ntmps208
  go_wp2
  go_light
  go_ret
  exact ⟨rfl, (Below.refl w.heap.size w).alloc (Nat.le_refl _) _⟩
 have b43 : ((c : Int) == 43) = false := by simp; omega
 by_cases e63 : c = 63
 ·have HV : Hid (litS c = [92, c]) := by subst e63; rfl
  have b : ((c : Int) == 63) = true := by simp; omega
  rw [HV.out]
  clear e63
  go_enter Tryz.func208, Tryz.ntmps208
  go_wp2
  go_light
  go_ret
  exact ⟨rfl, (Below.refl w.heap.size w).alloc (Nat.le_refl _) _⟩
 have b63 : ((c : Int) == 63) = false := by simp; omega
 by_cases e46 : c = 46
 ·have HV : Hid (litS c = [92, c]) := by subst e46; rfl
  have b : ((c : Int) == 46) = true := by simp; omega
  rw [HV.out]
  clear e46
  go_enter Tryz.func208, Tryz.ntmps208
  go_wp2
  go_light
  go_ret
  exact ⟨rfl, (Below.refl w.heap.size w).alloc (Nat.le_refl _) _⟩
 have b46 : ((c : Int) == 46) = false := by simp; omega
 by_cases e94 : c = 94
 ·have HV : Hid (litS c = [c]) := by subst e94; rfl
  have b : ((c : Int) == 94) = true := by simp; omega
  rw [HV.out]
  clear e94
  go_enter Tryz.func208, Tryz.ntmps208
  go_wp2
  go_light
  go_ret
  exact ⟨rfl, (Below.refl w.heap.size w).alloc (Nat.le_refl _) _⟩
 have b94 : ((c : Int) == 94) = false := by simp; omega
 by_cases e45 : c = 45
 ·have HV : Hid (litS c = [c]) := by subst e45; rfl
  have b : ((c : Int) == 45) = true := by simp; omega
  rw [HV.out]
  clear e45
  go_enter Tryz.func208, Tryz.ntmps208
  go_wp2
  go_light
  go_ret
  exact ⟨rfl, (Below.refl w.heap.size w).alloc (Nat.le_refl _) _⟩
 have b45 : ((c : Int) == 45) = false := by simp; omega
 have HV : Hid (litS c = chrS c) := Lib.hid (litS_chr (by simp [isSign]; omega) (by omega))
 rw [HV.out]
 clear e92 e40 e41 e91 e93 e123 e125 e124 e42 e43 e63 e46 e94 e45
 go_enter Tryz.func208, Tryz.ntmps208
 go_wp2_with fail
 refine (chr_go _ _ (by omega) (by omega)).mono ?_
 rintro e w2 ⟨rfl, hb2⟩
 rw [Int.toNat_natCast]
 go_wp2
 go_light
 go_ret
 exact ⟨rfl, hb2⟩
def LexRow (w : World) (v : Value) (L : List Lex) : Prop :=
 ∃ A cap, v = .slice A L.length cap ∧ ∀ k x, L[k]? = some x → ∃ g, A = some ⟨g, 0, none⟩ ∧
  w.cell? ⟨g, k * 8, none⟩ = some (.int .i64 x.kind) ∧ w.cell? ⟨g, k * 8 + 1, none⟩ = some (.int .i64 x.place) ∧
  w.cell? ⟨g, k * 8 + 2, none⟩ = some (.int .u64 (word x.set 0)) ∧ w.cell? ⟨g, k * 8 + 2 + 1, none⟩ = some (.int .u64 (word x.set 1)) ∧ w.cell? ⟨g, k * 8 + 2 + 2, none⟩ = some (.int .u64 (word x.set 2)) ∧ w.cell? ⟨g, k * 8 + 2 + 3, none⟩ = some (.int .u64 (word x.set 3)) ∧
  w.cell? ⟨g, k * 8 + 6, none⟩ = some (.int .i64 x.lo) ∧ w.cell? ⟨g, k * 8 + 7, none⟩ = some (.int .i64 x.hi)
theorem lexCells_at : ∀ (L : List Lex) (k : Nat) (x : Lex), L[k]? = some x → ∀ j, j < 8 → (lexCells L)[k * 8 + j]? = (lexCell x)[j]?
 | [], k, x, h, j, hj => by simp at h
 | y :: L, 0, x, h, j, hj => by
  have e : y = x := by simpa using h
  subst e
  have e2 : lexCells (y :: L) = lexCell y ++ lexCells L := by simp [lexCells]
  rw [e2, Nat.zero_mul, Nat.zero_add, List.getElem?_append_left (by simpa [lexCell] using hj)]
 | y :: L, k + 1, x, h, j, hj => by
  have e2 : lexCells (y :: L) = lexCell y ++ lexCells L := by simp [lexCells]
  have hl : (lexCell y).length = 8 := by simp [lexCell]
  rw [e2, List.getElem?_append_right (by omega), hl, show (k + 1) * 8 + j - 8 = k * 8 + j by omega]
  exact lexCells_at L k x (by simpa using h) j hj
theorem lexRow_of {w : World} {base : Nat} {v : Value} {L : List Lex} (h : w.ownsRow base 143 8 v L.length (lexCells L)) : LexRow w v L := by
 obtain ⟨A, cap, hv⟩ := own_slice h
 refine ⟨A, cap, hv, fun k x hx => ?_⟩
 have hpos : 0 < L.length := by
  have := (List.getElem?_eq_some_iff.mp hx).1
  omega
 obtain ⟨g, cap', hv', hbase, hg⟩ := own_form h hpos
 have hA : A = some ⟨g, 0, none⟩ := by rw [hv] at hv'; exact (Value.slice.inj hv').1
 have hc := h.cells (g := g) (by rw [hv']; rfl)
 have hat : ∀ j u, j < 8 → (lexCell x)[j]? = some u → w.cell? ⟨g, k * 8 + j, none⟩ = some u := fun j u hj hu => by
  have := hc (k * 8 + j) u ((lexCells_at L k x hx j hj).trans hu)
  have e : (⟨g, 0, none⟩ : Addr).add (k * 8 + j) = ⟨g, k * 8 + j, none⟩ := by
   rcases Nat.eq_zero_or_pos (k * 8 + j) with hz | hz
   ·rw [hz]; rfl
   ·have h1 : ¬ (k * 8 = 0 ∧ j = 0) := by omega
    simp [Addr.add, h1]
  exact e ▸ this
 exact ⟨g, hA, hat 0 _ (by decide) rfl, hat 1 _ (by decide) rfl, hat 2 _ (by decide) rfl, hat 3 _ (by decide) rfl, hat 4 _ (by decide) rfl, hat 5 _ (by decide) rfl, hat 6 _ (by decide) rfl, hat 7 _ (by decide) rfl⟩
end
end Go.Proofs.YtofbfafnpdaejaaGreatDoor
