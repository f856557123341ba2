/- Texts of the claim. -/
import Derived.Lib.AppendStr
import Derived.Test.YtfcblmbieiibmaaDoorJZ03
import Derived.Test.YtfcblmbieiibmaaDoorJZ02
import Derived.Test.YtfcblmbieiibmaaDoorJShow
import Derived.Test.YtfcblmbieiibmaaDoorJZ01
import Derived.Test.YtfcblmbieiibmaaDoorJSame
namespace Go.Proofs.YtfcblmbieiibmaaDoor
open Go.RowKit
set_option linter.unusedSimpArgs false
set_option linter.unusedVariables false
set_option maxRecDepth 100000
set_option maxHeartbeats 8000000
@[go_sem] theorem run_str1_next (w : World) (o : Obj) (c : Nat) : (convert 29 9 (.slice (some ⟨w.heap.size + 1, 0, none⟩) 1 1)).run Tryd.prog ((w.alloc o).alloc (.cells #[.int .u8 (c : Int)] 5)) =
  .ok (.string (strOf [c])) ((w.alloc o).alloc (.cells #[.int .u8 (c : Int)] 5)) := by
 have h := run_str1 (w.alloc o) c
 rw [World.size_alloc] at h
 exact h
end Go.Proofs.YtfcblmbieiibmaaDoor
namespace Go.Proofs.YtfcblmbieiibmaaDoor
set_option linter.unusedSimpArgs false
set_option linter.unusedVariables false
set_option maxRecDepth 100000
set_option maxHeartbeats 8000000
end Go.Proofs.YtfcblmbieiibmaaDoor
namespace Go.Proofs.YtfcblmbieiibmaaDoor
open Go.RowKit Go.Maps
set_option linter.unusedSimpArgs false
set_option linter.unusedVariables false
set_option maxRecDepth 100000
set_option maxHeartbeats 8000000
structure LayL (base gm : Nat) (a d : Value) (N : Nat) (xs : List Value) (x : Nd) (B : Option Addr) (cap : Nat) (w : World) (v : Value) (i j : Nat) (W : World) (kv v' : Value) (ys : List Value) : Prop where
 box : Blk W gm 78 #[v', a, d]
 row : W.ownsRow base 99 9 v' (N + 1 + (kidsTo x i).length) (xs ++ pcell x B x.kids.len cap none 0 0 ++ ys)
 parts : PartsL W base (fun b => w.heap.size ≤ b ∧ kv.ownBlock ≠ some b) (N + 1) (kidsTo x i) ys
 lay : LayM base gm w v W v'
 nums : W.ownsRow w.heap.size 3 1 kv j (intsC (kidNums (N + 1) (x.kids.list.take j)))
 here : Blk W w.heap.size 28 (ndA x B cap)
theorem lay_begin {base gm : Nat} {a d : Value} {N : Nat} {xs : List Value} {x : Nd} {B : Option Addr} {cap : Nat} {w : World} {v : Value} {W0 w1 : World} {o : Obj} {gg cap' : Nat} (hW0 : w.alloc (.cells (ndA x B cap) 28) = W0) (hbg : base ≤ gm) (hbw : base ≤ w.heap.size) (hgm : gm < w.heap.size) (hrow : w.ownsRow base 99 9 v N xs)
  (hown : w1.ownsRow base 99 9 (.slice (some ⟨gg, 0, none⟩) (N + 1) cap') (N + 1) (xs ++ pcell x B x.kids.len cap none 0 0)) (hgrow : (W0.alloc o).drew.grownBy w1 v.ownBlock) (hat : v.ownBlock = some gg ∨ gg = W0.heap.size + 1) (hbox : Blk w1 gm 78 #[v, a, d]) :
  LayL base gm a d N xs x B cap w v 0 0 (w1.setCell ⟨gm, 0, none⟩ (.slice (some ⟨gg, 0, none⟩) (N + 1) cap')) (.slice none 0 0) (.slice (some ⟨gg, 0, none⟩) (N + 1) cap') [] := by
 have hs0 : W0.heap.size = w.heap.size + 1 := by rw [← hW0]; simp
 have hne := blk_not_row hbox (by decide) hown
 have hsz : (W0.alloc o).drew.heap.size = w.heap.size + 2 := by rw [show (W0.alloc o).drew.heap.size = W0.heap.size + 1 by simp, hs0]
 have hkeep : ∀ j, j < w.heap.size → v.ownBlock ≠ some j → w1.heap[j]? = w.heap[j]? := fun j hj hn => by
  rw [hgrow.block j (by omega) (fun e => hn e.symm), ← hW0]
  exact (((Below.refl w.heap.size w).alloc (Nat.le_refl _) _).alloc (by simp) o).drew.block j hj
 have hb1 : Below base w w1 := by
  have h1 : Below base w (W0.alloc o).drew := by
   rw [← hW0]
   exact (((Below.refl base w).alloc hbw _).alloc (by simp; omega) o).drew
  exact h1.grown hgrow (by omega) (fun k hk => (hrow.lt k hk).1)
 have hvx : v.ownBlock ≠ some w.heap.size := fun e => by have := (hrow.lt _ e).2; omega
 have hX : Blk w1 w.heap.size 28 (ndA x B cap) := by
  have h1 : Blk W0 w.heap.size 28 (ndA x B cap) := by rw [← hW0]; exact Blk.new w _ _
  exact (Blk.alloc h1 o).drew.grown hgrow (fun e => hvx e.symm)
 refine ⟨hbox.set_ 0 _, ?_, rfl, ⟨hb1.setCell hbg _, fun j h1 h2 h3 => (Below.heap_setCell _ _ _ _ h2).trans (hkeep j h1 h3), fun j hj => ?_⟩, ⟨rfl, .inl ⟨rfl, rfl⟩⟩, (show (w1.setCell ⟨gm, 0, none⟩ _).heap[w.heap.size]? = _ from (Below.heap_setCell _ _ _ _ (by intro e; simp at e; omega)).trans hX)⟩
 ·have e : kidsTo x 0 = [] := by simp [kidsTo]
  rw [e, List.append_nil]
  exact own_set hown hne
 ·obtain rfl : gg = j := by simpa [Value.ownBlock] using hj
  rcases hat with h | h
  ·exact .inl h
  ·exact .inr (by omega)
theorem lay_called {base gm : Nat} {a d : Value} {N : Nat} {xs : List Value} {x : Nd} {B : Option Addr} {cap : Nat} {w : World} {v : Value} {W w' : World} {o : Obj} {kv v1 v2 : Value} {ys zs : List Value} {y : Nd} {j : Nat} (h : LayL base gm a d N xs x B cap w v j j W kv v1 ys) (hbw : base ≤ w.heap.size) (hgm : gm < w.heap.size) (hy : x.kids.list[j]? = some y)
  (hbox : Blk w' gm 78 #[v2, a, d]) (hown : w'.ownsRow base 99 9 v2 (N + 1 + (kidsTo x j).length + y.size) ((xs ++ pcell x B x.kids.len cap none 0 0 ++ ys) ++ zs))
  (hp : PartsL w' base (fun b => (W.alloc o).heap.size ≤ b) (N + 1 + (kidsTo x j).length) y.nodes zs) (hl : LayM base gm (W.alloc o) v1 w' v2) :
  LayL base gm a d N xs x B cap w v (j + 1) j w' kv v2 (ys ++ zs) := by
 have hsz := h.lay.below.size
 have hsa : (W.alloc o).heap.size = W.heap.size + 1 := by simp
 have hal : Below W.heap.size W (W.alloc o) := (Below.refl _ _).alloc (Nat.le_refl _) o
 have hkeep : ∀ b, b < W.heap.size → b ≠ gm → v1.ownBlock ≠ some b → w'.heap[b]? = W.heap[b]? := fun b h1 h2 h3 => (hl.kept b (by omega) h2 h3).trans (hal.block b h1)
 have hnk : ∀ b, kv.ownBlock = some b → b ≠ gm ∧ v1.ownBlock ≠ some b := fun b hb => ⟨fun e => by have := (h.nums.lt b hb).1; omega, rowsApart h.nums h.row (by decide) hb⟩
 refine ⟨hbox, ?_, ?_, (h.lay.below1 (by omega) hal).trans hl, rowB h.nums fun b hb => hkeep b (h.nums.lt b hb).2 (hnk b hb).1 (hnk b hb).2, (hkeep _ h.here.lt (by omega) (fun e => ?_)).trans h.here⟩
 ·rw [kidsTo_next hy, List.length_append, Nd.nodes_len, ← Nat.add_assoc, ← List.append_assoc]
  exact hown
 ·rw [kidsTo_next hy]
  refine PartsL.app (h.parts.keep (fun b cs h1 h2 h3 h4 => hkeep b h2 (fun e => ?_) (fun e => ?_)) (fun b _ hb => hb)) (hp.keep (fun _ _ _ _ _ _ => rfl) (fun b _ hb => ⟨by omega, fun e => by have := (h.nums.lt b e).2; omega⟩))
  ·subst e
   have := (show W.heap[b]? = _ from h.box).symm.trans h4
   simp at this
  ·rcases h.row.2 with ⟨e1, _⟩ | ⟨g, c, cur, e1, _, hg, _⟩
   ·rw [e1] at e
    simp [Value.ownBlock] at e
   ·rw [e1] at e
    obtain rfl : g = b := by simpa [Value.ownBlock] using e
    rw [h4] at hg
    simp at hg
 ·rcases h.row.2 with ⟨e1, _⟩ | ⟨g, c, cur, e1, _, hg, _⟩
  ·rw [e1] at e
   simp [Value.ownBlock] at e
  ·rw [e1] at e
   obtain rfl : g = w.heap.size := by simpa [Value.ownBlock] using e
   rw [show W.heap[w.heap.size]? = _ from h.here] at hg
   simp at hg
theorem lay_append {base gm : Nat} {a d : Value} {N : Nat} {xs : List Value} {x : Nd} {B : Option Addr} {cap : Nat} {w : World} {v : Value} {W w4 : World} {o : Obj} {kv v1 : Value} {ys : List Value} {y : Nd} {j gg cap' : Nat} (h : LayL base gm a d N xs x B cap w v (j + 1) j W kv v1 ys) (hbw : base ≤ w.heap.size) (hgm : gm < w.heap.size) (hy : x.kids.list[j]? = some y)
  (hown : w4.ownsRow w.heap.size 3 1 (.slice (some ⟨gg, 0, none⟩) (j + 1) cap') (j + 1) (intsC (kidNums (N + 1) (x.kids.list.take j)) ++ [.int .i64 ((N + 1 + (kidsTo x j).length : Nat) : Int)])) (hgrow : (W.alloc o).grownBy w4 kv.ownBlock) (hat : kv.ownBlock = some gg ∨ gg = W.heap.size + 1) :
  LayL base gm a d N xs x B cap w v (j + 1) (j + 1) w4 (.slice (some ⟨gg, 0, none⟩) (j + 1) cap') v1 ys := by
 have hsz := h.lay.below.size
 have hsa : (W.alloc o).heap.size = W.heap.size + 1 := by simp
 have hal : Below W.heap.size W (W.alloc o) := (Below.refl _ _).alloc (Nat.le_refl _) o
 have hkeep : ∀ b, b < W.heap.size → kv.ownBlock ≠ some b → w4.heap[b]? = W.heap[b]? := fun b h1 h2 => (hgrow.block b (by omega) (fun e => h2 e.symm)).trans (hal.block b h1)
 have hge : ∀ b, kv.ownBlock = some b → w.heap.size ≤ b := fun b hb => (h.nums.lt b hb).1
 have hnk : ∀ b, v1.ownBlock = some b → kv.ownBlock ≠ some b := fun b hb => rowsApart h.row h.nums (by decide) hb
 have hnX : kv.ownBlock ≠ some w.heap.size := fun e => by
  rcases h.nums.2 with ⟨e1, _⟩ | ⟨g, c, cur, e1, _, hg, _⟩
  ·rw [e1] at e
   simp [Value.ownBlock] at e
  ·rw [e1] at e
   obtain rfl : g = w.heap.size := by simpa [Value.ownBlock] using e
   rw [show W.heap[w.heap.size]? = _ from h.here] at hg
   simp at hg
 refine ⟨(hkeep gm (by omega) (fun e => by have := hge _ e; omega)).trans h.box, rowB h.row fun b hb => hkeep b (h.row.lt b hb).2 (hnk b hb), h.parts.keep (fun b cs h1 h2 h3 h4 => hkeep b h2 h3.2) (fun b h1 h2 => ⟨h2.1, fun e => ?_⟩), ?_, ?_, (hkeep _ h.here.lt hnX).trans h.here⟩
 ·refine ⟨(h.lay.below.trans (hal.mono (by omega))).grown hgrow (by omega) (fun k hk => by have := hge k hk; omega), fun b h1 h2 h3 => (hkeep b (by omega) (fun e => by have := hge b e; omega)).trans (h.lay.kept b h1 h2 h3), h.lay.lies⟩
 ·rw [kidNums_next hy]
  unfold intsC at hown ⊢
  rw [List.map_append]
  exact hown
 ·obtain rfl : gg = b := by simpa [Value.ownBlock] using e
  rcases hat with h3 | h3
  ·exact h2.2 h3
  ·omega
theorem lay_end {base gm : Nat} {a d : Value} {N : Nat} {xs : List Value} {x : Nd} {B : Option Addr} {cap : Nat} {w : World} {v : Value} {W : World} {A : Option Addr} {c2 c3 bp : Nat} {ys : List Value} (h : LayL base gm a d N xs x B cap w v x.kids.len x.kids.len W (.slice A x.kids.len c2) (.slice (some ⟨bp, 0, none⟩) (N + 1 + (kidsTo x x.kids.len).length) c3) ys) (hbw : base ≤ w.heap.size) (hgm : gm < w.heap.size) (hxl : xs.length = N * 9) (hsz : (kidsTo x x.kids.len).length + 1 = x.size) :
  Blk (W.setCell ⟨bp, N * 9 + 8, none⟩ (.slice A x.kids.len c2)) gm 78 #[.slice (some ⟨bp, 0, none⟩) (N + 1 + (kidsTo x x.kids.len).length) c3, a, d] ∧
  (W.setCell ⟨bp, N * 9 + 8, none⟩ (.slice A x.kids.len c2)).ownsRow base 99 9 (.slice (some ⟨bp, 0, none⟩) (N + 1 + (kidsTo x x.kids.len).length) c3) (N + x.size) (xs ++ (pcell x B x.kids.len cap A x.kids.len c2 ++ ys)) ∧
  PartsL (W.setCell ⟨bp, N * 9 + 8, none⟩ (.slice A x.kids.len c2)) base (fun b => w.heap.size ≤ b) N x.nodes (pcell x B x.kids.len cap A x.kids.len c2 ++ ys) ∧ LayM base gm w v (W.setCell ⟨bp, N * 9 + 8, none⟩ (.slice A x.kids.len c2)) (.slice (some ⟨bp, 0, none⟩) (N + 1 + (kidsTo x x.kids.len).length) c3) := by
 have hbp := h.row.lt bp rfl
 have hng : gm ≠ bp := fun e => by
  have := blk_not_row h.box (by decide) h.row
  rw [e] at this
  exact this rfl
 have hkeep : ∀ b, b ≠ bp → (W.setCell ⟨bp, N * 9 + 8, none⟩ (.slice A x.kids.len c2)).heap[b]? = W.heap[b]? := fun b hb => Below.heap_setCell _ _ _ _ hb
 have hnum : ∀ b, (Value.slice A x.kids.len c2).ownBlock = some b → b ≠ bp := fun b hb e => rowsApart h.nums h.row (by decide) hb (by rw [e]; rfl)
 refine ⟨(hkeep gm hng).trans h.box, ?_, ?_, ⟨h.lay.below.setCell hbp.1 _, fun j h1 h2 h3 => (hkeep j (fun e => ?_)).trans (h.lay.kept j h1 h2 h3), h.lay.lies⟩⟩
 ·have hst := (h.row.stored (N * 9 + 8) (.slice A x.kids.len c2)).1
  have he : (xs ++ pcell x B x.kids.len cap none 0 0 ++ ys).set (N * 9 + 8) (.slice A x.kids.len c2) = xs ++ (pcell x B x.kids.len cap A x.kids.len c2 ++ ys) := by
   rw [List.append_assoc, List.set_append_right _ _ (by omega), hxl, show N * 9 + 8 - N * 9 = 8 by omega]
   rfl
  rw [he] at hst
  rw [show N + x.size = N + 1 + (kidsTo x x.kids.len).length by omega]
  exact hst
 ·refine ⟨B, x.kids.len, cap, A, c2, ys, rfl, ?_, fun b hb => (h.nums.lt b hb).1, ?_⟩
  ·have hn := h.nums
   rw [← Trees.len_list, List.take_length, Trees.len_list] at hn
   exact rowB (hn.mono hbw) fun b hb => hkeep b (hnum b hb)
  ·rw [← kidsTo_all]
   refine h.parts.keep (fun b cs h1 h2 h3 h4 => hkeep b (fun e => ?_)) (fun b _ hb => hb.1)
   subst e
   rcases h.row.2 with ⟨e1, _⟩ | ⟨g, c, cur, e1, _, hg, _⟩
   ·cases e1
   ·simp at e1
    obtain ⟨rfl, _⟩ := e1
    rw [h4] at hg
    simp at hg
 ·subst e
  rcases h.lay.lies j rfl with h4 | h4
  ·exact h3 h4
  ·omega
theorem lay_step {x : Nd} (hK : ∀ y ∈ x.kids.list, LayP y) : LayP x := by
 intro B cap base gm a d v N xs w ht hcap hbox hrow hbg hbw hsz
 obtain ⟨i0, hi, hz0, hz1, hz2⟩ := info_parts info_part
 obtain ⟨j0, hj, hj0, hj1, hj2⟩ := info_parts info_intC
 obtain ⟨A0, c0, rfl, hc0⟩ := row_form hrow
 obtain ⟨W0, hW0⟩ : ∃ W0, w.alloc (.cells (ndA x B cap) 28) = W0 := ⟨_, rfl⟩
 have hal : Below w.heap.size w W0 := by rw [← hW0]; exact (Below.refl _ _).alloc (Nat.le_refl _) _
 have hs0 : W0.heap.size = w.heap.size + 1 := by rw [← hW0]; simp
 have hX : Blk W0 w.heap.size 28 (ndA x B cap) := by rw [← hW0]; exact Blk.new w _ _
 have hbox0 := hbox.below hal hbox.lt
 have hrow0 : W0.ownsRow base 99 9 (.slice A0 N c0) N xs := by rw [← hW0]; exact hrow.alloc _
 have hgm := hbox.lt
 have hneG := blk_not_row hbox0 (by decide) hrow0
 have hxl := hrow.1
 obtain ⟨x0, x1, x2, x3, x4, x5, x6, x7⟩ : _ ∧ _ ∧ _ ∧ _ ∧ _ ∧ _ ∧ _ ∧ _ := ⟨hX.cell 0, hX.cell 1, hX.cell 2, hX.cell 3, hX.cell 4, hX.cell 5, hX.cell 6, hX.cell 7⟩
 have g0 := hbox0.cell 0
 have f0 := hbox0.frozen 0
 unfold ndA at x0 x1 x2 x3 x4 x5 x6 x7 hW0
 simp only [List.getElem?_toArray, List.getElem?_cons_zero, List.getElem?_cons_succ] at x0 x1 x2 x3 x4 x5 x6 x7 g0
 have HX := Lib.hid hX
 have HG := Lib.hid hbox0
 have HR := Lib.hid hrow0
 have HNE := Lib.hid hneG
 have HT := Lib.hid ht
 have HK := Lib.hid hK
 have HB := Lib.hid (show base ≤ gm ∧ base ≤ w.heap.size ∧ gm < w.heap.size from ⟨hbg, hbw, hgm⟩)
 have HROW := Lib.hid hrow
 have HXL := Lib.hid hxl
 have HW0 := Lib.hid hW0
 have hlt0 : gm < W0.heap.size := by omega
 have hltx : w.heap.size < W0.heap.size := by omega
 have hb0 : base ≤ W0.heap.size := by omega
 have h63 : N + 1 ≤ maxLen := Nat.le_trans (by omega) (show 2000000 ≤ maxLen by decide)
 have hby : (N + 1) * 104 ≤ 140737488355328 := by unfold Nd.size at hsz; omega
 have HS0 := Lib.hid hs0
 clear hX hbox0 hrow0 hneG hK ht hrow hbox hal hxl hs0
 unfold ndV
 go_enter Tryd.func45, Tryd.ntmps45
 go_wp2
 go_region_law ((refine step_append_lies _ (by rfl) _ _ _ (by rfl) base 99 i0 _ 9 104 Tryd.underlying76 hi hz0 hz1 hz2 rfl (by decide) (.slice A0 N c0) N xs (by rfl) ((HR.out.alloc _).drew) ⟨W0.heap.size, 0, none⟩ 1 1 (pcell x B x.kids.len cap none 0 0) (by rfl) (by rfl) (World.news_of_block (cs := (pcell x B x.kids.len cap none 0 0).toArray) (t := 99) (fr := (0, 0)) (heap_alloc_new W0 _)) (by simp [pcell, Value.oneCell']) (by decide) h63 hby (by simp; omega) (W0.heap.size + 1) (by simp) ?_; intro gg cap' w3 hown1 hgrow hat hlt1; have hG1 := Blk.grown (Blk.drew (Blk.alloc HG.out _)) hgrow HNE.out; have c3 := hG1.cell 0; have d3 := hG1.frozen 0; have hg3 := hG1.lt; have HG1 := Lib.hid hG1; have Hgrow := Lib.hid hgrow; have Hown1 := Lib.hid hown1; have Hat := Lib.hid hat; clear hG1 hgrow hown1 hat))
 all_goals
  have H0 := Lib.hid (lay_begin (xs := xs) (x := x) (B := B) (cap := cap) HW0.out HB.out.1 HB.out.2.1 HB.out.2.2 HROW.out Hown1.out Hgrow.out Hat.out HG1.out)
  clear hW0 HW0 HX HG HR HNE HROW Hown1 Hgrow Hat HG1 c3 d3 hg3 hlt1 x0 x1 x2 x3 x4 x5 x6 x7 g0 f0 hlt0 hltx hb0 h63 hby HS0
  generalize hW1 : (w3.setCell { block := gm, off := 0 } (Value.slice (some { block := gg, off := 0 }) (N + 1) cap')) = W1 at *
  clear hW1
  have hX := H0.out.here
  have x5 := hX.cell 5
  unfold ndA at x5
  simp only [List.getElem?_toArray, List.getElem?_cons_zero, List.getElem?_cons_succ] at x5
  have lx := hX.lt
  clear hX
 all_goals go_wp2
 all_goals
  go_loopw [6, 28] (fun v i' wr => ∃ (j : Nat) (Av : Option Addr) (capv : Nat) (v' : Value) (ys : List Value), i' = .int .i64 (j : Int) ∧ v = .slice Av j capv ∧ j ≤ x.kids.len ∧ Hid (LayL base gm a d N xs x B cap w (.slice A0 N c0) j j wr (.slice Av j capv) v' ys)) (fun _ i' _ => x.kids.len - (intOf i').toNat)
  case atStart => exact ⟨0, none, 0, _, _, rfl, rfl, Nat.zero_le _, H0⟩
  case round =>
   clear H0 x5 lx
   obtain ⟨j, Av, capv, v', ys, rfl, rfl, hj', HL⟩ := hrel
   by_cases hlt : j < x.kids.len
   ·obtain ⟨y, hy⟩ : ∃ y, x.kids.list[j]? = some y := ⟨_, List.getElem?_eq_getElem (by rw [Trees.len_list]; exact hlt)⟩
    have HTw := (HT.out.keep (w' := wr) (Q := fun b => b < base) (fun b o h1 _ => HL.out.lay.below.cell (p := ⟨b, o, none⟩) h1) (fun b h1 _ => h1))
    obtain ⟨b, o, C, capc, rfl, hbb, hkl, ⟨q0, q1, q2, q3, q4, q5, q6, q7⟩, hkz⟩ := HTw.get hy
    have hwr := HL.out.lay.below.size
    have hbA : Below wr.heap.size wr (wr.alloc (.cells (ndA y C capc) 28)) := (Below.refl _ _).alloc (Nat.le_refl _) _
    have hks := kidsTo_len x (j + 1)
    rw [kidsTo_next hy, List.length_append, Nd.nodes_len] at hks
    have HI := Lib.hid (HK.out y (List.mem_of_getElem? hy) C capc base gm a d v' (N + 1 + (kidsTo x j).length) (xs ++ pcell x (some ⟨b, o, none⟩) x.kids.len cap none 0 0 ++ ys) (wr.alloc (.cells (ndA y C capc) 28)) (hkz.below hbA) hkl (HL.out.box.alloc _) (HL.out.row.alloc _) HB.out.1 (by have := HB.out.2.1; simp; omega) (by omega))
    have HY := Lib.hid hy
    have hdl : (j : Int) < (x.kids.len : Int) := by omega
    have hdc : (j : Int) < (cap : Int) := by omega
    have hblk := World.block_lt_of_cell? wr _ q0
    clear hy hkz hbA hks hwr HTw
    unfold ndV at HI
    unfold ndA at HI
    go_wp2_with fail
    refine HI.out.mono ?_
    rintro e w3 ⟨rfl, v2, zs, hbx, hrw, hps, hly⟩
    have HM3 := Lib.hid (lay_called HL.out HB.out.2.1 HB.out.2.2 HY.out hbx hrw hps hly)
    clear hbx hrw hps hly HI HL q0 q1 q2 q3 q4 q5 q6 q7 hblk hbb hkl
    have h63 : j + 1 ≤ maxLen := Nat.le_trans (show j + 1 ≤ 2000000 from by have := Trees.len_size x.kids; unfold Nd.size at hsz; omega) (by decide)
    have hby : (j + 1) * 8 ≤ 140737488355328 := by have := Trees.len_size x.kids; unfold Nd.size at hsz; omega
    have hw3 : w.heap.size ≤ w3.heap.size := HM3.out.lay.below.size
    dsimp only
    go_wp2_with (at_builtin; refine wpList_append_lies _ rfl _ _ 32 rfl w.heap.size 3 j0 _ 1 8 Tryd.underlying32 hj hj0 hj1 hj2 rfl (by decide) (.slice Av j capv) j (intsC (kidNums (N + 1) (x.kids.list.take j))) rfl (HM3.out.nums.alloc _) ⟨w3.heap.size, 0, none⟩ 1 1 [.int .i64 ((N + 1 + (kidsTo x j).length : Nat) : Int)] rfl rfl (World.news_of_block (cs := #[.int .i64 ((N + 1 + (kidsTo x j).length : Nat) : Int)]) (t := 3) (fr := (0, 0)) (heap_alloc_new w3 _)) (by simp [Value.oneCell']) (by decide) h63 hby (by simp; omega) (w3.heap.size + 1) (by simp) ?_; intro gg cap' w4 hown4 hgrow hat hlt1; have HN4 := Lib.hid (lay_append HM3.out HB.out.2.1 HB.out.2.2 HY.out hown4 hgrow hat); clear hgrow hown4 hat)
    go_roundw
    case rel => exact ⟨j + 1, _, _, _, _, by go_num, rfl, by omega, HN4⟩
    case measure => simp [intOf]; omega
   ·obtain rfl : j = x.kids.len := by omega
    have hdl : ¬ ((x.kids.len : Int) < (x.kids.len : Int)) := by omega
    have hks := kidsTo_all x
    have hsz1 : (kidsTo x x.kids.len).length + 1 = x.size := by rw [hks, ← Nd.nodes_len]; simp [Nd.nodes]
    obtain ⟨bp, c3, rfl, _, hbl⟩ := own_form HL.out.row (by omega)
    have hc3 : N + 1 + (kidsTo x x.kids.len).length ≤ c3 := by
     obtain ⟨A, c, e, h⟩ := row_form HL.out.row
     cases e
     exact h
    have g0 := HL.out.box.cell 0
    have lg := HL.out.box.lt
    simp only [List.getElem?_toArray, List.getElem?_cons_zero] at g0
    have fr := HL.out.row.frozenAt (N * 9 + 8)
    have c8 : wr.cell? ⟨bp, N * 9 + 8, none⟩ = some (.slice none 0 0) := by
     rw [HL.out.row.cellAt _ (by omega), List.append_assoc, List.getElem?_append_right (by have := HXL.out; omega), HXL.out, show N * 9 + 8 - N * 9 = 8 by omega]
     rfl
    have hd1 : (N : Int) < ((N + 1 + (kidsTo x x.kids.len).length : Nat) : Int) := by omega
    have hd2 : (N : Int) < (c3 : Int) := by omega
    have HE := Lib.hid (lay_end HL.out HB.out.2.1 HB.out.2.2 HXL.out hsz1)
    clear hks hsz1 HL
    go_wp2
    go_light
    go_ret
    exact ⟨rfl, _, HE.out.1, _, HE.out.2.1, HE.out.2.2.1, HE.out.2.2.2⟩
theorem lay11_all : ∀ (n : Nat) (x : Nd), x.size ≤ n → LayP x
 | 0, x, h => by unfold Nd.size at h; omega
 | n + 1, x, h => lay_step fun y hy => lay11_all n y (by
   obtain ⟨i, hi⟩ := List.mem_iff_getElem?.1 hy
   have := Trees.size_get x.kids i y hi
   unfold Nd.size at this h ⊢
   omega)
end Go.Proofs.YtfcblmbieiibmaaDoor
