/- Texts of the claim. -/
import Derived.Test.YtofbfafnpdaejaaGreatDoorMMatY
import Derived.Test.YtofbfafnpdaejaaGreatDoorMMatE
namespace Go.Proofs.YtofbfafnpdaejaaGreatDoor
open Go.RowKit Go.Maps
set_option linter.unusedSimpArgs false
set_option linter.unusedVariables false
set_option maxRecDepth 100000
set_option maxHeartbeats 8000000
structure LayL (base gm : Nat) (a d : Value) (N : Nat) (xs : List Value) (x : Nd) (B : Option Addr) (cap : Nat) (w : World) (v : Value) (i j : Nat) (W : World) (kv v' : Value) (ys : List Value) : Prop where
 box : Blk W gm 132 #[v', a, d]
 row : W.ownsRow base 172 9 v' (N + 1 + (kidsTo x i).length) (xs ++ pcell x B x.kids.len cap none 0 0 ++ ys)
 parts : PartsL W base (fun b => w.heap.size ≤ b ∧ kv.ownBlock ≠ some b) (N + 1) (kidsTo x i) ys
 lay : LayM base gm w v W v'
 nums : W.ownsRow w.heap.size 3 1 kv j (intsC (kidNums (N + 1) (x.kids.list.take j)))
 here : Blk W w.heap.size 28 (ndA x B cap)
theorem lay_begin {base gm : Nat} {a d : Value} {N : Nat} {xs : List Value} {x : Nd} {B : Option Addr} {cap : Nat} {w : World} {v : Value} {W0 w1 : World} {o : Obj} {gg cap' : Nat} (hW0 : w.alloc (.cells (ndA x B cap) 28) = W0) (hbg : base ≤ gm) (hbw : base ≤ w.heap.size) (hgm : gm < w.heap.size) (hrow : w.ownsRow base 172 9 v N xs)
  (hown : w1.ownsRow base 172 9 (.slice (some ⟨gg, 0, none⟩) (N + 1) cap') (N + 1) (xs ++ pcell x B x.kids.len cap none 0 0)) (hgrow : (W0.alloc o).drew.grownBy w1 v.ownBlock) (hat : v.ownBlock = some gg ∨ gg = W0.heap.size + 1) (hbox : Blk w1 gm 132 #[v, a, d]) :
  LayL base gm a d N xs x B cap w v 0 0 (w1.setCell ⟨gm, 0, none⟩ (.slice (some ⟨gg, 0, none⟩) (N + 1) cap')) (.slice none 0 0) (.slice (some ⟨gg, 0, none⟩) (N + 1) cap') [] := by
 have hs0 : W0.heap.size = w.heap.size + 1 := by rw [← hW0]; simp
 have hne := blk_not_row hbox (by decide) hown
 have hsz : (W0.alloc o).drew.heap.size = w.heap.size + 2 := by rw [show (W0.alloc o).drew.heap.size = W0.heap.size + 1 by simp, hs0]
 have hkeep : ∀ j, j < w.heap.size → v.ownBlock ≠ some j → w1.heap[j]? = w.heap[j]? := fun j hj hn => by
  rw [hgrow.block j (by omega) (fun e => hn e.symm), ← hW0]
  exact (((Below.refl w.heap.size w).alloc (Nat.le_refl _) _).alloc (by simp) o).drew.block j hj
 have hb1 : Below base w w1 := by
  have h1 : Below base w (W0.alloc o).drew := by
   rw [← hW0]
   exact (((Below.refl base w).alloc hbw _).alloc (by simp; omega) o).drew
  exact h1.grown hgrow (by omega) (fun k hk => (hrow.lt k hk).1)
 have hvx : v.ownBlock ≠ some w.heap.size := fun e => by have := (hrow.lt _ e).2; omega
 have hX : Blk w1 w.heap.size 28 (ndA x B cap) := by
  have h1 : Blk W0 w.heap.size 28 (ndA x B cap) := by rw [← hW0]; exact Blk.new w _ _
  exact (Blk.alloc h1 o).drew.grown hgrow (fun e => hvx e.symm)
 refine ⟨hbox.set_ 0 _, ?_, rfl, ⟨hb1.setCell hbg _, fun j h1 h2 h3 => (Below.heap_setCell _ _ _ _ h2).trans (hkeep j h1 h3), fun j hj => ?_⟩, ⟨rfl, .inl ⟨rfl, rfl⟩⟩, (show (w1.setCell ⟨gm, 0, none⟩ _).heap[w.heap.size]? = _ from (Below.heap_setCell _ _ _ _ (by intro e; simp at e; omega)).trans hX)⟩
 ·have e : kidsTo x 0 = [] := by simp [kidsTo]
  rw [e, List.append_nil]
  exact own_set hown hne
 ·obtain rfl : gg = j := by simpa [Value.ownBlock] using hj
  rcases hat with h | h
  ·exact .inl h
  ·exact .inr (by omega)
theorem lay_called {base gm : Nat} {a d : Value} {N : Nat} {xs : List Value} {x : Nd} {B : Option Addr} {cap : Nat} {w : World} {v : Value} {W w' : World} {o : Obj} {kv v1 v2 : Value} {ys zs : List Value} {y : Nd} {j : Nat} (h : LayL base gm a d N xs x B cap w v j j W kv v1 ys) (hbw : base ≤ w.heap.size) (hgm : gm < w.heap.size) (hy : x.kids.list[j]? = some y)
  (hbox : Blk w' gm 132 #[v2, a, d]) (hown : w'.ownsRow base 172 9 v2 (N + 1 + (kidsTo x j).length + y.size) ((xs ++ pcell x B x.kids.len cap none 0 0 ++ ys) ++ zs))
  (hp : PartsL w' base (fun b => (W.alloc o).heap.size ≤ b) (N + 1 + (kidsTo x j).length) y.nodes zs) (hl : LayM base gm (W.alloc o) v1 w' v2) :
  LayL base gm a d N xs x B cap w v (j + 1) j w' kv v2 (ys ++ zs) := by
 have hsz := h.lay.below.size
 have hsa : (W.alloc o).heap.size = W.heap.size + 1 := by simp
 have hal : Below W.heap.size W (W.alloc o) := (Below.refl _ _).alloc (Nat.le_refl _) o
 have hkeep : ∀ b, b < W.heap.size → b ≠ gm → v1.ownBlock ≠ some b → w'.heap[b]? = W.heap[b]? := fun b h1 h2 h3 => (hl.kept b (by omega) h2 h3).trans (hal.block b h1)
 have hnk : ∀ b, kv.ownBlock = some b → b ≠ gm ∧ v1.ownBlock ≠ some b := fun b hb => ⟨fun e => by have := (h.nums.lt b hb).1; omega, rowsApart h.nums h.row (by decide) hb⟩
 refine ⟨hbox, ?_, ?_, (h.lay.below1 (by omega) hal).trans hl, rowB h.nums fun b hb => hkeep b (h.nums.lt b hb).2 (hnk b hb).1 (hnk b hb).2, (hkeep _ h.here.lt (by omega) (fun e => ?_)).trans h.here⟩
 ·rw [kidsTo_next hy, List.length_append, Nd.nodes_len, ← Nat.add_assoc, ← List.append_assoc]
  exact hown
 ·rw [kidsTo_next hy]
  refine PartsL.app (h.parts.keep (fun b cs h1 h2 h3 h4 => hkeep b h2 (fun e => ?_) (fun e => ?_)) (fun b _ hb => hb)) (hp.keep (fun _ _ _ _ _ _ => rfl) (fun b _ hb => ⟨by omega, fun e => by have := (h.nums.lt b e).2; omega⟩))
  ·subst e
   have := (show W.heap[b]? = _ from h.box).symm.trans h4
   simp at this
  ·rcases h.row.2 with ⟨e1, _⟩ | ⟨g, c, cur, e1, _, hg, _⟩
   ·rw [e1] at e
    simp [Value.ownBlock] at e
   ·rw [e1] at e
    obtain rfl : g = b := by simpa [Value.ownBlock] using e
    rw [h4] at hg
    simp at hg
 ·rcases h.row.2 with ⟨e1, _⟩ | ⟨g, c, cur, e1, _, hg, _⟩
  ·rw [e1] at e
   simp [Value.ownBlock] at e
  ·rw [e1] at e
   obtain rfl : g = w.heap.size := by simpa [Value.ownBlock] using e
   rw [show W.heap[w.heap.size]? = _ from h.here] at hg
   simp at hg
theorem lay_append {base gm : Nat} {a d : Value} {N : Nat} {xs : List Value} {x : Nd} {B : Option Addr} {cap : Nat} {w : World} {v : Value} {W w4 : World} {o : Obj} {kv v1 : Value} {ys : List Value} {y : Nd} {j gg cap' : Nat} (h : LayL base gm a d N xs x B cap w v (j + 1) j W kv v1 ys) (hbw : base ≤ w.heap.size) (hgm : gm < w.heap.size) (hy : x.kids.list[j]? = some y)
  (hown : w4.ownsRow w.heap.size 3 1 (.slice (some ⟨gg, 0, none⟩) (j + 1) cap') (j + 1) (intsC (kidNums (N + 1) (x.kids.list.take j)) ++ [.int .i64 ((N + 1 + (kidsTo x j).length : Nat) : Int)])) (hgrow : (W.alloc o).grownBy w4 kv.ownBlock) (hat : kv.ownBlock = some gg ∨ gg = W.heap.size + 1) :
  LayL base gm a d N xs x B cap w v (j + 1) (j + 1) w4 (.slice (some ⟨gg, 0, none⟩) (j + 1) cap') v1 ys := by
 have hsz := h.lay.below.size
 have hsa : (W.alloc o).heap.size = W.heap.size + 1 := by simp
 have hal : Below W.heap.size W (W.alloc o) := (Below.refl _ _).alloc (Nat.le_refl _) o
 have hkeep : ∀ b, b < W.heap.size → kv.ownBlock ≠ some b → w4.heap[b]? = W.heap[b]? := fun b h1 h2 => (hgrow.block b (by omega) (fun e => h2 e.symm)).trans (hal.block b h1)
 have hge : ∀ b, kv.ownBlock = some b → w.heap.size ≤ b := fun b hb => (h.nums.lt b hb).1
 have hnk : ∀ b, v1.ownBlock = some b → kv.ownBlock ≠ some b := fun b hb => rowsApart h.row h.nums (by decide) hb
 have hnX : kv.ownBlock ≠ some w.heap.size := fun e => by
  rcases h.nums.2 with ⟨e1, _⟩ | ⟨g, c, cur, e1, _, hg, _⟩
  ·rw [e1] at e
   simp [Value.ownBlock] at e
  ·rw [e1] at e
   obtain rfl : g = w.heap.size := by simpa [Value.ownBlock] using e
   rw [show W.heap[w.heap.size]? = _ from h.here] at hg
   simp at hg
 refine ⟨(hkeep gm (by omega) (fun e => by have := hge _ e; omega)).trans h.box, rowB h.row fun b hb => hkeep b (h.row.lt b hb).2 (hnk b hb), h.parts.keep (fun b cs h1 h2 h3 h4 => hkeep b h2 h3.2) (fun b h1 h2 => ⟨h2.1, fun e => ?_⟩), ?_, ?_, (hkeep _ h.here.lt hnX).trans h.here⟩
 ·refine ⟨(h.lay.below.trans (hal.mono (by omega))).grown hgrow (by omega) (fun k hk => by have := hge k hk; omega), fun b h1 h2 h3 => (hkeep b (by omega) (fun e => by have := hge b e; omega)).trans (h.lay.kept b h1 h2 h3), h.lay.lies⟩
 ·rw [kidNums_next hy]
  unfold intsC at hown ⊢
  rw [List.map_append]
  exact hown
 ·obtain rfl : gg = b := by simpa [Value.ownBlock] using e
  rcases hat with h3 | h3
  ·exact h2.2 h3
  ·omega
theorem lay_end {base gm : Nat} {a d : Value} {N : Nat} {xs : List Value} {x : Nd} {B : Option Addr} {cap : Nat} {w : World} {v : Value} {W : World} {A : Option Addr} {c2 c3 bp : Nat} {ys : List Value} (h : LayL base gm a d N xs x B cap w v x.kids.len x.kids.len W (.slice A x.kids.len c2) (.slice (some ⟨bp, 0, none⟩) (N + 1 + (kidsTo x x.kids.len).length) c3) ys) (hbw : base ≤ w.heap.size) (hgm : gm < w.heap.size) (hxl : xs.length = N * 9) (hsz : (kidsTo x x.kids.len).length + 1 = x.size) :
  Blk (W.setCell ⟨bp, N * 9 + 8, none⟩ (.slice A x.kids.len c2)) gm 132 #[.slice (some ⟨bp, 0, none⟩) (N + 1 + (kidsTo x x.kids.len).length) c3, a, d] ∧
  (W.setCell ⟨bp, N * 9 + 8, none⟩ (.slice A x.kids.len c2)).ownsRow base 172 9 (.slice (some ⟨bp, 0, none⟩) (N + 1 + (kidsTo x x.kids.len).length) c3) (N + x.size) (xs ++ (pcell x B x.kids.len cap A x.kids.len c2 ++ ys)) ∧
  PartsL (W.setCell ⟨bp, N * 9 + 8, none⟩ (.slice A x.kids.len c2)) base (fun b => w.heap.size ≤ b) N x.nodes (pcell x B x.kids.len cap A x.kids.len c2 ++ ys) ∧ LayM base gm w v (W.setCell ⟨bp, N * 9 + 8, none⟩ (.slice A x.kids.len c2)) (.slice (some ⟨bp, 0, none⟩) (N + 1 + (kidsTo x x.kids.len).length) c3) := by
 have hbp := h.row.lt bp rfl
 have hng : gm ≠ bp := fun e => by
  have := blk_not_row h.box (by decide) h.row
  rw [e] at this
  exact this rfl
 have hkeep : ∀ b, b ≠ bp → (W.setCell ⟨bp, N * 9 + 8, none⟩ (.slice A x.kids.len c2)).heap[b]? = W.heap[b]? := fun b hb => Below.heap_setCell _ _ _ _ hb
 have hnum : ∀ b, (Value.slice A x.kids.len c2).ownBlock = some b → b ≠ bp := fun b hb e => rowsApart h.nums h.row (by decide) hb (by rw [e]; rfl)
 refine ⟨(hkeep gm hng).trans h.box, ?_, ?_, ⟨h.lay.below.setCell hbp.1 _, fun j h1 h2 h3 => (hkeep j (fun e => ?_)).trans (h.lay.kept j h1 h2 h3), h.lay.lies⟩⟩
 ·have hst := (h.row.stored (N * 9 + 8) (.slice A x.kids.len c2)).1
  have he : (xs ++ pcell x B x.kids.len cap none 0 0 ++ ys).set (N * 9 + 8) (.slice A x.kids.len c2) = xs ++ (pcell x B x.kids.len cap A x.kids.len c2 ++ ys) := by
   rw [List.append_assoc, List.set_append_right _ _ (by omega), hxl, show N * 9 + 8 - N * 9 = 8 by omega]
   rfl
  rw [he] at hst
  rw [show N + x.size = N + 1 + (kidsTo x x.kids.len).length by omega]
  exact hst
 ·refine ⟨B, x.kids.len, cap, A, c2, ys, rfl, ?_, fun b hb => (h.nums.lt b hb).1, ?_⟩
  ·have hn := h.nums
   rw [← Trees.len_list, List.take_length, Trees.len_list] at hn
   exact rowB (hn.mono hbw) fun b hb => hkeep b (hnum b hb)
  ·rw [← kidsTo_all]
   refine h.parts.keep (fun b cs h1 h2 h3 h4 => hkeep b (fun e => ?_)) (fun b _ hb => hb.1)
   subst e
   rcases h.row.2 with ⟨e1, _⟩ | ⟨g, c, cur, e1, _, hg, _⟩
   ·cases e1
   ·simp at e1
    obtain ⟨rfl, _⟩ := e1
    rw [h4] at hg
    simp at hg
 ·subst e
  rcases h.lay.lies j rfl with h4 | h4
  ·exact h3 h4
  ·omega
end Go.Proofs.YtofbfafnpdaejaaGreatDoor
