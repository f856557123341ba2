/- Texts of the claim. -/
import Derived.RangeFuncBox
import Derived.Maps.AppendAt
import Derived.Maps.OwnIn
import Derived.Lib.Hide
import Derived.Test.YtofbfafnpdaejaaGreatDoorMZ02
set_option linter.all false
set_option maxRecDepth 100000
set_option maxHeartbeats 8000000
namespace Go.Proofs.YtofbfafnpdaejaaGreatDoor
open Go.RowKit Go.Shelf
attribute [local go_sem] Oper.semAt_some
def push (l : List (Nat × Nat)) (c : Nat) : List (Nat × Nat) :=
 match l.getLast? with
 | some (a, b) => if b + 1 = c then l.dropLast ++ [(a, c)] else l ++ [(c, c)]
 | none => [(c, c)]
def spans (xs : List Nat) : List (Nat × Nat) := xs.foldl (fun l c => push l (c % 256)) []
theorem spans_snoc (xs : List Nat) (x : Nat) : spans (xs ++ [x]) = push (spans xs) (x % 256) := by simp [spans]
theorem push_nil (c : Nat) : push [] c = [(c, c)] := rfl
theorem push_on (l : List (Nat × Nat)) (a b c : Nat) (h : b + 1 = c) : push (l ++ [(a, b)]) c = l ++ [(a, c)] := by simp [push, h]
theorem push_new (l : List (Nat × Nat)) (a b c : Nat) (h : ¬ b + 1 = c) : push (l ++ [(a, b)]) c = l ++ [(a, b)] ++ [(c, c)] := by simp [push, h]
def spanCells (l : List (Nat × Nat)) : List Value := l.flatMap fun q => [.int .u8 (q.1 : Int), .int .u8 (q.2 : Int)]
theorem spanCells_snoc (l : List (Nat × Nat)) (a b : Nat) : spanCells (l ++ [(a, b)]) = spanCells l ++ [.int .u8 (a : Int), .int .u8 (b : Int)] := by simp [spanCells]
theorem spanCells_len (l : List (Nat × Nat)) : (spanCells l).length = l.length * 2 := by
 induction l with
 | nil => rfl
 | cons q l ih => simp only [spanCells, List.flatMap_cons, List.length_append] at *; simp only [List.length_cons, List.length_nil]; omega
theorem push_len (l : List (Nat × Nat)) (c : Nat) : (push l c).length ≤ l.length + 1 := by
 rcases List.eq_nil_or_concat l with rfl | ⟨m, ⟨a, b⟩, rfl⟩
 ·simp [push]
 ·rw [List.concat_eq_append]
  by_cases h : b + 1 = c
  ·rw [push_on _ _ _ _ h]; simp
  ·rw [push_new _ _ _ _ h]; simp
theorem rev_ind {P : List Nat → Prop} (h0 : P []) (h1 : ∀ xs x, P xs → P (xs ++ [x])) (xs : List Nat) : P xs := by
 rw [← List.reverse_reverse xs]
 induction xs.reverse with
 | nil => exact h0
 | cons x l ih => rw [List.reverse_cons]; exact h1 _ _ ih
theorem spans_len (xs : List Nat) : (spans xs).length ≤ xs.length := by
 induction xs using rev_ind with
 | h0 => simp [spans]
 | h1 xs x ih => rw [spans_snoc]; have := push_len (spans xs) (x % 256); simp; omega
theorem spans_small (xs : List Nat) : ∀ q ∈ spans xs, q.1 < 256 ∧ q.2 < 256 := by
 induction xs using rev_ind with
 | h0 => simp [spans]
 | h1 xs x ih =>
  rw [spans_snoc]
  rcases List.eq_nil_or_concat (spans xs) with h | ⟨m, ⟨a, b⟩, h⟩
  ·rw [h, push_nil]; simp; omega
  ·rw [List.concat_eq_append] at h
   rw [h] at ih ⊢
   have hab := ih (a, b) (by simp)
   by_cases hb : b + 1 = x % 256
   ·rw [push_on _ _ _ _ hb]
    intro q hq
    rcases List.mem_append.1 hq with hq | hq
    ·exact ih q (by simp [hq])
    ·simp at hq; subst hq; exact ⟨hab.1, by dsimp only; omega⟩
   ·rw [push_new _ _ _ _ hb]
    intro q hq
    rcases List.mem_append.1 hq with hq | hq
    ·exact ih q hq
    ·simp at hq; subst hq; exact ⟨by dsimp only; omega, by dsimp only; omega⟩
theorem info2b : (Tryz.prog.info? 253).map (fun i => (i.zero, i.size, i.bytes)) = some (some (.agg #[.int .u8 0, .int .u8 0]), 2, 2) := by kernel_rfl
theorem row_last {W : World} {n₀ : Nat} {v : Value} {m : List (Nat × Nat)} {a b : Nat} (h : W.ownsRow n₀ 253 2 v (m.length + 1) (spanCells m ++ [.int .u8 (a : Int), .int .u8 (b : Int)])) :
  ∃ g cap, v = .slice (some ⟨g, 0, none⟩) (m.length + 1) cap ∧ n₀ ≤ g ∧ W.cell? ⟨g, m.length * 2 + 1, none⟩ = some (.int .u8 (b : Int)) ∧ W.frozen? ⟨g, m.length * 2 + 1, none⟩ = false ∧ m.length + 1 ≤ cap ∧
   (∀ B t u, Boxed W B t u → t ≠ 253 → B ≠ g) ∧ ∀ c : Nat, (W.setCell ⟨g, m.length * 2 + 1, none⟩ (.int .u8 (c : Int))).ownsRow n₀ 253 2 (.slice (some ⟨g, 0, none⟩) (m.length + 1) cap) (m.length + 1) (spanCells m ++ [.int .u8 (a : Int), .int .u8 (c : Int)]) := by
 rcases h.2 with ⟨_, h0⟩ | ⟨g, cap, cur, rfl, hg, hgb, hn, hcap, hsz, htk⟩
 ·omega
 ·have hB : Blk W g 253 cur := hgb
  refine ⟨g, cap, rfl, hg, ?_, hB.frozen _, hn, ?_, ?_⟩
  rotate_left
  ·rintro B t u hu ht rfl
   have := (show W.heap[B]? = _ from hu).symm.trans hgb
   simp at this
   exact ht this.2
  ·intro c
   refine ⟨by simp [spanCells_len]; omega, .inr ⟨g, cap, _, rfl, hg, hB.set_ _ _, hn, hcap, by simp [hsz], ?_⟩⟩
   rw [Array.toList_setIfInBounds, List.take_set, htk, List.set_append_right _ _ (by rw [spanCells_len]; omega), spanCells_len, show m.length * 2 + 1 - m.length * 2 = 1 by omega]
   rfl
  rw [hB.cell, ← Array.getElem?_toList]
  have e : (cur.toList.take ((m.length + 1) * 2))[m.length * 2 + 1]? = cur.toList[m.length * 2 + 1]? := by rw [List.getElem?_take]; simp; omega
  rw [← e, htk, List.getElem?_append_right (by rw [spanCells_len]; omega), spanCells_len]
  rw [show m.length * 2 + 1 - m.length * 2 = 1 by omega]
  rfl
theorem cell_two_new (w : World) (x y : Value) (t : TypeId) : ∀ j u, [x, y][j]? = some u → (w.alloc (.cells #[x, y] t)).cell? ((⟨w.heap.size, 0, none⟩ : Addr).add j) = some u := by
 intro j u hj
 have h := (Blk.new w t #[x, y]).c2
 match j, hj with
 | 0, hj => simp at hj; subst hj; exact h.1
 | 1, hj => simp at hj; subst hj; exact h.2.1
 | j + 2, hj => simp at hj
theorem spans_in (n : Nat) (hn : 3 ≤ n) (p : Nat → Bool) (w : World) (hT : TabAt 0 Lib.deBruijn64tab w) (hw0 : 0 < w.heap.size) :
  CallsIn Fence.wide n Tryz.prog 236 #[.agg #[.int .u64 (word p 0), .int .u64 (word p 1), .int .u64 (word p 2), .int .u64 (word p 3)]] w fun e W' => ∃ v, e = .returned v ∧ W'.ownsRow w.heap.size 253 2 v (spans (elems p 256)).length (spanCells (spans (elems p 256))) ∧ Below w.heap.size w W' := by
 have h1 : 1 ≤ n := by omega
 obtain ⟨i0, hi, hz0, hz1, hz2⟩ := info_parts info2b
 refine callsIn_of_wp_marks Tryz.func236 rfl trivial ?_ rfl
 simp only [Tryz.ntmps236, List.size_toArray, List.length_cons, List.length_nil, Nat.reduceAdd, Nat.reduceSub, Array.replicate_succ, Array.replicate_zero, List.push_toArray, List.append_toArray, List.nil_append, List.cons_append]
 gi_wp2_with (refine ⟨trivial, ?_⟩; gi_at_call 180; refine (callsIn_wide.2 (each_go p _)).mono ?_; rintro e w' ⟨rfl, rfl⟩)
 have bO := Boxed.new (w.alloc (.cells #[.int .u64 (word p 0), .int .u64 (word p 1), .int .u64 (word p 2), .int .u64 (word p 3)] 25)) 251 (.slice none 0 0)
 rw [World.size_alloc] at bO
 have hB0 : Below w.heap.size w (((w.alloc (.cells #[.int .u64 (word p 0), .int .u64 (word p 1), .int .u64 (word p 2), .int .u64 (word p 3)] 25)).alloc (.cells #[.slice none 0 0] 251)).alloc (.cells #[.int .u64 (word p 0), .int .u64 (word p 1), .int .u64 (word p 2), .int .u64 (word p 3)] 25)) := (((Below.refl _ w).alloc (Nat.le_refl _) _).alloc (by simp) _).alloc (by simp; omega) _
 have bS : Blk (((w.alloc (.cells #[.int .u64 (word p 0), .int .u64 (word p 1), .int .u64 (word p 2), .int .u64 (word p 3)] 25)).alloc (.cells #[.slice none 0 0] 251)).alloc (.cells #[.int .u64 (word p 0), .int .u64 (word p 1), .int .u64 (word p 2), .int .u64 (word p 3)] 25)) (w.heap.size + 1 + 1) 25 #[.int .u64 (word p 0), .int .u64 (word p 1), .int .u64 (word p 2), .int .u64 (word p 3)] := Blk.new_at (by simp)
 refine wpIn_rangeFunc_ownG rfl h1 (gf := 218) (lb := #[.pointer (some ⟨w.heap.size + 1 + 1, 0, none⟩)]) rfl trivial (enters_of Tryz.func218 (by kernel_rfl) rfl)
  (each_stops (n - 1) (by omega) p (w.heap.size + 1 + 1) w.heap.size _ hw0 (by simp) bS (TabAt.below hB0 hw0 hT)) belowK_t (belowK_b (by simp; omega)) (Below.refl _ _) (fun _ => rfl)
  (fun pre W => (∃ v, Boxed W (w.heap.size + 1) 251 v ∧ W.ownsRow w.heap.size 253 2 v (spans pre).length (spanCells (spans pre)) ∧ (v = .slice none 0 0 ↔ spans pre = [])) ∧ Below w.heap.size w W)
  (fun _ _ _ => False)
  (OwnFrom.and (Own.from (holdsRow_own w.heap.size (w.heap.size + 1) 251 253 2 (fun pre => (spans pre).length) (fun pre => spanCells (spans pre)) (fun pre v => v = .slice none 0 0 ↔ spans pre = [])) _) (ownFrom_below (Nat.le_refl _) (by simp; omega)))
  (fun _ _ _ _ _ hs _ _ => hs)
  ⟨⟨_, bO.alloc _, World.ownsRow_nil _ _ _ _, by simp [spans]⟩, hB0⟩
  (fun x => { tmps := #[.agg #[.int .u64 (word p 0), .int .u64 (word p 1), .int .u64 (word p 2), .int .u64 (word p 3)], .pointer (some ⟨w.heap.size, 0, none⟩), .slice none 0 0, .pointer (some ⟨w.heap.size + 1, 0, none⟩), .int .u8 ((x % 256 : Nat) : Int), undef, .agg #[.int .u64 (word p 0), .int .u64 (word p 1), .int .u64 (word p 2), .int .u64 (word p 3)], .func (.func 218) #[] #[.pointer (some ⟨w.heap.size + 1 + 1, 0, none⟩)], .int .u8 ((x % 256 : Nat) : Int), undef, undef, undef, undef, undef, undef, undef, undef, undef, undef, undef, undef, undef, undef, undef, undef, undef, undef, undef, undef, undef, undef, undef, undef, undef, undef, undef, undef, undef, undef], defers := [] }) ?assign ?body ?done ?stop
 case assign =>
  intro l x W K hK
  unfold byteArg
  gi_wp2
  exact hK
 case body =>
  rintro l pre x W ⟨⟨v, hv, hrow, hnil⟩, hB⟩ hlt
  have hc := hv.cell
  have hf := hv.frozen
  have hpl := spans_len pre
  have hsm := spans_small pre
  have hcx : x % 256 < 256 := Nat.mod_lt _ (by decide)
  have hsn := spans_snoc pre x
  generalize x % 256 = c at *
  rcases List.eq_nil_or_concat (spans pre) with hs | ⟨m, ⟨a, b⟩, hs⟩
  ·obtain rfl : v = .slice none 0 0 := hnil.2 hs
   have Hs := Lib.hid hs
   have Hsn := Lib.hid hsn
   clear hrow hs hsn hnil hsm hpl
   have hrow : W.ownsRow w.heap.size 253 2 (.slice none 0 0) 0 [] := World.ownsRow_nil _ _ _ _
   have hb1 : 0 + 1 ≤ maxLen := by decide
   gi_wp2_with (gi_at_builtin; refine wpListIn_append_own _ rfl _ _ 251 rfl w.heap.size 253 i0 (.agg #[.int .u8 0, .int .u8 0]) 2 2 Tryz.underlying251 hi hz0 hz1 hz2 rfl (by decide) _ _ _ rfl (hrow.alloc _) ⟨W.heap.size, 0, none⟩ 1 1 [.int .u8 (c : Int), .int .u8 (c : Int)] rfl rfl (cell_two_new _ _ _ _) (by simp [Value.oneCell']) hb1 (by decide) (Nat.le_trans hB.size (by simp)) ?_; intro v' w1 hown' hgrow _; obtain ⟨g', cap', rfl⟩ := ownsRow_succ hown'; obtain ⟨hv1, hv2, hr2, hk2, hb2⟩ := hv.appended (by decide) hrow hB.size (by omega) hown' hgrow; have hc1 := hv1.cell; have hf1 := hv1.frozen)
   exact ⟨hk2.from _, hb2, ⟨_, hv2, by rw [Hsn.out, Hs.out, push_nil]; exact hr2, by rw [Hsn.out, Hs.out, push_nil]; simp⟩, hB.trans hb2⟩
  ·rw [List.concat_eq_append] at hs
   have hb256 : b < 256 := (hsm (a, b) (by rw [hs]; simp)).2
   rw [hs, List.length_append, List.length_singleton, spanCells_snoc] at hrow
   rw [hs] at hsn hpl
   simp only [List.length_append, List.length_singleton] at hpl
   obtain ⟨g, cap, rfl, hg, hcell, hfz, hlen, hne, hrow2⟩ := row_last hrow
   have hb1 : m.length + 1 + 1 ≤ maxLen := Nat.le_trans (by omega) (show 1000 ≤ maxLen by decide)
   have hb2 : (m.length + 1 + 1) * 2 ≤ 140737488355328 := by omega
   have hm : m.length + 1 ≤ 256 := by omega
   have Hs := Lib.hid hs
   clear hs hnil hsm hpl
   by_cases hgo : b + 1 = c
   ·rw [push_on _ _ _ _ hgo] at hsn
    have Hsn := Lib.hid hsn
    clear hsn
    gi_wp2
    exact ⟨(KeepsOthers.setCell _ _ _).from _, (Below.refl w.heap.size W).setCell (p := ⟨g, m.length * 2 + 1, none⟩) hg _, ⟨_, Blk.far hv (p := ⟨g, m.length * 2 + 1, none⟩) (hne _ _ _ hv (by decide)) _, by rw [Hsn.out, spanCells_snoc]; simp only [List.length_append, List.length_singleton]; exact hrow2 c, by rw [Hsn.out]; simp⟩, hB.setCell (p := ⟨g, m.length * 2 + 1, none⟩) hg _⟩
   ·rw [push_new _ _ _ _ hgo] at hsn
    have Hsn := Lib.hid hsn
    clear hsn
    gi_wp2_with (gi_at_builtin; refine wpListIn_append_own _ rfl _ _ 251 rfl w.heap.size 253 i0 (.agg #[.int .u8 0, .int .u8 0]) 2 2 Tryz.underlying251 hi hz0 hz1 hz2 rfl (by decide) _ _ _ rfl (hrow.alloc _) ⟨W.heap.size, 0, none⟩ 1 1 [.int .u8 (c : Int), .int .u8 (c : Int)] rfl rfl (cell_two_new _ _ _ _) (by simp [Value.oneCell']) hb1 hb2 (Nat.le_trans hB.size (by simp)) ?_; intro v' w1 hown' hgrow _; obtain ⟨g', cap', rfl⟩ := ownsRow_succ hown'; obtain ⟨hv1, hv2, hr2, hk2, hb2⟩ := hv.appended (by decide) hrow hB.size (by omega) hown' hgrow; have hc1 := hv1.cell; have hf1 := hv1.frozen)
    exact ⟨hk2.from _, hb2, ⟨_, hv2, by rw [Hsn.out, spanCells_snoc, spanCells_snoc]; simp only [List.length_append, List.length_singleton]; exact hr2, by rw [Hsn.out]; simp⟩, hB.trans hb2⟩
 case done =>
  rintro D ys W hD rfl ⟨⟨v, hv, hrow, hnil⟩, hB⟩ hK
  have hc := hv.cell
  gi_wp2
  refine ⟨by simp, .inl ⟨_, _, rfl, run_takeDeferred hK, ?_⟩⟩
  exact ⟨_, results_tmp rfl _ _ _, v, rfl, ownsRow_putObj hrow _ hK rfl, hB.trans (belowK_b (w := w) (Nat.le_refl _) W D _ _ (by simp at hD; omega) hK rfl rfl)⟩
 case stop =>
  rintro D c pre W _ _ h _
  exact h.elim
theorem spans_go (p : Nat → Bool) (w : World) (hT : TabAt 0 Lib.deBruijn64tab w) (hw0 : 0 < w.heap.size) :
  Calls Tryz.prog 236 #[.agg #[.int .u64 (word p 0), .int .u64 (word p 1), .int .u64 (word p 2), .int .u64 (word p 3)]] w fun e W' => ∃ v, e = .returned v ∧ W'.ownsRow w.heap.size 253 2 v (spans (elems p 256)).length (spanCells (spans (elems p 256))) ∧ Below w.heap.size w W' :=
 callsIn_wide.1 (spans_in 3 (Nat.le_refl _) p w hT hw0)
end Go.Proofs.YtofbfafnpdaejaaGreatDoor
