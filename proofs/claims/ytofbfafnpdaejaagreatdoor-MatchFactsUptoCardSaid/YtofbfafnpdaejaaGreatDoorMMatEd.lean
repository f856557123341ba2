/- Texts of the claim. -/
import Derived.RangeFuncBox
import Derived.Maps.AppendAt
import Derived.Maps.OwnIn
import Derived.Lib.Hide
import Derived.Test.YtofbfafnpdaejaaGreatDoorMMatFd
namespace Go.Proofs.YtofbfafnpdaejaaGreatDoor
open Go.RowKit Go.Shelf Go.Maps
set_option linter.unusedSimpArgs false
set_option linter.unusedVariables false
set_option maxRecDepth 100000
set_option maxHeartbeats 8000000
attribute [local go_sem] Oper.semAt_some
def placeV (c : Nat) : Value := .int .i64 (c : Int)
noncomputable def placesL (p : Nat → Bool) : List Int := (elems p 320).map fun c => ((c : Nat) : Int)
theorem pends_in (n : Nat) (hn : 3 ≤ n) (x : Nd) (B : Option Addr) (cap : Nat) (V : Option Addr) (cv : Nat) (i : Int) (bs : List Nat) (w : World) (hsz : x.size ≤ 4611686018427387903) (hcap : x.kids.len ≤ cap) (ht : TreesAt w (fun b => b < w.heap.size) x.kids B) (hV : BytesAt w w.heap.size V bs) (hcv : bs.length ≤ cv) (hT : TabAt 0 Lib.deBruijn64tab w) (hg : 0 < w.heap.size) :
  CallsIn Fence.wide n Tryz.prog 102 #[ndV x B cap, .slice V bs.length cv, .int .i64 i] w fun e w' => ∃ v, e = .returned (.tuple #[v, .int .i64 (errF x bs i)]) ∧ w'.ownsRow w.heap.size 3 1 v (placesL (findB x bs i)).length (intsC (placesL (findB x bs i))) ∧ Below w.heap.size w w' := by
 have h1 : 1 ≤ n := by omega
 obtain ⟨i0, hi, hz0, hz1, hz2⟩ := info_parts info_intC
 have hX : Blk (w.alloc (.cells (ndA x B cap) 28)) w.heap.size 28 (ndA x B cap) := Blk.new w _ _
 have hal : Below w.heap.size w (w.alloc (.cells (ndA x B cap) 28)) := (Below.refl _ _).alloc (Nat.le_refl _) _
 have HF := Lib.hid (find_go x B cap V cv i bs (w.alloc (.cells (ndA x B cap) 28)) hsz hcap ((ht.below hal).weak (fun b h _ => Nat.lt_of_lt_of_le h hal.size)) ((hV.below hal).more hal.size) (TabAt.below hal hg hT) (Nat.lt_of_lt_of_le hg hal.size))
 have HAL := Lib.hid hal
 have HTB := Lib.hid hT
 clear hal hT hV ht
 unfold ndV at HF ⊢
 unfold ndA at hX HF HAL
 obtain ⟨x0, x1, x2, x3, x4, x5, x6, x7⟩ : _ ∧ _ ∧ _ ∧ _ ∧ _ ∧ _ ∧ _ ∧ _ := ⟨hX.cell 0, hX.cell 1, hX.cell 2, hX.cell 3, hX.cell 4, hX.cell 5, hX.cell 6, hX.cell 7⟩
 simp only [List.getElem?_toArray, List.getElem?_cons_zero, List.getElem?_cons_succ] at x0 x1 x2 x3 x4 x5 x6 x7
 have lx := hX.lt
 clear hX
 refine callsIn_of_wp_marks Tryz.func102 rfl trivial ?_ rfl
 simp only [Tryz.ntmps102, List.size_toArray, List.length_cons, List.length_nil, Nat.reduceAdd, Nat.reduceSub, Array.replicate_succ, Array.replicate_zero, List.push_toArray, List.append_toArray, List.nil_append, List.cons_append]
 gi_wp2_with (first
  | (refine ⟨trivial, ?_⟩; gi_at_call 56; refine (callsIn_wide.2 HF.out).mono ?_; rintro e w1 ⟨rfl, hb1⟩)
  | (refine ⟨trivial, ?_⟩; gi_at_call 150; refine (callsIn_wide.2 (pall_go (findB x bs i) _)).mono ?_; rintro e w' ⟨rfl, rfl⟩))
 have HB01 := Lib.hid (HAL.out.trans (hb1.mono HAL.out.size))
 have hT1 : TabAt 0 Lib.deBruijn64tab w1 := TabAt.below HB01.out hg HTB.out
 have hg1 : 0 < w1.heap.size := Nat.lt_of_lt_of_le hg HB01.out.size
 clear hb1 HF HAL x0 x1 x2 x3 x4 x5 x6 x7 lx
 have bO := Boxed.new (w1.alloc (.cells #[.int .u64 (word (findB x bs i) 0), .int .u64 (word (findB x bs i) 1), .int .u64 (word (findB x bs i) 2), .int .u64 (word (findB x bs i) 3), .int .u64 (word (findB x bs i) 4)] 69)) 38 (.slice none 0 0)
 rw [World.size_alloc] at bO
 have hB0 : Below w1.heap.size w1 (((w1.alloc (.cells #[.int .u64 (word (findB x bs i) 0), .int .u64 (word (findB x bs i) 1), .int .u64 (word (findB x bs i) 2), .int .u64 (word (findB x bs i) 3), .int .u64 (word (findB x bs i) 4)] 69)).alloc (.cells #[.slice none 0 0] 38)).alloc (.cells #[.int .u64 (word (findB x bs i) 0), .int .u64 (word (findB x bs i) 1), .int .u64 (word (findB x bs i) 2), .int .u64 (word (findB x bs i) 3), .int .u64 (word (findB x bs i) 4)] 69)) := (((Below.refl _ w1).alloc (Nat.le_refl _) _).alloc (by simp) _).alloc (by simp; omega) _
 have bS : Blk (((w1.alloc (.cells #[.int .u64 (word (findB x bs i) 0), .int .u64 (word (findB x bs i) 1), .int .u64 (word (findB x bs i) 2), .int .u64 (word (findB x bs i) 3), .int .u64 (word (findB x bs i) 4)] 69)).alloc (.cells #[.slice none 0 0] 38)).alloc (.cells #[.int .u64 (word (findB x bs i) 0), .int .u64 (word (findB x bs i) 1), .int .u64 (word (findB x bs i) 2), .int .u64 (word (findB x bs i) 3), .int .u64 (word (findB x bs i) 4)] 69)) (w1.heap.size + 1 + 1) 69 #[.int .u64 (word (findB x bs i) 0), .int .u64 (word (findB x bs i) 1), .int .u64 (word (findB x bs i) 2), .int .u64 (word (findB x bs i) 3), .int .u64 (word (findB x bs i) 4)] := Blk.new_at (by simp)
 refine wpIn_rangeFunc_ownG rfl h1 (gf := 173) (lb := #[.pointer (some ⟨w1.heap.size + 1 + 1, 0, none⟩)]) rfl trivial (enters_of Tryz.func173 (by kernel_rfl) rfl)
  (pall_stops (n - 1) (by omega) (findB x bs i) (w1.heap.size + 1 + 1) w1.heap.size _ hg1 (by simp) bS (TabAt.below hB0 hg1 hT1)) belowK_t (belowK_b (by simp; omega)) (Below.refl _ _) (fun _ => rfl)
  (fun pre W => (∃ v, Boxed W (w1.heap.size + 1) 38 v ∧ W.ownsRow w1.heap.size 3 1 v pre.length (pre.map placeV) ∧ (v = .slice none 0 0 ↔ pre = [])) ∧ Below w1.heap.size w1 W)
  (fun _ _ _ => False)
  (OwnFrom.and (Own.from (holdsRow_own w1.heap.size (w1.heap.size + 1) 38 3 1 (fun pre : List Nat => pre.length) (fun pre => pre.map placeV) (fun pre v => v = .slice none 0 0 ↔ pre = [])) _) (ownFrom_below (Nat.le_refl _) (by simp; omega)))
  (fun _ _ _ _ _ hs _ _ => hs)
  ⟨⟨_, bO.alloc _, World.ownsRow_nil _ _ _ _, by simp⟩, hB0⟩
  (fun c => { tmps := #[.agg #[.int .i64 x.kind, .int .u64 (word x.set.testBit 0), .int .u64 (word x.set.testBit 1), .int .u64 (word x.set.testBit 2), .int .u64 (word x.set.testBit 3), .slice B x.kids.len cap, .int .i64 x.lo, .int .i64 x.hi], .slice V bs.length cv, .int .i64 i, .pointer (some ⟨w.heap.size, 0, none⟩), undef, undef, .slice none 0 0, .int .i64 0, .pointer (some ⟨w1.heap.size, 0, none⟩), .int .i64 (errF x bs i), .pointer (some ⟨w1.heap.size + 1, 0, none⟩), .int .i64 (c : Int), .tuple #[.agg #[.int .u64 (word (findB x bs i) 0), .int .u64 (word (findB x bs i) 1), .int .u64 (word (findB x bs i) 2), .int .u64 (word (findB x bs i) 3), .int .u64 (word (findB x bs i) 4)], .int .i64 (errF x bs i)], .agg #[.int .i64 x.kind, .int .u64 (word x.set.testBit 0), .int .u64 (word x.set.testBit 1), .int .u64 (word x.set.testBit 2), .int .u64 (word x.set.testBit 3), .slice B x.kids.len cap, .int .i64 x.lo, .int .i64 x.hi], .slice V bs.length cv, .int .i64 i, .tuple #[.agg #[.int .u64 (word (findB x bs i) 0), .int .u64 (word (findB x bs i) 1), .int .u64 (word (findB x bs i) 2), .int .u64 (word (findB x bs i) 3), .int .u64 (word (findB x bs i) 4)], .int .i64 (errF x bs i)], .agg #[.int .u64 (word (findB x bs i) 0), .int .u64 (word (findB x bs i) 1), .int .u64 (word (findB x bs i) 2), .int .u64 (word (findB x bs i) 3), .int .u64 (word (findB x bs i) 4)], .int .i64 (errF x bs i), .agg #[.int .u64 (word (findB x bs i) 0), .int .u64 (word (findB x bs i) 1), .int .u64 (word (findB x bs i) 2), .int .u64 (word (findB x bs i) 3), .int .u64 (word (findB x bs i) 4)], .func (.func 173) #[] #[.pointer (some ⟨w1.heap.size + 1 + 1, 0, none⟩)], .int .i64 (c : Int), undef, undef, undef, undef, undef, undef], defers := [] }) ?assign ?body ?done ?stop
 case assign =>
  intro l c W K hK
  unfold placeArg
  gi_wp2
  exact hK
 case body =>
  rintro l pre c W ⟨⟨v, hv, hrow, hnil⟩, hB⟩ hlt
  have hc := hv.cell
  have hf := hv.frozen
  have hlt' : pre.length < 320 := hlt
  have hb1 : pre.length + 1 ≤ maxLen := Nat.le_trans (by omega) (show 2000000 ≤ maxLen by decide)
  have hb2 : (pre.length + 1) * 8 ≤ 140737488355328 := by omega
  gi_wp2_with (gi_at_builtin; refine wpListIn_append_own _ rfl _ _ 38 rfl w1.heap.size 3 i0 (.int .i64 0) 1 8 Tryz.underlying38 hi hz0 hz1 hz2 rfl (by decide) _ _ _ rfl (hrow.alloc _) ⟨W.heap.size, 0, none⟩ 1 1 [.int .i64 (c : Int)] rfl rfl (cell_one_new _ _ _) (by simp [Value.oneCell']) hb1 hb2 (Nat.le_trans hB.size (by simp)) ?_; intro v' w1' hown' hgrow _; obtain ⟨g', cap', rfl⟩ := ownsRow_succ hown'; obtain ⟨hv1, hv2, hr2, hk2, hb2⟩ := hv.appended (by decide) hrow hB.size (by omega) hown' hgrow; have hc1 := hv1.cell; have hf1 := hv1.frozen)
  exact ⟨hk2.from _, hb2, ⟨_, hv2, by rw [List.length_append, List.map_append]; exact hr2, by simp⟩, hB.trans hb2⟩
 case done =>
  rintro D ys W hD rfl ⟨⟨v, hv, hrow, hnil⟩, hB⟩ hK
  have hc := hv.cell
  have HB01 := HB01
  gi_wp2
  refine ⟨by simp, .inl ⟨_, _, rfl, run_takeDeferred hK, ?_⟩⟩
  refine ⟨_, results_tmp2 rfl _ _ _, v, rfl, ?_, ?_⟩
  ·have := ownsRow_putObj hrow (.deferred none) hK rfl
   unfold placesL intsC
   rw [List.length_map, List.map_map]
   exact this.mono HB01.out.size
  ·exact HB01.out.trans ((hB.trans (belowK_b (w := w1) (Nat.le_refl _) W D _ _ (by simp at hD; omega) hK rfl rfl)).mono HB01.out.size)
 case stop =>
  rintro D c pre W _ _ h _
  exact h.elim
theorem pends_go (x : Nd) (B : Option Addr) (cap : Nat) (V : Option Addr) (cv : Nat) (i : Int) (bs : List Nat) (w : World) (hsz : x.size ≤ 4611686018427387903) (hcap : x.kids.len ≤ cap) (ht : TreesAt w (fun b => b < w.heap.size) x.kids B) (hV : BytesAt w w.heap.size V bs) (hcv : bs.length ≤ cv) (hT : TabAt 0 Lib.deBruijn64tab w) (hg : 0 < w.heap.size) : Calls Tryz.prog 102 #[ndV x B cap, .slice V bs.length cv, .int .i64 i] w fun e w' => ∃ v, e = .returned (.tuple #[v, .int .i64 (errF x bs i)]) ∧ w'.ownsRow w.heap.size 3 1 v (placesL (findB x bs i)).length (intsC (placesL (findB x bs i))) ∧ Below w.heap.size w w' :=
 callsIn_wide.1 (pends_in 3 (Nat.le_refl _) x B cap V cv i bs w hsz hcap ht hV hcv hT hg)
end Go.Proofs.YtofbfafnpdaejaaGreatDoor
