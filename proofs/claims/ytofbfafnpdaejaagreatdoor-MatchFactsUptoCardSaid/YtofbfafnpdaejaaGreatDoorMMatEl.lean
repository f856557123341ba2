/- Texts of the claim. -/
import Derived.RangeFuncBox
import Derived.Maps.AppendAt
import Derived.Maps.OwnIn
import Derived.Lib.Hide
import Derived.Test.YtofbfafnpdaejaaGreatDoorMMatEd
namespace Go.Proofs.YtofbfafnpdaejaaGreatDoor
open Go.RowKit Go.Shelf Go.Maps
set_option linter.unusedSimpArgs false
set_option linter.unusedVariables false
set_option maxRecDepth 100000
set_option maxHeartbeats 8000000
attribute [local go_sem] Oper.semAt_some
def lastI (l : List Nat) : Int := match l.getLast? with | none => -1 | some c => (c : Int)
theorem lastI_snoc (l : List Nat) (c : Nat) : lastI (l ++ [c]) = (c : Int) := by simp [lastI]
theorem plong_in (n : Nat) (hn : 3 ≤ n) (x : Nd) (B : Option Addr) (cap : Nat) (V : Option Addr) (cv : Nat) (i : Int) (bs : List Nat) (w : World) (hsz : x.size ≤ 4611686018427387903) (hcap : x.kids.len ≤ cap) (ht : TreesAt w (fun b => b < w.heap.size) x.kids B) (hV : BytesAt w w.heap.size V bs) (hcv : bs.length ≤ cv) (hT : TabAt 0 Lib.deBruijn64tab w) (hg : 0 < w.heap.size) :
  CallsIn Fence.wide n Tryz.prog 104 #[ndV x B cap, .slice V bs.length cv, .int .i64 i] w fun e w' => e = .returned (.int .i64 (lastI (elems (findB x bs i) 320))) ∧ Below w.heap.size w w' := by
 have h1 : 1 ≤ n := by omega
 have hal : Below w.heap.size w ((w.alloc (.cells (ndA x B cap) 28)).alloc (.cells #[.int .i64 (-1)] 3)) := ((Below.refl _ _).alloc (Nat.le_refl _) _).alloc (by simp) _
 have hX : Blk ((w.alloc (.cells (ndA x B cap) 28)).alloc (.cells #[.int .i64 (-1)] 3)) w.heap.size 28 (ndA x B cap) := (Blk.new w _ _).alloc _
 have hL : Boxed ((w.alloc (.cells (ndA x B cap) 28)).alloc (.cells #[.int .i64 (-1)] 3)) (w.heap.size + 1) 3 (.int .i64 (-1)) := by
  have := Boxed.new (w.alloc (.cells (ndA x B cap) 28)) 3 (.int .i64 (-1))
  rw [World.size_alloc] at this
  exact this
 have HF := Lib.hid (find_go x B cap V cv i bs ((w.alloc (.cells (ndA x B cap) 28)).alloc (.cells #[.int .i64 (-1)] 3)) hsz hcap ((ht.below hal).weak (fun b h _ => Nat.lt_of_lt_of_le h hal.size)) ((hV.below hal).more hal.size) (TabAt.below hal hg hT) (Nat.lt_of_lt_of_le hg hal.size))
 have HAL := Lib.hid hal
 have HTB := Lib.hid hT
 have HLB := Lib.hid hL
 clear hal hT hV ht hL
 unfold ndV at HF ⊢
 unfold ndA at hX HF HAL HLB
 obtain ⟨x0, x1, x2, x3, x4, x5, x6, x7⟩ : _ ∧ _ ∧ _ ∧ _ ∧ _ ∧ _ ∧ _ ∧ _ := ⟨hX.cell 0, hX.cell 1, hX.cell 2, hX.cell 3, hX.cell 4, hX.cell 5, hX.cell 6, hX.cell 7⟩
 simp only [List.getElem?_toArray, List.getElem?_cons_zero, List.getElem?_cons_succ] at x0 x1 x2 x3 x4 x5 x6 x7
 have lx := hX.lt
 clear hX
 refine callsIn_of_wp_marks Tryz.func104 rfl trivial ?_ rfl
 simp only [Tryz.ntmps104, List.size_toArray, List.length_cons, List.length_nil, Nat.reduceAdd, Nat.reduceSub, Array.replicate_succ, Array.replicate_zero, List.push_toArray, List.append_toArray, List.nil_append, List.cons_append]
 gi_wp2_with (first
  | (refine ⟨trivial, ?_⟩; gi_at_call 56; refine (callsIn_wide.2 HF.out).mono ?_; rintro e w1 ⟨rfl, hb1⟩)
  | (refine ⟨trivial, ?_⟩; gi_at_call 150; refine (callsIn_wide.2 (pall_go (findB x bs i) _)).mono ?_; rintro e w' ⟨rfl, rfl⟩))
 have hs0 : ((w.alloc (.cells #[.int .i64 x.kind, .int .u64 (word x.set.testBit 0), .int .u64 (word x.set.testBit 1), .int .u64 (word x.set.testBit 2), .int .u64 (word x.set.testBit 3), .slice B x.kids.len cap, .int .i64 x.lo, .int .i64 x.hi] 28)).alloc (.cells #[.int .i64 (-1)] 3)).heap.size = w.heap.size + 2 := by simp
 have hw1 : w.heap.size + 2 ≤ w1.heap.size := by rw [← hs0]; exact hb1.size
 have hL1 : Boxed w1 (w.heap.size + 1) 3 (.int .i64 (-1)) := Blk.below HLB.out hb1 (by omega)
 have HB01 := Lib.hid (HAL.out.trans (hb1.mono HAL.out.size))
 have hT1 : TabAt 0 Lib.deBruijn64tab w1 := TabAt.below HB01.out hg HTB.out
 clear hb1 HF HAL HLB x0 x1 x2 x3 x4 x5 x6 x7 lx hs0
 have hB1 : Below w1.heap.size w1 ((w1.alloc (.cells #[.int .u64 (word (findB x bs i) 0), .int .u64 (word (findB x bs i) 1), .int .u64 (word (findB x bs i) 2), .int .u64 (word (findB x bs i) 3), .int .u64 (word (findB x bs i) 4)] 69)).alloc (.cells #[.int .u64 (word (findB x bs i) 0), .int .u64 (word (findB x bs i) 1), .int .u64 (word (findB x bs i) 2), .int .u64 (word (findB x bs i) 3), .int .u64 (word (findB x bs i) 4)] 69)) := ((Below.refl _ w1).alloc (Nat.le_refl _) _).alloc (by simp) _
 have bS : Blk ((w1.alloc (.cells #[.int .u64 (word (findB x bs i) 0), .int .u64 (word (findB x bs i) 1), .int .u64 (word (findB x bs i) 2), .int .u64 (word (findB x bs i) 3), .int .u64 (word (findB x bs i) 4)] 69)).alloc (.cells #[.int .u64 (word (findB x bs i) 0), .int .u64 (word (findB x bs i) 1), .int .u64 (word (findB x bs i) 2), .int .u64 (word (findB x bs i) 3), .int .u64 (word (findB x bs i) 4)] 69)) (w1.heap.size + 1) 69 #[.int .u64 (word (findB x bs i) 0), .int .u64 (word (findB x bs i) 1), .int .u64 (word (findB x bs i) 2), .int .u64 (word (findB x bs i) 3), .int .u64 (word (findB x bs i) 4)] := Blk.new_at (by simp)
 have hL2 : Boxed ((w1.alloc (.cells #[.int .u64 (word (findB x bs i) 0), .int .u64 (word (findB x bs i) 1), .int .u64 (word (findB x bs i) 2), .int .u64 (word (findB x bs i) 3), .int .u64 (word (findB x bs i) 4)] 69)).alloc (.cells #[.int .u64 (word (findB x bs i) 0), .int .u64 (word (findB x bs i) 1), .int .u64 (word (findB x bs i) 2), .int .u64 (word (findB x bs i) 3), .int .u64 (word (findB x bs i) 4)] 69)) (w.heap.size + 1) 3 (.int .i64 (-1)) := Blk.below hL1 hB1 (by omega)
 have hs2 : ((w1.alloc (.cells #[.int .u64 (word (findB x bs i) 0), .int .u64 (word (findB x bs i) 1), .int .u64 (word (findB x bs i) 2), .int .u64 (word (findB x bs i) 3), .int .u64 (word (findB x bs i) 4)] 69)).alloc (.cells #[.int .u64 (word (findB x bs i) 0), .int .u64 (word (findB x bs i) 1), .int .u64 (word (findB x bs i) 2), .int .u64 (word (findB x bs i) 3), .int .u64 (word (findB x bs i) 4)] 69)).heap.size = w1.heap.size + 2 := by simp
 have hT2 := TabAt.below hB1 (by omega) hT1
 have hB02 := HB01.out.trans (hB1.mono (by omega))
 generalize hW2 : (w1.alloc (.cells #[.int .u64 (word (findB x bs i) 0), .int .u64 (word (findB x bs i) 1), .int .u64 (word (findB x bs i) 2), .int .u64 (word (findB x bs i) 3), .int .u64 (word (findB x bs i) 4)] 69)).alloc (.cells #[.int .u64 (word (findB x bs i) 0), .int .u64 (word (findB x bs i) 1), .int .u64 (word (findB x bs i) 2), .int .u64 (word (findB x bs i) 3), .int .u64 (word (findB x bs i) 4)] 69) = W2 at *
 refine wpIn_rangeFunc_ownG rfl h1 (gf := 173) (lb := #[.pointer (some ⟨w1.heap.size + 1, 0, none⟩)]) rfl trivial (enters_of Tryz.func173 (by kernel_rfl) rfl)
  (pall_stops (n - 1) (by omega) (findB x bs i) (w1.heap.size + 1) w.heap.size W2 hg (by omega) bS hT2) belowK_t (belowK_b (by omega)) (Below.refl _ _) (fun _ => rfl)
  (fun pre W => Boxed W (w.heap.size + 1) 3 (.int .i64 (lastI pre)) ∧ Below w.heap.size w W)
  (fun _ _ _ => False)
  (fun s W W' row h hg hr => ⟨(hg.block _ (Blk.lt h.1) (fun e => by
    obtain ⟨_, o, h3, h4⟩ := hr _ e.symm
    rw [show W.heap[_]? = _ from h.1] at h3
    cases h3
    cases h4)).trans h.1, h.2.grown hg h.2.size (fun r e => by have := (hr r e).1; omega)⟩)
  (fun _ _ _ _ _ hs _ _ => hs)
  ⟨hL2, hB02⟩
  (fun c => { tmps := #[.agg #[.int .i64 x.kind, .int .u64 (word x.set.testBit 0), .int .u64 (word x.set.testBit 1), .int .u64 (word x.set.testBit 2), .int .u64 (word x.set.testBit 3), .slice B x.kids.len cap, .int .i64 x.lo, .int .i64 x.hi], .slice V bs.length cv, .int .i64 i, .pointer (some ⟨w.heap.size, 0, none⟩), undef, undef, .int .i64 0, .pointer (some ⟨w.heap.size + 1, 0, none⟩), .pointer (some ⟨w1.heap.size, 0, none⟩), .int .i64 (errF x bs i), .int .i64 (c : Int), .tuple #[.agg #[.int .u64 (word (findB x bs i) 0), .int .u64 (word (findB x bs i) 1), .int .u64 (word (findB x bs i) 2), .int .u64 (word (findB x bs i) 3), .int .u64 (word (findB x bs i) 4)], .int .i64 (errF x bs i)], .agg #[.int .i64 x.kind, .int .u64 (word x.set.testBit 0), .int .u64 (word x.set.testBit 1), .int .u64 (word x.set.testBit 2), .int .u64 (word x.set.testBit 3), .slice B x.kids.len cap, .int .i64 x.lo, .int .i64 x.hi], .slice V bs.length cv, .int .i64 i, .tuple #[.agg #[.int .u64 (word (findB x bs i) 0), .int .u64 (word (findB x bs i) 1), .int .u64 (word (findB x bs i) 2), .int .u64 (word (findB x bs i) 3), .int .u64 (word (findB x bs i) 4)], .int .i64 (errF x bs i)], .agg #[.int .u64 (word (findB x bs i) 0), .int .u64 (word (findB x bs i) 1), .int .u64 (word (findB x bs i) 2), .int .u64 (word (findB x bs i) 3), .int .u64 (word (findB x bs i) 4)], .int .i64 (errF x bs i), .agg #[.int .u64 (word (findB x bs i) 0), .int .u64 (word (findB x bs i) 1), .int .u64 (word (findB x bs i) 2), .int .u64 (word (findB x bs i) 3), .int .u64 (word (findB x bs i) 4)], .func (.func 173) #[] #[.pointer (some ⟨w1.heap.size + 1, 0, none⟩)], .int .i64 (c : Int), undef, undef], defers := [] }) ?assign ?body ?done ?stop
 case assign =>
  intro l c W K hK
  unfold placeArg
  gi_wp2
  exact hK
 case body =>
  rintro l pre c W ⟨hv, hB⟩ hlt
  have hc := hv.cell
  have hf := hv.frozen
  gi_wp2
  refine (?_ : KeepsFrom W2.heap.size W _ ∧ Below w.heap.size W _ ∧ _)
  have hg' := set_grown W (w.heap.size + 1) 0 (.int .i64 (c : Int))
  refine ⟨KeepsFrom.of_grownBy hg' (fun j e => by cases e; omega), (Below.refl _ W).grown hg' hB.size (fun k e => by cases e; omega), ?_, hB.grown hg' hB.size (fun k e => by cases e; omega)⟩
  rw [lastI_snoc]
  exact hv.set _
 case done =>
  rintro D ys W hD rfl ⟨hv, hB⟩ hK
  have hc := hv.cell
  gi_wp2
  refine ⟨by simp, .inl ⟨_, _, rfl, run_takeDeferred hK, ?_⟩⟩
  exact ⟨_, results_tmp rfl _ _ _, rfl, hB.trans (belowK_b (w := w) (Nat.le_refl _) W D _ _ (by omega) hK rfl rfl)⟩
 case stop =>
  rintro D c pre W _ _ h _
  exact h.elim
theorem plong_go (x : Nd) (B : Option Addr) (cap : Nat) (V : Option Addr) (cv : Nat) (i : Int) (bs : List Nat) (w : World) (hsz : x.size ≤ 4611686018427387903) (hcap : x.kids.len ≤ cap) (ht : TreesAt w (fun b => b < w.heap.size) x.kids B) (hV : BytesAt w w.heap.size V bs) (hcv : bs.length ≤ cv) (hT : TabAt 0 Lib.deBruijn64tab w) (hg : 0 < w.heap.size) : Calls Tryz.prog 104 #[ndV x B cap, .slice V bs.length cv, .int .i64 i] w fun e w' => e = .returned (.int .i64 (lastI (elems (findB x bs i) 320))) ∧ Below w.heap.size w w' :=
 callsIn_wide.1 (plong_in 3 (Nat.le_refl _) x B cap V cv i bs w hsz hcap ht hV hcv hT hg)
noncomputable def fullB (x : Nd) (bs : List Nat) : Bool := findB x bs 0 bs.length
theorem pfull_any (x : Nd) (B : Option Addr) (cap : Nat) (V : Option Addr) (cv : Nat) (bs : List Nat) (w : World) (hsz : x.size ≤ 4611686018427387903) (hcap : x.kids.len ≤ cap) (ht : TreesAt w (fun b => b < w.heap.size) x.kids B) (hV : BytesAt w w.heap.size V bs) (hT : TabAt 0 Lib.deBruijn64tab w) (hg : 0 < w.heap.size) : Calls Tryz.prog 12 #[ndV x B cap, .slice V bs.length cv] w fun e w' => e = .returned (.bool (fullB x bs)) ∧ Below w.heap.size w w' := by
 have hX : Blk (w.alloc (.cells (ndA x B cap) 28)) w.heap.size 28 (ndA x B cap) := Blk.new w _ _
 have hal : Below w.heap.size w (w.alloc (.cells (ndA x B cap) 28)) := (Below.refl _ _).alloc (Nat.le_refl _) _
 have HF := Lib.hid (find_go x B cap V cv 0 bs (w.alloc (.cells (ndA x B cap) 28)) hsz hcap ((ht.below hal).weak (fun b h _ => Nat.lt_of_lt_of_le h hal.size)) ((hV.below hal).more hal.size) (TabAt.below hal hg hT) (Nat.lt_of_lt_of_le hg hal.size))
 have HAL := Lib.hid hal
 clear hal hT hV ht
 unfold ndV at HF ⊢
 unfold ndA at hX HF HAL
 obtain ⟨x0, x1, x2, x3, x4, x5, x6, x7⟩ : _ ∧ _ ∧ _ ∧ _ ∧ _ ∧ _ ∧ _ ∧ _ := ⟨hX.cell 0, hX.cell 1, hX.cell 2, hX.cell 3, hX.cell 4, hX.cell 5, hX.cell 6, hX.cell 7⟩
 simp only [List.getElem?_toArray, List.getElem?_cons_zero, List.getElem?_cons_succ] at x0 x1 x2 x3 x4 x5 x6 x7
 have lx := hX.lt
 clear hX
 by_cases he : errF x bs 0 = 0
 ·have HV := Lib.hid (show fullB x bs = findB x bs 0 bs.length from rfl)
  have hlen := (errF_zero he).2.1
  rw [he] at HF
  clear he
  go_enter Tryz.func12, Tryz.ntmps12
  go_wp2_with fail
  refine HF.out.mono ?_
  rintro e w1 ⟨rfl, hb1⟩
  have HB01 := Lib.hid (HAL.out.trans (hb1.mono HAL.out.size))
  have HP := Lib.hid (fun W => phas_go (findB x bs 0) bs.length (by omega) W)
  clear hb1 HF HAL x0 x1 x2 x3 x4 x5 x6 x7 lx
  dsimp only
  go_wp2_with fail
  refine (HP.out _).mono ?_
  rintro e w2 ⟨rfl, hb2⟩
  dsimp only
  go_wp2
  go_light
  go_ret
  exact ⟨by rw [HV.out]; rfl, HB01.out.trans ((((Below.refl w1.heap.size w1).alloc (Nat.le_refl _) _).trans (hb2.mono (by simp))).mono HB01.out.size)⟩
 ·have HV := Lib.hid (show fullB x bs = false from by unfold fullB; rw [findB_no he])
  have hbe : (errF x bs 0 == 0) = false := by simpa using he
  generalize errF x bs 0 = er at *
  go_enter Tryz.func12, Tryz.ntmps12
  go_wp2_with fail
  refine HF.out.mono ?_
  rintro e w1 ⟨rfl, hb1⟩
  have HB01 := Lib.hid (HAL.out.trans (hb1.mono HAL.out.size))
  clear hb1 HF HAL x0 x1 x2 x3 x4 x5 x6 x7 lx
  dsimp only
  go_wp2
  go_light
  go_ret
  exact ⟨by rw [HV.out]; rfl, HB01.out.trans (((Below.refl w1.heap.size w1).alloc (Nat.le_refl _) _).mono HB01.out.size)⟩
theorem pfull_go (x : Nd) (B : Option Addr) (cap : Nat) (V : Option Addr) (cv : Nat) (bs : List Nat) (w : World) (hsz : x.size ≤ 4611686018427387903) (hcap : x.kids.len ≤ cap) (ht : TreesAt w (fun b => b < w.heap.size) x.kids B) (hV : BytesAt w w.heap.size V bs) (hcv : bs.length ≤ cv) (hT : TabAt 0 Lib.deBruijn64tab w) (hg : 0 < w.heap.size) : Calls Tryz.prog 12 #[ndV x B cap, .slice V bs.length cv] w fun e w' => e = .returned (.bool (fullB x bs)) ∧ Below w.heap.size w w' :=
 pfull_any x B cap V cv bs w hsz hcap ht hV hT hg
end Go.Proofs.YtofbfafnpdaejaaGreatDoor
