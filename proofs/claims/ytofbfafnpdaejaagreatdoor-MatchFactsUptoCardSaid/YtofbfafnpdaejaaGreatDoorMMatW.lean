/- Texts of the claim. -/
import Derived.Test.YtofbfafnpdaejaaGreatDoorMMatV
import Derived.Test.YtofbfafnpdaejaaGreatDoorMMatN
namespace Go.Proofs.YtofbfafnpdaejaaGreatDoor
open Go.RowKit Go.Maps
set_option linter.unusedSimpArgs false
set_option linter.unusedVariables false
set_option maxRecDepth 100000
set_option maxHeartbeats 8000000
structure EndI (x : Nd) (bs : List Nat) (base gm b cp fm cv : Nat) (V : Option Addr) (k i : Nat) (w W : World) : Prop where
 mw : MW x bs base gm b cp fm cv V w W
 br : Blk W w.heap.size 69 #[.int .u64 0, .int .u64 0, .int .u64 0, .int .u64 0, .int .u64 0]
 bq : Blk W (w.heap.size + 1) 168 #[.int .i64 (k : Int), .int .i64 (i : Int)]
 lt : fm < w.heap.size
theorem EndI.call {x : Nd} {bs : List Nat} {base gm b cp fm cv k i : Nat} {V : Option Addr} {w W W' : World} (h : EndI x bs base gm b cp fm cv V k i w W) (hm : MatAt W' x bs base gm b cp fm V cv) (hg : W.grownBy W' (some fm)) : EndI x bs base gm b cp fm cv V k i w W' :=
 ⟨h.mw.call hm hg, h.br.past hg h.lt, h.bq.past hg (by have := h.lt; omega), h.lt⟩
theorem EndI.below {x : Nd} {bs : List Nat} {base gm b cp fm cv k i : Nat} {V : Option Addr} {w W W' : World} (h : EndI x bs base gm b cp fm cv V k i w W) (hb : Below W.heap.size W W') : EndI x bs base gm b cp fm cv V k i w W' :=
 ⟨h.mw.below hb, h.br.below hb h.br.lt, h.bq.below hb h.bq.lt, h.lt⟩
theorem end_made {x : Nd} {bs : List Nat} {base gm b cp fm cv k i : Nat} {V : Option Addr} {w W0 : World} (hM : MatAt w x bs base gm b cp fm V cv) (h : (w.alloc (.cells #[.int .u64 0, .int .u64 0, .int .u64 0, .int .u64 0, .int .u64 0] 69)).alloc (.cells #[.int .i64 (k : Int), .int .i64 (i : Int)] 168) = W0) : EndI x bs base gm b cp fm cv V k i w W0 := by
 rw [← h]
 exact ⟨((MW.refl hM).alloc _).alloc _, (Blk.new w _ _).alloc _, Blk.new_at (by simp), hM.memo.lt⟩
theorem end_done {x z : Nd} {bs : List Nat} {base gm b cp fm cv k i : Nat} {V : Option Addr} {w W : World} (hM : MatAt w x bs base gm b cp fm V cv) (h : EndI x bs base gm b cp fm cv V k i w W) (s : Nat → Bool) (hs : endsB z bs i = s) :
  Blk (stow5 W w.heap.size s) w.heap.size 69 #[.int .u64 (word s 0), .int .u64 (word s 1), .int .u64 (word s 2), .int .u64 (word s 3), .int .u64 (word s 4)] ∧ (Ending.returned (.agg #[.int .u64 (word s 0), .int .u64 (word s 1), .int .u64 (word s 2), .int .u64 (word s 3), .int .u64 (word s 4)]) = .returned (.agg #[.int .u64 (word (endsB z bs i) 0), .int .u64 (word (endsB z bs i) 1), .int .u64 (word (endsB z bs i) 2), .int .u64 (word (endsB z bs i) 3), .int .u64 (word (endsB z bs i) 4)]) ∧ MatAt (stow5 W w.heap.size s) x bs base gm b cp fm V cv ∧ w.grownBy (stow5 W w.heap.size s) (some fm)) := by
 have := h.mw.stow hM (g := w.heap.size) (Nat.le_refl _) s
 exact ⟨h.br.put5 s, by rw [hs], this.mat, this.grown⟩
theorem ends_of {x z : Nd} {bs : List Nat} (hL : LookC x bs z) : EndsC x bs z := by
 intro base gm b cp fm cv V w hM k i hkb hi
 have hlen := hM.len
 have hx := hkb.here
 have hk : k < x.size := by have := (List.getElem?_eq_some_iff.1 hx).1; rw [Nd.nodes_len] at this; exact this
 have hsm := hM.small
 have hcap := hM.cap
 obtain ⟨W0, hW0⟩ : ∃ W0, (w.alloc (.cells #[.int .u64 0, .int .u64 0, .int .u64 0, .int .u64 0, .int .u64 0] 69)).alloc (.cells #[.int .i64 (k : Int), .int .i64 (i : Int)] 168) = W0 := ⟨_, rfl⟩
 have H0 := Lib.hid (end_made hM hW0)
 have HM := Lib.hid hM
 have HKB := Lib.hid hkb
 have HL := Lib.hid hL
 have HX := Lib.hid hx
 obtain ⟨q0, q1⟩ : _ ∧ _ := ⟨H0.out.bq.cell 0, H0.out.bq.cell 1⟩
 obtain ⟨m0, m2⟩ : _ ∧ _ := ⟨H0.out.mw.mat.box.cell 0, H0.out.mw.mat.box.cell 2⟩
 simp only [List.getElem?_toArray, List.getElem?_cons_zero, List.getElem?_cons_succ] at q0 q1 m0 m2
 have lr := H0.out.br.lt
 have lq := H0.out.bq.lt
 have lg := H0.out.mw.mat.box.lt
 obtain ⟨r0, r1, r2, r3, r4⟩ := H0.out.br.c5w
 obtain ⟨f0, f1, f2, f3, f4⟩ := H0.out.br.f5w
 have hb1 : W0.heap[fm]? = W0.heap[fm]? := rfl
 rcases memo_look (z := z) H0.out.mw.mat.memo (k := k) (i := i) (by omega) (by omega) HX.out with hl | hl
 ·have hl0 := hl W0.drew rfl
  have hl1 := hl (W0.alloc (.cells #[.int .u64 0, .int .u64 0, .int .u64 0, .int .u64 0, .int .u64 0] 69)).drew (((Below.refl W0.heap.size W0).alloc (Nat.le_refl _) _).block fm H0.out.mw.mat.memo.lt)
  clear hl hM hkb hL hx hb1
  go_enter Tryz.func112, Tryz.ntmps112
  go_wp2
  go_region
  all_goals
   have H1 := Lib.hid (H0.out.below (show Below W0.heap.size W0 (W0.alloc (.cells #[.int .u64 0, .int .u64 0, .int .u64 0, .int .u64 0, .int .u64 0] 69)).drew from ((Below.refl _ _).alloc (Nat.le_refl _) _).drew))
   clear hl0 hl1 q0 q1 m0 m2 r0 r1 r2 r3 r4 f0 f1 f2 f3 f4 lr lq lg hW0
   generalize (W0.alloc (.cells #[.int .u64 0, .int .u64 0, .int .u64 0, .int .u64 0, .int .u64 0] 69)).drew = W1 at H1 ⊢
   clear H0
   obtain ⟨B, A, n1, c1, c2, k0, k1, k2, k3, k4, k5, k6, k7, k8, k9, k10⟩ := H1.out.mw.mat.parts k z HX.out
   have m0 := H1.out.mw.mat.box.cell 0
   simp only [List.getElem?_toArray, List.getElem?_cons_zero, List.getElem?_cons_succ] at m0
   have lg := H1.out.mw.mat.box.lt
   have HC := Lib.hid (HL.out base gm b cp fm cv V W1 H1.out.mw.mat k i B A n1 c1 c2 HKB.out hi k9 k10)
   have hd1 : (k : Int) < (x.size : Int) := by omega
   have hd2 : (k : Int) < (cp : Int) := by omega
   clear k9 k10
  all_goals go_wp2_with fail
  all_goals
   refine HC.out.mono ?_
   rintro _ W4 ⟨rfl, hm4, hg4⟩
   have H4 := Lib.hid (H1.out.call hm4 hg4)
   clear hm4 hg4 HC H1 k0 k1 k2 k3 k4 k5 k6 k7 k8 m0 lg hd1 hd2
   dsimp only
  all_goals go_upto_region 6 with fail
  all_goals
   have H5 := Lib.hid (H4.out.below ((Below.refl _ _).alloc (Nat.le_refl _) (.cells #[.int .u64 (word (endsB z bs i) 0), .int .u64 (word (endsB z bs i) 1), .int .u64 (word (endsB z bs i) 2), .int .u64 (word (endsB z bs i) 3), .int .u64 (word (endsB z bs i) 4)] 69)))
   have hb5 := Blk.new W4 69 #[.int .u64 (word (endsB z bs i) 0), .int .u64 (word (endsB z bs i) 1), .int .u64 (word (endsB z bs i) 2), .int .u64 (word (endsB z bs i) 3), .int .u64 (word (endsB z bs i) 4)]
   generalize hW5 : W4.alloc (.cells #[.int .u64 (word (endsB z bs i) 0), .int .u64 (word (endsB z bs i) 1), .int .u64 (word (endsB z bs i) 2), .int .u64 (word (endsB z bs i) 3), .int .u64 (word (endsB z bs i) 4)] 69) = W5 at *
   generalize hg5 : W4.heap.size = g5 at *
   have H5d := Lib.hid (H5.out.below (Below.refl _ _).drew)
   obtain ⟨W6, hr6, hm6, hg6⟩ := memo_put (z := z) (x := x) (bs := bs) H5d.out.mw.mat.memo (k := k) (i := i) (by omega) (by omega) HX.out
   obtain ⟨q0, q1⟩ : _ ∧ _ := ⟨H5d.out.bq.cell 0, H5d.out.bq.cell 1⟩
   have m2 := H5d.out.mw.mat.box.cell 2
   obtain ⟨p0, p1, p2, p3, p4⟩ := hb5.drew.c5w
   simp only [List.getElem?_toArray, List.getElem?_cons_zero, List.getElem?_cons_succ] at q0 q1 m2
   have lg := H5d.out.mw.mat.box.lt
   have lq := H5d.out.bq.lt
   have H6 := Lib.hid (H5d.out.call (H5d.out.mw.mat.grown hg6 hm6) hg6)
   have hlf : fm < g5 := by have := H4.out.lt; have := H4.out.br.lt; omega
   have hb6 := hb5.drew.past hg6 hlf
   obtain ⟨s0, s1, s2, s3, s4⟩ := hb6.c5w
   obtain ⟨r0, r1, r2, r3, r4⟩ := H6.out.br.c5w
   obtain ⟨f0, f1, f2, f3, f4⟩ := H6.out.br.f5w
   have lr := H6.out.br.lt
   have hE := end_done HM.out H6.out (endsB z bs i) rfl
   have HE := Lib.hid hE
   clear hE hm6 hg6 hb6 hb5 hlf hW5
  all_goals go_region
  all_goals go_wp2
  all_goals exact bodyPost_ret (ret_pl Tryz.results112 rfl HE.out.1) rfl ⟨rfl, HE.out.2.2⟩
 ·have hl0 := hl W0.drew rfl
  have hl1 := hl (W0.alloc (.cells #[.int .u64 0, .int .u64 0, .int .u64 0, .int .u64 0, .int .u64 0] 69)).drew (((Below.refl W0.heap.size W0).alloc (Nat.le_refl _) _).block fm H0.out.mw.mat.memo.lt)
  obtain ⟨e1, e2, e3, e4⟩ := end_done HM.out H0.out (endsB z bs i) rfl
  have HB := Lib.hid (show Below (stow5 W0 w.heap.size (endsB z bs i)).heap.size (stow5 W0 w.heap.size (endsB z bs i)) ((stow5 W0 w.heap.size (endsB z bs i)).alloc (.cells #[.int .u64 (word (endsB z bs i) 0), .int .u64 (word (endsB z bs i) 1), .int .u64 (word (endsB z bs i) 2), .int .u64 (word (endsB z bs i) 3), .int .u64 (word (endsB z bs i) 4)] 69)).drew from ((Below.refl _ _).alloc (Nat.le_refl _) _).drew)
  have hE : Blk ((stow5 W0 w.heap.size (endsB z bs i)).alloc (.cells #[.int .u64 (word (endsB z bs i) 0), .int .u64 (word (endsB z bs i) 1), .int .u64 (word (endsB z bs i) 2), .int .u64 (word (endsB z bs i) 3), .int .u64 (word (endsB z bs i) 4)] 69)).drew w.heap.size 69 #[.int .u64 (word (endsB z bs i) 0), .int .u64 (word (endsB z bs i) 1), .int .u64 (word (endsB z bs i) 2), .int .u64 (word (endsB z bs i) 3), .int .u64 (word (endsB z bs i) 4)] ∧ MatAt ((stow5 W0 w.heap.size (endsB z bs i)).alloc (.cells #[.int .u64 (word (endsB z bs i) 0), .int .u64 (word (endsB z bs i) 1), .int .u64 (word (endsB z bs i) 2), .int .u64 (word (endsB z bs i) 3), .int .u64 (word (endsB z bs i) 4)] 69)).drew x bs base gm b cp fm V cv ∧ w.grownBy ((stow5 W0 w.heap.size (endsB z bs i)).alloc (.cells #[.int .u64 (word (endsB z bs i) 0), .int .u64 (word (endsB z bs i) 1), .int .u64 (word (endsB z bs i) 2), .int .u64 (word (endsB z bs i) 3), .int .u64 (word (endsB z bs i) 4)] 69)).drew (some fm) := ⟨(Blk.alloc e1 _).drew, e3.below HB.out, grown_trans e4 (grown_below HB.out)⟩
  have HE := Lib.hid hE
  clear hl hM hkb hL hx hb1 hE e1 e2 e3 e4 HB
  go_enter Tryz.func112, Tryz.ntmps112
  go_wp2
  go_region
  all_goals go_wp2
  all_goals exact bodyPost_ret (ret_pl Tryz.results112 rfl HE.out.1) rfl ⟨rfl, HE.out.2⟩
end Go.Proofs.YtofbfafnpdaejaaGreatDoor
