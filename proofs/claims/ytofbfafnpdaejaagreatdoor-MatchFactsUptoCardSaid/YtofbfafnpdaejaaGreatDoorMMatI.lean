/- Texts of the claim. -/
import Derived.Test.YtofbfafnpdaejaaGreatDoorMMatH
namespace Go.Proofs.YtofbfafnpdaejaaGreatDoor
open Go.RowKit
set_option linter.unusedSimpArgs false
set_option linter.unusedVariables false
set_option maxRecDepth 100000
set_option maxHeartbeats 8000000
structure TimesI (x : Nd) (bs : List Nat) (base gm b cp fm cv : Nat) (V : Option Addr) (w W : World) (a : Nat) (q s : Nat → Bool) : Prop where
 mw : MW x bs base gm b cp fm cv V w W
 bq : Blk W w.heap.size 69 #[.int .u64 (word q 0), .int .u64 (word q 1), .int .u64 (word q 2), .int .u64 (word q 3), .int .u64 (word q 4)]
 br : Blk W (w.heap.size + 1) 69 #[.int .u64 0, .int .u64 0, .int .u64 0, .int .u64 0, .int .u64 0]
 ba : Blk W a 69 #[.int .u64 (word s 0), .int .u64 (word s 1), .int .u64 (word s 2), .int .u64 (word s 3), .int .u64 (word s 4)]
 far : w.heap.size + 2 ≤ a
 lt : fm < w.heap.size
theorem TimesI.call {x : Nd} {bs : List Nat} {base gm b cp fm cv a : Nat} {V : Option Addr} {w W W' : World} {q s : Nat → Bool} (h : TimesI x bs base gm b cp fm cv V w W a q s) (hm : MatAt W' x bs base gm b cp fm V cv) (hg : W.grownBy W' (some fm)) : TimesI x bs base gm b cp fm cv V w W' a q s :=
 ⟨h.mw.call hm hg, h.bq.past hg h.lt, h.br.past hg (by have := h.lt; omega), h.ba.past hg (by have := h.lt; have := h.far; omega), h.far, h.lt⟩
theorem TimesI.below {x : Nd} {bs : List Nat} {base gm b cp fm cv a : Nat} {V : Option Addr} {w W W' : World} {q s : Nat → Bool} (h : TimesI x bs base gm b cp fm cv V w W a q s) (hb : Below W.heap.size W W') : TimesI x bs base gm b cp fm cv V w W' a q s :=
 ⟨h.mw.below hb, h.bq.below hb h.bq.lt, h.br.below hb h.br.lt, h.ba.below hb h.ba.lt, h.far, h.lt⟩
theorem TimesI.alloc {x : Nd} {bs : List Nat} {base gm b cp fm cv a : Nat} {V : Option Addr} {w W : World} {q s : Nat → Bool} (h : TimesI x bs base gm b cp fm cv V w W a q s) (o : Obj) : TimesI x bs base gm b cp fm cv V w (W.alloc o) a q s := h.below ((Below.refl _ _).alloc (Nat.le_refl _) _)
theorem TimesI.putq {x : Nd} {bs : List Nat} {base gm b cp fm cv a : Nat} {V : Option Addr} {w W : World} {q s : Nat → Bool} (hM : MatAt w x bs base gm b cp fm V cv) (h : TimesI x bs base gm b cp fm cv V w W a q s) (q' : Nat → Bool) : TimesI x bs base gm b cp fm cv V w (stow5 W w.heap.size q') a q' s :=
 have g5 := grown5 W w.heap.size q'
 have := h.far
 ⟨h.mw.stow hM (Nat.le_refl _) q', h.bq.put5 q', h.br.grown g5 (by simp), h.ba.grown g5 (by simp; omega), h.far, h.lt⟩
theorem TimesI.puts {x : Nd} {bs : List Nat} {base gm b cp fm cv a : Nat} {V : Option Addr} {w W : World} {q s : Nat → Bool} (hM : MatAt w x bs base gm b cp fm V cv) (h : TimesI x bs base gm b cp fm cv V w W a q s) (s' : Nat → Bool) : TimesI x bs base gm b cp fm cv V w (stow5 W a s') a q s' :=
 have g5 := grown5 W a s'
 have := h.far
 ⟨h.mw.stow hM (by omega) s', h.bq.grown g5 (by simp; omega), h.br.grown g5 (by simp; omega), h.ba.put5 s', h.far, h.lt⟩
theorem times11_go {x : Nd} {bs : List Nat} {z : Nd} (hE : EachC x bs z) {base gm b cp fm cv : Nat} {V : Option Addr} (w : World) (hM : MatAt w x bs base gm b cp fm V cv) (k : Nat) (p : Nat → Bool) (lo : Nat) (hi : Int) (hlo : lo ≤ 1000000) (hhi : hi ≤ 1000000) (hh : hi < 0 ∨ (lo : Int) ≤ hi) (hmn : -9000000000000000000 ≤ hi) (hk : Below1 x.nodes k z) (hp : ∀ c, p c = true → c ≤ bs.length) :
  Calls Tryz.prog 189 #[.pointer (some ⟨gm, 0, none⟩), .int .i64 (k : Int), .agg #[.int .u64 (word p 0), .int .u64 (word p 1), .int .u64 (word p 2), .int .u64 (word p 3), .int .u64 (word p 4)], .int .i64 (lo : Int), .int .i64 hi] w fun e w' => e = .returned (.agg #[.int .u64 ((word (imgB (repR (lo : Int) hi (z.rel bs)) p) 0 : Nat) : Int), .int .u64 ((word (imgB (repR (lo : Int) hi (z.rel bs)) p) 1 : Nat) : Int), .int .u64 ((word (imgB (repR (lo : Int) hi (z.rel bs)) p) 2 : Nat) : Int), .int .u64 ((word (imgB (repR (lo : Int) hi (z.rel bs)) p) 3 : Nat) : Int), .int .u64 ((word (imgB (repR (lo : Int) hi (z.rel bs)) p) 4 : Nat) : Int)]) ∧ MatAt w' x bs base gm b cp fm V cv ∧ w.grownBy w' (some fm) := by
 obtain ⟨W0, hW0⟩ : ∃ W0, (w.alloc (.cells #[.int .u64 (word p 0), .int .u64 (word p 1), .int .u64 (word p 2), .int .u64 (word p 3), .int .u64 (word p 4)] 69)).alloc (.cells #[.int .u64 0, .int .u64 0, .int .u64 0, .int .u64 0, .int .u64 0] 69) = W0 := ⟨_, rfl⟩
 have HM := Lib.hid hM
 have hlt := hM.memo.lt
 have HW0 := Lib.hid (show MW x bs base gm b cp fm cv V w W0 from by rw [← hW0]; exact ((MW.refl hM).alloc _).alloc _)
 have HB0 := Lib.hid (show Blk W0 w.heap.size 69 #[.int .u64 (word p 0), .int .u64 (word p 1), .int .u64 (word p 2), .int .u64 (word p 3), .int .u64 (word p 4)] from by rw [← hW0]; exact (Blk.new _ _ _).alloc _)
 have HR0 := Lib.hid (show Blk W0 (w.heap.size + 1) 69 #[.int .u64 0, .int .u64 0, .int .u64 0, .int .u64 0, .int .u64 0] from by rw [← hW0]; exact Blk.new_at (by simp))
 have HE := Lib.hid hE
 have HKB := Lib.hid hk
 have HP := Lib.hid hp
 have HLN := Lib.hid hM.len
 have HJ := Lib.hid (just_go hE W0 HW0.out.mat k p lo (by omega) hk hp)
 obtain ⟨c0, c1, c2, c3, c4⟩ := HB0.out.c5w
 have lb := HB0.out.lt
 clear hM hE hk hp
 go_enter Tryz.func189, Tryz.ntmps189
 go_wp2_with fail
 refine HJ.out.mono ?_
 rintro e W1 ⟨rfl, hm1, hg1⟩
 have HW1 := Lib.hid (HW0.out.call hm1 hg1)
 have HB1 := Lib.hid (HB0.out.past hg1 hlt)
 have HR1 := Lib.hid (HR0.out.past hg1 (by omega))
 clear hm1 hg1 HJ HW0 HB0 HR0 hW0 c0 c1 c2 c3 c4
 have hp1 := Lib.hid (img_it (z := z) HP.out lo)
 obtain ⟨c0, c1, c2, c3, c4⟩ := HB1.out.c5w
 obtain ⟨f0, f1, f2, f3, f4⟩ := HB1.out.f5w
 dsimp only
 by_cases hneg : hi < 0
 ·have hd : decide (hi < 0) = true := by simpa using hneg
  have HRe := Lib.hid (show imgB (repR (lo : Int) hi (z.rel bs)) p = imgB (starR (z.rel bs)) (imgB (itR (z.rel bs) lo) p) from by
   rw [imgB_comp]
   exact imgB_congr (rep_endless (z.rel bs) lo hi hneg) p)
  have HF := Lib.hid (HW1.out.stow HM.out (g := w.heap.size) (Nat.le_refl _) (imgB (itR (z.rel bs) lo) p))
  have HBF := Lib.hid (HB1.out.put5 (imgB (itR (z.rel bs) lo) p))
  have HRF := Lib.hid (HR1.out.grown (grown5 W1 w.heap.size (imgB (itR (z.rel bs) lo) p)) (by simp))
  go_wp2_with fail
  refine (again_go HE.out (stow5 W1 w.heap.size (imgB (itR (z.rel bs) lo) p)) HF.out.mat k _ HKB.out hp1.out).mono ?_
  rintro e W2 ⟨rfl, hm2, hg2⟩
  have HW2 := Lib.hid (HF.out.call hm2 hg2)
  have HR2 := Lib.hid (HRF.out.past hg2 (by omega))
  clear hm2 hg2 HF HBF HRF HW1 HB1 HR1 c0 c1 c2 c3 c4 f0 f1 f2 f3 f4
  obtain ⟨c0, c1, c2, c3, c4⟩ := HR2.out.c5w
  obtain ⟨f0, f1, f2, f3, f4⟩ := HR2.out.f5w
  dsimp only
  generalize hq : imgB (starR (z.rel bs)) (imgB (itR (z.rel bs) lo) p) = q at *
  go_wp2
  refine bodyPost_ret (ret_pl Tryz.results189 rfl (HR2.out.put5 q)) rfl ?_
  have hF := HW2.out.stow HM.out (g := w.heap.size + 1) (by omega) q
  exact ⟨by rw [HRe.out], hF.mat, hF.grown⟩
 ·have hd : decide (hi < 0) = false := by simpa using hneg
  obtain ⟨h, rfl⟩ : ∃ h : Nat, hi = (h : Int) := ⟨hi.toNat, by omega⟩
  have hlh : lo ≤ h := by omega
  have hh6 : h ≤ 1000000 := by omega
  have HRe := Lib.hid (show imgB (repR (lo : Int) (h : Int) (z.rel bs)) p = imgB (betweenR (z.rel bs) lo h) p from imgB_congr (rep_between (z.rel bs) lo h) p)
  obtain ⟨W2, hW2⟩ : ∃ W2, (stow5 W1 w.heap.size (imgB (itR (z.rel bs) lo) p)).alloc (.cells #[.int .u64 ((word (imgB (itR (z.rel bs) lo) p) 0 : Nat) : Int), .int .u64 ((word (imgB (itR (z.rel bs) lo) p) 1 : Nat) : Int), .int .u64 ((word (imgB (itR (z.rel bs) lo) p) 2 : Nat) : Int), .int .u64 ((word (imgB (itR (z.rel bs) lo) p) 3 : Nat) : Int), .int .u64 ((word (imgB (itR (z.rel bs) lo) p) 4 : Nat) : Int)] 69) = W2 := ⟨_, rfl⟩
  have hsz : (stow5 W1 w.heap.size (imgB (itR (z.rel bs) lo) p)).heap.size = W1.heap.size := by simp [stow5]
  have hlw : w.heap.size + 2 ≤ W1.heap.size := by have := HR1.out.lt; omega
  have HT0 := Lib.hid (show TimesI x bs base gm b cp fm cv V w W2 W1.heap.size (imgB (itR (z.rel bs) lo) p) (imgB (betweenR (z.rel bs) lo lo) p) from by
   rw [← hW2, between_one]
   exact ⟨(HW1.out.stow HM.out (g := w.heap.size) (Nat.le_refl _) _).alloc _, (HB1.out.put5 _).alloc _, (HR1.out.grown (grown5 W1 w.heap.size _) (by simp)).alloc _, Blk.new_at hsz.symm, hlw, hlt⟩)
  unfold stow5 at hW2
  clear hsz hneg HW1 HB1 HR1 hh hhi hmn
  go_wp2
  generalize W1.heap.size = a at *
  go_loopw [12] (fun v wr => ∃ j : Nat, v = .int .i64 (j : Int) ∧ lo ≤ j ∧ j ≤ h ∧ Hid (TimesI x bs base gm b cp fm cv V w wr a (imgB (itR (z.rel bs) j) p) (imgB (betweenR (z.rel bs) lo j) p))) (fun v _ => h - (intOf v).toNat)
  case atStart => exact ⟨lo, rfl, Nat.le_refl _, hlh, HT0⟩
  case round =>
   clear HT0
   obtain ⟨j, rfl, hj1, hj2, HT⟩ := hrel
   obtain ⟨d0, d1, d2, d3, d4⟩ := HT.out.bq.c5w
   obtain ⟨a0, a1, a2, a3, a4⟩ := HT.out.ba.c5w
   have lb2 := HT.out.bq.lt
   have la := HT.out.ba.lt
   have lr := HT.out.br.lt
   have hfar := HT.out.far
   have hpj := Lib.hid (img_it (z := z) HP.out j)
   have hpj1 := Lib.hid (img_it (z := z) HP.out (j + 1))
   by_cases hjh : j = h
   ·subst hjh
    obtain ⟨r0, r1, r2, r3, r4⟩ := HT.out.br.c5w
    obtain ⟨e0, e1, e2, e3, e4⟩ := HT.out.br.f5w
    go_wp2
    refine bodyPost_ret (ret_pl Tryz.results189 rfl (HT.out.br.put5 (imgB (betweenR (z.rel bs) lo j) p))) rfl ?_
    have hF := HT.out.mw.stow HM.out (g := w.heap.size + 1) (by omega) (imgB (betweenR (z.rel bs) lo j) p)
    exact ⟨by rw [HRe.out], hF.mat, hF.grown⟩
   ·have hdl : (j : Int) < (h : Int) := by omega
    cases hsm : sameB (imgB (itR (z.rel bs) j) p) (fun _ => false) with
    | true =>
     have HFX := Lib.hid (show imgB (betweenR (z.rel bs) lo j) p = imgB (betweenR (z.rel bs) lo h) p from by
      have h1 := (sameB_iff (fun c hc => by have := hpj.out c hc; have := HLN.out; omega) (fun c hc => by cases hc)).1 hsm
      exact between_fix hj1 hj2 (by rw [h1]; exact funext (imgB_none (fun _ => rfl))))
     obtain ⟨r0, r1, r2, r3, r4⟩ := HT.out.br.c5w
     obtain ⟨e0, e1, e2, e3, e4⟩ := HT.out.br.f5w
     go_wp2
     refine bodyPost_ret (ret_pl Tryz.results189 rfl (HT.out.br.put5 (imgB (betweenR (z.rel bs) lo j) p))) rfl ?_
     have hF := HT.out.mw.stow HM.out (g := w.heap.size + 1) (by omega) (imgB (betweenR (z.rel bs) lo j) p)
     exact ⟨by rw [HRe.out, ← HFX.out], hF.mat, hF.grown⟩
    | false =>
     have HC := Lib.hid (HE.out base gm b cp fm cv V wr HT.out.mw.mat k (imgB (itR (z.rel bs) j) p) HKB.out hpj.out)
     rw [imgB_next] at HC
     go_wp2_with fail
     refine HC.out.mono ?_
     rintro e w4 ⟨rfl, hm4, hg4⟩
     have HT4 := Lib.hid (HT.out.call hm4 hg4)
     clear hm4 hg4 HC HT d0 d1 d2 d3 d4 a0 a1 a2 a3 a4 lb2 la lr hsm
     obtain ⟨d0, d1, d2, d3, d4⟩ := HT4.out.bq.c5w
     obtain ⟨a0, a1, a2, a3, a4⟩ := HT4.out.ba.c5w
     have lb2 := HT4.out.bq.lt
     have la := HT4.out.ba.lt
     have lr := HT4.out.br.lt
     have hne1 : w.heap.size ≠ w4.heap.size := by omega
     have hne2 : a ≠ w4.heap.size := by omega
     dsimp only
     cases hsm : sameB (imgB (itR (z.rel bs) (j + 1)) p) (imgB (itR (z.rel bs) j) p) with
     | true =>
      have HFX := Lib.hid (show imgB (betweenR (z.rel bs) lo j) p = imgB (betweenR (z.rel bs) lo h) p from by
       have h1 := (sameB_iff (fun c hc => by have := hpj1.out c hc; have := HLN.out; omega) (fun c hc => by have := hpj.out c hc; have := HLN.out; omega)).1 hsm
       exact between_fix hj1 hj2 (by rw [imgB_next]; exact h1))
      obtain ⟨r0, r1, r2, r3, r4⟩ := HT4.out.br.c5w
      obtain ⟨e0, e1, e2, e3, e4⟩ := HT4.out.br.f5w
      go_wp2
      refine bodyPost_ret (ret_pl Tryz.results189 rfl ((HT4.out.br.put5 (imgB (betweenR (z.rel bs) lo j) p)).alloc _)) rfl ?_
      have hF := (HT4.out.mw.stow HM.out (g := w.heap.size + 1) (by omega) (imgB (betweenR (z.rel bs) lo j) p)).alloc (.cells #[.int .u64 ((word (imgB (itR (z.rel bs) (j + 1)) p) 0 : Nat) : Int), .int .u64 ((word (imgB (itR (z.rel bs) (j + 1)) p) 1 : Nat) : Int), .int .u64 ((word (imgB (itR (z.rel bs) (j + 1)) p) 2 : Nat) : Int), .int .u64 ((word (imgB (itR (z.rel bs) (j + 1)) p) 3 : Nat) : Int), .int .u64 ((word (imgB (itR (z.rel bs) (j + 1)) p) 4 : Nat) : Int)] 69)
      exact ⟨by rw [HRe.out, ← HFX.out], hF.mat, hF.grown⟩
     | false =>
      obtain ⟨f0, f1, f2, f3, f4⟩ := HT4.out.bq.f5w
      obtain ⟨W5, hW5⟩ : ∃ W5, (stow5 w4 w.heap.size (imgB (itR (z.rel bs) (j + 1)) p)).alloc (.cells #[.int .u64 ((word (imgB (itR (z.rel bs) (j + 1)) p) 0 : Nat) : Int), .int .u64 ((word (imgB (itR (z.rel bs) (j + 1)) p) 1 : Nat) : Int), .int .u64 ((word (imgB (itR (z.rel bs) (j + 1)) p) 2 : Nat) : Int), .int .u64 ((word (imgB (itR (z.rel bs) (j + 1)) p) 3 : Nat) : Int), .int .u64 ((word (imgB (itR (z.rel bs) (j + 1)) p) 4 : Nat) : Int)] 69) = W5 := ⟨_, rfl⟩
      have HT5 := Lib.hid (show TimesI x bs base gm b cp fm cv V w W5 a (imgB (itR (z.rel bs) (j + 1)) p) (imgB (betweenR (z.rel bs) lo j) p) from by
       rw [← hW5]
       exact (HT4.out.putq HM.out _).alloc _)
      unfold stow5 at hW5
      obtain ⟨b0, b1, b2, b3, b4⟩ := HT5.out.bq.c5w
      obtain ⟨g0, g1, g2, g3, g4⟩ := HT5.out.ba.c5w
      go_wp2_with fail
      refine (pwith_go (imgB (betweenR (z.rel bs) lo j) p) (imgB (itR (z.rel bs) (j + 1)) p) _).mono ?_
      rintro _ W6 ⟨rfl, hb6⟩
      have HT6 := Lib.hid (HT5.out.below hb6)
      rw [between_more hj1]
      clear hb6 HT5 HT4 hW5 b0 b1 b2 b3 b4 g0 g1 g2 g3 g4 d0 d1 d2 d3 d4 a0 a1 a2 a3 a4 f0 f1 f2 f3 f4 lb2 la lr hsm
      obtain ⟨g0, g1, g2, g3, g4⟩ := HT6.out.ba.c5w
      obtain ⟨f0, f1, f2, f3, f4⟩ := HT6.out.ba.f5w
      have la := HT6.out.ba.lt
      have hwj : IntKind.i64.wrap ((j : Int) + 1) = (j : Int) + 1 := by rw [IntKind.wrap_i64]; omega
      dsimp only
      go_wp2
      refine ⟨⟨j + 1, by rw [show ((j + 1 : Nat) : Int) = (j : Int) + 1 by omega], by omega, by omega, ?_⟩, ?_⟩
      ·exact Lib.hid (HT6.out.puts HM.out (imgB (betweenR (z.rel bs) lo (j + 1)) p))
      ·simp [intOf]; omega
end Go.Proofs.YtofbfafnpdaejaaGreatDoor
