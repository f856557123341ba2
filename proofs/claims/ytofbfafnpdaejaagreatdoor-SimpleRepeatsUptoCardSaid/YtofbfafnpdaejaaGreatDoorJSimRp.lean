/- Texts of the claim. -/
import Derived.Test.YtofbfafnpdaejaaGreatDoorJSimLo
import Derived.Test.YtofbfafnpdaejaaGreatDoorJZ01
set_option linter.all false
set_option maxRecDepth 100000
set_option maxHeartbeats 8000000
namespace Go.Proofs.YtofbfafnpdaejaaGreatDoor
open Go.RowKit
def repN (s : Nat) (lo hi : Int) : Nd := ⟨9, 0, Trees.of [leafN s], lo, hi⟩
theorem repN_right (s : Nat) (lo hi : Int) : rightT (repN s lo hi) = timesB lo hi := by
 have h1 : aloneN (repN s lo hi) = timesB lo hi := by
  unfold aloneN aloneV repN
  simp only
  rw [if_neg (by decide), word_zero, word_zero, word_zero, word_zero, if_neg (by decide), if_pos trivial, Trees.len_of]
  simp
 have h2 : aloneN (leafN s) = true := by
  unfold aloneN aloneV leafN
  simp [Trees.len]
 have h3 : (repN s lo hi).nodes = [repN s lo hi, leafN s] := rfl
 unfold rightT
 rw [h3]
 simp [h1, h2]
theorem times_ok {lo hi : Int} (h : timesB lo hi = true) : TimesOk lo hi := by
 unfold timesB at h
 simp at h
 unfold TimesOk
 omega
theorem new_gives {x : Nd} {W : World} {e : Ending} {w2 : World} (h : NewT x W e w2) : ∃ B' c', e = .returned (ndV x B' c') ∧ Below W.heap.size W w2 ∧ TreesAt w2 (fun b => b < w2.heap.size) x.kids B' := by
 obtain ⟨B', c', h1, h2, _, h4⟩ := h
 exact ⟨B', c', h1, h2, h4.keep (fun _ _ _ _ => rfl) (fun b _ h => h)⟩
theorem old_gives {P : Nat → Prop} {x : Nd} {W : World} {e : Ending} {w2 : World} (h : OldT P x W e w2) : ∃ B' c', e = .returned (ndV x B' c') ∧ Below W.heap.size W w2 ∧ TreesAt w2 (fun b => b < w2.heap.size) x.kids B' := by
 obtain ⟨B', c', h1, h2, _, h4⟩ := h
 exact ⟨B', c', h1, h2, h4.keep (fun _ _ _ _ => rfl) (fun b _ h => h)⟩
theorem simpleRepeats_go (x : Nd) (B : Option Addr) (cap : Nat) (lo hi : Int) (w : World) (hs : x.size ≤ 1048576) (hf : FitT x) (hc : x.kids.len ≤ cap) (ht : TreesAt w (fun b => b < w.heap.size) x.kids B) (hT : TabAt 0 Lib.deBruijn64tab w) (hw0 : 0 < w.heap.size) :
  Calls Tryz.prog 7 #[ndV x B cap, .int .i64 lo, .int .i64 hi] w fun e w' => e = .returned (.bool true) ∧ Below w.heap.size w w' := by
 have hb1 : Below w.heap.size w (w.alloc (.cells (ndA x B cap) 28)) := (Below.refl _ _).alloc (Nat.le_refl _) _
 have HB1 := Lib.hid hb1
 have HX1 := Lib.hid (Blk.new w 28 (ndA x B cap))
 have hI := rOf_go x _ B cap _ (by omega) hf hc (fun b h => Nat.lt_of_lt_of_le h hb1.size) (ht.below hb1)
 have HI := Lib.hid hI
 have HTB := Lib.hid hT
 have HF := Lib.hid hf
 have hs2 := hs
 clear ht hb1 hI hT hf hc hs2
 unfold ndV at HI ⊢
 unfold ndA at HI HX1 HB1
 obtain ⟨x0, x1, x2, x3, x4, x5, x6, x7, xl⟩ := (HX1.out).c8n
 go_enter Tryz.func7, Tryz.ntmps7
 go_upto_region 1 with fail
 generalize (w.alloc (.cells #[.int .i64 x.kind, .int .u64 (word x.set.testBit 0), .int .u64 (word x.set.testBit 1), .int .u64 (word x.set.testBit 2), .int .u64 (word x.set.testBit 3), .slice B x.kids.len cap, .int .i64 x.lo, .int .i64 x.hi] 28)) = w1 at *
 go_wp2_with fail
 refine HI.out.mono ?_
 rintro e w2 ⟨hb2, ⟨hr, rfl⟩ | ⟨hr, B2, c2, rfl, hc2, ht2⟩⟩
 ·have HB2 := Lib.hid (HB1.out.trans (hb2.mono HB1.out.size))
  have hbA : Below w2.heap.size w2 (w2.alloc (.cells #[.int .i64 0, .int .u64 0, .int .u64 0, .int .u64 0, .int .u64 0, .slice none 0 0, .int .i64 0, .int .i64 0] 28)) := (Below.refl _ _).alloc (Nat.le_refl _) _
  have HB3 := Lib.hid (HB2.out.trans (hbA.mono HB2.out.size))
  have HK := Lib.hid (knows12_go _ (TabAt.below HB3.out hw0 HTB.out) (Nat.lt_of_lt_of_le hw0 HB3.out.size))
  clear hb2 hbA HB2 hr HI HX1 x0 x1 x2 x3 x4 x5 x6 x7 xl
  dsimp only
  go_wp2_with fail
  refine HK.out.mono ?_
  rintro e w7 ⟨rfl, hb7⟩
  have HB7 := Lib.hid (HB3.out.trans (hb7.mono HB3.out.size))
  clear hb7
  dsimp only
  go_wp2
  go_light
  go_ret
  exact ⟨rfl, HB7.out⟩
 have hok := right_oks hr HF.out
 have hsg := (sim_sg hok).1
 have hsz := sim_size hok
 have hb3 : Below w2.heap.size w2 (w2.alloc (.cells (ndA x.sim B2 c2) 28)) := (Below.refl _ _).alloc (Nat.le_refl _) _
 have HY3 := Lib.hid (Blk.new w2 28 (ndA x.sim B2 c2))
 have HB3 := Lib.hid ((HB1.out.trans (hb2.mono HB1.out.size)).trans (hb3.mono (Nat.le_trans HB1.out.size hb2.size)))
 have HT3 := Lib.hid ((ht2.keep (Q := fun b => b < w2.heap.size) (fun _ _ _ _ => rfl) (fun b _ h => h)).below hb3)
 have HC3 := Lib.hid hc2
 have HN3 := Lib.hid hb3.size
 have HSZ := Lib.hid (show x.sim.size ≤ 1048576 by omega)
 have HSG := Lib.hid hsg
 clear hb2 hb3 ht2 hc2 hr hok hsg hsz HI HX1 HB1 HF x0 x1 x2 x3 x4 x5 x6 x7 xl hs
 generalize x.sim = y at *
 have HBy := Lib.hid (show Calls Tryz.prog 32 #[.agg #[.int .u64 0, .int .u64 0, .int .u64 0, .int .u64 0]] _ _ from by
  have := nbytes_any (0 : Nat).testBit (w2.alloc (.cells (ndA y B2 c2) 28))
  simp only [word_zero] at this
  exact this)
 generalize maskOf (0 : Nat).testBit = m at *
 have hvl : ndV (leafN m) none 0 = .agg #[.int .i64 3, .int .u64 (word m.testBit 0), .int .u64 (word m.testBit 1), .int .u64 (word m.testBit 2), .int .u64 (word m.testBit 3), .slice none 0 0, .int .i64 0, .int .i64 0] := rfl
 have HRp := Lib.hid (fun (W : World) => nrep_go (fun _ => True) (leafN m) none 0 lo hi W (Nat.le_refl _) trivial)
 have HRR := Lib.hid (fun (W : World) (B5 : Option Addr) (c5 : Nat) (h : TreesAt W (fun b => b < W.heap.size) (repN m lo hi).kids B5) => tright_any (repN m lo hi) B5 c5 W (by unfold repN Nd.size; rw [size_ofS]; simp [leafN, Nd.size, Trees.size]) h)
 rw [repN_right] at HRR
 rw [hvl] at HBy HRp
 unfold ndV
 unfold ndA at HY3 HB3 HT3 HBy HN3
 clear hvl
 dsimp only
 go_upto_region 2 with fail
 generalize (w2.alloc (.cells #[.int .i64 y.kind, .int .u64 (word y.set.testBit 0), .int .u64 (word y.set.testBit 1), .int .u64 (word y.set.testBit 2), .int .u64 (word y.set.testBit 3), .slice B2 y.kids.len c2, .int .i64 y.lo, .int .i64 y.hi] 28)) = w3 at *
 go_wp2_with fail
 refine HBy.out.mono ?_
 rintro e w4 ⟨rfl, hb4⟩
 have HB4 := Lib.hid hb4
 clear hb4 HBy
 dsimp only
 go_wp2_with fail
 refine (HRp.out w4).mono ?_
 rintro e w5 ⟨B5, c5, rfl, hb5, _, ht5⟩
 have HB5 := Lib.hid (HB4.out.trans (hb5.mono HB4.out.size))
 have HR5 := Lib.hid (HRR.out w5 B5 c5 (ht5.keep (fun _ _ _ _ => rfl) (fun b _ h => h)))
 clear hb5 ht5 HB4 HRp HRR
 unfold repN at HR5
 generalize ndV ⟨9, 0, Trees.of [leafN m], lo, hi⟩ B5 c5 = rv at *
 dsimp only
 cases htm : timesB lo hi with
 | false =>
  rw [htm] at HR5
  clear htm
  go_wp2_with fail
  refine HR5.out.mono ?_
  rintro e w6 ⟨rfl, hb6⟩
  have HB6 := Lib.hid (HB3.out.trans ((HB5.out.trans (hb6.mono HB5.out.size)).mono HB3.out.size))
  have HK := Lib.hid (knows12_go _ (TabAt.below HB6.out hw0 HTB.out) (Nat.lt_of_lt_of_le hw0 HB6.out.size))
  clear hb6 HR5
  dsimp only
  go_wp2_with fail
  refine HK.out.mono ?_
  rintro e w7 ⟨rfl, hb7⟩
  have HB7 := Lib.hid (HB6.out.trans (hb7.mono HB6.out.size))
  clear hb7
  dsimp only
  go_wp2
  go_light
  go_ret
  exact ⟨rfl, HB7.out⟩
 | true =>
  have HTM := Lib.hid (times_ok htm)
  rw [htm] at HR5
  clear htm
  go_wp2_with fail
  refine HR5.out.mono ?_
  rintro e w6 ⟨rfl, hb6⟩
  have HB6 := Lib.hid (HB5.out.trans (hb6.mono HB5.out.size))
  have HY6 := Lib.hid (HY3.out.below HB6.out HY3.out.lt)
  have HT6 := Lib.hid (HT3.out.below HB6.out)
  have HN6 := Lib.hid (Nat.le_trans HN3.out HB6.out.size)
  have HW6 := Lib.hid (HB3.out.trans (HB6.out.mono HB3.out.size))
  have HTB6 := Lib.hid (TabAt.below HW6.out hw0 HTB.out)
  have HP6 := Lib.hid (Nat.lt_of_lt_of_le hw0 HW6.out.size)
  clear hb6 HR5 HB5 HB6 HY3 HT3 HN3 HB3 HTB hw0
  dsimp only
  go_upto_region 4 with fail
  have H1 := Lib.hid (fun (W : World) (h : Below w6.heap.size w6 W) => (sstar_go y _ B2 c2 W (by have := HSZ.out; omega) (HT6.out.below h) (sg_iff.1 HSG.out).1.1).mono (fun e w' q => new_gives q))
  have H2 := Lib.hid (fun (W : World) (h : Below w6.heap.size w6 W) => by
   have := rstar12_go y B2 c2 W (by have := HSZ.out; omega) HSG.out HC3.out (fun b h1 => Nat.lt_of_lt_of_le h1 (Nat.le_trans HN6.out h.size)) (HT6.out.below h)
   rw [starQ_eq HSG.out] at this
   exact this.mono (fun e w' q => old_gives q))
  have H3 := Lib.hid (fun (W : World) (h : Below w6.heap.size w6 W) => (splus_go y _ B2 c2 W (by have := HSZ.out; omega) (HT6.out.below h) (sg_iff.1 HSG.out).1.1).mono (fun e w' q => new_gives q))
  have H4 := Lib.hid (fun (W : World) (h : Below w6.heap.size w6 W) => by
   have := rplus12_go y B2 c2 W (by have := HSZ.out; omega) HSG.out HC3.out (fun b h1 => Nat.lt_of_lt_of_le h1 (Nat.le_trans HN6.out h.size)) (HT6.out.below h)
   rw [plusQ_eq HSG.out] at this
   exact this.mono (fun e w' q => old_gives q))
  have H5 := Lib.hid (fun (W : World) (h : Below w6.heap.size w6 W) => (sopt_go y _ B2 c2 W (by have := HSZ.out; omega) (HT6.out.below h) (sg_iff.1 HSG.out).1.1).mono (fun e w' q => new_gives q))
  have H6 := Lib.hid (fun (W : World) (h : Below w6.heap.size w6 W) => by
   have := ropt12_go y B2 c2 W (by have := HSZ.out; omega) HSG.out HC3.out (fun b h1 => Nat.lt_of_lt_of_le h1 (Nat.le_trans HN6.out h.size)) (HT6.out.below h)
   rw [optQ_eq HSG.out] at this
   exact this.mono (fun e w' q => old_gives q))
  have H7 := Lib.hid (fun (W : World) (h : Below w6.heap.size w6 W) => (srep_any y lo hi _ B2 c2 W (by have := HSZ.out; omega) HC3.out (HT6.out.below h) (sg_iff.1 HSG.out).1.1).mono (fun e w' q => new_gives q))
  have H8 := Lib.hid (fun (W : World) (h : Below w6.heap.size w6 W) => by
   have := rrep12_go y lo hi B2 c2 W (by have := HSZ.out; omega) HSG.out HC3.out (fun b h1 => Nat.lt_of_lt_of_le h1 (Nat.le_trans HN6.out h.size)) (HT6.out.below h) HTM.out
   rw [repQ_eq HSG.out HTM.out] at this
   exact this.mono (fun e w' q => old_gives q))
  have HS := Lib.hid (fun (W : World) (t : Nd) (P1 P2 : Nat → Prop) (B1 B2 : Option Addr) (c1 c2 : Nat) (hz : t.size ≤ 2000000) (h1 : TreesAt W P1 t.kids B1) (h2 : TreesAt W P2 t.kids B2) => nsame_go t P1 P2 B1 B2 c1 c2 W (by omega) h1 h2)
  have HK := Lib.hid (fun (W : World) (h : Below w6.heap.size w6 W) => knows12_go W (TabAt.below h HP6.out HTB6.out) (Nat.lt_of_lt_of_le HP6.out h.size))
  have HZ1 := Lib.hid (show (starP y).size ≤ 2000000 by have := HSZ.out; have := starP_size y; omega)
  have HZ2 := Lib.hid (show (plusP y).size ≤ 2000000 by have := HSZ.out; have := plusP_size y; omega)
  have HZ3 := Lib.hid (show (optP y).size ≤ 2000000 by have := HSZ.out; have := optP_size y; omega)
  have HZ4 := Lib.hid (show (repP y lo hi).size ≤ 2000000 by have := HSZ.out; have := repP_size y lo hi; omega)
  unfold ndV at H1 H2 H3 H4 H5 H6 H7 H8 HS
  generalize starP y = t1 at *
  generalize plusP y = t2 at *
  generalize optP y = t3 at *
  generalize repP y lo hi = t4 at *
  obtain ⟨y0, y1, y2, y3, y4, y5, y6, y7, yl⟩ := (HY6.out).c8n
  clear HY6 HT6 HTB6 HP6 HTM HSZ HSG HC3 HN6
  refine wp_region_noPanic ?_
  refine wp_region_held_drew (S := fun w' => (∀ b o, b < w6.heap.size → w'.cell? ⟨b, o, none⟩ = w6.cell? ⟨b, o, none⟩) ∧ Since w6.heap.size w6 w') (by kernel_rfl) (since_start (Nat.le_refl _)) (fun hHeld => ?_)
  have hs := since_start (w0 := w6) (Nat.le_refl w6.heap.size)
  refine wpAnyH_take (i := 0) (oi := _) (v := ?_) rfl (by kernel_rfl) (by kernel_rfl) (by kernel_rfl) (fun _ _ _ h => h) (Or.inl ⟨by kernel_rfl, ?_⟩) (by assumption) ?_
  rotate_left
  ·intro w hSw
   try dsimp only at hSw
   go_simp
   try (with_reducible rfl)
  try simp only [Act.put, nrmH]
  refine wpAnyH_take (i := 2) (oi := _) (v := ?_) rfl (by kernel_rfl) (by kernel_rfl) (by kernel_rfl) (fun _ _ _ h => h) (Or.inl ⟨by kernel_rfl, ?_⟩) (by assumption) ?_
  rotate_left
  ·intro w hSw
   try dsimp only at hSw
   go_simp
   try (with_reducible rfl)
  try simp only [Act.put, nrmH]
  refine wpAnyH_ready (rs := [1]) (by kernel_rfl) (by simp) ?_
  refine AllReadyH.cons (o := _) rfl (fun K hK => ?_) AllReadyH.nil
  go_simp
  go_at_call 33
  refine (H1.out _ hs.2.1).mono ?_
  rintro e v1 ⟨B1, c1, rfl, hb', ht1⟩
  have hs := since_step hs hb'
  refine hK.out _ _ hs (fun _ => ?_)
  clear hK K hb'
  try simp only [Act.put, nrmH]
  refine wpAnyH_ready (rs := [3]) (by kernel_rfl) (by simp) ?_
  refine AllReadyH.cons (o := _) rfl (fun K hK => ?_) AllReadyH.nil
  go_simp
  go_at_call 34
  refine (H2.out _ hs.2.1).mono ?_
  rintro e v2 ⟨B3, c3, rfl, hb', ht3⟩
  have hs := since_step hs hb'
  have hk1 := TreesAt.below ht1 hb'
  refine hK.out _ _ hs (fun _ => ?_)
  clear hK K hb' ht1
  try simp only [Act.put, nrmH]
  refine wpAnyH_ready (rs := [4]) (by kernel_rfl) (by simp) ?_
  refine AllReadyH.cons (o := _) rfl (fun K hK => ?_) AllReadyH.nil
  go_simp
  go_at_call 25
  refine (HS.out _ _ _ _ _ _ _ _ (HZ1.out) hk1 ht3).mono ?_
  rintro e v3 ⟨rfl, hb'⟩
  have hs := since_step hs hb'
  refine hK.out _ _ hs (fun _ => ?_)
  clear hK K hb'
  try simp only [Act.put, nrmH]
  clear hk1 ht3
  refine wpAnyH_take (i := 5) (oi := _) (v := ?_) rfl (by kernel_rfl) (by kernel_rfl) (by kernel_rfl) (fun _ _ _ h => h) (Or.inl ⟨by kernel_rfl, ?_⟩) (by assumption) ?_
  rotate_left
  ·intro w hSw
   try dsimp only at hSw
   go_simp
   try (with_reducible rfl)
  try simp only [Act.put, nrmH]
  refine wpAnyH_take (i := 6) (oi := _) (v := ?_) rfl (by kernel_rfl) (by kernel_rfl) (by kernel_rfl) (fun _ _ _ h => h) (Or.inl ⟨by kernel_rfl, ?_⟩) (by assumption) ?_
  rotate_left
  ·intro w hSw
   try dsimp only at hSw
   go_simp
   try (with_reducible rfl)
  try simp only [Act.put, nrmH]
  refine wpAnyH_take (i := 8) (oi := _) (v := ?_) rfl (by kernel_rfl) (by kernel_rfl) (by kernel_rfl) (fun _ _ _ h => h) (Or.inl ⟨by kernel_rfl, ?_⟩) (by assumption) ?_
  rotate_left
  ·intro w hSw
   try dsimp only at hSw
   go_simp
   try (with_reducible rfl)
  try simp only [Act.put, nrmH]
  refine wpAnyH_ready (rs := [7]) (by kernel_rfl) (by simp) ?_
  refine AllReadyH.cons (o := _) rfl (fun K hK => ?_) AllReadyH.nil
  go_simp
  go_at_call 35
  refine (H3.out _ hs.2.1).mono ?_
  rintro e v4 ⟨B7, c7, rfl, hb', ht7⟩
  have hs := since_step hs hb'
  refine hK.out _ _ hs (fun _ => ?_)
  clear hK K hb'
  try simp only [Act.put, nrmH]
  refine wpAnyH_ready (rs := [9]) (by kernel_rfl) (by simp) ?_
  refine AllReadyH.cons (o := _) rfl (fun K hK => ?_) AllReadyH.nil
  go_simp
  go_at_call 36
  refine (H4.out _ hs.2.1).mono ?_
  rintro e v5 ⟨B9, c9, rfl, hb', ht9⟩
  have hs := since_step hs hb'
  have hk7 := TreesAt.below ht7 hb'
  refine hK.out _ _ hs (fun _ => ?_)
  clear hK K hb' ht7
  try simp only [Act.put, nrmH]
  refine wpAnyH_ready (rs := [10]) (by kernel_rfl) (by simp) ?_
  refine AllReadyH.cons (o := _) rfl (fun K hK => ?_) AllReadyH.nil
  go_simp
  go_at_call 25
  refine (HS.out _ _ _ _ _ _ _ _ (HZ2.out) hk7 ht9).mono ?_
  rintro e v6 ⟨rfl, hb'⟩
  have hs := since_step hs hb'
  refine hK.out _ _ hs (fun _ => ?_)
  clear hK K hb'
  try simp only [Act.put, nrmH]
  clear hk7 ht9
  refine wpAnyH_take (i := 11) (oi := _) (v := ?_) rfl (by kernel_rfl) (by kernel_rfl) (by kernel_rfl) (fun _ _ _ h => h) (Or.inl ⟨by kernel_rfl, ?_⟩) (by assumption) ?_
  rotate_left
  ·intro w hSw
   try dsimp only at hSw
   go_simp
   try (with_reducible rfl)
  try simp only [Act.put, nrmH]
  refine wpAnyH_take (i := 12) (oi := _) (v := ?_) rfl (by kernel_rfl) (by kernel_rfl) (by kernel_rfl) (fun _ _ _ h => h) (Or.inl ⟨by kernel_rfl, ?_⟩) (by assumption) ?_
  rotate_left
  ·intro w hSw
   try dsimp only at hSw
   go_simp
   try (with_reducible rfl)
  try simp only [Act.put, nrmH]
  refine wpAnyH_take (i := 13) (oi := _) (v := ?_) rfl (by kernel_rfl) (by kernel_rfl) (by kernel_rfl) (fun _ _ _ h => h) (Or.inl ⟨by kernel_rfl, ?_⟩) (by assumption) ?_
  rotate_left
  ·intro w hSw
   try dsimp only at hSw
   go_simp
   try (with_reducible rfl)
  try simp only [Act.put, nrmH]
  refine wpAnyH_take (i := 15) (oi := _) (v := ?_) rfl (by kernel_rfl) (by kernel_rfl) (by kernel_rfl) (fun _ _ _ h => h) (Or.inl ⟨by kernel_rfl, ?_⟩) (by assumption) ?_
  rotate_left
  ·intro w hSw
   try dsimp only at hSw
   go_simp
   try (with_reducible rfl)
  try simp only [Act.put, nrmH]
  refine wpAnyH_ready (rs := [14]) (by kernel_rfl) (by simp) ?_
  refine AllReadyH.cons (o := _) rfl (fun K hK => ?_) AllReadyH.nil
  go_simp
  go_at_call 37
  refine (H5.out _ hs.2.1).mono ?_
  rintro e v7 ⟨B14, c14, rfl, hb', ht14⟩
  have hs := since_step hs hb'
  refine hK.out _ _ hs (fun _ => ?_)
  clear hK K hb'
  try simp only [Act.put, nrmH]
  refine wpAnyH_ready (rs := [16]) (by kernel_rfl) (by simp) ?_
  refine AllReadyH.cons (o := _) rfl (fun K hK => ?_) AllReadyH.nil
  go_simp
  go_at_call 38
  refine (H6.out _ hs.2.1).mono ?_
  rintro e v8 ⟨B16, c16, rfl, hb', ht16⟩
  have hs := since_step hs hb'
  have hk14 := TreesAt.below ht14 hb'
  refine hK.out _ _ hs (fun _ => ?_)
  clear hK K hb' ht14
  try simp only [Act.put, nrmH]
  refine wpAnyH_ready (rs := [17]) (by kernel_rfl) (by simp) ?_
  refine AllReadyH.cons (o := _) rfl (fun K hK => ?_) AllReadyH.nil
  go_simp
  go_at_call 25
  refine (HS.out _ _ _ _ _ _ _ _ (HZ3.out) hk14 ht16).mono ?_
  rintro e v9 ⟨rfl, hb'⟩
  have hs := since_step hs hb'
  refine hK.out _ _ hs (fun _ => ?_)
  clear hK K hb'
  try simp only [Act.put, nrmH]
  clear hk14 ht16
  refine wpAnyH_take (i := 18) (oi := _) (v := ?_) rfl (by kernel_rfl) (by kernel_rfl) (by kernel_rfl) (fun _ _ _ h => h) (Or.inl ⟨by kernel_rfl, ?_⟩) (by assumption) ?_
  rotate_left
  ·intro w hSw
   try dsimp only at hSw
   go_simp
   try (with_reducible rfl)
  try simp only [Act.put, nrmH]
  refine wpAnyH_take (i := 19) (oi := _) (v := ?_) rfl (by kernel_rfl) (by kernel_rfl) (by kernel_rfl) (fun _ _ _ h => h) (Or.inl ⟨by kernel_rfl, ?_⟩) (by assumption) ?_
  rotate_left
  ·intro w hSw
   try dsimp only at hSw
   go_simp
   try (with_reducible rfl)
  try simp only [Act.put, nrmH]
  refine wpAnyH_take (i := 20) (oi := _) (v := ?_) rfl (by kernel_rfl) (by kernel_rfl) (by kernel_rfl) (fun _ _ _ h => h) (Or.inl ⟨by kernel_rfl, ?_⟩) (by assumption) ?_
  rotate_left
  ·intro w hSw
   try dsimp only at hSw
   go_simp
   try (with_reducible rfl)
  try simp only [Act.put, nrmH]
  refine wpAnyH_take (i := 21) (oi := _) (v := ?_) rfl (by kernel_rfl) (by kernel_rfl) (by kernel_rfl) (fun _ _ _ h => h) (Or.inl ⟨by kernel_rfl, ?_⟩) (by assumption) ?_
  rotate_left
  ·intro w hSw
   try dsimp only at hSw
   go_simp
   try (with_reducible rfl)
  try simp only [Act.put, nrmH]
  refine wpAnyH_take (i := 22) (oi := _) (v := ?_) rfl (by kernel_rfl) (by kernel_rfl) (by kernel_rfl) (fun _ _ _ h => h) (Or.inl ⟨by kernel_rfl, ?_⟩) (by assumption) ?_
  rotate_left
  ·intro w hSw
   try dsimp only at hSw
   go_simp
   try (with_reducible rfl)
  try simp only [Act.put, nrmH]
  refine wpAnyH_take (i := 24) (oi := _) (v := ?_) rfl (by kernel_rfl) (by kernel_rfl) (by kernel_rfl) (fun _ _ _ h => h) (Or.inl ⟨by kernel_rfl, ?_⟩) (by assumption) ?_
  rotate_left
  ·intro w hSw
   try dsimp only at hSw
   go_simp
   try (with_reducible rfl)
  try simp only [Act.put, nrmH]
  refine wpAnyH_take (i := 25) (oi := _) (v := ?_) rfl (by kernel_rfl) (by kernel_rfl) (by kernel_rfl) (fun _ _ _ h => h) (Or.inl ⟨by kernel_rfl, ?_⟩) (by assumption) ?_
  rotate_left
  ·intro w hSw
   try dsimp only at hSw
   go_simp
   try (with_reducible rfl)
  try simp only [Act.put, nrmH]
  refine wpAnyH_take (i := 26) (oi := _) (v := ?_) rfl (by kernel_rfl) (by kernel_rfl) (by kernel_rfl) (fun _ _ _ h => h) (Or.inl ⟨by kernel_rfl, ?_⟩) (by assumption) ?_
  rotate_left
  ·intro w hSw
   try dsimp only at hSw
   go_simp
   try (with_reducible rfl)
  try simp only [Act.put, nrmH]
  refine wpAnyH_ready (rs := [23]) (by kernel_rfl) (by simp) ?_
  refine AllReadyH.cons (o := _) rfl (fun K hK => ?_) AllReadyH.nil
  go_simp
  go_at_call 39
  refine (H7.out _ hs.2.1).mono ?_
  rintro e u1 ⟨B23, c23, rfl, hb', ht23⟩
  have hs := since_step hs hb'
  refine hK.out _ _ hs (fun _ => ?_)
  clear hK K hb'
  try simp only [Act.put, nrmH]
  refine wpAnyH_ready (rs := [27]) (by kernel_rfl) (by simp) ?_
  refine AllReadyH.cons (o := _) rfl (fun K hK => ?_) AllReadyH.nil
  go_simp
  go_at_call 40
  refine (H8.out _ hs.2.1).mono ?_
  rintro e u2 ⟨B27, c27, rfl, hb', ht27⟩
  have hs := since_step hs hb'
  have hk23 := TreesAt.below ht23 hb'
  refine hK.out _ _ hs (fun _ => ?_)
  clear hK K hb' ht23
  try simp only [Act.put, nrmH]
  refine wpAnyH_ready (rs := [28]) (by kernel_rfl) (by simp) ?_
  refine AllReadyH.cons (o := _) rfl (fun K hK => ?_) AllReadyH.nil
  go_simp
  go_at_call 25
  refine (HS.out _ _ _ _ _ _ _ _ (HZ4.out) hk23 ht27).mono ?_
  rintro e u3 ⟨rfl, hb'⟩
  have hs := since_step hs hb'
  refine hK.out _ _ hs (fun _ => ?_)
  clear hK K hb'
  try simp only [Act.put, nrmH]
  clear hk23 ht27
  refine wpAnyH_take (i := 29) (oi := _) (v := ?_) rfl (by kernel_rfl) (by kernel_rfl) (by kernel_rfl) (fun _ _ _ h => h) (Or.inl ⟨by kernel_rfl, ?_⟩) (by assumption) ?_
  rotate_left
  ·intro w hSw
   try dsimp only at hSw
   go_simp
   try (with_reducible rfl)
  try simp only [Act.put, nrmH]
  refine wpAnyH_take (i := 30) (oi := _) (v := ?_) rfl (by kernel_rfl) (by kernel_rfl) (by kernel_rfl) (fun _ _ _ h => h) (Or.inl ⟨by kernel_rfl, ?_⟩) (by assumption) ?_
  rotate_left
  ·intro w hSw
   try dsimp only at hSw
   go_simp
   try (with_reducible rfl)
  try simp only [Act.put, nrmH]
  refine wpAnyH_ready (rs := [31]) (by kernel_rfl) (by simp) ?_
  refine AllReadyH.cons (o := _) rfl (fun K hK => ?_) AllReadyH.nil
  go_simp
  go_at_call 26
  refine (HK.out _ hs.2.1).mono ?_
  rintro e u4 ⟨rfl, hb'⟩
  have hs := since_step hs hb'
  refine hK.out _ _ hs (fun _ => ?_)
  clear hK K hb'
  try simp only [Act.put, nrmH]
  refine wpAnyH_take (i := 32) (oi := _) (v := ?_) rfl (by kernel_rfl) (by kernel_rfl) (by kernel_rfl) (fun _ _ _ h => h) (Or.inl ⟨by kernel_rfl, ?_⟩) (by assumption) ?_
  rotate_left
  ·intro w hSw
   try dsimp only at hSw
   go_simp
   try (with_reducible rfl)
  try simp only [Act.put, nrmH]
  refine wpAnyH_take (i := 33) (oi := _) (v := ?_) rfl (by kernel_rfl) (by kernel_rfl) (by kernel_rfl) (fun _ _ _ h => h) (Or.inl ⟨by kernel_rfl, ?_⟩) (by assumption) ?_
  rotate_left
  ·intro w hSw
   try dsimp only at hSw
   go_simp
   try (with_reducible rfl)
  try simp only [Act.put, nrmH]
  have HB9 := Lib.hid (HW6.out.trans (hs.2.1.mono HW6.out.size))
  refine wpAnyH_done (by kernel_rfl) ?_ _
  refine NoPanic.normal ?_
  clear hs
  go_wp2
  go_light
  go_ret
  exact ⟨rfl, HB9.out⟩
theorem simpleRepeats_law (x : Nd) (B : Option Addr) (cap : Nat) (lo hi : Int) (w : World) (hs : x.size ≤ 1048576) (hc : x.kids.len ≤ cap) (ht : TreesAt w (fun b => b < w.heap.size) x.kids B) (hT : TabAt 0 Lib.deBruijn64tab w) (hw0 : 0 < w.heap.size) :
  Calls Tryz.prog 7 #[ndV x B cap, .int .i64 lo, .int .i64 hi] w fun e w' => e = .returned (.bool true) ∧ Below w.heap.size w w' := by
 rw [← ndV_cut x B cap]
 exact simpleRepeats_go x.cut B cap lo hi w (by rw [x.size_cut]; exact hs) x.fit_cut (by show x.kids.cut.len ≤ cap; rw [Trees.len_cut]; exact hc) ht.cut hT hw0
end Go.Proofs.YtofbfafnpdaejaaGreatDoor
