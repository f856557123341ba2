/- Texts of the claim. -/
import Derived.Test.YtofbfafnpdaejaaGreatDoorJSimP
import Derived.Test.YtofbfafnpdaejaaGreatDoorJTOver
set_option linter.all false
set_option maxRecDepth 100000
set_option maxHeartbeats 8000000
namespace Go.Proofs.YtofbfafnpdaejaaGreatDoor
open Go.RowKit
theorem none_new (w : World) : Calls Tryz.prog 79 #[] w (NewT noneN w) := (none_go w).mono fun e w' ⟨h1, h2⟩ => ⟨none, 0, by rw [h1]; simp only [ndV, noneN, word_zero]; rfl, h2, Nat.le_refl _, trivial⟩
theorem empty_new (w : World) : Calls Tryz.prog 90 #[] w (NewT emptyN w) := (empty_go w).mono fun e w' ⟨h1, h2⟩ => ⟨none, 0, by rw [h1]; simp only [ndV, emptyN, word_zero]; rfl, h2, Nat.le_refl _, trivial⟩
theorem copy_new (x : Nd) (P : Nat → Prop) (B : Option Addr) (cap : Nat) (w : World) (hlen : x.size ≤ 90000000) (ht : TreesAt w P x.kids B) : Calls Tryz.prog 55 #[ndV x B cap] w (NewT x w) := copy_go x P B cap w (by omega) ht
theorem star_new (x : Nd) (P : Nat → Prop) (B : Option Addr) (cap : Nat) (w : World) (hlen : x.size ≤ 90000000) (ht : TreesAt w P x.kids B) : Calls Tryz.prog 91 #[ndV x B cap] w (NewT (overN 6 x) w) := tstar_go x P B cap w (by omega) ht
theorem plus_new (x : Nd) (P : Nat → Prop) (B : Option Addr) (cap : Nat) (w : World) (hlen : x.size ≤ 90000000) (ht : TreesAt w P x.kids B) : Calls Tryz.prog 93 #[ndV x B cap] w (NewT (overN 7 x) w) := tplus_go x P B cap w (by omega) ht
theorem opt_new (x : Nd) (P : Nat → Prop) (B : Option Addr) (cap : Nat) (w : World) (hlen : x.size ≤ 90000000) (ht : TreesAt w P x.kids B) : Calls Tryz.prog 94 #[ndV x B cap] w (NewT (overN 8 x) w) := topt_go x P B cap w (by omega) ht
theorem kind_no {k c : Int} (h : k ≠ c) : (k == c) = false := by rw [beq_eq_false_iff_ne]; exact h
theorem kind_yes {k c : Int} (h : k = c) : (k == c) = true := by rw [beq_iff_eq]; exact h
theorem sstar1 (x : Nd) (P : Nat → Prop) (B : Option Addr) (cap : Nat) (w : World) (hlen : x.size ≤ 90000000) (ht : TreesAt w P x.kids B) (h0 : x.kind = 1) :
  Calls Tryz.prog 33 #[ndV x B cap] w (NewT (starP x) w) := by
 obtain ⟨hb2, HB2, HX2, HZ2, HW2⟩ := two_hid w x B cap
 have HV := Lib.hid (show starP x = emptyN by unfold starP; rw [if_pos (by omega)])
 have e0 := kind_yes h0
 have HI := Lib.hid (empty_new (W2n w x B cap))
 clear ht hb2 hlen
 clear h0
 unfold ndV at *
 unfold ndA at *
 obtain ⟨x0, x1, x2, x3, x4, x5, x6, x7, hl2⟩ := (HX2.out).c8n
 go_enter Tryz.func33, Tryz.ntmps33
 go_upto_region 1 with fail
 rw [← W2n_lit w x B cap]
 generalize hw2 : W2n w x B cap = w2 at *
 go_wp2_with fail
 refine HI.out.mono ?_
 rintro e w3 ⟨B3, cap3, rfl, hb3, hc3, ht3⟩
 have hZ3 := HZ2.out.below hb3 HZ2.out.lt
 have HB3 := Lib.hid (HB2.out.trans (hb3.mono HB2.out.size))
 have HZ3 := Lib.hid hZ3
 have HT3 := Lib.hid (ht3.weak (Q := fun b => w.heap.size + 2 ≤ b) (fun b hb _ => by have := HZ2.out.lt; have := HW2.out; omega))
 obtain ⟨y0, y1, y2, y3, y4, y5, y6, y7, g0, g1, g2, g3, g4, g5, g6, g7⟩ := hZ3.z16
 clear hZ3 ht3 hb3 HI HZ2 HB2 HX2 x0 x1 x2 x3 x4 x5 x6 x7 hl2
 generalize hy : emptyN = y at *
 have HY := Lib.hid hy
 clear hy
 unfold ndV
 dsimp only
 go_wp2
 go_light
 have hF := put_next (x := y) (B := B3) (cap := cap3) HZ3.out HB3.out HT3.out rfl
 refine bodyPost_ret (ret_node Tryz.results33 rfl hF.1) rfl ?_
 rw [HV.out]
 exact ⟨B3, cap3, rfl, hF.2.1, hc3, hF.2.2⟩
theorem sstar2 (x : Nd) (P : Nat → Prop) (B : Option Addr) (cap : Nat) (w : World) (hlen : x.size ≤ 90000000) (ht : TreesAt w P x.kids B) (h0 : x.kind ≠ 1) (h1 : x.kind = 2) :
  Calls Tryz.prog 33 #[ndV x B cap] w (NewT (starP x) w) := by
 obtain ⟨hb2, HB2, HX2, HZ2, HW2⟩ := two_hid w x B cap
 have HV := Lib.hid (show starP x = emptyN by unfold starP; rw [if_pos (by omega)])
 have e0 := kind_no h0
 have e1 := kind_yes h1
 have HI := Lib.hid (empty_new (W2n w x B cap))
 clear ht hb2 hlen
 clear h0 h1
 unfold ndV at *
 unfold ndA at *
 obtain ⟨x0, x1, x2, x3, x4, x5, x6, x7, hl2⟩ := (HX2.out).c8n
 go_enter Tryz.func33, Tryz.ntmps33
 go_upto_region 1 with fail
 rw [← W2n_lit w x B cap]
 generalize hw2 : W2n w x B cap = w2 at *
 go_wp2_with fail
 refine HI.out.mono ?_
 rintro e w3 ⟨B3, cap3, rfl, hb3, hc3, ht3⟩
 have hZ3 := HZ2.out.below hb3 HZ2.out.lt
 have HB3 := Lib.hid (HB2.out.trans (hb3.mono HB2.out.size))
 have HZ3 := Lib.hid hZ3
 have HT3 := Lib.hid (ht3.weak (Q := fun b => w.heap.size + 2 ≤ b) (fun b hb _ => by have := HZ2.out.lt; have := HW2.out; omega))
 obtain ⟨y0, y1, y2, y3, y4, y5, y6, y7, g0, g1, g2, g3, g4, g5, g6, g7⟩ := hZ3.z16
 clear hZ3 ht3 hb3 HI HZ2 HB2 HX2 x0 x1 x2 x3 x4 x5 x6 x7 hl2
 generalize hy : emptyN = y at *
 have HY := Lib.hid hy
 clear hy
 unfold ndV
 dsimp only
 go_wp2
 go_light
 have hF := put_next (x := y) (B := B3) (cap := cap3) HZ3.out HB3.out HT3.out rfl
 refine bodyPost_ret (ret_node Tryz.results33 rfl hF.1) rfl ?_
 rw [HV.out]
 exact ⟨B3, cap3, rfl, hF.2.1, hc3, hF.2.2⟩
theorem st6 (x : Nd) (P : Nat → Prop) (B : Option Addr) (cap : Nat) (w : World) (hlen : x.size ≤ 90000000) (ht : TreesAt w P x.kids B) (hok : OkN x) (h6 : 6 ≤ x.kind) (h0 : x.kind ≠ 1) (h1 : x.kind ≠ 2) (h2 : x.kind = 6) :
  Calls Tryz.prog 33 #[ndV x B cap] w (NewT (starP x) w) := by
 obtain ⟨hb2, HB2, HX2, HZ2, HW2⟩ := two_hid w x B cap
 have HV := Lib.hid (show starP x = overN 6 (kid0 x) by unfold starP; rw [if_neg (by omega)]; rw [if_pos (by omega)])
 have e0 := kind_no h0
 have e1 := kind_no h1
 have e2 := kind_yes h2
 obtain ⟨z, hz⟩ := ok_one hok h6
 have hk0 : kid0 x = z := kid0_one hz
 have hg : x.kids.list[0]? = some z := by rw [hz]; rfl
 have hzs := Trees.size_get x.kids 0 z hg
 have hlz : x.kids.len = 1 := by rw [← Trees.len_list, hz]; rfl
 obtain ⟨b, o, C, capc, hBe, _, hck, ⟨c0, c1, c2, c3, c4, c5, c6, c7⟩, hkz⟩ := (ht.below hb2).get hg
 simp only [Nat.zero_mul, Nat.add_zero] at c0 c1 c2 c3 c4 c5 c6 c7
 have hbl := World.block_lt_of_cell? _ _ c0
 have HI := Lib.hid (star_new z P C capc (W2n w x B cap) (by unfold Nd.size at hlen; omega) hkz)
 have hd0 : (0 : Int) < (x.kids.len : Int) := by omega
 have HBe := Lib.hid hBe
 clear ht hkz hg hz hb2 hlen hzs hck hBe hlz
 rw [hk0] at HV
 clear h0 h1 h2
 unfold ndV at *
 unfold ndA at *
 obtain ⟨x0, x1, x2, x3, x4, x5, x6, x7, hl2⟩ := (HX2.out).c8n
 go_enter Tryz.func33, Tryz.ntmps33
 go_upto_region 1 with fail
 rw [← W2n_lit w x B cap]
 generalize hw2 : W2n w x B cap = w2 at *
 have hBe := HBe.out
 go_wp2_with fail
 refine HI.out.mono ?_
 rintro e w3 ⟨B3, cap3, rfl, hb3, hc3, ht3⟩
 have hZ3 := HZ2.out.below hb3 HZ2.out.lt
 have HB3 := Lib.hid (HB2.out.trans (hb3.mono HB2.out.size))
 have HZ3 := Lib.hid hZ3
 have HT3 := Lib.hid (ht3.weak (Q := fun b => w.heap.size + 2 ≤ b) (fun b hb _ => by have := HZ2.out.lt; have := HW2.out; omega))
 obtain ⟨y0, y1, y2, y3, y4, y5, y6, y7, g0, g1, g2, g3, g4, g5, g6, g7⟩ := hZ3.z16
 clear hZ3 ht3 hb3 HI HZ2 HB2 HX2 x0 x1 x2 x3 x4 x5 x6 x7 hl2
 generalize hy : overN 6 z = y at *
 have HY := Lib.hid hy
 clear hy
 unfold ndV
 dsimp only
 go_wp2
 go_light
 have hF := put_next (x := y) (B := B3) (cap := cap3) HZ3.out HB3.out HT3.out rfl
 refine bodyPost_ret (ret_node Tryz.results33 rfl hF.1) rfl ?_
 rw [HV.out]
 exact ⟨B3, cap3, rfl, hF.2.1, hc3, hF.2.2⟩
theorem st7 (x : Nd) (P : Nat → Prop) (B : Option Addr) (cap : Nat) (w : World) (hlen : x.size ≤ 90000000) (ht : TreesAt w P x.kids B) (hok : OkN x) (h6 : 6 ≤ x.kind) (h0 : x.kind ≠ 1) (h1 : x.kind ≠ 2) (h2 : x.kind ≠ 6) (h3 : x.kind = 7) :
  Calls Tryz.prog 33 #[ndV x B cap] w (NewT (starP x) w) := by
 obtain ⟨hb2, HB2, HX2, HZ2, HW2⟩ := two_hid w x B cap
 have HV := Lib.hid (show starP x = overN 6 (kid0 x) by unfold starP; rw [if_neg (by omega)]; rw [if_pos (by omega)])
 have e0 := kind_no h0
 have e1 := kind_no h1
 have e2 := kind_no h2
 have e3 := kind_yes h3
 obtain ⟨z, hz⟩ := ok_one hok h6
 have hk0 : kid0 x = z := kid0_one hz
 have hg : x.kids.list[0]? = some z := by rw [hz]; rfl
 have hzs := Trees.size_get x.kids 0 z hg
 have hlz : x.kids.len = 1 := by rw [← Trees.len_list, hz]; rfl
 obtain ⟨b, o, C, capc, hBe, _, hck, ⟨c0, c1, c2, c3, c4, c5, c6, c7⟩, hkz⟩ := (ht.below hb2).get hg
 simp only [Nat.zero_mul, Nat.add_zero] at c0 c1 c2 c3 c4 c5 c6 c7
 have hbl := World.block_lt_of_cell? _ _ c0
 have HI := Lib.hid (star_new z P C capc (W2n w x B cap) (by unfold Nd.size at hlen; omega) hkz)
 have hd0 : (0 : Int) < (x.kids.len : Int) := by omega
 have HBe := Lib.hid hBe
 clear ht hkz hg hz hb2 hlen hzs hck hBe hlz
 rw [hk0] at HV
 clear h0 h1 h2 h3
 unfold ndV at *
 unfold ndA at *
 obtain ⟨x0, x1, x2, x3, x4, x5, x6, x7, hl2⟩ := (HX2.out).c8n
 go_enter Tryz.func33, Tryz.ntmps33
 go_upto_region 1 with fail
 rw [← W2n_lit w x B cap]
 generalize hw2 : W2n w x B cap = w2 at *
 have hBe := HBe.out
 go_wp2_with fail
 refine HI.out.mono ?_
 rintro e w3 ⟨B3, cap3, rfl, hb3, hc3, ht3⟩
 have hZ3 := HZ2.out.below hb3 HZ2.out.lt
 have HB3 := Lib.hid (HB2.out.trans (hb3.mono HB2.out.size))
 have HZ3 := Lib.hid hZ3
 have HT3 := Lib.hid (ht3.weak (Q := fun b => w.heap.size + 2 ≤ b) (fun b hb _ => by have := HZ2.out.lt; have := HW2.out; omega))
 obtain ⟨y0, y1, y2, y3, y4, y5, y6, y7, g0, g1, g2, g3, g4, g5, g6, g7⟩ := hZ3.z16
 clear hZ3 ht3 hb3 HI HZ2 HB2 HX2 x0 x1 x2 x3 x4 x5 x6 x7 hl2
 generalize hy : overN 6 z = y at *
 have HY := Lib.hid hy
 clear hy
 unfold ndV
 dsimp only
 go_wp2
 go_light
 have hF := put_next (x := y) (B := B3) (cap := cap3) HZ3.out HB3.out HT3.out rfl
 refine bodyPost_ret (ret_node Tryz.results33 rfl hF.1) rfl ?_
 rw [HV.out]
 exact ⟨B3, cap3, rfl, hF.2.1, hc3, hF.2.2⟩
theorem st8 (x : Nd) (P : Nat → Prop) (B : Option Addr) (cap : Nat) (w : World) (hlen : x.size ≤ 90000000) (ht : TreesAt w P x.kids B) (hok : OkN x) (h6 : 6 ≤ x.kind) (h0 : x.kind ≠ 1) (h1 : x.kind ≠ 2) (h2 : x.kind ≠ 6) (h3 : x.kind ≠ 7) (h4 : x.kind = 8) :
  Calls Tryz.prog 33 #[ndV x B cap] w (NewT (starP x) w) := by
 obtain ⟨hb2, HB2, HX2, HZ2, HW2⟩ := two_hid w x B cap
 have HV := Lib.hid (show starP x = overN 6 (kid0 x) by unfold starP; rw [if_neg (by omega)]; rw [if_pos (by omega)])
 have e0 := kind_no h0
 have e1 := kind_no h1
 have e2 := kind_no h2
 have e3 := kind_no h3
 have e4 := kind_yes h4
 obtain ⟨z, hz⟩ := ok_one hok h6
 have hk0 : kid0 x = z := kid0_one hz
 have hg : x.kids.list[0]? = some z := by rw [hz]; rfl
 have hzs := Trees.size_get x.kids 0 z hg
 have hlz : x.kids.len = 1 := by rw [← Trees.len_list, hz]; rfl
 obtain ⟨b, o, C, capc, hBe, _, hck, ⟨c0, c1, c2, c3, c4, c5, c6, c7⟩, hkz⟩ := (ht.below hb2).get hg
 simp only [Nat.zero_mul, Nat.add_zero] at c0 c1 c2 c3 c4 c5 c6 c7
 have hbl := World.block_lt_of_cell? _ _ c0
 have HI := Lib.hid (star_new z P C capc (W2n w x B cap) (by unfold Nd.size at hlen; omega) hkz)
 have hd0 : (0 : Int) < (x.kids.len : Int) := by omega
 have HBe := Lib.hid hBe
 clear ht hkz hg hz hb2 hlen hzs hck hBe hlz
 rw [hk0] at HV
 clear h0 h1 h2 h3 h4
 unfold ndV at *
 unfold ndA at *
 obtain ⟨x0, x1, x2, x3, x4, x5, x6, x7, hl2⟩ := (HX2.out).c8n
 go_enter Tryz.func33, Tryz.ntmps33
 go_upto_region 1 with fail
 rw [← W2n_lit w x B cap]
 generalize hw2 : W2n w x B cap = w2 at *
 have hBe := HBe.out
 go_wp2_with fail
 refine HI.out.mono ?_
 rintro e w3 ⟨B3, cap3, rfl, hb3, hc3, ht3⟩
 have hZ3 := HZ2.out.below hb3 HZ2.out.lt
 have HB3 := Lib.hid (HB2.out.trans (hb3.mono HB2.out.size))
 have HZ3 := Lib.hid hZ3
 have HT3 := Lib.hid (ht3.weak (Q := fun b => w.heap.size + 2 ≤ b) (fun b hb _ => by have := HZ2.out.lt; have := HW2.out; omega))
 obtain ⟨y0, y1, y2, y3, y4, y5, y6, y7, g0, g1, g2, g3, g4, g5, g6, g7⟩ := hZ3.z16
 clear hZ3 ht3 hb3 HI HZ2 HB2 HX2 x0 x1 x2 x3 x4 x5 x6 x7 hl2
 generalize hy : overN 6 z = y at *
 have HY := Lib.hid hy
 clear hy
 unfold ndV
 dsimp only
 go_wp2
 go_light
 have hF := put_next (x := y) (B := B3) (cap := cap3) HZ3.out HB3.out HT3.out rfl
 refine bodyPost_ret (ret_node Tryz.results33 rfl hF.1) rfl ?_
 rw [HV.out]
 exact ⟨B3, cap3, rfl, hF.2.1, hc3, hF.2.2⟩
theorem st0 (x : Nd) (P : Nat → Prop) (B : Option Addr) (cap : Nat) (w : World) (hlen : x.size ≤ 90000000) (ht : TreesAt w P x.kids B) (h0 : x.kind ≠ 1) (h1 : x.kind ≠ 2) (h2 : x.kind ≠ 6) (h3 : x.kind ≠ 7) (h4 : x.kind ≠ 8) :
  Calls Tryz.prog 33 #[ndV x B cap] w (NewT (starP x) w) := by
 obtain ⟨hb2, HB2, HX2, HZ2, HW2⟩ := two_hid w x B cap
 have HV := Lib.hid (show starP x = overN 6 x by unfold starP; rw [if_neg (by omega)]; rw [if_neg (by omega)])
 have e0 := kind_no h0
 have e1 := kind_no h1
 have e2 := kind_no h2
 have e3 := kind_no h3
 have e4 := kind_no h4
 have HI := Lib.hid (star_new x P B cap (W2n w x B cap) hlen (ht.below hb2))
 clear ht hb2 hlen
 clear h0 h1 h2 h3 h4
 unfold ndV at *
 unfold ndA at *
 obtain ⟨x0, x1, x2, x3, x4, x5, x6, x7, hl2⟩ := (HX2.out).c8n
 go_enter Tryz.func33, Tryz.ntmps33
 go_upto_region 1 with fail
 rw [← W2n_lit w x B cap]
 generalize hw2 : W2n w x B cap = w2 at *
 go_wp2_with fail
 refine HI.out.mono ?_
 rintro e w3 ⟨B3, cap3, rfl, hb3, hc3, ht3⟩
 have hZ3 := HZ2.out.below hb3 HZ2.out.lt
 have HB3 := Lib.hid (HB2.out.trans (hb3.mono HB2.out.size))
 have HZ3 := Lib.hid hZ3
 have HT3 := Lib.hid (ht3.weak (Q := fun b => w.heap.size + 2 ≤ b) (fun b hb _ => by have := HZ2.out.lt; have := HW2.out; omega))
 obtain ⟨y0, y1, y2, y3, y4, y5, y6, y7, g0, g1, g2, g3, g4, g5, g6, g7⟩ := hZ3.z16
 clear hZ3 ht3 hb3 HI HZ2 HB2 HX2 x0 x1 x2 x3 x4 x5 x6 x7 hl2
 generalize hy : overN 6 x = y at *
 have HY := Lib.hid hy
 clear hy
 unfold ndV
 dsimp only
 go_wp2
 go_light
 have hF := put_next (x := y) (B := B3) (cap := cap3) HZ3.out HB3.out HT3.out rfl
 refine bodyPost_ret (ret_node Tryz.results33 rfl hF.1) rfl ?_
 rw [HV.out]
 exact ⟨B3, cap3, rfl, hF.2.1, hc3, hF.2.2⟩
theorem sstar_go (x : Nd) (P : Nat → Prop) (B : Option Addr) (cap : Nat) (w : World) (hlen : x.size ≤ 90000000) (ht : TreesAt w P x.kids B) (hok : OkN x) : Calls Tryz.prog 33 #[ndV x B cap] w (NewT (starP x) w) := by
 by_cases h1 : x.kind = 1
 ·exact sstar1 x P B cap w hlen ht h1
 by_cases h2 : x.kind = 2
 ·exact sstar2 x P B cap w hlen ht h1 h2
 by_cases h6 : x.kind = 6
 ·exact st6 x P B cap w hlen ht hok (by omega) h1 h2 h6
 by_cases h7 : x.kind = 7
 ·exact st7 x P B cap w hlen ht hok (by omega) h1 h2 h6 h7
 by_cases h8 : x.kind = 8
 ·exact st8 x P B cap w hlen ht hok (by omega) h1 h2 h6 h7 h8
 ·exact st0 x P B cap w hlen ht h1 h2 h6 h7 h8
theorem pl1 (x : Nd) (P : Nat → Prop) (B : Option Addr) (cap : Nat) (w : World) (hlen : x.size ≤ 90000000) (ht : TreesAt w P x.kids B) (h0 : x.kind = 1) :
  Calls Tryz.prog 35 #[ndV x B cap] w (NewT (plusP x) w) := by
 obtain ⟨hb2, HB2, HX2, HZ2, HW2⟩ := two_hid w x B cap
 have HV := Lib.hid (show plusP x = x by unfold plusP; rw [if_pos (by omega)])
 have e0 := kind_yes h0
 have HI := Lib.hid (copy_new x P B cap (W2n w x B cap) hlen (ht.below hb2))
 clear ht hb2 hlen
 clear h0
 unfold ndV at *
 unfold ndA at *
 obtain ⟨x0, x1, x2, x3, x4, x5, x6, x7, hl2⟩ := (HX2.out).c8n
 go_enter Tryz.func35, Tryz.ntmps35
 go_upto_region 1 with fail
 rw [← W2n_lit w x B cap]
 generalize hw2 : W2n w x B cap = w2 at *
 go_wp2_with fail
 refine HI.out.mono ?_
 rintro e w3 ⟨B3, cap3, rfl, hb3, hc3, ht3⟩
 have hZ3 := HZ2.out.below hb3 HZ2.out.lt
 have HB3 := Lib.hid (HB2.out.trans (hb3.mono HB2.out.size))
 have HZ3 := Lib.hid hZ3
 have HT3 := Lib.hid (ht3.weak (Q := fun b => w.heap.size + 2 ≤ b) (fun b hb _ => by have := HZ2.out.lt; have := HW2.out; omega))
 obtain ⟨y0, y1, y2, y3, y4, y5, y6, y7, g0, g1, g2, g3, g4, g5, g6, g7⟩ := hZ3.z16
 clear hZ3 ht3 hb3 HI HZ2 HB2 HX2 x0 x1 x2 x3 x4 x5 x6 x7 hl2
 generalize hy : x = y at *
 have HY := Lib.hid hy
 clear hy
 unfold ndV
 dsimp only
 go_wp2
 go_light
 have hF := put_next (x := y) (B := B3) (cap := cap3) HZ3.out HB3.out HT3.out rfl
 refine bodyPost_ret (ret_node Tryz.results35 rfl hF.1) rfl ?_
 rw [HV.out]
 exact ⟨B3, cap3, rfl, hF.2.1, hc3, hF.2.2⟩
theorem pl2 (x : Nd) (P : Nat → Prop) (B : Option Addr) (cap : Nat) (w : World) (hlen : x.size ≤ 90000000) (ht : TreesAt w P x.kids B) (h0 : x.kind ≠ 1) (h1 : x.kind = 2) :
  Calls Tryz.prog 35 #[ndV x B cap] w (NewT (plusP x) w) := by
 obtain ⟨hb2, HB2, HX2, HZ2, HW2⟩ := two_hid w x B cap
 have HV := Lib.hid (show plusP x = x by unfold plusP; rw [if_pos (by omega)])
 have e0 := kind_no h0
 have e1 := kind_yes h1
 have HI := Lib.hid (copy_new x P B cap (W2n w x B cap) hlen (ht.below hb2))
 clear ht hb2 hlen
 clear h0 h1
 unfold ndV at *
 unfold ndA at *
 obtain ⟨x0, x1, x2, x3, x4, x5, x6, x7, hl2⟩ := (HX2.out).c8n
 go_enter Tryz.func35, Tryz.ntmps35
 go_upto_region 1 with fail
 rw [← W2n_lit w x B cap]
 generalize hw2 : W2n w x B cap = w2 at *
 go_wp2_with fail
 refine HI.out.mono ?_
 rintro e w3 ⟨B3, cap3, rfl, hb3, hc3, ht3⟩
 have hZ3 := HZ2.out.below hb3 HZ2.out.lt
 have HB3 := Lib.hid (HB2.out.trans (hb3.mono HB2.out.size))
 have HZ3 := Lib.hid hZ3
 have HT3 := Lib.hid (ht3.weak (Q := fun b => w.heap.size + 2 ≤ b) (fun b hb _ => by have := HZ2.out.lt; have := HW2.out; omega))
 obtain ⟨y0, y1, y2, y3, y4, y5, y6, y7, g0, g1, g2, g3, g4, g5, g6, g7⟩ := hZ3.z16
 clear hZ3 ht3 hb3 HI HZ2 HB2 HX2 x0 x1 x2 x3 x4 x5 x6 x7 hl2
 generalize hy : x = y at *
 have HY := Lib.hid hy
 clear hy
 unfold ndV
 dsimp only
 go_wp2
 go_light
 have hF := put_next (x := y) (B := B3) (cap := cap3) HZ3.out HB3.out HT3.out rfl
 refine bodyPost_ret (ret_node Tryz.results35 rfl hF.1) rfl ?_
 rw [HV.out]
 exact ⟨B3, cap3, rfl, hF.2.1, hc3, hF.2.2⟩
theorem pl6 (x : Nd) (P : Nat → Prop) (B : Option Addr) (cap : Nat) (w : World) (hlen : x.size ≤ 90000000) (ht : TreesAt w P x.kids B) (h0 : x.kind ≠ 1) (h1 : x.kind ≠ 2) (h2 : x.kind = 6) :
  Calls Tryz.prog 35 #[ndV x B cap] w (NewT (plusP x) w) := by
 obtain ⟨hb2, HB2, HX2, HZ2, HW2⟩ := two_hid w x B cap
 have HV := Lib.hid (show plusP x = x by unfold plusP; rw [if_pos (by omega)])
 have e0 := kind_no h0
 have e1 := kind_no h1
 have e2 := kind_yes h2
 have HI := Lib.hid (copy_new x P B cap (W2n w x B cap) hlen (ht.below hb2))
 clear ht hb2 hlen
 clear h0 h1 h2
 unfold ndV at *
 unfold ndA at *
 obtain ⟨x0, x1, x2, x3, x4, x5, x6, x7, hl2⟩ := (HX2.out).c8n
 go_enter Tryz.func35, Tryz.ntmps35
 go_upto_region 1 with fail
 rw [← W2n_lit w x B cap]
 generalize hw2 : W2n w x B cap = w2 at *
 go_wp2_with fail
 refine HI.out.mono ?_
 rintro e w3 ⟨B3, cap3, rfl, hb3, hc3, ht3⟩
 have hZ3 := HZ2.out.below hb3 HZ2.out.lt
 have HB3 := Lib.hid (HB2.out.trans (hb3.mono HB2.out.size))
 have HZ3 := Lib.hid hZ3
 have HT3 := Lib.hid (ht3.weak (Q := fun b => w.heap.size + 2 ≤ b) (fun b hb _ => by have := HZ2.out.lt; have := HW2.out; omega))
 obtain ⟨y0, y1, y2, y3, y4, y5, y6, y7, g0, g1, g2, g3, g4, g5, g6, g7⟩ := hZ3.z16
 clear hZ3 ht3 hb3 HI HZ2 HB2 HX2 x0 x1 x2 x3 x4 x5 x6 x7 hl2
 generalize hy : x = y at *
 have HY := Lib.hid hy
 clear hy
 unfold ndV
 dsimp only
 go_wp2
 go_light
 have hF := put_next (x := y) (B := B3) (cap := cap3) HZ3.out HB3.out HT3.out rfl
 refine bodyPost_ret (ret_node Tryz.results35 rfl hF.1) rfl ?_
 rw [HV.out]
 exact ⟨B3, cap3, rfl, hF.2.1, hc3, hF.2.2⟩
theorem pl7 (x : Nd) (P : Nat → Prop) (B : Option Addr) (cap : Nat) (w : World) (hlen : x.size ≤ 90000000) (ht : TreesAt w P x.kids B) (h0 : x.kind ≠ 1) (h1 : x.kind ≠ 2) (h2 : x.kind ≠ 6) (h3 : x.kind = 7) :
  Calls Tryz.prog 35 #[ndV x B cap] w (NewT (plusP x) w) := by
 obtain ⟨hb2, HB2, HX2, HZ2, HW2⟩ := two_hid w x B cap
 have HV := Lib.hid (show plusP x = x by unfold plusP; rw [if_pos (by omega)])
 have e0 := kind_no h0
 have e1 := kind_no h1
 have e2 := kind_no h2
 have e3 := kind_yes h3
 have HI := Lib.hid (copy_new x P B cap (W2n w x B cap) hlen (ht.below hb2))
 clear ht hb2 hlen
 clear h0 h1 h2 h3
 unfold ndV at *
 unfold ndA at *
 obtain ⟨x0, x1, x2, x3, x4, x5, x6, x7, hl2⟩ := (HX2.out).c8n
 go_enter Tryz.func35, Tryz.ntmps35
 go_upto_region 1 with fail
 rw [← W2n_lit w x B cap]
 generalize hw2 : W2n w x B cap = w2 at *
 go_wp2_with fail
 refine HI.out.mono ?_
 rintro e w3 ⟨B3, cap3, rfl, hb3, hc3, ht3⟩
 have hZ3 := HZ2.out.below hb3 HZ2.out.lt
 have HB3 := Lib.hid (HB2.out.trans (hb3.mono HB2.out.size))
 have HZ3 := Lib.hid hZ3
 have HT3 := Lib.hid (ht3.weak (Q := fun b => w.heap.size + 2 ≤ b) (fun b hb _ => by have := HZ2.out.lt; have := HW2.out; omega))
 obtain ⟨y0, y1, y2, y3, y4, y5, y6, y7, g0, g1, g2, g3, g4, g5, g6, g7⟩ := hZ3.z16
 clear hZ3 ht3 hb3 HI HZ2 HB2 HX2 x0 x1 x2 x3 x4 x5 x6 x7 hl2
 generalize hy : x = y at *
 have HY := Lib.hid hy
 clear hy
 unfold ndV
 dsimp only
 go_wp2
 go_light
 have hF := put_next (x := y) (B := B3) (cap := cap3) HZ3.out HB3.out HT3.out rfl
 refine bodyPost_ret (ret_node Tryz.results35 rfl hF.1) rfl ?_
 rw [HV.out]
 exact ⟨B3, cap3, rfl, hF.2.1, hc3, hF.2.2⟩
theorem pl8 (x : Nd) (P : Nat → Prop) (B : Option Addr) (cap : Nat) (w : World) (hlen : x.size ≤ 90000000) (ht : TreesAt w P x.kids B) (hok : OkN x) (h6 : 6 ≤ x.kind) (h0 : x.kind ≠ 1) (h1 : x.kind ≠ 2) (h2 : x.kind ≠ 6) (h3 : x.kind ≠ 7) (h4 : x.kind = 8) :
  Calls Tryz.prog 35 #[ndV x B cap] w (NewT (plusP x) w) := by
 obtain ⟨hb2, HB2, HX2, HZ2, HW2⟩ := two_hid w x B cap
 have HV := Lib.hid (show plusP x = overN 6 (kid0 x) by unfold plusP; rw [if_neg (by omega)]; rw [if_pos (by omega)])
 have e0 := kind_no h0
 have e1 := kind_no h1
 have e2 := kind_no h2
 have e3 := kind_no h3
 have e4 := kind_yes h4
 obtain ⟨z, hz⟩ := ok_one hok h6
 have hk0 : kid0 x = z := kid0_one hz
 have hg : x.kids.list[0]? = some z := by rw [hz]; rfl
 have hzs := Trees.size_get x.kids 0 z hg
 have hlz : x.kids.len = 1 := by rw [← Trees.len_list, hz]; rfl
 obtain ⟨b, o, C, capc, hBe, _, hck, ⟨c0, c1, c2, c3, c4, c5, c6, c7⟩, hkz⟩ := (ht.below hb2).get hg
 simp only [Nat.zero_mul, Nat.add_zero] at c0 c1 c2 c3 c4 c5 c6 c7
 have hbl := World.block_lt_of_cell? _ _ c0
 have HI := Lib.hid (star_new z P C capc (W2n w x B cap) (by unfold Nd.size at hlen; omega) hkz)
 have hd0 : (0 : Int) < (x.kids.len : Int) := by omega
 have HBe := Lib.hid hBe
 clear ht hkz hg hz hb2 hlen hzs hck hBe hlz
 rw [hk0] at HV
 clear h0 h1 h2 h3 h4
 unfold ndV at *
 unfold ndA at *
 obtain ⟨x0, x1, x2, x3, x4, x5, x6, x7, hl2⟩ := (HX2.out).c8n
 go_enter Tryz.func35, Tryz.ntmps35
 go_upto_region 1 with fail
 rw [← W2n_lit w x B cap]
 generalize hw2 : W2n w x B cap = w2 at *
 have hBe := HBe.out
 go_wp2_with fail
 refine HI.out.mono ?_
 rintro e w3 ⟨B3, cap3, rfl, hb3, hc3, ht3⟩
 have hZ3 := HZ2.out.below hb3 HZ2.out.lt
 have HB3 := Lib.hid (HB2.out.trans (hb3.mono HB2.out.size))
 have HZ3 := Lib.hid hZ3
 have HT3 := Lib.hid (ht3.weak (Q := fun b => w.heap.size + 2 ≤ b) (fun b hb _ => by have := HZ2.out.lt; have := HW2.out; omega))
 obtain ⟨y0, y1, y2, y3, y4, y5, y6, y7, g0, g1, g2, g3, g4, g5, g6, g7⟩ := hZ3.z16
 clear hZ3 ht3 hb3 HI HZ2 HB2 HX2 x0 x1 x2 x3 x4 x5 x6 x7 hl2
 generalize hy : overN 6 z = y at *
 have HY := Lib.hid hy
 clear hy
 unfold ndV
 dsimp only
 go_wp2
 go_light
 have hF := put_next (x := y) (B := B3) (cap := cap3) HZ3.out HB3.out HT3.out rfl
 refine bodyPost_ret (ret_node Tryz.results35 rfl hF.1) rfl ?_
 rw [HV.out]
 exact ⟨B3, cap3, rfl, hF.2.1, hc3, hF.2.2⟩
theorem pl0 (x : Nd) (P : Nat → Prop) (B : Option Addr) (cap : Nat) (w : World) (hlen : x.size ≤ 90000000) (ht : TreesAt w P x.kids B) (h0 : x.kind ≠ 1) (h1 : x.kind ≠ 2) (h2 : x.kind ≠ 6) (h3 : x.kind ≠ 7) (h4 : x.kind ≠ 8) :
  Calls Tryz.prog 35 #[ndV x B cap] w (NewT (plusP x) w) := by
 obtain ⟨hb2, HB2, HX2, HZ2, HW2⟩ := two_hid w x B cap
 have HV := Lib.hid (show plusP x = overN 7 x by unfold plusP; rw [if_neg (by omega)]; rw [if_neg (by omega)])
 have e0 := kind_no h0
 have e1 := kind_no h1
 have e2 := kind_no h2
 have e3 := kind_no h3
 have e4 := kind_no h4
 have HI := Lib.hid (plus_new x P B cap (W2n w x B cap) hlen (ht.below hb2))
 clear ht hb2 hlen
 clear h0 h1 h2 h3 h4
 unfold ndV at *
 unfold ndA at *
 obtain ⟨x0, x1, x2, x3, x4, x5, x6, x7, hl2⟩ := (HX2.out).c8n
 go_enter Tryz.func35, Tryz.ntmps35
 go_upto_region 1 with fail
 rw [← W2n_lit w x B cap]
 generalize hw2 : W2n w x B cap = w2 at *
 go_wp2_with fail
 refine HI.out.mono ?_
 rintro e w3 ⟨B3, cap3, rfl, hb3, hc3, ht3⟩
 have hZ3 := HZ2.out.below hb3 HZ2.out.lt
 have HB3 := Lib.hid (HB2.out.trans (hb3.mono HB2.out.size))
 have HZ3 := Lib.hid hZ3
 have HT3 := Lib.hid (ht3.weak (Q := fun b => w.heap.size + 2 ≤ b) (fun b hb _ => by have := HZ2.out.lt; have := HW2.out; omega))
 obtain ⟨y0, y1, y2, y3, y4, y5, y6, y7, g0, g1, g2, g3, g4, g5, g6, g7⟩ := hZ3.z16
 clear hZ3 ht3 hb3 HI HZ2 HB2 HX2 x0 x1 x2 x3 x4 x5 x6 x7 hl2
 generalize hy : overN 7 x = y at *
 have HY := Lib.hid hy
 clear hy
 unfold ndV
 dsimp only
 go_wp2
 go_light
 have hF := put_next (x := y) (B := B3) (cap := cap3) HZ3.out HB3.out HT3.out rfl
 refine bodyPost_ret (ret_node Tryz.results35 rfl hF.1) rfl ?_
 rw [HV.out]
 exact ⟨B3, cap3, rfl, hF.2.1, hc3, hF.2.2⟩
theorem splus_go (x : Nd) (P : Nat → Prop) (B : Option Addr) (cap : Nat) (w : World) (hlen : x.size ≤ 90000000) (ht : TreesAt w P x.kids B) (hok : OkN x) : Calls Tryz.prog 35 #[ndV x B cap] w (NewT (plusP x) w) := by
 by_cases h1 : x.kind = 1
 ·exact pl1 x P B cap w hlen ht h1
 by_cases h2 : x.kind = 2
 ·exact pl2 x P B cap w hlen ht h1 h2
 by_cases h6 : x.kind = 6
 ·exact pl6 x P B cap w hlen ht h1 h2 h6
 by_cases h7 : x.kind = 7
 ·exact pl7 x P B cap w hlen ht h1 h2 h6 h7
 by_cases h8 : x.kind = 8
 ·exact pl8 x P B cap w hlen ht hok (by omega) h1 h2 h6 h7 h8
 ·exact pl0 x P B cap w hlen ht h1 h2 h6 h7 h8
theorem op1 (x : Nd) (P : Nat → Prop) (B : Option Addr) (cap : Nat) (w : World) (hlen : x.size ≤ 90000000) (ht : TreesAt w P x.kids B) (h0 : x.kind = 1) :
  Calls Tryz.prog 37 #[ndV x B cap] w (NewT (optP x) w) := by
 obtain ⟨hb2, HB2, HX2, HZ2, HW2⟩ := two_hid w x B cap
 have HV := Lib.hid (show optP x = emptyN by unfold optP; rw [if_pos (by omega)])
 have e0 := kind_yes h0
 have HI := Lib.hid (empty_new (W2n w x B cap))
 clear ht hb2 hlen
 clear h0
 unfold ndV at *
 unfold ndA at *
 obtain ⟨x0, x1, x2, x3, x4, x5, x6, x7, hl2⟩ := (HX2.out).c8n
 go_enter Tryz.func37, Tryz.ntmps37
 go_upto_region 1 with fail
 rw [← W2n_lit w x B cap]
 generalize hw2 : W2n w x B cap = w2 at *
 go_wp2_with fail
 refine HI.out.mono ?_
 rintro e w3 ⟨B3, cap3, rfl, hb3, hc3, ht3⟩
 have hZ3 := HZ2.out.below hb3 HZ2.out.lt
 have HB3 := Lib.hid (HB2.out.trans (hb3.mono HB2.out.size))
 have HZ3 := Lib.hid hZ3
 have HT3 := Lib.hid (ht3.weak (Q := fun b => w.heap.size + 2 ≤ b) (fun b hb _ => by have := HZ2.out.lt; have := HW2.out; omega))
 obtain ⟨y0, y1, y2, y3, y4, y5, y6, y7, g0, g1, g2, g3, g4, g5, g6, g7⟩ := hZ3.z16
 clear hZ3 ht3 hb3 HI HZ2 HB2 HX2 x0 x1 x2 x3 x4 x5 x6 x7 hl2
 generalize hy : emptyN = y at *
 have HY := Lib.hid hy
 clear hy
 unfold ndV
 dsimp only
 go_wp2
 go_light
 have hF := put_next (x := y) (B := B3) (cap := cap3) HZ3.out HB3.out HT3.out rfl
 refine bodyPost_ret (ret_node Tryz.results37 rfl hF.1) rfl ?_
 rw [HV.out]
 exact ⟨B3, cap3, rfl, hF.2.1, hc3, hF.2.2⟩
theorem op2 (x : Nd) (P : Nat → Prop) (B : Option Addr) (cap : Nat) (w : World) (hlen : x.size ≤ 90000000) (ht : TreesAt w P x.kids B) (h0 : x.kind ≠ 1) (h1 : x.kind = 2) :
  Calls Tryz.prog 37 #[ndV x B cap] w (NewT (optP x) w) := by
 obtain ⟨hb2, HB2, HX2, HZ2, HW2⟩ := two_hid w x B cap
 have HV := Lib.hid (show optP x = x by unfold optP; rw [if_neg (by omega)]; rw [if_pos (by omega)])
 have e0 := kind_no h0
 have e1 := kind_yes h1
 have HI := Lib.hid (copy_new x P B cap (W2n w x B cap) hlen (ht.below hb2))
 clear ht hb2 hlen
 clear h0 h1
 unfold ndV at *
 unfold ndA at *
 obtain ⟨x0, x1, x2, x3, x4, x5, x6, x7, hl2⟩ := (HX2.out).c8n
 go_enter Tryz.func37, Tryz.ntmps37
 go_upto_region 1 with fail
 rw [← W2n_lit w x B cap]
 generalize hw2 : W2n w x B cap = w2 at *
 go_wp2_with fail
 refine HI.out.mono ?_
 rintro e w3 ⟨B3, cap3, rfl, hb3, hc3, ht3⟩
 have hZ3 := HZ2.out.below hb3 HZ2.out.lt
 have HB3 := Lib.hid (HB2.out.trans (hb3.mono HB2.out.size))
 have HZ3 := Lib.hid hZ3
 have HT3 := Lib.hid (ht3.weak (Q := fun b => w.heap.size + 2 ≤ b) (fun b hb _ => by have := HZ2.out.lt; have := HW2.out; omega))
 obtain ⟨y0, y1, y2, y3, y4, y5, y6, y7, g0, g1, g2, g3, g4, g5, g6, g7⟩ := hZ3.z16
 clear hZ3 ht3 hb3 HI HZ2 HB2 HX2 x0 x1 x2 x3 x4 x5 x6 x7 hl2
 generalize hy : x = y at *
 have HY := Lib.hid hy
 clear hy
 unfold ndV
 dsimp only
 go_wp2
 go_light
 have hF := put_next (x := y) (B := B3) (cap := cap3) HZ3.out HB3.out HT3.out rfl
 refine bodyPost_ret (ret_node Tryz.results37 rfl hF.1) rfl ?_
 rw [HV.out]
 exact ⟨B3, cap3, rfl, hF.2.1, hc3, hF.2.2⟩
theorem op6 (x : Nd) (P : Nat → Prop) (B : Option Addr) (cap : Nat) (w : World) (hlen : x.size ≤ 90000000) (ht : TreesAt w P x.kids B) (h0 : x.kind ≠ 1) (h1 : x.kind ≠ 2) (h2 : x.kind = 6) :
  Calls Tryz.prog 37 #[ndV x B cap] w (NewT (optP x) w) := by
 obtain ⟨hb2, HB2, HX2, HZ2, HW2⟩ := two_hid w x B cap
 have HV := Lib.hid (show optP x = x by unfold optP; rw [if_neg (by omega)]; rw [if_pos (by omega)])
 have e0 := kind_no h0
 have e1 := kind_no h1
 have e2 := kind_yes h2
 have HI := Lib.hid (copy_new x P B cap (W2n w x B cap) hlen (ht.below hb2))
 clear ht hb2 hlen
 clear h0 h1 h2
 unfold ndV at *
 unfold ndA at *
 obtain ⟨x0, x1, x2, x3, x4, x5, x6, x7, hl2⟩ := (HX2.out).c8n
 go_enter Tryz.func37, Tryz.ntmps37
 go_upto_region 1 with fail
 rw [← W2n_lit w x B cap]
 generalize hw2 : W2n w x B cap = w2 at *
 go_wp2_with fail
 refine HI.out.mono ?_
 rintro e w3 ⟨B3, cap3, rfl, hb3, hc3, ht3⟩
 have hZ3 := HZ2.out.below hb3 HZ2.out.lt
 have HB3 := Lib.hid (HB2.out.trans (hb3.mono HB2.out.size))
 have HZ3 := Lib.hid hZ3
 have HT3 := Lib.hid (ht3.weak (Q := fun b => w.heap.size + 2 ≤ b) (fun b hb _ => by have := HZ2.out.lt; have := HW2.out; omega))
 obtain ⟨y0, y1, y2, y3, y4, y5, y6, y7, g0, g1, g2, g3, g4, g5, g6, g7⟩ := hZ3.z16
 clear hZ3 ht3 hb3 HI HZ2 HB2 HX2 x0 x1 x2 x3 x4 x5 x6 x7 hl2
 generalize hy : x = y at *
 have HY := Lib.hid hy
 clear hy
 unfold ndV
 dsimp only
 go_wp2
 go_light
 have hF := put_next (x := y) (B := B3) (cap := cap3) HZ3.out HB3.out HT3.out rfl
 refine bodyPost_ret (ret_node Tryz.results37 rfl hF.1) rfl ?_
 rw [HV.out]
 exact ⟨B3, cap3, rfl, hF.2.1, hc3, hF.2.2⟩
theorem op8 (x : Nd) (P : Nat → Prop) (B : Option Addr) (cap : Nat) (w : World) (hlen : x.size ≤ 90000000) (ht : TreesAt w P x.kids B) (h0 : x.kind ≠ 1) (h1 : x.kind ≠ 2) (h2 : x.kind ≠ 6) (h3 : x.kind = 8) :
  Calls Tryz.prog 37 #[ndV x B cap] w (NewT (optP x) w) := by
 obtain ⟨hb2, HB2, HX2, HZ2, HW2⟩ := two_hid w x B cap
 have HV := Lib.hid (show optP x = x by unfold optP; rw [if_neg (by omega)]; rw [if_pos (by omega)])
 have e0 := kind_no h0
 have e1 := kind_no h1
 have e2 := kind_no h2
 have e3 := kind_yes h3
 have HI := Lib.hid (copy_new x P B cap (W2n w x B cap) hlen (ht.below hb2))
 clear ht hb2 hlen
 clear h0 h1 h2 h3
 unfold ndV at *
 unfold ndA at *
 obtain ⟨x0, x1, x2, x3, x4, x5, x6, x7, hl2⟩ := (HX2.out).c8n
 go_enter Tryz.func37, Tryz.ntmps37
 go_upto_region 1 with fail
 rw [← W2n_lit w x B cap]
 generalize hw2 : W2n w x B cap = w2 at *
 go_wp2_with fail
 refine HI.out.mono ?_
 rintro e w3 ⟨B3, cap3, rfl, hb3, hc3, ht3⟩
 have hZ3 := HZ2.out.below hb3 HZ2.out.lt
 have HB3 := Lib.hid (HB2.out.trans (hb3.mono HB2.out.size))
 have HZ3 := Lib.hid hZ3
 have HT3 := Lib.hid (ht3.weak (Q := fun b => w.heap.size + 2 ≤ b) (fun b hb _ => by have := HZ2.out.lt; have := HW2.out; omega))
 obtain ⟨y0, y1, y2, y3, y4, y5, y6, y7, g0, g1, g2, g3, g4, g5, g6, g7⟩ := hZ3.z16
 clear hZ3 ht3 hb3 HI HZ2 HB2 HX2 x0 x1 x2 x3 x4 x5 x6 x7 hl2
 generalize hy : x = y at *
 have HY := Lib.hid hy
 clear hy
 unfold ndV
 dsimp only
 go_wp2
 go_light
 have hF := put_next (x := y) (B := B3) (cap := cap3) HZ3.out HB3.out HT3.out rfl
 refine bodyPost_ret (ret_node Tryz.results37 rfl hF.1) rfl ?_
 rw [HV.out]
 exact ⟨B3, cap3, rfl, hF.2.1, hc3, hF.2.2⟩
theorem op7 (x : Nd) (P : Nat → Prop) (B : Option Addr) (cap : Nat) (w : World) (hlen : x.size ≤ 90000000) (ht : TreesAt w P x.kids B) (hok : OkN x) (h6 : 6 ≤ x.kind) (h0 : x.kind ≠ 1) (h1 : x.kind ≠ 2) (h2 : x.kind ≠ 6) (h3 : x.kind ≠ 8) (h4 : x.kind = 7) :
  Calls Tryz.prog 37 #[ndV x B cap] w (NewT (optP x) w) := by
 obtain ⟨hb2, HB2, HX2, HZ2, HW2⟩ := two_hid w x B cap
 have HV := Lib.hid (show optP x = overN 6 (kid0 x) by unfold optP; rw [if_neg (by omega)]; rw [if_neg (by omega)]; rw [if_pos (by omega)])
 have e0 := kind_no h0
 have e1 := kind_no h1
 have e2 := kind_no h2
 have e3 := kind_no h3
 have e4 := kind_yes h4
 obtain ⟨z, hz⟩ := ok_one hok h6
 have hk0 : kid0 x = z := kid0_one hz
 have hg : x.kids.list[0]? = some z := by rw [hz]; rfl
 have hzs := Trees.size_get x.kids 0 z hg
 have hlz : x.kids.len = 1 := by rw [← Trees.len_list, hz]; rfl
 obtain ⟨b, o, C, capc, hBe, _, hck, ⟨c0, c1, c2, c3, c4, c5, c6, c7⟩, hkz⟩ := (ht.below hb2).get hg
 simp only [Nat.zero_mul, Nat.add_zero] at c0 c1 c2 c3 c4 c5 c6 c7
 have hbl := World.block_lt_of_cell? _ _ c0
 have HI := Lib.hid (star_new z P C capc (W2n w x B cap) (by unfold Nd.size at hlen; omega) hkz)
 have hd0 : (0 : Int) < (x.kids.len : Int) := by omega
 have HBe := Lib.hid hBe
 clear ht hkz hg hz hb2 hlen hzs hck hBe hlz
 rw [hk0] at HV
 clear h0 h1 h2 h3 h4
 unfold ndV at *
 unfold ndA at *
 obtain ⟨x0, x1, x2, x3, x4, x5, x6, x7, hl2⟩ := (HX2.out).c8n
 go_enter Tryz.func37, Tryz.ntmps37
 go_upto_region 1 with fail
 rw [← W2n_lit w x B cap]
 generalize hw2 : W2n w x B cap = w2 at *
 have hBe := HBe.out
 go_wp2_with fail
 refine HI.out.mono ?_
 rintro e w3 ⟨B3, cap3, rfl, hb3, hc3, ht3⟩
 have hZ3 := HZ2.out.below hb3 HZ2.out.lt
 have HB3 := Lib.hid (HB2.out.trans (hb3.mono HB2.out.size))
 have HZ3 := Lib.hid hZ3
 have HT3 := Lib.hid (ht3.weak (Q := fun b => w.heap.size + 2 ≤ b) (fun b hb _ => by have := HZ2.out.lt; have := HW2.out; omega))
 obtain ⟨y0, y1, y2, y3, y4, y5, y6, y7, g0, g1, g2, g3, g4, g5, g6, g7⟩ := hZ3.z16
 clear hZ3 ht3 hb3 HI HZ2 HB2 HX2 x0 x1 x2 x3 x4 x5 x6 x7 hl2
 generalize hy : overN 6 z = y at *
 have HY := Lib.hid hy
 clear hy
 unfold ndV
 dsimp only
 go_wp2
 go_light
 have hF := put_next (x := y) (B := B3) (cap := cap3) HZ3.out HB3.out HT3.out rfl
 refine bodyPost_ret (ret_node Tryz.results37 rfl hF.1) rfl ?_
 rw [HV.out]
 exact ⟨B3, cap3, rfl, hF.2.1, hc3, hF.2.2⟩
theorem op0 (x : Nd) (P : Nat → Prop) (B : Option Addr) (cap : Nat) (w : World) (hlen : x.size ≤ 90000000) (ht : TreesAt w P x.kids B) (h0 : x.kind ≠ 1) (h1 : x.kind ≠ 2) (h2 : x.kind ≠ 6) (h3 : x.kind ≠ 8) (h4 : x.kind ≠ 7) :
  Calls Tryz.prog 37 #[ndV x B cap] w (NewT (optP x) w) := by
 obtain ⟨hb2, HB2, HX2, HZ2, HW2⟩ := two_hid w x B cap
 have HV := Lib.hid (show optP x = overN 8 x by unfold optP; rw [if_neg (by omega)]; rw [if_neg (by omega)]; rw [if_neg (by omega)])
 have e0 := kind_no h0
 have e1 := kind_no h1
 have e2 := kind_no h2
 have e3 := kind_no h3
 have e4 := kind_no h4
 have HI := Lib.hid (opt_new x P B cap (W2n w x B cap) hlen (ht.below hb2))
 clear ht hb2 hlen
 clear h0 h1 h2 h3 h4
 unfold ndV at *
 unfold ndA at *
 obtain ⟨x0, x1, x2, x3, x4, x5, x6, x7, hl2⟩ := (HX2.out).c8n
 go_enter Tryz.func37, Tryz.ntmps37
 go_upto_region 1 with fail
 rw [← W2n_lit w x B cap]
 generalize hw2 : W2n w x B cap = w2 at *
 go_wp2_with fail
 refine HI.out.mono ?_
 rintro e w3 ⟨B3, cap3, rfl, hb3, hc3, ht3⟩
 have hZ3 := HZ2.out.below hb3 HZ2.out.lt
 have HB3 := Lib.hid (HB2.out.trans (hb3.mono HB2.out.size))
 have HZ3 := Lib.hid hZ3
 have HT3 := Lib.hid (ht3.weak (Q := fun b => w.heap.size + 2 ≤ b) (fun b hb _ => by have := HZ2.out.lt; have := HW2.out; omega))
 obtain ⟨y0, y1, y2, y3, y4, y5, y6, y7, g0, g1, g2, g3, g4, g5, g6, g7⟩ := hZ3.z16
 clear hZ3 ht3 hb3 HI HZ2 HB2 HX2 x0 x1 x2 x3 x4 x5 x6 x7 hl2
 generalize hy : overN 8 x = y at *
 have HY := Lib.hid hy
 clear hy
 unfold ndV
 dsimp only
 go_wp2
 go_light
 have hF := put_next (x := y) (B := B3) (cap := cap3) HZ3.out HB3.out HT3.out rfl
 refine bodyPost_ret (ret_node Tryz.results37 rfl hF.1) rfl ?_
 rw [HV.out]
 exact ⟨B3, cap3, rfl, hF.2.1, hc3, hF.2.2⟩
theorem sopt_go (x : Nd) (P : Nat → Prop) (B : Option Addr) (cap : Nat) (w : World) (hlen : x.size ≤ 90000000) (ht : TreesAt w P x.kids B) (hok : OkN x) : Calls Tryz.prog 37 #[ndV x B cap] w (NewT (optP x) w) := by
 by_cases h1 : x.kind = 1
 ·exact op1 x P B cap w hlen ht h1
 by_cases h2 : x.kind = 2
 ·exact op2 x P B cap w hlen ht h1 h2
 by_cases h6 : x.kind = 6
 ·exact op6 x P B cap w hlen ht h1 h2 h6
 by_cases h8 : x.kind = 8
 ·exact op8 x P B cap w hlen ht h1 h2 h6 h8
 by_cases h7 : x.kind = 7
 ·exact op7 x P B cap w hlen ht hok (by omega) h1 h2 h6 h8 h7
 ·exact op0 x P B cap w hlen ht h1 h2 h6 h8 h7
end Go.Proofs.YtofbfafnpdaejaaGreatDoor
