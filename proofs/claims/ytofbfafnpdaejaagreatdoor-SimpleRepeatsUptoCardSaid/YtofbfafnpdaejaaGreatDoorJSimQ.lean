/- Texts of the claim. -/
import Derived.Laws.StructEq
import Derived.Test.YtofbfafnpdaejaaGreatDoorJSimO
set_option linter.all false
set_option maxRecDepth 100000
set_option maxHeartbeats 8000000
namespace Go.Proofs.YtofbfafnpdaejaaGreatDoor
open Go.RowKit
@[go_sem] theorem eqTwo (a b a' b' : Int) (w : World) : (Op.equalIn 10000 109 (.agg #[.int .i64 a, .int .i64 b]) (.agg #[.int .i64 a', .int .i64 b'])).run Tryz.prog w = .ok (a == a' && b == b') w := by
 have u3 := Tryz.underlying3
 have a3 := Tryz.isAgg3
 have z3 := Tryz.sizeOf3
 rw [show (10000 : Nat) = 9999 + 1 from rfl, Op.equalIn]
 simp only [Sem.run_bind, run_underlying Tryz.underlying109, Result.andThen_ok]
 simp only [Std.Legacy.Range.forIn_eq_forIn_range', Std.Legacy.Range.size, Nat.sub_zero, Nat.add_sub_cancel, Nat.div_one, List.range'_succ, List.range'_zero, List.forIn_cons, List.forIn_nil]
 go_simp
 by_cases h1 : a = a' <;> by_cases h2 : b = b' <;> simp [h1, h2]
theorem rep_new (lo hi : Int) (x : Nd) (P : Nat → Prop) (B : Option Addr) (cap : Nat) (w : World) (hlen : x.size ≤ 90000000) (ht : TreesAt w P x.kids B) : Calls Tryz.prog 95 #[ndV x B cap, .int .i64 lo, .int .i64 hi] w (NewT ⟨9, 0, Trees.of [x], lo, hi⟩ w) := trep_go lo hi x P B cap w (by omega) ht
theorem isnone_at (x : Nd) (P : Nat → Prop) (B : Option Addr) (cap : Nat) (w : World) (hc : x.kids.len ≤ cap) (ht : TreesAt w P x.kids B) : Calls Tryz.prog 78 #[ndV x B cap] w fun e w' => e = .returned (.bool (isK 1 x)) ∧ Below w.heap.size w w' :=
 isnone_go w x B cap w (Below.refl _ _) hc (ht.keep (fun _ _ _ _ => rfl) (fun b _ h => h))
theorem rp1 (x : Nd) (lo hi : Int) (P : Nat → Prop) (B : Option Addr) (cap : Nat) (w : World) (hlen : x.size ≤ 90000000) (hc : x.kids.len ≤ cap) (ht : TreesAt w P x.kids B) (hok : OkN x) (h : hi = 0) :
  Calls Tryz.prog 39 #[ndV x B cap, .int .i64 lo, .int .i64 hi] w (NewT (repP x lo hi) w) := by
 obtain ⟨hb2, HB2, HX2, HZ2, HW2⟩ := two_hid w x B cap
 have HV := Lib.hid (show repP x lo hi = emptyN by unfold repP; rw [if_pos (by omega)])
 subst h
 have HI := Lib.hid (fun (W : World) (h : Below (W2n w x B cap).heap.size (W2n w x B cap) W) => empty_new W)
 have HIS := Lib.hid (fun (W : World) (h : Below (W2n w x B cap).heap.size (W2n w x B cap) W) => isnone_at x P B cap W hc ((ht.below hb2).below h))
 clear ht hb2 hlen
 unfold ndV at *
 unfold ndA at *
 obtain ⟨x0, x1, x2, x3, x4, x5, x6, x7, hl2⟩ := (HX2.out).c8n
 go_enter Tryz.func39, Tryz.ntmps39
 go_upto_region 1 with fail
 rw [← W2n_lit w x B cap]
 generalize hw2 : W2n w x B cap = w2 at *
 have HWb2 := Lib.hid (Below.refl w2.heap.size w2)
 go_wp2_with fail
 refine (HI.out w2 (HWb2.out)).mono ?_
 rintro e w9 ⟨B3, cap3, rfl, hb3, hc3, ht3⟩
 have hZ9 := HZ2.out.below hb3 HZ2.out.lt
 have HB9 := Lib.hid (HB2.out.trans (hb3.mono HB2.out.size))
 have HZ9 := Lib.hid hZ9
 have HT9 := Lib.hid (ht3.weak (Q := fun b => w.heap.size + 2 ≤ b) (fun b hb _ => by have := HWb2.out.size; have := HW2.out; omega))
 obtain ⟨y0, y1, y2, y3, y4, y5, y6, y7, g0, g1, g2, g3, g4, g5, g6, g7⟩ := hZ9.z16
 clear hZ9 ht3 hb3 HI HZ2 HB2 HX2 x0 x1 x2 x3 x4 x5 x6 x7 hl2
 generalize hy : emptyN = y at *
 have HY := Lib.hid hy
 clear hy
 unfold ndV
 dsimp only
 go_wp2
 go_light
 have hF := put_next (x := y) (B := B3) (cap := cap3) HZ9.out HB9.out HT9.out rfl
 refine bodyPost_ret (ret_node Tryz.results39 rfl hF.1) rfl ?_
 rw [HV.out]
 exact ⟨B3, cap3, rfl, hF.2.1, hc3, hF.2.2⟩
theorem rp2 (x : Nd) (lo hi : Int) (P : Nat → Prop) (B : Option Addr) (cap : Nat) (w : World) (hlen : x.size ≤ 90000000) (hc : x.kids.len ≤ cap) (ht : TreesAt w P x.kids B) (hok : OkN x) (h : hi ≠ 0) (h2 : x.kind = 2) :
  Calls Tryz.prog 39 #[ndV x B cap, .int .i64 lo, .int .i64 hi] w (NewT (repP x lo hi) w) := by
 obtain ⟨hb2, HB2, HX2, HZ2, HW2⟩ := two_hid w x B cap
 have HV := Lib.hid (show repP x lo hi = emptyN by unfold repP; rw [if_pos (by omega)])
 have e0 : (hi == 0) = false := kind_no h
 have e2 := kind_yes h2
 clear h h2
 have HI := Lib.hid (fun (W : World) (h : Below (W2n w x B cap).heap.size (W2n w x B cap) W) => empty_new W)
 have HIS := Lib.hid (fun (W : World) (h : Below (W2n w x B cap).heap.size (W2n w x B cap) W) => isnone_at x P B cap W hc ((ht.below hb2).below h))
 clear ht hb2 hlen
 unfold ndV at *
 unfold ndA at *
 obtain ⟨x0, x1, x2, x3, x4, x5, x6, x7, hl2⟩ := (HX2.out).c8n
 go_enter Tryz.func39, Tryz.ntmps39
 go_upto_region 1 with fail
 rw [← W2n_lit w x B cap]
 generalize hw2 : W2n w x B cap = w2 at *
 have HWb2 := Lib.hid (Below.refl w2.heap.size w2)
 go_wp2_with fail
 refine (HI.out w2 (HWb2.out)).mono ?_
 rintro e w9 ⟨B3, cap3, rfl, hb3, hc3, ht3⟩
 have hZ9 := HZ2.out.below hb3 HZ2.out.lt
 have HB9 := Lib.hid (HB2.out.trans (hb3.mono HB2.out.size))
 have HZ9 := Lib.hid hZ9
 have HT9 := Lib.hid (ht3.weak (Q := fun b => w.heap.size + 2 ≤ b) (fun b hb _ => by have := HWb2.out.size; have := HW2.out; omega))
 obtain ⟨y0, y1, y2, y3, y4, y5, y6, y7, g0, g1, g2, g3, g4, g5, g6, g7⟩ := hZ9.z16
 clear hZ9 ht3 hb3 HI HZ2 HB2 HX2 x0 x1 x2 x3 x4 x5 x6 x7 hl2
 generalize hy : emptyN = y at *
 have HY := Lib.hid hy
 clear hy
 unfold ndV
 dsimp only
 go_wp2
 go_light
 have hF := put_next (x := y) (B := B3) (cap := cap3) HZ9.out HB9.out HT9.out rfl
 refine bodyPost_ret (ret_node Tryz.results39 rfl hF.1) rfl ?_
 rw [HV.out]
 exact ⟨B3, cap3, rfl, hF.2.1, hc3, hF.2.2⟩
theorem rp3 (x : Nd) (lo hi : Int) (P : Nat → Prop) (B : Option Addr) (cap : Nat) (w : World) (hlen : x.size ≤ 90000000) (hc : x.kids.len ≤ cap) (ht : TreesAt w P x.kids B) (hok : OkN x) (h : hi ≠ 0) (h1 : x.kind = 1) (hl : lo = 0) :
  Calls Tryz.prog 39 #[ndV x B cap, .int .i64 lo, .int .i64 hi] w (NewT (repP x lo hi) w) := by
 obtain ⟨hb2, HB2, HX2, HZ2, HW2⟩ := two_hid w x B cap
 have HV := Lib.hid (show repP x lo hi = emptyN by unfold repP; rw [if_neg (by omega)]; rw [if_pos (by omega)])
 have e0 : (hi == 0) = false := kind_no h
 have e2 : (x.kind == 2) = false := kind_no (by omega)
 have hn : isK 1 x = true := decide_eq_true h1
 subst hl
 clear h h1
 have HI := Lib.hid (fun (W : World) (h : Below (W2n w x B cap).heap.size (W2n w x B cap) W) => empty_new W)
 have HIS := Lib.hid (fun (W : World) (h : Below (W2n w x B cap).heap.size (W2n w x B cap) W) => isnone_at x P B cap W hc ((ht.below hb2).below h))
 rw [hn] at HIS
 clear ht hb2 hlen
 unfold ndV at *
 unfold ndA at *
 obtain ⟨x0, x1, x2, x3, x4, x5, x6, x7, hl2⟩ := (HX2.out).c8n
 go_enter Tryz.func39, Tryz.ntmps39
 go_upto_region 1 with fail
 rw [← W2n_lit w x B cap]
 generalize hw2 : W2n w x B cap = w2 at *
 have HWb2 := Lib.hid (Below.refl w2.heap.size w2)
 go_wp2_with fail
 refine (HIS.out w2 (HWb2.out)).mono ?_
 rintro e w3 ⟨rfl, hb3⟩
 have HWb3 := Lib.hid (HWb2.out.trans (hb3.mono HWb2.out.size))
 have HX3 := Lib.hid (HX2.out.below hb3 HX2.out.lt)
 have HZ3 := Lib.hid (HZ2.out.below hb3 HZ2.out.lt)
 have HB3 := Lib.hid (HB2.out.trans (hb3.mono HB2.out.size))
 clear hb3 x0 x1 x2 x3 x4 x5 x6 x7 hl2 HX2 HZ2 HB2
 obtain ⟨x0, x1, x2, x3, x4, x5, x6, x7, hl2⟩ := (HX3.out).c8n
 dsimp only
 go_wp2_with fail
 refine (HI.out w3 (HWb3.out)).mono ?_
 rintro e w9 ⟨B3, cap3, rfl, hb3, hc3, ht3⟩
 have hZ9 := HZ3.out.below hb3 HZ3.out.lt
 have HB9 := Lib.hid (HB3.out.trans (hb3.mono HB3.out.size))
 have HZ9 := Lib.hid hZ9
 have HT9 := Lib.hid (ht3.weak (Q := fun b => w.heap.size + 2 ≤ b) (fun b hb _ => by have := HWb3.out.size; have := HW2.out; omega))
 obtain ⟨y0, y1, y2, y3, y4, y5, y6, y7, g0, g1, g2, g3, g4, g5, g6, g7⟩ := hZ9.z16
 clear hZ9 ht3 hb3 HI HZ3 HB3 HX3 x0 x1 x2 x3 x4 x5 x6 x7 hl2
 generalize hy : emptyN = y at *
 have HY := Lib.hid hy
 clear hy
 unfold ndV
 dsimp only
 go_wp2
 go_light
 have hF := put_next (x := y) (B := B3) (cap := cap3) HZ9.out HB9.out HT9.out rfl
 refine bodyPost_ret (ret_node Tryz.results39 rfl hF.1) rfl ?_
 rw [HV.out]
 exact ⟨B3, cap3, rfl, hF.2.1, hc3, hF.2.2⟩
theorem rp4 (x : Nd) (lo hi : Int) (P : Nat → Prop) (B : Option Addr) (cap : Nat) (w : World) (hlen : x.size ≤ 90000000) (hc : x.kids.len ≤ cap) (ht : TreesAt w P x.kids B) (hok : OkN x) (h : hi ≠ 0) (h1 : x.kind = 1) (hl : lo ≠ 0) :
  Calls Tryz.prog 39 #[ndV x B cap, .int .i64 lo, .int .i64 hi] w (NewT (repP x lo hi) w) := by
 obtain ⟨hb2, HB2, HX2, HZ2, HW2⟩ := two_hid w x B cap
 have HV := Lib.hid (show repP x lo hi = noneN by unfold repP; rw [if_neg (by omega)]; rw [if_neg (by omega)]; rw [if_pos (by omega)])
 have e0 : (hi == 0) = false := kind_no h
 have e2 : (x.kind == 2) = false := kind_no (by omega)
 have hn : isK 1 x = true := decide_eq_true h1
 have el : (lo == 0) = false := kind_no hl
 clear h h1 hl
 have HI := Lib.hid (fun (W : World) (h : Below (W2n w x B cap).heap.size (W2n w x B cap) W) => none_new W)
 have HIS := Lib.hid (fun (W : World) (h : Below (W2n w x B cap).heap.size (W2n w x B cap) W) => isnone_at x P B cap W hc ((ht.below hb2).below h))
 rw [hn] at HIS
 clear ht hb2 hlen
 unfold ndV at *
 unfold ndA at *
 obtain ⟨x0, x1, x2, x3, x4, x5, x6, x7, hl2⟩ := (HX2.out).c8n
 go_enter Tryz.func39, Tryz.ntmps39
 go_upto_region 1 with fail
 rw [← W2n_lit w x B cap]
 generalize hw2 : W2n w x B cap = w2 at *
 have HWb2 := Lib.hid (Below.refl w2.heap.size w2)
 go_wp2_with fail
 refine (HIS.out w2 (HWb2.out)).mono ?_
 rintro e w3 ⟨rfl, hb3⟩
 have HWb3 := Lib.hid (HWb2.out.trans (hb3.mono HWb2.out.size))
 have HX3 := Lib.hid (HX2.out.below hb3 HX2.out.lt)
 have HZ3 := Lib.hid (HZ2.out.below hb3 HZ2.out.lt)
 have HB3 := Lib.hid (HB2.out.trans (hb3.mono HB2.out.size))
 clear hb3 x0 x1 x2 x3 x4 x5 x6 x7 hl2 HX2 HZ2 HB2
 obtain ⟨x0, x1, x2, x3, x4, x5, x6, x7, hl2⟩ := (HX3.out).c8n
 dsimp only
 go_wp2_with fail
 refine (HIS.out w3 (HWb3.out)).mono ?_
 rintro e w4 ⟨rfl, hb4⟩
 have HWb4 := Lib.hid (HWb3.out.trans (hb4.mono HWb3.out.size))
 have HX4 := Lib.hid (HX3.out.below hb4 HX3.out.lt)
 have HZ4 := Lib.hid (HZ3.out.below hb4 HZ3.out.lt)
 have HB4 := Lib.hid (HB3.out.trans (hb4.mono HB3.out.size))
 clear hb4 x0 x1 x2 x3 x4 x5 x6 x7 hl2 HX3 HZ3 HB3
 obtain ⟨x0, x1, x2, x3, x4, x5, x6, x7, hl2⟩ := (HX4.out).c8n
 dsimp only
 go_wp2_with fail
 refine (HI.out w4 (HWb4.out)).mono ?_
 rintro e w9 ⟨B3, cap3, rfl, hb3, hc3, ht3⟩
 have hZ9 := HZ4.out.below hb3 HZ4.out.lt
 have HB9 := Lib.hid (HB4.out.trans (hb3.mono HB4.out.size))
 have HZ9 := Lib.hid hZ9
 have HT9 := Lib.hid (ht3.weak (Q := fun b => w.heap.size + 2 ≤ b) (fun b hb _ => by have := HWb4.out.size; have := HW2.out; omega))
 obtain ⟨y0, y1, y2, y3, y4, y5, y6, y7, g0, g1, g2, g3, g4, g5, g6, g7⟩ := hZ9.z16
 clear hZ9 ht3 hb3 HI HZ4 HB4 HX4 x0 x1 x2 x3 x4 x5 x6 x7 hl2
 generalize hy : noneN = y at *
 have HY := Lib.hid hy
 clear hy
 unfold ndV
 dsimp only
 go_wp2
 go_light
 have hF := put_next (x := y) (B := B3) (cap := cap3) HZ9.out HB9.out HT9.out rfl
 refine bodyPost_ret (ret_node Tryz.results39 rfl hF.1) rfl ?_
 rw [HV.out]
 exact ⟨B3, cap3, rfl, hF.2.1, hc3, hF.2.2⟩
theorem rp5 (x : Nd) (lo hi : Int) (P : Nat → Prop) (B : Option Addr) (cap : Nat) (w : World) (hlen : x.size ≤ 90000000) (hc : x.kids.len ≤ cap) (ht : TreesAt w P x.kids B) (hok : OkN x) (h1 : x.kind ≠ 1) (h2 : x.kind ≠ 2) (hl : lo = 1) (hh : hi = 1) :
  Calls Tryz.prog 39 #[ndV x B cap, .int .i64 lo, .int .i64 hi] w (NewT (repP x lo hi) w) := by
 obtain ⟨hb2, HB2, HX2, HZ2, HW2⟩ := two_hid w x B cap
 have HV := Lib.hid (show repP x lo hi = x by unfold repP; rw [if_neg (by omega)]; rw [if_neg (by omega)]; rw [if_neg (by omega)]; rw [if_pos (by omega)])
 have e2 := kind_no h2
 have hn : isK 1 x = false := decide_eq_false h1
 subst hl hh
 clear h1 h2
 have HI := Lib.hid (fun (W : World) (h : Below (W2n w x B cap).heap.size (W2n w x B cap) W) => copy_new x P B cap W hlen ((ht.below hb2).below h))
 have HIS := Lib.hid (fun (W : World) (h : Below (W2n w x B cap).heap.size (W2n w x B cap) W) => isnone_at x P B cap W hc ((ht.below hb2).below h))
 rw [hn] at HIS
 clear ht hb2 hlen
 unfold ndV at *
 unfold ndA at *
 obtain ⟨x0, x1, x2, x3, x4, x5, x6, x7, hl2⟩ := (HX2.out).c8n
 go_enter Tryz.func39, Tryz.ntmps39
 go_upto_region 1 with fail
 rw [← W2n_lit w x B cap]
 generalize hw2 : W2n w x B cap = w2 at *
 have HWb2 := Lib.hid (Below.refl w2.heap.size w2)
 go_wp2_with fail
 refine (HIS.out w2 (HWb2.out)).mono ?_
 rintro e w3 ⟨rfl, hb3⟩
 have HWb3 := Lib.hid (HWb2.out.trans (hb3.mono HWb2.out.size))
 have HX3 := Lib.hid (HX2.out.below hb3 HX2.out.lt)
 have HZ3 := Lib.hid (HZ2.out.below hb3 HZ2.out.lt)
 have HB3 := Lib.hid (HB2.out.trans (hb3.mono HB2.out.size))
 clear hb3 x0 x1 x2 x3 x4 x5 x6 x7 hl2 HX2 HZ2 HB2
 obtain ⟨x0, x1, x2, x3, x4, x5, x6, x7, hl2⟩ := (HX3.out).c8n
 dsimp only
 go_wp2_with fail
 refine (HIS.out w3 (HWb3.out)).mono ?_
 rintro e w4 ⟨rfl, hb4⟩
 have HWb4 := Lib.hid (HWb3.out.trans (hb4.mono HWb3.out.size))
 have HX4 := Lib.hid (HX3.out.below hb4 HX3.out.lt)
 have HZ4 := Lib.hid (HZ3.out.below hb4 HZ3.out.lt)
 have HB4 := Lib.hid (HB3.out.trans (hb4.mono HB3.out.size))
 clear hb4 x0 x1 x2 x3 x4 x5 x6 x7 hl2 HX3 HZ3 HB3
 obtain ⟨x0, x1, x2, x3, x4, x5, x6, x7, hl2⟩ := (HX4.out).c8n
 dsimp only
 go_wp2_with fail
 refine (HI.out w4 (HWb4.out)).mono ?_
 rintro e w9 ⟨B3, cap3, rfl, hb3, hc3, ht3⟩
 have hZ9 := HZ4.out.below hb3 HZ4.out.lt
 have HB9 := Lib.hid (HB4.out.trans (hb3.mono HB4.out.size))
 have HZ9 := Lib.hid hZ9
 have HT9 := Lib.hid (ht3.weak (Q := fun b => w.heap.size + 2 ≤ b) (fun b hb _ => by have := HWb4.out.size; have := HW2.out; omega))
 obtain ⟨y0, y1, y2, y3, y4, y5, y6, y7, g0, g1, g2, g3, g4, g5, g6, g7⟩ := hZ9.z16
 clear hZ9 ht3 hb3 HI HZ4 HB4 HX4 x0 x1 x2 x3 x4 x5 x6 x7 hl2
 generalize hy : x = y at *
 have HY := Lib.hid hy
 clear hy
 unfold ndV
 dsimp only
 go_wp2
 go_light
 have hF := put_next (x := y) (B := B3) (cap := cap3) HZ9.out HB9.out HT9.out rfl
 refine bodyPost_ret (ret_node Tryz.results39 rfl hF.1) rfl ?_
 rw [HV.out]
 exact ⟨B3, cap3, rfl, hF.2.1, hc3, hF.2.2⟩
theorem rp6 (x : Nd) (lo hi : Int) (P : Nat → Prop) (B : Option Addr) (cap : Nat) (w : World) (hlen : x.size ≤ 90000000) (hc : x.kids.len ≤ cap) (ht : TreesAt w P x.kids B) (hok : OkN x) (h1 : x.kind ≠ 1) (h2 : x.kind ≠ 2) (hl : lo = 0) (hh : hi = -1) :
  Calls Tryz.prog 39 #[ndV x B cap, .int .i64 lo, .int .i64 hi] w (NewT (repP x lo hi) w) := by
 obtain ⟨hb2, HB2, HX2, HZ2, HW2⟩ := two_hid w x B cap
 have HV := Lib.hid (show repP x lo hi = starP x by unfold repP; rw [if_neg (by omega)]; rw [if_neg (by omega)]; rw [if_neg (by omega)]; rw [if_neg (by omega)]; rw [if_pos (by omega)])
 have e2 := kind_no h2
 have hn : isK 1 x = false := decide_eq_false h1
 subst hl hh
 clear h1 h2
 have HI := Lib.hid (fun (W : World) (h : Below (W2n w x B cap).heap.size (W2n w x B cap) W) => sstar_go x P B cap W hlen ((ht.below hb2).below h) hok)
 have HIS := Lib.hid (fun (W : World) (h : Below (W2n w x B cap).heap.size (W2n w x B cap) W) => isnone_at x P B cap W hc ((ht.below hb2).below h))
 rw [hn] at HIS
 clear ht hb2 hlen
 unfold ndV at *
 unfold ndA at *
 obtain ⟨x0, x1, x2, x3, x4, x5, x6, x7, hl2⟩ := (HX2.out).c8n
 go_enter Tryz.func39, Tryz.ntmps39
 go_upto_region 1 with fail
 rw [← W2n_lit w x B cap]
 generalize hw2 : W2n w x B cap = w2 at *
 have HWb2 := Lib.hid (Below.refl w2.heap.size w2)
 go_wp2_with fail
 refine (HIS.out w2 (HWb2.out)).mono ?_
 rintro e w3 ⟨rfl, hb3⟩
 have HWb3 := Lib.hid (HWb2.out.trans (hb3.mono HWb2.out.size))
 have HX3 := Lib.hid (HX2.out.below hb3 HX2.out.lt)
 have HZ3 := Lib.hid (HZ2.out.below hb3 HZ2.out.lt)
 have HB3 := Lib.hid (HB2.out.trans (hb3.mono HB2.out.size))
 clear hb3 x0 x1 x2 x3 x4 x5 x6 x7 hl2 HX2 HZ2 HB2
 obtain ⟨x0, x1, x2, x3, x4, x5, x6, x7, hl2⟩ := (HX3.out).c8n
 dsimp only
 go_wp2_with fail
 refine (HIS.out w3 (HWb3.out)).mono ?_
 rintro e w4 ⟨rfl, hb4⟩
 have HWb4 := Lib.hid (HWb3.out.trans (hb4.mono HWb3.out.size))
 have HX4 := Lib.hid (HX3.out.below hb4 HX3.out.lt)
 have HZ4 := Lib.hid (HZ3.out.below hb4 HZ3.out.lt)
 have HB4 := Lib.hid (HB3.out.trans (hb4.mono HB3.out.size))
 clear hb4 x0 x1 x2 x3 x4 x5 x6 x7 hl2 HX3 HZ3 HB3
 obtain ⟨x0, x1, x2, x3, x4, x5, x6, x7, hl2⟩ := (HX4.out).c8n
 dsimp only
 go_wp2_with fail
 refine (HI.out w4 (HWb4.out)).mono ?_
 rintro e w9 ⟨B3, cap3, rfl, hb3, hc3, ht3⟩
 have hZ9 := HZ4.out.below hb3 HZ4.out.lt
 have HB9 := Lib.hid (HB4.out.trans (hb3.mono HB4.out.size))
 have HZ9 := Lib.hid hZ9
 have HT9 := Lib.hid (ht3.weak (Q := fun b => w.heap.size + 2 ≤ b) (fun b hb _ => by have := HWb4.out.size; have := HW2.out; omega))
 obtain ⟨y0, y1, y2, y3, y4, y5, y6, y7, g0, g1, g2, g3, g4, g5, g6, g7⟩ := hZ9.z16
 clear hZ9 ht3 hb3 HI HZ4 HB4 HX4 x0 x1 x2 x3 x4 x5 x6 x7 hl2
 generalize hy : starP x = y at *
 have HY := Lib.hid hy
 clear hy
 unfold ndV
 dsimp only
 go_wp2
 go_light
 have hF := put_next (x := y) (B := B3) (cap := cap3) HZ9.out HB9.out HT9.out rfl
 refine bodyPost_ret (ret_node Tryz.results39 rfl hF.1) rfl ?_
 rw [HV.out]
 exact ⟨B3, cap3, rfl, hF.2.1, hc3, hF.2.2⟩
theorem rp7 (x : Nd) (lo hi : Int) (P : Nat → Prop) (B : Option Addr) (cap : Nat) (w : World) (hlen : x.size ≤ 90000000) (hc : x.kids.len ≤ cap) (ht : TreesAt w P x.kids B) (hok : OkN x) (h1 : x.kind ≠ 1) (h2 : x.kind ≠ 2) (hl : lo = 1) (hh : hi = -1) :
  Calls Tryz.prog 39 #[ndV x B cap, .int .i64 lo, .int .i64 hi] w (NewT (repP x lo hi) w) := by
 obtain ⟨hb2, HB2, HX2, HZ2, HW2⟩ := two_hid w x B cap
 have HV := Lib.hid (show repP x lo hi = plusP x by unfold repP; rw [if_neg (by omega)]; rw [if_neg (by omega)]; rw [if_neg (by omega)]; rw [if_neg (by omega)]; rw [if_neg (by omega)]; rw [if_pos (by omega)])
 have e2 := kind_no h2
 have hn : isK 1 x = false := decide_eq_false h1
 subst hl hh
 clear h1 h2
 have HI := Lib.hid (fun (W : World) (h : Below (W2n w x B cap).heap.size (W2n w x B cap) W) => splus_go x P B cap W hlen ((ht.below hb2).below h) hok)
 have HIS := Lib.hid (fun (W : World) (h : Below (W2n w x B cap).heap.size (W2n w x B cap) W) => isnone_at x P B cap W hc ((ht.below hb2).below h))
 rw [hn] at HIS
 clear ht hb2 hlen
 unfold ndV at *
 unfold ndA at *
 obtain ⟨x0, x1, x2, x3, x4, x5, x6, x7, hl2⟩ := (HX2.out).c8n
 go_enter Tryz.func39, Tryz.ntmps39
 go_upto_region 1 with fail
 rw [← W2n_lit w x B cap]
 generalize hw2 : W2n w x B cap = w2 at *
 have HWb2 := Lib.hid (Below.refl w2.heap.size w2)
 go_wp2_with fail
 refine (HIS.out w2 (HWb2.out)).mono ?_
 rintro e w3 ⟨rfl, hb3⟩
 have HWb3 := Lib.hid (HWb2.out.trans (hb3.mono HWb2.out.size))
 have HX3 := Lib.hid (HX2.out.below hb3 HX2.out.lt)
 have HZ3 := Lib.hid (HZ2.out.below hb3 HZ2.out.lt)
 have HB3 := Lib.hid (HB2.out.trans (hb3.mono HB2.out.size))
 clear hb3 x0 x1 x2 x3 x4 x5 x6 x7 hl2 HX2 HZ2 HB2
 obtain ⟨x0, x1, x2, x3, x4, x5, x6, x7, hl2⟩ := (HX3.out).c8n
 dsimp only
 go_wp2_with fail
 refine (HIS.out w3 (HWb3.out)).mono ?_
 rintro e w4 ⟨rfl, hb4⟩
 have HWb4 := Lib.hid (HWb3.out.trans (hb4.mono HWb3.out.size))
 have HX4 := Lib.hid (HX3.out.below hb4 HX3.out.lt)
 have HZ4 := Lib.hid (HZ3.out.below hb4 HZ3.out.lt)
 have HB4 := Lib.hid (HB3.out.trans (hb4.mono HB3.out.size))
 clear hb4 x0 x1 x2 x3 x4 x5 x6 x7 hl2 HX3 HZ3 HB3
 obtain ⟨x0, x1, x2, x3, x4, x5, x6, x7, hl2⟩ := (HX4.out).c8n
 dsimp only
 go_wp2_with fail
 refine (HI.out w4 (HWb4.out)).mono ?_
 rintro e w9 ⟨B3, cap3, rfl, hb3, hc3, ht3⟩
 have hZ9 := HZ4.out.below hb3 HZ4.out.lt
 have HB9 := Lib.hid (HB4.out.trans (hb3.mono HB4.out.size))
 have HZ9 := Lib.hid hZ9
 have HT9 := Lib.hid (ht3.weak (Q := fun b => w.heap.size + 2 ≤ b) (fun b hb _ => by have := HWb4.out.size; have := HW2.out; omega))
 obtain ⟨y0, y1, y2, y3, y4, y5, y6, y7, g0, g1, g2, g3, g4, g5, g6, g7⟩ := hZ9.z16
 clear hZ9 ht3 hb3 HI HZ4 HB4 HX4 x0 x1 x2 x3 x4 x5 x6 x7 hl2
 generalize hy : plusP x = y at *
 have HY := Lib.hid hy
 clear hy
 unfold ndV
 dsimp only
 go_wp2
 go_light
 have hF := put_next (x := y) (B := B3) (cap := cap3) HZ9.out HB9.out HT9.out rfl
 refine bodyPost_ret (ret_node Tryz.results39 rfl hF.1) rfl ?_
 rw [HV.out]
 exact ⟨B3, cap3, rfl, hF.2.1, hc3, hF.2.2⟩
theorem rp8 (x : Nd) (lo hi : Int) (P : Nat → Prop) (B : Option Addr) (cap : Nat) (w : World) (hlen : x.size ≤ 90000000) (hc : x.kids.len ≤ cap) (ht : TreesAt w P x.kids B) (hok : OkN x) (h1 : x.kind ≠ 1) (h2 : x.kind ≠ 2) (hl : lo = 0) (hh : hi = 1) :
  Calls Tryz.prog 39 #[ndV x B cap, .int .i64 lo, .int .i64 hi] w (NewT (repP x lo hi) w) := by
 obtain ⟨hb2, HB2, HX2, HZ2, HW2⟩ := two_hid w x B cap
 have HV := Lib.hid (show repP x lo hi = optP x by unfold repP; rw [if_neg (by omega)]; rw [if_neg (by omega)]; rw [if_neg (by omega)]; rw [if_neg (by omega)]; rw [if_neg (by omega)]; rw [if_neg (by omega)]; rw [if_pos (by omega)])
 have e2 := kind_no h2
 have hn : isK 1 x = false := decide_eq_false h1
 subst hl hh
 clear h1 h2
 have HI := Lib.hid (fun (W : World) (h : Below (W2n w x B cap).heap.size (W2n w x B cap) W) => sopt_go x P B cap W hlen ((ht.below hb2).below h) hok)
 have HIS := Lib.hid (fun (W : World) (h : Below (W2n w x B cap).heap.size (W2n w x B cap) W) => isnone_at x P B cap W hc ((ht.below hb2).below h))
 rw [hn] at HIS
 clear ht hb2 hlen
 unfold ndV at *
 unfold ndA at *
 obtain ⟨x0, x1, x2, x3, x4, x5, x6, x7, hl2⟩ := (HX2.out).c8n
 go_enter Tryz.func39, Tryz.ntmps39
 go_upto_region 1 with fail
 rw [← W2n_lit w x B cap]
 generalize hw2 : W2n w x B cap = w2 at *
 have HWb2 := Lib.hid (Below.refl w2.heap.size w2)
 go_wp2_with fail
 refine (HIS.out w2 (HWb2.out)).mono ?_
 rintro e w3 ⟨rfl, hb3⟩
 have HWb3 := Lib.hid (HWb2.out.trans (hb3.mono HWb2.out.size))
 have HX3 := Lib.hid (HX2.out.below hb3 HX2.out.lt)
 have HZ3 := Lib.hid (HZ2.out.below hb3 HZ2.out.lt)
 have HB3 := Lib.hid (HB2.out.trans (hb3.mono HB2.out.size))
 clear hb3 x0 x1 x2 x3 x4 x5 x6 x7 hl2 HX2 HZ2 HB2
 obtain ⟨x0, x1, x2, x3, x4, x5, x6, x7, hl2⟩ := (HX3.out).c8n
 dsimp only
 go_wp2_with fail
 refine (HIS.out w3 (HWb3.out)).mono ?_
 rintro e w4 ⟨rfl, hb4⟩
 have HWb4 := Lib.hid (HWb3.out.trans (hb4.mono HWb3.out.size))
 have HX4 := Lib.hid (HX3.out.below hb4 HX3.out.lt)
 have HZ4 := Lib.hid (HZ3.out.below hb4 HZ3.out.lt)
 have HB4 := Lib.hid (HB3.out.trans (hb4.mono HB3.out.size))
 clear hb4 x0 x1 x2 x3 x4 x5 x6 x7 hl2 HX3 HZ3 HB3
 obtain ⟨x0, x1, x2, x3, x4, x5, x6, x7, hl2⟩ := (HX4.out).c8n
 dsimp only
 go_wp2_with fail
 refine (HI.out w4 (HWb4.out)).mono ?_
 rintro e w9 ⟨B3, cap3, rfl, hb3, hc3, ht3⟩
 have hZ9 := HZ4.out.below hb3 HZ4.out.lt
 have HB9 := Lib.hid (HB4.out.trans (hb3.mono HB4.out.size))
 have HZ9 := Lib.hid hZ9
 have HT9 := Lib.hid (ht3.weak (Q := fun b => w.heap.size + 2 ≤ b) (fun b hb _ => by have := HWb4.out.size; have := HW2.out; omega))
 obtain ⟨y0, y1, y2, y3, y4, y5, y6, y7, g0, g1, g2, g3, g4, g5, g6, g7⟩ := hZ9.z16
 clear hZ9 ht3 hb3 HI HZ4 HB4 HX4 x0 x1 x2 x3 x4 x5 x6 x7 hl2
 generalize hy : optP x = y at *
 have HY := Lib.hid hy
 clear hy
 unfold ndV
 dsimp only
 go_wp2
 go_light
 have hF := put_next (x := y) (B := B3) (cap := cap3) HZ9.out HB9.out HT9.out rfl
 refine bodyPost_ret (ret_node Tryz.results39 rfl hF.1) rfl ?_
 rw [HV.out]
 exact ⟨B3, cap3, rfl, hF.2.1, hc3, hF.2.2⟩
theorem rp9 (x : Nd) (lo hi : Int) (P : Nat → Prop) (B : Option Addr) (cap : Nat) (w : World) (hlen : x.size ≤ 90000000) (hc : x.kids.len ≤ cap) (ht : TreesAt w P x.kids B) (hok : OkN x) (h1 : x.kind ≠ 1) (h2 : x.kind ≠ 2) (h0 : hi ≠ 0) (hl : lo ≠ 0) (hl1 : lo ≠ 1) :
  Calls Tryz.prog 39 #[ndV x B cap, .int .i64 lo, .int .i64 hi] w (NewT (repP x lo hi) w) := by
 obtain ⟨hb2, HB2, HX2, HZ2, HW2⟩ := two_hid w x B cap
 have HV := Lib.hid (show repP x lo hi = ⟨9, 0, Trees.of [x], lo, hi⟩ by unfold repP; rw [if_neg (by omega)]; rw [if_neg (by omega)]; rw [if_neg (by omega)]; rw [if_neg (by omega)]; rw [if_neg (by omega)]; rw [if_neg (by omega)]; rw [if_neg (by omega)])
 have e2 := kind_no h2
 have hn : isK 1 x = false := decide_eq_false h1
 have e0 : (hi == 0) = false := kind_no h0
 have el : (lo == 0) = false := kind_no hl
 have el1 : (lo == 1) = false := kind_no hl1
 clear h1 h2 h0 hl hl1
 have HI := Lib.hid (fun (W : World) (h : Below (W2n w x B cap).heap.size (W2n w x B cap) W) => rep_new lo hi x P B cap W hlen ((ht.below hb2).below h))
 have HIS := Lib.hid (fun (W : World) (h : Below (W2n w x B cap).heap.size (W2n w x B cap) W) => isnone_at x P B cap W hc ((ht.below hb2).below h))
 rw [hn] at HIS
 clear ht hb2 hlen
 unfold ndV at *
 unfold ndA at *
 obtain ⟨x0, x1, x2, x3, x4, x5, x6, x7, hl2⟩ := (HX2.out).c8n
 go_enter Tryz.func39, Tryz.ntmps39
 go_upto_region 1 with fail
 rw [← W2n_lit w x B cap]
 generalize hw2 : W2n w x B cap = w2 at *
 have HWb2 := Lib.hid (Below.refl w2.heap.size w2)
 go_wp2_with fail
 refine (HIS.out w2 (HWb2.out)).mono ?_
 rintro e w3 ⟨rfl, hb3⟩
 have HWb3 := Lib.hid (HWb2.out.trans (hb3.mono HWb2.out.size))
 have HX3 := Lib.hid (HX2.out.below hb3 HX2.out.lt)
 have HZ3 := Lib.hid (HZ2.out.below hb3 HZ2.out.lt)
 have HB3 := Lib.hid (HB2.out.trans (hb3.mono HB2.out.size))
 clear hb3 x0 x1 x2 x3 x4 x5 x6 x7 hl2 HX2 HZ2 HB2
 obtain ⟨x0, x1, x2, x3, x4, x5, x6, x7, hl2⟩ := (HX3.out).c8n
 dsimp only
 go_wp2_with fail
 refine (HIS.out w3 (HWb3.out)).mono ?_
 rintro e w4 ⟨rfl, hb4⟩
 have HWb4 := Lib.hid (HWb3.out.trans (hb4.mono HWb3.out.size))
 have HX4 := Lib.hid (HX3.out.below hb4 HX3.out.lt)
 have HZ4 := Lib.hid (HZ3.out.below hb4 HZ3.out.lt)
 have HB4 := Lib.hid (HB3.out.trans (hb4.mono HB3.out.size))
 clear hb4 x0 x1 x2 x3 x4 x5 x6 x7 hl2 HX3 HZ3 HB3
 obtain ⟨x0, x1, x2, x3, x4, x5, x6, x7, hl2⟩ := (HX4.out).c8n
 dsimp only
 go_wp2_with fail
 refine (HI.out w4 (HWb4.out)).mono ?_
 rintro e w9 ⟨B3, cap3, rfl, hb3, hc3, ht3⟩
 have hZ9 := HZ4.out.below hb3 HZ4.out.lt
 have HB9 := Lib.hid (HB4.out.trans (hb3.mono HB4.out.size))
 have HZ9 := Lib.hid hZ9
 have HT9 := Lib.hid (ht3.weak (Q := fun b => w.heap.size + 2 ≤ b) (fun b hb _ => by have := HWb4.out.size; have := HW2.out; omega))
 obtain ⟨y0, y1, y2, y3, y4, y5, y6, y7, g0, g1, g2, g3, g4, g5, g6, g7⟩ := hZ9.z16
 clear hZ9 ht3 hb3 HI HZ4 HB4 HX4 x0 x1 x2 x3 x4 x5 x6 x7 hl2
 generalize hy : (⟨9, 0, Trees.of [x], lo, hi⟩ : Nd) = y at *
 have HY := Lib.hid hy
 clear hy
 unfold ndV
 dsimp only
 go_wp2
 go_light
 have hF := put_next (x := y) (B := B3) (cap := cap3) HZ9.out HB9.out HT9.out rfl
 refine bodyPost_ret (ret_node Tryz.results39 rfl hF.1) rfl ?_
 rw [HV.out]
 exact ⟨B3, cap3, rfl, hF.2.1, hc3, hF.2.2⟩
theorem rp10 (x : Nd) (lo hi : Int) (P : Nat → Prop) (B : Option Addr) (cap : Nat) (w : World) (hlen : x.size ≤ 90000000) (hc : x.kids.len ≤ cap) (ht : TreesAt w P x.kids B) (hok : OkN x) (h1 : x.kind ≠ 1) (h2 : x.kind ≠ 2) (h0 : hi ≠ 0) (hh1 : hi ≠ 1) (hh2 : hi ≠ -1) :
  Calls Tryz.prog 39 #[ndV x B cap, .int .i64 lo, .int .i64 hi] w (NewT (repP x lo hi) w) := by
 obtain ⟨hb2, HB2, HX2, HZ2, HW2⟩ := two_hid w x B cap
 have HV := Lib.hid (show repP x lo hi = ⟨9, 0, Trees.of [x], lo, hi⟩ by unfold repP; rw [if_neg (by omega)]; rw [if_neg (by omega)]; rw [if_neg (by omega)]; rw [if_neg (by omega)]; rw [if_neg (by omega)]; rw [if_neg (by omega)]; rw [if_neg (by omega)])
 have e2 := kind_no h2
 have hn : isK 1 x = false := decide_eq_false h1
 have e0 : (hi == 0) = false := kind_no h0
 have el : (hi == 1) = false := kind_no hh1
 have el1 : (hi == -1) = false := kind_no hh2
 clear h1 h2 h0 hh1 hh2
 have HI := Lib.hid (fun (W : World) (h : Below (W2n w x B cap).heap.size (W2n w x B cap) W) => rep_new lo hi x P B cap W hlen ((ht.below hb2).below h))
 have HIS := Lib.hid (fun (W : World) (h : Below (W2n w x B cap).heap.size (W2n w x B cap) W) => isnone_at x P B cap W hc ((ht.below hb2).below h))
 rw [hn] at HIS
 clear ht hb2 hlen
 unfold ndV at *
 unfold ndA at *
 obtain ⟨x0, x1, x2, x3, x4, x5, x6, x7, hl2⟩ := (HX2.out).c8n
 go_enter Tryz.func39, Tryz.ntmps39
 go_upto_region 1 with fail
 rw [← W2n_lit w x B cap]
 generalize hw2 : W2n w x B cap = w2 at *
 have HWb2 := Lib.hid (Below.refl w2.heap.size w2)
 go_wp2_with fail
 refine (HIS.out w2 (HWb2.out)).mono ?_
 rintro e w3 ⟨rfl, hb3⟩
 have HWb3 := Lib.hid (HWb2.out.trans (hb3.mono HWb2.out.size))
 have HX3 := Lib.hid (HX2.out.below hb3 HX2.out.lt)
 have HZ3 := Lib.hid (HZ2.out.below hb3 HZ2.out.lt)
 have HB3 := Lib.hid (HB2.out.trans (hb3.mono HB2.out.size))
 clear hb3 x0 x1 x2 x3 x4 x5 x6 x7 hl2 HX2 HZ2 HB2
 obtain ⟨x0, x1, x2, x3, x4, x5, x6, x7, hl2⟩ := (HX3.out).c8n
 dsimp only
 go_wp2_with fail
 refine (HIS.out w3 (HWb3.out)).mono ?_
 rintro e w4 ⟨rfl, hb4⟩
 have HWb4 := Lib.hid (HWb3.out.trans (hb4.mono HWb3.out.size))
 have HX4 := Lib.hid (HX3.out.below hb4 HX3.out.lt)
 have HZ4 := Lib.hid (HZ3.out.below hb4 HZ3.out.lt)
 have HB4 := Lib.hid (HB3.out.trans (hb4.mono HB3.out.size))
 clear hb4 x0 x1 x2 x3 x4 x5 x6 x7 hl2 HX3 HZ3 HB3
 obtain ⟨x0, x1, x2, x3, x4, x5, x6, x7, hl2⟩ := (HX4.out).c8n
 dsimp only
 go_wp2_with fail
 refine (HI.out w4 (HWb4.out)).mono ?_
 rintro e w9 ⟨B3, cap3, rfl, hb3, hc3, ht3⟩
 have hZ9 := HZ4.out.below hb3 HZ4.out.lt
 have HB9 := Lib.hid (HB4.out.trans (hb3.mono HB4.out.size))
 have HZ9 := Lib.hid hZ9
 have HT9 := Lib.hid (ht3.weak (Q := fun b => w.heap.size + 2 ≤ b) (fun b hb _ => by have := HWb4.out.size; have := HW2.out; omega))
 obtain ⟨y0, y1, y2, y3, y4, y5, y6, y7, g0, g1, g2, g3, g4, g5, g6, g7⟩ := hZ9.z16
 clear hZ9 ht3 hb3 HI HZ4 HB4 HX4 x0 x1 x2 x3 x4 x5 x6 x7 hl2
 generalize hy : (⟨9, 0, Trees.of [x], lo, hi⟩ : Nd) = y at *
 have HY := Lib.hid hy
 clear hy
 unfold ndV
 dsimp only
 go_wp2
 go_light
 have hF := put_next (x := y) (B := B3) (cap := cap3) HZ9.out HB9.out HT9.out rfl
 refine bodyPost_ret (ret_node Tryz.results39 rfl hF.1) rfl ?_
 rw [HV.out]
 exact ⟨B3, cap3, rfl, hF.2.1, hc3, hF.2.2⟩
theorem srep_any (x : Nd) (lo hi : Int) (P : Nat → Prop) (B : Option Addr) (cap : Nat) (w : World) (hlen : x.size ≤ 90000000) (hc : x.kids.len ≤ cap) (ht : TreesAt w P x.kids B) (hok : OkN x) : Calls Tryz.prog 39 #[ndV x B cap, .int .i64 lo, .int .i64 hi] w (NewT (repP x lo hi) w) := by
 by_cases h0 : hi = 0
 ·exact rp1 x lo hi P B cap w hlen hc ht hok h0
 by_cases h2 : x.kind = 2
 ·exact rp2 x lo hi P B cap w hlen hc ht hok h0 h2
 by_cases h1 : x.kind = 1
 ·by_cases hl : lo = 0
  ·exact rp3 x lo hi P B cap w hlen hc ht hok h0 h1 hl
  ·exact rp4 x lo hi P B cap w hlen hc ht hok h0 h1 hl
 by_cases hh1 : hi = 1
 ·by_cases hl1 : lo = 1
  ·exact rp5 x lo hi P B cap w hlen hc ht hok h1 h2 hl1 hh1
  by_cases hl0 : lo = 0
  ·exact rp8 x lo hi P B cap w hlen hc ht hok h1 h2 hl0 hh1
  ·exact rp9 x lo hi P B cap w hlen hc ht hok h1 h2 h0 hl0 hl1
 by_cases hh2 : hi = -1
 ·by_cases hl1 : lo = 1
  ·exact rp7 x lo hi P B cap w hlen hc ht hok h1 h2 hl1 hh2
  by_cases hl0 : lo = 0
  ·exact rp6 x lo hi P B cap w hlen hc ht hok h1 h2 hl0 hh2
  ·exact rp9 x lo hi P B cap w hlen hc ht hok h1 h2 h0 hl0 hl1
 ·exact rp10 x lo hi P B cap w hlen hc ht hok h1 h2 h0 hh1 hh2
end Go.Proofs.YtofbfafnpdaejaaGreatDoor
