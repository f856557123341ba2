/- Texts of the claim. -/
import Derived.Test.YtofbfafnpdaejaaGreatDoorJSimN
set_option linter.all false
set_option maxRecDepth 100000
set_option maxHeartbeats 8000000
namespace Go.Proofs.YtofbfafnpdaejaaGreatDoor
open Go.RowKit
theorem vr1 (x : Nd) (lo hi : Int) (B : Option Addr) (cap : Nat) (w : World) (hs : x.size ≤ 2000000) (hx : SG x) (hc : x.kids.len ≤ cap) {P : Nat → Prop} (hP : ∀ b, P b → b < w.heap.size) (ht : TreesAt w P x.kids B) (hto : TimesOk lo hi) (h0 : hi = 0) : Calls Tryz.prog 40 #[ndV x B cap, .int .i64 lo, .int .i64 hi] w (OldT P (repQ x lo hi) w) := by
 have HV := Lib.hid (show repQ x lo hi = emptyN by unfold repQ; rw [if_pos (by omega)])
 have eh0 : (hi == 0) = true := kindy (by omega)
 clear hto h0
 obtain ⟨hb2, HB2, HX2, HZ2, HW2⟩ := two_hid w x B cap
 have HB12 := Lib.hid (two_made w x B cap).2.2.2.2.2
 have HT2 := Lib.hid (ht.below hb2)
 have hkl := Trees.len_list x.kids
 have HKL := Lib.hid hkl
 clear ht hb2 hkl HB2
 unfold ndV
 unfold ndA at HX2 HB12
 obtain ⟨x0, x1, x2, x3, x4, x5, x6, x7, hl2⟩ := (HX2.out).c8n
 go_enter Tryz.func40, Tryz.ntmps40
 go_upto_region 1 with fail
 rw [← W2n_lit w x B cap]
 generalize W2n w x B cap = w2 at *
 obtain ⟨y0, y1, y2, y3, y4, y5, y6, y7, g0, g1, g2, g3, g4, g5, g6, g7⟩ := HZ2.out.z16
 go_wp2
 go_light
 have hF := old_put1 (x := emptyN) (B := none) (cap := 0) sg_empty HZ2.out HB12.out hP (P2 := fun b => P b ∨ w.heap.size + 1 ≤ b) (fun b h => h) trivial (by simp only [emptyN, word_zero]; rfl)
 refine bodyPost_ret (ret_node Tryz.results40 rfl hF.1) rfl ?_
 rw [HV.out]
 exact ⟨none, 0, rfl, hF.2.1, Nat.le_refl _, hF.2.2⟩
theorem vr2 (x : Nd) (lo hi : Int) (B : Option Addr) (cap : Nat) (w : World) (hs : x.size ≤ 2000000) (hx : SG x) (hc : x.kids.len ≤ cap) {P : Nat → Prop} (hP : ∀ b, P b → b < w.heap.size) (ht : TreesAt w P x.kids B) (hto : TimesOk lo hi) (h0 : hi ≠ 0 ∧ x.kind = 2) : Calls Tryz.prog 40 #[ndV x B cap, .int .i64 lo, .int .i64 hi] w (OldT P (repQ x lo hi) w) := by
 have HV := Lib.hid (show repQ x lo hi = emptyN by unfold repQ; rw [if_pos (by omega)])
 have eh0 : (hi == 0) = false := kindn (by omega)
 have ek2 : (x.kind == 2) = true := kindy (by omega)
 clear hto h0
 obtain ⟨hb2, HB2, HX2, HZ2, HW2⟩ := two_hid w x B cap
 have HB12 := Lib.hid (two_made w x B cap).2.2.2.2.2
 have HT2 := Lib.hid (ht.below hb2)
 have hkl := Trees.len_list x.kids
 have HKL := Lib.hid hkl
 clear ht hb2 hkl HB2
 unfold ndV
 unfold ndA at HX2 HB12
 obtain ⟨x0, x1, x2, x3, x4, x5, x6, x7, hl2⟩ := (HX2.out).c8n
 go_enter Tryz.func40, Tryz.ntmps40
 go_upto_region 1 with fail
 rw [← W2n_lit w x B cap]
 generalize W2n w x B cap = w2 at *
 obtain ⟨y0, y1, y2, y3, y4, y5, y6, y7, g0, g1, g2, g3, g4, g5, g6, g7⟩ := HZ2.out.z16
 go_wp2
 go_light
 have hF := old_put1 (x := emptyN) (B := none) (cap := 0) sg_empty HZ2.out HB12.out hP (P2 := fun b => P b ∨ w.heap.size + 1 ≤ b) (fun b h => h) trivial (by simp only [emptyN, word_zero]; rfl)
 refine bodyPost_ret (ret_node Tryz.results40 rfl hF.1) rfl ?_
 rw [HV.out]
 exact ⟨none, 0, rfl, hF.2.1, Nat.le_refl _, hF.2.2⟩
theorem vr3 (x : Nd) (lo hi : Int) (B : Option Addr) (cap : Nat) (w : World) (hs : x.size ≤ 2000000) (hx : SG x) (hc : x.kids.len ≤ cap) {P : Nat → Prop} (hP : ∀ b, P b → b < w.heap.size) (ht : TreesAt w P x.kids B) (hto : TimesOk lo hi) (h0 : hi ≠ 0 ∧ x.kind = 1 ∧ lo = 0) : Calls Tryz.prog 40 #[ndV x B cap, .int .i64 lo, .int .i64 hi] w (OldT P (repQ x lo hi) w) := by
 have HV := Lib.hid (show repQ x lo hi = emptyN by unfold repQ; rw [if_pos (by omega)])
 have eh0 : (hi == 0) = false := kindn (by omega)
 have ek2 : (x.kind == 2) = false := kindn (by omega)
 have ek1 : (x.kind == 1) = true := kindy (by omega)
 have el0 : (lo == 0) = true := kindy (by omega)
 clear hto h0
 obtain ⟨hb2, HB2, HX2, HZ2, HW2⟩ := two_hid w x B cap
 have HB12 := Lib.hid (two_made w x B cap).2.2.2.2.2
 have HT2 := Lib.hid (ht.below hb2)
 have hkl := Trees.len_list x.kids
 have HKL := Lib.hid hkl
 clear ht hb2 hkl HB2
 unfold ndV
 unfold ndA at HX2 HB12
 obtain ⟨x0, x1, x2, x3, x4, x5, x6, x7, hl2⟩ := (HX2.out).c8n
 go_enter Tryz.func40, Tryz.ntmps40
 go_upto_region 1 with fail
 rw [← W2n_lit w x B cap]
 generalize W2n w x B cap = w2 at *
 obtain ⟨y0, y1, y2, y3, y4, y5, y6, y7, g0, g1, g2, g3, g4, g5, g6, g7⟩ := HZ2.out.z16
 go_wp2
 go_light
 have hF := old_put1 (x := emptyN) (B := none) (cap := 0) sg_empty HZ2.out HB12.out hP (P2 := fun b => P b ∨ w.heap.size + 1 ≤ b) (fun b h => h) trivial (by simp only [emptyN, word_zero]; rfl)
 refine bodyPost_ret (ret_node Tryz.results40 rfl hF.1) rfl ?_
 rw [HV.out]
 exact ⟨none, 0, rfl, hF.2.1, Nat.le_refl _, hF.2.2⟩
theorem vr4 (x : Nd) (lo hi : Int) (B : Option Addr) (cap : Nat) (w : World) (hs : x.size ≤ 2000000) (hx : SG x) (hc : x.kids.len ≤ cap) {P : Nat → Prop} (hP : ∀ b, P b → b < w.heap.size) (ht : TreesAt w P x.kids B) (hto : TimesOk lo hi) (h0 : hi ≠ 0 ∧ x.kind = 1 ∧ lo ≠ 0) : Calls Tryz.prog 40 #[ndV x B cap, .int .i64 lo, .int .i64 hi] w (OldT P (repQ x lo hi) w) := by
 have HV := Lib.hid (show repQ x lo hi = x by unfold repQ; rw [if_neg (by omega)]; rw [if_pos (by omega)])
 have eh0 : (hi == 0) = false := kindn (by omega)
 have ek2 : (x.kind == 2) = false := kindn (by omega)
 have ek1 : (x.kind == 1) = true := kindy (by omega)
 have el0 : (lo == 0) = false := kindn (by omega)
 clear hto h0
 obtain ⟨hb2, HB2, HX2, HZ2, HW2⟩ := two_hid w x B cap
 have HB12 := Lib.hid (two_made w x B cap).2.2.2.2.2
 have HT2 := Lib.hid (ht.below hb2)
 have hkl := Trees.len_list x.kids
 have HKL := Lib.hid hkl
 clear ht hb2 hkl HB2
 unfold ndV
 unfold ndA at HX2 HB12
 obtain ⟨x0, x1, x2, x3, x4, x5, x6, x7, hl2⟩ := (HX2.out).c8n
 go_enter Tryz.func40, Tryz.ntmps40
 go_upto_region 1 with fail
 rw [← W2n_lit w x B cap]
 generalize W2n w x B cap = w2 at *
 obtain ⟨y0, y1, y2, y3, y4, y5, y6, y7, g0, g1, g2, g3, g4, g5, g6, g7⟩ := HZ2.out.z16
 have HSX := Lib.hid hx
 clear hx
 go_wp2
 go_light
 have hF := old_put1 (x := x) (B := B) (cap := cap) HSX.out HZ2.out HB12.out hP (fun b h => .inl h) HT2.out rfl
 refine bodyPost_ret (ret_node Tryz.results40 rfl hF.1) rfl ?_
 rw [HV.out]
 exact ⟨B, cap, rfl, hF.2.1, hc, hF.2.2⟩
theorem vr5 (x : Nd) (lo hi : Int) (B : Option Addr) (cap : Nat) (w : World) (hs : x.size ≤ 2000000) (hx : SG x) (hc : x.kids.len ≤ cap) {P : Nat → Prop} (hP : ∀ b, P b → b < w.heap.size) (ht : TreesAt w P x.kids B) (hto : TimesOk lo hi) (h0 : hi ≠ 0 ∧ x.kind ≠ 1 ∧ x.kind ≠ 2 ∧ lo = 1 ∧ hi = 1) : Calls Tryz.prog 40 #[ndV x B cap, .int .i64 lo, .int .i64 hi] w (OldT P (repQ x lo hi) w) := by
 have HV := Lib.hid (show repQ x lo hi = x by unfold repQ; rw [if_neg (by omega)]; rw [if_pos (by omega)])
 have eh0 : (hi == 0) = false := kindn (by omega)
 have ek2 : (x.kind == 2) = false := kindn (by omega)
 have ek1 : (x.kind == 1) = false := kindn (by omega)
 have el1 : (lo == 1) = true := kindy (by omega)
 have eh1 : (hi == 1) = true := kindy (by omega)
 clear hto h0
 obtain ⟨hb2, HB2, HX2, HZ2, HW2⟩ := two_hid w x B cap
 have HB12 := Lib.hid (two_made w x B cap).2.2.2.2.2
 have HT2 := Lib.hid (ht.below hb2)
 have hkl := Trees.len_list x.kids
 have HKL := Lib.hid hkl
 clear ht hb2 hkl HB2
 unfold ndV
 unfold ndA at HX2 HB12
 obtain ⟨x0, x1, x2, x3, x4, x5, x6, x7, hl2⟩ := (HX2.out).c8n
 go_enter Tryz.func40, Tryz.ntmps40
 go_upto_region 1 with fail
 rw [← W2n_lit w x B cap]
 generalize W2n w x B cap = w2 at *
 obtain ⟨y0, y1, y2, y3, y4, y5, y6, y7, g0, g1, g2, g3, g4, g5, g6, g7⟩ := HZ2.out.z16
 have HSX := Lib.hid hx
 clear hx
 go_wp2
 go_light
 have hF := old_put1 (x := x) (B := B) (cap := cap) HSX.out HZ2.out HB12.out hP (fun b h => .inl h) HT2.out rfl
 refine bodyPost_ret (ret_node Tryz.results40 rfl hF.1) rfl ?_
 rw [HV.out]
 exact ⟨B, cap, rfl, hF.2.1, hc, hF.2.2⟩
theorem vr6 (x : Nd) (lo hi : Int) (B : Option Addr) (cap : Nat) (w : World) (hs : x.size ≤ 2000000) (hx : SG x) (hc : x.kids.len ≤ cap) {P : Nat → Prop} (hP : ∀ b, P b → b < w.heap.size) (ht : TreesAt w P x.kids B) (hto : TimesOk lo hi) (h0 : hi ≠ 0 ∧ x.kind ≠ 1 ∧ x.kind ≠ 2 ∧ lo = 0 ∧ hi = -1) : Calls Tryz.prog 40 #[ndV x B cap, .int .i64 lo, .int .i64 hi] w (OldT P (repQ x lo hi) w) := by
 have HV := Lib.hid (show repQ x lo hi = starQ x by unfold repQ; rw [if_neg (by omega)]; rw [if_neg (by omega)]; rw [if_pos (by omega)])
 have HSY := Lib.hid (show SG (starQ x) by rw [← HV.out, repQ_eq hx hto]; exact repP_sg hx hto)
 have eh0 : (hi == 0) = false := kindn (by omega)
 have ek2 : (x.kind == 2) = false := kindn (by omega)
 have ek1 : (x.kind == 1) = false := kindn (by omega)
 have el1 : (lo == 1) = false := kindn (by omega)
 have ehm : (hi == -1) = true := kindy (by omega)
 have el0 : (lo == 0) = true := kindy (by omega)
 clear hto h0
 obtain ⟨hb2, HB2, HX2, HZ2, HW2⟩ := two_hid w x B cap
 have HB12 := Lib.hid (two_made w x B cap).2.2.2.2.2
 have HT2 := Lib.hid (ht.below hb2)
 have hkl := Trees.len_list x.kids
 have HKL := Lib.hid hkl
 clear ht hb2 hkl HB2
 unfold ndV
 unfold ndA at HX2 HB12
 obtain ⟨x0, x1, x2, x3, x4, x5, x6, x7, hl2⟩ := (HX2.out).c8n
 go_enter Tryz.func40, Tryz.ntmps40
 go_upto_region 1 with fail
 rw [← W2n_lit w x B cap]
 generalize W2n w x B cap = w2 at *
 have HI := Lib.hid (rstar12_go x B cap w2 hs hx hc (fun b h => Nat.lt_of_lt_of_le (hP b h) (by have := HZ2.out.lt; omega)) HT2.out)
 unfold ndV at HI
 go_wp2_with fail
 refine HI.out.mono ?_
 rintro e w9 ⟨B9, c9, rfl, hb9, hc9, ht9⟩
 have hZ9 := HZ2.out.below hb9 HZ2.out.lt
 have HB9 := Lib.hid (HB12.out.trans (hb9.mono (Nat.le_of_lt (by have := HZ2.out.lt; omega))))
 have HZ9 := Lib.hid hZ9
 have q1 := HZ2.out.lt
 have q2 := HZ2.out.lt
 have HT9 := Lib.hid (ht9.weak (Q := fun b => P b ∨ w.heap.size + 1 ≤ b) (fun b h _ => by
  rcases h with h | h
  ·first | exact .inl h | exact h.imp id (fun h => by omega)
  ·exact .inr (by omega)))
 clear q1 q2
 obtain ⟨y0, y1, y2, y3, y4, y5, y6, y7, g0, g1, g2, g3, g4, g5, g6, g7⟩ := hZ9.z16
 clear hZ9 ht9 hb9 HI HZ2 HB12 HX2 x0 x1 x2 x3 x4 x5 x6 x7 hl2 HT2
 generalize hy : starQ x = y at *
 have HY := Lib.hid hy
 clear hy
 unfold ndV
 dsimp only
 go_wp2
 go_light
 have hF := old_put1 (x := y) (B := B9) (cap := c9) HSY.out HZ9.out HB9.out hP (fun b h => h) HT9.out rfl
 refine bodyPost_ret (ret_node Tryz.results40 rfl hF.1) rfl ?_
 rw [HV.out]
 exact ⟨B9, c9, rfl, hF.2.1, hc9, hF.2.2⟩
theorem vr7 (x : Nd) (lo hi : Int) (B : Option Addr) (cap : Nat) (w : World) (hs : x.size ≤ 2000000) (hx : SG x) (hc : x.kids.len ≤ cap) {P : Nat → Prop} (hP : ∀ b, P b → b < w.heap.size) (ht : TreesAt w P x.kids B) (hto : TimesOk lo hi) (h0 : hi ≠ 0 ∧ x.kind ≠ 1 ∧ x.kind ≠ 2 ∧ lo = 1 ∧ hi = -1) : Calls Tryz.prog 40 #[ndV x B cap, .int .i64 lo, .int .i64 hi] w (OldT P (repQ x lo hi) w) := by
 have HV := Lib.hid (show repQ x lo hi = plusQ x by unfold repQ; rw [if_neg (by omega)]; rw [if_neg (by omega)]; rw [if_neg (by omega)]; rw [if_pos (by omega)])
 have HSY := Lib.hid (show SG (plusQ x) by rw [← HV.out, repQ_eq hx hto]; exact repP_sg hx hto)
 have eh0 : (hi == 0) = false := kindn (by omega)
 have ek2 : (x.kind == 2) = false := kindn (by omega)
 have ek1 : (x.kind == 1) = false := kindn (by omega)
 have el1 : (lo == 1) = true := kindy (by omega)
 have eh1 : (hi == 1) = false := kindn (by omega)
 have ehm : (hi == -1) = true := kindy (by omega)
 have el0 : (lo == 0) = false := kindn (by omega)
 clear hto h0
 obtain ⟨hb2, HB2, HX2, HZ2, HW2⟩ := two_hid w x B cap
 have HB12 := Lib.hid (two_made w x B cap).2.2.2.2.2
 have HT2 := Lib.hid (ht.below hb2)
 have hkl := Trees.len_list x.kids
 have HKL := Lib.hid hkl
 clear ht hb2 hkl HB2
 unfold ndV
 unfold ndA at HX2 HB12
 obtain ⟨x0, x1, x2, x3, x4, x5, x6, x7, hl2⟩ := (HX2.out).c8n
 go_enter Tryz.func40, Tryz.ntmps40
 go_upto_region 1 with fail
 rw [← W2n_lit w x B cap]
 generalize W2n w x B cap = w2 at *
 have HI := Lib.hid (rplus12_go x B cap w2 hs hx hc (fun b h => Nat.lt_of_lt_of_le (hP b h) (by have := HZ2.out.lt; omega)) HT2.out)
 unfold ndV at HI
 go_wp2_with fail
 refine HI.out.mono ?_
 rintro e w9 ⟨B9, c9, rfl, hb9, hc9, ht9⟩
 have hZ9 := HZ2.out.below hb9 HZ2.out.lt
 have HB9 := Lib.hid (HB12.out.trans (hb9.mono (Nat.le_of_lt (by have := HZ2.out.lt; omega))))
 have HZ9 := Lib.hid hZ9
 have q1 := HZ2.out.lt
 have q2 := HZ2.out.lt
 have HT9 := Lib.hid (ht9.weak (Q := fun b => P b ∨ w.heap.size + 1 ≤ b) (fun b h _ => by
  rcases h with h | h
  ·first | exact .inl h | exact h.imp id (fun h => by omega)
  ·exact .inr (by omega)))
 clear q1 q2
 obtain ⟨y0, y1, y2, y3, y4, y5, y6, y7, g0, g1, g2, g3, g4, g5, g6, g7⟩ := hZ9.z16
 clear hZ9 ht9 hb9 HI HZ2 HB12 HX2 x0 x1 x2 x3 x4 x5 x6 x7 hl2 HT2
 generalize hy : plusQ x = y at *
 have HY := Lib.hid hy
 clear hy
 unfold ndV
 dsimp only
 go_wp2
 go_light
 have hF := old_put1 (x := y) (B := B9) (cap := c9) HSY.out HZ9.out HB9.out hP (fun b h => h) HT9.out rfl
 refine bodyPost_ret (ret_node Tryz.results40 rfl hF.1) rfl ?_
 rw [HV.out]
 exact ⟨B9, c9, rfl, hF.2.1, hc9, hF.2.2⟩
theorem vr8 (x : Nd) (lo hi : Int) (B : Option Addr) (cap : Nat) (w : World) (hs : x.size ≤ 2000000) (hx : SG x) (hc : x.kids.len ≤ cap) {P : Nat → Prop} (hP : ∀ b, P b → b < w.heap.size) (ht : TreesAt w P x.kids B) (hto : TimesOk lo hi) (h0 : hi ≠ 0 ∧ x.kind ≠ 1 ∧ x.kind ≠ 2 ∧ lo = 0 ∧ hi = 1) : Calls Tryz.prog 40 #[ndV x B cap, .int .i64 lo, .int .i64 hi] w (OldT P (repQ x lo hi) w) := by
 have HV := Lib.hid (show repQ x lo hi = optQ x by unfold repQ; rw [if_neg (by omega)]; rw [if_neg (by omega)]; rw [if_neg (by omega)]; rw [if_neg (by omega)]; rw [if_pos (by omega)])
 have HSY := Lib.hid (show SG (optQ x) by rw [← HV.out, repQ_eq hx hto]; exact repP_sg hx hto)
 have eh0 : (hi == 0) = false := kindn (by omega)
 have ek2 : (x.kind == 2) = false := kindn (by omega)
 have ek1 : (x.kind == 1) = false := kindn (by omega)
 have el1 : (lo == 1) = false := kindn (by omega)
 have ehm : (hi == -1) = false := kindn (by omega)
 have eh1 : (hi == 1) = true := kindy (by omega)
 clear hto h0
 obtain ⟨hb2, HB2, HX2, HZ2, HW2⟩ := two_hid w x B cap
 have HB12 := Lib.hid (two_made w x B cap).2.2.2.2.2
 have HT2 := Lib.hid (ht.below hb2)
 have hkl := Trees.len_list x.kids
 have HKL := Lib.hid hkl
 clear ht hb2 hkl HB2
 unfold ndV
 unfold ndA at HX2 HB12
 obtain ⟨x0, x1, x2, x3, x4, x5, x6, x7, hl2⟩ := (HX2.out).c8n
 go_enter Tryz.func40, Tryz.ntmps40
 go_upto_region 1 with fail
 rw [← W2n_lit w x B cap]
 generalize W2n w x B cap = w2 at *
 have HI := Lib.hid (ropt12_go x B cap w2 hs hx hc (fun b h => Nat.lt_of_lt_of_le (hP b h) (by have := HZ2.out.lt; omega)) HT2.out)
 unfold ndV at HI
 go_wp2_with fail
 refine HI.out.mono ?_
 rintro e w9 ⟨B9, c9, rfl, hb9, hc9, ht9⟩
 have hZ9 := HZ2.out.below hb9 HZ2.out.lt
 have HB9 := Lib.hid (HB12.out.trans (hb9.mono (Nat.le_of_lt (by have := HZ2.out.lt; omega))))
 have HZ9 := Lib.hid hZ9
 have q1 := HZ2.out.lt
 have q2 := HZ2.out.lt
 have HT9 := Lib.hid (ht9.weak (Q := fun b => P b ∨ w.heap.size + 1 ≤ b) (fun b h _ => by
  rcases h with h | h
  ·first | exact .inl h | exact h.imp id (fun h => by omega)
  ·exact .inr (by omega)))
 clear q1 q2
 obtain ⟨y0, y1, y2, y3, y4, y5, y6, y7, g0, g1, g2, g3, g4, g5, g6, g7⟩ := hZ9.z16
 clear hZ9 ht9 hb9 HI HZ2 HB12 HX2 x0 x1 x2 x3 x4 x5 x6 x7 hl2 HT2
 generalize hy : optQ x = y at *
 have HY := Lib.hid hy
 clear hy
 unfold ndV
 dsimp only
 go_wp2
 go_light
 have hF := old_put1 (x := y) (B := B9) (cap := c9) HSY.out HZ9.out HB9.out hP (fun b h => h) HT9.out rfl
 refine bodyPost_ret (ret_node Tryz.results40 rfl hF.1) rfl ?_
 rw [HV.out]
 exact ⟨B9, c9, rfl, hF.2.1, hc9, hF.2.2⟩
theorem vr9 (x : Nd) (lo hi : Int) (B : Option Addr) (cap : Nat) (w : World) (hs : x.size ≤ 2000000) (hx : SG x) (hc : x.kids.len ≤ cap) {P : Nat → Prop} (hP : ∀ b, P b → b < w.heap.size) (ht : TreesAt w P x.kids B) (hto : TimesOk lo hi) (h0 : hi ≠ 0 ∧ x.kind ≠ 1 ∧ x.kind ≠ 2 ∧ hi = -1 ∧ lo ≠ 0 ∧ lo ≠ 1) : Calls Tryz.prog 40 #[ndV x B cap, .int .i64 lo, .int .i64 hi] w (OldT P (repQ x lo hi) w) := by
 have HV := Lib.hid (show repQ x lo hi = ⟨9, 0, Trees.of [x], lo, hi⟩ by unfold repQ; rw [if_neg (by omega)]; rw [if_neg (by omega)]; rw [if_neg (by omega)]; rw [if_neg (by omega)]; rw [if_neg (by omega)])
 have HSY := Lib.hid (show SG ⟨9, 0, Trees.of [x], lo, hi⟩ by rw [← HV.out, repQ_eq hx hto]; exact repP_sg hx hto)
 have eh0 : (hi == 0) = false := kindn (by omega)
 have ek2 : (x.kind == 2) = false := kindn (by omega)
 have ek1 : (x.kind == 1) = false := kindn (by omega)
 have el1 : (lo == 1) = false := kindn (by omega)
 have el0 : (lo == 0) = false := kindn (by omega)
 have eh1 : (hi == 1) = false := kindn (by omega)
 have ehm : (hi == -1) = true := kindy (by omega)
 clear hto h0
 obtain ⟨hb2, HB2, HX2, HZ2, HW2⟩ := two_hid w x B cap
 have HB12 := Lib.hid (two_made w x B cap).2.2.2.2.2
 have HT2 := Lib.hid (ht.below hb2)
 have hkl := Trees.len_list x.kids
 have HKL := Lib.hid hkl
 clear ht hb2 hkl HB2
 unfold ndV
 unfold ndA at HX2 HB12
 obtain ⟨x0, x1, x2, x3, x4, x5, x6, x7, hl2⟩ := (HX2.out).c8n
 go_enter Tryz.func40, Tryz.ntmps40
 go_upto_region 1 with fail
 rw [← W2n_lit w x B cap]
 generalize W2n w x B cap = w2 at *
 have HI := Lib.hid (nrep_go _ x B cap lo hi w2 hc HT2.out)
 unfold ndV at HI
 go_wp2_with fail
 refine HI.out.mono ?_
 rintro e w9 ⟨B9, c9, rfl, hb9, hc9, ht9⟩
 have hZ9 := HZ2.out.below hb9 HZ2.out.lt
 have HB9 := Lib.hid (HB12.out.trans (hb9.mono (Nat.le_of_lt (by have := HZ2.out.lt; omega))))
 have HZ9 := Lib.hid hZ9
 have q1 := HZ2.out.lt
 have q2 := HZ2.out.lt
 have HT9 := Lib.hid (ht9.weak (Q := fun b => P b ∨ w.heap.size + 1 ≤ b) (fun b h _ => by
  rcases h with h | h
  ·first | exact .inl h | exact h.imp id (fun h => by omega)
  ·exact .inr (by omega)))
 clear q1 q2
 obtain ⟨y0, y1, y2, y3, y4, y5, y6, y7, g0, g1, g2, g3, g4, g5, g6, g7⟩ := hZ9.z16
 clear hZ9 ht9 hb9 HI HZ2 HB12 HX2 x0 x1 x2 x3 x4 x5 x6 x7 hl2 HT2
 generalize hy : (⟨9, 0, Trees.of [x], lo, hi⟩ : Nd) = y at *
 have HY := Lib.hid hy
 clear hy
 unfold ndV
 dsimp only
 go_wp2
 go_light
 have hF := old_put1 (x := y) (B := B9) (cap := c9) HSY.out HZ9.out HB9.out hP (fun b h => h) HT9.out rfl
 refine bodyPost_ret (ret_node Tryz.results40 rfl hF.1) rfl ?_
 rw [HV.out]
 exact ⟨B9, c9, rfl, hF.2.1, hc9, hF.2.2⟩
theorem vr10 (x : Nd) (lo hi : Int) (B : Option Addr) (cap : Nat) (w : World) (hs : x.size ≤ 2000000) (hx : SG x) (hc : x.kids.len ≤ cap) {P : Nat → Prop} (hP : ∀ b, P b → b < w.heap.size) (ht : TreesAt w P x.kids B) (hto : TimesOk lo hi) (h0 : hi ≠ 0 ∧ x.kind ≠ 1 ∧ x.kind ≠ 2 ∧ hi ≠ 1 ∧ hi ≠ -1 ∧ lo = 1) : Calls Tryz.prog 40 #[ndV x B cap, .int .i64 lo, .int .i64 hi] w (OldT P (repQ x lo hi) w) := by
 have HV := Lib.hid (show repQ x lo hi = ⟨9, 0, Trees.of [x], lo, hi⟩ by unfold repQ; rw [if_neg (by omega)]; rw [if_neg (by omega)]; rw [if_neg (by omega)]; rw [if_neg (by omega)]; rw [if_neg (by omega)])
 have HSY := Lib.hid (show SG ⟨9, 0, Trees.of [x], lo, hi⟩ by rw [← HV.out, repQ_eq hx hto]; exact repP_sg hx hto)
 have eh0 : (hi == 0) = false := kindn (by omega)
 have ek2 : (x.kind == 2) = false := kindn (by omega)
 have ek1 : (x.kind == 1) = false := kindn (by omega)
 have eh1 : (hi == 1) = false := kindn (by omega)
 have ehm : (hi == -1) = false := kindn (by omega)
 have el1 : (lo == 1) = true := kindy (by omega)
 clear hto h0
 obtain ⟨hb2, HB2, HX2, HZ2, HW2⟩ := two_hid w x B cap
 have HB12 := Lib.hid (two_made w x B cap).2.2.2.2.2
 have HT2 := Lib.hid (ht.below hb2)
 have hkl := Trees.len_list x.kids
 have HKL := Lib.hid hkl
 clear ht hb2 hkl HB2
 unfold ndV
 unfold ndA at HX2 HB12
 obtain ⟨x0, x1, x2, x3, x4, x5, x6, x7, hl2⟩ := (HX2.out).c8n
 go_enter Tryz.func40, Tryz.ntmps40
 go_upto_region 1 with fail
 rw [← W2n_lit w x B cap]
 generalize W2n w x B cap = w2 at *
 have HI := Lib.hid (nrep_go _ x B cap lo hi w2 hc HT2.out)
 unfold ndV at HI
 go_wp2_with fail
 refine HI.out.mono ?_
 rintro e w9 ⟨B9, c9, rfl, hb9, hc9, ht9⟩
 have hZ9 := HZ2.out.below hb9 HZ2.out.lt
 have HB9 := Lib.hid (HB12.out.trans (hb9.mono (Nat.le_of_lt (by have := HZ2.out.lt; omega))))
 have HZ9 := Lib.hid hZ9
 have q1 := HZ2.out.lt
 have q2 := HZ2.out.lt
 have HT9 := Lib.hid (ht9.weak (Q := fun b => P b ∨ w.heap.size + 1 ≤ b) (fun b h _ => by
  rcases h with h | h
  ·first | exact .inl h | exact h.imp id (fun h => by omega)
  ·exact .inr (by omega)))
 clear q1 q2
 obtain ⟨y0, y1, y2, y3, y4, y5, y6, y7, g0, g1, g2, g3, g4, g5, g6, g7⟩ := hZ9.z16
 clear hZ9 ht9 hb9 HI HZ2 HB12 HX2 x0 x1 x2 x3 x4 x5 x6 x7 hl2 HT2
 generalize hy : (⟨9, 0, Trees.of [x], lo, hi⟩ : Nd) = y at *
 have HY := Lib.hid hy
 clear hy
 unfold ndV
 dsimp only
 go_wp2
 go_light
 have hF := old_put1 (x := y) (B := B9) (cap := c9) HSY.out HZ9.out HB9.out hP (fun b h => h) HT9.out rfl
 refine bodyPost_ret (ret_node Tryz.results40 rfl hF.1) rfl ?_
 rw [HV.out]
 exact ⟨B9, c9, rfl, hF.2.1, hc9, hF.2.2⟩
theorem vr11 (x : Nd) (lo hi : Int) (B : Option Addr) (cap : Nat) (w : World) (hs : x.size ≤ 2000000) (hx : SG x) (hc : x.kids.len ≤ cap) {P : Nat → Prop} (hP : ∀ b, P b → b < w.heap.size) (ht : TreesAt w P x.kids B) (hto : TimesOk lo hi) (h0 : hi ≠ 0 ∧ x.kind ≠ 1 ∧ x.kind ≠ 2 ∧ hi ≠ 1 ∧ hi ≠ -1 ∧ lo ≠ 1) : Calls Tryz.prog 40 #[ndV x B cap, .int .i64 lo, .int .i64 hi] w (OldT P (repQ x lo hi) w) := by
 have HV := Lib.hid (show repQ x lo hi = ⟨9, 0, Trees.of [x], lo, hi⟩ by unfold repQ; rw [if_neg (by omega)]; rw [if_neg (by omega)]; rw [if_neg (by omega)]; rw [if_neg (by omega)]; rw [if_neg (by omega)])
 have HSY := Lib.hid (show SG ⟨9, 0, Trees.of [x], lo, hi⟩ by rw [← HV.out, repQ_eq hx hto]; exact repP_sg hx hto)
 have eh0 : (hi == 0) = false := kindn (by omega)
 have ek2 : (x.kind == 2) = false := kindn (by omega)
 have ek1 : (x.kind == 1) = false := kindn (by omega)
 have eh1 : (hi == 1) = false := kindn (by omega)
 have ehm : (hi == -1) = false := kindn (by omega)
 have el1 : (lo == 1) = false := kindn (by omega)
 clear hto h0
 obtain ⟨hb2, HB2, HX2, HZ2, HW2⟩ := two_hid w x B cap
 have HB12 := Lib.hid (two_made w x B cap).2.2.2.2.2
 have HT2 := Lib.hid (ht.below hb2)
 have hkl := Trees.len_list x.kids
 have HKL := Lib.hid hkl
 clear ht hb2 hkl HB2
 unfold ndV
 unfold ndA at HX2 HB12
 obtain ⟨x0, x1, x2, x3, x4, x5, x6, x7, hl2⟩ := (HX2.out).c8n
 go_enter Tryz.func40, Tryz.ntmps40
 go_upto_region 1 with fail
 rw [← W2n_lit w x B cap]
 generalize W2n w x B cap = w2 at *
 have HI := Lib.hid (nrep_go _ x B cap lo hi w2 hc HT2.out)
 unfold ndV at HI
 go_wp2_with fail
 refine HI.out.mono ?_
 rintro e w9 ⟨B9, c9, rfl, hb9, hc9, ht9⟩
 have hZ9 := HZ2.out.below hb9 HZ2.out.lt
 have HB9 := Lib.hid (HB12.out.trans (hb9.mono (Nat.le_of_lt (by have := HZ2.out.lt; omega))))
 have HZ9 := Lib.hid hZ9
 have q1 := HZ2.out.lt
 have q2 := HZ2.out.lt
 have HT9 := Lib.hid (ht9.weak (Q := fun b => P b ∨ w.heap.size + 1 ≤ b) (fun b h _ => by
  rcases h with h | h
  ·first | exact .inl h | exact h.imp id (fun h => by omega)
  ·exact .inr (by omega)))
 clear q1 q2
 obtain ⟨y0, y1, y2, y3, y4, y5, y6, y7, g0, g1, g2, g3, g4, g5, g6, g7⟩ := hZ9.z16
 clear hZ9 ht9 hb9 HI HZ2 HB12 HX2 x0 x1 x2 x3 x4 x5 x6 x7 hl2 HT2
 generalize hy : (⟨9, 0, Trees.of [x], lo, hi⟩ : Nd) = y at *
 have HY := Lib.hid hy
 clear hy
 unfold ndV
 dsimp only
 go_wp2
 go_light
 have hF := old_put1 (x := y) (B := B9) (cap := c9) HSY.out HZ9.out HB9.out hP (fun b h => h) HT9.out rfl
 refine bodyPost_ret (ret_node Tryz.results40 rfl hF.1) rfl ?_
 rw [HV.out]
 exact ⟨B9, c9, rfl, hF.2.1, hc9, hF.2.2⟩
theorem rrep12_go (x : Nd) (lo hi : Int) (B : Option Addr) (cap : Nat) (w : World) (hs : x.size ≤ 2000000) (hx : SG x) (hc : x.kids.len ≤ cap) {P : Nat → Prop} (hP : ∀ b, P b → b < w.heap.size) (ht : TreesAt w P x.kids B) (hto : TimesOk lo hi) : Calls Tryz.prog 40 #[ndV x B cap, .int .i64 lo, .int .i64 hi] w (OldT P (repQ x lo hi) w) := by
 have hto2 := hto
 obtain ⟨t1, t2, t3, t4⟩ := hto2
 by_cases h0 : hi = 0
 ·exact vr1 x lo hi B cap w hs hx hc hP ht hto h0
 by_cases h2 : x.kind = 2
 ·exact vr2 x lo hi B cap w hs hx hc hP ht hto ⟨h0, h2⟩
 by_cases h1 : x.kind = 1
 ·by_cases hl : lo = 0
  ·exact vr3 x lo hi B cap w hs hx hc hP ht hto ⟨h0, h1, hl⟩
  ·exact vr4 x lo hi B cap w hs hx hc hP ht hto ⟨h0, h1, hl⟩
 by_cases hh1 : hi = 1
 ·by_cases hl : lo = 1
  ·exact vr5 x lo hi B cap w hs hx hc hP ht hto ⟨h0, h1, h2, hl, hh1⟩
  ·exact vr8 x lo hi B cap w hs hx hc hP ht hto ⟨h0, h1, h2, by omega, hh1⟩
 by_cases hm : hi = -1
 ·by_cases hl : lo = 0
  ·exact vr6 x lo hi B cap w hs hx hc hP ht hto ⟨h0, h1, h2, hl, hm⟩
  by_cases hl1 : lo = 1
  ·exact vr7 x lo hi B cap w hs hx hc hP ht hto ⟨h0, h1, h2, hl1, hm⟩
  ·exact vr9 x lo hi B cap w hs hx hc hP ht hto ⟨h0, h1, h2, hm, hl, hl1⟩
 by_cases hl1 : lo = 1
 ·exact vr10 x lo hi B cap w hs hx hc hP ht hto ⟨h0, h1, h2, hh1, hm, hl1⟩
 ·exact vr11 x lo hi B cap w hs hx hc hP ht hto ⟨h0, h1, h2, hh1, hm, hl1⟩
end Go.Proofs.YtofbfafnpdaejaaGreatDoor
