/- Texts of the claim. -/
import Derived.Test.YtofbfafnpdaejaaGreatDoorJSimI
set_option linter.all false
set_option maxRecDepth 100000
set_option maxHeartbeats 8000000
namespace Go.Proofs.YtofbfafnpdaejaaGreatDoor
open Go.RowKit
theorem kindn {k c : Int} (h : k ≠ c) : (k == c) = false := by rw [beq_eq_false_iff_ne]; exact h
theorem kindy {k c : Int} (h : k = c) : (k == c) = true := by rw [beq_iff_eq]; exact h
theorem old_put1 {w w2 : World} {ob : Obj} {x : Nd} {B : Option Addr} {cap : Nat} (hx : SG x) (hZ : Blk w2 (w.heap.size + 1) 28 #[.int .i64 0, .int .u64 0, .int .u64 0, .int .u64 0, .int .u64 0, .slice none 0 0, .int .i64 0, .int .i64 0]) (hB : Below (w.heap.size + 1) (w.alloc ob) w2) {P P2 : Nat → Prop} (hP : ∀ b, P b → b < w.heap.size) (hP2 : ∀ b, P2 b → P b ∨ w.heap.size + 1 ≤ b) (ht : TreesAt w2 P2 x.kids B) {w' : World}
  (hw' : w' = ((((((((w2.setCell ⟨w.heap.size + 1, 0, none⟩ (.int .i64 x.kind)).setCell ⟨w.heap.size + 1, 1, none⟩ (.int .u64 (word x.set.testBit 0))).setCell ⟨w.heap.size + 1, 2, none⟩ (.int .u64 (word x.set.testBit 1))).setCell ⟨w.heap.size + 1, 3, none⟩ (.int .u64 (word x.set.testBit 2))).setCell ⟨w.heap.size + 1, 4, none⟩ (.int .u64 (word x.set.testBit 3))).setCell ⟨w.heap.size + 1, 5, none⟩ (.slice B x.kids.len cap)).setCell ⟨w.heap.size + 1, 6, none⟩ (.int .i64 x.lo)).setCell ⟨w.heap.size + 1, 7, none⟩ (.int .i64 x.hi))) :
  Blk w' (w.heap.size + 1) 28 (ndA x B cap) ∧ Below w.heap.size w w' ∧ TreesAt w' (fun b => P b ∨ w.heap.size ≤ b) x.kids B := by
 have hsz : (w.alloc ob).heap.size = w.heap.size + 1 := by simp
 have h := old_put (w := w.alloc ob) (w2 := w2) (x := x) (B := B) (cap := cap) (P := P) hx (by rw [hsz]; exact hZ) (by rw [hsz]; exact hB) (fun b h => by rw [hsz]; have := hP b h; omega) (fun b h => by rw [hsz]; exact hP2 b h) ht (w' := w') (by rw [hsz]; exact hw')
 rw [hsz] at h
 exact ⟨h.1, ((Below.refl w.heap.size w).alloc (Nat.le_refl _) ob).trans (h.2.1.mono (by omega)), h.2.2.weak (fun b h _ => h.imp id (fun h => by omega))⟩
theorem is_a (x : Nd) (a b : Int) (B : Option Addr) (cap : Nat) (w : World) (h : (x.kind == a) = true) : Calls Tryz.prog 92 #[ndV x B cap, .int .i64 a, .int .i64 b] w fun e w' => e = .returned (.bool true) ∧ Below w.heap.size w w' := by
 have hal : Below w.heap.size w (w.alloc (.cells (ndA x B cap) 28)) := (Below.refl _ _).alloc (Nat.le_refl _) _
 have HB := Lib.hid hal
 have p0 : (w.alloc (.cells (ndA x B cap) 28)).cell? ⟨w.heap.size, 0, none⟩ = some (.int .i64 x.kind) := (Blk.new w 28 (ndA x B cap)).cell 0
 have pl : w.heap.size < (w.alloc (.cells (ndA x B cap) 28)).heap.size := by simp
 clear hal
 unfold ndV
 unfold ndA at *
 go_enter Tryz.func92, Tryz.ntmps92
 go_upto_region 1 with fail
 generalize (w.alloc (.cells #[.int .i64 x.kind, .int .u64 (word x.set.testBit 0), .int .u64 (word x.set.testBit 1), .int .u64 (word x.set.testBit 2), .int .u64 (word x.set.testBit 3), .slice B x.kids.len cap, .int .i64 x.lo, .int .i64 x.hi] 28)) = w1 at *
 go_wp2
 go_light
 go_ret
 exact ⟨rfl, HB.out⟩
theorem is_b (x : Nd) (a b : Int) (B : Option Addr) (cap : Nat) (w : World) (h : (x.kind == a) = false) (h2 : (x.kind == b) = true) : Calls Tryz.prog 92 #[ndV x B cap, .int .i64 a, .int .i64 b] w fun e w' => e = .returned (.bool true) ∧ Below w.heap.size w w' := by
 have hal : Below w.heap.size w (w.alloc (.cells (ndA x B cap) 28)) := (Below.refl _ _).alloc (Nat.le_refl _) _
 have HB := Lib.hid hal
 have p0 : (w.alloc (.cells (ndA x B cap) 28)).cell? ⟨w.heap.size, 0, none⟩ = some (.int .i64 x.kind) := (Blk.new w 28 (ndA x B cap)).cell 0
 have pl : w.heap.size < (w.alloc (.cells (ndA x B cap) 28)).heap.size := by simp
 clear hal
 unfold ndV
 unfold ndA at *
 go_enter Tryz.func92, Tryz.ntmps92
 go_upto_region 1 with fail
 generalize (w.alloc (.cells #[.int .i64 x.kind, .int .u64 (word x.set.testBit 0), .int .u64 (word x.set.testBit 1), .int .u64 (word x.set.testBit 2), .int .u64 (word x.set.testBit 3), .slice B x.kids.len cap, .int .i64 x.lo, .int .i64 x.hi] 28)) = w1 at *
 go_wp2
 go_light
 go_ret
 exact ⟨rfl, HB.out⟩
theorem is_n (x : Nd) (a b : Int) (B : Option Addr) (cap : Nat) (w : World) (h : (x.kind == a) = false) (h2 : (x.kind == b) = false) : Calls Tryz.prog 92 #[ndV x B cap, .int .i64 a, .int .i64 b] w fun e w' => e = .returned (.bool false) ∧ Below w.heap.size w w' := by
 have hal : Below w.heap.size w (w.alloc (.cells (ndA x B cap) 28)) := (Below.refl _ _).alloc (Nat.le_refl _) _
 have HB := Lib.hid hal
 have p0 : (w.alloc (.cells (ndA x B cap) 28)).cell? ⟨w.heap.size, 0, none⟩ = some (.int .i64 x.kind) := (Blk.new w 28 (ndA x B cap)).cell 0
 have pl : w.heap.size < (w.alloc (.cells (ndA x B cap) 28)).heap.size := by simp
 clear hal
 unfold ndV
 unfold ndA at *
 go_enter Tryz.func92, Tryz.ntmps92
 go_upto_region 1 with fail
 generalize (w.alloc (.cells #[.int .i64 x.kind, .int .u64 (word x.set.testBit 0), .int .u64 (word x.set.testBit 1), .int .u64 (word x.set.testBit 2), .int .u64 (word x.set.testBit 3), .slice B x.kids.len cap, .int .i64 x.lo, .int .i64 x.hi] 28)) = w1 at *
 go_wp2
 go_light
 go_ret
 exact ⟨rfl, HB.out⟩
theorem ris_go (x : Nd) (a b : Int) (B : Option Addr) (cap : Nat) (w : World) (v : Bool) (hv : (x.kind == a || x.kind == b) = v) : Calls Tryz.prog 92 #[ndV x B cap, .int .i64 a, .int .i64 b] w fun e w' => e = .returned (.bool v) ∧ Below w.heap.size w w' := by
 subst hv
 cases h : (x.kind == a) with
 | true => exact is_a x a b B cap w h
 | false =>
  cases h2 : (x.kind == b) with
  | true => exact is_b x a b B cap w h h2
  | false => exact is_n x a b B cap w h h2
theorem sr1 (x : Nd) (B : Option Addr) (cap : Nat) (w : World) (hs : x.size ≤ 2000000) (hx : SG x) (hc : x.kids.len ≤ cap) {P : Nat → Prop} (hP : ∀ b, P b → b < w.heap.size) (ht : TreesAt w P x.kids B) (h0 : x.kind = 1 ∨ x.kind = 2) : Calls Tryz.prog 34 #[ndV x B cap] w (OldT P (starQ x) w) := by
 have HV := Lib.hid (show starQ x = emptyN by unfold starQ; rw [if_pos (by omega)])
 have e1 : (x.kind == 1 || x.kind == 2) = true := by rw [Bool.or_eq_true, beq_iff_eq, beq_iff_eq]; exact h0
 clear h0
 obtain ⟨hb2, HB2, HX2, HZ2, HW2⟩ := two_hid w x B cap
 have HB12 := Lib.hid (two_made w x B cap).2.2.2.2.2
 have HT2 := Lib.hid (ht.below hb2)
 have hkl := Trees.len_list x.kids
 have HKL := Lib.hid hkl
 clear ht hb2 hkl HB2
 unfold ndV
 unfold ndA at HX2 HB12
 obtain ⟨x0, x1, x2, x3, x4, x5, x6, x7, hl2⟩ := (HX2.out).c8n
 go_enter Tryz.func34, Tryz.ntmps34
 go_upto_region 1 with fail
 rw [← W2n_lit w x B cap]
 generalize W2n w x B cap = w2 at *
 have HI3 := Lib.hid (ris_go x 1 2 B cap w2 true (by exact e1))
 unfold ndV at HI3
 go_wp2_with fail
 refine HI3.out.mono ?_
 rintro e w3 ⟨rfl, hb3⟩
 have HX3 := Lib.hid (HX2.out.below hb3 HX2.out.lt)
 have HZ3 := Lib.hid (HZ2.out.below hb3 HZ2.out.lt)
 have HB12' := Lib.hid (HB12.out.trans (hb3.mono (Nat.le_of_lt (by have := HZ2.out.lt; omega))))
 have HT3 := Lib.hid (HT2.out.below hb3)
 clear hb3 HI3 x0 x1 x2 x3 x4 x5 x6 x7 hl2 HX2 HZ2 HT2 HB12
 have HB12 := HB12'
 clear HB12'
 obtain ⟨x0, x1, x2, x3, x4, x5, x6, x7, hl2⟩ := (HX3.out).c8n
 dsimp only
 obtain ⟨y0, y1, y2, y3, y4, y5, y6, y7, g0, g1, g2, g3, g4, g5, g6, g7⟩ := HZ3.out.z16
 go_wp2
 go_light
 have hF := old_put1 (x := emptyN) (B := none) (cap := 0) sg_empty HZ3.out HB12.out hP (P2 := fun b => P b ∨ w.heap.size + 1 ≤ b) (fun b h => h) trivial (by simp only [emptyN, word_zero]; rfl)
 refine bodyPost_ret (ret_node Tryz.results34 rfl hF.1) rfl ?_
 rw [HV.out]
 exact ⟨none, 0, rfl, hF.2.1, Nat.le_refl _, hF.2.2⟩
theorem sr6 (x : Nd) (B : Option Addr) (cap : Nat) (w : World) (hs : x.size ≤ 2000000) (hx : SG x) (hc : x.kids.len ≤ cap) {P : Nat → Prop} (hP : ∀ b, P b → b < w.heap.size) (ht : TreesAt w P x.kids B) (h0 : x.kind = 6 ∨ x.kind = 7) : Calls Tryz.prog 34 #[ndV x B cap] w (OldT P (starQ x) w) := by
 have HV := Lib.hid (show starQ x = ⟨6, 0, x.kids, 0, 0⟩ by unfold starQ; rw [if_neg (by omega)]; rw [if_pos (by omega)])
 have HSY := Lib.hid (show SG ⟨6, 0, x.kids, 0, 0⟩ by rw [← HV.out, starQ_eq hx]; exact starP_sg hx)
 have hone : 0 < x.kids.len := by have := (sg_iff.1 hx).1.1.2; omega
 have e1 : (x.kind == 1) = false := kindn (by omega)
 have e2 : (x.kind == 2) = false := kindn (by omega)
 have e6 : (x.kind == 6 || x.kind == 7) = true := by rw [Bool.or_eq_true, beq_iff_eq, beq_iff_eq]; exact h0
 clear h0
 obtain ⟨hb2, HB2, HX2, HZ2, HW2⟩ := two_hid w x B cap
 have HB12 := Lib.hid (two_made w x B cap).2.2.2.2.2
 have HT2 := Lib.hid (ht.below hb2)
 have hkl := Trees.len_list x.kids
 have HKL := Lib.hid hkl
 clear ht hb2 hkl HB2
 unfold ndV
 unfold ndA at HX2 HB12
 obtain ⟨x0, x1, x2, x3, x4, x5, x6, x7, hl2⟩ := (HX2.out).c8n
 go_enter Tryz.func34, Tryz.ntmps34
 go_upto_region 1 with fail
 rw [← W2n_lit w x B cap]
 generalize W2n w x B cap = w2 at *
 have HI3 := Lib.hid (ris_go x 1 2 B cap w2 false (by rw [e1, e2]; rfl))
 unfold ndV at HI3
 go_wp2_with fail
 refine HI3.out.mono ?_
 rintro e w3 ⟨rfl, hb3⟩
 have HX3 := Lib.hid (HX2.out.below hb3 HX2.out.lt)
 have HZ3 := Lib.hid (HZ2.out.below hb3 HZ2.out.lt)
 have HB12' := Lib.hid (HB12.out.trans (hb3.mono (Nat.le_of_lt (by have := HZ2.out.lt; omega))))
 have HT3 := Lib.hid (HT2.out.below hb3)
 clear hb3 HI3 x0 x1 x2 x3 x4 x5 x6 x7 hl2 HX2 HZ2 HT2 HB12
 have HB12 := HB12'
 clear HB12'
 obtain ⟨x0, x1, x2, x3, x4, x5, x6, x7, hl2⟩ := (HX3.out).c8n
 dsimp only
 have HI4 := Lib.hid (ris_go x 6 7 B cap w3 true (by exact e6))
 unfold ndV at HI4
 go_wp2_with fail
 refine HI4.out.mono ?_
 rintro e w4 ⟨rfl, hb4⟩
 have HX4 := Lib.hid (HX3.out.below hb4 HX3.out.lt)
 have HZ4 := Lib.hid (HZ3.out.below hb4 HZ3.out.lt)
 have HB12' := Lib.hid (HB12.out.trans (hb4.mono (Nat.le_of_lt (by have := HZ3.out.lt; omega))))
 have HT4 := Lib.hid (HT3.out.below hb4)
 clear hb4 HI4 x0 x1 x2 x3 x4 x5 x6 x7 hl2 HX3 HZ3 HT3 HB12
 have HB12 := HB12'
 clear HB12'
 obtain ⟨x0, x1, x2, x3, x4, x5, x6, x7, hl2⟩ := (HX4.out).c8n
 dsimp only
 have hi := nofB_go 6 _ B cap x.kids.list w4 (by rw [HKL.out]; omega) (by rw [HKL.out]; have := Trees.len_size x.kids; unfold Nd.size at hs; omega) (show TreesAt w4 _ (Trees.of x.kids.list) B by rw [Trees.of_list]; exact HT4.out)
 rw [HKL.out, Trees.of_list] at hi
 have HI := Lib.hid hi
 clear hi hone
 go_wp2_with fail
 refine HI.out.mono ?_
 rintro e w9 ⟨B9, c9, rfl, hb9, hc9, ht9⟩
 have hZ9 := HZ4.out.below hb9 HZ4.out.lt
 have HB9 := Lib.hid (HB12.out.trans (hb9.mono (Nat.le_of_lt (by have := HZ4.out.lt; omega))))
 have HZ9 := Lib.hid hZ9
 have q1 := HZ4.out.lt
 have q2 := HZ4.out.lt
 have HT9 := Lib.hid (ht9.weak (Q := fun b => P b ∨ w.heap.size + 1 ≤ b) (fun b h _ => by
  rcases h with h | h
  ·first | exact .inl h | exact h.imp id (fun h => by omega)
  ·exact .inr (by omega)))
 clear q1 q2
 obtain ⟨y0, y1, y2, y3, y4, y5, y6, y7, g0, g1, g2, g3, g4, g5, g6, g7⟩ := hZ9.z16
 clear hZ9 ht9 hb9 HI HZ4 HB12 HX4 x0 x1 x2 x3 x4 x5 x6 x7 hl2 HT4
 generalize hy : (⟨6, 0, x.kids, 0, 0⟩ : Nd) = y at *
 have HY := Lib.hid hy
 clear hy
 unfold ndV
 dsimp only
 go_wp2
 go_light
 have hF := old_put1 (x := y) (B := B9) (cap := c9) HSY.out HZ9.out HB9.out hP (fun b h => h) HT9.out rfl
 refine bodyPost_ret (ret_node Tryz.results34 rfl hF.1) rfl ?_
 rw [HV.out]
 exact ⟨B9, c9, rfl, hF.2.1, hc9, hF.2.2⟩
theorem sr8 (x : Nd) (B : Option Addr) (cap : Nat) (w : World) (hs : x.size ≤ 2000000) (hx : SG x) (hc : x.kids.len ≤ cap) {P : Nat → Prop} (hP : ∀ b, P b → b < w.heap.size) (ht : TreesAt w P x.kids B) (h0 : x.kind = 8) : Calls Tryz.prog 34 #[ndV x B cap] w (OldT P (starQ x) w) := by
 have HV := Lib.hid (show starQ x = ⟨6, 0, x.kids, 0, 0⟩ by unfold starQ; rw [if_neg (by omega)]; rw [if_pos (by omega)])
 have HSY := Lib.hid (show SG ⟨6, 0, x.kids, 0, 0⟩ by rw [← HV.out, starQ_eq hx]; exact starP_sg hx)
 have hone : 0 < x.kids.len := by have := (sg_iff.1 hx).1.1.2; omega
 have e1 : (x.kind == 1) = false := kindn (by omega)
 have e2 : (x.kind == 2) = false := kindn (by omega)
 have e6 : (x.kind == 6) = false := kindn (by omega)
 have e7 : (x.kind == 7) = false := kindn (by omega)
 have e8 : (x.kind == 8) = true := kindy (by omega)
 clear h0
 obtain ⟨hb2, HB2, HX2, HZ2, HW2⟩ := two_hid w x B cap
 have HB12 := Lib.hid (two_made w x B cap).2.2.2.2.2
 have HT2 := Lib.hid (ht.below hb2)
 have hkl := Trees.len_list x.kids
 have HKL := Lib.hid hkl
 clear ht hb2 hkl HB2
 unfold ndV
 unfold ndA at HX2 HB12
 obtain ⟨x0, x1, x2, x3, x4, x5, x6, x7, hl2⟩ := (HX2.out).c8n
 go_enter Tryz.func34, Tryz.ntmps34
 go_upto_region 1 with fail
 rw [← W2n_lit w x B cap]
 generalize W2n w x B cap = w2 at *
 have HI3 := Lib.hid (ris_go x 1 2 B cap w2 false (by rw [e1, e2]; rfl))
 unfold ndV at HI3
 go_wp2_with fail
 refine HI3.out.mono ?_
 rintro e w3 ⟨rfl, hb3⟩
 have HX3 := Lib.hid (HX2.out.below hb3 HX2.out.lt)
 have HZ3 := Lib.hid (HZ2.out.below hb3 HZ2.out.lt)
 have HB12' := Lib.hid (HB12.out.trans (hb3.mono (Nat.le_of_lt (by have := HZ2.out.lt; omega))))
 have HT3 := Lib.hid (HT2.out.below hb3)
 clear hb3 HI3 x0 x1 x2 x3 x4 x5 x6 x7 hl2 HX2 HZ2 HT2 HB12
 have HB12 := HB12'
 clear HB12'
 obtain ⟨x0, x1, x2, x3, x4, x5, x6, x7, hl2⟩ := (HX3.out).c8n
 dsimp only
 have HI4 := Lib.hid (ris_go x 6 7 B cap w3 false (by rw [e6, e7]; rfl))
 unfold ndV at HI4
 go_wp2_with fail
 refine HI4.out.mono ?_
 rintro e w4 ⟨rfl, hb4⟩
 have HX4 := Lib.hid (HX3.out.below hb4 HX3.out.lt)
 have HZ4 := Lib.hid (HZ3.out.below hb4 HZ3.out.lt)
 have HB12' := Lib.hid (HB12.out.trans (hb4.mono (Nat.le_of_lt (by have := HZ3.out.lt; omega))))
 have HT4 := Lib.hid (HT3.out.below hb4)
 clear hb4 HI4 x0 x1 x2 x3 x4 x5 x6 x7 hl2 HX3 HZ3 HT3 HB12
 have HB12 := HB12'
 clear HB12'
 obtain ⟨x0, x1, x2, x3, x4, x5, x6, x7, hl2⟩ := (HX4.out).c8n
 dsimp only
 have hi := nofB_go 6 _ B cap x.kids.list w4 (by rw [HKL.out]; omega) (by rw [HKL.out]; have := Trees.len_size x.kids; unfold Nd.size at hs; omega) (show TreesAt w4 _ (Trees.of x.kids.list) B by rw [Trees.of_list]; exact HT4.out)
 rw [HKL.out, Trees.of_list] at hi
 have HI := Lib.hid hi
 clear hi hone
 go_wp2_with fail
 refine HI.out.mono ?_
 rintro e w9 ⟨B9, c9, rfl, hb9, hc9, ht9⟩
 have hZ9 := HZ4.out.below hb9 HZ4.out.lt
 have HB9 := Lib.hid (HB12.out.trans (hb9.mono (Nat.le_of_lt (by have := HZ4.out.lt; omega))))
 have HZ9 := Lib.hid hZ9
 have q1 := HZ4.out.lt
 have q2 := HZ4.out.lt
 have HT9 := Lib.hid (ht9.weak (Q := fun b => P b ∨ w.heap.size + 1 ≤ b) (fun b h _ => by
  rcases h with h | h
  ·first | exact .inl h | exact h.imp id (fun h => by omega)
  ·exact .inr (by omega)))
 clear q1 q2
 obtain ⟨y0, y1, y2, y3, y4, y5, y6, y7, g0, g1, g2, g3, g4, g5, g6, g7⟩ := hZ9.z16
 clear hZ9 ht9 hb9 HI HZ4 HB12 HX4 x0 x1 x2 x3 x4 x5 x6 x7 hl2 HT4
 generalize hy : (⟨6, 0, x.kids, 0, 0⟩ : Nd) = y at *
 have HY := Lib.hid hy
 clear hy
 unfold ndV
 dsimp only
 go_wp2
 go_light
 have hF := old_put1 (x := y) (B := B9) (cap := c9) HSY.out HZ9.out HB9.out hP (fun b h => h) HT9.out rfl
 refine bodyPost_ret (ret_node Tryz.results34 rfl hF.1) rfl ?_
 rw [HV.out]
 exact ⟨B9, c9, rfl, hF.2.1, hc9, hF.2.2⟩
theorem sr0 (x : Nd) (B : Option Addr) (cap : Nat) (w : World) (hs : x.size ≤ 2000000) (hx : SG x) (hc : x.kids.len ≤ cap) {P : Nat → Prop} (hP : ∀ b, P b → b < w.heap.size) (ht : TreesAt w P x.kids B) (h0 : x.kind ≠ 1 ∧ x.kind ≠ 2 ∧ x.kind ≠ 6 ∧ x.kind ≠ 7 ∧ x.kind ≠ 8) : Calls Tryz.prog 34 #[ndV x B cap] w (OldT P (starQ x) w) := by
 have HV := Lib.hid (show starQ x = ⟨6, 0, Trees.of [x], 0, 0⟩ by unfold starQ; rw [if_neg (by omega)]; rw [if_neg (by omega)]; rfl)
 have HSY := Lib.hid (show SG ⟨6, 0, Trees.of [x], 0, 0⟩ by rw [← HV.out, starQ_eq hx]; exact starP_sg hx)
 have e1 : (x.kind == 1) = false := kindn (by omega)
 have e2 : (x.kind == 2) = false := kindn (by omega)
 have e6 : (x.kind == 6) = false := kindn (by omega)
 have e7 : (x.kind == 7) = false := kindn (by omega)
 have e8 : (x.kind == 8) = false := kindn (by omega)
 clear h0
 obtain ⟨hb2, HB2, HX2, HZ2, HW2⟩ := two_hid w x B cap
 have HB12 := Lib.hid (two_made w x B cap).2.2.2.2.2
 have HT2 := Lib.hid (ht.below hb2)
 have hkl := Trees.len_list x.kids
 have HKL := Lib.hid hkl
 clear ht hb2 hkl HB2
 unfold ndV
 unfold ndA at HX2 HB12
 obtain ⟨x0, x1, x2, x3, x4, x5, x6, x7, hl2⟩ := (HX2.out).c8n
 go_enter Tryz.func34, Tryz.ntmps34
 go_upto_region 1 with fail
 rw [← W2n_lit w x B cap]
 generalize W2n w x B cap = w2 at *
 have HI3 := Lib.hid (ris_go x 1 2 B cap w2 false (by rw [e1, e2]; rfl))
 unfold ndV at HI3
 go_wp2_with fail
 refine HI3.out.mono ?_
 rintro e w3 ⟨rfl, hb3⟩
 have HX3 := Lib.hid (HX2.out.below hb3 HX2.out.lt)
 have HZ3 := Lib.hid (HZ2.out.below hb3 HZ2.out.lt)
 have HB12' := Lib.hid (HB12.out.trans (hb3.mono (Nat.le_of_lt (by have := HZ2.out.lt; omega))))
 have HT3 := Lib.hid (HT2.out.below hb3)
 clear hb3 HI3 x0 x1 x2 x3 x4 x5 x6 x7 hl2 HX2 HZ2 HT2 HB12
 have HB12 := HB12'
 clear HB12'
 obtain ⟨x0, x1, x2, x3, x4, x5, x6, x7, hl2⟩ := (HX3.out).c8n
 dsimp only
 have HI4 := Lib.hid (ris_go x 6 7 B cap w3 false (by rw [e6, e7]; rfl))
 unfold ndV at HI4
 go_wp2_with fail
 refine HI4.out.mono ?_
 rintro e w4 ⟨rfl, hb4⟩
 have HX4 := Lib.hid (HX3.out.below hb4 HX3.out.lt)
 have HZ4 := Lib.hid (HZ3.out.below hb4 HZ3.out.lt)
 have HB12' := Lib.hid (HB12.out.trans (hb4.mono (Nat.le_of_lt (by have := HZ3.out.lt; omega))))
 have HT4 := Lib.hid (HT3.out.below hb4)
 clear hb4 HI4 x0 x1 x2 x3 x4 x5 x6 x7 hl2 HX3 HZ3 HT3 HB12
 have HB12 := HB12'
 clear HB12'
 obtain ⟨x0, x1, x2, x3, x4, x5, x6, x7, hl2⟩ := (HX4.out).c8n
 dsimp only
 have hbA : Below w4.heap.size w4 (w4.alloc (.cells (ndA x B cap) 28)) := (Below.refl _ _).alloc (Nat.le_refl _) _
 have htr := row_oneS (P := fun b => P b ∨ w4.heap.size ≤ b) (Blk.new w4 28 (ndA x B cap)) (.inr (Nat.le_refl _)) hc ((HT4.out.below hbA).weak (fun b h _ => .inl h))
 have HI := Lib.hid (nofB_go 6 _ (some ⟨w4.heap.size, 0, none⟩) 1 [x] (w4.alloc (.cells (ndA x B cap) 28)) (by simp) (by simp) htr)
 have HZA := Lib.hid (HZ4.out.alloc (.cells (ndA x B cap) 28))
 have HBA := Lib.hid (HB12.out.trans (hbA.mono (Nat.le_of_lt (by have := HZ4.out.lt; omega))))
 simp only [List.length_cons, List.length_nil, Nat.zero_add] at HI
 unfold ndA at HI HZA HBA
 clear htr hbA
 go_wp2_with fail
 refine HI.out.mono ?_
 rintro e w9 ⟨B9, c9, rfl, hb9, hc9, ht9⟩
 have hZ9 := HZA.out.below hb9 HZA.out.lt
 have HB9 := Lib.hid (HBA.out.trans (hb9.mono (Nat.le_of_lt (by have := HZA.out.lt; omega))))
 have HZ9 := Lib.hid hZ9
 have q1 := HZ4.out.lt
 have q2 := HZA.out.lt
 have HT9 := Lib.hid (ht9.weak (Q := fun b => P b ∨ w.heap.size + 1 ≤ b) (fun b h _ => by
  rcases h with h | h
  ·first | exact .inl h | exact h.imp id (fun h => by omega)
  ·exact .inr (by omega)))
 clear q1 q2
 obtain ⟨y0, y1, y2, y3, y4, y5, y6, y7, g0, g1, g2, g3, g4, g5, g6, g7⟩ := hZ9.z16
 clear hZ9 ht9 hb9 HI HZ4 HB12 HX4 x0 x1 x2 x3 x4 x5 x6 x7 hl2 HT4
 generalize hy : (⟨6, 0, Trees.of [x], 0, 0⟩ : Nd) = y at *
 have HY := Lib.hid hy
 clear hy
 unfold ndV
 dsimp only
 go_wp2
 go_light
 have hF := old_put1 (x := y) (B := B9) (cap := c9) HSY.out HZ9.out HB9.out hP (fun b h => h) HT9.out rfl
 refine bodyPost_ret (ret_node Tryz.results34 rfl hF.1) rfl ?_
 rw [HV.out]
 exact ⟨B9, c9, rfl, hF.2.1, hc9, hF.2.2⟩
theorem rstar12_go (x : Nd) (B : Option Addr) (cap : Nat) (w : World) (hs : x.size ≤ 2000000) (hx : SG x) (hc : x.kids.len ≤ cap) {P : Nat → Prop} (hP : ∀ b, P b → b < w.heap.size) (ht : TreesAt w P x.kids B) : Calls Tryz.prog 34 #[ndV x B cap] w (OldT P (starQ x) w) := by
 by_cases h1 : x.kind = 1 ∨ x.kind = 2
 ·exact sr1 x B cap w hs hx hc hP ht h1
 by_cases h6 : x.kind = 6 ∨ x.kind = 7
 ·exact sr6 x B cap w hs hx hc hP ht h6
 by_cases h8 : x.kind = 8
 ·exact sr8 x B cap w hs hx hc hP ht h8
 ·exact sr0 x B cap w hs hx hc hP ht (by omega)
theorem qr1 (x : Nd) (B : Option Addr) (cap : Nat) (w : World) (hs : x.size ≤ 2000000) (hx : SG x) (hc : x.kids.len ≤ cap) {P : Nat → Prop} (hP : ∀ b, P b → b < w.heap.size) (ht : TreesAt w P x.kids B) (h0 : x.kind = 1 ∨ x.kind = 2) : Calls Tryz.prog 36 #[ndV x B cap] w (OldT P (plusQ x) w) := by
 have HV := Lib.hid (show plusQ x = x by unfold plusQ; rw [if_pos (by omega)])
 have e1 : (x.kind == 1 || x.kind == 2) = true := by rw [Bool.or_eq_true, beq_iff_eq, beq_iff_eq]; exact h0
 clear h0
 obtain ⟨hb2, HB2, HX2, HZ2, HW2⟩ := two_hid w x B cap
 have HB12 := Lib.hid (two_made w x B cap).2.2.2.2.2
 have HT2 := Lib.hid (ht.below hb2)
 have hkl := Trees.len_list x.kids
 have HKL := Lib.hid hkl
 clear ht hb2 hkl HB2
 unfold ndV
 unfold ndA at HX2 HB12
 obtain ⟨x0, x1, x2, x3, x4, x5, x6, x7, hl2⟩ := (HX2.out).c8n
 go_enter Tryz.func36, Tryz.ntmps36
 go_upto_region 1 with fail
 rw [← W2n_lit w x B cap]
 generalize W2n w x B cap = w2 at *
 have HI3 := Lib.hid (ris_go x 1 2 B cap w2 true (by exact e1))
 unfold ndV at HI3
 go_wp2_with fail
 refine HI3.out.mono ?_
 rintro e w3 ⟨rfl, hb3⟩
 have HX3 := Lib.hid (HX2.out.below hb3 HX2.out.lt)
 have HZ3 := Lib.hid (HZ2.out.below hb3 HZ2.out.lt)
 have HB12' := Lib.hid (HB12.out.trans (hb3.mono (Nat.le_of_lt (by have := HZ2.out.lt; omega))))
 have HT3 := Lib.hid (HT2.out.below hb3)
 clear hb3 HI3 x0 x1 x2 x3 x4 x5 x6 x7 hl2 HX2 HZ2 HT2 HB12
 have HB12 := HB12'
 clear HB12'
 obtain ⟨x0, x1, x2, x3, x4, x5, x6, x7, hl2⟩ := (HX3.out).c8n
 dsimp only
 obtain ⟨y0, y1, y2, y3, y4, y5, y6, y7, g0, g1, g2, g3, g4, g5, g6, g7⟩ := HZ3.out.z16
 have HSX := Lib.hid hx
 clear hx
 go_wp2
 go_light
 have hF := old_put1 (x := x) (B := B) (cap := cap) HSX.out HZ3.out HB12.out hP (fun b h => .inl h) HT3.out rfl
 refine bodyPost_ret (ret_node Tryz.results36 rfl hF.1) rfl ?_
 rw [HV.out]
 exact ⟨B, cap, rfl, hF.2.1, hc, hF.2.2⟩
theorem qr6 (x : Nd) (B : Option Addr) (cap : Nat) (w : World) (hs : x.size ≤ 2000000) (hx : SG x) (hc : x.kids.len ≤ cap) {P : Nat → Prop} (hP : ∀ b, P b → b < w.heap.size) (ht : TreesAt w P x.kids B) (h0 : x.kind = 6 ∨ x.kind = 7) : Calls Tryz.prog 36 #[ndV x B cap] w (OldT P (plusQ x) w) := by
 have HV := Lib.hid (show plusQ x = x by unfold plusQ; rw [if_pos (by omega)])
 have e1 : (x.kind == 1) = false := kindn (by omega)
 have e2 : (x.kind == 2) = false := kindn (by omega)
 have e6 : (x.kind == 6 || x.kind == 7) = true := by rw [Bool.or_eq_true, beq_iff_eq, beq_iff_eq]; exact h0
 clear h0
 obtain ⟨hb2, HB2, HX2, HZ2, HW2⟩ := two_hid w x B cap
 have HB12 := Lib.hid (two_made w x B cap).2.2.2.2.2
 have HT2 := Lib.hid (ht.below hb2)
 have hkl := Trees.len_list x.kids
 have HKL := Lib.hid hkl
 clear ht hb2 hkl HB2
 unfold ndV
 unfold ndA at HX2 HB12
 obtain ⟨x0, x1, x2, x3, x4, x5, x6, x7, hl2⟩ := (HX2.out).c8n
 go_enter Tryz.func36, Tryz.ntmps36
 go_upto_region 1 with fail
 rw [← W2n_lit w x B cap]
 generalize W2n w x B cap = w2 at *
 have HI3 := Lib.hid (ris_go x 1 2 B cap w2 false (by rw [e1, e2]; rfl))
 unfold ndV at HI3
 go_wp2_with fail
 refine HI3.out.mono ?_
 rintro e w3 ⟨rfl, hb3⟩
 have HX3 := Lib.hid (HX2.out.below hb3 HX2.out.lt)
 have HZ3 := Lib.hid (HZ2.out.below hb3 HZ2.out.lt)
 have HB12' := Lib.hid (HB12.out.trans (hb3.mono (Nat.le_of_lt (by have := HZ2.out.lt; omega))))
 have HT3 := Lib.hid (HT2.out.below hb3)
 clear hb3 HI3 x0 x1 x2 x3 x4 x5 x6 x7 hl2 HX2 HZ2 HT2 HB12
 have HB12 := HB12'
 clear HB12'
 obtain ⟨x0, x1, x2, x3, x4, x5, x6, x7, hl2⟩ := (HX3.out).c8n
 dsimp only
 have HI4 := Lib.hid (ris_go x 6 7 B cap w3 true (by exact e6))
 unfold ndV at HI4
 go_wp2_with fail
 refine HI4.out.mono ?_
 rintro e w4 ⟨rfl, hb4⟩
 have HX4 := Lib.hid (HX3.out.below hb4 HX3.out.lt)
 have HZ4 := Lib.hid (HZ3.out.below hb4 HZ3.out.lt)
 have HB12' := Lib.hid (HB12.out.trans (hb4.mono (Nat.le_of_lt (by have := HZ3.out.lt; omega))))
 have HT4 := Lib.hid (HT3.out.below hb4)
 clear hb4 HI4 x0 x1 x2 x3 x4 x5 x6 x7 hl2 HX3 HZ3 HT3 HB12
 have HB12 := HB12'
 clear HB12'
 obtain ⟨x0, x1, x2, x3, x4, x5, x6, x7, hl2⟩ := (HX4.out).c8n
 dsimp only
 obtain ⟨y0, y1, y2, y3, y4, y5, y6, y7, g0, g1, g2, g3, g4, g5, g6, g7⟩ := HZ4.out.z16
 have HSX := Lib.hid hx
 clear hx
 go_wp2
 go_light
 have hF := old_put1 (x := x) (B := B) (cap := cap) HSX.out HZ4.out HB12.out hP (fun b h => .inl h) HT4.out rfl
 refine bodyPost_ret (ret_node Tryz.results36 rfl hF.1) rfl ?_
 rw [HV.out]
 exact ⟨B, cap, rfl, hF.2.1, hc, hF.2.2⟩
theorem qr8 (x : Nd) (B : Option Addr) (cap : Nat) (w : World) (hs : x.size ≤ 2000000) (hx : SG x) (hc : x.kids.len ≤ cap) {P : Nat → Prop} (hP : ∀ b, P b → b < w.heap.size) (ht : TreesAt w P x.kids B) (h0 : x.kind = 8) : Calls Tryz.prog 36 #[ndV x B cap] w (OldT P (plusQ x) w) := by
 have HV := Lib.hid (show plusQ x = ⟨6, 0, x.kids, 0, 0⟩ by unfold plusQ; rw [if_neg (by omega)]; rw [if_pos (by omega)])
 have HSY := Lib.hid (show SG ⟨6, 0, x.kids, 0, 0⟩ by rw [← HV.out, plusQ_eq hx]; exact plusP_sg hx)
 have hone : 0 < x.kids.len := by have := (sg_iff.1 hx).1.1.2; omega
 have e1 : (x.kind == 1) = false := kindn (by omega)
 have e2 : (x.kind == 2) = false := kindn (by omega)
 have e6 : (x.kind == 6) = false := kindn (by omega)
 have e7 : (x.kind == 7) = false := kindn (by omega)
 have e8 : (x.kind == 8) = true := kindy (by omega)
 clear h0
 obtain ⟨hb2, HB2, HX2, HZ2, HW2⟩ := two_hid w x B cap
 have HB12 := Lib.hid (two_made w x B cap).2.2.2.2.2
 have HT2 := Lib.hid (ht.below hb2)
 have hkl := Trees.len_list x.kids
 have HKL := Lib.hid hkl
 clear ht hb2 hkl HB2
 unfold ndV
 unfold ndA at HX2 HB12
 obtain ⟨x0, x1, x2, x3, x4, x5, x6, x7, hl2⟩ := (HX2.out).c8n
 go_enter Tryz.func36, Tryz.ntmps36
 go_upto_region 1 with fail
 rw [← W2n_lit w x B cap]
 generalize W2n w x B cap = w2 at *
 have HI3 := Lib.hid (ris_go x 1 2 B cap w2 false (by rw [e1, e2]; rfl))
 unfold ndV at HI3
 go_wp2_with fail
 refine HI3.out.mono ?_
 rintro e w3 ⟨rfl, hb3⟩
 have HX3 := Lib.hid (HX2.out.below hb3 HX2.out.lt)
 have HZ3 := Lib.hid (HZ2.out.below hb3 HZ2.out.lt)
 have HB12' := Lib.hid (HB12.out.trans (hb3.mono (Nat.le_of_lt (by have := HZ2.out.lt; omega))))
 have HT3 := Lib.hid (HT2.out.below hb3)
 clear hb3 HI3 x0 x1 x2 x3 x4 x5 x6 x7 hl2 HX2 HZ2 HT2 HB12
 have HB12 := HB12'
 clear HB12'
 obtain ⟨x0, x1, x2, x3, x4, x5, x6, x7, hl2⟩ := (HX3.out).c8n
 dsimp only
 have HI4 := Lib.hid (ris_go x 6 7 B cap w3 false (by rw [e6, e7]; rfl))
 unfold ndV at HI4
 go_wp2_with fail
 refine HI4.out.mono ?_
 rintro e w4 ⟨rfl, hb4⟩
 have HX4 := Lib.hid (HX3.out.below hb4 HX3.out.lt)
 have HZ4 := Lib.hid (HZ3.out.below hb4 HZ3.out.lt)
 have HB12' := Lib.hid (HB12.out.trans (hb4.mono (Nat.le_of_lt (by have := HZ3.out.lt; omega))))
 have HT4 := Lib.hid (HT3.out.below hb4)
 clear hb4 HI4 x0 x1 x2 x3 x4 x5 x6 x7 hl2 HX3 HZ3 HT3 HB12
 have HB12 := HB12'
 clear HB12'
 obtain ⟨x0, x1, x2, x3, x4, x5, x6, x7, hl2⟩ := (HX4.out).c8n
 dsimp only
 have hi := nofB_go 6 _ B cap x.kids.list w4 (by rw [HKL.out]; omega) (by rw [HKL.out]; have := Trees.len_size x.kids; unfold Nd.size at hs; omega) (show TreesAt w4 _ (Trees.of x.kids.list) B by rw [Trees.of_list]; exact HT4.out)
 rw [HKL.out, Trees.of_list] at hi
 have HI := Lib.hid hi
 clear hi hone
 go_wp2_with fail
 refine HI.out.mono ?_
 rintro e w9 ⟨B9, c9, rfl, hb9, hc9, ht9⟩
 have hZ9 := HZ4.out.below hb9 HZ4.out.lt
 have HB9 := Lib.hid (HB12.out.trans (hb9.mono (Nat.le_of_lt (by have := HZ4.out.lt; omega))))
 have HZ9 := Lib.hid hZ9
 have q1 := HZ4.out.lt
 have q2 := HZ4.out.lt
 have HT9 := Lib.hid (ht9.weak (Q := fun b => P b ∨ w.heap.size + 1 ≤ b) (fun b h _ => by
  rcases h with h | h
  ·first | exact .inl h | exact h.imp id (fun h => by omega)
  ·exact .inr (by omega)))
 clear q1 q2
 obtain ⟨y0, y1, y2, y3, y4, y5, y6, y7, g0, g1, g2, g3, g4, g5, g6, g7⟩ := hZ9.z16
 clear hZ9 ht9 hb9 HI HZ4 HB12 HX4 x0 x1 x2 x3 x4 x5 x6 x7 hl2 HT4
 generalize hy : (⟨6, 0, x.kids, 0, 0⟩ : Nd) = y at *
 have HY := Lib.hid hy
 clear hy
 unfold ndV
 dsimp only
 go_wp2
 go_light
 have hF := old_put1 (x := y) (B := B9) (cap := c9) HSY.out HZ9.out HB9.out hP (fun b h => h) HT9.out rfl
 refine bodyPost_ret (ret_node Tryz.results36 rfl hF.1) rfl ?_
 rw [HV.out]
 exact ⟨B9, c9, rfl, hF.2.1, hc9, hF.2.2⟩
theorem qr0 (x : Nd) (B : Option Addr) (cap : Nat) (w : World) (hs : x.size ≤ 2000000) (hx : SG x) (hc : x.kids.len ≤ cap) {P : Nat → Prop} (hP : ∀ b, P b → b < w.heap.size) (ht : TreesAt w P x.kids B) (h0 : x.kind ≠ 1 ∧ x.kind ≠ 2 ∧ x.kind ≠ 6 ∧ x.kind ≠ 7 ∧ x.kind ≠ 8) : Calls Tryz.prog 36 #[ndV x B cap] w (OldT P (plusQ x) w) := by
 have HV := Lib.hid (show plusQ x = ⟨7, 0, Trees.of [x], 0, 0⟩ by unfold plusQ; rw [if_neg (by omega)]; rw [if_neg (by omega)]; rfl)
 have HSY := Lib.hid (show SG ⟨7, 0, Trees.of [x], 0, 0⟩ by rw [← HV.out, plusQ_eq hx]; exact plusP_sg hx)
 have e1 : (x.kind == 1) = false := kindn (by omega)
 have e2 : (x.kind == 2) = false := kindn (by omega)
 have e6 : (x.kind == 6) = false := kindn (by omega)
 have e7 : (x.kind == 7) = false := kindn (by omega)
 have e8 : (x.kind == 8) = false := kindn (by omega)
 clear h0
 obtain ⟨hb2, HB2, HX2, HZ2, HW2⟩ := two_hid w x B cap
 have HB12 := Lib.hid (two_made w x B cap).2.2.2.2.2
 have HT2 := Lib.hid (ht.below hb2)
 have hkl := Trees.len_list x.kids
 have HKL := Lib.hid hkl
 clear ht hb2 hkl HB2
 unfold ndV
 unfold ndA at HX2 HB12
 obtain ⟨x0, x1, x2, x3, x4, x5, x6, x7, hl2⟩ := (HX2.out).c8n
 go_enter Tryz.func36, Tryz.ntmps36
 go_upto_region 1 with fail
 rw [← W2n_lit w x B cap]
 generalize W2n w x B cap = w2 at *
 have HI3 := Lib.hid (ris_go x 1 2 B cap w2 false (by rw [e1, e2]; rfl))
 unfold ndV at HI3
 go_wp2_with fail
 refine HI3.out.mono ?_
 rintro e w3 ⟨rfl, hb3⟩
 have HX3 := Lib.hid (HX2.out.below hb3 HX2.out.lt)
 have HZ3 := Lib.hid (HZ2.out.below hb3 HZ2.out.lt)
 have HB12' := Lib.hid (HB12.out.trans (hb3.mono (Nat.le_of_lt (by have := HZ2.out.lt; omega))))
 have HT3 := Lib.hid (HT2.out.below hb3)
 clear hb3 HI3 x0 x1 x2 x3 x4 x5 x6 x7 hl2 HX2 HZ2 HT2 HB12
 have HB12 := HB12'
 clear HB12'
 obtain ⟨x0, x1, x2, x3, x4, x5, x6, x7, hl2⟩ := (HX3.out).c8n
 dsimp only
 have HI4 := Lib.hid (ris_go x 6 7 B cap w3 false (by rw [e6, e7]; rfl))
 unfold ndV at HI4
 go_wp2_with fail
 refine HI4.out.mono ?_
 rintro e w4 ⟨rfl, hb4⟩
 have HX4 := Lib.hid (HX3.out.below hb4 HX3.out.lt)
 have HZ4 := Lib.hid (HZ3.out.below hb4 HZ3.out.lt)
 have HB12' := Lib.hid (HB12.out.trans (hb4.mono (Nat.le_of_lt (by have := HZ3.out.lt; omega))))
 have HT4 := Lib.hid (HT3.out.below hb4)
 clear hb4 HI4 x0 x1 x2 x3 x4 x5 x6 x7 hl2 HX3 HZ3 HT3 HB12
 have HB12 := HB12'
 clear HB12'
 obtain ⟨x0, x1, x2, x3, x4, x5, x6, x7, hl2⟩ := (HX4.out).c8n
 dsimp only
 have hbA : Below w4.heap.size w4 (w4.alloc (.cells (ndA x B cap) 28)) := (Below.refl _ _).alloc (Nat.le_refl _) _
 have htr := row_oneS (P := fun b => P b ∨ w4.heap.size ≤ b) (Blk.new w4 28 (ndA x B cap)) (.inr (Nat.le_refl _)) hc ((HT4.out.below hbA).weak (fun b h _ => .inl h))
 have HI := Lib.hid (nofB_go 7 _ (some ⟨w4.heap.size, 0, none⟩) 1 [x] (w4.alloc (.cells (ndA x B cap) 28)) (by simp) (by simp) htr)
 have HZA := Lib.hid (HZ4.out.alloc (.cells (ndA x B cap) 28))
 have HBA := Lib.hid (HB12.out.trans (hbA.mono (Nat.le_of_lt (by have := HZ4.out.lt; omega))))
 simp only [List.length_cons, List.length_nil, Nat.zero_add] at HI
 unfold ndA at HI HZA HBA
 clear htr hbA
 go_wp2_with fail
 refine HI.out.mono ?_
 rintro e w9 ⟨B9, c9, rfl, hb9, hc9, ht9⟩
 have hZ9 := HZA.out.below hb9 HZA.out.lt
 have HB9 := Lib.hid (HBA.out.trans (hb9.mono (Nat.le_of_lt (by have := HZA.out.lt; omega))))
 have HZ9 := Lib.hid hZ9
 have q1 := HZ4.out.lt
 have q2 := HZA.out.lt
 have HT9 := Lib.hid (ht9.weak (Q := fun b => P b ∨ w.heap.size + 1 ≤ b) (fun b h _ => by
  rcases h with h | h
  ·first | exact .inl h | exact h.imp id (fun h => by omega)
  ·exact .inr (by omega)))
 clear q1 q2
 obtain ⟨y0, y1, y2, y3, y4, y5, y6, y7, g0, g1, g2, g3, g4, g5, g6, g7⟩ := hZ9.z16
 clear hZ9 ht9 hb9 HI HZ4 HB12 HX4 x0 x1 x2 x3 x4 x5 x6 x7 hl2 HT4
 generalize hy : (⟨7, 0, Trees.of [x], 0, 0⟩ : Nd) = y at *
 have HY := Lib.hid hy
 clear hy
 unfold ndV
 dsimp only
 go_wp2
 go_light
 have hF := old_put1 (x := y) (B := B9) (cap := c9) HSY.out HZ9.out HB9.out hP (fun b h => h) HT9.out rfl
 refine bodyPost_ret (ret_node Tryz.results36 rfl hF.1) rfl ?_
 rw [HV.out]
 exact ⟨B9, c9, rfl, hF.2.1, hc9, hF.2.2⟩
theorem rplus12_go (x : Nd) (B : Option Addr) (cap : Nat) (w : World) (hs : x.size ≤ 2000000) (hx : SG x) (hc : x.kids.len ≤ cap) {P : Nat → Prop} (hP : ∀ b, P b → b < w.heap.size) (ht : TreesAt w P x.kids B) : Calls Tryz.prog 36 #[ndV x B cap] w (OldT P (plusQ x) w) := by
 by_cases h1 : x.kind = 1 ∨ x.kind = 2
 ·exact qr1 x B cap w hs hx hc hP ht h1
 by_cases h6 : x.kind = 6 ∨ x.kind = 7
 ·exact qr6 x B cap w hs hx hc hP ht h6
 by_cases h8 : x.kind = 8
 ·exact qr8 x B cap w hs hx hc hP ht h8
 ·exact qr0 x B cap w hs hx hc hP ht (by omega)
theorem or1 (x : Nd) (B : Option Addr) (cap : Nat) (w : World) (hs : x.size ≤ 2000000) (hx : SG x) (hc : x.kids.len ≤ cap) {P : Nat → Prop} (hP : ∀ b, P b → b < w.heap.size) (ht : TreesAt w P x.kids B) (h0 : x.kind = 1) : Calls Tryz.prog 38 #[ndV x B cap] w (OldT P (optQ x) w) := by
 have HV := Lib.hid (show optQ x = emptyN by unfold optQ; rw [if_pos (by omega)])
 have e1 : (x.kind == 1) = true := kindy (by omega)
 clear h0
 obtain ⟨hb2, HB2, HX2, HZ2, HW2⟩ := two_hid w x B cap
 have HB12 := Lib.hid (two_made w x B cap).2.2.2.2.2
 have HT2 := Lib.hid (ht.below hb2)
 have hkl := Trees.len_list x.kids
 have HKL := Lib.hid hkl
 clear ht hb2 hkl HB2
 unfold ndV
 unfold ndA at HX2 HB12
 obtain ⟨x0, x1, x2, x3, x4, x5, x6, x7, hl2⟩ := (HX2.out).c8n
 go_enter Tryz.func38, Tryz.ntmps38
 go_upto_region 1 with fail
 rw [← W2n_lit w x B cap]
 generalize W2n w x B cap = w2 at *
 obtain ⟨y0, y1, y2, y3, y4, y5, y6, y7, g0, g1, g2, g3, g4, g5, g6, g7⟩ := HZ2.out.z16
 go_wp2
 go_light
 have hF := old_put1 (x := emptyN) (B := none) (cap := 0) sg_empty HZ2.out HB12.out hP (P2 := fun b => P b ∨ w.heap.size + 1 ≤ b) (fun b h => h) trivial (by simp only [emptyN, word_zero]; rfl)
 refine bodyPost_ret (ret_node Tryz.results38 rfl hF.1) rfl ?_
 rw [HV.out]
 exact ⟨none, 0, rfl, hF.2.1, Nat.le_refl _, hF.2.2⟩
theorem or2 (x : Nd) (B : Option Addr) (cap : Nat) (w : World) (hs : x.size ≤ 2000000) (hx : SG x) (hc : x.kids.len ≤ cap) {P : Nat → Prop} (hP : ∀ b, P b → b < w.heap.size) (ht : TreesAt w P x.kids B) (h0 : x.kind = 2) : Calls Tryz.prog 38 #[ndV x B cap] w (OldT P (optQ x) w) := by
 have HV := Lib.hid (show optQ x = x by unfold optQ; rw [if_neg (by omega)]; rw [if_pos (by omega)])
 have e1 : (x.kind == 1) = false := kindn (by omega)
 have e2 : (x.kind == 2) = true := kindy (by omega)
 clear h0
 obtain ⟨hb2, HB2, HX2, HZ2, HW2⟩ := two_hid w x B cap
 have HB12 := Lib.hid (two_made w x B cap).2.2.2.2.2
 have HT2 := Lib.hid (ht.below hb2)
 have hkl := Trees.len_list x.kids
 have HKL := Lib.hid hkl
 clear ht hb2 hkl HB2
 unfold ndV
 unfold ndA at HX2 HB12
 obtain ⟨x0, x1, x2, x3, x4, x5, x6, x7, hl2⟩ := (HX2.out).c8n
 go_enter Tryz.func38, Tryz.ntmps38
 go_upto_region 1 with fail
 rw [← W2n_lit w x B cap]
 generalize W2n w x B cap = w2 at *
 obtain ⟨y0, y1, y2, y3, y4, y5, y6, y7, g0, g1, g2, g3, g4, g5, g6, g7⟩ := HZ2.out.z16
 have HSX := Lib.hid hx
 clear hx
 go_wp2
 go_light
 have hF := old_put1 (x := x) (B := B) (cap := cap) HSX.out HZ2.out HB12.out hP (fun b h => .inl h) HT2.out rfl
 refine bodyPost_ret (ret_node Tryz.results38 rfl hF.1) rfl ?_
 rw [HV.out]
 exact ⟨B, cap, rfl, hF.2.1, hc, hF.2.2⟩
theorem or6 (x : Nd) (B : Option Addr) (cap : Nat) (w : World) (hs : x.size ≤ 2000000) (hx : SG x) (hc : x.kids.len ≤ cap) {P : Nat → Prop} (hP : ∀ b, P b → b < w.heap.size) (ht : TreesAt w P x.kids B) (h0 : x.kind = 6 ∨ x.kind = 8) : Calls Tryz.prog 38 #[ndV x B cap] w (OldT P (optQ x) w) := by
 have HV := Lib.hid (show optQ x = x by unfold optQ; rw [if_neg (by omega)]; rw [if_pos (by omega)])
 have e1 : (x.kind == 1) = false := kindn (by omega)
 have e2 : (x.kind == 2) = false := kindn (by omega)
 have e6 : (x.kind == 6 || x.kind == 8) = true := by rw [Bool.or_eq_true, beq_iff_eq, beq_iff_eq]; exact h0
 clear h0
 obtain ⟨hb2, HB2, HX2, HZ2, HW2⟩ := two_hid w x B cap
 have HB12 := Lib.hid (two_made w x B cap).2.2.2.2.2
 have HT2 := Lib.hid (ht.below hb2)
 have hkl := Trees.len_list x.kids
 have HKL := Lib.hid hkl
 clear ht hb2 hkl HB2
 unfold ndV
 unfold ndA at HX2 HB12
 obtain ⟨x0, x1, x2, x3, x4, x5, x6, x7, hl2⟩ := (HX2.out).c8n
 go_enter Tryz.func38, Tryz.ntmps38
 go_upto_region 1 with fail
 rw [← W2n_lit w x B cap]
 generalize W2n w x B cap = w2 at *
 have HI3 := Lib.hid (ris_go x 6 8 B cap w2 true (by exact e6))
 unfold ndV at HI3
 go_wp2_with fail
 refine HI3.out.mono ?_
 rintro e w3 ⟨rfl, hb3⟩
 have HX3 := Lib.hid (HX2.out.below hb3 HX2.out.lt)
 have HZ3 := Lib.hid (HZ2.out.below hb3 HZ2.out.lt)
 have HB12' := Lib.hid (HB12.out.trans (hb3.mono (Nat.le_of_lt (by have := HZ2.out.lt; omega))))
 have HT3 := Lib.hid (HT2.out.below hb3)
 clear hb3 HI3 x0 x1 x2 x3 x4 x5 x6 x7 hl2 HX2 HZ2 HT2 HB12
 have HB12 := HB12'
 clear HB12'
 obtain ⟨x0, x1, x2, x3, x4, x5, x6, x7, hl2⟩ := (HX3.out).c8n
 dsimp only
 obtain ⟨y0, y1, y2, y3, y4, y5, y6, y7, g0, g1, g2, g3, g4, g5, g6, g7⟩ := HZ3.out.z16
 have HSX := Lib.hid hx
 clear hx
 go_wp2
 go_light
 have hF := old_put1 (x := x) (B := B) (cap := cap) HSX.out HZ3.out HB12.out hP (fun b h => .inl h) HT3.out rfl
 refine bodyPost_ret (ret_node Tryz.results38 rfl hF.1) rfl ?_
 rw [HV.out]
 exact ⟨B, cap, rfl, hF.2.1, hc, hF.2.2⟩
theorem or7 (x : Nd) (B : Option Addr) (cap : Nat) (w : World) (hs : x.size ≤ 2000000) (hx : SG x) (hc : x.kids.len ≤ cap) {P : Nat → Prop} (hP : ∀ b, P b → b < w.heap.size) (ht : TreesAt w P x.kids B) (h0 : x.kind = 7) : Calls Tryz.prog 38 #[ndV x B cap] w (OldT P (optQ x) w) := by
 have HV := Lib.hid (show optQ x = ⟨6, 0, x.kids, 0, 0⟩ by unfold optQ; rw [if_neg (by omega)]; rw [if_neg (by omega)]; rw [if_pos (by omega)])
 have HSY := Lib.hid (show SG ⟨6, 0, x.kids, 0, 0⟩ by rw [← HV.out, optQ_eq hx]; exact optP_sg hx)
 have hone : 0 < x.kids.len := by have := (sg_iff.1 hx).1.1.2; omega
 have e1 : (x.kind == 1) = false := kindn (by omega)
 have e2 : (x.kind == 2) = false := kindn (by omega)
 have e6 : (x.kind == 6) = false := kindn (by omega)
 have e8 : (x.kind == 8) = false := kindn (by omega)
 have e7 : (x.kind == 7) = true := kindy (by omega)
 clear h0
 obtain ⟨hb2, HB2, HX2, HZ2, HW2⟩ := two_hid w x B cap
 have HB12 := Lib.hid (two_made w x B cap).2.2.2.2.2
 have HT2 := Lib.hid (ht.below hb2)
 have hkl := Trees.len_list x.kids
 have HKL := Lib.hid hkl
 clear ht hb2 hkl HB2
 unfold ndV
 unfold ndA at HX2 HB12
 obtain ⟨x0, x1, x2, x3, x4, x5, x6, x7, hl2⟩ := (HX2.out).c8n
 go_enter Tryz.func38, Tryz.ntmps38
 go_upto_region 1 with fail
 rw [← W2n_lit w x B cap]
 generalize W2n w x B cap = w2 at *
 have HI3 := Lib.hid (ris_go x 6 8 B cap w2 false (by rw [e6, e8]; rfl))
 unfold ndV at HI3
 go_wp2_with fail
 refine HI3.out.mono ?_
 rintro e w3 ⟨rfl, hb3⟩
 have HX3 := Lib.hid (HX2.out.below hb3 HX2.out.lt)
 have HZ3 := Lib.hid (HZ2.out.below hb3 HZ2.out.lt)
 have HB12' := Lib.hid (HB12.out.trans (hb3.mono (Nat.le_of_lt (by have := HZ2.out.lt; omega))))
 have HT3 := Lib.hid (HT2.out.below hb3)
 clear hb3 HI3 x0 x1 x2 x3 x4 x5 x6 x7 hl2 HX2 HZ2 HT2 HB12
 have HB12 := HB12'
 clear HB12'
 obtain ⟨x0, x1, x2, x3, x4, x5, x6, x7, hl2⟩ := (HX3.out).c8n
 dsimp only
 have hi := nofB_go 6 _ B cap x.kids.list w3 (by rw [HKL.out]; omega) (by rw [HKL.out]; have := Trees.len_size x.kids; unfold Nd.size at hs; omega) (show TreesAt w3 _ (Trees.of x.kids.list) B by rw [Trees.of_list]; exact HT3.out)
 rw [HKL.out, Trees.of_list] at hi
 have HI := Lib.hid hi
 clear hi hone
 go_wp2_with fail
 refine HI.out.mono ?_
 rintro e w9 ⟨B9, c9, rfl, hb9, hc9, ht9⟩
 have hZ9 := HZ3.out.below hb9 HZ3.out.lt
 have HB9 := Lib.hid (HB12.out.trans (hb9.mono (Nat.le_of_lt (by have := HZ3.out.lt; omega))))
 have HZ9 := Lib.hid hZ9
 have q1 := HZ3.out.lt
 have q2 := HZ3.out.lt
 have HT9 := Lib.hid (ht9.weak (Q := fun b => P b ∨ w.heap.size + 1 ≤ b) (fun b h _ => by
  rcases h with h | h
  ·first | exact .inl h | exact h.imp id (fun h => by omega)
  ·exact .inr (by omega)))
 clear q1 q2
 obtain ⟨y0, y1, y2, y3, y4, y5, y6, y7, g0, g1, g2, g3, g4, g5, g6, g7⟩ := hZ9.z16
 clear hZ9 ht9 hb9 HI HZ3 HB12 HX3 x0 x1 x2 x3 x4 x5 x6 x7 hl2 HT3
 generalize hy : (⟨6, 0, x.kids, 0, 0⟩ : Nd) = y at *
 have HY := Lib.hid hy
 clear hy
 unfold ndV
 dsimp only
 go_wp2
 go_light
 have hF := old_put1 (x := y) (B := B9) (cap := c9) HSY.out HZ9.out HB9.out hP (fun b h => h) HT9.out rfl
 refine bodyPost_ret (ret_node Tryz.results38 rfl hF.1) rfl ?_
 rw [HV.out]
 exact ⟨B9, c9, rfl, hF.2.1, hc9, hF.2.2⟩
theorem or0 (x : Nd) (B : Option Addr) (cap : Nat) (w : World) (hs : x.size ≤ 2000000) (hx : SG x) (hc : x.kids.len ≤ cap) {P : Nat → Prop} (hP : ∀ b, P b → b < w.heap.size) (ht : TreesAt w P x.kids B) (h0 : x.kind ≠ 1 ∧ x.kind ≠ 2 ∧ x.kind ≠ 6 ∧ x.kind ≠ 7 ∧ x.kind ≠ 8) : Calls Tryz.prog 38 #[ndV x B cap] w (OldT P (optQ x) w) := by
 have HV := Lib.hid (show optQ x = ⟨8, 0, Trees.of [x], 0, 0⟩ by unfold optQ; rw [if_neg (by omega)]; rw [if_neg (by omega)]; rw [if_neg (by omega)]; rfl)
 have HSY := Lib.hid (show SG ⟨8, 0, Trees.of [x], 0, 0⟩ by rw [← HV.out, optQ_eq hx]; exact optP_sg hx)
 have e1 : (x.kind == 1) = false := kindn (by omega)
 have e2 : (x.kind == 2) = false := kindn (by omega)
 have e6 : (x.kind == 6) = false := kindn (by omega)
 have e8 : (x.kind == 8) = false := kindn (by omega)
 have e7 : (x.kind == 7) = false := kindn (by omega)
 clear h0
 obtain ⟨hb2, HB2, HX2, HZ2, HW2⟩ := two_hid w x B cap
 have HB12 := Lib.hid (two_made w x B cap).2.2.2.2.2
 have HT2 := Lib.hid (ht.below hb2)
 have hkl := Trees.len_list x.kids
 have HKL := Lib.hid hkl
 clear ht hb2 hkl HB2
 unfold ndV
 unfold ndA at HX2 HB12
 obtain ⟨x0, x1, x2, x3, x4, x5, x6, x7, hl2⟩ := (HX2.out).c8n
 go_enter Tryz.func38, Tryz.ntmps38
 go_upto_region 1 with fail
 rw [← W2n_lit w x B cap]
 generalize W2n w x B cap = w2 at *
 have HI3 := Lib.hid (ris_go x 6 8 B cap w2 false (by rw [e6, e8]; rfl))
 unfold ndV at HI3
 go_wp2_with fail
 refine HI3.out.mono ?_
 rintro e w3 ⟨rfl, hb3⟩
 have HX3 := Lib.hid (HX2.out.below hb3 HX2.out.lt)
 have HZ3 := Lib.hid (HZ2.out.below hb3 HZ2.out.lt)
 have HB12' := Lib.hid (HB12.out.trans (hb3.mono (Nat.le_of_lt (by have := HZ2.out.lt; omega))))
 have HT3 := Lib.hid (HT2.out.below hb3)
 clear hb3 HI3 x0 x1 x2 x3 x4 x5 x6 x7 hl2 HX2 HZ2 HT2 HB12
 have HB12 := HB12'
 clear HB12'
 obtain ⟨x0, x1, x2, x3, x4, x5, x6, x7, hl2⟩ := (HX3.out).c8n
 dsimp only
 have hbA : Below w3.heap.size w3 (w3.alloc (.cells (ndA x B cap) 28)) := (Below.refl _ _).alloc (Nat.le_refl _) _
 have htr := row_oneS (P := fun b => P b ∨ w3.heap.size ≤ b) (Blk.new w3 28 (ndA x B cap)) (.inr (Nat.le_refl _)) hc ((HT3.out.below hbA).weak (fun b h _ => .inl h))
 have HI := Lib.hid (nofB_go 8 _ (some ⟨w3.heap.size, 0, none⟩) 1 [x] (w3.alloc (.cells (ndA x B cap) 28)) (by simp) (by simp) htr)
 have HZA := Lib.hid (HZ3.out.alloc (.cells (ndA x B cap) 28))
 have HBA := Lib.hid (HB12.out.trans (hbA.mono (Nat.le_of_lt (by have := HZ3.out.lt; omega))))
 simp only [List.length_cons, List.length_nil, Nat.zero_add] at HI
 unfold ndA at HI HZA HBA
 clear htr hbA
 go_wp2_with fail
 refine HI.out.mono ?_
 rintro e w9 ⟨B9, c9, rfl, hb9, hc9, ht9⟩
 have hZ9 := HZA.out.below hb9 HZA.out.lt
 have HB9 := Lib.hid (HBA.out.trans (hb9.mono (Nat.le_of_lt (by have := HZA.out.lt; omega))))
 have HZ9 := Lib.hid hZ9
 have q1 := HZ3.out.lt
 have q2 := HZA.out.lt
 have HT9 := Lib.hid (ht9.weak (Q := fun b => P b ∨ w.heap.size + 1 ≤ b) (fun b h _ => by
  rcases h with h | h
  ·first | exact .inl h | exact h.imp id (fun h => by omega)
  ·exact .inr (by omega)))
 clear q1 q2
 obtain ⟨y0, y1, y2, y3, y4, y5, y6, y7, g0, g1, g2, g3, g4, g5, g6, g7⟩ := hZ9.z16
 clear hZ9 ht9 hb9 HI HZ3 HB12 HX3 x0 x1 x2 x3 x4 x5 x6 x7 hl2 HT3
 generalize hy : (⟨8, 0, Trees.of [x], 0, 0⟩ : Nd) = y at *
 have HY := Lib.hid hy
 clear hy
 unfold ndV
 dsimp only
 go_wp2
 go_light
 have hF := old_put1 (x := y) (B := B9) (cap := c9) HSY.out HZ9.out HB9.out hP (fun b h => h) HT9.out rfl
 refine bodyPost_ret (ret_node Tryz.results38 rfl hF.1) rfl ?_
 rw [HV.out]
 exact ⟨B9, c9, rfl, hF.2.1, hc9, hF.2.2⟩
theorem ropt12_go (x : Nd) (B : Option Addr) (cap : Nat) (w : World) (hs : x.size ≤ 2000000) (hx : SG x) (hc : x.kids.len ≤ cap) {P : Nat → Prop} (hP : ∀ b, P b → b < w.heap.size) (ht : TreesAt w P x.kids B) : Calls Tryz.prog 38 #[ndV x B cap] w (OldT P (optQ x) w) := by
 by_cases h1 : x.kind = 1
 ·exact or1 x B cap w hs hx hc hP ht h1
 by_cases h2 : x.kind = 2
 ·exact or2 x B cap w hs hx hc hP ht h2
 by_cases h6 : x.kind = 6 ∨ x.kind = 8
 ·exact or6 x B cap w hs hx hc hP ht h6
 by_cases h7 : x.kind = 7
 ·exact or7 x B cap w hs hx hc hP ht h7
 ·exact or0 x B cap w hs hx hc hP ht (by omega)
end Go.Proofs.YtofbfafnpdaejaaGreatDoor
