/- Texts of the claim. -/
import Derived.Test.YtofbfafnpdaejaaGreatDoorJZ03
import Derived.Test.YtofbfafnpdaejaaGreatDoorJTAlt
import Derived.Test.YtofbfafnpdaejaaGreatDoorJTCat
import Derived.Test.YtofbfafnpdaejaaGreatDoorJZ05
set_option linter.all false
set_option maxRecDepth 100000
set_option maxHeartbeats 8000000
namespace Go.Proofs.YtofbfafnpdaejaaGreatDoor
open Go.RowKit
theorem Blk.c8n {w : World} {g : Nat} {t : TypeId} {a0 a1 a2 a3 a4 a5 a6 a7 : Value} (h : Blk w g t #[a0, a1, a2, a3, a4, a5, a6, a7]) : w.cell? ⟨g, 0, none⟩ = some a0 ∧ w.cell? ⟨g, 1, none⟩ = some a1 ∧ w.cell? ⟨g, 2, none⟩ = some a2 ∧ w.cell? ⟨g, 3, none⟩ = some a3 ∧ w.cell? ⟨g, 4, none⟩ = some a4 ∧ w.cell? ⟨g, 5, none⟩ = some a5 ∧ w.cell? ⟨g, 6, none⟩ = some a6 ∧ w.cell? ⟨g, 7, none⟩ = some a7 ∧ g < w.heap.size := ⟨h.cell 0, h.cell 1, h.cell 2, h.cell 3, h.cell 4, h.cell 5, h.cell 6, h.cell 7, h.lt⟩
theorem Blk.z16 {w : World} {g : Nat} {t : TypeId} {a0 a1 a2 a3 a4 a5 a6 a7 : Value} (h : Blk w g t #[a0, a1, a2, a3, a4, a5, a6, a7]) : w.cell? ⟨g, 0, none⟩ = some a0 ∧ w.cell? ⟨g, 1, none⟩ = some a1 ∧ w.cell? ⟨g, 2, none⟩ = some a2 ∧ w.cell? ⟨g, 3, none⟩ = some a3 ∧ w.cell? ⟨g, 4, none⟩ = some a4 ∧ w.cell? ⟨g, 5, none⟩ = some a5 ∧ w.cell? ⟨g, 6, none⟩ = some a6 ∧ w.cell? ⟨g, 7, none⟩ = some a7 ∧ w.frozen? ⟨g, 0, none⟩ = false ∧ w.frozen? ⟨g, 1, none⟩ = false ∧ w.frozen? ⟨g, 2, none⟩ = false ∧ w.frozen? ⟨g, 3, none⟩ = false ∧ w.frozen? ⟨g, 4, none⟩ = false ∧ w.frozen? ⟨g, 5, none⟩ = false ∧ w.frozen? ⟨g, 6, none⟩ = false ∧ w.frozen? ⟨g, 7, none⟩ = false := ⟨h.cell 0, h.cell 1, h.cell 2, h.cell 3, h.cell 4, h.cell 5, h.cell 6, h.cell 7, h.frozen 0, h.frozen 1, h.frozen 2, h.frozen 3, h.frozen 4, h.frozen 5, h.frozen 6, h.frozen 7⟩
def W2n (w : World) (x : Nd) (B : Option Addr) (cap : Nat) : World := (w.alloc (.cells (ndA x B cap) 28)).alloc (.cells #[.int .i64 0, .int .u64 0, .int .u64 0, .int .u64 0, .int .u64 0, .slice none 0 0, .int .i64 0, .int .i64 0] 28)
theorem W2n_lit (w : World) (x : Nd) (B : Option Addr) (cap : Nat) : W2n w x B cap = (w.alloc (.cells #[.int .i64 x.kind, .int .u64 (word x.set.testBit 0), .int .u64 (word x.set.testBit 1), .int .u64 (word x.set.testBit 2), .int .u64 (word x.set.testBit 3), .slice B x.kids.len cap, .int .i64 x.lo, .int .i64 x.hi] 28)).alloc (.cells #[.int .i64 0, .int .u64 0, .int .u64 0, .int .u64 0, .int .u64 0, .slice none 0 0, .int .i64 0, .int .i64 0] 28) := rfl
theorem two_made (w : World) (x : Nd) (B : Option Addr) (cap : Nat) : Below w.heap.size w (W2n w x B cap) ∧ Blk (W2n w x B cap) w.heap.size 28 (ndA x B cap) ∧ Blk (W2n w x B cap) (w.heap.size + 1) 28 #[.int .i64 0, .int .u64 0, .int .u64 0, .int .u64 0, .int .u64 0, .slice none 0 0, .int .i64 0, .int .i64 0] ∧ w.heap.size + 2 ≤ (W2n w x B cap).heap.size ∧ (W2n w x B cap).heap.size = w.heap.size + 2 ∧ Below (w.heap.size + 1) (w.alloc (.cells (ndA x B cap) 28)) (W2n w x B cap) :=
 ⟨((Below.refl _ _).alloc (Nat.le_refl _) _).alloc (by simp) _, (Blk.new _ _ _).alloc _, Blk.new_at (by simp), by simp [W2n], by simp [W2n], (Below.refl _ _).alloc (by simp) _⟩
theorem two_hid (w : World) (x : Nd) (B : Option Addr) (cap : Nat) : Below w.heap.size w (W2n w x B cap) ∧ Hid (Below w.heap.size w (W2n w x B cap)) ∧ Hid (Blk (W2n w x B cap) w.heap.size 28 (ndA x B cap)) ∧ Hid (Blk (W2n w x B cap) (w.heap.size + 1) 28 #[.int .i64 0, .int .u64 0, .int .u64 0, .int .u64 0, .int .u64 0, .slice none 0 0, .int .i64 0, .int .i64 0]) ∧ Hid (w.heap.size + 2 ≤ (W2n w x B cap).heap.size) :=
 have h := two_made w x B cap
 ⟨h.1, Lib.hid h.1, Lib.hid h.2.1, Lib.hid h.2.2.1, Lib.hid h.2.2.2.1⟩
def NewT (x : Nd) (w : World) (e : Ending) (w' : World) : Prop := ∃ B' cap', e = .returned (ndV x B' cap') ∧ Below w.heap.size w w' ∧ x.kids.len ≤ cap' ∧ TreesAt w' (fun b => w.heap.size ≤ b) x.kids B'
theorem many0 (k q : Int) (F : Trees) (P : Nat → Prop) (B : Option Addr) (cap : Nat) (w : World) (hlen : F.size ≤ 100000000) (ht : TreesAt w P F B) (h : F.len = 0) : Calls Tryz.prog 135 #[.int .i64 k, .agg #[.int .i64 q, .int .u64 0, .int .u64 0, .int .u64 0, .int .u64 0, .slice none 0 0, .int .i64 0, .int .i64 0], .slice B F.len cap] w (NewT (manyN k q F.list) w) := by
 have hb2 : Below w.heap.size w ((w.alloc (.cells #[.int .i64 q, .int .u64 0, .int .u64 0, .int .u64 0, .int .u64 0, .slice none 0 0, .int .i64 0, .int .i64 0] 28)).alloc (.cells #[.int .i64 0, .int .u64 0, .int .u64 0, .int .u64 0, .int .u64 0, .slice none 0 0, .int .i64 0, .int .i64 0] 28)) := ((Below.refl _ _).alloc (Nat.le_refl _) _).alloc (by simp) _
 have HB2 := Lib.hid hb2
 have HX2 := Lib.hid (show Blk ((w.alloc (.cells #[.int .i64 q, .int .u64 0, .int .u64 0, .int .u64 0, .int .u64 0, .slice none 0 0, .int .i64 0, .int .i64 0] 28)).alloc (.cells #[.int .i64 0, .int .u64 0, .int .u64 0, .int .u64 0, .int .u64 0, .slice none 0 0, .int .i64 0, .int .i64 0] 28)) w.heap.size 28 #[.int .i64 q, .int .u64 0, .int .u64 0, .int .u64 0, .int .u64 0, .slice none 0 0, .int .i64 0, .int .i64 0] from (Blk.new _ _ _).alloc _)
 have HZ2 := Lib.hid (show Blk ((w.alloc (.cells #[.int .i64 q, .int .u64 0, .int .u64 0, .int .u64 0, .int .u64 0, .slice none 0 0, .int .i64 0, .int .i64 0] 28)).alloc (.cells #[.int .i64 0, .int .u64 0, .int .u64 0, .int .u64 0, .int .u64 0, .slice none 0 0, .int .i64 0, .int .i64 0] 28)) (w.heap.size + 1) 28 #[.int .i64 0, .int .u64 0, .int .u64 0, .int .u64 0, .int .u64 0, .slice none 0 0, .int .i64 0, .int .i64 0] from Blk.new_at (by simp))
 have HV := Lib.hid (show manyN k q F.list = ⟨q, 0, .nil, 0, 0⟩ by rw [list_nil h]; rfl)
 have hl : (F.len : Int) = 0 := by omega
 rw [h]
 clear ht hlen hb2 hl h
 go_enter Tryz.func135, Tryz.ntmps135
 go_upto_region 1 with fail
 generalize (w.alloc (.cells #[.int .i64 q, .int .u64 0, .int .u64 0, .int .u64 0, .int .u64 0, .slice none 0 0, .int .i64 0, .int .i64 0] 28)).alloc (.cells #[.int .i64 0, .int .u64 0, .int .u64 0, .int .u64 0, .int .u64 0, .slice none 0 0, .int .i64 0, .int .i64 0] 28) = w2 at *
 have x0 := HX2.out.cell 0
 have x1 := HX2.out.cell 1
 have x2 := HX2.out.cell 2
 have x3 := HX2.out.cell 3
 have x4 := HX2.out.cell 4
 have x5 := HX2.out.cell 5
 have x6 := HX2.out.cell 6
 have x7 := HX2.out.cell 7
 simp only [List.getElem?_toArray, List.getElem?_cons_zero, List.getElem?_cons_succ] at x0 x1 x2 x3 x4 x5 x6 x7
 have y0 : w2.cell? ⟨w.heap.size + 1, 0, none⟩ = some (.int .i64 0) := HZ2.out.cell 0
 have y1 : w2.cell? ⟨w.heap.size + 1, 1, none⟩ = some (.int .u64 0) := HZ2.out.cell 1
 have y2 : w2.cell? ⟨w.heap.size + 1, 2, none⟩ = some (.int .u64 0) := HZ2.out.cell 2
 have y3 : w2.cell? ⟨w.heap.size + 1, 3, none⟩ = some (.int .u64 0) := HZ2.out.cell 3
 have y4 : w2.cell? ⟨w.heap.size + 1, 4, none⟩ = some (.int .u64 0) := HZ2.out.cell 4
 have y5 : w2.cell? ⟨w.heap.size + 1, 5, none⟩ = some (.slice none 0 0) := HZ2.out.cell 5
 have y6 : w2.cell? ⟨w.heap.size + 1, 6, none⟩ = some (.int .i64 0) := HZ2.out.cell 6
 have y7 : w2.cell? ⟨w.heap.size + 1, 7, none⟩ = some (.int .i64 0) := HZ2.out.cell 7
 have g0 := HZ2.out.frozen 0
 have g1 := HZ2.out.frozen 1
 have g2 := HZ2.out.frozen 2
 have g3 := HZ2.out.frozen 3
 have g4 := HZ2.out.frozen 4
 have g5 := HZ2.out.frozen 5
 have g6 := HZ2.out.frozen 6
 have g7 := HZ2.out.frozen 7
 go_wp2
 go_light
 have hF := put_next (x := ⟨q, 0, .nil, 0, 0⟩) (B := none) (cap := 0) HZ2.out HB2.out (by trivial) (by simp only [word_zero]; rfl)
 refine bodyPost_ret (ret_node Tryz.results135 rfl hF.1) rfl ?_
 rw [HV.out]
 exact ⟨none, 0, rfl, hF.2.1, Nat.le_refl _, hF.2.2⟩
theorem many1 (k q : Int) (F : Trees) (P : Nat → Prop) (B : Option Addr) (cap : Nat) (w : World) (hlen : F.size ≤ 100000000) (ht : TreesAt w P F B) (h : F.len = 1) : Calls Tryz.prog 135 #[.int .i64 k, .agg #[.int .i64 q, .int .u64 0, .int .u64 0, .int .u64 0, .int .u64 0, .slice none 0 0, .int .i64 0, .int .i64 0], .slice B F.len cap] w (NewT (manyN k q F.list) w) := by
 obtain ⟨x, hx⟩ : ∃ x, F.list = [x] := List.length_eq_one_iff.1 (by rw [Trees.len_list]; exact h)
 have hg : F.list[0]? = some x := by rw [hx]; rfl
 have hxs := Trees.size_get F 0 x hg
 have hb2 : Below w.heap.size w ((w.alloc (.cells #[.int .i64 q, .int .u64 0, .int .u64 0, .int .u64 0, .int .u64 0, .slice none 0 0, .int .i64 0, .int .i64 0] 28)).alloc (.cells #[.int .i64 0, .int .u64 0, .int .u64 0, .int .u64 0, .int .u64 0, .slice none 0 0, .int .i64 0, .int .i64 0] 28)) := ((Below.refl _ _).alloc (Nat.le_refl _) _).alloc (by simp) _
 have HB2 := Lib.hid hb2
 have HX2 := Lib.hid (show Blk ((w.alloc (.cells #[.int .i64 q, .int .u64 0, .int .u64 0, .int .u64 0, .int .u64 0, .slice none 0 0, .int .i64 0, .int .i64 0] 28)).alloc (.cells #[.int .i64 0, .int .u64 0, .int .u64 0, .int .u64 0, .int .u64 0, .slice none 0 0, .int .i64 0, .int .i64 0] 28)) w.heap.size 28 #[.int .i64 q, .int .u64 0, .int .u64 0, .int .u64 0, .int .u64 0, .slice none 0 0, .int .i64 0, .int .i64 0] from (Blk.new _ _ _).alloc _)
 have HZ2 := Lib.hid (show Blk ((w.alloc (.cells #[.int .i64 q, .int .u64 0, .int .u64 0, .int .u64 0, .int .u64 0, .slice none 0 0, .int .i64 0, .int .i64 0] 28)).alloc (.cells #[.int .i64 0, .int .u64 0, .int .u64 0, .int .u64 0, .int .u64 0, .slice none 0 0, .int .i64 0, .int .i64 0] 28)) (w.heap.size + 1) 28 #[.int .i64 0, .int .u64 0, .int .u64 0, .int .u64 0, .int .u64 0, .slice none 0 0, .int .i64 0, .int .i64 0] from Blk.new_at (by simp))
 have HV := Lib.hid (show manyN k q F.list = x by rw [hx]; rfl)
 obtain ⟨b, o, C, capc, rfl, _, hck, ⟨c0, c1, c2, c3, c4, c5, c6, c7⟩, hkz⟩ := (ht.below hb2).get hg
 have hbl := World.block_lt_of_cell? _ _ c0
 have HI := Lib.hid (copy_go x P C capc _ (by omega) hkz)
 rw [h]
 clear ht hlen hb2 h hxs hx hg hkz
 unfold ndV at HI
 simp only [Nat.zero_mul, Nat.add_zero] at c0 c1 c2 c3 c4 c5 c6 c7 hbl
 go_enter Tryz.func135, Tryz.ntmps135
 go_upto_region 1 with fail
 generalize hw2 : (w.alloc (.cells #[.int .i64 q, .int .u64 0, .int .u64 0, .int .u64 0, .int .u64 0, .slice none 0 0, .int .i64 0, .int .i64 0] 28)).alloc (.cells #[.int .i64 0, .int .u64 0, .int .u64 0, .int .u64 0, .int .u64 0, .slice none 0 0, .int .i64 0, .int .i64 0] 28) = w2 at *
 go_wp2_with fail
 refine HI.out.mono ?_
 rintro e w3 ⟨B3, cap3, rfl, hb3, hc3, ht3⟩
 have hZ3 := HZ2.out.below hb3 HZ2.out.lt
 have HB3 := Lib.hid (HB2.out.trans (hb3.mono HB2.out.size))
 have HZ3 := Lib.hid hZ3
 have HT3 := Lib.hid (ht3.weak (Q := fun b => w.heap.size + 2 ≤ b) (fun b hb _ => by rw [← hw2] at hb; simpa using hb))
 have y0 : w3.cell? ⟨w.heap.size + 1, 0, none⟩ = some (.int .i64 0) := hZ3.cell 0
 have y1 : w3.cell? ⟨w.heap.size + 1, 1, none⟩ = some (.int .u64 0) := hZ3.cell 1
 have y2 : w3.cell? ⟨w.heap.size + 1, 2, none⟩ = some (.int .u64 0) := hZ3.cell 2
 have y3 : w3.cell? ⟨w.heap.size + 1, 3, none⟩ = some (.int .u64 0) := hZ3.cell 3
 have y4 : w3.cell? ⟨w.heap.size + 1, 4, none⟩ = some (.int .u64 0) := hZ3.cell 4
 have y5 : w3.cell? ⟨w.heap.size + 1, 5, none⟩ = some (.slice none 0 0) := hZ3.cell 5
 have y6 : w3.cell? ⟨w.heap.size + 1, 6, none⟩ = some (.int .i64 0) := hZ3.cell 6
 have y7 : w3.cell? ⟨w.heap.size + 1, 7, none⟩ = some (.int .i64 0) := hZ3.cell 7
 have g0 := hZ3.frozen 0
 have g1 := hZ3.frozen 1
 have g2 := hZ3.frozen 2
 have g3 := hZ3.frozen 3
 have g4 := hZ3.frozen 4
 have g5 := hZ3.frozen 5
 have g6 := hZ3.frozen 6
 have g7 := hZ3.frozen 7
 clear hZ3 ht3 hb3 HI HZ2 HB2 c0 c1 c2 c3 c4 c5 c6 c7
 dsimp only
 go_wp2
 go_light
 have hF := put_next (x := x) (B := B3) (cap := cap3) HZ3.out HB3.out HT3.out rfl
 refine bodyPost_ret (ret_node Tryz.results135 rfl hF.1) rfl ?_
 rw [HV.out]
 exact ⟨B3, cap3, rfl, hF.2.1, hc3, hF.2.2⟩
theorem many2 (k q : Int) (F : Trees) (P : Nat → Prop) (B : Option Addr) (cap : Nat) (w : World) (hlen : F.size ≤ 100000000) (ht : TreesAt w P F B) (h : 2 ≤ F.len) : Calls Tryz.prog 135 #[.int .i64 k, .agg #[.int .i64 q, .int .u64 0, .int .u64 0, .int .u64 0, .int .u64 0, .slice none 0 0, .int .i64 0, .int .i64 0], .slice B F.len cap] w (NewT (manyN k q F.list) w) := by
 have hb2 : Below w.heap.size w ((w.alloc (.cells #[.int .i64 q, .int .u64 0, .int .u64 0, .int .u64 0, .int .u64 0, .slice none 0 0, .int .i64 0, .int .i64 0] 28)).alloc (.cells #[.int .i64 0, .int .u64 0, .int .u64 0, .int .u64 0, .int .u64 0, .slice none 0 0, .int .i64 0, .int .i64 0] 28)) := ((Below.refl _ _).alloc (Nat.le_refl _) _).alloc (by simp) _
 have HB2 := Lib.hid hb2
 have HX2 := Lib.hid (show Blk ((w.alloc (.cells #[.int .i64 q, .int .u64 0, .int .u64 0, .int .u64 0, .int .u64 0, .slice none 0 0, .int .i64 0, .int .i64 0] 28)).alloc (.cells #[.int .i64 0, .int .u64 0, .int .u64 0, .int .u64 0, .int .u64 0, .slice none 0 0, .int .i64 0, .int .i64 0] 28)) w.heap.size 28 #[.int .i64 q, .int .u64 0, .int .u64 0, .int .u64 0, .int .u64 0, .slice none 0 0, .int .i64 0, .int .i64 0] from (Blk.new _ _ _).alloc _)
 have HZ2 := Lib.hid (show Blk ((w.alloc (.cells #[.int .i64 q, .int .u64 0, .int .u64 0, .int .u64 0, .int .u64 0, .slice none 0 0, .int .i64 0, .int .i64 0] 28)).alloc (.cells #[.int .i64 0, .int .u64 0, .int .u64 0, .int .u64 0, .int .u64 0, .slice none 0 0, .int .i64 0, .int .i64 0] 28)) (w.heap.size + 1) 28 #[.int .i64 0, .int .u64 0, .int .u64 0, .int .u64 0, .int .u64 0, .slice none 0 0, .int .i64 0, .int .i64 0] from Blk.new_at (by simp))
 have HV := Lib.hid (show manyN k q F.list = ⟨k, 0, F, 0, 0⟩ by rw [manyN_more k q F.list (by rw [Trees.len_list]; exact h), Trees.of_list])
 have HI := Lib.hid (copies_go F P B cap _ hlen (ht.below hb2))
 have h0 : ((F.len : Int) == 0) = false := by rw [beq_eq_false_iff_ne]; omega
 have h1 : ((F.len : Int) == 1) = false := by rw [beq_eq_false_iff_ne]; omega
 clear ht hlen hb2 h
 go_enter Tryz.func135, Tryz.ntmps135
 go_upto_region 1 with fail
 generalize hw2 : (w.alloc (.cells #[.int .i64 q, .int .u64 0, .int .u64 0, .int .u64 0, .int .u64 0, .slice none 0 0, .int .i64 0, .int .i64 0] 28)).alloc (.cells #[.int .i64 0, .int .u64 0, .int .u64 0, .int .u64 0, .int .u64 0, .slice none 0 0, .int .i64 0, .int .i64 0] 28) = w2 at *
 go_wp2_with fail
 refine HI.out.mono ?_
 rintro e w3 ⟨B3, cap3, rfl, hb3, hc3, ht3⟩
 have hZ3 := HZ2.out.below hb3 HZ2.out.lt
 have HB3 := Lib.hid (HB2.out.trans (hb3.mono HB2.out.size))
 have HZ3 := Lib.hid hZ3
 have HT3 := Lib.hid (ht3.weak (Q := fun b => w.heap.size + 2 ≤ b) (fun b hb _ => by rw [← hw2] at hb; simpa using hb))
 have y0 : w3.cell? ⟨w.heap.size + 1, 0, none⟩ = some (.int .i64 0) := hZ3.cell 0
 have y1 : w3.cell? ⟨w.heap.size + 1, 1, none⟩ = some (.int .u64 0) := hZ3.cell 1
 have y2 : w3.cell? ⟨w.heap.size + 1, 2, none⟩ = some (.int .u64 0) := hZ3.cell 2
 have y3 : w3.cell? ⟨w.heap.size + 1, 3, none⟩ = some (.int .u64 0) := hZ3.cell 3
 have y4 : w3.cell? ⟨w.heap.size + 1, 4, none⟩ = some (.int .u64 0) := hZ3.cell 4
 have y5 : w3.cell? ⟨w.heap.size + 1, 5, none⟩ = some (.slice none 0 0) := hZ3.cell 5
 have y6 : w3.cell? ⟨w.heap.size + 1, 6, none⟩ = some (.int .i64 0) := hZ3.cell 6
 have y7 : w3.cell? ⟨w.heap.size + 1, 7, none⟩ = some (.int .i64 0) := hZ3.cell 7
 have g0 := hZ3.frozen 0
 have g1 := hZ3.frozen 1
 have g2 := hZ3.frozen 2
 have g3 := hZ3.frozen 3
 have g4 := hZ3.frozen 4
 have g5 := hZ3.frozen 5
 have g6 := hZ3.frozen 6
 have g7 := hZ3.frozen 7
 clear hZ3 ht3 hb3 HI HZ2 HB2
 dsimp only
 go_wp2
 go_light
 have hF := put_next (x := ⟨k, 0, F, 0, 0⟩) (B := B3) (cap := cap3) HZ3.out HB3.out HT3.out (by simp only [word_zero]; rfl)
 refine bodyPost_ret (ret_node Tryz.results135 rfl hF.1) rfl ?_
 rw [HV.out]
 exact ⟨B3, cap3, rfl, hF.2.1, hc3, hF.2.2⟩
theorem many_any (k q : Int) (F : Trees) (P : Nat → Prop) (B : Option Addr) (cap : Nat) (w : World) (hlen : F.size ≤ 100000000) (ht : TreesAt w P F B) : Calls Tryz.prog 135 #[.int .i64 k, .agg #[.int .i64 q, .int .u64 0, .int .u64 0, .int .u64 0, .int .u64 0, .slice none 0 0, .int .i64 0, .int .i64 0], .slice B F.len cap] w (NewT (manyN k q F.list) w) := by
 rcases (by omega : F.len = 0 ∨ F.len = 1 ∨ 2 ≤ F.len) with h | h | h
 ·exact many0 k q F P B cap w hlen ht h
 ·exact many1 k q F P B cap w hlen ht h
 ·exact many2 k q F P B cap w hlen ht h
theorem tcat_any (F : Trees) (P : Nat → Prop) (B : Option Addr) (cap : Nat) (w : World) (hlen : F.size ≤ 100000000) (ht : TreesAt w P F B) :
  Calls Tryz.prog 80 #[.slice B F.len cap] w (NewT (manyN 4 2 F.list) w) := by
 have hb1 : Below w.heap.size w (w.alloc (.cells #[.int .i64 0, .int .u64 0, .int .u64 0, .int .u64 0, .int .u64 0, .slice none 0 0, .int .i64 0, .int .i64 0] 28)) := (Below.refl _ _).alloc (Nat.le_refl _) _
 have HB1 := Lib.hid hb1
 have HZ1 := Lib.hid (Blk.new w 28 #[.int .i64 0, .int .u64 0, .int .u64 0, .int .u64 0, .int .u64 0, .slice none 0 0, .int .i64 0, .int .i64 0])
 have HT1 := Lib.hid (ht.below hb1)
 clear ht hb1
 go_enter Tryz.func80, Tryz.ntmps80
 go_wp2_with fail
 refine (empty_go _).mono ?_
 rintro e w2 ⟨rfl, hb2⟩
 have HB2 := Lib.hid (HB1.out.trans (hb2.mono HB1.out.size))
 have HZ2 := Lib.hid (HZ1.out.below hb2 HZ1.out.lt)
 have HT2 := Lib.hid (HT1.out.below hb2)
 clear hb2 HB1 HZ1 HT1
 dsimp only
 go_wp2_with fail
 refine (many_any 4 2 F P B cap w2 hlen HT2.out).mono ?_
 rintro e w3 ⟨B3, cap3, rfl, hb3, hc3, ht3⟩
 have hZ3 := HZ2.out.below hb3 HZ2.out.lt
 have HB3 := Lib.hid (HB2.out.trans (hb3.mono HB2.out.size))
 have HZ3 := Lib.hid hZ3
 have HT3 := Lib.hid ht3
 have hw2 : w.heap.size + 1 ≤ w2.heap.size := HZ2.out.lt
 have y0 : w3.cell? ⟨w.heap.size, 0, none⟩ = some (.int .i64 0) := hZ3.cell 0
 have y1 : w3.cell? ⟨w.heap.size, 1, none⟩ = some (.int .u64 0) := hZ3.cell 1
 have y2 : w3.cell? ⟨w.heap.size, 2, none⟩ = some (.int .u64 0) := hZ3.cell 2
 have y3 : w3.cell? ⟨w.heap.size, 3, none⟩ = some (.int .u64 0) := hZ3.cell 3
 have y4 : w3.cell? ⟨w.heap.size, 4, none⟩ = some (.int .u64 0) := hZ3.cell 4
 have y5 : w3.cell? ⟨w.heap.size, 5, none⟩ = some (.slice none 0 0) := hZ3.cell 5
 have y6 : w3.cell? ⟨w.heap.size, 6, none⟩ = some (.int .i64 0) := hZ3.cell 6
 have y7 : w3.cell? ⟨w.heap.size, 7, none⟩ = some (.int .i64 0) := hZ3.cell 7
 have g0 := hZ3.frozen 0
 have g1 := hZ3.frozen 1
 have g2 := hZ3.frozen 2
 have g3 := hZ3.frozen 3
 have g4 := hZ3.frozen 4
 have g5 := hZ3.frozen 5
 have g6 := hZ3.frozen 6
 have g7 := hZ3.frozen 7
 clear hZ3 ht3 hb3 HZ2 HB2 HT2 hlen
 generalize manyN 4 2 F.list = x at *
 unfold ndV
 dsimp only
 go_wp2
 go_light
 have hF := flat_put (P := fun _ => False) (x := x) (B := B3) (cap := cap3) HZ3.out HB3.out (HT3.out.weak (fun b hb _ => .inr (by omega))) rfl
 exact bodyPost_ret (ret_node Tryz.results80 rfl hF.1) rfl ⟨B3, cap3, rfl, hF.2.1, hc3, hF.2.2.weak (fun b hb _ => hb.elim (fun h => h.elim) id)⟩
theorem talt_any (F : Trees) (P : Nat → Prop) (B : Option Addr) (cap : Nat) (w : World) (hlen : F.size ≤ 100000000) (ht : TreesAt w P F B) :
  Calls Tryz.prog 85 #[.slice B F.len cap] w (NewT (manyN 5 1 F.list) w) := by
 have hb1 : Below w.heap.size w (w.alloc (.cells #[.int .i64 0, .int .u64 0, .int .u64 0, .int .u64 0, .int .u64 0, .slice none 0 0, .int .i64 0, .int .i64 0] 28)) := (Below.refl _ _).alloc (Nat.le_refl _) _
 have HB1 := Lib.hid hb1
 have HZ1 := Lib.hid (Blk.new w 28 #[.int .i64 0, .int .u64 0, .int .u64 0, .int .u64 0, .int .u64 0, .slice none 0 0, .int .i64 0, .int .i64 0])
 have HT1 := Lib.hid (ht.below hb1)
 clear ht hb1
 go_enter Tryz.func85, Tryz.ntmps85
 go_wp2_with fail
 refine (none_go _).mono ?_
 rintro e w2 ⟨rfl, hb2⟩
 have HB2 := Lib.hid (HB1.out.trans (hb2.mono HB1.out.size))
 have HZ2 := Lib.hid (HZ1.out.below hb2 HZ1.out.lt)
 have HT2 := Lib.hid (HT1.out.below hb2)
 clear hb2 HB1 HZ1 HT1
 dsimp only
 go_wp2_with fail
 refine (many_any 5 1 F P B cap w2 hlen HT2.out).mono ?_
 rintro e w3 ⟨B3, cap3, rfl, hb3, hc3, ht3⟩
 have hZ3 := HZ2.out.below hb3 HZ2.out.lt
 have HB3 := Lib.hid (HB2.out.trans (hb3.mono HB2.out.size))
 have HZ3 := Lib.hid hZ3
 have HT3 := Lib.hid ht3
 have hw2 : w.heap.size + 1 ≤ w2.heap.size := HZ2.out.lt
 have y0 : w3.cell? ⟨w.heap.size, 0, none⟩ = some (.int .i64 0) := hZ3.cell 0
 have y1 : w3.cell? ⟨w.heap.size, 1, none⟩ = some (.int .u64 0) := hZ3.cell 1
 have y2 : w3.cell? ⟨w.heap.size, 2, none⟩ = some (.int .u64 0) := hZ3.cell 2
 have y3 : w3.cell? ⟨w.heap.size, 3, none⟩ = some (.int .u64 0) := hZ3.cell 3
 have y4 : w3.cell? ⟨w.heap.size, 4, none⟩ = some (.int .u64 0) := hZ3.cell 4
 have y5 : w3.cell? ⟨w.heap.size, 5, none⟩ = some (.slice none 0 0) := hZ3.cell 5
 have y6 : w3.cell? ⟨w.heap.size, 6, none⟩ = some (.int .i64 0) := hZ3.cell 6
 have y7 : w3.cell? ⟨w.heap.size, 7, none⟩ = some (.int .i64 0) := hZ3.cell 7
 have g0 := hZ3.frozen 0
 have g1 := hZ3.frozen 1
 have g2 := hZ3.frozen 2
 have g3 := hZ3.frozen 3
 have g4 := hZ3.frozen 4
 have g5 := hZ3.frozen 5
 have g6 := hZ3.frozen 6
 have g7 := hZ3.frozen 7
 clear hZ3 ht3 hb3 HZ2 HB2 HT2 hlen
 generalize manyN 5 1 F.list = x at *
 unfold ndV
 dsimp only
 go_wp2
 go_light
 have hF := flat_put (P := fun _ => False) (x := x) (B := B3) (cap := cap3) HZ3.out HB3.out (HT3.out.weak (fun b hb _ => .inr (by omega))) rfl
 exact bodyPost_ret (ret_node Tryz.results85 rfl hF.1) rfl ⟨B3, cap3, rfl, hF.2.1, hc3, hF.2.2.weak (fun b hb _ => hb.elim (fun h => h.elim) id)⟩
end Go.Proofs.YtofbfafnpdaejaaGreatDoor
