/-
  The contract of reference 05's one.
-/
import Derived.Test.YtajohcknenngnaaGreatQRRep
import Derived.Test.YtajohcknenngnaaGreatQROf
import Derived.Test.YtajohcknenngnaaGreatQRSign
import Derived.Test.YtajohcknenngnaaGreatQRefEscX
import Derived.Test.YtajohcknenngnaaGreatQRefRead
import Derived.Test.YtajohcknenngnaaGreatQEscCl
import Derived.Test.YtajohcknenngnaaGreatQZ01
namespace Go.Proofs.YtajohcknenngnaaGreat
open Go.RowKit
set_option linter.unusedSimpArgs false
set_option linter.unusedVariables false
set_option maxRecDepth 100000

theorem Blk.far24 {w : World} {g g' : Nat} {t : TypeId} {cs : Array Value} (h : Blk w g t cs) (hg : g ≠ g') (a b c d : Value) : Blk ((((w.setCell ⟨g', 2, none⟩ a).setCell ⟨g', 3, none⟩ b).setCell ⟨g', 4, none⟩ c).setCell ⟨g', 5, none⟩ d) g t cs :=
  (((h.far (p := ⟨g', 2, none⟩) hg a).far (p := ⟨g', 3, none⟩) hg b).far (p := ⟨g', 4, none⟩) hg c).far (p := ⟨g', 5, none⟩) hg d
theorem below_set24 {B g : Nat} {a w : World} (h : Below B a w) (hg : B ≤ g) (x y z u : Value) : Below B a ((((w.setCell ⟨g, 2, none⟩ x).setCell ⟨g, 3, none⟩ y).setCell ⟨g, 4, none⟩ z).setCell ⟨g, 5, none⟩ u) :=
  (((h.setCell (p := ⟨g, 2, none⟩) hg x).setCell (p := ⟨g, 3, none⟩) hg y).setCell (p := ⟨g, 4, none⟩) hg z).setCell (p := ⟨g, 5, none⟩) hg u
theorem below_more {a w : World} (h : Below a.heap.size a w) (o : Obj) : Below a.heap.size a (w.alloc o) := h.alloc h.size o
theorem rof_one (c : Nat) (hc : c < 256) (w : World) (n : Nat) (hn : n = w.heap.size) :
    Calls Tryz.prog 108 #[.slice (some ⟨n, 0, none⟩) 1 1] (w.alloc (.cells #[.int .u8 (c : Int)] 5)) fun e w' => e = .returned (.agg #[.int .u64 ((word (among [c] 1) 0 : Nat) : Int), .int .u64 ((word (among [c] 1) 1 : Nat) : Int), .int .u64 ((word (among [c] 1) 2 : Nat) : Int), .int .u64 ((word (among [c] 1) 3 : Nat) : Int)]) ∧ Below w.heap.size w w' :=
  (rof_any _ [c] 1 _ (bytes_new w n [c] _ _ hn rfl (by simp; omega) (by simp))).mono fun e w' h => ⟨h.1, ((Below.refl w.heap.size w).alloc (Nat.le_refl _) _).trans (h.2.mono (by simp))⟩

set_option maxHeartbeats 400000 in
theorem rone_dot (b o cap : Nat) (bs : List Nat) (i : Nat) (w : World) (hA : BytesAt w w.heap.size (some ⟨b, o, none⟩) bs) (h0 : i < bs.length) (hcap : bs.length ≤ cap) (h : byteAt bs i = 46) : Calls Tryz.prog 83 #[.slice (some ⟨b, o, none⟩) bs.length cap, .int .i64 (i : Int)] w fun e w' => e = .returned (oneVal (lexS bs i)) ∧ Below w.heap.size w w' := by
  have HV := Lib.hid (lexS_dot h)
  have hl := hA.2.1
  have hb256 := hA.1
  have hcell := bytesAt_cells hA i h0
  have hbl : b < w.heap.size := World.block_lt_of_cell? w _ hcell
  have n1 : b ≠ w.heap.size := Nat.ne_of_lt hbl
  have n2 : b ≠ w.heap.size + 1 := by omega
  have hdi : (i : Int) < (bs.length : Int) := by omega
  have hB := (((Below.refl w.heap.size w).alloc (Nat.le_refl _) (.cells #[.int .i64 0, .int .i64 0, .int .u64 0, .int .u64 0, .int .u64 0, .int .u64 0, .int .i64 0, .int .i64 0] 93)).alloc (by simp) (.cells #[.int .i64 0, .int .i64 0] 26)).alloc (by simp; omega) (.cells #[.int .i64 1, .int .i64 (i : Int), .int .u64 0, .int .u64 0, .int .u64 0, .int .u64 0, .int .i64 0, .int .i64 0] 93)
  have HA3 := Lib.hid ((hA.below hB).more hB.size)
  have HZ3 : Hid (Blk (((w.alloc (.cells #[.int .i64 0, .int .i64 0, .int .u64 0, .int .u64 0, .int .u64 0, .int .u64 0, .int .i64 0, .int .i64 0] 93)).alloc (.cells #[.int .i64 0, .int .i64 0] 26)).alloc (.cells #[.int .i64 1, .int .i64 (i : Int), .int .u64 0, .int .u64 0, .int .u64 0, .int .u64 0, .int .i64 0, .int .i64 0] 93)) w.heap.size 93 #[.int .i64 0, .int .i64 0, .int .u64 0, .int .u64 0, .int .u64 0, .int .u64 0, .int .i64 0, .int .i64 0]) := ((Blk.new _ _ _).alloc _).alloc _
  have HW3 : Hid (Blk (((w.alloc (.cells #[.int .i64 0, .int .i64 0, .int .u64 0, .int .u64 0, .int .u64 0, .int .u64 0, .int .i64 0, .int .i64 0] 93)).alloc (.cells #[.int .i64 0, .int .i64 0] 26)).alloc (.cells #[.int .i64 1, .int .i64 (i : Int), .int .u64 0, .int .u64 0, .int .u64 0, .int .u64 0, .int .i64 0, .int .i64 0] 93)) (w.heap.size + 1) 26 #[.int .i64 0, .int .i64 0]) := (Blk.new_at (by simp)).alloc _
  have HX3 : Hid (Blk (((w.alloc (.cells #[.int .i64 0, .int .i64 0, .int .u64 0, .int .u64 0, .int .u64 0, .int .u64 0, .int .i64 0, .int .i64 0] 93)).alloc (.cells #[.int .i64 0, .int .i64 0] 26)).alloc (.cells #[.int .i64 1, .int .i64 (i : Int), .int .u64 0, .int .u64 0, .int .u64 0, .int .u64 0, .int .i64 0, .int .i64 0] 93)) (w.heap.size + 1 + 1) 93 #[.int .i64 1, .int .i64 (i : Int), .int .u64 0, .int .u64 0, .int .u64 0, .int .u64 0, .int .i64 0, .int .i64 0]) := Blk.new_at (by simp)
  have HB3 := Lib.hid hB
  clear hB hA

  rw [h] at hcell
  clear h
  go_enter Tryz.func83, Tryz.ntmps83
  go_wp2_with fail

  refine (rdot_go _).mono ?_
  generalize (((w.alloc (.cells #[.int .i64 0, .int .i64 0, .int .u64 0, .int .u64 0, .int .u64 0, .int .u64 0, .int .i64 0, .int .i64 0] 93)).alloc (.cells #[.int .i64 0, .int .i64 0] 26)).alloc (.cells #[.int .i64 1, .int .i64 (i : Int), .int .u64 0, .int .u64 0, .int .u64 0, .int .u64 0, .int .i64 0, .int .i64 0] 93)) = w3 at *
  rintro e w4 ⟨rfl, hb4⟩
  have HZ4 := Lib.hid (HZ3.out.below hb4 HZ3.out.lt)
  have HW4 := Lib.hid (HW3.out.below hb4 HW3.out.lt)
  have HX4 := Lib.hid (HX3.out.below hb4 HX3.out.lt)
  have HB4 := Lib.hid (HB3.out.trans (hb4.mono HB3.out.size))
  clear hb4

  obtain ⟨q0, q1, q2, q3⟩ := HW4.out.c2
  have z0 := HZ4.out.cell 0
  have y0 := HZ4.out.frozen 0
  have x0 := HX4.out.cell 0
  have v0 := HX4.out.frozen 0
  have z1 := HZ4.out.cell 1
  have y1 := HZ4.out.frozen 1
  have x1 := HX4.out.cell 1
  have v1 := HX4.out.frozen 1
  have z2 := HZ4.out.cell 2
  have y2 := HZ4.out.frozen 2
  have x2 := HX4.out.cell 2
  have v2 := HX4.out.frozen 2
  have z3 := HZ4.out.cell 3
  have y3 := HZ4.out.frozen 3
  have x3 := HX4.out.cell 3
  have v3 := HX4.out.frozen 3
  have z4 := HZ4.out.cell 4
  have y4 := HZ4.out.frozen 4
  have x4 := HX4.out.cell 4
  have v4 := HX4.out.frozen 4
  have z5 := HZ4.out.cell 5
  have y5 := HZ4.out.frozen 5
  have x5 := HX4.out.cell 5
  have v5 := HX4.out.frozen 5
  have z6 := HZ4.out.cell 6
  have y6 := HZ4.out.frozen 6
  have x6 := HX4.out.cell 6
  have v6 := HX4.out.frozen 6
  have z7 := HZ4.out.cell 7
  have y7 := HZ4.out.frozen 7
  have x7 := HX4.out.cell 7
  have v7 := HX4.out.frozen 7
  have lz := HZ4.out.lt
  have lw := HW4.out.lt
  have lx := HX4.out.lt

  go_wp2
  all_goals go_light
  all_goals rw [HV.out]
  refine bodyPost_ret (ret_one Tryz.results83 rfl rfl rfl (((HZ4.out.far24 (by omega) _ _ _ _).set8 _ _ _ _ _ _ _ _).far2 (by omega) _ _) (((HW4.out.far24 (by omega) _ _ _ _).far8 (by omega) _ _ _ _ _ _ _ _).set2)) rfl ⟨rfl, (below_set2 (below_set8 (below_set24 HB4.out (by omega) _ _ _ _) (Nat.le_refl _) _ _ _ _ _ _ _ _) (by omega) _ _)⟩

set_option maxHeartbeats 1000000 in
theorem rone_rep (b o cap : Nat) (bs : List Nat) (i : Nat) (w : World) (hA : BytesAt w w.heap.size (some ⟨b, o, none⟩) bs) (h0 : i < bs.length) (hcap : bs.length ≤ cap) (h : byteAt bs i = 123) : Calls Tryz.prog 83 #[.slice (some ⟨b, o, none⟩) bs.length cap, .int .i64 (i : Int)] w fun e w' => e = .returned (oneVal (lexS bs i)) ∧ Below w.heap.size w w' := by
  have hv := lexS_rep h
  have hl := hA.2.1
  have hb256 := hA.1
  have hcell := bytesAt_cells hA i h0
  have hbl : b < w.heap.size := World.block_lt_of_cell? w _ hcell
  have n1 : b ≠ w.heap.size := Nat.ne_of_lt hbl
  have n2 : b ≠ w.heap.size + 1 := by omega
  have hdi : (i : Int) < (bs.length : Int) := by omega
  have hB := (((Below.refl w.heap.size w).alloc (Nat.le_refl _) (.cells #[.int .i64 0, .int .i64 0, .int .u64 0, .int .u64 0, .int .u64 0, .int .u64 0, .int .i64 0, .int .i64 0] 93)).alloc (by simp) (.cells #[.int .i64 0, .int .i64 0] 26)).alloc (by simp; omega) (.cells #[.int .i64 1, .int .i64 (i : Int), .int .u64 0, .int .u64 0, .int .u64 0, .int .u64 0, .int .i64 0, .int .i64 0] 93)
  have HA3 := Lib.hid ((hA.below hB).more hB.size)
  have HZ3 : Hid (Blk (((w.alloc (.cells #[.int .i64 0, .int .i64 0, .int .u64 0, .int .u64 0, .int .u64 0, .int .u64 0, .int .i64 0, .int .i64 0] 93)).alloc (.cells #[.int .i64 0, .int .i64 0] 26)).alloc (.cells #[.int .i64 1, .int .i64 (i : Int), .int .u64 0, .int .u64 0, .int .u64 0, .int .u64 0, .int .i64 0, .int .i64 0] 93)) w.heap.size 93 #[.int .i64 0, .int .i64 0, .int .u64 0, .int .u64 0, .int .u64 0, .int .u64 0, .int .i64 0, .int .i64 0]) := ((Blk.new _ _ _).alloc _).alloc _
  have HW3 : Hid (Blk (((w.alloc (.cells #[.int .i64 0, .int .i64 0, .int .u64 0, .int .u64 0, .int .u64 0, .int .u64 0, .int .i64 0, .int .i64 0] 93)).alloc (.cells #[.int .i64 0, .int .i64 0] 26)).alloc (.cells #[.int .i64 1, .int .i64 (i : Int), .int .u64 0, .int .u64 0, .int .u64 0, .int .u64 0, .int .i64 0, .int .i64 0] 93)) (w.heap.size + 1) 26 #[.int .i64 0, .int .i64 0]) := (Blk.new_at (by simp)).alloc _
  have HX3 : Hid (Blk (((w.alloc (.cells #[.int .i64 0, .int .i64 0, .int .u64 0, .int .u64 0, .int .u64 0, .int .u64 0, .int .i64 0, .int .i64 0] 93)).alloc (.cells #[.int .i64 0, .int .i64 0] 26)).alloc (.cells #[.int .i64 1, .int .i64 (i : Int), .int .u64 0, .int .u64 0, .int .u64 0, .int .u64 0, .int .i64 0, .int .i64 0] 93)) (w.heap.size + 1 + 1) 93 #[.int .i64 1, .int .i64 (i : Int), .int .u64 0, .int .u64 0, .int .u64 0, .int .u64 0, .int .i64 0, .int .i64 0]) := Blk.new_at (by simp)
  have HB3 := Lib.hid hB
  clear hB hA

  rw [h] at hcell
  clear h
  have HR := Lib.hid (rrep_go b o cap bs i _ HA3.out h0 hcap)
  cases hr : repS bs i with
  | ok x =>
    obtain ⟨x, j⟩ := x
    rw [hr] at hv
    have HV := Lib.hid hv
    have Hr := Lib.hid hr
    clear hv hr
    go_enter Tryz.func83, Tryz.ntmps83
    go_wp2_with fail
    refine HR.out.mono ?_
    generalize (((w.alloc (.cells #[.int .i64 0, .int .i64 0, .int .u64 0, .int .u64 0, .int .u64 0, .int .u64 0, .int .i64 0, .int .i64 0] 93)).alloc (.cells #[.int .i64 0, .int .i64 0] 26)).alloc (.cells #[.int .i64 1, .int .i64 (i : Int), .int .u64 0, .int .u64 0, .int .u64 0, .int .u64 0, .int .i64 0, .int .i64 0] 93)) = w3 at *
    rintro e w4 ⟨rfl, hb4⟩
    rw [Hr.out]
    unfold oneVal lexVal
    dsimp only
    have HZ4 := Lib.hid (HZ3.out.below hb4 HZ3.out.lt)
    have HW4 := Lib.hid (HW3.out.below hb4 HW3.out.lt)
    have HX4 := Lib.hid (HX3.out.below hb4 HX3.out.lt)
    have HB4 := Lib.hid (HB3.out.trans (hb4.mono HB3.out.size))
    clear hb4
    obtain ⟨q0, q1, q2, q3⟩ := HW4.out.c2
    have z0 := HZ4.out.cell 0
    have y0 := HZ4.out.frozen 0
    have x0 := HX4.out.cell 0
    have v0 := HX4.out.frozen 0
    have z1 := HZ4.out.cell 1
    have y1 := HZ4.out.frozen 1
    have x1 := HX4.out.cell 1
    have v1 := HX4.out.frozen 1
    have z2 := HZ4.out.cell 2
    have y2 := HZ4.out.frozen 2
    have x2 := HX4.out.cell 2
    have v2 := HX4.out.frozen 2
    have z3 := HZ4.out.cell 3
    have y3 := HZ4.out.frozen 3
    have x3 := HX4.out.cell 3
    have v3 := HX4.out.frozen 3
    have z4 := HZ4.out.cell 4
    have y4 := HZ4.out.frozen 4
    have x4 := HX4.out.cell 4
    have v4 := HX4.out.frozen 4
    have z5 := HZ4.out.cell 5
    have y5 := HZ4.out.frozen 5
    have x5 := HX4.out.cell 5
    have v5 := HX4.out.frozen 5
    have z6 := HZ4.out.cell 6
    have y6 := HZ4.out.frozen 6
    have x6 := HX4.out.cell 6
    have v6 := HX4.out.frozen 6
    have z7 := HZ4.out.cell 7
    have y7 := HZ4.out.frozen 7
    have x7 := HX4.out.cell 7
    have v7 := HX4.out.frozen 7
    have lz := HZ4.out.lt
    have lw := HW4.out.lt
    have lx := HX4.out.lt
    go_wp2
    all_goals go_light
    all_goals rw [HV.out]
    refine bodyPost_ret (ret_one Tryz.results83 rfl rfl rfl ((HZ4.out.set8 _ _ _ _ _ _ _ _).far2 (by omega) _ _) ((HW4.out.far8 (by omega) _ _ _ _ _ _ _ _).set2)) rfl ⟨rfl, (below_set2 (below_set8 HB4.out (Nat.le_refl _) _ _ _ _ _ _ _ _) (by omega) _ _)⟩
  | error x =>
    obtain ⟨k, q⟩ := x
    rw [hr] at hv
    have HV := Lib.hid hv
    have Hr := Lib.hid hr
    clear hv hr
    go_enter Tryz.func83, Tryz.ntmps83
    go_wp2_with fail
    refine HR.out.mono ?_
    generalize (((w.alloc (.cells #[.int .i64 0, .int .i64 0, .int .u64 0, .int .u64 0, .int .u64 0, .int .u64 0, .int .i64 0, .int .i64 0] 93)).alloc (.cells #[.int .i64 0, .int .i64 0] 26)).alloc (.cells #[.int .i64 1, .int .i64 (i : Int), .int .u64 0, .int .u64 0, .int .u64 0, .int .u64 0, .int .i64 0, .int .i64 0] 93)) = w3 at *
    rintro e w4 ⟨rfl, hb4⟩
    rw [Hr.out]
    unfold oneVal lexZero
    dsimp only
    have HZ4 := Lib.hid (HZ3.out.below hb4 HZ3.out.lt)
    have HW4 := Lib.hid (HW3.out.below hb4 HW3.out.lt)
    have HX4 := Lib.hid (HX3.out.below hb4 HX3.out.lt)
    have HB4 := Lib.hid (HB3.out.trans (hb4.mono HB3.out.size))
    clear hb4
    obtain ⟨q0, q1, q2, q3⟩ := HW4.out.c2
    have z0 := HZ4.out.cell 0
    have y0 := HZ4.out.frozen 0
    have x0 := HX4.out.cell 0
    have v0 := HX4.out.frozen 0
    have z1 := HZ4.out.cell 1
    have y1 := HZ4.out.frozen 1
    have x1 := HX4.out.cell 1
    have v1 := HX4.out.frozen 1
    have z2 := HZ4.out.cell 2
    have y2 := HZ4.out.frozen 2
    have x2 := HX4.out.cell 2
    have v2 := HX4.out.frozen 2
    have z3 := HZ4.out.cell 3
    have y3 := HZ4.out.frozen 3
    have x3 := HX4.out.cell 3
    have v3 := HX4.out.frozen 3
    have z4 := HZ4.out.cell 4
    have y4 := HZ4.out.frozen 4
    have x4 := HX4.out.cell 4
    have v4 := HX4.out.frozen 4
    have z5 := HZ4.out.cell 5
    have y5 := HZ4.out.frozen 5
    have x5 := HX4.out.cell 5
    have v5 := HX4.out.frozen 5
    have z6 := HZ4.out.cell 6
    have y6 := HZ4.out.frozen 6
    have x6 := HX4.out.cell 6
    have v6 := HX4.out.frozen 6
    have z7 := HZ4.out.cell 7
    have y7 := HZ4.out.frozen 7
    have x7 := HX4.out.cell 7
    have v7 := HX4.out.frozen 7
    have lz := HZ4.out.lt
    have lw := HW4.out.lt
    have lx := HX4.out.lt
    go_wp2
    all_goals go_light
    all_goals rw [HV.out]
    refine bodyPost_ret (ret_one Tryz.results83 rfl rfl rfl ((HZ4.out.set8 _ _ _ _ _ _ _ _).far2 (by omega) _ _) ((HW4.out.far8 (by omega) _ _ _ _ _ _ _ _).set2)) rfl ⟨rfl, (below_set2 (below_set8 HB4.out (Nat.le_refl _) _ _ _ _ _ _ _ _) (by omega) _ _)⟩
set_option maxHeartbeats 1000000 in
theorem rone_form (b o cap : Nat) (bs : List Nat) (i : Nat) (w : World) (hA : BytesAt w w.heap.size (some ⟨b, o, none⟩) bs) (h0 : i < bs.length) (hcap : bs.length ≤ cap) (h : byteAt bs i = 93 ∨ byteAt bs i = 125 ∨ byteAt bs i = 10) : Calls Tryz.prog 83 #[.slice (some ⟨b, o, none⟩) bs.length cap, .int .i64 (i : Int)] w fun e w' => e = .returned (oneVal (lexS bs i)) ∧ Below w.heap.size w w' := by
  have HV := Lib.hid (lexS_form h)
  have hl := hA.2.1
  have hb256 := hA.1
  have hcell := bytesAt_cells hA i h0
  have hbl : b < w.heap.size := World.block_lt_of_cell? w _ hcell
  have n1 : b ≠ w.heap.size := Nat.ne_of_lt hbl
  have n2 : b ≠ w.heap.size + 1 := by omega
  have hdi : (i : Int) < (bs.length : Int) := by omega
  have hB := (((Below.refl w.heap.size w).alloc (Nat.le_refl _) (.cells #[.int .i64 0, .int .i64 0, .int .u64 0, .int .u64 0, .int .u64 0, .int .u64 0, .int .i64 0, .int .i64 0] 93)).alloc (by simp) (.cells #[.int .i64 0, .int .i64 0] 26)).alloc (by simp; omega) (.cells #[.int .i64 1, .int .i64 (i : Int), .int .u64 0, .int .u64 0, .int .u64 0, .int .u64 0, .int .i64 0, .int .i64 0] 93)
  have HA3 := Lib.hid ((hA.below hB).more hB.size)
  have HZ3 : Hid (Blk (((w.alloc (.cells #[.int .i64 0, .int .i64 0, .int .u64 0, .int .u64 0, .int .u64 0, .int .u64 0, .int .i64 0, .int .i64 0] 93)).alloc (.cells #[.int .i64 0, .int .i64 0] 26)).alloc (.cells #[.int .i64 1, .int .i64 (i : Int), .int .u64 0, .int .u64 0, .int .u64 0, .int .u64 0, .int .i64 0, .int .i64 0] 93)) w.heap.size 93 #[.int .i64 0, .int .i64 0, .int .u64 0, .int .u64 0, .int .u64 0, .int .u64 0, .int .i64 0, .int .i64 0]) := ((Blk.new _ _ _).alloc _).alloc _
  have HW3 : Hid (Blk (((w.alloc (.cells #[.int .i64 0, .int .i64 0, .int .u64 0, .int .u64 0, .int .u64 0, .int .u64 0, .int .i64 0, .int .i64 0] 93)).alloc (.cells #[.int .i64 0, .int .i64 0] 26)).alloc (.cells #[.int .i64 1, .int .i64 (i : Int), .int .u64 0, .int .u64 0, .int .u64 0, .int .u64 0, .int .i64 0, .int .i64 0] 93)) (w.heap.size + 1) 26 #[.int .i64 0, .int .i64 0]) := (Blk.new_at (by simp)).alloc _
  have HX3 : Hid (Blk (((w.alloc (.cells #[.int .i64 0, .int .i64 0, .int .u64 0, .int .u64 0, .int .u64 0, .int .u64 0, .int .i64 0, .int .i64 0] 93)).alloc (.cells #[.int .i64 0, .int .i64 0] 26)).alloc (.cells #[.int .i64 1, .int .i64 (i : Int), .int .u64 0, .int .u64 0, .int .u64 0, .int .u64 0, .int .i64 0, .int .i64 0] 93)) (w.heap.size + 1 + 1) 93 #[.int .i64 1, .int .i64 (i : Int), .int .u64 0, .int .u64 0, .int .u64 0, .int .u64 0, .int .i64 0, .int .i64 0]) := Blk.new_at (by simp)
  have HB3 := Lib.hid hB
  clear hB hA

  rcases h with h | h | h
  · rw [h] at hcell
    clear h
    obtain ⟨q0, q1, q2, q3⟩ := HW3.out.c2
    have z0 := HZ3.out.cell 0
    have y0 := HZ3.out.frozen 0
    have x0 := HX3.out.cell 0
    have v0 := HX3.out.frozen 0
    have z1 := HZ3.out.cell 1
    have y1 := HZ3.out.frozen 1
    have x1 := HX3.out.cell 1
    have v1 := HX3.out.frozen 1
    have z2 := HZ3.out.cell 2
    have y2 := HZ3.out.frozen 2
    have x2 := HX3.out.cell 2
    have v2 := HX3.out.frozen 2
    have z3 := HZ3.out.cell 3
    have y3 := HZ3.out.frozen 3
    have x3 := HX3.out.cell 3
    have v3 := HX3.out.frozen 3
    have z4 := HZ3.out.cell 4
    have y4 := HZ3.out.frozen 4
    have x4 := HX3.out.cell 4
    have v4 := HX3.out.frozen 4
    have z5 := HZ3.out.cell 5
    have y5 := HZ3.out.frozen 5
    have x5 := HX3.out.cell 5
    have v5 := HX3.out.frozen 5
    have z6 := HZ3.out.cell 6
    have y6 := HZ3.out.frozen 6
    have x6 := HX3.out.cell 6
    have v6 := HX3.out.frozen 6
    have z7 := HZ3.out.cell 7
    have y7 := HZ3.out.frozen 7
    have x7 := HX3.out.cell 7
    have v7 := HX3.out.frozen 7
    have lz := HZ3.out.lt
    have lw := HW3.out.lt
    have lx := HX3.out.lt
    go_enter Tryz.func83, Tryz.ntmps83
    go_wp2_with fail
    go_wp2
    all_goals go_light
    all_goals rw [HV.out]
    refine bodyPost_ret (ret_one Tryz.results83 rfl rfl rfl (((Blk.new _ _ _).alloc _).alloc _) ((Blk.new_at (by simp)).alloc _)) rfl ⟨rfl, below_more (below_more (below_more (Below.refl _ _) _) _) _⟩
  · rw [h] at hcell
    clear h
    obtain ⟨q0, q1, q2, q3⟩ := HW3.out.c2
    have z0 := HZ3.out.cell 0
    have y0 := HZ3.out.frozen 0
    have x0 := HX3.out.cell 0
    have v0 := HX3.out.frozen 0
    have z1 := HZ3.out.cell 1
    have y1 := HZ3.out.frozen 1
    have x1 := HX3.out.cell 1
    have v1 := HX3.out.frozen 1
    have z2 := HZ3.out.cell 2
    have y2 := HZ3.out.frozen 2
    have x2 := HX3.out.cell 2
    have v2 := HX3.out.frozen 2
    have z3 := HZ3.out.cell 3
    have y3 := HZ3.out.frozen 3
    have x3 := HX3.out.cell 3
    have v3 := HX3.out.frozen 3
    have z4 := HZ3.out.cell 4
    have y4 := HZ3.out.frozen 4
    have x4 := HX3.out.cell 4
    have v4 := HX3.out.frozen 4
    have z5 := HZ3.out.cell 5
    have y5 := HZ3.out.frozen 5
    have x5 := HX3.out.cell 5
    have v5 := HX3.out.frozen 5
    have z6 := HZ3.out.cell 6
    have y6 := HZ3.out.frozen 6
    have x6 := HX3.out.cell 6
    have v6 := HX3.out.frozen 6
    have z7 := HZ3.out.cell 7
    have y7 := HZ3.out.frozen 7
    have x7 := HX3.out.cell 7
    have v7 := HX3.out.frozen 7
    have lz := HZ3.out.lt
    have lw := HW3.out.lt
    have lx := HX3.out.lt
    go_enter Tryz.func83, Tryz.ntmps83
    go_wp2_with fail
    go_wp2
    all_goals go_light
    all_goals rw [HV.out]
    refine bodyPost_ret (ret_one Tryz.results83 rfl rfl rfl (((Blk.new _ _ _).alloc _).alloc _) ((Blk.new_at (by simp)).alloc _)) rfl ⟨rfl, below_more (below_more (below_more (Below.refl _ _) _) _) _⟩
  · rw [h] at hcell
    clear h
    obtain ⟨q0, q1, q2, q3⟩ := HW3.out.c2
    have z0 := HZ3.out.cell 0
    have y0 := HZ3.out.frozen 0
    have x0 := HX3.out.cell 0
    have v0 := HX3.out.frozen 0
    have z1 := HZ3.out.cell 1
    have y1 := HZ3.out.frozen 1
    have x1 := HX3.out.cell 1
    have v1 := HX3.out.frozen 1
    have z2 := HZ3.out.cell 2
    have y2 := HZ3.out.frozen 2
    have x2 := HX3.out.cell 2
    have v2 := HX3.out.frozen 2
    have z3 := HZ3.out.cell 3
    have y3 := HZ3.out.frozen 3
    have x3 := HX3.out.cell 3
    have v3 := HX3.out.frozen 3
    have z4 := HZ3.out.cell 4
    have y4 := HZ3.out.frozen 4
    have x4 := HX3.out.cell 4
    have v4 := HX3.out.frozen 4
    have z5 := HZ3.out.cell 5
    have y5 := HZ3.out.frozen 5
    have x5 := HX3.out.cell 5
    have v5 := HX3.out.frozen 5
    have z6 := HZ3.out.cell 6
    have y6 := HZ3.out.frozen 6
    have x6 := HX3.out.cell 6
    have v6 := HX3.out.frozen 6
    have z7 := HZ3.out.cell 7
    have y7 := HZ3.out.frozen 7
    have x7 := HX3.out.cell 7
    have v7 := HX3.out.frozen 7
    have lz := HZ3.out.lt
    have lw := HW3.out.lt
    have lx := HX3.out.lt
    go_enter Tryz.func83, Tryz.ntmps83
    go_wp2_with fail
    go_wp2
    all_goals go_light
    all_goals rw [HV.out]
    refine bodyPost_ret (ret_one Tryz.results83 rfl rfl rfl (((Blk.new _ _ _).alloc _).alloc _) ((Blk.new_at (by simp)).alloc _)) rfl ⟨rfl, below_more (below_more (below_more (Below.refl _ _) _) _) _⟩

set_option maxHeartbeats 1000000 in
theorem rone_esc (b o cap : Nat) (bs : List Nat) (i : Nat) (w : World) (hA : BytesAt w w.heap.size (some ⟨b, o, none⟩) bs) (h0 : i < bs.length) (hcap : bs.length ≤ cap) (h : byteAt bs i = 92) : Calls Tryz.prog 83 #[.slice (some ⟨b, o, none⟩) bs.length cap, .int .i64 (i : Int)] w fun e w' => e = .returned (oneVal (lexS bs i)) ∧ Below w.heap.size w w' := by
  cases he : escS bs i with
  | none =>
    have HV := Lib.hid (lexS_esc_no h he)
    have HE := Lib.hid (escVal_bad h0 h he)
    have hl := hA.2.1
    have hb256 := hA.1
    have hcell := bytesAt_cells hA i h0
    have hbl : b < w.heap.size := World.block_lt_of_cell? w _ hcell
    have n1 : b ≠ w.heap.size := Nat.ne_of_lt hbl
    have n2 : b ≠ w.heap.size + 1 := by omega
    have hdi : (i : Int) < (bs.length : Int) := by omega
    have hB := (((Below.refl w.heap.size w).alloc (Nat.le_refl _) (.cells #[.int .i64 0, .int .i64 0, .int .u64 0, .int .u64 0, .int .u64 0, .int .u64 0, .int .i64 0, .int .i64 0] 93)).alloc (by simp) (.cells #[.int .i64 0, .int .i64 0] 26)).alloc (by simp; omega) (.cells #[.int .i64 1, .int .i64 (i : Int), .int .u64 0, .int .u64 0, .int .u64 0, .int .u64 0, .int .i64 0, .int .i64 0] 93)
    have HA3 := Lib.hid ((hA.below hB).more hB.size)
    have HZ3 : Hid (Blk (((w.alloc (.cells #[.int .i64 0, .int .i64 0, .int .u64 0, .int .u64 0, .int .u64 0, .int .u64 0, .int .i64 0, .int .i64 0] 93)).alloc (.cells #[.int .i64 0, .int .i64 0] 26)).alloc (.cells #[.int .i64 1, .int .i64 (i : Int), .int .u64 0, .int .u64 0, .int .u64 0, .int .u64 0, .int .i64 0, .int .i64 0] 93)) w.heap.size 93 #[.int .i64 0, .int .i64 0, .int .u64 0, .int .u64 0, .int .u64 0, .int .u64 0, .int .i64 0, .int .i64 0]) := ((Blk.new _ _ _).alloc _).alloc _
    have HW3 : Hid (Blk (((w.alloc (.cells #[.int .i64 0, .int .i64 0, .int .u64 0, .int .u64 0, .int .u64 0, .int .u64 0, .int .i64 0, .int .i64 0] 93)).alloc (.cells #[.int .i64 0, .int .i64 0] 26)).alloc (.cells #[.int .i64 1, .int .i64 (i : Int), .int .u64 0, .int .u64 0, .int .u64 0, .int .u64 0, .int .i64 0, .int .i64 0] 93)) (w.heap.size + 1) 26 #[.int .i64 0, .int .i64 0]) := (Blk.new_at (by simp)).alloc _
    have HX3 : Hid (Blk (((w.alloc (.cells #[.int .i64 0, .int .i64 0, .int .u64 0, .int .u64 0, .int .u64 0, .int .u64 0, .int .i64 0, .int .i64 0] 93)).alloc (.cells #[.int .i64 0, .int .i64 0] 26)).alloc (.cells #[.int .i64 1, .int .i64 (i : Int), .int .u64 0, .int .u64 0, .int .u64 0, .int .u64 0, .int .i64 0, .int .i64 0] 93)) (w.heap.size + 1 + 1) 93 #[.int .i64 1, .int .i64 (i : Int), .int .u64 0, .int .u64 0, .int .u64 0, .int .u64 0, .int .i64 0, .int .i64 0]) := Blk.new_at (by simp)
    have HB3 := Lib.hid hB
    clear hB hA
    rw [h] at hcell
    clear h he
    go_enter Tryz.func83, Tryz.ntmps83
    go_wp2_with fail
    refine (resc_go _ _ _ _ _ HA3.out).mono ?_
    generalize (((w.alloc (.cells #[.int .i64 0, .int .i64 0, .int .u64 0, .int .u64 0, .int .u64 0, .int .u64 0, .int .i64 0, .int .i64 0] 93)).alloc (.cells #[.int .i64 0, .int .i64 0] 26)).alloc (.cells #[.int .i64 1, .int .i64 (i : Int), .int .u64 0, .int .u64 0, .int .u64 0, .int .u64 0, .int .i64 0, .int .i64 0] 93)) = w3 at *
    rintro e w4 ⟨rfl, hb4⟩
    rw [HE.out]
    have HZ4 := Lib.hid (HZ3.out.below hb4 HZ3.out.lt)
    have HW4 := Lib.hid (HW3.out.below hb4 HW3.out.lt)
    have HX4 := Lib.hid (HX3.out.below hb4 HX3.out.lt)
    have HB4 := Lib.hid (HB3.out.trans (hb4.mono HB3.out.size))
    clear hb4
    obtain ⟨q0, q1, q2, q3⟩ := HW4.out.c2
    have z0 := HZ4.out.cell 0
    have y0 := HZ4.out.frozen 0
    have x0 := HX4.out.cell 0
    have v0 := HX4.out.frozen 0
    have z1 := HZ4.out.cell 1
    have y1 := HZ4.out.frozen 1
    have x1 := HX4.out.cell 1
    have v1 := HX4.out.frozen 1
    have z2 := HZ4.out.cell 2
    have y2 := HZ4.out.frozen 2
    have x2 := HX4.out.cell 2
    have v2 := HX4.out.frozen 2
    have z3 := HZ4.out.cell 3
    have y3 := HZ4.out.frozen 3
    have x3 := HX4.out.cell 3
    have v3 := HX4.out.frozen 3
    have z4 := HZ4.out.cell 4
    have y4 := HZ4.out.frozen 4
    have x4 := HX4.out.cell 4
    have v4 := HX4.out.frozen 4
    have z5 := HZ4.out.cell 5
    have y5 := HZ4.out.frozen 5
    have x5 := HX4.out.cell 5
    have v5 := HX4.out.frozen 5
    have z6 := HZ4.out.cell 6
    have y6 := HZ4.out.frozen 6
    have x6 := HX4.out.cell 6
    have v6 := HX4.out.frozen 6
    have z7 := HZ4.out.cell 7
    have y7 := HZ4.out.frozen 7
    have x7 := HX4.out.cell 7
    have v7 := HX4.out.frozen 7
    have lz := HZ4.out.lt
    have lw := HW4.out.lt
    have lx := HX4.out.lt
    have m1 : w.heap.size ≠ w4.heap.size := by omega
    have m2 : w.heap.size + 1 ≠ w4.heap.size := by omega
    have m3 : w.heap.size + 1 + 1 ≠ w4.heap.size := by omega
    have HZ5 := Lib.hid (HZ4.out.alloc (.cells #[.int .i64 14, .int .i64 (i : Int)] 26))
    have HW5 := Lib.hid (HW4.out.alloc (.cells #[.int .i64 14, .int .i64 (i : Int)] 26))
    have HB5 := Lib.hid (HB4.out.alloc HB4.out.size (.cells #[.int .i64 14, .int .i64 (i : Int)] 26))
    go_wp2
    go_region
    all_goals go_wp2
    all_goals go_light
    all_goals rw [HV.out]
    refine bodyPost_ret (ret_one Tryz.results83 rfl rfl rfl (((HZ4.out.set8 _ _ _ _ _ _ _ _).far2 (by omega) _ _).alloc _).drew (((HW4.out.far8 (by omega) _ _ _ _ _ _ _ _).set2).alloc _).drew) rfl ⟨rfl, (below_more (below_set2 (below_set8 HB4.out (Nat.le_refl _) _ _ _ _ _ _ _ _) (by omega) _ _) _).drew⟩
  | some x =>
    obtain ⟨c, j⟩ := x
    have hc := (escS_some hA.1 he).2.2
    have HV := Lib.hid (lexS_esc h he)
    have HE := Lib.hid (escVal_at h0 h he)
    have hl := hA.2.1
    have hb256 := hA.1
    have hcell := bytesAt_cells hA i h0
    have hbl : b < w.heap.size := World.block_lt_of_cell? w _ hcell
    have n1 : b ≠ w.heap.size := Nat.ne_of_lt hbl
    have n2 : b ≠ w.heap.size + 1 := by omega
    have hdi : (i : Int) < (bs.length : Int) := by omega
    have hB := (((Below.refl w.heap.size w).alloc (Nat.le_refl _) (.cells #[.int .i64 0, .int .i64 0, .int .u64 0, .int .u64 0, .int .u64 0, .int .u64 0, .int .i64 0, .int .i64 0] 93)).alloc (by simp) (.cells #[.int .i64 0, .int .i64 0] 26)).alloc (by simp; omega) (.cells #[.int .i64 1, .int .i64 (i : Int), .int .u64 0, .int .u64 0, .int .u64 0, .int .u64 0, .int .i64 0, .int .i64 0] 93)
    have HA3 := Lib.hid ((hA.below hB).more hB.size)
    have HZ3 : Hid (Blk (((w.alloc (.cells #[.int .i64 0, .int .i64 0, .int .u64 0, .int .u64 0, .int .u64 0, .int .u64 0, .int .i64 0, .int .i64 0] 93)).alloc (.cells #[.int .i64 0, .int .i64 0] 26)).alloc (.cells #[.int .i64 1, .int .i64 (i : Int), .int .u64 0, .int .u64 0, .int .u64 0, .int .u64 0, .int .i64 0, .int .i64 0] 93)) w.heap.size 93 #[.int .i64 0, .int .i64 0, .int .u64 0, .int .u64 0, .int .u64 0, .int .u64 0, .int .i64 0, .int .i64 0]) := ((Blk.new _ _ _).alloc _).alloc _
    have HW3 : Hid (Blk (((w.alloc (.cells #[.int .i64 0, .int .i64 0, .int .u64 0, .int .u64 0, .int .u64 0, .int .u64 0, .int .i64 0, .int .i64 0] 93)).alloc (.cells #[.int .i64 0, .int .i64 0] 26)).alloc (.cells #[.int .i64 1, .int .i64 (i : Int), .int .u64 0, .int .u64 0, .int .u64 0, .int .u64 0, .int .i64 0, .int .i64 0] 93)) (w.heap.size + 1) 26 #[.int .i64 0, .int .i64 0]) := (Blk.new_at (by simp)).alloc _
    have HX3 : Hid (Blk (((w.alloc (.cells #[.int .i64 0, .int .i64 0, .int .u64 0, .int .u64 0, .int .u64 0, .int .u64 0, .int .i64 0, .int .i64 0] 93)).alloc (.cells #[.int .i64 0, .int .i64 0] 26)).alloc (.cells #[.int .i64 1, .int .i64 (i : Int), .int .u64 0, .int .u64 0, .int .u64 0, .int .u64 0, .int .i64 0, .int .i64 0] 93)) (w.heap.size + 1 + 1) 93 #[.int .i64 1, .int .i64 (i : Int), .int .u64 0, .int .u64 0, .int .u64 0, .int .u64 0, .int .i64 0, .int .i64 0]) := Blk.new_at (by simp)
    have HB3 := Lib.hid hB
    clear hB hA
    rw [h] at hcell
    clear h he
    go_enter Tryz.func83, Tryz.ntmps83
    go_wp2_with fail
    refine (resc_go _ _ _ _ _ HA3.out).mono ?_
    generalize (((w.alloc (.cells #[.int .i64 0, .int .i64 0, .int .u64 0, .int .u64 0, .int .u64 0, .int .u64 0, .int .i64 0, .int .i64 0] 93)).alloc (.cells #[.int .i64 0, .int .i64 0] 26)).alloc (.cells #[.int .i64 1, .int .i64 (i : Int), .int .u64 0, .int .u64 0, .int .u64 0, .int .u64 0, .int .i64 0, .int .i64 0] 93)) = w3 at *
    rintro e w4 ⟨rfl, hb4⟩
    rw [HE.out]
    have HZ4 := Lib.hid (HZ3.out.below hb4 HZ3.out.lt)
    have HW4 := Lib.hid (HW3.out.below hb4 HW3.out.lt)
    have HX4 := Lib.hid (HX3.out.below hb4 HX3.out.lt)
    have HB4 := Lib.hid (HB3.out.trans (hb4.mono HB3.out.size))
    clear hb4
    have HS := Lib.hid (rof_one c hc (w4.alloc (.cells #[.int .i64 0, .int .i64 0] 26)) (w4.heap.size + 1) (by simp))
    go_wp2_with fail
    refine HS.out.mono ?_
    rintro e w5 ⟨rfl, hb5'⟩
    have hb5 : Below w4.heap.size w4 w5 := ((Below.refl w4.heap.size w4).alloc (Nat.le_refl _) _).trans (hb5'.mono (by simp))
    clear hb5'
    have HZ5 := Lib.hid (HZ4.out.below hb5 HZ4.out.lt)
    have HW5 := Lib.hid (HW4.out.below hb5 HW4.out.lt)
    have HX5 := Lib.hid (HX4.out.below hb5 HX4.out.lt)
    have HB5 := Lib.hid (HB4.out.trans (hb5.mono HB4.out.size))
    clear hb5
    obtain ⟨q0, q1, q2, q3⟩ := HW5.out.c2
    have z0 := HZ5.out.cell 0
    have y0 := HZ5.out.frozen 0
    have x0 := HX5.out.cell 0
    have v0 := HX5.out.frozen 0
    have z1 := HZ5.out.cell 1
    have y1 := HZ5.out.frozen 1
    have x1 := HX5.out.cell 1
    have v1 := HX5.out.frozen 1
    have z2 := HZ5.out.cell 2
    have y2 := HZ5.out.frozen 2
    have x2 := HX5.out.cell 2
    have v2 := HX5.out.frozen 2
    have z3 := HZ5.out.cell 3
    have y3 := HZ5.out.frozen 3
    have x3 := HX5.out.cell 3
    have v3 := HX5.out.frozen 3
    have z4 := HZ5.out.cell 4
    have y4 := HZ5.out.frozen 4
    have x4 := HX5.out.cell 4
    have v4 := HX5.out.frozen 4
    have z5 := HZ5.out.cell 5
    have y5 := HZ5.out.frozen 5
    have x5 := HX5.out.cell 5
    have v5 := HX5.out.frozen 5
    have z6 := HZ5.out.cell 6
    have y6 := HZ5.out.frozen 6
    have x6 := HX5.out.cell 6
    have v6 := HX5.out.frozen 6
    have z7 := HZ5.out.cell 7
    have y7 := HZ5.out.frozen 7
    have x7 := HX5.out.cell 7
    have v7 := HX5.out.frozen 7
    have lz := HZ5.out.lt
    have lw := HW5.out.lt
    have lx := HX5.out.lt
    go_wp2
    all_goals go_light
    all_goals rw [HV.out]
    refine bodyPost_ret (ret_one Tryz.results83 rfl rfl rfl (((HZ5.out.far24 (by omega) _ _ _ _).set8 _ _ _ _ _ _ _ _).far2 (by omega) _ _) (((HW5.out.far24 (by omega) _ _ _ _).far8 (by omega) _ _ _ _ _ _ _ _).set2)) rfl ⟨rfl, (below_set2 (below_set8 (below_set24 HB5.out (by omega) _ _ _ _) (Nat.le_refl _) _ _ _ _ _ _ _ _) (by omega) _ _)⟩
set_option maxHeartbeats 1000000 in
theorem rone_class (b o cap : Nat) (bs : List Nat) (i : Nat) (w : World) (hA : BytesAt w w.heap.size (some ⟨b, o, none⟩) bs) (h0 : i < bs.length) (hcap : bs.length ≤ cap) (h : byteAt bs i = 91) : Calls Tryz.prog 83 #[.slice (some ⟨b, o, none⟩) bs.length cap, .int .i64 (i : Int)] w fun e w' => e = .returned (oneVal (lexS bs i)) ∧ Below w.heap.size w w' := by
  have hb := hA.1
  cases he : readS bs (i : Int) with
  | error x =>
    obtain ⟨k, q⟩ := x
    have hk0 : (k != 0) = true := by rw [bne_iff_ne]; exact readS_err hb he
    have HV := Lib.hid (lexS_class_no h he)
    have HE := Lib.hid he
    have hl := hA.2.1
    have hb256 := hA.1
    have hcell := bytesAt_cells hA i h0
    have hbl : b < w.heap.size := World.block_lt_of_cell? w _ hcell
    have n1 : b ≠ w.heap.size := Nat.ne_of_lt hbl
    have n2 : b ≠ w.heap.size + 1 := by omega
    have hdi : (i : Int) < (bs.length : Int) := by omega
    have hB := (((Below.refl w.heap.size w).alloc (Nat.le_refl _) (.cells #[.int .i64 0, .int .i64 0, .int .u64 0, .int .u64 0, .int .u64 0, .int .u64 0, .int .i64 0, .int .i64 0] 93)).alloc (by simp) (.cells #[.int .i64 0, .int .i64 0] 26)).alloc (by simp; omega) (.cells #[.int .i64 1, .int .i64 (i : Int), .int .u64 0, .int .u64 0, .int .u64 0, .int .u64 0, .int .i64 0, .int .i64 0] 93)
    have HA3 := Lib.hid ((hA.below hB).more hB.size)
    have HZ3 : Hid (Blk (((w.alloc (.cells #[.int .i64 0, .int .i64 0, .int .u64 0, .int .u64 0, .int .u64 0, .int .u64 0, .int .i64 0, .int .i64 0] 93)).alloc (.cells #[.int .i64 0, .int .i64 0] 26)).alloc (.cells #[.int .i64 1, .int .i64 (i : Int), .int .u64 0, .int .u64 0, .int .u64 0, .int .u64 0, .int .i64 0, .int .i64 0] 93)) w.heap.size 93 #[.int .i64 0, .int .i64 0, .int .u64 0, .int .u64 0, .int .u64 0, .int .u64 0, .int .i64 0, .int .i64 0]) := ((Blk.new _ _ _).alloc _).alloc _
    have HW3 : Hid (Blk (((w.alloc (.cells #[.int .i64 0, .int .i64 0, .int .u64 0, .int .u64 0, .int .u64 0, .int .u64 0, .int .i64 0, .int .i64 0] 93)).alloc (.cells #[.int .i64 0, .int .i64 0] 26)).alloc (.cells #[.int .i64 1, .int .i64 (i : Int), .int .u64 0, .int .u64 0, .int .u64 0, .int .u64 0, .int .i64 0, .int .i64 0] 93)) (w.heap.size + 1) 26 #[.int .i64 0, .int .i64 0]) := (Blk.new_at (by simp)).alloc _
    have HX3 : Hid (Blk (((w.alloc (.cells #[.int .i64 0, .int .i64 0, .int .u64 0, .int .u64 0, .int .u64 0, .int .u64 0, .int .i64 0, .int .i64 0] 93)).alloc (.cells #[.int .i64 0, .int .i64 0] 26)).alloc (.cells #[.int .i64 1, .int .i64 (i : Int), .int .u64 0, .int .u64 0, .int .u64 0, .int .u64 0, .int .i64 0, .int .i64 0] 93)) (w.heap.size + 1 + 1) 93 #[.int .i64 1, .int .i64 (i : Int), .int .u64 0, .int .u64 0, .int .u64 0, .int .u64 0, .int .i64 0, .int .i64 0]) := Blk.new_at (by simp)
    have HB3 := Lib.hid hB
    clear hB hA
    rw [h] at hcell
    clear h he
    go_enter Tryz.func83, Tryz.ntmps83
    go_wp2_with fail
    refine (rread_go _ _ _ _ _ HA3.out).mono ?_
    generalize (((w.alloc (.cells #[.int .i64 0, .int .i64 0, .int .u64 0, .int .u64 0, .int .u64 0, .int .u64 0, .int .i64 0, .int .i64 0] 93)).alloc (.cells #[.int .i64 0, .int .i64 0] 26)).alloc (.cells #[.int .i64 1, .int .i64 (i : Int), .int .u64 0, .int .u64 0, .int .u64 0, .int .u64 0, .int .i64 0, .int .i64 0] 93)) = w3 at *
    rintro e w4 ⟨rfl, hb4⟩
    rw [HE.out]
    unfold classVal
    dsimp only
    have HZ4 := Lib.hid (HZ3.out.below hb4 HZ3.out.lt)
    have HW4 := Lib.hid (HW3.out.below hb4 HW3.out.lt)
    have HX4 := Lib.hid (HX3.out.below hb4 HX3.out.lt)
    have HB4 := Lib.hid (HB3.out.trans (hb4.mono HB3.out.size))
    clear hb4
    obtain ⟨q0, q1, q2, q3⟩ := HW4.out.c2
    have z0 := HZ4.out.cell 0
    have y0 := HZ4.out.frozen 0
    have x0 := HX4.out.cell 0
    have v0 := HX4.out.frozen 0
    have z1 := HZ4.out.cell 1
    have y1 := HZ4.out.frozen 1
    have x1 := HX4.out.cell 1
    have v1 := HX4.out.frozen 1
    have z2 := HZ4.out.cell 2
    have y2 := HZ4.out.frozen 2
    have x2 := HX4.out.cell 2
    have v2 := HX4.out.frozen 2
    have z3 := HZ4.out.cell 3
    have y3 := HZ4.out.frozen 3
    have x3 := HX4.out.cell 3
    have v3 := HX4.out.frozen 3
    have z4 := HZ4.out.cell 4
    have y4 := HZ4.out.frozen 4
    have x4 := HX4.out.cell 4
    have v4 := HX4.out.frozen 4
    have z5 := HZ4.out.cell 5
    have y5 := HZ4.out.frozen 5
    have x5 := HX4.out.cell 5
    have v5 := HX4.out.frozen 5
    have z6 := HZ4.out.cell 6
    have y6 := HZ4.out.frozen 6
    have x6 := HX4.out.cell 6
    have v6 := HX4.out.frozen 6
    have z7 := HZ4.out.cell 7
    have y7 := HZ4.out.frozen 7
    have x7 := HX4.out.cell 7
    have v7 := HX4.out.frozen 7
    have lz := HZ4.out.lt
    have lw := HW4.out.lt
    have lx := HX4.out.lt
    have m1 : w.heap.size ≠ w4.heap.size := by omega
    have m2 : w.heap.size + 1 ≠ w4.heap.size := by omega
    have m3 : w.heap.size + 1 + 1 ≠ w4.heap.size := by omega
    go_wp2
    go_region
    all_goals go_wp2
    all_goals go_light
    all_goals rw [HV.out]
    refine bodyPost_ret (ret_one Tryz.results83 rfl rfl rfl (((((HZ4.out.far24 (by omega) _ _ _ _).set8 _ _ _ _ _ _ _ _).far2 (by omega) _ _).alloc _).alloc _).drew (((((HW4.out.far24 (by omega) _ _ _ _).far8 (by omega) _ _ _ _ _ _ _ _).set2).alloc _).alloc _).drew) rfl ⟨rfl, (below_more (below_more (below_set2 (below_set8 (below_set24 HB4.out (by omega) _ _ _ _) (Nat.le_refl _) _ _ _ _ _ _ _ _) (by omega) _ _) _) _).drew⟩
  | ok x =>
    obtain ⟨p, j⟩ := x
    have HV := Lib.hid (lexS_class h he)
    have HE := Lib.hid he
    have hl := hA.2.1
    have hb256 := hA.1
    have hcell := bytesAt_cells hA i h0
    have hbl : b < w.heap.size := World.block_lt_of_cell? w _ hcell
    have n1 : b ≠ w.heap.size := Nat.ne_of_lt hbl
    have n2 : b ≠ w.heap.size + 1 := by omega
    have hdi : (i : Int) < (bs.length : Int) := by omega
    have hB := (((Below.refl w.heap.size w).alloc (Nat.le_refl _) (.cells #[.int .i64 0, .int .i64 0, .int .u64 0, .int .u64 0, .int .u64 0, .int .u64 0, .int .i64 0, .int .i64 0] 93)).alloc (by simp) (.cells #[.int .i64 0, .int .i64 0] 26)).alloc (by simp; omega) (.cells #[.int .i64 1, .int .i64 (i : Int), .int .u64 0, .int .u64 0, .int .u64 0, .int .u64 0, .int .i64 0, .int .i64 0] 93)
    have HA3 := Lib.hid ((hA.below hB).more hB.size)
    have HZ3 : Hid (Blk (((w.alloc (.cells #[.int .i64 0, .int .i64 0, .int .u64 0, .int .u64 0, .int .u64 0, .int .u64 0, .int .i64 0, .int .i64 0] 93)).alloc (.cells #[.int .i64 0, .int .i64 0] 26)).alloc (.cells #[.int .i64 1, .int .i64 (i : Int), .int .u64 0, .int .u64 0, .int .u64 0, .int .u64 0, .int .i64 0, .int .i64 0] 93)) w.heap.size 93 #[.int .i64 0, .int .i64 0, .int .u64 0, .int .u64 0, .int .u64 0, .int .u64 0, .int .i64 0, .int .i64 0]) := ((Blk.new _ _ _).alloc _).alloc _
    have HW3 : Hid (Blk (((w.alloc (.cells #[.int .i64 0, .int .i64 0, .int .u64 0, .int .u64 0, .int .u64 0, .int .u64 0, .int .i64 0, .int .i64 0] 93)).alloc (.cells #[.int .i64 0, .int .i64 0] 26)).alloc (.cells #[.int .i64 1, .int .i64 (i : Int), .int .u64 0, .int .u64 0, .int .u64 0, .int .u64 0, .int .i64 0, .int .i64 0] 93)) (w.heap.size + 1) 26 #[.int .i64 0, .int .i64 0]) := (Blk.new_at (by simp)).alloc _
    have HX3 : Hid (Blk (((w.alloc (.cells #[.int .i64 0, .int .i64 0, .int .u64 0, .int .u64 0, .int .u64 0, .int .u64 0, .int .i64 0, .int .i64 0] 93)).alloc (.cells #[.int .i64 0, .int .i64 0] 26)).alloc (.cells #[.int .i64 1, .int .i64 (i : Int), .int .u64 0, .int .u64 0, .int .u64 0, .int .u64 0, .int .i64 0, .int .i64 0] 93)) (w.heap.size + 1 + 1) 93 #[.int .i64 1, .int .i64 (i : Int), .int .u64 0, .int .u64 0, .int .u64 0, .int .u64 0, .int .i64 0, .int .i64 0]) := Blk.new_at (by simp)
    have HB3 := Lib.hid hB
    clear hB hA
    rw [h] at hcell
    clear h he
    go_enter Tryz.func83, Tryz.ntmps83
    go_wp2_with fail
    refine (rread_go _ _ _ _ _ HA3.out).mono ?_
    generalize (((w.alloc (.cells #[.int .i64 0, .int .i64 0, .int .u64 0, .int .u64 0, .int .u64 0, .int .u64 0, .int .i64 0, .int .i64 0] 93)).alloc (.cells #[.int .i64 0, .int .i64 0] 26)).alloc (.cells #[.int .i64 1, .int .i64 (i : Int), .int .u64 0, .int .u64 0, .int .u64 0, .int .u64 0, .int .i64 0, .int .i64 0] 93)) = w3 at *
    rintro e w4 ⟨rfl, hb4⟩
    rw [HE.out]
    unfold classVal
    dsimp only
    have HZ4 := Lib.hid (HZ3.out.below hb4 HZ3.out.lt)
    have HW4 := Lib.hid (HW3.out.below hb4 HW3.out.lt)
    have HX4 := Lib.hid (HX3.out.below hb4 HX3.out.lt)
    have HB4 := Lib.hid (HB3.out.trans (hb4.mono HB3.out.size))
    clear hb4
    obtain ⟨q0, q1, q2, q3⟩ := HW4.out.c2
    have z0 := HZ4.out.cell 0
    have y0 := HZ4.out.frozen 0
    have x0 := HX4.out.cell 0
    have v0 := HX4.out.frozen 0
    have z1 := HZ4.out.cell 1
    have y1 := HZ4.out.frozen 1
    have x1 := HX4.out.cell 1
    have v1 := HX4.out.frozen 1
    have z2 := HZ4.out.cell 2
    have y2 := HZ4.out.frozen 2
    have x2 := HX4.out.cell 2
    have v2 := HX4.out.frozen 2
    have z3 := HZ4.out.cell 3
    have y3 := HZ4.out.frozen 3
    have x3 := HX4.out.cell 3
    have v3 := HX4.out.frozen 3
    have z4 := HZ4.out.cell 4
    have y4 := HZ4.out.frozen 4
    have x4 := HX4.out.cell 4
    have v4 := HX4.out.frozen 4
    have z5 := HZ4.out.cell 5
    have y5 := HZ4.out.frozen 5
    have x5 := HX4.out.cell 5
    have v5 := HX4.out.frozen 5
    have z6 := HZ4.out.cell 6
    have y6 := HZ4.out.frozen 6
    have x6 := HX4.out.cell 6
    have v6 := HX4.out.frozen 6
    have z7 := HZ4.out.cell 7
    have y7 := HZ4.out.frozen 7
    have x7 := HX4.out.cell 7
    have v7 := HX4.out.frozen 7
    have lz := HZ4.out.lt
    have lw := HW4.out.lt
    have lx := HX4.out.lt
    have m1 : w.heap.size ≠ w4.heap.size := by omega
    have m2 : w.heap.size + 1 ≠ w4.heap.size := by omega
    have m3 : w.heap.size + 1 + 1 ≠ w4.heap.size := by omega
    go_wp2
    all_goals go_light
    all_goals rw [HV.out]
    refine bodyPost_ret (ret_one Tryz.results83 rfl rfl rfl (((((HZ4.out.far24 (by omega) _ _ _ _).set8 _ _ _ _ _ _ _ _).far2 (by omega) _ _).alloc _).alloc _) (((((HW4.out.far24 (by omega) _ _ _ _).far8 (by omega) _ _ _ _ _ _ _ _).set2).alloc _).alloc _)) rfl ⟨rfl, (below_more (below_more (below_set2 (below_set8 (below_set24 HB4.out (by omega) _ _ _ _) (Nat.le_refl _) _ _ _ _ _ _ _ _) (by omega) _ _) _) _)⟩
set_option maxHeartbeats 1000000 in
theorem rone_own (b o cap : Nat) (bs : List Nat) (i : Nat) (w : World) (hA : BytesAt w w.heap.size (some ⟨b, o, none⟩) bs) (h0 : i < bs.length) (hcap : bs.length ≤ cap) (hC : Common (byteAt bs i)) (hk : signKind (byteAt bs i) = 0) : Calls Tryz.prog 83 #[.slice (some ⟨b, o, none⟩) bs.length cap, .int .i64 (i : Int)] w fun e w' => e = .returned (oneVal (lexS bs i)) ∧ Below w.heap.size w w' := by
  have HV := Lib.hid (lexS_own hC hk)
  have hl := hA.2.1
  have hb256 := hA.1
  have hcell := bytesAt_cells hA i h0
  have hbl : b < w.heap.size := World.block_lt_of_cell? w _ hcell
  have n1 : b ≠ w.heap.size := Nat.ne_of_lt hbl
  have n2 : b ≠ w.heap.size + 1 := by omega
  have hdi : (i : Int) < (bs.length : Int) := by omega
  have hB := (((Below.refl w.heap.size w).alloc (Nat.le_refl _) (.cells #[.int .i64 0, .int .i64 0, .int .u64 0, .int .u64 0, .int .u64 0, .int .u64 0, .int .i64 0, .int .i64 0] 93)).alloc (by simp) (.cells #[.int .i64 0, .int .i64 0] 26)).alloc (by simp; omega) (.cells #[.int .i64 1, .int .i64 (i : Int), .int .u64 0, .int .u64 0, .int .u64 0, .int .u64 0, .int .i64 0, .int .i64 0] 93)
  have HA3 := Lib.hid ((hA.below hB).more hB.size)
  have HZ3 : Hid (Blk (((w.alloc (.cells #[.int .i64 0, .int .i64 0, .int .u64 0, .int .u64 0, .int .u64 0, .int .u64 0, .int .i64 0, .int .i64 0] 93)).alloc (.cells #[.int .i64 0, .int .i64 0] 26)).alloc (.cells #[.int .i64 1, .int .i64 (i : Int), .int .u64 0, .int .u64 0, .int .u64 0, .int .u64 0, .int .i64 0, .int .i64 0] 93)) w.heap.size 93 #[.int .i64 0, .int .i64 0, .int .u64 0, .int .u64 0, .int .u64 0, .int .u64 0, .int .i64 0, .int .i64 0]) := ((Blk.new _ _ _).alloc _).alloc _
  have HW3 : Hid (Blk (((w.alloc (.cells #[.int .i64 0, .int .i64 0, .int .u64 0, .int .u64 0, .int .u64 0, .int .u64 0, .int .i64 0, .int .i64 0] 93)).alloc (.cells #[.int .i64 0, .int .i64 0] 26)).alloc (.cells #[.int .i64 1, .int .i64 (i : Int), .int .u64 0, .int .u64 0, .int .u64 0, .int .u64 0, .int .i64 0, .int .i64 0] 93)) (w.heap.size + 1) 26 #[.int .i64 0, .int .i64 0]) := (Blk.new_at (by simp)).alloc _
  have HX3 : Hid (Blk (((w.alloc (.cells #[.int .i64 0, .int .i64 0, .int .u64 0, .int .u64 0, .int .u64 0, .int .u64 0, .int .i64 0, .int .i64 0] 93)).alloc (.cells #[.int .i64 0, .int .i64 0] 26)).alloc (.cells #[.int .i64 1, .int .i64 (i : Int), .int .u64 0, .int .u64 0, .int .u64 0, .int .u64 0, .int .i64 0, .int .i64 0] 93)) (w.heap.size + 1 + 1) 93 #[.int .i64 1, .int .i64 (i : Int), .int .u64 0, .int .u64 0, .int .u64 0, .int .u64 0, .int .i64 0, .int .i64 0]) := Blk.new_at (by simp)
  have HB3 := Lib.hid hB
  clear hB hA

  obtain ⟨h1, h2, h3, h4, h5, h6, h7⟩ := hC
  have hc256 := byteAt_lt hb256 i
  generalize byteAt bs i = c at *
  have b1 : ((c : Int) == 46) = false := by simp; omega
  have b2 : ((c : Int) == 92) = false := by simp; omega
  have b3 : ((c : Int) == 91) = false := by simp; omega
  have b4 : ((c : Int) == 123) = false := by simp; omega
  have b5 : ((c : Int) == 93) = false := by simp; omega
  have b6 : ((c : Int) == 125) = false := by simp; omega
  have b7 : ((c : Int) == 10) = false := by simp; omega
  clear h1 h2 h3 h4 h5 h6 h7

  have Hk := Lib.hid hk
  clear hk
  go_enter Tryz.func83, Tryz.ntmps83
  go_wp2_with fail

  refine (rsign_go c _ hc256).mono ?_
  have HS := Lib.hid (rof_one c hc256 (((w.alloc (.cells #[.int .i64 0, .int .i64 0, .int .u64 0, .int .u64 0, .int .u64 0, .int .u64 0, .int .i64 0, .int .i64 0] 93)).alloc (.cells #[.int .i64 0, .int .i64 0] 26)).alloc (.cells #[.int .i64 1, .int .i64 (i : Int), .int .u64 0, .int .u64 0, .int .u64 0, .int .u64 0, .int .i64 0, .int .i64 0] 93)) _ rfl)
  generalize (((w.alloc (.cells #[.int .i64 0, .int .i64 0, .int .u64 0, .int .u64 0, .int .u64 0, .int .u64 0, .int .i64 0, .int .i64 0] 93)).alloc (.cells #[.int .i64 0, .int .i64 0] 26)).alloc (.cells #[.int .i64 1, .int .i64 (i : Int), .int .u64 0, .int .u64 0, .int .u64 0, .int .u64 0, .int .i64 0, .int .i64 0] 93)) = w3 at *
  rintro e w4 ⟨rfl, rfl⟩
  rw [Hk.out]
  go_wp2_with fail
  refine HS.out.mono ?_
  rintro e w5 ⟨rfl, hb5⟩
  have HZ5 := Lib.hid (HZ3.out.below hb5 HZ3.out.lt)
  have HW5 := Lib.hid (HW3.out.below hb5 HW3.out.lt)
  have HX5 := Lib.hid (HX3.out.below hb5 HX3.out.lt)
  have HB5 := Lib.hid (HB3.out.trans (hb5.mono HB3.out.size))
  clear hb5

  obtain ⟨q0, q1, q2, q3⟩ := HW5.out.c2
  have z0 := HZ5.out.cell 0
  have y0 := HZ5.out.frozen 0
  have x0 := HX5.out.cell 0
  have v0 := HX5.out.frozen 0
  have z1 := HZ5.out.cell 1
  have y1 := HZ5.out.frozen 1
  have x1 := HX5.out.cell 1
  have v1 := HX5.out.frozen 1
  have z2 := HZ5.out.cell 2
  have y2 := HZ5.out.frozen 2
  have x2 := HX5.out.cell 2
  have v2 := HX5.out.frozen 2
  have z3 := HZ5.out.cell 3
  have y3 := HZ5.out.frozen 3
  have x3 := HX5.out.cell 3
  have v3 := HX5.out.frozen 3
  have z4 := HZ5.out.cell 4
  have y4 := HZ5.out.frozen 4
  have x4 := HX5.out.cell 4
  have v4 := HX5.out.frozen 4
  have z5 := HZ5.out.cell 5
  have y5 := HZ5.out.frozen 5
  have x5 := HX5.out.cell 5
  have v5 := HX5.out.frozen 5
  have z6 := HZ5.out.cell 6
  have y6 := HZ5.out.frozen 6
  have x6 := HX5.out.cell 6
  have v6 := HX5.out.frozen 6
  have z7 := HZ5.out.cell 7
  have y7 := HZ5.out.frozen 7
  have x7 := HX5.out.cell 7
  have v7 := HX5.out.frozen 7
  have lz := HZ5.out.lt
  have lw := HW5.out.lt
  have lx := HX5.out.lt

  go_wp2
  all_goals go_light
  all_goals rw [HV.out]
  refine bodyPost_ret (ret_one Tryz.results83 rfl rfl rfl (((HZ5.out.far24 (by omega) _ _ _ _).set8 _ _ _ _ _ _ _ _).far2 (by omega) _ _) (((HW5.out.far24 (by omega) _ _ _ _).far8 (by omega) _ _ _ _ _ _ _ _).set2)) rfl ⟨rfl, (below_set2 (below_set8 (below_set24 HB5.out (by omega) _ _ _ _) (Nat.le_refl _) _ _ _ _ _ _ _ _) (by omega) _ _)⟩

set_option maxHeartbeats 1000000 in
theorem rone_sign (b o cap : Nat) (bs : List Nat) (i : Nat) (w : World) (hA : BytesAt w w.heap.size (some ⟨b, o, none⟩) bs) (h0 : i < bs.length) (hcap : bs.length ≤ cap) (hC : Common (byteAt bs i)) (hk : signKind (byteAt bs i) ≠ 0) : Calls Tryz.prog 83 #[.slice (some ⟨b, o, none⟩) bs.length cap, .int .i64 (i : Int)] w fun e w' => e = .returned (oneVal (lexS bs i)) ∧ Below w.heap.size w w' := by
  have HV := Lib.hid (lexS_sign hC hk)
  have hl := hA.2.1
  have hb256 := hA.1
  have hcell := bytesAt_cells hA i h0
  have hbl : b < w.heap.size := World.block_lt_of_cell? w _ hcell
  have n1 : b ≠ w.heap.size := Nat.ne_of_lt hbl
  have n2 : b ≠ w.heap.size + 1 := by omega
  have hdi : (i : Int) < (bs.length : Int) := by omega
  have hB := (((Below.refl w.heap.size w).alloc (Nat.le_refl _) (.cells #[.int .i64 0, .int .i64 0, .int .u64 0, .int .u64 0, .int .u64 0, .int .u64 0, .int .i64 0, .int .i64 0] 93)).alloc (by simp) (.cells #[.int .i64 0, .int .i64 0] 26)).alloc (by simp; omega) (.cells #[.int .i64 1, .int .i64 (i : Int), .int .u64 0, .int .u64 0, .int .u64 0, .int .u64 0, .int .i64 0, .int .i64 0] 93)
  have HA3 := Lib.hid ((hA.below hB).more hB.size)
  have HZ3 : Hid (Blk (((w.alloc (.cells #[.int .i64 0, .int .i64 0, .int .u64 0, .int .u64 0, .int .u64 0, .int .u64 0, .int .i64 0, .int .i64 0] 93)).alloc (.cells #[.int .i64 0, .int .i64 0] 26)).alloc (.cells #[.int .i64 1, .int .i64 (i : Int), .int .u64 0, .int .u64 0, .int .u64 0, .int .u64 0, .int .i64 0, .int .i64 0] 93)) w.heap.size 93 #[.int .i64 0, .int .i64 0, .int .u64 0, .int .u64 0, .int .u64 0, .int .u64 0, .int .i64 0, .int .i64 0]) := ((Blk.new _ _ _).alloc _).alloc _
  have HW3 : Hid (Blk (((w.alloc (.cells #[.int .i64 0, .int .i64 0, .int .u64 0, .int .u64 0, .int .u64 0, .int .u64 0, .int .i64 0, .int .i64 0] 93)).alloc (.cells #[.int .i64 0, .int .i64 0] 26)).alloc (.cells #[.int .i64 1, .int .i64 (i : Int), .int .u64 0, .int .u64 0, .int .u64 0, .int .u64 0, .int .i64 0, .int .i64 0] 93)) (w.heap.size + 1) 26 #[.int .i64 0, .int .i64 0]) := (Blk.new_at (by simp)).alloc _
  have HX3 : Hid (Blk (((w.alloc (.cells #[.int .i64 0, .int .i64 0, .int .u64 0, .int .u64 0, .int .u64 0, .int .u64 0, .int .i64 0, .int .i64 0] 93)).alloc (.cells #[.int .i64 0, .int .i64 0] 26)).alloc (.cells #[.int .i64 1, .int .i64 (i : Int), .int .u64 0, .int .u64 0, .int .u64 0, .int .u64 0, .int .i64 0, .int .i64 0] 93)) (w.heap.size + 1 + 1) 93 #[.int .i64 1, .int .i64 (i : Int), .int .u64 0, .int .u64 0, .int .u64 0, .int .u64 0, .int .i64 0, .int .i64 0]) := Blk.new_at (by simp)
  have HB3 := Lib.hid hB
  clear hB hA

  obtain ⟨h1, h2, h3, h4, h5, h6, h7⟩ := hC
  have hc256 := byteAt_lt hb256 i
  generalize byteAt bs i = c at *
  have b1 : ((c : Int) == 46) = false := by simp; omega
  have b2 : ((c : Int) == 92) = false := by simp; omega
  have b3 : ((c : Int) == 91) = false := by simp; omega
  have b4 : ((c : Int) == 123) = false := by simp; omega
  have b5 : ((c : Int) == 93) = false := by simp; omega
  have b6 : ((c : Int) == 125) = false := by simp; omega
  have b7 : ((c : Int) == 10) = false := by simp; omega
  clear h1 h2 h3 h4 h5 h6 h7

  obtain ⟨q0, q1, q2, q3⟩ := HW3.out.c2
  have z0 := HZ3.out.cell 0
  have y0 := HZ3.out.frozen 0
  have x0 := HX3.out.cell 0
  have v0 := HX3.out.frozen 0
  have z1 := HZ3.out.cell 1
  have y1 := HZ3.out.frozen 1
  have x1 := HX3.out.cell 1
  have v1 := HX3.out.frozen 1
  have z2 := HZ3.out.cell 2
  have y2 := HZ3.out.frozen 2
  have x2 := HX3.out.cell 2
  have v2 := HX3.out.frozen 2
  have z3 := HZ3.out.cell 3
  have y3 := HZ3.out.frozen 3
  have x3 := HX3.out.cell 3
  have v3 := HX3.out.frozen 3
  have z4 := HZ3.out.cell 4
  have y4 := HZ3.out.frozen 4
  have x4 := HX3.out.cell 4
  have v4 := HX3.out.frozen 4
  have z5 := HZ3.out.cell 5
  have y5 := HZ3.out.frozen 5
  have x5 := HX3.out.cell 5
  have v5 := HX3.out.frozen 5
  have z6 := HZ3.out.cell 6
  have y6 := HZ3.out.frozen 6
  have x6 := HX3.out.cell 6
  have v6 := HX3.out.frozen 6
  have z7 := HZ3.out.cell 7
  have y7 := HZ3.out.frozen 7
  have x7 := HX3.out.cell 7
  have v7 := HX3.out.frozen 7
  have lz := HZ3.out.lt
  have lw := HW3.out.lt
  have lx := HX3.out.lt

  have HS := Lib.hid (rsign_go c (((w.alloc (.cells #[.int .i64 0, .int .i64 0, .int .u64 0, .int .u64 0, .int .u64 0, .int .u64 0, .int .i64 0, .int .i64 0] 93)).alloc (.cells #[.int .i64 0, .int .i64 0] 26)).alloc (.cells #[.int .i64 1, .int .i64 (i : Int), .int .u64 0, .int .u64 0, .int .u64 0, .int .u64 0, .int .i64 0, .int .i64 0] 93)) hc256)
  generalize signKind c = k at *
  have hk0 : (k != 0) = true := by rw [bne_iff_ne]; exact hk
  clear hk
  go_enter Tryz.func83, Tryz.ntmps83
  go_wp2_with fail

  refine HS.out.mono ?_
  generalize (((w.alloc (.cells #[.int .i64 0, .int .i64 0, .int .u64 0, .int .u64 0, .int .u64 0, .int .u64 0, .int .i64 0, .int .i64 0] 93)).alloc (.cells #[.int .i64 0, .int .i64 0] 26)).alloc (.cells #[.int .i64 1, .int .i64 (i : Int), .int .u64 0, .int .u64 0, .int .u64 0, .int .u64 0, .int .i64 0, .int .i64 0] 93)) = w3 at *
  rintro e w4 ⟨rfl, rfl⟩
  go_wp2_with fail
  refine HS.out.mono ?_
  rintro e w4 ⟨rfl, rfl⟩
  go_wp2
  all_goals go_light
  all_goals rw [HV.out]
  refine bodyPost_ret (ret_one Tryz.results83 rfl rfl rfl ((HZ3.out.set8 _ _ _ _ _ _ _ _).far2 (by omega) _ _) ((HW3.out.far8 (by omega) _ _ _ _ _ _ _ _).set2)) rfl ⟨by unfold oneVal; dsimp only; rw [lexVal_no]; rfl, (below_set2 (below_set8 HB3.out (Nat.le_refl _) _ _ _ _ _ _ _ _) (by omega) _ _)⟩

theorem rone_go (b o cap : Nat) (bs : List Nat) (i : Nat) (w : World) (hA : BytesAt w w.heap.size (some ⟨b, o, none⟩) bs) (h0 : i < bs.length) (hcap : bs.length ≤ cap) : Calls Tryz.prog 83 #[.slice (some ⟨b, o, none⟩) bs.length cap, .int .i64 (i : Int)] w fun e w' => e = .returned (oneVal (lexS bs i)) ∧ Below w.heap.size w w' := by
  by_cases h1 : byteAt bs i = 46
  · exact rone_dot b o cap bs i w hA h0 hcap h1
  by_cases h2 : byteAt bs i = 92
  · exact rone_esc b o cap bs i w hA h0 hcap h2
  by_cases h3 : byteAt bs i = 91
  · exact rone_class b o cap bs i w hA h0 hcap h3
  by_cases h4 : byteAt bs i = 123
  · exact rone_rep b o cap bs i w hA h0 hcap h4
  by_cases h5 : byteAt bs i = 93 ∨ byteAt bs i = 125 ∨ byteAt bs i = 10
  · exact rone_form b o cap bs i w hA h0 hcap h5
  have hC : Common (byteAt bs i) := ⟨h1, h2, h3, h4, fun e => h5 (Or.inl e), fun e => h5 (Or.inr (Or.inl e)), fun e => h5 (Or.inr (Or.inr e))⟩
  by_cases h6 : signKind (byteAt bs i) = 0
  · exact rone_own b o cap bs i w hA h0 hcap hC h6
  · exact rone_sign b o cap bs i w hA h0 hcap hC h6

end Go.Proofs.YtajohcknenngnaaGreat
