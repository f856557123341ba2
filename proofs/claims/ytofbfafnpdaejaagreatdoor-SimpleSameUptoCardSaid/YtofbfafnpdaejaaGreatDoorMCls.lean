/- Texts of the claim. -/
import Derived.Deep.DeepCutAuto
import Derived.Test.YtofbfafnpdaejaaGreatDoorMEscCl
set_option linter.all false
set_option maxRecDepth 100000
set_option maxHeartbeats 8000000
namespace Go.Proofs.YtofbfafnpdaejaaGreatDoor
open Go.RowKit
theorem sclass_ok (S b o cap : Nat) (bs : List Nat) (i : Nat) (p : Nat → Bool) (j' : Nat) (v : Value) (N : Nat) (L : List Lex) (W : World) (hS : Spl W S b o bs.length cap i v 0 0) (hrow : W.ownsRow N 143 8 v L.length (lexCells L)) (hN : N ≤ S) (hL : L.length ≤ 100000)
  (hA : BytesAt W N (some ⟨b, o, none⟩) bs) (hv : readS bs i = .ok (p, j')) :
  Calls Tryz.prog 191 #[.pointer (some ⟨S, 0, none⟩)] W (Took S b o bs.length cap N L ⟨1, i, p, 0, 0⟩ (j' : Int) 0 0 W) := by
 have hE := fun w hA => read_go (some ⟨b, o, none⟩) cap bs (i : Int) w hA
 rw [hv] at hE
 unfold classVal at hE
 dsimp only at hE
 have HE := Lib.hid hE
 clear hE hv
 obtain ⟨s0, s1, s2, s3, s4, f0, f1, f2, f3, f4⟩ := hS.cells
 have hlt := Blk.lt hS
 have hNW : N ≤ W.heap.size := by omega
 have HS := Lib.hid hS
 have Hrow := Lib.hid hrow
 have HA := Lib.hid hA
 clear hS hrow hA
 go_enter Tryz.func191, Tryz.ntmps191
 go_upto_region 1 with fail
 go_cut [2, 3, 4] (fun u2 u3 u4 wx => ∃ g2 g4 : Nat, u2 = .pointer (some ⟨g2, 0, none⟩) ∧ u3 = .int .i64 j' ∧ u4 = .pointer (some ⟨g4, 0, none⟩) ∧
  (wx.cell? ⟨g2, 0, none⟩ = some (.int .u64 (word p 0)) ∧ wx.cell? ⟨g2, 1, none⟩ = some (.int .u64 (word p 1)) ∧ wx.cell? ⟨g2, 2, none⟩ = some (.int .u64 (word p 2)) ∧ wx.cell? ⟨g2, 3, none⟩ = some (.int .u64 (word p 3))) ∧
  (wx.cell? ⟨g4, 0, none⟩ = some (.int .i64 0) ∧ wx.cell? ⟨g4, 1, none⟩ = some (.int .i64 0)) ∧ Since W.heap.size W wx)
 case first =>
  go_wp2_with fail
  go_region_held3 (fun w' => (∀ b o, b < W.heap.size → w'.cell? ⟨b, o, none⟩ = W.cell? ⟨b, o, none⟩) ∧ Since W.heap.size W w') (repeat (first | (with_reducible exact HK.out) | (with_reducible exact since_start (Nat.le_refl _)) | (with_reducible exact since_refl (Nat.le_refl _)) | (with_reducible refine since_drew ?_) | (with_reducible refine since_alloc ?_ _) | (with_reducible refine since_set ?_ (by simp) _)))
   (first | (go_at_call 227; refine (HE.out _ (bytes_since (by assumption) HA.out hNW)).mono ?_; rintro e w' ⟨rfl, hb'⟩; have hK := since_step (by assumption) hb'; have HK := Lib.hid hK; clear hK; first | (have hb2 : Below (((W.alloc (.cells #[.int .u64 0, .int .u64 0, .int .u64 0, .int .u64 0] 25)).alloc (.cells #[.int .i64 0, .int .i64 0] 77)).drew).heap.size (((W.alloc (.cells #[.int .u64 0, .int .u64 0, .int .u64 0, .int .u64 0] 25)).alloc (.cells #[.int .i64 0, .int .i64 0] 77)).drew) w' := (by with_reducible exact hb'); have hx2 := Blk.below (w := ((W.alloc (.cells #[.int .u64 0, .int .u64 0, .int .u64 0, .int .u64 0] 25)).alloc (.cells #[.int .i64 0, .int .i64 0] 77)).drew) ((Blk.new W 25 #[.int .u64 0, .int .u64 0, .int .u64 0, .int .u64 0]).alloc _) hb2 (by simp; omega); have hx4 := Blk.below (w := ((W.alloc (.cells #[.int .u64 0, .int .u64 0, .int .u64 0, .int .u64 0] 25)).alloc (.cells #[.int .i64 0, .int .i64 0] 77)).drew) (t := 77) (cs := #[.int .i64 0, .int .i64 0]) (g := W.heap.size + 1) (Blk.new_at (by simp)) hb2 (by simp); obtain ⟨c0, c1, c2, c3, d0, d1, d2, d3⟩ := hx2.c4; obtain ⟨e0, e1, e2, e3⟩ := hx4.c2; clear hx2 hx4 hb2) | (have hb2 : Below (((W.alloc (.cells #[.int .i64 0, .int .i64 0] 77)).alloc (.cells #[.int .u64 0, .int .u64 0, .int .u64 0, .int .u64 0] 25)).drew).heap.size (((W.alloc (.cells #[.int .i64 0, .int .i64 0] 77)).alloc (.cells #[.int .u64 0, .int .u64 0, .int .u64 0, .int .u64 0] 25)).drew) w' := (by with_reducible exact hb'); have hx4 := Blk.below (w := ((W.alloc (.cells #[.int .i64 0, .int .i64 0] 77)).alloc (.cells #[.int .u64 0, .int .u64 0, .int .u64 0, .int .u64 0] 25)).drew) ((Blk.new W 77 #[.int .i64 0, .int .i64 0]).alloc _) hb2 (by simp; omega); have hx2 := Blk.below (w := ((W.alloc (.cells #[.int .i64 0, .int .i64 0] 77)).alloc (.cells #[.int .u64 0, .int .u64 0, .int .u64 0, .int .u64 0] 25)).drew) (t := 25) (cs := #[.int .u64 0, .int .u64 0, .int .u64 0, .int .u64 0]) (g := W.heap.size + 1) (Blk.new_at (by simp)) hb2 (by simp); obtain ⟨c0, c1, c2, c3, d0, d1, d2, d3⟩ := hx2.c4; obtain ⟨e0, e1, e2, e3⟩ := hx4.c2; clear hx2 hx4 hb2) | (have hb2 : Below ((W.alloc (.cells #[.int .u64 0, .int .u64 0, .int .u64 0, .int .u64 0] 25)).drew).heap.size ((W.alloc (.cells #[.int .u64 0, .int .u64 0, .int .u64 0, .int .u64 0] 25)).drew) w' := (by with_reducible exact hb'); have hx2 := Blk.below (w := (W.alloc (.cells #[.int .u64 0, .int .u64 0, .int .u64 0, .int .u64 0] 25)).drew) (Blk.new W 25 #[.int .u64 0, .int .u64 0, .int .u64 0, .int .u64 0]) hb2 (by simp); obtain ⟨c0, c1, c2, c3, d0, d1, d2, d3⟩ := hx2.c4; have lt1 : W.heap.size < w'.heap.size := hx2.lt; have ne1 : W.heap.size ≠ w'.heap.size := Nat.ne_of_lt lt1; have ne2 : w'.heap.size ≠ W.heap.size := Ne.symm ne1; clear hx2 hb2) | (have hb2 : Below ((W.alloc (.cells #[.int .i64 0, .int .i64 0] 77)).drew).heap.size ((W.alloc (.cells #[.int .i64 0, .int .i64 0] 77)).drew) w' := (by with_reducible exact hb'); have hx4 := Blk.below (w := (W.alloc (.cells #[.int .i64 0, .int .i64 0] 77)).drew) (Blk.new W 77 #[.int .i64 0, .int .i64 0]) hb2 (by simp); obtain ⟨e0, e1, e2, e3⟩ := hx4.c2; have lt1 : W.heap.size < w'.heap.size := hx4.lt; have ne1 : W.heap.size ≠ w'.heap.size := Nat.ne_of_lt lt1; have ne2 : w'.heap.size ≠ W.heap.size := Ne.symm ne1; clear hx4 hb2) | skip))
  all_goals rename_i hS9
  all_goals have HS9 := Lib.hid hS9.2
  all_goals clear hS9
  all_goals go_wp2_with fail
  all_goals go_meet
  all_goals refine ⟨_, _, rfl, rfl, rfl, ⟨?_, ?_, ?_, ?_⟩, ⟨?_, ?_⟩, HS9.out⟩
  all_goals go_simp
 case rest =>
  obtain ⟨g2, g4, rfl, rfl, rfl, ⟨c0, c1, c2, c3⟩, ⟨e0, e1⟩, hS9⟩ := hcut
  have HB9 := Lib.hid (hS9.1.mono hNW)
  have hz9 := hS9.1.size
  have HSp := Lib.hid (Blk.below HS.out hS9.1 hlt)
  have HRw := Lib.hid (own_below Hrow.out hS9.1)
  obtain ⟨t0, t1, t2, t3, t4, g0, g1, g2', g3, g4'⟩ := Spl.cells HSp.out
  clear hS9 s0 s1 s2 s3 s4 f0 f1 f2 f3 f4
  go_wp2_with fail
  refine (set_go S b o bs.length cap i v 0 0 N L p _ _ HSp.out HRw.out hN hL).mono ?_
  rintro e w4 ⟨rfl, hb4, hv4⟩
  have HV := Lib.hid hv4
  have HB4 := Lib.hid hb4
  clear hv4 hb4
  go_wp2
  go_end0
  exact ⟨rfl, HB9.out.trans HB4.out, HV.out⟩
theorem sclass_bad (S b o cap : Nat) (bs : List Nat) (i : Nat) (k q : Int) (v : Value) (N : Nat) (L : List Lex) (W : World) (hS : Spl W S b o bs.length cap i v 0 0) (hrow : W.ownsRow N 143 8 v L.length (lexCells L)) (hN : N ≤ S) (hL : L.length ≤ 100000)
  (hA : BytesAt W N (some ⟨b, o, none⟩) bs) (hv : readS bs i = .error (k, q)) (hk0 : k ≠ 0) :
  Calls Tryz.prog 191 #[.pointer (some ⟨S, 0, none⟩)] W (Wronged S b o bs.length cap N k q W) := by
 have hE := fun w hA => read_go (some ⟨b, o, none⟩) cap bs (i : Int) w hA
 rw [hv] at hE
 unfold classVal at hE
 dsimp only at hE
 have HE := Lib.hid hE
 have hkn : (k != 0) = true := by rw [bne_iff_ne]; exact hk0
 clear hE hv hk0
 obtain ⟨s0, s1, s2, s3, s4, f0, f1, f2, f3, f4⟩ := hS.cells
 have hlt := Blk.lt hS
 have hNW : N ≤ W.heap.size := by omega
 have HS := Lib.hid hS
 have Hrow := Lib.hid hrow
 have HA := Lib.hid hA
 clear hS hrow hA
 go_enter Tryz.func191, Tryz.ntmps191
 go_upto_region 1 with fail
 go_cut [2, 3, 4] (fun u2 u3 u4 wx => ∃ g2 g4 : Nat, u2 = .pointer (some ⟨g2, 0, none⟩) ∧ u3 = .int .i64 0 ∧ u4 = .pointer (some ⟨g4, 0, none⟩) ∧
  (wx.cell? ⟨g2, 0, none⟩ = some (.int .u64 0) ∧ wx.cell? ⟨g2, 1, none⟩ = some (.int .u64 0) ∧ wx.cell? ⟨g2, 2, none⟩ = some (.int .u64 0) ∧ wx.cell? ⟨g2, 3, none⟩ = some (.int .u64 0)) ∧
  (wx.cell? ⟨g4, 0, none⟩ = some (.int .i64 k) ∧ wx.cell? ⟨g4, 1, none⟩ = some (.int .i64 q)) ∧ Since W.heap.size W wx)
 case first =>
  go_wp2_with fail
  go_region_held3 (fun w' => (∀ b o, b < W.heap.size → w'.cell? ⟨b, o, none⟩ = W.cell? ⟨b, o, none⟩) ∧ Since W.heap.size W w') (repeat (first | (with_reducible exact HK.out) | (with_reducible exact since_start (Nat.le_refl _)) | (with_reducible exact since_refl (Nat.le_refl _)) | (with_reducible refine since_drew ?_) | (with_reducible refine since_alloc ?_ _) | (with_reducible refine since_set ?_ (by simp) _)))
   (first | (go_at_call 227; refine (HE.out _ (bytes_since (by assumption) HA.out hNW)).mono ?_; rintro e w' ⟨rfl, hb'⟩; have hK := since_step (by assumption) hb'; have HK := Lib.hid hK; clear hK; first | (have hb2 : Below (((W.alloc (.cells #[.int .u64 0, .int .u64 0, .int .u64 0, .int .u64 0] 25)).alloc (.cells #[.int .i64 0, .int .i64 0] 77)).drew).heap.size (((W.alloc (.cells #[.int .u64 0, .int .u64 0, .int .u64 0, .int .u64 0] 25)).alloc (.cells #[.int .i64 0, .int .i64 0] 77)).drew) w' := (by with_reducible exact hb'); have hx2 := Blk.below (w := ((W.alloc (.cells #[.int .u64 0, .int .u64 0, .int .u64 0, .int .u64 0] 25)).alloc (.cells #[.int .i64 0, .int .i64 0] 77)).drew) ((Blk.new W 25 #[.int .u64 0, .int .u64 0, .int .u64 0, .int .u64 0]).alloc _) hb2 (by simp; omega); have hx4 := Blk.below (w := ((W.alloc (.cells #[.int .u64 0, .int .u64 0, .int .u64 0, .int .u64 0] 25)).alloc (.cells #[.int .i64 0, .int .i64 0] 77)).drew) (t := 77) (cs := #[.int .i64 0, .int .i64 0]) (g := W.heap.size + 1) (Blk.new_at (by simp)) hb2 (by simp); obtain ⟨c0, c1, c2, c3, d0, d1, d2, d3⟩ := hx2.c4; obtain ⟨e0, e1, e2, e3⟩ := hx4.c2; clear hx2 hx4 hb2) | (have hb2 : Below (((W.alloc (.cells #[.int .i64 0, .int .i64 0] 77)).alloc (.cells #[.int .u64 0, .int .u64 0, .int .u64 0, .int .u64 0] 25)).drew).heap.size (((W.alloc (.cells #[.int .i64 0, .int .i64 0] 77)).alloc (.cells #[.int .u64 0, .int .u64 0, .int .u64 0, .int .u64 0] 25)).drew) w' := (by with_reducible exact hb'); have hx4 := Blk.below (w := ((W.alloc (.cells #[.int .i64 0, .int .i64 0] 77)).alloc (.cells #[.int .u64 0, .int .u64 0, .int .u64 0, .int .u64 0] 25)).drew) ((Blk.new W 77 #[.int .i64 0, .int .i64 0]).alloc _) hb2 (by simp; omega); have hx2 := Blk.below (w := ((W.alloc (.cells #[.int .i64 0, .int .i64 0] 77)).alloc (.cells #[.int .u64 0, .int .u64 0, .int .u64 0, .int .u64 0] 25)).drew) (t := 25) (cs := #[.int .u64 0, .int .u64 0, .int .u64 0, .int .u64 0]) (g := W.heap.size + 1) (Blk.new_at (by simp)) hb2 (by simp); obtain ⟨c0, c1, c2, c3, d0, d1, d2, d3⟩ := hx2.c4; obtain ⟨e0, e1, e2, e3⟩ := hx4.c2; clear hx2 hx4 hb2) | (have hb2 : Below ((W.alloc (.cells #[.int .u64 0, .int .u64 0, .int .u64 0, .int .u64 0] 25)).drew).heap.size ((W.alloc (.cells #[.int .u64 0, .int .u64 0, .int .u64 0, .int .u64 0] 25)).drew) w' := (by with_reducible exact hb'); have hx2 := Blk.below (w := (W.alloc (.cells #[.int .u64 0, .int .u64 0, .int .u64 0, .int .u64 0] 25)).drew) (Blk.new W 25 #[.int .u64 0, .int .u64 0, .int .u64 0, .int .u64 0]) hb2 (by simp); obtain ⟨c0, c1, c2, c3, d0, d1, d2, d3⟩ := hx2.c4; have lt1 : W.heap.size < w'.heap.size := hx2.lt; have ne1 : W.heap.size ≠ w'.heap.size := Nat.ne_of_lt lt1; have ne2 : w'.heap.size ≠ W.heap.size := Ne.symm ne1; clear hx2 hb2) | (have hb2 : Below ((W.alloc (.cells #[.int .i64 0, .int .i64 0] 77)).drew).heap.size ((W.alloc (.cells #[.int .i64 0, .int .i64 0] 77)).drew) w' := (by with_reducible exact hb'); have hx4 := Blk.below (w := (W.alloc (.cells #[.int .i64 0, .int .i64 0] 77)).drew) (Blk.new W 77 #[.int .i64 0, .int .i64 0]) hb2 (by simp); obtain ⟨e0, e1, e2, e3⟩ := hx4.c2; have lt1 : W.heap.size < w'.heap.size := hx4.lt; have ne1 : W.heap.size ≠ w'.heap.size := Nat.ne_of_lt lt1; have ne2 : w'.heap.size ≠ W.heap.size := Ne.symm ne1; clear hx4 hb2) | skip))
  all_goals rename_i hS9
  all_goals have HS9 := Lib.hid hS9.2
  all_goals clear hS9
  all_goals go_wp2_with fail
  all_goals go_meet
  all_goals refine ⟨_, _, rfl, rfl, rfl, ⟨?_, ?_, ?_, ?_⟩, ⟨?_, ?_⟩, HS9.out⟩
  all_goals go_simp
 case rest =>
  obtain ⟨g2, g4, rfl, rfl, rfl, ⟨c0, c1, c2, c3⟩, ⟨e0, e1⟩, hS9⟩ := hcut
  have HB9 := Lib.hid (hS9.1.mono hNW)
  have hz9 := hS9.1.size
  have HSp := Lib.hid (Blk.below HS.out hS9.1 hlt)
  have HRw := Lib.hid (own_below Hrow.out hS9.1)
  obtain ⟨t0, t1, t2, t3, t4, g0, g1, g2', g3, g4'⟩ := Spl.cells HSp.out
  clear hS9 s0 s1 s2 s3 s4 f0 f1 f2 f3 f4
  go_wp2
  go_light
  go_end0
  exact ⟨rfl, (HB9.out.setCell (p := ⟨S, 3, none⟩) hN _).setCell (p := ⟨S, 4, none⟩) hN _, _, _, (Blk.set_ HSp.out 3 _).set_ 4 _⟩
end Go.Proofs.YtofbfafnpdaejaaGreatDoor
