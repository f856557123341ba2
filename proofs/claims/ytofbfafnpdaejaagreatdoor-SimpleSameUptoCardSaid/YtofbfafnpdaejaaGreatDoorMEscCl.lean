/- Texts of the claim. -/
import Derived.Test.YtofbfafnpdaejaaGreatDoorMZ03
import Derived.Test.YtofbfafnpdaejaaGreatDoorMRead
set_option linter.all false
set_option maxRecDepth 100000
set_option maxHeartbeats 8000000
namespace Go.Proofs.YtofbfafnpdaejaaGreatDoor
open Go.RowKit
def Wronged (S b o len cap : Nat) (N : Nat) (k q : Int) (W : World) (e : Ending) (W' : World) : Prop :=
 e = .returned (.tuple #[]) ∧ Below N W W' ∧ ∃ i v, Spl W' S b o len cap i v k q
theorem escVal_at {bs : List Nat} {i c j : Nat} (h0 : i < bs.length) (h : byteAt bs i = 92) (he : escS bs i = some (c, j)) : escVal bs (i : Int) = .tuple #[.int .u8 (c : Int), .int .i64 (j : Int), .agg #[.int .i64 0, .int .i64 0]] := by
 unfold escVal
 rw [if_pos (by rw [hasAt_in 92 h0, h]; rfl), Int.toNat_natCast, he]
theorem escVal_bad {bs : List Nat} {i : Nat} (h0 : i < bs.length) (h : byteAt bs i = 92) (he : escS bs i = none) : escVal bs (i : Int) = .tuple #[.int .u8 0, .int .i64 0, .agg #[.int .i64 14, .int .i64 (i : Int)]] := by
 unfold escVal
 rw [if_pos (by rw [hasAt_in 92 h0, h]; rfl), Int.toNat_natCast, he]
theorem sescape_ok (S b o cap : Nat) (bs : List Nat) (i c j : Nat) (v : Value) (N : Nat) (L : List Lex) (W : World) (hS : Spl W S b o bs.length cap i v 0 0) (hrow : W.ownsRow N 143 8 v L.length (lexCells L)) (hN : N ≤ S) (hL : L.length ≤ 100000)
  (hA : BytesAt W N (some ⟨b, o, none⟩) bs) (h0 : i < bs.length) (h : byteAt bs i = 92) (he : escS bs i = some (c, j)) :
  Calls Tryz.prog 190 #[.pointer (some ⟨S, 0, none⟩)] W (Took S b o bs.length cap N L ⟨1, i, among [c] 1, 0, 0⟩ (j : Int) 0 0 W) := by
 have hc : c < 256 := (escS_some hA.1 he).2.2
 have hE := fun w hA => esc_go (some ⟨b, o, none⟩) cap bs (i : Int) w hA
 rw [escVal_at h0 h he] at hE
 have HE := Lib.hid hE
 clear hE he h
 obtain ⟨s0, s1, s2, s3, s4, f0, f1, f2, f3, f4⟩ := hS.cells
 have hlt := Blk.lt hS
 have hNW : N ≤ W.heap.size := by omega
 have HS := Lib.hid hS
 have Hrow := Lib.hid hrow
 have HA := Lib.hid hA
 clear hS hrow hA
 have hc1 : ∀ x ∈ [c], x < 256 := by simp; omega
 go_enter Tryz.func190, Tryz.ntmps190
 go_wp2_with fail
 go_region_held3 (fun w' => (∀ b o, b < W.heap.size → w'.cell? ⟨b, o, none⟩ = W.cell? ⟨b, o, none⟩) ∧ Since W.heap.size W w') (first | exact since_start (Nat.le_refl _) | exact since_step (by assumption) (by assumption) | exact HK.out | exact since_alloc HK.out _ | exact since_drew (since_alloc (since_refl (Nat.le_refl _)) _) | exact since_set (since_set HK.out (Nat.le_refl _) _) (Nat.le_refl _) _)
  (first | (go_at_call 226; refine (HE.out _ (bytes_since (by assumption) HA.out hNW)).mono ?_; rintro e w' ⟨rfl, hb'⟩; have hK := since_step (by assumption) hb'; have HK := Lib.hid hK; clear hK; first | (have hx := (Blk.below (w := (W.alloc (.cells #[.int .i64 0, .int .i64 0] 77)).drew) (Blk.new W 77 #[.int .i64 0, .int .i64 0]) hb' (by simp)); obtain ⟨x0, x1, y0, y1⟩ := hx.c2; have HX := Lib.hid hx; clear hx) | skip))
 ·skip
  rename_i hS9
  have hbx : Blk (w'.alloc (.cells #[.int .i64 0, .int .i64 0] 77)) (w'.heap.size) 77 #[.int .i64 0, .int .i64 0] := Blk.new _ _ _
  generalize w'.alloc (.cells #[.int .i64 0, .int .i64 0] 77) = wf at *
  have HB9 := Lib.hid (((Below.refl N W)).trans (hS9.2.1.mono hNW))
  have hz9 := hS9.2.1.size
  have HSp := Lib.hid (Blk.below HS.out hS9.2.1 hlt)
  have HRw := Lib.hid (own_below Hrow.out hS9.2.1)
  obtain ⟨t0, t1, t2, t3, t4, g0, g1, g2, g3, g4⟩ := Spl.cells HSp.out
  obtain ⟨z0, z1, z2, z3⟩ := hbx.c2
  clear hS9 hbx s0 s1 s2 s3 s4 f0 f1 f2 f3 f4
  go_wp2_with fail
  refine (of_any _ [c] 1 _ (bytes_new _ _ [c] _ _ (by simp) rfl hc1 (by simp))).mono ?_
  rintro e w3 ⟨rfl, hb3⟩
  have HB3 := Lib.hid ((HB9.out.alloc (by omega) (.cells #[.int .u8 (c : Int)] 5)).trans (hb3.mono (by simp; omega)))
  have HS3 := Lib.hid (Blk.below (Blk.alloc HSp.out (.cells #[.int .u8 (c : Int)] 5)) hb3 (by simp; omega))
  have HR3 := Lib.hid (own_below (HRw.out.alloc (.cells #[.int .u8 (c : Int)] 5)) hb3)
  clear hb3
  go_wp2_with fail
  refine (set_go S b o bs.length cap i v 0 0 N L (among [c] 1) _ _ HS3.out HR3.out hN hL).mono ?_
  rintro e w4 ⟨rfl, hb4, hv4⟩
  have HV := Lib.hid hv4
  have HB4 := Lib.hid hb4
  clear hv4 hb4
  go_wp2
  go_end0
  exact ⟨rfl, HB3.out.trans HB4.out, HV.out⟩
 ·skip
  rename_i hS9
  have hbx : Blk ((w'.setCell ⟨W.heap.size, 0, none⟩ (.int .i64 0)).setCell ⟨W.heap.size, 1, none⟩ (.int .i64 0)) (W.heap.size) 77 #[.int .i64 0, .int .i64 0] := HX.out.set2
  generalize (w'.setCell ⟨W.heap.size, 0, none⟩ (.int .i64 0)).setCell ⟨W.heap.size, 1, none⟩ (.int .i64 0) = wf at *
  have HB9 := Lib.hid (((Below.refl N W)).trans (hS9.2.1.mono hNW))
  have hz9 := hS9.2.1.size
  have HSp := Lib.hid (Blk.below HS.out hS9.2.1 hlt)
  have HRw := Lib.hid (own_below Hrow.out hS9.2.1)
  obtain ⟨t0, t1, t2, t3, t4, g0, g1, g2, g3, g4⟩ := Spl.cells HSp.out
  obtain ⟨z0, z1, z2, z3⟩ := hbx.c2
  clear hS9 hbx s0 s1 s2 s3 s4 f0 f1 f2 f3 f4
  go_wp2_with fail
  refine (of_any _ [c] 1 _ (bytes_new _ _ [c] _ _ (by simp) rfl hc1 (by simp))).mono ?_
  rintro e w3 ⟨rfl, hb3⟩
  have HB3 := Lib.hid ((HB9.out.alloc (by omega) (.cells #[.int .u8 (c : Int)] 5)).trans (hb3.mono (by simp; omega)))
  have HS3 := Lib.hid (Blk.below (Blk.alloc HSp.out (.cells #[.int .u8 (c : Int)] 5)) hb3 (by simp; omega))
  have HR3 := Lib.hid (own_below (HRw.out.alloc (.cells #[.int .u8 (c : Int)] 5)) hb3)
  clear hb3
  go_wp2_with fail
  refine (set_go S b o bs.length cap i v 0 0 N L (among [c] 1) _ _ HS3.out HR3.out hN hL).mono ?_
  rintro e w4 ⟨rfl, hb4, hv4⟩
  have HV := Lib.hid hv4
  have HB4 := Lib.hid hb4
  clear hv4 hb4
  go_wp2
  go_end0
  exact ⟨rfl, HB3.out.trans HB4.out, HV.out⟩
theorem sescape_bad (S b o cap : Nat) (bs : List Nat) (i : Nat) (v : Value) (N : Nat) (L : List Lex) (W : World) (hS : Spl W S b o bs.length cap i v 0 0) (hrow : W.ownsRow N 143 8 v L.length (lexCells L)) (hN : N ≤ S) (hL : L.length ≤ 100000)
  (hA : BytesAt W N (some ⟨b, o, none⟩) bs) (h0 : i < bs.length) (h : byteAt bs i = 92) (he : escS bs i = none) :
  Calls Tryz.prog 190 #[.pointer (some ⟨S, 0, none⟩)] W (Wronged S b o bs.length cap N 14 (i : Int) W) := by
 have hE := fun w hA => esc_go (some ⟨b, o, none⟩) cap bs (i : Int) w hA
 rw [escVal_bad h0 h he] at hE
 have HE := Lib.hid hE
 clear hE he h
 obtain ⟨s0, s1, s2, s3, s4, f0, f1, f2, f3, f4⟩ := hS.cells
 have hlt := Blk.lt hS
 have hNW : N ≤ W.heap.size := by omega
 have HS := Lib.hid hS
 have Hrow := Lib.hid hrow
 have HA := Lib.hid hA
 clear hS hrow hA
 go_enter Tryz.func190, Tryz.ntmps190
 go_wp2_with fail
 go_region_held3 (fun w' => (∀ b o, b < W.heap.size → w'.cell? ⟨b, o, none⟩ = W.cell? ⟨b, o, none⟩) ∧ Since W.heap.size W w') (first | exact since_start (Nat.le_refl _) | exact since_step (by assumption) (by assumption) | exact HK.out | exact since_alloc HK.out _ | exact since_drew (since_alloc (since_refl (Nat.le_refl _)) _) | exact since_set (since_set HK.out (Nat.le_refl _) _) (Nat.le_refl _) _)
  (first | (go_at_call 226; refine (HE.out _ (bytes_since (by assumption) HA.out hNW)).mono ?_; rintro e w' ⟨rfl, hb'⟩; have hK := since_step (by assumption) hb'; have HK := Lib.hid hK; clear hK; first | (have hx := (Blk.below (w := (W.alloc (.cells #[.int .i64 0, .int .i64 0] 77)).drew) (Blk.new W 77 #[.int .i64 0, .int .i64 0]) hb' (by simp)); obtain ⟨x0, x1, y0, y1⟩ := hx.c2; have HX := Lib.hid hx; clear hx) | skip))
 ·skip
  rename_i hS9
  have hbx : Blk (w'.alloc (.cells #[.int .i64 14, .int .i64 (i : Int)] 77)) (w'.heap.size) 77 #[.int .i64 14, .int .i64 (i : Int)] := Blk.new _ _ _
  generalize w'.alloc (.cells #[.int .i64 14, .int .i64 (i : Int)] 77) = wf at *
  have HB9 := Lib.hid (((Below.refl N W)).trans (hS9.2.1.mono hNW))
  have hz9 := hS9.2.1.size
  have HSp := Lib.hid (Blk.below HS.out hS9.2.1 hlt)
  have HRw := Lib.hid (own_below Hrow.out hS9.2.1)
  obtain ⟨t0, t1, t2, t3, t4, g0, g1, g2, g3, g4⟩ := Spl.cells HSp.out
  obtain ⟨z0, z1, z2, z3⟩ := hbx.c2
  clear hS9 hbx s0 s1 s2 s3 s4 f0 f1 f2 f3 f4
  go_wp2
  go_light
  go_end0
  exact ⟨rfl, (HB9.out.setCell (p := ⟨S, 3, none⟩) hN _).setCell (p := ⟨S, 4, none⟩) hN _, _, _, (Blk.set_ HSp.out 3 _).set_ 4 _⟩
 ·skip
  rename_i hS9
  have hbx : Blk ((w'.setCell ⟨W.heap.size, 0, none⟩ (.int .i64 14)).setCell ⟨W.heap.size, 1, none⟩ (.int .i64 (i : Int))) (W.heap.size) 77 #[.int .i64 14, .int .i64 (i : Int)] := HX.out.set2
  generalize (w'.setCell ⟨W.heap.size, 0, none⟩ (.int .i64 14)).setCell ⟨W.heap.size, 1, none⟩ (.int .i64 (i : Int)) = wf at *
  have HB9 := Lib.hid (((Below.refl N W)).trans (hS9.2.1.mono hNW))
  have hz9 := hS9.2.1.size
  have HSp := Lib.hid (Blk.below HS.out hS9.2.1 hlt)
  have HRw := Lib.hid (own_below Hrow.out hS9.2.1)
  obtain ⟨t0, t1, t2, t3, t4, g0, g1, g2, g3, g4⟩ := Spl.cells HSp.out
  obtain ⟨z0, z1, z2, z3⟩ := hbx.c2
  clear hS9 hbx s0 s1 s2 s3 s4 f0 f1 f2 f3 f4
  go_wp2
  go_light
  go_end0
  exact ⟨rfl, (HB9.out.setCell (p := ⟨S, 3, none⟩) hN _).setCell (p := ⟨S, 4, none⟩) hN _, _, _, (Blk.set_ HSp.out 3 _).set_ 4 _⟩
end Go.Proofs.YtofbfafnpdaejaaGreatDoor
