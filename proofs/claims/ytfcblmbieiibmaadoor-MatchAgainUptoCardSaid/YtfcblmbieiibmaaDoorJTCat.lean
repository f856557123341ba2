/- Texts of the claim. -/
import Derived.Test.YtfcblmbieiibmaaDoorJTAlt
namespace Go.Proofs.YtfcblmbieiibmaaDoor
open Go.RowKit
set_option linter.unusedSimpArgs false
set_option linter.unusedVariables false
set_option maxRecDepth 100000
set_option maxHeartbeats 8000000
theorem empty_go (w : World) : Calls Tryd.prog 37 #[] w fun e w' => e = .returned (.agg #[.int .i64 2, .int .u64 0, .int .u64 0, .int .u64 0, .int .u64 0, .slice none 0 0, .int .i64 0, .int .i64 0]) ∧ Below w.heap.size w w' := by
 have HZ := Lib.hid (Blk.new w 28 #[.int .i64 2, .int .u64 0, .int .u64 0, .int .u64 0, .int .u64 0, .slice none 0 0, .int .i64 0, .int .i64 0])
 have HB := Lib.hid (show Below w.heap.size w (w.alloc (.cells #[.int .i64 2, .int .u64 0, .int .u64 0, .int .u64 0, .int .u64 0, .slice none 0 0, .int .i64 0, .int .i64 0] 28)) from (Below.refl _ _).alloc (Nat.le_refl _) _)
 go_enter Tryd.func37, Tryd.ntmps37
 go_wp2
 go_light
 exact bodyPost_ret (ret_node Tryd.results37 rfl HZ.out) rfl ⟨rfl, HB.out⟩
theorem manye_go (k : Int) (F : Trees) (P : Nat → Prop) (B : Option Addr) (cap : Nat) (w : World) (h2 : F.len = 2) (hlen : F.size ≤ 100000000) (ht : TreesAt w P F B) :
  Calls Tryd.prog 36 #[.int .i64 k, .agg #[.int .i64 2, .int .u64 0, .int .u64 0, .int .u64 0, .int .u64 0, .slice none 0 0, .int .i64 0, .int .i64 0], .slice B 2 cap] w fun e w' => ∃ B' cap', e = .returned (ndV ⟨k, 0, F, 0, 0⟩ B' cap') ∧ Below w.heap.size w w' ∧ F.len ≤ cap' ∧ TreesAt w' (fun b => w.heap.size ≤ b) F B' := by
 have hb2 : Below w.heap.size w ((w.alloc (.cells #[.int .i64 2, .int .u64 0, .int .u64 0, .int .u64 0, .int .u64 0, .slice none 0 0, .int .i64 0, .int .i64 0] 28)).alloc (.cells #[.int .i64 0, .int .u64 0, .int .u64 0, .int .u64 0, .int .u64 0, .slice none 0 0, .int .i64 0, .int .i64 0] 28)) := ((Below.refl _ _).alloc (Nat.le_refl _) _).alloc (by simp) _
 have hI := copies_go F P B cap _ hlen (ht.below hb2)
 rw [h2] at hI
 have HI := Lib.hid hI
 have HB2 := Lib.hid hb2
 have HZ2 := Lib.hid (show Blk ((w.alloc (.cells #[.int .i64 2, .int .u64 0, .int .u64 0, .int .u64 0, .int .u64 0, .slice none 0 0, .int .i64 0, .int .i64 0] 28)).alloc (.cells #[.int .i64 0, .int .u64 0, .int .u64 0, .int .u64 0, .int .u64 0, .slice none 0 0, .int .i64 0, .int .i64 0] 28)) (w.heap.size + 1) 28 #[.int .i64 0, .int .u64 0, .int .u64 0, .int .u64 0, .int .u64 0, .slice none 0 0, .int .i64 0, .int .i64 0] from Blk.new_at (by simp))
 have H2 := Lib.hid h2
 clear ht hb2 hlen hI h2
 go_enter Tryd.func36, Tryd.ntmps36
 go_wp2_with fail
 refine HI.out.mono ?_
 rintro e w3 ⟨B3, cap3, rfl, hb3, hc3, ht3⟩
 have hZ3 := HZ2.out.below hb3 HZ2.out.lt
 have HB3 := Lib.hid (HB2.out.trans (hb3.mono HB2.out.size))
 have HZ3 := Lib.hid hZ3
 have HT3 := Lib.hid (ht3.weak (Q := fun b => w.heap.size + 2 ≤ b) (fun b hb _ => by simpa using hb))
 have y0 : w3.cell? ⟨w.heap.size + 1, 0, none⟩ = some (.int .i64 0) := hZ3.cell 0
 have y1 : w3.cell? ⟨w.heap.size + 1, 1, none⟩ = some (.int .u64 0) := hZ3.cell 1
 have y2 : w3.cell? ⟨w.heap.size + 1, 2, none⟩ = some (.int .u64 0) := hZ3.cell 2
 have y3 : w3.cell? ⟨w.heap.size + 1, 3, none⟩ = some (.int .u64 0) := hZ3.cell 3
 have y4 : w3.cell? ⟨w.heap.size + 1, 4, none⟩ = some (.int .u64 0) := hZ3.cell 4
 have y5 : w3.cell? ⟨w.heap.size + 1, 5, none⟩ = some (.slice none 0 0) := hZ3.cell 5
 have y6 : w3.cell? ⟨w.heap.size + 1, 6, none⟩ = some (.int .i64 0) := hZ3.cell 6
 have y7 : w3.cell? ⟨w.heap.size + 1, 7, none⟩ = some (.int .i64 0) := hZ3.cell 7
 have g0 := hZ3.frozen 0
 have g1 := hZ3.frozen 1
 have g2 := hZ3.frozen 2
 have g3 := hZ3.frozen 3
 have g4 := hZ3.frozen 4
 have g5 := hZ3.frozen 5
 have g6 := hZ3.frozen 6
 have g7 := hZ3.frozen 7
 clear hZ3 ht3 hb3 HI HZ2 HB2
 dsimp only
 go_wp2
 go_light
 have hF := put_next (x := ⟨k, 0, F, 0, 0⟩) (B := B3) (cap := cap3) HZ3.out HB3.out HT3.out (by simp only [word_zero, H2.out]; rfl)
 refine bodyPost_ret (ret_node Tryd.results36 rfl hF.1) rfl ⟨B3, cap3, rfl, hF.2.1, ?_, hF.2.2⟩
 rw [H2.out]; exact hc3
theorem tcat_go (F : Trees) (P : Nat → Prop) (B : Option Addr) (cap : Nat) (w : World) (h2 : F.len = 2) (hlen : F.size ≤ 100000000) (ht : TreesAt w P F B) :
  Calls Tryd.prog 21 #[.slice B 2 cap] w fun e w' => ∃ B' cap', e = .returned (ndV ⟨4, 0, F, 0, 0⟩ B' cap') ∧ Below w.heap.size w w' ∧ F.len ≤ cap' ∧ TreesAt w' (fun b => w.heap.size ≤ b) F B' := by
 have hb1 : Below w.heap.size w (w.alloc (.cells #[.int .i64 0, .int .u64 0, .int .u64 0, .int .u64 0, .int .u64 0, .slice none 0 0, .int .i64 0, .int .i64 0] 28)) := (Below.refl _ _).alloc (Nat.le_refl _) _
 have HB1 := Lib.hid hb1
 have HZ1 := Lib.hid (Blk.new w 28 #[.int .i64 0, .int .u64 0, .int .u64 0, .int .u64 0, .int .u64 0, .slice none 0 0, .int .i64 0, .int .i64 0])
 have HT1 := Lib.hid (ht.below hb1)
 have H2 := Lib.hid h2
 clear ht hb1
 go_enter Tryd.func21, Tryd.ntmps21
 go_wp2_with fail
 refine (empty_go _).mono ?_
 rintro e w2 ⟨rfl, hb2⟩
 have HB2 := Lib.hid (HB1.out.trans (hb2.mono HB1.out.size))
 have HZ2 := Lib.hid (HZ1.out.below hb2 HZ1.out.lt)
 have HT2 := Lib.hid (HT1.out.below hb2)
 clear hb2 HB1 HZ1 HT1
 dsimp only
 go_wp2_with fail
 refine (manye_go 4 F P B cap w2 h2 hlen HT2.out).mono ?_
 rintro e w3 ⟨B3, cap3, rfl, hb3, hc3, ht3⟩
 have hZ3 := HZ2.out.below hb3 HZ2.out.lt
 have HB3 := Lib.hid (HB2.out.trans (hb3.mono HB2.out.size))
 have HZ3 := Lib.hid hZ3
 have HT3 := Lib.hid ht3
 have hw2 : w.heap.size + 1 ≤ w2.heap.size := HZ2.out.lt
 have y0 : w3.cell? ⟨w.heap.size, 0, none⟩ = some (.int .i64 0) := hZ3.cell 0
 have y1 : w3.cell? ⟨w.heap.size, 1, none⟩ = some (.int .u64 0) := hZ3.cell 1
 have y2 : w3.cell? ⟨w.heap.size, 2, none⟩ = some (.int .u64 0) := hZ3.cell 2
 have y3 : w3.cell? ⟨w.heap.size, 3, none⟩ = some (.int .u64 0) := hZ3.cell 3
 have y4 : w3.cell? ⟨w.heap.size, 4, none⟩ = some (.int .u64 0) := hZ3.cell 4
 have y5 : w3.cell? ⟨w.heap.size, 5, none⟩ = some (.slice none 0 0) := hZ3.cell 5
 have y6 : w3.cell? ⟨w.heap.size, 6, none⟩ = some (.int .i64 0) := hZ3.cell 6
 have y7 : w3.cell? ⟨w.heap.size, 7, none⟩ = some (.int .i64 0) := hZ3.cell 7
 have g0 := hZ3.frozen 0
 have g1 := hZ3.frozen 1
 have g2 := hZ3.frozen 2
 have g3 := hZ3.frozen 3
 have g4 := hZ3.frozen 4
 have g5 := hZ3.frozen 5
 have g6 := hZ3.frozen 6
 have g7 := hZ3.frozen 7
 clear hZ3 ht3 hb3 HZ2 HB2 HT2 h2 hlen
 unfold ndV
 dsimp only
 go_wp2
 go_light
 have hF := flat_put (P := fun _ => False) (x := ⟨4, 0, F, 0, 0⟩) (B := B3) (cap := cap3) HZ3.out HB3.out (HT3.out.weak (fun b hb _ => .inr (by omega))) rfl
 exact bodyPost_ret (ret_node Tryd.results21 rfl hF.1) rfl ⟨B3, cap3, rfl, hF.2.1, hc3, hF.2.2.weak (fun b hb _ => hb.elim (fun h => h.elim) id)⟩
end Go.Proofs.YtfcblmbieiibmaaDoor
