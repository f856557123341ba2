/- Texts of the claim. -/
import Derived.Lib.SlBytesConst
import Derived.Test.YtfekpkelmliejaaGreatDoorQSpecRead
namespace Go.Proofs.YtfekpkelmliejaaGreatDoor
open Go.RowKit
set_option linter.unusedSimpArgs false
set_option linter.unusedVariables false
set_option maxRecDepth 100000
set_option maxHeartbeats 8000000
def firstB : List Nat := [35, 32, 119, 111, 114, 100, 115, 10, 105, 100, 58, 91, 97, 45, 122, 93, 43, 10, 10, 110, 111, 58, 32, 97]
theorem rules_first : ∃ r0 r1 : RuleS, rulesS firstB = .ok [r0, r1] ∧ r1.name = [110, 111] ∧ r1.body.kids.len = 2 := ⟨_, _, rfl, rfl, rfl⟩
theorem rules_second : rulesS [97, 58, 98, 10, 97, 58, 99] = .error (8, 4) := by rfl
theorem rules_third : rulesS [97, 58, 98, 10, 98, 58, 40, 42] = .error (5, 7) := by rfl
theorem read_first (w : World) (n : Nat) (hn : n = w.heap.size) {r0 r1 : RuleS} (h : rulesS firstB = .ok [r0, r1]) :
  Calls Tryz.prog 55 #[.slice (some ⟨n, 0, none⟩) 24 24] (w.alloc (.cells #[.int .u8 35, .int .u8 32, .int .u8 119, .int .u8 111, .int .u8 114, .int .u8 100, .int .u8 115, .int .u8 10, .int .u8 105, .int .u8 100, .int .u8 58, .int .u8 91, .int .u8 97, .int .u8 45, .int .u8 122, .int .u8 93, .int .u8 43, .int .u8 10, .int .u8 10, .int .u8 110, .int .u8 111, .int .u8 58, .int .u8 32, .int .u8 97] 5 (24, 25))) (RulesOut (.ok [r0, r1]) (w.alloc (.cells #[.int .u8 35, .int .u8 32, .int .u8 119, .int .u8 111, .int .u8 114, .int .u8 100, .int .u8 115, .int .u8 10, .int .u8 105, .int .u8 100, .int .u8 58, .int .u8 91, .int .u8 97, .int .u8 45, .int .u8 122, .int .u8 93, .int .u8 43, .int .u8 10, .int .u8 10, .int .u8 110, .int .u8 111, .int .u8 58, .int .u8 32, .int .u8 97] 5 (24, 25)))) := by
 have h1 := sread_go (some ⟨n, 0, none⟩) 24 firstB _ (bytes_new w n firstB _ (24, 25) hn rfl (by decide) (by decide)) (by decide)
 rw [h] at h1
 exact h1
theorem read_second (w : World) (n : Nat) (hn : n = w.heap.size) :
  Calls Tryz.prog 55 #[.slice (some ⟨n, 0, none⟩) 7 7] (w.alloc (.cells #[.int .u8 97, .int .u8 58, .int .u8 98, .int .u8 10, .int .u8 97, .int .u8 58, .int .u8 99] 5 (7, 8))) (RulesOut (.error (8, 4)) (w.alloc (.cells #[.int .u8 97, .int .u8 58, .int .u8 98, .int .u8 10, .int .u8 97, .int .u8 58, .int .u8 99] 5 (7, 8)))) := by
 have h1 := sread_go (some ⟨n, 0, none⟩) 7 [97, 58, 98, 10, 97, 58, 99] _ (bytes_new w n [97, 58, 98, 10, 97, 58, 99] _ (7, 8) hn rfl (by decide) (by decide)) (by decide)
 rw [rules_second] at h1
 exact h1
theorem read_third (w : World) (n : Nat) (hn : n = w.heap.size) :
  Calls Tryz.prog 55 #[.slice (some ⟨n, 0, none⟩) 8 8] (w.alloc (.cells #[.int .u8 97, .int .u8 58, .int .u8 98, .int .u8 10, .int .u8 98, .int .u8 58, .int .u8 40, .int .u8 42] 5 (8, 9))) (RulesOut (.error (5, 7)) (w.alloc (.cells #[.int .u8 97, .int .u8 58, .int .u8 98, .int .u8 10, .int .u8 98, .int .u8 58, .int .u8 40, .int .u8 42] 5 (8, 9)))) := by
 have h1 := sread_go (some ⟨n, 0, none⟩) 8 [97, 58, 98, 10, 98, 58, 40, 42] _ (bytes_new w n [97, 58, 98, 10, 98, 58, 40, 42] _ (8, 9) hn rfl (by decide) (by decide)) (by decide)
 rw [rules_third] at h1
 exact h1
theorem knows09_go (w : World) :
  Calls Tryz.prog 54 #[] w fun e w' => e = .returned (.bool true) ∧ Below w.heap.size w w' := by
 have kc := fun (w : World) (C : Array Value) (n c : Nat) => Lib.run_convert_bytes_const (P := Tryz.prog) w 30 5 C n c Tryz.underlying30 Tryz.underlying5
 have kd : ∀ (w : World) (o : Obj) (C : Array Value) (n c : Nat), (convert 30 30 (.slice (some ⟨w.heap.size + 1, 0, none⟩) n c)).run Tryz.prog ((w.alloc o).alloc (.cells C 5)) = .ok (.slice (some ⟨w.heap.size + 1, 0, none⟩) n c) ((w.alloc o).alloc (.cells C 5 (C.size, C.size + 1))) := fun w o C n c => by
  have h := kc (w.alloc o) C n c
  rw [World.size_alloc] at h
  exact h
 obtain ⟨r0, r1, hr, hname, hkids⟩ := rules_first
 have Hr := Lib.hid hr
 have Hname := Lib.hid hname
 have Hkids := Lib.hid hkids
 clear hr hname hkids
 go_enter Tryz.func54, Tryz.ntmps54
 go_wp2_with fail
 refine (read_first _ _ rfl Hr.out).mono ?_
 rintro e w1 ⟨A, cap, rfl, hb1, hc1, hat1⟩
 have HB1 := Lib.hid (((Below.refl w.heap.size w).alloc (Nat.le_refl _) (.cells #[.int .u8 35, .int .u8 32, .int .u8 119, .int .u8 111, .int .u8 114, .int .u8 100, .int .u8 115, .int .u8 10, .int .u8 105, .int .u8 100, .int .u8 58, .int .u8 91, .int .u8 97, .int .u8 45, .int .u8 122, .int .u8 93, .int .u8 43, .int .u8 10, .int .u8 10, .int .u8 110, .int .u8 111, .int .u8 58, .int .u8 32, .int .u8 97] 5 (24, 25))).trans (hb1.mono (by simp)))
 obtain ⟨b, o, B, capb, rfl, _, _, hcn, hnd, _⟩ := hat1 1 r1 rfl
 have hck := hnd.2.2.2.2.2.1
 rw [Hname.out] at hcn
 rw [Hkids.out] at hck
 have hbl := World.block_lt_of_cell? w1 _ hcn
 have HB2 := Lib.hid (HB1.out.trans (((Below.refl _ _).alloc (Nat.le_refl _) (.cells #[.int .i64 0, .int .i64 0] 75)).mono HB1.out.size))
 have HX2 := Lib.hid (Blk.new w1 75 #[.int .i64 0, .int .i64 0])
 have HN := Lib.hid (show _ ∧ _ from ⟨hcn, hck⟩)
 clear hb1 hc1 hat1 hnd hcn hck HB1
 dsimp only
 go_wp2_with fail
 refine (read_second _ _ (by simp)).mono ?_
 rintro e w2 ⟨rfl, hb2⟩
 have hb23 := ((Below.refl _ _).alloc (Nat.le_refl _) (.cells #[.int .u8 97, .int .u8 58, .int .u8 98, .int .u8 10, .int .u8 97, .int .u8 58, .int .u8 99] 5 (7, 8))).trans (hb2.mono (by simp))
 have hb12 : Below w1.heap.size w1 w2 := ((Below.refl _ _).alloc (Nat.le_refl _) (.cells #[.int .i64 0, .int .i64 0] 75)).trans (hb23.mono (by simp))
 have HX3 := Lib.hid (HX2.out.below hb23 HX2.out.lt)
 have HN3 := Lib.hid (show _ ∧ _ from ⟨(hb12.cell (p := ⟨b, _, none⟩) hbl).trans HN.out.1, (hb12.cell (p := ⟨b, _, none⟩) hbl).trans HN.out.2⟩)
 have HB3 := Lib.hid (HB2.out.trans (hb23.mono HB2.out.size))
 have hbl3 : b < w2.heap.size := by have := hb12.size; show b < _; have : b < w1.heap.size := hbl; omega
 have HX4 := Lib.hid (Blk.new w2 75 #[.int .i64 8, .int .i64 4])
 clear hb2 hb23 hb12 HX2 HN HB2 hbl
 dsimp only
 go_wp2_with fail
 refine (read_third _ _ (by simp)).mono ?_
 rintro e w3 ⟨rfl, hb3⟩
 have hb34 := ((Below.refl _ _).alloc (Nat.le_refl _) (.cells #[.int .u8 97, .int .u8 58, .int .u8 98, .int .u8 10, .int .u8 98, .int .u8 58, .int .u8 40, .int .u8 42] 5 (8, 9))).trans (hb3.mono (by simp))
 have hb23 : Below w2.heap.size w2 w3 := ((Below.refl _ _).alloc (Nat.le_refl _) (.cells #[.int .i64 8, .int .i64 4] 75)).trans (hb34.mono (by simp))
 have hx4 := HX4.out.below hb34 HX4.out.lt
 have hx3 := HX3.out.below hb23 HX3.out.lt
 have c0 := (hb23.cell (p := ⟨b, _, none⟩) hbl3).trans HN3.out.1
 have c1 := (hb23.cell (p := ⟨b, _, none⟩) hbl3).trans HN3.out.2
 have HB4 := Lib.hid ((HB3.out.trans (hb23.mono HB3.out.size)))
 obtain ⟨x0, x1, _, _⟩ := hx3.c2
 obtain ⟨y0, y1, _, _⟩ := hx4.c2
 have hl1 := hx3.lt
 have hl2 := hx4.lt
 have hl3 := World.block_lt_of_cell? w3 _ c0
 have hn1 : ((strOf [110, 111]).toList == [110, 111]) = true := by decide +kernel
 clear hb3 hb34 hb23 hx3 hx4 HX3 HX4 HN3 kc kd
 dsimp only
 go_wp2
 go_light
 go_ret
 exact ⟨rfl, HB4.out.alloc HB4.out.size _⟩
end Go.Proofs.YtfekpkelmliejaaGreatDoor
