/-
  The contract of knows of chapter 07.
-/
import Derived.Test.YtkelkadalikibaaQText07
import Derived.Test.YtkelkadalikibaaQZ01
namespace Go.Proofs.Ytkelkadalikibaa
open Go.RowKit
set_option linter.unusedSimpArgs false
set_option linter.unusedVariables false
set_option maxRecDepth 100000

theorem parse_first : parseS [97, 124] = .ok ⟨5, 0, Trees.of [leafN (maskOf (among [97] 1)), emptyN], 0, 0⟩ := by rfl
theorem parse_second : parseS [97, 41, 42] = .error (12, 1) := by rfl
theorem tree_first (w : World) (n : Nat) (hn : n = w.heap.size) :
    Calls Try.prog 17 #[.slice (some ⟨n, 0, none⟩) 2 2] (w.alloc (.cells #[.int .u8 97, .int .u8 124] 5 (2, 3))) (TreeOut (.ok ⟨5, 0, Trees.of [leafN (maskOf (among [97] 1)), emptyN], 0, 0⟩) (w.alloc (.cells #[.int .u8 97, .int .u8 124] 5 (2, 3)))) := by
  have h := text_go07 (some ⟨n, 0, none⟩) 2 [97, 124] _ (bytes_new w n [97, 124] _ (2, 3) hn rfl (by decide) (by decide)) (by decide)
  rw [parse_first] at h
  exact h
theorem tree_second (w : World) (n : Nat) (hn : n = w.heap.size) :
    Calls Try.prog 17 #[.slice (some ⟨n, 0, none⟩) 3 3] (w.alloc (.cells #[.int .u8 97, .int .u8 41, .int .u8 42] 5 (3, 4))) (TreeOut (.error (12, 1)) (w.alloc (.cells #[.int .u8 97, .int .u8 41, .int .u8 42] 5 (3, 4)))) := by
  have h := text_go07 (some ⟨n, 0, none⟩) 3 [97, 41, 42] _ (bytes_new w n [97, 41, 42] _ (3, 4) hn rfl (by decide) (by decide)) (by decide)
  rw [parse_second] at h
  exact h

set_option maxHeartbeats 1000000 in
theorem knows07_go (w : World) :
    Calls Try.prog 16 #[] w fun e w' => e = .returned (.bool true) ∧ Below w.heap.size w w' := by
  have kc := fun (w : World) (C : Array Value) (n c : Nat) => Lib.run_convert_bytes_const (P := Try.prog) w 22 5 C n c Try.underlying22 Try.underlying5
  have kd : ∀ (w : World) (o o2 : Obj) (C : Array Value) (n c : Nat), (convert 22 22 (.slice (some ⟨w.heap.size + 1 + 1, 0, none⟩) n c)).run Try.prog (((w.alloc o).alloc o2).alloc (.cells C 5)) = .ok (.slice (some ⟨w.heap.size + 1 + 1, 0, none⟩) n c) (((w.alloc o).alloc o2).alloc (.cells C 5 (C.size, C.size + 1))) := fun w o o2 C n c => by
    have h := kc ((w.alloc o).alloc o2) C n c
    rw [World.size_alloc, World.size_alloc] at h
    exact h
  go_enter Try.func16, Try.ntmps16
  go_wp2_with fail
  refine (tree_first _ _ rfl).mono ?_
  rintro e w1 ⟨B, cap, rfl, hb1, hc1, ht1⟩
  have HB1 := Lib.hid (((Below.refl w.heap.size w).alloc (Nat.le_refl _) (.cells #[.int .u8 97, .int .u8 124] 5 (2, 3))).trans (hb1.mono (by simp)))
  obtain ⟨b, o, hB, c0⟩ : ∃ b o, B = some ⟨b, o, none⟩ ∧ w1.cell? ⟨b, o + 8, none⟩ = some (.int .i64 2) := by
    obtain ⟨b, o, _, _, hB, _, _, hn, _⟩ := ht1.get (i := 1) (x := emptyN) rfl
    exact ⟨b, o, hB, hn.1⟩
  subst hB
  have hbl := World.block_lt_of_cell? w1 _ c0
  rw [ndV_plain]
  rw [show (Trees.of [leafN (maskOf (among [97] 1)), emptyN]).len = 2 from rfl] at *
  clear hb1 ht1 hc1
  have hX1 : Blk ((w1.alloc (.cells #[.int .i64 5, .int .u64 0, .int .u64 0, .int .u64 0, .int .u64 0, .slice (some ⟨b, o, none⟩) 2 cap, .int .i64 0, .int .i64 0] 42)).alloc (.cells #[.int .i64 0, .int .i64 0] 26)) w1.heap.size 42 _ := (Blk.new w1 _ #[.int .i64 5, .int .u64 0, .int .u64 0, .int .u64 0, .int .u64 0, .slice (some ⟨b, o, none⟩) 2 cap, .int .i64 0, .int .i64 0]).alloc _
  have hX2 : Blk ((w1.alloc (.cells #[.int .i64 5, .int .u64 0, .int .u64 0, .int .u64 0, .int .u64 0, .slice (some ⟨b, o, none⟩) 2 cap, .int .i64 0, .int .i64 0] 42)).alloc (.cells #[.int .i64 0, .int .i64 0] 26)) (w1.heap.size + 1) 26 #[.int .i64 0, .int .i64 0] := Blk.new_at (by simp)
  have hb12 : Below w1.heap.size w1 ((w1.alloc (.cells #[.int .i64 5, .int .u64 0, .int .u64 0, .int .u64 0, .int .u64 0, .slice (some ⟨b, o, none⟩) 2 cap, .int .i64 0, .int .i64 0] 42)).alloc (.cells #[.int .i64 0, .int .i64 0] 26)) := ((Below.refl _ _).alloc (Nat.le_refl _) _).alloc (by simp) _
  have hs12 : ((w1.alloc (.cells #[.int .i64 5, .int .u64 0, .int .u64 0, .int .u64 0, .int .u64 0, .slice (some ⟨b, o, none⟩) 2 cap, .int .i64 0, .int .i64 0] 42)).alloc (.cells #[.int .i64 0, .int .i64 0] 26)).heap.size = w1.heap.size + 1 + 1 := by simp
  have HX1 := Lib.hid hX1
  have HX2 := Lib.hid hX2
  have H12 := Lib.hid hb12
  have Hs := Lib.hid hs12
  clear hX1 hX2 hb12 hs12
  dsimp only
  go_wp2_with fail
  refine (tree_second _ _ Hs.out.symm).mono ?_
  rintro e w2 ⟨rfl, hb2⟩
  have hb23 := ((Below.refl _ _).alloc (Nat.le_refl _) (.cells #[.int .u8 97, .int .u8 41, .int .u8 42] 5 (3, 4))).trans (hb2.mono (by simp))
  have hX1 := HX1.out.below hb23 HX1.out.lt
  have hX2 := HX2.out.below hb23 HX2.out.lt
  have c0' := (hb23.cell (p := ⟨b, o + 8, none⟩) (by rw [Hs.out]; show b < _; omega)).trans ((H12.out.cell (p := ⟨b, o + 8, none⟩) hbl).trans c0)
  have HB2 := Lib.hid (HB1.out.trans ((H12.out.trans (hb23.mono H12.out.size)).mono HB1.out.size))
  have hlt1 := hX1.lt
  have hlt2 := hX2.lt
  have hlt3 := World.block_lt_of_cell? w2 _ c0'
  have x0 : w2.cell? ⟨w1.heap.size, 0, none⟩ = some (.int .i64 5) := hX1.cell 0
  have x5 : w2.cell? ⟨w1.heap.size, 5, none⟩ = some (.slice (some ⟨b, o, none⟩) 2 cap) := hX1.cell 5
  have y0 : w2.cell? ⟨w1.heap.size + 1, 0, none⟩ = some (.int .i64 0) := hX2.cell 0
  clear hb2 hb23 hX1 hX2 HX1 HX2 H12 Hs c0 kc kd
  unfold zeroN
  dsimp only
  go_wp2
  go_light
  go_ret
  exact ⟨rfl, (HB2.out.alloc HB2.out.size _).alloc (by have := HB2.out.size; simp; omega) _⟩

end Go.Proofs.Ytkelkadalikibaa
