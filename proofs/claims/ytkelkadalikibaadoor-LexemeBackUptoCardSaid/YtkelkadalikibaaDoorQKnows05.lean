/-
  The contract of knows of chapter 05.
-/
import Derived.Lib.SlBytesConst
import Derived.Test.YtkelkadalikibaaDoorQLexRow
import Derived.Test.YtkelkadalikibaaDoorQSplit
import Derived.Test.YtkelkadalikibaaDoorQEq
namespace Go.Proofs.YtkelkadalikibaaDoor
open Go.RowKit
set_option linter.unusedSimpArgs false
set_option linter.unusedVariables false
set_option maxRecDepth 100000

theorem cuts_first (w : World) (n : Nat) (hn : n = w.heap.size) :
    Calls Tryd.prog 26 #[.slice (some ⟨n, 0, none⟩) 6 6] (w.alloc (.cells #[.int .u8 97, .int .u8 123, .int .u8 51, .int .u8 125, .int .u8 124, .int .u8 46] 5 (6, 7))) (Cuts (.ok [⟨1, 0, among [97] 1, 0, 0⟩, ⟨8, 1, noSet, 3, 3⟩, ⟨4, 4, noSet, 0, 0⟩, ⟨1, 5, dotSet, 0, 0⟩]) (w.alloc (.cells #[.int .u8 97, .int .u8 123, .int .u8 51, .int .u8 125, .int .u8 124, .int .u8 46] 5 (6, 7)))) := by
  have h := split_go (some ⟨n, 0, none⟩) 6 [97, 123, 51, 125, 124, 46] _ (bytes_new w n [97, 123, 51, 125, 124, 46] _ (6, 7) hn rfl (by decide) (by decide)) (by decide)
  rw [split_first] at h
  exact h
theorem cuts_second (w : World) (n : Nat) (hn : n = w.heap.size) :
    Calls Tryd.prog 26 #[.slice (some ⟨n, 0, none⟩) 8 8] (w.alloc (.cells #[.int .u8 97, .int .u8 123, .int .u8 53, .int .u8 48, .int .u8 48, .int .u8 44, .int .u8 51, .int .u8 125] 5 (8, 9))) (Cuts (.error (15, 1)) (w.alloc (.cells #[.int .u8 97, .int .u8 123, .int .u8 53, .int .u8 48, .int .u8 48, .int .u8 44, .int .u8 51, .int .u8 125] 5 (8, 9)))) := by
  have h := split_go (some ⟨n, 0, none⟩) 8 [97, 123, 53, 48, 48, 44, 51, 125] _ (bytes_new w n [97, 123, 53, 48, 48, 44, 51, 125] _ (8, 9) hn rfl (by decide) (by decide)) (by decide)
  rw [split_second] at h
  exact h
theorem cuts_third (w : World) (n : Nat) (hn : n = w.heap.size) :
    Calls Tryd.prog 26 #[.slice (some ⟨n, 0, none⟩) 8 8] (w.alloc (.cells #[.int .u8 97, .int .u8 98, .int .u8 123, .int .u8 49, .int .u8 48, .int .u8 48, .int .u8 49, .int .u8 125] 5 (8, 9))) (Cuts (.error (16, 2)) (w.alloc (.cells #[.int .u8 97, .int .u8 98, .int .u8 123, .int .u8 49, .int .u8 48, .int .u8 48, .int .u8 49, .int .u8 125] 5 (8, 9)))) := by
  have h := split_go (some ⟨n, 0, none⟩) 8 [97, 98, 123, 49, 48, 48, 49, 125] _ (bytes_new w n [97, 98, 123, 49, 48, 48, 49, 125] _ (8, 9) hn rfl (by decide) (by decide)) (by decide)
  rw [split_third] at h
  exact h

theorem below_more' {a w : World} (h : Below a.heap.size a w) (o : Obj) : Below a.heap.size a (w.alloc o) := h.alloc h.size o
set_option maxHeartbeats 400000 in
theorem knows05_go (w : World) :
    Calls Tryd.prog 25 #[] w fun e w' => e = .returned (.bool true) ∧ Below w.heap.size w w' := by
  have kc := fun (w : World) (C : Array Value) (n c : Nat) => Lib.run_convert_bytes_const (P := Tryd.prog) w 22 5 C n c Tryd.underlying22 Tryd.underlying5
  have kd : ∀ (w : World) (o : Obj) (C : Array Value) (n c : Nat), (convert 22 22 (.slice (some ⟨w.heap.size + 1, 0, none⟩) n c)).run Tryd.prog ((w.alloc o).alloc (.cells C 5)) = .ok (.slice (some ⟨w.heap.size + 1, 0, none⟩) n c) ((w.alloc o).alloc (.cells C 5 (C.size, C.size + 1))) := fun w o C n c => by
    have h := kc (w.alloc o) C n c
    rw [World.size_alloc] at h
    exact h
  go_enter Tryd.func25, Tryd.ntmps25
  go_wp2_with fail
  refine (cuts_first _ _ rfl).mono ?_
  rintro e w1 ⟨v, rfl, hb1, hrow1⟩
  have HB1 := Lib.hid (((Below.refl w.heap.size w).alloc (Nat.le_refl _) (.cells #[.int .u8 97, .int .u8 123, .int .u8 51, .int .u8 125, .int .u8 124, .int .u8 46] 5 (6, 7))).trans (hb1.mono (by simp)))
  obtain ⟨A, cap, rfl, hc⟩ := lexRow_of hrow1
  obtain ⟨g, rfl, -, -, -, -, -, -, a6, a7⟩ := hc 1 _ rfl
  obtain ⟨g', hg', b0, -⟩ := hc 2 _ rfl
  obtain rfl : g = g' := by simpa using hg'
  have hgl : g < w1.heap.size := World.block_lt_of_cell? w1 _ a6
  clear hb1 hrow1 hc hg'
  go_wp2_with fail
  refine (cuts_second (w1.alloc (.cells #[.int .i64 0, .int .i64 0] 28)) (w1.heap.size + 1) (by simp)).mono ?_
  rintro e w2 ⟨rfl, hb2⟩
  have h12 : Below w1.heap.size w1 w2 := (((Below.refl w1.heap.size w1).alloc (Nat.le_refl _) _).alloc (by simp) _).trans (hb2.mono (by simp; omega))
  have HB2 := Lib.hid (HB1.out.trans (h12.mono HB1.out.size))
  have a6 := (h12.cell (p := ⟨g, 1 * 8 + 6, none⟩) hgl).trans a6
  have a7 := (h12.cell (p := ⟨g, 1 * 8 + 7, none⟩) hgl).trans a7
  have b0 := (h12.cell (p := ⟨g, 2 * 8, none⟩) hgl).trans b0
  have hgl2 : g < w2.heap.size := World.block_lt_of_cell? w2 _ a6
  clear hb2 h12
  go_wp2_with fail
  refine (cuts_third (w2.alloc (.cells #[.int .i64 15, .int .i64 1] 28)) (w2.heap.size + 1) (by simp)).mono ?_
  rintro e w3 ⟨rfl, hb3⟩
  have h23 : Below (w2.alloc (.cells #[.int .i64 15, .int .i64 1] 28)).heap.size (w2.alloc (.cells #[.int .i64 15, .int .i64 1] 28)) w3 := ((Below.refl _ _).alloc (Nat.le_refl _) _).trans (hb3.mono (by simp))
  have hbad := Blk.below (Blk.new w2 28 #[.int .i64 15, .int .i64 1]) h23 (by simp)
  obtain ⟨e0, e1, -, -⟩ := hbad.c2
  have h23' : Below w2.heap.size w2 w3 := ((Below.refl w2.heap.size w2).alloc (Nat.le_refl _) _).trans (h23.mono (by simp))
  have HB3 := Lib.hid (HB2.out.trans (h23'.mono HB2.out.size))
  have a6 := (h23'.cell (p := ⟨g, 1 * 8 + 6, none⟩) hgl2).trans a6
  have a7 := (h23'.cell (p := ⟨g, 1 * 8 + 7, none⟩) hgl2).trans a7
  have b0 := (h23'.cell (p := ⟨g, 2 * 8, none⟩) hgl2).trans b0
  have a6' : w3.cell? ⟨g, 14, none⟩ = some (.int .i64 3) := a6
  have a7' : w3.cell? ⟨g, 15, none⟩ = some (.int .i64 3) := a7
  have b0' : w3.cell? ⟨g, 16, none⟩ = some (.int .i64 4) := b0
  clear hb3 h23 h23' hbad a6 a7 b0
  have hg3 : g < w3.heap.size := World.block_lt_of_cell? w3 _ a6'
  have hl3 : w2.heap.size < w3.heap.size := World.block_lt_of_cell? w3 _ e0
  have m1 : g ≠ w3.heap.size := Nat.ne_of_lt hg3
  have m2 : w2.heap.size ≠ w3.heap.size := Nat.ne_of_lt hl3
  go_wp2
  go_light
  go_ret
  exact ⟨rfl, below_more' HB3.out _⟩

end Go.Proofs.YtkelkadalikibaaDoor
