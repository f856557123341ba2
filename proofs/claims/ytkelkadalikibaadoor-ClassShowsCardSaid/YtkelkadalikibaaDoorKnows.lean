/-
  The contract of the law's knows (layer 4): the chapter's examples come.
-/
import Derived.Test.YtkelkadalikibaaDoorShow
import Derived.Test.YtkelkadalikibaaDoorOf
import Derived.Test.YtkelkadalikibaaDoorEq
import Derived.Test.YtkelkadalikibaaDoorRead
import Derived.Lib.SlBytesConst
namespace Go.Proofs.YtkelkadalikibaaDoor
open Go.RowKit Go.Shelf
set_option linter.unusedSimpArgs false
set_option linter.unusedVariables false
set_option maxRecDepth 100000

/-- A new block of bytes. -/
theorem bytes_new (w : World) (n : Nat) (bs : List Nat) (cs : Array Value) (fr : Nat × Nat) (hn : n = w.heap.size) (hcs : cs = (bs.map (fun c : Nat => Value.int .u8 (c : Int))).toArray) (h : ∀ x ∈ bs, x < 256) (hl : bs.length ≤ 140737488355328) :
    BytesAt (w.alloc (.cells cs 5 fr)) (w.alloc (.cells cs 5 fr)).heap.size (some ⟨n, 0, none⟩) bs := by
  subst hn
  exact ⟨h, hl, fun _ => ⟨w.heap.size, 0, rfl, by simp, fun i hi => by
    rw [Nat.zero_add, cell_of_row _ w.heap.size i cs 5 fr (heap_alloc_new w _), hcs]
    unfold byteAt
    simp [hi]⟩⟩

theorem know_read : readS [120, 91, 122, 45, 97, 93] 1 = .error (15, 2) := by rfl
theorem know_one : strOf (showS (fun c => !among [97] 1 c)) = ⟨#[91, 94, 97, 93]⟩ := by
  have h : showS (fun c => !among [97] 1 c) = [91, 94, 97, 93] := by decide +kernel
  rw [h]; rfl
theorem know_two : strOf (showS (among [97, 98, 120, 121, 122] 5)) = ⟨#[91, 97, 98, 120, 45, 122, 93]⟩ := by
  have h : showS (among [97, 98, 120, 121, 122] 5) = [91, 97, 98, 120, 45, 122, 93] := by decide +kernel
  rw [h]; rfl

set_option maxHeartbeats 2000000 in
theorem knows_go (w : World) (hT : TabAt 0 Lib.deBruijn64tab w) (hw0 : 0 < w.heap.size) :
    Calls Tryd.prog 11 #[] w fun e W' => e = .returned (.bool true) ∧ Below w.heap.size w W' := by
  have HT := Lib.hid hT
  clear hT
  have kc := fun (w : World) (C : Array Value) (n c : Nat) => Lib.run_convert_bytes_const (P := Tryd.prog) w 22 5 C n c Tryd.underlying22 Tryd.underlying5
  go_enter Tryd.func11, Tryd.ntmps11
  go_wp2_with fail
  refine (read_go (some ⟨w.heap.size, 0, none⟩) 6 [120, 91, 122, 45, 97, 93] 1 _ (bytes_new w _ [120, 91, 122, 45, 97, 93] _ _ rfl rfl (by decide) (by decide))).mono ?_
  rintro e w1 ⟨rfl, hb1⟩
  rw [know_read]
  have HB1 := Lib.hid (((Below.refl w.heap.size w).alloc (Nat.le_refl _) _).trans (hb1.mono (by simp)))
  clear hb1
  unfold classVal
  go_wp2_with fail
  refine (of_any _ [97] 1 _ (bytes_new _ _ [97] _ _ (by simp) rfl (by decide) (by decide))).mono ?_
  rintro e w2 ⟨rfl, hb2⟩
  have hk2 : Blk w2 (w1.heap.size + 1) 28 #[.int .i64 15, .int .i64 2] := Blk.below (by exact (Blk.new_at (by simp)).alloc _) hb2 (by simp)
  have hz1 := HB1.out.size
  have HB2 := Lib.hid (((((HB1.out.alloc hz1 _).alloc (by simp; omega) _).alloc (by simp; omega) _)).trans (hb2.mono (by simp; omega)))
  clear hb2
  go_wp2_with fail
  refine (not_any _ _).mono ?_
  rintro e w3 ⟨rfl, hb3⟩
  have hk3 := hk2.below hb3 hk2.lt
  have HB3 := Lib.hid (HB2.out.trans (hb3.mono HB2.out.size))
  clear hb3 hk2
  go_wp2_with fail
  refine (show_go _ _ (TabAt.below HB3.out hw0 HT.out) (by have := HB3.out.size; omega)).mono ?_
  rintro e w4 ⟨rfl, hb4⟩
  have hk4 := hk3.below hb4 hk3.lt
  have HB4 := Lib.hid (HB3.out.trans (hb4.mono HB3.out.size))
  clear hb4 hk3
  rw [know_one]
  go_wp2_with fail
  refine (of_any _ [97, 98, 120, 121, 122] 5 _ (bytes_new _ _ [97, 98, 120, 121, 122] _ _ (by simp) rfl (by decide) (by decide))).mono ?_
  rintro e w5 ⟨rfl, hb5⟩
  have hk5 := (hk4.alloc _).below hb5 (by have := hk4.lt; simp; omega)
  have HB5 := Lib.hid ((HB4.out.alloc HB4.out.size _).trans (hb5.mono (by have := HB4.out.size; simp; omega)))
  clear hb5 hk4
  go_wp2_with fail
  refine (show_go _ _ (TabAt.below HB5.out hw0 HT.out) (by have := HB5.out.size; omega)).mono ?_
  rintro e w6 ⟨rfl, hb6⟩
  have hk6 := hk5.below hb6 hk5.lt
  have HB6 := Lib.hid (HB5.out.trans (hb6.mono HB5.out.size))
  clear hb6 hk5
  rw [know_two]
  obtain ⟨c0, c1, f0, f1⟩ := hk6.c2
  clear hk6
  go_wp2
  go_light
  go_ret
  exact ⟨rfl, HB6.out⟩

end Go.Proofs.YtkelkadalikibaaDoor
