/- Texts of the claim. -/
import Derived.Lib.AppendStr
import Derived.Deep.Onto
import Derived.Test.YtofbfafnpdaejaaGreatDoorMZ01
import Derived.Test.YtofbfafnpdaejaaGreatDoorMZ02
import Derived.Test.YtofbfafnpdaejaaGreatDoorMRShow
import Derived.Test.YtofbfafnpdaejaaGreatDoorMZ03
import Derived.Test.YtofbfafnpdaejaaGreatDoorMShow
import Derived.Test.YtofbfafnpdaejaaGreatDoorMSame
namespace Go.Proofs.YtofbfafnpdaejaaGreatDoor
open Go.RowKit
set_option linter.unusedSimpArgs false
set_option linter.unusedVariables false
set_option maxRecDepth 100000
set_option maxHeartbeats 8000000
@[go_sem] theorem run_str1_next (w : World) (o : Obj) (c : Nat) : (convert 29 9 (.slice (some ⟨w.heap.size + 1, 0, none⟩) 1 1)).run Tryz.prog ((w.alloc o).alloc (.cells #[.int .u8 (c : Int)] 5)) =
  .ok (.string (strOf [c])) ((w.alloc o).alloc (.cells #[.int .u8 (c : Int)] 5)) := by
 have h := run_str1 (w.alloc o) c
 rw [World.size_alloc] at h
 exact h
end Go.Proofs.YtofbfafnpdaejaaGreatDoor
namespace Go.Proofs.YtofbfafnpdaejaaGreatDoor
set_option linter.unusedSimpArgs false
set_option linter.unusedVariables false
set_option maxRecDepth 100000
set_option maxHeartbeats 8000000
end Go.Proofs.YtofbfafnpdaejaaGreatDoor
namespace Go.Proofs.YtofbfafnpdaejaaGreatDoor
open Go.RowKit
set_option linter.unusedSimpArgs false
set_option linter.unusedVariables false
set_option maxRecDepth 100000
set_option maxHeartbeats 8000000
theorem behind_no1 (x1 y1 x2 y2 : Int) (f1 l1 f2 l2 : Nat → Bool) (h2 : Bool) (w : World) :
  Calls Tryz.prog 177 #[.agg #[.bool true, .int .i64 x1, .int .i64 y1, .int .u64 (word f1 0), .int .u64 (word f1 1), .int .u64 (word f1 2), .int .u64 (word f1 3), .int .u64 (word l1 0), .int .u64 (word l1 1), .int .u64 (word l1 2), .int .u64 (word l1 3)], .agg #[.bool h2, .int .i64 x2, .int .i64 y2, .int .u64 (word f2 0), .int .u64 (word f2 1), .int .u64 (word f2 2), .int .u64 (word f2 3), .int .u64 (word l2 0), .int .u64 (word l2 1), .int .u64 (word l2 2), .int .u64 (word l2 3)]] w fun e w' => e = .returned (sumV (behindF ⟨true, x1, y1, f1, l1⟩ ⟨h2, x2, y2, f2, l2⟩)) ∧ Below w.heap.size w w' := by
 have HV := Lib.hid (show behindF ⟨true, x1, y1, f1, l1⟩ ⟨h2, x2, y2, f2, l2⟩ = nothingF by unfold behindF; rw [if_pos (by simp)])
 have hb : Below w.heap.size w (((w.alloc (.cells #[.bool true, .int .i64 x1, .int .i64 y1, .int .u64 (word f1 0), .int .u64 (word f1 1), .int .u64 (word f1 2), .int .u64 (word f1 3), .int .u64 (word l1 0), .int .u64 (word l1 1), .int .u64 (word l1 2), .int .u64 (word l1 3)] 121)).alloc (.cells #[.bool h2, .int .i64 x2, .int .i64 y2, .int .u64 (word f2 0), .int .u64 (word f2 1), .int .u64 (word f2 2), .int .u64 (word f2 3), .int .u64 (word l2 0), .int .u64 (word l2 1), .int .u64 (word l2 2), .int .u64 (word l2 3)] 121)).alloc (.cells #[.bool false, .int .i64 0, .int .i64 0, .int .u64 0, .int .u64 0, .int .u64 0, .int .u64 0, .int .u64 0, .int .u64 0, .int .u64 0, .int .u64 0] 121)) := (((Below.refl _ _).alloc (Nat.le_refl _) _).alloc (by simp) _).alloc (by simp; omega) _
 have HB := Lib.hid hb
 have hXA := ((Blk.new w 121 #[.bool true, .int .i64 x1, .int .i64 y1, .int .u64 (word f1 0), .int .u64 (word f1 1), .int .u64 (word f1 2), .int .u64 (word f1 3), .int .u64 (word l1 0), .int .u64 (word l1 1), .int .u64 (word l1 2), .int .u64 (word l1 3)]).alloc (.cells #[.bool h2, .int .i64 x2, .int .i64 y2, .int .u64 (word f2 0), .int .u64 (word f2 1), .int .u64 (word f2 2), .int .u64 (word f2 3), .int .u64 (word l2 0), .int .u64 (word l2 1), .int .u64 (word l2 2), .int .u64 (word l2 3)] 121)).alloc (.cells #[.bool false, .int .i64 0, .int .i64 0, .int .u64 0, .int .u64 0, .int .u64 0, .int .u64 0, .int .u64 0, .int .u64 0, .int .u64 0, .int .u64 0] 121)
 have hXB := (show Blk ((w.alloc (.cells #[.bool true, .int .i64 x1, .int .i64 y1, .int .u64 (word f1 0), .int .u64 (word f1 1), .int .u64 (word f1 2), .int .u64 (word f1 3), .int .u64 (word l1 0), .int .u64 (word l1 1), .int .u64 (word l1 2), .int .u64 (word l1 3)] 121)).alloc (.cells #[.bool h2, .int .i64 x2, .int .i64 y2, .int .u64 (word f2 0), .int .u64 (word f2 1), .int .u64 (word f2 2), .int .u64 (word f2 3), .int .u64 (word l2 0), .int .u64 (word l2 1), .int .u64 (word l2 2), .int .u64 (word l2 3)] 121)) (w.heap.size + 1) 121 #[.bool h2, .int .i64 x2, .int .i64 y2, .int .u64 (word f2 0), .int .u64 (word f2 1), .int .u64 (word f2 2), .int .u64 (word f2 3), .int .u64 (word l2 0), .int .u64 (word l2 1), .int .u64 (word l2 2), .int .u64 (word l2 3)] from Blk.new_at (by simp)).alloc (.cells #[.bool false, .int .i64 0, .int .i64 0, .int .u64 0, .int .u64 0, .int .u64 0, .int .u64 0, .int .u64 0, .int .u64 0, .int .u64 0, .int .u64 0] 121)
 have HXR := Lib.hid (show Blk (((w.alloc (.cells #[.bool true, .int .i64 x1, .int .i64 y1, .int .u64 (word f1 0), .int .u64 (word f1 1), .int .u64 (word f1 2), .int .u64 (word f1 3), .int .u64 (word l1 0), .int .u64 (word l1 1), .int .u64 (word l1 2), .int .u64 (word l1 3)] 121)).alloc (.cells #[.bool h2, .int .i64 x2, .int .i64 y2, .int .u64 (word f2 0), .int .u64 (word f2 1), .int .u64 (word f2 2), .int .u64 (word f2 3), .int .u64 (word l2 0), .int .u64 (word l2 1), .int .u64 (word l2 2), .int .u64 (word l2 3)] 121)).alloc (.cells #[.bool false, .int .i64 0, .int .i64 0, .int .u64 0, .int .u64 0, .int .u64 0, .int .u64 0, .int .u64 0, .int .u64 0, .int .u64 0, .int .u64 0] 121)) (w.heap.size + 1 + 1) 121 #[.bool false, .int .i64 0, .int .i64 0, .int .u64 0, .int .u64 0, .int .u64 0, .int .u64 0, .int .u64 0, .int .u64 0, .int .u64 0, .int .u64 0] from Blk.new_at (by simp))
 clear hb
 go_enter Tryz.func177, Tryz.ntmps177
 go_upto_region 1 with fail
 generalize (((w.alloc (.cells #[.bool true, .int .i64 x1, .int .i64 y1, .int .u64 (word f1 0), .int .u64 (word f1 1), .int .u64 (word f1 2), .int .u64 (word f1 3), .int .u64 (word l1 0), .int .u64 (word l1 1), .int .u64 (word l1 2), .int .u64 (word l1 3)] 121)).alloc (.cells #[.bool h2, .int .i64 x2, .int .i64 y2, .int .u64 (word f2 0), .int .u64 (word f2 1), .int .u64 (word f2 2), .int .u64 (word f2 3), .int .u64 (word l2 0), .int .u64 (word l2 1), .int .u64 (word l2 2), .int .u64 (word l2 3)] 121)).alloc (.cells #[.bool false, .int .i64 0, .int .i64 0, .int .u64 0, .int .u64 0, .int .u64 0, .int .u64 0, .int .u64 0, .int .u64 0, .int .u64 0, .int .u64 0] 121)) = w2 at *
 obtain ⟨a0, a1, a2, a3, a4, a5, a6, a7, a8, a9, a10⟩ := ((hXA)).c11r
 have hla := (hXA).lt
 obtain ⟨b0, b1, b2, b3, b4, b5, b6, b7, b8, b9, b10⟩ := ((hXB)).c11r
 have hlb := (hXB).lt
 clear hXA hXB
 go_wp2_with fail
 refine (nothing_go _).mono ?_
 rintro e w3 ⟨rfl, hb3⟩
 have hR := HXR.out.below hb3 HXR.out.lt
 have HB3 := Lib.hid (HB.out.trans (hb3.mono HB.out.size))
 have HR := Lib.hid hR
 obtain ⟨r0, r1, r2, r3, r4, r5, r6, r7, r8, r9, r10⟩ := ((hR)).c11r
 obtain ⟨q0, q1, q2, q3, q4, q5, q6, q7, q8, q9, q10⟩ := ((hR)).f11r
 have hlr := (hR).lt
 clear hR hb3
 rw [nothing_val]
 dsimp only
 go_wp2
 refine bodyPost_ret (ret_sum Tryz.results177 rfl (Blk.store11 HR.out)) rfl ⟨by rw [HV.out, nothing_val], below_set11 HB3.out (by omega)⟩
theorem behind_no2 (x1 y1 x2 y2 : Int) (f1 l1 f2 l2 : Nat → Bool) (w : World) :
  Calls Tryz.prog 177 #[.agg #[.bool false, .int .i64 x1, .int .i64 y1, .int .u64 (word f1 0), .int .u64 (word f1 1), .int .u64 (word f1 2), .int .u64 (word f1 3), .int .u64 (word l1 0), .int .u64 (word l1 1), .int .u64 (word l1 2), .int .u64 (word l1 3)], .agg #[.bool true, .int .i64 x2, .int .i64 y2, .int .u64 (word f2 0), .int .u64 (word f2 1), .int .u64 (word f2 2), .int .u64 (word f2 3), .int .u64 (word l2 0), .int .u64 (word l2 1), .int .u64 (word l2 2), .int .u64 (word l2 3)]] w fun e w' => e = .returned (sumV (behindF ⟨false, x1, y1, f1, l1⟩ ⟨true, x2, y2, f2, l2⟩)) ∧ Below w.heap.size w w' := by
 have HV := Lib.hid (show behindF ⟨false, x1, y1, f1, l1⟩ ⟨true, x2, y2, f2, l2⟩ = nothingF by unfold behindF; rw [if_pos (by simp)])
 have hb : Below w.heap.size w (((w.alloc (.cells #[.bool false, .int .i64 x1, .int .i64 y1, .int .u64 (word f1 0), .int .u64 (word f1 1), .int .u64 (word f1 2), .int .u64 (word f1 3), .int .u64 (word l1 0), .int .u64 (word l1 1), .int .u64 (word l1 2), .int .u64 (word l1 3)] 121)).alloc (.cells #[.bool true, .int .i64 x2, .int .i64 y2, .int .u64 (word f2 0), .int .u64 (word f2 1), .int .u64 (word f2 2), .int .u64 (word f2 3), .int .u64 (word l2 0), .int .u64 (word l2 1), .int .u64 (word l2 2), .int .u64 (word l2 3)] 121)).alloc (.cells #[.bool false, .int .i64 0, .int .i64 0, .int .u64 0, .int .u64 0, .int .u64 0, .int .u64 0, .int .u64 0, .int .u64 0, .int .u64 0, .int .u64 0] 121)) := (((Below.refl _ _).alloc (Nat.le_refl _) _).alloc (by simp) _).alloc (by simp; omega) _
 have HB := Lib.hid hb
 have hXA := ((Blk.new w 121 #[.bool false, .int .i64 x1, .int .i64 y1, .int .u64 (word f1 0), .int .u64 (word f1 1), .int .u64 (word f1 2), .int .u64 (word f1 3), .int .u64 (word l1 0), .int .u64 (word l1 1), .int .u64 (word l1 2), .int .u64 (word l1 3)]).alloc (.cells #[.bool true, .int .i64 x2, .int .i64 y2, .int .u64 (word f2 0), .int .u64 (word f2 1), .int .u64 (word f2 2), .int .u64 (word f2 3), .int .u64 (word l2 0), .int .u64 (word l2 1), .int .u64 (word l2 2), .int .u64 (word l2 3)] 121)).alloc (.cells #[.bool false, .int .i64 0, .int .i64 0, .int .u64 0, .int .u64 0, .int .u64 0, .int .u64 0, .int .u64 0, .int .u64 0, .int .u64 0, .int .u64 0] 121)
 have hXB := (show Blk ((w.alloc (.cells #[.bool false, .int .i64 x1, .int .i64 y1, .int .u64 (word f1 0), .int .u64 (word f1 1), .int .u64 (word f1 2), .int .u64 (word f1 3), .int .u64 (word l1 0), .int .u64 (word l1 1), .int .u64 (word l1 2), .int .u64 (word l1 3)] 121)).alloc (.cells #[.bool true, .int .i64 x2, .int .i64 y2, .int .u64 (word f2 0), .int .u64 (word f2 1), .int .u64 (word f2 2), .int .u64 (word f2 3), .int .u64 (word l2 0), .int .u64 (word l2 1), .int .u64 (word l2 2), .int .u64 (word l2 3)] 121)) (w.heap.size + 1) 121 #[.bool true, .int .i64 x2, .int .i64 y2, .int .u64 (word f2 0), .int .u64 (word f2 1), .int .u64 (word f2 2), .int .u64 (word f2 3), .int .u64 (word l2 0), .int .u64 (word l2 1), .int .u64 (word l2 2), .int .u64 (word l2 3)] from Blk.new_at (by simp)).alloc (.cells #[.bool false, .int .i64 0, .int .i64 0, .int .u64 0, .int .u64 0, .int .u64 0, .int .u64 0, .int .u64 0, .int .u64 0, .int .u64 0, .int .u64 0] 121)
 have HXR := Lib.hid (show Blk (((w.alloc (.cells #[.bool false, .int .i64 x1, .int .i64 y1, .int .u64 (word f1 0), .int .u64 (word f1 1), .int .u64 (word f1 2), .int .u64 (word f1 3), .int .u64 (word l1 0), .int .u64 (word l1 1), .int .u64 (word l1 2), .int .u64 (word l1 3)] 121)).alloc (.cells #[.bool true, .int .i64 x2, .int .i64 y2, .int .u64 (word f2 0), .int .u64 (word f2 1), .int .u64 (word f2 2), .int .u64 (word f2 3), .int .u64 (word l2 0), .int .u64 (word l2 1), .int .u64 (word l2 2), .int .u64 (word l2 3)] 121)).alloc (.cells #[.bool false, .int .i64 0, .int .i64 0, .int .u64 0, .int .u64 0, .int .u64 0, .int .u64 0, .int .u64 0, .int .u64 0, .int .u64 0, .int .u64 0] 121)) (w.heap.size + 1 + 1) 121 #[.bool false, .int .i64 0, .int .i64 0, .int .u64 0, .int .u64 0, .int .u64 0, .int .u64 0, .int .u64 0, .int .u64 0, .int .u64 0, .int .u64 0] from Blk.new_at (by simp))
 clear hb
 go_enter Tryz.func177, Tryz.ntmps177
 go_upto_region 1 with fail
 generalize (((w.alloc (.cells #[.bool false, .int .i64 x1, .int .i64 y1, .int .u64 (word f1 0), .int .u64 (word f1 1), .int .u64 (word f1 2), .int .u64 (word f1 3), .int .u64 (word l1 0), .int .u64 (word l1 1), .int .u64 (word l1 2), .int .u64 (word l1 3)] 121)).alloc (.cells #[.bool true, .int .i64 x2, .int .i64 y2, .int .u64 (word f2 0), .int .u64 (word f2 1), .int .u64 (word f2 2), .int .u64 (word f2 3), .int .u64 (word l2 0), .int .u64 (word l2 1), .int .u64 (word l2 2), .int .u64 (word l2 3)] 121)).alloc (.cells #[.bool false, .int .i64 0, .int .i64 0, .int .u64 0, .int .u64 0, .int .u64 0, .int .u64 0, .int .u64 0, .int .u64 0, .int .u64 0, .int .u64 0] 121)) = w2 at *
 obtain ⟨a0, a1, a2, a3, a4, a5, a6, a7, a8, a9, a10⟩ := ((hXA)).c11r
 have hla := (hXA).lt
 obtain ⟨b0, b1, b2, b3, b4, b5, b6, b7, b8, b9, b10⟩ := ((hXB)).c11r
 have hlb := (hXB).lt
 clear hXA hXB
 go_wp2_with fail
 refine (nothing_go _).mono ?_
 rintro e w3 ⟨rfl, hb3⟩
 have hR := HXR.out.below hb3 HXR.out.lt
 have HB3 := Lib.hid (HB.out.trans (hb3.mono HB.out.size))
 have HR := Lib.hid hR
 obtain ⟨r0, r1, r2, r3, r4, r5, r6, r7, r8, r9, r10⟩ := ((hR)).c11r
 obtain ⟨q0, q1, q2, q3, q4, q5, q6, q7, q8, q9, q10⟩ := ((hR)).f11r
 have hlr := (hR).lt
 clear hR hb3
 rw [nothing_val]
 dsimp only
 go_wp2
 refine bodyPost_ret (ret_sum Tryz.results177 rfl (Blk.store11 HR.out)) rfl ⟨by rw [HV.out, nothing_val], below_set11 HB3.out (by omega)⟩
theorem fbehind_go (a b : SumS) (w : World) (ha : SumOk a) (hb : SumOk b) :
  Calls Tryz.prog 177 #[sumV a, sumV b] w fun e w' => e = .returned (sumV (behindF a b)) ∧ Below w.heap.size w w' := by
 obtain ⟨h1, x1, y1, f1, l1⟩ := a
 obtain ⟨h2, x2, y2, f2, l2⟩ := b
 cases h1 with
 | true => exact behind_no1 x1 y1 x2 y2 f1 l1 f2 l2 h2 w
 | false =>
  cases h2 with
  | true => exact behind_no2 x1 y1 x2 y2 f1 l1 f2 l2 w
  | false => exact behind_words x1 y1 x2 y2 f1 l1 f2 l2 w ha hb
theorem either_no1 (x1 y1 x2 y2 : Int) (f1 l1 f2 l2 : Nat → Bool) (h2 : Bool) (w : World) :
  Calls Tryz.prog 178 #[.agg #[.bool true, .int .i64 x1, .int .i64 y1, .int .u64 (word f1 0), .int .u64 (word f1 1), .int .u64 (word f1 2), .int .u64 (word f1 3), .int .u64 (word l1 0), .int .u64 (word l1 1), .int .u64 (word l1 2), .int .u64 (word l1 3)], .agg #[.bool h2, .int .i64 x2, .int .i64 y2, .int .u64 (word f2 0), .int .u64 (word f2 1), .int .u64 (word f2 2), .int .u64 (word f2 3), .int .u64 (word l2 0), .int .u64 (word l2 1), .int .u64 (word l2 2), .int .u64 (word l2 3)]] w fun e w' => e = .returned (sumV (eitherF ⟨true, x1, y1, f1, l1⟩ ⟨h2, x2, y2, f2, l2⟩)) ∧ Below w.heap.size w w' := by
 have HV := Lib.hid (show eitherF ⟨true, x1, y1, f1, l1⟩ ⟨h2, x2, y2, f2, l2⟩ = ⟨h2, x2, y2, f2, l2⟩ by unfold eitherF; rw [if_pos rfl])
 have hb : Below w.heap.size w (((w.alloc (.cells #[.bool true, .int .i64 x1, .int .i64 y1, .int .u64 (word f1 0), .int .u64 (word f1 1), .int .u64 (word f1 2), .int .u64 (word f1 3), .int .u64 (word l1 0), .int .u64 (word l1 1), .int .u64 (word l1 2), .int .u64 (word l1 3)] 121)).alloc (.cells #[.bool h2, .int .i64 x2, .int .i64 y2, .int .u64 (word f2 0), .int .u64 (word f2 1), .int .u64 (word f2 2), .int .u64 (word f2 3), .int .u64 (word l2 0), .int .u64 (word l2 1), .int .u64 (word l2 2), .int .u64 (word l2 3)] 121)).alloc (.cells #[.bool false, .int .i64 0, .int .i64 0, .int .u64 0, .int .u64 0, .int .u64 0, .int .u64 0, .int .u64 0, .int .u64 0, .int .u64 0, .int .u64 0] 121)) := (((Below.refl _ _).alloc (Nat.le_refl _) _).alloc (by simp) _).alloc (by simp; omega) _
 have HB := Lib.hid hb
 have hXA := ((Blk.new w 121 #[.bool true, .int .i64 x1, .int .i64 y1, .int .u64 (word f1 0), .int .u64 (word f1 1), .int .u64 (word f1 2), .int .u64 (word f1 3), .int .u64 (word l1 0), .int .u64 (word l1 1), .int .u64 (word l1 2), .int .u64 (word l1 3)]).alloc (.cells #[.bool h2, .int .i64 x2, .int .i64 y2, .int .u64 (word f2 0), .int .u64 (word f2 1), .int .u64 (word f2 2), .int .u64 (word f2 3), .int .u64 (word l2 0), .int .u64 (word l2 1), .int .u64 (word l2 2), .int .u64 (word l2 3)] 121)).alloc (.cells #[.bool false, .int .i64 0, .int .i64 0, .int .u64 0, .int .u64 0, .int .u64 0, .int .u64 0, .int .u64 0, .int .u64 0, .int .u64 0, .int .u64 0] 121)
 have hXB := (show Blk ((w.alloc (.cells #[.bool true, .int .i64 x1, .int .i64 y1, .int .u64 (word f1 0), .int .u64 (word f1 1), .int .u64 (word f1 2), .int .u64 (word f1 3), .int .u64 (word l1 0), .int .u64 (word l1 1), .int .u64 (word l1 2), .int .u64 (word l1 3)] 121)).alloc (.cells #[.bool h2, .int .i64 x2, .int .i64 y2, .int .u64 (word f2 0), .int .u64 (word f2 1), .int .u64 (word f2 2), .int .u64 (word f2 3), .int .u64 (word l2 0), .int .u64 (word l2 1), .int .u64 (word l2 2), .int .u64 (word l2 3)] 121)) (w.heap.size + 1) 121 #[.bool h2, .int .i64 x2, .int .i64 y2, .int .u64 (word f2 0), .int .u64 (word f2 1), .int .u64 (word f2 2), .int .u64 (word f2 3), .int .u64 (word l2 0), .int .u64 (word l2 1), .int .u64 (word l2 2), .int .u64 (word l2 3)] from Blk.new_at (by simp)).alloc (.cells #[.bool false, .int .i64 0, .int .i64 0, .int .u64 0, .int .u64 0, .int .u64 0, .int .u64 0, .int .u64 0, .int .u64 0, .int .u64 0, .int .u64 0] 121)
 have HXR := Lib.hid (show Blk (((w.alloc (.cells #[.bool true, .int .i64 x1, .int .i64 y1, .int .u64 (word f1 0), .int .u64 (word f1 1), .int .u64 (word f1 2), .int .u64 (word f1 3), .int .u64 (word l1 0), .int .u64 (word l1 1), .int .u64 (word l1 2), .int .u64 (word l1 3)] 121)).alloc (.cells #[.bool h2, .int .i64 x2, .int .i64 y2, .int .u64 (word f2 0), .int .u64 (word f2 1), .int .u64 (word f2 2), .int .u64 (word f2 3), .int .u64 (word l2 0), .int .u64 (word l2 1), .int .u64 (word l2 2), .int .u64 (word l2 3)] 121)).alloc (.cells #[.bool false, .int .i64 0, .int .i64 0, .int .u64 0, .int .u64 0, .int .u64 0, .int .u64 0, .int .u64 0, .int .u64 0, .int .u64 0, .int .u64 0] 121)) (w.heap.size + 1 + 1) 121 #[.bool false, .int .i64 0, .int .i64 0, .int .u64 0, .int .u64 0, .int .u64 0, .int .u64 0, .int .u64 0, .int .u64 0, .int .u64 0, .int .u64 0] from Blk.new_at (by simp))
 clear hb
 go_enter Tryz.func178, Tryz.ntmps178
 go_upto_region 1 with fail
 generalize (((w.alloc (.cells #[.bool true, .int .i64 x1, .int .i64 y1, .int .u64 (word f1 0), .int .u64 (word f1 1), .int .u64 (word f1 2), .int .u64 (word f1 3), .int .u64 (word l1 0), .int .u64 (word l1 1), .int .u64 (word l1 2), .int .u64 (word l1 3)] 121)).alloc (.cells #[.bool h2, .int .i64 x2, .int .i64 y2, .int .u64 (word f2 0), .int .u64 (word f2 1), .int .u64 (word f2 2), .int .u64 (word f2 3), .int .u64 (word l2 0), .int .u64 (word l2 1), .int .u64 (word l2 2), .int .u64 (word l2 3)] 121)).alloc (.cells #[.bool false, .int .i64 0, .int .i64 0, .int .u64 0, .int .u64 0, .int .u64 0, .int .u64 0, .int .u64 0, .int .u64 0, .int .u64 0, .int .u64 0] 121)) = w2 at *
 obtain ⟨a0, a1, a2, a3, a4, a5, a6, a7, a8, a9, a10⟩ := ((hXA)).c11r
 have hla := (hXA).lt
 obtain ⟨b0, b1, b2, b3, b4, b5, b6, b7, b8, b9, b10⟩ := ((hXB)).c11r
 have hlb := (hXB).lt
 clear hXA hXB
 have hR := HXR.out
 obtain ⟨r0, r1, r2, r3, r4, r5, r6, r7, r8, r9, r10⟩ := ((hR)).c11r
 obtain ⟨q0, q1, q2, q3, q4, q5, q6, q7, q8, q9, q10⟩ := ((hR)).f11r
 have hlr := (hR).lt
 clear hR
 go_wp2
 refine bodyPost_ret (ret_sum Tryz.results178 rfl (Blk.store11 HXR.out)) rfl ⟨by rw [HV.out]; rfl, below_set11 HB.out (by omega)⟩
theorem either_no2 (x1 y1 x2 y2 : Int) (f1 l1 f2 l2 : Nat → Bool) (w : World) :
  Calls Tryz.prog 178 #[.agg #[.bool false, .int .i64 x1, .int .i64 y1, .int .u64 (word f1 0), .int .u64 (word f1 1), .int .u64 (word f1 2), .int .u64 (word f1 3), .int .u64 (word l1 0), .int .u64 (word l1 1), .int .u64 (word l1 2), .int .u64 (word l1 3)], .agg #[.bool true, .int .i64 x2, .int .i64 y2, .int .u64 (word f2 0), .int .u64 (word f2 1), .int .u64 (word f2 2), .int .u64 (word f2 3), .int .u64 (word l2 0), .int .u64 (word l2 1), .int .u64 (word l2 2), .int .u64 (word l2 3)]] w fun e w' => e = .returned (sumV (eitherF ⟨false, x1, y1, f1, l1⟩ ⟨true, x2, y2, f2, l2⟩)) ∧ Below w.heap.size w w' := by
 have HV := Lib.hid (show eitherF ⟨false, x1, y1, f1, l1⟩ ⟨true, x2, y2, f2, l2⟩ = ⟨false, x1, y1, f1, l1⟩ by unfold eitherF; rw [if_neg (by simp), if_pos rfl])
 have hb : Below w.heap.size w (((w.alloc (.cells #[.bool false, .int .i64 x1, .int .i64 y1, .int .u64 (word f1 0), .int .u64 (word f1 1), .int .u64 (word f1 2), .int .u64 (word f1 3), .int .u64 (word l1 0), .int .u64 (word l1 1), .int .u64 (word l1 2), .int .u64 (word l1 3)] 121)).alloc (.cells #[.bool true, .int .i64 x2, .int .i64 y2, .int .u64 (word f2 0), .int .u64 (word f2 1), .int .u64 (word f2 2), .int .u64 (word f2 3), .int .u64 (word l2 0), .int .u64 (word l2 1), .int .u64 (word l2 2), .int .u64 (word l2 3)] 121)).alloc (.cells #[.bool false, .int .i64 0, .int .i64 0, .int .u64 0, .int .u64 0, .int .u64 0, .int .u64 0, .int .u64 0, .int .u64 0, .int .u64 0, .int .u64 0] 121)) := (((Below.refl _ _).alloc (Nat.le_refl _) _).alloc (by simp) _).alloc (by simp; omega) _
 have HB := Lib.hid hb
 have hXA := ((Blk.new w 121 #[.bool false, .int .i64 x1, .int .i64 y1, .int .u64 (word f1 0), .int .u64 (word f1 1), .int .u64 (word f1 2), .int .u64 (word f1 3), .int .u64 (word l1 0), .int .u64 (word l1 1), .int .u64 (word l1 2), .int .u64 (word l1 3)]).alloc (.cells #[.bool true, .int .i64 x2, .int .i64 y2, .int .u64 (word f2 0), .int .u64 (word f2 1), .int .u64 (word f2 2), .int .u64 (word f2 3), .int .u64 (word l2 0), .int .u64 (word l2 1), .int .u64 (word l2 2), .int .u64 (word l2 3)] 121)).alloc (.cells #[.bool false, .int .i64 0, .int .i64 0, .int .u64 0, .int .u64 0, .int .u64 0, .int .u64 0, .int .u64 0, .int .u64 0, .int .u64 0, .int .u64 0] 121)
 have hXB := (show Blk ((w.alloc (.cells #[.bool false, .int .i64 x1, .int .i64 y1, .int .u64 (word f1 0), .int .u64 (word f1 1), .int .u64 (word f1 2), .int .u64 (word f1 3), .int .u64 (word l1 0), .int .u64 (word l1 1), .int .u64 (word l1 2), .int .u64 (word l1 3)] 121)).alloc (.cells #[.bool true, .int .i64 x2, .int .i64 y2, .int .u64 (word f2 0), .int .u64 (word f2 1), .int .u64 (word f2 2), .int .u64 (word f2 3), .int .u64 (word l2 0), .int .u64 (word l2 1), .int .u64 (word l2 2), .int .u64 (word l2 3)] 121)) (w.heap.size + 1) 121 #[.bool true, .int .i64 x2, .int .i64 y2, .int .u64 (word f2 0), .int .u64 (word f2 1), .int .u64 (word f2 2), .int .u64 (word f2 3), .int .u64 (word l2 0), .int .u64 (word l2 1), .int .u64 (word l2 2), .int .u64 (word l2 3)] from Blk.new_at (by simp)).alloc (.cells #[.bool false, .int .i64 0, .int .i64 0, .int .u64 0, .int .u64 0, .int .u64 0, .int .u64 0, .int .u64 0, .int .u64 0, .int .u64 0, .int .u64 0] 121)
 have HXR := Lib.hid (show Blk (((w.alloc (.cells #[.bool false, .int .i64 x1, .int .i64 y1, .int .u64 (word f1 0), .int .u64 (word f1 1), .int .u64 (word f1 2), .int .u64 (word f1 3), .int .u64 (word l1 0), .int .u64 (word l1 1), .int .u64 (word l1 2), .int .u64 (word l1 3)] 121)).alloc (.cells #[.bool true, .int .i64 x2, .int .i64 y2, .int .u64 (word f2 0), .int .u64 (word f2 1), .int .u64 (word f2 2), .int .u64 (word f2 3), .int .u64 (word l2 0), .int .u64 (word l2 1), .int .u64 (word l2 2), .int .u64 (word l2 3)] 121)).alloc (.cells #[.bool false, .int .i64 0, .int .i64 0, .int .u64 0, .int .u64 0, .int .u64 0, .int .u64 0, .int .u64 0, .int .u64 0, .int .u64 0, .int .u64 0] 121)) (w.heap.size + 1 + 1) 121 #[.bool false, .int .i64 0, .int .i64 0, .int .u64 0, .int .u64 0, .int .u64 0, .int .u64 0, .int .u64 0, .int .u64 0, .int .u64 0, .int .u64 0] from Blk.new_at (by simp))
 clear hb
 go_enter Tryz.func178, Tryz.ntmps178
 go_upto_region 1 with fail
 generalize (((w.alloc (.cells #[.bool false, .int .i64 x1, .int .i64 y1, .int .u64 (word f1 0), .int .u64 (word f1 1), .int .u64 (word f1 2), .int .u64 (word f1 3), .int .u64 (word l1 0), .int .u64 (word l1 1), .int .u64 (word l1 2), .int .u64 (word l1 3)] 121)).alloc (.cells #[.bool true, .int .i64 x2, .int .i64 y2, .int .u64 (word f2 0), .int .u64 (word f2 1), .int .u64 (word f2 2), .int .u64 (word f2 3), .int .u64 (word l2 0), .int .u64 (word l2 1), .int .u64 (word l2 2), .int .u64 (word l2 3)] 121)).alloc (.cells #[.bool false, .int .i64 0, .int .i64 0, .int .u64 0, .int .u64 0, .int .u64 0, .int .u64 0, .int .u64 0, .int .u64 0, .int .u64 0, .int .u64 0] 121)) = w2 at *
 obtain ⟨a0, a1, a2, a3, a4, a5, a6, a7, a8, a9, a10⟩ := ((hXA)).c11r
 have hla := (hXA).lt
 obtain ⟨b0, b1, b2, b3, b4, b5, b6, b7, b8, b9, b10⟩ := ((hXB)).c11r
 have hlb := (hXB).lt
 clear hXA hXB
 have hR := HXR.out
 obtain ⟨r0, r1, r2, r3, r4, r5, r6, r7, r8, r9, r10⟩ := ((hR)).c11r
 obtain ⟨q0, q1, q2, q3, q4, q5, q6, q7, q8, q9, q10⟩ := ((hR)).f11r
 have hlr := (hR).lt
 clear hR
 go_wp2
 refine bodyPost_ret (ret_sum Tryz.results178 rfl (Blk.store11 HXR.out)) rfl ⟨by rw [HV.out]; rfl, below_set11 HB.out (by omega)⟩
theorem feither_go (a b : SumS) (w : World) :
  Calls Tryz.prog 178 #[sumV a, sumV b] w fun e w' => e = .returned (sumV (eitherF a b)) ∧ Below w.heap.size w w' := by
 obtain ⟨h1, x1, y1, f1, l1⟩ := a
 obtain ⟨h2, x2, y2, f2, l2⟩ := b
 cases h1 with
 | true => exact either_no1 x1 y1 x2 y2 f1 l1 f2 l2 h2 w
 | false =>
  cases h2 with
  | true => exact either_no2 x1 y1 x2 y2 f1 l1 f2 l2 w
  | false => exact either_words x1 y1 x2 y2 f1 l1 f2 l2 w
theorem rep_nil1 (h1 : Bool) (x1 y1 : Int) (f1 l1 : Nat → Bool) (lo hi : Int) (w : World) (hh : hi = 0) :
  Calls Tryz.prog 179 #[.agg #[.bool h1, .int .i64 x1, .int .i64 y1, .int .u64 (word f1 0), .int .u64 (word f1 1), .int .u64 (word f1 2), .int .u64 (word f1 3), .int .u64 (word l1 0), .int .u64 (word l1 1), .int .u64 (word l1 2), .int .u64 (word l1 3)], .int .i64 lo, .int .i64 hi] w fun e w' => e = .returned (sumV (repeatedF ⟨h1, x1, y1, f1, l1⟩ lo hi)) ∧ Below w.heap.size w w' := by
 have HV := Lib.hid (show repeatedF ⟨h1, x1, y1, f1, l1⟩ lo hi = fnilF by unfold repeatedF; rw [if_pos (.inl hh)])
 have e1 : (hi == 0) = true := by rw [hh]; rfl
 clear hh
 have hb : Below w.heap.size w ((w.alloc (.cells #[.bool h1, .int .i64 x1, .int .i64 y1, .int .u64 (word f1 0), .int .u64 (word f1 1), .int .u64 (word f1 2), .int .u64 (word f1 3), .int .u64 (word l1 0), .int .u64 (word l1 1), .int .u64 (word l1 2), .int .u64 (word l1 3)] 121)).alloc (.cells #[.bool false, .int .i64 0, .int .i64 0, .int .u64 0, .int .u64 0, .int .u64 0, .int .u64 0, .int .u64 0, .int .u64 0, .int .u64 0, .int .u64 0] 121)) := ((Below.refl _ _).alloc (Nat.le_refl _) _).alloc (by simp) _
 have HB := Lib.hid hb
 have hXA := (Blk.new w 121 #[.bool h1, .int .i64 x1, .int .i64 y1, .int .u64 (word f1 0), .int .u64 (word f1 1), .int .u64 (word f1 2), .int .u64 (word f1 3), .int .u64 (word l1 0), .int .u64 (word l1 1), .int .u64 (word l1 2), .int .u64 (word l1 3)]).alloc (.cells #[.bool false, .int .i64 0, .int .i64 0, .int .u64 0, .int .u64 0, .int .u64 0, .int .u64 0, .int .u64 0, .int .u64 0, .int .u64 0, .int .u64 0] 121)
 have HXA := Lib.hid hXA
 have HXR := Lib.hid (show Blk ((w.alloc (.cells #[.bool h1, .int .i64 x1, .int .i64 y1, .int .u64 (word f1 0), .int .u64 (word f1 1), .int .u64 (word f1 2), .int .u64 (word f1 3), .int .u64 (word l1 0), .int .u64 (word l1 1), .int .u64 (word l1 2), .int .u64 (word l1 3)] 121)).alloc (.cells #[.bool false, .int .i64 0, .int .i64 0, .int .u64 0, .int .u64 0, .int .u64 0, .int .u64 0, .int .u64 0, .int .u64 0, .int .u64 0, .int .u64 0] 121)) (w.heap.size + 1) 121 #[.bool false, .int .i64 0, .int .i64 0, .int .u64 0, .int .u64 0, .int .u64 0, .int .u64 0, .int .u64 0, .int .u64 0, .int .u64 0, .int .u64 0] from Blk.new_at (by simp))
 clear hb
 go_enter Tryz.func179, Tryz.ntmps179
 go_upto_region 1 with fail
 generalize ((w.alloc (.cells #[.bool h1, .int .i64 x1, .int .i64 y1, .int .u64 (word f1 0), .int .u64 (word f1 1), .int .u64 (word f1 2), .int .u64 (word f1 3), .int .u64 (word l1 0), .int .u64 (word l1 1), .int .u64 (word l1 2), .int .u64 (word l1 3)] 121)).alloc (.cells #[.bool false, .int .i64 0, .int .i64 0, .int .u64 0, .int .u64 0, .int .u64 0, .int .u64 0, .int .u64 0, .int .u64 0, .int .u64 0, .int .u64 0] 121)) = w2 at *
 obtain ⟨a0, a1, a2, a3, a4, a5, a6, a7, a8, a9, a10⟩ := ((hXA)).c11r
 have hla := (hXA).lt
 clear hXA
 have hR := HXR.out
 obtain ⟨r0, r1, r2, r3, r4, r5, r6, r7, r8, r9, r10⟩ := ((hR)).c11r
 obtain ⟨q0, q1, q2, q3, q4, q5, q6, q7, q8, q9, q10⟩ := ((hR)).f11r
 have hlr := (hR).lt
 clear hR
 go_wp2
 refine bodyPost_ret (ret_sum Tryz.results179 rfl (Blk.store11 HXR.out)) rfl ⟨by rw [HV.out, fnil_val], below_set11 HB.out (by omega)⟩
theorem rep_nil2 (x1 y1 : Int) (f1 l1 : Nat → Bool) (lo hi : Int) (w : World) (hh : hi ≠ 0) (h0 : lo = 0) :
  Calls Tryz.prog 179 #[.agg #[.bool true, .int .i64 x1, .int .i64 y1, .int .u64 (word f1 0), .int .u64 (word f1 1), .int .u64 (word f1 2), .int .u64 (word f1 3), .int .u64 (word l1 0), .int .u64 (word l1 1), .int .u64 (word l1 2), .int .u64 (word l1 3)], .int .i64 lo, .int .i64 hi] w fun e w' => e = .returned (sumV (repeatedF ⟨true, x1, y1, f1, l1⟩ lo hi)) ∧ Below w.heap.size w w' := by
 have HV := Lib.hid (show repeatedF ⟨true, x1, y1, f1, l1⟩ lo hi = fnilF by unfold repeatedF; rw [if_pos (.inr ⟨rfl, h0⟩)])
 have e1 : (hi == 0) = false := by rw [beq_eq_false_iff_ne]; exact hh
 have e2 : (lo == 0) = true := by rw [h0]; rfl
 clear hh h0
 have hb : Below w.heap.size w ((w.alloc (.cells #[.bool true, .int .i64 x1, .int .i64 y1, .int .u64 (word f1 0), .int .u64 (word f1 1), .int .u64 (word f1 2), .int .u64 (word f1 3), .int .u64 (word l1 0), .int .u64 (word l1 1), .int .u64 (word l1 2), .int .u64 (word l1 3)] 121)).alloc (.cells #[.bool false, .int .i64 0, .int .i64 0, .int .u64 0, .int .u64 0, .int .u64 0, .int .u64 0, .int .u64 0, .int .u64 0, .int .u64 0, .int .u64 0] 121)) := ((Below.refl _ _).alloc (Nat.le_refl _) _).alloc (by simp) _
 have HB := Lib.hid hb
 have hXA := (Blk.new w 121 #[.bool true, .int .i64 x1, .int .i64 y1, .int .u64 (word f1 0), .int .u64 (word f1 1), .int .u64 (word f1 2), .int .u64 (word f1 3), .int .u64 (word l1 0), .int .u64 (word l1 1), .int .u64 (word l1 2), .int .u64 (word l1 3)]).alloc (.cells #[.bool false, .int .i64 0, .int .i64 0, .int .u64 0, .int .u64 0, .int .u64 0, .int .u64 0, .int .u64 0, .int .u64 0, .int .u64 0, .int .u64 0] 121)
 have HXA := Lib.hid hXA
 have HXR := Lib.hid (show Blk ((w.alloc (.cells #[.bool true, .int .i64 x1, .int .i64 y1, .int .u64 (word f1 0), .int .u64 (word f1 1), .int .u64 (word f1 2), .int .u64 (word f1 3), .int .u64 (word l1 0), .int .u64 (word l1 1), .int .u64 (word l1 2), .int .u64 (word l1 3)] 121)).alloc (.cells #[.bool false, .int .i64 0, .int .i64 0, .int .u64 0, .int .u64 0, .int .u64 0, .int .u64 0, .int .u64 0, .int .u64 0, .int .u64 0, .int .u64 0] 121)) (w.heap.size + 1) 121 #[.bool false, .int .i64 0, .int .i64 0, .int .u64 0, .int .u64 0, .int .u64 0, .int .u64 0, .int .u64 0, .int .u64 0, .int .u64 0, .int .u64 0] from Blk.new_at (by simp))
 clear hb
 go_enter Tryz.func179, Tryz.ntmps179
 go_upto_region 1 with fail
 generalize ((w.alloc (.cells #[.bool true, .int .i64 x1, .int .i64 y1, .int .u64 (word f1 0), .int .u64 (word f1 1), .int .u64 (word f1 2), .int .u64 (word f1 3), .int .u64 (word l1 0), .int .u64 (word l1 1), .int .u64 (word l1 2), .int .u64 (word l1 3)] 121)).alloc (.cells #[.bool false, .int .i64 0, .int .i64 0, .int .u64 0, .int .u64 0, .int .u64 0, .int .u64 0, .int .u64 0, .int .u64 0, .int .u64 0, .int .u64 0] 121)) = w2 at *
 obtain ⟨a0, a1, a2, a3, a4, a5, a6, a7, a8, a9, a10⟩ := ((hXA)).c11r
 have hla := (hXA).lt
 clear hXA
 have hR := HXR.out
 obtain ⟨r0, r1, r2, r3, r4, r5, r6, r7, r8, r9, r10⟩ := ((hR)).c11r
 obtain ⟨q0, q1, q2, q3, q4, q5, q6, q7, q8, q9, q10⟩ := ((hR)).f11r
 have hlr := (hR).lt
 clear hR
 go_wp2
 refine bodyPost_ret (ret_sum Tryz.results179 rfl (Blk.store11 HXR.out)) rfl ⟨by rw [HV.out, fnil_val], below_set11 HB.out (by omega)⟩
theorem rep_no (x1 y1 : Int) (f1 l1 : Nat → Bool) (lo hi : Int) (w : World) (hh : hi ≠ 0) (h0 : lo ≠ 0) :
  Calls Tryz.prog 179 #[.agg #[.bool true, .int .i64 x1, .int .i64 y1, .int .u64 (word f1 0), .int .u64 (word f1 1), .int .u64 (word f1 2), .int .u64 (word f1 3), .int .u64 (word l1 0), .int .u64 (word l1 1), .int .u64 (word l1 2), .int .u64 (word l1 3)], .int .i64 lo, .int .i64 hi] w fun e w' => e = .returned (sumV (repeatedF ⟨true, x1, y1, f1, l1⟩ lo hi)) ∧ Below w.heap.size w w' := by
 have HV := Lib.hid (show repeatedF ⟨true, x1, y1, f1, l1⟩ lo hi = nothingF by unfold repeatedF; rw [if_neg (by simp [hh, h0]), if_pos rfl])
 have e1 : (hi == 0) = false := by rw [beq_eq_false_iff_ne]; exact hh
 have e2 : (lo == 0) = false := by rw [beq_eq_false_iff_ne]; exact h0
 clear hh h0
 have hb : Below w.heap.size w ((w.alloc (.cells #[.bool true, .int .i64 x1, .int .i64 y1, .int .u64 (word f1 0), .int .u64 (word f1 1), .int .u64 (word f1 2), .int .u64 (word f1 3), .int .u64 (word l1 0), .int .u64 (word l1 1), .int .u64 (word l1 2), .int .u64 (word l1 3)] 121)).alloc (.cells #[.bool false, .int .i64 0, .int .i64 0, .int .u64 0, .int .u64 0, .int .u64 0, .int .u64 0, .int .u64 0, .int .u64 0, .int .u64 0, .int .u64 0] 121)) := ((Below.refl _ _).alloc (Nat.le_refl _) _).alloc (by simp) _
 have HB := Lib.hid hb
 have hXA := (Blk.new w 121 #[.bool true, .int .i64 x1, .int .i64 y1, .int .u64 (word f1 0), .int .u64 (word f1 1), .int .u64 (word f1 2), .int .u64 (word f1 3), .int .u64 (word l1 0), .int .u64 (word l1 1), .int .u64 (word l1 2), .int .u64 (word l1 3)]).alloc (.cells #[.bool false, .int .i64 0, .int .i64 0, .int .u64 0, .int .u64 0, .int .u64 0, .int .u64 0, .int .u64 0, .int .u64 0, .int .u64 0, .int .u64 0] 121)
 have HXA := Lib.hid hXA
 have HXR := Lib.hid (show Blk ((w.alloc (.cells #[.bool true, .int .i64 x1, .int .i64 y1, .int .u64 (word f1 0), .int .u64 (word f1 1), .int .u64 (word f1 2), .int .u64 (word f1 3), .int .u64 (word l1 0), .int .u64 (word l1 1), .int .u64 (word l1 2), .int .u64 (word l1 3)] 121)).alloc (.cells #[.bool false, .int .i64 0, .int .i64 0, .int .u64 0, .int .u64 0, .int .u64 0, .int .u64 0, .int .u64 0, .int .u64 0, .int .u64 0, .int .u64 0] 121)) (w.heap.size + 1) 121 #[.bool false, .int .i64 0, .int .i64 0, .int .u64 0, .int .u64 0, .int .u64 0, .int .u64 0, .int .u64 0, .int .u64 0, .int .u64 0, .int .u64 0] from Blk.new_at (by simp))
 clear hb
 go_enter Tryz.func179, Tryz.ntmps179
 go_upto_region 1 with fail
 generalize ((w.alloc (.cells #[.bool true, .int .i64 x1, .int .i64 y1, .int .u64 (word f1 0), .int .u64 (word f1 1), .int .u64 (word f1 2), .int .u64 (word f1 3), .int .u64 (word l1 0), .int .u64 (word l1 1), .int .u64 (word l1 2), .int .u64 (word l1 3)] 121)).alloc (.cells #[.bool false, .int .i64 0, .int .i64 0, .int .u64 0, .int .u64 0, .int .u64 0, .int .u64 0, .int .u64 0, .int .u64 0, .int .u64 0, .int .u64 0] 121)) = w2 at *
 obtain ⟨a0, a1, a2, a3, a4, a5, a6, a7, a8, a9, a10⟩ := ((hXA)).c11r
 have hla := (hXA).lt
 clear hXA
 go_wp2_with fail
 refine (nothing_go _).mono ?_
 rintro e w3 ⟨rfl, hb3⟩
 have hR := HXR.out.below hb3 HXR.out.lt
 have HB3 := Lib.hid (HB.out.trans (hb3.mono HB.out.size))
 have HR := Lib.hid hR
 obtain ⟨r0, r1, r2, r3, r4, r5, r6, r7, r8, r9, r10⟩ := ((hR)).c11r
 obtain ⟨q0, q1, q2, q3, q4, q5, q6, q7, q8, q9, q10⟩ := ((hR)).f11r
 have hlr := (hR).lt
 clear hR hb3
 rw [nothing_val]
 dsimp only
 go_wp2
 refine bodyPost_ret (ret_sum Tryz.results179 rfl (Blk.store11 HR.out)) rfl ⟨by rw [HV.out, nothing_val], below_set11 HB3.out (by omega)⟩
theorem rep_yes (x1 y1 : Int) (f1 l1 : Nat → Bool) (lo hi : Int) (w : World) (hh : hi ≠ 0) (ha : SumOk ⟨false, x1, y1, f1, l1⟩) (h0 : 0 ≤ lo ∧ lo ≤ endF) (h1 : 0 ≤ hi ∧ hi ≤ endF) :
  Calls Tryz.prog 179 #[.agg #[.bool false, .int .i64 x1, .int .i64 y1, .int .u64 (word f1 0), .int .u64 (word f1 1), .int .u64 (word f1 2), .int .u64 (word f1 3), .int .u64 (word l1 0), .int .u64 (word l1 1), .int .u64 (word l1 2), .int .u64 (word l1 3)], .int .i64 lo, .int .i64 hi] w fun e w' => e = .returned (sumV (repeatedF ⟨false, x1, y1, f1, l1⟩ lo hi)) ∧ Below w.heap.size w w' := by
 have HV := Lib.hid (show repeatedF ⟨false, x1, y1, f1, l1⟩ lo hi = ⟨false, timF lo x1, timF hi y1, f1, l1⟩ by unfold repeatedF; rw [if_neg (by simp [hh]), if_neg (by simp)])
 have e1 : (hi == 0) = false := by rw [beq_eq_false_iff_ne]; exact hh
 have p1 := ha.short rfl
 have p2 := ha.long rfl
 have te : topI ≤ endF := by decide
 dsimp only at p1 p2
 have hx : 0 ≤ x1 ∧ x1 ≤ endF := by omega
 have hy : 0 ≤ y1 ∧ y1 ≤ endF := by omega
 clear hh p1 p2 te ha
 have hb : Below w.heap.size w ((w.alloc (.cells #[.bool false, .int .i64 x1, .int .i64 y1, .int .u64 (word f1 0), .int .u64 (word f1 1), .int .u64 (word f1 2), .int .u64 (word f1 3), .int .u64 (word l1 0), .int .u64 (word l1 1), .int .u64 (word l1 2), .int .u64 (word l1 3)] 121)).alloc (.cells #[.bool false, .int .i64 0, .int .i64 0, .int .u64 0, .int .u64 0, .int .u64 0, .int .u64 0, .int .u64 0, .int .u64 0, .int .u64 0, .int .u64 0] 121)) := ((Below.refl _ _).alloc (Nat.le_refl _) _).alloc (by simp) _
 have HB := Lib.hid hb
 have hXA := (Blk.new w 121 #[.bool false, .int .i64 x1, .int .i64 y1, .int .u64 (word f1 0), .int .u64 (word f1 1), .int .u64 (word f1 2), .int .u64 (word f1 3), .int .u64 (word l1 0), .int .u64 (word l1 1), .int .u64 (word l1 2), .int .u64 (word l1 3)]).alloc (.cells #[.bool false, .int .i64 0, .int .i64 0, .int .u64 0, .int .u64 0, .int .u64 0, .int .u64 0, .int .u64 0, .int .u64 0, .int .u64 0, .int .u64 0] 121)
 have HXA := Lib.hid hXA
 have HXR := Lib.hid (show Blk ((w.alloc (.cells #[.bool false, .int .i64 x1, .int .i64 y1, .int .u64 (word f1 0), .int .u64 (word f1 1), .int .u64 (word f1 2), .int .u64 (word f1 3), .int .u64 (word l1 0), .int .u64 (word l1 1), .int .u64 (word l1 2), .int .u64 (word l1 3)] 121)).alloc (.cells #[.bool false, .int .i64 0, .int .i64 0, .int .u64 0, .int .u64 0, .int .u64 0, .int .u64 0, .int .u64 0, .int .u64 0, .int .u64 0, .int .u64 0] 121)) (w.heap.size + 1) 121 #[.bool false, .int .i64 0, .int .i64 0, .int .u64 0, .int .u64 0, .int .u64 0, .int .u64 0, .int .u64 0, .int .u64 0, .int .u64 0, .int .u64 0] from Blk.new_at (by simp))
 clear hb
 go_enter Tryz.func179, Tryz.ntmps179
 go_upto_region 1 with fail
 generalize ((w.alloc (.cells #[.bool false, .int .i64 x1, .int .i64 y1, .int .u64 (word f1 0), .int .u64 (word f1 1), .int .u64 (word f1 2), .int .u64 (word f1 3), .int .u64 (word l1 0), .int .u64 (word l1 1), .int .u64 (word l1 2), .int .u64 (word l1 3)] 121)).alloc (.cells #[.bool false, .int .i64 0, .int .i64 0, .int .u64 0, .int .u64 0, .int .u64 0, .int .u64 0, .int .u64 0, .int .u64 0, .int .u64 0, .int .u64 0] 121)) = w2 at *
 obtain ⟨a0, a1, a2, a3, a4, a5, a6, a7, a8, a9, a10⟩ := ((hXA)).c11r
 have hla := (hXA).lt
 clear hXA
 go_wp2_with fail
 refine (ftimes_go _ _ _ h0 hx).mono ?_
 rintro e w3 ⟨rfl, hb3⟩
 have hA3 := HXA.out.below hb3 HXA.out.lt
 have HA4 := Lib.hid (hA3.set_ 1 (.int .i64 (timF lo x1)))
 have HR4 := Lib.hid ((HXR.out.below hb3 HXR.out.lt).far (p := ⟨w.heap.size, 1, none⟩) (by show w.heap.size + 1 ≠ w.heap.size; omega) (.int .i64 (timF lo x1)))
 have HB4 := Lib.hid ((HB.out.trans (hb3.mono HB.out.size)).setCell (p := ⟨w.heap.size, 1, none⟩) (Nat.le_refl _) (.int .i64 (timF lo x1)))
 clear a0 a1 a2 a3 a4 a5 a6 a7 a8 a9 a10
 obtain ⟨c0, c1, c2, c3, c4, c5, c6, c7, c8, c9, c10⟩ := ((hA3)).c11r
 obtain ⟨d0, d1, d2, d3, d4, d5, d6, d7, d8, d9, d10⟩ := ((hA3)).f11r
 have hlc := (hA3).lt
 clear hA3 hb3 HXA HXR HB hla
 dsimp only
 go_upto_region 6 with fail
 clear c0 c1 c2 c3 c4 c5 c6 c7 c8 c9 c10
 clear d0 d1 d2 d3 d4 d5 d6 d7 d8 d9 d10
 clear hlc
 generalize w3.setCell ⟨w.heap.size, 1, none⟩ (.int .i64 (timF lo x1)) = w4 at *
 have a2 := HA4.out.cell 2
 have hla := HA4.out.lt
 simp only [List.setIfInBounds_toArray, List.set_cons_succ, List.set_cons_zero, List.getElem?_toArray, List.getElem?_cons_zero, List.getElem?_cons_succ] at a2
 go_wp2_with fail
 refine (ftimes_go _ _ _ h1 hy).mono ?_
 rintro e w5 ⟨rfl, hb5⟩
 have hA5 := HA4.out.below hb5 HA4.out.lt
 have HA6 := Lib.hid (hA5.set_ 2 (.int .i64 (timF hi y1)))
 have HR6 := Lib.hid ((HR4.out.below hb5 HR4.out.lt).far (p := ⟨w.heap.size, 2, none⟩) (by show w.heap.size + 1 ≠ w.heap.size; omega) (.int .i64 (timF hi y1)))
 have HB6 := Lib.hid ((HB4.out.trans (hb5.mono HB4.out.size)).setCell (p := ⟨w.heap.size, 2, none⟩) (Nat.le_refl _) (.int .i64 (timF hi y1)))
 have c2 := hA5.cell 2
 have d2 := hA5.frozen 2
 have hlc := hA5.lt
 simp only [List.setIfInBounds_toArray, List.set_cons_succ, List.set_cons_zero, List.getElem?_toArray, List.getElem?_cons_zero, List.getElem?_cons_succ] at c2
 clear hA5 hb5 a2 hla HA4 HR4 HB4
 dsimp only
 go_upto_region 7 with fail
 clear c2 d2 hlc
 generalize w5.setCell ⟨w.heap.size, 2, none⟩ (.int .i64 (timF hi y1)) = w6 at *
 have hA6 := HA6.out
 simp only [List.setIfInBounds_toArray, List.set_cons_succ, List.set_cons_zero] at hA6
 obtain ⟨a0, a1, a2, a3, a4, a5, a6, a7, a8, a9, a10⟩ := ((hA6)).c11r
 have hla := (hA6).lt
 obtain ⟨r0, r1, r2, r3, r4, r5, r6, r7, r8, r9, r10⟩ := ((HR6.out)).c11r
 obtain ⟨q0, q1, q2, q3, q4, q5, q6, q7, q8, q9, q10⟩ := ((HR6.out)).f11r
 have hlr := (HR6.out).lt
 clear hA6
 go_wp2
 refine bodyPost_ret (ret_sum Tryz.results179 rfl (Blk.store11 HR6.out)) rfl ⟨by rw [HV.out]; rfl, below_set11 HB6.out (by omega)⟩
theorem frepeated_go (a : SumS) (lo hi : Int) (w : World) (ha : SumOk a) (h0 : 0 ≤ lo ∧ lo ≤ endF) (h1 : 0 ≤ hi ∧ hi ≤ endF) :
  Calls Tryz.prog 179 #[sumV a, .int .i64 lo, .int .i64 hi] w fun e w' => e = .returned (sumV (repeatedF a lo hi)) ∧ Below w.heap.size w w' := by
 obtain ⟨hl, x1, y1, f1, l1⟩ := a
 by_cases hh : hi = 0
 ·exact rep_nil1 hl x1 y1 f1 l1 lo hi w hh
 cases hl with
 | false => exact rep_yes x1 y1 f1 l1 lo hi w hh ha h0 h1
 | true =>
  by_cases hz : lo = 0
  ·exact rep_nil2 x1 y1 f1 l1 lo hi w hh hz
  ·exact rep_no x1 y1 f1 l1 lo hi w hh hz
theorem far11 {W : World} {g b : Nat} {t : TypeId} {cs : Array Value} {v0 v1 v2 v3 v4 v5 v6 v7 v8 v9 v10 : Value} (h : Blk W b t cs) (hg : b ≠ g) : Blk (((((((((((W.setCell ⟨g, 0, none⟩ v0).setCell ⟨g, 1, none⟩ v1).setCell ⟨g, 2, none⟩ v2).setCell ⟨g, 3, none⟩ v3).setCell ⟨g, 4, none⟩ v4).setCell ⟨g, 5, none⟩ v5).setCell ⟨g, 6, none⟩ v6).setCell ⟨g, 7, none⟩ v7).setCell ⟨g, 8, none⟩ v8).setCell ⟨g, 9, none⟩ v9).setCell ⟨g, 10, none⟩ v10) b t cs :=
 ((((((((((h.far (p := ⟨g, 0, none⟩) hg v0).far (p := ⟨g, 1, none⟩) hg v1).far (p := ⟨g, 2, none⟩) hg v2).far (p := ⟨g, 3, none⟩) hg v3).far (p := ⟨g, 4, none⟩) hg v4).far (p := ⟨g, 5, none⟩) hg v5).far (p := ⟨g, 6, none⟩) hg v6).far (p := ⟨g, 7, none⟩) hg v7).far (p := ⟨g, 8, none⟩) hg v8).far (p := ⟨g, 9, none⟩) hg v9).far (p := ⟨g, 10, none⟩) hg v10
theorem sums_get {F : Trees} {k : Nat} {z : Nd} (h : F.list[k]? = some z) : F.sums[k]? = some z.sum := by rw [F.sums_list, List.getElem?_map, h]; rfl
theorem sums_len (F : Trees) : F.sums.length = F.len := by rw [F.sums_list, List.length_map, F.len_list]
theorem ffold_go (g : FuncId) (f : SumS → SumS → SumS) (F : Trees) (P : Nat → Prop) (B : Option Addr) (cap : Nat) (s0 : SumS) (w : World) (h0 : SumOk s0) (hl : F.len ≤ 140737488355328) (ht : TreesAt w P F B)
  (hf : ∀ a b w', SumOk a → SumOk b → Calls Tryz.prog g #[sumV a, sumV b] w' fun e w'' => e = .returned (sumV (f a b)) ∧ Below w'.heap.size w' w'') (hk : ∀ a b, SumOk a → SumOk b → SumOk (f a b))
  (hG : ∀ (i : Nat) (z : Nd) (C : Option Addr) (capc : Nat) (w' : World), F.list[i]? = some z → TreesAt w' P z.kids C → Calls Tryz.prog 151 #[ndV z C capc] w' fun e w'' => e = .returned (sumV z.sum) ∧ Below w'.heap.size w' w'')
  (hs : ∀ s ∈ F.sums, SumOk s) (henter : ∀ args w, (callFunc g args).run Tryz.prog w = .ok (.enter g args) w) :
  Calls Tryz.prog 176 #[sumV s0, .func (.func g) #[] #[], .slice B F.len cap] w fun e w' => e = .returned (sumV (F.sums.foldl f s0)) ∧ Below w.heap.size w w' := by
 have HT := Lib.hid ht
 have HG := Lib.hid hG
 have HF := Lib.hid hf
 have HK := Lib.hid hk
 have HS := Lib.hid hs
 have hb1 : Below w.heap.size w ((w.alloc (.cells (sumA s0) 121)).alloc (.cells #[.bool false, .int .i64 0, .int .i64 0, .int .u64 0, .int .u64 0, .int .u64 0, .int .u64 0, .int .u64 0, .int .u64 0, .int .u64 0, .int .u64 0] 121)) := ((Below.refl _ _).alloc (Nat.le_refl _) _).alloc (by simp) _
 have HI := Lib.hid (show Blk ((w.alloc (.cells (sumA s0) 121)).alloc (.cells #[.bool false, .int .i64 0, .int .i64 0, .int .u64 0, .int .u64 0, .int .u64 0, .int .u64 0, .int .u64 0, .int .u64 0, .int .u64 0, .int .u64 0] 121)) w.heap.size 121 (sumA s0) ∧ Blk ((w.alloc (.cells (sumA s0) 121)).alloc (.cells #[.bool false, .int .i64 0, .int .i64 0, .int .u64 0, .int .u64 0, .int .u64 0, .int .u64 0, .int .u64 0, .int .u64 0, .int .u64 0, .int .u64 0] 121)) (w.heap.size + 1) 121 #[.bool false, .int .i64 0, .int .i64 0, .int .u64 0, .int .u64 0, .int .u64 0, .int .u64 0, .int .u64 0, .int .u64 0, .int .u64 0, .int .u64 0] ∧ Below w.heap.size w ((w.alloc (.cells (sumA s0) 121)).alloc (.cells #[.bool false, .int .i64 0, .int .i64 0, .int .u64 0, .int .u64 0, .int .u64 0, .int .u64 0, .int .u64 0, .int .u64 0, .int .u64 0, .int .u64 0] 121)) ∧ SumOk s0 from
  ⟨(Blk.new w 121 (sumA s0)).alloc _, Blk.new_at (by simp), hb1, h0⟩)
 clear ht hG hf hk hs h0 hb1
 unfold sumV
 unfold sumA at *
 go_enter Tryz.func176, Tryz.ntmps176
 go_wp2
 go_loopw [8, 11] (fun pv i wr => ∃ (k : Nat) (s : SumS), i = .int .i64 (k : Int) ∧ k ≤ F.len ∧ Hid ((F.sums.take k).foldl f s0 = s) ∧ Hid (Blk wr w.heap.size 121 #[.bool s.hollow, .int .i64 s.short, .int .i64 s.long, .int .u64 (word s.first 0), .int .u64 (word s.first 1), .int .u64 (word s.first 2), .int .u64 (word s.first 3), .int .u64 (word s.last 0), .int .u64 (word s.last 1), .int .u64 (word s.last 2), .int .u64 (word s.last 3)] ∧ Blk wr (w.heap.size + 1) 121 #[.bool false, .int .i64 0, .int .i64 0, .int .u64 0, .int .u64 0, .int .u64 0, .int .u64 0, .int .u64 0, .int .u64 0, .int .u64 0, .int .u64 0] ∧ Below w.heap.size w wr ∧ SumOk s)) (fun _ i _ => F.len - (intOf i).toNat)
 case atStart => exact ⟨0, s0, rfl, Nat.zero_le _, Lib.hid rfl, HI⟩
 case round =>
  clear HI
  obtain ⟨k, s, rfl, hk, HE, HR⟩ := hrel
  by_cases hlt : k < F.len
  ·obtain ⟨z, hz⟩ : ∃ z, F.list[k]? = some z := ⟨_, List.getElem?_eq_getElem (by rw [Trees.len_list]; exact hlt)⟩
   obtain ⟨b, o, C, capc, rfl, _, _, ⟨c0, c1, c2, c3, c4, c5, c6, c7⟩, hkz⟩ := (HT.out.below HR.out.2.2.1).get hz
   have hdl : (k : Int) < (F.len : Int) := by omega
   have hbA : Below wr.heap.size wr (wr.alloc (.cells #[.int .i64 z.kind, .int .u64 (word z.set.testBit 0), .int .u64 (word z.set.testBit 1), .int .u64 (word z.set.testBit 2), .int .u64 (word z.set.testBit 3), .slice C z.kids.len capc, .int .i64 z.lo, .int .i64 z.hi] 28)) := (Below.refl _ _).alloc (Nat.le_refl _) _
   have HZ := Lib.hid hz
   have HO := Lib.hid (HS.out z.sum (List.mem_of_getElem? (sums_get hz)))
   have HE2 := Lib.hid (show (F.sums.take (k + 1)).foldl f s0 = f s z.sum by rw [List.take_add_one, sums_get hz, List.foldl_append, HE.out]; rfl)
   have HKZ := Lib.hid (hkz.below hbA)
   have HN := Lib.hid (Blk.new wr 28 #[.int .i64 z.kind, .int .u64 (word z.set.testBit 0), .int .u64 (word z.set.testBit 1), .int .u64 (word z.set.testBit 2), .int .u64 (word z.set.testBit 3), .slice C z.kids.len capc, .int .i64 z.lo, .int .i64 z.hi])
   have HX := Lib.hid (HR.out.1.below hbA HR.out.1.lt)
   have HY := Lib.hid (HR.out.2.1.below hbA HR.out.2.1.lt)
   have HB := Lib.hid (HR.out.2.2.1.trans (hbA.mono HR.out.2.2.1.size))
   have HSk := Lib.hid HR.out.2.2.2
   have hwr : w.heap.size + 1 < wr.heap.size := HR.out.2.1.lt
   clear hz hkz hbA HR
   go_upto_region 4 with fail
   clear c0 c1 c2 c3 c4 c5 c6 c7
   generalize wr.alloc (.cells #[.int .i64 z.kind, .int .u64 (word z.set.testBit 0), .int .u64 (word z.set.testBit 1), .int .u64 (word z.set.testBit 2), .int .u64 (word z.set.testBit 3), .slice C z.kids.len capc, .int .i64 z.lo, .int .i64 z.hi] 28) = w2 at *
   generalize wr.heap.size = gn at *
   obtain ⟨n0, n1, n2, n3, n4, n5, n6, n7⟩ := ((HN.out)).c8r
   have hln := (HN.out).lt
   obtain ⟨x0, x1, x2, x3, x4, x5, x6, x7, x8, x9, x10⟩ := ((HX.out)).c11r
   have hlx := (HX.out).lt
   have hKl : ∀ b', b' = gn → b' < w2.heap.size := fun b' h => by rw [h]; exact hln
   refine wp_region_held_drew (S := fun w' => ∀ b' o', b' = gn → w'.cell? ⟨b', o', none⟩ = w2.cell? ⟨b', o', none⟩) (by kernel_rfl) (KeepP.start (fun b' => b' = gn) w2) (fun hHeld => ?_)
   refine wpAnyH_take (i := 0) (oi := _) (v := ?_) rfl (by kernel_rfl) (by kernel_rfl) (by kernel_rfl) (fun _ _ _ h => h) (Or.inl ⟨by kernel_rfl, ?_⟩) (by assumption) ?_
   rotate_left
   ·intro w hSw
    try dsimp only at hSw
    go_simp
    try (with_reducible rfl)
   try simp only [Act.put, List.getElem_toArray, List.getElem_cons_zero, List.getElem_cons_succ, List.setIfInBounds_toArray, List.set_cons_zero, List.set_cons_succ]
   refine wpAnyH_take (i := 2) (oi := _) (v := ?_) rfl (by kernel_rfl) (by kernel_rfl) (by kernel_rfl) (fun _ _ _ h => h) (Or.inl ⟨by kernel_rfl, ?_⟩) (by assumption) ?_
   rotate_left
   ·intro w hSw
    try dsimp only at hSw
    go_simp
    try (with_reducible rfl)
   try simp only [Act.put, List.getElem_toArray, List.getElem_cons_zero, List.getElem_cons_succ, List.setIfInBounds_toArray, List.set_cons_zero, List.set_cons_succ]
   refine wpAnyH_ready (rs := [1, 3]) (by kernel_rfl) (by simp) ?_
   refine AllReadyH.cons (o := _) rfl (fun K hK => ?_) (AllReadyH.cons (o := _) rfl (fun K hK => ?_) AllReadyH.nil)
   ·skip
    go_simp
    refine hK.out _ _ hHeld (fun _ => ?_)
    clear hK K
    try simp only [Act.put, List.getElem_toArray, List.getElem_cons_zero, List.getElem_cons_succ, List.setIfInBounds_toArray, List.set_cons_zero, List.set_cons_succ]
    refine wpAnyH_ready (rs := [3]) (by kernel_rfl) (by simp) ?_
    refine AllReadyH.cons (o := _) rfl (fun K hK => ?_) AllReadyH.nil
    go_simp
    go_at_call 151
    have HI3 := HG.out k z C capc w2.drew HZ.out (HKZ.out.below (Below.refl _ _).drew)
    unfold ndV sumV sumA at HI3
    refine HI3.mono ?_
    rintro e w3 ⟨rfl, hb3'⟩
    have hb3 : Below w2.heap.size w2 w3 := (Below.refl _ _).drew.trans hb3'
    have hk3 := KeepP.below (KeepP.start (fun b' => b' = gn) w2) hb3' hKl
    refine hK.out _ _ hk3 (fun _ => ?_)
    clear hK K HI3 hHeld hb3'
    try simp only [Act.put, List.getElem_toArray, List.getElem_cons_zero, List.getElem_cons_succ, List.setIfInBounds_toArray, List.set_cons_zero, List.set_cons_succ]
    clear n0 n1 n2 n3 n4 n5 n6 n7
    clear x0 x1 x2 x3 x4 x5 x6 x7 x8 x9 x10
    have HF2 := Lib.hid (HF.out s z.sum w3 HSk.out HO.out)
    have hOk := HK.out s z.sum HSk.out HO.out
    have HE3 := Lib.hid HE2.out
    generalize f s z.sum = r at *
    unfold sumV sumA at HF2
    refine wpAnyH_ready (rs := [4]) (by kernel_rfl) (by simp) ?_
    refine AllReadyH.cons (o := _) rfl (fun K hK => ?_) AllReadyH.nil
    go_simp
    refine HF2.out.mono ?_
    rintro e w4 ⟨rfl, hb4⟩
    have hk4 := KeepP.below hk3 hb4 (fun b' h => Nat.lt_of_lt_of_le (hKl b' h) hb3.size)
    refine hK.out _ _ hk4 (fun _ => ?_)
    clear hK K
    try simp only [Act.put, List.getElem_toArray, List.getElem_cons_zero, List.getElem_cons_succ, List.setIfInBounds_toArray, List.set_cons_zero, List.set_cons_succ]
    have HX4 := Lib.hid ((HX.out.below hb3 HX.out.lt).below hb4 (Nat.lt_of_lt_of_le HX.out.lt hb3.size))
    have HY4 := Lib.hid ((HY.out.below hb3 HY.out.lt).below hb4 (Nat.lt_of_lt_of_le HY.out.lt hb3.size))
    have HB4 := Lib.hid ((HB.out.trans (hb3.mono HB.out.size)).trans (hb4.mono (by have := HB.out.size; have := hb3.size; omega)))
    obtain ⟨x0, x1, x2, x3, x4, x5, x6, x7, x8, x9, x10⟩ := ((HX4.out)).c11r
    obtain ⟨q0, q1, q2, q3, q4, q5, q6, q7, q8, q9, q10⟩ := ((HX4.out)).f11r
    have hlx := (HX4.out).lt
    refine wpAnyH_ready (rs := [5]) (by kernel_rfl) (by simp) ?_
    refine AllReadyH.cons (o := _) rfl (fun K hK => ?_) AllReadyH.nil
    go_simp
    refine hK.out _ _ (KeepP.set11 hk4 (fun b' h e => by omega)) (fun _ => ?_)
    clear hK K
    try simp only [Act.put, List.getElem_toArray, List.getElem_cons_zero, List.getElem_cons_succ, List.setIfInBounds_toArray, List.set_cons_zero, List.set_cons_succ]
    refine wpAnyH_done (by kernel_rfl) ?_ _
    have HRR := Lib.hid (show _ ∧ _ ∧ _ ∧ _ from ⟨Blk.store11 (v0 := .bool r.hollow) (v1 := .int .i64 r.short) (v2 := .int .i64 r.long) (v3 := .int .u64 (word r.first 0)) (v4 := .int .u64 (word r.first 1)) (v5 := .int .u64 (word r.first 2)) (v6 := .int .u64 (word r.first 3)) (v7 := .int .u64 (word r.last 0)) (v8 := .int .u64 (word r.last 1)) (v9 := .int .u64 (word r.last 2)) (v10 := .int .u64 (word r.last 3)) HX4.out, far11 (v0 := .bool r.hollow) (v1 := .int .i64 r.short) (v2 := .int .i64 r.long) (v3 := .int .u64 (word r.first 0)) (v4 := .int .u64 (word r.first 1)) (v5 := .int .u64 (word r.first 2)) (v6 := .int .u64 (word r.first 3)) (v7 := .int .u64 (word r.last 0)) (v8 := .int .u64 (word r.last 1)) (v9 := .int .u64 (word r.last 2)) (v10 := .int .u64 (word r.last 3)) (g := w.heap.size) HY4.out (by omega), below_set11 (g := w.heap.size) (v0 := .bool r.hollow) (v1 := .int .i64 r.short) (v2 := .int .i64 r.long) (v3 := .int .u64 (word r.first 0)) (v4 := .int .u64 (word r.first 1)) (v5 := .int .u64 (word r.first 2)) (v6 := .int .u64 (word r.first 3)) (v7 := .int .u64 (word r.last 0)) (v8 := .int .u64 (word r.last 1)) (v9 := .int .u64 (word r.last 2)) (v10 := .int .u64 (word r.last 3)) HB4.out (Nat.le_refl _), hOk⟩)
    clear HX4 HY4 HB4 hb3 hb4 HF2 hk4 hk3 HX HY HN HKZ hOk HE2 HO HSk HZ HB
    clear x0 x1 x2 x3 x4 x5 x6 x7 x8 x9 x10
    clear q0 q1 q2 q3 q4 q5 q6 q7 q8 q9 q10
    go_wp2
    go_light
    go_roundw
    case rel => exact ⟨k + 1, r, by go_num, by omega, HE3, HRR⟩
    case measure => simp [intOf]; omega
   ·skip
    go_simp
    go_at_call 151
    have HI3 := HG.out k z C capc w2.drew HZ.out (HKZ.out.below (Below.refl _ _).drew)
    unfold ndV sumV sumA at HI3
    refine HI3.mono ?_
    rintro e w3 ⟨rfl, hb3'⟩
    have hb3 : Below w2.heap.size w2 w3 := (Below.refl _ _).drew.trans hb3'
    have hk3 := KeepP.below (KeepP.start (fun b' => b' = gn) w2) hb3' hKl
    refine hK.out _ _ hk3 (fun _ => ?_)
    clear hK K HI3 hHeld hb3'
    try simp only [Act.put, List.getElem_toArray, List.getElem_cons_zero, List.getElem_cons_succ, List.setIfInBounds_toArray, List.set_cons_zero, List.set_cons_succ]
    clear n0 n1 n2 n3 n4 n5 n6 n7
    clear x0 x1 x2 x3 x4 x5 x6 x7 x8 x9 x10
    obtain ⟨y0, y1, y2, y3, y4, y5, y6, y7, y8, y9, y10⟩ := ((HX.out.below hb3 HX.out.lt)).c11r
    have hly := (HX.out.below hb3 HX.out.lt).lt
    refine wpAnyH_ready (rs := [1]) (by kernel_rfl) (by simp) ?_
    refine AllReadyH.cons (o := _) rfl (fun K hK => ?_) AllReadyH.nil
    go_simp
    refine hK.out _ _ (by assumption) (fun _ => ?_)
    clear hK K
    try simp only [Act.put, List.getElem_toArray, List.getElem_cons_zero, List.getElem_cons_succ, List.setIfInBounds_toArray, List.set_cons_zero, List.set_cons_succ]
    clear y0 y1 y2 y3 y4 y5 y6 y7 y8 y9 y10
    clear hly
    have HF2 := Lib.hid (HF.out s z.sum w3 HSk.out HO.out)
    have hOk := HK.out s z.sum HSk.out HO.out
    have HE3 := Lib.hid HE2.out
    generalize f s z.sum = r at *
    unfold sumV sumA at HF2
    refine wpAnyH_ready (rs := [4]) (by kernel_rfl) (by simp) ?_
    refine AllReadyH.cons (o := _) rfl (fun K hK => ?_) AllReadyH.nil
    go_simp
    refine HF2.out.mono ?_
    rintro e w4 ⟨rfl, hb4⟩
    have hk4 := KeepP.below hk3 hb4 (fun b' h => Nat.lt_of_lt_of_le (hKl b' h) hb3.size)
    refine hK.out _ _ hk4 (fun _ => ?_)
    clear hK K
    try simp only [Act.put, List.getElem_toArray, List.getElem_cons_zero, List.getElem_cons_succ, List.setIfInBounds_toArray, List.set_cons_zero, List.set_cons_succ]
    have HX4 := Lib.hid ((HX.out.below hb3 HX.out.lt).below hb4 (Nat.lt_of_lt_of_le HX.out.lt hb3.size))
    have HY4 := Lib.hid ((HY.out.below hb3 HY.out.lt).below hb4 (Nat.lt_of_lt_of_le HY.out.lt hb3.size))
    have HB4 := Lib.hid ((HB.out.trans (hb3.mono HB.out.size)).trans (hb4.mono (by have := HB.out.size; have := hb3.size; omega)))
    obtain ⟨x0, x1, x2, x3, x4, x5, x6, x7, x8, x9, x10⟩ := ((HX4.out)).c11r
    obtain ⟨q0, q1, q2, q3, q4, q5, q6, q7, q8, q9, q10⟩ := ((HX4.out)).f11r
    have hlx := (HX4.out).lt
    refine wpAnyH_ready (rs := [5]) (by kernel_rfl) (by simp) ?_
    refine AllReadyH.cons (o := _) rfl (fun K hK => ?_) AllReadyH.nil
    go_simp
    refine hK.out _ _ (KeepP.set11 hk4 (fun b' h e => by omega)) (fun _ => ?_)
    clear hK K
    try simp only [Act.put, List.getElem_toArray, List.getElem_cons_zero, List.getElem_cons_succ, List.setIfInBounds_toArray, List.set_cons_zero, List.set_cons_succ]
    refine wpAnyH_done (by kernel_rfl) ?_ _
    have HRR := Lib.hid (show _ ∧ _ ∧ _ ∧ _ from ⟨Blk.store11 (v0 := .bool r.hollow) (v1 := .int .i64 r.short) (v2 := .int .i64 r.long) (v3 := .int .u64 (word r.first 0)) (v4 := .int .u64 (word r.first 1)) (v5 := .int .u64 (word r.first 2)) (v6 := .int .u64 (word r.first 3)) (v7 := .int .u64 (word r.last 0)) (v8 := .int .u64 (word r.last 1)) (v9 := .int .u64 (word r.last 2)) (v10 := .int .u64 (word r.last 3)) HX4.out, far11 (v0 := .bool r.hollow) (v1 := .int .i64 r.short) (v2 := .int .i64 r.long) (v3 := .int .u64 (word r.first 0)) (v4 := .int .u64 (word r.first 1)) (v5 := .int .u64 (word r.first 2)) (v6 := .int .u64 (word r.first 3)) (v7 := .int .u64 (word r.last 0)) (v8 := .int .u64 (word r.last 1)) (v9 := .int .u64 (word r.last 2)) (v10 := .int .u64 (word r.last 3)) (g := w.heap.size) HY4.out (by omega), below_set11 (g := w.heap.size) (v0 := .bool r.hollow) (v1 := .int .i64 r.short) (v2 := .int .i64 r.long) (v3 := .int .u64 (word r.first 0)) (v4 := .int .u64 (word r.first 1)) (v5 := .int .u64 (word r.first 2)) (v6 := .int .u64 (word r.first 3)) (v7 := .int .u64 (word r.last 0)) (v8 := .int .u64 (word r.last 1)) (v9 := .int .u64 (word r.last 2)) (v10 := .int .u64 (word r.last 3)) HB4.out (Nat.le_refl _), hOk⟩)
    clear HX4 HY4 HB4 hb3 hb4 HF2 hk4 hk3 HX HY HN HKZ hOk HE2 HO HSk HZ HB
    clear x0 x1 x2 x3 x4 x5 x6 x7 x8 x9 x10
    clear q0 q1 q2 q3 q4 q5 q6 q7 q8 q9 q10
    go_wp2
    go_light
    go_roundw
    case rel => exact ⟨k + 1, r, by go_num, by omega, HE3, HRR⟩
    case measure => simp [intOf]; omega
  ·obtain rfl : k = F.len := by omega
   have hdl : ¬ ((F.len : Int) < (F.len : Int)) := by omega
   have HV := Lib.hid (show F.sums.foldl f s0 = s by rw [← HE.out, ← sums_len, List.take_length])
   obtain ⟨x0, x1, x2, x3, x4, x5, x6, x7, x8, x9, x10⟩ := ((HR.out.1)).c11r
   have hlx := (HR.out.1).lt
   obtain ⟨r0, r1, r2, r3, r4, r5, r6, r7, r8, r9, r10⟩ := ((HR.out.2.1)).c11r
   obtain ⟨q0, q1, q2, q3, q4, q5, q6, q7, q8, q9, q10⟩ := ((HR.out.2.1)).f11r
   have hlr := (HR.out.2.1).lt
   go_wp2
   refine bodyPost_ret (ret_sum Tryz.results176 rfl (Blk.store11 HR.out.2.1)) rfl ⟨by rw [HV.out], below_set11 HR.out.2.2.1 (by omega)⟩
theorem one_kid {x : Nd} (h : x.kids.len = 1) : ∃ z, x.kids.list = [z] ∧ x.kids.list[0]? = some z := by
 have : x.kids.list.length = 1 := by rw [Trees.len_list]; exact h
 obtain ⟨z, hz⟩ := List.length_eq_one_iff.1 this
 exact ⟨z, hz, by rw [hz]; rfl⟩
def OfC (n : Nat) : Prop := ∀ (x : Nd) (P : Nat → Prop) (B : Option Addr) (cap : Nat) (w : World), x.size ≤ n → x.size ≤ 140737488355328 → (∀ y ∈ x.nodes, aloneN y = true) → TreesAt w P x.kids B →
 Calls Tryz.prog 151 #[ndV x B cap] w fun e w' => e = .returned (sumV x.sum) ∧ Below w.heap.size w w'
def KidOf (x : Nd) (P : Nat → Prop) : Prop := ∀ (i : Nat) (z : Nd) (C : Option Addr) (capc : Nat) (w' : World), x.kids.list[i]? = some z → TreesAt w' P z.kids C → Calls Tryz.prog 151 #[ndV z C capc] w' fun e w'' => e = .returned (sumV z.sum) ∧ Below w'.heap.size w' w''
theorem sum_two {x : Nd} (h : x.kind = 2) : x.sum = fnilF := by unfold Nd.sum ofF; rw [if_pos h]
theorem sum_set {x : Nd} (h : x.kind = 3) : x.sum = if isNoSet x.set = true then nothingF else ⟨false, 1, 1, x.set.testBit, x.set.testBit⟩ := by unfold Nd.sum ofF; rw [if_neg (by omega), if_pos h]
theorem sum_cat {x : Nd} (h : x.kind = 4) : x.sum = x.kids.sums.foldl behindF fnilF := by unfold Nd.sum ofF; rw [if_neg (by omega), if_neg (by omega), if_pos h]
theorem sum_alt {x : Nd} (h : x.kind = 5) : x.sum = x.kids.sums.foldl eitherF nothingF := by unfold Nd.sum ofF; rw [if_neg (by omega), if_neg (by omega), if_neg (by omega), if_pos h]
theorem sum_star {x z : Nd} (h : x.kind = 6) (hz : x.kids.list[0]? = some z) : x.sum = repeatedF z.sum 0 endF := by rw [show x.sum = ofF x.kind x.set x.lo x.hi x.kids.sums from rfl]; unfold ofF; rw [if_neg (by omega), if_neg (by omega), if_neg (by omega), if_neg (by omega), if_pos h, Trees.sums_head hz]
theorem sum_plus {x z : Nd} (h : x.kind = 7) (hz : x.kids.list[0]? = some z) : x.sum = repeatedF z.sum 1 endF := by rw [show x.sum = ofF x.kind x.set x.lo x.hi x.kids.sums from rfl]; unfold ofF; rw [if_neg (by omega), if_neg (by omega), if_neg (by omega), if_neg (by omega), if_neg (by omega), if_pos h, Trees.sums_head hz]
theorem sum_opt {x z : Nd} (h : x.kind = 8) (hz : x.kids.list[0]? = some z) : x.sum = repeatedF z.sum 0 1 := by rw [show x.sum = ofF x.kind x.set x.lo x.hi x.kids.sums from rfl]; unfold ofF; rw [if_neg (by omega), if_neg (by omega), if_neg (by omega), if_neg (by omega), if_neg (by omega), if_neg (by omega), if_pos h, Trees.sums_head hz]
theorem sum_rep {x z : Nd} (h : x.kind = 9) (hz : x.kids.list[0]? = some z) : x.sum = repeatedF z.sum x.lo (hiF x.hi) := by rw [show x.sum = ofF x.kind x.set x.lo x.hi x.kids.sums from rfl]; unfold ofF; rw [if_neg (by omega), if_neg (by omega), if_neg (by omega), if_neg (by omega), if_neg (by omega), if_neg (by omega), if_neg (by omega), if_pos h, Trees.sums_head hz]
theorem sum_none {x : Nd} (h : x.kind = 1) : x.sum = nothingF := by unfold Nd.sum ofF; rw [if_neg (by omega), if_neg (by omega), if_neg (by omega), if_neg (by omega), if_neg (by omega), if_neg (by omega), if_neg (by omega), if_neg (by omega)]
theorem of_two (x : Nd) (P : Nat → Prop) (B : Option Addr) (cap : Nat) (w : World) (hl : x.kids.len ≤ 140737488355328) (ho : ∀ y ∈ x.nodes, aloneN y = true) (ht : TreesAt w P x.kids B) (hG : KidOf x P) (hk : x.kind = 2) : Calls Tryz.prog 151 #[ndV x B cap] w fun e w' => e = .returned (sumV x.sum) ∧ Below w.heap.size w w' := by
 have HV := Lib.hid (sum_two hk)
 have hb : Below w.heap.size w ((w.alloc (.cells #[.int .i64 x.kind, .int .u64 (word x.set.testBit 0), .int .u64 (word x.set.testBit 1), .int .u64 (word x.set.testBit 2), .int .u64 (word x.set.testBit 3), .slice B x.kids.len cap, .int .i64 x.lo, .int .i64 x.hi] 28)).alloc (.cells #[.bool false, .int .i64 0, .int .i64 0, .int .u64 0, .int .u64 0, .int .u64 0, .int .u64 0, .int .u64 0, .int .u64 0, .int .u64 0, .int .u64 0] 121)) := ((Below.refl _ _).alloc (Nat.le_refl _) _).alloc (by simp) _
 have HB := Lib.hid hb
 have HN := Lib.hid ((Blk.new w 28 #[.int .i64 x.kind, .int .u64 (word x.set.testBit 0), .int .u64 (word x.set.testBit 1), .int .u64 (word x.set.testBit 2), .int .u64 (word x.set.testBit 3), .slice B x.kids.len cap, .int .i64 x.lo, .int .i64 x.hi]).alloc (.cells #[.bool false, .int .i64 0, .int .i64 0, .int .u64 0, .int .u64 0, .int .u64 0, .int .u64 0, .int .u64 0, .int .u64 0, .int .u64 0, .int .u64 0] 121))
 have HR := Lib.hid (show Blk ((w.alloc (.cells #[.int .i64 x.kind, .int .u64 (word x.set.testBit 0), .int .u64 (word x.set.testBit 1), .int .u64 (word x.set.testBit 2), .int .u64 (word x.set.testBit 3), .slice B x.kids.len cap, .int .i64 x.lo, .int .i64 x.hi] 28)).alloc (.cells #[.bool false, .int .i64 0, .int .i64 0, .int .u64 0, .int .u64 0, .int .u64 0, .int .u64 0, .int .u64 0, .int .u64 0, .int .u64 0, .int .u64 0] 121)) (w.heap.size + 1) 121 #[.bool false, .int .i64 0, .int .i64 0, .int .u64 0, .int .u64 0, .int .u64 0, .int .u64 0, .int .u64 0, .int .u64 0, .int .u64 0, .int .u64 0] from Blk.new_at (by simp))
 have HT := Lib.hid (ht.below hb)
 have HG := Lib.hid hG
 have HO := Lib.hid ho
 clear hb ht hG ho
 unfold ndV
 rw [hk] at HN HR HT HB ⊢
 go_enter Tryz.func151, Tryz.ntmps151
 go_upto_region 1 with fail
 generalize ((w.alloc (.cells #[.int .i64 2, .int .u64 (word x.set.testBit 0), .int .u64 (word x.set.testBit 1), .int .u64 (word x.set.testBit 2), .int .u64 (word x.set.testBit 3), .slice B x.kids.len cap, .int .i64 x.lo, .int .i64 x.hi] 28)).alloc (.cells #[.bool false, .int .i64 0, .int .i64 0, .int .u64 0, .int .u64 0, .int .u64 0, .int .u64 0, .int .u64 0, .int .u64 0, .int .u64 0, .int .u64 0] 121)) = w2 at *
 obtain ⟨n0, n1, n2, n3, n4, n5, n6, n7⟩ := ((HN.out)).c8r
 have hln := (HN.out).lt
 obtain ⟨r0, r1, r2, r3, r4, r5, r6, r7, r8, r9, r10⟩ := ((HR.out)).c11r
 obtain ⟨q0, q1, q2, q3, q4, q5, q6, q7, q8, q9, q10⟩ := ((HR.out)).f11r
 have hlr := (HR.out).lt
 go_wp2
 refine bodyPost_ret (ret_sum Tryz.results151 rfl (Blk.store11 HR.out)) rfl ⟨by rw [HV.out, fnil_val], below_set11 HB.out (by omega)⟩
theorem of_none (x : Nd) (P : Nat → Prop) (B : Option Addr) (cap : Nat) (w : World) (hl : x.kids.len ≤ 140737488355328) (ho : ∀ y ∈ x.nodes, aloneN y = true) (ht : TreesAt w P x.kids B) (hG : KidOf x P) (hk : x.kind = 1) : Calls Tryz.prog 151 #[ndV x B cap] w fun e w' => e = .returned (sumV x.sum) ∧ Below w.heap.size w w' := by
 have HV := Lib.hid (sum_none hk)
 have hb : Below w.heap.size w ((w.alloc (.cells #[.int .i64 x.kind, .int .u64 (word x.set.testBit 0), .int .u64 (word x.set.testBit 1), .int .u64 (word x.set.testBit 2), .int .u64 (word x.set.testBit 3), .slice B x.kids.len cap, .int .i64 x.lo, .int .i64 x.hi] 28)).alloc (.cells #[.bool false, .int .i64 0, .int .i64 0, .int .u64 0, .int .u64 0, .int .u64 0, .int .u64 0, .int .u64 0, .int .u64 0, .int .u64 0, .int .u64 0] 121)) := ((Below.refl _ _).alloc (Nat.le_refl _) _).alloc (by simp) _
 have HB := Lib.hid hb
 have HN := Lib.hid ((Blk.new w 28 #[.int .i64 x.kind, .int .u64 (word x.set.testBit 0), .int .u64 (word x.set.testBit 1), .int .u64 (word x.set.testBit 2), .int .u64 (word x.set.testBit 3), .slice B x.kids.len cap, .int .i64 x.lo, .int .i64 x.hi]).alloc (.cells #[.bool false, .int .i64 0, .int .i64 0, .int .u64 0, .int .u64 0, .int .u64 0, .int .u64 0, .int .u64 0, .int .u64 0, .int .u64 0, .int .u64 0] 121))
 have HR := Lib.hid (show Blk ((w.alloc (.cells #[.int .i64 x.kind, .int .u64 (word x.set.testBit 0), .int .u64 (word x.set.testBit 1), .int .u64 (word x.set.testBit 2), .int .u64 (word x.set.testBit 3), .slice B x.kids.len cap, .int .i64 x.lo, .int .i64 x.hi] 28)).alloc (.cells #[.bool false, .int .i64 0, .int .i64 0, .int .u64 0, .int .u64 0, .int .u64 0, .int .u64 0, .int .u64 0, .int .u64 0, .int .u64 0, .int .u64 0] 121)) (w.heap.size + 1) 121 #[.bool false, .int .i64 0, .int .i64 0, .int .u64 0, .int .u64 0, .int .u64 0, .int .u64 0, .int .u64 0, .int .u64 0, .int .u64 0, .int .u64 0] from Blk.new_at (by simp))
 have HT := Lib.hid (ht.below hb)
 have HG := Lib.hid hG
 have HO := Lib.hid ho
 clear hb ht hG ho
 unfold ndV
 rw [hk] at HN HR HT HB ⊢
 go_enter Tryz.func151, Tryz.ntmps151
 go_upto_region 1 with fail
 generalize ((w.alloc (.cells #[.int .i64 1, .int .u64 (word x.set.testBit 0), .int .u64 (word x.set.testBit 1), .int .u64 (word x.set.testBit 2), .int .u64 (word x.set.testBit 3), .slice B x.kids.len cap, .int .i64 x.lo, .int .i64 x.hi] 28)).alloc (.cells #[.bool false, .int .i64 0, .int .i64 0, .int .u64 0, .int .u64 0, .int .u64 0, .int .u64 0, .int .u64 0, .int .u64 0, .int .u64 0, .int .u64 0] 121)) = w2 at *
 obtain ⟨n0, n1, n2, n3, n4, n5, n6, n7⟩ := ((HN.out)).c8r
 have hln := (HN.out).lt
 go_wp2_with fail
 refine (nothing_go _).mono ?_
 rintro e w3 ⟨rfl, hb3⟩
 have HR3 := Lib.hid (HR.out.below hb3 HR.out.lt)
 have HB3 := Lib.hid (HB.out.trans (hb3.mono HB.out.size))
 clear hb3
 clear n0 n1 n2 n3 n4 n5 n6 n7
 rw [nothing_val]
 dsimp only
 obtain ⟨r0, r1, r2, r3, r4, r5, r6, r7, r8, r9, r10⟩ := ((HR3.out)).c11r
 obtain ⟨q0, q1, q2, q3, q4, q5, q6, q7, q8, q9, q10⟩ := ((HR3.out)).f11r
 have hlr := (HR3.out).lt
 go_wp2
 refine bodyPost_ret (ret_sum Tryz.results151 rfl (Blk.store11 HR3.out)) rfl ⟨by rw [HV.out, nothing_val], below_set11 HB3.out (by omega)⟩
theorem of_set0 (x : Nd) (P : Nat → Prop) (B : Option Addr) (cap : Nat) (w : World) (hl : x.kids.len ≤ 140737488355328) (ho : ∀ y ∈ x.nodes, aloneN y = true) (ht : TreesAt w P x.kids B) (hG : KidOf x P) (hk : x.kind = 3) (h0 : isNoSet x.set = true) : Calls Tryz.prog 151 #[ndV x B cap] w fun e w' => e = .returned (sumV x.sum) ∧ Below w.heap.size w w' := by
 have HV := Lib.hid (show x.sum = nothingF by rw [sum_set hk, if_pos h0])
 have HE0 := Lib.hid (show word x.set.testBit 0 = 0 ∧ word x.set.testBit 1 = 0 ∧ word x.set.testBit 2 = 0 ∧ word x.set.testBit 3 = 0 by unfold isNoSet at h0; simpa using h0)
 clear h0
 have hb : Below w.heap.size w ((w.alloc (.cells #[.int .i64 x.kind, .int .u64 (word x.set.testBit 0), .int .u64 (word x.set.testBit 1), .int .u64 (word x.set.testBit 2), .int .u64 (word x.set.testBit 3), .slice B x.kids.len cap, .int .i64 x.lo, .int .i64 x.hi] 28)).alloc (.cells #[.bool false, .int .i64 0, .int .i64 0, .int .u64 0, .int .u64 0, .int .u64 0, .int .u64 0, .int .u64 0, .int .u64 0, .int .u64 0, .int .u64 0] 121)) := ((Below.refl _ _).alloc (Nat.le_refl _) _).alloc (by simp) _
 have HB := Lib.hid hb
 have HN := Lib.hid ((Blk.new w 28 #[.int .i64 x.kind, .int .u64 (word x.set.testBit 0), .int .u64 (word x.set.testBit 1), .int .u64 (word x.set.testBit 2), .int .u64 (word x.set.testBit 3), .slice B x.kids.len cap, .int .i64 x.lo, .int .i64 x.hi]).alloc (.cells #[.bool false, .int .i64 0, .int .i64 0, .int .u64 0, .int .u64 0, .int .u64 0, .int .u64 0, .int .u64 0, .int .u64 0, .int .u64 0, .int .u64 0] 121))
 have HR := Lib.hid (show Blk ((w.alloc (.cells #[.int .i64 x.kind, .int .u64 (word x.set.testBit 0), .int .u64 (word x.set.testBit 1), .int .u64 (word x.set.testBit 2), .int .u64 (word x.set.testBit 3), .slice B x.kids.len cap, .int .i64 x.lo, .int .i64 x.hi] 28)).alloc (.cells #[.bool false, .int .i64 0, .int .i64 0, .int .u64 0, .int .u64 0, .int .u64 0, .int .u64 0, .int .u64 0, .int .u64 0, .int .u64 0, .int .u64 0] 121)) (w.heap.size + 1) 121 #[.bool false, .int .i64 0, .int .i64 0, .int .u64 0, .int .u64 0, .int .u64 0, .int .u64 0, .int .u64 0, .int .u64 0, .int .u64 0, .int .u64 0] from Blk.new_at (by simp))
 have HT := Lib.hid (ht.below hb)
 have HG := Lib.hid hG
 have HO := Lib.hid ho
 clear hb ht hG ho
 unfold ndV
 rw [hk] at HN HR HT HB ⊢
 go_enter Tryz.func151, Tryz.ntmps151
 go_upto_region 1 with fail
 generalize ((w.alloc (.cells #[.int .i64 3, .int .u64 (word x.set.testBit 0), .int .u64 (word x.set.testBit 1), .int .u64 (word x.set.testBit 2), .int .u64 (word x.set.testBit 3), .slice B x.kids.len cap, .int .i64 x.lo, .int .i64 x.hi] 28)).alloc (.cells #[.bool false, .int .i64 0, .int .i64 0, .int .u64 0, .int .u64 0, .int .u64 0, .int .u64 0, .int .u64 0, .int .u64 0, .int .u64 0, .int .u64 0] 121)) = w2 at *
 obtain ⟨n0, n1, n2, n3, n4, n5, n6, n7⟩ := ((HN.out)).c8r
 have hln := (HN.out).lt
 obtain ⟨e0, e1, e2, e3⟩ := HE0.out
 rw [e0] at n1
 rw [e1] at n2
 rw [e2] at n3
 rw [e3] at n4
 clear e0 e1 e2 e3
 go_wp2_with fail
 refine (nothing_go _).mono ?_
 rintro e w3 ⟨rfl, hb3⟩
 have HR3 := Lib.hid (HR.out.below hb3 HR.out.lt)
 have HB3 := Lib.hid (HB.out.trans (hb3.mono HB.out.size))
 clear hb3
 clear n0 n1 n2 n3 n4 n5 n6 n7
 rw [nothing_val]
 dsimp only
 obtain ⟨r0, r1, r2, r3, r4, r5, r6, r7, r8, r9, r10⟩ := ((HR3.out)).c11r
 obtain ⟨q0, q1, q2, q3, q4, q5, q6, q7, q8, q9, q10⟩ := ((HR3.out)).f11r
 have hlr := (HR3.out).lt
 go_wp2
 refine bodyPost_ret (ret_sum Tryz.results151 rfl (Blk.store11 HR3.out)) rfl ⟨by rw [HV.out, nothing_val], below_set11 HB3.out (by omega)⟩
theorem of_set1 (x : Nd) (P : Nat → Prop) (B : Option Addr) (cap : Nat) (w : World) (hl : x.kids.len ≤ 140737488355328) (ho : ∀ y ∈ x.nodes, aloneN y = true) (ht : TreesAt w P x.kids B) (hG : KidOf x P) (hk : x.kind = 3)  (hn : word x.set.testBit 0 ≠ 0) : Calls Tryz.prog 151 #[ndV x B cap] w fun e w' => e = .returned (sumV x.sum) ∧ Below w.heap.size w w' := by
 have HV := Lib.hid (show x.sum = ⟨false, 1, 1, x.set.testBit, x.set.testBit⟩ by rw [sum_set hk, if_neg (by unfold isNoSet; simp [hn])])
 have hn1 : (((word x.set.testBit 0 : Nat) : Int) == 0) = false := by rw [beq_eq_false_iff_ne]; omega
 clear hn
 have hb : Below w.heap.size w ((w.alloc (.cells #[.int .i64 x.kind, .int .u64 (word x.set.testBit 0), .int .u64 (word x.set.testBit 1), .int .u64 (word x.set.testBit 2), .int .u64 (word x.set.testBit 3), .slice B x.kids.len cap, .int .i64 x.lo, .int .i64 x.hi] 28)).alloc (.cells #[.bool false, .int .i64 0, .int .i64 0, .int .u64 0, .int .u64 0, .int .u64 0, .int .u64 0, .int .u64 0, .int .u64 0, .int .u64 0, .int .u64 0] 121)) := ((Below.refl _ _).alloc (Nat.le_refl _) _).alloc (by simp) _
 have HB := Lib.hid hb
 have HN := Lib.hid ((Blk.new w 28 #[.int .i64 x.kind, .int .u64 (word x.set.testBit 0), .int .u64 (word x.set.testBit 1), .int .u64 (word x.set.testBit 2), .int .u64 (word x.set.testBit 3), .slice B x.kids.len cap, .int .i64 x.lo, .int .i64 x.hi]).alloc (.cells #[.bool false, .int .i64 0, .int .i64 0, .int .u64 0, .int .u64 0, .int .u64 0, .int .u64 0, .int .u64 0, .int .u64 0, .int .u64 0, .int .u64 0] 121))
 have HR := Lib.hid (show Blk ((w.alloc (.cells #[.int .i64 x.kind, .int .u64 (word x.set.testBit 0), .int .u64 (word x.set.testBit 1), .int .u64 (word x.set.testBit 2), .int .u64 (word x.set.testBit 3), .slice B x.kids.len cap, .int .i64 x.lo, .int .i64 x.hi] 28)).alloc (.cells #[.bool false, .int .i64 0, .int .i64 0, .int .u64 0, .int .u64 0, .int .u64 0, .int .u64 0, .int .u64 0, .int .u64 0, .int .u64 0, .int .u64 0] 121)) (w.heap.size + 1) 121 #[.bool false, .int .i64 0, .int .i64 0, .int .u64 0, .int .u64 0, .int .u64 0, .int .u64 0, .int .u64 0, .int .u64 0, .int .u64 0, .int .u64 0] from Blk.new_at (by simp))
 have HT := Lib.hid (ht.below hb)
 have HG := Lib.hid hG
 have HO := Lib.hid ho
 clear hb ht hG ho
 unfold ndV
 rw [hk] at HN HR HT HB ⊢
 go_enter Tryz.func151, Tryz.ntmps151
 go_upto_region 1 with fail
 generalize ((w.alloc (.cells #[.int .i64 3, .int .u64 (word x.set.testBit 0), .int .u64 (word x.set.testBit 1), .int .u64 (word x.set.testBit 2), .int .u64 (word x.set.testBit 3), .slice B x.kids.len cap, .int .i64 x.lo, .int .i64 x.hi] 28)).alloc (.cells #[.bool false, .int .i64 0, .int .i64 0, .int .u64 0, .int .u64 0, .int .u64 0, .int .u64 0, .int .u64 0, .int .u64 0, .int .u64 0, .int .u64 0] 121)) = w2 at *
 obtain ⟨n0, n1, n2, n3, n4, n5, n6, n7⟩ := ((HN.out)).c8r
 have hln := (HN.out).lt
 obtain ⟨r0, r1, r2, r3, r4, r5, r6, r7, r8, r9, r10⟩ := ((HR.out)).c11r
 obtain ⟨q0, q1, q2, q3, q4, q5, q6, q7, q8, q9, q10⟩ := ((HR.out)).f11r
 have hlr := (HR.out).lt
 go_wp2
 refine bodyPost_ret (ret_sum Tryz.results151 rfl (Blk.store11 HR.out)) rfl ⟨by rw [HV.out]; rfl, below_set11 HB.out (by omega)⟩
theorem of_set2 (x : Nd) (P : Nat → Prop) (B : Option Addr) (cap : Nat) (w : World) (hl : x.kids.len ≤ 140737488355328) (ho : ∀ y ∈ x.nodes, aloneN y = true) (ht : TreesAt w P x.kids B) (hG : KidOf x P) (hk : x.kind = 3) (h0 : word x.set.testBit 0 = 0) (hn : word x.set.testBit 1 ≠ 0) : Calls Tryz.prog 151 #[ndV x B cap] w fun e w' => e = .returned (sumV x.sum) ∧ Below w.heap.size w w' := by
 have HV := Lib.hid (show x.sum = ⟨false, 1, 1, x.set.testBit, x.set.testBit⟩ by rw [sum_set hk, if_neg (by unfold isNoSet; simp [hn])])
 have hn1 : (((word x.set.testBit 1 : Nat) : Int) == 0) = false := by rw [beq_eq_false_iff_ne]; omega
 have H0 := Lib.hid h0
 clear hn h0
 have hb : Below w.heap.size w ((w.alloc (.cells #[.int .i64 x.kind, .int .u64 (word x.set.testBit 0), .int .u64 (word x.set.testBit 1), .int .u64 (word x.set.testBit 2), .int .u64 (word x.set.testBit 3), .slice B x.kids.len cap, .int .i64 x.lo, .int .i64 x.hi] 28)).alloc (.cells #[.bool false, .int .i64 0, .int .i64 0, .int .u64 0, .int .u64 0, .int .u64 0, .int .u64 0, .int .u64 0, .int .u64 0, .int .u64 0, .int .u64 0] 121)) := ((Below.refl _ _).alloc (Nat.le_refl _) _).alloc (by simp) _
 have HB := Lib.hid hb
 have HN := Lib.hid ((Blk.new w 28 #[.int .i64 x.kind, .int .u64 (word x.set.testBit 0), .int .u64 (word x.set.testBit 1), .int .u64 (word x.set.testBit 2), .int .u64 (word x.set.testBit 3), .slice B x.kids.len cap, .int .i64 x.lo, .int .i64 x.hi]).alloc (.cells #[.bool false, .int .i64 0, .int .i64 0, .int .u64 0, .int .u64 0, .int .u64 0, .int .u64 0, .int .u64 0, .int .u64 0, .int .u64 0, .int .u64 0] 121))
 have HR := Lib.hid (show Blk ((w.alloc (.cells #[.int .i64 x.kind, .int .u64 (word x.set.testBit 0), .int .u64 (word x.set.testBit 1), .int .u64 (word x.set.testBit 2), .int .u64 (word x.set.testBit 3), .slice B x.kids.len cap, .int .i64 x.lo, .int .i64 x.hi] 28)).alloc (.cells #[.bool false, .int .i64 0, .int .i64 0, .int .u64 0, .int .u64 0, .int .u64 0, .int .u64 0, .int .u64 0, .int .u64 0, .int .u64 0, .int .u64 0] 121)) (w.heap.size + 1) 121 #[.bool false, .int .i64 0, .int .i64 0, .int .u64 0, .int .u64 0, .int .u64 0, .int .u64 0, .int .u64 0, .int .u64 0, .int .u64 0, .int .u64 0] from Blk.new_at (by simp))
 have HT := Lib.hid (ht.below hb)
 have HG := Lib.hid hG
 have HO := Lib.hid ho
 clear hb ht hG ho
 unfold ndV
 rw [hk] at HN HR HT HB ⊢
 go_enter Tryz.func151, Tryz.ntmps151
 go_upto_region 1 with fail
 generalize ((w.alloc (.cells #[.int .i64 3, .int .u64 (word x.set.testBit 0), .int .u64 (word x.set.testBit 1), .int .u64 (word x.set.testBit 2), .int .u64 (word x.set.testBit 3), .slice B x.kids.len cap, .int .i64 x.lo, .int .i64 x.hi] 28)).alloc (.cells #[.bool false, .int .i64 0, .int .i64 0, .int .u64 0, .int .u64 0, .int .u64 0, .int .u64 0, .int .u64 0, .int .u64 0, .int .u64 0, .int .u64 0] 121)) = w2 at *
 obtain ⟨n0, n1, n2, n3, n4, n5, n6, n7⟩ := ((HN.out)).c8r
 have hln := (HN.out).lt
 rw [H0.out] at n1
 obtain ⟨r0, r1, r2, r3, r4, r5, r6, r7, r8, r9, r10⟩ := ((HR.out)).c11r
 obtain ⟨q0, q1, q2, q3, q4, q5, q6, q7, q8, q9, q10⟩ := ((HR.out)).f11r
 have hlr := (HR.out).lt
 go_wp2
 refine bodyPost_ret (ret_sum Tryz.results151 rfl (Blk.store11 HR.out)) rfl ⟨by rw [HV.out]; unfold sumV sumA; dsimp only; first | (rw [H0.out]; done) | (rw [H0.out]; rfl), below_set11 HB.out (by omega)⟩
theorem of_set3 (x : Nd) (P : Nat → Prop) (B : Option Addr) (cap : Nat) (w : World) (hl : x.kids.len ≤ 140737488355328) (ho : ∀ y ∈ x.nodes, aloneN y = true) (ht : TreesAt w P x.kids B) (hG : KidOf x P) (hk : x.kind = 3) (h0 : word x.set.testBit 0 = 0) (h1 : word x.set.testBit 1 = 0) (hn : word x.set.testBit 2 ≠ 0) : Calls Tryz.prog 151 #[ndV x B cap] w fun e w' => e = .returned (sumV x.sum) ∧ Below w.heap.size w w' := by
 have HV := Lib.hid (show x.sum = ⟨false, 1, 1, x.set.testBit, x.set.testBit⟩ by rw [sum_set hk, if_neg (by unfold isNoSet; simp [hn])])
 have hn1 : (((word x.set.testBit 2 : Nat) : Int) == 0) = false := by rw [beq_eq_false_iff_ne]; omega
 have H0 := Lib.hid h0
 have H1 := Lib.hid h1
 clear hn h0 h1
 have hb : Below w.heap.size w ((w.alloc (.cells #[.int .i64 x.kind, .int .u64 (word x.set.testBit 0), .int .u64 (word x.set.testBit 1), .int .u64 (word x.set.testBit 2), .int .u64 (word x.set.testBit 3), .slice B x.kids.len cap, .int .i64 x.lo, .int .i64 x.hi] 28)).alloc (.cells #[.bool false, .int .i64 0, .int .i64 0, .int .u64 0, .int .u64 0, .int .u64 0, .int .u64 0, .int .u64 0, .int .u64 0, .int .u64 0, .int .u64 0] 121)) := ((Below.refl _ _).alloc (Nat.le_refl _) _).alloc (by simp) _
 have HB := Lib.hid hb
 have HN := Lib.hid ((Blk.new w 28 #[.int .i64 x.kind, .int .u64 (word x.set.testBit 0), .int .u64 (word x.set.testBit 1), .int .u64 (word x.set.testBit 2), .int .u64 (word x.set.testBit 3), .slice B x.kids.len cap, .int .i64 x.lo, .int .i64 x.hi]).alloc (.cells #[.bool false, .int .i64 0, .int .i64 0, .int .u64 0, .int .u64 0, .int .u64 0, .int .u64 0, .int .u64 0, .int .u64 0, .int .u64 0, .int .u64 0] 121))
 have HR := Lib.hid (show Blk ((w.alloc (.cells #[.int .i64 x.kind, .int .u64 (word x.set.testBit 0), .int .u64 (word x.set.testBit 1), .int .u64 (word x.set.testBit 2), .int .u64 (word x.set.testBit 3), .slice B x.kids.len cap, .int .i64 x.lo, .int .i64 x.hi] 28)).alloc (.cells #[.bool false, .int .i64 0, .int .i64 0, .int .u64 0, .int .u64 0, .int .u64 0, .int .u64 0, .int .u64 0, .int .u64 0, .int .u64 0, .int .u64 0] 121)) (w.heap.size + 1) 121 #[.bool false, .int .i64 0, .int .i64 0, .int .u64 0, .int .u64 0, .int .u64 0, .int .u64 0, .int .u64 0, .int .u64 0, .int .u64 0, .int .u64 0] from Blk.new_at (by simp))
 have HT := Lib.hid (ht.below hb)
 have HG := Lib.hid hG
 have HO := Lib.hid ho
 clear hb ht hG ho
 unfold ndV
 rw [hk] at HN HR HT HB ⊢
 go_enter Tryz.func151, Tryz.ntmps151
 go_upto_region 1 with fail
 generalize ((w.alloc (.cells #[.int .i64 3, .int .u64 (word x.set.testBit 0), .int .u64 (word x.set.testBit 1), .int .u64 (word x.set.testBit 2), .int .u64 (word x.set.testBit 3), .slice B x.kids.len cap, .int .i64 x.lo, .int .i64 x.hi] 28)).alloc (.cells #[.bool false, .int .i64 0, .int .i64 0, .int .u64 0, .int .u64 0, .int .u64 0, .int .u64 0, .int .u64 0, .int .u64 0, .int .u64 0, .int .u64 0] 121)) = w2 at *
 obtain ⟨n0, n1, n2, n3, n4, n5, n6, n7⟩ := ((HN.out)).c8r
 have hln := (HN.out).lt
 rw [H0.out] at n1
 rw [H1.out] at n2
 obtain ⟨r0, r1, r2, r3, r4, r5, r6, r7, r8, r9, r10⟩ := ((HR.out)).c11r
 obtain ⟨q0, q1, q2, q3, q4, q5, q6, q7, q8, q9, q10⟩ := ((HR.out)).f11r
 have hlr := (HR.out).lt
 go_wp2
 refine bodyPost_ret (ret_sum Tryz.results151 rfl (Blk.store11 HR.out)) rfl ⟨by rw [HV.out]; unfold sumV sumA; dsimp only; first | (rw [H0.out, H1.out]; done) | (rw [H0.out, H1.out]; rfl), below_set11 HB.out (by omega)⟩
theorem of_set4 (x : Nd) (P : Nat → Prop) (B : Option Addr) (cap : Nat) (w : World) (hl : x.kids.len ≤ 140737488355328) (ho : ∀ y ∈ x.nodes, aloneN y = true) (ht : TreesAt w P x.kids B) (hG : KidOf x P) (hk : x.kind = 3) (h0 : word x.set.testBit 0 = 0) (h1 : word x.set.testBit 1 = 0) (h2 : word x.set.testBit 2 = 0) (hn : word x.set.testBit 3 ≠ 0) : Calls Tryz.prog 151 #[ndV x B cap] w fun e w' => e = .returned (sumV x.sum) ∧ Below w.heap.size w w' := by
 have HV := Lib.hid (show x.sum = ⟨false, 1, 1, x.set.testBit, x.set.testBit⟩ by rw [sum_set hk, if_neg (by unfold isNoSet; simp [hn])])
 have hn1 : (((word x.set.testBit 3 : Nat) : Int) == 0) = false := by rw [beq_eq_false_iff_ne]; omega
 have H0 := Lib.hid h0
 have H1 := Lib.hid h1
 have H2 := Lib.hid h2
 clear hn h0 h1 h2
 have hb : Below w.heap.size w ((w.alloc (.cells #[.int .i64 x.kind, .int .u64 (word x.set.testBit 0), .int .u64 (word x.set.testBit 1), .int .u64 (word x.set.testBit 2), .int .u64 (word x.set.testBit 3), .slice B x.kids.len cap, .int .i64 x.lo, .int .i64 x.hi] 28)).alloc (.cells #[.bool false, .int .i64 0, .int .i64 0, .int .u64 0, .int .u64 0, .int .u64 0, .int .u64 0, .int .u64 0, .int .u64 0, .int .u64 0, .int .u64 0] 121)) := ((Below.refl _ _).alloc (Nat.le_refl _) _).alloc (by simp) _
 have HB := Lib.hid hb
 have HN := Lib.hid ((Blk.new w 28 #[.int .i64 x.kind, .int .u64 (word x.set.testBit 0), .int .u64 (word x.set.testBit 1), .int .u64 (word x.set.testBit 2), .int .u64 (word x.set.testBit 3), .slice B x.kids.len cap, .int .i64 x.lo, .int .i64 x.hi]).alloc (.cells #[.bool false, .int .i64 0, .int .i64 0, .int .u64 0, .int .u64 0, .int .u64 0, .int .u64 0, .int .u64 0, .int .u64 0, .int .u64 0, .int .u64 0] 121))
 have HR := Lib.hid (show Blk ((w.alloc (.cells #[.int .i64 x.kind, .int .u64 (word x.set.testBit 0), .int .u64 (word x.set.testBit 1), .int .u64 (word x.set.testBit 2), .int .u64 (word x.set.testBit 3), .slice B x.kids.len cap, .int .i64 x.lo, .int .i64 x.hi] 28)).alloc (.cells #[.bool false, .int .i64 0, .int .i64 0, .int .u64 0, .int .u64 0, .int .u64 0, .int .u64 0, .int .u64 0, .int .u64 0, .int .u64 0, .int .u64 0] 121)) (w.heap.size + 1) 121 #[.bool false, .int .i64 0, .int .i64 0, .int .u64 0, .int .u64 0, .int .u64 0, .int .u64 0, .int .u64 0, .int .u64 0, .int .u64 0, .int .u64 0] from Blk.new_at (by simp))
 have HT := Lib.hid (ht.below hb)
 have HG := Lib.hid hG
 have HO := Lib.hid ho
 clear hb ht hG ho
 unfold ndV
 rw [hk] at HN HR HT HB ⊢
 go_enter Tryz.func151, Tryz.ntmps151
 go_upto_region 1 with fail
 generalize ((w.alloc (.cells #[.int .i64 3, .int .u64 (word x.set.testBit 0), .int .u64 (word x.set.testBit 1), .int .u64 (word x.set.testBit 2), .int .u64 (word x.set.testBit 3), .slice B x.kids.len cap, .int .i64 x.lo, .int .i64 x.hi] 28)).alloc (.cells #[.bool false, .int .i64 0, .int .i64 0, .int .u64 0, .int .u64 0, .int .u64 0, .int .u64 0, .int .u64 0, .int .u64 0, .int .u64 0, .int .u64 0] 121)) = w2 at *
 obtain ⟨n0, n1, n2, n3, n4, n5, n6, n7⟩ := ((HN.out)).c8r
 have hln := (HN.out).lt
 rw [H0.out] at n1
 rw [H1.out] at n2
 rw [H2.out] at n3
 obtain ⟨r0, r1, r2, r3, r4, r5, r6, r7, r8, r9, r10⟩ := ((HR.out)).c11r
 obtain ⟨q0, q1, q2, q3, q4, q5, q6, q7, q8, q9, q10⟩ := ((HR.out)).f11r
 have hlr := (HR.out).lt
 go_wp2
 refine bodyPost_ret (ret_sum Tryz.results151 rfl (Blk.store11 HR.out)) rfl ⟨by rw [HV.out]; unfold sumV sumA; dsimp only; first | (rw [H0.out, H1.out, H2.out]; done) | (rw [H0.out, H1.out, H2.out]; rfl), below_set11 HB.out (by omega)⟩
theorem of_cat (x : Nd) (P : Nat → Prop) (B : Option Addr) (cap : Nat) (w : World) (hl : x.kids.len ≤ 140737488355328) (ho : ∀ y ∈ x.nodes, aloneN y = true) (ht : TreesAt w P x.kids B) (hG : KidOf x P) (hk : x.kind = 4) : Calls Tryz.prog 151 #[ndV x B cap] w fun e w' => e = .returned (sumV x.sum) ∧ Below w.heap.size w w' := by
 have HV := Lib.hid (sum_cat hk)
 have hb : Below w.heap.size w ((w.alloc (.cells #[.int .i64 x.kind, .int .u64 (word x.set.testBit 0), .int .u64 (word x.set.testBit 1), .int .u64 (word x.set.testBit 2), .int .u64 (word x.set.testBit 3), .slice B x.kids.len cap, .int .i64 x.lo, .int .i64 x.hi] 28)).alloc (.cells #[.bool false, .int .i64 0, .int .i64 0, .int .u64 0, .int .u64 0, .int .u64 0, .int .u64 0, .int .u64 0, .int .u64 0, .int .u64 0, .int .u64 0] 121)) := ((Below.refl _ _).alloc (Nat.le_refl _) _).alloc (by simp) _
 have HB := Lib.hid hb
 have HN := Lib.hid ((Blk.new w 28 #[.int .i64 x.kind, .int .u64 (word x.set.testBit 0), .int .u64 (word x.set.testBit 1), .int .u64 (word x.set.testBit 2), .int .u64 (word x.set.testBit 3), .slice B x.kids.len cap, .int .i64 x.lo, .int .i64 x.hi]).alloc (.cells #[.bool false, .int .i64 0, .int .i64 0, .int .u64 0, .int .u64 0, .int .u64 0, .int .u64 0, .int .u64 0, .int .u64 0, .int .u64 0, .int .u64 0] 121))
 have HR := Lib.hid (show Blk ((w.alloc (.cells #[.int .i64 x.kind, .int .u64 (word x.set.testBit 0), .int .u64 (word x.set.testBit 1), .int .u64 (word x.set.testBit 2), .int .u64 (word x.set.testBit 3), .slice B x.kids.len cap, .int .i64 x.lo, .int .i64 x.hi] 28)).alloc (.cells #[.bool false, .int .i64 0, .int .i64 0, .int .u64 0, .int .u64 0, .int .u64 0, .int .u64 0, .int .u64 0, .int .u64 0, .int .u64 0, .int .u64 0] 121)) (w.heap.size + 1) 121 #[.bool false, .int .i64 0, .int .i64 0, .int .u64 0, .int .u64 0, .int .u64 0, .int .u64 0, .int .u64 0, .int .u64 0, .int .u64 0, .int .u64 0] from Blk.new_at (by simp))
 have HT := Lib.hid (ht.below hb)
 have HG := Lib.hid hG
 have HO := Lib.hid ho
 clear hb ht hG ho
 unfold ndV
 rw [hk] at HN HR HT HB ⊢
 go_enter Tryz.func151, Tryz.ntmps151
 go_upto_region 1 with fail
 generalize ((w.alloc (.cells #[.int .i64 4, .int .u64 (word x.set.testBit 0), .int .u64 (word x.set.testBit 1), .int .u64 (word x.set.testBit 2), .int .u64 (word x.set.testBit 3), .slice B x.kids.len cap, .int .i64 x.lo, .int .i64 x.hi] 28)).alloc (.cells #[.bool false, .int .i64 0, .int .i64 0, .int .u64 0, .int .u64 0, .int .u64 0, .int .u64 0, .int .u64 0, .int .u64 0, .int .u64 0, .int .u64 0] 121)) = w2 at *
 have hs := ok_sums x.kids (fun y hy => HO.out y (by simp [Nd.nodes, hy]))
 have HC := Lib.hid (ffold_go 177 behindF x.kids P B cap fnilF w2 ok_nil hl HT.out (fun a b w' ha hb => fbehind_go a b w' ha hb) (fun a b => ok_behind) HG.out hs (enters_of Tryz.func177 (by kernel_rfl) rfl))
 rw [fnil_val, ← HV.out] at HC
 clear hs
 obtain ⟨n0, n1, n2, n3, n4, n5, n6, n7⟩ := ((HN.out)).c8r
 have hln := (HN.out).lt
 obtain ⟨r, hr⟩ : ∃ r, r = x.sum := ⟨_, rfl⟩
 have HRr := Lib.hid hr
 rw [← hr] at HC
 clear hr
 unfold sumV sumA at HC
 go_wp2_with fail
 refine HC.out.mono ?_
 rintro e w3 ⟨rfl, hb3⟩
 have HR3 := Lib.hid (HR.out.below hb3 HR.out.lt)
 have HB3 := Lib.hid (HB.out.trans (hb3.mono HB.out.size))
 clear hb3 HC
 clear n0 n1 n2 n3 n4 n5 n6 n7
 dsimp only
 obtain ⟨r0, r1, r2, r3, r4, r5, r6, r7, r8, r9, r10⟩ := ((HR3.out)).c11r
 obtain ⟨q0, q1, q2, q3, q4, q5, q6, q7, q8, q9, q10⟩ := ((HR3.out)).f11r
 have hlr := (HR3.out).lt
 go_wp2
 refine bodyPost_ret (ret_sum Tryz.results151 rfl (Blk.store11 HR3.out)) rfl ⟨by rw [← HRr.out]; rfl, below_set11 HB3.out (by omega)⟩
theorem of_alt (x : Nd) (P : Nat → Prop) (B : Option Addr) (cap : Nat) (w : World) (hl : x.kids.len ≤ 140737488355328) (ho : ∀ y ∈ x.nodes, aloneN y = true) (ht : TreesAt w P x.kids B) (hG : KidOf x P) (hk : x.kind = 5) : Calls Tryz.prog 151 #[ndV x B cap] w fun e w' => e = .returned (sumV x.sum) ∧ Below w.heap.size w w' := by
 have HV := Lib.hid (sum_alt hk)
 have hb : Below w.heap.size w ((w.alloc (.cells #[.int .i64 x.kind, .int .u64 (word x.set.testBit 0), .int .u64 (word x.set.testBit 1), .int .u64 (word x.set.testBit 2), .int .u64 (word x.set.testBit 3), .slice B x.kids.len cap, .int .i64 x.lo, .int .i64 x.hi] 28)).alloc (.cells #[.bool false, .int .i64 0, .int .i64 0, .int .u64 0, .int .u64 0, .int .u64 0, .int .u64 0, .int .u64 0, .int .u64 0, .int .u64 0, .int .u64 0] 121)) := ((Below.refl _ _).alloc (Nat.le_refl _) _).alloc (by simp) _
 have HB := Lib.hid hb
 have HN := Lib.hid ((Blk.new w 28 #[.int .i64 x.kind, .int .u64 (word x.set.testBit 0), .int .u64 (word x.set.testBit 1), .int .u64 (word x.set.testBit 2), .int .u64 (word x.set.testBit 3), .slice B x.kids.len cap, .int .i64 x.lo, .int .i64 x.hi]).alloc (.cells #[.bool false, .int .i64 0, .int .i64 0, .int .u64 0, .int .u64 0, .int .u64 0, .int .u64 0, .int .u64 0, .int .u64 0, .int .u64 0, .int .u64 0] 121))
 have HR := Lib.hid (show Blk ((w.alloc (.cells #[.int .i64 x.kind, .int .u64 (word x.set.testBit 0), .int .u64 (word x.set.testBit 1), .int .u64 (word x.set.testBit 2), .int .u64 (word x.set.testBit 3), .slice B x.kids.len cap, .int .i64 x.lo, .int .i64 x.hi] 28)).alloc (.cells #[.bool false, .int .i64 0, .int .i64 0, .int .u64 0, .int .u64 0, .int .u64 0, .int .u64 0, .int .u64 0, .int .u64 0, .int .u64 0, .int .u64 0] 121)) (w.heap.size + 1) 121 #[.bool false, .int .i64 0, .int .i64 0, .int .u64 0, .int .u64 0, .int .u64 0, .int .u64 0, .int .u64 0, .int .u64 0, .int .u64 0, .int .u64 0] from Blk.new_at (by simp))
 have HT := Lib.hid (ht.below hb)
 have HG := Lib.hid hG
 have HO := Lib.hid ho
 clear hb ht hG ho
 unfold ndV
 rw [hk] at HN HR HT HB ⊢
 go_enter Tryz.func151, Tryz.ntmps151
 go_upto_region 1 with fail
 generalize ((w.alloc (.cells #[.int .i64 5, .int .u64 (word x.set.testBit 0), .int .u64 (word x.set.testBit 1), .int .u64 (word x.set.testBit 2), .int .u64 (word x.set.testBit 3), .slice B x.kids.len cap, .int .i64 x.lo, .int .i64 x.hi] 28)).alloc (.cells #[.bool false, .int .i64 0, .int .i64 0, .int .u64 0, .int .u64 0, .int .u64 0, .int .u64 0, .int .u64 0, .int .u64 0, .int .u64 0, .int .u64 0] 121)) = w2 at *
 have hs := ok_sums x.kids (fun y hy => HO.out y (by simp [Nd.nodes, hy]))
 have HC := Lib.hid (fun (W : World) (hb : Below w2.heap.size w2 W) => ffold_go 178 eitherF x.kids P B cap nothingF W ok_nothing hl (HT.out.below hb) (fun a b w' _ _ => feither_go a b w') (fun a b => ok_either) HG.out hs (enters_of Tryz.func178 (by kernel_rfl) rfl))
 rw [nothing_val, ← HV.out] at HC
 clear hs
 obtain ⟨n0, n1, n2, n3, n4, n5, n6, n7⟩ := ((HN.out)).c8r
 have hln := (HN.out).lt
 obtain ⟨r, hr⟩ : ∃ r, r = x.sum := ⟨_, rfl⟩
 have HRr := Lib.hid hr
 rw [← hr] at HC
 clear hr
 unfold sumV sumA at HC
 go_upto_region 11 with fail
 have hKl : ∀ b', b' = w.heap.size → b' < w2.heap.size := fun b' h => by rw [h]; exact hln
 refine wp_region_held_drew (S := fun w' => ∀ b' o', b' = w.heap.size → w'.cell? ⟨b', o', none⟩ = w2.cell? ⟨b', o', none⟩) (by kernel_rfl) (KeepP.start (fun b' => b' = w.heap.size) w2) (fun hHeld => ?_)
 refine wpAnyH_take (i := 1) (oi := _) (v := ?_) rfl (by kernel_rfl) (by kernel_rfl) (by kernel_rfl) (fun _ _ _ h => h) (Or.inl ⟨by kernel_rfl, ?_⟩) (by assumption) ?_
 rotate_left
 ·intro w hSw
  try dsimp only at hSw
  go_simp
  try (with_reducible rfl)
 try simp only [Act.put, List.getElem_toArray, List.getElem_cons_zero, List.getElem_cons_succ, List.setIfInBounds_toArray, List.set_cons_zero, List.set_cons_succ]
 refine wpAnyH_take (i := 2) (oi := _) (v := ?_) rfl (by kernel_rfl) (by kernel_rfl) (by kernel_rfl) (fun _ _ _ h => h) (Or.inl ⟨by kernel_rfl, ?_⟩) (by assumption) ?_
 rotate_left
 ·intro w hSw
  try dsimp only at hSw
  go_simp
  try (with_reducible rfl)
 try simp only [Act.put, List.getElem_toArray, List.getElem_cons_zero, List.getElem_cons_succ, List.setIfInBounds_toArray, List.set_cons_zero, List.set_cons_succ]
 refine wpAnyH_ready (rs := [0]) (by kernel_rfl) (by simp) ?_
 refine AllReadyH.cons (o := _) rfl (fun K hK => ?_) AllReadyH.nil
 go_simp
 go_at_call 175
 refine (nothing_go _).mono ?_
 rintro e w3 ⟨rfl, hb3'⟩
 have hb3 : Below w2.heap.size w2 w3 := (Below.refl _ _).drew.trans hb3'
 have hk3 := KeepP.below (KeepP.start (fun b' => b' = w.heap.size) w2) hb3' hKl
 rw [nothing_val]
 refine hK.out _ _ hk3 (fun _ => ?_)
 clear hK K hHeld hb3'
 try simp only [Act.put, List.getElem_toArray, List.getElem_cons_zero, List.getElem_cons_succ, List.setIfInBounds_toArray, List.set_cons_zero, List.set_cons_succ]
 refine wpAnyH_ready (rs := [3]) (by kernel_rfl) (by simp) ?_
 refine AllReadyH.cons (o := _) rfl (fun K hK => ?_) AllReadyH.nil
 go_simp
 refine (HC.out w3 hb3).mono ?_
 rintro e w4 ⟨rfl, hb4⟩
 have hk4 := KeepP.below hk3 hb4 (fun b' h => Nat.lt_of_lt_of_le (hKl b' h) hb3.size)
 refine hK.out _ _ hk4 (fun _ => ?_)
 clear hK K hk3
 try simp only [Act.put, List.getElem_toArray, List.getElem_cons_zero, List.getElem_cons_succ, List.setIfInBounds_toArray, List.set_cons_zero, List.set_cons_succ]
 have HR3 := Lib.hid ((HR.out.below hb3 HR.out.lt).below hb4 (Nat.lt_of_lt_of_le HR.out.lt hb3.size))
 have HB3 := Lib.hid ((HB.out.trans (hb3.mono HB.out.size)).trans (hb4.mono (by have := HB.out.size; have := hb3.size; omega)))
 clear hb3 hb4 HC
 clear n0 n1 n2 n3 n4 n5 n6 n7
 obtain ⟨r0, r1, r2, r3, r4, r5, r6, r7, r8, r9, r10⟩ := ((HR3.out)).c11r
 obtain ⟨q0, q1, q2, q3, q4, q5, q6, q7, q8, q9, q10⟩ := ((HR3.out)).f11r
 have hlr := (HR3.out).lt
 refine wpAnyH_ready (rs := [4]) (by kernel_rfl) (by simp) ?_
 refine AllReadyH.cons (o := _) rfl (fun K hK => ?_) AllReadyH.nil
 go_simp
 refine hK.out _ _ (KeepP.set11 hk4 (fun b' h e => by omega)) (fun _ => ?_)
 clear hK K
 try simp only [Act.put, List.getElem_toArray, List.getElem_cons_zero, List.getElem_cons_succ, List.setIfInBounds_toArray, List.set_cons_zero, List.set_cons_succ]
 refine wpAnyH_done (by kernel_rfl) ?_ _
 go_wp2
 refine bodyPost_ret (ret_sum Tryz.results151 rfl (Blk.store11 HR3.out)) rfl ⟨by rw [← HRr.out]; rfl, below_set11 HB3.out (by omega)⟩
theorem of_star (x : Nd) (P : Nat → Prop) (B : Option Addr) (cap : Nat) (w : World) (hl : x.kids.len ≤ 140737488355328) (ho : ∀ y ∈ x.nodes, aloneN y = true) (ht : TreesAt w P x.kids B) (hG : KidOf x P) (hk : x.kind = 6) (z : Nd) (hz : x.kids.list[0]? = some z) (hk1 : x.kids.len = 1) : Calls Tryz.prog 151 #[ndV x B cap] w fun e w' => e = .returned (sumV x.sum) ∧ Below w.heap.size w w' := by
 have HK1 := Lib.hid hk1
 clear hk1
 have HV := Lib.hid (sum_star hk hz)
 have hb : Below w.heap.size w ((w.alloc (.cells #[.int .i64 x.kind, .int .u64 (word x.set.testBit 0), .int .u64 (word x.set.testBit 1), .int .u64 (word x.set.testBit 2), .int .u64 (word x.set.testBit 3), .slice B x.kids.len cap, .int .i64 x.lo, .int .i64 x.hi] 28)).alloc (.cells #[.bool false, .int .i64 0, .int .i64 0, .int .u64 0, .int .u64 0, .int .u64 0, .int .u64 0, .int .u64 0, .int .u64 0, .int .u64 0, .int .u64 0] 121)) := ((Below.refl _ _).alloc (Nat.le_refl _) _).alloc (by simp) _
 have HB := Lib.hid hb
 have HN := Lib.hid ((Blk.new w 28 #[.int .i64 x.kind, .int .u64 (word x.set.testBit 0), .int .u64 (word x.set.testBit 1), .int .u64 (word x.set.testBit 2), .int .u64 (word x.set.testBit 3), .slice B x.kids.len cap, .int .i64 x.lo, .int .i64 x.hi]).alloc (.cells #[.bool false, .int .i64 0, .int .i64 0, .int .u64 0, .int .u64 0, .int .u64 0, .int .u64 0, .int .u64 0, .int .u64 0, .int .u64 0, .int .u64 0] 121))
 have HR := Lib.hid (show Blk ((w.alloc (.cells #[.int .i64 x.kind, .int .u64 (word x.set.testBit 0), .int .u64 (word x.set.testBit 1), .int .u64 (word x.set.testBit 2), .int .u64 (word x.set.testBit 3), .slice B x.kids.len cap, .int .i64 x.lo, .int .i64 x.hi] 28)).alloc (.cells #[.bool false, .int .i64 0, .int .i64 0, .int .u64 0, .int .u64 0, .int .u64 0, .int .u64 0, .int .u64 0, .int .u64 0, .int .u64 0, .int .u64 0] 121)) (w.heap.size + 1) 121 #[.bool false, .int .i64 0, .int .i64 0, .int .u64 0, .int .u64 0, .int .u64 0, .int .u64 0, .int .u64 0, .int .u64 0, .int .u64 0, .int .u64 0] from Blk.new_at (by simp))
 have HT := Lib.hid (ht.below hb)
 have HG := Lib.hid hG
 have HO := Lib.hid ho
 clear hb ht hG ho
 unfold ndV
 rw [hk] at HN HR HT HB ⊢
 go_enter Tryz.func151, Tryz.ntmps151
 go_upto_region 1 with fail
 generalize ((w.alloc (.cells #[.int .i64 6, .int .u64 (word x.set.testBit 0), .int .u64 (word x.set.testBit 1), .int .u64 (word x.set.testBit 2), .int .u64 (word x.set.testBit 3), .slice B x.kids.len cap, .int .i64 x.lo, .int .i64 x.hi] 28)).alloc (.cells #[.bool false, .int .i64 0, .int .i64 0, .int .u64 0, .int .u64 0, .int .u64 0, .int .u64 0, .int .u64 0, .int .u64 0, .int .u64 0, .int .u64 0] 121)) = w2 at *
 have hk1 := HK1.out
 have HOz := Lib.hid (ok_sum (x := z) (fun y hy => HO.out y (kid_nodes hz y hy)))
 obtain ⟨b, o, C, capc, rfl, _, _, ⟨c0, c1, c2, c3, c4, c5, c6, c7⟩, hkz⟩ := HT.out.get hz
 simp only [Nat.zero_mul, Nat.add_zero] at c0 c1 c2 c3 c4 c5 c6 c7
 have hblk := World.block_lt_of_cell? w2 _ c0
 have HC := Lib.hid (HG.out 0 z C capc w2 hz hkz)
 have HC2 := Lib.hid (fun W => frepeated_go z.sum 0 endF W HOz.out (by decide) (by decide))
 rw [← HV.out] at HC2
 clear hz hkz
 obtain ⟨n0, n1, n2, n3, n4, n5, n6, n7⟩ := ((HN.out)).c8r
 have hln := (HN.out).lt
 obtain ⟨r, hr⟩ : ∃ r, r = x.sum := ⟨_, rfl⟩
 have HRr := Lib.hid hr
 rw [← hr] at HC2
 clear hr
 generalize z.sum = s at *
 unfold ndV sumV sumA at HC
 unfold sumV sumA at HC2
 try unfold endF at HC2
 go_wp2_with fail
 refine HC.out.mono ?_
 rintro e w3 ⟨rfl, hb3⟩
 clear HC c0 c1 c2 c3 c4 c5 c6 c7 hblk
 clear n0 n1 n2 n3 n4 n5 n6 n7
 dsimp only
 go_wp2_with fail
 refine (HC2.out w3).mono ?_
 rintro e w4 ⟨rfl, hb4⟩
 have HR3 := Lib.hid ((HR.out.below hb3 HR.out.lt).below hb4 (Nat.lt_of_lt_of_le HR.out.lt hb3.size))
 have HB3 := Lib.hid ((HB.out.trans (hb3.mono HB.out.size)).trans (hb4.mono (by have := HB.out.size; have := hb3.size; omega)))
 clear hb3 hb4 HC2
 dsimp only
 obtain ⟨r0, r1, r2, r3, r4, r5, r6, r7, r8, r9, r10⟩ := ((HR3.out)).c11r
 obtain ⟨q0, q1, q2, q3, q4, q5, q6, q7, q8, q9, q10⟩ := ((HR3.out)).f11r
 have hlr := (HR3.out).lt
 go_wp2
 refine bodyPost_ret (ret_sum Tryz.results151 rfl (Blk.store11 HR3.out)) rfl ⟨by rw [← HRr.out]; rfl, below_set11 HB3.out (by omega)⟩
theorem of_plus (x : Nd) (P : Nat → Prop) (B : Option Addr) (cap : Nat) (w : World) (hl : x.kids.len ≤ 140737488355328) (ho : ∀ y ∈ x.nodes, aloneN y = true) (ht : TreesAt w P x.kids B) (hG : KidOf x P) (hk : x.kind = 7) (z : Nd) (hz : x.kids.list[0]? = some z) (hk1 : x.kids.len = 1) : Calls Tryz.prog 151 #[ndV x B cap] w fun e w' => e = .returned (sumV x.sum) ∧ Below w.heap.size w w' := by
 have HK1 := Lib.hid hk1
 clear hk1
 have HV := Lib.hid (sum_plus hk hz)
 have hb : Below w.heap.size w ((w.alloc (.cells #[.int .i64 x.kind, .int .u64 (word x.set.testBit 0), .int .u64 (word x.set.testBit 1), .int .u64 (word x.set.testBit 2), .int .u64 (word x.set.testBit 3), .slice B x.kids.len cap, .int .i64 x.lo, .int .i64 x.hi] 28)).alloc (.cells #[.bool false, .int .i64 0, .int .i64 0, .int .u64 0, .int .u64 0, .int .u64 0, .int .u64 0, .int .u64 0, .int .u64 0, .int .u64 0, .int .u64 0] 121)) := ((Below.refl _ _).alloc (Nat.le_refl _) _).alloc (by simp) _
 have HB := Lib.hid hb
 have HN := Lib.hid ((Blk.new w 28 #[.int .i64 x.kind, .int .u64 (word x.set.testBit 0), .int .u64 (word x.set.testBit 1), .int .u64 (word x.set.testBit 2), .int .u64 (word x.set.testBit 3), .slice B x.kids.len cap, .int .i64 x.lo, .int .i64 x.hi]).alloc (.cells #[.bool false, .int .i64 0, .int .i64 0, .int .u64 0, .int .u64 0, .int .u64 0, .int .u64 0, .int .u64 0, .int .u64 0, .int .u64 0, .int .u64 0] 121))
 have HR := Lib.hid (show Blk ((w.alloc (.cells #[.int .i64 x.kind, .int .u64 (word x.set.testBit 0), .int .u64 (word x.set.testBit 1), .int .u64 (word x.set.testBit 2), .int .u64 (word x.set.testBit 3), .slice B x.kids.len cap, .int .i64 x.lo, .int .i64 x.hi] 28)).alloc (.cells #[.bool false, .int .i64 0, .int .i64 0, .int .u64 0, .int .u64 0, .int .u64 0, .int .u64 0, .int .u64 0, .int .u64 0, .int .u64 0, .int .u64 0] 121)) (w.heap.size + 1) 121 #[.bool false, .int .i64 0, .int .i64 0, .int .u64 0, .int .u64 0, .int .u64 0, .int .u64 0, .int .u64 0, .int .u64 0, .int .u64 0, .int .u64 0] from Blk.new_at (by simp))
 have HT := Lib.hid (ht.below hb)
 have HG := Lib.hid hG
 have HO := Lib.hid ho
 clear hb ht hG ho
 unfold ndV
 rw [hk] at HN HR HT HB ⊢
 go_enter Tryz.func151, Tryz.ntmps151
 go_upto_region 1 with fail
 generalize ((w.alloc (.cells #[.int .i64 7, .int .u64 (word x.set.testBit 0), .int .u64 (word x.set.testBit 1), .int .u64 (word x.set.testBit 2), .int .u64 (word x.set.testBit 3), .slice B x.kids.len cap, .int .i64 x.lo, .int .i64 x.hi] 28)).alloc (.cells #[.bool false, .int .i64 0, .int .i64 0, .int .u64 0, .int .u64 0, .int .u64 0, .int .u64 0, .int .u64 0, .int .u64 0, .int .u64 0, .int .u64 0] 121)) = w2 at *
 have hk1 := HK1.out
 have HOz := Lib.hid (ok_sum (x := z) (fun y hy => HO.out y (kid_nodes hz y hy)))
 obtain ⟨b, o, C, capc, rfl, _, _, ⟨c0, c1, c2, c3, c4, c5, c6, c7⟩, hkz⟩ := HT.out.get hz
 simp only [Nat.zero_mul, Nat.add_zero] at c0 c1 c2 c3 c4 c5 c6 c7
 have hblk := World.block_lt_of_cell? w2 _ c0
 have HC := Lib.hid (HG.out 0 z C capc w2 hz hkz)
 have HC2 := Lib.hid (fun W => frepeated_go z.sum 1 endF W HOz.out (by decide) (by decide))
 rw [← HV.out] at HC2
 clear hz hkz
 obtain ⟨n0, n1, n2, n3, n4, n5, n6, n7⟩ := ((HN.out)).c8r
 have hln := (HN.out).lt
 obtain ⟨r, hr⟩ : ∃ r, r = x.sum := ⟨_, rfl⟩
 have HRr := Lib.hid hr
 rw [← hr] at HC2
 clear hr
 generalize z.sum = s at *
 unfold ndV sumV sumA at HC
 unfold sumV sumA at HC2
 try unfold endF at HC2
 go_wp2_with fail
 refine HC.out.mono ?_
 rintro e w3 ⟨rfl, hb3⟩
 clear HC c0 c1 c2 c3 c4 c5 c6 c7 hblk
 clear n0 n1 n2 n3 n4 n5 n6 n7
 dsimp only
 go_wp2_with fail
 refine (HC2.out w3).mono ?_
 rintro e w4 ⟨rfl, hb4⟩
 have HR3 := Lib.hid ((HR.out.below hb3 HR.out.lt).below hb4 (Nat.lt_of_lt_of_le HR.out.lt hb3.size))
 have HB3 := Lib.hid ((HB.out.trans (hb3.mono HB.out.size)).trans (hb4.mono (by have := HB.out.size; have := hb3.size; omega)))
 clear hb3 hb4 HC2
 dsimp only
 obtain ⟨r0, r1, r2, r3, r4, r5, r6, r7, r8, r9, r10⟩ := ((HR3.out)).c11r
 obtain ⟨q0, q1, q2, q3, q4, q5, q6, q7, q8, q9, q10⟩ := ((HR3.out)).f11r
 have hlr := (HR3.out).lt
 go_wp2
 refine bodyPost_ret (ret_sum Tryz.results151 rfl (Blk.store11 HR3.out)) rfl ⟨by rw [← HRr.out]; rfl, below_set11 HB3.out (by omega)⟩
theorem of_opt (x : Nd) (P : Nat → Prop) (B : Option Addr) (cap : Nat) (w : World) (hl : x.kids.len ≤ 140737488355328) (ho : ∀ y ∈ x.nodes, aloneN y = true) (ht : TreesAt w P x.kids B) (hG : KidOf x P) (hk : x.kind = 8) (z : Nd) (hz : x.kids.list[0]? = some z) (hk1 : x.kids.len = 1) : Calls Tryz.prog 151 #[ndV x B cap] w fun e w' => e = .returned (sumV x.sum) ∧ Below w.heap.size w w' := by
 have HK1 := Lib.hid hk1
 clear hk1
 have HV := Lib.hid (sum_opt hk hz)
 have hb : Below w.heap.size w ((w.alloc (.cells #[.int .i64 x.kind, .int .u64 (word x.set.testBit 0), .int .u64 (word x.set.testBit 1), .int .u64 (word x.set.testBit 2), .int .u64 (word x.set.testBit 3), .slice B x.kids.len cap, .int .i64 x.lo, .int .i64 x.hi] 28)).alloc (.cells #[.bool false, .int .i64 0, .int .i64 0, .int .u64 0, .int .u64 0, .int .u64 0, .int .u64 0, .int .u64 0, .int .u64 0, .int .u64 0, .int .u64 0] 121)) := ((Below.refl _ _).alloc (Nat.le_refl _) _).alloc (by simp) _
 have HB := Lib.hid hb
 have HN := Lib.hid ((Blk.new w 28 #[.int .i64 x.kind, .int .u64 (word x.set.testBit 0), .int .u64 (word x.set.testBit 1), .int .u64 (word x.set.testBit 2), .int .u64 (word x.set.testBit 3), .slice B x.kids.len cap, .int .i64 x.lo, .int .i64 x.hi]).alloc (.cells #[.bool false, .int .i64 0, .int .i64 0, .int .u64 0, .int .u64 0, .int .u64 0, .int .u64 0, .int .u64 0, .int .u64 0, .int .u64 0, .int .u64 0] 121))
 have HR := Lib.hid (show Blk ((w.alloc (.cells #[.int .i64 x.kind, .int .u64 (word x.set.testBit 0), .int .u64 (word x.set.testBit 1), .int .u64 (word x.set.testBit 2), .int .u64 (word x.set.testBit 3), .slice B x.kids.len cap, .int .i64 x.lo, .int .i64 x.hi] 28)).alloc (.cells #[.bool false, .int .i64 0, .int .i64 0, .int .u64 0, .int .u64 0, .int .u64 0, .int .u64 0, .int .u64 0, .int .u64 0, .int .u64 0, .int .u64 0] 121)) (w.heap.size + 1) 121 #[.bool false, .int .i64 0, .int .i64 0, .int .u64 0, .int .u64 0, .int .u64 0, .int .u64 0, .int .u64 0, .int .u64 0, .int .u64 0, .int .u64 0] from Blk.new_at (by simp))
 have HT := Lib.hid (ht.below hb)
 have HG := Lib.hid hG
 have HO := Lib.hid ho
 clear hb ht hG ho
 unfold ndV
 rw [hk] at HN HR HT HB ⊢
 go_enter Tryz.func151, Tryz.ntmps151
 go_upto_region 1 with fail
 generalize ((w.alloc (.cells #[.int .i64 8, .int .u64 (word x.set.testBit 0), .int .u64 (word x.set.testBit 1), .int .u64 (word x.set.testBit 2), .int .u64 (word x.set.testBit 3), .slice B x.kids.len cap, .int .i64 x.lo, .int .i64 x.hi] 28)).alloc (.cells #[.bool false, .int .i64 0, .int .i64 0, .int .u64 0, .int .u64 0, .int .u64 0, .int .u64 0, .int .u64 0, .int .u64 0, .int .u64 0, .int .u64 0] 121)) = w2 at *
 have hk1 := HK1.out
 have HOz := Lib.hid (ok_sum (x := z) (fun y hy => HO.out y (kid_nodes hz y hy)))
 obtain ⟨b, o, C, capc, rfl, _, _, ⟨c0, c1, c2, c3, c4, c5, c6, c7⟩, hkz⟩ := HT.out.get hz
 simp only [Nat.zero_mul, Nat.add_zero] at c0 c1 c2 c3 c4 c5 c6 c7
 have hblk := World.block_lt_of_cell? w2 _ c0
 have HC := Lib.hid (HG.out 0 z C capc w2 hz hkz)
 have HC2 := Lib.hid (fun W => frepeated_go z.sum 0 1 W HOz.out (by decide) (by decide))
 rw [← HV.out] at HC2
 clear hz hkz
 obtain ⟨n0, n1, n2, n3, n4, n5, n6, n7⟩ := ((HN.out)).c8r
 have hln := (HN.out).lt
 obtain ⟨r, hr⟩ : ∃ r, r = x.sum := ⟨_, rfl⟩
 have HRr := Lib.hid hr
 rw [← hr] at HC2
 clear hr
 generalize z.sum = s at *
 unfold ndV sumV sumA at HC
 unfold sumV sumA at HC2
 try unfold endF at HC2
 go_wp2_with fail
 refine HC.out.mono ?_
 rintro e w3 ⟨rfl, hb3⟩
 clear HC c0 c1 c2 c3 c4 c5 c6 c7 hblk
 clear n0 n1 n2 n3 n4 n5 n6 n7
 dsimp only
 go_wp2_with fail
 refine (HC2.out w3).mono ?_
 rintro e w4 ⟨rfl, hb4⟩
 have HR3 := Lib.hid ((HR.out.below hb3 HR.out.lt).below hb4 (Nat.lt_of_lt_of_le HR.out.lt hb3.size))
 have HB3 := Lib.hid ((HB.out.trans (hb3.mono HB.out.size)).trans (hb4.mono (by have := HB.out.size; have := hb3.size; omega)))
 clear hb3 hb4 HC2
 dsimp only
 obtain ⟨r0, r1, r2, r3, r4, r5, r6, r7, r8, r9, r10⟩ := ((HR3.out)).c11r
 obtain ⟨q0, q1, q2, q3, q4, q5, q6, q7, q8, q9, q10⟩ := ((HR3.out)).f11r
 have hlr := (HR3.out).lt
 go_wp2
 refine bodyPost_ret (ret_sum Tryz.results151 rfl (Blk.store11 HR3.out)) rfl ⟨by rw [← HRr.out]; rfl, below_set11 HB3.out (by omega)⟩
theorem of_rep1 (x : Nd) (P : Nat → Prop) (B : Option Addr) (cap : Nat) (w : World) (hl : x.kids.len ≤ 140737488355328) (ho : ∀ y ∈ x.nodes, aloneN y = true) (ht : TreesAt w P x.kids B) (hG : KidOf x P) (hk : x.kind = 9) (z : Nd) (hz : x.kids.list[0]? = some z) (hk1 : x.kids.len = 1) (hh : x.hi < 0) (hPb : ∀ b, P b → b < w.heap.size) : Calls Tryz.prog 151 #[ndV x B cap] w fun e w' => e = .returned (sumV x.sum) ∧ Below w.heap.size w w' := by
 have HK1 := Lib.hid hk1
 clear hk1
 have HV := Lib.hid (show x.sum = repeatedF z.sum x.lo endF by rw [sum_rep hk hz]; unfold hiF; rw [if_pos hh])
 have hnum := nine_of (ho x (self_nodes x)) hk
 have hb : Below w.heap.size w ((w.alloc (.cells #[.int .i64 x.kind, .int .u64 (word x.set.testBit 0), .int .u64 (word x.set.testBit 1), .int .u64 (word x.set.testBit 2), .int .u64 (word x.set.testBit 3), .slice B x.kids.len cap, .int .i64 x.lo, .int .i64 x.hi] 28)).alloc (.cells #[.bool false, .int .i64 0, .int .i64 0, .int .u64 0, .int .u64 0, .int .u64 0, .int .u64 0, .int .u64 0, .int .u64 0, .int .u64 0, .int .u64 0] 121)) := ((Below.refl _ _).alloc (Nat.le_refl _) _).alloc (by simp) _
 have HB := Lib.hid hb
 have HN := Lib.hid ((Blk.new w 28 #[.int .i64 x.kind, .int .u64 (word x.set.testBit 0), .int .u64 (word x.set.testBit 1), .int .u64 (word x.set.testBit 2), .int .u64 (word x.set.testBit 3), .slice B x.kids.len cap, .int .i64 x.lo, .int .i64 x.hi]).alloc (.cells #[.bool false, .int .i64 0, .int .i64 0, .int .u64 0, .int .u64 0, .int .u64 0, .int .u64 0, .int .u64 0, .int .u64 0, .int .u64 0, .int .u64 0] 121))
 have HR := Lib.hid (show Blk ((w.alloc (.cells #[.int .i64 x.kind, .int .u64 (word x.set.testBit 0), .int .u64 (word x.set.testBit 1), .int .u64 (word x.set.testBit 2), .int .u64 (word x.set.testBit 3), .slice B x.kids.len cap, .int .i64 x.lo, .int .i64 x.hi] 28)).alloc (.cells #[.bool false, .int .i64 0, .int .i64 0, .int .u64 0, .int .u64 0, .int .u64 0, .int .u64 0, .int .u64 0, .int .u64 0, .int .u64 0, .int .u64 0] 121)) (w.heap.size + 1) 121 #[.bool false, .int .i64 0, .int .i64 0, .int .u64 0, .int .u64 0, .int .u64 0, .int .u64 0, .int .u64 0, .int .u64 0, .int .u64 0, .int .u64 0] from Blk.new_at (by simp))
 have HT := Lib.hid (ht.below hb)
 have HG := Lib.hid hG
 have HO := Lib.hid ho
 clear hb ht hG ho
 unfold ndV
 rw [hk] at HN HR HT HB ⊢
 go_enter Tryz.func151, Tryz.ntmps151
 go_upto_region 1 with fail
 generalize ((w.alloc (.cells #[.int .i64 9, .int .u64 (word x.set.testBit 0), .int .u64 (word x.set.testBit 1), .int .u64 (word x.set.testBit 2), .int .u64 (word x.set.testBit 3), .slice B x.kids.len cap, .int .i64 x.lo, .int .i64 x.hi] 28)).alloc (.cells #[.bool false, .int .i64 0, .int .i64 0, .int .u64 0, .int .u64 0, .int .u64 0, .int .u64 0, .int .u64 0, .int .u64 0, .int .u64 0, .int .u64 0] 121)) = w2 at *
 have hk1 := HK1.out
 have HOz := Lib.hid (ok_sum (x := z) (fun y hy => HO.out y (kid_nodes hz y hy)))
 obtain ⟨b, o, C, capc, rfl, hbP, _, ⟨c0, c1, c2, c3, c4, c5, c6, c7⟩, hkz⟩ := HT.out.get hz
 simp only [Nat.zero_mul, Nat.add_zero] at c0 c1 c2 c3 c4 c5 c6 c7
 have hblk := World.block_lt_of_cell? w2 _ c0
 have HNb := Lib.hid (show b ≠ w.heap.size + 1 by have := hPb b hbP; omega)
 have HC := Lib.hid (fun (W : World) (hq : TreesAt W P z.kids C) => HG.out 0 z C capc W hz hq)
 have HC2 := Lib.hid (fun W => frepeated_go z.sum x.lo endF W HOz.out (by unfold endF; omega) (by unfold endF; omega))
 rw [← HV.out] at HC2
 clear hz hnum hPb hbP
 obtain ⟨n0, n1, n2, n3, n4, n5, n6, n7⟩ := ((HN.out)).c8r
 have hln := (HN.out).lt
 have hd : x.hi < 0 := hh
 clear hh
 obtain ⟨r, hr⟩ : ∃ r, r = x.sum := ⟨_, rfl⟩
 have HRr := Lib.hid hr
 rw [← hr] at HC2
 clear hr
 generalize z.sum = s at *
 unfold ndV sumV sumA at HC
 unfold sumV sumA endF at HC2
 go_upto_region 22 with fail
 have hlb : b < w2.heap.size := hblk
 have hKl := two_of (Q := fun b => b < w2.heap.size) hln hlb
 refine wp_region_held_drew (S := fun w' => ∀ b' o', b' = w.heap.size ∨ b' = b → w'.cell? ⟨b', o', none⟩ = w2.cell? ⟨b', o', none⟩) (by kernel_rfl) (KeepP.start (fun b' => b' = w.heap.size ∨ b' = b) w2) (fun hHeld => ?_)
 refine wpAnyH_take (i := 0) (oi := _) (v := ?_) rfl (by kernel_rfl) (by kernel_rfl) (by kernel_rfl) (fun _ _ _ h => h) (Or.inl ⟨by kernel_rfl, ?_⟩) (by assumption) ?_
 rotate_left
 ·intro w hSw
  try dsimp only at hSw
  go_simp
  try (with_reducible rfl)
 try simp only [Act.put, List.getElem_toArray, List.getElem_cons_zero, List.getElem_cons_succ, List.setIfInBounds_toArray, List.set_cons_zero, List.set_cons_succ]
 refine wpAnyH_take (i := 1) (oi := _) (v := ?_) rfl (by kernel_rfl) (by kernel_rfl) (by kernel_rfl) (fun _ _ _ h => h) (Or.inl ⟨by kernel_rfl, ?_⟩) (by assumption) ?_
 rotate_left
 ·intro w hSw
  try dsimp only at hSw
  go_simp
  try (with_reducible rfl)
 try simp only [Act.put, List.getElem_toArray, List.getElem_cons_zero, List.getElem_cons_succ, List.setIfInBounds_toArray, List.set_cons_zero, List.set_cons_succ]
 refine wpAnyH_take (i := 2) (oi := _) (v := ?_) rfl (by kernel_rfl) (by kernel_rfl) (by kernel_rfl) (fun _ _ _ h => h) (Or.inl ⟨by kernel_rfl, ?_⟩) (by assumption) ?_
 rotate_left
 ·intro w hSw
  try dsimp only at hSw
  go_simp
  try (with_reducible rfl)
 try simp only [Act.put, List.getElem_toArray, List.getElem_cons_zero, List.getElem_cons_succ, List.setIfInBounds_toArray, List.set_cons_zero, List.set_cons_succ]
 refine wpAnyH_take (i := 3) (oi := _) (v := ?_) rfl (by kernel_rfl) (by kernel_rfl) (by kernel_rfl) (fun _ _ _ h => h) (Or.inl ⟨by kernel_rfl, ?_⟩) (by assumption) ?_
 rotate_left
 ·intro w hSw
  try dsimp only at hSw
  go_simp
  try (with_reducible rfl)
 try simp only [Act.put, List.getElem_toArray, List.getElem_cons_zero, List.getElem_cons_succ, List.setIfInBounds_toArray, List.set_cons_zero, List.set_cons_succ]
 refine wpAnyH_take (i := 5) (oi := _) (v := ?_) rfl (by kernel_rfl) (by kernel_rfl) (by kernel_rfl) (fun _ _ _ h => h) (Or.inl ⟨by kernel_rfl, ?_⟩) (by assumption) ?_
 rotate_left
 ·intro w hSw
  try dsimp only at hSw
  go_simp
  try (with_reducible rfl)
 try simp only [Act.put, List.getElem_toArray, List.getElem_cons_zero, List.getElem_cons_succ, List.setIfInBounds_toArray, List.set_cons_zero, List.set_cons_succ]
 refine wpAnyH_take (i := 6) (oi := _) (v := ?_) rfl (by kernel_rfl) (by kernel_rfl) (by kernel_rfl) (fun _ _ _ h => h) (Or.inl ⟨by kernel_rfl, ?_⟩) (by assumption) ?_
 rotate_left
 ·intro w hSw
  try dsimp only at hSw
  go_simp
  try (with_reducible rfl)
 try simp only [Act.put, List.getElem_toArray, List.getElem_cons_zero, List.getElem_cons_succ, List.setIfInBounds_toArray, List.set_cons_zero, List.set_cons_succ]
 refine wpAnyH_take (i := 7) (oi := _) (v := ?_) rfl (by kernel_rfl) (by kernel_rfl) (by kernel_rfl) (fun _ _ _ h => h) (Or.inl ⟨by kernel_rfl, ?_⟩) (by assumption) ?_
 rotate_left
 ·intro w hSw
  try dsimp only at hSw
  go_simp
  try (with_reducible rfl)
 try simp only [Act.put, List.getElem_toArray, List.getElem_cons_zero, List.getElem_cons_succ, List.setIfInBounds_toArray, List.set_cons_zero, List.set_cons_succ]
 refine wpAnyH_ready (rs := [4]) (by kernel_rfl) (by simp) ?_
 refine AllReadyH.cons (o := _) rfl (fun K hK => ?_) AllReadyH.nil
 go_simp
 go_at_call 151
 refine (HC.out w2.drew (hkz.below (Below.refl _ _).drew)).mono ?_
 rintro e w3 ⟨rfl, hb3'⟩
 have hb3 : Below w2.heap.size w2 w3 := (Below.refl _ _).drew.trans hb3'
 have hk3 := KeepP.below (KeepP.start (fun b' => b' = w.heap.size ∨ b' = b) w2) hb3' hKl
 refine hK.out _ _ hk3 (fun _ => ?_)
 clear hK K hHeld hb3'
 try simp only [Act.put, List.getElem_toArray, List.getElem_cons_zero, List.getElem_cons_succ, List.setIfInBounds_toArray, List.set_cons_zero, List.set_cons_succ]
 refine wpAnyH_ready (rs := [8]) (by kernel_rfl) (by simp) ?_
 refine AllReadyH.cons (o := _) rfl (fun K hK => ?_) AllReadyH.nil
 go_simp
 refine (HC2.out w3).mono ?_
 rintro e w4 ⟨rfl, hb4⟩
 have hk4 := KeepP.below hk3 hb4 (fun b' h => Nat.lt_of_lt_of_le (hKl b' h) hb3.size)
 refine hK.out _ _ hk4 (fun _ => ?_)
 clear hK K hk3
 try simp only [Act.put, List.getElem_toArray, List.getElem_cons_zero, List.getElem_cons_succ, List.setIfInBounds_toArray, List.set_cons_zero, List.set_cons_succ]
 have HR3 := Lib.hid ((HR.out.below hb3 HR.out.lt).below hb4 (Nat.lt_of_lt_of_le HR.out.lt hb3.size))
 have HB3 := Lib.hid ((HB.out.trans (hb3.mono HB.out.size)).trans (hb4.mono (by have := HB.out.size; have := hb3.size; omega)))
 have hlb1 : b ≠ w.heap.size + 1 := HNb.out
 clear hb3 hb4 HC HC2 c0 c1 c2 c3 c4 c5 c6 c7 hblk
 clear n0 n1 n2 n3 n4 n5 n6 n7
 obtain ⟨r0, r1, r2, r3, r4, r5, r6, r7, r8, r9, r10⟩ := ((HR3.out)).c11r
 obtain ⟨q0, q1, q2, q3, q4, q5, q6, q7, q8, q9, q10⟩ := ((HR3.out)).f11r
 have hlr := (HR3.out).lt
 refine wpAnyH_ready (rs := [9]) (by kernel_rfl) (by simp) ?_
 refine AllReadyH.cons (o := _) rfl (fun K hK => ?_) AllReadyH.nil
 go_simp
 refine hK.out _ _ (KeepP.set11 hk4 (two_of (Q := fun b => b ≠ w.heap.size + 1) (by omega) hlb1)) (fun _ => ?_)
 clear hK K
 try simp only [Act.put, List.getElem_toArray, List.getElem_cons_zero, List.getElem_cons_succ, List.setIfInBounds_toArray, List.set_cons_zero, List.set_cons_succ]
 refine wpAnyH_done (by kernel_rfl) ?_ _
 go_wp2
 refine bodyPost_ret (ret_sum Tryz.results151 rfl (Blk.store11 HR3.out)) rfl ⟨by rw [← HRr.out]; rfl, below_set11 HB3.out (by omega)⟩
theorem of_rep2 (x : Nd) (P : Nat → Prop) (B : Option Addr) (cap : Nat) (w : World) (hl : x.kids.len ≤ 140737488355328) (ho : ∀ y ∈ x.nodes, aloneN y = true) (ht : TreesAt w P x.kids B) (hG : KidOf x P) (hk : x.kind = 9) (z : Nd) (hz : x.kids.list[0]? = some z) (hk1 : x.kids.len = 1) (hh : 0 ≤ x.hi) (hPb : ∀ b, P b → b < w.heap.size) : Calls Tryz.prog 151 #[ndV x B cap] w fun e w' => e = .returned (sumV x.sum) ∧ Below w.heap.size w w' := by
 have HK1 := Lib.hid hk1
 clear hk1
 have HV := Lib.hid (show x.sum = repeatedF z.sum x.lo x.hi by rw [sum_rep hk hz]; unfold hiF; rw [if_neg (by omega)])
 have hnum := nine_of (ho x (self_nodes x)) hk
 have hb : Below w.heap.size w ((w.alloc (.cells #[.int .i64 x.kind, .int .u64 (word x.set.testBit 0), .int .u64 (word x.set.testBit 1), .int .u64 (word x.set.testBit 2), .int .u64 (word x.set.testBit 3), .slice B x.kids.len cap, .int .i64 x.lo, .int .i64 x.hi] 28)).alloc (.cells #[.bool false, .int .i64 0, .int .i64 0, .int .u64 0, .int .u64 0, .int .u64 0, .int .u64 0, .int .u64 0, .int .u64 0, .int .u64 0, .int .u64 0] 121)) := ((Below.refl _ _).alloc (Nat.le_refl _) _).alloc (by simp) _
 have HB := Lib.hid hb
 have HN := Lib.hid ((Blk.new w 28 #[.int .i64 x.kind, .int .u64 (word x.set.testBit 0), .int .u64 (word x.set.testBit 1), .int .u64 (word x.set.testBit 2), .int .u64 (word x.set.testBit 3), .slice B x.kids.len cap, .int .i64 x.lo, .int .i64 x.hi]).alloc (.cells #[.bool false, .int .i64 0, .int .i64 0, .int .u64 0, .int .u64 0, .int .u64 0, .int .u64 0, .int .u64 0, .int .u64 0, .int .u64 0, .int .u64 0] 121))
 have HR := Lib.hid (show Blk ((w.alloc (.cells #[.int .i64 x.kind, .int .u64 (word x.set.testBit 0), .int .u64 (word x.set.testBit 1), .int .u64 (word x.set.testBit 2), .int .u64 (word x.set.testBit 3), .slice B x.kids.len cap, .int .i64 x.lo, .int .i64 x.hi] 28)).alloc (.cells #[.bool false, .int .i64 0, .int .i64 0, .int .u64 0, .int .u64 0, .int .u64 0, .int .u64 0, .int .u64 0, .int .u64 0, .int .u64 0, .int .u64 0] 121)) (w.heap.size + 1) 121 #[.bool false, .int .i64 0, .int .i64 0, .int .u64 0, .int .u64 0, .int .u64 0, .int .u64 0, .int .u64 0, .int .u64 0, .int .u64 0, .int .u64 0] from Blk.new_at (by simp))
 have HT := Lib.hid (ht.below hb)
 have HG := Lib.hid hG
 have HO := Lib.hid ho
 clear hb ht hG ho
 unfold ndV
 rw [hk] at HN HR HT HB ⊢
 go_enter Tryz.func151, Tryz.ntmps151
 go_upto_region 1 with fail
 generalize ((w.alloc (.cells #[.int .i64 9, .int .u64 (word x.set.testBit 0), .int .u64 (word x.set.testBit 1), .int .u64 (word x.set.testBit 2), .int .u64 (word x.set.testBit 3), .slice B x.kids.len cap, .int .i64 x.lo, .int .i64 x.hi] 28)).alloc (.cells #[.bool false, .int .i64 0, .int .i64 0, .int .u64 0, .int .u64 0, .int .u64 0, .int .u64 0, .int .u64 0, .int .u64 0, .int .u64 0, .int .u64 0] 121)) = w2 at *
 have hk1 := HK1.out
 have HOz := Lib.hid (ok_sum (x := z) (fun y hy => HO.out y (kid_nodes hz y hy)))
 obtain ⟨b, o, C, capc, rfl, hbP, _, ⟨c0, c1, c2, c3, c4, c5, c6, c7⟩, hkz⟩ := HT.out.get hz
 simp only [Nat.zero_mul, Nat.add_zero] at c0 c1 c2 c3 c4 c5 c6 c7
 have hblk := World.block_lt_of_cell? w2 _ c0
 have HNb := Lib.hid (show b ≠ w.heap.size + 1 by have := hPb b hbP; omega)
 have HC := Lib.hid (fun (W : World) (hq : TreesAt W P z.kids C) => HG.out 0 z C capc W hz hq)
 have HC2 := Lib.hid (fun W => frepeated_go z.sum x.lo x.hi W HOz.out (by unfold endF; omega) (by unfold endF; omega))
 rw [← HV.out] at HC2
 clear hz hnum hPb hbP
 obtain ⟨n0, n1, n2, n3, n4, n5, n6, n7⟩ := ((HN.out)).c8r
 have hln := (HN.out).lt
 have hd : ¬ x.hi < 0 := by omega
 clear hh
 obtain ⟨r, hr⟩ : ∃ r, r = x.sum := ⟨_, rfl⟩
 have HRr := Lib.hid hr
 rw [← hr] at HC2
 clear hr
 generalize z.sum = s at *
 unfold ndV sumV sumA at HC
 unfold sumV sumA at HC2
 go_upto_region 22 with fail
 have hlb : b < w2.heap.size := hblk
 have hKl := two_of (Q := fun b => b < w2.heap.size) hln hlb
 refine wp_region_held_drew (S := fun w' => ∀ b' o', b' = w.heap.size ∨ b' = b → w'.cell? ⟨b', o', none⟩ = w2.cell? ⟨b', o', none⟩) (by kernel_rfl) (KeepP.start (fun b' => b' = w.heap.size ∨ b' = b) w2) (fun hHeld => ?_)
 refine wpAnyH_take (i := 0) (oi := _) (v := ?_) rfl (by kernel_rfl) (by kernel_rfl) (by kernel_rfl) (fun _ _ _ h => h) (Or.inl ⟨by kernel_rfl, ?_⟩) (by assumption) ?_
 rotate_left
 ·intro w hSw
  try dsimp only at hSw
  go_simp
  try (with_reducible rfl)
 try simp only [Act.put, List.getElem_toArray, List.getElem_cons_zero, List.getElem_cons_succ, List.setIfInBounds_toArray, List.set_cons_zero, List.set_cons_succ]
 refine wpAnyH_take (i := 1) (oi := _) (v := ?_) rfl (by kernel_rfl) (by kernel_rfl) (by kernel_rfl) (fun _ _ _ h => h) (Or.inl ⟨by kernel_rfl, ?_⟩) (by assumption) ?_
 rotate_left
 ·intro w hSw
  try dsimp only at hSw
  go_simp
  try (with_reducible rfl)
 try simp only [Act.put, List.getElem_toArray, List.getElem_cons_zero, List.getElem_cons_succ, List.setIfInBounds_toArray, List.set_cons_zero, List.set_cons_succ]
 refine wpAnyH_take (i := 2) (oi := _) (v := ?_) rfl (by kernel_rfl) (by kernel_rfl) (by kernel_rfl) (fun _ _ _ h => h) (Or.inl ⟨by kernel_rfl, ?_⟩) (by assumption) ?_
 rotate_left
 ·intro w hSw
  try dsimp only at hSw
  go_simp
  try (with_reducible rfl)
 try simp only [Act.put, List.getElem_toArray, List.getElem_cons_zero, List.getElem_cons_succ, List.setIfInBounds_toArray, List.set_cons_zero, List.set_cons_succ]
 refine wpAnyH_take (i := 3) (oi := _) (v := ?_) rfl (by kernel_rfl) (by kernel_rfl) (by kernel_rfl) (fun _ _ _ h => h) (Or.inl ⟨by kernel_rfl, ?_⟩) (by assumption) ?_
 rotate_left
 ·intro w hSw
  try dsimp only at hSw
  go_simp
  try (with_reducible rfl)
 try simp only [Act.put, List.getElem_toArray, List.getElem_cons_zero, List.getElem_cons_succ, List.setIfInBounds_toArray, List.set_cons_zero, List.set_cons_succ]
 refine wpAnyH_take (i := 5) (oi := _) (v := ?_) rfl (by kernel_rfl) (by kernel_rfl) (by kernel_rfl) (fun _ _ _ h => h) (Or.inl ⟨by kernel_rfl, ?_⟩) (by assumption) ?_
 rotate_left
 ·intro w hSw
  try dsimp only at hSw
  go_simp
  try (with_reducible rfl)
 try simp only [Act.put, List.getElem_toArray, List.getElem_cons_zero, List.getElem_cons_succ, List.setIfInBounds_toArray, List.set_cons_zero, List.set_cons_succ]
 refine wpAnyH_take (i := 6) (oi := _) (v := ?_) rfl (by kernel_rfl) (by kernel_rfl) (by kernel_rfl) (fun _ _ _ h => h) (Or.inl ⟨by kernel_rfl, ?_⟩) (by assumption) ?_
 rotate_left
 ·intro w hSw
  try dsimp only at hSw
  go_simp
  try (with_reducible rfl)
 try simp only [Act.put, List.getElem_toArray, List.getElem_cons_zero, List.getElem_cons_succ, List.setIfInBounds_toArray, List.set_cons_zero, List.set_cons_succ]
 refine wpAnyH_take (i := 7) (oi := _) (v := ?_) rfl (by kernel_rfl) (by kernel_rfl) (by kernel_rfl) (fun _ _ _ h => h) (Or.inl ⟨by kernel_rfl, ?_⟩) (by assumption) ?_
 rotate_left
 ·intro w hSw
  try dsimp only at hSw
  go_simp
  try (with_reducible rfl)
 try simp only [Act.put, List.getElem_toArray, List.getElem_cons_zero, List.getElem_cons_succ, List.setIfInBounds_toArray, List.set_cons_zero, List.set_cons_succ]
 refine wpAnyH_ready (rs := [4]) (by kernel_rfl) (by simp) ?_
 refine AllReadyH.cons (o := _) rfl (fun K hK => ?_) AllReadyH.nil
 go_simp
 go_at_call 151
 refine (HC.out w2.drew (hkz.below (Below.refl _ _).drew)).mono ?_
 rintro e w3 ⟨rfl, hb3'⟩
 have hb3 : Below w2.heap.size w2 w3 := (Below.refl _ _).drew.trans hb3'
 have hk3 := KeepP.below (KeepP.start (fun b' => b' = w.heap.size ∨ b' = b) w2) hb3' hKl
 refine hK.out _ _ hk3 (fun _ => ?_)
 clear hK K hHeld hb3'
 try simp only [Act.put, List.getElem_toArray, List.getElem_cons_zero, List.getElem_cons_succ, List.setIfInBounds_toArray, List.set_cons_zero, List.set_cons_succ]
 refine wpAnyH_ready (rs := [8]) (by kernel_rfl) (by simp) ?_
 refine AllReadyH.cons (o := _) rfl (fun K hK => ?_) AllReadyH.nil
 go_simp
 refine (HC2.out w3).mono ?_
 rintro e w4 ⟨rfl, hb4⟩
 have hk4 := KeepP.below hk3 hb4 (fun b' h => Nat.lt_of_lt_of_le (hKl b' h) hb3.size)
 refine hK.out _ _ hk4 (fun _ => ?_)
 clear hK K hk3
 try simp only [Act.put, List.getElem_toArray, List.getElem_cons_zero, List.getElem_cons_succ, List.setIfInBounds_toArray, List.set_cons_zero, List.set_cons_succ]
 have HR3 := Lib.hid ((HR.out.below hb3 HR.out.lt).below hb4 (Nat.lt_of_lt_of_le HR.out.lt hb3.size))
 have HB3 := Lib.hid ((HB.out.trans (hb3.mono HB.out.size)).trans (hb4.mono (by have := HB.out.size; have := hb3.size; omega)))
 have hlb1 : b ≠ w.heap.size + 1 := HNb.out
 clear hb3 hb4 HC HC2 c0 c1 c2 c3 c4 c5 c6 c7 hblk
 clear n0 n1 n2 n3 n4 n5 n6 n7
 obtain ⟨r0, r1, r2, r3, r4, r5, r6, r7, r8, r9, r10⟩ := ((HR3.out)).c11r
 obtain ⟨q0, q1, q2, q3, q4, q5, q6, q7, q8, q9, q10⟩ := ((HR3.out)).f11r
 have hlr := (HR3.out).lt
 refine wpAnyH_ready (rs := [9]) (by kernel_rfl) (by simp) ?_
 refine AllReadyH.cons (o := _) rfl (fun K hK => ?_) AllReadyH.nil
 go_simp
 refine hK.out _ _ (KeepP.set11 hk4 (two_of (Q := fun b => b ≠ w.heap.size + 1) (by omega) hlb1)) (fun _ => ?_)
 clear hK K
 try simp only [Act.put, List.getElem_toArray, List.getElem_cons_zero, List.getElem_cons_succ, List.setIfInBounds_toArray, List.set_cons_zero, List.set_cons_succ]
 refine wpAnyH_done (by kernel_rfl) ?_ _
 go_wp2
 refine bodyPost_ret (ret_sum Tryz.results151 rfl (Blk.store11 HR3.out)) rfl ⟨by rw [← HRr.out]; rfl, below_set11 HB3.out (by omega)⟩
theorem of_step {n : Nat} (ih : OfC n) : OfC (n + 1) := by
 intro x P B cap w hsz hlen ho ht0
 have ht := ht0.weak (Q := fun b => b < w.heap.size) (fun b _ h => h)
 have hlk : x.kids.len ≤ 140737488355328 := by have := Trees.len_size x.kids; unfold Nd.size at hlen; omega
 have hG : KidOf x (fun b => b < w.heap.size) := fun i z C capc w' hz ht' => by
  have := Trees.size_get x.kids i z hz
  have hks : x.kids.size + 1 = x.size := by unfold Nd.size; omega
  exact ih z _ C capc w' (by omega) (by omega) (fun y hy => ho y (kid_nodes hz y hy)) ht'
 obtain ⟨a1, a9, a0, ak1, ak9⟩ := aloneN_kids (ho x (self_nodes x))
 by_cases k1 : x.kind = 1
 ·exact of_none x _ B cap w hlk ho ht hG k1
 by_cases k2 : x.kind = 2
 ·exact of_two x _ B cap w hlk ho ht hG k2
 by_cases k3 : x.kind = 3
 ·by_cases w0 : word x.set.testBit 0 = 0
  rotate_left
  ·exact of_set1 x _ B cap w hlk ho ht hG k3 w0
  by_cases w1 : word x.set.testBit 1 = 0
  rotate_left
  ·exact of_set2 x _ B cap w hlk ho ht hG k3 w0 w1
  by_cases w2 : word x.set.testBit 2 = 0
  rotate_left
  ·exact of_set3 x _ B cap w hlk ho ht hG k3 w0 w1 w2
  by_cases w3 : word x.set.testBit 3 = 0
  rotate_left
  ·exact of_set4 x _ B cap w hlk ho ht hG k3 w0 w1 w2 w3
  exact of_set0 x _ B cap w hlk ho ht hG k3 (by unfold isNoSet; simp [w0, w1, w2, w3])
 by_cases k4 : x.kind = 4
 ·exact of_cat x _ B cap w hlk ho ht hG k4
 by_cases k5 : x.kind = 5
 ·exact of_alt x _ B cap w hlk ho ht hG k5
 obtain ⟨z, _, hz⟩ := one_kid (a1 (by omega) (by omega))
 have hk1 := a1 (by omega) (by omega)
 by_cases k6 : x.kind = 6
 ·exact of_star x _ B cap w hlk ho ht hG k6 z hz hk1
 by_cases k7 : x.kind = 7
 ·exact of_plus x _ B cap w hlk ho ht hG k7 z hz hk1
 by_cases k8 : x.kind = 8
 ·exact of_opt x _ B cap w hlk ho ht hG k8 z hz hk1
 have k9 : x.kind = 9 := by omega
 rcases Int.lt_or_le x.hi 0 with h | h
 ·exact of_rep1 x _ B cap w hlk ho ht hG k9 z hz hk1 h (fun b hb => hb)
 ·exact of_rep2 x _ B cap w hlk ho ht hG k9 z hz hk1 h (fun b hb => hb)
theorem of_go (x : Nd) (P : Nat → Prop) (B : Option Addr) (cap : Nat) (w : World) (hlen : x.size ≤ 140737488355328) (ho : ∀ y ∈ x.nodes, aloneN y = true) (ht : TreesAt w P x.kids B) :
  Calls Tryz.prog 151 #[ndV x B cap] w fun e w' => e = .returned (sumV x.sum) ∧ Below w.heap.size w w' := by
 have h : ∀ n, OfC n := by
  intro n
  induction n with
  | zero => exact fun x _ _ _ _ h => by unfold Nd.size at h; omega
  | succ n ih => exact of_step ih
 exact h x.size x P B cap w (Nat.le_refl _) hlen ho ht
theorem rightT_nodes {x : Nd} (h : rightT x = true) : ∀ y ∈ x.nodes, aloneN y = true := by
 unfold rightT at h
 rw [Bool.and_eq_true] at h
 exact List.all_eq_true.1 h.2
theorem ret_known {fn : Func} {t2 t3 : Tmp} (h : fn.results = #[.cell t2 121, .tmp t3]) {tmps : Array Value} {w : World} {g : Nat} {a0 a1 a2 a3 a4 a5 a6 a7 a8 a9 a10 c : Value}
  (hp : tmps.getD t2 undef = .pointer (some ⟨g, 0, none⟩)) (hc : tmps.getD t3 undef = c) (hb : Blk w g 121 #[a0, a1, a2, a3, a4, a5, a6, a7, a8, a9, a10]) :
  (results fn tmps).run Tryz.prog w = .ok (.tuple #[.agg #[a0, a1, a2, a3, a4, a5, a6, a7, a8, a9, a10], c]) w := by
 have h1 := run_loadVar_row (P := Tryz.prog) w g 121 121 #[a0, a1, a2, a3, a4, a5, a6, a7, a8, a9, a10] (0, 0) _ hb Tryz.underlying121 rfl (by kernel_rfl)
 simp only [results, h]
 simp only [Array.getD_eq_getD_getElem?] at hp hc
 simp [Sem.run_bind, hp, hc, asAddr, h1, Result.andThen]
def offF : SumS := ⟨false, -1, -1, noB, noB⟩
def knownF (x : Nd) : SumS := if rightT x = true then x.sum else offF
def longestF (x : Nd) : Int := if (knownF x).long = endF then -1 else (knownF x).long
theorem off_val : sumV offF = .agg #[.bool false, .int .i64 (-1), .int .i64 (-1), .int .u64 0, .int .u64 0, .int .u64 0, .int .u64 0, .int .u64 0, .int .u64 0, .int .u64 0, .int .u64 0] := by
 unfold sumV sumA offF
 rw [noB_word 0 (by decide), noB_word 1 (by decide), noB_word 2 (by decide), noB_word 3 (by decide)]
 rfl
theorem known_go (x : Nd) (B : Option Addr) (cap : Nat) (w : World) (hs : x.size ≤ 140737488355328) (ht : TreesAt w (fun b => b < w.heap.size) x.kids B) :
  Calls Tryz.prog 105 #[ndV x B cap] w fun e w' => e = .returned (.tuple #[sumV (knownF x), .bool (rightT x)]) ∧ Below w.heap.size w w' := by
 have hb : Below w.heap.size w ((w.alloc (.cells #[.int .i64 x.kind, .int .u64 (word x.set.testBit 0), .int .u64 (word x.set.testBit 1), .int .u64 (word x.set.testBit 2), .int .u64 (word x.set.testBit 3), .slice B x.kids.len cap, .int .i64 x.lo, .int .i64 x.hi] 28)).alloc (.cells #[.bool false, .int .i64 0, .int .i64 0, .int .u64 0, .int .u64 0, .int .u64 0, .int .u64 0, .int .u64 0, .int .u64 0, .int .u64 0, .int .u64 0] 121)) := ((Below.refl _ _).alloc (Nat.le_refl _) _).alloc (by simp) _
 have HB := Lib.hid hb
 have HN := Lib.hid ((Blk.new w 28 #[.int .i64 x.kind, .int .u64 (word x.set.testBit 0), .int .u64 (word x.set.testBit 1), .int .u64 (word x.set.testBit 2), .int .u64 (word x.set.testBit 3), .slice B x.kids.len cap, .int .i64 x.lo, .int .i64 x.hi]).alloc (.cells #[.bool false, .int .i64 0, .int .i64 0, .int .u64 0, .int .u64 0, .int .u64 0, .int .u64 0, .int .u64 0, .int .u64 0, .int .u64 0, .int .u64 0] 121))
 have HR := Lib.hid (show Blk ((w.alloc (.cells #[.int .i64 x.kind, .int .u64 (word x.set.testBit 0), .int .u64 (word x.set.testBit 1), .int .u64 (word x.set.testBit 2), .int .u64 (word x.set.testBit 3), .slice B x.kids.len cap, .int .i64 x.lo, .int .i64 x.hi] 28)).alloc (.cells #[.bool false, .int .i64 0, .int .i64 0, .int .u64 0, .int .u64 0, .int .u64 0, .int .u64 0, .int .u64 0, .int .u64 0, .int .u64 0, .int .u64 0] 121)) (w.heap.size + 1) 121 #[.bool false, .int .i64 0, .int .i64 0, .int .u64 0, .int .u64 0, .int .u64 0, .int .u64 0, .int .u64 0, .int .u64 0, .int .u64 0, .int .u64 0] from Blk.new_at (by simp))
 have ht2 := (ht.below hb).weak (Q := fun b => b < ((w.alloc (.cells #[.int .i64 x.kind, .int .u64 (word x.set.testBit 0), .int .u64 (word x.set.testBit 1), .int .u64 (word x.set.testBit 2), .int .u64 (word x.set.testBit 3), .slice B x.kids.len cap, .int .i64 x.lo, .int .i64 x.hi] 28)).alloc (.cells #[.bool false, .int .i64 0, .int .i64 0, .int .u64 0, .int .u64 0, .int .u64 0, .int .u64 0, .int .u64 0, .int .u64 0, .int .u64 0, .int .u64 0] 121)).heap.size) (fun b _ h => h)
 have HC := Lib.hid (tright_any x B cap _ (by omega) ht2)
 have HO := Lib.hid (fun (h : rightT x = true) (W : World) (hW : Below ((w.alloc (.cells #[.int .i64 x.kind, .int .u64 (word x.set.testBit 0), .int .u64 (word x.set.testBit 1), .int .u64 (word x.set.testBit 2), .int .u64 (word x.set.testBit 3), .slice B x.kids.len cap, .int .i64 x.lo, .int .i64 x.hi] 28)).alloc (.cells #[.bool false, .int .i64 0, .int .i64 0, .int .u64 0, .int .u64 0, .int .u64 0, .int .u64 0, .int .u64 0, .int .u64 0, .int .u64 0, .int .u64 0] 121)).heap.size ((w.alloc (.cells #[.int .i64 x.kind, .int .u64 (word x.set.testBit 0), .int .u64 (word x.set.testBit 1), .int .u64 (word x.set.testBit 2), .int .u64 (word x.set.testBit 3), .slice B x.kids.len cap, .int .i64 x.lo, .int .i64 x.hi] 28)).alloc (.cells #[.bool false, .int .i64 0, .int .i64 0, .int .u64 0, .int .u64 0, .int .u64 0, .int .u64 0, .int .u64 0, .int .u64 0, .int .u64 0, .int .u64 0] 121)) W) => of_go x _ B cap W hs (rightT_nodes h) (ht2.below hW))
 clear hb ht ht2 hs
 unfold ndV at HC HO ⊢
 go_enter Tryz.func105, Tryz.ntmps105
 go_upto_region 1 with fail
 generalize ((w.alloc (.cells #[.int .i64 x.kind, .int .u64 (word x.set.testBit 0), .int .u64 (word x.set.testBit 1), .int .u64 (word x.set.testBit 2), .int .u64 (word x.set.testBit 3), .slice B x.kids.len cap, .int .i64 x.lo, .int .i64 x.hi] 28)).alloc (.cells #[.bool false, .int .i64 0, .int .i64 0, .int .u64 0, .int .u64 0, .int .u64 0, .int .u64 0, .int .u64 0, .int .u64 0, .int .u64 0, .int .u64 0] 121)) = w2 at *
 obtain ⟨n0, n1, n2, n3, n4, n5, n6, n7⟩ := ((HN.out)).c8r
 have hln := (HN.out).lt
 go_wp2_with fail
 refine HC.out.mono ?_
 rintro e w3 ⟨rfl, hb3⟩
 have HN3 := Lib.hid (HN.out.below hb3 HN.out.lt)
 have HR3 := Lib.hid (HR.out.below hb3 HR.out.lt)
 have HB3 := Lib.hid (HB.out.trans (hb3.mono HB.out.size))
 have HW3 := Lib.hid hb3
 clear n0 n1 n2 n3 n4 n5 n6 n7
 clear hln HC HN HR HB hb3
 cases hr : rightT x with
 | false =>
  have HV := Lib.hid (show knownF x = offF by unfold knownF; rw [hr]; rfl)
  have HX := Lib.hid hr
  clear hr
  obtain ⟨r0, r1, r2, r3, r4, r5, r6, r7, r8, r9, r10⟩ := ((HR3.out)).c11r
  obtain ⟨q0, q1, q2, q3, q4, q5, q6, q7, q8, q9, q10⟩ := ((HR3.out)).f11r
  have hlr := (HR3.out).lt
  dsimp only
  go_wp2
  refine bodyPost_ret (ret_known Tryz.results105 rfl rfl (Blk.store11 HR3.out)) rfl ⟨by rw [HV.out, off_val, HX.out]; rfl, below_set11 HB3.out (by omega)⟩
 | true =>
  have HV := Lib.hid (show knownF x = x.sum by unfold knownF; rw [if_pos hr])
  have HC := Lib.hid (HO.out hr w3 HW3.out)
  have HX := Lib.hid hr
  clear hr HO
  obtain ⟨n0, n1, n2, n3, n4, n5, n6, n7⟩ := ((HN3.out)).c8r
  have hln := (HN3.out).lt
  obtain ⟨r, hr⟩ : ∃ r, r = x.sum := ⟨_, rfl⟩
  have HRr := Lib.hid hr
  rw [← hr] at HC
  clear hr
  unfold sumV sumA at HC
  dsimp only
  go_wp2_with fail
  refine HC.out.mono ?_
  rintro e w4 ⟨rfl, hb4⟩
  have HR4 := Lib.hid (HR3.out.below hb4 HR3.out.lt)
  have HB4 := Lib.hid (HB3.out.trans (hb4.mono HB3.out.size))
  clear n0 n1 n2 n3 n4 n5 n6 n7
  clear hb4 HC hln HN3 HR3 HB3
  obtain ⟨r0, r1, r2, r3, r4, r5, r6, r7, r8, r9, r10⟩ := ((HR4.out)).c11r
  obtain ⟨q0, q1, q2, q3, q4, q5, q6, q7, q8, q9, q10⟩ := ((HR4.out)).f11r
  have hlr := (HR4.out).lt
  dsimp only
  go_wp2
  refine bodyPost_ret (ret_known Tryz.results105 rfl rfl (Blk.store11 HR4.out)) rfl ⟨by rw [HV.out, ← HRr.out, HX.out]; rfl, below_set11 HB4.out (by omega)⟩
theorem fhollow_go (x : Nd) (B : Option Addr) (cap : Nat) (w : World) (hs : x.size ≤ 140737488355328) (ht : TreesAt w (fun b => b < w.heap.size) x.kids B) :
  Calls Tryz.prog 46 #[ndV x B cap] w fun e w' => e = .returned (.bool (rightT x && (knownF x).hollow)) ∧ Below w.heap.size w w' := by
 have hb : Below w.heap.size w (w.alloc (.cells #[.int .i64 x.kind, .int .u64 (word x.set.testBit 0), .int .u64 (word x.set.testBit 1), .int .u64 (word x.set.testBit 2), .int .u64 (word x.set.testBit 3), .slice B x.kids.len cap, .int .i64 x.lo, .int .i64 x.hi] 28)) := (Below.refl _ _).alloc (Nat.le_refl _) _
 have HB := Lib.hid hb
 have HC := Lib.hid (known_go x B cap (w.alloc (.cells #[.int .i64 x.kind, .int .u64 (word x.set.testBit 0), .int .u64 (word x.set.testBit 1), .int .u64 (word x.set.testBit 2), .int .u64 (word x.set.testBit 3), .slice B x.kids.len cap, .int .i64 x.lo, .int .i64 x.hi] 28)) hs ((ht.below hb).weak (Q := fun b => b < ((w.alloc (.cells #[.int .i64 x.kind, .int .u64 (word x.set.testBit 0), .int .u64 (word x.set.testBit 1), .int .u64 (word x.set.testBit 2), .int .u64 (word x.set.testBit 3), .slice B x.kids.len cap, .int .i64 x.lo, .int .i64 x.hi] 28))).heap.size) (fun b _ h => h)))
 clear hb ht hs
 unfold ndV at HC ⊢
 go_enter Tryz.func46, Tryz.ntmps46
 go_wp2_with fail
 refine HC.out.mono ?_
 rintro e w3 ⟨rfl, hb3⟩
 obtain ⟨s, hs⟩ : ∃ s, s = knownF x := ⟨_, rfl⟩
 have HS := Lib.hid hs
 rw [← hs]
 clear hs
 have hbx : Below w3.heap.size w3 (w3.alloc (.cells (sumA s) 121)) := (Below.refl _ _).alloc (Nat.le_refl _) _
 have HX := Lib.hid (Blk.new w3 121 (sumA s))
 have HB4 := Lib.hid ((HB.out.trans (hb3.mono HB.out.size)).trans (hbx.mono (by have := HB.out.size; have := hb3.size; omega)))
 clear hb3 hbx HC HB
 unfold sumV
 unfold sumA at *
 dsimp only
 go_upto_region 2 with fail
 generalize w3.alloc (.cells #[.bool s.hollow, .int .i64 s.short, .int .i64 s.long, .int .u64 (word s.first 0), .int .u64 (word s.first 1), .int .u64 (word s.first 2), .int .u64 (word s.first 3), .int .u64 (word s.last 0), .int .u64 (word s.last 1), .int .u64 (word s.last 2), .int .u64 (word s.last 3)] 121) = w4 at *
 obtain ⟨x0, x1, x2, x3, x4, x5, x6, x7, x8, x9, x10⟩ := ((HX.out)).c11r
 have hlx := (HX.out).lt
 cases hr : rightT x with
 | false =>
  have HX2 := Lib.hid hr
  clear hr
  go_wp2
  go_light
  go_ret
  exact ⟨by rw [HX2.out]; rfl, HB4.out⟩
 | true =>
  have HX2 := Lib.hid hr
  clear hr
  go_wp2
  go_light
  go_ret
  exact ⟨by rw [← HS.out, HX2.out]; rfl, HB4.out⟩
theorem fbounded_go (x : Nd) (B : Option Addr) (cap : Nat) (w : World) (hs : x.size ≤ 140737488355328) (ht : TreesAt w (fun b => b < w.heap.size) x.kids B) :
  Calls Tryz.prog 48 #[ndV x B cap] w fun e w' => e = .returned (.bool (rightT x && ((knownF x).long != endF))) ∧ Below w.heap.size w w' := by
 have hb : Below w.heap.size w (w.alloc (.cells #[.int .i64 x.kind, .int .u64 (word x.set.testBit 0), .int .u64 (word x.set.testBit 1), .int .u64 (word x.set.testBit 2), .int .u64 (word x.set.testBit 3), .slice B x.kids.len cap, .int .i64 x.lo, .int .i64 x.hi] 28)) := (Below.refl _ _).alloc (Nat.le_refl _) _
 have HB := Lib.hid hb
 have HC := Lib.hid (known_go x B cap (w.alloc (.cells #[.int .i64 x.kind, .int .u64 (word x.set.testBit 0), .int .u64 (word x.set.testBit 1), .int .u64 (word x.set.testBit 2), .int .u64 (word x.set.testBit 3), .slice B x.kids.len cap, .int .i64 x.lo, .int .i64 x.hi] 28)) hs ((ht.below hb).weak (Q := fun b => b < ((w.alloc (.cells #[.int .i64 x.kind, .int .u64 (word x.set.testBit 0), .int .u64 (word x.set.testBit 1), .int .u64 (word x.set.testBit 2), .int .u64 (word x.set.testBit 3), .slice B x.kids.len cap, .int .i64 x.lo, .int .i64 x.hi] 28))).heap.size) (fun b _ h => h)))
 clear hb ht hs
 unfold ndV at HC ⊢
 go_enter Tryz.func48, Tryz.ntmps48
 go_wp2_with fail
 refine HC.out.mono ?_
 rintro e w3 ⟨rfl, hb3⟩
 obtain ⟨s, hs⟩ : ∃ s, s = knownF x := ⟨_, rfl⟩
 have HS := Lib.hid hs
 rw [← hs]
 clear hs
 have hbx : Below w3.heap.size w3 (w3.alloc (.cells (sumA s) 121)) := (Below.refl _ _).alloc (Nat.le_refl _) _
 have HX := Lib.hid (Blk.new w3 121 (sumA s))
 have HB4 := Lib.hid ((HB.out.trans (hb3.mono HB.out.size)).trans (hbx.mono (by have := HB.out.size; have := hb3.size; omega)))
 clear hb3 hbx HC HB
 unfold sumV
 unfold sumA at *
 dsimp only
 go_upto_region 2 with fail
 generalize w3.alloc (.cells #[.bool s.hollow, .int .i64 s.short, .int .i64 s.long, .int .u64 (word s.first 0), .int .u64 (word s.first 1), .int .u64 (word s.first 2), .int .u64 (word s.first 3), .int .u64 (word s.last 0), .int .u64 (word s.last 1), .int .u64 (word s.last 2), .int .u64 (word s.last 3)] 121) = w4 at *
 obtain ⟨x0, x1, x2, x3, x4, x5, x6, x7, x8, x9, x10⟩ := ((HX.out)).c11r
 have hlx := (HX.out).lt
 cases hr : rightT x with
 | false =>
  have HX2 := Lib.hid hr
  clear hr
  go_wp2
  go_light
  go_ret
  exact ⟨by rw [HX2.out]; rfl, HB4.out⟩
 | true =>
  have HX2 := Lib.hid hr
  clear hr
  go_wp2
  go_light
  go_ret
  exact ⟨by rw [← HS.out, HX2.out]; rfl, HB4.out⟩
theorem fnullable_go (x : Nd) (B : Option Addr) (cap : Nat) (w : World) (hs : x.size ≤ 140737488355328) (ht : TreesAt w (fun b => b < w.heap.size) x.kids B) :
  Calls Tryz.prog 45 #[ndV x B cap] w fun e w' => e = .returned (.bool (rightT x && (knownF x).null)) ∧ Below w.heap.size w w' := by
 have hb : Below w.heap.size w (w.alloc (.cells #[.int .i64 x.kind, .int .u64 (word x.set.testBit 0), .int .u64 (word x.set.testBit 1), .int .u64 (word x.set.testBit 2), .int .u64 (word x.set.testBit 3), .slice B x.kids.len cap, .int .i64 x.lo, .int .i64 x.hi] 28)) := (Below.refl _ _).alloc (Nat.le_refl _) _
 have HB := Lib.hid hb
 have HC := Lib.hid (known_go x B cap (w.alloc (.cells #[.int .i64 x.kind, .int .u64 (word x.set.testBit 0), .int .u64 (word x.set.testBit 1), .int .u64 (word x.set.testBit 2), .int .u64 (word x.set.testBit 3), .slice B x.kids.len cap, .int .i64 x.lo, .int .i64 x.hi] 28)) hs ((ht.below hb).weak (Q := fun b => b < ((w.alloc (.cells #[.int .i64 x.kind, .int .u64 (word x.set.testBit 0), .int .u64 (word x.set.testBit 1), .int .u64 (word x.set.testBit 2), .int .u64 (word x.set.testBit 3), .slice B x.kids.len cap, .int .i64 x.lo, .int .i64 x.hi] 28))).heap.size) (fun b _ h => h)))
 clear hb ht hs
 unfold ndV at HC ⊢
 go_enter Tryz.func45, Tryz.ntmps45
 go_wp2_with fail
 refine HC.out.mono ?_
 rintro e w3 ⟨rfl, hb3⟩
 obtain ⟨s, hs⟩ : ∃ s, s = knownF x := ⟨_, rfl⟩
 have HS := Lib.hid hs
 rw [← hs]
 clear hs
 have hbx : Below w3.heap.size w3 (w3.alloc (.cells (sumA s) 121)) := (Below.refl _ _).alloc (Nat.le_refl _) _
 have HX := Lib.hid (Blk.new w3 121 (sumA s))
 have HB4 := Lib.hid ((HB.out.trans (hb3.mono HB.out.size)).trans (hbx.mono (by have := HB.out.size; have := hb3.size; omega)))
 clear hb3 hbx HC HB
 unfold sumV
 unfold sumA at *
 dsimp only
 go_upto_region 2 with fail
 generalize w3.alloc (.cells #[.bool s.hollow, .int .i64 s.short, .int .i64 s.long, .int .u64 (word s.first 0), .int .u64 (word s.first 1), .int .u64 (word s.first 2), .int .u64 (word s.first 3), .int .u64 (word s.last 0), .int .u64 (word s.last 1), .int .u64 (word s.last 2), .int .u64 (word s.last 3)] 121) = w4 at *
 obtain ⟨x0, x1, x2, x3, x4, x5, x6, x7, x8, x9, x10⟩ := ((HX.out)).c11r
 have hlx := (HX.out).lt
 have HNl := Lib.hid (fun W => null_go s W)
 unfold sumV sumA at HNl
 cases hr : rightT x with
 | false =>
  have HX2 := Lib.hid hr
  clear hr
  go_wp2
  go_light
  go_ret
  exact ⟨by rw [HX2.out]; rfl, HB4.out⟩
 | true =>
  have HX2 := Lib.hid hr
  clear hr
  go_wp2_with fail
  refine (HNl.out _).mono ?_
  rintro e w5 ⟨rfl, hb5⟩
  have HB5 := Lib.hid (HB4.out.trans (hb5.mono HB4.out.size))
  clear hb5
  dsimp only
  go_wp2
  go_light
  go_ret
  exact ⟨by rw [← HS.out, HX2.out]; rfl, HB5.out⟩
theorem fshortest_go (x : Nd) (B : Option Addr) (cap : Nat) (w : World) (hs : x.size ≤ 140737488355328) (ht : TreesAt w (fun b => b < w.heap.size) x.kids B) :
  Calls Tryz.prog 47 #[ndV x B cap] w fun e w' => e = .returned (.int .i64 (knownF x).short) ∧ Below w.heap.size w w' := by
 have hb : Below w.heap.size w (w.alloc (.cells #[.int .i64 x.kind, .int .u64 (word x.set.testBit 0), .int .u64 (word x.set.testBit 1), .int .u64 (word x.set.testBit 2), .int .u64 (word x.set.testBit 3), .slice B x.kids.len cap, .int .i64 x.lo, .int .i64 x.hi] 28)) := (Below.refl _ _).alloc (Nat.le_refl _) _
 have HB := Lib.hid hb
 have HC := Lib.hid (known_go x B cap (w.alloc (.cells #[.int .i64 x.kind, .int .u64 (word x.set.testBit 0), .int .u64 (word x.set.testBit 1), .int .u64 (word x.set.testBit 2), .int .u64 (word x.set.testBit 3), .slice B x.kids.len cap, .int .i64 x.lo, .int .i64 x.hi] 28)) hs ((ht.below hb).weak (Q := fun b => b < ((w.alloc (.cells #[.int .i64 x.kind, .int .u64 (word x.set.testBit 0), .int .u64 (word x.set.testBit 1), .int .u64 (word x.set.testBit 2), .int .u64 (word x.set.testBit 3), .slice B x.kids.len cap, .int .i64 x.lo, .int .i64 x.hi] 28))).heap.size) (fun b _ h => h)))
 clear hb ht hs
 unfold ndV at HC ⊢
 go_enter Tryz.func47, Tryz.ntmps47
 go_wp2_with fail
 refine HC.out.mono ?_
 rintro e w3 ⟨rfl, hb3⟩
 obtain ⟨s, hs⟩ : ∃ s, s = knownF x := ⟨_, rfl⟩
 have HS := Lib.hid hs
 rw [← hs]
 clear hs
 have hbx : Below w3.heap.size w3 (w3.alloc (.cells (sumA s) 121)) := (Below.refl _ _).alloc (Nat.le_refl _) _
 have HX := Lib.hid (Blk.new w3 121 (sumA s))
 have HB4 := Lib.hid ((HB.out.trans (hb3.mono HB.out.size)).trans (hbx.mono (by have := HB.out.size; have := hb3.size; omega)))
 clear hb3 hbx HC HB
 unfold sumV
 unfold sumA at *
 dsimp only
 go_upto_region 2 with fail
 generalize w3.alloc (.cells #[.bool s.hollow, .int .i64 s.short, .int .i64 s.long, .int .u64 (word s.first 0), .int .u64 (word s.first 1), .int .u64 (word s.first 2), .int .u64 (word s.first 3), .int .u64 (word s.last 0), .int .u64 (word s.last 1), .int .u64 (word s.last 2), .int .u64 (word s.last 3)] 121) = w4 at *
 obtain ⟨x0, x1, x2, x3, x4, x5, x6, x7, x8, x9, x10⟩ := ((HX.out)).c11r
 have hlx := (HX.out).lt
 go_wp2
 go_light
 go_ret
 exact ⟨by rw [← HS.out]; rfl, HB4.out⟩
theorem flongest_go (x : Nd) (B : Option Addr) (cap : Nat) (w : World) (hs : x.size ≤ 140737488355328) (ht : TreesAt w (fun b => b < w.heap.size) x.kids B) :
  Calls Tryz.prog 49 #[ndV x B cap] w fun e w' => e = .returned (.int .i64 (longestF x)) ∧ Below w.heap.size w w' := by
 have hb : Below w.heap.size w (w.alloc (.cells #[.int .i64 x.kind, .int .u64 (word x.set.testBit 0), .int .u64 (word x.set.testBit 1), .int .u64 (word x.set.testBit 2), .int .u64 (word x.set.testBit 3), .slice B x.kids.len cap, .int .i64 x.lo, .int .i64 x.hi] 28)) := (Below.refl _ _).alloc (Nat.le_refl _) _
 have HB := Lib.hid hb
 have HC := Lib.hid (known_go x B cap (w.alloc (.cells #[.int .i64 x.kind, .int .u64 (word x.set.testBit 0), .int .u64 (word x.set.testBit 1), .int .u64 (word x.set.testBit 2), .int .u64 (word x.set.testBit 3), .slice B x.kids.len cap, .int .i64 x.lo, .int .i64 x.hi] 28)) hs ((ht.below hb).weak (Q := fun b => b < ((w.alloc (.cells #[.int .i64 x.kind, .int .u64 (word x.set.testBit 0), .int .u64 (word x.set.testBit 1), .int .u64 (word x.set.testBit 2), .int .u64 (word x.set.testBit 3), .slice B x.kids.len cap, .int .i64 x.lo, .int .i64 x.hi] 28))).heap.size) (fun b _ h => h)))
 clear hb ht hs
 unfold ndV at HC ⊢
 go_enter Tryz.func49, Tryz.ntmps49
 go_wp2_with fail
 refine HC.out.mono ?_
 rintro e w3 ⟨rfl, hb3⟩
 obtain ⟨s, hs⟩ : ∃ s, s = knownF x := ⟨_, rfl⟩
 have HS := Lib.hid hs
 rw [← hs]
 clear hs
 have hbx : Below w3.heap.size w3 (w3.alloc (.cells (sumA s) 121)) := (Below.refl _ _).alloc (Nat.le_refl _) _
 have HX := Lib.hid (Blk.new w3 121 (sumA s))
 have HB4 := Lib.hid ((HB.out.trans (hb3.mono HB.out.size)).trans (hbx.mono (by have := HB.out.size; have := hb3.size; omega)))
 clear hb3 hbx HC HB
 unfold sumV
 unfold sumA at *
 dsimp only
 go_upto_region 2 with fail
 generalize w3.alloc (.cells #[.bool s.hollow, .int .i64 s.short, .int .i64 s.long, .int .u64 (word s.first 0), .int .u64 (word s.first 1), .int .u64 (word s.first 2), .int .u64 (word s.first 3), .int .u64 (word s.last 0), .int .u64 (word s.last 1), .int .u64 (word s.last 2), .int .u64 (word s.last 3)] 121) = w4 at *
 obtain ⟨x0, x1, x2, x3, x4, x5, x6, x7, x8, x9, x10⟩ := ((HX.out)).c11r
 have hlx := (HX.out).lt
 by_cases he : s.long = endF
 ·have HV := Lib.hid (show longestF x = -1 by unfold longestF; rw [← HS.out, if_pos he])
  have e1 : (s.long == 1099511627777) = true := by rw [he]; rfl
  clear he
  go_wp2
  go_light
  go_ret
  exact ⟨by rw [HV.out]; rfl, HB4.out⟩
 ·have HV := Lib.hid (show longestF x = s.long by unfold longestF; rw [← HS.out, if_neg he])
  have e1 : (s.long == 1099511627777) = false := by rw [beq_eq_false_iff_ne]; exact he
  clear he
  go_wp2
  go_light
  go_ret
  exact ⟨by rw [HV.out]; rfl, HB4.out⟩
theorem ffirst_go (x : Nd) (B : Option Addr) (cap : Nat) (w : World) (hs : x.size ≤ 140737488355328) (ht : TreesAt w (fun b => b < w.heap.size) x.kids B) :
  Calls Tryz.prog 51 #[ndV x B cap] w fun e w' => e = .returned (.agg #[.int .u64 ((word ((knownF x).first) 0 : Nat) : Int), .int .u64 ((word ((knownF x).first) 1 : Nat) : Int), .int .u64 ((word ((knownF x).first) 2 : Nat) : Int), .int .u64 ((word ((knownF x).first) 3 : Nat) : Int)]) ∧ Below w.heap.size w w' := by
 have hb : Below w.heap.size w ((w.alloc (.cells #[.int .i64 x.kind, .int .u64 (word x.set.testBit 0), .int .u64 (word x.set.testBit 1), .int .u64 (word x.set.testBit 2), .int .u64 (word x.set.testBit 3), .slice B x.kids.len cap, .int .i64 x.lo, .int .i64 x.hi] 28)).alloc (.cells #[.int .u64 0, .int .u64 0, .int .u64 0, .int .u64 0] 25)) := ((Below.refl _ _).alloc (Nat.le_refl _) _).alloc (by simp) _
 have HB := Lib.hid hb
 have HR := Lib.hid (show Blk ((w.alloc (.cells #[.int .i64 x.kind, .int .u64 (word x.set.testBit 0), .int .u64 (word x.set.testBit 1), .int .u64 (word x.set.testBit 2), .int .u64 (word x.set.testBit 3), .slice B x.kids.len cap, .int .i64 x.lo, .int .i64 x.hi] 28)).alloc (.cells #[.int .u64 0, .int .u64 0, .int .u64 0, .int .u64 0] 25)) (w.heap.size + 1) 25 #[.int .u64 0, .int .u64 0, .int .u64 0, .int .u64 0] from Blk.new_at (by simp))
 have HC := Lib.hid (known_go x B cap ((w.alloc (.cells #[.int .i64 x.kind, .int .u64 (word x.set.testBit 0), .int .u64 (word x.set.testBit 1), .int .u64 (word x.set.testBit 2), .int .u64 (word x.set.testBit 3), .slice B x.kids.len cap, .int .i64 x.lo, .int .i64 x.hi] 28)).alloc (.cells #[.int .u64 0, .int .u64 0, .int .u64 0, .int .u64 0] 25)) hs ((ht.below hb).weak (Q := fun b => b < (((w.alloc (.cells #[.int .i64 x.kind, .int .u64 (word x.set.testBit 0), .int .u64 (word x.set.testBit 1), .int .u64 (word x.set.testBit 2), .int .u64 (word x.set.testBit 3), .slice B x.kids.len cap, .int .i64 x.lo, .int .i64 x.hi] 28)).alloc (.cells #[.int .u64 0, .int .u64 0, .int .u64 0, .int .u64 0] 25))).heap.size) (fun b _ h => h)))
 clear hb ht hs
 unfold ndV at HC ⊢
 go_enter Tryz.func51, Tryz.ntmps51
 go_wp2_with fail
 refine HC.out.mono ?_
 rintro e w3 ⟨rfl, hb3⟩
 obtain ⟨s, hs⟩ : ∃ s, s = knownF x := ⟨_, rfl⟩
 have HS := Lib.hid hs
 rw [← hs]
 clear hs
 have hbx : Below w3.heap.size w3 (w3.alloc (.cells (sumA s) 121)) := (Below.refl _ _).alloc (Nat.le_refl _) _
 have HX := Lib.hid (Blk.new w3 121 (sumA s))
 have HB4 := Lib.hid ((HB.out.trans (hb3.mono HB.out.size)).trans (hbx.mono (by have := HB.out.size; have := hb3.size; omega)))
 have hR3 := HR.out.below hb3 HR.out.lt
 have HR4 := Lib.hid (hR3.alloc (.cells (sumA s) 121))
 clear hR3 HR
 clear hb3 hbx HC HB
 unfold sumV
 unfold sumA at *
 dsimp only
 go_upto_region 2 with fail
 generalize w3.alloc (.cells #[.bool s.hollow, .int .i64 s.short, .int .i64 s.long, .int .u64 (word s.first 0), .int .u64 (word s.first 1), .int .u64 (word s.first 2), .int .u64 (word s.first 3), .int .u64 (word s.last 0), .int .u64 (word s.last 1), .int .u64 (word s.last 2), .int .u64 (word s.last 3)] 121) = w4 at *
 obtain ⟨x0, x1, x2, x3, x4, x5, x6, x7, x8, x9, x10⟩ := ((HX.out)).c11r
 have hlx := (HX.out).lt
 obtain ⟨r0, r1, r2, r3, q0, q1, q2, q3⟩ := ((HR4.out)).c4
 have hlr := (HR4.out).lt
 go_wp2
 refine bodyPost_ret (ret_set Tryz.results51 rfl (Blk.set4 HR4.out)) rfl ⟨by rw [← HS.out], below_set4 HB4.out (Nat.le_succ _) _ _ _ _⟩
theorem flast_go (x : Nd) (B : Option Addr) (cap : Nat) (w : World) (hs : x.size ≤ 140737488355328) (ht : TreesAt w (fun b => b < w.heap.size) x.kids B) :
  Calls Tryz.prog 52 #[ndV x B cap] w fun e w' => e = .returned (.agg #[.int .u64 ((word ((knownF x).last) 0 : Nat) : Int), .int .u64 ((word ((knownF x).last) 1 : Nat) : Int), .int .u64 ((word ((knownF x).last) 2 : Nat) : Int), .int .u64 ((word ((knownF x).last) 3 : Nat) : Int)]) ∧ Below w.heap.size w w' := by
 have hb : Below w.heap.size w ((w.alloc (.cells #[.int .i64 x.kind, .int .u64 (word x.set.testBit 0), .int .u64 (word x.set.testBit 1), .int .u64 (word x.set.testBit 2), .int .u64 (word x.set.testBit 3), .slice B x.kids.len cap, .int .i64 x.lo, .int .i64 x.hi] 28)).alloc (.cells #[.int .u64 0, .int .u64 0, .int .u64 0, .int .u64 0] 25)) := ((Below.refl _ _).alloc (Nat.le_refl _) _).alloc (by simp) _
 have HB := Lib.hid hb
 have HR := Lib.hid (show Blk ((w.alloc (.cells #[.int .i64 x.kind, .int .u64 (word x.set.testBit 0), .int .u64 (word x.set.testBit 1), .int .u64 (word x.set.testBit 2), .int .u64 (word x.set.testBit 3), .slice B x.kids.len cap, .int .i64 x.lo, .int .i64 x.hi] 28)).alloc (.cells #[.int .u64 0, .int .u64 0, .int .u64 0, .int .u64 0] 25)) (w.heap.size + 1) 25 #[.int .u64 0, .int .u64 0, .int .u64 0, .int .u64 0] from Blk.new_at (by simp))
 have HC := Lib.hid (known_go x B cap ((w.alloc (.cells #[.int .i64 x.kind, .int .u64 (word x.set.testBit 0), .int .u64 (word x.set.testBit 1), .int .u64 (word x.set.testBit 2), .int .u64 (word x.set.testBit 3), .slice B x.kids.len cap, .int .i64 x.lo, .int .i64 x.hi] 28)).alloc (.cells #[.int .u64 0, .int .u64 0, .int .u64 0, .int .u64 0] 25)) hs ((ht.below hb).weak (Q := fun b => b < (((w.alloc (.cells #[.int .i64 x.kind, .int .u64 (word x.set.testBit 0), .int .u64 (word x.set.testBit 1), .int .u64 (word x.set.testBit 2), .int .u64 (word x.set.testBit 3), .slice B x.kids.len cap, .int .i64 x.lo, .int .i64 x.hi] 28)).alloc (.cells #[.int .u64 0, .int .u64 0, .int .u64 0, .int .u64 0] 25))).heap.size) (fun b _ h => h)))
 clear hb ht hs
 unfold ndV at HC ⊢
 go_enter Tryz.func52, Tryz.ntmps52
 go_wp2_with fail
 refine HC.out.mono ?_
 rintro e w3 ⟨rfl, hb3⟩
 obtain ⟨s, hs⟩ : ∃ s, s = knownF x := ⟨_, rfl⟩
 have HS := Lib.hid hs
 rw [← hs]
 clear hs
 have hbx : Below w3.heap.size w3 (w3.alloc (.cells (sumA s) 121)) := (Below.refl _ _).alloc (Nat.le_refl _) _
 have HX := Lib.hid (Blk.new w3 121 (sumA s))
 have HB4 := Lib.hid ((HB.out.trans (hb3.mono HB.out.size)).trans (hbx.mono (by have := HB.out.size; have := hb3.size; omega)))
 have hR3 := HR.out.below hb3 HR.out.lt
 have HR4 := Lib.hid (hR3.alloc (.cells (sumA s) 121))
 clear hR3 HR
 clear hb3 hbx HC HB
 unfold sumV
 unfold sumA at *
 dsimp only
 go_upto_region 2 with fail
 generalize w3.alloc (.cells #[.bool s.hollow, .int .i64 s.short, .int .i64 s.long, .int .u64 (word s.first 0), .int .u64 (word s.first 1), .int .u64 (word s.first 2), .int .u64 (word s.first 3), .int .u64 (word s.last 0), .int .u64 (word s.last 1), .int .u64 (word s.last 2), .int .u64 (word s.last 3)] 121) = w4 at *
 obtain ⟨x0, x1, x2, x3, x4, x5, x6, x7, x8, x9, x10⟩ := ((HX.out)).c11r
 have hlx := (HX.out).lt
 obtain ⟨r0, r1, r2, r3, q0, q1, q2, q3⟩ := ((HR4.out)).c4
 have hlr := (HR4.out).lt
 go_wp2
 refine bodyPost_ret (ret_set Tryz.results52 rfl (Blk.set4 HR4.out)) rfl ⟨by rw [← HS.out], below_set4 HB4.out (Nat.le_succ _) _ _ _ _⟩
theorem ret_tree {fn : Func} {t2 t3 : Tmp} (h : fn.results = #[.cell t2 28, .cell t3 77]) {tmps : Array Value} {w : World} {g g' : Nat} {a0 a1 a2 a3 a4 a5 a6 a7 x y : Value}
  (hp : tmps.getD t2 undef = .pointer (some ⟨g, 0, none⟩)) (hp' : tmps.getD t3 undef = .pointer (some ⟨g', 0, none⟩)) (hb : Blk w g 28 #[a0, a1, a2, a3, a4, a5, a6, a7]) (hb' : Blk w g' 77 #[x, y]) :
  (results fn tmps).run Tryz.prog w = .ok (.tuple #[.agg #[a0, a1, a2, a3, a4, a5, a6, a7], .agg #[x, y]]) w := by
 have h1 := run_loadVar_row (P := Tryz.prog) w g 28 28 #[a0, a1, a2, a3, a4, a5, a6, a7] (0, 0) _ hb Tryz.underlying28 rfl (by kernel_rfl)
 have h2 := run_loadVar_row (P := Tryz.prog) w g' 77 77 #[x, y] (0, 0) _ hb' Tryz.underlying77 rfl (by kernel_rfl)
 simp only [results, h]
 simp only [Array.getD_eq_getD_getElem?] at hp hp'
 simp [Sem.run_bind, hp, hp', asAddr, h1, h2, Result.andThen]
def TreeOut (r : Except Wrong Nd) (w : World) (e : Ending) (w' : World) : Prop :=
 match r with
 | .ok x => ∃ B cap, e = .returned (.tuple #[ndV x B cap, .agg #[.int .i64 0, .int .i64 0]]) ∧ Below w.heap.size w w' ∧ x.kids.len ≤ cap ∧ TreesAt w' (fun b => w.heap.size ≤ b) x.kids B
 | .error (k, q) => e = .returned (.tuple #[zeroN, .agg #[.int .i64 k, .int .i64 q]]) ∧ Below w.heap.size w w'
theorem lexemesS_bad {L : List Lex} (h : (readyS L).1 ≠ 0) : lexemesS L = .error (readyS L) := by
 unfold readyS at h ⊢
 unfold lexemesS
 by_cases h1 : L.all rightS = false
 ·rw [if_pos h1, if_pos h1]
 ·rw [if_neg h1, if_neg h1]
  by_cases h2 : 1024 < L.length
  ·rw [dif_pos h2, dif_pos h2]
  ·rw [if_neg h1, dif_neg h2] at h
   exact absurd rfl h
theorem readyS_zero {L : List Lex} (h : (readyS L).1 = 0) : readyS L = (0, 0) ∧ L.all rightS = true ∧ L.length ≤ 1024 := by
 unfold readyS at h ⊢
 by_cases h1 : L.all rightS = false
 ·rw [if_pos h1] at h; cases h
 ·by_cases h2 : 1024 < L.length
  ·rw [if_neg h1, dif_pos h2] at h; cases h
  ·rw [if_neg h1, dif_neg h2]
   exact ⟨rfl, by simpa using h1, by omega⟩
theorem lexemesS_ok {L : List Lex} (h : L.all rightS = true) (hl : L.length ≤ 1024) : lexemesS L = match altG (3 * L.length + 3) [] [] L with
  | .error e => .error e
  | .ok (x, _) => .ok x := by
 unfold lexemesS
 rw [if_neg (by rw [h]; decide), dif_neg (by omega)]
 rfl
theorem lexemes_go (A : Option Addr) (cap : Nat) (L : List Lex) (w : World) (hA : LexsAt w w.heap.size A L) (hlen : L.length ≤ 140737488355328) (hcap : L.length ≤ cap) :
  Calls Tryz.prog 123 #[.slice A L.length cap] w (TreeOut (lexemesS L) w) := by
 have hmf : ∀ (fn : Fn) (first cap : Array Value) (w : World), (Instr.makeFunc fn first cap).run Tryz.prog w = .ok (.func fn first cap) w := fun _ _ _ _ => rfl
 have hb2 : Below w.heap.size w ((w.alloc (.cells #[.int .i64 0, .int .u64 0, .int .u64 0, .int .u64 0, .int .u64 0, .slice none 0 0, .int .i64 0, .int .i64 0] 28)).alloc (.cells #[.int .i64 0, .int .i64 0] 77)) := ((Below.refl _ _).alloc (Nat.le_refl _) _).alloc (by simp) _
 have HB2 := Lib.hid hb2
 have HG2 := Lib.hid (show Blk ((w.alloc (.cells #[.int .i64 0, .int .u64 0, .int .u64 0, .int .u64 0, .int .u64 0, .slice none 0 0, .int .i64 0, .int .i64 0] 28)).alloc (.cells #[.int .i64 0, .int .i64 0] 77)) w.heap.size 28 _ from (Blk.new w 28 #[.int .i64 0, .int .u64 0, .int .u64 0, .int .u64 0, .int .u64 0, .slice none 0 0, .int .i64 0, .int .i64 0]).alloc _)
 have HH2 := Lib.hid (show Blk ((w.alloc (.cells #[.int .i64 0, .int .u64 0, .int .u64 0, .int .u64 0, .int .u64 0, .slice none 0 0, .int .i64 0, .int .i64 0] 28)).alloc (.cells #[.int .i64 0, .int .i64 0] 77)) (w.heap.size + 1) 77 #[.int .i64 0, .int .i64 0] from Blk.new_at (by simp))
 have HA := Lib.hid hA
 have hz2 : ((w.alloc (.cells #[.int .i64 0, .int .u64 0, .int .u64 0, .int .u64 0, .int .u64 0, .slice none 0 0, .int .i64 0, .int .i64 0] 28)).alloc (.cells #[.int .i64 0, .int .i64 0] 77)).heap.size = w.heap.size + 2 := by simp
 have HRd := Lib.hid (ready_go A cap L _ ((hA.below hb2).more (by omega)) hlen)
 clear hb2 hA hz2
 go_enter_defers Tryz.func123, Tryz.ntmps123
 go_wp2_with fail
 refine HRd.out.mono ?_
 rintro e w3 ⟨rfl, hb3⟩
 have HB3 := Lib.hid (HB2.out.trans (hb3.mono HB2.out.size))
 have hG3 := HG2.out.below hb3 HG2.out.lt
 have hH3 := HH2.out.below hb3 HH2.out.lt
 have HG3 := Lib.hid hG3
 have HH3 := Lib.hid hH3
 have hne1 : w.heap.size ≠ w3.heap.size := by have := hG3.lt; omega
 have hne2 : w.heap.size + 1 ≠ w3.heap.size := by have := hH3.lt; omega
 have hlt1 : w.heap.size < w3.heap.size := hG3.lt
 have hlt2 : w.heap.size + 1 < w3.heap.size := hH3.lt
 by_cases h0 : (readyS L).1 = 0
 ·obtain ⟨h1, h2, h3⟩ := readyS_zero h0
  have HV := Lib.hid (lexemesS_ok h2 h3)
  rw [h1]
  have hb5 : Below w3.heap.size w3 ((w3.alloc (.cells #[.int .i64 0, .int .i64 0] 77)).alloc (.cells #[.slice A L.length cap, .slice none 0 0] 179)) := ((Below.refl _ _).alloc (Nat.le_refl _) _).alloc (by simp) _
  have hP5 : PAt ((w3.alloc (.cells #[.int .i64 0, .int .i64 0] 77)).alloc (.cells #[.slice A L.length cap, .slice none 0 0] 179)) (w3.heap.size + 1) (.slice none 0 0) L 0 :=
   ⟨A, cap, [], Blk.new_at (by simp), hcap, (HA.out.below (HB3.out.trans (hb5.mono HB3.out.size))).more (by omega), World.ownsRow_nil _ _ _ _⟩
  have HC := Lib.hid ((reads_go (3 * L.length + 3)).1 (w3.heap.size + 1) [] L _ (.slice none 0 0) hP5 (by omega) (by decide) (by omega))
  have HB5 := Lib.hid (HB3.out.trans (hb5.mono HB3.out.size))
  have HG5 := Lib.hid (hG3.below hb5 hlt1)
  have HH5 := Lib.hid (hH3.below hb5 hlt2)
  clear hb3 hG3 hH3 HRd HB2 HG2 HH2 h0 h1 h2 hb5 hP5 HG3 HH3
  go_wp2_with fail
  refine HC.out.mono ?_
  cases hx : altG (3 * L.length + 3) [] [] L with
  | error x =>
   obtain ⟨k, q⟩ := x
   rw [hx] at HV
   rintro e w6 ⟨rfl, hb6⟩
   have HV := Lib.hid (show lexemesS L = .error (k, q) from HV.out)
   have HB6 := Lib.hid (HB5.out.trans (hb6.mono (by omega)))
   have hG6 := HG5.out.below hb6 (by omega)
   have hH6 := HH5.out.below hb6 (by omega)
   dsimp only
   refine leaves_cons (f := 159) (args := #[.pointer (some ⟨w.heap.size, 0, none⟩), .pointer (some ⟨w.heap.size + 1, 0, none⟩)]) (by simp) (by simp [go_sem]) ?_
   refine (catch_bad w.heap.size (w.heap.size + 1) k q [] w6 hG6 hH6 (by omega)).mono ?_
   rintro e u' w7 ⟨rfl, rfl, hG7, hH7, hb7⟩
   dsimp only
   change Leaves Tryz.prog _ _ _ [] FrameMode.returning w7
   rw [HV.out]
   exact ⟨_, ret_tree Tryz.results123 rfl rfl hG7 hH7, rfl, HB6.out.trans (hb7 w.heap.size (Nat.le_refl _) (by omega))⟩
  | ok x =>
   obtain ⟨x, R⟩ := x
   rw [hx] at HV
   rintro e w6 ⟨v6, B, cap6, rfl, hP6, hS6, hc6, ht6⟩
   have HV := Lib.hid (show lexemesS L = .ok x from HV.out)
   have HB6 := Lib.hid (HB5.out.trans (hS6.1.mono (by omega)))
   have hG6 := HG5.out.below hS6.1 (by omega)
   have hH6 := HH5.out.below hS6.1 (by omega)
   have HT6 := Lib.hid (ht6.weak (Q := fun b => w3.heap.size + 2 ≤ b) (fun b hb _ => by have := hb.1; simp at this; omega))
   have y0 : w6.cell? ⟨w.heap.size, 0, none⟩ = some (.int .i64 0) := hG6.cell 0
   have y1 : w6.cell? ⟨w.heap.size, 1, none⟩ = some (.int .u64 0) := hG6.cell 1
   have y2 : w6.cell? ⟨w.heap.size, 2, none⟩ = some (.int .u64 0) := hG6.cell 2
   have y3 : w6.cell? ⟨w.heap.size, 3, none⟩ = some (.int .u64 0) := hG6.cell 3
   have y4 : w6.cell? ⟨w.heap.size, 4, none⟩ = some (.int .u64 0) := hG6.cell 4
   have y5 : w6.cell? ⟨w.heap.size, 5, none⟩ = some (.slice none 0 0) := hG6.cell 5
   have y6 : w6.cell? ⟨w.heap.size, 6, none⟩ = some (.int .i64 0) := hG6.cell 6
   have y7 : w6.cell? ⟨w.heap.size, 7, none⟩ = some (.int .i64 0) := hG6.cell 7
   have z0 := hG6.frozen 0
   have z1 := hG6.frozen 1
   have z2 := hG6.frozen 2
   have z3 := hG6.frozen 3
   have z4 := hG6.frozen 4
   have z5 := hG6.frozen 5
   have z6 := hG6.frozen 6
   have z7 := hG6.frozen 7
   obtain ⟨b0, b1, f0, f1⟩ := hH6.c2
   have HG6 := Lib.hid hG6
   have HH6 := Lib.hid hH6
   have hsz : w.heap.size + 1 ≤ w3.heap.size + 2 := by omega
   clear hP6 hS6 ht6 hG6 hH6 HC hx
   unfold ndV
   dsimp only
   go_wp2
   go_light
   have hg1 := only_put8 w6 w.heap.size (.int .i64 x.kind) (.int .u64 (word x.set.testBit 0)) (.int .u64 (word x.set.testBit 1)) (.int .u64 (word x.set.testBit 2)) (.int .u64 (word x.set.testBit 3)) (.slice B x.kids.len cap6) (.int .i64 x.lo) (.int .i64 x.hi)
   have ht7 := TreesAt.keep (Q := fun b => w3.heap.size + 2 ≤ b) (fun b o (hb : w3.heap.size + 2 ≤ b) hl => World.cell?_of_block (hg1.block b hl (by simp; omega))) (fun b hb _ => hb) HT6.out
   refine leaves_cons (f := 159) (args := #[.pointer (some ⟨w.heap.size, 0, none⟩), .pointer (some ⟨w.heap.size + 1, 0, none⟩)]) (by simp) (by simp [go_sem]) ?_
   refine (catch_idle w.heap.size (w.heap.size + 1) _).mono ?_
   rintro e u' w7 ⟨rfl, rfl, hw7⟩
   dsimp only
   change Leaves Tryz.prog _ _ _ [] FrameMode.returning w7
   rw [HV.out]
   have hg2 := only_set (only_set (only_refl ((((((((w6.setCell ⟨w.heap.size, 0, none⟩ (.int .i64 x.kind)).setCell ⟨w.heap.size, 1, none⟩ (.int .u64 (word x.set.testBit 0))).setCell ⟨w.heap.size, 2, none⟩ (.int .u64 (word x.set.testBit 1))).setCell ⟨w.heap.size, 3, none⟩ (.int .u64 (word x.set.testBit 2))).setCell ⟨w.heap.size, 4, none⟩ (.int .u64 (word x.set.testBit 3))).setCell ⟨w.heap.size, 5, none⟩ (.slice B x.kids.len cap6)).setCell ⟨w.heap.size, 6, none⟩ (.int .i64 x.lo)).setCell ⟨w.heap.size, 7, none⟩ (.int .i64 x.hi)) (some (w.heap.size + 1))) 0 (.int .i64 0)) 1 (.int .i64 0)
   have ht8 := TreesAt.keep (Q := fun b => w.heap.size ≤ b) (fun b o (hb : w3.heap.size + 2 ≤ b) hl => World.cell?_of_block (hg2.block b hl (by simp; omega))) (fun b (hb : w3.heap.size + 2 ≤ b) _ => by omega) ht7
   have hG7 := (HG6.out.put8 (.int .i64 x.kind) (.int .u64 (word x.set.testBit 0)) (.int .u64 (word x.set.testBit 1)) (.int .u64 (word x.set.testBit 2)) (.int .u64 (word x.set.testBit 3)) (.slice B x.kids.len cap6) (.int .i64 x.lo) (.int .i64 x.hi)).far2 (g' := w.heap.size + 1) (by omega) (.int .i64 0) (.int .i64 0)
   have hH7 := (HH6.out.past8 (g' := w.heap.size) (by omega) (.int .i64 x.kind) (.int .u64 (word x.set.testBit 0)) (.int .u64 (word x.set.testBit 1)) (.int .u64 (word x.set.testBit 2)) (.int .u64 (word x.set.testBit 3)) (.slice B x.kids.len cap6) (.int .i64 x.lo) (.int .i64 x.hi)).set2 (a' := .int .i64 0) (b' := .int .i64 0)
   have hb7 := below_set2 (below_put8 HB6.out (Nat.le_refl _) (.int .i64 x.kind) (.int .u64 (word x.set.testBit 0)) (.int .u64 (word x.set.testBit 1)) (.int .u64 (word x.set.testBit 2)) (.int .u64 (word x.set.testBit 3)) (.slice B x.kids.len cap6) (.int .i64 x.lo) (.int .i64 x.hi)) (Nat.le_succ w.heap.size) (.int .i64 0) (.int .i64 0)
   rw [← hw7] at ht8 hG7 hH7 hb7
   exact ⟨_, ret_tree Tryz.results123 rfl rfl hG7 hH7, B, cap6, rfl, hb7, hc6, ht8⟩
 ·have hd : ((readyS L).1 != 0) = true := by simpa using h0
  have HV := Lib.hid (lexemesS_bad h0)
  have y0 : w3.cell? ⟨w.heap.size, 0, none⟩ = some (.int .i64 0) := hG3.cell 0
  have y1 : w3.cell? ⟨w.heap.size, 1, none⟩ = some (.int .u64 0) := hG3.cell 1
  have y2 : w3.cell? ⟨w.heap.size, 2, none⟩ = some (.int .u64 0) := hG3.cell 2
  have y3 : w3.cell? ⟨w.heap.size, 3, none⟩ = some (.int .u64 0) := hG3.cell 3
  have y4 : w3.cell? ⟨w.heap.size, 4, none⟩ = some (.int .u64 0) := hG3.cell 4
  have y5 : w3.cell? ⟨w.heap.size, 5, none⟩ = some (.slice none 0 0) := hG3.cell 5
  have y6 : w3.cell? ⟨w.heap.size, 6, none⟩ = some (.int .i64 0) := hG3.cell 6
  have y7 : w3.cell? ⟨w.heap.size, 7, none⟩ = some (.int .i64 0) := hG3.cell 7
  have z0 := hG3.frozen 0
  have z1 := hG3.frozen 1
  have z2 := hG3.frozen 2
  have z3 := hG3.frozen 3
  have z4 := hG3.frozen 4
  have z5 := hG3.frozen 5
  have z6 := hG3.frozen 6
  have z7 := hG3.frozen 7
  obtain ⟨b0, b1, f0, f1⟩ := hH3.c2
  clear hb3 hG3 hH3 HRd HB2 HG2 HH2 h0
  generalize readyS L = kq at *
  obtain ⟨k, q⟩ := kq
  dsimp only at hd ⊢
  go_wp2
  go_region
  all_goals go_wp2
  all_goals go_light
  rw [HV.out]
  exact ⟨_, ret_tree Tryz.results123 rfl rfl (((HG3.out.put8 _ _ _ _ _ _ _ _).far2 (by omega) _ _).alloc _).drew (((HH3.out.past8 (by omega) _ _ _ _ _ _ _ _).set2).alloc _).drew, rfl, ((below_set2 (below_put8 HB3.out (Nat.le_refl _) _ _ _ _ _ _ _ _) (by omega) _ _).alloc (by have := HB3.out.size; simpa [World.setCell] using this) _).drew⟩
section
variable {w wr w2 w' : World} {acc : List Nd} {u : Value}
end
def ints (l : List Int) : List Value := l.map (Value.int .i64)
end Go.Proofs.YtofbfafnpdaejaaGreatDoor
