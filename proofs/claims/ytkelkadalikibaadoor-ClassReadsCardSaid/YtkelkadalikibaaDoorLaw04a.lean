/-
  The walk of ClassReads: class.Read and the reference's Read say the same at every place of all bytes.
-/
import Derived.Test.YtkelkadalikibaaDoorKnows
import Derived.Test.YtkelkadalikibaaDoorRefRead
namespace Go.Proofs.YtkelkadalikibaaDoor
open Go.RowKit Go.Shelf
set_option linter.unusedSimpArgs false
set_option linter.unusedVariables false
set_option maxRecDepth 100000

/-- Three results of a reader, one a set. -/
def ReadForm (v : Value) : Prop := ∃ a b c d j k q : Int, v = .tuple #[.agg #[.int .u64 a, .int .u64 b, .int .u64 c, .int .u64 d], .int .i64 j, .agg #[.int .i64 k, .int .i64 q]]
theorem classVal_form (x : Except Wrong ((Nat → Bool) × Nat)) : ReadForm (classVal x) := by
  rcases x with ⟨k, q⟩ | ⟨p, j⟩
  · exact ⟨_, _, _, _, _, _, _, rfl⟩
  · exact ⟨_, _, _, _, _, _, _, rfl⟩

set_option maxHeartbeats 2000000 in
theorem reads_go (A : Option Addr) (cap : Nat) (bs : List Nat) (i : Int) (w : World) (hA : BytesAt w w.heap.size A bs) (hT : TabAt 0 Lib.deBruijn64tab w) (hw0 : 0 < w.heap.size) :
    Calls Tryd.prog 3 #[.slice A bs.length cap, .int .i64 i] w fun e W' => e = .returned (.bool true) ∧ Below w.heap.size w W' := by
  have HT := Lib.hid hT
  have HA := Lib.hid hA
  have hr1 := fun w' hA' => read_go A cap bs i w' hA'
  have hr2 := fun w' hA' => rread_go A cap bs i w' hA'
  have hf := classVal_form (readS bs i)
  clear hT hA
  generalize classVal (readS bs i) = v at *
  obtain ⟨a, b, c, d, j, k, q, rfl⟩ := hf
  have H1 := Lib.hid hr1
  have H2 := Lib.hid hr2
  clear hr1 hr2
  go_enter Tryd.func3, Tryd.ntmps3
  go_wp2_with fail
  refine (H1.out _ HA.out).mono ?_
  rintro e w1 ⟨rfl, hb1⟩
  have HB1 := Lib.hid hb1
  clear hb1
  go_wp2_with fail
  have hz1 := HB1.out.size
  have HX1 := Lib.hid ((HB1.out.alloc hz1 (.cells #[.int .u64 a, .int .u64 b, .int .u64 c, .int .u64 d] 25)).alloc (by simp; omega) (.cells #[.int .i64 k, .int .i64 q] 28))
  have hs1 : Blk ((w1.alloc (.cells #[.int .u64 a, .int .u64 b, .int .u64 c, .int .u64 d] 25)).alloc (.cells #[.int .i64 k, .int .i64 q] 28)) w1.heap.size 25 #[.int .u64 a, .int .u64 b, .int .u64 c, .int .u64 d] := (Blk.new _ _ _).alloc _
  have hk1 : Blk ((w1.alloc (.cells #[.int .u64 a, .int .u64 b, .int .u64 c, .int .u64 d] 25)).alloc (.cells #[.int .i64 k, .int .i64 q] 28)) (w1.heap.size + 1) 28 #[.int .i64 k, .int .i64 q] := Blk.new_at (by simp)
  have HA1 := Lib.hid ((HA.out.below HX1.out).more (B' := ((w1.alloc (.cells #[.int .u64 a, .int .u64 b, .int .u64 c, .int .u64 d] 25)).alloc (.cells #[.int .i64 k, .int .i64 q] 28)).heap.size) HX1.out.size)
  refine (H2.out _ HA1.out).mono ?_
  rintro e w2 ⟨rfl, hb2⟩
  have hs2 := hs1.below hb2 hs1.lt
  have hk2 := hk1.below hb2 hk1.lt
  have HB2 := Lib.hid (HX1.out.trans (hb2.mono HX1.out.size))
  obtain ⟨s0, s1, s2, s3, f0, f1, f2, f3⟩ := (hs2.alloc (.cells #[.int .u64 a, .int .u64 b, .int .u64 c, .int .u64 d] 25)).alloc (.cells #[.int .i64 k, .int .i64 q] 28) |>.c4
  obtain ⟨k0, k1, g0, g1⟩ := (hk2.alloc (.cells #[.int .u64 a, .int .u64 b, .int .u64 c, .int .u64 d] 25)).alloc (.cells #[.int .i64 k, .int .i64 q] 28) |>.c2
  clear hb2 hs1 hk1 hs2 hk2 HA1
  have hz2 := HB2.out.size
  have HX2 := Lib.hid ((HB2.out.alloc hz2 (.cells #[.int .u64 a, .int .u64 b, .int .u64 c, .int .u64 d] 25)).alloc (by simp; omega) (.cells #[.int .i64 k, .int .i64 q] 28))
  go_wp2_with fail
  refine (knows_go _ (TabAt.below HX2.out hw0 HT.out) (by simp)).mono ?_
  rintro e w3 ⟨rfl, hb3⟩
  have HB3 := Lib.hid (HX2.out.trans (hb3.mono HX2.out.size))
  clear hb3
  go_wp2
  go_light
  go_ret
  exact ⟨rfl, HB3.out⟩

end Go.Proofs.YtkelkadalikibaaDoor
