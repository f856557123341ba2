/-
  The walk of ClassEscapes: class.Escape and the reference's Escape say the same at every place of all bytes.
-/
import Derived.Test.YtkelkadalikibaaDoorKnows
import Derived.Test.YtkelkadalikibaaDoorEsc
import Derived.Test.YtkelkadalikibaaDoorRefEscX
namespace Go.Proofs.YtkelkadalikibaaDoor
open Go.RowKit Go.Shelf
set_option linter.unusedSimpArgs false
set_option linter.unusedVariables false
set_option maxRecDepth 100000

theorem escVal_form (bs : List Nat) (i : Int) : ∃ a j k q : Int, escVal bs i = .tuple #[.int .u8 a, .int .i64 j, .agg #[.int .i64 k, .int .i64 q]] := by
  unfold escVal
  split
  · split
    · exact ⟨_, _, _, _, rfl⟩
    · exact ⟨_, _, _, _, rfl⟩
  · exact ⟨_, _, _, _, rfl⟩

set_option maxHeartbeats 2000000 in
theorem escapes_go (A : Option Addr) (cap : Nat) (bs : List Nat) (i : Int) (w : World) (hA : BytesAt w w.heap.size A bs) (hT : TabAt 0 Lib.deBruijn64tab w) (hw0 : 0 < w.heap.size) :
    Calls Tryd.prog 6 #[.slice A bs.length cap, .int .i64 i] w fun e W' => e = .returned (.bool true) ∧ Below w.heap.size w W' := by
  have HT := Lib.hid hT
  have HA := Lib.hid hA
  have hr1 := fun w' hA' => esc_go A cap bs i w' hA'
  have hr2 := fun w' hA' => resc_go A cap bs i w' hA'
  have hf := escVal_form bs i
  clear hT hA
  generalize escVal bs i = v at *
  obtain ⟨a, j, k, q, rfl⟩ := hf
  have H1 := Lib.hid hr1
  have H2 := Lib.hid hr2
  clear hr1 hr2
  go_enter Tryd.func6, Tryd.ntmps6
  go_wp2_with fail
  refine (H1.out _ HA.out).mono ?_
  rintro e w1 ⟨rfl, hb1⟩
  have HB1 := Lib.hid hb1
  clear hb1
  go_wp2_with fail
  have hz1 := HB1.out.size
  have HX1 := Lib.hid (HB1.out.alloc hz1 (.cells #[.int .i64 k, .int .i64 q] 28))
  have hk1 : Blk (w1.alloc (.cells #[.int .i64 k, .int .i64 q] 28)) w1.heap.size 28 #[.int .i64 k, .int .i64 q] := Blk.new _ _ _
  have HA1 := Lib.hid ((HA.out.below HX1.out).more (B' := (w1.alloc (.cells #[.int .i64 k, .int .i64 q] 28)).heap.size) HX1.out.size)
  refine (H2.out _ HA1.out).mono ?_
  rintro e w2 ⟨rfl, hb2⟩
  have hk2 := hk1.below hb2 hk1.lt
  have HB2 := Lib.hid (HX1.out.trans (hb2.mono HX1.out.size))
  obtain ⟨k0, k1, g0, g1⟩ := (hk2.alloc (.cells #[.int .i64 k, .int .i64 q] 28)).c2
  clear hb2 hk1 hk2 HA1
  have hz2 := HB2.out.size
  have HX2 := Lib.hid (HB2.out.alloc hz2 (.cells #[.int .i64 k, .int .i64 q] 28))
  go_wp2_with fail
  refine (knows_go _ (TabAt.below HX2.out hw0 HT.out) (by simp)).mono ?_
  rintro e w3 ⟨rfl, hb3⟩
  have HB3 := Lib.hid (HX2.out.trans (hb3.mono HX2.out.size))
  clear hb3
  go_wp2
  go_light
  go_ret
  exact ⟨rfl, HB3.out⟩

end Go.Proofs.YtkelkadalikibaaDoor
