/- Texts of the claim. -/
import Derived.Test.YtofbfafnpdaejaaGreatDoorJTAlt
set_option linter.all false
set_option maxRecDepth 100000
set_option maxHeartbeats 8000000
namespace Go.Proofs.YtofbfafnpdaejaaGreatDoor
open Go.RowKit
theorem empty_go (w : World) : Calls Tryz.prog 90 #[] w fun e w' => e = .returned (.agg #[.int .i64 2, .int .u64 0, .int .u64 0, .int .u64 0, .int .u64 0, .slice none 0 0, .int .i64 0, .int .i64 0]) ∧ Below w.heap.size w w' := by
 have HZ := Lib.hid (Blk.new w 28 #[.int .i64 2, .int .u64 0, .int .u64 0, .int .u64 0, .int .u64 0, .slice none 0 0, .int .i64 0, .int .i64 0])
 have HB := Lib.hid (show Below w.heap.size w (w.alloc (.cells #[.int .i64 2, .int .u64 0, .int .u64 0, .int .u64 0, .int .u64 0, .slice none 0 0, .int .i64 0, .int .i64 0] 28)) from (Below.refl _ _).alloc (Nat.le_refl _) _)
 go_enter Tryz.func90, Tryz.ntmps90
 go_wp2
 go_light
 exact bodyPost_ret (ret_node Tryz.results90 rfl HZ.out) rfl ⟨rfl, HB.out⟩
end Go.Proofs.YtofbfafnpdaejaaGreatDoor
