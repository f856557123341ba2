/- Texts of the claim. -/
import Derived.Test.YtofbfafnpdaejaaGreatDoorJZ03
set_option linter.all false
set_option maxRecDepth 100000
set_option maxHeartbeats 8000000
namespace Go.Proofs.YtofbfafnpdaejaaGreatDoor
open Go.RowKit
theorem none_go (w : World) : Calls Tryz.prog 79 #[] w fun e w' => e = .returned (.agg #[.int .i64 1, .int .u64 0, .int .u64 0, .int .u64 0, .int .u64 0, .slice none 0 0, .int .i64 0, .int .i64 0]) ∧ Below w.heap.size w w' := by
 have HZ := Lib.hid (Blk.new w 28 #[.int .i64 1, .int .u64 0, .int .u64 0, .int .u64 0, .int .u64 0, .slice none 0 0, .int .i64 0, .int .i64 0])
 have HB := Lib.hid (show Below w.heap.size w (w.alloc (.cells #[.int .i64 1, .int .u64 0, .int .u64 0, .int .u64 0, .int .u64 0, .slice none 0 0, .int .i64 0, .int .i64 0] 28)) from (Below.refl _ _).alloc (Nat.le_refl _) _)
 go_enter Tryz.func79, Tryz.ntmps79
 go_wp2
 go_light
 exact bodyPost_ret (ret_node Tryz.results79 rfl HZ.out) rfl ⟨rfl, HB.out⟩
end Go.Proofs.YtofbfafnpdaejaaGreatDoor
