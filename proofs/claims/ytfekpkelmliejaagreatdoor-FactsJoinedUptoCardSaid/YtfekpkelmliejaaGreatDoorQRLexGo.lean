/-
  The contract of the reference's Lexemes.
-/
import Derived.Test.YtfekpkelmliejaaGreatDoorQRAltGo
import Derived.Test.YtfekpkelmliejaaGreatDoorQRWrong
import Derived.Test.YtfekpkelmliejaaGreatDoorQZ06
namespace Go.Proofs.YtfekpkelmliejaaGreatDoor
open Go.RowKit
set_option linter.unusedSimpArgs false
set_option linter.unusedVariables false
set_option maxRecDepth 100000

/-- The results' blocks, both zero. -/
def Z07 (w wr : World) : Prop := Blk wr w.heap.size 28 #[.int .i64 0, .int .u64 0, .int .u64 0, .int .u64 0, .int .u64 0, .slice none 0 0, .int .i64 0, .int .i64 0] ∧ Blk wr (w.heap.size + 1) 75 #[.int .i64 0, .int .i64 0] ∧ Below w.heap.size w wr
theorem Z07.below {w wr w2 : World} (h : Z07 w wr) (hb : Below wr.heap.size wr w2) : Z07 w w2 := ⟨h.1.below hb h.1.lt, h.2.1.below hb h.2.1.lt, h.2.2.trans (hb.mono h.2.2.size)⟩
end Go.Proofs.YtfekpkelmliejaaGreatDoor
