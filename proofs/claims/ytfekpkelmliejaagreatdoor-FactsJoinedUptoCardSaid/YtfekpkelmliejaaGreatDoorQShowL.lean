/-
  The contracts of show.Lexemes and show.Text, and of the reference's.
-/
import Derived.Test.YtfekpkelmliejaaGreatDoorQZB01
import Derived.Test.YtfekpkelmliejaaGreatDoorQZ05
import Derived.Test.YtfekpkelmliejaaGreatDoorQParseK
import Derived.Test.YtfekpkelmliejaaGreatDoorQRLexGo
import Derived.Test.YtfekpkelmliejaaGreatDoorQRRightX
import Derived.Test.YtfekpkelmliejaaGreatDoorQJoinW
import Derived.Test.YtfekpkelmliejaaGreatDoorQRJoinW
namespace Go.Proofs.YtfekpkelmliejaaGreatDoor
open Go.RowKit
set_option linter.unusedSimpArgs false
set_option linter.unusedVariables false
set_option maxRecDepth 100000

/-- A tree, or what is wrong, whichever: its node, the kind and place of what is wrong. -/
theorem TreeOut.any (r : Except Wrong Nd) : ∃ (z : Nd) (k q : Int), (k = 0 ↔ ∃ z, r = .ok z) ∧ ∀ w e w', (∀ k' q', r = .error (k', q') → k' ≠ 0) → TreeOut r w e w' → ∃ B cap, e = .returned (.tuple #[ndV z B cap, .agg #[.int .i64 k, .int .i64 q]]) ∧ Below w.heap.size w w' := by
  cases r with
  | error e =>
    obtain ⟨k, q⟩ := e
    by_cases hk : k = 0
    · refine ⟨⟨0, 0, .nil, 0, 0⟩, 1, q, by simp, fun w e w' hn _ => absurd hk (hn k q rfl)⟩
    · refine ⟨⟨0, 0, .nil, 0, 0⟩, k, q, by simp [hk], fun w e w' _ h => ⟨none, 0, ?_, h.2⟩⟩
      rw [h.1]
      rfl
  | ok z => exact ⟨z, 0, 0, by simp, fun w e w' _ ⟨B, cap, he, hb, _⟩ => ⟨B, cap, he, hb⟩⟩
/-! Texts. -/
end Go.Proofs.YtfekpkelmliejaaGreatDoor
