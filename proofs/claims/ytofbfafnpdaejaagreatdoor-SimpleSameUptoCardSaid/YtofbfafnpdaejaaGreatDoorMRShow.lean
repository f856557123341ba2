/- Texts of the claim. -/
import Derived.Test.YtofbfafnpdaejaaGreatDoorMZ01
import Derived.Test.YtofbfafnpdaejaaGreatDoorMPieces
import Derived.Test.YtofbfafnpdaejaaGreatDoorMZ02
set_option linter.all false
set_option maxRecDepth 100000
set_option maxHeartbeats 8000000
namespace Go.Proofs.YtofbfafnpdaejaaGreatDoor
open Go.RowKit
theorem turned_cases (p : Nat → Bool) : ((elems p 256).length = 0 ∧ isTurned p = true) ∨ (0 < (elems p 256).length ∧ 128 < (elems p 256).length ∧ (elems p 256).length < 256 ∧ isTurned p = true) ∨
  (0 < (elems p 256).length ∧ (elems p 256).length ≤ 128 ∧ isTurned p = false) ∨ (0 < (elems p 256).length ∧ 128 < (elems p 256).length ∧ 256 ≤ (elems p 256).length ∧ isTurned p = false) := by
 unfold isTurned
 generalize (elems p 256).length = n
 by_cases e0 : n = 0
 ·exact .inl ⟨e0, by simp [e0]⟩
 by_cases e1 : n ≤ 128
 ·exact .inr (.inr (.inl ⟨by omega, e1, by simp; omega⟩))
 by_cases e2 : n < 256
 ·exact .inr (.inl ⟨by omega, by omega, e2, by simp; omega⟩)
 ·exact .inr (.inr (.inr ⟨by omega, by omega, by omega, by simp; omega⟩))
end Go.Proofs.YtofbfafnpdaejaaGreatDoor
