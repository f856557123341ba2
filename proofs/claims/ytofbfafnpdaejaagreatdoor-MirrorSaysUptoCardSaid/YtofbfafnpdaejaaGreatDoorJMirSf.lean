/- Texts of the claim. -/
import Derived.Test.YtofbfafnpdaejaaGreatDoorJMirSy
import Derived.Test.YtofbfafnpdaejaaGreatDoorJZ05
namespace Go.Proofs.YtofbfafnpdaejaaGreatDoor
set_option linter.unusedSimpArgs false
set_option linter.unusedVariables false
set_option maxRecDepth 100000
set_option maxHeartbeats 8000000
theorem full_no {x : Nd} {bs : List Nat} (h : rightT x = false) : fullB x bs = false := by
 unfold fullB findB
 rw [if_neg]
 unfold errF
 rw [if_pos h]
 decide
theorem turn_full (x : Nd) (bs : List Nat) (hl : bs.length ≤ 256) : fullB x.turn bs.reverse = fullB x bs := by
 cases hr : rightT x with
 | false => rw [full_no hr, full_no ((turn_right x).trans hr)]
 | true =>
  have h1 := full_says hr hl
  have h2 := full_says (x := x.turn) (bs := bs.reverse) ((turn_right x).trans hr) (by rw [List.length_reverse]; exact hl)
  rw [turn_says, ← h1] at h2
  cases ha : fullB x bs <;> cases hb : fullB x.turn bs.reverse <;> simp_all
end Go.Proofs.YtofbfafnpdaejaaGreatDoor
