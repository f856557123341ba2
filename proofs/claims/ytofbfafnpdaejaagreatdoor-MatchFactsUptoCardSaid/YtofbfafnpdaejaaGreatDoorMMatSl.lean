/- Texts of the claim. -/
import Derived.Test.YtofbfafnpdaejaaGreatDoorMMatEl
import Derived.Test.YtofbfafnpdaejaaGreatDoorMMatJ
namespace Go.Proofs.YtofbfafnpdaejaaGreatDoor
open Go.RowKit
set_option linter.unusedSimpArgs false
set_option linter.unusedVariables false
set_option maxRecDepth 100000
set_option maxHeartbeats 8000000
theorem full_says {x : Nd} {bs : List Nat} (hr : rightT x = true) (hl : bs.length ≤ 256) : fullB x bs = true ↔ SaysW x bs := by
 have h0 : errF x bs 0 = 0 := by unfold errF; rw [if_neg (by rw [hr]; decide), if_neg (by omega), if_neg (by omega)]
 unfold fullB
 rw [findB_yes h0, endsB_iff]
 exact Iff.rfl
end Go.Proofs.YtofbfafnpdaejaaGreatDoor
