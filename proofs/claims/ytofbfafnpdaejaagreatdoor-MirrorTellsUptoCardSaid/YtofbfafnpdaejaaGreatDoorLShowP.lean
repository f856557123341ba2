/- Texts of the claim. -/
import Derived.Test.YtofbfafnpdaejaaGreatDoorLShowS
namespace Go.Proofs.YtofbfafnpdaejaaGreatDoor
open Go.RowKit
set_option linter.unusedSimpArgs false
set_option linter.unusedVariables false
set_option maxRecDepth 100000
set_option maxHeartbeats 8000000
theorem one_kid {x : Nd} (h : x.kids.len = 1) : ∃ z, x.kids.list = [z] ∧ x.kids.list[0]? = some z := by
 have : x.kids.list.length = 1 := by rw [Trees.len_list]; exact h
 obtain ⟨z, hz⟩ := List.length_eq_one_iff.1 this
 exact ⟨z, hz, by rw [hz]; rfl⟩
end Go.Proofs.YtofbfafnpdaejaaGreatDoor
