/- Texts of the claim. -/
import Derived.Test.YtofbfafnpdaejaaGreatDoorLZ01
import Derived.Test.YtofbfafnpdaejaaGreatDoorLText07
namespace Go.Proofs.YtofbfafnpdaejaaGreatDoor
set_option linter.unusedSimpArgs false
set_option linter.unusedVariables false
set_option maxRecDepth 100000
set_option maxHeartbeats 8000000
theorem wrongS_kindK : ∀ (L : List Lex) (op : List Int) (p : Bool) {k q : Int}, wrongS op p L = some (k, q) → k ≠ 0
 | [], [], p, k, q, h => by rw [wrongS] at h; cases h
 | [], x :: op, p, k, q, h => by
  rw [wrongS] at h
  cases h
  decide
 | y :: L, op, p, k, q, h => by
  unfold wrongS at h
  split at h
  ·exact wrongS_kindK L _ _ h
  split at h
  ·split at h
   ·cases h; decide
   ·exact wrongS_kindK L _ _ h
  split at h
  ·split at h
   ·cases h; decide
   ·exact wrongS_kindK L _ _ h
  split at h
  ·exact wrongS_kindK L _ _ h
  split at h
  ·cases h; decide
  ·exact wrongS_kindK L _ _ h
theorem lexemesS_kindK {L : List Lex} {k q : Int} (h : lexemesS L = .error (k, q)) : k ≠ 0 := by
 unfold lexemesS at h
 split at h
 ·simp at h; omega
 rename_i hall
 split at h
 ·have h1 := Except.error.inj h
  simp at h1
  omega
 ·have hk : Kinds L := fun y hy => by
   have h1 : rightS y = true := by
    have : L.all rightS = true := by simpa using hall
    exact List.all_eq_true.1 this y hy
   have := rightS_cases h1
   omega
  have hw := read_wrong L hk
  split at h
  ·rename_i e he
   rw [he] at hw
   have h1 := Except.error.inj h
   subst h1
   exact wrongS_kindK L [] false hw
  ·cases h
end Go.Proofs.YtofbfafnpdaejaaGreatDoor
