/- Texts of the claim. -/
import Derived.Test.YtofbfafnpdaejaaGreatDoorMZ05
namespace Go.Proofs.YtofbfafnpdaejaaGreatDoor
set_option linter.unusedSimpArgs false
set_option linter.unusedVariables false
set_option maxRecDepth 100000
set_option maxHeartbeats 8000000
def catM (a b : Nd) : Nd := ⟨4, 0, Trees.of [a, b], 0, 0⟩
def starM (x : Nd) : Nd := ⟨6, 0, Trees.of [x], 0, 0⟩
def optM (x : Nd) : Nd := ⟨8, 0, Trees.of [x], 0, 0⟩
theorem rels_one (w : List Nat) (x : Nd) : (Trees.of [x]).rels w = [x.rel w] := by rw [Trees.rels_list, Trees.list_of]; rfl
theorem rels_two (w : List Nat) (a b : Nd) : (Trees.of [a, b]).rels w = [a.rel w, b.rel w] := by rw [Trees.rels_list, Trees.list_of]; rfl
theorem rel_cat (w : List Nat) (a b : Nd) (i j : Nat) : (catM a b).rel w i j ↔ ∃ m, a.rel w i m ∧ b.rel w m j := by
 have h : (catM a b).rel w = catR [a.rel w, b.rel w] := by
  unfold Nd.rel catM
  rw [rels_two]
  rfl
 rw [h]
 exact ⟨fun ⟨m, h1, m2, h2, h3⟩ => ⟨m, h1, by have h3 : m2 = j := h3; rw [← h3]; exact h2⟩, fun ⟨m, h1, h2⟩ => ⟨m, h1, j, h2, rfl⟩⟩
theorem rel_star (w : List Nat) (x : Nd) : (starM x).rel w = starR (x.rel w) := by
 unfold Nd.rel starM
 rw [rels_one]
 rfl
theorem rel_opt (w : List Nat) (x : Nd) : (optM x).rel w = optR (x.rel w) := by
 unfold Nd.rel optM
 rw [rels_one]
 rfl
end Go.Proofs.YtofbfafnpdaejaaGreatDoor
