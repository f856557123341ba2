/- Texts of the claim. -/
import Derived.Test.YtofbfafnpdaejaaGreatDoorLMirTl
namespace Go.Proofs.YtofbfafnpdaejaaGreatDoor
set_option linter.unusedSimpArgs false
set_option linter.unusedVariables false
set_option maxRecDepth 100000
set_option maxHeartbeats 8000000
theorem mir_right {N : NfaV} {label : Int} (h : rightN N = true) (h7 : N.states ≤ 65535) : rightN (mirV N label) = true := by
 obtain ⟨h1, h2, h3, h4⟩ := rightN_parts h
 unfold rightN
 simp only [Bool.and_eq_true, decide_eq_true_eq, List.all_eq_true]
 refine ⟨show N.states + 1 ≤ 65536 by omega, isB_iff.2 (show 0 ≤ N.states ∧ N.states < N.states + 1 by omega), ?_, fun p hp => ?_, fun p hp => ?_, fun a ha => ?_⟩
 ·show ((((List.replicate (N.states.toNat + 1) (0 : Int)).set N.start.toNat 1).length : Nat) : Int) = N.states + 1
  rw [List.length_set, List.length_replicate]
  omega
 ·obtain ⟨s, t⟩ := p
  unfold linkB
  simp only [Bool.and_eq_true]
  rcases mir_link.1 hp with h5 | ⟨rfl, m, h5, rfl⟩
  ·have := h3 _ _ h5
   exact ⟨isB_iff.2 (show 0 ≤ s ∧ s < N.states + 1 by omega), isB_iff.2 (show 0 ≤ t ∧ t < N.states + 1 by omega)⟩
  ·have := (List.getElem?_eq_some_iff.1 h5).1
   exact ⟨isB_iff.2 (show 0 ≤ N.states ∧ N.states < N.states + 1 by omega), isB_iff.2 (show 0 ≤ (m : Int) ∧ (m : Int) < N.states + 1 by omega)⟩
 ·obtain ⟨s, c, t⟩ := p
  have := h4 _ _ _ (mir_edge.1 hp)
  unfold edgeB
  simp only [Bool.and_eq_true]
  exact ⟨isB_iff.2 (show 0 ≤ s ∧ s < N.states + 1 by omega), isB_iff.2 (show 0 ≤ t ∧ t < N.states + 1 by omega)⟩
 ·have h6 : a = 0 ∨ a = 1 := by
   rcases List.mem_or_eq_of_mem_set ha with h5 | h5
   ·exact .inl (List.eq_of_mem_replicate h5)
   ·exact .inr h5
  unfold accB
  rcases h6 with rfl | rfl <;> rfl
theorem mir_many {N : NfaV} {label : Int} (h : rightN N = true) (hl : N.links.length ≤ 1048576) (h7 : N.states ≤ 65535) : (mirV N label).links.length ≤ 9000000 := by
 have h2 := (rightN_parts h).2.1
 show (N.links.map flipL ++ markTo N label N.accept.length).length ≤ _
 have h3 : (markTo N label N.accept.length).length ≤ N.accept.length := by
  unfold markTo
  rw [List.length_map]
  exact Nat.le_trans (List.length_filter_le _ _) (by rw [List.length_range]; exact Nat.le_refl _)
 rw [List.length_append, List.length_map]
 omega
end Go.Proofs.YtofbfafnpdaejaaGreatDoor
