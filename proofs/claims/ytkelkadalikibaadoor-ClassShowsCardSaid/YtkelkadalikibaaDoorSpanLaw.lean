/-
  The pieces of the members below c + 1, from those of the members below c. No program in sight.
-/
import Derived.Test.YtkelkadalikibaaDoorSpans
namespace Go.Proofs.YtkelkadalikibaaDoor
set_option linter.unusedSimpArgs false
set_option linter.unusedVariables false

theorem spans_no (p : Nat → Bool) (c : Nat) (h : p c = false) : spans (elems p (c + 1)) = spans (elems p c) := by
  rw [elems_succ, h]; simp
theorem spans_yes (p : Nat → Bool) (c : Nat) (hc : c < 256) (h : p c = true) : spans (elems p (c + 1)) = push (spans (elems p c)) c := by
  rw [elems_succ, h, if_pos rfl, spans_snoc, Nat.mod_eq_of_lt hc]
theorem push_last (l : List (Nat × Nat)) (c : Nat) : ∃ m a, push l c = m ++ [(a, c)] := by
  rcases List.eq_nil_or_concat l with rfl | ⟨m, ⟨a, b⟩, rfl⟩
  · exact ⟨[], c, rfl⟩
  · rw [List.concat_eq_append]
    by_cases h : b + 1 = c
    · exact ⟨m, a, push_on _ _ _ _ h⟩
    · exact ⟨m ++ [(a, b)], c, push_new _ _ _ _ h⟩
/-- The last piece ends in a member. -/
theorem spans_end (p : Nat → Bool) : ∀ (c : Nat) (_ : c ≤ 256) (m : List (Nat × Nat)) (a b : Nat), spans (elems p c) = m ++ [(a, b)] → b < c ∧ p b = true
  | 0, _, m, a, b, h => by simp [elems, spans] at h
  | c + 1, hc, m, a, b, h => by
    cases hp : p c
    · rw [spans_no p c hp] at h
      have := spans_end p c (by omega) m a b h
      exact ⟨by omega, this.2⟩
    · rw [spans_yes p c (by omega) hp] at h
      obtain ⟨m', a', e⟩ := push_last (spans (elems p c)) c
      rw [e] at h
      have h2 := (List.append_inj' h rfl).2
      simp at h2
      obtain ⟨_, rfl⟩ := h2
      exact ⟨by omega, hp⟩

end Go.Proofs.YtkelkadalikibaaDoor
