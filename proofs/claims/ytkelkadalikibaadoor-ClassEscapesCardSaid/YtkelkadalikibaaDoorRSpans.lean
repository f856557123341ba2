/-
  The reference's Spans: the pieces of a set, in a slice of its own. Its invariant: ahead of c, what is out and what is open make the pieces of the members below c.
-/
import Derived.Maps.AppendAt
import Derived.OwnWalk
import Derived.Test.YtkelkadalikibaaDoorSpanLaw
import Derived.Test.YtkelkadalikibaaDoorRBytes
namespace Go.Proofs.YtkelkadalikibaaDoor
set_option linter.unusedSimpArgs false
set_option linter.unusedVariables false
open Go.RowKit

/-- Ahead of c: `out` is laid; a piece from lo on is open where c - 1 is a member and c is not past the end. -/
def Open (p : Nat → Bool) (c : Nat) (out : List (Nat × Nat)) (lo : Nat) : Prop :=
  (0 < c ∧ c < 256 ∧ p (c - 1) = true ∧ p c = true ∧ spans (elems p c) = out ++ [(lo, c - 1)]) ∨
  (¬ (0 < c ∧ c < 256 ∧ p (c - 1) = true ∧ p c = true) ∧ spans (elems p c) = out)

theorem open_zero (p : Nat → Bool) (lo : Nat) : Open p 0 [] lo := .inr ⟨by simp, by simp [elems, spans]⟩
theorem open_end (p : Nat → Bool) {out : List (Nat × Nat)} {lo : Nat} (h : Open p 256 out lo) : out = spans (elems p 256) := by
  rcases h with ⟨_, h, _⟩ | ⟨_, h⟩
  · omega
  · exact h.symm
theorem open_no (p : Nat → Bool) (c : Nat) (hc : c < 256) (hp : p c = false) {out : List (Nat × Nat)} {lo : Nat} (h : Open p c out lo) (lo' : Nat) : Open p (c + 1) out lo' := by
  rcases h with ⟨_, _, _, h, _⟩ | ⟨_, h⟩
  · rw [hp] at h; cases h
  · exact .inr ⟨by simp [hp], by rw [spans_no p c hp]; exact h⟩
/-- Where c is a member: the new `lo`, and the pieces with the one that is open. -/
theorem open_yes (p : Nat → Bool) (c : Nat) (hc : c < 256) (hp : p c = true) {out : List (Nat × Nat)} {lo : Nat} (h : Open p c out lo) (lo' : Nat)
    (hlo : lo' = if c = 0 ∨ p (c - 1) = false then c else lo) : spans (elems p (c + 1)) = out ++ [(lo', c)] := by
  rw [spans_yes p c hc hp]
  rcases h with ⟨h0, _, h1, _, h2⟩ | ⟨h1, h2⟩
  · rw [if_neg (by simp [h1]; omega)] at hlo
    rw [h2, push_on _ _ _ _ (by omega), hlo]
  · have hcond : c = 0 ∨ p (c - 1) = false := by
      rcases Nat.eq_zero_or_pos c with h | h
      · exact .inl h
      · right
        cases hq : p (c - 1)
        · rfl
        · exact absurd ⟨h, hc, hq, hp⟩ h1
    rw [if_pos hcond] at hlo
    subst hlo
    rcases List.eq_nil_or_concat (spans (elems p lo')) with e | ⟨m, ⟨a, b⟩, e⟩
    · rw [e] at h2; rw [e, push_nil, ← h2]; rfl
    · rw [List.concat_eq_append] at e
      obtain ⟨hb, hpb⟩ := spans_end p lo' (by omega) m a b e
      rw [e, push_new _ _ _ _ ?_, ← e, h2]
      intro hbc
      rcases hcond with h | h
      · omega
      · rw [show lo' - 1 = b by omega, hpb] at h; cases h
theorem open_close (p : Nat → Bool) (c : Nat) {out : List (Nat × Nat)} {lo : Nat} (h : spans (elems p (c + 1)) = out ++ [(lo, c)]) (hn : c = 255 ∨ p (c + 1) = false) (lo' : Nat) : Open p (c + 1) (out ++ [(lo, c)]) lo' :=
  .inr ⟨fun q => (by
    obtain ⟨_, h1, _, h2⟩ := q
    rcases hn with hn | hn
    · omega
    · rw [hn] at h2
      exact Bool.noConfusion h2), h⟩
theorem open_keep (p : Nat → Bool) (c : Nat) (hp : p c = true) {out : List (Nat × Nat)} {lo : Nat} (h : spans (elems p (c + 1)) = out ++ [(lo, c)]) (h1 : c < 255) (h2 : p (c + 1) = true) : Open p (c + 1) out lo :=
  .inl ⟨by omega, by omega, hp, h2, h⟩

end Go.Proofs.YtkelkadalikibaaDoor
