/-
  How many states trees take: the plain number, and the contracts of nfa.sum, nfa.times, nfa.Weight, nfa.Size.
-/
import Derived.Test.YtchfipjclbpomaaGreatDoorQZ03
namespace Go.Proofs.YtchfipjclbpomaaGreatDoor
open Go.RowKit
set_option linter.unusedSimpArgs false
set_option linter.unusedVariables false
set_option maxRecDepth 100000

/-- What a node that says so often takes, its kid taking n. -/
def timesW (lo hi : Int) (n : Nat) : Nat :=
  if n = 0 then 0
  else if hi < 0 then min topN (min topN (lo.toNat * n) + n + 1)
  else if lo < hi then min topN (min topN (lo.toNat * n) + min topN ((hi - lo).toNat * n) + 1)
  else min topN (lo.toNat * n)
/-- What a node takes, its kids taking n together. -/
def wgtK (k lo hi : Int) (n : Nat) : Nat := if k = 2 ∨ k = 4 then n else if k = 9 then timesW lo hi n else min topN (n + 1)
/-- What trees take together. -/
def Trees.wsum : Trees → Nat
  | .nil => 0
  | .cons k _ ks lo hi r => wgtK k lo hi (min topN ks.wsum) + r.wsum
/-- Numbers of times that may be. -/
def numsOk (y : Nd) : Prop := y.kind = 9 → 0 ≤ y.lo ∧ y.lo ≤ 1000 ∧ -1 ≤ y.hi ∧ y.hi ≤ 1000
theorem numsOk_of {y : Nd} (h : aloneN y = true) : numsOk y := by
  intro h9
  unfold aloneN aloneV at h
  rw [if_neg (by omega)] at h
  split at h
  · cases h
  try rw [if_pos h9] at h
  rw [Bool.and_eq_true] at h
  have := h.1
  unfold timesB at this
  simp only [Bool.and_eq_true, Bool.or_eq_true, decide_eq_true_eq] at this
  omega
end Go.Proofs.YtchfipjclbpomaaGreatDoor
