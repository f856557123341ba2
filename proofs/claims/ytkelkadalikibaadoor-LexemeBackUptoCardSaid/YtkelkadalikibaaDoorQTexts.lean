/-
  The text of a lexeme. No program in sight.
-/
import Derived.Test.YtkelkadalikibaaDoorQZ01
import Derived.Test.YtkelkadalikibaaDoorQRShow
import Derived.Test.YtkelkadalikibaaDoorQRightS
import Derived.Test.YtkelkadalikibaaDoorQCount
namespace Go.Proofs.YtkelkadalikibaaDoor
open Go.RowKit
set_option linter.unusedSimpArgs false
set_option linter.unusedVariables false
set_option maxRecDepth 100000

/-- The text of a repetition. -/
def repT (lo hi : Int) : List Nat := [123] ++ (decS lo.toNat ++ ((if hi < 0 then [44] else if lo < hi then 44 :: decS hi.toNat else []) ++ [125]))
theorem repT_open (lo hi : Int) (h : hi < 0) : repT lo hi = [123] ++ (decS lo.toNat ++ ([44] ++ [125])) := by unfold repT; rw [if_pos h]
theorem repT_two (lo hi : Int) (h : ¬ hi < 0) (h2 : lo < hi) : repT lo hi = [123] ++ (decS lo.toNat ++ (([44] ++ decS hi.toNat) ++ [125])) := by unfold repT; rw [if_neg h, if_pos h2]; rfl
theorem repT_one (lo hi : Int) (h : ¬ hi < 0) (h2 : ¬ lo < hi) : repT lo hi = [123] ++ (decS lo.toNat ++ [125]) := by unfold repT; rw [if_neg h, if_neg h2]; rfl
theorem repT_len (lo hi : Int) : (repT lo hi).length ≤ 11 := by
  unfold repT
  have := decS_len lo.toNat
  have := decS_len hi.toNat
  split
  · simp; omega
  · split <;> simp <;> omega
/-- Do two sets hold the same bytes? -/
def sameSet (p q : Nat → Bool) : Bool := ((word p 0 : Nat) : Int) == ((word q 0 : Nat) : Int) && ((word p 1 : Nat) : Int) == ((word q 1 : Nat) : Int) && ((word p 2 : Nat) : Int) == ((word q 2 : Nat) : Int) && ((word p 3 : Nat) : Int) == ((word q 3 : Nat) : Int)
/-- The text of a set. -/
def setT (p : Nat → Bool) : List Nat := if (elems p 256).length = 1 then litS ((elems p 256).headD 0) else if sameSet p dotSet = true then [46] else showS p
/-- The text of a lexeme that may be. -/
def textS (x : Lex) : List Nat :=
  if x.kind = 1 then setT x.set else if x.kind = 8 then repT x.lo x.hi
  else if x.kind = 2 then [40] else if x.kind = 3 then [41] else if x.kind = 4 then [124] else if x.kind = 5 then [42] else if x.kind = 6 then [43] else [63]
theorem setT_len (p : Nat → Bool) : (setT p).length ≤ 2400 := by
  unfold setT
  split
  · have := litS_len ((elems p 256).headD 0); omega
  · split
    · simp
    · exact showS_len p
theorem textS_len (x : Lex) : (textS x).length ≤ 2400 := by
  unfold textS
  split
  · exact setT_len _
  · split
    · have := repT_len x.lo x.hi; omega
    · repeat' split
      all_goals simp
theorem litS_bytes (c : Nat) (hc : c < 256) : ∀ x ∈ litS c, x < 256 := by
  intro x hx
  unfold litS at hx
  split at hx
  · simp at hx; omega
  · split at hx
    · simp at hx; omega
    · exact (chr_head c hc).2.2.2.2 x hx
theorem decS_bytes (n : Nat) (h : n < 10000) : ∀ x ∈ decS n, 48 ≤ x ∧ x ≤ 57 := by
  intro x hx
  unfold decS at hx
  split at hx
  · simp at hx; omega
  · split at hx
    · simp at hx; omega
    · split at hx
      · simp at hx; omega
      · simp at hx; omega

end Go.Proofs.YtkelkadalikibaaDoor
