/- Texts of the claim. -/
import Derived.Test.YtfekpkelmliejaaGreatDoorQZ01
namespace Go.Proofs.YtfekpkelmliejaaGreatDoor
set_option linter.unusedSimpArgs false
set_option linter.unusedVariables false
set_option maxRecDepth 100000
set_option maxHeartbeats 8000000
def isNameA (c : Nat) : Bool := c == 95 || decide (97 ≤ c) && decide (c ≤ 122) || decide (65 ≤ c) && decide (c ≤ 90)
def isNameB (c : Nat) : Bool := isNameA c || isDig c
def runS : List Nat → Nat
 | [] => 0
 | c :: l => if isNameA c = true then (l.takeWhile isNameB).length + 1 else 0
theorem runS_nil : runS [] = 0 := rfl
theorem runS_cons (c : Nat) (l : List Nat) : runS (c :: l) = if isNameA c = true then (l.takeWhile isNameB).length + 1 else 0 := rfl
def nameAt (bs : List Nat) (i : Nat) : Bool := if i = 0 then isNameA (byteAt bs 0) else isNameB (byteAt bs i)
theorem runS_le (bs : List Nat) : runS bs ≤ bs.length := by
 cases bs with
 | nil => exact Nat.le_refl _
 | cons c l =>
  rw [runS_cons]
  split
  ·have := (List.takeWhile_prefix (p := isNameB) (l := l)).length_le
   simp
   omega
  ·simp
theorem runS_more {bs : List Nat} {i : Nat} (hi : i ≤ runS bs) (hl : i < bs.length) (h : nameAt bs i = true) : i + 1 ≤ runS bs := by
 cases bs with
 | nil => simp at hl
 | cons c l =>
  unfold nameAt at h
  rw [runS_cons] at hi ⊢
  cases i with
  | zero =>
   have h0 : isNameA c = true := by simpa [byteAt] using h
   rw [if_pos h0]
   omega
  | succ i =>
   by_cases h0 : isNameA c = true
   ·rw [if_pos h0] at hi ⊢
    have hl' : i < l.length := by simpa using hl
    have h1 : isNameB l[i] = true := by
     rw [if_neg (by omega)] at h
     rw [← byteAt_get (by simpa using hl)] at h
     simpa using h
    have := takeWhile_more l i (by omega) hl' h1
    omega
   ·rw [if_neg h0] at hi
    omega
theorem runS_stop {bs : List Nat} {i : Nat} (hi : i ≤ runS bs) (h : bs.length ≤ i ∨ nameAt bs i = false) : runS bs = i := by
 rcases h with h | h
 ·have := runS_le bs
  omega
 ·cases bs with
  | nil => rw [runS_nil] at hi ⊢; omega
  | cons c l =>
   unfold nameAt at h
   rw [runS_cons] at hi ⊢
   cases i with
   | zero =>
    have h0 : ¬ isNameA c = true := by simpa [byteAt] using h
    rw [if_neg h0]
   | succ i =>
    by_cases h0 : isNameA c = true
    ·rw [if_pos h0] at hi ⊢
     rcases Nat.lt_or_ge i l.length with hl' | hl'
     ·have h1 : isNameB l[i] = false := by
       rw [if_neg (by omega)] at h
       rw [← byteAt_get (show i + 1 < (c :: l).length by simpa using hl')] at h
       simpa using h
      rw [takeWhile_stop l i (by omega) hl' h1]
     ·have := (List.takeWhile_prefix (p := isNameB) (l := l)).length_le
      omega
    ·rw [if_neg h0] at hi
     omega
structure RuleS where
 name : List Nat
 body : Nd
def headS (rs : List RuleS) (line : List Nat) : Except Wrong (List Nat) :=
 if rs.length = 64 then .error (18, 0)
 else if runS line = 0 then .error (9, 0)
 else if 32 < runS line then .error (9, 32)
 else if runS line = line.length ∨ byteAt line (runS line) ≠ 58 then .error (10, (runS line : Nat))
 else if (rs.any fun r => decide (r.name = line.take (runS line))) = true then .error (8, 0)
 else .ok (line.take (runS line))
def lineS (rs : List RuleS) (line : List Nat) : Except Wrong RuleS :=
 match headS rs line with
 | .error e => .error e
 | .ok n => match parseS (line.drop (n.length + 1)) with
  | .error (k, q) => .error (k, q + n.length + 1)
  | .ok x => .ok ⟨n, x⟩
def lineAt (bs : List Nat) (i : Nat) : List Nat := (bs.drop i).takeWhile (fun c => !(c == 10))
def rulesF (bs : List Nat) : Nat → Nat → List RuleS → Except Wrong (List RuleS)
 | 0, _, _ => .error (0, 0)
 | f + 1, i, rs => if bs.length ≤ i then .ok rs
  else if lineAt bs i = [] ∨ byteAt bs i = 35 then rulesF bs f (i + (lineAt bs i).length + 1) rs
  else match lineS rs (lineAt bs i) with
   | .error (k, q) => .error (k, q + i)
   | .ok r => rulesF bs f (i + (lineAt bs i).length + 1) (rs ++ [r])
def rulesS (bs : List Nat) : Except Wrong (List RuleS) := if 65536 < bs.length then .error (4, 65536) else rulesF bs (bs.length + 1) 0 []
end Go.Proofs.YtfekpkelmliejaaGreatDoor
