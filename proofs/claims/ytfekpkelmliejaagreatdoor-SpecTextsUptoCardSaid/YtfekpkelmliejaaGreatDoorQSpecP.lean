/- Texts of the claim. -/
import Derived.Test.YtfekpkelmliejaaGreatDoorQSpecS
namespace Go.Proofs.YtfekpkelmliejaaGreatDoor
set_option linter.unusedSimpArgs false
set_option linter.unusedVariables false
set_option maxRecDepth 100000
set_option maxHeartbeats 8000000
theorem rulesF_end {bs : List Nat} {f i : Nat} {rs : List RuleS} (h : bs.length ≤ i) : rulesF bs (f + 1) i rs = .ok rs := by unfold rulesF; rw [if_pos h]
theorem rulesF_pass {bs : List Nat} {f i : Nat} {rs : List RuleS} (h : i < bs.length) (h2 : lineAt bs i = [] ∨ byteAt bs i = 35) : rulesF bs (f + 1) i rs = rulesF bs f (i + (lineAt bs i).length + 1) rs := by
 conv => lhs; unfold rulesF
 rw [if_neg (by omega), if_pos h2]
theorem rulesF_bad {bs : List Nat} {f i : Nat} {rs : List RuleS} {k q : Int} (h : i < bs.length) (h2 : ¬ (lineAt bs i = [] ∨ byteAt bs i = 35)) (h3 : lineS rs (lineAt bs i) = .error (k, q)) : rulesF bs (f + 1) i rs = .error (k, q + i) := by
 conv => lhs; unfold rulesF
 rw [if_neg (by omega), if_neg h2, h3]
theorem rulesF_ok {bs : List Nat} {f i : Nat} {rs : List RuleS} {r : RuleS} (h : i < bs.length) (h2 : ¬ (lineAt bs i = [] ∨ byteAt bs i = 35)) (h3 : lineS rs (lineAt bs i) = .ok r) : rulesF bs (f + 1) i rs = rulesF bs f (i + (lineAt bs i).length + 1) (rs ++ [r]) := by
 conv => lhs; unfold rulesF
 rw [if_neg (by omega), if_neg h2, h3]
theorem lineAt_len (bs : List Nat) (i : Nat) : (lineAt bs i).length ≤ bs.length - i := by
 have := (List.takeWhile_prefix (p := fun c => !(c == 10)) (l := bs.drop i)).length_le
 unfold lineAt
 simpa using this
theorem rulesF_fuel {bs : List Nat} : ∀ {f g i : Nat} {rs : List RuleS}, bs.length < f + i → bs.length < g + i → i ≤ bs.length + 1 → 1 ≤ f → 1 ≤ g → rulesF bs f i rs = rulesF bs g i rs
 | 0, _, _, _, _, _, _, h, _ => by omega
 | _ + 1, 0, _, _, _, _, _, _, h => by omega
 | f + 1, g + 1, i, rs, hf, hg, hi, _, _ => by
  rcases Nat.lt_or_ge i bs.length with h | h
  ·have hl := lineAt_len bs i
   have hstep : ∀ rs', rulesF bs f (i + (lineAt bs i).length + 1) rs' = rulesF bs g (i + (lineAt bs i).length + 1) rs' := fun rs' =>
    rulesF_fuel (by omega) (by omega) (by omega) (by omega) (by omega)
   by_cases h2 : lineAt bs i = [] ∨ byteAt bs i = 35
   ·rw [rulesF_pass h h2, rulesF_pass h h2, hstep]
   ·cases h3 : lineS rs (lineAt bs i) with
    | error e => obtain ⟨k, q⟩ := e; rw [rulesF_bad h h2 h3, rulesF_bad h h2 h3]
    | ok r => rw [rulesF_ok h h2 h3, rulesF_ok h h2 h3, hstep]
  ·rw [rulesF_end h, rulesF_end h]
def rulesC (bs : List Nat) (i : Nat) (rs : List RuleS) : Except Wrong (List RuleS) := rulesF bs (bs.length + 2 - i) i rs
theorem rulesC_of {bs : List Nat} {f i : Nat} {rs : List RuleS} (h : bs.length < f + i) (hi : i ≤ bs.length + 1) (hf : 1 ≤ f) : rulesF bs f i rs = rulesC bs i rs := rulesF_fuel h (by omega) hi hf (by omega)
theorem rulesC_end {bs : List Nat} {i : Nat} {rs : List RuleS} (h : bs.length ≤ i) (hi : i ≤ bs.length + 1) : rulesC bs i rs = .ok rs := by
 unfold rulesC
 rw [show bs.length + 2 - i = (bs.length + 1 - i) + 1 by omega, rulesF_end h]
theorem rulesC_pass {bs : List Nat} {i : Nat} {rs : List RuleS} (h : i < bs.length) (h2 : lineAt bs i = [] ∨ byteAt bs i = 35) : rulesC bs i rs = rulesC bs (i + (lineAt bs i).length + 1) rs := by
 have hl := lineAt_len bs i
 conv => lhs; unfold rulesC
 rw [show bs.length + 2 - i = (bs.length + 1 - i) + 1 by omega, rulesF_pass h h2]
 exact rulesC_of (by omega) (by omega) (by omega)
theorem rulesC_bad {bs : List Nat} {i : Nat} {rs : List RuleS} {k q : Int} (h : i < bs.length) (h2 : ¬ (lineAt bs i = [] ∨ byteAt bs i = 35)) (h3 : lineS rs (lineAt bs i) = .error (k, q)) : rulesC bs i rs = .error (k, q + i) := by
 unfold rulesC
 rw [show bs.length + 2 - i = (bs.length + 1 - i) + 1 by omega, rulesF_bad h h2 h3]
theorem rulesC_ok {bs : List Nat} {i : Nat} {rs : List RuleS} {r : RuleS} (h : i < bs.length) (h2 : ¬ (lineAt bs i = [] ∨ byteAt bs i = 35)) (h3 : lineS rs (lineAt bs i) = .ok r) : rulesC bs i rs = rulesC bs (i + (lineAt bs i).length + 1) (rs ++ [r]) := by
 have hl := lineAt_len bs i
 conv => lhs; unfold rulesC
 rw [show bs.length + 2 - i = (bs.length + 1 - i) + 1 by omega, rulesF_ok h h2 h3]
 exact rulesC_of (by omega) (by omega) (by omega)
theorem rulesS_long {bs : List Nat} (h : 65536 < bs.length) : rulesS bs = .error (4, 65536) := by unfold rulesS; rw [if_pos h]
theorem rulesS_go {bs : List Nat} (h : bs.length ≤ 65536) : rulesS bs = rulesC bs 0 [] := by
 unfold rulesS
 rw [if_neg (by omega)]
 exact rulesC_of (by omega) (by omega) (by omega)
def called (rs : List RuleS) (n : List Nat) : Bool := rs.any fun r => decide (r.name = n)
theorem called_app (l rs : List RuleS) (n : List Nat) : called (l ++ rs) n = (called l n || called rs n) := by unfold called; simp
theorem headS_ok {rs : List RuleS} {line n : List Nat} (h : headS rs line = .ok n) : rs.length ≠ 64 ∧ n = line.take (runS line) ∧ called rs n = false := by
 unfold headS at h
 split at h; · cases h
 split at h; · cases h
 split at h; · cases h
 split at h; · cases h
 split at h; · cases h
 rename_i h1 h2 h3 h4 h5
 cases h
 exact ⟨h1, rfl, by simpa [called] using h5⟩
theorem lineS_ok {rs : List RuleS} {line : List Nat} {r : RuleS} (h : lineS rs line = .ok r) : headS rs line = .ok r.name ∧ parseS (line.drop (r.name.length + 1)) = .ok r.body := by
 unfold lineS at h
 cases h1 : headS rs line with
 | error e => rw [h1] at h; cases h
 | ok n =>
  rw [h1] at h
  dsimp only at h
  cases h2 : parseS (line.drop (n.length + 1)) with
  | error e => obtain ⟨k, q⟩ := e; rw [h2] at h; cases h
  | ok x => rw [h2] at h; cases h; exact ⟨rfl, h2⟩
end Go.Proofs.YtfekpkelmliejaaGreatDoor
