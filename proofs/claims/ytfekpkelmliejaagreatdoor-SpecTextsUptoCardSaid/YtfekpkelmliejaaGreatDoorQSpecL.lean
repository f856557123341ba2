/- Texts of the claim. -/
import Derived.Test.YtfekpkelmliejaaGreatDoorQSpecP
namespace Go.Proofs.YtfekpkelmliejaaGreatDoor
set_option linter.unusedSimpArgs false
set_option linter.unusedVariables false
set_option maxRecDepth 100000
set_option maxHeartbeats 8000000
def startsF (bs : List Nat) : Nat → Nat → List Nat
 | 0, _ => []
 | f + 1, i => if bs.length ≤ i then [] else i :: startsF bs f (i + (lineAt bs i).length + 1)
theorem startsF_fuel {bs : List Nat} : ∀ {f g i : Nat}, bs.length < f + i → bs.length < g + i → startsF bs f i = startsF bs g i
 | 0, 0, i, hf, hg => rfl
 | 0, g + 1, i, hf, hg => by unfold startsF; rw [if_pos (by omega)]
 | f + 1, 0, i, hf, hg => by unfold startsF; rw [if_pos (by omega)]
 | f + 1, g + 1, i, hf, hg => by
  unfold startsF
  by_cases h : bs.length ≤ i
  ·rw [if_pos h, if_pos h]
  ·rw [if_neg h, if_neg h, startsF_fuel (f := f) (g := g) (by omega) (by omega)]
def starts (bs : List Nat) (i : Nat) : List Nat := startsF bs (bs.length + 1) i
theorem starts_end {bs : List Nat} {i : Nat} (h : bs.length ≤ i) : starts bs i = [] := by unfold starts startsF; rw [if_pos h]
theorem starts_go {bs : List Nat} {i : Nat} (h : i < bs.length) : starts bs i = i :: starts bs (i + (lineAt bs i).length + 1) := by
 conv => lhs; unfold starts startsF
 rw [if_neg (by omega)]
 unfold starts
 rw [startsF_fuel (g := bs.length + 1) (by omega) (by omega)]
theorem starts_len (bs : List Nat) (n : Nat) : ∀ i, bs.length - i ≤ n → (starts bs i).length ≤ bs.length - i := by
 induction n with
 | zero => intro i hn; rw [starts_end (by omega)]; simp
 | succ n ih =>
  intro i hn
  rcases Nat.lt_or_ge i bs.length with h | h
  ·rw [starts_go h]
   have := ih (i + (lineAt bs i).length + 1) (by omega)
   simp
   omega
  ·rw [starts_end h]; simp
def stepS (bs : List Nat) (rs : List RuleS) (i : Nat) : Except Wrong (List RuleS) :=
 if lineAt bs i = [] ∨ byteAt bs i = 35 then .ok rs else match lineS rs (lineAt bs i) with
  | .error (k, q) => .error (k, q + i)
  | .ok r => .ok (rs ++ [r])
def foldS (bs : List Nat) : List RuleS → List Nat → Except Wrong (List RuleS)
 | rs, [] => .ok rs
 | rs, i :: l => match stepS bs rs i with
  | .error e => .error e
  | .ok rs' => foldS bs rs' l
theorem foldS_app {bs : List Nat} : ∀ {l m : List Nat} {rs rs' : List RuleS}, foldS bs rs l = .ok rs' → foldS bs rs (l ++ m) = foldS bs rs' m
 | [], m, rs, rs', h => by cases h; rfl
 | i :: l, m, rs, rs', h => by
  unfold foldS at h
  rw [List.cons_append]
  conv => lhs; unfold foldS
  cases hs : stepS bs rs i with
  | error e => rw [hs] at h; cases h
  | ok r => rw [hs] at h; exact foldS_app h
theorem foldS_one (bs : List Nat) (rs : List RuleS) (i : Nat) : foldS bs rs [i] = stepS bs rs i := by
 unfold foldS
 cases stepS bs rs i <;> rfl
theorem foldS_snoc {bs : List Nat} {l : List Nat} {rs rs' : List RuleS} {i : Nat} (h : foldS bs rs l = .ok rs') : foldS bs rs (l ++ [i]) = stepS bs rs' i := (foldS_app h).trans (foldS_one bs rs' i)
theorem foldS_bad {bs : List Nat} {e : Wrong} : ∀ {l m : List Nat} {rs : List RuleS}, foldS bs rs l = .error e → foldS bs rs (l ++ m) = .error e
 | [], m, rs, h => by cases h
 | i :: l, m, rs, h => by
  unfold foldS at h
  rw [List.cons_append]
  conv => lhs; unfold foldS
  cases hs : stepS bs rs i with
  | error e => rw [hs] at h; exact h
  | ok r => rw [hs] at h; exact foldS_bad h
theorem foldS_prefix {bs : List Nat} {e : Wrong} {l m : List Nat} {rs : List RuleS} (h : l <+: m) (hb : foldS bs rs l = .error e) : foldS bs rs m = .error e := by
 obtain ⟨t, rfl⟩ := h
 exact foldS_bad hb
theorem rulesC_fold (bs : List Nat) (n : Nat) : ∀ (i : Nat) (rs : List RuleS), i ≤ bs.length + 1 → bs.length - i ≤ n → rulesC bs i rs = foldS bs rs (starts bs i) := by
 induction n with
 | zero =>
  intro i rs hi hn
  rw [rulesC_end (by omega) hi, starts_end (by omega)]
  rfl
 | succ n ih =>
  intro i rs hi hn
  have hl := lineAt_len bs i
  rcases Nat.lt_or_ge i bs.length with h | h
  ·rw [starts_go h]
   unfold foldS stepS
   by_cases h2 : lineAt bs i = [] ∨ byteAt bs i = 35
   ·rw [rulesC_pass h h2, if_pos h2]
    exact ih _ _ (by omega) (by omega)
   ·rw [if_neg h2]
    cases h3 : lineS rs (lineAt bs i) with
    | error e => obtain ⟨k, q⟩ := e; rw [rulesC_bad h h2 h3]
    | ok r => rw [rulesC_ok h h2 h3]; exact ih _ _ (by omega) (by omega)
  ·rw [rulesC_end h hi, starts_end h]
   rfl
theorem rulesS_fold {bs : List Nat} (h : bs.length ≤ 65536) : rulesS bs = foldS bs [] (starts bs 0) := (rulesS_go h).trans (rulesC_fold bs _ 0 [] (by omega) (Nat.le_refl _))
end Go.Proofs.YtfekpkelmliejaaGreatDoor
