/-
  Plain functions on lists of bytes: what an escape, a char, an item and a class say. No program in sight.
-/
import Derived.Test.YtkelkadalikibaaBits
namespace Go.Proofs.Ytkelkadalikibaa
set_option linter.unusedSimpArgs false
set_option linter.unusedVariables false

/-- Byte i of a list; 0 behind its end. -/
def byteAt (bs : List Nat) (i : Nat) : Nat := bs.getD i 0
theorem byteAt_lt {bs : List Nat} (h : ∀ x ∈ bs, x < 256) (i : Nat) : byteAt bs i < 256 := by
  unfold byteAt
  rw [List.getD_eq_getElem?_getD]
  cases hi : bs[i]? with
  | none => simp
  | some x => simpa using h x (List.mem_of_getElem? hi)

/-- Does the byte c stand at i? -/
def hasAt (bs : List Nat) (i : Int) (c : Nat) : Bool := decide (0 ≤ i) && decide (i < (bs.length : Int)) && (byteAt bs i.toNat == c)
theorem hasAt_neg {bs : List Nat} {i : Int} (c : Nat) (h : i < 0) : hasAt bs i c = false := by simp [hasAt]; omega
theorem hasAt_out {bs : List Nat} {i : Int} (c : Nat) (h : (bs.length : Int) ≤ i) : hasAt bs i c = false := by simp [hasAt]; omega
theorem hasAt_in {bs : List Nat} {i : Nat} (c : Nat) (h : i < bs.length) : hasAt bs (i : Int) c = (byteAt bs i == c) := by simp [hasAt]; omega
theorem hasAt_yes {bs : List Nat} {i : Int} {c : Nat} (h : hasAt bs i c = true) : ∃ k : Nat, i = (k : Int) ∧ k < bs.length ∧ byteAt bs k = c := by
  simp [hasAt] at h
  obtain ⟨⟨h1, h2⟩, h3⟩ := h
  exact ⟨i.toNat, by omega, by omega, h3⟩

/-- A letter, or a digit. -/
def isWord (c : Nat) : Bool := decide (48 ≤ c) && decide (c ≤ 57) || decide (97 ≤ c) && decide (c ≤ 122) || decide (65 ≤ c) && decide (c ≤ 90)
/-- A byte that may not stand for itself in a class. -/
def isSpecial (c : Nat) : Bool := c == 10 || c == 92 || c == 91 || c == 93 || c == 94 || c == 45
/-- What a digit of sixteen says; -1: it is none. -/
def digVal (c : Nat) : Int := if 48 ≤ c ∧ c ≤ 57 then (c : Int) - 48 else if 97 ≤ c ∧ c ≤ 102 then (c : Int) - 87 else -1
theorem digVal_bd (c : Nat) : -1 ≤ digVal c ∧ digVal c ≤ 15 := by unfold digVal; split <;> (try split) <;> omega

/-- The byte that an escape at i (where a backslash stands) says, and the place behind; none: it is wrong. -/
def escS (bs : List Nat) (i : Nat) : Option (Nat × Nat) :=
  if bs.length ≤ i + 1 then none
  else if byteAt bs (i + 1) = 110 then some (10, i + 2)
  else if byteAt bs (i + 1) = 116 then some (9, i + 2)
  else if byteAt bs (i + 1) = 114 then some (13, i + 2)
  else if byteAt bs (i + 1) = 120 then
    if bs.length ≤ i + 3 then none
    else if digVal (byteAt bs (i + 2)) < 0 then none
    else if digVal (byteAt bs (i + 3)) < 0 then none
    else some ((16 * digVal (byteAt bs (i + 2)) + digVal (byteAt bs (i + 3))).toNat, i + 4)
  else if byteAt bs (i + 1) < 33 ∨ 126 < byteAt bs (i + 1) ∨ isWord (byteAt bs (i + 1)) = true then none
  else some (byteAt bs (i + 1), i + 2)

/-- What is wrong: its kind and its place. -/
abbrev Wrong := Int × Int

/-- A char at i of a class that begins at from. -/
def charS (bs : List Nat) (start i : Nat) : Except Wrong (Nat × Nat) :=
  if bs.length ≤ i then .error (13, start)
  else if byteAt bs i = 92 then (match escS bs i with | some x => .ok x | none => .error (14, i))
  else if isSpecial (byteAt bs i) = true then .error (13, i)
  else .ok (byteAt bs i, i + 1)

section
variable {bs : List Nat} {s i : Nat}
theorem charS_end (h : bs.length ≤ i) : charS bs s i = .error (13, (s : Int)) := by unfold charS; rw [if_pos h]
theorem charS_esc (h : i < bs.length) (h1 : byteAt bs i = 92) {c j : Nat} (h2 : escS bs i = some (c, j)) : charS bs s i = .ok (c, j) := by unfold charS; rw [if_neg (by omega), if_pos h1, h2]
theorem charS_bad (h : i < bs.length) (h1 : byteAt bs i = 92) (h2 : escS bs i = none) : charS bs s i = .error (14, (i : Int)) := by unfold charS; rw [if_neg (by omega), if_pos h1, h2]
theorem charS_special (h : i < bs.length) (h1 : byteAt bs i ≠ 92) (h2 : isSpecial (byteAt bs i) = true) : charS bs s i = .error (13, (i : Int)) := by unfold charS; rw [if_neg (by omega), if_neg h1, if_pos h2]
theorem charS_self (h : i < bs.length) (h1 : byteAt bs i ≠ 92) (h2 : isSpecial (byteAt bs i) = false) : charS bs s i = .ok (byteAt bs i, i + 1) := by unfold charS; rw [if_neg (by omega), if_neg h1, if_neg (by rw [h2]; decide)]
end

/-- An item at i: its first and last byte, and the place behind. -/
def itemS (bs : List Nat) (start i : Nat) : Except Wrong (Nat × Nat × Nat) :=
  match charS bs start i with
  | .error e => .error e
  | .ok (lo, j) =>
    if hasAt bs j 45 = true then
      match charS bs start (j + 1) with
      | .error e => .error e
      | .ok (hi, k) => if hi < lo then .error (15, i) else .ok (lo, hi, k)
    else .ok (lo, lo, j)

/-- The items from i on, up to the bracket behind them. -/
def itemsS (bs : List Nat) (start : Nat) : Nat → Nat → (Nat → Bool) → Except Wrong ((Nat → Bool) × Nat)
  | 0, _, _ => .error (0, 0)
  | f + 1, i, p =>
    match itemS bs start i with
    | .error e => .error e
    | .ok (lo, hi, j) =>
      if hasAt bs j 93 = true then .ok (fun c => p c || between lo hi c, j + 1)
      else itemsS bs start f j (fun c => p c || between lo hi c)

/-- All others. -/
def turnS : Except Wrong ((Nat → Bool) × Nat) → Except Wrong ((Nat → Bool) × Nat)
  | .error e => .error e
  | .ok (p, j) => .ok (fun c => !p c, j)
/-- The set of a class at a place, and the place behind. -/
def readS (bs : List Nat) (at_ : Int) : Except Wrong ((Nat → Bool) × Nat) :=
  if hasAt bs at_ 91 = true then
    if hasAt bs (at_ + 1) 94 = true then turnS (itemsS bs at_.toNat (bs.length + 1) (at_.toNat + 2) (fun _ => false))
    else itemsS bs at_.toNat (bs.length + 1) (at_.toNat + 1) (fun _ => false)
  else .error (1, 0)

section
variable {bs : List Nat} {i : Nat}
theorem escS_end (h : bs.length ≤ i + 1) : escS bs i = none := by unfold escS; rw [if_pos h]
theorem escS_n (h : i + 1 < bs.length) (h1 : byteAt bs (i + 1) = 110) : escS bs i = some (10, i + 2) := by unfold escS; rw [if_neg (by omega), if_pos h1]
theorem escS_t (h : i + 1 < bs.length) (h1 : byteAt bs (i + 1) = 116) : escS bs i = some (9, i + 2) := by unfold escS; rw [if_neg (by omega), if_neg (by omega), if_pos h1]
theorem escS_r (h : i + 1 < bs.length) (h1 : byteAt bs (i + 1) = 114) : escS bs i = some (13, i + 2) := by unfold escS; rw [if_neg (by omega), if_neg (by omega), if_neg (by omega), if_pos h1]
theorem escS_xend (h : i + 1 < bs.length) (h1 : byteAt bs (i + 1) = 120) (h2 : bs.length ≤ i + 3) : escS bs i = none := by
  unfold escS; rw [if_neg (by omega), if_neg (by omega), if_neg (by omega), if_neg (by omega), if_pos h1, if_pos h2]
theorem escS_xbad (h : i + 1 < bs.length) (h1 : byteAt bs (i + 1) = 120) (h2 : i + 3 < bs.length) (h3 : digVal (byteAt bs (i + 2)) < 0 ∨ digVal (byteAt bs (i + 3)) < 0) : escS bs i = none := by
  unfold escS; rw [if_neg (by omega), if_neg (by omega), if_neg (by omega), if_neg (by omega), if_pos h1, if_neg (by omega)]
  by_cases h4 : digVal (byteAt bs (i + 2)) < 0
  · rw [if_pos h4]
  · rw [if_neg h4, if_pos (by omega)]
theorem escS_x (h : i + 1 < bs.length) (h1 : byteAt bs (i + 1) = 120) (h2 : i + 3 < bs.length) (h3 : 0 ≤ digVal (byteAt bs (i + 2))) (h4 : 0 ≤ digVal (byteAt bs (i + 3))) :
    escS bs i = some ((16 * digVal (byteAt bs (i + 2)) + digVal (byteAt bs (i + 3))).toNat, i + 4) := by
  unfold escS; rw [if_neg (by omega), if_neg (by omega), if_neg (by omega), if_neg (by omega), if_pos h1, if_neg (by omega), if_neg (by omega), if_neg (by omega)]
theorem escS_bad (h : i + 1 < bs.length) (h1 : byteAt bs (i + 1) ≠ 110) (h2 : byteAt bs (i + 1) ≠ 116) (h3 : byteAt bs (i + 1) ≠ 114) (h4 : byteAt bs (i + 1) ≠ 120)
    (h5 : byteAt bs (i + 1) < 33 ∨ 126 < byteAt bs (i + 1) ∨ isWord (byteAt bs (i + 1)) = true) : escS bs i = none := by
  unfold escS; rw [if_neg (by omega), if_neg h1, if_neg h2, if_neg h3, if_neg h4, if_pos h5]
theorem escS_self (h : i + 1 < bs.length) (h1 : byteAt bs (i + 1) ≠ 110) (h2 : byteAt bs (i + 1) ≠ 116) (h3 : byteAt bs (i + 1) ≠ 114) (h4 : byteAt bs (i + 1) ≠ 120)
    (h5 : 33 ≤ byteAt bs (i + 1)) (h6 : byteAt bs (i + 1) ≤ 126) (h7 : isWord (byteAt bs (i + 1)) = false) : escS bs i = some (byteAt bs (i + 1), i + 2) := by
  unfold escS; rw [if_neg (by omega), if_neg h1, if_neg h2, if_neg h3, if_neg h4, if_neg (by rw [h7]; simp; omega)]
end

/-- What is to come behind an item. -/
def restS (bs : List Nat) (start f j : Nat) (p : Nat → Bool) : Except Wrong ((Nat → Bool) × Nat) := if hasAt bs (j : Int) 93 = true then .ok (p, j + 1) else itemsS bs start f j p
theorem itemsS_ok {bs : List Nat} {s f i lo hi j : Nat} {p : Nat → Bool} (h : itemS bs s i = .ok (lo, hi, j)) : itemsS bs s (f + 1) i p = restS bs s f j (fun c => p c || between lo hi c) := by
  show (match itemS bs s i with | .error e => _ | .ok (lo, hi, j) => _) = _
  rw [h]; rfl
theorem itemsS_bad {bs : List Nat} {s f i : Nat} {p : Nat → Bool} {e : Wrong} (h : itemS bs s i = .error e) : itemsS bs s (f + 1) i p = .error e := by
  show (match itemS bs s i with | .error e => _ | .ok (lo, hi, j) => _) = _
  rw [h]
theorem restS_end {bs : List Nat} {s f j : Nat} {p : Nat → Bool} (h : hasAt bs (j : Int) 93 = true) : restS bs s f j p = .ok (p, j + 1) := if_pos h
theorem restS_go {bs : List Nat} {s f j : Nat} {p : Nat → Bool} (h : hasAt bs (j : Int) 93 = false) : restS bs s f j p = itemsS bs s f j p := if_neg (by rw [h]; decide)
theorem readS_no {bs : List Nat} {i : Int} (h : hasAt bs i 91 = false) : readS bs i = .error (1, 0) := if_neg (by rw [h]; decide)
theorem readS_plain {bs : List Nat} {k : Nat} (h : hasAt bs (k : Int) 91 = true) (h2 : hasAt bs ((k : Int) + 1) 94 = false) : readS bs (k : Int) = itemsS bs k (bs.length + 1) (k + 1) (fun _ => false) := by
  unfold readS; rw [if_pos h, if_neg (by rw [h2]; decide)]; rfl
theorem readS_turned {bs : List Nat} {k : Nat} (h : hasAt bs (k : Int) 91 = true) (h2 : hasAt bs ((k : Int) + 1) 94 = true) : readS bs (k : Int) = turnS (itemsS bs k (bs.length + 1) (k + 2) (fun _ => false)) := by
  unfold readS; rw [if_pos h, if_pos h2]; rfl

theorem escS_some {bs : List Nat} (hb : ∀ x ∈ bs, x < 256) {i c j : Nat} (h : escS bs i = some (c, j)) : i < j ∧ j ≤ bs.length ∧ c < 256 := by
  have hl := byteAt_lt hb (i + 1)
  have d1 := digVal_bd (byteAt bs (i + 2))
  have d2 := digVal_bd (byteAt bs (i + 3))
  unfold escS at h
  by_cases h0 : bs.length ≤ i + 1
  · rw [if_pos h0] at h; cases h
  rw [if_neg h0] at h
  by_cases h1 : byteAt bs (i + 1) = 110
  · rw [if_pos h1] at h; simp at h; omega
  rw [if_neg h1] at h
  by_cases h2 : byteAt bs (i + 1) = 116
  · rw [if_pos h2] at h; simp at h; omega
  rw [if_neg h2] at h
  by_cases h3 : byteAt bs (i + 1) = 114
  · rw [if_pos h3] at h; simp at h; omega
  rw [if_neg h3] at h
  by_cases h4 : byteAt bs (i + 1) = 120
  · rw [if_pos h4] at h
    by_cases h5 : bs.length ≤ i + 3
    · rw [if_pos h5] at h; cases h
    rw [if_neg h5] at h
    by_cases h6 : digVal (byteAt bs (i + 2)) < 0
    · rw [if_pos h6] at h; cases h
    rw [if_neg h6] at h
    by_cases h7 : digVal (byteAt bs (i + 3)) < 0
    · rw [if_pos h7] at h; cases h
    rw [if_neg h7] at h
    simp at h; omega
  rw [if_neg h4] at h
  by_cases h5 : byteAt bs (i + 1) < 33 ∨ 126 < byteAt bs (i + 1) ∨ isWord (byteAt bs (i + 1)) = true
  · rw [if_pos h5] at h; cases h
  rw [if_neg h5] at h
  simp at h; omega

theorem charS_ok {bs : List Nat} (hb : ∀ x ∈ bs, x < 256) {s i c j : Nat} (h : charS bs s i = .ok (c, j)) : i < j ∧ j ≤ bs.length ∧ c < 256 := by
  have hl := byteAt_lt hb i
  unfold charS at h
  by_cases h0 : bs.length ≤ i
  · rw [if_pos h0] at h; cases h
  rw [if_neg h0] at h
  by_cases h1 : byteAt bs i = 92
  · rw [if_pos h1] at h
    cases he : escS bs i with
    | none => rw [he] at h; cases h
    | some x =>
      rw [he] at h
      obtain ⟨c', j'⟩ := x
      simp at h
      obtain ⟨rfl, rfl⟩ := h
      exact escS_some hb he
  rw [if_neg h1] at h
  by_cases h2 : isSpecial (byteAt bs i) = true
  · rw [if_pos h2] at h; cases h
  rw [if_neg h2] at h
  simp at h; omega

theorem itemS_ok {bs : List Nat} (hb : ∀ x ∈ bs, x < 256) {s i lo hi j : Nat} (h : itemS bs s i = .ok (lo, hi, j)) : i < j ∧ j ≤ bs.length ∧ lo < 256 ∧ hi < 256 := by
  unfold itemS at h
  cases h1 : charS bs s i with
  | error e => rw [h1] at h; cases h
  | ok x =>
    obtain ⟨lo', j'⟩ := x
    obtain ⟨a1, a2, a3⟩ := charS_ok hb h1
    rw [h1] at h
    dsimp only at h
    by_cases h2 : hasAt bs j' 45 = true
    · rw [if_pos h2] at h
      cases h3 : charS bs s (j' + 1) with
      | error e => rw [h3] at h; cases h
      | ok y =>
        obtain ⟨hi', k'⟩ := y
        obtain ⟨b1, b2, b3⟩ := charS_ok hb h3
        rw [h3] at h
        dsimp only at h
        by_cases h4 : hi' < lo'
        · rw [if_pos h4] at h; cases h
        rw [if_neg h4] at h
        simp at h
        omega
    · rw [if_neg h2] at h
      simp at h
      omega

end Go.Proofs.Ytkelkadalikibaa
