/-
  Plain facts on sets of bytes as four words of 64 bits: a predicate on bytes and its words. No program in sight.
-/
namespace Go.Proofs.Ytkelkadalikibaa
set_option linter.unusedSimpArgs false
set_option linter.unusedVariables false

/-- The number whose bit j is p j, for j below n. -/
def ofBits (p : Nat → Bool) : Nat → Nat
  | 0 => 0
  | n + 1 => ofBits p n + (if p n then 2 ^ n else 0)

theorem ofBits_lt (p : Nat → Bool) : ∀ n, ofBits p n < 2 ^ n
  | 0 => by simp [ofBits]
  | n + 1 => by
    have h := ofBits_lt p n
    unfold ofBits
    rw [Nat.pow_succ]
    split <;> omega

theorem testBit_ofBits (p : Nat → Bool) : ∀ n j, (ofBits p n).testBit j = (decide (j < n) && p j)
  | 0, j => by simp [ofBits]
  | n + 1, j => by
    have ih := testBit_ofBits p n j
    have hl := ofBits_lt p n
    unfold ofBits
    cases hp : p n
    · simp only [Bool.false_eq_true, if_false, Nat.add_zero, ih]
      by_cases e : j = n
      · subst e; simp [hp]
      · have e2 : decide (j < n + 1) = decide (j < n) := by
          by_cases h2 : j < n
          · rw [decide_eq_true h2, decide_eq_true (by omega)]
          · rw [decide_eq_false h2, decide_eq_false (by omega)]
        rw [e2]
    · simp only [if_true]
      by_cases e : j = n
      · subst e
        rw [Nat.add_comm, Nat.testBit_two_pow_add_eq]
        simp [Nat.testBit_lt_two_pow hl, hp]
      · by_cases h2 : j < n
        · rw [Nat.add_comm, Nat.testBit_two_pow_add_gt h2, ih, decide_eq_true h2, decide_eq_true (by omega)]
        · have h3 : ofBits p n + 2 ^ n < 2 ^ j := by
            have : 2 ^ (n + 1) ≤ 2 ^ j := Nat.pow_le_pow_right (by decide) (by omega)
            rw [Nat.pow_succ] at this
            omega
          rw [Nat.testBit_lt_two_pow h3, decide_eq_false (by omega)]
          simp

theorem eq_ofBits {x n : Nat} (h : x < 2 ^ n) : x = ofBits x.testBit n := by
  apply Nat.eq_of_testBit_eq
  intro j
  rw [testBit_ofBits]
  by_cases hj : j < n
  · simp [hj]
  · have : x < 2 ^ j := Nat.lt_of_lt_of_le h (Nat.pow_le_pow_right (by decide) (by omega))
    rw [Nat.testBit_lt_two_pow this]
    simp [hj]

theorem ofBits_congr {p q : Nat → Bool} : ∀ n, (∀ j, j < n → p j = q j) → ofBits p n = ofBits q n
  | 0, _ => rfl
  | n + 1, h => by
    unfold ofBits
    rw [ofBits_congr n (fun j hj => h j (by omega)), h n (by omega)]

/-- Word i of the set of the bytes that p says. -/
def word (p : Nat → Bool) (i : Nat) : Nat := ofBits (fun j => p (64 * i + j)) 64

theorem word_lt (p : Nat → Bool) (i : Nat) : word p i < 18446744073709551616 := ofBits_lt _ 64
theorem testBit_word (p : Nat → Bool) (i j : Nat) : (word p i).testBit j = (decide (j < 64) && p (64 * i + j)) := testBit_ofBits _ 64 j
theorem word_congr {p q : Nat → Bool} {i : Nat} (h : ∀ j, j < 64 → p (64 * i + j) = q (64 * i + j)) : word p i = word q i := ofBits_congr 64 h

/-- Four words that are known are those of the set of their own bits. -/
def bitsOf (a b c d : Nat) (k : Nat) : Bool := if k < 64 then a.testBit k else if k < 128 then b.testBit (k - 64) else if k < 192 then c.testBit (k - 128) else d.testBit (k - 192)
theorem word_bitsOf {a b c d : Nat} (ha : a < 18446744073709551616) (hb : b < 18446744073709551616) (hc : c < 18446744073709551616) (hd : d < 18446744073709551616) :
    word (bitsOf a b c d) 0 = a ∧ word (bitsOf a b c d) 1 = b ∧ word (bitsOf a b c d) 2 = c ∧ word (bitsOf a b c d) 3 = d := by
  refine ⟨?_, ?_, ?_, ?_⟩
  · conv => rhs; rw [eq_ofBits (n := 64) ha]
    exact ofBits_congr 64 fun j hj => by simp [bitsOf, hj]
  · conv => rhs; rw [eq_ofBits (n := 64) hb]
    exact ofBits_congr 64 fun j hj => by
      unfold bitsOf
      rw [if_neg (by omega), if_pos (by omega), show 64 * 1 + j - 64 = j by omega]
  · conv => rhs; rw [eq_ofBits (n := 64) hc]
    exact ofBits_congr 64 fun j hj => by
      unfold bitsOf
      rw [if_neg (by omega), if_neg (by omega), if_pos (by omega), show 64 * 2 + j - 128 = j by omega]
  · conv => rhs; rw [eq_ofBits (n := 64) hd]
    exact ofBits_congr 64 fun j hj => by
      unfold bitsOf
      rw [if_neg (by omega), if_neg (by omega), if_neg (by omega), show 64 * 3 + j - 192 = j by omega]

/-- Two words are the same if their bits below 64 are. -/
theorem word_eq_of {p : Nat → Bool} {i x : Nat} (hx : x < 18446744073709551616) (h : ∀ j, j < 64 → x.testBit j = p (64 * i + j)) : x = word p i := by
  rw [eq_ofBits (n := 64) hx]
  exact ofBits_congr 64 h

theorem word_or (p q : Nat → Bool) (i : Nat) : word p i ||| word q i = word (fun c => p c || q c) i := by
  apply word_eq_of (Nat.or_lt_two_pow (n := 64) (word_lt p i) (word_lt q i))
  intro j hj
  simp [Nat.testBit_or, testBit_word, hj]
theorem word_and (p q : Nat → Bool) (i : Nat) : word p i &&& word q i = word (fun c => p c && q c) i := by
  apply word_eq_of (Nat.and_lt_two_pow (n := 64) _ (word_lt q i))
  intro j hj
  simp [Nat.testBit_and, testBit_word, hj]
theorem all64 (j : Nat) (hj : j < 64) : (18446744073709551615 : Nat).testBit j = true := by
  rw [show (18446744073709551615 : Nat) = 2 ^ 64 - 1 from rfl, Nat.testBit_two_pow_sub_one]
  simp [hj]
theorem xor_all (p : Nat → Bool) (i : Nat) : 18446744073709551615 ^^^ word p i = word (fun c => !p c) i := by
  apply word_eq_of (Nat.xor_lt_two_pow (n := 64) (by decide) (word_lt p i))
  intro j hj
  simp [Nat.testBit_xor, testBit_word, hj, all64 j hj]
theorem word_not (p : Nat → Bool) (i : Nat) : 18446744073709551615 - word p i = word (fun c => !p c) i := by
  have h := word_lt p i
  apply word_eq_of (by omega)
  intro j hj
  rw [show (18446744073709551615 : Nat) - word p i = 2 ^ 64 - (word p i + 1) by omega, Nat.testBit_two_pow_sub_succ h]
  simp [testBit_word, hj]
theorem word_none (i : Nat) : word (fun _ => false) i = 0 := by
  symm
  exact word_eq_of (by decide) (fun j _ => by simp)
theorem word_all (i : Nat) : word (fun _ => true) i = 18446744073709551615 := by
  symm
  exact word_eq_of (by decide) (fun j hj => by rw [all64 j hj])

/-- One bit of a word. -/
theorem word_bit (p : Nat → Bool) (c : Nat) : word p (c / 64) / 2 ^ (c % 64) % 2 = (p c).toNat := by
  have h := testBit_word p (c / 64) (c % 64)
  rw [Nat.testBit_eq_decide_div_mod_eq, decide_eq_true (Nat.mod_lt _ (by decide)), Nat.div_add_mod] at h
  cases hp : p c <;> rw [hp] at h <;> simp at h <;> simp <;> omega

/-- A set with one byte more. -/
def withB (p : Nat → Bool) (c : Nat) (k : Nat) : Bool := p k || k == c
theorem word_with (p : Nat → Bool) (c : Nat) : word p (c / 64) ||| 2 ^ (c % 64) = word (withB p c) (c / 64) := by
  have h64 : (2 : Nat) ^ (c % 64) < 2 ^ 64 := Nat.pow_lt_pow_right (by decide) (Nat.mod_lt _ (by decide))
  apply word_eq_of (Nat.or_lt_two_pow (n := 64) (word_lt p _) h64)
  intro j hj
  rw [Nat.testBit_or, testBit_word, decide_eq_true hj, Nat.testBit_two_pow]
  unfold withB
  simp only [Bool.true_and]
  congr 1
  rw [Bool.eq_iff_iff]
  simp only [decide_eq_true_eq, beq_iff_eq]
  exact ⟨fun h => by omega, fun h => by omega⟩
theorem word_with_other (p : Nat → Bool) (c i : Nat) (h : i ≠ c / 64) : word (withB p c) i = word p i := by
  apply word_congr
  intro j hj
  unfold withB
  have : ¬ 64 * i + j = c := by omega
  simp [this]

/-- The bytes of p that are below n. -/
def upto (p : Nat → Bool) (n : Nat) (k : Nat) : Bool := p k && decide (k < n)
theorem upto_zero (p : Nat → Bool) : upto p 0 = fun _ => false := by funext k; simp [upto]
theorem upto_yes {p : Nat → Bool} {n : Nat} (h : p n = true) : upto p (n + 1) = withB (upto p n) n := by
  funext k
  unfold upto withB
  by_cases e : k = n
  · subst e; simp [h]
  · by_cases h2 : k < n
    · simp [h2, e, show k < n + 1 by omega]
    · simp [h2, e, show ¬ k < n + 1 by omega]
theorem upto_no {p : Nat → Bool} {n : Nat} (h : p n = false) : upto p (n + 1) = upto p n := by
  funext k
  unfold upto
  by_cases e : k = n
  · subst e; simp [h]
  · by_cases h2 : k < n
    · simp [h2, show k < n + 1 by omega]
    · simp [h2, show ¬ k < n + 1 by omega]
theorem word_upto (p : Nat → Bool) (i : Nat) (h : i < 4) : word (upto p 256) i = word p i := by
  apply word_congr
  intro j hj
  unfold upto
  rw [decide_eq_true (by omega), Bool.and_true]

/-- The bytes from lo to hi. -/
def between (lo hi : Nat) (k : Nat) : Bool := decide (lo ≤ k) && decide (k ≤ hi)

theorem testBit_below {n : Nat} (j : Nat) : (2 ^ n - 1).testBit j = decide (j < n) := Nat.testBit_two_pow_sub_one n j

/-- The program's word of a span: below(to) without below(from). -/
theorem word_between (lo hi i : Nat) (f t : Nat) (hf : f = lo - 64 * i) (ht : t = min (hi + 1 - 64 * i) 64) (hlt : f < t) :
    (2 ^ t - 1) &&& (18446744073709551615 - (2 ^ f - 1)) = word (between lo hi) i := by
  have ht64 : t ≤ 64 := by omega
  have h1 : 2 ^ t ≤ 2 ^ 64 := Nat.pow_le_pow_right (by decide) ht64
  have h2 : 2 ^ f ≤ 2 ^ 64 := Nat.pow_le_pow_right (by decide) (by omega)
  have h3 : 0 < 2 ^ f := Nat.two_pow_pos f
  apply word_eq_of
  · have := Nat.and_le_left (n := 2 ^ t - 1) (m := 18446744073709551615 - (2 ^ f - 1)); have : (2:Nat) ^ 64 = 18446744073709551616 := rfl; omega
  intro j hj
  rw [Nat.testBit_and, testBit_below, show 18446744073709551615 - (2 ^ f - 1) = 2 ^ 64 - ((2 ^ f - 1) + 1) by have : (2:Nat) ^ 64 = 18446744073709551616 := rfl; omega,
    Nat.testBit_two_pow_sub_succ (by omega), Nat.testBit_two_pow_sub_one, decide_eq_true hj]
  unfold between
  rw [Bool.eq_iff_iff]
  simp only [Bool.and_eq_true, decide_eq_true_eq, Bool.true_and, Bool.not_eq_true', decide_eq_false_iff_not]
  exact ⟨fun ⟨a, b⟩ => by omega, fun ⟨a, b⟩ => by omega⟩
theorem word_between_none (lo hi i : Nat) (h : ¬ lo - 64 * i < min (hi + 1 - 64 * i) 64) : word (between lo hi) i = 0 := by
  symm
  apply word_eq_of (by decide)
  intro j hj
  unfold between
  rw [Nat.zero_testBit, ← Bool.decide_and]
  symm
  exact decide_eq_false (fun ⟨a, b⟩ => h (by omega))

/-- The words of p below k; 0 from k on. -/
def part (p : Nat → Bool) (k : Int) (j : Nat) : Nat := if (j : Int) < k then word p j else 0
theorem part_lt {p : Nat → Bool} {k : Int} {j : Nat} (h : (j : Int) < k) : part p k j = word p j := if_pos h
theorem part_ge {p : Nat → Bool} {k : Int} {j : Nat} (h : k ≤ (j : Int)) : part p k j = 0 := if_neg (by omega)
theorem part_other {p : Nat → Bool} {k : Int} {j : Nat} (h : (j : Int) ≠ k) : part p (k + 1) j = part p k j := by
  unfold part
  by_cases h1 : (j : Int) < k
  · rw [if_pos h1, if_pos (by omega)]
  · rw [if_neg h1, if_neg (by omega)]

end Go.Proofs.Ytkelkadalikibaa
