/-
  The members of a set in order; the lowest bit of a word, and the word without it. No program in sight.
-/
import Derived.Test.YtkelkadalikibaaDoorBits
import Derived.Lib.TrailingZeros
namespace Go.Proofs.YtkelkadalikibaaDoor
set_option linter.unusedSimpArgs false
set_option linter.unusedVariables false

/-- The members below m, in order. -/
def elems (p : Nat → Bool) (m : Nat) : List Nat := (List.range m).filter p
theorem elems_succ (p : Nat → Bool) (m : Nat) : elems p (m + 1) = elems p m ++ (if p m then [m] else []) := by
  unfold elems
  rw [List.range_succ, List.filter_append]
  by_cases h : p m <;> simp [h]
theorem elems_skip (p : Nat → Bool) (m : Nat) : ∀ d, (∀ c, m ≤ c → c < m + d → p c = false) → elems p (m + d) = elems p m
  | 0, _ => rfl
  | d + 1, h => by rw [← Nat.add_assoc, elems_succ, elems_skip p m d (fun c h1 h2 => h c h1 (by omega)), h (m + d) (by omega) (by omega)]; simp
theorem elems_skip' (p : Nat → Bool) {m m' : Nat} (hm : m ≤ m') (h : ∀ c, m ≤ c → c < m' → p c = false) : elems p m' = elems p m := by
  obtain ⟨d, rfl⟩ : ∃ d, m' = m + d := ⟨m' - m, by omega⟩
  exact elems_skip p m d h
theorem elems_len (p : Nat → Bool) (m : Nat) : (elems p m).length ≤ m := by
  unfold elems; exact Nat.le_trans (List.length_filter_le _ _) (by simp)
theorem elems_lt {p : Nat → Bool} {m c : Nat} (h : c ∈ elems p m) : c < m := by
  unfold elems at h; simp at h; exact h.1

theorem low_bits (x : Nat) (hx : x < 2 ^ 64) (h0 : x ≠ 0) : Lib.ctz 64 x < 64 ∧ x.testBit (Lib.ctz 64 x) = true ∧ (∀ j, j < Lib.ctz 64 x → x.testBit j = false) ∧
    ∀ j, (x &&& (x - 1)).testBit j = (x.testBit j && decide (Lib.ctz 64 x < j)) := by
  unfold Lib.ctz
  rw [if_neg h0]
  obtain ⟨m, hm, hk⟩ := Lib.ctzFrom_spec 64 x (by omega) hx
  generalize Lib.ctzFrom 64 x = k at *
  have e1 : ∀ j, x.testBit j = if j < k then false else (2 * m + 1).testBit (j - k) := by
    intro j
    rw [hm]
    have h := Nat.testBit_two_pow_mul_add (2 * m + 1) (b := 0) (i := k) (Nat.two_pow_pos k) j
    rw [Nat.add_zero] at h
    rw [h, Nat.zero_testBit]
  have e2 : ∀ j, (x - 1).testBit j = if j < k then true else (2 * m).testBit (j - k) := by
    intro j
    have hp := Nat.two_pow_pos k
    have e : x - 1 = 2 ^ k * (2 * m) + (2 ^ k - 1) := by rw [hm, Nat.mul_add, Nat.mul_one]; omega
    rw [e, Nat.testBit_two_pow_mul_add (2 * m) (by omega) j]
    by_cases hj : j < k
    · rw [if_pos hj, if_pos hj, Nat.testBit_two_pow_sub_one]; simp [hj]
    · rw [if_neg hj, if_neg hj]
  refine ⟨hk, ?_, ?_, ?_⟩
  · rw [e1, if_neg (Nat.lt_irrefl k), Nat.sub_self, Nat.testBit_zero]; simp
  · intro j hj; rw [e1, if_pos hj]
  · intro j
    rw [Nat.testBit_and, e1, e2]
    by_cases hj : j < k
    · simp [hj]
    · rw [if_neg hj, if_neg hj]
      by_cases he : j = k
      · subst he; simp
      · obtain ⟨d, rfl⟩ : ∃ d, j = k + (d + 1) := ⟨j - k - 1, by omega⟩
        have e3 : k + (d + 1) - k = d + 1 := by omega
        rw [e3, Nat.testBit_succ, Nat.testBit_succ, show (2 * m + 1) / 2 = m by omega, show 2 * m / 2 = m by omega]
        simp

/-- The lowest member in a word that is not 0. -/
theorem word_low (q : Nat → Bool) (i : Nat) (h0 : word q i ≠ 0) : Lib.ctz 64 (word q i) < 64 ∧ q (64 * i + Lib.ctz 64 (word q i)) = true ∧
    (∀ j, j < Lib.ctz 64 (word q i) → q (64 * i + j) = false) ∧
    word q i &&& (word q i - 1) = word (fun c => q c && decide (64 * i + Lib.ctz 64 (word q i) + 1 ≤ c)) i ∧
    word q i &&& (word q i - 1) < word q i := by
  have hx := word_lt q i
  obtain ⟨h1, h2, h3, h4⟩ := low_bits (word q i) hx h0
  refine ⟨h1, ?_, ?_, ?_, ?_⟩
  · rw [testBit_word] at h2; simp at h2; exact h2.2
  · intro j hj
    have h := h3 j hj
    rw [testBit_word] at h
    have : j < 64 := by omega
    simpa [this] using h
  · apply Nat.eq_of_testBit_eq
    intro j
    rw [h4, testBit_word, testBit_word, Bool.and_assoc]
    congr 2
    rw [decide_eq_decide]
    omega
  · have : word q i &&& (word q i - 1) ≤ word q i - 1 := Nat.and_le_right
    omega
theorem word_zero (q : Nat → Bool) (i : Nat) (h0 : word q i = 0) : ∀ j, j < 64 → q (64 * i + j) = false := by
  intro j hj
  have h := testBit_word q i j
  rw [h0, Nat.zero_testBit] at h
  simpa [hj] using h.symm

/-- From the members below m to the members below the next one and that one. -/
theorem elems_next (p : Nat → Bool) (i m : Nat) (hm : m ≤ 64 * i + 64) (hm1 : 64 * i ≤ m) (h0 : word (fun c => p c && decide (m ≤ c)) i ≠ 0) :
    let k := Lib.ctz 64 (word (fun c => p c && decide (m ≤ c)) i)
    k < 64 ∧ m ≤ 64 * i + k ∧ elems p (64 * i + k + 1) = elems p m ++ [64 * i + k] ∧
    word (fun c => p c && decide (m ≤ c)) i &&& (word (fun c => p c && decide (m ≤ c)) i - 1) = word (fun c => p c && decide (64 * i + k + 1 ≤ c)) i ∧
    word (fun c => p c && decide (64 * i + k + 1 ≤ c)) i < word (fun c => p c && decide (m ≤ c)) i := by
  intro k
  obtain ⟨h1, h2, h3, h4, h5⟩ := word_low _ i h0
  change k < 64 at h1
  change (p (64 * i + k) && decide (m ≤ 64 * i + k)) = true at h2
  change ∀ j, j < k → (p (64 * i + j) && decide (m ≤ 64 * i + j)) = false at h3
  simp at h2
  have e : word (fun c => p c && decide (m ≤ c)) i &&& (word (fun c => p c && decide (m ≤ c)) i - 1) = word (fun c => p c && decide (64 * i + k + 1 ≤ c)) i := by
    rw [h4]
    apply congrArg (fun f => word f i)
    funext c
    by_cases hc : 64 * i + k + 1 ≤ c
    · have : m ≤ c := by omega
      have hc' : 64 * i + Lib.ctz 64 (word (fun c => p c && decide (m ≤ c)) i) + 1 ≤ c := hc
      simp [this, hc, hc']
    · simp only [hc, decide_false, Bool.and_false]
      have : ¬ (64 * i + Lib.ctz 64 (word (fun c => p c && decide (m ≤ c)) i) + 1 ≤ c) := hc
      simp [this]
  refine ⟨h1, h2.2, ?_, e, e ▸ h5⟩
  rw [elems_succ, h2.1, if_pos rfl, elems_skip' p h2.2 ?_]
  intro c hc1 hc2
  have h := h3 (c - 64 * i) (by omega)
  rw [show 64 * i + (c - 64 * i) = c by omega] at h
  simpa [hc1] using h
theorem elems_end (p : Nat → Bool) (i m : Nat) (hm : m ≤ 64 * i + 64) (hm1 : 64 * i ≤ m) (h0 : word (fun c => p c && decide (m ≤ c)) i = 0) : elems p (64 * (i + 1)) = elems p m := by
  refine elems_skip' p (by omega) ?_
  intro c hc1 hc2
  have h := word_zero _ i h0 (c - 64 * i) (by omega)
  rw [show 64 * i + (c - 64 * i) = c by omega] at h
  simpa [hc1] using h
theorem word_start (p : Nat → Bool) (i : Nat) : word (fun c => p c && decide (64 * i ≤ c)) i = word p i := by
  apply Nat.eq_of_testBit_eq
  intro j
  rw [testBit_word, testBit_word]
  simp

end Go.Proofs.YtkelkadalikibaaDoor
