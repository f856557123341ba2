/-
  How many bits of a number of 64 bits are set: the sum in parallel, byte by byte. No program in sight.
-/
import Derived.Test.YtgbpcigfbpghgaaQZ01
namespace Go.Proofs.Ytgbpcigfbpghgaa
set_option linter.unusedSimpArgs false
set_option linter.unusedVariables false

theorem testBit_split (a b j : Nat) (ha : a < 256) : (a + 256 * b).testBit j = if j < 8 then a.testBit j else b.testBit (j - 8) := by
  rw [Nat.add_comm, show (256 : Nat) = 2 ^ 8 from rfl]
  exact Nat.testBit_two_pow_mul_add b ha j

theorem land_split (x m n : Nat) (hm : m < 256) : x &&& (m + 256 * n) = ((x % 256) &&& m) + 256 * ((x / 256) &&& n) := by
  apply Nat.eq_of_testBit_eq
  intro j
  have h1 : (x % 256) &&& m < 256 := Nat.and_lt_two_pow (n := 8) _ hm
  rw [testBit_split _ _ _ h1, Nat.testBit_and, testBit_split _ _ _ hm]
  by_cases hj : j < 8
  · rw [if_pos hj, if_pos hj, Nat.testBit_and, show (256 : Nat) = 2 ^ 8 from rfl, Nat.testBit_mod_two_pow]
    simp [hj]
  · rw [if_neg hj, if_neg hj, Nat.testBit_and, show (256 : Nat) = 2 ^ 8 from rfl, Nat.testBit_div_two_pow]
    congr 2
    omega

def mask (m : Nat) : Nat → Nat
  | 0 => 0
  | n + 1 => m + 256 * mask m n

def s1 (n x : Nat) : Nat := ((x / 2) &&& mask 0x55 n) + (x &&& mask 0x55 n)
def s2 (n x : Nat) : Nat := ((x / 4) &&& mask 0x33 n) + (x &&& mask 0x33 n)
def s3 (n x : Nat) : Nat := (x / 16 + x) &&& mask 0x0f n
def f1 (b : Nat) : Nat := ((b / 2) &&& 0x55) + (b &&& 0x55)
def f2 (b : Nat) : Nat := ((b / 4) &&& 0x33) + (b &&& 0x33)
def f3 (b : Nat) : Nat := (b / 16 + b) &&& 0x0f

theorem cross1 : ∀ y : Fin 512, (y.val / 2) &&& 0x55 = (y.val % 256 / 2) &&& 0x55 := by decide +kernel
theorem cross2 : ∀ y : Fin 1024, (y.val / 4) &&& 0x33 = (y.val % 256 / 4) &&& 0x33 := by decide +kernel

theorem s1_step (n x : Nat) : s1 (n + 1) x = f1 (x % 256) + 256 * s1 n (x / 256) := by
  unfold s1 f1
  rw [show mask 0x55 (n + 1) = 0x55 + 256 * mask 0x55 n from rfl, land_split _ _ _ (by decide), land_split _ _ _ (by decide)]
  have h := cross1 ⟨x % 512, Nat.mod_lt _ (by decide)⟩
  dsimp only at h
  rw [show x / 2 % 256 = x % 512 / 2 by omega, h, show x % 512 % 256 = x % 256 by omega, show x / 2 / 256 = x / 256 / 2 by omega]
  omega
theorem s2_step (n x : Nat) : s2 (n + 1) x = f2 (x % 256) + 256 * s2 n (x / 256) := by
  unfold s2 f2
  rw [show mask 0x33 (n + 1) = 0x33 + 256 * mask 0x33 n from rfl, land_split _ _ _ (by decide), land_split _ _ _ (by decide)]
  have h := cross2 ⟨x % 1024, Nat.mod_lt _ (by decide)⟩
  dsimp only at h
  rw [show x / 4 % 256 = x % 1024 / 4 by omega, h, show x % 1024 % 256 = x % 256 by omega, show x / 4 / 256 = x / 256 / 4 by omega]
  omega
theorem cross3 : ∀ y : Fin 69, ∀ t : Fin 5, (y.val / 16 + y.val + 16 * t.val) &&& 0x0f = (y.val / 16 + y.val) &&& 0x0f := by decide +kernel
theorem s3_step (n x : Nat) (h1 : x % 256 < 69) (h2 : x / 256 % 16 < 5) : s3 (n + 1) x = f3 (x % 256) + 256 * s3 n (x / 256) := by
  unfold s3 f3
  rw [show mask 0x0f (n + 1) = 0x0f + 256 * mask 0x0f n from rfl, land_split _ _ _ (by decide)]
  have h := cross3 ⟨x % 256, h1⟩ ⟨x / 256 % 16, h2⟩
  dsimp only at h
  rw [show (x / 16 + x) % 256 = x % 256 / 16 + x % 256 + 16 * (x / 256 % 16) by omega, h, show (x / 16 + x) / 256 = x / 256 / 16 + x / 256 by omega]

theorem f1_lt : ∀ b : Fin 256, f1 b.val < 256 := by decide +kernel
theorem f2f1_lt : ∀ b : Fin 256, f2 (f1 b.val) < 69 ∧ f2 (f1 b.val) % 16 < 5 := by decide +kernel
/-- How many bits of a byte are set. -/
def pop (b : Nat) : Nat := f3 (f2 (f1 b))
theorem pop_le : ∀ b : Fin 256, pop b.val ≤ 8 := by decide +kernel

/-- The three steps together: the bytes' counts side by side. -/
def cnts : Nat → Nat → Nat
  | 0, _ => 0
  | n + 1, x => pop (x % 256) + 256 * cnts n (x / 256)

theorem s123 : ∀ (n x : Nat), s3 n (s2 n (s1 n x)) = cnts n x ∧ (0 < n → s2 n (s1 n x) % 16 < 5)
  | 0, x => by simp [s3, s2, s1, mask, cnts]
  | n + 1, x => by
    obtain ⟨ih, ihn⟩ := s123 n (x / 256)
    have hb : x % 256 < 256 := Nat.mod_lt _ (by decide)
    have a1 := f1_lt ⟨x % 256, hb⟩
    have a2 := f2f1_lt ⟨x % 256, hb⟩
    dsimp only at a1 a2
    have e2 : s2 (n + 1) (s1 (n + 1) x) = f2 (f1 (x % 256)) + 256 * s2 n (s1 n (x / 256)) := by
      rw [s2_step, s1_step, show (f1 (x % 256) + 256 * s1 n (x / 256)) % 256 = f1 (x % 256) by omega, show (f1 (x % 256) + 256 * s1 n (x / 256)) / 256 = s1 n (x / 256) by omega]
    refine ⟨?_, fun _ => by rw [e2]; omega⟩
    have hz : s2 n (s1 n (x / 256)) % 16 < 5 := by
      rcases Nat.eq_zero_or_pos n with h0 | h0
      · subst h0; simp [s2, s1, mask]
      · exact ihn h0
    rw [e2, s3_step _ _ (by omega) (by rw [show (f2 (f1 (x % 256)) + 256 * s2 n (s1 n (x / 256))) / 256 = s2 n (s1 n (x / 256)) by omega]; exact hz),
      show (f2 (f1 (x % 256)) + 256 * s2 n (s1 n (x / 256))) % 256 = f2 (f1 (x % 256)) by omega, show (f2 (f1 (x % 256)) + 256 * s2 n (s1 n (x / 256))) / 256 = s2 n (s1 n (x / 256)) by omega, ih]
    rfl

/-- How many of the first n say yes. -/
def cnt (p : Nat → Bool) : Nat → Nat
  | 0 => 0
  | n + 1 => cnt p n + (p n).toNat
theorem cnt_le (p : Nat → Bool) : ∀ n, cnt p n ≤ n
  | 0 => Nat.le_refl _
  | n + 1 => by have := cnt_le p n; have : (p n).toNat ≤ 1 := by cases p n <;> decide
                unfold cnt; omega
theorem cnt_congr {p q : Nat → Bool} : ∀ n, (∀ k, k < n → p k = q k) → cnt p n = cnt q n
  | 0, _ => rfl
  | n + 1, h => by unfold cnt; rw [cnt_congr n (fun k hk => h k (by omega)), h n (by omega)]
theorem cnt_add (p : Nat → Bool) (m : Nat) : ∀ n, cnt p (m + n) = cnt p m + cnt (fun k => p (m + k)) n
  | 0 => by simp [cnt]
  | n + 1 => by rw [← Nat.add_assoc]; show cnt p (m + n) + (p (m + n)).toNat = cnt p m + (cnt (fun k => p (m + k)) n + (p (m + n)).toNat); rw [cnt_add p m n]; omega
theorem pop_cnt : ∀ b : Fin 256, pop b.val = cnt b.val.testBit 8 := by decide +kernel

/-- The sum of the counts of n bytes. -/
def sums : Nat → Nat → Nat
  | 0, _ => 0
  | n + 1, x => pop (x % 256) + sums n (x / 256)
theorem sums_cnt : ∀ (n x : Nat), sums n x = cnt x.testBit (8 * n)
  | 0, x => rfl
  | n + 1, x => by
    unfold sums
    rw [sums_cnt n, pop_cnt ⟨x % 256, Nat.mod_lt _ (by decide)⟩, show 8 * (n + 1) = 8 + 8 * n by omega, cnt_add]
    dsimp only
    congr 1
    · apply cnt_congr
      intro k hk
      rw [show (256 : Nat) = 2 ^ 8 from rfl, Nat.testBit_mod_two_pow]
      simp [hk]
    · apply cnt_congr
      intro k _
      rw [show (256 : Nat) = 2 ^ 8 from rfl, Nat.testBit_div_two_pow, Nat.add_comm]

/-- The last three steps: the bytes' counts summed up in the lowest byte. -/
def fold3 (z : Nat) : Nat := let u := z + z / 256; let v := u + u / 65536; (v + v / 4294967296) % 128
theorem d1 {a b : Nat} (h : a < 256) : (a + 256 * b) / 256 = b := by omega
theorem m1 (a b : Nat) : (a + 256 * b) % 128 = a % 128 := by omega
theorem a1 (a b c d : Nat) : (a + 256 * b) + (c + 256 * d) = (a + c) + 256 * (b + d) := by omega
theorem a0 (a b c : Nat) : (a + 256 * b) + c = (a + c) + 256 * b := by omega
theorem fold3_eq (c0 c1 c2 c3 c4 c5 c6 c7 : Nat) (h0 : c0 ≤ 8) (h1 : c1 ≤ 8) (h2 : c2 ≤ 8) (h3 : c3 ≤ 8) (h4 : c4 ≤ 8) (h5 : c5 ≤ 8) (h6 : c6 ≤ 8) (h7 : c7 ≤ 8) :
    fold3 (c0 + 256 * (c1 + 256 * (c2 + 256 * (c3 + 256 * (c4 + 256 * (c5 + 256 * (c6 + 256 * c7))))))) = c0 + c1 + (c2 + c3) + (c4 + c5 + (c6 + c7)) := by
  unfold fold3
  dsimp only
  rw [d1 (show c0 < 256 by omega)]
  have e2 : c0 + 256 * (c1 + 256 * (c2 + 256 * (c3 + 256 * (c4 + 256 * (c5 + 256 * (c6 + 256 * c7)))))) + (c1 + 256 * (c2 + 256 * (c3 + 256 * (c4 + 256 * (c5 + 256 * (c6 + 256 * c7)))))) =
      (c0 + c1) + 256 * ((c1 + c2) + 256 * ((c2 + c3) + 256 * ((c3 + c4) + 256 * ((c4 + c5) + 256 * ((c5 + c6) + 256 * ((c6 + c7) + 256 * c7)))))) := by
    simp only [Nat.mul_add]; clear h0 h1 h2 h3 h4 h5 h6 h7; omega
  rw [e2, show (65536 : Nat) = 256 * 256 from rfl, ← Nat.div_div_eq_div_mul, d1 (show c0 + c1 < 256 by omega), d1 (show c1 + c2 < 256 by omega)]
  have e3 : (c0 + c1) + 256 * ((c1 + c2) + 256 * ((c2 + c3) + 256 * ((c3 + c4) + 256 * ((c4 + c5) + 256 * ((c5 + c6) + 256 * ((c6 + c7) + 256 * c7)))))) + ((c2 + c3) + 256 * ((c3 + c4) + 256 * ((c4 + c5) + 256 * ((c5 + c6) + 256 * ((c6 + c7) + 256 * c7))))) =
      (c0 + c1 + (c2 + c3)) + 256 * ((c1 + c2 + (c3 + c4)) + 256 * ((c2 + c3 + (c4 + c5)) + 256 * ((c3 + c4 + (c5 + c6)) + 256 * ((c4 + c5 + (c6 + c7)) + 256 * ((c5 + c6 + c7) + 256 * ((c6 + c7) + 256 * c7)))))) := by
    simp only [Nat.mul_add]; clear h0 h1 h2 h3 h4 h5 h6 h7; omega
  rw [e3, show (4294967296 : Nat) = 256 * 256 * 256 * 256 from rfl, ← Nat.div_div_eq_div_mul, ← Nat.div_div_eq_div_mul, ← Nat.div_div_eq_div_mul,
    d1 (show c0 + c1 + (c2 + c3) < 256 by omega), d1 (show c1 + c2 + (c3 + c4) < 256 by omega), d1 (show c2 + c3 + (c4 + c5) < 256 by omega), d1 (show c3 + c4 + (c5 + c6) < 256 by omega)]
  rw [a1, m1]
  omega
theorem fold3_cnts (x : Nat) : fold3 (cnts 8 x) = sums 8 x := by
  have h : ∀ y, pop (y % 256) ≤ 8 := fun y => pop_le ⟨y % 256, Nat.mod_lt _ (by decide)⟩
  have e := fold3_eq _ _ _ _ _ _ _ _ (h x) (h (x / 256)) (h (x / 256 / 256)) (h (x / 256 / 256 / 256)) (h (x / 256 / 256 / 256 / 256)) (h (x / 256 / 256 / 256 / 256 / 256)) (h (x / 256 / 256 / 256 / 256 / 256 / 256)) (h (x / 256 / 256 / 256 / 256 / 256 / 256 / 256))
  simp only [cnts, sums, Nat.mul_zero, Nat.add_zero]
  rw [e]
  simp only [Nat.add_assoc]

end Go.Proofs.Ytgbpcigfbpghgaa
