/- Texts of the claim. -/
import Derived.Below
import Derived.Laws.Rows
import Derived.Laws.NewBlocks
import Derived.Deep.Draws
import Derived.WalkKit
import Derived.Laws.AppendOwn
import Derived.Test.YtofbfafnpdaejaaGreatDoorRows
import Derived.WalkSpells
import Derived.WalkLawsBesides
import Derived.Outline
import Derived.Deep.Light
import Derived.Lib.Hide
import Derived.Deep.QuietTactic
import Derived.BigQuiet
import Derived.Laws.BytesString
import Derived.Laws.Concat
import Derived.OwnWalk
import Derived.Laws.MakeOwn
import Derived.Laws.IdiomStrings
import Derived.Deep.AppendSrc
import Derived.Maps.AppendAt
import Derived.Deep.AppendLies
import Derived.Deep.RegionLaw
import Derived.Deep.RegionHeld3
import Derived.RegionTactic
import Derived.BigRegion
import Derived.Laws.StructEq
import Derived.Shelf.Spec.TrailingZeros
import Derived.Lib.TrailingZeros
import Derived.Maps.Own
import Derived.Maps.Views
set_option linter.all false
set_option maxRecDepth 100000
set_option maxHeartbeats 8000000
namespace Go.Proofs.YtofbfafnpdaejaaGreatDoor
section
def ofBits (p : Nat → Bool) : Nat → Nat
 | 0 => 0
 | n + 1 => ofBits p n + (if p n then 2 ^ n else 0)
theorem ofBits_lt (p : Nat → Bool) : ∀ n, ofBits p n < 2 ^ n
 | 0 => by simp [ofBits]
 | n + 1 => by
  have h := ofBits_lt p n
  unfold ofBits
  rw [Nat.pow_succ]
  split <;> omega
theorem testBit_ofBits (p : Nat → Bool) : ∀ n j, (ofBits p n).testBit j = (decide (j < n) && p j)
 | 0, j => by simp [ofBits]
 | n + 1, j => by
  have ih := testBit_ofBits p n j
  have hl := ofBits_lt p n
  unfold ofBits
  cases hp : p n
  ·simp only [Bool.false_eq_true, if_false, Nat.add_zero, ih]
   by_cases e : j = n
   ·subst e; simp [hp]
   ·have e2 : decide (j < n + 1) = decide (j < n) := by
     by_cases h2 : j < n
     ·rw [decide_eq_true h2, decide_eq_true (by omega)]
     ·rw [decide_eq_false h2, decide_eq_false (by omega)]
    rw [e2]
  ·simp only [if_true]
   by_cases e : j = n
   ·subst e
    rw [Nat.add_comm, Nat.testBit_two_pow_add_eq]
    simp [Nat.testBit_lt_two_pow hl, hp]
   ·by_cases h2 : j < n
    ·rw [Nat.add_comm, Nat.testBit_two_pow_add_gt h2, ih, decide_eq_true h2, decide_eq_true (by omega)]
    ·have h3 : ofBits p n + 2 ^ n < 2 ^ j := by
      have : 2 ^ (n + 1) ≤ 2 ^ j := Nat.pow_le_pow_right (by decide) (by omega)
      rw [Nat.pow_succ] at this
      omega
     rw [Nat.testBit_lt_two_pow h3, decide_eq_false (by omega)]
     simp
theorem eq_ofBits {x n : Nat} (h : x < 2 ^ n) : x = ofBits x.testBit n := by
 apply Nat.eq_of_testBit_eq
 intro j
 rw [testBit_ofBits]
 by_cases hj : j < n
 ·simp [hj]
 ·have : x < 2 ^ j := Nat.lt_of_lt_of_le h (Nat.pow_le_pow_right (by decide) (by omega))
  rw [Nat.testBit_lt_two_pow this]
  simp [hj]
theorem ofBits_congr {p q : Nat → Bool} : ∀ n, (∀ j, j < n → p j = q j) → ofBits p n = ofBits q n
 | 0, _ => rfl
 | n + 1, h => by
  unfold ofBits
  rw [ofBits_congr n (fun j hj => h j (by omega)), h n (by omega)]
def word (p : Nat → Bool) (i : Nat) : Nat := ofBits (fun j => p (64 * i + j)) 64
theorem word_lt (p : Nat → Bool) (i : Nat) : word p i < 18446744073709551616 := ofBits_lt _ 64
theorem testBit_word (p : Nat → Bool) (i j : Nat) : (word p i).testBit j = (decide (j < 64) && p (64 * i + j)) := testBit_ofBits _ 64 j
theorem word_congr {p q : Nat → Bool} {i : Nat} (h : ∀ j, j < 64 → p (64 * i + j) = q (64 * i + j)) : word p i = word q i := ofBits_congr 64 h
def bitsOf (a b c d : Nat) (k : Nat) : Bool := if k < 64 then a.testBit k else if k < 128 then b.testBit (k - 64) else if k < 192 then c.testBit (k - 128) else d.testBit (k - 192)
theorem word_bitsOf {a b c d : Nat} (ha : a < 18446744073709551616) (hb : b < 18446744073709551616) (hc : c < 18446744073709551616) (hd : d < 18446744073709551616) :
  word (bitsOf a b c d) 0 = a ∧ word (bitsOf a b c d) 1 = b ∧ word (bitsOf a b c d) 2 = c ∧ word (bitsOf a b c d) 3 = d := by
 refine ⟨?_, ?_, ?_, ?_⟩
 ·conv => rhs; rw [eq_ofBits (n := 64) ha]
  exact ofBits_congr 64 fun j hj => by simp [bitsOf, hj]
 ·conv => rhs; rw [eq_ofBits (n := 64) hb]
  exact ofBits_congr 64 fun j hj => by
   unfold bitsOf
   rw [if_neg (by omega), if_pos (by omega), show 64 * 1 + j - 64 = j by omega]
 ·conv => rhs; rw [eq_ofBits (n := 64) hc]
  exact ofBits_congr 64 fun j hj => by
   unfold bitsOf
   rw [if_neg (by omega), if_neg (by omega), if_pos (by omega), show 64 * 2 + j - 128 = j by omega]
 ·conv => rhs; rw [eq_ofBits (n := 64) hd]
  exact ofBits_congr 64 fun j hj => by
   unfold bitsOf
   rw [if_neg (by omega), if_neg (by omega), if_neg (by omega), show 64 * 3 + j - 192 = j by omega]
theorem word_eq_of {p : Nat → Bool} {i x : Nat} (hx : x < 18446744073709551616) (h : ∀ j, j < 64 → x.testBit j = p (64 * i + j)) : x = word p i := by
 rw [eq_ofBits (n := 64) hx]
 exact ofBits_congr 64 h
theorem word_or (p q : Nat → Bool) (i : Nat) : word p i ||| word q i = word (fun c => p c || q c) i := by
 apply word_eq_of (Nat.or_lt_two_pow (n := 64) (word_lt p i) (word_lt q i))
 intro j hj
 simp [Nat.testBit_or, testBit_word, hj]
theorem word_and (p q : Nat → Bool) (i : Nat) : word p i &&& word q i = word (fun c => p c && q c) i := by
 apply word_eq_of (Nat.and_lt_two_pow (n := 64) _ (word_lt q i))
 intro j hj
 simp [Nat.testBit_and, testBit_word, hj]
theorem all64 (j : Nat) (hj : j < 64) : (18446744073709551615 : Nat).testBit j = true := by
 rw [show (18446744073709551615 : Nat) = 2 ^ 64 - 1 from rfl, Nat.testBit_two_pow_sub_one]
 simp [hj]
theorem xor_all (p : Nat → Bool) (i : Nat) : 18446744073709551615 ^^^ word p i = word (fun c => !p c) i := by
 apply word_eq_of (Nat.xor_lt_two_pow (n := 64) (by decide) (word_lt p i))
 intro j hj
 simp [Nat.testBit_xor, testBit_word, hj, all64 j hj]
theorem word_not (p : Nat → Bool) (i : Nat) : 18446744073709551615 - word p i = word (fun c => !p c) i := by
 have h := word_lt p i
 apply word_eq_of (by omega)
 intro j hj
 rw [show (18446744073709551615 : Nat) - word p i = 2 ^ 64 - (word p i + 1) by omega, Nat.testBit_two_pow_sub_succ h]
 simp [testBit_word, hj]
theorem word_none (i : Nat) : word (fun _ => false) i = 0 := by
 symm
 exact word_eq_of (by decide) (fun j _ => by simp)
theorem word_bit (p : Nat → Bool) (c : Nat) : word p (c / 64) / 2 ^ (c % 64) % 2 = (p c).toNat := by
 have h := testBit_word p (c / 64) (c % 64)
 rw [Nat.testBit_eq_decide_div_mod_eq, decide_eq_true (Nat.mod_lt _ (by decide)), Nat.div_add_mod] at h
 cases hp : p c <;> rw [hp] at h <;> simp at h <;> simp <;> omega
def withB (p : Nat → Bool) (c : Nat) (k : Nat) : Bool := p k || k == c
theorem word_with (p : Nat → Bool) (c : Nat) : word p (c / 64) ||| 2 ^ (c % 64) = word (withB p c) (c / 64) := by
 have h64 : (2 : Nat) ^ (c % 64) < 2 ^ 64 := Nat.pow_lt_pow_right (by decide) (Nat.mod_lt _ (by decide))
 apply word_eq_of (Nat.or_lt_two_pow (n := 64) (word_lt p _) h64)
 intro j hj
 rw [Nat.testBit_or, testBit_word, decide_eq_true hj, Nat.testBit_two_pow]
 unfold withB
 simp only [Bool.true_and]
 congr 1
 rw [Bool.eq_iff_iff]
 simp only [decide_eq_true_eq, beq_iff_eq]
 exact ⟨fun h => by omega, fun h => by omega⟩
theorem word_with_other (p : Nat → Bool) (c i : Nat) (h : i ≠ c / 64) : word (withB p c) i = word p i := by
 apply word_congr
 intro j hj
 unfold withB
 have : ¬ 64 * i + j = c := by omega
 simp [this]
def between (lo hi : Nat) (k : Nat) : Bool := decide (lo ≤ k) && decide (k ≤ hi)
theorem testBit_below {n : Nat} (j : Nat) : (2 ^ n - 1).testBit j = decide (j < n) := Nat.testBit_two_pow_sub_one n j
theorem word_between (lo hi i : Nat) (f t : Nat) (hf : f = lo - 64 * i) (ht : t = min (hi + 1 - 64 * i) 64) (hlt : f < t) :
  (2 ^ t - 1) &&& (18446744073709551615 - (2 ^ f - 1)) = word (between lo hi) i := by
 have ht64 : t ≤ 64 := by omega
 have h1 : 2 ^ t ≤ 2 ^ 64 := Nat.pow_le_pow_right (by decide) ht64
 have h2 : 2 ^ f ≤ 2 ^ 64 := Nat.pow_le_pow_right (by decide) (by omega)
 have h3 : 0 < 2 ^ f := Nat.two_pow_pos f
 apply word_eq_of
 ·have := Nat.and_le_left (n := 2 ^ t - 1) (m := 18446744073709551615 - (2 ^ f - 1)); have : (2:Nat) ^ 64 = 18446744073709551616 := rfl; omega
 intro j hj
 rw [Nat.testBit_and, testBit_below, show 18446744073709551615 - (2 ^ f - 1) = 2 ^ 64 - ((2 ^ f - 1) + 1) by have : (2:Nat) ^ 64 = 18446744073709551616 := rfl; omega,
  Nat.testBit_two_pow_sub_succ (by omega), Nat.testBit_two_pow_sub_one, decide_eq_true hj]
 unfold between
 rw [Bool.eq_iff_iff]
 simp only [Bool.and_eq_true, decide_eq_true_eq, Bool.true_and, Bool.not_eq_true', decide_eq_false_iff_not]
 exact ⟨fun ⟨a, b⟩ => by omega, fun ⟨a, b⟩ => by omega⟩
theorem word_between_none (lo hi i : Nat) (h : ¬ lo - 64 * i < min (hi + 1 - 64 * i) 64) : word (between lo hi) i = 0 := by
 symm
 apply word_eq_of (by decide)
 intro j hj
 unfold between
 rw [Nat.zero_testBit, ← Bool.decide_and]
 symm
 exact decide_eq_false (fun ⟨a, b⟩ => h (by omega))
def part (p : Nat → Bool) (k : Int) (j : Nat) : Nat := if (j : Int) < k then word p j else 0
def byteAt (bs : List Nat) (i : Nat) : Nat := bs.getD i 0
theorem byteAt_lt {bs : List Nat} (h : ∀ x ∈ bs, x < 256) (i : Nat) : byteAt bs i < 256 := by
 unfold byteAt
 rw [List.getD_eq_getElem?_getD]
 cases hi : bs[i]? with
 | none => simp
 | some x => simpa using h x (List.mem_of_getElem? hi)
def hasAt (bs : List Nat) (i : Int) (c : Nat) : Bool := decide (0 ≤ i) && decide (i < (bs.length : Int)) && (byteAt bs i.toNat == c)
theorem hasAt_neg {bs : List Nat} {i : Int} (c : Nat) (h : i < 0) : hasAt bs i c = false := by simp [hasAt]; omega
theorem hasAt_out {bs : List Nat} {i : Int} (c : Nat) (h : (bs.length : Int) ≤ i) : hasAt bs i c = false := by simp [hasAt]; omega
theorem hasAt_in {bs : List Nat} {i : Nat} (c : Nat) (h : i < bs.length) : hasAt bs (i : Int) c = (byteAt bs i == c) := by simp [hasAt]; omega
theorem hasAt_yes {bs : List Nat} {i : Int} {c : Nat} (h : hasAt bs i c = true) : ∃ k : Nat, i = (k : Int) ∧ k < bs.length ∧ byteAt bs k = c := by
 simp [hasAt] at h
 obtain ⟨⟨h1, h2⟩, h3⟩ := h
 exact ⟨i.toNat, by omega, by omega, h3⟩
def isWord (c : Nat) : Bool := decide (48 ≤ c) && decide (c ≤ 57) || decide (97 ≤ c) && decide (c ≤ 122) || decide (65 ≤ c) && decide (c ≤ 90)
def isSpecial (c : Nat) : Bool := c == 10 || c == 92 || c == 91 || c == 93 || c == 94 || c == 45
def digVal (c : Nat) : Int := if 48 ≤ c ∧ c ≤ 57 then (c : Int) - 48 else if 97 ≤ c ∧ c ≤ 102 then (c : Int) - 87 else -1
theorem digVal_bd (c : Nat) : -1 ≤ digVal c ∧ digVal c ≤ 15 := by unfold digVal; split <;> (try split) <;> omega
def escS (bs : List Nat) (i : Nat) : Option (Nat × Nat) :=
 if bs.length ≤ i + 1 then none
 else if byteAt bs (i + 1) = 110 then some (10, i + 2)
 else if byteAt bs (i + 1) = 116 then some (9, i + 2)
 else if byteAt bs (i + 1) = 114 then some (13, i + 2)
 else if byteAt bs (i + 1) = 120 then
  if bs.length ≤ i + 3 then none
  else if digVal (byteAt bs (i + 2)) < 0 then none
  else if digVal (byteAt bs (i + 3)) < 0 then none
  else some ((16 * digVal (byteAt bs (i + 2)) + digVal (byteAt bs (i + 3))).toNat, i + 4)
 else if byteAt bs (i + 1) < 33 ∨ 126 < byteAt bs (i + 1) ∨ isWord (byteAt bs (i + 1)) = true then none
 else some (byteAt bs (i + 1), i + 2)
abbrev Wrong := Int × Int
def charS (bs : List Nat) (start i : Nat) : Except Wrong (Nat × Nat) :=
 if bs.length ≤ i then .error (13, start)
 else if byteAt bs i = 92 then (match escS bs i with | some x => .ok x | none => .error (14, i))
 else if isSpecial (byteAt bs i) = true then .error (13, i)
 else .ok (byteAt bs i, i + 1)
section
variable {bs : List Nat} {s i : Nat}
theorem charS_end (h : bs.length ≤ i) : charS bs s i = .error (13, (s : Int)) := by unfold charS; rw [if_pos h]
theorem charS_esc (h : i < bs.length) (h1 : byteAt bs i = 92) {c j : Nat} (h2 : escS bs i = some (c, j)) : charS bs s i = .ok (c, j) := by unfold charS; rw [if_neg (by omega), if_pos h1, h2]
theorem charS_bad (h : i < bs.length) (h1 : byteAt bs i = 92) (h2 : escS bs i = none) : charS bs s i = .error (14, (i : Int)) := by unfold charS; rw [if_neg (by omega), if_pos h1, h2]
theorem charS_special (h : i < bs.length) (h1 : byteAt bs i ≠ 92) (h2 : isSpecial (byteAt bs i) = true) : charS bs s i = .error (13, (i : Int)) := by unfold charS; rw [if_neg (by omega), if_neg h1, if_pos h2]
theorem charS_self (h : i < bs.length) (h1 : byteAt bs i ≠ 92) (h2 : isSpecial (byteAt bs i) = false) : charS bs s i = .ok (byteAt bs i, i + 1) := by unfold charS; rw [if_neg (by omega), if_neg h1, if_neg (by rw [h2]; decide)]
end
def itemS (bs : List Nat) (start i : Nat) : Except Wrong (Nat × Nat × Nat) :=
 match charS bs start i with
 | .error e => .error e
 | .ok (lo, j) =>
  if hasAt bs j 45 = true then
   match charS bs start (j + 1) with
   | .error e => .error e
   | .ok (hi, k) => if hi < lo then .error (15, i) else .ok (lo, hi, k)
  else .ok (lo, lo, j)
def itemsS (bs : List Nat) (start : Nat) : Nat → Nat → (Nat → Bool) → Except Wrong ((Nat → Bool) × Nat)
 | 0, _, _ => .error (0, 0)
 | f + 1, i, p =>
  match itemS bs start i with
  | .error e => .error e
  | .ok (lo, hi, j) =>
   if hasAt bs j 93 = true then .ok (fun c => p c || between lo hi c, j + 1)
   else itemsS bs start f j (fun c => p c || between lo hi c)
def turnS : Except Wrong ((Nat → Bool) × Nat) → Except Wrong ((Nat → Bool) × Nat)
 | .error e => .error e
 | .ok (p, j) => .ok (fun c => !p c, j)
def readS (bs : List Nat) (at_ : Int) : Except Wrong ((Nat → Bool) × Nat) :=
 if hasAt bs at_ 91 = true then
  if hasAt bs (at_ + 1) 94 = true then turnS (itemsS bs at_.toNat (bs.length + 1) (at_.toNat + 2) (fun _ => false))
  else itemsS bs at_.toNat (bs.length + 1) (at_.toNat + 1) (fun _ => false)
 else .error (1, 0)
section
variable {bs : List Nat} {i : Nat}
theorem escS_end (h : bs.length ≤ i + 1) : escS bs i = none := by unfold escS; rw [if_pos h]
theorem escS_n (h : i + 1 < bs.length) (h1 : byteAt bs (i + 1) = 110) : escS bs i = some (10, i + 2) := by unfold escS; rw [if_neg (by omega), if_pos h1]
theorem escS_t (h : i + 1 < bs.length) (h1 : byteAt bs (i + 1) = 116) : escS bs i = some (9, i + 2) := by unfold escS; rw [if_neg (by omega), if_neg (by omega), if_pos h1]
theorem escS_r (h : i + 1 < bs.length) (h1 : byteAt bs (i + 1) = 114) : escS bs i = some (13, i + 2) := by unfold escS; rw [if_neg (by omega), if_neg (by omega), if_neg (by omega), if_pos h1]
theorem escS_xend (h : i + 1 < bs.length) (h1 : byteAt bs (i + 1) = 120) (h2 : bs.length ≤ i + 3) : escS bs i = none := by
 unfold escS; rw [if_neg (by omega), if_neg (by omega), if_neg (by omega), if_neg (by omega), if_pos h1, if_pos h2]
theorem escS_xbad (h : i + 1 < bs.length) (h1 : byteAt bs (i + 1) = 120) (h2 : i + 3 < bs.length) (h3 : digVal (byteAt bs (i + 2)) < 0 ∨ digVal (byteAt bs (i + 3)) < 0) : escS bs i = none := by
 unfold escS; rw [if_neg (by omega), if_neg (by omega), if_neg (by omega), if_neg (by omega), if_pos h1, if_neg (by omega)]
 by_cases h4 : digVal (byteAt bs (i + 2)) < 0
 ·rw [if_pos h4]
 ·rw [if_neg h4, if_pos (by omega)]
theorem escS_x (h : i + 1 < bs.length) (h1 : byteAt bs (i + 1) = 120) (h2 : i + 3 < bs.length) (h3 : 0 ≤ digVal (byteAt bs (i + 2))) (h4 : 0 ≤ digVal (byteAt bs (i + 3))) :
  escS bs i = some ((16 * digVal (byteAt bs (i + 2)) + digVal (byteAt bs (i + 3))).toNat, i + 4) := by
 unfold escS; rw [if_neg (by omega), if_neg (by omega), if_neg (by omega), if_neg (by omega), if_pos h1, if_neg (by omega), if_neg (by omega), if_neg (by omega)]
theorem escS_bad (h : i + 1 < bs.length) (h1 : byteAt bs (i + 1) ≠ 110) (h2 : byteAt bs (i + 1) ≠ 116) (h3 : byteAt bs (i + 1) ≠ 114) (h4 : byteAt bs (i + 1) ≠ 120)
  (h5 : byteAt bs (i + 1) < 33 ∨ 126 < byteAt bs (i + 1) ∨ isWord (byteAt bs (i + 1)) = true) : escS bs i = none := by
 unfold escS; rw [if_neg (by omega), if_neg h1, if_neg h2, if_neg h3, if_neg h4, if_pos h5]
theorem escS_self (h : i + 1 < bs.length) (h1 : byteAt bs (i + 1) ≠ 110) (h2 : byteAt bs (i + 1) ≠ 116) (h3 : byteAt bs (i + 1) ≠ 114) (h4 : byteAt bs (i + 1) ≠ 120)
  (h5 : 33 ≤ byteAt bs (i + 1)) (h6 : byteAt bs (i + 1) ≤ 126) (h7 : isWord (byteAt bs (i + 1)) = false) : escS bs i = some (byteAt bs (i + 1), i + 2) := by
 unfold escS; rw [if_neg (by omega), if_neg h1, if_neg h2, if_neg h3, if_neg h4, if_neg (by rw [h7]; simp; omega)]
end
def restS (bs : List Nat) (start f j : Nat) (p : Nat → Bool) : Except Wrong ((Nat → Bool) × Nat) := if hasAt bs (j : Int) 93 = true then .ok (p, j + 1) else itemsS bs start f j p
theorem itemsS_ok {bs : List Nat} {s f i lo hi j : Nat} {p : Nat → Bool} (h : itemS bs s i = .ok (lo, hi, j)) : itemsS bs s (f + 1) i p = restS bs s f j (fun c => p c || between lo hi c) := by
 show (match itemS bs s i with | .error e => _ | .ok (lo, hi, j) => _) = _
 rw [h]; rfl
theorem itemsS_bad {bs : List Nat} {s f i : Nat} {p : Nat → Bool} {e : Wrong} (h : itemS bs s i = .error e) : itemsS bs s (f + 1) i p = .error e := by
 show (match itemS bs s i with | .error e => _ | .ok (lo, hi, j) => _) = _
 rw [h]
theorem restS_end {bs : List Nat} {s f j : Nat} {p : Nat → Bool} (h : hasAt bs (j : Int) 93 = true) : restS bs s f j p = .ok (p, j + 1) := if_pos h
theorem restS_go {bs : List Nat} {s f j : Nat} {p : Nat → Bool} (h : hasAt bs (j : Int) 93 = false) : restS bs s f j p = itemsS bs s f j p := if_neg (by rw [h]; decide)
theorem readS_no {bs : List Nat} {i : Int} (h : hasAt bs i 91 = false) : readS bs i = .error (1, 0) := if_neg (by rw [h]; decide)
theorem readS_plain {bs : List Nat} {k : Nat} (h : hasAt bs (k : Int) 91 = true) (h2 : hasAt bs ((k : Int) + 1) 94 = false) : readS bs (k : Int) = itemsS bs k (bs.length + 1) (k + 1) (fun _ => false) := by
 unfold readS; rw [if_pos h, if_neg (by rw [h2]; decide)]; rfl
theorem readS_turned {bs : List Nat} {k : Nat} (h : hasAt bs (k : Int) 91 = true) (h2 : hasAt bs ((k : Int) + 1) 94 = true) : readS bs (k : Int) = turnS (itemsS bs k (bs.length + 1) (k + 2) (fun _ => false)) := by
 unfold readS; rw [if_pos h, if_pos h2]; rfl
theorem escS_some {bs : List Nat} (hb : ∀ x ∈ bs, x < 256) {i c j : Nat} (h : escS bs i = some (c, j)) : i < j ∧ j ≤ bs.length ∧ c < 256 := by
 have hl := byteAt_lt hb (i + 1)
 have d1 := digVal_bd (byteAt bs (i + 2))
 have d2 := digVal_bd (byteAt bs (i + 3))
 unfold escS at h
 by_cases h0 : bs.length ≤ i + 1
 ·rw [if_pos h0] at h; cases h
 rw [if_neg h0] at h
 by_cases h1 : byteAt bs (i + 1) = 110
 ·rw [if_pos h1] at h; simp at h; omega
 rw [if_neg h1] at h
 by_cases h2 : byteAt bs (i + 1) = 116
 ·rw [if_pos h2] at h; simp at h; omega
 rw [if_neg h2] at h
 by_cases h3 : byteAt bs (i + 1) = 114
 ·rw [if_pos h3] at h; simp at h; omega
 rw [if_neg h3] at h
 by_cases h4 : byteAt bs (i + 1) = 120
 ·rw [if_pos h4] at h
  by_cases h5 : bs.length ≤ i + 3
  ·rw [if_pos h5] at h; cases h
  rw [if_neg h5] at h
  by_cases h6 : digVal (byteAt bs (i + 2)) < 0
  ·rw [if_pos h6] at h; cases h
  rw [if_neg h6] at h
  by_cases h7 : digVal (byteAt bs (i + 3)) < 0
  ·rw [if_pos h7] at h; cases h
  rw [if_neg h7] at h
  simp at h; omega
 rw [if_neg h4] at h
 by_cases h5 : byteAt bs (i + 1) < 33 ∨ 126 < byteAt bs (i + 1) ∨ isWord (byteAt bs (i + 1)) = true
 ·rw [if_pos h5] at h; cases h
 rw [if_neg h5] at h
 simp at h; omega
theorem charS_ok {bs : List Nat} (hb : ∀ x ∈ bs, x < 256) {s i c j : Nat} (h : charS bs s i = .ok (c, j)) : i < j ∧ j ≤ bs.length ∧ c < 256 := by
 have hl := byteAt_lt hb i
 unfold charS at h
 by_cases h0 : bs.length ≤ i
 ·rw [if_pos h0] at h; cases h
 rw [if_neg h0] at h
 by_cases h1 : byteAt bs i = 92
 ·rw [if_pos h1] at h
  cases he : escS bs i with
  | none => rw [he] at h; cases h
  | some x =>
   rw [he] at h
   obtain ⟨c', j'⟩ := x
   simp at h
   obtain ⟨rfl, rfl⟩ := h
   exact escS_some hb he
 rw [if_neg h1] at h
 by_cases h2 : isSpecial (byteAt bs i) = true
 ·rw [if_pos h2] at h; cases h
 rw [if_neg h2] at h
 simp at h; omega
theorem itemS_ok {bs : List Nat} (hb : ∀ x ∈ bs, x < 256) {s i lo hi j : Nat} (h : itemS bs s i = .ok (lo, hi, j)) : i < j ∧ j ≤ bs.length ∧ lo < 256 ∧ hi < 256 := by
 unfold itemS at h
 cases h1 : charS bs s i with
 | error e => rw [h1] at h; cases h
 | ok x =>
  obtain ⟨lo', j'⟩ := x
  obtain ⟨a1, a2, a3⟩ := charS_ok hb h1
  rw [h1] at h
  dsimp only at h
  by_cases h2 : hasAt bs j' 45 = true
  ·rw [if_pos h2] at h
   cases h3 : charS bs s (j' + 1) with
   | error e => rw [h3] at h; cases h
   | ok y =>
    obtain ⟨hi', k'⟩ := y
    obtain ⟨b1, b2, b3⟩ := charS_ok hb h3
    rw [h3] at h
    dsimp only at h
    by_cases h4 : hi' < lo'
    ·rw [if_pos h4] at h; cases h
    rw [if_neg h4] at h
    simp at h
    omega
  ·rw [if_neg h2] at h
   simp at h
   omega
end
section
open Go.RowKit
theorem ret_b {a b : Bool} (h : a = b) : Ending.returned (.bool a) = .returned (.bool b) := by rw [h]
theorem ret_i {k : IntKind} {a b : Int} (h : a = b) : Ending.returned (.int k a) = .returned (.int k b) := by rw [h]
def Blk (w : World) (g : Nat) (t : TypeId) (cs : Array Value) : Prop := w.heap[g]? = some (.cells cs t (0, 0))
section
variable {w w' : World} {g : Nat} {t : TypeId} {cs : Array Value}
theorem Blk.lt (h : Blk w g t cs) : g < w.heap.size := by
 rcases Nat.lt_or_ge g w.heap.size with hlt | hge
 ·exact hlt
 ·unfold Blk at h; rw [Array.getElem?_eq_none hge] at h; cases h
theorem Blk.cell (h : Blk w g t cs) (i : Nat) : w.cell? ⟨g, i, none⟩ = cs[i]? := cell_of_row w g i cs t (0, 0) h
theorem Blk.frozen (h : Blk w g t cs) (i : Nat) : w.frozen? ⟨g, i, none⟩ = false := by
 unfold Blk at h
 simp [World.frozen?, h]
theorem Blk.new (w : World) (t : TypeId) (cs : Array Value) : Blk (w.alloc (.cells cs t)) w.heap.size t cs := heap_alloc_new w _
theorem Blk.new_at {n : Nat} (hn : n = w.heap.size) : Blk (w.alloc (.cells cs t)) n t cs := by subst hn; exact Blk.new w t cs
theorem Blk.drew (h : Blk w g t cs) : Blk w.drew g t cs := h
theorem Blk.drewN (h : Blk w g t cs) (n : Nat) : Blk (w.drewN n) g t cs := h
theorem Blk.alloc (h : Blk w g t cs) (o : Obj) : Blk (w.alloc o) g t cs := (Below.heap_alloc w o g h.lt).trans h
theorem Blk.set_ (h : Blk w g t cs) (i : Nat) (u : Value) : Blk (w.setCell ⟨g, i, none⟩ u) g t (cs.setIfInBounds i u) := by
 unfold Blk at h ⊢
 simp [World.setCell, Array.getElem?_modify, h]
theorem Blk.far (h : Blk w g t cs) {p : Addr} (hp : g ≠ p.block) (u : Value) : Blk (w.setCell p u) g t cs := (Below.heap_setCell w p u g hp).trans h
theorem Blk.below {B : Nat} (h : Blk w g t cs) (hb : Below B w w') (hg : g < B) : Blk w' g t cs := (hb.block g hg).trans h
theorem Blk.grown {row : Option Nat} (h : Blk w g t cs) (hb : w.grownBy w' row) (hg : some g ≠ row) : Blk w' g t cs := (hb.block g h.lt hg).trans h
theorem Blk.c4 {a b c d : Value} (h : Blk w g t #[a, b, c, d]) :
  w.cell? ⟨g, 0, none⟩ = some a ∧ w.cell? ⟨g, 1, none⟩ = some b ∧ w.cell? ⟨g, 2, none⟩ = some c ∧ w.cell? ⟨g, 3, none⟩ = some d ∧
  w.frozen? ⟨g, 0, none⟩ = false ∧ w.frozen? ⟨g, 1, none⟩ = false ∧ w.frozen? ⟨g, 2, none⟩ = false ∧ w.frozen? ⟨g, 3, none⟩ = false :=
 ⟨h.cell 0, h.cell 1, h.cell 2, h.cell 3, h.frozen 0, h.frozen 1, h.frozen 2, h.frozen 3⟩
theorem Blk.c2 {a b : Value} (h : Blk w g t #[a, b]) : w.cell? ⟨g, 0, none⟩ = some a ∧ w.cell? ⟨g, 1, none⟩ = some b ∧ w.frozen? ⟨g, 0, none⟩ = false ∧ w.frozen? ⟨g, 1, none⟩ = false := ⟨h.cell 0, h.cell 1, h.frozen 0, h.frozen 1⟩
theorem Blk.set2 {a b a' b' : Value} (h : Blk w g t #[a, b]) : Blk ((w.setCell ⟨g, 0, none⟩ a').setCell ⟨g, 1, none⟩ b') g t #[a', b'] := (h.set_ 0 a').set_ 1 b'
theorem Blk.far4 {g' : Nat} (h : Blk w g t cs) (hg : g ≠ g') (a b c d : Value) : Blk ((((w.setCell ⟨g', 0, none⟩ a).setCell ⟨g', 1, none⟩ b).setCell ⟨g', 2, none⟩ c).setCell ⟨g', 3, none⟩ d) g t cs :=
 (((h.far (p := ⟨g', 0, none⟩) hg a).far (p := ⟨g', 1, none⟩) hg b).far (p := ⟨g', 2, none⟩) hg c).far (p := ⟨g', 3, none⟩) hg d
theorem Blk.far2 {g' : Nat} (h : Blk w g t cs) (hg : g ≠ g') (a b : Value) : Blk ((w.setCell ⟨g', 0, none⟩ a).setCell ⟨g', 1, none⟩ b) g t cs :=
 (h.far (p := ⟨g', 0, none⟩) hg a).far (p := ⟨g', 1, none⟩) hg b
theorem Blk.set4 {a b c d a' b' c' d' : Value} (h : Blk w g t #[a, b, c, d]) : Blk ((((w.setCell ⟨g, 0, none⟩ a').setCell ⟨g, 1, none⟩ b').setCell ⟨g, 2, none⟩ c').setCell ⟨g, 3, none⟩ d') g t #[a', b', c', d'] :=
 (((h.set_ 0 a').set_ 1 b').set_ 2 c').set_ 3 d'
end
theorem below_set4 {B g : Nat} {a w : World} (h : Below B a w) (hg : B ≤ g) (x y z u : Value) : Below B a ((((w.setCell ⟨g, 0, none⟩ x).setCell ⟨g, 1, none⟩ y).setCell ⟨g, 2, none⟩ z).setCell ⟨g, 3, none⟩ u) :=
 (((h.setCell (p := ⟨g, 0, none⟩) hg x).setCell (p := ⟨g, 1, none⟩) hg y).setCell (p := ⟨g, 2, none⟩) hg z).setCell (p := ⟨g, 3, none⟩) hg u
theorem below_set2 {B g : Nat} {a w : World} (h : Below B a w) (hg : B ≤ g) (x y : Value) : Below B a ((w.setCell ⟨g, 0, none⟩ x).setCell ⟨g, 1, none⟩ y) :=
 (h.setCell (p := ⟨g, 0, none⟩) hg x).setCell (p := ⟨g, 1, none⟩) hg y
theorem below_only {B g : Nat} {a w w' : World} (h : Below B a w) (k : w.grownBy w' (some g)) (hg : B ≤ g) (hB : B ≤ w.heap.size) : Below B a w' := h.grown k hB (fun x e => by cases e; exact hg)
theorem bcell {B : Nat} {W w1 : World} (hb : Below B W w1) : (∀ b o, b < B → w1.cell? ⟨b, o, none⟩ = W.cell? ⟨b, o, none⟩) ∧ (∀ b o, b < B → w1.frozen? ⟨b, o, none⟩ = W.frozen? ⟨b, o, none⟩) :=
 ⟨fun b o h => hb.cell (p := ⟨b, o, none⟩) h, fun b o h => hb.frozen (p := ⟨b, o, none⟩) h⟩
def BytesAt (w : World) (B : Nat) (A : Option Addr) (bs : List Nat) : Prop :=
 (∀ x ∈ bs, x < 256) ∧ bs.length ≤ 140737488355328 ∧ (0 < bs.length → ∃ b o, A = some ⟨b, o, none⟩ ∧ b < B ∧ ∀ i, i < bs.length → w.cell? ⟨b, o + i, none⟩ = some (.int .u8 ((byteAt bs i : Nat) : Int)))
theorem BytesAt.below {w w' : World} {B : Nat} {A : Option Addr} {bs : List Nat} (h : BytesAt w B A bs) (hb : Below B w w') : BytesAt w' B A bs :=
 ⟨h.1, h.2.1, fun hn => by
  obtain ⟨b, o, ha, hl, hc⟩ := h.2.2 hn
  exact ⟨b, o, ha, hl, fun i hi => (hb.cell (p := ⟨b, _, none⟩) hl).trans (hc i hi)⟩⟩
theorem BytesAt.drewN {w : World} {B : Nat} {A : Option Addr} {bs : List Nat} (h : BytesAt w B A bs) (n : Nat) : BytesAt (w.drewN n) B A bs := h
theorem BytesAt.drew {w : World} {B : Nat} {A : Option Addr} {bs : List Nat} (h : BytesAt w B A bs) : BytesAt w.drew B A bs := h
theorem BytesAt.more {w : World} {B B' : Nat} {A : Option Addr} {bs : List Nat} (h : BytesAt w B A bs) (hB : B ≤ B') : BytesAt w B' A bs :=
 ⟨h.1, h.2.1, fun hn => by
  obtain ⟨b, o, ha, hl, hc⟩ := h.2.2 hn
  exact ⟨b, o, ha, by omega, hc⟩⟩
theorem BytesAt.grown {w w' : World} {B : Nat} {row : Option Nat} {A : Option Addr} {bs : List Nat} (h : BytesAt w B A bs) (hg : w.grownBy w' row) (hB : B ≤ w.heap.size) (hr : ∀ g, row = some g → B ≤ g) : BytesAt w' B A bs :=
 h.below ⟨hg.os, hg.tape, hg.output, hg.size, fun k hk => hg.block k (by omega) (fun e => by have := hr k e.symm; omega)⟩
theorem BytesAt.only {w w' : World} {B g : Nat} {A : Option Addr} {bs : List Nat} (h : BytesAt w B A bs) (hg : w.grownBy w' (some g)) (hB : B ≤ g) (hl : g < w.heap.size) : BytesAt w' B A bs :=
 h.grown hg (by omega) (fun k e => by cases e; exact hB)
def SetAt (w : World) (b o : Nat) (p : Nat → Bool) : Prop :=
 w.cell? ⟨b, o, none⟩ = some (.int .u64 (word p 0)) ∧ w.cell? ⟨b, o + 1, none⟩ = some (.int .u64 (word p 1)) ∧
 w.cell? ⟨b, o + 2, none⟩ = some (.int .u64 (word p 2)) ∧ w.cell? ⟨b, o + 3, none⟩ = some (.int .u64 (word p 3))
theorem SetAt.below {w w' : World} {B b o : Nat} {p : Nat → Bool} (h : SetAt w b o p) (hb : Below B w w') (hl : b < B) : SetAt w' b o p :=
 ⟨(hb.cell (p := ⟨b, _, none⟩) hl).trans h.1, (hb.cell (p := ⟨b, _, none⟩) hl).trans h.2.1, (hb.cell (p := ⟨b, _, none⟩) hl).trans h.2.2.1, (hb.cell (p := ⟨b, _, none⟩) hl).trans h.2.2.2⟩
def SetsAt (w : World) (B : Nat) (A : Option Addr) (ps : List (Nat → Bool)) : Prop :=
 0 < ps.length → ∃ b o, A = some ⟨b, o, none⟩ ∧ b < B ∧ ∀ i p, ps[i]? = some p → SetAt w b (o + i * 4) p
theorem blk_not_row {W : World} {B : Nat} {t e : TypeId} {cs : Array Value} (h : Blk W B t cs) (hte : t ≠ e) {base size k : Nat} {v : Value} {xs : List Value} (hr : W.ownsRow base e size v k xs) : some B ≠ v.ownBlock := by
 rcases hr.2 with ⟨rfl, _⟩ | ⟨g, cap, cur, rfl, _, hgb, _⟩
 ·simp [Value.ownBlock]
 ·intro e'
  obtain rfl : B = g := by simpa [Value.ownBlock] using e'
  have := (show W.heap[B]? = _ from h).symm.trans hgb
  simp at this
  exact hte this.2
theorem ownsRow_below {W W' : World} {base size k n₀ : Nat} {e : TypeId} {v : Value} {xs : List Value} (hr : W.ownsRow base e size v k xs) (hb : Below n₀ W W') (hk : ∀ k, v.ownBlock = some k → k < n₀) : W'.ownsRow base e size v k xs := by
 refine ⟨hr.1, ?_⟩
 rcases hr.2 with h | ⟨g, cap, cur, rfl, h1, h2, h3⟩
 ·exact .inl h
 ·exact .inr ⟨g, cap, cur, rfl, h1, (hb.block g (hk g rfl)).trans h2, h3⟩
theorem own_form {w : World} {base size n : Nat} {e : TypeId} {v : Value} {xs : List Value} (h : w.ownsRow base e size v n xs) (hn : 0 < n) : ∃ g cap, v = .slice (some ⟨g, 0, none⟩) n cap ∧ base ≤ g ∧ g < w.heap.size := by
 rcases h.2 with ⟨_, h0⟩ | ⟨g, cap, cur, hv, hb, hh, _⟩
 ·omega
 ·exact ⟨g, cap, hv, hb, (Array.getElem?_eq_some_iff.1 hh).1⟩
theorem own_below {w w' : World} {base size n : Nat} {e : TypeId} {v : Value} {xs : List Value} (h : w.ownsRow base e size v n xs) (hb : Below w.heap.size w w') : w'.ownsRow base e size v n xs :=
 ownsRow_below h hb (fun k e => (h.lt k e).2)
theorem below_grown {B : Nat} {a w w' : World} {v : Value} {base size n : Nat} {e : TypeId} {xs : List Value} (h : Below B a w) (hg : w.grownBy w' v.ownBlock) (hown : w.ownsRow base e size v n xs) (hB : B ≤ base) (hs : B ≤ w.heap.size) : Below B a w' :=
 h.grown hg hs (fun k hk => Nat.le_trans hB (hown.lt k hk).1)
theorem own_slice {W : World} {base size n : Nat} {e : TypeId} {v : Value} {xs : List Value} (h : W.ownsRow base e size v n xs) : ∃ A cap, v = .slice A n cap := by
 rcases h.2 with ⟨rfl, rfl⟩ | ⟨g, cap, cur, rfl, _⟩
 ·exact ⟨none, 0, rfl⟩
 ·exact ⟨_, cap, rfl⟩
theorem own_set {w : World} {base size n S o : Nat} {e : TypeId} {v u : Value} {xs : List Value} (h : w.ownsRow base e size v n xs) (hne : some S ≠ v.ownBlock) : (w.setCell ⟨S, o, none⟩ u).ownsRow base e size v n xs :=
 h.kept (row := some S) ⟨rfl, rfl, rfl, by simp [World.setCell], fun k _ hk => Below.heap_setCell _ _ _ _ (fun e => hk (by simp [e]))⟩ (.inr (fun e => hne e.symm))
theorem bel_drewN {B : Nat} {a w : World} (h : Below B a w) (n : Nat) : Below B a (w.drewN n) := ⟨h.os, h.tape, h.output, h.size, h.block⟩
inductive Trees where
 | nil : Trees
 | cons (kind : Int) (set : Nat) (kids : Trees) (lo hi : Int) (next : Trees) : Trees
structure Nd where
 kind : Int
 set : Nat
 kids : Trees
 lo : Int
 hi : Int
def Trees.list : Trees → List Nd
 | .nil => []
 | .cons k s ks lo hi r => ⟨k, s, ks, lo, hi⟩ :: r.list
def Trees.of : List Nd → Trees
 | [] => .nil
 | x :: l => .cons x.kind x.set x.kids x.lo x.hi (Trees.of l)
def Trees.len : Trees → Nat
 | .nil => 0
 | .cons _ _ _ _ _ r => r.len + 1
def Trees.size : Trees → Nat
 | .nil => 0
 | .cons _ _ ks _ _ r => 1 + ks.size + r.size
def Nd.size (x : Nd) : Nat := 1 + x.kids.size
theorem Trees.list_of : ∀ l : List Nd, (Trees.of l).list = l
 | [] => rfl
 | x :: l => by simp [Trees.of, Trees.list, Trees.list_of l]
theorem Trees.of_list : ∀ F : Trees, Trees.of F.list = F
 | .nil => rfl
 | .cons k s ks lo hi r => by simp [Trees.of, Trees.list, Trees.of_list r]
theorem Trees.len_list : ∀ F : Trees, F.list.length = F.len
 | .nil => rfl
 | .cons k s ks lo hi r => by simp [Trees.len, Trees.list, Trees.len_list r]
theorem Trees.len_of (l : List Nd) : (Trees.of l).len = l.length := by rw [← Trees.len_list, Trees.list_of]
theorem Trees.size_get : ∀ (F : Trees) (i : Nat) (x : Nd), F.list[i]? = some x → x.size ≤ F.size
 | .nil, i, x, h => by simp [Trees.list] at h
 | .cons k s ks lo hi r, 0, x, h => by
  simp [Trees.list] at h
  subst h
  simp [Nd.size, Trees.size]
 | .cons k s ks lo hi r, i + 1, x, h => by
  have := Trees.size_get r i x (by simpa [Trees.list] using h)
  simp [Trees.size]
  omega
theorem Trees.len_size : ∀ F : Trees, F.len ≤ F.size
 | .nil => Nat.le_refl _
 | .cons k s ks lo hi r => by
  have := Trees.len_size r
  simp [Trees.len, Trees.size]
  omega
@[inline] def ndV (x : Nd) (B : Option Addr) (cap : Nat) : Value :=
 .agg #[.int .i64 x.kind, .int .u64 (word x.set.testBit 0), .int .u64 (word x.set.testBit 1), .int .u64 (word x.set.testBit 2), .int .u64 (word x.set.testBit 3), .slice B x.kids.len cap, .int .i64 x.lo, .int .i64 x.hi]
def NdAt (w : World) (b o : Nat) (k : Int) (s n : Nat) (lo hi : Int) (B : Option Addr) (cap : Nat) : Prop :=
 w.cell? ⟨b, o, none⟩ = some (.int .i64 k) ∧ w.cell? ⟨b, o + 1, none⟩ = some (.int .u64 (word s.testBit 0)) ∧ w.cell? ⟨b, o + 2, none⟩ = some (.int .u64 (word s.testBit 1)) ∧
 w.cell? ⟨b, o + 3, none⟩ = some (.int .u64 (word s.testBit 2)) ∧ w.cell? ⟨b, o + 4, none⟩ = some (.int .u64 (word s.testBit 3)) ∧ w.cell? ⟨b, o + 5, none⟩ = some (.slice B n cap) ∧
 w.cell? ⟨b, o + 6, none⟩ = some (.int .i64 lo) ∧ w.cell? ⟨b, o + 7, none⟩ = some (.int .i64 hi)
def TreesAt (w : World) (P : Nat → Prop) : Trees → Option Addr → Prop
 | .nil, _ => True
 | .cons k s ks lo hi r, A => ∃ b o B cap, A = some ⟨b, o, none⟩ ∧ P b ∧ ks.len ≤ cap ∧ NdAt w b o k s ks.len lo hi B cap ∧ TreesAt w P ks B ∧ TreesAt w P r (some ⟨b, o + 8, none⟩)
theorem NdAt.keep {w w' : World} {b o : Nat} {k : Int} {s n : Nat} {lo hi : Int} {B : Option Addr} {cap : Nat} (h : NdAt w b o k s n lo hi B cap) (hk : ∀ o, w'.cell? ⟨b, o, none⟩ = w.cell? ⟨b, o, none⟩) : NdAt w' b o k s n lo hi B cap :=
 ⟨(hk _).trans h.1, (hk _).trans h.2.1, (hk _).trans h.2.2.1, (hk _).trans h.2.2.2.1, (hk _).trans h.2.2.2.2.1, (hk _).trans h.2.2.2.2.2.1, (hk _).trans h.2.2.2.2.2.2.1, (hk _).trans h.2.2.2.2.2.2.2⟩
theorem TreesAt.keep {w w' : World} {P Q : Nat → Prop} (hk : ∀ b o, P b → b < w.heap.size → w'.cell? ⟨b, o, none⟩ = w.cell? ⟨b, o, none⟩) (hQ : ∀ b, P b → b < w.heap.size → Q b) : ∀ {F : Trees} {A : Option Addr}, TreesAt w P F A → TreesAt w' Q F A
 | .nil, _, _ => trivial
 | .cons k s ks lo hi r, A, ⟨b, o, B, cap, hA, hb, hc, hn, h1, h2⟩ => ⟨b, o, B, cap, hA, hQ b hb (World.block_lt_of_cell? w _ hn.1), hc, hn.keep (fun o => hk b o hb (World.block_lt_of_cell? w _ hn.1)), h1.keep hk hQ, h2.keep hk hQ⟩
theorem TreesAt.weak {w : World} {P Q : Nat → Prop} {F : Trees} {A : Option Addr} (h : TreesAt w P F A) (hQ : ∀ b, P b → b < w.heap.size → Q b) : TreesAt w Q F A := h.keep (fun _ _ _ _ => rfl) hQ
theorem TreesAt.below {w w' : World} {P : Nat → Prop} {F : Trees} {A : Option Addr} (h : TreesAt w P F A) (hb : Below w.heap.size w w') : TreesAt w' P F A := by
 exact h.keep (fun b o _ hl => hb.cell (p := ⟨b, o, none⟩) hl) (fun b hp _ => hp)
theorem TreesAt.nilAt {w : World} {P : Nat → Prop} {A : Option Addr} {F : Trees} (h : F.len = 0) : TreesAt w P F A := by
 cases F with
 | nil => trivial
 | cons k s ks lo hi r => simp [Trees.len] at h
theorem TreesAt.get {w : World} {P : Nat → Prop} : ∀ {F : Trees} {A : Option Addr} {i : Nat} {x : Nd}, TreesAt w P F A → F.list[i]? = some x →
  ∃ b o B cap, A = some ⟨b, o, none⟩ ∧ P b ∧ x.kids.len ≤ cap ∧ NdAt w b (o + i * 8) x.kind x.set x.kids.len x.lo x.hi B cap ∧ TreesAt w P x.kids B
 | .nil, _, i, x, _, hx => by simp [Trees.list] at hx
 | .cons k s ks lo hi r, A, 0, x, ⟨b, o, B, cap, hA, hb, hc, hn, h1, h2⟩, hx => by
  simp [Trees.list] at hx
  subst hx
  exact ⟨b, o, B, cap, hA, hb, hc, by simpa using hn, h1⟩
 | .cons k s ks lo hi r, A, i + 1, x, ⟨b, o, B, cap, hA, hb, hc, hn, h1, h2⟩, hx => by
  obtain ⟨b', o', B', cap', hA', hb', hc', hn', h1'⟩ := TreesAt.get (i := i) h2 (by simpa [Trees.list] using hx)
  simp at hA'
  obtain ⟨rfl, rfl⟩ := hA'
  refine ⟨b, o, B', cap', hA, hb', hc', ?_, h1'⟩
  rw [show o + (i + 1) * 8 = o + 8 + i * 8 by omega]
  exact hn'
theorem TreesAt.mk {w : World} {P : Nat → Prop} {b : Nat} (hb : P b) : ∀ {F : Trees} {o : Nat}, (∀ (i : Nat) (x : Nd), F.list[i]? = some x → ∃ B cap, x.kids.len ≤ cap ∧ NdAt w b (o + i * 8) x.kind x.set x.kids.len x.lo x.hi B cap ∧ TreesAt w P x.kids B) → TreesAt w P F (some ⟨b, o, none⟩)
 | .nil, _, _ => trivial
 | .cons k s ks lo hi r, o, h => by
  obtain ⟨B, cap, hc, hn, hk⟩ := h 0 ⟨k, s, ks, lo, hi⟩ rfl
  refine ⟨b, o, B, cap, rfl, hb, hc, by simpa using hn, hk, TreesAt.mk hb (fun i x hx => ?_)⟩
  obtain ⟨B, cap, hc, hn, hk⟩ := h (i + 1) x hx
  refine ⟨B, cap, hc, ?_, hk⟩
  rw [show o + 8 + i * 8 = o + (i + 1) * 8 by omega]
  exact hn
def ndCell (x : Nd) (B : Option Addr) (cap : Nat) : List Value :=
 [.int .i64 x.kind, .int .u64 (word x.set.testBit 0), .int .u64 (word x.set.testBit 1), .int .u64 (word x.set.testBit 2), .int .u64 (word x.set.testBit 3), .slice B x.kids.len cap, .int .i64 x.lo, .int .i64 x.hi]
def CellsAre (w : World) (P : Nat → Prop) : List Nd → List Value → Prop
 | [], cs => cs = []
 | x :: l, cs => ∃ B cap rest, cs = ndCell x B cap ++ rest ∧ x.kids.len ≤ cap ∧ TreesAt w P x.kids B ∧ CellsAre w P l rest
theorem CellsAre.keep {w w' : World} {P Q : Nat → Prop} (hk : ∀ b o, P b → b < w.heap.size → w'.cell? ⟨b, o, none⟩ = w.cell? ⟨b, o, none⟩) (hQ : ∀ b, P b → b < w.heap.size → Q b) : ∀ {l : List Nd} {cs : List Value}, CellsAre w P l cs → CellsAre w' Q l cs
 | [], cs, h => h
 | x :: l, cs, ⟨B, cap, rest, hcs, hc, ht, hr⟩ => ⟨B, cap, rest, hcs, hc, ht.keep hk hQ, hr.keep hk hQ⟩
theorem CellsAre.below {w w' : World} {P : Nat → Prop} (hb : Below w.heap.size w w') : ∀ {l : List Nd} {cs : List Value}, CellsAre w P l cs → CellsAre w' P l cs
 | [], cs, h => h
 | x :: l, cs, ⟨B, cap, rest, hcs, hc, ht, hr⟩ => ⟨B, cap, rest, hcs, hc, ht.below hb, hr.below hb⟩
theorem CellsAre.snoc {w : World} {P : Nat → Prop} {x : Nd} {B : Option Addr} {cap : Nat} (hc : x.kids.len ≤ cap) (ht : TreesAt w P x.kids B) : ∀ {l : List Nd} {cs : List Value}, CellsAre w P l cs → CellsAre w P (l ++ [x]) (cs ++ ndCell x B cap)
 | [], cs, h => by
  have : cs = [] := h
  subst this
  exact ⟨B, cap, [], by simp, hc, ht, rfl⟩
 | y :: l, cs, ⟨B', cap', rest, hcs, hc', ht', hr⟩ => ⟨B', cap', rest ++ ndCell x B cap, by rw [hcs, List.append_assoc], hc', ht', hr.snoc hc ht⟩
theorem CellsAre.length {w : World} {P : Nat → Prop} : ∀ {l : List Nd} {cs : List Value}, CellsAre w P l cs → cs.length = l.length * 8
 | [], cs, h => by have : cs = [] := h; subst this; rfl
 | y :: l, cs, ⟨B', cap', rest, hcs, hc', ht', hr⟩ => by
  have := hr.length
  rw [hcs, List.length_append, this]
  simp [ndCell]
  omega
theorem CellsAre.get {w : World} {P : Nat → Prop} : ∀ {l : List Nd} {cs : List Value} {i : Nat} {x : Nd}, CellsAre w P l cs → l[i]? = some x →
  ∃ B cap, x.kids.len ≤ cap ∧ TreesAt w P x.kids B ∧ ∀ j, j < 8 → cs[i * 8 + j]? = (ndCell x B cap)[j]?
 | [], cs, i, x, _, hx => by simp at hx
 | y :: l, cs, 0, x, ⟨B, cap, rest, hcs, hc, ht, hr⟩, hx => by
  simp at hx
  subst hx
  refine ⟨B, cap, hc, ht, fun j hj => ?_⟩
  rw [hcs, Nat.zero_mul, Nat.zero_add, List.getElem?_append_left (by simpa [ndCell] using hj)]
 | y :: l, cs, i + 1, x, ⟨B, cap, rest, hcs, hc, ht, hr⟩, hx => by
  obtain ⟨B', cap', hc', ht', hg⟩ := CellsAre.get (i := i) hr (by simpa using hx)
  refine ⟨B', cap', hc', ht', fun j hj => ?_⟩
  have hl : (ndCell y B cap).length = 8 := by simp [ndCell]
  rw [hcs, List.getElem?_append_right (by omega), hl, show (i + 1) * 8 + j - 8 = i * 8 + j by omega]
  exact hg j hj
theorem trees_of {w : World} {base : Nat} {v : Value} {P : Nat → Prop} {l : List Nd} {cs : List Value} (h : w.ownsRow base 28 8 v l.length cs) (hc : CellsAre w P l cs) (hP : ∀ g, v.ownBlock = some g → P g) :
  ∃ A cap, v = .slice A l.length cap ∧ l.length ≤ cap ∧ TreesAt w P (Trees.of l) A := by
 obtain ⟨h1, h2 | ⟨g, cap, cur, e1, e2, h3⟩⟩ := id h
 ·obtain ⟨rfl, h0⟩ := h2
  have : l = [] := List.length_eq_zero_iff.1 h0
  subst this
  exact ⟨none, 0, rfl, Nat.le_refl _, trivial⟩
 ·subst e1
  refine ⟨_, cap, rfl, h3.2.1, TreesAt.mk (hP g rfl) (fun i x hx => ?_)⟩
  rw [Trees.list_of] at hx
  obtain ⟨B, cap', hc', ht', hg⟩ := hc.get hx
  have hcl := h.cells (g := g) rfl
  have hat : ∀ j u, j < 8 → (ndCell x B cap')[j]? = some u → w.cell? ⟨g, 0 + i * 8 + j, none⟩ = some u := fun j u hj hu => by
   have := hcl (i * 8 + j) u ((hg j hj).trans hu)
   have e : (⟨g, 0, none⟩ : Addr).add (i * 8 + j) = ⟨g, 0 + i * 8 + j, none⟩ := by
    rcases Nat.eq_zero_or_pos (i * 8 + j) with hz | hz
    ·rw [show 0 + i * 8 + j = 0 by omega, hz]; rfl
    ·have h1 : ¬ (i * 8 = 0 ∧ j = 0) := by omega
     simp [Addr.add, h1]
   exact e ▸ this
  exact ⟨B, cap', hc', ⟨hat 0 _ (by decide) rfl, hat 1 _ (by decide) rfl, hat 2 _ (by decide) rfl, hat 3 _ (by decide) rfl, hat 4 _ (by decide) rfl, hat 5 _ (by decide) rfl, hat 6 _ (by decide) rfl, hat 7 _ (by decide) rfl⟩, ht'⟩
end
section
def isDig (c : Nat) : Bool := decide (48 ≤ c) && decide (c ≤ 57)
def digs (bs : List Nat) (i : Nat) : List Nat := (bs.drop i).takeWhile isDig
def decVal (ds : List Nat) : Nat := ds.foldl (fun v c => v * 10 + (c - 48)) 0
def badForm (ds : List Nat) : Bool := decide (ds.length = 0) || (byteAt ds 0 == 48) && decide (1 < ds.length)
def takeS (bs : List Nat) (i : Nat) : Option (Nat × Nat) := if badForm (digs bs i) = true ∨ 1000 < decVal (digs bs i) then none else some (decVal (digs bs i), i + (digs bs i).length)
def takeErr (bs : List Nat) (i : Nat) : Int := if badForm (digs bs i) = true then 3 else 2
theorem takeErr_pos (bs : List Nat) (i : Nat) : takeErr bs i = 2 ∨ takeErr bs i = 3 := by unfold takeErr; split <;> simp
theorem takeWhile_more {p : Nat → Bool} : ∀ (l : List Nat) (k : Nat), k ≤ (l.takeWhile p).length → ∀ h : k < l.length, p l[k] = true → k + 1 ≤ (l.takeWhile p).length
 | [], k, _, h, _ => by simp at h
 | x :: l, 0, _, h, hp => by
  simp at hp
  rw [List.takeWhile_cons, hp]; simp
 | x :: l, k + 1, hk, h, hp => by
  rw [List.takeWhile_cons] at hk ⊢
  cases hx : p x
  ·rw [hx] at hk; simp at hk
  ·rw [hx] at hk
   simp at hk ⊢
   exact takeWhile_more l k hk (by simpa using h) (by simpa using hp)
theorem takeWhile_stop {p : Nat → Bool} : ∀ (l : List Nat) (k : Nat), k ≤ (l.takeWhile p).length → ∀ h : k < l.length, p l[k] = false → (l.takeWhile p).length = k
 | [], k, _, h, _ => by simp at h
 | x :: l, 0, _, h, hp => by
  simp at hp
  rw [List.takeWhile_cons, hp]; simp
 | x :: l, k + 1, hk, h, hp => by
  rw [List.takeWhile_cons] at hk ⊢
  cases hx : p x
  ·rw [hx] at hk; simp at hk
  ·rw [hx] at hk
   simp at hk ⊢
   exact takeWhile_stop l k hk (by simpa using h) (by simpa using hp)
theorem takeWhile_all {p : Nat → Bool} : ∀ (l : List Nat), ∀ c ∈ l.takeWhile p, p c = true
 | [], c, h => by simp at h
 | x :: l, c, h => by
  rw [List.takeWhile_cons] at h
  cases hx : p x
  ·rw [hx] at h; simp at h
  ·rw [hx] at h
   simp at h
   rcases h with rfl | h
   ·exact hx
   ·exact takeWhile_all l c h
theorem takeWhile_self {p : Nat → Bool} : ∀ (l : List Nat), (∀ c ∈ l, p c = true) → l.takeWhile p = l
 | [], _ => rfl
 | x :: l, h => by
  rw [List.takeWhile_cons, h x (by simp)]
  simp
  exact takeWhile_self l (fun c hc => h c (by simp [hc]))
theorem takeWhile_len {p : Nat → Bool} (l : List Nat) : (l.takeWhile p).length ≤ l.length := (List.takeWhile_prefix p).length_le
theorem byteAt_drop (bs : List Nat) (i k : Nat) : byteAt (bs.drop i) k = byteAt bs (i + k) := by
 unfold byteAt; rw [List.getD_eq_getElem?_getD, List.getD_eq_getElem?_getD, List.getElem?_drop]
theorem byteAt_get {bs : List Nat} {k : Nat} (h : k < bs.length) : bs[k] = byteAt bs k := by
 unfold byteAt; rw [List.getD_eq_getElem?_getD, List.getElem?_eq_getElem h]; rfl
theorem digs_more {bs : List Nat} {i k : Nat} (hk : k ≤ (digs bs i).length) (h : i + k < bs.length) (hd : isDig (byteAt bs (i + k)) = true) : k + 1 ≤ (digs bs i).length := by
 have hl : k < (bs.drop i).length := by simp; omega
 exact takeWhile_more _ k hk hl (by rw [byteAt_get hl, byteAt_drop]; exact hd)
theorem digs_stop {bs : List Nat} {i k : Nat} (hk : k ≤ (digs bs i).length) (h : i + k < bs.length) (hd : isDig (byteAt bs (i + k)) = false) : (digs bs i).length = k := by
 have hl : k < (bs.drop i).length := by simp; omega
 exact takeWhile_stop _ k hk hl (by rw [byteAt_get hl, byteAt_drop]; exact hd)
theorem digs_len (bs : List Nat) (i : Nat) : (digs bs i).length ≤ bs.length - i := by
 have := takeWhile_len (p := isDig) (bs.drop i)
 simpa [digs] using this
theorem digs_end {bs : List Nat} {i k : Nat} (hk : k ≤ (digs bs i).length) (h : bs.length ≤ i + k) : (digs bs i).length = k := by
 have := digs_len bs i
 omega
theorem digs_dig (bs : List Nat) (i : Nat) : ∀ c ∈ digs bs i, isDig c = true := fun c hc => by
 exact takeWhile_all _ c hc
theorem digs_take (bs : List Nat) (i : Nat) : digs bs i = (bs.drop i).take (digs bs i).length := List.prefix_iff_eq_take.1 (List.takeWhile_prefix _)
theorem isDig_iff (c : Nat) : isDig c = true ↔ 48 ≤ c ∧ c ≤ 57 := by simp [isDig]
theorem digs_own {ds : List Nat} (h : ∀ c ∈ ds, isDig c = true) : digs ds 0 = ds := by
 unfold digs
 rw [List.drop_zero]
 exact takeWhile_self _ h
theorem decVal_snoc (ds : List Nat) (c : Nat) : decVal (ds ++ [c]) = decVal ds * 10 + (c - 48) := by simp [decVal]
theorem decVal_take {ds : List Nat} {k : Nat} (h : k < ds.length) : decVal (ds.take (k + 1)) = decVal (ds.take k) * 10 + (byteAt ds k - 48) := by
 have e : ds[k]? = some (byteAt ds k) := by rw [List.getElem?_eq_getElem h, byteAt_get h]
 rw [List.take_add_one, e]
 exact decVal_snoc _ _
theorem decVal_mono (ds : List Nat) : ∀ k m, k ≤ m → m ≤ ds.length → decVal (ds.take k) ≤ decVal (ds.take m)
 | k, 0, h, _ => by rw [show k = 0 by omega]; exact Nat.le_refl _
 | k, m + 1, h, hm => by
  by_cases e : k = m + 1
  ·rw [e]; exact Nat.le_refl _
  ·have h1 := decVal_mono ds k m (by omega) (by omega)
   rw [decVal_take (by omega)]
   omega
theorem decVal_le (ds : List Nat) (k : Nat) (hk : k ≤ ds.length) : decVal (ds.take k) ≤ decVal ds := by
 have h := decVal_mono ds k ds.length hk (Nat.le_refl _)
 rwa [List.take_length] at h
theorem badForm_false {ds : List Nat} (h : badForm ds = false) : 0 < ds.length ∧ (1 < ds.length → byteAt ds 0 ≠ 48) := by
 unfold badForm at h
 simp at h
 refine ⟨?_, fun h1 h2 => ?_⟩
 ·rcases Nat.eq_zero_or_pos ds.length with e | e
  ·have := List.length_eq_zero_iff.1 e; simp_all
  ·exact e
 ·have := h.2 h2; omega
theorem badForm_true {ds : List Nat} (h : badForm ds = true) : ds.length = 0 ∨ (byteAt ds 0 = 48 ∧ 1 < ds.length) := by
 unfold badForm at h
 simp only [Bool.or_eq_true, Bool.and_eq_true, decide_eq_true_eq, beq_iff_eq] at h
 exact h
theorem takeS_bad {bs : List Nat} {i : Nat} (h : badForm (digs bs i) = true) : takeS bs i = none ∧ takeErr bs i = 3 := ⟨if_pos (.inl h), if_pos h⟩
theorem takeS_big {bs : List Nat} {i : Nat} (h : badForm (digs bs i) = false) (h2 : 1000 < decVal (digs bs i)) : takeS bs i = none ∧ takeErr bs i = 2 := ⟨if_pos (.inr h2), if_neg (by rw [h]; decide)⟩
theorem takeS_ok {bs : List Nat} {i : Nat} (h : badForm (digs bs i) = false) (h2 : decVal (digs bs i) ≤ 1000) : takeS bs i = some (decVal (digs bs i), i + (digs bs i).length) := if_neg (by rw [h]; simp; omega)
theorem takeS_some {bs : List Nat} {i v j : Nat} (h : takeS bs i = some (v, j)) : v ≤ 1000 ∧ i < j ∧ j ≤ bs.length := by
 unfold takeS at h
 split at h
 ·cases h
 ·rename_i hc
  rw [not_or] at hc
  obtain ⟨h1, h2⟩ := hc
  have h3 := badForm_false (by simpa using h1)
  have h4 := digs_len bs i
  simp at h
  omega
end
section
open Go.RowKit
theorem ret_set {fn : Func} {t : Tmp} (h : fn.results = #[.cell t 25]) {tmps : Array Value} {w : World} {g : Nat} {a b c d : Value} (hp : tmps.getD t undef = .pointer (some ⟨g, 0, none⟩)) (hb : Blk w g 25 #[a, b, c, d]) :
  (results fn tmps).run Tryz.prog w = .ok (.agg #[a, b, c, d]) w :=
 results_cell_row h tmps w g _ _ _ _ hp hb Tryz.underlying25 rfl (by kernel_rfl)
theorem wrap_below {n : Nat} (h : n < 64) : IntKind.u64.wrap (IntKind.u64.wrap (2 ^ n) - 1) = ((2 ^ n - 1 : Nat) : Int) := by
 have h1 : 2 ^ n < 2 ^ 64 := Nat.pow_lt_pow_right (by decide) h
 have h2 : 0 < 2 ^ n := Nat.two_pow_pos n
 rw [IntKind.wrap_u64, IntKind.wrap_u64]
 have e : (2 : Int) ^ n = ((2 ^ n : Nat) : Int) := by simp
 rw [e]
 generalize 2 ^ n = k at *
 simp at h1
 omega
theorem below_any (n : Int) (w : World) (h0 : 0 ≤ n) (h1 : n ≤ 256) :
  Calls Tryz.prog 263 #[.int .i64 n] w fun e w' => e = .returned (.int .u64 ((2 ^ (min n.toNat 64) - 1 : Nat) : Int)) ∧ w = w' := by
 go_enter Tryz.func263, Tryz.ntmps263
 go_wp2
 ·have h : 64 ≤ n := by assumption
  go_ret
  rw [Nat.min_eq_right (by omega)]
  exact ⟨rfl, rfl⟩
 ·have h : n < 64 := by assumption
  go_ret
  rw [Nat.min_eq_left (by omega), wrap_below (by omega)]
  exact ⟨rfl, rfl⟩
@[go_sem] theorem index0 (a b c d : Value) (w : World) : (Instr.index 25 (.agg #[a, b, c, d]) (.int .i64 0)).run Tryz.prog w = .ok a w := by kernel_rfl
@[go_sem] theorem index1 (a b c d : Value) (w : World) : (Instr.index 25 (.agg #[a, b, c, d]) (.int .i64 1)).run Tryz.prog w = .ok b w := by kernel_rfl
@[go_sem] theorem index2 (a b c d : Value) (w : World) : (Instr.index 25 (.agg #[a, b, c, d]) (.int .i64 2)).run Tryz.prog w = .ok c w := by kernel_rfl
@[go_sem] theorem index3 (a b c d : Value) (w : World) : (Instr.index 25 (.agg #[a, b, c, d]) (.int .i64 3)).run Tryz.prog w = .ok d w := by kernel_rfl
theorem u64_xor_word (p : Nat → Bool) (i : Nat) : bits .xor .u64 IntKind.u64.max ((word p i : Nat) : Int) = ((word (fun c => !p c) i : Nat) : Int) := by
 rw [← xor_all]
 exact u64_xor_nat 18446744073709551615 _ (by decide) (word_lt p i)
theorem u64_or_word (p q : Nat → Bool) (i : Nat) : bits .or .u64 ((word p i : Nat) : Int) ((word q i : Nat) : Int) = ((word (fun c => p c || q c) i : Nat) : Int) := by
 rw [← word_or]
 exact u64_or_nat _ _ (word_lt p i) (word_lt q i)
set_option maxRecDepth 100000 in
theorem not_any (p : Nat → Bool) (w : World)  :
  Calls Tryz.prog 232 #[.agg #[.int .u64 (word p 0), .int .u64 (word p 1), .int .u64 (word p 2), .int .u64 (word p 3)]] w fun e w' => e = .returned (.agg #[.int .u64 (word (fun c => !p c) 0), .int .u64 (word (fun c => !p c) 1), .int .u64 (word (fun c => !p c) 2), .int .u64 (word (fun c => !p c) 3)]) ∧ Below w.heap.size w w' := by
 go_enter Tryz.func232, Tryz.ntmps232
 go_wp2
 refine wp_loop_rounds 5 ?_
 rw [rounds_succ]
 go_wp2
 rw [rounds_succ]
 go_wp2
 rw [rounds_succ]
 go_wp2
 rw [rounds_succ]
 go_wp2
 rw [rounds_succ]
 go_wp2
 refine bodyPost_ret (v := .agg #[.int .u64 (word (fun c => !p c) 0), .int .u64 (word (fun c => !p c) 1), .int .u64 (word (fun c => !p c) 2), .int .u64 (word (fun c => !p c) 3)]) (by simp [results, Tryz.results232, go_sem, u64_xor_word]) rfl ⟨rfl, ?_⟩
 repeat (first | exact Below.refl _ _ | refine Below.setCell ?_ (by simp) _ | refine Below.alloc ?_ (by simp; try omega) _)
theorem andNot_span (lo hi i T F : Nat) (hT : min T 64 = min (hi + 1 - 64 * i) 64) (hF : F = lo - 64 * i) (hlt : lo - 64 * i < min (hi + 1 - 64 * i) 64) :
  bits .andNot .u64 ((2 ^ (min T 64) - 1 : Nat) : Int) ((2 ^ (min F 64) - 1 : Nat) : Int) = ((word (between lo hi) i : Nat) : Int) := by
 rw [← word_between lo hi i _ _ rfl rfl hlt, hT, hF, Nat.min_eq_left (a := lo - 64 * i) (by omega)]
 have h1 : 2 ^ (min (hi + 1 - 64 * i) 64) ≤ 2 ^ 64 := Nat.pow_le_pow_right (by decide) (by omega)
 have h2 : 2 ^ (lo - 64 * i) ≤ 2 ^ 64 := Nat.pow_le_pow_right (by decide) (by omega)
 have h3 : 0 < 2 ^ (lo - 64 * i) := Nat.two_pow_pos _
 have h4 : 0 < 2 ^ (min (hi + 1 - 64 * i) 64) := Nat.two_pow_pos _
 exact u64_andNot_nat _ _ (by omega) (by omega)
set_option maxRecDepth 100000 in
theorem span_any (lo hi : Nat) (w : World) (h0 : lo < 256) (h1 : hi < 256) :
  Calls Tryz.prog 259 #[.int .u8 (lo : Int), .int .u8 (hi : Int)] w fun e w' => e = .returned (.agg #[.int .u64 (word (between lo hi) 0), .int .u64 (word (between lo hi) 1), .int .u64 (word (between lo hi) 2), .int .u64 (word (between lo hi) 3)]) ∧ Below w.heap.size w w' := by
 by_cases hgt : hi < lo
 ·go_enter Tryz.func259, Tryz.ntmps259
  go_wp2
  refine bodyPost_ret (v := .agg #[.int .u64 (word (between lo hi) 0), .int .u64 (word (between lo hi) 1), .int .u64 (word (between lo hi) 2), .int .u64 (word (between lo hi) 3)]) ?_ rfl ⟨rfl, ?_⟩
  ·rw [word_between_none _ _ 0 (by omega), word_between_none _ _ 1 (by omega), word_between_none _ _ 2 (by omega), word_between_none _ _ 3 (by omega)]
   simp [results, Tryz.results259, go_sem]
  ·exact ((Below.refl _ _).alloc (Nat.le_refl _) _).alloc (by simp) _
 ·go_enter Tryz.func259, Tryz.ntmps259
  go_wp2
  go_loopw [13] (fun i wr => ∃ (k : Int) (a b c d : Nat), i = .int .i64 k ∧ wr = (w.alloc (.cells #[.int .u64 0, .int .u64 0, .int .u64 0, .int .u64 0] 25)).alloc (.cells #[.int .u64 a, .int .u64 b, .int .u64 c, .int .u64 d] 25) ∧
    0 ≤ k ∧ k ≤ 4 ∧ Hid (a = part (between lo hi) k 0 ∧ b = part (between lo hi) k 1 ∧ c = part (between lo hi) k 2 ∧ d = part (between lo hi) k 3)) (fun i _ => 4 - (intOf i).toNat)
  case atStart => exact ⟨0, 0, 0, 0, 0, rfl, rfl, by omega, by omega, rfl, rfl, rfl, rfl⟩
  case round =>
   obtain ⟨k, a, b, c, d, rfl, rfl, hk0, hk4, H⟩ := hrel
   obtain hk | hk | hk | hk | hk : k = 0 ∨ k = 1 ∨ k = 2 ∨ k = 3 ∨ k = 4 := by omega
   ·subst hk
    go_wp2_with (go_at_call 263; refine (below_any _ _ (by omega) (by omega)).mono ?_; rintro e w' ⟨rfl, rfl⟩)
    all_goals go_light
    all_goals obtain ⟨rfl, rfl, rfl, rfl⟩ := H.out
    all_goals go_roundw
    all_goals try case measure => simp [intOf]
    all_goals first
     | exact ⟨1, part (between lo hi) 1 0, part (between lo hi) 1 1, part (between lo hi) 1 2, part (between lo hi) 1 3, rfl, by rw [andNot_span lo hi 0 _ _ (by omega) (by omega) (by omega)]; rfl, by omega, by omega, rfl, rfl, rfl, rfl⟩
     | exact ⟨1, part (between lo hi) 0 0, part (between lo hi) 0 1, part (between lo hi) 0 2, part (between lo hi) 0 3, rfl, rfl, by omega, by omega, ⟨by simp [part, word_between_none lo hi 0 (by omega)], by simp [part, word_between_none lo hi 0 (by omega)], by simp [part, word_between_none lo hi 0 (by omega)], by simp [part, word_between_none lo hi 0 (by omega)]⟩⟩
   ·subst hk
    go_wp2_with (go_at_call 263; refine (below_any _ _ (by omega) (by omega)).mono ?_; rintro e w' ⟨rfl, rfl⟩)
    all_goals go_light
    all_goals obtain ⟨rfl, rfl, rfl, rfl⟩ := H.out
    all_goals go_roundw
    all_goals try case measure => simp [intOf]
    all_goals first
     | exact ⟨2, part (between lo hi) 2 0, part (between lo hi) 2 1, part (between lo hi) 2 2, part (between lo hi) 2 3, rfl, by rw [andNot_span lo hi 1 _ _ (by omega) (by omega) (by omega)]; rfl, by omega, by omega, rfl, rfl, rfl, rfl⟩
     | exact ⟨2, part (between lo hi) 1 0, part (between lo hi) 1 1, part (between lo hi) 1 2, part (between lo hi) 1 3, rfl, rfl, by omega, by omega, ⟨by simp [part, word_between_none lo hi 1 (by omega)], by simp [part, word_between_none lo hi 1 (by omega)], by simp [part, word_between_none lo hi 1 (by omega)], by simp [part, word_between_none lo hi 1 (by omega)]⟩⟩
   ·subst hk
    go_wp2_with (go_at_call 263; refine (below_any _ _ (by omega) (by omega)).mono ?_; rintro e w' ⟨rfl, rfl⟩)
    all_goals go_light
    all_goals obtain ⟨rfl, rfl, rfl, rfl⟩ := H.out
    all_goals go_roundw
    all_goals try case measure => simp [intOf]
    all_goals first
     | exact ⟨3, part (between lo hi) 3 0, part (between lo hi) 3 1, part (between lo hi) 3 2, part (between lo hi) 3 3, rfl, by rw [andNot_span lo hi 2 _ _ (by omega) (by omega) (by omega)]; rfl, by omega, by omega, rfl, rfl, rfl, rfl⟩
     | exact ⟨3, part (between lo hi) 2 0, part (between lo hi) 2 1, part (between lo hi) 2 2, part (between lo hi) 2 3, rfl, rfl, by omega, by omega, ⟨by simp [part, word_between_none lo hi 2 (by omega)], by simp [part, word_between_none lo hi 2 (by omega)], by simp [part, word_between_none lo hi 2 (by omega)], by simp [part, word_between_none lo hi 2 (by omega)]⟩⟩
   ·subst hk
    go_wp2_with (go_at_call 263; refine (below_any _ _ (by omega) (by omega)).mono ?_; rintro e w' ⟨rfl, rfl⟩)
    all_goals go_light
    all_goals obtain ⟨rfl, rfl, rfl, rfl⟩ := H.out
    all_goals go_roundw
    all_goals try case measure => simp [intOf]
    all_goals first
     | exact ⟨4, part (between lo hi) 4 0, part (between lo hi) 4 1, part (between lo hi) 4 2, part (between lo hi) 4 3, rfl, by rw [andNot_span lo hi 3 _ _ (by omega) (by omega) (by omega)]; rfl, by omega, by omega, rfl, rfl, rfl, rfl⟩
     | exact ⟨4, part (between lo hi) 3 0, part (between lo hi) 3 1, part (between lo hi) 3 2, part (between lo hi) 3 3, rfl, rfl, by omega, by omega, ⟨by simp [part, word_between_none lo hi 3 (by omega)], by simp [part, word_between_none lo hi 3 (by omega)], by simp [part, word_between_none lo hi 3 (by omega)], by simp [part, word_between_none lo hi 3 (by omega)]⟩⟩
   ·subst hk
    go_wp2
    go_light
    obtain ⟨rfl, rfl, rfl, rfl⟩ := H.out
    refine bodyPost_ret (v := .agg #[.int .u64 (word (between lo hi) 0), .int .u64 (word (between lo hi) 1), .int .u64 (word (between lo hi) 2), .int .u64 (word (between lo hi) 3)]) (by simp [results, Tryz.results259, go_sem, part]) rfl ⟨rfl, ?_⟩
    repeat (first | exact Below.refl _ _ | refine Below.setCell ?_ (by simp) _ | refine Below.alloc ?_ (by simp; try omega) _)
def anyOf (ps : List (Nat → Bool)) (k : Nat) (c : Nat) : Bool := (ps.take k).any (fun p => p c)
theorem anyOf_zero (ps : List (Nat → Bool)) : anyOf ps 0 = fun _ => false := by funext c; simp [anyOf]
theorem anyOf_succ {ps : List (Nat → Bool)} {k : Nat} {p : Nat → Bool} (h : ps[k]? = some p) : anyOf ps (k + 1) = fun c => anyOf ps k c || p c := by
 funext c
 unfold anyOf
 rw [List.take_add_one, h]
 simp
set_option maxRecDepth 100000 in
theorem union_any (A : Option Addr) (ps : List (Nat → Bool)) (cap : Nat) (w : World) (hA : SetsAt w w.heap.size A ps) (hn : ps.length ≤ 9223372036854775807) :
  Calls Tryz.prog 83 #[.slice A ps.length cap] w fun e w' => e = .returned (.agg #[.int .u64 (word (anyOf ps ps.length) 0), .int .u64 (word (anyOf ps ps.length) 1), .int .u64 (word (anyOf ps ps.length) 2), .int .u64 (word (anyOf ps ps.length) 3)]) ∧ Below w.heap.size w w' := by
 go_enter Tryz.func83, Tryz.ntmps83
 go_wp2
 go_loopw [10] (fun i wr => ∃ (k : Nat), i = .int .i64 k ∧ k ≤ ps.length ∧ Blk wr (w.heap.size + 1) 25 #[.int .u64 (word (anyOf ps k) 0), .int .u64 (word (anyOf ps k) 1), .int .u64 (word (anyOf ps k) 2), .int .u64 (word (anyOf ps k) 3)] ∧ Blk wr w.heap.size 25 #[.int .u64 0, .int .u64 0, .int .u64 0, .int .u64 0] ∧ Below w.heap.size w wr) (fun i _ => ps.length - (intOf i).toNat)
 case atStart =>
  refine ⟨0, rfl, Nat.zero_le _, ?_, ?_, ?_⟩
  ·rw [anyOf_zero]; simp only [word_none]; exact Blk.new_at (by simp)
  ·exact (Blk.new _ _ _).alloc _
  ·exact ((Below.refl _ _).alloc (Nat.le_refl _) _).alloc (by simp) _
 case round =>
  obtain ⟨k, rfl, hk, hs, hr, hb⟩ := hrel
  by_cases hlt : k < ps.length
  ·obtain ⟨b, o, rfl, hbb, hc⟩ := hA (by omega)
   have hz := hs.lt
   have hp := List.getElem?_eq_getElem hlt
   generalize ps[k] = p at hp
   obtain ⟨hp0, hp1, hp2, hp3⟩ := (hc k p hp).below hb hbb
   obtain ⟨s0, s1, s2, s3, f0, f1, f2, f3⟩ := hs.c4
   have Hp : Hid (ps[k]? = some p) := hp
   have Hs := Lib.hid hs
   have Hr := Lib.hid hr
   clear hp hc hs hr
   go_wp2
   refine wp_loop_rounds 5 ?_
   rw [rounds_succ]
   go_wp2
   rw [rounds_succ]
   go_wp2
   rw [rounds_succ]
   go_wp2
   rw [rounds_succ]
   go_wp2
   rw [rounds_succ]
   go_wp2
   go_light
   go_roundw
   case rel =>
    refine ⟨k + 1, by go_num, by omega, ?_, ?_, ?_⟩
    ·rw [anyOf_succ Hp.out]
     simp only [u64_or_word]
     exact Hs.out.set4.alloc _
    ·exact ((((Hr.out.far (by simp) _).far (by simp) _).far (by simp) _).far (by simp) _).alloc _
    ·repeat (first | exact hb | refine Below.setCell ?_ (by simp) _ | refine Below.alloc ?_ (by simp [World.setCell]; omega) _)
   case measure => simp [intOf]; omega
  ·have hz := hs.lt
   have he : ps.length = k := by omega
   obtain ⟨s0, s1, s2, s3, f0, f1, f2, f3⟩ := hs.c4
   obtain ⟨r0, r1, r2, r3, g0, g1, g2, g3⟩ := hr.c4
   have Hr := Lib.hid hr
   have He := Lib.hid he
   clear hr hs he
   go_wp2
   go_light
   refine bodyPost_ret (v := .agg #[.int .u64 (word (anyOf ps k) 0), .int .u64 (word (anyOf ps k) 1), .int .u64 (word (anyOf ps k) 2), .int .u64 (word (anyOf ps k) 3)]) (ret_set Tryz.results83 rfl Hr.out.set4) rfl ⟨by rw [He.out], ?_⟩
   repeat (first | exact hb | refine Below.setCell ?_ (by simp) _ | refine Below.alloc ?_ (by simp; omega) _)
theorem and1 (x : Nat) (hx : x < 18446744073709551616) (b : Bool) (hb : x % 2 = b.toNat) : (bits .and .u64 (x : Int) 1 == 1) = b := by
 rw [and_one_u64 _ (by omega) (by omega)]
 cases b
 ·have h : ((x : Int) % 2) = 0 := by simp at hb; omega
  rw [h]; rfl
 ·have h : ((x : Int) % 2) = 1 := by simp at hb; omega
  rw [h]; rfl
theorem has_bit (p : Nat → Bool) (c : Int) (i : Nat) (h0 : 0 ≤ c) (hi : c / 64 = (i : Int)) :
  (bits .and .u64 (((word p i : Nat) : Int) / 2 ^ (c % 64).toNat) 1 == 1) = p c.toNat := by
 obtain ⟨n, rfl⟩ := Int.eq_ofNat_of_zero_le h0
 have e1 : (((n : Int) % 64).toNat) = n % 64 := by omega
 have e2 : i = n / 64 := by omega
 have hl : word p (n / 64) / 2 ^ (n % 64) < 18446744073709551616 := Nat.lt_of_le_of_lt (Nat.div_le_self _ _) (word_lt p _)
 rw [e1, e2, show (((word p (n / 64) : Nat) : Int) / 2 ^ (n % 64)) = ((word p (n / 64) / 2 ^ (n % 64) : Nat) : Int) by simp, Int.toNat_natCast]
 exact and1 _ hl _ (word_bit p n)
theorem with_or (p : Nat → Bool) (c : Int) (i : Nat) (h0 : 0 ≤ c) (hi : c / 64 = (i : Int)) :
  bits .or .u64 ((word p i : Nat) : Int) (IntKind.u64.wrap (2 ^ (c % 64).toNat)) = ((word (withB p c.toNat) i : Nat) : Int) := by
 obtain ⟨n, rfl⟩ := Int.eq_ofNat_of_zero_le h0
 have e1 : (((n : Int) % 64).toNat) = n % 64 := by omega
 have e2 : i = n / 64 := by omega
 have h1 : 2 ^ (n % 64) < 2 ^ 64 := Nat.pow_lt_pow_right (by decide) (Nat.mod_lt _ (by decide))
 rw [e1, e2, Int.toNat_natCast, ← word_with, IntKind.wrap_u64]
 have e : (2 : Int) ^ (n % 64) % 18446744073709551616 = ((2 ^ (n % 64) : Nat) : Int) := by
  have e0 : (2 : Int) ^ (n % 64) = ((2 ^ (n % 64) : Nat) : Int) := by simp
  rw [e0]
  generalize 2 ^ (n % 64) = k at *
  simp at h1
  omega
 rw [e]
 exact u64_or_nat _ _ (word_lt p _) h1
theorem with_other (p : Nat → Bool) (c : Int) (i j : Nat) (h0 : 0 ≤ c) (hi : c / 64 = (i : Int)) (hj : j ≠ i) : word (withB p c.toNat) j = word p j :=
 word_with_other p c.toNat j (by omega)
theorem special_go (c : Int) (w : World) (h0 : 0 ≤ c) (h1 : c < 256) :
  Calls Tryz.prog 252 #[.int .u8 c] w fun e w' => e = .returned (.bool (isSpecial c.toNat)) ∧ w = w' := by
 obtain ⟨n, rfl⟩ := Int.eq_ofNat_of_zero_le h0
 go_enter Tryz.func252, Tryz.ntmps252
 go_wp2
 all_goals go_light
 all_goals go_ret
 all_goals refine ⟨ret_b ?_, rfl⟩
 all_goals simp at *
 all_goals simp [isSpecial]
 all_goals omega
theorem or32 (n : Nat) (h : n < 256) : (97 ≤ (n ||| 32) ∧ (n ||| 32) ≤ 122) ↔ ((97 ≤ n ∧ n ≤ 122) ∨ (65 ≤ n ∧ n ≤ 90)) := by
 have H : ∀ c : Fin 256, (97 ≤ (c.val ||| 32) ∧ (c.val ||| 32) ≤ 122) ↔ ((97 ≤ c.val ∧ c.val ≤ 122) ∨ (65 ≤ c.val ∧ c.val ≤ 90)) := by decide +kernel
 exact H ⟨n, h⟩
theorem letter_go (c : Int) (w : World) (h0 : 0 ≤ c) (h1 : c < 256) :
  Calls Tryz.prog 257 #[.int .u8 c] w fun e w' => e = .returned (.bool (isWord c.toNat)) ∧ w = w' := by
 obtain ⟨n, rfl⟩ := Int.eq_ofNat_of_zero_le h0
 have hm := or32 n (by omega)
 have he : bits BinOp.or IntKind.u8 (n : Int) 32 = ((n ||| 32 : Nat) : Int) := u8_or_nat n 32 (by omega) (by decide)
 have Hm := Lib.hid hm
 have He := Lib.hid he
 clear hm he
 go_enter Tryz.func257, Tryz.ntmps257
 go_wp2
 all_goals go_light
 all_goals go_ret
 all_goals refine ⟨ret_b ?_, rfl⟩
 all_goals (rw [Bool.eq_iff_iff]; simp [isWord]; have h1 := Hm.out; have h2 := He.out; generalize bits BinOp.or IntKind.u8 (n : Int) 32 = m at *; generalize n ||| 32 = k at *; omega)
theorem value_go (c : Int) (w : World) (h0 : 0 ≤ c) (h1 : c < 256) :
  Calls Tryz.prog 256 #[.int .u8 c] w fun e w' => e = .returned (.int .i64 (digVal c.toNat)) ∧ w = w' := by
 obtain ⟨n, rfl⟩ := Int.eq_ofNat_of_zero_le h0
 go_enter Tryz.func256, Tryz.ntmps256
 go_wp2
 all_goals go_light
 all_goals go_ret
 all_goals refine ⟨ret_i ?_, rfl⟩
 all_goals (simp [digVal]; (try split) <;> (try split) <;> omega)
def sixteen : ByteArray := { data := #[48, 49, 50, 51, 52, 53, 54, 55, 56, 57, 97, 98, 99, 100, 101, 102] }
def Rd (w : World) (g : Nat) (A : Option Addr) (cap : Nat) (bs : List Nat) (i start kind place : Int) : Prop :=
 Blk w g 259 #[.slice A bs.length cap, .int .i64 i, .int .i64 start, .int .i64 kind, .int .i64 place]
theorem Rd.cells {w : World} {g : Nat} {A : Option Addr} {cap : Nat} {bs : List Nat} {i start kind place : Int} (h : Rd w g A cap bs i start kind place) :
  w.cell? ⟨g, 0, none⟩ = some (.slice A bs.length cap) ∧ w.cell? ⟨g, 1, none⟩ = some (.int .i64 i) ∧ w.cell? ⟨g, 2, none⟩ = some (.int .i64 start) ∧ w.cell? ⟨g, 3, none⟩ = some (.int .i64 kind) ∧ w.cell? ⟨g, 4, none⟩ = some (.int .i64 place) ∧
  w.frozen? ⟨g, 1, none⟩ = false ∧ w.frozen? ⟨g, 3, none⟩ = false ∧ w.frozen? ⟨g, 4, none⟩ = false :=
 ⟨Blk.cell h 0, Blk.cell h 1, Blk.cell h 2, Blk.cell h 3, Blk.cell h 4, Blk.frozen h 1, Blk.frozen h 3, Blk.frozen h 4⟩
theorem Rd.lt {w : World} {g : Nat} {A : Option Addr} {cap : Nat} {bs : List Nat} {i start kind place : Int} (h : Rd w g A cap bs i start kind place) : g < w.heap.size := Blk.lt h
theorem Rd.move {w : World} {g : Nat} {A : Option Addr} {cap : Nat} {bs : List Nat} {i start kind place : Int} (h : Rd w g A cap bs i start kind place) (j : Int) : Rd (w.setCell ⟨g, 1, none⟩ (.int .i64 j)) g A cap bs j start kind place := Blk.set_ h 1 _
theorem Rd.fail {w : World} {g : Nat} {A : Option Addr} {cap : Nat} {bs : List Nat} {i start kind place : Int} (h : Rd w g A cap bs i start kind place) (k p : Int) : Rd ((w.setCell ⟨g, 3, none⟩ (.int .i64 k)).setCell ⟨g, 4, none⟩ (.int .i64 p)) g A cap bs i start k p :=
 Blk.set_ (Blk.set_ h 3 _) 4 _
theorem Rd.drewN {w : World} {g : Nat} {A : Option Addr} {cap : Nat} {bs : List Nat} {i start kind place : Int} (h : Rd w g A cap bs i start kind place) (n : Nat) : Rd (w.drewN n) g A cap bs i start kind place := h
theorem here_go (g : Nat) (A : Option Addr) (cap : Nat) (bs : List Nat) (i start kind place : Int) (c : Int) (B : Nat) (w : World) (hr : Rd w g A cap bs i start kind place)
  (hA : BytesAt w B A bs) (hc0 : 0 ≤ c) (hc1 : c < 256) :
  Calls Tryz.prog 243 #[.pointer (some ⟨g, 0, none⟩), .int .u8 c] w fun e w' => e = .returned (.bool (hasAt bs i c.toNat)) ∧ ∃ n, w' = w.drewN n := by
 obtain ⟨c, rfl⟩ := Int.eq_ofNat_of_zero_le hc0
 rw [Int.toNat_natCast]
 have hc : c < 256 := by omega
 obtain ⟨h0, h1, _, _, _, _, _, _⟩ := hr.cells
 clear hr
 obtain ⟨hb, hl, hA⟩ := hA
 by_cases hneg : i < 0
 ·have hd : decide (0 ≤ i) = false := by simp; omega
  have H := Lib.hid (hasAt_neg (bs := bs) c hneg)
  clear hA
  go_enter Tryz.func243, Tryz.ntmps243
  go_wp2
  go_quiet (fail)
  go_wp2
  go_light
  go_ret
  exact ⟨ret_b H.out.symm, _, rfl⟩
 ·by_cases hout : (bs.length : Int) ≤ i
  ·have hd : decide (i < (bs.length : Int)) = false := by simp; omega
   have H := Lib.hid (hasAt_out (bs := bs) c hout)
   clear hA
   go_enter Tryz.func243, Tryz.ntmps243
   go_wp2
   go_quiet (fail)
   go_wp2
   go_light
   go_ret
   exact ⟨ret_b H.out.symm, _, rfl⟩
  ·obtain ⟨k, rfl⟩ := Int.eq_ofNat_of_zero_le (show 0 ≤ i by omega)
   obtain ⟨b, o, rfl, hbB, hcell⟩ := hA (by omega)
   have hk := hcell k (by omega)
   have hlt := byteAt_lt hb k
   have hp : (0 : Int) ≤ (k : Int) := by omega
   have hq : (k : Int) < (bs.length : Int) := by omega
   have H := Lib.hid (hasAt_in (bs := bs) c (show k < bs.length by omega))
   clear hcell
   go_enter Tryz.func243, Tryz.ntmps243
   go_wp2
   go_quiet (fail)
   go_wp2
   go_light
   go_ret
   refine ⟨ret_b ?_, _, rfl⟩
   rw [H.out, Bool.eq_iff_iff]
   simp
   try omega
theorem only_refl (w : World) (r : Option Nat) : w.grownBy w r := ⟨rfl, rfl, rfl, Nat.le_refl _, fun _ _ _ => rfl⟩
theorem only_drewN {a w : World} {row : Option Nat} (h : a.grownBy w row) (n : Nat) : a.grownBy (w.drewN n) row := ⟨h.os, h.tape, h.output, h.size, h.block⟩
theorem only_drew {a w : World} {row : Option Nat} (h : a.grownBy w row) : a.grownBy w.drew row := ⟨h.os, h.tape, h.output, h.size, h.block⟩
theorem only_set {a w : World} {g : Nat} (h : a.grownBy w (some g)) (o : Nat) (u : Value) : a.grownBy (w.setCell ⟨g, o, none⟩ u) (some g) :=
 ⟨h.os, h.tape, h.output, by simpa [World.setCell] using h.size, fun i hi hne => (Below.heap_setCell w ⟨g, o, none⟩ u i (by rintro rfl; exact hne rfl)).trans (h.block i hi hne)⟩
theorem only_set' {a w : World} {g g' : Nat} (h : a.grownBy w (some g)) (hg : a.heap.size ≤ g') (o : Nat) (u : Value) : a.grownBy (w.setCell ⟨g', o, none⟩ u) (some g) :=
 ⟨h.os, h.tape, h.output, by simpa [World.setCell] using h.size, fun i hi hne => (Below.heap_setCell w ⟨g', o, none⟩ u i (by dsimp only; omega)).trans (h.block i hi hne)⟩
theorem only_alloc {a w : World} {row : Option Nat} (h : a.grownBy w row) (o : Obj) : a.grownBy (w.alloc o) row :=
 ⟨h.os, h.tape, h.output, Nat.le_trans h.size (by simp), fun i hi hne => (Below.heap_alloc w o i (Nat.lt_of_lt_of_le hi h.size)).trans (h.block i hi hne)⟩
theorem only_trans {a b c : World} {row : Option Nat} (h : a.grownBy b row) (k : b.grownBy c row) : a.grownBy c row :=
 ⟨k.os.trans h.os, k.tape.trans h.tape, k.output.trans h.output, Nat.le_trans h.size k.size, fun i hi hne => (k.block i (Nat.lt_of_lt_of_le hi h.size) hne).trans (h.block i hi hne)⟩
theorem only_below {a b c : World} {row : Option Nat} (h : a.grownBy b row) (k : Below b.heap.size b c) : a.grownBy c row :=
 ⟨k.os.trans h.os, k.tape.trans h.tape, k.output.trans h.output, Nat.le_trans h.size k.size, fun i hi hne => (k.block i (Nat.lt_of_lt_of_le hi h.size)).trans (h.block i hi hne)⟩
theorem take_go (g : Nat) (A : Option Addr) (cap : Nat) (bs : List Nat) (i start kind place : Int) (c : Int) (B : Nat) (w : World) (hr : Rd w g A cap bs i start kind place) (hA : BytesAt w B A bs) (hc0 : 0 ≤ c) (hc1 : c < 256) :
  Calls Tryz.prog 245 #[.pointer (some ⟨g, 0, none⟩), .int .u8 c] w fun e w' => e = .returned (.bool (hasAt bs i c.toNat)) ∧
   Rd w' g A cap bs (if hasAt bs i c.toNat = true then i + 1 else i) start kind place ∧ w.grownBy w' (some g) := by
 obtain ⟨c, rfl⟩ := Int.eq_ofNat_of_zero_le hc0
 rw [Int.toNat_natCast]
 obtain ⟨c0, c1, c2, c3, c4, f1, f3, f4⟩ := hr.cells
 have Hr := Lib.hid hr
 have HA := Lib.hid hA
 clear hr hA
 by_cases hh : hasAt bs i c = true
 ·obtain ⟨k, hi, hk, hkc⟩ := hasAt_yes hh
  obtain rfl : i = (k : Int) := hi
  have hl := HA.out.2.1
  have Hh := Lib.hid hkc
  clear hkc
  go_enter Tryz.func245, Tryz.ntmps245
  go_wp2_with (go_at_call 243; refine (here_go g A cap bs (k : Int) _ _ _ c B _ Hr.out HA.out (by omega) (by omega)).mono ?_; rintro e w1 ⟨rfl, n1, rfl⟩)
  go_light
  go_ret
  exact ⟨rfl, (Hr.out.drewN n1).move _, only_set (only_drewN (only_refl _ _) _) _ _⟩
 ·have hf : hasAt bs i c = false := by simpa using hh
  go_enter Tryz.func245, Tryz.ntmps245
  go_wp2_with (go_at_call 243; refine (here_go g A cap bs i _ _ _ c B _ Hr.out HA.out (by omega) (by omega)).mono ?_; rintro e w1 ⟨rfl, n1, rfl⟩)
  go_light
  go_ret
  exact ⟨rfl, Hr.out.drewN n1, only_drewN (only_refl _ _) _⟩
theorem left_go (g : Nat) (A : Option Addr) (cap : Nat) (bs : List Nat) (i start kind place : Int) (w : World) (hr : Rd w g A cap bs i start kind place) (hl : bs.length ≤ 140737488355328) (h0 : 0 ≤ i) (h1 : i ≤ (bs.length : Int)) :
  Calls Tryz.prog 254 #[.pointer (some ⟨g, 0, none⟩)] w fun e w' => e = .returned (.int .i64 ((bs.length : Int) - i)) ∧ ∃ n, w' = w.drewN n := by
 obtain ⟨c0, c1, c2, c3, c4, f1, f3, f4⟩ := hr.cells
 clear hr
 go_enter Tryz.func254, Tryz.ntmps254
 go_wp2
 go_quiet (fail)
 go_wp2
 go_light
 go_ret
 refine ⟨ret_i ?_, _, rfl⟩
 simp
 first | omega | (rw [IntKind.wrap_i64]; omega) | trace_state
theorem fail_go (g : Nat) (A : Option Addr) (cap : Nat) (bs : List Nat) (i start kind place k p : Int) (w : World) (hr : Rd w g A cap bs i start kind place) :
  Calls Tryz.prog 255 #[.pointer (some ⟨g, 0, none⟩), .int .i64 k, .int .i64 p] w fun e w' => e = .returned (.tuple #[]) ∧
   Rd w' g A cap bs i start (if kind = 0 then k else kind) (if kind = 0 then p else place) ∧ w.grownBy w' (some g) := by
 obtain ⟨c0, c1, c2, c3, c4, f1, f3, f4⟩ := hr.cells
 have Hr := Lib.hid hr
 clear hr
 by_cases hk : kind = 0
 ·subst hk
  go_enter Tryz.func255, Tryz.ntmps255
  go_wp2
  go_light
  go_end0
  exact ⟨rfl, Hr.out.fail k p, only_set (only_set (only_refl _ _) _ _) _ _⟩
 ·have hb : (kind == 0) = false := by simpa using hk
  go_enter Tryz.func255, Tryz.ntmps255
  go_wp2
  go_light
  go_end0
  exact ⟨rfl, Hr.out, only_refl _ _⟩
theorem take_yes (g : Nat) (A : Option Addr) (cap : Nat) (bs : List Nat) (i start kind place : Int) (c : Int) (B : Nat) (w : World) (hr : Rd w g A cap bs i start kind place) (hA : BytesAt w B A bs) (hc0 : 0 ≤ c) (hc1 : c < 256) (h : hasAt bs i c.toNat = true) :
  Calls Tryz.prog 245 #[.pointer (some ⟨g, 0, none⟩), .int .u8 c] w fun e w' => e = .returned (.bool true) ∧ Rd w' g A cap bs (i + 1) start kind place ∧ w.grownBy w' (some g) :=
 (take_go g A cap bs i start kind place c B w hr hA hc0 hc1).mono fun _ _ q => by simpa [h] using q
theorem take_no (g : Nat) (A : Option Addr) (cap : Nat) (bs : List Nat) (i start kind place : Int) (c : Int) (B : Nat) (w : World) (hr : Rd w g A cap bs i start kind place) (hA : BytesAt w B A bs) (hc0 : 0 ≤ c) (hc1 : c < 256) (h : hasAt bs i c.toNat = false) :
  Calls Tryz.prog 245 #[.pointer (some ⟨g, 0, none⟩), .int .u8 c] w fun e w' => e = .returned (.bool false) ∧ Rd w' g A cap bs i start kind place ∧ w.grownBy w' (some g) :=
 (take_go g A cap bs i start kind place c B w hr hA hc0 hc1).mono fun _ _ q => by simpa [h] using q
theorem fail0_go (g : Nat) (A : Option Addr) (cap : Nat) (bs : List Nat) (i start place k p : Int) (w : World) (hr : Rd w g A cap bs i start 0 place) :
  Calls Tryz.prog 255 #[.pointer (some ⟨g, 0, none⟩), .int .i64 k, .int .i64 p] w fun e w' => e = .returned (.tuple #[]) ∧ Rd w' g A cap bs i start k p ∧ w.grownBy w' (some g) :=
 (fail_go g A cap bs i start 0 place k p w hr).mono fun _ _ h => by simpa using h
theorem fail1_go (g : Nat) (A : Option Addr) (cap : Nat) (bs : List Nat) (i start kind place k p : Int) (w : World) (hr : Rd w g A cap bs i start kind place) (hk : kind ≠ 0) :
  Calls Tryz.prog 255 #[.pointer (some ⟨g, 0, none⟩), .int .i64 k, .int .i64 p] w fun e w' => e = .returned (.tuple #[]) ∧ Rd w' g A cap bs i start kind place ∧ w.grownBy w' (some g) :=
 (fail_go g A cap bs i start kind place k p w hr).mono fun _ _ h => by simpa [hk] using h
def among (bs : List Nat) (k c : Nat) : Bool := (bs.take k).any (fun x => x == c)
theorem among_zero (bs : List Nat) : among bs 0 = fun _ => false := by funext c; simp [among]
theorem among_succ {bs : List Nat} {k : Nat} (h : k < bs.length) : among bs (k + 1) = withB (among bs k) (byteAt bs k) := by
 funext c
 have e : bs[k]? = some (byteAt bs k) := by unfold byteAt; rw [List.getD_eq_getElem?_getD, List.getElem?_eq_getElem h]; rfl
 unfold among withB
 rw [List.take_add_one, e]
 simp [Bool.beq_comm, eq_comm]
theorem of_any (A : Option Addr) (bs : List Nat) (cap : Nat) (w : World) (hA : BytesAt w w.heap.size A bs) :
  Calls Tryz.prog 200 #[.slice A bs.length cap] w fun e w' => e = .returned (.agg #[.int .u64 (word (among bs bs.length) 0), .int .u64 (word (among bs bs.length) 1), .int .u64 (word (among bs bs.length) 2), .int .u64 (word (among bs bs.length) 3)]) ∧ Below w.heap.size w w' := by
 have hn : bs.length ≤ 9223372036854775807 := by have := hA.2.1; omega
 have HA := Lib.hid hA
 clear hA
 go_enter Tryz.func200, Tryz.ntmps200
 go_wp2
 go_loopw [8] (fun i wr => ∃ (k : Nat), i = .int .i64 k ∧ k ≤ bs.length ∧ Blk wr (w.heap.size + 1) 25 #[.int .u64 (word (among bs k) 0), .int .u64 (word (among bs k) 1), .int .u64 (word (among bs k) 2), .int .u64 (word (among bs k) 3)] ∧ Blk wr w.heap.size 25 #[.int .u64 0, .int .u64 0, .int .u64 0, .int .u64 0] ∧ Below w.heap.size w wr) (fun i _ => bs.length - (intOf i).toNat)
 case atStart =>
  refine ⟨0, rfl, Nat.zero_le _, ?_, ?_, ?_⟩
  ·rw [among_zero]; simp only [word_none]; exact Blk.new_at (by simp)
  ·exact (Blk.new _ _ _).alloc _
  ·exact ((Below.refl _ _).alloc (Nat.le_refl _) _).alloc (by simp) _
 case round =>
  obtain ⟨k, rfl, hk, hs, hr, hb⟩ := hrel
  by_cases hlt : k < bs.length
  ·obtain ⟨b, o, rfl, hbb, hc⟩ := HA.out.2.2 (by omega)
   have hz := hs.lt
   have hcell : wr.cell? ⟨b, o + k, none⟩ = some (.int .u8 ((byteAt bs k : Nat) : Int)) := (hb.cell (p := ⟨b, _, none⟩) hbb).trans (hc k hlt)
   obtain ⟨s0, s1, s2, s3, f0, f1, f2, f3⟩ := hs.c4
   have Hm := Lib.hid (among_succ hlt)
   have hlo := byteAt_lt HA.out.1 k
   have Hs := Lib.hid hs
   have Hr := Lib.hid hr
   clear hc hs hr
   generalize byteAt bs k = c at *
   obtain hq | hq | hq | hq : (c : Int) / 64 = 0 ∨ (c : Int) / 64 = 1 ∨ (c : Int) / 64 = 2 ∨ (c : Int) / 64 = 3 := by omega
   ·go_wp2
    go_light
    go_roundw
    case rel =>
     refine ⟨k + 1, by go_num, by omega, ?_, Hr.out.far (p := ⟨w.heap.size + 1, 0, none⟩) (by simp) _, hb.setCell (p := ⟨w.heap.size + 1, 0, none⟩) (by simp) _⟩
     have h := Hs.out.set_ 0 (.int .u64 ((word (withB (among bs k) c) 0 : Nat) : Int))
     have e := with_or (among bs k) (c : Int) 0 (by omega) hq
     rw [Int.toNat_natCast, show ((c : Int) % 64).toNat = c % 64 by omega] at e
     rw [Hm.out, e, show word (withB (among bs k) c) 1 = word (among bs k) 1 from with_other (among bs k) (c : Int) 0 1 (by omega) hq (by decide), show word (withB (among bs k) c) 2 = word (among bs k) 2 from with_other (among bs k) (c : Int) 0 2 (by omega) hq (by decide), show word (withB (among bs k) c) 3 = word (among bs k) 3 from with_other (among bs k) (c : Int) 0 3 (by omega) hq (by decide)]
     exact h
    case measure => simp [intOf]; omega
   ·go_wp2
    go_light
    go_roundw
    case rel =>
     refine ⟨k + 1, by go_num, by omega, ?_, Hr.out.far (p := ⟨w.heap.size + 1, 1, none⟩) (by simp) _, hb.setCell (p := ⟨w.heap.size + 1, 1, none⟩) (by simp) _⟩
     have h := Hs.out.set_ 1 (.int .u64 ((word (withB (among bs k) c) 1 : Nat) : Int))
     have e := with_or (among bs k) (c : Int) 1 (by omega) hq
     rw [Int.toNat_natCast, show ((c : Int) % 64).toNat = c % 64 by omega] at e
     rw [Hm.out, e, show word (withB (among bs k) c) 0 = word (among bs k) 0 from with_other (among bs k) (c : Int) 1 0 (by omega) hq (by decide), show word (withB (among bs k) c) 2 = word (among bs k) 2 from with_other (among bs k) (c : Int) 1 2 (by omega) hq (by decide), show word (withB (among bs k) c) 3 = word (among bs k) 3 from with_other (among bs k) (c : Int) 1 3 (by omega) hq (by decide)]
     exact h
    case measure => simp [intOf]; omega
   ·go_wp2
    go_light
    go_roundw
    case rel =>
     refine ⟨k + 1, by go_num, by omega, ?_, Hr.out.far (p := ⟨w.heap.size + 1, 2, none⟩) (by simp) _, hb.setCell (p := ⟨w.heap.size + 1, 2, none⟩) (by simp) _⟩
     have h := Hs.out.set_ 2 (.int .u64 ((word (withB (among bs k) c) 2 : Nat) : Int))
     have e := with_or (among bs k) (c : Int) 2 (by omega) hq
     rw [Int.toNat_natCast, show ((c : Int) % 64).toNat = c % 64 by omega] at e
     rw [Hm.out, e, show word (withB (among bs k) c) 0 = word (among bs k) 0 from with_other (among bs k) (c : Int) 2 0 (by omega) hq (by decide), show word (withB (among bs k) c) 1 = word (among bs k) 1 from with_other (among bs k) (c : Int) 2 1 (by omega) hq (by decide), show word (withB (among bs k) c) 3 = word (among bs k) 3 from with_other (among bs k) (c : Int) 2 3 (by omega) hq (by decide)]
     exact h
    case measure => simp [intOf]; omega
   ·go_wp2
    go_light
    go_roundw
    case rel =>
     refine ⟨k + 1, by go_num, by omega, ?_, Hr.out.far (p := ⟨w.heap.size + 1, 3, none⟩) (by simp) _, hb.setCell (p := ⟨w.heap.size + 1, 3, none⟩) (by simp) _⟩
     have h := Hs.out.set_ 3 (.int .u64 ((word (withB (among bs k) c) 3 : Nat) : Int))
     have e := with_or (among bs k) (c : Int) 3 (by omega) hq
     rw [Int.toNat_natCast, show ((c : Int) % 64).toNat = c % 64 by omega] at e
     rw [Hm.out, e, show word (withB (among bs k) c) 0 = word (among bs k) 0 from with_other (among bs k) (c : Int) 3 0 (by omega) hq (by decide), show word (withB (among bs k) c) 1 = word (among bs k) 1 from with_other (among bs k) (c : Int) 3 1 (by omega) hq (by decide), show word (withB (among bs k) c) 2 = word (among bs k) 2 from with_other (among bs k) (c : Int) 3 2 (by omega) hq (by decide)]
     exact h
    case measure => simp [intOf]; omega
  ·have hz := hs.lt
   have he : bs.length = k := by omega
   obtain ⟨s0, s1, s2, s3, f0, f1, f2, f3⟩ := hs.c4
   obtain ⟨r0, r1, r2, r3, g0, g1, g2, g3⟩ := hr.c4
   have Hr := Lib.hid hr
   have He := Lib.hid he
   clear hr hs he
   go_wp2
   go_light
   refine bodyPost_ret (v := .agg #[.int .u64 (word (among bs k) 0), .int .u64 (word (among bs k) 1), .int .u64 (word (among bs k) 2), .int .u64 (word (among bs k) 3)]) (ret_set Tryz.results200 rfl Hr.out.set4) rfl ⟨by rw [He.out], ?_⟩
   repeat (first | exact hb | refine Below.setCell ?_ (by simp) _ | refine Below.alloc ?_ (by simp; omega) _)
theorem bytes_new (w : World) (n : Nat) (bs : List Nat) (cs : Array Value) (fr : Nat × Nat) (hn : n = w.heap.size) (hcs : cs = (bs.map (fun c : Nat => Value.int .u8 (c : Int))).toArray) (h : ∀ x ∈ bs, x < 256) (hl : bs.length ≤ 140737488355328) :
  BytesAt (w.alloc (.cells cs 5 fr)) (w.alloc (.cells cs 5 fr)).heap.size (some ⟨n, 0, none⟩) bs := by
 subst hn
 exact ⟨h, hl, fun _ => ⟨w.heap.size, 0, rfl, by simp, fun i hi => by
  rw [Nat.zero_add, cell_of_row _ w.heap.size i cs 5 fr (heap_alloc_new w _), hcs]
  unfold byteAt
  simp [hi]⟩⟩
theorem of_one (c : Nat) (hc : c < 256) (w : World) (n : Nat) (hn : n = w.heap.size) :
  Calls Tryz.prog 200 #[.slice (some ⟨n, 0, none⟩) 1 1] (w.alloc (.cells #[.int .u8 (c : Int)] 5)).drew fun e w' => e = .returned (.agg #[.int .u64 (word (among [c] 1) 0), .int .u64 (word (among [c] 1) 1), .int .u64 (word (among [c] 1) 2), .int .u64 (word (among [c] 1) 3)]) ∧ Below (w.alloc (.cells #[.int .u8 (c : Int)] 5)).drew.heap.size (w.alloc (.cells #[.int .u8 (c : Int)] 5)).drew w' :=
 of_any _ [c] 1 _ ((bytes_new w n [c] _ _ hn rfl (by simp; omega) (by simp)).drew)
end
section
structure Lex where
 kind : Int
 place : Int
 set : Nat → Bool
 lo : Int
 hi : Int
def noSet (_ : Nat) : Bool := false
def dotSet (c : Nat) : Bool := !among [10] 1 c
def signKind (c : Nat) : Int := if c = 40 then 2 else if c = 41 then 3 else if c = 124 then 4 else if c = 42 then 5 else if c = 43 then 6 else if c = 63 then 7 else 0
def repS (bs : List Nat) (i : Nat) : Except Wrong (Lex × Nat) :=
 match takeS bs (i + 1) with
 | none => .error (16, i)
 | some (lo, j) =>
  if hasAt bs j 44 = true then
   if hasAt bs ((j : Int) + 1) 125 = true then .ok (⟨8, i, noSet, lo, -1⟩, j + 2)
   else match takeS bs (j + 1) with
    | none => .error (16, i)
    | some (hi, k) => if hasAt bs k 125 = true then (if hi < lo then .error (15, i) else .ok (⟨8, i, noSet, lo, hi⟩, k + 1)) else .error (16, i)
  else if hasAt bs j 125 = true then .ok (⟨8, i, noSet, lo, lo⟩, j + 1) else .error (16, i)
def lexS (bs : List Nat) (i : Nat) : Except Wrong (Lex × Nat) :=
 if byteAt bs i = 46 then .ok (⟨1, i, dotSet, 0, 0⟩, i + 1)
 else if byteAt bs i = 92 then (match escS bs i with | some (c, j) => .ok (⟨1, i, among [c] 1, 0, 0⟩, j) | none => .error (14, i))
 else if byteAt bs i = 91 then (match readS bs i with | .ok (p, j) => .ok (⟨1, i, p, 0, 0⟩, j) | .error e => .error e)
 else if byteAt bs i = 123 then repS bs i
 else if byteAt bs i = 93 ∨ byteAt bs i = 125 ∨ byteAt bs i = 10 then .error (3, i)
 else if signKind (byteAt bs i) ≠ 0 then .ok (⟨signKind (byteAt bs i), i, noSet, 0, 0⟩, i + 1)
 else .ok (⟨1, i, among [byteAt bs i] 1, 0, 0⟩, i + 1)
def splitF (bs : List Nat) : Nat → Nat → List Lex → Except Wrong (List Lex)
 | 0, _, _ => .error (0, 0)
 | f + 1, i, l => if bs.length ≤ i then .ok l else match lexS bs i with
  | .error e => .error e
  | .ok (x, j) => splitF bs f j (l ++ [x])
def splitS (bs : List Nat) : Except Wrong (List Lex) := if 65536 < bs.length then .error (4, 65536) else splitF bs (bs.length + 1) 0 []
theorem splitS_long {bs : List Nat} (h : 65536 < bs.length) : splitS bs = .error (4, 65536) := if_pos h
theorem splitS_go {bs : List Nat} (h : bs.length ≤ 65536) : splitS bs = splitF bs (bs.length + 1) 0 [] := if_neg (by omega)
theorem splitF_end {bs : List Nat} {f i : Nat} {l : List Lex} (h : bs.length ≤ i) : splitF bs (f + 1) i l = .ok l := by
 unfold splitF; rw [if_pos h]
theorem splitF_ok {bs : List Nat} {f i j : Nat} {l : List Lex} {x : Lex} (h : i < bs.length) (hx : lexS bs i = .ok (x, j)) : splitF bs (f + 1) i l = splitF bs f j (l ++ [x]) := by
 conv => lhs; unfold splitF
 rw [if_neg (by omega), hx]
theorem splitF_bad {bs : List Nat} {f i : Nat} {l : List Lex} {e : Wrong} (h : i < bs.length) (hx : lexS bs i = .error e) : splitF bs (f + 1) i l = .error e := by
 unfold splitF; rw [if_neg (by omega), hx]
theorem itemsS_some {bs : List Nat} (hb : ∀ x ∈ bs, x < 256) {s : Nat} : ∀ {f i : Nat} {p q : Nat → Bool} {j : Nat}, itemsS bs s f i p = .ok (q, j) → i < j ∧ j ≤ bs.length
 | 0, i, p, q, j, h => by cases h
 | f + 1, i, p, q, j, h => by
  cases hi : itemS bs s i with
  | error e => rw [itemsS_bad hi] at h; cases h
  | ok x =>
   obtain ⟨lo, hi', k⟩ := x
   have hk := itemS_ok hb hi
   rw [itemsS_ok hi] at h
   cases hc : hasAt bs (k : Int) 93
   ·rw [restS_go hc] at h
    have := itemsS_some hb h
    omega
   ·rw [restS_end hc] at h
    obtain ⟨m, hm, hm2, _⟩ := hasAt_yes hc
    simp at h
    omega
theorem readS_some {bs : List Nat} (hb : ∀ x ∈ bs, x < 256) {i : Nat} {p : Nat → Bool} {j : Nat} (h : readS bs (i : Int) = .ok (p, j)) : i < j ∧ j ≤ bs.length := by
 cases h1 : hasAt bs (i : Int) 91
 ·rw [readS_no h1] at h; cases h
 cases h2 : hasAt bs ((i : Int) + 1) 94
 ·rw [readS_plain h1 h2] at h
  have := itemsS_some hb h
  omega
 ·rw [readS_turned h1 h2] at h
  cases h3 : itemsS bs i (bs.length + 1) (i + 2) (fun _ => false) with
  | error e => rw [h3] at h; cases h
  | ok x =>
   obtain ⟨q, k⟩ := x
   rw [h3] at h
   have h4 : k = j := by
    have := Except.ok.inj h
    exact (Prod.mk.inj this).2
   have := itemsS_some hb h3
   omega
theorem charS_err {bs : List Nat} {s i : Nat} {k q : Int} (h : charS bs s i = .error (k, q)) : k ≠ 0 := by
 unfold charS at h
 split at h
 ·simp at h; omega
 split at h
 ·split at h
  ·cases h
  ·simp at h; omega
 split at h
 ·simp at h; omega
 ·cases h
theorem itemS_err {bs : List Nat} {s i : Nat} {k q : Int} (h : itemS bs s i = .error (k, q)) : k ≠ 0 := by
 unfold itemS at h
 cases h1 : charS bs s i with
 | error e =>
  rw [h1] at h
  obtain ⟨a, b⟩ := e
  have := charS_err h1
  simp at h
  omega
 | ok x =>
  obtain ⟨lo, j⟩ := x
  rw [h1] at h
  dsimp only at h
  split at h
  ·cases h2 : charS bs s (j + 1) with
   | error e =>
    rw [h2] at h
    obtain ⟨a, b⟩ := e
    have := charS_err h2
    simp at h
    omega
   | ok y =>
    obtain ⟨hi, m⟩ := y
    rw [h2] at h
    dsimp only at h
    split at h
    ·simp at h; omega
    ·cases h
  ·cases h
theorem itemsS_err {bs : List Nat} (hb : ∀ x ∈ bs, x < 256) {s : Nat} : ∀ {f i : Nat} {p : Nat → Bool} {k q : Int}, bs.length < f + i → i ≤ bs.length → itemsS bs s f i p = .error (k, q) → k ≠ 0
 | 0, i, p, k, q, hf, hi, h => by omega
 | f + 1, i, p, k, q, hf, hi0, h => by
  cases hi : itemS bs s i with
  | error e =>
   rw [itemsS_bad hi] at h
   obtain ⟨a, b⟩ := e
   have := itemS_err hi
   simp at h
   omega
  | ok x =>
   obtain ⟨lo, hi', m⟩ := x
   have hk := itemS_ok hb hi
   rw [itemsS_ok hi] at h
   cases hc : hasAt bs (m : Int) 93
   ·rw [restS_go hc] at h
    exact itemsS_err hb (by omega) (by omega) h
   ·rw [restS_end hc] at h; cases h
theorem readS_err {bs : List Nat} (hb : ∀ x ∈ bs, x < 256) {i : Int} {k q : Int} (h : readS bs i = .error (k, q)) : k ≠ 0 := by
 cases h1 : hasAt bs i 91
 ·rw [readS_no h1] at h; simp at h; omega
 obtain ⟨m, rfl, hm, _⟩ := hasAt_yes h1
 cases h2 : hasAt bs ((m : Int) + 1) 94
 ·rw [readS_plain h1 h2] at h
  exact itemsS_err hb (by omega) (by omega) h
 ·rw [readS_turned h1 h2] at h
  obtain ⟨m2, hm2, hm3, _⟩ := hasAt_yes h2
  cases h3 : itemsS bs m (bs.length + 1) (m + 2) (fun _ => false) with
  | error e =>
   obtain ⟨a, b⟩ := e
   rw [h3] at h
   have := itemsS_err hb (by omega) (by omega) h3
   have h4 : (a, b) = (k, q) := Except.error.inj h
   simp at h4
   omega
  | ok x =>
   obtain ⟨p, j⟩ := x
   rw [h3] at h; cases h
theorem repS_some {bs : List Nat} {i : Nat} {x : Lex} {j : Nat} (h : repS bs i = .ok (x, j)) : i < j ∧ j ≤ bs.length := by
 unfold repS at h
 split at h
 ·cases h
 ·rename_i lo m hm
  have h1 := takeS_some hm
  split at h
  ·rename_i hc
   obtain ⟨n, hn, hn2, _⟩ := hasAt_yes hc
   split at h
   ·rename_i hd
    obtain ⟨n', hn', hn2', _⟩ := hasAt_yes hd
    have := (Prod.mk.inj (Except.ok.inj h)).2
    omega
   ·split at h
    ·cases h
    ·rename_i hi k hk
     have h2 := takeS_some hk
     split at h
     ·rename_i hd
      obtain ⟨n', hn', hn2', _⟩ := hasAt_yes hd
      split at h
      ·cases h
      ·have := (Prod.mk.inj (Except.ok.inj h)).2
       omega
     ·cases h
  ·split at h
   ·rename_i hd
    obtain ⟨n', hn', hn2', _⟩ := hasAt_yes hd
    have := (Prod.mk.inj (Except.ok.inj h)).2
    omega
   ·cases h
theorem repS_err {bs : List Nat} {i : Nat} {k q : Int} (h : repS bs i = .error (k, q)) : k = 16 ∧ q = i ∨ k = 15 ∧ q = i := by
 unfold repS at h
 split at h
 ·simp at h; omega
 ·split at h
  ·split at h
   ·cases h
   ·split at h
    ·simp at h; omega
    ·split at h
     ·split at h
      ·simp at h; omega
      ·cases h
     ·simp at h; omega
  ·split at h
   ·cases h
   ·simp at h; omega
theorem lexS_some {bs : List Nat} (hb : ∀ x ∈ bs, x < 256) {i : Nat} (hi : i < bs.length) {x : Lex} {j : Nat} (h : lexS bs i = .ok (x, j)) : i < j ∧ j ≤ bs.length := by
 unfold lexS at h
 split at h
 ·have := (Prod.mk.inj (Except.ok.inj h)).2; omega
 split at h
 ·split at h
  ·rename_i c k hk
   have h2 := escS_some hb hk
   have := (Prod.mk.inj (Except.ok.inj h)).2; omega
  ·cases h
 split at h
 ·split at h
  ·rename_i p k hk
   have h2 := readS_some hb hk
   have := (Prod.mk.inj (Except.ok.inj h)).2; omega
  ·cases h
 split at h
 ·exact repS_some h
 split at h
 ·cases h
 split at h
 ·have := (Prod.mk.inj (Except.ok.inj h)).2; omega
 ·have := (Prod.mk.inj (Except.ok.inj h)).2; omega
theorem lexS_err {bs : List Nat} (hb : ∀ x ∈ bs, x < 256) {i : Nat} {k q : Int} (h : lexS bs i = .error (k, q)) : k ≠ 0 := by
 unfold lexS at h
 split at h
 ·cases h
 split at h
 ·split at h
  ·cases h
  ·simp at h; omega
 split at h
 ·split at h
  ·cases h
  ·rename_i e he
   have h1 := Except.error.inj h
   rw [h1] at he
   exact readS_err hb he
 split at h
 ·have := repS_err h; omega
 split at h
 ·simp at h; omega
 split at h
 ·cases h
 ·cases h
end
section
open Go.RowKit
def strOf (l : List Nat) : ByteArray := ByteArray.mk (l.map UInt8.ofNat).toArray
@[go_sem] theorem strOf_size (l : List Nat) : (strOf l).size = l.length := by simp [strOf, ByteArray.size]
theorem strOf_append (a b : List Nat) : strOf a ++ strOf b = strOf (a ++ b) := by
 unfold strOf; rw [ByteArray.mk_append_mk, List.map_append]
theorem foldl_push (ns : List Nat) : ∀ acc : ByteArray, (ns.map (fun n : Nat => (n : Int))).foldl (fun r n => r.push (UInt8.ofNat n.toNat)) acc = acc ++ strOf ns := by
 induction ns with
 | nil => intro acc; apply ByteArray.ext; simp [strOf]
 | cons n ns ih =>
  intro acc
  rw [List.map_cons, List.foldl_cons, ih]
  apply ByteArray.ext
  simp [strOf, ByteArray.push]
theorem run_str (w : World) (a : Addr) (cap : Nat) (ns : List Nat) (h : ∀ j u, (ns.map (fun n : Nat => Value.int .u8 (n : Int)))[j]? = some u → w.cell? (a.add j) = some u) :
  (convert 29 9 (.slice (some a) ns.length cap)).run Tryz.prog w = .ok (.string (strOf ns)) w := by
 rw [run_convert_bytes_string w _ _ 5 (some a) _ _ Tryz.underlying29 Tryz.underlying5 Tryz.underlying9]
 have hl := run_loadCells_list (P := Tryz.prog) w a (ns.map (fun n : Nat => Value.int .u8 (n : Int))) h
 rw [List.length_map] at hl
 rw [run_bytesToString w a ns.length cap (ns.map (fun n : Nat => (n : Int))) (by rw [hl, List.map_map]; rfl), foldl_push]
 congr 2
theorem byte_info : (Tryz.prog.info? 5).map (fun i => (i.zero, i.size, i.bytes)) = some (some (.int .u8 0), 1, 1) := by kernel_rfl
theorem row_str (t : List Nat) (h : ∀ x ∈ t, x < 256) (C : Nat) : bytesRow (strOf t) C = (t.map (fun c : Nat => Value.int .u8 (c : Int))).toArray ++ Array.replicate (C - t.length) (.int .u8 0) := by
 unfold bytesRow
 rw [strOf_size]
 congr 1
 unfold strOf
 simp only [List.map_toArray, List.map_map]
 congr 1
 apply List.map_congr_left
 intro x hx
 have := h x hx
 simp
 omega
theorem conv_text (w : World) (t : List Nat) (ht : ∀ x ∈ t, x < 256) (hl : t.length ≤ 140737488355328) :
  ∃ C W2, (convert 9 29 (.string (strOf t))).run Tryz.prog w = .ok (.slice (some ⟨w.heap.size, 0, none⟩) t.length C) W2 ∧ BytesAt W2 W2.heap.size (some ⟨w.heap.size, 0, none⟩) t ∧ Below w.heap.size w W2 ∧ t.length ≤ C := by
 have hk := run_bytes_of_string (P := Tryz.prog) w 9 29 5 (strOf t) Tryz.underlying9 Tryz.underlying29 Tryz.underlying5
 rw [strOf_size] at hk
 refine ⟨_, _, hk, ⟨ht, hl, fun _ => ⟨w.heap.size, 0, rfl, by simp, ?_⟩⟩, ((Below.refl _ _).drew).alloc (Nat.le_refl _) _, grownCap_ge ..⟩
 intro i hi
 rw [Nat.zero_add, cell_of_row _ w.heap.size i _ 5 _ (heap_alloc_new w.drew _), row_str t ht, Array.getElem?_append_left (by simpa using hi)]
 unfold byteAt
 simp [hi]
theorem wpList_append_by {ops : Array Oper} {rest : List Oper} {o : Oper} {a : Act} {w : World} {Q : Exit → Act → World → Prop} (hgd : o.guard = none) (sl x : Operand) (t u : TypeId)
  (ho : o.op = .call { callee := .builtin .append, args := #[sl, x], argTypes := #[t, u] }) (v1 v2 v' : Value) (w' : World) (hs : a.eval sl = v1) (hx : a.eval x = v2)
  (hr : (Builtin.append_ #[t, u] o.type #[v1, v2]).run Tryz.prog w = .ok v' w')
  (h : wpList Tryz.prog ops Q rest (a.put o.dst v') w') : wpList Tryz.prog ops Q (o :: rest) a w := by
 refine wpList_plain hgd fun K hK => ?_
 unfold Oper.wp execOp
 simp only [ho, resolve, invoke, builtin, Sem.run_bind, Sem.run_pure, Result.andThen_ok, List.map_toArray, List.map_cons, List.map_nil, hs, hx, hr]
 exact hK _ _ h
theorem bytesAt_cells {w : World} {N b o : Nat} {bs : List Nat} (h : BytesAt w N (some ⟨b, o, none⟩) bs) : ∀ i, i < bs.length → w.cell? ⟨b, o + i, none⟩ = some (.int .u8 ((byteAt bs i : Nat) : Int)) := by
 intro i hi
 obtain ⟨b', o', e, _, hc⟩ := h.2.2 (by omega)
 simp at e
 obtain ⟨rfl, rfl⟩ := e
 exact hc i hi
theorem run_go (b o cap : Nat) (bs : List Nat) (i : Nat) (w : World) (hA : BytesAt w w.heap.size (some ⟨b, o, none⟩) bs) (hcap : bs.length ≤ cap) (hi : i ≤ bs.length) :
  Calls Tryz.prog 247 #[.slice (some ⟨b, o, none⟩) bs.length cap, .int .i64 (i : Int)] w fun e w' => e = .returned (.int .i64 (((digs bs i).length : Nat) : Int)) ∧ w = w' := by
 have hc := Lib.hid (bytesAt_cells hA)
 have hl := hA.2.1
 have hb := Lib.hid hA.1
 clear hA
 by_cases hlt : i < bs.length
 ·have hne : ¬ cap = i := by omega
  go_enter Tryz.func247, Tryz.ntmps247
  go_wp2
  obtain ⟨m, hm⟩ : ∃ m, m = bs.length - i := ⟨_, rfl⟩
  rw [← hm]
  have hm1 : i + m ≤ bs.length := by omega
  have hm2 : bs.length ≤ i + m := by omega
  clear hm
  go_loop [5, 12] (fun v5 v12 => ∃ k : Nat, k ≤ m ∧ k ≤ (digs bs i).length ∧ v5 = .int .i64 (k : Int) ∧ v12 = .int .i64 (k : Int)) (fun _ v12 => m - (intOf v12).toNat)
  case atStart => exact ⟨0, Nat.zero_le _, Nat.zero_le _, rfl, rfl⟩
  case round =>
   obtain ⟨k, hk, hd, rfl, rfl⟩ := hrel
   by_cases hkm : k < m
   ·have hcell : w.cell? ⟨b, o + i + k, none⟩ = some (.int .u8 ((byteAt bs (i + k) : Nat) : Int)) := by
     have := hc.out (i + k) (by omega)
     rwa [← Nat.add_assoc] at this
    cases hdg : isDig (byteAt bs (i + k))
    ·have Hn := Lib.hid (digs_stop hd (by omega) hdg)
     have hx : ¬ (48 ≤ byteAt bs (i + k) ∧ byteAt bs (i + k) ≤ 57) := by rw [← isDig_iff, hdg]; decide
     generalize byteAt bs (i + k) = c at *
     clear hdg
     by_cases h48 : c < 48
     ·go_wp2
      go_light
      go_ret
      exact ⟨by rw [Hn.out]; rfl, rfl⟩
     ·have h57 : 57 < c := by omega
      clear hx
      go_wp2
      go_light
      go_ret
      exact ⟨by rw [Hn.out]; rfl, rfl⟩
    ·have hn := digs_more hd (by omega) hdg
     have hx := (isDig_iff _).1 hdg
     generalize byteAt bs (i + k) = c at *
     obtain ⟨hx1, hx2⟩ := hx
     clear hdg
     go_wp2
     go_light
     go_round
     case rel => exact ⟨k + 1, by omega, hn, by go_num, by go_num⟩
     case measure => simp [intOf]; omega
   ·have Hn := Lib.hid (digs_end hd (by omega))
    have hkm' : m ≤ k := by omega
    go_wp2
    go_light
    go_ret
    exact ⟨by rw [Hn.out]; rfl, rfl⟩
 ·have Hn := Lib.hid (digs_end (bs := bs) (i := i) (k := 0) (Nat.zero_le _) (by omega))
  have he : i = bs.length := by omega
  subst he
  by_cases hne : cap = bs.length
  ·subst hne
   go_enter Tryz.func247, Tryz.ntmps247
   go_wp2
   refine wp_loop_rounds 1 ?_
   rw [rounds_succ]
   go_wp2
   go_light
   go_ret
   exact ⟨by rw [Hn.out]; rfl, rfl⟩
  ·go_enter Tryz.func247, Tryz.ntmps247
   go_wp2
   refine wp_loop_rounds 1 ?_
   rw [rounds_succ]
   go_wp2
   go_light
   go_ret
   exact ⟨by rw [Hn.out]; rfl, rfl⟩
theorem byteAt_dig {ds : List Nat} (hd : ∀ c ∈ ds, isDig c = true) {k : Nat} (hk : k < ds.length) : isDig (byteAt ds k) = true := by
 rw [← byteAt_get hk]
 exact hd _ (List.getElem_mem _)
def valueVal (ds : List Nat) : Value := if 1000 < decVal ds then .tuple #[.int .i64 0, .bool false] else .tuple #[.int .i64 ((decVal ds : Nat) : Int), .bool true]
theorem value_any (b o cap : Nat) (ds : List Nat) (w : World) (hA : BytesAt w w.heap.size (some ⟨b, o, none⟩) ds) (hd : ∀ c ∈ ds, isDig c = true) :
  Calls Tryz.prog 260 #[.slice (some ⟨b, o, none⟩) ds.length cap, .int .i64 1000] w fun e w' => e = .returned (valueVal ds) ∧ w = w' := by
 have hc := Lib.hid (bytesAt_cells hA)
 have hl := hA.2.1
 have Hd := Lib.hid hd
 clear hA hd
 go_enter Tryz.func260, Tryz.ntmps260
 go_wp2
 go_loop [6, 12] (fun v6 v12 => ∃ k : Nat, k ≤ ds.length ∧ v12 = .int .i64 (k : Int) ∧ v6 = .int .i64 ((decVal (ds.take k) : Nat) : Int) ∧ decVal (ds.take k) ≤ 1000) (fun _ v12 => ds.length - (intOf v12).toNat)
 case atStart => exact ⟨0, Nat.zero_le _, rfl, by simp [decVal], by simp [decVal]⟩
 case round =>
  obtain ⟨k, hk, rfl, rfl, hv⟩ := hrel
  by_cases hkm : k < ds.length
  ·have hcell := hc.out k hkm
   have Ht := Lib.hid (decVal_take hkm)
   have Hm := Lib.hid (decVal_le ds (k + 1) hkm)
   obtain ⟨hx1, hx2⟩ := (isDig_iff _).1 (byteAt_dig Hd.out hkm)
   generalize byteAt ds k = c at *
   generalize decVal (ds.take k) = v at *
   obtain ⟨d, rfl⟩ : ∃ d, c = 48 + d := ⟨c - 48, by omega⟩
   have hd9 : d ≤ 9 := by omega
   by_cases hbig : 1000 < v * 10 + d
   ·have HV : Hid (valueVal ds = .tuple #[.int .i64 0, .bool false]) := by
     show valueVal ds = _
     unfold valueVal
     rw [if_pos]
     have h1 := Ht.out
     have h2 := Hm.out
     omega
    go_wp2
    go_light
    go_ret2
    exact ⟨by rw [HV.out]; rfl, rfl⟩
   ·have Hv := Lib.hid (show decVal (ds.take (k + 1)) = v * 10 + d by have h1 := Ht.out; omega)
    go_wp2
    go_light
    go_round
    case rel => exact ⟨k + 1, by omega, by go_num, congrArg (Value.int .i64) (by rw [Hv.out]; omega), by rw [Hv.out]; omega⟩
    case measure => simp [intOf]; omega
  ·have Hn : Hid (valueVal ds = .tuple #[.int .i64 ((decVal (ds.take k) : Nat) : Int), .bool true]) := by
    show valueVal ds = _
    unfold valueVal
    rw [List.take_of_length_le (by omega)] at hv ⊢
    rw [if_neg (by omega)]
   go_wp2
   go_light
   go_ret2
   exact ⟨by rw [Hn.out]; rfl, rfl⟩
def readNum (ds : List Nat) : Value := if badForm ds = true then .tuple #[.int .i64 0, .int .i64 3] else if 1000 < decVal ds then .tuple #[.int .i64 0, .int .i64 2] else .tuple #[.int .i64 ((decVal ds : Nat) : Int), .int .i64 0]
theorem nread_go (ds : List Nat) (w : World) (hd : ∀ c ∈ ds, isDig c = true) (hl : ds.length ≤ 140737488355328) :
  Calls Tryz.prog 248 #[.string (strOf ds), .int .i64 1000] w fun e w' => e = .returned (readNum ds) ∧ Below w.heap.size w w' := by
 have h256 : ∀ x ∈ ds, x < 256 := fun x hx => by have := (isDig_iff x).1 (hd x hx); omega
 obtain ⟨C, w2, k1, hA2, hb2, hC⟩ := conv_text w ds h256 hl
 have hr := run_go w.heap.size 0 C ds 0 w2 hA2 hC (Nat.zero_le _)
 rw [digs_own hd] at hr
 have Hr := Lib.hid hr
 have hv := value_any w.heap.size 0 C ds w2 hA2 hd
 have Hv := Lib.hid hv
 have HC := Lib.hid (bytesAt_cells hA2)
 have HB := Lib.hid hb2
 clear hr hv hA2 hb2 hC
 have Hd := Lib.hid hd
 have H256 := Lib.hid h256
 clear hd h256
 cases hf : badForm ds
 ·obtain ⟨hp, h0⟩ := badForm_false hf
  have hne : (((ds.length : Nat) : Int) == 0) = false := by rw [beq_eq_false_iff_ne]; omega
  have hcell := HC.out 0 hp
  rw [Nat.zero_add] at hcell
  have Hf := Lib.hid hf
  by_cases hbig : 1000 < decVal ds
  ·have Hv1 := Lib.hid (show valueVal ds = .tuple #[.int .i64 0, .bool false] from if_pos hbig)
   have HV := Lib.hid (show readNum ds = .tuple #[.int .i64 0, .int .i64 2] by unfold readNum; rw [hf, if_neg (by decide), if_pos hbig])
   clear hf hbig
   by_cases hz : byteAt ds 0 = 48
   ·have h1 : ds.length ≤ 1 := by
     rcases Nat.lt_or_ge 1 ds.length with h | h
     ·exact absurd hz (h0 h)
     ·exact h
    have hb1 : (((byteAt ds 0 : Nat) : Int) == 48) = true := by rw [hz]; rfl
    clear hz h0
    go_enter Tryz.func248, Tryz.ntmps248
    go_wp2_with fail
    refine Hr.out.mono ?_
    rintro e w3 ⟨rfl, rfl⟩
    go_wp2_with fail
    refine Hv.out.mono ?_
    rintro e w4 ⟨rfl, rfl⟩
    rw [Hv1.out]
    go_wp2
    go_light
    go_ret2
    exact ⟨by rw [HV.out]; rfl, HB.out⟩
   ·have hb1 : (((byteAt ds 0 : Nat) : Int) == 48) = false := by simp; omega
    clear hz h0
    go_enter Tryz.func248, Tryz.ntmps248
    go_wp2_with fail
    refine Hr.out.mono ?_
    rintro e w3 ⟨rfl, rfl⟩
    go_wp2_with fail
    refine Hv.out.mono ?_
    rintro e w4 ⟨rfl, rfl⟩
    rw [Hv1.out]
    go_wp2
    go_light
    go_ret2
    exact ⟨by rw [HV.out]; rfl, HB.out⟩
  ·have Hv1 := Lib.hid (show valueVal ds = .tuple #[.int .i64 ((decVal ds : Nat) : Int), .bool true] from if_neg hbig)
   have HV := Lib.hid (show readNum ds = .tuple #[.int .i64 ((decVal ds : Nat) : Int), .int .i64 0] by unfold readNum; rw [hf, if_neg (by decide), if_neg hbig])
   clear hf hbig
   by_cases hz : byteAt ds 0 = 48
   ·have h1 : ds.length ≤ 1 := by
     rcases Nat.lt_or_ge 1 ds.length with h | h
     ·exact absurd hz (h0 h)
     ·exact h
    have hb1 : (((byteAt ds 0 : Nat) : Int) == 48) = true := by rw [hz]; rfl
    clear hz h0
    go_enter Tryz.func248, Tryz.ntmps248
    go_wp2_with fail
    refine Hr.out.mono ?_
    rintro e w3 ⟨rfl, rfl⟩
    go_wp2_with fail
    refine Hv.out.mono ?_
    rintro e w4 ⟨rfl, rfl⟩
    rw [Hv1.out]
    go_wp2
    go_light
    go_ret2
    exact ⟨by rw [HV.out]; rfl, HB.out⟩
   ·have hb1 : (((byteAt ds 0 : Nat) : Int) == 48) = false := by simp; omega
    clear hz h0
    go_enter Tryz.func248, Tryz.ntmps248
    go_wp2_with fail
    refine Hr.out.mono ?_
    rintro e w3 ⟨rfl, rfl⟩
    go_wp2_with fail
    refine Hv.out.mono ?_
    rintro e w4 ⟨rfl, rfl⟩
    rw [Hv1.out]
    go_wp2
    go_light
    go_ret2
    exact ⟨by rw [HV.out]; rfl, HB.out⟩
 ·have HV := Lib.hid (show readNum ds = .tuple #[.int .i64 0, .int .i64 3] by unfold readNum; rw [hf]; rfl)
  rcases badForm_true hf with h0 | ⟨h0, h1⟩
  ·have he : (((ds.length : Nat) : Int) == 0) = true := by rw [h0]; rfl
   clear hf h0
   go_enter Tryz.func248, Tryz.ntmps248
   go_wp2_with fail
   refine Hr.out.mono ?_
   rintro e w3 ⟨rfl, rfl⟩
   go_wp2
   go_light
   go_ret2
   exact ⟨by rw [HV.out]; rfl, HB.out⟩
  ·have hcell := HC.out 0 (by omega)
   rw [Nat.zero_add] at hcell
   have hb1 : (((byteAt ds 0 : Nat) : Int) == 48) = true := by rw [h0]; rfl
   have hne : (((ds.length : Nat) : Int) == 0) = false := by rw [beq_eq_false_iff_ne]; omega
   clear hf h0
   go_enter Tryz.func248, Tryz.ntmps248
   go_wp2_with fail
   refine Hr.out.mono ?_
   rintro e w3 ⟨rfl, rfl⟩
   go_wp2
   go_light
   go_ret2
   exact ⟨by rw [HV.out]; rfl, HB.out⟩
def takeVal (bs : List Nat) (i : Nat) : Value :=
 match takeS bs i with
 | some (v, j) => .tuple #[.int .i64 (v : Int), .int .i64 (j : Int), .int .i64 0]
 | none => .tuple #[.int .i64 0, .int .i64 0, .int .i64 (takeErr bs i)]
theorem digs_at (bs : List Nat) (i j : Nat) (hj : j < (digs bs i).length) : byteAt (digs bs i) j = byteAt bs (i + j) := by
 have h := digs_take bs i
 generalize hn : (digs bs i).length = n at *
 rw [h]
 unfold byteAt
 rw [List.getD_eq_getElem?_getD, List.getD_eq_getElem?_getD, List.getElem?_take, if_pos hj, List.getElem?_drop]
theorem run_digs {w : World} {N b o : Nat} {bs : List Nat} {i : Nat} (hA : BytesAt w N (some ⟨b, o, none⟩) bs) (hi : i ≤ bs.length) (c : Nat) :
  (convert 29 9 (.slice (some ⟨b, o + i, none⟩) (digs bs i).length c)).run Tryz.prog w = .ok (.string (strOf (digs bs i))) w := run_str w ⟨b, o + i, none⟩ c (digs bs i) (by
 have hdl := digs_len bs i
 intro j u hu
 have hlt : j < (digs bs i).length := by
  rcases Nat.lt_or_ge j (digs bs i).length with h | h
  ·exact h
  ·rw [List.getElem?_eq_none (by simpa using h)] at hu; cases hu
 have e : (⟨b, o + i, none⟩ : Addr).add j = ⟨b, o + (i + j), none⟩ := by unfold Addr.add; split <;> simp_all; omega
 rw [e, bytesAt_cells hA (i + j) (by omega), ← digs_at bs i j hlt]
 rw [List.getElem?_map, List.getElem?_eq_getElem hlt] at hu
 rw [← byteAt_get hlt]
 simpa using hu)
theorem takeVal_form (bs : List Nat) (i : Nat) : ∃ v k, readNum (digs bs i) = .tuple #[.int .i64 v, .int .i64 k] ∧ takeVal bs i = (if k = 0 then .tuple #[.int .i64 v, .int .i64 ((i : Int) + ((digs bs i).length : Nat)), .int .i64 0] else .tuple #[.int .i64 0, .int .i64 0, .int .i64 k]) ∧ (k = 0 ∨ k = 2 ∨ k = 3) := by
 unfold takeVal readNum
 cases hf : badForm (digs bs i)
 ·by_cases hbig : 1000 < decVal (digs bs i)
  ·obtain ⟨e1, e2⟩ := takeS_big hf hbig
   rw [e1, e2, if_neg (by decide), if_pos hbig]
   exact ⟨_, _, rfl, rfl, .inr (.inl rfl)⟩
  ·have e1 := takeS_ok hf (by omega)
   rw [e1, if_neg (by decide), if_neg hbig]
   exact ⟨_, _, rfl, by simp, .inl rfl⟩
 ·obtain ⟨e1, e2⟩ := takeS_bad hf
  rw [e1, e2, if_pos rfl]
  exact ⟨_, _, rfl, rfl, .inr (.inr rfl)⟩
theorem take_at (b o cap : Nat) (bs : List Nat) (i : Nat) (w : World) (hA : BytesAt w w.heap.size (some ⟨b, o, none⟩) bs) (hcap : bs.length ≤ cap) (hi : i ≤ bs.length) :
  Calls Tryz.prog 229 #[.slice (some ⟨b, o, none⟩) bs.length cap, .int .i64 (i : Int), .int .i64 1000] w fun e w' => e = .returned (takeVal bs i) ∧ Below w.heap.size w w' := by
 have hr := run_go b o cap bs i w hA hcap hi
 have hl := hA.2.1
 have hdl := digs_len bs i
 have Hd := Lib.hid (digs_dig bs i)
 have hs : ∀ c, (convert 29 9 (.slice (some ⟨b, o + i, none⟩) (digs bs i).length c)).run Tryz.prog w = .ok (.string (strOf (digs bs i))) w := fun c => run_digs hA hi c
 have hn := nread_go (digs bs i) w (digs_dig bs i) (by omega)
 obtain ⟨v, k, hv1, hv2, hk⟩ := takeVal_form bs i
 rw [hv1] at hn
 have Hn := Lib.hid hn
 have Hr := Lib.hid hr
 have Hv := Lib.hid hv2
 clear hA hr hn hv1 hv2
 have hs0 : (convert 29 9 (.slice (some ⟨b, o, none⟩) 0 0)).run Tryz.prog w = .ok (.string (strOf [])) w := run_str w ⟨b, o, none⟩ 0 [] (by simp)
 generalize digs bs i = ds at *
 by_cases hce : cap = i
 ·have hn0 : ds = [] := List.length_eq_zero_iff.1 (by omega)
  subst hn0
  subst hce
  clear hs hdl
  rcases hk with rfl | rfl | rfl
  ·go_enter Tryz.func229, Tryz.ntmps229
   go_wp2_with fail
   refine Hr.out.mono ?_
   rintro e w2 ⟨rfl, rfl⟩
   go_wp2_with fail
   refine Hn.out.mono ?_
   rintro e w2 ⟨rfl, hb2⟩
   go_wp2
   go_light
   go_ret3
   exact ⟨by rw [Hv.out]; simp, hb2⟩
  ·go_enter Tryz.func229, Tryz.ntmps229
   go_wp2_with fail
   refine Hr.out.mono ?_
   rintro e w2 ⟨rfl, rfl⟩
   go_wp2_with fail
   refine Hn.out.mono ?_
   rintro e w2 ⟨rfl, hb2⟩
   go_wp2
   go_light
   go_ret3
   exact ⟨by rw [Hv.out]; simp, hb2⟩
  ·go_enter Tryz.func229, Tryz.ntmps229
   go_wp2_with fail
   refine Hr.out.mono ?_
   rintro e w2 ⟨rfl, rfl⟩
   go_wp2_with fail
   refine Hn.out.mono ?_
   rintro e w2 ⟨rfl, hb2⟩
   go_wp2
   go_light
   go_ret3
   exact ⟨by rw [Hv.out]; simp, hb2⟩
 ·generalize ds.length = n at *
  clear hs0
  rcases hk with rfl | rfl | rfl
  ·go_enter Tryz.func229, Tryz.ntmps229
   go_wp2_with fail
   refine Hr.out.mono ?_
   rintro e w2 ⟨rfl, rfl⟩
   go_wp2_with fail
   refine Hn.out.mono ?_
   rintro e w2 ⟨rfl, hb2⟩
   go_wp2
   go_light
   go_ret3
   exact ⟨by rw [Hv.out]; simp, hb2⟩
  ·go_enter Tryz.func229, Tryz.ntmps229
   go_wp2_with fail
   refine Hr.out.mono ?_
   rintro e w2 ⟨rfl, rfl⟩
   go_wp2_with fail
   refine Hn.out.mono ?_
   rintro e w2 ⟨rfl, hb2⟩
   go_wp2
   go_light
   go_ret3
   exact ⟨by rw [Hv.out]; simp, hb2⟩
  ·go_enter Tryz.func229, Tryz.ntmps229
   go_wp2_with fail
   refine Hr.out.mono ?_
   rintro e w2 ⟨rfl, rfl⟩
   go_wp2_with fail
   refine Hn.out.mono ?_
   rintro e w2 ⟨rfl, hb2⟩
   go_wp2
   go_light
   go_ret3
   exact ⟨by rw [Hv.out]; simp, hb2⟩
def lexCell (x : Lex) : List Value := [.int .i64 x.kind, .int .i64 x.place, .int .u64 (word x.set 0), .int .u64 (word x.set 1), .int .u64 (word x.set 2), .int .u64 (word x.set 3), .int .i64 x.lo, .int .i64 x.hi]
def lexCells (l : List Lex) : List Value := l.flatMap lexCell
theorem lexCells_snoc (l : List Lex) (x : Lex) : lexCells (l ++ [x]) = lexCells l ++ lexCell x := by simp [lexCells]
def Spl (W : World) (S : Nat) (b o len cap : Nat) (i : Int) (v : Value) (k q : Int) : Prop := Blk W S 175 #[.slice (some ⟨b, o, none⟩) len cap, .int .i64 i, v, .int .i64 k, .int .i64 q]
theorem Spl.cells {W : World} {S b o len cap : Nat} {i k q : Int} {v : Value} (h : Spl W S b o len cap i v k q) :
  W.cell? ⟨S, 0, none⟩ = some (.slice (some ⟨b, o, none⟩) len cap) ∧ W.cell? ⟨S, 1, none⟩ = some (.int .i64 i) ∧ W.cell? ⟨S, 2, none⟩ = some v ∧ W.cell? ⟨S, 3, none⟩ = some (.int .i64 k) ∧ W.cell? ⟨S, 4, none⟩ = some (.int .i64 q) ∧
  W.frozen? ⟨S, 0, none⟩ = false ∧ W.frozen? ⟨S, 1, none⟩ = false ∧ W.frozen? ⟨S, 2, none⟩ = false ∧ W.frozen? ⟨S, 3, none⟩ = false ∧ W.frozen? ⟨S, 4, none⟩ = false :=
 ⟨Blk.cell h 0, Blk.cell h 1, Blk.cell h 2, Blk.cell h 3, Blk.cell h 4, Blk.frozen h 0, Blk.frozen h 1, Blk.frozen h 2, Blk.frozen h 3, Blk.frozen h 4⟩
theorem info_lex : (Tryz.prog.info? 143).map (fun i => (i.zero, i.size, i.bytes)) = some (some (.agg #[.int .i64 0, .int .i64 0, .int .u64 0, .int .u64 0, .int .u64 0, .int .u64 0, .int .i64 0, .int .i64 0]), 8, 64) := by kernel_rfl
theorem put_go (S b o len cap : Nat) (i : Int) (v : Value) (k q : Int) (N : Nat) (L : List Lex) (x : Lex) (next : Int) (W : World) (hS : Spl W S b o len cap i v k q) (hrow : W.ownsRow N 143 8 v L.length (lexCells L)) (hN : N ≤ S) (hL : L.length ≤ 100000) :
  Calls Tryz.prog 231 #[.pointer (some ⟨S, 0, none⟩), .agg #[.int .i64 x.kind, .int .i64 x.place, .int .u64 (word x.set 0), .int .u64 (word x.set 1), .int .u64 (word x.set 2), .int .u64 (word x.set 3), .int .i64 x.lo, .int .i64 x.hi], .int .i64 next] W fun e W' =>
   e = .returned (.tuple #[]) ∧ Below N W W' ∧ ∃ v', Spl W' S b o len cap next v' k q ∧ W'.ownsRow N 143 8 v' (L.length + 1) (lexCells (L ++ [{ x with place := i }])) := by
 obtain ⟨i0, hi, hz0, hz1, hz2⟩ := info_parts info_lex
 obtain ⟨s0, s1, s2, s3, s4, f0, f1, f2, f3, f4⟩ := hS.cells
 have hlt := Blk.lt hS
 have HS := Lib.hid hS
 have Hrow := Lib.hid hrow
 clear hS hrow
 go_enter Tryz.func231, Tryz.ntmps231
 go_wp2
 have HX := Lib.hid ((Below.refl N W).alloc (by omega) (.cells #[.int .i64 x.kind, .int .i64 i, .int .u64 (word x.set 0), .int .u64 (word x.set 1), .int .u64 (word x.set 2), .int .u64 (word x.set 3), .int .i64 x.lo, .int .i64 x.hi] 143))
 have hSx := Blk.alloc HS.out (.cells #[.int .i64 x.kind, .int .i64 i, .int .u64 (word x.set 0), .int .u64 (word x.set 1), .int .u64 (word x.set 2), .int .u64 (word x.set 3), .int .i64 x.lo, .int .i64 x.hi] 143)
 have hrx := Hrow.out.alloc (.cells #[.int .i64 x.kind, .int .i64 i, .int .u64 (word x.set 0), .int .u64 (word x.set 1), .int .u64 (word x.set 2), .int .u64 (word x.set 3), .int .i64 x.lo, .int .i64 x.hi] 143)
 have hbx := Blk.new W 143 #[.int .i64 x.kind, .int .i64 i, .int .u64 (word x.set 0), .int .u64 (word x.set 1), .int .u64 (word x.set 2), .int .u64 (word x.set 3), .int .i64 x.lo, .int .i64 x.hi]
 have hzx : (W.alloc (.cells #[.int .i64 x.kind, .int .i64 i, .int .u64 (word x.set 0), .int .u64 (word x.set 1), .int .u64 (word x.set 2), .int .u64 (word x.set 3), .int .i64 x.lo, .int .i64 x.hi] 143)).heap.size = W.heap.size + 1 := by simp
 generalize W.alloc (.cells #[.int .i64 x.kind, .int .i64 i, .int .u64 (word x.set 0), .int .u64 (word x.set 1), .int .u64 (word x.set 2), .int .u64 (word x.set 3), .int .i64 x.lo, .int .i64 x.hi] 143) = wx at *
 obtain ⟨s0, s1, s2, s3, s4, f0, f1, f2, f3, f4⟩ := Spl.cells hSx
 have x0 := hbx.cell 0
 have x1 := hbx.cell 1
 have x2 := hbx.cell 2
 have x3 := hbx.cell 3
 have x4 := hbx.cell 4
 have x5 := hbx.cell 5
 have x6 := hbx.cell 6
 have x7 := hbx.cell 7
 have hNx : N ≤ wx.heap.size := by omega
 have hSl : S < wx.heap.size := by omega
 have Hrx := Lib.hid hrx
 have HSx := Lib.hid hSx
 have Hzx := Lib.hid hzx
 have hneS := blk_not_row hSx (by decide) hrx
 have HneS := Lib.hid hneS
 have h63 : L.length + 1 ≤ maxLen := Nat.le_trans (by omega) (show 200000 ≤ maxLen by decide)
 have hby : (L.length + 1) * 64 ≤ 140737488355328 := by omega
 clear hrx hSx hbx hneS hzx
 go_region_law ((refine step_append_lies _ (by rfl) _ _ _ (by rfl) N 143 i0 _ 8 64 Tryz.underlying138 hi hz0 hz1 hz2 rfl (by decide) v L.length (lexCells L) (by rfl) ((Hrx.out.alloc _).drew) ⟨wx.heap.size, 0, none⟩ 1 1 (lexCell { x with place := i }) (by rfl) (by rfl) (World.news_of_block (cs := #[.int .i64 x.kind, .int .i64 i, .int .u64 (word x.set 0), .int .u64 (word x.set 1), .int .u64 (word x.set 2), .int .u64 (word x.set 3), .int .i64 x.lo, .int .i64 x.hi]) (t := 143) (fr := (0, 0)) (heap_alloc_new wx _)) (by simp [lexCell, Value.oneCell']) (by decide) h63 hby (by simp; omega) (wx.heap.size + 1) (by simp) ?_; intro gg cap' w1 hown1 hgrow hat hlt1; have hS1 := Blk.grown (Blk.drew (Blk.alloc HSx.out _)) hgrow HneS.out; have c2 := hS1.cell 2; have g2 := hS1.frozen 2; have c1 := hS1.cell 1; have g1 := hS1.frozen 1; have HS1 := Lib.hid hS1; have Hgrow := Lib.hid hgrow; have Hown1 := Lib.hid hown1; have Hat := Lib.hid hat; clear hS1 hgrow hown1 hat))
 all_goals go_wp2
 all_goals go_light
 all_goals go_end0
 all_goals
  have hneg : some S ≠ (Value.slice (some ⟨gg, 0, none⟩) (L.length + 1) cap').ownBlock := by
   intro e
   have e' : S = gg := by simpa [Value.ownBlock] using e
   rcases Hat.out with h | h
   ·exact HneS.out (e' ▸ h.symm)
   ·omega
  have hB := below_grown ((HX.out.alloc hNx (.cells #[.int .i64 x.kind, .int .i64 i, .int .u64 (word x.set 0), .int .u64 (word x.set 1), .int .u64 (word x.set 2), .int .u64 (word x.set 3), .int .i64 x.lo, .int .i64 x.hi] 143)).drew) Hgrow.out ((Hrx.out.alloc _).drew) (Nat.le_refl _) (by simp; omega)
  refine ⟨rfl, (hB.setCell (p := ⟨S, 2, none⟩) hN _).setCell (p := ⟨S, 1, none⟩) hN _, _, (HS1.out.set_ 2 _).set_ 1 _, ?_⟩
  rw [lexCells_snoc]
  exact own_set (own_set Hown1.out hneg) hneg
@[go_sem] theorem eqBad (a b c d : Int) (w : World) : (Op.equalIn 10000 77 (.agg #[.int .i64 a, .int .i64 b]) (.agg #[.int .i64 c, .int .i64 d])).run Tryz.prog w = .ok (a == c && b == d) w := by
 have u1 := Tryz.underlying41
 have a1 := Tryz.isAgg41
 have z1 := Tryz.sizeOf41
 have u3 := Tryz.underlying3
 have a3 := Tryz.isAgg3
 have z3 := Tryz.sizeOf3
 have hS : Tryz.prog.underlying 77 = some (.struct (Tryz.prog.fieldsOf 77)) := by kernel_rfl
 have hp : Tryz.prog.stoodInHeld 77 = false := by kernel_rfl
 rw [show (10000 : Nat) = 9999 + 1 from rfl, run_equalIn_agg w 9999 77 _ _ hS hp]
 simp only [Program.fieldsOf, Tryz.underlying77]
 go_simp
 by_cases h1 : a = c <;> by_cases h2 : b = d <;> simp [h1, h2]
@[go_sem] theorem eqSet (a b c d a' b' c' d' : Int) (w : World) : (Op.equalIn 10000 25 (.agg #[.int .u64 a, .int .u64 b, .int .u64 c, .int .u64 d]) (.agg #[.int .u64 a', .int .u64 b', .int .u64 c', .int .u64 d'])).run Tryz.prog w = .ok (a == a' && b == b' && c == c' && d == d') w := by
 have u3 := Tryz.underlying23
 have a3 := Tryz.isAgg23
 have z3 := Tryz.sizeOf23
 rw [show (10000 : Nat) = 9999 + 1 from rfl, Op.equalIn]
 simp only [Sem.run_bind, run_underlying Tryz.underlying25, Result.andThen_ok]
 simp only [Std.Legacy.Range.forIn_eq_forIn_range', Std.Legacy.Range.size, Nat.sub_zero, Nat.add_sub_cancel, Nat.div_one, List.range'_succ, List.range'_zero, List.forIn_cons, List.forIn_nil]
 go_simp
 by_cases h1 : a = a' <;> by_cases h2 : b = b' <;> by_cases h3 : c = c' <;> by_cases h4 : d = d' <;> simp [h1, h2, h3, h4]
def repV (lo hi : Int) : Bool := decide (0 ≤ lo) && decide (lo ≤ 1000) && (decide (hi = -1) || decide (lo ≤ hi) && decide (hi ≤ 1000))
def rightV (k pl a b c d lo hi : Int) : Bool :=
 decide (0 ≤ pl) && (decide (k = 1) || (a == 0 && b == 0 && c == 0 && d == 0)) && (if k = 8 then repV lo hi else decide (lo = 0) && decide (hi = 0) && decide (1 ≤ k) && decide (k < 8))
@[inline] def lexAgg (k pl a b c d lo hi : Int) : Value := .agg #[.int .i64 k, .int .i64 pl, .int .u64 a, .int .u64 b, .int .u64 c, .int .u64 d, .int .i64 lo, .int .i64 hi]
theorem by_val {f : FuncId} {args : Array Value} {w : World} {v v' : Bool} (h : v = v') (hc : Calls Tryz.prog f args w fun e w' => e = .returned (.bool v') ∧ Below w.heap.size w w') : Calls Tryz.prog f args w fun e w' => e = .returned (.bool v) ∧ Below w.heap.size w w' := by
 subst h; exact hc
theorem right_one (pl a b c d lo hi : Int) (w : World) (k : Int) (hk : k = 1) (hpl : 0 ≤ pl) :
  Calls Tryz.prog 162 #[.agg #[.int .i64 k, .int .i64 pl, .int .u64 a, .int .u64 b, .int .u64 c, .int .u64 d, .int .i64 lo, .int .i64 hi]] w fun e w' => e = .returned (.bool (rightV k pl a b c d lo hi)) ∧ Below w.heap.size w w' := by
 subst hk
 have p0 : ¬ pl < 0 := by omega
 by_cases h1 : lo = 0
 ·subst h1
  by_cases h2 : hi = 0
  ·subst h2
   refine by_val (v' := true) (by simp [rightV, *]; try omega) ?_
   go_enter Tryz.func162, Tryz.ntmps162
   go_wp2
   go_light
   go_ret
   exact ⟨rfl, (Below.refl w.heap.size w).alloc (Nat.le_refl _) _⟩
  ·have b2 : (hi == 0) = false := by simpa using h2
   refine by_val (v' := false) (by simp [rightV, *]; try omega) ?_
   go_enter Tryz.func162, Tryz.ntmps162
   go_wp2
   go_light
   go_ret
   exact ⟨rfl, (Below.refl w.heap.size w).alloc (Nat.le_refl _) _⟩
 ·have b1 : (lo == 0) = false := by simpa using h1
  refine by_val (v' := false) (by simp [rightV, *]; try omega) ?_
  go_enter Tryz.func162, Tryz.ntmps162
  go_wp2
  go_light
  go_ret
  exact ⟨rfl, (Below.refl w.heap.size w).alloc (Nat.le_refl _) _⟩
theorem right_rep (pl a b c d lo hi : Int) (w : World) (k : Int) (hk : k = 8) (hpl : 0 ≤ pl) (ha : a = 0) (hb : b = 0) (hc : c = 0) (hd : d = 0) :
  Calls Tryz.prog 162 #[.agg #[.int .i64 k, .int .i64 pl, .int .u64 a, .int .u64 b, .int .u64 c, .int .u64 d, .int .i64 lo, .int .i64 hi]] w fun e w' => e = .returned (.bool (rightV k pl a b c d lo hi)) ∧ Below w.heap.size w w' := by
 subst hk ha hb hc hd
 have p0 : ¬ pl < 0 := by omega
 by_cases h1 : ¬ 0 ≤ lo
 ·have b1 : ¬ 0 ≤ lo := h1
  refine by_val (v' := false) (by simp [rightV, repV, *]; try omega) ?_
  go_enter Tryz.func162, Tryz.ntmps162
  go_wp2
  go_light
  go_ret
  exact ⟨rfl, (Below.refl w.heap.size w).alloc (Nat.le_refl _) _⟩
 have h1' : 0 ≤ lo := by omega
 by_cases h2 : ¬ lo ≤ 1000
 ·have b1 : ¬ lo ≤ 1000 := h2
  refine by_val (v' := false) (by simp [rightV, repV, *]; try omega) ?_
  go_enter Tryz.func162, Tryz.ntmps162
  go_wp2
  go_light
  go_ret
  exact ⟨rfl, (Below.refl w.heap.size w).alloc (Nat.le_refl _) _⟩
 have h2' : lo ≤ 1000 := by omega
 by_cases h3 : hi = -1
 ·subst h3
  refine by_val (v' := true) (by simp [rightV, repV, *]; try omega) ?_
  go_enter Tryz.func162, Tryz.ntmps162
  go_wp2
  go_light
  go_ret
  exact ⟨rfl, (Below.refl w.heap.size w).alloc (Nat.le_refl _) _⟩
 have b3 : (hi == -1) = false := by simpa using h3
 by_cases h4 : ¬ lo ≤ hi
 ·have b1 : ¬ lo ≤ hi := h4
  refine by_val (v' := false) (by simp [rightV, repV, *]; try omega) ?_
  go_enter Tryz.func162, Tryz.ntmps162
  go_wp2
  go_light
  go_ret
  exact ⟨rfl, (Below.refl w.heap.size w).alloc (Nat.le_refl _) _⟩
 have h4' : lo ≤ hi := by omega
 by_cases h5 : hi ≤ 1000
 ·have b1 : hi ≤ 1000 := h5
  refine by_val (v' := true) (by simp [rightV, repV, *]; try omega) ?_
  go_enter Tryz.func162, Tryz.ntmps162
  go_wp2
  go_light
  go_ret
  exact ⟨rfl, (Below.refl w.heap.size w).alloc (Nat.le_refl _) _⟩
 ·have b1 : ¬ hi ≤ 1000 := h5
  refine by_val (v' := false) (by simp [rightV, repV, *]; try omega) ?_
  go_enter Tryz.func162, Tryz.ntmps162
  go_wp2
  go_light
  go_ret
  exact ⟨rfl, (Below.refl w.heap.size w).alloc (Nat.le_refl _) _⟩
theorem right_sign (pl a b c d lo hi : Int) (w : World) (k : Int) (hk : k ≠ 1) (hk8 : k ≠ 8) (hpl : 0 ≤ pl) (ha : a = 0) (hb : b = 0) (hc : c = 0) (hd : d = 0) :
  Calls Tryz.prog 162 #[.agg #[.int .i64 k, .int .i64 pl, .int .u64 a, .int .u64 b, .int .u64 c, .int .u64 d, .int .i64 lo, .int .i64 hi]] w fun e w' => e = .returned (.bool (rightV k pl a b c d lo hi)) ∧ Below w.heap.size w w' := by
 subst ha hb hc hd
 have p0 : ¬ pl < 0 := by omega
 have c1 : (k != 1) = true := by simpa using hk
 have c8 : (k == 8) = false := by simpa using hk8
 by_cases h1 : ¬ lo = 0
 ·have b1 : (lo == 0) = false := by simpa using h1
  refine by_val (v' := false) (by simp [rightV, *]; try omega) ?_
  go_enter Tryz.func162, Tryz.ntmps162
  go_wp2
  go_light
  go_ret
  exact ⟨rfl, (Below.refl w.heap.size w).alloc (Nat.le_refl _) _⟩
 obtain rfl : lo = 0 := by omega
 by_cases h2 : ¬ hi = 0
 ·have b1 : (hi == 0) = false := by simpa using h2
  refine by_val (v' := false) (by simp [rightV, *]; try omega) ?_
  go_enter Tryz.func162, Tryz.ntmps162
  go_wp2
  go_light
  go_ret
  exact ⟨rfl, (Below.refl w.heap.size w).alloc (Nat.le_refl _) _⟩
 obtain rfl : hi = 0 := by omega
 by_cases h3 : ¬ 1 ≤ k
 ·have b1 : ¬ 1 ≤ k := h3
  refine by_val (v' := false) (by simp [rightV, *]; try omega) ?_
  go_enter Tryz.func162, Tryz.ntmps162
  go_wp2
  go_light
  go_ret
  exact ⟨rfl, (Below.refl w.heap.size w).alloc (Nat.le_refl _) _⟩
 have h3' : 1 ≤ k := by omega
 by_cases h4 : k < 8
 ·have b1 : k < 8 := h4
  refine by_val (v' := true) (by simp [rightV, *]; try omega) ?_
  go_enter Tryz.func162, Tryz.ntmps162
  go_wp2
  go_light
  go_ret
  exact ⟨rfl, (Below.refl w.heap.size w).alloc (Nat.le_refl _) _⟩
 ·have b1 : ¬ k < 8 := h4
  refine by_val (v' := false) (by simp [rightV, *]; try omega) ?_
  go_enter Tryz.func162, Tryz.ntmps162
  go_wp2
  go_light
  go_ret
  exact ⟨rfl, (Below.refl w.heap.size w).alloc (Nat.le_refl _) _⟩
theorem right_go (k pl a b c d lo hi : Int) (w : World) :
  Calls Tryz.prog 162 #[.agg #[.int .i64 k, .int .i64 pl, .int .u64 a, .int .u64 b, .int .u64 c, .int .u64 d, .int .i64 lo, .int .i64 hi]] w fun e w' => e = .returned (.bool (rightV k pl a b c d lo hi)) ∧ Below w.heap.size w w' := by
 by_cases hp : pl < 0
 ·have p0 : pl < 0 := hp
  refine by_val (v' := false) (by simp [rightV, *]; try omega) ?_
  go_enter Tryz.func162, Tryz.ntmps162
  go_wp2
  go_light
  go_ret
  exact ⟨rfl, (Below.refl w.heap.size w).alloc (Nat.le_refl _) _⟩
 by_cases hk : k = 1
 ·exact right_one pl a b c d lo hi w k hk (by omega)
 by_cases hz : a = 0 ∧ b = 0 ∧ c = 0 ∧ d = 0
 ·obtain ⟨ha, hb, hc, hd⟩ := hz
  by_cases hk8 : k = 8
  ·exact right_rep pl a b c d lo hi w k hk8 (by omega) ha hb hc hd
  ·exact right_sign pl a b c d lo hi w k hk hk8 (by omega) ha hb hc hd
 ·have z : (a == 0 && b == 0 && c == 0 && d == 0) = false := by simpa using hz
  have z2 : ((a == 0 && b == 0 && c == 0 && d == 0) : Bool) = true → False := by rw [z]; decide
  have p0 : ¬ pl < 0 := by omega
  have c1 : (k != 1) = true := by simpa using hk
  refine by_val (v' := false) (by unfold rightV; rw [z]; simp [hk]) ?_
  go_enter Tryz.func162, Tryz.ntmps162
  go_wp2
  go_light
  go_ret
  exact ⟨rfl, (Below.refl w.heap.size w).alloc (Nat.le_refl _) _⟩
end
section
section
variable {cs bs : List Nat} {p q i j : Nat}
end
theorem repS_place {bs : List Nat} {i j : Nat} {x : Lex} (h : repS bs i = .ok (x, j)) : x.place = i := by
 unfold repS at h
 split at h
 ·cases h
 ·split at h
  ·split at h
   ·rw [← (Prod.mk.inj (Except.ok.inj h)).1]
   ·split at h
    ·cases h
    ·split at h
     ·split at h
      ·cases h
      ·rw [← (Prod.mk.inj (Except.ok.inj h)).1]
     ·cases h
  ·split at h
   ·rw [← (Prod.mk.inj (Except.ok.inj h)).1]
   ·cases h
theorem lexS_place {bs : List Nat} {i j : Nat} {x : Lex} (h : lexS bs i = .ok (x, j)) : x.place = i := by
 unfold lexS at h
 split at h
 ·rw [← (Prod.mk.inj (Except.ok.inj h)).1]
 split at h
 ·split at h
  ·rw [← (Prod.mk.inj (Except.ok.inj h)).1]
  ·cases h
 split at h
 ·split at h
  ·rw [← (Prod.mk.inj (Except.ok.inj h)).1]
  ·cases h
 split at h
 ·exact repS_place h
 split at h
 ·cases h
 split at h
 ·rw [← (Prod.mk.inj (Except.ok.inj h)).1]
 ·rw [← (Prod.mk.inj (Except.ok.inj h)).1]
def Seg (bs : List Nat) : Nat → List Lex → Nat → Prop
 | i, [], k => i = k
 | i, x :: M, k => i < bs.length ∧ ∃ j, lexS bs i = .ok (x, j) ∧ Seg bs j M k
theorem seg_len {bs : List Nat} (hb : ∀ x ∈ bs, x < 256) : ∀ {M : List Lex} {i k : Nat}, Seg bs i M k → i + M.length ≤ k ∧ (k ≤ bs.length ∨ M = [])
 | [], i, k, h => ⟨by rw [show i = k from h]; simp, .inr rfl⟩
 | x :: M, i, k, ⟨hi, j, hx, h⟩ => by
  have h1 := lexS_some hb hi hx
  have h2 := seg_len hb h
  refine ⟨by simp; omega, .inl ?_⟩
  rcases h2.2 with h3 | rfl
  ·exact h3
  ·have : j = k := h
   omega
theorem splitF_seg {bs : List Nat} (hb : ∀ x ∈ bs, x < 256) : ∀ {f i : Nat} {L l : List Lex}, i ≤ bs.length → splitF bs f i L = .ok l → ∃ M, l = L ++ M ∧ Seg bs i M bs.length
 | 0, i, L, l, h2, h => by cases h
 | f + 1, i, L, l, h2, h => by
  rcases Nat.lt_or_ge i bs.length with hi | hi
  ·cases hx : lexS bs i with
   | error e => rw [splitF_bad hi hx] at h; cases h
   | ok x =>
    obtain ⟨x, j⟩ := x
    have hj := lexS_some hb hi hx
    rw [splitF_ok hi hx] at h
    obtain ⟨M, rfl, hM⟩ := splitF_seg hb hj.2 h
    exact ⟨x :: M, by simp, hi, j, hx, hM⟩
  ·rw [splitF_end hi] at h
   cases h
   exact ⟨[], by simp, by show i = bs.length; omega⟩
theorem seg_splitF {bs : List Nat} : ∀ {M : List Lex} {f i : Nat} {L : List Lex}, Seg bs i M bs.length → M.length < f → splitF bs f i L = .ok (L ++ M)
 | [], f, i, L, h, hf => by
  obtain ⟨f, rfl⟩ : ∃ g, f = g + 1 := ⟨f - 1, by simp at hf; omega⟩
  have : i = bs.length := h
  rw [splitF_end (by omega)]
  simp
 | x :: M, f, i, L, ⟨hi, j, hx, h⟩, hf => by
  obtain ⟨f, rfl⟩ : ∃ g, f = g + 1 := ⟨f - 1, by simp at hf; omega⟩
  rw [splitF_ok hi hx, seg_splitF h (by simp at hf; omega)]
  simp
theorem splitS_seg {bs : List Nat} (hb : ∀ x ∈ bs, x < 256) {l : List Lex} : splitS bs = .ok l ↔ bs.length ≤ 65536 ∧ Seg bs 0 l bs.length := by
 constructor
 ·intro h
  rcases Nat.lt_or_ge 65536 bs.length with h1 | h1
  ·rw [splitS_long h1] at h; cases h
  ·rw [splitS_go h1] at h
   obtain ⟨M, rfl, hM⟩ := splitF_seg hb (Nat.zero_le _) h
   exact ⟨h1, hM⟩
 ·rintro ⟨h1, h2⟩
  have h3 := (seg_len hb h2).1
  rw [splitS_go h1, seg_splitF h2 (by omega)]
  rfl
end
section
open Go.RowKit
def rightS (x : Lex) : Bool := rightV x.kind x.place (word x.set 0 : Nat) (word x.set 1 : Nat) (word x.set 2 : Nat) (word x.set 3 : Nat) x.lo x.hi
theorem rightS_cases {x : Lex} (h : rightS x = true) : 0 ≤ x.place ∧ ((x.kind = 1 ∧ x.lo = 0 ∧ x.hi = 0) ∨
  (x.kind = 8 ∧ 0 ≤ x.lo ∧ x.lo ≤ 1000 ∧ (x.hi = -1 ∨ x.lo ≤ x.hi ∧ x.hi ≤ 1000) ∧ ∀ i, i < 4 → word x.set i = 0) ∨
  (2 ≤ x.kind ∧ x.kind ≤ 7 ∧ x.lo = 0 ∧ x.hi = 0 ∧ ∀ i, i < 4 → word x.set i = 0)) := by
 unfold rightS rightV at h
 rw [Bool.and_eq_true, Bool.and_eq_true, decide_eq_true_eq] at h
 obtain ⟨⟨h1, h2⟩, h3⟩ := h
 refine ⟨h1, ?_⟩
 by_cases hk : x.kind = 1
 ·rw [if_neg (by omega)] at h3
  simp at h3
  exact .inl ⟨hk, h3.1.1.1, h3.1.1.2⟩
 rw [Bool.or_eq_true, decide_eq_true_eq] at h2
 have hz := h2.resolve_left hk
 simp at hz
 have hw : ∀ i, i < 4 → word x.set i = 0 := by
  intro i hi
  match i, hi with
  | 0, _ => exact hz.1.1.1
  | 1, _ => exact hz.1.1.2
  | 2, _ => exact hz.1.2
  | 3, _ => exact hz.2
 by_cases h8 : x.kind = 8
 ·rw [if_pos h8] at h3
  unfold repV at h3
  simp at h3
  exact .inr (.inl ⟨h8, h3.1.1, h3.1.2, h3.2, hw⟩)
 ·rw [if_neg h8] at h3
  simp at h3
  exact .inr (.inr ⟨by omega, by omega, h3.1.1.1, h3.1.1.2, hw⟩)
theorem word_empty (i : Nat) (hi : i < 4) : word noSet i = 0 := by
 match i, hi with
 | 0, _ => rfl
 | 1, _ => rfl
 | 2, _ => rfl
 | 3, _ => rfl
theorem right_set (i : Nat) (p : Nat → Bool) : rightS ⟨1, (i : Int), p, 0, 0⟩ = true := by simp [rightS, rightV]
theorem right_rep_of (i : Nat) (lo : Nat) (hi : Int) (h1 : lo ≤ 1000) (h2 : hi = -1 ∨ (lo : Int) ≤ hi ∧ hi ≤ 1000) : rightS ⟨8, (i : Int), noSet, (lo : Int), hi⟩ = true := by
 have e0 := word_empty 0 (by decide)
 have e1 := word_empty 1 (by decide)
 have e2 := word_empty 2 (by decide)
 have e3 := word_empty 3 (by decide)
 unfold rightS rightV repV
 simp [e0, e1, e2, e3]
 omega
theorem right_sign_of (i c : Nat) (h : signKind c ≠ 0) : rightS ⟨signKind c, (i : Int), noSet, 0, 0⟩ = true := by
 have e0 := word_empty 0 (by decide)
 have e1 := word_empty 1 (by decide)
 have e2 := word_empty 2 (by decide)
 have e3 := word_empty 3 (by decide)
 have hk : signKind c = 2 ∨ signKind c = 3 ∨ signKind c = 4 ∨ signKind c = 5 ∨ signKind c = 6 ∨ signKind c = 7 := by
  unfold signKind at h ⊢
  repeat' split
  all_goals simp_all
 unfold rightS rightV
 rcases hk with hk | hk | hk | hk | hk | hk
 all_goals simp [hk, e0, e1, e2, e3]
theorem repS_right {bs : List Nat} {i j : Nat} {x : Lex} (h : repS bs i = .ok (x, j)) : rightS x = true := by
 unfold repS at h
 split at h
 ·cases h
 ·rename_i lo m hm
  have h1 := takeS_some hm
  split at h
  ·split at h
   ·rw [← (Prod.mk.inj (Except.ok.inj h)).1]
    exact right_rep_of i lo (-1) h1.1 (.inl rfl)
   ·split at h
    ·cases h
    ·rename_i hi k hk
     have h2 := takeS_some hk
     split at h
     ·split at h
      ·cases h
      ·rw [← (Prod.mk.inj (Except.ok.inj h)).1]
       exact right_rep_of i lo (hi : Int) h1.1 (.inr (by omega))
     ·cases h
  ·split at h
   ·rw [← (Prod.mk.inj (Except.ok.inj h)).1]
    exact right_rep_of i lo (lo : Int) h1.1 (.inr (by omega))
   ·cases h
theorem lexS_right {bs : List Nat} {i j : Nat} {x : Lex} (h : lexS bs i = .ok (x, j)) : rightS x = true := by
 unfold lexS at h
 split at h
 ·rw [← (Prod.mk.inj (Except.ok.inj h)).1]; exact right_set i _
 split at h
 ·split at h
  ·rw [← (Prod.mk.inj (Except.ok.inj h)).1]; exact right_set i _
  ·cases h
 split at h
 ·split at h
  ·rw [← (Prod.mk.inj (Except.ok.inj h)).1]; exact right_set i _
  ·cases h
 split at h
 ·exact repS_right h
 split at h
 ·cases h
 split at h
 ·rename_i hk
  rw [← (Prod.mk.inj (Except.ok.inj h)).1]; exact right_sign_of i _ hk
 ·rw [← (Prod.mk.inj (Except.ok.inj h)).1]; exact right_set i _
theorem seg_right {bs : List Nat} : ∀ {M : List Lex} {i k : Nat}, Seg bs i M k → ∀ x ∈ M, rightS x = true
 | [], i, k, _, x, hx => by cases hx
 | y :: M, i, k, ⟨_, j, hy, h⟩, x, hx => by
  rcases List.mem_cons.1 hx with rfl | hx
  ·exact lexS_right hy
  ·exact seg_right h x hx
theorem seg_rise {bs : List Nat} (hb : ∀ x ∈ bs, x < 256) : ∀ {M : List Lex} {i k : Nat}, Seg bs i M k → ∀ (n : Nat) x y, M[n]? = some x → M[n + 1]? = some y → x.place < y.place
 | [], i, k, _, n, x, y, hx, _ => by simp at hx
 | z :: M, i, k, ⟨hi, j, hz, h⟩, 0, x, y, hx, hy => by
  have h1 := lexS_place hz
  have h2 := lexS_some hb hi hz
  simp at hx hy
  match M, hy, h with
  | u :: M, hy, ⟨_, j2, hu, _⟩ =>
   have h3 := lexS_place hu
   simp at hy
   rw [← hx, ← hy, h1, h3]
   omega
 | z :: M, i, k, ⟨hi, j, hz, h⟩, n + 1, x, y, hx, hy => seg_rise hb h n x y (by simpa using hx) (by simpa using hy)
theorem splitS_right {bs : List Nat} (hb : ∀ x ∈ bs, x < 256) {M : List Lex} (h : splitS bs = .ok M) :
  (∀ (k : Nat) x, M[k]? = some x → rightS x = true) ∧ (∀ (k : Nat) x y, M[k]? = some x → M[k + 1]? = some y → x.place < y.place) ∧ M.length ≤ 65536 := by
 obtain ⟨h1, h2⟩ := (splitS_seg hb).1 h
 have h3 := (seg_len hb h2).1
 exact ⟨fun k x hx => seg_right h2 x (List.mem_of_getElem? hx), seg_rise hb h2, by omega⟩
def LexsAt (w : World) (B : Nat) (A : Option Addr) (L : List Lex) : Prop :=
 0 < L.length → ∃ b o, A = some ⟨b, o, none⟩ ∧ b < B ∧ ∀ (k : Nat) x, L[k]? = some x →
  w.cell? ⟨b, o + k * 8, none⟩ = some (.int .i64 x.kind) ∧ w.cell? ⟨b, o + k * 8 + 1, none⟩ = some (.int .i64 x.place) ∧
  w.cell? ⟨b, o + k * 8 + 2, none⟩ = some (.int .u64 (word x.set 0)) ∧ w.cell? ⟨b, o + k * 8 + 3, none⟩ = some (.int .u64 (word x.set 1)) ∧ w.cell? ⟨b, o + k * 8 + 4, none⟩ = some (.int .u64 (word x.set 2)) ∧ w.cell? ⟨b, o + k * 8 + 5, none⟩ = some (.int .u64 (word x.set 3)) ∧
  w.cell? ⟨b, o + k * 8 + 6, none⟩ = some (.int .i64 x.lo) ∧ w.cell? ⟨b, o + k * 8 + 7, none⟩ = some (.int .i64 x.hi)
theorem LexsAt.below {w w' : World} {B : Nat} {A : Option Addr} {L : List Lex} (h : LexsAt w B A L) (hb : Below B w w') : LexsAt w' B A L := fun hn => by
 obtain ⟨b, o, ha, hl, hc⟩ := h hn
 refine ⟨b, o, ha, hl, fun k x hx => ?_⟩
 obtain ⟨c0, c1, c2, c3, c4, c5, c6, c7⟩ := hc k x hx
 exact ⟨(hb.cell (p := ⟨b, _, none⟩) hl).trans c0, (hb.cell (p := ⟨b, _, none⟩) hl).trans c1, (hb.cell (p := ⟨b, _, none⟩) hl).trans c2, (hb.cell (p := ⟨b, _, none⟩) hl).trans c3,
  (hb.cell (p := ⟨b, _, none⟩) hl).trans c4, (hb.cell (p := ⟨b, _, none⟩) hl).trans c5, (hb.cell (p := ⟨b, _, none⟩) hl).trans c6, (hb.cell (p := ⟨b, _, none⟩) hl).trans c7⟩
theorem LexsAt.more {w : World} {B B' : Nat} {A : Option Addr} {L : List Lex} (h : LexsAt w B A L) (hB : B ≤ B') : LexsAt w B' A L := fun hn => by
 obtain ⟨b, o, ha, hl, hc⟩ := h hn
 exact ⟨b, o, ha, by omega, hc⟩
theorem LexsAt.cons {w : World} {B : Nat} {A : Option Addr} {x : Lex} {L : List Lex} (h : LexsAt w B A (x :: L)) : ∃ b o, A = some ⟨b, o, none⟩ ∧ b < B ∧
  (w.cell? ⟨b, o, none⟩ = some (.int .i64 x.kind) ∧ w.cell? ⟨b, o + 1, none⟩ = some (.int .i64 x.place) ∧
  w.cell? ⟨b, o + 2, none⟩ = some (.int .u64 (word x.set 0)) ∧ w.cell? ⟨b, o + 3, none⟩ = some (.int .u64 (word x.set 1)) ∧ w.cell? ⟨b, o + 4, none⟩ = some (.int .u64 (word x.set 2)) ∧ w.cell? ⟨b, o + 5, none⟩ = some (.int .u64 (word x.set 3)) ∧
  w.cell? ⟨b, o + 6, none⟩ = some (.int .i64 x.lo) ∧ w.cell? ⟨b, o + 7, none⟩ = some (.int .i64 x.hi)) ∧ LexsAt w B (some ⟨b, o + 8, none⟩) L := by
 obtain ⟨b, o, ha, hl, hc⟩ := h (by simp)
 refine ⟨b, o, ha, hl, by simpa using hc 0 x rfl, fun _ => ⟨b, o + 8, rfl, hl, fun k y hy => ?_⟩⟩
 have := hc (k + 1) y (by simpa using hy)
 rw [show o + (k + 1) * 8 = o + 8 + k * 8 by omega] at this
 exact this
theorem LexsAt.nil {w : World} {B : Nat} {A : Option Addr} : LexsAt w B A [] := fun h => absurd h (by simp)
end
section
def maskOf (p : Nat → Bool) : Nat := ofBits p 256
theorem word_mask (p : Nat → Bool) (i : Nat) (h : i < 4) : word (maskOf p).testBit i = word p i :=
 word_congr (fun j hj => by unfold maskOf; rw [testBit_ofBits]; simp; omega)
def leafN (s : Nat) : Nd := ⟨3, s, .nil, 0, 0⟩
def emptyN : Nd := ⟨2, 0, .nil, 0, 0⟩
def isPost (k : Int) : Bool := decide (5 ≤ k) && decide (k ≤ 8)
def postN (y : Lex) (x : Nd) : Nd := if y.kind = 8 then ⟨9, 0, Trees.of [x], y.lo, y.hi⟩ else ⟨y.kind + 1, 0, Trees.of [x], 0, 0⟩
def flatN (k : Int) : List Nd → Nd
 | [x] => x
 | l => ⟨k, 0, Trees.of l, 0, 0⟩
def partN : List Nd → Nd
 | [] => emptyN
 | l => flatN 4 l
def postsG : Nd → List Lex → Nd × List Lex
 | x, [] => (x, [])
 | x, y :: L => if isPost y.kind = true then postsG (postN y x) L else (x, y :: L)
mutual
def altG : Nat → List Int → List Nd → List Lex → Except Wrong (Nd × List Lex)
 | 0, _, _, _ => .error (0, 0)
 | n + 1, op, acc, L => match piecesG n op [] L with
  | .error e => .error e
  | .ok (ps, R) => match R with
   | [] => .ok (flatN 5 (acc ++ [partN ps]), [])
   | c :: R' => if c.kind = 4 then altG n op (acc ++ [partN ps]) R' else .ok (flatN 5 (acc ++ [partN ps]), c :: R')
def piecesG : Nat → List Int → List Nd → List Lex → Except Wrong (List Nd × List Lex)
 | 0, _, _, _ => .error (0, 0)
 | n + 1, op, acc, L => match atomG n op L with
  | .error e => .error e
  | .ok (none, R) => .ok (acc, R)
  | .ok (some x, R) => piecesG n op (acc ++ [(postsG x R).1]) (postsG x R).2
def atomG : Nat → List Int → List Lex → Except Wrong (Option Nd × List Lex)
 | 0, _, _ => .error (0, 0)
 | _ + 1, _, [] => .ok (none, [])
 | n + 1, op, y :: L =>
  if y.kind = 1 then .ok (some (leafN (maskOf y.set)), L)
  else if y.kind = 2 then
   if op.length = 64 then .error (17, y.place) else match altG n (y.place :: op) [] L with
   | .error e => .error e
   | .ok (x, R) => match R with
    | [] => .error (11, y.place)
    | c :: R' => if c.kind = 3 then .ok (some x, R') else .error (11, y.place)
  else if isPost y.kind = true then .error (5, y.place)
  else if y.kind = 3 ∧ op.length = 0 then .error (12, y.place)
  else .ok (none, y :: L)
end
def tailG (n : Nat) (op : List Int) (acc : List Nd) : List Lex → Except Wrong (Nd × List Lex)
 | [] => .ok (flatN 5 acc, [])
 | c :: R' => if c.kind = 4 then altG n op acc R' else .ok (flatN 5 acc, c :: R')
theorem tailG_nil (n : Nat) (op : List Int) (acc : List Nd) : tailG n op acc [] = .ok (flatN 5 acc, []) := rfl
theorem tailG_bar {n : Nat} {op : List Int} {acc : List Nd} {c : Lex} {R : List Lex} (h : c.kind = 4) : tailG n op acc (c :: R) = altG n op acc R := if_pos h
theorem tailG_stop {n : Nat} {op : List Int} {acc : List Nd} {c : Lex} {R : List Lex} (h : c.kind ≠ 4) : tailG n op acc (c :: R) = .ok (flatN 5 acc, c :: R) := if_neg h
theorem altG_step (n : Nat) (op : List Int) (acc : List Nd) (L : List Lex) : altG (n + 1) op acc L = match piecesG n op [] L with
  | .error e => .error e
  | .ok (ps, R) => tailG n op (acc ++ [partN ps]) R := by
 rw [altG]
 cases h : piecesG n op [] L with
 | error e => rfl
 | ok r =>
  obtain ⟨ps, R⟩ := r
  cases R <;> rfl
theorem altG_bad {n : Nat} {op : List Int} {acc : List Nd} {L : List Lex} {e : Wrong} (h : piecesG n op [] L = .error e) : altG (n + 1) op acc L = .error e := by rw [altG_step, h]
theorem altG_ok {n : Nat} {op : List Int} {acc : List Nd} {L : List Lex} {ps : List Nd} {R : List Lex} (h : piecesG n op [] L = .ok (ps, R)) : altG (n + 1) op acc L = tailG n op (acc ++ [partN ps]) R := by rw [altG_step, h]
theorem piecesG_bad {n : Nat} {op : List Int} {acc : List Nd} {L : List Lex} {e : Wrong} (h : atomG n op L = .error e) : piecesG (n + 1) op acc L = .error e := by rw [piecesG, h]
theorem piecesG_end {n : Nat} {op : List Int} {acc : List Nd} {L R : List Lex} (h : atomG n op L = .ok (none, R)) : piecesG (n + 1) op acc L = .ok (acc, R) := by rw [piecesG, h]
theorem piecesG_go {n : Nat} {op : List Int} {acc : List Nd} {L R : List Lex} {x : Nd} (h : atomG n op L = .ok (some x, R)) : piecesG (n + 1) op acc L = piecesG n op (acc ++ [(postsG x R).1]) (postsG x R).2 := by rw [piecesG, h]
theorem atomG_nil (n : Nat) (op : List Int) : atomG (n + 1) op [] = .ok (none, []) := by rw [atomG]
theorem atomG_set {n : Nat} {op : List Int} {y : Lex} {L : List Lex} (h : y.kind = 1) : atomG (n + 1) op (y :: L) = .ok (some (leafN (maskOf y.set)), L) := by rw [atomG, if_pos h]
theorem atomG_deep {n : Nat} {op : List Int} {y : Lex} {L : List Lex} (h : y.kind = 2) (h2 : op.length = 64) : atomG (n + 1) op (y :: L) = .error (17, y.place) := by rw [atomG, if_neg (by omega), if_pos h, if_pos h2]
theorem atomG_in {n : Nat} {op : List Int} {y : Lex} {L : List Lex} {e : Wrong} (h : y.kind = 2) (h2 : op.length ≠ 64) (h3 : altG n (y.place :: op) [] L = .error e) : atomG (n + 1) op (y :: L) = .error e := by rw [atomG, if_neg (by omega), if_pos h, if_neg h2, h3]
theorem atomG_close {n : Nat} {op : List Int} {y c : Lex} {L R : List Lex} {x : Nd} (h : y.kind = 2) (h2 : op.length ≠ 64) (h3 : altG n (y.place :: op) [] L = .ok (x, c :: R)) (hc : c.kind = 3) : atomG (n + 1) op (y :: L) = .ok (some x, R) := by
 rw [atomG, if_neg (by omega), if_pos h, if_neg h2, h3]
 exact if_pos hc
theorem atomG_open {n : Nat} {op : List Int} {y : Lex} {L R : List Lex} {x : Nd} (h : y.kind = 2) (h2 : op.length ≠ 64) (h3 : altG n (y.place :: op) [] L = .ok (x, R)) (hc : ∀ c R', R = c :: R' → c.kind ≠ 3) : atomG (n + 1) op (y :: L) = .error (11, y.place) := by
 rw [atomG, if_neg (by omega), if_pos h, if_neg h2, h3]
 cases R with
 | nil => rfl
 | cons c R' => exact if_neg (hc c R' rfl)
theorem isPost_iff (k : Int) : isPost k = true ↔ 5 ≤ k ∧ k ≤ 8 := by unfold isPost; simp
theorem atomG_post {n : Nat} {op : List Int} {y : Lex} {L : List Lex} (h : isPost y.kind = true) : atomG (n + 1) op (y :: L) = .error (5, y.place) := by
 have := (isPost_iff _).1 h
 rw [atomG, if_neg (by omega), if_neg (by omega), if_pos h]
theorem atomG_lone {n : Nat} {op : List Int} {y : Lex} {L : List Lex} (h : y.kind = 3) (h2 : op.length = 0) : atomG (n + 1) op (y :: L) = .error (12, y.place) := by
 have : ¬ isPost y.kind = true := by rw [isPost_iff]; omega
 rw [atomG, if_neg (by omega), if_neg (by omega), if_neg this, if_pos ⟨h, h2⟩]
theorem atomG_stop {n : Nat} {op : List Int} {y : Lex} {L : List Lex} (h1 : y.kind ≠ 1) (h2 : y.kind ≠ 2) (h3 : isPost y.kind = false) (h4 : ¬ (y.kind = 3 ∧ op.length = 0)) : atomG (n + 1) op (y :: L) = .ok (none, y :: L) := by
 rw [atomG, if_neg h1, if_neg h2, if_neg (by rw [h3]; decide), if_neg h4]
def lexemesS (L : List Lex) : Except Wrong Nd :=
 if L.all rightS = false then .error (6, 0)
 else if h : 1024 < L.length then .error (4, (L[1024]).place)
 else match altG (3 * L.length + 3) [] [] L with
  | .error e => .error e
  | .ok (x, _) => .ok x
def parseS (bs : List Nat) : Except Wrong Nd :=
 match splitS bs with
 | .error e => .error e
 | .ok L => lexemesS L
theorem postsG_suf : ∀ (L : List Lex) (x : Nd), (postsG x L).2 <:+ L
 | [], x => List.suffix_refl _
 | y :: L, x => by
  unfold postsG
  split
  ·exact (postsG_suf L _).trans (List.suffix_cons y L)
  ·exact List.suffix_refl _
theorem readG_suf (n : Nat) : (∀ op acc L x R, altG n op acc L = .ok (x, R) → R <:+ L) ∧ (∀ op acc L ps R, piecesG n op acc L = .ok (ps, R) → R <:+ L) ∧
  (∀ op L x R, atomG n op L = .ok (x, R) → R <:+ L ∧ (x ≠ none → R.length < L.length)) := by
 induction n with
 | zero => exact ⟨fun _ _ _ _ _ h => (by rw [altG] at h; cases h), fun _ _ _ _ _ h => (by rw [piecesG] at h; cases h), fun _ _ _ _ h => (by rw [atomG] at h; cases h)⟩
 | succ n ih =>
  obtain ⟨ia, ip, it⟩ := ih
  refine ⟨fun op acc L x R h => ?_, fun op acc L ps R h => ?_, fun op L x R h => ?_⟩
  ·cases hp : piecesG n op [] L with
   | error e => rw [altG_bad hp] at h; cases h
   | ok r =>
    obtain ⟨ps, R1⟩ := r
    rw [altG_ok hp] at h
    have h1 := ip _ _ _ _ _ hp
    cases R1 with
    | nil => rw [tailG_nil] at h; cases h; exact h1
    | cons c R' =>
     by_cases h4 : c.kind = 4
     ·rw [tailG_bar h4] at h
      exact (ia _ _ _ _ _ h).trans ((List.suffix_cons c R').trans h1)
     ·rw [tailG_stop h4] at h
      cases h; exact h1
  ·cases hp : atomG n op L with
   | error e => rw [piecesG_bad hp] at h; cases h
   | ok r =>
    obtain ⟨x, R1⟩ := r
    have h1 := (it _ _ _ _ hp).1
    cases x with
    | none => rw [piecesG_end hp] at h; cases h; exact h1
    | some x =>
     rw [piecesG_go hp] at h
     exact (ip _ _ _ _ _ h).trans ((postsG_suf _ _).trans h1)
  ·cases L with
   | nil => rw [atomG_nil] at h; cases h; exact ⟨List.suffix_refl _, fun h => absurd rfl h⟩
   | cons y L =>
    rw [atomG] at h
    split at h
    ·cases h; exact ⟨List.suffix_cons _ _, fun _ => by simp⟩
    split at h
    ·split at h
     ·cases h
     split at h
     ·cases h
     ·rename_i x' R' hx
      have h1 := ia _ _ _ _ _ hx
      split at h
      ·cases h
      ·rename_i c R''
       split at h
       ·cases h
        have h2 : R <:+ L := (List.suffix_cons c R).trans h1
        exact ⟨h2.trans (List.suffix_cons y L), fun _ => by have := h2.length_le; simp; omega⟩
       ·cases h
    split at h
    ·cases h
    split at h
    ·cases h
    ·cases h; exact ⟨List.suffix_refl _, fun h => absurd rfl h⟩
def wrongS (op : List Int) (piece : Bool) : List Lex → Option Wrong
 | [] => match op with
  | [] => none
  | x :: _ => some (11, x)
 | y :: L =>
  if y.kind = 1 then wrongS op true L
  else if y.kind = 2 then (if 64 ≤ op.length then some (17, y.place) else wrongS (y.place :: op) false L)
  else if y.kind = 3 then (match op with
   | [] => some (12, y.place)
   | _ :: op' => wrongS op' true L)
  else if y.kind = 4 then wrongS op false L
  else if piece = false then some (5, y.place) else wrongS op piece L
def NoPost (L : List Lex) : Prop := ∀ y L', L = y :: L' → isPost y.kind = false
def Kinds (L : List Lex) : Prop := ∀ y ∈ L, 1 ≤ y.kind ∧ y.kind ≤ 8
theorem Kinds.suf {L R : List Lex} (h : Kinds L) (hs : R <:+ L) : Kinds R := fun y hy => h y (hs.subset hy)
theorem Kinds.tail {L : List Lex} {y : Lex} (h : Kinds (y :: L)) : Kinds L := fun z hz => h z (List.mem_cons_of_mem y hz)
def Stop (op : List Int) (R : List Lex) : Prop := R = [] ∨ ∃ c R', R = c :: R' ∧ (c.kind = 4 ∨ c.kind = 3 ∧ op ≠ [])
def Stop2 (op : List Int) (R : List Lex) : Prop := R = [] ∨ ∃ c R', R = c :: R' ∧ c.kind = 3 ∧ op ≠ []
theorem Stop.noPost {op : List Int} {R : List Lex} (h : Stop op R) : NoPost R := by
 intro y L' e
 rcases h with rfl | ⟨c, R', rfl, h⟩
 ·cases e
 ·cases e
  unfold isPost
  simp
  omega
theorem wrongS_flag {op : List Int} {R : List Lex} (hk : Kinds R) (h : NoPost R) (p q : Bool) : wrongS op p R = wrongS op q R := by
 cases R with
 | nil => rfl
 | cons y L =>
  have h1 := hk y (by simp)
  have h2 := h y L rfl
  have h3 : ¬ (5 ≤ y.kind ∧ y.kind ≤ 8) := fun hh => by rw [(isPost_iff _).2 hh] at h2; cases h2
  unfold wrongS
  by_cases e1 : y.kind = 1
  ·rw [if_pos e1, if_pos e1]
  rw [if_neg e1, if_neg e1]
  by_cases e2 : y.kind = 2
  ·rw [if_pos e2, if_pos e2]
  rw [if_neg e2, if_neg e2]
  by_cases e3 : y.kind = 3
  ·rw [if_pos e3, if_pos e3]
  rw [if_neg e3, if_neg e3]
  rw [if_pos (by omega), if_pos (by omega)]
theorem postsG_wrong (op : List Int) : ∀ (L : List Lex) (x : Nd), Kinds L → wrongS op true L = wrongS op true (postsG x L).2 ∧ NoPost (postsG x L).2
 | [], x, _ => ⟨rfl, fun y L' e => by cases e⟩
 | y :: L, x, hk => by
  unfold postsG
  split
  ·rename_i h
   have h1 := (isPost_iff _).1 h
   have := postsG_wrong op L (postN y x) hk.tail
   refine ⟨?_, this.2⟩
   rw [← this.1]
   conv => lhs; unfold wrongS
   rw [if_neg (by omega), if_neg (by omega), if_neg (by omega), if_neg (by omega), if_neg (by decide)]
  ·rename_i h
   refine ⟨rfl, fun z L' e => ?_⟩
   cases e
   simpa using h
def AltW (n : Nat) : Prop := ∀ op acc L, Kinds L → op.length ≤ 64 → 3 * L.length + 2 < n →
 match altG n op acc L with
 | .error e => wrongS op false L = some e
 | .ok (_, R) => Stop2 op R ∧ wrongS op false L = wrongS op false R
def PiecesW (n : Nat) : Prop := ∀ op acc L (p : Bool), Kinds L → op.length ≤ 64 → 3 * L.length + 1 < n → (p = false ∨ NoPost L) →
 match piecesG n op acc L with
 | .error e => wrongS op p L = some e
 | .ok (_, R) => Stop op R ∧ wrongS op p L = wrongS op false R
def AtomW (n : Nat) : Prop := ∀ op L (p : Bool), Kinds L → op.length ≤ 64 → 3 * L.length < n → (p = false ∨ NoPost L) →
 match atomG n op L with
 | .error e => wrongS op p L = some e
 | .ok (none, R) => R = L ∧ Stop op L
 | .ok (some _, R) => wrongS op p L = wrongS op true R
theorem readG_wrong (n : Nat) : AltW n ∧ PiecesW n ∧ AtomW n := by
 induction n with
 | zero => exact ⟨fun _ _ _ _ _ h => by omega, fun _ _ _ _ _ _ h => by omega, fun _ _ _ _ _ h => by omega⟩
 | succ n ih =>
  obtain ⟨ia, ip, it⟩ := ih
  obtain ⟨sa, sp, st⟩ := readG_suf n
  refine ⟨fun op acc L hk ho hn => ?_, fun op acc L p hk ho hn hp => ?_, fun op L p hk ho hn hp => ?_⟩
  ·have h1 := ip op [] L false hk ho (by omega) (.inl rfl)
   cases hx : piecesG n op [] L with
   | error e => rw [hx] at h1; rw [altG_bad hx]; exact h1
   | ok r =>
    obtain ⟨ps, R⟩ := r
    rw [hx] at h1
    obtain ⟨h1, h2⟩ := h1
    have hs := sp _ _ _ _ _ hx
    rw [altG_ok hx]
    rcases h1 with rfl | ⟨c, R', rfl, hc⟩
    ·exact ⟨.inl rfl, h2⟩
    ·by_cases h4 : c.kind = 4
     ·rw [tailG_bar h4]
      have hl := hs.length_le
      simp at hl
      have h3 := ia op (acc ++ [partN ps]) R' ((hk.suf hs).tail) ho (by omega)
      have e : wrongS op false (c :: R') = wrongS op false R' := by
       conv => lhs; unfold wrongS
       rw [if_neg (by omega), if_neg (by omega), if_neg (by omega), if_pos h4]
      rw [h2, e]
      exact h3
     ·rw [tailG_stop h4]
      exact ⟨.inr ⟨c, R', rfl, by omega, by rcases hc with hc | hc; exact absurd hc h4; exact hc.2⟩, h2⟩
  ·have h1 := it op L p hk ho (by omega) hp
   cases hx : atomG n op L with
   | error e => rw [hx] at h1; rw [piecesG_bad hx]; exact h1
   | ok r =>
    obtain ⟨x, R⟩ := r
    have hs := st _ _ _ _ hx
    cases x with
    | none =>
     rw [hx] at h1
     obtain ⟨rfl, h1⟩ := h1
     rw [piecesG_end hx]
     exact ⟨h1, wrongS_flag hk h1.noPost _ _⟩
    | some x =>
     rw [hx] at h1
     rw [piecesG_go hx]
     have h2 := postsG_wrong op R x (hk.suf hs.1)
     have hs2 := postsG_suf R x
     have hl := hs.2 (by simp)
     have hl2 := hs2.length_le
     have h3 := ip op (acc ++ [(postsG x R).1]) (postsG x R).2 true (hk.suf (hs2.trans hs.1)) ho (by omega) (.inr h2.2)
     rw [show wrongS op p L = wrongS op true (postsG x R).2 from h1.trans h2.1]
     exact h3
  ·cases L with
   | nil => rw [atomG_nil]; exact ⟨rfl, .inl rfl⟩
   | cons y L =>
    have hky := hk y (by simp)
    simp only [List.length_cons] at hn
    by_cases e1 : y.kind = 1
    ·rw [atomG_set e1]
     show wrongS op p (y :: L) = wrongS op true L
     conv => lhs; unfold wrongS
     rw [if_pos e1]
    by_cases e2 : y.kind = 2
    ·by_cases h64 : op.length = 64
     ·rw [atomG_deep e2 h64]
      show wrongS op p (y :: L) = _
      unfold wrongS
      rw [if_neg e1, if_pos e2, if_pos (by omega)]
     ·have h1 := ia (y.place :: op) [] L hk.tail (by simp; omega) (by omega)
      have ew : wrongS op p (y :: L) = wrongS (y.place :: op) false L := by
       conv => lhs; unfold wrongS
       rw [if_neg e1, if_pos e2, if_neg (by omega)]
      cases hx : altG n (y.place :: op) [] L with
      | error e => rw [hx] at h1; rw [atomG_in e2 h64 hx]; exact ew.trans h1
      | ok r =>
       obtain ⟨x, R⟩ := r
       rw [hx] at h1
       obtain ⟨h1, h2⟩ := h1
       rcases h1 with rfl | ⟨c, R', rfl, hc, _⟩
       ·rw [atomG_open e2 h64 hx (fun c R' e => by cases e)]
        exact ew.trans h2
       ·rw [atomG_close e2 h64 hx hc]
        refine ew.trans (h2.trans ?_)
        conv => lhs; unfold wrongS
        rw [if_neg (by omega), if_neg (by omega), if_pos hc]
    by_cases e5 : isPost y.kind = true
    ·rw [atomG_post e5]
     have h5 := (isPost_iff _).1 e5
     have hp' : p = false := by
      rcases hp with h | h
      ·exact h
      ·rw [h y L rfl] at e5; cases e5
     show wrongS op p (y :: L) = _
     unfold wrongS
     rw [if_neg e1, if_neg e2, if_neg (by omega), if_neg (by omega), if_pos hp']
    by_cases e3 : y.kind = 3
    ·by_cases h0 : op.length = 0
     ·rw [atomG_lone e3 h0]
      show wrongS op p (y :: L) = _
      have : op = [] := List.length_eq_zero_iff.1 h0
      subst this
      unfold wrongS
      rw [if_neg e1, if_neg e2, if_pos e3]
     ·rw [atomG_stop e1 e2 (by simpa using e5) (fun h => h0 h.2)]
      exact ⟨rfl, .inr ⟨y, L, rfl, .inr ⟨e3, fun h => h0 (by rw [h]; rfl)⟩⟩⟩
    ·rw [atomG_stop e1 e2 (by simpa using e5) (fun h => e3 h.1)]
     have : ¬ (5 ≤ y.kind ∧ y.kind ≤ 8) := fun h => e5 ((isPost_iff _).2 h)
     exact ⟨rfl, .inr ⟨y, L, rfl, .inl (by omega)⟩⟩
theorem read_wrong (L : List Lex) (hk : Kinds L) : match altG (3 * L.length + 3) [] [] L with
  | .error e => wrongS [] false L = some e
  | .ok (_, R) => R = [] ∧ wrongS [] false L = none := by
 have h := (readG_wrong (3 * L.length + 3)).1 [] [] L hk (by simp) (by omega)
 cases hx : altG (3 * L.length + 3) [] [] L with
 | error e => rw [hx] at h; exact h
 | ok r =>
  obtain ⟨x, R⟩ := r
  rw [hx] at h
  obtain ⟨h1, h2⟩ := h
  rcases h1 with rfl | ⟨c, R', rfl, _, h0⟩
  ·exact ⟨rfl, h2⟩
  ·exact absurd rfl h0
end
section
open Go.RowKit
theorem Blk.put8 {w : World} {g : Nat} {t : TypeId} {a0 a1 a2 a3 a4 a5 a6 a7 : Value} (h : Blk w g t #[a0, a1, a2, a3, a4, a5, a6, a7]) (b0 b1 b2 b3 b4 b5 b6 b7 : Value) : Blk ((((((((w.setCell ⟨g, 0, none⟩ b0).setCell ⟨g, 1, none⟩ b1).setCell ⟨g, 2, none⟩ b2).setCell ⟨g, 3, none⟩ b3).setCell ⟨g, 4, none⟩ b4).setCell ⟨g, 5, none⟩ b5).setCell ⟨g, 6, none⟩ b6).setCell ⟨g, 7, none⟩ b7) g t #[b0, b1, b2, b3, b4, b5, b6, b7] := by
 have h1 : Blk (w.setCell ⟨g, 0, none⟩ b0) g t #[b0, a1, a2, a3, a4, a5, a6, a7] := Blk.set_ h 0 b0
 have h2 : Blk ((w.setCell ⟨g, 0, none⟩ b0).setCell ⟨g, 1, none⟩ b1) g t #[b0, b1, a2, a3, a4, a5, a6, a7] := Blk.set_ h1 1 b1
 have h3 : Blk (((w.setCell ⟨g, 0, none⟩ b0).setCell ⟨g, 1, none⟩ b1).setCell ⟨g, 2, none⟩ b2) g t #[b0, b1, b2, a3, a4, a5, a6, a7] := Blk.set_ h2 2 b2
 have h4 : Blk ((((w.setCell ⟨g, 0, none⟩ b0).setCell ⟨g, 1, none⟩ b1).setCell ⟨g, 2, none⟩ b2).setCell ⟨g, 3, none⟩ b3) g t #[b0, b1, b2, b3, a4, a5, a6, a7] := Blk.set_ h3 3 b3
 have h5 : Blk (((((w.setCell ⟨g, 0, none⟩ b0).setCell ⟨g, 1, none⟩ b1).setCell ⟨g, 2, none⟩ b2).setCell ⟨g, 3, none⟩ b3).setCell ⟨g, 4, none⟩ b4) g t #[b0, b1, b2, b3, b4, a5, a6, a7] := Blk.set_ h4 4 b4
 have h6 : Blk ((((((w.setCell ⟨g, 0, none⟩ b0).setCell ⟨g, 1, none⟩ b1).setCell ⟨g, 2, none⟩ b2).setCell ⟨g, 3, none⟩ b3).setCell ⟨g, 4, none⟩ b4).setCell ⟨g, 5, none⟩ b5) g t #[b0, b1, b2, b3, b4, b5, a6, a7] := Blk.set_ h5 5 b5
 have h7 : Blk (((((((w.setCell ⟨g, 0, none⟩ b0).setCell ⟨g, 1, none⟩ b1).setCell ⟨g, 2, none⟩ b2).setCell ⟨g, 3, none⟩ b3).setCell ⟨g, 4, none⟩ b4).setCell ⟨g, 5, none⟩ b5).setCell ⟨g, 6, none⟩ b6) g t #[b0, b1, b2, b3, b4, b5, b6, a7] := Blk.set_ h6 6 b6
 have h8 : Blk ((((((((w.setCell ⟨g, 0, none⟩ b0).setCell ⟨g, 1, none⟩ b1).setCell ⟨g, 2, none⟩ b2).setCell ⟨g, 3, none⟩ b3).setCell ⟨g, 4, none⟩ b4).setCell ⟨g, 5, none⟩ b5).setCell ⟨g, 6, none⟩ b6).setCell ⟨g, 7, none⟩ b7) g t #[b0, b1, b2, b3, b4, b5, b6, b7] := Blk.set_ h7 7 b7
 exact h8
theorem Blk.past8 {w : World} {g g' : Nat} {t : TypeId} {cs : Array Value} (h : Blk w g t cs) (hg : g ≠ g') (b0 b1 b2 b3 b4 b5 b6 b7 : Value) : Blk ((((((((w.setCell ⟨g', 0, none⟩ b0).setCell ⟨g', 1, none⟩ b1).setCell ⟨g', 2, none⟩ b2).setCell ⟨g', 3, none⟩ b3).setCell ⟨g', 4, none⟩ b4).setCell ⟨g', 5, none⟩ b5).setCell ⟨g', 6, none⟩ b6).setCell ⟨g', 7, none⟩ b7) g t cs :=
 ((((((((h.far (p := ⟨g', 0, none⟩) hg b0).far (p := ⟨g', 1, none⟩) hg b1).far (p := ⟨g', 2, none⟩) hg b2).far (p := ⟨g', 3, none⟩) hg b3).far (p := ⟨g', 4, none⟩) hg b4).far (p := ⟨g', 5, none⟩) hg b5).far (p := ⟨g', 6, none⟩) hg b6).far (p := ⟨g', 7, none⟩) hg b7)
theorem below_put8 {B g : Nat} {a w : World} (h : Below B a w) (hg : B ≤ g) (b0 b1 b2 b3 b4 b5 b6 b7 : Value) : Below B a ((((((((w.setCell ⟨g, 0, none⟩ b0).setCell ⟨g, 1, none⟩ b1).setCell ⟨g, 2, none⟩ b2).setCell ⟨g, 3, none⟩ b3).setCell ⟨g, 4, none⟩ b4).setCell ⟨g, 5, none⟩ b5).setCell ⟨g, 6, none⟩ b6).setCell ⟨g, 7, none⟩ b7) :=
 ((((((((h.setCell (p := ⟨g, 0, none⟩) hg b0).setCell (p := ⟨g, 1, none⟩) hg b1).setCell (p := ⟨g, 2, none⟩) hg b2).setCell (p := ⟨g, 3, none⟩) hg b3).setCell (p := ⟨g, 4, none⟩) hg b4).setCell (p := ⟨g, 5, none⟩) hg b5).setCell (p := ⟨g, 6, none⟩) hg b6).setCell (p := ⟨g, 7, none⟩) hg b7)
def PAt (W : World) (p : Nat) (v : Value) (L : List Lex) (m : Nat) : Prop :=
 ∃ A cap xs, Blk W p 179 #[.slice A L.length cap, v] ∧ L.length ≤ cap ∧ LexsAt W p A L ∧ W.ownsRow (p + 1) 3 1 v m xs
def Off (p : Nat) (v : Value) (b : Nat) : Prop := b ≠ p ∧ some b ≠ v.ownBlock
def New (n p : Nat) (v : Value) (b : Nat) : Prop := n ≤ b ∧ Off p v b
def Still (p : Nat) (w : World) (v : Value) (w' : World) (v' : Value) : Prop :=
 Below p w w' ∧ (∀ b, b < w.heap.size → Off p v b → w'.heap[b]? = w.heap[b]?) ∧ (∀ g, v'.ownBlock = some g → v.ownBlock = some g ∨ w.heap.size ≤ g)
theorem Still.refl (p : Nat) (w : World) (v : Value) : Still p w v w v := ⟨Below.refl _ _, fun _ _ _ => rfl, fun _ h => .inl h⟩
theorem Still.trans {p : Nat} {w w1 w2 : World} {v v1 v2 : Value} (h : Still p w v w1 v1) (h' : Still p w1 v1 w2 v2) : Still p w v w2 v2 := by
 refine ⟨h.1.trans h'.1, fun b hb ho => ?_, fun g hg => ?_⟩
 ·have : Off p v1 b := ⟨ho.1, fun e => by
   rcases h.2.2 b e.symm with h1 | h1
   ·exact ho.2 h1.symm
   ·omega⟩
  exact (h'.2.1 b (Nat.lt_of_lt_of_le hb h.1.size) this).trans (h.2.1 b hb ho)
 ·rcases h'.2.2 g hg with h1 | h1
  ·exact h.2.2 g h1
  ·exact .inr (Nat.le_trans h.1.size h1)
theorem Still.off {p : Nat} {w w' : World} {v v' : Value} (h : Still p w v w' v') {b : Nat} (hb : Off p v b) (hl : b < w.heap.size) : Off p v' b :=
 ⟨hb.1, fun e => by
  rcases h.2.2 b e.symm with h1 | h1
  ·exact hb.2 h1.symm
  ·omega⟩
theorem Still.cell {p : Nat} {w w' : World} {v v' : Value} (h : Still p w v w' v') {b : Nat} (hb : Off p v b) (hl : b < w.heap.size) (o : Nat) : w'.cell? ⟨b, o, none⟩ = w.cell? ⟨b, o, none⟩ :=
 World.cell?_of_block (h.2.1 b hl hb)
theorem Still.blk {p : Nat} {w w' : World} {v v' : Value} (h : Still p w v w' v') {b : Nat} (hb : Off p v b) {t : TypeId} {cs : Array Value} (hk : Blk w b t cs) : Blk w' b t cs := (h.2.1 b hk.lt hb).trans hk
theorem Still.trees {n p : Nat} {w w' : World} {v v' : Value} (h : Still p w v w' v') {F : Trees} {A : Option Addr} (ht : TreesAt w (New n p v) F A) : TreesAt w' (New n p v') F A :=
 ht.keep (fun b o hb hl => h.cell hb.2 hl o) (fun b hb hl => ⟨hb.1, h.off hb.2 hl⟩)
theorem Still.own {p : Nat} {w w' : World} {v v' : Value} (h : Still p w v w' v') {base size n : Nat} {e : TypeId} {u : Value} {xs : List Value} (hr : w.ownsRow base e size u n xs) (ho : ∀ g, u.ownBlock = some g → Off p v g) : w'.ownsRow base e size u n xs := by
 refine ⟨hr.1, ?_⟩
 rcases hr.2 with hn | ⟨g, cap, cur, rfl, hb, hgg, rest⟩
 ·exact .inl hn
 ·exact .inr ⟨g, cap, cur, rfl, hb, (h.2.1 g (Array.getElem?_eq_some_iff.1 hgg).1 (ho g rfl)).trans hgg, rest⟩
theorem Still.of_below {p : Nat} {w w' : World} {v : Value} (h : Below w.heap.size w w') (hp : p ≤ w.heap.size) : Still p w v w' v :=
 ⟨h.mono hp, fun b hb _ => h.block b hb, fun _ h => .inl h⟩
theorem Still.set {p : Nat} {w w' : World} {v v' : Value} (h : Still p w v w' v') (o : Nat) (u : Value) : Still p w v (w'.setCell ⟨p, o, none⟩ u) v' :=
 ⟨h.1.setCell (p := ⟨p, o, none⟩) (Nat.le_refl _) u, fun b hb ho => (Below.heap_setCell w' ⟨p, o, none⟩ u b ho.1).trans (h.2.1 b hb ho), h.2.2⟩
theorem Still.more {p : Nat} {w w' w2 : World} {v v' : Value} (h : Still p w v w' v') (hb : Below w'.heap.size w' w2) (hp : p ≤ w.heap.size) : Still p w v w2 v' :=
 h.trans (Still.of_below hb (Nat.le_trans hp h.1.size))
theorem Still.alloc {p : Nat} {w w' : World} {v v' : Value} (h : Still p w v w' v') (hp : p ≤ w.heap.size) (o : Obj) : Still p w v (w'.alloc o) v' := h.more ((Below.refl _ _).alloc (Nat.le_refl _) o) hp
theorem PAt.lt {W : World} {p : Nat} {v : Value} {L : List Lex} {m : Nat} (h : PAt W p v L m) : p < W.heap.size := by
 obtain ⟨A, cap, xs, hb, _⟩ := h
 exact hb.lt
theorem PAt.below {W W' : World} {p : Nat} {v : Value} {L : List Lex} {m : Nat} (h : PAt W p v L m) (hb : Below W.heap.size W W') : PAt W' p v L m := by
 obtain ⟨A, cap, xs, h1, h2, h3, h4⟩ := h
 exact ⟨A, cap, xs, h1.below hb h1.lt, h2, h3.below (hb.mono (Nat.le_of_lt h1.lt)), own_below h4 hb⟩
theorem peek_nil {W : World} {p : Nat} {v : Value} {m : Nat} (h : PAt W p v [] m) :
  Calls Tryz.prog 202 #[.pointer (some ⟨p, 0, none⟩)] W fun e W' => e = .returned (.int .i64 0) ∧ W' = W := by
 obtain ⟨A, cap, xs, hb, _⟩ := h
 have c0 := hb.cell 0
 clear hb
 go_enter Tryz.func202, Tryz.ntmps202
 go_wp2
 go_ret
 exact ⟨rfl, rfl⟩
theorem peek_go {W : World} {p : Nat} {v : Value} {m : Nat} {x : Lex} {L : List Lex} (h : PAt W p v (x :: L) m) (hlen : L.length ≤ 100000) :
  Calls Tryz.prog 202 #[.pointer (some ⟨p, 0, none⟩)] W fun e W' => e = .returned (.int .i64 x.kind) ∧ W' = W := by
 obtain ⟨A, cap, xs, hb, hc, hl, _⟩ := h
 obtain ⟨b, o, rfl, hbp, ⟨c0, _⟩, _⟩ := hl.cons
 have s0 := hb.cell 0
 simp only [List.length_cons] at s0 hc
 clear hb hl
 have hz : (((L.length + 1 : Nat) : Int) == 0) = false := by simp; omega
 have hz2 : (((L.length : Int) + 1) == 0) = false := by simp; omega
 have hz3 : (0 : Int) < (L.length : Int) + 1 := by omega
 go_enter Tryz.func202, Tryz.ntmps202
 go_wp2
 go_ret
 exact ⟨rfl, rfl⟩
theorem fail_any (k at_ : Int) (W : World) :
  Calls Tryz.prog 250 #[.int .i64 k, .int .i64 at_] W fun e W' => e = .panicked [{ v := .iface 77 (.agg #[.int .i64 k, .int .i64 at_]), recovered := false }] ∧ W' = W := by
 go_enter Tryz.func250, Tryz.ntmps250
 go_wp2
 exact ⟨rfl, rfl, rfl⟩
theorem ret_node {fn : Func} {t : Tmp} (h : fn.results = #[.cell t 28]) {tmps : Array Value} {w : World} {g : Nat} {a0 a1 a2 a3 a4 a5 a6 a7 : Value} (hp : tmps.getD t undef = .pointer (some ⟨g, 0, none⟩)) (hb : Blk w g 28 #[a0, a1, a2, a3, a4, a5, a6, a7]) :
  (results fn tmps).run Tryz.prog w = .ok (.agg #[a0, a1, a2, a3, a4, a5, a6, a7]) w :=
 results_cell_row h tmps w g _ _ _ _ hp hb Tryz.underlying28 rfl (by kernel_rfl)
theorem ret_lex {fn : Func} {t : Tmp} (h : fn.results = #[.cell t 143]) {tmps : Array Value} {w : World} {g : Nat} {a0 a1 a2 a3 a4 a5 a6 a7 : Value} (hp : tmps.getD t undef = .pointer (some ⟨g, 0, none⟩)) (hb : Blk w g 143 #[a0, a1, a2, a3, a4, a5, a6, a7]) :
  (results fn tmps).run Tryz.prog w = .ok (.agg #[a0, a1, a2, a3, a4, a5, a6, a7]) w :=
 results_cell_row h tmps w g _ _ _ _ hp hb Tryz.underlying143 rfl (by kernel_rfl)
@[inline] def lexV (x : Lex) : Value := .agg #[.int .i64 x.kind, .int .i64 x.place, .int .u64 (word x.set 0), .int .u64 (word x.set 1), .int .u64 (word x.set 2), .int .u64 (word x.set 3), .int .i64 x.lo, .int .i64 x.hi]
theorem next_any {W : World} {p : Nat} {v : Value} {m : Nat} {x : Lex} {L : List Lex} (h : PAt W p v (x :: L) m) (hlen : L.length ≤ 100000) :
  Calls Tryz.prog 203 #[.pointer (some ⟨p, 0, none⟩)] W fun e W' => e = .returned (lexV x) ∧ PAt W' p v L m ∧ Still p W v W' v := by
 obtain ⟨A, cap, xs, hb, hc, hl, hr⟩ := h
 obtain ⟨b, o, rfl, hbp, ⟨c0, c1, c2, c3, c4, c5, c6, c7⟩, hl2⟩ := hl.cons
 have s0 : W.cell? ⟨p, 0, none⟩ = some (.slice (some ⟨b, o, none⟩) (L.length + 1) cap) := hb.cell 0
 have f0 := hb.frozen 0
 have hp := hb.lt
 have HB := Lib.hid hb
 have HL2 := Lib.hid hl2
 have HR := Lib.hid hr
 simp only [List.length_cons] at hc
 have hz : (0 : Int) < (L.length : Int) + 1 := by omega
 have hbs : b < W.heap.size := by omega
 clear hb hl hr hl2
 go_enter Tryz.func203, Tryz.ntmps203
 go_wp2
 go_light
 all_goals
  have hne := blk_not_row HB.out (by decide) HR.out
  refine bodyPost_ret (ret_lex Tryz.results203 rfl ((Blk.new_at (by simp)).alloc _)) rfl ⟨rfl, ⟨_, _, _, ((HB.out.set_ 0 _).alloc _).alloc _, by omega, ?_, ((own_set HR.out hne).alloc _).alloc _⟩, (((Still.refl p W v).set 0 _).alloc (Nat.le_of_lt hp) _).alloc (Nat.le_of_lt hp) _⟩
 ·by_cases hL : L = []
  ·subst hL; exact LexsAt.nil
  ·have := List.length_pos_iff.2 hL
   omega
 ·exact HL2.out.below ((((Below.refl p W).setCell (p := ⟨p, 0, none⟩) (Nat.le_refl _) _).alloc (by simpa [World.setCell] using Nat.le_of_lt hp) _).alloc (by simp [World.setCell]; omega) _)
@[go_sem] theorem lex_field1 (a b c d e f g h : Value) (w : World) : (Instr.field 143 (.agg #[a, b, c, d, e, f, g, h]) 1).run Tryz.prog w = .ok b w := by kernel_rfl
@[go_sem] theorem lex_field2 (a b c d e f g h : Value) (w : World) : (Instr.field 143 (.agg #[a, b, c, d, e, f, g, h]) 2).run Tryz.prog w = .ok (.agg #[c, d, e, f]) w := by kernel_rfl
end
section
def Alone (x : Nd) : Prop :=
 (x.kind = 3 ∧ x.kids.len = 0 ∧ x.lo = 0 ∧ x.hi = 0) ∨
 (x.set = 0 ∧ ((x.kind = 2 ∧ x.kids.len = 0 ∧ x.lo = 0 ∧ x.hi = 0) ∨ ((x.kind = 4 ∨ x.kind = 5) ∧ 2 ≤ x.kids.len ∧ x.lo = 0 ∧ x.hi = 0) ∨
  ((x.kind = 6 ∨ x.kind = 7 ∨ x.kind = 8) ∧ x.kids.len = 1 ∧ x.lo = 0 ∧ x.hi = 0) ∨ (x.kind = 9 ∧ x.kids.len = 1 ∧ 0 ≤ x.lo ∧ x.lo ≤ 1000 ∧ (x.hi = -1 ∨ x.lo ≤ x.hi ∧ x.hi ≤ 1000))))
end
section
open Go.RowKit
theorem tz_core (x k idx : Nat) (w : World) (hx0 : ((x : Int) == 0) = false)
  (key : IntKind.u64.wrap (bits BinOp.and IntKind.u64 (x : Int) (IntKind.u64.wrap (-(x : Int))) * 285870213051353865) / 288230376151711744 = (idx : Int))
  (hi : idx < 64) (hk : k < 64) (hcell : w.cell? ⟨0, idx, none⟩ = some (.int .u8 k)) :
  Calls Tryz.prog 174 #[.int .u64 x] w fun e w' => e = .returned (.int .i64 k) ∧ w = w' := by
 go_enter Tryz.func174, Tryz.ntmps174
 go_wp2_with (simp only [key])
 go_ret
 exact ⟨rfl, rfl⟩
theorem tz_go (x : Nat) (hx : x < 18446744073709551616) (hx0 : x ≠ 0) (w : World) (hT : TabAt 0 Lib.deBruijn64tab w) :
  Calls Tryz.prog 174 #[.int .u64 x] w fun e w' => e = .returned (.int .i64 (Lib.ctz 64 x)) ∧ w = w' := by
 obtain ⟨hlow, hk⟩ := Lib.lowest_bit 64 x hx0 hx
 obtain ⟨hi, htab⟩ := Lib.deBruijn64_at _ hk
 have hcell := hT _ hi
 rw [htab] at hcell
 exact tz_core x _ _ w (by simp; omega) (tz64_key x _ hx hx0 hlow) hi hk hcell
end
section
def elems (p : Nat → Bool) (m : Nat) : List Nat := (List.range m).filter p
theorem elems_succ (p : Nat → Bool) (m : Nat) : elems p (m + 1) = elems p m ++ (if p m then [m] else []) := by
 unfold elems
 rw [List.range_succ, List.filter_append]
 by_cases h : p m <;> simp [h]
theorem elems_skip (p : Nat → Bool) (m : Nat) : ∀ d, (∀ c, m ≤ c → c < m + d → p c = false) → elems p (m + d) = elems p m
 | 0, _ => rfl
 | d + 1, h => by rw [← Nat.add_assoc, elems_succ, elems_skip p m d (fun c h1 h2 => h c h1 (by omega)), h (m + d) (by omega) (by omega)]; simp
theorem elems_skip' (p : Nat → Bool) {m m' : Nat} (hm : m ≤ m') (h : ∀ c, m ≤ c → c < m' → p c = false) : elems p m' = elems p m := by
 obtain ⟨d, rfl⟩ : ∃ d, m' = m + d := ⟨m' - m, by omega⟩
 exact elems_skip p m d h
theorem elems_len (p : Nat → Bool) (m : Nat) : (elems p m).length ≤ m := by
 unfold elems; exact Nat.le_trans (List.length_filter_le _ _) (by simp)
theorem elems_lt {p : Nat → Bool} {m c : Nat} (h : c ∈ elems p m) : c < m := by
 unfold elems at h; simp at h; exact h.1
theorem low_bits (x : Nat) (hx : x < 2 ^ 64) (h0 : x ≠ 0) : Lib.ctz 64 x < 64 ∧ x.testBit (Lib.ctz 64 x) = true ∧ (∀ j, j < Lib.ctz 64 x → x.testBit j = false) ∧
  ∀ j, (x &&& (x - 1)).testBit j = (x.testBit j && decide (Lib.ctz 64 x < j)) := by
 unfold Lib.ctz
 rw [if_neg h0]
 obtain ⟨m, hm, hk⟩ := Lib.ctzFrom_spec 64 x (by omega) hx
 generalize Lib.ctzFrom 64 x = k at *
 have e1 : ∀ j, x.testBit j = if j < k then false else (2 * m + 1).testBit (j - k) := by
  intro j
  rw [hm]
  have h := Nat.testBit_two_pow_mul_add (2 * m + 1) (b := 0) (i := k) (Nat.two_pow_pos k) j
  rw [Nat.add_zero] at h
  rw [h, Nat.zero_testBit]
 have e2 : ∀ j, (x - 1).testBit j = if j < k then true else (2 * m).testBit (j - k) := by
  intro j
  have hp := Nat.two_pow_pos k
  have e : x - 1 = 2 ^ k * (2 * m) + (2 ^ k - 1) := by rw [hm, Nat.mul_add, Nat.mul_one]; omega
  rw [e, Nat.testBit_two_pow_mul_add (2 * m) (by omega) j]
  by_cases hj : j < k
  ·rw [if_pos hj, if_pos hj, Nat.testBit_two_pow_sub_one]; simp [hj]
  ·rw [if_neg hj, if_neg hj]
 refine ⟨hk, ?_, ?_, ?_⟩
 ·rw [e1, if_neg (Nat.lt_irrefl k), Nat.sub_self, Nat.testBit_zero]; simp
 ·intro j hj; rw [e1, if_pos hj]
 ·intro j
  rw [Nat.testBit_and, e1, e2]
  by_cases hj : j < k
  ·simp [hj]
  ·rw [if_neg hj, if_neg hj]
   by_cases he : j = k
   ·subst he; simp
   ·obtain ⟨d, rfl⟩ : ∃ d, j = k + (d + 1) := ⟨j - k - 1, by omega⟩
    have e3 : k + (d + 1) - k = d + 1 := by omega
    rw [e3, Nat.testBit_succ, Nat.testBit_succ, show (2 * m + 1) / 2 = m by omega, show 2 * m / 2 = m by omega]
    simp
theorem word_low (q : Nat → Bool) (i : Nat) (h0 : word q i ≠ 0) : Lib.ctz 64 (word q i) < 64 ∧ q (64 * i + Lib.ctz 64 (word q i)) = true ∧
  (∀ j, j < Lib.ctz 64 (word q i) → q (64 * i + j) = false) ∧
  word q i &&& (word q i - 1) = word (fun c => q c && decide (64 * i + Lib.ctz 64 (word q i) + 1 ≤ c)) i ∧
  word q i &&& (word q i - 1) < word q i := by
 have hx := word_lt q i
 obtain ⟨h1, h2, h3, h4⟩ := low_bits (word q i) hx h0
 refine ⟨h1, ?_, ?_, ?_, ?_⟩
 ·rw [testBit_word] at h2; simp at h2; exact h2.2
 ·intro j hj
  have h := h3 j hj
  rw [testBit_word] at h
  have : j < 64 := by omega
  simpa [this] using h
 ·apply Nat.eq_of_testBit_eq
  intro j
  rw [h4, testBit_word, testBit_word, Bool.and_assoc]
  congr 2
  rw [decide_eq_decide]
  omega
 ·have : word q i &&& (word q i - 1) ≤ word q i - 1 := Nat.and_le_right
  omega
theorem word_zeroQ (q : Nat → Bool) (i : Nat) (h0 : word q i = 0) : ∀ j, j < 64 → q (64 * i + j) = false := by
 intro j hj
 have h := testBit_word q i j
 rw [h0, Nat.zero_testBit] at h
 simpa [hj] using h.symm
theorem elems_next (p : Nat → Bool) (i m : Nat) (hm : m ≤ 64 * i + 64) (hm1 : 64 * i ≤ m) (h0 : word (fun c => p c && decide (m ≤ c)) i ≠ 0) :
  let k := Lib.ctz 64 (word (fun c => p c && decide (m ≤ c)) i)
  k < 64 ∧ m ≤ 64 * i + k ∧ elems p (64 * i + k + 1) = elems p m ++ [64 * i + k] ∧
  word (fun c => p c && decide (m ≤ c)) i &&& (word (fun c => p c && decide (m ≤ c)) i - 1) = word (fun c => p c && decide (64 * i + k + 1 ≤ c)) i ∧
  word (fun c => p c && decide (64 * i + k + 1 ≤ c)) i < word (fun c => p c && decide (m ≤ c)) i := by
 intro k
 obtain ⟨h1, h2, h3, h4, h5⟩ := word_low _ i h0
 change k < 64 at h1
 change (p (64 * i + k) && decide (m ≤ 64 * i + k)) = true at h2
 change ∀ j, j < k → (p (64 * i + j) && decide (m ≤ 64 * i + j)) = false at h3
 simp at h2
 have e : word (fun c => p c && decide (m ≤ c)) i &&& (word (fun c => p c && decide (m ≤ c)) i - 1) = word (fun c => p c && decide (64 * i + k + 1 ≤ c)) i := by
  rw [h4]
  apply congrArg (fun f => word f i)
  funext c
  by_cases hc : 64 * i + k + 1 ≤ c
  ·have : m ≤ c := by omega
   have hc' : 64 * i + Lib.ctz 64 (word (fun c => p c && decide (m ≤ c)) i) + 1 ≤ c := hc
   simp [this, hc, hc']
  ·simp only [hc, decide_false, Bool.and_false]
   have : ¬ (64 * i + Lib.ctz 64 (word (fun c => p c && decide (m ≤ c)) i) + 1 ≤ c) := hc
   simp [this]
 refine ⟨h1, h2.2, ?_, e, e ▸ h5⟩
 rw [elems_succ, h2.1, if_pos rfl, elems_skip' p h2.2 ?_]
 intro c hc1 hc2
 have h := h3 (c - 64 * i) (by omega)
 rw [show 64 * i + (c - 64 * i) = c by omega] at h
 simpa [hc1] using h
theorem elems_end (p : Nat → Bool) (i m : Nat) (hm : m ≤ 64 * i + 64) (hm1 : 64 * i ≤ m) (h0 : word (fun c => p c && decide (m ≤ c)) i = 0) : elems p (64 * (i + 1)) = elems p m := by
 refine elems_skip' p (by omega) ?_
 intro c hc1 hc2
 have h := word_zeroQ _ i h0 (c - 64 * i) (by omega)
 rw [show 64 * i + (c - 64 * i) = c by omega] at h
 simpa [hc1] using h
theorem word_start (p : Nat → Bool) (i : Nat) : word (fun c => p c && decide (64 * i ≤ c)) i = word p i := by
 apply Nat.eq_of_testBit_eq
 intro j
 rw [testBit_word, testBit_word]
 simp
end
section
open Go.RowKit
end
section
end
section
open Go.RowKit Go.Maps
end
section
open Go.RowKit
end
end Go.Proofs.YtofbfafnpdaejaaGreatDoor
