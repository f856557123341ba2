/- Texts of the claim. -/
import Derived.Test.YtofbfafnpdaejaaGreatDoorMMatEl
import Derived.Test.YtofbfafnpdaejaaGreatDoorMMatJ
import Derived.Test.YtofbfafnpdaejaaGreatDoorMZ06
namespace Go.Proofs.YtofbfafnpdaejaaGreatDoor
open Go.RowKit
set_option linter.unusedSimpArgs false
set_option linter.unusedVariables false
set_option maxRecDepth 100000
set_option maxHeartbeats 8000000
def exT (A B : Nat) : Nd := catM (starM (leafN A)) (optM (leafN B))
theorem parse_ab : parseS [97, 42, 98, 63] = .ok (exT (maskOf (among [97] 1)) (maskOf (among [98] 1))) := by rfl
theorem mask_is (a : Nat) (h : maskOf (among [a] 1) = 2 ^ a) (c : Nat) : (maskOf (among [a] 1)).testBit c = true ↔ c = a := by
 rw [h, Nat.testBit_two_pow]
 simp
 exact eq_comm
theorem mask97 : maskOf (among [97] 1) = 2 ^ 97 := by decide +kernel
theorem mask98 : maskOf (among [98] 1) = 2 ^ 98 := by decide +kernel
theorem leaf_rel {A a : Nat} (hA : ∀ c, A.testBit c = true ↔ c = a) (bs : List Nat) (i j : Nat) : (leafN A).rel bs i j ↔ bs[i]? = some a ∧ j = i + 1 := by
 rw [rel_set rfl]
 exact ⟨fun ⟨c, h1, h2, h3⟩ => ⟨by rw [h1, (hA c).1 h2], h3⟩, fun ⟨h1, h2⟩ => ⟨a, h1, (hA a).2 rfl, h2⟩⟩
theorem star_leaf {A a : Nat} (hA : ∀ c, A.testBit c = true ↔ c = a) (bs : List Nat) : ∀ (n i j : Nat), itR ((leafN A).rel bs) n i j ↔ j = i + n ∧ ∀ k, i ≤ k → k < j → bs[k]? = some a
 | 0, i, j => ⟨fun h => by
   have h : i = j := h
   exact ⟨by omega, fun k h1 h2 => by omega⟩, fun ⟨h, _⟩ => by show i = j; omega⟩
 | n + 1, i, j => by
  constructor
  ·rintro ⟨m, h1, h2⟩
   obtain ⟨e1, e2⟩ := (leaf_rel hA bs i m).1 h1
   obtain ⟨g1, g2⟩ := (star_leaf hA bs n m j).1 h2
   refine ⟨by omega, fun k h3 h4 => ?_⟩
   by_cases hk : k = i
   ·rw [hk]; exact e1
   ·exact g2 k (by omega) h4
  ·rintro ⟨h1, h2⟩
   exact ⟨i + 1, (leaf_rel hA bs i (i + 1)).2 ⟨h2 i (Nat.le_refl _) (by omega), rfl⟩, (star_leaf hA bs n (i + 1) j).2 ⟨by omega, fun k h3 h4 => h2 k (by omega) h4⟩⟩
theorem ex_rel {A B : Nat} (hA : ∀ c, A.testBit c = true ↔ c = 97) (hB : ∀ c, B.testBit c = true ↔ c = 98) (bs : List Nat) (i j : Nat) :
  (exT A B).rel bs i j ↔ ∃ m, (i ≤ m ∧ ∀ k, i ≤ k → k < m → bs[k]? = some 97) ∧ (j = m ∨ (bs[m]? = some 98 ∧ j = m + 1)) := by
 unfold exT
 rw [rel_cat]
 constructor
 ·rintro ⟨m, h1, h2⟩
  rw [rel_star] at h1
  rw [rel_opt] at h2
  obtain ⟨n, h1⟩ := h1
  obtain ⟨e1, e2⟩ := (star_leaf hA bs n i m).1 h1
  refine ⟨m, ⟨by omega, e2⟩, ?_⟩
  rcases h2 with h2 | h2
  ·exact .inl h2.symm
  ·exact .inr ((leaf_rel hB bs m j).1 h2)
 ·rintro ⟨m, ⟨h1, h2⟩, h3⟩
  refine ⟨m, ?_, ?_⟩
  ·rw [rel_star]
   exact ⟨m - i, (star_leaf hA bs _ i m).2 ⟨by omega, h2⟩⟩
  ·rw [rel_opt]
   rcases h3 with h3 | h3
   ·exact .inl h3.symm
   ·exact .inr ((leaf_rel hB bs m j).2 h3)
def exA : Nd := exT (maskOf (among [97] 1)) (maskOf (among [98] 1))
theorem exA_right : rightT exA = true := by decide +kernel
theorem exA_rel (bs : List Nat) (i j : Nat) : exA.rel bs i j ↔ ∃ m, (i ≤ m ∧ ∀ k, i ≤ k → k < m → bs[k]? = some 97) ∧ (j = m ∨ (bs[m]? = some 98 ∧ j = m + 1)) := ex_rel (mask_is 97 mask97) (mask_is 98 mask98) bs i j
theorem exA_err (bs : List Nat) (i : Nat) (h : bs.length ≤ 256) (hi : i ≤ bs.length) : errF exA bs (i : Int) = 0 := by
 unfold errF
 rw [if_neg (by rw [exA_right]; decide), if_neg (by omega), if_neg (by omega)]
theorem exA_find (bs : List Nat) (i : Nat) (h : bs.length ≤ 256) (hi : i ≤ bs.length) (q : Nat → Bool) (hq : ∀ j, exA.rel bs i j ↔ q j = true) : findB exA bs (i : Int) = q := by
 rw [findB_yes (exA_err bs i h hi)]
 exact setB_ext fun c => by rw [endsB_iff]; exact hq c
theorem ex1 : findB exA [97, 97, 98] 0 = fun c => decide (c ≤ 3) := exA_find [97, 97, 98] 0 (by decide) (by decide) _ fun j => by
 rw [exA_rel]
 constructor
 ·rintro ⟨m, ⟨_, h1⟩, h2⟩
  have hm : m ≤ 2 := by
   rcases Nat.lt_or_ge 2 m with h | h
   ·have := h1 2 (by omega) h
    simp at this
   ·exact h
  simp
  omega
 ·intro h
  have h : j ≤ 3 := by simpa using h
  by_cases h3 : j = 3
  ·exact ⟨2, ⟨by omega, fun k _ h4 => by
    obtain rfl | rfl : k = 0 ∨ k = 1 := by omega
    ·rfl
    ·rfl⟩, .inr ⟨rfl, h3⟩⟩
  ·exact ⟨j, ⟨by omega, fun k _ h4 => by
    obtain rfl | rfl : k = 0 ∨ k = 1 := by omega
    ·rfl
    ·rfl⟩, .inl rfl⟩
theorem ex2 : findB exA [97, 98] 0 = fun c => decide (c ≤ 2) := exA_find [97, 98] 0 (by decide) (by decide) _ fun j => by
 rw [exA_rel]
 constructor
 ·rintro ⟨m, ⟨_, h1⟩, h2⟩
  have hm : m ≤ 1 := by
   rcases Nat.lt_or_ge 1 m with h | h
   ·have := h1 1 (by omega) h
    simp at this
   ·exact h
  simp
  omega
 ·intro h
  have h : j ≤ 2 := by simpa using h
  by_cases h3 : j = 2
  ·exact ⟨1, ⟨by omega, fun k _ h4 => by
    obtain rfl : k = 0 := by omega
    rfl⟩, .inr ⟨rfl, h3⟩⟩
  ·exact ⟨j, ⟨by omega, fun k _ h4 => by
    obtain rfl : k = 0 := by omega
    rfl⟩, .inl rfl⟩
theorem ex3 : findB exA [98, 97] 0 = fun c => decide (c ≤ 1) := exA_find [98, 97] 0 (by decide) (by decide) _ fun j => by
 rw [exA_rel]
 constructor
 ·rintro ⟨m, ⟨_, h1⟩, h2⟩
  have hm : m ≤ 0 := by
   rcases Nat.lt_or_ge 0 m with h | h
   ·have := h1 0 (by omega) h
    simp at this
   ·exact h
  simp
  omega
 ·intro h
  have h : j ≤ 1 := by simpa using h
  by_cases h3 : j = 1
  ·exact ⟨0, ⟨by omega, fun k _ h4 => by omega⟩, .inr ⟨rfl, h3⟩⟩
  ·exact ⟨j, ⟨by omega, fun k _ h4 => by omega⟩, .inl rfl⟩
theorem ex4 : findB exA [99, 97, 98] 1 = fun c => decide (1 ≤ c ∧ c ≤ 3) := exA_find [99, 97, 98] 1 (by decide) (by decide) _ fun j => by
 rw [exA_rel]
 constructor
 ·rintro ⟨m, ⟨_, h1⟩, h2⟩
  have hm : m ≤ 2 := by
   rcases Nat.lt_or_ge 2 m with h | h
   ·have := h1 2 (by omega) h
    simp at this
   ·exact h
  simp
  omega
 ·intro h
  have h : 1 ≤ j ∧ j ≤ 3 := by simpa using h
  by_cases h3 : j = 3
  ·exact ⟨2, ⟨by omega, fun k _ h4 => by
    obtain rfl : k = 1 := by omega
    rfl⟩, .inr ⟨rfl, h3⟩⟩
  ·exact ⟨j, ⟨by omega, fun k _ h4 => by
    obtain rfl : k = 1 := by omega
    rfl⟩, .inl rfl⟩
theorem says1 : placesL (findB exA [97, 97, 98] 0) = [0, 1, 2, 3] := by rw [ex1]; decide +kernel
theorem says2 : fullB exA [97, 98] = true := by unfold fullB; rw [ex2]; rfl
theorem says3 : fullB exA [98, 97] = false := by unfold fullB; rw [ex3]; rfl
theorem says4 : lastI (elems (findB exA [99, 97, 98] 1) 320) = 3 := by rw [ex4]; decide +kernel
end Go.Proofs.YtofbfafnpdaejaaGreatDoor
