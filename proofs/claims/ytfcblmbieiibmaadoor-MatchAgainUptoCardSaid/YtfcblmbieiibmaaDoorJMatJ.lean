/- Texts of the claim. -/
import Derived.Test.YtfcblmbieiibmaaDoorJZ03
namespace Go.Proofs.YtfcblmbieiibmaaDoor
set_option linter.unusedSimpArgs false
set_option linter.unusedVariables false
set_option maxRecDepth 100000
set_option maxHeartbeats 8000000
def catM (a b : Nd) : Nd := ⟨4, 0, Trees.of [a, b], 0, 0⟩
def altM (a b : Nd) : Nd := ⟨5, 0, Trees.of [a, b], 0, 0⟩
def starM (x : Nd) : Nd := ⟨6, 0, Trees.of [x], 0, 0⟩
def plusM (x : Nd) : Nd := ⟨7, 0, Trees.of [x], 0, 0⟩
def optM (x : Nd) : Nd := ⟨8, 0, Trees.of [x], 0, 0⟩
def repM (x : Nd) (lo hi : Int) : Nd := ⟨9, 0, Trees.of [x], lo, hi⟩
theorem rels_one (w : List Nat) (x : Nd) : (Trees.of [x]).rels w = [x.rel w] := by rw [Trees.rels_list, Trees.list_of]; rfl
theorem rels_two (w : List Nat) (a b : Nd) : (Trees.of [a, b]).rels w = [a.rel w, b.rel w] := by rw [Trees.rels_list, Trees.list_of]; rfl
theorem rel_cat (w : List Nat) (a b : Nd) (i j : Nat) : (catM a b).rel w i j ↔ ∃ m, a.rel w i m ∧ b.rel w m j := by
 have h : (catM a b).rel w = catR [a.rel w, b.rel w] := by
  unfold Nd.rel catM
  rw [rels_two]
  rfl
 rw [h]
 exact ⟨fun ⟨m, h1, m2, h2, h3⟩ => ⟨m, h1, by have h3 : m2 = j := h3; rw [← h3]; exact h2⟩, fun ⟨m, h1, h2⟩ => ⟨m, h1, j, h2, rfl⟩⟩
theorem rel_alt (w : List Nat) (a b : Nd) (i j : Nat) : (altM a b).rel w i j ↔ a.rel w i j ∨ b.rel w i j := by
 have h : (altM a b).rel w = altR [a.rel w, b.rel w] := by
  unfold Nd.rel altM
  rw [rels_two]
  rfl
 rw [h]
 simp [altR]
theorem rel_star (w : List Nat) (x : Nd) : (starM x).rel w = starR (x.rel w) := by
 unfold Nd.rel starM
 rw [rels_one]
 rfl
theorem rel_plus (w : List Nat) (x : Nd) : (plusM x).rel w = plusR (x.rel w) := by
 unfold Nd.rel plusM
 rw [rels_one]
 rfl
theorem rel_opt (w : List Nat) (x : Nd) : (optM x).rel w = optR (x.rel w) := by
 unfold Nd.rel optM
 rw [rels_one]
 rfl
theorem rel_rep (w : List Nat) (x : Nd) (lo hi : Int) : (repM x lo hi).rel w = repR lo hi (x.rel w) := by
 unfold Nd.rel repM
 rw [rels_one]
 rfl
theorem says_cat (a b : Nd) (w : List Nat) : SaysW (catM a b) w ↔ ∃ m, m ≤ w.length ∧ SaysW a (w.take m) ∧ SaysW b (w.drop m) := by
 unfold SaysW
 rw [rel_cat]
 constructor
 ·rintro ⟨m, h1, h2⟩
  have hm := rel_len a w (Nat.zero_le _) h1
  exact ⟨m, hm, (says_take a w hm).2 h1, (says_drop b w hm).2 h2⟩
 ·rintro ⟨m, hm, h1, h2⟩
  exact ⟨m, (says_take a w hm).1 h1, (says_drop b w hm).1 h2⟩
theorem says_alt (a b : Nd) (w : List Nat) : SaysW (altM a b) w ↔ SaysW a w ∨ SaysW b w := rel_alt w a b 0 w.length
theorem says_star (x : Nd) (w : List Nat) : SaysW (starM x) w ↔ w.length = 0 ∨ ∃ m, 1 ≤ m ∧ m ≤ w.length ∧ SaysW x (w.take m) ∧ SaysW (starM x) (w.drop m) := by
 have key := star_cut (R := x.rel w) (fun i j => rel_up x w) (Nat.zero_le w.length)
 unfold SaysW
 rw [rel_star, key]
 constructor
 ·rintro (h | ⟨m, h0, h1, h2⟩)
  ·exact .inl h.symm
  ·have hm := rel_len x w (Nat.zero_le _) h1
   refine .inr ⟨m, h0, hm, (says_take x w hm).2 h1, (says_drop (starM x) w hm).2 ?_⟩
   rw [rel_star]
   exact h2
 ·rintro (h | ⟨m, h0, hm, h1, h2⟩)
  ·exact .inl h.symm
  ·refine .inr ⟨m, h0, (says_take x w hm).1 h1, ?_⟩
   have := (says_drop (starM x) w hm).1 h2
   rw [rel_star] at this
   exact this
theorem says_plus (x : Nd) (w : List Nat) : SaysW (plusM x) w ↔ SaysW (starM x) w ∧ (0 < w.length ∨ SaysW x w) := by
 unfold SaysW
 rw [rel_plus, rel_star]
 constructor
 ·rintro ⟨m, h1, h2⟩
  refine ⟨star_one h1 h2, ?_⟩
  rcases Nat.eq_zero_or_pos w.length with h | h
  ·have hm := rel_len x w (Nat.zero_le _) h1
   obtain rfl : m = w.length := by omega
   exact .inr h1
  ·exact .inl h
 ·rintro ⟨h1, h2⟩
  rcases Nat.eq_zero_or_pos w.length with h | h
  ·rcases h2 with h2 | h2
   ·omega
   ·exact ⟨_, h2, 0, rfl⟩
  ·rcases (star_cut (R := x.rel w) (fun i j => rel_up x w) (Nat.zero_le w.length)).1 h1 with h3 | ⟨m, _, h3, h4⟩
   ·omega
   ·exact ⟨m, h3, h4⟩
theorem says_opt (x : Nd) (w : List Nat) : SaysW (optM x) w ↔ w.length = 0 ∨ SaysW x w := by
 unfold SaysW
 rw [rel_opt]
 exact or_congr ⟨fun h => h.symm, fun h => h.symm⟩ Iff.rfl
theorem says_rep (x : Nd) (w : List Nat) (k : Nat) : SaysW (repM x (k : Int) (k : Int)) w ↔ itR (x.rel w) k 0 w.length := by
 unfold SaysW
 rw [rel_rep]
 constructor
 ·rintro ⟨k', h1, h2, h3⟩
  obtain rfl : k' = k := by omega
  exact h3
 ·exact fun h => ⟨k, Int.le_refl _, .inr (Int.le_refl _), h⟩
theorem it_drop {x : Nd} {w : List Nat} {m : Nat} : ∀ {k i j : Nat}, itR (x.rel (w.drop m)) k i j ↔ itR (x.rel w) k (m + i) (m + j)
 | 0, i, j => ⟨fun h => by have h : i = j := h; rw [h]; rfl, fun h => by have h : m + i = m + j := h; show i = j; omega⟩
 | k + 1, i, j => by
  constructor
  ·rintro ⟨n, h1, h2⟩
   exact ⟨m + n, (rel_drop x w).1 h1, it_drop.1 h2⟩
  ·rintro ⟨n, h1, h2⟩
   have := rel_up x w h1
   obtain ⟨n', rfl⟩ : ∃ n', n = m + n' := ⟨n - m, by omega⟩
   exact ⟨n', (rel_drop x w).2 h1, it_drop.2 h2⟩
theorem says_rep_more (x : Nd) (w : List Nat) (k : Nat) : SaysW (repM x ((k + 1 : Nat) : Int) ((k + 1 : Nat) : Int)) w ↔ ∃ m, m ≤ w.length ∧ SaysW x (w.take m) ∧ SaysW (repM x (k : Int) (k : Int)) (w.drop m) := by
 rw [says_rep]
 constructor
 ·rintro ⟨m, h1, h2⟩
  have hm := rel_len x w (Nat.zero_le _) h1
  refine ⟨m, hm, (says_take x w hm).2 h1, (says_rep x _ k).2 (it_drop.2 ?_)⟩
  rw [List.length_drop, Nat.add_zero, Nat.add_sub_cancel' hm]
  exact h2
 ·rintro ⟨m, hm, h1, h2⟩
  have h3 := it_drop.1 ((says_rep x _ k).1 h2)
  rw [List.length_drop, Nat.add_zero, Nat.add_sub_cancel' hm] at h3
  exact ⟨m, (says_take x w hm).1 h1, h3⟩
theorem says_rep_none (x : Nd) (w : List Nat) : SaysW (repM x 0 0) w ↔ w.length = 0 := by
 have := says_rep x w 0
 rw [show ((0 : Nat) : Int) = 0 from rfl] at this
 rw [this]
 exact ⟨fun h => (show 0 = w.length from h).symm, fun h => h.symm⟩
end Go.Proofs.YtfcblmbieiibmaaDoor
