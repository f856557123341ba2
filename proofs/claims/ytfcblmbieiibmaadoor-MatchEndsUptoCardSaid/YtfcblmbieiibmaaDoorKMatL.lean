/- Texts of the claim. -/
import Derived.Test.YtfcblmbieiibmaaDoorKZ03
import Derived.Test.YtfcblmbieiibmaaDoorKZ04
namespace Go.Proofs.YtfcblmbieiibmaaDoor
set_option linter.unusedSimpArgs false
set_option linter.unusedVariables false
set_option maxRecDepth 100000
set_option maxHeartbeats 8000000
def PlacesL (n : Nat) (l : List Int) : Prop := Rises l ∧ ∀ t ∈ l, 0 ≤ t ∧ t ≤ (n : Int)
def EndsL (R : RelW) (l out : List Int) : Prop := Rises out ∧ ∀ t : Int, t ∈ out ↔ ∃ i j : Nat, (i : Int) ∈ l ∧ R i j ∧ t = (j : Int)
theorem ends_one {R : RelW} {l a b : List Int} (h : EndsL R l a) (h2 : EndsL R l b) : a = b := rises_ext h.1 h2.1 fun t => (h.2 t).trans (h2.2 t).symm
theorem EndsL.congr {R S : RelW} {l a : List Int} (h : EndsL R l a) (e : ∀ i j : Nat, (i : Int) ∈ l → (R i j ↔ S i j)) : EndsL S l a := ⟨h.1, fun t => (h.2 t).trans ⟨fun ⟨i, j, h1, h2, h3⟩ => ⟨i, j, h1, (e i j h1).1 h2, h3⟩, fun ⟨i, j, h1, h2, h3⟩ => ⟨i, j, h1, (e i j h1).2 h2, h3⟩⟩⟩
theorem ends_id {n : Nat} {l : List Int} (h : PlacesL n l) : EndsL idR l l := ⟨h.1, fun t => ⟨fun ht => by
 obtain ⟨i, rfl⟩ := Int.eq_ofNat_of_zero_le (h.2 t ht).1
 exact ⟨i, i, ht, rfl, rfl⟩, fun ⟨i, j, h1, h2, h3⟩ => by
 have h2 : i = j := h2
 rw [h3, ← h2]
 exact h1⟩⟩
theorem ends_none (R : RelW) (h : ∀ i j, ¬ R i j) (l : List Int) : EndsL R l [] := ⟨List.Pairwise.nil, fun t => ⟨fun ht => by simp at ht, fun ⟨i, j, _, h2, _⟩ => absurd h2 (h i j)⟩⟩
theorem EndsL.comp {R S : RelW} {l m o : List Int} (h : EndsL R l m) (g : EndsL S m o) : EndsL (fun i j => ∃ k, R i k ∧ S k j) l o := ⟨g.1, fun t => (g.2 t).trans ⟨fun ⟨k, j, h1, h2, h3⟩ => by
 obtain ⟨i, k', h4, h5, h6⟩ := (h.2 k).1 h1
 obtain rfl : k = k' := by omega
 exact ⟨i, j, h4, ⟨k, h5, h2⟩, h3⟩, fun ⟨i, j, h4, ⟨k, h5, h2⟩, h3⟩ => ⟨k, j, (h.2 k).2 ⟨i, k, h4, h5, rfl⟩, h2, h3⟩⟩⟩
def IsJoin (a b : List Int) (n : Nat) (o : List Int) : Prop := Rises o ∧ ∀ t : Int, t ∈ o ↔ (t ∈ a ∨ t ∈ b) ∧ 0 ≤ t ∧ t ≤ (n : Int)
theorem EndsL.within {R : RelW} {n : Nat} {l o : List Int} (h : EndsL R l o) (hl : PlacesL n l) (hR : ∀ i j, i ≤ n → R i j → j ≤ n) : PlacesL n o := ⟨h.1, fun t ht => by
 obtain ⟨i, j, h1, h2, rfl⟩ := (h.2 t).1 ht
 have h3 := (hl.2 _ h1).2
 have := hR i j (by omega) h2
 omega⟩
theorem EndsL.or {R S : RelW} {n : Nat} {l a b o : List Int} (h : EndsL R l a) (g : EndsL S l b) (ha : PlacesL n a) (hb : PlacesL n b) (ho : IsJoin a b n o) : EndsL (fun i j => R i j ∨ S i j) l o := ⟨ho.1, fun t => (ho.2 t).trans ⟨fun ⟨h1, _⟩ => by
 rcases h1 with h1 | h1
 ·obtain ⟨i, j, h2, h3, h4⟩ := (h.2 t).1 h1
  exact ⟨i, j, h2, .inl h3, h4⟩
 ·obtain ⟨i, j, h2, h3, h4⟩ := (g.2 t).1 h1
  exact ⟨i, j, h2, .inr h3, h4⟩, fun ⟨i, j, h2, h3, h4⟩ => by
 rcases h3 with h3 | h3
 ·have h5 := (h.2 t).2 ⟨i, j, h2, h3, h4⟩
  exact ⟨.inl h5, ha.2 t h5⟩
 ·have h5 := (g.2 t).2 ⟨i, j, h2, h3, h4⟩
  exact ⟨.inr h5, hb.2 t h5⟩⟩⟩
theorem EndsL.next {R : RelW} {k : Nat} {l m o : List Int} (h : EndsL (itR R k) l m) (g : EndsL R m o) : EndsL (itR R (k + 1)) l o := (h.comp g).congr fun i j _ => by
 rw [itR_add]
 exact ⟨fun ⟨m, h1, h2⟩ => ⟨m, h1, itR_one.2 h2⟩, fun ⟨m, h1, h2⟩ => ⟨m, h1, itR_one.1 h2⟩⟩
def belowR (R : RelW) (lo k : Nat) : RelW := fun i j => ∃ m, lo ≤ m ∧ m < k ∧ itR R m i j
theorem below_none (R : RelW) {lo k : Nat} (h : k ≤ lo) (i j : Nat) : ¬ belowR R lo k i j := fun ⟨m, h1, h2, _⟩ => by omega
theorem below_more {R : RelW} {lo k : Nat} (h : lo ≤ k) (i j : Nat) : (belowR R lo k i j ∨ itR R k i j) ↔ belowR R lo (k + 1) i j :=
 ⟨fun h1 => h1.elim (fun ⟨m, h2, h3, h4⟩ => ⟨m, h2, by omega, h4⟩) (fun h2 => ⟨k, h, by omega, h2⟩), fun ⟨m, h2, h3, h4⟩ => by
  rcases Nat.lt_or_ge m k with h5 | h5
  ·exact .inl ⟨m, h2, h5, h4⟩
  ·obtain rfl : m = k := by omega
   exact .inr h4⟩
theorem below_all {R : RelW} (hR : ∀ i j, R i j → i ≤ j) {n lo k : Nat} (hn : ∀ i j, i ≤ n → R i j → j ≤ n) (hk : lo + n < k) (hi : Int) (hh : hi < 0 ∨ (k : Int) ≤ hi + 1) {i j : Nat} (hin : i ≤ n) : belowR R lo k i j ↔ repR (lo : Int) hi R i j := by
 constructor
 ·rintro ⟨m, h1, h2, h3⟩
  exact ⟨m, by omega, by omega, h3⟩
 ·rintro ⟨m, h1, h2, h3⟩
  have hit : ∀ {k i j : Nat}, i ≤ n → itR R k i j → j ≤ n := by
   intro k
   induction k with
   | zero => exact fun h1 h2 => by have h2 : _ = _ := h2; omega
   | succ k ih =>
    rintro i j h1 ⟨m, h2, h3⟩
    exact ih (hn i m h1 h2) h3
  obtain ⟨m', h4, h5, h6, h7⟩ := it_some hR h3 (n := n) (lo := lo) (by have := hit hin h3; omega) (by omega)
  exact ⟨m', h4, by omega, h7⟩
theorem below_hi {R : RelW} {lo : Nat} {hi : Nat} (i j : Nat) : belowR R lo (hi + 1) i j ↔ repR (lo : Int) (hi : Int) R i j :=
 ⟨fun ⟨m, h1, h2, h3⟩ => ⟨m, by omega, by omega, h3⟩, fun ⟨m, h1, h2, h3⟩ => ⟨m, by omega, by omega, h3⟩⟩
theorem below_stop {R : RelW} {lo k : Nat} {l : List Int} (h : EndsL (itR R (k + 1)) l []) (hi : Int) (hh : hi < 0 ∨ (k : Int) ≤ hi) {i j : Nat} (hi' : (i : Int) ∈ l) : belowR R lo (k + 1) i j ↔ repR (lo : Int) hi R i j := by
 constructor
 ·rintro ⟨m, h1, h2, h3⟩
  exact ⟨m, by omega, by omega, h3⟩
 ·rintro ⟨m, h1, h2, h3⟩
  rcases Nat.lt_or_ge m (k + 1) with h4 | h4
  ·exact ⟨m, by omega, h4, h3⟩
  ·obtain ⟨d, rfl⟩ : ∃ d, m = k + 1 + d := ⟨m - (k + 1), by omega⟩
   obtain ⟨x, h5, _⟩ := itR_add.1 h3
   have := (h.2 x).2 ⟨i, x, hi', h5, rfl⟩
   simp at this
end Go.Proofs.YtfcblmbieiibmaaDoor
