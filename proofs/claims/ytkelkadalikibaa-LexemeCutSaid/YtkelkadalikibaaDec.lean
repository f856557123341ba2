/-
  Numbers in decimal digits: what stands at a place of some bytes. No program in sight.
-/
import Derived.Test.YtkelkadalikibaaSpecA
namespace Go.Proofs.Ytkelkadalikibaa
set_option linter.unusedSimpArgs false
set_option linter.unusedVariables false

def isDig (c : Nat) : Bool := decide (48 ≤ c) && decide (c ≤ 57)
/-- The digits that stand from i on. -/
def digs (bs : List Nat) (i : Nat) : List Nat := (bs.drop i).takeWhile isDig
/-- The number of some digits. -/
def decVal (ds : List Nat) : Nat := ds.foldl (fun v c => v * 10 + (c - 48)) 0
/-- No number, or one with a nought ahead. -/
def badForm (ds : List Nat) : Bool := decide (ds.length = 0) || (byteAt ds 0 == 48) && decide (1 < ds.length)
/-- The number at i, 1000 at most, and the place behind. -/
def takeS (bs : List Nat) (i : Nat) : Option (Nat × Nat) := if badForm (digs bs i) = true ∨ 1000 < decVal (digs bs i) then none else some (decVal (digs bs i), i + (digs bs i).length)
/-- What is wrong where there is none. -/
def takeErr (bs : List Nat) (i : Nat) : Int := if badForm (digs bs i) = true then 3 else 2
theorem takeErr_pos (bs : List Nat) (i : Nat) : takeErr bs i = 2 ∨ takeErr bs i = 3 := by unfold takeErr; split <;> simp

theorem takeWhile_more {p : Nat → Bool} : ∀ (l : List Nat) (k : Nat), k ≤ (l.takeWhile p).length → ∀ h : k < l.length, p l[k] = true → k + 1 ≤ (l.takeWhile p).length
  | [], k, _, h, _ => by simp at h
  | x :: l, 0, _, h, hp => by
    simp at hp
    rw [List.takeWhile_cons, hp]; simp
  | x :: l, k + 1, hk, h, hp => by
    rw [List.takeWhile_cons] at hk ⊢
    cases hx : p x
    · rw [hx] at hk; simp at hk
    · rw [hx] at hk
      simp at hk ⊢
      exact takeWhile_more l k hk (by simpa using h) (by simpa using hp)
theorem takeWhile_stop {p : Nat → Bool} : ∀ (l : List Nat) (k : Nat), k ≤ (l.takeWhile p).length → ∀ h : k < l.length, p l[k] = false → (l.takeWhile p).length = k
  | [], k, _, h, _ => by simp at h
  | x :: l, 0, _, h, hp => by
    simp at hp
    rw [List.takeWhile_cons, hp]; simp
  | x :: l, k + 1, hk, h, hp => by
    rw [List.takeWhile_cons] at hk ⊢
    cases hx : p x
    · rw [hx] at hk; simp at hk
    · rw [hx] at hk
      simp at hk ⊢
      exact takeWhile_stop l k hk (by simpa using h) (by simpa using hp)
theorem takeWhile_all {p : Nat → Bool} : ∀ (l : List Nat), ∀ c ∈ l.takeWhile p, p c = true
  | [], c, h => by simp at h
  | x :: l, c, h => by
    rw [List.takeWhile_cons] at h
    cases hx : p x
    · rw [hx] at h; simp at h
    · rw [hx] at h
      simp at h
      rcases h with rfl | h
      · exact hx
      · exact takeWhile_all l c h
theorem takeWhile_self {p : Nat → Bool} : ∀ (l : List Nat), (∀ c ∈ l, p c = true) → l.takeWhile p = l
  | [], _ => rfl
  | x :: l, h => by
    rw [List.takeWhile_cons, h x (by simp)]
    simp
    exact takeWhile_self l (fun c hc => h c (by simp [hc]))
theorem takeWhile_len {p : Nat → Bool} (l : List Nat) : (l.takeWhile p).length ≤ l.length := (List.takeWhile_prefix p).length_le
theorem byteAt_drop (bs : List Nat) (i k : Nat) : byteAt (bs.drop i) k = byteAt bs (i + k) := by
  unfold byteAt; rw [List.getD_eq_getElem?_getD, List.getD_eq_getElem?_getD, List.getElem?_drop]
theorem byteAt_get {bs : List Nat} {k : Nat} (h : k < bs.length) : bs[k] = byteAt bs k := by
  unfold byteAt; rw [List.getD_eq_getElem?_getD, List.getElem?_eq_getElem h]; rfl
theorem digs_more {bs : List Nat} {i k : Nat} (hk : k ≤ (digs bs i).length) (h : i + k < bs.length) (hd : isDig (byteAt bs (i + k)) = true) : k + 1 ≤ (digs bs i).length := by
  have hl : k < (bs.drop i).length := by simp; omega
  exact takeWhile_more _ k hk hl (by rw [byteAt_get hl, byteAt_drop]; exact hd)
theorem digs_stop {bs : List Nat} {i k : Nat} (hk : k ≤ (digs bs i).length) (h : i + k < bs.length) (hd : isDig (byteAt bs (i + k)) = false) : (digs bs i).length = k := by
  have hl : k < (bs.drop i).length := by simp; omega
  exact takeWhile_stop _ k hk hl (by rw [byteAt_get hl, byteAt_drop]; exact hd)
theorem digs_len (bs : List Nat) (i : Nat) : (digs bs i).length ≤ bs.length - i := by
  have := takeWhile_len (p := isDig) (bs.drop i)
  simpa [digs] using this
theorem digs_end {bs : List Nat} {i k : Nat} (hk : k ≤ (digs bs i).length) (h : bs.length ≤ i + k) : (digs bs i).length = k := by
  have := digs_len bs i
  omega
theorem digs_dig (bs : List Nat) (i : Nat) : ∀ c ∈ digs bs i, isDig c = true := fun c hc => by
  exact takeWhile_all _ c hc
theorem digs_take (bs : List Nat) (i : Nat) : digs bs i = (bs.drop i).take (digs bs i).length := List.prefix_iff_eq_take.1 (List.takeWhile_prefix _)
theorem isDig_iff (c : Nat) : isDig c = true ↔ 48 ≤ c ∧ c ≤ 57 := by simp [isDig]
theorem digs_own {ds : List Nat} (h : ∀ c ∈ ds, isDig c = true) : digs ds 0 = ds := by
  unfold digs
  rw [List.drop_zero]
  exact takeWhile_self _ h

theorem decVal_snoc (ds : List Nat) (c : Nat) : decVal (ds ++ [c]) = decVal ds * 10 + (c - 48) := by simp [decVal]
theorem decVal_take {ds : List Nat} {k : Nat} (h : k < ds.length) : decVal (ds.take (k + 1)) = decVal (ds.take k) * 10 + (byteAt ds k - 48) := by
  have e : ds[k]? = some (byteAt ds k) := by rw [List.getElem?_eq_getElem h, byteAt_get h]
  rw [List.take_add_one, e]
  exact decVal_snoc _ _
theorem decVal_mono (ds : List Nat) : ∀ k m, k ≤ m → m ≤ ds.length → decVal (ds.take k) ≤ decVal (ds.take m)
  | k, 0, h, _ => by rw [show k = 0 by omega]; exact Nat.le_refl _
  | k, m + 1, h, hm => by
    by_cases e : k = m + 1
    · rw [e]; exact Nat.le_refl _
    · have h1 := decVal_mono ds k m (by omega) (by omega)
      rw [decVal_take (by omega)]
      omega
theorem decVal_le (ds : List Nat) (k : Nat) (hk : k ≤ ds.length) : decVal (ds.take k) ≤ decVal ds := by
  have h := decVal_mono ds k ds.length hk (Nat.le_refl _)
  rwa [List.take_length] at h
theorem decVal_lt {ds : List Nat} (hd : ∀ c ∈ ds, isDig c = true) : ∀ k, k ≤ ds.length → decVal (ds.take k) < 10 ^ k
  | 0, _ => by simp [decVal]
  | k + 1, hk => by
    have h1 := decVal_lt hd k (by omega)
    have hc := (isDig_iff (byteAt ds k)).1 (hd _ (by rw [← byteAt_get (by omega)]; exact List.getElem_mem _))
    rw [decVal_take (by omega), Nat.pow_succ]
    omega
theorem decVal_ge {ds : List Nat} (h0 : 49 ≤ byteAt ds 0) : ∀ k, k + 1 ≤ ds.length → 10 ^ k ≤ decVal (ds.take (k + 1))
  | 0, hk => by
    rw [decVal_take (by omega)]
    simp [decVal]
    omega
  | k + 1, hk => by
    have h1 := decVal_ge h0 k (by omega)
    rw [decVal_take (by omega), Nat.pow_succ]
    omega
/-- A number of more than 19 digits, the first of which is no nought, is above 1000. -/
theorem decVal_long {ds : List Nat} (hd : ∀ c ∈ ds, isDig c = true) (hf : badForm ds = false) (hl : 19 < ds.length) : 1000 < decVal ds := by
  have hb : byteAt ds 0 ≠ 48 := by
    intro h
    unfold badForm at hf
    rw [h] at hf
    simp at hf
    omega
  have hc := (isDig_iff (byteAt ds 0)).1 (hd _ (by rw [← byteAt_get (by omega)]; exact List.getElem_mem _))
  have h1 := decVal_ge (by omega) 19 (by omega : 19 + 1 ≤ ds.length)
  have h2 := decVal_le ds (19 + 1) (by omega)
  have : (1000 : Nat) < 10 ^ 19 := by decide
  omega
theorem badForm_false {ds : List Nat} (h : badForm ds = false) : 0 < ds.length ∧ (1 < ds.length → byteAt ds 0 ≠ 48) := by
  unfold badForm at h
  simp at h
  refine ⟨?_, fun h1 h2 => ?_⟩
  · rcases Nat.eq_zero_or_pos ds.length with e | e
    · have := List.length_eq_zero_iff.1 e; simp_all
    · exact e
  · have := h.2 h2; omega
theorem badForm_true {ds : List Nat} (h : badForm ds = true) : ds.length = 0 ∨ (byteAt ds 0 = 48 ∧ 1 < ds.length) := by
  unfold badForm at h
  simp only [Bool.or_eq_true, Bool.and_eq_true, decide_eq_true_eq, beq_iff_eq] at h
  exact h

theorem takeS_bad {bs : List Nat} {i : Nat} (h : badForm (digs bs i) = true) : takeS bs i = none ∧ takeErr bs i = 3 := ⟨if_pos (.inl h), if_pos h⟩
theorem takeS_big {bs : List Nat} {i : Nat} (h : badForm (digs bs i) = false) (h2 : 1000 < decVal (digs bs i)) : takeS bs i = none ∧ takeErr bs i = 2 := ⟨if_pos (.inr h2), if_neg (by rw [h]; decide)⟩
theorem takeS_ok {bs : List Nat} {i : Nat} (h : badForm (digs bs i) = false) (h2 : decVal (digs bs i) ≤ 1000) : takeS bs i = some (decVal (digs bs i), i + (digs bs i).length) := if_neg (by rw [h]; simp; omega)
theorem takeS_some {bs : List Nat} {i v j : Nat} (h : takeS bs i = some (v, j)) : v ≤ 1000 ∧ i < j ∧ j ≤ bs.length := by
  unfold takeS at h
  split at h
  · cases h
  · rename_i hc
    rw [not_or] at hc
    obtain ⟨h1, h2⟩ := hc
    have h3 := badForm_false (by simpa using h1)
    have h4 := digs_len bs i
    simp at h
    omega

end Go.Proofs.Ytkelkadalikibaa
