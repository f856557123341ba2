/-
  How many nodes a tree has that is read of lexemes. No program in sight.
-/
import Derived.Test.YtgbpcigfbpghgaaQZ02
namespace Go.Proofs.Ytgbpcigfbpghgaa
set_option linter.unusedSimpArgs false
set_option linter.unusedVariables false
set_option maxRecDepth 100000

theorem of_size_cons (x : Nd) (l : List Nd) : (Trees.of (x :: l)).size = x.size + (Trees.of l).size := by simp [Trees.of, Trees.size, Nd.size]
theorem of_size_snoc (l : List Nd) (x : Nd) : (Trees.of (l ++ [x])).size = (Trees.of l).size + x.size := by
  induction l with
  | nil => simp [Trees.of, Trees.size, Nd.size]
  | cons y l ih => rw [List.cons_append, of_size_cons, of_size_cons, ih]; omega
theorem one_size (k : Int) (s : Nat) (x : Nd) (lo hi : Int) : (⟨k, s, Trees.of [x], lo, hi⟩ : Nd).size = 1 + x.size := by
  show 1 + (Trees.of [x]).size = _
  rw [of_size_cons]
  simp [Trees.of, Trees.size]
theorem postN_size (y : Lex) (x : Nd) : (postN y x).size = 1 + x.size := by
  unfold postN
  split <;> exact one_size _ _ _ _ _
theorem postsG_size : ∀ (L : List Lex) (x : Nd), (postsG x L).1.size + 2 * (postsG x L).2.length ≤ x.size + 2 * L.length
  | [], x => Nat.le_refl _
  | y :: L, x => by
    unfold postsG
    split
    · have := postsG_size L (postN y x)
      rw [postN_size] at this
      simp only [List.length_cons]
      omega
    · exact Nat.le_refl _
theorem flatN_size (k : Int) (l : List Nd) (h : l ≠ []) : (flatN k l).size + l.length ≤ (Trees.of l).size + 1 + (if l.length = 1 then 0 else l.length) := by
  match l, h with
  | [], h => exact absurd rfl h
  | [x], _ =>
    have := of_size_cons x []
    simp [flatN, Trees.of, Trees.size] at this ⊢
    omega
  | x :: y :: l, _ =>
    simp [flatN, Nd.size]
    omega
def AltZ (n : Nat) : Prop := ∀ op acc L x R, altG n op acc L = .ok (x, R) → ∃ acc', x = flatN 5 acc' ∧ acc' ≠ [] ∧ (Trees.of acc').size + acc'.length + 2 * R.length ≤ (Trees.of acc).size + acc.length + 2 * L.length + 2
def PiecesZ (n : Nat) : Prop := ∀ op acc L ps R, piecesG n op acc L = .ok (ps, R) → (Trees.of ps).size + ps.length + 2 * R.length ≤ (Trees.of acc).size + acc.length + 2 * L.length
def AtomZ (n : Nat) : Prop := ∀ op L x R, atomG n op L = .ok (some x, R) → x.size + 1 + 2 * R.length ≤ 2 * L.length
theorem flat_le {k : Int} {l : List Nd} {m : Nat} (h : l ≠ []) (hs : (Trees.of l).size + l.length ≤ m + 2) : (flatN k l).size ≤ m + 1 := by
  have h1 := flatN_size k l h
  have h2 := List.length_pos_iff.2 h
  split at h1 <;> omega
theorem readG_size (n : Nat) : AltZ n ∧ PiecesZ n ∧ AtomZ n := by
  induction n with
  | zero => exact ⟨fun _ _ _ _ _ h => (by rw [altG] at h; cases h), fun _ _ _ _ _ h => (by rw [piecesG] at h; cases h), fun _ _ _ _ h => (by rw [atomG] at h; cases h)⟩
  | succ n ih =>
    obtain ⟨ia, ip, it⟩ := ih
    refine ⟨fun op acc L x R h => ?_, fun op acc L ps R h => ?_, fun op L x R h => ?_⟩
    · cases hp : piecesG n op [] L with
      | error e => rw [altG_bad hp] at h; cases h
      | ok r =>
        obtain ⟨ps, R1⟩ := r
        rw [altG_ok hp] at h
        have h1 := ip _ _ _ _ _ hp
        have h2 : (partN ps).size + 2 * R1.length ≤ 2 * L.length + 1 := by
          simp [Trees.of, Trees.size] at h1
          by_cases h0 : ps = []
          · subst h0
            simp [partN, emptyN, Nd.size, Trees.size, Trees.of] at h1 ⊢
            omega
          · have e : partN ps = flatN 4 ps := by cases ps with
              | nil => exact absurd rfl h0
              | cons y l => rfl
            rw [e]
            have h3 := flatN_size 4 ps h0
            have h4 := List.length_pos_iff.2 h0
            split at h3 <;> omega
        have h3 := of_size_snoc acc (partN ps)
        cases R1 with
        | nil =>
          rw [tailG_nil] at h
          cases h
          exact ⟨_, rfl, by simp, by simp at h2 ⊢; omega⟩
        | cons c R' =>
          by_cases h4 : c.kind = 4
          · rw [tailG_bar h4] at h
            obtain ⟨acc', e1, e2, e3⟩ := ia _ _ _ _ _ h
            exact ⟨acc', e1, e2, by simp at e3 h2; omega⟩
          · rw [tailG_stop h4] at h
            cases h
            exact ⟨_, rfl, by simp, by simp at h2 ⊢; omega⟩
    · cases hp : atomG n op L with
      | error e => rw [piecesG_bad hp] at h; cases h
      | ok r =>
        obtain ⟨x, R1⟩ := r
        cases x with
        | none =>
          have hs := ((readG_suf n).2.2 _ _ _ _ hp).1.length_le
          rw [piecesG_end hp] at h
          cases h
          omega
        | some x =>
          rw [piecesG_go hp] at h
          have h1 := ip _ _ _ _ _ h
          have h2 := it _ _ _ _ hp
          have h3 := postsG_size R1 x
          rw [of_size_snoc] at h1
          simp at h1
          omega
    · cases L with
      | nil => rw [atomG_nil] at h; cases h
      | cons y L =>
        by_cases h1 : y.kind = 1
        · rw [atomG_set h1] at h
          cases h
          simp [leafN, Nd.size, Trees.size]
          omega
        by_cases h2 : y.kind = 2
        · rw [atomG, if_neg h1, if_pos h2] at h
          split at h
          · cases h
          split at h
          · cases h
          · rename_i x' R' hx
            obtain ⟨acc', e1, e2, e3⟩ := ia _ _ _ _ _ hx
            split at h
            · cases h
            · rename_i c R''
              split at h
              · cases h
                have := flat_le (k := 5) (m := 2 * L.length - 2 * (R.length + 1)) e2 (by simp [Trees.of, Trees.size] at e3; omega)
                rw [← e1] at this
                simp [Trees.of, Trees.size] at e3 ⊢
                have h4 := List.length_pos_iff.2 e2
                omega
              · cases h
        rw [atomG, if_neg h1, if_neg h2] at h
        split at h
        · cases h
        split at h <;> cases h
theorem alt_size {n : Nat} {op : List Int} {L R : List Lex} {x : Nd} (h : altG n op [] L = .ok (x, R)) : x.size ≤ 2 * L.length + 1 := by
  obtain ⟨acc', e1, e2, e3⟩ := (readG_size n).1 _ _ _ _ _ h
  rw [e1]
  exact flat_le e2 (by simp [Trees.of, Trees.size] at e3; omega)
theorem lexemesS_size {L : List Lex} {x : Nd} (h : lexemesS L = .ok x) : x.size ≤ 2049 := by
  unfold lexemesS at h
  split at h
  · cases h
  split at h
  · cases h
  · split at h
    · cases h
    · rename_i y R hy
      cases h
      have := alt_size hy
      omega
theorem parseS_size {bs : List Nat} {x : Nd} (h : parseS bs = .ok x) : x.size ≤ 2049 := by
  unfold parseS at h
  split at h
  · cases h
  · exact lexemesS_size h

end Go.Proofs.Ytgbpcigfbpghgaa
