/-
  The tree of a right text between brackets, and of two with a bar between. No program in sight. The lexemes, and the tree, of a right text between brackets, and of two with a bar between. No program in sight. The contracts of tree.Copy and tree.copies. The contract of tree.Alt of two trees. The contract of tree.Same at two trees that are the same. The walk of ParseBrackets. The walk of ParseBrackets, all cases.
-/
import Derived.Deep.DeepCutAuto
import Derived.Test.YtkelkadalikibaaQParseSz
import Derived.Test.YtkelkadalikibaaQZ02
import Derived.Test.YtkelkadalikibaaQNSame
import Derived.Test.YtkelkadalikibaaQParses
import Derived.Test.YtkelkadalikibaaQZ01
import Derived.Test.YtkelkadalikibaaQSince
namespace Go.Proofs.Ytkelkadalikibaa
set_option linter.unusedSimpArgs false
set_option linter.unusedVariables false
set_option maxRecDepth 100000

/-! More fuel reads the same. -/
theorem readG_more (n : Nat) : (∀ op acc L r, altG n op acc L = .ok r → altG (n + 1) op acc L = .ok r) ∧ (∀ op acc L r, piecesG n op acc L = .ok r → piecesG (n + 1) op acc L = .ok r) ∧
    (∀ op L r, atomG n op L = .ok r → atomG (n + 1) op L = .ok r) := by
  induction n with
  | zero => exact ⟨fun _ _ _ _ h => (by rw [altG] at h; cases h), fun _ _ _ _ h => (by rw [piecesG] at h; cases h), fun _ _ _ h => (by rw [atomG] at h; cases h)⟩
  | succ n ih =>
    obtain ⟨ia, ip, it⟩ := ih
    refine ⟨fun op acc L r h => ?_, fun op acc L r h => ?_, fun op L r h => ?_⟩
    · cases hp : piecesG n op [] L with
      | error e => rw [altG_bad hp] at h; cases h
      | ok s =>
        obtain ⟨ps, R1⟩ := s
        rw [altG_ok hp] at h
        rw [altG_ok (ip _ _ _ _ hp)]
        cases R1 with
        | nil => exact h
        | cons c R' =>
          by_cases h4 : c.kind = 4
          · rw [tailG_bar h4] at h ⊢
            exact ia _ _ _ _ h
          · rw [tailG_stop h4] at h ⊢
            exact h
    · cases hp : atomG n op L with
      | error e => rw [piecesG_bad hp] at h; cases h
      | ok s =>
        obtain ⟨x, R1⟩ := s
        cases x with
        | none => rw [piecesG_end hp] at h; rw [piecesG_end (it _ _ _ hp)]; exact h
        | some x =>
          rw [piecesG_go hp] at h
          rw [piecesG_go (it _ _ _ hp)]
          exact ip _ _ _ _ h
    · cases L with
      | nil => rw [atomG_nil] at h ⊢; exact h
      | cons y L =>
        by_cases h1 : y.kind = 1
        · rw [atomG_set h1] at h ⊢; exact h
        by_cases h2 : y.kind = 2
        · by_cases h3 : op.length = 64
          · rw [atomG_deep h2 h3] at h; cases h
          · cases hx : altG n (y.place :: op) [] L with
            | error e => rw [atomG_in h2 h3 hx] at h; cases h
            | ok s =>
              obtain ⟨x, R⟩ := s
              cases R with
              | nil => rw [atomG_open h2 h3 hx (fun c R' e => by cases e)] at h; cases h
              | cons c R' =>
                by_cases hc : c.kind = 3
                · rw [atomG_close h2 h3 hx hc] at h
                  rw [atomG_close h2 h3 (ia _ _ _ _ hx) hc]
                  exact h
                · rw [atomG_open h2 h3 hx (fun c' R'' e => by cases e; exact hc)] at h; cases h
        by_cases h5 : isPost y.kind = true
        · rw [atomG_post h5] at h; cases h
        by_cases h4 : y.kind = 3 ∧ op.length = 0
        · rw [atomG_lone h4.1 h4.2] at h; cases h
        · rw [atomG_stop h1 h2 (by simpa using h5) h4] at h ⊢; exact h
theorem altG_more {n : Nat} {op : List Int} {acc : List Nd} {L : List Lex} {r : Nd × List Lex} (h : altG n op acc L = .ok r) : ∀ k, altG (n + k) op acc L = .ok r
  | 0 => h
  | k + 1 => (readG_more (n + k)).1 _ _ _ _ (altG_more h k)
theorem altG_fuel {n m : Nat} (hm : n ≤ m) {op : List Int} {acc : List Nd} {L : List Lex} {r : Nd × List Lex} (h : altG n op acc L = .ok r) : altG m op acc L = .ok r := by
  obtain ⟨k, rfl⟩ : ∃ k, m = n + k := ⟨m - n, by omega⟩
  exact altG_more h k

/-! One open bracket more at the bottom, and a closing bracket behind. -/
/-- Lexemes moved on, and what stands behind them. -/
def onto (p q : Nat) (T L : List Lex) : List Lex := L.map (Lex.move · p q) ++ T
/-- As it comes, or too deep. -/
def Or17 {α : Type} (r : Except Wrong α) (x : α) : Prop := r = .ok x ∨ ∃ at_, r = .error (17, at_)
theorem postsG_onto {p q : Nat} {c : Lex} {T : List Lex} (hc : isPost c.kind = false) : ∀ (L : List Lex) (x : Nd), postsG x (onto p q (c :: T) L) = ((postsG x L).1, onto p q (c :: T) (postsG x L).2)
  | [], x => by
    show postsG x (c :: T) = (x, c :: T)
    unfold postsG
    rw [if_neg (by rw [hc]; decide)]
  | y :: L, x => by
    show postsG x (y.move p q :: onto p q (c :: T) L) = _
    conv => lhs; unfold postsG
    conv => rhs; unfold postsG
    have hk : (y.move p q).kind = y.kind := rfl
    rw [hk]
    split
    · exact postsG_onto hc L _
    · rfl
theorem readG_onto {p q : Nat} {c : Lex} {T : List Lex} (hc : c.kind = 3) (n : Nat) :
    (∀ op op' acc L x R, op' ≠ [] → altG n op acc L = .ok (x, R) → Or17 (altG n op' acc (onto p q (c :: T) L)) (x, onto p q (c :: T) R)) ∧
    (∀ op op' acc L ps R, op' ≠ [] → piecesG n op acc L = .ok (ps, R) → Or17 (piecesG n op' acc (onto p q (c :: T) L)) (ps, onto p q (c :: T) R)) ∧
    (∀ op op' L x R, op' ≠ [] → atomG n op L = .ok (x, R) → Or17 (atomG n op' (onto p q (c :: T) L)) (x, onto p q (c :: T) R)) := by
  have hcp : isPost c.kind = false := by rw [hc]; rfl
  induction n with
  | zero => exact ⟨fun _ _ _ _ _ _ _ h => (by rw [altG] at h; cases h), fun _ _ _ _ _ _ _ h => (by rw [piecesG] at h; cases h), fun _ _ _ _ _ _ h => (by rw [atomG] at h; cases h)⟩
  | succ n ih =>
    obtain ⟨ia, ip, it⟩ := ih
    refine ⟨fun op op' acc L x R ho h => ?_, fun op op' acc L ps R ho h => ?_, fun op op' L x R ho h => ?_⟩
    · cases hp : piecesG n op [] L with
      | error e => rw [altG_bad hp] at h; cases h
      | ok s =>
        obtain ⟨ps, R1⟩ := s
        rw [altG_ok hp] at h
        rcases ip op op' [] L ps R1 ho hp with h1 | ⟨a, h1⟩
        · rw [altG_ok h1]
          cases R1 with
          | nil =>
            rw [tailG_nil] at h
            cases h
            exact .inl (tailG_stop (by rw [hc]; decide))
          | cons d R' =>
            by_cases h4 : d.kind = 4
            · rw [tailG_bar h4] at h
              rw [show onto p q (c :: T) (d :: R') = d.move p q :: onto p q (c :: T) R' from rfl, tailG_bar (c := d.move p q) h4]
              exact ia _ _ _ _ _ _ ho h
            · rw [tailG_stop h4] at h
              cases h
              exact .inl (tailG_stop (c := d.move p q) h4)
        · exact .inr ⟨a, altG_bad h1⟩
    · cases hp : atomG n op L with
      | error e => rw [piecesG_bad hp] at h; cases h
      | ok s =>
        obtain ⟨x, R1⟩ := s
        rcases it op op' L x R1 ho hp with h1 | ⟨a, h1⟩
        · cases x with
          | none =>
            rw [piecesG_end hp] at h
            cases h
            exact .inl (piecesG_end h1)
          | some x =>
            rw [piecesG_go hp] at h
            rw [piecesG_go h1, postsG_onto hcp]
            exact ip _ _ _ _ _ _ ho h
        · exact .inr ⟨a, piecesG_bad h1⟩
    · have ho0 : op'.length ≠ 0 := fun e => ho (List.length_eq_zero_iff.1 e)
      cases L with
      | nil =>
        rw [atomG_nil] at h
        cases h
        exact .inl (atomG_stop (y := c) (by rw [hc]; decide) (by rw [hc]; decide) hcp (fun e => ho0 e.2))
      | cons y L =>
        rw [show onto p q (c :: T) (y :: L) = y.move p q :: onto p q (c :: T) L from rfl]
        by_cases h1 : y.kind = 1
        · rw [atomG_set h1] at h
          cases h
          exact .inl (atomG_set (y := y.move p q) h1)
        by_cases h2 : y.kind = 2
        · by_cases h3 : op.length = 64
          · rw [atomG_deep h2 h3] at h; cases h
          · by_cases h3' : op'.length = 64
            · exact .inr ⟨_, atomG_deep (y := y.move p q) h2 h3'⟩
            · cases hx : altG n (y.place :: op) [] L with
              | error e => rw [atomG_in h2 h3 hx] at h; cases h
              | ok s =>
                obtain ⟨z, R1⟩ := s
                cases R1 with
                | nil => rw [atomG_open h2 h3 hx (fun c R' e => by cases e)] at h; cases h
                | cons d R' =>
                  by_cases hd : d.kind = 3
                  · rw [atomG_close h2 h3 hx hd] at h
                    cases h
                    rcases ia (y.place :: op) ((y.move p q).place :: op') [] L z (d :: R) (by simp) hx with h4 | ⟨a, h4⟩
                    · exact .inl (atomG_close (y := y.move p q) (c := d.move p q) h2 h3' h4 hd)
                    · exact .inr ⟨a, atomG_in (y := y.move p q) h2 h3' h4⟩
                  · rw [atomG_open h2 h3 hx (fun c' R'' e => by cases e; exact hd)] at h; cases h
        by_cases h5 : isPost y.kind = true
        · rw [atomG_post h5] at h; cases h
        by_cases h4 : y.kind = 3 ∧ op.length = 0
        · rw [atomG_lone h4.1 h4.2] at h; cases h
        · rw [atomG_stop h1 h2 (by simpa using h5) h4] at h
          cases h
          exact .inl (atomG_stop (y := y.move p q) h1 h2 (show isPost y.kind = false by simpa using h5) (fun e => ho0 e.2))

end Go.Proofs.Ytkelkadalikibaa
namespace Go.Proofs.Ytkelkadalikibaa
set_option linter.unusedSimpArgs false
set_option linter.unusedVariables false
set_option maxRecDepth 100000

/-- A sign, or a bar, or a bracket. -/
def sg (k : Int) (i : Nat) : Lex := ⟨k, (i : Int), noSet, 0, 0⟩
theorem byteAt_mid (P a Q : List Nat) {m : Nat} (h : m < a.length) : byteAt (P ++ a ++ Q) (m + P.length) = byteAt a m := by
  unfold byteAt
  rw [List.getD_eq_getElem?_getD, List.getD_eq_getElem?_getD, List.getElem?_append_left (by simp; omega), List.getElem?_append_right (by omega)]
  simp
theorem part_mid (P a Q : List Nat) : Part (P ++ a ++ Q) a 0 P.length 0 a.length := fun m _ hm => ⟨by simp; omega, by omega, by rw [byteAt_mid P a Q hm]; rfl⟩
theorem seg_mid (P a Q : List Nat) (ha : ∀ x ∈ a, x < 256) {M : List Lex} (h : Seg a 0 M a.length) : Seg (P ++ a ++ Q) P.length (M.map (Lex.move · 0 P.length)) (P.length + a.length) := by
  have := seg_move (cs := P ++ a ++ Q) ha (p := 0) (q := P.length) (i := 0) (k := a.length) h (part_mid P a Q)
  rw [Nat.zero_add, Nat.add_comm] at this
  exact this
theorem seg_sign (P Q : List Nat) (c : Nat) {k : Int} (h : c = 40 ∧ k = 2 ∨ c = 41 ∧ k = 3 ∨ c = 124 ∧ k = 4) : Seg (P ++ [c] ++ Q) P.length [sg k P.length] (P.length + 1) := by
  have hb : byteAt (P ++ [c] ++ Q) P.length = c := by
    have := byteAt_mid P [c] Q (m := 0) (by simp)
    rw [Nat.zero_add] at this
    exact this
  refine ⟨by simp, P.length + 1, ?_, rfl⟩
  unfold lexS
  rw [hb]
  rcases h with ⟨rfl, rfl⟩ | ⟨rfl, rfl⟩ | ⟨rfl, rfl⟩ <;> rfl

/-- The tree of a right text's lexemes. -/
theorem parseS_alt {bs : List Nat} {x : Nd} (hb : ∀ x ∈ bs, x < 256) (h : parseS bs = .ok x) : ∃ L, Seg bs 0 L bs.length ∧ altG (3 * L.length + 3) [] [] L = .ok (x, []) ∧ L.length ≤ bs.length := by
  unfold parseS at h
  cases hs : splitS bs with
  | error e => rw [hs] at h; cases h
  | ok L =>
    rw [hs] at h
    have hseg := ((splitS_seg hb).1 hs).2
    refine ⟨L, hseg, ?_, by have := (seg_len hb hseg).1; omega⟩
    replace h : lexemesS L = .ok x := h
    unfold lexemesS at h
    split at h
    · cases h
    rename_i hall
    split at h
    · cases h
    · have hk : Kinds L := fun y hy => by
        have h1 : rightS y = true := by
          have : L.all rightS = true := by simpa using hall
          exact List.all_eq_true.1 this y hy
        have := rightS_cases h1
        omega
      have hw := read_wrong L hk
      split at h
      · cases h
      · rename_i y R he
        rw [he] at hw
        cases h
        rw [he, hw.1]
/-- A text's tree, off its lexemes. -/
theorem parseS_of {bs : List Nat} {L : List Lex} {x : Nd} (hb : ∀ x ∈ bs, x < 256) (hs : Seg bs 0 L bs.length) (hl : bs.length ≤ 1024) (h : Or17 (altG (3 * L.length + 3) [] [] L) (x, [])) : Or17 (parseS bs) x := by
  have hsp : splitS bs = .ok L := (splitS_seg hb).2 ⟨by omega, hs⟩
  have hr := (splitS_right hb hsp).1
  have hlen := (seg_len hb hs).1
  have hall : L.all rightS = true := List.all_eq_true.2 (fun y hy => by
    obtain ⟨k, hk⟩ := List.getElem?_of_mem hy
    exact hr k y hk)
  unfold parseS
  rw [hsp]
  show Or17 (lexemesS L) x
  unfold lexemesS
  rw [if_neg (by rw [hall]; decide), dif_neg (by omega)]
  rcases h with h | ⟨a, h⟩
  · rw [h]; exact .inl rfl
  · rw [h]; exact .inr ⟨a, rfl⟩

theorem atom_br {La : List Lex} {x : Nd} (h : altG (3 * La.length + 3) [] [] La = .ok (x, [])) {m : Nat} (hm : 3 * La.length + 3 ≤ m) (i j p q : Nat) (T : List Lex) :
    Or17 (atomG (m + 1) [] (sg 2 i :: onto p q (sg 3 j :: T) La)) (some x, T) := by
  rcases (readG_onto (p := p) (q := q) (c := sg 3 j) (T := T) rfl m).1 [] [(i : Int)] [] La x [] (by simp) (altG_fuel hm h) with h1 | ⟨a, h1⟩
  · exact .inl (atomG_close (y := sg 2 i) (c := sg 3 j) rfl (by decide) h1 rfl)
  · exact .inr ⟨a, atomG_in (y := sg 2 i) rfl (by decide) h1⟩
theorem alt_br {La : List Lex} {x : Nd} (h : altG (3 * La.length + 3) [] [] La = .ok (x, [])) {m : Nat} (hm : 3 * La.length + 3 ≤ m) (i j p q : Nat) (acc : List Nd) :
    Or17 (altG (m + 3) [] acc (sg 2 i :: onto p q [sg 3 j] La)) (flatN 5 (acc ++ [x]), []) := by
  rcases atom_br h (m := m) hm i j p q [] with h1 | ⟨a, h1⟩
  · refine .inl ?_
    have h2 : piecesG (m + 2) [] [] (sg 2 i :: onto p q [sg 3 j] La) = .ok ([x], []) := by
      rw [piecesG_go h1]
      exact piecesG_end (by obtain ⟨m', rfl⟩ : ∃ m', m = m' + 1 := ⟨m - 1, by omega⟩; exact atomG_nil m' [])
    rw [altG_ok h2]
    rfl
  · exact .inr ⟨a, altG_bad (piecesG_bad h1)⟩
theorem alt_two {La Lb : List Lex} {x y : Nd} (hx : altG (3 * La.length + 3) [] [] La = .ok (x, [])) (hy : altG (3 * Lb.length + 3) [] [] Lb = .ok (y, [])) {m : Nat} (hm : 3 * La.length + 3 ≤ m) (hm2 : 3 * Lb.length + 3 ≤ m) (i j k i' j' p q p' q' : Nat) :
    Or17 (altG (m + 4) [] [] (sg 2 i :: onto p q (sg 3 j :: sg 4 k :: sg 2 i' :: onto p' q' [sg 3 j'] Lb) La)) (⟨5, 0, Trees.of [x, y], 0, 0⟩, []) := by
  rcases atom_br hx (m := m + 1) (by omega) i j p q (sg 4 k :: sg 2 i' :: onto p' q' [sg 3 j'] Lb) with h1 | ⟨a, h1⟩
  · have h2 : piecesG (m + 3) [] [] (sg 2 i :: onto p q (sg 3 j :: sg 4 k :: sg 2 i' :: onto p' q' [sg 3 j'] Lb) La) = .ok ([x], sg 4 k :: sg 2 i' :: onto p' q' [sg 3 j'] Lb) := by
      rw [piecesG_go h1]
      exact piecesG_end (atomG_stop (y := sg 4 k) (show (4 : Int) ≠ 1 by decide) (show (4 : Int) ≠ 2 by decide) rfl (fun e => absurd (show (4 : Int) = 3 from e.1) (by decide)))
    rw [altG_ok h2, tailG_bar (c := sg 4 k) rfl]
    exact alt_br hy hm2 i' j' p' q' [x]
  · exact .inr ⟨a, altG_bad (piecesG_bad h1)⟩

theorem le_br {a : List Nat} (ha : ∀ x ∈ a, x < 256) {P Q : List Nat} (hP : ∀ x ∈ P, x < 256) (hQ : ∀ x ∈ Q, x < 256) : ∀ x ∈ P ++ a ++ Q, x < 256 := fun x hx => by
  rcases List.mem_append.1 hx with hx | hx
  · rcases List.mem_append.1 hx with hx | hx
    · exact hP x hx
    · exact ha x hx
  · exact hQ x hx
theorem seg_br (P a Q : List Nat) (ha : ∀ x ∈ a, x < 256) {M : List Lex} (h : Seg a 0 M a.length) :
    Seg (P ++ [40] ++ a ++ [41] ++ Q) P.length (sg 2 P.length :: onto 0 (P.length + 1) [sg 3 (P.length + 1 + a.length)] M) (P.length + 1 + a.length + 1) := by
  have h1 := seg_sign P (a ++ [41] ++ Q) 40 (k := 2) (.inl ⟨rfl, rfl⟩)
  have h2 := seg_mid (P ++ [40]) a ([41] ++ Q) ha h
  have h3 := seg_sign (P ++ [40] ++ a) Q 41 (k := 3) (.inr (.inl ⟨rfl, rfl⟩))
  have e1 : P ++ [40] ++ (a ++ [41] ++ Q) = P ++ [40] ++ a ++ [41] ++ Q := by simp
  have e2 : P ++ [40] ++ a ++ ([41] ++ Q) = P ++ [40] ++ a ++ [41] ++ Q := by simp
  rw [e1] at h1
  rw [e2] at h2
  have l1 : (P ++ [40]).length = P.length + 1 := by simp
  have l2 : (P ++ [40] ++ a).length = P.length + 1 + a.length := by simp; omega
  rw [l1] at h2
  rw [l2] at h3
  exact (seg_cat (M := [sg 2 P.length])).2 ⟨_, h1, seg_cat.2 ⟨_, h2, h3⟩⟩

/-- A right text between brackets says the same tree; or there are too many brackets. -/
theorem brack_one {a : List Nat} {x : Nd} (ha : ∀ y ∈ a, y < 256) (hx : parseS a = .ok x) (hl : a.length ≤ 500) : Or17 (parseS ([40] ++ a ++ [41])) x := by
  obtain ⟨La, hs, h1, h2⟩ := parseS_alt ha hx
  have h3 := seg_br [] a [] ha hs
  have e : ([] ++ [40] ++ a ++ [41] ++ [] : List Nat) = [40] ++ a ++ [41] := by simp
  rw [e] at h3
  have l : ([40] ++ a ++ [41]).length = ([] : List Nat).length + 1 + a.length + 1 := by simp; omega
  rw [← l] at h3
  refine parseS_of (le_br ha (by simp) (by simp)) h3 (by simp; omega) ?_
  have h4 := alt_br h1 (m := 3 * La.length + 6) (by omega) 0 (0 + 1 + a.length) 0 (0 + 1) []
  have h5 : 3 * (sg 2 0 :: onto 0 (0 + 1) [sg 3 (0 + 1 + a.length)] La).length + 3 = 3 * La.length + 6 + 3 := by simp [onto]; omega
  show Or17 (altG (3 * (sg 2 0 :: onto 0 (0 + 1) [sg 3 (0 + 1 + a.length)] La).length + 3) [] [] _) _
  rw [h5]
  exact h4
/-- Two with a bar between: one or the other; or there are too many brackets. -/
theorem brack_two {a b : List Nat} {x y : Nd} (ha : ∀ y ∈ a, y < 256) (hb : ∀ y ∈ b, y < 256) (hx : parseS a = .ok x) (hy : parseS b = .ok y) (hl : a.length + b.length ≤ 500) :
    Or17 (parseS ([40] ++ a ++ [41] ++ ([124, 40] ++ b ++ [41]))) ⟨5, 0, Trees.of [x, y], 0, 0⟩ := by
  obtain ⟨La, hsa, h1, h1'⟩ := parseS_alt ha hx
  obtain ⟨Lb, hsb, h2, h2'⟩ := parseS_alt hb hy
  have h3 := seg_br [] a ([124, 40] ++ b ++ [41]) ha hsa
  have h4 := seg_sign ([40] ++ a ++ [41]) ([40] ++ b ++ [41]) 124 (k := 4) (.inr (.inr ⟨rfl, rfl⟩))
  have h5 := seg_br ([40] ++ a ++ [41] ++ [124]) b [] hb hsb
  have e3 : ([] ++ [40] ++ a ++ [41] ++ ([124, 40] ++ b ++ [41]) : List Nat) = [40] ++ a ++ [41] ++ ([124, 40] ++ b ++ [41]) := by simp
  have e4 : [40] ++ a ++ [41] ++ [124] ++ ([40] ++ b ++ [41]) = [40] ++ a ++ [41] ++ ([124, 40] ++ b ++ [41]) := by simp
  have e5 : [40] ++ a ++ [41] ++ [124] ++ [40] ++ b ++ [41] ++ [] = [40] ++ a ++ [41] ++ ([124, 40] ++ b ++ [41]) := by simp
  rw [e3] at h3
  rw [e4] at h4
  rw [e5] at h5
  have l4 : ([40] ++ a ++ [41]).length = ([] : List Nat).length + 1 + a.length + 1 := by simp; omega
  have l5 : ([40] ++ a ++ [41] ++ [124]).length = ([] : List Nat).length + 1 + a.length + 1 + 1 := by simp; omega
  have l6 : ([40] ++ a ++ [41] ++ ([124, 40] ++ b ++ [41])).length = ([] : List Nat).length + 1 + a.length + 1 + 1 + 1 + b.length + 1 := by simp; omega
  rw [l4] at h4
  rw [l5] at h5
  have h6 := seg_cat.2 ⟨_, h3, seg_cat.2 ⟨_, h4, h5⟩⟩
  rw [← l6] at h6
  refine parseS_of (fun z hz => ?_) h6 (by rw [l6]; simp; omega) ?_
  · simp at hz
    rcases hz with rfl | hz | rfl | rfl | rfl | hz | rfl
    · decide
    · exact ha z hz
    · decide
    · decide
    · decide
    · exact hb z hz
    · decide
  · have h7 := alt_two h1 h2 (m := 3 * La.length + 3 * Lb.length + 14) (by omega) (by omega) 0 (0 + 1 + a.length) (0 + 1 + a.length + 1) (0 + 1 + a.length + 1 + 1) (0 + 1 + a.length + 1 + 1 + 1 + b.length) 0 (0 + 1) 0 (0 + 1 + a.length + 1 + 1 + 1)
    have e : (sg 2 ([] : List Nat).length :: onto 0 (([] : List Nat).length + 1) [sg 3 (([] : List Nat).length + 1 + a.length)] La) ++ ([sg 4 (([] : List Nat).length + 1 + a.length + 1)] ++ (sg 2 (([] : List Nat).length + 1 + a.length + 1 + 1) :: onto 0 (([] : List Nat).length + 1 + a.length + 1 + 1 + 1) [sg 3 (([] : List Nat).length + 1 + a.length + 1 + 1 + 1 + b.length)] Lb)) =
        sg 2 0 :: onto 0 (0 + 1) (sg 3 (0 + 1 + a.length) :: sg 4 (0 + 1 + a.length + 1) :: sg 2 (0 + 1 + a.length + 1 + 1) :: onto 0 (0 + 1 + a.length + 1 + 1 + 1) [sg 3 (0 + 1 + a.length + 1 + 1 + 1 + b.length)] Lb) La := by
      simp [onto]
    rw [e]
    have h8 : 3 * (sg 2 0 :: onto 0 (0 + 1) (sg 3 (0 + 1 + a.length) :: sg 4 (0 + 1 + a.length + 1) :: sg 2 (0 + 1 + a.length + 1 + 1) :: onto 0 (0 + 1 + a.length + 1 + 1 + 1) [sg 3 (0 + 1 + a.length + 1 + 1 + 1 + b.length)] Lb) La).length + 3 = 3 * La.length + 3 * Lb.length + 14 + 4 := by
      simp [onto]
      omega
    rw [h8]
    exact h7

end Go.Proofs.Ytkelkadalikibaa
namespace Go.Proofs.Ytkelkadalikibaa
open Go.RowKit
set_option linter.unusedSimpArgs false
set_option linter.unusedVariables false
set_option maxRecDepth 100000

/-- The nodes copied so far. -/
def CRow (w : World) (acc : List Nd) (u : Value) (wr : World) : Prop :=
  (∃ cs, wr.ownsRow w.heap.size 42 8 u acc.length cs ∧ CellsAre wr (fun b => w.heap.size ≤ b ∧ some b ≠ u.ownBlock) acc cs) ∧ Below w.heap.size w wr
section
variable {w wr w2 w' : World} {acc : List Nd} {u : Value}
theorem CRow.own (h : CRow w acc u wr) : ∀ g, u.ownBlock = some g → w.heap.size ≤ g ∧ g < wr.heap.size := by
  obtain ⟨⟨cs, hr, _⟩, _⟩ := h
  exact hr.lt
theorem CRow.below (h : CRow w acc u wr) (hb : Below wr.heap.size wr w2) : CRow w acc u w2 := by
  obtain ⟨⟨cs, hr, hc⟩, h3⟩ := h
  exact ⟨⟨cs, own_below hr hb, hc.below hb⟩, h3.trans (hb.mono h3.size)⟩
theorem CRow.append {z : Nd} {B : Option Addr} {cap gg capg : Nat} {o : Obj} {cs : List Value} (h : CRow w acc u wr)
    (hz : TreesAt wr (fun b => w.heap.size ≤ b ∧ some b ≠ u.ownBlock) z.kids B) (hcz : z.kids.len ≤ cap) (hcs : CellsAre wr (fun b => w.heap.size ≤ b ∧ some b ≠ u.ownBlock) acc cs)
    (hown : w'.ownsRow w.heap.size 42 8 (.slice (some ⟨gg, 0, none⟩) (acc.length + 1) capg) (acc.length + 1) (cs ++ ndCell z B cap)) (hgrow : (wr.alloc o).grownBy w' u.ownBlock) (hat : u.ownBlock = some gg ∨ gg = wr.heap.size + 1) :
    CRow w (acc ++ [z]) (.slice (some ⟨gg, 0, none⟩) (acc.length + 1) capg) w' := by
  have hl := h.own
  obtain ⟨_, h3⟩ := h
  have hb : Below wr.heap.size wr (wr.alloc o) := (Below.refl _ _).alloc (Nat.le_refl _) o
  have hk : ∀ b i, (w.heap.size ≤ b ∧ some b ≠ u.ownBlock) → b < wr.heap.size → w'.cell? ⟨b, i, none⟩ = wr.cell? ⟨b, i, none⟩ := fun b i hb2 hbl =>
    (World.cell?_of_block (hgrow.block b (by simp; omega) hb2.2)).trans (hb.cell (p := ⟨b, i, none⟩) hbl)
  have hq : ∀ b, (w.heap.size ≤ b ∧ some b ≠ u.ownBlock) → b < wr.heap.size → w.heap.size ≤ b ∧ some b ≠ (Value.slice (some ⟨gg, 0, none⟩) (acc.length + 1) capg).ownBlock := fun b hb2 hbl => ⟨hb2.1, fun e => by
    have e' : b = gg := by simpa [Value.ownBlock] using e
    rcases hat with hh | hh
    · exact hb2.2 (by rw [e', hh])
    · omega⟩
  refine ⟨⟨cs ++ ndCell z B cap, by simpa using hown, CellsAre.snoc hcz (hz.keep hk hq) (hcs.keep hk hq)⟩,
    (h3.trans (hb.mono h3.size)).grown hgrow (by have := h3.size; simp; omega) (fun k e => (hl k e).1)⟩
theorem CRow.trees (h : CRow w acc u wr) : ∃ A cap, u = .slice A acc.length cap ∧ acc.length ≤ cap ∧ TreesAt wr (fun b => w.heap.size ≤ b) (Trees.of acc) A := by
  have hl := h.own
  obtain ⟨⟨cs, hr, hc⟩, _⟩ := h
  exact trees_of hr (hc.keep (fun _ _ _ _ => rfl) (fun b hb _ => hb.1)) (fun g e => (hl g e).1)
end
theorem crow_start (w : World) : CRow w [] (.slice none 0 0) w := ⟨⟨[], World.ownsRow_nil _ _ _ _, rfl⟩, Below.refl _ _⟩

def CopyC (n : Nat) : Prop := ∀ (x : Nd) (P : Nat → Prop) (B : Option Addr) (cap : Nat) (w : World), x.size ≤ n → x.size ≤ 100000 → TreesAt w P x.kids B →
  Calls Try.prog 62 #[ndV x B cap] w fun e w' => ∃ B' cap', e = .returned (ndV x B' cap') ∧ Below w.heap.size w w' ∧ x.kids.len ≤ cap' ∧ TreesAt w' (fun b => w.heap.size ≤ b) x.kids B'
def CopiesC (n : Nat) : Prop := ∀ (F : Trees) (P : Nat → Prop) (B : Option Addr) (cap : Nat) (w : World), F.size ≤ n → F.size ≤ 100000 → TreesAt w P F B →
  Calls Try.prog 63 #[.slice B F.len cap] w fun e w' => ∃ B' cap', e = .returned (.slice B' F.len cap') ∧ Below w.heap.size w w' ∧ F.len ≤ cap' ∧ TreesAt w' (fun b => w.heap.size ≤ b) F B'
set_option maxHeartbeats 4000000 in
theorem copies_step {n : Nat} (ih : CopyC n) : CopiesC n := by
  intro F P B cap w hsz hlen ht
  obtain ⟨i0, hi0, hz0, hz1, hz2⟩ := info_parts info_nd
  have HT := Lib.hid ht
  have hlk : F.len ≤ 100000 := by have := Trees.len_size F; omega
  have hFl := Trees.len_list F
  clear ht
  go_enter Try.func63, Try.ntmps63
  go_wp2
  go_loopw [3, 8] (fun u i wr => ∃ k : Nat, i = .int .i64 (k : Int) ∧ k ≤ F.len ∧ Hid (CRow w (F.list.take k) u wr)) (fun _ i _ => F.len - (intOf i).toNat)
  case atStart => exact ⟨0, rfl, Nat.zero_le _, Lib.hid (crow_start w)⟩
  case round =>
    obtain ⟨k, rfl, hk, HR⟩ := hrel
    by_cases hlt : k < F.len
    · obtain ⟨z, hz⟩ : ∃ z, F.list[k]? = some z := ⟨_, List.getElem?_eq_getElem (by omega)⟩
      have hzs := Trees.size_get F k z hz
      have htk : F.list.take (k + 1) = F.list.take k ++ [z] := by rw [List.take_add_one, hz]; rfl
      have hacc : (F.list.take k).length = k := by simp; omega
      have HTk := Lib.hid htk
      generalize F.list.take k = acc at *
      obtain ⟨b, o, C, capc, rfl, _, _, ⟨c0, c1, c2, c3, c4, c5, c6, c7⟩, hkz⟩ := (HT.out.below HR.out.2).get hz
      have hdl : (k : Int) < (F.len : Int) := by omega
      have hb2 : Below wr.heap.size wr (wr.alloc (.cells (ndA z C capc) 42)) := (Below.refl _ _).alloc (Nat.le_refl _) _
      have HI := Lib.hid (ih z _ C capc (wr.alloc (.cells (ndA z C capc) 42)) (by omega) (by omega) (hkz.below hb2))
      have Hrow2 := Lib.hid (HR.out.below hb2)
      have hws : w.heap.size ≤ wr.heap.size := HR.out.2.size
      clear hz hzs hkz hsz hlen hb2 HR htk
      unfold ndV at HI
      go_wp2_with fail
      refine HI.out.mono ?_
      rintro e w4 ⟨B4, cap4, rfl, hb4, hc4, ht4⟩
      have hrow4 := Hrow2.out.below hb4
      obtain ⟨⟨cs, hr4, hcs4⟩, _⟩ := id hrow4
      have hl := Hrow2.out.own
      have hz4 := ht4.weak (Q := fun b => w.heap.size ≤ b ∧ some b ≠ u3.ownBlock) (fun b hb _ => ⟨by simp at hb; omega, fun e => by have := (hl b e.symm).2; omega⟩)
      have Hrow4 := Lib.hid hrow4
      have HR4 := Lib.hid hr4
      have HC4 := Lib.hid hcs4
      have HZ4 := Lib.hid hz4
      have h63 : acc.length + 1 ≤ maxLen := Nat.le_trans (by omega) (show 200000 ≤ maxLen by decide)
      have hby : (acc.length + 1) * 80 ≤ 140737488355328 := by omega
      have hWs : w.heap.size ≤ w4.heap.size := by have := hb4.size; simp at this; omega
      clear hrow4 hr4 hcs4 hz4 ht4 hl hb4 HI Hrow2 c0 c1 c2 c3 c4 c5 c6 c7
      dsimp only
      go_wp2_with (at_builtin; refine wpList_append_lies _ rfl _ _ 40 rfl w.heap.size 42 i0 _ 8 80 Try.underlying40 hi0 hz0 hz1 hz2 rfl (by decide) u3 acc.length cs rfl (HR4.out.alloc _) ⟨w4.heap.size, 0, none⟩ 1 1 (ndCell z B4 cap4) rfl rfl (World.news_of_block (Blk.new_at (cs := ndA z B4 cap4) (t := 42) (by simp))) (by simp [ndCell, Value.oneCell']) (by decide) h63 hby (by simp; omega) (w4.heap.size + 1) (by simp) ?_; intro gg capg w5 hown5 hgrow5 hat5 hg5; have HA6 := Lib.hid (Hrow4.out.append HZ4.out hc4 HC4.out hown5 hgrow5 (by simpa using hat5)); clear hown5 hgrow5 hat5)
      go_light
      go_roundw
      case rel => exact ⟨k + 1, by go_num, by omega, Lib.hid (by rw [HTk.out]; have h6 := HA6.out; rw [hacc] at h6; exact h6)⟩
      case measure => simp [intOf]; omega
    · have hdl : ¬ (k : Int) < (F.len : Int) := by omega
      obtain rfl : k = F.len := by omega
      have hta : F.list.take F.len = F.list := by rw [← hFl]; exact List.take_length
      rw [hta] at HR
      obtain ⟨A5, cap5, rfl, hc5, ht5⟩ := HR.out.trees
      rw [Trees.of_list] at ht5
      rw [hFl] at hc5 ⊢
      have HB5 := Lib.hid HR.out.2
      have HT5 := Lib.hid ht5
      clear HR ht5 hta
      go_wp2
      go_light
      go_ret
      exact ⟨A5, cap5, rfl, HB5.out, hc5, HT5.out⟩

/-- A result that lies in the block behind the first. -/
theorem put_next {w w2 : World} {x : Nd} {B : Option Addr} {cap : Nat} (hZ : Blk w2 (w.heap.size + 1) 42 #[.int .i64 0, .int .u64 0, .int .u64 0, .int .u64 0, .int .u64 0, .slice none 0 0, .int .i64 0, .int .i64 0]) (hB : Below w.heap.size w w2) (ht : TreesAt w2 (fun b => w.heap.size + 2 ≤ b) x.kids B) {w' : World}
    (hw' : w' = ((((((((w2.setCell ⟨w.heap.size + 1, 0, none⟩ (.int .i64 x.kind)).setCell ⟨w.heap.size + 1, 1, none⟩ (.int .u64 ((word x.set.testBit 0 : Nat) : Int))).setCell ⟨w.heap.size + 1, 2, none⟩ (.int .u64 ((word x.set.testBit 1 : Nat) : Int))).setCell ⟨w.heap.size + 1, 3, none⟩ (.int .u64 ((word x.set.testBit 2 : Nat) : Int))).setCell ⟨w.heap.size + 1, 4, none⟩ (.int .u64 ((word x.set.testBit 3 : Nat) : Int))).setCell ⟨w.heap.size + 1, 5, none⟩ (.slice B x.kids.len cap)).setCell ⟨w.heap.size + 1, 6, none⟩ (.int .i64 x.lo)).setCell ⟨w.heap.size + 1, 7, none⟩ (.int .i64 x.hi))) :
    Blk w' (w.heap.size + 1) 42 (ndA x B cap) ∧ Below w.heap.size w w' ∧ TreesAt w' (fun b => w.heap.size ≤ b) x.kids B := by
  have hg : w2.grownBy w' (some (w.heap.size + 1)) := by rw [hw']; exact only_put8 _ _ _ _ _ _ _ _ _ _
  refine ⟨by rw [hw']; exact hZ.put8 _ _ _ _ _ _ _ _, by rw [hw']; exact below_put8 hB (by omega) _ _ _ _ _ _ _ _, ht.keep (fun b o hb hl => World.cell?_of_block (hg.block b hl (fun e => by have := Option.some.inj e; omega))) (fun b hb _ => by omega)⟩
set_option maxHeartbeats 4000000 in
theorem copy_step {n : Nat} (ih : CopiesC n) : CopyC (n + 1) := by
  intro x P B cap w hsz hlen ht
  have hb2 : Below w.heap.size w ((w.alloc (.cells (ndA x B cap) 42)).alloc (.cells #[.int .i64 0, .int .u64 0, .int .u64 0, .int .u64 0, .int .u64 0, .slice none 0 0, .int .i64 0, .int .i64 0] 42)) := ((Below.refl _ _).alloc (Nat.le_refl _) _).alloc (by simp) _
  have HI := Lib.hid (ih x.kids P B cap _ (by unfold Nd.size at hsz; omega) (by unfold Nd.size at hlen; omega) (ht.below hb2))
  have HB2 := Lib.hid hb2
  have HX2 := Lib.hid (show Blk ((w.alloc (.cells (ndA x B cap) 42)).alloc (.cells #[.int .i64 0, .int .u64 0, .int .u64 0, .int .u64 0, .int .u64 0, .slice none 0 0, .int .i64 0, .int .i64 0] 42)) w.heap.size 42 (ndA x B cap) from (Blk.new _ _ _).alloc _)
  have HZ2 := Lib.hid (show Blk ((w.alloc (.cells (ndA x B cap) 42)).alloc (.cells #[.int .i64 0, .int .u64 0, .int .u64 0, .int .u64 0, .int .u64 0, .slice none 0 0, .int .i64 0, .int .i64 0] 42)) (w.heap.size + 1) 42 #[.int .i64 0, .int .u64 0, .int .u64 0, .int .u64 0, .int .u64 0, .slice none 0 0, .int .i64 0, .int .i64 0] from Blk.new_at (by simp))
  clear ht hb2 hsz hlen
  unfold ndV
  go_enter Try.func62, Try.ntmps62
  go_wp2_with fail
  refine HI.out.mono ?_
  rintro e w3 ⟨B3, cap3, rfl, hb3, hc3, ht3⟩
  have hX3 := HX2.out.below hb3 HX2.out.lt
  have hZ3 := HZ2.out.below hb3 HZ2.out.lt
  have HB3 := Lib.hid (HB2.out.trans (hb3.mono HB2.out.size))
  have HX3 := Lib.hid hX3
  have HZ3 := Lib.hid hZ3
  have HT3 := Lib.hid ht3
  have x0 : w3.cell? ⟨w.heap.size, 0, none⟩ = some (.int .i64 x.kind) := hX3.cell 0
  have x1 : w3.cell? ⟨w.heap.size, 1, none⟩ = some (.int .u64 ((word x.set.testBit 0 : Nat) : Int)) := hX3.cell 1
  have x2 : w3.cell? ⟨w.heap.size, 2, none⟩ = some (.int .u64 ((word x.set.testBit 1 : Nat) : Int)) := hX3.cell 2
  have x3 : w3.cell? ⟨w.heap.size, 3, none⟩ = some (.int .u64 ((word x.set.testBit 2 : Nat) : Int)) := hX3.cell 3
  have x4 : w3.cell? ⟨w.heap.size, 4, none⟩ = some (.int .u64 ((word x.set.testBit 3 : Nat) : Int)) := hX3.cell 4
  have x5 : w3.cell? ⟨w.heap.size, 5, none⟩ = some (.slice B x.kids.len cap) := hX3.cell 5
  have x6 : w3.cell? ⟨w.heap.size, 6, none⟩ = some (.int .i64 x.lo) := hX3.cell 6
  have x7 : w3.cell? ⟨w.heap.size, 7, none⟩ = some (.int .i64 x.hi) := hX3.cell 7
  have f5 := hX3.frozen 5
  have y0 : w3.cell? ⟨w.heap.size + 1, 0, none⟩ = some (.int .i64 0) := hZ3.cell 0
  have y1 : w3.cell? ⟨w.heap.size + 1, 1, none⟩ = some (.int .u64 0) := hZ3.cell 1
  have y2 : w3.cell? ⟨w.heap.size + 1, 2, none⟩ = some (.int .u64 0) := hZ3.cell 2
  have y3 : w3.cell? ⟨w.heap.size + 1, 3, none⟩ = some (.int .u64 0) := hZ3.cell 3
  have y4 : w3.cell? ⟨w.heap.size + 1, 4, none⟩ = some (.int .u64 0) := hZ3.cell 4
  have y5 : w3.cell? ⟨w.heap.size + 1, 5, none⟩ = some (.slice none 0 0) := hZ3.cell 5
  have y6 : w3.cell? ⟨w.heap.size + 1, 6, none⟩ = some (.int .i64 0) := hZ3.cell 6
  have y7 : w3.cell? ⟨w.heap.size + 1, 7, none⟩ = some (.int .i64 0) := hZ3.cell 7
  have g0 := hZ3.frozen 0
  have g1 := hZ3.frozen 1
  have g2 := hZ3.frozen 2
  have g3 := hZ3.frozen 3
  have g4 := hZ3.frozen 4
  have g5 := hZ3.frozen 5
  have g6 := hZ3.frozen 6
  have g7 := hZ3.frozen 7
  clear hX3 hZ3 ht3 hb3 HI HX2 HZ2 HB2
  dsimp only
  go_wp2
  go_light
  have hZ4 : Blk (w3.setCell ⟨w.heap.size, 5, none⟩ (.slice B3 x.kids.len cap3)) (w.heap.size + 1) 42 #[.int .i64 0, .int .u64 0, .int .u64 0, .int .u64 0, .int .u64 0, .slice none 0 0, .int .i64 0, .int .i64 0] := HZ3.out.far (p := ⟨w.heap.size, 5, none⟩) (by simp) _
  have hT4 : TreesAt (w3.setCell ⟨w.heap.size, 5, none⟩ (.slice B3 x.kids.len cap3)) (fun b => w.heap.size + 2 ≤ b) x.kids B3 := HT3.out.keep (fun b o hb _ => World.cell?_of_block (Below.heap_setCell w3 ⟨w.heap.size, 5, none⟩ _ b (by simp at hb ⊢; omega))) (fun b hb _ => by simp at hb; omega)
  have hF := put_next (x := x) (B := B3) (cap := cap3) hZ4 (HB3.out.setCell (p := ⟨w.heap.size, 5, none⟩) (Nat.le_refl _) _) hT4 rfl
  exact bodyPost_ret (ret_node Try.results62 rfl hF.1) rfl ⟨B3, cap3, rfl, hF.2.1, hc3, hF.2.2⟩
theorem copy_go (x : Nd) (P : Nat → Prop) (B : Option Addr) (cap : Nat) (w : World) (hlen : x.size ≤ 100000) (ht : TreesAt w P x.kids B) :
    Calls Try.prog 62 #[ndV x B cap] w fun e w' => ∃ B' cap', e = .returned (ndV x B' cap') ∧ Below w.heap.size w w' ∧ x.kids.len ≤ cap' ∧ TreesAt w' (fun b => w.heap.size ≤ b) x.kids B' := by
  have h : ∀ n, CopyC n := by
    intro n
    induction n with
    | zero => exact fun x _ _ _ _ h => by unfold Nd.size at h; omega
    | succ n ih => exact copy_step (copies_step ih)
  exact h x.size x P B cap w (Nat.le_refl _) hlen ht
theorem copies_go (F : Trees) (P : Nat → Prop) (B : Option Addr) (cap : Nat) (w : World) (hlen : F.size ≤ 100000) (ht : TreesAt w P F B) :
    Calls Try.prog 63 #[.slice B F.len cap] w fun e w' => ∃ B' cap', e = .returned (.slice B' F.len cap') ∧ Below w.heap.size w w' ∧ F.len ≤ cap' ∧ TreesAt w' (fun b => w.heap.size ≤ b) F B' :=
  copies_step (n := F.size) (fun x P B cap w _ hl ht => copy_go x P B cap w hl ht) F P B cap w (Nat.le_refl _) hlen ht

end Go.Proofs.Ytkelkadalikibaa
namespace Go.Proofs.Ytkelkadalikibaa
open Go.RowKit
set_option linter.unusedSimpArgs false
set_option linter.unusedVariables false
set_option maxRecDepth 100000

set_option maxHeartbeats 2000000 in
theorem none_go (w : World) : Calls Try.prog 34 #[] w fun e w' => e = .returned (.agg #[.int .i64 1, .int .u64 0, .int .u64 0, .int .u64 0, .int .u64 0, .slice none 0 0, .int .i64 0, .int .i64 0]) ∧ Below w.heap.size w w' := by
  have HZ := Lib.hid (Blk.new w 42 #[.int .i64 1, .int .u64 0, .int .u64 0, .int .u64 0, .int .u64 0, .slice none 0 0, .int .i64 0, .int .i64 0])
  have HB := Lib.hid (show Below w.heap.size w (w.alloc (.cells #[.int .i64 1, .int .u64 0, .int .u64 0, .int .u64 0, .int .u64 0, .slice none 0 0, .int .i64 0, .int .i64 0] 42)) from (Below.refl _ _).alloc (Nat.le_refl _) _)
  go_enter Try.func34, Try.ntmps34
  go_wp2
  go_light
  exact bodyPost_ret (ret_node Try.results34 rfl HZ.out) rfl ⟨rfl, HB.out⟩
set_option maxHeartbeats 4000000 in
theorem many_go (k : Int) (F : Trees) (P : Nat → Prop) (B : Option Addr) (cap : Nat) (w : World) (h2 : F.len = 2) (hlen : F.size ≤ 100000) (ht : TreesAt w P F B) :
    Calls Try.prog 33 #[.int .i64 k, .agg #[.int .i64 1, .int .u64 0, .int .u64 0, .int .u64 0, .int .u64 0, .slice none 0 0, .int .i64 0, .int .i64 0], .slice B 2 cap] w fun e w' => ∃ B' cap', e = .returned (ndV ⟨k, 0, F, 0, 0⟩ B' cap') ∧ Below w.heap.size w w' ∧ F.len ≤ cap' ∧ TreesAt w' (fun b => w.heap.size ≤ b) F B' := by
  have hb2 : Below w.heap.size w ((w.alloc (.cells #[.int .i64 1, .int .u64 0, .int .u64 0, .int .u64 0, .int .u64 0, .slice none 0 0, .int .i64 0, .int .i64 0] 42)).alloc (.cells #[.int .i64 0, .int .u64 0, .int .u64 0, .int .u64 0, .int .u64 0, .slice none 0 0, .int .i64 0, .int .i64 0] 42)) := ((Below.refl _ _).alloc (Nat.le_refl _) _).alloc (by simp) _
  have hI := copies_go F P B cap _ hlen (ht.below hb2)
  rw [h2] at hI
  have HI := Lib.hid hI
  have HB2 := Lib.hid hb2
  have HZ2 := Lib.hid (show Blk ((w.alloc (.cells #[.int .i64 1, .int .u64 0, .int .u64 0, .int .u64 0, .int .u64 0, .slice none 0 0, .int .i64 0, .int .i64 0] 42)).alloc (.cells #[.int .i64 0, .int .u64 0, .int .u64 0, .int .u64 0, .int .u64 0, .slice none 0 0, .int .i64 0, .int .i64 0] 42)) (w.heap.size + 1) 42 #[.int .i64 0, .int .u64 0, .int .u64 0, .int .u64 0, .int .u64 0, .slice none 0 0, .int .i64 0, .int .i64 0] from Blk.new_at (by simp))
  have H2 := Lib.hid h2
  clear ht hb2 hlen hI h2
  go_enter Try.func33, Try.ntmps33
  go_wp2_with fail
  refine HI.out.mono ?_
  rintro e w3 ⟨B3, cap3, rfl, hb3, hc3, ht3⟩
  have hZ3 := HZ2.out.below hb3 HZ2.out.lt
  have HB3 := Lib.hid (HB2.out.trans (hb3.mono HB2.out.size))
  have HZ3 := Lib.hid hZ3
  have HT3 := Lib.hid (ht3.weak (Q := fun b => w.heap.size + 2 ≤ b) (fun b hb _ => by simpa using hb))
  have y0 : w3.cell? ⟨w.heap.size + 1, 0, none⟩ = some (.int .i64 0) := hZ3.cell 0
  have y1 : w3.cell? ⟨w.heap.size + 1, 1, none⟩ = some (.int .u64 0) := hZ3.cell 1
  have y2 : w3.cell? ⟨w.heap.size + 1, 2, none⟩ = some (.int .u64 0) := hZ3.cell 2
  have y3 : w3.cell? ⟨w.heap.size + 1, 3, none⟩ = some (.int .u64 0) := hZ3.cell 3
  have y4 : w3.cell? ⟨w.heap.size + 1, 4, none⟩ = some (.int .u64 0) := hZ3.cell 4
  have y5 : w3.cell? ⟨w.heap.size + 1, 5, none⟩ = some (.slice none 0 0) := hZ3.cell 5
  have y6 : w3.cell? ⟨w.heap.size + 1, 6, none⟩ = some (.int .i64 0) := hZ3.cell 6
  have y7 : w3.cell? ⟨w.heap.size + 1, 7, none⟩ = some (.int .i64 0) := hZ3.cell 7
  have g0 := hZ3.frozen 0
  have g1 := hZ3.frozen 1
  have g2 := hZ3.frozen 2
  have g3 := hZ3.frozen 3
  have g4 := hZ3.frozen 4
  have g5 := hZ3.frozen 5
  have g6 := hZ3.frozen 6
  have g7 := hZ3.frozen 7
  clear hZ3 ht3 hb3 HI HZ2 HB2
  dsimp only
  go_wp2
  go_light
  have hF := put_next (x := ⟨k, 0, F, 0, 0⟩) (B := B3) (cap := cap3) HZ3.out HB3.out HT3.out (by simp only [word_zero, H2.out]; rfl)
  refine bodyPost_ret (ret_node Try.results33 rfl hF.1) rfl ⟨B3, cap3, rfl, hF.2.1, ?_, hF.2.2⟩
  rw [H2.out]; exact hc3
set_option maxHeartbeats 4000000 in
theorem talt_go (F : Trees) (P : Nat → Prop) (B : Option Addr) (cap : Nat) (w : World) (h2 : F.len = 2) (hlen : F.size ≤ 100000) (ht : TreesAt w P F B) :
    Calls Try.prog 20 #[.slice B 2 cap] w fun e w' => ∃ B' cap', e = .returned (ndV ⟨5, 0, F, 0, 0⟩ B' cap') ∧ Below w.heap.size w w' ∧ F.len ≤ cap' ∧ TreesAt w' (fun b => w.heap.size ≤ b) F B' := by
  have hb1 : Below w.heap.size w (w.alloc (.cells #[.int .i64 0, .int .u64 0, .int .u64 0, .int .u64 0, .int .u64 0, .slice none 0 0, .int .i64 0, .int .i64 0] 42)) := (Below.refl _ _).alloc (Nat.le_refl _) _
  have HB1 := Lib.hid hb1
  have HZ1 := Lib.hid (Blk.new w 42 #[.int .i64 0, .int .u64 0, .int .u64 0, .int .u64 0, .int .u64 0, .slice none 0 0, .int .i64 0, .int .i64 0])
  have HT1 := Lib.hid (ht.below hb1)
  have H2 := Lib.hid h2
  clear ht hb1
  go_enter Try.func20, Try.ntmps20
  go_wp2_with fail
  refine (none_go _).mono ?_
  rintro e w2 ⟨rfl, hb2⟩
  have HB2 := Lib.hid (HB1.out.trans (hb2.mono HB1.out.size))
  have HZ2 := Lib.hid (HZ1.out.below hb2 HZ1.out.lt)
  have HT2 := Lib.hid (HT1.out.below hb2)
  clear hb2 HB1 HZ1 HT1
  dsimp only
  go_wp2_with fail
  refine (many_go 5 F P B cap w2 h2 hlen HT2.out).mono ?_
  rintro e w3 ⟨B3, cap3, rfl, hb3, hc3, ht3⟩
  have hZ3 := HZ2.out.below hb3 HZ2.out.lt
  have HB3 := Lib.hid (HB2.out.trans (hb3.mono HB2.out.size))
  have HZ3 := Lib.hid hZ3
  have HT3 := Lib.hid ht3
  have hw2 : w.heap.size + 1 ≤ w2.heap.size := HZ2.out.lt
  have y0 : w3.cell? ⟨w.heap.size, 0, none⟩ = some (.int .i64 0) := hZ3.cell 0
  have y1 : w3.cell? ⟨w.heap.size, 1, none⟩ = some (.int .u64 0) := hZ3.cell 1
  have y2 : w3.cell? ⟨w.heap.size, 2, none⟩ = some (.int .u64 0) := hZ3.cell 2
  have y3 : w3.cell? ⟨w.heap.size, 3, none⟩ = some (.int .u64 0) := hZ3.cell 3
  have y4 : w3.cell? ⟨w.heap.size, 4, none⟩ = some (.int .u64 0) := hZ3.cell 4
  have y5 : w3.cell? ⟨w.heap.size, 5, none⟩ = some (.slice none 0 0) := hZ3.cell 5
  have y6 : w3.cell? ⟨w.heap.size, 6, none⟩ = some (.int .i64 0) := hZ3.cell 6
  have y7 : w3.cell? ⟨w.heap.size, 7, none⟩ = some (.int .i64 0) := hZ3.cell 7
  have g0 := hZ3.frozen 0
  have g1 := hZ3.frozen 1
  have g2 := hZ3.frozen 2
  have g3 := hZ3.frozen 3
  have g4 := hZ3.frozen 4
  have g5 := hZ3.frozen 5
  have g6 := hZ3.frozen 6
  have g7 := hZ3.frozen 7
  clear hZ3 ht3 hb3 HZ2 HB2 HT2 h2 hlen
  unfold ndV
  dsimp only
  go_wp2
  go_light
  have hF := flat_put (P := fun _ => False) (x := ⟨5, 0, F, 0, 0⟩) (B := B3) (cap := cap3) HZ3.out HB3.out (HT3.out.weak (fun b hb _ => .inr (by omega))) rfl
  exact bodyPost_ret (ret_node Try.results20 rfl hF.1) rfl ⟨B3, cap3, rfl, hF.2.1, hc3, hF.2.2.weak (fun b hb _ => hb.elim (fun h => h.elim) id)⟩

end Go.Proofs.Ytkelkadalikibaa
namespace Go.Proofs.Ytkelkadalikibaa
open Go.RowKit
set_option linter.unusedSimpArgs false
set_option linter.unusedVariables false
set_option maxRecDepth 100000

def TSameC (n : Nat) : Prop := ∀ (x : Nd) (P P' : Nat → Prop) (B B' : Option Addr) (cap cap' : Nat) (w : World), x.size ≤ n → x.size ≤ 4611686018427387903 → TreesAt w P x.kids B → TreesAt w P' x.kids B' →
  Calls Try.prog 19 #[ndV x B cap, ndV x B' cap'] w fun e w' => e = .returned (.bool true) ∧ Below w.heap.size w w'
def TEqualC (n : Nat) : Prop := ∀ (F : Trees) (P P' : Nat → Prop) (B B' : Option Addr) (cap cap' : Nat) (w : World), F.size ≤ n → F.size ≤ 4611686018427387903 → TreesAt w P F B → TreesAt w P' F B' →
  Calls Try.prog 32 #[.slice B F.len cap, .slice B' F.len cap', .func (.func 19) #[] #[]] w fun e w' => e = .returned (.bool true) ∧ Below w.heap.size w w'
set_option maxHeartbeats 4000000 in
theorem tequal_step {n : Nat} (ih : TSameC n) : TEqualC n := by
  intro F P P' B B' cap cap' w hsz hlen ht ht'
  have HT := Lib.hid ht
  have HT' := Lib.hid ht'
  have hlk : F.len ≤ 4611686018427387903 := by have := Trees.len_size F; omega
  have hn : ((F.len : Int) != (F.len : Int)) = false := by simp
  clear ht ht'
  go_enter Try.func32, Try.ntmps32
  go_wp2
  go_loopw [17] (fun i wr => ∃ k : Nat, i = .int .i64 (k : Int) ∧ k ≤ F.len ∧ Hid (Below w.heap.size w wr)) (fun i _ => F.len - (intOf i).toNat)
  case atStart => exact ⟨0, rfl, Nat.zero_le _, Lib.hid (Below.refl _ _)⟩
  case round =>
    clear hn
    obtain ⟨k, rfl, hk, HB⟩ := hrel
    by_cases hlt : k < F.len
    · obtain ⟨z, hz⟩ : ∃ z, F.list[k]? = some z := ⟨_, List.getElem?_eq_getElem (by rw [Trees.len_list]; exact hlt)⟩
      have hzs := Trees.size_get F k z hz
      obtain ⟨b, o, C, capc, rfl, _, _, ⟨c0, c1, c2, c3, c4, c5, c6, c7⟩, hkz⟩ := (HT.out.below HB.out).get hz
      obtain ⟨b', o', C', capc', rfl, _, _, ⟨d0, d1, d2, d3, d4, d5, d6, d7⟩, hkz'⟩ := (HT'.out.below HB.out).get hz
      have hdl : (k : Int) < (F.len : Int) := by omega
      have hbl := World.block_lt_of_cell? wr _ c0
      have hbl' := World.block_lt_of_cell? wr _ d0
      have hb2 : Below wr.heap.size wr ((wr.alloc (.cells (ndA z C capc) 42)).alloc (.cells (ndA z C' capc') 42)) := ((Below.refl _ _).alloc (Nat.le_refl _) _).alloc (by simp) _
      have HI := Lib.hid (ih z P P' C C' capc capc' _ (by omega) (by omega) (hkz.below hb2) (hkz'.below hb2))
      have HB2 := Lib.hid (HB.out.trans (hb2.mono HB.out.size))
      clear hz hzs hkz hkz' hsz hlen hb2
      unfold ndV at HI
      go_wp2_with fail
      refine HI.out.mono ?_
      rintro e w3 ⟨rfl, hb3⟩
      have HB3 := Lib.hid (HB2.out.trans (hb3.mono HB2.out.size))
      clear hb3 HI c0 c1 c2 c3 c4 c5 c6 c7 d0 d1 d2 d3 d4 d5 d6 d7
      dsimp only
      go_wp2
      go_roundw
      case rel => exact ⟨k + 1, by go_num, by omega, HB3⟩
      case measure => simp [intOf]; omega
    · have hdl : ¬ (k : Int) < (F.len : Int) := by omega
      go_wp2
      go_light
      go_ret
      exact ⟨rfl, HB.out⟩
set_option maxHeartbeats 4000000 in
theorem tsame_step {n : Nat} (ih : TEqualC n) : TSameC (n + 1) := by
  intro x P P' B B' cap cap' w hsz hlen ht ht'
  have hb2 : Below w.heap.size w ((w.alloc (.cells (ndA x B cap) 42)).alloc (.cells (ndA x B' cap') 42)) := ((Below.refl _ _).alloc (Nat.le_refl _) _).alloc (by simp) _
  have HI := Lib.hid (ih x.kids P P' B B' cap cap' _ (by unfold Nd.size at hsz; omega) (by unfold Nd.size at hlen; omega) (ht.below hb2) (ht'.below hb2))
  have HB := Lib.hid hb2
  have hk : (x.kind != x.kind) = false := by simp
  have hl : (x.lo != x.lo) = false := by simp
  have hh : (x.hi != x.hi) = false := by simp
  have eb0 : (((word x.set.testBit 0 : Nat) : Int) == ((word x.set.testBit 0 : Nat) : Int)) = true := by simp
  have eb1 : (((word x.set.testBit 1 : Nat) : Int) == ((word x.set.testBit 1 : Nat) : Int)) = true := by simp
  have eb2 : (((word x.set.testBit 2 : Nat) : Int) == ((word x.set.testBit 2 : Nat) : Int)) = true := by simp
  have eb3 : (((word x.set.testBit 3 : Nat) : Int) == ((word x.set.testBit 3 : Nat) : Int)) = true := by simp
  clear ht ht' hb2 hsz hlen
  unfold ndV
  go_enter Try.func19, Try.ntmps19
  go_wp2_with fail
  refine HI.out.mono ?_
  rintro e w3 ⟨rfl, hb3⟩
  have HB3 := Lib.hid (HB.out.trans (hb3.mono HB.out.size))
  clear hb3 HI
  dsimp only
  go_wp2
  go_light
  go_ret
  exact ⟨rfl, HB3.out⟩
theorem tsame_go (x : Nd) (P P' : Nat → Prop) (B B' : Option Addr) (cap cap' : Nat) (w : World) (hlen : x.size ≤ 4611686018427387903) (ht : TreesAt w P x.kids B) (ht' : TreesAt w P' x.kids B') :
    Calls Try.prog 19 #[ndV x B cap, ndV x B' cap'] w fun e w' => e = .returned (.bool true) ∧ Below w.heap.size w w' := by
  have h : ∀ n, TSameC n := by
    intro n
    induction n with
    | zero => exact fun x _ _ _ _ _ _ _ h => by unfold Nd.size at h; omega
    | succ n ih => exact tsame_step (tequal_step ih)
  exact h x.size x P P' B B' cap cap' w (Nat.le_refl _) hlen ht ht'

end Go.Proofs.Ytkelkadalikibaa
namespace Go.Proofs.Ytkelkadalikibaa
open Go.RowKit
set_option linter.unusedSimpArgs false
set_option linter.unusedVariables false
set_option maxRecDepth 100000

/-- The string of a slice of bytes. -/
theorem bytes_str {w : World} {B : Nat} {A : Option Addr} {bs : List Nat} (cap : Nat) (h : BytesAt w B A bs) : (convert 22 9 (.slice A bs.length cap)).run Try.prog w = .ok (.string (strOf bs)) w := by
  by_cases h0 : bs = []
  · subst h0
    cases A with
    | none =>
      rw [run_convert_bytes_string w _ _ 5 none _ _ Try.underlying22 Try.underlying5 Try.underlying9]
      rfl
    | some a => exact run_str w a cap [] (fun j u hu => by simp at hu)
  · obtain ⟨b, o, rfl, _, hc⟩ := h.2.2 (List.length_pos_iff.2 h0)
    refine run_str w ⟨b, o, none⟩ cap bs (fun j u hu => ?_)
    have hj : j < bs.length := by
      rcases Nat.lt_or_ge j bs.length with h1 | h1
      · exact h1
      · rw [List.getElem?_eq_none (by simpa using h1)] at hu; cases hu
    rw [addr_plus7, hc j hj]
    rw [List.getElem?_map, List.getElem?_eq_getElem hj] at hu
    rw [← byteAt_get hj]
    simpa using hu
/-- A node in a box of its own, with its kids in memory. -/
def KeptN (W : World) (g : Nat) (x : Nd) (B : Option Addr) (cap : Nat) : Prop := Blk W g 42 (ndA x B cap) ∧ TreesAt W (fun _ => True) x.kids B ∧ x.kids.len ≤ cap
theorem KeptN.below {W W' : World} {g : Nat} {x : Nd} {B : Option Addr} {cap : Nat} (h : KeptN W g x B cap) (hb : Below W.heap.size W W') : KeptN W' g x B cap := ⟨h.1.below hb h.1.lt, h.2.1.below hb, h.2.2⟩
def Bads (W : World) (g : Nat) (k q : Int) : Prop := Blk W g 26 #[.int .i64 k, .int .i64 q]
theorem Bads.below {W W' : World} {g : Nat} {k q : Int} (h : Bads W g k q) (hb : Below W.heap.size W W') : Bads W' g k q := Blk.below h hb (Blk.lt h)
theorem kept_new {w1 : World} {P : Nat → Prop} {x : Nd} {B : Option Addr} (cap : Nat) (k q : Int) (ht : TreesAt w1 P x.kids B) (hc : x.kids.len ≤ cap) :
    KeptN ((w1.alloc (.cells (ndA x B cap) 42)).alloc (.cells #[.int .i64 k, .int .i64 q] 26)) w1.heap.size x B cap ∧ Bads ((w1.alloc (.cells (ndA x B cap) 42)).alloc (.cells #[.int .i64 k, .int .i64 q] 26)) (w1.heap.size + 1) k q ∧
    Below w1.heap.size w1 ((w1.alloc (.cells (ndA x B cap) 42)).alloc (.cells #[.int .i64 k, .int .i64 q] 26)) := by
  have hb : Below w1.heap.size w1 ((w1.alloc (.cells (ndA x B cap) 42)).alloc (.cells #[.int .i64 k, .int .i64 q] 26)) := ((Below.refl _ _).alloc (Nat.le_refl _) _).alloc (by simp) _
  exact ⟨⟨(Blk.new _ _ _).alloc _, (ht.below hb).weak (fun _ _ _ => trivial), hc⟩, Blk.new_at (by simp), hb⟩
/-- What a text's reading gives, its parts named. -/
def OutB (x : Nd) (k q : Int) (w : World) (e : Ending) (w' : World) : Prop := ∃ B cap, e = .returned (.tuple #[ndV x B cap, .agg #[.int .i64 k, .int .i64 q]]) ∧ Below w.heap.size w w' ∧ TreesAt w' (fun b => w.heap.size ≤ b) x.kids B ∧ x.kids.len ≤ cap
/-- A text's reading, its parts named. -/
theorem text_out (A : Option Addr) (cap : Nat) (bs : List Nat) (w : World) (hA : BytesAt w w.heap.size A bs) (hcap : bs.length ≤ cap) {x : Nd} {k q : Int} (h : parseS bs = .ok x ∧ k = 0 ∧ q = 0 ∨ parseS bs = .error (k, q) ∧ x = zeroTree) :
    Calls Try.prog 17 #[.slice A bs.length cap] w (OutB x k q w) := by
  refine (text_go07 A cap bs w hA hcap).mono (fun e w' ho => ?_)
  rcases h with ⟨h, rfl, rfl⟩ | ⟨h, rfl⟩
  · rw [h] at ho
    obtain ⟨B, cap, h1, h2, h3, h4⟩ := ho
    exact ⟨B, cap, h1, h2, h4, h3⟩
  · rw [h] at ho
    exact ⟨none, 0, by rw [← zeroN_nd]; exact ho.1, ho.2, trivial, Nat.le_refl _⟩

set_option maxHeartbeats 4000000 in
theorem br_bad1 (A : Option Addr) (cap : Nat) (xs : List Nat) (A' : Option Addr) (cap' : Nat) (bs : List Nat) (w : World) {x y : Nd} {k1 q1 k2 q2 : Int} (hk : (k1 != 0) = true)
    (HF1 : Hid (Calls Try.prog 17 #[.slice A xs.length cap] w (OutB x k1 q1 w))) (HF2 : Hid (∀ w1, Below w.heap.size w w1 → Calls Try.prog 17 #[.slice A' bs.length cap'] w1 (OutB y k2 q2 w1))) :
    Calls Try.prog 7 #[.slice A xs.length cap, .slice A' bs.length cap'] w fun e w' => e = .returned (.bool true) ∧ Below w.heap.size w w' := by
  go_enter Try.func7, Try.ntmps7
  go_wp2_with fail
  refine HF1.out.mono ?_
  rintro e w1 ⟨B1, c1, rfl, hb1, ht1, hc1⟩
  obtain ⟨hx1, he1, hb1'⟩ := kept_new c1 k1 q1 ht1 hc1
  have HX1 := Lib.hid hx1
  have HE1 := Lib.hid he1
  have HB1 := Lib.hid (hb1.trans (hb1'.mono hb1.size))
  clear hb1 ht1 hx1 he1 hb1' HF1
  unfold ndV
  dsimp only
  go_wp2_with fail
  refine (HF2.out _ HB1.out).mono ?_
  rintro e w2 ⟨B2, c2, rfl, hb2, ht2, hc2⟩
  obtain ⟨hx2, he2, hb2'⟩ := kept_new c2 k2 q2 ht2 hc2
  have hbb := hb2.trans (hb2'.mono hb2.size)
  have HX2 := Lib.hid hx2
  have HE2 := Lib.hid he2
  have HX12 := Lib.hid (HX1.out.below hbb)
  have HE12 := Lib.hid (HE1.out.below hbb)
  have HB2 := Lib.hid (HB1.out.trans (hbb.mono HB1.out.size))
  have heb2 := HE12.out.below (Below.refl _ _)
  obtain ⟨d0, d1, _, _⟩ := Blk.c2 ((HE1.out.below hb2))
  have hl1 : w1.heap.size < w2.heap.size := (HX1.out.below hb2).1.lt
  have hl2 : w1.heap.size + 1 < w2.heap.size := Blk.lt (HE1.out.below hb2)
  clear hb2 ht2 hx2 he2 hb2' hbb HF2 HB1 HX1 HE1 heb2
  unfold ndV
  dsimp only

  go_wp2_with fail
  refine (knows07_go _).mono ?_
  rintro e w9 ⟨rfl, hb9⟩
  have HB9 := Lib.hid (HB2.out.trans (hb9.mono HB2.out.size))
  clear hb9
  dsimp only
  go_wp2
  go_light
  go_ret
  exact ⟨rfl, HB9.out⟩

set_option maxHeartbeats 4000000 in
theorem br_bad2 (A : Option Addr) (cap : Nat) (xs : List Nat) (A' : Option Addr) (cap' : Nat) (bs : List Nat) (w : World) {x y : Nd} {q1 k2 q2 : Int} (hk : (k2 != 0) = true)
    (HF1 : Hid (Calls Try.prog 17 #[.slice A xs.length cap] w (OutB x 0 q1 w))) (HF2 : Hid (∀ w1, Below w.heap.size w w1 → Calls Try.prog 17 #[.slice A' bs.length cap'] w1 (OutB y k2 q2 w1))) :
    Calls Try.prog 7 #[.slice A xs.length cap, .slice A' bs.length cap'] w fun e w' => e = .returned (.bool true) ∧ Below w.heap.size w w' := by
  go_enter Try.func7, Try.ntmps7
  go_wp2_with fail
  refine HF1.out.mono ?_
  rintro e w1 ⟨B1, c1, rfl, hb1, ht1, hc1⟩
  obtain ⟨hx1, he1, hb1'⟩ := kept_new c1 0 q1 ht1 hc1
  have HX1 := Lib.hid hx1
  have HE1 := Lib.hid he1
  have HB1 := Lib.hid (hb1.trans (hb1'.mono hb1.size))
  clear hb1 ht1 hx1 he1 hb1' HF1
  unfold ndV
  dsimp only
  go_wp2_with fail
  refine (HF2.out _ HB1.out).mono ?_
  rintro e w2 ⟨B2, c2, rfl, hb2, ht2, hc2⟩
  obtain ⟨hx2, he2, hb2'⟩ := kept_new c2 k2 q2 ht2 hc2
  have hbb := hb2.trans (hb2'.mono hb2.size)
  have HX2 := Lib.hid hx2
  have HE2 := Lib.hid he2
  have HX12 := Lib.hid (HX1.out.below hbb)
  have HE12 := Lib.hid (HE1.out.below hbb)
  have HB2 := Lib.hid (HB1.out.trans (hbb.mono HB1.out.size))
  have heb2 := HE12.out.below (Below.refl _ _)
  obtain ⟨d0, d1, _, _⟩ := Blk.c2 ((HE1.out.below hb2))
  have hl1 : w1.heap.size < w2.heap.size := (HX1.out.below hb2).1.lt
  have hl2 : w1.heap.size + 1 < w2.heap.size := Blk.lt (HE1.out.below hb2)
  clear hb2 ht2 hx2 he2 hb2' hbb HF2 HB1 HX1 HE1 heb2
  unfold ndV
  dsimp only

  go_wp2_with fail
  refine (knows07_go _).mono ?_
  rintro e w9 ⟨rfl, hb9⟩
  have HB9 := Lib.hid (HB2.out.trans (hb9.mono HB2.out.size))
  clear hb9
  dsimp only
  go_wp2
  go_light
  go_ret
  exact ⟨rfl, HB9.out⟩

set_option maxHeartbeats 4000000 in
theorem br_long (A : Option Addr) (cap : Nat) (xs : List Nat) (A' : Option Addr) (cap' : Nat) (bs : List Nat) (w : World) {x y : Nd} {q1 q2 : Int} (hl : 500 < xs.length + bs.length) (hl1 : xs.length ≤ 140737488355328) (hl2 : bs.length ≤ 140737488355328)
    (HF1 : Hid (Calls Try.prog 17 #[.slice A xs.length cap] w (OutB x 0 q1 w))) (HF2 : Hid (∀ w1, Below w.heap.size w w1 → Calls Try.prog 17 #[.slice A' bs.length cap'] w1 (OutB y 0 q2 w1))) :
    Calls Try.prog 7 #[.slice A xs.length cap, .slice A' bs.length cap'] w fun e w' => e = .returned (.bool true) ∧ Below w.heap.size w w' := by
  have hsum : IntKind.i64.wrap ((xs.length : Int) + (bs.length : Int)) = (xs.length : Int) + (bs.length : Int) := IntWalk.i64_in _ (by omega)
  have hgt : (500 : Int) < (xs.length : Int) + (bs.length : Int) := by omega
  go_enter Try.func7, Try.ntmps7
  go_wp2_with fail
  refine HF1.out.mono ?_
  rintro e w1 ⟨B1, c1, rfl, hb1, ht1, hc1⟩
  obtain ⟨hx1, he1, hb1'⟩ := kept_new c1 0 q1 ht1 hc1
  have HX1 := Lib.hid hx1
  have HE1 := Lib.hid he1
  have HB1 := Lib.hid (hb1.trans (hb1'.mono hb1.size))
  clear hb1 ht1 hx1 he1 hb1' HF1
  unfold ndV
  dsimp only
  go_wp2_with fail
  refine (HF2.out _ HB1.out).mono ?_
  rintro e w2 ⟨B2, c2, rfl, hb2, ht2, hc2⟩
  obtain ⟨hx2, he2, hb2'⟩ := kept_new c2 0 q2 ht2 hc2
  have hbb := hb2.trans (hb2'.mono hb2.size)
  have HX2 := Lib.hid hx2
  have HE2 := Lib.hid he2
  have HX12 := Lib.hid (HX1.out.below hbb)
  have HE12 := Lib.hid (HE1.out.below hbb)
  have HB2 := Lib.hid (HB1.out.trans (hbb.mono HB1.out.size))
  have heb2 := HE12.out.below (Below.refl _ _)
  obtain ⟨d0, d1, _, _⟩ := Blk.c2 ((HE1.out.below hb2))
  have hl1 : w1.heap.size < w2.heap.size := (HX1.out.below hb2).1.lt
  have hl2 : w1.heap.size + 1 < w2.heap.size := Blk.lt (HE1.out.below hb2)
  clear hb2 ht2 hx2 he2 hb2' hbb HF2 HB1 HX1 HE1 heb2
  unfold ndV
  dsimp only

  go_wp2_with fail
  refine (knows07_go _).mono ?_
  rintro e w9 ⟨rfl, hb9⟩
  have HB9 := Lib.hid (HB2.out.trans (hb9.mono HB2.out.size))
  clear hb9
  dsimp only
  go_wp2
  go_light
  go_ret
  exact ⟨rfl, HB9.out⟩

/-- The bytes of the first text, of both. -/
def oneB (xs : List Nat) : List Nat := [40] ++ xs ++ [41]
def bothB (xs bs : List Nat) : List Nat := [40] ++ xs ++ [41] ++ ([124, 40] ++ bs ++ [41])
theorem oneB_str (xs : List Nat) : strOf (oneB xs) = ((⟨#[40]⟩ : ByteArray) ++ strOf xs) ++ ⟨#[41]⟩ := by
  unfold oneB
  rw [show (⟨#[40]⟩ : ByteArray) = strOf [40] from rfl, show (⟨#[41]⟩ : ByteArray) = strOf [41] from rfl, strOf_append, strOf_append]
theorem bothB_str (xs bs : List Nat) : strOf (bothB xs bs) = (((((⟨#[40]⟩ : ByteArray) ++ strOf xs) ++ ⟨#[41]⟩) ++ ⟨#[124, 40]⟩) ++ strOf bs) ++ ⟨#[41]⟩ := by
  unfold bothB
  rw [show (⟨#[40]⟩ : ByteArray) = strOf [40] from rfl, show (⟨#[41]⟩ : ByteArray) = strOf [41] from rfl, show (⟨#[124, 40]⟩ : ByteArray) = strOf [124, 40] from rfl, strOf_append, strOf_append, strOf_append, strOf_append, strOf_append]
  simp
theorem oneB_lt {xs : List Nat} (h : ∀ x ∈ xs, x < 256) : ∀ x ∈ oneB xs, x < 256 := le_br h (by simp) (by simp)
theorem bothB_lt {xs bs : List Nat} (h : ∀ x ∈ xs, x < 256) (h2 : ∀ x ∈ bs, x < 256) : ∀ x ∈ bothB xs bs, x < 256 := fun z hz => by
  unfold bothB at hz
  simp at hz
  rcases hz with rfl | hz | rfl | rfl | rfl | hz | rfl
  · decide
  · exact h z hz
  · decide
  · decide
  · decide
  · exact h2 z hz
  · decide
set_option maxHeartbeats 4000000 in
theorem br_deep1 (A : Option Addr) (cap : Nat) (xs : List Nat) (A' : Option Addr) (cap' : Nat) (bs : List Nat) (w : World) {x y z v : Nd} {q1 q2 q3 k4 q4 : Int} (hl : xs.length + bs.length ≤ 500)
    (HA1 : Hid (BytesAt w w.heap.size A xs)) (HA2 : Hid (BytesAt w w.heap.size A' bs))
    (HF1 : Hid (Calls Try.prog 17 #[.slice A xs.length cap] w (OutB x 0 q1 w))) (HF2 : Hid (∀ w1, Below w.heap.size w w1 → Calls Try.prog 17 #[.slice A' bs.length cap'] w1 (OutB y 0 q2 w1)))
    (HF3 : Hid (∀ W A C, BytesAt W W.heap.size A (oneB xs) → (oneB xs).length ≤ C → Calls Try.prog 17 #[.slice A (oneB xs).length C] W (OutB z 17 q3 W)))
    (HF4 : Hid (∀ W A C, BytesAt W W.heap.size A (bothB xs bs) → (bothB xs bs).length ≤ C → Calls Try.prog 17 #[.slice A (bothB xs bs).length C] W (OutB v k4 q4 W))) :
    Calls Try.prog 7 #[.slice A xs.length cap, .slice A' bs.length cap'] w fun e w' => e = .returned (.bool true) ∧ Below w.heap.size w w' := by
  have hsum : IntKind.i64.wrap ((xs.length : Int) + (bs.length : Int)) = (xs.length : Int) + (bs.length : Int) := IntWalk.i64_in _ (by omega)
  have hle : ¬ (500 : Int) < (xs.length : Int) + (bs.length : Int) := by omega
  go_enter Try.func7, Try.ntmps7
  go_wp2_with fail
  refine HF1.out.mono ?_
  rintro e w1 ⟨B1, c1, rfl, hb1, ht1, hc1⟩
  obtain ⟨hx1, he1, hb1'⟩ := kept_new c1 0 q1 ht1 hc1
  have HX1 := Lib.hid hx1
  have HE1 := Lib.hid he1
  have HB1 := Lib.hid (hb1.trans (hb1'.mono hb1.size))
  clear hb1 ht1 hx1 he1 hb1' HF1
  unfold ndV
  dsimp only
  go_wp2_with fail
  refine (HF2.out _ HB1.out).mono ?_
  rintro e w2 ⟨B2, c2, rfl, hb2, ht2, hc2⟩
  obtain ⟨hx2, he2, hb2'⟩ := kept_new c2 0 q2 ht2 hc2
  have hbb := hb2.trans (hb2'.mono hb2.size)
  have HX2 := Lib.hid hx2
  have HE2 := Lib.hid he2
  have HX12 := Lib.hid (HX1.out.below hbb)
  have HE12 := Lib.hid (HE1.out.below hbb)
  have HB2 := Lib.hid (HB1.out.trans (hbb.mono HB1.out.size))
  have heb2 := HE12.out.below (Below.refl _ _)
  obtain ⟨d0, d1, _, _⟩ := Blk.c2 ((HE1.out.below hb2))
  have hl1 : w1.heap.size < w2.heap.size := (HX1.out.below hb2).1.lt
  have hl2 : w1.heap.size + 1 < w2.heap.size := Blk.lt (HE1.out.below hb2)
  clear hb2 ht2 hx2 he2 hb2' hbb HF2 HB1 HX1 HE1 heb2
  unfold ndV
  dsimp only

  go_upto_region 5 with fail
  unfold ndA at HX2 HE2 HX12 HE12 HB2
  clear d0 d1
  generalize hW2 : (w2.alloc (.cells #[.int .i64 y.kind, .int .u64 ((word y.set.testBit 0 : Nat) : Int), .int .u64 ((word y.set.testBit 1 : Nat) : Int), .int .u64 ((word y.set.testBit 2 : Nat) : Int), .int .u64 ((word y.set.testBit 3 : Nat) : Int), .slice B2 y.kids.len c2, .int .i64 y.lo, .int .i64 y.hi] 42)).alloc (.cells #[.int .i64 0, .int .i64 q2] 26) = W2 at *
  clear hW2
  have hcv1 := bytes_str cap (HA1.out.below HB2.out)
  obtain ⟨C3, W3, k3', hA3, hb3, hC3⟩ := conv_text W2 (oneB xs) (oneB_lt HA1.out.1) (by unfold oneB; simp; omega)
  rw [oneB_str] at k3'
  have HG3 := Lib.hid (HF3.out W3 _ C3 hA3 hC3)
  have HX3 := Lib.hid (HX12.out.below (hb3.mono (Nat.le_refl _)))
  have HY3 := Lib.hid (HX2.out.below hb3)
  have HB3 := Lib.hid (HB2.out.trans (hb3.mono HB2.out.size))
  generalize (oneB xs).length = m3 at *
  clear hA3 hb3 hC3 HF3 HX2 HX12 HE2 HE12 HB2
  go_wp2_with fail
  clear hcv1 k3'
  refine HG3.out.mono ?_
  rintro e w3 ⟨B3, c3, rfl, hb3, ht3, hc3⟩
  obtain ⟨hx3, he3, hb3'⟩ := kept_new c3 17 q3 ht3 hc3
  have hbb := hb3.trans (hb3'.mono hb3.size)
  have HZ4 := Lib.hid hx3
  have HE4 := Lib.hid he3
  have HX4 := Lib.hid (HX3.out.below hbb)
  have HY4 := Lib.hid (HY3.out.below hbb)
  have HB4 := Lib.hid (HB3.out.trans (hbb.mono HB3.out.size))
  have hl3 : w2.heap.size < w3.heap.size := (HY3.out.below hb3).1.lt
  clear hb3 ht3 hx3 he3 hb3' hbb HG3 HX3 HY3 HB3
  unfold ndV
  dsimp only
  go_upto_region 7 with fail
  unfold ndA at HX4 HY4 HZ4 HE4 HB4
  generalize hW4 : (w3.alloc (.cells #[.int .i64 z.kind, .int .u64 ((word z.set.testBit 0 : Nat) : Int), .int .u64 ((word z.set.testBit 1 : Nat) : Int), .int .u64 ((word z.set.testBit 2 : Nat) : Int), .int .u64 ((word z.set.testBit 3 : Nat) : Int), .slice B3 z.kids.len c3, .int .i64 z.lo, .int .i64 z.hi] 42)).alloc (.cells #[.int .i64 17, .int .i64 q3] 26) = W4 at *
  clear hW4
  have hcv2 := bytes_str cap' (HA2.out.below HB4.out)
  obtain ⟨C5, W5, k5', hA5, hb5, hC5⟩ := conv_text W4 (bothB xs bs) (bothB_lt HA1.out.1 HA2.out.1) (by unfold bothB; simp; omega)
  rw [bothB_str] at k5'
  have HG5 := Lib.hid (HF4.out W5 _ C5 hA5 hC5)
  have HX5 := Lib.hid (HX4.out.below hb5)
  have HY5 := Lib.hid (HY4.out.below hb5)
  have HZ5 := Lib.hid (HZ4.out.below hb5)
  have HE5 := Lib.hid (HE4.out.below hb5)
  have HB5 := Lib.hid (HB4.out.trans (hb5.mono HB4.out.size))
  generalize (bothB xs bs).length = m5 at *
  clear hA5 hb5 hC5 HF4 HX4 HY4 HZ4 HE4 HB4 HA1 HA2
  go_wp2_with fail
  clear hcv2 k5'
  refine HG5.out.mono ?_
  rintro e w6 ⟨B6, c6, rfl, hb6, ht6, hc6⟩
  obtain ⟨hx6, he6, hb6'⟩ := kept_new c6 k4 q4 ht6 hc6
  have hbb := hb6.trans (hb6'.mono hb6.size)
  have HV7 := Lib.hid hx6
  have HH7 := Lib.hid he6
  have HX7 := Lib.hid (HX5.out.below hbb)
  have HY7 := Lib.hid (HY5.out.below hbb)
  have HZ7 := Lib.hid (HZ5.out.below hbb)
  have HE7 := Lib.hid (HE5.out.below hbb)
  have HB2 := Lib.hid (HB5.out.trans (hbb.mono HB5.out.size))
  obtain ⟨d0, d1, _, _⟩ := Blk.c2 (HE5.out.below hb6)
  have hl4 : w3.heap.size < w6.heap.size := (HZ5.out.below hb6).1.lt
  have hl5 : w3.heap.size + 1 < w6.heap.size := Blk.lt (HE5.out.below hb6)
  clear hb6 ht6 hx6 he6 hb6' hbb HG5 HX5 HY5 HZ5 HE5 HB5
  unfold ndV
  dsimp only

  go_wp2_with fail
  refine (knows07_go _).mono ?_
  rintro e w9 ⟨rfl, hb9⟩
  have HB9 := Lib.hid (HB2.out.trans (hb9.mono HB2.out.size))
  clear hb9
  dsimp only
  go_wp2
  go_light
  go_ret
  exact ⟨rfl, HB9.out⟩

set_option maxHeartbeats 4000000 in
theorem br_deep2 (A : Option Addr) (cap : Nat) (xs : List Nat) (A' : Option Addr) (cap' : Nat) (bs : List Nat) (w : World) {x y z v : Nd} {q1 q2 q3 q4 : Int} (hl : xs.length + bs.length ≤ 500)
    (HA1 : Hid (BytesAt w w.heap.size A xs)) (HA2 : Hid (BytesAt w w.heap.size A' bs))
    (HF1 : Hid (Calls Try.prog 17 #[.slice A xs.length cap] w (OutB x 0 q1 w))) (HF2 : Hid (∀ w1, Below w.heap.size w w1 → Calls Try.prog 17 #[.slice A' bs.length cap'] w1 (OutB y 0 q2 w1)))
    (HF3 : Hid (∀ W A C, BytesAt W W.heap.size A (oneB xs) → (oneB xs).length ≤ C → Calls Try.prog 17 #[.slice A (oneB xs).length C] W (OutB z 0 q3 W)))
    (HF4 : Hid (∀ W A C, BytesAt W W.heap.size A (bothB xs bs) → (bothB xs bs).length ≤ C → Calls Try.prog 17 #[.slice A (bothB xs bs).length C] W (OutB v 17 q4 W))) :
    Calls Try.prog 7 #[.slice A xs.length cap, .slice A' bs.length cap'] w fun e w' => e = .returned (.bool true) ∧ Below w.heap.size w w' := by
  have hsum : IntKind.i64.wrap ((xs.length : Int) + (bs.length : Int)) = (xs.length : Int) + (bs.length : Int) := IntWalk.i64_in _ (by omega)
  have hle : ¬ (500 : Int) < (xs.length : Int) + (bs.length : Int) := by omega
  go_enter Try.func7, Try.ntmps7
  go_wp2_with fail
  refine HF1.out.mono ?_
  rintro e w1 ⟨B1, c1, rfl, hb1, ht1, hc1⟩
  obtain ⟨hx1, he1, hb1'⟩ := kept_new c1 0 q1 ht1 hc1
  have HX1 := Lib.hid hx1
  have HE1 := Lib.hid he1
  have HB1 := Lib.hid (hb1.trans (hb1'.mono hb1.size))
  clear hb1 ht1 hx1 he1 hb1' HF1
  unfold ndV
  dsimp only
  go_wp2_with fail
  refine (HF2.out _ HB1.out).mono ?_
  rintro e w2 ⟨B2, c2, rfl, hb2, ht2, hc2⟩
  obtain ⟨hx2, he2, hb2'⟩ := kept_new c2 0 q2 ht2 hc2
  have hbb := hb2.trans (hb2'.mono hb2.size)
  have HX2 := Lib.hid hx2
  have HE2 := Lib.hid he2
  have HX12 := Lib.hid (HX1.out.below hbb)
  have HE12 := Lib.hid (HE1.out.below hbb)
  have HB2 := Lib.hid (HB1.out.trans (hbb.mono HB1.out.size))
  have heb2 := HE12.out.below (Below.refl _ _)
  obtain ⟨d0, d1, _, _⟩ := Blk.c2 ((HE1.out.below hb2))
  have hl1 : w1.heap.size < w2.heap.size := (HX1.out.below hb2).1.lt
  have hl2 : w1.heap.size + 1 < w2.heap.size := Blk.lt (HE1.out.below hb2)
  clear hb2 ht2 hx2 he2 hb2' hbb HF2 HB1 HX1 HE1 heb2
  unfold ndV
  dsimp only

  go_upto_region 5 with fail
  unfold ndA at HX2 HE2 HX12 HE12 HB2
  clear d0 d1
  generalize hW2 : (w2.alloc (.cells #[.int .i64 y.kind, .int .u64 ((word y.set.testBit 0 : Nat) : Int), .int .u64 ((word y.set.testBit 1 : Nat) : Int), .int .u64 ((word y.set.testBit 2 : Nat) : Int), .int .u64 ((word y.set.testBit 3 : Nat) : Int), .slice B2 y.kids.len c2, .int .i64 y.lo, .int .i64 y.hi] 42)).alloc (.cells #[.int .i64 0, .int .i64 q2] 26) = W2 at *
  clear hW2
  have hcv1 := bytes_str cap (HA1.out.below HB2.out)
  obtain ⟨C3, W3, k3', hA3, hb3, hC3⟩ := conv_text W2 (oneB xs) (oneB_lt HA1.out.1) (by unfold oneB; simp; omega)
  rw [oneB_str] at k3'
  have HG3 := Lib.hid (HF3.out W3 _ C3 hA3 hC3)
  have HX3 := Lib.hid (HX12.out.below (hb3.mono (Nat.le_refl _)))
  have HY3 := Lib.hid (HX2.out.below hb3)
  have HB3 := Lib.hid (HB2.out.trans (hb3.mono HB2.out.size))
  generalize (oneB xs).length = m3 at *
  clear hA3 hb3 hC3 HF3 HX2 HX12 HE2 HE12 HB2
  go_wp2_with fail
  clear hcv1 k3'
  refine HG3.out.mono ?_
  rintro e w3 ⟨B3, c3, rfl, hb3, ht3, hc3⟩
  obtain ⟨hx3, he3, hb3'⟩ := kept_new c3 0 q3 ht3 hc3
  have hbb := hb3.trans (hb3'.mono hb3.size)
  have HZ4 := Lib.hid hx3
  have HE4 := Lib.hid he3
  have HX4 := Lib.hid (HX3.out.below hbb)
  have HY4 := Lib.hid (HY3.out.below hbb)
  have HB4 := Lib.hid (HB3.out.trans (hbb.mono HB3.out.size))
  have hl3 : w2.heap.size < w3.heap.size := (HY3.out.below hb3).1.lt
  clear hb3 ht3 hx3 he3 hb3' hbb HG3 HX3 HY3 HB3
  unfold ndV
  dsimp only
  go_upto_region 7 with fail
  unfold ndA at HX4 HY4 HZ4 HE4 HB4
  generalize hW4 : (w3.alloc (.cells #[.int .i64 z.kind, .int .u64 ((word z.set.testBit 0 : Nat) : Int), .int .u64 ((word z.set.testBit 1 : Nat) : Int), .int .u64 ((word z.set.testBit 2 : Nat) : Int), .int .u64 ((word z.set.testBit 3 : Nat) : Int), .slice B3 z.kids.len c3, .int .i64 z.lo, .int .i64 z.hi] 42)).alloc (.cells #[.int .i64 0, .int .i64 q3] 26) = W4 at *
  clear hW4
  have hcv2 := bytes_str cap' (HA2.out.below HB4.out)
  obtain ⟨C5, W5, k5', hA5, hb5, hC5⟩ := conv_text W4 (bothB xs bs) (bothB_lt HA1.out.1 HA2.out.1) (by unfold bothB; simp; omega)
  rw [bothB_str] at k5'
  have HG5 := Lib.hid (HF4.out W5 _ C5 hA5 hC5)
  have HX5 := Lib.hid (HX4.out.below hb5)
  have HY5 := Lib.hid (HY4.out.below hb5)
  have HZ5 := Lib.hid (HZ4.out.below hb5)
  have HE5 := Lib.hid (HE4.out.below hb5)
  have HB5 := Lib.hid (HB4.out.trans (hb5.mono HB4.out.size))
  generalize (bothB xs bs).length = m5 at *
  clear hA5 hb5 hC5 HF4 HX4 HY4 HZ4 HE4 HB4 HA1 HA2
  go_wp2_with fail
  clear hcv2 k5'
  refine HG5.out.mono ?_
  rintro e w6 ⟨B6, c6, rfl, hb6, ht6, hc6⟩
  obtain ⟨hx6, he6, hb6'⟩ := kept_new c6 17 q4 ht6 hc6
  have hbb := hb6.trans (hb6'.mono hb6.size)
  have HV7 := Lib.hid hx6
  have HH7 := Lib.hid he6
  have HX7 := Lib.hid (HX5.out.below hbb)
  have HY7 := Lib.hid (HY5.out.below hbb)
  have HZ7 := Lib.hid (HZ5.out.below hbb)
  have HE7 := Lib.hid (HE5.out.below hbb)
  have HB2 := Lib.hid (HB5.out.trans (hbb.mono HB5.out.size))
  obtain ⟨d0, d1, _, _⟩ := Blk.c2 (HE5.out.below hb6)
  have hl4 : w3.heap.size < w6.heap.size := (HZ5.out.below hb6).1.lt
  have hl5 : w3.heap.size + 1 < w6.heap.size := Blk.lt (HE5.out.below hb6)
  clear hb6 ht6 hx6 he6 hb6' hbb HG5 HX5 HY5 HZ5 HE5 HB5
  unfold ndV
  dsimp only

  go_wp2_with fail
  refine (knows07_go _).mono ?_
  rintro e w9 ⟨rfl, hb9⟩
  have HB9 := Lib.hid (HB2.out.trans (hb9.mono HB2.out.size))
  clear hb9
  dsimp only
  go_wp2
  go_light
  go_ret
  exact ⟨rfl, HB9.out⟩

theorem tsame_eq {z x : Nd} (h : z = x) (P P' : Nat → Prop) (B B' : Option Addr) (cap cap' : Nat) (w : World) (hlen : x.size ≤ 4611686018427387903) (ht : TreesAt w P z.kids B) (ht' : TreesAt w P' x.kids B') :
    Calls Try.prog 19 #[ndV z B cap, ndV x B' cap'] w fun e w' => e = .returned (.bool true) ∧ Below w.heap.size w w' := by
  subst h
  exact tsame_go z P P' B B' cap cap' w hlen ht ht'
def rowC (x : Nd) (B : Option Addr) (cap : Nat) (y : Nd) (B' : Option Addr) (cap' : Nat) : Array Value :=
  #[.int .i64 x.kind, .int .u64 ((word x.set.testBit 0 : Nat) : Int), .int .u64 ((word x.set.testBit 1 : Nat) : Int), .int .u64 ((word x.set.testBit 2 : Nat) : Int), .int .u64 ((word x.set.testBit 3 : Nat) : Int), .slice B x.kids.len cap, .int .i64 x.lo, .int .i64 x.hi,
    .int .i64 y.kind, .int .u64 ((word y.set.testBit 0 : Nat) : Int), .int .u64 ((word y.set.testBit 1 : Nat) : Int), .int .u64 ((word y.set.testBit 2 : Nat) : Int), .int .u64 ((word y.set.testBit 3 : Nat) : Int), .slice B' y.kids.len cap', .int .i64 y.lo, .int .i64 y.hi]
theorem row_two {W : World} {g : Nat} {x y : Nd} {B B' : Option Addr} {cap cap' : Nat} (h : Blk W g 42 (rowC x B cap y B' cap')) (hc : x.kids.len ≤ cap) (hc' : y.kids.len ≤ cap') (ht : TreesAt W (fun _ => True) x.kids B) (ht' : TreesAt W (fun _ => True) y.kids B') :
    TreesAt W (fun _ => True) (Trees.of [x, y]) (some ⟨g, 0, none⟩) :=
  ⟨g, 0, B, cap, rfl, trivial, hc, ⟨h.cell 0, h.cell 1, h.cell 2, h.cell 3, h.cell 4, h.cell 5, h.cell 6, h.cell 7⟩, ht, g, 8, B', cap', rfl, trivial, hc', ⟨h.cell 8, h.cell 9, h.cell 10, h.cell 11, h.cell 12, h.cell 13, h.cell 14, h.cell 15⟩, ht', trivial⟩
set_option maxHeartbeats 16000000 in
theorem br_main (A : Option Addr) (cap : Nat) (xs : List Nat) (A' : Option Addr) (cap' : Nat) (bs : List Nat) (w : World) {x y z v : Nd} {q1 q2 q3 q4 : Int} (hl : xs.length + bs.length ≤ 500) (hxs : x.size ≤ 2049) (hys : y.size ≤ 2049) (HZV : Hid (z = x ∧ v = ⟨5, 0, Trees.of [x, y], 0, 0⟩))
    (HA1 : Hid (BytesAt w w.heap.size A xs)) (HA2 : Hid (BytesAt w w.heap.size A' bs))
    (HF1 : Hid (Calls Try.prog 17 #[.slice A xs.length cap] w (OutB x 0 q1 w))) (HF2 : Hid (∀ w1, Below w.heap.size w w1 → Calls Try.prog 17 #[.slice A' bs.length cap'] w1 (OutB y 0 q2 w1)))
    (HF3 : Hid (∀ W A C, BytesAt W W.heap.size A (oneB xs) → (oneB xs).length ≤ C → Calls Try.prog 17 #[.slice A (oneB xs).length C] W (OutB z 0 q3 W)))
    (HF4 : Hid (∀ W A C, BytesAt W W.heap.size A (bothB xs bs) → (bothB xs bs).length ≤ C → Calls Try.prog 17 #[.slice A (bothB xs bs).length C] W (OutB v 0 q4 W))) :
    Calls Try.prog 7 #[.slice A xs.length cap, .slice A' bs.length cap'] w fun e w' => e = .returned (.bool true) ∧ Below w.heap.size w w' := by
  have hsum : IntKind.i64.wrap ((xs.length : Int) + (bs.length : Int)) = (xs.length : Int) + (bs.length : Int) := IntWalk.i64_in _ (by omega)
  have hle : ¬ (500 : Int) < (xs.length : Int) + (bs.length : Int) := by omega
  go_enter Try.func7, Try.ntmps7
  go_wp2_with fail
  refine HF1.out.mono ?_
  rintro e w1 ⟨B1, c1, rfl, hb1, ht1, hc1⟩
  obtain ⟨hx1, he1, hb1'⟩ := kept_new c1 0 q1 ht1 hc1
  have HX1 := Lib.hid hx1
  have HE1 := Lib.hid he1
  have HB1 := Lib.hid (hb1.trans (hb1'.mono hb1.size))
  clear hb1 ht1 hx1 he1 hb1' HF1
  unfold ndV
  dsimp only
  go_wp2_with fail
  refine (HF2.out _ HB1.out).mono ?_
  rintro e w2 ⟨B2, c2, rfl, hb2, ht2, hc2⟩
  obtain ⟨hx2, he2, hb2'⟩ := kept_new c2 0 q2 ht2 hc2
  have hbb := hb2.trans (hb2'.mono hb2.size)
  have HX2 := Lib.hid hx2
  have HE2 := Lib.hid he2
  have HX12 := Lib.hid (HX1.out.below hbb)
  have HE12 := Lib.hid (HE1.out.below hbb)
  have HB2 := Lib.hid (HB1.out.trans (hbb.mono HB1.out.size))
  have heb2 := HE12.out.below (Below.refl _ _)
  obtain ⟨d0, d1, _, _⟩ := Blk.c2 ((HE1.out.below hb2))
  have hl1 : w1.heap.size < w2.heap.size := (HX1.out.below hb2).1.lt
  have hl2 : w1.heap.size + 1 < w2.heap.size := Blk.lt (HE1.out.below hb2)
  clear hb2 ht2 hx2 he2 hb2' hbb HF2 HB1 HX1 HE1 heb2
  unfold ndV
  dsimp only

  go_upto_region 5 with fail
  unfold ndA at HX2 HE2 HX12 HE12 HB2
  clear d0 d1
  generalize hW2 : (w2.alloc (.cells #[.int .i64 y.kind, .int .u64 ((word y.set.testBit 0 : Nat) : Int), .int .u64 ((word y.set.testBit 1 : Nat) : Int), .int .u64 ((word y.set.testBit 2 : Nat) : Int), .int .u64 ((word y.set.testBit 3 : Nat) : Int), .slice B2 y.kids.len c2, .int .i64 y.lo, .int .i64 y.hi] 42)).alloc (.cells #[.int .i64 0, .int .i64 q2] 26) = W2 at *
  clear hW2
  have hcv1 := bytes_str cap (HA1.out.below HB2.out)
  obtain ⟨C3, W3, k3', hA3, hb3, hC3⟩ := conv_text W2 (oneB xs) (oneB_lt HA1.out.1) (by unfold oneB; simp; omega)
  rw [oneB_str] at k3'
  have HG3 := Lib.hid (HF3.out W3 _ C3 hA3 hC3)
  have HX3 := Lib.hid (HX12.out.below (hb3.mono (Nat.le_refl _)))
  have HY3 := Lib.hid (HX2.out.below hb3)
  have HB3 := Lib.hid (HB2.out.trans (hb3.mono HB2.out.size))
  generalize (oneB xs).length = m3 at *
  clear hA3 hb3 hC3 HF3 HX2 HX12 HE2 HE12 HB2
  go_wp2_with fail
  clear hcv1 k3'
  refine HG3.out.mono ?_
  rintro e w3 ⟨B3, c3, rfl, hb3, ht3, hc3⟩
  obtain ⟨hx3, he3, hb3'⟩ := kept_new c3 0 q3 ht3 hc3
  have hbb := hb3.trans (hb3'.mono hb3.size)
  have HZ4 := Lib.hid hx3
  have HE4 := Lib.hid he3
  have HX4 := Lib.hid (HX3.out.below hbb)
  have HY4 := Lib.hid (HY3.out.below hbb)
  have HB4 := Lib.hid (HB3.out.trans (hbb.mono HB3.out.size))
  have hl3 : w2.heap.size < w3.heap.size := (HY3.out.below hb3).1.lt
  clear hb3 ht3 hx3 he3 hb3' hbb HG3 HX3 HY3 HB3
  unfold ndV
  dsimp only
  go_upto_region 7 with fail
  unfold ndA at HX4 HY4 HZ4 HE4 HB4
  generalize hW4 : (w3.alloc (.cells #[.int .i64 z.kind, .int .u64 ((word z.set.testBit 0 : Nat) : Int), .int .u64 ((word z.set.testBit 1 : Nat) : Int), .int .u64 ((word z.set.testBit 2 : Nat) : Int), .int .u64 ((word z.set.testBit 3 : Nat) : Int), .slice B3 z.kids.len c3, .int .i64 z.lo, .int .i64 z.hi] 42)).alloc (.cells #[.int .i64 0, .int .i64 q3] 26) = W4 at *
  clear hW4
  have hcv2 := bytes_str cap' (HA2.out.below HB4.out)
  obtain ⟨C5, W5, k5', hA5, hb5, hC5⟩ := conv_text W4 (bothB xs bs) (bothB_lt HA1.out.1 HA2.out.1) (by unfold bothB; simp; omega)
  rw [bothB_str] at k5'
  have HG5 := Lib.hid (HF4.out W5 _ C5 hA5 hC5)
  have HX5 := Lib.hid (HX4.out.below hb5)
  have HY5 := Lib.hid (HY4.out.below hb5)
  have HZ5 := Lib.hid (HZ4.out.below hb5)
  have HE5 := Lib.hid (HE4.out.below hb5)
  have HB5 := Lib.hid (HB4.out.trans (hb5.mono HB4.out.size))
  generalize (bothB xs bs).length = m5 at *
  clear hA5 hb5 hC5 HF4 HX4 HY4 HZ4 HE4 HB4 HA1 HA2
  go_wp2_with fail
  clear hcv2 k5'
  refine HG5.out.mono ?_
  rintro e w6 ⟨B6, c6, rfl, hb6, ht6, hc6⟩
  obtain ⟨hx6, he6, hb6'⟩ := kept_new c6 0 q4 ht6 hc6
  have hbb := hb6.trans (hb6'.mono hb6.size)
  have HV7 := Lib.hid hx6
  have HH7 := Lib.hid he6
  have HX7 := Lib.hid (HX5.out.below hbb)
  have HY7 := Lib.hid (HY5.out.below hbb)
  have HZ7 := Lib.hid (HZ5.out.below hbb)
  have HE7 := Lib.hid (HE5.out.below hbb)
  have HB2 := Lib.hid (HB5.out.trans (hbb.mono HB5.out.size))
  obtain ⟨d0, d1, _, _⟩ := Blk.c2 (HE5.out.below hb6)
  have hl4 : w3.heap.size < w6.heap.size := (HZ5.out.below hb6).1.lt
  have hl5 : w3.heap.size + 1 < w6.heap.size := Blk.lt (HE5.out.below hb6)
  clear hb6 ht6 hx6 he6 hb6' hbb HG5 HX5 HY5 HZ5 HE5 HB5
  unfold ndV
  dsimp only

  go_upto_region 11 with fail
  unfold ndA at HX7 HY7 HZ7 HE7 HH7 HV7 HB2
  clear d0 d1
  generalize hW7 : (w6.alloc (.cells #[.int .i64 v.kind, .int .u64 ((word v.set.testBit 0 : Nat) : Int), .int .u64 ((word v.set.testBit 1 : Nat) : Int), .int .u64 ((word v.set.testBit 2 : Nat) : Int), .int .u64 ((word v.set.testBit 3 : Nat) : Int), .slice B6 v.kids.len c6, .int .i64 v.lo, .int .i64 v.hi] 42)).alloc (.cells #[.int .i64 0, .int .i64 q4] 26) = W7 at *
  clear hW7
  have x0 : W7.cell? ⟨w1.heap.size, 0, none⟩ = some (.int .i64 x.kind) := HX7.out.1.cell 0
  have x1 : W7.cell? ⟨w1.heap.size, 1, none⟩ = some (.int .u64 ((word x.set.testBit 0 : Nat) : Int)) := HX7.out.1.cell 1
  have x2 : W7.cell? ⟨w1.heap.size, 2, none⟩ = some (.int .u64 ((word x.set.testBit 1 : Nat) : Int)) := HX7.out.1.cell 2
  have x3 : W7.cell? ⟨w1.heap.size, 3, none⟩ = some (.int .u64 ((word x.set.testBit 2 : Nat) : Int)) := HX7.out.1.cell 3
  have x4 : W7.cell? ⟨w1.heap.size, 4, none⟩ = some (.int .u64 ((word x.set.testBit 3 : Nat) : Int)) := HX7.out.1.cell 4
  have x5 : W7.cell? ⟨w1.heap.size, 5, none⟩ = some (.slice B1 x.kids.len c1) := HX7.out.1.cell 5
  have x6 : W7.cell? ⟨w1.heap.size, 6, none⟩ = some (.int .i64 x.lo) := HX7.out.1.cell 6
  have x7 : W7.cell? ⟨w1.heap.size, 7, none⟩ = some (.int .i64 x.hi) := HX7.out.1.cell 7
  have y0 : W7.cell? ⟨w2.heap.size, 0, none⟩ = some (.int .i64 y.kind) := HY7.out.1.cell 0
  have y1 : W7.cell? ⟨w2.heap.size, 1, none⟩ = some (.int .u64 ((word y.set.testBit 0 : Nat) : Int)) := HY7.out.1.cell 1
  have y2 : W7.cell? ⟨w2.heap.size, 2, none⟩ = some (.int .u64 ((word y.set.testBit 1 : Nat) : Int)) := HY7.out.1.cell 2
  have y3 : W7.cell? ⟨w2.heap.size, 3, none⟩ = some (.int .u64 ((word y.set.testBit 2 : Nat) : Int)) := HY7.out.1.cell 3
  have y4 : W7.cell? ⟨w2.heap.size, 4, none⟩ = some (.int .u64 ((word y.set.testBit 3 : Nat) : Int)) := HY7.out.1.cell 4
  have y5 : W7.cell? ⟨w2.heap.size, 5, none⟩ = some (.slice B2 y.kids.len c2) := HY7.out.1.cell 5
  have y6 : W7.cell? ⟨w2.heap.size, 6, none⟩ = some (.int .i64 y.lo) := HY7.out.1.cell 6
  have y7 : W7.cell? ⟨w2.heap.size, 7, none⟩ = some (.int .i64 y.hi) := HY7.out.1.cell 7
  have z0 : W7.cell? ⟨w3.heap.size, 0, none⟩ = some (.int .i64 z.kind) := HZ7.out.1.cell 0
  have z1 : W7.cell? ⟨w3.heap.size, 1, none⟩ = some (.int .u64 ((word z.set.testBit 0 : Nat) : Int)) := HZ7.out.1.cell 1
  have z2 : W7.cell? ⟨w3.heap.size, 2, none⟩ = some (.int .u64 ((word z.set.testBit 1 : Nat) : Int)) := HZ7.out.1.cell 2
  have z3 : W7.cell? ⟨w3.heap.size, 3, none⟩ = some (.int .u64 ((word z.set.testBit 2 : Nat) : Int)) := HZ7.out.1.cell 3
  have z4 : W7.cell? ⟨w3.heap.size, 4, none⟩ = some (.int .u64 ((word z.set.testBit 3 : Nat) : Int)) := HZ7.out.1.cell 4
  have z5 : W7.cell? ⟨w3.heap.size, 5, none⟩ = some (.slice B3 z.kids.len c3) := HZ7.out.1.cell 5
  have z6 : W7.cell? ⟨w3.heap.size, 6, none⟩ = some (.int .i64 z.lo) := HZ7.out.1.cell 6
  have z7 : W7.cell? ⟨w3.heap.size, 7, none⟩ = some (.int .i64 z.hi) := HZ7.out.1.cell 7
  have v0 : W7.cell? ⟨w6.heap.size, 0, none⟩ = some (.int .i64 v.kind) := HV7.out.1.cell 0
  have v1 : W7.cell? ⟨w6.heap.size, 1, none⟩ = some (.int .u64 ((word v.set.testBit 0 : Nat) : Int)) := HV7.out.1.cell 1
  have v2 : W7.cell? ⟨w6.heap.size, 2, none⟩ = some (.int .u64 ((word v.set.testBit 1 : Nat) : Int)) := HV7.out.1.cell 2
  have v3 : W7.cell? ⟨w6.heap.size, 3, none⟩ = some (.int .u64 ((word v.set.testBit 2 : Nat) : Int)) := HV7.out.1.cell 3
  have v4 : W7.cell? ⟨w6.heap.size, 4, none⟩ = some (.int .u64 ((word v.set.testBit 3 : Nat) : Int)) := HV7.out.1.cell 4
  have v5 : W7.cell? ⟨w6.heap.size, 5, none⟩ = some (.slice B6 v.kids.len c6) := HV7.out.1.cell 5
  have v6 : W7.cell? ⟨w6.heap.size, 6, none⟩ = some (.int .i64 v.lo) := HV7.out.1.cell 6
  have v7 : W7.cell? ⟨w6.heap.size, 7, none⟩ = some (.int .i64 v.hi) := HV7.out.1.cell 7
  obtain ⟨d0, d1, _, _⟩ := Blk.c2 HE7.out
  obtain ⟨f0, f1, _, _⟩ := Blk.c2 HH7.out
  have l1 := HX7.out.1.lt
  have l2 := HY7.out.1.lt
  have l3 := HZ7.out.1.lt
  have l4 := HV7.out.1.lt
  have l5 := Blk.lt HE7.out
  have l6 := Blk.lt HH7.out
  have HS1 := Lib.hid (tsame_eq (z := z) (x := x) HZV.out.1 (fun _ => True) (fun _ => True) B3 B1 c3 c1 W7.drew (by omega) HZ7.out.2.1.drew HX7.out.2.1.drew)
  unfold ndV at HS1
  have HD := Lib.hid (show Below W7.heap.size W7 W7.drew from (Below.refl _ _).drew)
  refine wp_region_held_drew (S := fun w' => (∀ b o, b < W7.heap.size → w'.cell? ⟨b, o, none⟩ = W7.cell? ⟨b, o, none⟩) ∧ Since W7.heap.size W7 w') (by kernel_rfl) (since_start (Nat.le_refl _)) (fun hHeld => ?_)
  refine wpAnyH_take (i := 0) (oi := _) (v := ?_) rfl (by kernel_rfl) (by kernel_rfl) (by kernel_rfl) (fun _ _ _ h => h) (Or.inl ⟨by kernel_rfl, ?_⟩) (by assumption) ?_
  rotate_left
  · intro w hSw
    try dsimp only at hSw
    go_simp
    try (with_reducible rfl)
  try simp only [Act.put, List.getElem_toArray, List.getElem_cons_zero, List.getElem_cons_succ, List.setIfInBounds_toArray, List.set_cons_zero, List.set_cons_succ]
  refine wpAnyH_take (i := 1) (oi := _) (v := ?_) rfl (by kernel_rfl) (by kernel_rfl) (by kernel_rfl) (fun _ _ _ h => h) (Or.inl ⟨by kernel_rfl, ?_⟩) (by assumption) ?_
  rotate_left
  · intro w hSw
    try dsimp only at hSw
    go_simp
    try (with_reducible rfl)
  try simp only [Act.put, List.getElem_toArray, List.getElem_cons_zero, List.getElem_cons_succ, List.setIfInBounds_toArray, List.set_cons_zero, List.set_cons_succ]
  refine wpAnyH_take (i := 2) (oi := _) (v := ?_) rfl (by kernel_rfl) (by kernel_rfl) (by kernel_rfl) (fun _ _ _ h => h) (Or.inl ⟨by kernel_rfl, ?_⟩) (by assumption) ?_
  rotate_left
  · intro w hSw
    try dsimp only at hSw
    go_simp
    try (with_reducible rfl)
  try simp only [Act.put, List.getElem_toArray, List.getElem_cons_zero, List.getElem_cons_succ, List.setIfInBounds_toArray, List.set_cons_zero, List.set_cons_succ]
  refine wpAnyH_take (i := 3) (oi := _) (v := ?_) rfl (by kernel_rfl) (by kernel_rfl) (by kernel_rfl) (fun _ _ _ h => h) (Or.inl ⟨by kernel_rfl, ?_⟩) (by assumption) ?_
  rotate_left
  · intro w hSw
    try dsimp only at hSw
    go_simp
    try (with_reducible rfl)
  try simp only [Act.put, List.getElem_toArray, List.getElem_cons_zero, List.getElem_cons_succ, List.setIfInBounds_toArray, List.set_cons_zero, List.set_cons_succ]
  refine wpAnyH_take (i := 4) (oi := _) (v := ?_) rfl (by kernel_rfl) (by kernel_rfl) (by kernel_rfl) (fun _ _ _ h => h) (Or.inl ⟨by kernel_rfl, ?_⟩) (by assumption) ?_
  rotate_left
  · intro w hSw
    try dsimp only at hSw
    go_simp
    try (with_reducible rfl)
  try simp only [Act.put, List.getElem_toArray, List.getElem_cons_zero, List.getElem_cons_succ, List.setIfInBounds_toArray, List.set_cons_zero, List.set_cons_succ]
  refine wpAnyH_take (i := 5) (oi := _) (v := ?_) rfl (by kernel_rfl) (by kernel_rfl) (by kernel_rfl) (fun _ _ _ h => h) (Or.inl ⟨by kernel_rfl, ?_⟩) (by assumption) ?_
  rotate_left
  · intro w hSw
    try dsimp only at hSw
    go_simp
    try (with_reducible rfl)
  try simp only [Act.put, List.getElem_toArray, List.getElem_cons_zero, List.getElem_cons_succ, List.setIfInBounds_toArray, List.set_cons_zero, List.set_cons_succ]
  refine wpAnyH_take (i := 6) (oi := _) (v := ?_) rfl (by kernel_rfl) (by kernel_rfl) (by kernel_rfl) (fun _ _ _ h => h) (Or.inl ⟨by kernel_rfl, ?_⟩) (by assumption) ?_
  rotate_left
  · intro w hSw
    try dsimp only at hSw
    go_simp
    try (with_reducible rfl)
  try simp only [Act.put, List.getElem_toArray, List.getElem_cons_zero, List.getElem_cons_succ, List.setIfInBounds_toArray, List.set_cons_zero, List.set_cons_succ]
  refine wpAnyH_take (i := 7) (oi := _) (v := ?_) rfl (by kernel_rfl) (by kernel_rfl) (by kernel_rfl) (fun _ _ _ h => h) (Or.inl ⟨by kernel_rfl, ?_⟩) (by assumption) ?_
  rotate_left
  · intro w hSw
    try dsimp only at hSw
    go_simp
    try (with_reducible rfl)
  try simp only [Act.put, List.getElem_toArray, List.getElem_cons_zero, List.getElem_cons_succ, List.setIfInBounds_toArray, List.set_cons_zero, List.set_cons_succ]
  refine wpAnyH_take (i := 8) (oi := _) (v := ?_) rfl (by kernel_rfl) (by kernel_rfl) (by kernel_rfl) (fun _ _ _ h => h) (Or.inl ⟨by kernel_rfl, ?_⟩) (by assumption) ?_
  rotate_left
  · intro w hSw
    try dsimp only at hSw
    go_simp
    try (with_reducible rfl)
  try simp only [Act.put, List.getElem_toArray, List.getElem_cons_zero, List.getElem_cons_succ, List.setIfInBounds_toArray, List.set_cons_zero, List.set_cons_succ]
  refine wpAnyH_take (i := 9) (oi := _) (v := ?_) rfl (by kernel_rfl) (by kernel_rfl) (by kernel_rfl) (fun _ _ _ h => h) (Or.inl ⟨by kernel_rfl, ?_⟩) (by assumption) ?_
  rotate_left
  · intro w hSw
    try dsimp only at hSw
    go_simp
    try (with_reducible rfl)
  try simp only [Act.put, List.getElem_toArray, List.getElem_cons_zero, List.getElem_cons_succ, List.setIfInBounds_toArray, List.set_cons_zero, List.set_cons_succ]
  refine wpAnyH_take (i := 10) (oi := _) (v := ?_) rfl (by kernel_rfl) (by kernel_rfl) (by kernel_rfl) (fun _ _ _ h => h) (Or.inl ⟨by kernel_rfl, ?_⟩) (by assumption) ?_
  rotate_left
  · intro w hSw
    try dsimp only at hSw
    go_simp
    try (with_reducible rfl)
  try simp only [Act.put, List.getElem_toArray, List.getElem_cons_zero, List.getElem_cons_succ, List.setIfInBounds_toArray, List.set_cons_zero, List.set_cons_succ]
  refine wpAnyH_ready (rs := [11]) (by kernel_rfl) (by simp) ?_
  refine AllReadyH.cons (o := _) rfl (fun K hK => ?_) AllReadyH.nil
  go_simp
  go_at_call 19
  refine HS1.out.mono ?_
  rintro e w8 ⟨rfl, hb8⟩
  have HB8 := Lib.hid (HD.out.trans (hb8.mono HD.out.size))
  refine hK.out _ _ (since_step (by assumption) (by assumption)) (fun hS => ?_)
  clear hK K hHeld hb8
  try simp only [Act.put, List.getElem_toArray, List.getElem_cons_zero, List.getElem_cons_succ, List.setIfInBounds_toArray, List.set_cons_zero, List.set_cons_succ]
  refine wpAnyH_take (i := 12) (oi := _) (v := ?_) rfl (by kernel_rfl) (by kernel_rfl) (by kernel_rfl) (fun _ _ _ h => h) (Or.inl ⟨by kernel_rfl, ?_⟩) (by assumption) ?_
  rotate_left
  · intro w hSw
    try dsimp only at hSw
    go_simp
    try (with_reducible rfl)
  try simp only [Act.put, List.getElem_toArray, List.getElem_cons_zero, List.getElem_cons_succ, List.setIfInBounds_toArray, List.set_cons_zero, List.set_cons_succ]
  refine wpAnyH_take (i := 13) (oi := _) (v := ?_) rfl (by kernel_rfl) (by kernel_rfl) (by kernel_rfl) (fun _ _ _ h => h) (Or.inl ⟨by kernel_rfl, ?_⟩) (by assumption) ?_
  rotate_left
  · intro w hSw
    try dsimp only at hSw
    go_simp
    try (with_reducible rfl)
  try simp only [Act.put, List.getElem_toArray, List.getElem_cons_zero, List.getElem_cons_succ, List.setIfInBounds_toArray, List.set_cons_zero, List.set_cons_succ]
  refine wpAnyH_take (i := 14) (oi := _) (v := ?_) rfl (by kernel_rfl) (by kernel_rfl) (by kernel_rfl) (fun _ _ _ h => h) (Or.inl ⟨by kernel_rfl, ?_⟩) (by assumption) ?_
  rotate_left
  · intro w hSw
    try dsimp only at hSw
    go_simp
    try (with_reducible rfl)
  try simp only [Act.put, List.getElem_toArray, List.getElem_cons_zero, List.getElem_cons_succ, List.setIfInBounds_toArray, List.set_cons_zero, List.set_cons_succ]
  refine wpAnyH_take (i := 15) (oi := _) (v := ?_) rfl (by kernel_rfl) (by kernel_rfl) (by kernel_rfl) (fun _ _ _ h => h) (Or.inl ⟨by kernel_rfl, ?_⟩) (by assumption) ?_
  rotate_left
  · intro w hSw
    try dsimp only at hSw
    go_simp
    try (with_reducible rfl)
  try simp only [Act.put, List.getElem_toArray, List.getElem_cons_zero, List.getElem_cons_succ, List.setIfInBounds_toArray, List.set_cons_zero, List.set_cons_succ]
  refine wpAnyH_take (i := 16) (oi := _) (v := ?_) rfl (by kernel_rfl) (by kernel_rfl) (by kernel_rfl) (fun _ _ _ h => h) (Or.inl ⟨by kernel_rfl, ?_⟩) (by assumption) ?_
  rotate_left
  · intro w hSw
    try dsimp only at hSw
    go_simp
    try (with_reducible rfl)
  try simp only [Act.put, List.getElem_toArray, List.getElem_cons_zero, List.getElem_cons_succ, List.setIfInBounds_toArray, List.set_cons_zero, List.set_cons_succ]
  have hb9 : Below w8.heap.size w8 (w8.alloc (.cells (rowC x B1 c1 y B2 c2) 42)) := (Below.refl _ _).alloc (Nat.le_refl _) _
  have HB9 := Lib.hid (HB8.out.trans (hb9.mono HB8.out.size))
  have hsx : (Trees.of [x, y]).size ≤ 4098 := by unfold Nd.size at hxs hys; simp [Trees.of, Trees.size]; omega
  have HA9 := Lib.hid (talt_go (Trees.of [x, y]) (fun _ => True) (some ⟨w8.heap.size, 0, none⟩) 2 _ rfl (by omega) (row_two (Blk.new w8 42 (rowC x B1 c1 y B2 c2)) hc1 hc2 (HX7.out.2.1.below HB9.out) (HY7.out.2.1.below HB9.out)))
  unfold rowC at HA9 HB9 hb9
  have hN := Lib.hid hb9
  refine wpAnyH_ready (rs := [17]) (by kernel_rfl) (by simp) ?_
  refine AllReadyH.cons (o := _) rfl (fun K hK => ?_) AllReadyH.nil
  go_simp
  refine hK.out _ _ (since_step hS hN.out) (fun hS2 => ?_)
  clear hK K hS hb9
  try simp only [Act.put, List.getElem_toArray, List.getElem_cons_zero, List.getElem_cons_succ, List.setIfInBounds_toArray, List.set_cons_zero, List.set_cons_succ]
  refine wpAnyH_ready (rs := [18]) (by kernel_rfl) (by simp) ?_
  refine AllReadyH.cons (o := _) rfl (fun K hK => ?_) AllReadyH.nil
  go_simp
  go_at_call 20
  refine HA9.out.mono ?_
  rintro e w10 ⟨B10, c10, rfl, hb10, hc10, ht10⟩
  have HB10 := Lib.hid (HB9.out.trans (hb10.mono HB9.out.size))
  have HV10 := Lib.hid (HV7.out.below HB10.out)
  have HS2 := Lib.hid (tsame_eq HZV.out.2 (fun _ => True) _ B6 B10 c6 c10 w10 (by unfold Nd.size; dsimp only; omega) HV10.out.2.1 ht10)
  refine hK.out _ _ (since_step hS2 hb10) (fun hS3 => ?_)
  clear hK K hS2 hb10 ht10 HA9 hN
  try simp only [Act.put, List.getElem_toArray, List.getElem_cons_zero, List.getElem_cons_succ, List.setIfInBounds_toArray, List.set_cons_zero, List.set_cons_succ]
  refine wpAnyH_ready (rs := [19]) (by kernel_rfl) (by simp) ?_
  refine AllReadyH.cons (o := _) rfl (fun K hK => ?_) AllReadyH.nil
  unfold ndV at HS2 ⊢
  go_simp
  go_at_call 19
  refine HS2.out.mono ?_
  rintro e w11 ⟨rfl, hb11⟩
  have HB11 := Lib.hid (HB10.out.trans (hb11.mono HB10.out.size))
  refine hK.out _ _ (since_step hS3 hb11) (fun hS4 => ?_)
  clear hK K hS3 hb11 HS2
  try simp only [Act.put, List.getElem_toArray, List.getElem_cons_zero, List.getElem_cons_succ, List.setIfInBounds_toArray, List.set_cons_zero, List.set_cons_succ]
  refine wpAnyH_take (i := 20) (oi := _) (v := ?_) rfl (by kernel_rfl) (by kernel_rfl) (by kernel_rfl) (fun _ _ _ h => h) (Or.inl ⟨by kernel_rfl, ?_⟩) (by assumption) ?_
  rotate_left
  · intro w hSw
    try dsimp only at hSw
    go_simp
    try (with_reducible rfl)
  try simp only [Act.put, List.getElem_toArray, List.getElem_cons_zero, List.getElem_cons_succ, List.setIfInBounds_toArray, List.set_cons_zero, List.set_cons_succ]
  refine wpAnyH_take (i := 21) (oi := _) (v := ?_) rfl (by kernel_rfl) (by kernel_rfl) (by kernel_rfl) (fun _ _ _ h => h) (Or.inl ⟨by kernel_rfl, ?_⟩) (by assumption) ?_
  rotate_left
  · intro w hSw
    try dsimp only at hSw
    go_simp
    try (with_reducible rfl)
  try simp only [Act.put, List.getElem_toArray, List.getElem_cons_zero, List.getElem_cons_succ, List.setIfInBounds_toArray, List.set_cons_zero, List.set_cons_succ]
  refine wpAnyH_ready (rs := [22]) (by kernel_rfl) (by simp) ?_
  refine AllReadyH.cons (o := _) rfl (fun K hK => ?_) AllReadyH.nil
  go_simp
  go_at_call 16
  refine (knows07_go _).mono ?_
  rintro e w12 ⟨rfl, hb12⟩
  refine hK.out _ _ (since_step hS4 hb12) (fun hS5 => ?_)
  clear hK K hS4 hb12
  try simp only [Act.put, List.getElem_toArray, List.getElem_cons_zero, List.getElem_cons_succ, List.setIfInBounds_toArray, List.set_cons_zero, List.set_cons_succ]
  refine wpAnyH_take (i := 23) (oi := _) (v := ?_) rfl (by kernel_rfl) (by kernel_rfl) (by kernel_rfl) (fun _ _ _ h => h) (Or.inl ⟨by kernel_rfl, ?_⟩) (by assumption) ?_
  rotate_left
  · intro w hSw
    try dsimp only at hSw
    go_simp
    try (with_reducible rfl)
  try simp only [Act.put, List.getElem_toArray, List.getElem_cons_zero, List.getElem_cons_succ, List.setIfInBounds_toArray, List.set_cons_zero, List.set_cons_succ]
  refine wpAnyH_take (i := 24) (oi := _) (v := ?_) rfl (by kernel_rfl) (by kernel_rfl) (by kernel_rfl) (fun _ _ _ h => h) (Or.inl ⟨by kernel_rfl, ?_⟩) (by assumption) ?_
  rotate_left
  · intro w hSw
    try dsimp only at hSw
    go_simp
    try (with_reducible rfl)
  try simp only [Act.put, List.getElem_toArray, List.getElem_cons_zero, List.getElem_cons_succ, List.setIfInBounds_toArray, List.set_cons_zero, List.set_cons_succ]
  refine wpAnyH_done (by kernel_rfl) ?_ _
  have HB12 := Lib.hid (HB2.out.trans (hS5.2.1.mono HB2.out.size))
  clear hS5
  go_wp2
  go_light
  go_ret
  exact ⟨rfl, HB12.out⟩
end Go.Proofs.Ytkelkadalikibaa
namespace Go.Proofs.Ytkelkadalikibaa
open Go.RowKit
set_option linter.unusedSimpArgs false
set_option linter.unusedVariables false
set_option maxRecDepth 100000

theorem lexemesS_kindB {L : List Lex} {k q : Int} (h : lexemesS L = .error (k, q)) : k ≠ 0 := by
  unfold lexemesS at h
  split at h
  · simp at h; omega
  rename_i hall
  split at h
  · have h1 := Except.error.inj h
    simp at h1
    omega
  · have hk : Kinds L := fun y hy => by
      have h1 : rightS y = true := by
        have : L.all rightS = true := by simpa using hall
        exact List.all_eq_true.1 this y hy
      have := rightS_cases h1
      omega
    have hw := read_wrong L hk
    split at h
    · rename_i e he
      rw [he] at hw
      have h1 := Except.error.inj h
      subst h1
      exact wrongS_kind L [] false _ _ hw
    · cases h
theorem parseS_kindB {bs : List Nat} (hb : ∀ x ∈ bs, x < 256) {k q : Int} (h : parseS bs = .error (k, q)) : k ≠ 0 := by
  unfold parseS at h
  cases hs : splitS bs with
  | error e =>
    rw [hs] at h
    have h1 := Except.error.inj h
    subst h1
    exact splitS_kind hb hs
  | ok L =>
    rw [hs] at h
    exact lexemesS_kindB h
/-- Whatever a text's reading gives. -/
theorem text_any (bs : List Nat) : ∃ (x : Nd) (k q : Int), parseS bs = .ok x ∧ k = 0 ∧ q = 0 ∨ parseS bs = .error (k, q) ∧ x = zeroTree := by
  cases h : parseS bs with
  | ok x => exact ⟨x, 0, 0, .inl ⟨rfl, rfl, rfl⟩⟩
  | error e => exact ⟨zeroTree, e.1, e.2, .inr ⟨rfl, rfl⟩⟩
theorem brackets_go (A : Option Addr) (cap : Nat) (xs : List Nat) (A' : Option Addr) (cap' : Nat) (bs : List Nat) (w : World) (hA1 : BytesAt w w.heap.size A xs) (hc1 : xs.length ≤ cap) (hA2 : BytesAt w w.heap.size A' bs) (hc2 : bs.length ≤ cap') :
    Calls Try.prog 7 #[.slice A xs.length cap, .slice A' bs.length cap'] w fun e w' => e = .returned (.bool true) ∧ Below w.heap.size w w' := by
  have T2 : ∀ {y : Nd} {k q : Int}, parseS bs = .ok y ∧ k = 0 ∧ q = 0 ∨ parseS bs = .error (k, q) ∧ y = zeroTree → Hid (∀ w1, Below w.heap.size w w1 → Calls Try.prog 17 #[.slice A' bs.length cap'] w1 (OutB y k q w1)) :=
    fun h => Lib.hid (fun w1 hb => text_out A' cap' bs w1 ((hA2.below hb).more hb.size) hc2 h)
  cases hx : parseS xs with
  | error e =>
    obtain ⟨k, q⟩ := e
    obtain ⟨y, k2, q2, h2⟩ := text_any bs
    exact br_bad1 A cap xs A' cap' bs w (by simpa using parseS_kindB hA1.1 hx) (Lib.hid (text_out A cap xs w hA1 hc1 (.inr ⟨hx, rfl⟩))) (T2 h2)
  | ok x =>
    have H1 := Lib.hid (text_out A cap xs w hA1 hc1 (x := x) (k := 0) (q := 0) (.inl ⟨hx, rfl, rfl⟩))
    cases hy : parseS bs with
    | error e =>
      obtain ⟨k, q⟩ := e
      exact br_bad2 A cap xs A' cap' bs w (by simpa using parseS_kindB hA2.1 hy) H1 (T2 (.inr ⟨hy, rfl⟩))
    | ok y =>
      have H2 := T2 (y := y) (k := 0) (q := 0) (.inl ⟨hy, rfl, rfl⟩)
      by_cases hl : xs.length + bs.length ≤ 500
      · have o1 := brack_one hA1.1 hx (by omega)
        have o2 := brack_two hA1.1 hA2.1 hx hy hl
        have T3 : ∀ {z : Nd} {k q : Int}, parseS (oneB xs) = .ok z ∧ k = 0 ∧ q = 0 ∨ parseS (oneB xs) = .error (k, q) ∧ z = zeroTree → Hid (∀ W A C, BytesAt W W.heap.size A (oneB xs) → (oneB xs).length ≤ C → Calls Try.prog 17 #[.slice A (oneB xs).length C] W (OutB z k q W)) :=
          fun h => Lib.hid (fun W A C hA hC => text_out A C (oneB xs) W hA hC h)
        have T4 : ∀ {z : Nd} {k q : Int}, parseS (bothB xs bs) = .ok z ∧ k = 0 ∧ q = 0 ∨ parseS (bothB xs bs) = .error (k, q) ∧ z = zeroTree → Hid (∀ W A C, BytesAt W W.heap.size A (bothB xs bs) → (bothB xs bs).length ≤ C → Calls Try.prog 17 #[.slice A (bothB xs bs).length C] W (OutB z k q W)) :=
          fun h => Lib.hid (fun W A C hA hC => text_out A C (bothB xs bs) W hA hC h)
        rcases o1 with o1 | ⟨a1, o1⟩
        · rcases o2 with o2 | ⟨a2, o2⟩
          · exact br_main (z := x) (v := ⟨5, 0, Trees.of [x, y], 0, 0⟩) A cap xs A' cap' bs w hl (parseS_size hx) (parseS_size hy) (Lib.hid ⟨rfl, rfl⟩) (Lib.hid hA1) (Lib.hid hA2) H1 H2 (T3 (.inl ⟨o1, rfl, rfl⟩)) (T4 (.inl ⟨o2, rfl, rfl⟩))
          · exact br_deep2 A cap xs A' cap' bs w hl (Lib.hid hA1) (Lib.hid hA2) H1 H2 (T3 (z := x) (.inl ⟨o1, rfl, rfl⟩)) (T4 (.inr ⟨o2, rfl⟩))
        · obtain ⟨v, k4, q4, h4⟩ := text_any (bothB xs bs)
          exact br_deep1 A cap xs A' cap' bs w hl (Lib.hid hA1) (Lib.hid hA2) H1 H2 (T3 (.inr ⟨o1, rfl⟩)) (T4 h4)
      · exact br_long A cap xs A' cap' bs w (by omega) hA1.2.1 hA2.2.1 H1 H2

end Go.Proofs.Ytkelkadalikibaa
