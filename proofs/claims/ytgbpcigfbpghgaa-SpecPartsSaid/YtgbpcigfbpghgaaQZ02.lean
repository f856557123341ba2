/-
  The tree of lexemes, by a plain reading from the left; and what is wrong first. No program in sight. Rules as lines of a text: names, lines, and the whole, by a plain reading. No program in sight. Two texts of rules, one behind the other: the plain law. No program in sight. Rules in memory: rows of names and trees; the names that a map knows. The contract of the reference's Has (chapter 09). The parser in memory; the contracts of peek, next and fail. The contract of the parser's posts; a row of one node. The contracts of flat, tree.Bytes, tree.Empty; what the parser's functions give.
-/
import Derived.Maps.Own
import Derived.Maps.Views
import Derived.Deep.Light
import Derived.LoopTactic
import Derived.RegionTactic
import Derived.BigRegion
import Derived.Test.YtgbpcigfbpghgaaQZ01
namespace Go.Proofs.Ytgbpcigfbpghgaa
set_option linter.unusedSimpArgs false
set_option linter.unusedVariables false
set_option maxRecDepth 100000

/-- A set as a number. -/
def maskOf (p : Nat → Bool) : Nat := ofBits p 256
theorem word_mask (p : Nat → Bool) (i : Nat) (h : i < 4) : word (maskOf p).testBit i = word p i :=
  word_congr (fun j hj => by unfold maskOf; rw [testBit_ofBits]; simp; omega)
theorem maskOf_lt (p : Nat → Bool) : maskOf p < 2 ^ 256 := ofBits_lt p 256

def leafN (s : Nat) : Nd := ⟨3, s, .nil, 0, 0⟩
def emptyN : Nd := ⟨2, 0, .nil, 0, 0⟩
def isPost (k : Int) : Bool := decide (5 ≤ k) && decide (k ≤ 8)
/-- A piece, with a sign behind it. -/
def postN (y : Lex) (x : Nd) : Nd := if y.kind = 8 then ⟨9, 0, Trees.of [x], y.lo, y.hi⟩ else ⟨y.kind + 1, 0, Trees.of [x], 0, 0⟩
def flatN (k : Int) : List Nd → Nd
  | [x] => x
  | l => ⟨k, 0, Trees.of l, 0, 0⟩
def partN : List Nd → Nd
  | [] => emptyN
  | l => flatN 4 l
def postsG : Nd → List Lex → Nd × List Lex
  | x, [] => (x, [])
  | x, y :: L => if isPost y.kind = true then postsG (postN y x) L else (x, y :: L)
mutual
/-- Parts with bars between, behind those of acc; what is left. -/
def altG : Nat → List Int → List Nd → List Lex → Except Wrong (Nd × List Lex)
  | 0, _, _, _ => .error (0, 0)
  | n + 1, op, acc, L => match piecesG n op [] L with
    | .error e => .error e
    | .ok (ps, R) => match R with
      | [] => .ok (flatN 5 (acc ++ [partN ps]), [])
      | c :: R' => if c.kind = 4 then altG n op (acc ++ [partN ps]) R' else .ok (flatN 5 (acc ++ [partN ps]), c :: R')
/-- Pieces, one behind the other, behind those of acc. -/
def piecesG : Nat → List Int → List Nd → List Lex → Except Wrong (List Nd × List Lex)
  | 0, _, _, _ => .error (0, 0)
  | n + 1, op, acc, L => match atomG n op L with
    | .error e => .error e
    | .ok (none, R) => .ok (acc, R)
    | .ok (some x, R) => piecesG n op (acc ++ [(postsG x R).1]) (postsG x R).2
/-- A set, or what stands between brackets; none: a part ends here. -/
def atomG : Nat → List Int → List Lex → Except Wrong (Option Nd × List Lex)
  | 0, _, _ => .error (0, 0)
  | _ + 1, _, [] => .ok (none, [])
  | n + 1, op, y :: L =>
    if y.kind = 1 then .ok (some (leafN (maskOf y.set)), L)
    else if y.kind = 2 then
      if op.length = 64 then .error (17, y.place) else match altG n (y.place :: op) [] L with
      | .error e => .error e
      | .ok (x, R) => match R with
        | [] => .error (11, y.place)
        | c :: R' => if c.kind = 3 then .ok (some x, R') else .error (11, y.place)
    else if isPost y.kind = true then .error (5, y.place)
    else if y.kind = 3 ∧ op.length = 0 then .error (12, y.place)
    else .ok (none, y :: L)
end
/-- Behind a part. -/
def tailG (n : Nat) (op : List Int) (acc : List Nd) : List Lex → Except Wrong (Nd × List Lex)
  | [] => .ok (flatN 5 acc, [])
  | c :: R' => if c.kind = 4 then altG n op acc R' else .ok (flatN 5 acc, c :: R')
theorem tailG_nil (n : Nat) (op : List Int) (acc : List Nd) : tailG n op acc [] = .ok (flatN 5 acc, []) := rfl
theorem tailG_bar {n : Nat} {op : List Int} {acc : List Nd} {c : Lex} {R : List Lex} (h : c.kind = 4) : tailG n op acc (c :: R) = altG n op acc R := if_pos h
theorem tailG_stop {n : Nat} {op : List Int} {acc : List Nd} {c : Lex} {R : List Lex} (h : c.kind ≠ 4) : tailG n op acc (c :: R) = .ok (flatN 5 acc, c :: R) := if_neg h
theorem altG_step (n : Nat) (op : List Int) (acc : List Nd) (L : List Lex) : altG (n + 1) op acc L = match piecesG n op [] L with
    | .error e => .error e
    | .ok (ps, R) => tailG n op (acc ++ [partN ps]) R := by
  rw [altG]
  cases h : piecesG n op [] L with
  | error e => rfl
  | ok r =>
    obtain ⟨ps, R⟩ := r
    cases R <;> rfl
theorem altG_bad {n : Nat} {op : List Int} {acc : List Nd} {L : List Lex} {e : Wrong} (h : piecesG n op [] L = .error e) : altG (n + 1) op acc L = .error e := by rw [altG_step, h]
theorem altG_ok {n : Nat} {op : List Int} {acc : List Nd} {L : List Lex} {ps : List Nd} {R : List Lex} (h : piecesG n op [] L = .ok (ps, R)) : altG (n + 1) op acc L = tailG n op (acc ++ [partN ps]) R := by rw [altG_step, h]
theorem piecesG_bad {n : Nat} {op : List Int} {acc : List Nd} {L : List Lex} {e : Wrong} (h : atomG n op L = .error e) : piecesG (n + 1) op acc L = .error e := by rw [piecesG, h]
theorem piecesG_end {n : Nat} {op : List Int} {acc : List Nd} {L R : List Lex} (h : atomG n op L = .ok (none, R)) : piecesG (n + 1) op acc L = .ok (acc, R) := by rw [piecesG, h]
theorem piecesG_go {n : Nat} {op : List Int} {acc : List Nd} {L R : List Lex} {x : Nd} (h : atomG n op L = .ok (some x, R)) : piecesG (n + 1) op acc L = piecesG n op (acc ++ [(postsG x R).1]) (postsG x R).2 := by rw [piecesG, h]
theorem atomG_nil (n : Nat) (op : List Int) : atomG (n + 1) op [] = .ok (none, []) := by rw [atomG]
theorem atomG_set {n : Nat} {op : List Int} {y : Lex} {L : List Lex} (h : y.kind = 1) : atomG (n + 1) op (y :: L) = .ok (some (leafN (maskOf y.set)), L) := by rw [atomG, if_pos h]
theorem atomG_deep {n : Nat} {op : List Int} {y : Lex} {L : List Lex} (h : y.kind = 2) (h2 : op.length = 64) : atomG (n + 1) op (y :: L) = .error (17, y.place) := by rw [atomG, if_neg (by omega), if_pos h, if_pos h2]
theorem atomG_in {n : Nat} {op : List Int} {y : Lex} {L : List Lex} {e : Wrong} (h : y.kind = 2) (h2 : op.length ≠ 64) (h3 : altG n (y.place :: op) [] L = .error e) : atomG (n + 1) op (y :: L) = .error e := by rw [atomG, if_neg (by omega), if_pos h, if_neg h2, h3]
theorem atomG_close {n : Nat} {op : List Int} {y c : Lex} {L R : List Lex} {x : Nd} (h : y.kind = 2) (h2 : op.length ≠ 64) (h3 : altG n (y.place :: op) [] L = .ok (x, c :: R)) (hc : c.kind = 3) : atomG (n + 1) op (y :: L) = .ok (some x, R) := by
  rw [atomG, if_neg (by omega), if_pos h, if_neg h2, h3]
  exact if_pos hc
theorem atomG_open {n : Nat} {op : List Int} {y : Lex} {L R : List Lex} {x : Nd} (h : y.kind = 2) (h2 : op.length ≠ 64) (h3 : altG n (y.place :: op) [] L = .ok (x, R)) (hc : ∀ c R', R = c :: R' → c.kind ≠ 3) : atomG (n + 1) op (y :: L) = .error (11, y.place) := by
  rw [atomG, if_neg (by omega), if_pos h, if_neg h2, h3]
  cases R with
  | nil => rfl
  | cons c R' => exact if_neg (hc c R' rfl)
theorem isPost_iff (k : Int) : isPost k = true ↔ 5 ≤ k ∧ k ≤ 8 := by unfold isPost; simp
theorem atomG_post {n : Nat} {op : List Int} {y : Lex} {L : List Lex} (h : isPost y.kind = true) : atomG (n + 1) op (y :: L) = .error (5, y.place) := by
  have := (isPost_iff _).1 h
  rw [atomG, if_neg (by omega), if_neg (by omega), if_pos h]
theorem atomG_lone {n : Nat} {op : List Int} {y : Lex} {L : List Lex} (h : y.kind = 3) (h2 : op.length = 0) : atomG (n + 1) op (y :: L) = .error (12, y.place) := by
  have : ¬ isPost y.kind = true := by rw [isPost_iff]; omega
  rw [atomG, if_neg (by omega), if_neg (by omega), if_neg this, if_pos ⟨h, h2⟩]
theorem atomG_stop {n : Nat} {op : List Int} {y : Lex} {L : List Lex} (h1 : y.kind ≠ 1) (h2 : y.kind ≠ 2) (h3 : isPost y.kind = false) (h4 : ¬ (y.kind = 3 ∧ op.length = 0)) : atomG (n + 1) op (y :: L) = .ok (none, y :: L) := by
  rw [atomG, if_neg h1, if_neg h2, if_neg (by rw [h3]; decide), if_neg h4]

/-- The tree of lexemes, or what is wrong with them. -/
def lexemesS (L : List Lex) : Except Wrong Nd :=
  if L.all rightS = false then .error (6, 0)
  else if h : 1024 < L.length then .error (4, (L[1024]).place)
  else match altG (3 * L.length + 3) [] [] L with
    | .error e => .error e
    | .ok (x, _) => .ok x
/-- The tree of a text. -/
def parseS (bs : List Nat) : Except Wrong Nd :=
  match splitS bs with
  | .error e => .error e
  | .ok L => lexemesS L

/-! What is left is an end of what was there. -/
theorem postsG_suf : ∀ (L : List Lex) (x : Nd), (postsG x L).2 <:+ L
  | [], x => List.suffix_refl _
  | y :: L, x => by
    unfold postsG
    split
    · exact (postsG_suf L _).trans (List.suffix_cons y L)
    · exact List.suffix_refl _
theorem readG_suf (n : Nat) : (∀ op acc L x R, altG n op acc L = .ok (x, R) → R <:+ L) ∧ (∀ op acc L ps R, piecesG n op acc L = .ok (ps, R) → R <:+ L) ∧
    (∀ op L x R, atomG n op L = .ok (x, R) → R <:+ L ∧ (x ≠ none → R.length < L.length)) := by
  induction n with
  | zero => exact ⟨fun _ _ _ _ _ h => (by rw [altG] at h; cases h), fun _ _ _ _ _ h => (by rw [piecesG] at h; cases h), fun _ _ _ _ h => (by rw [atomG] at h; cases h)⟩
  | succ n ih =>
    obtain ⟨ia, ip, it⟩ := ih
    refine ⟨fun op acc L x R h => ?_, fun op acc L ps R h => ?_, fun op L x R h => ?_⟩
    · cases hp : piecesG n op [] L with
      | error e => rw [altG_bad hp] at h; cases h
      | ok r =>
        obtain ⟨ps, R1⟩ := r
        rw [altG_ok hp] at h
        have h1 := ip _ _ _ _ _ hp
        cases R1 with
        | nil => rw [tailG_nil] at h; cases h; exact h1
        | cons c R' =>
          by_cases h4 : c.kind = 4
          · rw [tailG_bar h4] at h
            exact (ia _ _ _ _ _ h).trans ((List.suffix_cons c R').trans h1)
          · rw [tailG_stop h4] at h
            cases h; exact h1
    · cases hp : atomG n op L with
      | error e => rw [piecesG_bad hp] at h; cases h
      | ok r =>
        obtain ⟨x, R1⟩ := r
        have h1 := (it _ _ _ _ hp).1
        cases x with
        | none => rw [piecesG_end hp] at h; cases h; exact h1
        | some x =>
          rw [piecesG_go hp] at h
          exact (ip _ _ _ _ _ h).trans ((postsG_suf _ _).trans h1)
    · cases L with
      | nil => rw [atomG_nil] at h; cases h; exact ⟨List.suffix_refl _, fun h => absurd rfl h⟩
      | cons y L =>
        rw [atomG] at h
        split at h
        · cases h; exact ⟨List.suffix_cons _ _, fun _ => by simp⟩
        split at h
        · split at h
          · cases h
          split at h
          · cases h
          · rename_i x' R' hx
            have h1 := ia _ _ _ _ _ hx
            split at h
            · cases h
            · rename_i c R''
              split at h
              · cases h
                have h2 : R <:+ L := (List.suffix_cons c R).trans h1
                exact ⟨h2.trans (List.suffix_cons y L), fun _ => by have := h2.length_le; simp; omega⟩
              · cases h
        split at h
        · cases h
        split at h
        · cases h
        · cases h; exact ⟨List.suffix_refl _, fun h => absurd rfl h⟩

/-! What is wrong first, by one look from the left. -/
def wrongS (op : List Int) (piece : Bool) : List Lex → Option Wrong
  | [] => match op with
    | [] => none
    | x :: _ => some (11, x)
  | y :: L =>
    if y.kind = 1 then wrongS op true L
    else if y.kind = 2 then (if 64 ≤ op.length then some (17, y.place) else wrongS (y.place :: op) false L)
    else if y.kind = 3 then (match op with
      | [] => some (12, y.place)
      | _ :: op' => wrongS op' true L)
    else if y.kind = 4 then wrongS op false L
    else if piece = false then some (5, y.place) else wrongS op piece L
/-- What stands first is no sign. -/
def NoPost (L : List Lex) : Prop := ∀ y L', L = y :: L' → isPost y.kind = false
def Kinds (L : List Lex) : Prop := ∀ y ∈ L, 1 ≤ y.kind ∧ y.kind ≤ 8
theorem Kinds.suf {L R : List Lex} (h : Kinds L) (hs : R <:+ L) : Kinds R := fun y hy => h y (hs.subset hy)
theorem Kinds.tail {L : List Lex} {y : Lex} (h : Kinds (y :: L)) : Kinds L := fun z hz => h z (List.mem_cons_of_mem y hz)
/-- Where a part ends. -/
def Stop (op : List Int) (R : List Lex) : Prop := R = [] ∨ ∃ c R', R = c :: R' ∧ (c.kind = 4 ∨ c.kind = 3 ∧ op ≠ [])
/-- Where an alternative ends. -/
def Stop2 (op : List Int) (R : List Lex) : Prop := R = [] ∨ ∃ c R', R = c :: R' ∧ c.kind = 3 ∧ op ≠ []
theorem Stop.noPost {op : List Int} {R : List Lex} (h : Stop op R) : NoPost R := by
  intro y L' e
  rcases h with rfl | ⟨c, R', rfl, h⟩
  · cases e
  · cases e
    unfold isPost
    simp
    omega
theorem wrongS_flag {op : List Int} {R : List Lex} (hk : Kinds R) (h : NoPost R) (p q : Bool) : wrongS op p R = wrongS op q R := by
  cases R with
  | nil => rfl
  | cons y L =>
    have h1 := hk y (by simp)
    have h2 := h y L rfl
    have h3 : ¬ (5 ≤ y.kind ∧ y.kind ≤ 8) := fun hh => by rw [(isPost_iff _).2 hh] at h2; cases h2
    unfold wrongS
    by_cases e1 : y.kind = 1
    · rw [if_pos e1, if_pos e1]
    rw [if_neg e1, if_neg e1]
    by_cases e2 : y.kind = 2
    · rw [if_pos e2, if_pos e2]
    rw [if_neg e2, if_neg e2]
    by_cases e3 : y.kind = 3
    · rw [if_pos e3, if_pos e3]
    rw [if_neg e3, if_neg e3]
    rw [if_pos (by omega), if_pos (by omega)]
theorem postsG_wrong (op : List Int) : ∀ (L : List Lex) (x : Nd), Kinds L → wrongS op true L = wrongS op true (postsG x L).2 ∧ NoPost (postsG x L).2
  | [], x, _ => ⟨rfl, fun y L' e => by cases e⟩
  | y :: L, x, hk => by
    unfold postsG
    split
    · rename_i h
      have h1 := (isPost_iff _).1 h
      have := postsG_wrong op L (postN y x) hk.tail
      refine ⟨?_, this.2⟩
      rw [← this.1]
      conv => lhs; unfold wrongS
      rw [if_neg (by omega), if_neg (by omega), if_neg (by omega), if_neg (by omega), if_neg (by decide)]
    · rename_i h
      refine ⟨rfl, fun z L' e => ?_⟩
      cases e
      simpa using h
def AltW (n : Nat) : Prop := ∀ op acc L, Kinds L → op.length ≤ 64 → 3 * L.length + 2 < n →
  match altG n op acc L with
  | .error e => wrongS op false L = some e
  | .ok (_, R) => Stop2 op R ∧ wrongS op false L = wrongS op false R
def PiecesW (n : Nat) : Prop := ∀ op acc L (p : Bool), Kinds L → op.length ≤ 64 → 3 * L.length + 1 < n → (p = false ∨ NoPost L) →
  match piecesG n op acc L with
  | .error e => wrongS op p L = some e
  | .ok (_, R) => Stop op R ∧ wrongS op p L = wrongS op false R
def AtomW (n : Nat) : Prop := ∀ op L (p : Bool), Kinds L → op.length ≤ 64 → 3 * L.length < n → (p = false ∨ NoPost L) →
  match atomG n op L with
  | .error e => wrongS op p L = some e
  | .ok (none, R) => R = L ∧ Stop op L
  | .ok (some _, R) => wrongS op p L = wrongS op true R
theorem readG_wrong (n : Nat) : AltW n ∧ PiecesW n ∧ AtomW n := by
  induction n with
  | zero => exact ⟨fun _ _ _ _ _ h => by omega, fun _ _ _ _ _ _ h => by omega, fun _ _ _ _ _ h => by omega⟩
  | succ n ih =>
    obtain ⟨ia, ip, it⟩ := ih
    obtain ⟨sa, sp, st⟩ := readG_suf n
    refine ⟨fun op acc L hk ho hn => ?_, fun op acc L p hk ho hn hp => ?_, fun op L p hk ho hn hp => ?_⟩
    · have h1 := ip op [] L false hk ho (by omega) (.inl rfl)
      cases hx : piecesG n op [] L with
      | error e => rw [hx] at h1; rw [altG_bad hx]; exact h1
      | ok r =>
        obtain ⟨ps, R⟩ := r
        rw [hx] at h1
        obtain ⟨h1, h2⟩ := h1
        have hs := sp _ _ _ _ _ hx
        rw [altG_ok hx]
        rcases h1 with rfl | ⟨c, R', rfl, hc⟩
        · exact ⟨.inl rfl, h2⟩
        · by_cases h4 : c.kind = 4
          · rw [tailG_bar h4]
            have hl := hs.length_le
            simp at hl
            have h3 := ia op (acc ++ [partN ps]) R' ((hk.suf hs).tail) ho (by omega)
            have e : wrongS op false (c :: R') = wrongS op false R' := by
              conv => lhs; unfold wrongS
              rw [if_neg (by omega), if_neg (by omega), if_neg (by omega), if_pos h4]
            rw [h2, e]
            exact h3
          · rw [tailG_stop h4]
            exact ⟨.inr ⟨c, R', rfl, by omega, by rcases hc with hc | hc; exact absurd hc h4; exact hc.2⟩, h2⟩
    · have h1 := it op L p hk ho (by omega) hp
      cases hx : atomG n op L with
      | error e => rw [hx] at h1; rw [piecesG_bad hx]; exact h1
      | ok r =>
        obtain ⟨x, R⟩ := r
        have hs := st _ _ _ _ hx
        cases x with
        | none =>
          rw [hx] at h1
          obtain ⟨rfl, h1⟩ := h1
          rw [piecesG_end hx]
          exact ⟨h1, wrongS_flag hk h1.noPost _ _⟩
        | some x =>
          rw [hx] at h1
          rw [piecesG_go hx]
          have h2 := postsG_wrong op R x (hk.suf hs.1)
          have hs2 := postsG_suf R x
          have hl := hs.2 (by simp)
          have hl2 := hs2.length_le
          have h3 := ip op (acc ++ [(postsG x R).1]) (postsG x R).2 true (hk.suf (hs2.trans hs.1)) ho (by omega) (.inr h2.2)
          rw [show wrongS op p L = wrongS op true (postsG x R).2 from h1.trans h2.1]
          exact h3
    · cases L with
      | nil => rw [atomG_nil]; exact ⟨rfl, .inl rfl⟩
      | cons y L =>
        have hky := hk y (by simp)
        simp only [List.length_cons] at hn
        by_cases e1 : y.kind = 1
        · rw [atomG_set e1]
          show wrongS op p (y :: L) = wrongS op true L
          conv => lhs; unfold wrongS
          rw [if_pos e1]
        by_cases e2 : y.kind = 2
        · by_cases h64 : op.length = 64
          · rw [atomG_deep e2 h64]
            show wrongS op p (y :: L) = _
            unfold wrongS
            rw [if_neg e1, if_pos e2, if_pos (by omega)]
          · have h1 := ia (y.place :: op) [] L hk.tail (by simp; omega) (by omega)
            have ew : wrongS op p (y :: L) = wrongS (y.place :: op) false L := by
              conv => lhs; unfold wrongS
              rw [if_neg e1, if_pos e2, if_neg (by omega)]
            cases hx : altG n (y.place :: op) [] L with
            | error e => rw [hx] at h1; rw [atomG_in e2 h64 hx]; exact ew.trans h1
            | ok r =>
              obtain ⟨x, R⟩ := r
              rw [hx] at h1
              obtain ⟨h1, h2⟩ := h1
              rcases h1 with rfl | ⟨c, R', rfl, hc, _⟩
              · rw [atomG_open e2 h64 hx (fun c R' e => by cases e)]
                exact ew.trans h2
              · rw [atomG_close e2 h64 hx hc]
                refine ew.trans (h2.trans ?_)
                conv => lhs; unfold wrongS
                rw [if_neg (by omega), if_neg (by omega), if_pos hc]
        by_cases e5 : isPost y.kind = true
        · rw [atomG_post e5]
          have h5 := (isPost_iff _).1 e5
          have hp' : p = false := by
            rcases hp with h | h
            · exact h
            · rw [h y L rfl] at e5; cases e5
          show wrongS op p (y :: L) = _
          unfold wrongS
          rw [if_neg e1, if_neg e2, if_neg (by omega), if_neg (by omega), if_pos hp']
        by_cases e3 : y.kind = 3
        · by_cases h0 : op.length = 0
          · rw [atomG_lone e3 h0]
            show wrongS op p (y :: L) = _
            have : op = [] := List.length_eq_zero_iff.1 h0
            subst this
            unfold wrongS
            rw [if_neg e1, if_neg e2, if_pos e3]
          · rw [atomG_stop e1 e2 (by simpa using e5) (fun h => h0 h.2)]
            exact ⟨rfl, .inr ⟨y, L, rfl, .inr ⟨e3, fun h => h0 (by rw [h]; rfl)⟩⟩⟩
        · rw [atomG_stop e1 e2 (by simpa using e5) (fun h => e3 h.1)]
          have : ¬ (5 ≤ y.kind ∧ y.kind ≤ 8) := fun h => e5 ((isPost_iff _).2 h)
          exact ⟨rfl, .inr ⟨y, L, rfl, .inl (by omega)⟩⟩
/-- The reading fails as the look does; else all is read. -/
theorem read_wrong (L : List Lex) (hk : Kinds L) : match altG (3 * L.length + 3) [] [] L with
    | .error e => wrongS [] false L = some e
    | .ok (_, R) => R = [] ∧ wrongS [] false L = none := by
  have h := (readG_wrong (3 * L.length + 3)).1 [] [] L hk (by simp) (by omega)
  cases hx : altG (3 * L.length + 3) [] [] L with
  | error e => rw [hx] at h; exact h
  | ok r =>
    obtain ⟨x, R⟩ := r
    rw [hx] at h
    obtain ⟨h1, h2⟩ := h
    rcases h1 with rfl | ⟨c, R', rfl, _, h0⟩
    · exact ⟨rfl, h2⟩
    · exact absurd rfl h0

end Go.Proofs.Ytgbpcigfbpghgaa
namespace Go.Proofs.Ytgbpcigfbpghgaa
set_option linter.unusedSimpArgs false
set_option linter.unusedVariables false
set_option maxRecDepth 100000

/-- May a byte begin a name? -/
def isNameA (c : Nat) : Bool := c == 95 || decide (97 ≤ c) && decide (c ≤ 122) || decide (65 ≤ c) && decide (c ≤ 90)
/-- May a byte stand in a name behind its beginning? -/
def isNameB (c : Nat) : Bool := isNameA c || isDig c
/-- How many bytes could stand in a name. -/
def runS : List Nat → Nat
  | [] => 0
  | c :: l => if isNameA c = true then (l.takeWhile isNameB).length + 1 else 0
theorem runS_nil : runS [] = 0 := rfl
theorem runS_cons (c : Nat) (l : List Nat) : runS (c :: l) = if isNameA c = true then (l.takeWhile isNameB).length + 1 else 0 := rfl
/-- May byte i go on a name? -/
def nameAt (bs : List Nat) (i : Nat) : Bool := if i = 0 then isNameA (byteAt bs 0) else isNameB (byteAt bs i)
theorem runS_le (bs : List Nat) : runS bs ≤ bs.length := by
  cases bs with
  | nil => exact Nat.le_refl _
  | cons c l =>
    rw [runS_cons]
    split
    · have := (List.takeWhile_prefix (p := isNameB) (l := l)).length_le
      simp
      omega
    · simp
theorem runS_more {bs : List Nat} {i : Nat} (hi : i ≤ runS bs) (hl : i < bs.length) (h : nameAt bs i = true) : i + 1 ≤ runS bs := by
  cases bs with
  | nil => simp at hl
  | cons c l =>
    unfold nameAt at h
    rw [runS_cons] at hi ⊢
    cases i with
    | zero =>
      have h0 : isNameA c = true := by simpa [byteAt] using h
      rw [if_pos h0]
      omega
    | succ i =>
      by_cases h0 : isNameA c = true
      · rw [if_pos h0] at hi ⊢
        have hl' : i < l.length := by simpa using hl
        have h1 : isNameB l[i] = true := by
          rw [if_neg (by omega)] at h
          rw [← byteAt_get (by simpa using hl)] at h
          simpa using h
        have := takeWhile_more l i (by omega) hl' h1
        omega
      · rw [if_neg h0] at hi
        omega
theorem runS_stop {bs : List Nat} {i : Nat} (hi : i ≤ runS bs) (h : bs.length ≤ i ∨ nameAt bs i = false) : runS bs = i := by
  rcases h with h | h
  · have := runS_le bs
    omega
  · cases bs with
    | nil => rw [runS_nil] at hi ⊢; omega
    | cons c l =>
      unfold nameAt at h
      rw [runS_cons] at hi ⊢
      cases i with
      | zero =>
        have h0 : ¬ isNameA c = true := by simpa [byteAt] using h
        rw [if_neg h0]
      | succ i =>
        by_cases h0 : isNameA c = true
        · rw [if_pos h0] at hi ⊢
          rcases Nat.lt_or_ge i l.length with hl' | hl'
          · have h1 : isNameB l[i] = false := by
              rw [if_neg (by omega)] at h
              rw [← byteAt_get (show i + 1 < (c :: l).length by simpa using hl')] at h
              simpa using h
            rw [takeWhile_stop l i (by omega) hl' h1]
          · have := (List.takeWhile_prefix (p := isNameB) (l := l)).length_le
            omega
        · rw [if_neg h0] at hi
          omega

/-- A rule: its name, its tree. -/
structure RuleS where
  name : List Nat
  body : Nd
/-- A line's name; or what is wrong with it. -/
def headS (rs : List RuleS) (line : List Nat) : Except Wrong (List Nat) :=
  if rs.length = 64 then .error (18, 0)
  else if runS line = 0 then .error (9, 0)
  else if 32 < runS line then .error (9, 32)
  else if runS line = line.length ∨ byteAt line (runS line) ≠ 58 then .error (10, (runS line : Nat))
  else if (rs.any fun r => decide (r.name = line.take (runS line))) = true then .error (8, 0)
  else .ok (line.take (runS line))
/-- A line that says something. -/
def lineS (rs : List RuleS) (line : List Nat) : Except Wrong RuleS :=
  match headS rs line with
  | .error e => .error e
  | .ok n => match parseS (line.drop (n.length + 1)) with
    | .error (k, q) => .error (k, q + n.length + 1)
    | .ok x => .ok ⟨n, x⟩
/-- The line that begins at a place. -/
def lineAt (bs : List Nat) (i : Nat) : List Nat := (bs.drop i).takeWhile (fun c => !(c == 10))
/-- The rules from a place on, behind those of rs. -/
def rulesF (bs : List Nat) : Nat → Nat → List RuleS → Except Wrong (List RuleS)
  | 0, _, _ => .error (0, 0)
  | f + 1, i, rs => if bs.length ≤ i then .ok rs
    else if lineAt bs i = [] ∨ byteAt bs i = 35 then rulesF bs f (i + (lineAt bs i).length + 1) rs
    else match lineS rs (lineAt bs i) with
      | .error (k, q) => .error (k, q + i)
      | .ok r => rulesF bs f (i + (lineAt bs i).length + 1) (rs ++ [r])
/-- The rules of a text. -/
def rulesS (bs : List Nat) : Except Wrong (List RuleS) := if 65536 < bs.length then .error (4, 65536) else rulesF bs (bs.length + 1) 0 []

end Go.Proofs.Ytgbpcigfbpghgaa
namespace Go.Proofs.Ytgbpcigfbpghgaa
set_option linter.unusedSimpArgs false
set_option linter.unusedVariables false
set_option maxRecDepth 100000

theorem rulesF_end {bs : List Nat} {f i : Nat} {rs : List RuleS} (h : bs.length ≤ i) : rulesF bs (f + 1) i rs = .ok rs := by unfold rulesF; rw [if_pos h]
theorem rulesF_pass {bs : List Nat} {f i : Nat} {rs : List RuleS} (h : i < bs.length) (h2 : lineAt bs i = [] ∨ byteAt bs i = 35) : rulesF bs (f + 1) i rs = rulesF bs f (i + (lineAt bs i).length + 1) rs := by
  conv => lhs; unfold rulesF
  rw [if_neg (by omega), if_pos h2]
theorem rulesF_bad {bs : List Nat} {f i : Nat} {rs : List RuleS} {k q : Int} (h : i < bs.length) (h2 : ¬ (lineAt bs i = [] ∨ byteAt bs i = 35)) (h3 : lineS rs (lineAt bs i) = .error (k, q)) : rulesF bs (f + 1) i rs = .error (k, q + i) := by
  conv => lhs; unfold rulesF
  rw [if_neg (by omega), if_neg h2, h3]
theorem rulesF_ok {bs : List Nat} {f i : Nat} {rs : List RuleS} {r : RuleS} (h : i < bs.length) (h2 : ¬ (lineAt bs i = [] ∨ byteAt bs i = 35)) (h3 : lineS rs (lineAt bs i) = .ok r) : rulesF bs (f + 1) i rs = rulesF bs f (i + (lineAt bs i).length + 1) (rs ++ [r]) := by
  conv => lhs; unfold rulesF
  rw [if_neg (by omega), if_neg h2, h3]
theorem lineAt_len (bs : List Nat) (i : Nat) : (lineAt bs i).length ≤ bs.length - i := by
  have := (List.takeWhile_prefix (p := fun c => !(c == 10)) (l := bs.drop i)).length_le
  unfold lineAt
  simpa using this
/-- More fuel reads the same. -/
theorem rulesF_fuel {bs : List Nat} : ∀ {f g i : Nat} {rs : List RuleS}, bs.length < f + i → bs.length < g + i → i ≤ bs.length + 1 → 1 ≤ f → 1 ≤ g → rulesF bs f i rs = rulesF bs g i rs
  | 0, _, _, _, _, _, _, h, _ => by omega
  | _ + 1, 0, _, _, _, _, _, _, h => by omega
  | f + 1, g + 1, i, rs, hf, hg, hi, _, _ => by
    rcases Nat.lt_or_ge i bs.length with h | h
    · have hl := lineAt_len bs i
      have hstep : ∀ rs', rulesF bs f (i + (lineAt bs i).length + 1) rs' = rulesF bs g (i + (lineAt bs i).length + 1) rs' := fun rs' =>
        rulesF_fuel (by omega) (by omega) (by omega) (by omega) (by omega)
      by_cases h2 : lineAt bs i = [] ∨ byteAt bs i = 35
      · rw [rulesF_pass h h2, rulesF_pass h h2, hstep]
      · cases h3 : lineS rs (lineAt bs i) with
        | error e => obtain ⟨k, q⟩ := e; rw [rulesF_bad h h2 h3, rulesF_bad h h2 h3]
        | ok r => rw [rulesF_ok h h2 h3, rulesF_ok h h2 h3, hstep]
    · rw [rulesF_end h, rulesF_end h]
/-- The rules from a place on, with as much fuel as is wanted. -/
def rulesC (bs : List Nat) (i : Nat) (rs : List RuleS) : Except Wrong (List RuleS) := rulesF bs (bs.length + 2 - i) i rs
theorem rulesC_of {bs : List Nat} {f i : Nat} {rs : List RuleS} (h : bs.length < f + i) (hi : i ≤ bs.length + 1) (hf : 1 ≤ f) : rulesF bs f i rs = rulesC bs i rs := rulesF_fuel h (by omega) hi hf (by omega)
theorem rulesC_end {bs : List Nat} {i : Nat} {rs : List RuleS} (h : bs.length ≤ i) (hi : i ≤ bs.length + 1) : rulesC bs i rs = .ok rs := by
  unfold rulesC
  rw [show bs.length + 2 - i = (bs.length + 1 - i) + 1 by omega, rulesF_end h]
theorem rulesC_pass {bs : List Nat} {i : Nat} {rs : List RuleS} (h : i < bs.length) (h2 : lineAt bs i = [] ∨ byteAt bs i = 35) : rulesC bs i rs = rulesC bs (i + (lineAt bs i).length + 1) rs := by
  have hl := lineAt_len bs i
  conv => lhs; unfold rulesC
  rw [show bs.length + 2 - i = (bs.length + 1 - i) + 1 by omega, rulesF_pass h h2]
  exact rulesC_of (by omega) (by omega) (by omega)
theorem rulesC_bad {bs : List Nat} {i : Nat} {rs : List RuleS} {k q : Int} (h : i < bs.length) (h2 : ¬ (lineAt bs i = [] ∨ byteAt bs i = 35)) (h3 : lineS rs (lineAt bs i) = .error (k, q)) : rulesC bs i rs = .error (k, q + i) := by
  unfold rulesC
  rw [show bs.length + 2 - i = (bs.length + 1 - i) + 1 by omega, rulesF_bad h h2 h3]
theorem rulesC_ok {bs : List Nat} {i : Nat} {rs : List RuleS} {r : RuleS} (h : i < bs.length) (h2 : ¬ (lineAt bs i = [] ∨ byteAt bs i = 35)) (h3 : lineS rs (lineAt bs i) = .ok r) : rulesC bs i rs = rulesC bs (i + (lineAt bs i).length + 1) (rs ++ [r]) := by
  have hl := lineAt_len bs i
  conv => lhs; unfold rulesC
  rw [show bs.length + 2 - i = (bs.length + 1 - i) + 1 by omega, rulesF_ok h h2 h3]
  exact rulesC_of (by omega) (by omega) (by omega)
theorem rulesS_long {bs : List Nat} (h : 65536 < bs.length) : rulesS bs = .error (4, 65536) := by unfold rulesS; rw [if_pos h]
theorem rulesS_go {bs : List Nat} (h : bs.length ≤ 65536) : rulesS bs = rulesC bs 0 [] := by
  unfold rulesS
  rw [if_neg (by omega)]
  exact rulesC_of (by omega) (by omega) (by omega)
theorem rulesS_ok_len {bs : List Nat} {l : List RuleS} (h : rulesS bs = .ok l) : bs.length ≤ 65536 := by
  rcases Nat.lt_or_ge 65536 bs.length with h1 | h1
  · rw [rulesS_long h1] at h; cases h
  · exact h1

def shiftR (d : Nat) : Except Wrong (List RuleS) → Except Wrong (List RuleS)
  | .error (k, q) => .error (k, q + d)
  | .ok l => .ok l
theorem byteAt_behind (a b : List Nat) (c i : Nat) : byteAt (a ++ c :: b) (i + (a.length + 1)) = byteAt b i := by
  unfold byteAt
  rw [show a ++ c :: b = (a ++ [c]) ++ b by simp, show i + (a.length + 1) = (a ++ [c]).length + i by simp; omega, List.getD_eq_getElem?_getD, List.getElem?_append_right (by omega), List.getD_eq_getElem?_getD]
  simp
theorem lineAt_behind (a b : List Nat) (c i : Nat) : lineAt (a ++ c :: b) (i + (a.length + 1)) = lineAt b i := by
  unfold lineAt
  rw [show a ++ c :: b = (a ++ [c]) ++ b by simp, show i + (a.length + 1) = (a ++ [c]).length + i by simp; omega, ← List.drop_drop]
  simp
theorem byteAt_ahead {a : List Nat} {i : Nat} (h : i < a.length) (b : List Nat) : byteAt (a ++ b) i = byteAt a i := by
  unfold byteAt
  rw [List.getD_eq_getElem?_getD, List.getElem?_append_left h, List.getD_eq_getElem?_getD]
theorem takeWhile_app_stop {p : Nat → Bool} {c : Nat} (hc : p c = false) (b : List Nat) : ∀ a : List Nat, (a ++ c :: b).takeWhile p = a.takeWhile p
  | [] => by simp [hc]
  | x :: a => by
    simp only [List.cons_append, List.takeWhile_cons, takeWhile_app_stop hc b a]
theorem lineAt_ahead {a : List Nat} {i : Nat} (h : i ≤ a.length) (b : List Nat) : lineAt (a ++ 10 :: b) i = lineAt a i := by
  unfold lineAt
  rw [List.drop_append_of_le_length h]
  exact takeWhile_app_stop (by decide) b _
/-- What stands behind a text is read as by itself, that much further on. -/
theorem rulesC_behind (a b : List Nat) (n : Nat) : ∀ (i : Nat) (rs : List RuleS), i ≤ b.length + 1 → b.length - i ≤ n → rulesC (a ++ 10 :: b) (i + (a.length + 1)) rs = shiftR (a.length + 1) (rulesC b i rs) := by
  induction n with
  | zero =>
    intro i rs hi hn
    have hlen : (a ++ 10 :: b).length = b.length + (a.length + 1) := by simp; omega
    rw [rulesC_end (by omega) (by omega), rulesC_end (by omega) hi]
    rfl
  | succ n ih =>
    intro i rs hi hn
    have hlen : (a ++ 10 :: b).length = b.length + (a.length + 1) := by simp; omega
    have hl := lineAt_len b i
    rcases Nat.lt_or_ge i b.length with h | h
    · have h' : i + (a.length + 1) < (a ++ 10 :: b).length := by omega
      have hg : i + (a.length + 1) + (lineAt b i).length + 1 = i + (lineAt b i).length + 1 + (a.length + 1) := by omega
      by_cases h2 : lineAt b i = [] ∨ byteAt b i = 35
      · rw [rulesC_pass h' (by rw [lineAt_behind, byteAt_behind]; exact h2), rulesC_pass h h2, lineAt_behind, hg]
        exact ih _ rs (by omega) (by omega)
      · have h2' : ¬ (lineAt (a ++ 10 :: b) (i + (a.length + 1)) = [] ∨ byteAt (a ++ 10 :: b) (i + (a.length + 1)) = 35) := by rw [lineAt_behind, byteAt_behind]; exact h2
        cases h3 : lineS rs (lineAt b i) with
        | error e =>
          obtain ⟨k, q⟩ := e
          rw [rulesC_bad h' h2' (by rw [lineAt_behind]; exact h3), rulesC_bad h h2 h3]
          simp only [shiftR]
          congr 2
          omega
        | ok r =>
          rw [rulesC_ok h' h2' (by rw [lineAt_behind]; exact h3), rulesC_ok h h2 h3, lineAt_behind, hg]
          exact ih _ _ (by omega) (by omega)
    · rw [rulesC_end (by omega) (by omega), rulesC_end h hi]
      rfl
/-- A text that is right is read, and then what stands behind it. -/
theorem rulesC_ahead (a b : List Nat) (n : Nat) : ∀ (i : Nat) (rs l : List RuleS), i ≤ a.length + 1 → a.length + 1 - i ≤ n → rulesC a i rs = .ok l → rulesC (a ++ 10 :: b) i rs = rulesC (a ++ 10 :: b) (a.length + 1) l := by
  induction n with
  | zero =>
    intro i rs l hi hn h
    obtain rfl : i = a.length + 1 := by omega
    rw [rulesC_end (by omega) hi] at h
    cases h
    rfl
  | succ n ih =>
    intro i rs l hi hn h
    have hlen : (a ++ 10 :: b).length = b.length + (a.length + 1) := by simp; omega
    have hl := lineAt_len a i
    rcases Nat.lt_trichotomy i a.length with h1 | h1 | h1
    · have h' : i < (a ++ 10 :: b).length := by omega
      have e1 := lineAt_ahead (i := i) (a := a) (by omega) b
      have e2 := byteAt_ahead (i := i) h1 (10 :: b)
      by_cases h2 : lineAt a i = [] ∨ byteAt a i = 35
      · rw [rulesC_pass h1 h2] at h
        rw [rulesC_pass h' (by rw [e1, e2]; exact h2), e1]
        exact ih _ _ _ (by omega) (by omega) h
      · have h2' : ¬ (lineAt (a ++ 10 :: b) i = [] ∨ byteAt (a ++ 10 :: b) i = 35) := by rw [e1, e2]; exact h2
        cases h3 : lineS rs (lineAt a i) with
        | error e =>
          obtain ⟨k, q⟩ := e
          rw [rulesC_bad h1 h2 h3] at h
          cases h
        | ok r =>
          rw [rulesC_ok h1 h2 h3] at h
          rw [rulesC_ok h' h2' (by rw [e1]; exact h3), e1]
          exact ih _ _ _ (by omega) (by omega) h
    · subst h1
      rw [rulesC_end (by omega) hi] at h
      cases h
      have e1 : lineAt (a ++ 10 :: b) a.length = [] := by unfold lineAt; simp
      rw [rulesC_pass (by omega) (.inl e1), e1]
      simp
    · obtain rfl : i = a.length + 1 := by omega
      rw [rulesC_end (by omega) hi] at h
      cases h
      rfl

/-- Is one of some rules called so? -/
def called (rs : List RuleS) (n : List Nat) : Bool := rs.any fun r => decide (r.name = n)
theorem called_app (l rs : List RuleS) (n : List Nat) : called (l ++ rs) n = (called l n || called rs n) := by unfold called; simp
theorem headS_ok {rs : List RuleS} {line n : List Nat} (h : headS rs line = .ok n) : rs.length ≠ 64 ∧ n = line.take (runS line) ∧ called rs n = false := by
  unfold headS at h
  split at h; · cases h
  split at h; · cases h
  split at h; · cases h
  split at h; · cases h
  split at h; · cases h
  rename_i h1 h2 h3 h4 h5
  cases h
  exact ⟨h1, rfl, by simpa [called] using h5⟩
theorem headS_more {l rs : List RuleS} {line n : List Nat} (h : headS rs line = .ok n) (hl : (l ++ rs).length < 64) : headS (l ++ rs) line = if called l n = true then .error (8, 0) else .ok n := by
  unfold headS at h
  split at h; · cases h
  split at h; · cases h
  split at h; · cases h
  split at h; · cases h
  split at h; · cases h
  rename_i h1 h2 h3 h4 h5
  cases h
  unfold headS
  rw [if_neg (by omega), if_neg h2, if_neg h3, if_neg h4]
  have e : ((l ++ rs).any fun r => decide (r.name = line.take (runS line))) = called l (line.take (runS line)) := by
    rw [List.any_append]
    unfold called
    rw [show (rs.any fun r => decide (r.name = line.take (runS line))) = false by simpa using h5, Bool.or_false]
  rw [e]
theorem lineS_ok {rs : List RuleS} {line : List Nat} {r : RuleS} (h : lineS rs line = .ok r) : headS rs line = .ok r.name ∧ parseS (line.drop (r.name.length + 1)) = .ok r.body := by
  unfold lineS at h
  cases h1 : headS rs line with
  | error e => rw [h1] at h; cases h
  | ok n =>
    rw [h1] at h
    dsimp only at h
    cases h2 : parseS (line.drop (n.length + 1)) with
    | error e => obtain ⟨k, q⟩ := e; rw [h2] at h; cases h
    | ok x => rw [h2] at h; cases h; exact ⟨rfl, h2⟩
theorem lineS_more {l rs : List RuleS} {line : List Nat} {r : RuleS} (h : lineS rs line = .ok r) (hl : (l ++ rs).length < 64) : lineS (l ++ rs) line = if called l r.name = true then .error (8, 0) else .ok r := by
  obtain ⟨h1, h2⟩ := lineS_ok h
  unfold lineS
  rw [headS_more h1 hl]
  by_cases hc : called l r.name = true
  · rw [if_pos hc, if_pos hc]
  · rw [if_neg hc, if_neg hc]
    dsimp only
    rw [h2]
/-- What is read is more and more. -/
theorem rulesC_grows {b : List Nat} (n : Nat) : ∀ {i : Nat} {rs m : List RuleS}, i ≤ b.length + 1 → b.length - i ≤ n → rulesC b i rs = .ok m → ∃ t, m = rs ++ t := by
  induction n with
  | zero =>
    intro i rs m hi hn h
    rw [rulesC_end (by omega) hi] at h
    cases h
    exact ⟨[], by simp⟩
  | succ n ih =>
    intro i rs m hi hn h
    have hl := lineAt_len b i
    rcases Nat.lt_or_ge i b.length with h1 | h1
    · by_cases h2 : lineAt b i = [] ∨ byteAt b i = 35
      · rw [rulesC_pass h1 h2] at h
        exact ih (by omega) (by omega) h
      · cases h3 : lineS rs (lineAt b i) with
        | error e => obtain ⟨k, q⟩ := e; rw [rulesC_bad h1 h2 h3] at h; cases h
        | ok r =>
          rw [rulesC_ok h1 h2 h3] at h
          obtain ⟨t, ht⟩ := ih (by omega) (by omega) h
          exact ⟨r :: t, by simpa using ht⟩
    · rw [rulesC_end h1 hi] at h
      cases h
      exact ⟨[], by simp⟩
/-- Behind other rules: the same ones, if none of them is called as one of those; else that name is there twice. -/
theorem rulesC_more {b : List Nat} {l : List RuleS} (n : Nat) : ∀ {i : Nat} {rs m : List RuleS}, i ≤ b.length + 1 → b.length - i ≤ n → rulesC b i rs = .ok m → l.length + m.length ≤ 64 → (∀ r ∈ rs, called l r.name = false) →
    if ∃ r ∈ m, called l r.name = true then ∃ q : Int, 0 ≤ q ∧ rulesC b i (l ++ rs) = .error (8, q) else rulesC b i (l ++ rs) = .ok (l ++ m) := by
  induction n with
  | zero =>
    intro i rs m hi hn h hlm hrs
    rw [rulesC_end (by omega) hi] at h
    cases h
    rw [if_neg (fun ⟨r, hr, hc⟩ => by rw [hrs r hr] at hc; cases hc)]
    exact rulesC_end (by omega) hi
  | succ n ih =>
    intro i rs m hi hn h hlm hrs
    have hl := lineAt_len b i
    rcases Nat.lt_or_ge i b.length with h1 | h1
    · by_cases h2 : lineAt b i = [] ∨ byteAt b i = 35
      · rw [rulesC_pass h1 h2] at h
        rw [rulesC_pass h1 h2]
        exact ih (by omega) (by omega) h hlm hrs
      · cases h3 : lineS rs (lineAt b i) with
        | error e => obtain ⟨k, q⟩ := e; rw [rulesC_bad h1 h2 h3] at h; cases h
        | ok r =>
          rw [rulesC_ok h1 h2 h3] at h
          obtain ⟨t, ht⟩ := rulesC_grows n (by omega) (by omega) h
          have hm : m.length = rs.length + 1 + t.length := by rw [ht]; simp; omega
          have h4 := lineS_more (l := l) h3 (by simp; omega)
          by_cases hc : called l r.name = true
          · rw [if_pos ⟨r, by rw [ht]; simp, hc⟩]
            rw [if_pos hc] at h4
            exact ⟨_, by omega, rulesC_bad h1 h2 h4⟩
          · rw [if_neg hc] at h4
            rw [rulesC_ok h1 h2 h4, List.append_assoc]
            refine ih (by omega) (by omega) h hlm (fun x hx => ?_)
            rcases List.mem_append.1 hx with hx | hx
            · exact hrs x hx
            · rw [List.mem_singleton.1 hx]; simpa using hc
    · rw [rulesC_end h1 hi] at h
      cases h
      rw [if_neg (fun ⟨r, hr, hc⟩ => by rw [hrs r hr] at hc; cases hc)]
      exact rulesC_end h1 hi
/-- Two texts of right lines, one behind the other. -/
theorem rules_parts {a b : List Nat} {l m : List RuleS} (ha : rulesS a = .ok l) (hb : rulesS b = .ok m) (hlm : l.length + m.length ≤ 64) (hlen : a.length + b.length < 65536) :
    if ∃ r ∈ m, called l r.name = true then ∃ q : Int, (a.length : Int) < q ∧ rulesS (a ++ 10 :: b) = .error (8, q) else rulesS (a ++ 10 :: b) = .ok (l ++ m) := by
  rw [rulesS_go (by omega)] at ha hb
  rw [rulesS_go (by simp; omega)]
  rw [rulesC_ahead a b _ 0 [] l (by omega) (Nat.le_refl _) ha]
  have h := rulesC_more (l := l) _ (by omega) (Nat.le_refl _) hb hlm (fun r hr => by cases hr)
  have e := rulesC_behind a b _ 0 l (by omega) (Nat.le_refl _)
  rw [Nat.zero_add] at e
  rw [e]
  rw [List.append_nil] at h
  split at h
  · rename_i hc
    rw [if_pos hc]
    obtain ⟨q, hq, h⟩ := h
    rw [h]
    exact ⟨q + (a.length + 1 : Nat), by omega, rfl⟩
  · rename_i hc
    rw [if_neg hc, h]
    rfl
end Go.Proofs.Ytgbpcigfbpghgaa
namespace Go.Proofs.Ytgbpcigfbpghgaa
open Go.RowKit Go.Maps
set_option linter.unusedSimpArgs false
set_option linter.unusedVariables false
set_option maxRecDepth 100000

/-- At A stand rules, all of whose blocks are of P. -/
def RulesAt (w : World) (P : Nat → Prop) (rs : List RuleS) (A : Option Addr) : Prop := ∀ (i : Nat) (r : RuleS), rs[i]? = some r →
  ∃ b o B cap, A = some ⟨b, o, none⟩ ∧ P b ∧ r.body.kids.len ≤ cap ∧ w.cell? ⟨b, o + i * 9, none⟩ = some (.string (strOf r.name)) ∧
    NdAt w b (o + i * 9 + 1) r.body.kind r.body.set r.body.kids.len r.body.lo r.body.hi B cap ∧ TreesAt w P r.body.kids B
theorem RulesAt.keep {w w' : World} {P Q : Nat → Prop} {rs : List RuleS} {A : Option Addr} (h : RulesAt w P rs A) (hk : ∀ b o, P b → b < w.heap.size → w'.cell? ⟨b, o, none⟩ = w.cell? ⟨b, o, none⟩) (hQ : ∀ b, P b → b < w.heap.size → Q b) : RulesAt w' Q rs A := fun i r hr => by
  obtain ⟨b, o, B, cap, hA, hb, hc, h0, hn, ht⟩ := h i r hr
  have hl := World.block_lt_of_cell? w _ h0
  exact ⟨b, o, B, cap, hA, hQ b hb hl, hc, (hk b _ hb hl).trans h0, hn.keep (fun o => hk b o hb hl), ht.keep hk hQ⟩
theorem RulesAt.below {w w' : World} {P : Nat → Prop} {rs : List RuleS} {A : Option Addr} (h : RulesAt w P rs A) (hb : Below w.heap.size w w') : RulesAt w' P rs A :=
  h.keep (fun b o _ hl => hb.cell (p := ⟨b, o, none⟩) hl) (fun b hp _ => hp)
theorem RulesAt.weak {w : World} {P Q : Nat → Prop} {rs : List RuleS} {A : Option Addr} (h : RulesAt w P rs A) (hQ : ∀ b, P b → b < w.heap.size → Q b) : RulesAt w Q rs A := h.keep (fun _ _ _ _ => rfl) hQ
theorem RulesAt.nil {w : World} {P : Nat → Prop} {A : Option Addr} : RulesAt w P [] A := fun i r h => by simp at h

/-- The cells of a rule. -/
def ruleCell (r : RuleS) (B : Option Addr) (cap : Nat) : List Value := .string (strOf r.name) :: ndCell r.body B cap
/-- Cells that are those of rules, with their trees in memory. -/
def RulesAre (w : World) (P : Nat → Prop) : List RuleS → List Value → Prop
  | [], cs => cs = []
  | r :: l, cs => ∃ B cap rest, cs = ruleCell r B cap ++ rest ∧ r.body.kids.len ≤ cap ∧ TreesAt w P r.body.kids B ∧ RulesAre w P l rest
theorem RulesAre.keep {w w' : World} {P Q : Nat → Prop} (hk : ∀ b o, P b → b < w.heap.size → w'.cell? ⟨b, o, none⟩ = w.cell? ⟨b, o, none⟩) (hQ : ∀ b, P b → b < w.heap.size → Q b) : ∀ {l : List RuleS} {cs : List Value}, RulesAre w P l cs → RulesAre w' Q l cs
  | [], cs, h => h
  | x :: l, cs, ⟨B, cap, rest, hcs, hc, ht, hr⟩ => ⟨B, cap, rest, hcs, hc, ht.keep hk hQ, hr.keep hk hQ⟩
theorem RulesAre.below {w w' : World} {P : Nat → Prop} (hb : Below w.heap.size w w') {l : List RuleS} {cs : List Value} (h : RulesAre w P l cs) : RulesAre w' P l cs :=
  h.keep (fun b o _ hl => hb.cell (p := ⟨b, o, none⟩) hl) (fun b hp _ => hp)
theorem RulesAre.snoc {w : World} {P : Nat → Prop} {x : RuleS} {B : Option Addr} {cap : Nat} (hc : x.body.kids.len ≤ cap) (ht : TreesAt w P x.body.kids B) : ∀ {l : List RuleS} {cs : List Value}, RulesAre w P l cs → RulesAre w P (l ++ [x]) (cs ++ ruleCell x B cap)
  | [], cs, h => by
    have : cs = [] := h
    subst this
    exact ⟨B, cap, [], by simp, hc, ht, rfl⟩
  | y :: l, cs, ⟨B', cap', rest, hcs, hc', ht', hr⟩ => ⟨B', cap', rest ++ ruleCell x B cap, by rw [hcs, List.append_assoc], hc', ht', hr.snoc hc ht⟩
theorem RulesAre.length {w : World} {P : Nat → Prop} : ∀ {l : List RuleS} {cs : List Value}, RulesAre w P l cs → cs.length = l.length * 9
  | [], cs, h => by have : cs = [] := h; subst this; rfl
  | y :: l, cs, ⟨B', cap', rest, hcs, hc', ht', hr⟩ => by
    have := hr.length
    rw [hcs, List.length_append, this]
    simp [ruleCell, ndCell]
    omega
theorem RulesAre.get {w : World} {P : Nat → Prop} : ∀ {l : List RuleS} {cs : List Value} {i : Nat} {x : RuleS}, RulesAre w P l cs → l[i]? = some x →
    ∃ B cap, x.body.kids.len ≤ cap ∧ TreesAt w P x.body.kids B ∧ ∀ j, j < 9 → cs[i * 9 + j]? = (ruleCell x B cap)[j]?
  | [], cs, i, x, _, hx => by simp at hx
  | y :: l, cs, 0, x, ⟨B, cap, rest, hcs, hc, ht, hr⟩, hx => by
    simp at hx
    subst hx
    refine ⟨B, cap, hc, ht, fun j hj => ?_⟩
    rw [hcs, Nat.zero_mul, Nat.zero_add, List.getElem?_append_left (by simpa [ruleCell, ndCell] using hj)]
  | y :: l, cs, i + 1, x, ⟨B, cap, rest, hcs, hc, ht, hr⟩, hx => by
    obtain ⟨B', cap', hc', ht', hg⟩ := RulesAre.get (i := i) hr (by simpa using hx)
    refine ⟨B', cap', hc', ht', fun j hj => ?_⟩
    have hl : (ruleCell y B cap).length = 9 := by simp [ruleCell, ndCell]
    rw [hcs, List.getElem?_append_right (by omega), hl, show (i + 1) * 9 + j - 9 = i * 9 + j by omega]
    exact hg j hj
/-- A row that a call owns is a row of rules. -/
theorem rules_of {w : World} {base : Nat} {v : Value} {P : Nat → Prop} {l : List RuleS} {cs : List Value} (h : w.ownsRow base 39 9 v l.length cs) (hc : RulesAre w P l cs) (hP : ∀ g, v.ownBlock = some g → P g) :
    ∃ A cap, v = .slice A l.length cap ∧ l.length ≤ cap ∧ RulesAt w P l A := by
  obtain ⟨h1, h2 | ⟨g, cap, cur, e1, e2, h3⟩⟩ := id h
  · obtain ⟨rfl, h0⟩ := h2
    have : l = [] := List.length_eq_zero_iff.1 h0
    subst this
    exact ⟨none, 0, rfl, Nat.le_refl _, RulesAt.nil⟩
  · subst e1
    refine ⟨_, cap, rfl, h3.2.1, fun i x hx => ?_⟩
    obtain ⟨B, cap', hc', ht', hg⟩ := hc.get hx
    have hcl := h.cells (g := g) rfl
    have hat : ∀ j u, j < 9 → (ruleCell x B cap')[j]? = some u → w.cell? ⟨g, 0 + i * 9 + j, none⟩ = some u := fun j u hj hu => by
      have := hcl (i * 9 + j) u ((hg j hj).trans hu)
      have e : (⟨g, 0, none⟩ : Addr).add (i * 9 + j) = ⟨g, 0 + i * 9 + j, none⟩ := by
        rcases Nat.eq_zero_or_pos (i * 9 + j) with hz | hz
        · rw [show 0 + i * 9 + j = 0 by omega, hz]; rfl
        · have h1 : ¬ (i * 9 = 0 ∧ j = 0) := by omega
          simp [Addr.add, h1]
      exact e ▸ this
    exact ⟨g, 0, B, cap', rfl, hP g rfl, hc', hat 0 _ (by decide) rfl, ⟨hat 1 _ (by decide) rfl, hat 2 _ (by decide) rfl, hat 3 _ (by decide) rfl, hat 4 _ (by decide) rfl, hat 5 _ (by decide) rfl, hat 6 _ (by decide) rfl, hat 7 _ (by decide) rfl, hat 8 _ (by decide) rfl⟩, ht'⟩

theorem u8_inj {a b : List Nat} (ha : ∀ c ∈ a, c < 256) (hb : ∀ c ∈ b, c < 256) (h : a.map UInt8.ofNat = b.map UInt8.ofNat) : a = b := by
  have e : ∀ l : List Nat, (∀ c ∈ l, c < 256) → (l.map UInt8.ofNat).map UInt8.toNat = l := by
    intro l hl
    rw [List.map_map]
    conv => rhs; rw [← List.map_id l]
    refine List.map_congr_left (fun c hc => ?_)
    have := hl c hc
    simp
    omega
  rw [← e a ha, ← e b hb, h]
theorem strOf_list (l : List Nat) : (strOf l).data.toList = l.map UInt8.ofNat := by simp [strOf]
/-- Block b is a map that knows the names of rules. -/
def NamesAt (w : World) (b : Nat) (rs : List RuleS) : Prop := (∀ r ∈ rs, ∀ c ∈ r.name, c < 256) ∧ ∃ D : DataW Unit, w.ownsMap Try.prog 9 (plainElem Try.prog 4) b rs.length D ∧ IsMap D ∧
  ∀ nm : List Nat, (∀ c ∈ nm, c < 256) → D.atKey (.string (nm.map UInt8.ofNat)) (.lit (.bool false)) = .lit (.bool (called rs nm))
theorem zero_bool (w : World) : (zeroValue 4).run Try.prog w = .ok (.bool false) w := by kernel_rfl
theorem NamesAt.look {w : World} {b : Nat} {rs : List RuleS} (h : NamesAt w b rs) {nm : List Nat} (hn : ∀ c ∈ nm, c < 256) (hl : nm.length ≤ 140737488355328) :
    (Instr.lookup 59 (.map (some b)) (.string (strOf nm)) false).run Try.prog w = .ok (.bool (called rs nm)) w := by
  obtain ⟨_, D, hown, _, hat⟩ := h
  obtain ⟨v, ps, hrun, hv⟩ := hown.lookup (string_keyed Try.underlying9) Try.underlying59 (zero_bool w) (plainElem_bool Try.underlying4 false) (WideMaps.keyOf_string_mk Try.underlying9 (show (strOf nm).size ≤ maxLen by rw [strOf_size]; exact Nat.le_trans hl (by decide)))
  rw [strOf_list, hat nm hn] at hv
  unfold plainElem at hv
  rw [Try.underlying4] at hv
  cases v <;> simp at hv
  rw [hrun, hv.1]
theorem NamesAt.kept {w w' : World} {b : Nat} {rs : List RuleS} {row : Option Nat} (h : NamesAt w b rs) (hg : w.grownBy w' row) (hne : some b ≠ row) : NamesAt w' b rs := by
  obtain ⟨h0, D, hown, h1, h2⟩ := h
  exact ⟨h0, D, hown.kept hg hne, h1, h2⟩
theorem NamesAt.lt {w : World} {b : Nat} {rs : List RuleS} (h : NamesAt w b rs) : b < w.heap.size := by
  obtain ⟨_, D, hown, _⟩ := h
  exact hown.lt
theorem NamesAt.block {w w' : World} {b : Nat} {rs : List RuleS} (h : NamesAt w b rs) (hb : w'.heap[b]? = w.heap[b]?) : NamesAt w' b rs := by
  obtain ⟨h0, D, ⟨es, clock, h1, h2⟩, h3⟩ := h
  exact ⟨h0, D, ⟨es, clock, hb.trans h1, h2⟩, h3⟩
theorem NamesAt.below {w w' : World} {b B : Nat} {rs : List RuleS} (h : NamesAt w b rs) (hb : Below B w w') (hl : b < B) : NamesAt w' b rs := h.block (hb.block b hl)
theorem NamesAt.new (w : World) : NamesAt (w.alloc (.map #[] 0)) w.heap.size [] :=
  ⟨fun r hr => (by cases hr), DataW.map [], World.ownsMap_made w _ _ _, isMap_empty, fun nm _ => rfl⟩
theorem NamesAt.put {w w' : World} {b : Nat} {rs : List RuleS} {D : DataW Unit} {nm : List Nat} {x : Nd} (h0 : ∀ r ∈ rs, ∀ c ∈ r.name, c < 256) (hm : IsMap D) (hat : ∀ nm : List Nat, (∀ c ∈ nm, c < 256) → D.atKey (.string (nm.map UInt8.ofNat)) (.lit (.bool false)) = .lit (.bool (called rs nm)))
    (hn : ∀ c ∈ nm, c < 256) (hown : w'.ownsMap Try.prog 9 (plainElem Try.prog 4) b (rs.length + 1) (D.put (.string (nm.map UInt8.ofNat)) (.lit (.bool true)))) : NamesAt w' b (rs ++ [⟨nm, x⟩]) := by
  refine ⟨fun r hr => ?_, _, by simpa using hown, hm.put _ _, fun n hn' => ?_⟩
  · rcases List.mem_append.1 hr with hr | hr
    · exact h0 r hr
    · rw [List.mem_singleton.1 hr]; exact hn
  · rw [called_app]
    by_cases e : n = nm
    · subst e
      rw [atKey_put_same hm (k := .string (n.map UInt8.ofNat)) trivial]
      simp [called]
    · rw [atKey_put_other (fun e' => e (u8_inj hn' hn (by simpa using e'))), hat n hn']
      have : called [⟨nm, x⟩] n = false := by simp [called]; exact fun h => e h.symm
      rw [this, Bool.or_false]
end Go.Proofs.Ytgbpcigfbpghgaa
namespace Go.Proofs.Ytgbpcigfbpghgaa
open Go.RowKit Go.Maps
set_option linter.unusedSimpArgs false
set_option linter.unusedVariables false
set_option maxRecDepth 100000

theorem strOf_eq {a b : List Nat} (ha : ∀ c ∈ a, c < 256) (hb : ∀ c ∈ b, c < 256) : strOf a = strOf b ↔ a = b := by
  constructor
  · intro h
    exact u8_inj ha hb (by rw [← strOf_list, ← strOf_list, h])
  · rintro rfl; rfl
theorem strOf_ne {a b : List Nat} (ha : ∀ c ∈ a, c < 256) (hb : ∀ c ∈ b, c < 256) (h : a ≠ b) : ((strOf a).toList == (strOf b).toList) = false := by
  rw [beq_eq_false_iff_ne, ByteArray.toList_eq, ByteArray.toList_eq, strOf_list, strOf_list]
  exact fun e => h (u8_inj ha hb e)
theorem called_get {rs : List RuleS} {nm : List Nat} : called rs nm = true ↔ ∃ (k : Nat) (r : RuleS), rs[k]? = some r ∧ r.name = nm := by
  unfold called
  rw [List.any_eq_true]
  constructor
  · rintro ⟨r, hr, he⟩
    obtain ⟨k, hk⟩ := List.getElem?_of_mem hr
    exact ⟨k, r, hk, by simpa using he⟩
  · rintro ⟨k, r, hk, he⟩
    exact ⟨r, List.mem_of_getElem? hk, by simpa using he⟩
set_option maxHeartbeats 1000000 in
theorem rhas_go (A : Option Addr) (cap : Nat) (rs : List RuleS) (nm : List Nat) (P : Nat → Prop) (w : World) (hA : RulesAt w P rs A) (hl : rs.length ≤ 100000) (h256 : ∀ r ∈ rs, ∀ c ∈ r.name, c < 256) (hn : ∀ c ∈ nm, c < 256) :
    Calls Try.prog 9 #[.slice A rs.length cap, .string (strOf nm)] w fun e w' => e = .returned (.bool (called rs nm)) ∧ w = w' := by
  have HA := Lib.hid hA
  have H2 := Lib.hid h256
  have HN := Lib.hid hn
  clear hA h256 hn
  go_enter Try.func9, Try.ntmps9
  go_wp2
  go_loop [5] (fun i => ∃ k : Nat, k ≤ rs.length ∧ Hid (∀ j r, j < k → rs[j]? = some r → r.name ≠ nm) ∧ i = .int .i64 (k : Int)) (fun i => rs.length - (intOf i).toNat)
  case atStart => exact ⟨0, Nat.zero_le _, Lib.hid (fun j r h => by omega), rfl⟩
  case round =>
    obtain ⟨k, hk, HK, rfl⟩ := hrel
    by_cases hlt : k < rs.length
    · obtain ⟨r, hr⟩ : ∃ r, rs[k]? = some r := ⟨_, List.getElem?_eq_getElem hlt⟩
      obtain ⟨b, o, B, capb, rfl, _, _, hc, _⟩ := HA.out k r hr
      have heq := strOf_eq (H2.out r (List.mem_of_getElem? hr)) HN.out
      have HR := Lib.hid hr
      by_cases he : r.name = nm
      · have HV := Lib.hid (called_get.2 ⟨k, r, hr, he⟩)
        have hs : ((strOf r.name).toList == (strOf nm).toList) = true := by rw [he]; simp
        clear heq hr he
        go_wp2
        go_ret
        exact ⟨ret_b HV.out.symm, rfl⟩
      · have HV := Lib.hid (show ∀ j r, j < k + 1 → rs[j]? = some r → r.name ≠ nm from fun j r' hj hr' => by
          rcases Nat.lt_or_ge j k with h | h
          · exact HK.out j r' h hr'
          · obtain rfl : j = k := by omega
            rw [HR.out] at hr'
            cases hr'
            exact he)
        have hs := strOf_ne (H2.out r (List.mem_of_getElem? hr)) HN.out he
        clear hr heq he
        go_wp2
        go_round
        case rel => exact ⟨k + 1, by omega, HV, by go_num⟩
        case measure => simp [intOf]; omega
    · have HV := Lib.hid (show called rs nm = false from by
        cases hc : called rs nm
        · rfl
        · obtain ⟨j, r, hj, he⟩ := called_get.1 hc
          exact absurd he (HK.out j r (by have := (List.getElem?_eq_some_iff.1 hj).1; omega) hj))
      go_wp2
      go_ret
      exact ⟨ret_b HV.out.symm, rfl⟩

end Go.Proofs.Ytgbpcigfbpghgaa
namespace Go.Proofs.Ytgbpcigfbpghgaa
open Go.RowKit
set_option linter.unusedSimpArgs false
set_option linter.unusedVariables false
set_option maxRecDepth 100000

theorem Blk.put8 {w : World} {g : Nat} {t : TypeId} {a0 a1 a2 a3 a4 a5 a6 a7 : Value} (h : Blk w g t #[a0, a1, a2, a3, a4, a5, a6, a7]) (b0 b1 b2 b3 b4 b5 b6 b7 : Value) : Blk ((((((((w.setCell ⟨g, 0, none⟩ b0).setCell ⟨g, 1, none⟩ b1).setCell ⟨g, 2, none⟩ b2).setCell ⟨g, 3, none⟩ b3).setCell ⟨g, 4, none⟩ b4).setCell ⟨g, 5, none⟩ b5).setCell ⟨g, 6, none⟩ b6).setCell ⟨g, 7, none⟩ b7) g t #[b0, b1, b2, b3, b4, b5, b6, b7] := by
  have h1 : Blk (w.setCell ⟨g, 0, none⟩ b0) g t #[b0, a1, a2, a3, a4, a5, a6, a7] := Blk.set_ h 0 b0
  have h2 : Blk ((w.setCell ⟨g, 0, none⟩ b0).setCell ⟨g, 1, none⟩ b1) g t #[b0, b1, a2, a3, a4, a5, a6, a7] := Blk.set_ h1 1 b1
  have h3 : Blk (((w.setCell ⟨g, 0, none⟩ b0).setCell ⟨g, 1, none⟩ b1).setCell ⟨g, 2, none⟩ b2) g t #[b0, b1, b2, a3, a4, a5, a6, a7] := Blk.set_ h2 2 b2
  have h4 : Blk ((((w.setCell ⟨g, 0, none⟩ b0).setCell ⟨g, 1, none⟩ b1).setCell ⟨g, 2, none⟩ b2).setCell ⟨g, 3, none⟩ b3) g t #[b0, b1, b2, b3, a4, a5, a6, a7] := Blk.set_ h3 3 b3
  have h5 : Blk (((((w.setCell ⟨g, 0, none⟩ b0).setCell ⟨g, 1, none⟩ b1).setCell ⟨g, 2, none⟩ b2).setCell ⟨g, 3, none⟩ b3).setCell ⟨g, 4, none⟩ b4) g t #[b0, b1, b2, b3, b4, a5, a6, a7] := Blk.set_ h4 4 b4
  have h6 : Blk ((((((w.setCell ⟨g, 0, none⟩ b0).setCell ⟨g, 1, none⟩ b1).setCell ⟨g, 2, none⟩ b2).setCell ⟨g, 3, none⟩ b3).setCell ⟨g, 4, none⟩ b4).setCell ⟨g, 5, none⟩ b5) g t #[b0, b1, b2, b3, b4, b5, a6, a7] := Blk.set_ h5 5 b5
  have h7 : Blk (((((((w.setCell ⟨g, 0, none⟩ b0).setCell ⟨g, 1, none⟩ b1).setCell ⟨g, 2, none⟩ b2).setCell ⟨g, 3, none⟩ b3).setCell ⟨g, 4, none⟩ b4).setCell ⟨g, 5, none⟩ b5).setCell ⟨g, 6, none⟩ b6) g t #[b0, b1, b2, b3, b4, b5, b6, a7] := Blk.set_ h6 6 b6
  have h8 : Blk ((((((((w.setCell ⟨g, 0, none⟩ b0).setCell ⟨g, 1, none⟩ b1).setCell ⟨g, 2, none⟩ b2).setCell ⟨g, 3, none⟩ b3).setCell ⟨g, 4, none⟩ b4).setCell ⟨g, 5, none⟩ b5).setCell ⟨g, 6, none⟩ b6).setCell ⟨g, 7, none⟩ b7) g t #[b0, b1, b2, b3, b4, b5, b6, b7] := Blk.set_ h7 7 b7
  exact h8
theorem Blk.past8 {w : World} {g g' : Nat} {t : TypeId} {cs : Array Value} (h : Blk w g t cs) (hg : g ≠ g') (b0 b1 b2 b3 b4 b5 b6 b7 : Value) : Blk ((((((((w.setCell ⟨g', 0, none⟩ b0).setCell ⟨g', 1, none⟩ b1).setCell ⟨g', 2, none⟩ b2).setCell ⟨g', 3, none⟩ b3).setCell ⟨g', 4, none⟩ b4).setCell ⟨g', 5, none⟩ b5).setCell ⟨g', 6, none⟩ b6).setCell ⟨g', 7, none⟩ b7) g t cs :=
  ((((((((h.far (p := ⟨g', 0, none⟩) hg b0).far (p := ⟨g', 1, none⟩) hg b1).far (p := ⟨g', 2, none⟩) hg b2).far (p := ⟨g', 3, none⟩) hg b3).far (p := ⟨g', 4, none⟩) hg b4).far (p := ⟨g', 5, none⟩) hg b5).far (p := ⟨g', 6, none⟩) hg b6).far (p := ⟨g', 7, none⟩) hg b7)
theorem below_put8 {B g : Nat} {a w : World} (h : Below B a w) (hg : B ≤ g) (b0 b1 b2 b3 b4 b5 b6 b7 : Value) : Below B a ((((((((w.setCell ⟨g, 0, none⟩ b0).setCell ⟨g, 1, none⟩ b1).setCell ⟨g, 2, none⟩ b2).setCell ⟨g, 3, none⟩ b3).setCell ⟨g, 4, none⟩ b4).setCell ⟨g, 5, none⟩ b5).setCell ⟨g, 6, none⟩ b6).setCell ⟨g, 7, none⟩ b7) :=
  ((((((((h.setCell (p := ⟨g, 0, none⟩) hg b0).setCell (p := ⟨g, 1, none⟩) hg b1).setCell (p := ⟨g, 2, none⟩) hg b2).setCell (p := ⟨g, 3, none⟩) hg b3).setCell (p := ⟨g, 4, none⟩) hg b4).setCell (p := ⟨g, 5, none⟩) hg b5).setCell (p := ⟨g, 6, none⟩) hg b6).setCell (p := ⟨g, 7, none⟩) hg b7)
/-- The parser's block p: the lexemes that are left, and as many open brackets as m, in a row of its own. -/
def PAt (W : World) (p : Nat) (v : Value) (L : List Lex) (m : Nat) : Prop :=
  ∃ A cap xs, Blk W p 116 #[.slice A L.length cap, v] ∧ L.length ≤ cap ∧ LexsAt W p A L ∧ W.ownsRow (p + 1) 3 1 v m xs
/-- Blocks that are neither the parser's nor that of its open brackets. -/
def Off (p : Nat) (v : Value) (b : Nat) : Prop := b ≠ p ∧ some b ≠ v.ownBlock
/-- Such blocks from n on. -/
def New (n p : Nat) (v : Value) (b : Nat) : Prop := n ≤ b ∧ Off p v b
/-- What a step of the parser keeps. -/
def Still (p : Nat) (w : World) (v : Value) (w' : World) (v' : Value) : Prop :=
  Below p w w' ∧ (∀ b, b < w.heap.size → Off p v b → w'.heap[b]? = w.heap[b]?) ∧ (∀ g, v'.ownBlock = some g → v.ownBlock = some g ∨ w.heap.size ≤ g)
theorem Still.refl (p : Nat) (w : World) (v : Value) : Still p w v w v := ⟨Below.refl _ _, fun _ _ _ => rfl, fun _ h => .inl h⟩
theorem Still.trans {p : Nat} {w w1 w2 : World} {v v1 v2 : Value} (h : Still p w v w1 v1) (h' : Still p w1 v1 w2 v2) : Still p w v w2 v2 := by
  refine ⟨h.1.trans h'.1, fun b hb ho => ?_, fun g hg => ?_⟩
  · have : Off p v1 b := ⟨ho.1, fun e => by
      rcases h.2.2 b e.symm with h1 | h1
      · exact ho.2 h1.symm
      · omega⟩
    exact (h'.2.1 b (Nat.lt_of_lt_of_le hb h.1.size) this).trans (h.2.1 b hb ho)
  · rcases h'.2.2 g hg with h1 | h1
    · exact h.2.2 g h1
    · exact .inr (Nat.le_trans h.1.size h1)
theorem Still.off {p : Nat} {w w' : World} {v v' : Value} (h : Still p w v w' v') {b : Nat} (hb : Off p v b) (hl : b < w.heap.size) : Off p v' b :=
  ⟨hb.1, fun e => by
    rcases h.2.2 b e.symm with h1 | h1
    · exact hb.2 h1.symm
    · omega⟩
theorem Still.cell {p : Nat} {w w' : World} {v v' : Value} (h : Still p w v w' v') {b : Nat} (hb : Off p v b) (hl : b < w.heap.size) (o : Nat) : w'.cell? ⟨b, o, none⟩ = w.cell? ⟨b, o, none⟩ :=
  World.cell?_of_block (h.2.1 b hl hb)
theorem Still.blk {p : Nat} {w w' : World} {v v' : Value} (h : Still p w v w' v') {b : Nat} (hb : Off p v b) {t : TypeId} {cs : Array Value} (hk : Blk w b t cs) : Blk w' b t cs := (h.2.1 b hk.lt hb).trans hk
theorem Still.trees {n p : Nat} {w w' : World} {v v' : Value} (h : Still p w v w' v') {F : Trees} {A : Option Addr} (ht : TreesAt w (New n p v) F A) : TreesAt w' (New n p v') F A :=
  ht.keep (fun b o hb hl => h.cell hb.2 hl o) (fun b hb hl => ⟨hb.1, h.off hb.2 hl⟩)
theorem Still.cells {n p : Nat} {w w' : World} {v v' : Value} (h : Still p w v w' v') {l : List Nd} {cs : List Value} (ht : CellsAre w (New n p v) l cs) : CellsAre w' (New n p v') l cs :=
  ht.keep (fun b o hb hl => h.cell hb.2 hl o) (fun b hb hl => ⟨hb.1, h.off hb.2 hl⟩)
/-- A row that a caller owns, of blocks behind the parser's. -/
theorem Still.own {p : Nat} {w w' : World} {v v' : Value} (h : Still p w v w' v') {base size n : Nat} {e : TypeId} {u : Value} {xs : List Value} (hr : w.ownsRow base e size u n xs) (ho : ∀ g, u.ownBlock = some g → Off p v g) : w'.ownsRow base e size u n xs := by
  refine ⟨hr.1, ?_⟩
  rcases hr.2 with hn | ⟨g, cap, cur, rfl, hb, hgg, rest⟩
  · exact .inl hn
  · exact .inr ⟨g, cap, cur, rfl, hb, (h.2.1 g (Array.getElem?_eq_some_iff.1 hgg).1 (ho g rfl)).trans hgg, rest⟩
/-- New blocks alone. -/
theorem Still.of_below {p : Nat} {w w' : World} {v : Value} (h : Below w.heap.size w w') (hp : p ≤ w.heap.size) : Still p w v w' v :=
  ⟨h.mono hp, fun b hb _ => h.block b hb, fun _ h => .inl h⟩

theorem Still.set {p : Nat} {w w' : World} {v v' : Value} (h : Still p w v w' v') (o : Nat) (u : Value) : Still p w v (w'.setCell ⟨p, o, none⟩ u) v' :=
  ⟨h.1.setCell (p := ⟨p, o, none⟩) (Nat.le_refl _) u, fun b hb ho => (Below.heap_setCell w' ⟨p, o, none⟩ u b ho.1).trans (h.2.1 b hb ho), h.2.2⟩
theorem Still.more {p : Nat} {w w' w2 : World} {v v' : Value} (h : Still p w v w' v') (hb : Below w'.heap.size w' w2) (hp : p ≤ w.heap.size) : Still p w v w2 v' :=
  h.trans (Still.of_below hb (Nat.le_trans hp h.1.size))
theorem Still.alloc {p : Nat} {w w' : World} {v v' : Value} (h : Still p w v w' v') (hp : p ≤ w.heap.size) (o : Obj) : Still p w v (w'.alloc o) v' := h.more ((Below.refl _ _).alloc (Nat.le_refl _) o) hp
theorem PAt.lt {W : World} {p : Nat} {v : Value} {L : List Lex} {m : Nat} (h : PAt W p v L m) : p < W.heap.size := by
  obtain ⟨A, cap, xs, hb, _⟩ := h
  exact hb.lt
theorem PAt.below {W W' : World} {p : Nat} {v : Value} {L : List Lex} {m : Nat} (h : PAt W p v L m) (hb : Below W.heap.size W W') : PAt W' p v L m := by
  obtain ⟨A, cap, xs, h1, h2, h3, h4⟩ := h
  exact ⟨A, cap, xs, h1.below hb h1.lt, h2, h3.below (hb.mono (Nat.le_of_lt h1.lt)), own_below h4 hb⟩

set_option maxHeartbeats 1000000 in
theorem peek_nil {W : World} {p : Nat} {v : Value} {m : Nat} (h : PAt W p v [] m) :
    Calls Try.prog 101 #[.pointer (some ⟨p, 0, none⟩)] W fun e W' => e = .returned (.int .i64 0) ∧ W' = W := by
  obtain ⟨A, cap, xs, hb, _⟩ := h
  have c0 := hb.cell 0
  clear hb
  go_enter Try.func101, Try.ntmps101
  go_wp2
  go_ret
  exact ⟨rfl, rfl⟩
set_option maxHeartbeats 1000000 in
theorem peek_go {W : World} {p : Nat} {v : Value} {m : Nat} {x : Lex} {L : List Lex} (h : PAt W p v (x :: L) m) (hlen : L.length ≤ 100000) :
    Calls Try.prog 101 #[.pointer (some ⟨p, 0, none⟩)] W fun e W' => e = .returned (.int .i64 x.kind) ∧ W' = W := by
  obtain ⟨A, cap, xs, hb, hc, hl, _⟩ := h
  obtain ⟨b, o, rfl, hbp, ⟨c0, _⟩, _⟩ := hl.cons
  have s0 := hb.cell 0
  simp only [List.length_cons] at s0 hc
  clear hb hl
  have hz : (((L.length + 1 : Nat) : Int) == 0) = false := by simp; omega
  have hz2 : (((L.length : Int) + 1) == 0) = false := by simp; omega
  have hz3 : (0 : Int) < (L.length : Int) + 1 := by omega
  go_enter Try.func101, Try.ntmps101
  go_wp2
  go_ret
  exact ⟨rfl, rfl⟩

theorem fail_any (k at_ : Int) (W : World) :
    Calls Try.prog 124 #[.int .i64 k, .int .i64 at_] W fun e W' => e = .panicked [{ v := .iface 26 (.agg #[.int .i64 k, .int .i64 at_]), recovered := false }] ∧ W' = W := by
  go_enter Try.func124, Try.ntmps124
  go_wp2
  exact ⟨rfl, rfl, rfl⟩

theorem ret_node {fn : Func} {t : Tmp} (h : fn.results = #[.cell t 37]) {tmps : Array Value} {w : World} {g : Nat} {a0 a1 a2 a3 a4 a5 a6 a7 : Value} (hp : tmps.getD t undef = .pointer (some ⟨g, 0, none⟩)) (hb : Blk w g 37 #[a0, a1, a2, a3, a4, a5, a6, a7]) :
    (results fn tmps).run Try.prog w = .ok (.agg #[a0, a1, a2, a3, a4, a5, a6, a7]) w :=
  results_cell_row h tmps w g _ _ _ _ hp hb Try.underlying37 rfl (by kernel_rfl)
theorem ret_lex {fn : Func} {t : Tmp} (h : fn.results = #[.cell t 97]) {tmps : Array Value} {w : World} {g : Nat} {a0 a1 a2 a3 a4 a5 a6 a7 : Value} (hp : tmps.getD t undef = .pointer (some ⟨g, 0, none⟩)) (hb : Blk w g 97 #[a0, a1, a2, a3, a4, a5, a6, a7]) :
    (results fn tmps).run Try.prog w = .ok (.agg #[a0, a1, a2, a3, a4, a5, a6, a7]) w :=
  results_cell_row h tmps w g _ _ _ _ hp hb Try.underlying97 rfl (by kernel_rfl)

/-- The value of a lexeme. -/
@[inline] def lexV (x : Lex) : Value := .agg #[.int .i64 x.kind, .int .i64 x.place, .int .u64 ((word x.set 0 : Nat) : Int), .int .u64 ((word x.set 1 : Nat) : Int), .int .u64 ((word x.set 2 : Nat) : Int), .int .u64 ((word x.set 3 : Nat) : Int), .int .i64 x.lo, .int .i64 x.hi]
set_option maxHeartbeats 1000000 in
theorem next_any {W : World} {p : Nat} {v : Value} {m : Nat} {x : Lex} {L : List Lex} (h : PAt W p v (x :: L) m) (hlen : L.length ≤ 100000) :
    Calls Try.prog 102 #[.pointer (some ⟨p, 0, none⟩)] W fun e W' => e = .returned (lexV x) ∧ PAt W' p v L m ∧ Still p W v W' v := by
  obtain ⟨A, cap, xs, hb, hc, hl, hr⟩ := h
  obtain ⟨b, o, rfl, hbp, ⟨c0, c1, c2, c3, c4, c5, c6, c7⟩, hl2⟩ := hl.cons
  have s0 : W.cell? ⟨p, 0, none⟩ = some (.slice (some ⟨b, o, none⟩) (L.length + 1) cap) := hb.cell 0
  have f0 := hb.frozen 0
  have hp := hb.lt
  have HB := Lib.hid hb
  have HL2 := Lib.hid hl2
  have HR := Lib.hid hr
  simp only [List.length_cons] at hc
  have hz : (0 : Int) < (L.length : Int) + 1 := by omega
  have hbs : b < W.heap.size := by omega
  clear hb hl hr hl2
  go_enter Try.func102, Try.ntmps102
  go_wp2
  go_light
  all_goals
    have hne := blk_not_row HB.out (by decide) HR.out
    refine bodyPost_ret (ret_lex Try.results102 rfl ((Blk.new_at (by simp)).alloc _)) rfl ⟨rfl, ⟨_, _, _, ((HB.out.set_ 0 _).alloc _).alloc _, by omega, ?_, ((own_set HR.out hne).alloc _).alloc _⟩, (((Still.refl p W v).set 0 _).alloc (Nat.le_of_lt hp) _).alloc (Nat.le_of_lt hp) _⟩
  · by_cases hL : L = []
    · subst hL; exact LexsAt.nil
    · have := List.length_pos_iff.2 hL
      omega
  · exact HL2.out.below ((((Below.refl p W).setCell (p := ⟨p, 0, none⟩) (Nat.le_refl _) _).alloc (by simpa [World.setCell] using Nat.le_of_lt hp) _).alloc (by simp [World.setCell]; omega) _)

@[go_sem] theorem lex_field1 (a b c d e f g h : Value) (w : World) : (Instr.field 97 (.agg #[a, b, c, d, e, f, g, h]) 1).run Try.prog w = .ok b w := by kernel_rfl
@[go_sem] theorem lex_field2 (a b c d e f g h : Value) (w : World) : (Instr.field 97 (.agg #[a, b, c, d, e, f, g, h]) 2).run Try.prog w = .ok (.agg #[c, d, e, f]) w := by kernel_rfl

end Go.Proofs.Ytgbpcigfbpghgaa
namespace Go.Proofs.Ytgbpcigfbpghgaa
open Go.RowKit
set_option linter.unusedSimpArgs false
set_option linter.unusedVariables false
set_option maxRecDepth 100000

theorem word_zero (i : Nat) : word (Nat.testBit 0) i = 0 := by
  have : (Nat.testBit 0) = fun _ => false := by funext j; simp
  rw [this]
  exact word_none i
theorem ndV_plain (k : Int) (ks : Trees) (lo hi : Int) (B : Option Addr) (cap : Nat) : ndV ⟨k, 0, ks, lo, hi⟩ B cap = .agg #[.int .i64 k, .int .u64 0, .int .u64 0, .int .u64 0, .int .u64 0, .slice B ks.len cap, .int .i64 lo, .int .i64 hi] := by
  unfold ndV
  simp only [word_zero]
  rfl
/-- The cells of a node, as a block. -/
@[inline] def ndA (x : Nd) (B : Option Addr) (cap : Nat) : Array Value :=
  #[.int .i64 x.kind, .int .u64 ((word x.set.testBit 0 : Nat) : Int), .int .u64 ((word x.set.testBit 1 : Nat) : Int), .int .u64 ((word x.set.testBit 2 : Nat) : Int), .int .u64 ((word x.set.testBit 3 : Nat) : Int), .slice B x.kids.len cap, .int .i64 x.lo, .int .i64 x.hi]
theorem NdAt.of_blk {w : World} {g : Nat} {t : TypeId} {x : Nd} {B : Option Addr} {cap : Nat} (h : Blk w g t (ndA x B cap)) : NdAt w g 0 x.kind x.set x.kids.len x.lo x.hi B cap :=
  ⟨h.cell 0, h.cell 1, h.cell 2, h.cell 3, h.cell 4, h.cell 5, h.cell 6, h.cell 7⟩
/-- A row of one node. -/
theorem TreesAt.one {w : World} {P : Nat → Prop} {g : Nat} {t : TypeId} {x : Nd} {B : Option Addr} {cap : Nat} (h : Blk w g t (ndA x B cap)) (hc : x.kids.len ≤ cap) (ht : TreesAt w P x.kids B) (hg : P g) : TreesAt w P (Trees.of [x]) (some ⟨g, 0, none⟩) :=
  ⟨g, 0, B, cap, rfl, hg, hc, NdAt.of_blk h, ht, trivial⟩

/-- What comes of a node with one kid, the kid in a new row. -/
def Overs (k : Int) (x : Nd) (B : Option Addr) (cap : Nat) (W : World) (e : Ending) (W' : World) : Prop :=
  ∃ g, e = .returned (ndV ⟨k, 0, Trees.of [x], 0, 0⟩ (some ⟨g, 0, none⟩) 1) ∧ Below W.heap.size W W' ∧ W.heap.size ≤ g ∧ Blk W' g 37 (ndA x B cap)
set_option maxHeartbeats 1000000 in
theorem over_go (k : Int) (X : Nat) (x : Nd) (B : Option Addr) (cap : Nat) (W : World) (hX : Blk W X 37 (ndA x B cap)) :
    Calls Try.prog 125 #[.int .i64 k, .pointer (some ⟨X, 0, none⟩)] W (Overs k x B cap W) := by
  have c0 : W.cell? ⟨X, 0, none⟩ = some (.int .i64 x.kind) := hX.cell 0
  have c1 : W.cell? ⟨X, 1, none⟩ = some (.int .u64 ((word x.set.testBit 0 : Nat) : Int)) := hX.cell 1
  have c2 : W.cell? ⟨X, 2, none⟩ = some (.int .u64 ((word x.set.testBit 1 : Nat) : Int)) := hX.cell 2
  have c3 : W.cell? ⟨X, 3, none⟩ = some (.int .u64 ((word x.set.testBit 2 : Nat) : Int)) := hX.cell 3
  have c4 : W.cell? ⟨X, 4, none⟩ = some (.int .u64 ((word x.set.testBit 3 : Nat) : Int)) := hX.cell 4
  have c5 : W.cell? ⟨X, 5, none⟩ = some (.slice B x.kids.len cap) := hX.cell 5
  have c6 : W.cell? ⟨X, 6, none⟩ = some (.int .i64 x.lo) := hX.cell 6
  have c7 : W.cell? ⟨X, 7, none⟩ = some (.int .i64 x.hi) := hX.cell 7
  have hl := hX.lt
  clear hX
  go_enter Try.func125, Try.ntmps125
  go_wp2
  go_light
  refine bodyPost_ret (ret_node Try.results125 rfl ((Blk.new_at (by simp)).alloc _)) rfl ⟨W.heap.size + 1, by rw [ndV_plain]; rfl, ((Below.refl _ _).alloc (Nat.le_refl _) _).alloc (by simp) _, by omega, Blk.new_at (by simp)⟩

def lenOf : Value → Nat
  | .slice _ n _ => n
  | _ => 0
/-- What posts gives. -/
def Posted (n p : Nat) (v : Value) (m : Nat) (r : Nd × List Lex) (W : World) (e : Ending) (W' : World) : Prop :=
  ∃ B cap, e = .returned (ndV r.1 B cap) ∧ PAt W' p v r.2 m ∧ Still p W v W' v ∧ r.1.kids.len ≤ cap ∧ TreesAt W' (New n p v) r.1.kids B
/-- What holds in each round of posts: the box X holds the node so far. -/
def InPosts (n p : Nat) (v : Value) (m X : Nat) (r : Nd × List Lex) (W wr : World) : Prop :=
  ∃ z B cap L, postsG z L = r ∧ L.length ≤ 100000 ∧ PAt wr p v L m ∧ Still p W v wr v ∧ Blk wr X 37 (ndA z B cap) ∧ Blk wr (X + 1) 37 #[.int .i64 0, .int .u64 0, .int .u64 0, .int .u64 0, .int .u64 0, .slice none 0 0, .int .i64 0, .int .i64 0] ∧ z.kids.len ≤ cap ∧ TreesAt wr (fun b => New n p v b ∧ b ≠ X ∧ b ≠ X + 1) z.kids B

theorem PAt.len {w : World} {p : Nat} {v : Value} {L : List Lex} {m : Nat} (h : PAt w p v L m) : lenOf ((w.cell? ⟨p, 0, none⟩).getD undef) = L.length := by
  obtain ⟨A, cap, xs, hb, _⟩ := h
  have h0 : w.cell? ⟨p, 0, none⟩ = some (.slice A L.length cap) := hb.cell 0
  rw [h0]
  rfl
theorem only_put8 (w : World) (Y : Nat) (b0 b1 b2 b3 b4 b5 b6 b7 : Value) : w.grownBy ((((((((w.setCell ⟨Y, 0, none⟩ b0).setCell ⟨Y, 1, none⟩ b1).setCell ⟨Y, 2, none⟩ b2).setCell ⟨Y, 3, none⟩ b3).setCell ⟨Y, 4, none⟩ b4).setCell ⟨Y, 5, none⟩ b5).setCell ⟨Y, 6, none⟩ b6).setCell ⟨Y, 7, none⟩ b7) (some Y) :=
  only_set (only_set (only_set (only_set (only_set (only_set (only_set (only_set (only_refl w _) 0 b0) 1 b1) 2 b2) 3 b3) 4 b4) 5 b5) 6 b6) 7 b7
theorem PAt.only {w w' : World} {p Y : Nat} {v : Value} {L : List Lex} {m : Nat} (h : PAt w p v L m) (hg : w.grownBy w' (some Y)) (hp : p < Y) (hv : ∀ g, v.ownBlock = some g → g ≠ Y) : PAt w' p v L m := by
  obtain ⟨A, cap, xs, hb, hc, hl, hr⟩ := h
  exact ⟨A, cap, xs, hb.grown hg (by simp; omega), hc, hl.below ⟨hg.os, hg.tape, hg.output, hg.size, fun k hk => hg.block k (Nat.lt_trans hk hb.lt) (by simp; omega)⟩,
    hr.kept hg (by cases hvo : v.ownBlock with
      | none => exact .inl rfl
      | some g => exact .inr (fun e => hv g hvo (by simpa using e)))⟩
theorem Still.only {w w' : World} {p Y : Nat} {W : World} {v v' : Value} (h : Still p W v w v') (hg : w.grownBy w' (some Y)) (hp : p < W.heap.size) (hY : W.heap.size ≤ Y) : Still p W v w' v' :=
  ⟨h.1.grown hg (by have := h.1.size; omega) (fun k e => by cases e; omega), fun b hb ho => (hg.block b (Nat.lt_of_lt_of_le hb h.1.size) (by simp; omega)).trans (h.2.1 b hb ho), h.2.2⟩
theorem postsG_stop {x : Nd} {y : Lex} {L : List Lex} (h : isPost y.kind = false) : postsG x (y :: L) = (x, y :: L) := by
  conv => lhs; unfold postsG
  rw [if_neg (by rw [h]; decide)]
theorem postsG_go {x : Nd} {y : Lex} {L : List Lex} (h : isPost y.kind = true) : postsG x (y :: L) = postsG (postN y x) L := by
  conv => lhs; unfold postsG
  rw [if_pos h]

theorem ndA_plain (k : Int) (ks : Trees) (lo hi : Int) (B : Option Addr) (cap : Nat) : ndA ⟨k, 0, ks, lo, hi⟩ B cap = #[.int .i64 k, .int .u64 0, .int .u64 0, .int .u64 0, .int .u64 0, .slice B ks.len cap, .int .i64 lo, .int .i64 hi] := by
  unfold ndA
  simp only [word_zero]
  rfl
theorem posts_step {W w1 w2 w3 : World} {n p m g : Nat} {v : Value} {y : Lex} {L : List Lex} {z : Nd} {B : Option Addr} {cap : Nat} {k lo hi : Int} (hv : ∀ g, v.ownBlock = some g → g < W.heap.size) (hn : n ≤ W.heap.size) (hp : p < W.heap.size) (hS : Still p W v w1 v) (hP : PAt w1 p v (y :: L) m)
    (hb2 : Below w1.heap.size w1 w2) (hg2 : w1.heap.size ≤ g) (hB2 : Blk w2 g 37 (ndA z B cap)) (hY : Blk w1 (W.heap.size + 1) 37 #[.int .i64 0, .int .u64 0, .int .u64 0, .int .u64 0, .int .u64 0, .slice none 0 0, .int .i64 0, .int .i64 0])
    (hT : TreesAt w1 (fun b => New n p v b ∧ b ≠ W.heap.size ∧ b ≠ W.heap.size + 1) z.kids B) (hc : z.kids.len ≤ cap) (hlen : L.length + 1 ≤ 100000)
    (h3 : w2.grownBy w3 (some W.heap.size)) (hX3 : Blk w3 W.heap.size 37 (ndA ⟨k, 0, Trees.of [z], lo, hi⟩ (some ⟨g, 0, none⟩) 1)) :
    PAt w3 p v (y :: L) m ∧ ∀ w5, PAt w5 p v L m → Still p w3 v w5 v → InPosts n p v m W.heap.size (postsG ⟨k, 0, Trees.of [z], lo, hi⟩ L) W w5 ∧ lenOf ((w5.cell? ⟨p, 0, none⟩).getD undef) < lenOf ((w1.cell? ⟨p, 0, none⟩).getD undef) := by
  have hY1 := hY.lt
  have hs2 := hb2.size
  have hs3 := h3.size
  have hoX : Off p v W.heap.size := ⟨by omega, fun e => by have := hv _ e.symm; omega⟩
  have hoY : Off p v (W.heap.size + 1) := ⟨by omega, fun e => by have := hv _ e.symm; omega⟩
  have hog : Off p v g := ⟨by omega, fun e => by have := hv _ e.symm; omega⟩
  have h13 : Still p W v w3 v := (hS.more hb2 (Nat.le_of_lt hp)).only h3 hp (Nat.le_refl _)
  refine ⟨(hP.below hb2).only h3 hp (fun g e => by have := hv g e; omega), fun w5 hP5 hS5 => ⟨?_, ?_⟩⟩
  · have ht3 : TreesAt w3 (fun b => New n p v b ∧ b ≠ W.heap.size ∧ b ≠ W.heap.size + 1) (Trees.of [z]) (some ⟨g, 0, none⟩) := by
      refine TreesAt.one (t := 37) (hB2.grown h3 (by simp; omega)) hc ?_ ⟨⟨by omega, hog⟩, by omega, by omega⟩
      exact (hT.below hb2).keep (fun b o hb hl => World.cell?_of_block (h3.block b hl (by simp; omega))) (fun b hb _ => hb)
    refine ⟨⟨k, 0, Trees.of [z], lo, hi⟩, some ⟨g, 0, none⟩, 1, L, rfl, by omega, hP5, h13.trans hS5, hS5.blk hoX hX3, hS5.blk hoY ((hY.below hb2 hY1).grown h3 (by simp)), Nat.le_refl _, ?_⟩
    exact ht3.keep (fun b o hb hl => hS5.cell hb.1.2 hl o) (fun b hb hl => ⟨⟨hb.1.1, hS5.off hb.1.2 hl⟩, hb.2⟩)
  · rw [hP5.len, hP.len]
    simp
set_option maxHeartbeats 4000000 in
theorem posts_go {W : World} {n p : Nat} {v : Value} {L0 : List Lex} {m : Nat} (x : Nd) (B : Option Addr) (cap : Nat) (h : PAt W p v L0 m) (hx : x.kids.len ≤ cap) (ht : TreesAt W (New n p v) x.kids B) (hn : n ≤ W.heap.size) (hlen : L0.length ≤ 100000) :
    Calls Try.prog 114 #[.pointer (some ⟨p, 0, none⟩), ndV x B cap] W (Posted n p v m (postsG x L0) W) := by
  have hp := h.lt
  have hv : ∀ g, v.ownBlock = some g → g < W.heap.size := by
    obtain ⟨_, _, _, _, _, _, hr⟩ := h
    exact fun g e => (hr.lt g e).2
  have h0 : InPosts n p v m W.heap.size (postsG x L0) W ((W.alloc (.cells (ndA x B cap) 37)).alloc (.cells #[.int .i64 0, .int .u64 0, .int .u64 0, .int .u64 0, .int .u64 0, .slice none 0 0, .int .i64 0, .int .i64 0] 37)) := by
    have hb : Below W.heap.size W ((W.alloc (.cells (ndA x B cap) 37)).alloc (.cells #[.int .i64 0, .int .u64 0, .int .u64 0, .int .u64 0, .int .u64 0, .slice none 0 0, .int .i64 0, .int .i64 0] 37)) := ((Below.refl _ _).alloc (Nat.le_refl _) _).alloc (by simp) _
    exact ⟨x, B, cap, L0, rfl, hlen, h.below hb, Still.of_below hb (Nat.le_of_lt hp), (Blk.new _ _ _).alloc _, Blk.new_at (by simp), hx, (ht.weak (fun b h1 h2 => ⟨h1, by omega, by omega⟩)).below hb⟩
  have H0 := Lib.hid h0
  clear h0 h ht
  unfold ndA at H0
  unfold ndV
  go_enter Try.func114, Try.ntmps114
  go_wp2
  go_loopw [7] (fun _ wr => InPosts n p v m W.heap.size (postsG x L0) W wr) (fun _ wr => lenOf ((wr.cell? ⟨p, 0, none⟩).getD undef))
  case atStart => exact H0.out
  case round =>
    obtain ⟨z, B, cap, L, hr, hlen, hP, hS, hX, hY, hc, ht⟩ := hrel
    have hw : W.heap.size ≤ wr.heap.size := hS.1.size
    have hXl := hX.lt
    have hYl := hY.lt
    have x0 : wr.cell? ⟨W.heap.size, 0, none⟩ = some (.int .i64 z.kind) := hX.cell 0
    have x1 : wr.cell? ⟨W.heap.size, 1, none⟩ = some (.int .u64 ((word z.set.testBit 0 : Nat) : Int)) := hX.cell 1
    have x2 : wr.cell? ⟨W.heap.size, 2, none⟩ = some (.int .u64 ((word z.set.testBit 1 : Nat) : Int)) := hX.cell 2
    have x3 : wr.cell? ⟨W.heap.size, 3, none⟩ = some (.int .u64 ((word z.set.testBit 2 : Nat) : Int)) := hX.cell 3
    have x4 : wr.cell? ⟨W.heap.size, 4, none⟩ = some (.int .u64 ((word z.set.testBit 3 : Nat) : Int)) := hX.cell 4
    have x5 : wr.cell? ⟨W.heap.size, 5, none⟩ = some (.slice B z.kids.len cap) := hX.cell 5
    have x6 : wr.cell? ⟨W.heap.size, 6, none⟩ = some (.int .i64 z.lo) := hX.cell 6
    have x7 : wr.cell? ⟨W.heap.size, 7, none⟩ = some (.int .i64 z.hi) := hX.cell 7
    have y0 : wr.cell? ⟨W.heap.size + 1, 0, none⟩ = some (.int .i64 0) := hY.cell 0
    have y1 : wr.cell? ⟨W.heap.size + 1, 1, none⟩ = some (.int .u64 0) := hY.cell 1
    have y2 : wr.cell? ⟨W.heap.size + 1, 2, none⟩ = some (.int .u64 0) := hY.cell 2
    have y3 : wr.cell? ⟨W.heap.size + 1, 3, none⟩ = some (.int .u64 0) := hY.cell 3
    have y4 : wr.cell? ⟨W.heap.size + 1, 4, none⟩ = some (.int .u64 0) := hY.cell 4
    have y5 : wr.cell? ⟨W.heap.size + 1, 5, none⟩ = some (.slice none 0 0) := hY.cell 5
    have y6 : wr.cell? ⟨W.heap.size + 1, 6, none⟩ = some (.int .i64 0) := hY.cell 6
    have y7 : wr.cell? ⟨W.heap.size + 1, 7, none⟩ = some (.int .i64 0) := hY.cell 7
    have g0 := hY.frozen 0
    have g1 := hY.frozen 1
    have g2 := hY.frozen 2
    have g3 := hY.frozen 3
    have g4 := hY.frozen 4
    have g5 := hY.frozen 5
    have g6 := hY.frozen 6
    have g7 := hY.frozen 7
    have HP := Lib.hid hP
    have HS := Lib.hid hS
    have HX := Lib.hid hX
    have HY := Lib.hid hY
    have HT := Lib.hid ht
    have HR := Lib.hid hr
    clear hP hS hX hY ht hr H0
    cases L with
    | nil =>
      go_wp2_with fail
      refine (peek_nil HP.out).mono ?_
      rintro e w1 ⟨rfl, rfl⟩
      go_wp2
      go_light
      have hg := only_put8 w1 (W.heap.size + 1) (.int .i64 z.kind) (.int .u64 ((word z.set.testBit 0 : Nat) : Int)) (.int .u64 ((word z.set.testBit 1 : Nat) : Int)) (.int .u64 ((word z.set.testBit 2 : Nat) : Int)) (.int .u64 ((word z.set.testBit 3 : Nat) : Int)) (.slice B z.kids.len cap) (.int .i64 z.lo) (.int .i64 z.hi)
      rw [← HR.out]
      refine bodyPost_ret (ret_node Try.results114 rfl (HY.out.put8 _ _ _ _ _ _ _ _)) rfl ⟨B, cap, rfl, HP.out.only hg (by omega) (fun g e => by have := hv g e; omega), HS.out.only hg (by omega) (by omega), hc, HT.out.keep (fun b o hb hl => World.cell?_of_block (hg.block b hl (fun e => hb.2.2 (Option.some.inj e)))) (fun b hb hl => hb.1)⟩

    | cons y L =>
      simp only [List.length_cons] at hlen
      by_cases hpost : isPost y.kind = true
      · have hk := (isPost_iff _).1 hpost
        have HR := Lib.hid ((postsG_go hpost).symm.trans HR.out)
        clear hpost
        by_cases h8 : y.kind = 8
        · have HZ := Lib.hid (show postsG x L0 = postsG ⟨9, 0, Trees.of [z], y.lo, y.hi⟩ L by rw [← HR.out]; unfold postN; rw [if_pos h8])
          go_wp2_with fail
          refine (peek_go HP.out (by omega)).mono ?_
          rintro e w1 ⟨rfl, rfl⟩
          rw [h8]
          go_wp2_with fail
          refine (over_go 9 W.heap.size z B cap w1 HX.out).mono ?_
          rintro e w2 ⟨g, rfl, hb2, hg2, hB2⟩
          rw [ndV_plain]
          have hX2 := HX.out.below hb2 hXl
          have hsz2 := hb2.size
          have f0 := hX2.frozen 0
          have f1 := hX2.frozen 1
          have f2 := hX2.frozen 2
          have f3 := hX2.frozen 3
          have f4 := hX2.frozen 4
          have f5 := hX2.frozen 5
          have f6 := hX2.frozen 6
          have f7 := hX2.frozen 7
          have e0 : w2.cell? ⟨W.heap.size, 0, none⟩ = some (.int .i64 z.kind) := hX2.cell 0
          have e1 : w2.cell? ⟨W.heap.size, 1, none⟩ = some (.int .u64 ((word z.set.testBit 0 : Nat) : Int)) := hX2.cell 1
          have e2 : w2.cell? ⟨W.heap.size, 2, none⟩ = some (.int .u64 ((word z.set.testBit 1 : Nat) : Int)) := hX2.cell 2
          have e3 : w2.cell? ⟨W.heap.size, 3, none⟩ = some (.int .u64 ((word z.set.testBit 2 : Nat) : Int)) := hX2.cell 3
          have e4 : w2.cell? ⟨W.heap.size, 4, none⟩ = some (.int .u64 ((word z.set.testBit 3 : Nat) : Int)) := hX2.cell 4
          have e5 : w2.cell? ⟨W.heap.size, 5, none⟩ = some (.slice B z.kids.len cap) := hX2.cell 5
          have e6 : w2.cell? ⟨W.heap.size, 6, none⟩ = some (.int .i64 z.lo) := hX2.cell 6
          have e7 : w2.cell? ⟨W.heap.size, 7, none⟩ = some (.int .i64 z.hi) := hX2.cell 7
          have HX2 := Lib.hid hX2
          have HB2 := Lib.hid hB2
          have Hb2 := Lib.hid hb2
          clear hX2 hB2 hb2 x0 x1 x2 x3 x4 x5 x6 x7 y0 y1 y2 y3 y4 y5 y6 y7 g0 g1 g2 g3 g4 g5 g6 g7
          obtain ⟨A0, cap0, xs0, hb0, hc0, hl0, _⟩ := (HP.out.below Hb2.out)
          obtain ⟨b0, o0, rfl, hbp, ⟨q0, q1, q2, q3, q4, q5, q6, q7⟩, _⟩ := hl0.cons
          have p0 : w2.cell? ⟨p, 0, none⟩ = some (.slice (some ⟨b0, o0, none⟩) (L.length + 1) cap0) := hb0.cell 0
          clear hb0 hl0 q0 q1 q2 q3 q4 q5
          have hz3 : (0 : Int) < (L.length : Int) + 1 := by omega
          have hne1 : ¬ p = W.heap.size := by omega
          have hne2 : ¬ b0 = W.heap.size := by omega
          go_wp2
          go_region
          have hg3 := only_put8 w2 W.heap.size (.int .i64 9) (.int .u64 0) (.int .u64 0) (.int .u64 0) (.int .u64 0) (.slice (some ⟨g, 0, none⟩) (Trees.of [z]).len 1) (.int .i64 0) (.int .i64 0)
          have hx3 := HX2.out.put8 (.int .i64 9) (.int .u64 0) (.int .u64 0) (.int .u64 0) (.int .u64 0) (.slice (some ⟨g, 0, none⟩) (Trees.of [z]).len 1) (.int .i64 0) (.int .i64 0)
          have hx4 := Blk.set_ hx3 6 (.int .i64 y.lo)
          have hx5 := Blk.set_ hx4 7 (.int .i64 y.hi)
          have hstep := posts_step hv hn hp HS.out HP.out Hb2.out hg2 HB2.out HY.out HT.out hc hlen (only_drew (only_set (only_set hg3 6 (.int .i64 y.lo)) 7 (.int .i64 y.hi))) (by rw [ndA_plain]; exact Blk.drew hx5)
          clear hg3 hx3 hx4 hx5
          have HN := Lib.hid hstep.2
          have HM := Lib.hid hstep.1
          clear hstep
          go_wp2_with fail
          refine (next_any HM.out (by omega)).mono ?_
          rintro e w5 ⟨rfl, hP5, hS5⟩
          have HF := Lib.hid (HN.out w5 hP5 hS5)
          clear hP5 hS5
          unfold lexV
          go_wp2
          go_roundw
          case rel => rw [HZ.out]; exact HF.out.1
          case measure => exact HF.out.2
        · have hk : y.kind = 5 ∨ y.kind = 6 ∨ y.kind = 7 := by omega
          rcases hk with hk | hk | hk
          · have HZ := Lib.hid (show postsG x L0 = postsG ⟨6, 0, Trees.of [z], 0, 0⟩ L by rw [← HR.out]; unfold postN; rw [if_neg h8, hk]; rfl)
            go_wp2_with fail
            refine (peek_go HP.out (by omega)).mono ?_
            rintro e w1 ⟨rfl, rfl⟩
            rw [hk]
            go_wp2_with fail
            refine (over_go 6 W.heap.size z B cap w1 HX.out).mono ?_
            rintro e w2 ⟨g, rfl, hb2, hg2, hB2⟩
            rw [ndV_plain]
            have hX2 := HX.out.below hb2 hXl
            have hsz2 := hb2.size
            have f0 := hX2.frozen 0
            have f1 := hX2.frozen 1
            have f2 := hX2.frozen 2
            have f3 := hX2.frozen 3
            have f4 := hX2.frozen 4
            have f5 := hX2.frozen 5
            have f6 := hX2.frozen 6
            have f7 := hX2.frozen 7
            have e0 : w2.cell? ⟨W.heap.size, 0, none⟩ = some (.int .i64 z.kind) := hX2.cell 0
            have e1 : w2.cell? ⟨W.heap.size, 1, none⟩ = some (.int .u64 ((word z.set.testBit 0 : Nat) : Int)) := hX2.cell 1
            have e2 : w2.cell? ⟨W.heap.size, 2, none⟩ = some (.int .u64 ((word z.set.testBit 1 : Nat) : Int)) := hX2.cell 2
            have e3 : w2.cell? ⟨W.heap.size, 3, none⟩ = some (.int .u64 ((word z.set.testBit 2 : Nat) : Int)) := hX2.cell 3
            have e4 : w2.cell? ⟨W.heap.size, 4, none⟩ = some (.int .u64 ((word z.set.testBit 3 : Nat) : Int)) := hX2.cell 4
            have e5 : w2.cell? ⟨W.heap.size, 5, none⟩ = some (.slice B z.kids.len cap) := hX2.cell 5
            have e6 : w2.cell? ⟨W.heap.size, 6, none⟩ = some (.int .i64 z.lo) := hX2.cell 6
            have e7 : w2.cell? ⟨W.heap.size, 7, none⟩ = some (.int .i64 z.hi) := hX2.cell 7
            have HX2 := Lib.hid hX2
            have HB2 := Lib.hid hB2
            have Hb2 := Lib.hid hb2
            clear hX2 hB2 hb2 x0 x1 x2 x3 x4 x5 x6 x7 y0 y1 y2 y3 y4 y5 y6 y7 g0 g1 g2 g3 g4 g5 g6 g7
            go_wp2_with fail
            have hg3 := only_put8 w2 W.heap.size (.int .i64 6) (.int .u64 0) (.int .u64 0) (.int .u64 0) (.int .u64 0) (.slice (some ⟨g, 0, none⟩) (Trees.of [z]).len 1) (.int .i64 0) (.int .i64 0)
            have hx3 := HX2.out.put8 (.int .i64 6) (.int .u64 0) (.int .u64 0) (.int .u64 0) (.int .u64 0) (.slice (some ⟨g, 0, none⟩) (Trees.of [z]).len 1) (.int .i64 0) (.int .i64 0)
            have hstep := posts_step hv hn hp HS.out HP.out Hb2.out hg2 HB2.out HY.out HT.out hc hlen hg3 (by rw [ndA_plain]; exact hx3)
            clear hg3 hx3
            have HN := Lib.hid hstep.2
            refine (next_any hstep.1 (by omega)).mono ?_
            clear hstep
            rintro e w5 ⟨rfl, hP5, hS5⟩
            have HF := Lib.hid (HN.out w5 hP5 hS5)
            clear hP5 hS5
            unfold lexV
            go_wp2
            go_roundw
            case rel => rw [HZ.out]; exact HF.out.1
            case measure => exact HF.out.2
          · have HZ := Lib.hid (show postsG x L0 = postsG ⟨7, 0, Trees.of [z], 0, 0⟩ L by rw [← HR.out]; unfold postN; rw [if_neg h8, hk]; rfl)
            go_wp2_with fail
            refine (peek_go HP.out (by omega)).mono ?_
            rintro e w1 ⟨rfl, rfl⟩
            rw [hk]
            go_wp2_with fail
            refine (over_go 7 W.heap.size z B cap w1 HX.out).mono ?_
            rintro e w2 ⟨g, rfl, hb2, hg2, hB2⟩
            rw [ndV_plain]
            have hX2 := HX.out.below hb2 hXl
            have hsz2 := hb2.size
            have f0 := hX2.frozen 0
            have f1 := hX2.frozen 1
            have f2 := hX2.frozen 2
            have f3 := hX2.frozen 3
            have f4 := hX2.frozen 4
            have f5 := hX2.frozen 5
            have f6 := hX2.frozen 6
            have f7 := hX2.frozen 7
            have e0 : w2.cell? ⟨W.heap.size, 0, none⟩ = some (.int .i64 z.kind) := hX2.cell 0
            have e1 : w2.cell? ⟨W.heap.size, 1, none⟩ = some (.int .u64 ((word z.set.testBit 0 : Nat) : Int)) := hX2.cell 1
            have e2 : w2.cell? ⟨W.heap.size, 2, none⟩ = some (.int .u64 ((word z.set.testBit 1 : Nat) : Int)) := hX2.cell 2
            have e3 : w2.cell? ⟨W.heap.size, 3, none⟩ = some (.int .u64 ((word z.set.testBit 2 : Nat) : Int)) := hX2.cell 3
            have e4 : w2.cell? ⟨W.heap.size, 4, none⟩ = some (.int .u64 ((word z.set.testBit 3 : Nat) : Int)) := hX2.cell 4
            have e5 : w2.cell? ⟨W.heap.size, 5, none⟩ = some (.slice B z.kids.len cap) := hX2.cell 5
            have e6 : w2.cell? ⟨W.heap.size, 6, none⟩ = some (.int .i64 z.lo) := hX2.cell 6
            have e7 : w2.cell? ⟨W.heap.size, 7, none⟩ = some (.int .i64 z.hi) := hX2.cell 7
            have HX2 := Lib.hid hX2
            have HB2 := Lib.hid hB2
            have Hb2 := Lib.hid hb2
            clear hX2 hB2 hb2 x0 x1 x2 x3 x4 x5 x6 x7 y0 y1 y2 y3 y4 y5 y6 y7 g0 g1 g2 g3 g4 g5 g6 g7
            go_wp2_with fail
            have hg3 := only_put8 w2 W.heap.size (.int .i64 7) (.int .u64 0) (.int .u64 0) (.int .u64 0) (.int .u64 0) (.slice (some ⟨g, 0, none⟩) (Trees.of [z]).len 1) (.int .i64 0) (.int .i64 0)
            have hx3 := HX2.out.put8 (.int .i64 7) (.int .u64 0) (.int .u64 0) (.int .u64 0) (.int .u64 0) (.slice (some ⟨g, 0, none⟩) (Trees.of [z]).len 1) (.int .i64 0) (.int .i64 0)
            have hstep := posts_step hv hn hp HS.out HP.out Hb2.out hg2 HB2.out HY.out HT.out hc hlen hg3 (by rw [ndA_plain]; exact hx3)
            clear hg3 hx3
            have HN := Lib.hid hstep.2
            refine (next_any hstep.1 (by omega)).mono ?_
            clear hstep
            rintro e w5 ⟨rfl, hP5, hS5⟩
            have HF := Lib.hid (HN.out w5 hP5 hS5)
            clear hP5 hS5
            unfold lexV
            go_wp2
            go_roundw
            case rel => rw [HZ.out]; exact HF.out.1
            case measure => exact HF.out.2
          · have HZ := Lib.hid (show postsG x L0 = postsG ⟨8, 0, Trees.of [z], 0, 0⟩ L by rw [← HR.out]; unfold postN; rw [if_neg h8, hk]; rfl)
            go_wp2_with fail
            refine (peek_go HP.out (by omega)).mono ?_
            rintro e w1 ⟨rfl, rfl⟩
            rw [hk]
            go_wp2_with fail
            refine (over_go 8 W.heap.size z B cap w1 HX.out).mono ?_
            rintro e w2 ⟨g, rfl, hb2, hg2, hB2⟩
            rw [ndV_plain]
            have hX2 := HX.out.below hb2 hXl
            have hsz2 := hb2.size
            have f0 := hX2.frozen 0
            have f1 := hX2.frozen 1
            have f2 := hX2.frozen 2
            have f3 := hX2.frozen 3
            have f4 := hX2.frozen 4
            have f5 := hX2.frozen 5
            have f6 := hX2.frozen 6
            have f7 := hX2.frozen 7
            have e0 : w2.cell? ⟨W.heap.size, 0, none⟩ = some (.int .i64 z.kind) := hX2.cell 0
            have e1 : w2.cell? ⟨W.heap.size, 1, none⟩ = some (.int .u64 ((word z.set.testBit 0 : Nat) : Int)) := hX2.cell 1
            have e2 : w2.cell? ⟨W.heap.size, 2, none⟩ = some (.int .u64 ((word z.set.testBit 1 : Nat) : Int)) := hX2.cell 2
            have e3 : w2.cell? ⟨W.heap.size, 3, none⟩ = some (.int .u64 ((word z.set.testBit 2 : Nat) : Int)) := hX2.cell 3
            have e4 : w2.cell? ⟨W.heap.size, 4, none⟩ = some (.int .u64 ((word z.set.testBit 3 : Nat) : Int)) := hX2.cell 4
            have e5 : w2.cell? ⟨W.heap.size, 5, none⟩ = some (.slice B z.kids.len cap) := hX2.cell 5
            have e6 : w2.cell? ⟨W.heap.size, 6, none⟩ = some (.int .i64 z.lo) := hX2.cell 6
            have e7 : w2.cell? ⟨W.heap.size, 7, none⟩ = some (.int .i64 z.hi) := hX2.cell 7
            have HX2 := Lib.hid hX2
            have HB2 := Lib.hid hB2
            have Hb2 := Lib.hid hb2
            clear hX2 hB2 hb2 x0 x1 x2 x3 x4 x5 x6 x7 y0 y1 y2 y3 y4 y5 y6 y7 g0 g1 g2 g3 g4 g5 g6 g7
            go_wp2_with fail
            have hg3 := only_put8 w2 W.heap.size (.int .i64 8) (.int .u64 0) (.int .u64 0) (.int .u64 0) (.int .u64 0) (.slice (some ⟨g, 0, none⟩) (Trees.of [z]).len 1) (.int .i64 0) (.int .i64 0)
            have hx3 := HX2.out.put8 (.int .i64 8) (.int .u64 0) (.int .u64 0) (.int .u64 0) (.int .u64 0) (.slice (some ⟨g, 0, none⟩) (Trees.of [z]).len 1) (.int .i64 0) (.int .i64 0)
            have hstep := posts_step hv hn hp HS.out HP.out Hb2.out hg2 HB2.out HY.out HT.out hc hlen hg3 (by rw [ndA_plain]; exact hx3)
            clear hg3 hx3
            have HN := Lib.hid hstep.2
            refine (next_any hstep.1 (by omega)).mono ?_
            clear hstep
            rintro e w5 ⟨rfl, hP5, hS5⟩
            have HF := Lib.hid (HN.out w5 hP5 hS5)
            clear hP5 hS5
            unfold lexV
            go_wp2
            go_roundw
            case rel => rw [HZ.out]; exact HF.out.1
            case measure => exact HF.out.2
      · have hk : ¬ (5 ≤ y.kind ∧ y.kind ≤ 8) := fun h => hpost ((isPost_iff _).2 h)
        have k5 : (y.kind == 5) = false := by simp; omega
        have k6 : (y.kind == 6) = false := by simp; omega
        have k7 : (y.kind == 7) = false := by simp; omega
        have k8 : (y.kind == 8) = false := by simp; omega
        have HR := Lib.hid ((postsG_stop (by simpa using hpost)).symm.trans HR.out)
        go_wp2_with fail
        refine (peek_go HP.out (by omega)).mono ?_
        rintro e w1 ⟨rfl, rfl⟩
        go_wp2
        go_light
        have hg := only_put8 w1 (W.heap.size + 1) (.int .i64 z.kind) (.int .u64 ((word z.set.testBit 0 : Nat) : Int)) (.int .u64 ((word z.set.testBit 1 : Nat) : Int)) (.int .u64 ((word z.set.testBit 2 : Nat) : Int)) (.int .u64 ((word z.set.testBit 3 : Nat) : Int)) (.slice B z.kids.len cap) (.int .i64 z.lo) (.int .i64 z.hi)
        rw [← HR.out]
        refine bodyPost_ret (ret_node Try.results114 rfl (HY.out.put8 _ _ _ _ _ _ _ _)) rfl ⟨B, cap, rfl, HP.out.only hg (by omega) (fun g e => by have := hv g e; omega), HS.out.only hg (by omega) (by omega), hc, HT.out.keep (fun b o hb hl => World.cell?_of_block (hg.block b hl (fun e => hb.2.2 (Option.some.inj e)))) (fun b hb hl => hb.1)⟩

end Go.Proofs.Ytgbpcigfbpghgaa
namespace Go.Proofs.Ytgbpcigfbpghgaa
open Go.RowKit
set_option linter.unusedSimpArgs false
set_option linter.unusedVariables false
set_option maxRecDepth 100000

theorem tbytes_any (p : Nat → Bool) (w : World) :
    Calls Try.prog 55 #[.agg #[.int .u64 ((word (p) 0 : Nat) : Int), .int .u64 ((word (p) 1 : Nat) : Int), .int .u64 ((word (p) 2 : Nat) : Int), .int .u64 ((word (p) 3 : Nat) : Int)]] w fun e w' => e = .returned (ndV (leafN (maskOf p)) none 0) ∧ Below w.heap.size w w' := by
  have hv : ndV (leafN (maskOf p)) none 0 = .agg #[.int .i64 3, .int .u64 ((word (p) 0 : Nat) : Int), .int .u64 ((word (p) 1 : Nat) : Int), .int .u64 ((word (p) 2 : Nat) : Int), .int .u64 ((word (p) 3 : Nat) : Int), .slice none 0 0, .int .i64 0, .int .i64 0] := by
    unfold ndV leafN
    dsimp only
    rw [word_mask p 0 (by decide), word_mask p 1 (by decide), word_mask p 2 (by decide), word_mask p 3 (by decide)]
    rfl
  rw [hv]
  go_enter Try.func55, Try.ntmps55
  go_wp2
  go_light
  refine bodyPost_ret (ret_node Try.results55 rfl (Blk.new_at (by simp))) rfl ⟨rfl, ((Below.refl _ _).alloc (Nat.le_refl _) _).alloc (by simp) _⟩
theorem tempty_any (w : World) :
    Calls Try.prog 115 #[] w fun e w' => e = .returned (ndV emptyN none 0) ∧ Below w.heap.size w w' := by
  have hv : ndV emptyN none 0 = .agg #[.int .i64 2, .int .u64 0, .int .u64 0, .int .u64 0, .int .u64 0, .slice none 0 0, .int .i64 0, .int .i64 0] := ndV_plain _ _ _ _ _ _
  rw [hv]
  go_enter Try.func115, Try.ntmps115
  go_wp2
  go_light
  refine bodyPost_ret (ret_node Try.results115 rfl (Blk.new_at (by simp))) rfl ⟨rfl, (Below.refl _ _).alloc (Nat.le_refl _) _⟩

/-- What flat gives. -/
def Flatted (P : Nat → Prop) (x : Nd) (w : World) (e : Ending) (w' : World) : Prop :=
  ∃ B cap, e = .returned (ndV x B cap) ∧ Below w.heap.size w w' ∧ x.kids.len ≤ cap ∧ TreesAt w' P x.kids B
theorem flatN_many (k : Int) (l : List Nd) (h : l.length ≠ 1) : flatN k l = ⟨k, 0, Trees.of l, 0, 0⟩ := by
  match l, h with
  | [], _ => rfl
  | [x], h => exact absurd rfl h
  | x :: y :: l, _ => rfl
set_option maxHeartbeats 1000000 in
theorem flat_go (k : Int) (P : Nat → Prop) (A : Option Addr) (cap : Nat) (l : List Nd) (w : World) (hc : l.length ≤ cap) (ht : TreesAt w P (Trees.of l) A) :
    Calls Try.prog 103 #[.int .i64 k, .slice A l.length cap] w (Flatted P (flatN k l) w) := by
  by_cases h1 : l.length = 1
  · obtain ⟨x, rfl⟩ := List.length_eq_one_iff.1 h1
    obtain ⟨b, o, B, cap', rfl, hb, hc', hn, hk⟩ := ht.get (i := 0) (x := x) (by rw [Trees.list_of]; rfl)
    obtain ⟨c0, c1, c2, c3, c4, c5, c6, c7⟩ := hn
    have hbl := World.block_lt_of_cell? w _ c0
    have HK := Lib.hid hk
    simp only [Nat.zero_mul, Nat.add_zero] at c0 c1 c2 c3 c4 c5 c6 c7
    clear hk ht h1
    show Calls _ _ #[.int .i64 k, .slice (some ⟨b, o, none⟩) 1 cap] w (Flatted P x w)
    go_enter Try.func103, Try.ntmps103
    go_wp2
    go_light
    exact bodyPost_ret (ret_node Try.results103 rfl (Blk.new_at (by simp))) rfl ⟨B, cap', rfl, (Below.refl _ _).alloc (Nat.le_refl _) _, hc', HK.out.below ((Below.refl _ _).alloc (Nat.le_refl _) _)⟩
  · rw [flatN_many k l h1]
    have hd : ((l.length : Int) == 1) = false := by simp; omega
    have HT := Lib.hid ht
    clear ht h1
    go_enter Try.func103, Try.ntmps103
    go_wp2
    go_light
    exact bodyPost_ret (ret_node Try.results103 rfl (Blk.new_at (by simp))) rfl ⟨A, cap, by rw [ndV_plain, Trees.len_of], (Below.refl _ _).alloc (Nat.le_refl _) _, by rw [Trees.len_of]; exact hc, HT.out.below ((Below.refl _ _).alloc (Nat.le_refl _) _)⟩

/-! What the parser's functions give. -/
def badV (k q : Int) : Value := .iface 26 (.agg #[.int .i64 k, .int .i64 q])
def Panics (p : Nat) (r : Wrong) (W : World) (e : Ending) (W' : World) : Prop := e = .panicked [{ v := badV r.1 r.2, recovered := false }] ∧ Below p W W'
/-- A node, and what is left. -/
def Gives (p m : Nat) (v : Value) (r : Except Wrong (Nd × List Lex)) (W : World) (e : Ending) (W' : World) : Prop :=
  match r with
  | .ok (x, R) => ∃ v' B cap, e = .returned (ndV x B cap) ∧ PAt W' p v' R m ∧ Still p W v W' v' ∧ x.kids.len ≤ cap ∧ TreesAt W' (New W.heap.size p v') x.kids B
  | .error x => Panics p x W e W'
def zeroN : Value := .agg #[.int .i64 0, .int .u64 0, .int .u64 0, .int .u64 0, .int .u64 0, .slice none 0 0, .int .i64 0, .int .i64 0]
/-- A node and true, or false. -/
def GivesO (p m : Nat) (v : Value) (r : Except Wrong (Option Nd × List Lex)) (W : World) (e : Ending) (W' : World) : Prop :=
  match r with
  | .ok (some x, R) => ∃ v' B cap, e = .returned (.tuple #[ndV x B cap, .bool true]) ∧ PAt W' p v' R m ∧ Still p W v W' v' ∧ x.kids.len ≤ cap ∧ TreesAt W' (New W.heap.size p v') x.kids B
  | .ok (none, R) => ∃ v', e = .returned (.tuple #[zeroN, .bool false]) ∧ PAt W' p v' R m ∧ Still p W v W' v'
  | .error x => Panics p x W e W'
def partR : Except Wrong (List Nd × List Lex) → Except Wrong (Nd × List Lex)
  | .ok (ps, R) => .ok (partN ps, R)
  | .error e => .error e
def AltC (n : Nat) : Prop := ∀ (p : Nat) (op : List Int) (L : List Lex) (W : World) (v : Value), PAt W p v L op.length → L.length ≤ 100000 → op.length ≤ 64 → 3 * L.length + 2 < n →
  Calls Try.prog 76 #[.pointer (some ⟨p, 0, none⟩)] W (Gives p op.length v (altG n op [] L) W)
def PartC (n : Nat) : Prop := ∀ (p : Nat) (op : List Int) (L : List Lex) (W : World) (v : Value), PAt W p v L op.length → L.length ≤ 100000 → op.length ≤ 64 → 3 * L.length + 1 < n →
  Calls Try.prog 100 #[.pointer (some ⟨p, 0, none⟩)] W (Gives p op.length v (partR (piecesG n op [] L)) W)
def AtomC (n : Nat) : Prop := ∀ (p : Nat) (op : List Int) (L : List Lex) (W : World) (v : Value), PAt W p v L op.length → L.length ≤ 100000 → op.length ≤ 64 → 3 * L.length < n →
  Calls Try.prog 113 #[.pointer (some ⟨p, 0, none⟩)] W (GivesO p op.length v (atomG n op L) W)

end Go.Proofs.Ytgbpcigfbpghgaa
