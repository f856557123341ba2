/-
  The tree of lexemes, by a plain reading from the left; and what is wrong first. No program in sight. The parser in memory; the contracts of peek, next and fail. The contract of the parser's posts; a row of one node. The contracts of flat, tree.Bytes, tree.Empty; what the parser's functions give.
-/
import Derived.Deep.Light
import Derived.LoopTactic
import Derived.RegionTactic
import Derived.BigRegion
import Derived.Test.YtgbpcigfbpghgaaQZ01
namespace Go.Proofs.Ytgbpcigfbpghgaa
set_option linter.unusedSimpArgs false
set_option linter.unusedVariables false
set_option maxRecDepth 100000

/-- A set as a number. -/
def maskOf (p : Nat → Bool) : Nat := ofBits p 256
theorem word_mask (p : Nat → Bool) (i : Nat) (h : i < 4) : word (maskOf p).testBit i = word p i :=
  word_congr (fun j hj => by unfold maskOf; rw [testBit_ofBits]; simp; omega)
theorem maskOf_lt (p : Nat → Bool) : maskOf p < 2 ^ 256 := ofBits_lt p 256

def leafN (s : Nat) : Nd := ⟨3, s, .nil, 0, 0⟩
def emptyN : Nd := ⟨2, 0, .nil, 0, 0⟩
def isPost (k : Int) : Bool := decide (5 ≤ k) && decide (k ≤ 8)
/-- A piece, with a sign behind it. -/
def postN (y : Lex) (x : Nd) : Nd := if y.kind = 8 then ⟨9, 0, Trees.of [x], y.lo, y.hi⟩ else ⟨y.kind + 1, 0, Trees.of [x], 0, 0⟩
def flatN (k : Int) : List Nd → Nd
  | [x] => x
  | l => ⟨k, 0, Trees.of l, 0, 0⟩
def partN : List Nd → Nd
  | [] => emptyN
  | l => flatN 4 l
def postsG : Nd → List Lex → Nd × List Lex
  | x, [] => (x, [])
  | x, y :: L => if isPost y.kind = true then postsG (postN y x) L else (x, y :: L)
mutual
/-- Parts with bars between, behind those of acc; what is left. -/
def altG : Nat → List Int → List Nd → List Lex → Except Wrong (Nd × List Lex)
  | 0, _, _, _ => .error (0, 0)
  | n + 1, op, acc, L => match piecesG n op [] L with
    | .error e => .error e
    | .ok (ps, R) => match R with
      | [] => .ok (flatN 5 (acc ++ [partN ps]), [])
      | c :: R' => if c.kind = 4 then altG n op (acc ++ [partN ps]) R' else .ok (flatN 5 (acc ++ [partN ps]), c :: R')
/-- Pieces, one behind the other, behind those of acc. -/
def piecesG : Nat → List Int → List Nd → List Lex → Except Wrong (List Nd × List Lex)
  | 0, _, _, _ => .error (0, 0)
  | n + 1, op, acc, L => match atomG n op L with
    | .error e => .error e
    | .ok (none, R) => .ok (acc, R)
    | .ok (some x, R) => piecesG n op (acc ++ [(postsG x R).1]) (postsG x R).2
/-- A set, or what stands between brackets; none: a part ends here. -/
def atomG : Nat → List Int → List Lex → Except Wrong (Option Nd × List Lex)
  | 0, _, _ => .error (0, 0)
  | _ + 1, _, [] => .ok (none, [])
  | n + 1, op, y :: L =>
    if y.kind = 1 then .ok (some (leafN (maskOf y.set)), L)
    else if y.kind = 2 then
      if op.length = 64 then .error (17, y.place) else match altG n (y.place :: op) [] L with
      | .error e => .error e
      | .ok (x, R) => match R with
        | [] => .error (11, y.place)
        | c :: R' => if c.kind = 3 then .ok (some x, R') else .error (11, y.place)
    else if isPost y.kind = true then .error (5, y.place)
    else if y.kind = 3 ∧ op.length = 0 then .error (12, y.place)
    else .ok (none, y :: L)
end
/-- Behind a part. -/
def tailG (n : Nat) (op : List Int) (acc : List Nd) : List Lex → Except Wrong (Nd × List Lex)
  | [] => .ok (flatN 5 acc, [])
  | c :: R' => if c.kind = 4 then altG n op acc R' else .ok (flatN 5 acc, c :: R')
theorem tailG_nil (n : Nat) (op : List Int) (acc : List Nd) : tailG n op acc [] = .ok (flatN 5 acc, []) := rfl
theorem tailG_bar {n : Nat} {op : List Int} {acc : List Nd} {c : Lex} {R : List Lex} (h : c.kind = 4) : tailG n op acc (c :: R) = altG n op acc R := if_pos h
theorem tailG_stop {n : Nat} {op : List Int} {acc : List Nd} {c : Lex} {R : List Lex} (h : c.kind ≠ 4) : tailG n op acc (c :: R) = .ok (flatN 5 acc, c :: R) := if_neg h
theorem altG_step (n : Nat) (op : List Int) (acc : List Nd) (L : List Lex) : altG (n + 1) op acc L = match piecesG n op [] L with
    | .error e => .error e
    | .ok (ps, R) => tailG n op (acc ++ [partN ps]) R := by
  rw [altG]
  cases h : piecesG n op [] L with
  | error e => rfl
  | ok r =>
    obtain ⟨ps, R⟩ := r
    cases R <;> rfl
theorem altG_bad {n : Nat} {op : List Int} {acc : List Nd} {L : List Lex} {e : Wrong} (h : piecesG n op [] L = .error e) : altG (n + 1) op acc L = .error e := by rw [altG_step, h]
theorem altG_ok {n : Nat} {op : List Int} {acc : List Nd} {L : List Lex} {ps : List Nd} {R : List Lex} (h : piecesG n op [] L = .ok (ps, R)) : altG (n + 1) op acc L = tailG n op (acc ++ [partN ps]) R := by rw [altG_step, h]
theorem piecesG_bad {n : Nat} {op : List Int} {acc : List Nd} {L : List Lex} {e : Wrong} (h : atomG n op L = .error e) : piecesG (n + 1) op acc L = .error e := by rw [piecesG, h]
theorem piecesG_end {n : Nat} {op : List Int} {acc : List Nd} {L R : List Lex} (h : atomG n op L = .ok (none, R)) : piecesG (n + 1) op acc L = .ok (acc, R) := by rw [piecesG, h]
theorem piecesG_go {n : Nat} {op : List Int} {acc : List Nd} {L R : List Lex} {x : Nd} (h : atomG n op L = .ok (some x, R)) : piecesG (n + 1) op acc L = piecesG n op (acc ++ [(postsG x R).1]) (postsG x R).2 := by rw [piecesG, h]
theorem atomG_nil (n : Nat) (op : List Int) : atomG (n + 1) op [] = .ok (none, []) := by rw [atomG]
theorem atomG_set {n : Nat} {op : List Int} {y : Lex} {L : List Lex} (h : y.kind = 1) : atomG (n + 1) op (y :: L) = .ok (some (leafN (maskOf y.set)), L) := by rw [atomG, if_pos h]
theorem atomG_deep {n : Nat} {op : List Int} {y : Lex} {L : List Lex} (h : y.kind = 2) (h2 : op.length = 64) : atomG (n + 1) op (y :: L) = .error (17, y.place) := by rw [atomG, if_neg (by omega), if_pos h, if_pos h2]
theorem atomG_in {n : Nat} {op : List Int} {y : Lex} {L : List Lex} {e : Wrong} (h : y.kind = 2) (h2 : op.length ≠ 64) (h3 : altG n (y.place :: op) [] L = .error e) : atomG (n + 1) op (y :: L) = .error e := by rw [atomG, if_neg (by omega), if_pos h, if_neg h2, h3]
theorem atomG_close {n : Nat} {op : List Int} {y c : Lex} {L R : List Lex} {x : Nd} (h : y.kind = 2) (h2 : op.length ≠ 64) (h3 : altG n (y.place :: op) [] L = .ok (x, c :: R)) (hc : c.kind = 3) : atomG (n + 1) op (y :: L) = .ok (some x, R) := by
  rw [atomG, if_neg (by omega), if_pos h, if_neg h2, h3]
  exact if_pos hc
theorem atomG_open {n : Nat} {op : List Int} {y : Lex} {L R : List Lex} {x : Nd} (h : y.kind = 2) (h2 : op.length ≠ 64) (h3 : altG n (y.place :: op) [] L = .ok (x, R)) (hc : ∀ c R', R = c :: R' → c.kind ≠ 3) : atomG (n + 1) op (y :: L) = .error (11, y.place) := by
  rw [atomG, if_neg (by omega), if_pos h, if_neg h2, h3]
  cases R with
  | nil => rfl
  | cons c R' => exact if_neg (hc c R' rfl)
theorem isPost_iff (k : Int) : isPost k = true ↔ 5 ≤ k ∧ k ≤ 8 := by unfold isPost; simp
theorem atomG_post {n : Nat} {op : List Int} {y : Lex} {L : List Lex} (h : isPost y.kind = true) : atomG (n + 1) op (y :: L) = .error (5, y.place) := by
  have := (isPost_iff _).1 h
  rw [atomG, if_neg (by omega), if_neg (by omega), if_pos h]
theorem atomG_lone {n : Nat} {op : List Int} {y : Lex} {L : List Lex} (h : y.kind = 3) (h2 : op.length = 0) : atomG (n + 1) op (y :: L) = .error (12, y.place) := by
  have : ¬ isPost y.kind = true := by rw [isPost_iff]; omega
  rw [atomG, if_neg (by omega), if_neg (by omega), if_neg this, if_pos ⟨h, h2⟩]
theorem atomG_stop {n : Nat} {op : List Int} {y : Lex} {L : List Lex} (h1 : y.kind ≠ 1) (h2 : y.kind ≠ 2) (h3 : isPost y.kind = false) (h4 : ¬ (y.kind = 3 ∧ op.length = 0)) : atomG (n + 1) op (y :: L) = .ok (none, y :: L) := by
  rw [atomG, if_neg h1, if_neg h2, if_neg (by rw [h3]; decide), if_neg h4]

/-- The tree of lexemes, or what is wrong with them. -/
def lexemesS (L : List Lex) : Except Wrong Nd :=
  if L.all rightS = false then .error (6, 0)
  else if h : 1024 < L.length then .error (4, (L[1024]).place)
  else match altG (3 * L.length + 3) [] [] L with
    | .error e => .error e
    | .ok (x, _) => .ok x
/-- The tree of a text. -/
def parseS (bs : List Nat) : Except Wrong Nd :=
  match splitS bs with
  | .error e => .error e
  | .ok L => lexemesS L

/-! What is left is an end of what was there. -/
theorem postsG_suf : ∀ (L : List Lex) (x : Nd), (postsG x L).2 <:+ L
  | [], x => List.suffix_refl _
  | y :: L, x => by
    unfold postsG
    split
    · exact (postsG_suf L _).trans (List.suffix_cons y L)
    · exact List.suffix_refl _
theorem readG_suf (n : Nat) : (∀ op acc L x R, altG n op acc L = .ok (x, R) → R <:+ L) ∧ (∀ op acc L ps R, piecesG n op acc L = .ok (ps, R) → R <:+ L) ∧
    (∀ op L x R, atomG n op L = .ok (x, R) → R <:+ L ∧ (x ≠ none → R.length < L.length)) := by
  induction n with
  | zero => exact ⟨fun _ _ _ _ _ h => (by rw [altG] at h; cases h), fun _ _ _ _ _ h => (by rw [piecesG] at h; cases h), fun _ _ _ _ h => (by rw [atomG] at h; cases h)⟩
  | succ n ih =>
    obtain ⟨ia, ip, it⟩ := ih
    refine ⟨fun op acc L x R h => ?_, fun op acc L ps R h => ?_, fun op L x R h => ?_⟩
    · cases hp : piecesG n op [] L with
      | error e => rw [altG_bad hp] at h; cases h
      | ok r =>
        obtain ⟨ps, R1⟩ := r
        rw [altG_ok hp] at h
        have h1 := ip _ _ _ _ _ hp
        cases R1 with
        | nil => rw [tailG_nil] at h; cases h; exact h1
        | cons c R' =>
          by_cases h4 : c.kind = 4
          · rw [tailG_bar h4] at h
            exact (ia _ _ _ _ _ h).trans ((List.suffix_cons c R').trans h1)
          · rw [tailG_stop h4] at h
            cases h; exact h1
    · cases hp : atomG n op L with
      | error e => rw [piecesG_bad hp] at h; cases h
      | ok r =>
        obtain ⟨x, R1⟩ := r
        have h1 := (it _ _ _ _ hp).1
        cases x with
        | none => rw [piecesG_end hp] at h; cases h; exact h1
        | some x =>
          rw [piecesG_go hp] at h
          exact (ip _ _ _ _ _ h).trans ((postsG_suf _ _).trans h1)
    · cases L with
      | nil => rw [atomG_nil] at h; cases h; exact ⟨List.suffix_refl _, fun h => absurd rfl h⟩
      | cons y L =>
        rw [atomG] at h
        split at h
        · cases h; exact ⟨List.suffix_cons _ _, fun _ => by simp⟩
        split at h
        · split at h
          · cases h
          split at h
          · cases h
          · rename_i x' R' hx
            have h1 := ia _ _ _ _ _ hx
            split at h
            · cases h
            · rename_i c R''
              split at h
              · cases h
                have h2 : R <:+ L := (List.suffix_cons c R).trans h1
                exact ⟨h2.trans (List.suffix_cons y L), fun _ => by have := h2.length_le; simp; omega⟩
              · cases h
        split at h
        · cases h
        split at h
        · cases h
        · cases h; exact ⟨List.suffix_refl _, fun h => absurd rfl h⟩

/-! What is wrong first, by one look from the left. -/
def wrongS (op : List Int) (piece : Bool) : List Lex → Option Wrong
  | [] => match op with
    | [] => none
    | x :: _ => some (11, x)
  | y :: L =>
    if y.kind = 1 then wrongS op true L
    else if y.kind = 2 then (if 64 ≤ op.length then some (17, y.place) else wrongS (y.place :: op) false L)
    else if y.kind = 3 then (match op with
      | [] => some (12, y.place)
      | _ :: op' => wrongS op' true L)
    else if y.kind = 4 then wrongS op false L
    else if piece = false then some (5, y.place) else wrongS op piece L
/-- What stands first is no sign. -/
def NoPost (L : List Lex) : Prop := ∀ y L', L = y :: L' → isPost y.kind = false
def Kinds (L : List Lex) : Prop := ∀ y ∈ L, 1 ≤ y.kind ∧ y.kind ≤ 8
theorem Kinds.suf {L R : List Lex} (h : Kinds L) (hs : R <:+ L) : Kinds R := fun y hy => h y (hs.subset hy)
theorem Kinds.tail {L : List Lex} {y : Lex} (h : Kinds (y :: L)) : Kinds L := fun z hz => h z (List.mem_cons_of_mem y hz)
/-- Where a part ends. -/
def Stop (op : List Int) (R : List Lex) : Prop := R = [] ∨ ∃ c R', R = c :: R' ∧ (c.kind = 4 ∨ c.kind = 3 ∧ op ≠ [])
/-- Where an alternative ends. -/
def Stop2 (op : List Int) (R : List Lex) : Prop := R = [] ∨ ∃ c R', R = c :: R' ∧ c.kind = 3 ∧ op ≠ []
theorem Stop.noPost {op : List Int} {R : List Lex} (h : Stop op R) : NoPost R := by
  intro y L' e
  rcases h with rfl | ⟨c, R', rfl, h⟩
  · cases e
  · cases e
    unfold isPost
    simp
    omega
theorem wrongS_flag {op : List Int} {R : List Lex} (hk : Kinds R) (h : NoPost R) (p q : Bool) : wrongS op p R = wrongS op q R := by
  cases R with
  | nil => rfl
  | cons y L =>
    have h1 := hk y (by simp)
    have h2 := h y L rfl
    have h3 : ¬ (5 ≤ y.kind ∧ y.kind ≤ 8) := fun hh => by rw [(isPost_iff _).2 hh] at h2; cases h2
    unfold wrongS
    by_cases e1 : y.kind = 1
    · rw [if_pos e1, if_pos e1]
    rw [if_neg e1, if_neg e1]
    by_cases e2 : y.kind = 2
    · rw [if_pos e2, if_pos e2]
    rw [if_neg e2, if_neg e2]
    by_cases e3 : y.kind = 3
    · rw [if_pos e3, if_pos e3]
    rw [if_neg e3, if_neg e3]
    rw [if_pos (by omega), if_pos (by omega)]
theorem postsG_wrong (op : List Int) : ∀ (L : List Lex) (x : Nd), Kinds L → wrongS op true L = wrongS op true (postsG x L).2 ∧ NoPost (postsG x L).2
  | [], x, _ => ⟨rfl, fun y L' e => by cases e⟩
  | y :: L, x, hk => by
    unfold postsG
    split
    · rename_i h
      have h1 := (isPost_iff _).1 h
      have := postsG_wrong op L (postN y x) hk.tail
      refine ⟨?_, this.2⟩
      rw [← this.1]
      conv => lhs; unfold wrongS
      rw [if_neg (by omega), if_neg (by omega), if_neg (by omega), if_neg (by omega), if_neg (by decide)]
    · rename_i h
      refine ⟨rfl, fun z L' e => ?_⟩
      cases e
      simpa using h
def AltW (n : Nat) : Prop := ∀ op acc L, Kinds L → op.length ≤ 64 → 3 * L.length + 2 < n →
  match altG n op acc L with
  | .error e => wrongS op false L = some e
  | .ok (_, R) => Stop2 op R ∧ wrongS op false L = wrongS op false R
def PiecesW (n : Nat) : Prop := ∀ op acc L (p : Bool), Kinds L → op.length ≤ 64 → 3 * L.length + 1 < n → (p = false ∨ NoPost L) →
  match piecesG n op acc L with
  | .error e => wrongS op p L = some e
  | .ok (_, R) => Stop op R ∧ wrongS op p L = wrongS op false R
def AtomW (n : Nat) : Prop := ∀ op L (p : Bool), Kinds L → op.length ≤ 64 → 3 * L.length < n → (p = false ∨ NoPost L) →
  match atomG n op L with
  | .error e => wrongS op p L = some e
  | .ok (none, R) => R = L ∧ Stop op L
  | .ok (some _, R) => wrongS op p L = wrongS op true R
theorem readG_wrong (n : Nat) : AltW n ∧ PiecesW n ∧ AtomW n := by
  induction n with
  | zero => exact ⟨fun _ _ _ _ _ h => by omega, fun _ _ _ _ _ _ h => by omega, fun _ _ _ _ _ h => by omega⟩
  | succ n ih =>
    obtain ⟨ia, ip, it⟩ := ih
    obtain ⟨sa, sp, st⟩ := readG_suf n
    refine ⟨fun op acc L hk ho hn => ?_, fun op acc L p hk ho hn hp => ?_, fun op L p hk ho hn hp => ?_⟩
    · have h1 := ip op [] L false hk ho (by omega) (.inl rfl)
      cases hx : piecesG n op [] L with
      | error e => rw [hx] at h1; rw [altG_bad hx]; exact h1
      | ok r =>
        obtain ⟨ps, R⟩ := r
        rw [hx] at h1
        obtain ⟨h1, h2⟩ := h1
        have hs := sp _ _ _ _ _ hx
        rw [altG_ok hx]
        rcases h1 with rfl | ⟨c, R', rfl, hc⟩
        · exact ⟨.inl rfl, h2⟩
        · by_cases h4 : c.kind = 4
          · rw [tailG_bar h4]
            have hl := hs.length_le
            simp at hl
            have h3 := ia op (acc ++ [partN ps]) R' ((hk.suf hs).tail) ho (by omega)
            have e : wrongS op false (c :: R') = wrongS op false R' := by
              conv => lhs; unfold wrongS
              rw [if_neg (by omega), if_neg (by omega), if_neg (by omega), if_pos h4]
            rw [h2, e]
            exact h3
          · rw [tailG_stop h4]
            exact ⟨.inr ⟨c, R', rfl, by omega, by rcases hc with hc | hc; exact absurd hc h4; exact hc.2⟩, h2⟩
    · have h1 := it op L p hk ho (by omega) hp
      cases hx : atomG n op L with
      | error e => rw [hx] at h1; rw [piecesG_bad hx]; exact h1
      | ok r =>
        obtain ⟨x, R⟩ := r
        have hs := st _ _ _ _ hx
        cases x with
        | none =>
          rw [hx] at h1
          obtain ⟨rfl, h1⟩ := h1
          rw [piecesG_end hx]
          exact ⟨h1, wrongS_flag hk h1.noPost _ _⟩
        | some x =>
          rw [hx] at h1
          rw [piecesG_go hx]
          have h2 := postsG_wrong op R x (hk.suf hs.1)
          have hs2 := postsG_suf R x
          have hl := hs.2 (by simp)
          have hl2 := hs2.length_le
          have h3 := ip op (acc ++ [(postsG x R).1]) (postsG x R).2 true (hk.suf (hs2.trans hs.1)) ho (by omega) (.inr h2.2)
          rw [show wrongS op p L = wrongS op true (postsG x R).2 from h1.trans h2.1]
          exact h3
    · cases L with
      | nil => rw [atomG_nil]; exact ⟨rfl, .inl rfl⟩
      | cons y L =>
        have hky := hk y (by simp)
        simp only [List.length_cons] at hn
        by_cases e1 : y.kind = 1
        · rw [atomG_set e1]
          show wrongS op p (y :: L) = wrongS op true L
          conv => lhs; unfold wrongS
          rw [if_pos e1]
        by_cases e2 : y.kind = 2
        · by_cases h64 : op.length = 64
          · rw [atomG_deep e2 h64]
            show wrongS op p (y :: L) = _
            unfold wrongS
            rw [if_neg e1, if_pos e2, if_pos (by omega)]
          · have h1 := ia (y.place :: op) [] L hk.tail (by simp; omega) (by omega)
            have ew : wrongS op p (y :: L) = wrongS (y.place :: op) false L := by
              conv => lhs; unfold wrongS
              rw [if_neg e1, if_pos e2, if_neg (by omega)]
            cases hx : altG n (y.place :: op) [] L with
            | error e => rw [hx] at h1; rw [atomG_in e2 h64 hx]; exact ew.trans h1
            | ok r =>
              obtain ⟨x, R⟩ := r
              rw [hx] at h1
              obtain ⟨h1, h2⟩ := h1
              rcases h1 with rfl | ⟨c, R', rfl, hc, _⟩
              · rw [atomG_open e2 h64 hx (fun c R' e => by cases e)]
                exact ew.trans h2
              · rw [atomG_close e2 h64 hx hc]
                refine ew.trans (h2.trans ?_)
                conv => lhs; unfold wrongS
                rw [if_neg (by omega), if_neg (by omega), if_pos hc]
        by_cases e5 : isPost y.kind = true
        · rw [atomG_post e5]
          have h5 := (isPost_iff _).1 e5
          have hp' : p = false := by
            rcases hp with h | h
            · exact h
            · rw [h y L rfl] at e5; cases e5
          show wrongS op p (y :: L) = _
          unfold wrongS
          rw [if_neg e1, if_neg e2, if_neg (by omega), if_neg (by omega), if_pos hp']
        by_cases e3 : y.kind = 3
        · by_cases h0 : op.length = 0
          · rw [atomG_lone e3 h0]
            show wrongS op p (y :: L) = _
            have : op = [] := List.length_eq_zero_iff.1 h0
            subst this
            unfold wrongS
            rw [if_neg e1, if_neg e2, if_pos e3]
          · rw [atomG_stop e1 e2 (by simpa using e5) (fun h => h0 h.2)]
            exact ⟨rfl, .inr ⟨y, L, rfl, .inr ⟨e3, fun h => h0 (by rw [h]; rfl)⟩⟩⟩
        · rw [atomG_stop e1 e2 (by simpa using e5) (fun h => e3 h.1)]
          have : ¬ (5 ≤ y.kind ∧ y.kind ≤ 8) := fun h => e5 ((isPost_iff _).2 h)
          exact ⟨rfl, .inr ⟨y, L, rfl, .inl (by omega)⟩⟩
/-- The reading fails as the look does; else all is read. -/
theorem read_wrong (L : List Lex) (hk : Kinds L) : match altG (3 * L.length + 3) [] [] L with
    | .error e => wrongS [] false L = some e
    | .ok (_, R) => R = [] ∧ wrongS [] false L = none := by
  have h := (readG_wrong (3 * L.length + 3)).1 [] [] L hk (by simp) (by omega)
  cases hx : altG (3 * L.length + 3) [] [] L with
  | error e => rw [hx] at h; exact h
  | ok r =>
    obtain ⟨x, R⟩ := r
    rw [hx] at h
    obtain ⟨h1, h2⟩ := h
    rcases h1 with rfl | ⟨c, R', rfl, _, h0⟩
    · exact ⟨rfl, h2⟩
    · exact absurd rfl h0

end Go.Proofs.Ytgbpcigfbpghgaa
namespace Go.Proofs.Ytgbpcigfbpghgaa
open Go.RowKit
set_option linter.unusedSimpArgs false
set_option linter.unusedVariables false
set_option maxRecDepth 100000

theorem Blk.put8 {w : World} {g : Nat} {t : TypeId} {a0 a1 a2 a3 a4 a5 a6 a7 : Value} (h : Blk w g t #[a0, a1, a2, a3, a4, a5, a6, a7]) (b0 b1 b2 b3 b4 b5 b6 b7 : Value) : Blk ((((((((w.setCell ⟨g, 0, none⟩ b0).setCell ⟨g, 1, none⟩ b1).setCell ⟨g, 2, none⟩ b2).setCell ⟨g, 3, none⟩ b3).setCell ⟨g, 4, none⟩ b4).setCell ⟨g, 5, none⟩ b5).setCell ⟨g, 6, none⟩ b6).setCell ⟨g, 7, none⟩ b7) g t #[b0, b1, b2, b3, b4, b5, b6, b7] := by
  have h1 : Blk (w.setCell ⟨g, 0, none⟩ b0) g t #[b0, a1, a2, a3, a4, a5, a6, a7] := Blk.set_ h 0 b0
  have h2 : Blk ((w.setCell ⟨g, 0, none⟩ b0).setCell ⟨g, 1, none⟩ b1) g t #[b0, b1, a2, a3, a4, a5, a6, a7] := Blk.set_ h1 1 b1
  have h3 : Blk (((w.setCell ⟨g, 0, none⟩ b0).setCell ⟨g, 1, none⟩ b1).setCell ⟨g, 2, none⟩ b2) g t #[b0, b1, b2, a3, a4, a5, a6, a7] := Blk.set_ h2 2 b2
  have h4 : Blk ((((w.setCell ⟨g, 0, none⟩ b0).setCell ⟨g, 1, none⟩ b1).setCell ⟨g, 2, none⟩ b2).setCell ⟨g, 3, none⟩ b3) g t #[b0, b1, b2, b3, a4, a5, a6, a7] := Blk.set_ h3 3 b3
  have h5 : Blk (((((w.setCell ⟨g, 0, none⟩ b0).setCell ⟨g, 1, none⟩ b1).setCell ⟨g, 2, none⟩ b2).setCell ⟨g, 3, none⟩ b3).setCell ⟨g, 4, none⟩ b4) g t #[b0, b1, b2, b3, b4, a5, a6, a7] := Blk.set_ h4 4 b4
  have h6 : Blk ((((((w.setCell ⟨g, 0, none⟩ b0).setCell ⟨g, 1, none⟩ b1).setCell ⟨g, 2, none⟩ b2).setCell ⟨g, 3, none⟩ b3).setCell ⟨g, 4, none⟩ b4).setCell ⟨g, 5, none⟩ b5) g t #[b0, b1, b2, b3, b4, b5, a6, a7] := Blk.set_ h5 5 b5
  have h7 : Blk (((((((w.setCell ⟨g, 0, none⟩ b0).setCell ⟨g, 1, none⟩ b1).setCell ⟨g, 2, none⟩ b2).setCell ⟨g, 3, none⟩ b3).setCell ⟨g, 4, none⟩ b4).setCell ⟨g, 5, none⟩ b5).setCell ⟨g, 6, none⟩ b6) g t #[b0, b1, b2, b3, b4, b5, b6, a7] := Blk.set_ h6 6 b6
  have h8 : Blk ((((((((w.setCell ⟨g, 0, none⟩ b0).setCell ⟨g, 1, none⟩ b1).setCell ⟨g, 2, none⟩ b2).setCell ⟨g, 3, none⟩ b3).setCell ⟨g, 4, none⟩ b4).setCell ⟨g, 5, none⟩ b5).setCell ⟨g, 6, none⟩ b6).setCell ⟨g, 7, none⟩ b7) g t #[b0, b1, b2, b3, b4, b5, b6, b7] := Blk.set_ h7 7 b7
  exact h8
theorem Blk.past8 {w : World} {g g' : Nat} {t : TypeId} {cs : Array Value} (h : Blk w g t cs) (hg : g ≠ g') (b0 b1 b2 b3 b4 b5 b6 b7 : Value) : Blk ((((((((w.setCell ⟨g', 0, none⟩ b0).setCell ⟨g', 1, none⟩ b1).setCell ⟨g', 2, none⟩ b2).setCell ⟨g', 3, none⟩ b3).setCell ⟨g', 4, none⟩ b4).setCell ⟨g', 5, none⟩ b5).setCell ⟨g', 6, none⟩ b6).setCell ⟨g', 7, none⟩ b7) g t cs :=
  ((((((((h.far (p := ⟨g', 0, none⟩) hg b0).far (p := ⟨g', 1, none⟩) hg b1).far (p := ⟨g', 2, none⟩) hg b2).far (p := ⟨g', 3, none⟩) hg b3).far (p := ⟨g', 4, none⟩) hg b4).far (p := ⟨g', 5, none⟩) hg b5).far (p := ⟨g', 6, none⟩) hg b6).far (p := ⟨g', 7, none⟩) hg b7)
theorem below_put8 {B g : Nat} {a w : World} (h : Below B a w) (hg : B ≤ g) (b0 b1 b2 b3 b4 b5 b6 b7 : Value) : Below B a ((((((((w.setCell ⟨g, 0, none⟩ b0).setCell ⟨g, 1, none⟩ b1).setCell ⟨g, 2, none⟩ b2).setCell ⟨g, 3, none⟩ b3).setCell ⟨g, 4, none⟩ b4).setCell ⟨g, 5, none⟩ b5).setCell ⟨g, 6, none⟩ b6).setCell ⟨g, 7, none⟩ b7) :=
  ((((((((h.setCell (p := ⟨g, 0, none⟩) hg b0).setCell (p := ⟨g, 1, none⟩) hg b1).setCell (p := ⟨g, 2, none⟩) hg b2).setCell (p := ⟨g, 3, none⟩) hg b3).setCell (p := ⟨g, 4, none⟩) hg b4).setCell (p := ⟨g, 5, none⟩) hg b5).setCell (p := ⟨g, 6, none⟩) hg b6).setCell (p := ⟨g, 7, none⟩) hg b7)
/-- The parser's block p: the lexemes that are left, and as many open brackets as m, in a row of its own. -/
def PAt (W : World) (p : Nat) (v : Value) (L : List Lex) (m : Nat) : Prop :=
  ∃ A cap xs, Blk W p 116 #[.slice A L.length cap, v] ∧ L.length ≤ cap ∧ LexsAt W p A L ∧ W.ownsRow (p + 1) 3 1 v m xs
/-- Blocks that are neither the parser's nor that of its open brackets. -/
def Off (p : Nat) (v : Value) (b : Nat) : Prop := b ≠ p ∧ some b ≠ v.ownBlock
/-- Such blocks from n on. -/
def New (n p : Nat) (v : Value) (b : Nat) : Prop := n ≤ b ∧ Off p v b
/-- What a step of the parser keeps. -/
def Still (p : Nat) (w : World) (v : Value) (w' : World) (v' : Value) : Prop :=
  Below p w w' ∧ (∀ b, b < w.heap.size → Off p v b → w'.heap[b]? = w.heap[b]?) ∧ (∀ g, v'.ownBlock = some g → v.ownBlock = some g ∨ w.heap.size ≤ g)
theorem Still.refl (p : Nat) (w : World) (v : Value) : Still p w v w v := ⟨Below.refl _ _, fun _ _ _ => rfl, fun _ h => .inl h⟩
theorem Still.trans {p : Nat} {w w1 w2 : World} {v v1 v2 : Value} (h : Still p w v w1 v1) (h' : Still p w1 v1 w2 v2) : Still p w v w2 v2 := by
  refine ⟨h.1.trans h'.1, fun b hb ho => ?_, fun g hg => ?_⟩
  · have : Off p v1 b := ⟨ho.1, fun e => by
      rcases h.2.2 b e.symm with h1 | h1
      · exact ho.2 h1.symm
      · omega⟩
    exact (h'.2.1 b (Nat.lt_of_lt_of_le hb h.1.size) this).trans (h.2.1 b hb ho)
  · rcases h'.2.2 g hg with h1 | h1
    · exact h.2.2 g h1
    · exact .inr (Nat.le_trans h.1.size h1)
theorem Still.off {p : Nat} {w w' : World} {v v' : Value} (h : Still p w v w' v') {b : Nat} (hb : Off p v b) (hl : b < w.heap.size) : Off p v' b :=
  ⟨hb.1, fun e => by
    rcases h.2.2 b e.symm with h1 | h1
    · exact hb.2 h1.symm
    · omega⟩
theorem Still.cell {p : Nat} {w w' : World} {v v' : Value} (h : Still p w v w' v') {b : Nat} (hb : Off p v b) (hl : b < w.heap.size) (o : Nat) : w'.cell? ⟨b, o, none⟩ = w.cell? ⟨b, o, none⟩ :=
  World.cell?_of_block (h.2.1 b hl hb)
theorem Still.blk {p : Nat} {w w' : World} {v v' : Value} (h : Still p w v w' v') {b : Nat} (hb : Off p v b) {t : TypeId} {cs : Array Value} (hk : Blk w b t cs) : Blk w' b t cs := (h.2.1 b hk.lt hb).trans hk
theorem Still.trees {n p : Nat} {w w' : World} {v v' : Value} (h : Still p w v w' v') {F : Trees} {A : Option Addr} (ht : TreesAt w (New n p v) F A) : TreesAt w' (New n p v') F A :=
  ht.keep (fun b o hb hl => h.cell hb.2 hl o) (fun b hb hl => ⟨hb.1, h.off hb.2 hl⟩)
theorem Still.cells {n p : Nat} {w w' : World} {v v' : Value} (h : Still p w v w' v') {l : List Nd} {cs : List Value} (ht : CellsAre w (New n p v) l cs) : CellsAre w' (New n p v') l cs :=
  ht.keep (fun b o hb hl => h.cell hb.2 hl o) (fun b hb hl => ⟨hb.1, h.off hb.2 hl⟩)
/-- A row that a caller owns, of blocks behind the parser's. -/
theorem Still.own {p : Nat} {w w' : World} {v v' : Value} (h : Still p w v w' v') {base size n : Nat} {e : TypeId} {u : Value} {xs : List Value} (hr : w.ownsRow base e size u n xs) (ho : ∀ g, u.ownBlock = some g → Off p v g) : w'.ownsRow base e size u n xs := by
  refine ⟨hr.1, ?_⟩
  rcases hr.2 with hn | ⟨g, cap, cur, rfl, hb, hgg, rest⟩
  · exact .inl hn
  · exact .inr ⟨g, cap, cur, rfl, hb, (h.2.1 g (Array.getElem?_eq_some_iff.1 hgg).1 (ho g rfl)).trans hgg, rest⟩
/-- New blocks alone. -/
theorem Still.of_below {p : Nat} {w w' : World} {v : Value} (h : Below w.heap.size w w') (hp : p ≤ w.heap.size) : Still p w v w' v :=
  ⟨h.mono hp, fun b hb _ => h.block b hb, fun _ h => .inl h⟩

theorem Still.set {p : Nat} {w w' : World} {v v' : Value} (h : Still p w v w' v') (o : Nat) (u : Value) : Still p w v (w'.setCell ⟨p, o, none⟩ u) v' :=
  ⟨h.1.setCell (p := ⟨p, o, none⟩) (Nat.le_refl _) u, fun b hb ho => (Below.heap_setCell w' ⟨p, o, none⟩ u b ho.1).trans (h.2.1 b hb ho), h.2.2⟩
theorem Still.more {p : Nat} {w w' w2 : World} {v v' : Value} (h : Still p w v w' v') (hb : Below w'.heap.size w' w2) (hp : p ≤ w.heap.size) : Still p w v w2 v' :=
  h.trans (Still.of_below hb (Nat.le_trans hp h.1.size))
theorem Still.alloc {p : Nat} {w w' : World} {v v' : Value} (h : Still p w v w' v') (hp : p ≤ w.heap.size) (o : Obj) : Still p w v (w'.alloc o) v' := h.more ((Below.refl _ _).alloc (Nat.le_refl _) o) hp
theorem PAt.lt {W : World} {p : Nat} {v : Value} {L : List Lex} {m : Nat} (h : PAt W p v L m) : p < W.heap.size := by
  obtain ⟨A, cap, xs, hb, _⟩ := h
  exact hb.lt
theorem PAt.below {W W' : World} {p : Nat} {v : Value} {L : List Lex} {m : Nat} (h : PAt W p v L m) (hb : Below W.heap.size W W') : PAt W' p v L m := by
  obtain ⟨A, cap, xs, h1, h2, h3, h4⟩ := h
  exact ⟨A, cap, xs, h1.below hb h1.lt, h2, h3.below (hb.mono (Nat.le_of_lt h1.lt)), own_below h4 hb⟩

set_option maxHeartbeats 1000000 in
theorem peek_nil {W : World} {p : Nat} {v : Value} {m : Nat} (h : PAt W p v [] m) :
    Calls Try.prog 101 #[.pointer (some ⟨p, 0, none⟩)] W fun e W' => e = .returned (.int .i64 0) ∧ W' = W := by
  obtain ⟨A, cap, xs, hb, _⟩ := h
  have c0 := hb.cell 0
  clear hb
  go_enter Try.func101, Try.ntmps101
  go_wp2
  go_ret
  exact ⟨rfl, rfl⟩
set_option maxHeartbeats 1000000 in
theorem peek_go {W : World} {p : Nat} {v : Value} {m : Nat} {x : Lex} {L : List Lex} (h : PAt W p v (x :: L) m) (hlen : L.length ≤ 100000) :
    Calls Try.prog 101 #[.pointer (some ⟨p, 0, none⟩)] W fun e W' => e = .returned (.int .i64 x.kind) ∧ W' = W := by
  obtain ⟨A, cap, xs, hb, hc, hl, _⟩ := h
  obtain ⟨b, o, rfl, hbp, ⟨c0, _⟩, _⟩ := hl.cons
  have s0 := hb.cell 0
  simp only [List.length_cons] at s0 hc
  clear hb hl
  have hz : (((L.length + 1 : Nat) : Int) == 0) = false := by simp; omega
  have hz2 : (((L.length : Int) + 1) == 0) = false := by simp; omega
  have hz3 : (0 : Int) < (L.length : Int) + 1 := by omega
  go_enter Try.func101, Try.ntmps101
  go_wp2
  go_ret
  exact ⟨rfl, rfl⟩

theorem fail_any (k at_ : Int) (W : World) :
    Calls Try.prog 124 #[.int .i64 k, .int .i64 at_] W fun e W' => e = .panicked [{ v := .iface 26 (.agg #[.int .i64 k, .int .i64 at_]), recovered := false }] ∧ W' = W := by
  go_enter Try.func124, Try.ntmps124
  go_wp2
  exact ⟨rfl, rfl, rfl⟩

theorem ret_node {fn : Func} {t : Tmp} (h : fn.results = #[.cell t 37]) {tmps : Array Value} {w : World} {g : Nat} {a0 a1 a2 a3 a4 a5 a6 a7 : Value} (hp : tmps.getD t undef = .pointer (some ⟨g, 0, none⟩)) (hb : Blk w g 37 #[a0, a1, a2, a3, a4, a5, a6, a7]) :
    (results fn tmps).run Try.prog w = .ok (.agg #[a0, a1, a2, a3, a4, a5, a6, a7]) w :=
  results_cell_row h tmps w g _ _ _ _ hp hb Try.underlying37 rfl (by kernel_rfl)
theorem ret_lex {fn : Func} {t : Tmp} (h : fn.results = #[.cell t 97]) {tmps : Array Value} {w : World} {g : Nat} {a0 a1 a2 a3 a4 a5 a6 a7 : Value} (hp : tmps.getD t undef = .pointer (some ⟨g, 0, none⟩)) (hb : Blk w g 97 #[a0, a1, a2, a3, a4, a5, a6, a7]) :
    (results fn tmps).run Try.prog w = .ok (.agg #[a0, a1, a2, a3, a4, a5, a6, a7]) w :=
  results_cell_row h tmps w g _ _ _ _ hp hb Try.underlying97 rfl (by kernel_rfl)

/-- The value of a lexeme. -/
@[inline] def lexV (x : Lex) : Value := .agg #[.int .i64 x.kind, .int .i64 x.place, .int .u64 ((word x.set 0 : Nat) : Int), .int .u64 ((word x.set 1 : Nat) : Int), .int .u64 ((word x.set 2 : Nat) : Int), .int .u64 ((word x.set 3 : Nat) : Int), .int .i64 x.lo, .int .i64 x.hi]
set_option maxHeartbeats 1000000 in
theorem next_any {W : World} {p : Nat} {v : Value} {m : Nat} {x : Lex} {L : List Lex} (h : PAt W p v (x :: L) m) (hlen : L.length ≤ 100000) :
    Calls Try.prog 102 #[.pointer (some ⟨p, 0, none⟩)] W fun e W' => e = .returned (lexV x) ∧ PAt W' p v L m ∧ Still p W v W' v := by
  obtain ⟨A, cap, xs, hb, hc, hl, hr⟩ := h
  obtain ⟨b, o, rfl, hbp, ⟨c0, c1, c2, c3, c4, c5, c6, c7⟩, hl2⟩ := hl.cons
  have s0 : W.cell? ⟨p, 0, none⟩ = some (.slice (some ⟨b, o, none⟩) (L.length + 1) cap) := hb.cell 0
  have f0 := hb.frozen 0
  have hp := hb.lt
  have HB := Lib.hid hb
  have HL2 := Lib.hid hl2
  have HR := Lib.hid hr
  simp only [List.length_cons] at hc
  have hz : (0 : Int) < (L.length : Int) + 1 := by omega
  have hbs : b < W.heap.size := by omega
  clear hb hl hr hl2
  go_enter Try.func102, Try.ntmps102
  go_wp2
  go_light
  all_goals
    have hne := blk_not_row HB.out (by decide) HR.out
    refine bodyPost_ret (ret_lex Try.results102 rfl ((Blk.new_at (by simp)).alloc _)) rfl ⟨rfl, ⟨_, _, _, ((HB.out.set_ 0 _).alloc _).alloc _, by omega, ?_, ((own_set HR.out hne).alloc _).alloc _⟩, (((Still.refl p W v).set 0 _).alloc (Nat.le_of_lt hp) _).alloc (Nat.le_of_lt hp) _⟩
  · by_cases hL : L = []
    · subst hL; exact LexsAt.nil
    · have := List.length_pos_iff.2 hL
      omega
  · exact HL2.out.below ((((Below.refl p W).setCell (p := ⟨p, 0, none⟩) (Nat.le_refl _) _).alloc (by simpa [World.setCell] using Nat.le_of_lt hp) _).alloc (by simp [World.setCell]; omega) _)

@[go_sem] theorem lex_field1 (a b c d e f g h : Value) (w : World) : (Instr.field 97 (.agg #[a, b, c, d, e, f, g, h]) 1).run Try.prog w = .ok b w := by kernel_rfl
@[go_sem] theorem lex_field2 (a b c d e f g h : Value) (w : World) : (Instr.field 97 (.agg #[a, b, c, d, e, f, g, h]) 2).run Try.prog w = .ok (.agg #[c, d, e, f]) w := by kernel_rfl

end Go.Proofs.Ytgbpcigfbpghgaa
namespace Go.Proofs.Ytgbpcigfbpghgaa
open Go.RowKit
set_option linter.unusedSimpArgs false
set_option linter.unusedVariables false
set_option maxRecDepth 100000

theorem word_zero (i : Nat) : word (Nat.testBit 0) i = 0 := by
  have : (Nat.testBit 0) = fun _ => false := by funext j; simp
  rw [this]
  exact word_none i
theorem ndV_plain (k : Int) (ks : Trees) (lo hi : Int) (B : Option Addr) (cap : Nat) : ndV ⟨k, 0, ks, lo, hi⟩ B cap = .agg #[.int .i64 k, .int .u64 0, .int .u64 0, .int .u64 0, .int .u64 0, .slice B ks.len cap, .int .i64 lo, .int .i64 hi] := by
  unfold ndV
  simp only [word_zero]
  rfl
/-- The cells of a node, as a block. -/
@[inline] def ndA (x : Nd) (B : Option Addr) (cap : Nat) : Array Value :=
  #[.int .i64 x.kind, .int .u64 ((word x.set.testBit 0 : Nat) : Int), .int .u64 ((word x.set.testBit 1 : Nat) : Int), .int .u64 ((word x.set.testBit 2 : Nat) : Int), .int .u64 ((word x.set.testBit 3 : Nat) : Int), .slice B x.kids.len cap, .int .i64 x.lo, .int .i64 x.hi]
theorem NdAt.of_blk {w : World} {g : Nat} {t : TypeId} {x : Nd} {B : Option Addr} {cap : Nat} (h : Blk w g t (ndA x B cap)) : NdAt w g 0 x.kind x.set x.kids.len x.lo x.hi B cap :=
  ⟨h.cell 0, h.cell 1, h.cell 2, h.cell 3, h.cell 4, h.cell 5, h.cell 6, h.cell 7⟩
/-- A row of one node. -/
theorem TreesAt.one {w : World} {P : Nat → Prop} {g : Nat} {t : TypeId} {x : Nd} {B : Option Addr} {cap : Nat} (h : Blk w g t (ndA x B cap)) (hc : x.kids.len ≤ cap) (ht : TreesAt w P x.kids B) (hg : P g) : TreesAt w P (Trees.of [x]) (some ⟨g, 0, none⟩) :=
  ⟨g, 0, B, cap, rfl, hg, hc, NdAt.of_blk h, ht, trivial⟩

/-- What comes of a node with one kid, the kid in a new row. -/
def Overs (k : Int) (x : Nd) (B : Option Addr) (cap : Nat) (W : World) (e : Ending) (W' : World) : Prop :=
  ∃ g, e = .returned (ndV ⟨k, 0, Trees.of [x], 0, 0⟩ (some ⟨g, 0, none⟩) 1) ∧ Below W.heap.size W W' ∧ W.heap.size ≤ g ∧ Blk W' g 37 (ndA x B cap)
set_option maxHeartbeats 1000000 in
theorem over_go (k : Int) (X : Nat) (x : Nd) (B : Option Addr) (cap : Nat) (W : World) (hX : Blk W X 37 (ndA x B cap)) :
    Calls Try.prog 125 #[.int .i64 k, .pointer (some ⟨X, 0, none⟩)] W (Overs k x B cap W) := by
  have c0 : W.cell? ⟨X, 0, none⟩ = some (.int .i64 x.kind) := hX.cell 0
  have c1 : W.cell? ⟨X, 1, none⟩ = some (.int .u64 ((word x.set.testBit 0 : Nat) : Int)) := hX.cell 1
  have c2 : W.cell? ⟨X, 2, none⟩ = some (.int .u64 ((word x.set.testBit 1 : Nat) : Int)) := hX.cell 2
  have c3 : W.cell? ⟨X, 3, none⟩ = some (.int .u64 ((word x.set.testBit 2 : Nat) : Int)) := hX.cell 3
  have c4 : W.cell? ⟨X, 4, none⟩ = some (.int .u64 ((word x.set.testBit 3 : Nat) : Int)) := hX.cell 4
  have c5 : W.cell? ⟨X, 5, none⟩ = some (.slice B x.kids.len cap) := hX.cell 5
  have c6 : W.cell? ⟨X, 6, none⟩ = some (.int .i64 x.lo) := hX.cell 6
  have c7 : W.cell? ⟨X, 7, none⟩ = some (.int .i64 x.hi) := hX.cell 7
  have hl := hX.lt
  clear hX
  go_enter Try.func125, Try.ntmps125
  go_wp2
  go_light
  refine bodyPost_ret (ret_node Try.results125 rfl ((Blk.new_at (by simp)).alloc _)) rfl ⟨W.heap.size + 1, by rw [ndV_plain]; rfl, ((Below.refl _ _).alloc (Nat.le_refl _) _).alloc (by simp) _, by omega, Blk.new_at (by simp)⟩

def lenOf : Value → Nat
  | .slice _ n _ => n
  | _ => 0
/-- What posts gives. -/
def Posted (n p : Nat) (v : Value) (m : Nat) (r : Nd × List Lex) (W : World) (e : Ending) (W' : World) : Prop :=
  ∃ B cap, e = .returned (ndV r.1 B cap) ∧ PAt W' p v r.2 m ∧ Still p W v W' v ∧ r.1.kids.len ≤ cap ∧ TreesAt W' (New n p v) r.1.kids B
/-- What holds in each round of posts: the box X holds the node so far. -/
def InPosts (n p : Nat) (v : Value) (m X : Nat) (r : Nd × List Lex) (W wr : World) : Prop :=
  ∃ z B cap L, postsG z L = r ∧ L.length ≤ 100000 ∧ PAt wr p v L m ∧ Still p W v wr v ∧ Blk wr X 37 (ndA z B cap) ∧ Blk wr (X + 1) 37 #[.int .i64 0, .int .u64 0, .int .u64 0, .int .u64 0, .int .u64 0, .slice none 0 0, .int .i64 0, .int .i64 0] ∧ z.kids.len ≤ cap ∧ TreesAt wr (fun b => New n p v b ∧ b ≠ X ∧ b ≠ X + 1) z.kids B

theorem PAt.len {w : World} {p : Nat} {v : Value} {L : List Lex} {m : Nat} (h : PAt w p v L m) : lenOf ((w.cell? ⟨p, 0, none⟩).getD undef) = L.length := by
  obtain ⟨A, cap, xs, hb, _⟩ := h
  have h0 : w.cell? ⟨p, 0, none⟩ = some (.slice A L.length cap) := hb.cell 0
  rw [h0]
  rfl
theorem only_put8 (w : World) (Y : Nat) (b0 b1 b2 b3 b4 b5 b6 b7 : Value) : w.grownBy ((((((((w.setCell ⟨Y, 0, none⟩ b0).setCell ⟨Y, 1, none⟩ b1).setCell ⟨Y, 2, none⟩ b2).setCell ⟨Y, 3, none⟩ b3).setCell ⟨Y, 4, none⟩ b4).setCell ⟨Y, 5, none⟩ b5).setCell ⟨Y, 6, none⟩ b6).setCell ⟨Y, 7, none⟩ b7) (some Y) :=
  only_set (only_set (only_set (only_set (only_set (only_set (only_set (only_set (only_refl w _) 0 b0) 1 b1) 2 b2) 3 b3) 4 b4) 5 b5) 6 b6) 7 b7
theorem PAt.only {w w' : World} {p Y : Nat} {v : Value} {L : List Lex} {m : Nat} (h : PAt w p v L m) (hg : w.grownBy w' (some Y)) (hp : p < Y) (hv : ∀ g, v.ownBlock = some g → g ≠ Y) : PAt w' p v L m := by
  obtain ⟨A, cap, xs, hb, hc, hl, hr⟩ := h
  exact ⟨A, cap, xs, hb.grown hg (by simp; omega), hc, hl.below ⟨hg.os, hg.tape, hg.output, hg.size, fun k hk => hg.block k (Nat.lt_trans hk hb.lt) (by simp; omega)⟩,
    hr.kept hg (by cases hvo : v.ownBlock with
      | none => exact .inl rfl
      | some g => exact .inr (fun e => hv g hvo (by simpa using e)))⟩
theorem Still.only {w w' : World} {p Y : Nat} {W : World} {v v' : Value} (h : Still p W v w v') (hg : w.grownBy w' (some Y)) (hp : p < W.heap.size) (hY : W.heap.size ≤ Y) : Still p W v w' v' :=
  ⟨h.1.grown hg (by have := h.1.size; omega) (fun k e => by cases e; omega), fun b hb ho => (hg.block b (Nat.lt_of_lt_of_le hb h.1.size) (by simp; omega)).trans (h.2.1 b hb ho), h.2.2⟩
theorem postsG_stop {x : Nd} {y : Lex} {L : List Lex} (h : isPost y.kind = false) : postsG x (y :: L) = (x, y :: L) := by
  conv => lhs; unfold postsG
  rw [if_neg (by rw [h]; decide)]
theorem postsG_go {x : Nd} {y : Lex} {L : List Lex} (h : isPost y.kind = true) : postsG x (y :: L) = postsG (postN y x) L := by
  conv => lhs; unfold postsG
  rw [if_pos h]

theorem ndA_plain (k : Int) (ks : Trees) (lo hi : Int) (B : Option Addr) (cap : Nat) : ndA ⟨k, 0, ks, lo, hi⟩ B cap = #[.int .i64 k, .int .u64 0, .int .u64 0, .int .u64 0, .int .u64 0, .slice B ks.len cap, .int .i64 lo, .int .i64 hi] := by
  unfold ndA
  simp only [word_zero]
  rfl
theorem posts_step {W w1 w2 w3 : World} {n p m g : Nat} {v : Value} {y : Lex} {L : List Lex} {z : Nd} {B : Option Addr} {cap : Nat} {k lo hi : Int} (hv : ∀ g, v.ownBlock = some g → g < W.heap.size) (hn : n ≤ W.heap.size) (hp : p < W.heap.size) (hS : Still p W v w1 v) (hP : PAt w1 p v (y :: L) m)
    (hb2 : Below w1.heap.size w1 w2) (hg2 : w1.heap.size ≤ g) (hB2 : Blk w2 g 37 (ndA z B cap)) (hY : Blk w1 (W.heap.size + 1) 37 #[.int .i64 0, .int .u64 0, .int .u64 0, .int .u64 0, .int .u64 0, .slice none 0 0, .int .i64 0, .int .i64 0])
    (hT : TreesAt w1 (fun b => New n p v b ∧ b ≠ W.heap.size ∧ b ≠ W.heap.size + 1) z.kids B) (hc : z.kids.len ≤ cap) (hlen : L.length + 1 ≤ 100000)
    (h3 : w2.grownBy w3 (some W.heap.size)) (hX3 : Blk w3 W.heap.size 37 (ndA ⟨k, 0, Trees.of [z], lo, hi⟩ (some ⟨g, 0, none⟩) 1)) :
    PAt w3 p v (y :: L) m ∧ ∀ w5, PAt w5 p v L m → Still p w3 v w5 v → InPosts n p v m W.heap.size (postsG ⟨k, 0, Trees.of [z], lo, hi⟩ L) W w5 ∧ lenOf ((w5.cell? ⟨p, 0, none⟩).getD undef) < lenOf ((w1.cell? ⟨p, 0, none⟩).getD undef) := by
  have hY1 := hY.lt
  have hs2 := hb2.size
  have hs3 := h3.size
  have hoX : Off p v W.heap.size := ⟨by omega, fun e => by have := hv _ e.symm; omega⟩
  have hoY : Off p v (W.heap.size + 1) := ⟨by omega, fun e => by have := hv _ e.symm; omega⟩
  have hog : Off p v g := ⟨by omega, fun e => by have := hv _ e.symm; omega⟩
  have h13 : Still p W v w3 v := (hS.more hb2 (Nat.le_of_lt hp)).only h3 hp (Nat.le_refl _)
  refine ⟨(hP.below hb2).only h3 hp (fun g e => by have := hv g e; omega), fun w5 hP5 hS5 => ⟨?_, ?_⟩⟩
  · have ht3 : TreesAt w3 (fun b => New n p v b ∧ b ≠ W.heap.size ∧ b ≠ W.heap.size + 1) (Trees.of [z]) (some ⟨g, 0, none⟩) := by
      refine TreesAt.one (t := 37) (hB2.grown h3 (by simp; omega)) hc ?_ ⟨⟨by omega, hog⟩, by omega, by omega⟩
      exact (hT.below hb2).keep (fun b o hb hl => World.cell?_of_block (h3.block b hl (by simp; omega))) (fun b hb _ => hb)
    refine ⟨⟨k, 0, Trees.of [z], lo, hi⟩, some ⟨g, 0, none⟩, 1, L, rfl, by omega, hP5, h13.trans hS5, hS5.blk hoX hX3, hS5.blk hoY ((hY.below hb2 hY1).grown h3 (by simp)), Nat.le_refl _, ?_⟩
    exact ht3.keep (fun b o hb hl => hS5.cell hb.1.2 hl o) (fun b hb hl => ⟨⟨hb.1.1, hS5.off hb.1.2 hl⟩, hb.2⟩)
  · rw [hP5.len, hP.len]
    simp
set_option maxHeartbeats 4000000 in
theorem posts_go {W : World} {n p : Nat} {v : Value} {L0 : List Lex} {m : Nat} (x : Nd) (B : Option Addr) (cap : Nat) (h : PAt W p v L0 m) (hx : x.kids.len ≤ cap) (ht : TreesAt W (New n p v) x.kids B) (hn : n ≤ W.heap.size) (hlen : L0.length ≤ 100000) :
    Calls Try.prog 114 #[.pointer (some ⟨p, 0, none⟩), ndV x B cap] W (Posted n p v m (postsG x L0) W) := by
  have hp := h.lt
  have hv : ∀ g, v.ownBlock = some g → g < W.heap.size := by
    obtain ⟨_, _, _, _, _, _, hr⟩ := h
    exact fun g e => (hr.lt g e).2
  have h0 : InPosts n p v m W.heap.size (postsG x L0) W ((W.alloc (.cells (ndA x B cap) 37)).alloc (.cells #[.int .i64 0, .int .u64 0, .int .u64 0, .int .u64 0, .int .u64 0, .slice none 0 0, .int .i64 0, .int .i64 0] 37)) := by
    have hb : Below W.heap.size W ((W.alloc (.cells (ndA x B cap) 37)).alloc (.cells #[.int .i64 0, .int .u64 0, .int .u64 0, .int .u64 0, .int .u64 0, .slice none 0 0, .int .i64 0, .int .i64 0] 37)) := ((Below.refl _ _).alloc (Nat.le_refl _) _).alloc (by simp) _
    exact ⟨x, B, cap, L0, rfl, hlen, h.below hb, Still.of_below hb (Nat.le_of_lt hp), (Blk.new _ _ _).alloc _, Blk.new_at (by simp), hx, (ht.weak (fun b h1 h2 => ⟨h1, by omega, by omega⟩)).below hb⟩
  have H0 := Lib.hid h0
  clear h0 h ht
  unfold ndA at H0
  unfold ndV
  go_enter Try.func114, Try.ntmps114
  go_wp2
  go_loopw [7] (fun _ wr => InPosts n p v m W.heap.size (postsG x L0) W wr) (fun _ wr => lenOf ((wr.cell? ⟨p, 0, none⟩).getD undef))
  case atStart => exact H0.out
  case round =>
    obtain ⟨z, B, cap, L, hr, hlen, hP, hS, hX, hY, hc, ht⟩ := hrel
    have hw : W.heap.size ≤ wr.heap.size := hS.1.size
    have hXl := hX.lt
    have hYl := hY.lt
    have x0 : wr.cell? ⟨W.heap.size, 0, none⟩ = some (.int .i64 z.kind) := hX.cell 0
    have x1 : wr.cell? ⟨W.heap.size, 1, none⟩ = some (.int .u64 ((word z.set.testBit 0 : Nat) : Int)) := hX.cell 1
    have x2 : wr.cell? ⟨W.heap.size, 2, none⟩ = some (.int .u64 ((word z.set.testBit 1 : Nat) : Int)) := hX.cell 2
    have x3 : wr.cell? ⟨W.heap.size, 3, none⟩ = some (.int .u64 ((word z.set.testBit 2 : Nat) : Int)) := hX.cell 3
    have x4 : wr.cell? ⟨W.heap.size, 4, none⟩ = some (.int .u64 ((word z.set.testBit 3 : Nat) : Int)) := hX.cell 4
    have x5 : wr.cell? ⟨W.heap.size, 5, none⟩ = some (.slice B z.kids.len cap) := hX.cell 5
    have x6 : wr.cell? ⟨W.heap.size, 6, none⟩ = some (.int .i64 z.lo) := hX.cell 6
    have x7 : wr.cell? ⟨W.heap.size, 7, none⟩ = some (.int .i64 z.hi) := hX.cell 7
    have y0 : wr.cell? ⟨W.heap.size + 1, 0, none⟩ = some (.int .i64 0) := hY.cell 0
    have y1 : wr.cell? ⟨W.heap.size + 1, 1, none⟩ = some (.int .u64 0) := hY.cell 1
    have y2 : wr.cell? ⟨W.heap.size + 1, 2, none⟩ = some (.int .u64 0) := hY.cell 2
    have y3 : wr.cell? ⟨W.heap.size + 1, 3, none⟩ = some (.int .u64 0) := hY.cell 3
    have y4 : wr.cell? ⟨W.heap.size + 1, 4, none⟩ = some (.int .u64 0) := hY.cell 4
    have y5 : wr.cell? ⟨W.heap.size + 1, 5, none⟩ = some (.slice none 0 0) := hY.cell 5
    have y6 : wr.cell? ⟨W.heap.size + 1, 6, none⟩ = some (.int .i64 0) := hY.cell 6
    have y7 : wr.cell? ⟨W.heap.size + 1, 7, none⟩ = some (.int .i64 0) := hY.cell 7
    have g0 := hY.frozen 0
    have g1 := hY.frozen 1
    have g2 := hY.frozen 2
    have g3 := hY.frozen 3
    have g4 := hY.frozen 4
    have g5 := hY.frozen 5
    have g6 := hY.frozen 6
    have g7 := hY.frozen 7
    have HP := Lib.hid hP
    have HS := Lib.hid hS
    have HX := Lib.hid hX
    have HY := Lib.hid hY
    have HT := Lib.hid ht
    have HR := Lib.hid hr
    clear hP hS hX hY ht hr H0
    cases L with
    | nil =>
      go_wp2_with fail
      refine (peek_nil HP.out).mono ?_
      rintro e w1 ⟨rfl, rfl⟩
      go_wp2
      go_light
      have hg := only_put8 w1 (W.heap.size + 1) (.int .i64 z.kind) (.int .u64 ((word z.set.testBit 0 : Nat) : Int)) (.int .u64 ((word z.set.testBit 1 : Nat) : Int)) (.int .u64 ((word z.set.testBit 2 : Nat) : Int)) (.int .u64 ((word z.set.testBit 3 : Nat) : Int)) (.slice B z.kids.len cap) (.int .i64 z.lo) (.int .i64 z.hi)
      rw [← HR.out]
      refine bodyPost_ret (ret_node Try.results114 rfl (HY.out.put8 _ _ _ _ _ _ _ _)) rfl ⟨B, cap, rfl, HP.out.only hg (by omega) (fun g e => by have := hv g e; omega), HS.out.only hg (by omega) (by omega), hc, HT.out.keep (fun b o hb hl => World.cell?_of_block (hg.block b hl (fun e => hb.2.2 (Option.some.inj e)))) (fun b hb hl => hb.1)⟩

    | cons y L =>
      simp only [List.length_cons] at hlen
      by_cases hpost : isPost y.kind = true
      · have hk := (isPost_iff _).1 hpost
        have HR := Lib.hid ((postsG_go hpost).symm.trans HR.out)
        clear hpost
        by_cases h8 : y.kind = 8
        · have HZ := Lib.hid (show postsG x L0 = postsG ⟨9, 0, Trees.of [z], y.lo, y.hi⟩ L by rw [← HR.out]; unfold postN; rw [if_pos h8])
          go_wp2_with fail
          refine (peek_go HP.out (by omega)).mono ?_
          rintro e w1 ⟨rfl, rfl⟩
          rw [h8]
          go_wp2_with fail
          refine (over_go 9 W.heap.size z B cap w1 HX.out).mono ?_
          rintro e w2 ⟨g, rfl, hb2, hg2, hB2⟩
          rw [ndV_plain]
          have hX2 := HX.out.below hb2 hXl
          have hsz2 := hb2.size
          have f0 := hX2.frozen 0
          have f1 := hX2.frozen 1
          have f2 := hX2.frozen 2
          have f3 := hX2.frozen 3
          have f4 := hX2.frozen 4
          have f5 := hX2.frozen 5
          have f6 := hX2.frozen 6
          have f7 := hX2.frozen 7
          have e0 : w2.cell? ⟨W.heap.size, 0, none⟩ = some (.int .i64 z.kind) := hX2.cell 0
          have e1 : w2.cell? ⟨W.heap.size, 1, none⟩ = some (.int .u64 ((word z.set.testBit 0 : Nat) : Int)) := hX2.cell 1
          have e2 : w2.cell? ⟨W.heap.size, 2, none⟩ = some (.int .u64 ((word z.set.testBit 1 : Nat) : Int)) := hX2.cell 2
          have e3 : w2.cell? ⟨W.heap.size, 3, none⟩ = some (.int .u64 ((word z.set.testBit 2 : Nat) : Int)) := hX2.cell 3
          have e4 : w2.cell? ⟨W.heap.size, 4, none⟩ = some (.int .u64 ((word z.set.testBit 3 : Nat) : Int)) := hX2.cell 4
          have e5 : w2.cell? ⟨W.heap.size, 5, none⟩ = some (.slice B z.kids.len cap) := hX2.cell 5
          have e6 : w2.cell? ⟨W.heap.size, 6, none⟩ = some (.int .i64 z.lo) := hX2.cell 6
          have e7 : w2.cell? ⟨W.heap.size, 7, none⟩ = some (.int .i64 z.hi) := hX2.cell 7
          have HX2 := Lib.hid hX2
          have HB2 := Lib.hid hB2
          have Hb2 := Lib.hid hb2
          clear hX2 hB2 hb2 x0 x1 x2 x3 x4 x5 x6 x7 y0 y1 y2 y3 y4 y5 y6 y7 g0 g1 g2 g3 g4 g5 g6 g7
          obtain ⟨A0, cap0, xs0, hb0, hc0, hl0, _⟩ := (HP.out.below Hb2.out)
          obtain ⟨b0, o0, rfl, hbp, ⟨q0, q1, q2, q3, q4, q5, q6, q7⟩, _⟩ := hl0.cons
          have p0 : w2.cell? ⟨p, 0, none⟩ = some (.slice (some ⟨b0, o0, none⟩) (L.length + 1) cap0) := hb0.cell 0
          clear hb0 hl0 q0 q1 q2 q3 q4 q5
          have hz3 : (0 : Int) < (L.length : Int) + 1 := by omega
          have hne1 : ¬ p = W.heap.size := by omega
          have hne2 : ¬ b0 = W.heap.size := by omega
          go_wp2
          go_region
          have hg3 := only_put8 w2 W.heap.size (.int .i64 9) (.int .u64 0) (.int .u64 0) (.int .u64 0) (.int .u64 0) (.slice (some ⟨g, 0, none⟩) (Trees.of [z]).len 1) (.int .i64 0) (.int .i64 0)
          have hx3 := HX2.out.put8 (.int .i64 9) (.int .u64 0) (.int .u64 0) (.int .u64 0) (.int .u64 0) (.slice (some ⟨g, 0, none⟩) (Trees.of [z]).len 1) (.int .i64 0) (.int .i64 0)
          have hx4 := Blk.set_ hx3 6 (.int .i64 y.lo)
          have hx5 := Blk.set_ hx4 7 (.int .i64 y.hi)
          have hstep := posts_step hv hn hp HS.out HP.out Hb2.out hg2 HB2.out HY.out HT.out hc hlen (only_drew (only_set (only_set hg3 6 (.int .i64 y.lo)) 7 (.int .i64 y.hi))) (by rw [ndA_plain]; exact Blk.drew hx5)
          clear hg3 hx3 hx4 hx5
          have HN := Lib.hid hstep.2
          have HM := Lib.hid hstep.1
          clear hstep
          go_wp2_with fail
          refine (next_any HM.out (by omega)).mono ?_
          rintro e w5 ⟨rfl, hP5, hS5⟩
          have HF := Lib.hid (HN.out w5 hP5 hS5)
          clear hP5 hS5
          unfold lexV
          go_wp2
          go_roundw
          case rel => rw [HZ.out]; exact HF.out.1
          case measure => exact HF.out.2
        · have hk : y.kind = 5 ∨ y.kind = 6 ∨ y.kind = 7 := by omega
          rcases hk with hk | hk | hk
          · have HZ := Lib.hid (show postsG x L0 = postsG ⟨6, 0, Trees.of [z], 0, 0⟩ L by rw [← HR.out]; unfold postN; rw [if_neg h8, hk]; rfl)
            go_wp2_with fail
            refine (peek_go HP.out (by omega)).mono ?_
            rintro e w1 ⟨rfl, rfl⟩
            rw [hk]
            go_wp2_with fail
            refine (over_go 6 W.heap.size z B cap w1 HX.out).mono ?_
            rintro e w2 ⟨g, rfl, hb2, hg2, hB2⟩
            rw [ndV_plain]
            have hX2 := HX.out.below hb2 hXl
            have hsz2 := hb2.size
            have f0 := hX2.frozen 0
            have f1 := hX2.frozen 1
            have f2 := hX2.frozen 2
            have f3 := hX2.frozen 3
            have f4 := hX2.frozen 4
            have f5 := hX2.frozen 5
            have f6 := hX2.frozen 6
            have f7 := hX2.frozen 7
            have e0 : w2.cell? ⟨W.heap.size, 0, none⟩ = some (.int .i64 z.kind) := hX2.cell 0
            have e1 : w2.cell? ⟨W.heap.size, 1, none⟩ = some (.int .u64 ((word z.set.testBit 0 : Nat) : Int)) := hX2.cell 1
            have e2 : w2.cell? ⟨W.heap.size, 2, none⟩ = some (.int .u64 ((word z.set.testBit 1 : Nat) : Int)) := hX2.cell 2
            have e3 : w2.cell? ⟨W.heap.size, 3, none⟩ = some (.int .u64 ((word z.set.testBit 2 : Nat) : Int)) := hX2.cell 3
            have e4 : w2.cell? ⟨W.heap.size, 4, none⟩ = some (.int .u64 ((word z.set.testBit 3 : Nat) : Int)) := hX2.cell 4
            have e5 : w2.cell? ⟨W.heap.size, 5, none⟩ = some (.slice B z.kids.len cap) := hX2.cell 5
            have e6 : w2.cell? ⟨W.heap.size, 6, none⟩ = some (.int .i64 z.lo) := hX2.cell 6
            have e7 : w2.cell? ⟨W.heap.size, 7, none⟩ = some (.int .i64 z.hi) := hX2.cell 7
            have HX2 := Lib.hid hX2
            have HB2 := Lib.hid hB2
            have Hb2 := Lib.hid hb2
            clear hX2 hB2 hb2 x0 x1 x2 x3 x4 x5 x6 x7 y0 y1 y2 y3 y4 y5 y6 y7 g0 g1 g2 g3 g4 g5 g6 g7
            go_wp2_with fail
            have hg3 := only_put8 w2 W.heap.size (.int .i64 6) (.int .u64 0) (.int .u64 0) (.int .u64 0) (.int .u64 0) (.slice (some ⟨g, 0, none⟩) (Trees.of [z]).len 1) (.int .i64 0) (.int .i64 0)
            have hx3 := HX2.out.put8 (.int .i64 6) (.int .u64 0) (.int .u64 0) (.int .u64 0) (.int .u64 0) (.slice (some ⟨g, 0, none⟩) (Trees.of [z]).len 1) (.int .i64 0) (.int .i64 0)
            have hstep := posts_step hv hn hp HS.out HP.out Hb2.out hg2 HB2.out HY.out HT.out hc hlen hg3 (by rw [ndA_plain]; exact hx3)
            clear hg3 hx3
            have HN := Lib.hid hstep.2
            refine (next_any hstep.1 (by omega)).mono ?_
            clear hstep
            rintro e w5 ⟨rfl, hP5, hS5⟩
            have HF := Lib.hid (HN.out w5 hP5 hS5)
            clear hP5 hS5
            unfold lexV
            go_wp2
            go_roundw
            case rel => rw [HZ.out]; exact HF.out.1
            case measure => exact HF.out.2
          · have HZ := Lib.hid (show postsG x L0 = postsG ⟨7, 0, Trees.of [z], 0, 0⟩ L by rw [← HR.out]; unfold postN; rw [if_neg h8, hk]; rfl)
            go_wp2_with fail
            refine (peek_go HP.out (by omega)).mono ?_
            rintro e w1 ⟨rfl, rfl⟩
            rw [hk]
            go_wp2_with fail
            refine (over_go 7 W.heap.size z B cap w1 HX.out).mono ?_
            rintro e w2 ⟨g, rfl, hb2, hg2, hB2⟩
            rw [ndV_plain]
            have hX2 := HX.out.below hb2 hXl
            have hsz2 := hb2.size
            have f0 := hX2.frozen 0
            have f1 := hX2.frozen 1
            have f2 := hX2.frozen 2
            have f3 := hX2.frozen 3
            have f4 := hX2.frozen 4
            have f5 := hX2.frozen 5
            have f6 := hX2.frozen 6
            have f7 := hX2.frozen 7
            have e0 : w2.cell? ⟨W.heap.size, 0, none⟩ = some (.int .i64 z.kind) := hX2.cell 0
            have e1 : w2.cell? ⟨W.heap.size, 1, none⟩ = some (.int .u64 ((word z.set.testBit 0 : Nat) : Int)) := hX2.cell 1
            have e2 : w2.cell? ⟨W.heap.size, 2, none⟩ = some (.int .u64 ((word z.set.testBit 1 : Nat) : Int)) := hX2.cell 2
            have e3 : w2.cell? ⟨W.heap.size, 3, none⟩ = some (.int .u64 ((word z.set.testBit 2 : Nat) : Int)) := hX2.cell 3
            have e4 : w2.cell? ⟨W.heap.size, 4, none⟩ = some (.int .u64 ((word z.set.testBit 3 : Nat) : Int)) := hX2.cell 4
            have e5 : w2.cell? ⟨W.heap.size, 5, none⟩ = some (.slice B z.kids.len cap) := hX2.cell 5
            have e6 : w2.cell? ⟨W.heap.size, 6, none⟩ = some (.int .i64 z.lo) := hX2.cell 6
            have e7 : w2.cell? ⟨W.heap.size, 7, none⟩ = some (.int .i64 z.hi) := hX2.cell 7
            have HX2 := Lib.hid hX2
            have HB2 := Lib.hid hB2
            have Hb2 := Lib.hid hb2
            clear hX2 hB2 hb2 x0 x1 x2 x3 x4 x5 x6 x7 y0 y1 y2 y3 y4 y5 y6 y7 g0 g1 g2 g3 g4 g5 g6 g7
            go_wp2_with fail
            have hg3 := only_put8 w2 W.heap.size (.int .i64 7) (.int .u64 0) (.int .u64 0) (.int .u64 0) (.int .u64 0) (.slice (some ⟨g, 0, none⟩) (Trees.of [z]).len 1) (.int .i64 0) (.int .i64 0)
            have hx3 := HX2.out.put8 (.int .i64 7) (.int .u64 0) (.int .u64 0) (.int .u64 0) (.int .u64 0) (.slice (some ⟨g, 0, none⟩) (Trees.of [z]).len 1) (.int .i64 0) (.int .i64 0)
            have hstep := posts_step hv hn hp HS.out HP.out Hb2.out hg2 HB2.out HY.out HT.out hc hlen hg3 (by rw [ndA_plain]; exact hx3)
            clear hg3 hx3
            have HN := Lib.hid hstep.2
            refine (next_any hstep.1 (by omega)).mono ?_
            clear hstep
            rintro e w5 ⟨rfl, hP5, hS5⟩
            have HF := Lib.hid (HN.out w5 hP5 hS5)
            clear hP5 hS5
            unfold lexV
            go_wp2
            go_roundw
            case rel => rw [HZ.out]; exact HF.out.1
            case measure => exact HF.out.2
          · have HZ := Lib.hid (show postsG x L0 = postsG ⟨8, 0, Trees.of [z], 0, 0⟩ L by rw [← HR.out]; unfold postN; rw [if_neg h8, hk]; rfl)
            go_wp2_with fail
            refine (peek_go HP.out (by omega)).mono ?_
            rintro e w1 ⟨rfl, rfl⟩
            rw [hk]
            go_wp2_with fail
            refine (over_go 8 W.heap.size z B cap w1 HX.out).mono ?_
            rintro e w2 ⟨g, rfl, hb2, hg2, hB2⟩
            rw [ndV_plain]
            have hX2 := HX.out.below hb2 hXl
            have hsz2 := hb2.size
            have f0 := hX2.frozen 0
            have f1 := hX2.frozen 1
            have f2 := hX2.frozen 2
            have f3 := hX2.frozen 3
            have f4 := hX2.frozen 4
            have f5 := hX2.frozen 5
            have f6 := hX2.frozen 6
            have f7 := hX2.frozen 7
            have e0 : w2.cell? ⟨W.heap.size, 0, none⟩ = some (.int .i64 z.kind) := hX2.cell 0
            have e1 : w2.cell? ⟨W.heap.size, 1, none⟩ = some (.int .u64 ((word z.set.testBit 0 : Nat) : Int)) := hX2.cell 1
            have e2 : w2.cell? ⟨W.heap.size, 2, none⟩ = some (.int .u64 ((word z.set.testBit 1 : Nat) : Int)) := hX2.cell 2
            have e3 : w2.cell? ⟨W.heap.size, 3, none⟩ = some (.int .u64 ((word z.set.testBit 2 : Nat) : Int)) := hX2.cell 3
            have e4 : w2.cell? ⟨W.heap.size, 4, none⟩ = some (.int .u64 ((word z.set.testBit 3 : Nat) : Int)) := hX2.cell 4
            have e5 : w2.cell? ⟨W.heap.size, 5, none⟩ = some (.slice B z.kids.len cap) := hX2.cell 5
            have e6 : w2.cell? ⟨W.heap.size, 6, none⟩ = some (.int .i64 z.lo) := hX2.cell 6
            have e7 : w2.cell? ⟨W.heap.size, 7, none⟩ = some (.int .i64 z.hi) := hX2.cell 7
            have HX2 := Lib.hid hX2
            have HB2 := Lib.hid hB2
            have Hb2 := Lib.hid hb2
            clear hX2 hB2 hb2 x0 x1 x2 x3 x4 x5 x6 x7 y0 y1 y2 y3 y4 y5 y6 y7 g0 g1 g2 g3 g4 g5 g6 g7
            go_wp2_with fail
            have hg3 := only_put8 w2 W.heap.size (.int .i64 8) (.int .u64 0) (.int .u64 0) (.int .u64 0) (.int .u64 0) (.slice (some ⟨g, 0, none⟩) (Trees.of [z]).len 1) (.int .i64 0) (.int .i64 0)
            have hx3 := HX2.out.put8 (.int .i64 8) (.int .u64 0) (.int .u64 0) (.int .u64 0) (.int .u64 0) (.slice (some ⟨g, 0, none⟩) (Trees.of [z]).len 1) (.int .i64 0) (.int .i64 0)
            have hstep := posts_step hv hn hp HS.out HP.out Hb2.out hg2 HB2.out HY.out HT.out hc hlen hg3 (by rw [ndA_plain]; exact hx3)
            clear hg3 hx3
            have HN := Lib.hid hstep.2
            refine (next_any hstep.1 (by omega)).mono ?_
            clear hstep
            rintro e w5 ⟨rfl, hP5, hS5⟩
            have HF := Lib.hid (HN.out w5 hP5 hS5)
            clear hP5 hS5
            unfold lexV
            go_wp2
            go_roundw
            case rel => rw [HZ.out]; exact HF.out.1
            case measure => exact HF.out.2
      · have hk : ¬ (5 ≤ y.kind ∧ y.kind ≤ 8) := fun h => hpost ((isPost_iff _).2 h)
        have k5 : (y.kind == 5) = false := by simp; omega
        have k6 : (y.kind == 6) = false := by simp; omega
        have k7 : (y.kind == 7) = false := by simp; omega
        have k8 : (y.kind == 8) = false := by simp; omega
        have HR := Lib.hid ((postsG_stop (by simpa using hpost)).symm.trans HR.out)
        go_wp2_with fail
        refine (peek_go HP.out (by omega)).mono ?_
        rintro e w1 ⟨rfl, rfl⟩
        go_wp2
        go_light
        have hg := only_put8 w1 (W.heap.size + 1) (.int .i64 z.kind) (.int .u64 ((word z.set.testBit 0 : Nat) : Int)) (.int .u64 ((word z.set.testBit 1 : Nat) : Int)) (.int .u64 ((word z.set.testBit 2 : Nat) : Int)) (.int .u64 ((word z.set.testBit 3 : Nat) : Int)) (.slice B z.kids.len cap) (.int .i64 z.lo) (.int .i64 z.hi)
        rw [← HR.out]
        refine bodyPost_ret (ret_node Try.results114 rfl (HY.out.put8 _ _ _ _ _ _ _ _)) rfl ⟨B, cap, rfl, HP.out.only hg (by omega) (fun g e => by have := hv g e; omega), HS.out.only hg (by omega) (by omega), hc, HT.out.keep (fun b o hb hl => World.cell?_of_block (hg.block b hl (fun e => hb.2.2 (Option.some.inj e)))) (fun b hb hl => hb.1)⟩

end Go.Proofs.Ytgbpcigfbpghgaa
namespace Go.Proofs.Ytgbpcigfbpghgaa
open Go.RowKit
set_option linter.unusedSimpArgs false
set_option linter.unusedVariables false
set_option maxRecDepth 100000

theorem tbytes_any (p : Nat → Bool) (w : World) :
    Calls Try.prog 55 #[.agg #[.int .u64 ((word (p) 0 : Nat) : Int), .int .u64 ((word (p) 1 : Nat) : Int), .int .u64 ((word (p) 2 : Nat) : Int), .int .u64 ((word (p) 3 : Nat) : Int)]] w fun e w' => e = .returned (ndV (leafN (maskOf p)) none 0) ∧ Below w.heap.size w w' := by
  have hv : ndV (leafN (maskOf p)) none 0 = .agg #[.int .i64 3, .int .u64 ((word (p) 0 : Nat) : Int), .int .u64 ((word (p) 1 : Nat) : Int), .int .u64 ((word (p) 2 : Nat) : Int), .int .u64 ((word (p) 3 : Nat) : Int), .slice none 0 0, .int .i64 0, .int .i64 0] := by
    unfold ndV leafN
    dsimp only
    rw [word_mask p 0 (by decide), word_mask p 1 (by decide), word_mask p 2 (by decide), word_mask p 3 (by decide)]
    rfl
  rw [hv]
  go_enter Try.func55, Try.ntmps55
  go_wp2
  go_light
  refine bodyPost_ret (ret_node Try.results55 rfl (Blk.new_at (by simp))) rfl ⟨rfl, ((Below.refl _ _).alloc (Nat.le_refl _) _).alloc (by simp) _⟩
theorem tempty_any (w : World) :
    Calls Try.prog 115 #[] w fun e w' => e = .returned (ndV emptyN none 0) ∧ Below w.heap.size w w' := by
  have hv : ndV emptyN none 0 = .agg #[.int .i64 2, .int .u64 0, .int .u64 0, .int .u64 0, .int .u64 0, .slice none 0 0, .int .i64 0, .int .i64 0] := ndV_plain _ _ _ _ _ _
  rw [hv]
  go_enter Try.func115, Try.ntmps115
  go_wp2
  go_light
  refine bodyPost_ret (ret_node Try.results115 rfl (Blk.new_at (by simp))) rfl ⟨rfl, (Below.refl _ _).alloc (Nat.le_refl _) _⟩

/-- What flat gives. -/
def Flatted (P : Nat → Prop) (x : Nd) (w : World) (e : Ending) (w' : World) : Prop :=
  ∃ B cap, e = .returned (ndV x B cap) ∧ Below w.heap.size w w' ∧ x.kids.len ≤ cap ∧ TreesAt w' P x.kids B
theorem flatN_many (k : Int) (l : List Nd) (h : l.length ≠ 1) : flatN k l = ⟨k, 0, Trees.of l, 0, 0⟩ := by
  match l, h with
  | [], _ => rfl
  | [x], h => exact absurd rfl h
  | x :: y :: l, _ => rfl
set_option maxHeartbeats 1000000 in
theorem flat_go (k : Int) (P : Nat → Prop) (A : Option Addr) (cap : Nat) (l : List Nd) (w : World) (hc : l.length ≤ cap) (ht : TreesAt w P (Trees.of l) A) :
    Calls Try.prog 103 #[.int .i64 k, .slice A l.length cap] w (Flatted P (flatN k l) w) := by
  by_cases h1 : l.length = 1
  · obtain ⟨x, rfl⟩ := List.length_eq_one_iff.1 h1
    obtain ⟨b, o, B, cap', rfl, hb, hc', hn, hk⟩ := ht.get (i := 0) (x := x) (by rw [Trees.list_of]; rfl)
    obtain ⟨c0, c1, c2, c3, c4, c5, c6, c7⟩ := hn
    have hbl := World.block_lt_of_cell? w _ c0
    have HK := Lib.hid hk
    simp only [Nat.zero_mul, Nat.add_zero] at c0 c1 c2 c3 c4 c5 c6 c7
    clear hk ht h1
    show Calls _ _ #[.int .i64 k, .slice (some ⟨b, o, none⟩) 1 cap] w (Flatted P x w)
    go_enter Try.func103, Try.ntmps103
    go_wp2
    go_light
    exact bodyPost_ret (ret_node Try.results103 rfl (Blk.new_at (by simp))) rfl ⟨B, cap', rfl, (Below.refl _ _).alloc (Nat.le_refl _) _, hc', HK.out.below ((Below.refl _ _).alloc (Nat.le_refl _) _)⟩
  · rw [flatN_many k l h1]
    have hd : ((l.length : Int) == 1) = false := by simp; omega
    have HT := Lib.hid ht
    clear ht h1
    go_enter Try.func103, Try.ntmps103
    go_wp2
    go_light
    exact bodyPost_ret (ret_node Try.results103 rfl (Blk.new_at (by simp))) rfl ⟨A, cap, by rw [ndV_plain, Trees.len_of], (Below.refl _ _).alloc (Nat.le_refl _) _, by rw [Trees.len_of]; exact hc, HT.out.below ((Below.refl _ _).alloc (Nat.le_refl _) _)⟩

/-! What the parser's functions give. -/
def badV (k q : Int) : Value := .iface 26 (.agg #[.int .i64 k, .int .i64 q])
def Panics (p : Nat) (r : Wrong) (W : World) (e : Ending) (W' : World) : Prop := e = .panicked [{ v := badV r.1 r.2, recovered := false }] ∧ Below p W W'
/-- A node, and what is left. -/
def Gives (p m : Nat) (v : Value) (r : Except Wrong (Nd × List Lex)) (W : World) (e : Ending) (W' : World) : Prop :=
  match r with
  | .ok (x, R) => ∃ v' B cap, e = .returned (ndV x B cap) ∧ PAt W' p v' R m ∧ Still p W v W' v' ∧ x.kids.len ≤ cap ∧ TreesAt W' (New W.heap.size p v') x.kids B
  | .error x => Panics p x W e W'
def zeroN : Value := .agg #[.int .i64 0, .int .u64 0, .int .u64 0, .int .u64 0, .int .u64 0, .slice none 0 0, .int .i64 0, .int .i64 0]
/-- A node and true, or false. -/
def GivesO (p m : Nat) (v : Value) (r : Except Wrong (Option Nd × List Lex)) (W : World) (e : Ending) (W' : World) : Prop :=
  match r with
  | .ok (some x, R) => ∃ v' B cap, e = .returned (.tuple #[ndV x B cap, .bool true]) ∧ PAt W' p v' R m ∧ Still p W v W' v' ∧ x.kids.len ≤ cap ∧ TreesAt W' (New W.heap.size p v') x.kids B
  | .ok (none, R) => ∃ v', e = .returned (.tuple #[zeroN, .bool false]) ∧ PAt W' p v' R m ∧ Still p W v W' v'
  | .error x => Panics p x W e W'
def partR : Except Wrong (List Nd × List Lex) → Except Wrong (Nd × List Lex)
  | .ok (ps, R) => .ok (partN ps, R)
  | .error e => .error e
def AltC (n : Nat) : Prop := ∀ (p : Nat) (op : List Int) (L : List Lex) (W : World) (v : Value), PAt W p v L op.length → L.length ≤ 100000 → op.length ≤ 64 → 3 * L.length + 2 < n →
  Calls Try.prog 76 #[.pointer (some ⟨p, 0, none⟩)] W (Gives p op.length v (altG n op [] L) W)
def PartC (n : Nat) : Prop := ∀ (p : Nat) (op : List Int) (L : List Lex) (W : World) (v : Value), PAt W p v L op.length → L.length ≤ 100000 → op.length ≤ 64 → 3 * L.length + 1 < n →
  Calls Try.prog 100 #[.pointer (some ⟨p, 0, none⟩)] W (Gives p op.length v (partR (piecesG n op [] L)) W)
def AtomC (n : Nat) : Prop := ∀ (p : Nat) (op : List Int) (L : List Lex) (W : World) (v : Value), PAt W p v L op.length → L.length ≤ 100000 → op.length ≤ 64 → 3 * L.length < n →
  Calls Try.prog 113 #[.pointer (some ⟨p, 0, none⟩)] W (GivesO p op.length v (atomG n op L) W)

end Go.Proofs.Ytgbpcigfbpghgaa
