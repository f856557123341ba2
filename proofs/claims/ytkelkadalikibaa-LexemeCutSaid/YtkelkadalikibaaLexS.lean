/-
  Lexemes of bytes: what stands at a place, and all of them. No program in sight.
-/
import Derived.Test.YtkelkadalikibaaDec
import Derived.Test.YtkelkadalikibaaOf
namespace Go.Proofs.Ytkelkadalikibaa
set_option linter.unusedSimpArgs false
set_option linter.unusedVariables false

/-- A lexeme: its kind, its place, its set, and how often. -/
structure Lex where
  kind : Int
  place : Int
  set : Nat → Bool
  lo : Int
  hi : Int

/-- No byte. -/
def noSet (_ : Nat) : Bool := false
/-- All bytes but one. -/
def dotSet (c : Nat) : Bool := !among [10] 1 c
/-- The kind of a sign; 0: it is none. -/
def signKind (c : Nat) : Int := if c = 40 then 2 else if c = 41 then 3 else if c = 124 then 4 else if c = 42 then 5 else if c = 43 then 6 else if c = 63 then 7 else 0
/-- A repetition at i, where its bracket stands. -/
def repS (bs : List Nat) (i : Nat) : Except Wrong (Lex × Nat) :=
  match takeS bs (i + 1) with
  | none => .error (16, i)
  | some (lo, j) =>
    if hasAt bs j 44 = true then
      if hasAt bs ((j : Int) + 1) 125 = true then .ok (⟨8, i, noSet, lo, -1⟩, j + 2)
      else match takeS bs (j + 1) with
        | none => .error (16, i)
        | some (hi, k) => if hasAt bs k 125 = true then (if hi < lo then .error (15, i) else .ok (⟨8, i, noSet, lo, hi⟩, k + 1)) else .error (16, i)
    else if hasAt bs j 125 = true then .ok (⟨8, i, noSet, lo, lo⟩, j + 1) else .error (16, i)
/-- The lexeme at i, and the place behind. -/
def lexS (bs : List Nat) (i : Nat) : Except Wrong (Lex × Nat) :=
  if byteAt bs i = 46 then .ok (⟨1, i, dotSet, 0, 0⟩, i + 1)
  else if byteAt bs i = 92 then (match escS bs i with | some (c, j) => .ok (⟨1, i, among [c] 1, 0, 0⟩, j) | none => .error (14, i))
  else if byteAt bs i = 91 then (match readS bs i with | .ok (p, j) => .ok (⟨1, i, p, 0, 0⟩, j) | .error e => .error e)
  else if byteAt bs i = 123 then repS bs i
  else if byteAt bs i = 93 ∨ byteAt bs i = 125 ∨ byteAt bs i = 10 then .error (3, i)
  else if signKind (byteAt bs i) ≠ 0 then .ok (⟨signKind (byteAt bs i), i, noSet, 0, 0⟩, i + 1)
  else .ok (⟨1, i, among [byteAt bs i] 1, 0, 0⟩, i + 1)
/-- The lexemes from i on, behind those of l. -/
def splitF (bs : List Nat) : Nat → Nat → List Lex → Except Wrong (List Lex)
  | 0, _, _ => .error (0, 0)
  | f + 1, i, l => if bs.length ≤ i then .ok l else match lexS bs i with
    | .error e => .error e
    | .ok (x, j) => splitF bs f j (l ++ [x])
/-- The lexemes of a text. -/
def splitS (bs : List Nat) : Except Wrong (List Lex) := if 65536 < bs.length then .error (4, 65536) else splitF bs (bs.length + 1) 0 []

theorem splitS_long {bs : List Nat} (h : 65536 < bs.length) : splitS bs = .error (4, 65536) := if_pos h
theorem splitS_go {bs : List Nat} (h : bs.length ≤ 65536) : splitS bs = splitF bs (bs.length + 1) 0 [] := if_neg (by omega)
theorem splitF_end {bs : List Nat} {f i : Nat} {l : List Lex} (h : bs.length ≤ i) : splitF bs (f + 1) i l = .ok l := by
  unfold splitF; rw [if_pos h]
theorem splitF_ok {bs : List Nat} {f i j : Nat} {l : List Lex} {x : Lex} (h : i < bs.length) (hx : lexS bs i = .ok (x, j)) : splitF bs (f + 1) i l = splitF bs f j (l ++ [x]) := by
  conv => lhs; unfold splitF
  rw [if_neg (by omega), hx]
theorem splitF_bad {bs : List Nat} {f i : Nat} {l : List Lex} {e : Wrong} (h : i < bs.length) (hx : lexS bs i = .error e) : splitF bs (f + 1) i l = .error e := by
  unfold splitF; rw [if_neg (by omega), hx]

/-! Reading goes on, and stays within the text. -/
theorem itemsS_some {bs : List Nat} (hb : ∀ x ∈ bs, x < 256) {s : Nat} : ∀ {f i : Nat} {p q : Nat → Bool} {j : Nat}, itemsS bs s f i p = .ok (q, j) → i < j ∧ j ≤ bs.length
  | 0, i, p, q, j, h => by cases h
  | f + 1, i, p, q, j, h => by
    cases hi : itemS bs s i with
    | error e => rw [itemsS_bad hi] at h; cases h
    | ok x =>
      obtain ⟨lo, hi', k⟩ := x
      have hk := itemS_ok hb hi
      rw [itemsS_ok hi] at h
      cases hc : hasAt bs (k : Int) 93
      · rw [restS_go hc] at h
        have := itemsS_some hb h
        omega
      · rw [restS_end hc] at h
        obtain ⟨m, hm, hm2, _⟩ := hasAt_yes hc
        simp at h
        omega
theorem readS_some {bs : List Nat} (hb : ∀ x ∈ bs, x < 256) {i : Nat} {p : Nat → Bool} {j : Nat} (h : readS bs (i : Int) = .ok (p, j)) : i < j ∧ j ≤ bs.length := by
  cases h1 : hasAt bs (i : Int) 91
  · rw [readS_no h1] at h; cases h
  cases h2 : hasAt bs ((i : Int) + 1) 94
  · rw [readS_plain h1 h2] at h
    have := itemsS_some hb h
    omega
  · rw [readS_turned h1 h2] at h
    cases h3 : itemsS bs i (bs.length + 1) (i + 2) (fun _ => false) with
    | error e => rw [h3] at h; cases h
    | ok x =>
      obtain ⟨q, k⟩ := x
      rw [h3] at h
      have h4 : k = j := by
        have := Except.ok.inj h
        exact (Prod.mk.inj this).2
      have := itemsS_some hb h3
      omega
theorem charS_err {bs : List Nat} {s i : Nat} {k q : Int} (h : charS bs s i = .error (k, q)) : k ≠ 0 := by
  unfold charS at h
  split at h
  · simp at h; omega
  split at h
  · split at h
    · cases h
    · simp at h; omega
  split at h
  · simp at h; omega
  · cases h
theorem itemS_err {bs : List Nat} {s i : Nat} {k q : Int} (h : itemS bs s i = .error (k, q)) : k ≠ 0 := by
  unfold itemS at h
  cases h1 : charS bs s i with
  | error e =>
    rw [h1] at h
    obtain ⟨a, b⟩ := e
    have := charS_err h1
    simp at h
    omega
  | ok x =>
    obtain ⟨lo, j⟩ := x
    rw [h1] at h
    dsimp only at h
    split at h
    · cases h2 : charS bs s (j + 1) with
      | error e =>
        rw [h2] at h
        obtain ⟨a, b⟩ := e
        have := charS_err h2
        simp at h
        omega
      | ok y =>
        obtain ⟨hi, m⟩ := y
        rw [h2] at h
        dsimp only at h
        split at h
        · simp at h; omega
        · cases h
    · cases h
theorem itemsS_err {bs : List Nat} (hb : ∀ x ∈ bs, x < 256) {s : Nat} : ∀ {f i : Nat} {p : Nat → Bool} {k q : Int}, bs.length < f + i → i ≤ bs.length → itemsS bs s f i p = .error (k, q) → k ≠ 0
  | 0, i, p, k, q, hf, hi, h => by omega
  | f + 1, i, p, k, q, hf, hi0, h => by
    cases hi : itemS bs s i with
    | error e =>
      rw [itemsS_bad hi] at h
      obtain ⟨a, b⟩ := e
      have := itemS_err hi
      simp at h
      omega
    | ok x =>
      obtain ⟨lo, hi', m⟩ := x
      have hk := itemS_ok hb hi
      rw [itemsS_ok hi] at h
      cases hc : hasAt bs (m : Int) 93
      · rw [restS_go hc] at h
        exact itemsS_err hb (by omega) (by omega) h
      · rw [restS_end hc] at h; cases h

theorem readS_err {bs : List Nat} (hb : ∀ x ∈ bs, x < 256) {i : Int} {k q : Int} (h : readS bs i = .error (k, q)) : k ≠ 0 := by
  cases h1 : hasAt bs i 91
  · rw [readS_no h1] at h; simp at h; omega
  obtain ⟨m, rfl, hm, _⟩ := hasAt_yes h1
  cases h2 : hasAt bs ((m : Int) + 1) 94
  · rw [readS_plain h1 h2] at h
    exact itemsS_err hb (by omega) (by omega) h
  · rw [readS_turned h1 h2] at h
    obtain ⟨m2, hm2, hm3, _⟩ := hasAt_yes h2
    cases h3 : itemsS bs m (bs.length + 1) (m + 2) (fun _ => false) with
    | error e =>
      obtain ⟨a, b⟩ := e
      rw [h3] at h
      have := itemsS_err hb (by omega) (by omega) h3
      have h4 : (a, b) = (k, q) := Except.error.inj h
      simp at h4
      omega
    | ok x =>
      obtain ⟨p, j⟩ := x
      rw [h3] at h; cases h
theorem repS_some {bs : List Nat} {i : Nat} {x : Lex} {j : Nat} (h : repS bs i = .ok (x, j)) : i < j ∧ j ≤ bs.length := by
  unfold repS at h
  split at h
  · cases h
  · rename_i lo m hm
    have h1 := takeS_some hm
    split at h
    · rename_i hc
      obtain ⟨n, hn, hn2, _⟩ := hasAt_yes hc
      split at h
      · rename_i hd
        obtain ⟨n', hn', hn2', _⟩ := hasAt_yes hd
        have := (Prod.mk.inj (Except.ok.inj h)).2
        omega
      · split at h
        · cases h
        · rename_i hi k hk
          have h2 := takeS_some hk
          split at h
          · rename_i hd
            obtain ⟨n', hn', hn2', _⟩ := hasAt_yes hd
            split at h
            · cases h
            · have := (Prod.mk.inj (Except.ok.inj h)).2
              omega
          · cases h
    · split at h
      · rename_i hd
        obtain ⟨n', hn', hn2', _⟩ := hasAt_yes hd
        have := (Prod.mk.inj (Except.ok.inj h)).2
        omega
      · cases h
theorem repS_err {bs : List Nat} {i : Nat} {k q : Int} (h : repS bs i = .error (k, q)) : k = 16 ∧ q = i ∨ k = 15 ∧ q = i := by
  unfold repS at h
  split at h
  · simp at h; omega
  · split at h
    · split at h
      · cases h
      · split at h
        · simp at h; omega
        · split at h
          · split at h
            · simp at h; omega
            · cases h
          · simp at h; omega
    · split at h
      · cases h
      · simp at h; omega
theorem lexS_some {bs : List Nat} (hb : ∀ x ∈ bs, x < 256) {i : Nat} (hi : i < bs.length) {x : Lex} {j : Nat} (h : lexS bs i = .ok (x, j)) : i < j ∧ j ≤ bs.length := by
  unfold lexS at h
  split at h
  · have := (Prod.mk.inj (Except.ok.inj h)).2; omega
  split at h
  · split at h
    · rename_i c k hk
      have h2 := escS_some hb hk
      have := (Prod.mk.inj (Except.ok.inj h)).2; omega
    · cases h
  split at h
  · split at h
    · rename_i p k hk
      have h2 := readS_some hb hk
      have := (Prod.mk.inj (Except.ok.inj h)).2; omega
    · cases h
  split at h
  · exact repS_some h
  split at h
  · cases h
  split at h
  · have := (Prod.mk.inj (Except.ok.inj h)).2; omega
  · have := (Prod.mk.inj (Except.ok.inj h)).2; omega
theorem lexS_err {bs : List Nat} (hb : ∀ x ∈ bs, x < 256) {i : Nat} {k q : Int} (h : lexS bs i = .error (k, q)) : k ≠ 0 := by
  unfold lexS at h
  split at h
  · cases h
  split at h
  · split at h
    · cases h
    · simp at h; omega
  split at h
  · split at h
    · cases h
    · rename_i e he
      have h1 := Except.error.inj h
      rw [h1] at he
      exact readS_err hb he
  split at h
  · have := repS_err h; omega
  split at h
  · simp at h; omega
  split at h
  · cases h
  · cases h

end Go.Proofs.Ytkelkadalikibaa
