/-
  Reading a lexeme sees no more than its own bytes: so the lexemes of a text's beginning, and of its rest, are those of the text. No program in sight. May a lexeme be? What is read may be; its places rise. No program in sight. The tree of lexemes, by a plain reading from the left; and what is wrong first. No program in sight. Rules as lines of a text: names, lines, and the whole, by a plain reading. No program in sight. Two texts of rules, one behind the other: the plain law. No program in sight. Rules in memory: rows of names and trees; the names that a map knows. The contracts of spec.letter, spec.run and the reference's May. The contract of class.Escape. The contract of the program's reader of chars. The contract of the program's reader of items. How many nodes a tree has that is read of lexemes. No program in sight. What is read of any text may be; where something is wrong its place is within the text, or just behind it. No program in sight. The parser in memory; the contracts of peek, next and fail. The contract of the parser's posts; a row of one node. The contracts of flat, tree.Bytes, tree.Empty; what the parser's functions give.
-/
import Derived.Maps.Own
import Derived.Maps.Views
import Derived.Deep.QuietTactic
import Derived.BigQuiet
import Derived.Deep.Light
import Derived.LoopTactic
import Derived.RegionTactic
import Derived.BigRegion
import Derived.Test.YtajohcknenngnaaGreatQZ01
import Derived.Test.YtajohcknenngnaaGreatQRefEsc
import Derived.Test.YtajohcknenngnaaGreatQEscapeX
namespace Go.Proofs.YtajohcknenngnaaGreat
set_option linter.unusedSimpArgs false
set_option linter.unusedVariables false

/-- The bytes of cs from i + q to j + q are those of bs from i + p on. -/
def Part (cs bs : List Nat) (p q i j : Nat) : Prop := ∀ m, i ≤ m → m < j → m + q < cs.length ∧ m + p < bs.length ∧ byteAt cs (m + q) = byteAt bs (m + p)
section
variable {cs bs : List Nat} {p q i j : Nat}
theorem Part.sub (h : Part cs bs p q i j) {i' j' : Nat} (hi : i ≤ i') (hj : j' ≤ j) : Part cs bs p q i' j' := fun m a b => h m (by omega) (by omega)
theorem Part.has (h : Part cs bs p q i j) {m : Nat} (h1 : i ≤ m) (h2 : m < j) (c : Nat) : hasAt cs ((m + q : Nat) : Int) c = hasAt bs ((m + p : Nat) : Int) c := by
  have a := h m h1 h2
  rw [hasAt_in c a.1, hasAt_in c a.2.1, a.2.2]
theorem Part.has1 (h : Part cs bs p q i j) {m : Nat} (h1 : i ≤ m + 1) (h2 : m + 1 < j) (c : Nat) : hasAt cs (((m + q : Nat) : Int) + 1) c = hasAt bs (((m + p : Nat) : Int) + 1) c := by
  have a := h.has h1 h2 c
  rw [show (((m + q : Nat) : Int) + 1) = ((m + 1 + q : Nat) : Int) by omega, a]
  congr 1
  omega
end

theorem escS_move {cs bs : List Nat} {p q i j c : Nat} (h : escS bs (i + p) = some (c, j + p)) (hp : Part cs bs p q i j) : escS cs (i + q) = some (c, j + q) := by
  unfold escS at h
  rw [show i + p + 1 = i + 1 + p by omega, show i + p + 2 = i + 2 + p by omega, show i + p + 3 = i + 3 + p by omega, show i + p + 4 = i + 4 + p by omega] at h
  by_cases h0 : bs.length ≤ i + 1 + p
  · rw [if_pos h0] at h; cases h
  rw [if_neg h0] at h
  by_cases h1 : byteAt bs (i + 1 + p) = 110
  · rw [if_pos h1] at h
    simp at h
    obtain ⟨rfl, hj⟩ := h
    subst hj
    have a := hp (i + 1) (by omega) (by omega)
    rw [show i + 1 + q = i + q + 1 by omega] at a
    rw [show i + 2 + q = i + q + 2 by omega]
    exact escS_n a.1 (a.2.2.trans h1)
  rw [if_neg h1] at h
  by_cases h2 : byteAt bs (i + 1 + p) = 116
  · rw [if_pos h2] at h
    simp at h
    obtain ⟨rfl, hj⟩ := h
    subst hj
    have a := hp (i + 1) (by omega) (by omega)
    rw [show i + 1 + q = i + q + 1 by omega] at a
    rw [show i + 2 + q = i + q + 2 by omega]
    exact escS_t a.1 (a.2.2.trans h2)
  rw [if_neg h2] at h
  by_cases h3 : byteAt bs (i + 1 + p) = 114
  · rw [if_pos h3] at h
    simp at h
    obtain ⟨rfl, hj⟩ := h
    subst hj
    have a := hp (i + 1) (by omega) (by omega)
    rw [show i + 1 + q = i + q + 1 by omega] at a
    rw [show i + 2 + q = i + q + 2 by omega]
    exact escS_r a.1 (a.2.2.trans h3)
  rw [if_neg h3] at h
  by_cases h4 : byteAt bs (i + 1 + p) = 120
  · rw [if_pos h4] at h
    by_cases h5 : bs.length ≤ i + 3 + p
    · rw [if_pos h5] at h; cases h
    rw [if_neg h5] at h
    by_cases h6 : digVal (byteAt bs (i + 2 + p)) < 0
    · rw [if_pos h6] at h; cases h
    rw [if_neg h6] at h
    by_cases h7 : digVal (byteAt bs (i + 3 + p)) < 0
    · rw [if_pos h7] at h; cases h
    rw [if_neg h7] at h
    simp at h
    obtain ⟨hc, hj⟩ := h
    subst hj
    have a := hp (i + 1) (by omega) (by omega)
    have b := hp (i + 2) (by omega) (by omega)
    have d := hp (i + 3) (by omega) (by omega)
    rw [show i + 1 + q = i + q + 1 by omega] at a
    rw [show i + 2 + q = i + q + 2 by omega] at b
    rw [show i + 3 + q = i + q + 3 by omega] at d
    rw [show i + 4 + q = i + q + 4 by omega]
    rw [escS_x a.1 (a.2.2.trans h4) d.1 (by rw [b.2.2]; omega) (by rw [d.2.2]; omega), b.2.2, d.2.2, hc]
  rw [if_neg h4] at h
  by_cases h5 : byteAt bs (i + 1 + p) < 33 ∨ 126 < byteAt bs (i + 1 + p) ∨ isWord (byteAt bs (i + 1 + p)) = true
  · rw [if_pos h5] at h; cases h
  rw [if_neg h5] at h
  simp at h
  obtain ⟨rfl, hj⟩ := h
  subst hj
  have a := hp (i + 1) (by omega) (by omega)
  rw [show i + 1 + q = i + q + 1 by omega] at a
  rw [show i + 2 + q = i + q + 2 by omega]
  rw [← a.2.2] at h1 h2 h3 h4 h5 ⊢
  rw [not_or, not_or] at h5
  exact escS_self a.1 h1 h2 h3 h4 (by omega) (by omega) (by simpa using h5.2.2)

theorem charS_move {cs bs : List Nat} (hb : ∀ x ∈ bs, x < 256) {p q i j c s S : Nat} (h : charS bs S (i + p) = .ok (c, j + p)) (hp : Part cs bs p q i j) : charS cs s (i + q) = .ok (c, j + q) := by
  have hk := charS_ok hb h
  have a := hp i (by omega) (by omega)
  unfold charS at h
  rw [if_neg (by omega)] at h
  by_cases h1 : byteAt bs (i + p) = 92
  · rw [if_pos h1] at h
    cases he : escS bs (i + p) with
    | none => rw [he] at h; cases h
    | some x =>
      rw [he] at h
      obtain ⟨c', j'⟩ := x
      simp at h
      obtain ⟨rfl, rfl⟩ := h
      exact charS_esc a.1 (a.2.2.trans h1) (escS_move he hp)
  rw [if_neg h1] at h
  by_cases h2 : isSpecial (byteAt bs (i + p)) = true
  · rw [if_pos h2] at h; cases h
  rw [if_neg h2] at h
  simp at h
  obtain ⟨rfl, hj⟩ := h
  obtain rfl : j = i + 1 := by omega
  rw [← a.2.2] at h1 h2 ⊢
  rw [show i + 1 + q = i + q + 1 by omega]
  exact charS_self a.1 h1 (by simpa using h2)

theorem itemS_move {cs bs : List Nat} (hb : ∀ x ∈ bs, x < 256) {p q i j lo hi s S : Nat} (h : itemS bs S (i + p) = .ok (lo, hi, j + p)) (hp : Part cs bs p q i (j + 1)) : itemS cs s (i + q) = .ok (lo, hi, j + q) := by
  have hk := itemS_ok hb h
  unfold itemS at h
  cases h1 : charS bs S (i + p) with
  | error e => rw [h1] at h; cases h
  | ok x =>
    obtain ⟨lo', J⟩ := x
    obtain ⟨a1, a2, a3⟩ := charS_ok hb h1
    obtain ⟨m, rfl⟩ : ∃ m, J = m + p := ⟨J - p, by omega⟩
    rw [h1] at h
    dsimp only at h
    by_cases h2 : hasAt bs ((m + p : Nat) : Int) 45 = true
    · rw [if_pos h2] at h
      cases h3 : charS bs S (m + p + 1) with
      | error e => rw [h3] at h; cases h
      | ok y =>
        obtain ⟨hi', K⟩ := y
        obtain ⟨b1, b2, b3⟩ := charS_ok hb h3
        rw [h3] at h
        dsimp only at h
        by_cases h4 : hi' < lo'
        · rw [if_pos h4] at h; cases h
        rw [if_neg h4] at h
        simp at h
        obtain ⟨rfl, rfl, rfl⟩ := h
        rw [show m + p + 1 = m + 1 + p by omega] at h3
        unfold itemS
        rw [charS_move hb h1 (hp.sub (by omega) (by omega))]
        dsimp only
        rw [hp.has (by omega) (by omega), if_pos h2, show m + q + 1 = m + 1 + q by omega, charS_move hb h3 (hp.sub (by omega) (by omega))]
        dsimp only
        rw [if_neg h4]
    · rw [if_neg h2] at h
      simp at h
      obtain ⟨rfl, rfl, h⟩ := h
      obtain rfl : m = j := by omega
      unfold itemS
      rw [charS_move hb h1 (hp.sub (by omega) (by omega))]
      dsimp only
      rw [hp.has (by omega) (by omega), if_neg h2]

theorem itemsS_move {cs bs : List Nat} (hb : ∀ x ∈ bs, x < 256) {p q s S j : Nat} {r : Nat → Bool} : ∀ {f i : Nat} {u : Nat → Bool}, itemsS bs S f (i + p) u = .ok (r, j + p) → Part cs bs p q i j → ∀ f', j - i ≤ f' → itemsS cs s f' (i + q) u = .ok (r, j + q)
  | 0, i, u, h, hp, f', hf => by cases h
  | f + 1, i, u, h, hp, f', hf => by
    have hij := itemsS_some hb h
    obtain ⟨f2, rfl⟩ : ∃ f2, f' = f2 + 1 := ⟨f' - 1, by omega⟩
    cases hi : itemS bs S (i + p) with
    | error e => rw [itemsS_bad hi] at h; cases h
    | ok x =>
      obtain ⟨lo, hi', K⟩ := x
      have hk := itemS_ok hb hi
      obtain ⟨m, rfl⟩ : ∃ m, K = m + p := ⟨K - p, by omega⟩
      rw [itemsS_ok hi] at h
      cases hc : hasAt bs ((m + p : Nat) : Int) 93
      · rw [restS_go hc] at h
        have hmj := itemsS_some hb h
        rw [itemsS_ok (itemS_move hb hi (hp.sub (by omega) (by omega))), restS_go ((hp.has (by omega) (by omega) 93).trans hc)]
        exact itemsS_move hb h (hp.sub (by omega) (by omega)) f2 (by omega)
      · rw [restS_end hc] at h
        have h2 := Prod.mk.inj (Except.ok.inj h)
        have hj : m + p + 1 = j + p := h2.2
        rw [itemsS_ok (itemS_move hb hi (hp.sub (by omega) (by omega))), restS_end ((hp.has (by omega) (by omega) 93).trans hc), h2.1]
        rw [show m + q + 1 = j + q by omega]

theorem Part.len {cs bs : List Nat} {p q i j : Nat} (h : Part cs bs p q i j) (hij : i < j) : j + q ≤ cs.length := by
  have := (h (j - 1) (by omega) (by omega)).1
  omega

theorem readS_move {cs bs : List Nat} (hb : ∀ x ∈ bs, x < 256) {p q i j : Nat} {u : Nat → Bool} (h : readS bs ((i + p : Nat) : Int) = .ok (u, j + p)) (hp : Part cs bs p q i j) : readS cs ((i + q : Nat) : Int) = .ok (u, j + q) := by
  have hij := readS_some hb h
  have hl := hp.len (by omega)
  cases h1 : hasAt bs ((i + p : Nat) : Int) 91
  · rw [readS_no h1] at h; cases h
  have h1' := (hp.has (Nat.le_refl i) (by omega) 91).trans h1
  cases h2 : hasAt bs (((i + p : Nat) : Int) + 1) 94
  · rw [readS_plain h1 h2, show i + p + 1 = i + 1 + p by omega] at h
    have := itemsS_some hb h
    rw [readS_plain h1' ((hp.has1 (by omega) (by omega) 94).trans h2), show i + q + 1 = i + 1 + q by omega]
    exact itemsS_move hb h (hp.sub (by omega) (by omega)) _ (by omega)
  · rw [readS_turned h1 h2, show i + p + 2 = i + 2 + p by omega] at h
    cases h3 : itemsS bs (i + p) (bs.length + 1) (i + 2 + p) (fun _ => false) with
    | error e => rw [h3] at h; cases h
    | ok x =>
      obtain ⟨u', k⟩ := x
      rw [h3] at h
      have h4 := Prod.mk.inj (Except.ok.inj h)
      obtain ⟨h5, h6⟩ := h4
      subst h6
      have := itemsS_some hb h3
      rw [readS_turned h1' ((hp.has1 (by omega) (by omega) 94).trans h2), show i + q + 2 = i + 2 + q by omega, itemsS_move hb h3 (hp.sub (by omega) (by omega)) _ (by omega), ← h5]
      rfl

theorem takeWhile_eq {f : Nat → Bool} : ∀ (A : List Nat) (c : Nat) (R : List Nat), (∀ x ∈ A, f x = true) → f c = false → (A ++ c :: R).takeWhile f = A
  | [], c, R, _, hc => by simp [List.takeWhile_cons, hc]
  | a :: A, c, R, h, hc => by
    rw [List.cons_append, List.takeWhile_cons, h a (by simp)]
    simp only [if_true]
    rw [takeWhile_eq A c R (fun x hx => h x (by simp [hx])) hc]
theorem getElem?_byteAt {bs : List Nat} {k : Nat} (h : k < bs.length) : bs[k]? = some (byteAt bs k) := by
  rw [List.getElem?_eq_getElem h, byteAt_get h]
theorem Part.take {cs bs : List Nat} {p q i j : Nat} (h : Part cs bs p q i j) : (cs.drop (i + q)).take (j - i) = (bs.drop (i + p)).take (j - i) := by
  apply List.ext_getElem?
  intro k
  rw [List.getElem?_take, List.getElem?_take]
  by_cases hk : k < j - i
  · have a := h (i + k) (by omega) (by omega)
    rw [if_pos hk, if_pos hk, List.getElem?_drop, List.getElem?_drop, show i + q + k = i + k + q by omega, getElem?_byteAt a.1, show i + p + k = i + k + p by omega, getElem?_byteAt a.2.1, a.2.2]
  · rw [if_neg hk, if_neg hk]
theorem digs_move {cs bs : List Nat} {p q i n : Nat} (hn : (digs bs (i + p)).length = n) (hp : Part cs bs p q i (i + n + 1)) (hd : isDig (byteAt bs (i + n + p)) = false) : digs cs (i + q) = digs bs (i + p) := by
  have a := hp (i + n) (by omega) (by omega)
  have h1 := hp.take
  rw [show i + n + 1 - i = n + 1 by omega, List.take_add_one, List.take_add_one, List.getElem?_drop, List.getElem?_drop, show i + q + n = i + n + q by omega, getElem?_byteAt a.1, show i + p + n = i + n + p by omega, getElem?_byteAt a.2.1, a.2.2] at h1
  have h2 : (cs.drop (i + q)).take n = digs bs (i + p) := by
    have := List.append_cancel_right h1
    rw [this, digs_take bs (i + p), hn]
  have h3 : cs.drop (i + q) = digs bs (i + p) ++ byteAt bs (i + n + p) :: cs.drop (i + n + q + 1) := by
    have e1 : cs.drop (i + q) = (cs.drop (i + q)).take n ++ (cs.drop (i + q)).drop n := (List.take_append_drop _ _).symm
    rw [e1, h2, List.drop_drop, show i + q + n = i + n + q by omega, List.drop_eq_getElem_cons a.1, byteAt_get a.1, a.2.2]
  unfold digs
  rw [h3]
  exact takeWhile_eq _ _ _ (digs_dig bs (i + p)) hd
theorem takeS_move {cs bs : List Nat} {p q i j v : Nat} (h : takeS bs (i + p) = some (v, j + p)) (hp : Part cs bs p q i (j + 1)) (hd : isDig (byteAt bs (j + p)) = false) : takeS cs (i + q) = some (v, j + q) := by
  have h0 := h
  unfold takeS at h
  split at h
  · cases h
  · rename_i hc
    have h1 := Prod.mk.inj (Option.some.inj h)
    have hj : i + p + (digs bs (i + p)).length = j + p := h1.2
    have hji : j = i + (digs bs (i + p)).length := by omega
    have hm : digs cs (i + q) = digs bs (i + p) := digs_move rfl (by rw [← hji]; exact hp) (by rw [← hji]; exact hd)
    unfold takeS
    rw [hm, if_neg hc, h1.1, show i + q + (digs bs (i + p)).length = j + q by omega]

/-- A lexeme that stands p nearer, and then q further on. -/
def Lex.move (x : Lex) (p q : Nat) : Lex := ⟨x.kind, x.place - p + q, x.set, x.lo, x.hi⟩

theorem dig_no {bs : List Nat} {k : Nat} {c : Nat} (h : hasAt bs (k : Int) c = true) (hc : isDig c = false) : isDig (byteAt bs k) = false := by
  obtain ⟨n, hn, hn2, hn3⟩ := hasAt_yes h
  have : k = n := by omega
  rw [this, hn3, hc]

theorem repS_move {cs bs : List Nat} {p q i j : Nat} {x : Lex} (h : repS bs (i + p) = .ok (x, j + p)) (hp : Part cs bs p q i j) : repS cs (i + q) = .ok (x.move p q, j + q) := by
  have hpl : ∀ {k : Int} {s lo hi}, (⟨k, ((i + p : Nat) : Int), s, lo, hi⟩ : Lex).move p q = ⟨k, ((i + q : Nat) : Int), s, lo, hi⟩ := by
    intro k s lo hi
    unfold Lex.move
    dsimp only
    congr 1
    omega
  unfold repS at h
  rw [show i + p + 1 = i + 1 + p by omega] at h
  cases h1 : takeS bs (i + 1 + p) with
  | none => rw [h1] at h; cases h
  | some y =>
    obtain ⟨lo, J⟩ := y
    have g1 := takeS_some h1
    obtain ⟨m, rfl⟩ : ∃ m, J = m + p := ⟨J - p, by omega⟩
    rw [h1] at h
    dsimp only at h
    cases h2 : hasAt bs ((m + p : Nat) : Int) 44
    · rw [if_neg (by rw [h2]; decide)] at h
      cases h3 : hasAt bs ((m + p : Nat) : Int) 125
      · rw [if_neg (by rw [h3]; decide)] at h; cases h
      · rw [if_pos h3] at h
        obtain ⟨hx, hj⟩ := Prod.mk.inj (Except.ok.inj h)
        subst hx
        obtain rfl : j = m + 1 := by omega
        unfold repS
        rw [show i + q + 1 = i + 1 + q by omega, takeS_move h1 (hp.sub (by omega) (by omega)) (dig_no h3 (by decide))]
        dsimp only
        rw [hp.has (by omega) (by omega) 44, h2, hp.has (by omega) (by omega) 125, h3, hpl, show m + q + 1 = m + 1 + q by omega]
        rfl
    · rw [if_pos h2] at h
      cases h3 : hasAt bs (((m + p : Nat) : Int) + 1) 125
      · rw [if_neg (by rw [h3]; decide)] at h
        rw [show m + p + 1 = m + 1 + p by omega] at h
        cases h4 : takeS bs (m + 1 + p) with
        | none => rw [h4] at h; cases h
        | some z =>
          obtain ⟨hi, K⟩ := z
          have g2 := takeS_some h4
          obtain ⟨k, rfl⟩ : ∃ k, K = k + p := ⟨K - p, by omega⟩
          rw [h4] at h
          dsimp only at h
          cases h5 : hasAt bs ((k + p : Nat) : Int) 125
          · rw [if_neg (by rw [h5]; decide)] at h; cases h
          rw [if_pos h5] at h
          by_cases h6 : hi < lo
          · rw [if_pos h6] at h; cases h
          rw [if_neg h6] at h
          obtain ⟨hx, hj⟩ := Prod.mk.inj (Except.ok.inj h)
          subst hx
          obtain rfl : j = k + 1 := by omega
          unfold repS
          rw [show i + q + 1 = i + 1 + q by omega, takeS_move h1 (hp.sub (by omega) (by omega)) (dig_no h2 (by decide))]
          dsimp only
          rw [hp.has (by omega) (by omega) 44, if_pos h2, hp.has1 (by omega) (by omega) 125, if_neg (by rw [h3]; decide), show m + q + 1 = m + 1 + q by omega, takeS_move h4 (hp.sub (by omega) (by omega)) (dig_no h5 (by decide))]
          dsimp only
          rw [hp.has (by omega) (by omega) 125, if_pos h5, if_neg h6, hpl, show k + q + 1 = k + 1 + q by omega]
      · rw [if_pos h3] at h
        obtain ⟨hx, hj⟩ := Prod.mk.inj (Except.ok.inj h)
        subst hx
        obtain rfl : j = m + 2 := by omega
        unfold repS
        rw [show i + q + 1 = i + 1 + q by omega, takeS_move h1 (hp.sub (by omega) (by omega)) (dig_no h2 (by decide))]
        dsimp only
        rw [hp.has (by omega) (by omega) 44, if_pos h2, hp.has1 (by omega) (by omega) 125, if_pos h3, hpl, show m + q + 2 = m + 2 + q by omega]

theorem lexS_move {cs bs : List Nat} (hb : ∀ x ∈ bs, x < 256) {p q i j : Nat} {x : Lex} (hi : i + p < bs.length) (h : lexS bs (i + p) = .ok (x, j + p)) (hp : Part cs bs p q i j) : lexS cs (i + q) = .ok (x.move p q, j + q) := by
  have hij := lexS_some hb hi h
  have a := hp i (by omega) (by omega)
  have hpl : ∀ {k : Int} {s lo hi}, (⟨k, ((i + p : Nat) : Int), s, lo, hi⟩ : Lex).move p q = ⟨k, ((i + q : Nat) : Int), s, lo, hi⟩ := by
    intro k s lo hi
    unfold Lex.move
    dsimp only
    congr 1
    omega
  unfold lexS at h
  unfold lexS
  rw [a.2.2]
  by_cases h1 : byteAt bs (i + p) = 46
  · rw [if_pos h1] at h
    obtain ⟨hx, hj⟩ := Prod.mk.inj (Except.ok.inj h)
    subst hx
    obtain rfl : j = i + 1 := by omega
    rw [if_pos h1, hpl, show i + q + 1 = i + 1 + q by omega]
  rw [if_neg h1] at h ⊢
  by_cases h2 : byteAt bs (i + p) = 92
  · rw [if_pos h2] at h ⊢
    cases h3 : escS bs (i + p) with
    | none => rw [h3] at h; cases h
    | some y =>
      obtain ⟨c, J⟩ := y
      rw [h3] at h
      obtain ⟨hx, hj⟩ := Prod.mk.inj (Except.ok.inj h)
      subst hx hj
      rw [escS_move h3 hp]
      dsimp only
      rw [hpl]
  rw [if_neg h2] at h ⊢
  by_cases h4 : byteAt bs (i + p) = 91
  · rw [if_pos h4] at h ⊢
    cases h3 : readS bs ((i + p : Nat) : Int) with
    | error e => rw [h3] at h; cases h
    | ok y =>
      obtain ⟨u, J⟩ := y
      rw [h3] at h
      obtain ⟨hx, hj⟩ := Prod.mk.inj (Except.ok.inj h)
      subst hx hj
      rw [readS_move hb h3 hp]
      dsimp only
      rw [hpl]
  rw [if_neg h4] at h ⊢
  by_cases h5 : byteAt bs (i + p) = 123
  · rw [if_pos h5] at h ⊢
    exact repS_move h hp
  rw [if_neg h5] at h ⊢
  by_cases h6 : byteAt bs (i + p) = 93 ∨ byteAt bs (i + p) = 125 ∨ byteAt bs (i + p) = 10
  · rw [if_pos h6] at h; cases h
  rw [if_neg h6] at h ⊢
  by_cases h7 : signKind (byteAt bs (i + p)) ≠ 0
  · rw [if_pos h7] at h ⊢
    obtain ⟨hx, hj⟩ := Prod.mk.inj (Except.ok.inj h)
    subst hx
    obtain rfl : j = i + 1 := by omega
    rw [hpl, show i + q + 1 = i + 1 + q by omega]
  · rw [if_neg h7] at h ⊢
    obtain ⟨hx, hj⟩ := Prod.mk.inj (Except.ok.inj h)
    subst hx
    obtain rfl : j = i + 1 := by omega
    rw [hpl, show i + q + 1 = i + 1 + q by omega]

theorem repS_place {bs : List Nat} {i j : Nat} {x : Lex} (h : repS bs i = .ok (x, j)) : x.place = i := by
  unfold repS at h
  split at h
  · cases h
  · split at h
    · split at h
      · rw [← (Prod.mk.inj (Except.ok.inj h)).1]
      · split at h
        · cases h
        · split at h
          · split at h
            · cases h
            · rw [← (Prod.mk.inj (Except.ok.inj h)).1]
          · cases h
    · split at h
      · rw [← (Prod.mk.inj (Except.ok.inj h)).1]
      · cases h
theorem lexS_place {bs : List Nat} {i j : Nat} {x : Lex} (h : lexS bs i = .ok (x, j)) : x.place = i := by
  unfold lexS at h
  split at h
  · rw [← (Prod.mk.inj (Except.ok.inj h)).1]
  split at h
  · split at h
    · rw [← (Prod.mk.inj (Except.ok.inj h)).1]
    · cases h
  split at h
  · split at h
    · rw [← (Prod.mk.inj (Except.ok.inj h)).1]
    · cases h
  split at h
  · exact repS_place h
  split at h
  · cases h
  split at h
  · rw [← (Prod.mk.inj (Except.ok.inj h)).1]
  · rw [← (Prod.mk.inj (Except.ok.inj h)).1]

/-- From i to k just the lexemes of a list stand. -/
def Seg (bs : List Nat) : Nat → List Lex → Nat → Prop
  | i, [], k => i = k
  | i, x :: M, k => i < bs.length ∧ ∃ j, lexS bs i = .ok (x, j) ∧ Seg bs j M k

theorem seg_cat {bs : List Nat} : ∀ {M N : List Lex} {i k : Nat}, Seg bs i (M ++ N) k ↔ ∃ m, Seg bs i M m ∧ Seg bs m N k
  | [], N, i, k => ⟨fun h => ⟨i, rfl, h⟩, fun ⟨m, h1, h2⟩ => by rw [show i = m from h1]; exact h2⟩
  | x :: M, N, i, k => by
    constructor
    · rintro ⟨hi, j, hx, h⟩
      obtain ⟨m, h1, h2⟩ := seg_cat.1 h
      exact ⟨m, ⟨hi, j, hx, h1⟩, h2⟩
    · rintro ⟨m, ⟨hi, j, hx, h1⟩, h2⟩
      exact ⟨hi, j, hx, seg_cat.2 ⟨m, h1, h2⟩⟩
theorem seg_len {bs : List Nat} (hb : ∀ x ∈ bs, x < 256) : ∀ {M : List Lex} {i k : Nat}, Seg bs i M k → i + M.length ≤ k ∧ (k ≤ bs.length ∨ M = [])
  | [], i, k, h => ⟨by rw [show i = k from h]; simp, .inr rfl⟩
  | x :: M, i, k, ⟨hi, j, hx, h⟩ => by
    have h1 := lexS_some hb hi hx
    have h2 := seg_len hb h
    refine ⟨by simp; omega, .inl ?_⟩
    rcases h2.2 with h3 | rfl
    · exact h3
    · have : j = k := h
      omega
theorem seg_move {cs bs : List Nat} (hb : ∀ x ∈ bs, x < 256) {p q : Nat} : ∀ {M : List Lex} {i k : Nat}, Seg bs (i + p) M (k + p) → Part cs bs p q i k → Seg cs (i + q) (M.map (Lex.move · p q)) (k + q)
  | [], i, k, h, hp => by
    have : i + p = k + p := h
    show i + q = k + q
    omega
  | x :: M, i, k, ⟨hi, J, hx, h⟩, hp => by
    have h1 := lexS_some hb hi hx
    have h2 := seg_len hb h
    obtain ⟨j, rfl⟩ : ∃ j, J = j + p := ⟨J - p, by omega⟩
    exact ⟨(hp i (by omega) (by omega)).1, j + q, lexS_move hb hi hx (hp.sub (by omega) (by omega)), seg_move hb h (hp.sub (by omega) (by omega))⟩
theorem splitF_seg {bs : List Nat} (hb : ∀ x ∈ bs, x < 256) : ∀ {f i : Nat} {L l : List Lex}, i ≤ bs.length → splitF bs f i L = .ok l → ∃ M, l = L ++ M ∧ Seg bs i M bs.length
  | 0, i, L, l, h2, h => by cases h
  | f + 1, i, L, l, h2, h => by
    rcases Nat.lt_or_ge i bs.length with hi | hi
    · cases hx : lexS bs i with
      | error e => rw [splitF_bad hi hx] at h; cases h
      | ok x =>
        obtain ⟨x, j⟩ := x
        have hj := lexS_some hb hi hx
        rw [splitF_ok hi hx] at h
        obtain ⟨M, rfl, hM⟩ := splitF_seg hb hj.2 h
        exact ⟨x :: M, by simp, hi, j, hx, hM⟩
    · rw [splitF_end hi] at h
      cases h
      exact ⟨[], by simp, by show i = bs.length; omega⟩
theorem seg_splitF {bs : List Nat} : ∀ {M : List Lex} {f i : Nat} {L : List Lex}, Seg bs i M bs.length → M.length < f → splitF bs f i L = .ok (L ++ M)
  | [], f, i, L, h, hf => by
    obtain ⟨f, rfl⟩ : ∃ g, f = g + 1 := ⟨f - 1, by simp at hf; omega⟩
    have : i = bs.length := h
    rw [splitF_end (by omega)]
    simp
  | x :: M, f, i, L, ⟨hi, j, hx, h⟩, hf => by
    obtain ⟨f, rfl⟩ : ∃ g, f = g + 1 := ⟨f - 1, by simp at hf; omega⟩
    rw [splitF_ok hi hx, seg_splitF h (by simp at hf; omega)]
    simp
/-- A text's lexemes are those that stand from its beginning to its end. -/
theorem splitS_seg {bs : List Nat} (hb : ∀ x ∈ bs, x < 256) {l : List Lex} : splitS bs = .ok l ↔ bs.length ≤ 65536 ∧ Seg bs 0 l bs.length := by
  constructor
  · intro h
    rcases Nat.lt_or_ge 65536 bs.length with h1 | h1
    · rw [splitS_long h1] at h; cases h
    · rw [splitS_go h1] at h
      obtain ⟨M, rfl, hM⟩ := splitF_seg hb (Nat.zero_le _) h
      exact ⟨h1, hM⟩
  · rintro ⟨h1, h2⟩
    have h3 := (seg_len hb h2).1
    rw [splitS_go h1, seg_splitF h2 (by omega)]
    rfl

theorem take_le (bs : List Nat) (p : Nat) (hb : ∀ x ∈ bs, x < 256) : ∀ x ∈ bs.take p, x < 256 := fun x hx => hb x (List.mem_of_mem_take hx)
theorem drop_le (bs : List Nat) (p : Nat) (hb : ∀ x ∈ bs, x < 256) : ∀ x ∈ bs.drop p, x < 256 := fun x hx => hb x (List.mem_of_mem_drop hx)
theorem part_take {bs : List Nat} {p : Nat} (h : p ≤ bs.length) : Part (bs.take p) bs 0 0 0 p := fun m _ hm => by
  refine ⟨by simp; omega, by omega, ?_⟩
  have h1 : m < (bs.take p).length := by simp; omega
  have h2 : m < bs.length := by omega
  rw [Nat.add_zero, ← byteAt_get h1, ← byteAt_get h2, List.getElem_take]
theorem part_drop {bs : List Nat} {p : Nat} (h : p ≤ bs.length) : Part (bs.drop p) bs p 0 0 (bs.length - p) := fun m _ hm => by
  refine ⟨by simp; omega, by omega, ?_⟩
  rw [byteAt_drop, Nat.add_zero, Nat.add_comm]
theorem move_zero : ∀ (M : List Lex), M.map (Lex.move · 0 0) = M
  | [] => rfl
  | x :: M => by
    rw [List.map_cons, move_zero M]
    congr 1
    cases x
    simp [Lex.move]

/-- The law: of a text that is right the beginning up to a lexeme, and the rest, are right, and have its lexemes. -/
theorem splitS_cut {bs : List Nat} (hb : ∀ x ∈ bs, x < 256) {l : List Lex} (h : splitS bs = .ok l) {k : Nat} {x : Lex} (hk : l[k]? = some x) :
    ∃ p : Nat, x.place = p ∧ p < bs.length ∧ bs.length ≤ 65536 ∧ splitS (bs.take p) = .ok (l.take k) ∧ splitS (bs.drop p) = .ok ((l.drop k).map (Lex.move · p 0)) := by
  obtain ⟨hl, hs⟩ := (splitS_seg hb).1 h
  have hkl := (List.getElem?_eq_some_iff.mp hk).1
  have hsx := hs
  rw [← List.take_append_drop k l] at hs
  obtain ⟨p, h1, h2⟩ := seg_cat.1 hs
  have h2' := h2
  rw [List.drop_eq_getElem_cons hkl, (List.getElem?_eq_some_iff.mp hk).2] at h2'
  obtain ⟨hp, j, hx, _⟩ := h2'
  refine ⟨p, lexS_place hx, hp, hl, ?_, ?_⟩
  · refine (splitS_seg (take_le _ _ hb)).2 ⟨by simp; omega, ?_⟩
    rw [List.length_take, Nat.min_eq_left (by omega)]
    have := seg_move (cs := bs.take p) (p := 0) (q := 0) (i := 0) (k := p) hb h1 (part_take (by omega))
    rwa [move_zero] at this
  · refine (splitS_seg (drop_le _ _ hb)).2 ⟨by simp; omega, ?_⟩
    rw [List.length_drop]
    refine seg_move (p := p) (q := 0) (i := 0) (k := bs.length - p) hb ?_ (part_drop (by omega))
    have e : bs.length - p + p = bs.length := by omega
    rw [Nat.zero_add, e]
    exact h2

end Go.Proofs.YtajohcknenngnaaGreat
namespace Go.Proofs.YtajohcknenngnaaGreat
open Go.RowKit
set_option linter.unusedSimpArgs false
set_option linter.unusedVariables false
set_option maxRecDepth 100000

/-- May a lexeme be? -/
def rightS (x : Lex) : Bool := rightV x.kind x.place (word x.set 0 : Nat) (word x.set 1 : Nat) (word x.set 2 : Nat) (word x.set 3 : Nat) x.lo x.hi
/-- What a lexeme that may be is. -/
theorem rightS_cases {x : Lex} (h : rightS x = true) : 0 ≤ x.place ∧ ((x.kind = 1 ∧ x.lo = 0 ∧ x.hi = 0) ∨
    (x.kind = 8 ∧ 0 ≤ x.lo ∧ x.lo ≤ 1000 ∧ (x.hi = -1 ∨ x.lo ≤ x.hi ∧ x.hi ≤ 1000) ∧ ∀ i, i < 4 → word x.set i = 0) ∨
    (2 ≤ x.kind ∧ x.kind ≤ 7 ∧ x.lo = 0 ∧ x.hi = 0 ∧ ∀ i, i < 4 → word x.set i = 0)) := by
  unfold rightS rightV at h
  rw [Bool.and_eq_true, Bool.and_eq_true, decide_eq_true_eq] at h
  obtain ⟨⟨h1, h2⟩, h3⟩ := h
  refine ⟨h1, ?_⟩
  by_cases hk : x.kind = 1
  · rw [if_neg (by omega)] at h3
    simp at h3
    exact .inl ⟨hk, h3.1.1.1, h3.1.1.2⟩
  rw [Bool.or_eq_true, decide_eq_true_eq] at h2
  have hz := h2.resolve_left hk
  simp at hz
  have hw : ∀ i, i < 4 → word x.set i = 0 := by
    intro i hi
    match i, hi with
    | 0, _ => exact hz.1.1.1
    | 1, _ => exact hz.1.1.2
    | 2, _ => exact hz.1.2
    | 3, _ => exact hz.2
  by_cases h8 : x.kind = 8
  · rw [if_pos h8] at h3
    unfold repV at h3
    simp at h3
    exact .inr (.inl ⟨h8, h3.1.1, h3.1.2, h3.2, hw⟩)
  · rw [if_neg h8] at h3
    simp at h3
    exact .inr (.inr ⟨by omega, by omega, h3.1.1.1, h3.1.1.2, hw⟩)

theorem word_empty (i : Nat) (hi : i < 4) : word noSet i = 0 := by
  match i, hi with
  | 0, _ => rfl
  | 1, _ => rfl
  | 2, _ => rfl
  | 3, _ => rfl

/-! What is read may be; its places rise. -/
theorem right_set (i : Nat) (p : Nat → Bool) : rightS ⟨1, (i : Int), p, 0, 0⟩ = true := by simp [rightS, rightV]
theorem right_rep_of (i : Nat) (lo : Nat) (hi : Int) (h1 : lo ≤ 1000) (h2 : hi = -1 ∨ (lo : Int) ≤ hi ∧ hi ≤ 1000) : rightS ⟨8, (i : Int), noSet, (lo : Int), hi⟩ = true := by
  have e0 := word_empty 0 (by decide)
  have e1 := word_empty 1 (by decide)
  have e2 := word_empty 2 (by decide)
  have e3 := word_empty 3 (by decide)
  unfold rightS rightV repV
  simp [e0, e1, e2, e3]
  omega
theorem right_sign_of (i c : Nat) (h : signKind c ≠ 0) : rightS ⟨signKind c, (i : Int), noSet, 0, 0⟩ = true := by
  have e0 := word_empty 0 (by decide)
  have e1 := word_empty 1 (by decide)
  have e2 := word_empty 2 (by decide)
  have e3 := word_empty 3 (by decide)
  have hk : signKind c = 2 ∨ signKind c = 3 ∨ signKind c = 4 ∨ signKind c = 5 ∨ signKind c = 6 ∨ signKind c = 7 := by
    unfold signKind at h ⊢
    repeat' split
    all_goals simp_all
  unfold rightS rightV
  rcases hk with hk | hk | hk | hk | hk | hk
  all_goals simp [hk, e0, e1, e2, e3]
theorem repS_right {bs : List Nat} {i j : Nat} {x : Lex} (h : repS bs i = .ok (x, j)) : rightS x = true := by
  unfold repS at h
  split at h
  · cases h
  · rename_i lo m hm
    have h1 := takeS_some hm
    split at h
    · split at h
      · rw [← (Prod.mk.inj (Except.ok.inj h)).1]
        exact right_rep_of i lo (-1) h1.1 (.inl rfl)
      · split at h
        · cases h
        · rename_i hi k hk
          have h2 := takeS_some hk
          split at h
          · split at h
            · cases h
            · rw [← (Prod.mk.inj (Except.ok.inj h)).1]
              exact right_rep_of i lo (hi : Int) h1.1 (.inr (by omega))
          · cases h
    · split at h
      · rw [← (Prod.mk.inj (Except.ok.inj h)).1]
        exact right_rep_of i lo (lo : Int) h1.1 (.inr (by omega))
      · cases h
theorem lexS_right {bs : List Nat} {i j : Nat} {x : Lex} (h : lexS bs i = .ok (x, j)) : rightS x = true := by
  unfold lexS at h
  split at h
  · rw [← (Prod.mk.inj (Except.ok.inj h)).1]; exact right_set i _
  split at h
  · split at h
    · rw [← (Prod.mk.inj (Except.ok.inj h)).1]; exact right_set i _
    · cases h
  split at h
  · split at h
    · rw [← (Prod.mk.inj (Except.ok.inj h)).1]; exact right_set i _
    · cases h
  split at h
  · exact repS_right h
  split at h
  · cases h
  split at h
  · rename_i hk
    rw [← (Prod.mk.inj (Except.ok.inj h)).1]; exact right_sign_of i _ hk
  · rw [← (Prod.mk.inj (Except.ok.inj h)).1]; exact right_set i _
theorem seg_right {bs : List Nat} : ∀ {M : List Lex} {i k : Nat}, Seg bs i M k → ∀ x ∈ M, rightS x = true
  | [], i, k, _, x, hx => by cases hx
  | y :: M, i, k, ⟨_, j, hy, h⟩, x, hx => by
    rcases List.mem_cons.1 hx with rfl | hx
    · exact lexS_right hy
    · exact seg_right h x hx
theorem seg_rise {bs : List Nat} (hb : ∀ x ∈ bs, x < 256) : ∀ {M : List Lex} {i k : Nat}, Seg bs i M k → ∀ (n : Nat) x y, M[n]? = some x → M[n + 1]? = some y → x.place < y.place
  | [], i, k, _, n, x, y, hx, _ => by simp at hx
  | z :: M, i, k, ⟨hi, j, hz, h⟩, 0, x, y, hx, hy => by
    have h1 := lexS_place hz
    have h2 := lexS_some hb hi hz
    simp at hx hy
    match M, hy, h with
    | u :: M, hy, ⟨_, j2, hu, _⟩ =>
      have h3 := lexS_place hu
      simp at hy
      rw [← hx, ← hy, h1, h3]
      omega
  | z :: M, i, k, ⟨hi, j, hz, h⟩, n + 1, x, y, hx, hy => seg_rise hb h n x y (by simpa using hx) (by simpa using hy)
theorem splitS_right {bs : List Nat} (hb : ∀ x ∈ bs, x < 256) {M : List Lex} (h : splitS bs = .ok M) :
    (∀ (k : Nat) x, M[k]? = some x → rightS x = true) ∧ (∀ (k : Nat) x y, M[k]? = some x → M[k + 1]? = some y → x.place < y.place) ∧ M.length ≤ 65536 := by
  obtain ⟨h1, h2⟩ := (splitS_seg hb).1 h
  have h3 := (seg_len hb h2).1
  exact ⟨fun k x hx => seg_right h2 x (List.mem_of_getElem? hx), seg_rise hb h2, by omega⟩

/-! Lexemes in memory. -/
/-- The slice at A holds the lexemes L; its block is below B. -/
def LexsAt (w : World) (B : Nat) (A : Option Addr) (L : List Lex) : Prop :=
  0 < L.length → ∃ b o, A = some ⟨b, o, none⟩ ∧ b < B ∧ ∀ (k : Nat) x, L[k]? = some x →
    w.cell? ⟨b, o + k * 8, none⟩ = some (.int .i64 x.kind) ∧ w.cell? ⟨b, o + k * 8 + 1, none⟩ = some (.int .i64 x.place) ∧
    w.cell? ⟨b, o + k * 8 + 2, none⟩ = some (.int .u64 ((word x.set 0 : Nat) : Int)) ∧ w.cell? ⟨b, o + k * 8 + 3, none⟩ = some (.int .u64 ((word x.set 1 : Nat) : Int)) ∧ w.cell? ⟨b, o + k * 8 + 4, none⟩ = some (.int .u64 ((word x.set 2 : Nat) : Int)) ∧ w.cell? ⟨b, o + k * 8 + 5, none⟩ = some (.int .u64 ((word x.set 3 : Nat) : Int)) ∧
    w.cell? ⟨b, o + k * 8 + 6, none⟩ = some (.int .i64 x.lo) ∧ w.cell? ⟨b, o + k * 8 + 7, none⟩ = some (.int .i64 x.hi)
theorem LexsAt.below {w w' : World} {B : Nat} {A : Option Addr} {L : List Lex} (h : LexsAt w B A L) (hb : Below B w w') : LexsAt w' B A L := fun hn => by
  obtain ⟨b, o, ha, hl, hc⟩ := h hn
  refine ⟨b, o, ha, hl, fun k x hx => ?_⟩
  obtain ⟨c0, c1, c2, c3, c4, c5, c6, c7⟩ := hc k x hx
  exact ⟨(hb.cell (p := ⟨b, _, none⟩) hl).trans c0, (hb.cell (p := ⟨b, _, none⟩) hl).trans c1, (hb.cell (p := ⟨b, _, none⟩) hl).trans c2, (hb.cell (p := ⟨b, _, none⟩) hl).trans c3,
    (hb.cell (p := ⟨b, _, none⟩) hl).trans c4, (hb.cell (p := ⟨b, _, none⟩) hl).trans c5, (hb.cell (p := ⟨b, _, none⟩) hl).trans c6, (hb.cell (p := ⟨b, _, none⟩) hl).trans c7⟩
theorem LexsAt.more {w : World} {B B' : Nat} {A : Option Addr} {L : List Lex} (h : LexsAt w B A L) (hB : B ≤ B') : LexsAt w B' A L := fun hn => by
  obtain ⟨b, o, ha, hl, hc⟩ := h hn
  exact ⟨b, o, ha, by omega, hc⟩
/-- What stands first, and what stands behind it. -/
theorem LexsAt.cons {w : World} {B : Nat} {A : Option Addr} {x : Lex} {L : List Lex} (h : LexsAt w B A (x :: L)) : ∃ b o, A = some ⟨b, o, none⟩ ∧ b < B ∧
    (w.cell? ⟨b, o, none⟩ = some (.int .i64 x.kind) ∧ w.cell? ⟨b, o + 1, none⟩ = some (.int .i64 x.place) ∧
    w.cell? ⟨b, o + 2, none⟩ = some (.int .u64 ((word x.set 0 : Nat) : Int)) ∧ w.cell? ⟨b, o + 3, none⟩ = some (.int .u64 ((word x.set 1 : Nat) : Int)) ∧ w.cell? ⟨b, o + 4, none⟩ = some (.int .u64 ((word x.set 2 : Nat) : Int)) ∧ w.cell? ⟨b, o + 5, none⟩ = some (.int .u64 ((word x.set 3 : Nat) : Int)) ∧
    w.cell? ⟨b, o + 6, none⟩ = some (.int .i64 x.lo) ∧ w.cell? ⟨b, o + 7, none⟩ = some (.int .i64 x.hi)) ∧ LexsAt w B (some ⟨b, o + 8, none⟩) L := by
  obtain ⟨b, o, ha, hl, hc⟩ := h (by simp)
  refine ⟨b, o, ha, hl, by simpa using hc 0 x rfl, fun _ => ⟨b, o + 8, rfl, hl, fun k y hy => ?_⟩⟩
  have := hc (k + 1) y (by simpa using hy)
  rw [show o + (k + 1) * 8 = o + 8 + k * 8 by omega] at this
  exact this
theorem LexsAt.nil {w : World} {B : Nat} {A : Option Addr} : LexsAt w B A [] := fun h => absurd h (by simp)

end Go.Proofs.YtajohcknenngnaaGreat
namespace Go.Proofs.YtajohcknenngnaaGreat
set_option linter.unusedSimpArgs false
set_option linter.unusedVariables false
set_option maxRecDepth 100000

/-- A set as a number. -/
def maskOf (p : Nat → Bool) : Nat := ofBits p 256
theorem word_mask (p : Nat → Bool) (i : Nat) (h : i < 4) : word (maskOf p).testBit i = word p i :=
  word_congr (fun j hj => by unfold maskOf; rw [testBit_ofBits]; simp; omega)
theorem maskOf_lt (p : Nat → Bool) : maskOf p < 2 ^ 256 := ofBits_lt p 256

def leafN (s : Nat) : Nd := ⟨3, s, .nil, 0, 0⟩
def emptyN : Nd := ⟨2, 0, .nil, 0, 0⟩
def isPost (k : Int) : Bool := decide (5 ≤ k) && decide (k ≤ 8)
/-- A piece, with a sign behind it. -/
def postN (y : Lex) (x : Nd) : Nd := if y.kind = 8 then ⟨9, 0, Trees.of [x], y.lo, y.hi⟩ else ⟨y.kind + 1, 0, Trees.of [x], 0, 0⟩
def flatN (k : Int) : List Nd → Nd
  | [x] => x
  | l => ⟨k, 0, Trees.of l, 0, 0⟩
def partN : List Nd → Nd
  | [] => emptyN
  | l => flatN 4 l
def postsG : Nd → List Lex → Nd × List Lex
  | x, [] => (x, [])
  | x, y :: L => if isPost y.kind = true then postsG (postN y x) L else (x, y :: L)
mutual
/-- Parts with bars between, behind those of acc; what is left. -/
def altG : Nat → List Int → List Nd → List Lex → Except Wrong (Nd × List Lex)
  | 0, _, _, _ => .error (0, 0)
  | n + 1, op, acc, L => match piecesG n op [] L with
    | .error e => .error e
    | .ok (ps, R) => match R with
      | [] => .ok (flatN 5 (acc ++ [partN ps]), [])
      | c :: R' => if c.kind = 4 then altG n op (acc ++ [partN ps]) R' else .ok (flatN 5 (acc ++ [partN ps]), c :: R')
/-- Pieces, one behind the other, behind those of acc. -/
def piecesG : Nat → List Int → List Nd → List Lex → Except Wrong (List Nd × List Lex)
  | 0, _, _, _ => .error (0, 0)
  | n + 1, op, acc, L => match atomG n op L with
    | .error e => .error e
    | .ok (none, R) => .ok (acc, R)
    | .ok (some x, R) => piecesG n op (acc ++ [(postsG x R).1]) (postsG x R).2
/-- A set, or what stands between brackets; none: a part ends here. -/
def atomG : Nat → List Int → List Lex → Except Wrong (Option Nd × List Lex)
  | 0, _, _ => .error (0, 0)
  | _ + 1, _, [] => .ok (none, [])
  | n + 1, op, y :: L =>
    if y.kind = 1 then .ok (some (leafN (maskOf y.set)), L)
    else if y.kind = 2 then
      if op.length = 64 then .error (17, y.place) else match altG n (y.place :: op) [] L with
      | .error e => .error e
      | .ok (x, R) => match R with
        | [] => .error (11, y.place)
        | c :: R' => if c.kind = 3 then .ok (some x, R') else .error (11, y.place)
    else if isPost y.kind = true then .error (5, y.place)
    else if y.kind = 3 ∧ op.length = 0 then .error (12, y.place)
    else .ok (none, y :: L)
end
/-- Behind a part. -/
def tailG (n : Nat) (op : List Int) (acc : List Nd) : List Lex → Except Wrong (Nd × List Lex)
  | [] => .ok (flatN 5 acc, [])
  | c :: R' => if c.kind = 4 then altG n op acc R' else .ok (flatN 5 acc, c :: R')
theorem tailG_nil (n : Nat) (op : List Int) (acc : List Nd) : tailG n op acc [] = .ok (flatN 5 acc, []) := rfl
theorem tailG_bar {n : Nat} {op : List Int} {acc : List Nd} {c : Lex} {R : List Lex} (h : c.kind = 4) : tailG n op acc (c :: R) = altG n op acc R := if_pos h
theorem tailG_stop {n : Nat} {op : List Int} {acc : List Nd} {c : Lex} {R : List Lex} (h : c.kind ≠ 4) : tailG n op acc (c :: R) = .ok (flatN 5 acc, c :: R) := if_neg h
theorem altG_step (n : Nat) (op : List Int) (acc : List Nd) (L : List Lex) : altG (n + 1) op acc L = match piecesG n op [] L with
    | .error e => .error e
    | .ok (ps, R) => tailG n op (acc ++ [partN ps]) R := by
  rw [altG]
  cases h : piecesG n op [] L with
  | error e => rfl
  | ok r =>
    obtain ⟨ps, R⟩ := r
    cases R <;> rfl
theorem altG_bad {n : Nat} {op : List Int} {acc : List Nd} {L : List Lex} {e : Wrong} (h : piecesG n op [] L = .error e) : altG (n + 1) op acc L = .error e := by rw [altG_step, h]
theorem altG_ok {n : Nat} {op : List Int} {acc : List Nd} {L : List Lex} {ps : List Nd} {R : List Lex} (h : piecesG n op [] L = .ok (ps, R)) : altG (n + 1) op acc L = tailG n op (acc ++ [partN ps]) R := by rw [altG_step, h]
theorem piecesG_bad {n : Nat} {op : List Int} {acc : List Nd} {L : List Lex} {e : Wrong} (h : atomG n op L = .error e) : piecesG (n + 1) op acc L = .error e := by rw [piecesG, h]
theorem piecesG_end {n : Nat} {op : List Int} {acc : List Nd} {L R : List Lex} (h : atomG n op L = .ok (none, R)) : piecesG (n + 1) op acc L = .ok (acc, R) := by rw [piecesG, h]
theorem piecesG_go {n : Nat} {op : List Int} {acc : List Nd} {L R : List Lex} {x : Nd} (h : atomG n op L = .ok (some x, R)) : piecesG (n + 1) op acc L = piecesG n op (acc ++ [(postsG x R).1]) (postsG x R).2 := by rw [piecesG, h]
theorem atomG_nil (n : Nat) (op : List Int) : atomG (n + 1) op [] = .ok (none, []) := by rw [atomG]
theorem atomG_set {n : Nat} {op : List Int} {y : Lex} {L : List Lex} (h : y.kind = 1) : atomG (n + 1) op (y :: L) = .ok (some (leafN (maskOf y.set)), L) := by rw [atomG, if_pos h]
theorem atomG_deep {n : Nat} {op : List Int} {y : Lex} {L : List Lex} (h : y.kind = 2) (h2 : op.length = 64) : atomG (n + 1) op (y :: L) = .error (17, y.place) := by rw [atomG, if_neg (by omega), if_pos h, if_pos h2]
theorem atomG_in {n : Nat} {op : List Int} {y : Lex} {L : List Lex} {e : Wrong} (h : y.kind = 2) (h2 : op.length ≠ 64) (h3 : altG n (y.place :: op) [] L = .error e) : atomG (n + 1) op (y :: L) = .error e := by rw [atomG, if_neg (by omega), if_pos h, if_neg h2, h3]
theorem atomG_close {n : Nat} {op : List Int} {y c : Lex} {L R : List Lex} {x : Nd} (h : y.kind = 2) (h2 : op.length ≠ 64) (h3 : altG n (y.place :: op) [] L = .ok (x, c :: R)) (hc : c.kind = 3) : atomG (n + 1) op (y :: L) = .ok (some x, R) := by
  rw [atomG, if_neg (by omega), if_pos h, if_neg h2, h3]
  exact if_pos hc
theorem atomG_open {n : Nat} {op : List Int} {y : Lex} {L R : List Lex} {x : Nd} (h : y.kind = 2) (h2 : op.length ≠ 64) (h3 : altG n (y.place :: op) [] L = .ok (x, R)) (hc : ∀ c R', R = c :: R' → c.kind ≠ 3) : atomG (n + 1) op (y :: L) = .error (11, y.place) := by
  rw [atomG, if_neg (by omega), if_pos h, if_neg h2, h3]
  cases R with
  | nil => rfl
  | cons c R' => exact if_neg (hc c R' rfl)
theorem isPost_iff (k : Int) : isPost k = true ↔ 5 ≤ k ∧ k ≤ 8 := by unfold isPost; simp
theorem atomG_post {n : Nat} {op : List Int} {y : Lex} {L : List Lex} (h : isPost y.kind = true) : atomG (n + 1) op (y :: L) = .error (5, y.place) := by
  have := (isPost_iff _).1 h
  rw [atomG, if_neg (by omega), if_neg (by omega), if_pos h]
theorem atomG_lone {n : Nat} {op : List Int} {y : Lex} {L : List Lex} (h : y.kind = 3) (h2 : op.length = 0) : atomG (n + 1) op (y :: L) = .error (12, y.place) := by
  have : ¬ isPost y.kind = true := by rw [isPost_iff]; omega
  rw [atomG, if_neg (by omega), if_neg (by omega), if_neg this, if_pos ⟨h, h2⟩]
theorem atomG_stop {n : Nat} {op : List Int} {y : Lex} {L : List Lex} (h1 : y.kind ≠ 1) (h2 : y.kind ≠ 2) (h3 : isPost y.kind = false) (h4 : ¬ (y.kind = 3 ∧ op.length = 0)) : atomG (n + 1) op (y :: L) = .ok (none, y :: L) := by
  rw [atomG, if_neg h1, if_neg h2, if_neg (by rw [h3]; decide), if_neg h4]

/-- The tree of lexemes, or what is wrong with them. -/
def lexemesS (L : List Lex) : Except Wrong Nd :=
  if L.all rightS = false then .error (6, 0)
  else if h : 1024 < L.length then .error (4, (L[1024]).place)
  else match altG (3 * L.length + 3) [] [] L with
    | .error e => .error e
    | .ok (x, _) => .ok x
/-- The tree of a text. -/
def parseS (bs : List Nat) : Except Wrong Nd :=
  match splitS bs with
  | .error e => .error e
  | .ok L => lexemesS L

/-! What is left is an end of what was there. -/
theorem postsG_suf : ∀ (L : List Lex) (x : Nd), (postsG x L).2 <:+ L
  | [], x => List.suffix_refl _
  | y :: L, x => by
    unfold postsG
    split
    · exact (postsG_suf L _).trans (List.suffix_cons y L)
    · exact List.suffix_refl _
theorem readG_suf (n : Nat) : (∀ op acc L x R, altG n op acc L = .ok (x, R) → R <:+ L) ∧ (∀ op acc L ps R, piecesG n op acc L = .ok (ps, R) → R <:+ L) ∧
    (∀ op L x R, atomG n op L = .ok (x, R) → R <:+ L ∧ (x ≠ none → R.length < L.length)) := by
  induction n with
  | zero => exact ⟨fun _ _ _ _ _ h => (by rw [altG] at h; cases h), fun _ _ _ _ _ h => (by rw [piecesG] at h; cases h), fun _ _ _ _ h => (by rw [atomG] at h; cases h)⟩
  | succ n ih =>
    obtain ⟨ia, ip, it⟩ := ih
    refine ⟨fun op acc L x R h => ?_, fun op acc L ps R h => ?_, fun op L x R h => ?_⟩
    · cases hp : piecesG n op [] L with
      | error e => rw [altG_bad hp] at h; cases h
      | ok r =>
        obtain ⟨ps, R1⟩ := r
        rw [altG_ok hp] at h
        have h1 := ip _ _ _ _ _ hp
        cases R1 with
        | nil => rw [tailG_nil] at h; cases h; exact h1
        | cons c R' =>
          by_cases h4 : c.kind = 4
          · rw [tailG_bar h4] at h
            exact (ia _ _ _ _ _ h).trans ((List.suffix_cons c R').trans h1)
          · rw [tailG_stop h4] at h
            cases h; exact h1
    · cases hp : atomG n op L with
      | error e => rw [piecesG_bad hp] at h; cases h
      | ok r =>
        obtain ⟨x, R1⟩ := r
        have h1 := (it _ _ _ _ hp).1
        cases x with
        | none => rw [piecesG_end hp] at h; cases h; exact h1
        | some x =>
          rw [piecesG_go hp] at h
          exact (ip _ _ _ _ _ h).trans ((postsG_suf _ _).trans h1)
    · cases L with
      | nil => rw [atomG_nil] at h; cases h; exact ⟨List.suffix_refl _, fun h => absurd rfl h⟩
      | cons y L =>
        rw [atomG] at h
        split at h
        · cases h; exact ⟨List.suffix_cons _ _, fun _ => by simp⟩
        split at h
        · split at h
          · cases h
          split at h
          · cases h
          · rename_i x' R' hx
            have h1 := ia _ _ _ _ _ hx
            split at h
            · cases h
            · rename_i c R''
              split at h
              · cases h
                have h2 : R <:+ L := (List.suffix_cons c R).trans h1
                exact ⟨h2.trans (List.suffix_cons y L), fun _ => by have := h2.length_le; simp; omega⟩
              · cases h
        split at h
        · cases h
        split at h
        · cases h
        · cases h; exact ⟨List.suffix_refl _, fun h => absurd rfl h⟩

/-! What is wrong first, by one look from the left. -/
def wrongS (op : List Int) (piece : Bool) : List Lex → Option Wrong
  | [] => match op with
    | [] => none
    | x :: _ => some (11, x)
  | y :: L =>
    if y.kind = 1 then wrongS op true L
    else if y.kind = 2 then (if 64 ≤ op.length then some (17, y.place) else wrongS (y.place :: op) false L)
    else if y.kind = 3 then (match op with
      | [] => some (12, y.place)
      | _ :: op' => wrongS op' true L)
    else if y.kind = 4 then wrongS op false L
    else if piece = false then some (5, y.place) else wrongS op piece L
/-- What stands first is no sign. -/
def NoPost (L : List Lex) : Prop := ∀ y L', L = y :: L' → isPost y.kind = false
def Kinds (L : List Lex) : Prop := ∀ y ∈ L, 1 ≤ y.kind ∧ y.kind ≤ 8
theorem Kinds.suf {L R : List Lex} (h : Kinds L) (hs : R <:+ L) : Kinds R := fun y hy => h y (hs.subset hy)
theorem Kinds.tail {L : List Lex} {y : Lex} (h : Kinds (y :: L)) : Kinds L := fun z hz => h z (List.mem_cons_of_mem y hz)
/-- Where a part ends. -/
def Stop (op : List Int) (R : List Lex) : Prop := R = [] ∨ ∃ c R', R = c :: R' ∧ (c.kind = 4 ∨ c.kind = 3 ∧ op ≠ [])
/-- Where an alternative ends. -/
def Stop2 (op : List Int) (R : List Lex) : Prop := R = [] ∨ ∃ c R', R = c :: R' ∧ c.kind = 3 ∧ op ≠ []
theorem Stop.noPost {op : List Int} {R : List Lex} (h : Stop op R) : NoPost R := by
  intro y L' e
  rcases h with rfl | ⟨c, R', rfl, h⟩
  · cases e
  · cases e
    unfold isPost
    simp
    omega
theorem wrongS_flag {op : List Int} {R : List Lex} (hk : Kinds R) (h : NoPost R) (p q : Bool) : wrongS op p R = wrongS op q R := by
  cases R with
  | nil => rfl
  | cons y L =>
    have h1 := hk y (by simp)
    have h2 := h y L rfl
    have h3 : ¬ (5 ≤ y.kind ∧ y.kind ≤ 8) := fun hh => by rw [(isPost_iff _).2 hh] at h2; cases h2
    unfold wrongS
    by_cases e1 : y.kind = 1
    · rw [if_pos e1, if_pos e1]
    rw [if_neg e1, if_neg e1]
    by_cases e2 : y.kind = 2
    · rw [if_pos e2, if_pos e2]
    rw [if_neg e2, if_neg e2]
    by_cases e3 : y.kind = 3
    · rw [if_pos e3, if_pos e3]
    rw [if_neg e3, if_neg e3]
    rw [if_pos (by omega), if_pos (by omega)]
theorem postsG_wrong (op : List Int) : ∀ (L : List Lex) (x : Nd), Kinds L → wrongS op true L = wrongS op true (postsG x L).2 ∧ NoPost (postsG x L).2
  | [], x, _ => ⟨rfl, fun y L' e => by cases e⟩
  | y :: L, x, hk => by
    unfold postsG
    split
    · rename_i h
      have h1 := (isPost_iff _).1 h
      have := postsG_wrong op L (postN y x) hk.tail
      refine ⟨?_, this.2⟩
      rw [← this.1]
      conv => lhs; unfold wrongS
      rw [if_neg (by omega), if_neg (by omega), if_neg (by omega), if_neg (by omega), if_neg (by decide)]
    · rename_i h
      refine ⟨rfl, fun z L' e => ?_⟩
      cases e
      simpa using h
def AltW (n : Nat) : Prop := ∀ op acc L, Kinds L → op.length ≤ 64 → 3 * L.length + 2 < n →
  match altG n op acc L with
  | .error e => wrongS op false L = some e
  | .ok (_, R) => Stop2 op R ∧ wrongS op false L = wrongS op false R
def PiecesW (n : Nat) : Prop := ∀ op acc L (p : Bool), Kinds L → op.length ≤ 64 → 3 * L.length + 1 < n → (p = false ∨ NoPost L) →
  match piecesG n op acc L with
  | .error e => wrongS op p L = some e
  | .ok (_, R) => Stop op R ∧ wrongS op p L = wrongS op false R
def AtomW (n : Nat) : Prop := ∀ op L (p : Bool), Kinds L → op.length ≤ 64 → 3 * L.length < n → (p = false ∨ NoPost L) →
  match atomG n op L with
  | .error e => wrongS op p L = some e
  | .ok (none, R) => R = L ∧ Stop op L
  | .ok (some _, R) => wrongS op p L = wrongS op true R
theorem readG_wrong (n : Nat) : AltW n ∧ PiecesW n ∧ AtomW n := by
  induction n with
  | zero => exact ⟨fun _ _ _ _ _ h => by omega, fun _ _ _ _ _ _ h => by omega, fun _ _ _ _ _ h => by omega⟩
  | succ n ih =>
    obtain ⟨ia, ip, it⟩ := ih
    obtain ⟨sa, sp, st⟩ := readG_suf n
    refine ⟨fun op acc L hk ho hn => ?_, fun op acc L p hk ho hn hp => ?_, fun op L p hk ho hn hp => ?_⟩
    · have h1 := ip op [] L false hk ho (by omega) (.inl rfl)
      cases hx : piecesG n op [] L with
      | error e => rw [hx] at h1; rw [altG_bad hx]; exact h1
      | ok r =>
        obtain ⟨ps, R⟩ := r
        rw [hx] at h1
        obtain ⟨h1, h2⟩ := h1
        have hs := sp _ _ _ _ _ hx
        rw [altG_ok hx]
        rcases h1 with rfl | ⟨c, R', rfl, hc⟩
        · exact ⟨.inl rfl, h2⟩
        · by_cases h4 : c.kind = 4
          · rw [tailG_bar h4]
            have hl := hs.length_le
            simp at hl
            have h3 := ia op (acc ++ [partN ps]) R' ((hk.suf hs).tail) ho (by omega)
            have e : wrongS op false (c :: R') = wrongS op false R' := by
              conv => lhs; unfold wrongS
              rw [if_neg (by omega), if_neg (by omega), if_neg (by omega), if_pos h4]
            rw [h2, e]
            exact h3
          · rw [tailG_stop h4]
            exact ⟨.inr ⟨c, R', rfl, by omega, by rcases hc with hc | hc; exact absurd hc h4; exact hc.2⟩, h2⟩
    · have h1 := it op L p hk ho (by omega) hp
      cases hx : atomG n op L with
      | error e => rw [hx] at h1; rw [piecesG_bad hx]; exact h1
      | ok r =>
        obtain ⟨x, R⟩ := r
        have hs := st _ _ _ _ hx
        cases x with
        | none =>
          rw [hx] at h1
          obtain ⟨rfl, h1⟩ := h1
          rw [piecesG_end hx]
          exact ⟨h1, wrongS_flag hk h1.noPost _ _⟩
        | some x =>
          rw [hx] at h1
          rw [piecesG_go hx]
          have h2 := postsG_wrong op R x (hk.suf hs.1)
          have hs2 := postsG_suf R x
          have hl := hs.2 (by simp)
          have hl2 := hs2.length_le
          have h3 := ip op (acc ++ [(postsG x R).1]) (postsG x R).2 true (hk.suf (hs2.trans hs.1)) ho (by omega) (.inr h2.2)
          rw [show wrongS op p L = wrongS op true (postsG x R).2 from h1.trans h2.1]
          exact h3
    · cases L with
      | nil => rw [atomG_nil]; exact ⟨rfl, .inl rfl⟩
      | cons y L =>
        have hky := hk y (by simp)
        simp only [List.length_cons] at hn
        by_cases e1 : y.kind = 1
        · rw [atomG_set e1]
          show wrongS op p (y :: L) = wrongS op true L
          conv => lhs; unfold wrongS
          rw [if_pos e1]
        by_cases e2 : y.kind = 2
        · by_cases h64 : op.length = 64
          · rw [atomG_deep e2 h64]
            show wrongS op p (y :: L) = _
            unfold wrongS
            rw [if_neg e1, if_pos e2, if_pos (by omega)]
          · have h1 := ia (y.place :: op) [] L hk.tail (by simp; omega) (by omega)
            have ew : wrongS op p (y :: L) = wrongS (y.place :: op) false L := by
              conv => lhs; unfold wrongS
              rw [if_neg e1, if_pos e2, if_neg (by omega)]
            cases hx : altG n (y.place :: op) [] L with
            | error e => rw [hx] at h1; rw [atomG_in e2 h64 hx]; exact ew.trans h1
            | ok r =>
              obtain ⟨x, R⟩ := r
              rw [hx] at h1
              obtain ⟨h1, h2⟩ := h1
              rcases h1 with rfl | ⟨c, R', rfl, hc, _⟩
              · rw [atomG_open e2 h64 hx (fun c R' e => by cases e)]
                exact ew.trans h2
              · rw [atomG_close e2 h64 hx hc]
                refine ew.trans (h2.trans ?_)
                conv => lhs; unfold wrongS
                rw [if_neg (by omega), if_neg (by omega), if_pos hc]
        by_cases e5 : isPost y.kind = true
        · rw [atomG_post e5]
          have h5 := (isPost_iff _).1 e5
          have hp' : p = false := by
            rcases hp with h | h
            · exact h
            · rw [h y L rfl] at e5; cases e5
          show wrongS op p (y :: L) = _
          unfold wrongS
          rw [if_neg e1, if_neg e2, if_neg (by omega), if_neg (by omega), if_pos hp']
        by_cases e3 : y.kind = 3
        · by_cases h0 : op.length = 0
          · rw [atomG_lone e3 h0]
            show wrongS op p (y :: L) = _
            have : op = [] := List.length_eq_zero_iff.1 h0
            subst this
            unfold wrongS
            rw [if_neg e1, if_neg e2, if_pos e3]
          · rw [atomG_stop e1 e2 (by simpa using e5) (fun h => h0 h.2)]
            exact ⟨rfl, .inr ⟨y, L, rfl, .inr ⟨e3, fun h => h0 (by rw [h]; rfl)⟩⟩⟩
        · rw [atomG_stop e1 e2 (by simpa using e5) (fun h => e3 h.1)]
          have : ¬ (5 ≤ y.kind ∧ y.kind ≤ 8) := fun h => e5 ((isPost_iff _).2 h)
          exact ⟨rfl, .inr ⟨y, L, rfl, .inl (by omega)⟩⟩
/-- The reading fails as the look does; else all is read. -/
theorem read_wrong (L : List Lex) (hk : Kinds L) : match altG (3 * L.length + 3) [] [] L with
    | .error e => wrongS [] false L = some e
    | .ok (_, R) => R = [] ∧ wrongS [] false L = none := by
  have h := (readG_wrong (3 * L.length + 3)).1 [] [] L hk (by simp) (by omega)
  cases hx : altG (3 * L.length + 3) [] [] L with
  | error e => rw [hx] at h; exact h
  | ok r =>
    obtain ⟨x, R⟩ := r
    rw [hx] at h
    obtain ⟨h1, h2⟩ := h
    rcases h1 with rfl | ⟨c, R', rfl, _, h0⟩
    · exact ⟨rfl, h2⟩
    · exact absurd rfl h0

end Go.Proofs.YtajohcknenngnaaGreat
namespace Go.Proofs.YtajohcknenngnaaGreat
set_option linter.unusedSimpArgs false
set_option linter.unusedVariables false
set_option maxRecDepth 100000

/-- May a byte begin a name? -/
def isNameA (c : Nat) : Bool := c == 95 || decide (97 ≤ c) && decide (c ≤ 122) || decide (65 ≤ c) && decide (c ≤ 90)
/-- May a byte stand in a name behind its beginning? -/
def isNameB (c : Nat) : Bool := isNameA c || isDig c
/-- How many bytes could stand in a name. -/
def runS : List Nat → Nat
  | [] => 0
  | c :: l => if isNameA c = true then (l.takeWhile isNameB).length + 1 else 0
theorem runS_nil : runS [] = 0 := rfl
theorem runS_cons (c : Nat) (l : List Nat) : runS (c :: l) = if isNameA c = true then (l.takeWhile isNameB).length + 1 else 0 := rfl
/-- May byte i go on a name? -/
def nameAt (bs : List Nat) (i : Nat) : Bool := if i = 0 then isNameA (byteAt bs 0) else isNameB (byteAt bs i)
theorem runS_le (bs : List Nat) : runS bs ≤ bs.length := by
  cases bs with
  | nil => exact Nat.le_refl _
  | cons c l =>
    rw [runS_cons]
    split
    · have := (List.takeWhile_prefix (p := isNameB) (l := l)).length_le
      simp
      omega
    · simp
theorem runS_more {bs : List Nat} {i : Nat} (hi : i ≤ runS bs) (hl : i < bs.length) (h : nameAt bs i = true) : i + 1 ≤ runS bs := by
  cases bs with
  | nil => simp at hl
  | cons c l =>
    unfold nameAt at h
    rw [runS_cons] at hi ⊢
    cases i with
    | zero =>
      have h0 : isNameA c = true := by simpa [byteAt] using h
      rw [if_pos h0]
      omega
    | succ i =>
      by_cases h0 : isNameA c = true
      · rw [if_pos h0] at hi ⊢
        have hl' : i < l.length := by simpa using hl
        have h1 : isNameB l[i] = true := by
          rw [if_neg (by omega)] at h
          rw [← byteAt_get (by simpa using hl)] at h
          simpa using h
        have := takeWhile_more l i (by omega) hl' h1
        omega
      · rw [if_neg h0] at hi
        omega
theorem runS_stop {bs : List Nat} {i : Nat} (hi : i ≤ runS bs) (h : bs.length ≤ i ∨ nameAt bs i = false) : runS bs = i := by
  rcases h with h | h
  · have := runS_le bs
    omega
  · cases bs with
    | nil => rw [runS_nil] at hi ⊢; omega
    | cons c l =>
      unfold nameAt at h
      rw [runS_cons] at hi ⊢
      cases i with
      | zero =>
        have h0 : ¬ isNameA c = true := by simpa [byteAt] using h
        rw [if_neg h0]
      | succ i =>
        by_cases h0 : isNameA c = true
        · rw [if_pos h0] at hi ⊢
          rcases Nat.lt_or_ge i l.length with hl' | hl'
          · have h1 : isNameB l[i] = false := by
              rw [if_neg (by omega)] at h
              rw [← byteAt_get (show i + 1 < (c :: l).length by simpa using hl')] at h
              simpa using h
            rw [takeWhile_stop l i (by omega) hl' h1]
          · have := (List.takeWhile_prefix (p := isNameB) (l := l)).length_le
            omega
        · rw [if_neg h0] at hi
          omega

/-- A rule: its name, its tree. -/
structure RuleS where
  name : List Nat
  body : Nd
/-- A line's name; or what is wrong with it. -/
def headS (rs : List RuleS) (line : List Nat) : Except Wrong (List Nat) :=
  if rs.length = 64 then .error (18, 0)
  else if runS line = 0 then .error (9, 0)
  else if 32 < runS line then .error (9, 32)
  else if runS line = line.length ∨ byteAt line (runS line) ≠ 58 then .error (10, (runS line : Nat))
  else if (rs.any fun r => decide (r.name = line.take (runS line))) = true then .error (8, 0)
  else .ok (line.take (runS line))
/-- A line that says something. -/
def lineS (rs : List RuleS) (line : List Nat) : Except Wrong RuleS :=
  match headS rs line with
  | .error e => .error e
  | .ok n => match parseS (line.drop (n.length + 1)) with
    | .error (k, q) => .error (k, q + n.length + 1)
    | .ok x => .ok ⟨n, x⟩
/-- The line that begins at a place. -/
def lineAt (bs : List Nat) (i : Nat) : List Nat := (bs.drop i).takeWhile (fun c => !(c == 10))
/-- The rules from a place on, behind those of rs. -/
def rulesF (bs : List Nat) : Nat → Nat → List RuleS → Except Wrong (List RuleS)
  | 0, _, _ => .error (0, 0)
  | f + 1, i, rs => if bs.length ≤ i then .ok rs
    else if lineAt bs i = [] ∨ byteAt bs i = 35 then rulesF bs f (i + (lineAt bs i).length + 1) rs
    else match lineS rs (lineAt bs i) with
      | .error (k, q) => .error (k, q + i)
      | .ok r => rulesF bs f (i + (lineAt bs i).length + 1) (rs ++ [r])
/-- The rules of a text. -/
def rulesS (bs : List Nat) : Except Wrong (List RuleS) := if 65536 < bs.length then .error (4, 65536) else rulesF bs (bs.length + 1) 0 []

end Go.Proofs.YtajohcknenngnaaGreat
namespace Go.Proofs.YtajohcknenngnaaGreat
set_option linter.unusedSimpArgs false
set_option linter.unusedVariables false
set_option maxRecDepth 100000

theorem rulesF_end {bs : List Nat} {f i : Nat} {rs : List RuleS} (h : bs.length ≤ i) : rulesF bs (f + 1) i rs = .ok rs := by unfold rulesF; rw [if_pos h]
theorem rulesF_pass {bs : List Nat} {f i : Nat} {rs : List RuleS} (h : i < bs.length) (h2 : lineAt bs i = [] ∨ byteAt bs i = 35) : rulesF bs (f + 1) i rs = rulesF bs f (i + (lineAt bs i).length + 1) rs := by
  conv => lhs; unfold rulesF
  rw [if_neg (by omega), if_pos h2]
theorem rulesF_bad {bs : List Nat} {f i : Nat} {rs : List RuleS} {k q : Int} (h : i < bs.length) (h2 : ¬ (lineAt bs i = [] ∨ byteAt bs i = 35)) (h3 : lineS rs (lineAt bs i) = .error (k, q)) : rulesF bs (f + 1) i rs = .error (k, q + i) := by
  conv => lhs; unfold rulesF
  rw [if_neg (by omega), if_neg h2, h3]
theorem rulesF_ok {bs : List Nat} {f i : Nat} {rs : List RuleS} {r : RuleS} (h : i < bs.length) (h2 : ¬ (lineAt bs i = [] ∨ byteAt bs i = 35)) (h3 : lineS rs (lineAt bs i) = .ok r) : rulesF bs (f + 1) i rs = rulesF bs f (i + (lineAt bs i).length + 1) (rs ++ [r]) := by
  conv => lhs; unfold rulesF
  rw [if_neg (by omega), if_neg h2, h3]
theorem lineAt_len (bs : List Nat) (i : Nat) : (lineAt bs i).length ≤ bs.length - i := by
  have := (List.takeWhile_prefix (p := fun c => !(c == 10)) (l := bs.drop i)).length_le
  unfold lineAt
  simpa using this
/-- More fuel reads the same. -/
theorem rulesF_fuel {bs : List Nat} : ∀ {f g i : Nat} {rs : List RuleS}, bs.length < f + i → bs.length < g + i → i ≤ bs.length + 1 → 1 ≤ f → 1 ≤ g → rulesF bs f i rs = rulesF bs g i rs
  | 0, _, _, _, _, _, _, h, _ => by omega
  | _ + 1, 0, _, _, _, _, _, _, h => by omega
  | f + 1, g + 1, i, rs, hf, hg, hi, _, _ => by
    rcases Nat.lt_or_ge i bs.length with h | h
    · have hl := lineAt_len bs i
      have hstep : ∀ rs', rulesF bs f (i + (lineAt bs i).length + 1) rs' = rulesF bs g (i + (lineAt bs i).length + 1) rs' := fun rs' =>
        rulesF_fuel (by omega) (by omega) (by omega) (by omega) (by omega)
      by_cases h2 : lineAt bs i = [] ∨ byteAt bs i = 35
      · rw [rulesF_pass h h2, rulesF_pass h h2, hstep]
      · cases h3 : lineS rs (lineAt bs i) with
        | error e => obtain ⟨k, q⟩ := e; rw [rulesF_bad h h2 h3, rulesF_bad h h2 h3]
        | ok r => rw [rulesF_ok h h2 h3, rulesF_ok h h2 h3, hstep]
    · rw [rulesF_end h, rulesF_end h]
/-- The rules from a place on, with as much fuel as is wanted. -/
def rulesC (bs : List Nat) (i : Nat) (rs : List RuleS) : Except Wrong (List RuleS) := rulesF bs (bs.length + 2 - i) i rs
theorem rulesC_of {bs : List Nat} {f i : Nat} {rs : List RuleS} (h : bs.length < f + i) (hi : i ≤ bs.length + 1) (hf : 1 ≤ f) : rulesF bs f i rs = rulesC bs i rs := rulesF_fuel h (by omega) hi hf (by omega)
theorem rulesC_end {bs : List Nat} {i : Nat} {rs : List RuleS} (h : bs.length ≤ i) (hi : i ≤ bs.length + 1) : rulesC bs i rs = .ok rs := by
  unfold rulesC
  rw [show bs.length + 2 - i = (bs.length + 1 - i) + 1 by omega, rulesF_end h]
theorem rulesC_pass {bs : List Nat} {i : Nat} {rs : List RuleS} (h : i < bs.length) (h2 : lineAt bs i = [] ∨ byteAt bs i = 35) : rulesC bs i rs = rulesC bs (i + (lineAt bs i).length + 1) rs := by
  have hl := lineAt_len bs i
  conv => lhs; unfold rulesC
  rw [show bs.length + 2 - i = (bs.length + 1 - i) + 1 by omega, rulesF_pass h h2]
  exact rulesC_of (by omega) (by omega) (by omega)
theorem rulesC_bad {bs : List Nat} {i : Nat} {rs : List RuleS} {k q : Int} (h : i < bs.length) (h2 : ¬ (lineAt bs i = [] ∨ byteAt bs i = 35)) (h3 : lineS rs (lineAt bs i) = .error (k, q)) : rulesC bs i rs = .error (k, q + i) := by
  unfold rulesC
  rw [show bs.length + 2 - i = (bs.length + 1 - i) + 1 by omega, rulesF_bad h h2 h3]
theorem rulesC_ok {bs : List Nat} {i : Nat} {rs : List RuleS} {r : RuleS} (h : i < bs.length) (h2 : ¬ (lineAt bs i = [] ∨ byteAt bs i = 35)) (h3 : lineS rs (lineAt bs i) = .ok r) : rulesC bs i rs = rulesC bs (i + (lineAt bs i).length + 1) (rs ++ [r]) := by
  have hl := lineAt_len bs i
  conv => lhs; unfold rulesC
  rw [show bs.length + 2 - i = (bs.length + 1 - i) + 1 by omega, rulesF_ok h h2 h3]
  exact rulesC_of (by omega) (by omega) (by omega)
theorem rulesS_long {bs : List Nat} (h : 65536 < bs.length) : rulesS bs = .error (4, 65536) := by unfold rulesS; rw [if_pos h]
theorem rulesS_go {bs : List Nat} (h : bs.length ≤ 65536) : rulesS bs = rulesC bs 0 [] := by
  unfold rulesS
  rw [if_neg (by omega)]
  exact rulesC_of (by omega) (by omega) (by omega)
theorem rulesS_ok_len {bs : List Nat} {l : List RuleS} (h : rulesS bs = .ok l) : bs.length ≤ 65536 := by
  rcases Nat.lt_or_ge 65536 bs.length with h1 | h1
  · rw [rulesS_long h1] at h; cases h
  · exact h1

def shiftR (d : Nat) : Except Wrong (List RuleS) → Except Wrong (List RuleS)
  | .error (k, q) => .error (k, q + d)
  | .ok l => .ok l
theorem byteAt_behind (a b : List Nat) (c i : Nat) : byteAt (a ++ c :: b) (i + (a.length + 1)) = byteAt b i := by
  unfold byteAt
  rw [show a ++ c :: b = (a ++ [c]) ++ b by simp, show i + (a.length + 1) = (a ++ [c]).length + i by simp; omega, List.getD_eq_getElem?_getD, List.getElem?_append_right (by omega), List.getD_eq_getElem?_getD]
  simp
theorem lineAt_behind (a b : List Nat) (c i : Nat) : lineAt (a ++ c :: b) (i + (a.length + 1)) = lineAt b i := by
  unfold lineAt
  rw [show a ++ c :: b = (a ++ [c]) ++ b by simp, show i + (a.length + 1) = (a ++ [c]).length + i by simp; omega, ← List.drop_drop]
  simp
theorem byteAt_ahead {a : List Nat} {i : Nat} (h : i < a.length) (b : List Nat) : byteAt (a ++ b) i = byteAt a i := by
  unfold byteAt
  rw [List.getD_eq_getElem?_getD, List.getElem?_append_left h, List.getD_eq_getElem?_getD]
theorem takeWhile_app_stop {p : Nat → Bool} {c : Nat} (hc : p c = false) (b : List Nat) : ∀ a : List Nat, (a ++ c :: b).takeWhile p = a.takeWhile p
  | [] => by simp [hc]
  | x :: a => by
    simp only [List.cons_append, List.takeWhile_cons, takeWhile_app_stop hc b a]
theorem lineAt_ahead {a : List Nat} {i : Nat} (h : i ≤ a.length) (b : List Nat) : lineAt (a ++ 10 :: b) i = lineAt a i := by
  unfold lineAt
  rw [List.drop_append_of_le_length h]
  exact takeWhile_app_stop (by decide) b _
/-- What stands behind a text is read as by itself, that much further on. -/
theorem rulesC_behind (a b : List Nat) (n : Nat) : ∀ (i : Nat) (rs : List RuleS), i ≤ b.length + 1 → b.length - i ≤ n → rulesC (a ++ 10 :: b) (i + (a.length + 1)) rs = shiftR (a.length + 1) (rulesC b i rs) := by
  induction n with
  | zero =>
    intro i rs hi hn
    have hlen : (a ++ 10 :: b).length = b.length + (a.length + 1) := by simp; omega
    rw [rulesC_end (by omega) (by omega), rulesC_end (by omega) hi]
    rfl
  | succ n ih =>
    intro i rs hi hn
    have hlen : (a ++ 10 :: b).length = b.length + (a.length + 1) := by simp; omega
    have hl := lineAt_len b i
    rcases Nat.lt_or_ge i b.length with h | h
    · have h' : i + (a.length + 1) < (a ++ 10 :: b).length := by omega
      have hg : i + (a.length + 1) + (lineAt b i).length + 1 = i + (lineAt b i).length + 1 + (a.length + 1) := by omega
      by_cases h2 : lineAt b i = [] ∨ byteAt b i = 35
      · rw [rulesC_pass h' (by rw [lineAt_behind, byteAt_behind]; exact h2), rulesC_pass h h2, lineAt_behind, hg]
        exact ih _ rs (by omega) (by omega)
      · have h2' : ¬ (lineAt (a ++ 10 :: b) (i + (a.length + 1)) = [] ∨ byteAt (a ++ 10 :: b) (i + (a.length + 1)) = 35) := by rw [lineAt_behind, byteAt_behind]; exact h2
        cases h3 : lineS rs (lineAt b i) with
        | error e =>
          obtain ⟨k, q⟩ := e
          rw [rulesC_bad h' h2' (by rw [lineAt_behind]; exact h3), rulesC_bad h h2 h3]
          simp only [shiftR]
          congr 2
          omega
        | ok r =>
          rw [rulesC_ok h' h2' (by rw [lineAt_behind]; exact h3), rulesC_ok h h2 h3, lineAt_behind, hg]
          exact ih _ _ (by omega) (by omega)
    · rw [rulesC_end (by omega) (by omega), rulesC_end h hi]
      rfl
/-- A text that is right is read, and then what stands behind it. -/
theorem rulesC_ahead (a b : List Nat) (n : Nat) : ∀ (i : Nat) (rs l : List RuleS), i ≤ a.length + 1 → a.length + 1 - i ≤ n → rulesC a i rs = .ok l → rulesC (a ++ 10 :: b) i rs = rulesC (a ++ 10 :: b) (a.length + 1) l := by
  induction n with
  | zero =>
    intro i rs l hi hn h
    obtain rfl : i = a.length + 1 := by omega
    rw [rulesC_end (by omega) hi] at h
    cases h
    rfl
  | succ n ih =>
    intro i rs l hi hn h
    have hlen : (a ++ 10 :: b).length = b.length + (a.length + 1) := by simp; omega
    have hl := lineAt_len a i
    rcases Nat.lt_trichotomy i a.length with h1 | h1 | h1
    · have h' : i < (a ++ 10 :: b).length := by omega
      have e1 := lineAt_ahead (i := i) (a := a) (by omega) b
      have e2 := byteAt_ahead (i := i) h1 (10 :: b)
      by_cases h2 : lineAt a i = [] ∨ byteAt a i = 35
      · rw [rulesC_pass h1 h2] at h
        rw [rulesC_pass h' (by rw [e1, e2]; exact h2), e1]
        exact ih _ _ _ (by omega) (by omega) h
      · have h2' : ¬ (lineAt (a ++ 10 :: b) i = [] ∨ byteAt (a ++ 10 :: b) i = 35) := by rw [e1, e2]; exact h2
        cases h3 : lineS rs (lineAt a i) with
        | error e =>
          obtain ⟨k, q⟩ := e
          rw [rulesC_bad h1 h2 h3] at h
          cases h
        | ok r =>
          rw [rulesC_ok h1 h2 h3] at h
          rw [rulesC_ok h' h2' (by rw [e1]; exact h3), e1]
          exact ih _ _ _ (by omega) (by omega) h
    · subst h1
      rw [rulesC_end (by omega) hi] at h
      cases h
      have e1 : lineAt (a ++ 10 :: b) a.length = [] := by unfold lineAt; simp
      rw [rulesC_pass (by omega) (.inl e1), e1]
      simp
    · obtain rfl : i = a.length + 1 := by omega
      rw [rulesC_end (by omega) hi] at h
      cases h
      rfl

/-- Is one of some rules called so? -/
def called (rs : List RuleS) (n : List Nat) : Bool := rs.any fun r => decide (r.name = n)
theorem called_app (l rs : List RuleS) (n : List Nat) : called (l ++ rs) n = (called l n || called rs n) := by unfold called; simp
theorem headS_ok {rs : List RuleS} {line n : List Nat} (h : headS rs line = .ok n) : rs.length ≠ 64 ∧ n = line.take (runS line) ∧ called rs n = false := by
  unfold headS at h
  split at h; · cases h
  split at h; · cases h
  split at h; · cases h
  split at h; · cases h
  split at h; · cases h
  rename_i h1 h2 h3 h4 h5
  cases h
  exact ⟨h1, rfl, by simpa [called] using h5⟩
theorem headS_more {l rs : List RuleS} {line n : List Nat} (h : headS rs line = .ok n) (hl : (l ++ rs).length < 64) : headS (l ++ rs) line = if called l n = true then .error (8, 0) else .ok n := by
  unfold headS at h
  split at h; · cases h
  split at h; · cases h
  split at h; · cases h
  split at h; · cases h
  split at h; · cases h
  rename_i h1 h2 h3 h4 h5
  cases h
  unfold headS
  rw [if_neg (by omega), if_neg h2, if_neg h3, if_neg h4]
  have e : ((l ++ rs).any fun r => decide (r.name = line.take (runS line))) = called l (line.take (runS line)) := by
    rw [List.any_append]
    unfold called
    rw [show (rs.any fun r => decide (r.name = line.take (runS line))) = false by simpa using h5, Bool.or_false]
  rw [e]
theorem lineS_ok {rs : List RuleS} {line : List Nat} {r : RuleS} (h : lineS rs line = .ok r) : headS rs line = .ok r.name ∧ parseS (line.drop (r.name.length + 1)) = .ok r.body := by
  unfold lineS at h
  cases h1 : headS rs line with
  | error e => rw [h1] at h; cases h
  | ok n =>
    rw [h1] at h
    dsimp only at h
    cases h2 : parseS (line.drop (n.length + 1)) with
    | error e => obtain ⟨k, q⟩ := e; rw [h2] at h; cases h
    | ok x => rw [h2] at h; cases h; exact ⟨rfl, h2⟩
theorem lineS_more {l rs : List RuleS} {line : List Nat} {r : RuleS} (h : lineS rs line = .ok r) (hl : (l ++ rs).length < 64) : lineS (l ++ rs) line = if called l r.name = true then .error (8, 0) else .ok r := by
  obtain ⟨h1, h2⟩ := lineS_ok h
  unfold lineS
  rw [headS_more h1 hl]
  by_cases hc : called l r.name = true
  · rw [if_pos hc, if_pos hc]
  · rw [if_neg hc, if_neg hc]
    dsimp only
    rw [h2]
/-- What is read is more and more. -/
theorem rulesC_grows {b : List Nat} (n : Nat) : ∀ {i : Nat} {rs m : List RuleS}, i ≤ b.length + 1 → b.length - i ≤ n → rulesC b i rs = .ok m → ∃ t, m = rs ++ t := by
  induction n with
  | zero =>
    intro i rs m hi hn h
    rw [rulesC_end (by omega) hi] at h
    cases h
    exact ⟨[], by simp⟩
  | succ n ih =>
    intro i rs m hi hn h
    have hl := lineAt_len b i
    rcases Nat.lt_or_ge i b.length with h1 | h1
    · by_cases h2 : lineAt b i = [] ∨ byteAt b i = 35
      · rw [rulesC_pass h1 h2] at h
        exact ih (by omega) (by omega) h
      · cases h3 : lineS rs (lineAt b i) with
        | error e => obtain ⟨k, q⟩ := e; rw [rulesC_bad h1 h2 h3] at h; cases h
        | ok r =>
          rw [rulesC_ok h1 h2 h3] at h
          obtain ⟨t, ht⟩ := ih (by omega) (by omega) h
          exact ⟨r :: t, by simpa using ht⟩
    · rw [rulesC_end h1 hi] at h
      cases h
      exact ⟨[], by simp⟩
/-- Behind other rules: the same ones, if none of them is called as one of those; else that name is there twice. -/
theorem rulesC_more {b : List Nat} {l : List RuleS} (n : Nat) : ∀ {i : Nat} {rs m : List RuleS}, i ≤ b.length + 1 → b.length - i ≤ n → rulesC b i rs = .ok m → l.length + m.length ≤ 64 → (∀ r ∈ rs, called l r.name = false) →
    if ∃ r ∈ m, called l r.name = true then ∃ q : Int, 0 ≤ q ∧ rulesC b i (l ++ rs) = .error (8, q) else rulesC b i (l ++ rs) = .ok (l ++ m) := by
  induction n with
  | zero =>
    intro i rs m hi hn h hlm hrs
    rw [rulesC_end (by omega) hi] at h
    cases h
    rw [if_neg (fun ⟨r, hr, hc⟩ => by rw [hrs r hr] at hc; cases hc)]
    exact rulesC_end (by omega) hi
  | succ n ih =>
    intro i rs m hi hn h hlm hrs
    have hl := lineAt_len b i
    rcases Nat.lt_or_ge i b.length with h1 | h1
    · by_cases h2 : lineAt b i = [] ∨ byteAt b i = 35
      · rw [rulesC_pass h1 h2] at h
        rw [rulesC_pass h1 h2]
        exact ih (by omega) (by omega) h hlm hrs
      · cases h3 : lineS rs (lineAt b i) with
        | error e => obtain ⟨k, q⟩ := e; rw [rulesC_bad h1 h2 h3] at h; cases h
        | ok r =>
          rw [rulesC_ok h1 h2 h3] at h
          obtain ⟨t, ht⟩ := rulesC_grows n (by omega) (by omega) h
          have hm : m.length = rs.length + 1 + t.length := by rw [ht]; simp; omega
          have h4 := lineS_more (l := l) h3 (by simp; omega)
          by_cases hc : called l r.name = true
          · rw [if_pos ⟨r, by rw [ht]; simp, hc⟩]
            rw [if_pos hc] at h4
            exact ⟨_, by omega, rulesC_bad h1 h2 h4⟩
          · rw [if_neg hc] at h4
            rw [rulesC_ok h1 h2 h4, List.append_assoc]
            refine ih (by omega) (by omega) h hlm (fun x hx => ?_)
            rcases List.mem_append.1 hx with hx | hx
            · exact hrs x hx
            · rw [List.mem_singleton.1 hx]; simpa using hc
    · rw [rulesC_end h1 hi] at h
      cases h
      rw [if_neg (fun ⟨r, hr, hc⟩ => by rw [hrs r hr] at hc; cases hc)]
      exact rulesC_end h1 hi
/-- Two texts of right lines, one behind the other. -/
theorem rules_parts {a b : List Nat} {l m : List RuleS} (ha : rulesS a = .ok l) (hb : rulesS b = .ok m) (hlm : l.length + m.length ≤ 64) (hlen : a.length + b.length < 65536) :
    if ∃ r ∈ m, called l r.name = true then ∃ q : Int, (a.length : Int) < q ∧ rulesS (a ++ 10 :: b) = .error (8, q) else rulesS (a ++ 10 :: b) = .ok (l ++ m) := by
  rw [rulesS_go (by omega)] at ha hb
  rw [rulesS_go (by simp; omega)]
  rw [rulesC_ahead a b _ 0 [] l (by omega) (Nat.le_refl _) ha]
  have h := rulesC_more (l := l) _ (by omega) (Nat.le_refl _) hb hlm (fun r hr => by cases hr)
  have e := rulesC_behind a b _ 0 l (by omega) (Nat.le_refl _)
  rw [Nat.zero_add] at e
  rw [e]
  rw [List.append_nil] at h
  split at h
  · rename_i hc
    rw [if_pos hc]
    obtain ⟨q, hq, h⟩ := h
    rw [h]
    exact ⟨q + (a.length + 1 : Nat), by omega, rfl⟩
  · rename_i hc
    rw [if_neg hc, h]
    rfl
end Go.Proofs.YtajohcknenngnaaGreat
namespace Go.Proofs.YtajohcknenngnaaGreat
open Go.RowKit Go.Maps
set_option linter.unusedSimpArgs false
set_option linter.unusedVariables false
set_option maxRecDepth 100000

/-- At A stand rules, all of whose blocks are of P. -/
def RulesAt (w : World) (P : Nat → Prop) (rs : List RuleS) (A : Option Addr) : Prop := ∀ (i : Nat) (r : RuleS), rs[i]? = some r →
  ∃ b o B cap, A = some ⟨b, o, none⟩ ∧ P b ∧ r.body.kids.len ≤ cap ∧ w.cell? ⟨b, o + i * 9, none⟩ = some (.string (strOf r.name)) ∧
    NdAt w b (o + i * 9 + 1) r.body.kind r.body.set r.body.kids.len r.body.lo r.body.hi B cap ∧ TreesAt w P r.body.kids B
theorem RulesAt.keep {w w' : World} {P Q : Nat → Prop} {rs : List RuleS} {A : Option Addr} (h : RulesAt w P rs A) (hk : ∀ b o, P b → b < w.heap.size → w'.cell? ⟨b, o, none⟩ = w.cell? ⟨b, o, none⟩) (hQ : ∀ b, P b → b < w.heap.size → Q b) : RulesAt w' Q rs A := fun i r hr => by
  obtain ⟨b, o, B, cap, hA, hb, hc, h0, hn, ht⟩ := h i r hr
  have hl := World.block_lt_of_cell? w _ h0
  exact ⟨b, o, B, cap, hA, hQ b hb hl, hc, (hk b _ hb hl).trans h0, hn.keep (fun o => hk b o hb hl), ht.keep hk hQ⟩
theorem RulesAt.below {w w' : World} {P : Nat → Prop} {rs : List RuleS} {A : Option Addr} (h : RulesAt w P rs A) (hb : Below w.heap.size w w') : RulesAt w' P rs A :=
  h.keep (fun b o _ hl => hb.cell (p := ⟨b, o, none⟩) hl) (fun b hp _ => hp)
theorem RulesAt.weak {w : World} {P Q : Nat → Prop} {rs : List RuleS} {A : Option Addr} (h : RulesAt w P rs A) (hQ : ∀ b, P b → b < w.heap.size → Q b) : RulesAt w Q rs A := h.keep (fun _ _ _ _ => rfl) hQ
theorem RulesAt.nil {w : World} {P : Nat → Prop} {A : Option Addr} : RulesAt w P [] A := fun i r h => by simp at h

/-- The cells of a rule. -/
def ruleCell (r : RuleS) (B : Option Addr) (cap : Nat) : List Value := .string (strOf r.name) :: ndCell r.body B cap
/-- Cells that are those of rules, with their trees in memory. -/
def RulesAre (w : World) (P : Nat → Prop) : List RuleS → List Value → Prop
  | [], cs => cs = []
  | r :: l, cs => ∃ B cap rest, cs = ruleCell r B cap ++ rest ∧ r.body.kids.len ≤ cap ∧ TreesAt w P r.body.kids B ∧ RulesAre w P l rest
theorem RulesAre.keep {w w' : World} {P Q : Nat → Prop} (hk : ∀ b o, P b → b < w.heap.size → w'.cell? ⟨b, o, none⟩ = w.cell? ⟨b, o, none⟩) (hQ : ∀ b, P b → b < w.heap.size → Q b) : ∀ {l : List RuleS} {cs : List Value}, RulesAre w P l cs → RulesAre w' Q l cs
  | [], cs, h => h
  | x :: l, cs, ⟨B, cap, rest, hcs, hc, ht, hr⟩ => ⟨B, cap, rest, hcs, hc, ht.keep hk hQ, hr.keep hk hQ⟩
theorem RulesAre.below {w w' : World} {P : Nat → Prop} (hb : Below w.heap.size w w') {l : List RuleS} {cs : List Value} (h : RulesAre w P l cs) : RulesAre w' P l cs :=
  h.keep (fun b o _ hl => hb.cell (p := ⟨b, o, none⟩) hl) (fun b hp _ => hp)
theorem RulesAre.snoc {w : World} {P : Nat → Prop} {x : RuleS} {B : Option Addr} {cap : Nat} (hc : x.body.kids.len ≤ cap) (ht : TreesAt w P x.body.kids B) : ∀ {l : List RuleS} {cs : List Value}, RulesAre w P l cs → RulesAre w P (l ++ [x]) (cs ++ ruleCell x B cap)
  | [], cs, h => by
    have : cs = [] := h
    subst this
    exact ⟨B, cap, [], by simp, hc, ht, rfl⟩
  | y :: l, cs, ⟨B', cap', rest, hcs, hc', ht', hr⟩ => ⟨B', cap', rest ++ ruleCell x B cap, by rw [hcs, List.append_assoc], hc', ht', hr.snoc hc ht⟩
theorem RulesAre.length {w : World} {P : Nat → Prop} : ∀ {l : List RuleS} {cs : List Value}, RulesAre w P l cs → cs.length = l.length * 9
  | [], cs, h => by have : cs = [] := h; subst this; rfl
  | y :: l, cs, ⟨B', cap', rest, hcs, hc', ht', hr⟩ => by
    have := hr.length
    rw [hcs, List.length_append, this]
    simp [ruleCell, ndCell]
    omega
theorem RulesAre.get {w : World} {P : Nat → Prop} : ∀ {l : List RuleS} {cs : List Value} {i : Nat} {x : RuleS}, RulesAre w P l cs → l[i]? = some x →
    ∃ B cap, x.body.kids.len ≤ cap ∧ TreesAt w P x.body.kids B ∧ ∀ j, j < 9 → cs[i * 9 + j]? = (ruleCell x B cap)[j]?
  | [], cs, i, x, _, hx => by simp at hx
  | y :: l, cs, 0, x, ⟨B, cap, rest, hcs, hc, ht, hr⟩, hx => by
    simp at hx
    subst hx
    refine ⟨B, cap, hc, ht, fun j hj => ?_⟩
    rw [hcs, Nat.zero_mul, Nat.zero_add, List.getElem?_append_left (by simpa [ruleCell, ndCell] using hj)]
  | y :: l, cs, i + 1, x, ⟨B, cap, rest, hcs, hc, ht, hr⟩, hx => by
    obtain ⟨B', cap', hc', ht', hg⟩ := RulesAre.get (i := i) hr (by simpa using hx)
    refine ⟨B', cap', hc', ht', fun j hj => ?_⟩
    have hl : (ruleCell y B cap).length = 9 := by simp [ruleCell, ndCell]
    rw [hcs, List.getElem?_append_right (by omega), hl, show (i + 1) * 9 + j - 9 = i * 9 + j by omega]
    exact hg j hj
/-- A row that a call owns is a row of rules. -/
theorem rules_of {w : World} {base : Nat} {v : Value} {P : Nat → Prop} {l : List RuleS} {cs : List Value} (h : w.ownsRow base 58 9 v l.length cs) (hc : RulesAre w P l cs) (hP : ∀ g, v.ownBlock = some g → P g) :
    ∃ A cap, v = .slice A l.length cap ∧ l.length ≤ cap ∧ RulesAt w P l A := by
  obtain ⟨h1, h2 | ⟨g, cap, cur, e1, e2, h3⟩⟩ := id h
  · obtain ⟨rfl, h0⟩ := h2
    have : l = [] := List.length_eq_zero_iff.1 h0
    subst this
    exact ⟨none, 0, rfl, Nat.le_refl _, RulesAt.nil⟩
  · subst e1
    refine ⟨_, cap, rfl, h3.2.1, fun i x hx => ?_⟩
    obtain ⟨B, cap', hc', ht', hg⟩ := hc.get hx
    have hcl := h.cells (g := g) rfl
    have hat : ∀ j u, j < 9 → (ruleCell x B cap')[j]? = some u → w.cell? ⟨g, 0 + i * 9 + j, none⟩ = some u := fun j u hj hu => by
      have := hcl (i * 9 + j) u ((hg j hj).trans hu)
      have e : (⟨g, 0, none⟩ : Addr).add (i * 9 + j) = ⟨g, 0 + i * 9 + j, none⟩ := by
        rcases Nat.eq_zero_or_pos (i * 9 + j) with hz | hz
        · rw [show 0 + i * 9 + j = 0 by omega, hz]; rfl
        · have h1 : ¬ (i * 9 = 0 ∧ j = 0) := by omega
          simp [Addr.add, h1]
      exact e ▸ this
    exact ⟨g, 0, B, cap', rfl, hP g rfl, hc', hat 0 _ (by decide) rfl, ⟨hat 1 _ (by decide) rfl, hat 2 _ (by decide) rfl, hat 3 _ (by decide) rfl, hat 4 _ (by decide) rfl, hat 5 _ (by decide) rfl, hat 6 _ (by decide) rfl, hat 7 _ (by decide) rfl, hat 8 _ (by decide) rfl⟩, ht'⟩

theorem u8_inj {a b : List Nat} (ha : ∀ c ∈ a, c < 256) (hb : ∀ c ∈ b, c < 256) (h : a.map UInt8.ofNat = b.map UInt8.ofNat) : a = b := by
  have e : ∀ l : List Nat, (∀ c ∈ l, c < 256) → (l.map UInt8.ofNat).map UInt8.toNat = l := by
    intro l hl
    rw [List.map_map]
    conv => rhs; rw [← List.map_id l]
    refine List.map_congr_left (fun c hc => ?_)
    have := hl c hc
    simp
    omega
  rw [← e a ha, ← e b hb, h]
theorem strOf_list (l : List Nat) : (strOf l).data.toList = l.map UInt8.ofNat := by simp [strOf]
/-- Block b is a map that knows the names of rules. -/
def NamesAt (w : World) (b : Nat) (rs : List RuleS) : Prop := (∀ r ∈ rs, ∀ c ∈ r.name, c < 256) ∧ ∃ D : DataW Unit, w.ownsMap Tryz.prog 9 (plainElem Tryz.prog 4) b rs.length D ∧ IsMap D ∧
  ∀ nm : List Nat, (∀ c ∈ nm, c < 256) → D.atKey (.string (nm.map UInt8.ofNat)) (.lit (.bool false)) = .lit (.bool (called rs nm))
theorem zero_bool (w : World) : (zeroValue 4).run Tryz.prog w = .ok (.bool false) w := by kernel_rfl
theorem NamesAt.look {w : World} {b : Nat} {rs : List RuleS} (h : NamesAt w b rs) {nm : List Nat} (hn : ∀ c ∈ nm, c < 256) (hl : nm.length ≤ 140737488355328) :
    (Instr.lookup 50 (.map (some b)) (.string (strOf nm)) false).run Tryz.prog w = .ok (.bool (called rs nm)) w := by
  obtain ⟨_, D, hown, _, hat⟩ := h
  obtain ⟨v, ps, hrun, hv⟩ := hown.lookup (string_keyed Tryz.underlying9) Tryz.underlying50 (zero_bool w) (plainElem_bool Tryz.underlying4 false) (WideMaps.keyOf_string_mk Tryz.underlying9 (show (strOf nm).size ≤ maxLen by rw [strOf_size]; exact Nat.le_trans hl (by decide)))
  rw [strOf_list, hat nm hn] at hv
  unfold plainElem at hv
  rw [Tryz.underlying4] at hv
  cases v <;> simp at hv
  rw [hrun, hv.1]
theorem NamesAt.kept {w w' : World} {b : Nat} {rs : List RuleS} {row : Option Nat} (h : NamesAt w b rs) (hg : w.grownBy w' row) (hne : some b ≠ row) : NamesAt w' b rs := by
  obtain ⟨h0, D, hown, h1, h2⟩ := h
  exact ⟨h0, D, hown.kept hg hne, h1, h2⟩
theorem NamesAt.lt {w : World} {b : Nat} {rs : List RuleS} (h : NamesAt w b rs) : b < w.heap.size := by
  obtain ⟨_, D, hown, _⟩ := h
  exact hown.lt
theorem NamesAt.block {w w' : World} {b : Nat} {rs : List RuleS} (h : NamesAt w b rs) (hb : w'.heap[b]? = w.heap[b]?) : NamesAt w' b rs := by
  obtain ⟨h0, D, ⟨es, clock, h1, h2⟩, h3⟩ := h
  exact ⟨h0, D, ⟨es, clock, hb.trans h1, h2⟩, h3⟩
theorem NamesAt.below {w w' : World} {b B : Nat} {rs : List RuleS} (h : NamesAt w b rs) (hb : Below B w w') (hl : b < B) : NamesAt w' b rs := h.block (hb.block b hl)
theorem NamesAt.new (w : World) : NamesAt (w.alloc (.map #[] 0)) w.heap.size [] :=
  ⟨fun r hr => (by cases hr), DataW.map [], World.ownsMap_made w _ _ _, isMap_empty, fun nm _ => rfl⟩
theorem NamesAt.put {w w' : World} {b : Nat} {rs : List RuleS} {D : DataW Unit} {nm : List Nat} {x : Nd} (h0 : ∀ r ∈ rs, ∀ c ∈ r.name, c < 256) (hm : IsMap D) (hat : ∀ nm : List Nat, (∀ c ∈ nm, c < 256) → D.atKey (.string (nm.map UInt8.ofNat)) (.lit (.bool false)) = .lit (.bool (called rs nm)))
    (hn : ∀ c ∈ nm, c < 256) (hown : w'.ownsMap Tryz.prog 9 (plainElem Tryz.prog 4) b (rs.length + 1) (D.put (.string (nm.map UInt8.ofNat)) (.lit (.bool true)))) : NamesAt w' b (rs ++ [⟨nm, x⟩]) := by
  refine ⟨fun r hr => ?_, _, by simpa using hown, hm.put _ _, fun n hn' => ?_⟩
  · rcases List.mem_append.1 hr with hr | hr
    · exact h0 r hr
    · rw [List.mem_singleton.1 hr]; exact hn
  · rw [called_app]
    by_cases e : n = nm
    · subst e
      rw [atKey_put_same hm (k := .string (n.map UInt8.ofNat)) trivial]
      simp [called]
    · rw [atKey_put_other (fun e' => e (u8_inj hn' hn (by simpa using e'))), hat n hn']
      have : called [⟨nm, x⟩] n = false := by simp [called]; exact fun h => e h.symm
      rw [this, Bool.or_false]
end Go.Proofs.YtajohcknenngnaaGreat
namespace Go.Proofs.YtajohcknenngnaaGreat
open Go.RowKit
set_option linter.unusedSimpArgs false
set_option linter.unusedVariables false
set_option maxRecDepth 100000

theorem isNameA_iff (c : Nat) : isNameA c = true ↔ c = 95 ∨ (97 ≤ c ∧ c ≤ 122) ∨ (65 ≤ c ∧ c ≤ 90) := by
  unfold isNameA
  simp
  omega
theorem nameOr : ∀ c : Fin 256, (97 ≤ bits BinOp.or IntKind.u8 (c.val : Int) 32 ∧ bits BinOp.or IntKind.u8 (c.val : Int) 32 ≤ 122) ↔ ((97 ≤ c.val ∧ c.val ≤ 122) ∨ (65 ≤ c.val ∧ c.val ≤ 90)) := by decide +kernel
theorem sletter_go (c : Nat) (w : World) (h1 : c < 256) :
    Calls Tryz.prog 82 #[.int .u8 (c : Int)] w fun e w' => e = .returned (.bool (isNameA c)) ∧ w = w' := by
  have HO := Lib.hid (nameOr ⟨c, h1⟩)
  go_enter Tryz.func82, Tryz.ntmps82
  go_wp2
  all_goals go_light
  all_goals go_ret
  all_goals refine ⟨ret_b ?_, rfl⟩
  all_goals
    have ho := HO.out
    generalize bits BinOp.or IntKind.u8 (c : Int) 32 = d at *
    rw [Bool.eq_iff_iff, isNameA_iff]
    simp
    omega
theorem may_go (c : Nat) (f : Bool) (w : World) (h1 : c < 256) :
    Calls Tryz.prog 37 #[.int .u8 (c : Int), .bool f] w fun e w' => e = .returned (.bool (if f = true then isNameA c else isNameB c)) ∧ w = w' := by
  go_enter Tryz.func37, Tryz.ntmps37
  go_wp2
  all_goals go_light
  all_goals go_ret
  all_goals refine ⟨ret_b ?_, rfl⟩
  all_goals (rw [Bool.eq_iff_iff]; cases f <;> simp [isNameB, isNameA, isDig] <;> omega)
/-- A row of bytes, with a byte of it. -/
theorem BytesAt.one {w : World} {B : Nat} {A : Option Addr} {bs : List Nat} (h : BytesAt w B A bs) {k : Nat} (hk : k < bs.length) : ∃ b o, A = some ⟨b, o, none⟩ ∧ w.cell? ⟨b, o + k, none⟩ = some (.int .u8 ((byteAt bs k : Nat) : Int)) ∧ byteAt bs k < 256 := by
  obtain ⟨b, o, hA, _, hc⟩ := h.2.2 (by omega)
  exact ⟨b, o, hA, hc k hk, byteAt_lt h.1 k⟩
set_option maxHeartbeats 1000000 in
theorem srun_go (A : Option Addr) (cap : Nat) (bs : List Nat) (B : Nat) (w : World) (hA : BytesAt w B A bs) :
    Calls Tryz.prog 61 #[.slice A bs.length cap] w fun e w' => e = .returned (.int .i64 ((runS bs : Nat) : Int)) ∧ w = w' := by
  have hlen := hA.2.1
  have HA := Lib.hid hA
  clear hA
  go_enter Tryz.func61, Tryz.ntmps61
  go_wp2
  go_loop [3] (fun i => ∃ k : Nat, k ≤ bs.length ∧ Hid (k ≤ runS bs) ∧ i = .int .i64 (k : Int)) (fun i => bs.length - (intOf i).toNat)
  case atStart => exact ⟨0, Nat.zero_le _, Lib.hid (Nat.zero_le _), rfl⟩
  case round =>
    obtain ⟨k, hk, HK, rfl⟩ := hrel
    by_cases hlt : k < bs.length
    · obtain ⟨b, o, rfl, hc, hb⟩ := HA.out.one hlt
      generalize hcc : byteAt bs k = c at *
      have HCC := Lib.hid hcc
      clear hcc
      cases ha : isNameA c
      · by_cases hk0 : k = 0
        · have HV := Lib.hid (runS_stop HK.out (.inr (show nameAt bs k = false by unfold nameAt; rw [if_pos hk0, ← hk0, HCC.out]; exact ha)))
          have Ha := Lib.hid ha
          have hd0 : ¬ (0 : Int) < (k : Int) := by omega
          clear ha hk0
          go_wp2_with ((with_reducible refine (sletter_go _ _ hb).mono ?_); rintro e w' ⟨rfl, rfl⟩; rw [Ha.out])
          go_ret
          exact ⟨ret_i (congrArg _ HV.out.symm), rfl⟩
        · have hd0 : (0 : Int) < (k : Int) := by omega
          by_cases h48 : 48 ≤ c ∧ c ≤ 57
          · have HV := Lib.hid (runS_more HK.out hlt (show nameAt bs k = true by unfold nameAt; rw [if_neg hk0, HCC.out]; simp [isNameB, isDig, h48]))
            have Ha := Lib.hid ha
            obtain ⟨h48, h57⟩ := h48
            clear ha hk0
            go_wp2_with ((with_reducible refine (sletter_go _ _ hb).mono ?_); rintro e w' ⟨rfl, rfl⟩; rw [Ha.out])
            go_round
            case rel => exact ⟨k + 1, by omega, HV, by go_num⟩
            case measure => simp [intOf]; omega
          · have HV := Lib.hid (runS_stop HK.out (.inr (show nameAt bs k = false by unfold nameAt; rw [if_neg hk0, HCC.out]; simp [isNameB, isDig, ha]; omega)))
            have Ha := Lib.hid ha
            have hd1 : c < 48 ∨ 57 < c := by omega
            clear ha hk0 h48
            rcases hd1 with h48 | h57
            all_goals
              go_wp2_with ((with_reducible refine (sletter_go _ _ hb).mono ?_); rintro e w' ⟨rfl, rfl⟩; rw [Ha.out])
              go_ret
              exact ⟨ret_i (congrArg _ HV.out.symm), rfl⟩
      · have hna : nameAt bs k = true := by
          unfold nameAt
          rw [HCC.out]
          split
          · rename_i h
            rw [← h, HCC.out]
            exact ha
          · simp [isNameB, ha]
        have HV := Lib.hid (runS_more HK.out hlt hna)
        clear hna
        have Ha := Lib.hid ha
        clear ha
        go_wp2_with ((with_reducible refine (sletter_go _ _ hb).mono ?_); rintro e w' ⟨rfl, rfl⟩; rw [Ha.out])
        go_round
        case rel => exact ⟨k + 1, by omega, HV, by go_num⟩
        case measure => simp [intOf]; omega
    · have HV := Lib.hid (runS_stop HK.out (.inl (by omega)))
      have hf : ¬ (k : Int) < (bs.length : Int) := by omega
      go_wp2_with fail
      go_ret
      exact ⟨ret_i (congrArg _ HV.out.symm), rfl⟩
end Go.Proofs.YtajohcknenngnaaGreat
namespace Go.Proofs.YtajohcknenngnaaGreat
open Go.RowKit
set_option linter.unusedSimpArgs false
set_option linter.unusedVariables false
set_option maxRecDepth 100000

/-- The two blocks that a call of Escape lays first: its result's and the reader. -/
def Laid2 (w : World) (A : Option Addr) (cap : Nat) (bs : List Nat) (i : Int) : World :=
  (w.alloc (.cells #[.int .i64 0, .int .i64 0] 26)).alloc (.cells #[.slice A bs.length cap, .int .i64 i, .int .i64 0, .int .i64 0, .int .i64 0] 167)
section
variable (w : World) (A : Option Addr) (cap : Nat) (bs : List Nat) (i : Int)
theorem Laid2.rd : Rd (Laid2 w A cap bs i) (w.heap.size + 1) A cap bs i 0 0 0 := Blk.new_at (by simp)
theorem Laid2.bad : Blk (Laid2 w A cap bs i) w.heap.size 26 #[.int .i64 0, .int .i64 0] := (Blk.new _ _ _).alloc _
theorem Laid2.below : Below w.heap.size w (Laid2 w A cap bs i) := ((Below.refl _ _).alloc (Nat.le_refl _) _).alloc (by simp) _
theorem Laid2.size : (Laid2 w A cap bs i).heap.size = w.heap.size + 1 + 1 := by simp [Laid2]
end

set_option maxHeartbeats 1000000 in
theorem esc_no (A : Option Addr) (cap : Nat) (bs : List Nat) (i : Int) (w : World) (hA : BytesAt w w.heap.size A bs) (h : hasAt bs i 92 = false) : Calls Tryz.prog 114 #[.slice A bs.length cap, .int .i64 i] w fun e w' => e = .returned (escVal bs i) ∧ Below w.heap.size w w' := by
  rw [escVal_no h]
  have HA := Lib.hid (hA.below (Laid2.below w A cap bs i))
  obtain ⟨b0, b1, x0, x1⟩ := (Laid2.bad w A cap bs i).c2
  have Hb := Lib.hid (Laid2.bad w A cap bs i)
  clear hA
  go_enter Tryz.func114, Tryz.ntmps114
  go_wp2_with fail
  refine (here_go (w.heap.size + 1) A cap bs _ _ _ _ 92 w.heap.size _ (Laid2.rd w A cap bs _) HA.out (by omega) (by omega)).mono ?_
  rintro e w1 ⟨rfl, n1, rfl⟩
  go_wp2
  go_light
  refine bodyPost_ret (ret_esc Tryz.results114 rfl rfl rfl (Hb.out.drewN n1).set2) rfl ⟨rfl, ?_⟩
  exact below_set2 (below_drewN (Laid2.below w A cap bs i) n1) (Nat.le_refl _) _ _

set_option maxHeartbeats 2000000 in
theorem esc_yes (A : Option Addr) (cap : Nat) (bs : List Nat) (i : Nat) (w : World) (hA : BytesAt w w.heap.size A bs) (h : hasAt bs (i : Int) 92 = true) (hi : i < bs.length) : Calls Tryz.prog 114 #[.slice A bs.length cap, .int .i64 (i : Int)] w fun e w' => e = .returned (escVal bs (i : Int)) ∧ Below w.heap.size w w' := by
  have HA := Lib.hid (hA.below (Laid2.below w A cap bs i))
  obtain ⟨b0, b1, x0, x1⟩ := (Laid2.bad w A cap bs i).c2
  have Hb := Lib.hid (Laid2.bad w A cap bs i)
  clear hA
  cases he : escS bs i with
  | none =>
    have HV := Lib.hid (escVal_none h he)
    have He := Lib.hid he
    clear he
    rw [HV.out]
    go_enter Tryz.func114, Tryz.ntmps114
    go_wp2_with fail
    refine (here_go (w.heap.size + 1) A cap bs _ _ _ _ 92 w.heap.size _ (Laid2.rd w A cap bs _) HA.out (by omega) (by omega)).mono ?_
    rintro e w1 ⟨rfl, n1, rfl⟩
    go_wp2_with (go_at_call 139; refine (escape_go (w.heap.size + 1) A cap bs i _ w.heap.size _ ((Laid2.rd w A cap bs _).drewN n1) (HA.out.drewN n1) (by omega) hi).mono ?_; rintro e w2 hp; unfold EscPost at hp; rw [He.out] at hp; obtain ⟨hg2, c', j', hc', rfl, hr2⟩ := hp; obtain ⟨c0, c1, c2, c3, c4, e1, e3, e4⟩ := hr2.cells; have hb2 := (Hb.out.drewN n1).grown hg2 (by simp); obtain ⟨r0, r1, r2, r3⟩ := hb2.c2; have Hb2 := Lib.hid hb2; have Hg2 := Lib.hid hg2; clear hb2 hg2 hr2)
    go_region
    all_goals go_wp2
    all_goals go_light
    refine bodyPost_ret (ret_esc Tryz.results114 rfl rfl rfl Hb2.out.set2.drew) rfl ⟨rfl, ?_⟩
    exact (below_set2 (below_only (below_drewN (Laid2.below w A cap bs i) n1) Hg2.out (by omega) (by simp [Laid2.size]; omega)) (Nat.le_refl _) _ _).drew
  | some x =>
    obtain ⟨c', j'⟩ := x
    have HV := Lib.hid (escVal_some h he)
    have He := Lib.hid he
    clear he
    rw [HV.out]
    go_enter Tryz.func114, Tryz.ntmps114
    go_wp2_with fail
    refine (here_go (w.heap.size + 1) A cap bs _ _ _ _ 92 w.heap.size _ (Laid2.rd w A cap bs _) HA.out (by omega) (by omega)).mono ?_
    rintro e w1 ⟨rfl, n1, rfl⟩
    go_wp2_with (go_at_call 139; refine (escape_go (w.heap.size + 1) A cap bs i _ w.heap.size _ ((Laid2.rd w A cap bs _).drewN n1) (HA.out.drewN n1) (by omega) hi).mono ?_; rintro e w2 hp; unfold EscPost at hp; rw [He.out] at hp; obtain ⟨hg2, rfl, hr2⟩ := hp; obtain ⟨c0, c1, c2, c3, c4, e1, e3, e4⟩ := hr2.cells; have hb2 := (Hb.out.drewN n1).grown hg2 (by simp); obtain ⟨r0, r1, r2, r3⟩ := hb2.c2; have Hb2 := Lib.hid hb2; have Hg2 := Lib.hid hg2; clear hb2 hg2 hr2)
    go_region
    all_goals go_wp2
    all_goals go_light
    refine bodyPost_ret (ret_esc Tryz.results114 rfl rfl rfl Hb2.out.set2.drew) rfl ⟨rfl, ?_⟩
    exact (below_set2 (below_only (below_drewN (Laid2.below w A cap bs i) n1) Hg2.out (by omega) (by simp [Laid2.size]; omega)) (Nat.le_refl _) _ _).drew

theorem esc_go (A : Option Addr) (cap : Nat) (bs : List Nat) (i : Int) (w : World) (hA : BytesAt w w.heap.size A bs) : Calls Tryz.prog 114 #[.slice A bs.length cap, .int .i64 i] w fun e w' => e = .returned (escVal bs i) ∧ Below w.heap.size w w' := by
  cases h : hasAt bs i 92 with
  | false => exact esc_no A cap bs i w hA h
  | true =>
    obtain ⟨i, rfl, hlt, _⟩ := hasAt_yes h
    exact esc_yes A cap bs i w hA h hlt

end Go.Proofs.YtajohcknenngnaaGreat
namespace Go.Proofs.YtajohcknenngnaaGreat
open Go.RowKit
set_option linter.unusedSimpArgs false
set_option linter.unusedVariables false
set_option maxRecDepth 100000

theorem special_is (c : Nat) (v : Bool) (w : World) (h1 : c < 256) (h : isSpecial c = v) :
    Calls Tryz.prog 161 #[.int .u8 (c : Int)] w fun e w' => e = .returned (.bool v) ∧ w = w' :=
  (special_go c w (by omega) (by omega)).mono fun _ _ q => by rw [Int.toNat_natCast, h] at q; exact q

/-- What the reader of a char leaves behind. -/
def CharPost (g : Nat) (A : Option Addr) (cap : Nat) (bs : List Nat) (i s : Nat) (w : World) (e : Ending) (w' : World) : Prop :=
  w.grownBy w' (some g) ∧
  match charS bs s i with
  | .ok (c, j) => e = .returned (.int .u8 (c : Int)) ∧ Rd w' g A cap bs (j : Int) (s : Int) 0 0
  | .error (k, p) => k ≠ 0 ∧ ∃ c j : Nat, c < 256 ∧ e = .returned (.int .u8 (c : Int)) ∧ Rd w' g A cap bs (j : Int) (s : Int) k p
theorem CharPost.yes {g : Nat} {A : Option Addr} {cap : Nat} {bs : List Nat} {i s : Nat} {w : World} {e : Ending} {w' : World} {c j : Nat} (hg : w.grownBy w' (some g)) (hs : charS bs s i = .ok (c, j))
    (he : e = .returned (.int .u8 (c : Int))) (hr : Rd w' g A cap bs (j : Int) (s : Int) 0 0) : CharPost g A cap bs i s w e w' := by
  unfold CharPost; rw [hs]; exact ⟨hg, he, hr⟩
theorem CharPost.no {g : Nat} {A : Option Addr} {cap : Nat} {bs : List Nat} {i s : Nat} {w : World} {e : Ending} {w' : World} {k p : Int} (c j : Nat) (hg : w.grownBy w' (some g)) (hs : charS bs s i = .error (k, p)) (hk : k ≠ 0)
    (hc : c < 256) (he : e = .returned (.int .u8 (c : Int))) (hr : Rd w' g A cap bs (j : Int) (s : Int) k p) : CharPost g A cap bs i s w e w' := by
  unfold CharPost; rw [hs]; exact ⟨hg, hk, c, j, hc, he, hr⟩

set_option maxHeartbeats 2000000 in
theorem char_end (g : Nat) (A : Option Addr) (cap : Nat) (bs : List Nat) (i s : Nat) (B : Nat) (w : World) (hr : Rd w g A cap bs (i : Int) (s : Int) 0 0) (hA : BytesAt w B A bs) (hB : B ≤ g) (h : bs.length = i) : Calls Tryz.prog 158 #[.pointer (some ⟨g, 0, none⟩)] w (CharPost g A cap bs i s w) := by
  obtain ⟨c0, c1, c2, c3, c4, f1, f3, f4⟩ := hr.cells
  have Hr := Lib.hid hr
  have HA := Lib.hid hA
  have Hl := Lib.hid hA.2.1
  have hl := hA.2.1
  have Hh := Lib.hid h
  have hz : ((bs.length : Int) - (i : Int) == 0) = true := by simp; omega
  have hi : i ≤ bs.length := by omega
  clear hr hA h
  go_enter Tryz.func158, Tryz.ntmps158
  go_wp2_with fail
  with_reducible refine (left_go g A cap bs _ _ 0 0 _ Hr.out Hl.out (by omega) (by omega)).mono ?_
  rintro e w1 ⟨rfl, n1, rfl⟩
  go_wp2_with (go_at_call 155; refine (fail0_go g A cap bs _ _ 0 _ _ _ (Hr.out.drewN n1)).mono ?_; rintro e w2 ⟨rfl, hr2, hg2⟩)
  go_light
  go_ret
  exact CharPost.no 0 i (only_trans (only_drewN (only_refl _ _) _) hg2) (charS_end (by have := Hh.out; omega)) (by decide) (by decide) rfl hr2

set_option maxHeartbeats 2000000 in
theorem char_esc (g : Nat) (A : Option Addr) (cap : Nat) (bs : List Nat) (i s : Nat) (B : Nat) (w : World) (hr : Rd w g A cap bs (i : Int) (s : Int) 0 0) (hA : BytesAt w B A bs) (hB : B ≤ g) (h : i < bs.length) (hc : byteAt bs i = 92) : Calls Tryz.prog 158 #[.pointer (some ⟨g, 0, none⟩)] w (CharPost g A cap bs i s w) := by
  obtain ⟨c0, c1, c2, c3, c4, f1, f3, f4⟩ := hr.cells
  have Hr := Lib.hid hr
  have HA := Lib.hid hA
  have Hl := Lib.hid hA.2.1
  have hl := hA.2.1
  have hz : ((bs.length : Int) - (i : Int) == 0) = false := by simp; omega
  have hp0 : (0 : Int) ≤ (i : Int) := by omega
  have hp1 : (i : Int) < (bs.length : Int) := by omega
  have hbt := byteAt_lt hA.1 i
  have hat := hasAt_in (bs := bs) 92 h
  obtain ⟨b, o, rfl, hbB, hcell⟩ := hA.2.2 (by omega)
  have hx := hcell i (by omega)
  have hbg : b ≠ g := by omega
  obtain ⟨c, hk⟩ : ∃ c, byteAt bs i = c := ⟨_, rfl⟩
  rw [hk] at hx hbt hat
  have Hk := Lib.hid hk
  have hb : hasAt bs (i : Int) 92 = true := by rw [hat]; simp; omega
  have Hc := Lib.hid hc
  clear hr hA hcell hk hat hc
  cases he : escS bs i with
  | none =>
    have He := Lib.hid he
    clear he
    go_enter Tryz.func158, Tryz.ntmps158
    go_wp2_with fail
    with_reducible refine (left_go g (some ⟨b, o, none⟩) cap bs _ _ 0 0 _ Hr.out Hl.out (by omega) (by omega)).mono ?_
    rintro e w1 ⟨rfl, n1, rfl⟩
    go_wp2_with fail
    with_reducible refine (here_go g (some ⟨b, o, none⟩) cap bs (i : Int) _ _ _ _ B _ (Hr.out.drewN n1) (HA.out.drewN n1) (by omega) (by omega)).mono ?_
    rintro e w2 ⟨rfl, n2, rfl⟩
    go_wp2_with (go_at_call 139; refine (escape_go g (some ⟨b, o, none⟩) cap bs i _ B _ (Hr.out.drewN (n1 + n2)) (HA.out.drewN (n1 + n2)) hB h).mono ?_; rintro e w3 hp; unfold EscPost at hp; rw [He.out] at hp; obtain ⟨hg3, c', j', hc', rfl, hr3⟩ := hp)
    go_light
    go_ret
    exact CharPost.no c' j' (only_trans (only_drewN (only_refl _ _) _) hg3) (charS_bad h Hc.out He.out) (by decide) hc' rfl hr3
  | some x =>
    obtain ⟨c', j'⟩ := x
    have He := Lib.hid he
    clear he
    go_enter Tryz.func158, Tryz.ntmps158
    go_wp2_with fail
    with_reducible refine (left_go g (some ⟨b, o, none⟩) cap bs _ _ 0 0 _ Hr.out Hl.out (by omega) (by omega)).mono ?_
    rintro e w1 ⟨rfl, n1, rfl⟩
    go_wp2_with fail
    with_reducible refine (here_go g (some ⟨b, o, none⟩) cap bs (i : Int) _ _ _ _ B _ (Hr.out.drewN n1) (HA.out.drewN n1) (by omega) (by omega)).mono ?_
    rintro e w2 ⟨rfl, n2, rfl⟩
    go_wp2_with (go_at_call 139; refine (escape_go g (some ⟨b, o, none⟩) cap bs i _ B _ (Hr.out.drewN (n1 + n2)) (HA.out.drewN (n1 + n2)) hB h).mono ?_; rintro e w3 hp; unfold EscPost at hp; rw [He.out] at hp; obtain ⟨hg3, rfl, hr3⟩ := hp)
    go_light
    go_ret
    exact CharPost.yes (only_trans (only_drewN (only_refl _ _) _) hg3) (charS_esc h Hc.out He.out) rfl hr3

set_option maxHeartbeats 2000000 in
theorem char_special (g : Nat) (A : Option Addr) (cap : Nat) (bs : List Nat) (i s : Nat) (B : Nat) (w : World) (hr : Rd w g A cap bs (i : Int) (s : Int) 0 0) (hA : BytesAt w B A bs) (hB : B ≤ g) (h : i < bs.length) (hc : byteAt bs i ≠ 92) (hs : isSpecial (byteAt bs i) = true) : Calls Tryz.prog 158 #[.pointer (some ⟨g, 0, none⟩)] w (CharPost g A cap bs i s w) := by
  obtain ⟨c0, c1, c2, c3, c4, f1, f3, f4⟩ := hr.cells
  have Hr := Lib.hid hr
  have HA := Lib.hid hA
  have Hl := Lib.hid hA.2.1
  have hl := hA.2.1
  have hz : ((bs.length : Int) - (i : Int) == 0) = false := by simp; omega
  have hp0 : (0 : Int) ≤ (i : Int) := by omega
  have hp1 : (i : Int) < (bs.length : Int) := by omega
  have hbt := byteAt_lt hA.1 i
  have hat := hasAt_in (bs := bs) 92 h
  obtain ⟨b, o, rfl, hbB, hcell⟩ := hA.2.2 (by omega)
  have hx := hcell i (by omega)
  have hbg : b ≠ g := by omega
  obtain ⟨c, hk⟩ : ∃ c, byteAt bs i = c := ⟨_, rfl⟩
  rw [hk] at hx hbt hat
  have Hk := Lib.hid hk
  rw [hk] at hs
  have hb : hasAt bs (i : Int) 92 = false := by rw [hat]; simp; omega
  have Hc := Lib.hid hc
  clear hr hA hcell hk hat hc
  go_enter Tryz.func158, Tryz.ntmps158
  go_wp2_with fail
  with_reducible refine (left_go g (some ⟨b, o, none⟩) cap bs _ _ 0 0 _ Hr.out Hl.out (by omega) (by omega)).mono ?_
  rintro e w1 ⟨rfl, n1, rfl⟩
  go_wp2_with fail
  with_reducible refine (here_go g (some ⟨b, o, none⟩) cap bs (i : Int) _ _ _ _ B _ (Hr.out.drewN n1) (HA.out.drewN n1) (by omega) (by omega)).mono ?_
  rintro e w2 ⟨rfl, n2, rfl⟩
  go_wp2
  go_quiet ((go_at_call 161; exact quiet_add_left (special_is c true _ hbt hs)))
  go_wp2_with (go_at_call 155; refine (fail0_go g (some ⟨b, o, none⟩) cap bs _ _ 0 _ _ _ (Hr.out.drewN _)).mono ?_; rintro e w2 ⟨rfl, hr2, hg2⟩)
  go_light
  go_ret
  exact CharPost.no 0 i (only_trans (only_drewN (only_refl _ _) _) hg2) (charS_special h Hc.out (by rw [Hk.out]; exact hs)) (by decide) (by decide) rfl hr2

set_option maxHeartbeats 2000000 in
theorem char_self (g : Nat) (A : Option Addr) (cap : Nat) (bs : List Nat) (i s : Nat) (B : Nat) (w : World) (hr : Rd w g A cap bs (i : Int) (s : Int) 0 0) (hA : BytesAt w B A bs) (hB : B ≤ g) (h : i < bs.length) (hc : byteAt bs i ≠ 92) (hs : isSpecial (byteAt bs i) = false) : Calls Tryz.prog 158 #[.pointer (some ⟨g, 0, none⟩)] w (CharPost g A cap bs i s w) := by
  obtain ⟨c0, c1, c2, c3, c4, f1, f3, f4⟩ := hr.cells
  have Hr := Lib.hid hr
  have HA := Lib.hid hA
  have Hl := Lib.hid hA.2.1
  have hl := hA.2.1
  have hz : ((bs.length : Int) - (i : Int) == 0) = false := by simp; omega
  have hp0 : (0 : Int) ≤ (i : Int) := by omega
  have hp1 : (i : Int) < (bs.length : Int) := by omega
  have hbt := byteAt_lt hA.1 i
  have hat := hasAt_in (bs := bs) 92 h
  obtain ⟨b, o, rfl, hbB, hcell⟩ := hA.2.2 (by omega)
  have hx := hcell i (by omega)
  have hbg : b ≠ g := by omega
  obtain ⟨c, hk⟩ : ∃ c, byteAt bs i = c := ⟨_, rfl⟩
  rw [hk] at hx hbt hat
  have Hk := Lib.hid hk
  rw [hk] at hs
  have hb : hasAt bs (i : Int) 92 = false := by rw [hat]; simp; omega
  have Hc := Lib.hid hc
  clear hr hA hcell hk hat hc
  go_enter Tryz.func158, Tryz.ntmps158
  go_wp2_with fail
  with_reducible refine (left_go g (some ⟨b, o, none⟩) cap bs _ _ 0 0 _ Hr.out Hl.out (by omega) (by omega)).mono ?_
  rintro e w1 ⟨rfl, n1, rfl⟩
  go_wp2_with fail
  with_reducible refine (here_go g (some ⟨b, o, none⟩) cap bs (i : Int) _ _ _ _ B _ (Hr.out.drewN n1) (HA.out.drewN n1) (by omega) (by omega)).mono ?_
  rintro e w2 ⟨rfl, n2, rfl⟩
  go_wp2
  go_quiet ((go_at_call 161; exact quiet_add_left (special_is c false _ hbt hs)))
  go_wp2_with fail
  go_quiet (fail)
  go_wp2
  go_light
  go_ret
  exact CharPost.yes (only_drewN (only_set (only_drewN (only_refl _ _) _) _ _) _) (charS_self h Hc.out (by rw [Hk.out]; exact hs)) (by rw [Hk.out]; rfl) ((Hr.out.drewN _).move _)

theorem char_go (g : Nat) (A : Option Addr) (cap : Nat) (bs : List Nat) (i s : Nat) (B : Nat) (w : World) (hr : Rd w g A cap bs (i : Int) (s : Int) 0 0) (hA : BytesAt w B A bs) (hB : B ≤ g) (hi : i ≤ bs.length) : Calls Tryz.prog 158 #[.pointer (some ⟨g, 0, none⟩)] w (CharPost g A cap bs i s w) := by
  by_cases h0 : bs.length = i
  · exact char_end g A cap bs i s B w hr hA hB h0
  by_cases h1 : byteAt bs i = 92
  · exact char_esc g A cap bs i s B w hr hA hB (by omega) h1
  cases h2 : isSpecial (byteAt bs i)
  · exact char_self g A cap bs i s B w hr hA hB (by omega) h1 h2
  · exact char_special g A cap bs i s B w hr hA hB (by omega) h1 h2

end Go.Proofs.YtajohcknenngnaaGreat
namespace Go.Proofs.YtajohcknenngnaaGreat
open Go.RowKit
set_option linter.unusedSimpArgs false
set_option linter.unusedVariables false
set_option maxRecDepth 100000

theorem Rd.alloc {w : World} {g : Nat} {A : Option Addr} {cap : Nat} {bs : List Nat} {i start kind place : Int} (h : Rd w g A cap bs i start kind place) (o : Obj) : Rd (w.alloc o) g A cap bs i start kind place := Blk.alloc h o
theorem Rd.below {w w' : World} {B g : Nat} {A : Option Addr} {cap : Nat} {bs : List Nat} {i start kind place : Int} (h : Rd w g A cap bs i start kind place) (hb : Below B w w') (hg : g < B) : Rd w' g A cap bs i start kind place := Blk.below h hb hg
theorem Rd.set4 {w : World} {g g' : Nat} {A : Option Addr} {cap : Nat} {bs : List Nat} {i start kind place : Int} (h : Rd w g A cap bs i start kind place) (hg : g ≠ g') (a b c d : Value) :
    Rd ((((w.setCell ⟨g', 0, none⟩ a).setCell ⟨g', 1, none⟩ b).setCell ⟨g', 2, none⟩ c).setCell ⟨g', 3, none⟩ d) g A cap bs i start kind place :=
  Blk.far (Blk.far (Blk.far (Blk.far h (by dsimp only; omega) _) (by dsimp only; omega) _) (by dsimp only; omega) _) (by dsimp only; omega) _
theorem only_set4 {a w : World} {g g' : Nat} (h : a.grownBy w (some g)) (hg : a.heap.size ≤ g') (x y z u : Value) :
    a.grownBy ((((w.setCell ⟨g', 0, none⟩ x).setCell ⟨g', 1, none⟩ y).setCell ⟨g', 2, none⟩ z).setCell ⟨g', 3, none⟩ u) (some g) :=
  only_set' (only_set' (only_set' (only_set' h hg _ _) hg _ _) hg _ _) hg _ _
theorem only_from {a b c : World} {g : Nat} (h : a.grownBy b (some g)) (k : b.grownBy c (some g)) : a.grownBy c (some g) := only_trans h k

/-- What the reader of an item leaves behind. -/
def ItemPost (g : Nat) (A : Option Addr) (cap : Nat) (bs : List Nat) (i s : Nat) (w : World) (e : Ending) (w' : World) : Prop :=
  w.grownBy w' (some g) ∧
  match itemS bs s i with
  | .ok (lo, hi, j) => e = .returned (.agg #[.int .u64 ((word (between lo hi) 0 : Nat) : Int), .int .u64 ((word (between lo hi) 1 : Nat) : Int), .int .u64 ((word (between lo hi) 2 : Nat) : Int), .int .u64 ((word (between lo hi) 3 : Nat) : Int)]) ∧ Rd w' g A cap bs (j : Int) (s : Int) 0 0
  | .error (k, p) => k ≠ 0 ∧ ∃ (q : Nat → Bool) (j : Nat), e = .returned (.agg #[.int .u64 ((word (q) 0 : Nat) : Int), .int .u64 ((word (q) 1 : Nat) : Int), .int .u64 ((word (q) 2 : Nat) : Int), .int .u64 ((word (q) 3 : Nat) : Int)]) ∧ Rd w' g A cap bs (j : Int) (s : Int) k p
theorem ItemPost.yes {g : Nat} {A : Option Addr} {cap : Nat} {bs : List Nat} {i s : Nat} {w : World} {e : Ending} {w' : World} {lo hi j : Nat} (hg : w.grownBy w' (some g)) (hs : itemS bs s i = .ok (lo, hi, j))
    (he : e = .returned (.agg #[.int .u64 ((word (between lo hi) 0 : Nat) : Int), .int .u64 ((word (between lo hi) 1 : Nat) : Int), .int .u64 ((word (between lo hi) 2 : Nat) : Int), .int .u64 ((word (between lo hi) 3 : Nat) : Int)])) (hr : Rd w' g A cap bs (j : Int) (s : Int) 0 0) : ItemPost g A cap bs i s w e w' := by
  unfold ItemPost; rw [hs]; exact ⟨hg, he, hr⟩
theorem ItemPost.no {g : Nat} {A : Option Addr} {cap : Nat} {bs : List Nat} {i s : Nat} {w : World} {e : Ending} {w' : World} {k p : Int} (q : Nat → Bool) (j : Nat) (hg : w.grownBy w' (some g)) (hs : itemS bs s i = .error (k, p)) (hk : k ≠ 0)
    (he : e = .returned (.agg #[.int .u64 ((word (q) 0 : Nat) : Int), .int .u64 ((word (q) 1 : Nat) : Int), .int .u64 ((word (q) 2 : Nat) : Int), .int .u64 ((word (q) 3 : Nat) : Int)])) (hr : Rd w' g A cap bs (j : Int) (s : Int) k p) : ItemPost g A cap bs i s w e w' := by
  unfold ItemPost; rw [hs]; exact ⟨hg, hk, q, j, he, hr⟩

set_option maxHeartbeats 2000000 in
theorem item_bad1 (g : Nat) (A : Option Addr) (cap : Nat) (bs : List Nat) (i s : Nat) (B : Nat) (w : World) (hr : Rd w g A cap bs (i : Int) (s : Int) 0 0) (hA : BytesAt w B A bs) (hB : B ≤ g) (hi : i ≤ bs.length) (k p : Int) (he : charS bs s i = .error (k, p)) : Calls Tryz.prog 141 #[.pointer (some ⟨g, 0, none⟩)] w (ItemPost g A cap bs i s w) := by
  have hlt := hr.lt
  have hne : w.heap.size ≠ g := by omega
  obtain ⟨c0, c1, c2, c3, c4, f1, f3, f4⟩ := hr.cells
  have Hr := Lib.hid (hr.alloc (.cells #[.int .u64 0, .int .u64 0, .int .u64 0, .int .u64 0] 37))
  have HA : Hid (BytesAt (w.alloc (.cells #[.int .u64 0, .int .u64 0, .int .u64 0, .int .u64 0] 37)) B A bs) := hA.below ((Below.refl B w).alloc (by omega) _)
  have Hz : Hid (Blk (w.alloc (.cells #[.int .u64 0, .int .u64 0, .int .u64 0, .int .u64 0] 37)) w.heap.size 37 #[.int .u64 0, .int .u64 0, .int .u64 0, .int .u64 0]) := Blk.new _ _ _
  have Hg0 : Hid (w.grownBy (w.alloc (.cells #[.int .u64 0, .int .u64 0, .int .u64 0, .int .u64 0] 37)) (some g)) := only_alloc (only_refl _ _) _
  have Hl := Lib.hid hA.2.1
  have hl := hA.2.1
  clear hr hA
  have He := Lib.hid he
  have Hi : Hid (itemS bs s i = .error (k, p)) := by show itemS bs s i = _; unfold itemS; rw [he]
  clear he
  go_enter Tryz.func141, Tryz.ntmps141
  go_wp2_with fail
  with_reducible refine (char_go g A cap bs i s B _ Hr.out HA.out hB hi).mono ?_
  rintro e w1 hp
  unfold CharPost at hp
  rw [He.out] at hp
  obtain ⟨hg1, hk, c, j, hc, rfl, hr1⟩ := hp
  have hkb : (k == 0) = false := by simpa using hk
  obtain ⟨d0, d1, d2, d3, d4, e1, e3, e4⟩ := hr1.cells
  have Hr1 := Lib.hid hr1
  have Hg1 := Lib.hid hg1
  have hlt1 := hr1.lt
  have hsz : w.heap.size < w1.heap.size := by have := hg1.size; simp at this; omega
  clear hr1 hg1
  go_wp2_with (go_at_call 159; refine (span_any _ _ _ (by omega) (by omega)).mono ?_; rintro e w2 ⟨rfl, hb2⟩; obtain ⟨z0, z1, z2, z3, y0, y1, y2, y3⟩ := ((Hz.out.grown Hg1.out (by simpa using hne)).below hb2 hsz).c4)
  go_light
  refine bodyPost_ret (ret_set Tryz.results141 rfl ((Hz.out.grown Hg1.out (by simpa using hne)).below hb2 hsz).set4) rfl ?_
  exact ItemPost.no _ j (only_set4 (only_below (only_trans Hg0.out Hg1.out) hb2) (Nat.le_refl _) _ _ _ _) Hi.out hk rfl ((Hr1.out.below hb2 hlt1).set4 (by omega) _ _ _ _)

set_option maxHeartbeats 2000000 in
theorem item_one (g : Nat) (A : Option Addr) (cap : Nat) (bs : List Nat) (i s : Nat) (B : Nat) (w : World) (hr : Rd w g A cap bs (i : Int) (s : Int) 0 0) (hA : BytesAt w B A bs) (hB : B ≤ g) (hi : i ≤ bs.length) (lo j : Nat) (he : charS bs s i = .ok (lo, j)) (hlo : lo < 256) (hh : hasAt bs (j : Int) 45 = false) : Calls Tryz.prog 141 #[.pointer (some ⟨g, 0, none⟩)] w (ItemPost g A cap bs i s w) := by
  have hlt := hr.lt
  have hne : w.heap.size ≠ g := by omega
  obtain ⟨c0, c1, c2, c3, c4, f1, f3, f4⟩ := hr.cells
  have Hr := Lib.hid (hr.alloc (.cells #[.int .u64 0, .int .u64 0, .int .u64 0, .int .u64 0] 37))
  have HA : Hid (BytesAt (w.alloc (.cells #[.int .u64 0, .int .u64 0, .int .u64 0, .int .u64 0] 37)) B A bs) := hA.below ((Below.refl B w).alloc (by omega) _)
  have Hz : Hid (Blk (w.alloc (.cells #[.int .u64 0, .int .u64 0, .int .u64 0, .int .u64 0] 37)) w.heap.size 37 #[.int .u64 0, .int .u64 0, .int .u64 0, .int .u64 0]) := Blk.new _ _ _
  have Hg0 : Hid (w.grownBy (w.alloc (.cells #[.int .u64 0, .int .u64 0, .int .u64 0, .int .u64 0] 37)) (some g)) := only_alloc (only_refl _ _) _
  have Hl := Lib.hid hA.2.1
  have hl := hA.2.1
  clear hr hA
  have He := Lib.hid he
  have Hh := Lib.hid hh
  have Hi : Hid (itemS bs s i = .ok (lo, lo, j)) := by show itemS bs s i = _; unfold itemS; rw [he]; dsimp only; rw [hh]; rfl
  clear he hh
  go_enter Tryz.func141, Tryz.ntmps141
  go_wp2_with fail
  with_reducible refine (char_go g A cap bs i s B _ Hr.out HA.out hB hi).mono ?_
  rintro e w1 hp
  unfold CharPost at hp
  rw [He.out] at hp
  obtain ⟨hg1, rfl, hr1⟩ := hp
  obtain ⟨d0, d1, d2, d3, d4, e1, e3, e4⟩ := hr1.cells
  have Hr1 := Lib.hid hr1
  have Hg1 := Lib.hid hg1
  have HA1 := Lib.hid (HA.out.only hg1 hB Hr.out.lt)
  have Hz1 : Hid (Blk w1 w.heap.size 37 #[.int .u64 0, .int .u64 0, .int .u64 0, .int .u64 0]) := Hz.out.grown hg1 (by simpa using hne)
  have hlt1 := hr1.lt
  have hsz : w.heap.size < w1.heap.size := by have := hg1.size; simp at this; omega
  clear hr1 hg1
  go_wp2_with (first
    | (go_at_call 140; refine (take_no g A cap bs _ _ _ _ 45 B _ Hr1.out HA1.out (by omega) (by omega) Hh.out).mono ?_; rintro e w2 ⟨rfl, hr2, hg2⟩; have hlt2 := hr2.lt; have Hr2 := Lib.hid hr2; have Hg2 := Lib.hid hg2; clear hr2 hg2; have hsz2 : w.heap.size < w2.heap.size := Nat.lt_of_lt_of_le hsz Hg2.out.size; have Hz2 := Lib.hid (Hz1.out.grown Hg2.out (by simpa using hne)))
    | (go_at_call 159; refine (span_any _ _ _ (by omega) (by omega)).mono ?_; rintro e w3 ⟨rfl, hb3⟩; obtain ⟨z0, z1, z2, z3, y0, y1, y2, y3⟩ := (Hz2.out.below hb3 hsz2).c4))
  go_light
  refine bodyPost_ret (ret_set Tryz.results141 rfl (Hz2.out.below hb3 hsz2).set4) rfl ?_
  exact ItemPost.yes (only_set4 (only_below (only_trans (only_trans Hg0.out Hg1.out) Hg2.out) hb3) (Nat.le_refl _) _ _ _ _) Hi.out rfl ((Hr2.out.below hb3 hlt2).set4 (by omega) _ _ _ _)

set_option maxHeartbeats 2000000 in
theorem item_bad2 (g : Nat) (A : Option Addr) (cap : Nat) (bs : List Nat) (i s : Nat) (B : Nat) (w : World) (hr : Rd w g A cap bs (i : Int) (s : Int) 0 0) (hA : BytesAt w B A bs) (hB : B ≤ g) (hi : i ≤ bs.length) (lo j : Nat) (he : charS bs s i = .ok (lo, j)) (hlo : lo < 256) (hh : hasAt bs (j : Int) 45 = true) (hj : j < bs.length) (k p : Int) (hf : charS bs s (j + 1) = .error (k, p)) : Calls Tryz.prog 141 #[.pointer (some ⟨g, 0, none⟩)] w (ItemPost g A cap bs i s w) := by
  have hlt := hr.lt
  have hne : w.heap.size ≠ g := by omega
  obtain ⟨c0, c1, c2, c3, c4, f1, f3, f4⟩ := hr.cells
  have Hr := Lib.hid (hr.alloc (.cells #[.int .u64 0, .int .u64 0, .int .u64 0, .int .u64 0] 37))
  have HA : Hid (BytesAt (w.alloc (.cells #[.int .u64 0, .int .u64 0, .int .u64 0, .int .u64 0] 37)) B A bs) := hA.below ((Below.refl B w).alloc (by omega) _)
  have Hz : Hid (Blk (w.alloc (.cells #[.int .u64 0, .int .u64 0, .int .u64 0, .int .u64 0] 37)) w.heap.size 37 #[.int .u64 0, .int .u64 0, .int .u64 0, .int .u64 0]) := Blk.new _ _ _
  have Hg0 : Hid (w.grownBy (w.alloc (.cells #[.int .u64 0, .int .u64 0, .int .u64 0, .int .u64 0] 37)) (some g)) := only_alloc (only_refl _ _) _
  have Hl := Lib.hid hA.2.1
  have hl := hA.2.1
  clear hr hA
  have He := Lib.hid he
  have Hh := Lib.hid hh
  have Hf := Lib.hid hf
  have Hi : Hid (itemS bs s i = .error (k, p)) := by show itemS bs s i = _; unfold itemS; rw [he]; dsimp only; rw [hh, hf]; rfl
  clear he hh hf
  go_enter Tryz.func141, Tryz.ntmps141
  go_wp2_with fail
  with_reducible refine (char_go g A cap bs i s B _ Hr.out HA.out hB hi).mono ?_
  rintro e w1 hp
  unfold CharPost at hp
  rw [He.out] at hp
  obtain ⟨hg1, rfl, hr1⟩ := hp
  obtain ⟨d0, d1, d2, d3, d4, e1, e3, e4⟩ := hr1.cells
  have Hr1 := Lib.hid hr1
  have Hg1 := Lib.hid hg1
  have HA1 := Lib.hid (HA.out.only hg1 hB Hr.out.lt)
  have Hz1 : Hid (Blk w1 w.heap.size 37 #[.int .u64 0, .int .u64 0, .int .u64 0, .int .u64 0]) := Hz.out.grown hg1 (by simpa using hne)
  have hlt1 := hr1.lt
  have hsz : w.heap.size < w1.heap.size := by have := hg1.size; simp at this; omega
  clear hr1 hg1
  go_wp2_with fail
  refine (take_yes g A cap bs _ _ _ _ 45 B _ Hr1.out HA1.out (by omega) (by omega) Hh.out).mono ?_
  rintro e w2 ⟨rfl, hr2, hg2⟩
  have Hg2 := Lib.hid hg2
  have HA2 := Lib.hid (HA1.out.only hg2 hB hlt1)
  have hlt2 := hr2.lt
  have Hr2 : Hid (Rd w2 g A cap bs ((j + 1 : Nat) : Int) (s : Int) 0 0) := by show Rd _ _ _ _ _ _ _ _ _; rw [show ((j + 1 : Nat) : Int) = (j : Int) + 1 by omega]; exact hr2
  have Hz2 := Lib.hid (Hz1.out.grown hg2 (by simpa using hne))
  clear hr2 hg2
  go_wp2_with fail
  with_reducible refine (char_go g A cap bs (j + 1) s B _ Hr2.out HA2.out hB (by omega)).mono ?_
  rintro e w3 hp
  unfold CharPost at hp
  rw [Hf.out] at hp
  obtain ⟨hg3, hk, c, j', hc, rfl, hr3⟩ := hp
  have hkn : k ≠ 0 := hk
  have Hg3 := Lib.hid hg3
  have Hr3 := Lib.hid hr3
  have hlt3 := hr3.lt
  have Hz3 := Lib.hid (Hz2.out.grown hg3 (by simpa using hne))
  have hsz3 := Hz3.out.lt
  clear hr3 hg3
  by_cases hcl : c < lo
  · go_wp2_with (first
      | (go_at_call 155; refine (fail1_go g A cap bs _ _ _ _ _ _ _ Hr3.out hkn).mono ?_; rintro e w4 ⟨rfl, hr4, hg4⟩; have Hr4 := Lib.hid hr4; have Hg4 := Lib.hid hg4; have hlt4 := hr4.lt; have Hz4 := Lib.hid (Hz3.out.grown hg4 (by simpa using hne)); have hsz4 := Hz4.out.lt; clear hr4 hg4)
      | (go_at_call 159; refine (span_any _ _ _ (by omega) (by omega)).mono ?_; rintro e w5 ⟨rfl, hb5⟩; obtain ⟨z0, z1, z2, z3, y0, y1, y2, y3⟩ := (Hz4.out.below hb5 hsz4).c4))
    go_light
    refine bodyPost_ret (ret_set Tryz.results141 rfl (Hz4.out.below hb5 hsz4).set4) rfl ?_
    exact ItemPost.no _ j' (only_set4 (only_below (only_trans (only_trans (only_trans (only_trans Hg0.out Hg1.out) Hg2.out) Hg3.out) Hg4.out) hb5) (Nat.le_refl _) _ _ _ _) Hi.out hkn rfl ((Hr4.out.below hb5 hlt4).set4 (by omega) _ _ _ _)
  · go_wp2_with (go_at_call 159; refine (span_any _ _ _ (by omega) (by omega)).mono ?_; rintro e w5 ⟨rfl, hb5⟩; obtain ⟨z0, z1, z2, z3, y0, y1, y2, y3⟩ := (Hz3.out.below hb5 hsz3).c4)
    go_light
    refine bodyPost_ret (ret_set Tryz.results141 rfl (Hz3.out.below hb5 hsz3).set4) rfl ?_
    exact ItemPost.no _ j' (only_set4 (only_below (only_trans (only_trans (only_trans Hg0.out Hg1.out) Hg2.out) Hg3.out) hb5) (Nat.le_refl _) _ _ _ _) Hi.out hkn rfl ((Hr3.out.below hb5 hlt3).set4 (by omega) _ _ _ _)

set_option maxHeartbeats 2000000 in
theorem item_two (g : Nat) (A : Option Addr) (cap : Nat) (bs : List Nat) (i s : Nat) (B : Nat) (w : World) (hr : Rd w g A cap bs (i : Int) (s : Int) 0 0) (hA : BytesAt w B A bs) (hB : B ≤ g) (hi : i ≤ bs.length) (lo j : Nat) (he : charS bs s i = .ok (lo, j)) (hlo : lo < 256) (hh : hasAt bs (j : Int) 45 = true) (hj : j < bs.length) (hi' j' : Nat) (hf : charS bs s (j + 1) = .ok (hi', j')) (hhi : hi' < 256) : Calls Tryz.prog 141 #[.pointer (some ⟨g, 0, none⟩)] w (ItemPost g A cap bs i s w) := by
  have hlt := hr.lt
  have hne : w.heap.size ≠ g := by omega
  obtain ⟨c0, c1, c2, c3, c4, f1, f3, f4⟩ := hr.cells
  have Hr := Lib.hid (hr.alloc (.cells #[.int .u64 0, .int .u64 0, .int .u64 0, .int .u64 0] 37))
  have HA : Hid (BytesAt (w.alloc (.cells #[.int .u64 0, .int .u64 0, .int .u64 0, .int .u64 0] 37)) B A bs) := hA.below ((Below.refl B w).alloc (by omega) _)
  have Hz : Hid (Blk (w.alloc (.cells #[.int .u64 0, .int .u64 0, .int .u64 0, .int .u64 0] 37)) w.heap.size 37 #[.int .u64 0, .int .u64 0, .int .u64 0, .int .u64 0]) := Blk.new _ _ _
  have Hg0 : Hid (w.grownBy (w.alloc (.cells #[.int .u64 0, .int .u64 0, .int .u64 0, .int .u64 0] 37)) (some g)) := only_alloc (only_refl _ _) _
  have Hl := Lib.hid hA.2.1
  have hl := hA.2.1
  clear hr hA
  have He := Lib.hid he
  have Hh := Lib.hid hh
  have Hf := Lib.hid hf
  have Hi : Hid (itemS bs s i = if hi' < lo then .error (15, (i : Int)) else .ok (lo, hi', j')) := by show itemS bs s i = _; unfold itemS; rw [he]; dsimp only; rw [hh, hf]; rfl
  clear he hh hf
  go_enter Tryz.func141, Tryz.ntmps141
  go_wp2_with fail
  with_reducible refine (char_go g A cap bs i s B _ Hr.out HA.out hB hi).mono ?_
  rintro e w1 hp
  unfold CharPost at hp
  rw [He.out] at hp
  obtain ⟨hg1, rfl, hr1⟩ := hp
  obtain ⟨d0, d1, d2, d3, d4, e1, e3, e4⟩ := hr1.cells
  have Hr1 := Lib.hid hr1
  have Hg1 := Lib.hid hg1
  have HA1 := Lib.hid (HA.out.only hg1 hB Hr.out.lt)
  have Hz1 : Hid (Blk w1 w.heap.size 37 #[.int .u64 0, .int .u64 0, .int .u64 0, .int .u64 0]) := Hz.out.grown hg1 (by simpa using hne)
  have hlt1 := hr1.lt
  have hsz : w.heap.size < w1.heap.size := by have := hg1.size; simp at this; omega
  clear hr1 hg1
  go_wp2_with fail
  refine (take_yes g A cap bs _ _ _ _ 45 B _ Hr1.out HA1.out (by omega) (by omega) Hh.out).mono ?_
  rintro e w2 ⟨rfl, hr2, hg2⟩
  have Hg2 := Lib.hid hg2
  have HA2 := Lib.hid (HA1.out.only hg2 hB hlt1)
  have hlt2 := hr2.lt
  have Hr2 : Hid (Rd w2 g A cap bs ((j + 1 : Nat) : Int) (s : Int) 0 0) := by show Rd _ _ _ _ _ _ _ _ _; rw [show ((j + 1 : Nat) : Int) = (j : Int) + 1 by omega]; exact hr2
  have Hz2 := Lib.hid (Hz1.out.grown hg2 (by simpa using hne))
  clear hr2 hg2
  go_wp2_with fail
  with_reducible refine (char_go g A cap bs (j + 1) s B _ Hr2.out HA2.out hB (by omega)).mono ?_
  rintro e w3 hp
  unfold CharPost at hp
  rw [Hf.out] at hp
  obtain ⟨hg3, rfl, hr3⟩ := hp
  have Hg3 := Lib.hid hg3
  have Hr3 := Lib.hid hr3
  have hlt3 := hr3.lt
  have Hz3 := Lib.hid (Hz2.out.grown hg3 (by simpa using hne))
  have hsz3 := Hz3.out.lt
  clear hr3 hg3
  by_cases hcl : hi' < lo
  · go_wp2_with (first
      | (go_at_call 155; refine (fail0_go g A cap bs _ _ _ _ _ _ Hr3.out).mono ?_; rintro e w4 ⟨rfl, hr4, hg4⟩; have Hr4 := Lib.hid hr4; have Hg4 := Lib.hid hg4; have hlt4 := hr4.lt; have Hz4 := Lib.hid (Hz3.out.grown hg4 (by simpa using hne)); have hsz4 := Hz4.out.lt; clear hr4 hg4)
      | (go_at_call 159; refine (span_any _ _ _ (by omega) (by omega)).mono ?_; rintro e w5 ⟨rfl, hb5⟩; obtain ⟨z0, z1, z2, z3, y0, y1, y2, y3⟩ := (Hz4.out.below hb5 hsz4).c4))
    go_light
    refine bodyPost_ret (ret_set Tryz.results141 rfl (Hz4.out.below hb5 hsz4).set4) rfl ?_
    exact ItemPost.no _ j' (only_set4 (only_below (only_trans (only_trans (only_trans (only_trans Hg0.out Hg1.out) Hg2.out) Hg3.out) Hg4.out) hb5) (Nat.le_refl _) _ _ _ _) (by rw [Hi.out, if_pos hcl]) (by decide) rfl ((Hr4.out.below hb5 hlt4).set4 (by omega) _ _ _ _)
  · go_wp2_with (go_at_call 159; refine (span_any _ _ _ (by omega) (by omega)).mono ?_; rintro e w5 ⟨rfl, hb5⟩; obtain ⟨z0, z1, z2, z3, y0, y1, y2, y3⟩ := (Hz3.out.below hb5 hsz3).c4)
    go_light
    refine bodyPost_ret (ret_set Tryz.results141 rfl (Hz3.out.below hb5 hsz3).set4) rfl ?_
    exact ItemPost.yes (only_set4 (only_below (only_trans (only_trans (only_trans Hg0.out Hg1.out) Hg2.out) Hg3.out) hb5) (Nat.le_refl _) _ _ _ _) (by rw [Hi.out, if_neg hcl]) rfl ((Hr3.out.below hb5 hlt3).set4 (by omega) _ _ _ _)

theorem item_go (g : Nat) (A : Option Addr) (cap : Nat) (bs : List Nat) (i s : Nat) (B : Nat) (w : World) (hr : Rd w g A cap bs (i : Int) (s : Int) 0 0) (hA : BytesAt w B A bs) (hB : B ≤ g) (hi : i ≤ bs.length) : Calls Tryz.prog 141 #[.pointer (some ⟨g, 0, none⟩)] w (ItemPost g A cap bs i s w) := by
  cases he : charS bs s i with
  | error x => obtain ⟨k, p⟩ := x; exact item_bad1 g A cap bs i s B w hr hA hB hi k p he
  | ok x =>
    obtain ⟨lo, j⟩ := x
    obtain ⟨a1, a2, a3⟩ := charS_ok hA.1 he
    cases hh : hasAt bs (j : Int) 45 with
    | false => exact item_one g A cap bs i s B w hr hA hB hi lo j he a3 hh
    | true =>
      obtain ⟨j', e', hj, _⟩ := hasAt_yes hh
      obtain rfl : j = j' := by omega
      cases hf : charS bs s (j + 1) with
      | error y => obtain ⟨k, p⟩ := y; exact item_bad2 g A cap bs i s B w hr hA hB hi lo j he a3 hh hj k p hf
      | ok y =>
        obtain ⟨hi', j'⟩ := y
        exact item_two g A cap bs i s B w hr hA hB hi lo j he a3 hh hj hi' j' hf (charS_ok hA.1 hf).2.2

end Go.Proofs.YtajohcknenngnaaGreat
namespace Go.Proofs.YtajohcknenngnaaGreat
set_option linter.unusedSimpArgs false
set_option linter.unusedVariables false
set_option maxRecDepth 100000

theorem of_size_cons (x : Nd) (l : List Nd) : (Trees.of (x :: l)).size = x.size + (Trees.of l).size := by simp [Trees.of, Trees.size, Nd.size]
theorem of_size_snoc (l : List Nd) (x : Nd) : (Trees.of (l ++ [x])).size = (Trees.of l).size + x.size := by
  induction l with
  | nil => simp [Trees.of, Trees.size, Nd.size]
  | cons y l ih => rw [List.cons_append, of_size_cons, of_size_cons, ih]; omega
theorem one_size (k : Int) (s : Nat) (x : Nd) (lo hi : Int) : (⟨k, s, Trees.of [x], lo, hi⟩ : Nd).size = 1 + x.size := by
  show 1 + (Trees.of [x]).size = _
  rw [of_size_cons]
  simp [Trees.of, Trees.size]
theorem postN_size (y : Lex) (x : Nd) : (postN y x).size = 1 + x.size := by
  unfold postN
  split <;> exact one_size _ _ _ _ _
theorem postsG_size : ∀ (L : List Lex) (x : Nd), (postsG x L).1.size + 2 * (postsG x L).2.length ≤ x.size + 2 * L.length
  | [], x => Nat.le_refl _
  | y :: L, x => by
    unfold postsG
    split
    · have := postsG_size L (postN y x)
      rw [postN_size] at this
      simp only [List.length_cons]
      omega
    · exact Nat.le_refl _
theorem flatN_size (k : Int) (l : List Nd) (h : l ≠ []) : (flatN k l).size + l.length ≤ (Trees.of l).size + 1 + (if l.length = 1 then 0 else l.length) := by
  match l, h with
  | [], h => exact absurd rfl h
  | [x], _ =>
    have := of_size_cons x []
    simp [flatN, Trees.of, Trees.size] at this ⊢
    omega
  | x :: y :: l, _ =>
    simp [flatN, Nd.size]
    omega
def AltZ (n : Nat) : Prop := ∀ op acc L x R, altG n op acc L = .ok (x, R) → ∃ acc', x = flatN 5 acc' ∧ acc' ≠ [] ∧ (Trees.of acc').size + acc'.length + 2 * R.length ≤ (Trees.of acc).size + acc.length + 2 * L.length + 2
def PiecesZ (n : Nat) : Prop := ∀ op acc L ps R, piecesG n op acc L = .ok (ps, R) → (Trees.of ps).size + ps.length + 2 * R.length ≤ (Trees.of acc).size + acc.length + 2 * L.length
def AtomZ (n : Nat) : Prop := ∀ op L x R, atomG n op L = .ok (some x, R) → x.size + 1 + 2 * R.length ≤ 2 * L.length
theorem flat_le {k : Int} {l : List Nd} {m : Nat} (h : l ≠ []) (hs : (Trees.of l).size + l.length ≤ m + 2) : (flatN k l).size ≤ m + 1 := by
  have h1 := flatN_size k l h
  have h2 := List.length_pos_iff.2 h
  split at h1 <;> omega
theorem readG_size (n : Nat) : AltZ n ∧ PiecesZ n ∧ AtomZ n := by
  induction n with
  | zero => exact ⟨fun _ _ _ _ _ h => (by rw [altG] at h; cases h), fun _ _ _ _ _ h => (by rw [piecesG] at h; cases h), fun _ _ _ _ h => (by rw [atomG] at h; cases h)⟩
  | succ n ih =>
    obtain ⟨ia, ip, it⟩ := ih
    refine ⟨fun op acc L x R h => ?_, fun op acc L ps R h => ?_, fun op L x R h => ?_⟩
    · cases hp : piecesG n op [] L with
      | error e => rw [altG_bad hp] at h; cases h
      | ok r =>
        obtain ⟨ps, R1⟩ := r
        rw [altG_ok hp] at h
        have h1 := ip _ _ _ _ _ hp
        have h2 : (partN ps).size + 2 * R1.length ≤ 2 * L.length + 1 := by
          simp [Trees.of, Trees.size] at h1
          by_cases h0 : ps = []
          · subst h0
            simp [partN, emptyN, Nd.size, Trees.size, Trees.of] at h1 ⊢
            omega
          · have e : partN ps = flatN 4 ps := by cases ps with
              | nil => exact absurd rfl h0
              | cons y l => rfl
            rw [e]
            have h3 := flatN_size 4 ps h0
            have h4 := List.length_pos_iff.2 h0
            split at h3 <;> omega
        have h3 := of_size_snoc acc (partN ps)
        cases R1 with
        | nil =>
          rw [tailG_nil] at h
          cases h
          exact ⟨_, rfl, by simp, by simp at h2 ⊢; omega⟩
        | cons c R' =>
          by_cases h4 : c.kind = 4
          · rw [tailG_bar h4] at h
            obtain ⟨acc', e1, e2, e3⟩ := ia _ _ _ _ _ h
            exact ⟨acc', e1, e2, by simp at e3 h2; omega⟩
          · rw [tailG_stop h4] at h
            cases h
            exact ⟨_, rfl, by simp, by simp at h2 ⊢; omega⟩
    · cases hp : atomG n op L with
      | error e => rw [piecesG_bad hp] at h; cases h
      | ok r =>
        obtain ⟨x, R1⟩ := r
        cases x with
        | none =>
          have hs := ((readG_suf n).2.2 _ _ _ _ hp).1.length_le
          rw [piecesG_end hp] at h
          cases h
          omega
        | some x =>
          rw [piecesG_go hp] at h
          have h1 := ip _ _ _ _ _ h
          have h2 := it _ _ _ _ hp
          have h3 := postsG_size R1 x
          rw [of_size_snoc] at h1
          simp at h1
          omega
    · cases L with
      | nil => rw [atomG_nil] at h; cases h
      | cons y L =>
        by_cases h1 : y.kind = 1
        · rw [atomG_set h1] at h
          cases h
          simp [leafN, Nd.size, Trees.size]
          omega
        by_cases h2 : y.kind = 2
        · rw [atomG, if_neg h1, if_pos h2] at h
          split at h
          · cases h
          split at h
          · cases h
          · rename_i x' R' hx
            obtain ⟨acc', e1, e2, e3⟩ := ia _ _ _ _ _ hx
            split at h
            · cases h
            · rename_i c R''
              split at h
              · cases h
                have := flat_le (k := 5) (m := 2 * L.length - 2 * (R.length + 1)) e2 (by simp [Trees.of, Trees.size] at e3; omega)
                rw [← e1] at this
                simp [Trees.of, Trees.size] at e3 ⊢
                have h4 := List.length_pos_iff.2 e2
                omega
              · cases h
        rw [atomG, if_neg h1, if_neg h2] at h
        split at h
        · cases h
        split at h <;> cases h
theorem alt_size {n : Nat} {op : List Int} {L R : List Lex} {x : Nd} (h : altG n op [] L = .ok (x, R)) : x.size ≤ 2 * L.length + 1 := by
  obtain ⟨acc', e1, e2, e3⟩ := (readG_size n).1 _ _ _ _ _ h
  rw [e1]
  exact flat_le e2 (by simp [Trees.of, Trees.size] at e3; omega)
theorem lexemesS_size {L : List Lex} {x : Nd} (h : lexemesS L = .ok x) : x.size ≤ 2049 := by
  unfold lexemesS at h
  split at h
  · cases h
  split at h
  · cases h
  · split at h
    · cases h
    · rename_i y R hy
      cases h
      have := alt_size hy
      omega
theorem parseS_size {bs : List Nat} {x : Nd} (h : parseS bs = .ok x) : x.size ≤ 2049 := by
  unfold parseS at h
  split at h
  · cases h
  · exact lexemesS_size h

end Go.Proofs.YtajohcknenngnaaGreat
namespace Go.Proofs.YtajohcknenngnaaGreat
set_option linter.unusedSimpArgs false
set_option linter.unusedVariables false
set_option maxRecDepth 100000

/-! Places of what is wrong. -/
theorem charS_at {bs : List Nat} {s i : Nat} {k q : Int} (hs : s ≤ bs.length) (h : charS bs s i = .error (k, q)) : 0 ≤ q ∧ q ≤ bs.length := by
  unfold charS at h
  split at h
  · simp at h; omega
  split at h
  · split at h
    · cases h
    · simp at h; omega
  split at h
  · simp at h; omega
  · cases h
theorem itemS_at {bs : List Nat} {s i : Nat} {k q : Int} (hs : s ≤ bs.length) (hi : i ≤ bs.length) (h : itemS bs s i = .error (k, q)) : 0 ≤ q ∧ q ≤ bs.length := by
  unfold itemS at h
  cases h1 : charS bs s i with
  | error e =>
    rw [h1] at h
    obtain ⟨a, b⟩ := e
    have := charS_at hs h1
    simp at h
    omega
  | ok x =>
    obtain ⟨lo, j⟩ := x
    rw [h1] at h
    dsimp only at h
    split at h
    · cases h2 : charS bs s (j + 1) with
      | error e =>
        rw [h2] at h
        obtain ⟨a, b⟩ := e
        have := charS_at hs h2
        simp at h
        omega
      | ok y =>
        obtain ⟨hi, m⟩ := y
        rw [h2] at h
        dsimp only at h
        split at h
        · simp at h; omega
        · cases h
    · cases h
theorem itemsS_at {bs : List Nat} (hb : ∀ x ∈ bs, x < 256) {s : Nat} (hs : s ≤ bs.length) : ∀ {f i : Nat} {p : Nat → Bool} {k q : Int}, i ≤ bs.length → itemsS bs s f i p = .error (k, q) → 0 ≤ q ∧ q ≤ bs.length
  | 0, i, p, k, q, hi, h => by
    have := Except.error.inj h
    simp at this
    omega
  | f + 1, i, p, k, q, hi0, h => by
    cases hi : itemS bs s i with
    | error e =>
      rw [itemsS_bad hi] at h
      obtain ⟨a, b⟩ := e
      have := itemS_at hs hi0 hi
      simp at h
      omega
    | ok x =>
      obtain ⟨lo, hi', m⟩ := x
      have hk := itemS_ok hb hi
      rw [itemsS_ok hi] at h
      cases hc : hasAt bs (m : Int) 93
      · rw [restS_go hc] at h
        exact itemsS_at hb hs (by omega) h
      · rw [restS_end hc] at h; cases h
theorem readS_at {bs : List Nat} (hb : ∀ x ∈ bs, x < 256) {i : Int} {k q : Int} (h : readS bs i = .error (k, q)) : 0 ≤ q ∧ q ≤ bs.length := by
  cases h1 : hasAt bs i 91
  · rw [readS_no h1] at h; simp at h; omega
  obtain ⟨m, rfl, hm, _⟩ := hasAt_yes h1
  cases h2 : hasAt bs ((m : Int) + 1) 94
  · rw [readS_plain h1 h2] at h
    exact itemsS_at hb (by omega) (by omega) h
  · rw [readS_turned h1 h2] at h
    obtain ⟨m2, hm2, hm3, _⟩ := hasAt_yes h2
    cases h3 : itemsS bs m (bs.length + 1) (m + 2) (fun _ => false) with
    | error e =>
      obtain ⟨a, b⟩ := e
      rw [h3] at h
      have := itemsS_at hb (by omega) (by omega) h3
      have h4 : (a, b) = (k, q) := Except.error.inj h
      simp at h4
      omega
    | ok x =>
      obtain ⟨p, j⟩ := x
      rw [h3] at h; cases h
theorem lexS_at {bs : List Nat} (hb : ∀ x ∈ bs, x < 256) {i : Nat} (hi : i < bs.length) {k q : Int} (h : lexS bs i = .error (k, q)) : 0 ≤ q ∧ q ≤ bs.length := by
  unfold lexS at h
  split at h
  · cases h
  split at h
  · split at h
    · cases h
    · simp at h; omega
  split at h
  · split at h
    · cases h
    · rename_i e he
      have h1 := Except.error.inj h
      rw [h1] at he
      exact readS_at hb he
  split at h
  · have := repS_err h; omega
  split at h
  · simp at h; omega
  split at h
  · cases h
  · cases h
theorem splitF_at {bs : List Nat} (hb : ∀ x ∈ bs, x < 256) : ∀ {f i : Nat} {l : List Lex} {k q : Int}, splitF bs f i l = .error (k, q) → 0 ≤ q ∧ q ≤ bs.length
  | 0, i, l, k, q, h => by
    have := Except.error.inj h
    simp at this
    omega
  | f + 1, i, l, k, q, h => by
    by_cases hi : bs.length ≤ i
    · rw [splitF_end hi] at h; cases h
    · cases hx : lexS bs i with
      | error e =>
        rw [splitF_bad (by omega) hx] at h
        cases h
        exact lexS_at hb (by omega) hx
      | ok x =>
        obtain ⟨x, j⟩ := x
        rw [splitF_ok (by omega) hx] at h
        exact splitF_at hb h
theorem splitS_at {bs : List Nat} (hb : ∀ x ∈ bs, x < 256) {k q : Int} (h : splitS bs = .error (k, q)) : 0 ≤ q ∧ q ≤ bs.length := by
  by_cases hl : 65536 < bs.length
  · rw [splitS_long hl] at h
    simp at h
    omega
  · rw [splitS_go (by omega)] at h
    exact splitF_at hb h
theorem seg_at {bs : List Nat} : ∀ {M : List Lex} {i k : Nat}, Seg bs i M k → ∀ x ∈ M, 0 ≤ x.place ∧ x.place ≤ bs.length
  | [], i, k, _, x, hx => by cases hx
  | y :: M, i, k, ⟨hi, j, hy, h⟩, x, hx => by
    rcases List.mem_cons.1 hx with rfl | hx
    · have := lexS_place hy
      omega
    · exact seg_at h x hx
theorem wrongS_at {P : Int → Prop} : ∀ (L : List Lex) (op : List Int) (p : Bool) {k q : Int}, (∀ x ∈ L, P x.place) → (∀ x ∈ op, P x) → wrongS op p L = some (k, q) → P q
  | [], [], p, k, q, _, _, h => by rw [wrongS] at h; cases h
  | [], x :: op, p, k, q, _, ho, h => by
    rw [wrongS] at h
    cases h
    exact ho _ (by simp)
  | y :: L, op, p, k, q, hL, ho, h => by
    have hy := hL y (by simp)
    have hL' : ∀ x ∈ L, P x.place := fun x hx => hL x (List.mem_cons_of_mem y hx)
    unfold wrongS at h
    split at h
    · exact wrongS_at L _ _ hL' ho h
    split at h
    · split at h
      · cases h; exact hy
      · exact wrongS_at L _ _ hL' (fun x hx => by
          rcases List.mem_cons.1 hx with rfl | hx
          · exact hy
          · exact ho x hx) h
    split at h
    · split at h
      · cases h; exact hy
      · exact wrongS_at L _ _ hL' (fun x hx => ho x (List.mem_cons_of_mem _ hx)) h
    split at h
    · exact wrongS_at L _ _ hL' ho h
    split at h
    · cases h; exact hy
    · exact wrongS_at L _ _ hL' ho h
theorem lexemesS_at {n : Nat} {L : List Lex} (hL : ∀ x ∈ L, 0 ≤ x.place ∧ x.place ≤ n) {k q : Int} (h : lexemesS L = .error (k, q)) : 0 ≤ q ∧ q ≤ n := by
  unfold lexemesS at h
  split at h
  · simp at h; omega
  rename_i hall
  split at h
  · rename_i hl
    have := hL _ (List.getElem_mem hl)
    have h1 := Except.error.inj h
    simp at h1
    omega
  · have hk : Kinds L := fun y hy => by
      have h1 : rightS y = true := by
        have : L.all rightS = true := by simpa using hall
        exact List.all_eq_true.1 this y hy
      have := rightS_cases h1
      omega
    have hw := read_wrong L hk
    split at h
    · rename_i e he
      rw [he] at hw
      have h1 := Except.error.inj h
      subst h1
      exact wrongS_at (P := fun z => 0 ≤ z ∧ z ≤ n) L [] false hL (by simp) hw
    · cases h
/-- Where something is wrong the place is within the text, or just behind it. -/
theorem parseS_at {bs : List Nat} (hb : ∀ x ∈ bs, x < 256) {k q : Int} (h : parseS bs = .error (k, q)) : 0 ≤ q ∧ q ≤ bs.length := by
  unfold parseS at h
  cases hs : splitS bs with
  | error e =>
    rw [hs] at h
    have h1 := Except.error.inj h
    subst h1
    exact splitS_at hb hs
  | ok L =>
    rw [hs] at h
    exact lexemesS_at (seg_at ((splitS_seg hb).1 hs).2) h

/-! Trees that may be. -/
/-- A node may be, without its kids. -/
def Alone (x : Nd) : Prop :=
  (x.kind = 3 ∧ x.kids.len = 0 ∧ x.lo = 0 ∧ x.hi = 0) ∨
  (x.set = 0 ∧ ((x.kind = 2 ∧ x.kids.len = 0 ∧ x.lo = 0 ∧ x.hi = 0) ∨ ((x.kind = 4 ∨ x.kind = 5) ∧ 2 ≤ x.kids.len ∧ x.lo = 0 ∧ x.hi = 0) ∨
    ((x.kind = 6 ∨ x.kind = 7 ∨ x.kind = 8) ∧ x.kids.len = 1 ∧ x.lo = 0 ∧ x.hi = 0) ∨ (x.kind = 9 ∧ x.kids.len = 1 ∧ 0 ≤ x.lo ∧ x.lo ≤ 1000 ∧ (x.hi = -1 ∨ x.lo ≤ x.hi ∧ x.hi ≤ 1000))))
def Sound : Trees → Prop
  | .nil => True
  | .cons k s ks lo hi r => Alone ⟨k, s, ks, lo, hi⟩ ∧ Sound ks ∧ Sound r
def SoundN (x : Nd) : Prop := Alone x ∧ Sound x.kids
theorem sound_of : ∀ {l : List Nd}, (∀ x ∈ l, SoundN x) → Sound (Trees.of l)
  | [], _ => trivial
  | x :: l, h => ⟨(h x (by simp)).1, (h x (by simp)).2, sound_of (fun y hy => h y (List.mem_cons_of_mem x hy))⟩
theorem sound_flat {k : Int} (hk : k = 4 ∨ k = 5) : ∀ {l : List Nd}, l ≠ [] → (∀ x ∈ l, SoundN x) → SoundN (flatN k l)
  | [], h, _ => absurd rfl h
  | [x], _, h => h x (by simp)
  | x :: y :: l, _, h => ⟨.inr ⟨rfl, .inr (.inl ⟨hk, by show 2 ≤ (Trees.of (x :: y :: l)).len; rw [Trees.len_of]; simp, rfl, rfl⟩)⟩, sound_of h⟩
theorem sound_empty : SoundN emptyN := ⟨.inr ⟨rfl, .inl ⟨rfl, rfl, rfl, rfl⟩⟩, trivial⟩
theorem sound_part {l : List Nd} (h : ∀ x ∈ l, SoundN x) : SoundN (partN l) := by
  cases l with
  | nil => exact sound_empty
  | cons x l => exact sound_flat (.inl rfl) (by simp) h
theorem sound_post {y : Lex} {x : Nd} (hy : rightS y = true) (hp : isPost y.kind = true) (hx : SoundN x) : SoundN (postN y x) := by
  have hc := rightS_cases hy
  have h5 := (isPost_iff _).1 hp
  unfold postN
  split
  · rename_i h8
    refine ⟨.inr ⟨rfl, .inr (.inr (.inr ⟨rfl, rfl, ?_, ?_, ?_⟩))⟩, sound_of (by simpa using hx)⟩
    · show 0 ≤ y.lo; omega
    · show y.lo ≤ 1000; omega
    · show y.hi = -1 ∨ y.lo ≤ y.hi ∧ y.hi ≤ 1000; omega
  · refine ⟨.inr ⟨rfl, .inr (.inr (.inl ⟨?_, rfl, rfl, rfl⟩))⟩, sound_of (by simpa using hx)⟩
    show y.kind + 1 = 6 ∨ y.kind + 1 = 7 ∨ y.kind + 1 = 8
    omega
theorem sound_posts : ∀ (L : List Lex) (x : Nd), (∀ y ∈ L, rightS y = true) → SoundN x → SoundN (postsG x L).1
  | [], x, _, h => h
  | y :: L, x, hL, h => by
    unfold postsG
    split
    · rename_i hp
      exact sound_posts L _ (fun z hz => hL z (List.mem_cons_of_mem y hz)) (sound_post (hL y (by simp)) hp h)
    · exact h
theorem readG_sound (n : Nat) : (∀ op acc L x R, (∀ y ∈ L, rightS y = true) → (∀ y ∈ acc, SoundN y) → altG n op acc L = .ok (x, R) → SoundN x) ∧
    (∀ op acc L ps R, (∀ y ∈ L, rightS y = true) → (∀ y ∈ acc, SoundN y) → piecesG n op acc L = .ok (ps, R) → ∀ y ∈ ps, SoundN y) ∧
    (∀ op L x R, (∀ y ∈ L, rightS y = true) → atomG n op L = .ok (some x, R) → SoundN x) := by
  induction n with
  | zero => exact ⟨fun _ _ _ _ _ _ _ h => (by rw [altG] at h; cases h), fun _ _ _ _ _ _ _ h => (by rw [piecesG] at h; cases h), fun _ _ _ _ _ h => (by rw [atomG] at h; cases h)⟩
  | succ n ih =>
    obtain ⟨ia, ip, it⟩ := ih
    obtain ⟨sa, sp, st⟩ := readG_suf n
    refine ⟨fun op acc L x R hL ha h => ?_, fun op acc L ps R hL ha h => ?_, fun op L x R hL h => ?_⟩
    · cases hp : piecesG n op [] L with
      | error e => rw [altG_bad hp] at h; cases h
      | ok r =>
        obtain ⟨ps, R1⟩ := r
        rw [altG_ok hp] at h
        have h1 := sound_part (ip _ _ _ _ _ hL (by simp) hp)
        have hs := sp _ _ _ _ _ hp
        have ha' : ∀ y ∈ acc ++ [partN ps], SoundN y := fun y hy => by
          rcases List.mem_append.1 hy with hy | hy
          · exact ha y hy
          · rw [List.mem_singleton.1 hy]; exact h1
        cases R1 with
        | nil => rw [tailG_nil] at h; cases h; exact sound_flat (.inr rfl) (by simp) ha'
        | cons c R' =>
          by_cases h4 : c.kind = 4
          · rw [tailG_bar h4] at h
            exact ia _ _ _ _ _ (fun y hy => hL y (hs.subset (List.mem_cons_of_mem c hy))) ha' h
          · rw [tailG_stop h4] at h
            cases h
            exact sound_flat (.inr rfl) (by simp) ha'
    · cases hp : atomG n op L with
      | error e => rw [piecesG_bad hp] at h; cases h
      | ok r =>
        obtain ⟨x, R1⟩ := r
        cases x with
        | none => rw [piecesG_end hp] at h; cases h; exact ha
        | some x =>
          have hs := (st _ _ _ _ hp).1
          rw [piecesG_go hp] at h
          have h1 := sound_posts R1 x (fun y hy => hL y (hs.subset hy)) (it _ _ _ _ hL hp)
          refine ip _ _ _ _ _ (fun y hy => hL y (hs.subset ((postsG_suf R1 x).subset hy))) (fun y hy => ?_) h
          rcases List.mem_append.1 hy with hy | hy
          · exact ha y hy
          · rw [List.mem_singleton.1 hy]; exact h1
    · cases L with
      | nil => rw [atomG_nil] at h; cases h
      | cons y L =>
        have hL' : ∀ z ∈ L, rightS z = true := fun z hz => hL z (List.mem_cons_of_mem y hz)
        by_cases h1 : y.kind = 1
        · rw [atomG_set h1] at h
          cases h
          exact ⟨.inl ⟨rfl, rfl, rfl, rfl⟩, trivial⟩
        by_cases h2 : y.kind = 2
        · rw [atomG, if_neg h1, if_pos h2] at h
          split at h
          · cases h
          split at h
          · cases h
          · rename_i x' R' hx
            split at h
            · cases h
            · rename_i c R''
              split at h
              · cases h
                exact ia _ _ _ _ _ hL' (by simp) hx
              · cases h
        rw [atomG, if_neg h1, if_neg h2] at h
        split at h
        · cases h
        split at h <;> cases h
theorem lexemesS_sound {L : List Lex} {x : Nd} (h : lexemesS L = .ok x) : SoundN x := by
  unfold lexemesS at h
  split at h
  · cases h
  rename_i hall
  split at h
  · cases h
  · have hL : ∀ y ∈ L, rightS y = true := by
      have : L.all rightS = true := by simpa using hall
      exact List.all_eq_true.1 this
    split at h
    · cases h
    · rename_i y R he
      cases h
      exact (readG_sound _).1 _ _ _ _ _ hL (by simp) he
theorem parseS_sound {bs : List Nat} {x : Nd} (h : parseS bs = .ok x) : SoundN x := by
  unfold parseS at h
  split at h
  · cases h
  · exact lexemesS_sound h

end Go.Proofs.YtajohcknenngnaaGreat
namespace Go.Proofs.YtajohcknenngnaaGreat
open Go.RowKit
set_option linter.unusedSimpArgs false
set_option linter.unusedVariables false
set_option maxRecDepth 100000

theorem Blk.put8 {w : World} {g : Nat} {t : TypeId} {a0 a1 a2 a3 a4 a5 a6 a7 : Value} (h : Blk w g t #[a0, a1, a2, a3, a4, a5, a6, a7]) (b0 b1 b2 b3 b4 b5 b6 b7 : Value) : Blk ((((((((w.setCell ⟨g, 0, none⟩ b0).setCell ⟨g, 1, none⟩ b1).setCell ⟨g, 2, none⟩ b2).setCell ⟨g, 3, none⟩ b3).setCell ⟨g, 4, none⟩ b4).setCell ⟨g, 5, none⟩ b5).setCell ⟨g, 6, none⟩ b6).setCell ⟨g, 7, none⟩ b7) g t #[b0, b1, b2, b3, b4, b5, b6, b7] := by
  have h1 : Blk (w.setCell ⟨g, 0, none⟩ b0) g t #[b0, a1, a2, a3, a4, a5, a6, a7] := Blk.set_ h 0 b0
  have h2 : Blk ((w.setCell ⟨g, 0, none⟩ b0).setCell ⟨g, 1, none⟩ b1) g t #[b0, b1, a2, a3, a4, a5, a6, a7] := Blk.set_ h1 1 b1
  have h3 : Blk (((w.setCell ⟨g, 0, none⟩ b0).setCell ⟨g, 1, none⟩ b1).setCell ⟨g, 2, none⟩ b2) g t #[b0, b1, b2, a3, a4, a5, a6, a7] := Blk.set_ h2 2 b2
  have h4 : Blk ((((w.setCell ⟨g, 0, none⟩ b0).setCell ⟨g, 1, none⟩ b1).setCell ⟨g, 2, none⟩ b2).setCell ⟨g, 3, none⟩ b3) g t #[b0, b1, b2, b3, a4, a5, a6, a7] := Blk.set_ h3 3 b3
  have h5 : Blk (((((w.setCell ⟨g, 0, none⟩ b0).setCell ⟨g, 1, none⟩ b1).setCell ⟨g, 2, none⟩ b2).setCell ⟨g, 3, none⟩ b3).setCell ⟨g, 4, none⟩ b4) g t #[b0, b1, b2, b3, b4, a5, a6, a7] := Blk.set_ h4 4 b4
  have h6 : Blk ((((((w.setCell ⟨g, 0, none⟩ b0).setCell ⟨g, 1, none⟩ b1).setCell ⟨g, 2, none⟩ b2).setCell ⟨g, 3, none⟩ b3).setCell ⟨g, 4, none⟩ b4).setCell ⟨g, 5, none⟩ b5) g t #[b0, b1, b2, b3, b4, b5, a6, a7] := Blk.set_ h5 5 b5
  have h7 : Blk (((((((w.setCell ⟨g, 0, none⟩ b0).setCell ⟨g, 1, none⟩ b1).setCell ⟨g, 2, none⟩ b2).setCell ⟨g, 3, none⟩ b3).setCell ⟨g, 4, none⟩ b4).setCell ⟨g, 5, none⟩ b5).setCell ⟨g, 6, none⟩ b6) g t #[b0, b1, b2, b3, b4, b5, b6, a7] := Blk.set_ h6 6 b6
  have h8 : Blk ((((((((w.setCell ⟨g, 0, none⟩ b0).setCell ⟨g, 1, none⟩ b1).setCell ⟨g, 2, none⟩ b2).setCell ⟨g, 3, none⟩ b3).setCell ⟨g, 4, none⟩ b4).setCell ⟨g, 5, none⟩ b5).setCell ⟨g, 6, none⟩ b6).setCell ⟨g, 7, none⟩ b7) g t #[b0, b1, b2, b3, b4, b5, b6, b7] := Blk.set_ h7 7 b7
  exact h8
theorem Blk.past8 {w : World} {g g' : Nat} {t : TypeId} {cs : Array Value} (h : Blk w g t cs) (hg : g ≠ g') (b0 b1 b2 b3 b4 b5 b6 b7 : Value) : Blk ((((((((w.setCell ⟨g', 0, none⟩ b0).setCell ⟨g', 1, none⟩ b1).setCell ⟨g', 2, none⟩ b2).setCell ⟨g', 3, none⟩ b3).setCell ⟨g', 4, none⟩ b4).setCell ⟨g', 5, none⟩ b5).setCell ⟨g', 6, none⟩ b6).setCell ⟨g', 7, none⟩ b7) g t cs :=
  ((((((((h.far (p := ⟨g', 0, none⟩) hg b0).far (p := ⟨g', 1, none⟩) hg b1).far (p := ⟨g', 2, none⟩) hg b2).far (p := ⟨g', 3, none⟩) hg b3).far (p := ⟨g', 4, none⟩) hg b4).far (p := ⟨g', 5, none⟩) hg b5).far (p := ⟨g', 6, none⟩) hg b6).far (p := ⟨g', 7, none⟩) hg b7)
theorem below_put8 {B g : Nat} {a w : World} (h : Below B a w) (hg : B ≤ g) (b0 b1 b2 b3 b4 b5 b6 b7 : Value) : Below B a ((((((((w.setCell ⟨g, 0, none⟩ b0).setCell ⟨g, 1, none⟩ b1).setCell ⟨g, 2, none⟩ b2).setCell ⟨g, 3, none⟩ b3).setCell ⟨g, 4, none⟩ b4).setCell ⟨g, 5, none⟩ b5).setCell ⟨g, 6, none⟩ b6).setCell ⟨g, 7, none⟩ b7) :=
  ((((((((h.setCell (p := ⟨g, 0, none⟩) hg b0).setCell (p := ⟨g, 1, none⟩) hg b1).setCell (p := ⟨g, 2, none⟩) hg b2).setCell (p := ⟨g, 3, none⟩) hg b3).setCell (p := ⟨g, 4, none⟩) hg b4).setCell (p := ⟨g, 5, none⟩) hg b5).setCell (p := ⟨g, 6, none⟩) hg b6).setCell (p := ⟨g, 7, none⟩) hg b7)
/-- The parser's block p: the lexemes that are left, and as many open brackets as m, in a row of its own. -/
def PAt (W : World) (p : Nat) (v : Value) (L : List Lex) (m : Nat) : Prop :=
  ∃ A cap xs, Blk W p 111 #[.slice A L.length cap, v] ∧ L.length ≤ cap ∧ LexsAt W p A L ∧ W.ownsRow (p + 1) 3 1 v m xs
/-- Blocks that are neither the parser's nor that of its open brackets. -/
def Off (p : Nat) (v : Value) (b : Nat) : Prop := b ≠ p ∧ some b ≠ v.ownBlock
/-- Such blocks from n on. -/
def New (n p : Nat) (v : Value) (b : Nat) : Prop := n ≤ b ∧ Off p v b
/-- What a step of the parser keeps. -/
def Still (p : Nat) (w : World) (v : Value) (w' : World) (v' : Value) : Prop :=
  Below p w w' ∧ (∀ b, b < w.heap.size → Off p v b → w'.heap[b]? = w.heap[b]?) ∧ (∀ g, v'.ownBlock = some g → v.ownBlock = some g ∨ w.heap.size ≤ g)
theorem Still.refl (p : Nat) (w : World) (v : Value) : Still p w v w v := ⟨Below.refl _ _, fun _ _ _ => rfl, fun _ h => .inl h⟩
theorem Still.trans {p : Nat} {w w1 w2 : World} {v v1 v2 : Value} (h : Still p w v w1 v1) (h' : Still p w1 v1 w2 v2) : Still p w v w2 v2 := by
  refine ⟨h.1.trans h'.1, fun b hb ho => ?_, fun g hg => ?_⟩
  · have : Off p v1 b := ⟨ho.1, fun e => by
      rcases h.2.2 b e.symm with h1 | h1
      · exact ho.2 h1.symm
      · omega⟩
    exact (h'.2.1 b (Nat.lt_of_lt_of_le hb h.1.size) this).trans (h.2.1 b hb ho)
  · rcases h'.2.2 g hg with h1 | h1
    · exact h.2.2 g h1
    · exact .inr (Nat.le_trans h.1.size h1)
theorem Still.off {p : Nat} {w w' : World} {v v' : Value} (h : Still p w v w' v') {b : Nat} (hb : Off p v b) (hl : b < w.heap.size) : Off p v' b :=
  ⟨hb.1, fun e => by
    rcases h.2.2 b e.symm with h1 | h1
    · exact hb.2 h1.symm
    · omega⟩
theorem Still.cell {p : Nat} {w w' : World} {v v' : Value} (h : Still p w v w' v') {b : Nat} (hb : Off p v b) (hl : b < w.heap.size) (o : Nat) : w'.cell? ⟨b, o, none⟩ = w.cell? ⟨b, o, none⟩ :=
  World.cell?_of_block (h.2.1 b hl hb)
theorem Still.blk {p : Nat} {w w' : World} {v v' : Value} (h : Still p w v w' v') {b : Nat} (hb : Off p v b) {t : TypeId} {cs : Array Value} (hk : Blk w b t cs) : Blk w' b t cs := (h.2.1 b hk.lt hb).trans hk
theorem Still.trees {n p : Nat} {w w' : World} {v v' : Value} (h : Still p w v w' v') {F : Trees} {A : Option Addr} (ht : TreesAt w (New n p v) F A) : TreesAt w' (New n p v') F A :=
  ht.keep (fun b o hb hl => h.cell hb.2 hl o) (fun b hb hl => ⟨hb.1, h.off hb.2 hl⟩)
theorem Still.cells {n p : Nat} {w w' : World} {v v' : Value} (h : Still p w v w' v') {l : List Nd} {cs : List Value} (ht : CellsAre w (New n p v) l cs) : CellsAre w' (New n p v') l cs :=
  ht.keep (fun b o hb hl => h.cell hb.2 hl o) (fun b hb hl => ⟨hb.1, h.off hb.2 hl⟩)
/-- A row that a caller owns, of blocks behind the parser's. -/
theorem Still.own {p : Nat} {w w' : World} {v v' : Value} (h : Still p w v w' v') {base size n : Nat} {e : TypeId} {u : Value} {xs : List Value} (hr : w.ownsRow base e size u n xs) (ho : ∀ g, u.ownBlock = some g → Off p v g) : w'.ownsRow base e size u n xs := by
  refine ⟨hr.1, ?_⟩
  rcases hr.2 with hn | ⟨g, cap, cur, rfl, hb, hgg, rest⟩
  · exact .inl hn
  · exact .inr ⟨g, cap, cur, rfl, hb, (h.2.1 g (Array.getElem?_eq_some_iff.1 hgg).1 (ho g rfl)).trans hgg, rest⟩
/-- New blocks alone. -/
theorem Still.of_below {p : Nat} {w w' : World} {v : Value} (h : Below w.heap.size w w') (hp : p ≤ w.heap.size) : Still p w v w' v :=
  ⟨h.mono hp, fun b hb _ => h.block b hb, fun _ h => .inl h⟩

theorem Still.set {p : Nat} {w w' : World} {v v' : Value} (h : Still p w v w' v') (o : Nat) (u : Value) : Still p w v (w'.setCell ⟨p, o, none⟩ u) v' :=
  ⟨h.1.setCell (p := ⟨p, o, none⟩) (Nat.le_refl _) u, fun b hb ho => (Below.heap_setCell w' ⟨p, o, none⟩ u b ho.1).trans (h.2.1 b hb ho), h.2.2⟩
theorem Still.more {p : Nat} {w w' w2 : World} {v v' : Value} (h : Still p w v w' v') (hb : Below w'.heap.size w' w2) (hp : p ≤ w.heap.size) : Still p w v w2 v' :=
  h.trans (Still.of_below hb (Nat.le_trans hp h.1.size))
theorem Still.alloc {p : Nat} {w w' : World} {v v' : Value} (h : Still p w v w' v') (hp : p ≤ w.heap.size) (o : Obj) : Still p w v (w'.alloc o) v' := h.more ((Below.refl _ _).alloc (Nat.le_refl _) o) hp
theorem PAt.lt {W : World} {p : Nat} {v : Value} {L : List Lex} {m : Nat} (h : PAt W p v L m) : p < W.heap.size := by
  obtain ⟨A, cap, xs, hb, _⟩ := h
  exact hb.lt
theorem PAt.below {W W' : World} {p : Nat} {v : Value} {L : List Lex} {m : Nat} (h : PAt W p v L m) (hb : Below W.heap.size W W') : PAt W' p v L m := by
  obtain ⟨A, cap, xs, h1, h2, h3, h4⟩ := h
  exact ⟨A, cap, xs, h1.below hb h1.lt, h2, h3.below (hb.mono (Nat.le_of_lt h1.lt)), own_below h4 hb⟩

set_option maxHeartbeats 1000000 in
theorem peek_nil {W : World} {p : Nat} {v : Value} {m : Nat} (h : PAt W p v [] m) :
    Calls Tryz.prog 100 #[.pointer (some ⟨p, 0, none⟩)] W fun e W' => e = .returned (.int .i64 0) ∧ W' = W := by
  obtain ⟨A, cap, xs, hb, _⟩ := h
  have c0 := hb.cell 0
  clear hb
  go_enter Tryz.func100, Tryz.ntmps100
  go_wp2
  go_ret
  exact ⟨rfl, rfl⟩
set_option maxHeartbeats 1000000 in
theorem peek_go {W : World} {p : Nat} {v : Value} {m : Nat} {x : Lex} {L : List Lex} (h : PAt W p v (x :: L) m) (hlen : L.length ≤ 100000) :
    Calls Tryz.prog 100 #[.pointer (some ⟨p, 0, none⟩)] W fun e W' => e = .returned (.int .i64 x.kind) ∧ W' = W := by
  obtain ⟨A, cap, xs, hb, hc, hl, _⟩ := h
  obtain ⟨b, o, rfl, hbp, ⟨c0, _⟩, _⟩ := hl.cons
  have s0 := hb.cell 0
  simp only [List.length_cons] at s0 hc
  clear hb hl
  have hz : (((L.length + 1 : Nat) : Int) == 0) = false := by simp; omega
  have hz2 : (((L.length : Int) + 1) == 0) = false := by simp; omega
  have hz3 : (0 : Int) < (L.length : Int) + 1 := by omega
  go_enter Tryz.func100, Tryz.ntmps100
  go_wp2
  go_ret
  exact ⟨rfl, rfl⟩

theorem fail_any (k at_ : Int) (W : World) :
    Calls Tryz.prog 146 #[.int .i64 k, .int .i64 at_] W fun e W' => e = .panicked [{ v := .iface 26 (.agg #[.int .i64 k, .int .i64 at_]), recovered := false }] ∧ W' = W := by
  go_enter Tryz.func146, Tryz.ntmps146
  go_wp2
  exact ⟨rfl, rfl, rfl⟩

theorem ret_node {fn : Func} {t : Tmp} (h : fn.results = #[.cell t 39]) {tmps : Array Value} {w : World} {g : Nat} {a0 a1 a2 a3 a4 a5 a6 a7 : Value} (hp : tmps.getD t undef = .pointer (some ⟨g, 0, none⟩)) (hb : Blk w g 39 #[a0, a1, a2, a3, a4, a5, a6, a7]) :
    (results fn tmps).run Tryz.prog w = .ok (.agg #[a0, a1, a2, a3, a4, a5, a6, a7]) w :=
  results_cell_row h tmps w g _ _ _ _ hp hb Tryz.underlying39 rfl (by kernel_rfl)
theorem ret_lex {fn : Func} {t : Tmp} (h : fn.results = #[.cell t 93]) {tmps : Array Value} {w : World} {g : Nat} {a0 a1 a2 a3 a4 a5 a6 a7 : Value} (hp : tmps.getD t undef = .pointer (some ⟨g, 0, none⟩)) (hb : Blk w g 93 #[a0, a1, a2, a3, a4, a5, a6, a7]) :
    (results fn tmps).run Tryz.prog w = .ok (.agg #[a0, a1, a2, a3, a4, a5, a6, a7]) w :=
  results_cell_row h tmps w g _ _ _ _ hp hb Tryz.underlying93 rfl (by kernel_rfl)

/-- The value of a lexeme. -/
@[inline] def lexV (x : Lex) : Value := .agg #[.int .i64 x.kind, .int .i64 x.place, .int .u64 ((word x.set 0 : Nat) : Int), .int .u64 ((word x.set 1 : Nat) : Int), .int .u64 ((word x.set 2 : Nat) : Int), .int .u64 ((word x.set 3 : Nat) : Int), .int .i64 x.lo, .int .i64 x.hi]
set_option maxHeartbeats 1000000 in
theorem next_any {W : World} {p : Nat} {v : Value} {m : Nat} {x : Lex} {L : List Lex} (h : PAt W p v (x :: L) m) (hlen : L.length ≤ 100000) :
    Calls Tryz.prog 101 #[.pointer (some ⟨p, 0, none⟩)] W fun e W' => e = .returned (lexV x) ∧ PAt W' p v L m ∧ Still p W v W' v := by
  obtain ⟨A, cap, xs, hb, hc, hl, hr⟩ := h
  obtain ⟨b, o, rfl, hbp, ⟨c0, c1, c2, c3, c4, c5, c6, c7⟩, hl2⟩ := hl.cons
  have s0 : W.cell? ⟨p, 0, none⟩ = some (.slice (some ⟨b, o, none⟩) (L.length + 1) cap) := hb.cell 0
  have f0 := hb.frozen 0
  have hp := hb.lt
  have HB := Lib.hid hb
  have HL2 := Lib.hid hl2
  have HR := Lib.hid hr
  simp only [List.length_cons] at hc
  have hz : (0 : Int) < (L.length : Int) + 1 := by omega
  have hbs : b < W.heap.size := by omega
  clear hb hl hr hl2
  go_enter Tryz.func101, Tryz.ntmps101
  go_wp2
  go_light
  all_goals
    have hne := blk_not_row HB.out (by decide) HR.out
    refine bodyPost_ret (ret_lex Tryz.results101 rfl ((Blk.new_at (by simp)).alloc _)) rfl ⟨rfl, ⟨_, _, _, ((HB.out.set_ 0 _).alloc _).alloc _, by omega, ?_, ((own_set HR.out hne).alloc _).alloc _⟩, (((Still.refl p W v).set 0 _).alloc (Nat.le_of_lt hp) _).alloc (Nat.le_of_lt hp) _⟩
  · by_cases hL : L = []
    · subst hL; exact LexsAt.nil
    · have := List.length_pos_iff.2 hL
      omega
  · exact HL2.out.below ((((Below.refl p W).setCell (p := ⟨p, 0, none⟩) (Nat.le_refl _) _).alloc (by simpa [World.setCell] using Nat.le_of_lt hp) _).alloc (by simp [World.setCell]; omega) _)

@[go_sem] theorem lex_field1 (a b c d e f g h : Value) (w : World) : (Instr.field 93 (.agg #[a, b, c, d, e, f, g, h]) 1).run Tryz.prog w = .ok b w := by kernel_rfl
@[go_sem] theorem lex_field2 (a b c d e f g h : Value) (w : World) : (Instr.field 93 (.agg #[a, b, c, d, e, f, g, h]) 2).run Tryz.prog w = .ok (.agg #[c, d, e, f]) w := by kernel_rfl

end Go.Proofs.YtajohcknenngnaaGreat
namespace Go.Proofs.YtajohcknenngnaaGreat
open Go.RowKit
set_option linter.unusedSimpArgs false
set_option linter.unusedVariables false
set_option maxRecDepth 100000

theorem word_zero (i : Nat) : word (Nat.testBit 0) i = 0 := by
  have : (Nat.testBit 0) = fun _ => false := by funext j; simp
  rw [this]
  exact word_none i
theorem ndV_plain (k : Int) (ks : Trees) (lo hi : Int) (B : Option Addr) (cap : Nat) : ndV ⟨k, 0, ks, lo, hi⟩ B cap = .agg #[.int .i64 k, .int .u64 0, .int .u64 0, .int .u64 0, .int .u64 0, .slice B ks.len cap, .int .i64 lo, .int .i64 hi] := by
  unfold ndV
  simp only [word_zero]
  rfl
/-- The cells of a node, as a block. -/
@[inline] def ndA (x : Nd) (B : Option Addr) (cap : Nat) : Array Value :=
  #[.int .i64 x.kind, .int .u64 ((word x.set.testBit 0 : Nat) : Int), .int .u64 ((word x.set.testBit 1 : Nat) : Int), .int .u64 ((word x.set.testBit 2 : Nat) : Int), .int .u64 ((word x.set.testBit 3 : Nat) : Int), .slice B x.kids.len cap, .int .i64 x.lo, .int .i64 x.hi]
theorem NdAt.of_blk {w : World} {g : Nat} {t : TypeId} {x : Nd} {B : Option Addr} {cap : Nat} (h : Blk w g t (ndA x B cap)) : NdAt w g 0 x.kind x.set x.kids.len x.lo x.hi B cap :=
  ⟨h.cell 0, h.cell 1, h.cell 2, h.cell 3, h.cell 4, h.cell 5, h.cell 6, h.cell 7⟩
/-- A row of one node. -/
theorem TreesAt.one {w : World} {P : Nat → Prop} {g : Nat} {t : TypeId} {x : Nd} {B : Option Addr} {cap : Nat} (h : Blk w g t (ndA x B cap)) (hc : x.kids.len ≤ cap) (ht : TreesAt w P x.kids B) (hg : P g) : TreesAt w P (Trees.of [x]) (some ⟨g, 0, none⟩) :=
  ⟨g, 0, B, cap, rfl, hg, hc, NdAt.of_blk h, ht, trivial⟩

/-- What comes of a node with one kid, the kid in a new row. -/
def Overs (k : Int) (x : Nd) (B : Option Addr) (cap : Nat) (W : World) (e : Ending) (W' : World) : Prop :=
  ∃ g, e = .returned (ndV ⟨k, 0, Trees.of [x], 0, 0⟩ (some ⟨g, 0, none⟩) 1) ∧ Below W.heap.size W W' ∧ W.heap.size ≤ g ∧ Blk W' g 39 (ndA x B cap)
set_option maxHeartbeats 1000000 in
theorem over_go (k : Int) (X : Nat) (x : Nd) (B : Option Addr) (cap : Nat) (W : World) (hX : Blk W X 39 (ndA x B cap)) :
    Calls Tryz.prog 147 #[.int .i64 k, .pointer (some ⟨X, 0, none⟩)] W (Overs k x B cap W) := by
  have c0 : W.cell? ⟨X, 0, none⟩ = some (.int .i64 x.kind) := hX.cell 0
  have c1 : W.cell? ⟨X, 1, none⟩ = some (.int .u64 ((word x.set.testBit 0 : Nat) : Int)) := hX.cell 1
  have c2 : W.cell? ⟨X, 2, none⟩ = some (.int .u64 ((word x.set.testBit 1 : Nat) : Int)) := hX.cell 2
  have c3 : W.cell? ⟨X, 3, none⟩ = some (.int .u64 ((word x.set.testBit 2 : Nat) : Int)) := hX.cell 3
  have c4 : W.cell? ⟨X, 4, none⟩ = some (.int .u64 ((word x.set.testBit 3 : Nat) : Int)) := hX.cell 4
  have c5 : W.cell? ⟨X, 5, none⟩ = some (.slice B x.kids.len cap) := hX.cell 5
  have c6 : W.cell? ⟨X, 6, none⟩ = some (.int .i64 x.lo) := hX.cell 6
  have c7 : W.cell? ⟨X, 7, none⟩ = some (.int .i64 x.hi) := hX.cell 7
  have hl := hX.lt
  clear hX
  go_enter Tryz.func147, Tryz.ntmps147
  go_wp2
  go_light
  refine bodyPost_ret (ret_node Tryz.results147 rfl ((Blk.new_at (by simp)).alloc _)) rfl ⟨W.heap.size + 1, by rw [ndV_plain]; rfl, ((Below.refl _ _).alloc (Nat.le_refl _) _).alloc (by simp) _, by omega, Blk.new_at (by simp)⟩

def lenOf : Value → Nat
  | .slice _ n _ => n
  | _ => 0
/-- What posts gives. -/
def Posted (n p : Nat) (v : Value) (m : Nat) (r : Nd × List Lex) (W : World) (e : Ending) (W' : World) : Prop :=
  ∃ B cap, e = .returned (ndV r.1 B cap) ∧ PAt W' p v r.2 m ∧ Still p W v W' v ∧ r.1.kids.len ≤ cap ∧ TreesAt W' (New n p v) r.1.kids B
/-- What holds in each round of posts: the box X holds the node so far. -/
def InPosts (n p : Nat) (v : Value) (m X : Nat) (r : Nd × List Lex) (W wr : World) : Prop :=
  ∃ z B cap L, postsG z L = r ∧ L.length ≤ 100000 ∧ PAt wr p v L m ∧ Still p W v wr v ∧ Blk wr X 39 (ndA z B cap) ∧ Blk wr (X + 1) 39 #[.int .i64 0, .int .u64 0, .int .u64 0, .int .u64 0, .int .u64 0, .slice none 0 0, .int .i64 0, .int .i64 0] ∧ z.kids.len ≤ cap ∧ TreesAt wr (fun b => New n p v b ∧ b ≠ X ∧ b ≠ X + 1) z.kids B

theorem PAt.len {w : World} {p : Nat} {v : Value} {L : List Lex} {m : Nat} (h : PAt w p v L m) : lenOf ((w.cell? ⟨p, 0, none⟩).getD undef) = L.length := by
  obtain ⟨A, cap, xs, hb, _⟩ := h
  have h0 : w.cell? ⟨p, 0, none⟩ = some (.slice A L.length cap) := hb.cell 0
  rw [h0]
  rfl
theorem only_put8 (w : World) (Y : Nat) (b0 b1 b2 b3 b4 b5 b6 b7 : Value) : w.grownBy ((((((((w.setCell ⟨Y, 0, none⟩ b0).setCell ⟨Y, 1, none⟩ b1).setCell ⟨Y, 2, none⟩ b2).setCell ⟨Y, 3, none⟩ b3).setCell ⟨Y, 4, none⟩ b4).setCell ⟨Y, 5, none⟩ b5).setCell ⟨Y, 6, none⟩ b6).setCell ⟨Y, 7, none⟩ b7) (some Y) :=
  only_set (only_set (only_set (only_set (only_set (only_set (only_set (only_set (only_refl w _) 0 b0) 1 b1) 2 b2) 3 b3) 4 b4) 5 b5) 6 b6) 7 b7
theorem PAt.only {w w' : World} {p Y : Nat} {v : Value} {L : List Lex} {m : Nat} (h : PAt w p v L m) (hg : w.grownBy w' (some Y)) (hp : p < Y) (hv : ∀ g, v.ownBlock = some g → g ≠ Y) : PAt w' p v L m := by
  obtain ⟨A, cap, xs, hb, hc, hl, hr⟩ := h
  exact ⟨A, cap, xs, hb.grown hg (by simp; omega), hc, hl.below ⟨hg.os, hg.tape, hg.output, hg.size, fun k hk => hg.block k (Nat.lt_trans hk hb.lt) (by simp; omega)⟩,
    hr.kept hg (by cases hvo : v.ownBlock with
      | none => exact .inl rfl
      | some g => exact .inr (fun e => hv g hvo (by simpa using e)))⟩
theorem Still.only {w w' : World} {p Y : Nat} {W : World} {v v' : Value} (h : Still p W v w v') (hg : w.grownBy w' (some Y)) (hp : p < W.heap.size) (hY : W.heap.size ≤ Y) : Still p W v w' v' :=
  ⟨h.1.grown hg (by have := h.1.size; omega) (fun k e => by cases e; omega), fun b hb ho => (hg.block b (Nat.lt_of_lt_of_le hb h.1.size) (by simp; omega)).trans (h.2.1 b hb ho), h.2.2⟩
theorem postsG_stop {x : Nd} {y : Lex} {L : List Lex} (h : isPost y.kind = false) : postsG x (y :: L) = (x, y :: L) := by
  conv => lhs; unfold postsG
  rw [if_neg (by rw [h]; decide)]
theorem postsG_go {x : Nd} {y : Lex} {L : List Lex} (h : isPost y.kind = true) : postsG x (y :: L) = postsG (postN y x) L := by
  conv => lhs; unfold postsG
  rw [if_pos h]

theorem ndA_plain (k : Int) (ks : Trees) (lo hi : Int) (B : Option Addr) (cap : Nat) : ndA ⟨k, 0, ks, lo, hi⟩ B cap = #[.int .i64 k, .int .u64 0, .int .u64 0, .int .u64 0, .int .u64 0, .slice B ks.len cap, .int .i64 lo, .int .i64 hi] := by
  unfold ndA
  simp only [word_zero]
  rfl
theorem posts_step {W w1 w2 w3 : World} {n p m g : Nat} {v : Value} {y : Lex} {L : List Lex} {z : Nd} {B : Option Addr} {cap : Nat} {k lo hi : Int} (hv : ∀ g, v.ownBlock = some g → g < W.heap.size) (hn : n ≤ W.heap.size) (hp : p < W.heap.size) (hS : Still p W v w1 v) (hP : PAt w1 p v (y :: L) m)
    (hb2 : Below w1.heap.size w1 w2) (hg2 : w1.heap.size ≤ g) (hB2 : Blk w2 g 39 (ndA z B cap)) (hY : Blk w1 (W.heap.size + 1) 39 #[.int .i64 0, .int .u64 0, .int .u64 0, .int .u64 0, .int .u64 0, .slice none 0 0, .int .i64 0, .int .i64 0])
    (hT : TreesAt w1 (fun b => New n p v b ∧ b ≠ W.heap.size ∧ b ≠ W.heap.size + 1) z.kids B) (hc : z.kids.len ≤ cap) (hlen : L.length + 1 ≤ 100000)
    (h3 : w2.grownBy w3 (some W.heap.size)) (hX3 : Blk w3 W.heap.size 39 (ndA ⟨k, 0, Trees.of [z], lo, hi⟩ (some ⟨g, 0, none⟩) 1)) :
    PAt w3 p v (y :: L) m ∧ ∀ w5, PAt w5 p v L m → Still p w3 v w5 v → InPosts n p v m W.heap.size (postsG ⟨k, 0, Trees.of [z], lo, hi⟩ L) W w5 ∧ lenOf ((w5.cell? ⟨p, 0, none⟩).getD undef) < lenOf ((w1.cell? ⟨p, 0, none⟩).getD undef) := by
  have hY1 := hY.lt
  have hs2 := hb2.size
  have hs3 := h3.size
  have hoX : Off p v W.heap.size := ⟨by omega, fun e => by have := hv _ e.symm; omega⟩
  have hoY : Off p v (W.heap.size + 1) := ⟨by omega, fun e => by have := hv _ e.symm; omega⟩
  have hog : Off p v g := ⟨by omega, fun e => by have := hv _ e.symm; omega⟩
  have h13 : Still p W v w3 v := (hS.more hb2 (Nat.le_of_lt hp)).only h3 hp (Nat.le_refl _)
  refine ⟨(hP.below hb2).only h3 hp (fun g e => by have := hv g e; omega), fun w5 hP5 hS5 => ⟨?_, ?_⟩⟩
  · have ht3 : TreesAt w3 (fun b => New n p v b ∧ b ≠ W.heap.size ∧ b ≠ W.heap.size + 1) (Trees.of [z]) (some ⟨g, 0, none⟩) := by
      refine TreesAt.one (t := 39) (hB2.grown h3 (by simp; omega)) hc ?_ ⟨⟨by omega, hog⟩, by omega, by omega⟩
      exact (hT.below hb2).keep (fun b o hb hl => World.cell?_of_block (h3.block b hl (by simp; omega))) (fun b hb _ => hb)
    refine ⟨⟨k, 0, Trees.of [z], lo, hi⟩, some ⟨g, 0, none⟩, 1, L, rfl, by omega, hP5, h13.trans hS5, hS5.blk hoX hX3, hS5.blk hoY ((hY.below hb2 hY1).grown h3 (by simp)), Nat.le_refl _, ?_⟩
    exact ht3.keep (fun b o hb hl => hS5.cell hb.1.2 hl o) (fun b hb hl => ⟨⟨hb.1.1, hS5.off hb.1.2 hl⟩, hb.2⟩)
  · rw [hP5.len, hP.len]
    simp
set_option maxHeartbeats 4000000 in
theorem posts_go {W : World} {n p : Nat} {v : Value} {L0 : List Lex} {m : Nat} (x : Nd) (B : Option Addr) (cap : Nat) (h : PAt W p v L0 m) (hx : x.kids.len ≤ cap) (ht : TreesAt W (New n p v) x.kids B) (hn : n ≤ W.heap.size) (hlen : L0.length ≤ 100000) :
    Calls Tryz.prog 122 #[.pointer (some ⟨p, 0, none⟩), ndV x B cap] W (Posted n p v m (postsG x L0) W) := by
  have hp := h.lt
  have hv : ∀ g, v.ownBlock = some g → g < W.heap.size := by
    obtain ⟨_, _, _, _, _, _, hr⟩ := h
    exact fun g e => (hr.lt g e).2
  have h0 : InPosts n p v m W.heap.size (postsG x L0) W ((W.alloc (.cells (ndA x B cap) 39)).alloc (.cells #[.int .i64 0, .int .u64 0, .int .u64 0, .int .u64 0, .int .u64 0, .slice none 0 0, .int .i64 0, .int .i64 0] 39)) := by
    have hb : Below W.heap.size W ((W.alloc (.cells (ndA x B cap) 39)).alloc (.cells #[.int .i64 0, .int .u64 0, .int .u64 0, .int .u64 0, .int .u64 0, .slice none 0 0, .int .i64 0, .int .i64 0] 39)) := ((Below.refl _ _).alloc (Nat.le_refl _) _).alloc (by simp) _
    exact ⟨x, B, cap, L0, rfl, hlen, h.below hb, Still.of_below hb (Nat.le_of_lt hp), (Blk.new _ _ _).alloc _, Blk.new_at (by simp), hx, (ht.weak (fun b h1 h2 => ⟨h1, by omega, by omega⟩)).below hb⟩
  have H0 := Lib.hid h0
  clear h0 h ht
  unfold ndA at H0
  unfold ndV
  go_enter Tryz.func122, Tryz.ntmps122
  go_wp2
  go_loopw [7] (fun _ wr => InPosts n p v m W.heap.size (postsG x L0) W wr) (fun _ wr => lenOf ((wr.cell? ⟨p, 0, none⟩).getD undef))
  case atStart => exact H0.out
  case round =>
    obtain ⟨z, B, cap, L, hr, hlen, hP, hS, hX, hY, hc, ht⟩ := hrel
    have hw : W.heap.size ≤ wr.heap.size := hS.1.size
    have hXl := hX.lt
    have hYl := hY.lt
    have x0 : wr.cell? ⟨W.heap.size, 0, none⟩ = some (.int .i64 z.kind) := hX.cell 0
    have x1 : wr.cell? ⟨W.heap.size, 1, none⟩ = some (.int .u64 ((word z.set.testBit 0 : Nat) : Int)) := hX.cell 1
    have x2 : wr.cell? ⟨W.heap.size, 2, none⟩ = some (.int .u64 ((word z.set.testBit 1 : Nat) : Int)) := hX.cell 2
    have x3 : wr.cell? ⟨W.heap.size, 3, none⟩ = some (.int .u64 ((word z.set.testBit 2 : Nat) : Int)) := hX.cell 3
    have x4 : wr.cell? ⟨W.heap.size, 4, none⟩ = some (.int .u64 ((word z.set.testBit 3 : Nat) : Int)) := hX.cell 4
    have x5 : wr.cell? ⟨W.heap.size, 5, none⟩ = some (.slice B z.kids.len cap) := hX.cell 5
    have x6 : wr.cell? ⟨W.heap.size, 6, none⟩ = some (.int .i64 z.lo) := hX.cell 6
    have x7 : wr.cell? ⟨W.heap.size, 7, none⟩ = some (.int .i64 z.hi) := hX.cell 7
    have y0 : wr.cell? ⟨W.heap.size + 1, 0, none⟩ = some (.int .i64 0) := hY.cell 0
    have y1 : wr.cell? ⟨W.heap.size + 1, 1, none⟩ = some (.int .u64 0) := hY.cell 1
    have y2 : wr.cell? ⟨W.heap.size + 1, 2, none⟩ = some (.int .u64 0) := hY.cell 2
    have y3 : wr.cell? ⟨W.heap.size + 1, 3, none⟩ = some (.int .u64 0) := hY.cell 3
    have y4 : wr.cell? ⟨W.heap.size + 1, 4, none⟩ = some (.int .u64 0) := hY.cell 4
    have y5 : wr.cell? ⟨W.heap.size + 1, 5, none⟩ = some (.slice none 0 0) := hY.cell 5
    have y6 : wr.cell? ⟨W.heap.size + 1, 6, none⟩ = some (.int .i64 0) := hY.cell 6
    have y7 : wr.cell? ⟨W.heap.size + 1, 7, none⟩ = some (.int .i64 0) := hY.cell 7
    have g0 := hY.frozen 0
    have g1 := hY.frozen 1
    have g2 := hY.frozen 2
    have g3 := hY.frozen 3
    have g4 := hY.frozen 4
    have g5 := hY.frozen 5
    have g6 := hY.frozen 6
    have g7 := hY.frozen 7
    have HP := Lib.hid hP
    have HS := Lib.hid hS
    have HX := Lib.hid hX
    have HY := Lib.hid hY
    have HT := Lib.hid ht
    have HR := Lib.hid hr
    clear hP hS hX hY ht hr H0
    cases L with
    | nil =>
      go_wp2_with fail
      refine (peek_nil HP.out).mono ?_
      rintro e w1 ⟨rfl, rfl⟩
      go_wp2
      go_light
      have hg := only_put8 w1 (W.heap.size + 1) (.int .i64 z.kind) (.int .u64 ((word z.set.testBit 0 : Nat) : Int)) (.int .u64 ((word z.set.testBit 1 : Nat) : Int)) (.int .u64 ((word z.set.testBit 2 : Nat) : Int)) (.int .u64 ((word z.set.testBit 3 : Nat) : Int)) (.slice B z.kids.len cap) (.int .i64 z.lo) (.int .i64 z.hi)
      rw [← HR.out]
      refine bodyPost_ret (ret_node Tryz.results122 rfl (HY.out.put8 _ _ _ _ _ _ _ _)) rfl ⟨B, cap, rfl, HP.out.only hg (by omega) (fun g e => by have := hv g e; omega), HS.out.only hg (by omega) (by omega), hc, HT.out.keep (fun b o hb hl => World.cell?_of_block (hg.block b hl (fun e => hb.2.2 (Option.some.inj e)))) (fun b hb hl => hb.1)⟩

    | cons y L =>
      simp only [List.length_cons] at hlen
      by_cases hpost : isPost y.kind = true
      · have hk := (isPost_iff _).1 hpost
        have HR := Lib.hid ((postsG_go hpost).symm.trans HR.out)
        clear hpost
        by_cases h8 : y.kind = 8
        · have HZ := Lib.hid (show postsG x L0 = postsG ⟨9, 0, Trees.of [z], y.lo, y.hi⟩ L by rw [← HR.out]; unfold postN; rw [if_pos h8])
          go_wp2_with fail
          refine (peek_go HP.out (by omega)).mono ?_
          rintro e w1 ⟨rfl, rfl⟩
          rw [h8]
          go_wp2_with fail
          refine (over_go 9 W.heap.size z B cap w1 HX.out).mono ?_
          rintro e w2 ⟨g, rfl, hb2, hg2, hB2⟩
          rw [ndV_plain]
          have hX2 := HX.out.below hb2 hXl
          have hsz2 := hb2.size
          have f0 := hX2.frozen 0
          have f1 := hX2.frozen 1
          have f2 := hX2.frozen 2
          have f3 := hX2.frozen 3
          have f4 := hX2.frozen 4
          have f5 := hX2.frozen 5
          have f6 := hX2.frozen 6
          have f7 := hX2.frozen 7
          have e0 : w2.cell? ⟨W.heap.size, 0, none⟩ = some (.int .i64 z.kind) := hX2.cell 0
          have e1 : w2.cell? ⟨W.heap.size, 1, none⟩ = some (.int .u64 ((word z.set.testBit 0 : Nat) : Int)) := hX2.cell 1
          have e2 : w2.cell? ⟨W.heap.size, 2, none⟩ = some (.int .u64 ((word z.set.testBit 1 : Nat) : Int)) := hX2.cell 2
          have e3 : w2.cell? ⟨W.heap.size, 3, none⟩ = some (.int .u64 ((word z.set.testBit 2 : Nat) : Int)) := hX2.cell 3
          have e4 : w2.cell? ⟨W.heap.size, 4, none⟩ = some (.int .u64 ((word z.set.testBit 3 : Nat) : Int)) := hX2.cell 4
          have e5 : w2.cell? ⟨W.heap.size, 5, none⟩ = some (.slice B z.kids.len cap) := hX2.cell 5
          have e6 : w2.cell? ⟨W.heap.size, 6, none⟩ = some (.int .i64 z.lo) := hX2.cell 6
          have e7 : w2.cell? ⟨W.heap.size, 7, none⟩ = some (.int .i64 z.hi) := hX2.cell 7
          have HX2 := Lib.hid hX2
          have HB2 := Lib.hid hB2
          have Hb2 := Lib.hid hb2
          clear hX2 hB2 hb2 x0 x1 x2 x3 x4 x5 x6 x7 y0 y1 y2 y3 y4 y5 y6 y7 g0 g1 g2 g3 g4 g5 g6 g7
          obtain ⟨A0, cap0, xs0, hb0, hc0, hl0, _⟩ := (HP.out.below Hb2.out)
          obtain ⟨b0, o0, rfl, hbp, ⟨q0, q1, q2, q3, q4, q5, q6, q7⟩, _⟩ := hl0.cons
          have p0 : w2.cell? ⟨p, 0, none⟩ = some (.slice (some ⟨b0, o0, none⟩) (L.length + 1) cap0) := hb0.cell 0
          clear hb0 hl0 q0 q1 q2 q3 q4 q5
          have hz3 : (0 : Int) < (L.length : Int) + 1 := by omega
          have hne1 : ¬ p = W.heap.size := by omega
          have hne2 : ¬ b0 = W.heap.size := by omega
          go_wp2
          go_region
          have hg3 := only_put8 w2 W.heap.size (.int .i64 9) (.int .u64 0) (.int .u64 0) (.int .u64 0) (.int .u64 0) (.slice (some ⟨g, 0, none⟩) (Trees.of [z]).len 1) (.int .i64 0) (.int .i64 0)
          have hx3 := HX2.out.put8 (.int .i64 9) (.int .u64 0) (.int .u64 0) (.int .u64 0) (.int .u64 0) (.slice (some ⟨g, 0, none⟩) (Trees.of [z]).len 1) (.int .i64 0) (.int .i64 0)
          have hx4 := Blk.set_ hx3 6 (.int .i64 y.lo)
          have hx5 := Blk.set_ hx4 7 (.int .i64 y.hi)
          have hstep := posts_step hv hn hp HS.out HP.out Hb2.out hg2 HB2.out HY.out HT.out hc hlen (only_drew (only_set (only_set hg3 6 (.int .i64 y.lo)) 7 (.int .i64 y.hi))) (by rw [ndA_plain]; exact Blk.drew hx5)
          clear hg3 hx3 hx4 hx5
          have HN := Lib.hid hstep.2
          have HM := Lib.hid hstep.1
          clear hstep
          go_wp2_with fail
          refine (next_any HM.out (by omega)).mono ?_
          rintro e w5 ⟨rfl, hP5, hS5⟩
          have HF := Lib.hid (HN.out w5 hP5 hS5)
          clear hP5 hS5
          unfold lexV
          go_wp2
          go_roundw
          case rel => rw [HZ.out]; exact HF.out.1
          case measure => exact HF.out.2
        · have hk : y.kind = 5 ∨ y.kind = 6 ∨ y.kind = 7 := by omega
          rcases hk with hk | hk | hk
          · have HZ := Lib.hid (show postsG x L0 = postsG ⟨6, 0, Trees.of [z], 0, 0⟩ L by rw [← HR.out]; unfold postN; rw [if_neg h8, hk]; rfl)
            go_wp2_with fail
            refine (peek_go HP.out (by omega)).mono ?_
            rintro e w1 ⟨rfl, rfl⟩
            rw [hk]
            go_wp2_with fail
            refine (over_go 6 W.heap.size z B cap w1 HX.out).mono ?_
            rintro e w2 ⟨g, rfl, hb2, hg2, hB2⟩
            rw [ndV_plain]
            have hX2 := HX.out.below hb2 hXl
            have hsz2 := hb2.size
            have f0 := hX2.frozen 0
            have f1 := hX2.frozen 1
            have f2 := hX2.frozen 2
            have f3 := hX2.frozen 3
            have f4 := hX2.frozen 4
            have f5 := hX2.frozen 5
            have f6 := hX2.frozen 6
            have f7 := hX2.frozen 7
            have e0 : w2.cell? ⟨W.heap.size, 0, none⟩ = some (.int .i64 z.kind) := hX2.cell 0
            have e1 : w2.cell? ⟨W.heap.size, 1, none⟩ = some (.int .u64 ((word z.set.testBit 0 : Nat) : Int)) := hX2.cell 1
            have e2 : w2.cell? ⟨W.heap.size, 2, none⟩ = some (.int .u64 ((word z.set.testBit 1 : Nat) : Int)) := hX2.cell 2
            have e3 : w2.cell? ⟨W.heap.size, 3, none⟩ = some (.int .u64 ((word z.set.testBit 2 : Nat) : Int)) := hX2.cell 3
            have e4 : w2.cell? ⟨W.heap.size, 4, none⟩ = some (.int .u64 ((word z.set.testBit 3 : Nat) : Int)) := hX2.cell 4
            have e5 : w2.cell? ⟨W.heap.size, 5, none⟩ = some (.slice B z.kids.len cap) := hX2.cell 5
            have e6 : w2.cell? ⟨W.heap.size, 6, none⟩ = some (.int .i64 z.lo) := hX2.cell 6
            have e7 : w2.cell? ⟨W.heap.size, 7, none⟩ = some (.int .i64 z.hi) := hX2.cell 7
            have HX2 := Lib.hid hX2
            have HB2 := Lib.hid hB2
            have Hb2 := Lib.hid hb2
            clear hX2 hB2 hb2 x0 x1 x2 x3 x4 x5 x6 x7 y0 y1 y2 y3 y4 y5 y6 y7 g0 g1 g2 g3 g4 g5 g6 g7
            go_wp2_with fail
            have hg3 := only_put8 w2 W.heap.size (.int .i64 6) (.int .u64 0) (.int .u64 0) (.int .u64 0) (.int .u64 0) (.slice (some ⟨g, 0, none⟩) (Trees.of [z]).len 1) (.int .i64 0) (.int .i64 0)
            have hx3 := HX2.out.put8 (.int .i64 6) (.int .u64 0) (.int .u64 0) (.int .u64 0) (.int .u64 0) (.slice (some ⟨g, 0, none⟩) (Trees.of [z]).len 1) (.int .i64 0) (.int .i64 0)
            have hstep := posts_step hv hn hp HS.out HP.out Hb2.out hg2 HB2.out HY.out HT.out hc hlen hg3 (by rw [ndA_plain]; exact hx3)
            clear hg3 hx3
            have HN := Lib.hid hstep.2
            refine (next_any hstep.1 (by omega)).mono ?_
            clear hstep
            rintro e w5 ⟨rfl, hP5, hS5⟩
            have HF := Lib.hid (HN.out w5 hP5 hS5)
            clear hP5 hS5
            unfold lexV
            go_wp2
            go_roundw
            case rel => rw [HZ.out]; exact HF.out.1
            case measure => exact HF.out.2
          · have HZ := Lib.hid (show postsG x L0 = postsG ⟨7, 0, Trees.of [z], 0, 0⟩ L by rw [← HR.out]; unfold postN; rw [if_neg h8, hk]; rfl)
            go_wp2_with fail
            refine (peek_go HP.out (by omega)).mono ?_
            rintro e w1 ⟨rfl, rfl⟩
            rw [hk]
            go_wp2_with fail
            refine (over_go 7 W.heap.size z B cap w1 HX.out).mono ?_
            rintro e w2 ⟨g, rfl, hb2, hg2, hB2⟩
            rw [ndV_plain]
            have hX2 := HX.out.below hb2 hXl
            have hsz2 := hb2.size
            have f0 := hX2.frozen 0
            have f1 := hX2.frozen 1
            have f2 := hX2.frozen 2
            have f3 := hX2.frozen 3
            have f4 := hX2.frozen 4
            have f5 := hX2.frozen 5
            have f6 := hX2.frozen 6
            have f7 := hX2.frozen 7
            have e0 : w2.cell? ⟨W.heap.size, 0, none⟩ = some (.int .i64 z.kind) := hX2.cell 0
            have e1 : w2.cell? ⟨W.heap.size, 1, none⟩ = some (.int .u64 ((word z.set.testBit 0 : Nat) : Int)) := hX2.cell 1
            have e2 : w2.cell? ⟨W.heap.size, 2, none⟩ = some (.int .u64 ((word z.set.testBit 1 : Nat) : Int)) := hX2.cell 2
            have e3 : w2.cell? ⟨W.heap.size, 3, none⟩ = some (.int .u64 ((word z.set.testBit 2 : Nat) : Int)) := hX2.cell 3
            have e4 : w2.cell? ⟨W.heap.size, 4, none⟩ = some (.int .u64 ((word z.set.testBit 3 : Nat) : Int)) := hX2.cell 4
            have e5 : w2.cell? ⟨W.heap.size, 5, none⟩ = some (.slice B z.kids.len cap) := hX2.cell 5
            have e6 : w2.cell? ⟨W.heap.size, 6, none⟩ = some (.int .i64 z.lo) := hX2.cell 6
            have e7 : w2.cell? ⟨W.heap.size, 7, none⟩ = some (.int .i64 z.hi) := hX2.cell 7
            have HX2 := Lib.hid hX2
            have HB2 := Lib.hid hB2
            have Hb2 := Lib.hid hb2
            clear hX2 hB2 hb2 x0 x1 x2 x3 x4 x5 x6 x7 y0 y1 y2 y3 y4 y5 y6 y7 g0 g1 g2 g3 g4 g5 g6 g7
            go_wp2_with fail
            have hg3 := only_put8 w2 W.heap.size (.int .i64 7) (.int .u64 0) (.int .u64 0) (.int .u64 0) (.int .u64 0) (.slice (some ⟨g, 0, none⟩) (Trees.of [z]).len 1) (.int .i64 0) (.int .i64 0)
            have hx3 := HX2.out.put8 (.int .i64 7) (.int .u64 0) (.int .u64 0) (.int .u64 0) (.int .u64 0) (.slice (some ⟨g, 0, none⟩) (Trees.of [z]).len 1) (.int .i64 0) (.int .i64 0)
            have hstep := posts_step hv hn hp HS.out HP.out Hb2.out hg2 HB2.out HY.out HT.out hc hlen hg3 (by rw [ndA_plain]; exact hx3)
            clear hg3 hx3
            have HN := Lib.hid hstep.2
            refine (next_any hstep.1 (by omega)).mono ?_
            clear hstep
            rintro e w5 ⟨rfl, hP5, hS5⟩
            have HF := Lib.hid (HN.out w5 hP5 hS5)
            clear hP5 hS5
            unfold lexV
            go_wp2
            go_roundw
            case rel => rw [HZ.out]; exact HF.out.1
            case measure => exact HF.out.2
          · have HZ := Lib.hid (show postsG x L0 = postsG ⟨8, 0, Trees.of [z], 0, 0⟩ L by rw [← HR.out]; unfold postN; rw [if_neg h8, hk]; rfl)
            go_wp2_with fail
            refine (peek_go HP.out (by omega)).mono ?_
            rintro e w1 ⟨rfl, rfl⟩
            rw [hk]
            go_wp2_with fail
            refine (over_go 8 W.heap.size z B cap w1 HX.out).mono ?_
            rintro e w2 ⟨g, rfl, hb2, hg2, hB2⟩
            rw [ndV_plain]
            have hX2 := HX.out.below hb2 hXl
            have hsz2 := hb2.size
            have f0 := hX2.frozen 0
            have f1 := hX2.frozen 1
            have f2 := hX2.frozen 2
            have f3 := hX2.frozen 3
            have f4 := hX2.frozen 4
            have f5 := hX2.frozen 5
            have f6 := hX2.frozen 6
            have f7 := hX2.frozen 7
            have e0 : w2.cell? ⟨W.heap.size, 0, none⟩ = some (.int .i64 z.kind) := hX2.cell 0
            have e1 : w2.cell? ⟨W.heap.size, 1, none⟩ = some (.int .u64 ((word z.set.testBit 0 : Nat) : Int)) := hX2.cell 1
            have e2 : w2.cell? ⟨W.heap.size, 2, none⟩ = some (.int .u64 ((word z.set.testBit 1 : Nat) : Int)) := hX2.cell 2
            have e3 : w2.cell? ⟨W.heap.size, 3, none⟩ = some (.int .u64 ((word z.set.testBit 2 : Nat) : Int)) := hX2.cell 3
            have e4 : w2.cell? ⟨W.heap.size, 4, none⟩ = some (.int .u64 ((word z.set.testBit 3 : Nat) : Int)) := hX2.cell 4
            have e5 : w2.cell? ⟨W.heap.size, 5, none⟩ = some (.slice B z.kids.len cap) := hX2.cell 5
            have e6 : w2.cell? ⟨W.heap.size, 6, none⟩ = some (.int .i64 z.lo) := hX2.cell 6
            have e7 : w2.cell? ⟨W.heap.size, 7, none⟩ = some (.int .i64 z.hi) := hX2.cell 7
            have HX2 := Lib.hid hX2
            have HB2 := Lib.hid hB2
            have Hb2 := Lib.hid hb2
            clear hX2 hB2 hb2 x0 x1 x2 x3 x4 x5 x6 x7 y0 y1 y2 y3 y4 y5 y6 y7 g0 g1 g2 g3 g4 g5 g6 g7
            go_wp2_with fail
            have hg3 := only_put8 w2 W.heap.size (.int .i64 8) (.int .u64 0) (.int .u64 0) (.int .u64 0) (.int .u64 0) (.slice (some ⟨g, 0, none⟩) (Trees.of [z]).len 1) (.int .i64 0) (.int .i64 0)
            have hx3 := HX2.out.put8 (.int .i64 8) (.int .u64 0) (.int .u64 0) (.int .u64 0) (.int .u64 0) (.slice (some ⟨g, 0, none⟩) (Trees.of [z]).len 1) (.int .i64 0) (.int .i64 0)
            have hstep := posts_step hv hn hp HS.out HP.out Hb2.out hg2 HB2.out HY.out HT.out hc hlen hg3 (by rw [ndA_plain]; exact hx3)
            clear hg3 hx3
            have HN := Lib.hid hstep.2
            refine (next_any hstep.1 (by omega)).mono ?_
            clear hstep
            rintro e w5 ⟨rfl, hP5, hS5⟩
            have HF := Lib.hid (HN.out w5 hP5 hS5)
            clear hP5 hS5
            unfold lexV
            go_wp2
            go_roundw
            case rel => rw [HZ.out]; exact HF.out.1
            case measure => exact HF.out.2
      · have hk : ¬ (5 ≤ y.kind ∧ y.kind ≤ 8) := fun h => hpost ((isPost_iff _).2 h)
        have k5 : (y.kind == 5) = false := by simp; omega
        have k6 : (y.kind == 6) = false := by simp; omega
        have k7 : (y.kind == 7) = false := by simp; omega
        have k8 : (y.kind == 8) = false := by simp; omega
        have HR := Lib.hid ((postsG_stop (by simpa using hpost)).symm.trans HR.out)
        go_wp2_with fail
        refine (peek_go HP.out (by omega)).mono ?_
        rintro e w1 ⟨rfl, rfl⟩
        go_wp2
        go_light
        have hg := only_put8 w1 (W.heap.size + 1) (.int .i64 z.kind) (.int .u64 ((word z.set.testBit 0 : Nat) : Int)) (.int .u64 ((word z.set.testBit 1 : Nat) : Int)) (.int .u64 ((word z.set.testBit 2 : Nat) : Int)) (.int .u64 ((word z.set.testBit 3 : Nat) : Int)) (.slice B z.kids.len cap) (.int .i64 z.lo) (.int .i64 z.hi)
        rw [← HR.out]
        refine bodyPost_ret (ret_node Tryz.results122 rfl (HY.out.put8 _ _ _ _ _ _ _ _)) rfl ⟨B, cap, rfl, HP.out.only hg (by omega) (fun g e => by have := hv g e; omega), HS.out.only hg (by omega) (by omega), hc, HT.out.keep (fun b o hb hl => World.cell?_of_block (hg.block b hl (fun e => hb.2.2 (Option.some.inj e)))) (fun b hb hl => hb.1)⟩

end Go.Proofs.YtajohcknenngnaaGreat
namespace Go.Proofs.YtajohcknenngnaaGreat
open Go.RowKit
set_option linter.unusedSimpArgs false
set_option linter.unusedVariables false
set_option maxRecDepth 100000

theorem tbytes_any (p : Nat → Bool) (w : World) :
    Calls Tryz.prog 44 #[.agg #[.int .u64 ((word (p) 0 : Nat) : Int), .int .u64 ((word (p) 1 : Nat) : Int), .int .u64 ((word (p) 2 : Nat) : Int), .int .u64 ((word (p) 3 : Nat) : Int)]] w fun e w' => e = .returned (ndV (leafN (maskOf p)) none 0) ∧ Below w.heap.size w w' := by
  have hv : ndV (leafN (maskOf p)) none 0 = .agg #[.int .i64 3, .int .u64 ((word (p) 0 : Nat) : Int), .int .u64 ((word (p) 1 : Nat) : Int), .int .u64 ((word (p) 2 : Nat) : Int), .int .u64 ((word (p) 3 : Nat) : Int), .slice none 0 0, .int .i64 0, .int .i64 0] := by
    unfold ndV leafN
    dsimp only
    rw [word_mask p 0 (by decide), word_mask p 1 (by decide), word_mask p 2 (by decide), word_mask p 3 (by decide)]
    rfl
  rw [hv]
  go_enter Tryz.func44, Tryz.ntmps44
  go_wp2
  go_light
  refine bodyPost_ret (ret_node Tryz.results44 rfl (Blk.new_at (by simp))) rfl ⟨rfl, ((Below.refl _ _).alloc (Nat.le_refl _) _).alloc (by simp) _⟩
theorem tempty_any (w : World) :
    Calls Tryz.prog 123 #[] w fun e w' => e = .returned (ndV emptyN none 0) ∧ Below w.heap.size w w' := by
  have hv : ndV emptyN none 0 = .agg #[.int .i64 2, .int .u64 0, .int .u64 0, .int .u64 0, .int .u64 0, .slice none 0 0, .int .i64 0, .int .i64 0] := ndV_plain _ _ _ _ _ _
  rw [hv]
  go_enter Tryz.func123, Tryz.ntmps123
  go_wp2
  go_light
  refine bodyPost_ret (ret_node Tryz.results123 rfl (Blk.new_at (by simp))) rfl ⟨rfl, (Below.refl _ _).alloc (Nat.le_refl _) _⟩

/-- What flat gives. -/
def Flatted (P : Nat → Prop) (x : Nd) (w : World) (e : Ending) (w' : World) : Prop :=
  ∃ B cap, e = .returned (ndV x B cap) ∧ Below w.heap.size w w' ∧ x.kids.len ≤ cap ∧ TreesAt w' P x.kids B
theorem flatN_many (k : Int) (l : List Nd) (h : l.length ≠ 1) : flatN k l = ⟨k, 0, Trees.of l, 0, 0⟩ := by
  match l, h with
  | [], _ => rfl
  | [x], h => exact absurd rfl h
  | x :: y :: l, _ => rfl
set_option maxHeartbeats 1000000 in
theorem flat_go (k : Int) (P : Nat → Prop) (A : Option Addr) (cap : Nat) (l : List Nd) (w : World) (hc : l.length ≤ cap) (ht : TreesAt w P (Trees.of l) A) :
    Calls Tryz.prog 102 #[.int .i64 k, .slice A l.length cap] w (Flatted P (flatN k l) w) := by
  by_cases h1 : l.length = 1
  · obtain ⟨x, rfl⟩ := List.length_eq_one_iff.1 h1
    obtain ⟨b, o, B, cap', rfl, hb, hc', hn, hk⟩ := ht.get (i := 0) (x := x) (by rw [Trees.list_of]; rfl)
    obtain ⟨c0, c1, c2, c3, c4, c5, c6, c7⟩ := hn
    have hbl := World.block_lt_of_cell? w _ c0
    have HK := Lib.hid hk
    simp only [Nat.zero_mul, Nat.add_zero] at c0 c1 c2 c3 c4 c5 c6 c7
    clear hk ht h1
    show Calls _ _ #[.int .i64 k, .slice (some ⟨b, o, none⟩) 1 cap] w (Flatted P x w)
    go_enter Tryz.func102, Tryz.ntmps102
    go_wp2
    go_light
    exact bodyPost_ret (ret_node Tryz.results102 rfl (Blk.new_at (by simp))) rfl ⟨B, cap', rfl, (Below.refl _ _).alloc (Nat.le_refl _) _, hc', HK.out.below ((Below.refl _ _).alloc (Nat.le_refl _) _)⟩
  · rw [flatN_many k l h1]
    have hd : ((l.length : Int) == 1) = false := by simp; omega
    have HT := Lib.hid ht
    clear ht h1
    go_enter Tryz.func102, Tryz.ntmps102
    go_wp2
    go_light
    exact bodyPost_ret (ret_node Tryz.results102 rfl (Blk.new_at (by simp))) rfl ⟨A, cap, by rw [ndV_plain, Trees.len_of], (Below.refl _ _).alloc (Nat.le_refl _) _, by rw [Trees.len_of]; exact hc, HT.out.below ((Below.refl _ _).alloc (Nat.le_refl _) _)⟩

/-! What the parser's functions give. -/
def badV (k q : Int) : Value := .iface 26 (.agg #[.int .i64 k, .int .i64 q])
def Panics (p : Nat) (r : Wrong) (W : World) (e : Ending) (W' : World) : Prop := e = .panicked [{ v := badV r.1 r.2, recovered := false }] ∧ Below p W W'
/-- A node, and what is left. -/
def Gives (p m : Nat) (v : Value) (r : Except Wrong (Nd × List Lex)) (W : World) (e : Ending) (W' : World) : Prop :=
  match r with
  | .ok (x, R) => ∃ v' B cap, e = .returned (ndV x B cap) ∧ PAt W' p v' R m ∧ Still p W v W' v' ∧ x.kids.len ≤ cap ∧ TreesAt W' (New W.heap.size p v') x.kids B
  | .error x => Panics p x W e W'
def zeroN : Value := .agg #[.int .i64 0, .int .u64 0, .int .u64 0, .int .u64 0, .int .u64 0, .slice none 0 0, .int .i64 0, .int .i64 0]
/-- A node and true, or false. -/
def GivesO (p m : Nat) (v : Value) (r : Except Wrong (Option Nd × List Lex)) (W : World) (e : Ending) (W' : World) : Prop :=
  match r with
  | .ok (some x, R) => ∃ v' B cap, e = .returned (.tuple #[ndV x B cap, .bool true]) ∧ PAt W' p v' R m ∧ Still p W v W' v' ∧ x.kids.len ≤ cap ∧ TreesAt W' (New W.heap.size p v') x.kids B
  | .ok (none, R) => ∃ v', e = .returned (.tuple #[zeroN, .bool false]) ∧ PAt W' p v' R m ∧ Still p W v W' v'
  | .error x => Panics p x W e W'
def partR : Except Wrong (List Nd × List Lex) → Except Wrong (Nd × List Lex)
  | .ok (ps, R) => .ok (partN ps, R)
  | .error e => .error e
def AltC (n : Nat) : Prop := ∀ (p : Nat) (op : List Int) (L : List Lex) (W : World) (v : Value), PAt W p v L op.length → L.length ≤ 100000 → op.length ≤ 64 → 3 * L.length + 2 < n →
  Calls Tryz.prog 68 #[.pointer (some ⟨p, 0, none⟩)] W (Gives p op.length v (altG n op [] L) W)
def PartC (n : Nat) : Prop := ∀ (p : Nat) (op : List Int) (L : List Lex) (W : World) (v : Value), PAt W p v L op.length → L.length ≤ 100000 → op.length ≤ 64 → 3 * L.length + 1 < n →
  Calls Tryz.prog 99 #[.pointer (some ⟨p, 0, none⟩)] W (Gives p op.length v (partR (piecesG n op [] L)) W)
def AtomC (n : Nat) : Prop := ∀ (p : Nat) (op : List Int) (L : List Lex) (W : World) (v : Value), PAt W p v L op.length → L.length ≤ 100000 → op.length ≤ 64 → 3 * L.length < n →
  Calls Tryz.prog 121 #[.pointer (some ⟨p, 0, none⟩)] W (GivesO p op.length v (atomG n op L) W)

end Go.Proofs.YtajohcknenngnaaGreat
