/-
  Reading a lexeme sees no more than its own bytes: so the lexemes of a text's beginning, and of its rest, are those of the text. No program in sight. May a lexeme be? What is read may be; its places rise. No program in sight. The tree of lexemes, by a plain reading from the left; and what is wrong first. No program in sight. The parser in memory; the contracts of peek, next and fail. The contract of the parser's posts; a row of one node. The contracts of flat, tree.Bytes, tree.Empty; what the parser's functions give. The contracts of the reference's trees: Of, Bytes, Many, Cat, Alt, Rep. The contract of the parser's group. The contract of the parser's atom. Rows of nodes that the parser's functions make while the parser goes on. The contracts of the parser's part and alternative. The deferred closure of parse.Lexemes: of a frame that panics, of one that returns.
-/
import Derived.Deep.Light
import Derived.LoopTactic
import Derived.RegionTactic
import Derived.BigRegion
import Derived.WalkSmall
import Derived.Tactics2
import Derived.Defers
import Derived.Recover
import Derived.Test.YtkelkadalikibaaQZ01
namespace Go.Proofs.Ytkelkadalikibaa
set_option linter.unusedSimpArgs false
set_option linter.unusedVariables false

/-- The bytes of cs from i + q to j + q are those of bs from i + p on. -/
def Part (cs bs : List Nat) (p q i j : Nat) : Prop := ∀ m, i ≤ m → m < j → m + q < cs.length ∧ m + p < bs.length ∧ byteAt cs (m + q) = byteAt bs (m + p)
section
variable {cs bs : List Nat} {p q i j : Nat}
theorem Part.sub (h : Part cs bs p q i j) {i' j' : Nat} (hi : i ≤ i') (hj : j' ≤ j) : Part cs bs p q i' j' := fun m a b => h m (by omega) (by omega)
theorem Part.has (h : Part cs bs p q i j) {m : Nat} (h1 : i ≤ m) (h2 : m < j) (c : Nat) : hasAt cs ((m + q : Nat) : Int) c = hasAt bs ((m + p : Nat) : Int) c := by
  have a := h m h1 h2
  rw [hasAt_in c a.1, hasAt_in c a.2.1, a.2.2]
theorem Part.has1 (h : Part cs bs p q i j) {m : Nat} (h1 : i ≤ m + 1) (h2 : m + 1 < j) (c : Nat) : hasAt cs (((m + q : Nat) : Int) + 1) c = hasAt bs (((m + p : Nat) : Int) + 1) c := by
  have a := h.has h1 h2 c
  rw [show (((m + q : Nat) : Int) + 1) = ((m + 1 + q : Nat) : Int) by omega, a]
  congr 1
  omega
end

theorem escS_move {cs bs : List Nat} {p q i j c : Nat} (h : escS bs (i + p) = some (c, j + p)) (hp : Part cs bs p q i j) : escS cs (i + q) = some (c, j + q) := by
  unfold escS at h
  rw [show i + p + 1 = i + 1 + p by omega, show i + p + 2 = i + 2 + p by omega, show i + p + 3 = i + 3 + p by omega, show i + p + 4 = i + 4 + p by omega] at h
  by_cases h0 : bs.length ≤ i + 1 + p
  · rw [if_pos h0] at h; cases h
  rw [if_neg h0] at h
  by_cases h1 : byteAt bs (i + 1 + p) = 110
  · rw [if_pos h1] at h
    simp at h
    obtain ⟨rfl, hj⟩ := h
    subst hj
    have a := hp (i + 1) (by omega) (by omega)
    rw [show i + 1 + q = i + q + 1 by omega] at a
    rw [show i + 2 + q = i + q + 2 by omega]
    exact escS_n a.1 (a.2.2.trans h1)
  rw [if_neg h1] at h
  by_cases h2 : byteAt bs (i + 1 + p) = 116
  · rw [if_pos h2] at h
    simp at h
    obtain ⟨rfl, hj⟩ := h
    subst hj
    have a := hp (i + 1) (by omega) (by omega)
    rw [show i + 1 + q = i + q + 1 by omega] at a
    rw [show i + 2 + q = i + q + 2 by omega]
    exact escS_t a.1 (a.2.2.trans h2)
  rw [if_neg h2] at h
  by_cases h3 : byteAt bs (i + 1 + p) = 114
  · rw [if_pos h3] at h
    simp at h
    obtain ⟨rfl, hj⟩ := h
    subst hj
    have a := hp (i + 1) (by omega) (by omega)
    rw [show i + 1 + q = i + q + 1 by omega] at a
    rw [show i + 2 + q = i + q + 2 by omega]
    exact escS_r a.1 (a.2.2.trans h3)
  rw [if_neg h3] at h
  by_cases h4 : byteAt bs (i + 1 + p) = 120
  · rw [if_pos h4] at h
    by_cases h5 : bs.length ≤ i + 3 + p
    · rw [if_pos h5] at h; cases h
    rw [if_neg h5] at h
    by_cases h6 : digVal (byteAt bs (i + 2 + p)) < 0
    · rw [if_pos h6] at h; cases h
    rw [if_neg h6] at h
    by_cases h7 : digVal (byteAt bs (i + 3 + p)) < 0
    · rw [if_pos h7] at h; cases h
    rw [if_neg h7] at h
    simp at h
    obtain ⟨hc, hj⟩ := h
    subst hj
    have a := hp (i + 1) (by omega) (by omega)
    have b := hp (i + 2) (by omega) (by omega)
    have d := hp (i + 3) (by omega) (by omega)
    rw [show i + 1 + q = i + q + 1 by omega] at a
    rw [show i + 2 + q = i + q + 2 by omega] at b
    rw [show i + 3 + q = i + q + 3 by omega] at d
    rw [show i + 4 + q = i + q + 4 by omega]
    rw [escS_x a.1 (a.2.2.trans h4) d.1 (by rw [b.2.2]; omega) (by rw [d.2.2]; omega), b.2.2, d.2.2, hc]
  rw [if_neg h4] at h
  by_cases h5 : byteAt bs (i + 1 + p) < 33 ∨ 126 < byteAt bs (i + 1 + p) ∨ isWord (byteAt bs (i + 1 + p)) = true
  · rw [if_pos h5] at h; cases h
  rw [if_neg h5] at h
  simp at h
  obtain ⟨rfl, hj⟩ := h
  subst hj
  have a := hp (i + 1) (by omega) (by omega)
  rw [show i + 1 + q = i + q + 1 by omega] at a
  rw [show i + 2 + q = i + q + 2 by omega]
  rw [← a.2.2] at h1 h2 h3 h4 h5 ⊢
  rw [not_or, not_or] at h5
  exact escS_self a.1 h1 h2 h3 h4 (by omega) (by omega) (by simpa using h5.2.2)

theorem charS_move {cs bs : List Nat} (hb : ∀ x ∈ bs, x < 256) {p q i j c s S : Nat} (h : charS bs S (i + p) = .ok (c, j + p)) (hp : Part cs bs p q i j) : charS cs s (i + q) = .ok (c, j + q) := by
  have hk := charS_ok hb h
  have a := hp i (by omega) (by omega)
  unfold charS at h
  rw [if_neg (by omega)] at h
  by_cases h1 : byteAt bs (i + p) = 92
  · rw [if_pos h1] at h
    cases he : escS bs (i + p) with
    | none => rw [he] at h; cases h
    | some x =>
      rw [he] at h
      obtain ⟨c', j'⟩ := x
      simp at h
      obtain ⟨rfl, rfl⟩ := h
      exact charS_esc a.1 (a.2.2.trans h1) (escS_move he hp)
  rw [if_neg h1] at h
  by_cases h2 : isSpecial (byteAt bs (i + p)) = true
  · rw [if_pos h2] at h; cases h
  rw [if_neg h2] at h
  simp at h
  obtain ⟨rfl, hj⟩ := h
  obtain rfl : j = i + 1 := by omega
  rw [← a.2.2] at h1 h2 ⊢
  rw [show i + 1 + q = i + q + 1 by omega]
  exact charS_self a.1 h1 (by simpa using h2)

theorem itemS_move {cs bs : List Nat} (hb : ∀ x ∈ bs, x < 256) {p q i j lo hi s S : Nat} (h : itemS bs S (i + p) = .ok (lo, hi, j + p)) (hp : Part cs bs p q i (j + 1)) : itemS cs s (i + q) = .ok (lo, hi, j + q) := by
  have hk := itemS_ok hb h
  unfold itemS at h
  cases h1 : charS bs S (i + p) with
  | error e => rw [h1] at h; cases h
  | ok x =>
    obtain ⟨lo', J⟩ := x
    obtain ⟨a1, a2, a3⟩ := charS_ok hb h1
    obtain ⟨m, rfl⟩ : ∃ m, J = m + p := ⟨J - p, by omega⟩
    rw [h1] at h
    dsimp only at h
    by_cases h2 : hasAt bs ((m + p : Nat) : Int) 45 = true
    · rw [if_pos h2] at h
      cases h3 : charS bs S (m + p + 1) with
      | error e => rw [h3] at h; cases h
      | ok y =>
        obtain ⟨hi', K⟩ := y
        obtain ⟨b1, b2, b3⟩ := charS_ok hb h3
        rw [h3] at h
        dsimp only at h
        by_cases h4 : hi' < lo'
        · rw [if_pos h4] at h; cases h
        rw [if_neg h4] at h
        simp at h
        obtain ⟨rfl, rfl, rfl⟩ := h
        rw [show m + p + 1 = m + 1 + p by omega] at h3
        unfold itemS
        rw [charS_move hb h1 (hp.sub (by omega) (by omega))]
        dsimp only
        rw [hp.has (by omega) (by omega), if_pos h2, show m + q + 1 = m + 1 + q by omega, charS_move hb h3 (hp.sub (by omega) (by omega))]
        dsimp only
        rw [if_neg h4]
    · rw [if_neg h2] at h
      simp at h
      obtain ⟨rfl, rfl, h⟩ := h
      obtain rfl : m = j := by omega
      unfold itemS
      rw [charS_move hb h1 (hp.sub (by omega) (by omega))]
      dsimp only
      rw [hp.has (by omega) (by omega), if_neg h2]

theorem itemsS_move {cs bs : List Nat} (hb : ∀ x ∈ bs, x < 256) {p q s S j : Nat} {r : Nat → Bool} : ∀ {f i : Nat} {u : Nat → Bool}, itemsS bs S f (i + p) u = .ok (r, j + p) → Part cs bs p q i j → ∀ f', j - i ≤ f' → itemsS cs s f' (i + q) u = .ok (r, j + q)
  | 0, i, u, h, hp, f', hf => by cases h
  | f + 1, i, u, h, hp, f', hf => by
    have hij := itemsS_some hb h
    obtain ⟨f2, rfl⟩ : ∃ f2, f' = f2 + 1 := ⟨f' - 1, by omega⟩
    cases hi : itemS bs S (i + p) with
    | error e => rw [itemsS_bad hi] at h; cases h
    | ok x =>
      obtain ⟨lo, hi', K⟩ := x
      have hk := itemS_ok hb hi
      obtain ⟨m, rfl⟩ : ∃ m, K = m + p := ⟨K - p, by omega⟩
      rw [itemsS_ok hi] at h
      cases hc : hasAt bs ((m + p : Nat) : Int) 93
      · rw [restS_go hc] at h
        have hmj := itemsS_some hb h
        rw [itemsS_ok (itemS_move hb hi (hp.sub (by omega) (by omega))), restS_go ((hp.has (by omega) (by omega) 93).trans hc)]
        exact itemsS_move hb h (hp.sub (by omega) (by omega)) f2 (by omega)
      · rw [restS_end hc] at h
        have h2 := Prod.mk.inj (Except.ok.inj h)
        have hj : m + p + 1 = j + p := h2.2
        rw [itemsS_ok (itemS_move hb hi (hp.sub (by omega) (by omega))), restS_end ((hp.has (by omega) (by omega) 93).trans hc), h2.1]
        rw [show m + q + 1 = j + q by omega]

theorem Part.len {cs bs : List Nat} {p q i j : Nat} (h : Part cs bs p q i j) (hij : i < j) : j + q ≤ cs.length := by
  have := (h (j - 1) (by omega) (by omega)).1
  omega

theorem readS_move {cs bs : List Nat} (hb : ∀ x ∈ bs, x < 256) {p q i j : Nat} {u : Nat → Bool} (h : readS bs ((i + p : Nat) : Int) = .ok (u, j + p)) (hp : Part cs bs p q i j) : readS cs ((i + q : Nat) : Int) = .ok (u, j + q) := by
  have hij := readS_some hb h
  have hl := hp.len (by omega)
  cases h1 : hasAt bs ((i + p : Nat) : Int) 91
  · rw [readS_no h1] at h; cases h
  have h1' := (hp.has (Nat.le_refl i) (by omega) 91).trans h1
  cases h2 : hasAt bs (((i + p : Nat) : Int) + 1) 94
  · rw [readS_plain h1 h2, show i + p + 1 = i + 1 + p by omega] at h
    have := itemsS_some hb h
    rw [readS_plain h1' ((hp.has1 (by omega) (by omega) 94).trans h2), show i + q + 1 = i + 1 + q by omega]
    exact itemsS_move hb h (hp.sub (by omega) (by omega)) _ (by omega)
  · rw [readS_turned h1 h2, show i + p + 2 = i + 2 + p by omega] at h
    cases h3 : itemsS bs (i + p) (bs.length + 1) (i + 2 + p) (fun _ => false) with
    | error e => rw [h3] at h; cases h
    | ok x =>
      obtain ⟨u', k⟩ := x
      rw [h3] at h
      have h4 := Prod.mk.inj (Except.ok.inj h)
      obtain ⟨h5, h6⟩ := h4
      subst h6
      have := itemsS_some hb h3
      rw [readS_turned h1' ((hp.has1 (by omega) (by omega) 94).trans h2), show i + q + 2 = i + 2 + q by omega, itemsS_move hb h3 (hp.sub (by omega) (by omega)) _ (by omega), ← h5]
      rfl

theorem takeWhile_eq {f : Nat → Bool} : ∀ (A : List Nat) (c : Nat) (R : List Nat), (∀ x ∈ A, f x = true) → f c = false → (A ++ c :: R).takeWhile f = A
  | [], c, R, _, hc => by simp [List.takeWhile_cons, hc]
  | a :: A, c, R, h, hc => by
    rw [List.cons_append, List.takeWhile_cons, h a (by simp)]
    simp only [if_true]
    rw [takeWhile_eq A c R (fun x hx => h x (by simp [hx])) hc]
theorem getElem?_byteAt {bs : List Nat} {k : Nat} (h : k < bs.length) : bs[k]? = some (byteAt bs k) := by
  rw [List.getElem?_eq_getElem h, byteAt_get h]
theorem Part.take {cs bs : List Nat} {p q i j : Nat} (h : Part cs bs p q i j) : (cs.drop (i + q)).take (j - i) = (bs.drop (i + p)).take (j - i) := by
  apply List.ext_getElem?
  intro k
  rw [List.getElem?_take, List.getElem?_take]
  by_cases hk : k < j - i
  · have a := h (i + k) (by omega) (by omega)
    rw [if_pos hk, if_pos hk, List.getElem?_drop, List.getElem?_drop, show i + q + k = i + k + q by omega, getElem?_byteAt a.1, show i + p + k = i + k + p by omega, getElem?_byteAt a.2.1, a.2.2]
  · rw [if_neg hk, if_neg hk]
theorem digs_move {cs bs : List Nat} {p q i n : Nat} (hn : (digs bs (i + p)).length = n) (hp : Part cs bs p q i (i + n + 1)) (hd : isDig (byteAt bs (i + n + p)) = false) : digs cs (i + q) = digs bs (i + p) := by
  have a := hp (i + n) (by omega) (by omega)
  have h1 := hp.take
  rw [show i + n + 1 - i = n + 1 by omega, List.take_add_one, List.take_add_one, List.getElem?_drop, List.getElem?_drop, show i + q + n = i + n + q by omega, getElem?_byteAt a.1, show i + p + n = i + n + p by omega, getElem?_byteAt a.2.1, a.2.2] at h1
  have h2 : (cs.drop (i + q)).take n = digs bs (i + p) := by
    have := List.append_cancel_right h1
    rw [this, digs_take bs (i + p), hn]
  have h3 : cs.drop (i + q) = digs bs (i + p) ++ byteAt bs (i + n + p) :: cs.drop (i + n + q + 1) := by
    have e1 : cs.drop (i + q) = (cs.drop (i + q)).take n ++ (cs.drop (i + q)).drop n := (List.take_append_drop _ _).symm
    rw [e1, h2, List.drop_drop, show i + q + n = i + n + q by omega, List.drop_eq_getElem_cons a.1, byteAt_get a.1, a.2.2]
  unfold digs
  rw [h3]
  exact takeWhile_eq _ _ _ (digs_dig bs (i + p)) hd
theorem takeS_move {cs bs : List Nat} {p q i j v : Nat} (h : takeS bs (i + p) = some (v, j + p)) (hp : Part cs bs p q i (j + 1)) (hd : isDig (byteAt bs (j + p)) = false) : takeS cs (i + q) = some (v, j + q) := by
  have h0 := h
  unfold takeS at h
  split at h
  · cases h
  · rename_i hc
    have h1 := Prod.mk.inj (Option.some.inj h)
    have hj : i + p + (digs bs (i + p)).length = j + p := h1.2
    have hji : j = i + (digs bs (i + p)).length := by omega
    have hm : digs cs (i + q) = digs bs (i + p) := digs_move rfl (by rw [← hji]; exact hp) (by rw [← hji]; exact hd)
    unfold takeS
    rw [hm, if_neg hc, h1.1, show i + q + (digs bs (i + p)).length = j + q by omega]

/-- A lexeme that stands p nearer, and then q further on. -/
def Lex.move (x : Lex) (p q : Nat) : Lex := ⟨x.kind, x.place - p + q, x.set, x.lo, x.hi⟩

theorem dig_no {bs : List Nat} {k : Nat} {c : Nat} (h : hasAt bs (k : Int) c = true) (hc : isDig c = false) : isDig (byteAt bs k) = false := by
  obtain ⟨n, hn, hn2, hn3⟩ := hasAt_yes h
  have : k = n := by omega
  rw [this, hn3, hc]

theorem repS_move {cs bs : List Nat} {p q i j : Nat} {x : Lex} (h : repS bs (i + p) = .ok (x, j + p)) (hp : Part cs bs p q i j) : repS cs (i + q) = .ok (x.move p q, j + q) := by
  have hpl : ∀ {k : Int} {s lo hi}, (⟨k, ((i + p : Nat) : Int), s, lo, hi⟩ : Lex).move p q = ⟨k, ((i + q : Nat) : Int), s, lo, hi⟩ := by
    intro k s lo hi
    unfold Lex.move
    dsimp only
    congr 1
    omega
  unfold repS at h
  rw [show i + p + 1 = i + 1 + p by omega] at h
  cases h1 : takeS bs (i + 1 + p) with
  | none => rw [h1] at h; cases h
  | some y =>
    obtain ⟨lo, J⟩ := y
    have g1 := takeS_some h1
    obtain ⟨m, rfl⟩ : ∃ m, J = m + p := ⟨J - p, by omega⟩
    rw [h1] at h
    dsimp only at h
    cases h2 : hasAt bs ((m + p : Nat) : Int) 44
    · rw [if_neg (by rw [h2]; decide)] at h
      cases h3 : hasAt bs ((m + p : Nat) : Int) 125
      · rw [if_neg (by rw [h3]; decide)] at h; cases h
      · rw [if_pos h3] at h
        obtain ⟨hx, hj⟩ := Prod.mk.inj (Except.ok.inj h)
        subst hx
        obtain rfl : j = m + 1 := by omega
        unfold repS
        rw [show i + q + 1 = i + 1 + q by omega, takeS_move h1 (hp.sub (by omega) (by omega)) (dig_no h3 (by decide))]
        dsimp only
        rw [hp.has (by omega) (by omega) 44, h2, hp.has (by omega) (by omega) 125, h3, hpl, show m + q + 1 = m + 1 + q by omega]
        rfl
    · rw [if_pos h2] at h
      cases h3 : hasAt bs (((m + p : Nat) : Int) + 1) 125
      · rw [if_neg (by rw [h3]; decide)] at h
        rw [show m + p + 1 = m + 1 + p by omega] at h
        cases h4 : takeS bs (m + 1 + p) with
        | none => rw [h4] at h; cases h
        | some z =>
          obtain ⟨hi, K⟩ := z
          have g2 := takeS_some h4
          obtain ⟨k, rfl⟩ : ∃ k, K = k + p := ⟨K - p, by omega⟩
          rw [h4] at h
          dsimp only at h
          cases h5 : hasAt bs ((k + p : Nat) : Int) 125
          · rw [if_neg (by rw [h5]; decide)] at h; cases h
          rw [if_pos h5] at h
          by_cases h6 : hi < lo
          · rw [if_pos h6] at h; cases h
          rw [if_neg h6] at h
          obtain ⟨hx, hj⟩ := Prod.mk.inj (Except.ok.inj h)
          subst hx
          obtain rfl : j = k + 1 := by omega
          unfold repS
          rw [show i + q + 1 = i + 1 + q by omega, takeS_move h1 (hp.sub (by omega) (by omega)) (dig_no h2 (by decide))]
          dsimp only
          rw [hp.has (by omega) (by omega) 44, if_pos h2, hp.has1 (by omega) (by omega) 125, if_neg (by rw [h3]; decide), show m + q + 1 = m + 1 + q by omega, takeS_move h4 (hp.sub (by omega) (by omega)) (dig_no h5 (by decide))]
          dsimp only
          rw [hp.has (by omega) (by omega) 125, if_pos h5, if_neg h6, hpl, show k + q + 1 = k + 1 + q by omega]
      · rw [if_pos h3] at h
        obtain ⟨hx, hj⟩ := Prod.mk.inj (Except.ok.inj h)
        subst hx
        obtain rfl : j = m + 2 := by omega
        unfold repS
        rw [show i + q + 1 = i + 1 + q by omega, takeS_move h1 (hp.sub (by omega) (by omega)) (dig_no h2 (by decide))]
        dsimp only
        rw [hp.has (by omega) (by omega) 44, if_pos h2, hp.has1 (by omega) (by omega) 125, if_pos h3, hpl, show m + q + 2 = m + 2 + q by omega]

theorem lexS_move {cs bs : List Nat} (hb : ∀ x ∈ bs, x < 256) {p q i j : Nat} {x : Lex} (hi : i + p < bs.length) (h : lexS bs (i + p) = .ok (x, j + p)) (hp : Part cs bs p q i j) : lexS cs (i + q) = .ok (x.move p q, j + q) := by
  have hij := lexS_some hb hi h
  have a := hp i (by omega) (by omega)
  have hpl : ∀ {k : Int} {s lo hi}, (⟨k, ((i + p : Nat) : Int), s, lo, hi⟩ : Lex).move p q = ⟨k, ((i + q : Nat) : Int), s, lo, hi⟩ := by
    intro k s lo hi
    unfold Lex.move
    dsimp only
    congr 1
    omega
  unfold lexS at h
  unfold lexS
  rw [a.2.2]
  by_cases h1 : byteAt bs (i + p) = 46
  · rw [if_pos h1] at h
    obtain ⟨hx, hj⟩ := Prod.mk.inj (Except.ok.inj h)
    subst hx
    obtain rfl : j = i + 1 := by omega
    rw [if_pos h1, hpl, show i + q + 1 = i + 1 + q by omega]
  rw [if_neg h1] at h ⊢
  by_cases h2 : byteAt bs (i + p) = 92
  · rw [if_pos h2] at h ⊢
    cases h3 : escS bs (i + p) with
    | none => rw [h3] at h; cases h
    | some y =>
      obtain ⟨c, J⟩ := y
      rw [h3] at h
      obtain ⟨hx, hj⟩ := Prod.mk.inj (Except.ok.inj h)
      subst hx hj
      rw [escS_move h3 hp]
      dsimp only
      rw [hpl]
  rw [if_neg h2] at h ⊢
  by_cases h4 : byteAt bs (i + p) = 91
  · rw [if_pos h4] at h ⊢
    cases h3 : readS bs ((i + p : Nat) : Int) with
    | error e => rw [h3] at h; cases h
    | ok y =>
      obtain ⟨u, J⟩ := y
      rw [h3] at h
      obtain ⟨hx, hj⟩ := Prod.mk.inj (Except.ok.inj h)
      subst hx hj
      rw [readS_move hb h3 hp]
      dsimp only
      rw [hpl]
  rw [if_neg h4] at h ⊢
  by_cases h5 : byteAt bs (i + p) = 123
  · rw [if_pos h5] at h ⊢
    exact repS_move h hp
  rw [if_neg h5] at h ⊢
  by_cases h6 : byteAt bs (i + p) = 93 ∨ byteAt bs (i + p) = 125 ∨ byteAt bs (i + p) = 10
  · rw [if_pos h6] at h; cases h
  rw [if_neg h6] at h ⊢
  by_cases h7 : signKind (byteAt bs (i + p)) ≠ 0
  · rw [if_pos h7] at h ⊢
    obtain ⟨hx, hj⟩ := Prod.mk.inj (Except.ok.inj h)
    subst hx
    obtain rfl : j = i + 1 := by omega
    rw [hpl, show i + q + 1 = i + 1 + q by omega]
  · rw [if_neg h7] at h ⊢
    obtain ⟨hx, hj⟩ := Prod.mk.inj (Except.ok.inj h)
    subst hx
    obtain rfl : j = i + 1 := by omega
    rw [hpl, show i + q + 1 = i + 1 + q by omega]

theorem repS_place {bs : List Nat} {i j : Nat} {x : Lex} (h : repS bs i = .ok (x, j)) : x.place = i := by
  unfold repS at h
  split at h
  · cases h
  · split at h
    · split at h
      · rw [← (Prod.mk.inj (Except.ok.inj h)).1]
      · split at h
        · cases h
        · split at h
          · split at h
            · cases h
            · rw [← (Prod.mk.inj (Except.ok.inj h)).1]
          · cases h
    · split at h
      · rw [← (Prod.mk.inj (Except.ok.inj h)).1]
      · cases h
theorem lexS_place {bs : List Nat} {i j : Nat} {x : Lex} (h : lexS bs i = .ok (x, j)) : x.place = i := by
  unfold lexS at h
  split at h
  · rw [← (Prod.mk.inj (Except.ok.inj h)).1]
  split at h
  · split at h
    · rw [← (Prod.mk.inj (Except.ok.inj h)).1]
    · cases h
  split at h
  · split at h
    · rw [← (Prod.mk.inj (Except.ok.inj h)).1]
    · cases h
  split at h
  · exact repS_place h
  split at h
  · cases h
  split at h
  · rw [← (Prod.mk.inj (Except.ok.inj h)).1]
  · rw [← (Prod.mk.inj (Except.ok.inj h)).1]

/-- From i to k just the lexemes of a list stand. -/
def Seg (bs : List Nat) : Nat → List Lex → Nat → Prop
  | i, [], k => i = k
  | i, x :: M, k => i < bs.length ∧ ∃ j, lexS bs i = .ok (x, j) ∧ Seg bs j M k

theorem seg_cat {bs : List Nat} : ∀ {M N : List Lex} {i k : Nat}, Seg bs i (M ++ N) k ↔ ∃ m, Seg bs i M m ∧ Seg bs m N k
  | [], N, i, k => ⟨fun h => ⟨i, rfl, h⟩, fun ⟨m, h1, h2⟩ => by rw [show i = m from h1]; exact h2⟩
  | x :: M, N, i, k => by
    constructor
    · rintro ⟨hi, j, hx, h⟩
      obtain ⟨m, h1, h2⟩ := seg_cat.1 h
      exact ⟨m, ⟨hi, j, hx, h1⟩, h2⟩
    · rintro ⟨m, ⟨hi, j, hx, h1⟩, h2⟩
      exact ⟨hi, j, hx, seg_cat.2 ⟨m, h1, h2⟩⟩
theorem seg_len {bs : List Nat} (hb : ∀ x ∈ bs, x < 256) : ∀ {M : List Lex} {i k : Nat}, Seg bs i M k → i + M.length ≤ k ∧ (k ≤ bs.length ∨ M = [])
  | [], i, k, h => ⟨by rw [show i = k from h]; simp, .inr rfl⟩
  | x :: M, i, k, ⟨hi, j, hx, h⟩ => by
    have h1 := lexS_some hb hi hx
    have h2 := seg_len hb h
    refine ⟨by simp; omega, .inl ?_⟩
    rcases h2.2 with h3 | rfl
    · exact h3
    · have : j = k := h
      omega
theorem seg_move {cs bs : List Nat} (hb : ∀ x ∈ bs, x < 256) {p q : Nat} : ∀ {M : List Lex} {i k : Nat}, Seg bs (i + p) M (k + p) → Part cs bs p q i k → Seg cs (i + q) (M.map (Lex.move · p q)) (k + q)
  | [], i, k, h, hp => by
    have : i + p = k + p := h
    show i + q = k + q
    omega
  | x :: M, i, k, ⟨hi, J, hx, h⟩, hp => by
    have h1 := lexS_some hb hi hx
    have h2 := seg_len hb h
    obtain ⟨j, rfl⟩ : ∃ j, J = j + p := ⟨J - p, by omega⟩
    exact ⟨(hp i (by omega) (by omega)).1, j + q, lexS_move hb hi hx (hp.sub (by omega) (by omega)), seg_move hb h (hp.sub (by omega) (by omega))⟩
theorem splitF_seg {bs : List Nat} (hb : ∀ x ∈ bs, x < 256) : ∀ {f i : Nat} {L l : List Lex}, i ≤ bs.length → splitF bs f i L = .ok l → ∃ M, l = L ++ M ∧ Seg bs i M bs.length
  | 0, i, L, l, h2, h => by cases h
  | f + 1, i, L, l, h2, h => by
    rcases Nat.lt_or_ge i bs.length with hi | hi
    · cases hx : lexS bs i with
      | error e => rw [splitF_bad hi hx] at h; cases h
      | ok x =>
        obtain ⟨x, j⟩ := x
        have hj := lexS_some hb hi hx
        rw [splitF_ok hi hx] at h
        obtain ⟨M, rfl, hM⟩ := splitF_seg hb hj.2 h
        exact ⟨x :: M, by simp, hi, j, hx, hM⟩
    · rw [splitF_end hi] at h
      cases h
      exact ⟨[], by simp, by show i = bs.length; omega⟩
theorem seg_splitF {bs : List Nat} : ∀ {M : List Lex} {f i : Nat} {L : List Lex}, Seg bs i M bs.length → M.length < f → splitF bs f i L = .ok (L ++ M)
  | [], f, i, L, h, hf => by
    obtain ⟨f, rfl⟩ : ∃ g, f = g + 1 := ⟨f - 1, by simp at hf; omega⟩
    have : i = bs.length := h
    rw [splitF_end (by omega)]
    simp
  | x :: M, f, i, L, ⟨hi, j, hx, h⟩, hf => by
    obtain ⟨f, rfl⟩ : ∃ g, f = g + 1 := ⟨f - 1, by simp at hf; omega⟩
    rw [splitF_ok hi hx, seg_splitF h (by simp at hf; omega)]
    simp
/-- A text's lexemes are those that stand from its beginning to its end. -/
theorem splitS_seg {bs : List Nat} (hb : ∀ x ∈ bs, x < 256) {l : List Lex} : splitS bs = .ok l ↔ bs.length ≤ 65536 ∧ Seg bs 0 l bs.length := by
  constructor
  · intro h
    rcases Nat.lt_or_ge 65536 bs.length with h1 | h1
    · rw [splitS_long h1] at h; cases h
    · rw [splitS_go h1] at h
      obtain ⟨M, rfl, hM⟩ := splitF_seg hb (Nat.zero_le _) h
      exact ⟨h1, hM⟩
  · rintro ⟨h1, h2⟩
    have h3 := (seg_len hb h2).1
    rw [splitS_go h1, seg_splitF h2 (by omega)]
    rfl

theorem take_le (bs : List Nat) (p : Nat) (hb : ∀ x ∈ bs, x < 256) : ∀ x ∈ bs.take p, x < 256 := fun x hx => hb x (List.mem_of_mem_take hx)
theorem drop_le (bs : List Nat) (p : Nat) (hb : ∀ x ∈ bs, x < 256) : ∀ x ∈ bs.drop p, x < 256 := fun x hx => hb x (List.mem_of_mem_drop hx)
theorem part_take {bs : List Nat} {p : Nat} (h : p ≤ bs.length) : Part (bs.take p) bs 0 0 0 p := fun m _ hm => by
  refine ⟨by simp; omega, by omega, ?_⟩
  have h1 : m < (bs.take p).length := by simp; omega
  have h2 : m < bs.length := by omega
  rw [Nat.add_zero, ← byteAt_get h1, ← byteAt_get h2, List.getElem_take]
theorem part_drop {bs : List Nat} {p : Nat} (h : p ≤ bs.length) : Part (bs.drop p) bs p 0 0 (bs.length - p) := fun m _ hm => by
  refine ⟨by simp; omega, by omega, ?_⟩
  rw [byteAt_drop, Nat.add_zero, Nat.add_comm]
theorem move_zero : ∀ (M : List Lex), M.map (Lex.move · 0 0) = M
  | [] => rfl
  | x :: M => by
    rw [List.map_cons, move_zero M]
    congr 1
    cases x
    simp [Lex.move]

/-- The law: of a text that is right the beginning up to a lexeme, and the rest, are right, and have its lexemes. -/
theorem splitS_cut {bs : List Nat} (hb : ∀ x ∈ bs, x < 256) {l : List Lex} (h : splitS bs = .ok l) {k : Nat} {x : Lex} (hk : l[k]? = some x) :
    ∃ p : Nat, x.place = p ∧ p < bs.length ∧ bs.length ≤ 65536 ∧ splitS (bs.take p) = .ok (l.take k) ∧ splitS (bs.drop p) = .ok ((l.drop k).map (Lex.move · p 0)) := by
  obtain ⟨hl, hs⟩ := (splitS_seg hb).1 h
  have hkl := (List.getElem?_eq_some_iff.mp hk).1
  have hsx := hs
  rw [← List.take_append_drop k l] at hs
  obtain ⟨p, h1, h2⟩ := seg_cat.1 hs
  have h2' := h2
  rw [List.drop_eq_getElem_cons hkl, (List.getElem?_eq_some_iff.mp hk).2] at h2'
  obtain ⟨hp, j, hx, _⟩ := h2'
  refine ⟨p, lexS_place hx, hp, hl, ?_, ?_⟩
  · refine (splitS_seg (take_le _ _ hb)).2 ⟨by simp; omega, ?_⟩
    rw [List.length_take, Nat.min_eq_left (by omega)]
    have := seg_move (cs := bs.take p) (p := 0) (q := 0) (i := 0) (k := p) hb h1 (part_take (by omega))
    rwa [move_zero] at this
  · refine (splitS_seg (drop_le _ _ hb)).2 ⟨by simp; omega, ?_⟩
    rw [List.length_drop]
    refine seg_move (p := p) (q := 0) (i := 0) (k := bs.length - p) hb ?_ (part_drop (by omega))
    have e : bs.length - p + p = bs.length := by omega
    rw [Nat.zero_add, e]
    exact h2

end Go.Proofs.Ytkelkadalikibaa
namespace Go.Proofs.Ytkelkadalikibaa
open Go.RowKit
set_option linter.unusedSimpArgs false
set_option linter.unusedVariables false
set_option maxRecDepth 100000

/-- May a lexeme be? -/
def rightS (x : Lex) : Bool := rightV x.kind x.place (word x.set 0 : Nat) (word x.set 1 : Nat) (word x.set 2 : Nat) (word x.set 3 : Nat) x.lo x.hi
/-- What a lexeme that may be is. -/
theorem rightS_cases {x : Lex} (h : rightS x = true) : 0 ≤ x.place ∧ ((x.kind = 1 ∧ x.lo = 0 ∧ x.hi = 0) ∨
    (x.kind = 8 ∧ 0 ≤ x.lo ∧ x.lo ≤ 1000 ∧ (x.hi = -1 ∨ x.lo ≤ x.hi ∧ x.hi ≤ 1000) ∧ ∀ i, i < 4 → word x.set i = 0) ∨
    (2 ≤ x.kind ∧ x.kind ≤ 7 ∧ x.lo = 0 ∧ x.hi = 0 ∧ ∀ i, i < 4 → word x.set i = 0)) := by
  unfold rightS rightV at h
  rw [Bool.and_eq_true, Bool.and_eq_true, decide_eq_true_eq] at h
  obtain ⟨⟨h1, h2⟩, h3⟩ := h
  refine ⟨h1, ?_⟩
  by_cases hk : x.kind = 1
  · rw [if_neg (by omega)] at h3
    simp at h3
    exact .inl ⟨hk, h3.1.1.1, h3.1.1.2⟩
  rw [Bool.or_eq_true, decide_eq_true_eq] at h2
  have hz := h2.resolve_left hk
  simp at hz
  have hw : ∀ i, i < 4 → word x.set i = 0 := by
    intro i hi
    match i, hi with
    | 0, _ => exact hz.1.1.1
    | 1, _ => exact hz.1.1.2
    | 2, _ => exact hz.1.2
    | 3, _ => exact hz.2
  by_cases h8 : x.kind = 8
  · rw [if_pos h8] at h3
    unfold repV at h3
    simp at h3
    exact .inr (.inl ⟨h8, h3.1.1, h3.1.2, h3.2, hw⟩)
  · rw [if_neg h8] at h3
    simp at h3
    exact .inr (.inr ⟨by omega, by omega, h3.1.1.1, h3.1.1.2, hw⟩)

theorem word_empty (i : Nat) (hi : i < 4) : word noSet i = 0 := by
  match i, hi with
  | 0, _ => rfl
  | 1, _ => rfl
  | 2, _ => rfl
  | 3, _ => rfl

/-! What is read may be; its places rise. -/
theorem right_set (i : Nat) (p : Nat → Bool) : rightS ⟨1, (i : Int), p, 0, 0⟩ = true := by simp [rightS, rightV]
theorem right_rep_of (i : Nat) (lo : Nat) (hi : Int) (h1 : lo ≤ 1000) (h2 : hi = -1 ∨ (lo : Int) ≤ hi ∧ hi ≤ 1000) : rightS ⟨8, (i : Int), noSet, (lo : Int), hi⟩ = true := by
  have e0 := word_empty 0 (by decide)
  have e1 := word_empty 1 (by decide)
  have e2 := word_empty 2 (by decide)
  have e3 := word_empty 3 (by decide)
  unfold rightS rightV repV
  simp [e0, e1, e2, e3]
  omega
theorem right_sign_of (i c : Nat) (h : signKind c ≠ 0) : rightS ⟨signKind c, (i : Int), noSet, 0, 0⟩ = true := by
  have e0 := word_empty 0 (by decide)
  have e1 := word_empty 1 (by decide)
  have e2 := word_empty 2 (by decide)
  have e3 := word_empty 3 (by decide)
  have hk : signKind c = 2 ∨ signKind c = 3 ∨ signKind c = 4 ∨ signKind c = 5 ∨ signKind c = 6 ∨ signKind c = 7 := by
    unfold signKind at h ⊢
    repeat' split
    all_goals simp_all
  unfold rightS rightV
  rcases hk with hk | hk | hk | hk | hk | hk
  all_goals simp [hk, e0, e1, e2, e3]
theorem repS_right {bs : List Nat} {i j : Nat} {x : Lex} (h : repS bs i = .ok (x, j)) : rightS x = true := by
  unfold repS at h
  split at h
  · cases h
  · rename_i lo m hm
    have h1 := takeS_some hm
    split at h
    · split at h
      · rw [← (Prod.mk.inj (Except.ok.inj h)).1]
        exact right_rep_of i lo (-1) h1.1 (.inl rfl)
      · split at h
        · cases h
        · rename_i hi k hk
          have h2 := takeS_some hk
          split at h
          · split at h
            · cases h
            · rw [← (Prod.mk.inj (Except.ok.inj h)).1]
              exact right_rep_of i lo (hi : Int) h1.1 (.inr (by omega))
          · cases h
    · split at h
      · rw [← (Prod.mk.inj (Except.ok.inj h)).1]
        exact right_rep_of i lo (lo : Int) h1.1 (.inr (by omega))
      · cases h
theorem lexS_right {bs : List Nat} {i j : Nat} {x : Lex} (h : lexS bs i = .ok (x, j)) : rightS x = true := by
  unfold lexS at h
  split at h
  · rw [← (Prod.mk.inj (Except.ok.inj h)).1]; exact right_set i _
  split at h
  · split at h
    · rw [← (Prod.mk.inj (Except.ok.inj h)).1]; exact right_set i _
    · cases h
  split at h
  · split at h
    · rw [← (Prod.mk.inj (Except.ok.inj h)).1]; exact right_set i _
    · cases h
  split at h
  · exact repS_right h
  split at h
  · cases h
  split at h
  · rename_i hk
    rw [← (Prod.mk.inj (Except.ok.inj h)).1]; exact right_sign_of i _ hk
  · rw [← (Prod.mk.inj (Except.ok.inj h)).1]; exact right_set i _
theorem seg_right {bs : List Nat} : ∀ {M : List Lex} {i k : Nat}, Seg bs i M k → ∀ x ∈ M, rightS x = true
  | [], i, k, _, x, hx => by cases hx
  | y :: M, i, k, ⟨_, j, hy, h⟩, x, hx => by
    rcases List.mem_cons.1 hx with rfl | hx
    · exact lexS_right hy
    · exact seg_right h x hx
theorem seg_rise {bs : List Nat} (hb : ∀ x ∈ bs, x < 256) : ∀ {M : List Lex} {i k : Nat}, Seg bs i M k → ∀ (n : Nat) x y, M[n]? = some x → M[n + 1]? = some y → x.place < y.place
  | [], i, k, _, n, x, y, hx, _ => by simp at hx
  | z :: M, i, k, ⟨hi, j, hz, h⟩, 0, x, y, hx, hy => by
    have h1 := lexS_place hz
    have h2 := lexS_some hb hi hz
    simp at hx hy
    match M, hy, h with
    | u :: M, hy, ⟨_, j2, hu, _⟩ =>
      have h3 := lexS_place hu
      simp at hy
      rw [← hx, ← hy, h1, h3]
      omega
  | z :: M, i, k, ⟨hi, j, hz, h⟩, n + 1, x, y, hx, hy => seg_rise hb h n x y (by simpa using hx) (by simpa using hy)
theorem splitS_right {bs : List Nat} (hb : ∀ x ∈ bs, x < 256) {M : List Lex} (h : splitS bs = .ok M) :
    (∀ (k : Nat) x, M[k]? = some x → rightS x = true) ∧ (∀ (k : Nat) x y, M[k]? = some x → M[k + 1]? = some y → x.place < y.place) ∧ M.length ≤ 65536 := by
  obtain ⟨h1, h2⟩ := (splitS_seg hb).1 h
  have h3 := (seg_len hb h2).1
  exact ⟨fun k x hx => seg_right h2 x (List.mem_of_getElem? hx), seg_rise hb h2, by omega⟩

/-! Lexemes in memory. -/
/-- The slice at A holds the lexemes L; its block is below B. -/
def LexsAt (w : World) (B : Nat) (A : Option Addr) (L : List Lex) : Prop :=
  0 < L.length → ∃ b o, A = some ⟨b, o, none⟩ ∧ b < B ∧ ∀ (k : Nat) x, L[k]? = some x →
    w.cell? ⟨b, o + k * 8, none⟩ = some (.int .i64 x.kind) ∧ w.cell? ⟨b, o + k * 8 + 1, none⟩ = some (.int .i64 x.place) ∧
    w.cell? ⟨b, o + k * 8 + 2, none⟩ = some (.int .u64 ((word x.set 0 : Nat) : Int)) ∧ w.cell? ⟨b, o + k * 8 + 3, none⟩ = some (.int .u64 ((word x.set 1 : Nat) : Int)) ∧ w.cell? ⟨b, o + k * 8 + 4, none⟩ = some (.int .u64 ((word x.set 2 : Nat) : Int)) ∧ w.cell? ⟨b, o + k * 8 + 5, none⟩ = some (.int .u64 ((word x.set 3 : Nat) : Int)) ∧
    w.cell? ⟨b, o + k * 8 + 6, none⟩ = some (.int .i64 x.lo) ∧ w.cell? ⟨b, o + k * 8 + 7, none⟩ = some (.int .i64 x.hi)
theorem LexsAt.below {w w' : World} {B : Nat} {A : Option Addr} {L : List Lex} (h : LexsAt w B A L) (hb : Below B w w') : LexsAt w' B A L := fun hn => by
  obtain ⟨b, o, ha, hl, hc⟩ := h hn
  refine ⟨b, o, ha, hl, fun k x hx => ?_⟩
  obtain ⟨c0, c1, c2, c3, c4, c5, c6, c7⟩ := hc k x hx
  exact ⟨(hb.cell (p := ⟨b, _, none⟩) hl).trans c0, (hb.cell (p := ⟨b, _, none⟩) hl).trans c1, (hb.cell (p := ⟨b, _, none⟩) hl).trans c2, (hb.cell (p := ⟨b, _, none⟩) hl).trans c3,
    (hb.cell (p := ⟨b, _, none⟩) hl).trans c4, (hb.cell (p := ⟨b, _, none⟩) hl).trans c5, (hb.cell (p := ⟨b, _, none⟩) hl).trans c6, (hb.cell (p := ⟨b, _, none⟩) hl).trans c7⟩
theorem LexsAt.more {w : World} {B B' : Nat} {A : Option Addr} {L : List Lex} (h : LexsAt w B A L) (hB : B ≤ B') : LexsAt w B' A L := fun hn => by
  obtain ⟨b, o, ha, hl, hc⟩ := h hn
  exact ⟨b, o, ha, by omega, hc⟩
/-- What stands first, and what stands behind it. -/
theorem LexsAt.cons {w : World} {B : Nat} {A : Option Addr} {x : Lex} {L : List Lex} (h : LexsAt w B A (x :: L)) : ∃ b o, A = some ⟨b, o, none⟩ ∧ b < B ∧
    (w.cell? ⟨b, o, none⟩ = some (.int .i64 x.kind) ∧ w.cell? ⟨b, o + 1, none⟩ = some (.int .i64 x.place) ∧
    w.cell? ⟨b, o + 2, none⟩ = some (.int .u64 ((word x.set 0 : Nat) : Int)) ∧ w.cell? ⟨b, o + 3, none⟩ = some (.int .u64 ((word x.set 1 : Nat) : Int)) ∧ w.cell? ⟨b, o + 4, none⟩ = some (.int .u64 ((word x.set 2 : Nat) : Int)) ∧ w.cell? ⟨b, o + 5, none⟩ = some (.int .u64 ((word x.set 3 : Nat) : Int)) ∧
    w.cell? ⟨b, o + 6, none⟩ = some (.int .i64 x.lo) ∧ w.cell? ⟨b, o + 7, none⟩ = some (.int .i64 x.hi)) ∧ LexsAt w B (some ⟨b, o + 8, none⟩) L := by
  obtain ⟨b, o, ha, hl, hc⟩ := h (by simp)
  refine ⟨b, o, ha, hl, by simpa using hc 0 x rfl, fun _ => ⟨b, o + 8, rfl, hl, fun k y hy => ?_⟩⟩
  have := hc (k + 1) y (by simpa using hy)
  rw [show o + (k + 1) * 8 = o + 8 + k * 8 by omega] at this
  exact this
theorem LexsAt.nil {w : World} {B : Nat} {A : Option Addr} : LexsAt w B A [] := fun h => absurd h (by simp)

end Go.Proofs.Ytkelkadalikibaa
namespace Go.Proofs.Ytkelkadalikibaa
set_option linter.unusedSimpArgs false
set_option linter.unusedVariables false
set_option maxRecDepth 100000

/-- A set as a number. -/
def maskOf (p : Nat → Bool) : Nat := ofBits p 256
theorem word_mask (p : Nat → Bool) (i : Nat) (h : i < 4) : word (maskOf p).testBit i = word p i :=
  word_congr (fun j hj => by unfold maskOf; rw [testBit_ofBits]; simp; omega)
theorem maskOf_lt (p : Nat → Bool) : maskOf p < 2 ^ 256 := ofBits_lt p 256

def leafN (s : Nat) : Nd := ⟨3, s, .nil, 0, 0⟩
def emptyN : Nd := ⟨2, 0, .nil, 0, 0⟩
def isPost (k : Int) : Bool := decide (5 ≤ k) && decide (k ≤ 8)
/-- A piece, with a sign behind it. -/
def postN (y : Lex) (x : Nd) : Nd := if y.kind = 8 then ⟨9, 0, Trees.of [x], y.lo, y.hi⟩ else ⟨y.kind + 1, 0, Trees.of [x], 0, 0⟩
def flatN (k : Int) : List Nd → Nd
  | [x] => x
  | l => ⟨k, 0, Trees.of l, 0, 0⟩
def partN : List Nd → Nd
  | [] => emptyN
  | l => flatN 4 l
def postsG : Nd → List Lex → Nd × List Lex
  | x, [] => (x, [])
  | x, y :: L => if isPost y.kind = true then postsG (postN y x) L else (x, y :: L)
mutual
/-- Parts with bars between, behind those of acc; what is left. -/
def altG : Nat → List Int → List Nd → List Lex → Except Wrong (Nd × List Lex)
  | 0, _, _, _ => .error (0, 0)
  | n + 1, op, acc, L => match piecesG n op [] L with
    | .error e => .error e
    | .ok (ps, R) => match R with
      | [] => .ok (flatN 5 (acc ++ [partN ps]), [])
      | c :: R' => if c.kind = 4 then altG n op (acc ++ [partN ps]) R' else .ok (flatN 5 (acc ++ [partN ps]), c :: R')
/-- Pieces, one behind the other, behind those of acc. -/
def piecesG : Nat → List Int → List Nd → List Lex → Except Wrong (List Nd × List Lex)
  | 0, _, _, _ => .error (0, 0)
  | n + 1, op, acc, L => match atomG n op L with
    | .error e => .error e
    | .ok (none, R) => .ok (acc, R)
    | .ok (some x, R) => piecesG n op (acc ++ [(postsG x R).1]) (postsG x R).2
/-- A set, or what stands between brackets; none: a part ends here. -/
def atomG : Nat → List Int → List Lex → Except Wrong (Option Nd × List Lex)
  | 0, _, _ => .error (0, 0)
  | _ + 1, _, [] => .ok (none, [])
  | n + 1, op, y :: L =>
    if y.kind = 1 then .ok (some (leafN (maskOf y.set)), L)
    else if y.kind = 2 then
      if op.length = 64 then .error (17, y.place) else match altG n (y.place :: op) [] L with
      | .error e => .error e
      | .ok (x, R) => match R with
        | [] => .error (11, y.place)
        | c :: R' => if c.kind = 3 then .ok (some x, R') else .error (11, y.place)
    else if isPost y.kind = true then .error (5, y.place)
    else if y.kind = 3 ∧ op.length = 0 then .error (12, y.place)
    else .ok (none, y :: L)
end
/-- Behind a part. -/
def tailG (n : Nat) (op : List Int) (acc : List Nd) : List Lex → Except Wrong (Nd × List Lex)
  | [] => .ok (flatN 5 acc, [])
  | c :: R' => if c.kind = 4 then altG n op acc R' else .ok (flatN 5 acc, c :: R')
theorem tailG_nil (n : Nat) (op : List Int) (acc : List Nd) : tailG n op acc [] = .ok (flatN 5 acc, []) := rfl
theorem tailG_bar {n : Nat} {op : List Int} {acc : List Nd} {c : Lex} {R : List Lex} (h : c.kind = 4) : tailG n op acc (c :: R) = altG n op acc R := if_pos h
theorem tailG_stop {n : Nat} {op : List Int} {acc : List Nd} {c : Lex} {R : List Lex} (h : c.kind ≠ 4) : tailG n op acc (c :: R) = .ok (flatN 5 acc, c :: R) := if_neg h
theorem altG_step (n : Nat) (op : List Int) (acc : List Nd) (L : List Lex) : altG (n + 1) op acc L = match piecesG n op [] L with
    | .error e => .error e
    | .ok (ps, R) => tailG n op (acc ++ [partN ps]) R := by
  rw [altG]
  cases h : piecesG n op [] L with
  | error e => rfl
  | ok r =>
    obtain ⟨ps, R⟩ := r
    cases R <;> rfl
theorem altG_bad {n : Nat} {op : List Int} {acc : List Nd} {L : List Lex} {e : Wrong} (h : piecesG n op [] L = .error e) : altG (n + 1) op acc L = .error e := by rw [altG_step, h]
theorem altG_ok {n : Nat} {op : List Int} {acc : List Nd} {L : List Lex} {ps : List Nd} {R : List Lex} (h : piecesG n op [] L = .ok (ps, R)) : altG (n + 1) op acc L = tailG n op (acc ++ [partN ps]) R := by rw [altG_step, h]
theorem piecesG_bad {n : Nat} {op : List Int} {acc : List Nd} {L : List Lex} {e : Wrong} (h : atomG n op L = .error e) : piecesG (n + 1) op acc L = .error e := by rw [piecesG, h]
theorem piecesG_end {n : Nat} {op : List Int} {acc : List Nd} {L R : List Lex} (h : atomG n op L = .ok (none, R)) : piecesG (n + 1) op acc L = .ok (acc, R) := by rw [piecesG, h]
theorem piecesG_go {n : Nat} {op : List Int} {acc : List Nd} {L R : List Lex} {x : Nd} (h : atomG n op L = .ok (some x, R)) : piecesG (n + 1) op acc L = piecesG n op (acc ++ [(postsG x R).1]) (postsG x R).2 := by rw [piecesG, h]
theorem atomG_nil (n : Nat) (op : List Int) : atomG (n + 1) op [] = .ok (none, []) := by rw [atomG]
theorem atomG_set {n : Nat} {op : List Int} {y : Lex} {L : List Lex} (h : y.kind = 1) : atomG (n + 1) op (y :: L) = .ok (some (leafN (maskOf y.set)), L) := by rw [atomG, if_pos h]
theorem atomG_deep {n : Nat} {op : List Int} {y : Lex} {L : List Lex} (h : y.kind = 2) (h2 : op.length = 64) : atomG (n + 1) op (y :: L) = .error (17, y.place) := by rw [atomG, if_neg (by omega), if_pos h, if_pos h2]
theorem atomG_in {n : Nat} {op : List Int} {y : Lex} {L : List Lex} {e : Wrong} (h : y.kind = 2) (h2 : op.length ≠ 64) (h3 : altG n (y.place :: op) [] L = .error e) : atomG (n + 1) op (y :: L) = .error e := by rw [atomG, if_neg (by omega), if_pos h, if_neg h2, h3]
theorem atomG_close {n : Nat} {op : List Int} {y c : Lex} {L R : List Lex} {x : Nd} (h : y.kind = 2) (h2 : op.length ≠ 64) (h3 : altG n (y.place :: op) [] L = .ok (x, c :: R)) (hc : c.kind = 3) : atomG (n + 1) op (y :: L) = .ok (some x, R) := by
  rw [atomG, if_neg (by omega), if_pos h, if_neg h2, h3]
  exact if_pos hc
theorem atomG_open {n : Nat} {op : List Int} {y : Lex} {L R : List Lex} {x : Nd} (h : y.kind = 2) (h2 : op.length ≠ 64) (h3 : altG n (y.place :: op) [] L = .ok (x, R)) (hc : ∀ c R', R = c :: R' → c.kind ≠ 3) : atomG (n + 1) op (y :: L) = .error (11, y.place) := by
  rw [atomG, if_neg (by omega), if_pos h, if_neg h2, h3]
  cases R with
  | nil => rfl
  | cons c R' => exact if_neg (hc c R' rfl)
theorem isPost_iff (k : Int) : isPost k = true ↔ 5 ≤ k ∧ k ≤ 8 := by unfold isPost; simp
theorem atomG_post {n : Nat} {op : List Int} {y : Lex} {L : List Lex} (h : isPost y.kind = true) : atomG (n + 1) op (y :: L) = .error (5, y.place) := by
  have := (isPost_iff _).1 h
  rw [atomG, if_neg (by omega), if_neg (by omega), if_pos h]
theorem atomG_lone {n : Nat} {op : List Int} {y : Lex} {L : List Lex} (h : y.kind = 3) (h2 : op.length = 0) : atomG (n + 1) op (y :: L) = .error (12, y.place) := by
  have : ¬ isPost y.kind = true := by rw [isPost_iff]; omega
  rw [atomG, if_neg (by omega), if_neg (by omega), if_neg this, if_pos ⟨h, h2⟩]
theorem atomG_stop {n : Nat} {op : List Int} {y : Lex} {L : List Lex} (h1 : y.kind ≠ 1) (h2 : y.kind ≠ 2) (h3 : isPost y.kind = false) (h4 : ¬ (y.kind = 3 ∧ op.length = 0)) : atomG (n + 1) op (y :: L) = .ok (none, y :: L) := by
  rw [atomG, if_neg h1, if_neg h2, if_neg (by rw [h3]; decide), if_neg h4]

/-- The tree of lexemes, or what is wrong with them. -/
def lexemesS (L : List Lex) : Except Wrong Nd :=
  if L.all rightS = false then .error (6, 0)
  else if h : 1024 < L.length then .error (4, (L[1024]).place)
  else match altG (3 * L.length + 3) [] [] L with
    | .error e => .error e
    | .ok (x, _) => .ok x
/-- The tree of a text. -/
def parseS (bs : List Nat) : Except Wrong Nd :=
  match splitS bs with
  | .error e => .error e
  | .ok L => lexemesS L

/-! What is left is an end of what was there. -/
theorem postsG_suf : ∀ (L : List Lex) (x : Nd), (postsG x L).2 <:+ L
  | [], x => List.suffix_refl _
  | y :: L, x => by
    unfold postsG
    split
    · exact (postsG_suf L _).trans (List.suffix_cons y L)
    · exact List.suffix_refl _
theorem readG_suf (n : Nat) : (∀ op acc L x R, altG n op acc L = .ok (x, R) → R <:+ L) ∧ (∀ op acc L ps R, piecesG n op acc L = .ok (ps, R) → R <:+ L) ∧
    (∀ op L x R, atomG n op L = .ok (x, R) → R <:+ L ∧ (x ≠ none → R.length < L.length)) := by
  induction n with
  | zero => exact ⟨fun _ _ _ _ _ h => (by rw [altG] at h; cases h), fun _ _ _ _ _ h => (by rw [piecesG] at h; cases h), fun _ _ _ _ h => (by rw [atomG] at h; cases h)⟩
  | succ n ih =>
    obtain ⟨ia, ip, it⟩ := ih
    refine ⟨fun op acc L x R h => ?_, fun op acc L ps R h => ?_, fun op L x R h => ?_⟩
    · cases hp : piecesG n op [] L with
      | error e => rw [altG_bad hp] at h; cases h
      | ok r =>
        obtain ⟨ps, R1⟩ := r
        rw [altG_ok hp] at h
        have h1 := ip _ _ _ _ _ hp
        cases R1 with
        | nil => rw [tailG_nil] at h; cases h; exact h1
        | cons c R' =>
          by_cases h4 : c.kind = 4
          · rw [tailG_bar h4] at h
            exact (ia _ _ _ _ _ h).trans ((List.suffix_cons c R').trans h1)
          · rw [tailG_stop h4] at h
            cases h; exact h1
    · cases hp : atomG n op L with
      | error e => rw [piecesG_bad hp] at h; cases h
      | ok r =>
        obtain ⟨x, R1⟩ := r
        have h1 := (it _ _ _ _ hp).1
        cases x with
        | none => rw [piecesG_end hp] at h; cases h; exact h1
        | some x =>
          rw [piecesG_go hp] at h
          exact (ip _ _ _ _ _ h).trans ((postsG_suf _ _).trans h1)
    · cases L with
      | nil => rw [atomG_nil] at h; cases h; exact ⟨List.suffix_refl _, fun h => absurd rfl h⟩
      | cons y L =>
        rw [atomG] at h
        split at h
        · cases h; exact ⟨List.suffix_cons _ _, fun _ => by simp⟩
        split at h
        · split at h
          · cases h
          split at h
          · cases h
          · rename_i x' R' hx
            have h1 := ia _ _ _ _ _ hx
            split at h
            · cases h
            · rename_i c R''
              split at h
              · cases h
                have h2 : R <:+ L := (List.suffix_cons c R).trans h1
                exact ⟨h2.trans (List.suffix_cons y L), fun _ => by have := h2.length_le; simp; omega⟩
              · cases h
        split at h
        · cases h
        split at h
        · cases h
        · cases h; exact ⟨List.suffix_refl _, fun h => absurd rfl h⟩

/-! What is wrong first, by one look from the left. -/
def wrongS (op : List Int) (piece : Bool) : List Lex → Option Wrong
  | [] => match op with
    | [] => none
    | x :: _ => some (11, x)
  | y :: L =>
    if y.kind = 1 then wrongS op true L
    else if y.kind = 2 then (if 64 ≤ op.length then some (17, y.place) else wrongS (y.place :: op) false L)
    else if y.kind = 3 then (match op with
      | [] => some (12, y.place)
      | _ :: op' => wrongS op' true L)
    else if y.kind = 4 then wrongS op false L
    else if piece = false then some (5, y.place) else wrongS op piece L
/-- What stands first is no sign. -/
def NoPost (L : List Lex) : Prop := ∀ y L', L = y :: L' → isPost y.kind = false
def Kinds (L : List Lex) : Prop := ∀ y ∈ L, 1 ≤ y.kind ∧ y.kind ≤ 8
theorem Kinds.suf {L R : List Lex} (h : Kinds L) (hs : R <:+ L) : Kinds R := fun y hy => h y (hs.subset hy)
theorem Kinds.tail {L : List Lex} {y : Lex} (h : Kinds (y :: L)) : Kinds L := fun z hz => h z (List.mem_cons_of_mem y hz)
/-- Where a part ends. -/
def Stop (op : List Int) (R : List Lex) : Prop := R = [] ∨ ∃ c R', R = c :: R' ∧ (c.kind = 4 ∨ c.kind = 3 ∧ op ≠ [])
/-- Where an alternative ends. -/
def Stop2 (op : List Int) (R : List Lex) : Prop := R = [] ∨ ∃ c R', R = c :: R' ∧ c.kind = 3 ∧ op ≠ []
theorem Stop.noPost {op : List Int} {R : List Lex} (h : Stop op R) : NoPost R := by
  intro y L' e
  rcases h with rfl | ⟨c, R', rfl, h⟩
  · cases e
  · cases e
    unfold isPost
    simp
    omega
theorem wrongS_flag {op : List Int} {R : List Lex} (hk : Kinds R) (h : NoPost R) (p q : Bool) : wrongS op p R = wrongS op q R := by
  cases R with
  | nil => rfl
  | cons y L =>
    have h1 := hk y (by simp)
    have h2 := h y L rfl
    have h3 : ¬ (5 ≤ y.kind ∧ y.kind ≤ 8) := fun hh => by rw [(isPost_iff _).2 hh] at h2; cases h2
    unfold wrongS
    by_cases e1 : y.kind = 1
    · rw [if_pos e1, if_pos e1]
    rw [if_neg e1, if_neg e1]
    by_cases e2 : y.kind = 2
    · rw [if_pos e2, if_pos e2]
    rw [if_neg e2, if_neg e2]
    by_cases e3 : y.kind = 3
    · rw [if_pos e3, if_pos e3]
    rw [if_neg e3, if_neg e3]
    rw [if_pos (by omega), if_pos (by omega)]
theorem postsG_wrong (op : List Int) : ∀ (L : List Lex) (x : Nd), Kinds L → wrongS op true L = wrongS op true (postsG x L).2 ∧ NoPost (postsG x L).2
  | [], x, _ => ⟨rfl, fun y L' e => by cases e⟩
  | y :: L, x, hk => by
    unfold postsG
    split
    · rename_i h
      have h1 := (isPost_iff _).1 h
      have := postsG_wrong op L (postN y x) hk.tail
      refine ⟨?_, this.2⟩
      rw [← this.1]
      conv => lhs; unfold wrongS
      rw [if_neg (by omega), if_neg (by omega), if_neg (by omega), if_neg (by omega), if_neg (by decide)]
    · rename_i h
      refine ⟨rfl, fun z L' e => ?_⟩
      cases e
      simpa using h
def AltW (n : Nat) : Prop := ∀ op acc L, Kinds L → op.length ≤ 64 → 3 * L.length + 2 < n →
  match altG n op acc L with
  | .error e => wrongS op false L = some e
  | .ok (_, R) => Stop2 op R ∧ wrongS op false L = wrongS op false R
def PiecesW (n : Nat) : Prop := ∀ op acc L (p : Bool), Kinds L → op.length ≤ 64 → 3 * L.length + 1 < n → (p = false ∨ NoPost L) →
  match piecesG n op acc L with
  | .error e => wrongS op p L = some e
  | .ok (_, R) => Stop op R ∧ wrongS op p L = wrongS op false R
def AtomW (n : Nat) : Prop := ∀ op L (p : Bool), Kinds L → op.length ≤ 64 → 3 * L.length < n → (p = false ∨ NoPost L) →
  match atomG n op L with
  | .error e => wrongS op p L = some e
  | .ok (none, R) => R = L ∧ Stop op L
  | .ok (some _, R) => wrongS op p L = wrongS op true R
theorem readG_wrong (n : Nat) : AltW n ∧ PiecesW n ∧ AtomW n := by
  induction n with
  | zero => exact ⟨fun _ _ _ _ _ h => by omega, fun _ _ _ _ _ _ h => by omega, fun _ _ _ _ _ h => by omega⟩
  | succ n ih =>
    obtain ⟨ia, ip, it⟩ := ih
    obtain ⟨sa, sp, st⟩ := readG_suf n
    refine ⟨fun op acc L hk ho hn => ?_, fun op acc L p hk ho hn hp => ?_, fun op L p hk ho hn hp => ?_⟩
    · have h1 := ip op [] L false hk ho (by omega) (.inl rfl)
      cases hx : piecesG n op [] L with
      | error e => rw [hx] at h1; rw [altG_bad hx]; exact h1
      | ok r =>
        obtain ⟨ps, R⟩ := r
        rw [hx] at h1
        obtain ⟨h1, h2⟩ := h1
        have hs := sp _ _ _ _ _ hx
        rw [altG_ok hx]
        rcases h1 with rfl | ⟨c, R', rfl, hc⟩
        · exact ⟨.inl rfl, h2⟩
        · by_cases h4 : c.kind = 4
          · rw [tailG_bar h4]
            have hl := hs.length_le
            simp at hl
            have h3 := ia op (acc ++ [partN ps]) R' ((hk.suf hs).tail) ho (by omega)
            have e : wrongS op false (c :: R') = wrongS op false R' := by
              conv => lhs; unfold wrongS
              rw [if_neg (by omega), if_neg (by omega), if_neg (by omega), if_pos h4]
            rw [h2, e]
            exact h3
          · rw [tailG_stop h4]
            exact ⟨.inr ⟨c, R', rfl, by omega, by rcases hc with hc | hc; exact absurd hc h4; exact hc.2⟩, h2⟩
    · have h1 := it op L p hk ho (by omega) hp
      cases hx : atomG n op L with
      | error e => rw [hx] at h1; rw [piecesG_bad hx]; exact h1
      | ok r =>
        obtain ⟨x, R⟩ := r
        have hs := st _ _ _ _ hx
        cases x with
        | none =>
          rw [hx] at h1
          obtain ⟨rfl, h1⟩ := h1
          rw [piecesG_end hx]
          exact ⟨h1, wrongS_flag hk h1.noPost _ _⟩
        | some x =>
          rw [hx] at h1
          rw [piecesG_go hx]
          have h2 := postsG_wrong op R x (hk.suf hs.1)
          have hs2 := postsG_suf R x
          have hl := hs.2 (by simp)
          have hl2 := hs2.length_le
          have h3 := ip op (acc ++ [(postsG x R).1]) (postsG x R).2 true (hk.suf (hs2.trans hs.1)) ho (by omega) (.inr h2.2)
          rw [show wrongS op p L = wrongS op true (postsG x R).2 from h1.trans h2.1]
          exact h3
    · cases L with
      | nil => rw [atomG_nil]; exact ⟨rfl, .inl rfl⟩
      | cons y L =>
        have hky := hk y (by simp)
        simp only [List.length_cons] at hn
        by_cases e1 : y.kind = 1
        · rw [atomG_set e1]
          show wrongS op p (y :: L) = wrongS op true L
          conv => lhs; unfold wrongS
          rw [if_pos e1]
        by_cases e2 : y.kind = 2
        · by_cases h64 : op.length = 64
          · rw [atomG_deep e2 h64]
            show wrongS op p (y :: L) = _
            unfold wrongS
            rw [if_neg e1, if_pos e2, if_pos (by omega)]
          · have h1 := ia (y.place :: op) [] L hk.tail (by simp; omega) (by omega)
            have ew : wrongS op p (y :: L) = wrongS (y.place :: op) false L := by
              conv => lhs; unfold wrongS
              rw [if_neg e1, if_pos e2, if_neg (by omega)]
            cases hx : altG n (y.place :: op) [] L with
            | error e => rw [hx] at h1; rw [atomG_in e2 h64 hx]; exact ew.trans h1
            | ok r =>
              obtain ⟨x, R⟩ := r
              rw [hx] at h1
              obtain ⟨h1, h2⟩ := h1
              rcases h1 with rfl | ⟨c, R', rfl, hc, _⟩
              · rw [atomG_open e2 h64 hx (fun c R' e => by cases e)]
                exact ew.trans h2
              · rw [atomG_close e2 h64 hx hc]
                refine ew.trans (h2.trans ?_)
                conv => lhs; unfold wrongS
                rw [if_neg (by omega), if_neg (by omega), if_pos hc]
        by_cases e5 : isPost y.kind = true
        · rw [atomG_post e5]
          have h5 := (isPost_iff _).1 e5
          have hp' : p = false := by
            rcases hp with h | h
            · exact h
            · rw [h y L rfl] at e5; cases e5
          show wrongS op p (y :: L) = _
          unfold wrongS
          rw [if_neg e1, if_neg e2, if_neg (by omega), if_neg (by omega), if_pos hp']
        by_cases e3 : y.kind = 3
        · by_cases h0 : op.length = 0
          · rw [atomG_lone e3 h0]
            show wrongS op p (y :: L) = _
            have : op = [] := List.length_eq_zero_iff.1 h0
            subst this
            unfold wrongS
            rw [if_neg e1, if_neg e2, if_pos e3]
          · rw [atomG_stop e1 e2 (by simpa using e5) (fun h => h0 h.2)]
            exact ⟨rfl, .inr ⟨y, L, rfl, .inr ⟨e3, fun h => h0 (by rw [h]; rfl)⟩⟩⟩
        · rw [atomG_stop e1 e2 (by simpa using e5) (fun h => e3 h.1)]
          have : ¬ (5 ≤ y.kind ∧ y.kind ≤ 8) := fun h => e5 ((isPost_iff _).2 h)
          exact ⟨rfl, .inr ⟨y, L, rfl, .inl (by omega)⟩⟩
/-- The reading fails as the look does; else all is read. -/
theorem read_wrong (L : List Lex) (hk : Kinds L) : match altG (3 * L.length + 3) [] [] L with
    | .error e => wrongS [] false L = some e
    | .ok (_, R) => R = [] ∧ wrongS [] false L = none := by
  have h := (readG_wrong (3 * L.length + 3)).1 [] [] L hk (by simp) (by omega)
  cases hx : altG (3 * L.length + 3) [] [] L with
  | error e => rw [hx] at h; exact h
  | ok r =>
    obtain ⟨x, R⟩ := r
    rw [hx] at h
    obtain ⟨h1, h2⟩ := h
    rcases h1 with rfl | ⟨c, R', rfl, _, h0⟩
    · exact ⟨rfl, h2⟩
    · exact absurd rfl h0

end Go.Proofs.Ytkelkadalikibaa
namespace Go.Proofs.Ytkelkadalikibaa
open Go.RowKit
set_option linter.unusedSimpArgs false
set_option linter.unusedVariables false
set_option maxRecDepth 100000

theorem Blk.put8 {w : World} {g : Nat} {t : TypeId} {a0 a1 a2 a3 a4 a5 a6 a7 : Value} (h : Blk w g t #[a0, a1, a2, a3, a4, a5, a6, a7]) (b0 b1 b2 b3 b4 b5 b6 b7 : Value) : Blk ((((((((w.setCell ⟨g, 0, none⟩ b0).setCell ⟨g, 1, none⟩ b1).setCell ⟨g, 2, none⟩ b2).setCell ⟨g, 3, none⟩ b3).setCell ⟨g, 4, none⟩ b4).setCell ⟨g, 5, none⟩ b5).setCell ⟨g, 6, none⟩ b6).setCell ⟨g, 7, none⟩ b7) g t #[b0, b1, b2, b3, b4, b5, b6, b7] := by
  have h1 : Blk (w.setCell ⟨g, 0, none⟩ b0) g t #[b0, a1, a2, a3, a4, a5, a6, a7] := Blk.set_ h 0 b0
  have h2 : Blk ((w.setCell ⟨g, 0, none⟩ b0).setCell ⟨g, 1, none⟩ b1) g t #[b0, b1, a2, a3, a4, a5, a6, a7] := Blk.set_ h1 1 b1
  have h3 : Blk (((w.setCell ⟨g, 0, none⟩ b0).setCell ⟨g, 1, none⟩ b1).setCell ⟨g, 2, none⟩ b2) g t #[b0, b1, b2, a3, a4, a5, a6, a7] := Blk.set_ h2 2 b2
  have h4 : Blk ((((w.setCell ⟨g, 0, none⟩ b0).setCell ⟨g, 1, none⟩ b1).setCell ⟨g, 2, none⟩ b2).setCell ⟨g, 3, none⟩ b3) g t #[b0, b1, b2, b3, a4, a5, a6, a7] := Blk.set_ h3 3 b3
  have h5 : Blk (((((w.setCell ⟨g, 0, none⟩ b0).setCell ⟨g, 1, none⟩ b1).setCell ⟨g, 2, none⟩ b2).setCell ⟨g, 3, none⟩ b3).setCell ⟨g, 4, none⟩ b4) g t #[b0, b1, b2, b3, b4, a5, a6, a7] := Blk.set_ h4 4 b4
  have h6 : Blk ((((((w.setCell ⟨g, 0, none⟩ b0).setCell ⟨g, 1, none⟩ b1).setCell ⟨g, 2, none⟩ b2).setCell ⟨g, 3, none⟩ b3).setCell ⟨g, 4, none⟩ b4).setCell ⟨g, 5, none⟩ b5) g t #[b0, b1, b2, b3, b4, b5, a6, a7] := Blk.set_ h5 5 b5
  have h7 : Blk (((((((w.setCell ⟨g, 0, none⟩ b0).setCell ⟨g, 1, none⟩ b1).setCell ⟨g, 2, none⟩ b2).setCell ⟨g, 3, none⟩ b3).setCell ⟨g, 4, none⟩ b4).setCell ⟨g, 5, none⟩ b5).setCell ⟨g, 6, none⟩ b6) g t #[b0, b1, b2, b3, b4, b5, b6, a7] := Blk.set_ h6 6 b6
  have h8 : Blk ((((((((w.setCell ⟨g, 0, none⟩ b0).setCell ⟨g, 1, none⟩ b1).setCell ⟨g, 2, none⟩ b2).setCell ⟨g, 3, none⟩ b3).setCell ⟨g, 4, none⟩ b4).setCell ⟨g, 5, none⟩ b5).setCell ⟨g, 6, none⟩ b6).setCell ⟨g, 7, none⟩ b7) g t #[b0, b1, b2, b3, b4, b5, b6, b7] := Blk.set_ h7 7 b7
  exact h8
theorem Blk.past8 {w : World} {g g' : Nat} {t : TypeId} {cs : Array Value} (h : Blk w g t cs) (hg : g ≠ g') (b0 b1 b2 b3 b4 b5 b6 b7 : Value) : Blk ((((((((w.setCell ⟨g', 0, none⟩ b0).setCell ⟨g', 1, none⟩ b1).setCell ⟨g', 2, none⟩ b2).setCell ⟨g', 3, none⟩ b3).setCell ⟨g', 4, none⟩ b4).setCell ⟨g', 5, none⟩ b5).setCell ⟨g', 6, none⟩ b6).setCell ⟨g', 7, none⟩ b7) g t cs :=
  ((((((((h.far (p := ⟨g', 0, none⟩) hg b0).far (p := ⟨g', 1, none⟩) hg b1).far (p := ⟨g', 2, none⟩) hg b2).far (p := ⟨g', 3, none⟩) hg b3).far (p := ⟨g', 4, none⟩) hg b4).far (p := ⟨g', 5, none⟩) hg b5).far (p := ⟨g', 6, none⟩) hg b6).far (p := ⟨g', 7, none⟩) hg b7)
theorem below_put8 {B g : Nat} {a w : World} (h : Below B a w) (hg : B ≤ g) (b0 b1 b2 b3 b4 b5 b6 b7 : Value) : Below B a ((((((((w.setCell ⟨g, 0, none⟩ b0).setCell ⟨g, 1, none⟩ b1).setCell ⟨g, 2, none⟩ b2).setCell ⟨g, 3, none⟩ b3).setCell ⟨g, 4, none⟩ b4).setCell ⟨g, 5, none⟩ b5).setCell ⟨g, 6, none⟩ b6).setCell ⟨g, 7, none⟩ b7) :=
  ((((((((h.setCell (p := ⟨g, 0, none⟩) hg b0).setCell (p := ⟨g, 1, none⟩) hg b1).setCell (p := ⟨g, 2, none⟩) hg b2).setCell (p := ⟨g, 3, none⟩) hg b3).setCell (p := ⟨g, 4, none⟩) hg b4).setCell (p := ⟨g, 5, none⟩) hg b5).setCell (p := ⟨g, 6, none⟩) hg b6).setCell (p := ⟨g, 7, none⟩) hg b7)
/-- The parser's block p: the lexemes that are left, and as many open brackets as m, in a row of its own. -/
def PAt (W : World) (p : Nat) (v : Value) (L : List Lex) (m : Nat) : Prop :=
  ∃ A cap xs, Blk W p 58 #[.slice A L.length cap, v] ∧ L.length ≤ cap ∧ LexsAt W p A L ∧ W.ownsRow (p + 1) 3 1 v m xs
/-- Blocks that are neither the parser's nor that of its open brackets. -/
def Off (p : Nat) (v : Value) (b : Nat) : Prop := b ≠ p ∧ some b ≠ v.ownBlock
/-- Such blocks from n on. -/
def New (n p : Nat) (v : Value) (b : Nat) : Prop := n ≤ b ∧ Off p v b
/-- What a step of the parser keeps. -/
def Still (p : Nat) (w : World) (v : Value) (w' : World) (v' : Value) : Prop :=
  Below p w w' ∧ (∀ b, b < w.heap.size → Off p v b → w'.heap[b]? = w.heap[b]?) ∧ (∀ g, v'.ownBlock = some g → v.ownBlock = some g ∨ w.heap.size ≤ g)
theorem Still.refl (p : Nat) (w : World) (v : Value) : Still p w v w v := ⟨Below.refl _ _, fun _ _ _ => rfl, fun _ h => .inl h⟩
theorem Still.trans {p : Nat} {w w1 w2 : World} {v v1 v2 : Value} (h : Still p w v w1 v1) (h' : Still p w1 v1 w2 v2) : Still p w v w2 v2 := by
  refine ⟨h.1.trans h'.1, fun b hb ho => ?_, fun g hg => ?_⟩
  · have : Off p v1 b := ⟨ho.1, fun e => by
      rcases h.2.2 b e.symm with h1 | h1
      · exact ho.2 h1.symm
      · omega⟩
    exact (h'.2.1 b (Nat.lt_of_lt_of_le hb h.1.size) this).trans (h.2.1 b hb ho)
  · rcases h'.2.2 g hg with h1 | h1
    · exact h.2.2 g h1
    · exact .inr (Nat.le_trans h.1.size h1)
theorem Still.off {p : Nat} {w w' : World} {v v' : Value} (h : Still p w v w' v') {b : Nat} (hb : Off p v b) (hl : b < w.heap.size) : Off p v' b :=
  ⟨hb.1, fun e => by
    rcases h.2.2 b e.symm with h1 | h1
    · exact hb.2 h1.symm
    · omega⟩
theorem Still.cell {p : Nat} {w w' : World} {v v' : Value} (h : Still p w v w' v') {b : Nat} (hb : Off p v b) (hl : b < w.heap.size) (o : Nat) : w'.cell? ⟨b, o, none⟩ = w.cell? ⟨b, o, none⟩ :=
  World.cell?_of_block (h.2.1 b hl hb)
theorem Still.blk {p : Nat} {w w' : World} {v v' : Value} (h : Still p w v w' v') {b : Nat} (hb : Off p v b) {t : TypeId} {cs : Array Value} (hk : Blk w b t cs) : Blk w' b t cs := (h.2.1 b hk.lt hb).trans hk
theorem Still.trees {n p : Nat} {w w' : World} {v v' : Value} (h : Still p w v w' v') {F : Trees} {A : Option Addr} (ht : TreesAt w (New n p v) F A) : TreesAt w' (New n p v') F A :=
  ht.keep (fun b o hb hl => h.cell hb.2 hl o) (fun b hb hl => ⟨hb.1, h.off hb.2 hl⟩)
theorem Still.cells {n p : Nat} {w w' : World} {v v' : Value} (h : Still p w v w' v') {l : List Nd} {cs : List Value} (ht : CellsAre w (New n p v) l cs) : CellsAre w' (New n p v') l cs :=
  ht.keep (fun b o hb hl => h.cell hb.2 hl o) (fun b hb hl => ⟨hb.1, h.off hb.2 hl⟩)
/-- A row that a caller owns, of blocks behind the parser's. -/
theorem Still.own {p : Nat} {w w' : World} {v v' : Value} (h : Still p w v w' v') {base size n : Nat} {e : TypeId} {u : Value} {xs : List Value} (hr : w.ownsRow base e size u n xs) (ho : ∀ g, u.ownBlock = some g → Off p v g) : w'.ownsRow base e size u n xs := by
  refine ⟨hr.1, ?_⟩
  rcases hr.2 with hn | ⟨g, cap, cur, rfl, hb, hgg, rest⟩
  · exact .inl hn
  · exact .inr ⟨g, cap, cur, rfl, hb, (h.2.1 g (Array.getElem?_eq_some_iff.1 hgg).1 (ho g rfl)).trans hgg, rest⟩
/-- New blocks alone. -/
theorem Still.of_below {p : Nat} {w w' : World} {v : Value} (h : Below w.heap.size w w') (hp : p ≤ w.heap.size) : Still p w v w' v :=
  ⟨h.mono hp, fun b hb _ => h.block b hb, fun _ h => .inl h⟩

theorem Still.set {p : Nat} {w w' : World} {v v' : Value} (h : Still p w v w' v') (o : Nat) (u : Value) : Still p w v (w'.setCell ⟨p, o, none⟩ u) v' :=
  ⟨h.1.setCell (p := ⟨p, o, none⟩) (Nat.le_refl _) u, fun b hb ho => (Below.heap_setCell w' ⟨p, o, none⟩ u b ho.1).trans (h.2.1 b hb ho), h.2.2⟩
theorem Still.more {p : Nat} {w w' w2 : World} {v v' : Value} (h : Still p w v w' v') (hb : Below w'.heap.size w' w2) (hp : p ≤ w.heap.size) : Still p w v w2 v' :=
  h.trans (Still.of_below hb (Nat.le_trans hp h.1.size))
theorem Still.alloc {p : Nat} {w w' : World} {v v' : Value} (h : Still p w v w' v') (hp : p ≤ w.heap.size) (o : Obj) : Still p w v (w'.alloc o) v' := h.more ((Below.refl _ _).alloc (Nat.le_refl _) o) hp
theorem PAt.lt {W : World} {p : Nat} {v : Value} {L : List Lex} {m : Nat} (h : PAt W p v L m) : p < W.heap.size := by
  obtain ⟨A, cap, xs, hb, _⟩ := h
  exact hb.lt
theorem PAt.below {W W' : World} {p : Nat} {v : Value} {L : List Lex} {m : Nat} (h : PAt W p v L m) (hb : Below W.heap.size W W') : PAt W' p v L m := by
  obtain ⟨A, cap, xs, h1, h2, h3, h4⟩ := h
  exact ⟨A, cap, xs, h1.below hb h1.lt, h2, h3.below (hb.mono (Nat.le_of_lt h1.lt)), own_below h4 hb⟩

set_option maxHeartbeats 1000000 in
theorem peek_nil {W : World} {p : Nat} {v : Value} {m : Nat} (h : PAt W p v [] m) :
    Calls Try.prog 56 #[.pointer (some ⟨p, 0, none⟩)] W fun e W' => e = .returned (.int .i64 0) ∧ W' = W := by
  obtain ⟨A, cap, xs, hb, _⟩ := h
  have c0 := hb.cell 0
  clear hb
  go_enter Try.func56, Try.ntmps56
  go_wp2
  go_ret
  exact ⟨rfl, rfl⟩
set_option maxHeartbeats 1000000 in
theorem peek_go {W : World} {p : Nat} {v : Value} {m : Nat} {x : Lex} {L : List Lex} (h : PAt W p v (x :: L) m) (hlen : L.length ≤ 100000) :
    Calls Try.prog 56 #[.pointer (some ⟨p, 0, none⟩)] W fun e W' => e = .returned (.int .i64 x.kind) ∧ W' = W := by
  obtain ⟨A, cap, xs, hb, hc, hl, _⟩ := h
  obtain ⟨b, o, rfl, hbp, ⟨c0, _⟩, _⟩ := hl.cons
  have s0 := hb.cell 0
  simp only [List.length_cons] at s0 hc
  clear hb hl
  have hz : (((L.length + 1 : Nat) : Int) == 0) = false := by simp; omega
  have hz2 : (((L.length : Int) + 1) == 0) = false := by simp; omega
  have hz3 : (0 : Int) < (L.length : Int) + 1 := by omega
  go_enter Try.func56, Try.ntmps56
  go_wp2
  go_ret
  exact ⟨rfl, rfl⟩

theorem fail_any (k at_ : Int) (W : World) :
    Calls Try.prog 103 #[.int .i64 k, .int .i64 at_] W fun e W' => e = .panicked [{ v := .iface 26 (.agg #[.int .i64 k, .int .i64 at_]), recovered := false }] ∧ W' = W := by
  go_enter Try.func103, Try.ntmps103
  go_wp2
  exact ⟨rfl, rfl, rfl⟩

theorem ret_node {fn : Func} {t : Tmp} (h : fn.results = #[.cell t 42]) {tmps : Array Value} {w : World} {g : Nat} {a0 a1 a2 a3 a4 a5 a6 a7 : Value} (hp : tmps.getD t undef = .pointer (some ⟨g, 0, none⟩)) (hb : Blk w g 42 #[a0, a1, a2, a3, a4, a5, a6, a7]) :
    (results fn tmps).run Try.prog w = .ok (.agg #[a0, a1, a2, a3, a4, a5, a6, a7]) w :=
  results_cell_row h tmps w g _ _ _ _ hp hb Try.underlying42 rfl (by kernel_rfl)
theorem ret_lex {fn : Func} {t : Tmp} (h : fn.results = #[.cell t 37]) {tmps : Array Value} {w : World} {g : Nat} {a0 a1 a2 a3 a4 a5 a6 a7 : Value} (hp : tmps.getD t undef = .pointer (some ⟨g, 0, none⟩)) (hb : Blk w g 37 #[a0, a1, a2, a3, a4, a5, a6, a7]) :
    (results fn tmps).run Try.prog w = .ok (.agg #[a0, a1, a2, a3, a4, a5, a6, a7]) w :=
  results_cell_row h tmps w g _ _ _ _ hp hb Try.underlying37 rfl (by kernel_rfl)

/-- The value of a lexeme. -/
@[inline] def lexV (x : Lex) : Value := .agg #[.int .i64 x.kind, .int .i64 x.place, .int .u64 ((word x.set 0 : Nat) : Int), .int .u64 ((word x.set 1 : Nat) : Int), .int .u64 ((word x.set 2 : Nat) : Int), .int .u64 ((word x.set 3 : Nat) : Int), .int .i64 x.lo, .int .i64 x.hi]
set_option maxHeartbeats 1000000 in
theorem next_any {W : World} {p : Nat} {v : Value} {m : Nat} {x : Lex} {L : List Lex} (h : PAt W p v (x :: L) m) (hlen : L.length ≤ 100000) :
    Calls Try.prog 57 #[.pointer (some ⟨p, 0, none⟩)] W fun e W' => e = .returned (lexV x) ∧ PAt W' p v L m ∧ Still p W v W' v := by
  obtain ⟨A, cap, xs, hb, hc, hl, hr⟩ := h
  obtain ⟨b, o, rfl, hbp, ⟨c0, c1, c2, c3, c4, c5, c6, c7⟩, hl2⟩ := hl.cons
  have s0 : W.cell? ⟨p, 0, none⟩ = some (.slice (some ⟨b, o, none⟩) (L.length + 1) cap) := hb.cell 0
  have f0 := hb.frozen 0
  have hp := hb.lt
  have HB := Lib.hid hb
  have HL2 := Lib.hid hl2
  have HR := Lib.hid hr
  simp only [List.length_cons] at hc
  have hz : (0 : Int) < (L.length : Int) + 1 := by omega
  have hbs : b < W.heap.size := by omega
  clear hb hl hr hl2
  go_enter Try.func57, Try.ntmps57
  go_wp2
  go_light
  all_goals
    have hne := blk_not_row HB.out (by decide) HR.out
    refine bodyPost_ret (ret_lex Try.results57 rfl ((Blk.new_at (by simp)).alloc _)) rfl ⟨rfl, ⟨_, _, _, ((HB.out.set_ 0 _).alloc _).alloc _, by omega, ?_, ((own_set HR.out hne).alloc _).alloc _⟩, (((Still.refl p W v).set 0 _).alloc (Nat.le_of_lt hp) _).alloc (Nat.le_of_lt hp) _⟩
  · by_cases hL : L = []
    · subst hL; exact LexsAt.nil
    · have := List.length_pos_iff.2 hL
      omega
  · exact HL2.out.below ((((Below.refl p W).setCell (p := ⟨p, 0, none⟩) (Nat.le_refl _) _).alloc (by simpa [World.setCell] using Nat.le_of_lt hp) _).alloc (by simp [World.setCell]; omega) _)

@[go_sem] theorem lex_field1 (a b c d e f g h : Value) (w : World) : (Instr.field 37 (.agg #[a, b, c, d, e, f, g, h]) 1).run Try.prog w = .ok b w := by kernel_rfl
@[go_sem] theorem lex_field2 (a b c d e f g h : Value) (w : World) : (Instr.field 37 (.agg #[a, b, c, d, e, f, g, h]) 2).run Try.prog w = .ok (.agg #[c, d, e, f]) w := by kernel_rfl

end Go.Proofs.Ytkelkadalikibaa
namespace Go.Proofs.Ytkelkadalikibaa
open Go.RowKit
set_option linter.unusedSimpArgs false
set_option linter.unusedVariables false
set_option maxRecDepth 100000

theorem word_zero (i : Nat) : word (Nat.testBit 0) i = 0 := by
  have : (Nat.testBit 0) = fun _ => false := by funext j; simp
  rw [this]
  exact word_none i
theorem ndV_plain (k : Int) (ks : Trees) (lo hi : Int) (B : Option Addr) (cap : Nat) : ndV ⟨k, 0, ks, lo, hi⟩ B cap = .agg #[.int .i64 k, .int .u64 0, .int .u64 0, .int .u64 0, .int .u64 0, .slice B ks.len cap, .int .i64 lo, .int .i64 hi] := by
  unfold ndV
  simp only [word_zero]
  rfl
/-- The cells of a node, as a block. -/
@[inline] def ndA (x : Nd) (B : Option Addr) (cap : Nat) : Array Value :=
  #[.int .i64 x.kind, .int .u64 ((word x.set.testBit 0 : Nat) : Int), .int .u64 ((word x.set.testBit 1 : Nat) : Int), .int .u64 ((word x.set.testBit 2 : Nat) : Int), .int .u64 ((word x.set.testBit 3 : Nat) : Int), .slice B x.kids.len cap, .int .i64 x.lo, .int .i64 x.hi]
theorem NdAt.of_blk {w : World} {g : Nat} {t : TypeId} {x : Nd} {B : Option Addr} {cap : Nat} (h : Blk w g t (ndA x B cap)) : NdAt w g 0 x.kind x.set x.kids.len x.lo x.hi B cap :=
  ⟨h.cell 0, h.cell 1, h.cell 2, h.cell 3, h.cell 4, h.cell 5, h.cell 6, h.cell 7⟩
/-- A row of one node. -/
theorem TreesAt.one {w : World} {P : Nat → Prop} {g : Nat} {t : TypeId} {x : Nd} {B : Option Addr} {cap : Nat} (h : Blk w g t (ndA x B cap)) (hc : x.kids.len ≤ cap) (ht : TreesAt w P x.kids B) (hg : P g) : TreesAt w P (Trees.of [x]) (some ⟨g, 0, none⟩) :=
  ⟨g, 0, B, cap, rfl, hg, hc, NdAt.of_blk h, ht, trivial⟩

/-- What comes of a node with one kid, the kid in a new row. -/
def Overs (k : Int) (x : Nd) (B : Option Addr) (cap : Nat) (W : World) (e : Ending) (W' : World) : Prop :=
  ∃ g, e = .returned (ndV ⟨k, 0, Trees.of [x], 0, 0⟩ (some ⟨g, 0, none⟩) 1) ∧ Below W.heap.size W W' ∧ W.heap.size ≤ g ∧ Blk W' g 42 (ndA x B cap)
set_option maxHeartbeats 1000000 in
theorem over_go (k : Int) (X : Nat) (x : Nd) (B : Option Addr) (cap : Nat) (W : World) (hX : Blk W X 42 (ndA x B cap)) :
    Calls Try.prog 104 #[.int .i64 k, .pointer (some ⟨X, 0, none⟩)] W (Overs k x B cap W) := by
  have c0 : W.cell? ⟨X, 0, none⟩ = some (.int .i64 x.kind) := hX.cell 0
  have c1 : W.cell? ⟨X, 1, none⟩ = some (.int .u64 ((word x.set.testBit 0 : Nat) : Int)) := hX.cell 1
  have c2 : W.cell? ⟨X, 2, none⟩ = some (.int .u64 ((word x.set.testBit 1 : Nat) : Int)) := hX.cell 2
  have c3 : W.cell? ⟨X, 3, none⟩ = some (.int .u64 ((word x.set.testBit 2 : Nat) : Int)) := hX.cell 3
  have c4 : W.cell? ⟨X, 4, none⟩ = some (.int .u64 ((word x.set.testBit 3 : Nat) : Int)) := hX.cell 4
  have c5 : W.cell? ⟨X, 5, none⟩ = some (.slice B x.kids.len cap) := hX.cell 5
  have c6 : W.cell? ⟨X, 6, none⟩ = some (.int .i64 x.lo) := hX.cell 6
  have c7 : W.cell? ⟨X, 7, none⟩ = some (.int .i64 x.hi) := hX.cell 7
  have hl := hX.lt
  clear hX
  go_enter Try.func104, Try.ntmps104
  go_wp2
  go_light
  refine bodyPost_ret (ret_node Try.results104 rfl ((Blk.new_at (by simp)).alloc _)) rfl ⟨W.heap.size + 1, by rw [ndV_plain]; rfl, ((Below.refl _ _).alloc (Nat.le_refl _) _).alloc (by simp) _, by omega, Blk.new_at (by simp)⟩

def lenOf : Value → Nat
  | .slice _ n _ => n
  | _ => 0
/-- What posts gives. -/
def Posted (n p : Nat) (v : Value) (m : Nat) (r : Nd × List Lex) (W : World) (e : Ending) (W' : World) : Prop :=
  ∃ B cap, e = .returned (ndV r.1 B cap) ∧ PAt W' p v r.2 m ∧ Still p W v W' v ∧ r.1.kids.len ≤ cap ∧ TreesAt W' (New n p v) r.1.kids B
/-- What holds in each round of posts: the box X holds the node so far. -/
def InPosts (n p : Nat) (v : Value) (m X : Nat) (r : Nd × List Lex) (W wr : World) : Prop :=
  ∃ z B cap L, postsG z L = r ∧ L.length ≤ 100000 ∧ PAt wr p v L m ∧ Still p W v wr v ∧ Blk wr X 42 (ndA z B cap) ∧ Blk wr (X + 1) 42 #[.int .i64 0, .int .u64 0, .int .u64 0, .int .u64 0, .int .u64 0, .slice none 0 0, .int .i64 0, .int .i64 0] ∧ z.kids.len ≤ cap ∧ TreesAt wr (fun b => New n p v b ∧ b ≠ X ∧ b ≠ X + 1) z.kids B

theorem PAt.len {w : World} {p : Nat} {v : Value} {L : List Lex} {m : Nat} (h : PAt w p v L m) : lenOf ((w.cell? ⟨p, 0, none⟩).getD undef) = L.length := by
  obtain ⟨A, cap, xs, hb, _⟩ := h
  have h0 : w.cell? ⟨p, 0, none⟩ = some (.slice A L.length cap) := hb.cell 0
  rw [h0]
  rfl
theorem only_put8 (w : World) (Y : Nat) (b0 b1 b2 b3 b4 b5 b6 b7 : Value) : w.grownBy ((((((((w.setCell ⟨Y, 0, none⟩ b0).setCell ⟨Y, 1, none⟩ b1).setCell ⟨Y, 2, none⟩ b2).setCell ⟨Y, 3, none⟩ b3).setCell ⟨Y, 4, none⟩ b4).setCell ⟨Y, 5, none⟩ b5).setCell ⟨Y, 6, none⟩ b6).setCell ⟨Y, 7, none⟩ b7) (some Y) :=
  only_set (only_set (only_set (only_set (only_set (only_set (only_set (only_set (only_refl w _) 0 b0) 1 b1) 2 b2) 3 b3) 4 b4) 5 b5) 6 b6) 7 b7
theorem PAt.only {w w' : World} {p Y : Nat} {v : Value} {L : List Lex} {m : Nat} (h : PAt w p v L m) (hg : w.grownBy w' (some Y)) (hp : p < Y) (hv : ∀ g, v.ownBlock = some g → g ≠ Y) : PAt w' p v L m := by
  obtain ⟨A, cap, xs, hb, hc, hl, hr⟩ := h
  exact ⟨A, cap, xs, hb.grown hg (by simp; omega), hc, hl.below ⟨hg.os, hg.tape, hg.output, hg.size, fun k hk => hg.block k (Nat.lt_trans hk hb.lt) (by simp; omega)⟩,
    hr.kept hg (by cases hvo : v.ownBlock with
      | none => exact .inl rfl
      | some g => exact .inr (fun e => hv g hvo (by simpa using e)))⟩
theorem Still.only {w w' : World} {p Y : Nat} {W : World} {v v' : Value} (h : Still p W v w v') (hg : w.grownBy w' (some Y)) (hp : p < W.heap.size) (hY : W.heap.size ≤ Y) : Still p W v w' v' :=
  ⟨h.1.grown hg (by have := h.1.size; omega) (fun k e => by cases e; omega), fun b hb ho => (hg.block b (Nat.lt_of_lt_of_le hb h.1.size) (by simp; omega)).trans (h.2.1 b hb ho), h.2.2⟩
theorem postsG_stop {x : Nd} {y : Lex} {L : List Lex} (h : isPost y.kind = false) : postsG x (y :: L) = (x, y :: L) := by
  conv => lhs; unfold postsG
  rw [if_neg (by rw [h]; decide)]
theorem postsG_go {x : Nd} {y : Lex} {L : List Lex} (h : isPost y.kind = true) : postsG x (y :: L) = postsG (postN y x) L := by
  conv => lhs; unfold postsG
  rw [if_pos h]

theorem ndA_plain (k : Int) (ks : Trees) (lo hi : Int) (B : Option Addr) (cap : Nat) : ndA ⟨k, 0, ks, lo, hi⟩ B cap = #[.int .i64 k, .int .u64 0, .int .u64 0, .int .u64 0, .int .u64 0, .slice B ks.len cap, .int .i64 lo, .int .i64 hi] := by
  unfold ndA
  simp only [word_zero]
  rfl
theorem posts_step {W w1 w2 w3 : World} {n p m g : Nat} {v : Value} {y : Lex} {L : List Lex} {z : Nd} {B : Option Addr} {cap : Nat} {k lo hi : Int} (hv : ∀ g, v.ownBlock = some g → g < W.heap.size) (hn : n ≤ W.heap.size) (hp : p < W.heap.size) (hS : Still p W v w1 v) (hP : PAt w1 p v (y :: L) m)
    (hb2 : Below w1.heap.size w1 w2) (hg2 : w1.heap.size ≤ g) (hB2 : Blk w2 g 42 (ndA z B cap)) (hY : Blk w1 (W.heap.size + 1) 42 #[.int .i64 0, .int .u64 0, .int .u64 0, .int .u64 0, .int .u64 0, .slice none 0 0, .int .i64 0, .int .i64 0])
    (hT : TreesAt w1 (fun b => New n p v b ∧ b ≠ W.heap.size ∧ b ≠ W.heap.size + 1) z.kids B) (hc : z.kids.len ≤ cap) (hlen : L.length + 1 ≤ 100000)
    (h3 : w2.grownBy w3 (some W.heap.size)) (hX3 : Blk w3 W.heap.size 42 (ndA ⟨k, 0, Trees.of [z], lo, hi⟩ (some ⟨g, 0, none⟩) 1)) :
    PAt w3 p v (y :: L) m ∧ ∀ w5, PAt w5 p v L m → Still p w3 v w5 v → InPosts n p v m W.heap.size (postsG ⟨k, 0, Trees.of [z], lo, hi⟩ L) W w5 ∧ lenOf ((w5.cell? ⟨p, 0, none⟩).getD undef) < lenOf ((w1.cell? ⟨p, 0, none⟩).getD undef) := by
  have hY1 := hY.lt
  have hs2 := hb2.size
  have hs3 := h3.size
  have hoX : Off p v W.heap.size := ⟨by omega, fun e => by have := hv _ e.symm; omega⟩
  have hoY : Off p v (W.heap.size + 1) := ⟨by omega, fun e => by have := hv _ e.symm; omega⟩
  have hog : Off p v g := ⟨by omega, fun e => by have := hv _ e.symm; omega⟩
  have h13 : Still p W v w3 v := (hS.more hb2 (Nat.le_of_lt hp)).only h3 hp (Nat.le_refl _)
  refine ⟨(hP.below hb2).only h3 hp (fun g e => by have := hv g e; omega), fun w5 hP5 hS5 => ⟨?_, ?_⟩⟩
  · have ht3 : TreesAt w3 (fun b => New n p v b ∧ b ≠ W.heap.size ∧ b ≠ W.heap.size + 1) (Trees.of [z]) (some ⟨g, 0, none⟩) := by
      refine TreesAt.one (t := 42) (hB2.grown h3 (by simp; omega)) hc ?_ ⟨⟨by omega, hog⟩, by omega, by omega⟩
      exact (hT.below hb2).keep (fun b o hb hl => World.cell?_of_block (h3.block b hl (by simp; omega))) (fun b hb _ => hb)
    refine ⟨⟨k, 0, Trees.of [z], lo, hi⟩, some ⟨g, 0, none⟩, 1, L, rfl, by omega, hP5, h13.trans hS5, hS5.blk hoX hX3, hS5.blk hoY ((hY.below hb2 hY1).grown h3 (by simp)), Nat.le_refl _, ?_⟩
    exact ht3.keep (fun b o hb hl => hS5.cell hb.1.2 hl o) (fun b hb hl => ⟨⟨hb.1.1, hS5.off hb.1.2 hl⟩, hb.2⟩)
  · rw [hP5.len, hP.len]
    simp
set_option maxHeartbeats 4000000 in
theorem posts_go {W : World} {n p : Nat} {v : Value} {L0 : List Lex} {m : Nat} (x : Nd) (B : Option Addr) (cap : Nat) (h : PAt W p v L0 m) (hx : x.kids.len ≤ cap) (ht : TreesAt W (New n p v) x.kids B) (hn : n ≤ W.heap.size) (hlen : L0.length ≤ 100000) :
    Calls Try.prog 86 #[.pointer (some ⟨p, 0, none⟩), ndV x B cap] W (Posted n p v m (postsG x L0) W) := by
  have hp := h.lt
  have hv : ∀ g, v.ownBlock = some g → g < W.heap.size := by
    obtain ⟨_, _, _, _, _, _, hr⟩ := h
    exact fun g e => (hr.lt g e).2
  have h0 : InPosts n p v m W.heap.size (postsG x L0) W ((W.alloc (.cells (ndA x B cap) 42)).alloc (.cells #[.int .i64 0, .int .u64 0, .int .u64 0, .int .u64 0, .int .u64 0, .slice none 0 0, .int .i64 0, .int .i64 0] 42)) := by
    have hb : Below W.heap.size W ((W.alloc (.cells (ndA x B cap) 42)).alloc (.cells #[.int .i64 0, .int .u64 0, .int .u64 0, .int .u64 0, .int .u64 0, .slice none 0 0, .int .i64 0, .int .i64 0] 42)) := ((Below.refl _ _).alloc (Nat.le_refl _) _).alloc (by simp) _
    exact ⟨x, B, cap, L0, rfl, hlen, h.below hb, Still.of_below hb (Nat.le_of_lt hp), (Blk.new _ _ _).alloc _, Blk.new_at (by simp), hx, (ht.weak (fun b h1 h2 => ⟨h1, by omega, by omega⟩)).below hb⟩
  have H0 := Lib.hid h0
  clear h0 h ht
  unfold ndA at H0
  unfold ndV
  go_enter Try.func86, Try.ntmps86
  go_wp2
  go_loopw [7] (fun _ wr => InPosts n p v m W.heap.size (postsG x L0) W wr) (fun _ wr => lenOf ((wr.cell? ⟨p, 0, none⟩).getD undef))
  case atStart => exact H0.out
  case round =>
    obtain ⟨z, B, cap, L, hr, hlen, hP, hS, hX, hY, hc, ht⟩ := hrel
    have hw : W.heap.size ≤ wr.heap.size := hS.1.size
    have hXl := hX.lt
    have hYl := hY.lt
    have x0 : wr.cell? ⟨W.heap.size, 0, none⟩ = some (.int .i64 z.kind) := hX.cell 0
    have x1 : wr.cell? ⟨W.heap.size, 1, none⟩ = some (.int .u64 ((word z.set.testBit 0 : Nat) : Int)) := hX.cell 1
    have x2 : wr.cell? ⟨W.heap.size, 2, none⟩ = some (.int .u64 ((word z.set.testBit 1 : Nat) : Int)) := hX.cell 2
    have x3 : wr.cell? ⟨W.heap.size, 3, none⟩ = some (.int .u64 ((word z.set.testBit 2 : Nat) : Int)) := hX.cell 3
    have x4 : wr.cell? ⟨W.heap.size, 4, none⟩ = some (.int .u64 ((word z.set.testBit 3 : Nat) : Int)) := hX.cell 4
    have x5 : wr.cell? ⟨W.heap.size, 5, none⟩ = some (.slice B z.kids.len cap) := hX.cell 5
    have x6 : wr.cell? ⟨W.heap.size, 6, none⟩ = some (.int .i64 z.lo) := hX.cell 6
    have x7 : wr.cell? ⟨W.heap.size, 7, none⟩ = some (.int .i64 z.hi) := hX.cell 7
    have y0 : wr.cell? ⟨W.heap.size + 1, 0, none⟩ = some (.int .i64 0) := hY.cell 0
    have y1 : wr.cell? ⟨W.heap.size + 1, 1, none⟩ = some (.int .u64 0) := hY.cell 1
    have y2 : wr.cell? ⟨W.heap.size + 1, 2, none⟩ = some (.int .u64 0) := hY.cell 2
    have y3 : wr.cell? ⟨W.heap.size + 1, 3, none⟩ = some (.int .u64 0) := hY.cell 3
    have y4 : wr.cell? ⟨W.heap.size + 1, 4, none⟩ = some (.int .u64 0) := hY.cell 4
    have y5 : wr.cell? ⟨W.heap.size + 1, 5, none⟩ = some (.slice none 0 0) := hY.cell 5
    have y6 : wr.cell? ⟨W.heap.size + 1, 6, none⟩ = some (.int .i64 0) := hY.cell 6
    have y7 : wr.cell? ⟨W.heap.size + 1, 7, none⟩ = some (.int .i64 0) := hY.cell 7
    have g0 := hY.frozen 0
    have g1 := hY.frozen 1
    have g2 := hY.frozen 2
    have g3 := hY.frozen 3
    have g4 := hY.frozen 4
    have g5 := hY.frozen 5
    have g6 := hY.frozen 6
    have g7 := hY.frozen 7
    have HP := Lib.hid hP
    have HS := Lib.hid hS
    have HX := Lib.hid hX
    have HY := Lib.hid hY
    have HT := Lib.hid ht
    have HR := Lib.hid hr
    clear hP hS hX hY ht hr H0
    cases L with
    | nil =>
      go_wp2_with fail
      refine (peek_nil HP.out).mono ?_
      rintro e w1 ⟨rfl, rfl⟩
      go_wp2
      go_light
      have hg := only_put8 w1 (W.heap.size + 1) (.int .i64 z.kind) (.int .u64 ((word z.set.testBit 0 : Nat) : Int)) (.int .u64 ((word z.set.testBit 1 : Nat) : Int)) (.int .u64 ((word z.set.testBit 2 : Nat) : Int)) (.int .u64 ((word z.set.testBit 3 : Nat) : Int)) (.slice B z.kids.len cap) (.int .i64 z.lo) (.int .i64 z.hi)
      rw [← HR.out]
      refine bodyPost_ret (ret_node Try.results86 rfl (HY.out.put8 _ _ _ _ _ _ _ _)) rfl ⟨B, cap, rfl, HP.out.only hg (by omega) (fun g e => by have := hv g e; omega), HS.out.only hg (by omega) (by omega), hc, HT.out.keep (fun b o hb hl => World.cell?_of_block (hg.block b hl (fun e => hb.2.2 (Option.some.inj e)))) (fun b hb hl => hb.1)⟩

    | cons y L =>
      simp only [List.length_cons] at hlen
      by_cases hpost : isPost y.kind = true
      · have hk := (isPost_iff _).1 hpost
        have HR := Lib.hid ((postsG_go hpost).symm.trans HR.out)
        clear hpost
        by_cases h8 : y.kind = 8
        · have HZ := Lib.hid (show postsG x L0 = postsG ⟨9, 0, Trees.of [z], y.lo, y.hi⟩ L by rw [← HR.out]; unfold postN; rw [if_pos h8])
          go_wp2_with fail
          refine (peek_go HP.out (by omega)).mono ?_
          rintro e w1 ⟨rfl, rfl⟩
          rw [h8]
          go_wp2_with fail
          refine (over_go 9 W.heap.size z B cap w1 HX.out).mono ?_
          rintro e w2 ⟨g, rfl, hb2, hg2, hB2⟩
          rw [ndV_plain]
          have hX2 := HX.out.below hb2 hXl
          have hsz2 := hb2.size
          have f0 := hX2.frozen 0
          have f1 := hX2.frozen 1
          have f2 := hX2.frozen 2
          have f3 := hX2.frozen 3
          have f4 := hX2.frozen 4
          have f5 := hX2.frozen 5
          have f6 := hX2.frozen 6
          have f7 := hX2.frozen 7
          have e0 : w2.cell? ⟨W.heap.size, 0, none⟩ = some (.int .i64 z.kind) := hX2.cell 0
          have e1 : w2.cell? ⟨W.heap.size, 1, none⟩ = some (.int .u64 ((word z.set.testBit 0 : Nat) : Int)) := hX2.cell 1
          have e2 : w2.cell? ⟨W.heap.size, 2, none⟩ = some (.int .u64 ((word z.set.testBit 1 : Nat) : Int)) := hX2.cell 2
          have e3 : w2.cell? ⟨W.heap.size, 3, none⟩ = some (.int .u64 ((word z.set.testBit 2 : Nat) : Int)) := hX2.cell 3
          have e4 : w2.cell? ⟨W.heap.size, 4, none⟩ = some (.int .u64 ((word z.set.testBit 3 : Nat) : Int)) := hX2.cell 4
          have e5 : w2.cell? ⟨W.heap.size, 5, none⟩ = some (.slice B z.kids.len cap) := hX2.cell 5
          have e6 : w2.cell? ⟨W.heap.size, 6, none⟩ = some (.int .i64 z.lo) := hX2.cell 6
          have e7 : w2.cell? ⟨W.heap.size, 7, none⟩ = some (.int .i64 z.hi) := hX2.cell 7
          have HX2 := Lib.hid hX2
          have HB2 := Lib.hid hB2
          have Hb2 := Lib.hid hb2
          clear hX2 hB2 hb2 x0 x1 x2 x3 x4 x5 x6 x7 y0 y1 y2 y3 y4 y5 y6 y7 g0 g1 g2 g3 g4 g5 g6 g7
          obtain ⟨A0, cap0, xs0, hb0, hc0, hl0, _⟩ := (HP.out.below Hb2.out)
          obtain ⟨b0, o0, rfl, hbp, ⟨q0, q1, q2, q3, q4, q5, q6, q7⟩, _⟩ := hl0.cons
          have p0 : w2.cell? ⟨p, 0, none⟩ = some (.slice (some ⟨b0, o0, none⟩) (L.length + 1) cap0) := hb0.cell 0
          clear hb0 hl0 q0 q1 q2 q3 q4 q5
          have hz3 : (0 : Int) < (L.length : Int) + 1 := by omega
          have hne1 : ¬ p = W.heap.size := by omega
          have hne2 : ¬ b0 = W.heap.size := by omega
          go_wp2
          go_region
          have hg3 := only_put8 w2 W.heap.size (.int .i64 9) (.int .u64 0) (.int .u64 0) (.int .u64 0) (.int .u64 0) (.slice (some ⟨g, 0, none⟩) (Trees.of [z]).len 1) (.int .i64 0) (.int .i64 0)
          have hx3 := HX2.out.put8 (.int .i64 9) (.int .u64 0) (.int .u64 0) (.int .u64 0) (.int .u64 0) (.slice (some ⟨g, 0, none⟩) (Trees.of [z]).len 1) (.int .i64 0) (.int .i64 0)
          have hx4 := Blk.set_ hx3 6 (.int .i64 y.lo)
          have hx5 := Blk.set_ hx4 7 (.int .i64 y.hi)
          have hstep := posts_step hv hn hp HS.out HP.out Hb2.out hg2 HB2.out HY.out HT.out hc hlen (only_drew (only_set (only_set hg3 6 (.int .i64 y.lo)) 7 (.int .i64 y.hi))) (by rw [ndA_plain]; exact Blk.drew hx5)
          clear hg3 hx3 hx4 hx5
          have HN := Lib.hid hstep.2
          have HM := Lib.hid hstep.1
          clear hstep
          go_wp2_with fail
          refine (next_any HM.out (by omega)).mono ?_
          rintro e w5 ⟨rfl, hP5, hS5⟩
          have HF := Lib.hid (HN.out w5 hP5 hS5)
          clear hP5 hS5
          unfold lexV
          go_wp2
          go_roundw
          case rel => rw [HZ.out]; exact HF.out.1
          case measure => exact HF.out.2
        · have hk : y.kind = 5 ∨ y.kind = 6 ∨ y.kind = 7 := by omega
          rcases hk with hk | hk | hk
          · have HZ := Lib.hid (show postsG x L0 = postsG ⟨6, 0, Trees.of [z], 0, 0⟩ L by rw [← HR.out]; unfold postN; rw [if_neg h8, hk]; rfl)
            go_wp2_with fail
            refine (peek_go HP.out (by omega)).mono ?_
            rintro e w1 ⟨rfl, rfl⟩
            rw [hk]
            go_wp2_with fail
            refine (over_go 6 W.heap.size z B cap w1 HX.out).mono ?_
            rintro e w2 ⟨g, rfl, hb2, hg2, hB2⟩
            rw [ndV_plain]
            have hX2 := HX.out.below hb2 hXl
            have hsz2 := hb2.size
            have f0 := hX2.frozen 0
            have f1 := hX2.frozen 1
            have f2 := hX2.frozen 2
            have f3 := hX2.frozen 3
            have f4 := hX2.frozen 4
            have f5 := hX2.frozen 5
            have f6 := hX2.frozen 6
            have f7 := hX2.frozen 7
            have e0 : w2.cell? ⟨W.heap.size, 0, none⟩ = some (.int .i64 z.kind) := hX2.cell 0
            have e1 : w2.cell? ⟨W.heap.size, 1, none⟩ = some (.int .u64 ((word z.set.testBit 0 : Nat) : Int)) := hX2.cell 1
            have e2 : w2.cell? ⟨W.heap.size, 2, none⟩ = some (.int .u64 ((word z.set.testBit 1 : Nat) : Int)) := hX2.cell 2
            have e3 : w2.cell? ⟨W.heap.size, 3, none⟩ = some (.int .u64 ((word z.set.testBit 2 : Nat) : Int)) := hX2.cell 3
            have e4 : w2.cell? ⟨W.heap.size, 4, none⟩ = some (.int .u64 ((word z.set.testBit 3 : Nat) : Int)) := hX2.cell 4
            have e5 : w2.cell? ⟨W.heap.size, 5, none⟩ = some (.slice B z.kids.len cap) := hX2.cell 5
            have e6 : w2.cell? ⟨W.heap.size, 6, none⟩ = some (.int .i64 z.lo) := hX2.cell 6
            have e7 : w2.cell? ⟨W.heap.size, 7, none⟩ = some (.int .i64 z.hi) := hX2.cell 7
            have HX2 := Lib.hid hX2
            have HB2 := Lib.hid hB2
            have Hb2 := Lib.hid hb2
            clear hX2 hB2 hb2 x0 x1 x2 x3 x4 x5 x6 x7 y0 y1 y2 y3 y4 y5 y6 y7 g0 g1 g2 g3 g4 g5 g6 g7
            go_wp2_with fail
            have hg3 := only_put8 w2 W.heap.size (.int .i64 6) (.int .u64 0) (.int .u64 0) (.int .u64 0) (.int .u64 0) (.slice (some ⟨g, 0, none⟩) (Trees.of [z]).len 1) (.int .i64 0) (.int .i64 0)
            have hx3 := HX2.out.put8 (.int .i64 6) (.int .u64 0) (.int .u64 0) (.int .u64 0) (.int .u64 0) (.slice (some ⟨g, 0, none⟩) (Trees.of [z]).len 1) (.int .i64 0) (.int .i64 0)
            have hstep := posts_step hv hn hp HS.out HP.out Hb2.out hg2 HB2.out HY.out HT.out hc hlen hg3 (by rw [ndA_plain]; exact hx3)
            clear hg3 hx3
            have HN := Lib.hid hstep.2
            refine (next_any hstep.1 (by omega)).mono ?_
            clear hstep
            rintro e w5 ⟨rfl, hP5, hS5⟩
            have HF := Lib.hid (HN.out w5 hP5 hS5)
            clear hP5 hS5
            unfold lexV
            go_wp2
            go_roundw
            case rel => rw [HZ.out]; exact HF.out.1
            case measure => exact HF.out.2
          · have HZ := Lib.hid (show postsG x L0 = postsG ⟨7, 0, Trees.of [z], 0, 0⟩ L by rw [← HR.out]; unfold postN; rw [if_neg h8, hk]; rfl)
            go_wp2_with fail
            refine (peek_go HP.out (by omega)).mono ?_
            rintro e w1 ⟨rfl, rfl⟩
            rw [hk]
            go_wp2_with fail
            refine (over_go 7 W.heap.size z B cap w1 HX.out).mono ?_
            rintro e w2 ⟨g, rfl, hb2, hg2, hB2⟩
            rw [ndV_plain]
            have hX2 := HX.out.below hb2 hXl
            have hsz2 := hb2.size
            have f0 := hX2.frozen 0
            have f1 := hX2.frozen 1
            have f2 := hX2.frozen 2
            have f3 := hX2.frozen 3
            have f4 := hX2.frozen 4
            have f5 := hX2.frozen 5
            have f6 := hX2.frozen 6
            have f7 := hX2.frozen 7
            have e0 : w2.cell? ⟨W.heap.size, 0, none⟩ = some (.int .i64 z.kind) := hX2.cell 0
            have e1 : w2.cell? ⟨W.heap.size, 1, none⟩ = some (.int .u64 ((word z.set.testBit 0 : Nat) : Int)) := hX2.cell 1
            have e2 : w2.cell? ⟨W.heap.size, 2, none⟩ = some (.int .u64 ((word z.set.testBit 1 : Nat) : Int)) := hX2.cell 2
            have e3 : w2.cell? ⟨W.heap.size, 3, none⟩ = some (.int .u64 ((word z.set.testBit 2 : Nat) : Int)) := hX2.cell 3
            have e4 : w2.cell? ⟨W.heap.size, 4, none⟩ = some (.int .u64 ((word z.set.testBit 3 : Nat) : Int)) := hX2.cell 4
            have e5 : w2.cell? ⟨W.heap.size, 5, none⟩ = some (.slice B z.kids.len cap) := hX2.cell 5
            have e6 : w2.cell? ⟨W.heap.size, 6, none⟩ = some (.int .i64 z.lo) := hX2.cell 6
            have e7 : w2.cell? ⟨W.heap.size, 7, none⟩ = some (.int .i64 z.hi) := hX2.cell 7
            have HX2 := Lib.hid hX2
            have HB2 := Lib.hid hB2
            have Hb2 := Lib.hid hb2
            clear hX2 hB2 hb2 x0 x1 x2 x3 x4 x5 x6 x7 y0 y1 y2 y3 y4 y5 y6 y7 g0 g1 g2 g3 g4 g5 g6 g7
            go_wp2_with fail
            have hg3 := only_put8 w2 W.heap.size (.int .i64 7) (.int .u64 0) (.int .u64 0) (.int .u64 0) (.int .u64 0) (.slice (some ⟨g, 0, none⟩) (Trees.of [z]).len 1) (.int .i64 0) (.int .i64 0)
            have hx3 := HX2.out.put8 (.int .i64 7) (.int .u64 0) (.int .u64 0) (.int .u64 0) (.int .u64 0) (.slice (some ⟨g, 0, none⟩) (Trees.of [z]).len 1) (.int .i64 0) (.int .i64 0)
            have hstep := posts_step hv hn hp HS.out HP.out Hb2.out hg2 HB2.out HY.out HT.out hc hlen hg3 (by rw [ndA_plain]; exact hx3)
            clear hg3 hx3
            have HN := Lib.hid hstep.2
            refine (next_any hstep.1 (by omega)).mono ?_
            clear hstep
            rintro e w5 ⟨rfl, hP5, hS5⟩
            have HF := Lib.hid (HN.out w5 hP5 hS5)
            clear hP5 hS5
            unfold lexV
            go_wp2
            go_roundw
            case rel => rw [HZ.out]; exact HF.out.1
            case measure => exact HF.out.2
          · have HZ := Lib.hid (show postsG x L0 = postsG ⟨8, 0, Trees.of [z], 0, 0⟩ L by rw [← HR.out]; unfold postN; rw [if_neg h8, hk]; rfl)
            go_wp2_with fail
            refine (peek_go HP.out (by omega)).mono ?_
            rintro e w1 ⟨rfl, rfl⟩
            rw [hk]
            go_wp2_with fail
            refine (over_go 8 W.heap.size z B cap w1 HX.out).mono ?_
            rintro e w2 ⟨g, rfl, hb2, hg2, hB2⟩
            rw [ndV_plain]
            have hX2 := HX.out.below hb2 hXl
            have hsz2 := hb2.size
            have f0 := hX2.frozen 0
            have f1 := hX2.frozen 1
            have f2 := hX2.frozen 2
            have f3 := hX2.frozen 3
            have f4 := hX2.frozen 4
            have f5 := hX2.frozen 5
            have f6 := hX2.frozen 6
            have f7 := hX2.frozen 7
            have e0 : w2.cell? ⟨W.heap.size, 0, none⟩ = some (.int .i64 z.kind) := hX2.cell 0
            have e1 : w2.cell? ⟨W.heap.size, 1, none⟩ = some (.int .u64 ((word z.set.testBit 0 : Nat) : Int)) := hX2.cell 1
            have e2 : w2.cell? ⟨W.heap.size, 2, none⟩ = some (.int .u64 ((word z.set.testBit 1 : Nat) : Int)) := hX2.cell 2
            have e3 : w2.cell? ⟨W.heap.size, 3, none⟩ = some (.int .u64 ((word z.set.testBit 2 : Nat) : Int)) := hX2.cell 3
            have e4 : w2.cell? ⟨W.heap.size, 4, none⟩ = some (.int .u64 ((word z.set.testBit 3 : Nat) : Int)) := hX2.cell 4
            have e5 : w2.cell? ⟨W.heap.size, 5, none⟩ = some (.slice B z.kids.len cap) := hX2.cell 5
            have e6 : w2.cell? ⟨W.heap.size, 6, none⟩ = some (.int .i64 z.lo) := hX2.cell 6
            have e7 : w2.cell? ⟨W.heap.size, 7, none⟩ = some (.int .i64 z.hi) := hX2.cell 7
            have HX2 := Lib.hid hX2
            have HB2 := Lib.hid hB2
            have Hb2 := Lib.hid hb2
            clear hX2 hB2 hb2 x0 x1 x2 x3 x4 x5 x6 x7 y0 y1 y2 y3 y4 y5 y6 y7 g0 g1 g2 g3 g4 g5 g6 g7
            go_wp2_with fail
            have hg3 := only_put8 w2 W.heap.size (.int .i64 8) (.int .u64 0) (.int .u64 0) (.int .u64 0) (.int .u64 0) (.slice (some ⟨g, 0, none⟩) (Trees.of [z]).len 1) (.int .i64 0) (.int .i64 0)
            have hx3 := HX2.out.put8 (.int .i64 8) (.int .u64 0) (.int .u64 0) (.int .u64 0) (.int .u64 0) (.slice (some ⟨g, 0, none⟩) (Trees.of [z]).len 1) (.int .i64 0) (.int .i64 0)
            have hstep := posts_step hv hn hp HS.out HP.out Hb2.out hg2 HB2.out HY.out HT.out hc hlen hg3 (by rw [ndA_plain]; exact hx3)
            clear hg3 hx3
            have HN := Lib.hid hstep.2
            refine (next_any hstep.1 (by omega)).mono ?_
            clear hstep
            rintro e w5 ⟨rfl, hP5, hS5⟩
            have HF := Lib.hid (HN.out w5 hP5 hS5)
            clear hP5 hS5
            unfold lexV
            go_wp2
            go_roundw
            case rel => rw [HZ.out]; exact HF.out.1
            case measure => exact HF.out.2
      · have hk : ¬ (5 ≤ y.kind ∧ y.kind ≤ 8) := fun h => hpost ((isPost_iff _).2 h)
        have k5 : (y.kind == 5) = false := by simp; omega
        have k6 : (y.kind == 6) = false := by simp; omega
        have k7 : (y.kind == 7) = false := by simp; omega
        have k8 : (y.kind == 8) = false := by simp; omega
        have HR := Lib.hid ((postsG_stop (by simpa using hpost)).symm.trans HR.out)
        go_wp2_with fail
        refine (peek_go HP.out (by omega)).mono ?_
        rintro e w1 ⟨rfl, rfl⟩
        go_wp2
        go_light
        have hg := only_put8 w1 (W.heap.size + 1) (.int .i64 z.kind) (.int .u64 ((word z.set.testBit 0 : Nat) : Int)) (.int .u64 ((word z.set.testBit 1 : Nat) : Int)) (.int .u64 ((word z.set.testBit 2 : Nat) : Int)) (.int .u64 ((word z.set.testBit 3 : Nat) : Int)) (.slice B z.kids.len cap) (.int .i64 z.lo) (.int .i64 z.hi)
        rw [← HR.out]
        refine bodyPost_ret (ret_node Try.results86 rfl (HY.out.put8 _ _ _ _ _ _ _ _)) rfl ⟨B, cap, rfl, HP.out.only hg (by omega) (fun g e => by have := hv g e; omega), HS.out.only hg (by omega) (by omega), hc, HT.out.keep (fun b o hb hl => World.cell?_of_block (hg.block b hl (fun e => hb.2.2 (Option.some.inj e)))) (fun b hb hl => hb.1)⟩

end Go.Proofs.Ytkelkadalikibaa
namespace Go.Proofs.Ytkelkadalikibaa
open Go.RowKit
set_option linter.unusedSimpArgs false
set_option linter.unusedVariables false
set_option maxRecDepth 100000

theorem tbytes_any (p : Nat → Bool) (w : World) :
    Calls Try.prog 31 #[.agg #[.int .u64 ((word (p) 0 : Nat) : Int), .int .u64 ((word (p) 1 : Nat) : Int), .int .u64 ((word (p) 2 : Nat) : Int), .int .u64 ((word (p) 3 : Nat) : Int)]] w fun e w' => e = .returned (ndV (leafN (maskOf p)) none 0) ∧ Below w.heap.size w w' := by
  have hv : ndV (leafN (maskOf p)) none 0 = .agg #[.int .i64 3, .int .u64 ((word (p) 0 : Nat) : Int), .int .u64 ((word (p) 1 : Nat) : Int), .int .u64 ((word (p) 2 : Nat) : Int), .int .u64 ((word (p) 3 : Nat) : Int), .slice none 0 0, .int .i64 0, .int .i64 0] := by
    unfold ndV leafN
    dsimp only
    rw [word_mask p 0 (by decide), word_mask p 1 (by decide), word_mask p 2 (by decide), word_mask p 3 (by decide)]
    rfl
  rw [hv]
  go_enter Try.func31, Try.ntmps31
  go_wp2
  go_light
  refine bodyPost_ret (ret_node Try.results31 rfl (Blk.new_at (by simp))) rfl ⟨rfl, ((Below.refl _ _).alloc (Nat.le_refl _) _).alloc (by simp) _⟩
theorem tempty_any (w : World) :
    Calls Try.prog 87 #[] w fun e w' => e = .returned (ndV emptyN none 0) ∧ Below w.heap.size w w' := by
  have hv : ndV emptyN none 0 = .agg #[.int .i64 2, .int .u64 0, .int .u64 0, .int .u64 0, .int .u64 0, .slice none 0 0, .int .i64 0, .int .i64 0] := ndV_plain _ _ _ _ _ _
  rw [hv]
  go_enter Try.func87, Try.ntmps87
  go_wp2
  go_light
  refine bodyPost_ret (ret_node Try.results87 rfl (Blk.new_at (by simp))) rfl ⟨rfl, (Below.refl _ _).alloc (Nat.le_refl _) _⟩

/-- What flat gives. -/
def Flatted (P : Nat → Prop) (x : Nd) (w : World) (e : Ending) (w' : World) : Prop :=
  ∃ B cap, e = .returned (ndV x B cap) ∧ Below w.heap.size w w' ∧ x.kids.len ≤ cap ∧ TreesAt w' P x.kids B
theorem flatN_many (k : Int) (l : List Nd) (h : l.length ≠ 1) : flatN k l = ⟨k, 0, Trees.of l, 0, 0⟩ := by
  match l, h with
  | [], _ => rfl
  | [x], h => exact absurd rfl h
  | x :: y :: l, _ => rfl
set_option maxHeartbeats 1000000 in
theorem flat_go (k : Int) (P : Nat → Prop) (A : Option Addr) (cap : Nat) (l : List Nd) (w : World) (hc : l.length ≤ cap) (ht : TreesAt w P (Trees.of l) A) :
    Calls Try.prog 58 #[.int .i64 k, .slice A l.length cap] w (Flatted P (flatN k l) w) := by
  by_cases h1 : l.length = 1
  · obtain ⟨x, rfl⟩ := List.length_eq_one_iff.1 h1
    obtain ⟨b, o, B, cap', rfl, hb, hc', hn, hk⟩ := ht.get (i := 0) (x := x) (by rw [Trees.list_of]; rfl)
    obtain ⟨c0, c1, c2, c3, c4, c5, c6, c7⟩ := hn
    have hbl := World.block_lt_of_cell? w _ c0
    have HK := Lib.hid hk
    simp only [Nat.zero_mul, Nat.add_zero] at c0 c1 c2 c3 c4 c5 c6 c7
    clear hk ht h1
    show Calls _ _ #[.int .i64 k, .slice (some ⟨b, o, none⟩) 1 cap] w (Flatted P x w)
    go_enter Try.func58, Try.ntmps58
    go_wp2
    go_light
    exact bodyPost_ret (ret_node Try.results58 rfl (Blk.new_at (by simp))) rfl ⟨B, cap', rfl, (Below.refl _ _).alloc (Nat.le_refl _) _, hc', HK.out.below ((Below.refl _ _).alloc (Nat.le_refl _) _)⟩
  · rw [flatN_many k l h1]
    have hd : ((l.length : Int) == 1) = false := by simp; omega
    have HT := Lib.hid ht
    clear ht h1
    go_enter Try.func58, Try.ntmps58
    go_wp2
    go_light
    exact bodyPost_ret (ret_node Try.results58 rfl (Blk.new_at (by simp))) rfl ⟨A, cap, by rw [ndV_plain, Trees.len_of], (Below.refl _ _).alloc (Nat.le_refl _) _, by rw [Trees.len_of]; exact hc, HT.out.below ((Below.refl _ _).alloc (Nat.le_refl _) _)⟩

/-! What the parser's functions give. -/
def badV (k q : Int) : Value := .iface 26 (.agg #[.int .i64 k, .int .i64 q])
def Panics (p : Nat) (r : Wrong) (W : World) (e : Ending) (W' : World) : Prop := e = .panicked [{ v := badV r.1 r.2, recovered := false }] ∧ Below p W W'
/-- A node, and what is left. -/
def Gives (p m : Nat) (v : Value) (r : Except Wrong (Nd × List Lex)) (W : World) (e : Ending) (W' : World) : Prop :=
  match r with
  | .ok (x, R) => ∃ v' B cap, e = .returned (ndV x B cap) ∧ PAt W' p v' R m ∧ Still p W v W' v' ∧ x.kids.len ≤ cap ∧ TreesAt W' (New W.heap.size p v') x.kids B
  | .error x => Panics p x W e W'
def zeroN : Value := .agg #[.int .i64 0, .int .u64 0, .int .u64 0, .int .u64 0, .int .u64 0, .slice none 0 0, .int .i64 0, .int .i64 0]
/-- A node and true, or false. -/
def GivesO (p m : Nat) (v : Value) (r : Except Wrong (Option Nd × List Lex)) (W : World) (e : Ending) (W' : World) : Prop :=
  match r with
  | .ok (some x, R) => ∃ v' B cap, e = .returned (.tuple #[ndV x B cap, .bool true]) ∧ PAt W' p v' R m ∧ Still p W v W' v' ∧ x.kids.len ≤ cap ∧ TreesAt W' (New W.heap.size p v') x.kids B
  | .ok (none, R) => ∃ v', e = .returned (.tuple #[zeroN, .bool false]) ∧ PAt W' p v' R m ∧ Still p W v W' v'
  | .error x => Panics p x W e W'
def partR : Except Wrong (List Nd × List Lex) → Except Wrong (Nd × List Lex)
  | .ok (ps, R) => .ok (partN ps, R)
  | .error e => .error e
def AltC (n : Nat) : Prop := ∀ (p : Nat) (op : List Int) (L : List Lex) (W : World) (v : Value), PAt W p v L op.length → L.length ≤ 100000 → op.length ≤ 64 → 3 * L.length + 2 < n →
  Calls Try.prog 26 #[.pointer (some ⟨p, 0, none⟩)] W (Gives p op.length v (altG n op [] L) W)
def PartC (n : Nat) : Prop := ∀ (p : Nat) (op : List Int) (L : List Lex) (W : World) (v : Value), PAt W p v L op.length → L.length ≤ 100000 → op.length ≤ 64 → 3 * L.length + 1 < n →
  Calls Try.prog 55 #[.pointer (some ⟨p, 0, none⟩)] W (Gives p op.length v (partR (piecesG n op [] L)) W)
def AtomC (n : Nat) : Prop := ∀ (p : Nat) (op : List Int) (L : List Lex) (W : World) (v : Value), PAt W p v L op.length → L.length ≤ 100000 → op.length ≤ 64 → 3 * L.length < n →
  Calls Try.prog 85 #[.pointer (some ⟨p, 0, none⟩)] W (GivesO p op.length v (atomG n op L) W)

end Go.Proofs.Ytkelkadalikibaa
namespace Go.Proofs.Ytkelkadalikibaa
open Go.RowKit
set_option linter.unusedSimpArgs false
set_option linter.unusedVariables false
set_option maxRecDepth 100000

/-- Blocks that were of P, or are from n on. -/
def OrNew (P : Nat → Prop) (n b : Nat) : Prop := P b ∨ n ≤ b
theorem info_nd : (Try.prog.info? 42).map (fun i => (i.zero, i.size, i.bytes)) = some (some (.agg #[.int .i64 0, .int .u64 0, .int .u64 0, .int .u64 0, .int .u64 0, .slice none 0 0, .int .i64 0, .int .i64 0]), 8, 80) := by kernel_rfl
theorem ndCell_len (x : Nd) (B : Option Addr) (cap : Nat) : (ndCell x B cap).length = 8 := by simp [ndCell]
theorem addr_plus7 (b o j : Nat) : (⟨b, o, none⟩ : Addr).add j = ⟨b, o + j, none⟩ := by unfold Addr.add; split <;> simp_all
/-- The cells of a row of trees. -/
theorem TreesAt.cells {w : World} {P : Nat → Prop} : ∀ {l : List Nd} {b o : Nat}, TreesAt w P (Trees.of l) (some ⟨b, o, none⟩) → ∃ cs, CellsAre w P l cs ∧ ∀ j u, cs[j]? = some u → w.cell? ⟨b, o + j, none⟩ = some u
  | [], b, o, _ => ⟨[], rfl, fun j u h => by simp at h⟩
  | x :: l, b, o, ⟨b', o', B, cap, hA, hb, hc, hn, h1, h2⟩ => by
    simp at hA
    obtain ⟨rfl, rfl⟩ := hA
    obtain ⟨cs, hcs, hg⟩ := TreesAt.cells h2
    refine ⟨ndCell x B cap ++ cs, ⟨B, cap, cs, rfl, hc, h1, hcs⟩, fun j u hu => ?_⟩
    rcases Nat.lt_or_ge j 8 with hj | hj
    · rw [List.getElem?_append_left (by rw [ndCell_len]; exact hj)] at hu
      obtain ⟨c0, c1, c2, c3, c4, c5, c6, c7⟩ := hn
      have hj' : j = 0 ∨ j = 1 ∨ j = 2 ∨ j = 3 ∨ j = 4 ∨ j = 5 ∨ j = 6 ∨ j = 7 := by omega
      rcases hj' with rfl | rfl | rfl | rfl | rfl | rfl | rfl | rfl
      all_goals
        have hu' := Option.some.inj hu
        subst hu'
        first | exact c0 | exact c1 | exact c2 | exact c3 | exact c4 | exact c5 | exact c6 | exact c7
    · rw [List.getElem?_append_right (by rw [ndCell_len]; exact hj), ndCell_len] at hu
      have := hg (j - 8) u hu
      rw [show o + 8 + (j - 8) = o + j by omega] at this
      exact this
theorem CellsAre.one {w : World} {P : Nat → Prop} : ∀ {l : List Nd} {cs : List Value}, CellsAre w P l cs → ∀ u ∈ cs, u.oneCell' = true
  | [], cs, h, u, hu => by have : cs = [] := h; subst this; cases hu
  | x :: l, cs, ⟨B, cap, rest, hcs, hc, ht, hr⟩, u, hu => by
    subst hcs
    rcases List.mem_append.1 hu with hu | hu
    · simp [ndCell] at hu
      rcases hu with rfl | rfl | rfl | rfl | rfl | rfl | rfl | rfl <;> rfl
    · exact hr.one u hu

set_option maxHeartbeats 1000000 in
theorem nof_go (k : Int) (P : Nat → Prop) (A : Option Addr) (cap : Nat) (l : List Nd) (w : World) (hl : 0 < l.length) (hlen : l.length ≤ 100000) (ht : TreesAt w P (Trees.of l) A) :
    Calls Try.prog 106 #[.int .i64 k, .slice A l.length cap] w (Flatted (OrNew P w.heap.size) ⟨k, 0, Trees.of l, 0, 0⟩ w) := by
  obtain ⟨i0, hi, hz0, hz1, hz2⟩ := info_parts info_nd
  obtain ⟨b, o, rfl, _, hbl⟩ := ht.form (by rw [Trees.len_of]; exact hl)
  obtain ⟨cs, hcs, hg⟩ := (ht.weak (Q := fun b => P b ∧ b < w.heap.size) (fun b h1 h => ⟨h1, h⟩)).cells
  have hb0 : Below w.heap.size w ((w.alloc (.cells #[.int .i64 0, .int .u64 0, .int .u64 0, .int .u64 0, .int .u64 0, .slice none 0 0, .int .i64 0, .int .i64 0] 42)).alloc (.cells #[] 42)) := ((Below.refl _ _).alloc (Nat.le_refl _) _).alloc (by simp) _
  have hnews : ∀ j u, cs[j]? = some u → ((w.alloc (.cells #[.int .i64 0, .int .u64 0, .int .u64 0, .int .u64 0, .int .u64 0, .slice none 0 0, .int .i64 0, .int .i64 0] 42)).alloc (.cells #[] 42)).cell? ((⟨b, o, none⟩ : Addr).add j) = some u := fun j u hu => by
    rw [addr_plus7]
    exact (hb0.cell (p := ⟨b, o + j, none⟩) hbl).trans (hg j u hu)
  have hown : ((w.alloc (.cells #[.int .i64 0, .int .u64 0, .int .u64 0, .int .u64 0, .int .u64 0, .slice none 0 0, .int .i64 0, .int .i64 0] 42)).alloc (.cells #[] 42)).ownsRow (w.heap.size + 1) 42 8 (.slice (some ⟨w.heap.size + 1, 0, none⟩) 0 0) 0 [] := by
    have h := World.ownsRow_made (base := w.heap.size + 1) (size := 8) (e := 42) (w.alloc (.cells #[.int .i64 0, .int .u64 0, .int .u64 0, .int .u64 0, .int .u64 0, .slice none 0 0, .int .i64 0, .int .i64 0] 42)) #[] 0 (by simp) (by decide) rfl
    rw [World.size_alloc] at h
    exact h
  have HN := Lib.hid hnews
  have HO := Lib.hid hown
  have HC := Lib.hid hcs
  have h1 := hcs.one
  have hcl := hcs.length
  have HZ := Lib.hid ((Blk.new w 42 #[.int .i64 0, .int .u64 0, .int .u64 0, .int .u64 0, .int .u64 0, .slice none 0 0, .int .i64 0, .int .i64 0]).alloc (.cells #[] 42))
  have HB := Lib.hid hb0
  have H1 := Lib.hid h1
  have HCL := Lib.hid hcl
  have h63 : 0 + l.length ≤ maxLen := Nat.le_trans (by omega) (show 200000 ≤ maxLen by decide)
  have hby : (0 + l.length) * 80 ≤ 140737488355328 := by omega
  clear hnews hown hb0 hcs hg ht h1 hcl
  go_enter Try.func106, Try.ntmps106
  go_wp2_with (at_builtin; refine wpList_append_lies _ rfl _ _ 40 rfl (w.heap.size + 1) 42 i0 _ 8 80 Try.underlying40 hi hz0 hz1 hz2 rfl (by decide) (.slice (some ⟨w.heap.size + 1, 0, none⟩) 0 0) 0 [] rfl HO.out ⟨b, o, none⟩ l.length cap cs rfl HCL.out HN.out H1.out hl h63 hby (by simp) (w.heap.size + 2) (by simp) ?_; intro g capg w2 hown2 hgrow2 hat2 hg2; have hZ2 : Blk w2 w.heap.size 42 _ := HZ.out.grown hgrow2 (by simp [Value.ownBlock]); have y0 : w2.cell? ⟨w.heap.size, 0, none⟩ = some (.int .i64 0) := hZ2.cell 0; have y1 : w2.cell? ⟨w.heap.size, 1, none⟩ = some (.int .u64 0) := hZ2.cell 1; have y2 : w2.cell? ⟨w.heap.size, 2, none⟩ = some (.int .u64 0) := hZ2.cell 2; have y3 : w2.cell? ⟨w.heap.size, 3, none⟩ = some (.int .u64 0) := hZ2.cell 3; have y4 : w2.cell? ⟨w.heap.size, 4, none⟩ = some (.int .u64 0) := hZ2.cell 4; have y5 : w2.cell? ⟨w.heap.size, 5, none⟩ = some (.slice none 0 0) := hZ2.cell 5; have y6 : w2.cell? ⟨w.heap.size, 6, none⟩ = some (.int .i64 0) := hZ2.cell 6; have y7 : w2.cell? ⟨w.heap.size, 7, none⟩ = some (.int .i64 0) := hZ2.cell 7; have z0 := hZ2.frozen 0; have z1 := hZ2.frozen 1; have z2 := hZ2.frozen 2; have z3 := hZ2.frozen 3; have z4 := hZ2.frozen 4; have z5 := hZ2.frozen 5; have z6 := hZ2.frozen 6; have z7 := hZ2.frozen 7; have HZ2 := Lib.hid hZ2; have HO2 := Lib.hid hown2; have HG2 := Lib.hid hgrow2; clear hZ2 hown2 hgrow2 hat2)
  go_light
  have hlg := (HO2.out.lt g rfl).1
  have hB2 : Below w.heap.size w w2 := HB.out.grown HG2.out (by simp; omega) (fun k e => by simp [Value.ownBlock] at e; omega)
  have hB3 := below_put8 hB2 (Nat.le_refl _) (.int .i64 k) (.int .u64 0) (.int .u64 0) (.int .u64 0) (.int .u64 0) (.slice (some ⟨g, 0, none⟩) (0 + l.length) capg) (.int .i64 0) (.int .i64 0)
  have hO3 := HO2.out.kept (only_put8 w2 w.heap.size (.int .i64 k) (.int .u64 0) (.int .u64 0) (.int .u64 0) (.int .u64 0) (.slice (some ⟨g, 0, none⟩) (0 + l.length) capg) (.int .i64 0) (.int .i64 0)) (.inr (by simp [Value.ownBlock]; omega))
  rw [Nat.zero_add] at *
  have hC3 := CellsAre.keep (Q := OrNew P w.heap.size) (fun b o (hb : P b ∧ b < w.heap.size) _ => hB3.cell (p := ⟨b, o, none⟩) hb.2) (fun _ h _ => .inl h.1) HC.out
  obtain ⟨A', cap', hv, hc', ht'⟩ := trees_of hO3 hC3 (fun k e => .inr (by have := (hO3.lt k e).1; omega))
  obtain ⟨rfl, _, rfl⟩ := Value.slice.inj hv
  exact bodyPost_ret (ret_node Try.results106 rfl (HZ2.out.put8 _ _ _ _ _ _ _ _)) rfl ⟨_, _, by rw [ndV_plain, Trees.len_of], hB3, by rw [Trees.len_of]; exact hc', ht'⟩

theorem nbytes_any (p : Nat → Bool) (w : World) :
    Calls Try.prog 105 #[.agg #[.int .u64 ((word (p) 0 : Nat) : Int), .int .u64 ((word (p) 1 : Nat) : Int), .int .u64 ((word (p) 2 : Nat) : Int), .int .u64 ((word (p) 3 : Nat) : Int)]] w fun e w' => e = .returned (ndV (leafN (maskOf p)) none 0) ∧ Below w.heap.size w w' := by
  have hv : ndV (leafN (maskOf p)) none 0 = .agg #[.int .i64 3, .int .u64 ((word (p) 0 : Nat) : Int), .int .u64 ((word (p) 1 : Nat) : Int), .int .u64 ((word (p) 2 : Nat) : Int), .int .u64 ((word (p) 3 : Nat) : Int), .slice none 0 0, .int .i64 0, .int .i64 0] := by
    unfold ndV leafN
    dsimp only
    rw [word_mask p 0 (by decide), word_mask p 1 (by decide), word_mask p 2 (by decide), word_mask p 3 (by decide)]
    rfl
  rw [hv]
  go_enter Try.func105, Try.ntmps105
  go_wp2
  go_light
  refine bodyPost_ret (ret_node Try.results105 rfl (Blk.new_at (by simp))) rfl ⟨rfl, ((Below.refl _ _).alloc (Nat.le_refl _) _).alloc (by simp) _⟩

/-- Of none, of one, or of more. -/
def manyN (k none : Int) : List Nd → Nd
  | [] => ⟨none, 0, .nil, 0, 0⟩
  | [x] => x
  | l => ⟨k, 0, Trees.of l, 0, 0⟩
theorem manyN_part (l : List Nd) : manyN 4 2 l = partN l := by
  match l with
  | [] => rfl
  | [x] => rfl
  | x :: y :: l => rfl
theorem manyN_flat (l : List Nd) (h : l ≠ []) : manyN 5 1 l = flatN 5 l := by
  match l, h with
  | [], h => exact absurd rfl h
  | [x], _ => rfl
  | x :: y :: l, _ => rfl
theorem manyN_more (k none : Int) (l : List Nd) (h : 2 ≤ l.length) : manyN k none l = ⟨k, 0, Trees.of l, 0, 0⟩ := by
  match l, h with
  | [], h => simp at h
  | [x], h => simp at h
  | x :: y :: l, _ => rfl
/-- A result that lies in a block of its own. -/
theorem flat_put {w w2 : World} {x : Nd} {B : Option Addr} {cap : Nat} (hZ : Blk w2 w.heap.size 42 #[.int .i64 0, .int .u64 0, .int .u64 0, .int .u64 0, .int .u64 0, .slice none 0 0, .int .i64 0, .int .i64 0]) (hB : Below w.heap.size w w2) {P : Nat → Prop} (ht : TreesAt w2 (OrNew (fun b => P b ∧ b < w.heap.size) (w.heap.size + 1)) x.kids B) {w' : World}
    (hw' : w' = ((((((((w2.setCell ⟨w.heap.size, 0, none⟩ (.int .i64 x.kind)).setCell ⟨w.heap.size, 1, none⟩ (.int .u64 ((word x.set.testBit 0 : Nat) : Int))).setCell ⟨w.heap.size, 2, none⟩ (.int .u64 ((word x.set.testBit 1 : Nat) : Int))).setCell ⟨w.heap.size, 3, none⟩ (.int .u64 ((word x.set.testBit 2 : Nat) : Int))).setCell ⟨w.heap.size, 4, none⟩ (.int .u64 ((word x.set.testBit 3 : Nat) : Int))).setCell ⟨w.heap.size, 5, none⟩ (.slice B x.kids.len cap)).setCell ⟨w.heap.size, 6, none⟩ (.int .i64 x.lo)).setCell ⟨w.heap.size, 7, none⟩ (.int .i64 x.hi))) :
    Blk w' w.heap.size 42 (ndA x B cap) ∧ Below w.heap.size w w' ∧ TreesAt w' (OrNew P w.heap.size) x.kids B := by
  have hg : w2.grownBy w' (some w.heap.size) := by rw [hw']; exact only_put8 _ _ _ _ _ _ _ _ _ _
  refine ⟨by rw [hw']; exact hZ.put8 _ _ _ _ _ _ _ _, by rw [hw']; exact below_put8 hB (Nat.le_refl _) _ _ _ _ _ _ _ _, ht.keep (fun b o hb hl => World.cell?_of_block (hg.block b hl (fun e => by have := Option.some.inj e; rcases hb with h | h <;> omega))) (fun b hb _ => hb.imp (fun h => h.1) (fun h => by omega))⟩

set_option maxHeartbeats 1000000 in
theorem nmany_go (k nk : Int) (P : Nat → Prop) (A : Option Addr) (cap : Nat) (l : List Nd) (w : World) (hlen : l.length ≤ 100000) (ht : TreesAt w P (Trees.of l) A) :
    Calls Try.prog 90 #[.int .i64 k, .int .i64 nk, .slice A l.length cap] w (Flatted (OrNew P w.heap.size) (manyN k nk l) w) := by
  by_cases h0 : l = []
  · subst h0
    show Calls _ _ #[.int .i64 k, .int .i64 nk, .slice A 0 cap] w (Flatted (OrNew P w.heap.size) ⟨nk, 0, .nil, 0, 0⟩ w)
    go_enter Try.func90, Try.ntmps90
    go_wp2
    go_light
    exact bodyPost_ret (ret_node Try.results90 rfl (Blk.new_at (by simp))) rfl ⟨none, 0, by rw [ndV_plain]; rfl, (Below.refl _ _).alloc (Nat.le_refl _) _, Nat.le_refl _, trivial⟩
  have hd0 : ((l.length : Int) == 0) = false := by rw [beq_eq_false_iff_ne]; intro e; exact h0 (List.length_eq_zero_iff.1 (by omega))
  by_cases h1 : l.length = 1
  · obtain ⟨x, rfl⟩ := List.length_eq_one_iff.1 h1
    obtain ⟨b, o, B, cap', rfl, hb, hc', hn, hk⟩ := ht.get (i := 0) (x := x) (by rw [Trees.list_of]; rfl)
    obtain ⟨c0, c1, c2, c3, c4, c5, c6, c7⟩ := hn
    have hbl := World.block_lt_of_cell? w _ c0
    have HK := Lib.hid hk
    simp only [Nat.zero_mul, Nat.add_zero] at c0 c1 c2 c3 c4 c5 c6 c7
    clear hk ht h1 hd0
    show Calls _ _ #[.int .i64 k, .int .i64 nk, .slice (some ⟨b, o, none⟩) 1 cap] w (Flatted (OrNew P w.heap.size) x w)
    go_enter Try.func90, Try.ntmps90
    go_wp2
    go_light
    exact bodyPost_ret (ret_node Try.results90 rfl (Blk.new_at (by simp))) rfl ⟨B, cap', rfl, (Below.refl _ _).alloc (Nat.le_refl _) _, hc', (HK.out.below ((Below.refl _ _).alloc (Nat.le_refl _) _)).weak (fun _ h _ => .inl h)⟩
  · rw [manyN_more k nk l (by have := List.length_pos_iff.2 h0; omega)]
    have hd : ((l.length : Int) == 1) = false := by rw [beq_eq_false_iff_ne]; omega
    have hb1 : Below w.heap.size w (w.alloc (.cells #[.int .i64 0, .int .u64 0, .int .u64 0, .int .u64 0, .int .u64 0, .slice none 0 0, .int .i64 0, .int .i64 0] 42)) := (Below.refl _ _).alloc (Nat.le_refl _) _
    have HZ := Lib.hid (Blk.new w 42 #[.int .i64 0, .int .u64 0, .int .u64 0, .int .u64 0, .int .u64 0, .slice none 0 0, .int .i64 0, .int .i64 0])
    have HB := Lib.hid hb1
    have HO := Lib.hid (nof_go k _ A cap l _ (List.length_pos_iff.2 h0) hlen ((ht.weak (Q := fun b => P b ∧ b < w.heap.size) (fun b h1 h => ⟨h1, h⟩)).below hb1))
    clear hb1 ht h0 h1
    go_enter Try.func90, Try.ntmps90
    go_wp2_with fail
    refine HO.out.mono ?_
    rintro e w2 ⟨B, cap', rfl, hb2, hc2, ht2⟩
    have hZ2 := HZ.out.below hb2 HZ.out.lt
    have y0 : w2.cell? ⟨w.heap.size, 0, none⟩ = some (.int .i64 0) := hZ2.cell 0
    have y1 : w2.cell? ⟨w.heap.size, 1, none⟩ = some (.int .u64 0) := hZ2.cell 1
    have y2 : w2.cell? ⟨w.heap.size, 2, none⟩ = some (.int .u64 0) := hZ2.cell 2
    have y3 : w2.cell? ⟨w.heap.size, 3, none⟩ = some (.int .u64 0) := hZ2.cell 3
    have y4 : w2.cell? ⟨w.heap.size, 4, none⟩ = some (.int .u64 0) := hZ2.cell 4
    have y5 : w2.cell? ⟨w.heap.size, 5, none⟩ = some (.slice none 0 0) := hZ2.cell 5
    have y6 : w2.cell? ⟨w.heap.size, 6, none⟩ = some (.int .i64 0) := hZ2.cell 6
    have y7 : w2.cell? ⟨w.heap.size, 7, none⟩ = some (.int .i64 0) := hZ2.cell 7
    have z0 := hZ2.frozen 0
    have z1 := hZ2.frozen 1
    have z2 := hZ2.frozen 2
    have z3 := hZ2.frozen 3
    have z4 := hZ2.frozen 4
    have z5 := hZ2.frozen 5
    have z6 := hZ2.frozen 6
    have z7 := hZ2.frozen 7
    have HZ2 := Lib.hid hZ2
    have HB2 := Lib.hid (HB.out.trans (hb2.mono HB.out.size))
    have HT2 := Lib.hid (show TreesAt w2 (OrNew (fun b => P b ∧ b < w.heap.size) (w.heap.size + 1)) _ B by simpa using ht2)
    clear hZ2 hb2 ht2 HO HZ HB
    rw [ndV_plain]
    dsimp only
    go_wp2
    go_light
    have hF := flat_put (x := ⟨k, 0, Trees.of l, 0, 0⟩) (B := B) (cap := cap') HZ2.out HB2.out HT2.out (by simp only [word_zero]; rfl)
    exact bodyPost_ret (ret_node Try.results90 rfl hF.1) rfl ⟨B, cap', rfl, hF.2.1, hc2, hF.2.2⟩
theorem ncat_go (P : Nat → Prop) (A : Option Addr) (cap : Nat) (l : List Nd) (w : World) (hlen : l.length ≤ 100000) (ht : TreesAt w P (Trees.of l) A) :
    Calls Try.prog 89 #[.slice A l.length cap] w (Flatted (OrNew P w.heap.size) (partN l) w) := by
  have hb1 : Below w.heap.size w (w.alloc (.cells #[.int .i64 0, .int .u64 0, .int .u64 0, .int .u64 0, .int .u64 0, .slice none 0 0, .int .i64 0, .int .i64 0] 42)) := (Below.refl _ _).alloc (Nat.le_refl _) _
  have HZ := Lib.hid (Blk.new w 42 #[.int .i64 0, .int .u64 0, .int .u64 0, .int .u64 0, .int .u64 0, .slice none 0 0, .int .i64 0, .int .i64 0])
  have HB := Lib.hid hb1
  have hO := nmany_go 4 2 _ A cap l _ hlen ((ht.weak (Q := fun b => P b ∧ b < w.heap.size) (fun b h1 h => ⟨h1, h⟩)).below hb1)
  rw [manyN_part] at hO
  have HO := Lib.hid hO
  clear hb1 ht hO
  generalize partN l = x at *
  go_enter Try.func89, Try.ntmps89
  go_wp2_with fail
  refine HO.out.mono ?_
  rintro e w2 ⟨B, cap', rfl, hb2, hc2, ht2⟩
  have hZ2 := HZ.out.below hb2 HZ.out.lt
  have y0 : w2.cell? ⟨w.heap.size, 0, none⟩ = some (.int .i64 0) := hZ2.cell 0
  have y1 : w2.cell? ⟨w.heap.size, 1, none⟩ = some (.int .u64 0) := hZ2.cell 1
  have y2 : w2.cell? ⟨w.heap.size, 2, none⟩ = some (.int .u64 0) := hZ2.cell 2
  have y3 : w2.cell? ⟨w.heap.size, 3, none⟩ = some (.int .u64 0) := hZ2.cell 3
  have y4 : w2.cell? ⟨w.heap.size, 4, none⟩ = some (.int .u64 0) := hZ2.cell 4
  have y5 : w2.cell? ⟨w.heap.size, 5, none⟩ = some (.slice none 0 0) := hZ2.cell 5
  have y6 : w2.cell? ⟨w.heap.size, 6, none⟩ = some (.int .i64 0) := hZ2.cell 6
  have y7 : w2.cell? ⟨w.heap.size, 7, none⟩ = some (.int .i64 0) := hZ2.cell 7
  have z0 := hZ2.frozen 0
  have z1 := hZ2.frozen 1
  have z2 := hZ2.frozen 2
  have z3 := hZ2.frozen 3
  have z4 := hZ2.frozen 4
  have z5 := hZ2.frozen 5
  have z6 := hZ2.frozen 6
  have z7 := hZ2.frozen 7
  have HZ2 := Lib.hid hZ2
  have HB2 := Lib.hid (HB.out.trans (hb2.mono HB.out.size))
  have HT2 := Lib.hid (show TreesAt w2 (OrNew (fun b => P b ∧ b < w.heap.size) (w.heap.size + 1)) _ B by simpa using ht2)
  clear hZ2 hb2 ht2 HO HZ HB
  unfold ndV
  dsimp only
  go_wp2
  go_light
  have hF := flat_put (x := x) (B := B) (cap := cap') HZ2.out HB2.out HT2.out rfl
  exact bodyPost_ret (ret_node Try.results89 rfl hF.1) rfl ⟨B, cap', rfl, hF.2.1, hc2, hF.2.2⟩
theorem nalt_go (P : Nat → Prop) (A : Option Addr) (cap : Nat) (l : List Nd) (w : World) (hlen : l.length ≤ 100000) (ht : TreesAt w P (Trees.of l) A) :
    Calls Try.prog 60 #[.slice A l.length cap] w (Flatted (OrNew P w.heap.size) (manyN 5 1 l) w) := by
  have hb1 : Below w.heap.size w (w.alloc (.cells #[.int .i64 0, .int .u64 0, .int .u64 0, .int .u64 0, .int .u64 0, .slice none 0 0, .int .i64 0, .int .i64 0] 42)) := (Below.refl _ _).alloc (Nat.le_refl _) _
  have HZ := Lib.hid (Blk.new w 42 #[.int .i64 0, .int .u64 0, .int .u64 0, .int .u64 0, .int .u64 0, .slice none 0 0, .int .i64 0, .int .i64 0])
  have HB := Lib.hid hb1
  have HO := Lib.hid (nmany_go 5 1 _ A cap l _ hlen ((ht.weak (Q := fun b => P b ∧ b < w.heap.size) (fun b h1 h => ⟨h1, h⟩)).below hb1))
  clear hb1 ht
  generalize manyN 5 1 l = x at *
  go_enter Try.func60, Try.ntmps60
  go_wp2_with fail
  refine HO.out.mono ?_
  rintro e w2 ⟨B, cap', rfl, hb2, hc2, ht2⟩
  have hZ2 := HZ.out.below hb2 HZ.out.lt
  have y0 : w2.cell? ⟨w.heap.size, 0, none⟩ = some (.int .i64 0) := hZ2.cell 0
  have y1 : w2.cell? ⟨w.heap.size, 1, none⟩ = some (.int .u64 0) := hZ2.cell 1
  have y2 : w2.cell? ⟨w.heap.size, 2, none⟩ = some (.int .u64 0) := hZ2.cell 2
  have y3 : w2.cell? ⟨w.heap.size, 3, none⟩ = some (.int .u64 0) := hZ2.cell 3
  have y4 : w2.cell? ⟨w.heap.size, 4, none⟩ = some (.int .u64 0) := hZ2.cell 4
  have y5 : w2.cell? ⟨w.heap.size, 5, none⟩ = some (.slice none 0 0) := hZ2.cell 5
  have y6 : w2.cell? ⟨w.heap.size, 6, none⟩ = some (.int .i64 0) := hZ2.cell 6
  have y7 : w2.cell? ⟨w.heap.size, 7, none⟩ = some (.int .i64 0) := hZ2.cell 7
  have z0 := hZ2.frozen 0
  have z1 := hZ2.frozen 1
  have z2 := hZ2.frozen 2
  have z3 := hZ2.frozen 3
  have z4 := hZ2.frozen 4
  have z5 := hZ2.frozen 5
  have z6 := hZ2.frozen 6
  have z7 := hZ2.frozen 7
  have HZ2 := Lib.hid hZ2
  have HB2 := Lib.hid (HB.out.trans (hb2.mono HB.out.size))
  have HT2 := Lib.hid (show TreesAt w2 (OrNew (fun b => P b ∧ b < w.heap.size) (w.heap.size + 1)) _ B by simpa using ht2)
  clear hZ2 hb2 ht2 HO HZ HB
  unfold ndV
  dsimp only
  go_wp2
  go_light
  have hF := flat_put (x := x) (B := B) (cap := cap') HZ2.out HB2.out HT2.out rfl
  exact bodyPost_ret (ret_node Try.results60 rfl hF.1) rfl ⟨B, cap', rfl, hF.2.1, hc2, hF.2.2⟩

set_option maxHeartbeats 2000000 in
theorem nrep_go (P : Nat → Prop) (x : Nd) (B : Option Addr) (cap : Nat) (lo hi : Int) (w : World) (hc : x.kids.len ≤ cap) (ht : TreesAt w P x.kids B) :
    Calls Try.prog 107 #[ndV x B cap, .int .i64 lo, .int .i64 hi] w (Flatted (OrNew P w.heap.size) ⟨9, 0, Trees.of [x], lo, hi⟩ w) := by
  have hb3 : Below w.heap.size w (((w.alloc (.cells (ndA x B cap) 42)).alloc (.cells #[.int .i64 0, .int .u64 0, .int .u64 0, .int .u64 0, .int .u64 0, .slice none 0 0, .int .i64 0, .int .i64 0] 42)).alloc (.cells (ndA x B cap) 42)) := (((Below.refl _ _).alloc (Nat.le_refl _) _).alloc (by simp) _).alloc (by simp; omega) _
  have hs3 : ((((w.alloc (.cells (ndA x B cap) 42)).alloc (.cells #[.int .i64 0, .int .u64 0, .int .u64 0, .int .u64 0, .int .u64 0, .slice none 0 0, .int .i64 0, .int .i64 0] 42)).alloc (.cells (ndA x B cap) 42))).heap.size = w.heap.size + 3 := by simp
  have hX : Blk (((w.alloc (.cells (ndA x B cap) 42)).alloc (.cells #[.int .i64 0, .int .u64 0, .int .u64 0, .int .u64 0, .int .u64 0, .slice none 0 0, .int .i64 0, .int .i64 0] 42)).alloc (.cells (ndA x B cap) 42)) (w.heap.size + 2) 42 (ndA x B cap) := Blk.new_at (by simp)
  have HZ := Lib.hid (show Blk (((w.alloc (.cells (ndA x B cap) 42)).alloc (.cells #[.int .i64 0, .int .u64 0, .int .u64 0, .int .u64 0, .int .u64 0, .slice none 0 0, .int .i64 0, .int .i64 0] 42)).alloc (.cells (ndA x B cap) 42)) (w.heap.size + 1) 42 #[.int .i64 0, .int .u64 0, .int .u64 0, .int .u64 0, .int .u64 0, .slice none 0 0, .int .i64 0, .int .i64 0] from Blk.alloc (Blk.new_at (by simp)) _)
  have ht1 : TreesAt (((w.alloc (.cells (ndA x B cap) 42)).alloc (.cells #[.int .i64 0, .int .u64 0, .int .u64 0, .int .u64 0, .int .u64 0, .slice none 0 0, .int .i64 0, .int .i64 0] 42)).alloc (.cells (ndA x B cap) 42)) (fun b => (P b ∧ b < w.heap.size) ∨ b = w.heap.size + 2) (Trees.of [x]) (some ⟨w.heap.size + 2, 0, none⟩) :=
    TreesAt.one hX hc ((ht.weak (Q := fun b => (P b ∧ b < w.heap.size) ∨ b = w.heap.size + 2) (fun b h1 h => .inl ⟨h1, h⟩)).below hb3) (.inr rfl)
  have hO := nof_go 9 _ (some ⟨w.heap.size + 2, 0, none⟩) 1 [x] _ (by simp) (by simp) ht1
  rw [hs3] at hO
  have HO := Lib.hid hO
  have HB := Lib.hid hb3
  have Hs3 := Lib.hid hs3
  clear hX ht1 hO ht hb3 hs3
  unfold ndV
  go_enter Try.func107, Try.ntmps107
  go_wp2_with fail
  refine HO.out.mono ?_
  rintro e w4 ⟨B4, cap4, rfl, hb4, hc4, ht4⟩
  rw [Hs3.out] at hb4
  have hsz4 : w.heap.size + 3 ≤ w4.heap.size := by have := hb4.size; rw [Hs3.out] at this; exact this
  have hZ4 := HZ.out.below hb4 (by omega)
  have HZ4 := Lib.hid hZ4
  have HB4 := Lib.hid (HB.out.trans (hb4.mono (by omega)))
  have HT4 := Lib.hid ht4
  have y0 : w4.cell? ⟨w.heap.size + 1, 0, none⟩ = some (.int .i64 0) := hZ4.cell 0
  have y1 : w4.cell? ⟨w.heap.size + 1, 1, none⟩ = some (.int .u64 0) := hZ4.cell 1
  have y2 : w4.cell? ⟨w.heap.size + 1, 2, none⟩ = some (.int .u64 0) := hZ4.cell 2
  have y3 : w4.cell? ⟨w.heap.size + 1, 3, none⟩ = some (.int .u64 0) := hZ4.cell 3
  have y4 : w4.cell? ⟨w.heap.size + 1, 4, none⟩ = some (.int .u64 0) := hZ4.cell 4
  have y5 : w4.cell? ⟨w.heap.size + 1, 5, none⟩ = some (.slice none 0 0) := hZ4.cell 5
  have y6 : w4.cell? ⟨w.heap.size + 1, 6, none⟩ = some (.int .i64 0) := hZ4.cell 6
  have y7 : w4.cell? ⟨w.heap.size + 1, 7, none⟩ = some (.int .i64 0) := hZ4.cell 7
  have z0 := hZ4.frozen 0
  have z1 := hZ4.frozen 1
  have z2 := hZ4.frozen 2
  have z3 := hZ4.frozen 3
  have z4 := hZ4.frozen 4
  have z5 := hZ4.frozen 5
  have z6 := hZ4.frozen 6
  have z7 := hZ4.frozen 7
  have hlt : w.heap.size + 1 < w4.heap.size := by omega
  clear hZ4 hb4 ht4 HO HZ HB Hs3
  rw [ndV_plain]
  dsimp only
  go_wp2
  go_light
  have hg := only_put8 w4 (w.heap.size + 1) (.int .i64 9) (.int .u64 0) (.int .u64 0) (.int .u64 0) (.int .u64 0) (.slice B4 (Trees.of [x]).len cap4) (.int .i64 lo) (.int .i64 hi)
  have hx := HZ4.out.put8 (.int .i64 9) (.int .u64 0) (.int .u64 0) (.int .u64 0) (.int .u64 0) (.slice B4 (Trees.of [x]).len cap4) (.int .i64 lo) (.int .i64 hi)
  have hB := below_put8 HB4.out (Nat.le_succ w.heap.size) (.int .i64 9) (.int .u64 0) (.int .u64 0) (.int .u64 0) (.int .u64 0) (.slice B4 (Trees.of [x]).len cap4) (.int .i64 lo) (.int .i64 hi)
  have ht := HT4.out.keep (Q := OrNew P w.heap.size) (fun b o hb hl => World.cell?_of_block (hg.block b hl (fun e => by have := Option.some.inj e; rcases hb with (h | h) | h <;> omega))) (fun b hb _ => by rcases hb with (h | h) | h; exact .inl h.1; exact .inr (by omega); exact .inr (by omega))
  exact bodyPost_ret (ret_node Try.results107 rfl (hx.alloc _)) rfl ⟨B4, cap4, by rw [ndV_plain], hB.alloc hB.size _, hc4, ht.below ((Below.refl _ _).alloc (Nat.le_refl _) _)⟩

end Go.Proofs.Ytkelkadalikibaa
namespace Go.Proofs.Ytkelkadalikibaa
open Go.RowKit
set_option linter.unusedSimpArgs false
set_option linter.unusedVariables false
set_option maxRecDepth 100000

/-- What stands between brackets. -/
def GivesG (p m : Nat) (v : Value) (r : Except Wrong (Option Nd × List Lex)) (W : World) (e : Ending) (W' : World) : Prop :=
  match r with
  | .ok (some x, R) => ∃ v' B cap, e = .returned (ndV x B cap) ∧ PAt W' p v' R m ∧ Still p W v W' v' ∧ x.kids.len ≤ cap ∧ TreesAt W' (New W.heap.size p v') x.kids B
  | .ok (none, R) => False
  | .error x => Panics p x W e W'
theorem info_int : (Try.prog.info? 3).map (fun i => (i.zero, i.size, i.bytes)) = some (some (.int .i64 0), 1, 8) := by kernel_rfl

/-- The block R holds no node yet. -/
def Zr (p R : Nat) (v : Value) (w : World) : Prop := Blk w R 42 #[.int .i64 0, .int .u64 0, .int .u64 0, .int .u64 0, .int .u64 0, .slice none 0 0, .int .i64 0, .int .i64 0] ∧ Off p v R
theorem Zr.still {p R : Nat} {v v' : Value} {w w' : World} (h : Zr p R v w) (hs : Still p w v w' v') : Zr p R v' w' := ⟨hs.blk h.2 h.1, hs.off h.2 h.1.lt⟩
theorem Zr.below {p R : Nat} {v : Value} {w w' : World} (h : Zr p R v w) (hb : Below w.heap.size w w') : Zr p R v w' := ⟨h.1.below hb h.1.lt, h.2⟩
theorem zr_new {p : Nat} {v : Value} {W : World} (hp : p < W.heap.size) (hv : ∀ g, v.ownBlock = some g → g < W.heap.size) : Zr p W.heap.size v (W.alloc (.cells #[.int .i64 0, .int .u64 0, .int .u64 0, .int .u64 0, .int .u64 0, .slice none 0 0, .int .i64 0, .int .i64 0] 42)) :=
  ⟨Blk.new W _ _, by omega, fun e => by have := hv _ e.symm; omega⟩
theorem PAt.drew {w : World} {p : Nat} {v : Value} {L : List Lex} {m : Nat} (h : PAt w p v L m) : PAt w.drew p v L m := by
  obtain ⟨A, cap, xs, hb, hc, hl, hr⟩ := h
  exact ⟨A, cap, xs, hb.drew, hc, hl.below (Below.refl _ _).drew, hr⟩
theorem Still.drew {p : Nat} {w w' : World} {v v' : Value} (h : Still p w v w' v') : Still p w v w'.drew v' := ⟨h.1.drew, h.2.1, h.2.2⟩
theorem TreesAt.drew {w : World} {P : Nat → Prop} {F : Trees} {A : Option Addr} (h : TreesAt w P F A) : TreesAt w.drew P F A := TreesAt.keep (w := w) (w' := w.drew) (fun _ _ _ _ => rfl) (fun _ h _ => h) h
/-- The result is laid. -/
theorem filled {W w : World} {p R m : Nat} {v0 v : Value} {L : List Lex} {x : Nd} {B : Option Addr} {cap : Nat} (hP : PAt w p v L m) (hS : Still p W v0 w v) (hZ : Zr p R v w) (hR : W.heap.size = R) (hp : p < W.heap.size) (ht : TreesAt w (New (R + 1) p v) x.kids B) {w' : World}
    (hw' : w' = ((((((((w.setCell ⟨R, 0, none⟩ (.int .i64 x.kind)).setCell ⟨R, 1, none⟩ (.int .u64 ((word x.set.testBit 0 : Nat) : Int))).setCell ⟨R, 2, none⟩ (.int .u64 ((word x.set.testBit 1 : Nat) : Int))).setCell ⟨R, 3, none⟩ (.int .u64 ((word x.set.testBit 2 : Nat) : Int))).setCell ⟨R, 4, none⟩ (.int .u64 ((word x.set.testBit 3 : Nat) : Int))).setCell ⟨R, 5, none⟩ (.slice B x.kids.len cap)).setCell ⟨R, 6, none⟩ (.int .i64 x.lo)).setCell ⟨R, 7, none⟩ (.int .i64 x.hi))) :
    Blk w' R 42 (ndA x B cap) ∧ PAt w' p v L m ∧ Still p W v0 w' v ∧ TreesAt w' (New W.heap.size p v) x.kids B := by
  have hg : w.grownBy w' (some R) := by rw [hw']; exact only_put8 _ _ _ _ _ _ _ _ _ _
  have hx : Blk w' R 42 (ndA x B cap) := by rw [hw']; exact hZ.1.put8 _ _ _ _ _ _ _ _
  refine ⟨hx, hP.only hg (by omega) (fun g e h => hZ.2.2 (by rw [e, h])), hS.only hg hp (by omega), ht.keep (fun b o hb hl => World.cell?_of_block (hg.block b hl (fun e => ?_))) (fun b hb _ => ⟨by have := hb.1; omega, hb.2⟩)⟩
  have := hb.1
  have := Option.some.inj e
  omega
set_option maxHeartbeats 4000000 in
theorem group_deep (n p : Nat) (op : List Int) (y : Lex) (L : List Lex) (W : World) (v : Value) (hP : PAt W p v (y :: L) op.length) (hlen : (y :: L).length ≤ 100000) (hk : y.kind = 2) (h64 : op.length = 64) :
    Calls Try.prog 102 #[.pointer (some ⟨p, 0, none⟩)] W (GivesG p op.length v (atomG (n + 1) op (y :: L)) W) := by
  rw [atomG_deep hk h64]
  have hd : ((op.length : Int) == 64) = true := by simp; omega
  obtain ⟨i0, hi, hz0, hz1, hz2⟩ := info_parts info_int
  have hp := hP.lt
  have hP1 := hP.below ((Below.refl W.heap.size W).alloc (Nat.le_refl _) (.cells #[.int .i64 0, .int .u64 0, .int .u64 0, .int .u64 0, .int .u64 0, .slice none 0 0, .int .i64 0, .int .i64 0] 42))
  have HN := Lib.hid (next_any hP1 (by simp at hlen; omega))
  have hv : ∀ g, v.ownBlock = some g → g < W.heap.size := by
    obtain ⟨_, _, _, _, _, _, hr⟩ := hP
    exact fun g e => (hr.lt g e).2
  obtain ⟨Av, cv, rfl⟩ : ∃ A c, v = .slice A op.length c := by
    obtain ⟨_, _, _, _, _, _, hr⟩ := hP
    exact own_slice hr
  clear hP hP1
  go_enter Try.func102, Try.ntmps102
  go_wp2_with fail
  refine HN.out.mono ?_
  rintro e w2 ⟨rfl, hP2, hS2⟩
  have HZ := Lib.hid ((zr_new hp hv).still hS2)
  have hS2 := (Still.of_below (v := .slice Av op.length cv) ((Below.refl W.heap.size W).alloc (Nat.le_refl _) (.cells #[.int .i64 0, .int .u64 0, .int .u64 0, .int .u64 0, .int .u64 0, .slice none 0 0, .int .i64 0, .int .i64 0] 42)) (Nat.le_of_lt hp)).trans hS2
  clear HN
  unfold lexV
  have hsz2 := hS2.1.size
  have HS2 := Lib.hid hS2
  obtain ⟨A2, cap2, xs2, hb2, hc2, hl2, hr2⟩ := hP2
  have q0 : w2.cell? ⟨p, 0, none⟩ = some (.slice A2 L.length cap2) := hb2.cell 0
  have q1 : w2.cell? ⟨p, 1, none⟩ = some (.slice Av op.length cv) := hb2.cell 1
  have fq1 := hb2.frozen 1
  have HB2 := Lib.hid hb2
  have HL2 := Lib.hid hl2
  have HR2 := Lib.hid hr2
  clear hS2 hb2 hl2 hr2

  clear h64
  go_wp2_with fail
  refine (fail_any _ _ _).mono ?_
  rintro e w3 ⟨rfl, rfl⟩
  go_wp2
  exact ⟨rfl, rfl, HS2.out.1⟩

theorem pushed {w2 w3 : World} {p m g cap : Nat} {A2 : Option Addr} {cap2 : Nat} {v : Value} {L : List Lex} {xs xs3 : List Value} {o : Obj} (hb : Blk w2 p 58 #[.slice A2 L.length cap2, v]) (hc2 : L.length ≤ cap2) (hl : LexsAt w2 p A2 L) (hr : w2.ownsRow (p + 1) 3 1 v m xs)
    (hown : w3.ownsRow (p + 1) 3 1 (.slice (some ⟨g, 0, none⟩) (m + 1) cap) (m + 1) xs3) (hgrow : (w2.alloc o).grownBy w3 v.ownBlock) (hat : v.ownBlock = some g ∨ g = w2.heap.size + 1) :
    PAt (w3.setCell ⟨p, 1, none⟩ (.slice (some ⟨g, 0, none⟩) (m + 1) cap)) p (.slice (some ⟨g, 0, none⟩) (m + 1) cap) L (m + 1) ∧ Still p w2 v (w3.setCell ⟨p, 1, none⟩ (.slice (some ⟨g, 0, none⟩) (m + 1) cap)) (.slice (some ⟨g, 0, none⟩) (m + 1) cap) := by
  have hp := hb.lt
  have hne := blk_not_row hb (by decide) hr
  have hg : p + 1 ≤ g := (hown.lt g rfl).1
  have hB : Below p w2 (w3.setCell ⟨p, 1, none⟩ (.slice (some ⟨g, 0, none⟩) (m + 1) cap)) :=
    (((Below.refl p w2).alloc (Nat.le_of_lt hp) o).grown hgrow (by simp; omega) (fun k hk => by have := (hr.lt k hk).1; omega)).setCell (p := ⟨p, 1, none⟩) (Nat.le_refl _) _
  have hb3 : Blk w3 p 58 #[.slice A2 L.length cap2, v] := (hb.alloc o).grown hgrow hne
  refine ⟨⟨A2, cap2, xs3, hb3.set_ 1 _, hc2, hl.below hB, own_set hown (by simp [Value.ownBlock]; omega)⟩, hB, fun b hl ho => ?_, fun k hk => ?_⟩
  · rw [Below.heap_setCell w3 ⟨p, 1, none⟩ _ b ho.1, hgrow.block b (by simp; omega) ho.2]
    exact Below.heap_alloc w2 o b hl
  · obtain rfl : g = k := by simpa [Value.ownBlock] using hk
    rcases hat with h | h
    · exact .inl h
    · exact .inr (by omega)
theorem popped {w : World} {p m g cap : Nat} {L : List Lex} (h : PAt w p (.slice (some ⟨g, 0, none⟩) (m + 1) cap) L (m + 1)) :
    PAt (w.setCell ⟨p, 1, none⟩ (.slice (some ⟨g, 0, none⟩) m cap)) p (.slice (some ⟨g, 0, none⟩) m cap) L m ∧ Still p w (.slice (some ⟨g, 0, none⟩) (m + 1) cap) (w.setCell ⟨p, 1, none⟩ (.slice (some ⟨g, 0, none⟩) m cap)) (.slice (some ⟨g, 0, none⟩) m cap) := by
  obtain ⟨A, c, xs, hb, hc, hl, hr⟩ := h
  have hne := blk_not_row hb (by decide) hr
  have hx := hr.1
  have hxs : xs = xs.take m ++ xs.drop m := (List.take_append_drop m xs).symm
  rw [hxs] at hr
  have hr2 := ownsRow_pop (n := m) (xs := xs.take m) (last := xs.drop m) (by simp; omega) hr
  refine ⟨⟨A, c, _, hb.set_ 1 _, hc, hl.below ((Below.refl p w).setCell (p := ⟨p, 1, none⟩) (Nat.le_refl _) _), own_set hr2 hne⟩, (Below.refl p w).setCell (p := ⟨p, 1, none⟩) (Nat.le_refl _) _, fun b _ ho => Below.heap_setCell w ⟨p, 1, none⟩ _ b ho.1, fun k hk => .inl hk⟩

set_option maxHeartbeats 4000000 in
theorem group_go (n p : Nat) (op : List Int) (y : Lex) (L : List Lex) (W : World) (v : Value) (hA : AltC n) (hP : PAt W p v (y :: L) op.length) (hlen : (y :: L).length ≤ 100000) (hk : y.kind = 2) (h64 : op.length < 64) (hn : 3 * (y :: L).length < n + 1) :
    Calls Try.prog 102 #[.pointer (some ⟨p, 0, none⟩)] W (GivesG p op.length v (atomG (n + 1) op (y :: L)) W) := by
  have hd : ((op.length : Int) == 64) = false := by simp; omega
  obtain ⟨i0, hi, hz0, hz1, hz2⟩ := info_parts info_int
  have hp := hP.lt
  have hP1 := hP.below ((Below.refl W.heap.size W).alloc (Nat.le_refl _) (.cells #[.int .i64 0, .int .u64 0, .int .u64 0, .int .u64 0, .int .u64 0, .slice none 0 0, .int .i64 0, .int .i64 0] 42))
  have HN := Lib.hid (next_any hP1 (by simp at hlen; omega))
  have hv : ∀ g, v.ownBlock = some g → g < W.heap.size := by
    obtain ⟨_, _, _, _, _, _, hr⟩ := hP
    exact fun g e => (hr.lt g e).2
  obtain ⟨Av, cv, rfl⟩ : ∃ A c, v = .slice A op.length c := by
    obtain ⟨_, _, _, _, _, _, hr⟩ := hP
    exact own_slice hr
  clear hP hP1
  go_enter Try.func102, Try.ntmps102
  go_wp2_with fail
  refine HN.out.mono ?_
  rintro e w2 ⟨rfl, hP2, hS2⟩
  have HZ := Lib.hid ((zr_new hp hv).still hS2)
  have hS2 := (Still.of_below (v := .slice Av op.length cv) ((Below.refl W.heap.size W).alloc (Nat.le_refl _) (.cells #[.int .i64 0, .int .u64 0, .int .u64 0, .int .u64 0, .int .u64 0, .slice none 0 0, .int .i64 0, .int .i64 0] 42)) (Nat.le_of_lt hp)).trans hS2
  clear HN
  unfold lexV
  have hsz2 := hS2.1.size
  have HS2 := Lib.hid hS2
  obtain ⟨A2, cap2, xs2, hb2, hc2, hl2, hr2⟩ := hP2
  have q0 : w2.cell? ⟨p, 0, none⟩ = some (.slice A2 L.length cap2) := hb2.cell 0
  have q1 : w2.cell? ⟨p, 1, none⟩ = some (.slice Av op.length cv) := hb2.cell 1
  have fq1 := hb2.frozen 1
  have HB2 := Lib.hid hb2
  have HL2 := Lib.hid hl2
  have HR2 := Lib.hid hr2
  clear hS2 hb2 hl2 hr2

  have hv2 : ∀ g, (Value.slice Av op.length cv).ownBlock = some g → g < w2.heap.size := fun g e => (HR2.out.lt g e).2
  have Hne := Lib.hid (blk_not_row HB2.out (by decide) HR2.out)
  have HH := Lib.hid hv2
  have hp2 : p + 1 ≤ w2.heap.size := HB2.out.lt
  have HV := Lib.hid hv
  clear hv hv2
  have h63 : op.length + 1 ≤ maxLen := Nat.le_trans (by omega) (show 200000 ≤ maxLen by decide)
  have hby : (op.length + 1) * 8 ≤ 140737488355328 := by omega
  go_wp2_with (at_builtin; refine wpList_append_lies _ rfl _ _ 56 rfl (p + 1) 3 i0 _ 1 8 Try.underlying56 hi hz0 hz1 hz2 rfl (by decide) _ _ _ rfl (HR2.out.alloc _) ⟨w2.heap.size, 0, none⟩ 1 1 [.int .i64 y.place] rfl rfl (cell_one_new _ _ _) (by simp [Value.oneCell']) (by decide) h63 hby (by simp; omega) (w2.heap.size + 1) (by simp) ?_; intro g3 cap3 w3 hown3 hgrow3 hat3 hg3; have hB3 : Blk w3 p 58 #[.slice A2 L.length cap2, .slice Av op.length cv] := (HB2.out.alloc (.cells #[.int .i64 y.place] 3)).grown hgrow3 Hne.out; have fq := hB3.frozen 1; have q3 : w3.cell? ⟨p, 1, none⟩ = some (.slice Av op.length cv) := hB3.cell 1; have HPS := Lib.hid (pushed HB2.out hc2 HL2.out HR2.out hown3 hgrow3 hat3); clear hB3 hown3 hgrow3 hat3)
  obtain ⟨hP4, hS4⟩ := HPS.out
  have HP4 := Lib.hid hP4
  have HS4 := Lib.hid (HS2.out.trans hS4)
  have HT4 := Lib.hid hS4
  clear hP4 hS4 HPS
  have HZ := Lib.hid (HZ.out.still HT4.out)
  clear q0 q1 fq1 q3 fq HB2 HL2 HR2 Hne HH HV hd
  cases hx : altG n (y.place :: op) [] L with
  | error x =>
    have HX := Lib.hid hx
    have HE := Lib.hid (atomG_in hk (by omega) hx)
    clear hx
    refine (hA p (y.place :: op) L _ _ HP4.out (by simp at hlen; omega) (by simp; omega) (by simp at hn; omega)).mono ?_
    rw [HX.out]
    rintro e w5 ⟨rfl, hb5⟩
    rw [HE.out]
    go_wp2
    exact ⟨rfl, rfl, HS4.out.1.trans hb5⟩
  | ok r =>
    obtain ⟨x, R⟩ := r
    have HX := Lib.hid hx
    clear hx
    refine (hA p (y.place :: op) L _ _ HP4.out (by simp at hlen; omega) (by simp; omega) (by simp at hn; omega)).mono ?_
    rw [HX.out]
    rintro e w5 ⟨v5, B, cap, rfl, hP5, hS5, hc5, ht5⟩
    have hRl := ((readG_suf n).1 _ _ _ _ _ HX.out).length_le
    have HZ5 := Lib.hid (HZ.out.still hS5)
    have HS5 := Lib.hid (HS4.out.trans hS5)
    have HP5 := Lib.hid hP5
    have HT5 := Lib.hid ht5
    have hs5 := hS5.1.size
    have hlt4 : W.heap.size + 1 ≤ (w3.setCell ⟨p, 1, none⟩ (.slice (some ⟨g3, 0, none⟩) (op.length + 1) cap3)).heap.size := HZ.out.1.lt
    have HT5 := Lib.hid (ht5.weak (Q := New (W.heap.size + 1) p v5) (fun b hb _ => ⟨Nat.le_trans hlt4 hb.1, hb.2⟩))
    have hb6 : Below w5.heap.size w5 (w5.alloc (.cells (ndA x B cap) 42)) := (Below.refl _ _).alloc (Nat.le_refl _) _
    have HP6 := Lib.hid (hP5.below hb6)
    have HZ6 := Lib.hid (HZ5.out.below hb6)
    have HT6 := Lib.hid (HT5.out.below hb6)
    have HS6 := Lib.hid (HS5.out.more hb6 (Nat.le_of_lt hp))
    have HX6 := Lib.hid (Blk.new w5 42 (ndA x B cap))
    obtain ⟨g5, cap5, hv5, hg5a, hg5b, hc5b⟩ : ∃ g c, v5 = .slice (some ⟨g, 0, none⟩) (op.length + 1) c ∧ p + 1 ≤ g ∧ g < w5.heap.size ∧ op.length + 1 ≤ c := by
      obtain ⟨_, _, _, _, _, _, hr⟩ := hP5
      rcases hr.2 with ⟨_, h0⟩ | ⟨g, c, cur, hv, hb, hh, hc, _⟩
      · simp at h0
      · exact ⟨g, c, hv, hb, (Array.getElem?_eq_some_iff.1 hh).1, hc⟩
    subst hv5
    have hoX : Off p (.slice (some ⟨g5, 0, none⟩) (op.length + 1) cap5) w5.heap.size := ⟨by omega, by simp [Value.ownBlock]; omega⟩
    have hsz6 : w5.heap.size < (w5.alloc (.cells (ndA x B cap) 42)).heap.size := by simp
    have hlv : op.length + 1 = (y.place :: op).length := rfl
    have hW5 := HS5.out.1.size
    clear hP5 hS5 ht5 HS4 HZ HT5 HP5 HZ5 HS5 hb6 hlt4 hi hz0 hz1 hz2 h63 hby hs5
    unfold ndV
    dsimp only
    cases R with
    | nil =>
      have HE := Lib.hid (atomG_open hk (by omega) HX.out (fun c R' e => by cases e))
      go_wp2_with fail
      refine (peek_nil HP6.out).mono ?_
      rintro e w7 ⟨rfl, hw7⟩
      subst hw7
      dsimp only
      go_wp2_with fail
      refine (fail_any _ _ _).mono ?_
      rintro e w8 ⟨rfl, hw8⟩
      subst hw8
      dsimp only
      go_wp2
      rw [HE.out]
      exact ⟨rfl, rfl, HS6.out.1⟩
    | cons c R =>
      simp only [List.length_cons] at hlen hRl
      by_cases h3 : c.kind = 3
      · have HE := Lib.hid (atomG_close hk (by omega) HX.out h3)
        have HK := Lib.hid hk
        have hj : IntKind.i64.wrap ((op.length : Int) + 1 - 1) = (op.length : Int) := by rw [Int.add_sub_cancel]; exact IntWalk.i64_in _ (by omega)
        have hj0 : (0 : Int) ≤ (op.length : Int) := by omega
        have hj1 : (op.length : Int) ≤ (cap5 : Int) := by omega
        have HN := Lib.hid (next_any HP6.out (by omega))
        clear hk hlv
        go_wp2_with fail
        refine (peek_go HP6.out (by omega)).mono ?_
        rintro e w7 ⟨rfl, hw7⟩
        subst hw7
        rw [h3]
        dsimp only
        go_wp2_with fail
        refine HN.out.mono ?_
        rintro e w8 ⟨rfl, hP8, hS8⟩
        have hX8 := hS8.blk hoX HX6.out
        have hZ8 := HZ6.out.still hS8
        have hT8 := Lib.hid (hS8.trees HT6.out)
        have hS8' := HS6.out.trans hS8
        have hs8 := hS8.1.size
        have hpop := popped hP8
        obtain ⟨_, _, _, hb8, _⟩ := hP8
        have q8 : w8.cell? ⟨p, 1, none⟩ = some (.slice (some ⟨g5, 0, none⟩) (op.length + 1) cap5) := hb8.cell 1
        have fq8 := hb8.frozen 1
        have HX8 := Lib.hid hX8
        have HZ8 := Lib.hid hZ8
        have HS8 := Lib.hid hS8'
        have HO := Lib.hid hpop
        have hps : p ≠ w5.heap.size := by omega
        have hR0 : p ≠ W.heap.size := by omega
        have x0 : w8.cell? ⟨w5.heap.size, 0, none⟩ = some (.int .i64 x.kind) := hX8.cell 0
        have x1 : w8.cell? ⟨w5.heap.size, 1, none⟩ = some (.int .u64 ((word x.set.testBit 0 : Nat) : Int)) := hX8.cell 1
        have x2 : w8.cell? ⟨w5.heap.size, 2, none⟩ = some (.int .u64 ((word x.set.testBit 1 : Nat) : Int)) := hX8.cell 2
        have x3 : w8.cell? ⟨w5.heap.size, 3, none⟩ = some (.int .u64 ((word x.set.testBit 2 : Nat) : Int)) := hX8.cell 3
        have x4 : w8.cell? ⟨w5.heap.size, 4, none⟩ = some (.int .u64 ((word x.set.testBit 3 : Nat) : Int)) := hX8.cell 4
        have x5 : w8.cell? ⟨w5.heap.size, 5, none⟩ = some (.slice B x.kids.len cap) := hX8.cell 5
        have x6 : w8.cell? ⟨w5.heap.size, 6, none⟩ = some (.int .i64 x.lo) := hX8.cell 6
        have x7 : w8.cell? ⟨w5.heap.size, 7, none⟩ = some (.int .i64 x.hi) := hX8.cell 7
        have y0 : w8.cell? ⟨W.heap.size, 0, none⟩ = some (.int .i64 0) := hZ8.1.cell 0
        have y1 : w8.cell? ⟨W.heap.size, 1, none⟩ = some (.int .u64 0) := hZ8.1.cell 1
        have y2 : w8.cell? ⟨W.heap.size, 2, none⟩ = some (.int .u64 0) := hZ8.1.cell 2
        have y3 : w8.cell? ⟨W.heap.size, 3, none⟩ = some (.int .u64 0) := hZ8.1.cell 3
        have y4 : w8.cell? ⟨W.heap.size, 4, none⟩ = some (.int .u64 0) := hZ8.1.cell 4
        have y5 : w8.cell? ⟨W.heap.size, 5, none⟩ = some (.slice none 0 0) := hZ8.1.cell 5
        have y6 : w8.cell? ⟨W.heap.size, 6, none⟩ = some (.int .i64 0) := hZ8.1.cell 6
        have y7 : w8.cell? ⟨W.heap.size, 7, none⟩ = some (.int .i64 0) := hZ8.1.cell 7
        have z0 := hZ8.1.frozen 0
        have z1 := hZ8.1.frozen 1
        have z2 := hZ8.1.frozen 2
        have z3 := hZ8.1.frozen 3
        have z4 := hZ8.1.frozen 4
        have z5 := hZ8.1.frozen 5
        have z6 := hZ8.1.frozen 6
        have z7 := hZ8.1.frozen 7
        clear hX8 hZ8 hS8' hpop hb8 hS8 HN
        unfold lexV
        dsimp only
        go_wp2
        go_region
        go_wp2
        go_light
        have hF := filled HO.out.1 (HS8.out.trans HO.out.2) (HZ8.out.still HO.out.2) rfl hp (HO.out.2.trees hT8.out) (cap := cap) rfl
        refine bodyPost_ret (ret_node Try.results102 rfl (Blk.drew hF.1)) rfl ?_
        rw [HE.out]
        exact ⟨_, B, cap, rfl, hF.2.1.drew, hF.2.2.1.drew, hc5, hF.2.2.2.drew⟩
      · have HE := Lib.hid (atomG_open hk (by omega) HX.out (fun c' R' e => by cases e; exact h3))
        have hd : (c.kind != 3) = true := by simp; exact h3
        go_wp2_with fail
        refine (peek_go HP6.out (by omega)).mono ?_
        rintro e w7 ⟨rfl, hw7⟩
        subst hw7
        dsimp only
        go_wp2_with fail
        refine (fail_any _ _ _).mono ?_
        rintro e w8 ⟨rfl, hw8⟩
        subst hw8
        dsimp only
        go_wp2
        rw [HE.out]
        exact ⟨rfl, rfl, HS6.out.1⟩

end Go.Proofs.Ytkelkadalikibaa
namespace Go.Proofs.Ytkelkadalikibaa
open Go.RowKit
set_option linter.unusedSimpArgs false
set_option linter.unusedVariables false
set_option maxRecDepth 100000

theorem ret_atom {fn : Func} {t2 t3 : Tmp} (h : fn.results = #[.cell t2 42, .tmp t3]) {tmps : Array Value} {w : World} {g : Nat} {a0 a1 a2 a3 a4 a5 a6 a7 c : Value}
    (hp : tmps.getD t2 undef = .pointer (some ⟨g, 0, none⟩)) (hc : tmps.getD t3 undef = c) (hb : Blk w g 42 #[a0, a1, a2, a3, a4, a5, a6, a7]) :
    (results fn tmps).run Try.prog w = .ok (.tuple #[.agg #[a0, a1, a2, a3, a4, a5, a6, a7], c]) w := by
  have h1 := run_loadVar_row (P := Try.prog) w g 42 42 #[a0, a1, a2, a3, a4, a5, a6, a7] (0, 0) _ hb Try.underlying42 rfl (by kernel_rfl)
  simp only [results, h]
  simp only [Array.getD_eq_getD_getElem?] at hp hc
  simp [Sem.run_bind, hp, hc, asAddr, h1, Result.andThen]

set_option maxHeartbeats 4000000 in
theorem atom_nil (n p : Nat) (op : List Int) (W : World) (v : Value) (hP : PAt W p v [] op.length) :
    Calls Try.prog 85 #[.pointer (some ⟨p, 0, none⟩)] W (GivesO p op.length v (atomG (n + 1) op []) W) := by
  rw [atomG_nil]
  have hp := hP.lt
  have hv : ∀ g, (v : Value).ownBlock = some g → g < W.heap.size := by
    obtain ⟨_, _, _, _, _, _, hr⟩ := hP
    exact fun g e => (hr.lt g e).2
  have hb1 : Below W.heap.size W (W.alloc (.cells #[.int .i64 0, .int .u64 0, .int .u64 0, .int .u64 0, .int .u64 0, .slice none 0 0, .int .i64 0, .int .i64 0] 42)) := (Below.refl W.heap.size W).alloc (Nat.le_refl _) _
  have HP := Lib.hid (hP.below hb1)
  have HZ := Lib.hid (zr_new hp hv)
  have HS := Lib.hid (Still.of_below (p := p) (v := v) hb1 (Nat.le_of_lt hp))
  clear hP hb1 hv

  go_enter Try.func85, Try.ntmps85
  go_wp2_with fail
  refine (peek_nil HP.out).mono ?_
  rintro e w1 ⟨rfl, hw1⟩
  subst hw1
  dsimp only
  go_wp2
  go_light
  exact bodyPost_ret (ret_atom Try.results85 rfl rfl HZ.out.1) rfl ⟨v, rfl, HP.out, HS.out⟩
set_option maxHeartbeats 4000000 in
theorem atom_stop (n p : Nat) (op : List Int) (y : Lex) (L : List Lex) (W : World) (v : Value) (hP : PAt W p v (y :: L) op.length) (hlen : (y :: L).length ≤ 100000) (h1 : y.kind ≠ 1) (h2 : y.kind ≠ 2) (h5 : isPost y.kind = false) (h3 : ¬ (y.kind = 3 ∧ op.length = 0)) :
    Calls Try.prog 85 #[.pointer (some ⟨p, 0, none⟩)] W (GivesO p op.length v (atomG (n + 1) op (y :: L)) W) := by
  rw [atomG_stop h1 h2 h5 h3]
  have h5' : ¬ (5 ≤ y.kind ∧ y.kind ≤ 8) := fun h => by rw [(isPost_iff _).2 h] at h5; cases h5
  have k1 : (y.kind == 1) = false := by simp; omega
  have k2 : (y.kind == 2) = false := by simp; omega
  have k5 : (y.kind == 5) = false := by simp; omega
  have k6 : (y.kind == 6) = false := by simp; omega
  have k7 : (y.kind == 7) = false := by simp; omega
  have k8 : (y.kind == 8) = false := by simp; omega
  simp only [List.length_cons] at hlen
  obtain ⟨Av, cv, hva⟩ : ∃ A c, v = .slice A op.length c := by
    obtain ⟨_, _, _, _, _, _, hr⟩ := hP
    exact own_slice hr
  subst hva
  have hp := hP.lt
  have hv : ∀ g, (.slice Av op.length cv : Value).ownBlock = some g → g < W.heap.size := by
    obtain ⟨_, _, _, _, _, _, hr⟩ := hP
    exact fun g e => (hr.lt g e).2
  have hb1 : Below W.heap.size W (W.alloc (.cells #[.int .i64 0, .int .u64 0, .int .u64 0, .int .u64 0, .int .u64 0, .slice none 0 0, .int .i64 0, .int .i64 0] 42)) := (Below.refl W.heap.size W).alloc (Nat.le_refl _) _
  have HP := Lib.hid (hP.below hb1)
  have HZ := Lib.hid (zr_new hp hv)
  have HS := Lib.hid (Still.of_below (p := p) (v := .slice Av op.length cv) hb1 (Nat.le_of_lt hp))
  clear hP hb1 hv

  obtain ⟨_, _, _, hb, _⟩ := HP.out
  have q1 : (W.alloc (.cells #[.int .i64 0, .int .u64 0, .int .u64 0, .int .u64 0, .int .u64 0, .slice none 0 0, .int .i64 0, .int .i64 0] 42)).cell? ⟨p, 1, none⟩ = some (.slice Av op.length cv) := hb.cell 1
  clear hb
  have HS := Lib.hid HS.out
  by_cases e3 : y.kind = 3
  · have h0 : ((op.length : Int) == 0) = false := by rw [beq_eq_false_iff_ne]; omega
    have k3 : (y.kind == 3) = true := by simp; omega
    clear h3
    go_enter Try.func85, Try.ntmps85
    go_wp2_with fail
    refine (peek_go HP.out (by omega)).mono ?_
    rintro e w1 ⟨rfl, hw1⟩
    subst hw1
    dsimp only
    go_wp2
    go_light
    exact bodyPost_ret (ret_atom Try.results85 rfl rfl HZ.out.1) rfl ⟨_, rfl, HP.out, HS.out⟩
  · have k3 : (y.kind == 3) = false := by simp; omega
    clear h3
    go_enter Try.func85, Try.ntmps85
    go_wp2_with fail
    refine (peek_go HP.out (by omega)).mono ?_
    rintro e w1 ⟨rfl, hw1⟩
    subst hw1
    dsimp only
    go_wp2
    go_light
    exact bodyPost_ret (ret_atom Try.results85 rfl rfl HZ.out.1) rfl ⟨_, rfl, HP.out, HS.out⟩

set_option maxHeartbeats 4000000 in
theorem atom_post (n p : Nat) (op : List Int) (y : Lex) (L : List Lex) (W : World) (v : Value) (hP : PAt W p v (y :: L) op.length) (hlen : (y :: L).length ≤ 100000) (h5 : isPost y.kind = true) :
    Calls Try.prog 85 #[.pointer (some ⟨p, 0, none⟩)] W (GivesO p op.length v (atomG (n + 1) op (y :: L)) W) := by
  rw [atomG_post h5]
  have h5' := (isPost_iff _).1 h5
  have hk : y.kind = 5 ∨ y.kind = 6 ∨ y.kind = 7 ∨ y.kind = 8 := by omega
  clear h5 h5'
  simp only [List.length_cons] at hlen
  have hz3 : (0 : Int) < (L.length : Int) + 1 := by omega
  have hp := hP.lt
  have hv : ∀ g, (v : Value).ownBlock = some g → g < W.heap.size := by
    obtain ⟨_, _, _, _, _, _, hr⟩ := hP
    exact fun g e => (hr.lt g e).2
  have hb1 : Below W.heap.size W (W.alloc (.cells #[.int .i64 0, .int .u64 0, .int .u64 0, .int .u64 0, .int .u64 0, .slice none 0 0, .int .i64 0, .int .i64 0] 42)) := (Below.refl W.heap.size W).alloc (Nat.le_refl _) _
  have HP := Lib.hid (hP.below hb1)
  have HZ := Lib.hid (zr_new hp hv)
  have HS := Lib.hid (Still.of_below (p := p) (v := v) hb1 (Nat.le_of_lt hp))
  clear hP hb1 hv

  obtain ⟨A, cap, xs, hb, hc, hl, _⟩ := HP.out
  obtain ⟨b, o, rfl, hbp, ⟨c0, c1, _⟩, _⟩ := hl.cons
  have q0 : (W.alloc (.cells #[.int .i64 0, .int .u64 0, .int .u64 0, .int .u64 0, .int .u64 0, .slice none 0 0, .int .i64 0, .int .i64 0] 42)).cell? ⟨p, 0, none⟩ = some (.slice (some ⟨b, o, none⟩) (L.length + 1) cap) := hb.cell 0
  clear hb hl c0 hc
  rcases hk with hk | hk | hk | hk
  all_goals
    go_enter Try.func85, Try.ntmps85
    go_wp2_with fail
    refine (peek_go HP.out (by omega)).mono ?_
    rintro e w1 ⟨rfl, hw1⟩
    subst hw1
    rw [hk]
    dsimp only
    go_wp2_with fail
    refine (fail_any _ _ _).mono ?_
    rintro e w8 ⟨rfl, hw8⟩
    subst hw8
    dsimp only
    go_wp2
    exact ⟨rfl, rfl, HS.out.1⟩
set_option maxHeartbeats 4000000 in
theorem atom_lone (n p : Nat) (op : List Int) (y : Lex) (L : List Lex) (W : World) (v : Value) (hP : PAt W p v (y :: L) op.length) (hlen : (y :: L).length ≤ 100000) (h3 : y.kind = 3) (h0 : op.length = 0) :
    Calls Try.prog 85 #[.pointer (some ⟨p, 0, none⟩)] W (GivesO p op.length v (atomG (n + 1) op (y :: L)) W) := by
  rw [atomG_lone h3 h0]
  simp only [List.length_cons] at hlen
  have hz3 : (0 : Int) < (L.length : Int) + 1 := by omega
  have hd : ((op.length : Int) == 0) = true := by rw [beq_iff_eq]; omega
  obtain ⟨Av, cv, hva⟩ : ∃ A c, v = .slice A op.length c := by
    obtain ⟨_, _, _, _, _, _, hr⟩ := hP
    exact own_slice hr
  subst hva
  have hp := hP.lt
  have hv : ∀ g, (.slice Av op.length cv : Value).ownBlock = some g → g < W.heap.size := by
    obtain ⟨_, _, _, _, _, _, hr⟩ := hP
    exact fun g e => (hr.lt g e).2
  have hb1 : Below W.heap.size W (W.alloc (.cells #[.int .i64 0, .int .u64 0, .int .u64 0, .int .u64 0, .int .u64 0, .slice none 0 0, .int .i64 0, .int .i64 0] 42)) := (Below.refl W.heap.size W).alloc (Nat.le_refl _) _
  have HP := Lib.hid (hP.below hb1)
  have HZ := Lib.hid (zr_new hp hv)
  have HS := Lib.hid (Still.of_below (p := p) (v := .slice Av op.length cv) hb1 (Nat.le_of_lt hp))
  clear hP hb1 hv

  obtain ⟨A, cap, xs, hb, hc, hl, _⟩ := HP.out
  obtain ⟨b, o, rfl, hbp, ⟨c0, c1, _⟩, _⟩ := hl.cons
  have q0 : (W.alloc (.cells #[.int .i64 0, .int .u64 0, .int .u64 0, .int .u64 0, .int .u64 0, .slice none 0 0, .int .i64 0, .int .i64 0] 42)).cell? ⟨p, 0, none⟩ = some (.slice (some ⟨b, o, none⟩) (L.length + 1) cap) := hb.cell 0
  have q1 : (W.alloc (.cells #[.int .i64 0, .int .u64 0, .int .u64 0, .int .u64 0, .int .u64 0, .slice none 0 0, .int .i64 0, .int .i64 0] 42)).cell? ⟨p, 1, none⟩ = some (.slice Av op.length cv) := hb.cell 1
  clear hb hl c0 hc h0
  go_enter Try.func85, Try.ntmps85
  go_wp2_with fail
  refine (peek_go HP.out (by omega)).mono ?_
  rintro e w1 ⟨rfl, hw1⟩
  subst hw1
  rw [h3]
  dsimp only
  go_wp2_with fail
  refine (fail_any _ _ _).mono ?_
  rintro e w8 ⟨rfl, hw8⟩
  subst hw8
  dsimp only
  go_wp2
  exact ⟨rfl, rfl, HS.out.1⟩
set_option maxHeartbeats 4000000 in
theorem atom_set (n p : Nat) (op : List Int) (y : Lex) (L : List Lex) (W : World) (v : Value) (hP : PAt W p v (y :: L) op.length) (hlen : (y :: L).length ≤ 100000) (h1 : y.kind = 1) :
    Calls Try.prog 85 #[.pointer (some ⟨p, 0, none⟩)] W (GivesO p op.length v (atomG (n + 1) op (y :: L)) W) := by
  rw [atomG_set h1]
  simp only [List.length_cons] at hlen
  have hp := hP.lt
  have hv : ∀ g, (v : Value).ownBlock = some g → g < W.heap.size := by
    obtain ⟨_, _, _, _, _, _, hr⟩ := hP
    exact fun g e => (hr.lt g e).2
  have hb1 : Below W.heap.size W (W.alloc (.cells #[.int .i64 0, .int .u64 0, .int .u64 0, .int .u64 0, .int .u64 0, .slice none 0 0, .int .i64 0, .int .i64 0] 42)) := (Below.refl W.heap.size W).alloc (Nat.le_refl _) _
  have HP := Lib.hid (hP.below hb1)
  have HZ := Lib.hid (zr_new hp hv)
  have HS := Lib.hid (Still.of_below (p := p) (v := v) hb1 (Nat.le_of_lt hp))
  clear hP hb1 hv

  have HN := Lib.hid (next_any HP.out (by omega))
  go_enter Try.func85, Try.ntmps85
  go_wp2_with fail
  refine (peek_go HP.out (by omega)).mono ?_
  rintro e w1 ⟨rfl, hw1⟩
  subst hw1
  rw [h1]
  dsimp only
  go_wp2_with fail
  refine HN.out.mono ?_
  rintro e w2 ⟨rfl, hP2, hS2⟩
  have HZ2 := Lib.hid (HZ.out.still hS2)
  have HS2 := Lib.hid (HS.out.trans hS2)
  have HP2 := Lib.hid hP2
  clear hP2 hS2 HN HP HS HZ
  unfold lexV
  dsimp only
  go_wp2_with fail
  refine (tbytes_any y.set _).mono ?_
  rintro e w3 ⟨rfl, hb3⟩
  have hZ3 := HZ2.out.below hb3
  have HP3 := Lib.hid (HP2.out.below hb3)
  have HS3 := Lib.hid (HS2.out.more hb3 (Nat.le_of_lt hp))
  have hX := hZ3.1
  have y0 : w3.cell? ⟨W.heap.size, 0, none⟩ = some (.int .i64 0) := hX.cell 0
  have y1 : w3.cell? ⟨W.heap.size, 1, none⟩ = some (.int .u64 0) := hX.cell 1
  have y2 : w3.cell? ⟨W.heap.size, 2, none⟩ = some (.int .u64 0) := hX.cell 2
  have y3 : w3.cell? ⟨W.heap.size, 3, none⟩ = some (.int .u64 0) := hX.cell 3
  have y4 : w3.cell? ⟨W.heap.size, 4, none⟩ = some (.int .u64 0) := hX.cell 4
  have y5 : w3.cell? ⟨W.heap.size, 5, none⟩ = some (.slice none 0 0) := hX.cell 5
  have y6 : w3.cell? ⟨W.heap.size, 6, none⟩ = some (.int .i64 0) := hX.cell 6
  have y7 : w3.cell? ⟨W.heap.size, 7, none⟩ = some (.int .i64 0) := hX.cell 7
  have z0 := hX.frozen 0
  have z1 := hX.frozen 1
  have z2 := hX.frozen 2
  have z3 := hX.frozen 3
  have z4 := hX.frozen 4
  have z5 := hX.frozen 5
  have z6 := hX.frozen 6
  have z7 := hX.frozen 7
  have HZ3 := Lib.hid hZ3
  clear hb3 hZ3 hX
  have hv3 : ndV (leafN (maskOf y.set)) none 0 = .agg #[.int .i64 3, .int .u64 ((word ((maskOf y.set).testBit) 0 : Nat) : Int), .int .u64 ((word ((maskOf y.set).testBit) 1 : Nat) : Int), .int .u64 ((word ((maskOf y.set).testBit) 2 : Nat) : Int), .int .u64 ((word ((maskOf y.set).testBit) 3 : Nat) : Int), .slice none 0 0, .int .i64 0, .int .i64 0] := rfl
  rw [hv3]
  clear hv3
  dsimp only
  go_wp2
  go_light
  have hF := filled (x := leafN (maskOf y.set)) (B := none) (cap := 0) HP3.out HS3.out HZ3.out rfl hp trivial rfl
  exact bodyPost_ret (ret_atom Try.results85 rfl rfl hF.1) rfl ⟨v, none, 0, rfl, hF.2.1, hF.2.2.1, Nat.le_refl _, trivial⟩
set_option maxHeartbeats 4000000 in
theorem atom_open (n p : Nat) (op : List Int) (y : Lex) (L : List Lex) (W : World) (v : Value) (hA : AltC n) (hP : PAt W p v (y :: L) op.length) (hlen : (y :: L).length ≤ 100000) (h2 : y.kind = 2) (h64 : op.length ≤ 64) (hn : 3 * (y :: L).length < n + 1) :
    Calls Try.prog 85 #[.pointer (some ⟨p, 0, none⟩)] W (GivesO p op.length v (atomG (n + 1) op (y :: L)) W) := by
  have hlen' := hlen
  simp only [List.length_cons] at hlen'
  have hp := hP.lt
  have hv : ∀ g, (v : Value).ownBlock = some g → g < W.heap.size := by
    obtain ⟨_, _, _, _, _, _, hr⟩ := hP
    exact fun g e => (hr.lt g e).2
  have hb1 : Below W.heap.size W (W.alloc (.cells #[.int .i64 0, .int .u64 0, .int .u64 0, .int .u64 0, .int .u64 0, .slice none 0 0, .int .i64 0, .int .i64 0] 42)) := (Below.refl W.heap.size W).alloc (Nat.le_refl _) _
  have HP := Lib.hid (hP.below hb1)
  have HZ := Lib.hid (zr_new hp hv)
  have HS := Lib.hid (Still.of_below (p := p) (v := v) hb1 (Nat.le_of_lt hp))
  clear hP hb1 hv

  have HG : Hid (Calls Try.prog 102 #[.pointer (some ⟨p, 0, none⟩)] (W.alloc (.cells #[.int .i64 0, .int .u64 0, .int .u64 0, .int .u64 0, .int .u64 0, .slice none 0 0, .int .i64 0, .int .i64 0] 42)) (GivesG p op.length v (atomG (n + 1) op (y :: L)) (W.alloc (.cells #[.int .i64 0, .int .u64 0, .int .u64 0, .int .u64 0, .int .u64 0, .slice none 0 0, .int .i64 0, .int .i64 0] 42)))) := Lib.hid (by
    by_cases h : op.length = 64
    · exact group_deep n p op y L _ v HP.out hlen h2 h
    · exact group_go n p op y L _ v hA HP.out hlen h2 (by omega) hn)
  have hs1 : (W.alloc (.cells #[.int .i64 0, .int .u64 0, .int .u64 0, .int .u64 0, .int .u64 0, .slice none 0 0, .int .i64 0, .int .i64 0] 42)).heap.size = W.heap.size + 1 := by simp
  have Hs1 := Lib.hid hs1
  clear hs1
  generalize hr : atomG (n + 1) op (y :: L) = r at *
  clear hr
  go_enter Try.func85, Try.ntmps85
  go_wp2_with fail
  refine (peek_go HP.out (by omega)).mono ?_
  rintro e w1 ⟨rfl, hw1⟩
  subst hw1
  rw [h2]
  dsimp only
  go_wp2_with fail
  refine HG.out.mono ?_
  match r with
  | .error x =>
    rintro e w3 ⟨rfl, hb3⟩
    dsimp only
    go_wp2
    exact ⟨rfl, rfl, HS.out.1.trans hb3⟩
  | .ok (none, R) =>
    intro e w3 h
    exact h.elim
  | .ok (some x, R) =>
    rintro e w3 ⟨v3, B, cap, rfl, hP3, hS3, hc3, ht3⟩
    have hZ3 := HZ.out.still hS3
    have HP3 := Lib.hid hP3
    have HS3 := Lib.hid (HS.out.trans hS3)
    have HT3 := Lib.hid ht3
    have hX := hZ3.1
    have y0 : w3.cell? ⟨W.heap.size, 0, none⟩ = some (.int .i64 0) := hX.cell 0
    have y1 : w3.cell? ⟨W.heap.size, 1, none⟩ = some (.int .u64 0) := hX.cell 1
    have y2 : w3.cell? ⟨W.heap.size, 2, none⟩ = some (.int .u64 0) := hX.cell 2
    have y3 : w3.cell? ⟨W.heap.size, 3, none⟩ = some (.int .u64 0) := hX.cell 3
    have y4 : w3.cell? ⟨W.heap.size, 4, none⟩ = some (.int .u64 0) := hX.cell 4
    have y5 : w3.cell? ⟨W.heap.size, 5, none⟩ = some (.slice none 0 0) := hX.cell 5
    have y6 : w3.cell? ⟨W.heap.size, 6, none⟩ = some (.int .i64 0) := hX.cell 6
    have y7 : w3.cell? ⟨W.heap.size, 7, none⟩ = some (.int .i64 0) := hX.cell 7
    have z0 := hX.frozen 0
    have z1 := hX.frozen 1
    have z2 := hX.frozen 2
    have z3 := hX.frozen 3
    have z4 := hX.frozen 4
    have z5 := hX.frozen 5
    have z6 := hX.frozen 6
    have z7 := hX.frozen 7
    have HZ3 := Lib.hid hZ3
    clear hP3 hS3 ht3 hZ3 hX HP HG HS HZ
    unfold ndV
    dsimp only
    go_wp2
    go_light
    have hF := filled (x := x) (B := B) (cap := cap) HP3.out HS3.out HZ3.out rfl hp (HT3.out.weak (fun b hb _ => ⟨by rw [← Hs1.out]; exact hb.1, hb.2⟩)) rfl
    exact bodyPost_ret (ret_atom Try.results85 rfl rfl hF.1) rfl ⟨v3, B, cap, rfl, hF.2.1, hF.2.2.1, hc3, hF.2.2.2⟩

theorem atom_step {n : Nat} (hA : AltC n) : AtomC (n + 1) := by
  intro p op L W v hP hlen h64 hn
  match L, hP, hlen, hn with
  | [], hP, _, _ => exact atom_nil n p op W v hP
  | y :: L, hP, hlen, hn =>
    by_cases h1 : y.kind = 1
    · exact atom_set n p op y L W v hP hlen h1
    by_cases h2 : y.kind = 2
    · exact atom_open n p op y L W v hA hP hlen h2 h64 hn
    cases h5 : isPost y.kind
    · by_cases h3 : y.kind = 3 ∧ op.length = 0
      · exact atom_lone n p op y L W v hP hlen h3.1 h3.2
      · exact atom_stop n p op y L W v hP hlen h1 h2 h5 h3
    · exact atom_post n p op y L W v hP hlen h5

end Go.Proofs.Ytkelkadalikibaa
namespace Go.Proofs.Ytkelkadalikibaa
open Go.RowKit
set_option linter.unusedSimpArgs false
set_option linter.unusedVariables false
set_option maxRecDepth 100000

/-- The nodes acc stand in the row u; R is left. -/
def RowAt (W : World) (v0 : Value) (p m : Nat) (R : List Lex) (acc : List Nd) (u v : Value) (w : World) : Prop :=
  PAt w p v R m ∧ Still p W v0 w v ∧ Zr p W.heap.size v w ∧ (∃ cs, w.ownsRow (W.heap.size + 1) 42 8 u acc.length cs ∧ CellsAre w (fun b => New (W.heap.size + 1) p v b ∧ some b ≠ u.ownBlock) acc cs) ∧ (∀ g, u.ownBlock = some g → Off p v g)

section
variable {W w w' : World} {v0 u v v' : Value} {p m : Nat} {R R' : List Lex} {acc : List Nd}
theorem RowAt.own (h : RowAt W v0 p m R acc u v w) : ∀ g, u.ownBlock = some g → W.heap.size + 1 ≤ g ∧ g < w.heap.size := by
  obtain ⟨_, _, _, ⟨cs, hr, _⟩, _⟩ := h
  exact hr.lt
theorem RowAt.still (h : RowAt W v0 p m R acc u v w) (hs : Still p w v w' v') (hp : PAt w' p v' R' m) : RowAt W v0 p m R' acc u v' w' := by
  obtain ⟨h1, h2, h3, ⟨cs, hr, hc⟩, ho⟩ := h
  refine ⟨hp, h2.trans hs, h3.still hs, ⟨cs, hs.own hr ho, hc.keep (fun b o hb hl => hs.cell hb.1.2 hl o) (fun b hb hl => ⟨⟨hb.1.1, hs.off hb.1.2 hl⟩, hb.2⟩)⟩, fun g e => hs.off (ho g e) (hr.lt g e).2⟩
theorem RowAt.below (h : RowAt W v0 p m R acc u v w) (hb : Below w.heap.size w w') : RowAt W v0 p m R acc u v w' :=
  h.still (Still.of_below hb (Nat.le_of_lt h.1.lt)) (h.1.below hb)
theorem PAt.row {w w' : World} {p : Nat} {v : Value} {L : List Lex} {m : Nat} {row : Option Nat} (h : PAt w p v L m) (hg : w.grownBy w' row) (hr : ∀ g, row = some g → p < g ∧ Off p v g) : PAt w' p v L m := by
  obtain ⟨A, cap, xs, hb, hc, hl, hr2⟩ := h
  refine ⟨A, cap, xs, hb.grown hg (fun e => by have := (hr p e.symm).1; omega), hc, hl.below ⟨hg.os, hg.tape, hg.output, hg.size, fun k hk => hg.block k (Nat.lt_trans hk hb.lt) (fun e => by have := (hr k e.symm).1; omega)⟩, hr2.kept hg ?_⟩
  cases hvo : v.ownBlock with
  | none => exact .inl rfl
  | some g => exact .inr (fun e => (hr g e.symm).2.2 (by rw [hvo]))
theorem Still.row {row : Option Nat} (h : Still p W v0 w v) (hg : w.grownBy w' row) (hp : p < W.heap.size) (hr : ∀ g, row = some g → W.heap.size ≤ g) : Still p W v0 w' v :=
  ⟨h.1.grown hg (by have := h.1.size; omega) (fun k e => by have := hr k e; omega), fun b hb ho => (hg.block b (Nat.lt_of_lt_of_le hb h.1.size) (fun e => by have := hr b e.symm; omega)).trans (h.2.1 b hb ho), h.2.2⟩
theorem RowAt.append {z : Nd} {B : Option Addr} {cap gg capg : Nat} {o : Obj} {cs : List Value} (h : RowAt W v0 p m R acc u v w) (hp : p < W.heap.size)
    (hz : TreesAt w (fun b => New (W.heap.size + 1) p v b ∧ some b ≠ u.ownBlock) z.kids B) (hcz : z.kids.len ≤ cap) (hcs : CellsAre w (fun b => New (W.heap.size + 1) p v b ∧ some b ≠ u.ownBlock) acc cs)
    (hown : w'.ownsRow (W.heap.size + 1) 42 8 (.slice (some ⟨gg, 0, none⟩) (acc.length + 1) capg) (acc.length + 1) (cs ++ ndCell z B cap)) (hgrow : (w.alloc o).grownBy w' u.ownBlock) (hat : u.ownBlock = some gg ∨ gg = w.heap.size + 1) :
    RowAt W v0 p m R (acc ++ [z]) (.slice (some ⟨gg, 0, none⟩) (acc.length + 1) capg) v w' := by
  have hl := h.own
  obtain ⟨h1, h2, h3, _, ho⟩ := h
  have hW := h2.1.size
  have hb : Below w.heap.size w (w.alloc o) := (Below.refl _ _).alloc (Nat.le_refl _) o
  have hv : ∀ g, v.ownBlock = some g → g < w.heap.size := by
    obtain ⟨_, _, _, _, _, _, hr⟩ := h1
    exact fun g e => (hr.lt g e).2
  have hk : ∀ b i, (New (W.heap.size + 1) p v b ∧ some b ≠ u.ownBlock) → b < w.heap.size → w'.cell? ⟨b, i, none⟩ = w.cell? ⟨b, i, none⟩ := fun b i hb2 hbl =>
    (World.cell?_of_block (hgrow.block b (by simp; omega) hb2.2)).trans (hb.cell (p := ⟨b, i, none⟩) hbl)
  have hq : ∀ b, (New (W.heap.size + 1) p v b ∧ some b ≠ u.ownBlock) → b < w.heap.size → New (W.heap.size + 1) p v b ∧ some b ≠ (Value.slice (some ⟨gg, 0, none⟩) (acc.length + 1) capg).ownBlock := fun b hb2 hbl => ⟨hb2.1, fun e => by
    have e' : b = gg := by simpa [Value.ownBlock] using e
    rcases hat with hh | hh
    · exact hb2.2 (by rw [e', hh])
    · omega⟩
  refine ⟨(h1.below hb).row hgrow (fun g e => ⟨by have := (hl g e).1; omega, ho g e⟩), (h2.more hb (Nat.le_of_lt hp)).row hgrow hp (fun g e => by have := (hl g e).1; omega),
    ⟨(h3.1.below hb h3.1.lt).grown hgrow (fun e => by have := (hl _ e.symm).1; omega), h3.2⟩, ⟨cs ++ ndCell z B cap, by simpa using hown, ?_⟩, fun g e => ?_⟩
  · exact CellsAre.snoc hcz (hz.keep hk hq) (hcs.keep hk hq)
  · obtain rfl : gg = g := by simpa [Value.ownBlock] using e
    rcases hat with hh | hh
    · exact ho _ hh
    · exact ⟨by omega, fun e => by have := hv _ e.symm; omega⟩
theorem RowAt.trees (h : RowAt W v0 p m R acc u v w) : ∃ A cap, u = .slice A acc.length cap ∧ acc.length ≤ cap ∧ TreesAt w (New (W.heap.size + 1) p v) (Trees.of acc) A := by
  have hl := h.own
  obtain ⟨_, _, _, ⟨cs, hr, hc⟩, ho⟩ := h
  exact trees_of hr (hc.keep (fun _ _ _ _ => rfl) (fun b hb _ => hb.1)) (fun g e => ⟨(hl g e).1, ho g e⟩)
end

theorem info_node : (Try.prog.info? 42).map (fun i => (i.zero, i.size, i.bytes)) = some (some (.agg #[.int .i64 0, .int .u64 0, .int .u64 0, .int .u64 0, .int .u64 0, .slice none 0 0, .int .i64 0, .int .i64 0]), 8, 80) := by kernel_rfl

end Go.Proofs.Ytkelkadalikibaa
namespace Go.Proofs.Ytkelkadalikibaa
open Go.RowKit
set_option linter.unusedSimpArgs false
set_option linter.unusedVariables false
set_option maxRecDepth 100000

/-- A round of part: so far the pieces acc stand in u. -/
def InPart (N : Nat) (W : World) (v0 : Value) (p : Nat) (op : List Int) (r : Except Wrong (List Nd × List Lex)) (u : Value) (w : World) : Prop :=
  ∃ acc R n v, piecesG n op acc R = r ∧ n ≤ N ∧ acc.length + R.length ≤ 100000 ∧ 3 * R.length + 1 < n ∧ RowAt W v0 p op.length R acc u v w
theorem inPart_start {N : Nat} {W : World} {v0 : Value} {p : Nat} {op : List Int} {L : List Lex} (hP : PAt W p v0 L op.length) (hlen : L.length ≤ 100000) (hn : 3 * L.length + 1 < N) :
    InPart N W v0 p op (piecesG N op [] L) (.slice none 0 0) (W.alloc (.cells #[.int .i64 0, .int .u64 0, .int .u64 0, .int .u64 0, .int .u64 0, .slice none 0 0, .int .i64 0, .int .i64 0] 42)) := by
  have hb1 : Below W.heap.size W (W.alloc (.cells #[.int .i64 0, .int .u64 0, .int .u64 0, .int .u64 0, .int .u64 0, .slice none 0 0, .int .i64 0, .int .i64 0] 42)) := (Below.refl W.heap.size W).alloc (Nat.le_refl _) _
  have hv : ∀ g, v0.ownBlock = some g → g < W.heap.size := by
    obtain ⟨_, _, _, _, _, _, hr⟩ := hP
    exact fun g e => (hr.lt g e).2
  exact ⟨[], L, N, v0, rfl, Nat.le_refl _, by simpa using hlen, hn, hP.below hb1, Still.of_below hb1 (Nat.le_of_lt hP.lt), zr_new hP.lt hv, ⟨[], World.ownsRow_nil _ _ _ _, rfl⟩, fun g e => by simp [Value.ownBlock] at e⟩

set_option maxHeartbeats 4000000 in
theorem part_step {N : Nat} (hT : ∀ k, k < N → AtomC k) : PartC N := by
  intro p op L W v0 hP hlen h64 hn
  obtain ⟨i0, hi, hz0, hz1, hz2⟩ := info_parts info_node
  have hp := hP.lt
  have H0 := Lib.hid (inPart_start hP hlen hn)
  clear hP
  generalize hr : piecesG N op [] L = r at *
  clear hr
  go_enter Try.func55, Try.ntmps55
  go_wp2
  go_loopw [3] (fun u wr => InPart N W v0 p op r u wr) (fun _ wr => lenOf ((wr.cell? ⟨p, 0, none⟩).getD undef))
  case atStart => exact H0.out
  case round =>
    obtain ⟨acc, R, n, v, hr, hN, hal, hR, hrow⟩ := hrel
    obtain ⟨n, rfl⟩ : ∃ k, n = k + 1 := ⟨n - 1, by omega⟩
    have HA := Lib.hid (hT n (by omega) p op R wr v hrow.1 (by omega) h64 (by omega))
    have Hrow := Lib.hid hrow
    have Hr := Lib.hid hr
    clear hrow hr H0
    cases hx : atomG n op R with
    | error x =>
      have HX := Lib.hid (show r = .error x by rw [← Hr.out]; exact piecesG_bad hx)
      rw [hx] at HA
      clear hx
      go_wp2_with fail
      refine HA.out.mono ?_
      rintro e w2 ⟨rfl, hb2⟩
      go_wp2
      rw [HX.out]
      exact ⟨rfl, rfl, Hrow.out.2.1.1.trans hb2⟩
    | ok x =>
      obtain ⟨x, R2⟩ := x
      rw [hx] at HA
      cases x with
      | none =>
        have HX := Lib.hid (show r = .ok (acc, R2) by rw [← Hr.out]; exact piecesG_end hx)
        clear hx
        go_wp2_with fail
        refine HA.out.mono ?_
        rintro e w2 ⟨v2, rfl, hP2, hS2⟩
        have Hrow2 := Lib.hid (Hrow.out.still hS2 hP2)
        clear hP2 hS2 HA
        unfold zeroN
        dsimp only
        have hb3 : Below w2.heap.size w2 (w2.alloc (.cells #[.int .i64 0, .int .u64 0, .int .u64 0, .int .u64 0, .int .u64 0, .slice none 0 0, .int .i64 0, .int .i64 0] 42)) := (Below.refl _ _).alloc (Nat.le_refl _) _
        have hrow3 := Hrow2.out.below hb3
        obtain ⟨A, cu, hu, hcu, htr⟩ := hrow3.trees
        subst hu
        have Hrow3 := Lib.hid hrow3
        have HT3 := Lib.hid htr
        clear hb3 hrow3 htr Hrow2
        by_cases h0 : acc = []
        · subst h0
          go_wp2_with fail
          refine (tempty_any _).mono ?_
          rintro e w4 ⟨rfl, hb4⟩
          have hrow4 := Hrow3.out.below hb4
          have hX := hrow4.2.2.1.1
          have y0 : w4.cell? ⟨W.heap.size, 0, none⟩ = some (.int .i64 0) := hX.cell 0
          have y1 : w4.cell? ⟨W.heap.size, 1, none⟩ = some (.int .u64 0) := hX.cell 1
          have y2 : w4.cell? ⟨W.heap.size, 2, none⟩ = some (.int .u64 0) := hX.cell 2
          have y3 : w4.cell? ⟨W.heap.size, 3, none⟩ = some (.int .u64 0) := hX.cell 3
          have y4 : w4.cell? ⟨W.heap.size, 4, none⟩ = some (.int .u64 0) := hX.cell 4
          have y5 : w4.cell? ⟨W.heap.size, 5, none⟩ = some (.slice none 0 0) := hX.cell 5
          have y6 : w4.cell? ⟨W.heap.size, 6, none⟩ = some (.int .i64 0) := hX.cell 6
          have y7 : w4.cell? ⟨W.heap.size, 7, none⟩ = some (.int .i64 0) := hX.cell 7
          have z0 := hX.frozen 0
          have z1 := hX.frozen 1
          have z2 := hX.frozen 2
          have z3 := hX.frozen 3
          have z4 := hX.frozen 4
          have z5 := hX.frozen 5
          have z6 := hX.frozen 6
          have z7 := hX.frozen 7
          have Hrow4 := Lib.hid hrow4
          clear hb4 hrow4 hX
          rw [show ndV emptyN none 0 = .agg #[.int .i64 2, .int .u64 0, .int .u64 0, .int .u64 0, .int .u64 0, .slice none 0 0, .int .i64 0, .int .i64 0] from ndV_plain _ _ _ _ _ _]
          dsimp only
          go_wp2
          go_light
          have hF := filled (x := emptyN) (B := none) (cap := 0) Hrow4.out.1 Hrow4.out.2.1 Hrow4.out.2.2.1 rfl hp trivial (by unfold emptyN; simp only [word_zero]; rfl)
          rw [HX.out]
          exact bodyPost_ret (ret_node Try.results55 rfl hF.1) rfl ⟨v2, none, 0, rfl, hF.2.1, hF.2.2.1, Nat.le_refl _, trivial⟩
        · have hd : ((acc.length : Int) == 0) = false := by rw [beq_eq_false_iff_ne]; intro e; exact h0 (List.length_eq_zero_iff.1 (by omega))
          have hpn : partN acc = flatN 4 acc := by
            cases acc with
            | nil => exact absurd rfl h0
            | cons y l => rfl
          have HPN := Lib.hid hpn
          clear h0 hpn
          go_wp2_with fail
          refine (flat_go 4 _ A cu acc _ hcu HT3.out).mono ?_
          rintro e w4 ⟨B4, cap4, rfl, hb4, hc4, ht4⟩
          have hrow4 := Hrow3.out.below hb4
          have hX := hrow4.2.2.1.1
          have y0 : w4.cell? ⟨W.heap.size, 0, none⟩ = some (.int .i64 0) := hX.cell 0
          have y1 : w4.cell? ⟨W.heap.size, 1, none⟩ = some (.int .u64 0) := hX.cell 1
          have y2 : w4.cell? ⟨W.heap.size, 2, none⟩ = some (.int .u64 0) := hX.cell 2
          have y3 : w4.cell? ⟨W.heap.size, 3, none⟩ = some (.int .u64 0) := hX.cell 3
          have y4 : w4.cell? ⟨W.heap.size, 4, none⟩ = some (.int .u64 0) := hX.cell 4
          have y5 : w4.cell? ⟨W.heap.size, 5, none⟩ = some (.slice none 0 0) := hX.cell 5
          have y6 : w4.cell? ⟨W.heap.size, 6, none⟩ = some (.int .i64 0) := hX.cell 6
          have y7 : w4.cell? ⟨W.heap.size, 7, none⟩ = some (.int .i64 0) := hX.cell 7
          have z0 := hX.frozen 0
          have z1 := hX.frozen 1
          have z2 := hX.frozen 2
          have z3 := hX.frozen 3
          have z4 := hX.frozen 4
          have z5 := hX.frozen 5
          have z6 := hX.frozen 6
          have z7 := hX.frozen 7
          have Hrow4 := Lib.hid hrow4
          have HT4 := Lib.hid ht4
          clear hb4 hrow4 hX ht4
          unfold ndV
          dsimp only
          go_wp2
          go_light
          have hF := filled (x := flatN 4 acc) (B := B4) (cap := cap4) Hrow4.out.1 Hrow4.out.2.1 Hrow4.out.2.2.1 rfl hp HT4.out rfl
          rw [HX.out]
          refine bodyPost_ret (ret_node Try.results55 rfl hF.1) rfl ?_
          show ∃ v' B cap, _
          rw [HPN.out]
          exact ⟨v2, B4, cap4, rfl, hF.2.1, hF.2.2.1, hc4, hF.2.2.2⟩
      | some x =>
        have HX := Lib.hid (show piecesG n op (acc ++ [(postsG x R2).1]) (postsG x R2).2 = r by rw [← Hr.out]; exact (piecesG_go hx).symm)
        have hs := (readG_suf n).2.2 _ _ _ _ hx
        have hR2 := hs.2 (by simp)
        clear hx hs
        go_wp2_with fail
        refine HA.out.mono ?_
        rintro e w2 ⟨v2, B, cap, rfl, hP2, hS2, hc2, ht2⟩
        have hb3 : Below w2.heap.size w2 (w2.alloc (.cells (ndA x B cap) 42)) := (Below.refl _ _).alloc (Nat.le_refl _) _
        have hs3 : Still p wr v (w2.alloc (.cells (ndA x B cap) 42)) v2 := hS2.more hb3 (Nat.le_of_lt Hrow.out.1.lt)
        have HPo := Lib.hid (posts_go x B cap (hP2.below hb3) hc2 (ht2.below hb3) (n := wr.heap.size) hs3.1.size (by omega))
        have HS3 := Lib.hid hs3
        clear hP2 hS2 ht2 hb3 hs3 HA
        unfold ndV
        dsimp only
        go_wp2_with fail
        refine HPo.out.mono ?_
        rintro e w4 ⟨B4, cap4, rfl, hP4, hS4, hc4, ht4⟩
        have hrow4 := Hrow.out.still (HS3.out.trans hS4) hP4
        obtain ⟨_, _, hzr, ⟨cs, hr4, hcs4⟩, _⟩ := id hrow4
        have hl := Hrow.out.own
        have hzl := Hrow.out.2.2.1.1.lt
        have hz4 := ht4.weak (Q := fun b => New (W.heap.size + 1) p v2 b ∧ some b ≠ u3.ownBlock) (fun b hb _ => ⟨⟨by have := hb.1; omega, hb.2⟩, fun e => by have := (hl b e.symm).2; have := hb.1; omega⟩)
        have hsuf := (postsG_suf R2 x).length_le
        have Hrow4 := Lib.hid hrow4
        have HR4 := Lib.hid hr4
        have HC4 := Lib.hid hcs4
        have HZ4 := Lib.hid hz4
        have HP4 := Lib.hid hP4
        have HPw := Lib.hid Hrow.out.1
        have h63 : acc.length + 1 ≤ maxLen := Nat.le_trans (by omega) (show 200000 ≤ maxLen by decide)
        have hby : (acc.length + 1) * 80 ≤ 140737488355328 := by omega
        have hWs : W.heap.size + 1 ≤ w4.heap.size := by have := hrow4.2.2.1.1.lt; omega
        clear hrow4 hr4 hcs4 hz4 hP4 hS4 ht4 hl hzl hzr HPo HS3
        generalize postsG x R2 = zr at *
        obtain ⟨z, R3⟩ := zr
        simp only at HX hc4 hsuf HP4 HZ4 Hrow4
        unfold ndV
        dsimp only
        go_wp2_with (at_builtin; refine wpList_append_lies _ rfl _ _ 40 rfl (W.heap.size + 1) 42 i0 _ 8 80 Try.underlying40 hi hz0 hz1 hz2 rfl (by decide) _ _ _ rfl (HR4.out.alloc _) ⟨w4.heap.size, 0, none⟩ 1 1 (ndCell z B4 cap4) rfl rfl (World.news_of_block (Blk.new w4 42 (ndA z B4 cap4))) (by simp [ndCell, Value.oneCell']) (by decide) h63 hby (by simp; omega) (w4.heap.size + 1) (by simp) ?_; intro gg capg w5 hown5 hgrow5 hat5 hg5; have HA5 := Lib.hid (Hrow4.out.append hp HZ4.out hc4 HC4.out hown5 hgrow5 hat5); clear hown5 hgrow5 hat5)
        go_light
        go_roundw
        case rel => exact ⟨acc ++ [z], R3, n, v2, HX.out, by omega, by simp; omega, by omega, HA5.out⟩
        case measure => rw [HA5.out.1.len, HPw.out.len]; omega

/-- A row of one node, just made. -/
theorem RowAt.first {W w : World} {v0 v : Value} {p m : Nat} {R : List Lex} {x : Nd} {B : Option Addr} {cap : Nat} (hP : PAt w p v R m) (hS : Still p W v0 w v) (hZ : Zr p W.heap.size v w) (hp : p < W.heap.size) (hc : x.kids.len ≤ cap) (ht : TreesAt w (New (W.heap.size + 1) p v) x.kids B) :
    RowAt W v0 p m R [x] (.slice (some ⟨w.heap.size, 0, none⟩) 1 1) v (w.alloc (.cells (ndA x B cap) 42)) := by
  have hb : Below w.heap.size w (w.alloc (.cells (ndA x B cap) 42)) := (Below.refl _ _).alloc (Nat.le_refl _) _
  have hW := hS.1.size
  have hzl := hZ.1.lt
  have hv : ∀ g, v.ownBlock = some g → g < w.heap.size := by
    obtain ⟨_, _, _, _, _, _, hr⟩ := hP
    exact fun g e => (hr.lt g e).2
  refine ⟨hP.below hb, hS.more hb (Nat.le_of_lt hp), hZ.below hb, ⟨ndCell x B cap, ⟨by simp [ndCell], .inr ⟨w.heap.size, 1, ndA x B cap, rfl, by omega, heap_alloc_new w _, Nat.le_refl _, by decide, by simp [ndA], by simp [ndA, ndCell]⟩⟩, ⟨B, cap, [], by simp, hc, ?_, rfl⟩⟩, fun g e => ?_⟩
  · exact (ht.weak (fun b hb hl => ⟨hb, fun e => by have := (Option.some.inj (show some b = some w.heap.size from e)); omega⟩)).below hb
  · obtain rfl : w.heap.size = g := by simpa [Value.ownBlock] using e
    exact ⟨by omega, fun e => by have := hv _ e.symm; omega⟩
/-- A round of alternative: so far the parts acc stand in u. -/
def InAlt (N : Nat) (W : World) (v0 : Value) (p : Nat) (op : List Int) (r : Except Wrong (Nd × List Lex)) (u : Value) (w : World) : Prop :=
  ∃ acc R n v, tailG n op acc R = r ∧ n ≤ N ∧ acc.length + R.length ≤ 100001 ∧ 3 * R.length ≤ n ∧ RowAt W v0 p op.length R acc u v w
set_option maxHeartbeats 4000000 in
theorem alt_step {N : Nat} (hT : ∀ k, k ≤ N → PartC k) : AltC (N + 1) := by
  intro p op L W v0 hP hlen h64 hn
  obtain ⟨i0, hi, hz0, hz1, hz2⟩ := info_parts info_node
  have hp := hP.lt
  have hv : ∀ g, v0.ownBlock = some g → g < W.heap.size := by
    obtain ⟨_, _, _, _, _, _, hr⟩ := hP
    exact fun g e => (hr.lt g e).2
  have hb1 : Below W.heap.size W (W.alloc (.cells #[.int .i64 0, .int .u64 0, .int .u64 0, .int .u64 0, .int .u64 0, .slice none 0 0, .int .i64 0, .int .i64 0] 42)) := (Below.refl W.heap.size W).alloc (Nat.le_refl _) _
  have HPa := Lib.hid (hT N (Nat.le_refl _) p op L (W.alloc (.cells #[.int .i64 0, .int .u64 0, .int .u64 0, .int .u64 0, .int .u64 0, .slice none 0 0, .int .i64 0, .int .i64 0] 42)) v0 (hP.below hb1) hlen h64 (by omega))
  have HZ := Lib.hid (zr_new hp hv)
  have HS := Lib.hid (Still.of_below (p := p) (v := v0) hb1 (Nat.le_of_lt hp))
  have HW1 := Lib.hid (show (W.alloc (.cells #[.int .i64 0, .int .u64 0, .int .u64 0, .int .u64 0, .int .u64 0, .slice none 0 0, .int .i64 0, .int .i64 0] 42)).heap.size = W.heap.size + 1 by simp)
  clear hP hv hb1
  generalize hr : altG (N + 1) op [] L = r at *
  have Hr := Lib.hid hr
  clear hr
  cases hx : piecesG N op [] L with
  | error x =>
    have HX := Lib.hid (show r = .error x by rw [← Hr.out]; exact altG_bad hx)
    rw [hx] at HPa
    clear hx
    go_enter Try.func26, Try.ntmps26
    go_wp2_with fail
    refine HPa.out.mono ?_
    rintro e w2 ⟨rfl, hb2⟩
    dsimp only
    go_wp2
    rw [HX.out]
    exact ⟨rfl, rfl, HS.out.1.trans hb2⟩
  | ok x =>
    obtain ⟨ps, R⟩ := x
    have HX := Lib.hid (show tailG N op [partN ps] R = r by rw [← Hr.out]; exact (altG_ok (acc := []) hx).symm)
    have hsuf := ((readG_suf N).2.1 _ _ _ _ _ hx).length_le
    rw [hx] at HPa
    have HPa := Lib.hid (show Calls Try.prog 55 #[.pointer (some ⟨p, 0, none⟩)] (W.alloc (.cells #[.int .i64 0, .int .u64 0, .int .u64 0, .int .u64 0, .int .u64 0, .slice none 0 0, .int .i64 0, .int .i64 0] 42)) (Gives p op.length v0 (.ok (partN ps, R)) (W.alloc (.cells #[.int .i64 0, .int .u64 0, .int .u64 0, .int .u64 0, .int .u64 0, .slice none 0 0, .int .i64 0, .int .i64 0] 42))) from HPa.out)
    clear hx Hr
    generalize partN ps = x at HX HPa
    go_enter Try.func26, Try.ntmps26
    go_wp2_with fail
    refine HPa.out.mono ?_
    rintro e w2 ⟨v2, B, cap, rfl, hP2, hS2, hc2, ht2⟩
    have H0 : Hid (InAlt N W v0 p op r (.slice (some ⟨w2.heap.size, 0, none⟩) 1 1) (w2.alloc (.cells (ndA x B cap) 42))) :=
      Lib.hid ⟨[x], R, N, v2, HX.out, Nat.le_refl _, by simp; omega, by omega, RowAt.first hP2 (HS.out.trans hS2) (HZ.out.still hS2) hp hc2 (ht2.weak (fun b hb _ => ⟨by rw [← HW1.out]; exact hb.1, hb.2⟩))⟩
    clear hP2 hS2 ht2 HPa HZ HS HX HW1
    unfold ndV
    dsimp only
    go_wp2
    go_loopw [3] (fun u wr => InAlt N W v0 p op r u wr) (fun _ wr => lenOf ((wr.cell? ⟨p, 0, none⟩).getD undef))
    case atStart => exact H0.out
    case round =>
      obtain ⟨acc, R, n, v, hr, hN, hal, hR, hrow⟩ := hrel
      have Hrow := Lib.hid hrow
      have Hr := Lib.hid hr
      clear hrow hr H0
      cases R with
      | nil =>
        have HX := Lib.hid (show r = .ok (flatN 5 acc, []) from Hr.out.symm)
        go_wp2_with fail
        refine (peek_nil Hrow.out.1).mono ?_
        rintro e w3 ⟨rfl, hw3⟩
        subst hw3
        dsimp only
        obtain ⟨A, cu, hu, hcu, htr⟩ := Hrow.out.trees
        subst hu
        have HT3 := Lib.hid htr
        clear htr
        go_wp2_with fail
        refine (flat_go 5 _ A cu acc _ hcu HT3.out).mono ?_
        rintro e w4 ⟨B4, cap4, rfl, hb4, hc4, ht4⟩
        have hrow4 := Hrow.out.below hb4
        have hX := hrow4.2.2.1.1
        have y0 : w4.cell? ⟨W.heap.size, 0, none⟩ = some (.int .i64 0) := hX.cell 0
        have y1 : w4.cell? ⟨W.heap.size, 1, none⟩ = some (.int .u64 0) := hX.cell 1
        have y2 : w4.cell? ⟨W.heap.size, 2, none⟩ = some (.int .u64 0) := hX.cell 2
        have y3 : w4.cell? ⟨W.heap.size, 3, none⟩ = some (.int .u64 0) := hX.cell 3
        have y4 : w4.cell? ⟨W.heap.size, 4, none⟩ = some (.int .u64 0) := hX.cell 4
        have y5 : w4.cell? ⟨W.heap.size, 5, none⟩ = some (.slice none 0 0) := hX.cell 5
        have y6 : w4.cell? ⟨W.heap.size, 6, none⟩ = some (.int .i64 0) := hX.cell 6
        have y7 : w4.cell? ⟨W.heap.size, 7, none⟩ = some (.int .i64 0) := hX.cell 7
        have z0 := hX.frozen 0
        have z1 := hX.frozen 1
        have z2 := hX.frozen 2
        have z3 := hX.frozen 3
        have z4 := hX.frozen 4
        have z5 := hX.frozen 5
        have z6 := hX.frozen 6
        have z7 := hX.frozen 7
        have Hrow4 := Lib.hid hrow4
        have HT4 := Lib.hid ht4
        clear hb4 hrow4 hX ht4
        unfold ndV
        dsimp only
        go_wp2
        go_light
        have hF := filled (x := flatN 5 acc) (B := B4) (cap := cap4) Hrow4.out.1 Hrow4.out.2.1 Hrow4.out.2.2.1 rfl hp HT4.out rfl
        rw [HX.out]
        exact bodyPost_ret (ret_node Try.results26 rfl hF.1) rfl ⟨v, B4, cap4, rfl, hF.2.1, hF.2.2.1, hc4, hF.2.2.2⟩

      | cons c R =>
        simp only [List.length_cons] at hal hR
        by_cases h4 : c.kind = 4
        · obtain ⟨n, rfl⟩ : ∃ k, n = k + 1 := ⟨n - 1, by omega⟩
          have Hr := Lib.hid ((tailG_bar h4).symm.trans Hr.out)
          have HN := Lib.hid (next_any Hrow.out.1 (by omega))
          go_wp2_with fail
          refine (peek_go Hrow.out.1 (by omega)).mono ?_
          rintro e w3 ⟨rfl, hw3⟩
          subst hw3
          rw [h4]
          dsimp only
          go_wp2_with fail
          refine HN.out.mono ?_
          rintro e w4 ⟨rfl, hP4, hS4⟩
          have Hrow4 := Lib.hid (Hrow.out.still hS4 hP4)
          have HPa := Lib.hid (hT n (by omega) p op R w4 v hP4 (by omega) h64 (by omega))
          have hl := Hrow4.out.own
          have hzl := Hrow4.out.2.2.1.1.lt
          have Hl := Lib.hid hl
          have HPw := Lib.hid Hrow.out.1
          clear hP4 hS4 HN hl
          unfold lexV
          dsimp only
          cases hx : piecesG n op [] R with
          | error x =>
            have HX := Lib.hid (show r = .error x by rw [← Hr.out]; exact altG_bad hx)
            rw [hx] at HPa
            clear hx
            go_wp2_with fail
            refine HPa.out.mono ?_
            rintro e w5 ⟨rfl, hb5⟩
            dsimp only
            go_wp2
            rw [HX.out]
            exact ⟨rfl, rfl, Hrow4.out.2.1.1.trans hb5⟩
          | ok x =>
            obtain ⟨ps, R2⟩ := x
            have HX := Lib.hid (show tailG n op (acc ++ [partN ps]) R2 = r by rw [← Hr.out]; exact (altG_ok hx).symm)
            have hsuf := ((readG_suf n).2.1 _ _ _ _ _ hx).length_le
            rw [hx] at HPa
            have HPa := Lib.hid (show Calls Try.prog 55 #[.pointer (some ⟨p, 0, none⟩)] w4 (Gives p op.length v (.ok (partN ps, R2)) w4) from HPa.out)
            clear hx Hr
            generalize partN ps = x at HX HPa
            go_wp2_with fail
            refine HPa.out.mono ?_
            rintro e w5 ⟨v5, B5, cap5, rfl, hP5, hS5, hc5, ht5⟩
            have hrow5 := Hrow4.out.still hS5 hP5
            obtain ⟨_, _, _, ⟨cs, hr5, hcs5⟩, _⟩ := id hrow5
            have hz5 := ht5.weak (Q := fun b => New (W.heap.size + 1) p v5 b ∧ some b ≠ u3.ownBlock) (fun b hb _ => ⟨⟨by have := hb.1; omega, hb.2⟩, fun e => by have := (Hl.out b e.symm).2; have := hb.1; omega⟩)
            have HrowX := Lib.hid hrow5
            have HR5 := Lib.hid hr5
            have HC5 := Lib.hid hcs5
            have HZ5 := Lib.hid hz5
            have h63 : acc.length + 1 ≤ maxLen := Nat.le_trans (by omega) (show 200000 ≤ maxLen by decide)
            have hby : (acc.length + 1) * 80 ≤ 140737488355328 := by omega
            have hWs : W.heap.size + 1 ≤ w5.heap.size := by have := hrow5.2.2.1.1.lt; omega
            clear hrow5 hr5 hcs5 hz5 hP5 hS5 ht5 hzl HPa Hl Hrow4
            unfold ndV
            dsimp only
            go_wp2_with (at_builtin; refine wpList_append_lies _ rfl _ _ 40 rfl (W.heap.size + 1) 42 i0 _ 8 80 Try.underlying40 hi hz0 hz1 hz2 rfl (by decide) _ _ _ rfl (HR5.out.alloc _) ⟨w5.heap.size, 0, none⟩ 1 1 (ndCell x B5 cap5) rfl rfl (World.news_of_block (Blk.new w5 42 (ndA x B5 cap5))) (by simp [ndCell, Value.oneCell']) (by decide) h63 hby (by simp; omega) (w5.heap.size + 1) (by simp) ?_; intro gg capg w6 hown6 hgrow6 hat6 hg6; have HA6 := Lib.hid (HrowX.out.append hp HZ5.out hc5 HC5.out hown6 hgrow6 hat6); clear hown6 hgrow6 hat6)
            go_light
            go_roundw
            case rel => exact ⟨acc ++ [x], R2, n, v5, HX.out, by omega, by simp; omega, by omega, HA6.out⟩
            case measure => rw [HA6.out.1.len, HPw.out.len]; simp; omega
        · have HX := Lib.hid (show r = .ok (flatN 5 acc, c :: R) from Hr.out.symm.trans (tailG_stop h4))
          have hd : (c.kind == 4) = false := by simp; exact h4
          go_wp2_with fail
          refine (peek_go Hrow.out.1 (by omega)).mono ?_
          rintro e w3 ⟨rfl, hw3⟩
          subst hw3
          dsimp only
          obtain ⟨A, cu, hu, hcu, htr⟩ := Hrow.out.trees
          subst hu
          have HT3 := Lib.hid htr
          clear htr
          go_wp2_with fail
          refine (flat_go 5 _ A cu acc _ hcu HT3.out).mono ?_
          rintro e w4 ⟨B4, cap4, rfl, hb4, hc4, ht4⟩
          have hrow4 := Hrow.out.below hb4
          have hX := hrow4.2.2.1.1
          have y0 : w4.cell? ⟨W.heap.size, 0, none⟩ = some (.int .i64 0) := hX.cell 0
          have y1 : w4.cell? ⟨W.heap.size, 1, none⟩ = some (.int .u64 0) := hX.cell 1
          have y2 : w4.cell? ⟨W.heap.size, 2, none⟩ = some (.int .u64 0) := hX.cell 2
          have y3 : w4.cell? ⟨W.heap.size, 3, none⟩ = some (.int .u64 0) := hX.cell 3
          have y4 : w4.cell? ⟨W.heap.size, 4, none⟩ = some (.int .u64 0) := hX.cell 4
          have y5 : w4.cell? ⟨W.heap.size, 5, none⟩ = some (.slice none 0 0) := hX.cell 5
          have y6 : w4.cell? ⟨W.heap.size, 6, none⟩ = some (.int .i64 0) := hX.cell 6
          have y7 : w4.cell? ⟨W.heap.size, 7, none⟩ = some (.int .i64 0) := hX.cell 7
          have z0 := hX.frozen 0
          have z1 := hX.frozen 1
          have z2 := hX.frozen 2
          have z3 := hX.frozen 3
          have z4 := hX.frozen 4
          have z5 := hX.frozen 5
          have z6 := hX.frozen 6
          have z7 := hX.frozen 7
          have Hrow4 := Lib.hid hrow4
          have HT4 := Lib.hid ht4
          clear hb4 hrow4 hX ht4
          unfold ndV
          dsimp only
          go_wp2
          go_light
          have hF := filled (x := flatN 5 acc) (B := B4) (cap := cap4) Hrow4.out.1 Hrow4.out.2.1 Hrow4.out.2.2.1 rfl hp HT4.out rfl
          rw [HX.out]
          exact bodyPost_ret (ret_node Try.results26 rfl hF.1) rfl ⟨v, B4, cap4, rfl, hF.2.1, hF.2.2.1, hc4, hF.2.2.2⟩

/-- The parser, of whatever lexemes. -/
theorem reads_go (n : Nat) : AltC n ∧ PartC n ∧ AtomC n := by
  have h : ∀ m, ∀ k, k ≤ m → AltC k ∧ PartC k ∧ AtomC k := by
    intro m
    induction m with
    | zero =>
      intro k hk
      obtain rfl : k = 0 := by omega
      exact ⟨fun _ _ _ _ _ _ _ _ h => by omega, fun _ _ _ _ _ _ _ _ h => by omega, fun _ _ _ _ _ _ _ _ h => by omega⟩
    | succ m ih =>
      intro k hk
      rcases Nat.lt_or_ge k (m + 1) with hlt | hge
      · exact ih k (by omega)
      · obtain rfl : k = m + 1 := by omega
        have hA : AltC (m + 1) := alt_step (fun k hk => (ih k hk).2.1)
        exact ⟨hA, part_step (fun k hk => (ih k (by omega)).2.2), atom_step (ih m (Nat.le_refl _)).1⟩
  exact h n n (Nat.le_refl _)

end Go.Proofs.Ytkelkadalikibaa
namespace Go.Proofs.Ytkelkadalikibaa
open Go.RowKit
set_option linter.unusedSimpArgs false
set_option linter.unusedVariables false
set_option maxRecDepth 100000

@[go_sem] theorem run_assert_bad (k q : Int) (w : World) : (Instr.typeAssert (.iface 26 (.agg #[.int .i64 k, .int .i64 q])) 20 26 false).run Try.prog w = .ok (.agg #[.int .i64 k, .int .i64 q]) w := by kernel_rfl

theorem catch_idle (G H : Nat) (w : World) :
    CallsD Try.prog 25 #[.pointer (some ⟨G, 0, none⟩), .pointer (some ⟨H, 0, none⟩)] .returning w fun e u' w' => e = .returned (.tuple #[]) ∧ u' = .returning ∧ w' = w := by
  refine callsD_of_wpS Try.func25 rfl fun c₀ cs hu => ?_
  apply wpS_seq
  apply wpS_region
  simp [wpOpsS, go_sem, recoverD, hu, Try.ntmps25, Exit.thenS]
  refine wpS_of_wp ?_
  change Code.wp _ _ _ { tmps := #[.pointer (some ⟨G, 0, none⟩), .pointer (some ⟨H, 0, none⟩), .nilIface, .nilIface, undef, undef, undef, undef, undef], defers := [] } _
  go_wp2
  cases c₀
  simp_all [bodyPostS, results, Try.results25]

theorem catch_bad (G H : Nat) (k q : Int) (older : List PanicEntry) (w : World) (hG : Blk w G 42 #[.int .i64 0, .int .u64 0, .int .u64 0, .int .u64 0, .int .u64 0, .slice none 0 0, .int .i64 0, .int .i64 0]) (hH : Blk w H 26 #[.int .i64 0, .int .i64 0]) (hGH : G ≠ H) :
    CallsD Try.prog 25 #[.pointer (some ⟨G, 0, none⟩), .pointer (some ⟨H, 0, none⟩)] (.panicking ({ v := badV k q, recovered := false } :: older)) w fun e u' w' =>
      e = .returned (.tuple #[]) ∧ u' = .panicking ({ v := badV k q, recovered := true } :: older) ∧ Blk w' G 42 #[.int .i64 0, .int .u64 0, .int .u64 0, .int .u64 0, .int .u64 0, .slice none 0 0, .int .i64 0, .int .i64 0] ∧ Blk w' H 26 #[.int .i64 k, .int .i64 q] ∧ ∀ n, n ≤ G → n ≤ H → Below n w w' := by
  refine callsD_of_wpS Try.func25 rfl fun c₀ cs hu => ?_
  apply wpS_seq
  apply wpS_region
  unfold badV at hu ⊢
  simp [wpOpsS, go_sem, recoverD, hu, Try.ntmps25, Exit.thenS]
  refine wpS_of_wp ?_
  change Code.wp _ _ _ { tmps := #[.pointer (some ⟨G, 0, none⟩), .pointer (some ⟨H, 0, none⟩), .iface 26 (.agg #[.int .i64 k, .int .i64 q]), .iface 26 (.agg #[.int .i64 k, .int .i64 q]), undef, undef, undef, undef, undef], defers := [] } _
  have y0 : w.cell? ⟨G, 0, none⟩ = some (.int .i64 0) := hG.cell 0
  have y1 : w.cell? ⟨G, 1, none⟩ = some (.int .u64 0) := hG.cell 1
  have y2 : w.cell? ⟨G, 2, none⟩ = some (.int .u64 0) := hG.cell 2
  have y3 : w.cell? ⟨G, 3, none⟩ = some (.int .u64 0) := hG.cell 3
  have y4 : w.cell? ⟨G, 4, none⟩ = some (.int .u64 0) := hG.cell 4
  have y5 : w.cell? ⟨G, 5, none⟩ = some (.slice none 0 0) := hG.cell 5
  have y6 : w.cell? ⟨G, 6, none⟩ = some (.int .i64 0) := hG.cell 6
  have y7 : w.cell? ⟨G, 7, none⟩ = some (.int .i64 0) := hG.cell 7
  have z0 := hG.frozen 0
  have z1 := hG.frozen 1
  have z2 := hG.frozen 2
  have z3 := hG.frozen 3
  have z4 := hG.frozen 4
  have z5 := hG.frozen 5
  have z6 := hG.frozen 6
  have z7 := hG.frozen 7
  obtain ⟨b0, b1, f0, f1⟩ := hH.c2
  have HG := Lib.hid hG
  have HH := Lib.hid hH
  clear hG hH
  go_wp2
  go_region
  change bodyPostS Try.prog Try.f25 _ _ _ Exit.normal _ _ _
  refine ⟨rfl, _, rfl, _, results_none rfl _ _ _, rfl, rfl, ((HG.out.put8 _ _ _ _ _ _ _ _).far2 hGH _ _).drew, ((HH.out.past8 (fun e => hGH e.symm) _ _ _ _ _ _ _ _).set2).drew, fun n h1 h2 => (below_set2 (below_put8 (Below.refl n w) h1 _ _ _ _ _ _ _ _) h2 _ _).drew⟩

end Go.Proofs.Ytkelkadalikibaa
