/-
  Reading a lexeme sees no more than its own bytes: so the lexemes of a text's beginning, and of its rest, are those of the text. No program in sight.
-/
import Derived.Test.YtkelkadalikibaaDoorQZ01
namespace Go.Proofs.YtkelkadalikibaaDoor
set_option linter.unusedSimpArgs false
set_option linter.unusedVariables false

/-- The bytes of cs from i + q to j + q are those of bs from i + p on. -/
def Part (cs bs : List Nat) (p q i j : Nat) : Prop := ∀ m, i ≤ m → m < j → m + q < cs.length ∧ m + p < bs.length ∧ byteAt cs (m + q) = byteAt bs (m + p)
section
variable {cs bs : List Nat} {p q i j : Nat}
theorem Part.sub (h : Part cs bs p q i j) {i' j' : Nat} (hi : i ≤ i') (hj : j' ≤ j) : Part cs bs p q i' j' := fun m a b => h m (by omega) (by omega)
theorem Part.has (h : Part cs bs p q i j) {m : Nat} (h1 : i ≤ m) (h2 : m < j) (c : Nat) : hasAt cs ((m + q : Nat) : Int) c = hasAt bs ((m + p : Nat) : Int) c := by
  have a := h m h1 h2
  rw [hasAt_in c a.1, hasAt_in c a.2.1, a.2.2]
theorem Part.has1 (h : Part cs bs p q i j) {m : Nat} (h1 : i ≤ m + 1) (h2 : m + 1 < j) (c : Nat) : hasAt cs (((m + q : Nat) : Int) + 1) c = hasAt bs (((m + p : Nat) : Int) + 1) c := by
  have a := h.has h1 h2 c
  rw [show (((m + q : Nat) : Int) + 1) = ((m + 1 + q : Nat) : Int) by omega, a]
  congr 1
  omega
end

theorem escS_move {cs bs : List Nat} {p q i j c : Nat} (h : escS bs (i + p) = some (c, j + p)) (hp : Part cs bs p q i j) : escS cs (i + q) = some (c, j + q) := by
  unfold escS at h
  rw [show i + p + 1 = i + 1 + p by omega, show i + p + 2 = i + 2 + p by omega, show i + p + 3 = i + 3 + p by omega, show i + p + 4 = i + 4 + p by omega] at h
  by_cases h0 : bs.length ≤ i + 1 + p
  · rw [if_pos h0] at h; cases h
  rw [if_neg h0] at h
  by_cases h1 : byteAt bs (i + 1 + p) = 110
  · rw [if_pos h1] at h
    simp at h
    obtain ⟨rfl, hj⟩ := h
    subst hj
    have a := hp (i + 1) (by omega) (by omega)
    rw [show i + 1 + q = i + q + 1 by omega] at a
    rw [show i + 2 + q = i + q + 2 by omega]
    exact escS_n a.1 (a.2.2.trans h1)
  rw [if_neg h1] at h
  by_cases h2 : byteAt bs (i + 1 + p) = 116
  · rw [if_pos h2] at h
    simp at h
    obtain ⟨rfl, hj⟩ := h
    subst hj
    have a := hp (i + 1) (by omega) (by omega)
    rw [show i + 1 + q = i + q + 1 by omega] at a
    rw [show i + 2 + q = i + q + 2 by omega]
    exact escS_t a.1 (a.2.2.trans h2)
  rw [if_neg h2] at h
  by_cases h3 : byteAt bs (i + 1 + p) = 114
  · rw [if_pos h3] at h
    simp at h
    obtain ⟨rfl, hj⟩ := h
    subst hj
    have a := hp (i + 1) (by omega) (by omega)
    rw [show i + 1 + q = i + q + 1 by omega] at a
    rw [show i + 2 + q = i + q + 2 by omega]
    exact escS_r a.1 (a.2.2.trans h3)
  rw [if_neg h3] at h
  by_cases h4 : byteAt bs (i + 1 + p) = 120
  · rw [if_pos h4] at h
    by_cases h5 : bs.length ≤ i + 3 + p
    · rw [if_pos h5] at h; cases h
    rw [if_neg h5] at h
    by_cases h6 : digVal (byteAt bs (i + 2 + p)) < 0
    · rw [if_pos h6] at h; cases h
    rw [if_neg h6] at h
    by_cases h7 : digVal (byteAt bs (i + 3 + p)) < 0
    · rw [if_pos h7] at h; cases h
    rw [if_neg h7] at h
    simp at h
    obtain ⟨hc, hj⟩ := h
    subst hj
    have a := hp (i + 1) (by omega) (by omega)
    have b := hp (i + 2) (by omega) (by omega)
    have d := hp (i + 3) (by omega) (by omega)
    rw [show i + 1 + q = i + q + 1 by omega] at a
    rw [show i + 2 + q = i + q + 2 by omega] at b
    rw [show i + 3 + q = i + q + 3 by omega] at d
    rw [show i + 4 + q = i + q + 4 by omega]
    rw [escS_x a.1 (a.2.2.trans h4) d.1 (by rw [b.2.2]; omega) (by rw [d.2.2]; omega), b.2.2, d.2.2, hc]
  rw [if_neg h4] at h
  by_cases h5 : byteAt bs (i + 1 + p) < 33 ∨ 126 < byteAt bs (i + 1 + p) ∨ isWord (byteAt bs (i + 1 + p)) = true
  · rw [if_pos h5] at h; cases h
  rw [if_neg h5] at h
  simp at h
  obtain ⟨rfl, hj⟩ := h
  subst hj
  have a := hp (i + 1) (by omega) (by omega)
  rw [show i + 1 + q = i + q + 1 by omega] at a
  rw [show i + 2 + q = i + q + 2 by omega]
  rw [← a.2.2] at h1 h2 h3 h4 h5 ⊢
  rw [not_or, not_or] at h5
  exact escS_self a.1 h1 h2 h3 h4 (by omega) (by omega) (by simpa using h5.2.2)

theorem charS_move {cs bs : List Nat} (hb : ∀ x ∈ bs, x < 256) {p q i j c s S : Nat} (h : charS bs S (i + p) = .ok (c, j + p)) (hp : Part cs bs p q i j) : charS cs s (i + q) = .ok (c, j + q) := by
  have hk := charS_ok hb h
  have a := hp i (by omega) (by omega)
  unfold charS at h
  rw [if_neg (by omega)] at h
  by_cases h1 : byteAt bs (i + p) = 92
  · rw [if_pos h1] at h
    cases he : escS bs (i + p) with
    | none => rw [he] at h; cases h
    | some x =>
      rw [he] at h
      obtain ⟨c', j'⟩ := x
      simp at h
      obtain ⟨rfl, rfl⟩ := h
      exact charS_esc a.1 (a.2.2.trans h1) (escS_move he hp)
  rw [if_neg h1] at h
  by_cases h2 : isSpecial (byteAt bs (i + p)) = true
  · rw [if_pos h2] at h; cases h
  rw [if_neg h2] at h
  simp at h
  obtain ⟨rfl, hj⟩ := h
  obtain rfl : j = i + 1 := by omega
  rw [← a.2.2] at h1 h2 ⊢
  rw [show i + 1 + q = i + q + 1 by omega]
  exact charS_self a.1 h1 (by simpa using h2)

theorem itemS_move {cs bs : List Nat} (hb : ∀ x ∈ bs, x < 256) {p q i j lo hi s S : Nat} (h : itemS bs S (i + p) = .ok (lo, hi, j + p)) (hp : Part cs bs p q i (j + 1)) : itemS cs s (i + q) = .ok (lo, hi, j + q) := by
  have hk := itemS_ok hb h
  unfold itemS at h
  cases h1 : charS bs S (i + p) with
  | error e => rw [h1] at h; cases h
  | ok x =>
    obtain ⟨lo', J⟩ := x
    obtain ⟨a1, a2, a3⟩ := charS_ok hb h1
    obtain ⟨m, rfl⟩ : ∃ m, J = m + p := ⟨J - p, by omega⟩
    rw [h1] at h
    dsimp only at h
    by_cases h2 : hasAt bs ((m + p : Nat) : Int) 45 = true
    · rw [if_pos h2] at h
      cases h3 : charS bs S (m + p + 1) with
      | error e => rw [h3] at h; cases h
      | ok y =>
        obtain ⟨hi', K⟩ := y
        obtain ⟨b1, b2, b3⟩ := charS_ok hb h3
        rw [h3] at h
        dsimp only at h
        by_cases h4 : hi' < lo'
        · rw [if_pos h4] at h; cases h
        rw [if_neg h4] at h
        simp at h
        obtain ⟨rfl, rfl, rfl⟩ := h
        rw [show m + p + 1 = m + 1 + p by omega] at h3
        unfold itemS
        rw [charS_move hb h1 (hp.sub (by omega) (by omega))]
        dsimp only
        rw [hp.has (by omega) (by omega), if_pos h2, show m + q + 1 = m + 1 + q by omega, charS_move hb h3 (hp.sub (by omega) (by omega))]
        dsimp only
        rw [if_neg h4]
    · rw [if_neg h2] at h
      simp at h
      obtain ⟨rfl, rfl, h⟩ := h
      obtain rfl : m = j := by omega
      unfold itemS
      rw [charS_move hb h1 (hp.sub (by omega) (by omega))]
      dsimp only
      rw [hp.has (by omega) (by omega), if_neg h2]

theorem itemsS_move {cs bs : List Nat} (hb : ∀ x ∈ bs, x < 256) {p q s S j : Nat} {r : Nat → Bool} : ∀ {f i : Nat} {u : Nat → Bool}, itemsS bs S f (i + p) u = .ok (r, j + p) → Part cs bs p q i j → ∀ f', j - i ≤ f' → itemsS cs s f' (i + q) u = .ok (r, j + q)
  | 0, i, u, h, hp, f', hf => by cases h
  | f + 1, i, u, h, hp, f', hf => by
    have hij := itemsS_some hb h
    obtain ⟨f2, rfl⟩ : ∃ f2, f' = f2 + 1 := ⟨f' - 1, by omega⟩
    cases hi : itemS bs S (i + p) with
    | error e => rw [itemsS_bad hi] at h; cases h
    | ok x =>
      obtain ⟨lo, hi', K⟩ := x
      have hk := itemS_ok hb hi
      obtain ⟨m, rfl⟩ : ∃ m, K = m + p := ⟨K - p, by omega⟩
      rw [itemsS_ok hi] at h
      cases hc : hasAt bs ((m + p : Nat) : Int) 93
      · rw [restS_go hc] at h
        have hmj := itemsS_some hb h
        rw [itemsS_ok (itemS_move hb hi (hp.sub (by omega) (by omega))), restS_go ((hp.has (by omega) (by omega) 93).trans hc)]
        exact itemsS_move hb h (hp.sub (by omega) (by omega)) f2 (by omega)
      · rw [restS_end hc] at h
        have h2 := Prod.mk.inj (Except.ok.inj h)
        have hj : m + p + 1 = j + p := h2.2
        rw [itemsS_ok (itemS_move hb hi (hp.sub (by omega) (by omega))), restS_end ((hp.has (by omega) (by omega) 93).trans hc), h2.1]
        rw [show m + q + 1 = j + q by omega]

theorem Part.len {cs bs : List Nat} {p q i j : Nat} (h : Part cs bs p q i j) (hij : i < j) : j + q ≤ cs.length := by
  have := (h (j - 1) (by omega) (by omega)).1
  omega

theorem readS_move {cs bs : List Nat} (hb : ∀ x ∈ bs, x < 256) {p q i j : Nat} {u : Nat → Bool} (h : readS bs ((i + p : Nat) : Int) = .ok (u, j + p)) (hp : Part cs bs p q i j) : readS cs ((i + q : Nat) : Int) = .ok (u, j + q) := by
  have hij := readS_some hb h
  have hl := hp.len (by omega)
  cases h1 : hasAt bs ((i + p : Nat) : Int) 91
  · rw [readS_no h1] at h; cases h
  have h1' := (hp.has (Nat.le_refl i) (by omega) 91).trans h1
  cases h2 : hasAt bs (((i + p : Nat) : Int) + 1) 94
  · rw [readS_plain h1 h2, show i + p + 1 = i + 1 + p by omega] at h
    have := itemsS_some hb h
    rw [readS_plain h1' ((hp.has1 (by omega) (by omega) 94).trans h2), show i + q + 1 = i + 1 + q by omega]
    exact itemsS_move hb h (hp.sub (by omega) (by omega)) _ (by omega)
  · rw [readS_turned h1 h2, show i + p + 2 = i + 2 + p by omega] at h
    cases h3 : itemsS bs (i + p) (bs.length + 1) (i + 2 + p) (fun _ => false) with
    | error e => rw [h3] at h; cases h
    | ok x =>
      obtain ⟨u', k⟩ := x
      rw [h3] at h
      have h4 := Prod.mk.inj (Except.ok.inj h)
      obtain ⟨h5, h6⟩ := h4
      subst h6
      have := itemsS_some hb h3
      rw [readS_turned h1' ((hp.has1 (by omega) (by omega) 94).trans h2), show i + q + 2 = i + 2 + q by omega, itemsS_move hb h3 (hp.sub (by omega) (by omega)) _ (by omega), ← h5]
      rfl

theorem takeWhile_eq {f : Nat → Bool} : ∀ (A : List Nat) (c : Nat) (R : List Nat), (∀ x ∈ A, f x = true) → f c = false → (A ++ c :: R).takeWhile f = A
  | [], c, R, _, hc => by simp [List.takeWhile_cons, hc]
  | a :: A, c, R, h, hc => by
    rw [List.cons_append, List.takeWhile_cons, h a (by simp)]
    simp only [if_true]
    rw [takeWhile_eq A c R (fun x hx => h x (by simp [hx])) hc]
theorem getElem?_byteAt {bs : List Nat} {k : Nat} (h : k < bs.length) : bs[k]? = some (byteAt bs k) := by
  rw [List.getElem?_eq_getElem h, byteAt_get h]
theorem Part.take {cs bs : List Nat} {p q i j : Nat} (h : Part cs bs p q i j) : (cs.drop (i + q)).take (j - i) = (bs.drop (i + p)).take (j - i) := by
  apply List.ext_getElem?
  intro k
  rw [List.getElem?_take, List.getElem?_take]
  by_cases hk : k < j - i
  · have a := h (i + k) (by omega) (by omega)
    rw [if_pos hk, if_pos hk, List.getElem?_drop, List.getElem?_drop, show i + q + k = i + k + q by omega, getElem?_byteAt a.1, show i + p + k = i + k + p by omega, getElem?_byteAt a.2.1, a.2.2]
  · rw [if_neg hk, if_neg hk]
theorem digs_move {cs bs : List Nat} {p q i n : Nat} (hn : (digs bs (i + p)).length = n) (hp : Part cs bs p q i (i + n + 1)) (hd : isDig (byteAt bs (i + n + p)) = false) : digs cs (i + q) = digs bs (i + p) := by
  have a := hp (i + n) (by omega) (by omega)
  have h1 := hp.take
  rw [show i + n + 1 - i = n + 1 by omega, List.take_add_one, List.take_add_one, List.getElem?_drop, List.getElem?_drop, show i + q + n = i + n + q by omega, getElem?_byteAt a.1, show i + p + n = i + n + p by omega, getElem?_byteAt a.2.1, a.2.2] at h1
  have h2 : (cs.drop (i + q)).take n = digs bs (i + p) := by
    have := List.append_cancel_right h1
    rw [this, digs_take bs (i + p), hn]
  have h3 : cs.drop (i + q) = digs bs (i + p) ++ byteAt bs (i + n + p) :: cs.drop (i + n + q + 1) := by
    have e1 : cs.drop (i + q) = (cs.drop (i + q)).take n ++ (cs.drop (i + q)).drop n := (List.take_append_drop _ _).symm
    rw [e1, h2, List.drop_drop, show i + q + n = i + n + q by omega, List.drop_eq_getElem_cons a.1, byteAt_get a.1, a.2.2]
  unfold digs
  rw [h3]
  exact takeWhile_eq _ _ _ (digs_dig bs (i + p)) hd
theorem takeS_move {cs bs : List Nat} {p q i j v : Nat} (h : takeS bs (i + p) = some (v, j + p)) (hp : Part cs bs p q i (j + 1)) (hd : isDig (byteAt bs (j + p)) = false) : takeS cs (i + q) = some (v, j + q) := by
  have h0 := h
  unfold takeS at h
  split at h
  · cases h
  · rename_i hc
    have h1 := Prod.mk.inj (Option.some.inj h)
    have hj : i + p + (digs bs (i + p)).length = j + p := h1.2
    have hji : j = i + (digs bs (i + p)).length := by omega
    have hm : digs cs (i + q) = digs bs (i + p) := digs_move rfl (by rw [← hji]; exact hp) (by rw [← hji]; exact hd)
    unfold takeS
    rw [hm, if_neg hc, h1.1, show i + q + (digs bs (i + p)).length = j + q by omega]

/-- A lexeme that stands p nearer, and then q further on. -/
def Lex.move (x : Lex) (p q : Nat) : Lex := ⟨x.kind, x.place - p + q, x.set, x.lo, x.hi⟩

theorem dig_no {bs : List Nat} {k : Nat} {c : Nat} (h : hasAt bs (k : Int) c = true) (hc : isDig c = false) : isDig (byteAt bs k) = false := by
  obtain ⟨n, hn, hn2, hn3⟩ := hasAt_yes h
  have : k = n := by omega
  rw [this, hn3, hc]

theorem repS_move {cs bs : List Nat} {p q i j : Nat} {x : Lex} (h : repS bs (i + p) = .ok (x, j + p)) (hp : Part cs bs p q i j) : repS cs (i + q) = .ok (x.move p q, j + q) := by
  have hpl : ∀ {k : Int} {s lo hi}, (⟨k, ((i + p : Nat) : Int), s, lo, hi⟩ : Lex).move p q = ⟨k, ((i + q : Nat) : Int), s, lo, hi⟩ := by
    intro k s lo hi
    unfold Lex.move
    dsimp only
    congr 1
    omega
  unfold repS at h
  rw [show i + p + 1 = i + 1 + p by omega] at h
  cases h1 : takeS bs (i + 1 + p) with
  | none => rw [h1] at h; cases h
  | some y =>
    obtain ⟨lo, J⟩ := y
    have g1 := takeS_some h1
    obtain ⟨m, rfl⟩ : ∃ m, J = m + p := ⟨J - p, by omega⟩
    rw [h1] at h
    dsimp only at h
    cases h2 : hasAt bs ((m + p : Nat) : Int) 44
    · rw [if_neg (by rw [h2]; decide)] at h
      cases h3 : hasAt bs ((m + p : Nat) : Int) 125
      · rw [if_neg (by rw [h3]; decide)] at h; cases h
      · rw [if_pos h3] at h
        obtain ⟨hx, hj⟩ := Prod.mk.inj (Except.ok.inj h)
        subst hx
        obtain rfl : j = m + 1 := by omega
        unfold repS
        rw [show i + q + 1 = i + 1 + q by omega, takeS_move h1 (hp.sub (by omega) (by omega)) (dig_no h3 (by decide))]
        dsimp only
        rw [hp.has (by omega) (by omega) 44, h2, hp.has (by omega) (by omega) 125, h3, hpl, show m + q + 1 = m + 1 + q by omega]
        rfl
    · rw [if_pos h2] at h
      cases h3 : hasAt bs (((m + p : Nat) : Int) + 1) 125
      · rw [if_neg (by rw [h3]; decide)] at h
        rw [show m + p + 1 = m + 1 + p by omega] at h
        cases h4 : takeS bs (m + 1 + p) with
        | none => rw [h4] at h; cases h
        | some z =>
          obtain ⟨hi, K⟩ := z
          have g2 := takeS_some h4
          obtain ⟨k, rfl⟩ : ∃ k, K = k + p := ⟨K - p, by omega⟩
          rw [h4] at h
          dsimp only at h
          cases h5 : hasAt bs ((k + p : Nat) : Int) 125
          · rw [if_neg (by rw [h5]; decide)] at h; cases h
          rw [if_pos h5] at h
          by_cases h6 : hi < lo
          · rw [if_pos h6] at h; cases h
          rw [if_neg h6] at h
          obtain ⟨hx, hj⟩ := Prod.mk.inj (Except.ok.inj h)
          subst hx
          obtain rfl : j = k + 1 := by omega
          unfold repS
          rw [show i + q + 1 = i + 1 + q by omega, takeS_move h1 (hp.sub (by omega) (by omega)) (dig_no h2 (by decide))]
          dsimp only
          rw [hp.has (by omega) (by omega) 44, if_pos h2, hp.has1 (by omega) (by omega) 125, if_neg (by rw [h3]; decide), show m + q + 1 = m + 1 + q by omega, takeS_move h4 (hp.sub (by omega) (by omega)) (dig_no h5 (by decide))]
          dsimp only
          rw [hp.has (by omega) (by omega) 125, if_pos h5, if_neg h6, hpl, show k + q + 1 = k + 1 + q by omega]
      · rw [if_pos h3] at h
        obtain ⟨hx, hj⟩ := Prod.mk.inj (Except.ok.inj h)
        subst hx
        obtain rfl : j = m + 2 := by omega
        unfold repS
        rw [show i + q + 1 = i + 1 + q by omega, takeS_move h1 (hp.sub (by omega) (by omega)) (dig_no h2 (by decide))]
        dsimp only
        rw [hp.has (by omega) (by omega) 44, if_pos h2, hp.has1 (by omega) (by omega) 125, if_pos h3, hpl, show m + q + 2 = m + 2 + q by omega]

theorem lexS_move {cs bs : List Nat} (hb : ∀ x ∈ bs, x < 256) {p q i j : Nat} {x : Lex} (hi : i + p < bs.length) (h : lexS bs (i + p) = .ok (x, j + p)) (hp : Part cs bs p q i j) : lexS cs (i + q) = .ok (x.move p q, j + q) := by
  have hij := lexS_some hb hi h
  have a := hp i (by omega) (by omega)
  have hpl : ∀ {k : Int} {s lo hi}, (⟨k, ((i + p : Nat) : Int), s, lo, hi⟩ : Lex).move p q = ⟨k, ((i + q : Nat) : Int), s, lo, hi⟩ := by
    intro k s lo hi
    unfold Lex.move
    dsimp only
    congr 1
    omega
  unfold lexS at h
  unfold lexS
  rw [a.2.2]
  by_cases h1 : byteAt bs (i + p) = 46
  · rw [if_pos h1] at h
    obtain ⟨hx, hj⟩ := Prod.mk.inj (Except.ok.inj h)
    subst hx
    obtain rfl : j = i + 1 := by omega
    rw [if_pos h1, hpl, show i + q + 1 = i + 1 + q by omega]
  rw [if_neg h1] at h ⊢
  by_cases h2 : byteAt bs (i + p) = 92
  · rw [if_pos h2] at h ⊢
    cases h3 : escS bs (i + p) with
    | none => rw [h3] at h; cases h
    | some y =>
      obtain ⟨c, J⟩ := y
      rw [h3] at h
      obtain ⟨hx, hj⟩ := Prod.mk.inj (Except.ok.inj h)
      subst hx hj
      rw [escS_move h3 hp]
      dsimp only
      rw [hpl]
  rw [if_neg h2] at h ⊢
  by_cases h4 : byteAt bs (i + p) = 91
  · rw [if_pos h4] at h ⊢
    cases h3 : readS bs ((i + p : Nat) : Int) with
    | error e => rw [h3] at h; cases h
    | ok y =>
      obtain ⟨u, J⟩ := y
      rw [h3] at h
      obtain ⟨hx, hj⟩ := Prod.mk.inj (Except.ok.inj h)
      subst hx hj
      rw [readS_move hb h3 hp]
      dsimp only
      rw [hpl]
  rw [if_neg h4] at h ⊢
  by_cases h5 : byteAt bs (i + p) = 123
  · rw [if_pos h5] at h ⊢
    exact repS_move h hp
  rw [if_neg h5] at h ⊢
  by_cases h6 : byteAt bs (i + p) = 93 ∨ byteAt bs (i + p) = 125 ∨ byteAt bs (i + p) = 10
  · rw [if_pos h6] at h; cases h
  rw [if_neg h6] at h ⊢
  by_cases h7 : signKind (byteAt bs (i + p)) ≠ 0
  · rw [if_pos h7] at h ⊢
    obtain ⟨hx, hj⟩ := Prod.mk.inj (Except.ok.inj h)
    subst hx
    obtain rfl : j = i + 1 := by omega
    rw [hpl, show i + q + 1 = i + 1 + q by omega]
  · rw [if_neg h7] at h ⊢
    obtain ⟨hx, hj⟩ := Prod.mk.inj (Except.ok.inj h)
    subst hx
    obtain rfl : j = i + 1 := by omega
    rw [hpl, show i + q + 1 = i + 1 + q by omega]

theorem repS_place {bs : List Nat} {i j : Nat} {x : Lex} (h : repS bs i = .ok (x, j)) : x.place = i := by
  unfold repS at h
  split at h
  · cases h
  · split at h
    · split at h
      · rw [← (Prod.mk.inj (Except.ok.inj h)).1]
      · split at h
        · cases h
        · split at h
          · split at h
            · cases h
            · rw [← (Prod.mk.inj (Except.ok.inj h)).1]
          · cases h
    · split at h
      · rw [← (Prod.mk.inj (Except.ok.inj h)).1]
      · cases h
theorem lexS_place {bs : List Nat} {i j : Nat} {x : Lex} (h : lexS bs i = .ok (x, j)) : x.place = i := by
  unfold lexS at h
  split at h
  · rw [← (Prod.mk.inj (Except.ok.inj h)).1]
  split at h
  · split at h
    · rw [← (Prod.mk.inj (Except.ok.inj h)).1]
    · cases h
  split at h
  · split at h
    · rw [← (Prod.mk.inj (Except.ok.inj h)).1]
    · cases h
  split at h
  · exact repS_place h
  split at h
  · cases h
  split at h
  · rw [← (Prod.mk.inj (Except.ok.inj h)).1]
  · rw [← (Prod.mk.inj (Except.ok.inj h)).1]

/-- From i to k just the lexemes of a list stand. -/
def Seg (bs : List Nat) : Nat → List Lex → Nat → Prop
  | i, [], k => i = k
  | i, x :: M, k => i < bs.length ∧ ∃ j, lexS bs i = .ok (x, j) ∧ Seg bs j M k

theorem seg_cat {bs : List Nat} : ∀ {M N : List Lex} {i k : Nat}, Seg bs i (M ++ N) k ↔ ∃ m, Seg bs i M m ∧ Seg bs m N k
  | [], N, i, k => ⟨fun h => ⟨i, rfl, h⟩, fun ⟨m, h1, h2⟩ => by rw [show i = m from h1]; exact h2⟩
  | x :: M, N, i, k => by
    constructor
    · rintro ⟨hi, j, hx, h⟩
      obtain ⟨m, h1, h2⟩ := seg_cat.1 h
      exact ⟨m, ⟨hi, j, hx, h1⟩, h2⟩
    · rintro ⟨m, ⟨hi, j, hx, h1⟩, h2⟩
      exact ⟨hi, j, hx, seg_cat.2 ⟨m, h1, h2⟩⟩
theorem seg_len {bs : List Nat} (hb : ∀ x ∈ bs, x < 256) : ∀ {M : List Lex} {i k : Nat}, Seg bs i M k → i + M.length ≤ k ∧ (k ≤ bs.length ∨ M = [])
  | [], i, k, h => ⟨by rw [show i = k from h]; simp, .inr rfl⟩
  | x :: M, i, k, ⟨hi, j, hx, h⟩ => by
    have h1 := lexS_some hb hi hx
    have h2 := seg_len hb h
    refine ⟨by simp; omega, .inl ?_⟩
    rcases h2.2 with h3 | rfl
    · exact h3
    · have : j = k := h
      omega
theorem seg_move {cs bs : List Nat} (hb : ∀ x ∈ bs, x < 256) {p q : Nat} : ∀ {M : List Lex} {i k : Nat}, Seg bs (i + p) M (k + p) → Part cs bs p q i k → Seg cs (i + q) (M.map (Lex.move · p q)) (k + q)
  | [], i, k, h, hp => by
    have : i + p = k + p := h
    show i + q = k + q
    omega
  | x :: M, i, k, ⟨hi, J, hx, h⟩, hp => by
    have h1 := lexS_some hb hi hx
    have h2 := seg_len hb h
    obtain ⟨j, rfl⟩ : ∃ j, J = j + p := ⟨J - p, by omega⟩
    exact ⟨(hp i (by omega) (by omega)).1, j + q, lexS_move hb hi hx (hp.sub (by omega) (by omega)), seg_move hb h (hp.sub (by omega) (by omega))⟩
theorem splitF_seg {bs : List Nat} (hb : ∀ x ∈ bs, x < 256) : ∀ {f i : Nat} {L l : List Lex}, i ≤ bs.length → splitF bs f i L = .ok l → ∃ M, l = L ++ M ∧ Seg bs i M bs.length
  | 0, i, L, l, h2, h => by cases h
  | f + 1, i, L, l, h2, h => by
    rcases Nat.lt_or_ge i bs.length with hi | hi
    · cases hx : lexS bs i with
      | error e => rw [splitF_bad hi hx] at h; cases h
      | ok x =>
        obtain ⟨x, j⟩ := x
        have hj := lexS_some hb hi hx
        rw [splitF_ok hi hx] at h
        obtain ⟨M, rfl, hM⟩ := splitF_seg hb hj.2 h
        exact ⟨x :: M, by simp, hi, j, hx, hM⟩
    · rw [splitF_end hi] at h
      cases h
      exact ⟨[], by simp, by show i = bs.length; omega⟩
theorem seg_splitF {bs : List Nat} : ∀ {M : List Lex} {f i : Nat} {L : List Lex}, Seg bs i M bs.length → M.length < f → splitF bs f i L = .ok (L ++ M)
  | [], f, i, L, h, hf => by
    obtain ⟨f, rfl⟩ : ∃ g, f = g + 1 := ⟨f - 1, by simp at hf; omega⟩
    have : i = bs.length := h
    rw [splitF_end (by omega)]
    simp
  | x :: M, f, i, L, ⟨hi, j, hx, h⟩, hf => by
    obtain ⟨f, rfl⟩ : ∃ g, f = g + 1 := ⟨f - 1, by simp at hf; omega⟩
    rw [splitF_ok hi hx, seg_splitF h (by simp at hf; omega)]
    simp
/-- A text's lexemes are those that stand from its beginning to its end. -/
theorem splitS_seg {bs : List Nat} (hb : ∀ x ∈ bs, x < 256) {l : List Lex} : splitS bs = .ok l ↔ bs.length ≤ 65536 ∧ Seg bs 0 l bs.length := by
  constructor
  · intro h
    rcases Nat.lt_or_ge 65536 bs.length with h1 | h1
    · rw [splitS_long h1] at h; cases h
    · rw [splitS_go h1] at h
      obtain ⟨M, rfl, hM⟩ := splitF_seg hb (Nat.zero_le _) h
      exact ⟨h1, hM⟩
  · rintro ⟨h1, h2⟩
    have h3 := (seg_len hb h2).1
    rw [splitS_go h1, seg_splitF h2 (by omega)]
    rfl

theorem take_le (bs : List Nat) (p : Nat) (hb : ∀ x ∈ bs, x < 256) : ∀ x ∈ bs.take p, x < 256 := fun x hx => hb x (List.mem_of_mem_take hx)
theorem drop_le (bs : List Nat) (p : Nat) (hb : ∀ x ∈ bs, x < 256) : ∀ x ∈ bs.drop p, x < 256 := fun x hx => hb x (List.mem_of_mem_drop hx)
theorem part_take {bs : List Nat} {p : Nat} (h : p ≤ bs.length) : Part (bs.take p) bs 0 0 0 p := fun m _ hm => by
  refine ⟨by simp; omega, by omega, ?_⟩
  have h1 : m < (bs.take p).length := by simp; omega
  have h2 : m < bs.length := by omega
  rw [Nat.add_zero, ← byteAt_get h1, ← byteAt_get h2, List.getElem_take]
theorem part_drop {bs : List Nat} {p : Nat} (h : p ≤ bs.length) : Part (bs.drop p) bs p 0 0 (bs.length - p) := fun m _ hm => by
  refine ⟨by simp; omega, by omega, ?_⟩
  rw [byteAt_drop, Nat.add_zero, Nat.add_comm]
theorem move_zero : ∀ (M : List Lex), M.map (Lex.move · 0 0) = M
  | [] => rfl
  | x :: M => by
    rw [List.map_cons, move_zero M]
    congr 1
    cases x
    simp [Lex.move]

/-- The law: of a text that is right the beginning up to a lexeme, and the rest, are right, and have its lexemes. -/
theorem splitS_cut {bs : List Nat} (hb : ∀ x ∈ bs, x < 256) {l : List Lex} (h : splitS bs = .ok l) {k : Nat} {x : Lex} (hk : l[k]? = some x) :
    ∃ p : Nat, x.place = p ∧ p < bs.length ∧ bs.length ≤ 65536 ∧ splitS (bs.take p) = .ok (l.take k) ∧ splitS (bs.drop p) = .ok ((l.drop k).map (Lex.move · p 0)) := by
  obtain ⟨hl, hs⟩ := (splitS_seg hb).1 h
  have hkl := (List.getElem?_eq_some_iff.mp hk).1
  have hsx := hs
  rw [← List.take_append_drop k l] at hs
  obtain ⟨p, h1, h2⟩ := seg_cat.1 hs
  have h2' := h2
  rw [List.drop_eq_getElem_cons hkl, (List.getElem?_eq_some_iff.mp hk).2] at h2'
  obtain ⟨hp, j, hx, _⟩ := h2'
  refine ⟨p, lexS_place hx, hp, hl, ?_, ?_⟩
  · refine (splitS_seg (take_le _ _ hb)).2 ⟨by simp; omega, ?_⟩
    rw [List.length_take, Nat.min_eq_left (by omega)]
    have := seg_move (cs := bs.take p) (p := 0) (q := 0) (i := 0) (k := p) hb h1 (part_take (by omega))
    rwa [move_zero] at this
  · refine (splitS_seg (drop_le _ _ hb)).2 ⟨by simp; omega, ?_⟩
    rw [List.length_drop]
    refine seg_move (p := p) (q := 0) (i := 0) (k := bs.length - p) hb ?_ (part_drop (by omega))
    have e : bs.length - p + p = bs.length := by omega
    rw [Nat.zero_add, e]
    exact h2

end Go.Proofs.YtkelkadalikibaaDoor
