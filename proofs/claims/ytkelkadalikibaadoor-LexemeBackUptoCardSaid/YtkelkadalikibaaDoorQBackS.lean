/-
  Lexemes that may be are read from their text, and what is read may be. No program in sight.
-/
import Derived.Test.YtkelkadalikibaaDoorQJoinGo
import Derived.Test.YtkelkadalikibaaDoorQCut
namespace Go.Proofs.YtkelkadalikibaaDoor
set_option linter.unusedSimpArgs false
set_option linter.unusedVariables false
set_option maxRecDepth 100000

/-- The same, but for the place: the kind, the bytes of the set, how often. -/
def likeW (x y : Lex) : Prop := x.kind = y.kind ∧ (∀ i, i < 4 → word x.set i = word y.set i) ∧ x.lo = y.lo ∧ x.hi = y.hi
theorem word_as {p q : Nat → Bool} (h : ∀ c, c < 256 → p c = q c) (i : Nat) (hi : i < 4) : word p i = word q i := word_congr (fun j hj => h (64 * i + j) (by omega))
/-! A byte's text. -/
theorem lit_back : ∀ c : Fin 256, (byteAt (litS c.val) 0 = 92 ∧ escS (litS c.val) 0 = some (c.val, (litS c.val).length)) ∨
    (litS c.val = [c.val] ∧ c.val ≠ 46 ∧ c.val ≠ 92 ∧ c.val ≠ 91 ∧ c.val ≠ 123 ∧ ¬ (c.val = 93 ∨ c.val = 125 ∨ c.val = 10) ∧ signKind c.val = 0) := by decide +kernel
theorem lex_lit (c : Nat) (hc : c < 256) : lexS (litS c) 0 = .ok (⟨1, 0, among [c] 1, 0, 0⟩, (litS c).length) := by
  rcases lit_back ⟨c, hc⟩ with ⟨h1, h2⟩ | ⟨h1, h2, h3, h4, h5, h6, h7⟩
  · dsimp only at h1 h2
    unfold lexS
    rw [h1, if_neg (by decide), if_pos rfl, h2]
    rfl
  · dsimp only at h1 h2 h3 h4 h5 h6 h7
    rw [h1]
    have e : byteAt [c] 0 = c := rfl
    unfold lexS
    rw [e, if_neg h2, if_neg h3, if_neg h4, if_neg h5, if_neg h6, if_neg (by rw [h7]; simp)]
    rfl
theorem elems_mem {p : Nat → Bool} {k : Nat} (hk : k < 256) : k ∈ elems p 256 ↔ p k = true := by
  unfold elems
  simp [hk]
theorem set_back (p : Nat → Bool) : ∃ y, lexS (setT p) 0 = .ok (y, (setT p).length) ∧ y.kind = 1 ∧ (∀ i, i < 4 → word y.set i = word p i) ∧ y.lo = 0 ∧ y.hi = 0 := by
  by_cases h1 : (elems p 256).length = 1
  · obtain ⟨c, hc⟩ := List.length_eq_one_iff.1 h1
    have hc256 : c < 256 := elems_lt (m := 256) (p := p) (by rw [hc]; simp)
    have e : setT p = litS c := by unfold setT; rw [if_pos h1, hc]; rfl
    rw [e]
    refine ⟨_, lex_lit c hc256, rfl, word_as (fun k hk => ?_), rfl, rfl⟩
    have h2 := elems_mem (p := p) hk
    rw [hc] at h2
    show among [c] 1 k = p k
    rw [among_one]
    simp at h2
    cases hp : p k
    · rw [hp] at h2; simp at h2; simpa using h2
    · rw [hp] at h2; simp at h2; simpa using h2
  cases hd : sameSet p dotSet
  · have e : setT p = showS p := by unfold setT; rw [if_neg h1, hd]; rfl
    rw [e]
    obtain ⟨p', h2, h3⟩ := read_show p []
    rw [List.append_nil] at h2
    have h0 : byteAt (showS p) 0 = 91 := by unfold showS; split <;> rfl
    refine ⟨⟨1, 0, p', 0, 0⟩, ?_, rfl, word_as h3, rfl, rfl⟩
    unfold lexS
    rw [h0, if_neg (by decide), if_neg (by decide), if_pos rfl]
    rw [show ((0 : Nat) : Int) = 0 from rfl, h2]
  · have e : setT p = [46] := by unfold setT; rw [if_neg h1, if_pos hd]
    rw [e]
    refine ⟨⟨1, 0, dotSet, 0, 0⟩, rfl, rfl, ?_, rfl, rfl⟩
    unfold sameSet at hd
    simp only [Bool.and_eq_true, beq_iff_eq] at hd
    intro i hi
    show word dotSet i = word p i
    match i, hi with
    | 0, _ => exact Int.ofNat.inj (hd.1.1.1.symm)
    | 1, _ => exact Int.ofNat.inj (hd.1.1.2.symm)
    | 2, _ => exact Int.ofNat.inj (hd.1.2.symm)
    | 3, _ => exact Int.ofNat.inj (hd.2.symm)

/-! A repetition's text. -/
theorem dec_back : ∀ n : Fin 1001, badForm (decS n.val) = false ∧ decVal (decS n.val) = n.val := by decide +kernel
theorem take_dec {bs : List Nat} (pre post : List Nat) (n c i : Nat) (hb : bs = pre ++ (decS n ++ c :: post)) (hi : i = pre.length) (hn : n ≤ 1000) (hc : isDig c = false) : takeS bs i = some (n, i + (decS n).length) := by
  subst hb hi
  have hd : digs (pre ++ (decS n ++ c :: post)) pre.length = decS n := by
    unfold digs
    rw [List.drop_left]
    exact takeWhile_eq _ _ _ (fun x hx => (isDig_iff x).2 (decS_bytes n (by omega) x hx)) hc
  have h := dec_back ⟨n, by omega⟩
  dsimp only at h
  obtain ⟨h1, h2⟩ := h
  have := takeS_ok (bs := pre ++ (decS n ++ c :: post)) (i := pre.length) (by rw [hd]; exact h1) (by rw [hd, h2]; exact hn)
  rw [hd, h2] at this
  exact this
theorem has_here {bs : List Nat} (pre post : List Nat) (c d j : Nat) (hb : bs = pre ++ c :: post) (hj : j = pre.length) : hasAt bs (j : Int) d = (c == d) := by
  subst hb hj
  rw [hasAt_add]
  simp [byteAt_cons]
theorem has_next {bs : List Nat} (pre post : List Nat) (c d j : Nat) (hb : bs = pre ++ c :: post) (hj : j + 1 = pre.length) : hasAt bs ((j : Int) + 1) d = (c == d) := by
  rw [show (j : Int) + 1 = ((j + 1 : Nat) : Int) by omega]
  exact has_here pre post c d (j + 1) hb hj
theorem repS_open {bs : List Nat} {i lo j : Nat} (ht : takeS bs (i + 1) = some (lo, j)) (h1 : hasAt bs (j : Int) 44 = true) (h2 : hasAt bs ((j : Int) + 1) 125 = true) : repS bs i = .ok (⟨8, i, noSet, lo, -1⟩, j + 2) := by
  unfold repS
  rw [ht]
  dsimp only
  rw [if_pos h1, if_pos h2]
theorem repS_one {bs : List Nat} {i lo j : Nat} (ht : takeS bs (i + 1) = some (lo, j)) (h1 : hasAt bs (j : Int) 44 = false) (h2 : hasAt bs (j : Int) 125 = true) : repS bs i = .ok (⟨8, i, noSet, lo, lo⟩, j + 1) := by
  unfold repS
  rw [ht]
  dsimp only
  rw [if_neg (by rw [h1]; decide), if_pos h2]
theorem repS_two {bs : List Nat} {i lo j hi k : Nat} (ht : takeS bs (i + 1) = some (lo, j)) (h1 : hasAt bs (j : Int) 44 = true) (h2 : hasAt bs ((j : Int) + 1) 125 = false) (ht2 : takeS bs (j + 1) = some (hi, k)) (h3 : hasAt bs (k : Int) 125 = true) (hlt : ¬ hi < lo) :
    repS bs i = .ok (⟨8, i, noSet, lo, hi⟩, k + 1) := by
  unfold repS
  rw [ht]
  dsimp only
  rw [if_pos h1, if_neg (by rw [h2]; decide), ht2]
  dsimp only
  rw [if_pos h3, if_neg hlt]
theorem lexS_rep {bs : List Nat} {i : Nat} (h : byteAt bs i = 123) : lexS bs i = repS bs i := by
  unfold lexS
  rw [h, if_neg (by decide), if_neg (by decide), if_neg (by decide), if_pos rfl]
theorem decS_cons (n : Nat) : ∃ c tl, decS n = c :: tl := by
  cases hx : decS n with
  | nil => unfold decS at hx; split at hx <;> (try split at hx) <;> (try split at hx) <;> cases hx
  | cons c tl => exact ⟨c, tl, rfl⟩
theorem lex_rep (lo hi : Nat) (h : Int) (hlo : lo ≤ 1000) (hh : h = -1 ∨ h = (hi : Int) ∧ lo ≤ hi ∧ hi ≤ 1000) : lexS (repT lo h) 0 = .ok (⟨8, 0, noSet, lo, h⟩, (repT lo h).length) := by
  rcases hh with rfl | ⟨rfl, h1, h2⟩
  · have e : repT lo (-1) = [123] ++ (decS lo ++ 44 :: [125]) := by rw [repT_open _ _ (by decide)]; rfl
    rw [e, lexS_rep rfl, repS_open (take_dec [123] [125] lo 44 (0 + 1) rfl rfl hlo (by decide)) ((has_here ([123] ++ decS lo) [125] 44 44 _ (by simp) (by simp; omega)).trans (by decide)) ((has_next ([123] ++ decS lo ++ [44]) [] 125 125 _ (by simp) (by simp; omega)).trans (by decide))]
    simp
    omega
  · by_cases hlt : lo < hi
    · have e : repT lo (hi : Int) = [123] ++ (decS lo ++ 44 :: (decS hi ++ 125 :: [])) := by rw [repT_two _ _ (by omega) (by omega)]; simp
      obtain ⟨c, tl, hct⟩ := decS_cons hi
      have hcd := decS_bytes hi (by omega) c (by rw [hct]; simp)
      rw [e, lexS_rep rfl, repS_two (take_dec [123] (decS hi ++ 125 :: []) lo 44 (0 + 1) rfl rfl hlo (by decide)) ((has_here ([123] ++ decS lo) (decS hi ++ 125 :: []) 44 44 _ (by simp) (by simp; omega)).trans (by decide))
        ((has_next ([123] ++ decS lo ++ [44]) (tl ++ 125 :: []) c 125 _ (by rw [hct]; simp) (by simp; omega)).trans (by simp; omega))
        (take_dec ([123] ++ decS lo ++ [44]) [] hi 125 _ (by simp) (by simp; omega) h2 (by decide))
        ((has_here ([123] ++ decS lo ++ [44] ++ decS hi) [] 125 125 _ (by simp) (by simp; omega)).trans (by decide)) (by omega)]
      simp
      omega
    · obtain rfl : lo = hi := by omega
      have e : repT lo (lo : Int) = [123] ++ (decS lo ++ 125 :: []) := by rw [repT_one _ _ (by omega) (by omega)]; rfl
      rw [e, lexS_rep rfl, repS_one (take_dec [123] [] lo 125 (0 + 1) rfl rfl hlo (by decide)) ((has_here ([123] ++ decS lo) [] 125 44 _ (by simp) (by simp; omega)).trans (by decide)) ((has_here ([123] ++ decS lo) [] 125 125 _ (by simp) (by simp; omega)).trans (by decide))]
      simp
      omega

/-- A lexeme that may be is read from its text. -/
theorem text_back (x : Lex) (h : rightS x = true) : ∃ y, lexS (textS x) 0 = .ok (y, (textS x).length) ∧ likeW y x := by
  obtain ⟨_, h | h | h⟩ := rightS_cases h
  · have e : textS x = setT x.set := if_pos h.1
    obtain ⟨y, h1, h2, h3, h4, h5⟩ := set_back x.set
    rw [e]
    exact ⟨y, h1, h2.trans h.1.symm, h3, h4.trans h.2.1.symm, h5.trans h.2.2.symm⟩
  · have e : textS x = repT x.lo x.hi := by unfold textS; rw [if_neg (by omega), if_pos h.1]
    rw [e]
    obtain ⟨n, hn⟩ := Int.eq_ofNat_of_zero_le h.2.1
    have := lex_rep n x.hi.toNat x.hi (by omega) (by omega)
    rw [hn]
    exact ⟨_, this, h.1.symm, fun i hi => by rw [h.2.2.2.2 i hi]; exact word_empty i hi, hn.symm, rfl⟩
  · obtain ⟨h1, h2, h3, h4, h5⟩ := h
    have hk : x.kind = 2 ∨ x.kind = 3 ∨ x.kind = 4 ∨ x.kind = 5 ∨ x.kind = 6 ∨ x.kind = 7 := by omega
    have hw : ∀ i, i < 4 → word noSet i = word x.set i := fun i hi => by rw [h5 i hi]; exact word_empty i hi
    unfold textS
    rcases hk with hk | hk | hk | hk | hk | hk
    all_goals
      rw [hk]
      exact ⟨_, rfl, hk.symm, hw, h3.symm, h4.symm⟩

/-- A text stands in a longer one. -/
theorem part_in (pre t post : List Nat) : Part (pre ++ (t ++ post)) t 0 pre.length 0 t.length := fun m _ hm => by
  refine ⟨by simp; omega, by omega, ?_⟩
  rw [Nat.add_comm m, byteAt_add, Nat.add_zero]
  unfold byteAt
  rw [List.getD_eq_getElem?_getD, List.getElem?_append_left hm, List.getD_eq_getElem?_getD]
theorem likeW_move {x y : Lex} (h : likeW x y) (p q : Nat) : likeW (x.move p q) y := ⟨h.1, h.2.1, h.2.2.1, h.2.2.2⟩
/-- Lexemes that may be are read from their text. -/
theorem join_back : ∀ (L : List Lex) (pre : List Nat), (∀ x ∈ L, rightS x = true) → ∃ M : List Lex, Seg (pre ++ joinS L) pre.length M (pre.length + (joinS L).length) ∧ M.length = L.length ∧ ∀ (k : Nat) y x, M[k]? = some y → L[k]? = some x → likeW y x
  | [], pre, _ => ⟨[], by show pre.length = pre.length + 0; omega, rfl, fun k y x h _ => by simp at h⟩
  | x :: L, pre, h => by
    have hx := h x (by simp)
    obtain ⟨y, h1, h2⟩ := text_back x hx
    have hb := textS_bytes hx
    have hpos : 0 < (textS x).length := by
      rcases Nat.eq_zero_or_pos (textS x).length with h0 | h0
      · have e : textS x = [] := List.length_eq_zero_iff.1 h0
        rw [e] at h1
        cases h1
      · exact h0
    obtain ⟨M, m1, m2, m3⟩ := join_back L (pre ++ textS x) (fun z hz => h z (by simp [hz]))
    have e : joinS (x :: L) = textS x ++ joinS L := by simp [joinS]
    have hl := lexS_move (cs := pre ++ (textS x ++ joinS L)) (bs := textS x) hb (p := 0) (q := pre.length) (i := 0) (j := (textS x).length) (by omega) h1 (part_in pre (textS x) (joinS L))
    rw [Nat.zero_add] at hl
    rw [List.append_assoc, List.length_append] at m1
    rw [e]
    refine ⟨y.move 0 pre.length :: M, ⟨by simp; omega, (textS x).length + pre.length, hl, ?_⟩, by simp [m2], ?_⟩
    · rw [List.length_append, show (textS x).length + pre.length = pre.length + (textS x).length by omega, ← Nat.add_assoc]
      exact m1
    · intro k z u hz hu
      match k, hz, hu with
      | 0, hz, hu =>
        simp at hz hu
        rw [← hz, ← hu]
        exact likeW_move h2 _ _
      | k + 1, hz, hu => exact m3 k z u (by simpa using hz) (by simpa using hu)
theorem splitS_back {L : List Lex} (h : ∀ x ∈ L, rightS x = true) (hb : ∀ y ∈ joinS L, y < 256) (hl : (joinS L).length ≤ 65536) :
    ∃ M : List Lex, splitS (joinS L) = .ok M ∧ M.length = L.length ∧ ∀ (k : Nat) y x, M[k]? = some y → L[k]? = some x → likeW y x := by
  obtain ⟨M, h1, h2, h3⟩ := join_back L [] h
  refine ⟨M, (splitS_seg hb).2 ⟨hl, ?_⟩, h2, h3⟩
  have e : ([] : List Nat).length + (joinS L).length = (joinS L).length := Nat.zero_add _
  rw [e] at h1
  exact h1

end Go.Proofs.YtkelkadalikibaaDoor
