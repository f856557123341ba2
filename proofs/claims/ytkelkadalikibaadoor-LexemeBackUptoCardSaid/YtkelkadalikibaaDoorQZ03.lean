/-
  The pieces of the members below c + 1, from those of the members below c. No program in sight. The reference's Spans: the pieces of a set, in a slice of its own. Its invariant: ahead of c, what is out and what is open make the pieces of the members below c. The text of a class, and that a class is read back from it. No program in sight.
-/
import Derived.Maps.AppendAt
import Derived.OwnWalk
import Derived.Test.YtkelkadalikibaaDoorQSpans
import Derived.Test.YtkelkadalikibaaDoorQZ02
import Derived.Test.YtkelkadalikibaaDoorQZ01
namespace Go.Proofs.YtkelkadalikibaaDoor
set_option linter.unusedSimpArgs false
set_option linter.unusedVariables false

theorem spans_no (p : Nat → Bool) (c : Nat) (h : p c = false) : spans (elems p (c + 1)) = spans (elems p c) := by
  rw [elems_succ, h]; simp
theorem spans_yes (p : Nat → Bool) (c : Nat) (hc : c < 256) (h : p c = true) : spans (elems p (c + 1)) = push (spans (elems p c)) c := by
  rw [elems_succ, h, if_pos rfl, spans_snoc, Nat.mod_eq_of_lt hc]
theorem push_last (l : List (Nat × Nat)) (c : Nat) : ∃ m a, push l c = m ++ [(a, c)] := by
  rcases List.eq_nil_or_concat l with rfl | ⟨m, ⟨a, b⟩, rfl⟩
  · exact ⟨[], c, rfl⟩
  · rw [List.concat_eq_append]
    by_cases h : b + 1 = c
    · exact ⟨m, a, push_on _ _ _ _ h⟩
    · exact ⟨m ++ [(a, b)], c, push_new _ _ _ _ h⟩
/-- The last piece ends in a member. -/
theorem spans_end (p : Nat → Bool) : ∀ (c : Nat) (_ : c ≤ 256) (m : List (Nat × Nat)) (a b : Nat), spans (elems p c) = m ++ [(a, b)] → b < c ∧ p b = true
  | 0, _, m, a, b, h => by simp [elems, spans] at h
  | c + 1, hc, m, a, b, h => by
    cases hp : p c
    · rw [spans_no p c hp] at h
      have := spans_end p c (by omega) m a b h
      exact ⟨by omega, this.2⟩
    · rw [spans_yes p c (by omega) hp] at h
      obtain ⟨m', a', e⟩ := push_last (spans (elems p c)) c
      rw [e] at h
      have h2 := (List.append_inj' h rfl).2
      simp at h2
      obtain ⟨_, rfl⟩ := h2
      exact ⟨by omega, hp⟩

end Go.Proofs.YtkelkadalikibaaDoor
namespace Go.Proofs.YtkelkadalikibaaDoor
set_option linter.unusedSimpArgs false
set_option linter.unusedVariables false
open Go.RowKit

/-- Ahead of c: `out` is laid; a piece from lo on is open where c - 1 is a member and c is not past the end. -/
def Open (p : Nat → Bool) (c : Nat) (out : List (Nat × Nat)) (lo : Nat) : Prop :=
  (0 < c ∧ c < 256 ∧ p (c - 1) = true ∧ p c = true ∧ spans (elems p c) = out ++ [(lo, c - 1)]) ∨
  (¬ (0 < c ∧ c < 256 ∧ p (c - 1) = true ∧ p c = true) ∧ spans (elems p c) = out)

theorem open_zero (p : Nat → Bool) (lo : Nat) : Open p 0 [] lo := .inr ⟨by simp, by simp [elems, spans]⟩
theorem open_end (p : Nat → Bool) {out : List (Nat × Nat)} {lo : Nat} (h : Open p 256 out lo) : out = spans (elems p 256) := by
  rcases h with ⟨_, h, _⟩ | ⟨_, h⟩
  · omega
  · exact h.symm
theorem open_no (p : Nat → Bool) (c : Nat) (hc : c < 256) (hp : p c = false) {out : List (Nat × Nat)} {lo : Nat} (h : Open p c out lo) (lo' : Nat) : Open p (c + 1) out lo' := by
  rcases h with ⟨_, _, _, h, _⟩ | ⟨_, h⟩
  · rw [hp] at h; cases h
  · exact .inr ⟨by simp [hp], by rw [spans_no p c hp]; exact h⟩
/-- Where c is a member: the new `lo`, and the pieces with the one that is open. -/
theorem open_yes (p : Nat → Bool) (c : Nat) (hc : c < 256) (hp : p c = true) {out : List (Nat × Nat)} {lo : Nat} (h : Open p c out lo) (lo' : Nat)
    (hlo : lo' = if c = 0 ∨ p (c - 1) = false then c else lo) : spans (elems p (c + 1)) = out ++ [(lo', c)] := by
  rw [spans_yes p c hc hp]
  rcases h with ⟨h0, _, h1, _, h2⟩ | ⟨h1, h2⟩
  · rw [if_neg (by simp [h1]; omega)] at hlo
    rw [h2, push_on _ _ _ _ (by omega), hlo]
  · have hcond : c = 0 ∨ p (c - 1) = false := by
      rcases Nat.eq_zero_or_pos c with h | h
      · exact .inl h
      · right
        cases hq : p (c - 1)
        · rfl
        · exact absurd ⟨h, hc, hq, hp⟩ h1
    rw [if_pos hcond] at hlo
    subst hlo
    rcases List.eq_nil_or_concat (spans (elems p lo')) with e | ⟨m, ⟨a, b⟩, e⟩
    · rw [e] at h2; rw [e, push_nil, ← h2]; rfl
    · rw [List.concat_eq_append] at e
      obtain ⟨hb, hpb⟩ := spans_end p lo' (by omega) m a b e
      rw [e, push_new _ _ _ _ ?_, ← e, h2]
      intro hbc
      rcases hcond with h | h
      · omega
      · rw [show lo' - 1 = b by omega, hpb] at h; cases h
theorem open_close (p : Nat → Bool) (c : Nat) {out : List (Nat × Nat)} {lo : Nat} (h : spans (elems p (c + 1)) = out ++ [(lo, c)]) (hn : c = 255 ∨ p (c + 1) = false) (lo' : Nat) : Open p (c + 1) (out ++ [(lo, c)]) lo' :=
  .inr ⟨fun q => (by
    obtain ⟨_, h1, _, h2⟩ := q
    rcases hn with hn | hn
    · omega
    · rw [hn] at h2
      exact Bool.noConfusion h2), h⟩
theorem open_keep (p : Nat → Bool) (c : Nat) (hp : p c = true) {out : List (Nat × Nat)} {lo : Nat} (h : spans (elems p (c + 1)) = out ++ [(lo, c)]) (h1 : c < 255) (h2 : p (c + 1) = true) : Open p (c + 1) out lo :=
  .inl ⟨by omega, by omega, hp, h2, h⟩

end Go.Proofs.YtkelkadalikibaaDoor
namespace Go.Proofs.YtkelkadalikibaaDoor
set_option linter.unusedSimpArgs false
set_option linter.unusedVariables false

theorem byteAt_add (pre x : List Nat) (j : Nat) : byteAt (pre ++ x) (pre.length + j) = byteAt x j := by
  unfold byteAt
  rw [List.getD_eq_getElem?_getD, List.getElem?_append_right (by omega), Nat.add_sub_cancel_left, List.getD_eq_getElem?_getD]
theorem byteAt_add0 (pre x : List Nat) : byteAt (pre ++ x) pre.length = byteAt x 0 := byteAt_add pre x 0
theorem hasAt_add (pre x : List Nat) (c : Nat) : hasAt (pre ++ x) (pre.length : Int) c = (decide (0 < x.length) && (byteAt x 0 == c)) := by
  unfold hasAt
  rw [show ((pre.length : Int)).toNat = pre.length from Int.toNat_natCast _, byteAt_add0]
  by_cases h : 0 < x.length
  · have h1 : decide ((pre.length : Int) < ((pre ++ x).length : Int)) = true := by simp; omega
    have h2 : decide ((0 : Int) ≤ (pre.length : Int)) = true := by simp
    rw [h1, h2, decide_eq_true h]; simp
  · have h1 : decide ((pre.length : Int) < ((pre ++ x).length : Int)) = false := by simp; omega
    rw [h1, decide_eq_false h]; simp
theorem byteAt_cons (a : Nat) (x : List Nat) : byteAt (a :: x) 0 = a := rfl

theorem chr_head (c : Nat) (hc : c < 256) : 1 ≤ (chrS c).length ∧ byteAt (chrS c) 0 ≠ 45 ∧ byteAt (chrS c) 0 ≠ 93 ∧ byteAt (chrS c) 0 ≠ 94 ∧ ∀ x ∈ chrS c, x < 256 := by
  have H : ∀ k : Fin 256, 1 ≤ (chrS k.val).length ∧ byteAt (chrS k.val) 0 ≠ 45 ∧ byteAt (chrS k.val) 0 ≠ 93 ∧ byteAt (chrS k.val) 0 ≠ 94 ∧ ∀ x ∈ chrS k.val, x < 256 := by decide +kernel
  exact H ⟨c, hc⟩
theorem byteAt_left (x y : List Nat) (h : 1 ≤ x.length) : byteAt (x ++ y) 0 = byteAt x 0 := by
  cases x with
  | nil => simp at h
  | cons a x => rfl
theorem digVal_hexd (k : Nat) (hk : k < 16) : digVal (hexd k) = (k : Int) := by
  have H : ∀ k : Fin 16, digVal (hexd k.val) = (k.val : Int) := by decide +kernel
  exact H ⟨k, hk⟩

theorem charS_chr (c : Nat) (hc : c < 256) (pre post : List Nat) (s : Nat) : charS (pre ++ (chrS c ++ post)) s pre.length = .ok (c, pre.length + (chrS c).length) := by
  have h0 := fun x : List Nat => byteAt_add0 pre x
  have hj := fun (x : List Nat) (j : Nat) => byteAt_add pre x j
  by_cases e1 : c = 10
  · subst e1
    exact charS_esc (by simp [chrS]) (by rw [h0]; rfl) (escS_n (by simp [chrS]) (by rw [hj]; rfl))
  by_cases e2 : c = 9
  · subst e2
    exact charS_esc (by simp [chrS]) (by rw [h0]; rfl) (escS_t (by simp [chrS]) (by rw [hj]; rfl))
  by_cases e3 : c = 13
  · subst e3
    exact charS_esc (by simp [chrS]) (by rw [h0]; rfl) (escS_r (by simp [chrS]) (by rw [hj]; rfl))
  cases hs : isSpecial c
  · have e : chrS c = oneS c := by unfold chrS; rw [if_neg e1, if_neg e2, if_neg e3, hs]; rfl
    rw [e]
    cases hp : isPlain c
    · have e' : oneS c = [92, 120, hexd (c / 16), hexd (c % 16)] := by unfold oneS; rw [hp]; rfl
      rw [e']
      have d1 := digVal_hexd (c / 16) (by omega)
      have d2 := digVal_hexd (c % 16) (by omega)
      have b2 : byteAt (pre ++ ([92, 120, hexd (c / 16), hexd (c % 16)] ++ post)) (pre.length + 2) = hexd (c / 16) := by rw [hj]; rfl
      have b3 : byteAt (pre ++ ([92, 120, hexd (c / 16), hexd (c % 16)] ++ post)) (pre.length + 3) = hexd (c % 16) := by rw [hj]; rfl
      have h := escS_x (bs := pre ++ ([92, 120, hexd (c / 16), hexd (c % 16)] ++ post)) (i := pre.length) (by simp) (by rw [hj]; rfl) (by simp) (by rw [b2, d1]; omega) (by rw [b3, d2]; omega)
      rw [b2, b3, d1, d2, show ((16 : Int) * ((c / 16 : Nat) : Int) + ((c % 16 : Nat) : Int)).toNat = c by omega] at h
      exact charS_esc (by simp) (by rw [h0]; rfl) h
    · have e' : oneS c = [c] := by unfold oneS; rw [hp]; rfl
      rw [e']
      have hb : byteAt (pre ++ ([c] ++ post)) pre.length = c := by rw [h0]; rfl
      have h := charS_self (bs := pre ++ ([c] ++ post)) (s := s) (i := pre.length) (by simp) (by rw [hb]; intro h; rw [h] at hp; exact absurd hp (by decide)) (by rw [hb]; exact hs)
      rw [hb] at h
      exact h
  · have e : chrS c = [92, c] := by unfold chrS; rw [if_neg e1, if_neg e2, if_neg e3, hs]; rfl
    rw [e]
    have hc' : c = 92 ∨ c = 91 ∨ c = 93 ∨ c = 94 ∨ c = 45 := by simp [isSpecial] at hs; omega
    have hb : byteAt (pre ++ ([92, c] ++ post)) (pre.length + 1) = c := by rw [hj]; rfl
    have h := escS_self (bs := pre ++ ([92, c] ++ post)) (i := pre.length) (by simp) (by rw [hb]; omega) (by rw [hb]; omega) (by rw [hb]; omega) (by rw [hb]; omega) (by rw [hb]; omega) (by rw [hb]; omega)
      (by rw [hb]; rcases hc' with rfl | rfl | rfl | rfl | rfl <;> rfl)
    rw [hb] at h
    exact charS_esc (by simp) (by rw [h0]; rfl) h

/-- The text of a piece. -/
def pieceS (x : Nat × Nat) : List Nat := chrS x.1 ++ ((if x.1 + 1 < x.2 then [45] else []) ++ (if x.1 < x.2 then chrS x.2 else []))
def piecesS (l : List (Nat × Nat)) : List Nat := l.flatMap pieceS
theorem piecesS_cons (x : Nat × Nat) (l : List (Nat × Nat)) : piecesS (x :: l) = pieceS x ++ piecesS l := by simp [piecesS]
theorem pieceS_one (a : Nat) : pieceS (a, a) = chrS a := by simp [pieceS]
theorem pieceS_two (a : Nat) : pieceS (a, a + 1) = chrS a ++ chrS (a + 1) := by simp [pieceS]
theorem pieceS_more (a b : Nat) (h : a + 1 < b) : pieceS (a, b) = chrS a ++ (45 :: chrS b) := by
  unfold pieceS
  rw [if_pos h, if_pos (by simp; omega)]; rfl
theorem pieceS_len (x : Nat × Nat) : (pieceS x).length ≤ 9 := by
  have h1 := chrS_len x.1
  have h2 := chrS_len x.2
  unfold pieceS
  simp only [List.length_append]
  split <;> split <;> simp <;> omega
theorem piecesS_len (l : List (Nat × Nat)) : (piecesS l).length ≤ l.length * 9 := by
  induction l with
  | nil => simp [piecesS]
  | cons x l ih => rw [piecesS_cons, List.length_append, List.length_cons]; have := pieceS_len x; omega
theorem pieceS_head (x : Nat × Nat) (h : x.1 < 256) : 1 ≤ (pieceS x).length ∧ byteAt (pieceS x) 0 ≠ 45 ∧ byteAt (pieceS x) 0 ≠ 93 ∧ byteAt (pieceS x) 0 ≠ 94 := by
  obtain ⟨h1, h2, h3, h4, _⟩ := chr_head x.1 h
  unfold pieceS
  rw [byteAt_left _ _ h1]
  exact ⟨by simp; omega, h2, h3, h4⟩

theorem itemS_one (a : Nat) (ha : a < 256) (pre post : List Nat) (s : Nat) (hp : byteAt post 0 ≠ 45) : itemS (pre ++ (chrS a ++ post)) s pre.length = .ok (a, a, pre.length + (chrS a).length) := by
  unfold itemS
  rw [charS_chr a ha]
  dsimp only
  have h : hasAt (pre ++ (chrS a ++ post)) ((pre.length + (chrS a).length : Nat) : Int) 45 = false := by
    have e := hasAt_add (pre ++ chrS a) post 45
    rw [List.length_append, List.append_assoc] at e
    rw [e, beq_eq_false_iff_ne.2 hp, Bool.and_false]
  rw [if_neg (by rw [h]; decide)]
theorem itemS_two (a b : Nat) (ha : a < 256) (hb : b < 256) (hab : a ≤ b) (pre post : List Nat) (s : Nat) :
    itemS (pre ++ (chrS a ++ (45 :: (chrS b ++ post)))) s pre.length = .ok (a, b, pre.length + (chrS a).length + 1 + (chrS b).length) := by
  unfold itemS
  rw [charS_chr a ha]
  dsimp only
  have h : hasAt (pre ++ (chrS a ++ (45 :: (chrS b ++ post)))) ((pre.length + (chrS a).length : Nat) : Int) 45 = true := by
    have e := hasAt_add (pre ++ chrS a) (45 :: (chrS b ++ post)) 45
    rw [List.length_append, List.append_assoc] at e
    rw [e, byteAt_cons]; simp
  rw [if_pos h]
  have h2 := charS_chr b hb (pre ++ (chrS a ++ [45])) post s
  simp only [List.length_append, List.append_assoc, List.cons_append, List.nil_append, List.length_cons, List.length_nil, Nat.zero_add] at h2
  rw [show pre.length + (chrS a).length + 1 = pre.length + ((chrS a).length + 1) by omega]
  rw [h2]
  dsimp only
  rw [if_neg (by omega)]

theorem rest_step {bs : List Nat} {s f j : Nat} {q : Nat → Bool} {lo hi k : Nat} (h93 : hasAt bs (j : Int) 93 = false) (h : itemS bs s j = .ok (lo, hi, k)) : restS bs s (f + 1) j q = restS bs s f k (fun c => q c || between lo hi c) := by
  rw [restS_go h93, itemsS_ok h]

/-- From a list of pieces, its text and a bracket: what a class holds. -/
def Back (post : List Nat) (s : Nat) (l : List (Nat × Nat)) : Prop := ∀ (pre : List Nat) (q : Nat → Bool) (f : Nat), (piecesS l).length ≤ f →
  restS (pre ++ (piecesS l ++ 93 :: post)) s f pre.length q = .ok ((fun c => q c || l.any (fun x => between x.1 x.2 c)), pre.length + (piecesS l).length + 1)
theorem back_nil (post : List Nat) (s : Nat) : Back post s [] := by
  intro pre q f _
  have h : hasAt (pre ++ (93 :: post)) (pre.length : Int) 93 = true := by rw [hasAt_add, byteAt_cons]; simp
  show restS (pre ++ (93 :: post)) s f pre.length q = _
  rw [restS_end h]
  simp [piecesS]
theorem rest_head (post : List Nat) (l : List (Nat × Nat)) (hl : ∀ x ∈ l, x.1 < 256) : byteAt (piecesS l ++ 93 :: post) 0 ≠ 45 ∧ byteAt (piecesS l ++ 93 :: post) 0 ≠ 94 := by
  cases l with
  | nil => exact ⟨by show (93 : Nat) ≠ 45; decide, by show (93 : Nat) ≠ 94; decide⟩
  | cons x l =>
    obtain ⟨h1, h2, h3, h4⟩ := pieceS_head x (hl x (by simp))
    rw [piecesS_cons, List.append_assoc, byteAt_left _ _ h1]
    exact ⟨h2, h4⟩
theorem back_one (post : List Nat) (s : Nat) (l : List (Nat × Nat)) (hl : ∀ x ∈ l, x.1 < 256) (a : Nat) (ha : a < 256) (h : Back post s l) : Back post s ((a, a) :: l) := by
  intro pre q f hf
  obtain ⟨h1, h2, h3, h4, _⟩ := chr_head a ha
  rw [piecesS_cons, pieceS_one] at hf ⊢
  rw [List.length_append] at hf ⊢
  obtain ⟨f, rfl⟩ : ∃ f', f = f' + 1 := ⟨f - 1, by omega⟩
  rw [List.append_assoc]
  have h93 : hasAt (pre ++ (chrS a ++ (piecesS l ++ 93 :: post))) (pre.length : Int) 93 = false := by
    rw [hasAt_add, byteAt_left _ _ h1, beq_eq_false_iff_ne.2 h3, Bool.and_false]
  rw [rest_step h93 (itemS_one a ha pre _ s (rest_head post l hl).1)]
  have hr := h (pre ++ chrS a) (fun c => q c || between a a c) f (by omega)
  rw [List.length_append, List.append_assoc] at hr
  rw [hr]
  congr 2
  · funext c; rw [Bool.or_assoc]; rfl
  · omega
theorem back_two (post : List Nat) (s : Nat) (l : List (Nat × Nat)) (hl : ∀ x ∈ l, x.1 < 256) (a : Nat) (ha : a + 1 < 256) (h : Back post s l) : Back post s ((a, a + 1) :: l) := by
  have h' := back_one post s _ (by intro x hx; rcases List.mem_cons.1 hx with rfl | hx; exact ha; exact hl x hx) a (by omega) (back_one post s l hl (a + 1) ha h)
  intro pre q f hf
  rw [piecesS_cons, pieceS_two] at hf ⊢
  have h2 := h' pre q f (by rw [piecesS_cons, piecesS_cons, pieceS_one, pieceS_one, ← List.append_assoc]; exact hf)
  rw [piecesS_cons, piecesS_cons, pieceS_one, pieceS_one, ← List.append_assoc (chrS a)] at h2
  rw [h2]
  congr 2
  funext c
  have e : between a (a + 1) c = (between a a c || between (a + 1) (a + 1) c) := by
    unfold between
    rw [Bool.eq_iff_iff]; simp; omega
  simp only [List.any_cons, e, Bool.or_assoc]
theorem back_more (post : List Nat) (s : Nat) (l : List (Nat × Nat)) (a b : Nat) (hab : a + 1 < b) (hb : b < 256) (h : Back post s l) : Back post s ((a, b) :: l) := by
  intro pre q f hf
  obtain ⟨h1, h2, h3, h4, _⟩ := chr_head a (by omega)
  rw [piecesS_cons, pieceS_more a b hab] at hf ⊢
  simp only [List.length_append, List.length_cons] at hf ⊢
  obtain ⟨f, rfl⟩ : ∃ f', f = f' + 1 := ⟨f - 1, by omega⟩
  simp only [List.append_assoc, List.cons_append]
  have h93 : hasAt (pre ++ (chrS a ++ (45 :: (chrS b ++ (piecesS l ++ 93 :: post))))) (pre.length : Int) 93 = false := by
    rw [hasAt_add, byteAt_left _ _ h1, beq_eq_false_iff_ne.2 h3, Bool.and_false]
  rw [rest_step h93 (itemS_two a b (by omega) hb (by omega) pre _ s)]
  have hr := h (pre ++ (chrS a ++ (45 :: chrS b))) (fun c => q c || between a b c) f (by omega)
  simp only [List.length_append, List.append_assoc, List.cons_append, List.length_cons] at hr
  rw [show pre.length + (chrS a).length + 1 + (chrS b).length = pre.length + ((chrS a).length + ((chrS b).length + 1)) by omega, hr]
  congr 2
  · funext c; rw [Bool.or_assoc]; rfl
  · omega
theorem back_all (post : List Nat) (s : Nat) (l : List (Nat × Nat)) (hl : ∀ x ∈ l, x.1 ≤ x.2 ∧ x.2 < 256) : Back post s l := by
  induction l with
  | nil => exact back_nil post s
  | cons x l ih =>
    obtain ⟨a, b⟩ := x
    have hx := hl (a, b) (by simp)
    have hl' : ∀ x ∈ l, x.1 ≤ x.2 ∧ x.2 < 256 := fun x hx => hl x (by simp [hx])
    have hl2 : ∀ x ∈ l, x.1 < 256 := fun x hx => by have := hl' x hx; omega
    dsimp only at hx
    have hi := ih hl'
    by_cases e1 : a = b
    · subst e1; exact back_one post s l hl2 a hx.2 hi
    by_cases e2 : a + 1 = b
    · subst e2; exact back_two post s l hl2 a hx.2 hi
    · exact back_more post s l a b (by omega) hx.2 hi

theorem any_push (l : List (Nat × Nat)) (c k : Nat) (hl : ∀ x ∈ l, x.1 ≤ x.2) : (push l c).any (fun x => between x.1 x.2 k) = (l.any (fun x => between x.1 x.2 k) || (c == k)) := by
  have e0 : ∀ c k : Nat, between c c k = (c == k) := by
    intro c k; unfold between; rw [Bool.eq_iff_iff]; simp; omega
  rcases List.eq_nil_or_concat l with rfl | ⟨m, ⟨a, b⟩, rfl⟩
  · rw [push_nil]; simp [e0]
  · rw [List.concat_eq_append] at hl ⊢
    have hab := hl (a, b) (by simp)
    dsimp only at hab
    by_cases h : b + 1 = c
    · rw [push_on _ _ _ _ h, List.any_append, List.any_append, Bool.or_assoc]
      congr 1
      simp only [List.any_cons, List.any_nil, Bool.or_false]
      unfold between
      rw [Bool.eq_iff_iff]; simp; omega
    · rw [push_new _ _ _ _ h, List.any_append]
      simp only [List.any_cons, List.any_nil, Bool.or_false, e0]
theorem spans_rise (xs : List Nat) (hx : xs.Pairwise (· < ·)) (h256 : ∀ x ∈ xs, x < 256) : ∀ x ∈ spans xs, x.1 ≤ x.2 := by
  induction xs using rev_ind with
  | h0 => simp [spans]
  | h1 xs x ih =>
    have ih := ih (List.pairwise_append.1 hx).1 (fun y hy => h256 y (by simp [hy]))
    rw [spans_snoc]
    rcases List.eq_nil_or_concat (spans xs) with h | ⟨m, ⟨a, b⟩, h⟩
    · rw [h, push_nil]; simp
    · rw [List.concat_eq_append] at h
      rw [h] at ih ⊢
      have hab := ih (a, b) (by simp)
      dsimp only at hab
      by_cases hb : b + 1 = x % 256
      · rw [push_on _ _ _ _ hb]
        intro q hq
        rcases List.mem_append.1 hq with hq | hq
        · exact ih q (by simp [hq])
        · simp at hq; subst hq; dsimp only; omega
      · rw [push_new _ _ _ _ hb]
        intro q hq
        rcases List.mem_append.1 hq with hq | hq
        · exact ih q hq
        · simp at hq; subst hq; dsimp only; omega
theorem elems_rise (p : Nat → Bool) (m : Nat) : (elems p m).Pairwise (· < ·) := by
  unfold elems
  exact (List.pairwise_lt_range).filter _
theorem spans_any (xs : List Nat) (hx : xs.Pairwise (· < ·)) (h256 : ∀ x ∈ xs, x < 256) (k : Nat) : (spans xs).any (fun x => between x.1 x.2 k) = xs.any (fun x => x == k) := by
  induction xs using rev_ind with
  | h0 => simp [spans]
  | h1 xs x ih =>
    have h1 := (List.pairwise_append.1 hx).1
    have h2 : ∀ y ∈ xs, y < 256 := fun y hy => h256 y (by simp [hy])
    rw [spans_snoc, Nat.mod_eq_of_lt (h256 x (by simp)), any_push _ _ _ (spans_rise xs h1 h2), ih h1 h2, List.any_append]
    simp
/-- The pieces of a set. -/
def cutsOf (p : Nat → Bool) : List (Nat × Nat) := spans (elems p 256)
theorem cutsOf_any (p : Nat → Bool) (k : Nat) (hk : k < 256) : (cutsOf p).any (fun x => between x.1 x.2 k) = p k := by
  unfold cutsOf
  rw [spans_any _ (elems_rise p 256) (fun x hx => elems_lt hx)]
  rw [Bool.eq_iff_iff, List.any_eq_true]
  constructor
  · rintro ⟨x, hx, he⟩
    simp at he
    subst he
    unfold elems at hx
    exact (List.mem_filter.1 hx).2
  · intro h
    exact ⟨k, List.mem_filter.2 ⟨List.mem_range.2 hk, h⟩, by simp⟩
theorem cutsOf_in (p : Nat → Bool) : ∀ x ∈ cutsOf p, x.1 ≤ x.2 ∧ x.2 < 256 := fun x hx => ⟨spans_rise _ (elems_rise p 256) (fun x hx => elems_lt hx) x hx, (spans_small _ x hx).2⟩
theorem cutsOf_nil (p : Nat → Bool) (h : cutsOf p = []) : elems p 256 = [] := by
  rw [List.eq_nil_iff_forall_not_mem]
  intro k hk
  have hk' := elems_lt hk
  have h1 := cutsOf_any p k hk'
  rw [h] at h1
  unfold elems at hk
  rw [(List.mem_filter.1 hk).2] at h1
  simp at h1

/-- Is the class of a set turned? -/
def isTurned (p : Nat → Bool) : Bool := decide ((elems p 256).length = 0) || decide (128 < (elems p 256).length) && decide ((elems p 256).length < 256)
/-- The text of a set's class. -/
def showS (p : Nat → Bool) : List Nat := if isTurned p = true then [91, 94] ++ (piecesS (cutsOf (fun c => !p c)) ++ [93]) else [91] ++ (piecesS (cutsOf p) ++ [93])
theorem showS_turned {p : Nat → Bool} (h : isTurned p = true) : showS p = [91, 94] ++ (piecesS (cutsOf (fun c => !p c)) ++ [93]) := if_pos h
theorem showS_plain {p : Nat → Bool} (h : isTurned p = false) : showS p = [91] ++ (piecesS (cutsOf p) ++ [93]) := if_neg (by rw [h]; decide)

theorem filter_both (p : Nat → Bool) : ∀ l : List Nat, (l.filter p).length + (l.filter (fun c => !p c)).length = l.length
  | [] => rfl
  | x :: l => by
    have ih := filter_both p l
    by_cases h : p x = true
    · simp [List.filter_cons, h]; omega
    · simp at h; simp [List.filter_cons, h]; omega
theorem elems_both (p : Nat → Bool) : (elems p 256).length + (elems (fun c => !p c) 256).length = 256 := by
  unfold elems
  rw [filter_both]; simp
/-- A class is read from its text, whatever stands behind. -/
theorem read_cuts (l : List (Nat × Nat)) (hl : ∀ x ∈ l, x.1 ≤ x.2 ∧ x.2 < 256) (h0 : l ≠ []) (post : List Nat) :
    readS ([91] ++ (piecesS l ++ 93 :: post)) 0 = .ok ((fun c => false || l.any (fun x => between x.1 x.2 c)), 1 + (piecesS l).length + 1) ∧
    readS ([91, 94] ++ (piecesS l ++ 93 :: post)) 0 = .ok ((fun c => !(false || l.any (fun x => between x.1 x.2 c))), 2 + (piecesS l).length + 1) := by
  have hl2 : ∀ x ∈ l, x.1 < 256 := fun x hx => by have := hl x hx; omega
  obtain ⟨x, l', rfl⟩ : ∃ x l', l = x :: l' := by cases l with | nil => exact absurd rfl h0 | cons x l' => exact ⟨x, l', rfl⟩
  obtain ⟨p1, p2, p3, p4⟩ := pieceS_head x (hl2 x (by simp))
  have hne : ∀ pre : List Nat, hasAt (pre ++ (piecesS (x :: l') ++ 93 :: post)) (pre.length : Int) 93 = false := by
    intro pre
    rw [hasAt_add, piecesS_cons, List.append_assoc, byteAt_left _ _ p1, beq_eq_false_iff_ne.2 p3, Bool.and_false]
  constructor
  · have hr := back_all post 0 (x :: l') hl [91] (fun _ => false) (([91] ++ (piecesS (x :: l') ++ 93 :: post)).length + 1) (by simp; omega)
    rw [restS_go (hne [91])] at hr
    have h := readS_plain (bs := [91] ++ (piecesS (x :: l') ++ 93 :: post)) (k := 0) (by
      unfold hasAt
      rw [show byteAt ([91] ++ (piecesS (x :: l') ++ 93 :: post)) ((0 : Nat) : Int).toNat = 91 from rfl]
      simp; omega) (by
      have e := hasAt_add [91] (piecesS (x :: l') ++ 93 :: post) 94
      rw [piecesS_cons, List.append_assoc, byteAt_left _ _ p1, beq_eq_false_iff_ne.2 p4, Bool.and_false] at e
      rw [piecesS_cons, List.append_assoc]
      exact e)
    exact h.trans hr
  · have hr := back_all post 0 (x :: l') hl [91, 94] (fun _ => false) (([91, 94] ++ (piecesS (x :: l') ++ 93 :: post)).length + 1) (by simp; omega)
    rw [restS_go (hne [91, 94])] at hr
    have h := readS_turned (bs := [91, 94] ++ (piecesS (x :: l') ++ 93 :: post)) (k := 0) (by
      unfold hasAt
      rw [show byteAt ([91, 94] ++ (piecesS (x :: l') ++ 93 :: post)) ((0 : Nat) : Int).toNat = 91 from rfl]
      simp; omega) (by
      unfold hasAt
      rw [show byteAt ([91, 94] ++ (piecesS (x :: l') ++ 93 :: post)) (((0 : Nat) : Int) + 1).toNat = 94 from rfl]
      simp; omega)
    have e := h.trans (congrArg turnS hr)
    exact e
theorem read_show (p : Nat → Bool) (post : List Nat) : ∃ p', readS (showS p ++ post) 0 = .ok (p', (showS p).length) ∧ ∀ c, c < 256 → p' c = p c := by
  cases ht : isTurned p
  · rw [showS_plain ht]
    have h0 : cutsOf p ≠ [] := by
      intro h
      have h1 := cutsOf_nil p h
      unfold isTurned at ht
      rw [h1] at ht
      simp at ht
    refine ⟨fun c => false || (cutsOf p).any (fun x => between x.1 x.2 c), ?_, fun c hc => ?_⟩
    · have h := (read_cuts (cutsOf p) (cutsOf_in p) h0 post).1
      have e : [91] ++ (piecesS (cutsOf p) ++ [93]) ++ post = [91] ++ (piecesS (cutsOf p) ++ 93 :: post) := by simp
      have e2 : ([91] ++ (piecesS (cutsOf p) ++ [93])).length = 1 + (piecesS (cutsOf p)).length + 1 := by simp; omega
      rw [e, e2]
      exact h
    · dsimp only; rw [Bool.false_or]; exact cutsOf_any p c hc
  · rw [showS_turned ht]
    have h0 : cutsOf (fun c => !p c) ≠ [] := by
      intro h
      have h1 := cutsOf_nil _ h
      have h2 := elems_both p
      rw [h1] at h2
      unfold isTurned at ht
      simp at h2
      rw [h2] at ht
      simp at ht
    refine ⟨fun c => !(false || (cutsOf (fun c => !p c)).any (fun x => between x.1 x.2 c)), ?_, fun c hc => ?_⟩
    · have h := (read_cuts (cutsOf (fun c => !p c)) (cutsOf_in _) h0 post).2
      have e : [91, 94] ++ (piecesS (cutsOf (fun c => !p c)) ++ [93]) ++ post = [91, 94] ++ (piecesS (cutsOf (fun c => !p c)) ++ 93 :: post) := by simp
      have e2 : ([91, 94] ++ (piecesS (cutsOf (fun c => !p c)) ++ [93])).length = 2 + (piecesS (cutsOf (fun c => !p c))).length + 1 := by simp; omega
      rw [e, e2]
      exact h
    · dsimp only; rw [Bool.false_or, cutsOf_any _ c hc]; simp
/-- A byte is read from its char between brackets. -/
theorem read_chr (c : Nat) (hc : c < 256) : ∃ p', readS ([91] ++ (chrS c ++ [93])) 0 = .ok (p', (chrS c).length + 2) ∧ ∀ k, k < 256 → p' k = (k == c) := by
  refine ⟨fun k => false || [(c, c)].any (fun x => between x.1 x.2 k), ?_, fun k hk => ?_⟩
  · have h := (read_cuts [(c, c)] (by simp; omega) (by simp) []).1
    rw [piecesS_cons, pieceS_one] at h
    have e : chrS c ++ piecesS [] = chrS c := by simp [piecesS]
    rw [e, show 1 + (chrS c).length + 1 = (chrS c).length + 2 by omega] at h
    exact h
  · simp only [List.any_cons, List.any_nil, Bool.or_false, Bool.false_or]
    unfold between
    rw [Bool.eq_iff_iff]; simp; omega
theorem showS_len (p : Nat → Bool) : (showS p).length ≤ 2400 := by
  have hh : ∀ q : Nat → Bool, (piecesS (cutsOf q)).length ≤ 2304 := by
    intro q
    have h1 := piecesS_len (cutsOf q)
    have h2 : (cutsOf q).length ≤ 256 := Nat.le_trans (spans_len _) (elems_len q 256)
    omega
  unfold showS
  have h1 := hh (fun c => !p c)
  have h2 := hh p
  split <;> simp <;> omega

end Go.Proofs.YtkelkadalikibaaDoor
