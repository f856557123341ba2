/-
  The least word of a tree, in plain words. No program in sight.
-/
import Derived.Test.YtfekpkelmliejaaGreatDoorQZ03
import Derived.Test.YtfekpkelmliejaaGreatDoorQZ01
namespace Go.Proofs.YtfekpkelmliejaaGreatDoor
open Go.RowKit
set_option linter.unusedSimpArgs false
set_option linter.unusedVariables false
set_option maxRecDepth 100000

/-- Does one row of bytes stand ahead of another one? -/
def lexLt : List Nat → List Nat → Bool
  | _, [] => false
  | [], _ :: _ => true
  | a :: x, b :: y => decide (a < b) || (a == b && lexLt x y)
theorem lex_irrefl : ∀ a : List Nat, lexLt a a = false
  | [] => rfl
  | a :: x => by simp [lexLt, lex_irrefl x]
theorem lex_trans : ∀ a b c : List Nat, lexLt a b = true → lexLt b c = true → lexLt a c = true
  | _, [], _, h, _ => by simp [lexLt] at h
  | _, _ :: _, [], _, h => by simp [lexLt] at h
  | [], _ :: _, _ :: _, _, _ => rfl
  | a :: x, b :: y, c :: z, h1, h2 => by
    simp only [lexLt, Bool.or_eq_true, decide_eq_true_eq, Bool.and_eq_true, beq_iff_eq] at h1 h2 ⊢
    rcases h1 with h1 | ⟨rfl, h1⟩
    · rcases h2 with h2 | ⟨rfl, h2⟩
      · exact .inl (by omega)
      · exact .inl h1
    · rcases h2 with h2 | ⟨rfl, h2⟩
      · exact .inl h2
      · exact .inr ⟨rfl, lex_trans x y z h1 h2⟩
theorem lex_total : ∀ a b : List Nat, lexLt a b = false → lexLt b a = false → a = b
  | [], [], _, _ => rfl
  | [], _ :: _, h, _ => by simp [lexLt] at h
  | _ :: _, [], _, h => by simp [lexLt] at h
  | a :: x, b :: y, h1, h2 => by
    simp only [lexLt, Bool.or_eq_false_iff, decide_eq_false_iff_not, Bool.and_eq_false_iff, beq_eq_false_iff_ne] at h1 h2
    obtain rfl : a = b := by omega
    rw [lex_total x y (by simpa using h1.2) (by simpa using h2.2)]
/-- The same, of words: the shorter one first. -/
def lessW (a b : List Nat) : Bool := decide (a.length < b.length) || (a.length == b.length && lexLt a b)
theorem less_irrefl (a : List Nat) : lessW a a = false := by simp [lessW, lex_irrefl]
theorem less_trans {a b c : List Nat} (h1 : lessW a b = true) (h2 : lessW b c = true) : lessW a c = true := by
  simp only [lessW, Bool.or_eq_true, decide_eq_true_eq, Bool.and_eq_true, beq_iff_eq] at h1 h2 ⊢
  rcases h1 with h1 | ⟨e1, h1⟩ <;> rcases h2 with h2 | ⟨e2, h2⟩
  · exact .inl (by omega)
  · exact .inl (by omega)
  · exact .inl (by omega)
  · exact .inr ⟨by omega, lex_trans _ _ _ h1 h2⟩
theorem less_total {a b : List Nat} (h1 : lessW a b = false) (h2 : lessW b a = false) : a = b := by
  simp only [lessW, Bool.or_eq_false_iff, decide_eq_false_iff_not, Bool.and_eq_false_iff, beq_eq_false_iff_ne] at h1 h2
  have he : a.length = b.length := by omega
  refine lex_total a b ?_ ?_
  · rcases h1.2 with h | h
    · omega
    · exact h
  · rcases h2.2 with h | h
    · omega
    · exact h
def stepW (m w : List Nat) : List Nat := if lessW w m = true then w else m
def minW : List (List Nat) → List Nat
  | [] => []
  | w :: l => l.foldl stepW w
/-- The least of some words. -/
structure IsMin (l : List (List Nat)) (u : List Nat) : Prop where
  mem : u ∈ l
  le : ∀ w ∈ l, lessW w u = false
theorem fold_min : ∀ (l : List (List Nat)) (w : List Nat), (l.foldl stepW w = w ∨ l.foldl stepW w ∈ l) ∧ (∀ v, v = w ∨ v ∈ l → lessW v (l.foldl stepW w) = false)
  | [], w => ⟨.inl rfl, fun v h => by
    rcases h with rfl | h
    · exact less_irrefl _
    · cases h⟩
  | x :: l, w => by
    obtain ⟨h1, h2⟩ := fold_min l (stepW w x)
    rw [List.foldl_cons]
    generalize l.foldl stepW (stepW w x) = u at *
    have h3 := h2 _ (.inl rfl)
    by_cases hx : lessW x w = true
    · have e : stepW w x = x := by unfold stepW; rw [if_pos hx]
      rw [e] at h1 h3
      refine ⟨.inr (by rcases h1 with rfl | h1 <;> simp [*]), fun v hv => ?_⟩
      rcases hv with rfl | hv
      · cases hb : lessW v u with
        | false => rfl
        | true => rw [less_trans hx hb] at h3; cases h3
      · rcases List.mem_cons.1 hv with rfl | hv
        · exact h3
        · exact h2 v (.inr hv)
    · have e : stepW w x = w := by unfold stepW; rw [if_neg hx]
      have hx : lessW x w = false := by simpa using hx
      rw [e] at h1 h3
      refine ⟨by rcases h1 with rfl | h1 <;> simp [*], fun v hv => ?_⟩
      rcases hv with rfl | hv
      · exact h3
      · rcases List.mem_cons.1 hv with rfl | hv
        · cases hb : lessW v u with
          | false => rfl
          | true =>
            cases hc : lessW u w with
            | true => rw [less_trans hb hc] at hx; cases hx
            | false => rw [less_total hc h3, hx] at hb; cases hb
        · exact h2 v (.inr hv)
theorem min_is : ∀ {l : List (List Nat)}, l ≠ [] → IsMin l (minW l)
  | [], h => absurd rfl h
  | w :: l, _ => by
    obtain ⟨h1, h2⟩ := fold_min l w
    exact ⟨by rcases h1 with h | h; · rw [show minW (w :: l) = w from h]; simp
              · exact List.mem_cons_of_mem _ h, fun v hv => h2 v (by simpa using hv)⟩
theorem min_unique {l : List (List Nat)} {u v : List Nat} (h1 : IsMin l u) (h2 : IsMin l v) : u = v := less_total (h2.le u h1.mem) (h1.le v h2.mem)
theorem minW_snoc {l : List (List Nat)} (h : l ≠ []) (w : List Nat) : minW (l ++ [w]) = stepW (minW l) w := by
  cases l with
  | nil => exact absurd rfl h
  | cons a l => simp [minW]
theorem minW_get {l : List (List Nat)} {i : Nat} {w : List Nat} (hi : 0 < i) (h : l[i]? = some w) : minW (l.take (i + 1)) = stepW (minW (l.take i)) w := by
  rw [show l.take (i + 1) = l.take i ++ [w] by rw [List.take_add_one, h]; rfl]
  refine minW_snoc ?_ w
  intro e
  have := (List.getElem?_eq_some_iff.1 h).1
  have e2 := congrArg List.length e
  rw [List.length_take, List.length_nil] at e2
  omega

/-- The words of those trees whose shortest words are so long. -/
def pick (m : Int) : List SumS → List (List Nat) → List (List Nat)
  | s :: S, w :: L => if s.short = m then w :: pick m S L else pick m S L
  | _, _ => []
/-- The words of those trees that say one. -/
def rpick : List SumS → List (List Nat) → List (List Nat)
  | s :: S, w :: L => if s.hollow = true then rpick S L else w :: rpick S L
  | _, _ => []
def leastP (k : Int) (s : Nat) (lo : Int) (S : List SumS) (L : List (List Nat)) : List Nat :=
  if k = 3 then [(elems s.testBit 256).headD 255]
  else if k = 4 then L.flatten
  else if k = 5 then minW (pick (S.foldl eitherF nothingF).short S L)
  else if k = 7 then L.headD []
  else if k = 9 then (List.replicate lo.toNat (L.headD [])).flatten
  else []
def Trees.leasts : Trees → List (List Nat)
  | .nil => []
  | .cons k s ks lo hi r => leastP k s lo ks.sums ks.leasts :: r.leasts
/-- The least word of a tree. -/
def Nd.least (x : Nd) : List Nat := leastP x.kind x.set x.lo x.kids.sums x.kids.leasts
theorem Trees.leasts_list : ∀ F : Trees, F.leasts = F.list.map Nd.least
  | .nil => rfl
  | .cons k s ks lo hi r => by rw [Trees.leasts, Trees.list, List.map_cons, Trees.leasts_list r]; rfl
theorem Trees.leasts_head {F : Trees} {z : Nd} (h : F.list[0]? = some z) : F.leasts.headD [] = z.least := by
  rw [F.leasts_list]
  cases hl : F.list with
  | nil => rw [hl] at h; simp at h
  | cons a l => rw [hl] at h; simp at h; subst h; rfl

/-! Bytes. -/
theorem flat_bytes {L : List (List Nat)} (h : ∀ w ∈ L, ∀ c ∈ w, c < 256) : ∀ c ∈ L.flatten, c < 256 := fun c hc => by
  obtain ⟨w, hw, hc⟩ := List.mem_flatten.1 hc
  exact h w hw c hc
theorem pick_sub (m : Int) : ∀ (S : List SumS) (L : List (List Nat)), ∀ w ∈ pick m S L, w ∈ L
  | [], L, w, h => by simp [pick] at h
  | s :: S, [], w, h => by simp [pick] at h
  | s :: S, v :: L, w, h => by
    rw [pick] at h
    by_cases hs : s.short = m
    · rw [if_pos hs] at h
      rcases List.mem_cons.1 h with rfl | h
      · simp
      · exact List.mem_cons_of_mem _ (pick_sub m S L w h)
    · rw [if_neg hs] at h
      exact List.mem_cons_of_mem _ (pick_sub m S L w h)
theorem minW_bytes {L : List (List Nat)} (h : ∀ w ∈ L, ∀ c ∈ w, c < 256) : ∀ c ∈ minW L, c < 256 := by
  cases L with
  | nil => intro c hc; cases hc
  | cons a l => exact h _ (min_is (by simp)).mem
theorem leastP_bytes {k : Int} {s : Nat} {lo : Int} {S : List SumS} {L : List (List Nat)} (h : ∀ w ∈ L, ∀ c ∈ w, c < 256) : ∀ c ∈ leastP k s lo S L, c < 256 := by
  have hd : ∀ c ∈ L.headD [], c < 256 := by
    cases L with
    | nil => intro c hc; cases hc
    | cons a l => exact h a (by simp)
  unfold leastP
  split
  · intro c hc
    rw [List.mem_singleton] at hc
    subst hc
    cases he : elems s.testBit 256 with
    | nil => decide
    | cons a l => exact elems_lt (p := s.testBit) (m := 256) (by rw [he]; simp)
  split
  · exact flat_bytes h
  split
  · exact minW_bytes (fun w hw => h w (pick_sub _ _ _ w hw))
  split
  · exact hd
  split
  · exact flat_bytes (fun w hw => by rw [List.eq_of_mem_replicate hw]; exact hd)
  · intro c hc; cases hc
theorem leasts_bytes : ∀ (F : Trees), ∀ w ∈ F.leasts, ∀ c ∈ w, c < 256
  | .nil, w, hw => by cases hw
  | .cons k s ks lo hi r, w, hw => by
    rw [Trees.leasts] at hw
    rcases List.mem_cons.1 hw with rfl | hw
    · exact leastP_bytes (leasts_bytes ks)
    · exact leasts_bytes r w hw
/-! Lengths. -/
def LenP (s : SumS) (w : List Nat) : Prop := s.hollow = false → s.short ≤ 2000 → (w.length : Int) = s.short
def LensP : List SumS → List (List Nat) → Prop
  | [], [] => True
  | s :: S, w :: L => LenP s w ∧ LensP S L
  | _, _ => False
theorem addF_small {a b : Int} (ha : 0 ≤ a) (hb : 0 ≤ b) (h : addF a b ≤ 2000) : addF a b = a + b := by
  unfold addF topI endF at *
  split at h
  · omega
  · rename_i h1
    rw [if_neg h1]
    omega
theorem behind_not {a b : SumS} (h : (behindF a b).hollow = false) : a.hollow = false ∧ b.hollow = false ∧ (behindF a b).short = addF a.short b.short := by
  unfold behindF at h ⊢
  split at h
  · cases h
  · rename_i h1
    rw [if_neg h1]
    refine ⟨?_, ?_, rfl⟩
    · cases hh : a.hollow with
      | false => rfl
      | true => exact absurd (.inl hh) h1
    · cases hh : b.hollow with
      | false => rfl
      | true => exact absurd (.inr hh) h1
theorem cat_mono : ∀ (S : List SumS) (a : SumS), SumOk a → (∀ s ∈ S, SumOk s) → (S.foldl behindF a).hollow = false → (S.foldl behindF a).short ≤ 2000 → a.hollow = false ∧ a.short ≤ (S.foldl behindF a).short ∧ ∀ s ∈ S, s.hollow = false ∧ s.short ≤ 2000
  | [], a, _, _, h, _ => ⟨h, Int.le_refl _, fun s hs => by cases hs⟩
  | s :: S, a, ha, hS, h, h2 => by
    rw [List.foldl_cons] at h h2 ⊢
    have hs := hS s (by simp)
    obtain ⟨h3, h4, h5⟩ := cat_mono S _ (ok_behind ha hs) (fun t ht => hS t (by simp [ht])) h h2
    obtain ⟨h6, h7, h8⟩ := behind_not h3
    have a1 := ha.short h6
    have b1 := hs.short h7
    rw [h8] at h4
    have h9 := addF_small a1.1 b1.1 (by omega)
    refine ⟨h6, by omega, fun t ht => ?_⟩
    rcases List.mem_cons.1 ht with rfl | ht
    · exact ⟨h7, by omega⟩
    · exact h5 t ht
theorem cat_len : ∀ (S : List SumS) (L : List (List Nat)) (a : SumS) (n : Nat), LensP S L → SumOk a → (∀ s ∈ S, SumOk s) → (n : Int) = a.short → (S.foldl behindF a).hollow = false → (S.foldl behindF a).short ≤ 2000 → ((n + L.flatten.length : Nat) : Int) = (S.foldl behindF a).short
  | [], [], a, n, _, _, _, hn, _, _ => by simpa using hn
  | [], _ :: _, a, n, h, _, _, _, _, _ => h.elim
  | _ :: _, [], a, n, h, _, _, _, _, _ => h.elim
  | s :: S, w :: L, a, n, ⟨h1, h2⟩, ha, hS, hn, h, hs => by
    rw [List.foldl_cons] at h hs ⊢
    have hk := hS s (by simp)
    obtain ⟨h3, h4, h5⟩ := cat_mono S _ (ok_behind ha hk) (fun t ht => hS t (by simp [ht])) h hs
    obtain ⟨h6, h7, h8⟩ := behind_not h3
    have a1 := ha.short h6
    have b1 := hk.short h7
    rw [h8] at h4
    have h9 := addF_small a1.1 b1.1 (by omega)
    have := cat_len S L (behindF a s) (n + w.length) h2 (ok_behind ha hk) (fun t ht => hS t (by simp [ht])) (by rw [h8, h9, ← h1 h7 (by omega)]; omega) h hs
    rw [← this, List.flatten_cons, List.length_append]
    omega
theorem either_parts : ∀ (S : List SumS) (a : SumS), SumOk a → (∀ s ∈ S, SumOk s) → (S.foldl eitherF a).hollow = false →
    ((a.hollow = false ∧ a.short = (S.foldl eitherF a).short) ∨ ∃ s ∈ S, s.hollow = false ∧ s.short = (S.foldl eitherF a).short) ∧ (a.hollow = false → (S.foldl eitherF a).short ≤ a.short) ∧ ∀ s ∈ S, s.hollow = false → (S.foldl eitherF a).short ≤ s.short
  | [], a, _, _, h => ⟨.inl ⟨h, rfl⟩, fun _ => Int.le_refl _, fun s hs => by cases hs⟩
  | s :: S, a, ha, hS, h => by
    rw [List.foldl_cons] at h ⊢
    have hk := hS s (by simp)
    obtain ⟨h3, h4, h5⟩ := either_parts S _ (ok_either ha hk) (fun t ht => hS t (by simp [ht])) h
    generalize S.foldl eitherF (eitherF a s) = r at *
    by_cases h1 : a.hollow = true
    · have e : eitherF a s = s := by unfold eitherF; rw [if_pos h1]
      rw [e] at h3 h4
      refine ⟨.inr ?_, fun h => (by rw [h] at h1; cases h1), fun t ht htt => ?_⟩
      · rcases h3 with h3 | ⟨t, ht, h3⟩
        · exact ⟨s, by simp, h3⟩
        · exact ⟨t, by simp [ht], h3⟩
      · rcases List.mem_cons.1 ht with rfl | ht
        · exact h4 htt
        · exact h5 t ht htt
    · by_cases h2 : s.hollow = true
      · have e : eitherF a s = a := by unfold eitherF; rw [if_neg h1, if_pos h2]
        rw [e] at h3 h4
        refine ⟨?_, h4, fun t ht htt => ?_⟩
        · rcases h3 with h3 | ⟨t, ht, h3⟩
          · exact .inl h3
          · exact .inr ⟨t, by simp [ht], h3⟩
        · rcases List.mem_cons.1 ht with rfl | ht
          · rw [htt] at h2; cases h2
          · exact h5 t ht htt
      · have e : (eitherF a s).short = min a.short s.short ∧ (eitherF a s).hollow = false := by unfold eitherF; rw [if_neg h1, if_neg h2]; exact ⟨rfl, rfl⟩
        have h1 : a.hollow = false := by simpa using h1
        have h2 : s.hollow = false := by simpa using h2
        have h6 := h4 e.2
        rw [e.1] at h6
        refine ⟨?_, fun _ => by omega, fun t ht htt => ?_⟩
        · rcases h3 with ⟨_, h3⟩ | ⟨t, ht, h3⟩
          · rw [e.1] at h3
            by_cases hle : a.short ≤ s.short
            · exact .inl ⟨h1, by omega⟩
            · exact .inr ⟨s, by simp, h2, by omega⟩
          · exact .inr ⟨t, by simp [ht], h3⟩
        · rcases List.mem_cons.1 ht with rfl | ht
          · omega
          · exact h5 t ht htt
theorem nothing_no {s : SumS} (o : SumOk s) {m : Int} (hm : 0 ≤ m) (h : s.short = m) : s.hollow = false := by
  cases hh : s.hollow with
  | false => rfl
  | true =>
    rw [o.none hh] at h
    have : (nothingF).short = -1 := rfl
    omega
theorem pick_len {m : Int} (hm : 0 ≤ m) (h2 : m ≤ 2000) : ∀ (S : List SumS) (L : List (List Nat)), LensP S L → (∀ s ∈ S, SumOk s) → ∀ w ∈ pick m S L, (w.length : Int) = m
  | [], L, _, _, w, h => by simp [pick] at h
  | s :: S, [], h, _, _, _ => h.elim
  | s :: S, v :: L, ⟨h1, h3⟩, hS, w, h => by
    rw [pick] at h
    by_cases hs : s.short = m
    · rw [if_pos hs] at h
      rcases List.mem_cons.1 h with rfl | h
      · rw [h1 (nothing_no (hS s (by simp)) hm hs) (by omega), hs]
      · exact pick_len hm h2 S L h3 (fun t ht => hS t (by simp [ht])) w h
    · rw [if_neg hs] at h
      exact pick_len hm h2 S L h3 (fun t ht => hS t (by simp [ht])) w h
theorem pick_some {m : Int} : ∀ (S : List SumS) (L : List (List Nat)), LensP S L → (∃ s ∈ S, s.short = m) → pick m S L ≠ []
  | [], L, _, h => by obtain ⟨s, hs, _⟩ := h; cases hs
  | s :: S, [], h, _ => h.elim
  | s :: S, v :: L, ⟨h1, h3⟩, ⟨t, ht, hm⟩ => by
    rw [pick]
    by_cases hs : s.short = m
    · rw [if_pos hs]; simp
    · rw [if_neg hs]
      rcases List.mem_cons.1 ht with rfl | ht
      · exact absurd hm hs
      · exact pick_some S L h3 ⟨t, ht, hm⟩
theorem alt_short {S : List SumS} (hS : ∀ s ∈ S, SumOk s) (h : (S.foldl eitherF nothingF).hollow = false) : 0 ≤ (S.foldl eitherF nothingF).short ∧ (∃ s ∈ S, s.hollow = false ∧ s.short = (S.foldl eitherF nothingF).short) ∧ ∀ s ∈ S, s.hollow = false → (S.foldl eitherF nothingF).short ≤ s.short := by
  obtain ⟨h1, _, h3⟩ := either_parts S nothingF ok_nothing hS h
  refine ⟨((ok_fold (fun a b => ok_either) S nothingF ok_nothing hS).short h).1, ?_, h3⟩
  rcases h1 with ⟨h1, _⟩ | h1
  · cases h1
  · exact h1
theorem repeated_small {a : SumS} {lo hi : Int} (o : SumOk a) (h0 : 0 < lo) (h1 : lo ≤ hi) (h : (repeatedF a lo hi).hollow = false) (h2 : (repeatedF a lo hi).short ≤ 2000) (h3 : lo ≤ topI) : a.hollow = false ∧ (repeatedF a lo hi).short = lo * a.short ∧ a.short ≤ 2000 := by
  unfold repeatedF at h h2 ⊢
  rw [if_neg (by omega)] at h h2 ⊢
  by_cases ha : a.hollow = true
  · rw [if_pos ha] at h; cases h
  · rw [if_neg ha] at h h2 ⊢
    have ha : a.hollow = false := by simpa using ha
    have a1 := o.short ha
    have hm := Int.mul_nonneg (Int.le_of_lt h0) a1.1
    have hle : 1 * a.short ≤ lo * a.short := Int.mul_le_mul_of_nonneg_right (by omega) a1.1
    dsimp only at h2 ⊢
    by_cases hz : lo = 0 ∨ a.short = 0
    · have e0 : a.short = 0 := by omega
      refine ⟨ha, ?_, by omega⟩
      unfold timF
      rw [if_pos hz, e0, Int.mul_zero]
    · have e1 : timF lo a.short = min topI (lo * a.short) := by
        unfold timF
        rw [if_neg hz, if_neg (by unfold topI endF at *; omega)]
      rw [e1] at h2 ⊢
      unfold topI at *
      exact ⟨ha, by omega, by omega⟩
theorem flat_rep (n : Nat) (w : List Nat) : (List.replicate n w).flatten.length = n * w.length := by
  induction n with
  | zero => simp
  | succ n ih => rw [List.replicate_succ, List.flatten_cons, List.length_append, ih, Nat.succ_mul]; omega
theorem lens_head {S : List SumS} {L : List (List Nat)} (h : LensP S L) : LenP (S.headD nothingF) (L.headD []) := by
  match S, L, h with
  | [], [], _ => intro h; cases h
  | s :: S, w :: L, h => exact h.1
theorem leastP_len {k : Int} {s : Nat} {lo hi : Int} {S : List SumS} {L : List (List Nat)} (h9 : k = 9 → 0 ≤ lo ∧ lo ≤ 1000 ∧ (hi = -1 ∨ lo ≤ hi) ∧ hi ≤ 1000) (hS : ∀ s ∈ S, SumOk s) (hL : LensP S L) : LenP (ofF k s lo hi S) (leastP k s lo S L) := by
  intro h h2
  have hh := lens_head hL
  unfold leastP
  by_cases k3 : k = 3
  · subst k3
    rw [if_pos rfl]
    unfold ofF at h ⊢
    rw [if_neg (by decide), if_pos rfl] at h ⊢
    by_cases hn : isNoSet s = true
    · rw [if_pos hn] at h; cases h
    · rw [if_neg hn]; rfl
  rw [if_neg k3]
  by_cases k4 : k = 4
  · subst k4
    rw [if_pos rfl]
    unfold ofF at h h2 ⊢
    rw [if_neg (by decide), if_neg (by decide), if_pos rfl] at h h2 ⊢
    have := cat_len S L fnilF 0 hL ok_nil hS rfl h h2
    rw [← this]; simp
  rw [if_neg k4]
  by_cases k5 : k = 5
  · subst k5
    rw [if_pos rfl]
    unfold ofF at h h2 ⊢
    rw [if_neg (by decide), if_neg (by decide), if_neg (by decide), if_pos rfl] at h h2 ⊢
    obtain ⟨h0, ⟨t, ht, _, h1⟩, h3⟩ := alt_short hS h
    exact pick_len h0 h2 S L hL hS _ (min_is (pick_some S L hL ⟨t, ht, h1⟩)).mem
  rw [if_neg k5]
  have hok := ok_head hS
  by_cases k7 : k = 7
  · subst k7
    rw [if_pos rfl]
    unfold ofF at h h2 ⊢
    rw [if_neg (by decide), if_neg (by decide), if_neg (by decide), if_neg (by decide), if_neg (by decide), if_pos rfl] at h h2 ⊢
    obtain ⟨h1, h3, h4⟩ := repeated_small hok (by decide) (by decide) h h2 (by decide)
    rw [h3, hh h1 h4, Int.one_mul]
  rw [if_neg k7]
  by_cases k9 : k = 9
  · subst k9
    rw [if_pos rfl]
    unfold ofF at h h2 ⊢
    rw [if_neg (by decide), if_neg (by decide), if_neg (by decide), if_neg (by decide), if_neg (by decide), if_neg (by decide), if_neg (by decide), if_pos rfl] at h h2 ⊢
    obtain ⟨a, b, c, d⟩ := h9 rfl
    obtain ⟨e, f, g⟩ := hiF_ok a b c d
    by_cases hl : lo = 0
    · subst hl
      rw [show (repeatedF (S.headD nothingF) 0 (hiF hi)).short = 0 from ?_]
      · simp
      · unfold repeatedF
        split
        · rfl
        split
        · rename_i h1 h3; exact absurd (.inr ⟨h3, rfl⟩) h1
        · unfold timF; rw [if_pos (.inl rfl)]
    · obtain ⟨h1, h3, h4⟩ := repeated_small hok (by omega) e h h2 g
      rw [h3, flat_rep, Int.natCast_mul, hh h1 h4, Int.toNat_of_nonneg a]
  rw [if_neg k9]
  have hz : ∀ (a : SumS) (hi : Int), (repeatedF a 0 hi).short = 0 := fun a hi => by
    unfold repeatedF
    split
    · rfl
    split
    · rename_i h1 h3; exact absurd (.inr ⟨h3, rfl⟩) h1
    · unfold timF; rw [if_pos (.inl rfl)]
  unfold ofF at h h2 ⊢
  rw [if_neg k3, if_neg k4, if_neg k5, if_neg k7, if_neg k9] at h ⊢
  by_cases k2 : k = 2
  · rw [if_pos k2]; rfl
  rw [if_neg k2] at h ⊢
  by_cases k6 : k = 6
  · rw [if_pos k6, hz]; rfl
  rw [if_neg k6] at h ⊢
  by_cases k8 : k = 8
  · rw [if_pos k8, hz]; rfl
  rw [if_neg k8] at h
  cases h
theorem leasts_len : ∀ (F : Trees), (∀ y ∈ F.nodes, aloneN y = true) → LensP F.sums F.leasts
  | .nil, _ => trivial
  | .cons k st ks lo hi r, h => by
    rw [Trees.sums, Trees.leasts]
    have hks : ∀ y ∈ ks.nodes, aloneN y = true := fun y hy => h y (by simp [Trees.nodes, hy])
    exact ⟨leastP_len (nine_of (y := ⟨k, st, ks, lo, hi⟩) (h _ (by simp [Trees.nodes]))) (ok_sums ks hks) (leasts_len ks hks), leasts_len r (fun y hy => h y (by simp [Trees.nodes, hy]))⟩
theorem least_len {x : Nd} (h : ∀ y ∈ x.nodes, aloneN y = true) (hh : x.sum.hollow = false) (hs : x.sum.short ≤ 2000) : (x.least.length : Int) = x.sum.short := by
  have hks : ∀ y ∈ x.kids.nodes, aloneN y = true := fun y hy => h y (by simp [Nd.nodes, hy])
  exact leastP_len (nine_of (h x (by simp [Nd.nodes]))) (ok_sums x.kids hks) (leasts_len x.kids hks) hh hs

/-! The document's least word of one of some trees. -/
theorem rpick_mem : ∀ (S : List SumS) (L : List (List Nat)), LensP S L → ∀ w ∈ rpick S L, ∃ s ∈ S, s.hollow = false ∧ LenP s w ∧ ∀ m, s.short = m → w ∈ pick m S L
  | [], L, _, w, h => by simp [rpick] at h
  | s :: S, [], h, _, _ => h.elim
  | s :: S, v :: L, ⟨h1, h3⟩, w, h => by
    rw [rpick] at h
    have hrec : w ∈ rpick S L → ∃ t ∈ s :: S, t.hollow = false ∧ LenP t w ∧ ∀ m, t.short = m → w ∈ pick m (s :: S) (v :: L) := fun hw => by
      obtain ⟨t, ht, a, b, c⟩ := rpick_mem S L h3 w hw
      refine ⟨t, by simp [ht], a, b, fun m hm => ?_⟩
      rw [pick]
      split
      · exact List.mem_cons_of_mem _ (c m hm)
      · exact c m hm
    by_cases hs : s.hollow = true
    · rw [if_pos hs] at h; exact hrec h
    · rw [if_neg hs] at h
      rcases List.mem_cons.1 h with rfl | h
      · exact ⟨s, by simp, by simpa using hs, h1, fun m hm => by rw [pick, if_pos hm]; simp⟩
      · exact hrec h
theorem pick_rpick {m : Int} (hm : 0 ≤ m) : ∀ (S : List SumS) (L : List (List Nat)), (∀ s ∈ S, SumOk s) → ∀ w ∈ pick m S L, w ∈ rpick S L
  | [], L, _, w, h => by simp [pick] at h
  | s :: S, [], _, w, h => by simp [pick] at h
  | s :: S, v :: L, hS, w, h => by
    have hr := pick_rpick hm S L (fun t ht => hS t (by simp [ht])) w
    rw [pick] at h
    rw [rpick]
    by_cases hs : s.short = m
    · rw [if_pos hs] at h
      rw [if_neg (by rw [nothing_no (hS s (by simp)) hm hs]; decide)]
      rcases List.mem_cons.1 h with rfl | h
      · simp
      · exact List.mem_cons_of_mem _ (hr h)
    · rw [if_neg hs] at h
      split
      · exact hr h
      · exact List.mem_cons_of_mem _ (hr h)
theorem alt_same {S : List SumS} {L : List (List Nat)} (hL : LensP S L) (hS : ∀ s ∈ S, SumOk s) (h : (S.foldl eitherF nothingF).hollow = false) (hs : ∀ s ∈ S, s.short ≤ 2000) : minW (rpick S L) = minW (pick (S.foldl eitherF nothingF).short S L) := by
  obtain ⟨h0, ⟨t, ht, hth, h1⟩, h3⟩ := alt_short hS h
  have h4 : (S.foldl eitherF nothingF).short ≤ 2000 := by rw [← h1]; exact hs t ht
  have hp := min_is (pick_some S L hL ⟨t, ht, h1⟩)
  have hpl := pick_len h0 h4 S L hL hS _ hp.mem
  have hmem := pick_rpick h0 S L hS _ hp.mem
  refine min_unique (min_is (fun e => by rw [e] at hmem; cases hmem)) ⟨hmem, fun w hw => ?_⟩
  obtain ⟨s, hss, a, b, c⟩ := rpick_mem S L hL w hw
  by_cases he : s.short = (S.foldl eitherF nothingF).short
  · exact hp.le w (c _ he)
  · have h5 := h3 s hss a
    have h6 := b a (hs s hss)
    unfold lessW
    rw [decide_eq_false (by omega), Bool.false_or, Bool.and_eq_false_iff]
    exact .inl (by rw [beq_eq_false_iff_ne]; omega)
end Go.Proofs.YtfekpkelmliejaaGreatDoor
