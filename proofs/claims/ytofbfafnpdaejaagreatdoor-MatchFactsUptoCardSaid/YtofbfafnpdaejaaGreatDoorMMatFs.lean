/- Texts of the claim. -/
import Derived.Test.YtofbfafnpdaejaaGreatDoorMMatJ
import Derived.Test.YtofbfafnpdaejaaGreatDoorMZ05
import Derived.Test.YtofbfafnpdaejaaGreatDoorMZ03
namespace Go.Proofs.YtofbfafnpdaejaaGreatDoor
set_option linter.unusedSimpArgs false
set_option linter.unusedVariables false
set_option maxRecDepth 100000
set_option maxHeartbeats 8000000
abbrev LangW := List Nat → Prop
def AtB (w : List Nat) : Prop := ∀ c ∈ w, c < 256
theorem AtB.app {u v : List Nat} (h : AtB (u ++ v)) : AtB u ∧ AtB v := ⟨fun c hc => h c (by simp [hc]), fun c hc => h c (by simp [hc])⟩
def twoL (A B : LangW) : LangW := fun w => ∃ u v, w = u ++ v ∧ A u ∧ B v
def nilL : LangW := fun w => w = []
def noL : LangW := fun _ => False
def catL : List LangW → LangW
 | [] => nilL
 | L :: l => twoL L (catL l)
def itL (L : LangW) : Nat → LangW
 | 0 => nilL
 | k + 1 => twoL L (itL L k)
def slW (w : List Nat) (i j : Nat) : List Nat := (w.drop i).take (j - i)
theorem slW_len {w : List Nat} {i j : Nat} (hj : j ≤ w.length) : (slW w i j).length = j - i := by
 unfold slW
 rw [List.length_take, List.length_drop]
 omega
theorem slW_cut {w : List Nat} {i k j : Nat} (h1 : i ≤ k) (h2 : k ≤ j) : slW w i j = slW w i k ++ slW w k j := by
 unfold slW
 have : w.drop k = (w.drop i).drop (k - i) := by rw [List.drop_drop, Nat.add_sub_cancel' h1]
 rw [this, show j - i = (k - i) + (j - k) by omega, List.take_add]
theorem slW_join {w u v : List Nat} {i j : Nat} (hij : i ≤ j) (hj : j ≤ w.length) (h : slW w i j = u ++ v) : i + u.length ≤ j ∧ slW w i (i + u.length) = u ∧ slW w (i + u.length) j = v := by
 have hl := congrArg List.length h
 rw [slW_len hj, List.length_append] at hl
 have h1 : i + u.length ≤ j := by omega
 have h2 := slW_cut (w := w) (Nat.le_add_right i u.length) h1
 rw [h2] at h
 have h3 := List.append_inj h (by rw [slW_len (by omega)]; omega)
 exact ⟨h1, h3.1, h3.2⟩
structure IsL (w : List Nat) (R : RelW) (L : LangW) : Prop where
 up : ∀ i j, R i j → i ≤ j
 sl : ∀ i j, i ≤ j → j ≤ w.length → (R i j ↔ L (slW w i j))
section
variable {w : List Nat}
theorem isL_nd (x : Nd) : IsL w (x.rel w) (SaysW x) := ⟨fun i j h => rel_up x w h, fun i j hij hj => by
 unfold slW
 rw [says_take x (w.drop i) (by rw [List.length_drop]; omega), rel_drop, Nat.add_zero, Nat.add_sub_cancel' hij]⟩
theorem isL_no : IsL w noR noL := ⟨fun _ _ h => h.elim, fun _ _ _ _ => ⟨fun h => h.elim, fun h => h.elim⟩⟩
theorem isL_id : IsL w idR nilL := ⟨fun i j h => Nat.le_of_eq h, fun i j h hj => by
 show i = j ↔ slW w i j = []
 constructor
 ·rintro rfl
  unfold slW
  rw [Nat.sub_self]
  rfl
 ·intro h2
  have := congrArg List.length h2
  rw [slW_len hj] at this
  simp at this
  omega⟩
theorem IsL.two {R S : RelW} {A B : LangW} (h : IsL w R A) (g : IsL w S B) : IsL w (fun i j => ∃ k, R i k ∧ S k j) (twoL A B) := ⟨fun i j ⟨k, h1, h2⟩ => Nat.le_trans (h.up i k h1) (g.up k j h2), fun i j hij hj => by
 constructor
 ·rintro ⟨k, h1, h2⟩
  have a1 := h.up i k h1
  have a2 := g.up k j h2
  exact ⟨slW w i k, slW w k j, slW_cut a1 a2, (h.sl i k a1 (by omega)).1 h1, (g.sl k j a2 hj).1 h2⟩
 ·rintro ⟨u, v, e, h1, h2⟩
  obtain ⟨b1, b2, b3⟩ := slW_join hij hj e
  exact ⟨i + u.length, (h.sl i _ (by omega) (by omega)).2 (by rw [b2]; exact h1), (g.sl _ j b1 hj).2 (by rw [b3]; exact h2)⟩⟩
theorem isL_cat : ∀ F : List Nd, IsL w (catR (F.map fun z => z.rel w)) (catL (F.map SaysW))
 | [] => isL_id
 | z :: F => (isL_nd z).two (isL_cat F)
theorem IsL.it {R : RelW} {A : LangW} (h : IsL w R A) : ∀ k, IsL w (itR R k) (itL A k)
 | 0 => isL_id
 | k + 1 => h.two (h.it k)
end
theorem slW_all (w : List Nat) : slW w 0 w.length = w := by unfold slW; simp
def langK (k : Int) (s : Nat) (lo hi : Int) (Ls : List LangW) : LangW :=
 if k = 2 then nilL
 else if k = 3 then fun w => ∃ c, w = [c] ∧ s.testBit c = true
 else if k = 4 then catL Ls
 else if k = 5 then fun w => ∃ L ∈ Ls, L w
 else if k = 6 then fun w => ∃ n, itL (Ls.headD noL) n w
 else if k = 7 then fun w => ∃ n, itL (Ls.headD noL) (n + 1) w
 else if k = 8 then fun w => w = [] ∨ Ls.headD noL w
 else if k = 9 then fun w => ∃ n : Nat, lo ≤ (n : Int) ∧ (hi < 0 ∨ (n : Int) ≤ hi) ∧ itL (Ls.headD noL) n w
 else noL
theorem isL_head {w : List Nat} (F : Trees) : IsL w ((F.rels w).headD noR) ((F.list.map SaysW).headD noL) := by
 rw [F.rels_list w]
 cases F.list with
 | nil => exact isL_no
 | cons z l => exact isL_nd z
theorem IsL.all {w : List Nat} {R : RelW} {L : LangW} (h : IsL w R L) : R 0 w.length ↔ L w := by
 rw [h.sl 0 w.length (Nat.zero_le _) (Nat.le_refl _), slW_all]
theorem says_lang (x : Nd) (w : List Nat) : SaysW x w ↔ langK x.kind x.set x.lo x.hi (x.kids.list.map SaysW) w := by
 have hh := isL_head (w := w) x.kids
 unfold SaysW Nd.rel
 have key : ∀ (k : Int) (s : Nat) (lo hi : Int), saysK k s lo hi w (x.kids.rels w) 0 w.length ↔ langK k s lo hi (x.kids.list.map SaysW) w := by
  intro k s lo hi
  unfold saysK langK
  by_cases k2 : k = 2
  ·rw [if_pos k2, if_pos k2]
   show (0 = w.length) ↔ w = []
   rw [← List.length_eq_zero_iff]
   omega
  rw [if_neg k2, if_neg k2]
  by_cases k3 : k = 3
  ·rw [if_pos k3, if_pos k3]
   constructor
   ·rintro ⟨c, h1, h2, h3⟩
    obtain ⟨d, rfl⟩ := List.length_eq_one_iff.1 h3
    simp at h1
    subst h1
    exact ⟨d, rfl, h2⟩
   ·rintro ⟨c, rfl, h2⟩
    exact ⟨c, rfl, h2, rfl⟩
  rw [if_neg k3, if_neg k3]
  by_cases k4 : k = 4
  ·rw [if_pos k4, if_pos k4, x.kids.rels_list w]
   exact (isL_cat x.kids.list).all
  rw [if_neg k4, if_neg k4]
  by_cases k5 : k = 5
  ·rw [if_pos k5, if_pos k5, x.kids.rels_list w]
   constructor
   ·rintro ⟨R, hR, h⟩
    obtain ⟨z, hz, rfl⟩ := List.mem_map.1 hR
    exact ⟨SaysW z, List.mem_map.2 ⟨z, hz, rfl⟩, h⟩
   ·rintro ⟨L, hL, h⟩
    obtain ⟨z, hz, rfl⟩ := List.mem_map.1 hL
    exact ⟨z.rel w, List.mem_map.2 ⟨z, hz, rfl⟩, h⟩
  rw [if_neg k5, if_neg k5]
  by_cases k6 : k = 6
  ·rw [if_pos k6, if_pos k6]
   exact exists_congr fun k => (hh.it k).all
  rw [if_neg k6, if_neg k6]
  by_cases k7 : k = 7
  ·rw [if_pos k7, if_pos k7]
   constructor
   ·rintro ⟨m, h1, k, h2⟩
    exact ⟨k, (hh.it (k + 1)).all.1 ⟨m, h1, h2⟩⟩
   ·rintro ⟨k, h⟩
    obtain ⟨m, h1, h2⟩ := (hh.it (k + 1)).all.2 h
    exact ⟨m, h1, k, h2⟩
  rw [if_neg k7, if_neg k7]
  by_cases k8 : k = 8
  ·rw [if_pos k8, if_pos k8]
   show (0 = w.length ∨ _) ↔ _
   rw [hh.all, ← List.length_eq_zero_iff]
   exact or_congr (by omega) Iff.rfl
  rw [if_neg k8, if_neg k8]
  by_cases k9 : k = 9
  ·rw [if_pos k9, if_pos k9]
   exact exists_congr fun k => and_congr Iff.rfl (and_congr Iff.rfl (hh.it k).all)
  ·rw [if_neg k9, if_neg k9]
   exact Iff.rfl
 exact key x.kind x.set x.lo x.hi
structure Desc (s : SumS) (W : LangW) : Prop where
 ok : SumOk s
 yes : ∀ u, AtB u → W u → s.hollow = false ∧ s.short ≤ (u.length : Int) ∧ (s.long = endF ∨ min (u.length : Int) topI ≤ s.long)
 fst : ∀ c u, AtB (c :: u) → W (c :: u) → s.first c = true
 lst : ∀ c u, AtB (u ++ [c]) → W (u ++ [c]) → s.last c = true
structure Lea (s : SumS) (v : List Nat) (W : LangW) : Prop where
 at_ : AtB v
 all : s.hollow = false → s.short ≤ 2000 → W v ∧ (v.length : Int) = s.short ∧ ∀ u, AtB u → W u → lessW u v = false
theorem Desc.congr {s : SumS} {W V : LangW} (h : Desc s W) (e : ∀ w, W w ↔ V w) : Desc s V :=
 ⟨h.ok, fun u hu hv => h.yes u hu ((e u).2 hv), fun c u hu hv => h.fst c u hu ((e _).2 hv), fun c u hu hv => h.lst c u hu ((e _).2 hv)⟩
theorem Lea.congr {s : SumS} {v : List Nat} {W V : LangW} (h : Lea s v W) (e : ∀ w, W w ↔ V w) : Lea s v V :=
 ⟨h.at_, fun h1 h2 => by
  obtain ⟨a, b, c⟩ := h.all h1 h2
  exact ⟨(e v).1 a, b, fun u hu hv => c u hu ((e u).2 hv)⟩⟩
theorem desc_nil : Desc fnilF nilL := ⟨ok_nil, fun u _ hu => by
 have hu : u = [] := hu
 subst hu
 exact ⟨rfl, by decide, .inr (by decide)⟩, fun c u _ h => (by cases (show c :: u = [] from h)), fun c u _ h => (by
  have h : u ++ [c] = [] := h
  simp at h)⟩
theorem less_nil (u : List Nat) : lessW u [] = false := by
 unfold lessW
 cases u <;> simp [lexLt]
theorem atB_nil : AtB [] := fun c h => by cases h
theorem lea_nil : Lea fnilF [] nilL := ⟨atB_nil, fun _ _ => ⟨rfl, rfl, fun u _ _ => less_nil u⟩⟩
theorem desc_no : Desc nothingF noL := ⟨ok_nothing, fun _ _ h => h.elim, fun _ _ _ h => h.elim, fun _ _ _ h => h.elim⟩
theorem lea_no : Lea nothingF [] noL := ⟨atB_nil, fun h => by cases h⟩
theorem snoc_cut {u a b : List Nat} {c : Nat} (h : u ++ [c] = a ++ b) : (b = [] ∧ a = u ++ [c]) ∨ ∃ b', b = b' ++ [c] := by
 rcases List.eq_nil_or_concat b with rfl | ⟨b', d, rfl⟩
 ·exact .inl ⟨rfl, by simpa using h.symm⟩
 ·right
  exact ⟨b', by
   rw [List.concat_eq_append, ← List.append_assoc] at h
   rw [List.concat_eq_append, List.append_inj_right' h rfl]⟩
theorem Desc.nul {s : SumS} {W : LangW} (h : Desc s W) (h2 : W []) : s.null = true := by
 obtain ⟨a, b, _⟩ := h.yes [] atB_nil h2
 have := (h.ok.short a).1
 unfold SumS.null
 rw [a, decide_eq_true (by simp at b; omega)]
 rfl
theorem addF_short {a b : Int} (ha : 0 ≤ a ∧ a ≤ topI) (hb : 0 ≤ b ∧ b ≤ topI) : addF a b = min topI (a + b) := by
 unfold addF
 rw [if_neg]
 unfold topI endF at *
 omega
theorem desc_two {a b : SumS} {A B : LangW} (ha : Desc a A) (hb : Desc b B) : Desc (behindF a b) (twoL A B) := by
 refine ⟨ok_behind ha.ok hb.ok, ?_, ?_, ?_⟩
 ·rintro _ hw ⟨u, v, rfl, h1, h2⟩
  obtain ⟨a1, a2, a3⟩ := ha.yes u hw.app.1 h1
  obtain ⟨b1, b2, b3⟩ := hb.yes v hw.app.2 h2
  rw [behind_full a1 b1]
  refine ⟨rfl, ?_, ?_⟩
  ·show addF a.short b.short ≤ _
   rw [addF_short (ha.ok.short a1) (hb.ok.short b1), List.length_append]
   omega
  ·show addF a.long b.long = endF ∨ _ ≤ addF a.long b.long
   by_cases c : a.long = endF ∨ b.long = endF
   ·exact .inl (addF_end c)
   ·have l1 := ha.ok.long a1
    have l2 := hb.ok.long b1
    have s1 := ha.ok.short a1
    have s2 := hb.ok.short b1
    rw [addF_short (by unfold topI endF at *; omega) (by unfold topI endF at *; omega), List.length_append]
    right
    unfold topI endF at *
    omega
 ·rintro c w hw ⟨u, v, e, h1, h2⟩
  have hw2 := hw
  rw [e] at hw2
  obtain ⟨a1, _⟩ := ha.yes u hw2.app.1 h1
  obtain ⟨b1, _⟩ := hb.yes v hw2.app.2 h2
  rw [behind_full a1 b1]
  show (if a.null = true then orB a.first b.first else a.first) c = true
  cases u with
  | nil =>
   rw [if_pos (ha.nul h1)]
   have e : c :: w = v := e
   subst e
   unfold orB
   rw [hb.fst c w hw h2, Bool.or_true]
  | cons d u =>
   have e : c :: w = d :: (u ++ v) := e
   cases e
   have := ha.fst c u hw2.app.1 h1
   split
   ·unfold orB
    rw [this, Bool.true_or]
   ·exact this
 ·rintro c w hw ⟨u, v, e, h1, h2⟩
  have hw2 := hw
  rw [e] at hw2
  obtain ⟨a1, _⟩ := ha.yes u hw2.app.1 h1
  obtain ⟨b1, _⟩ := hb.yes v hw2.app.2 h2
  rw [behind_full a1 b1]
  show (if b.null = true then orB a.last b.last else b.last) c = true
  rcases snoc_cut e with ⟨rfl, rfl⟩ | ⟨b', rfl⟩
  ·rw [if_pos (hb.nul h2)]
   unfold orB
   rw [ha.lst c w hw h1, Bool.true_or]
  ·have := hb.lst c b' hw2.app.2 h2
   split
   ·unfold orB
    rw [this, Bool.or_true]
   ·exact this
theorem lex_app : ∀ (a b c d : List Nat), a.length = b.length → lexLt (a ++ c) (b ++ d) = (lexLt a b || (decide (a = b) && lexLt c d))
 | [], [], c, d, _ => by simp [lexLt]
 | [], b :: y, _, _, h => by simp at h
 | a :: x, [], _, _, h => by simp at h
 | a :: x, b :: y, c, d, h => by
  have := lex_app x y c d (by simpa using h)
  rw [List.cons_append, List.cons_append, lexLt, lexLt, this]
  by_cases e : a = b
  ·subst e
   by_cases e2 : x = y
   ·subst e2
    simp [lex_irrefl]
   ·simp [e2]
  ·have : ¬ (a :: x = b :: y) := fun h => e (List.cons.inj h).1
   rw [show (a == b) = false from beq_eq_false_iff_ne.2 e, decide_eq_false this]
   simp
theorem less_app {u1 u2 v1 v2 : List Nat} (h1 : lessW u1 v1 = false) (h2 : lessW u2 v2 = false) : lessW (u1 ++ u2) (v1 ++ v2) = false := by
 simp only [lessW, Bool.or_eq_false_iff, decide_eq_false_iff_not, Bool.and_eq_false_iff, beq_eq_false_iff_ne, List.length_append] at h1 h2 ⊢
 refine ⟨by omega, ?_⟩
 by_cases e1 : u1.length = v1.length
 ·by_cases e2 : u2.length = v2.length
  ·right
   rw [lex_app _ _ _ _ e1]
   have a1 : lexLt u1 v1 = false := h1.2.resolve_left (fun h => h e1)
   have a2 : lexLt u2 v2 = false := h2.2.resolve_left (fun h => h e2)
   rw [a1, a2]
   simp
  ·left; omega
 ·left; omega
theorem lea_two {a b : SumS} {va vb : List Nat} {A B : LangW} (ha : Desc a A) (hb : Desc b B) (la : Lea a va A) (lb : Lea b vb B) : Lea (behindF a b) (va ++ vb) (twoL A B) := by
 refine ⟨fun c hc => (List.mem_append.1 hc).elim (la.at_ c) (lb.at_ c), fun h hs => ?_⟩
 obtain ⟨a1, b1, e⟩ := behind_not h
 have s1 := ha.ok.short a1
 have s2 := hb.ok.short b1
 rw [e] at hs ⊢
 rw [addF_short s1 s2] at hs ⊢
 obtain ⟨p1, p2, p3⟩ := la.all a1 (by unfold topI at *; omega)
 obtain ⟨q1, q2, q3⟩ := lb.all b1 (by unfold topI at *; omega)
 refine ⟨⟨va, vb, rfl, p1, q1⟩, by rw [List.length_append]; unfold topI at *; omega, ?_⟩
 rintro _ hu ⟨u1, u2, rfl, h1, h2⟩
 exact less_app (p3 u1 hu.app.1 h1) (q3 u2 hu.app.2 h2)
theorem two_nil (A : LangW) (w : List Nat) : twoL A nilL w ↔ A w := ⟨fun ⟨u, v, e, h1, h2⟩ => by
 have h2 : v = [] := h2
 subst h2
 rw [e, List.append_nil]
 exact h1, fun h => ⟨w, [], by simp, h, rfl⟩⟩
theorem two_assoc (A B C : LangW) (w : List Nat) : twoL (twoL A B) C w ↔ twoL A (twoL B C) w := by
 constructor
 ·rintro ⟨u, v, e, ⟨u1, u2, rfl, h1, h2⟩, h3⟩
  exact ⟨u1, u2 ++ v, by rw [e, List.append_assoc], h1, u2, v, rfl, h2, h3⟩
 ·rintro ⟨u, v, e, h1, v1, v2, rfl, h2, h3⟩
  exact ⟨u ++ v1, v2, by rw [e, List.append_assoc], ⟨u, v1, rfl, h1, h2⟩, h3⟩
theorem nil_two (A : LangW) (w : List Nat) : twoL nilL A w ↔ A w := ⟨fun ⟨u, v, e, h1, h2⟩ => by
 have h1 : u = [] := h1
 subst h1
 rw [e]
 exact h2, fun h => ⟨[], w, rfl, rfl, h⟩⟩
theorem known_cats : ∀ (F : List Nd), (∀ z ∈ F, Desc z.sum (SaysW z) ∧ Lea z.sum z.least (SaysW z)) → ∀ (a : SumS) (va : List Nat) (A : LangW), Desc a A → Lea a va A →
  Desc ((F.map Nd.sum).foldl behindF a) (twoL A (catL (F.map SaysW))) ∧ Lea ((F.map Nd.sum).foldl behindF a) (va ++ (F.map Nd.least).flatten) (twoL A (catL (F.map SaysW)))
 | [], _, a, va, A, h1, h2 => by
  rw [show ([] : List Nd).map Nd.least = [] from rfl, List.flatten_nil, List.append_nil]
  exact ⟨h1.congr fun w => (two_nil A w).symm, h2.congr fun w => (two_nil A w).symm⟩
 | z :: F, h, a, va, A, h1, h2 => by
  obtain ⟨z1, z2⟩ := h z (by simp)
  obtain ⟨i1, i2⟩ := known_cats F (fun y hy => h y (by simp [hy])) (behindF a z.sum) (va ++ z.least) (twoL A (SaysW z)) (desc_two h1 z1) (lea_two h1 z1 h2 z2)
  simp only [List.map_cons, List.foldl_cons, List.flatten_cons]
  rw [← List.append_assoc]
  exact ⟨i1.congr fun w => two_assoc _ _ _ w, i2.congr fun w => two_assoc _ _ _ w⟩
theorem desc_or {a b : SumS} {A B : LangW} (ha : Desc a A) (hb : Desc b B) : Desc (eitherF a b) (fun w => A w ∨ B w) := by
 cases a1 : a.hollow with
 | true =>
  rw [either_left a1]
  refine ⟨hb.ok, ?_, ?_, ?_⟩
  ·rintro u hu (h | h)
   ·rw [(ha.yes u hu h).1] at a1; cases a1
   ·exact hb.yes u hu h
  ·rintro c u hu (h | h)
   ·rw [(ha.yes _ hu h).1] at a1; cases a1
   ·exact hb.fst c u hu h
  ·rintro c u hu (h | h)
   ·rw [(ha.yes _ hu h).1] at a1; cases a1
   ·exact hb.lst c u hu h
 | false =>
  cases b1 : b.hollow with
  | true =>
   rw [either_right a1 b1]
   refine ⟨ha.ok, ?_, ?_, ?_⟩
   ·rintro u hu (h | h)
    ·exact ha.yes u hu h
    ·rw [(hb.yes u hu h).1] at b1; cases b1
   ·rintro c u hu (h | h)
    ·exact ha.fst c u hu h
    ·rw [(hb.yes _ hu h).1] at b1; cases b1
   ·rintro c u hu (h | h)
    ·exact ha.lst c u hu h
    ·rw [(hb.yes _ hu h).1] at b1; cases b1
  | false =>
   have l1 := ha.ok.long a1
   have l2 := hb.ok.long b1
   refine ⟨ok_either ha.ok hb.ok, ?_, ?_, ?_⟩
   ·rw [either_full a1 b1]
    rintro u hu (h | h)
    ·obtain ⟨_, p2, p3⟩ := ha.yes u hu h
     refine ⟨rfl, ?_, ?_⟩
     ·show min a.short b.short ≤ _
      omega
     ·show max a.long b.long = endF ∨ _ ≤ max a.long b.long
      omega
    ·obtain ⟨_, p2, p3⟩ := hb.yes u hu h
     refine ⟨rfl, ?_, ?_⟩
     ·show min a.short b.short ≤ _
      omega
     ·show max a.long b.long = endF ∨ _ ≤ max a.long b.long
      omega
   ·rw [either_full a1 b1]
    show ∀ c u, _ → _ → orB a.first b.first c = true
    unfold orB
    rintro c u hu (h | h)
    ·rw [ha.fst c u hu h, Bool.true_or]
    ·rw [hb.fst c u hu h, Bool.or_true]
   ·rw [either_full a1 b1]
    show ∀ c u, _ → _ → orB a.last b.last c = true
    unfold orB
    rintro c u hu (h | h)
    ·rw [ha.lst c u hu h, Bool.true_or]
    ·rw [hb.lst c u hu h, Bool.or_true]
theorem desc_alts : ∀ (F : List Nd), (∀ z ∈ F, Desc z.sum (SaysW z)) → ∀ (a : SumS) (A : LangW), Desc a A → Desc ((F.map Nd.sum).foldl eitherF a) (fun w => A w ∨ ∃ L ∈ F.map SaysW, L w)
 | [], _, a, A, h1 => h1.congr fun w => by simp
 | z :: F, h, a, A, h1 => by
  rw [List.map_cons, List.foldl_cons]
  refine (desc_alts F (fun y hy => h y (by simp [hy])) _ _ (desc_or h1 (h z (by simp)))).congr fun w => ?_
  simp [or_assoc]
theorem pick_mem (m : Int) : ∀ (F : List Nd) (v : List Nat), v ∈ pick m (F.map Nd.sum) (F.map Nd.least) ↔ ∃ z ∈ F, z.sum.short = m ∧ v = z.least
 | [], v => by simp [pick]
 | z :: F, v => by
  rw [List.map_cons, List.map_cons, pick]
  have ih := pick_mem m F v
  by_cases h : z.sum.short = m
  ·rw [if_pos h, List.mem_cons, ih]
   simp [h]
  ·rw [if_neg h, ih]
   simp [h]
theorem less_not_trans {u v w : List Nat} (h1 : lessW u v = false) (h2 : lessW v w = false) : lessW u w = false := by
 cases hb : lessW u w with
 | false => rfl
 | true =>
  cases hc : lessW w v with
  | true => rw [less_trans hb hc] at h1; cases h1
  | false => rw [less_total h2 hc, hb] at h1; cases h1
theorem lea_alts (F : List Nd) (h : ∀ z ∈ F, Desc z.sum (SaysW z) ∧ Lea z.sum z.least (SaysW z)) :
  Lea ((F.map Nd.sum).foldl eitherF nothingF) (minW (pick ((F.map Nd.sum).foldl eitherF nothingF).short (F.map Nd.sum) (F.map Nd.least))) (fun w => ∃ L ∈ F.map SaysW, L w) := by
 have hok : ∀ s ∈ F.map Nd.sum, SumOk s := fun s hs => by
  obtain ⟨z, hz, rfl⟩ := List.mem_map.1 hs
  exact (h z hz).1.ok
 refine ⟨?_, fun hh hs => ?_⟩
 ·refine minW_bytes fun w hw => ?_
  obtain ⟨z, hz, _, rfl⟩ := (pick_mem _ F w).1 hw
  exact (h z hz).2.at_
 obtain ⟨m0, ⟨s, hs1, hs2, hs3⟩, hmin⟩ := alt_short hok hh
 generalize ((F.map Nd.sum).foldl eitherF nothingF).short = m at *
 obtain ⟨z0, hz0, rfl⟩ := List.mem_map.1 hs1
 have hne : pick m (F.map Nd.sum) (F.map Nd.least) ≠ [] := List.ne_nil_of_mem ((pick_mem m F _).2 ⟨z0, hz0, hs3, rfl⟩)
 have hm := min_is hne
 generalize minW (pick m (F.map Nd.sum) (F.map Nd.least)) = v at *
 obtain ⟨z, hz, hzm, rfl⟩ := (pick_mem m F v).1 hm.mem
 obtain ⟨p1, p2, p3⟩ := (h z hz).2.all (nothing_no (h z hz).1.ok m0 hzm) (by omega)
 refine ⟨⟨SaysW z, List.mem_map.2 ⟨z, hz, rfl⟩, p1⟩, by omega, ?_⟩
 rintro u hu ⟨L, hL, hw⟩
 obtain ⟨y, hy, rfl⟩ := List.mem_map.1 hL
 obtain ⟨q1, q2, q3⟩ := (h y hy).1.yes u hu hw
 have := hmin y.sum (List.mem_map.2 ⟨y, hy, rfl⟩) q1
 by_cases e : y.sum.short = m
 ·obtain ⟨r1, r2, r3⟩ := (h y hy).2.all q1 (by omega)
  exact less_not_trans (r3 u hu hw) (hm.le _ ((pick_mem m F _).2 ⟨y, hy, e, rfl⟩))
 ·unfold lessW
  rw [decide_eq_false (by omega), beq_eq_false_iff_ne.2 (by omega)]
  rfl
theorem it_lo {a : SumS} {A : LangW} (ha : Desc a A) : ∀ (n : Nat) (u : List Nat), AtB u → itL A n u → (a.hollow = false ∨ n = 0) ∧ (n : Int) * a.short ≤ (u.length : Int)
 | 0, u, _, h => ⟨.inr rfl, by rw [Int.natCast_zero, Int.zero_mul]; omega⟩
 | n + 1, _, hw, ⟨u, v, e, h1, h2⟩ => by
  subst e
  obtain ⟨p1, p2, _⟩ := ha.yes u hw.app.1 h1
  have := (it_lo ha n v hw.app.2 h2).2
  refine ⟨.inl p1, ?_⟩
  rw [Int.natCast_succ, Int.add_mul, Int.one_mul, List.length_append]
  omega
theorem it_hi {L : Int} {A : LangW} (ha : ∀ u, AtB u → A u → (u.length : Int) ≤ L) : ∀ (n : Nat) (u : List Nat), AtB u → itL A n u → (u.length : Int) ≤ (n : Int) * L
 | 0, u, _, h => by
  have h : u = [] := h
  subst h
  simp
 | n + 1, _, hw, ⟨u, v, e, h1, h2⟩ => by
  subst e
  have p := ha u hw.app.1 h1
  have := it_hi ha n v hw.app.2 h2
  rw [Int.natCast_succ, Int.add_mul, Int.one_mul, List.length_append]
  omega
theorem it_fst {a : SumS} {A : LangW} (ha : Desc a A) : ∀ (n c : Nat) (u : List Nat), AtB (c :: u) → itL A n (c :: u) → a.first c = true
 | 0, c, u, _, h => by cases (show c :: u = [] from h)
 | n + 1, c, w, hw, ⟨u, v, e, h1, h2⟩ => by
  cases u with
  | nil =>
   have e : c :: w = v := e
   subst e
   exact it_fst ha n c w hw h2
  | cons d u =>
   have hw2 := hw
   rw [e] at hw2
   have e : c :: w = d :: (u ++ v) := e
   cases e
   exact ha.fst c u hw2.app.1 h1
theorem it_lst {a : SumS} {A : LangW} (ha : Desc a A) : ∀ (n c : Nat) (u : List Nat), AtB (u ++ [c]) → itL A n (u ++ [c]) → a.last c = true
 | 0, c, u, _, h => by
  have h : u ++ [c] = [] := h
  simp at h
 | n + 1, c, w, hw, ⟨u, v, e, h1, h2⟩ => by
  have hw2 := hw
  rw [e] at hw2
  rcases snoc_cut e with ⟨rfl, rfl⟩ | ⟨b', rfl⟩
  ·exact ha.lst c w hw h1
  ·exact it_lst ha n c b' hw2.app.2 h2
def repL (A : LangW) (lo hi : Int) : LangW := fun w => ∃ n : Nat, lo ≤ (n : Int) ∧ (hi = endF ∨ (n : Int) ≤ hi) ∧ itL A n w
theorem desc_rep {a : SumS} {A : LangW} (ha : Desc a A) {lo hi : Int} (h0 : 0 ≤ lo) (h1 : lo ≤ hi) (h2 : hi ≤ endF) (h3 : lo ≤ topI) : Desc (repeatedF a lo hi) (repL A lo hi) := by
 have hok := ok_repeated ha.ok h0 h1 h2 h3
 by_cases z : hi = 0 ∨ (a.hollow = true ∧ lo = 0)
 ·have e : repeatedF a lo hi = fnilF := by unfold repeatedF; rw [if_pos z]
  have hn : ∀ u, AtB u → repL A lo hi u → u = [] := by
   rintro u hu ⟨n, h4, h5, h6⟩
   have : n = 0 := by
    rcases z with z | ⟨z, _⟩
    ·rcases h5 with h5 | h5
     ·rw [h5] at z; cases z
     ·omega
    ·rcases (it_lo ha n u hu h6).1 with h | h
     ·rw [h] at z; cases z
     ·exact h
   subst this
   exact h6
  rw [e]
  refine ⟨ok_nil, fun u hu hw => ?_, fun c u hu hw => ?_, fun c u hu hw => ?_⟩
  ·rw [hn u hu hw]
   exact ⟨rfl, by decide, .inr (by decide)⟩
  ·cases hn _ hu hw
  ·have := hn _ hu hw
   simp at this
 by_cases hh : a.hollow = true
 ·have e : repeatedF a lo hi = nothingF := by unfold repeatedF; rw [if_neg z, if_pos hh]
  have hn : ∀ u, AtB u → ¬ repL A lo hi u := by
   rintro u hu ⟨n, h4, h5, h6⟩
   rcases (it_lo ha n u hu h6).1 with h | h
   ·rw [h] at hh; cases hh
   ·exact z (.inr ⟨hh, by omega⟩)
  rw [e]
  exact ⟨ok_nothing, fun u hu hw => (hn u hu hw).elim, fun c u hu hw => (hn _ hu hw).elim, fun c u hu hw => (hn _ hu hw).elim⟩
 ·have hh : a.hollow = false := by simpa using hh
  have e : repeatedF a lo hi = ⟨a.hollow, timF lo a.short, timF hi a.long, a.first, a.last⟩ := by unfold repeatedF; rw [if_neg z, if_neg (by simp [hh])]
  rw [e] at hok ⊢
  have s1 := ha.ok.short hh
  have l1 := ha.ok.long hh
  refine ⟨hok, ?_, fun c u hu ⟨n, _, _, h⟩ => it_fst ha n c u hu h, fun c u hu ⟨n, _, _, h⟩ => it_lst ha n c u hu h⟩
  rintro u hu ⟨n, h4, h5, h6⟩
  refine ⟨hh, ?_, ?_⟩
  ·show timF lo a.short ≤ _
   have p := (it_lo ha n u hu h6).2
   have q : lo * a.short ≤ (n : Int) * a.short := Int.mul_le_mul_of_nonneg_right h4 s1.1
   unfold timF
   split
   ·omega
   rw [if_neg (by unfold topI endF at *; omega)]
   omega
  ·show timF hi a.long = endF ∨ _ ≤ timF hi a.long
   have hz : hi ≠ 0 := fun h => z (.inl h)
   unfold timF
   by_cases hl : a.long = 0
   ·right
    rw [if_pos (.inr hl)]
    have := it_hi (L := 0) (fun v hv hA => by
     have := (ha.yes v hv hA).2.2
     rw [hl] at this
     unfold topI endF at this
     omega) n u hu h6
    rw [Int.mul_zero] at this
    unfold topI
    omega
   rw [if_neg (by omega)]
   split
   ·exact .inl rfl
   ·rename_i hne
    right
    have h5 : (n : Int) ≤ hi := h5.resolve_left (fun h => hne (.inr h))
    by_cases ht : a.long = topI
    ·have : 1 * a.long ≤ hi * a.long := Int.mul_le_mul_of_nonneg_right (by omega) (by omega)
     rw [ht] at this ⊢
     omega
    ·have p := it_hi (L := a.long) (fun v hv hA => by
      have := (ha.yes v hv hA).2.2
      unfold topI endF at *
      omega) n u hu h6
     have q : (n : Int) * a.long ≤ hi * a.long := Int.mul_le_mul_of_nonneg_right h5 (by omega)
     omega
theorem it_least {A : LangW} {va : List Nat} (hA : A va) : ∀ n, itL A n (List.replicate n va).flatten
 | 0 => rfl
 | n + 1 => ⟨va, _, by rw [List.replicate_succ, List.flatten_cons], hA, it_least hA n⟩
theorem it_min {A : LangW} {va : List Nat} (hm : ∀ u, AtB u → A u → lessW u va = false) : ∀ n u, AtB u → itL A n u → lessW u (List.replicate n va).flatten = false
 | 0, u, _, _ => less_nil u
 | n + 1, _, hw, ⟨u, v, e, h1, h2⟩ => by
  subst e
  rw [List.replicate_succ, List.flatten_cons]
  exact less_app (hm u hw.app.1 h1) (it_min hm n v hw.app.2 h2)
theorem lea_rep {a : SumS} {va : List Nat} {A : LangW} (ha : Desc a A) (la : Lea a va A) {lo hi : Int} (h0 : 0 ≤ lo) (h1 : lo ≤ hi) (h2 : hi ≤ endF) (h3 : lo ≤ topI) : Lea (repeatedF a lo hi) (List.replicate lo.toNat va).flatten (repL A lo hi) := by
 refine ⟨fun c hc => ?_, fun hh hs => ?_⟩
 ·obtain ⟨l, hl, hcl⟩ := List.mem_flatten.1 hc
  rw [List.eq_of_mem_replicate hl] at hcl
  exact la.at_ c hcl
 obtain ⟨m, rfl⟩ := Int.eq_ofNat_of_zero_le h0
 rw [Int.toNat_natCast]
 cases m with
 | zero =>
  have hz : (repeatedF a 0 hi).short = 0 := by
   unfold repeatedF
   split
   ·rfl
   ·rename_i z
    rw [if_neg (fun h => z (.inr ⟨h, rfl⟩))]
    show timF 0 a.short = 0
    unfold timF
    rw [if_pos (.inl rfl)]
  exact ⟨⟨0, by omega, by omega, rfl⟩, hz.symm, fun u _ _ => less_nil u⟩
 | succ m =>
  obtain ⟨a1, a2, a3⟩ := repeated_small ha.ok (by omega) h1 hh hs h3
  obtain ⟨p1, p2, p3⟩ := la.all a1 a3
  have hlen : ((List.replicate (m + 1) va).flatten.length : Int) = ((m + 1 : Nat) : Int) * a.short := by
   rw [flat_rep, Int.natCast_mul, p2]
  refine ⟨⟨m + 1, by omega, .inr h1, it_least p1 (m + 1)⟩, by rw [hlen, a2], ?_⟩
  rintro u hu ⟨n, h4, h5, h6⟩
  by_cases e : n = m + 1
  ·subst e
   exact it_min p3 _ u hu h6
  ·have q := (it_lo ha n u hu h6).2
   have s1 := ha.ok.short a1
   by_cases hz : a.short = 0
   ·have : va = [] := List.length_eq_zero_iff.1 (by omega)
    subst this
    rw [show (List.replicate (m + 1) ([] : List Nat)).flatten = [] from List.length_eq_zero_iff.1 (by rw [flat_rep]; rfl)]
    exact less_nil u
   ·have : ((m + 1 : Nat) + 1 : Int) * a.short ≤ (n : Int) * a.short := Int.mul_le_mul_of_nonneg_right (by omega) s1.1
    rw [Int.add_mul, Int.one_mul] at this
    unfold lessW
    rw [decide_eq_false (by omega), beq_eq_false_iff_ne.2 (by omega)]
    rfl
theorem noset_iff {s : Nat} : isNoSet s = true → ∀ c, c < 256 → s.testBit c = false := fun h c hc => by
 unfold isNoSet at h
 simp only [Bool.and_eq_true, decide_eq_true_eq] at h
 obtain ⟨h0, h1, h2, h3⟩ := h
 have hw : ∀ i, i < 4 → word s.testBit i = 0 := fun i hi => by
  rcases (by omega : i = 0 ∨ i = 1 ∨ i = 2 ∨ i = 3) with rfl | rfl | rfl | rfl <;> assumption
 have := word_zeroQ s.testBit (c / 64) (hw (c / 64) (by omega)) (c % 64) (Nat.mod_lt _ (by decide))
 rw [show 64 * (c / 64) + c % 64 = c by omega] at this
 exact this
theorem noset_no {s : Nat} (h : isNoSet s = false) : ∃ c, c < 256 ∧ s.testBit c = true := by
 refine Classical.byContradiction fun hn => ?_
 have hz : ∀ c, c < 256 → s.testBit c = false := fun c hc => by
  cases hb : s.testBit c with
  | false => rfl
  | true => exact (hn ⟨c, hc, hb⟩).elim
 have hw : ∀ i, i < 4 → word s.testBit i = 0 := fun i hi => Nat.eq_of_testBit_eq fun j => by
  rw [testBit_word, Nat.zero_testBit]
  by_cases hj : j < 64
  ·rw [hz _ (by omega), Bool.and_false]
  ·rw [decide_eq_false hj, Bool.false_and]
 unfold isNoSet at h
 rw [hw 0 (by decide), hw 1 (by decide), hw 2 (by decide), hw 3 (by decide)] at h
 cases h
theorem elems_head {p : Nat → Bool} {m : Nat} (h : ∃ c, c < m ∧ p c = true) : ∃ c l, elems p m = c :: l ∧ c < m ∧ p c = true ∧ ∀ d, d < m → p d = true → c ≤ d := by
 obtain ⟨e, he, hp⟩ := h
 have hmem : ∀ d, d ∈ elems p m ↔ d < m ∧ p d = true := fun d => by unfold elems; simp
 have hpw : (elems p m).Pairwise (· < ·) := List.Pairwise.filter _ List.pairwise_lt_range
 cases hl : elems p m with
 | nil =>
  have := (hmem e).2 ⟨he, hp⟩
  rw [hl] at this
  cases this
 | cons c l =>
  rw [hl] at hmem hpw
  have hc := (hmem c).1 (by simp)
  refine ⟨c, l, rfl, hc.1, hc.2, fun d hd hpd => ?_⟩
  rcases List.mem_cons.1 ((hmem d).2 ⟨hd, hpd⟩) with rfl | h
  ·exact Nat.le_refl _
  ·exact Nat.le_of_lt ((List.pairwise_cons.1 hpw).1 d h)
theorem known_head (F : Trees) (h : ∀ z ∈ F.list, Desc z.sum (SaysW z) ∧ Lea z.sum z.least (SaysW z)) : Desc (F.sums.headD nothingF) ((F.list.map SaysW).headD noL) ∧ Lea (F.sums.headD nothingF) (F.leasts.headD []) ((F.list.map SaysW).headD noL) := by
 rw [F.sums_list, F.leasts_list]
 cases hl : F.list with
 | nil => exact ⟨desc_no, lea_no⟩
 | cons z l => exact h z (by rw [hl]; simp)
theorem known_set (s : Nat) : Desc (if isNoSet s = true then nothingF else ⟨false, 1, 1, s.testBit, s.testBit⟩) (fun w => ∃ c, w = [c] ∧ s.testBit c = true) ∧ Lea (if isNoSet s = true then nothingF else ⟨false, 1, 1, s.testBit, s.testBit⟩) [(elems s.testBit 256).headD 255] (fun w => ∃ c, w = [c] ∧ s.testBit c = true) := by
 cases hn : isNoSet s with
 | true =>
  have hno : ∀ u, AtB u → ¬ ∃ c, u = [c] ∧ s.testBit c = true := by
   rintro u hu ⟨c, rfl, h⟩
   rw [noset_iff hn c (hu c (by simp))] at h
   cases h
  rw [if_pos rfl]
  refine ⟨⟨ok_nothing, fun u hu h => (hno u hu h).elim, fun c u hu h => (hno _ hu h).elim, fun c u hu h => (hno _ hu h).elim⟩, fun c hc => ?_, fun h => by cases h⟩
  have hc : c = (elems s.testBit 256).headD 255 := by simpa using hc
  rw [hc]
  cases hl : elems s.testBit 256 with
  | nil => decide
  | cons d l => exact elems_lt (p := s.testBit) (m := 256) (by rw [hl]; simp)
 | false =>
  obtain ⟨c, l, hl, h1, h2, h3⟩ := elems_head (noset_no hn)
  rw [if_neg (by decide), hl]
  refine ⟨⟨⟨fun _ => by show (0 : Int) ≤ 1 ∧ (1 : Int) ≤ topI; decide, fun _ => by show (1 : Int) ≤ 1 ∧ (1 : Int) ≤ endF; decide, fun h => by cases h⟩, ?_, ?_, ?_⟩, fun d hd => ?_, fun _ _ => ⟨⟨c, rfl, h2⟩, rfl, ?_⟩⟩
  ·rintro u hu ⟨d, rfl, h⟩
   exact ⟨rfl, by show (1 : Int) ≤ _; simp, .inr (by show min (1 : Int) topI ≤ 1; decide)⟩
  ·rintro d u hu ⟨e, he, h⟩
   cases he
   exact h
  ·rintro d u hu ⟨e, he, h⟩
   have : u = [] := by
    have := congrArg List.length he
    simp at this
    exact this
   subst this
   cases he
   exact h
  ·have : d = c := by simpa using hd
   omega
  ·rintro u hu ⟨d, rfl, h⟩
   have := h3 d (hu d (by simp)) h
   show lessW [d] [c] = false
   simp [lessW, lexLt]
   omega
theorem star_rep (A : LangW) (w : List Nat) : repL A 0 endF w ↔ ∃ n, itL A n w := ⟨fun ⟨n, _, _, h⟩ => ⟨n, h⟩, fun ⟨n, h⟩ => ⟨n, by omega, .inl rfl, h⟩⟩
theorem plus_rep (A : LangW) (w : List Nat) : repL A 1 endF w ↔ ∃ n, itL A (n + 1) w := ⟨fun ⟨n, h1, _, h⟩ => by
 cases n with
 | zero => omega
 | succ n => exact ⟨n, h⟩, fun ⟨n, h⟩ => ⟨n + 1, by omega, .inl rfl, h⟩⟩
theorem opt_rep (A : LangW) (w : List Nat) : repL A 0 1 w ↔ w = [] ∨ A w := ⟨fun ⟨n, h1, h2, h⟩ => by
 have h2 : (n : Int) ≤ 1 := h2.resolve_left (by decide)
 cases n with
 | zero => exact .inl h
 | succ n =>
  obtain rfl : n = 0 := by omega
  exact .inr ((two_nil A w).1 h), fun h => by
 rcases h with h | h
 ·exact ⟨0, by omega, .inr (by omega), h⟩
 ·exact ⟨1, by omega, .inr (by omega), (two_nil A w).2 h⟩⟩
theorem known_one {k : Int} {s : Nat} {lo hi : Int} {F : Trees} (h9 : k = 9 → 0 ≤ lo ∧ lo ≤ 1000 ∧ (hi = -1 ∨ lo ≤ hi) ∧ hi ≤ 1000) (h : ∀ z ∈ F.list, Desc z.sum (SaysW z) ∧ Lea z.sum z.least (SaysW z)) :
  Desc (ofF k s lo hi F.sums) (langK k s lo hi (F.list.map SaysW)) ∧ Lea (ofF k s lo hi F.sums) (leastP k s lo F.sums F.leasts) (langK k s lo hi (F.list.map SaysW)) := by
 obtain ⟨hd, hl⟩ := known_head F h
 unfold ofF leastP langK
 by_cases k2 : k = 2
 ·subst k2
  exact ⟨desc_nil, lea_nil⟩
 rw [if_neg k2, if_neg k2]
 by_cases k3 : k = 3
 ·rw [if_pos k3, if_pos k3, if_pos k3]
  exact known_set s
 rw [if_neg k3, if_neg k3, if_neg k3]
 by_cases k4 : k = 4
 ·rw [if_pos k4, if_pos k4, if_pos k4, F.sums_list, F.leasts_list]
  obtain ⟨a, b⟩ := known_cats F.list h fnilF [] nilL desc_nil lea_nil
  rw [List.nil_append] at b
  exact ⟨a.congr fun w => nil_two _ w, b.congr fun w => nil_two _ w⟩
 rw [if_neg k4, if_neg k4, if_neg k4]
 by_cases k5 : k = 5
 ·rw [if_pos k5, if_pos k5, if_pos k5, F.sums_list, F.leasts_list]
  refine ⟨(desc_alts F.list (fun z hz => (h z hz).1) nothingF noL desc_no).congr fun w => ?_, lea_alts F.list h⟩
  exact ⟨fun h => h.resolve_left (fun h => h), fun h => .inr h⟩
 rw [if_neg k5, if_neg k5, if_neg k5]
 by_cases k6 : k = 6
 ·rw [if_pos k6, if_pos k6, if_neg (by omega), if_neg (by omega)]
  exact ⟨(desc_rep hd (by decide) (by decide) (by decide) (by decide)).congr (star_rep _), (lea_rep hd hl (by decide) (by decide) (by decide) (by decide)).congr (star_rep _)⟩
 rw [if_neg k6, if_neg k6]
 by_cases k7 : k = 7
 ·rw [if_pos k7, if_pos k7, if_pos k7]
  refine ⟨(desc_rep hd (by decide) (by decide) (by decide) (by decide)).congr (plus_rep _), ?_⟩
  have := (lea_rep hd hl (lo := 1) (hi := endF) (by decide) (by decide) (by decide) (by decide)).congr (plus_rep _)
  rw [show (List.replicate (1 : Int).toNat (F.leasts.headD [])).flatten = F.leasts.headD [] by simp] at this
  exact this
 rw [if_neg k7, if_neg k7, if_neg k7]
 by_cases k8 : k = 8
 ·rw [if_pos k8, if_pos k8, if_neg (by omega)]
  exact ⟨(desc_rep hd (by decide) (by decide) (by decide) (by decide)).congr (opt_rep _), (lea_rep hd hl (by decide) (by decide) (by decide) (by decide)).congr (opt_rep _)⟩
 rw [if_neg k8, if_neg k8]
 by_cases k9 : k = 9
 ·rw [if_pos k9, if_pos k9, if_pos k9]
  obtain ⟨a, b, c, d⟩ := h9 k9
  obtain ⟨e, f, g⟩ := hiF_ok a b c d
  have he : ∀ w, repL ((F.list.map SaysW).headD noL) lo (hiF hi) w ↔ ∃ n : Nat, lo ≤ (n : Int) ∧ (hi < 0 ∨ (n : Int) ≤ hi) ∧ itL ((F.list.map SaysW).headD noL) n w := fun w => by
   refine exists_congr fun n => and_congr Iff.rfl (and_congr ?_ Iff.rfl)
   unfold hiF
   split
   ·exact ⟨fun _ => .inl (by assumption), fun _ => .inl rfl⟩
   ·unfold endF
    omega
  exact ⟨(desc_rep hd a e f g).congr he, (lea_rep hd hl a e f g).congr he⟩
 ·rw [if_neg k9, if_neg k9, if_neg k9]
  exact ⟨desc_no, lea_no⟩
theorem known_all : ∀ (F : Trees), (∀ y ∈ F.nodes, aloneN y = true) → ∀ z ∈ F.list, Desc z.sum (SaysW z) ∧ Lea z.sum z.least (SaysW z)
 | .nil, _, z, hz => by cases hz
 | .cons k s ks lo hi r, h, z, hz => by
  rw [Trees.list] at hz
  rcases List.mem_cons.1 hz with rfl | hz
  ·have := known_one (k := k) (s := s) (lo := lo) (hi := hi) (nine_of (y := ⟨k, s, ks, lo, hi⟩) (h _ (by simp [Trees.nodes]))) (known_all ks (fun y hy => h y (by simp [Trees.nodes, hy])))
   exact ⟨this.1.congr fun w => (says_lang ⟨k, s, ks, lo, hi⟩ w).symm, this.2.congr fun w => (says_lang ⟨k, s, ks, lo, hi⟩ w).symm⟩
  ·exact known_all r (fun y hy => h y (by simp [Trees.nodes, hy])) z hz
theorem known_tree {x : Nd} (h : ∀ y ∈ x.nodes, aloneN y = true) : Desc x.sum (SaysW x) ∧ Lea x.sum x.least (SaysW x) := by
 have := known_one (k := x.kind) (s := x.set) (lo := x.lo) (hi := x.hi) (nine_of (h x (by simp [Nd.nodes]))) (known_all x.kids (fun y hy => h y (by simp [Nd.nodes, hy])))
 exact ⟨this.1.congr fun w => (says_lang x w).symm, this.2.congr fun w => (says_lang x w).symm⟩
end Go.Proofs.YtofbfafnpdaejaaGreatDoor
