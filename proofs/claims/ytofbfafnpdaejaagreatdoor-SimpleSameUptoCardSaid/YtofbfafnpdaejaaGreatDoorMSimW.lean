/- Texts of the claim. -/
import Derived.Test.YtofbfafnpdaejaaGreatDoorMZ07
import Derived.Test.YtofbfafnpdaejaaGreatDoorMZ03
set_option linter.all false
set_option maxRecDepth 100000
set_option maxHeartbeats 8000000
namespace Go.Proofs.YtofbfafnpdaejaaGreatDoor
theorem noset_zero {s : Nat} (hs : s < 2 ^ 256) (h : isNoSet s = true) : s = 0 := by
 refine Nat.eq_of_testBit_eq fun c => ?_
 rw [Nat.zero_testBit]
 rcases Nat.lt_or_ge c 256 with hc | hc
 ·exact noset_iff h c hc
 ·exact Nat.testBit_lt_two_pow (Nat.lt_of_lt_of_le hs (Nat.pow_le_pow_right (by decide) hc))
theorem flatMap_self {f : Nd → List Nd} : ∀ {l : List Nd}, (∀ z ∈ l, f z = [z]) → l.flatMap f = l
 | [], _ => rfl
 | z :: l, h => by rw [List.flatMap_cons, h z (by simp), flatMap_self (fun y hy => h y (by simp [hy]))]; rfl
theorem flatK_self {k g : Int} {z : Nd} (h1 : z.kind ≠ k) (h2 : z.kind ≠ g) : flatK k g z = [z] := by unfold flatK; rw [if_neg h1, if_neg h2]
theorem manyN_two {k q : Int} {l : List Nd} (h : 2 ≤ l.length) : manyN k q l = ⟨k, 0, Trees.of l, 0, 0⟩ := by
 match l, h with
 | x :: y :: m, _ => rfl
theorem addP_self : ∀ (l p : List Nd) (si : Option Nat), (p ++ l).Nodup → (∀ i, si = some i → ∀ z ∈ l, z.kind ≠ 3) → (l.filter (isK 3)).length ≤ 1 → (l.foldl addP (p, si)).1 = p ++ l
 | [], p, si, _, _, _ => by simp
 | x :: l, p, si, hn, hs, hf => by
  have hxp : x ∉ p := fun h => by
   have := (List.nodup_append.1 hn).2.2 x h x (by simp)
   exact this rfl
  have e : p ++ x :: l = (p ++ [x]) ++ l := by simp
  by_cases k3 : x.kind = 3
  ·cases si with
   | some i => exact absurd k3 (hs i rfl x (by simp))
   | none =>
    have ha : addP (p, none) x = (p ++ [x], some p.length) := by unfold addP; rw [if_pos k3]
    rw [List.filter_cons, show isK 3 x = true from decide_eq_true k3, if_pos rfl, List.length_cons] at hf
    have hno : ∀ z ∈ l, z.kind ≠ 3 := fun z hz k => by
     have := List.length_pos_of_mem (List.mem_filter.2 ⟨hz, decide_eq_true k⟩ : z ∈ l.filter (isK 3))
     omega
    rw [List.foldl_cons, ha, addP_self l (p ++ [x]) _ (by rw [← e]; exact hn) (fun i _ => hno) (by omega), e]
  ·have ha : addP (p, si) x = (p ++ [x], si) := by
    unfold addP
    rw [if_neg k3, if_neg]
    intro h
    obtain ⟨y, hy, e2⟩ := List.any_eq_true.1 h
    rw [← sameN_iff.1 e2] at hy
    exact hxp hy
   rw [List.filter_cons, show isK 3 x = false from decide_eq_false k3, if_neg (by decide)] at hf
   rw [List.foldl_cons, ha, addP_self l (p ++ [x]) _ (by rw [← e]; exact hn) (fun i h z hz => hs i h z (by simp [hz])) hf, e]
theorem many_self {k : Int} {n : Nat} {F : Trees} (e : F.len = n) (h : 2 ≤ n) {q : Int} : manyN k q F.list = ⟨k, 0, F, 0, 0⟩ := by rw [manyN_two (by rw [Trees.len_list, e]; exact h), Trees.of_list]
theorem one_self {F : Trees} (h : F.len = 1) : ∃ z, F.list = [z] ∧ F = Trees.of [z] := by
 obtain ⟨z, hz⟩ := List.length_eq_one_iff.1 (by rw [Trees.len_list]; exact h : F.list.length = 1)
 exact ⟨z, hz, one_trees hz⟩
theorem starP_self {z : Nd} (q : z.kind ≠ 1 ∧ z.kind ≠ 2 ∧ z.kind ≠ 6 ∧ z.kind ≠ 7 ∧ z.kind ≠ 8) : starP z = overN 6 z := by unfold starP; rw [if_neg (by omega), if_neg (by omega)]
theorem plusP_self {z : Nd} (q : z.kind ≠ 1 ∧ z.kind ≠ 2 ∧ z.kind ≠ 6 ∧ z.kind ≠ 7 ∧ z.kind ≠ 8) : plusP z = overN 7 z := by unfold plusP; rw [if_neg (by omega), if_neg (by omega)]
theorem optP_self {z : Nd} (q : z.kind ≠ 1 ∧ z.kind ≠ 2 ∧ z.kind ≠ 6 ∧ z.kind ≠ 7 ∧ z.kind ≠ 8) : optP z = overN 8 z := by unfold optP; rw [if_neg (by omega), if_neg (by omega), if_neg (by omega)]
theorem simK_self {x : Nd} (h : SG x) : simK x.kind x.set x.kids x.lo x.hi x.kids.list = x := by
 obtain ⟨⟨⟨hs, ho⟩, f3, f4, f5, f6, f9⟩, _⟩ := sg_iff.1 h
 obtain ⟨k, s, F, lo, hi⟩ := x
 simp only at hs ho f3 f4 f5 f6 f9 ⊢
 have HS := Lib.hid hs
 clear hs h
 rcases ho with ⟨a, b, rfl, rfl, rfl, e⟩ | ⟨rfl, rfl, rfl, e⟩ | ⟨a, b, rfl, rfl, rfl, e⟩ | ⟨a, b, rfl, rfl, rfl, e⟩ | ⟨rfl, rfl, e, _⟩
 ·unfold simK
  rw [if_neg (by omega), if_neg (by omega), if_neg (by omega), if_neg (by omega), if_neg (by omega), if_neg (by omega), if_neg (by omega)]
 ·unfold simK
  rw [if_pos rfl, if_neg]
  intro hn
  exact f3 rfl (noset_zero HS.out hn)
 ·by_cases k4 : k = 4
  ·subst k4
   have hl : F.list.flatMap (flatK 4 2) = F.list := flatMap_self fun z hz => flatK_self (f4 rfl z hz).2.2 (f4 rfl z hz).2.1
   show catP F.list = _
   unfold catP
   rw [hl, if_neg, many_self rfl e]
   intro ha
   obtain ⟨z, hz, e⟩ := List.any_eq_true.1 ha
   exact (f4 rfl z hz).1 (of_decide_eq_true e)
  ·obtain rfl : k = 5 := by omega
   obtain ⟨g1, g2, g3⟩ := f5 rfl
   have hl : F.list.flatMap (flatK 5 1) = F.list := flatMap_self fun z hz => flatK_self (g1 z hz).2 (g1 z hz).1
   show altP F.list = _
   unfold altP
   rw [hl, addP_self F.list [] none (by simpa using g2) (fun i hi => by cases hi) g3, List.nil_append, many_self rfl e]
 ·obtain ⟨z, hz, e2⟩ := one_self e
  have q := f6 ⟨a, b⟩ z (by rw [hz]; simp)
  rw [hz, e2]
  by_cases k6 : k = 6
  ·subst k6
   exact starP_self q
  by_cases k7 : k = 7
  ·subst k7
   exact plusP_self q
  ·obtain rfl : k = 8 := by omega
   exact optP_self q
 ·obtain ⟨z, hz, e2⟩ := one_self e
  obtain ⟨g1, g2, g3, g4, g5, g6⟩ := f9 rfl
  have q := g1 z (by rw [hz]; simp)
  rw [hz, e2]
  show repP z lo hi = _
  unfold repP
  rw [if_neg (fun h => h.elim g2 q.2), if_neg (fun h => q.1 h.1), if_neg q.1, if_neg g3, if_neg g4, if_neg g5, if_neg g6]
theorem sims_self : ∀ F : Trees, (∀ z ∈ F.list, SG z) → F.sims = F.list
 | .nil, _ => rfl
 | .cons k s ks lo hi r, h => by
  have hx := h ⟨k, s, ks, lo, hi⟩ (by simp [Trees.list])
  have h1 := sims_self ks (fun z hz => (sg_iff.1 hx).2 z hz)
  have h2 := sims_self r (fun z hz => h z (by simp [Trees.list, hz]))
  have h3 := simK_self hx
  simp only at h3
  rw [Trees.sims, Trees.list, h1, h2, h3]
theorem sim_self {x : Nd} (h : SG x) : x.sim = x := by
 unfold Nd.sim
 rw [sims_self x.kids (sg_iff.1 h).2]
 exact simK_self h
theorem alone_of_ok {y : Nd} (h : OkN y) : aloneN y = true := by
 obtain ⟨k, s, F, lo, hi⟩ := y
 obtain ⟨hs, ho⟩ := h
 simp only at hs ho
 unfold aloneN aloneV
 simp only
 by_cases k3 : k = 3
 ·have hf : F.len = 0 ∧ lo = 0 ∧ hi = 0 := by omega
  rw [if_pos k3, decide_eq_true hf.2.1, decide_eq_true hf.2.2, decide_eq_true hf.1]
  rfl
 rw [if_neg k3]
 have hz : s = 0 := by omega
 subst hz
 rw [word_zero, word_zero, word_zero, word_zero, if_neg (by decide)]
 by_cases k9 : k = 9
 ·have hf : 0 ≤ lo ∧ lo ≤ 1000 ∧ (hi = -1 ∨ lo ≤ hi) ∧ hi ≤ 1000 ∧ F.len = 1 := by omega
  obtain ⟨a, b, c, d, e⟩ := hf
  rw [if_pos k9, decide_eq_true e]
  unfold timesB
  rw [decide_eq_true a, decide_eq_true b]
  rcases c with c | c
  ·rw [decide_eq_true c]; rfl
  ·rw [decide_eq_true c, decide_eq_true d]; simp
 ·have hf : lo = 0 ∧ hi = 0 := by omega
  rw [if_neg k9, decide_eq_true hf.1, decide_eq_true hf.2]
  unfold arityS
  by_cases c1 : k = 1 ∨ k = 2 ∨ k = 3
  ·rw [if_pos c1, if_pos rfl, decide_eq_true (by omega)]
   rfl
  rw [if_neg c1]
  by_cases c2 : k = 4 ∨ k = 5
  ·rw [if_pos c2, if_neg (by decide), if_neg (by decide), if_pos rfl, decide_eq_true (by omega)]
   rfl
  ·have c3 : 6 ≤ k ∧ k ≤ 9 := by omega
   have c4 : F.len = 1 := by omega
   rw [if_neg c2, if_pos c3, if_neg (by decide), if_pos rfl, decide_eq_true c4]
   rfl
theorem right_of_sg {x : Nd} (h : SG x) (hs : x.size ≤ 4096) : rightT x = true := by
 have hl : x.nodes.length = x.size := by unfold Nd.nodes Nd.size; rw [List.length_cons, Trees.nodes_len]; omega
 unfold rightT
 rw [Bool.and_eq_true, decide_eq_true_eq, List.all_eq_true]
 exact ⟨by omega, fun y hy => alone_of_ok (h y hy).1⟩
def altLs (Ls : List LangW) : LangW := fun w => ∃ L ∈ Ls, L w
def starL (A : LangW) : LangW := fun w => ∃ n, itL A n w
def plusL (A : LangW) : LangW := fun w => ∃ n, itL A (n + 1) w
def optL (A : LangW) : LangW := fun w => w = [] ∨ A w
def timesL (A : LangW) (lo hi : Int) : LangW := fun w => ∃ n : Nat, lo ≤ (n : Int) ∧ (hi < 0 ∨ (n : Int) ≤ hi) ∧ itL A n w
theorem langE {A B : LangW} (h : ∀ w, A w ↔ B w) : A = B := funext fun w => propext (h w)
theorem saysE (x : Nd) : SaysW x = langK x.kind x.set x.lo x.hi (x.kids.list.map SaysW) := langE (says_lang x)
theorem two_nilE (A : LangW) : twoL A nilL = A := langE (two_nil A)
theorem nil_twoE (A : LangW) : twoL nilL A = A := langE (nil_two A)
theorem two_assocE (A B C : LangW) : twoL (twoL A B) C = twoL A (twoL B C) := langE (two_assoc A B C)
theorem two_noE (A : LangW) : twoL A noL = noL := langE fun w => ⟨fun ⟨_, _, _, _, h⟩ => h.elim, fun h => h.elim⟩
theorem no_twoE (A : LangW) : twoL noL A = noL := langE fun w => ⟨fun ⟨_, _, _, h, _⟩ => h.elim, fun h => h.elim⟩
theorem sayK1 {x : Nd} (h : x.kind = 1) : SaysW x = noL := by rw [saysE, h]; rfl
theorem sayK2 {x : Nd} (h : x.kind = 2) : SaysW x = nilL := by rw [saysE, h]; rfl
theorem sayK3 {x : Nd} (h : x.kind = 3) : SaysW x = fun w => ∃ c, w = [c] ∧ x.set.testBit c = true := by rw [saysE, h]; rfl
theorem sayK4 {x : Nd} (h : x.kind = 4) : SaysW x = catL (x.kids.list.map SaysW) := by rw [saysE, h]; rfl
theorem sayK5 {x : Nd} (h : x.kind = 5) : SaysW x = altLs (x.kids.list.map SaysW) := by rw [saysE, h]; rfl
theorem head_one {x z : Nd} (h : x.kids.list = [z]) : (x.kids.list.map SaysW).headD noL = SaysW z := by rw [h]; rfl
theorem sayK6 {x z : Nd} (h : x.kind = 6) (hz : x.kids.list = [z]) : SaysW x = starL (SaysW z) := by rw [saysE, h, ← head_one hz]; rfl
theorem sayK7 {x z : Nd} (h : x.kind = 7) (hz : x.kids.list = [z]) : SaysW x = plusL (SaysW z) := by rw [saysE, h, ← head_one hz]; rfl
theorem sayK8 {x z : Nd} (h : x.kind = 8) (hz : x.kids.list = [z]) : SaysW x = optL (SaysW z) := by rw [saysE, h, ← head_one hz]; rfl
theorem sayK9 {x z : Nd} (h : x.kind = 9) (hz : x.kids.list = [z]) : SaysW x = timesL (SaysW z) x.lo x.hi := by rw [saysE, h, ← head_one hz]; rfl
theorem catL_append : ∀ l m : List LangW, catL (l ++ m) = twoL (catL l) (catL m)
 | [], m => (nil_twoE _).symm
 | L :: l, m => by
  show twoL L (catL (l ++ m)) = twoL (twoL L (catL l)) (catL m)
  rw [catL_append l m, two_assocE]
theorem catL_one (L : LangW) : catL [L] = L := two_nilE L
theorem catL_no : ∀ {l : List LangW}, noL ∈ l → catL l = noL
 | L :: l, h => by
  show twoL L (catL l) = noL
  rcases List.mem_cons.1 h with h | h
  ·rw [← h, no_twoE]
  ·rw [catL_no h, two_noE]
theorem says_cats (l : List Nd) : SaysW (manyN 4 2 l) = catL (l.map SaysW) := by
 match l with
 | [] => exact sayK2 rfl
 | [x] => exact (catL_one _).symm
 | x :: y :: m =>
  have h := sayK4 (x := ⟨4, 0, Trees.of (x :: y :: m), 0, 0⟩) rfl
  simp only [Trees.list_of] at h
  exact h
theorem altLs_one (L : LangW) : altLs [L] = L := langE fun w => ⟨fun ⟨M, hM, h⟩ => by
 have : M = L := by simpa using hM
 rwa [← this], fun h => ⟨L, by simp, h⟩⟩
theorem says_alts (l : List Nd) : SaysW (manyN 5 1 l) = altLs (l.map SaysW) := by
 match l with
 | [] => rw [sayK1 (x := manyN 5 1 []) rfl]; exact langE fun w => ⟨fun h => h.elim, fun ⟨_, h, _⟩ => by cases h⟩
 | [x] => exact (altLs_one _).symm
 | x :: y :: m =>
  have h := sayK5 (x := ⟨5, 0, Trees.of (x :: y :: m), 0, 0⟩) rfl
  simp only [Trees.list_of] at h
  exact h
theorem flat_says4 (x : Nd) : catL ((flatK 4 2 x).map SaysW) = SaysW x := by
 unfold flatK
 split
 ·rename_i h; exact (sayK4 h).symm
 split
 ·rename_i h; rw [sayK2 h]; rfl
 ·exact catL_one _
theorem flats_says4 : ∀ l : List Nd, catL ((l.flatMap (flatK 4 2)).map SaysW) = catL (l.map SaysW)
 | [] => rfl
 | x :: l => by
  rw [List.flatMap_cons, List.map_append, catL_append, flat_says4, flats_says4 l]
  rfl
theorem catP_says (l : List Nd) : SaysW (catP l) = catL (l.map SaysW) := by
 rw [← flats_says4]
 unfold catP
 split
 ·rename_i h
  obtain ⟨z, hz, e⟩ := List.any_eq_true.1 h
  rw [sayK1 (x := noneN) rfl, catL_no (List.mem_map.2 ⟨z, hz, sayK1 (of_decide_eq_true e)⟩)]
 ·exact says_cats _
def AnyS (l : List Nd) : LangW := fun w => ∃ z ∈ l, SaysW z w
theorem any_alts (l : List Nd) : altLs (l.map SaysW) = AnyS l := langE fun w => ⟨fun ⟨L, hL, h⟩ => by
 obtain ⟨z, hz, rfl⟩ := List.mem_map.1 hL
 exact ⟨z, hz, h⟩, fun ⟨z, hz, h⟩ => ⟨SaysW z, List.mem_map.2 ⟨z, hz, rfl⟩, h⟩⟩
theorem any_append (l m : List Nd) (w : List Nat) : AnyS (l ++ m) w ↔ AnyS l w ∨ AnyS m w := by
 unfold AnyS
 constructor
 ·rintro ⟨z, hz, h⟩
  rcases List.mem_append.1 hz with hz | hz
  ·exact .inl ⟨z, hz, h⟩
  ·exact .inr ⟨z, hz, h⟩
 ·rintro (⟨z, hz, h⟩ | ⟨z, hz, h⟩)
  ·exact ⟨z, by simp [hz], h⟩
  ·exact ⟨z, by simp [hz], h⟩
theorem any_one (x : Nd) (w : List Nat) : AnyS [x] w ↔ SaysW x w := ⟨fun ⟨z, hz, h⟩ => by
 have : z = x := by simpa using hz
 rwa [← this], fun h => ⟨x, by simp, h⟩⟩
theorem flat_says5 (x : Nd) (w : List Nat) : AnyS (flatK 5 1 x) w ↔ SaysW x w := by
 unfold flatK
 split
 ·rename_i h; rw [sayK5 h, any_alts]
 split
 ·rename_i h; rw [sayK1 h]; exact ⟨fun ⟨_, h, _⟩ => (by cases h), fun h => h.elim⟩
 ·exact any_one x w
theorem flats_says5 (w : List Nat) : ∀ l : List Nd, AnyS (l.flatMap (flatK 5 1)) w ↔ AnyS l w
 | [] => Iff.rfl
 | x :: l => by
  rw [List.flatMap_cons, any_append, flat_says5, flats_says5 w l, show x :: l = [x] ++ l from rfl, any_append, any_one]
theorem join_says {y x : Nd} (ky : y.kind = 3) (kx : x.kind = 3) (w : List Nat) : SaysW (joinN y x) w ↔ SaysW y w ∨ SaysW x w := by
 rw [sayK3 (x := joinN y x) ky, sayK3 ky, sayK3 kx]
 show (∃ c, w = [c] ∧ (y.set ||| x.set).testBit c = true) ↔ _
 constructor
 ·rintro ⟨c, h1, h2⟩
  rw [Nat.testBit_or, Bool.or_eq_true] at h2
  rcases h2 with h2 | h2
  ·exact .inl ⟨c, h1, h2⟩
  ·exact .inr ⟨c, h1, h2⟩
 ·rintro (⟨c, h1, h2⟩ | ⟨c, h1, h2⟩)
  ·exact ⟨c, h1, by rw [Nat.testBit_or, h2, Bool.true_or]⟩
  ·exact ⟨c, h1, by rw [Nat.testBit_or, h2, Bool.or_true]⟩
def SetIx (st : List Nd × Option Nat) : Prop := ∀ i, st.2 = some i → ∃ y, st.1[i]? = some y ∧ y.kind = 3
theorem addP_says {st : List Nd × Option Nat} (hi : SetIx st) (x : Nd) : SetIx (addP st x) ∧ ∀ w, AnyS (addP st x).1 w ↔ AnyS st.1 w ∨ SaysW x w := by
 obtain ⟨out, si⟩ := st
 by_cases k3 : x.kind = 3
 ·cases si with
  | none =>
   have e : addP (out, none) x = (out ++ [x], some out.length) := by unfold addP; rw [if_pos k3]
   rw [e]
   refine ⟨fun i h => ?_, fun w => by rw [any_append, any_one]⟩
   cases h
   exact ⟨x, by simp, k3⟩
  | some i =>
   obtain ⟨y, hy, ky⟩ := hi i rfl
   have hy : out[i]? = some y := hy
   have e : addP (out, some i) x = (out.modify i (fun y => joinN y x), some i) := by unfold addP; rw [if_pos k3]
   have hat : (out.modify i (fun y => joinN y x))[i]? = some (joinN y x) := by
    rw [List.getElem?_modify, hy]
    simp
   rw [e]
   refine ⟨fun i' h => ?_, fun w => ⟨?_, ?_⟩⟩
   ·cases h
    exact ⟨joinN y x, hat, ky⟩
   ·rintro ⟨z, hz, h⟩
    obtain ⟨j, hj⟩ := List.getElem?_of_mem hz
    obtain ⟨q, hq, e⟩ := modify_get hj
    by_cases c : i = j
    ·subst c
     rw [hy] at hq
     cases hq
     rw [if_pos rfl] at e
     subst e
     rcases (join_says ky k3 w).1 h with h | h
     ·exact .inl ⟨y, List.mem_of_getElem? hy, h⟩
     ·exact .inr h
    ·rw [if_neg c] at e
     subst e
     exact .inl ⟨z, List.mem_of_getElem? hq, h⟩
   ·rintro (⟨z, hz, h⟩ | h)
    ·obtain ⟨j, hj⟩ := List.getElem?_of_mem hz
     have hj : out[j]? = some z := hj
     by_cases c : i = j
     ·subst c
      rw [hy] at hj
      cases hj
      exact ⟨_, List.mem_of_getElem? hat, (join_says ky k3 w).2 (.inl h)⟩
     ·refine ⟨z, List.mem_of_getElem? (i := j) ?_, h⟩
      rw [List.getElem?_modify, hj]
      simp [c]
    ·exact ⟨_, List.mem_of_getElem? hat, (join_says ky k3 w).2 (.inr h)⟩
 ·by_cases hin : out.any (sameN x) = true
  ·have e : addP (out, si) x = (out, si) := by unfold addP; rw [if_neg k3, if_pos hin]
   rw [e]
   refine ⟨hi, fun w => ⟨fun h => .inl h, fun h => h.elim id fun h => ?_⟩⟩
   obtain ⟨y, hy, e⟩ := List.any_eq_true.1 hin
   rw [← sameN_iff.1 e] at hy
   exact ⟨x, hy, h⟩
  ·have e : addP (out, si) x = (out ++ [x], si) := by unfold addP; rw [if_neg k3, if_neg hin]
   rw [e]
   refine ⟨fun i h => ?_, fun w => by rw [any_append, any_one]⟩
   obtain ⟨y, hy, ky⟩ := hi i h
   have hil := (List.getElem?_eq_some_iff.1 hy).1
   exact ⟨y, by rw [List.getElem?_append_left hil]; exact hy, ky⟩
theorem addPs_says (w : List Nat) : ∀ (l : List Nd) (st : List Nd × Option Nat), SetIx st → (AnyS (l.foldl addP st).1 w ↔ AnyS st.1 w ∨ AnyS l w)
 | [], st, _ => ⟨fun h => .inl h, fun h => h.elim id fun ⟨_, h, _⟩ => (by cases h)⟩
 | x :: l, st, h => by
  obtain ⟨a, b⟩ := addP_says h x
  rw [List.foldl_cons, addPs_says w l _ a, b, show x :: l = [x] ++ l from rfl, any_append, any_one, or_assoc]
theorem altP_says (l : List Nd) : SaysW (altP l) = altLs (l.map SaysW) := by
 unfold altP
 rw [says_alts, any_alts, any_alts]
 refine langE fun w => ?_
 rw [addPs_says w _ ([], none) (fun i h => by cases h), flats_says5]
 exact ⟨fun h => h.resolve_left (fun ⟨_, h, _⟩ => by cases h), fun h => .inr h⟩
theorem it_add {A : LangW} : ∀ {m n : Nat} {u v : List Nat}, itL A m u → itL A n v → itL A (m + n) (u ++ v)
 | 0, n, u, v, h, g => by
  have h : u = [] := h
  subst h
  rw [Nat.zero_add]
  exact g
 | m + 1, n, _, v, ⟨a, b, e, h1, h2⟩, g => by
  subst e
  rw [show m + 1 + n = (m + n) + 1 by omega, List.append_assoc]
  exact ⟨a, b ++ v, rfl, h1, it_add h2 g⟩
theorem it_oneL {A : LangW} {w : List Nat} (h : A w) : itL A 1 w := (two_nil A w).2 h
theorem star_add {A : LangW} {u v : List Nat} (h : starL A u) (g : starL A v) : starL A (u ++ v) := by
 obtain ⟨m, h⟩ := h
 obtain ⟨n, g⟩ := g
 exact ⟨m + n, it_add h g⟩
theorem star_sub {A B : LangW} (h : ∀ w, A w → starL B w) : ∀ w, starL A w → starL B w := by
 rintro w ⟨n, hn⟩
 induction n generalizing w with
 | zero => exact ⟨0, hn⟩
 | succ n ih =>
  obtain ⟨u, v, rfl, h1, h2⟩ := hn
  exact star_add (h u h1) (ih v h2)
theorem star_eq {A B : LangW} (h : ∀ w, A w → starL B w) (g : ∀ w, B w → starL A w) : starL A = starL B := langE fun w => ⟨star_sub h w, star_sub g w⟩
theorem starL_one {A : LangW} {w : List Nat} (h : A w) : starL A w := ⟨1, it_oneL h⟩
theorem star_star (A : LangW) : starL (starL A) = starL A := star_eq (fun w h => h) (fun w h => starL_one (starL_one h))
theorem star_plusE (A : LangW) : starL (plusL A) = starL A := star_eq (fun w ⟨n, h⟩ => ⟨n + 1, h⟩) (fun w h => starL_one ⟨0, it_oneL h⟩)
theorem star_opt (A : LangW) : starL (optL A) = starL A := star_eq (fun w h => h.elim (fun h => ⟨0, h⟩) starL_one) (fun w h => starL_one (.inr h))
theorem star_no : starL noL = nilL := langE fun w => ⟨fun ⟨n, h⟩ => by
 cases n with
 | zero => exact h
 | succ n => exact (no_twoE (itL noL n) ▸ h : noL w).elim, fun h => ⟨0, h⟩⟩
theorem it_nilE : ∀ n, itL nilL n = nilL
 | 0 => rfl
 | n + 1 => by
  show twoL nilL (itL nilL n) = nilL
  rw [nil_twoE, it_nilE n]
theorem star_nil : starL nilL = nilL := langE fun w => ⟨fun ⟨n, h⟩ => by rwa [it_nilE] at h, fun h => ⟨0, h⟩⟩
theorem plus_null {A : LangW} (h : A []) : plusL A = starL A := langE fun w => ⟨fun ⟨n, h⟩ => ⟨n + 1, h⟩, fun ⟨n, g⟩ => ⟨n, [], w, rfl, h, g⟩⟩
theorem plus_no : plusL noL = noL := langE fun w => ⟨fun ⟨n, h⟩ => (no_twoE (itL noL n) ▸ h : noL w), fun h => h.elim⟩
theorem plus_plus (A : LangW) : plusL (plusL A) = plusL A := langE fun w => ⟨fun ⟨n, h⟩ => by
 induction n generalizing w with
 | zero => exact (two_nil (plusL A) w).1 h
 | succ n ih =>
  obtain ⟨u, v, rfl, ⟨m, h1⟩, h2⟩ := h
  obtain ⟨k, h3⟩ := ih v ⟨n, h2⟩ h2
  exact ⟨m + 1 + k, by rw [show m + 1 + k + 1 = (m + 1) + (k + 1) by omega]; exact it_add h1 h3⟩, fun h => ⟨0, it_oneL h⟩⟩
theorem opt_null {A : LangW} (h : A []) : optL A = A := langE fun w => ⟨fun g => g.elim (fun g => by rw [g]; exact h) id, fun g => .inr g⟩
theorem opt_plus (A : LangW) : optL (plusL A) = starL A := langE fun w => ⟨fun g => g.elim (fun g => ⟨0, g⟩) (fun ⟨n, g⟩ => ⟨n + 1, g⟩), fun ⟨n, g⟩ => by
 cases n with
 | zero => exact .inl g
 | succ n => exact .inr ⟨n, g⟩⟩
theorem opt_no : optL noL = nilL := langE fun w => ⟨fun h => h.elim id (fun h => h.elim), fun h => .inl h⟩
theorem star_null (A : LangW) : starL A [] := ⟨0, rfl⟩
theorem over_list (k : Int) (x : Nd) : (overN k x).kids.list = [x] := Trees.list_of _
theorem over6 (x : Nd) : SaysW (overN 6 x) = starL (SaysW x) := sayK6 rfl (over_list 6 x)
theorem over7 (x : Nd) : SaysW (overN 7 x) = plusL (SaysW x) := sayK7 rfl (over_list 7 x)
theorem over8 (x : Nd) : SaysW (overN 8 x) = optL (SaysW x) := sayK8 rfl (over_list 8 x)
theorem kid0_list {x : Nd} (h : OkN x) (h6 : 6 ≤ x.kind) : x.kids.list = [kid0 x] := by
 obtain ⟨z, hz⟩ := ok_one h h6
 rw [kid0_one hz]
 exact hz
theorem starP_says {x : Nd} (h : OkN x) : SaysW (starP x) = starL (SaysW x) := by
 unfold starP
 by_cases c1 : x.kind = 1
 ·rw [if_pos (.inl c1), sayK1 c1, star_no]; exact sayK2 rfl
 by_cases c2 : x.kind = 2
 ·rw [if_pos (.inr c2), sayK2 c2, star_nil]; exact sayK2 rfl
 rw [if_neg (by omega)]
 by_cases c3 : x.kind = 6
 ·rw [if_pos (by omega), over6, sayK6 c3 (kid0_list h (by omega)), star_star]
 by_cases c4 : x.kind = 7
 ·rw [if_pos (by omega), over6, sayK7 c4 (kid0_list h (by omega)), star_plusE]
 by_cases c5 : x.kind = 8
 ·rw [if_pos (by omega), over6, sayK8 c5 (kid0_list h (by omega)), star_opt]
 rw [if_neg (by omega), over6]
theorem plusP_says {x : Nd} (h : OkN x) : SaysW (plusP x) = plusL (SaysW x) := by
 unfold plusP
 by_cases c1 : x.kind = 1
 ·rw [if_pos (by omega), sayK1 c1, plus_no]
 by_cases c2 : x.kind = 2
 ·rw [if_pos (by omega), sayK2 c2, plus_null (show nilL [] from rfl), star_nil]
 by_cases c3 : x.kind = 6
 ·rw [if_pos (by omega), sayK6 c3 (kid0_list h (by omega)), plus_null (star_null _), star_star]
 by_cases c4 : x.kind = 7
 ·rw [if_pos (by omega), sayK7 c4 (kid0_list h (by omega)), plus_plus]
 rw [if_neg (by omega)]
 by_cases c5 : x.kind = 8
 ·rw [if_pos c5, over6, sayK8 c5 (kid0_list h (by omega)), plus_null (A := optL (SaysW (kid0 x))) (.inl rfl), star_opt]
 rw [if_neg c5, over7]
theorem optP_says {x : Nd} (h : OkN x) : SaysW (optP x) = optL (SaysW x) := by
 unfold optP
 by_cases c1 : x.kind = 1
 ·rw [if_pos c1, sayK1 c1, opt_no]; exact sayK2 rfl
 rw [if_neg c1]
 by_cases c2 : x.kind = 2
 ·rw [if_pos (by omega), sayK2 c2, opt_null (show nilL [] from rfl)]
 by_cases c3 : x.kind = 6
 ·rw [if_pos (by omega), sayK6 c3 (kid0_list h (by omega)), opt_null (star_null _)]
 by_cases c5 : x.kind = 8
 ·rw [if_pos (by omega), sayK8 c5 (kid0_list h (by omega)), opt_null (A := optL (SaysW (kid0 x))) (.inl rfl)]
 rw [if_neg (by omega)]
 by_cases c4 : x.kind = 7
 ·rw [if_pos c4, over6, sayK7 c4 (kid0_list h (by omega)), opt_plus]
 rw [if_neg c4, over8]
theorem times_nil {lo hi : Int} (ht : TimesOk lo hi) : timesL nilL lo hi = nilL := langE fun w => ⟨fun ⟨n, _, _, h⟩ => by rwa [it_nilE] at h, fun h => by
 obtain ⟨a, b, c, d⟩ := ht
 exact ⟨lo.toNat, by omega, by omega, by rw [it_nilE]; exact h⟩⟩
theorem it_no (n : Nat) : itL noL (n + 1) = noL := no_twoE _
theorem times_zero (A : LangW) {lo : Int} (h : lo ≤ 0) : timesL A lo 0 = nilL := langE fun w => ⟨fun ⟨n, _, h2, h3⟩ => by
 obtain rfl : n = 0 := by omega
 exact h3, fun h2 => ⟨0, by omega, .inr (by omega), h2⟩⟩
theorem times_no0 {hi : Int} (ht : TimesOk 0 hi) : timesL noL 0 hi = nilL := langE fun w => ⟨fun ⟨n, _, _, h3⟩ => by
 cases n with
 | zero => exact h3
 | succ n => rw [it_no] at h3; exact h3.elim, fun h2 => by
 obtain ⟨a, b, c, d⟩ := ht
 exact ⟨0, by omega, by omega, h2⟩⟩
theorem times_no {lo hi : Int} (h : 0 < lo) : timesL noL lo hi = noL := langE fun w => ⟨fun ⟨n, h1, _, h3⟩ => by
 cases n with
 | zero => omega
 | succ n => rw [it_no] at h3; exact h3, fun h2 => h2.elim⟩
theorem times_one (A : LangW) : timesL A 1 1 = A := langE fun w => ⟨fun ⟨n, h1, h2, h3⟩ => by
 obtain rfl : n = 1 := by omega
 exact (two_nil A w).1 h3, fun h => ⟨1, by omega, .inr (by omega), it_oneL h⟩⟩
theorem times_star (A : LangW) : timesL A 0 (-1) = starL A := langE fun w => ⟨fun ⟨n, _, _, h⟩ => ⟨n, h⟩, fun ⟨n, h⟩ => ⟨n, by omega, .inl (by decide), h⟩⟩
theorem times_plus (A : LangW) : timesL A 1 (-1) = plusL A := langE fun w => ⟨fun ⟨n, h1, _, h⟩ => by
 cases n with
 | zero => omega
 | succ n => exact ⟨n, h⟩, fun ⟨n, h⟩ => ⟨n + 1, by omega, .inl (by decide), h⟩⟩
theorem times_opt (A : LangW) : timesL A 0 1 = optL A := langE fun w => ⟨fun ⟨n, _, h2, h⟩ => by
 match n, h2, h with
 | 0, _, h => exact .inl h
 | 1, _, h => exact .inr ((two_nil A w).1 h)
 | n + 2, h2, _ => omega, fun h => h.elim (fun h => ⟨0, by omega, .inr (by omega), h⟩) (fun h => ⟨1, by omega, .inr (by omega), it_oneL h⟩)⟩
theorem repP_says {x : Nd} {lo hi : Int} (h : OkN x) (ht : TimesOk lo hi) : SaysW (repP x lo hi) = timesL (SaysW x) lo hi := by
 unfold repP
 by_cases c2 : x.kind = 2
 ·rw [if_pos (.inr c2), sayK2 c2, times_nil ht]; exact sayK2 rfl
 by_cases c0 : hi = 0
 ·have : lo ≤ 0 := by unfold TimesOk at ht; omega
  rw [if_pos (.inl c0), c0, times_zero _ this]; exact sayK2 rfl
 rw [if_neg (by omega)]
 by_cases c1 : x.kind = 1
 ·by_cases cl : lo = 0
  ·subst cl
   rw [if_pos ⟨c1, rfl⟩, sayK1 c1, times_no0 ht]; exact sayK2 rfl
  ·have : 0 < lo := by unfold TimesOk at ht; omega
   rw [if_neg (by omega), if_pos c1, sayK1 c1, times_no this]; exact sayK1 rfl
 rw [if_neg (by omega), if_neg c1]
 by_cases d1 : lo = 1 ∧ hi = 1
 ·obtain ⟨rfl, rfl⟩ := d1
  rw [if_pos ⟨rfl, rfl⟩, times_one]
 rw [if_neg d1]
 by_cases d2 : lo = 0 ∧ hi = -1
 ·obtain ⟨rfl, rfl⟩ := d2
  rw [if_pos ⟨rfl, rfl⟩, times_star, starP_says h]
 rw [if_neg d2]
 by_cases d3 : lo = 1 ∧ hi = -1
 ·obtain ⟨rfl, rfl⟩ := d3
  rw [if_pos ⟨rfl, rfl⟩, times_plus, plusP_says h]
 rw [if_neg d3]
 by_cases d4 : lo = 0 ∧ hi = 1
 ·obtain ⟨rfl, rfl⟩ := d4
  rw [if_pos ⟨rfl, rfl⟩, times_opt, optP_says h]
 rw [if_neg d4]
 exact sayK9 (x := ⟨9, 0, Trees.of [x], lo, hi⟩) rfl (Trees.list_of _)
theorem simK_says {k : Int} {s : Nat} {ks : Trees} {lo hi : Int} {L : List Nd} (ho : OkV k s lo hi ks.len) (hL : ∀ z ∈ L, SG z) (he : L.map SaysW = ks.list.map SaysW) : SaysW (simK k s ks lo hi L) = SaysW ⟨k, s, ks, lo, hi⟩ := by
 have hone : 6 ≤ k → k ≤ 9 → ∃ z y, ks.list = [z] ∧ L = [y] ∧ SaysW y = SaysW z ∧ OkN y := fun a b => by
  have : ks.list.length = 1 := by rw [Trees.len_list]; have := ho.2; omega
  obtain ⟨z, hz⟩ := List.length_eq_one_iff.1 this
  have hl : L.length = 1 := by
   have := congrArg List.length he
   rw [List.length_map, List.length_map] at this
   omega
  obtain ⟨y, hy⟩ := List.length_eq_one_iff.1 hl
  rw [hz, hy] at he
  exact ⟨z, y, hz, hy, (List.cons.inj he).1, (sg_iff.1 (hL y (by rw [hy]; simp))).1.1⟩
 unfold simK
 by_cases k3 : k = 3
 ·rw [if_pos k3]
  split
  ·rename_i hn
   have := noset_zero ho.1 hn
   subst this
   rw [sayK1 (x := noneN) rfl, sayK3 k3]
   exact langE fun w => ⟨fun h => h.elim, fun ⟨c, _, h⟩ => by simp at h⟩
  ·rfl
 rw [if_neg k3]
 by_cases k4 : k = 4
 ·rw [if_pos k4, catP_says, he, sayK4 (x := ⟨k, s, ks, lo, hi⟩) k4]
 rw [if_neg k4]
 by_cases k5 : k = 5
 ·rw [if_pos k5, altP_says, he, sayK5 (x := ⟨k, s, ks, lo, hi⟩) k5]
 rw [if_neg k5]
 by_cases k6 : k = 6
 ·obtain ⟨z, y, hz, hy, e, oy⟩ := hone (by omega) (by omega)
  rw [if_pos k6, hy, sayK6 (x := ⟨k, s, ks, lo, hi⟩) k6 hz, ← e]
  exact starP_says oy
 rw [if_neg k6]
 by_cases k7 : k = 7
 ·obtain ⟨z, y, hz, hy, e, oy⟩ := hone (by omega) (by omega)
  rw [if_pos k7, hy, sayK7 (x := ⟨k, s, ks, lo, hi⟩) k7 hz, ← e]
  exact plusP_says oy
 rw [if_neg k7]
 by_cases k8 : k = 8
 ·obtain ⟨z, y, hz, hy, e, oy⟩ := hone (by omega) (by omega)
  rw [if_pos k8, hy, sayK8 (x := ⟨k, s, ks, lo, hi⟩) k8 hz, ← e]
  exact optP_says oy
 rw [if_neg k8]
 by_cases k9 : k = 9
 ·obtain ⟨z, y, hz, hy, e, oy⟩ := hone (by omega) (by omega)
  have ht : TimesOk lo hi := by
   have := ho.2
   unfold TimesOk
   omega
  rw [if_pos k9, hy, sayK9 (x := ⟨k, s, ks, lo, hi⟩) k9 hz, ← e]
  exact repP_says oy ht
 ·rw [if_neg k9]
theorem sims_says : ∀ F : Trees, (∀ y ∈ F.nodes, OkN y) → F.sims.map SaysW = F.list.map SaysW
 | .nil, _ => rfl
 | .cons k s ks lo hi r, h => by
  have h1 := sims_says ks (fun y hy => h y (by simp [Trees.nodes, hy]))
  have h2 := sims_says r (fun y hy => h y (by simp [Trees.nodes, hy]))
  have h3 := (sims_all ks (fun y hy => h y (by simp [Trees.nodes, hy]))).1
  have ho := h ⟨k, s, ks, lo, hi⟩ (by simp [Trees.nodes])
  rw [Trees.sims, Trees.list, List.map_cons, List.map_cons, h2, simK_says ho h3 h1]
theorem sim_says {x : Nd} (h : ∀ y ∈ x.nodes, OkN y) : SaysW x.sim = SaysW x :=
 simK_says (h x List.mem_cons_self) (sims_all x.kids (fun y hy => h y (List.mem_cons_of_mem _ hy))).1 (sims_says x.kids (fun y hy => h y (List.mem_cons_of_mem _ hy)))
end Go.Proofs.YtofbfafnpdaejaaGreatDoor
