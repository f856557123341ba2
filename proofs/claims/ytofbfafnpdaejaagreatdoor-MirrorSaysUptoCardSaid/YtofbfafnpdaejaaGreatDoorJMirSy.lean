/- Texts of the claim. -/
import Derived.Test.YtofbfafnpdaejaaGreatDoorJMirS
import Derived.Test.YtofbfafnpdaejaaGreatDoorJZ03
namespace Go.Proofs.YtofbfafnpdaejaaGreatDoor
open Go.RowKit
set_option linter.unusedSimpArgs false
set_option linter.unusedVariables false
set_option maxRecDepth 100000
set_option maxHeartbeats 8000000
structure RevR (n : Nat) (R R' : RelW) : Prop where
 iff : ∀ i j, i ≤ n → j ≤ n → (R' (n - j) (n - i) ↔ R i j)
 len : ∀ i j, i ≤ n → R i j → j ≤ n
 len' : ∀ i j, i ≤ n → R' i j → j ≤ n
inductive AllRev (n : Nat) : List RelW → List RelW → Prop
 | nil : AllRev n [] []
 | cons {R R' : RelW} {l l' : List RelW} : RevR n R R' → AllRev n l l' → AllRev n (R :: l) (R' :: l')
section
variable {n : Nat}
theorem RevR.congr {R R' S' : RelW} (h : RevR n R R') (e : ∀ i j, R' i j ↔ S' i j) : RevR n R S' :=
 ⟨fun i j hi hj => (e _ _).symm.trans (h.iff i j hi hj), h.len, fun i j hi hs => h.len' i j hi ((e i j).2 hs)⟩
theorem rev_no : RevR n noR noR := ⟨fun _ _ _ _ => Iff.rfl, fun _ _ _ h => h.elim, fun _ _ _ h => h.elim⟩
theorem rev_id : RevR n idR idR := ⟨fun i j hi hj => by
 show n - j = n - i ↔ i = j
 omega, fun i j hi h => by
 have h : i = j := h
 omega, fun i j hi h => by
 have h : i = j := h
 omega⟩
theorem RevR.comp {R R' S S' : RelW} (h : RevR n R R') (g : RevR n S S') : RevR n (fun i j => ∃ k, R i k ∧ S k j) (fun i j => ∃ k, S' i k ∧ R' k j) := by
 refine ⟨fun i j hi hj => ⟨fun ⟨k, h1, h2⟩ => ?_, fun ⟨k, h1, h2⟩ => ?_⟩, fun i j hi ⟨k, h1, h2⟩ => g.len k j (h.len i k hi h1) h2, fun i j hi ⟨k, h1, h2⟩ => h.len' k j (g.len' i k hi h1) h2⟩
 ·have hk := g.len' (n - j) k (by omega) h1
  refine ⟨n - k, (h.iff i (n - k) hi (by omega)).1 ?_, (g.iff (n - k) j (by omega) hj).1 ?_⟩
  ·rw [show n - (n - k) = k by omega]
   exact h2
  ·rw [show n - (n - k) = k by omega]
   exact h1
 ·have hk := h.len i k hi h1
  exact ⟨n - k, (g.iff k j hk hj).2 h2, (h.iff i k hi hk).2 h1⟩
theorem RevR.or {R R' S S' : RelW} (h : RevR n R R') (g : RevR n S S') : RevR n (fun i j => R i j ∨ S i j) (fun i j => R' i j ∨ S' i j) :=
 ⟨fun i j hi hj => or_congr (h.iff i j hi hj) (g.iff i j hi hj), fun i j hi hh => hh.elim (h.len i j hi) (g.len i j hi), fun i j hi hh => hh.elim (h.len' i j hi) (g.len' i j hi)⟩
theorem RevR.ex {α : Type} {R R' : α → RelW} {p : α → Prop} (h : ∀ a, RevR n (R a) (R' a)) : RevR n (fun i j => ∃ a, p a ∧ R a i j) (fun i j => ∃ a, p a ∧ R' a i j) :=
 ⟨fun i j hi hj => exists_congr fun a => and_congr Iff.rfl ((h a).iff i j hi hj), fun i j hi ⟨a, _, h1⟩ => (h a).len i j hi h1, fun i j hi ⟨a, _, h1⟩ => (h a).len' i j hi h1⟩
theorem itR_snoc {R : RelW} {k i j : Nat} : (∃ m, itR R k i m ∧ R m j) ↔ itR R (k + 1) i j := by
 rw [itR_add]
 exact exists_congr fun m => and_congr Iff.rfl itR_one.symm
theorem RevR.it {R R' : RelW} (h : RevR n R R') : ∀ k, RevR n (itR R k) (itR R' k)
 | 0 => rev_id
 | k + 1 => (h.comp (h.it k)).congr fun i j => itR_snoc
theorem star_ex {R : RelW} (i j : Nat) : (∃ k : Nat, True ∧ itR R k i j) ↔ starR R i j := by simp [starR]
theorem RevR.star {R R' : RelW} (h : RevR n R R') : RevR n (starR R) (starR R') := by
 have := RevR.ex (p := fun _ : Nat => True) (fun k => h.it k)
 exact ⟨fun i j hi hj => (star_ex _ _).symm.trans ((this.iff i j hi hj).trans (star_ex _ _)), fun i j hi hs => this.len i j hi ((star_ex _ _).2 hs), fun i j hi hs => this.len' i j hi ((star_ex _ _).2 hs)⟩
theorem plus_turn {R : RelW} (i j : Nat) : (∃ m, starR R i m ∧ R m j) ↔ plusR R i j := by
 constructor
 ·rintro ⟨m, ⟨k, h1⟩, h2⟩
  obtain ⟨m2, h3, h4⟩ := itR_snoc.1 ⟨m, h1, h2⟩
  exact ⟨m2, h3, k, h4⟩
 ·rintro ⟨m, h1, k, h2⟩
  obtain ⟨m2, h3, h4⟩ := itR_snoc.2 (show itR R (k + 1) i j from ⟨m, h1, h2⟩)
  exact ⟨m2, ⟨k, h3⟩, h4⟩
theorem RevR.cats : ∀ {Rs Rs' : List RelW}, AllRev n Rs Rs' → RevR n (catR Rs) (catR Rs'.reverse)
 | _, _, .nil => rev_id
 | _, _, .cons (R' := R') (l' := l') h hs => (h.comp (RevR.cats hs)).congr fun i j => by
  rw [List.reverse_cons]
  exact (catR_snoc R' l'.reverse i j).symm
theorem alt_cons (R : RelW) (l : List RelW) (i j : Nat) : altR (R :: l) i j ↔ R i j ∨ altR l i j := by simp [altR]
theorem RevR.alts : ∀ {Rs Rs' : List RelW}, AllRev n Rs Rs' → RevR n (altR Rs) (altR Rs')
 | _, _, .nil => ⟨fun _ _ _ _ => by simp [altR], fun _ _ _ ⟨_, h, _⟩ => by simp at h, fun _ _ _ ⟨_, h, _⟩ => by simp at h⟩
 | _, _, .cons h hs => by
  have h2 := h.or (RevR.alts hs)
  exact ⟨fun i j hi hj => (alt_cons _ _ _ _).trans ((h2.iff i j hi hj).trans (alt_cons _ _ _ _).symm), fun i j hi hh => h2.len i j hi ((alt_cons _ _ _ _).1 hh), fun i j hi hh => h2.len' i j hi ((alt_cons _ _ _ _).1 hh)⟩
theorem RevR.head {Rs Rs' : List RelW} (h : AllRev n Rs Rs') : RevR n (Rs.headD noR) (Rs'.headD noR) := by
 cases h with
 | nil => exact rev_no
 | cons h _ => exact h
theorem rev_set (w : List Nat) (s : Nat) : RevR w.length (setR s w) (setR s w.reverse) := by
 refine ⟨fun i j hi hj => ⟨fun ⟨c, h1, h2, h3⟩ => ?_, fun ⟨c, h1, h2, h3⟩ => ?_⟩, fun i j hi ⟨c, h1, _, h3⟩ => ?_, fun i j hi ⟨c, h1, _, h3⟩ => ?_⟩
 ·have hlt := (List.getElem?_eq_some_iff.1 h1).1
  rw [List.length_reverse] at hlt
  rw [List.getElem?_reverse (by omega)] at h1
  exact ⟨c, by rw [show i = w.length - 1 - (w.length - j) by omega]; exact h1, h2, by omega⟩
 ·have hlt := (List.getElem?_eq_some_iff.1 h1).1
  refine ⟨c, ?_, h2, by omega⟩
  rw [List.getElem?_reverse (by omega), show w.length - 1 - (w.length - j) = i by omega]
  exact h1
 ·have hlt := (List.getElem?_eq_some_iff.1 h1).1
  omega
 ·have hlt := (List.getElem?_eq_some_iff.1 h1).1
  rw [List.length_reverse] at hlt
  omega
theorem turnK_head {α : Type} {k : Int} (h : k ≠ 4) (l : List α) : turnK k l = l := by unfold turnK; rw [if_neg h]
theorem RevR.says {w : List Nat} (k : Int) (s : Nat) (lo hi : Int) {Rs Rs' : List RelW} (h : AllRev w.length Rs Rs') : RevR w.length (saysK k s lo hi w Rs) (saysK k s lo hi w.reverse (turnK k Rs')) := by
 by_cases h4 : k = 4
 ·subst h4
  have e1 : saysK 4 s lo hi w Rs = catR Rs := by simp [saysK]
  have e2 : saysK 4 s lo hi w.reverse (turnK 4 Rs') = catR Rs'.reverse := by simp [saysK, turnK]
  rw [e1, e2]
  exact RevR.cats h
 rw [turnK_head h4]
 unfold saysK
 split
 ·exact rev_id
 split
 ·exact rev_set w s
 split
 ·exact RevR.alts h
 split
 ·exact (RevR.head h).star
 split
 ·exact ((RevR.head h).comp (RevR.head h).star).congr fun i j => plus_turn i j
 split
 ·exact rev_id.or (RevR.head h)
 split
 ·have := RevR.ex (p := fun k : Nat => lo ≤ (k : Int) ∧ (hi < 0 ∨ (k : Int) ≤ hi)) (fun k => (RevR.head h).it k)
  unfold repR
  simpa [and_assoc] using this
 ·exact rev_no
theorem RevR.rels (w : List Nat) : ∀ F : Trees, AllRev w.length (F.rels w) (F.turn.map fun y => y.rel w.reverse)
 | .nil => .nil
 | .cons k s ks lo hi r => by
  have h := RevR.says k s lo hi (RevR.rels w ks)
  have e : Nd.rel ⟨k, s, Trees.of (turnK k ks.turn), lo, hi⟩ w.reverse = saysK k s lo hi w.reverse (turnK k (ks.turn.map fun y => y.rel w.reverse)) := by
   show saysK k s lo hi w.reverse ((Trees.of (turnK k ks.turn)).rels w.reverse) = _
   rw [Trees.rels_list, Trees.list_of, turnK_map]
  rw [Trees.turn, List.map_cons, e]
  exact .cons h (RevR.rels w r)
theorem turn_rel (x : Nd) (w : List Nat) : RevR w.length (x.rel w) (x.turn.rel w.reverse) := by
 have h := RevR.rels w (Trees.of [x])
 have e : (Trees.of [x]).turn = [x.turn] := by rw [Trees.turn_list, Trees.list_of]; rfl
 rw [e] at h
 cases h with
 | cons h _ => exact h
theorem turn_says (x : Nd) (w : List Nat) : SaysW x.turn w.reverse ↔ SaysW x w := by
 unfold SaysW
 rw [List.length_reverse]
 have := (turn_rel x w).iff 0 w.length (Nat.zero_le _) (Nat.le_refl _)
 rw [Nat.sub_self, Nat.sub_zero] at this
 exact this
theorem turnK_all {α : Type} (f : α → Bool) (k : Int) (l : List α) : (turnK k l).all f = l.all f := by
 unfold turnK
 split
 ·exact List.all_reverse
 ·rfl
theorem nodes_ofM : ∀ l : List Nd, (Trees.of l).nodes = l.flatMap Nd.nodes
 | [] => rfl
 | x :: l => by
  rw [Trees.of, Trees.nodes, nodes_ofM l, List.flatMap_cons]
  simp [Nd.nodes]
theorem all_turn : ∀ F : Trees, (F.turn.all fun y => y.nodes.all aloneN) = F.nodes.all aloneN
 | .nil => rfl
 | .cons k s ks lo hi r => by
  rw [Trees.turn, List.all_cons, all_turn r, Trees.nodes]
  have hl : (Trees.of (turnK k ks.turn)).len = ks.len := by rw [Trees.len_of, turnK_len, Trees.turn_list, List.length_map, Trees.len_list]
  have ha : aloneN ⟨k, s, Trees.of (turnK k ks.turn), lo, hi⟩ = aloneN ⟨k, s, ks, lo, hi⟩ := by
   unfold aloneN
   simp only [hl]
  have hn : (Nd.nodes ⟨k, s, Trees.of (turnK k ks.turn), lo, hi⟩).all aloneN = (aloneN ⟨k, s, ks, lo, hi⟩ && ks.nodes.all aloneN) := by
   unfold Nd.nodes
   rw [List.all_cons, ha, nodes_ofM, List.all_flatMap, turnK_all, all_turn ks]
  rw [hn]
  simp [List.all_append, Bool.and_assoc]
theorem turn_right (x : Nd) : rightT x.turn = rightT x := by
 have h := all_turn (Trees.of [x])
 have e : (Trees.of [x]).turn = [x.turn] := by rw [Trees.turn_list, Trees.list_of]; rfl
 rw [e, nodes_ofM] at h
 simp only [List.all_cons, List.all_nil, Bool.and_true, List.flatMap_cons, List.flatMap_nil, List.append_nil] at h
 unfold rightT
 rw [Nd.nodes_len, Nd.nodes_len, Nd.turn_size, h]
end
end Go.Proofs.YtofbfafnpdaejaaGreatDoor
