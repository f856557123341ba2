/- Texts of the claim. -/
import Derived.Test.YtfekpkelmliejaaGreatDoorJZ04
import Derived.Test.YtfekpkelmliejaaGreatDoorJZ02
namespace Go.Proofs.YtfekpkelmliejaaGreatDoor
open Go.RowKit
set_option linter.unusedSimpArgs false
set_option linter.unusedVariables false
set_option maxRecDepth 100000
set_option maxHeartbeats 8000000
theorem foldr_max_le {l : List Nat} {d : Nat} : l.foldr max 0 ≤ d ↔ ∀ a ∈ l, a ≤ d := by
 induction l with
 | nil => simp
 | cons a l ih => rw [List.foldr_cons, Nat.max_le, ih]; simp
def inK (p : Int) (q : Int × Nat) : Nat := q.2 + if brS p q.1 = true then 1 else 0
def deepK (k : Int) (ks : List (Int × Nat)) : Nat := (ks.map (inK k)).foldr max 0
def Trees.deeps : Trees → List (Int × Nat)
 | .nil => []
 | .cons k s ks lo hi r => (k, deepK k ks.deeps) :: r.deeps
def Nd.deep (x : Nd) : Nat := deepK x.kind x.kids.deeps
theorem Trees.deeps_list : ∀ F : Trees, F.deeps = F.list.map (fun z => (z.kind, z.deep))
 | .nil => rfl
 | .cons k s ks lo hi r => by rw [Trees.deeps, Trees.list, List.map_cons, Trees.deeps_list r]; rfl
def deepIn (p : Int) (z : Nd) : Nat := inK p (z.kind, z.deep)
theorem deep_le {x : Nd} {d : Nat} : x.deep ≤ d ↔ ∀ z ∈ x.kids.list, deepIn x.kind z ≤ d := by
 unfold Nd.deep deepK
 rw [foldr_max_le, Trees.deeps_list, List.map_map]
 constructor
 ·intro h z hz
  exact h _ (List.mem_map.2 ⟨z, hz, rfl⟩)
 ·rintro h a ha
  obtain ⟨z, hz, rfl⟩ := List.mem_map.1 ha
  exact h z hz
theorem deepIn_no {p : Int} {z : Nd} (h : brS p z.kind = false) : deepIn p z = z.deep := by unfold deepIn inK; rw [h]; rfl
theorem deepIn_yes {p : Int} {z : Nd} (h : brS p z.kind = true) : deepIn p z = z.deep + 1 := by unfold deepIn inK; rw [h]; rfl
theorem deepIn_ge (p : Int) (z : Nd) : z.deep ≤ deepIn p z := by unfold deepIn inK; omega
theorem brS_same {p q : Int} (hp : p ≠ 5) (hq : q ≠ 5) (k : Int) : brS p k = brS q k := by unfold brS; simp [hp, hq]
theorem brS_five {p k : Int} (h : brS 5 k = true) : brS p k = true := by
 unfold brS at *
 simp at h
 simp [h]
theorem brS_high {p k : Int} (h : 6 ≤ k) : brS p k = false := by
 unfold brS
 have h1 : ¬ k = 5 := by omega
 have h2 : ¬ k = 4 := by omega
 have h3 : ¬ k = 2 := by omega
 simp [h1, h2, h3]
theorem kinds_app {L R : List Lex} (h : Kinds L) (h2 : Kinds R) : Kinds (L ++ R) := fun y hy => by
 rcases List.mem_append.1 hy with h' | h'
 ·exact h y h'
 ·exact h2 y h'
theorem kinds_cons {y : Lex} {R : List Lex} (h : 1 ≤ y.kind ∧ y.kind ≤ 8) (h2 : Kinds R) : Kinds (y :: R) := fun z hz => by
 rcases List.mem_cons.1 hz with rfl | h'
 ·exact h
 ·exact h2 z h'
theorem kinds_nil : Kinds [] := fun y hy => by cases hy
theorem wrong_one {op : List Int} {p : Bool} {y : Lex} {L : List Lex} (h : y.kind = 1) : wrongS op p (y :: L) = wrongS op true L := by
 conv => lhs; unfold wrongS
 rw [if_pos h]
theorem wrong_open {op : List Int} {p : Bool} {y : Lex} {L : List Lex} (h : y.kind = 2) (h2 : op.length < 64) : wrongS op p (y :: L) = wrongS (y.place :: op) false L := by
 conv => lhs; unfold wrongS
 rw [if_neg (by omega), if_pos h, if_neg (by omega)]
theorem wrong_close {x : Int} {op : List Int} {p : Bool} {y : Lex} {L : List Lex} (h : y.kind = 3) : wrongS (x :: op) p (y :: L) = wrongS op true L := by
 conv => lhs; unfold wrongS
 rw [if_neg (by omega), if_neg (by omega), if_pos h]
theorem wrong_bar {op : List Int} {p : Bool} {y : Lex} {L : List Lex} (h : y.kind = 4) : wrongS op p (y :: L) = wrongS op false L := by
 conv => lhs; unfold wrongS
 rw [if_neg (by omega), if_neg (by omega), if_neg (by omega), if_pos h]
theorem wrong_sign {op : List Int} {y : Lex} {L : List Lex} (h : 5 ≤ y.kind) : wrongS op true (y :: L) = wrongS op true L := by
 conv => lhs; unfold wrongS
 rw [if_neg (by omega), if_neg (by omega), if_neg (by omega), if_neg (by omega), if_neg (by decide)]
structure Clear (z : Nd) : Prop where
 kinds : Kinds z.write
 part : ∀ op p R, op.length + z.deep ≤ 64 → Kinds R → NoPost R → wrongS op p (z.write ++ R) = wrongS op true R
 atom : z.kind ≠ 2 → z.kind ≠ 4 → z.kind ≠ 5 → ∀ op p R, op.length + z.deep ≤ 64 → Kinds R → wrongS op p (z.write ++ R) = wrongS op true R
theorem kid_kinds {k : Int} {z : Nd} (hz : Clear z) : Kinds (kidS k (z.kind, z.write)) := by
 unfold kidS
 split
 ·exact kinds_cons (by show (1 : Int) ≤ 2 ∧ (2 : Int) ≤ 8; decide) (kinds_app hz.kinds (kinds_cons (by show (1 : Int) ≤ 3 ∧ (3 : Int) ≤ 8; decide) kinds_nil))
 ·exact hz.kinds
theorem noPost_cons {y : Lex} {R : List Lex} (h : y.kind < 5) : NoPost (y :: R) := fun z L' e => by
 cases e
 unfold isPost
 simp
 omega
theorem kid_clear {k : Int} {z : Nd} (hz : Clear z) (h : k ≠ 5 ∨ z.kind = 5) {op : List Int} (p : Bool) {R : List Lex} (hd : op.length + deepIn k z ≤ 64) (hR : Kinds R) : wrongS op p (kidS k (z.kind, z.write) ++ R) = wrongS op true R := by
 unfold kidS
 cases hb : brS k z.kind with
 | true =>
  rw [deepIn_yes hb] at hd
  rw [if_pos rfl, List.cons_append, wrong_open rfl (by omega), List.append_assoc, List.singleton_append]
  rw [hz.part _ _ _ (by simp; omega) (kinds_cons (by show (1 : Int) ≤ 3 ∧ (3 : Int) ≤ 8; decide) hR) (noPost_cons (by show (3 : Int) < 5; decide)), wrong_close rfl]
 | false =>
  rw [deepIn_no hb] at hd
  have := brS_no hb
  rw [if_neg (by decide)]
  exact hz.atom (by omega) (by omega) (by omega) op p R hd hR
theorem kid5_clear {z : Nd} (hz : Clear z) {op : List Int} (p : Bool) {R : List Lex} (hd : op.length + deepIn 5 z ≤ 64) (hR : Kinds R) (hn : NoPost R) : wrongS op p (kidS 5 (z.kind, z.write) ++ R) = wrongS op true R := by
 by_cases h : z.kind = 5
 ·exact kid_clear hz (.inr h) p hd hR
 ·have hb : brS 5 z.kind = false := by unfold brS; simp [h]
  rw [deepIn_no hb] at hd
  unfold kidS
  rw [if_neg (by rw [hb]; decide)]
  exact hz.part op p R hd hR hn
def catL (zs : List Nd) : List Lex := ((zs.map fun z => (z.kind, z.write)).map (kidS 4)).flatten
def barL (zs : List Nd) : List Lex := ((zs.map fun z => (z.kind, z.write)).map (kidS 5)).flatMap fun x => lexK 4 :: x
theorem catL_cons (z : Nd) (zs : List Nd) : catL (z :: zs) = kidS 4 (z.kind, z.write) ++ catL zs := by simp [catL]
theorem barL_cons (z : Nd) (zs : List Nd) : barL (z :: zs) = lexK 4 :: (kidS 5 (z.kind, z.write) ++ barL zs) := by simp [barL]
theorem catL_kinds : ∀ {zs : List Nd}, (∀ z ∈ zs, Clear z) → Kinds (catL zs)
 | [], _ => kinds_nil
 | z :: zs, h => by
  rw [catL_cons]
  exact kinds_app (kid_kinds (h z (by simp))) (catL_kinds fun y hy => h y (by simp [hy]))
theorem barL_kinds : ∀ {zs : List Nd}, (∀ z ∈ zs, Clear z) → Kinds (barL zs)
 | [], _ => kinds_nil
 | z :: zs, h => by
  rw [barL_cons]
  exact kinds_cons (by show (1 : Int) ≤ 4 ∧ (4 : Int) ≤ 8; decide) (kinds_app (kid_kinds (h z (by simp))) (barL_kinds fun y hy => h y (by simp [hy])))
theorem cat_clear : ∀ {zs : List Nd} {op : List Int} (p : Bool) {R : List Lex}, (∀ z ∈ zs, Clear z ∧ op.length + deepIn 4 z ≤ 64) → Kinds R → NoPost R → wrongS op p (catL zs ++ R) = wrongS op true R
 | [], op, p, R, _, hR, hn => wrongS_flag hR hn p true
 | z :: zs, op, p, R, h, hR, hn => by
  rw [catL_cons, List.append_assoc, kid_clear (h z (by simp)).1 (.inl (by decide)) p (h z (by simp)).2 (kinds_app (catL_kinds fun y hy => (h y (by simp [hy])).1) hR)]
  exact cat_clear true (fun y hy => h y (by simp [hy])) hR hn
theorem barL_noPost {zs : List Nd} {R : List Lex} (hn : NoPost R) : NoPost (barL zs ++ R) := by
 cases zs with
 | nil => exact hn
 | cons z zs => rw [barL_cons]; exact noPost_cons (by show (4 : Int) < 5; decide)
theorem bar_clear : ∀ {zs : List Nd} {op : List Int} {R : List Lex}, (∀ z ∈ zs, Clear z ∧ op.length + deepIn 5 z ≤ 64) → Kinds R → NoPost R → wrongS op true (barL zs ++ R) = wrongS op true R
 | [], op, R, _, hR, hn => rfl
 | z :: zs, op, R, h, hR, hn => by
  rw [barL_cons, List.cons_append, wrong_bar rfl, List.append_assoc, kid5_clear (h z (by simp)).1 false (h z (by simp)).2 (kinds_app (barL_kinds fun y hy => (h y (by simp [hy])).1) hR) (barL_noPost hn)]
  exact bar_clear (fun y hy => h y (by simp [hy])) hR hn
theorem clear_post {x z : Nd} {k : Int} {y : Lex} (hz : Clear z) (hk : k ≠ 5) (h1 : x.kids.list = [z]) (h2 : x.write = kidS k (z.kind, z.write) ++ [y]) (h3 : x.kind = k) (h4 : 5 ≤ y.kind ∧ y.kind ≤ 8) : Clear x := by
 have hall : ∀ op p R, op.length + x.deep ≤ 64 → Kinds R → wrongS op p (x.write ++ R) = wrongS op true R := fun op p R hd hR => by
  have hd2 : op.length + deepIn k z ≤ 64 := by
   have := deep_le.1 (Nat.le_refl x.deep) z (by rw [h1]; simp)
   rw [h3] at this
   omega
  rw [h2, List.append_assoc, List.singleton_append, kid_clear hz (.inl hk) p hd2 (kinds_cons (by omega) hR), wrong_sign h4.1]
 exact ⟨by rw [h2]; exact kinds_app (kid_kinds hz) (kinds_cons (by omega) kinds_nil), fun op p R hd hR _ => hall op p R hd hR, fun _ _ _ => hall⟩
theorem clear_node (x : Nd) (ha : aloneN x = true) (hK : ∀ z ∈ x.kids.list, Clear z) : Clear x := by
 obtain ⟨a1, a9, a0, ak1, ak9⟩ := aloneN_kids ha
 have am := alone_more ha
 by_cases k13 : x.kind = 1 ∨ x.kind = 3
 ·have hw := Nd.write_leaf k13
  have hall : ∀ op p R, op.length + x.deep ≤ 64 → Kinds R → wrongS op p (x.write ++ R) = wrongS op true R := fun op p R hd hR => by rw [hw, List.singleton_append, wrong_one rfl]
  exact ⟨by rw [hw]; exact kinds_cons (by show (1 : Int) ≤ 1 ∧ (1 : Int) ≤ 8; decide) kinds_nil, fun op p R hd hR _ => hall op p R hd hR, fun _ _ _ => hall⟩
 by_cases k2 : x.kind = 2
 ·have hw := Nd.write_empty k2
  exact ⟨by rw [hw]; exact kinds_nil, fun op p R hd hR hn => by rw [hw]; exact wrongS_flag hR hn p true, fun h => absurd k2 h⟩
 by_cases k4 : x.kind = 4
 ·have hw : x.write = catL x.kids.list := by rw [Nd.write_cat k4, Trees.writes_list]; rfl
  exact ⟨by rw [hw]; exact catL_kinds hK, fun op p R hd hR hn => by
   rw [hw]
   refine cat_clear p (fun z hz => ⟨hK z hz, ?_⟩) hR hn
   have := deep_le.1 (Nat.le_refl x.deep) z hz
   rw [k4] at this
   omega, fun _ h => absurd k4 h⟩
 by_cases k5 : x.kind = 5
 ·have hw : x.write = (barL x.kids.list).drop 1 := by rw [Nd.write_alt k5, Trees.writes_list]; rfl
  have hlen := am.2 (.inr k5)
  rw [← Trees.len_list] at hlen
  cases hl : x.kids.list with
  | nil => rw [hl] at hlen; simp at hlen
  | cons z zs =>
   rw [hl, barL_cons, List.drop_one, List.tail_cons] at hw
   refine ⟨?_, fun op p R hd hR hn => ?_, fun _ _ h => absurd k5 h⟩
   ·rw [hw]; exact kinds_app (kid_kinds (hK z (by rw [hl]; simp))) (barL_kinds fun y hy => hK y (by rw [hl]; simp [hy]))
   ·have hin : ∀ y ∈ x.kids.list, op.length + deepIn 5 y ≤ 64 := fun y hy => by
     have := deep_le.1 (Nat.le_refl x.deep) y hy
     rw [k5] at this
     omega
    rw [hw, List.append_assoc, kid5_clear (hK z (by rw [hl]; simp)) p (hin z (by rw [hl]; simp)) (kinds_app (barL_kinds fun y hy => hK y (by rw [hl]; simp [hy])) hR) (barL_noPost hn)]
    exact bar_clear (fun y hy => ⟨hK y (by rw [hl]; simp [hy]), hin y (by rw [hl]; simp [hy])⟩) hR hn
 ·obtain ⟨z, hz, hz0⟩ := one_kid (a1 (by omega) (by omega))
  have hhd : x.kids.writes.headD (0, []) = (z.kind, z.write) := Trees.writes_head hz0
  have hcz := hK z (by rw [hz]; simp)
  by_cases k9 : x.kind = 9
  ·exact clear_post (k := 9) (y := ⟨8, 0, noSet, x.lo, x.hi⟩) hcz (by decide) hz (by rw [Nd.write_rep k9, hhd]) k9 (by show (5 : Int) ≤ 8 ∧ (8 : Int) ≤ 8; decide)
  ·exact clear_post (k := x.kind) (y := lexK (x.kind - 1)) hcz k5 hz (by rw [Nd.write_post (by omega), hhd]) rfl (by show 5 ≤ x.kind - 1 ∧ x.kind - 1 ≤ 8; omega)
theorem clear_all : ∀ (F : Trees), Okays F → ∀ z ∈ F.list, Clear z
 | .nil, _, z, hz => by cases hz
 | .cons k s ks lo hi r, ho, z, hz => by
  rw [Trees.list] at hz
  rcases List.mem_cons.1 hz with rfl | hz
  ·exact clear_node _ (ho _ (by simp [Trees.nodes])) (clear_all ks (fun y hy => ho y (by simp [Trees.nodes, hy])))
  ·exact clear_all r (fun y hy => ho y (by simp [Trees.nodes, hy])) z hz
theorem clear_tree {x : Nd} (h : rightT x = true) : Clear x := by
 obtain ⟨h1, h2⟩ := okays_kids h
 exact clear_node x h1 (clear_all _ h2)
structure Weigh (f : Lex → Nat) : Prop where
 set : ∀ y : Lex, y.kind = 1 → f ⟨1, 0, (maskOf y.set).testBit, 0, 0⟩ ≤ f y
 sign : ∀ y : Lex, 2 ≤ y.kind → y.kind ≤ 7 → f (lexK y.kind) ≤ f y
 rep : ∀ y : Lex, y.kind = 8 → f ⟨8, 0, noSet, y.lo, y.hi⟩ ≤ f y
def wS (f : Lex → Nat) (L : List Lex) : Nat := (L.map f).sum
theorem wS_app (f : Lex → Nat) (L R : List Lex) : wS f (L ++ R) = wS f L + wS f R := by unfold wS; rw [List.map_append, List.sum_append]
theorem wS_cons (f : Lex → Nat) (y : Lex) (R : List Lex) : wS f (y :: R) = f y + wS f R := by unfold wS; rw [List.map_cons, List.sum_cons]
theorem wS_nil (f : Lex → Nat) : wS f [] = 0 := rfl
theorem wS_one : ∀ M : List Lex, wS (fun _ => 1) M = M.length
 | [] => rfl
 | y :: M => by rw [wS_cons, wS_one M, List.length_cons]; omega
theorem wS_suf {f : Lex → Nat} {L R : List Lex} (h : R <:+ L) : wS f R ≤ wS f L := by
 obtain ⟨T, rfl⟩ := h
 rw [wS_app]
 omega
def wK (f : Lex → Nat) (p : Int) (z : Nd) : Nat := wS f (kidS p (z.kind, z.write))
def wKs (f : Lex → Nat) (p : Int) (l : List Nd) : Nat := (l.map (wK f p)).sum
theorem wKs_cons (f : Lex → Nat) (p : Int) (z : Nd) (l : List Nd) : wKs f p (z :: l) = wK f p z + wKs f p l := by unfold wKs; rw [List.map_cons, List.sum_cons]
theorem wKs_nil (f : Lex → Nat) (p : Int) : wKs f p [] = 0 := rfl
theorem wK_no {f : Lex → Nat} {p : Int} {z : Nd} (h : brS p z.kind = false) : wK f p z = wS f z.write := by unfold wK kidS; rw [if_neg (by rw [h]; decide)]
theorem wK_yes {f : Lex → Nat} {p : Int} {z : Nd} (h : brS p z.kind = true) : wK f p z = f (lexK 2) + (wS f z.write + f (lexK 3)) := by
 unfold wK kidS
 rw [if_pos h, wS_cons, wS_app, wS_cons, wS_nil]
 show f (lexK 2) + (wS f z.write + (f (lexK 3) + 0)) = _
 omega
theorem wK_le (f : Lex → Nat) (p : Int) (z : Nd) : wS f z.write ≤ wK f p z := by
 cases h : brS p z.kind
 ·rw [wK_no h]; omega
 ·rw [wK_yes h]; omega
theorem wS_cat (f : Lex → Nat) : ∀ l : List Nd, wS f (catL l) = wKs f 4 l
 | [] => rfl
 | z :: l => by rw [catL_cons, wS_app, wKs_cons, wS_cat f l]; rfl
theorem wS_bar (f : Lex → Nat) : ∀ l : List Nd, wS f (barL l) = wKs f 5 l + l.length * f (lexK 4)
 | [] => by simp [barL, wS, wKs]
 | z :: l => by
  rw [barL_cons, wS_cons, wS_app, wKs_cons, wS_bar f l, List.length_cons, Nat.add_mul, Nat.one_mul]
  show _ + (wK f 5 z + _) = _
  omega
def FitD (d : Nat) (p : Int) (z : Nd) : Prop := z.said = z ∧ d + deepIn p z ≤ 64
theorem said_of {k : Int} (hk : k ≠ 1) {l : List Nd} (h : ∀ z ∈ l, z.said = z) (lo hi : Int) : (⟨k, 0, Trees.of l, lo, hi⟩ : Nd).said = ⟨k, 0, Trees.of l, lo, hi⟩ := by
 unfold Nd.said saidK
 rw [if_neg hk, Trees.said_list, Trees.list_of]
 have e : l.map Nd.said = l := by
  conv => rhs; rw [← List.map_id l]
  exact List.map_congr_left h
 have e0 : maskOf (Nat.testBit 0) = 0 := by
  refine Nat.eq_of_testBit_eq fun j => ?_
  unfold maskOf
  rw [testBit_ofBits, Nat.zero_testBit]
  simp
 show (⟨k, maskOf (Nat.testBit 0), Trees.of (l.map Nd.said), lo, hi⟩ : Nd) = _
 rw [e, e0]
theorem mask_mask (p : Nat → Bool) : maskOf (maskOf p).testBit = maskOf p := by
 refine Nat.eq_of_testBit_eq fun j => ?_
 unfold maskOf
 rw [testBit_ofBits, testBit_ofBits]
 by_cases h : j < 256 <;> simp [h]
theorem fit_leaf {d : Nat} (hd : d ≤ 64) (p : Nat → Bool) : FitD d 4 (leafN (maskOf p)) := by
 refine ⟨?_, ?_⟩
 ·show (⟨3, maskOf (maskOf p).testBit, .nil, 0, 0⟩ : Nd) = _
  rw [mask_mask]; rfl
 ·rw [deepIn_no (by show brS 4 3 = false; decide)]
  show d + 0 ≤ 64
  omega
theorem postN_form {y : Lex} (x : Nd) (hp : isPost y.kind = true) : ∃ k lo hi z, 6 ≤ k ∧ postN y x = ⟨k, 0, Trees.of [x], lo, hi⟩ ∧ (postN y x).write = kidS k (x.kind, x.write) ++ [z] ∧ (∀ f, Weigh f → f z ≤ f y) := by
 have h5 := (isPost_iff _).1 hp
 have hh : (Trees.of [x]).writes.headD (0, []) = (x.kind, x.write) := Trees.writes_head (by rw [Trees.list_of]; rfl)
 unfold postN
 by_cases h8 : y.kind = 8
 ·rw [if_pos h8]
  exact ⟨9, y.lo, y.hi, _, by decide, rfl, by rw [Nd.write_rep rfl, hh], fun f hf => hf.rep y h8⟩
 ·rw [if_neg h8]
  refine ⟨y.kind + 1, 0, 0, lexK y.kind, by omega, rfl, ?_, fun f hf => hf.sign y (by omega) (by omega)⟩
  rw [Nd.write_post (by show 6 ≤ y.kind + 1 ∧ y.kind + 1 ≤ 8; omega)]
  show kidS (y.kind + 1) ((Trees.of [x]).writes.headD (0, [])) ++ [lexK (y.kind + 1 - 1)] = _
  rw [hh, show y.kind + 1 - 1 = y.kind by omega]
theorem fit_post {d : Nat} {f : Lex → Nat} (hf : Weigh f) {y : Lex} {x : Nd} (hp : isPost y.kind = true) (hx : FitD d 4 x) : FitD d 4 (postN y x) ∧ wK f 4 (postN y x) ≤ wK f 4 x + f y := by
 obtain ⟨k, lo, hi, z, hk, e, hw, hz⟩ := postN_form x hp
 have hbr : brS k x.kind = brS 4 x.kind := brS_same (by omega) (by decide) _
 have hno : brS 4 (postN y x).kind = false := by rw [e]; exact brS_high hk
 refine ⟨⟨?_, ?_⟩, ?_⟩
 ·rw [e]; exact said_of (by omega) (fun u hu => by rw [List.mem_singleton.1 hu]; exact hx.1) _ _
 ·rw [deepIn_no hno]
  have : (postN y x).deep ≤ deepIn 4 x := by
   rw [e, deep_le]
   intro u hu
   rw [Trees.list_of, List.mem_singleton] at hu
   subst hu
   show deepIn k u ≤ _
   unfold deepIn inK
   rw [show brS k (u.kind, u.deep).1 = brS 4 (u.kind, u.deep).1 from hbr]
   exact Nat.le_refl _
  have := hx.2
  omega
 ·rw [wK_no hno, hw, wS_app, wS_cons, wS_nil]
  have h1 := hz f hf
  have h2 : wS f (kidS k (x.kind, x.write)) = wK f 4 x := by unfold wK kidS; rw [hbr]
  omega
theorem fit_posts {d : Nat} {f : Lex → Nat} (hf : Weigh f) : ∀ (L : List Lex) (x : Nd), FitD d 4 x → FitD d 4 (postsG x L).1 ∧ wS f (postsG x L).2 + wK f 4 (postsG x L).1 ≤ wS f L + wK f 4 x
 | [], x, h => ⟨h, Nat.le_refl _⟩
 | y :: L, x, h => by
  unfold postsG
  split
  ·rename_i hp
   obtain ⟨h1, h2⟩ := fit_post hf hp h
   obtain ⟨h3, h4⟩ := fit_posts hf L _ h1
   refine ⟨h3, ?_⟩
   rw [wS_cons]
   omega
  ·exact ⟨h, Nat.le_refl _⟩
theorem fit_part {d : Nat} {f : Lex → Nat} (hd : d ≤ 64) {l : List Nd} (h : ∀ z ∈ l, FitD d 4 z) : FitD d 5 (partN l) ∧ wK f 5 (partN l) ≤ wKs f 4 l := by
 match l, h with
 | [], _ =>
  refine ⟨⟨by rfl, ?_⟩, ?_⟩
  ·rw [deepIn_no (by show brS 5 2 = false; decide)]
   show d + 0 ≤ 64
   omega
  ·rw [wK_no (by show brS 5 2 = false; decide)]
   exact Nat.le_refl _
 | [z], h =>
  have hz := h z (by simp)
  show FitD d 5 z ∧ wK f 5 z ≤ wKs f 4 [z]
  rw [wKs_cons, wKs_nil]
  cases h5 : brS 5 z.kind with
  | true =>
   have h4 := brS_five (p := 4) h5
   have := hz.2
   rw [deepIn_yes h4] at this
   exact ⟨⟨hz.1, by rw [deepIn_yes h5]; omega⟩, by rw [wK_yes h5, wK_yes h4]; omega⟩
  | false =>
   have := hz.2
   have h2 := deepIn_ge 4 z
   have h3 := wK_le f 4 z
   exact ⟨⟨hz.1, by rw [deepIn_no h5]; omega⟩, by rw [wK_no h5]; omega⟩
 | a :: b :: l, h =>
  show FitD d 5 ⟨4, 0, Trees.of (a :: b :: l), 0, 0⟩ ∧ wK f 5 ⟨4, 0, Trees.of (a :: b :: l), 0, 0⟩ ≤ _
  generalize a :: b :: l = m at *
  have hno : brS 5 (⟨4, 0, Trees.of m, 0, 0⟩ : Nd).kind = false := by show brS 5 4 = false; decide
  refine ⟨⟨said_of (by decide) (fun z hz => (h z hz).1) _ _, ?_⟩, ?_⟩
  ·rw [deepIn_no hno]
   have : (⟨4, 0, Trees.of m, 0, 0⟩ : Nd).deep ≤ 64 - d := by
    rw [deep_le]
    intro z hz
    have hz : z ∈ (Trees.of m).list := hz
    rw [Trees.list_of] at hz
    have := (h z hz).2
    show deepIn 4 z ≤ _
    omega
   omega
  ·rw [wK_no hno, Nd.write_cat rfl]
   show wS f (((Trees.of m).writes.map (kidS 4)).flatten) ≤ _
   rw [Trees.writes_list, Trees.list_of]
   exact Nat.le_of_eq (wS_cat f m)
theorem fit_alt {f : Lex → Nat} {l : List Nd} (hl : l ≠ []) {d : Nat} (h : ∀ z ∈ l, FitD d 5 z) : (flatN 5 l).said = flatN 5 l ∧ d + (flatN 5 l).deep ≤ 64 ∧ wS f (flatN 5 l).write + f (lexK 4) ≤ wKs f 5 l + l.length * f (lexK 4) := by
 match l, hl, h with
 | [z], _, h =>
  have hz := h z (by simp)
  have h1 := deepIn_ge 5 z
  have h2 := wK_le f 5 z
  have := hz.2
  refine ⟨hz.1, ?_, ?_⟩
  ·show d + z.deep ≤ 64
   omega
  ·show wS f z.write + f (lexK 4) ≤ _
   rw [wKs_cons, wKs_nil]
   simp
   omega
 | a :: b :: l, _, h =>
  have hd : d ≤ 64 := by have := (h a (by simp)).2; omega
  refine ⟨said_of (by decide) (fun z hz => (h z hz).1) _ _, ?_, ?_⟩
  ·have : (⟨5, 0, Trees.of (a :: b :: l), 0, 0⟩ : Nd).deep ≤ 64 - d := by
    rw [deep_le]
    intro z hz
    have hz : z ∈ (Trees.of (a :: b :: l)).list := hz
    rw [Trees.list_of] at hz
    have := (h z hz).2
    show deepIn 5 z ≤ _
    omega
   show d + (⟨5, 0, Trees.of (a :: b :: l), 0, 0⟩ : Nd).deep ≤ 64
   omega
  ·show wS f (⟨5, 0, Trees.of (a :: b :: l), 0, 0⟩ : Nd).write + _ ≤ _
   have hw : (⟨5, 0, Trees.of (a :: b :: l), 0, 0⟩ : Nd).write = (barL (a :: b :: l)).drop 1 := by
    rw [Nd.write_alt rfl]
    show barsS ((Trees.of (a :: b :: l)).writes.map (kidS 5)) = _
    rw [Trees.writes_list, Trees.list_of]
    rfl
   have hb := wS_bar f (a :: b :: l)
   rw [barL_cons, wS_cons] at hb
   rw [hw, barL_cons, List.drop_one, List.tail_cons]
   omega
def AltF (f : Lex → Nat) (n : Nat) : Prop := ∀ op acc L x R, op.length ≤ 64 → altG n op acc L = .ok (x, R) → ∃ ps, x = flatN 5 (acc ++ ps) ∧ ps ≠ [] ∧ (∀ z ∈ ps, FitD op.length 5 z) ∧ wS f R + (wKs f 5 ps + ps.length * f (lexK 4)) ≤ wS f L + f (lexK 4)
def PiecesF (f : Lex → Nat) (n : Nat) : Prop := ∀ op acc L ps R, op.length ≤ 64 → piecesG n op acc L = .ok (ps, R) → ∃ qs, ps = acc ++ qs ∧ (∀ z ∈ qs, FitD op.length 4 z) ∧ wS f R + wKs f 4 qs ≤ wS f L
def AtomF (f : Lex → Nat) (n : Nat) : Prop := ∀ op L z R, op.length ≤ 64 → atomG n op L = .ok (some z, R) → FitD op.length 4 z ∧ wS f R + wK f 4 z ≤ wS f L
theorem readG_fit {f : Lex → Nat} (hf : Weigh f) (n : Nat) : AltF f n ∧ PiecesF f n ∧ AtomF f n := by
 induction n with
 | zero => exact ⟨fun _ _ _ _ _ _ h => (by rw [altG] at h; cases h), fun _ _ _ _ _ _ h => (by rw [piecesG] at h; cases h), fun _ _ _ _ _ h => (by rw [atomG] at h; cases h)⟩
 | succ n ih =>
  obtain ⟨ia, ip, it⟩ := ih
  obtain ⟨sa, sp, st⟩ := readG_suf n
  refine ⟨fun op acc L x R ho h => ?_, fun op acc L ps R ho h => ?_, fun op L z R ho h => ?_⟩
  ·cases hp : piecesG n op [] L with
   | error e => rw [altG_bad hp] at h; cases h
   | ok r =>
    obtain ⟨ps, R1⟩ := r
    rw [altG_ok hp] at h
    obtain ⟨qs, e, hq, hw⟩ := ip op [] L ps R1 ho hp
    rw [List.nil_append] at e
    subst e
    obtain ⟨hF, hW⟩ := fit_part (f := f) ho hq
    have hone : wKs f 5 [partN ps] = wK f 5 (partN ps) := by rw [wKs_cons, wKs_nil]; rfl
    have hend : ∃ qs, flatN 5 (acc ++ [partN ps]) = flatN 5 (acc ++ qs) ∧ qs ≠ [] ∧ (∀ z ∈ qs, FitD op.length 5 z) ∧ wS f R1 + (wKs f 5 qs + qs.length * f (lexK 4)) ≤ wS f L + f (lexK 4) :=
     ⟨[partN ps], rfl, by simp, fun z hz => by rw [List.mem_singleton.1 hz]; exact hF, by rw [hone]; simp; omega⟩
    cases R1 with
    | nil => rw [tailG_nil] at h; cases h; exact hend
    | cons c R' =>
     by_cases h4 : c.kind = 4
     ·rw [tailG_bar h4] at h
      obtain ⟨qs, e1, e2, e3, e4⟩ := ia op (acc ++ [partN ps]) R' x R ho h
      refine ⟨partN ps :: qs, by rw [e1, List.append_assoc]; rfl, by simp, fun z hz => ?_, ?_⟩
      ·rcases List.mem_cons.1 hz with rfl | hz
       ·exact hF
       ·exact e3 z hz
      ·have hc := hf.sign c (by omega) (by omega)
       rw [h4] at hc
       rw [wS_cons] at hw
       rw [wKs_cons, List.length_cons, Nat.add_mul, Nat.one_mul]
       omega
     ·rw [tailG_stop h4] at h; cases h; exact hend
  ·cases hp : atomG n op L with
   | error e => rw [piecesG_bad hp] at h; cases h
   | ok r =>
    obtain ⟨x, R1⟩ := r
    cases x with
    | none =>
     rw [piecesG_end hp] at h
     cases h
     have := wS_suf (f := f) (st _ _ _ _ hp).1
     exact ⟨[], (by simp), (fun z hz => (by cases hz)), (by rw [wKs_nil]; omega)⟩
    | some x =>
     rw [piecesG_go hp] at h
     obtain ⟨h1, h2⟩ := it op L x R1 ho hp
     obtain ⟨h3, h4⟩ := fit_posts hf R1 x h1
     obtain ⟨qs, e1, e2, e3⟩ := ip op _ _ ps R ho h
     refine ⟨(postsG x R1).1 :: qs, by rw [e1, List.append_assoc]; rfl, fun z hz => ?_, by rw [wKs_cons]; omega⟩
     rcases List.mem_cons.1 hz with rfl | hz
     ·exact h3
     ·exact e2 z hz
  ·cases L with
   | nil => rw [atomG_nil] at h; cases h
   | cons y L =>
    by_cases h1 : y.kind = 1
    ·rw [atomG_set h1] at h
     cases h
     refine ⟨fit_leaf ho _, ?_⟩
     rw [wK_no (by show brS 4 3 = false; decide), Nd.write_leaf (.inr rfl), wS_cons, wS_nil, wS_cons]
     have := hf.set y h1
     show wS f R + (f ⟨1, 0, (maskOf y.set).testBit, 0, 0⟩ + 0) ≤ _
     omega
    by_cases h2 : y.kind = 2
    ·by_cases hd : op.length = 64
     ·rw [atomG_deep h2 hd] at h; cases h
     cases hq : altG n (y.place :: op) [] L with
     | error e => rw [atomG_in h2 hd hq] at h; cases h
     | ok q =>
      obtain ⟨u, T⟩ := q
      cases T with
      | nil => rw [atomG_open h2 hd hq (fun c R' e => by cases e)] at h; cases h
      | cons c T =>
       by_cases h3 : c.kind = 3
       ·rw [atomG_close h2 hd hq h3] at h
        cases h
        obtain ⟨ps, e1, e2, e3, e4⟩ := ia (y.place :: op) [] L _ _ (by simp; omega) hq
        rw [List.nil_append] at e1
        subst e1
        obtain ⟨g1, g2, g3⟩ := fit_alt (f := f) e2 e3
        have hy := hf.sign y (by omega) (by omega)
        have hc := hf.sign c (by omega) (by omega)
        rw [h2] at hy
        rw [h3] at hc
        rw [List.length_cons] at g2
        rw [wS_cons] at e4
        rw [wS_cons]
        refine ⟨⟨g1, ?_⟩, ?_⟩
        ·unfold deepIn inK
         simp only
         split <;> omega
        ·cases hb : brS 4 (flatN 5 ps).kind
         ·rw [wK_no hb]; omega
         ·rw [wK_yes hb]; omega
       ·rw [atomG_open h2 hd hq (fun c R' e => by cases e; exact h3)] at h; cases h
    cases hpo : isPost y.kind with
    | true => rw [atomG_post hpo] at h; cases h
    | false =>
     by_cases h4 : y.kind = 3 ∧ op.length = 0
     ·rw [atomG_lone h4.1 h4.2] at h; cases h
     ·rw [atomG_stop h1 h2 hpo h4] at h; cases h
theorem alone_sound {x : Nd} (h : Alone x) : aloneN x = true := by
 have e0 := word_empty 0 (by decide)
 have e1 := word_empty 1 (by decide)
 have e2 := word_empty 2 (by decide)
 have e3 := word_empty 3 (by decide)
 have ez : Nat.testBit 0 = noSet := by funext j; rw [Nat.zero_testBit]; rfl
 unfold aloneN aloneV
 rcases h with ⟨h1, h2, h3, h4⟩ | ⟨hs, h⟩
 ·rw [if_pos h1]; simp [h2, h3, h4]
 rw [hs, ez, e0, e1, e2, e3]
 rcases h with ⟨h1, h2, h3, h4⟩ | ⟨h1, h2, h3, h4⟩ | ⟨h1, h2, h3, h4⟩ | ⟨h1, h2, h3, h4, h5⟩
 ·rw [if_neg (by omega), if_neg (by simp), if_neg (by omega)]; simp [h1, h2, h3, h4, arityS]
 ·rw [if_neg (by omega), if_neg (by simp), if_neg (by omega)]
  rcases h1 with h1 | h1 <;> simp [h1, h2, h3, h4, arityS]
 ·rw [if_neg (by omega), if_neg (by simp), if_neg (by omega)]
  rcases h1 with h1 | h1 | h1 <;> simp [h1, h2, h3, h4, arityS]
 ·rw [if_neg (by omega), if_neg (by simp), if_pos h1]
  unfold timesB
  simp [h2, h3, h4]
  omega
theorem sound_nodes : ∀ (F : Trees), Sound F → ∀ y ∈ F.nodes, aloneN y = true
 | .nil, _, y, hy => by cases hy
 | .cons k s ks lo hi r, h, y, hy => by
  rw [Trees.nodes] at hy
  rcases List.mem_cons.1 hy with rfl | hy
  ·exact alone_sound h.1
  ·rcases List.mem_append.1 hy with hy | hy
   ·exact sound_nodes ks h.2.1 y hy
   ·exact sound_nodes r h.2.2 y hy
theorem sound_right {x : Nd} (h : SoundN x) (hs : x.size ≤ 4096) : rightT x = true := by
 unfold rightT
 rw [Bool.and_eq_true]
 refine ⟨by rw [x.nodes_len]; exact decide_eq_true hs, List.all_eq_true.2 fun y hy => ?_⟩
 rcases List.mem_cons.1 hy with rfl | hy
 ·exact alone_sound h.1
 ·exact sound_nodes _ h.2 y hy
theorem short_read {L : List Lex} {x : Nd} (h : lexemesS L = .ok x) : rightT x = true ∧ x.said = x ∧ lexsS x = .ok x.write ∧ L.length ≤ 1024 ∧ ∀ f, Weigh f → wS f x.write ≤ wS f L := by
 have hR := sound_right (lexemesS_sound h) (Nat.le_trans (lexemesS_size h) (by decide))
 have hC := clear_tree hR
 have hall := write_right hR
 unfold lexemesS at h
 split at h
 ·cases h
 split at h
 ·cases h
 rename_i hL
 split at h
 ·cases h
 rename_i u T ha
 cases h
 have hfit : ∀ f, Weigh f → x.said = x ∧ x.deep ≤ 64 ∧ wS f x.write ≤ wS f L := fun f hf => by
  obtain ⟨ps, e1, e2, e3, e4⟩ := (readG_fit hf _).1 [] [] L x T (by simp) ha
  rw [List.nil_append] at e1
  subst e1
  obtain ⟨g1, g2, g3⟩ := fit_alt (f := f) e2 e3
  simp only [List.length_nil] at g2
  exact ⟨g1, by omega, by omega⟩
 have h1 := hfit (fun _ => 1) ⟨fun _ _ => Nat.le_refl _, fun _ _ _ => Nat.le_refl _, fun _ _ => Nat.le_refl _⟩
 have hlen : x.write.length ≤ L.length := by have := h1.2.2; rw [wS_one, wS_one] at this; exact this
 refine ⟨hR, h1.1, ?_, by omega, fun f hf => (hfit f hf).2.2⟩
 have hw : wrongS [] false x.write = none := by
  have := hC.part [] false [] (by have := h1.2.1; simp only [List.length_nil]; omega) kinds_nil (fun y L' e => by cases e)
  rw [List.append_nil] at this
  exact this
 have hrw := read_wrong x.write hC.kinds
 have hok : ∃ z, lexemesS x.write = .ok z := by
  unfold lexemesS
  rw [if_neg (by rw [hall]; decide), dif_neg (by omega)]
  cases ha2 : altG (3 * x.write.length + 3) [] [] x.write with
  | error e => rw [ha2, hw] at hrw; cases hrw
  | ok r => exact ⟨r.1, rfl⟩
 obtain ⟨z, hz⟩ := hok
 unfold lexsS
 rw [if_neg (by rw [hR]; decide), hz]
end Go.Proofs.YtfekpkelmliejaaGreatDoor
