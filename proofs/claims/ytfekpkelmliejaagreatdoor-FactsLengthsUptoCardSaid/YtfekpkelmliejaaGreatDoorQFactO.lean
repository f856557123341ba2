/-
  The reference of chapter 10: edge, First, Last.
-/
import Derived.Test.YtfekpkelmliejaaGreatDoorQZ06
import Derived.Test.YtfekpkelmliejaaGreatDoorQRefTwo
namespace Go.Proofs.YtfekpkelmliejaaGreatDoor
open Go.RowKit
set_option linter.unusedSimpArgs false
set_option linter.unusedVariables false
set_option maxRecDepth 100000

def SumS.edge (en : Bool) (s : SumS) : Nat → Bool := if en = true then s.last else s.first
/-- What the loop gathers. -/
def edgeGo (cat en : Bool) : (Nat → Bool) → List SumS → (Nat → Bool)
  | p, [] => p
  | p, s :: r => if cat = true ∧ s.null = false then orB p (s.edge en) else edgeGo cat en (orB p (s.edge en)) r
def kidsV (en : Bool) (l : List SumS) : List SumS := if en = true then l.reverse else l
theorem edge_alt (en : Bool) : ∀ (l : List SumS) (p : Nat → Bool), edgeGo false en p l = (l.map (SumS.edge en)).foldl orB p
  | [], p => rfl
  | s :: r, p => by unfold edgeGo; rw [if_neg (by simp), edge_alt en r, List.map_cons, List.foldl_cons]
theorem orB_fold (p : Nat → Bool) : ∀ (l : List (Nat → Bool)) (q : Nat → Bool), l.foldl orB (orB p q) = orB p (l.foldl orB q)
  | [], q => rfl
  | a :: l, q => by rw [List.foldl_cons, List.foldl_cons, orB_assoc, orB_fold p l]
theorem orB_rev : ∀ (l : List (Nat → Bool)), l.reverse.foldl orB noB = l.foldl orB noB
  | [] => rfl
  | a :: l => by
    rw [List.reverse_cons, List.foldl_append, List.foldl_cons, List.foldl_nil, orB_rev l, List.foldl_cons, no_orB, orB_comm]
    have := orB_fold a l noB
    rw [orB_no] at this
    exact this.symm
theorem edge_alts {l : List SumS} (en : Bool) (h : ∀ s ∈ l, SumOk s) : edgeGo false en noB (kidsV en l) = (faltF l).edge en := by
  obtain ⟨h1, h2⟩ := alt_edges l nothingF ok_nothing h
  rw [edge_alt]
  unfold kidsV SumS.edge
  cases en with
  | false =>
    simp only [Bool.false_eq_true, if_false]
    exact h1.symm
  | true =>
    simp only [if_true]
    rw [List.map_reverse, orB_rev]
    exact h2.symm
theorem edge_first : ∀ (r : List SumS) (a : SumS), a.null = true → SumOk a → (∀ s ∈ r, SumOk s) → (r.foldl behindF a).hollow = false → edgeGo true false a.first r = (r.foldl behindF a).first
  | [], a, _, _, _, _ => rfl
  | s :: r, a, ha, oa, hok, hh => by
    have os := hok s (by simp)
    rw [List.foldl_cons] at hh ⊢
    have h1 : (behindF a s).hollow = false := by rw [cat_hollow] at hh; simp at hh; exact hh.1
    have h2 := h1
    rw [behind_hollow] at h2
    simp at h2
    have hf : (behindF a s).first = orB a.first s.first := by rw [behind_full h2.1 h2.2, ha]; rfl
    have hn := behind_null h2.1 h2.2 oa os
    rw [ha, Bool.true_and] at hn
    unfold edgeGo
    show (if true = true ∧ s.null = false then orB a.first s.first else edgeGo true false (orB a.first s.first) r) = _
    cases hs : s.null with
    | false =>
      rw [if_pos ⟨rfl, rfl⟩, cat_first r _ (by rw [hn, hs]) (ok_behind oa os) (fun t ht => hok t (by simp [ht])) hh, hf]
    | true =>
      rw [if_neg (by simp), ← hf]
      exact edge_first r _ (by rw [hn, hs]) (ok_behind oa os) (fun t ht => hok t (by simp [ht])) hh
theorem edge_last : ∀ (v : List SumS) (p : Nat → Bool), (fcatF v.reverse).hollow = false → edgeGo true true p v = orB p (fcatF v.reverse).last
  | [], p, _ => (orB_no p).symm
  | s :: v, p, hh => by
    rw [List.reverse_cons, fcatF_snoc] at hh ⊢
    have h2 := hh
    rw [behind_hollow] at h2
    simp at h2
    rw [behind_full h2.1 h2.2]
    unfold edgeGo
    show (if true = true ∧ s.null = false then orB p s.last else edgeGo true true (orB p s.last) v) = orB p (if s.null = true then orB (fcatF v.reverse).last s.last else s.last)
    cases hs : s.null with
    | false => rw [if_pos ⟨rfl, rfl⟩, if_neg (by simp)]
    | true =>
      rw [if_neg (by simp), if_pos rfl, edge_last v _ h2.1, orB_assoc, orB_comm s.last]
theorem edge_cats {l : List SumS} (en : Bool) (h : ∀ s ∈ l, SumOk s) (hh : (fcatF l).hollow = false) : edgeGo true en noB (kidsV en l) = (fcatF l).edge en := by
  unfold kidsV
  cases en with
  | false => exact edge_first l fnilF rfl ok_nil h hh
  | true =>
    have := edge_last l.reverse noB (by rw [List.reverse_reverse]; exact hh)
    rw [List.reverse_reverse, no_orB] at this
    exact this
theorem edge_one (en : Bool) (s : SumS) : edgeGo false en noB (kidsV en [s]) = s.edge en := by
  unfold kidsV
  cases en <;> · show orB noB _ = _; exact no_orB _
theorem kidsV_len (en : Bool) (l : List SumS) : (kidsV en l).length = l.length := by unfold kidsV; split <;> simp
theorem kidsV_get {en : Bool} {l : List SumS} {i k : Nat} {s : SumS} (hi : i < l.length) (hk : k = if en = true then l.length - 1 - i else i) (hs : l[k]? = some s) : (kidsV en l)[i]? = some s := by
  unfold kidsV
  cases en with
  | false => simp at hk; subst hk; exact hs
  | true => simp at hk; subst hk; rw [if_pos rfl, List.getElem?_reverse hi]; exact hs
theorem edge_go_step {cat en : Bool} {l : List SumS} {i : Nat} {s : SumS} {p E : Nat → Bool} (hE : edgeGo cat en p (l.drop i) = E) (hs : l[i]? = some s) :
    if cat = true ∧ s.null = false then orB p (s.edge en) = E else edgeGo cat en (orB p (s.edge en)) (l.drop (i + 1)) = E := by
  have hlt : i < l.length := (List.getElem?_eq_some_iff.1 hs).1
  have he : l.drop i = s :: l.drop (i + 1) := by
    rw [List.drop_eq_getElem_cons hlt, (List.getElem?_eq_some_iff.1 hs).2]
  rw [he] at hE
  unfold edgeGo at hE
  split
  · rename_i h
    rw [if_pos h] at hE
    exact hE
  · rename_i h
    rw [if_neg h] at hE
    exact hE
end Go.Proofs.YtfekpkelmliejaaGreatDoor
