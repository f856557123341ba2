/- Texts of the claim. -/
import Derived.Test.YtfcblmbieiibmaaDoorKMatL
import Derived.Test.YtfcblmbieiibmaaDoorKZ03
namespace Go.Proofs.YtfcblmbieiibmaaDoor
open Go.RowKit
set_option linter.unusedSimpArgs false
set_option linter.unusedVariables false
set_option maxHeartbeats 8000000
def loK (z : Nd) : Int := if z.kind = 7 then 1 else if z.kind = 9 then z.lo else 0
def hiK (z : Nd) : Int := if z.kind = 6 ∨ z.kind = 7 then -1 else if z.kind = 9 then z.hi else 1
theorem rels_one1 {z y : Nd} (hy : z.kids.list = [y]) (bs : List Nat) : z.kids.rels bs = [y.rel bs] := by rw [Trees.rels_list, hy]; rfl
theorem rel_any {z y : Nd} (h6 : 6 ≤ z.kind) (h9 : z.kind ≤ 9) (hy : z.kids.list = [y]) (bs : List Nat) (i j : Nat) : z.rel bs i j ↔ repR (loK z) (hiK z) (y.rel bs) i j := by
 have e : z.rel bs = saysK z.kind z.set z.lo z.hi bs [y.rel bs] := by
  show saysK z.kind z.set z.lo z.hi bs (z.kids.rels bs) = _
  rw [rels_one1 hy]
 rw [e]
 unfold loK hiK
 obtain hk | hk | hk | hk : z.kind = 6 ∨ z.kind = 7 ∨ z.kind = 8 ∨ z.kind = 9 := by omega
 ·rw [hk]
  simp [saysK]
  exact ⟨fun ⟨k, h⟩ => ⟨k, by omega, .inl (by omega), h⟩, fun ⟨k, _, _, h⟩ => ⟨k, h⟩⟩
 ·rw [hk]
  simp [saysK]
  exact ⟨fun ⟨m, h1, k, h2⟩ => ⟨k + 1, by omega, .inl (by omega), m, h1, h2⟩, fun ⟨k, h1, _, h⟩ => by
   obtain ⟨k', rfl⟩ : ∃ k', k = k' + 1 := ⟨k - 1, by omega⟩
   obtain ⟨m, h3, h4⟩ := h
   exact ⟨m, h3, k', h4⟩⟩
 ·rw [hk]
  simp [saysK]
  constructor
  ·rintro (h | h)
   ·exact ⟨0, by omega, .inr (by omega), h⟩
   ·exact ⟨1, by omega, .inr (by omega), itR_one.2 h⟩
  ·rintro ⟨k, h1, h2, h⟩
   obtain rfl | rfl : k = 0 ∨ k = 1 := by omega
   ·exact .inl h
   ·exact .inr (itR_one.1 h)
 ·rw [hk]
  simp [saysK]
def stepS (s : Nat) (bs : List Nat) (t : Int) : Bool := match bs[t.toNat]? with
 | some c => s.testBit c
 | none => false
def setL (s : Nat) (bs : List Nat) (L : List Int) : List Int := (L.filter (stepS s bs)).map (· + 1)
theorem setL_yes {s : Nat} {bs : List Nat} {L : List Int} {j : Nat} {t : Int} (h : L[j]? = some t) (hs : stepS s bs t = true) : setL s bs (L.take (j + 1)) = setL s bs (L.take j) ++ [t + 1] := by
 unfold setL
 rw [List.take_add_one, h, List.filter_append, List.map_append]
 simp [hs]
theorem setL_no {s : Nat} {bs : List Nat} {L : List Int} {j : Nat} {t : Int} (h : L[j]? = some t) (hs : stepS s bs t = false) : setL s bs (L.take (j + 1)) = setL s bs (L.take j) := by
 unfold setL
 rw [List.take_add_one, h, List.filter_append, List.map_append]
 simp [hs]
theorem setL_len (s : Nat) (bs : List Nat) (L : List Int) : (setL s bs L).length ≤ L.length := by
 unfold setL
 rw [List.length_map]
 exact List.length_filter_le _ _
theorem setL_ends {s : Nat} {bs : List Nat} {L : List Int} (h : PlacesL bs.length L) : EndsL (setR s bs) L (setL s bs L) := by
 refine ⟨?_, fun t => ?_⟩
 ·unfold Rises setL
  rw [List.pairwise_map]
  exact (List.Pairwise.filter _ h.1).imp fun {x y} h => by omega
 ·unfold setL
  rw [List.mem_map]
  constructor
  ·rintro ⟨x, h1, rfl⟩
   rw [List.mem_filter] at h1
   obtain ⟨h2, h3⟩ := h1
   obtain ⟨i, rfl⟩ := Int.eq_ofNat_of_zero_le (h.2 x h2).1
   unfold stepS at h3
   rw [Int.toNat_natCast] at h3
   cases hc : bs[i]? with
   | none => rw [hc] at h3; cases h3
   | some c =>
    rw [hc] at h3
    exact ⟨i, i + 1, h2, ⟨c, hc, h3, rfl⟩, by omega⟩
  ·rintro ⟨i, j, h1, ⟨c, h2, h3, h4⟩, rfl⟩
   refine ⟨(i : Int), List.mem_filter.2 ⟨h1, ?_⟩, by omega⟩
   unfold stepS
   rw [Int.toNat_natCast, h2]
   exact h3
def catTo (z : Nd) (bs : List Nat) (j : Nat) : RelW := catR ((z.kids.list.take j).map fun y => y.rel bs)
def altTo (z : Nd) (bs : List Nat) (j : Nat) : RelW := altR ((z.kids.list.take j).map fun y => y.rel bs)
theorem catTo_zero (z : Nd) (bs : List Nat) : catTo z bs 0 = idR := rfl
theorem altTo_zero (z : Nd) (bs : List Nat) (i j : Nat) : ¬ altTo z bs 0 i j := fun ⟨R, h, _⟩ => by simp at h
theorem catTo_next {z y : Nd} {bs : List Nat} {k : Nat} (hy : z.kids.list[k]? = some y) (i j : Nat) : (∃ m, catTo z bs k i m ∧ y.rel bs m j) ↔ catTo z bs (k + 1) i j := by
 unfold catTo
 rw [List.take_add_one, hy, List.map_append]
 exact (catR_snoc (y.rel bs) _ i j).symm
theorem altTo_next {z y : Nd} {bs : List Nat} {k : Nat} (hy : z.kids.list[k]? = some y) (i j : Nat) : (altTo z bs k i j ∨ y.rel bs i j) ↔ altTo z bs (k + 1) i j := by
 unfold altTo
 rw [List.take_add_one, hy, List.map_append]
 exact (altR_snoc (y.rel bs) _ i j).symm
theorem catTo_all {z : Nd} (hk : z.kind = 4) (bs : List Nat) : z.rel bs = catTo z bs z.kids.len := by
 unfold catTo
 rw [← Trees.len_list, List.take_length, ← Trees.rels_list]
 show saysK z.kind z.set z.lo z.hi bs (z.kids.rels bs) = _
 rw [hk]
 simp [saysK]
theorem altTo_all {z : Nd} (hk : z.kind = 5) (bs : List Nat) : z.rel bs = altTo z bs z.kids.len := by
 unfold altTo
 rw [← Trees.len_list, List.take_length, ← Trees.rels_list]
 show saysK z.kind z.set z.lo z.hi bs (z.kids.rels bs) = _
 rw [hk]
 simp [saysK]
theorem ends_stop {R : RelW} {k : Nat} {l : List Int} (h : EndsL (itR R (k + 1)) l []) {lo hi : Int} (hlo : (k : Int) < lo) : EndsL (repR lo hi R) l [] := by
 refine ⟨List.Pairwise.nil, fun t => ⟨fun ht => by simp at ht, fun ⟨i, j, h1, ⟨m, h2, h3, h4⟩, h5⟩ => ?_⟩⟩
 obtain ⟨d, rfl⟩ : ∃ d, m = k + 1 + d := ⟨m - (k + 1), by omega⟩
 obtain ⟨x, h6, _⟩ := itR_add.1 h4
 have := (h.2 x).2 ⟨i, x, h1, h6, rfl⟩
 simp at this
theorem places_one {n i : Nat} (h : i ≤ n) : PlacesL n [(i : Int)] := ⟨by simp [Rises], fun t ht => by simp at ht; omega⟩
theorem places_none (n : Nat) : PlacesL n [] := ⟨List.Pairwise.nil, fun t ht => by simp at ht⟩
theorem places_short : ∀ {n : Nat} {L : List Int}, PlacesL n L → L.length ≤ n + 1 := fun {n L} h => by
 have : ∀ (L : List Int) (m : Int), Rises L → (∀ t ∈ L, m ≤ t ∧ t ≤ (n : Int)) → (L.length : Int) ≤ (n : Int) + 1 - m ∨ L = [] := by
  intro L
  induction L with
  | nil => exact fun _ _ _ => .inr rfl
  | cons a l ih =>
   intro m hr hm
   unfold Rises at hr
   rw [List.pairwise_cons] at hr
   have ha := hm a (by simp)
   rcases ih (a + 1) hr.2 (fun t ht => ⟨by have := hr.1 t ht; omega, (hm t (by simp [ht])).2⟩) with h1 | h1
   ·left
    rw [List.length_cons]
    omega
   ·left
    rw [h1]
    simp
    omega
 rcases this L 0 h.1 h.2 with h1 | h1
 ·omega
 ·rw [h1]
  simp
end Go.Proofs.YtfcblmbieiibmaaDoor
