/-
  Two trees, one behind the other, and one of both: what is known of them, and their least words. No program in sight.
-/
import Derived.Test.YtfekpkelmliejaaGreatDoorQLstS
import Derived.Test.YtfekpkelmliejaaGreatDoorQZ03
namespace Go.Proofs.YtfekpkelmliejaaGreatDoor
open Go.RowKit
set_option linter.unusedSimpArgs false
set_option linter.unusedVariables false
set_option maxRecDepth 100000

def catN2 (a b : Nd) : Nd := ⟨4, 0, Trees.of [a, b], 0, 0⟩
def altN2 (a b : Nd) : Nd := ⟨5, 0, Trees.of [a, b], 0, 0⟩
theorem sums_two (a b : Nd) : (Trees.of [a, b]).sums = [a.sum, b.sum] := by rw [Trees.sums_list, Trees.list_of]; rfl
theorem leasts_two (a b : Nd) : (Trees.of [a, b]).leasts = [a.least, b.least] := by rw [Trees.leasts_list, Trees.list_of]; rfl
theorem addF_zero {a : Int} (h : a ≤ endF) : addF 0 a = a := by
  unfold addF topI endF at *
  split <;> omega
theorem behind_nil {A : SumS} (o : SumOk A) : behindF fnilF A = A := by
  cases hh : A.hollow with
  | true =>
    unfold behindF
    rw [if_pos (.inr hh), o.none hh]
  | false =>
    have a1 := o.short hh
    have a2 := o.long hh
    unfold behindF
    rw [if_neg (by rw [hh]; simp [fnilF])]
    obtain ⟨h, s, l, f, g⟩ := A
    simp only at hh a1 a2
    subst hh
    have e1 : addF fnilF.short s = s := addF_zero (by unfold topI endF at *; omega)
    have e2 : addF fnilF.long l = l := addF_zero a2.2
    have e3 : fnilF.null = true := by decide
    simp only [e1, e2, e3, if_true]
    rw [show orB fnilF.first f = f from no_orB f, show orB fnilF.last g = g from no_orB g]
    simp
theorem cat_sum2 {a b : Nd} (o : SumOk a.sum) : (catN2 a b).sum = behindF a.sum b.sum := by
  show ofF 4 0 0 0 (Trees.of [a, b]).sums = _
  rw [sums_two]
  show behindF (behindF fnilF a.sum) b.sum = _
  rw [behind_nil o]
theorem alt_sum2 (a b : Nd) : (altN2 a b).sum = eitherF a.sum b.sum := by
  show ofF 5 0 0 0 (Trees.of [a, b]).sums = _
  rw [sums_two]
  rfl
theorem cat_least2 (a b : Nd) : (catN2 a b).least = a.least ++ b.least := by
  show leastP 4 0 0 (Trees.of [a, b]).sums (Trees.of [a, b]).leasts = _
  rw [leasts_two]
  show [a.least, b.least].flatten = _
  simp
theorem cat_first2 (a b : Nd) (oa : SumOk a.sum) (ob : SumOk b.sum) : (altN2 a b).sum.first = orB a.sum.first b.sum.first := by rw [alt_sum2]; exact (either_first oa ob).1
theorem cat_null2 {a b : Nd} (oa : SumOk a.sum) (ob : SumOk b.sum) : (catN2 a b).sum.null = (a.sum.null && b.sum.null) := by
  rw [cat_sum2 oa]
  cases ha : a.sum.hollow with
  | true => simp [SumS.null, behind_hollow, ha]
  | false =>
    cases hb : b.sum.hollow with
    | true => simp [SumS.null, behind_hollow, hb]
    | false => exact behind_null ha hb oa ob
/-- Is the least word of so many bytes at most? -/
def thereF (s : SumS) : Bool := !s.hollow && decide (s.short ≤ 2000)
theorem there_one {s : SumS} (h : s.short ≤ 1000) : thereF s = !s.hollow := by unfold thereF; rw [decide_eq_true (by omega), Bool.and_true]
theorem there_cat {a b : Nd} (oa : SumOk a.sum) (ob : SumOk b.sum) (ha : a.sum.short ≤ 1000) (hb : b.sum.short ≤ 1000) : thereF (catN2 a b).sum = (!a.sum.hollow && !b.sum.hollow) := by
  rw [cat_sum2 oa]
  unfold thereF
  rw [behind_hollow]
  cases h1 : a.sum.hollow with
  | true => rfl
  | false =>
    cases h2 : b.sum.hollow with
    | true => rfl
    | false =>
      have a1 := oa.short h1
      have b1 := ob.short h2
      rw [behind_full h1 h2]
      have : addF a.sum.short b.sum.short ≤ 2000 := by
        unfold addF topI endF
        rw [if_neg (by omega)]
        omega
      simp [this]
theorem there_alt {a b : Nd} (oa : SumOk a.sum) (ob : SumOk b.sum) (ha : a.sum.short ≤ 1000) (hb : b.sum.short ≤ 1000) : thereF (altN2 a b).sum = (!a.sum.hollow || !b.sum.hollow) := by
  rw [alt_sum2]
  unfold thereF
  rw [either_hollow]
  cases h1 : a.sum.hollow with
  | true =>
    rw [either_left h1]
    have : b.sum.short ≤ 2000 := by omega
    simp [this]
  | false =>
    cases h2 : b.sum.hollow with
    | true =>
      rw [either_right h1 h2]
      have : a.sum.short ≤ 2000 := by omega
      simp [this]
    | false =>
      rw [either_full h1 h2]
      have : min a.sum.short b.sum.short ≤ 2000 := by omega
      simp [this]
/-- What is found of the least word of one of two. -/
theorem alt_two2 {a b : Nd} (oa : SumOk a.sum) (ob : SumOk b.sum) (la : LenP a.sum a.least) (lb : LenP b.sum b.least) (ha : a.sum.short ≤ 1000) (hb : b.sum.short ≤ 1000) (h : a.sum.hollow = false ∨ b.sum.hollow = false) :
    (((altN2 a b).least = a.least ∧ a.sum.hollow = false) ∨ ((altN2 a b).least = b.least ∧ b.sum.hollow = false)) ∧
    (a.sum.hollow = false → lessW a.least (altN2 a b).least = false) ∧ (b.sum.hollow = false → lessW b.least (altN2 a b).least = false) := by
  have hS : ∀ s ∈ [a.sum, b.sum], SumOk s := by
    intro s hs
    simp at hs
    rcases hs with rfl | rfl
    · exact oa
    · exact ob
  have he : (altN2 a b).least = minW (rpick [a.sum, b.sum] [a.least, b.least]) := by
    show leastP 5 0 0 (Trees.of [a, b]).sums (Trees.of [a, b]).leasts = _
    rw [leasts_two, sums_two]
    refine (alt_same (S := [a.sum, b.sum]) (L := [a.least, b.least]) ⟨la, lb, trivial⟩ hS ?_ (by intro s hs; simp at hs; rcases hs with rfl | rfl <;> omega)).symm
    show (eitherF (eitherF nothingF a.sum) b.sum).hollow = false
    rw [either_hollow, either_hollow]
    rcases h with h | h <;> simp [h, nothingF]
  rw [he]
  cases h1 : a.sum.hollow with
  | true =>
    have h2 : b.sum.hollow = false := by rcases h with h | h; · rw [h1] at h; cases h
                                         · exact h
    rw [show rpick [a.sum, b.sum] [a.least, b.least] = [b.least] by simp [rpick, h1, h2]]
    exact ⟨.inr ⟨rfl, h2⟩, fun h => (by cases h), fun _ => less_irrefl _⟩
  | false =>
    cases h2 : b.sum.hollow with
    | true =>
      rw [show rpick [a.sum, b.sum] [a.least, b.least] = [a.least] by simp [rpick, h1, h2]]
      exact ⟨.inl ⟨rfl, rfl⟩, fun _ => less_irrefl _, fun h => by cases h⟩
    | false =>
      rw [show rpick [a.sum, b.sum] [a.least, b.least] = [a.least, b.least] by simp [rpick, h1, h2]]
      have hm := min_is (l := [a.least, b.least]) (by simp)
      refine ⟨?_, fun _ => hm.le _ (by simp), fun _ => hm.le _ (by simp)⟩
      have := hm.mem
      generalize minW [a.least, b.least] = u at *
      simp at this
      rcases this with h | h
      · exact .inl ⟨h, rfl⟩
      · exact .inr ⟨h, rfl⟩
/-- The law: what is put together. -/
structure Joined (a b : Nd) (p q r s : Bool) (v w u t : List Nat) : Prop where
  hp : p = !a.sum.hollow
  hq : q = !b.sum.hollow
  hr : r = (p && q)
  hs : s = (p || q)
  hu : r = true → u = v ++ w
  ht : s = true → t = v ∨ t = w
  tv : s = true → p = true → lessW v t = false
  tw : s = true → q = true → lessW w t = false
  first : (altN2 a b).sum.first = orB a.sum.first b.sum.first
  null : (catN2 a b).sum.null = (a.sum.null && b.sum.null)
  len : (v.length : Int) = max a.sum.short 0
def wordF (x : Nd) : List Nat := if thereF x.sum = true then x.least else []
theorem joined {a b : Nd} (ka : ∀ y ∈ a.nodes, aloneN y = true) (kb : ∀ y ∈ b.nodes, aloneN y = true) (ha : a.sum.short ≤ 1000) (hb : b.sum.short ≤ 1000) :
    Joined a b (thereF a.sum) (thereF b.sum) (thereF (catN2 a b).sum) (thereF (altN2 a b).sum) (wordF a) (wordF b) (wordF (catN2 a b)) (wordF (altN2 a b)) := by
  have oa := ok_sum ka
  have ob := ok_sum kb
  have la : LenP a.sum a.least := fun h1 h2 => least_len ka h1 h2
  have lb : LenP b.sum b.least := fun h1 h2 => least_len kb h1 h2
  have e1 := there_one ha
  have e2 := there_one hb
  have e3 := there_cat oa ob ha hb
  have e4 := there_alt oa ob ha hb
  refine ⟨e1, e2, by rw [e1, e2, e3], by rw [e1, e2, e4], fun h => ?_, fun h => ?_, fun h h2 => ?_, fun h h2 => ?_, cat_first2 a b oa ob, cat_null2 oa ob, ?_⟩
  · have h3 := h
    rw [e3, Bool.and_eq_true] at h3
    unfold wordF
    rw [if_pos h, if_pos (by rw [e1]; exact h3.1), if_pos (by rw [e2]; exact h3.2), cat_least2]
  all_goals try have h5 := alt_two2 oa ob la lb ha hb (by rw [e4, Bool.or_eq_true] at h; simpa using h)
  · unfold wordF
    rw [if_pos h, e1, e2]
    rcases h5.1 with ⟨h6, h7⟩ | ⟨h6, h7⟩
    · exact .inl (by rw [h6, h7]; rfl)
    · exact .inr (by rw [h6, h7]; rfl)
  · unfold wordF
    rw [if_pos h, if_pos h2]
    exact h5.2.1 (by rw [e1] at h2; simpa using h2)
  · unfold wordF
    rw [if_pos h, if_pos h2]
    exact h5.2.2 (by rw [e2] at h2; simpa using h2)
  · unfold wordF
    rw [e1]
    cases hh : a.sum.hollow with
    | true =>
      rw [oa.none hh]
      rfl
    | false =>
      have := oa.short hh
      rw [if_pos (by rfl), la hh (by omega)]
      omega
end Go.Proofs.YtfekpkelmliejaaGreatDoor
