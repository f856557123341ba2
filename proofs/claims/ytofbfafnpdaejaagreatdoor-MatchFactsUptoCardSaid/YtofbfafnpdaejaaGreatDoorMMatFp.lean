/- Texts of the claim. -/
import Derived.Test.YtofbfafnpdaejaaGreatDoorMMatFs
import Derived.Test.YtofbfafnpdaejaaGreatDoorMMatSl
import Derived.Test.YtofbfafnpdaejaaGreatDoorMZ06
namespace Go.Proofs.YtofbfafnpdaejaaGreatDoor
open Go.RowKit
set_option linter.unusedSimpArgs false
set_option linter.unusedVariables false
set_option maxRecDepth 100000
set_option maxHeartbeats 8000000
structure FactsIs (x : Nd) (bs : List Nat) : Prop where
 least : okM x 200 = true → fullB x (wordM x 200) = true
 null : fullB x [] = (knownF x).null
 full : fullB x bs = true → (knownF x).hollow = false ∧ (knownF x).short ≤ (bs.length : Int) ∧ ((knownF x).long ≠ endF → (bs.length : Int) ≤ longestF x) ∧ okM x 200 = true ∧ (((wordM x 200).length : Int) = (bs.length : Int) → lexLt bs (wordM x 200) = false) ∧ (∀ c, bs[0]? = some c → (knownF x).first c = true) ∧ ∀ c, bs[bs.length - 1]? = some c → (knownF x).last c = true
theorem okM_iff {x : Nd} (hr : rightT x = true) {m : Int} : okM x m = true ↔ x.sum.hollow = false ∧ x.sum.short ≤ m := by
 unfold okM
 rw [hr]
 simp
theorem facts_is {x : Nd} {bs : List Nat} (hr : rightT x = true) (hb : ∀ c ∈ bs, c < 256) (hl : bs.length ≤ 60) : FactsIs x bs := by
 obtain ⟨hd, hle⟩ := known_tree (rightT_nodes hr)
 have hk : knownF x = x.sum := by unfold knownF; rw [if_pos hr]
 have hw : okM x 200 = true → wordM x 200 = x.least := fun h => by unfold wordM; rw [if_pos h]
 refine ⟨fun h => ?_, ?_, fun h => ?_⟩
 ·rw [hw h]
  obtain ⟨h1, h2⟩ := (okM_iff hr).1 h
  obtain ⟨p1, p2, _⟩ := hle.all h1 (by omega)
  exact (full_says hr (by omega)).2 p1
 ·rw [hk]
  have e := full_says (x := x) (bs := []) hr (by simp)
  cases hn : x.sum.null with
  | true =>
   obtain ⟨h1, h2⟩ := null_yes hn
   obtain ⟨p1, p2, _⟩ := hle.all h1 (by omega)
   have : x.least = [] := List.length_eq_zero_iff.1 (by omega)
   rw [this] at p1
   exact e.2 p1
  | false =>
   cases hf : fullB x [] with
   | false => rfl
   | true =>
    rw [hd.nul (e.1 hf)] at hn
    cases hn
 ·have hs := (full_says hr (by omega)).1 h
  obtain ⟨y1, y2, y3⟩ := hd.yes bs hb hs
  have hok : okM x 200 = true := (okM_iff hr).2 ⟨y1, by omega⟩
  obtain ⟨p1, p2, p3⟩ := hle.all y1 (by omega)
  rw [hw hok]
  unfold longestF
  rw [hk]
  refine ⟨y1, y2, fun hne => ?_, hok, fun he => ?_, fun c hc => ?_, fun c hc => ?_⟩
  ·rw [if_neg hne]
   have := y3.resolve_left hne
   unfold topI at this
   omega
  ·have := p3 bs hb hs
   simp only [lessW, Bool.or_eq_false_iff, decide_eq_false_iff_not, Bool.and_eq_false_iff, beq_eq_false_iff_ne] at this
   exact this.2.resolve_left (fun h => h (by omega))
  ·cases bs with
   | nil => cases hc
   | cons d u =>
    cases hc
    exact hd.fst c u hb hs
  ·rcases List.eq_nil_or_concat bs with rfl | ⟨u, d, rfl⟩
   ·cases hc
   ·rw [List.concat_eq_append] at *
    rw [List.length_append, List.length_singleton, Nat.add_sub_cancel, List.getElem?_append_right (Nat.le_refl _), Nat.sub_self] at hc
    cases hc
    exact hd.lst c u hb hs
end Go.Proofs.YtofbfafnpdaejaaGreatDoor
