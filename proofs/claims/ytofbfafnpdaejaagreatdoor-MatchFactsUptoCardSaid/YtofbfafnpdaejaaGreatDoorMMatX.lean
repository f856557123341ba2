/- Texts of the claim. -/
import Derived.Test.YtofbfafnpdaejaaGreatDoorMMatW
import Derived.Test.YtofbfafnpdaejaaGreatDoorMMatU
namespace Go.Proofs.YtofbfafnpdaejaaGreatDoor
open Go.RowKit Go.Maps
set_option linter.unusedSimpArgs false
set_option linter.unusedVariables false
set_option maxHeartbeats 8000000
theorem only_kid {F : Trees} (h : F.len = 1) : ∃ y, F.list = [y] := by
 rw [← Trees.len_list] at h
 match hF : F.list, h with
 | [y], _ => exact ⟨y, rfl⟩
theorem kid_size {z y : Nd} (h : y ∈ z.kids.list) : y.size + 1 ≤ z.size := by
 obtain ⟨i, hi⟩ := List.mem_iff_getElem?.1 h
 have := Trees.size_get z.kids i y hi
 unfold Nd.size at this ⊢
 omega
theorem kid_okays {z y : Nd} (h : y ∈ z.kids.list) (ho : ∀ u ∈ z.nodes, aloneN u = true) : ∀ u ∈ y.nodes, aloneN u = true := fun u hu => by
 obtain ⟨i, hi⟩ := List.mem_iff_getElem?.1 h
 refine ho u ?_
 simp only [Nd.nodes, List.mem_cons]
 exact .inr (nodes_kid hi u hu)
theorem ends_all {x : Nd} {bs : List Nat} : ∀ (n : Nat) (z : Nd), z.size ≤ n → n ≤ 1000000 → (∀ u ∈ z.nodes, aloneN u = true) → EndsC x bs z
 | 0, z, h, _, _ => by unfold Nd.size at h; omega
 | n + 1, z, h, hn, ho => by
  have hK : ∀ y ∈ z.kids.list, EndsC x bs y := fun y hy => ends_all n y (by have := kid_size hy; omega) (by omega) (kid_okays hy ho)
  have hl : z.kids.len ≤ 1000000 := by have := Trees.len_size z.kids; unfold Nd.size at h; omega
  refine ends_of ?_
  obtain ⟨a1, a9, a0, ak1, ak9⟩ := aloneN_kids (ho z (self_nodes z))
  by_cases k1 : z.kind = 1
  ·exact look_nothing k1
  by_cases k2 : z.kind = 2
  ·exact look_empty k2
  by_cases k3 : z.kind = 3
  ·exact look_set k3
  by_cases k4 : z.kind = 4
  ·exact look_cat k4 hl hK
  by_cases k5 : z.kind = 5
  ·exact look_alt k5 hl hK
  obtain ⟨y, hy⟩ := only_kid (a1 (by omega) (by omega))
  have hY := hK y (by rw [hy]; simp)
  by_cases k6 : z.kind = 6
  ·exact look_star k6 hy hY
  by_cases k7 : z.kind = 7
  ·exact look_plus k7 hy hY
  by_cases k8 : z.kind = 8
  ·exact look_opt k8 hy hY
  have k9 : z.kind = 9 := by omega
  obtain ⟨b1, b2⟩ := a9 k9
  obtain ⟨c1, c2, c3, c4⟩ := numsOk_of (ho z (self_nodes z)) k9
  exact look_rep k9 hy hY z.lo.toNat (by omega) (by omega) c3 c4 b2
end Go.Proofs.YtofbfafnpdaejaaGreatDoor
