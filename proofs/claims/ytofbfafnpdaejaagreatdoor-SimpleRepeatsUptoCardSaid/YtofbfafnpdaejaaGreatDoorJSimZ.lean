/- Texts of the claim. -/
import Derived.Test.YtofbfafnpdaejaaGreatDoorJSimA
set_option linter.all false
set_option maxRecDepth 100000
set_option maxHeartbeats 8000000
namespace Go.Proofs.YtofbfafnpdaejaaGreatDoor
theorem smany_size (k q : Int) (l : List Nd) : (manyN k q l).size ≤ 1 + (l.map Nd.size).sum := by
 match l with
 | [] => simp [manyN, Nd.size, Trees.size]
 | [x] => simp [manyN]
 | x :: y :: m =>
  show 1 + (Trees.of (x :: y :: m)).size ≤ _
  rw [size_ofS]
  exact Nat.le_refl _
theorem catP_size (l : List Nd) : (catP l).size ≤ 1 + (l.map Nd.size).sum := by
 have h := sum_flat (flatK 4 2) (flatK_size 4 2) l
 unfold catP
 split
 ·simp [noneN, Nd.size, Trees.size]
 ·have := smany_size 4 2 (l.flatMap (flatK 4 2))
  omega
theorem altP_size (l : List Nd) : (altP l).size ≤ 1 + (l.map Nd.size).sum := by
 have h := sum_flat (flatK 5 1) (flatK_size 5 1) l
 unfold altP
 have h1 := fold_size (l.flatMap (flatK 5 1)) ([], none) 0 (Nat.le_refl _)
 have := smany_size 5 1 ((l.flatMap (flatK 5 1)).foldl addP ([], none)).1
 omega
theorem size_pos (x : Nd) : 1 ≤ x.size := by unfold Nd.size; omega
theorem sover_size (k : Int) (x : Nd) : (overN k x).size = 1 + x.size := by
 show 1 + (Trees.of [x]).size = _
 rw [size_ofS]
 simp
theorem kid0_size (x : Nd) : (kid0 x).size ≤ x.size := by
 unfold kid0
 cases hl : x.kids.list with
 | nil => exact size_pos x
 | cons z l =>
  have := Trees.size_get x.kids 0 z (by rw [hl]; rfl)
  show z.size ≤ _
  unfold Nd.size
  unfold Nd.size at this
  omega
theorem empty_size : emptyN.size = 1 := rfl
theorem none_size : noneN.size = 1 := rfl
theorem starP_size (x : Nd) : (starP x).size ≤ 1 + x.size := by
 have h1 := size_pos x
 have h2 := kid0_size x
 unfold starP
 split
 ·rw [empty_size]; omega
 split
 ·rw [sover_size]; omega
 ·rw [sover_size]; omega
theorem plusP_size (x : Nd) : (plusP x).size ≤ 1 + x.size := by
 have h1 := size_pos x
 have h2 := kid0_size x
 unfold plusP
 split
 ·omega
 split
 ·rw [sover_size]; omega
 ·rw [sover_size]; omega
theorem optP_size (x : Nd) : (optP x).size ≤ 1 + x.size := by
 have h1 := size_pos x
 have h2 := kid0_size x
 unfold optP
 split
 ·rw [empty_size]; omega
 split
 ·omega
 split
 ·rw [sover_size]; omega
 ·rw [sover_size]; omega
theorem repP_size (x : Nd) (lo hi : Int) : (repP x lo hi).size ≤ 1 + x.size := by
 have h1 := size_pos x
 unfold repP
 split
 ·rw [empty_size]; omega
 split
 ·rw [empty_size]; omega
 split
 ·rw [none_size]; omega
 split
 ·omega
 split
 ·exact starP_size x
 split
 ·exact plusP_size x
 split
 ·exact optP_size x
 ·show 1 + (Trees.of [x]).size ≤ _
  rw [size_ofS]
  simp
theorem simK_size {k : Int} {s : Nat} {ks : Trees} {lo hi : Int} {L : List Nd} (hL : (L.map Nd.size).sum ≤ ks.size) (hne : 6 ≤ k → k ≤ 9 → L ≠ []) : (simK k s ks lo hi L).size ≤ 1 + ks.size := by
 have hh : 6 ≤ k → k ≤ 9 → (L.headD noneN).size ≤ ks.size := fun h h' => by
  have := hne h h'
  cases L with
  | nil => exact absurd rfl this
  | cons z l => exact Nat.le_trans (mem_size (by simp)) hL
 unfold simK
 split
 ·split
  ·rw [none_size]; omega
  ·exact Nat.le_refl _
 split
 ·have := catP_size L
  omega
 split
 ·have := altP_size L
  omega
 split
 ·have := starP_size (L.headD noneN)
  have := hh (by omega) (by omega)
  omega
 split
 ·have := plusP_size (L.headD noneN)
  have := hh (by omega) (by omega)
  omega
 split
 ·have := optP_size (L.headD noneN)
  have := hh (by omega) (by omega)
  omega
 split
 ·have := repP_size (L.headD noneN) lo hi
  have := hh (by omega) (by omega)
  omega
 ·exact Nat.le_refl _
theorem sims_size : ∀ (F : Trees), (∀ y ∈ F.nodes, OkN y) → (F.sims.map Nd.size).sum ≤ F.size
 | .nil, _ => Nat.le_refl _
 | .cons k s ks lo hi r, h => by
  have h1 := sims_size ks (fun y hy => h y (by simp [Trees.nodes, hy]))
  have h2 := sims_size r (fun y hy => h y (by simp [Trees.nodes, hy]))
  have ho := h ⟨k, s, ks, lo, hi⟩ (by simp [Trees.nodes])
  have h3 := simK_size (k := k) (s := s) (ks := ks) (lo := lo) (hi := hi) h1 (fun h6 h9 e => by
   have := sims_len ks
   rw [e] at this
   have := ho.2
   simp only at this
   simp at *
   omega)
  rw [Trees.sims, List.map_cons, List.sum_cons, Trees.size]
  omega
theorem sim_size {x : Nd} (h : ∀ y ∈ x.nodes, OkN y) : x.sim.size ≤ x.size := by
 have h1 := sims_size x.kids (fun y hy => h y (List.mem_cons_of_mem _ hy))
 have ho := h x List.mem_cons_self
 refine simK_size h1 (fun h6 h9 e => ?_)
 have := sims_len x.kids
 rw [e] at this
 have := ho.2
 simp at *
 omega
end Go.Proofs.YtofbfafnpdaejaaGreatDoor
