/- Texts of the claim. -/
import Derived.Test.YtofbfafnpdaejaaGreatDoorJZ03
namespace Go.Proofs.YtofbfafnpdaejaaGreatDoor
open Go.RowKit
set_option linter.unusedSimpArgs false
set_option linter.unusedVariables false
set_option maxRecDepth 100000
set_option maxHeartbeats 8000000
def turnK {α : Type} (k : Int) (l : List α) : List α := if k = 4 then l.reverse else l
def Trees.turn : Trees → List Nd
 | .nil => []
 | .cons k s ks lo hi r => ⟨k, s, Trees.of (turnK k ks.turn), lo, hi⟩ :: r.turn
def Nd.turn (x : Nd) : Nd := ⟨x.kind, x.set, Trees.of (turnK x.kind x.kids.turn), x.lo, x.hi⟩
theorem Trees.turn_list : ∀ F : Trees, F.turn = F.list.map Nd.turn
 | .nil => rfl
 | .cons k s ks lo hi r => by rw [Trees.turn, Trees.list, List.map_cons, Trees.turn_list r]; rfl
theorem turnK_len {α : Type} (k : Int) (l : List α) : (turnK k l).length = l.length := by
 unfold turnK
 split
 ·exact List.length_reverse
 ·rfl
theorem turnK_map {α β : Type} (f : α → β) (k : Int) (l : List α) : (turnK k l).map f = turnK k (l.map f) := by
 unfold turnK
 split
 ·exact List.map_reverse
 ·rfl
theorem sum_rev : ∀ l : List Nat, l.reverse.sum = l.sum
 | [] => rfl
 | x :: l => by
  rw [List.reverse_cons, List.sum_append, sum_rev l, List.sum_cons]
  simp
  omega
theorem turnK_sum (k : Int) (l : List Nat) : (turnK k l).sum = l.sum := by
 unfold turnK
 split
 ·exact sum_rev l
 ·rfl
theorem Trees.turn_size : ∀ F : Trees, (F.turn.map Nd.size).sum = F.size
 | .nil => rfl
 | .cons k s ks lo hi r => by
  rw [Trees.turn, List.map_cons, List.sum_cons, Trees.turn_size r]
  unfold Nd.size
  rw [Trees.size_list, Trees.list_of, turnK_map, turnK_sum, Trees.turn_size ks, Trees.size]
theorem Nd.turn_size (x : Nd) : x.turn.size = x.size := by
 unfold Nd.turn Nd.size
 rw [Trees.size_list, Trees.list_of, turnK_map, turnK_sum, Trees.turn_size]
theorem Nd.turn_len (x : Nd) : x.turn.kids.len = x.kids.len := by
 unfold Nd.turn
 rw [Trees.len_of, turnK_len, Trees.turn_list, List.length_map, Trees.len_list]
end Go.Proofs.YtofbfafnpdaejaaGreatDoor
