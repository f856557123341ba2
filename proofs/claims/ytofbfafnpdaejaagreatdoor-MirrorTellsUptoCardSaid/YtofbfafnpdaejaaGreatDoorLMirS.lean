/- Texts of the claim. -/
import Derived.Test.YtofbfafnpdaejaaGreatDoorLZ03
namespace Go.Proofs.YtofbfafnpdaejaaGreatDoor
open Go.RowKit
set_option linter.unusedSimpArgs false
set_option linter.unusedVariables false
set_option maxRecDepth 100000
set_option maxHeartbeats 8000000
def turnK {α : Type} (k : Int) (l : List α) : List α := if k = 4 then l.reverse else l
def Trees.turn : Trees → List Nd
 | .nil => []
 | .cons k s ks lo hi r => ⟨k, s, Trees.of (turnK k ks.turn), lo, hi⟩ :: r.turn
def Nd.turn (x : Nd) : Nd := ⟨x.kind, x.set, Trees.of (turnK x.kind x.kids.turn), x.lo, x.hi⟩
theorem Trees.turn_list : ∀ F : Trees, F.turn = F.list.map Nd.turn
 | .nil => rfl
 | .cons k s ks lo hi r => by rw [Trees.turn, Trees.list, List.map_cons, Trees.turn_list r]; rfl
theorem turnK_len {α : Type} (k : Int) (l : List α) : (turnK k l).length = l.length := by
 unfold turnK
 split
 ·exact List.length_reverse
 ·rfl
theorem Nd.turn_len (x : Nd) : x.turn.kids.len = x.kids.len := by
 unfold Nd.turn
 rw [Trees.len_of, turnK_len, Trees.turn_list, List.length_map, Trees.len_list]
end Go.Proofs.YtofbfafnpdaejaaGreatDoor
