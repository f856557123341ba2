/-
  sets.Spans: a set in pieces.
-/
import Derived.RangeFuncBox
import Derived.Maps.AppendAt
import Derived.Maps.OwnIn
import Derived.Lib.Hide
import Derived.Test.YtfekpkelmliejaaGreatDoorQZ01
namespace Go.Proofs.YtfekpkelmliejaaGreatDoor
open Go.RowKit Go.Shelf
set_option linter.unusedSimpArgs false
set_option linter.unusedVariables false
set_option maxRecDepth 100000
attribute [local go_sem] Oper.semAt_some

/-- One byte more, to the pieces so far. -/
def push (l : List (Nat × Nat)) (c : Nat) : List (Nat × Nat) :=
  match l.getLast? with
  | some (a, b) => if b + 1 = c then l.dropLast ++ [(a, c)] else l ++ [(c, c)]
  | none => [(c, c)]
end Go.Proofs.YtfekpkelmliejaaGreatDoor
