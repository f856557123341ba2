/-
  When two machines are the same: nfa.Same, and the reference's Same of chapter 16.
-/
import Derived.Test.YtffkppoidollnaaGreatDoorQNfaEq
namespace Go.Proofs.YtffkppoidollnaaGreatDoor
open Go.RowKit
set_option linter.unusedSimpArgs false
set_option linter.unusedVariables false
set_option maxRecDepth 100000

/-- Are two machines the same? -/
def sameN (a b : NfaV) : Bool := decide (a.states = b.states) && (decide (a.start = b.start) && (eqL linkE a.links b.links && (eqL edgeE a.edges b.edges && eqL intE a.accept b.accept)))
theorem linkE_self (p : Int × Int) : linkE p p = true := by simp [linkE]
theorem edgeE_self (p : Int × Nat × Int) : edgeE p p = true := by simp [edgeE]
theorem intE_self (p : Int) : intE p p = true := by simp [intE]
theorem sameN_self (a : NfaV) : sameN a a = true := by simp [sameN, eqL_self linkE_self, eqL_self edgeE_self, eqL_self intE_self]
end Go.Proofs.YtffkppoidollnaaGreatDoor
