/- Texts of the claim. -/
import Derived.Test.YtofbfafnpdaejaaGreatDoorKFrameP
import Derived.Test.YtofbfafnpdaejaaGreatDoorKZ01
namespace Go.Proofs.YtofbfafnpdaejaaGreatDoor
open Go.ChangeShapes Go.WideShapes Go.ChangeAt Go.RowKit
set_option linter.unusedSimpArgs false
set_option linter.unusedVariables false
set_option maxRecDepth 100000
set_option maxHeartbeats 8000000
theorem u64_of_wf {n : Int} (h : (Lit.int .u64 n).wf = true) : 0 ≤ n ∧ n < 18446744073709551616 := by
 have hh : (decide (IntKind.min .u64 ≤ n) && decide (n ≤ IntKind.max .u64)) = true := h
 simp only [Bool.and_eq_true, decide_eq_true_eq] at hh
 obtain ⟨h1, h2⟩ := hh
 have e1 : IntKind.min .u64 = 0 := by decide
 have e2 : IntKind.max .u64 = 18446744073709551615 := by decide
 rw [e1] at h1
 rw [e2] at h2
 omega
theorem cellsWord : Tryz.prog.cellsOf 23 = 1 := by kernel_rfl
theorem cellsSet : Tryz.prog.cellsOf 25 = 4 := by kernel_rfl
theorem cellsInt : Tryz.prog.cellsOf 3 = 1 := by kernel_rfl
section
variable {H : Type} {enc : TypeId × Value → H} {W : World} {fuel : Nat} {cs : List Value} {y : DataW H × List MemPlace}
end
end Go.Proofs.YtofbfafnpdaejaaGreatDoor
