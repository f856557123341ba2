/-
  What is said of the machine of trees, in plain words: its shape.
-/
import Derived.Test.YtchfipjclbpomaaGreatDoorQNfaS
namespace Go.Proofs.YtchfipjclbpomaaGreatDoor
open Go.RowKit
set_option linter.unusedSimpArgs false
set_option linter.unusedVariables false
set_option maxRecDepth 100000

theorem rightT_size {x : Nd} (h : rightT x = true) : x.size ≤ 4096 := by
  unfold rightT at h
  rw [Bool.and_eq_true, decide_eq_true_eq] at h
  rw [← x.nodes_len]
  exact h.1
end Go.Proofs.YtchfipjclbpomaaGreatDoor
