/-
  The contracts of the layer's plain, cat, loop and opt, their kids' being known.
-/
import Derived.Test.YtffkppoidollnaaGreatDoorQNfaL
namespace Go.Proofs.YtffkppoidollnaaGreatDoor
open Go.RowKit
set_option linter.unusedSimpArgs false
set_option linter.unusedVariables false
set_option maxRecDepth 100000

/-- What is laid fits. -/
def FitsM (m : MachS) : Prop := m.states ≤ 1000000000000 ∧ m.links.length ≤ 1000000000000 ∧ m.edges.length ≤ 1000000000000
def ExtM (m m' : MachS) : Prop := m.states ≤ m'.states ∧ m.links.length ≤ m'.links.length ∧ m.edges.length ≤ m'.edges.length
theorem FitsM.of {m m' : MachS} (h : FitsM m') (he : ExtM m m') : FitsM m := ⟨Nat.le_trans he.1 h.1, Nat.le_trans he.2.1 h.2.1, Nat.le_trans he.2.2 h.2.2⟩
theorem ExtM.refl (m : MachS) : ExtM m m := ⟨Nat.le_refl _, Nat.le_refl _, Nat.le_refl _⟩
theorem ExtM.trans {a b c : MachS} (h : ExtM a b) (h' : ExtM b c) : ExtM a c := ⟨Nat.le_trans h.1 h'.1, Nat.le_trans h.2.1 h'.2.1, Nat.le_trans h.2.2 h'.2.2⟩
theorem ExtM.state (m : MachS) (a : Nat) : ExtM m (m.state a) := ⟨by simp [MachS.states, MachS.state], Nat.le_refl _, Nat.le_refl _⟩
theorem ExtM.link (m : MachS) (a b : Nat) : ExtM m (m.link a b) := ⟨Nat.le_refl _, by simp [MachS.link], Nat.le_refl _⟩
theorem ExtM.edge (m : MachS) (a s b : Nat) : ExtM m (m.edge a s b) := ⟨Nat.le_refl _, Nat.le_refl _, by simp [MachS.edge]⟩
/-! What has no kids. -/
end Go.Proofs.YtffkppoidollnaaGreatDoor
