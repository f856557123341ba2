/-
  The contracts of the layer's plain, cat, loop and opt, their kids' being known.
-/
import Derived.Test.YtfekpkelmliejaaGreatDoorQNfaL
namespace Go.Proofs.YtfekpkelmliejaaGreatDoor
open Go.RowKit
set_option linter.unusedSimpArgs false
set_option linter.unusedVariables false
set_option maxRecDepth 100000

/-- What is laid fits. -/
def FitsM (m : MachS) : Prop := m.states ≤ 1000000000000 ∧ m.links.length ≤ 1000000000000 ∧ m.edges.length ≤ 1000000000000
def ExtM (m m' : MachS) : Prop := m.states ≤ m'.states ∧ m.links.length ≤ m'.links.length ∧ m.edges.length ≤ m'.edges.length
theorem FitsM.of {m m' : MachS} (h : FitsM m') (he : ExtM m m') : FitsM m := ⟨Nat.le_trans he.1 h.1, Nat.le_trans he.2.1 h.2.1, Nat.le_trans he.2.2 h.2.2⟩
theorem ExtM.refl (m : MachS) : ExtM m m := ⟨Nat.le_refl _, Nat.le_refl _, Nat.le_refl _⟩
theorem ExtM.trans {a b c : MachS} (h : ExtM a b) (h' : ExtM b c) : ExtM a c := ⟨Nat.le_trans h.1 h'.1, Nat.le_trans h.2.1 h'.2.1, Nat.le_trans h.2.2 h'.2.2⟩
theorem ExtM.state (m : MachS) (a : Nat) : ExtM m (m.state a) := ⟨by simp [MachS.states, MachS.state], Nat.le_refl _, Nat.le_refl _⟩
theorem ExtM.link (m : MachS) (a b : Nat) : ExtM m (m.link a b) := ⟨Nat.le_refl _, by simp [MachS.link], Nat.le_refl _⟩
theorem ExtM.edge (m : MachS) (a s b : Nat) : ExtM m (m.edge a s b) := ⟨Nat.le_refl _, Nat.le_refl _, by simp [MachS.edge]⟩
def GrowsF (f : LayF) : Prop := ∀ m i, ExtM m (f m i).1
theorem AddsF.grows {f : LayF} {n c : Nat} (h : AddsF f n c) : GrowsF f := fun m i => by
  obtain ⟨L, E, h0, _⟩ := h m i
  rw [h0]
  exact ⟨by simp [MachS.states], by simp, by simp⟩
/-- How a call of laying ends. -/
def LayOut (base g : Nat) (S : Nat → Prop) (w : World) (r : MachS × Nat) (e : Ending) (w' : World) : Prop :=
  e = .returned (.int .i64 (r.2 : Int)) ∧ ∃ S', LayAt w' base g S' r.1 ∧ Moves base S w S' w'
/-- The contract of laying a tree. -/
def LayC (x : Nd) : Prop := ∀ (B : Option Addr) (cap i base g : Nat) (S : Nat → Prop) (m : MachS) (w : World), TreesAt w (fun b => b < base) x.kids B → LayAt w base g S m → base ≤ w.heap.size → FitsM (x.lay m i).1 →
  Calls Tryz.prog 120 #[.pointer (some ⟨g, 0, none⟩), ndV x B cap, .int .i64 (i : Int)] w (LayOut base g S w (x.lay m i))
/-- What is known of a node's kids. -/
structure KidsC (F : Trees) : Prop where
  lay : ∀ z ∈ F.list, LayC z
  grows : ∀ f ∈ F.lays, GrowsF f
theorem KidsC.get {F : Trees} (h : KidsC F) {k : Nat} {z : Nd} (hz : F.list[k]? = some z) : LayC z := h.lay z (List.mem_of_getElem? hz)
/-! What has no kids. -/
end Go.Proofs.YtfekpkelmliejaaGreatDoor
