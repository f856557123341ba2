/-
  What a card of trees wants: the table that the rows list; a tree that came in by value.
-/
import Derived.Shelf.Spec.TrailingZeros
import Derived.Deep.DeepHandedRow
import Derived.Lib.LaidTab
import Derived.Test.YtfekpkelmliejaaGreatDoorQFrameT
namespace Go.Proofs.YtfekpkelmliejaaGreatDoor
open Go.ChangeShapes Go.WideShapes Go.ChangeAt Go.RowKit Go.Shelf
set_option linter.unusedSimpArgs false
set_option linter.unusedVariables false
set_option maxRecDepth 100000

theorem gTab : Tryz.prog.globalNamed "math/bits.deBruijn64tab" = some 1 := by kernel_rfl
theorem gTabType : (Tryz.prog.globals[1]?).map (·.type) = some 230 := by kernel_rfl
theorem cellsTab : Tryz.prog.cellsOf 230 = 64 := by kernel_rfl
/-- What a row's list gives: the table's cells hold its numbers. -/
theorem table_at {W : World} (h : laidMetH Tryz.prog [("math/bits.deBruijn64tab", Rows.laid_math_bits_deBruijn64tab)] W) : TabAt 1 Lib.deBruijn64tab W := by
  have ht : Lib.TabIs Tryz.prog W "math/bits.deBruijn64tab" .u8 (Lib.deBruijn64tab.map fun n : Nat => (n : Int)) :=
    Lib.tabIs_of_head (rest := []) gTab gTabType Tryz.underlying230 Tryz.underlying5 cellsByte cellsTab h
  intro j hj
  have hc := ht.cell gTab j (by simpa using hj)
  rw [hc]
  simp [List.getD_eq_getElem?_getD, hj]
/-- A world for the witness: the table holds what its initialiser lays. -/
noncomputable def tabWorld (os : Os) : World :=
  { World.holding Tryz.prog os ⟨#[], #[], []⟩ with heap := (World.holding Tryz.prog os ⟨#[], #[], []⟩).heap.modify 1 fun
      | .cells _ t frozen => .cells (Lib.deBruijn64tab.map fun n : Nat => Value.int .u8 (n : Int)).toArray t frozen
      | o => o }
/-- A tree that came in by value. -/
theorem node_val {H : Type} {enc : TypeId × Value → H} {W : World} {base : Nat} {v : Value} {d : DataW H} {p : List MemPlace} (hv : Value.okWide Tryz.prog W .any base 28 v) (h : DataW.Trod enc Tryz.prog W 0 (fun _ => true) true 28 v d p) :
    ∃ (x : Nd) (B : Option Addr) (cap : Nat), v = ndV x B cap ∧ x.kids.len ≤ cap ∧ TreesAt W (fun b => b < W.heap.size) x.kids B ∧ x.size ≤ Rows.uptoBulk d := by
  obtain ⟨x, B, cap, hc, h1, h2, h3⟩ := tree_came h
  simp only [Value.okWide, Tryz.underlying28] at hv
  obtain ⟨cs, rfl, _, _⟩ := hv
  refine ⟨x, B, cap, ?_, h1, h2, h3⟩
  have : cs = (ndCell x B cap).toArray := by
    have hc' : cs.toList = ndCell x B cap := hc
    rw [← hc']
  rw [this]
  rfl
end Go.Proofs.YtfekpkelmliejaaGreatDoor
