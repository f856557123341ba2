/- Texts of the claim. -/
import Derived.DeepKeys4
import Derived.Test.YtofbfafnpdaejaaGreatDoorKZ06
import Derived.Test.YtofbfafnpdaejaaGreatDoorKMatA
namespace Go.Proofs.YtofbfafnpdaejaaGreatDoor
open Go.RowKit Go.Maps
set_option linter.unusedSimpArgs false
set_option linter.unusedVariables false
set_option maxRecDepth 100000
set_option maxHeartbeats 8000000
def askV (q : Int × Int) : Value := .agg #[.int .i64 q.1, .int .i64 q.2]
theorem askV_inj (q q' : Int × Int) (h : askV q = askV q') : q = q' := by
 obtain ⟨a, b⟩ := q
 obtain ⟨c, d⟩ := q'
 unfold askV at h
 simp at h
 rw [h.1, h.2]
theorem laidOutM : laidOutB Tryz.prog = true := by kernel_rfl
theorem askRow : (168 : TypeId) < Tryz.prog.types.size := of_decide_eq_true (by kernel_rfl)
theorem askWide : (match Tryz.prog.underlying 168 with | some (.array _ _) | some (.struct _) => true | _ => false) = true := by rw [Tryz.underlying168]
theorem askKeyed : Keyed Tryz.prog 168 := Keyed.of_law (deep_law_laid laidOutM (m := 2) (by omega) askRow (by kernel_rfl) askWide)
theorem askSize : ∃ m, Tryz.prog.types.size = m + 1 := ⟨_, (Nat.sub_add_cancel (Nat.lt_of_le_of_lt (Nat.zero_le _) askRow)).symm⟩
def okA (q : Int × Int) : Prop := (Lit.int .i64 q.1).wf = true ∧ (Lit.int .i64 q.2).wf = true
theorem askCells : Tryz.prog.cellsOf 168 = 2 := by kernel_rfl
theorem intCells : Tryz.prog.cellsOf 3 = 1 := by kernel_rfl
theorem askType : Tryz.prog.keyType 168 = true := by kernel_rfl
theorem ask_lits (q : Int × Int) (h : okA q) (m : Nat) : Tryz.prog.keyLits (m + 1 + 1) 168 [.int .i64 q.1, .int .i64 q.2] = some [.int .i64 q.1, .int .i64 q.2] := by
 obtain ⟨wa, wb⟩ := h
 unfold Program.keyLits
 simp only [Tryz.underlying168]
 rw [if_pos (by rw [askCells]; exact ⟨rfl, by decide +kernel⟩)]
 simp [intCells, Program.keyLits, Tryz.underlying3, wa, wb]
theorem ask_key (q : Int × Int) (h : okA q) : ∃ l, keyOf Tryz.prog 168 (askV q) = some l := by
 obtain ⟨m, hm⟩ := askSize
 have h2 := ask_lits q h m
 unfold keyOf askV
 simp only [Tryz.underlying168]
 rw [if_pos (by simp [askType, Value.formed, Tryz.underlying168, askCells]), hm]
 simp only [Value.cells]
 rw [h2]
 exact ⟨_, rfl⟩
end Go.Proofs.YtofbfafnpdaejaaGreatDoor
