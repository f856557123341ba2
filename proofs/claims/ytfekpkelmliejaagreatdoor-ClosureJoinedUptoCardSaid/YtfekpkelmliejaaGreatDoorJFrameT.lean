/- Texts of the claim. -/
import Derived.Test.YtfekpkelmliejaaGreatDoorJFrameLP
import Derived.Test.YtfekpkelmliejaaGreatDoorJZ01
namespace Go.Proofs.YtfekpkelmliejaaGreatDoor
open Go.ChangeShapes Go.WideShapes Go.ChangeAt Go.RowKit
set_option linter.unusedSimpArgs false
set_option linter.unusedVariables false
set_option maxRecDepth 100000
set_option maxHeartbeats 8000000
theorem set_words {n0 n1 n2 n3 : Nat} (h0 : n0 < 18446744073709551616) (h1 : n1 < 18446744073709551616) (h2 : n2 < 18446744073709551616) (h3 : n3 < 18446744073709551616) :
  ∃ s : Nat, word s.testBit 0 = n0 ∧ word s.testBit 1 = n1 ∧ word s.testBit 2 = n2 ∧ word s.testBit 3 = n3 := by
 obtain ⟨k0, k1, k2, k3⟩ := word_bitsOf h0 h1 h2 h3
 have h : ∀ i, i < 4 → word (ofBits (bitsOf n0 n1 n2 n3) 256).testBit i = word (bitsOf n0 n1 n2 n3) i := fun i hi => word_congr (fun j hj => by rw [testBit_ofBits]; simp; omega)
 exact ⟨ofBits (bitsOf n0 n1 n2 n3) 256, by rw [h 0 (by decide), k0], by rw [h 1 (by decide), k1], by rw [h 2 (by decide), k2], by rw [h 3 (by decide), k3]⟩
theorem bulk_pos {H : Type} (d : DataW H) : 1 ≤ Rows.uptoBulk d := by
 cases d with
 | lit l => cases l <;> simp [Rows.uptoBulk]
 | _ => simp [Rows.uptoBulk]
theorem bulkAll_mem {H : Type} : ∀ {ds : List (DataW H)} {d : DataW H}, d ∈ ds → Rows.uptoBulk d ≤ Rows.uptoBulkAll ds
 | e :: r, d, h => by
  rcases List.mem_cons.1 h with rfl | h
  ·simp [Rows.uptoBulkAll]
  ·have := bulkAll_mem h
   simp [Rows.uptoBulkAll]
   omega
section
variable {H : Type} {enc : TypeId × Value → H} {W : World}
end
end Go.Proofs.YtfekpkelmliejaaGreatDoor
