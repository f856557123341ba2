/-
  The walk of MirrorTurns, and knows of chapter 18.
-/
import Derived.Deep.RegionHeldLaw
import Derived.Test.YtfekpkelmliejaaGreatDoorQZ05
import Derived.Test.YtfekpkelmliejaaGreatDoorQZ04
import Derived.Test.YtfekpkelmliejaaGreatDoorQShowL
import Derived.Test.YtfekpkelmliejaaGreatDoorQZ06
import Derived.Test.YtfekpkelmliejaaGreatDoorQZ02
namespace Go.Proofs.YtfekpkelmliejaaGreatDoor
open Go.RowKit
set_option linter.unusedSimpArgs false
set_option linter.unusedVariables false
set_option maxRecDepth 100000

/-- The string of a slice of bytes. -/
theorem bytes_strM {w : World} {B : Nat} {A : Option Addr} {bs : List Nat} (cap : Nat) (h : BytesAt w B A bs) : (convert 30 9 (.slice A bs.length cap)).run Tryz.prog w = .ok (.string (strOf bs)) w := by
  by_cases h0 : bs = []
  · subst h0
    cases A with
    | none =>
      rw [run_convert_bytes_string w _ _ 5 none _ _ Tryz.underlying30 Tryz.underlying5 Tryz.underlying9]
      rfl
    | some a => exact run_str w a cap [] (fun j u hu => by simp at hu)
  · obtain ⟨b, o, rfl, _, hc⟩ := h.2.2 (List.length_pos_iff.2 h0)
    refine run_str w ⟨b, o, none⟩ cap bs (fun j u hu => ?_)
    have hj : j < bs.length := by
      rcases Nat.lt_or_ge j bs.length with h1 | h1
      · exact h1
      · rw [List.getElem?_eq_none (by simpa using h1)] at hu; cases hu
    rw [addr_plusR, hc j hj]
    rw [List.getElem?_map, List.getElem?_eq_getElem hj] at hu
    rw [← byteAt_get hj]
    simpa using hu
end Go.Proofs.YtfekpkelmliejaaGreatDoor
