/- Texts of the claim. -/
import Derived.Test.YtofbfafnpdaejaaGreatDoorKFrameT
namespace Go.Proofs.YtofbfafnpdaejaaGreatDoor
open Go.ChangeShapes Go.WideShapes Go.ChangeAt Go.RowKit
set_option linter.unusedSimpArgs false
set_option linter.unusedVariables false
set_option maxRecDepth 100000
set_option maxHeartbeats 8000000
section
variable {H : Type} {enc : TypeId × Value → H} {W : World} {fuel : Nat}
theorem slice_capfB {t e : TypeId} (hu : Tryz.prog.underlying t = some (.slice e)) {A : Option Addr} {len cap : Nat} {y : DataW H × List MemPlace} (h : DataW.trod enc Tryz.prog W 0 (fun _ => true) true fuel t [.slice A len cap] = some y) : len ≤ cap := by
 rcases DataW.trod_slice hu h with ⟨hcs, hd⟩ | ⟨a, l, c, elems, rest, m, _, hcs, hd, hb, hlc, hm, hel2, hc, _, _⟩
 ·simp at hcs
  omega
 ·simp at hcs
  omega
theorem slice_capB {t e : TypeId} (hu : Tryz.prog.underlying t = some (.slice e)) {A : Option Addr} {len cap : Nat} {d : DataW H} {p : List MemPlace} (h : DataW.Trod enc Tryz.prog W 0 (fun _ => true) true t (.slice A len cap) d p) : len ≤ cap := by
 obtain ⟨fuel, hf⟩ := h
 exact slice_capfB hu (show DataW.trod enc Tryz.prog W 0 (fun _ => true) true fuel t [.slice A len cap] = some (d, p) from hf)
theorem bytes_capB {A : Option Addr} {len cap : Nat} {d : DataW H} {p : List MemPlace} (h : DataW.Trod enc Tryz.prog W 0 (fun _ => true) true 29 (.slice A len cap) d p) : len ≤ cap := slice_capB Tryz.underlying29 h
end
end Go.Proofs.YtofbfafnpdaejaaGreatDoor
