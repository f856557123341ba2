/- Texts of the claim. -/
import Derived.Test.YtfekpkelmliejaaGreatDoorJFrameN
namespace Go.Proofs.YtfekpkelmliejaaGreatDoor
open Go.ChangeShapes Go.WideShapes Go.ChangeAt Go.RowKit
set_option linter.unusedSimpArgs false
set_option linter.unusedVariables false
set_option maxRecDepth 100000
set_option maxHeartbeats 8000000
section
variable {H : Type} {enc : TypeId × Value → H} {W : World} {fuel : Nat}
theorem slice_capf {t e : TypeId} (hu : Tryz.prog.underlying t = some (.slice e)) {A : Option Addr} {len cap : Nat} {y : DataW H × List MemPlace} (h : DataW.trod enc Tryz.prog W 0 (fun _ => true) true fuel t [.slice A len cap] = some y) : len ≤ cap := by
 rcases DataW.trod_slice hu h with ⟨hcs, hd⟩ | ⟨a, l, c, elems, rest, m, _, hcs, hd, hb, hlc, hm, hel2, hc, _, _⟩
 ·simp at hcs
  omega
 ·simp at hcs
  omega
theorem slice_capC {t e : TypeId} (hu : Tryz.prog.underlying t = some (.slice e)) {A : Option Addr} {len cap : Nat} {d : DataW H} {p : List MemPlace} (h : DataW.Trod enc Tryz.prog W 0 (fun _ => true) true t (.slice A len cap) d p) : len ≤ cap := by
 obtain ⟨fuel, hf⟩ := h
 exact slice_capf hu (show DataW.trod enc Tryz.prog W 0 (fun _ => true) true fuel t [.slice A len cap] = some (d, p) from hf)
theorem slice_bulkf {t e : TypeId} (hu : Tryz.prog.underlying t = some (.slice e)) {A : Option Addr} {len cap : Nat} {y : DataW H × List MemPlace} (h : DataW.trod enc Tryz.prog W 0 (fun _ => true) true fuel t [.slice A len cap] = some y) : len ≤ Rows.uptoBulk y.1 := by
 rcases DataW.trod_slice hu h with ⟨hcs, hd⟩ | ⟨a, l, c, elems, rest, m, _, hcs, hd, hb, hlc, hm, hel2, hc, _, _⟩
 ·simp at hcs
  omega
 ·simp at hcs
  rw [hd]
  simp only [Rows.uptoBulk]
  have := bulk_len2 (elems.map (·.1))
  simp at this
  omega
theorem bytes_bulk {A : Option Addr} {len cap : Nat} {d : DataW H} {p : List MemPlace} (h : DataW.Trod enc Tryz.prog W 0 (fun _ => true) true 30 (.slice A len cap) d p) : len ≤ Rows.uptoBulk d := by
 obtain ⟨fuel, hf⟩ := h
 exact slice_bulkf Tryz.underlying30 (show DataW.trod enc Tryz.prog W 0 (fun _ => true) true fuel 30 [.slice A len cap] = some (d, p) from hf)
theorem ints_cap {A : Option Addr} {len cap : Nat} {d : DataW H} {p : List MemPlace} (h : DataW.Trod enc Tryz.prog W 0 (fun _ => true) true 41 (.slice A len cap) d p) : len ≤ cap := slice_capC Tryz.underlying41 h
theorem bytes_capC {A : Option Addr} {len cap : Nat} {d : DataW H} {p : List MemPlace} (h : DataW.Trod enc Tryz.prog W 0 (fun _ => true) true 30 (.slice A len cap) d p) : len ≤ cap := slice_capC Tryz.underlying30 h
theorem nfa_caps {N : NfaV} {A1 A2 A3 : Option Addr} {k1 k2 k3 : Nat} {d : DataW H} {p : List MemPlace} (h : DataW.Trod enc Tryz.prog W 0 (fun _ => true) true 43 (.agg (nfA N A1 k1 A2 k2 A3 k3)) d p) : N.links.length ≤ k1 ∧ N.edges.length ≤ k2 ∧ N.accept.length ≤ k3 := by
 obtain ⟨fuel, hf⟩ := h
 have hf : DataW.trod enc Tryz.prog W 0 (fun _ => true) true fuel 43 [.int .i64 N.states, .int .i64 N.start, .slice A1 N.links.length k1, .slice A2 N.edges.length k2, .slice A3 N.accept.length k3] = some (d, p) := hf
 obtain ⟨xs, n, _, hy, hl, hxl, hg⟩ := DataW.trod_struct Tryz.underlying43 hf
 have g2 := hg 2 _ rfl
 have g3 := hg 3 _ rfl
 have g4 := hg 4 _ rfl
 have hs : ∀ i, i < 5 → ∃ z, xs[i]? = some z := fun i hi => ⟨_, List.getElem?_eq_getElem (by rw [hxl]; exact hi)⟩
 obtain ⟨z2, e2⟩ := hs 2 (by decide)
 obtain ⟨z3, e3⟩ := hs 3 (by decide)
 obtain ⟨z4, e4⟩ := hs 4 (by decide)
 rw [e2] at g2
 rw [e3] at g3
 rw [e4] at g4
 have g2' : DataW.trod enc Tryz.prog W 0 (fun _ => true) true n 39 [.slice A1 N.links.length k1] = some z2 := g2
 have g3' : DataW.trod enc Tryz.prog W 0 (fun _ => true) true n 40 [.slice A2 N.edges.length k2] = some z3 := g3
 have g4' : DataW.trod enc Tryz.prog W 0 (fun _ => true) true n 41 [.slice A3 N.accept.length k3] = some z4 := g4
 exact ⟨slice_capf Tryz.underlying39 g2', slice_capf Tryz.underlying40 g3', slice_capf Tryz.underlying41 g4'⟩
end
end Go.Proofs.YtfekpkelmliejaaGreatDoor
