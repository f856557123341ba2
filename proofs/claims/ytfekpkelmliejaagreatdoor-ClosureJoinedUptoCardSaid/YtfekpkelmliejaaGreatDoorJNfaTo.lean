/- Texts of the claim. -/
import Derived.Test.YtfekpkelmliejaaGreatDoorJZ03
namespace Go.Proofs.YtfekpkelmliejaaGreatDoor
open Go.RowKit
set_option linter.unusedSimpArgs false
set_option linter.unusedVariables false
set_option maxRecDepth 100000
set_option maxHeartbeats 8000000
def MachS.toV (m : MachS) : NfaV := ⟨m.states, 0, m.links.map fun p => ((p.1 : Int), (p.2 : Int)), m.edges.map fun p => ((p.1 : Int), p.2.1, (p.2.2 : Int)), m.accept.map fun (a : Nat) => (a : Int)⟩
theorem linkCells_get : ∀ (l : List (Nat × Nat)) (k : Nat) (p : Nat × Nat), l[k]? = some p → (linkCells l)[k * 2]? = some (.int .i64 (p.1 : Int)) ∧ (linkCells l)[k * 2 + 1]? = some (.int .i64 (p.2 : Int))
 | [], k, p, h => by simp at h
 | x :: l, 0, p, h => by simp at h; subst h; exact ⟨rfl, rfl⟩
 | x :: l, k + 1, p, h => by
  obtain ⟨h1, h2⟩ := linkCells_get l k p (by simpa using h)
  have e : linkCells (x :: l) = linkCell x ++ linkCells l := by simp [linkCells]
  have hl : (linkCell x).length = 2 := rfl
  rw [e]
  refine ⟨?_, ?_⟩
  ·rw [List.getElem?_append_right (by omega), hl, show (k + 1) * 2 - 2 = k * 2 by omega]; exact h1
  ·rw [List.getElem?_append_right (by omega), hl, show (k + 1) * 2 + 1 - 2 = k * 2 + 1 by omega]; exact h2
theorem edgeCells_get : ∀ (l : List (Nat × Nat × Nat)) (k : Nat) (p : Nat × Nat × Nat), l[k]? = some p → ∀ j, j < 6 → (edgeCells l)[k * 6 + j]? = (edgeCell p)[j]?
 | [], k, p, h, _, _ => by simp at h
 | x :: l, 0, p, h, j, hj => by
  simp at h
  subst h
  have e : edgeCells (x :: l) = edgeCell x ++ edgeCells l := by simp [edgeCells]
  rw [e, Nat.zero_mul, Nat.zero_add, List.getElem?_append_left (by simpa [edgeCell] using hj)]
 | x :: l, k + 1, p, h, j, hj => by
  have h1 := edgeCells_get l k p (by simpa using h) j hj
  have e : edgeCells (x :: l) = edgeCell x ++ edgeCells l := by simp [edgeCells]
  have hl : (edgeCell x).length = 6 := rfl
  rw [e, List.getElem?_append_right (by omega), hl, show (k + 1) * 6 + j - 6 = k * 6 + j by omega]
  exact h1
theorem RowsM.nfaAt {w : World} {base : Nat} {m : MachS} {A1 A2 A3 : Option Addr} {n1 n2 n3 k1 k2 k3 : Nat} (h : RowsM w base m (.slice A1 n1 k1) (.slice A2 n2 k2) (.slice A3 n3 k3)) (hf : FitsM m) : NfaAt w m.toV A1 A2 A3 := by
 refine ⟨fun i p hp => ?_, fun i p hp => ?_, fun i a ha => ?_, by simp [MachS.toV]; have := hf.2.1; omega, by simp [MachS.toV]; have := hf.2.2; omega, by simp [MachS.toV]; have := hf.1; unfold MachS.states at this; omega⟩
 ·simp only [MachS.toV] at hp
  rw [List.getElem?_map] at hp
  obtain ⟨q, hq, rfl⟩ := Option.map_eq_some_iff.1 hp
  have hi := (List.getElem?_eq_some_iff.1 hq).1
  obtain ⟨g, c, e, _, _⟩ := own_form h.l (by omega)
  cases e
  obtain ⟨c0, c1⟩ := linkCells_get m.links i q hq
  have d0 := h.l.cells (g := g) rfl _ _ c0
  have d1 := h.l.cells (g := g) rfl _ _ c1
  rw [addr_plusE] at d0 d1
  exact ⟨g, 0, rfl, by rw [Nat.zero_add]; exact d0, by rw [Nat.zero_add]; exact d1⟩
 ·simp only [MachS.toV] at hp
  rw [List.getElem?_map] at hp
  obtain ⟨q, hq, rfl⟩ := Option.map_eq_some_iff.1 hp
  have hi := (List.getElem?_eq_some_iff.1 hq).1
  obtain ⟨g, c, e, _, _⟩ := own_form h.e (by omega)
  cases e
  have hc := edgeCells_get m.edges i q hq
  have d : ∀ j u, j < 6 → (edgeCell q)[j]? = some u → w.cell? ⟨g, 0 + i * 6 + j, none⟩ = some u := fun j u hj hu => by
   have := h.e.cells (g := g) rfl _ _ ((hc j hj).trans hu)
   rw [addr_plusE] at this
   rw [Nat.zero_add]
   exact this
  exact ⟨g, 0, rfl, d 0 _ (by decide) rfl, d 1 _ (by decide) rfl, d 2 _ (by decide) rfl, d 3 _ (by decide) rfl, d 4 _ (by decide) rfl, d 5 _ (by decide) rfl⟩
 ·simp only [MachS.toV] at ha
  rw [List.getElem?_map] at ha
  obtain ⟨q, hq, rfl⟩ := Option.map_eq_some_iff.1 ha
  have hi := (List.getElem?_eq_some_iff.1 hq).1
  obtain ⟨g, c, e, _, _⟩ := own_form h.a (by omega)
  cases e
  have d0 := h.a.cells (g := g) rfl _ _ (accCells_get m.accept i q hq)
  rw [addr_plusE] at d0
  exact ⟨g, 0, rfl, by rw [Nat.zero_add]; exact d0⟩
end Go.Proofs.YtfekpkelmliejaaGreatDoor
