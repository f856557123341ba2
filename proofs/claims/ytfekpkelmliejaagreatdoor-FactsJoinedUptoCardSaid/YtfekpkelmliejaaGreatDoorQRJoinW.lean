/-
  The contract of the reference's Join.
-/
import Derived.Test.YtfekpkelmliejaaGreatDoorQZ04
namespace Go.Proofs.YtfekpkelmliejaaGreatDoor
open Go.RowKit
set_option linter.unusedSimpArgs false
set_option linter.unusedVariables false
set_option maxRecDepth 100000

theorem LexsAt.at {w : World} {B b o : Nat} {L : List Lex} (h : LexsAt w B (some ⟨b, o, none⟩) L) {k : Nat} {x : Lex} (hx : L[k]? = some x) :
    w.cell? ⟨b, o + k * 8, none⟩ = some (.int .i64 x.kind) ∧ w.cell? ⟨b, o + k * 8 + 1, none⟩ = some (.int .i64 x.place) ∧
    w.cell? ⟨b, o + k * 8 + 2, none⟩ = some (.int .u64 ((word x.set 0 : Nat) : Int)) ∧ w.cell? ⟨b, o + k * 8 + 3, none⟩ = some (.int .u64 ((word x.set 1 : Nat) : Int)) ∧ w.cell? ⟨b, o + k * 8 + 4, none⟩ = some (.int .u64 ((word x.set 2 : Nat) : Int)) ∧ w.cell? ⟨b, o + k * 8 + 5, none⟩ = some (.int .u64 ((word x.set 3 : Nat) : Int)) ∧
    w.cell? ⟨b, o + k * 8 + 6, none⟩ = some (.int .i64 x.lo) ∧ w.cell? ⟨b, o + k * 8 + 7, none⟩ = some (.int .i64 x.hi) := by
  obtain ⟨b', o', e, _, hc⟩ := h (by have := (List.getElem?_eq_some_iff.mp hx).1; omega)
  obtain ⟨rfl, rfl⟩ : b = b' ∧ o = o' := by simpa using e
  exact hc k x hx
end Go.Proofs.YtfekpkelmliejaaGreatDoor
