/-
  A row of lexemes, off what a call owns; and what the three texts of knows split into.
-/
import Derived.Test.YtchfipjclbpomaaGreatQZ01
namespace Go.Proofs.YtchfipjclbpomaaGreat
open Go.RowKit
set_option linter.unusedSimpArgs false
set_option linter.unusedVariables false
set_option maxRecDepth 100000

/-- A row of lexemes that may be read. -/
def LexRow (w : World) (v : Value) (L : List Lex) : Prop :=
  ∃ A cap, v = .slice A L.length cap ∧ ∀ k x, L[k]? = some x → ∃ g, A = some ⟨g, 0, none⟩ ∧
    w.cell? ⟨g, k * 8, none⟩ = some (.int .i64 x.kind) ∧ w.cell? ⟨g, k * 8 + 1, none⟩ = some (.int .i64 x.place) ∧
    w.cell? ⟨g, k * 8 + 2, none⟩ = some (.int .u64 ((word x.set 0 : Nat) : Int)) ∧ w.cell? ⟨g, k * 8 + 2 + 1, none⟩ = some (.int .u64 ((word x.set 1 : Nat) : Int)) ∧ w.cell? ⟨g, k * 8 + 2 + 2, none⟩ = some (.int .u64 ((word x.set 2 : Nat) : Int)) ∧ w.cell? ⟨g, k * 8 + 2 + 3, none⟩ = some (.int .u64 ((word x.set 3 : Nat) : Int)) ∧
    w.cell? ⟨g, k * 8 + 6, none⟩ = some (.int .i64 x.lo) ∧ w.cell? ⟨g, k * 8 + 7, none⟩ = some (.int .i64 x.hi)

theorem lexCells_at : ∀ (L : List Lex) (k : Nat) (x : Lex), L[k]? = some x → ∀ j, j < 8 → (lexCells L)[k * 8 + j]? = (lexCell x)[j]?
  | [], k, x, h, j, hj => by simp at h
  | y :: L, 0, x, h, j, hj => by
    have e : y = x := by simpa using h
    subst e
    have e2 : lexCells (y :: L) = lexCell y ++ lexCells L := by simp [lexCells]
    rw [e2, Nat.zero_mul, Nat.zero_add, List.getElem?_append_left (by simpa [lexCell] using hj)]
  | y :: L, k + 1, x, h, j, hj => by
    have e2 : lexCells (y :: L) = lexCell y ++ lexCells L := by simp [lexCells]
    have hl : (lexCell y).length = 8 := by simp [lexCell]
    rw [e2, List.getElem?_append_right (by omega), hl, show (k + 1) * 8 + j - 8 = k * 8 + j by omega]
    exact lexCells_at L k x (by simpa using h) j hj

theorem lexRow_of {w : World} {base : Nat} {v : Value} {L : List Lex} (h : w.ownsRow base 68 8 v L.length (lexCells L)) : LexRow w v L := by
  obtain ⟨A, cap, hv⟩ := own_slice h
  refine ⟨A, cap, hv, fun k x hx => ?_⟩
  have hpos : 0 < L.length := by
    have := (List.getElem?_eq_some_iff.mp hx).1
    omega
  obtain ⟨g, cap', hv', hbase, hg⟩ := own_form h hpos
  have hA : A = some ⟨g, 0, none⟩ := by rw [hv] at hv'; exact (Value.slice.inj hv').1
  have hc := h.cells (g := g) (by rw [hv']; rfl)
  have hat : ∀ j u, j < 8 → (lexCell x)[j]? = some u → w.cell? ⟨g, k * 8 + j, none⟩ = some u := fun j u hj hu => by
    have := hc (k * 8 + j) u ((lexCells_at L k x hx j hj).trans hu)
    have e : (⟨g, 0, none⟩ : Addr).add (k * 8 + j) = ⟨g, k * 8 + j, none⟩ := by
      rcases Nat.eq_zero_or_pos (k * 8 + j) with hz | hz
      · rw [hz]; rfl
      · have h1 : ¬ (k * 8 = 0 ∧ j = 0) := by omega
        simp [Addr.add, h1]
    exact e ▸ this
  exact ⟨g, hA, hat 0 _ (by decide) rfl, hat 1 _ (by decide) rfl, hat 2 _ (by decide) rfl, hat 3 _ (by decide) rfl, hat 4 _ (by decide) rfl, hat 5 _ (by decide) rfl, hat 6 _ (by decide) rfl, hat 7 _ (by decide) rfl⟩

theorem split_first : splitS [97, 123, 51, 125, 124, 46] = .ok [⟨1, 0, among [97] 1, 0, 0⟩, ⟨8, 1, noSet, 3, 3⟩, ⟨4, 4, noSet, 0, 0⟩, ⟨1, 5, dotSet, 0, 0⟩] := by rfl
theorem split_second : splitS [97, 123, 53, 48, 48, 44, 51, 125] = .error (15, 1) := by rfl
theorem split_third : splitS [97, 98, 123, 49, 48, 48, 49, 125] = .error (16, 2) := by rfl

end Go.Proofs.YtchfipjclbpomaaGreat
