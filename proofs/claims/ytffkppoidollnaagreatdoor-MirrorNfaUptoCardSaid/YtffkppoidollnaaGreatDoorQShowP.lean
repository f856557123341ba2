/-
  What is written is read as it was. No program in sight.
-/
import Derived.Test.YtffkppoidollnaaGreatDoorQShowS
namespace Go.Proofs.YtffkppoidollnaaGreatDoor
open Go.RowKit
set_option linter.unusedSimpArgs false
set_option linter.unusedVariables false
set_option maxRecDepth 100000

/-! A tree as a text can say it. -/
def saidK (k : Int) (s : Nat) (lo hi : Int) (l : List Nd) : Nd := if k = 1 then leafN 0 else ⟨k, maskOf s.testBit, Trees.of l, lo, hi⟩
def Trees.said : Trees → List Nd
  | .nil => []
  | .cons k s ks lo hi r => saidK k s lo hi ks.said :: r.said
def Nd.said (x : Nd) : Nd := saidK x.kind x.set x.lo x.hi x.kids.said
/-! Reading, step by step. -/
def StopL (R : List Lex) : Prop := R = [] ∨ ∃ c R', R = c :: R' ∧ (c.kind = 3 ∨ c.kind = 4)
def EndL (R : List Lex) : Prop := R = [] ∨ ∃ c R', R = c :: R' ∧ c.kind = 3
theorem EndL.stop {R : List Lex} (h : EndL R) : StopL R := by
  rcases h with h | ⟨c, R', h, hc⟩
  · exact .inl h
  · exact .inr ⟨c, R', h, .inl hc⟩
theorem StopL.noPost {R : List Lex} (h : StopL R) : R = [] ∨ ∃ y L, R = y :: L ∧ isPost y.kind = false := by
  rcases h with h | ⟨c, R', h, hc⟩
  · exact .inl h
  · refine .inr ⟨c, R', h, ?_⟩
    cases hp : isPost c.kind
    · rfl
    · have := (isPost_iff _).1 hp
      omega
theorem one_kid {x : Nd} (h : x.kids.len = 1) : ∃ z, x.kids.list = [z] ∧ x.kids.list[0]? = some z := by
  have : x.kids.list.length = 1 := by rw [Trees.len_list]; exact h
  obtain ⟨z, hz⟩ := List.length_eq_one_iff.1 this
  exact ⟨z, hz, by rw [hz]; rfl⟩
/-! Places tell errors alone. -/
end Go.Proofs.YtffkppoidollnaaGreatDoor
