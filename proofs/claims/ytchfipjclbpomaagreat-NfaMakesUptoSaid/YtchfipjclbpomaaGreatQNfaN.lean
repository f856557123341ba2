/-
  Machines in memory that are only read; the contract of nfa.Right.
-/
import Derived.Test.YtchfipjclbpomaaGreatQNfaL
import Derived.Test.YtchfipjclbpomaaGreatQNfaE
namespace Go.Proofs.YtchfipjclbpomaaGreat
open Go.RowKit
set_option linter.unusedSimpArgs false
set_option linter.unusedVariables false
set_option maxRecDepth 100000

/-- Any machine. -/
structure NfaV where
  states : Int
  start : Int
  links : List (Int × Int)
  edges : List (Int × Nat × Int)
  accept : List Int
def LinksAt (w : World) (A : Option Addr) (L : List (Int × Int)) : Prop := ∀ (i : Nat) (p : Int × Int), L[i]? = some p → ∃ b o, A = some ⟨b, o, none⟩ ∧ w.cell? ⟨b, o + i * 2, none⟩ = some (.int .i64 p.1) ∧ w.cell? ⟨b, o + i * 2 + 1, none⟩ = some (.int .i64 p.2)
def EdgesAt (w : World) (A : Option Addr) (L : List (Int × Nat × Int)) : Prop := ∀ (i : Nat) (p : Int × Nat × Int), L[i]? = some p → ∃ b o, A = some ⟨b, o, none⟩ ∧ w.cell? ⟨b, o + i * 6, none⟩ = some (.int .i64 p.1) ∧
  w.cell? ⟨b, o + i * 6 + 1, none⟩ = some (.int .u64 ((word p.2.1.testBit 0 : Nat) : Int)) ∧ w.cell? ⟨b, o + i * 6 + 2, none⟩ = some (.int .u64 ((word p.2.1.testBit 1 : Nat) : Int)) ∧ w.cell? ⟨b, o + i * 6 + 3, none⟩ = some (.int .u64 ((word p.2.1.testBit 2 : Nat) : Int)) ∧ w.cell? ⟨b, o + i * 6 + 4, none⟩ = some (.int .u64 ((word p.2.1.testBit 3 : Nat) : Int)) ∧
  w.cell? ⟨b, o + i * 6 + 5, none⟩ = some (.int .i64 p.2.2)
def IntsAt (w : World) (A : Option Addr) (L : List Int) : Prop := ∀ (i : Nat) (a : Int), L[i]? = some a → ∃ b o, A = some ⟨b, o, none⟩ ∧ w.cell? ⟨b, o + i, none⟩ = some (.int .i64 a)
theorem LinksAt.below {w w' : World} {A : Option Addr} {L : List (Int × Int)} (h : LinksAt w A L) (hb : Below w.heap.size w w') : LinksAt w' A L := fun i p hp => by
  obtain ⟨b, o, hA, h0, h1⟩ := h i p hp
  have hl : b < w.heap.size := World.block_lt_of_cell? w _ h0
  exact ⟨b, o, hA, (hb.cell (p := ⟨b, _, none⟩) hl).trans h0, (hb.cell (p := ⟨b, _, none⟩) hl).trans h1⟩
theorem EdgesAt.below {w w' : World} {A : Option Addr} {L : List (Int × Nat × Int)} (h : EdgesAt w A L) (hb : Below w.heap.size w w') : EdgesAt w' A L := fun i p hp => by
  obtain ⟨b, o, hA, h0, h1, h2, h3, h4, h5⟩ := h i p hp
  have hl : b < w.heap.size := World.block_lt_of_cell? w _ h0
  exact ⟨b, o, hA, (hb.cell (p := ⟨b, _, none⟩) hl).trans h0, (hb.cell (p := ⟨b, _, none⟩) hl).trans h1, (hb.cell (p := ⟨b, _, none⟩) hl).trans h2, (hb.cell (p := ⟨b, _, none⟩) hl).trans h3, (hb.cell (p := ⟨b, _, none⟩) hl).trans h4, (hb.cell (p := ⟨b, _, none⟩) hl).trans h5⟩
theorem IntsAt.below {w w' : World} {A : Option Addr} {L : List Int} (h : IntsAt w A L) (hb : Below w.heap.size w w') : IntsAt w' A L := fun i p hp => by
  obtain ⟨b, o, hA, h0⟩ := h i p hp
  have hl : b < w.heap.size := World.block_lt_of_cell? w _ h0
  exact ⟨b, o, hA, (hb.cell (p := ⟨b, _, none⟩) hl).trans h0⟩
/-- A machine's three rows in memory. -/
structure NfaAt (w : World) (N : NfaV) (A1 A2 A3 : Option Addr) : Prop where
  l : LinksAt w A1 N.links
  e : EdgesAt w A2 N.edges
  a : IntsAt w A3 N.accept
  ll : N.links.length ≤ 140737488355328
  el : N.edges.length ≤ 140737488355328
  al : N.accept.length ≤ 140737488355328
theorem NfaAt.below {w w' : World} {N : NfaV} {A1 A2 A3 : Option Addr} (h : NfaAt w N A1 A2 A3) (hb : Below w.heap.size w w') : NfaAt w' N A1 A2 A3 := ⟨h.l.below hb, h.e.below hb, h.a.below hb, h.ll, h.el, h.al⟩
@[inline] def nfA (N : NfaV) (A1 : Option Addr) (k1 : Nat) (A2 : Option Addr) (k2 : Nat) (A3 : Option Addr) (k3 : Nat) : Array Value := #[.int .i64 N.states, .int .i64 N.start, .slice A1 N.links.length k1, .slice A2 N.edges.length k2, .slice A3 N.accept.length k3]

def isB (n s : Int) : Bool := decide (0 ≤ s) && decide (s < n)
theorem isB_iff {n s : Int} : isB n s = true ↔ 0 ≤ s ∧ s < n := by unfold isB; rw [Bool.and_eq_true, decide_eq_true_eq, decide_eq_true_eq]
theorem isB_no {n s : Int} : isB n s = false ↔ s < 0 ∨ n ≤ s := by
  rw [← Bool.not_eq_true, isB_iff]; omega
def linkB (n : Int) (p : Int × Int) : Bool := isB n p.1 && isB n p.2
def edgeB (n : Int) (p : Int × Nat × Int) : Bool := isB n p.1 && isB n p.2.2
def accB (a : Int) : Bool := decide (0 ≤ a) && decide (a ≤ 64)
theorem accB_no {a : Int} : accB a = false ↔ a < 0 ∨ 64 < a := by
  rw [← Bool.not_eq_true]; unfold accB; rw [Bool.and_eq_true, decide_eq_true_eq, decide_eq_true_eq]; omega
/-- May a machine be? -/
def rightN (N : NfaV) : Bool := decide (N.states ≤ 65536) && (isB N.states N.start && (decide ((N.accept.length : Int) = N.states) && (N.links.all (linkB N.states) && (N.edges.all (edgeB N.states) && N.accept.all accB))))
theorem rightN_head {N : NfaV} (h : ¬ (N.states ≤ 65536 ∧ isB N.states N.start = true ∧ (N.accept.length : Int) = N.states)) : rightN N = false := by
  rw [← Bool.not_eq_true]
  unfold rightN
  simp only [Bool.and_eq_true, decide_eq_true_eq]
  exact fun ⟨a, b, c, _⟩ => h ⟨a, b, c⟩
theorem rightN_tail {N : NfaV} (h1 : N.states ≤ 65536) (h2 : isB N.states N.start = true) (h3 : (N.accept.length : Int) = N.states) : rightN N = (N.links.all (linkB N.states) && (N.edges.all (edgeB N.states) && N.accept.all accB)) := by
  unfold rightN
  rw [decide_eq_true h1, h2, decide_eq_true h3]
  rfl
theorem all_no {α : Type} {l : List α} {f : α → Bool} {k : Nat} {x : α} (hx : l[k]? = some x) (hf : f x = false) : l.all f = false := List.all_eq_false.2 ⟨x, List.mem_of_getElem? hx, by rw [hf]; decide⟩
theorem all_yes {α : Type} {l : List α} {f : α → Bool} (h : ∀ (j : Nat) (x : α), j < l.length → l[j]? = some x → f x = true) : l.all f = true := List.all_eq_true.2 (fun x hx => by
  obtain ⟨j, hj, e⟩ := List.getElem_of_mem hx
  exact h j x hj (by rw [List.getElem?_eq_getElem hj, e]))
def IdxAcc (l : List Int) (w : World) (e : Ending) (w' : World) : Prop := ∃ v : Int, e = .returned (.int .i64 v) ∧ ((l.all accB = true ∧ v = -1) ∨ (l.all accB = false ∧ 0 ≤ v)) ∧ w = w'
end Go.Proofs.YtchfipjclbpomaaGreat
