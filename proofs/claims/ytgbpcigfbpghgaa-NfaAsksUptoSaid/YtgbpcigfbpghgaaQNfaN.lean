/-
  Machines in memory that are only read; the contract of nfa.Right.
-/
import Derived.Test.YtgbpcigfbpghgaaQNfaL
import Derived.Test.YtgbpcigfbpghgaaQNfaE
namespace Go.Proofs.Ytgbpcigfbpghgaa
open Go.RowKit
set_option linter.unusedSimpArgs false
set_option linter.unusedVariables false
set_option maxRecDepth 100000

/-- Any machine. -/
structure NfaV where
  states : Int
  start : Int
  links : List (Int × Int)
  edges : List (Int × Nat × Int)
  accept : List Int
def LinksAt (w : World) (A : Option Addr) (L : List (Int × Int)) : Prop := ∀ (i : Nat) (p : Int × Int), L[i]? = some p → ∃ b o, A = some ⟨b, o, none⟩ ∧ w.cell? ⟨b, o + i * 2, none⟩ = some (.int .i64 p.1) ∧ w.cell? ⟨b, o + i * 2 + 1, none⟩ = some (.int .i64 p.2)
def EdgesAt (w : World) (A : Option Addr) (L : List (Int × Nat × Int)) : Prop := ∀ (i : Nat) (p : Int × Nat × Int), L[i]? = some p → ∃ b o, A = some ⟨b, o, none⟩ ∧ w.cell? ⟨b, o + i * 6, none⟩ = some (.int .i64 p.1) ∧
  w.cell? ⟨b, o + i * 6 + 1, none⟩ = some (.int .u64 ((word p.2.1.testBit 0 : Nat) : Int)) ∧ w.cell? ⟨b, o + i * 6 + 2, none⟩ = some (.int .u64 ((word p.2.1.testBit 1 : Nat) : Int)) ∧ w.cell? ⟨b, o + i * 6 + 3, none⟩ = some (.int .u64 ((word p.2.1.testBit 2 : Nat) : Int)) ∧ w.cell? ⟨b, o + i * 6 + 4, none⟩ = some (.int .u64 ((word p.2.1.testBit 3 : Nat) : Int)) ∧
  w.cell? ⟨b, o + i * 6 + 5, none⟩ = some (.int .i64 p.2.2)
def IntsAt (w : World) (A : Option Addr) (L : List Int) : Prop := ∀ (i : Nat) (a : Int), L[i]? = some a → ∃ b o, A = some ⟨b, o, none⟩ ∧ w.cell? ⟨b, o + i, none⟩ = some (.int .i64 a)
theorem LinksAt.below {w w' : World} {A : Option Addr} {L : List (Int × Int)} (h : LinksAt w A L) (hb : Below w.heap.size w w') : LinksAt w' A L := fun i p hp => by
  obtain ⟨b, o, hA, h0, h1⟩ := h i p hp
  have hl : b < w.heap.size := World.block_lt_of_cell? w _ h0
  exact ⟨b, o, hA, (hb.cell (p := ⟨b, _, none⟩) hl).trans h0, (hb.cell (p := ⟨b, _, none⟩) hl).trans h1⟩
theorem EdgesAt.below {w w' : World} {A : Option Addr} {L : List (Int × Nat × Int)} (h : EdgesAt w A L) (hb : Below w.heap.size w w') : EdgesAt w' A L := fun i p hp => by
  obtain ⟨b, o, hA, h0, h1, h2, h3, h4, h5⟩ := h i p hp
  have hl : b < w.heap.size := World.block_lt_of_cell? w _ h0
  exact ⟨b, o, hA, (hb.cell (p := ⟨b, _, none⟩) hl).trans h0, (hb.cell (p := ⟨b, _, none⟩) hl).trans h1, (hb.cell (p := ⟨b, _, none⟩) hl).trans h2, (hb.cell (p := ⟨b, _, none⟩) hl).trans h3, (hb.cell (p := ⟨b, _, none⟩) hl).trans h4, (hb.cell (p := ⟨b, _, none⟩) hl).trans h5⟩
theorem IntsAt.below {w w' : World} {A : Option Addr} {L : List Int} (h : IntsAt w A L) (hb : Below w.heap.size w w') : IntsAt w' A L := fun i p hp => by
  obtain ⟨b, o, hA, h0⟩ := h i p hp
  have hl : b < w.heap.size := World.block_lt_of_cell? w _ h0
  exact ⟨b, o, hA, (hb.cell (p := ⟨b, _, none⟩) hl).trans h0⟩
/-- A machine's three rows in memory. -/
structure NfaAt (w : World) (N : NfaV) (A1 A2 A3 : Option Addr) : Prop where
  l : LinksAt w A1 N.links
  e : EdgesAt w A2 N.edges
  a : IntsAt w A3 N.accept
  ll : N.links.length ≤ 140737488355328
  el : N.edges.length ≤ 140737488355328
  al : N.accept.length ≤ 140737488355328
theorem NfaAt.below {w w' : World} {N : NfaV} {A1 A2 A3 : Option Addr} (h : NfaAt w N A1 A2 A3) (hb : Below w.heap.size w w') : NfaAt w' N A1 A2 A3 := ⟨h.l.below hb, h.e.below hb, h.a.below hb, h.ll, h.el, h.al⟩
@[inline] def nfA (N : NfaV) (A1 : Option Addr) (k1 : Nat) (A2 : Option Addr) (k2 : Nat) (A3 : Option Addr) (k3 : Nat) : Array Value := #[.int .i64 N.states, .int .i64 N.start, .slice A1 N.links.length k1, .slice A2 N.edges.length k2, .slice A3 N.accept.length k3]

def isB (n s : Int) : Bool := decide (0 ≤ s) && decide (s < n)
theorem isB_iff {n s : Int} : isB n s = true ↔ 0 ≤ s ∧ s < n := by unfold isB; rw [Bool.and_eq_true, decide_eq_true_eq, decide_eq_true_eq]
theorem isB_no {n s : Int} : isB n s = false ↔ s < 0 ∨ n ≤ s := by
  rw [← Bool.not_eq_true, isB_iff]; omega
def linkB (n : Int) (p : Int × Int) : Bool := isB n p.1 && isB n p.2
def edgeB (n : Int) (p : Int × Nat × Int) : Bool := isB n p.1 && isB n p.2.2
def accB (a : Int) : Bool := decide (0 ≤ a) && decide (a ≤ 64)
theorem accB_no {a : Int} : accB a = false ↔ a < 0 ∨ 64 < a := by
  rw [← Bool.not_eq_true]; unfold accB; rw [Bool.and_eq_true, decide_eq_true_eq, decide_eq_true_eq]; omega
/-- May a machine be? -/
def rightN (N : NfaV) : Bool := decide (N.states ≤ 65536) && (isB N.states N.start && (decide ((N.accept.length : Int) = N.states) && (N.links.all (linkB N.states) && (N.edges.all (edgeB N.states) && N.accept.all accB))))
theorem rightN_head {N : NfaV} (h : ¬ (N.states ≤ 65536 ∧ isB N.states N.start = true ∧ (N.accept.length : Int) = N.states)) : rightN N = false := by
  rw [← Bool.not_eq_true]
  unfold rightN
  simp only [Bool.and_eq_true, decide_eq_true_eq]
  exact fun ⟨a, b, c, _⟩ => h ⟨a, b, c⟩
theorem rightN_tail {N : NfaV} (h1 : N.states ≤ 65536) (h2 : isB N.states N.start = true) (h3 : (N.accept.length : Int) = N.states) : rightN N = (N.links.all (linkB N.states) && (N.edges.all (edgeB N.states) && N.accept.all accB)) := by
  unfold rightN
  rw [decide_eq_true h1, h2, decide_eq_true h3]
  rfl
theorem all_no {α : Type} {l : List α} {f : α → Bool} {k : Nat} {x : α} (hx : l[k]? = some x) (hf : f x = false) : l.all f = false := List.all_eq_false.2 ⟨x, List.mem_of_getElem? hx, by rw [hf]; decide⟩
theorem all_yes {α : Type} {l : List α} {f : α → Bool} (h : ∀ (j : Nat) (x : α), j < l.length → l[j]? = some x → f x = true) : l.all f = true := List.all_eq_true.2 (fun x hx => by
  obtain ⟨j, hj, e⟩ := List.getElem_of_mem hx
  exact h j x hj (by rw [List.getElem?_eq_getElem hj, e]))
theorem is_go (s n : Int) (g : Nat) (w : World) (hg : w.cell? ⟨g, 0, none⟩ = some (.int .i64 n)) :
    Calls Try.prog 42 #[.int .i64 s, .pointer (some ⟨g, 0, none⟩)] w fun e w' => e = .returned (.bool (isB n s)) ∧ w = w' := by
  cases hv : isB n s with
  | true =>
    obtain ⟨h0, h1⟩ := isB_iff.1 hv
    clear hv
    go_enter Try.func42, Try.ntmps42
    go_wp2
    go_ret
    exact ⟨rfl, rfl⟩
  | false =>
    have h := isB_no.1 hv
    clear hv
    rcases Int.lt_or_le s 0 with h0 | h0
    · have hd : decide ((0 : Int) ≤ s) = false := decide_eq_false (by omega)
      clear h
      go_enter Try.func42, Try.ntmps42
      go_wp2
      go_ret
      exact ⟨rfl, rfl⟩
    · have hd : decide (s < n) = false := decide_eq_false (by omega)
      clear h
      go_enter Try.func42, Try.ntmps42
      go_wp2
      go_ret
      exact ⟨rfl, rfl⟩
theorem out_go (a : Int) (w : World) :
    Calls Try.prog 44 #[.int .i64 a] w fun e w' => e = .returned (.bool (!accB a)) ∧ w = w' := by
  cases hv : accB a with
  | true =>
    have hv2 := hv
    unfold accB at hv2
    rw [Bool.and_eq_true, decide_eq_true_eq, decide_eq_true_eq] at hv2
    obtain ⟨h0, h1⟩ := hv2
    have hd : decide ((64 : Int) < a) = false := decide_eq_false (by omega)
    have hd2 : decide (a < (0 : Int)) = false := decide_eq_false (by omega)
    clear hv
    go_enter Try.func44, Try.ntmps44
    go_wp2
    go_ret
    exact ⟨rfl, rfl⟩
  | false =>
    have h := accB_no.1 hv
    clear hv
    rcases Int.lt_or_le a 0 with h0 | h0
    · clear h
      go_enter Try.func44, Try.ntmps44
      go_wp2
      go_ret
      exact ⟨rfl, rfl⟩
    · have hd : decide (a < (0 : Int)) = false := decide_eq_false (by omega)
      have hd2 : (64 : Int) < a := by omega
      clear h
      go_enter Try.func44, Try.ntmps44
      go_wp2
      go_ret
      exact ⟨rfl, rfl⟩
def IdxAcc (l : List Int) (w : World) (e : Ending) (w' : World) : Prop := ∃ v : Int, e = .returned (.int .i64 v) ∧ ((l.all accB = true ∧ v = -1) ∨ (l.all accB = false ∧ 0 ≤ v)) ∧ w = w'
set_option maxHeartbeats 2000000 in
theorem idxacc_go (A : Option Addr) (cap : Nat) (xs : List Int) (w : World) (hl : xs.length ≤ 140737488355328) (hA : IntsAt w A xs) :
    Calls Try.prog 69 #[.slice A xs.length cap, .func (.func 44) #[] #[]] w (IdxAcc xs w) := by
  have HA := Lib.hid hA
  clear hA
  go_enter Try.func69, Try.ntmps69
  go_wp2
  go_loop [8] (fun i' => ∃ k : Nat, i' = .int .i64 (k : Int) ∧ k ≤ xs.length ∧ Hid (∀ j z, j < k → xs[j]? = some z → accB z = true)) (fun i' => xs.length - (intOf i').toNat)
  case atStart => exact ⟨0, rfl, Nat.zero_le _, Lib.hid (fun j z hj => by omega)⟩
  case round =>
    obtain ⟨k, rfl, hk, HR⟩ := hrel
    by_cases hlt : k < xs.length
    · obtain ⟨a, ha⟩ : ∃ a, xs[k]? = some a := ⟨_, List.getElem?_eq_getElem hlt⟩
      obtain ⟨b, o, rfl, c0⟩ := HA.out k a ha
      have hdl : (k : Int) < (xs.length : Int) := by omega
      have HI := Lib.hid (out_go a w)
      have HZ := Lib.hid ha
      clear ha
      cases hv : accB a with
      | true =>
        rw [hv] at HI
        have HV := Lib.hid hv
        clear hv
        go_wp2_with fail
        refine HI.out.mono ?_
        rintro e w3 ⟨rfl, rfl⟩
        clear HI c0
        dsimp only
        go_wp2
        go_round
        case rel => exact ⟨k + 1, by go_num, by omega, Lib.hid (fun j y hj hy => by
          rcases Nat.lt_or_ge j k with h | h
          · exact HR.out j y h hy
          · obtain rfl : j = k := by omega
            rw [HZ.out] at hy
            cases hy
            exact HV.out)⟩
        case measure => simp [intOf]; omega
      | false =>
        rw [hv] at HI
        have HV := Lib.hid hv
        clear hv
        go_wp2_with fail
        refine HI.out.mono ?_
        rintro e w3 ⟨rfl, rfl⟩
        clear HI c0
        dsimp only
        go_wp2
        go_ret
        exact ⟨k, rfl, .inr ⟨all_no HZ.out HV.out, by omega⟩, rfl⟩
    · obtain rfl : k = xs.length := by omega
      have hdl : ¬ ((xs.length : Int) < (xs.length : Int)) := by omega
      go_wp2
      go_ret
      exact ⟨-1, rfl, .inl ⟨all_yes (fun j x hj hx => HR.out j x hj hx), rfl⟩, rfl⟩
theorem hasacc_go (A : Option Addr) (cap : Nat) (xs : List Int) (w : World) (hl : xs.length ≤ 140737488355328) (hA : IntsAt w A xs) :
    Calls Try.prog 43 #[.slice A xs.length cap, .func (.func 44) #[] #[]] w fun e w' => e = .returned (.bool (!xs.all accB)) ∧ w = w' := by
  have HI := Lib.hid (idxacc_go A cap xs w hl hA)
  clear hA
  go_enter Try.func43, Try.ntmps43
  go_wp2_with fail
  refine HI.out.mono ?_
  rintro e w3 ⟨v, rfl, hv, rfl⟩
  clear HI
  rcases hv with ⟨h1, rfl⟩ | ⟨h1, h2⟩
  · have HV := Lib.hid h1
    clear h1
    dsimp only
    go_wp2
    go_ret
    exact ⟨by rw [HV.out]; rfl, rfl⟩
  · have HV := Lib.hid h1
    clear h1
    dsimp only
    go_wp2
    go_ret
    exact ⟨by rw [HV.out]; exact ret_b (by simp [h2]), rfl⟩
end Go.Proofs.Ytgbpcigfbpghgaa
