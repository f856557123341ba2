/-
  What every card of this seat wants: an argument that is a slice of bytes; the table that the rows list; a world for the witness.
-/
import Derived.Test.YtkelkadalikibaaDoorMem
import Derived.Test.YtkelkadalikibaaDoorRows
import Derived.Shelf.Spec.TrailingZeros
import Derived.WalkKit
import Derived.ProofKit
import Derived.OpenShut
import Derived.ShutString
import Derived.ChangeOld
import Derived.SizedLaws
import Derived.Deep.DeepHandedRow
import Derived.Lib.LaidTab
namespace Go.Proofs.YtkelkadalikibaaDoor
open Go.ChangeShapes Go.WideShapes Go.ChangeAt Go.RowKit Go.Shelf
set_option linter.unusedSimpArgs false
set_option linter.unusedVariables false
set_option maxRecDepth 100000

theorem own_knob : ownKnob Tryd.prog.godebug = none := by kernel_rfl
theorem laid_out : laidOutB Tryd.prog = true := by kernel_rfl
theorem gTab : Tryd.prog.globalNamed "math/bits.deBruijn64tab" = some 0 := by kernel_rfl
theorem gTabType : (Tryd.prog.globals[0]?).map (·.type) = some 103 := by kernel_rfl
theorem cellsTab : Tryd.prog.cellsOf 103 = 64 := by kernel_rfl
theorem cellsByte : Tryd.prog.cellsOf 5 = 1 := by kernel_rfl
theorem bytesByte : Tryd.prog.bytesOf 5 = 1 := by kernel_rfl

/-- What a row's list gives: the table's cells hold its numbers. -/
theorem table_at {W : World} (h : laidMetH Tryd.prog [("math/bits.deBruijn64tab", Rows.laid_math_bits_deBruijn64tab)] W) : TabAt 0 Lib.deBruijn64tab W := by
  have ht : Lib.TabIs Tryd.prog W "math/bits.deBruijn64tab" .u8 (Lib.deBruijn64tab.map fun n : Nat => (n : Int)) :=
    Lib.tabIs_of_head (rest := []) gTab gTabType Tryd.underlying103 Tryd.underlying5 cellsByte cellsTab h
  intro j hj
  have hc := ht.cell gTab j (by simpa using hj)
  rw [hc]
  simp [List.getD_eq_getElem?_getD, hj]

theorem addr_add (b o j : Nat) : (⟨b, o, none⟩ : Addr).add j = ⟨b, o + j, none⟩ := by unfold Addr.add; split <;> simp_all

theorem u8_of_wf {n : Int} (h : (Lit.int .u8 n).wf = true) : 0 ≤ n ∧ n < 256 := by
  have hh : (decide (IntKind.min .u8 ≤ n) && decide (n ≤ IntKind.max .u8)) = true := h
  simp only [Bool.and_eq_true, decide_eq_true_eq] at hh
  obtain ⟨h1, h2⟩ := hh
  have e1 : IntKind.min .u8 = 0 := by decide
  have e2 : IntKind.max .u8 = 255 := by decide
  rw [e1] at h1
  rw [e2] at h2
  omega

/-- A slice of bytes that came in. -/
theorem bytes_came {H : Type} {enc : TypeId × Value → H} {W : World} {A : Option Addr} {len cap : Nat} {d : DataW H} {p : List MemPlace} {ts : List TypeId} {ds : List (DataW H)} {j : Nat}
    (h : DataW.Trod enc Tryd.prog W 0 (fun _ => true) true 22 (.slice A len cap) d p)
    (hsz : (DataW.weightsEach Tryd.prog ts ds).all (· ≤ reachBytes) = true) (ht : ts[j]? = some 22) (hd : ds[j]? = some d) :
    ∃ bs : List Nat, bs.length = len ∧ BytesAt W W.heap.size A bs ∧ len ≤ 140737488351232 := by
  obtain ⟨fuel, hf⟩ := h
  rcases open_ints Tryd.underlying22 Tryd.underlying5 cellsByte hf with ⟨hcs, _⟩ | ⟨x, l, c, zs, hcs, _, hl, hm, hz, hx, hcell, hwz⟩
  · simp [Value.cells] at hcs
    obtain ⟨rfl, rfl, rfl⟩ := hcs
    exact ⟨[], rfl, ⟨by simp, by simp, by simp⟩, by omega⟩
  · simp [Value.cells] at hcs
    obtain ⟨rfl, rfl, rfl⟩ := hcs
    simp only [if_true] at hz
    have hdx : d = .slice (lits .u8 (zs.take len)) (lits .u8 (zs.drop len)) := (Prod.mk.inj hx).1
    subst hdx
    have hs := sized_slice hsz ht hd Tryd.underlying22
    rw [bytesByte] at hs
    simp [lits] at hs
    have hr : reachBytes = 140737488351232 := by decide
    rw [hr] at hs
    have hlen : len ≤ 140737488351232 := by omega
    refine ⟨(zs.take len).map Int.toNat, by simp; omega, ⟨?_, by simp; omega, ?_⟩, hlen⟩
    · intro y hy
      obtain ⟨z, hz1, rfl⟩ := List.mem_map.1 hy
      have hw := hwz z (List.mem_of_mem_take hz1)
      have := u8_of_wf hw
      omega
    · intro hpos
      have hpos' : 0 < len := by simp at hpos; omega
      obtain ⟨b, off, spot⟩ := x
      have h0 := hcell 0 (by omega)
      have hspot : spot = none := by simpa [Addr.add] using World.cell?_spot h0
      subst hspot
      refine ⟨b, off, rfl, by have := World.block_lt_of_cell? W _ h0; simpa [Addr.add] using this, ?_⟩
      intro i hi
      have hi' : i < len := by simp at hi; omega
      have hci := hcell i (by omega)
      rw [addr_add] at hci
      rw [hci]
      have hzi : i < zs.length := by omega
      have hw := hwz zs[i] (List.getElem_mem hzi)
      have h0' : 0 ≤ zs[i] := (u8_of_wf hw).1
      congr 2
      unfold byteAt
      simp [List.getD_eq_getElem?_getD, hi', hzi]
      omega

theorem u64_of_wf {n : Int} (h : (Lit.int .u64 n).wf = true) : 0 ≤ n ∧ n < 18446744073709551616 := by
  have hh : (decide (IntKind.min .u64 ≤ n) && decide (n ≤ IntKind.max .u64)) = true := h
  simp only [Bool.and_eq_true, decide_eq_true_eq] at hh
  obtain ⟨h1, h2⟩ := hh
  have e1 : IntKind.min .u64 = 0 := by decide
  have e2 : IntKind.max .u64 = 18446744073709551615 := by decide
  rw [e1] at h1
  rw [e2] at h2
  omega
theorem cellsWord : Tryd.prog.cellsOf 23 = 1 := by kernel_rfl
theorem cellsSet : Tryd.prog.cellsOf 25 = 4 := by kernel_rfl

/-- A set that came in by value. -/
theorem set_came {H : Type} {enc : TypeId × Value → H} {W : World} {base : Nat} {v : Value} {d : DataW H} {p : List MemPlace}
    (hv : Value.okWide Tryd.prog W .any base 25 v) (h : DataW.Trod enc Tryd.prog W 0 (fun _ => true) true 25 v d p) : ∃ q : Nat → Bool, v = .agg #[.int .u64 ((word (q) 0 : Nat) : Int), .int .u64 ((word (q) 1 : Nat) : Int), .int .u64 ((word (q) 2 : Nat) : Int), .int .u64 ((word (q) 3 : Nat) : Int)] := by
  simp only [Value.okWide, Tryd.underlying25] at hv
  obtain ⟨cs, rfl, h2, _⟩ := hv
  rw [cellsSet] at h2
  obtain ⟨fuel, hf⟩ := h
  obtain ⟨x0, x1, x2, x3, rfl⟩ : ∃ x0 x1 x2 x3, cs = #[x0, x1, x2, x3] := by
    obtain ⟨l⟩ := cs
    match l, h2 with
    | [a, b, c, e], _ => exact ⟨a, b, c, e, rfl⟩
  cases fuel with
  | zero => simp [DataW.trod] at hf
  | succ m =>
    simp only [DataW.trod, Tryd.underlying25, cellsWord, cellsSet, Value.cells] at hf
    rw [if_pos (by simp)] at hf
    simp only [Option.map_eq_some_iff, show List.range 4 = [0, 1, 2, 3] from rfl, List.mapM_cons, List.mapM_nil, bind, Option.bind_eq_some_iff, pure, Option.some.injEq] at hf
    obtain ⟨ys, ⟨y0, h0, ys1, ⟨y1, h1, ys2, ⟨y2, h2', ys3, ⟨y3, h3, _⟩, _⟩, _⟩, _⟩, _⟩ := hf
    obtain ⟨a0, e0, _, w0⟩ := DataW.trod_int Tryd.underlying23 h0
    obtain ⟨a1, e1, _, w1⟩ := DataW.trod_int Tryd.underlying23 h1
    obtain ⟨a2, e2, _, w2⟩ := DataW.trod_int Tryd.underlying23 h2'
    obtain ⟨a3, e3, _, w3⟩ := DataW.trod_int Tryd.underlying23 h3
    simp at e0 e1 e2 e3
    subst e0 e1 e2 e3
    obtain ⟨b0, b0'⟩ := u64_of_wf w0
    obtain ⟨b1, b1'⟩ := u64_of_wf w1
    obtain ⟨b2, b2'⟩ := u64_of_wf w2
    obtain ⟨b3, b3'⟩ := u64_of_wf w3
    obtain ⟨n0, rfl⟩ := Int.eq_ofNat_of_zero_le b0
    obtain ⟨n1, rfl⟩ := Int.eq_ofNat_of_zero_le b1
    obtain ⟨n2, rfl⟩ := Int.eq_ofNat_of_zero_le b2
    obtain ⟨n3, rfl⟩ := Int.eq_ofNat_of_zero_le b3
    obtain ⟨q0, q1, q2, q3⟩ := word_bitsOf (a := n0) (b := n1) (c := n2) (d := n3) (by omega) (by omega) (by omega) (by omega)
    exact ⟨bitsOf n0 n1 n2 n3, by rw [q0, q1, q2, q3]⟩

/-- A world for the witness: the table holds what its initialiser lays. -/
noncomputable def tabWorld (os : Os) : World :=
  { World.holding Tryd.prog os ⟨#[], #[], []⟩ with heap := (World.holding Tryd.prog os ⟨#[], #[], []⟩).heap.modify 0 fun
      | .cells _ t frozen => .cells (Lib.deBruijn64tab.map fun n : Nat => Value.int .u8 (n : Int)).toArray t frozen
      | o => o }

end Go.Proofs.YtkelkadalikibaaDoor
