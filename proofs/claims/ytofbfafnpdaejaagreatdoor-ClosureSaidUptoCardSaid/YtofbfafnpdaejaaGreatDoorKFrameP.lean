/- Texts of the claim. -/
import Derived.Test.YtofbfafnpdaejaaGreatDoorRows
import Derived.WalkKit
import Derived.ProofKit
import Derived.OpenShut
import Derived.ShutString
import Derived.ChangeOld
import Derived.SizedLaws
import Derived.Test.YtofbfafnpdaejaaGreatDoorKZ01
namespace Go.Proofs.YtofbfafnpdaejaaGreatDoor
open Go.ChangeShapes Go.WideShapes Go.ChangeAt Go.RowKit
set_option linter.unusedSimpArgs false
set_option linter.unusedVariables false
set_option maxRecDepth 100000
set_option maxHeartbeats 8000000
theorem own_knob : ownKnob Tryz.prog.godebug = none := by kernel_rfl
theorem laid_out : laidOutB Tryz.prog = true := by kernel_rfl
theorem cellsByte : Tryz.prog.cellsOf 5 = 1 := by kernel_rfl
theorem bytesByte : Tryz.prog.bytesOf 5 = 1 := by kernel_rfl
theorem addr_add (b o j : Nat) : (⟨b, o, none⟩ : Addr).add j = ⟨b, o + j, none⟩ := by unfold Addr.add; split <;> simp_all
theorem u8_of_wf {n : Int} (h : (Lit.int .u8 n).wf = true) : 0 ≤ n ∧ n < 256 := by
 have hh : (decide (IntKind.min .u8 ≤ n) && decide (n ≤ IntKind.max .u8)) = true := h
 simp only [Bool.and_eq_true, decide_eq_true_eq] at hh
 obtain ⟨h1, h2⟩ := hh
 have e1 : IntKind.min .u8 = 0 := by decide
 have e2 : IntKind.max .u8 = 255 := by decide
 rw [e1] at h1
 rw [e2] at h2
 omega
theorem bytes_came {H : Type} {enc : TypeId × Value → H} {W : World} {A : Option Addr} {len cap : Nat} {d : DataW H} {p : List MemPlace} {ts : List TypeId} {ds : List (DataW H)} {j : Nat}
  (h : DataW.Trod enc Tryz.prog W 0 (fun _ => true) true 29 (.slice A len cap) d p)
  (hsz : (DataW.weightsEach Tryz.prog ts ds).all (· ≤ reachBytes) = true) (ht : ts[j]? = some 29) (hd : ds[j]? = some d) :
  ∃ bs : List Nat, bs.length = len ∧ BytesAt W W.heap.size A bs ∧ len ≤ cap := by
 obtain ⟨fuel, hf⟩ := h
 rcases open_ints Tryz.underlying29 Tryz.underlying5 cellsByte hf with ⟨hcs, _⟩ | ⟨x, l, c, zs, hcs, _, hl, hm, hz, hx, hcell, hwz⟩
 ·simp [Value.cells] at hcs
  obtain ⟨rfl, rfl, rfl⟩ := hcs
  exact ⟨[], rfl, ⟨by simp, by simp, by simp⟩, Nat.le_refl _⟩
 ·simp [Value.cells] at hcs
  obtain ⟨rfl, rfl, rfl⟩ := hcs
  simp only [if_true] at hz
  have hdx : d = .slice (lits .u8 (zs.take len)) (lits .u8 (zs.drop len)) := (Prod.mk.inj hx).1
  subst hdx
  have hs := sized_slice hsz ht hd Tryz.underlying29
  rw [bytesByte] at hs
  simp [lits] at hs
  have hr : reachBytes = 140737488351232 := by decide
  rw [hr] at hs
  have hlen : len ≤ 140737488351232 := by omega
  refine ⟨(zs.take len).map Int.toNat, by simp; omega, ⟨?_, by simp; omega, ?_⟩, hl⟩
  ·intro y hy
   obtain ⟨z, hz1, rfl⟩ := List.mem_map.1 hy
   have hw := hwz z (List.mem_of_mem_take hz1)
   have := u8_of_wf hw
   omega
  ·intro hpos
   have hpos' : 0 < len := by simp at hpos; omega
   obtain ⟨b, off, spot⟩ := x
   have h0 := hcell 0 (by omega)
   have hspot : spot = none := by simpa [Addr.add] using World.cell?_spot h0
   subst hspot
   refine ⟨b, off, rfl, by have := World.block_lt_of_cell? W _ h0; simpa [Addr.add] using this, ?_⟩
   intro i hi
   have hi' : i < len := by simp at hi; omega
   have hci := hcell i (by omega)
   rw [addr_add] at hci
   rw [hci]
   have hzi : i < zs.length := by omega
   have hw := hwz zs[i] (List.getElem_mem hzi)
   have h0' : 0 ≤ zs[i] := (u8_of_wf hw).1
   congr 2
   unfold byteAt
   simp [List.getD_eq_getElem?_getD, hi', hzi]
   omega
end Go.Proofs.YtofbfafnpdaejaaGreatDoor
