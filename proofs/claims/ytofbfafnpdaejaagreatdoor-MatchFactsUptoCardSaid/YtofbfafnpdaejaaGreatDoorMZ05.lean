/- Texts of the claim. -/
import Derived.Test.YtofbfafnpdaejaaGreatDoorRows
import Derived.WalkKit
import Derived.ProofKit
import Derived.OpenShut
import Derived.ShutString
import Derived.ChangeOld
import Derived.SizedLaws
import Derived.Shelf.Spec.TrailingZeros
import Derived.Deep.DeepHandedRow
import Derived.Lib.LaidTab
import Derived.Lib.SlBuf
import Derived.Lib.RepeatB
import Derived.Lib.Mul64
import Derived.Lib.MakeNoZero
import Derived.Laws.Bits64b
import Derived.StillTailTactics
import Derived.RangeFuncNested
import Derived.RangeFuncBound
import Derived.RangeFuncCalls
import Derived.RangeFuncLeaves
import Derived.Shelf.Abstract
import Derived.Shelf.RegionOpen
import Derived.OwnWalkIn
import Derived.TacticsInMore
import Derived.LoopNIn
import Derived.LoopIn
import Derived.MapKept
import Derived.ChangeMaps5
import Derived.Maps.Keyed
import Derived.DeepKeys4
import Derived.Test.YtofbfafnpdaejaaGreatDoorMZ03
import Derived.Test.YtofbfafnpdaejaaGreatDoorMEscCl
import Derived.Test.YtofbfafnpdaejaaGreatDoorMZ01
import Derived.Test.YtofbfafnpdaejaaGreatDoorMZ02
namespace Go.Proofs.YtofbfafnpdaejaaGreatDoor
open Go.RowKit
set_option linter.unusedSimpArgs false
set_option linter.unusedVariables false
set_option maxRecDepth 100000
set_option maxHeartbeats 8000000
structure Ctx (N S T I b o cap : Nat) (bs : List Nat) (i : Nat) (v : Value) (L : List Lex) (W0 : World) (j : Nat) (W : World) : Prop where
 hT : W.cell? ⟨T, 0, none⟩ = some (.pointer (some ⟨S, 0, none⟩))
 hI : Blk W I 3 #[.int .i64 (j : Int)]
 hS : Spl W S b o bs.length cap i v 0 0
 hrow : W.ownsRow N 143 8 v L.length (lexCells L)
 hA : BytesAt W N (some ⟨b, o, none⟩) bs
 hB : Below N W0 W
 hNS : N ≤ S
 hNI : N ≤ I
 hTI : T ≠ I
 hSI : S ≠ I
 hcap : bs.length ≤ cap
section
variable {N S T I b o cap : Nat} {bs : List Nat} {i : Nat} {v : Value} {L : List Lex} {W0 : World} {j : Nat} {W W' : World}
theorem Ctx.drewN (h : Ctx N S T I b o cap bs i v L W0 j W) (n : Nat) : Ctx N S T I b o cap bs i v L W0 j (W.drewN n) :=
 ⟨h.hT, h.hI, h.hS, h.hrow, h.hA, bel_drewN h.hB n, h.hNS, h.hNI, h.hTI, h.hSI, h.hcap⟩
theorem Ctx.below (h : Ctx N S T I b o cap bs i v L W0 j W) (hb : Below W.heap.size W W') : Ctx N S T I b o cap bs i v L W0 j W' :=
  ⟨(hb.cell (p := ⟨T, 0, none⟩) (World.block_lt_of_cell? W _ h.hT)).trans h.hT, h.hI.below hb h.hI.lt, Blk.below h.hS hb (Blk.lt h.hS), own_below h.hrow hb, h.hA.below (hb.mono (Nat.le_of_lt (Nat.lt_of_le_of_lt h.hNS (Blk.lt h.hS)))),
    h.hB.trans (hb.mono (Nat.le_of_lt (Nat.lt_of_le_of_lt h.hNS (Blk.lt h.hS)))), h.hNS, h.hNI, h.hTI, h.hSI, h.hcap⟩
theorem Ctx.set_ (h : Ctx N S T I b o cap bs i v L W0 j W) (m : Nat) : Ctx N S T I b o cap bs i v L W0 m (W.setCell ⟨I, 0, none⟩ (.int .i64 (m : Int))) :=
  ⟨(World.cell?_setCell_other W _ _ _ (fun e => h.hTI (by simpa using (congrArg Addr.block e).symm))).trans h.hT, h.hI.set_ 0 _, Blk.far h.hS (p := ⟨I, 0, none⟩) h.hSI _, own_set h.hrow (blk_not_row h.hI (by decide) h.hrow),
    h.hA.below ((Below.refl N W).setCell (p := ⟨I, 0, none⟩) h.hNI _), h.hB.setCell (p := ⟨I, 0, none⟩) h.hNI _, h.hNS, h.hNI, h.hTI, h.hSI, h.hcap⟩
theorem Ctx.facts (h : Ctx N S T I b o cap bs i v L W0 j W) : W.cell? ⟨T, 0, none⟩ = some (.pointer (some ⟨S, 0, none⟩)) ∧ W.cell? ⟨I, 0, none⟩ = some (.int .i64 (j : Int)) ∧ W.cell? ⟨S, 0, none⟩ = some (.slice (some ⟨b, o, none⟩) bs.length cap) ∧ W.frozen? ⟨I, 0, none⟩ = false ∧
  T < W.heap.size ∧ I < W.heap.size ∧ S < W.heap.size ∧ N ≤ W.heap.size :=
 ⟨h.hT, h.hI.cell 0, (Spl.cells h.hS).1, h.hI.frozen 0, World.block_lt_of_cell? W _ h.hT, h.hI.lt, Blk.lt h.hS, Nat.le_of_lt (Nat.lt_of_le_of_lt h.hNS (Blk.lt h.hS))⟩
end
def Kept (N S T I b o cap : Nat) (bs : List Nat) (i : Nat) (u : Value) (L : List Lex) (W0 : World) (j : Nat) (v : Value) (e : Ending) (W' : World) : Prop := e = .returned v ∧ Ctx N S T I b o cap bs i u L W0 j W'
theorem here_yes {N S T I b o cap : Nat} {bs : List Nat} {i : Nat} {v : Value} {L : List Lex} {W0 : World} {j : Nat} {W : World} (h : Ctx N S T I b o cap bs i v L W0 j W) (c : Nat) (hj : j < bs.length) :
  Calls Tryz.prog 230 #[.int .u8 (c : Int), .pointer (some ⟨I, 0, none⟩), .pointer (some ⟨T, 0, none⟩)] W (Kept N S T I b o cap bs i v L W0 j (.bool (hasAt bs j c))) := by
 obtain ⟨c0, c1, c2, f1, l0, l1, l2, _⟩ := h.facts
 have hcell := bytesAt_cells h.hA j hj
 have hl := h.hA.2.1
 have HK := Lib.hid h
 have Hh := Lib.hid (hasAt_in c hj)
 clear h
 generalize byteAt bs j = d at *
 have hd : decide (j < bs.length) = true := by simp; omega
 have hd2 : (j : Int) < (bs.length : Int) := by omega
 go_enter Tryz.func230, Tryz.ntmps230
 go_wp2
 go_quiet (fail)
 go_wp2
 go_light
 go_ret
 refine ⟨ret_b ?_, HK.out.drewN _⟩
 rw [Hh.out]
 rw [Bool.eq_iff_iff]
 simp
 omega
theorem here_end {N S T I b o cap : Nat} {bs : List Nat} {i : Nat} {v : Value} {L : List Lex} {W0 : World} {j : Nat} {W : World} (h : Ctx N S T I b o cap bs i v L W0 j W) (c : Nat) (hj : bs.length ≤ j) :
  Calls Tryz.prog 230 #[.int .u8 (c : Int), .pointer (some ⟨I, 0, none⟩), .pointer (some ⟨T, 0, none⟩)] W (Kept N S T I b o cap bs i v L W0 j (.bool (hasAt bs j c))) := by
 obtain ⟨c0, c1, c2, f1, l0, l1, l2, _⟩ := h.facts
 have hl := h.hA.2.1
 have HK := Lib.hid h
 have Hh := Lib.hid (hasAt_out (bs := bs) (i := (j : Int)) c (by omega))
 clear h
 have hd : decide (j < bs.length) = false := by simp; omega
 go_enter Tryz.func230, Tryz.ntmps230
 go_wp2
 go_quiet (fail)
 go_wp2
 go_light
 go_ret
 exact ⟨ret_b (by rw [Hh.out]), HK.out.drewN _⟩
theorem sphere_go {N S T I b o cap : Nat} {bs : List Nat} {i : Nat} {v : Value} {L : List Lex} {W0 : World} {j : Nat} {W : World} (h : Ctx N S T I b o cap bs i v L W0 j W) (c : Nat) :
  Calls Tryz.prog 230 #[.int .u8 (c : Int), .pointer (some ⟨I, 0, none⟩), .pointer (some ⟨T, 0, none⟩)] W (Kept N S T I b o cap bs i v L W0 j (.bool (hasAt bs j c))) := by
 rcases Nat.lt_or_ge j bs.length with hj | hj
 ·exact here_yes h c hj
 ·exact here_end h c hj
theorem num_yes {N S T I b o cap : Nat} {bs : List Nat} {i : Nat} {v : Value} {L : List Lex} {W0 : World} {j : Nat} {W : World} (h : Ctx N S T I b o cap bs i v L W0 j W) (hj : j ≤ bs.length) {n m : Nat} (ht : takeS bs j = some (n, m)) :
  Calls Tryz.prog 228 #[.pointer (some ⟨T, 0, none⟩), .pointer (some ⟨I, 0, none⟩)] W (Kept N S T I b o cap bs i v L W0 m (.tuple #[.int .i64 (n : Int), .bool true])) := by
 have Hv := Lib.hid (show takeVal bs j = .tuple #[.int .i64 (n : Int), .int .i64 (m : Int), .int .i64 0] by unfold takeVal; rw [ht])
 clear ht
 obtain ⟨c0, c1, c2, f1, l0, l1, l2, l3⟩ := h.facts
 have hl := h.hA.2.1
 have HK := Lib.hid h
 have HE := Lib.hid (fun w hA => take_at b o cap bs j w hA h.hcap hj)
 clear h
 go_enter Tryz.func228, Tryz.ntmps228
 go_wp2_with fail
 go_region_held3 (fun w' => (∀ b o, b < W.heap.size → w'.cell? ⟨b, o, none⟩ = W.cell? ⟨b, o, none⟩) ∧ Since W.heap.size W w') (first | (with_reducible exact HK2.out) | (with_reducible exact since_start (Nat.le_refl _)))
  (first | (go_at_call 229; refine (HE.out _ (bytes_since (by assumption) HK.out.hA l3)).mono ?_; rintro e w' ⟨rfl, hb'⟩; rw [Hv.out]; have hK := since_step (by assumption) hb'; have HK2 := Lib.hid hK; clear hK))
 have HC := Lib.hid (HK.out.below HK2.out.2.1)
 obtain ⟨k0, k1, k2, g1, _, _, _, _⟩ := HC.out.facts
 go_wp2
 go_light
 go_ret2
 exact ⟨rfl, HC.out.set_ m⟩
theorem num_no {N S T I b o cap : Nat} {bs : List Nat} {i : Nat} {v : Value} {L : List Lex} {W0 : World} {j : Nat} {W : World} (h : Ctx N S T I b o cap bs i v L W0 j W) (hj : j ≤ bs.length) (ht : takeS bs j = none) :
  Calls Tryz.prog 228 #[.pointer (some ⟨T, 0, none⟩), .pointer (some ⟨I, 0, none⟩)] W (Kept N S T I b o cap bs i v L W0 j (.tuple #[.int .i64 0, .bool false])) := by
 have Hv := Lib.hid (show takeVal bs j = .tuple #[.int .i64 0, .int .i64 0, .int .i64 (takeErr bs j)] by unfold takeVal; rw [ht])
 have hk := takeErr_pos bs j
 generalize takeErr bs j = k at *
 have hk0 : (k != 0) = true := by rw [bne_iff_ne]; omega
 clear ht hk
 obtain ⟨c0, c1, c2, f1, l0, l1, l2, l3⟩ := h.facts
 have hl := h.hA.2.1
 have HK := Lib.hid h
 have HE := Lib.hid (fun w hA => take_at b o cap bs j w hA h.hcap hj)
 clear h
 go_enter Tryz.func228, Tryz.ntmps228
 go_wp2_with fail
 go_region_held3 (fun w' => (∀ b o, b < W.heap.size → w'.cell? ⟨b, o, none⟩ = W.cell? ⟨b, o, none⟩) ∧ Since W.heap.size W w') (first | (with_reducible exact HK2.out) | (with_reducible exact since_start (Nat.le_refl _)))
  (first | (go_at_call 229; refine (HE.out _ (bytes_since (by assumption) HK.out.hA l3)).mono ?_; rintro e w' ⟨rfl, hb'⟩; rw [Hv.out]; have hK := since_step (by assumption) hb'; have HK2 := Lib.hid hK; clear hK))
 have HC := Lib.hid (HK.out.below HK2.out.2.1)
 obtain ⟨k0, k1, k2, g1, _, _, _, _⟩ := HC.out.facts
 go_wp2
 go_light
 go_ret2
 exact ⟨rfl, HC.out⟩
end Go.Proofs.YtofbfafnpdaejaaGreatDoor
namespace Go.Proofs.YtofbfafnpdaejaaGreatDoor
open Go.ChangeShapes Go.WideShapes Go.ChangeAt Go.RowKit
set_option linter.unusedSimpArgs false
set_option linter.unusedVariables false
set_option maxRecDepth 100000
set_option maxHeartbeats 8000000
theorem own_knob : ownKnob Tryz.prog.godebug = none := by kernel_rfl
theorem laid_out : laidOutB Tryz.prog = true := by kernel_rfl
theorem cellsByte : Tryz.prog.cellsOf 5 = 1 := by kernel_rfl
theorem bytesByte : Tryz.prog.bytesOf 5 = 1 := by kernel_rfl
theorem addr_add (b o j : Nat) : (⟨b, o, none⟩ : Addr).add j = ⟨b, o + j, none⟩ := by unfold Addr.add; split <;> simp_all
theorem u8_of_wf {n : Int} (h : (Lit.int .u8 n).wf = true) : 0 ≤ n ∧ n < 256 := by
 have hh : (decide (IntKind.min .u8 ≤ n) && decide (n ≤ IntKind.max .u8)) = true := h
 simp only [Bool.and_eq_true, decide_eq_true_eq] at hh
 obtain ⟨h1, h2⟩ := hh
 have e1 : IntKind.min .u8 = 0 := by decide
 have e2 : IntKind.max .u8 = 255 := by decide
 rw [e1] at h1
 rw [e2] at h2
 omega
theorem bytes_came {H : Type} {enc : TypeId × Value → H} {W : World} {A : Option Addr} {len cap : Nat} {d : DataW H} {p : List MemPlace} {ts : List TypeId} {ds : List (DataW H)} {j : Nat}
  (h : DataW.Trod enc Tryz.prog W 0 (fun _ => true) true 29 (.slice A len cap) d p)
  (hsz : (DataW.weightsEach Tryz.prog ts ds).all (· ≤ reachBytes) = true) (ht : ts[j]? = some 29) (hd : ds[j]? = some d) :
  ∃ bs : List Nat, bs.length = len ∧ BytesAt W W.heap.size A bs ∧ len ≤ cap := by
 obtain ⟨fuel, hf⟩ := h
 rcases open_ints Tryz.underlying29 Tryz.underlying5 cellsByte hf with ⟨hcs, _⟩ | ⟨x, l, c, zs, hcs, _, hl, hm, hz, hx, hcell, hwz⟩
 ·simp [Value.cells] at hcs
  obtain ⟨rfl, rfl, rfl⟩ := hcs
  exact ⟨[], rfl, ⟨by simp, by simp, by simp⟩, Nat.le_refl _⟩
 ·simp [Value.cells] at hcs
  obtain ⟨rfl, rfl, rfl⟩ := hcs
  simp only [if_true] at hz
  have hdx : d = .slice (lits .u8 (zs.take len)) (lits .u8 (zs.drop len)) := (Prod.mk.inj hx).1
  subst hdx
  have hs := sized_slice hsz ht hd Tryz.underlying29
  rw [bytesByte] at hs
  simp [lits] at hs
  have hr : reachBytes = 140737488351232 := by decide
  rw [hr] at hs
  have hlen : len ≤ 140737488351232 := by omega
  refine ⟨(zs.take len).map Int.toNat, by simp; omega, ⟨?_, by simp; omega, ?_⟩, hl⟩
  ·intro y hy
   obtain ⟨z, hz1, rfl⟩ := List.mem_map.1 hy
   have hw := hwz z (List.mem_of_mem_take hz1)
   have := u8_of_wf hw
   omega
  ·intro hpos
   have hpos' : 0 < len := by simp at hpos; omega
   obtain ⟨b, off, spot⟩ := x
   have h0 := hcell 0 (by omega)
   have hspot : spot = none := by simpa [Addr.add] using World.cell?_spot h0
   subst hspot
   refine ⟨b, off, rfl, by have := World.block_lt_of_cell? W _ h0; simpa [Addr.add] using this, ?_⟩
   intro i hi
   have hi' : i < len := by simp at hi; omega
   have hci := hcell i (by omega)
   rw [addr_add] at hci
   rw [hci]
   have hzi : i < zs.length := by omega
   have hw := hwz zs[i] (List.getElem_mem hzi)
   have h0' : 0 ≤ zs[i] := (u8_of_wf hw).1
   congr 2
   unfold byteAt
   simp [List.getD_eq_getElem?_getD, hi', hzi]
   omega
theorem u64_of_wf {n : Int} (h : (Lit.int .u64 n).wf = true) : 0 ≤ n ∧ n < 18446744073709551616 := by
 have hh : (decide (IntKind.min .u64 ≤ n) && decide (n ≤ IntKind.max .u64)) = true := h
 simp only [Bool.and_eq_true, decide_eq_true_eq] at hh
 obtain ⟨h1, h2⟩ := hh
 have e1 : IntKind.min .u64 = 0 := by decide
 have e2 : IntKind.max .u64 = 18446744073709551615 := by decide
 rw [e1] at h1
 rw [e2] at h2
 omega
theorem cellsWord : Tryz.prog.cellsOf 23 = 1 := by kernel_rfl
theorem cellsSet : Tryz.prog.cellsOf 25 = 4 := by kernel_rfl
theorem cellsInt : Tryz.prog.cellsOf 3 = 1 := by kernel_rfl
section
variable {H : Type} {enc : TypeId × Value → H} {W : World} {fuel : Nat} {cs : List Value} {y : DataW H × List MemPlace}
end
theorem cellsNode : Tryz.prog.cellsOf 28 = 8 := by kernel_rfl
theorem cellsNodes : Tryz.prog.cellsOf 26 = 1 := by kernel_rfl
theorem cellsTKind : Tryz.prog.cellsOf 22 = 1 := by kernel_rfl
theorem set_words {n0 n1 n2 n3 : Nat} (h0 : n0 < 18446744073709551616) (h1 : n1 < 18446744073709551616) (h2 : n2 < 18446744073709551616) (h3 : n3 < 18446744073709551616) :
  ∃ s : Nat, word s.testBit 0 = n0 ∧ word s.testBit 1 = n1 ∧ word s.testBit 2 = n2 ∧ word s.testBit 3 = n3 := by
 obtain ⟨k0, k1, k2, k3⟩ := word_bitsOf h0 h1 h2 h3
 have h : ∀ i, i < 4 → word (ofBits (bitsOf n0 n1 n2 n3) 256).testBit i = word (bitsOf n0 n1 n2 n3) i := fun i hi => word_congr (fun j hj => by rw [testBit_ofBits]; simp; omega)
 exact ⟨ofBits (bitsOf n0 n1 n2 n3) 256, by rw [h 0 (by decide), k0], by rw [h 1 (by decide), k1], by rw [h 2 (by decide), k2], by rw [h 3 (by decide), k3]⟩
theorem bulkAll_mem {H : Type} : ∀ {ds : List (DataW H)} {d : DataW H}, d ∈ ds → Rows.uptoBulk d ≤ Rows.uptoBulkAll ds
 | e :: r, d, h => by
  rcases List.mem_cons.1 h with rfl | h
  ·simp [Rows.uptoBulkAll]
  ·have := bulkAll_mem h
   simp [Rows.uptoBulkAll]
   omega
section
variable {H : Type} {enc : TypeId × Value → H} {W : World}
def CameF (enc : TypeId × Value → H) (W : World) (fuel : Nat) : Prop := ∀ (A : Option Addr) (len cap : Nat) (y : DataW H × List MemPlace),
 DataW.trod enc Tryz.prog W 0 (fun _ => true) true fuel 26 [.slice A len cap] = some y → ∃ F : Trees, F.len = len ∧ TreesAt W (fun b => b < W.heap.size) F A ∧ len ≤ cap ∧ F.size ≤ Rows.uptoBulk y.1
theorem node_came {fuel : Nat} {cs : List Value} {y : DataW H × List MemPlace} (ih : ∀ n, n < fuel → CameF enc W n) (h : DataW.trod enc Tryz.prog W 0 (fun _ => true) true fuel 28 cs = some y) :
  ∃ (x : Nd) (B : Option Addr) (cap : Nat), cs = ndCell x B cap ∧ x.kids.len ≤ cap ∧ TreesAt W (fun b => b < W.heap.size) x.kids B ∧ x.size ≤ Rows.uptoBulk y.1 := by
 obtain ⟨xs, n, hfn, hy, hl, hxl, hf⟩ := DataW.trod_struct Tryz.underlying28 h
 rw [cellsNode] at hl
 obtain ⟨v0, v1, v2, v3, v4, v5, v6, v7, rfl⟩ : ∃ v0 v1 v2 v3 v4 v5 v6 v7, cs = [v0, v1, v2, v3, v4, v5, v6, v7] := by
  match cs, hl with
  | [a, b, c, d, e, f, g, h], _ => exact ⟨a, b, c, d, e, f, g, h, rfl⟩
 have g0 : DataW.trod enc Tryz.prog W 0 (fun _ => true) true n 22 (([v0, v1, v2, v3, v4, v5, v6, v7].drop 0).take (Tryz.prog.cellsOf 22)) = xs[0]? := hf 0 _ rfl
 have g1 : DataW.trod enc Tryz.prog W 0 (fun _ => true) true n 25 (([v0, v1, v2, v3, v4, v5, v6, v7].drop 1).take (Tryz.prog.cellsOf 25)) = xs[1]? := hf 1 _ rfl
 have g2 : DataW.trod enc Tryz.prog W 0 (fun _ => true) true n 26 (([v0, v1, v2, v3, v4, v5, v6, v7].drop 5).take (Tryz.prog.cellsOf 26)) = xs[2]? := hf 2 _ rfl
 have g3 : DataW.trod enc Tryz.prog W 0 (fun _ => true) true n 3 (([v0, v1, v2, v3, v4, v5, v6, v7].drop 6).take (Tryz.prog.cellsOf 3)) = xs[3]? := hf 3 _ rfl
 have g4 : DataW.trod enc Tryz.prog W 0 (fun _ => true) true n 3 (([v0, v1, v2, v3, v4, v5, v6, v7].drop 7).take (Tryz.prog.cellsOf 3)) = xs[4]? := hf 4 _ rfl
 have hs : ∀ i, i < 5 → ∃ z, xs[i]? = some z := fun i hi => ⟨_, List.getElem?_eq_getElem (by rw [hxl]; exact hi)⟩
 obtain ⟨z0, e0⟩ := hs 0 (by decide)
 obtain ⟨z1, e1⟩ := hs 1 (by decide)
 obtain ⟨z2, e2⟩ := hs 2 (by decide)
 obtain ⟨z3, e3⟩ := hs 3 (by decide)
 obtain ⟨z4, e4⟩ := hs 4 (by decide)
 rw [e0] at g0
 rw [e1] at g1
 rw [e2] at g2
 rw [e3] at g3
 rw [e4] at g4
 rw [cellsTKind] at g0
 rw [cellsInt] at g3 g4
 rw [cellsNodes] at g2
 rw [cellsSet] at g1
 obtain ⟨a0, q0, _, _⟩ := DataW.trod_int Tryz.underlying22 g0
 obtain ⟨a3, q3, _, _⟩ := DataW.trod_int Tryz.underlying3 g3
 obtain ⟨a4, q4, _, _⟩ := DataW.trod_int Tryz.underlying3 g4
 obtain ⟨us, m, _, _, _, hul, hu⟩ := DataW.trod_array Tryz.underlying25 g1
 have ht : ∀ i, i < 4 → ∃ z, us[i]? = some z := fun i hi => ⟨_, List.getElem?_eq_getElem (by rw [hul]; exact hi)⟩
 have u0 := hu 0 (by decide)
 have u1 := hu 1 (by decide)
 have u2 := hu 2 (by decide)
 have u3 := hu 3 (by decide)
 obtain ⟨t0, f0⟩ := ht 0 (by decide)
 obtain ⟨t1, f1⟩ := ht 1 (by decide)
 obtain ⟨t2, f2⟩ := ht 2 (by decide)
 obtain ⟨t3, f3⟩ := ht 3 (by decide)
 rw [f0, cellsWord] at u0
 rw [f1, cellsWord] at u1
 rw [f2, cellsWord] at u2
 rw [f3, cellsWord] at u3
 obtain ⟨b0, r0, _, w0⟩ := DataW.trod_int Tryz.underlying23 u0
 obtain ⟨b1, r1, _, w1⟩ := DataW.trod_int Tryz.underlying23 u1
 obtain ⟨b2, r2, _, w2⟩ := DataW.trod_int Tryz.underlying23 u2
 obtain ⟨b3, r3, _, w3⟩ := DataW.trod_int Tryz.underlying23 u3
 have hv5 : ∃ A len cap, v5 = .slice A len cap := by
  rcases DataW.trod_slice Tryz.underlying26 g2 with ⟨hcs, _⟩ | ⟨a, l, c, _, _, _, _, hcs, _⟩
  ·simp at hcs; exact ⟨_, _, _, hcs⟩
  ·simp at hcs; exact ⟨_, _, _, hcs⟩
 obtain ⟨A, len, cap, rfl⟩ := hv5
 obtain ⟨F, hF1, hF2, hF3, hF4⟩ := ih n (by omega) A len cap z2 (by simpa using g2)
 simp at q0 q3 q4 r0 r1 r2 r3
 subst q0 q3 q4 r0 r1 r2 r3
 obtain ⟨s0, s0'⟩ := u64_of_wf w0
 obtain ⟨s1, s1'⟩ := u64_of_wf w1
 obtain ⟨s2, s2'⟩ := u64_of_wf w2
 obtain ⟨s3, s3'⟩ := u64_of_wf w3
 obtain ⟨n0, rfl⟩ := Int.eq_ofNat_of_zero_le s0
 obtain ⟨n1, rfl⟩ := Int.eq_ofNat_of_zero_le s1
 obtain ⟨n2, rfl⟩ := Int.eq_ofNat_of_zero_le s2
 obtain ⟨n3, rfl⟩ := Int.eq_ofNat_of_zero_le s3
 obtain ⟨s, k0, k1, k2, k3⟩ := set_words (n0 := n0) (n1 := n1) (n2 := n2) (n3 := n3) (by omega) (by omega) (by omega) (by omega)
 have hb : Rows.uptoBulk z2.1 ≤ Rows.uptoBulkAll (xs.map (·.1)) := bulkAll_mem (List.mem_map.2 ⟨z2, List.mem_of_getElem? e2, rfl⟩)
 refine ⟨⟨a0, s, F, a3, a4⟩, A, cap, by unfold ndCell; simp only; rw [k0, k1, k2, k3, hF1], by simpa only [hF1] using hF3, hF2, ?_⟩
 rw [hy]
 unfold Nd.size
 simp only [Rows.uptoBulk]
 omega
theorem bulk_sum {H : Type} : ∀ (es : List (DataW H)) (l : List Nat), es.length = l.length → (∀ (i : Nat) (d : DataW H) (k : Nat), es[i]? = some d → l[i]? = some k → k ≤ Rows.uptoBulk d) → l.sum ≤ Rows.uptoBulkAll es
 | [], [], _, _ => by simp
 | [], _ :: _, h, _ => by simp at h
 | _ :: _, [], h, _ => by simp at h
 | d :: es, k :: l, h, hk => by
  have h1 := bulk_sum es l (by simpa using h) (fun i d k h1 h2 => hk (i + 1) d k (by simpa using h1) (by simpa using h2))
  have h2 := hk 0 d k rfl rfl
  simp only [Rows.uptoBulkAll, List.sum_cons]
  omega
theorem size_sum (l : List Nd) : (Trees.of l).size = (l.map Nd.size).sum := by
 induction l with
 | nil => rfl
 | cons x l ih => rw [Trees.of, Trees.size, ih, List.map_cons, List.sum_cons]; rfl
theorem slice_came (fuel : Nat) (ih : ∀ n, n < fuel → CameF enc W n) : CameF enc W fuel := by
 intro A len cap y h
 rcases DataW.trod_slice Tryz.underlying26 h with ⟨hcs, hd⟩ | ⟨a, l, c, elems, rest, n, hfn, hcs, hd, hb, hlc, hm, hel, hc, _, _⟩
 ·simp at hcs
  obtain ⟨rfl, rfl, rfl⟩ := hcs
  exact ⟨.nil, rfl, trivial, Nat.le_refl _, Nat.zero_le _⟩
 ·simp at hcs
  obtain ⟨rfl, rfl, rfl⟩ := hcs
  rw [cellsNode] at hc
  have hx : ∀ i, i < len → ∃ (x : Nd) (B : Option Addr) (capx : Nat) (cs : List Value) (e : DataW H × List MemPlace), elems[i]? = some e ∧ W.cells? 0 (a.add (i * 8)) 8 = some cs ∧ cs = ndCell x B capx ∧ x.kids.len ≤ capx ∧ TreesAt W (fun b => b < W.heap.size) x.kids B ∧ x.size ≤ Rows.uptoBulk e.1 := by
   intro i hi
   have h1 := hc i hi
   rw [List.getElem?_eq_getElem (by omega)] at h1
   obtain ⟨cs, h2, h3⟩ := Option.bind_eq_some_iff.1 h1
   obtain ⟨x, B, capx, k1, k2, k3, k4⟩ := node_came (fun m hm => ih m (by omega)) h3
   exact ⟨x, B, capx, cs, _, List.getElem?_eq_getElem (by omega), h2, k1, k2, k3, k4⟩
  classical
  let f : Nat → Nd := fun i => if hi : i < len then Classical.choose (hx i hi) else ⟨0, 0, .nil, 0, 0⟩
  have hf2 : ∀ i (hi : i < len), f i = Classical.choose (hx i hi) := fun i hi => dif_pos hi
  have hspec : ∀ i (hi : i < len), ∃ (B : Option Addr) (capx : Nat) (cs : List Value) (e : DataW H × List MemPlace), elems[i]? = some e ∧ W.cells? 0 (a.add (i * 8)) 8 = some cs ∧ cs = ndCell (f i) B capx ∧ (f i).kids.len ≤ capx ∧ TreesAt W (fun b => b < W.heap.size) (f i).kids B ∧ (f i).size ≤ Rows.uptoBulk e.1 := fun i hi => by
   have := Classical.choose_spec (hx i hi)
   rw [← hf2 i hi] at this
   exact this
  have hget : ∀ i, i < len → ((List.range len).map f)[i]? = some (f i) := fun i hi => by rw [List.getElem?_map, List.getElem?_range hi]; rfl
  refine ⟨Trees.of ((List.range len).map f), by rw [Trees.len_of]; simp, ?_, hlc, ?_⟩
  ·rcases Nat.eq_zero_or_pos len with rfl | hpos
   ·exact TreesAt.nilAt (by rw [Trees.len_of]; simp)
   obtain ⟨bl, off, spot⟩ := a
   obtain ⟨B0, c0, cs0, z0, _, hcs0, hx0, _⟩ := hspec 0 hpos
   obtain ⟨_, _, hcell0⟩ := World.cells?_some hcs0
   have h00 := hcell0 0 (by decide)
   rw [hx0] at h00
   have hspot : spot = none := by
    have := World.cell?_spot (v := .int .i64 (f 0).kind) (by simpa [ndCell] using h00)
    simpa [Addr.add] using this
   subst hspot
   refine TreesAt.mk ?_ (fun i x hxi => ?_)
   ·have := World.block_lt_of_cell? W _ (u := .int .i64 (f 0).kind) (by simpa [ndCell] using h00)
    simpa [addr_add] using this
   ·rw [Trees.list_of] at hxi
    have hi : i < len := by
     have := (List.getElem?_eq_some_iff.mp hxi).1
     simpa using this
    rw [hget i hi] at hxi
    obtain rfl := Option.some.inj hxi
    obtain ⟨B, capx, cs, e, _, h1, h2, h3, h4, _⟩ := hspec i hi
    obtain ⟨_, _, h5⟩ := World.cells?_some h1
    rw [h2] at h5
    have g : ∀ j u, j < 8 → (ndCell (f i) B capx)[j]? = some u → W.cell? ⟨bl, off + i * 8 + j, none⟩ = some u := fun j u hj hu => by
     have := h5 j hj
     rw [addr_add, addr_add, hu] at this
     exact this
    exact ⟨B, capx, h3, ⟨g 0 _ (by decide) rfl, g 1 _ (by decide) rfl, g 2 _ (by decide) rfl, g 3 _ (by decide) rfl, g 4 _ (by decide) rfl, g 5 _ (by decide) rfl, g 6 _ (by decide) rfl, g 7 _ (by decide) rfl⟩, h4⟩
  ·rw [hd, size_sum]
   simp only [Rows.uptoBulk]
   have := bulk_sum (elems.map (·.1)) (((List.range len).map f).map Nd.size) (by simpa using hel) (fun i d k h1 h2 => by
    have hi : i < len := by
     have := (List.getElem?_eq_some_iff.mp h2).1
     simpa using this
    rw [List.getElem?_map, hget i hi] at h2
    obtain rfl := Option.some.inj h2
    obtain ⟨B, capx, cs, e, he, _, _, _, _, h6⟩ := hspec i hi
    rw [List.getElem?_map, he] at h1
    obtain rfl := Option.some.inj h1
    exact h6)
   omega
theorem came_all : ∀ fuel, CameF enc W fuel := fun fuel => by
 induction fuel using Nat.strongRecOn with
 | _ n ih => exact slice_came n ih
theorem tree_came {v : Value} {d : DataW H} {p : List MemPlace} (h : DataW.Trod enc Tryz.prog W 0 (fun _ => true) true 28 v d p) :
  ∃ (x : Nd) (B : Option Addr) (cap : Nat), v.cells.toList = ndCell x B cap ∧ x.kids.len ≤ cap ∧ TreesAt W (fun b => b < W.heap.size) x.kids B ∧ x.size ≤ Rows.uptoBulk d := by
 obtain ⟨fuel, hf⟩ := h
 exact node_came (fun n _ => came_all n) hf
end
section
variable {H : Type} {enc : TypeId × Value → H} {W : World} {fuel : Nat}
theorem slice_capfB {t e : TypeId} (hu : Tryz.prog.underlying t = some (.slice e)) {A : Option Addr} {len cap : Nat} {y : DataW H × List MemPlace} (h : DataW.trod enc Tryz.prog W 0 (fun _ => true) true fuel t [.slice A len cap] = some y) : len ≤ cap := by
 rcases DataW.trod_slice hu h with ⟨hcs, hd⟩ | ⟨a, l, c, elems, rest, m, _, hcs, hd, hb, hlc, hm, hel2, hc, _, _⟩
 ·simp at hcs
  omega
 ·simp at hcs
  omega
theorem slice_capB {t e : TypeId} (hu : Tryz.prog.underlying t = some (.slice e)) {A : Option Addr} {len cap : Nat} {d : DataW H} {p : List MemPlace} (h : DataW.Trod enc Tryz.prog W 0 (fun _ => true) true t (.slice A len cap) d p) : len ≤ cap := by
 obtain ⟨fuel, hf⟩ := h
 exact slice_capfB hu (show DataW.trod enc Tryz.prog W 0 (fun _ => true) true fuel t [.slice A len cap] = some (d, p) from hf)
theorem bytes_capB {A : Option Addr} {len cap : Nat} {d : DataW H} {p : List MemPlace} (h : DataW.Trod enc Tryz.prog W 0 (fun _ => true) true 29 (.slice A len cap) d p) : len ≤ cap := slice_capB Tryz.underlying29 h
end
end Go.Proofs.YtofbfafnpdaejaaGreatDoor
namespace Go.Proofs.YtofbfafnpdaejaaGreatDoor
open Go.ChangeShapes Go.WideShapes Go.ChangeAt Go.RowKit Go.Shelf
set_option linter.unusedSimpArgs false
set_option linter.unusedVariables false
set_option maxRecDepth 100000
set_option maxHeartbeats 8000000
theorem gTab : Tryz.prog.globalNamed "math/bits.deBruijn64tab" = some 0 := by kernel_rfl
theorem gTabType : (Tryz.prog.globals[0]?).map (·.type) = some 228 := by kernel_rfl
theorem cellsTab : Tryz.prog.cellsOf 228 = 64 := by kernel_rfl
theorem table_at {W : World} (h : laidMetH Tryz.prog [("math/bits.deBruijn64tab", Rows.laid_math_bits_deBruijn64tab)] W) : TabAt 0 Lib.deBruijn64tab W := by
 have ht : Lib.TabIs Tryz.prog W "math/bits.deBruijn64tab" .u8 (Lib.deBruijn64tab.map fun n : Nat => (n : Int)) :=
  Lib.tabIs_of_head (rest := []) gTab gTabType Tryz.underlying228 Tryz.underlying5 cellsByte cellsTab h
 intro j hj
 have hc := ht.cell gTab j (by simpa using hj)
 rw [hc]
 simp [List.getD_eq_getElem?_getD, hj]
noncomputable def tabWorld (os : Os) : World :=
 { World.holding Tryz.prog os ⟨#[], #[], []⟩ with heap := (World.holding Tryz.prog os ⟨#[], #[], []⟩).heap.modify 0 fun
   | .cells _ t frozen => .cells (Lib.deBruijn64tab.map fun n : Nat => Value.int .u8 (n : Int)).toArray t frozen
   | o => o }
theorem node_val {H : Type} {enc : TypeId × Value → H} {W : World} {base : Nat} {v : Value} {d : DataW H} {p : List MemPlace} (hv : Value.okWide Tryz.prog W .any base 28 v) (h : DataW.Trod enc Tryz.prog W 0 (fun _ => true) true 28 v d p) :
  ∃ (x : Nd) (B : Option Addr) (cap : Nat), v = ndV x B cap ∧ x.kids.len ≤ cap ∧ TreesAt W (fun b => b < W.heap.size) x.kids B ∧ x.size ≤ Rows.uptoBulk d := by
 obtain ⟨x, B, cap, hc, h1, h2, h3⟩ := tree_came h
 simp only [Value.okWide, Tryz.underlying28] at hv
 obtain ⟨cs, rfl, _, _⟩ := hv
 refine ⟨x, B, cap, ?_, h1, h2, h3⟩
 have : cs = (ndCell x B cap).toArray := by
  have hc' : cs.toList = ndCell x B cap := hc
  rw [← hc']
 rw [this]
 rfl
end Go.Proofs.YtofbfafnpdaejaaGreatDoor
namespace Go.Proofs.YtofbfafnpdaejaaGreatDoor
open Go.RowKit
set_option linter.unusedSimpArgs false
set_option linter.unusedVariables false
set_option maxRecDepth 100000
set_option maxHeartbeats 8000000
def lexLt : List Nat → List Nat → Bool
 | _, [] => false
 | [], _ :: _ => true
 | a :: x, b :: y => decide (a < b) || (a == b && lexLt x y)
theorem lex_irrefl : ∀ a : List Nat, lexLt a a = false
 | [] => rfl
 | a :: x => by simp [lexLt, lex_irrefl x]
theorem lex_trans : ∀ a b c : List Nat, lexLt a b = true → lexLt b c = true → lexLt a c = true
 | _, [], _, h, _ => by simp [lexLt] at h
 | _, _ :: _, [], _, h => by simp [lexLt] at h
 | [], _ :: _, _ :: _, _, _ => rfl
 | a :: x, b :: y, c :: z, h1, h2 => by
  simp only [lexLt, Bool.or_eq_true, decide_eq_true_eq, Bool.and_eq_true, beq_iff_eq] at h1 h2 ⊢
  rcases h1 with h1 | ⟨rfl, h1⟩
  ·rcases h2 with h2 | ⟨rfl, h2⟩
   ·exact .inl (by omega)
   ·exact .inl h1
  ·rcases h2 with h2 | ⟨rfl, h2⟩
   ·exact .inl h2
   ·exact .inr ⟨rfl, lex_trans x y z h1 h2⟩
theorem lex_total : ∀ a b : List Nat, lexLt a b = false → lexLt b a = false → a = b
 | [], [], _, _ => rfl
 | [], _ :: _, h, _ => by simp [lexLt] at h
 | _ :: _, [], _, h => by simp [lexLt] at h
 | a :: x, b :: y, h1, h2 => by
  simp only [lexLt, Bool.or_eq_false_iff, decide_eq_false_iff_not, Bool.and_eq_false_iff, beq_eq_false_iff_ne] at h1 h2
  obtain rfl : a = b := by omega
  rw [lex_total x y (by simpa using h1.2) (by simpa using h2.2)]
def lessW (a b : List Nat) : Bool := decide (a.length < b.length) || (a.length == b.length && lexLt a b)
theorem less_irrefl (a : List Nat) : lessW a a = false := by simp [lessW, lex_irrefl]
theorem less_trans {a b c : List Nat} (h1 : lessW a b = true) (h2 : lessW b c = true) : lessW a c = true := by
 simp only [lessW, Bool.or_eq_true, decide_eq_true_eq, Bool.and_eq_true, beq_iff_eq] at h1 h2 ⊢
 rcases h1 with h1 | ⟨e1, h1⟩ <;> rcases h2 with h2 | ⟨e2, h2⟩
 ·exact .inl (by omega)
 ·exact .inl (by omega)
 ·exact .inl (by omega)
 ·exact .inr ⟨by omega, lex_trans _ _ _ h1 h2⟩
theorem less_total {a b : List Nat} (h1 : lessW a b = false) (h2 : lessW b a = false) : a = b := by
 simp only [lessW, Bool.or_eq_false_iff, decide_eq_false_iff_not, Bool.and_eq_false_iff, beq_eq_false_iff_ne] at h1 h2
 have he : a.length = b.length := by omega
 refine lex_total a b ?_ ?_
 ·rcases h1.2 with h | h
  ·omega
  ·exact h
 ·rcases h2.2 with h | h
  ·omega
  ·exact h
def stepW (m w : List Nat) : List Nat := if lessW w m = true then w else m
def minW : List (List Nat) → List Nat
 | [] => []
 | w :: l => l.foldl stepW w
structure IsMin (l : List (List Nat)) (u : List Nat) : Prop where
 mem : u ∈ l
 le : ∀ w ∈ l, lessW w u = false
theorem fold_min : ∀ (l : List (List Nat)) (w : List Nat), (l.foldl stepW w = w ∨ l.foldl stepW w ∈ l) ∧ (∀ v, v = w ∨ v ∈ l → lessW v (l.foldl stepW w) = false)
 | [], w => ⟨.inl rfl, fun v h => by
  rcases h with rfl | h
  ·exact less_irrefl _
  ·cases h⟩
 | x :: l, w => by
  obtain ⟨h1, h2⟩ := fold_min l (stepW w x)
  rw [List.foldl_cons]
  generalize l.foldl stepW (stepW w x) = u at *
  have h3 := h2 _ (.inl rfl)
  by_cases hx : lessW x w = true
  ·have e : stepW w x = x := by unfold stepW; rw [if_pos hx]
   rw [e] at h1 h3
   refine ⟨.inr (by rcases h1 with rfl | h1 <;> simp [*]), fun v hv => ?_⟩
   rcases hv with rfl | hv
   ·cases hb : lessW v u with
    | false => rfl
    | true => rw [less_trans hx hb] at h3; cases h3
   ·rcases List.mem_cons.1 hv with rfl | hv
    ·exact h3
    ·exact h2 v (.inr hv)
  ·have e : stepW w x = w := by unfold stepW; rw [if_neg hx]
   have hx : lessW x w = false := by simpa using hx
   rw [e] at h1 h3
   refine ⟨by rcases h1 with rfl | h1 <;> simp [*], fun v hv => ?_⟩
   rcases hv with rfl | hv
   ·exact h3
   ·rcases List.mem_cons.1 hv with rfl | hv
    ·cases hb : lessW v u with
     | false => rfl
     | true =>
      cases hc : lessW u w with
      | true => rw [less_trans hb hc] at hx; cases hx
      | false => rw [less_total hc h3, hx] at hb; cases hb
    ·exact h2 v (.inr hv)
theorem min_is : ∀ {l : List (List Nat)}, l ≠ [] → IsMin l (minW l)
  | [], h => absurd rfl h
  | w :: l, _ => by
    obtain ⟨h1, h2⟩ := fold_min l w
    exact ⟨by rcases h1 with h | h; · rw [show minW (w :: l) = w from h]; simp
              · exact List.mem_cons_of_mem _ h, fun v hv => h2 v (by simpa using hv)⟩
theorem minW_snoc {l : List (List Nat)} (h : l ≠ []) (w : List Nat) : minW (l ++ [w]) = stepW (minW l) w := by
 cases l with
 | nil => exact absurd rfl h
 | cons a l => simp [minW]
theorem minW_get {l : List (List Nat)} {i : Nat} {w : List Nat} (hi : 0 < i) (h : l[i]? = some w) : minW (l.take (i + 1)) = stepW (minW (l.take i)) w := by
 rw [show l.take (i + 1) = l.take i ++ [w] by rw [List.take_add_one, h]; rfl]
 refine minW_snoc ?_ w
 intro e
 have := (List.getElem?_eq_some_iff.1 h).1
 have e2 := congrArg List.length e
 rw [List.length_take, List.length_nil] at e2
 omega
def pick (m : Int) : List SumS → List (List Nat) → List (List Nat)
 | s :: S, w :: L => if s.short = m then w :: pick m S L else pick m S L
 | _, _ => []
def leastP (k : Int) (s : Nat) (lo : Int) (S : List SumS) (L : List (List Nat)) : List Nat :=
 if k = 3 then [(elems s.testBit 256).headD 255]
 else if k = 4 then L.flatten
 else if k = 5 then minW (pick (S.foldl eitherF nothingF).short S L)
 else if k = 7 then L.headD []
 else if k = 9 then (List.replicate lo.toNat (L.headD [])).flatten
 else []
def Trees.leasts : Trees → List (List Nat)
 | .nil => []
 | .cons k s ks lo hi r => leastP k s lo ks.sums ks.leasts :: r.leasts
def Nd.least (x : Nd) : List Nat := leastP x.kind x.set x.lo x.kids.sums x.kids.leasts
theorem Trees.leasts_list : ∀ F : Trees, F.leasts = F.list.map Nd.least
 | .nil => rfl
 | .cons k s ks lo hi r => by rw [Trees.leasts, Trees.list, List.map_cons, Trees.leasts_list r]; rfl
theorem Trees.leasts_head {F : Trees} {z : Nd} (h : F.list[0]? = some z) : F.leasts.headD [] = z.least := by
 rw [F.leasts_list]
 cases hl : F.list with
 | nil => rw [hl] at h; simp at h
 | cons a l => rw [hl] at h; simp at h; subst h; rfl
theorem flat_bytes {L : List (List Nat)} (h : ∀ w ∈ L, ∀ c ∈ w, c < 256) : ∀ c ∈ L.flatten, c < 256 := fun c hc => by
 obtain ⟨w, hw, hc⟩ := List.mem_flatten.1 hc
 exact h w hw c hc
theorem pick_sub (m : Int) : ∀ (S : List SumS) (L : List (List Nat)), ∀ w ∈ pick m S L, w ∈ L
 | [], L, w, h => by simp [pick] at h
 | s :: S, [], w, h => by simp [pick] at h
 | s :: S, v :: L, w, h => by
  rw [pick] at h
  by_cases hs : s.short = m
  ·rw [if_pos hs] at h
   rcases List.mem_cons.1 h with rfl | h
   ·simp
   ·exact List.mem_cons_of_mem _ (pick_sub m S L w h)
  ·rw [if_neg hs] at h
   exact List.mem_cons_of_mem _ (pick_sub m S L w h)
theorem minW_bytes {L : List (List Nat)} (h : ∀ w ∈ L, ∀ c ∈ w, c < 256) : ∀ c ∈ minW L, c < 256 := by
 cases L with
 | nil => intro c hc; cases hc
 | cons a l => exact h _ (min_is (by simp)).mem
theorem leastP_bytes {k : Int} {s : Nat} {lo : Int} {S : List SumS} {L : List (List Nat)} (h : ∀ w ∈ L, ∀ c ∈ w, c < 256) : ∀ c ∈ leastP k s lo S L, c < 256 := by
 have hd : ∀ c ∈ L.headD [], c < 256 := by
  cases L with
  | nil => intro c hc; cases hc
  | cons a l => exact h a (by simp)
 unfold leastP
 split
 ·intro c hc
  rw [List.mem_singleton] at hc
  subst hc
  cases he : elems s.testBit 256 with
  | nil => decide
  | cons a l => exact elems_lt (p := s.testBit) (m := 256) (by rw [he]; simp)
 split
 ·exact flat_bytes h
 split
 ·exact minW_bytes (fun w hw => h w (pick_sub _ _ _ w hw))
 split
 ·exact hd
 split
 ·exact flat_bytes (fun w hw => by rw [List.eq_of_mem_replicate hw]; exact hd)
 ·intro c hc; cases hc
theorem leasts_bytes : ∀ (F : Trees), ∀ w ∈ F.leasts, ∀ c ∈ w, c < 256
 | .nil, w, hw => by cases hw
 | .cons k s ks lo hi r, w, hw => by
  rw [Trees.leasts] at hw
  rcases List.mem_cons.1 hw with rfl | hw
  ·exact leastP_bytes (leasts_bytes ks)
  ·exact leasts_bytes r w hw
def LenP (s : SumS) (w : List Nat) : Prop := s.hollow = false → s.short ≤ 2000 → (w.length : Int) = s.short
def LensP : List SumS → List (List Nat) → Prop
 | [], [] => True
 | s :: S, w :: L => LenP s w ∧ LensP S L
 | _, _ => False
theorem addF_small {a b : Int} (ha : 0 ≤ a) (hb : 0 ≤ b) (h : addF a b ≤ 2000) : addF a b = a + b := by
 unfold addF topI endF at *
 split at h
 ·omega
 ·rename_i h1
  rw [if_neg h1]
  omega
theorem behind_not {a b : SumS} (h : (behindF a b).hollow = false) : a.hollow = false ∧ b.hollow = false ∧ (behindF a b).short = addF a.short b.short := by
 unfold behindF at h ⊢
 split at h
 ·cases h
 ·rename_i h1
  rw [if_neg h1]
  refine ⟨?_, ?_, rfl⟩
  ·cases hh : a.hollow with
   | false => rfl
   | true => exact absurd (.inl hh) h1
  ·cases hh : b.hollow with
   | false => rfl
   | true => exact absurd (.inr hh) h1
theorem cat_mono : ∀ (S : List SumS) (a : SumS), SumOk a → (∀ s ∈ S, SumOk s) → (S.foldl behindF a).hollow = false → (S.foldl behindF a).short ≤ 2000 → a.hollow = false ∧ a.short ≤ (S.foldl behindF a).short ∧ ∀ s ∈ S, s.hollow = false ∧ s.short ≤ 2000
 | [], a, _, _, h, _ => ⟨h, Int.le_refl _, fun s hs => by cases hs⟩
 | s :: S, a, ha, hS, h, h2 => by
  rw [List.foldl_cons] at h h2 ⊢
  have hs := hS s (by simp)
  obtain ⟨h3, h4, h5⟩ := cat_mono S _ (ok_behind ha hs) (fun t ht => hS t (by simp [ht])) h h2
  obtain ⟨h6, h7, h8⟩ := behind_not h3
  have a1 := ha.short h6
  have b1 := hs.short h7
  rw [h8] at h4
  have h9 := addF_small a1.1 b1.1 (by omega)
  refine ⟨h6, by omega, fun t ht => ?_⟩
  rcases List.mem_cons.1 ht with rfl | ht
  ·exact ⟨h7, by omega⟩
  ·exact h5 t ht
theorem cat_len : ∀ (S : List SumS) (L : List (List Nat)) (a : SumS) (n : Nat), LensP S L → SumOk a → (∀ s ∈ S, SumOk s) → (n : Int) = a.short → (S.foldl behindF a).hollow = false → (S.foldl behindF a).short ≤ 2000 → ((n + L.flatten.length : Nat) : Int) = (S.foldl behindF a).short
 | [], [], a, n, _, _, _, hn, _, _ => by simpa using hn
 | [], _ :: _, a, n, h, _, _, _, _, _ => h.elim
 | _ :: _, [], a, n, h, _, _, _, _, _ => h.elim
 | s :: S, w :: L, a, n, ⟨h1, h2⟩, ha, hS, hn, h, hs => by
  rw [List.foldl_cons] at h hs ⊢
  have hk := hS s (by simp)
  obtain ⟨h3, h4, h5⟩ := cat_mono S _ (ok_behind ha hk) (fun t ht => hS t (by simp [ht])) h hs
  obtain ⟨h6, h7, h8⟩ := behind_not h3
  have a1 := ha.short h6
  have b1 := hk.short h7
  rw [h8] at h4
  have h9 := addF_small a1.1 b1.1 (by omega)
  have := cat_len S L (behindF a s) (n + w.length) h2 (ok_behind ha hk) (fun t ht => hS t (by simp [ht])) (by rw [h8, h9, ← h1 h7 (by omega)]; omega) h hs
  rw [← this, List.flatten_cons, List.length_append]
  omega
theorem either_parts : ∀ (S : List SumS) (a : SumS), SumOk a → (∀ s ∈ S, SumOk s) → (S.foldl eitherF a).hollow = false →
  ((a.hollow = false ∧ a.short = (S.foldl eitherF a).short) ∨ ∃ s ∈ S, s.hollow = false ∧ s.short = (S.foldl eitherF a).short) ∧ (a.hollow = false → (S.foldl eitherF a).short ≤ a.short) ∧ ∀ s ∈ S, s.hollow = false → (S.foldl eitherF a).short ≤ s.short
 | [], a, _, _, h => ⟨.inl ⟨h, rfl⟩, fun _ => Int.le_refl _, fun s hs => by cases hs⟩
 | s :: S, a, ha, hS, h => by
  rw [List.foldl_cons] at h ⊢
  have hk := hS s (by simp)
  obtain ⟨h3, h4, h5⟩ := either_parts S _ (ok_either ha hk) (fun t ht => hS t (by simp [ht])) h
  generalize S.foldl eitherF (eitherF a s) = r at *
  by_cases h1 : a.hollow = true
  ·have e : eitherF a s = s := by unfold eitherF; rw [if_pos h1]
   rw [e] at h3 h4
   refine ⟨.inr ?_, fun h => (by rw [h] at h1; cases h1), fun t ht htt => ?_⟩
   ·rcases h3 with h3 | ⟨t, ht, h3⟩
    ·exact ⟨s, by simp, h3⟩
    ·exact ⟨t, by simp [ht], h3⟩
   ·rcases List.mem_cons.1 ht with rfl | ht
    ·exact h4 htt
    ·exact h5 t ht htt
  ·by_cases h2 : s.hollow = true
   ·have e : eitherF a s = a := by unfold eitherF; rw [if_neg h1, if_pos h2]
    rw [e] at h3 h4
    refine ⟨?_, h4, fun t ht htt => ?_⟩
    ·rcases h3 with h3 | ⟨t, ht, h3⟩
     ·exact .inl h3
     ·exact .inr ⟨t, by simp [ht], h3⟩
    ·rcases List.mem_cons.1 ht with rfl | ht
     ·rw [htt] at h2; cases h2
     ·exact h5 t ht htt
   ·have e : (eitherF a s).short = min a.short s.short ∧ (eitherF a s).hollow = false := by unfold eitherF; rw [if_neg h1, if_neg h2]; exact ⟨rfl, rfl⟩
    have h1 : a.hollow = false := by simpa using h1
    have h2 : s.hollow = false := by simpa using h2
    have h6 := h4 e.2
    rw [e.1] at h6
    refine ⟨?_, fun _ => by omega, fun t ht htt => ?_⟩
    ·rcases h3 with ⟨_, h3⟩ | ⟨t, ht, h3⟩
     ·rw [e.1] at h3
      by_cases hle : a.short ≤ s.short
      ·exact .inl ⟨h1, by omega⟩
      ·exact .inr ⟨s, by simp, h2, by omega⟩
     ·exact .inr ⟨t, by simp [ht], h3⟩
    ·rcases List.mem_cons.1 ht with rfl | ht
     ·omega
     ·exact h5 t ht htt
theorem nothing_no {s : SumS} (o : SumOk s) {m : Int} (hm : 0 ≤ m) (h : s.short = m) : s.hollow = false := by
 cases hh : s.hollow with
 | false => rfl
 | true =>
  rw [o.none hh] at h
  have : (nothingF).short = -1 := rfl
  omega
theorem pick_len {m : Int} (hm : 0 ≤ m) (h2 : m ≤ 2000) : ∀ (S : List SumS) (L : List (List Nat)), LensP S L → (∀ s ∈ S, SumOk s) → ∀ w ∈ pick m S L, (w.length : Int) = m
 | [], L, _, _, w, h => by simp [pick] at h
 | s :: S, [], h, _, _, _ => h.elim
 | s :: S, v :: L, ⟨h1, h3⟩, hS, w, h => by
  rw [pick] at h
  by_cases hs : s.short = m
  ·rw [if_pos hs] at h
   rcases List.mem_cons.1 h with rfl | h
   ·rw [h1 (nothing_no (hS s (by simp)) hm hs) (by omega), hs]
   ·exact pick_len hm h2 S L h3 (fun t ht => hS t (by simp [ht])) w h
  ·rw [if_neg hs] at h
   exact pick_len hm h2 S L h3 (fun t ht => hS t (by simp [ht])) w h
theorem pick_some {m : Int} : ∀ (S : List SumS) (L : List (List Nat)), LensP S L → (∃ s ∈ S, s.short = m) → pick m S L ≠ []
 | [], L, _, h => by obtain ⟨s, hs, _⟩ := h; cases hs
 | s :: S, [], h, _ => h.elim
 | s :: S, v :: L, ⟨h1, h3⟩, ⟨t, ht, hm⟩ => by
  rw [pick]
  by_cases hs : s.short = m
  ·rw [if_pos hs]; simp
  ·rw [if_neg hs]
   rcases List.mem_cons.1 ht with rfl | ht
   ·exact absurd hm hs
   ·exact pick_some S L h3 ⟨t, ht, hm⟩
theorem alt_short {S : List SumS} (hS : ∀ s ∈ S, SumOk s) (h : (S.foldl eitherF nothingF).hollow = false) : 0 ≤ (S.foldl eitherF nothingF).short ∧ (∃ s ∈ S, s.hollow = false ∧ s.short = (S.foldl eitherF nothingF).short) ∧ ∀ s ∈ S, s.hollow = false → (S.foldl eitherF nothingF).short ≤ s.short := by
 obtain ⟨h1, _, h3⟩ := either_parts S nothingF ok_nothing hS h
 refine ⟨((ok_fold (fun a b => ok_either) S nothingF ok_nothing hS).short h).1, ?_, h3⟩
 rcases h1 with ⟨h1, _⟩ | h1
 ·cases h1
 ·exact h1
theorem repeated_small {a : SumS} {lo hi : Int} (o : SumOk a) (h0 : 0 < lo) (h1 : lo ≤ hi) (h : (repeatedF a lo hi).hollow = false) (h2 : (repeatedF a lo hi).short ≤ 2000) (h3 : lo ≤ topI) : a.hollow = false ∧ (repeatedF a lo hi).short = lo * a.short ∧ a.short ≤ 2000 := by
 unfold repeatedF at h h2 ⊢
 rw [if_neg (by omega)] at h h2 ⊢
 by_cases ha : a.hollow = true
 ·rw [if_pos ha] at h; cases h
 ·rw [if_neg ha] at h h2 ⊢
  have ha : a.hollow = false := by simpa using ha
  have a1 := o.short ha
  have hm := Int.mul_nonneg (Int.le_of_lt h0) a1.1
  have hle : 1 * a.short ≤ lo * a.short := Int.mul_le_mul_of_nonneg_right (by omega) a1.1
  dsimp only at h2 ⊢
  by_cases hz : lo = 0 ∨ a.short = 0
  ·have e0 : a.short = 0 := by omega
   refine ⟨ha, ?_, by omega⟩
   unfold timF
   rw [if_pos hz, e0, Int.mul_zero]
  ·have e1 : timF lo a.short = min topI (lo * a.short) := by
    unfold timF
    rw [if_neg hz, if_neg (by unfold topI endF at *; omega)]
   rw [e1] at h2 ⊢
   unfold topI at *
   exact ⟨ha, by omega, by omega⟩
theorem flat_rep (n : Nat) (w : List Nat) : (List.replicate n w).flatten.length = n * w.length := by
 induction n with
 | zero => simp
 | succ n ih => rw [List.replicate_succ, List.flatten_cons, List.length_append, ih, Nat.succ_mul]; omega
theorem lens_head {S : List SumS} {L : List (List Nat)} (h : LensP S L) : LenP (S.headD nothingF) (L.headD []) := by
 match S, L, h with
 | [], [], _ => intro h; cases h
 | s :: S, w :: L, h => exact h.1
theorem leastP_len {k : Int} {s : Nat} {lo hi : Int} {S : List SumS} {L : List (List Nat)} (h9 : k = 9 → 0 ≤ lo ∧ lo ≤ 1000 ∧ (hi = -1 ∨ lo ≤ hi) ∧ hi ≤ 1000) (hS : ∀ s ∈ S, SumOk s) (hL : LensP S L) : LenP (ofF k s lo hi S) (leastP k s lo S L) := by
 intro h h2
 have hh := lens_head hL
 unfold leastP
 by_cases k3 : k = 3
 ·subst k3
  rw [if_pos rfl]
  unfold ofF at h ⊢
  rw [if_neg (by decide), if_pos rfl] at h ⊢
  by_cases hn : isNoSet s = true
  ·rw [if_pos hn] at h; cases h
  ·rw [if_neg hn]; rfl
 rw [if_neg k3]
 by_cases k4 : k = 4
 ·subst k4
  rw [if_pos rfl]
  unfold ofF at h h2 ⊢
  rw [if_neg (by decide), if_neg (by decide), if_pos rfl] at h h2 ⊢
  have := cat_len S L fnilF 0 hL ok_nil hS rfl h h2
  rw [← this]; simp
 rw [if_neg k4]
 by_cases k5 : k = 5
 ·subst k5
  rw [if_pos rfl]
  unfold ofF at h h2 ⊢
  rw [if_neg (by decide), if_neg (by decide), if_neg (by decide), if_pos rfl] at h h2 ⊢
  obtain ⟨h0, ⟨t, ht, _, h1⟩, h3⟩ := alt_short hS h
  exact pick_len h0 h2 S L hL hS _ (min_is (pick_some S L hL ⟨t, ht, h1⟩)).mem
 rw [if_neg k5]
 have hok := ok_head hS
 by_cases k7 : k = 7
 ·subst k7
  rw [if_pos rfl]
  unfold ofF at h h2 ⊢
  rw [if_neg (by decide), if_neg (by decide), if_neg (by decide), if_neg (by decide), if_neg (by decide), if_pos rfl] at h h2 ⊢
  obtain ⟨h1, h3, h4⟩ := repeated_small hok (by decide) (by decide) h h2 (by decide)
  rw [h3, hh h1 h4, Int.one_mul]
 rw [if_neg k7]
 by_cases k9 : k = 9
 ·subst k9
  rw [if_pos rfl]
  unfold ofF at h h2 ⊢
  rw [if_neg (by decide), if_neg (by decide), if_neg (by decide), if_neg (by decide), if_neg (by decide), if_neg (by decide), if_neg (by decide), if_pos rfl] at h h2 ⊢
  obtain ⟨a, b, c, d⟩ := h9 rfl
  obtain ⟨e, f, g⟩ := hiF_ok a b c d
  by_cases hl : lo = 0
  ·subst hl
   rw [show (repeatedF (S.headD nothingF) 0 (hiF hi)).short = 0 from ?_]
   ·simp
   ·unfold repeatedF
    split
    ·rfl
    split
    ·rename_i h1 h3; exact absurd (.inr ⟨h3, rfl⟩) h1
    ·unfold timF; rw [if_pos (.inl rfl)]
  ·obtain ⟨h1, h3, h4⟩ := repeated_small hok (by omega) e h h2 g
   rw [h3, flat_rep, Int.natCast_mul, hh h1 h4, Int.toNat_of_nonneg a]
 rw [if_neg k9]
 have hz : ∀ (a : SumS) (hi : Int), (repeatedF a 0 hi).short = 0 := fun a hi => by
  unfold repeatedF
  split
  ·rfl
  split
  ·rename_i h1 h3; exact absurd (.inr ⟨h3, rfl⟩) h1
  ·unfold timF; rw [if_pos (.inl rfl)]
 unfold ofF at h h2 ⊢
 rw [if_neg k3, if_neg k4, if_neg k5, if_neg k7, if_neg k9] at h ⊢
 by_cases k2 : k = 2
 ·rw [if_pos k2]; rfl
 rw [if_neg k2] at h ⊢
 by_cases k6 : k = 6
 ·rw [if_pos k6, hz]; rfl
 rw [if_neg k6] at h ⊢
 by_cases k8 : k = 8
 ·rw [if_pos k8, hz]; rfl
 rw [if_neg k8] at h
 cases h
theorem leasts_len : ∀ (F : Trees), (∀ y ∈ F.nodes, aloneN y = true) → LensP F.sums F.leasts
 | .nil, _ => trivial
 | .cons k st ks lo hi r, h => by
  rw [Trees.sums, Trees.leasts]
  have hks : ∀ y ∈ ks.nodes, aloneN y = true := fun y hy => h y (by simp [Trees.nodes, hy])
  exact ⟨leastP_len (nine_of (y := ⟨k, st, ks, lo, hi⟩) (h _ (by simp [Trees.nodes]))) (ok_sums ks hks) (leasts_len ks hks), leasts_len r (fun y hy => h y (by simp [Trees.nodes, hy]))⟩
theorem least_len {x : Nd} (h : ∀ y ∈ x.nodes, aloneN y = true) (hh : x.sum.hollow = false) (hs : x.sum.short ≤ 2000) : (x.least.length : Int) = x.sum.short := by
 have hks : ∀ y ∈ x.kids.nodes, aloneN y = true := fun y hy => h y (by simp [Nd.nodes, hy])
 exact leastP_len (nine_of (h x (by simp [Nd.nodes]))) (ok_sums x.kids hks) (leasts_len x.kids hks) hh hs
theorem mulMask (a : Nat) (ha : a < 18446744073709551616) : bits .and .u64 (a : Int) 4294967295 = ((a % 4294967296 : Nat) : Int) := by
 have h := bits_and_u64_nat a 4294967295 ha (by omega)
 have e : a &&& 4294967295 = a % 4294967296 := Nat.and_two_pow_sub_one_eq_mod a 32
 rw [e] at h
 exact h
theorem mulWrap (a : Nat) (ha : a < 18446744073709551616) : IntKind.u64.wrap (a : Int) = (a : Int) := by rw [IntKind.wrap_u64]; omega
theorem mul64_go (x y : Nat) (hx : x < 4294967296) (hy : y < 4294967296) (w : World) :
  Calls Tryz.prog 223 #[.int .u64 (x : Int), .int .u64 (y : Int)] w fun e w' => e = .returned (.tuple #[.int .u64 0, .int .u64 ((x * y : Nat) : Int)]) ∧ w = w' := by
 have hp : x * y ≤ 4294967295 * 4294967295 := Nat.mul_le_mul (by omega) (by omega)
 have b1 := Lib.hid (show bits .and .u64 (x : Int) 4294967295 = (x : Int) by rw [mulMask x (by omega)]; omega)
 have b2 := Lib.hid (show bits .and .u64 (y : Int) 4294967295 = (y : Int) by rw [mulMask y (by omega)]; omega)
 have d1 := Lib.hid (show (x : Int) / 4294967296 = 0 by omega)
 have d2 := Lib.hid (show (y : Int) / 4294967296 = 0 by omega)
 have m1 := Lib.hid (Int.natCast_mul x y).symm
 generalize x * y = q at *
 have w1 := Lib.hid (show IntKind.u64.wrap (q : Int) = (q : Int) from mulWrap q (by omega))
 have e1 := Lib.hid (show (q : Int) / 4294967296 = ((q / 4294967296 : Nat) : Int) by omega)
 have w2 := Lib.hid (show IntKind.u64.wrap ((q / 4294967296 : Nat) : Int) = ((q / 4294967296 : Nat) : Int) from mulWrap _ (by omega))
 have b3 := Lib.hid (show bits .and .u64 ((q / 4294967296 : Nat) : Int) 4294967295 = ((q / 4294967296 : Nat) : Int) by rw [mulMask _ (by omega)]; omega)
 have d3 := Lib.hid (show ((q / 4294967296 : Nat) : Int) / 4294967296 = 0 by omega)
 clear hx hy hp
 go_enter Tryz.func223, Tryz.ntmps223
 go_wp2
 simp only [b1.out, b2.out, d1.out, d2.out, m1.out, w1.out, e1.out, w2.out, b3.out, d3.out, Int.mul_zero, Int.zero_mul, Int.add_zero, Int.zero_add, show IntKind.u64.wrap 0 = 0 from by decide]
 go_ret2
 exact ⟨rfl, rfl⟩
theorem mulu_go (x y : Nat) (hx : x < 4294967296) (hy : y < 4294967296) (w : World) :
  Calls Tryz.prog 183 #[.int .u64 (x : Int), .int .u64 (y : Int)] w fun e w' => e = .returned (.tuple #[.int .u64 0, .int .u64 ((x * y : Nat) : Int)]) ∧ w = w' := by
 have HC := Lib.hid (mul64_go x y hx hy w)
 generalize x * y = q at *
 clear hx hy
 go_enter Tryz.func183, Tryz.ntmps183
 go_wp2_with fail
 refine HC.out.mono ?_
 rintro e w1 ⟨rfl, rfl⟩
 dsimp only
 go_wp2
 go_light
 go_ret2
 exact ⟨rfl, rfl⟩
theorem byte_one : (Tryz.prog.info? 5).map (·.size) = some 1 := by kernel_rfl
theorem byte_size (w : World) : (sizeOf 5).run Tryz.prog w = .ok 1 w := by kernel_rfl
theorem holds_of {w : World} {N : Nat} {A : Option Addr} {bs : List Nat} (cap : Nat) (h : BytesAt w N A bs) : Lib.HoldsBytes w (.slice A bs.length cap) (bs.map UInt8.ofNat) := by
 refine ⟨A, cap, by rw [List.length_map], fun hn => ?_, fun a ha j x hj => ?_⟩
 ·by_cases h0 : bs = []
  ·rw [h0]; rfl
  ·obtain ⟨b, o, e, _⟩ := h.2.2 (List.length_pos_iff.2 h0)
   rw [hn] at e; cases e
 ·rw [List.getElem?_map] at hj
  have hjl : j < bs.length := by
   rcases Nat.lt_or_ge j bs.length with h1 | h1
   ·exact h1
   ·rw [List.getElem?_eq_none h1] at hj; cases hj
  obtain ⟨b, o, e, _, hc⟩ := h.2.2 (by omega)
  rw [ha] at e
  cases e
  have e2 : (⟨b, o, none⟩ : Addr).add j = ⟨b, o + j, none⟩ := by unfold Addr.add; split <;> simp_all
  rw [e2, hc j hjl]
  rw [List.getElem?_eq_getElem hjl] at hj
  simp only [Option.map_some, Option.some.injEq] at hj
  have h256 := h.1 bs[j] (List.getElem_mem hjl)
  rw [← hj, UInt8.toNat_ofNat', Nat.mod_eq_of_lt (by simpa using h256)]
  unfold byteAt
  simp [List.getD, hjl]
theorem copy_self {w0 wr : World} {h N : Nat} {acc : List UInt8} (m : Nat) (hb : Lib.Buf w0 wr h N acc) (hm : m ≤ acc.length) (hfit : acc.length + m ≤ N) (hm0 : 0 < m) (n c1 c2 : Nat) (hn : Nat.min n (N - acc.length) = m) :
  ∃ wr', (Builtin.copy_ #[29, 29] 3 #[.slice (some ⟨h, acc.length, none⟩) (N - acc.length) c1, .slice (some ⟨h, 0, none⟩) n c2]).run Tryz.prog wr = .ok (.int .i64 (m : Int)) wr' ∧ Lib.Buf w0 wr' h N (acc ++ acc.take m) := by
 have hl : (acc.take m).length = m := by rw [List.length_take]; omega
 have hr := run_copy_cells (P := Tryz.prog) wr 29 29 3 5 h acc.length (N - acc.length) c1 ⟨h, 0, none⟩ n c2 ((acc.take m).map fun x => Value.int .u8 (x.toNat : Int)) Tryz.underlying29 byte_one (by rw [List.length_map, hl]; exact hn.symm)
  (fun j u hj => by
   rw [List.getElem?_map] at hj
   obtain ⟨x, hx, rfl⟩ := Option.map_eq_some_iff.1 hj
   rw [List.getElem?_take] at hx
   split at hx
   ·have e2 : (⟨h, 0, none⟩ : Addr).add j = ⟨h, j, none⟩ := by unfold Addr.add; split <;> simp_all
    rw [e2]
    exact hb.holds j x hx
   ·cases hx)
  (fun j hj => by rw [List.length_map, hl] at hj; exact hb.there _ (by omega)) (fun j hj => by rw [List.length_map, hl] at hj; exact hb.free _ (by omega))
  (fun u hu' => by obtain ⟨x, _, rfl⟩ := List.mem_map.1 hu'; rfl)
 rw [List.length_map, hl] at hr
 refine ⟨_, hr, ?_⟩
 have hin := World.cell?_setCells_in h ((acc.take m).map fun x => Value.int .u8 (x.toNat : Int)) acc.length wr (fun j hj => by rw [List.length_map, hl] at hj; exact hb.there _ (by omega))
 have hout := World.cell?_setCells_out h ((acc.take m).map fun x => Value.int .u8 (x.toNat : Int)) acc.length wr
 refine ⟨?_, ?_, ?_, ?_, by rw [List.length_append, hl]; exact hfit⟩
 ·exact Lib.below_setCells h (Nat.le_refl _) _ _ hb.below
 ·intro j hj
  by_cases h1 : acc.length ≤ j ∧ j < acc.length + m
  ·obtain ⟨d, rfl⟩ : ∃ d, j = acc.length + d := ⟨j - acc.length, by omega⟩
   rw [hin d (by rw [List.length_map, hl]; omega)]
   rfl
  ·rw [hout ⟨h, j, none⟩ (fun _ _ => by rw [List.length_map, hl]; show j < _ ∨ _ ≤ j; omega)]
   exact hb.there j hj
 ·intro j hj
  rw [World.frozen?_setCells]
  exact hb.free j hj
 ·intro j x hx
  by_cases h1 : j < acc.length
  ·rw [List.getElem?_append_left h1] at hx
   rw [hout ⟨h, j, none⟩ (fun _ _ => Or.inl h1)]
   exact hb.holds j x hx
  ·rw [List.getElem?_append_right (by omega)] at hx
   obtain ⟨d, rfl⟩ : ∃ d, j = acc.length + d := ⟨j - acc.length, by omega⟩
   rw [Nat.add_sub_cancel_left] at hx
   have hd : d < (acc.take m).length := (List.getElem?_eq_some_iff.1 hx).1
   rw [hin d (by rw [List.length_map]; exact hd)]
   rw [List.getElem_map, (List.getElem?_eq_some_iff.1 hx).2]
theorem step_copy_run {w : World} {ops : Array Oper} {o : Oper} {a : Act} {K : Act → World → Prop} {Q : Exit → Act → World → Prop} {E : Prop} (hgd : o.guard = none) (d s : Operand) (t t' : TypeId)
  (ho : o.op = .call { callee := .builtin .copy, args := #[d, s], argTypes := #[t, t'] }) (v u : Value) (hd : a.eval d = v) (hs : a.eval s = u) {v' : Value} {w' : World}
  (hr : (Builtin.copy_ #[t, t'] o.type #[v, u]).run Tryz.prog w = .ok v' w') (h : K (a.put o.dst v') w') : if Region.wanted o (yielded ops a.tmps) then o.wp Tryz.prog a w K Q else E := by
 rw [if_pos (by simp [Region.wanted, hgd])]
 exact Lib.wp_copy_run w d s t t' ho v u hd hs hr h
def repW (n : Nat) (bs : List Nat) : List Nat := (List.replicate n bs).flatten
theorem rep_map (bs : List Nat) : ∀ n, Lib.repeatL (bs.map UInt8.ofNat) n = (repW n bs).map UInt8.ofNat
 | 0 => rfl
 | n + 1 => by rw [Lib.repeatL, rep_map bs n]; unfold repW; rw [List.replicate_succ, List.flatten_cons, List.map_append]
theorem rep_len (bs : List Nat) (n : Nat) : (repW n bs).length = n * bs.length := by
 unfold repW
 induction n with
 | zero => simp
 | succ n ih => rw [List.replicate_succ, List.flatten_cons, List.length_append, ih, Nat.succ_mul]; omega
theorem buf_full {w wr : World} {L : List Nat} {N : Nat} (hb : Lib.Buf w wr w.heap.size N (L.map UInt8.ofNat)) (h256 : ∀ c ∈ L, c < 256) (hl : L.length ≤ 140737488355328) (hg : w.heap.size < wr.heap.size) : BytesAt wr wr.heap.size (some ⟨w.heap.size, 0, none⟩) L :=
 ⟨h256, hl, fun _ => ⟨w.heap.size, 0, rfl, hg, fun i hi => by
  have := hb.holds i (UInt8.ofNat L[i]) (by rw [List.getElem?_map, List.getElem?_eq_getElem hi]; rfl)
  rw [Nat.zero_add, this, UInt8.toNat_ofNat', Nat.mod_eq_of_lt (by simpa using h256 L[i] (List.getElem_mem hi))]
  unfold byteAt
  simp [List.getD, hi]⟩⟩
theorem repeat_go (w : World) (N : Nat) (A : Option Addr) (cap : Nat) (bs : List Nat) (hA : BytesAt w N A bs) (n : Nat) (h0 : 0 < n) (h1 : n ≤ 1000) (hd : 0 < bs.length) (hT : bs.length * n ≤ 8192) :
  Calls Tryz.prog 154 #[.slice A bs.length cap, .int .i64 (n : Int)] w fun e w' => e = .returned (.slice (some ⟨w.heap.size, 0, none⟩) (repW n bs).length (repW n bs).length) ∧ BytesAt w' w'.heap.size (some ⟨w.heap.size, 0, none⟩) (repW n bs) ∧ Below w.heap.size w w' := by
 have hdT : bs.length ≤ bs.length * n := Nat.le_mul_of_pos_right _ h0
 have hH := Lib.hid (holds_of cap hA)
 have h256 := Lib.hid (flat_bytes (L := List.replicate n bs) (fun w hw => by rw [List.eq_of_mem_replicate hw]; exact hA.1))
 have HL := Lib.hid (rep_len bs n)
 have HM := Lib.hid (rep_map bs n)
 have HU := Lib.hid (mulu_go bs.length n (by omega) (by omega) w)
 have HTD := Lib.hid (Nat.mul_comm bs.length n)
 generalize hTd : bs.length * n = T at *
 have HTT := Lib.hid hTd
 clear hTd
 obtain ⟨cs, hrunM, hle, _⟩ := Lib.run_makeNoZero (P := Tryz.prog) w #[3] 29 5 Tryz.underlying29 T (by omega)
 have hcall : (callFunc 184 #[.int .i64 (T : Int)]).run Tryz.prog w = .ok (.value (.slice (some ⟨w.heap.size, 0, none⟩) T cs.size)) ((w.alloc (.cells cs 5)).drewN 2) := by
  rw [run_callFunc_extern Tryz.func184 (by kernel_rfl) (by kernel_rfl) (by kernel_rfl) (e := Extern.BytealgMakeNoZero.makeNoZero #[3] #[29]) (by kernel_rfl), hrunM]
  rfl
 have B0 := Lib.Buf.start w cs 5 T 2 hle
 have hml : (bs.map UInt8.ofNat).length = bs.length := List.length_map ..
 obtain ⟨w1, hr1, B1⟩ := Lib.copy_part (P := Tryz.prog) w _ w.heap.size T [] (bs.map UInt8.ofNat) (.slice A bs.length cap) 29 3 5 Tryz.underlying29 byte_one (Nat.le_refl _) B0 hH.out (by rw [hml]; simp; omega)
 rw [List.length_nil, Lib.tailV_zero, hml] at hr1
 rw [List.nil_append] at B1
 have HB1 := Lib.hid B1
 have hcs : (T : Int) ≤ (cs.size : Int) := by omega
 have hw1 : IntKind.u64.wrap (bs.length : Int) = (bs.length : Int) := mulWrap _ (by omega)
 have hw2 : IntKind.u64.wrap (n : Int) = (n : Int) := mulWrap _ (by omega)
 have hn0 : ((n : Int) == 0) = false := by rw [beq_eq_false_iff_ne]; omega
 have hd0 : ((bs.length : Int) == 0) = false := by rw [beq_eq_false_iff_ne]; omega
 clear hA hrunM B0 B1
 generalize hbl : bs.length = d at *
 have HBL := Lib.hid hbl
 clear hbl hml
 go_enter Tryz.func154, Tryz.ntmps154
 go_wp2_with fail
 refine HU.out.mono ?_
 rintro e w2 ⟨rfl, rfl⟩
 have hTc : ¬ ((8192 : Int) < (T : Int)) := by omega
 have HD := Lib.hid hd
 clear hdT hd HU
 dsimp only
 go_wp2_with (at_builtin; refine Lib.wpList_copy_run _ rfl _ _ 29 29 rfl _ _ rfl rfl hr1 ?_)
 clear hcall hr1 hw1 hw2 hn0 hd0 hcs hTc
 go_loopw [10] (fun v wr => ∃ (q b : Nat), v = .int .i64 (b : Int) ∧ b ≤ T ∧ Hid (b = q * d ∧ 1 ≤ q ∧ q ≤ n) ∧ Hid (Lib.Buf w wr w.heap.size T (Lib.repeatL (bs.map UInt8.ofNat) q))) (fun v _ => T - (intOf v).toNat)
 case atStart => exact ⟨1, d, rfl, by have := HTT.out; rw [← this]; exact Nat.le_mul_of_pos_right _ h0, Lib.hid ⟨by omega, Nat.le_refl _, h0⟩, Lib.hid (by rw [Lib.repeatL_one]; exact HB1.out)⟩
 case round =>
  obtain ⟨q, b, rfl, hb, HQ, HB⟩ := hrel
  by_cases hlt : b < T
  ·have hdl : (b : Int) < (T : Int) := by omega
   have hble : (b : Int) ≤ (T : Int) := by omega
   have hmn : min (b : Int) (T : Int) = (b : Int) := by omega
   go_upto_region 20 with fail
   have hacc : (Lib.repeatL (bs.map UInt8.ofNat) q).length = b := by rw [Lib.repeatL_length, List.length_map, HBL.out]; exact HQ.out.1.symm
   have hmin : ∃ k, 1 ≤ k ∧ k ≤ q ∧ q + k ≤ n ∧ min b (T - b) = k * d := by
    obtain ⟨h1, h2, h3⟩ := HQ.out
    have hqn : q < n := by
     rcases Nat.lt_or_ge q n with h | h
     ·exact h
     ·exfalso
      have := Nat.mul_le_mul_right d h
      have := HTD.out
      omega
    refine ⟨min (n - q) q, by omega, by omega, by omega, ?_⟩
    rw [HTD.out, h1, ← Nat.sub_mul, Lib.min_mul, Nat.min_comm]
   obtain ⟨k, hk1, hkq, hkn, hkm⟩ := hmin
   have HBd : Lib.Buf w wr.drew w.heap.size T (Lib.repeatL (bs.map UInt8.ofNat) q) := ⟨HB.out.below.drew, HB.out.there, HB.out.free, HB.out.holds, HB.out.fits⟩
   obtain ⟨w4, hr4, hB4⟩ := copy_self (k * d) HBd (by rw [hacc, HQ.out.1]; exact Nat.mul_le_mul_right d hkq) (by rw [hacc]; omega) (Nat.mul_pos hk1 HD.out) b (T - b) T (by rw [hacc]; exact hkm)
   rw [hacc] at hr4
   have hB5 : Lib.Buf w w4 w.heap.size T (Lib.repeatL (bs.map UInt8.ofNat) (q + k)) := by
    rw [← Lib.step_ok _ q k hkq, List.length_map, HBL.out]
    exact hB4
   have HB5 := Lib.hid hB5
   have HQ5 := Lib.hid (show b + k * d = (q + k) * d ∧ 1 ≤ q + k ∧ q + k ≤ n from ⟨by rw [Nat.add_mul, ← HQ.out.1], by omega, hkn⟩)
   have hkd : 0 < k * d ∧ b + k * d ≤ T := ⟨Nat.mul_pos hk1 HD.out, by omega⟩
   clear hB4 hB5 HQ hacc hkm hkn hkq hk1 HB HBd
   generalize k * d = kd at *
   have hsl1 : ∀ W, (Instr.slice 29 (.slice (some ⟨w.heap.size, 0, none⟩) T T) (some (.int .i64 (b : Int))) none none).run Tryz.prog W = .ok (.slice (some ⟨w.heap.size, b, none⟩) (T - b) (T - b)) W := fun W => by
    have := Lib.run_slice_tailV (P := Tryz.prog) W 29 5 Tryz.underlying29 byte_size w.heap.size T b hb
    rw [this]
    unfold Lib.tailV
    rw [if_neg (by omega)]
   have hwb : IntKind.i64.wrap ((b : Int) + (kd : Int)) = ((b + kd : Nat) : Int) := by rw [IntKind.wrap_i64]; omega
   go_region_law (refine step_copy_run rfl (.tmp 70) (.tmp 73) 29 29 rfl (.slice (some ⟨w.heap.size, b, none⟩) (T - b) (T - b)) (.slice (some ⟨w.heap.size, 0, none⟩) b T) (by simp [Act.eval, Act.put]) (by simp [Act.eval, Act.put]) hr4 ?_)
   clear hr4 hsl1 hmn
   simp only [Act.put, List.getElem_toArray, List.getElem_cons_zero, List.getElem_cons_succ, List.setIfInBounds_toArray, List.set_cons_zero, List.set_cons_succ]
   go_light
   go_roundw
   case rel => exact ⟨_, _, _, _, _, _, _, _, _, _, _, _, _, _, _, _, _, ⟨q + k, b + kd, rfl, hkd.2, HQ5, HB5⟩, rfl⟩
   case measure => simp [hwb, intOf]; omega
  ·have hdl : ¬ (b : Int) < (T : Int) := by omega
   obtain rfl : b = T := by omega
   obtain rfl : q = n := by
    obtain ⟨h1, h2, h3⟩ := HQ.out
    have h4 := HTD.out
    rw [h1] at h4
    exact Nat.eq_of_mul_eq_mul_right HD.out h4
   have HZ := Lib.hid (HL.out.trans HTD.out.symm)
   have HF := Lib.hid HB.out.below
   rw [HM.out] at HB
   have HG := Lib.hid (show BytesAt wr wr.heap.size (some ⟨w.heap.size, 0, none⟩) (repW q bs) from buf_full HB.out h256.out (by rw [HZ.out]; omega) (World.block_lt_of_cell? wr ⟨w.heap.size, 0, none⟩ (HB.out.holds 0 _ (by rw [List.getElem?_map, List.getElem?_eq_getElem (by have := HZ.out; have := HTD.out; have := Nat.mul_pos h0 HD.out; omega)]; rfl))))
   go_wp2
   go_light
   go_ret
   exact ⟨by rw [HZ.out]; rfl, HG.out, HF.out⟩
theorem repW_nil (n : Nat) : repW n [] = [] := by
 unfold repW
 induction n with
 | zero => rfl
 | succ n ih => rw [List.replicate_succ, List.flatten_cons, ih]; rfl
theorem repeat0_go (w : World) (A : Option Addr) (cap : Nat) (n : Nat) (h0 : 0 < n) (h1 : n ≤ 1000) :
  Calls Tryz.prog 154 #[.slice A 0 cap, .int .i64 (n : Int)] w fun e w' => (∃ g, e = .returned (.slice (some ⟨g, 0, none⟩) 0 0)) ∧ Below w.heap.size w w' := by
 have HU := Lib.hid (mulu_go 0 n (by omega) (by omega) w)
 have hw2 : IntKind.u64.wrap (n : Int) = (n : Int) := mulWrap _ (by omega)
 have hn0 : ((n : Int) == 0) = false := by rw [beq_eq_false_iff_ne]; omega
 have HB := Lib.hid (show Below w.heap.size w (w.alloc (.cells #[] 5)) from (Below.refl _ _).alloc (Nat.le_refl _) _)
 rw [Nat.zero_mul] at HU
 go_enter Tryz.func154, Tryz.ntmps154
 go_wp2_with fail
 refine HU.out.mono ?_
 rintro e w2 ⟨rfl, rfl⟩
 clear HU
 dsimp only
 go_wp2
 go_light
 go_ret
 exact ⟨⟨_, rfl⟩, HB.out⟩
end Go.Proofs.YtofbfafnpdaejaaGreatDoor
namespace Go.Proofs.YtofbfafnpdaejaaGreatDoor
set_option linter.unusedSimpArgs false
set_option linter.unusedVariables false
set_option maxRecDepth 100000
set_option maxHeartbeats 8000000
abbrev RelW := Nat → Nat → Prop
def noR : RelW := fun _ _ => False
def idR : RelW := fun i j => i = j
def setR (s : Nat) (w : List Nat) : RelW := fun i j => ∃ c, w[i]? = some c ∧ s.testBit c = true ∧ j = i + 1
def catR : List RelW → RelW
 | [] => idR
 | R :: l => fun i j => ∃ k, R i k ∧ catR l k j
def altR (l : List RelW) : RelW := fun i j => ∃ R ∈ l, R i j
def itR (R : RelW) : Nat → RelW
 | 0 => idR
 | k + 1 => fun i j => ∃ m, R i m ∧ itR R k m j
def starR (R : RelW) : RelW := fun i j => ∃ k, itR R k i j
def plusR (R : RelW) : RelW := fun i j => ∃ m, R i m ∧ starR R m j
def optR (R : RelW) : RelW := fun i j => i = j ∨ R i j
def repR (lo hi : Int) (R : RelW) : RelW := fun i j => ∃ k : Nat, lo ≤ (k : Int) ∧ (hi < 0 ∨ (k : Int) ≤ hi) ∧ itR R k i j
def saysK (k : Int) (s : Nat) (lo hi : Int) (w : List Nat) (Rs : List RelW) : RelW :=
 if k = 2 then idR
 else if k = 3 then setR s w
 else if k = 4 then catR Rs
 else if k = 5 then altR Rs
 else if k = 6 then starR (Rs.headD noR)
 else if k = 7 then plusR (Rs.headD noR)
 else if k = 8 then optR (Rs.headD noR)
 else if k = 9 then repR lo hi (Rs.headD noR)
 else noR
def Trees.rels (w : List Nat) : Trees → List RelW
 | .nil => []
 | .cons k s ks lo hi r => saysK k s lo hi w (ks.rels w) :: r.rels w
def Nd.rel (x : Nd) (w : List Nat) : RelW := saysK x.kind x.set x.lo x.hi w (x.kids.rels w)
theorem Trees.rels_list (w : List Nat) : ∀ F : Trees, F.rels w = F.list.map fun z => z.rel w
 | .nil => rfl
 | .cons k s ks lo hi r => by rw [Trees.rels, Trees.list, List.map_cons, Trees.rels_list w r]; rfl
theorem itR_add {R : RelW} : ∀ {a b : Nat} {i j : Nat}, itR R (a + b) i j ↔ ∃ m, itR R a i m ∧ itR R b m j
 | 0, b, i, j => by
  rw [Nat.zero_add]
  exact ⟨fun h => ⟨i, rfl, h⟩, fun ⟨m, h1, h2⟩ => by
   have h1 : i = m := h1
   rw [h1]
   exact h2⟩
 | a + 1, b, i, j => by
  rw [show a + 1 + b = (a + b) + 1 by omega]
  constructor
  ·rintro ⟨m, h1, h2⟩
   obtain ⟨m2, h3, h4⟩ := itR_add.1 h2
   exact ⟨m2, ⟨m, h1, h3⟩, h4⟩
  ·rintro ⟨m2, ⟨m, h1, h3⟩, h4⟩
   exact ⟨m, h1, itR_add.2 ⟨m2, h3, h4⟩⟩
theorem itR_one {R : RelW} {i j : Nat} : itR R 1 i j ↔ R i j := ⟨fun ⟨m, h1, h2⟩ => by
 have h2 : m = j := h2
 rw [← h2]
 exact h1, fun h => ⟨j, h, rfl⟩⟩
structure Like (ok : Nat → Prop) (f : Nat → Nat) (R R' : RelW) : Prop where
 fwd : ∀ i j, ok i → R' i j → ok j ∧ R (f i) (f j)
 bwd : ∀ i m, ok i → R (f i) m → (∃ j, ok j ∧ m = f j ∧ R' i j) ∨ ∀ j, ok j → ¬ m ≤ f j
 up : ∀ i j, R i j → i ≤ j
inductive AllL (ok : Nat → Prop) (f : Nat → Nat) : List RelW → List RelW → Prop
 | nil : AllL ok f [] []
 | cons {R R' : RelW} {l l' : List RelW} : Like ok f R R' → AllL ok f l l' → AllL ok f (R :: l) (R' :: l')
section
variable {ok : Nat → Prop} {f : Nat → Nat}
theorem like_no : Like ok f noR noR := ⟨fun _ _ _ h => h.elim, fun _ _ _ h => h.elim, fun _ _ h => h.elim⟩
theorem like_id : Like ok f idR idR := ⟨fun i j h e => by
 have e : i = j := e
 subst e
 exact ⟨h, rfl⟩, fun i m h e => .inl ⟨i, h, (show f i = m from e).symm, rfl⟩, fun i j e => Nat.le_of_eq e⟩
theorem Like.comp {R R' S S' : RelW} (h : Like ok f R R') (g : Like ok f S S') : Like ok f (fun i j => ∃ k, R i k ∧ S k j) (fun i j => ∃ k, R' i k ∧ S' k j) :=
 ⟨fun i j hi ⟨k, h1, h2⟩ => by
  obtain ⟨h3, h4⟩ := h.fwd i k hi h1
  obtain ⟨h5, h6⟩ := g.fwd k j h3 h2
  exact ⟨h5, f k, h4, h6⟩, fun i m hi ⟨k, h1, h2⟩ => by
  rcases h.bwd i k hi h1 with ⟨k', h3, rfl, h5⟩ | h3
  ·rcases g.bwd k' m h3 h2 with ⟨j, h6, h7, h8⟩ | h6
   ·exact .inl ⟨j, h6, h7, k', h5, h8⟩
   ·exact .inr h6
  ·exact .inr fun j hj hm => h3 j hj (Nat.le_trans (g.up k m h2) hm), fun i j ⟨k, h1, h2⟩ => Nat.le_trans (h.up i k h1) (g.up k j h2)⟩
theorem Like.or {R R' S S' : RelW} (h : Like ok f R R') (g : Like ok f S S') : Like ok f (fun i j => R i j ∨ S i j) (fun i j => R' i j ∨ S' i j) :=
 ⟨fun i j hi hh => hh.elim (fun h1 => (h.fwd i j hi h1).imp id .inl) (fun h1 => (g.fwd i j hi h1).imp id .inr), fun i m hi hh => by
  rcases hh with h1 | h1
  ·exact (h.bwd i m hi h1).imp (fun ⟨j, a, b, c⟩ => ⟨j, a, b, .inl c⟩) id
  ·exact (g.bwd i m hi h1).imp (fun ⟨j, a, b, c⟩ => ⟨j, a, b, .inr c⟩) id, fun i j hh => hh.elim (h.up i j) (g.up i j)⟩
theorem Like.it {R R' : RelW} (h : Like ok f R R') : ∀ k, Like ok f (itR R k) (itR R' k)
 | 0 => like_id
 | k + 1 => h.comp (h.it k)
theorem Like.ex {α : Type} {R R' : α → RelW} {p : α → Prop} (h : ∀ a, Like ok f (R a) (R' a)) : Like ok f (fun i j => ∃ a, p a ∧ R a i j) (fun i j => ∃ a, p a ∧ R' a i j) :=
 ⟨fun i j hi ⟨a, ha, h1⟩ => by
  obtain ⟨h2, h3⟩ := (h a).fwd i j hi h1
  exact ⟨h2, a, ha, h3⟩, fun i m hi ⟨a, ha, h1⟩ => ((h a).bwd i m hi h1).imp (fun ⟨j, x, y, z⟩ => ⟨j, x, y, a, ha, z⟩) id, fun i j ⟨a, _, h1⟩ => (h a).up i j h1⟩
theorem Like.star {R R' : RelW} (h : Like ok f R R') : Like ok f (starR R) (starR R') := by
 have := Like.ex (p := fun _ : Nat => True) (fun k => h.it k)
 unfold starR
 simpa using this
theorem Like.cats : ∀ {Rs Rs' : List RelW}, AllL ok f Rs Rs' → Like ok f (catR Rs) (catR Rs')
 | _, _, .nil => like_id
 | _, _, .cons h hs => h.comp (Like.cats hs)
theorem Like.alts : ∀ {Rs Rs' : List RelW}, AllL ok f Rs Rs' → Like ok f (altR Rs) (altR Rs')
 | _, _, .nil => ⟨fun _ _ _ ⟨_, h, _⟩ => by simp at h, fun _ _ _ ⟨_, h, _⟩ => by simp at h, fun _ _ ⟨_, h, _⟩ => by simp at h⟩
 | _, _, .cons h hs => by
  have h2 := h.or (Like.alts hs)
  have e : ∀ (R : RelW) (l : List RelW), altR (R :: l) = fun i j => R i j ∨ altR l i j := fun R l => by
   funext i j
   simp [altR]
  rw [e, e]
  exact h2
theorem Like.head {Rs Rs' : List RelW} (h : AllL ok f Rs Rs') : Like ok f (Rs.headD noR) (Rs'.headD noR) := by
 cases h with
 | nil => exact like_no
 | cons h _ => exact h
theorem Like.says {w w' : List Nat} (hset : ∀ s, Like ok f (setR s w) (setR s w')) (k : Int) (s : Nat) (lo hi : Int) {Rs Rs' : List RelW} (h : AllL ok f Rs Rs') : Like ok f (saysK k s lo hi w Rs) (saysK k s lo hi w' Rs') := by
 unfold saysK
 split
 ·exact like_id
 split
 ·exact hset s
 split
 ·exact Like.cats h
 split
 ·exact Like.alts h
 split
 ·exact (Like.head h).star
 split
 ·exact (Like.head h).comp (Like.head h).star
 split
 ·exact like_id.or (Like.head h)
 split
 ·have := Like.ex (p := fun k : Nat => lo ≤ (k : Int) ∧ (hi < 0 ∨ (k : Int) ≤ hi)) (fun k => (Like.head h).it k)
  unfold repR
  simpa [and_assoc] using this
 ·exact like_no
theorem Like.rels {w w' : List Nat} (hset : ∀ s, Like ok f (setR s w) (setR s w')) : ∀ F : Trees, AllL ok f (F.rels w) (F.rels w')
 | .nil => .nil
 | .cons k s ks lo hi r => .cons (Like.says hset k s lo hi (Like.rels hset ks)) (Like.rels hset r)
theorem Like.nd {w w' : List Nat} (hset : ∀ s, Like ok f (setR s w) (setR s w')) (x : Nd) : Like ok f (x.rel w) (x.rel w') := Like.says hset _ _ _ _ (Like.rels hset x.kids)
end
theorem set_take (w : List Nat) (n s : Nat) : Like (fun i => i ≤ n) id (setR s w) (setR s (w.take n)) := by
 refine ⟨fun i j hi ⟨c, h1, h2, h3⟩ => ?_, fun i m hi ⟨c, h1, h2, h3⟩ => ?_, fun i j ⟨_, _, _, h⟩ => by omega⟩
 ·rw [List.getElem?_take] at h1
  split at h1
  ·exact ⟨(show j ≤ n by omega), c, h1, h2, h3⟩
  ·cases h1
 ·have h1 : w[i]? = some c := h1
  have h3 : m = i + 1 := h3
  rcases Nat.lt_or_ge i n with h | h
  ·exact .inl ⟨m, (show m ≤ n by omega), rfl, c, by rw [List.getElem?_take, if_pos h]; exact h1, h2, h3⟩
  ·refine .inr fun j hj hm => ?_
   have h4 : m ≤ j := hm
   have h5 : j ≤ n := hj
   omega
theorem set_drop (w : List Nat) (n s : Nat) : Like (fun _ => True) (fun i => n + i) (setR s w) (setR s (w.drop n)) :=
 ⟨fun i j _ ⟨c, h1, h2, h3⟩ => ⟨trivial, c, by rw [List.getElem?_drop] at h1; exact h1, h2, by omega⟩, fun i m _ ⟨c, h1, h2, h3⟩ => .inl ⟨i + 1, trivial, by omega, c, by rw [List.getElem?_drop]; exact h1, h2, rfl⟩, fun i j ⟨_, _, _, h⟩ => by omega⟩
theorem set_self (w : List Nat) (s : Nat) : Like (fun i => i ≤ w.length) id (setR s w) (setR s w) :=
 ⟨fun i j hi ⟨c, h1, h2, h3⟩ => ⟨by have := (List.getElem?_eq_some_iff.1 h1).1; show j ≤ _; omega, c, h1, h2, h3⟩, fun i m hi ⟨c, h1, h2, h3⟩ => .inl ⟨m, by have := (List.getElem?_eq_some_iff.1 h1).1; have h4 : i < w.length := this; show m ≤ _; omega, rfl, c, h1, h2, h3⟩, fun i j ⟨_, _, _, h⟩ => by omega⟩
theorem rel_up (x : Nd) (w : List Nat) {i j : Nat} (h : x.rel w i j) : i ≤ j := (Like.nd (set_self w) x).up i j h
theorem rel_len (x : Nd) (w : List Nat) {i j : Nat} (hi : i ≤ w.length) (h : x.rel w i j) : j ≤ w.length := ((Like.nd (set_self w) x).fwd i j hi h).1
theorem rel_take (x : Nd) (w : List Nat) {n i j : Nat} (hi : i ≤ n) (hj : j ≤ n) : x.rel (w.take n) i j ↔ x.rel w i j :=
 ⟨fun h => ((Like.nd (set_take w n) x).fwd i j hi h).2, fun h => by
  rcases (Like.nd (set_take w n) x).bwd i j hi h with ⟨k, _, rfl, h2⟩ | h2
  ·exact h2
  ·exact absurd (Nat.le_refl _) (h2 j hj)⟩
theorem rel_drop (x : Nd) (w : List Nat) {n i j : Nat} : x.rel (w.drop n) i j ↔ x.rel w (n + i) (n + j) :=
 ⟨fun h => ((Like.nd (set_drop w n) x).fwd i j trivial h).2, fun h => by
  rcases (Like.nd (set_drop w n) x).bwd i (n + j) trivial h with ⟨k, _, e, h2⟩ | h2
  ·have e : n + j = n + k := e
   rw [show j = k by omega]
   exact h2
  ·exact absurd (Nat.le_refl _) (h2 j trivial)⟩
def SaysW (x : Nd) (w : List Nat) : Prop := x.rel w 0 w.length
theorem says_take (x : Nd) (w : List Nat) {n : Nat} (hn : n ≤ w.length) : SaysW x (w.take n) ↔ x.rel w 0 n := by
 unfold SaysW
 rw [List.length_take, Nat.min_eq_left hn]
 exact rel_take x w (Nat.zero_le _) (Nat.le_refl _)
open Classical in
noncomputable def imgB (R : RelW) (p : Nat → Bool) : Nat → Bool := fun j => decide (∃ i, p i = true ∧ R i j)
open Classical in
theorem imgB_iff {R : RelW} {p : Nat → Bool} {j : Nat} : imgB R p j = true ↔ ∃ i, p i = true ∧ R i j := by
 unfold imgB
 rw [decide_eq_true_eq]
theorem setB_ext {p q : Nat → Bool} (h : ∀ c, p c = true ↔ q c = true) : p = q := by
 funext c
 cases hp : p c with
 | true => exact ((h c).1 hp).symm
 | false =>
  cases hq : q c with
  | false => rfl
  | true =>
   have := (h c).2 hq
   rw [hp] at this
   cases this
theorem imgB_comp (R S : RelW) (p : Nat → Bool) : imgB S (imgB R p) = imgB (fun i j => ∃ k, R i k ∧ S k j) p := setB_ext fun j => by
 rw [imgB_iff, imgB_iff]
 constructor
 ·rintro ⟨k, h1, h2⟩
  obtain ⟨i, h3, h4⟩ := imgB_iff.1 h1
  exact ⟨i, h3, k, h4, h2⟩
 ·rintro ⟨i, h3, k, h4, h2⟩
  exact ⟨k, imgB_iff.2 ⟨i, h3, h4⟩, h2⟩
theorem imgB_congr {R S : RelW} (h : ∀ i j, R i j ↔ S i j) (p : Nat → Bool) : imgB R p = imgB S p := setB_ext fun j => by
 rw [imgB_iff, imgB_iff]
 exact ⟨fun ⟨i, h1, h2⟩ => ⟨i, h1, (h i j).1 h2⟩, fun ⟨i, h1, h2⟩ => ⟨i, h1, (h i j).2 h2⟩⟩
theorem imgB_id (p : Nat → Bool) : imgB idR p = p := setB_ext fun j => by
 rw [imgB_iff]
 exact ⟨fun ⟨i, h1, h2⟩ => by have h2 : i = j := h2; rw [← h2]; exact h1, fun h => ⟨j, h, rfl⟩⟩
theorem imgB_next (R : RelW) (p : Nat → Bool) (k : Nat) : imgB R (imgB (itR R k) p) = imgB (itR R (k + 1)) p := by
 rw [imgB_comp]
 refine imgB_congr (fun i j => ?_) p
 rw [itR_add]
 exact ⟨fun ⟨m, h1, h2⟩ => ⟨m, h1, itR_one.2 h2⟩, fun ⟨m, h1, h2⟩ => ⟨m, h1, itR_one.1 h2⟩⟩
theorem imgB_fix {R : RelW} {p : Nat → Bool} {k : Nat} (h : imgB R (imgB (itR R k) p) = imgB (itR R k) p) : ∀ d, imgB (itR R (k + d)) p = imgB (itR R k) p
 | 0 => rfl
 | d + 1 => by
  rw [show k + (d + 1) = (k + d) + 1 by omega, ← imgB_next, imgB_fix h d, h]
theorem imgB_none {R : RelW} {p : Nat → Bool} (h : ∀ c, p c = false) (c : Nat) : imgB R p c = false := by
 cases h1 : imgB R p c with
 | false => rfl
 | true =>
  obtain ⟨i, h2, _⟩ := imgB_iff.1 h1
  rw [h] at h2
  cases h2
structure AgainB (R : RelW) (p0 p e : Nat → Bool) : Prop where
 start : ∀ c, p0 c = true → p c = true
 sound : ∀ c, p c = true → imgB (starR R) p0 c = true
 edge : ∀ c, e c = true → p c = true
 shut : ∀ i j, p i = true → e i = false → R i j → p j = true
theorem again_start (R : RelW) (p : Nat → Bool) : AgainB R p p p :=
 ⟨fun _ h => h, fun c h => imgB_iff.2 ⟨c, h, 0, rfl⟩, fun _ h => h, fun i j h1 h2 => by rw [h1] at h2; cases h2⟩
theorem AgainB.next {R : RelW} {p0 p e q : Nat → Bool} (h : AgainB R p0 p e) (hq : ∀ c, q c = true ↔ imgB R e c = true ∧ p c = false) : AgainB R p0 (fun c => p c || q c) q := by
 refine ⟨fun c hc => by simp [h.start c hc], fun c hc => ?_, fun c hc => by simp [hc], fun i j hp he hR => ?_⟩
 ·rw [Bool.or_eq_true] at hc
  rcases hc with hc | hc
  ·exact h.sound c hc
  ·obtain ⟨i, h1, h2⟩ := imgB_iff.1 ((hq c).1 hc).1
   obtain ⟨i0, h3, k, h4⟩ := imgB_iff.1 (h.sound i (h.edge i h1))
   exact imgB_iff.2 ⟨i0, h3, k + 1, itR_add.2 ⟨i, h4, itR_one.2 h2⟩⟩
 ·rw [Bool.or_eq_true] at hp ⊢
  rcases hp with hp | hp
  ·cases hei : e i with
   | false => exact .inl (h.shut i j hp hei hR)
   | true =>
    cases hpj : p j with
    | true => exact .inl rfl
    | false => exact .inr ((hq j).2 ⟨imgB_iff.2 ⟨i, hei, hR⟩, hpj⟩)
  ·rw [he] at hp
   cases hp
theorem AgainB.done {R : RelW} {p0 p e : Nat → Bool} (h : AgainB R p0 p e) (he : ∀ c, e c = false) : p = imgB (starR R) p0 := setB_ext fun c => ⟨h.sound c, fun hc => by
 obtain ⟨i, h1, k, h2⟩ := imgB_iff.1 hc
 have key : ∀ (k i : Nat), p i = true → itR R k i c → p c = true := by
  intro k
  induction k with
  | zero => exact fun i hp hk => by have hk : i = c := hk; rw [← hk]; exact hp
  | succ k ih =>
   rintro i hp ⟨m, h3, h4⟩
   exact ih m (h.shut i m hp (he i) h3) h4
 exact key k i (h.start i h1) h2⟩
def betweenR (R : RelW) (lo hi : Nat) : RelW := fun i j => ∃ k, lo ≤ k ∧ k ≤ hi ∧ itR R k i j
theorem between_one (R : RelW) (lo : Nat) (p : Nat → Bool) : imgB (betweenR R lo lo) p = imgB (itR R lo) p := imgB_congr (fun i j => ⟨fun ⟨k, h1, h2, h3⟩ => by
 obtain rfl : k = lo := by omega
 exact h3, fun h => ⟨lo, Nat.le_refl _, Nat.le_refl _, h⟩⟩) p
theorem between_more {R : RelW} {lo k : Nat} (hk : lo ≤ k) (p : Nat → Bool) : (fun c => imgB (betweenR R lo k) p c || imgB (itR R (k + 1)) p c) = imgB (betweenR R lo (k + 1)) p := setB_ext fun c => by
 rw [Bool.or_eq_true, imgB_iff, imgB_iff, imgB_iff]
 constructor
 ·rintro (⟨i, h1, m, h2, h3, h4⟩ | ⟨i, h1, h2⟩)
  ·exact ⟨i, h1, m, h2, by omega, h4⟩
  ·exact ⟨i, h1, k + 1, by omega, Nat.le_refl _, h2⟩
 ·rintro ⟨i, h1, m, h2, h3, h4⟩
  rcases Nat.lt_or_ge k m with h | h
  ·obtain rfl : m = k + 1 := by omega
   exact .inr ⟨i, h1, h4⟩
  ·exact .inl ⟨i, h1, m, h2, h, h4⟩
theorem between_fix {R : RelW} {lo k hi : Nat} (hk : lo ≤ k) (hh : k ≤ hi) {p : Nat → Bool} (h : imgB R (imgB (itR R k) p) = imgB (itR R k) p) : imgB (betweenR R lo k) p = imgB (betweenR R lo hi) p := setB_ext fun c => by
 rw [imgB_iff, imgB_iff]
 constructor
 ·rintro ⟨i, h1, m, h2, h3, h4⟩
  exact ⟨i, h1, m, h2, by omega, h4⟩
 ·rintro ⟨i, h1, m, h2, h3, h4⟩
  rcases Nat.lt_or_ge k m with hm | hm
  ·have h5 := imgB_fix h (m - k)
   rw [show k + (m - k) = m by omega] at h5
   have h6 : imgB (itR R m) p c = true := imgB_iff.2 ⟨i, h1, h4⟩
   rw [h5] at h6
   obtain ⟨i', h7, h8⟩ := imgB_iff.1 h6
   exact ⟨i', h7, k, hk, Nat.le_refl _, h8⟩
  ·exact ⟨i, h1, m, h2, hm, h4⟩
theorem rep_between (R : RelW) (lo hi : Nat) (i j : Nat) : repR (lo : Int) (hi : Int) R i j ↔ betweenR R lo hi i j :=
 ⟨fun ⟨k, h1, h2, h3⟩ => ⟨k, by omega, by omega, h3⟩, fun ⟨k, h1, h2, h3⟩ => ⟨k, by omega, .inr (by omega), h3⟩⟩
theorem rep_endless (R : RelW) (lo : Nat) (hi : Int) (hh : hi < 0) (i j : Nat) : repR (lo : Int) hi R i j ↔ ∃ m, itR R lo i m ∧ starR R m j := by
 constructor
 ·rintro ⟨k, h1, _, h3⟩
  obtain ⟨d, rfl⟩ : ∃ d, k = lo + d := ⟨k - lo, by omega⟩
  obtain ⟨m, h4, h5⟩ := itR_add.1 h3
  exact ⟨m, h4, d, h5⟩
 ·rintro ⟨m, h1, d, h2⟩
  exact ⟨lo + d, by omega, .inl hh, itR_add.2 ⟨m, h1, h2⟩⟩
theorem catR_snoc (R : RelW) : ∀ (Rs : List RelW) (i j : Nat), catR (Rs ++ [R]) i j ↔ ∃ m, catR Rs i m ∧ R m j
 | [], i, j => ⟨fun ⟨m, h1, h2⟩ => ⟨i, rfl, by have h2 : m = j := h2; rw [← h2]; exact h1⟩, fun ⟨m, h1, h2⟩ => ⟨j, by have h1 : i = m := h1; rw [h1]; exact h2, rfl⟩⟩
 | S :: Rs, i, j => by
  constructor
  ·rintro ⟨m, h1, h2⟩
   obtain ⟨m2, h3, h4⟩ := (catR_snoc R Rs m j).1 h2
   exact ⟨m2, ⟨m, h1, h3⟩, h4⟩
  ·rintro ⟨m2, ⟨m, h1, h3⟩, h4⟩
   exact ⟨m, h1, (catR_snoc R Rs m j).2 ⟨m2, h3, h4⟩⟩
theorem altR_snoc (R : RelW) (Rs : List RelW) (i j : Nat) : altR (Rs ++ [R]) i j ↔ altR Rs i j ∨ R i j := by
 unfold altR
 constructor
 ·rintro ⟨S, h1, h2⟩
  rcases List.mem_append.1 h1 with h | h
  ·exact .inl ⟨S, h, h2⟩
  ·rw [List.mem_singleton.1 h] at h2
   exact .inr h2
 ·rintro (⟨S, h1, h2⟩ | h)
  ·exact ⟨S, List.mem_append.2 (.inl h1), h2⟩
  ·exact ⟨R, by simp, h⟩
end Go.Proofs.YtofbfafnpdaejaaGreatDoor
namespace Go.Proofs.YtofbfafnpdaejaaGreatDoor
open Go.RowKit
set_option linter.unusedSimpArgs false
set_option linter.unusedVariables false
set_option maxRecDepth 100000
set_option maxHeartbeats 8000000
theorem low63M (n : Int) : bits .and .i64 n 63 = n % 64 := by
 have h63 : (BitVec.ofInt 64 63).toNat = 2 ^ 6 - 1 := by decide
 have key : (BitVec.ofInt 64 n &&& BitVec.ofInt 64 63).toNat = (n % ((2 ^ 64 : Nat) : Int)).toNat % 2 ^ 6 := by
  rw [BitVec.toNat_and, BitVec.toNat_ofInt, h63, Nat.and_two_pow_sub_one_eq_mod]
 show IntKind.i64.wrap ((BitVec.ofInt 64 n &&& BitVec.ofInt 64 63).toNat : Nat) = n % 64
 rw [key, IntKind.wrap_i64]
 omega
theorem set_grown (w : World) (g o : Nat) (v : Value) : w.grownBy (w.setCell ⟨g, o, none⟩ v) (some g) :=
 ⟨rfl, rfl, rfl, by simp [World.setCell], fun k _ hk => Below.heap_setCell _ _ _ _ (fun e => hk (by rw [e]))⟩
theorem grown_drew {w w' : World} {r : Option Nat} (h : w.grownBy w' r) : w.grownBy w'.drew r := ⟨h.os, h.tape, h.output, h.size, h.block⟩
theorem pput_go (g : Nat) (p : Nat → Bool) (i : Nat) (hi : i < 320) (w : World) (hG : Blk w g 69 #[.int .u64 (word p 0), .int .u64 (word p 1), .int .u64 (word p 2), .int .u64 (word p 3), .int .u64 (word p 4)]) :
  Calls Tryz.prog 185 #[.pointer (some ⟨g, 0, none⟩), .int .i64 (i : Int)] w fun e w' => e = .returned (.tuple #[]) ∧ Blk w' g 69 #[.int .u64 (word (withB p i) 0), .int .u64 (word (withB p i) 1), .int .u64 (word (withB p i) 2), .int .u64 (word (withB p i) 3), .int .u64 (word (withB p i) 4)] ∧ w.grownBy w' (some g) := by
 have h0 : (0 : Int) ≤ (i : Int) := by omega
 have hlg := hG.lt
 have h63 := low63M (i : Int)
 have hm0 : 0 ≤ (i : Int) % 64 := by omega
 have hm1 : (i : Int) % 64 < 64 := by omega
 obtain hq | hq | hq | hq | hq : (i : Int) / 64 = 0 ∨ (i : Int) / 64 = 1 ∨ (i : Int) / 64 = 2 ∨ (i : Int) / 64 = 3 ∨ (i : Int) / 64 = 4 := by omega
 ·have y := hG.cell 0
  have f := hG.frozen 0
  simp only [List.getElem?_toArray, List.getElem?_cons_zero, List.getElem?_cons_succ] at y
  have hB := with_or p (i : Int) 0 h0 hq
  rw [Int.toNat_natCast, show ((i : Int) % 64).toNat = i % 64 by omega] at hB
  have HE := Lib.hid (show Blk ((w.setCell ⟨g, 0, none⟩ (.int .u64 (word (withB p i) 0))).drew) g 69 #[.int .u64 (word (withB p i) 0), .int .u64 (word (withB p i) 1), .int .u64 (word (withB p i) 2), .int .u64 (word (withB p i) 3), .int .u64 (word (withB p i) 4)] from by
   have h := (hG.set_ 0 (.int .u64 (word (withB p i) 0))).drew
   rw [show word (withB p i) 1 = word p 1 from (by have := with_other p (i : Int) 0 1 h0 hq (by decide); rwa [Int.toNat_natCast] at this), show word (withB p i) 2 = word p 2 from (by have := with_other p (i : Int) 0 2 h0 hq (by decide); rwa [Int.toNat_natCast] at this), show word (withB p i) 3 = word p 3 from (by have := with_other p (i : Int) 0 3 h0 hq (by decide); rwa [Int.toNat_natCast] at this), show word (withB p i) 4 = word p 4 from (by have := with_other p (i : Int) 0 4 h0 hq (by decide); rwa [Int.toNat_natCast] at this)]
   exact h)
  clear hG
  go_enter Tryz.func185, Tryz.ntmps185
  go_wp2_with fail
  go_region
  clear y f hB
  go_end0
  exact ⟨rfl, HE.out, grown_drew (set_grown w g 0 _)⟩
 ·have y := hG.cell 1
  have f := hG.frozen 1
  simp only [List.getElem?_toArray, List.getElem?_cons_zero, List.getElem?_cons_succ] at y
  have hB := with_or p (i : Int) 1 h0 hq
  rw [Int.toNat_natCast, show ((i : Int) % 64).toNat = i % 64 by omega] at hB
  have HE := Lib.hid (show Blk ((w.setCell ⟨g, 1, none⟩ (.int .u64 (word (withB p i) 1))).drew) g 69 #[.int .u64 (word (withB p i) 0), .int .u64 (word (withB p i) 1), .int .u64 (word (withB p i) 2), .int .u64 (word (withB p i) 3), .int .u64 (word (withB p i) 4)] from by
   have h := (hG.set_ 1 (.int .u64 (word (withB p i) 1))).drew
   rw [show word (withB p i) 0 = word p 0 from (by have := with_other p (i : Int) 1 0 h0 hq (by decide); rwa [Int.toNat_natCast] at this), show word (withB p i) 2 = word p 2 from (by have := with_other p (i : Int) 1 2 h0 hq (by decide); rwa [Int.toNat_natCast] at this), show word (withB p i) 3 = word p 3 from (by have := with_other p (i : Int) 1 3 h0 hq (by decide); rwa [Int.toNat_natCast] at this), show word (withB p i) 4 = word p 4 from (by have := with_other p (i : Int) 1 4 h0 hq (by decide); rwa [Int.toNat_natCast] at this)]
   exact h)
  clear hG
  go_enter Tryz.func185, Tryz.ntmps185
  go_wp2_with fail
  go_region
  clear y f hB
  go_end0
  exact ⟨rfl, HE.out, grown_drew (set_grown w g 1 _)⟩
 ·have y := hG.cell 2
  have f := hG.frozen 2
  simp only [List.getElem?_toArray, List.getElem?_cons_zero, List.getElem?_cons_succ] at y
  have hB := with_or p (i : Int) 2 h0 hq
  rw [Int.toNat_natCast, show ((i : Int) % 64).toNat = i % 64 by omega] at hB
  have HE := Lib.hid (show Blk ((w.setCell ⟨g, 2, none⟩ (.int .u64 (word (withB p i) 2))).drew) g 69 #[.int .u64 (word (withB p i) 0), .int .u64 (word (withB p i) 1), .int .u64 (word (withB p i) 2), .int .u64 (word (withB p i) 3), .int .u64 (word (withB p i) 4)] from by
   have h := (hG.set_ 2 (.int .u64 (word (withB p i) 2))).drew
   rw [show word (withB p i) 0 = word p 0 from (by have := with_other p (i : Int) 2 0 h0 hq (by decide); rwa [Int.toNat_natCast] at this), show word (withB p i) 1 = word p 1 from (by have := with_other p (i : Int) 2 1 h0 hq (by decide); rwa [Int.toNat_natCast] at this), show word (withB p i) 3 = word p 3 from (by have := with_other p (i : Int) 2 3 h0 hq (by decide); rwa [Int.toNat_natCast] at this), show word (withB p i) 4 = word p 4 from (by have := with_other p (i : Int) 2 4 h0 hq (by decide); rwa [Int.toNat_natCast] at this)]
   exact h)
  clear hG
  go_enter Tryz.func185, Tryz.ntmps185
  go_wp2_with fail
  go_region
  clear y f hB
  go_end0
  exact ⟨rfl, HE.out, grown_drew (set_grown w g 2 _)⟩
 ·have y := hG.cell 3
  have f := hG.frozen 3
  simp only [List.getElem?_toArray, List.getElem?_cons_zero, List.getElem?_cons_succ] at y
  have hB := with_or p (i : Int) 3 h0 hq
  rw [Int.toNat_natCast, show ((i : Int) % 64).toNat = i % 64 by omega] at hB
  have HE := Lib.hid (show Blk ((w.setCell ⟨g, 3, none⟩ (.int .u64 (word (withB p i) 3))).drew) g 69 #[.int .u64 (word (withB p i) 0), .int .u64 (word (withB p i) 1), .int .u64 (word (withB p i) 2), .int .u64 (word (withB p i) 3), .int .u64 (word (withB p i) 4)] from by
   have h := (hG.set_ 3 (.int .u64 (word (withB p i) 3))).drew
   rw [show word (withB p i) 0 = word p 0 from (by have := with_other p (i : Int) 3 0 h0 hq (by decide); rwa [Int.toNat_natCast] at this), show word (withB p i) 1 = word p 1 from (by have := with_other p (i : Int) 3 1 h0 hq (by decide); rwa [Int.toNat_natCast] at this), show word (withB p i) 2 = word p 2 from (by have := with_other p (i : Int) 3 2 h0 hq (by decide); rwa [Int.toNat_natCast] at this), show word (withB p i) 4 = word p 4 from (by have := with_other p (i : Int) 3 4 h0 hq (by decide); rwa [Int.toNat_natCast] at this)]
   exact h)
  clear hG
  go_enter Tryz.func185, Tryz.ntmps185
  go_wp2_with fail
  go_region
  clear y f hB
  go_end0
  exact ⟨rfl, HE.out, grown_drew (set_grown w g 3 _)⟩
 ·have y := hG.cell 4
  have f := hG.frozen 4
  simp only [List.getElem?_toArray, List.getElem?_cons_zero, List.getElem?_cons_succ] at y
  have hB := with_or p (i : Int) 4 h0 hq
  rw [Int.toNat_natCast, show ((i : Int) % 64).toNat = i % 64 by omega] at hB
  have HE := Lib.hid (show Blk ((w.setCell ⟨g, 4, none⟩ (.int .u64 (word (withB p i) 4))).drew) g 69 #[.int .u64 (word (withB p i) 0), .int .u64 (word (withB p i) 1), .int .u64 (word (withB p i) 2), .int .u64 (word (withB p i) 3), .int .u64 (word (withB p i) 4)] from by
   have h := (hG.set_ 4 (.int .u64 (word (withB p i) 4))).drew
   rw [show word (withB p i) 0 = word p 0 from (by have := with_other p (i : Int) 4 0 h0 hq (by decide); rwa [Int.toNat_natCast] at this), show word (withB p i) 1 = word p 1 from (by have := with_other p (i : Int) 4 1 h0 hq (by decide); rwa [Int.toNat_natCast] at this), show word (withB p i) 2 = word p 2 from (by have := with_other p (i : Int) 4 2 h0 hq (by decide); rwa [Int.toNat_natCast] at this), show word (withB p i) 3 = word p 3 from (by have := with_other p (i : Int) 4 3 h0 hq (by decide); rwa [Int.toNat_natCast] at this)]
   exact h)
  clear hG
  go_enter Tryz.func185, Tryz.ntmps185
  go_wp2_with fail
  go_region
  clear y f hB
  go_end0
  exact ⟨rfl, HE.out, grown_drew (set_grown w g 4 _)⟩
theorem u64_but_nat (p q : Nat → Bool) (i : Nat) : bits .andNot .u64 ((word p i : Nat) : Int) ((word q i : Nat) : Int) = ((word (fun c => p c && !q c) i : Nat) : Int) := by
 have h := u64_andNot_nat (word p i) (word q i) (word_lt p i) (word_lt q i)
 rw [h, ← word_and, ← word_not]
 try rfl
theorem u64_with_nat (p q : Nat → Bool) (i : Nat) : bits .or .u64 ((word p i : Nat) : Int) ((word q i : Nat) : Int) = ((word (fun c => p c || q c) i : Nat) : Int) := by
 rw [u64_or_nat _ _ (word_lt p i) (word_lt q i), word_or]
theorem phas_go (p : Nat → Bool) (i : Nat) (hi : i < 320) (w : World) :
  Calls Tryz.prog 57 #[.agg #[.int .u64 (word p 0), .int .u64 (word p 1), .int .u64 (word p 2), .int .u64 (word p 3), .int .u64 (word p 4)], .int .i64 (i : Int)] w fun e w' => e = .returned (.bool (p i)) ∧ Below w.heap.size w w' := by
 have h0 : (0 : Int) ≤ (i : Int) := by omega
 have h63 := low63M (i : Int)
 have hm0 : 0 ≤ (i : Int) % 64 := by omega
 have hm1 : (i : Int) % 64 < 64 := by omega
 obtain hq | hq | hq | hq | hq : (i : Int) / 64 = 0 ∨ (i : Int) / 64 = 1 ∨ (i : Int) / 64 = 2 ∨ (i : Int) / 64 = 3 ∨ (i : Int) / 64 = 4 := by omega
 ·have hB := has_bit p (i : Int) 0 h0 hq
  rw [Int.toNat_natCast, show ((i : Int) % 64).toNat = i % 64 by omega] at hB
  go_enter Tryz.func57, Tryz.ntmps57
  go_wp2
  go_light
  go_ret
  exact ⟨rfl, (Below.refl _ _).alloc (Nat.le_refl _) _⟩
 ·have hB := has_bit p (i : Int) 1 h0 hq
  rw [Int.toNat_natCast, show ((i : Int) % 64).toNat = i % 64 by omega] at hB
  go_enter Tryz.func57, Tryz.ntmps57
  go_wp2
  go_light
  go_ret
  exact ⟨rfl, (Below.refl _ _).alloc (Nat.le_refl _) _⟩
 ·have hB := has_bit p (i : Int) 2 h0 hq
  rw [Int.toNat_natCast, show ((i : Int) % 64).toNat = i % 64 by omega] at hB
  go_enter Tryz.func57, Tryz.ntmps57
  go_wp2
  go_light
  go_ret
  exact ⟨rfl, (Below.refl _ _).alloc (Nat.le_refl _) _⟩
 ·have hB := has_bit p (i : Int) 3 h0 hq
  rw [Int.toNat_natCast, show ((i : Int) % 64).toNat = i % 64 by omega] at hB
  go_enter Tryz.func57, Tryz.ntmps57
  go_wp2
  go_light
  go_ret
  exact ⟨rfl, (Below.refl _ _).alloc (Nat.le_refl _) _⟩
 ·have hB := has_bit p (i : Int) 4 h0 hq
  rw [Int.toNat_natCast, show ((i : Int) % 64).toNat = i % 64 by omega] at hB
  go_enter Tryz.func57, Tryz.ntmps57
  go_wp2
  go_light
  go_ret
  exact ⟨rfl, (Below.refl _ _).alloc (Nat.le_refl _) _⟩
@[go_sem] theorem index5_0 (a b c d e : Value) (w : World) : (Instr.index 69 (.agg #[a, b, c, d, e]) (.int .i64 0)).run Tryz.prog w = .ok a w := by kernel_rfl
@[go_sem] theorem index5_1 (a b c d e : Value) (w : World) : (Instr.index 69 (.agg #[a, b, c, d, e]) (.int .i64 1)).run Tryz.prog w = .ok b w := by kernel_rfl
@[go_sem] theorem index5_2 (a b c d e : Value) (w : World) : (Instr.index 69 (.agg #[a, b, c, d, e]) (.int .i64 2)).run Tryz.prog w = .ok c w := by kernel_rfl
@[go_sem] theorem index5_3 (a b c d e : Value) (w : World) : (Instr.index 69 (.agg #[a, b, c, d, e]) (.int .i64 3)).run Tryz.prog w = .ok d w := by kernel_rfl
@[go_sem] theorem index5_4 (a b c d e : Value) (w : World) : (Instr.index 69 (.agg #[a, b, c, d, e]) (.int .i64 4)).run Tryz.prog w = .ok e w := by kernel_rfl
theorem ret_pl {fn : Func} {t2 : Tmp} (h : fn.results = #[.cell t2 69]) {tmps : Array Value} {w : World} {g : Nat} {a0 a1 a2 a3 a4 : Value}
  (hp : tmps.getD t2 undef = .pointer (some ⟨g, 0, none⟩)) (hb : Blk w g 69 #[a0, a1, a2, a3, a4]) :
  (results fn tmps).run Tryz.prog w = .ok (.agg #[a0, a1, a2, a3, a4]) w :=
 results_cell_row h tmps w g _ _ _ _ hp hb Tryz.underlying69 rfl (by kernel_rfl)
theorem Blk.set5w {w : World} {g : Nat} {t : TypeId} {a b c d e a' b' c' d' e' : Value} (h : Blk w g t #[a, b, c, d, e]) : Blk (((((w.setCell ⟨g, 0, none⟩ a').setCell ⟨g, 1, none⟩ b').setCell ⟨g, 2, none⟩ c').setCell ⟨g, 3, none⟩ d').setCell ⟨g, 4, none⟩ e') g t #[a', b', c', d', e'] :=
 ((((h.set_ 0 a').set_ 1 b').set_ 2 c').set_ 3 d').set_ 4 e'
theorem pwith_go (p q : Nat → Bool) (w : World) :
  Calls Tryz.prog 187 #[.agg #[.int .u64 (word p 0), .int .u64 (word p 1), .int .u64 (word p 2), .int .u64 (word p 3), .int .u64 (word p 4)], .agg #[.int .u64 (word q 0), .int .u64 (word q 1), .int .u64 (word q 2), .int .u64 (word q 3), .int .u64 (word q 4)]] w fun e w' => e = .returned (.agg #[.int .u64 (word (fun c => p c || q c) 0), .int .u64 (word (fun c => p c || q c) 1), .int .u64 (word (fun c => p c || q c) 2), .int .u64 (word (fun c => p c || q c) 3), .int .u64 (word (fun c => p c || q c) 4)]) ∧ Below w.heap.size w w' := by
 have o0 := u64_with_nat p q 0
 have o1 := u64_with_nat p q 1
 have o2 := u64_with_nat p q 2
 have o3 := u64_with_nat p q 3
 have o4 := u64_with_nat p q 4
 go_enter Tryz.func187, Tryz.ntmps187
 go_wp2
 refine wp_loop_rounds 6 ?_
 rw [rounds_succ]
 go_wp2
 rw [rounds_succ]
 go_wp2
 rw [rounds_succ]
 go_wp2
 rw [rounds_succ]
 go_wp2
 rw [rounds_succ]
 go_wp2
 rw [rounds_succ]
 go_wp2
 go_light
 refine bodyPost_ret (ret_pl Tryz.results187 rfl ?_) rfl ⟨rfl, ?_⟩
 ·exact Blk.new_at (by simp)
 ·exact (((Below.refl _ _).alloc (Nat.le_refl _) _).alloc (by simp) _).alloc (by simp; omega) _
theorem pbut_go (p q : Nat → Bool) (w : World) :
  Calls Tryz.prog 224 #[.agg #[.int .u64 (word p 0), .int .u64 (word p 1), .int .u64 (word p 2), .int .u64 (word p 3), .int .u64 (word p 4)], .agg #[.int .u64 (word q 0), .int .u64 (word q 1), .int .u64 (word q 2), .int .u64 (word q 3), .int .u64 (word q 4)]] w fun e w' => e = .returned (.agg #[.int .u64 (word (fun c => p c && !q c) 0), .int .u64 (word (fun c => p c && !q c) 1), .int .u64 (word (fun c => p c && !q c) 2), .int .u64 (word (fun c => p c && !q c) 3), .int .u64 (word (fun c => p c && !q c) 4)]) ∧ Below w.heap.size w w' := by
 have o0 := u64_but_nat p q 0
 have o1 := u64_but_nat p q 1
 have o2 := u64_but_nat p q 2
 have o3 := u64_but_nat p q 3
 have o4 := u64_but_nat p q 4
 go_enter Tryz.func224, Tryz.ntmps224
 go_wp2
 refine wp_loop_rounds 6 ?_
 rw [rounds_succ]
 go_wp2
 rw [rounds_succ]
 go_wp2
 rw [rounds_succ]
 go_wp2
 rw [rounds_succ]
 go_wp2
 rw [rounds_succ]
 go_wp2
 rw [rounds_succ]
 go_wp2
 go_light
 refine bodyPost_ret (ret_pl Tryz.results224 rfl ?_) rfl ⟨rfl, ?_⟩
 ·exact Blk.new_at (by simp)
 ·exact (((Below.refl _ _).alloc (Nat.le_refl _) _).alloc (by simp) _).alloc (by simp; omega) _
end Go.Proofs.YtofbfafnpdaejaaGreatDoor
namespace Go.Proofs.YtofbfafnpdaejaaGreatDoor
open Go.RowKit Go.Shelf
set_option linter.unusedSimpArgs false
set_option linter.unusedVariables false
set_option maxRecDepth 100000
set_option maxHeartbeats 8000000
attribute [local go_sem] Oper.semAt_some
theorem index_pl (p : Nat → Bool) (i : Nat) (hi : i < 5) (w : World) : (Instr.index 69 (.agg #[.int .u64 (word p 0), .int .u64 (word p 1), .int .u64 (word p 2), .int .u64 (word p 3), .int .u64 (word p 4)]) (.int .i64 (i : Int))).run Tryz.prog w = .ok (.int .u64 ((word p i : Nat) : Int)) w := by
 rcases i with _ | _ | _ | _ | _ | i
 ·exact index5_0 ..
 ·exact index5_1 ..
 ·exact index5_2 ..
 ·exact index5_3 ..
 ·exact index5_4 ..
 ·omega
def placeArg (x : Nat) : Array Value := #[.int .i64 (x : Int)]
theorem pall1_in (n : Nat) (hn : 1 ≤ n) (p : Nat → Bool) (l Bs n₀ : Nat) (hBs : 0 < n₀) (J Jx : List Nat → World → Prop)
  (hY : ∀ pre x W, J pre W → pre.length < 320 → p x = true → YieldAt Fence.wide (n - 1) Tryz.prog l (placeArg x) W fun e W' =>
   (e = .returned (.bool true) ∧ J (pre ++ [x]) W' ∧ Below n₀ W W') ∨ (e = .returned (.bool false) ∧ Jx (pre ++ [x]) W'))
  (W : World) (hs : Blk W Bs 69 #[.int .u64 (word p 0), .int .u64 (word p 1), .int .u64 (word p 2), .int .u64 (word p 3), .int .u64 (word p 4)]) (hT : TabAt 0 Lib.deBruijn64tab W) (h0 : J [] W) :
  CallsIn Fence.wide n Tryz.prog 173 #[.func (.yield l) #[] #[], .pointer (some ⟨Bs, 0, none⟩)] W fun e W' => (∃ v, e = .returned v) ∧
   ((∃ ys, ys = elems p 320 ∧ J ys W') ∨ (∃ pre, (∃ k, k ≤ 320 ∧ pre = elems p k) ∧ Jx pre W')) := by
 refine callsIn_of_wp Tryz.func173 rfl trivial ?_ rfl
 simp only [Tryz.ntmps173, List.size_toArray, List.length_cons, List.length_nil, Nat.reduceAdd, Nat.reduceSub, Array.replicate_succ, Array.replicate_zero, List.push_toArray, List.append_toArray, List.nil_append, List.cons_append]
 have s0 := hs.cell 0
 have s1 := hs.cell 1
 have s2 := hs.cell 2
 have s3 := hs.cell 3
 have s4 := hs.cell 4
 simp only [List.getElem?_toArray, List.getElem?_cons_zero, List.getElem?_cons_succ] at s0 s1 s2 s3 s4
 gi_wp2
 gi_loopw [6] (fun v wr => ∃ i : Nat, i ≤ 5 ∧ v = .int .i64 (i : Int) ∧ J (elems p (64 * i)) wr ∧ Below n₀ W wr)
  (fun v _ => 5 - (intOf v).toNat)
 case atStart => exact ⟨0, by omega, rfl, h0, Below.refl _ _⟩
 case round =>
  obtain ⟨i, hi, rfl, hJ, hB⟩ := hrel
  by_cases hlt : i < 5
  ·have hix := index_pl p i hlt
   gi_wp2
   have hd : decide ((i : Int) < 5) = true := by simp; omega
   rw [hd]
   gi_loopw [4] (fun v w2 => ∃ m : Nat, m ≤ 64 * i + 64 ∧ 64 * i ≤ m ∧ v = .int .u64 ((word (fun c => p c && decide (m ≤ c)) i : Nat) : Int) ∧ J (elems p m) w2 ∧ Below n₀ W w2)
    (fun v _ => (intOf v).toNat)
   case atStart => exact ⟨64 * i, by omega, Nat.le_refl _, by rw [word_start], hJ, hB⟩
   case round =>
    obtain ⟨m, hm1, hm2, rfl, hJ2, hB2⟩ := hrel
    by_cases hz : word (fun c => p c && decide (m ≤ c)) i = 0
    ·have hend := elems_end p i m hm1 hm2 hz
     rw [hz]
     gi_wp2
     exact ⟨⟨i + 1, by omega, by simp, by rw [hend]; exact hJ2, hB2⟩, by simp [intOf]; omega⟩
    ·obtain ⟨hk, hmk, hel, hand, hless⟩ := elems_next p i m hm1 hm2 hz
     have hx := word_lt (fun c => p c && decide (m ≤ c)) i
     generalize hwx : word (fun c => p c && decide (m ≤ c)) i = x at *
     have hx0 : ((x : Int) == 0) = false := by simp; omega
     have hTx : TabAt 0 Lib.deBruijn64tab _ := fun j hj => (hB2.cell (p := ⟨0, j, none⟩) (by show 0 < n₀; omega)).trans (hT j hj)
     have htz := tz_go x hx hz _ hTx
     generalize Lib.ctz 64 x = k at *
     obtain ⟨fn, tmps, assign, body, hy, hR⟩ := hY _ (64 * i + k) _ hJ2 (by have := elems_len p m; omega) (by
      have h9 : 64 * i + k ∈ elems p (64 * i + k + 1) := by rw [hel]; simp
      unfold elems at h9
      exact (List.mem_filter.1 h9).2)
     unfold placeArg at hy
     have ev : ((64 * i + k : Nat) : Int) = (i : Int) * 64 + (k : Int) := by omega
     rw [ev] at hy
     have esub : IntKind.u64.wrap ((x : Int) - 1) = ((x - 1 : Nat) : Int) := by rw [IntKind.wrap_u64]; omega
     have eand : bits .and .u64 (x : Int) ((x - 1 : Nat) : Int) = ((word (fun c => p c && decide (64 * i + k + 1 ≤ c)) i : Nat) : Int) := by
      rw [← hand]; exact u64_and_nat x (x - 1) hx (by omega)
     clear hwx
     gi_wp2_with (refine ⟨trivial, ?_⟩; gi_at_call 174; refine (callsIn_wide.2 htz).mono ?_; rintro e w' ⟨rfl, rfl⟩)
     refine hR.mono ?_
     rintro e W3 (⟨rfl, hJ3, hk3⟩ | ⟨rfl, hJx3⟩)
     ·gi_wp2
      go_roundw
      case rel => exact ⟨64 * i + k + 1, by omega, by omega, rfl, by rw [hel]; exact hJ3, hB2.trans hk3⟩
      case measure => simp [intOf]; omega
     ·gi_wp2
      refine bodyPost_ret (results_none rfl _ _ _) rfl ?_
      exact ⟨⟨_, rfl⟩, .inr ⟨_, ⟨64 * i + k + 1, by omega, hel.symm⟩, hJx3⟩⟩
  ·obtain rfl : i = 5 := by omega
   gi_wp2
   go_end0
   exact ⟨⟨_, rfl⟩, .inl ⟨_, rfl, hJ⟩⟩
theorem pall_go (p : Nat → Bool) (w : World) :
  Calls Tryz.prog 150 #[.agg #[.int .u64 (word p 0), .int .u64 (word p 1), .int .u64 (word p 2), .int .u64 (word p 3), .int .u64 (word p 4)]] w fun e w' => e = .returned (.func (.func 173) #[] #[.pointer (some ⟨w.heap.size, 0, none⟩)]) ∧ w' = w.alloc (.cells #[.int .u64 (word p 0), .int .u64 (word p 1), .int .u64 (word p 2), .int .u64 (word p 3), .int .u64 (word p 4)] 69) := by
 go_enter Tryz.func150, Tryz.ntmps150
 go_wp2
 go_light
 go_ret
 exact ⟨rfl, rfl⟩
theorem pall_stops (n : Nat) (hn : 1 ≤ n) (p : Nat → Bool) (Bs n₀ : Nat) (w : World) (hBs : 0 < n₀) (hBw : Bs < w.heap.size) (hs : Blk w Bs 69 #[.int .u64 (word p 0), .int .u64 (word p 1), .int .u64 (word p 2), .int .u64 (word p 3), .int .u64 (word p 4)]) (hT : TabAt 0 Lib.deBruijn64tab w) :
  SeqStopsK Fence.wide n Tryz.prog 173 #[.pointer (some ⟨Bs, 0, none⟩)] placeArg (Below n₀) (fun ys => ys = elems p 320) (fun pre => ∃ k, k ≤ 320 ∧ pre = elems p k) 320 w := fun l J Jx W hW _ _ hY h0 =>
 pall1_in n hn p l Bs n₀ hBs J Jx (fun pre x W h1 h2 _ => hY pre x W h1 h2) W (hs.below hW hBw) (TabAt.below hW (World.block_lt_of_cell? w _ (hT 0 (by decide))) hT) h0
theorem pall_sub (n : Nat) (hn : 1 ≤ n) (p : Nat → Bool) (m : Nat) (hm : ∀ c, p c = true → c ≤ m) (Bs n₀ : Nat) (w : World) (hBs : 0 < n₀) (hBw : Bs < w.heap.size) (hs : Blk w Bs 69 #[.int .u64 (word p 0), .int .u64 (word p 1), .int .u64 (word p 2), .int .u64 (word p 3), .int .u64 (word p 4)]) (hT : TabAt 0 Lib.deBruijn64tab w) :
  SeqStopsK Fence.wide n Tryz.prog 173 #[.pointer (some ⟨Bs, 0, none⟩)] (fun x : {c : Nat // c ≤ m} => placeArg x.1) (Below n₀) (fun ys => ys.map (·.1) = elems p 320) (fun pre => ∃ k, k ≤ 320 ∧ pre.map (·.1) = elems p k) 320 w := fun l J Jx W hW _ _ hY h0 => by
 refine (pall1_in n hn p l Bs n₀ hBs (fun pre W => ∃ q : List {c : Nat // c ≤ m}, q.map (·.1) = pre ∧ J q W) (fun pre W => ∃ q : List {c : Nat // c ≤ m}, q.map (·.1) = pre ∧ Jx q W) (fun pre x W1 hJ hl hpx => by
  obtain ⟨q, rfl, hJ⟩ := hJ
  refine (hY q ⟨x, hm x hpx⟩ W1 hJ (by simpa using hl)).mono fun e W' h => ?_
  rcases h with ⟨h1, h2, h3⟩ | ⟨h1, h2⟩
  ·exact .inl ⟨h1, ⟨_, by simp, h2⟩, h3⟩
  ·exact .inr ⟨h1, _, by simp, h2⟩) W (hs.below hW hBw) (TabAt.below hW (World.block_lt_of_cell? w _ (hT 0 (by decide))) hT) ⟨[], rfl, h0⟩).mono ?_
 rintro e W' ⟨h1, h2⟩
 refine ⟨h1, ?_⟩
 rcases h2 with ⟨ys, h3, q, h4, h5⟩ | ⟨pre, h3, q, h4, h5⟩
 ·exact .inl ⟨q, h4.trans h3, h5⟩
 ·obtain ⟨k, h6, h7⟩ := h3
  exact .inr ⟨q, ⟨k, h6, h4.trans h7⟩, h5⟩
end Go.Proofs.YtofbfafnpdaejaaGreatDoor
namespace Go.Proofs.YtofbfafnpdaejaaGreatDoor
open Go.RowKit Go.MapKept Go.ChangeMaps Go.Maps
set_option linter.unusedSimpArgs false
set_option linter.unusedVariables false
set_option maxRecDepth 100000
set_option maxHeartbeats 8000000
section
variable {κ : Type} {key : κ → Value} {ok : κ → Prop} {good : κ → Value → Prop} {w w1 : World} {b : Nat} {k t E : TypeId} {P : Program}
def MemoAt (key : κ → Value) (ok : κ → Prop) (good : κ → Value → Prop) (w : World) (b : Nat) : Prop :=
 ∃ es clock, w.heap[b]? = some (.map es clock) ∧ Stamped es clock ∧ ∀ x ∈ es.toList, ∃ q, ok q ∧ x.key = key q ∧ good q x.val
theorem MemoAt.lt (h : MemoAt key ok good w b) : b < w.heap.size := by
 obtain ⟨es, clock, hb, _⟩ := h
 exact (Array.getElem?_eq_some_iff.1 hb).1
theorem memo_made (w : World) : MemoAt key ok good (w.alloc (.map #[] 0)) w.heap.size := ⟨#[], 0, (heap_alloc w _).1, stamped_empty 0, by simp⟩
theorem MemoAt.stay (h : MemoAt key ok good w b) (hb : w1.heap[b]? = w.heap[b]?) : MemoAt key ok good w1 b := by
 obtain ⟨es, clock, h1, h2⟩ := h
 exact ⟨es, clock, hb.trans h1, h2⟩
theorem MemoAt.store (h : MemoAt key ok good w b) (K : Keyed P k) (ht : P.underlying t = some (.map k E)) (hk : ∀ q, ok q → ∃ l, keyOf P k (key q) = some l) {q : κ} (hq : ok q) {v : Value} (hv : good q v) :
  ∃ w2, (Instr.mapUpdate t (.map (some b)) (key q) v).run P w = .ok () w2 ∧ MemoAt key ok good w2 b ∧ w.grownBy w2 (some b) := by
 obtain ⟨es, clock, hb, h1, h2⟩ := h
 obtain ⟨l, hl⟩ := hk q hq
 have hg2 : ∀ es' clock', w.grownBy (setBlock w b (.map es' clock')) (some b) := fun es' clock' => ⟨rfl, rfl, rfl, by simp [setBlock], fun i _ hi => heap_setBlock_other hb _ (fun e1 => hi (by rw [e1]))⟩
 rcases K.find w hl es.toList (fun x hx => by
  obtain ⟨q', h3, h4, _⟩ := h2 x hx
  rw [h4]
  exact hk q' h3) with ⟨f1, f2⟩ | ⟨j, e0, f1, f2, f3⟩
 ·refine ⟨setBlock w b (.map (es.push ⟨key q, v, clock⟩) (clock + 1)), ?_, ⟨_, _, heap_setBlock_same hb _, stamped_push h1 f2, fun x hx => ?_⟩, hg2 _ _⟩
  ·simp [Instr.mapUpdate, run_underlying ht, MapKept.run_getObj_map hb, K.check w false hl, f1, MapKept.run_setObj_map _ hb, Result.andThen, setBlock]
  ·simp only [Array.toList_push, List.mem_append, List.mem_singleton] at hx
   rcases hx with hx | rfl
   ·exact h2 x hx
   ·exact ⟨q, hq, rfl, hv⟩
 ·have hj : es[j]? = some e0 := by simpa using f2
  have hkeyf : ∀ e', es[j]? = some e' → ({ e' with key := key q, val := v } : MapEntry).key = e'.key := fun e' he' => by rw [hj] at he'; cases he'; exact f3.symm
  have hlist : (es.modify j (fun e' => { e' with key := key q, val := v })).toList = es.toList.set j { e0 with key := key q, val := v } := by rw [Array.toList_modify, modify_eq_set _ _ _ _ f2]
  refine ⟨setBlock w b (.map (es.modify j (fun e' => { e' with key := key q, val := v })) clock), ?_, ⟨_, _, heap_setBlock_same hb _, stamped_modify h1 _ _ (fun _ _ => rfl) (fun e' _ he' => hkeyf e' he'), fun x hx => ?_⟩, hg2 _ _⟩
  ·simp [Instr.mapUpdate, run_underlying ht, MapKept.run_getObj_map hb, K.check w false hl, f1, hj, f3, K.stays w hl, MapKept.run_setObj_map _ hb, Result.andThen, setBlock]
  ·rw [hlist] at hx
   rcases List.mem_or_eq_of_mem_set hx with hx | rfl
   ·exact h2 x hx
   ·exact ⟨q, hq, rfl, hv⟩
end
end Go.Proofs.YtofbfafnpdaejaaGreatDoor
namespace Go.Proofs.YtofbfafnpdaejaaGreatDoor
open Go.RowKit Go.Maps
set_option linter.unusedSimpArgs false
set_option linter.unusedVariables false
set_option maxRecDepth 100000
set_option maxHeartbeats 8000000
def askV (q : Int × Int) : Value := .agg #[.int .i64 q.1, .int .i64 q.2]
theorem askV_inj (q q' : Int × Int) (h : askV q = askV q') : q = q' := by
 obtain ⟨a, b⟩ := q
 obtain ⟨c, d⟩ := q'
 unfold askV at h
 simp at h
 rw [h.1, h.2]
theorem laidOutM : laidOutB Tryz.prog = true := by kernel_rfl
theorem askRow : (168 : TypeId) < Tryz.prog.types.size := of_decide_eq_true (by kernel_rfl)
theorem askWide : (match Tryz.prog.underlying 168 with | some (.array _ _) | some (.struct _) => true | _ => false) = true := by rw [Tryz.underlying168]
theorem askKeyed : Keyed Tryz.prog 168 := Keyed.of_law (deep_law_laid laidOutM (m := 2) (by omega) askRow (by kernel_rfl) askWide)
theorem askSize : ∃ m, Tryz.prog.types.size = m + 1 := ⟨_, (Nat.sub_add_cancel (Nat.lt_of_le_of_lt (Nat.zero_le _) askRow)).symm⟩
def okA (q : Int × Int) : Prop := (Lit.int .i64 q.1).wf = true ∧ (Lit.int .i64 q.2).wf = true
theorem askCells : Tryz.prog.cellsOf 168 = 2 := by kernel_rfl
theorem intCells : Tryz.prog.cellsOf 3 = 1 := by kernel_rfl
theorem askType : Tryz.prog.keyType 168 = true := by kernel_rfl
theorem ask_lits (q : Int × Int) (h : okA q) (m : Nat) : Tryz.prog.keyLits (m + 1 + 1) 168 [.int .i64 q.1, .int .i64 q.2] = some [.int .i64 q.1, .int .i64 q.2] := by
 obtain ⟨wa, wb⟩ := h
 unfold Program.keyLits
 simp only [Tryz.underlying168]
 rw [if_pos (by rw [askCells]; exact ⟨rfl, by decide +kernel⟩)]
 simp [intCells, Program.keyLits, Tryz.underlying3, wa, wb]
theorem ask_key (q : Int × Int) (h : okA q) : ∃ l, keyOf Tryz.prog 168 (askV q) = some l := by
 obtain ⟨m, hm⟩ := askSize
 have h2 := ask_lits q h m
 unfold keyOf askV
 simp only [Tryz.underlying168]
 rw [if_pos (by simp [askType, Value.formed, Tryz.underlying168, askCells]), hm]
 simp only [Value.cells]
 rw [h2]
 exact ⟨_, rfl⟩
def kidNums : Nat → List Nd → List Int
 | _, [] => []
 | n, z :: l => (n : Int) :: kidNums (n + z.size) l
theorem kidNums_len : ∀ (n : Nat) (l : List Nd), (kidNums n l).length = l.length
 | _, [] => rfl
 | n, z :: l => by simp [kidNums, kidNums_len (n + z.size) l]
theorem nodes_cons (k : Int) (s : Nat) (ks : Trees) (lo hi : Int) (r : Trees) : (Trees.cons k s ks lo hi r).nodes = (⟨k, s, ks, lo, hi⟩ : Nd).nodes ++ r.nodes := by
 simp [Trees.nodes, Nd.nodes]
theorem forest_at : ∀ (F : Trees) (X : List Nd) (n : Nat), (∀ i y, F.nodes[i]? = some y → X[n + i]? = some y) → ∀ (i : Nat) (y : Nd), F.list[i]? = some y → ∃ m : Nat, (kidNums n F.list)[i]? = some (m : Int) ∧ X[m]? = some y ∧ ∀ j u, y.nodes[j]? = some u → X[m + j]? = some u
 | .nil, X, n, h, i, y, hi => by simp [Trees.list] at hi
 | .cons k s ks lo hi r, X, n, h, 0, y, hy => by
  simp [Trees.list] at hy
  subst hy
  refine ⟨n, by simp [Trees.list, kidNums], ?_, fun j u hu => ?_⟩
  ·have := h 0 ⟨k, s, ks, lo, hi⟩ (by simp [Trees.nodes])
   simpa using this
  ·refine h j u ?_
   rw [nodes_cons, List.getElem?_append_left (List.getElem?_eq_some_iff.1 hu).1]
   exact hu
 | .cons k s ks lo hi r, X, n, h, i + 1, y, hy => by
  have hl : (⟨k, s, ks, lo, hi⟩ : Nd).nodes.length = (⟨k, s, ks, lo, hi⟩ : Nd).size := Nd.nodes_len _
  obtain ⟨m, h1, h2⟩ := forest_at r X (n + (⟨k, s, ks, lo, hi⟩ : Nd).size) (fun j u hu => by
   have := h ((⟨k, s, ks, lo, hi⟩ : Nd).size + j) u (by
    rw [nodes_cons, List.getElem?_append_right (by omega), hl, Nat.add_sub_cancel_left]
    exact hu)
   rw [Nat.add_assoc]
   exact this) i y (by simpa [Trees.list] using hy)
  exact ⟨m, by simpa [Trees.list, kidNums] using h1, h2⟩
def Below1 (X : List Nd) (n : Nat) (z : Nd) : Prop := ∀ j u, z.nodes[j]? = some u → X[n + j]? = some u
theorem Below1.kid {X : List Nd} {n : Nat} {z : Nd} (h : Below1 X n z) {i : Nat} {y : Nd} (hy : z.kids.list[i]? = some y) : ∃ m : Nat, (kidNums (n + 1) z.kids.list)[i]? = some (m : Int) ∧ Below1 X m y := by
 obtain ⟨m, h1, _, h3⟩ := forest_at z.kids X (n + 1) (fun j u hu => by
  have := h (j + 1) u (by simpa [Nd.nodes] using hu)
  rw [show n + 1 + j = n + (j + 1) by omega]
  exact this) i y hy
 exact ⟨m, h1, h3⟩
theorem Below1.here {X : List Nd} {n : Nat} {z : Nd} (h : Below1 X n z) : X[n]? = some z := by
 have := h 0 z (by simp [Nd.nodes])
 simpa using this
def atB (i : Nat) : Nat → Bool := withB (fun _ => false) i
theorem atB_iff {i c : Nat} : atB i c = true ↔ c = i := by simp [atB, withB]
noncomputable def endsB (z : Nd) (bs : List Nat) (i : Nat) : Nat → Bool := imgB (z.rel bs) (atB i)
theorem endsB_iff {z : Nd} {bs : List Nat} {i j : Nat} : endsB z bs i j = true ↔ z.rel bs i j := by
 unfold endsB
 rw [imgB_iff]
 exact ⟨fun ⟨c, h1, h2⟩ => by rw [atB_iff.1 h1] at h2; exact h2, fun h => ⟨i, atB_iff.2 rfl, h⟩⟩
def goodM (x : Nd) (bs : List Nat) (q : Int × Int) (v : Value) : Prop := ∀ (k i : Nat) (z : Nd), q = ((k : Int), (i : Int)) → x.nodes[k]? = some z → v = .agg #[.int .u64 (word (endsB z bs i) 0), .int .u64 (word (endsB z bs i) 1), .int .u64 (word (endsB z bs i) 2), .int .u64 (word (endsB z bs i) 3), .int .u64 (word (endsB z bs i) 4)]
def PartAt (w : World) (b k : Nat) (z : Nd) : Prop := ∃ (B A : Option Addr) (n1 c1 c2 : Nat),
 w.cell? ⟨b, k * 9, none⟩ = some (.int .i64 z.kind) ∧ w.cell? ⟨b, k * 9 + 1, none⟩ = some (.int .u64 (word z.set.testBit 0)) ∧ w.cell? ⟨b, k * 9 + 2, none⟩ = some (.int .u64 (word z.set.testBit 1)) ∧
 w.cell? ⟨b, k * 9 + 3, none⟩ = some (.int .u64 (word z.set.testBit 2)) ∧ w.cell? ⟨b, k * 9 + 4, none⟩ = some (.int .u64 (word z.set.testBit 3)) ∧ w.cell? ⟨b, k * 9 + 5, none⟩ = some (.slice B n1 c1) ∧
 w.cell? ⟨b, k * 9 + 6, none⟩ = some (.int .i64 z.lo) ∧ w.cell? ⟨b, k * 9 + 7, none⟩ = some (.int .i64 z.hi) ∧ w.cell? ⟨b, k * 9 + 8, none⟩ = some (.slice A z.kids.len c2) ∧
 IntsAt w A (kidNums (k + 1) z.kids.list) ∧ z.kids.len ≤ c2
structure MatAt (w : World) (x : Nd) (bs : List Nat) (base gm b cp fm : Nat) (V : Option Addr) (cv : Nat) : Prop where
 box : Blk w gm 132 #[.slice (some ⟨b, 0, none⟩) x.size cp, .slice V bs.length cv, .map (some fm)]
 parts : ∀ k z, x.nodes[k]? = some z → PartAt w b k z
 cap : x.size ≤ cp
 word : BytesAt w base V bs
 len : bs.length ≤ 256
 memo : MemoAt askV okA (goodM x bs) w fm
 tab : TabAt 0 Lib.deBruijn64tab w
 tabl : 0 < base
 fml : base ≤ fm
 small : x.size ≤ 1000000
theorem ints_stayM {w w' : World} {A : Option Addr} {L : List Int} (h : IntsAt w A L) (hk : ∀ (j : Nat) (cs : Array Value) (t : TypeId) (fr : Nat × Nat), w.heap[j]? = some (Obj.cells cs t fr) → w'.heap[j]? = w.heap[j]?) : IntsAt w' A L := fun i a ha => by
 obtain ⟨b, o, e, hc⟩ := h i a ha
 refine ⟨b, o, e, ?_⟩
 cases hb : w.heap[b]? with
 | none => simp [World.cell?, hb] at hc
 | some ob =>
  cases ob with
  | cells cs t fr =>
   have := hk b cs t fr hb
   unfold World.cell? at hc ⊢
   dsimp only at hc ⊢
   rw [this]
   exact hc
  | _ => simp [World.cell?, hb] at hc
theorem cell_stay {w w' : World} (hk : ∀ (j : Nat) (cs : Array Value) (t : TypeId) (fr : Nat × Nat), w.heap[j]? = some (Obj.cells cs t fr) → w'.heap[j]? = w.heap[j]?) {b o : Nat} {v : Value} (h : w.cell? ⟨b, o, none⟩ = some v) : w'.cell? ⟨b, o, none⟩ = some v := by
 cases hb : w.heap[b]? with
 | none => simp [World.cell?, hb] at h
 | some ob =>
  cases ob with
  | cells cs t fr =>
   have := hk b cs t fr hb
   unfold World.cell? at h ⊢
   dsimp only at h ⊢
   rw [this]
   exact h
  | _ => simp [World.cell?, hb] at h
theorem MatAt.stay {w w' : World} {x : Nd} {bs : List Nat} {base gm b cp fm cv : Nat} {V : Option Addr} (h : MatAt w x bs base gm b cp fm V cv) (hk : ∀ (j : Nat) (cs : Array Value) (t : TypeId) (fr : Nat × Nat), w.heap[j]? = some (Obj.cells cs t fr) → w'.heap[j]? = w.heap[j]?) (hm : MemoAt askV okA (goodM x bs) w' fm) (hb : Below base w w') : MatAt w' x bs base gm b cp fm V cv := by
 refine ⟨(hk gm _ _ _ h.box).trans h.box, fun k z hz => ?_, h.cap, h.word.below hb, h.len, hm, TabAt.below hb h.tabl h.tab, h.tabl, h.fml, h.small⟩
 obtain ⟨B, A, n1, c1, c2, q0, q1, q2, q3, q4, q5, q6, q7, q8, q9, q10⟩ := h.parts k z hz
 exact ⟨B, A, n1, c1, c2, cell_stay hk q0, cell_stay hk q1, cell_stay hk q2, cell_stay hk q3, cell_stay hk q4, cell_stay hk q5, cell_stay hk q6, cell_stay hk q7, cell_stay hk q8, ints_stayM q9 hk, q10⟩
theorem MatAt.grown {w w' : World} {x : Nd} {bs : List Nat} {base gm b cp fm cv : Nat} {V : Option Addr} (h : MatAt w x bs base gm b cp fm V cv) (hg : w.grownBy w' (some fm)) (hm : MemoAt askV okA (goodM x bs) w' fm) : MatAt w' x bs base gm b cp fm V cv := by
 obtain ⟨es, clock, hf, _⟩ := h.memo
 refine h.stay (fun j cs t fr hj => hg.block j (Array.getElem?_eq_some_iff.1 hj).1 (fun e => ?_)) hm ((Below.refl base w).grown hg (by have := h.memo.lt; have := h.fml; omega) (fun k e => by cases e; exact h.fml))
 cases e
 rw [hf] at hj
 cases hj
theorem MatAt.below {w w' : World} {x : Nd} {bs : List Nat} {base gm b cp fm cv : Nat} {V : Option Addr} (h : MatAt w x bs base gm b cp fm V cv) (hb : Below w.heap.size w w') : MatAt w' x bs base gm b cp fm V cv :=
 h.stay (fun j cs t fr hj => hb.block j (Array.getElem?_eq_some_iff.1 hj).1) (h.memo.stay (hb.block fm h.memo.lt)) (hb.mono (by have := h.memo.lt; have := h.fml; omega))
theorem grown_trans {a b c : World} {r : Option Nat} (h : a.grownBy b r) (g : b.grownBy c r) : a.grownBy c r :=
 ⟨g.os.trans h.os, g.tape.trans h.tape, g.output.trans h.output, Nat.le_trans h.size g.size, fun k hk hne => (g.block k (Nat.lt_of_lt_of_le hk h.size) hne).trans (h.block k hk hne)⟩
theorem grown_below {a b : World} {r : Option Nat} (h : Below a.heap.size a b) : a.grownBy b r := ⟨h.os, h.tape, h.output, h.size, fun k hk _ => h.block k hk⟩
def EndsC (x : Nd) (bs : List Nat) (z : Nd) : Prop := ∀ (base gm b cp fm cv : Nat) (V : Option Addr) (w : World), MatAt w x bs base gm b cp fm V cv → ∀ (k i : Nat), Below1 x.nodes k z → i ≤ bs.length →
 Calls Tryz.prog 112 #[.pointer (some ⟨gm, 0, none⟩), .int .i64 (k : Int), .int .i64 (i : Int)] w fun e w' => e = .returned (.agg #[.int .u64 (word (endsB z bs i) 0), .int .u64 (word (endsB z bs i) 1), .int .u64 (word (endsB z bs i) 2), .int .u64 (word (endsB z bs i) 3), .int .u64 (word (endsB z bs i) 4)]) ∧ MatAt w' x bs base gm b cp fm V cv ∧ w.grownBy w' (some fm)
def EachC (x : Nd) (bs : List Nat) (z : Nd) : Prop := ∀ (base gm b cp fm cv : Nat) (V : Option Addr) (w : World), MatAt w x bs base gm b cp fm V cv → ∀ (k : Nat) (p : Nat → Bool), Below1 x.nodes k z → (∀ c, p c = true → c ≤ bs.length) →
 Calls Tryz.prog 186 #[.pointer (some ⟨gm, 0, none⟩), .int .i64 (k : Int), .agg #[.int .u64 (word p 0), .int .u64 (word p 1), .int .u64 (word p 2), .int .u64 (word p 3), .int .u64 (word p 4)]] w fun e w' => e = .returned (.agg #[.int .u64 ((word (imgB (z.rel bs) p) 0 : Nat) : Int), .int .u64 ((word (imgB (z.rel bs) p) 1 : Nat) : Int), .int .u64 ((word (imgB (z.rel bs) p) 2 : Nat) : Int), .int .u64 ((word (imgB (z.rel bs) p) 3 : Nat) : Int), .int .u64 ((word (imgB (z.rel bs) p) 4 : Nat) : Int)]) ∧ MatAt w' x bs base gm b cp fm V cv ∧ w.grownBy w' (some fm)
end Go.Proofs.YtofbfafnpdaejaaGreatDoor
