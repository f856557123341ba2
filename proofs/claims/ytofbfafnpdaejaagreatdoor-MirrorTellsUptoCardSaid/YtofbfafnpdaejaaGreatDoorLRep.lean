/- Texts of the claim. -/
import Derived.Test.YtofbfafnpdaejaaGreatDoorLSign
import Derived.Test.YtofbfafnpdaejaaGreatDoorLZ03
import Derived.Test.YtofbfafnpdaejaaGreatDoorLEscCl
namespace Go.Proofs.YtofbfafnpdaejaaGreatDoor
open Go.RowKit
set_option linter.unusedSimpArgs false
set_option linter.unusedVariables false
set_option maxRecDepth 100000
set_option maxHeartbeats 8000000
structure Ctx (N S T I b o cap : Nat) (bs : List Nat) (i : Nat) (v : Value) (L : List Lex) (W0 : World) (j : Nat) (W : World) : Prop where
 hT : W.cell? ⟨T, 0, none⟩ = some (.pointer (some ⟨S, 0, none⟩))
 hI : Blk W I 3 #[.int .i64 (j : Int)]
 hS : Spl W S b o bs.length cap i v 0 0
 hrow : W.ownsRow N 143 8 v L.length (lexCells L)
 hA : BytesAt W N (some ⟨b, o, none⟩) bs
 hB : Below N W0 W
 hNS : N ≤ S
 hNI : N ≤ I
 hTI : T ≠ I
 hSI : S ≠ I
 hcap : bs.length ≤ cap
section
variable {N S T I b o cap : Nat} {bs : List Nat} {i : Nat} {v : Value} {L : List Lex} {W0 : World} {j : Nat} {W W' : World}
theorem Ctx.drewN (h : Ctx N S T I b o cap bs i v L W0 j W) (n : Nat) : Ctx N S T I b o cap bs i v L W0 j (W.drewN n) :=
 ⟨h.hT, h.hI, h.hS, h.hrow, h.hA, bel_drewN h.hB n, h.hNS, h.hNI, h.hTI, h.hSI, h.hcap⟩
theorem Ctx.below (h : Ctx N S T I b o cap bs i v L W0 j W) (hb : Below W.heap.size W W') : Ctx N S T I b o cap bs i v L W0 j W' :=
  ⟨(hb.cell (p := ⟨T, 0, none⟩) (World.block_lt_of_cell? W _ h.hT)).trans h.hT, h.hI.below hb h.hI.lt, Blk.below h.hS hb (Blk.lt h.hS), own_below h.hrow hb, h.hA.below (hb.mono (Nat.le_of_lt (Nat.lt_of_le_of_lt h.hNS (Blk.lt h.hS)))),
    h.hB.trans (hb.mono (Nat.le_of_lt (Nat.lt_of_le_of_lt h.hNS (Blk.lt h.hS)))), h.hNS, h.hNI, h.hTI, h.hSI, h.hcap⟩
theorem Ctx.set_ (h : Ctx N S T I b o cap bs i v L W0 j W) (m : Nat) : Ctx N S T I b o cap bs i v L W0 m (W.setCell ⟨I, 0, none⟩ (.int .i64 (m : Int))) :=
  ⟨(World.cell?_setCell_other W _ _ _ (fun e => h.hTI (by simpa using (congrArg Addr.block e).symm))).trans h.hT, h.hI.set_ 0 _, Blk.far h.hS (p := ⟨I, 0, none⟩) h.hSI _, own_set h.hrow (blk_not_row h.hI (by decide) h.hrow),
    h.hA.below ((Below.refl N W).setCell (p := ⟨I, 0, none⟩) h.hNI _), h.hB.setCell (p := ⟨I, 0, none⟩) h.hNI _, h.hNS, h.hNI, h.hTI, h.hSI, h.hcap⟩
theorem Ctx.facts (h : Ctx N S T I b o cap bs i v L W0 j W) : W.cell? ⟨T, 0, none⟩ = some (.pointer (some ⟨S, 0, none⟩)) ∧ W.cell? ⟨I, 0, none⟩ = some (.int .i64 (j : Int)) ∧ W.cell? ⟨S, 0, none⟩ = some (.slice (some ⟨b, o, none⟩) bs.length cap) ∧ W.frozen? ⟨I, 0, none⟩ = false ∧
  T < W.heap.size ∧ I < W.heap.size ∧ S < W.heap.size ∧ N ≤ W.heap.size :=
 ⟨h.hT, h.hI.cell 0, (Spl.cells h.hS).1, h.hI.frozen 0, World.block_lt_of_cell? W _ h.hT, h.hI.lt, Blk.lt h.hS, Nat.le_of_lt (Nat.lt_of_le_of_lt h.hNS (Blk.lt h.hS))⟩
end
def Kept (N S T I b o cap : Nat) (bs : List Nat) (i : Nat) (u : Value) (L : List Lex) (W0 : World) (j : Nat) (v : Value) (e : Ending) (W' : World) : Prop := e = .returned v ∧ Ctx N S T I b o cap bs i u L W0 j W'
theorem here_yes {N S T I b o cap : Nat} {bs : List Nat} {i : Nat} {v : Value} {L : List Lex} {W0 : World} {j : Nat} {W : World} (h : Ctx N S T I b o cap bs i v L W0 j W) (c : Nat) (hj : j < bs.length) :
  Calls Tryz.prog 230 #[.int .u8 (c : Int), .pointer (some ⟨I, 0, none⟩), .pointer (some ⟨T, 0, none⟩)] W (Kept N S T I b o cap bs i v L W0 j (.bool (hasAt bs j c))) := by
 obtain ⟨c0, c1, c2, f1, l0, l1, l2, _⟩ := h.facts
 have hcell := bytesAt_cells h.hA j hj
 have hl := h.hA.2.1
 have HK := Lib.hid h
 have Hh := Lib.hid (hasAt_in c hj)
 clear h
 generalize byteAt bs j = d at *
 have hd : decide (j < bs.length) = true := by simp; omega
 have hd2 : (j : Int) < (bs.length : Int) := by omega
 go_enter Tryz.func230, Tryz.ntmps230
 go_wp2
 go_quiet (fail)
 go_wp2
 go_light
 go_ret
 refine ⟨ret_b ?_, HK.out.drewN _⟩
 rw [Hh.out]
 rw [Bool.eq_iff_iff]
 simp
 omega
theorem here_end {N S T I b o cap : Nat} {bs : List Nat} {i : Nat} {v : Value} {L : List Lex} {W0 : World} {j : Nat} {W : World} (h : Ctx N S T I b o cap bs i v L W0 j W) (c : Nat) (hj : bs.length ≤ j) :
  Calls Tryz.prog 230 #[.int .u8 (c : Int), .pointer (some ⟨I, 0, none⟩), .pointer (some ⟨T, 0, none⟩)] W (Kept N S T I b o cap bs i v L W0 j (.bool (hasAt bs j c))) := by
 obtain ⟨c0, c1, c2, f1, l0, l1, l2, _⟩ := h.facts
 have hl := h.hA.2.1
 have HK := Lib.hid h
 have Hh := Lib.hid (hasAt_out (bs := bs) (i := (j : Int)) c (by omega))
 clear h
 have hd : decide (j < bs.length) = false := by simp; omega
 go_enter Tryz.func230, Tryz.ntmps230
 go_wp2
 go_quiet (fail)
 go_wp2
 go_light
 go_ret
 exact ⟨ret_b (by rw [Hh.out]), HK.out.drewN _⟩
theorem sphere_go {N S T I b o cap : Nat} {bs : List Nat} {i : Nat} {v : Value} {L : List Lex} {W0 : World} {j : Nat} {W : World} (h : Ctx N S T I b o cap bs i v L W0 j W) (c : Nat) :
  Calls Tryz.prog 230 #[.int .u8 (c : Int), .pointer (some ⟨I, 0, none⟩), .pointer (some ⟨T, 0, none⟩)] W (Kept N S T I b o cap bs i v L W0 j (.bool (hasAt bs j c))) := by
 rcases Nat.lt_or_ge j bs.length with hj | hj
 ·exact here_yes h c hj
 ·exact here_end h c hj
theorem num_yes {N S T I b o cap : Nat} {bs : List Nat} {i : Nat} {v : Value} {L : List Lex} {W0 : World} {j : Nat} {W : World} (h : Ctx N S T I b o cap bs i v L W0 j W) (hj : j ≤ bs.length) {n m : Nat} (ht : takeS bs j = some (n, m)) :
  Calls Tryz.prog 228 #[.pointer (some ⟨T, 0, none⟩), .pointer (some ⟨I, 0, none⟩)] W (Kept N S T I b o cap bs i v L W0 m (.tuple #[.int .i64 (n : Int), .bool true])) := by
 have Hv := Lib.hid (show takeVal bs j = .tuple #[.int .i64 (n : Int), .int .i64 (m : Int), .int .i64 0] by unfold takeVal; rw [ht])
 clear ht
 obtain ⟨c0, c1, c2, f1, l0, l1, l2, l3⟩ := h.facts
 have hl := h.hA.2.1
 have HK := Lib.hid h
 have HE := Lib.hid (fun w hA => take_at b o cap bs j w hA h.hcap hj)
 clear h
 go_enter Tryz.func228, Tryz.ntmps228
 go_wp2_with fail
 go_region_held3 (fun w' => (∀ b o, b < W.heap.size → w'.cell? ⟨b, o, none⟩ = W.cell? ⟨b, o, none⟩) ∧ Since W.heap.size W w') (first | (with_reducible exact HK2.out) | (with_reducible exact since_start (Nat.le_refl _)))
  (first | (go_at_call 229; refine (HE.out _ (bytes_since (by assumption) HK.out.hA l3)).mono ?_; rintro e w' ⟨rfl, hb'⟩; rw [Hv.out]; have hK := since_step (by assumption) hb'; have HK2 := Lib.hid hK; clear hK))
 have HC := Lib.hid (HK.out.below HK2.out.2.1)
 obtain ⟨k0, k1, k2, g1, _, _, _, _⟩ := HC.out.facts
 go_wp2
 go_light
 go_ret2
 exact ⟨rfl, HC.out.set_ m⟩
theorem num_no {N S T I b o cap : Nat} {bs : List Nat} {i : Nat} {v : Value} {L : List Lex} {W0 : World} {j : Nat} {W : World} (h : Ctx N S T I b o cap bs i v L W0 j W) (hj : j ≤ bs.length) (ht : takeS bs j = none) :
  Calls Tryz.prog 228 #[.pointer (some ⟨T, 0, none⟩), .pointer (some ⟨I, 0, none⟩)] W (Kept N S T I b o cap bs i v L W0 j (.tuple #[.int .i64 0, .bool false])) := by
 have Hv := Lib.hid (show takeVal bs j = .tuple #[.int .i64 0, .int .i64 0, .int .i64 (takeErr bs j)] by unfold takeVal; rw [ht])
 have hk := takeErr_pos bs j
 generalize takeErr bs j = k at *
 have hk0 : (k != 0) = true := by rw [bne_iff_ne]; omega
 clear ht hk
 obtain ⟨c0, c1, c2, f1, l0, l1, l2, l3⟩ := h.facts
 have hl := h.hA.2.1
 have HK := Lib.hid h
 have HE := Lib.hid (fun w hA => take_at b o cap bs j w hA h.hcap hj)
 clear h
 go_enter Tryz.func228, Tryz.ntmps228
 go_wp2_with fail
 go_region_held3 (fun w' => (∀ b o, b < W.heap.size → w'.cell? ⟨b, o, none⟩ = W.cell? ⟨b, o, none⟩) ∧ Since W.heap.size W w') (first | (with_reducible exact HK2.out) | (with_reducible exact since_start (Nat.le_refl _)))
  (first | (go_at_call 229; refine (HE.out _ (bytes_since (by assumption) HK.out.hA l3)).mono ?_; rintro e w' ⟨rfl, hb'⟩; rw [Hv.out]; have hK := since_step (by assumption) hb'; have HK2 := Lib.hid hK; clear hK))
 have HC := Lib.hid (HK.out.below HK2.out.2.1)
 obtain ⟨k0, k1, k2, g1, _, _, _, _⟩ := HC.out.facts
 go_wp2
 go_light
 go_ret2
 exact ⟨rfl, HC.out⟩
end Go.Proofs.YtofbfafnpdaejaaGreatDoor
