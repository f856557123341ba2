/- Texts of the claim. -/
import Derived.Test.YtfekpkelmliejaaGreatDoorQZ03
namespace Go.Proofs.YtfekpkelmliejaaGreatDoor
open Go.RowKit
set_option linter.unusedSimpArgs false
set_option linter.unusedVariables false
set_option maxRecDepth 100000
set_option maxHeartbeats 8000000
theorem nright_big (N : NfaV) (A1 : Option Addr) (k1 : Nat) (A2 : Option Addr) (k2 : Nat) (A3 : Option Addr) (k3 : Nat) (w : World) (hN : NfaAt w N A1 A2 A3) (h : 65536 < N.states) : Calls Tryz.prog 72 #[.agg (nfA N A1 k1 A2 k2 A3 k3)] w fun e w' => e = .returned (.bool (rightN N)) ∧ Below w.heap.size w w' := by
 have hb1 : Below w.heap.size w (w.alloc (.cells (nfA N A1 k1 A2 k2 A3 k3) 43)) := (Below.refl _ _).alloc (Nat.le_refl _) _
 have HB1 := Lib.hid hb1
 have HX := Lib.hid (Blk.new w 43 (nfA N A1 k1 A2 k2 A3 k3))
 have HI := Lib.hid (is_go N.start N.states w.heap.size (w.alloc (.cells (nfA N A1 k1 A2 k2 A3 k3) 43)) (HX.out.cell 0))
 have HN := Lib.hid hN
 clear hb1 hN
 unfold nfA at *
 have HV := Lib.hid (rightN_head (N := N) (fun ⟨a, _⟩ => by omega))
 clear HI
 go_enter Tryz.func72, Tryz.ntmps72
 go_wp2
 go_light
 go_ret
 exact ⟨by rw [HV.out]; rfl, HB1.out⟩
theorem nright_start (N : NfaV) (A1 : Option Addr) (k1 : Nat) (A2 : Option Addr) (k2 : Nat) (A3 : Option Addr) (k3 : Nat) (w : World) (hN : NfaAt w N A1 A2 A3) (h : N.states ≤ 65536) (h2 : isB N.states N.start = false) : Calls Tryz.prog 72 #[.agg (nfA N A1 k1 A2 k2 A3 k3)] w fun e w' => e = .returned (.bool (rightN N)) ∧ Below w.heap.size w w' := by
 have hb1 : Below w.heap.size w (w.alloc (.cells (nfA N A1 k1 A2 k2 A3 k3) 43)) := (Below.refl _ _).alloc (Nat.le_refl _) _
 have HB1 := Lib.hid hb1
 have HX := Lib.hid (Blk.new w 43 (nfA N A1 k1 A2 k2 A3 k3))
 have HI := Lib.hid (is_go N.start N.states w.heap.size (w.alloc (.cells (nfA N A1 k1 A2 k2 A3 k3) 43)) (HX.out.cell 0))
 have HN := Lib.hid hN
 clear hb1 hN
 unfold nfA at *
 have HV := Lib.hid (rightN_head (N := N) (fun ⟨_, a, _⟩ => by rw [h2] at a; cases a))
 rw [h2] at HI
 have hd : decide ((65536 : Int) < N.states) = false := decide_eq_false (by omega)
 clear h2
 go_enter Tryz.func72, Tryz.ntmps72
 go_wp2_with fail
 refine HI.out.mono ?_
 rintro e w2 ⟨rfl, rfl⟩
 clear HI
 dsimp only
 go_wp2
 go_light
 go_ret
 exact ⟨by rw [HV.out]; rfl, HB1.out⟩
theorem nright_len (N : NfaV) (A1 : Option Addr) (k1 : Nat) (A2 : Option Addr) (k2 : Nat) (A3 : Option Addr) (k3 : Nat) (w : World) (hN : NfaAt w N A1 A2 A3) (h : N.states ≤ 65536) (h2 : isB N.states N.start = true) (h3 : (N.accept.length : Int) ≠ N.states) : Calls Tryz.prog 72 #[.agg (nfA N A1 k1 A2 k2 A3 k3)] w fun e w' => e = .returned (.bool (rightN N)) ∧ Below w.heap.size w w' := by
 have hb1 : Below w.heap.size w (w.alloc (.cells (nfA N A1 k1 A2 k2 A3 k3) 43)) := (Below.refl _ _).alloc (Nat.le_refl _) _
 have HB1 := Lib.hid hb1
 have HX := Lib.hid (Blk.new w 43 (nfA N A1 k1 A2 k2 A3 k3))
 have HI := Lib.hid (is_go N.start N.states w.heap.size (w.alloc (.cells (nfA N A1 k1 A2 k2 A3 k3) 43)) (HX.out.cell 0))
 have HN := Lib.hid hN
 clear hb1 hN
 unfold nfA at *
 have HV := Lib.hid (rightN_head (N := N) (fun ⟨_, _, a⟩ => h3 a))
 rw [h2] at HI
 have hd : decide ((65536 : Int) < N.states) = false := decide_eq_false (by omega)
 have hne : ((N.accept.length : Int) != N.states) = true := by rw [bne_iff_ne]; exact h3
 have y0 := HX.out.cell 0
 have y4 := HX.out.cell 4
 clear h2 h3
 go_enter Tryz.func72, Tryz.ntmps72
 go_wp2_with fail
 refine HI.out.mono ?_
 rintro e w2 ⟨rfl, rfl⟩
 clear HI
 dsimp only
 go_wp2
 go_light
 go_ret
 exact ⟨by rw [HV.out]; rfl, HB1.out⟩
theorem nright_rows (N : NfaV) (A1 : Option Addr) (k1 : Nat) (A2 : Option Addr) (k2 : Nat) (A3 : Option Addr) (k3 : Nat) (w : World) (hN : NfaAt w N A1 A2 A3) (h : N.states ≤ 65536) (h2 : isB N.states N.start = true) (h3 : (N.accept.length : Int) = N.states) : Calls Tryz.prog 72 #[.agg (nfA N A1 k1 A2 k2 A3 k3)] w fun e w' => e = .returned (.bool (rightN N)) ∧ Below w.heap.size w w' := by
 have hb1 : Below w.heap.size w (w.alloc (.cells (nfA N A1 k1 A2 k2 A3 k3) 43)) := (Below.refl _ _).alloc (Nat.le_refl _) _
 have HB1 := Lib.hid hb1
 have HX := Lib.hid (Blk.new w 43 (nfA N A1 k1 A2 k2 A3 k3))
 have HI := Lib.hid (is_go N.start N.states w.heap.size (w.alloc (.cells (nfA N A1 k1 A2 k2 A3 k3) 43)) (HX.out.cell 0))
 have HN := Lib.hid hN
 clear hb1 hN
 unfold nfA at *
 have HV := Lib.hid (rightN_tail h h2 h3)
 rw [h2] at HI
 have hd : decide ((65536 : Int) < N.states) = false := decide_eq_false (by omega)
 have hne : ((N.accept.length : Int) != N.states) = false := by rw [bne_eq_false_iff_eq]; exact h3
 have y0 := HX.out.cell 0
 have y4 := HX.out.cell 4
 have hll := HN.out.ll
 have hel := HN.out.el
 have hal := HN.out.al
 clear h2 h3
 go_enter Tryz.func72, Tryz.ntmps72
 go_wp2_with fail
 refine HI.out.mono ?_
 rintro e w2 ⟨rfl, rfl⟩
 clear HI y0 y4
 have y2 := HX.out.cell 2
 dsimp only
 go_wp2
 clear hd hne y2
 go_loopw [30] (fun i' wr => ∃ k : Nat, i' = .int .i64 (k : Int) ∧ k ≤ N.links.length ∧ Hid (∀ j z, j < k → N.links[j]? = some z → linkB N.states z = true) ∧ Hid (Below w.heap.size w wr) ∧ Hid (Blk wr w.heap.size 43 #[.int .i64 N.states, .int .i64 N.start, .slice A1 N.links.length k1, .slice A2 N.edges.length k2, .slice A3 N.accept.length k3])) (fun i' _ => N.links.length - (intOf i').toNat)
 case atStart => exact ⟨0, rfl, Nat.zero_le _, Lib.hid (fun j z hj => by omega), HB1, HX⟩
 case round =>
  clear HX HB1
  obtain ⟨k, rfl, hk, HR, HB, HX⟩ := hrel
  have hlx := HX.out.lt
  by_cases hlt : k < N.links.length
  ·obtain ⟨p, hp⟩ : ∃ p, N.links[k]? = some p := ⟨_, List.getElem?_eq_getElem hlt⟩
   obtain ⟨b, o, rfl, c0, c1⟩ := (HN.out.l.below HB.out) k p hp
   have hdl : (k : Int) < (N.links.length : Int) := by omega
   have hblk := World.block_lt_of_cell? wr _ c0
   have hbA : Below wr.heap.size wr (wr.alloc (.cells #[.int .i64 p.1, .int .i64 p.2] 98)) := (Below.refl _ _).alloc (Nat.le_refl _) _
   have HXA := Lib.hid (HX.out.alloc (.cells #[.int .i64 p.1, .int .i64 p.2] 98))
   have HBA := Lib.hid (HB.out.trans (hbA.mono HB.out.size))
   have HP := Lib.hid hp
   have HI1 := Lib.hid (is_go p.1 N.states w.heap.size _ (HXA.out.cell 0))
   have HI2 := Lib.hid (is_go p.2 N.states w.heap.size _ (HXA.out.cell 0))
   clear hp hbA
   cases hv1 : isB N.states p.1 with
   | false =>
    rw [hv1] at HI1
    have HF := Lib.hid (all_no HP.out (show linkB N.states p = false by unfold linkB; rw [hv1]; rfl))
    clear hv1
    go_wp2_with fail
    refine HI1.out.mono ?_
    rintro e w3 ⟨rfl, rfl⟩
    clear HI1 HI2 c0 c1
    dsimp only
    go_wp2
    go_light
    go_ret
    exact ⟨by rw [HV.out, HF.out]; rfl, HBA.out⟩
   | true =>
    rw [hv1] at HI1
    have HV1 := Lib.hid hv1
    clear hv1
    cases hv2 : isB N.states p.2 with
    | false =>
     rw [hv2] at HI2
     have HF := Lib.hid (all_no HP.out (show linkB N.states p = false by unfold linkB; rw [hv2, Bool.and_false]))
     clear hv2
     go_wp2_with fail
     refine HI1.out.mono ?_
     rintro e w3 ⟨rfl, rfl⟩
     clear HI1
     dsimp only
     go_wp2_with fail
     refine HI2.out.mono ?_
     rintro e w3 ⟨rfl, rfl⟩
     clear HI2 c0 c1
     dsimp only
     go_wp2
     go_light
     go_ret
     exact ⟨by rw [HV.out, HF.out]; rfl, HBA.out⟩
    | true =>
     rw [hv2] at HI2
     have HV2 := Lib.hid hv2
     clear hv2
     go_wp2_with fail
     refine HI1.out.mono ?_
     rintro e w3 ⟨rfl, rfl⟩
     clear HI1
     dsimp only
     go_wp2_with fail
     refine HI2.out.mono ?_
     rintro e w3 ⟨rfl, rfl⟩
     clear HI2 c0 c1
     dsimp only
     go_wp2
     go_roundw
     case rel => exact ⟨k + 1, by go_num, by omega, Lib.hid (fun j y hj hy => by
      rcases Nat.lt_or_ge j k with h | h
      ·exact HR.out j y h hy
      ·obtain rfl : j = k := by omega
       rw [HP.out] at hy
       cases hy
       unfold linkB
       rw [HV1.out, HV2.out]
       rfl), HBA, HXA⟩
     case measure => simp [intOf]; omega
  ·obtain rfl : k = N.links.length := by omega
   have hdl : ¬ ((N.links.length : Int) < (N.links.length : Int)) := by omega
   have HLL := Lib.hid (all_yes (f := linkB N.states) HR.out)
   clear HR hlt hk
   have y3 := HX.out.cell 3
   go_wp2
   clear y3
   go_loopw [50] (fun i' wr => ∃ k : Nat, i' = .int .i64 (k : Int) ∧ k ≤ N.edges.length ∧ Hid (∀ j z, j < k → N.edges[j]? = some z → edgeB N.states z = true) ∧ Hid (Below w.heap.size w wr) ∧ Hid (Blk wr w.heap.size 43 #[.int .i64 N.states, .int .i64 N.start, .slice A1 N.links.length k1, .slice A2 N.edges.length k2, .slice A3 N.accept.length k3])) (fun i' _ => N.edges.length - (intOf i').toNat)
   case atStart => exact ⟨0, rfl, Nat.zero_le _, Lib.hid (fun j z hj => by omega), HB, HX⟩
   case round =>
    clear HX HB hlx
    obtain ⟨k, rfl, hk, HR, HB, HX⟩ := hrel
    have hlx := HX.out.lt
    by_cases hlt : k < N.edges.length
    ·obtain ⟨p, hp⟩ : ∃ p, N.edges[k]? = some p := ⟨_, List.getElem?_eq_getElem hlt⟩
     obtain ⟨b, o, rfl, c0, c1, c2, c3, c4, c5⟩ := (HN.out.e.below HB.out) k p hp
     have hdl : (k : Int) < (N.edges.length : Int) := by omega
     have hblk := World.block_lt_of_cell? wr _ c0
     have hbA : Below wr.heap.size wr (wr.alloc (.cells #[.int .i64 p.1, .int .u64 (word p.2.1.testBit 0), .int .u64 (word p.2.1.testBit 1), .int .u64 (word p.2.1.testBit 2), .int .u64 (word p.2.1.testBit 3), .int .i64 p.2.2] 100)) := (Below.refl _ _).alloc (Nat.le_refl _) _
     have HXA := Lib.hid (HX.out.alloc (.cells #[.int .i64 p.1, .int .u64 (word p.2.1.testBit 0), .int .u64 (word p.2.1.testBit 1), .int .u64 (word p.2.1.testBit 2), .int .u64 (word p.2.1.testBit 3), .int .i64 p.2.2] 100))
     have HBA := Lib.hid (HB.out.trans (hbA.mono HB.out.size))
     have HP := Lib.hid hp
     have HI1 := Lib.hid (is_go p.1 N.states w.heap.size _ (HXA.out.cell 0))
     have HI2 := Lib.hid (is_go p.2.2 N.states w.heap.size _ (HXA.out.cell 0))
     clear hp hbA
     cases hv1 : isB N.states p.1 with
     | false =>
      rw [hv1] at HI1
      have HF := Lib.hid (all_no HP.out (show edgeB N.states p = false by unfold edgeB; rw [hv1]; rfl))
      clear hv1
      go_wp2_with fail
      refine HI1.out.mono ?_
      rintro e w3 ⟨rfl, rfl⟩
      clear HI1 HI2 c0 c1 c2 c3 c4 c5
      dsimp only
      go_wp2
      go_light
      go_ret
      exact ⟨by rw [HV.out, HF.out]; simp, HBA.out⟩
     | true =>
      rw [hv1] at HI1
      have HV1 := Lib.hid hv1
      clear hv1
      cases hv2 : isB N.states p.2.2 with
      | false =>
       rw [hv2] at HI2
       have HF := Lib.hid (all_no HP.out (show edgeB N.states p = false by unfold edgeB; rw [hv2, Bool.and_false]))
       clear hv2
       go_wp2_with fail
       refine HI1.out.mono ?_
       rintro e w3 ⟨rfl, rfl⟩
       clear HI1
       dsimp only
       go_wp2_with fail
       refine HI2.out.mono ?_
       rintro e w3 ⟨rfl, rfl⟩
       clear HI2 c0 c1 c2 c3 c4 c5
       dsimp only
       go_wp2
       go_light
       go_ret
       exact ⟨by rw [HV.out, HF.out]; simp, HBA.out⟩
      | true =>
       rw [hv2] at HI2
       have HV2 := Lib.hid hv2
       clear hv2
       go_wp2_with fail
       refine HI1.out.mono ?_
       rintro e w3 ⟨rfl, rfl⟩
       clear HI1
       dsimp only
       go_wp2_with fail
       refine HI2.out.mono ?_
       rintro e w3 ⟨rfl, rfl⟩
       clear HI2 c0 c1 c2 c3 c4 c5
       dsimp only
       go_wp2
       go_roundw
       case rel => exact ⟨k + 1, by go_num, by omega, Lib.hid (fun j y hj hy => by
        rcases Nat.lt_or_ge j k with h | h
        ·exact HR.out j y h hy
        ·obtain rfl : j = k := by omega
         rw [HP.out] at hy
         cases hy
         unfold edgeB
         rw [HV1.out, HV2.out]
         rfl), HBA, HXA⟩
       case measure => simp [intOf]; omega
    ·obtain rfl : k = N.edges.length := by omega
     have hdl : ¬ ((N.edges.length : Int) < (N.edges.length : Int)) := by omega
     have HEE := Lib.hid (all_yes (f := edgeB N.states) HR.out)
     have HC := Lib.hid (hasacc_go A3 k3 N.accept wr hal (HN.out.a.below HB.out))
     clear HR hlt hk
     have y4 := HX.out.cell 4
     go_wp2_with fail
     refine HC.out.mono ?_
     rintro e w3 ⟨rfl, rfl⟩
     clear HC y4
     dsimp only
     go_wp2
     go_light
     go_ret
     exact ⟨by rw [HV.out, HLL.out, HEE.out]; exact ret_b (by simp), HB.out⟩
theorem nright_go (N : NfaV) (A1 : Option Addr) (k1 : Nat) (A2 : Option Addr) (k2 : Nat) (A3 : Option Addr) (k3 : Nat) (w : World) (hN : NfaAt w N A1 A2 A3) : Calls Tryz.prog 72 #[.agg (nfA N A1 k1 A2 k2 A3 k3)] w fun e w' => e = .returned (.bool (rightN N)) ∧ Below w.heap.size w w' := by
 rcases Int.lt_or_le 65536 N.states with h | h
 ·exact nright_big N A1 k1 A2 k2 A3 k3 w hN h
 cases h2 : isB N.states N.start with
 | false => exact nright_start N A1 k1 A2 k2 A3 k3 w hN h h2
 | true =>
  by_cases h3 : (N.accept.length : Int) = N.states
  ·exact nright_rows N A1 k1 A2 k2 A3 k3 w hN h h2 h3
  ·exact nright_len N A1 k1 A2 k2 A3 k3 w hN h h2 h3
end Go.Proofs.YtfekpkelmliejaaGreatDoor
