/- Texts of the claim. -/
import Derived.Test.YtfekpkelmliejaaGreatDoorJZ03
namespace Go.Proofs.YtfekpkelmliejaaGreatDoor
open Go.RowKit
set_option linter.unusedSimpArgs false
set_option linter.unusedVariables false
set_option maxRecDepth 100000
set_option maxHeartbeats 8000000
theorem rr_few (N : NfaV) (A1 : Option Addr) (k1 : Nat) (A2 : Option Addr) (k2 : Nat) (A3 : Option Addr) (k3 : Nat) (w : World) (hN : NfaAt w N A1 A2 A3) (h : N.states < 1) : Calls Tryz.prog 25 #[.agg (nfA N A1 k1 A2 k2 A3 k3)] w fun e w' => e = .returned (.bool (rightN N)) ∧ Below w.heap.size w w' := by
 have hb1 : Below w.heap.size w (w.alloc (.cells #[.int .i64 N.states, .int .i64 N.start, .slice A1 N.links.length k1, .slice A2 N.edges.length k2, .slice A3 N.accept.length k3] 43)) := (Below.refl _ _).alloc (Nat.le_refl _) _
 have HB := Lib.hid hb1
 have HX := Lib.hid (Blk.new w 43 #[.int .i64 N.states, .int .i64 N.start, .slice A1 N.links.length k1, .slice A2 N.edges.length k2, .slice A3 N.accept.length k3])
 have HN := Lib.hid (hN.below hb1)
 clear hb1 hN
 unfold nfA at *
 have HV := Lib.hid (rightN_head (N := N) (fun ⟨_, b, _⟩ => by have := isB_iff.1 b; omega))
 go_enter Tryz.func25, Tryz.ntmps25
 go_wp2
 go_light
 go_ret
 exact ⟨by rw [HV.out]; rfl, HB.out⟩
theorem rr_big (N : NfaV) (A1 : Option Addr) (k1 : Nat) (A2 : Option Addr) (k2 : Nat) (A3 : Option Addr) (k3 : Nat) (w : World) (hN : NfaAt w N A1 A2 A3) (h : 65536 < N.states) : Calls Tryz.prog 25 #[.agg (nfA N A1 k1 A2 k2 A3 k3)] w fun e w' => e = .returned (.bool (rightN N)) ∧ Below w.heap.size w w' := by
 have hb1 : Below w.heap.size w (w.alloc (.cells #[.int .i64 N.states, .int .i64 N.start, .slice A1 N.links.length k1, .slice A2 N.edges.length k2, .slice A3 N.accept.length k3] 43)) := (Below.refl _ _).alloc (Nat.le_refl _) _
 have HB := Lib.hid hb1
 have HX := Lib.hid (Blk.new w 43 #[.int .i64 N.states, .int .i64 N.start, .slice A1 N.links.length k1, .slice A2 N.edges.length k2, .slice A3 N.accept.length k3])
 have HN := Lib.hid (hN.below hb1)
 clear hb1 hN
 unfold nfA at *
 have HV := Lib.hid (rightN_head (N := N) (fun ⟨a, _, _⟩ => by omega))
 have d1 : decide (N.states < 1) = false := decide_eq_false (by omega)
 go_enter Tryz.func25, Tryz.ntmps25
 go_wp2
 go_light
 go_ret
 exact ⟨by rw [HV.out]; rfl, HB.out⟩
theorem rr_low (N : NfaV) (A1 : Option Addr) (k1 : Nat) (A2 : Option Addr) (k2 : Nat) (A3 : Option Addr) (k3 : Nat) (w : World) (hN : NfaAt w N A1 A2 A3) (h1 : 1 ≤ N.states) (h2 : N.states ≤ 65536) (h : N.start < 0) : Calls Tryz.prog 25 #[.agg (nfA N A1 k1 A2 k2 A3 k3)] w fun e w' => e = .returned (.bool (rightN N)) ∧ Below w.heap.size w w' := by
 have hb1 : Below w.heap.size w (w.alloc (.cells #[.int .i64 N.states, .int .i64 N.start, .slice A1 N.links.length k1, .slice A2 N.edges.length k2, .slice A3 N.accept.length k3] 43)) := (Below.refl _ _).alloc (Nat.le_refl _) _
 have HB := Lib.hid hb1
 have HX := Lib.hid (Blk.new w 43 #[.int .i64 N.states, .int .i64 N.start, .slice A1 N.links.length k1, .slice A2 N.edges.length k2, .slice A3 N.accept.length k3])
 have HN := Lib.hid (hN.below hb1)
 clear hb1 hN
 unfold nfA at *
 have HV := Lib.hid (rightN_head (N := N) (fun ⟨_, b, _⟩ => by have := isB_iff.1 b; omega))
 have d1 : decide (N.states < 1) = false := decide_eq_false (by omega)
 have d2 : decide (65536 < N.states) = false := decide_eq_false (by omega)
 go_enter Tryz.func25, Tryz.ntmps25
 go_wp2
 go_light
 go_ret
 exact ⟨by rw [HV.out]; rfl, HB.out⟩
theorem rr_high (N : NfaV) (A1 : Option Addr) (k1 : Nat) (A2 : Option Addr) (k2 : Nat) (A3 : Option Addr) (k3 : Nat) (w : World) (hN : NfaAt w N A1 A2 A3) (h1 : 1 ≤ N.states) (h2 : N.states ≤ 65536) (h3 : 0 ≤ N.start) (h : N.states ≤ N.start) : Calls Tryz.prog 25 #[.agg (nfA N A1 k1 A2 k2 A3 k3)] w fun e w' => e = .returned (.bool (rightN N)) ∧ Below w.heap.size w w' := by
 have hb1 : Below w.heap.size w (w.alloc (.cells #[.int .i64 N.states, .int .i64 N.start, .slice A1 N.links.length k1, .slice A2 N.edges.length k2, .slice A3 N.accept.length k3] 43)) := (Below.refl _ _).alloc (Nat.le_refl _) _
 have HB := Lib.hid hb1
 have HX := Lib.hid (Blk.new w 43 #[.int .i64 N.states, .int .i64 N.start, .slice A1 N.links.length k1, .slice A2 N.edges.length k2, .slice A3 N.accept.length k3])
 have HN := Lib.hid (hN.below hb1)
 clear hb1 hN
 unfold nfA at *
 have HV := Lib.hid (rightN_head (N := N) (fun ⟨_, b, _⟩ => by have := isB_iff.1 b; omega))
 have d1 : decide (N.states < 1) = false := decide_eq_false (by omega)
 have d2 : decide (65536 < N.states) = false := decide_eq_false (by omega)
 have d3 : decide (N.start < 0) = false := decide_eq_false (by omega)
 go_enter Tryz.func25, Tryz.ntmps25
 go_wp2
 go_light
 go_ret
 exact ⟨by rw [HV.out]; rfl, HB.out⟩
theorem rr_len (N : NfaV) (A1 : Option Addr) (k1 : Nat) (A2 : Option Addr) (k2 : Nat) (A3 : Option Addr) (k3 : Nat) (w : World) (hN : NfaAt w N A1 A2 A3) (h1 : 1 ≤ N.states) (h2 : N.states ≤ 65536) (h3 : 0 ≤ N.start) (h4 : N.start < N.states) (h : (N.accept.length : Int) ≠ N.states) : Calls Tryz.prog 25 #[.agg (nfA N A1 k1 A2 k2 A3 k3)] w fun e w' => e = .returned (.bool (rightN N)) ∧ Below w.heap.size w w' := by
 have hb1 : Below w.heap.size w (w.alloc (.cells #[.int .i64 N.states, .int .i64 N.start, .slice A1 N.links.length k1, .slice A2 N.edges.length k2, .slice A3 N.accept.length k3] 43)) := (Below.refl _ _).alloc (Nat.le_refl _) _
 have HB := Lib.hid hb1
 have HX := Lib.hid (Blk.new w 43 #[.int .i64 N.states, .int .i64 N.start, .slice A1 N.links.length k1, .slice A2 N.edges.length k2, .slice A3 N.accept.length k3])
 have HN := Lib.hid (hN.below hb1)
 clear hb1 hN
 unfold nfA at *
 have HV := Lib.hid (rightN_head (N := N) (fun ⟨_, _, b⟩ => h b))
 have d1 : decide (N.states < 1) = false := decide_eq_false (by omega)
 have d2 : decide (65536 < N.states) = false := decide_eq_false (by omega)
 have d3 : decide (N.start < 0) = false := decide_eq_false (by omega)
 have d4 : decide (N.states ≤ N.start) = false := decide_eq_false (by omega)
 have d5 : ((N.accept.length : Int) != N.states) = true := by rw [bne_iff_ne]; exact h
 clear h
 go_enter Tryz.func25, Tryz.ntmps25
 go_wp2
 go_light
 go_ret
 exact ⟨by rw [HV.out]; rfl, HB.out⟩
theorem rr_rows (N : NfaV) (A1 : Option Addr) (k1 : Nat) (A2 : Option Addr) (k2 : Nat) (A3 : Option Addr) (k3 : Nat) (w : World) (hN : NfaAt w N A1 A2 A3) (h1 : 1 ≤ N.states) (h2 : N.states ≤ 65536) (h3 : 0 ≤ N.start) (h4 : N.start < N.states) (h : (N.accept.length : Int) = N.states) : Calls Tryz.prog 25 #[.agg (nfA N A1 k1 A2 k2 A3 k3)] w fun e w' => e = .returned (.bool (rightN N)) ∧ Below w.heap.size w w' := by
 have hb1 : Below w.heap.size w (w.alloc (.cells #[.int .i64 N.states, .int .i64 N.start, .slice A1 N.links.length k1, .slice A2 N.edges.length k2, .slice A3 N.accept.length k3] 43)) := (Below.refl _ _).alloc (Nat.le_refl _) _
 have HB := Lib.hid hb1
 have HX := Lib.hid (Blk.new w 43 #[.int .i64 N.states, .int .i64 N.start, .slice A1 N.links.length k1, .slice A2 N.edges.length k2, .slice A3 N.accept.length k3])
 have HN := Lib.hid (hN.below hb1)
 clear hb1 hN
 unfold nfA at *
 have HV := Lib.hid (rightN_tail h2 (isB_iff.2 ⟨h3, h4⟩) h)
 have d1 : decide (N.states < 1) = false := decide_eq_false (by omega)
 have d2 : decide (65536 < N.states) = false := decide_eq_false (by omega)
 have d3 : decide (N.start < 0) = false := decide_eq_false (by omega)
 have d4 : decide (N.states ≤ N.start) = false := decide_eq_false (by omega)
 have d5 : ((N.accept.length : Int) != N.states) = false := by rw [bne_eq_false_iff_eq]; exact h
 have hll := HN.out.ll
 have hel := HN.out.el
 have hal := HN.out.al
 clear h
 go_enter Tryz.func25, Tryz.ntmps25
 go_wp2
 clear d1 d2 d3 d4 d5
 go_loopw [3] (fun i' wr => ∃ k : Nat, i' = .int .i64 (k : Int) ∧ k ≤ N.links.length ∧ Hid (∀ j z, j < k → N.links[j]? = some z → linkB N.states z = true) ∧ Hid (Below w.heap.size w wr) ∧ Hid (Blk wr w.heap.size 43 #[.int .i64 N.states, .int .i64 N.start, .slice A1 N.links.length k1, .slice A2 N.edges.length k2, .slice A3 N.accept.length k3]) ∧ Hid (NfaAt wr N A1 A2 A3)) (fun i' _ => N.links.length - (intOf i').toNat)
 case atStart => exact ⟨0, rfl, Nat.zero_le _, Lib.hid (fun j z hj => by omega), HB, HX, HN⟩
 case round =>
  clear HB HX HN
  obtain ⟨k, rfl, hk, HR, HB, HX, HN⟩ := hrel
  have hlx := HX.out.lt
  have x2 := HX.out.cell 2
  have x0 := HX.out.cell 0
  by_cases hlt : k < N.links.length
  ·obtain ⟨p, hp⟩ : ∃ p, N.links[k]? = some p := ⟨_, List.getElem?_eq_getElem hlt⟩
   obtain ⟨b, o, rfl, c0, c1⟩ := HN.out.l k p hp
   have hdl : (k : Int) < (N.links.length : Int) := by omega
   have hblk := World.block_lt_of_cell? wr _ c0
   have hbA : Below wr.heap.size wr (wr.alloc (.cells #[.int .i64 p.1, .int .i64 p.2] 98)) := (Below.refl _ _).alloc (Nat.le_refl _) _
   have HXA := Lib.hid (HX.out.alloc (.cells #[.int .i64 p.1, .int .i64 p.2] 98))
   have HNA := Lib.hid (HN.out.below hbA)
   have HBA := Lib.hid (HB.out.trans (hbA.mono HB.out.size))
   have HP := Lib.hid hp
   clear hp hbA
   rcases Int.lt_or_le p.1 0 with hv1 | hv1
   ·have HI := Lib.hid (isB_no.2 (.inl hv1) : isB N.states p.1 = false)
    have HF := Lib.hid (all_no HP.out (show linkB N.states p = false by unfold linkB; rw [HI.out]; rfl))
    go_wp2
    go_light
    go_ret
    exact ⟨by rw [HV.out, HF.out]; simp, HBA.out⟩
   have d1 : decide (p.1 < 0) = false := decide_eq_false (by omega)
   rcases Int.lt_or_le p.1 N.states with hv2 | hv2
   rotate_left
   ·have HI := Lib.hid (isB_no.2 (.inr hv2) : isB N.states p.1 = false)
    have HF := Lib.hid (all_no HP.out (show linkB N.states p = false by unfold linkB; rw [HI.out]; rfl))
    go_wp2
    go_light
    go_ret
    exact ⟨by rw [HV.out, HF.out]; simp, HBA.out⟩
   have HI1 := Lib.hid (isB_iff.2 ⟨hv1, hv2⟩ : isB N.states p.1 = true)
   have d2 : decide (N.states ≤ p.1) = false := decide_eq_false (by omega)
   rcases Int.lt_or_le p.2 0 with hv3 | hv3
   ·have HI := Lib.hid (isB_no.2 (.inl hv3) : isB N.states p.2 = false)
    have HF := Lib.hid (all_no HP.out (show linkB N.states p = false by unfold linkB; rw [HI.out, Bool.and_false]))
    go_wp2
    go_light
    go_ret
    exact ⟨by rw [HV.out, HF.out]; simp, HBA.out⟩
   have d3 : decide (p.2 < 0) = false := decide_eq_false (by omega)
   rcases Int.lt_or_le p.2 N.states with hv4 | hv4
   rotate_left
   ·have HI := Lib.hid (isB_no.2 (.inr hv4) : isB N.states p.2 = false)
    have HF := Lib.hid (all_no HP.out (show linkB N.states p = false by unfold linkB; rw [HI.out, Bool.and_false]))
    go_wp2
    go_light
    go_ret
    exact ⟨by rw [HV.out, HF.out]; simp, HBA.out⟩
   have HI2 := Lib.hid (isB_iff.2 ⟨hv3, hv4⟩ : isB N.states p.2 = true)
   have d4 : decide (N.states ≤ p.2) = false := decide_eq_false (by omega)
   have HF := Lib.hid (show linkB N.states p = true by unfold linkB; rw [HI1.out, HI2.out]; rfl)
   go_wp2
   go_roundw
   case rel => exact ⟨k + 1, by go_num, by omega, Lib.hid (fun j y hj hy => by
    rcases Nat.lt_or_ge j k with h | h
    ·exact HR.out j y h hy
    ·obtain rfl : j = k := by omega
     rw [HP.out] at hy
     cases hy
     exact HF.out), HBA, HXA, HNA⟩
   case measure => simp [intOf]; omega
  ·obtain rfl : k = N.links.length := by omega
   have hdl : ¬ ((N.links.length : Int) < (N.links.length : Int)) := by omega
   have HLL := Lib.hid (all_yes (f := linkB N.states) HR.out)
   clear HR hlt hk
   go_wp2
   clear x2 x0 hdl hlx
   go_loopw [5] (fun i' wr => ∃ k : Nat, i' = .int .i64 (k : Int) ∧ k ≤ N.edges.length ∧ Hid (∀ j z, j < k → N.edges[j]? = some z → edgeB N.states z = true) ∧ Hid (Below w.heap.size w wr) ∧ Hid (Blk wr w.heap.size 43 #[.int .i64 N.states, .int .i64 N.start, .slice A1 N.links.length k1, .slice A2 N.edges.length k2, .slice A3 N.accept.length k3]) ∧ Hid (NfaAt wr N A1 A2 A3)) (fun i' _ => N.edges.length - (intOf i').toNat)
   case atStart => exact ⟨0, rfl, Nat.zero_le _, Lib.hid (fun j z hj => by omega), HB, HX, HN⟩
   case round =>
    clear HB HX HN
    obtain ⟨k, rfl, hk, HR, HB, HX, HN⟩ := hrel
    have hlx := HX.out.lt
    have x3 := HX.out.cell 3
    have x0 := HX.out.cell 0
    by_cases hlt : k < N.edges.length
    ·obtain ⟨p, hp⟩ : ∃ p, N.edges[k]? = some p := ⟨_, List.getElem?_eq_getElem hlt⟩
     obtain ⟨b, o, rfl, c0, c1, c2, c3, c4, c5⟩ := HN.out.e k p hp
     have hdl : (k : Int) < (N.edges.length : Int) := by omega
     have hblk := World.block_lt_of_cell? wr _ c0
     have hbA : Below wr.heap.size wr (wr.alloc (.cells #[.int .i64 p.1, .int .u64 (word p.2.1.testBit 0), .int .u64 (word p.2.1.testBit 1), .int .u64 (word p.2.1.testBit 2), .int .u64 (word p.2.1.testBit 3), .int .i64 p.2.2] 100)) := (Below.refl _ _).alloc (Nat.le_refl _) _
     have HXA := Lib.hid (HX.out.alloc (.cells #[.int .i64 p.1, .int .u64 (word p.2.1.testBit 0), .int .u64 (word p.2.1.testBit 1), .int .u64 (word p.2.1.testBit 2), .int .u64 (word p.2.1.testBit 3), .int .i64 p.2.2] 100))
     have HNA := Lib.hid (HN.out.below hbA)
     have HBA := Lib.hid (HB.out.trans (hbA.mono HB.out.size))
     have HP := Lib.hid hp
     clear hp hbA
     rcases Int.lt_or_le p.1 0 with hv1 | hv1
     ·have HI := Lib.hid (isB_no.2 (.inl hv1) : isB N.states p.1 = false)
      have HF := Lib.hid (all_no HP.out (show edgeB N.states p = false by unfold edgeB; rw [HI.out]; rfl))
      go_wp2
      go_light
      go_ret
      exact ⟨by rw [HV.out, HF.out]; simp, HBA.out⟩
     have d1 : decide (p.1 < 0) = false := decide_eq_false (by omega)
     rcases Int.lt_or_le p.1 N.states with hv2 | hv2
     rotate_left
     ·have HI := Lib.hid (isB_no.2 (.inr hv2) : isB N.states p.1 = false)
      have HF := Lib.hid (all_no HP.out (show edgeB N.states p = false by unfold edgeB; rw [HI.out]; rfl))
      go_wp2
      go_light
      go_ret
      exact ⟨by rw [HV.out, HF.out]; simp, HBA.out⟩
     have HI1 := Lib.hid (isB_iff.2 ⟨hv1, hv2⟩ : isB N.states p.1 = true)
     have d2 : decide (N.states ≤ p.1) = false := decide_eq_false (by omega)
     rcases Int.lt_or_le p.2.2 0 with hv3 | hv3
     ·have HI := Lib.hid (isB_no.2 (.inl hv3) : isB N.states p.2.2 = false)
      have HF := Lib.hid (all_no HP.out (show edgeB N.states p = false by unfold edgeB; rw [HI.out, Bool.and_false]))
      go_wp2
      go_light
      go_ret
      exact ⟨by rw [HV.out, HF.out]; simp, HBA.out⟩
     have d3 : decide (p.2.2 < 0) = false := decide_eq_false (by omega)
     rcases Int.lt_or_le p.2.2 N.states with hv4 | hv4
     rotate_left
     ·have HI := Lib.hid (isB_no.2 (.inr hv4) : isB N.states p.2.2 = false)
      have HF := Lib.hid (all_no HP.out (show edgeB N.states p = false by unfold edgeB; rw [HI.out, Bool.and_false]))
      go_wp2
      go_light
      go_ret
      exact ⟨by rw [HV.out, HF.out]; simp, HBA.out⟩
     have HI2 := Lib.hid (isB_iff.2 ⟨hv3, hv4⟩ : isB N.states p.2.2 = true)
     have d4 : decide (N.states ≤ p.2.2) = false := decide_eq_false (by omega)
     have HF := Lib.hid (show edgeB N.states p = true by unfold edgeB; rw [HI1.out, HI2.out]; rfl)
     go_wp2
     go_roundw
     case rel => exact ⟨k + 1, by go_num, by omega, Lib.hid (fun j y hj hy => by
      rcases Nat.lt_or_ge j k with h | h
      ·exact HR.out j y h hy
      ·obtain rfl : j = k := by omega
       rw [HP.out] at hy
       cases hy
       exact HF.out), HBA, HXA, HNA⟩
     case measure => simp [intOf]; omega
    ·obtain rfl : k = N.edges.length := by omega
     have hdl : ¬ ((N.edges.length : Int) < (N.edges.length : Int)) := by omega
     have HEE := Lib.hid (all_yes (f := edgeB N.states) HR.out)
     clear HR hlt hk
     go_wp2
     clear x3 x0 hdl hlx
     go_loopw [7] (fun i' wr => ∃ k : Nat, i' = .int .i64 (k : Int) ∧ k ≤ N.accept.length ∧ Hid (∀ j z, j < k → N.accept[j]? = some z → accB z = true) ∧ Hid (Below w.heap.size w wr) ∧ Hid (Blk wr w.heap.size 43 #[.int .i64 N.states, .int .i64 N.start, .slice A1 N.links.length k1, .slice A2 N.edges.length k2, .slice A3 N.accept.length k3]) ∧ Hid (NfaAt wr N A1 A2 A3)) (fun i' _ => N.accept.length - (intOf i').toNat)
     case atStart => exact ⟨0, rfl, Nat.zero_le _, Lib.hid (fun j z hj => by omega), HB, HX, HN⟩
     case round =>
      clear HB HX HN
      obtain ⟨k, rfl, hk, HR, HB, HX, HN⟩ := hrel
      have hlx := HX.out.lt
      have x4 := HX.out.cell 4
      by_cases hlt : k < N.accept.length
      ·obtain ⟨a, ha⟩ : ∃ a, N.accept[k]? = some a := ⟨_, List.getElem?_eq_getElem hlt⟩
       obtain ⟨b, o, rfl, c0⟩ := HN.out.a k a ha
       have hdl : (k : Int) < (N.accept.length : Int) := by omega
       have hblk := World.block_lt_of_cell? wr _ c0
       have HP := Lib.hid ha
       clear ha
       rcases Int.lt_or_le a 0 with hv1 | hv1
       ·have HF := Lib.hid (all_no HP.out (accB_no.2 (.inl hv1)))
        go_wp2
        go_light
        go_ret
        exact ⟨by rw [HV.out, HF.out]; simp, HB.out⟩
       have d1 : decide (a < 0) = false := decide_eq_false (by omega)
       rcases Int.lt_or_le 64 a with hv2 | hv2
       ·have HF := Lib.hid (all_no HP.out (accB_no.2 (.inr hv2)))
        go_wp2
        go_light
        go_ret
        exact ⟨by rw [HV.out, HF.out]; simp, HB.out⟩
       have d2 : decide (64 < a) = false := decide_eq_false (by omega)
       have HF := Lib.hid (show accB a = true by unfold accB; rw [decide_eq_true hv1, decide_eq_true hv2]; rfl)
       go_wp2
       go_roundw
       case rel => exact ⟨k + 1, by go_num, by omega, Lib.hid (fun j y hj hy => by
        rcases Nat.lt_or_ge j k with h | h
        ·exact HR.out j y h hy
        ·obtain rfl : j = k := by omega
         rw [HP.out] at hy
         cases hy
         exact HF.out), HB, HX, HN⟩
       case measure => simp [intOf]; omega
      ·obtain rfl : k = N.accept.length := by omega
       have hdl : ¬ ((N.accept.length : Int) < (N.accept.length : Int)) := by omega
       have HAA := Lib.hid (all_yes (f := accB) HR.out)
       clear HR hlt hk
       go_wp2
       go_light
       go_ret
       exact ⟨by rw [HV.out, HLL.out, HEE.out, HAA.out]; rfl, HB.out⟩
theorem rright16_go (N : NfaV) (A1 : Option Addr) (k1 : Nat) (A2 : Option Addr) (k2 : Nat) (A3 : Option Addr) (k3 : Nat) (w : World) (hN : NfaAt w N A1 A2 A3) : Calls Tryz.prog 25 #[.agg (nfA N A1 k1 A2 k2 A3 k3)] w fun e w' => e = .returned (.bool (rightN N)) ∧ Below w.heap.size w w' := by
 rcases Int.lt_or_le N.states 1 with h | h1
 ·exact rr_few N A1 k1 A2 k2 A3 k3 w hN h
 rcases Int.lt_or_le 65536 N.states with h | h2
 ·exact rr_big N A1 k1 A2 k2 A3 k3 w hN h
 rcases Int.lt_or_le N.start 0 with h | h3
 ·exact rr_low N A1 k1 A2 k2 A3 k3 w hN h1 h2 h
 rcases Int.lt_or_le N.start N.states with h4 | h
 rotate_left
 ·exact rr_high N A1 k1 A2 k2 A3 k3 w hN h1 h2 h3 h
 by_cases h : (N.accept.length : Int) = N.states
 ·exact rr_rows N A1 k1 A2 k2 A3 k3 w hN h1 h2 h3 h4 h
 ·exact rr_len N A1 k1 A2 k2 A3 k3 w hN h1 h2 h3 h4 h
end Go.Proofs.YtfekpkelmliejaaGreatDoor
