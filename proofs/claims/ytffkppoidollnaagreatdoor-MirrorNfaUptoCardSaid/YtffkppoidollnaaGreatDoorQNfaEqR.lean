/-
  The contract of the reference's Same of chapter 16 at any two machines.
-/
import Derived.Test.YtffkppoidollnaaGreatDoorQNfaEqS
namespace Go.Proofs.YtffkppoidollnaaGreatDoor
open Go.RowKit
set_option linter.unusedSimpArgs false
set_option linter.unusedVariables false
set_option maxRecDepth 100000

theorem sameN_rows {N M : NfaV} (hs : N.states = M.states) (ht : N.start = M.start) : sameN N M = (eqL linkE N.links M.links && (eqL edgeE N.edges M.edges && eqL intE N.accept M.accept)) := by
  unfold sameN
  rw [decide_eq_true hs, decide_eq_true ht]
  rfl
set_option maxHeartbeats 2000000 in
theorem rsame_head0 (N M : NfaV) (A1 : Option Addr) (k1 : Nat) (A2 : Option Addr) (k2 : Nat) (A3 : Option Addr) (k3 : Nat) (B1 : Option Addr) (j1 : Nat) (B2 : Option Addr) (j2 : Nat) (B3 : Option Addr) (j3 : Nat) (w : World) (hN : NfaAt w N A1 A2 A3) (hM : NfaAt w M B1 B2 B3) (hx : N.states ≠ M.states) : Calls Tryz.prog 12 #[.agg (nfA N A1 k1 A2 k2 A3 k3), .agg (nfA M B1 j1 B2 j2 B3 j3)] w fun e w' => e = .returned (.bool (sameN N M)) ∧ Below w.heap.size w w' := by
  have hb2 : Below w.heap.size w ((w.alloc (.cells #[.int .i64 N.states, .int .i64 N.start, .slice A1 N.links.length k1, .slice A2 N.edges.length k2, .slice A3 N.accept.length k3] 26)).alloc (.cells #[.int .i64 M.states, .int .i64 M.start, .slice B1 M.links.length j1, .slice B2 M.edges.length j2, .slice B3 M.accept.length j3] 26)) := ((Below.refl _ _).alloc (Nat.le_refl _) _).alloc (by simp) _
  have HB2 := Lib.hid hb2
  have HX := Lib.hid ((Blk.new w 26 #[.int .i64 N.states, .int .i64 N.start, .slice A1 N.links.length k1, .slice A2 N.edges.length k2, .slice A3 N.accept.length k3]).alloc (.cells #[.int .i64 M.states, .int .i64 M.start, .slice B1 M.links.length j1, .slice B2 M.edges.length j2, .slice B3 M.accept.length j3] 26))
  have HY := Lib.hid (show Blk ((w.alloc (.cells #[.int .i64 N.states, .int .i64 N.start, .slice A1 N.links.length k1, .slice A2 N.edges.length k2, .slice A3 N.accept.length k3] 26)).alloc (.cells #[.int .i64 M.states, .int .i64 M.start, .slice B1 M.links.length j1, .slice B2 M.edges.length j2, .slice B3 M.accept.length j3] 26)) (w.heap.size + 1) 26 #[.int .i64 M.states, .int .i64 M.start, .slice B1 M.links.length j1, .slice B2 M.edges.length j2, .slice B3 M.accept.length j3] from Blk.new_at (by simp))
  have HN := Lib.hid (hN.below hb2)
  have HM := Lib.hid (hM.below hb2)
  clear hb2 hN hM
  unfold nfA at *

  have HV := Lib.hid (show sameN N M = false by unfold sameN; rw [decide_eq_false hx]; rfl)
  have e0 : (N.states != M.states) = true := by rw [bne_iff_ne]; exact hx
  clear hx
  go_enter Tryz.func12, Tryz.ntmps12
  go_wp2
  go_light
  go_ret
  exact ⟨by rw [HV.out]; rfl, HB2.out⟩
set_option maxHeartbeats 2000000 in
theorem rsame_head1 (N M : NfaV) (A1 : Option Addr) (k1 : Nat) (A2 : Option Addr) (k2 : Nat) (A3 : Option Addr) (k3 : Nat) (B1 : Option Addr) (j1 : Nat) (B2 : Option Addr) (j2 : Nat) (B3 : Option Addr) (j3 : Nat) (w : World) (hN : NfaAt w N A1 A2 A3) (hM : NfaAt w M B1 B2 B3) (h0 : N.states = M.states) (hx : N.start ≠ M.start) : Calls Tryz.prog 12 #[.agg (nfA N A1 k1 A2 k2 A3 k3), .agg (nfA M B1 j1 B2 j2 B3 j3)] w fun e w' => e = .returned (.bool (sameN N M)) ∧ Below w.heap.size w w' := by
  have hb2 : Below w.heap.size w ((w.alloc (.cells #[.int .i64 N.states, .int .i64 N.start, .slice A1 N.links.length k1, .slice A2 N.edges.length k2, .slice A3 N.accept.length k3] 26)).alloc (.cells #[.int .i64 M.states, .int .i64 M.start, .slice B1 M.links.length j1, .slice B2 M.edges.length j2, .slice B3 M.accept.length j3] 26)) := ((Below.refl _ _).alloc (Nat.le_refl _) _).alloc (by simp) _
  have HB2 := Lib.hid hb2
  have HX := Lib.hid ((Blk.new w 26 #[.int .i64 N.states, .int .i64 N.start, .slice A1 N.links.length k1, .slice A2 N.edges.length k2, .slice A3 N.accept.length k3]).alloc (.cells #[.int .i64 M.states, .int .i64 M.start, .slice B1 M.links.length j1, .slice B2 M.edges.length j2, .slice B3 M.accept.length j3] 26))
  have HY := Lib.hid (show Blk ((w.alloc (.cells #[.int .i64 N.states, .int .i64 N.start, .slice A1 N.links.length k1, .slice A2 N.edges.length k2, .slice A3 N.accept.length k3] 26)).alloc (.cells #[.int .i64 M.states, .int .i64 M.start, .slice B1 M.links.length j1, .slice B2 M.edges.length j2, .slice B3 M.accept.length j3] 26)) (w.heap.size + 1) 26 #[.int .i64 M.states, .int .i64 M.start, .slice B1 M.links.length j1, .slice B2 M.edges.length j2, .slice B3 M.accept.length j3] from Blk.new_at (by simp))
  have HN := Lib.hid (hN.below hb2)
  have HM := Lib.hid (hM.below hb2)
  clear hb2 hN hM
  unfold nfA at *

  have HV := Lib.hid (show sameN N M = false by unfold sameN; rw [decide_eq_false hx]; simp)
  have e0 : (N.states != M.states) = false := by simp [h0]
  have e1 : (N.start != M.start) = true := by rw [bne_iff_ne]; exact hx
  clear hx h0
  go_enter Tryz.func12, Tryz.ntmps12
  go_wp2
  go_light
  go_ret
  exact ⟨by rw [HV.out]; rfl, HB2.out⟩
set_option maxHeartbeats 2000000 in
theorem rsame_head2 (N M : NfaV) (A1 : Option Addr) (k1 : Nat) (A2 : Option Addr) (k2 : Nat) (A3 : Option Addr) (k3 : Nat) (B1 : Option Addr) (j1 : Nat) (B2 : Option Addr) (j2 : Nat) (B3 : Option Addr) (j3 : Nat) (w : World) (hN : NfaAt w N A1 A2 A3) (hM : NfaAt w M B1 B2 B3) (h0 : N.states = M.states) (h1 : N.start = M.start) (hx : N.links.length ≠ M.links.length) : Calls Tryz.prog 12 #[.agg (nfA N A1 k1 A2 k2 A3 k3), .agg (nfA M B1 j1 B2 j2 B3 j3)] w fun e w' => e = .returned (.bool (sameN N M)) ∧ Below w.heap.size w w' := by
  have hb2 : Below w.heap.size w ((w.alloc (.cells #[.int .i64 N.states, .int .i64 N.start, .slice A1 N.links.length k1, .slice A2 N.edges.length k2, .slice A3 N.accept.length k3] 26)).alloc (.cells #[.int .i64 M.states, .int .i64 M.start, .slice B1 M.links.length j1, .slice B2 M.edges.length j2, .slice B3 M.accept.length j3] 26)) := ((Below.refl _ _).alloc (Nat.le_refl _) _).alloc (by simp) _
  have HB2 := Lib.hid hb2
  have HX := Lib.hid ((Blk.new w 26 #[.int .i64 N.states, .int .i64 N.start, .slice A1 N.links.length k1, .slice A2 N.edges.length k2, .slice A3 N.accept.length k3]).alloc (.cells #[.int .i64 M.states, .int .i64 M.start, .slice B1 M.links.length j1, .slice B2 M.edges.length j2, .slice B3 M.accept.length j3] 26))
  have HY := Lib.hid (show Blk ((w.alloc (.cells #[.int .i64 N.states, .int .i64 N.start, .slice A1 N.links.length k1, .slice A2 N.edges.length k2, .slice A3 N.accept.length k3] 26)).alloc (.cells #[.int .i64 M.states, .int .i64 M.start, .slice B1 M.links.length j1, .slice B2 M.edges.length j2, .slice B3 M.accept.length j3] 26)) (w.heap.size + 1) 26 #[.int .i64 M.states, .int .i64 M.start, .slice B1 M.links.length j1, .slice B2 M.edges.length j2, .slice B3 M.accept.length j3] from Blk.new_at (by simp))
  have HN := Lib.hid (hN.below hb2)
  have HM := Lib.hid (hM.below hb2)
  clear hb2 hN hM
  unfold nfA at *

  have HV := Lib.hid (show sameN N M = false by unfold sameN; rw [eqL_len (f := linkE) hx]; simp)
  have e0 : (N.states != M.states) = false := by simp [h0]
  have e1 : (N.start != M.start) = false := by simp [h1]
  have e2 : ((N.links.length : Int) != (M.links.length : Int)) = true := by rw [bne_iff_ne]; omega
  clear hx h0 h1
  go_enter Tryz.func12, Tryz.ntmps12
  go_wp2
  go_light
  go_ret
  exact ⟨by rw [HV.out]; rfl, HB2.out⟩
set_option maxHeartbeats 2000000 in
theorem rsame_head3 (N M : NfaV) (A1 : Option Addr) (k1 : Nat) (A2 : Option Addr) (k2 : Nat) (A3 : Option Addr) (k3 : Nat) (B1 : Option Addr) (j1 : Nat) (B2 : Option Addr) (j2 : Nat) (B3 : Option Addr) (j3 : Nat) (w : World) (hN : NfaAt w N A1 A2 A3) (hM : NfaAt w M B1 B2 B3) (h0 : N.states = M.states) (h1 : N.start = M.start) (h2 : N.links.length = M.links.length) (hx : N.edges.length ≠ M.edges.length) : Calls Tryz.prog 12 #[.agg (nfA N A1 k1 A2 k2 A3 k3), .agg (nfA M B1 j1 B2 j2 B3 j3)] w fun e w' => e = .returned (.bool (sameN N M)) ∧ Below w.heap.size w w' := by
  have hb2 : Below w.heap.size w ((w.alloc (.cells #[.int .i64 N.states, .int .i64 N.start, .slice A1 N.links.length k1, .slice A2 N.edges.length k2, .slice A3 N.accept.length k3] 26)).alloc (.cells #[.int .i64 M.states, .int .i64 M.start, .slice B1 M.links.length j1, .slice B2 M.edges.length j2, .slice B3 M.accept.length j3] 26)) := ((Below.refl _ _).alloc (Nat.le_refl _) _).alloc (by simp) _
  have HB2 := Lib.hid hb2
  have HX := Lib.hid ((Blk.new w 26 #[.int .i64 N.states, .int .i64 N.start, .slice A1 N.links.length k1, .slice A2 N.edges.length k2, .slice A3 N.accept.length k3]).alloc (.cells #[.int .i64 M.states, .int .i64 M.start, .slice B1 M.links.length j1, .slice B2 M.edges.length j2, .slice B3 M.accept.length j3] 26))
  have HY := Lib.hid (show Blk ((w.alloc (.cells #[.int .i64 N.states, .int .i64 N.start, .slice A1 N.links.length k1, .slice A2 N.edges.length k2, .slice A3 N.accept.length k3] 26)).alloc (.cells #[.int .i64 M.states, .int .i64 M.start, .slice B1 M.links.length j1, .slice B2 M.edges.length j2, .slice B3 M.accept.length j3] 26)) (w.heap.size + 1) 26 #[.int .i64 M.states, .int .i64 M.start, .slice B1 M.links.length j1, .slice B2 M.edges.length j2, .slice B3 M.accept.length j3] from Blk.new_at (by simp))
  have HN := Lib.hid (hN.below hb2)
  have HM := Lib.hid (hM.below hb2)
  clear hb2 hN hM
  unfold nfA at *

  have HV := Lib.hid (show sameN N M = false by unfold sameN; rw [eqL_len (f := edgeE) hx]; simp)
  have e0 : (N.states != M.states) = false := by simp [h0]
  have e1 : (N.start != M.start) = false := by simp [h1]
  have e2 : ((N.links.length : Int) != (M.links.length : Int)) = false := by simp [h2]
  have e3 : ((N.edges.length : Int) != (M.edges.length : Int)) = true := by rw [bne_iff_ne]; omega
  clear hx h0 h1 h2
  go_enter Tryz.func12, Tryz.ntmps12
  go_wp2
  go_light
  go_ret
  exact ⟨by rw [HV.out]; rfl, HB2.out⟩
set_option maxHeartbeats 2000000 in
theorem rsame_head4 (N M : NfaV) (A1 : Option Addr) (k1 : Nat) (A2 : Option Addr) (k2 : Nat) (A3 : Option Addr) (k3 : Nat) (B1 : Option Addr) (j1 : Nat) (B2 : Option Addr) (j2 : Nat) (B3 : Option Addr) (j3 : Nat) (w : World) (hN : NfaAt w N A1 A2 A3) (hM : NfaAt w M B1 B2 B3) (h0 : N.states = M.states) (h1 : N.start = M.start) (h2 : N.links.length = M.links.length) (h3 : N.edges.length = M.edges.length) (hx : N.accept.length ≠ M.accept.length) : Calls Tryz.prog 12 #[.agg (nfA N A1 k1 A2 k2 A3 k3), .agg (nfA M B1 j1 B2 j2 B3 j3)] w fun e w' => e = .returned (.bool (sameN N M)) ∧ Below w.heap.size w w' := by
  have hb2 : Below w.heap.size w ((w.alloc (.cells #[.int .i64 N.states, .int .i64 N.start, .slice A1 N.links.length k1, .slice A2 N.edges.length k2, .slice A3 N.accept.length k3] 26)).alloc (.cells #[.int .i64 M.states, .int .i64 M.start, .slice B1 M.links.length j1, .slice B2 M.edges.length j2, .slice B3 M.accept.length j3] 26)) := ((Below.refl _ _).alloc (Nat.le_refl _) _).alloc (by simp) _
  have HB2 := Lib.hid hb2
  have HX := Lib.hid ((Blk.new w 26 #[.int .i64 N.states, .int .i64 N.start, .slice A1 N.links.length k1, .slice A2 N.edges.length k2, .slice A3 N.accept.length k3]).alloc (.cells #[.int .i64 M.states, .int .i64 M.start, .slice B1 M.links.length j1, .slice B2 M.edges.length j2, .slice B3 M.accept.length j3] 26))
  have HY := Lib.hid (show Blk ((w.alloc (.cells #[.int .i64 N.states, .int .i64 N.start, .slice A1 N.links.length k1, .slice A2 N.edges.length k2, .slice A3 N.accept.length k3] 26)).alloc (.cells #[.int .i64 M.states, .int .i64 M.start, .slice B1 M.links.length j1, .slice B2 M.edges.length j2, .slice B3 M.accept.length j3] 26)) (w.heap.size + 1) 26 #[.int .i64 M.states, .int .i64 M.start, .slice B1 M.links.length j1, .slice B2 M.edges.length j2, .slice B3 M.accept.length j3] from Blk.new_at (by simp))
  have HN := Lib.hid (hN.below hb2)
  have HM := Lib.hid (hM.below hb2)
  clear hb2 hN hM
  unfold nfA at *

  have HV := Lib.hid (show sameN N M = false by unfold sameN; rw [eqL_len (f := intE) hx]; simp)
  have e0 : (N.states != M.states) = false := by simp [h0]
  have e1 : (N.start != M.start) = false := by simp [h1]
  have e2 : ((N.links.length : Int) != (M.links.length : Int)) = false := by simp [h2]
  have e3 : ((N.edges.length : Int) != (M.edges.length : Int)) = false := by simp [h3]
  have e4 : ((N.accept.length : Int) != (M.accept.length : Int)) = true := by rw [bne_iff_ne]; omega
  clear hx h0 h1 h2 h3
  go_enter Tryz.func12, Tryz.ntmps12
  go_wp2
  go_light
  go_ret
  exact ⟨by rw [HV.out]; rfl, HB2.out⟩
set_option maxHeartbeats 8000000 in
theorem rsame_rows (N M : NfaV) (A1 : Option Addr) (k1 : Nat) (A2 : Option Addr) (k2 : Nat) (A3 : Option Addr) (k3 : Nat) (B1 : Option Addr) (j1 : Nat) (B2 : Option Addr) (j2 : Nat) (B3 : Option Addr) (j3 : Nat) (w : World) (hN : NfaAt w N A1 A2 A3) (hM : NfaAt w M B1 B2 B3) (h0 : N.states = M.states) (h1 : N.start = M.start) (h2 : N.links.length = M.links.length) (h3 : N.edges.length = M.edges.length) (h4 : N.accept.length = M.accept.length) : Calls Tryz.prog 12 #[.agg (nfA N A1 k1 A2 k2 A3 k3), .agg (nfA M B1 j1 B2 j2 B3 j3)] w fun e w' => e = .returned (.bool (sameN N M)) ∧ Below w.heap.size w w' := by
  have hb2 : Below w.heap.size w ((w.alloc (.cells #[.int .i64 N.states, .int .i64 N.start, .slice A1 N.links.length k1, .slice A2 N.edges.length k2, .slice A3 N.accept.length k3] 26)).alloc (.cells #[.int .i64 M.states, .int .i64 M.start, .slice B1 M.links.length j1, .slice B2 M.edges.length j2, .slice B3 M.accept.length j3] 26)) := ((Below.refl _ _).alloc (Nat.le_refl _) _).alloc (by simp) _
  have HB2 := Lib.hid hb2
  have HX := Lib.hid ((Blk.new w 26 #[.int .i64 N.states, .int .i64 N.start, .slice A1 N.links.length k1, .slice A2 N.edges.length k2, .slice A3 N.accept.length k3]).alloc (.cells #[.int .i64 M.states, .int .i64 M.start, .slice B1 M.links.length j1, .slice B2 M.edges.length j2, .slice B3 M.accept.length j3] 26))
  have HY := Lib.hid (show Blk ((w.alloc (.cells #[.int .i64 N.states, .int .i64 N.start, .slice A1 N.links.length k1, .slice A2 N.edges.length k2, .slice A3 N.accept.length k3] 26)).alloc (.cells #[.int .i64 M.states, .int .i64 M.start, .slice B1 M.links.length j1, .slice B2 M.edges.length j2, .slice B3 M.accept.length j3] 26)) (w.heap.size + 1) 26 #[.int .i64 M.states, .int .i64 M.start, .slice B1 M.links.length j1, .slice B2 M.edges.length j2, .slice B3 M.accept.length j3] from Blk.new_at (by simp))
  have HN := Lib.hid (hN.below hb2)
  have HM := Lib.hid (hM.below hb2)
  clear hb2 hN hM
  unfold nfA at *

  have HV := Lib.hid (sameN_rows h0 h1)
  have e0 : (N.states != M.states) = false := by simp [h0]
  have e1 : (N.start != M.start) = false := by simp [h1]
  have e2 : ((N.links.length : Int) != (M.links.length : Int)) = false := by simp [h2]
  have e3 : ((N.edges.length : Int) != (M.edges.length : Int)) = false := by simp [h3]
  have e4 : ((N.accept.length : Int) != (M.accept.length : Int)) = false := by simp [h4]
  have HL0 := Lib.hid h2
  have HL1 := Lib.hid h3
  have HL2 := Lib.hid h4
  have hll := HN.out.ll
  have hel := HN.out.el
  have hal := HN.out.al
  clear h0 h1 h2 h3 h4
  go_enter Tryz.func12, Tryz.ntmps12
  go_wp2
  clear e0 e1 e2 e3 e4
  have HB := HB2
  clear HB2
  go_loopw [5] (fun i wr => ∃ k : Nat, i = .int .i64 (k : Int) ∧ k ≤ N.links.length ∧ Hid (∀ j x y, j < k → N.links[j]? = some x → M.links[j]? = some y → linkE x y = true) ∧ Hid (Below w.heap.size w wr) ∧ Hid (Blk wr w.heap.size 26 #[.int .i64 N.states, .int .i64 N.start, .slice A1 N.links.length k1, .slice A2 N.edges.length k2, .slice A3 N.accept.length k3]) ∧ Hid (Blk wr (w.heap.size + 1) 26 #[.int .i64 M.states, .int .i64 M.start, .slice B1 M.links.length j1, .slice B2 M.edges.length j2, .slice B3 M.accept.length j3]) ∧ Hid (NfaAt wr N A1 A2 A3) ∧ Hid (NfaAt wr M B1 B2 B3)) (fun i _ => N.links.length - (intOf i).toNat)
  case atStart => exact ⟨0, rfl, Nat.zero_le _, Lib.hid (fun j x y hj => by omega), HB, HX, HY, HN, HM⟩
  case round =>
    clear HB HX HY HN HM
    obtain ⟨k, rfl, hk, HE, HB, HX, HY, HN, HM⟩ := hrel
    have x2 := HX.out.cell 2
    have y2 := HY.out.cell 2
    have lx := HX.out.lt
    have ly := HY.out.lt
    by_cases hlt : k < N.links.length
    · obtain ⟨p, hp⟩ : ∃ p, N.links[k]? = some p := ⟨_, List.getElem?_eq_getElem hlt⟩
      have hlt2 : k < M.links.length := by rw [← HL0.out]; exact hlt
      obtain ⟨q, hq⟩ : ∃ q, M.links[k]? = some q := ⟨_, List.getElem?_eq_getElem hlt2⟩
      obtain ⟨b, o, hAb, c0, c1⟩ := HN.out.l k p hp
      obtain ⟨b', o', hBb, d0, d1⟩ := HM.out.l k q hq
      subst hAb
      subst hBb
      have hdl : (k : Int) < (N.links.length : Int) := by omega
      have hdl2 : (k : Int) < (M.links.length : Int) := by omega
      have hb := World.block_lt_of_cell? wr _ c0
      have hb' := World.block_lt_of_cell? wr _ d0
      have HP := Lib.hid (show _ ∧ _ from ⟨hp, hq⟩)
      clear hp hq
      obtain ⟨a0, ha0⟩ : ∃ a : Int, a = p.1 := ⟨_, rfl⟩
      obtain ⟨b0, hb0⟩ : ∃ b : Int, b = q.1 := ⟨_, rfl⟩
      rw [← ha0] at c0
      rw [← hb0] at d0
      have HA0 := Lib.hid ha0
      have HB0 := Lib.hid hb0
      clear ha0 hb0
      obtain ⟨a1, ha1⟩ : ∃ a : Int, a = p.2 := ⟨_, rfl⟩
      obtain ⟨b1, hb1⟩ : ∃ b : Int, b = q.2 := ⟨_, rfl⟩
      rw [← ha1] at c1
      rw [← hb1] at d1
      have HA1 := Lib.hid ha1
      have HB1 := Lib.hid hb1
      clear ha1 hb1
      by_cases h0 : a0 = b0
      · subst h0
        have e0 : (a0 != a0) = false := by simp
        have f0 : (a0 == a0) = true := by simp
        by_cases h1 : a1 = b1
        · subst h1
          have e1 : (a1 != a1) = false := by simp
          have f1 : (a1 == a1) = true := by simp
          have HF := Lib.hid (show linkE p q = true by unfold linkE; rw [← HA0.out, ← HB0.out, ← HA1.out, ← HB1.out]; simp)
          go_wp2
          go_quiet (fail)
          go_wp2
          go_roundw
          case rel => exact ⟨k + 1, by go_num, by omega, Lib.hid (fun j x y hj hx hy => by
            rcases Nat.lt_or_ge j k with h | h
            · exact HE.out j x y h hx hy
            · obtain rfl : j = k := by omega
              rw [HP.out.1] at hx
              rw [HP.out.2] at hy
              cases hx
              cases hy
              exact HF.out), Lib.hid (bel_drewN HB.out _), Lib.hid (HX.out.drewN _), Lib.hid (HY.out.drewN _), Lib.hid (HN.out.below (bel_drewN (Below.refl _ _) _)), Lib.hid (HM.out.below (bel_drewN (Below.refl _ _) _))⟩
          case measure => simp [intOf]; omega
        · have e1 : (a1 != b1) = true := by rw [bne_iff_ne]; exact h1
          have f1 : (a1 == b1) = false := by rw [beq_eq_false_iff_ne]; exact h1
          have HF := Lib.hid (show linkE p q = false by unfold linkE; rw [← HA0.out, ← HB0.out, ← HA1.out, ← HB1.out]; simp [h1])
          have hkeep1 := h1
          go_wp2
          go_quiet (fail)
          go_wp2
          go_light
          go_ret
          exact ⟨by rw [HV.out, eqL_no HP.out.1 HP.out.2 HF.out]; rfl, bel_drewN HB.out _⟩
      · have e0 : (a0 != b0) = true := by rw [bne_iff_ne]; exact h0
        have f0 : (a0 == b0) = false := by rw [beq_eq_false_iff_ne]; exact h0
        have HF := Lib.hid (show linkE p q = false by unfold linkE; rw [← HA0.out, ← HB0.out, ← HA1.out, ← HB1.out]; simp [h0])
        have hkeep0 := h0
        go_wp2
        go_quiet (fail)
        go_wp2
        go_light
        go_ret
        exact ⟨by rw [HV.out, eqL_no HP.out.1 HP.out.2 HF.out]; rfl, bel_drewN HB.out _⟩
    · obtain rfl : k = N.links.length := by omega
      have hdl : ¬ ((N.links.length : Int) < (N.links.length : Int)) := by omega
      have HE0 := Lib.hid (eqL_yes HL0.out HE.out)
      clear HE hlt hk
      go_wp2
      clear x2 y2 hdl lx ly
      go_loopw [6] (fun i wr => ∃ k : Nat, i = .int .i64 (k : Int) ∧ k ≤ N.edges.length ∧ Hid (∀ j x y, j < k → N.edges[j]? = some x → M.edges[j]? = some y → edgeE x y = true) ∧ Hid (Below w.heap.size w wr) ∧ Hid (Blk wr w.heap.size 26 #[.int .i64 N.states, .int .i64 N.start, .slice A1 N.links.length k1, .slice A2 N.edges.length k2, .slice A3 N.accept.length k3]) ∧ Hid (Blk wr (w.heap.size + 1) 26 #[.int .i64 M.states, .int .i64 M.start, .slice B1 M.links.length j1, .slice B2 M.edges.length j2, .slice B3 M.accept.length j3]) ∧ Hid (NfaAt wr N A1 A2 A3) ∧ Hid (NfaAt wr M B1 B2 B3)) (fun i _ => N.edges.length - (intOf i).toNat)
      case atStart => exact ⟨0, rfl, Nat.zero_le _, Lib.hid (fun j x y hj => by omega), HB, HX, HY, HN, HM⟩
      case round =>
        clear HB HX HY HN HM
        obtain ⟨k, rfl, hk, HE, HB, HX, HY, HN, HM⟩ := hrel
        have x3 := HX.out.cell 3
        have y3 := HY.out.cell 3
        have lx := HX.out.lt
        have ly := HY.out.lt
        by_cases hlt : k < N.edges.length
        · obtain ⟨p, hp⟩ : ∃ p, N.edges[k]? = some p := ⟨_, List.getElem?_eq_getElem hlt⟩
          have hlt2 : k < M.edges.length := by rw [← HL1.out]; exact hlt
          obtain ⟨q, hq⟩ : ∃ q, M.edges[k]? = some q := ⟨_, List.getElem?_eq_getElem hlt2⟩
          obtain ⟨b, o, hAb, c0, c1, c2, c3, c4, c5⟩ := HN.out.e k p hp
          obtain ⟨b', o', hBb, d0, d1, d2, d3, d4, d5⟩ := HM.out.e k q hq
          subst hAb
          subst hBb
          have hdl : (k : Int) < (N.edges.length : Int) := by omega
          have hdl2 : (k : Int) < (M.edges.length : Int) := by omega
          have hb := World.block_lt_of_cell? wr _ c0
          have hb' := World.block_lt_of_cell? wr _ d0
          have HP := Lib.hid (show _ ∧ _ from ⟨hp, hq⟩)
          clear hp hq
          obtain ⟨a0, ha0⟩ : ∃ a : Int, a = p.1 := ⟨_, rfl⟩
          obtain ⟨b0, hb0⟩ : ∃ b : Int, b = q.1 := ⟨_, rfl⟩
          rw [← ha0] at c0
          rw [← hb0] at d0
          have HA0 := Lib.hid ha0
          have HB0 := Lib.hid hb0
          clear ha0 hb0
          obtain ⟨a1, ha1⟩ : ∃ a : Int, a = ((word p.2.1.testBit 0 : Nat) : Int) := ⟨_, rfl⟩
          obtain ⟨b1, hb1⟩ : ∃ b : Int, b = ((word q.2.1.testBit 0 : Nat) : Int) := ⟨_, rfl⟩
          rw [← ha1] at c1
          rw [← hb1] at d1
          have HA1 := Lib.hid ha1
          have HB1 := Lib.hid hb1
          clear ha1 hb1
          obtain ⟨a2, ha2⟩ : ∃ a : Int, a = ((word p.2.1.testBit 1 : Nat) : Int) := ⟨_, rfl⟩
          obtain ⟨b2, hb2⟩ : ∃ b : Int, b = ((word q.2.1.testBit 1 : Nat) : Int) := ⟨_, rfl⟩
          rw [← ha2] at c2
          rw [← hb2] at d2
          have HA2 := Lib.hid ha2
          have HB2 := Lib.hid hb2
          clear ha2 hb2
          obtain ⟨a3, ha3⟩ : ∃ a : Int, a = ((word p.2.1.testBit 2 : Nat) : Int) := ⟨_, rfl⟩
          obtain ⟨b3, hb3⟩ : ∃ b : Int, b = ((word q.2.1.testBit 2 : Nat) : Int) := ⟨_, rfl⟩
          rw [← ha3] at c3
          rw [← hb3] at d3
          have HA3 := Lib.hid ha3
          have HB3 := Lib.hid hb3
          clear ha3 hb3
          obtain ⟨a4, ha4⟩ : ∃ a : Int, a = ((word p.2.1.testBit 3 : Nat) : Int) := ⟨_, rfl⟩
          obtain ⟨b4, hb4⟩ : ∃ b : Int, b = ((word q.2.1.testBit 3 : Nat) : Int) := ⟨_, rfl⟩
          rw [← ha4] at c4
          rw [← hb4] at d4
          have HA4 := Lib.hid ha4
          have HB4 := Lib.hid hb4
          clear ha4 hb4
          obtain ⟨a5, ha5⟩ : ∃ a : Int, a = p.2.2 := ⟨_, rfl⟩
          obtain ⟨b5, hb5⟩ : ∃ b : Int, b = q.2.2 := ⟨_, rfl⟩
          rw [← ha5] at c5
          rw [← hb5] at d5
          have HA5 := Lib.hid ha5
          have HB5 := Lib.hid hb5
          clear ha5 hb5
          by_cases h0 : a0 = b0
          · subst h0
            have e0 : (a0 != a0) = false := by simp
            have f0 : (a0 == a0) = true := by simp
            by_cases h1 : a1 = b1
            · subst h1
              have e1 : (a1 != a1) = false := by simp
              have f1 : (a1 == a1) = true := by simp
              by_cases h2 : a2 = b2
              · subst h2
                have e2 : (a2 != a2) = false := by simp
                have f2 : (a2 == a2) = true := by simp
                by_cases h3 : a3 = b3
                · subst h3
                  have e3 : (a3 != a3) = false := by simp
                  have f3 : (a3 == a3) = true := by simp
                  by_cases h4 : a4 = b4
                  · subst h4
                    have e4 : (a4 != a4) = false := by simp
                    have f4 : (a4 == a4) = true := by simp
                    by_cases h5 : a5 = b5
                    · subst h5
                      have e5 : (a5 != a5) = false := by simp
                      have f5 : (a5 == a5) = true := by simp
                      have HF := Lib.hid (show edgeE p q = true by unfold edgeE; rw [← HA0.out, ← HB0.out, ← HA1.out, ← HB1.out, ← HA2.out, ← HB2.out, ← HA3.out, ← HB3.out, ← HA4.out, ← HB4.out, ← HA5.out, ← HB5.out]; simp)
                      go_wp2
                      go_quiet (fail)
                      go_wp2
                      go_roundw
                      case rel => exact ⟨k + 1, by go_num, by omega, Lib.hid (fun j x y hj hx hy => by
                        rcases Nat.lt_or_ge j k with h | h
                        · exact HE.out j x y h hx hy
                        · obtain rfl : j = k := by omega
                          rw [HP.out.1] at hx
                          rw [HP.out.2] at hy
                          cases hx
                          cases hy
                          exact HF.out), Lib.hid (bel_drewN HB.out _), Lib.hid (HX.out.drewN _), Lib.hid (HY.out.drewN _), Lib.hid (HN.out.below (bel_drewN (Below.refl _ _) _)), Lib.hid (HM.out.below (bel_drewN (Below.refl _ _) _))⟩
                      case measure => simp [intOf]; omega
                    · have e5 : (a5 != b5) = true := by rw [bne_iff_ne]; exact h5
                      have f5 : (a5 == b5) = false := by rw [beq_eq_false_iff_ne]; exact h5
                      have HF := Lib.hid (show edgeE p q = false by unfold edgeE; rw [← HA0.out, ← HB0.out, ← HA1.out, ← HB1.out, ← HA2.out, ← HB2.out, ← HA3.out, ← HB3.out, ← HA4.out, ← HB4.out, ← HA5.out, ← HB5.out]; simp [h5])
                      have hkeep5 := h5
                      go_wp2
                      go_quiet (fail)
                      go_wp2
                      go_light
                      go_ret
                      exact ⟨by rw [HV.out, HE0.out, eqL_no HP.out.1 HP.out.2 HF.out]; rfl, bel_drewN HB.out _⟩
                  · have e4 : (a4 != b4) = true := by rw [bne_iff_ne]; exact h4
                    have f4 : (a4 == b4) = false := by rw [beq_eq_false_iff_ne]; exact h4
                    have HF := Lib.hid (show edgeE p q = false by unfold edgeE; rw [← HA0.out, ← HB0.out, ← HA1.out, ← HB1.out, ← HA2.out, ← HB2.out, ← HA3.out, ← HB3.out, ← HA4.out, ← HB4.out, ← HA5.out, ← HB5.out]; simp [h4])
                    have hkeep4 := h4
                    go_wp2
                    go_quiet (fail)
                    go_wp2
                    go_light
                    go_ret
                    exact ⟨by rw [HV.out, HE0.out, eqL_no HP.out.1 HP.out.2 HF.out]; rfl, bel_drewN HB.out _⟩
                · have e3 : (a3 != b3) = true := by rw [bne_iff_ne]; exact h3
                  have f3 : (a3 == b3) = false := by rw [beq_eq_false_iff_ne]; exact h3
                  have HF := Lib.hid (show edgeE p q = false by unfold edgeE; rw [← HA0.out, ← HB0.out, ← HA1.out, ← HB1.out, ← HA2.out, ← HB2.out, ← HA3.out, ← HB3.out, ← HA4.out, ← HB4.out, ← HA5.out, ← HB5.out]; simp [h3])
                  have hkeep3 := h3
                  go_wp2
                  go_quiet (fail)
                  go_wp2
                  go_light
                  go_ret
                  exact ⟨by rw [HV.out, HE0.out, eqL_no HP.out.1 HP.out.2 HF.out]; rfl, bel_drewN HB.out _⟩
              · have e2 : (a2 != b2) = true := by rw [bne_iff_ne]; exact h2
                have f2 : (a2 == b2) = false := by rw [beq_eq_false_iff_ne]; exact h2
                have HF := Lib.hid (show edgeE p q = false by unfold edgeE; rw [← HA0.out, ← HB0.out, ← HA1.out, ← HB1.out, ← HA2.out, ← HB2.out, ← HA3.out, ← HB3.out, ← HA4.out, ← HB4.out, ← HA5.out, ← HB5.out]; simp [h2])
                have hkeep2 := h2
                go_wp2
                go_quiet (fail)
                go_wp2
                go_light
                go_ret
                exact ⟨by rw [HV.out, HE0.out, eqL_no HP.out.1 HP.out.2 HF.out]; rfl, bel_drewN HB.out _⟩
            · have e1 : (a1 != b1) = true := by rw [bne_iff_ne]; exact h1
              have f1 : (a1 == b1) = false := by rw [beq_eq_false_iff_ne]; exact h1
              have HF := Lib.hid (show edgeE p q = false by unfold edgeE; rw [← HA0.out, ← HB0.out, ← HA1.out, ← HB1.out, ← HA2.out, ← HB2.out, ← HA3.out, ← HB3.out, ← HA4.out, ← HB4.out, ← HA5.out, ← HB5.out]; simp [h1])
              have hkeep1 := h1
              go_wp2
              go_quiet (fail)
              go_wp2
              go_light
              go_ret
              exact ⟨by rw [HV.out, HE0.out, eqL_no HP.out.1 HP.out.2 HF.out]; rfl, bel_drewN HB.out _⟩
          · have e0 : (a0 != b0) = true := by rw [bne_iff_ne]; exact h0
            have f0 : (a0 == b0) = false := by rw [beq_eq_false_iff_ne]; exact h0
            have HF := Lib.hid (show edgeE p q = false by unfold edgeE; rw [← HA0.out, ← HB0.out, ← HA1.out, ← HB1.out, ← HA2.out, ← HB2.out, ← HA3.out, ← HB3.out, ← HA4.out, ← HB4.out, ← HA5.out, ← HB5.out]; simp [h0])
            have hkeep0 := h0
            go_wp2
            go_quiet (fail)
            go_wp2
            go_light
            go_ret
            exact ⟨by rw [HV.out, HE0.out, eqL_no HP.out.1 HP.out.2 HF.out]; rfl, bel_drewN HB.out _⟩
        · obtain rfl : k = N.edges.length := by omega
          have hdl : ¬ ((N.edges.length : Int) < (N.edges.length : Int)) := by omega
          have HE1 := Lib.hid (eqL_yes HL1.out HE.out)
          clear HE hlt hk
          go_wp2
          clear x3 y3 hdl lx ly
          go_loopw [7] (fun i wr => ∃ k : Nat, i = .int .i64 (k : Int) ∧ k ≤ N.accept.length ∧ Hid (∀ j x y, j < k → N.accept[j]? = some x → M.accept[j]? = some y → intE x y = true) ∧ Hid (Below w.heap.size w wr) ∧ Hid (Blk wr w.heap.size 26 #[.int .i64 N.states, .int .i64 N.start, .slice A1 N.links.length k1, .slice A2 N.edges.length k2, .slice A3 N.accept.length k3]) ∧ Hid (Blk wr (w.heap.size + 1) 26 #[.int .i64 M.states, .int .i64 M.start, .slice B1 M.links.length j1, .slice B2 M.edges.length j2, .slice B3 M.accept.length j3]) ∧ Hid (NfaAt wr N A1 A2 A3) ∧ Hid (NfaAt wr M B1 B2 B3)) (fun i _ => N.accept.length - (intOf i).toNat)
          case atStart => exact ⟨0, rfl, Nat.zero_le _, Lib.hid (fun j x y hj => by omega), HB, HX, HY, HN, HM⟩
          case round =>
            clear HB HX HY HN HM
            obtain ⟨k, rfl, hk, HE, HB, HX, HY, HN, HM⟩ := hrel
            have x4 := HX.out.cell 4
            have y4 := HY.out.cell 4
            have lx := HX.out.lt
            have ly := HY.out.lt
            by_cases hlt : k < N.accept.length
            · obtain ⟨p, hp⟩ : ∃ p, N.accept[k]? = some p := ⟨_, List.getElem?_eq_getElem hlt⟩
              have hlt2 : k < M.accept.length := by rw [← HL2.out]; exact hlt
              obtain ⟨q, hq⟩ : ∃ q, M.accept[k]? = some q := ⟨_, List.getElem?_eq_getElem hlt2⟩
              obtain ⟨b, o, hAb, c0⟩ := HN.out.a k p hp
              obtain ⟨b', o', hBb, d0⟩ := HM.out.a k q hq
              subst hAb
              subst hBb
              have hdl : (k : Int) < (N.accept.length : Int) := by omega
              have hdl2 : (k : Int) < (M.accept.length : Int) := by omega
              have hb := World.block_lt_of_cell? wr _ c0
              have hb' := World.block_lt_of_cell? wr _ d0
              have HP := Lib.hid (show _ ∧ _ from ⟨hp, hq⟩)
              clear hp hq
              obtain ⟨a0, ha0⟩ : ∃ a : Int, a = p := ⟨_, rfl⟩
              obtain ⟨b0, hb0⟩ : ∃ b : Int, b = q := ⟨_, rfl⟩
              rw [← ha0] at c0
              rw [← hb0] at d0
              have HA0 := Lib.hid ha0
              have HB0 := Lib.hid hb0
              clear ha0 hb0
              by_cases h0 : a0 = b0
              · subst h0
                have e0 : (a0 != a0) = false := by simp
                have f0 : (a0 == a0) = true := by simp
                have HF := Lib.hid (show intE p q = true by unfold intE; rw [← HA0.out, ← HB0.out]; simp)
                go_wp2
                go_quiet (fail)
                go_wp2
                go_roundw
                case rel => exact ⟨k + 1, by go_num, by omega, Lib.hid (fun j x y hj hx hy => by
                  rcases Nat.lt_or_ge j k with h | h
                  · exact HE.out j x y h hx hy
                  · obtain rfl : j = k := by omega
                    rw [HP.out.1] at hx
                    rw [HP.out.2] at hy
                    cases hx
                    cases hy
                    exact HF.out), Lib.hid (bel_drewN HB.out _), Lib.hid (HX.out.drewN _), Lib.hid (HY.out.drewN _), Lib.hid (HN.out.below (bel_drewN (Below.refl _ _) _)), Lib.hid (HM.out.below (bel_drewN (Below.refl _ _) _))⟩
                case measure => simp [intOf]; omega
              · have e0 : (a0 != b0) = true := by rw [bne_iff_ne]; exact h0
                have f0 : (a0 == b0) = false := by rw [beq_eq_false_iff_ne]; exact h0
                have HF := Lib.hid (show intE p q = false by unfold intE; rw [← HA0.out, ← HB0.out]; simp [h0])
                have hkeep0 := h0
                go_wp2
                go_quiet (fail)
                go_wp2
                go_light
                go_ret
                exact ⟨by rw [HV.out, HE0.out, HE1.out, eqL_no HP.out.1 HP.out.2 HF.out]; rfl, bel_drewN HB.out _⟩
            · obtain rfl : k = N.accept.length := by omega
              have hdl : ¬ ((N.accept.length : Int) < (N.accept.length : Int)) := by omega
              have HE2 := Lib.hid (eqL_yes HL2.out HE.out)
              clear HE hlt hk
              go_wp2
              go_light
              go_ret
              exact ⟨by rw [HV.out, HE0.out, HE1.out, HE2.out]; rfl, HB.out⟩
theorem rsame16_go (N M : NfaV) (A1 : Option Addr) (k1 : Nat) (A2 : Option Addr) (k2 : Nat) (A3 : Option Addr) (k3 : Nat) (B1 : Option Addr) (j1 : Nat) (B2 : Option Addr) (j2 : Nat) (B3 : Option Addr) (j3 : Nat) (w : World) (hN : NfaAt w N A1 A2 A3) (hM : NfaAt w M B1 B2 B3) : Calls Tryz.prog 12 #[.agg (nfA N A1 k1 A2 k2 A3 k3), .agg (nfA M B1 j1 B2 j2 B3 j3)] w fun e w' => e = .returned (.bool (sameN N M)) ∧ Below w.heap.size w w' := by
  by_cases h0 : N.states = M.states
  rotate_left
  · exact rsame_head0 N M A1 k1 A2 k2 A3 k3 B1 j1 B2 j2 B3 j3 w hN hM h0
  by_cases h1 : N.start = M.start
  rotate_left
  · exact rsame_head1 N M A1 k1 A2 k2 A3 k3 B1 j1 B2 j2 B3 j3 w hN hM h0 h1
  by_cases h2 : N.links.length = M.links.length
  rotate_left
  · exact rsame_head2 N M A1 k1 A2 k2 A3 k3 B1 j1 B2 j2 B3 j3 w hN hM h0 h1 h2
  by_cases h3 : N.edges.length = M.edges.length
  rotate_left
  · exact rsame_head3 N M A1 k1 A2 k2 A3 k3 B1 j1 B2 j2 B3 j3 w hN hM h0 h1 h2 h3
  by_cases h4 : N.accept.length = M.accept.length
  rotate_left
  · exact rsame_head4 N M A1 k1 A2 k2 A3 k3 B1 j1 B2 j2 B3 j3 w hN hM h0 h1 h2 h3 h4
  exact rsame_rows N M A1 k1 A2 k2 A3 k3 B1 j1 B2 j2 B3 j3 w hN hM h0 h1 h2 h3 h4
end Go.Proofs.YtffkppoidollnaaGreatDoor
