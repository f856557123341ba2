/-
  The walk of NfaAsks.
-/
import Derived.Test.YtgbpcigfbpghgaaQZA01
import Derived.Test.YtgbpcigfbpghgaaQNfaRt
import Derived.Test.YtgbpcigfbpghgaaQKnows16
import Derived.Test.YtgbpcigfbpghgaaQSince
namespace Go.Proofs.Ytgbpcigfbpghgaa
open Go.RowKit
set_option linter.unusedSimpArgs false
set_option linter.unusedVariables false
set_option maxRecDepth 100000

theorem right_sinceN {n : Nat} {w0 w : World} {N : NfaV} {A1 A2 A3 : Option Addr} {k1 k2 k3 : Nat} {b : Bool} (hb : rightN N = b) (h : (∀ b o, b < n → w.cell? ⟨b, o, none⟩ = w0.cell? ⟨b, o, none⟩) ∧ Since n w0 w) (hn : w0.heap.size = n) (hA : NfaAt w0 N A1 A2 A3) :
    Calls Try.prog 18 #[.agg #[.int .i64 N.states, .int .i64 N.start, .slice A1 N.links.length k1, .slice A2 N.edges.length k2, .slice A3 N.accept.length k3]] w fun e w' => e = .returned (.bool b) ∧ Below w.heap.size w w' := by
  subst hn hb
  exact nright_go N A1 k1 A2 k2 A3 k3 w (hA.below h.2.1)
theorem rright_sinceN {n : Nat} {w0 w : World} {N : NfaV} {A1 A2 A3 : Option Addr} {k1 k2 k3 : Nat} {b : Bool} (hb : rightN N = b) (h : (∀ b o, b < n → w.cell? ⟨b, o, none⟩ = w0.cell? ⟨b, o, none⟩) ∧ Since n w0 w) (hn : w0.heap.size = n) (hA : NfaAt w0 N A1 A2 A3) :
    Calls Try.prog 19 #[.agg #[.int .i64 N.states, .int .i64 N.start, .slice A1 N.links.length k1, .slice A2 N.edges.length k2, .slice A3 N.accept.length k3]] w fun e w' => e = .returned (.bool b) ∧ Below w.heap.size w w' := by
  subst hn hb
  exact rright16_go N A1 k1 A2 k2 A3 k3 w (hA.below h.2.1)
theorem same_sinceN {n : Nat} {w0 w : World} {N M : NfaV} {A1 A2 A3 B1 B2 B3 : Option Addr} {k1 k2 k3 j1 j2 j3 : Nat} {b : Bool} (hb : sameN N M = b) (h : (∀ b o, b < n → w.cell? ⟨b, o, none⟩ = w0.cell? ⟨b, o, none⟩) ∧ Since n w0 w) (hn : w0.heap.size = n) (hA : NfaAt w0 N A1 A2 A3) (hB : NfaAt w0 M B1 B2 B3) :
    Calls Try.prog 20 #[.agg #[.int .i64 N.states, .int .i64 N.start, .slice A1 N.links.length k1, .slice A2 N.edges.length k2, .slice A3 N.accept.length k3], .agg #[.int .i64 M.states, .int .i64 M.start, .slice B1 M.links.length j1, .slice B2 M.edges.length j2, .slice B3 M.accept.length j3]] w fun e w' => e = .returned (.bool b) ∧ Below w.heap.size w w' := by
  subst hn hb
  exact nsame16_go N M A1 k1 A2 k2 A3 k3 B1 j1 B2 j2 B3 j3 w (hA.below h.2.1) (hB.below h.2.1)
theorem rsame_sinceN {n : Nat} {w0 w : World} {N M : NfaV} {A1 A2 A3 B1 B2 B3 : Option Addr} {k1 k2 k3 j1 j2 j3 : Nat} {b : Bool} (hb : sameN N M = b) (h : (∀ b o, b < n → w.cell? ⟨b, o, none⟩ = w0.cell? ⟨b, o, none⟩) ∧ Since n w0 w) (hn : w0.heap.size = n) (hA : NfaAt w0 N A1 A2 A3) (hB : NfaAt w0 M B1 B2 B3) :
    Calls Try.prog 21 #[.agg #[.int .i64 N.states, .int .i64 N.start, .slice A1 N.links.length k1, .slice A2 N.edges.length k2, .slice A3 N.accept.length k3], .agg #[.int .i64 M.states, .int .i64 M.start, .slice B1 M.links.length j1, .slice B2 M.edges.length j2, .slice B3 M.accept.length j3]] w fun e w' => e = .returned (.bool b) ∧ Below w.heap.size w w' := by
  subst hn hb
  exact rsame16_go N M A1 k1 A2 k2 A3 k3 B1 j1 B2 j2 B3 j3 w (hA.below h.2.1) (hB.below h.2.1)
set_option maxHeartbeats 8000000 in
theorem asks_b (ra rb sm : Bool) (N M : NfaV) (A1 : Option Addr) (k1 : Nat) (A2 : Option Addr) (k2 : Nat) (A3 : Option Addr) (k3 : Nat) (B1 : Option Addr) (j1 : Nat) (B2 : Option Addr) (j2 : Nat) (B3 : Option Addr) (j3 : Nat) (w : World) (hN : NfaAt w N A1 A2 A3) (hM : NfaAt w M B1 B2 B3)
    (hra : rightN N = ra) (hrb : rightN M = rb) (hsm : sameN N M = sm) :
    Calls Try.prog 6 #[.agg (nfA N A1 k1 A2 k2 A3 k3), .agg (nfA M B1 j1 B2 j2 B3 j3)] w fun e w' => e = .returned (.bool true) ∧ Below w.heap.size w w' := by
  have hb2 : Below w.heap.size w ((w.alloc (.cells #[.int .i64 N.states, .int .i64 N.start, .slice A1 N.links.length k1, .slice A2 N.edges.length k2, .slice A3 N.accept.length k3] 50)).alloc (.cells #[.int .i64 M.states, .int .i64 M.start, .slice B1 M.links.length j1, .slice B2 M.edges.length j2, .slice B3 M.accept.length j3] 50)) := ((Below.refl _ _).alloc (Nat.le_refl _) _).alloc (by simp) _
  have HB2 := Lib.hid hb2
  have HX := Lib.hid ((Blk.new w 50 #[.int .i64 N.states, .int .i64 N.start, .slice A1 N.links.length k1, .slice A2 N.edges.length k2, .slice A3 N.accept.length k3]).alloc (.cells #[.int .i64 M.states, .int .i64 M.start, .slice B1 M.links.length j1, .slice B2 M.edges.length j2, .slice B3 M.accept.length j3] 50))
  have HY := Lib.hid (show Blk ((w.alloc (.cells #[.int .i64 N.states, .int .i64 N.start, .slice A1 N.links.length k1, .slice A2 N.edges.length k2, .slice A3 N.accept.length k3] 50)).alloc (.cells #[.int .i64 M.states, .int .i64 M.start, .slice B1 M.links.length j1, .slice B2 M.edges.length j2, .slice B3 M.accept.length j3] 50)) (w.heap.size + 1) 50 #[.int .i64 M.states, .int .i64 M.start, .slice B1 M.links.length j1, .slice B2 M.edges.length j2, .slice B3 M.accept.length j3] from Blk.new_at (by simp))
  have HN := Lib.hid (hN.below hb2)
  have HM := Lib.hid (hM.below hb2)
  have HRA := Lib.hid hra
  have HRB := Lib.hid hrb
  have HSM := Lib.hid hsm
  clear hb2 hN hM hra hrb hsm
  unfold nfA at *
  have ea : (ra == ra) = true := by cases ra <;> rfl
  have eb : (rb == rb) = true := by cases rb <;> rfl
  have es : (sm == sm) = true := by cases sm <;> rfl
  go_enter Try.func6, Try.ntmps6
  go_upto_region 1 with fail
  have x0 := HX.out.cell 0
  have x1 := HX.out.cell 1
  have x2 := HX.out.cell 2
  have x3 := HX.out.cell 3
  have x4 := HX.out.cell 4
  have y0 := HY.out.cell 0
  have y1 := HY.out.cell 1
  have y2 := HY.out.cell 2
  have y3 := HY.out.cell 3
  have y4 := HY.out.cell 4
  have hz : ((w.alloc (.cells #[.int .i64 N.states, .int .i64 N.start, .slice A1 N.links.length k1, .slice A2 N.edges.length k2, .slice A3 N.accept.length k3] 50)).alloc (.cells #[.int .i64 M.states, .int .i64 M.start, .slice B1 M.links.length j1, .slice B2 M.edges.length j2, .slice B3 M.accept.length j3] 50)).heap.size = w.heap.size + 1 + 1 := by simp
  generalize (w.alloc (.cells #[.int .i64 N.states, .int .i64 N.start, .slice A1 N.links.length k1, .slice A2 N.edges.length k2, .slice A3 N.accept.length k3] 50)).alloc (.cells #[.int .i64 M.states, .int .i64 M.start, .slice B1 M.links.length j1, .slice B2 M.edges.length j2, .slice B3 M.accept.length j3] 50) = w2 at *
  obtain ⟨N2, hN2⟩ : ∃ N2, w2.heap.size = N2 := ⟨_, rfl⟩
  have hl1 : w.heap.size < N2 := by omega
  have hl2 : w.heap.size + 1 < N2 := by omega
  have HN2 := Lib.hid hN2
  clear hN2 hz HX HY
  go_region_held3 (fun w' => (∀ b o, b < N2 → w'.cell? ⟨b, o, none⟩ = w2.cell? ⟨b, o, none⟩) ∧ Since N2 w2 w') (first | exact since_start (Nat.le_of_eq HN2.out.symm) | exact since_step (by assumption) (by assumption))
    (first
      | (go_at_call 18; ((with_reducible refine (right_sinceN HRA.out (by assumption) HN2.out HN.out).mono ?_); rintro e w' ⟨rfl, hb'⟩))
      | (go_at_call 18; ((with_reducible refine (right_sinceN HRB.out (by assumption) HN2.out HM.out).mono ?_); rintro e w' ⟨rfl, hb'⟩))
      | (go_at_call 19; ((with_reducible refine (rright_sinceN HRA.out (by assumption) HN2.out HN.out).mono ?_); rintro e w' ⟨rfl, hb'⟩))
      | (go_at_call 19; ((with_reducible refine (rright_sinceN HRB.out (by assumption) HN2.out HM.out).mono ?_); rintro e w' ⟨rfl, hb'⟩))
      | (go_at_call 20; ((with_reducible refine (same_sinceN HSM.out (by assumption) HN2.out HN.out HM.out).mono ?_); rintro e w' ⟨rfl, hb'⟩))
      | (go_at_call 20; ((with_reducible refine (same_sinceN (sameN_self N) (by assumption) HN2.out HN.out HN.out).mono ?_); rintro e w' ⟨rfl, hb'⟩))
      | (go_at_call 21; ((with_reducible refine (rsame_sinceN HSM.out (by assumption) HN2.out HN.out HM.out).mono ?_); rintro e w' ⟨rfl, hb'⟩))
      | (go_at_call 12; ((with_reducible refine (knows16_go _).mono ?_); rintro e w' ⟨rfl, hb'⟩)))
  rename_i hS
  have HB9 := Lib.hid (HB2.out.trans (hS.2.1.mono (by omega)))
  clear hS
  go_wp2
  go_light
  go_ret
  exact ⟨rfl, HB9.out⟩
end Go.Proofs.Ytgbpcigfbpghgaa
