/-
  The walk of MirrorNfa.
-/
import Derived.Test.YtffkppoidollnaaGreatDoorQZC01
import Derived.Test.YtffkppoidollnaaGreatDoorQMirP
import Derived.Test.YtffkppoidollnaaGreatDoorQNfaEqR
namespace Go.Proofs.YtffkppoidollnaaGreatDoor
open Go.RowKit
set_option linter.unusedSimpArgs false
set_option linter.unusedVariables false
set_option maxRecDepth 100000

def emptyNfa : NfaV := ⟨0, 0, [], [], []⟩
theorem emptyNfa_at (w : World) : NfaAt w emptyNfa none none none := ⟨fun i p h => by simp [emptyNfa] at h, fun i p h => by simp [emptyNfa] at h, fun i p h => by simp [emptyNfa] at h, by simp [emptyNfa], by simp [emptyNfa], by simp [emptyNfa]⟩
/-- What both make of a machine. -/
def MirOut (R : NfaV) (k : Int) (w : World) (e : Ending) (w' : World) : Prop := ∃ B1 j1 B2 j2 B3 j3, e = .returned (.tuple #[.agg (nfA R B1 j1 B2 j2 B3 j3), .int .i64 k]) ∧ NfaAt w' R B1 B2 B3 ∧ Below w.heap.size w w'
theorem mir_both (N : NfaV) (A1 : Option Addr) (k1 : Nat) (A2 : Option Addr) (k2 : Nat) (A3 : Option Addr) (k3 : Nat) (label : Int) (hl : N.links.length ≤ 1048576) (he : N.edges.length ≤ 1048576) :
    ∃ R k, (∀ w, NfaAt w N A1 A2 A3 → Calls Tryz.prog 10 #[.agg (nfA N A1 k1 A2 k2 A3 k3), .int .i64 label] w (MirOut R k w)) ∧
      (∀ w, NfaAt w N A1 A2 A3 → Calls Tryz.prog 11 #[.agg (nfA N A1 k1 A2 k2 A3 k3), .int .i64 label] w (MirOut R k w)) := by
  cases hk : mirErr N label with
  | some k =>
    exact ⟨emptyNfa, k, fun w hN => (mir_no N A1 k1 A2 k2 A3 k3 label w hN k hk).mono fun e w' ⟨h1, h2⟩ => ⟨none, 0, none, 0, none, 0, h1, emptyNfa_at w', h2⟩,
      fun w hN => (rmir_no N A1 k1 A2 k2 A3 k3 label w hN k hk).mono fun e w' ⟨h1, h2⟩ => ⟨none, 0, none, 0, none, 0, h1, emptyNfa_at w', h2⟩⟩
  | none =>
    obtain ⟨st, s0, L, E, C⟩ := N
    unfold mirErr at hk
    split at hk
    · cases hk
    rename_i hr
    split at hk
    · cases hk
    rename_i h7
    split at hk
    · cases hk
    rename_i hlab
    have hr : rightN ⟨st, s0, L, E, C⟩ = true := by simpa using hr
    have h1 : st ≤ 65536 ∧ isB st s0 = true ∧ (C.length : Int) = st := by
      by_cases h : st ≤ 65536 ∧ isB st s0 = true ∧ (C.length : Int) = st
      · exact h
      · rw [rightN_head (N := ⟨st, s0, L, E, C⟩) h] at hr; cases hr
    obtain ⟨h65, hb, rfl⟩ := h1
    obtain ⟨hs0, hs1⟩ := isB_iff.1 hb
    obtain ⟨start, rfl⟩ := Int.eq_ofNat_of_zero_le hs0
    have h7 : ¬ (C.length : Int) = 65536 := h7
    have hC : C.length ≤ 65535 := by omega
    exact ⟨_, 0, fun w hN => mir_yes start L E C A1 k1 A2 k2 A3 k3 label w hN hr hC (by omega) (by omega) (by omega) hl he,
      fun w hN => rmir_yes start L E C A1 k1 A2 k2 A3 k3 label w hN hr hC (by omega) (by omega) (by omega) hl he⟩
set_option maxHeartbeats 4000000 in
theorem mnfa_go (N : NfaV) (A1 : Option Addr) (k1 : Nat) (A2 : Option Addr) (k2 : Nat) (A3 : Option Addr) (k3 : Nat) (label : Int) (w : World) (hN : NfaAt w N A1 A2 A3) (hl : N.links.length ≤ 1048576) (he : N.edges.length ≤ 1048576)
    (hT : TabAt 1 Lib.deBruijn64tab w) (hw0 : 1 < w.heap.size) :
    Calls Tryz.prog 3 #[.agg (nfA N A1 k1 A2 k2 A3 k3), .int .i64 label] w fun e w' => e = .returned (.bool true) ∧ Below w.heap.size w w' := by
  obtain ⟨R, k, h1, h2⟩ := mir_both N A1 k1 A2 k2 A3 k3 label hl he
  have hb0 : Below w.heap.size w (w.alloc (.cells #[.int .i64 N.states, .int .i64 N.start, .slice A1 N.links.length k1, .slice A2 N.edges.length k2, .slice A3 N.accept.length k3] 26)) := (Below.refl _ _).alloc (Nat.le_refl _) _
  have HB0 := Lib.hid hb0
  have HX0 := Lib.hid (Blk.new w 26 #[.int .i64 N.states, .int .i64 N.start, .slice A1 N.links.length k1, .slice A2 N.edges.length k2, .slice A3 N.accept.length k3])
  have HC := Lib.hid (h1 _ (hN.below hb0))
  have H2 := Lib.hid (fun (w' : World) (hb : Below w.heap.size w w') => h2 w' (hN.below hb))
  have HK := Lib.hid (fun (w' : World) (hb : Below w.heap.size w w') => knows18_go w' (TabAt.below hb hw0 hT) (Nat.lt_of_lt_of_le hw0 hb.size))
  clear h1 h2 hb0 hN hT hw0 hl he
  unfold nfA at HC H2 ⊢
  go_enter Tryz.func3, Tryz.ntmps3
  go_wp2_with fail
  refine HC.out.mono ?_
  rintro e w1 ⟨B1, j1, B2, j2, B3, j3, rfl, hn1, hb1⟩
  have hx1 := HX0.out.below hb1 HX0.out.lt
  have hbx : Below w1.heap.size w1 (w1.alloc (.cells (nfA R B1 j1 B2 j2 B3 j3) 26)) := (Below.refl _ _).alloc (Nat.le_refl _) _
  have HX2 := Lib.hid (hx1.alloc (.cells (nfA R B1 j1 B2 j2 B3 j3) 26))
  have HY2 := Lib.hid (Blk.new w1 26 (nfA R B1 j1 B2 j2 B3 j3))
  have HM2 := Lib.hid (hn1.below hbx)
  have HB2 := Lib.hid ((HB0.out.trans (hb1.mono HB0.out.size)).trans (hbx.mono (by have := HB0.out.size; have := hb1.size; omega)))
  clear hx1 hb1 hbx hn1 HX0 HB0 HC
  have HC := Lib.hid (H2.out _ HB2.out)
  unfold nfA at *
  dsimp only
  go_upto_region 2 with fail
  generalize w1.alloc (.cells #[.int .i64 R.states, .int .i64 R.start, .slice B1 R.links.length j1, .slice B2 R.edges.length j2, .slice B3 R.accept.length j3] 26) = w2 at *
  have x0 := (HX2.out).cell 0
  have x1 := (HX2.out).cell 1
  have x2 := (HX2.out).cell 2
  have x3 := (HX2.out).cell 3
  have x4 := (HX2.out).cell 4
  have hlx := (HX2.out).lt
  simp only [List.getElem?_toArray, List.getElem?_cons_zero, List.getElem?_cons_succ] at x0 x1 x2 x3 x4
  go_wp2_with fail
  refine HC.out.mono ?_
  rintro e w3 ⟨C1, i1, C2, i2, C3, i3, rfl, hn3, hb3⟩
  have hy3 := HY2.out.below hb3 HY2.out.lt
  have hbx : Below w3.heap.size w3 (w3.alloc (.cells (nfA R C1 i1 C2 i2 C3 i3) 26)) := (Below.refl _ _).alloc (Nat.le_refl _) _
  have HX4 := Lib.hid (hy3.alloc (.cells (nfA R C1 i1 C2 i2 C3 i3) 26))
  have HY4 := Lib.hid (Blk.new w3 26 (nfA R C1 i1 C2 i2 C3 i3))
  have HM4 := Lib.hid ((HM2.out.below hb3).below hbx)
  have HN4 := Lib.hid (hn3.below hbx)
  have HB4 := Lib.hid ((HB2.out.trans (hb3.mono HB2.out.size)).trans (hbx.mono (by have := HB2.out.size; have := hb3.size; omega)))
  have HE := Lib.hid (rsame16_go R R B1 j1 B2 j2 B3 j3 C1 i1 C2 i2 C3 i3 _ HM4.out HN4.out)
  rw [sameN_self] at HE
  clear hy3 hb3 hbx hn3 HX2 HY2 HB2 HC H2 x0 x1 x2 x3 x4 hlx
  unfold nfA at *
  dsimp only
  go_upto_region 3 with fail
  generalize hw4 : w3.alloc (.cells #[.int .i64 R.states, .int .i64 R.start, .slice C1 R.links.length i1, .slice C2 R.edges.length i2, .slice C3 R.accept.length i3] 26) = w4 at *
  clear hw4
  have x0 := (HX4.out).cell 0
  have x1 := (HX4.out).cell 1
  have x2 := (HX4.out).cell 2
  have x3 := (HX4.out).cell 3
  have x4 := (HX4.out).cell 4
  have hlx := (HX4.out).lt
  simp only [List.getElem?_toArray, List.getElem?_cons_zero, List.getElem?_cons_succ] at x0 x1 x2 x3 x4
  have y0 := (HY4.out).cell 0
  have y1 := (HY4.out).cell 1
  have y2 := (HY4.out).cell 2
  have y3 := (HY4.out).cell 3
  have y4 := (HY4.out).cell 4
  have hly := (HY4.out).lt
  simp only [List.getElem?_toArray, List.getElem?_cons_zero, List.getElem?_cons_succ] at y0 y1 y2 y3 y4
  go_wp2_with fail
  refine HE.out.mono ?_
  rintro e w5 ⟨rfl, hb5⟩
  have HB5 := Lib.hid (HB4.out.trans (hb5.mono HB4.out.size))
  have HC := Lib.hid (HK.out _ HB5.out)
  clear hb5 HE x0 x1 x2 x3 x4 hlx y0 y1 y2 y3 y4 hly
  dsimp only
  go_wp2_with fail
  refine HC.out.mono ?_
  rintro e w6 ⟨rfl, hb6⟩
  have HB6 := Lib.hid (HB5.out.trans (hb6.mono HB5.out.size))
  clear hb6
  dsimp only
  go_wp2
  go_light
  go_ret
  exact ⟨rfl, HB6.out⟩
end Go.Proofs.YtffkppoidollnaaGreatDoor
