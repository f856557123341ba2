/- Texts of the claim. -/
import Derived.Test.YtofbfafnpdaejaaGreatDoorLMirRn
import Derived.Test.YtofbfafnpdaejaaGreatDoorLMirO
import Derived.Test.YtofbfafnpdaejaaGreatDoorLMirL
import Derived.Test.YtofbfafnpdaejaaGreatDoorLZ05
import Derived.Test.YtofbfafnpdaejaaGreatDoorLZ04
namespace Go.Proofs.YtofbfafnpdaejaaGreatDoor
open Go.RowKit
set_option linter.unusedSimpArgs false
set_option linter.unusedVariables false
set_option maxRecDepth 100000
set_option maxHeartbeats 8000000
theorem mirn_go (N : NfaV) (A1 : Option Addr) (k1 : Nat) (A2 : Option Addr) (k2 : Nat) (A3 : Option Addr) (k3 : Nat) (label : Int) (w : World) (hN : NfaAt w N A1 A2 A3) (hl : N.links.length ≤ 1048576) (he : N.edges.length ≤ 1048576) :
  Calls Tryz.prog 17 #[.agg (nfA N A1 k1 A2 k2 A3 k3), .int .i64 label] w fun e w' => Below w.heap.size w w' ∧ ((∃ k : Int, k ≠ 0 ∧ e = .returned (.tuple #[noNfa, .int .i64 k])) ∨
   (rightN N = true ∧ N.states ≤ 65535 ∧ 1 ≤ label ∧ ∃ B1 j1 B2 j2 B3 j3, e = .returned (.tuple #[.agg (nfA (mirV N label) B1 j1 B2 j2 B3 j3), .int .i64 0]) ∧ NfaAt w' (mirV N label) B1 B2 B3 ∧
    (mirV N label).links.length ≤ j1 ∧ (mirV N label).edges.length ≤ j2 ∧ (mirV N label).accept.length ≤ j3)) := by
 cases hk : mirErr N label with
 | some k =>
  have hk0 : k ≠ 0 := by
   unfold mirErr at hk
   split at hk
   ·cases hk; decide
   split at hk
   ·cases hk; decide
   split at hk
   ·cases hk; decide
   ·cases hk
  exact (mir_no N A1 k1 A2 k2 A3 k3 label w hN k hk).mono fun e w' ⟨h1, h2⟩ => ⟨h2, .inl ⟨k, hk0, h1⟩⟩
 | none =>
  obtain ⟨st, s0, L, E, C⟩ := N
  unfold mirErr at hk
  split at hk
  ·cases hk
  rename_i hr
  split at hk
  ·cases hk
  rename_i h7
  split at hk
  ·cases hk
  rename_i hlab
  have hr : rightN ⟨st, s0, L, E, C⟩ = true := by simpa using hr
  have h1 : st ≤ 65536 ∧ isB st s0 = true ∧ (C.length : Int) = st := by
   by_cases h : st ≤ 65536 ∧ isB st s0 = true ∧ (C.length : Int) = st
   ·exact h
   ·rw [rightN_head (N := ⟨st, s0, L, E, C⟩) h] at hr; cases hr
  obtain ⟨h65, hb, rfl⟩ := h1
  obtain ⟨hs0, hs1⟩ := isB_iff.1 hb
  obtain ⟨start, rfl⟩ := Int.eq_ofNat_of_zero_le hs0
  have h7 : ¬ (C.length : Int) = 65536 := h7
  have hC : C.length ≤ 65535 := by omega
  refine (mir_yes start L E C A1 k1 A2 k2 A3 k3 label w hN hr hC (by omega) (by omega) (by omega) hl he).mono fun e w' ⟨B1, j1, B2, j2, B3, j3, h1, h2, h3, h4, h5, h6⟩ => ⟨h3, .inr ⟨hr, ?_, by omega, B1, j1, B2, j2, B3, j3, h1, h2, h4, h5, h6⟩⟩
  show (C.length : Int) ≤ 65535
  omega
theorem bytes_atM {w w' : World} {A : Option Addr} {bs : List Nat} (h : BytesAt w w.heap.size A bs) (hb : Below w.heap.size w w') : BytesAt w' w'.heap.size A bs := (h.below hb).more hb.size
theorem mirtells_law (N : NfaV) (A1 : Option Addr) (k1 : Nat) (A2 : Option Addr) (k2 : Nat) (A3 : Option Addr) (k3 : Nat) (label : Int) (w : World) (hN : NfaAt w N A1 A2 A3) (hk : N.links.length ≤ k1 ∧ N.edges.length ≤ k2 ∧ N.accept.length ≤ k3) (hll : N.links.length ≤ 1048576) (hel : N.edges.length ≤ 1048576) (A : Option Addr) (cap : Nat) (bs : List Nat) (hA : BytesAt w w.heap.size A bs) (hcap : bs.length ≤ cap) (hT : TabAt 0 Lib.deBruijn64tab w) (hw0 : 0 < w.heap.size) :
  Calls Tryz.prog 4 #[.agg (nfA N A1 k1 A2 k2 A3 k3), .int .i64 label, .slice A bs.length cap] w fun e w' => e = .returned (.bool true) ∧ Below w.heap.size w w' := by
 have hb1 : Below w.heap.size w (w.alloc (.cells #[.int .i64 N.states, .int .i64 N.start, .slice A1 N.links.length k1, .slice A2 N.edges.length k2, .slice A3 N.accept.length k3] 40)) := (Below.refl _ _).alloc (Nat.le_refl _) _
 have HX := Lib.hid (Blk.new w 40 #[.int .i64 N.states, .int .i64 N.start, .slice A1 N.links.length k1, .slice A2 N.edges.length k2, .slice A3 N.accept.length k3])
 have hx := (Blk.new w 40 #[.int .i64 N.states, .int .i64 N.start, .slice A1 N.links.length k1, .slice A2 N.edges.length k2, .slice A3 N.accept.length k3]).c5
 have hlx0 := (Blk.new w 40 #[.int .i64 N.states, .int .i64 N.start, .slice A1 N.links.length k1, .slice A2 N.edges.length k2, .slice A3 N.accept.length k3]).lt
 have HB := Lib.hid hb1
 have HN := Lib.hid (hN.below hb1)
 have HL := Lib.hid (bytes_atM hA hb1)
 have HNf := Lib.hid (mirn_go N A1 k1 A2 k2 A3 k3 label _ (hN.below hb1) hll hel)
 have HT := Lib.hid hT
 clear hN hA hb1 hT
 unfold nfA at *
 go_enter Tryz.func4, Tryz.ntmps4
 go_upto_region 1 with fail
 generalize hg : w.heap.size = gx at *
 generalize w.alloc (.cells #[.int .i64 N.states, .int .i64 N.start, .slice A1 N.links.length k1, .slice A2 N.edges.length k2, .slice A3 N.accept.length k3] 40) = w1 at *
 obtain ⟨x0, x1, x2, x3, x4⟩ := hx
 go_wp2_with fail
 refine HNf.out.mono ?_
 intro e w2 h2
 obtain ⟨hb2, h3⟩ := h2
 have HX2 := Lib.hid (HX.out.below hb2 HX.out.lt)
 have HN2 := Lib.hid (HN.out.below hb2)
 have HL2 := Lib.hid (bytes_atM HL.out hb2)
 have HB2 := Lib.hid (HB.out.trans (hb2.mono (by omega)))
 clear hb2 HNf x0 x1 x2 x3 x4 HX HN HL
 obtain ⟨x0, x1, x2, x3, x4⟩ := HX2.out.c5
 have hlx := HX2.out.lt
 rcases h3 with ⟨k, hk0, rfl⟩ | ⟨hR, h7, hl1, B1, j1, B2, j2, B3, j3, rfl, hM, hj⟩
 ·have hne : decide (k = 0) = false := by rw [decide_eq_false_iff_not]; exact hk0
  have hbA : Below w2.heap.size w2 (w2.alloc (.cells #[.int .i64 0, .int .i64 0, .slice none 0 0, .slice none 0 0, .slice none 0 0] 40)) := (Below.refl _ _).alloc (Nat.le_refl _) _
  have hbw3 : Below gx w (w2.alloc (.cells #[.int .i64 0, .int .i64 0, .slice none 0 0, .slice none 0 0, .slice none 0 0] 40)) := HB2.out.trans (hbA.mono (by have := HB2.out.size; omega))
  clear hbA x0 x1 x2 x3 x4 hlx
  unfold noNfa
  dsimp only
  go_upto_region 2 with fail
  generalize w2.alloc (.cells #[.int .i64 0, .int .i64 0, .slice none 0 0, .slice none 0 0, .slice none 0 0] 40) = w3 at *
  have HKn := Lib.hid (knows18_go w3 (TabAt.below hbw3 hw0 HT.out) (by have := (hbw3).size; omega))
  go_wp2_with fail
  refine HKn.out.mono ?_
  rintro e w9 ⟨rfl, hb9⟩
  have HB9 := Lib.hid ((hbw3).trans (hb9.mono (by have := (hbw3).size; omega)))
  clear hb9 HKn
  dsimp only
  go_wp2
  go_light
  go_ret
  exact ⟨rfl, by rw [hg]; exact HB9.out⟩
 ·have hMr := mir_right (label := label) hR (by omega)
  have hMl := mir_many (label := label) hR hll (by omega)
  have hMe : (mirV N label).edges.length ≤ 9000000 := by
   show (N.edges.map flipE).length ≤ _
   rw [List.length_map]
   omega
  have HLaw := Lib.hid (fun (L R : List Int) (x : Int) (h1 : RunOf N bs L) (h2 : IsLabels N L R) (h3 : TellOf (mirV N label) bs.reverse x) => mir_tells hR hl1 h1 h2 h3)
  generalize mirV N label = M at *
  have hbA : Below w2.heap.size w2 (w2.alloc (.cells (nfA M B1 j1 B2 j2 B3 j3) 40)) := (Below.refl _ _).alloc (Nat.le_refl _) _
  have HB3 := Lib.hid (HB2.out.trans (hbA.mono (by have := HB2.out.size; omega)))
  have HM3 := Lib.hid (hM.below hbA)
  have HY3 := Lib.hid (Blk.new w2 40 (nfA M B1 j1 B2 j2 B3 j3))
  have HX3 := Lib.hid (HX2.out.below hbA HX2.out.lt)
  have HN3 := Lib.hid (HN2.out.below hbA)
  have HL3 := Lib.hid (bytes_atM HL2.out hbA)
  have HRN := Lib.hid hR
  have HRM := Lib.hid hMr
  have hbl : bs.length ≤ 140737488355328 := HL2.out.2.1
  clear x0 x1 x2 x3 x4 hlx hbA hM HX2 HN2 HL2 HB2 hR hMr
  unfold nfA at HY3 HB3 HM3 HX3 HN3 HL3
  dsimp only
  by_cases h40 : 40 < bs.length
  ·have hd : (40 : Int) < (bs.length : Int) := by omega
   go_upto_region 2 with fail
   have hbw3 := HB3.out
   generalize w2.alloc (.cells #[.int .i64 M.states, .int .i64 M.start, .slice B1 M.links.length j1, .slice B2 M.edges.length j2, .slice B3 M.accept.length j3] 40) = w3 at *
   clear HY3 HM3 HX3 HN3 HL3
   have HKn := Lib.hid (knows18_go w3 (TabAt.below hbw3 hw0 HT.out) (by have := (hbw3).size; omega))
   go_wp2_with fail
   refine HKn.out.mono ?_
   rintro e w9 ⟨rfl, hb9⟩
   have HB9 := Lib.hid ((hbw3).trans (hb9.mono (by have := (hbw3).size; omega)))
   clear hb9 HKn
   dsimp only
   go_wp2
   go_light
   go_ret
   exact ⟨rfl, by rw [hg]; exact HB9.out⟩
  ·have hd : decide ((40 : Int) < (bs.length : Int)) = false := by rw [decide_eq_false_iff_not]; omega
   go_upto_region 2 with fail
   generalize w2.alloc (.cells #[.int .i64 M.states, .int .i64 M.start, .slice B1 M.links.length j1, .slice B2 M.edges.length j2, .slice B3 M.accept.length j3] 40) = w3 at *
   generalize w2.heap.size = gy at *
   have HNw := Lib.hid (mnew_go N A1 k1 A2 k2 A3 k3 w3 HN3.out hk.1 hk.2.1 hk.2.2 (by omega) (by omega) (TabAt.below HB3.out hw0 HT.out) (by have := HB3.out.size; omega))
   unfold nfA at HNw
   obtain ⟨x0, x1, x2, x3, x4⟩ := HX3.out.c5
   have hlx := HX3.out.lt
   go_wp2_with fail
   refine HNw.out.mono ?_
   intro e w4 h4
   obtain ⟨hb4, h4⟩ := h4
   rcases h4 with ⟨hno, _⟩ | ⟨_, g, lm, em, A4, k4, rfl, hWk⟩
   ·rw [HRN.out] at hno
    cases hno
   have HWa := Lib.hid hWk
   have HB4 := Lib.hid (HB3.out.trans (hb4.mono (by have := HB3.out.size; omega)))
   have HY4 := Lib.hid (HY3.out.below hb4 HY3.out.lt)
   have HM4 := Lib.hid (HM3.out.below hb4)
   have HL4 := Lib.hid (bytes_atM HL3.out hb4)
   clear x0 x1 x2 x3 x4 hlx HNw hb4 hWk HX3 HN3 HL3 HB3 HY3 HM3
   dsimp only
   go_upto_region 5 with fail
   have HNw := Lib.hid (mnew_go M B1 j1 B2 j2 B3 j3 w4 HM4.out hj.1 hj.2.1 hj.2.2 hMl hMe (TabAt.below HB4.out hw0 HT.out) (by have := HB4.out.size; omega))
   unfold nfA at HNw
   obtain ⟨y0, y1, y2, y3, y4⟩ := HY4.out.c5
   have hly := HY4.out.lt
   go_wp2_with fail
   refine HNw.out.mono ?_
   intro e w5 h5
   obtain ⟨hb5, h5⟩ := h5
   rcases h5 with ⟨hno, _⟩ | ⟨_, g', lm', em', A5, k5, rfl, hWk⟩
   ·rw [HRM.out] at hno
    cases hno
   have HWb := Lib.hid hWk
   have HWa5 := Lib.hid (HWa.out.below hb5)
   have HB5 := Lib.hid (HB4.out.trans (hb5.mono (by have := HB4.out.size; omega)))
   have HL5 := Lib.hid (bytes_atM HL4.out hb5)
   clear y0 y1 y2 y3 y4 hly HNw hb5 hWk HY4 HM4 HL4 HB4 HWa
   have HC := Lib.hid (mclos_go HRN.out)
   have HSt := Lib.hid (mstep_go (mclos_go HRN.out))
   have HRu := Lib.hid (mrun_go g lm em N HC.out HSt.out HRN.out A4 k4 w5 HWa5.out A cap bs HL5.out hcap)
   dsimp only
   go_wp2_with fail
   refine HRu.out.mono ?_
   rintro e w6 ⟨L, AL, cL, hL, rfl, hb6, hiL, hcL⟩
   have HPL := Lib.hid hL
   have HLb := Lib.hid (mlabels_go g lm em N A4 k4 w6 (HWa5.out.below hb6) HRN.out AL cL L hiL (by have := runof_len HRN.out hL; omega) hcL)
   have HWb6 := Lib.hid (HWb.out.below hb6)
   have HB6 := Lib.hid (HB5.out.trans (hb6.mono (by have := HB5.out.size; omega)))
   have HL6 := Lib.hid (bytes_atM HL5.out hb6)
   clear HRu hL hb6 hiL HWa5 HWb HB5 HL5
   dsimp only
   go_wp2_with fail
   refine HLb.out.mono ?_
   rintro e w7 ⟨R, AR, cR, hRl, rfl, hb7, hiR, hcR⟩
   have HPR := Lib.hid hRl
   have HHs := Lib.hid (rhas17_go AR cR R label w7 hiR (by have := labels_len HRN.out hRl; omega))
   have HWb7 := Lib.hid (HWb6.out.below hb7)
   have HB7 := Lib.hid (HB6.out.trans (hb7.mono (by have := HB6.out.size; omega)))
   have HL7 := Lib.hid (bytes_atM HL6.out hb7)
   clear HLb hRl hb7 hiR HWb6 HB6 HL6
   dsimp only
   go_wp2_with fail
   refine HHs.out.mono ?_
   rintro e w8 ⟨rfl, rfl⟩
   have HWd := Lib.hid (word18_go A bs cap w7.heap.size w7 HL7.out)
   clear HHs
   dsimp only
   go_wp2_with fail
   refine HWd.out.mono ?_
   rintro e w8 ⟨A9, c9, rfl, hb8, hat, hc9⟩
   rw [List.length_reverse]
   have HCm := Lib.hid (mclos_go HRM.out)
   have HSm := Lib.hid (mstep_go (mclos_go HRM.out))
   have hTl := mtell_go g' lm' em' M HCm.out HSm.out HRM.out A5 k5 w8 (HWb7.out.below hb8) A9 c9 bs.reverse hat (by rw [List.length_reverse]; exact hc9)
   rw [List.length_reverse] at hTl
   have HTl := Lib.hid hTl
   have HB8 := Lib.hid (HB7.out.trans (hb8.mono (by have := HB7.out.size; omega)))
   clear hTl HWd hat hb8 HWb7 HB7 HL7
   dsimp only
   go_wp2_with fail
   refine HTl.out.mono ?_
   rintro e w10 ⟨x, hx, rfl, hb10⟩
   have hbw := HB8.out.trans (hb10.mono (by have := HB8.out.size; omega))
   have hiff := HLaw.out L R x HPL.out HPR.out hx
   have hbb : decide (x = 1) = hasI R label := by
    cases hh : hasI R label with
    | true => exact decide_eq_true (hiff.2 (hasI_iff.1 hh))
    | false =>
     refine decide_eq_false fun hx1 => ?_
     rw [hasI_iff.2 (hiff.1 hx1)] at hh
     cases hh
   clear HTl hb10 HB8 hiff hx HCm HSm HC HSt HPL HPR HLaw
   dsimp only
   generalize hasI R label = hb at *
   have HKn := Lib.hid (knows18_go w10 (TabAt.below hbw hw0 HT.out) (by have := (hbw).size; omega))
   go_wp2_with fail
   refine HKn.out.mono ?_
   rintro e w9 ⟨rfl, hb9⟩
   have HB9 := Lib.hid ((hbw).trans (hb9.mono (by have := (hbw).size; omega)))
   clear hb9 HKn
   dsimp only
   go_wp2
   go_light
   go_ret
   exact ⟨rfl, by rw [hg]; exact HB9.out⟩
end Go.Proofs.YtofbfafnpdaejaaGreatDoor
