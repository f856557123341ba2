/- Texts of the claim. -/
import Derived.Test.YtfekpkelmliejaaGreatDoorQZ04
namespace Go.Proofs.YtfekpkelmliejaaGreatDoor
open Go.RowKit Go.Maps
set_option linter.unusedSimpArgs false
set_option linter.unusedVariables false
set_option maxRecDepth 100000
set_option maxHeartbeats 8000000
def StepC (N : NfaV) : Prop := ∀ (g lm em : Nat) (A3 : Option Addr) (k3 : Nat) (w : World), WorkAt w g lm em N A3 k3 → ∀ (A : Option Addr) (cap : Nat) (l : List Int) (b : Nat), IntsAt w A l → l.length ≤ 2097152 → l.length ≤ cap → b < 256 →
 Calls Tryz.prog 31 #[.pointer (some ⟨g, 0, none⟩), .slice A l.length cap, .int .u8 (b : Int)] w (ListV (IsStep N l b) w)
theorem mrun_go (g lm em : Nat) (N : NfaV) (hC : ClosC N) (hS : StepC N) (hR : rightN N = true) (A3 : Option Addr) (k3 : Nat) (w : World) (hA : WorkAt w g lm em N A3 k3) (A : Option Addr) (cap : Nat) (bs : List Nat) (hb : BytesAt w w.heap.size A bs) (hcap : bs.length ≤ cap) :
  Calls Tryz.prog 37 #[.pointer (some ⟨g, 0, none⟩), .slice A bs.length cap] w (ListV (RunOf N bs) w) := by
 have HC := Lib.hid (mstart_go g lm em N hC A3 k3 w hA)
 have HA := Lib.hid hA
 have HY := Lib.hid hb
 have HSt := Lib.hid hS
 have HRt := Lib.hid hR
 have h140 := hb.2.1
 clear hA hb hC hS hR
 go_enter Tryz.func37, Tryz.ntmps37
 go_wp2_with fail
 refine HC.out.mono ?_
 rintro e w2 ⟨R0, A0, c0, hr, rfl, hb2, hi, hc⟩
 have HR0 := Lib.hid (RunOf.nil hr)
 have HB0 := Lib.hid hb2
 have HI0 := Lib.hid hi
 clear hr hb2 hi HC
 dsimp only
 go_wp2
 go_loopw [5, 12] (fun u i wr => ∃ (k : Nat) (L : List Int) (A' : Option Addr) (c : Nat), i = .int .i64 (k : Int) ∧ u = .slice A' L.length c ∧ L.length ≤ c ∧ k ≤ bs.length ∧ Hid (RunOf N (bs.take k) L) ∧ Hid (IntsAt wr A' L) ∧ Hid (Below w.heap.size w wr)) (fun _ i _ => bs.length - (intOf i).toNat)
 case atStart => exact ⟨0, R0, A0, c0, rfl, rfl, hc, Nat.zero_le _, HR0, HI0, HB0⟩
 case round =>
  clear HR0 HI0 HB0
  obtain ⟨k, L, A', c', rfl, rfl, hLc, hk, HL, HI, HW⟩ := hrel
  have hL64 := runof_len HRt.out HL.out
  by_cases hlt : k < bs.length
  ·obtain ⟨c, hcx⟩ : ∃ c, bs[k]? = some c := ⟨_, List.getElem?_eq_getElem hlt⟩
   have hY2 := HY.out.below HW.out
   obtain ⟨b, o, rfl, hbl, hcell⟩ := hY2.2.2 (by omega)
   have hck := hcell k hlt
   have hbk : byteAt bs k = c := by unfold byteAt; rw [List.getD_eq_getElem?_getD, hcx]; rfl
   rw [hbk] at hck
   have hc256 := HY.out.1 c (List.mem_of_getElem? hcx)
   have hdl : (k : Int) < (bs.length : Int) := by omega
   have hdc : (k : Int) < (cap : Int) := by omega
   have HTk := Lib.hid (show bs.take (k + 1) = bs.take k ++ [c] by rw [List.take_add_one, hcx]; rfl)
   have HS1 := Lib.hid (HSt.out g lm em A3 k3 wr (HA.out.below HW.out) A' c' L c HI.out (by omega) hLc hc256)
   clear hY2 hcell hbk hcx
   go_wp2_with fail
   refine HS1.out.mono ?_
   rintro e w4 ⟨R, A4, c4, hst, rfl, hb4, hi4, hc4⟩
   have HL4 := Lib.hid (RunOf.snoc HL.out hst)
   have HI4 := Lib.hid hi4
   have HW4 := Lib.hid (HW.out.trans (hb4.mono HW.out.size))
   clear hst hi4 hb4 HL HI HW HS1 hck
   dsimp only
   go_wp2
   go_light
   go_roundw
   case rel => exact ⟨k + 1, R, A4, c4, by go_num, rfl, hc4, by omega, by rw [HTk.out]; exact HL4, HI4, HW4⟩
   case measure => simp [intOf]; omega
  ·have hdl : ¬ (k : Int) < (bs.length : Int) := by omega
   obtain rfl : k = bs.length := by omega
   rw [List.take_length] at HL
   go_wp2
   go_light
   go_ret
   exact ⟨L, A', c', HL.out, rfl, HW.out, HI.out, hLc⟩
theorem mtell_go (g lm em : Nat) (N : NfaV) (hC : ClosC N) (hS : StepC N) (hR : rightN N = true) (A3 : Option Addr) (k3 : Nat) (w : World) (hA : WorkAt w g lm em N A3 k3) (A : Option Addr) (cap : Nat) (bs : List Nat) (hb : BytesAt w w.heap.size A bs) (hcap : bs.length ≤ cap) :
  Calls Tryz.prog 39 #[.pointer (some ⟨g, 0, none⟩), .slice A bs.length cap] w fun e w' => ∃ x, TellOf N bs x ∧ e = .returned (.int .i64 x) ∧ Below w.heap.size w w' := by
 have HC := Lib.hid (mrun_go g lm em N hC hS hR A3 k3 w hA A cap bs hb hcap)
 have HA := Lib.hid hA
 have HRt := Lib.hid hR
 clear hA hb hC hS hR
 go_enter Tryz.func39, Tryz.ntmps39
 go_wp2_with fail
 refine HC.out.mono ?_
 rintro e w2 ⟨L, A2, c2, hr, rfl, hb2, hi, hc⟩
 have hL64 := runof_len HRt.out hr
 have HM := Lib.hid (mlabels_go g lm em N A3 k3 w2 (HA.out.below hb2) HRt.out A2 c2 L hi (by omega) hc)
 have HB2 := Lib.hid hb2
 have HRu := Lib.hid hr
 clear hr hb2 hi HC
 dsimp only
 go_wp2_with fail
 refine HM.out.mono ?_
 rintro e w5 ⟨R, A5, c5, hlab, rfl, hb5, hi5, hc5⟩
 have hR65 := labels_len HRt.out hlab
 have HT := Lib.hid (show TellOf N bs (R.headD 0) from ⟨L, R, HRu.out, hlab, rfl⟩)
 have HZ := Lib.hid (HB2.out.trans (hb5.mono HB2.out.size))
 have HI5 := Lib.hid hi5
 clear hlab hi5 hb5 HM
 dsimp only
 cases R with
 | nil =>
  go_wp2
  go_light
  go_ret
  exact ⟨0, HT.out, rfl, HZ.out⟩
 | cons x R =>
  obtain ⟨b, o, rfl, hc0⟩ := HI5.out 0 x rfl
  have hne : (((x :: R).length : Int) == 0) = false := by rw [beq_eq_false_iff_ne]; simp only [List.length_cons]; omega
  rw [Nat.add_zero] at hc0
  have hpos : (0 : Int) < ((x :: R).length : Int) := by simp only [List.length_cons]; omega
  generalize (x :: R).length = n5 at *
  have hnk : (0 : Int) < (c5 : Int) := by omega
  go_wp2
  go_light
  go_ret
  exact ⟨x, HT.out, rfl, HZ.out⟩
end Go.Proofs.YtfekpkelmliejaaGreatDoor
