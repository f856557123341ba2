/- Texts of the claim. -/
import Derived.Test.YtfekpkelmliejaaGreatDoorQSpcT
namespace Go.Proofs.YtfekpkelmliejaaGreatDoor
open Go.RowKit Go.Maps
set_option linter.unusedSimpArgs false
set_option linter.unusedVariables false
set_option maxRecDepth 100000
set_option maxHeartbeats 8000000
theorem str_add {a b : List Nat} (h : a.length + b.length ≤ 100000000000) : Op.stringOp .add (strOf a) (strOf b) = pure (.string (strOf (a ++ b))) := by
 unfold Op.stringOp
 dsimp only
 rw [if_neg (by rw [strOf_size, strOf_size]; exact Int.not_lt.2 (Int.le_trans (show (((a.length + b.length : Nat)) : Int) ≤ 100000000000 by omega) (by decide))), strOf_append]
theorem rtext9_go (A : Option Addr) (cap : Nat) (rs : List RuleS) (w : World) (hA : RulesAt w (fun b => b < w.heap.size) rs A) (hF : Fit rs) (hcap : rs.length ≤ cap) :
  Calls Tryz.prog 49 #[.slice A rs.length cap] w fun e w' => e = .returned (txtV (textR rs)) ∧ Below w.heap.size w w' := by
 have HR := Lib.hid (rright9_go A cap rs w hA hF hcap)
 have HA := Lib.hid hA
 have HF := Lib.hid hF
 clear hA hF
 cases hr : rightR rs with
 | false =>
  rw [hr] at HR
  have HV := Lib.hid (textR_wrong hr)
  clear hr
  go_enter Tryz.func49, Tryz.ntmps49
  go_wp2_with fail
  refine HR.out.mono ?_
  rintro e w1 ⟨rfl, hb1⟩
  have HB1 := Lib.hid hb1
  clear HR hb1
  dsimp only
  go_wp2
  go_light
  go_ret2
  exact ⟨by rw [HV.out]; rfl, HB1.out⟩
 | true =>
  rw [hr] at HR
  have HRR := Lib.hid hr
  have hl64 := rightR_few hr
  clear hr
  go_enter Tryz.func49, Tryz.ntmps49
  go_wp2_with fail
  refine HR.out.mono ?_
  rintro e w1 ⟨rfl, hb1⟩
  have HB1 := Lib.hid hb1
  clear HR hb1
  dsimp only
  go_wp2
  go_loopw [4, 5] (fun u i wr => ∃ (k : Nat) (acc : List Nat), i = .int .i64 (k : Int) ∧ u = .string (strOf acc) ∧ k ≤ rs.length ∧ acc.length ≤ k * 65636 ∧ Hid (textGo9 [] (rs.take k) = some acc) ∧ Hid (Below w.heap.size w wr)) (fun _ i _ => rs.length - (intOf i).toNat)
  case atStart => exact ⟨0, [], rfl, rfl, Nat.zero_le _, Nat.zero_le _, Lib.hid rfl, HB1⟩
  case round =>
   obtain ⟨k, acc, rfl, rfl, hk, hacc, HG, HB⟩ := hrel
   by_cases hlt : k < rs.length
   ·obtain ⟨r, hr⟩ : ∃ r, rs[k]? = some r := ⟨_, List.getElem?_eq_getElem hlt⟩
    have hrm := List.mem_of_getElem? hr
    obtain ⟨b, o, B, capb, rfl, _, hbl, _, ⟨c0, c1, c2, c3, c4, c5, c6, c7, c8⟩, ht⟩ := (HA.out.below HB.out).nine hr
    have hdl : (k : Int) < (rs.length : Int) := by omega
    have hkc : (k : Int) ≤ (cap : Int) := by omega
    have HC := Lib.hid (rtext8_go r.body B capb wr (by have := HF.out.size r hrm; omega) (ht.weak (fun b hb hl => hl)))
    have HGT := Lib.hid (textGo9_take hr HG.out)
    have HNl := Lib.hid (rightR_get HRR.out hr)
    have HR3 := Lib.hid hr
    clear hr hrm ht
    unfold ndV at HC
    cases hst : showT r.body with
    | error q =>
     rw [hst] at HC HGT
     have hq := showT_bad hst
     have hq2 : (q != 0) = true := by simpa using hq
     have HV := Lib.hid (textR_none HRR.out (textGo9_none (k := k + 1) HGT.out))
     clear hst hq
     unfold txtV at HC
     go_wp2_with fail
     refine HC.out.mono ?_
     rintro e w3 ⟨rfl, hb3⟩
     have HB3 := Lib.hid (HB.out.trans (hb3.mono HB.out.size))
     clear hb3 HC c0 c1 c2 c3 c4 c5 c6 c7 c8
     dsimp only
     go_wp2
     go_light
     go_ret2
     exact ⟨by rw [HV.out]; rfl, HB3.out⟩
    | ok t =>
     rw [hst] at HC HGT
     obtain ⟨ht256, htl⟩ := showT_bytes hst
     clear hst ht256
     unfold txtV at HC
     go_wp2_with fail
     refine HC.out.mono ?_
     rintro e w3 ⟨rfl, hb3⟩
     have HB3 := Lib.hid (HB.out.trans (hb3.mono HB.out.size))
     clear c0 c1 c2 c3 c4 c5 c6 c7 c8
     obtain ⟨b', o', B', capb', hbb, _, hbl', _, ⟨c0, _, _, _, _, _, _, _, _⟩, _⟩ := (HA.out.below HB3.out).nine HR3.out
     obtain ⟨rfl, rfl⟩ : b = b' ∧ o = o' := by
      have := Option.some.inj hbb
      injection this with h1 h2 h3
      exact ⟨h1, h2⟩
     have hn32 : r.name.length ≤ 32 := nameB_le HNl.out.1
     have hlen : (acc ++ lineT r.name t).length = acc.length + (r.name.length + t.length + 2) := by unfold lineT; simp; omega
     clear hb3 HC hbb HB
     have e1 := str_add (a := acc) (b := r.name) (by omega)
     have e2 := str_add (a := acc ++ r.name) (b := [58]) (by rw [List.length_append]; simp; omega)
     have e3 := str_add (a := (acc ++ r.name) ++ [58]) (b := t) (by simp; omega)
     have e4 := str_add (a := ((acc ++ r.name) ++ [58]) ++ t) (b := [10]) (by simp; omega)
     have e5 : ((acc ++ r.name ++ [58]) ++ t) ++ [10] = acc ++ lineT r.name t := by unfold lineT; simp
     have e6 : (⟨#[58]⟩ : ByteArray) = strOf [58] := rfl
     rw [e5] at e4
     rw [← e6] at e2
     obtain ⟨s4, hs4⟩ : ∃ s, s = strOf (acc ++ lineT r.name t) := ⟨_, rfl⟩
     rw [← hs4] at e4
     have HS4 := Lib.hid hs4
     clear hs4
     dsimp only
     have r1 : (convert 30 9 (.slice (some ⟨w3.heap.size, 0, none⟩) 1 1)).run Tryz.prog (w3.alloc (.cells #[.int .u8 10] 5)).drew = .ok (.string (strOf [10])) (w3.alloc (.cells #[.int .u8 10] 5)).drew := run_str1 w3.drew 10
     have c0a : (w3.alloc (.cells #[.int .u8 10] 5)).drew.cell? ⟨b, o + k * 9, none⟩ = some (.string (strOf r.name)) := by
      exact (World.cell?_alloc_past (w := w3) _ b (o + k * 9) hbl').trans c0
     have hb4 : Below w3.heap.size w3 (w3.alloc (.cells #[.int .u8 10] 5)).drew := ((Below.refl _ _).alloc (Nat.le_refl _) _).drew
     have HB4 := Lib.hid (HB3.out.trans (hb4.mono HB3.out.size))
     clear hb4 HB3 e5 e6
     go_wp2_with fail
     go_region
     clear r1 c0a e1 e2 e3 e4
     go_wp2
     go_light
     go_roundw
     case rel => exact ⟨k + 1, acc ++ lineT r.name t, by go_num, by rw [strOf_append, strOf_append]; unfold lineT; simp, by omega, by rw [hlen]; omega, HGT, HB4⟩
     case measure => simp [intOf]; omega
   ·have hdl : ¬ (k : Int) < (rs.length : Int) := by omega
    obtain rfl : k = rs.length := by omega
    rw [List.take_of_length_le (Nat.le_refl _)] at HG
    have HV := Lib.hid (textR_some HRR.out HG.out)
    have hsz : (strOf acc).size = acc.length := strOf_size acc
    clear HG HA HF
    by_cases hbig : (65536 : Int) < (acc.length : Int)
    ·rw [if_pos (by omega)] at HV
     go_wp2
     go_light
     go_ret2
     exact ⟨by rw [HV.out]; rfl, HB.out⟩
    ·rw [if_neg (by omega)] at HV
     go_wp2
     go_light
     go_ret2
     exact ⟨by rw [HV.out]; rfl, HB.out⟩
end Go.Proofs.YtfekpkelmliejaaGreatDoor
