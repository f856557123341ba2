/-
  The walk of NfaWeighs.
-/
import Derived.Test.YtgbpcigfbpghgaaQNfaR
import Derived.Test.YtgbpcigfbpghgaaQNfaO
import Derived.Test.YtgbpcigfbpghgaaQKnows16
import Derived.Test.YtgbpcigfbpghgaaQRRightX
import Derived.Test.YtgbpcigfbpghgaaQSince
namespace Go.Proofs.Ytgbpcigfbpghgaa
open Go.RowKit
set_option linter.unusedSimpArgs false
set_option linter.unusedVariables false
set_option maxRecDepth 100000

theorem wAll_snoc (l : List Nd) (x : Nd) : wAll (l ++ [x]) = wAll l + (x.wgtU + 1) := by simp [wAll]
set_option maxHeartbeats 2000000 in
/-- The reference's Size of chapter 16. -/
theorem rsize16_go (F : Trees) (P : Nat → Prop) (B : Option Addr) (cap : Nat) (w : World) (hl : F.len ≤ 140737488355328) (hs : ∀ z ∈ F.list, z.size ≤ 140737488355328) (hok : ∀ z ∈ F.list, ∀ y ∈ z.nodes, aloneN y = true) (ht : TreesAt w P F B) :
    Calls Try.prog 16 #[.slice B F.len cap] w fun e w' => e = .returned (.int .i64 ((sizeW F.list : Nat) : Int)) ∧ Below w.heap.size w w' := by
  have HT := Lib.hid ht
  have HS := Lib.hid hs
  have HOK := Lib.hid hok
  clear ht hs hok
  go_enter Try.func16, Try.ntmps16
  go_wp2
  go_loopw [3, 4] (fun v i' wr => ∃ k : Nat, i' = .int .i64 (k : Int) ∧ k ≤ F.len ∧ v = .int .i64 ((min topN (1 + wAll (F.list.take k)) : Nat) : Int) ∧ Hid (Below w.heap.size w wr)) (fun _ i' _ => F.len - (intOf i').toNat)
  case atStart => exact ⟨0, rfl, Nat.zero_le _, rfl, Lib.hid (Below.refl _ _)⟩
  case round =>
    obtain ⟨k, rfl, hk, rfl, HB⟩ := hrel
    by_cases hlt : k < F.len
    · obtain ⟨z, hz⟩ : ∃ z, F.list[k]? = some z := ⟨_, List.getElem?_eq_getElem (by rw [Trees.len_list]; exact hlt)⟩
      obtain ⟨b, o, C, capc, rfl, _, _, ⟨c0, c1, c2, c3, c4, c5, c6, c7⟩, hkz⟩ := (HT.out.below HB.out).get hz
      have hdl : (k : Int) < (F.len : Int) := by omega
      have hmem := List.mem_of_getElem? hz
      have HI := Lib.hid (rwgt_go z P C capc wr (HS.out z hmem) (HOK.out z hmem) hkz)
      have HV := Lib.hid (show min topN (1 + wAll (F.list.take (k + 1))) = min topN (min topN (1 + wAll (F.list.take k)) + z.wgt + 1) by
        rw [take_snocF hz, wAll_snoc, z.wgt_U]
        omega)
      have hvle : min topN (1 + wAll (F.list.take k)) ≤ topN := Nat.min_le_left _ _
      have hzl := z.wgt_le
      clear hz hkz hmem
      generalize min topN (1 + wAll (F.list.take k)) = v at *
      generalize z.wgt = fz at *
      unfold ndV at HI
      go_wp2_with fail
      refine HI.out.mono ?_
      rintro e w3 ⟨rfl, hb3⟩
      have HA := Lib.hid (rnum3_new w3 w3.heap.size v fz 1 rfl hvle hzl (by decide))
      have HB3 := Lib.hid (HB.out.trans (hb3.mono HB.out.size))
      clear hb3 HI c0 c1 c2 c3 c4 c5 c6 c7
      dsimp only
      go_wp2_with fail
      refine HA.out.mono ?_
      rintro e w5 ⟨rfl, hb5⟩
      have HB5 := Lib.hid (HB3.out.trans (hb5.mono HB3.out.size))
      rw [← HV.out]
      clear hb5 HA HB3
      dsimp only
      go_wp2
      go_roundw
      case rel => exact ⟨k + 1, by go_num, by omega, rfl, HB5⟩
      case measure => simp [intOf]; omega
    · obtain rfl : k = F.len := by omega
      have hdl : ¬ ((F.len : Int) < (F.len : Int)) := by omega
      have HV := Lib.hid (show min topN (1 + wAll (F.list.take F.len)) = sizeW F.list by rw [← Trees.len_list, List.take_length]; rfl)
      generalize min topN (1 + wAll (F.list.take F.len)) = v at *
      go_wp2
      go_light
      go_ret
      exact ⟨ret_i (by rw [HV.out]), HB.out⟩
theorem nwgt_since {n : Nat} {w0 w : World} {z : Nd} {C : Option Addr} {capc : Nat} (h : (∀ b o, b < n → w.cell? ⟨b, o, none⟩ = w0.cell? ⟨b, o, none⟩) ∧ Since n w0 w) (hr : rightT z = true) (ht : TreesAt w0 (fun b => b < n) z.kids C) :
    Calls Try.prog 13 #[ndV z C capc] w fun e w' => e = .returned (.int .i64 ((z.wgt : Nat) : Int)) ∧ Below w.heap.size w w' :=
  nwgt_go z (fun b => b < n) C capc w (by have := rightT_size hr; omega) (rightT_nums hr) (ht.keep (fun b o hb _ => h.1 b o hb) (fun b hb _ => hb))
theorem okays_of {z : Nd} (hr : rightT z = true) : ∀ y ∈ z.nodes, aloneN y = true := fun y hy => by
  unfold rightT at hr
  rw [Bool.and_eq_true] at hr
  exact List.all_eq_true.1 hr.2 y hy
theorem rwgt_since {n : Nat} {w0 w : World} {z : Nd} {C : Option Addr} {capc : Nat} (h : (∀ b o, b < n → w.cell? ⟨b, o, none⟩ = w0.cell? ⟨b, o, none⟩) ∧ Since n w0 w) (hr : rightT z = true) (ht : TreesAt w0 (fun b => b < n) z.kids C) :
    Calls Try.prog 14 #[ndV z C capc] w fun e w' => e = .returned (.int .i64 ((z.wgt : Nat) : Int)) ∧ Below w.heap.size w w' :=
  rwgt_go z (fun b => b < n) C capc w (by have := rightT_size hr; omega) (okays_of hr) (ht.keep (fun b o hb _ => h.1 b o hb) (fun b hb _ => hb))
set_option maxHeartbeats 4000000 in
theorem weighs_go (F : Trees) (B : Option Addr) (cap : Nat) (w : World) (hl : F.len ≤ 1048576) (hs : ∀ z ∈ F.list, z.size ≤ 140737488355328) (ht : TreesAt w (fun b => b < w.heap.size) F B) :
    Calls Try.prog 4 #[.slice B F.len cap] w fun e w' => e = .returned (.bool true) ∧ Below w.heap.size w w' := by
  have HT := Lib.hid ht
  have HS := Lib.hid hs
  clear ht hs
  go_enter Try.func4, Try.ntmps4
  go_wp2
  go_loopw [3] (fun i' wr => ∃ k : Nat, i' = .int .i64 (k : Int) ∧ k ≤ F.len ∧ Hid (∀ j z, j < k → F.list[j]? = some z → rightT z = true) ∧ Hid (Below w.heap.size w wr)) (fun i' _ => F.len - (intOf i').toNat)
  case atStart => exact ⟨0, rfl, Nat.zero_le _, Lib.hid (fun j z hj => by omega), Lib.hid (Below.refl _ _)⟩
  case round =>
    obtain ⟨k, rfl, hk, HR, HB⟩ := hrel
    by_cases hlt : k < F.len
    · obtain ⟨z, hz⟩ : ∃ z, F.list[k]? = some z := ⟨_, List.getElem?_eq_getElem (by rw [Trees.len_list]; exact hlt)⟩
      obtain ⟨b, o, C, capc, rfl, hbb, _, ⟨c0, c1, c2, c3, c4, c5, c6, c7⟩, hkz⟩ := (HT.out.below HB.out).get hz
      have hdl : (k : Int) < (F.len : Int) := by omega
      have hmem := List.mem_of_getElem? hz
      have hsz := HS.out z hmem
      have HI := Lib.hid (rright_any z _ C capc wr hsz hkz)
      have HZ := Lib.hid (show F.list[k]? = some z ∧ TreesAt wr (fun b => b < w.heap.size) z.kids C from ⟨hz, hkz⟩)
      have hblk := World.block_lt_of_cell? wr _ c0
      clear hz hkz hmem
      unfold ndV at HI
      cases hv : rightT z with
      | false =>
        rw [hv] at HI
        clear hv
        go_wp2_with fail
        refine HI.out.mono ?_
        rintro e w3 ⟨rfl, hb3⟩
        have HB3 := Lib.hid (HB.out.trans (hb3.mono HB.out.size))
        clear hb3 HI c0 c1 c2 c3 c4 c5 c6 c7
        dsimp only
        go_wp2_with fail
        refine (knows16_go _).mono ?_
        rintro e w9 ⟨rfl, hb9⟩
        have HB9 := Lib.hid (HB3.out.trans (hb9.mono HB3.out.size))
        clear hb9
        dsimp only
        go_wp2
        go_light
        go_ret
        exact ⟨rfl, HB9.out⟩
      | true =>
        rw [hv] at HI
        have HV := Lib.hid hv
        clear hv
        go_wp2_with fail
        refine HI.out.mono ?_
        rintro e w3 ⟨rfl, hb3⟩
        have HB3 := Lib.hid (HB.out.trans (hb3.mono HB.out.size))
        have HT3 := Lib.hid ((HZ.out.2.below hb3).weak (Q := fun b => b < w3.heap.size) (fun b _ h => h))
        have d0 := (hb3.cell (p := ⟨b, o + k * 8, none⟩) hblk).trans c0
        have d1 := (hb3.cell (p := ⟨b, o + k * 8 + 1, none⟩) hblk).trans c1
        have d2 := (hb3.cell (p := ⟨b, o + k * 8 + 2, none⟩) hblk).trans c2
        have d3 := (hb3.cell (p := ⟨b, o + k * 8 + 3, none⟩) hblk).trans c3
        have d4 := (hb3.cell (p := ⟨b, o + k * 8 + 4, none⟩) hblk).trans c4
        have d5 := (hb3.cell (p := ⟨b, o + k * 8 + 5, none⟩) hblk).trans c5
        have d6 := (hb3.cell (p := ⟨b, o + k * 8 + 6, none⟩) hblk).trans c6
        have d7 := (hb3.cell (p := ⟨b, o + k * 8 + 7, none⟩) hblk).trans c7
        have hlt3 : b < w3.heap.size := by have : b < wr.heap.size := hblk; have := hb3.size; omega
        clear hb3 HI c0 c1 c2 c3 c4 c5 c6 c7 hblk
        dsimp only
        go_wp2
        have hnn : (((z.wgt : Nat) : Int) != ((z.wgt : Nat) : Int)) = false := by simp
        have HC1 := Lib.hid (fun (w' : World) (h : (∀ b o, b < w3.heap.size → w'.cell? ⟨b, o, none⟩ = w3.cell? ⟨b, o, none⟩) ∧ Since w3.heap.size w3 w') => nwgt_since (capc := capc) h HV.out HT3.out)
        have HC2 := Lib.hid (fun (w' : World) (h : (∀ b o, b < w3.heap.size → w'.cell? ⟨b, o, none⟩ = w3.cell? ⟨b, o, none⟩) ∧ Since w3.heap.size w3 w') => rwgt_since (capc := capc) h HV.out HT3.out)
        unfold ndV at HC1 HC2
        generalize z.wgt = fz at *
        go_region_held3 (fun w' => (∀ b o, b < w3.heap.size → w'.cell? ⟨b, o, none⟩ = w3.cell? ⟨b, o, none⟩) ∧ Since w3.heap.size w3 w') (first | exact since_start (Nat.le_refl _) | exact since_step (by assumption) (by assumption))
          (first | (go_at_call 13; refine (HC1.out _ (by assumption)).mono ?_; rintro e w' ⟨rfl, hb'⟩) | (go_at_call 14; refine (HC2.out _ (by assumption)).mono ?_; rintro e w' ⟨rfl, hb'⟩))
        rename_i hS
        have HB9 := Lib.hid (HB3.out.trans (hS.2.1.mono HB3.out.size))
        clear hS HC1 HC2 d0 d1 d2 d3 d4 d5 d6 d7
        go_wp2
        go_roundw
        case rel => exact ⟨k + 1, by go_num, by omega, Lib.hid (fun j y hj hy => by
          rcases Nat.lt_or_ge j k with h | h
          · exact HR.out j y h hy
          · obtain rfl : j = k := by omega
            rw [HZ.out.1] at hy
            cases hy
            exact HV.out), HB9⟩
        case measure => simp [intOf]; omega
    · obtain rfl : k = F.len := by omega
      have hdl : ¬ ((F.len : Int) < (F.len : Int)) := by omega
      have hra : ∀ z ∈ F.list, rightT z = true := fun z hz => by
        obtain ⟨j, hj, e⟩ := List.getElem_of_mem hz
        exact HR.out j z (by rw [Trees.len_list] at hj; exact hj) (by rw [List.getElem?_eq_getElem hj, e])
      have H1 := Lib.hid (nsize_go F _ B cap wr (by omega) HS.out (fun z hz => rightT_nums (hra z hz)) (HT.out.below HB.out))
      have H2 := Lib.hid (fun (w3 : World) (hb : Below wr.heap.size wr w3) => rsize16_go F _ B cap w3 (by omega) HS.out (fun z hz => okays_of (hra z hz)) ((HT.out.below HB.out).below hb))
      have hee : (((sizeW F.list : Nat) : Int) == ((sizeW F.list : Nat) : Int)) = true := by simp
      clear hra
      generalize sizeW F.list = sz at *
      go_wp2_with fail
      refine H1.out.mono ?_
      rintro e w3 ⟨rfl, hb3⟩
      have H3 := Lib.hid (H2.out w3 hb3)
      have HB3 := Lib.hid (HB.out.trans (hb3.mono HB.out.size))
      clear hb3 H1 H2
      dsimp only
      go_wp2_with fail
      refine H3.out.mono ?_
      rintro e w4 ⟨rfl, hb4⟩
      have HB4 := Lib.hid (HB3.out.trans (hb4.mono HB3.out.size))
      clear hb4 H3
      dsimp only
      go_wp2_with fail
      refine (knows16_go _).mono ?_
      rintro e w9 ⟨rfl, hb9⟩
      have HB9 := Lib.hid (HB4.out.trans (hb9.mono HB4.out.size))
      clear hb9
      dsimp only
      go_wp2
      go_light
      go_ret
      exact ⟨rfl, HB9.out⟩
end Go.Proofs.Ytgbpcigfbpghgaa
