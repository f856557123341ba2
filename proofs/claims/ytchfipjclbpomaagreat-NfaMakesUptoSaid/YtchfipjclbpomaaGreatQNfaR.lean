/-
  The reference's Weight and Size of chapter 16, and the program's Size.
-/
import Derived.Test.YtchfipjclbpomaaGreatQNfaSh
namespace Go.Proofs.YtchfipjclbpomaaGreat
open Go.RowKit
set_option linter.unusedSimpArgs false
set_option linter.unusedVariables false
set_option maxRecDepth 100000

def RWgtC (n : Nat) : Prop := ∀ (x : Nd) (P : Nat → Prop) (B : Option Addr) (cap : Nat) (w : World), x.size ≤ n → x.size ≤ 140737488355328 → (∀ y ∈ x.nodes, aloneN y = true) → TreesAt w P x.kids B →
  Calls Tryz.prog 13 #[ndV x B cap] w fun e w' => e = .returned (.int .i64 ((x.wgt : Nat) : Int)) ∧ Below w.heap.size w w'
theorem rnum_new (w : World) (g a b : Nat) (hg : g = w.heap.size) (ha : a ≤ topN) (hb : b ≤ topN) :
    Calls Tryz.prog 12 #[.int .i64 1099511627776, .slice (some ⟨g, 0, none⟩) 2 2] (w.alloc (.cells #[.int .i64 (a : Int), .int .i64 (b : Int)] 3)) fun e w' => e = .returned (.int .i64 ((min topN (a + b) : Nat) : Int)) ∧ Below w.heap.size w w' :=
  (radd_go (some ⟨g, 0, none⟩) 2 [a, b] _ (nums2 (Blk.new_at hg)) (le2 ha hb) (by simp)).mono fun e w' ⟨he, hb⟩ => ⟨by rw [he]; simp, hb ▸ (Below.refl _ _).alloc (Nat.le_refl _) _⟩
theorem rnum3_new (w : World) (g a b c : Nat) (hg : g = w.heap.size) (ha : a ≤ topN) (hb : b ≤ topN) (hc : c ≤ topN) :
    Calls Tryz.prog 12 #[.int .i64 1099511627776, .slice (some ⟨g, 0, none⟩) 3 3] (w.alloc (.cells #[.int .i64 (a : Int), .int .i64 (b : Int), .int .i64 (c : Int)] 3)) fun e w' => e = .returned (.int .i64 ((min topN (a + b + c) : Nat) : Int)) ∧ Below w.heap.size w w' :=
  (radd_go (some ⟨g, 0, none⟩) 3 [a, b, c] _ (nums3 (Blk.new_at hg)) (le3 ha hb hc) (by simp)).mono fun e w' ⟨he, hb⟩ => ⟨by rw [he]; simp [Nat.add_assoc], hb ▸ (Below.refl _ _).alloc (Nat.le_refl _) _⟩
theorem rmul_new (w : World) (g a b : Nat) (hg : g = w.heap.size) (ha : a ≤ topN) (hb : b ≤ topN) :
    Calls Tryz.prog 26 #[.int .i64 1099511627776, .slice (some ⟨g, 0, none⟩) 2 2] (w.alloc (.cells #[.int .i64 (a : Int), .int .i64 (b : Int)] 3)) fun e w' => e = .returned (.int .i64 ((min topN (a * b) : Nat) : Int)) ∧ Below w.heap.size w w' :=
  (rmul_go (some ⟨g, 0, none⟩) 2 a b _ (nums2 (Blk.new_at hg)) ha hb).mono fun e w' ⟨he, hb⟩ => ⟨he, hb ▸ (Below.refl _ _).alloc (Nat.le_refl _) _⟩
set_option maxHeartbeats 4000000 in
theorem rwgt_step {n : Nat} (ih : RWgtC n) : RWgtC (n + 1) := by
  intro x P B cap w hsz hlen hok ht
  have hlk : x.kids.len ≤ 140737488355328 := by have := Trees.len_size x.kids; unfold Nd.size at hlen; omega
  have hks : x.kids.size + 1 = x.size := by unfold Nd.size; omega
  have hself := hok x (self_nodes x)
  have HAL := Lib.hid (aloneN_kids hself)
  have HN := Lib.hid (numsOk_of hself)
  have hb1 : Below w.heap.size w (w.alloc (.cells (ndA x B cap) 29)) := (Below.refl _ _).alloc (Nat.le_refl _) _
  have HB1 := Lib.hid hb1
  have HT := Lib.hid ht
  have HOK := Lib.hid hok
  have HIH := Lib.hid ih
  have HZ1 := Lib.hid (Blk.new w 29 (ndA x B cap))
  have hsn : min topN x.kids.wsum ≤ topN := Nat.min_le_left _ _
  clear ht hok ih hb1 hself
  unfold ndV
  go_enter Tryz.func13, Tryz.ntmps13
  go_wp2
  unfold ndA at HB1 HZ1
  go_loopw [3, 4] (fun v i wr => ∃ k : Nat, i = .int .i64 (k : Int) ∧ k ≤ x.kids.len ∧ v = .int .i64 ((min topN (sumTo Nd.wgt x.kids.list k) : Nat) : Int) ∧ Hid (Below w.heap.size w wr) ∧ Hid (Blk wr w.heap.size 29 (ndA x B cap))) (fun _ i _ => x.kids.len - (intOf i).toNat)
  case atStart => exact ⟨0, rfl, Nat.zero_le _, by rw [sumTo_zero]; rfl, HB1, HZ1⟩
  case round =>
    obtain ⟨k, rfl, hk, rfl, HB, HZ⟩ := hrel
    have y5 : wr.cell? ⟨w.heap.size, 5, none⟩ = some (.slice B x.kids.len cap) := HZ.out.cell 5
    have hlz : w.heap.size < wr.heap.size := HZ.out.lt
    by_cases hlt : k < x.kids.len
    · obtain ⟨z, hz⟩ : ∃ z, x.kids.list[k]? = some z := ⟨_, List.getElem?_eq_getElem (by rw [Trees.len_list]; exact hlt)⟩
      obtain ⟨b, o, C, capc, rfl, _, _, ⟨c0, c1, c2, c3, c4, c5, c6, c7⟩, hkz⟩ := (HT.out.below HB.out).get hz
      have hdl : (k : Int) < (x.kids.len : Int) := by omega
      have hsize := Trees.size_get x.kids k z hz
      have HI := Lib.hid (HIH.out z P C capc wr (by omega) (by omega) (fun y hy => HOK.out y (kid_nodes hz y hy)) hkz)
      have HS := Lib.hid (show min topN (sumTo Nd.wgt x.kids.list (k + 1)) = min topN (min topN (sumTo Nd.wgt x.kids.list k) + z.wgt) by rw [sumTo_succ hz, min3])
      have hfz := z.wgt_le
      have hvle : min topN (sumTo Nd.wgt x.kids.list k) ≤ topN := Nat.min_le_left _ _
      clear hz hkz hsize
      generalize min topN (sumTo Nd.wgt x.kids.list k) = v at *
      generalize z.wgt = fz at *
      unfold ndV at HI
      go_wp2_with fail
      refine HI.out.mono ?_
      rintro e w3 ⟨rfl, hb3⟩
      have HA := Lib.hid (rnum_new w3 w3.heap.size v fz rfl hvle hfz)
      have HZ3 := Lib.hid (HZ.out.below hb3 HZ.out.lt)
      have HB3 := Lib.hid (HB.out.trans (hb3.mono HB.out.size))
      have hl3 : w.heap.size < w3.heap.size := HZ3.out.lt
      clear hb3 HI HZ HB c0 c1 c2 c3 c4 c5 c6 c7 y5
      dsimp only
      go_wp2_with fail
      refine HA.out.mono ?_
      rintro e w5 ⟨rfl, hb5⟩
      have HZ5 := Lib.hid (HZ3.out.below hb5 HZ3.out.lt)
      have HB5 := Lib.hid (HB3.out.trans (hb5.mono HB3.out.size))
      rw [← HS.out]
      clear hb5 HA HZ3 HB3
      dsimp only
      go_wp2
      go_roundw
      case rel => exact ⟨k + 1, by go_num, by omega, rfl, HB5, HZ5⟩
      case measure => simp [intOf]; omega
    · obtain rfl : k = x.kids.len := by omega
      have hdl : ¬ ((x.kids.len : Int) < (x.kids.len : Int)) := by omega
      have hV : sumTo Nd.wgt x.kids.list x.kids.len = x.kids.wsum := by rw [← Trees.len_list, sumTo_all, Trees.wsum_list]
      rw [hV]
      clear hV hlt hk
      have y3 : wr.cell? ⟨w.heap.size, 6, none⟩ = some (.int .i64 x.lo) := HZ.out.cell 6
      have y4 : wr.cell? ⟨w.heap.size, 7, none⟩ = some (.int .i64 x.hi) := HZ.out.cell 7
      have hk : x.kind = 1 ∨ x.kind = 2 ∨ x.kind = 3 ∨ x.kind = 4 ∨ x.kind = 5 ∨ x.kind = 6 ∨ x.kind = 7 ∨ x.kind = 8 ∨ x.kind = 9 := by
        have := HAL.out; omega
      rcases hk with hk | hk | hk | hk | hk | hk | hk | hk | hk
      · skip
        have y0 : wr.cell? ⟨w.heap.size, 0, none⟩ = some (.int .i64 1) := by rw [← hk]; exact HZ.out.cell 0
        have HV := Lib.hid (show x.wgt = min topN (min topN x.kids.wsum + 1) by unfold Nd.wgt wgtK; rw [if_neg (by omega), if_neg (by omega)])
        generalize min topN x.kids.wsum = s at *
        have HA := Lib.hid (rnum_new wr wr.heap.size s 1 rfl hsn (by decide))
        clear hk
        go_wp2_with fail
        refine HA.out.mono ?_
        rintro e w2 ⟨rfl, hb2⟩
        have HB2 := Lib.hid (HB.out.trans (hb2.mono HB.out.size))
        clear hb2 HA
        dsimp only
        go_wp2
        go_light
        go_ret
        exact ⟨ret_i (by rw [HV.out]), HB2.out⟩
      · skip
        have y0 : wr.cell? ⟨w.heap.size, 0, none⟩ = some (.int .i64 2) := by rw [← hk]; exact HZ.out.cell 0
        have HV := Lib.hid (show x.wgt = min topN x.kids.wsum by unfold Nd.wgt wgtK; rw [if_pos (by omega)])
        generalize min topN x.kids.wsum = s at *
        clear hk
        go_wp2
        go_light
        go_ret
        exact ⟨ret_i (by rw [HV.out]), HB.out⟩
      · skip
        have y0 : wr.cell? ⟨w.heap.size, 0, none⟩ = some (.int .i64 3) := by rw [← hk]; exact HZ.out.cell 0
        have HV := Lib.hid (show x.wgt = min topN (min topN x.kids.wsum + 1) by unfold Nd.wgt wgtK; rw [if_neg (by omega), if_neg (by omega)])
        generalize min topN x.kids.wsum = s at *
        have HA := Lib.hid (rnum_new wr wr.heap.size s 1 rfl hsn (by decide))
        clear hk
        go_wp2_with fail
        refine HA.out.mono ?_
        rintro e w2 ⟨rfl, hb2⟩
        have HB2 := Lib.hid (HB.out.trans (hb2.mono HB.out.size))
        clear hb2 HA
        dsimp only
        go_wp2
        go_light
        go_ret
        exact ⟨ret_i (by rw [HV.out]), HB2.out⟩
      · skip
        have y0 : wr.cell? ⟨w.heap.size, 0, none⟩ = some (.int .i64 4) := by rw [← hk]; exact HZ.out.cell 0
        have HV := Lib.hid (show x.wgt = min topN x.kids.wsum by unfold Nd.wgt wgtK; rw [if_pos (by omega)])
        generalize min topN x.kids.wsum = s at *
        clear hk
        go_wp2
        go_light
        go_ret
        exact ⟨ret_i (by rw [HV.out]), HB.out⟩
      · skip
        have y0 : wr.cell? ⟨w.heap.size, 0, none⟩ = some (.int .i64 5) := by rw [← hk]; exact HZ.out.cell 0
        have HV := Lib.hid (show x.wgt = min topN (min topN x.kids.wsum + 1) by unfold Nd.wgt wgtK; rw [if_neg (by omega), if_neg (by omega)])
        generalize min topN x.kids.wsum = s at *
        have HA := Lib.hid (rnum_new wr wr.heap.size s 1 rfl hsn (by decide))
        clear hk
        go_wp2_with fail
        refine HA.out.mono ?_
        rintro e w2 ⟨rfl, hb2⟩
        have HB2 := Lib.hid (HB.out.trans (hb2.mono HB.out.size))
        clear hb2 HA
        dsimp only
        go_wp2
        go_light
        go_ret
        exact ⟨ret_i (by rw [HV.out]), HB2.out⟩
      · skip
        have y0 : wr.cell? ⟨w.heap.size, 0, none⟩ = some (.int .i64 6) := by rw [← hk]; exact HZ.out.cell 0
        have HV := Lib.hid (show x.wgt = min topN (min topN x.kids.wsum + 1) by unfold Nd.wgt wgtK; rw [if_neg (by omega), if_neg (by omega)])
        generalize min topN x.kids.wsum = s at *
        have HA := Lib.hid (rnum_new wr wr.heap.size s 1 rfl hsn (by decide))
        clear hk
        go_wp2_with fail
        refine HA.out.mono ?_
        rintro e w2 ⟨rfl, hb2⟩
        have HB2 := Lib.hid (HB.out.trans (hb2.mono HB.out.size))
        clear hb2 HA
        dsimp only
        go_wp2
        go_light
        go_ret
        exact ⟨ret_i (by rw [HV.out]), HB2.out⟩
      · skip
        have y0 : wr.cell? ⟨w.heap.size, 0, none⟩ = some (.int .i64 7) := by rw [← hk]; exact HZ.out.cell 0
        have HV := Lib.hid (show x.wgt = min topN (min topN x.kids.wsum + 1) by unfold Nd.wgt wgtK; rw [if_neg (by omega), if_neg (by omega)])
        generalize min topN x.kids.wsum = s at *
        have HA := Lib.hid (rnum_new wr wr.heap.size s 1 rfl hsn (by decide))
        clear hk
        go_wp2_with fail
        refine HA.out.mono ?_
        rintro e w2 ⟨rfl, hb2⟩
        have HB2 := Lib.hid (HB.out.trans (hb2.mono HB.out.size))
        clear hb2 HA
        dsimp only
        go_wp2
        go_light
        go_ret
        exact ⟨ret_i (by rw [HV.out]), HB2.out⟩
      · skip
        have y0 : wr.cell? ⟨w.heap.size, 0, none⟩ = some (.int .i64 8) := by rw [← hk]; exact HZ.out.cell 0
        have HV := Lib.hid (show x.wgt = min topN (min topN x.kids.wsum + 1) by unfold Nd.wgt wgtK; rw [if_neg (by omega), if_neg (by omega)])
        generalize min topN x.kids.wsum = s at *
        have HA := Lib.hid (rnum_new wr wr.heap.size s 1 rfl hsn (by decide))
        clear hk
        go_wp2_with fail
        refine HA.out.mono ?_
        rintro e w2 ⟨rfl, hb2⟩
        have HB2 := Lib.hid (HB.out.trans (hb2.mono HB.out.size))
        clear hb2 HA
        dsimp only
        go_wp2
        go_light
        go_ret
        exact ⟨ret_i (by rw [HV.out]), HB2.out⟩
      · have y0 : wr.cell? ⟨w.heap.size, 0, none⟩ = some (.int .i64 9) := by rw [← hk]; exact HZ.out.cell 0
        have HW := Lib.hid (show x.wgt = timesW x.lo x.hi (min topN x.kids.wsum) by unfold Nd.wgt wgtK; rw [if_neg (by omega), if_pos hk])
        obtain ⟨l0, l1, l2, l3⟩ := HN.out hk
        have hrel := HAL.out.2.1 hk
        generalize min topN x.kids.wsum = s at *
        clear hk HT HOK HIH HAL HN HB1 HZ1
        obtain ⟨l, hl⟩ := Int.eq_ofNat_of_zero_le l0
        have hltop : l ≤ topN := by unfold topN; omega
        rcases Nat.eq_zero_or_pos s with rfl | hpos
        · have HV := Lib.hid (show timesW x.lo x.hi 0 = 0 by unfold timesW; rw [if_pos rfl])
          clear hl
          go_wp2
          go_light
          go_ret
          exact ⟨ret_i (by rw [HW.out, HV.out]; rfl), HB.out⟩
        have hnz : ((s : Int) == 0) = false := by rw [beq_eq_false_iff_ne]; omega
        have y3' : wr.cell? ⟨w.heap.size, 6, none⟩ = some (.int .i64 (l : Int)) := by rw [← hl]; exact y3
        have HM := Lib.hid (rmul_new wr wr.heap.size l s rfl hltop hsn)
        have htl : x.lo.toNat = l := by omega
        have hmt : min topN (l * s) ≤ topN := Nat.min_le_left _ _
        rcases Int.lt_or_le x.hi 0 with hh | hh
        · have hm1 : x.hi = -1 := by omega
          have HV := Lib.hid (show timesW x.lo x.hi s = min topN (min topN (l * s) + s + 1) by unfold timesW; rw [if_neg (by omega), if_pos hh, htl])
          have HHI := Lib.hid hm1
          clear hl hm1 hh htl y3 y4 hrel
          generalize min topN (l * s) = m at *
          go_wp2_with fail
          refine HM.out.mono ?_
          rintro e w2 ⟨rfl, hb2⟩
          have hZ2 := HZ.out.below hb2 HZ.out.lt
          have z4 : w2.cell? ⟨w.heap.size, 7, none⟩ = some (.int .i64 (-1)) := by rw [← HHI.out]; exact hZ2.cell 7
          have hlz2 : w.heap.size < w2.heap.size := hZ2.lt
          have HB2 := Lib.hid (HB.out.trans (hb2.mono HB.out.size))
          have HA := Lib.hid (rnum3_new w2 w2.heap.size m s 1 rfl hmt hsn (by decide))
          clear hb2 hZ2 HM y3'
          dsimp only
          go_wp2_with fail
          refine HA.out.mono ?_
          rintro e w3 ⟨rfl, hb3⟩
          have HB3 := Lib.hid (HB2.out.trans (hb3.mono HB2.out.size))
          clear hb3 HA
          dsimp only
          go_wp2
          go_light
          go_ret
          exact ⟨ret_i (by rw [HW.out, HV.out]), HB3.out⟩
        obtain ⟨u, hu⟩ := Int.eq_ofNat_of_zero_le hh
        have HU := Lib.hid hu
        have HLO := Lib.hid hl
        have hne1 : ((u : Int) == -1) = false := by rw [beq_eq_false_iff_ne]; omega
        rcases Int.lt_or_le x.lo x.hi with hlh | hlh
        · obtain ⟨d, hd⟩ : ∃ d, u = l + d := ⟨u - l, by omega⟩
          have hdt : d ≤ topN := by unfold topN; omega
          have hdn : (x.hi - x.lo).toNat = d := by omega
          have HV := Lib.hid (show timesW x.lo x.hi s = min topN (min topN (l * s) + min topN (d * s) + 1) by unfold timesW; rw [if_neg (by omega), if_neg (by omega), if_pos hlh, htl, hdn])
          have hul : (l : Int) < (u : Int) := by omega
          have hsub : IntKind.i64.wrap ((u : Int) - (l : Int)) = (d : Int) := by rw [IntKind.wrap_i64]; omega
          have hsub2 : (u : Int) - (l : Int) = (d : Int) := by omega
          have HSUB := Lib.hid hsub2
          have hu1 : u ≤ 1000 := by omega
          have hmt2 : min topN (d * s) ≤ topN := Nat.min_le_left _ _
          have HM2 := Lib.hid (fun (W : World) => rmul_new W W.heap.size d s rfl hdt hsn)
          clear hl hu hd hdn hh hlh htl y3 y4 hrel hsub hsub2
          generalize min topN (l * s) = m at *
          generalize min topN (d * s) = m2 at *
          go_wp2_with fail
          refine HM.out.mono ?_
          rintro e w2 ⟨rfl, hb2⟩
          have hZ2 := HZ.out.below hb2 HZ.out.lt
          have z3 : w2.cell? ⟨w.heap.size, 6, none⟩ = some (.int .i64 (l : Int)) := by rw [← HLO.out]; exact hZ2.cell 6
          have z4 : w2.cell? ⟨w.heap.size, 7, none⟩ = some (.int .i64 (u : Int)) := by rw [← HU.out]; exact hZ2.cell 7
          have hlz2 : w.heap.size < w2.heap.size := hZ2.lt
          have HB2 := Lib.hid (HB.out.trans (hb2.mono HB.out.size))
          have HM3 := Lib.hid (HM2.out w2)
          clear hb2 hZ2 HM y3' HM2
          dsimp only
          go_wp2_with fail
          rw [HSUB.out]
          refine HM3.out.mono ?_
          rintro e w3 ⟨rfl, hb3⟩
          have HB3 := Lib.hid (HB2.out.trans (hb3.mono HB2.out.size))
          have HA := Lib.hid (rnum3_new w3 w3.heap.size m m2 1 rfl hmt hmt2 (by decide))
          clear hb3 HM3 z3 z4
          dsimp only
          go_wp2_with fail
          refine HA.out.mono ?_
          rintro e w4 ⟨rfl, hb4⟩
          have HB4 := Lib.hid (HB3.out.trans (hb4.mono HB3.out.size))
          clear hb4 HA
          dsimp only
          go_wp2
          go_light
          go_ret
          exact ⟨ret_i (by rw [HW.out, HV.out]), HB4.out⟩
        · have HV := Lib.hid (show timesW x.lo x.hi s = min topN (l * s) by unfold timesW; rw [if_neg (by omega), if_neg (by omega), if_neg (by omega), htl])
          have hul : ¬ (l : Int) < (u : Int) := by omega
          clear hl hu hh hlh htl y3 y4 hrel
          generalize min topN (l * s) = m at *
          go_wp2_with fail
          refine HM.out.mono ?_
          rintro e w2 ⟨rfl, hb2⟩
          have hZ2 := HZ.out.below hb2 HZ.out.lt
          have z3 : w2.cell? ⟨w.heap.size, 6, none⟩ = some (.int .i64 (l : Int)) := by rw [← HLO.out]; exact hZ2.cell 6
          have z4 : w2.cell? ⟨w.heap.size, 7, none⟩ = some (.int .i64 (u : Int)) := by rw [← HU.out]; exact hZ2.cell 7
          have hlz2 : w.heap.size < w2.heap.size := hZ2.lt
          have HB2 := Lib.hid (HB.out.trans (hb2.mono HB.out.size))
          clear hb2 hZ2 HM y3'
          dsimp only
          go_wp2
          go_light
          go_ret
          exact ⟨ret_i (by rw [HW.out, HV.out]), HB2.out⟩
theorem rwgt_go (x : Nd) (P : Nat → Prop) (B : Option Addr) (cap : Nat) (w : World) (hlen : x.size ≤ 140737488355328) (hok : ∀ y ∈ x.nodes, aloneN y = true) (ht : TreesAt w P x.kids B) :
    Calls Tryz.prog 13 #[ndV x B cap] w fun e w' => e = .returned (.int .i64 ((x.wgt : Nat) : Int)) ∧ Below w.heap.size w w' := by
  have h : ∀ n, RWgtC n := by
    intro n
    induction n with
    | zero => exact fun x _ _ _ _ h => by unfold Nd.size at h; omega
    | succ n ih => exact rwgt_step ih
  exact h x.size x P B cap w (Nat.le_refl _) hlen hok ht
end Go.Proofs.YtchfipjclbpomaaGreat
