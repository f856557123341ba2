/- Texts of the claim. -/
import Derived.Test.YtfcblmbieiibmaaDoorKMatRg
namespace Go.Proofs.YtfcblmbieiibmaaDoor
open Go.RowKit
set_option linter.unusedSimpArgs false
set_option linter.unusedVariables false
set_option maxRecDepth 100000
set_option maxHeartbeats 8000000
theorem below_next0 {R : RelW} {lo k : Nat} {l o : List Int} (h : EndsL (belowR R lo k) l o) (hk : k < lo) : EndsL (belowR R lo (k + 1)) l o :=
 h.congr fun i j _ => ⟨fun h => absurd h (below_none R (by omega) i j), fun h => absurd h (below_none R (by omega) i j)⟩
theorem from_star {x y : Nd} {bs : List Nat} (hk : x.kind = 6) (hy : x.kids.list = [y]) (hK : ∀ y ∈ x.kids.list, FromC bs y) : FromC bs x := by
 have h1 : 0 ≤ loK x ∧ loK x ≤ 1000 ∧ -1 ≤ hiK x ∧ hiK x ≤ 1000 := by unfold loK hiK; simp [hk]
 obtain ⟨lo, hlo⟩ : ∃ lo : Nat, loK x = (lo : Int) := ⟨(loK x).toNat, by have := h1.1; omega⟩
 obtain ⟨hi, hhi⟩ : ∃ hi : Int, hiK x = hi := ⟨_, rfl⟩
 have HLoE := Lib.hid hlo
 have HHiE := Lib.hid hhi
 have HNum := Lib.hid (show lo ≤ 1000 ∧ -1 ≤ hi ∧ hi ≤ 1000 from by rw [← hhi]; have := h1.2; omega)
 have HLz := Lib.hid (show (lo : Int) = 0 by rw [← hlo]; unfold loK; simp [hk])
 have HHz := Lib.hid (show hi = -1 by rw [← hhi]; unfold hiK; simp [hk])
 clear hlo hhi h1
 have hk2 : 6 ≤ x.kind ∧ x.kind ≤ 9 := by omega
 have HRel := Lib.hid (fun i j => rel_any (z := x) hk2.1 hk2.2 hy bs i j)
 have HY := Lib.hid (hK y (by rw [hy]; simp))
 have HKids := Lib.hid hy
 have hone : x.kids.len = 1 := by rw [← Trees.len_list, hy]; rfl
 have HOne := Lib.hid hone
 clear hK hy hk2 hone
 intro hbl B cap V cv A ca L w ht hcap hV hcv hA hca hP
 have HBl := Lib.hid hbl
 have HK := Lib.hid hk
 obtain ⟨W0, hW0⟩ : ∃ W0, (w.alloc (.cells (ndA x B cap) 28)).alloc (.cells #[] 3) = W0 := ⟨_, rfl⟩
 obtain ⟨hF, hR⟩ := from_made hW0
 have HF := Lib.hid hF
 have HT := Lib.hid ht
 have HVb := Lib.hid hV
 have HL := Lib.hid (show LiIn w A ca bs.length L from ⟨hA, hca, hP⟩)
 have HR := Lib.hid hR
 have HCap := Lib.hid hcap
 have HCv := Lib.hid hcv
 unfold ndA at hW0
 unfold ndV
 rw [hk] at hW0 ⊢
 obtain ⟨x0, x1, x2, x3, x4, x5, x6, x7⟩ : _ ∧ _ ∧ _ ∧ _ ∧ _ ∧ _ ∧ _ ∧ _ := ⟨(HF.out.box).cell 0, (HF.out.box).cell 1, (HF.out.box).cell 2, (HF.out.box).cell 3, (HF.out.box).cell 4, (HF.out.box).cell 5, (HF.out.box).cell 6, (HF.out.box).cell 7⟩
 simp only [List.getElem?_toArray, List.getElem?_cons_zero, List.getElem?_cons_succ, ndA] at x0 x1 x2 x3 x4 x5 x6 x7
 rw [HK.out] at x0
 have lx := (HF.out.box).lt
 clear ht hV hA hca hP hF hR hk hcap hcv hbl
 go_enter Tryd.func30, Tryd.ntmps30
 have hR0 := own_intsC HR.out
 have HR0 := Lib.hid hR0
 clear hR0
 go_wp2
 go_loopw [2, 7, 13] (fun v vo i' wr => ∃ (k : Nat) (Al : Option Addr) (cl : Nat) (Ll : List Int) (Ao : Option Addr) (co : Nat) (Lo : List Int), i' = .int .i64 (k : Int) ∧ v = .slice Al Ll.length cl ∧ vo = .slice Ao Lo.length co ∧ k ≤ lo + bs.length + 2 ∧ Hid (FrI w wr x B cap) ∧ Hid (LiIn wr Al cl bs.length Ll) ∧ Hid (LiIn wr Ao co bs.length Lo) ∧ Hid (EndsL (itR (y.rel bs) k) L Ll) ∧ Hid (EndsL (belowR (y.rel bs) lo k) L Lo) ∧ Hid (hi < 0 ∨ (k : Int) ≤ hi + 1)) (fun _ _ i' _ => lo + bs.length + 2 - (intOf i').toNat)
 case atStart => exact ⟨0, A, ca, L, _, 0, [], rfl, rfl, rfl, Nat.zero_le _, HF, Lib.hid (HL.out.next HF.out.below), Lib.hid ⟨HR0.out, Nat.le_refl _, places_none _⟩, Lib.hid (ends_id HL.out.2.2), Lib.hid (ends_none _ (below_none _ (Nat.zero_le _)) L), Lib.hid (by have := HNum.out; omega)⟩
 case round =>
  clear HF HR HR0 hW0 x0 x1 x2 x3 x4 x5 x6 x7 lx
  obtain ⟨k, Al, cl, Ll, Ao, co, Lo, rfl, rfl, rfl, hk, HF, HLl, HLo, HEl, HEo, HKi⟩ := hrel
  have hnum := HNum.out
  have hbl := HBl.out
  have hki := HKi.out
  (have hw1 : IntKind.i64.wrap (bs.length : Int) = (bs.length : Int) := by rw [IntKind.wrap_i64]; omega); (have hw2 : IntKind.i64.wrap ((bs.length : Int) + 1) = (bs.length : Int) + 1 := by rw [IntKind.wrap_i64]; omega)
  have hw3 : IntKind.i64.wrap ((k : Int) + 1) = (k : Int) + 1 := by rw [IntKind.wrap_i64]; omega
  obtain ⟨x0, x1, x2, x3, x4, x5, x6, x7⟩ : _ ∧ _ ∧ _ ∧ _ ∧ _ ∧ _ ∧ _ ∧ _ := ⟨(HF.out.box).cell 0, (HF.out.box).cell 1, (HF.out.box).cell 2, (HF.out.box).cell 3, (HF.out.box).cell 4, (HF.out.box).cell 5, (HF.out.box).cell 6, (HF.out.box).cell 7⟩
  simp only [List.getElem?_toArray, List.getElem?_cons_zero, List.getElem?_cons_succ, ndA] at x0 x1 x2 x3 x4 x5 x6 x7
  rw [HK.out] at x0
  have lx := (HF.out.box).lt
  by_cases hc1 : k ≤ lo + bs.length + 1
  ·have hd1 : (k : Int) ≤ (bs.length : Int) + 1 := by have := HLz.out; omega
   by_cases hc2 : hi < 0
   ·first
     | (exact absurd hc2 (by have := HHz.out; omega))
     | skip
    all_goals
     have hd2 : -1 < 0 := by have := HHz.out; omega
     by_cases hge : lo ≤ k
     ·have hdg : 0 ≤ (k : Int) := by have := HLz.out; omega
      have HJn := Lib.hid (rjoin11_go Ao Al co cl Lo Ll bs.length wr HLo.out.1 HLl.out.1 (by have := places_short HLo.out.2.2; have := HBl.out; omega) (by have := places_short HLl.out.2.2; have := HBl.out; omega) (by have := HBl.out; omega))
      go_wp2_with fail
      refine HJn.out.mono ?_
      rintro e w5 ⟨O, A5, c5, hO, rfl, hb5, hi5, hc5⟩
      have HF5 := Lib.hid (HF.out.next hb5)
      have HO5 := Lib.hid (show LiIn w5 A5 c5 bs.length O from ⟨hi5, hc5, hO.1, fun t ht => ((hO.2 t).1 ht).2⟩)
      have HL5 := Lib.hid (HLl.out.next hb5)
      have HB5 := Lib.hid ((HEo.out.or HEl.out HLo.out.2.2 HLl.out.2.2 hO).congr (fun i j' _ => below_more hge i j'))
      clear hO hb5 hi5 hc5 HJn HF HLl HLo HEo x0 x1 x2 x3 x4 x5 x6 x7 lx
      dsimp only
      obtain ⟨b, o, C, capc, hBe, hbb, hkl, ⟨q0, q1, q2, q3, q4, q5, q6, q7⟩, hkz⟩ := (HT.out.below (HF5).out.below).get (show x.kids.list[0]? = some y by rw [HKids.out]; rfl)
      subst hBe
      rw [Nat.zero_mul, Nat.add_zero] at q0 q1 q2 q3 q4 q5 q6 q7
      have hblk := World.block_lt_of_cell? w5 _ q0
      have hdc : (0 : Int) < (cap : Int) := by have := HCap.out; have := HOne.out; omega
      have hdo : (0 : Int) < (x.kids.len : Int) := by have := HOne.out; omega
      obtain ⟨x0, x1, x2, x3, x4, x5, x6, x7⟩ : _ ∧ _ ∧ _ ∧ _ ∧ _ ∧ _ ∧ _ ∧ _ := ⟨((HF5).out.box).cell 0, ((HF5).out.box).cell 1, ((HF5).out.box).cell 2, ((HF5).out.box).cell 3, ((HF5).out.box).cell 4, ((HF5).out.box).cell 5, ((HF5).out.box).cell 6, ((HF5).out.box).cell 7⟩
      simp only [List.getElem?_toArray, List.getElem?_cons_zero, List.getElem?_cons_succ, ndA] at x0 x1 x2 x3 x4 x5 x6 x7
      rw [HK.out] at x0
      have lx := ((HF5).out.box).lt
      have HC := Lib.hid (HY.out.at_ HBl.out (HF5).out.below hkz hkl HVb.out HCv.out (HL5).out)
      go_wp2_with fail
      unfold ndV at HC
      refine HC.out.mono ?_
      rintro e w7 ⟨R, A7, c7, hR, rfl, hb7, hi7, hc7⟩
      have HF7 := Lib.hid ((HF5).out.next hb7)
      have HL7 := Lib.hid (show LiIn w7 A7 c7 bs.length R from ⟨hi7, hc7, hR.within (HL5).out.2.2 (fun i j h1 h2 => rel_len y bs h1 h2)⟩)
      have HO7 := Lib.hid ((HO5).out.next hb7)
      have HI7 := Lib.hid (HEl.out.next hR)
      clear hR hb7 hi7 hc7 HC x0 x1 x2 x3 x4 x5 x6 x7 lx q0 q1 q2 q3 q4 q5 q6 q7 hblk hkz hkl hbb
      dsimp only
      by_cases hn : R.length = 0
      ·obtain rfl : R = [] := List.eq_nil_of_length_eq_zero hn
       clear hn
       go_wp2
       go_light
       go_ret
       exact ⟨O, A5, c5, (HB5.out.congr (fun i j' hi' => below_stop HI7.out hi (by omega) hi')).congr (fun i j' _ => by rw [← HLoE.out, ← HHiE.out]; exact (HRel.out i j').symm), rfl, HF7.out.below, HO7.out.1, HO7.out.2.1⟩
      ·have hne : ((R.length : Int) == 0) = false := by rw [beq_eq_false_iff_ne]; omega
       go_wp2
       refine ⟨⟨k + 1, A7, c7, R, _, _, _, by rw [show ((k + 1 : Nat) : Int) = (k : Int) + 1 by omega], rfl, rfl, by omega, HF7, HL7, HO7, HI7, HB5, Lib.hid (by omega)⟩, ?_⟩
       simp [intOf]
       omega
     ·first
       | (exact absurd hge (by have := HLz.out; omega))
       | skip
      all_goals
       have hdg : ¬ 0 ≤ (k : Int) := by have := HLz.out; omega
       have HB5 := Lib.hid (below_next0 HEo.out (by omega))
       clear HEo x0 x1 x2 x3 x4 x5 x6 x7 lx
       obtain ⟨b, o, C, capc, hBe, hbb, hkl, ⟨q0, q1, q2, q3, q4, q5, q6, q7⟩, hkz⟩ := (HT.out.below (HF).out.below).get (show x.kids.list[0]? = some y by rw [HKids.out]; rfl)
       subst hBe
       rw [Nat.zero_mul, Nat.add_zero] at q0 q1 q2 q3 q4 q5 q6 q7
       have hblk := World.block_lt_of_cell? wr _ q0
       have hdc : (0 : Int) < (cap : Int) := by have := HCap.out; have := HOne.out; omega
       have hdo : (0 : Int) < (x.kids.len : Int) := by have := HOne.out; omega
       obtain ⟨x0, x1, x2, x3, x4, x5, x6, x7⟩ : _ ∧ _ ∧ _ ∧ _ ∧ _ ∧ _ ∧ _ ∧ _ := ⟨((HF).out.box).cell 0, ((HF).out.box).cell 1, ((HF).out.box).cell 2, ((HF).out.box).cell 3, ((HF).out.box).cell 4, ((HF).out.box).cell 5, ((HF).out.box).cell 6, ((HF).out.box).cell 7⟩
       simp only [List.getElem?_toArray, List.getElem?_cons_zero, List.getElem?_cons_succ, ndA] at x0 x1 x2 x3 x4 x5 x6 x7
       rw [HK.out] at x0
       have lx := ((HF).out.box).lt
       have HC := Lib.hid (HY.out.at_ HBl.out (HF).out.below hkz hkl HVb.out HCv.out (HLl).out)
       go_wp2_with fail
       unfold ndV at HC
       refine HC.out.mono ?_
       rintro e w7 ⟨R, A7, c7, hR, rfl, hb7, hi7, hc7⟩
       have HF7 := Lib.hid ((HF).out.next hb7)
       have HL7 := Lib.hid (show LiIn w7 A7 c7 bs.length R from ⟨hi7, hc7, hR.within (HLl).out.2.2 (fun i j h1 h2 => rel_len y bs h1 h2)⟩)
       have HO7 := Lib.hid ((HLo).out.next hb7)
       have HI7 := Lib.hid (HEl.out.next hR)
       clear hR hb7 hi7 hc7 HC x0 x1 x2 x3 x4 x5 x6 x7 lx q0 q1 q2 q3 q4 q5 q6 q7 hblk hkz hkl hbb
       dsimp only
       by_cases hn : R.length = 0
       ·obtain rfl : R = [] := List.eq_nil_of_length_eq_zero hn
        clear hn
        go_wp2
        go_light
        go_ret
        exact ⟨[], none, 0, (ends_stop HI7.out (lo := (lo : Int)) (hi := hi) (by omega)).congr (fun i j' _ => by rw [← HLoE.out, ← HHiE.out]; exact (HRel.out i j').symm), rfl, HF7.out.below, (fun i a ha => by simp at ha), Nat.le_refl _⟩
       ·have hne : ((R.length : Int) == 0) = false := by rw [beq_eq_false_iff_ne]; omega
        go_wp2
        refine ⟨⟨k + 1, A7, c7, R, _, _, _, by rw [show ((k + 1 : Nat) : Int) = (k : Int) + 1 by omega], rfl, rfl, by omega, HF7, HL7, HO7, HI7, HB5, Lib.hid (by omega)⟩, ?_⟩
        simp [intOf]
        omega
   ·first
     | (exact absurd (show hi < 0 by have := HHz.out; omega) hc2)
     | skip
    all_goals
     have hd2 : ¬ -1 < 0 := by have := HHz.out; omega
     by_cases hc3 : (k : Int) ≤ hi
     ·have hd3 : (k : Int) ≤ -1 := by have := HHz.out; omega
      by_cases hge : lo ≤ k
      ·have hdg : 0 ≤ (k : Int) := by have := HLz.out; omega
       have HJn := Lib.hid (rjoin11_go Ao Al co cl Lo Ll bs.length wr HLo.out.1 HLl.out.1 (by have := places_short HLo.out.2.2; have := HBl.out; omega) (by have := places_short HLl.out.2.2; have := HBl.out; omega) (by have := HBl.out; omega))
       go_wp2_with fail
       refine HJn.out.mono ?_
       rintro e w5 ⟨O, A5, c5, hO, rfl, hb5, hi5, hc5⟩
       have HF5 := Lib.hid (HF.out.next hb5)
       have HO5 := Lib.hid (show LiIn w5 A5 c5 bs.length O from ⟨hi5, hc5, hO.1, fun t ht => ((hO.2 t).1 ht).2⟩)
       have HL5 := Lib.hid (HLl.out.next hb5)
       have HB5 := Lib.hid ((HEo.out.or HEl.out HLo.out.2.2 HLl.out.2.2 hO).congr (fun i j' _ => below_more hge i j'))
       clear hO hb5 hi5 hc5 HJn HF HLl HLo HEo x0 x1 x2 x3 x4 x5 x6 x7 lx
       dsimp only
       obtain ⟨b, o, C, capc, hBe, hbb, hkl, ⟨q0, q1, q2, q3, q4, q5, q6, q7⟩, hkz⟩ := (HT.out.below (HF5).out.below).get (show x.kids.list[0]? = some y by rw [HKids.out]; rfl)
       subst hBe
       rw [Nat.zero_mul, Nat.add_zero] at q0 q1 q2 q3 q4 q5 q6 q7
       have hblk := World.block_lt_of_cell? w5 _ q0
       have hdc : (0 : Int) < (cap : Int) := by have := HCap.out; have := HOne.out; omega
       have hdo : (0 : Int) < (x.kids.len : Int) := by have := HOne.out; omega
       obtain ⟨x0, x1, x2, x3, x4, x5, x6, x7⟩ : _ ∧ _ ∧ _ ∧ _ ∧ _ ∧ _ ∧ _ ∧ _ := ⟨((HF5).out.box).cell 0, ((HF5).out.box).cell 1, ((HF5).out.box).cell 2, ((HF5).out.box).cell 3, ((HF5).out.box).cell 4, ((HF5).out.box).cell 5, ((HF5).out.box).cell 6, ((HF5).out.box).cell 7⟩
       simp only [List.getElem?_toArray, List.getElem?_cons_zero, List.getElem?_cons_succ, ndA] at x0 x1 x2 x3 x4 x5 x6 x7
       rw [HK.out] at x0
       have lx := ((HF5).out.box).lt
       have HC := Lib.hid (HY.out.at_ HBl.out (HF5).out.below hkz hkl HVb.out HCv.out (HL5).out)
       go_wp2_with fail
       unfold ndV at HC
       refine HC.out.mono ?_
       rintro e w7 ⟨R, A7, c7, hR, rfl, hb7, hi7, hc7⟩
       have HF7 := Lib.hid ((HF5).out.next hb7)
       have HL7 := Lib.hid (show LiIn w7 A7 c7 bs.length R from ⟨hi7, hc7, hR.within (HL5).out.2.2 (fun i j h1 h2 => rel_len y bs h1 h2)⟩)
       have HO7 := Lib.hid ((HO5).out.next hb7)
       have HI7 := Lib.hid (HEl.out.next hR)
       clear hR hb7 hi7 hc7 HC x0 x1 x2 x3 x4 x5 x6 x7 lx q0 q1 q2 q3 q4 q5 q6 q7 hblk hkz hkl hbb
       dsimp only
       by_cases hn : R.length = 0
       ·obtain rfl : R = [] := List.eq_nil_of_length_eq_zero hn
        clear hn
        go_wp2
        go_light
        go_ret
        exact ⟨O, A5, c5, (HB5.out.congr (fun i j' hi' => below_stop HI7.out hi (by omega) hi')).congr (fun i j' _ => by rw [← HLoE.out, ← HHiE.out]; exact (HRel.out i j').symm), rfl, HF7.out.below, HO7.out.1, HO7.out.2.1⟩
       ·have hne : ((R.length : Int) == 0) = false := by rw [beq_eq_false_iff_ne]; omega
        go_wp2
        refine ⟨⟨k + 1, A7, c7, R, _, _, _, by rw [show ((k + 1 : Nat) : Int) = (k : Int) + 1 by omega], rfl, rfl, by omega, HF7, HL7, HO7, HI7, HB5, Lib.hid (by omega)⟩, ?_⟩
        simp [intOf]
        omega
      ·first
        | (exact absurd hge (by have := HLz.out; omega))
        | skip
       all_goals
        have hdg : ¬ 0 ≤ (k : Int) := by have := HLz.out; omega
        have HB5 := Lib.hid (below_next0 HEo.out (by omega))
        clear HEo x0 x1 x2 x3 x4 x5 x6 x7 lx
        obtain ⟨b, o, C, capc, hBe, hbb, hkl, ⟨q0, q1, q2, q3, q4, q5, q6, q7⟩, hkz⟩ := (HT.out.below (HF).out.below).get (show x.kids.list[0]? = some y by rw [HKids.out]; rfl)
        subst hBe
        rw [Nat.zero_mul, Nat.add_zero] at q0 q1 q2 q3 q4 q5 q6 q7
        have hblk := World.block_lt_of_cell? wr _ q0
        have hdc : (0 : Int) < (cap : Int) := by have := HCap.out; have := HOne.out; omega
        have hdo : (0 : Int) < (x.kids.len : Int) := by have := HOne.out; omega
        obtain ⟨x0, x1, x2, x3, x4, x5, x6, x7⟩ : _ ∧ _ ∧ _ ∧ _ ∧ _ ∧ _ ∧ _ ∧ _ := ⟨((HF).out.box).cell 0, ((HF).out.box).cell 1, ((HF).out.box).cell 2, ((HF).out.box).cell 3, ((HF).out.box).cell 4, ((HF).out.box).cell 5, ((HF).out.box).cell 6, ((HF).out.box).cell 7⟩
        simp only [List.getElem?_toArray, List.getElem?_cons_zero, List.getElem?_cons_succ, ndA] at x0 x1 x2 x3 x4 x5 x6 x7
        rw [HK.out] at x0
        have lx := ((HF).out.box).lt
        have HC := Lib.hid (HY.out.at_ HBl.out (HF).out.below hkz hkl HVb.out HCv.out (HLl).out)
        go_wp2_with fail
        unfold ndV at HC
        refine HC.out.mono ?_
        rintro e w7 ⟨R, A7, c7, hR, rfl, hb7, hi7, hc7⟩
        have HF7 := Lib.hid ((HF).out.next hb7)
        have HL7 := Lib.hid (show LiIn w7 A7 c7 bs.length R from ⟨hi7, hc7, hR.within (HLl).out.2.2 (fun i j h1 h2 => rel_len y bs h1 h2)⟩)
        have HO7 := Lib.hid ((HLo).out.next hb7)
        have HI7 := Lib.hid (HEl.out.next hR)
        clear hR hb7 hi7 hc7 HC x0 x1 x2 x3 x4 x5 x6 x7 lx q0 q1 q2 q3 q4 q5 q6 q7 hblk hkz hkl hbb
        dsimp only
        by_cases hn : R.length = 0
        ·obtain rfl : R = [] := List.eq_nil_of_length_eq_zero hn
         clear hn
         go_wp2
         go_light
         go_ret
         exact ⟨[], none, 0, (ends_stop HI7.out (lo := (lo : Int)) (hi := hi) (by omega)).congr (fun i j' _ => by rw [← HLoE.out, ← HHiE.out]; exact (HRel.out i j').symm), rfl, HF7.out.below, (fun i a ha => by simp at ha), Nat.le_refl _⟩
        ·have hne : ((R.length : Int) == 0) = false := by rw [beq_eq_false_iff_ne]; omega
         go_wp2
         refine ⟨⟨k + 1, A7, c7, R, _, _, _, by rw [show ((k + 1 : Nat) : Int) = (k : Int) + 1 by omega], rfl, rfl, by omega, HF7, HL7, HO7, HI7, HB5, Lib.hid (by omega)⟩, ?_⟩
         simp [intOf]
         omega
     ·have hd3 : ¬ (k : Int) ≤ -1 := by have := HHz.out; omega
      have HX := Lib.hid (show EndsL (x.rel bs) L Lo from (HEo.out.congr (fun i j' _ => show belowR (y.rel bs) lo k i j' ↔ repR (lo : Int) hi (y.rel bs) i j' from by
       obtain ⟨h', hh'⟩ := Int.eq_ofNat_of_zero_le (show 0 ≤ hi by omega)
       obtain rfl : k = h' + 1 := by omega
       rw [hh']
       exact below_hi i j')).congr (fun i j' _ => by rw [← HLoE.out, ← HHiE.out]; exact (HRel.out i j').symm))
      clear hnum hki
      go_wp2
      go_light
      go_ret
      exact ⟨Lo, Ao, co, HX.out, rfl, HF.out.below, HLo.out.1, HLo.out.2.1⟩
  ·have hd1 : ¬ (k : Int) ≤ (bs.length : Int) + 1 := by have := HLz.out; omega
   have HX := Lib.hid (show EndsL (x.rel bs) L Lo from (HEo.out.congr (fun i j' hi' => below_all (fun i j h => rel_up y bs h) (n := bs.length) (fun i j h1 h2 => rel_len y bs h1 h2) (by omega) hi (by omega) (by have := (HL.out.2.2.2 _ hi').2; omega))).congr (fun i j' _ => by rw [← HLoE.out, ← HHiE.out]; exact (HRel.out i j').symm))
   clear hnum hki
   go_wp2
   go_light
   go_ret
   exact ⟨Lo, Ao, co, HX.out, rfl, HF.out.below, HLo.out.1, HLo.out.2.1⟩
theorem from_plus {x y : Nd} {bs : List Nat} (hk : x.kind = 7) (hy : x.kids.list = [y]) (hK : ∀ y ∈ x.kids.list, FromC bs y) : FromC bs x := by
 have h1 : 0 ≤ loK x ∧ loK x ≤ 1000 ∧ -1 ≤ hiK x ∧ hiK x ≤ 1000 := by unfold loK hiK; simp [hk]
 obtain ⟨lo, hlo⟩ : ∃ lo : Nat, loK x = (lo : Int) := ⟨(loK x).toNat, by have := h1.1; omega⟩
 obtain ⟨hi, hhi⟩ : ∃ hi : Int, hiK x = hi := ⟨_, rfl⟩
 have HLoE := Lib.hid hlo
 have HHiE := Lib.hid hhi
 have HNum := Lib.hid (show lo ≤ 1000 ∧ -1 ≤ hi ∧ hi ≤ 1000 from by rw [← hhi]; have := h1.2; omega)
 have HLz := Lib.hid (show (lo : Int) = 1 by rw [← hlo]; unfold loK; simp [hk])
 have HHz := Lib.hid (show hi = -1 by rw [← hhi]; unfold hiK; simp [hk])
 clear hlo hhi h1
 have hk2 : 6 ≤ x.kind ∧ x.kind ≤ 9 := by omega
 have HRel := Lib.hid (fun i j => rel_any (z := x) hk2.1 hk2.2 hy bs i j)
 have HY := Lib.hid (hK y (by rw [hy]; simp))
 have HKids := Lib.hid hy
 have hone : x.kids.len = 1 := by rw [← Trees.len_list, hy]; rfl
 have HOne := Lib.hid hone
 clear hK hy hk2 hone
 intro hbl B cap V cv A ca L w ht hcap hV hcv hA hca hP
 have HBl := Lib.hid hbl
 have HK := Lib.hid hk
 obtain ⟨W0, hW0⟩ : ∃ W0, (w.alloc (.cells (ndA x B cap) 28)).alloc (.cells #[] 3) = W0 := ⟨_, rfl⟩
 obtain ⟨hF, hR⟩ := from_made hW0
 have HF := Lib.hid hF
 have HT := Lib.hid ht
 have HVb := Lib.hid hV
 have HL := Lib.hid (show LiIn w A ca bs.length L from ⟨hA, hca, hP⟩)
 have HR := Lib.hid hR
 have HCap := Lib.hid hcap
 have HCv := Lib.hid hcv
 unfold ndA at hW0
 unfold ndV
 rw [hk] at hW0 ⊢
 obtain ⟨x0, x1, x2, x3, x4, x5, x6, x7⟩ : _ ∧ _ ∧ _ ∧ _ ∧ _ ∧ _ ∧ _ ∧ _ := ⟨(HF.out.box).cell 0, (HF.out.box).cell 1, (HF.out.box).cell 2, (HF.out.box).cell 3, (HF.out.box).cell 4, (HF.out.box).cell 5, (HF.out.box).cell 6, (HF.out.box).cell 7⟩
 simp only [List.getElem?_toArray, List.getElem?_cons_zero, List.getElem?_cons_succ, ndA] at x0 x1 x2 x3 x4 x5 x6 x7
 rw [HK.out] at x0
 have lx := (HF.out.box).lt
 clear ht hV hA hca hP hF hR hk hcap hcv hbl
 go_enter Tryd.func30, Tryd.ntmps30
 have hR0 := own_intsC HR.out
 have HR0 := Lib.hid hR0
 clear hR0
 go_wp2
 go_loopw [2, 7, 13] (fun v vo i' wr => ∃ (k : Nat) (Al : Option Addr) (cl : Nat) (Ll : List Int) (Ao : Option Addr) (co : Nat) (Lo : List Int), i' = .int .i64 (k : Int) ∧ v = .slice Al Ll.length cl ∧ vo = .slice Ao Lo.length co ∧ k ≤ lo + bs.length + 2 ∧ Hid (FrI w wr x B cap) ∧ Hid (LiIn wr Al cl bs.length Ll) ∧ Hid (LiIn wr Ao co bs.length Lo) ∧ Hid (EndsL (itR (y.rel bs) k) L Ll) ∧ Hid (EndsL (belowR (y.rel bs) lo k) L Lo) ∧ Hid (hi < 0 ∨ (k : Int) ≤ hi + 1)) (fun _ _ i' _ => lo + bs.length + 2 - (intOf i').toNat)
 case atStart => exact ⟨0, A, ca, L, _, 0, [], rfl, rfl, rfl, Nat.zero_le _, HF, Lib.hid (HL.out.next HF.out.below), Lib.hid ⟨HR0.out, Nat.le_refl _, places_none _⟩, Lib.hid (ends_id HL.out.2.2), Lib.hid (ends_none _ (below_none _ (Nat.zero_le _)) L), Lib.hid (by have := HNum.out; omega)⟩
 case round =>
  clear HF HR HR0 hW0 x0 x1 x2 x3 x4 x5 x6 x7 lx
  obtain ⟨k, Al, cl, Ll, Ao, co, Lo, rfl, rfl, rfl, hk, HF, HLl, HLo, HEl, HEo, HKi⟩ := hrel
  have hnum := HNum.out
  have hbl := HBl.out
  have hki := HKi.out
  (have hw1 : IntKind.i64.wrap (1 + (bs.length : Int)) = 1 + (bs.length : Int) := by rw [IntKind.wrap_i64]; omega); (have hw2 : IntKind.i64.wrap (1 + (bs.length : Int) + 1) = 1 + (bs.length : Int) + 1 := by rw [IntKind.wrap_i64]; omega)
  have hw3 : IntKind.i64.wrap ((k : Int) + 1) = (k : Int) + 1 := by rw [IntKind.wrap_i64]; omega
  obtain ⟨x0, x1, x2, x3, x4, x5, x6, x7⟩ : _ ∧ _ ∧ _ ∧ _ ∧ _ ∧ _ ∧ _ ∧ _ := ⟨(HF.out.box).cell 0, (HF.out.box).cell 1, (HF.out.box).cell 2, (HF.out.box).cell 3, (HF.out.box).cell 4, (HF.out.box).cell 5, (HF.out.box).cell 6, (HF.out.box).cell 7⟩
  simp only [List.getElem?_toArray, List.getElem?_cons_zero, List.getElem?_cons_succ, ndA] at x0 x1 x2 x3 x4 x5 x6 x7
  rw [HK.out] at x0
  have lx := (HF.out.box).lt
  by_cases hc1 : k ≤ lo + bs.length + 1
  ·have hd1 : (k : Int) ≤ 1 + (bs.length : Int) + 1 := by have := HLz.out; omega
   by_cases hc2 : hi < 0
   ·first
     | (exact absurd hc2 (by have := HHz.out; omega))
     | skip
    all_goals
     have hd2 : -1 < 0 := by have := HHz.out; omega
     by_cases hge : lo ≤ k
     ·have hdg : 1 ≤ (k : Int) := by have := HLz.out; omega
      have HJn := Lib.hid (rjoin11_go Ao Al co cl Lo Ll bs.length wr HLo.out.1 HLl.out.1 (by have := places_short HLo.out.2.2; have := HBl.out; omega) (by have := places_short HLl.out.2.2; have := HBl.out; omega) (by have := HBl.out; omega))
      go_wp2_with fail
      refine HJn.out.mono ?_
      rintro e w5 ⟨O, A5, c5, hO, rfl, hb5, hi5, hc5⟩
      have HF5 := Lib.hid (HF.out.next hb5)
      have HO5 := Lib.hid (show LiIn w5 A5 c5 bs.length O from ⟨hi5, hc5, hO.1, fun t ht => ((hO.2 t).1 ht).2⟩)
      have HL5 := Lib.hid (HLl.out.next hb5)
      have HB5 := Lib.hid ((HEo.out.or HEl.out HLo.out.2.2 HLl.out.2.2 hO).congr (fun i j' _ => below_more hge i j'))
      clear hO hb5 hi5 hc5 HJn HF HLl HLo HEo x0 x1 x2 x3 x4 x5 x6 x7 lx
      dsimp only
      obtain ⟨b, o, C, capc, hBe, hbb, hkl, ⟨q0, q1, q2, q3, q4, q5, q6, q7⟩, hkz⟩ := (HT.out.below (HF5).out.below).get (show x.kids.list[0]? = some y by rw [HKids.out]; rfl)
      subst hBe
      rw [Nat.zero_mul, Nat.add_zero] at q0 q1 q2 q3 q4 q5 q6 q7
      have hblk := World.block_lt_of_cell? w5 _ q0
      have hdc : (0 : Int) < (cap : Int) := by have := HCap.out; have := HOne.out; omega
      have hdo : (0 : Int) < (x.kids.len : Int) := by have := HOne.out; omega
      obtain ⟨x0, x1, x2, x3, x4, x5, x6, x7⟩ : _ ∧ _ ∧ _ ∧ _ ∧ _ ∧ _ ∧ _ ∧ _ := ⟨((HF5).out.box).cell 0, ((HF5).out.box).cell 1, ((HF5).out.box).cell 2, ((HF5).out.box).cell 3, ((HF5).out.box).cell 4, ((HF5).out.box).cell 5, ((HF5).out.box).cell 6, ((HF5).out.box).cell 7⟩
      simp only [List.getElem?_toArray, List.getElem?_cons_zero, List.getElem?_cons_succ, ndA] at x0 x1 x2 x3 x4 x5 x6 x7
      rw [HK.out] at x0
      have lx := ((HF5).out.box).lt
      have HC := Lib.hid (HY.out.at_ HBl.out (HF5).out.below hkz hkl HVb.out HCv.out (HL5).out)
      go_wp2_with fail
      unfold ndV at HC
      refine HC.out.mono ?_
      rintro e w7 ⟨R, A7, c7, hR, rfl, hb7, hi7, hc7⟩
      have HF7 := Lib.hid ((HF5).out.next hb7)
      have HL7 := Lib.hid (show LiIn w7 A7 c7 bs.length R from ⟨hi7, hc7, hR.within (HL5).out.2.2 (fun i j h1 h2 => rel_len y bs h1 h2)⟩)
      have HO7 := Lib.hid ((HO5).out.next hb7)
      have HI7 := Lib.hid (HEl.out.next hR)
      clear hR hb7 hi7 hc7 HC x0 x1 x2 x3 x4 x5 x6 x7 lx q0 q1 q2 q3 q4 q5 q6 q7 hblk hkz hkl hbb
      dsimp only
      by_cases hn : R.length = 0
      ·obtain rfl : R = [] := List.eq_nil_of_length_eq_zero hn
       clear hn
       go_wp2
       go_light
       go_ret
       exact ⟨O, A5, c5, (HB5.out.congr (fun i j' hi' => below_stop HI7.out hi (by omega) hi')).congr (fun i j' _ => by rw [← HLoE.out, ← HHiE.out]; exact (HRel.out i j').symm), rfl, HF7.out.below, HO7.out.1, HO7.out.2.1⟩
      ·have hne : ((R.length : Int) == 0) = false := by rw [beq_eq_false_iff_ne]; omega
       go_wp2
       refine ⟨⟨k + 1, A7, c7, R, _, _, _, by rw [show ((k + 1 : Nat) : Int) = (k : Int) + 1 by omega], rfl, rfl, by omega, HF7, HL7, HO7, HI7, HB5, Lib.hid (by omega)⟩, ?_⟩
       simp [intOf]
       omega
     ·first
       | (exact absurd hge (by have := HLz.out; omega))
       | skip
      all_goals
       have hdg : ¬ 1 ≤ (k : Int) := by have := HLz.out; omega
       have HB5 := Lib.hid (below_next0 HEo.out (by omega))
       clear HEo x0 x1 x2 x3 x4 x5 x6 x7 lx
       obtain ⟨b, o, C, capc, hBe, hbb, hkl, ⟨q0, q1, q2, q3, q4, q5, q6, q7⟩, hkz⟩ := (HT.out.below (HF).out.below).get (show x.kids.list[0]? = some y by rw [HKids.out]; rfl)
       subst hBe
       rw [Nat.zero_mul, Nat.add_zero] at q0 q1 q2 q3 q4 q5 q6 q7
       have hblk := World.block_lt_of_cell? wr _ q0
       have hdc : (0 : Int) < (cap : Int) := by have := HCap.out; have := HOne.out; omega
       have hdo : (0 : Int) < (x.kids.len : Int) := by have := HOne.out; omega
       obtain ⟨x0, x1, x2, x3, x4, x5, x6, x7⟩ : _ ∧ _ ∧ _ ∧ _ ∧ _ ∧ _ ∧ _ ∧ _ := ⟨((HF).out.box).cell 0, ((HF).out.box).cell 1, ((HF).out.box).cell 2, ((HF).out.box).cell 3, ((HF).out.box).cell 4, ((HF).out.box).cell 5, ((HF).out.box).cell 6, ((HF).out.box).cell 7⟩
       simp only [List.getElem?_toArray, List.getElem?_cons_zero, List.getElem?_cons_succ, ndA] at x0 x1 x2 x3 x4 x5 x6 x7
       rw [HK.out] at x0
       have lx := ((HF).out.box).lt
       have HC := Lib.hid (HY.out.at_ HBl.out (HF).out.below hkz hkl HVb.out HCv.out (HLl).out)
       go_wp2_with fail
       unfold ndV at HC
       refine HC.out.mono ?_
       rintro e w7 ⟨R, A7, c7, hR, rfl, hb7, hi7, hc7⟩
       have HF7 := Lib.hid ((HF).out.next hb7)
       have HL7 := Lib.hid (show LiIn w7 A7 c7 bs.length R from ⟨hi7, hc7, hR.within (HLl).out.2.2 (fun i j h1 h2 => rel_len y bs h1 h2)⟩)
       have HO7 := Lib.hid ((HLo).out.next hb7)
       have HI7 := Lib.hid (HEl.out.next hR)
       clear hR hb7 hi7 hc7 HC x0 x1 x2 x3 x4 x5 x6 x7 lx q0 q1 q2 q3 q4 q5 q6 q7 hblk hkz hkl hbb
       dsimp only
       by_cases hn : R.length = 0
       ·obtain rfl : R = [] := List.eq_nil_of_length_eq_zero hn
        clear hn
        go_wp2
        go_light
        go_ret
        exact ⟨[], none, 0, (ends_stop HI7.out (lo := (lo : Int)) (hi := hi) (by omega)).congr (fun i j' _ => by rw [← HLoE.out, ← HHiE.out]; exact (HRel.out i j').symm), rfl, HF7.out.below, (fun i a ha => by simp at ha), Nat.le_refl _⟩
       ·have hne : ((R.length : Int) == 0) = false := by rw [beq_eq_false_iff_ne]; omega
        go_wp2
        refine ⟨⟨k + 1, A7, c7, R, _, _, _, by rw [show ((k + 1 : Nat) : Int) = (k : Int) + 1 by omega], rfl, rfl, by omega, HF7, HL7, HO7, HI7, HB5, Lib.hid (by omega)⟩, ?_⟩
        simp [intOf]
        omega
   ·first
     | (exact absurd (show hi < 0 by have := HHz.out; omega) hc2)
     | skip
    all_goals
     have hd2 : ¬ -1 < 0 := by have := HHz.out; omega
     by_cases hc3 : (k : Int) ≤ hi
     ·have hd3 : (k : Int) ≤ -1 := by have := HHz.out; omega
      by_cases hge : lo ≤ k
      ·have hdg : 1 ≤ (k : Int) := by have := HLz.out; omega
       have HJn := Lib.hid (rjoin11_go Ao Al co cl Lo Ll bs.length wr HLo.out.1 HLl.out.1 (by have := places_short HLo.out.2.2; have := HBl.out; omega) (by have := places_short HLl.out.2.2; have := HBl.out; omega) (by have := HBl.out; omega))
       go_wp2_with fail
       refine HJn.out.mono ?_
       rintro e w5 ⟨O, A5, c5, hO, rfl, hb5, hi5, hc5⟩
       have HF5 := Lib.hid (HF.out.next hb5)
       have HO5 := Lib.hid (show LiIn w5 A5 c5 bs.length O from ⟨hi5, hc5, hO.1, fun t ht => ((hO.2 t).1 ht).2⟩)
       have HL5 := Lib.hid (HLl.out.next hb5)
       have HB5 := Lib.hid ((HEo.out.or HEl.out HLo.out.2.2 HLl.out.2.2 hO).congr (fun i j' _ => below_more hge i j'))
       clear hO hb5 hi5 hc5 HJn HF HLl HLo HEo x0 x1 x2 x3 x4 x5 x6 x7 lx
       dsimp only
       obtain ⟨b, o, C, capc, hBe, hbb, hkl, ⟨q0, q1, q2, q3, q4, q5, q6, q7⟩, hkz⟩ := (HT.out.below (HF5).out.below).get (show x.kids.list[0]? = some y by rw [HKids.out]; rfl)
       subst hBe
       rw [Nat.zero_mul, Nat.add_zero] at q0 q1 q2 q3 q4 q5 q6 q7
       have hblk := World.block_lt_of_cell? w5 _ q0
       have hdc : (0 : Int) < (cap : Int) := by have := HCap.out; have := HOne.out; omega
       have hdo : (0 : Int) < (x.kids.len : Int) := by have := HOne.out; omega
       obtain ⟨x0, x1, x2, x3, x4, x5, x6, x7⟩ : _ ∧ _ ∧ _ ∧ _ ∧ _ ∧ _ ∧ _ ∧ _ := ⟨((HF5).out.box).cell 0, ((HF5).out.box).cell 1, ((HF5).out.box).cell 2, ((HF5).out.box).cell 3, ((HF5).out.box).cell 4, ((HF5).out.box).cell 5, ((HF5).out.box).cell 6, ((HF5).out.box).cell 7⟩
       simp only [List.getElem?_toArray, List.getElem?_cons_zero, List.getElem?_cons_succ, ndA] at x0 x1 x2 x3 x4 x5 x6 x7
       rw [HK.out] at x0
       have lx := ((HF5).out.box).lt
       have HC := Lib.hid (HY.out.at_ HBl.out (HF5).out.below hkz hkl HVb.out HCv.out (HL5).out)
       go_wp2_with fail
       unfold ndV at HC
       refine HC.out.mono ?_
       rintro e w7 ⟨R, A7, c7, hR, rfl, hb7, hi7, hc7⟩
       have HF7 := Lib.hid ((HF5).out.next hb7)
       have HL7 := Lib.hid (show LiIn w7 A7 c7 bs.length R from ⟨hi7, hc7, hR.within (HL5).out.2.2 (fun i j h1 h2 => rel_len y bs h1 h2)⟩)
       have HO7 := Lib.hid ((HO5).out.next hb7)
       have HI7 := Lib.hid (HEl.out.next hR)
       clear hR hb7 hi7 hc7 HC x0 x1 x2 x3 x4 x5 x6 x7 lx q0 q1 q2 q3 q4 q5 q6 q7 hblk hkz hkl hbb
       dsimp only
       by_cases hn : R.length = 0
       ·obtain rfl : R = [] := List.eq_nil_of_length_eq_zero hn
        clear hn
        go_wp2
        go_light
        go_ret
        exact ⟨O, A5, c5, (HB5.out.congr (fun i j' hi' => below_stop HI7.out hi (by omega) hi')).congr (fun i j' _ => by rw [← HLoE.out, ← HHiE.out]; exact (HRel.out i j').symm), rfl, HF7.out.below, HO7.out.1, HO7.out.2.1⟩
       ·have hne : ((R.length : Int) == 0) = false := by rw [beq_eq_false_iff_ne]; omega
        go_wp2
        refine ⟨⟨k + 1, A7, c7, R, _, _, _, by rw [show ((k + 1 : Nat) : Int) = (k : Int) + 1 by omega], rfl, rfl, by omega, HF7, HL7, HO7, HI7, HB5, Lib.hid (by omega)⟩, ?_⟩
        simp [intOf]
        omega
      ·first
        | (exact absurd hge (by have := HLz.out; omega))
        | skip
       all_goals
        have hdg : ¬ 1 ≤ (k : Int) := by have := HLz.out; omega
        have HB5 := Lib.hid (below_next0 HEo.out (by omega))
        clear HEo x0 x1 x2 x3 x4 x5 x6 x7 lx
        obtain ⟨b, o, C, capc, hBe, hbb, hkl, ⟨q0, q1, q2, q3, q4, q5, q6, q7⟩, hkz⟩ := (HT.out.below (HF).out.below).get (show x.kids.list[0]? = some y by rw [HKids.out]; rfl)
        subst hBe
        rw [Nat.zero_mul, Nat.add_zero] at q0 q1 q2 q3 q4 q5 q6 q7
        have hblk := World.block_lt_of_cell? wr _ q0
        have hdc : (0 : Int) < (cap : Int) := by have := HCap.out; have := HOne.out; omega
        have hdo : (0 : Int) < (x.kids.len : Int) := by have := HOne.out; omega
        obtain ⟨x0, x1, x2, x3, x4, x5, x6, x7⟩ : _ ∧ _ ∧ _ ∧ _ ∧ _ ∧ _ ∧ _ ∧ _ := ⟨((HF).out.box).cell 0, ((HF).out.box).cell 1, ((HF).out.box).cell 2, ((HF).out.box).cell 3, ((HF).out.box).cell 4, ((HF).out.box).cell 5, ((HF).out.box).cell 6, ((HF).out.box).cell 7⟩
        simp only [List.getElem?_toArray, List.getElem?_cons_zero, List.getElem?_cons_succ, ndA] at x0 x1 x2 x3 x4 x5 x6 x7
        rw [HK.out] at x0
        have lx := ((HF).out.box).lt
        have HC := Lib.hid (HY.out.at_ HBl.out (HF).out.below hkz hkl HVb.out HCv.out (HLl).out)
        go_wp2_with fail
        unfold ndV at HC
        refine HC.out.mono ?_
        rintro e w7 ⟨R, A7, c7, hR, rfl, hb7, hi7, hc7⟩
        have HF7 := Lib.hid ((HF).out.next hb7)
        have HL7 := Lib.hid (show LiIn w7 A7 c7 bs.length R from ⟨hi7, hc7, hR.within (HLl).out.2.2 (fun i j h1 h2 => rel_len y bs h1 h2)⟩)
        have HO7 := Lib.hid ((HLo).out.next hb7)
        have HI7 := Lib.hid (HEl.out.next hR)
        clear hR hb7 hi7 hc7 HC x0 x1 x2 x3 x4 x5 x6 x7 lx q0 q1 q2 q3 q4 q5 q6 q7 hblk hkz hkl hbb
        dsimp only
        by_cases hn : R.length = 0
        ·obtain rfl : R = [] := List.eq_nil_of_length_eq_zero hn
         clear hn
         go_wp2
         go_light
         go_ret
         exact ⟨[], none, 0, (ends_stop HI7.out (lo := (lo : Int)) (hi := hi) (by omega)).congr (fun i j' _ => by rw [← HLoE.out, ← HHiE.out]; exact (HRel.out i j').symm), rfl, HF7.out.below, (fun i a ha => by simp at ha), Nat.le_refl _⟩
        ·have hne : ((R.length : Int) == 0) = false := by rw [beq_eq_false_iff_ne]; omega
         go_wp2
         refine ⟨⟨k + 1, A7, c7, R, _, _, _, by rw [show ((k + 1 : Nat) : Int) = (k : Int) + 1 by omega], rfl, rfl, by omega, HF7, HL7, HO7, HI7, HB5, Lib.hid (by omega)⟩, ?_⟩
         simp [intOf]
         omega
     ·have hd3 : ¬ (k : Int) ≤ -1 := by have := HHz.out; omega
      have HX := Lib.hid (show EndsL (x.rel bs) L Lo from (HEo.out.congr (fun i j' _ => show belowR (y.rel bs) lo k i j' ↔ repR (lo : Int) hi (y.rel bs) i j' from by
       obtain ⟨h', hh'⟩ := Int.eq_ofNat_of_zero_le (show 0 ≤ hi by omega)
       obtain rfl : k = h' + 1 := by omega
       rw [hh']
       exact below_hi i j')).congr (fun i j' _ => by rw [← HLoE.out, ← HHiE.out]; exact (HRel.out i j').symm))
      clear hnum hki
      go_wp2
      go_light
      go_ret
      exact ⟨Lo, Ao, co, HX.out, rfl, HF.out.below, HLo.out.1, HLo.out.2.1⟩
  ·have hd1 : ¬ (k : Int) ≤ 1 + (bs.length : Int) + 1 := by have := HLz.out; omega
   have HX := Lib.hid (show EndsL (x.rel bs) L Lo from (HEo.out.congr (fun i j' hi' => below_all (fun i j h => rel_up y bs h) (n := bs.length) (fun i j h1 h2 => rel_len y bs h1 h2) (by omega) hi (by omega) (by have := (HL.out.2.2.2 _ hi').2; omega))).congr (fun i j' _ => by rw [← HLoE.out, ← HHiE.out]; exact (HRel.out i j').symm))
   clear hnum hki
   go_wp2
   go_light
   go_ret
   exact ⟨Lo, Ao, co, HX.out, rfl, HF.out.below, HLo.out.1, HLo.out.2.1⟩
theorem from_opt {x y : Nd} {bs : List Nat} (hk : x.kind = 8) (hy : x.kids.list = [y]) (hK : ∀ y ∈ x.kids.list, FromC bs y) : FromC bs x := by
 have h1 : 0 ≤ loK x ∧ loK x ≤ 1000 ∧ -1 ≤ hiK x ∧ hiK x ≤ 1000 := by unfold loK hiK; simp [hk]
 obtain ⟨lo, hlo⟩ : ∃ lo : Nat, loK x = (lo : Int) := ⟨(loK x).toNat, by have := h1.1; omega⟩
 obtain ⟨hi, hhi⟩ : ∃ hi : Int, hiK x = hi := ⟨_, rfl⟩
 have HLoE := Lib.hid hlo
 have HHiE := Lib.hid hhi
 have HNum := Lib.hid (show lo ≤ 1000 ∧ -1 ≤ hi ∧ hi ≤ 1000 from by rw [← hhi]; have := h1.2; omega)
 have HLz := Lib.hid (show (lo : Int) = 0 by rw [← hlo]; unfold loK; simp [hk])
 have HHz := Lib.hid (show hi = 1 by rw [← hhi]; unfold hiK; simp [hk])
 clear hlo hhi h1
 have hk2 : 6 ≤ x.kind ∧ x.kind ≤ 9 := by omega
 have HRel := Lib.hid (fun i j => rel_any (z := x) hk2.1 hk2.2 hy bs i j)
 have HY := Lib.hid (hK y (by rw [hy]; simp))
 have HKids := Lib.hid hy
 have hone : x.kids.len = 1 := by rw [← Trees.len_list, hy]; rfl
 have HOne := Lib.hid hone
 clear hK hy hk2 hone
 intro hbl B cap V cv A ca L w ht hcap hV hcv hA hca hP
 have HBl := Lib.hid hbl
 have HK := Lib.hid hk
 obtain ⟨W0, hW0⟩ : ∃ W0, (w.alloc (.cells (ndA x B cap) 28)).alloc (.cells #[] 3) = W0 := ⟨_, rfl⟩
 obtain ⟨hF, hR⟩ := from_made hW0
 have HF := Lib.hid hF
 have HT := Lib.hid ht
 have HVb := Lib.hid hV
 have HL := Lib.hid (show LiIn w A ca bs.length L from ⟨hA, hca, hP⟩)
 have HR := Lib.hid hR
 have HCap := Lib.hid hcap
 have HCv := Lib.hid hcv
 unfold ndA at hW0
 unfold ndV
 rw [hk] at hW0 ⊢
 obtain ⟨x0, x1, x2, x3, x4, x5, x6, x7⟩ : _ ∧ _ ∧ _ ∧ _ ∧ _ ∧ _ ∧ _ ∧ _ := ⟨(HF.out.box).cell 0, (HF.out.box).cell 1, (HF.out.box).cell 2, (HF.out.box).cell 3, (HF.out.box).cell 4, (HF.out.box).cell 5, (HF.out.box).cell 6, (HF.out.box).cell 7⟩
 simp only [List.getElem?_toArray, List.getElem?_cons_zero, List.getElem?_cons_succ, ndA] at x0 x1 x2 x3 x4 x5 x6 x7
 rw [HK.out] at x0
 have lx := (HF.out.box).lt
 clear ht hV hA hca hP hF hR hk hcap hcv hbl
 go_enter Tryd.func30, Tryd.ntmps30
 have hR0 := own_intsC HR.out
 have HR0 := Lib.hid hR0
 clear hR0
 go_wp2
 go_loopw [2, 7, 13] (fun v vo i' wr => ∃ (k : Nat) (Al : Option Addr) (cl : Nat) (Ll : List Int) (Ao : Option Addr) (co : Nat) (Lo : List Int), i' = .int .i64 (k : Int) ∧ v = .slice Al Ll.length cl ∧ vo = .slice Ao Lo.length co ∧ k ≤ lo + bs.length + 2 ∧ Hid (FrI w wr x B cap) ∧ Hid (LiIn wr Al cl bs.length Ll) ∧ Hid (LiIn wr Ao co bs.length Lo) ∧ Hid (EndsL (itR (y.rel bs) k) L Ll) ∧ Hid (EndsL (belowR (y.rel bs) lo k) L Lo) ∧ Hid (hi < 0 ∨ (k : Int) ≤ hi + 1)) (fun _ _ i' _ => lo + bs.length + 2 - (intOf i').toNat)
 case atStart => exact ⟨0, A, ca, L, _, 0, [], rfl, rfl, rfl, Nat.zero_le _, HF, Lib.hid (HL.out.next HF.out.below), Lib.hid ⟨HR0.out, Nat.le_refl _, places_none _⟩, Lib.hid (ends_id HL.out.2.2), Lib.hid (ends_none _ (below_none _ (Nat.zero_le _)) L), Lib.hid (by have := HNum.out; omega)⟩
 case round =>
  clear HF HR HR0 hW0 x0 x1 x2 x3 x4 x5 x6 x7 lx
  obtain ⟨k, Al, cl, Ll, Ao, co, Lo, rfl, rfl, rfl, hk, HF, HLl, HLo, HEl, HEo, HKi⟩ := hrel
  have hnum := HNum.out
  have hbl := HBl.out
  have hki := HKi.out
  (have hw1 : IntKind.i64.wrap (bs.length : Int) = (bs.length : Int) := by rw [IntKind.wrap_i64]; omega); (have hw2 : IntKind.i64.wrap ((bs.length : Int) + 1) = (bs.length : Int) + 1 := by rw [IntKind.wrap_i64]; omega)
  have hw3 : IntKind.i64.wrap ((k : Int) + 1) = (k : Int) + 1 := by rw [IntKind.wrap_i64]; omega
  obtain ⟨x0, x1, x2, x3, x4, x5, x6, x7⟩ : _ ∧ _ ∧ _ ∧ _ ∧ _ ∧ _ ∧ _ ∧ _ := ⟨(HF.out.box).cell 0, (HF.out.box).cell 1, (HF.out.box).cell 2, (HF.out.box).cell 3, (HF.out.box).cell 4, (HF.out.box).cell 5, (HF.out.box).cell 6, (HF.out.box).cell 7⟩
  simp only [List.getElem?_toArray, List.getElem?_cons_zero, List.getElem?_cons_succ, ndA] at x0 x1 x2 x3 x4 x5 x6 x7
  rw [HK.out] at x0
  have lx := (HF.out.box).lt
  by_cases hc1 : k ≤ lo + bs.length + 1
  ·have hd1 : (k : Int) ≤ (bs.length : Int) + 1 := by have := HLz.out; omega
   by_cases hc2 : hi < 0
   ·first
     | (exact absurd hc2 (by have := HHz.out; omega))
     | skip
    all_goals
     have hd2 : 1 < 0 := by have := HHz.out; omega
     by_cases hge : lo ≤ k
     ·have hdg : 0 ≤ (k : Int) := by have := HLz.out; omega
      have HJn := Lib.hid (rjoin11_go Ao Al co cl Lo Ll bs.length wr HLo.out.1 HLl.out.1 (by have := places_short HLo.out.2.2; have := HBl.out; omega) (by have := places_short HLl.out.2.2; have := HBl.out; omega) (by have := HBl.out; omega))
      go_wp2_with fail
      refine HJn.out.mono ?_
      rintro e w5 ⟨O, A5, c5, hO, rfl, hb5, hi5, hc5⟩
      have HF5 := Lib.hid (HF.out.next hb5)
      have HO5 := Lib.hid (show LiIn w5 A5 c5 bs.length O from ⟨hi5, hc5, hO.1, fun t ht => ((hO.2 t).1 ht).2⟩)
      have HL5 := Lib.hid (HLl.out.next hb5)
      have HB5 := Lib.hid ((HEo.out.or HEl.out HLo.out.2.2 HLl.out.2.2 hO).congr (fun i j' _ => below_more hge i j'))
      clear hO hb5 hi5 hc5 HJn HF HLl HLo HEo x0 x1 x2 x3 x4 x5 x6 x7 lx
      dsimp only
      obtain ⟨b, o, C, capc, hBe, hbb, hkl, ⟨q0, q1, q2, q3, q4, q5, q6, q7⟩, hkz⟩ := (HT.out.below (HF5).out.below).get (show x.kids.list[0]? = some y by rw [HKids.out]; rfl)
      subst hBe
      rw [Nat.zero_mul, Nat.add_zero] at q0 q1 q2 q3 q4 q5 q6 q7
      have hblk := World.block_lt_of_cell? w5 _ q0
      have hdc : (0 : Int) < (cap : Int) := by have := HCap.out; have := HOne.out; omega
      have hdo : (0 : Int) < (x.kids.len : Int) := by have := HOne.out; omega
      obtain ⟨x0, x1, x2, x3, x4, x5, x6, x7⟩ : _ ∧ _ ∧ _ ∧ _ ∧ _ ∧ _ ∧ _ ∧ _ := ⟨((HF5).out.box).cell 0, ((HF5).out.box).cell 1, ((HF5).out.box).cell 2, ((HF5).out.box).cell 3, ((HF5).out.box).cell 4, ((HF5).out.box).cell 5, ((HF5).out.box).cell 6, ((HF5).out.box).cell 7⟩
      simp only [List.getElem?_toArray, List.getElem?_cons_zero, List.getElem?_cons_succ, ndA] at x0 x1 x2 x3 x4 x5 x6 x7
      rw [HK.out] at x0
      have lx := ((HF5).out.box).lt
      have HC := Lib.hid (HY.out.at_ HBl.out (HF5).out.below hkz hkl HVb.out HCv.out (HL5).out)
      go_wp2_with fail
      unfold ndV at HC
      refine HC.out.mono ?_
      rintro e w7 ⟨R, A7, c7, hR, rfl, hb7, hi7, hc7⟩
      have HF7 := Lib.hid ((HF5).out.next hb7)
      have HL7 := Lib.hid (show LiIn w7 A7 c7 bs.length R from ⟨hi7, hc7, hR.within (HL5).out.2.2 (fun i j h1 h2 => rel_len y bs h1 h2)⟩)
      have HO7 := Lib.hid ((HO5).out.next hb7)
      have HI7 := Lib.hid (HEl.out.next hR)
      clear hR hb7 hi7 hc7 HC x0 x1 x2 x3 x4 x5 x6 x7 lx q0 q1 q2 q3 q4 q5 q6 q7 hblk hkz hkl hbb
      dsimp only
      by_cases hn : R.length = 0
      ·obtain rfl : R = [] := List.eq_nil_of_length_eq_zero hn
       clear hn
       go_wp2
       go_light
       go_ret
       exact ⟨O, A5, c5, (HB5.out.congr (fun i j' hi' => below_stop HI7.out hi (by omega) hi')).congr (fun i j' _ => by rw [← HLoE.out, ← HHiE.out]; exact (HRel.out i j').symm), rfl, HF7.out.below, HO7.out.1, HO7.out.2.1⟩
      ·have hne : ((R.length : Int) == 0) = false := by rw [beq_eq_false_iff_ne]; omega
       go_wp2
       refine ⟨⟨k + 1, A7, c7, R, _, _, _, by rw [show ((k + 1 : Nat) : Int) = (k : Int) + 1 by omega], rfl, rfl, by omega, HF7, HL7, HO7, HI7, HB5, Lib.hid (by omega)⟩, ?_⟩
       simp [intOf]
       omega
     ·first
       | (exact absurd hge (by have := HLz.out; omega))
       | skip
      all_goals
       have hdg : ¬ 0 ≤ (k : Int) := by have := HLz.out; omega
       have HB5 := Lib.hid (below_next0 HEo.out (by omega))
       clear HEo x0 x1 x2 x3 x4 x5 x6 x7 lx
       obtain ⟨b, o, C, capc, hBe, hbb, hkl, ⟨q0, q1, q2, q3, q4, q5, q6, q7⟩, hkz⟩ := (HT.out.below (HF).out.below).get (show x.kids.list[0]? = some y by rw [HKids.out]; rfl)
       subst hBe
       rw [Nat.zero_mul, Nat.add_zero] at q0 q1 q2 q3 q4 q5 q6 q7
       have hblk := World.block_lt_of_cell? wr _ q0
       have hdc : (0 : Int) < (cap : Int) := by have := HCap.out; have := HOne.out; omega
       have hdo : (0 : Int) < (x.kids.len : Int) := by have := HOne.out; omega
       obtain ⟨x0, x1, x2, x3, x4, x5, x6, x7⟩ : _ ∧ _ ∧ _ ∧ _ ∧ _ ∧ _ ∧ _ ∧ _ := ⟨((HF).out.box).cell 0, ((HF).out.box).cell 1, ((HF).out.box).cell 2, ((HF).out.box).cell 3, ((HF).out.box).cell 4, ((HF).out.box).cell 5, ((HF).out.box).cell 6, ((HF).out.box).cell 7⟩
       simp only [List.getElem?_toArray, List.getElem?_cons_zero, List.getElem?_cons_succ, ndA] at x0 x1 x2 x3 x4 x5 x6 x7
       rw [HK.out] at x0
       have lx := ((HF).out.box).lt
       have HC := Lib.hid (HY.out.at_ HBl.out (HF).out.below hkz hkl HVb.out HCv.out (HLl).out)
       go_wp2_with fail
       unfold ndV at HC
       refine HC.out.mono ?_
       rintro e w7 ⟨R, A7, c7, hR, rfl, hb7, hi7, hc7⟩
       have HF7 := Lib.hid ((HF).out.next hb7)
       have HL7 := Lib.hid (show LiIn w7 A7 c7 bs.length R from ⟨hi7, hc7, hR.within (HLl).out.2.2 (fun i j h1 h2 => rel_len y bs h1 h2)⟩)
       have HO7 := Lib.hid ((HLo).out.next hb7)
       have HI7 := Lib.hid (HEl.out.next hR)
       clear hR hb7 hi7 hc7 HC x0 x1 x2 x3 x4 x5 x6 x7 lx q0 q1 q2 q3 q4 q5 q6 q7 hblk hkz hkl hbb
       dsimp only
       by_cases hn : R.length = 0
       ·obtain rfl : R = [] := List.eq_nil_of_length_eq_zero hn
        clear hn
        go_wp2
        go_light
        go_ret
        exact ⟨[], none, 0, (ends_stop HI7.out (lo := (lo : Int)) (hi := hi) (by omega)).congr (fun i j' _ => by rw [← HLoE.out, ← HHiE.out]; exact (HRel.out i j').symm), rfl, HF7.out.below, (fun i a ha => by simp at ha), Nat.le_refl _⟩
       ·have hne : ((R.length : Int) == 0) = false := by rw [beq_eq_false_iff_ne]; omega
        go_wp2
        refine ⟨⟨k + 1, A7, c7, R, _, _, _, by rw [show ((k + 1 : Nat) : Int) = (k : Int) + 1 by omega], rfl, rfl, by omega, HF7, HL7, HO7, HI7, HB5, Lib.hid (by omega)⟩, ?_⟩
        simp [intOf]
        omega
   ·first
     | (exact absurd (show hi < 0 by have := HHz.out; omega) hc2)
     | skip
    all_goals
     have hd2 : ¬ 1 < 0 := by have := HHz.out; omega
     by_cases hc3 : (k : Int) ≤ hi
     ·have hd3 : (k : Int) ≤ 1 := by have := HHz.out; omega
      by_cases hge : lo ≤ k
      ·have hdg : 0 ≤ (k : Int) := by have := HLz.out; omega
       have HJn := Lib.hid (rjoin11_go Ao Al co cl Lo Ll bs.length wr HLo.out.1 HLl.out.1 (by have := places_short HLo.out.2.2; have := HBl.out; omega) (by have := places_short HLl.out.2.2; have := HBl.out; omega) (by have := HBl.out; omega))
       go_wp2_with fail
       refine HJn.out.mono ?_
       rintro e w5 ⟨O, A5, c5, hO, rfl, hb5, hi5, hc5⟩
       have HF5 := Lib.hid (HF.out.next hb5)
       have HO5 := Lib.hid (show LiIn w5 A5 c5 bs.length O from ⟨hi5, hc5, hO.1, fun t ht => ((hO.2 t).1 ht).2⟩)
       have HL5 := Lib.hid (HLl.out.next hb5)
       have HB5 := Lib.hid ((HEo.out.or HEl.out HLo.out.2.2 HLl.out.2.2 hO).congr (fun i j' _ => below_more hge i j'))
       clear hO hb5 hi5 hc5 HJn HF HLl HLo HEo x0 x1 x2 x3 x4 x5 x6 x7 lx
       dsimp only
       obtain ⟨b, o, C, capc, hBe, hbb, hkl, ⟨q0, q1, q2, q3, q4, q5, q6, q7⟩, hkz⟩ := (HT.out.below (HF5).out.below).get (show x.kids.list[0]? = some y by rw [HKids.out]; rfl)
       subst hBe
       rw [Nat.zero_mul, Nat.add_zero] at q0 q1 q2 q3 q4 q5 q6 q7
       have hblk := World.block_lt_of_cell? w5 _ q0
       have hdc : (0 : Int) < (cap : Int) := by have := HCap.out; have := HOne.out; omega
       have hdo : (0 : Int) < (x.kids.len : Int) := by have := HOne.out; omega
       obtain ⟨x0, x1, x2, x3, x4, x5, x6, x7⟩ : _ ∧ _ ∧ _ ∧ _ ∧ _ ∧ _ ∧ _ ∧ _ := ⟨((HF5).out.box).cell 0, ((HF5).out.box).cell 1, ((HF5).out.box).cell 2, ((HF5).out.box).cell 3, ((HF5).out.box).cell 4, ((HF5).out.box).cell 5, ((HF5).out.box).cell 6, ((HF5).out.box).cell 7⟩
       simp only [List.getElem?_toArray, List.getElem?_cons_zero, List.getElem?_cons_succ, ndA] at x0 x1 x2 x3 x4 x5 x6 x7
       rw [HK.out] at x0
       have lx := ((HF5).out.box).lt
       have HC := Lib.hid (HY.out.at_ HBl.out (HF5).out.below hkz hkl HVb.out HCv.out (HL5).out)
       go_wp2_with fail
       unfold ndV at HC
       refine HC.out.mono ?_
       rintro e w7 ⟨R, A7, c7, hR, rfl, hb7, hi7, hc7⟩
       have HF7 := Lib.hid ((HF5).out.next hb7)
       have HL7 := Lib.hid (show LiIn w7 A7 c7 bs.length R from ⟨hi7, hc7, hR.within (HL5).out.2.2 (fun i j h1 h2 => rel_len y bs h1 h2)⟩)
       have HO7 := Lib.hid ((HO5).out.next hb7)
       have HI7 := Lib.hid (HEl.out.next hR)
       clear hR hb7 hi7 hc7 HC x0 x1 x2 x3 x4 x5 x6 x7 lx q0 q1 q2 q3 q4 q5 q6 q7 hblk hkz hkl hbb
       dsimp only
       by_cases hn : R.length = 0
       ·obtain rfl : R = [] := List.eq_nil_of_length_eq_zero hn
        clear hn
        go_wp2
        go_light
        go_ret
        exact ⟨O, A5, c5, (HB5.out.congr (fun i j' hi' => below_stop HI7.out hi (by omega) hi')).congr (fun i j' _ => by rw [← HLoE.out, ← HHiE.out]; exact (HRel.out i j').symm), rfl, HF7.out.below, HO7.out.1, HO7.out.2.1⟩
       ·have hne : ((R.length : Int) == 0) = false := by rw [beq_eq_false_iff_ne]; omega
        go_wp2
        refine ⟨⟨k + 1, A7, c7, R, _, _, _, by rw [show ((k + 1 : Nat) : Int) = (k : Int) + 1 by omega], rfl, rfl, by omega, HF7, HL7, HO7, HI7, HB5, Lib.hid (by omega)⟩, ?_⟩
        simp [intOf]
        omega
      ·first
        | (exact absurd hge (by have := HLz.out; omega))
        | skip
       all_goals
        have hdg : ¬ 0 ≤ (k : Int) := by have := HLz.out; omega
        have HB5 := Lib.hid (below_next0 HEo.out (by omega))
        clear HEo x0 x1 x2 x3 x4 x5 x6 x7 lx
        obtain ⟨b, o, C, capc, hBe, hbb, hkl, ⟨q0, q1, q2, q3, q4, q5, q6, q7⟩, hkz⟩ := (HT.out.below (HF).out.below).get (show x.kids.list[0]? = some y by rw [HKids.out]; rfl)
        subst hBe
        rw [Nat.zero_mul, Nat.add_zero] at q0 q1 q2 q3 q4 q5 q6 q7
        have hblk := World.block_lt_of_cell? wr _ q0
        have hdc : (0 : Int) < (cap : Int) := by have := HCap.out; have := HOne.out; omega
        have hdo : (0 : Int) < (x.kids.len : Int) := by have := HOne.out; omega
        obtain ⟨x0, x1, x2, x3, x4, x5, x6, x7⟩ : _ ∧ _ ∧ _ ∧ _ ∧ _ ∧ _ ∧ _ ∧ _ := ⟨((HF).out.box).cell 0, ((HF).out.box).cell 1, ((HF).out.box).cell 2, ((HF).out.box).cell 3, ((HF).out.box).cell 4, ((HF).out.box).cell 5, ((HF).out.box).cell 6, ((HF).out.box).cell 7⟩
        simp only [List.getElem?_toArray, List.getElem?_cons_zero, List.getElem?_cons_succ, ndA] at x0 x1 x2 x3 x4 x5 x6 x7
        rw [HK.out] at x0
        have lx := ((HF).out.box).lt
        have HC := Lib.hid (HY.out.at_ HBl.out (HF).out.below hkz hkl HVb.out HCv.out (HLl).out)
        go_wp2_with fail
        unfold ndV at HC
        refine HC.out.mono ?_
        rintro e w7 ⟨R, A7, c7, hR, rfl, hb7, hi7, hc7⟩
        have HF7 := Lib.hid ((HF).out.next hb7)
        have HL7 := Lib.hid (show LiIn w7 A7 c7 bs.length R from ⟨hi7, hc7, hR.within (HLl).out.2.2 (fun i j h1 h2 => rel_len y bs h1 h2)⟩)
        have HO7 := Lib.hid ((HLo).out.next hb7)
        have HI7 := Lib.hid (HEl.out.next hR)
        clear hR hb7 hi7 hc7 HC x0 x1 x2 x3 x4 x5 x6 x7 lx q0 q1 q2 q3 q4 q5 q6 q7 hblk hkz hkl hbb
        dsimp only
        by_cases hn : R.length = 0
        ·obtain rfl : R = [] := List.eq_nil_of_length_eq_zero hn
         clear hn
         go_wp2
         go_light
         go_ret
         exact ⟨[], none, 0, (ends_stop HI7.out (lo := (lo : Int)) (hi := hi) (by omega)).congr (fun i j' _ => by rw [← HLoE.out, ← HHiE.out]; exact (HRel.out i j').symm), rfl, HF7.out.below, (fun i a ha => by simp at ha), Nat.le_refl _⟩
        ·have hne : ((R.length : Int) == 0) = false := by rw [beq_eq_false_iff_ne]; omega
         go_wp2
         refine ⟨⟨k + 1, A7, c7, R, _, _, _, by rw [show ((k + 1 : Nat) : Int) = (k : Int) + 1 by omega], rfl, rfl, by omega, HF7, HL7, HO7, HI7, HB5, Lib.hid (by omega)⟩, ?_⟩
         simp [intOf]
         omega
     ·have hd3 : ¬ (k : Int) ≤ 1 := by have := HHz.out; omega
      have HX := Lib.hid (show EndsL (x.rel bs) L Lo from (HEo.out.congr (fun i j' _ => show belowR (y.rel bs) lo k i j' ↔ repR (lo : Int) hi (y.rel bs) i j' from by
       obtain ⟨h', hh'⟩ := Int.eq_ofNat_of_zero_le (show 0 ≤ hi by omega)
       obtain rfl : k = h' + 1 := by omega
       rw [hh']
       exact below_hi i j')).congr (fun i j' _ => by rw [← HLoE.out, ← HHiE.out]; exact (HRel.out i j').symm))
      clear hnum hki
      go_wp2
      go_light
      go_ret
      exact ⟨Lo, Ao, co, HX.out, rfl, HF.out.below, HLo.out.1, HLo.out.2.1⟩
  ·have hd1 : ¬ (k : Int) ≤ (bs.length : Int) + 1 := by have := HLz.out; omega
   have HX := Lib.hid (show EndsL (x.rel bs) L Lo from (HEo.out.congr (fun i j' hi' => below_all (fun i j h => rel_up y bs h) (n := bs.length) (fun i j h1 h2 => rel_len y bs h1 h2) (by omega) hi (by omega) (by have := (HL.out.2.2.2 _ hi').2; omega))).congr (fun i j' _ => by rw [← HLoE.out, ← HHiE.out]; exact (HRel.out i j').symm))
   clear hnum hki
   go_wp2
   go_light
   go_ret
   exact ⟨Lo, Ao, co, HX.out, rfl, HF.out.below, HLo.out.1, HLo.out.2.1⟩
theorem from_rep {x y : Nd} {bs : List Nat} (hk : x.kind = 9) (hy : x.kids.list = [y]) (hK : ∀ y ∈ x.kids.list, FromC bs y) (hn : 0 ≤ x.lo ∧ x.lo ≤ 1000 ∧ -1 ≤ x.hi ∧ x.hi ≤ 1000) : FromC bs x := by
 have h1 : 0 ≤ loK x ∧ loK x ≤ 1000 ∧ -1 ≤ hiK x ∧ hiK x ≤ 1000 := by
  unfold loK hiK
  rw [hk]
  exact hn
 obtain ⟨lo, hlo⟩ : ∃ lo : Nat, loK x = (lo : Int) := ⟨(loK x).toNat, by have := h1.1; omega⟩
 obtain ⟨hi, hhi⟩ : ∃ hi : Int, hiK x = hi := ⟨_, rfl⟩
 have HLoE := Lib.hid hlo
 have HHiE := Lib.hid hhi
 have HNum := Lib.hid (show lo ≤ 1000 ∧ -1 ≤ hi ∧ hi ≤ 1000 from by rw [← hhi]; have := h1.2; omega)
 have HLz := Lib.hid (show (lo : Int) = x.lo by rw [← hlo]; unfold loK; rw [hk]; rfl)
 have HHz := Lib.hid (show hi = x.hi by rw [← hhi]; unfold hiK; rw [hk]; rfl)
 clear hlo hhi h1 hn
 have hk2 : 6 ≤ x.kind ∧ x.kind ≤ 9 := by omega
 have HRel := Lib.hid (fun i j => rel_any (z := x) hk2.1 hk2.2 hy bs i j)
 have HY := Lib.hid (hK y (by rw [hy]; simp))
 have HKids := Lib.hid hy
 have hone : x.kids.len = 1 := by rw [← Trees.len_list, hy]; rfl
 have HOne := Lib.hid hone
 clear hK hy hk2 hone
 intro hbl B cap V cv A ca L w ht hcap hV hcv hA hca hP
 have HBl := Lib.hid hbl
 have HK := Lib.hid hk
 obtain ⟨W0, hW0⟩ : ∃ W0, (w.alloc (.cells (ndA x B cap) 28)).alloc (.cells #[] 3) = W0 := ⟨_, rfl⟩
 obtain ⟨hF, hR⟩ := from_made hW0
 have HF := Lib.hid hF
 have HT := Lib.hid ht
 have HVb := Lib.hid hV
 have HL := Lib.hid (show LiIn w A ca bs.length L from ⟨hA, hca, hP⟩)
 have HR := Lib.hid hR
 have HCap := Lib.hid hcap
 have HCv := Lib.hid hcv
 unfold ndA at hW0
 unfold ndV
 rw [hk] at hW0 ⊢
 obtain ⟨x0, x1, x2, x3, x4, x5, x6, x7⟩ : _ ∧ _ ∧ _ ∧ _ ∧ _ ∧ _ ∧ _ ∧ _ := ⟨(HF.out.box).cell 0, (HF.out.box).cell 1, (HF.out.box).cell 2, (HF.out.box).cell 3, (HF.out.box).cell 4, (HF.out.box).cell 5, (HF.out.box).cell 6, (HF.out.box).cell 7⟩
 simp only [List.getElem?_toArray, List.getElem?_cons_zero, List.getElem?_cons_succ, ndA] at x0 x1 x2 x3 x4 x5 x6 x7
 rw [HK.out] at x0
 have lx := (HF.out.box).lt
 clear ht hV hA hca hP hF hR hk hcap hcv hbl
 go_enter Tryd.func30, Tryd.ntmps30
 have hR0 := own_intsC HR.out
 have HR0 := Lib.hid hR0
 clear hR0
 go_wp2
 go_loopw [2, 7, 13] (fun v vo i' wr => ∃ (k : Nat) (Al : Option Addr) (cl : Nat) (Ll : List Int) (Ao : Option Addr) (co : Nat) (Lo : List Int), i' = .int .i64 (k : Int) ∧ v = .slice Al Ll.length cl ∧ vo = .slice Ao Lo.length co ∧ k ≤ lo + bs.length + 2 ∧ Hid (FrI w wr x B cap) ∧ Hid (LiIn wr Al cl bs.length Ll) ∧ Hid (LiIn wr Ao co bs.length Lo) ∧ Hid (EndsL (itR (y.rel bs) k) L Ll) ∧ Hid (EndsL (belowR (y.rel bs) lo k) L Lo) ∧ Hid (hi < 0 ∨ (k : Int) ≤ hi + 1)) (fun _ _ i' _ => lo + bs.length + 2 - (intOf i').toNat)
 case atStart => exact ⟨0, A, ca, L, _, 0, [], rfl, rfl, rfl, Nat.zero_le _, HF, Lib.hid (HL.out.next HF.out.below), Lib.hid ⟨HR0.out, Nat.le_refl _, places_none _⟩, Lib.hid (ends_id HL.out.2.2), Lib.hid (ends_none _ (below_none _ (Nat.zero_le _)) L), Lib.hid (by have := HNum.out; omega)⟩
 case round =>
  clear HF HR HR0 hW0 x0 x1 x2 x3 x4 x5 x6 x7 lx
  obtain ⟨k, Al, cl, Ll, Ao, co, Lo, rfl, rfl, rfl, hk, HF, HLl, HLo, HEl, HEo, HKi⟩ := hrel
  have hnum := HNum.out
  have hbl := HBl.out
  have hki := HKi.out
  (have hlz := HLz.out); (have hw1 : IntKind.i64.wrap (x.lo + (bs.length : Int)) = x.lo + (bs.length : Int) := by rw [IntKind.wrap_i64]; omega); (have hw2 : IntKind.i64.wrap (x.lo + (bs.length : Int) + 1) = x.lo + (bs.length : Int) + 1 := by rw [IntKind.wrap_i64]; omega); (clear hlz)
  have hw3 : IntKind.i64.wrap ((k : Int) + 1) = (k : Int) + 1 := by rw [IntKind.wrap_i64]; omega
  obtain ⟨x0, x1, x2, x3, x4, x5, x6, x7⟩ : _ ∧ _ ∧ _ ∧ _ ∧ _ ∧ _ ∧ _ ∧ _ := ⟨(HF.out.box).cell 0, (HF.out.box).cell 1, (HF.out.box).cell 2, (HF.out.box).cell 3, (HF.out.box).cell 4, (HF.out.box).cell 5, (HF.out.box).cell 6, (HF.out.box).cell 7⟩
  simp only [List.getElem?_toArray, List.getElem?_cons_zero, List.getElem?_cons_succ, ndA] at x0 x1 x2 x3 x4 x5 x6 x7
  rw [HK.out] at x0
  have lx := (HF.out.box).lt
  by_cases hc1 : k ≤ lo + bs.length + 1
  ·have hd1 : (k : Int) ≤ x.lo + (bs.length : Int) + 1 := by have := HLz.out; omega
   by_cases hc2 : hi < 0
   ·first
     | (exact absurd hc2 (by have := HHz.out; omega))
     | skip
    all_goals
     have hd2 : x.hi < 0 := by have := HHz.out; omega
     by_cases hge : lo ≤ k
     ·have hdg : x.lo ≤ (k : Int) := by have := HLz.out; omega
      have HJn := Lib.hid (rjoin11_go Ao Al co cl Lo Ll bs.length wr HLo.out.1 HLl.out.1 (by have := places_short HLo.out.2.2; have := HBl.out; omega) (by have := places_short HLl.out.2.2; have := HBl.out; omega) (by have := HBl.out; omega))
      go_wp2_with fail
      refine HJn.out.mono ?_
      rintro e w5 ⟨O, A5, c5, hO, rfl, hb5, hi5, hc5⟩
      have HF5 := Lib.hid (HF.out.next hb5)
      have HO5 := Lib.hid (show LiIn w5 A5 c5 bs.length O from ⟨hi5, hc5, hO.1, fun t ht => ((hO.2 t).1 ht).2⟩)
      have HL5 := Lib.hid (HLl.out.next hb5)
      have HB5 := Lib.hid ((HEo.out.or HEl.out HLo.out.2.2 HLl.out.2.2 hO).congr (fun i j' _ => below_more hge i j'))
      clear hO hb5 hi5 hc5 HJn HF HLl HLo HEo x0 x1 x2 x3 x4 x5 x6 x7 lx
      dsimp only
      obtain ⟨b, o, C, capc, hBe, hbb, hkl, ⟨q0, q1, q2, q3, q4, q5, q6, q7⟩, hkz⟩ := (HT.out.below (HF5).out.below).get (show x.kids.list[0]? = some y by rw [HKids.out]; rfl)
      subst hBe
      rw [Nat.zero_mul, Nat.add_zero] at q0 q1 q2 q3 q4 q5 q6 q7
      have hblk := World.block_lt_of_cell? w5 _ q0
      have hdc : (0 : Int) < (cap : Int) := by have := HCap.out; have := HOne.out; omega
      have hdo : (0 : Int) < (x.kids.len : Int) := by have := HOne.out; omega
      obtain ⟨x0, x1, x2, x3, x4, x5, x6, x7⟩ : _ ∧ _ ∧ _ ∧ _ ∧ _ ∧ _ ∧ _ ∧ _ := ⟨((HF5).out.box).cell 0, ((HF5).out.box).cell 1, ((HF5).out.box).cell 2, ((HF5).out.box).cell 3, ((HF5).out.box).cell 4, ((HF5).out.box).cell 5, ((HF5).out.box).cell 6, ((HF5).out.box).cell 7⟩
      simp only [List.getElem?_toArray, List.getElem?_cons_zero, List.getElem?_cons_succ, ndA] at x0 x1 x2 x3 x4 x5 x6 x7
      rw [HK.out] at x0
      have lx := ((HF5).out.box).lt
      have HC := Lib.hid (HY.out.at_ HBl.out (HF5).out.below hkz hkl HVb.out HCv.out (HL5).out)
      go_wp2_with fail
      unfold ndV at HC
      refine HC.out.mono ?_
      rintro e w7 ⟨R, A7, c7, hR, rfl, hb7, hi7, hc7⟩
      have HF7 := Lib.hid ((HF5).out.next hb7)
      have HL7 := Lib.hid (show LiIn w7 A7 c7 bs.length R from ⟨hi7, hc7, hR.within (HL5).out.2.2 (fun i j h1 h2 => rel_len y bs h1 h2)⟩)
      have HO7 := Lib.hid ((HO5).out.next hb7)
      have HI7 := Lib.hid (HEl.out.next hR)
      clear hR hb7 hi7 hc7 HC x0 x1 x2 x3 x4 x5 x6 x7 lx q0 q1 q2 q3 q4 q5 q6 q7 hblk hkz hkl hbb
      dsimp only
      by_cases hn : R.length = 0
      ·obtain rfl : R = [] := List.eq_nil_of_length_eq_zero hn
       clear hn
       go_wp2
       go_light
       go_ret
       exact ⟨O, A5, c5, (HB5.out.congr (fun i j' hi' => below_stop HI7.out hi (by omega) hi')).congr (fun i j' _ => by rw [← HLoE.out, ← HHiE.out]; exact (HRel.out i j').symm), rfl, HF7.out.below, HO7.out.1, HO7.out.2.1⟩
      ·have hne : ((R.length : Int) == 0) = false := by rw [beq_eq_false_iff_ne]; omega
       go_wp2
       refine ⟨⟨k + 1, A7, c7, R, _, _, _, by rw [show ((k + 1 : Nat) : Int) = (k : Int) + 1 by omega], rfl, rfl, by omega, HF7, HL7, HO7, HI7, HB5, Lib.hid (by omega)⟩, ?_⟩
       simp [intOf]
       omega
     ·first
       | (exact absurd hge (by have := HLz.out; omega))
       | skip
      all_goals
       have hdg : ¬ x.lo ≤ (k : Int) := by have := HLz.out; omega
       have HB5 := Lib.hid (below_next0 HEo.out (by omega))
       clear HEo x0 x1 x2 x3 x4 x5 x6 x7 lx
       obtain ⟨b, o, C, capc, hBe, hbb, hkl, ⟨q0, q1, q2, q3, q4, q5, q6, q7⟩, hkz⟩ := (HT.out.below (HF).out.below).get (show x.kids.list[0]? = some y by rw [HKids.out]; rfl)
       subst hBe
       rw [Nat.zero_mul, Nat.add_zero] at q0 q1 q2 q3 q4 q5 q6 q7
       have hblk := World.block_lt_of_cell? wr _ q0
       have hdc : (0 : Int) < (cap : Int) := by have := HCap.out; have := HOne.out; omega
       have hdo : (0 : Int) < (x.kids.len : Int) := by have := HOne.out; omega
       obtain ⟨x0, x1, x2, x3, x4, x5, x6, x7⟩ : _ ∧ _ ∧ _ ∧ _ ∧ _ ∧ _ ∧ _ ∧ _ := ⟨((HF).out.box).cell 0, ((HF).out.box).cell 1, ((HF).out.box).cell 2, ((HF).out.box).cell 3, ((HF).out.box).cell 4, ((HF).out.box).cell 5, ((HF).out.box).cell 6, ((HF).out.box).cell 7⟩
       simp only [List.getElem?_toArray, List.getElem?_cons_zero, List.getElem?_cons_succ, ndA] at x0 x1 x2 x3 x4 x5 x6 x7
       rw [HK.out] at x0
       have lx := ((HF).out.box).lt
       have HC := Lib.hid (HY.out.at_ HBl.out (HF).out.below hkz hkl HVb.out HCv.out (HLl).out)
       go_wp2_with fail
       unfold ndV at HC
       refine HC.out.mono ?_
       rintro e w7 ⟨R, A7, c7, hR, rfl, hb7, hi7, hc7⟩
       have HF7 := Lib.hid ((HF).out.next hb7)
       have HL7 := Lib.hid (show LiIn w7 A7 c7 bs.length R from ⟨hi7, hc7, hR.within (HLl).out.2.2 (fun i j h1 h2 => rel_len y bs h1 h2)⟩)
       have HO7 := Lib.hid ((HLo).out.next hb7)
       have HI7 := Lib.hid (HEl.out.next hR)
       clear hR hb7 hi7 hc7 HC x0 x1 x2 x3 x4 x5 x6 x7 lx q0 q1 q2 q3 q4 q5 q6 q7 hblk hkz hkl hbb
       dsimp only
       by_cases hn : R.length = 0
       ·obtain rfl : R = [] := List.eq_nil_of_length_eq_zero hn
        clear hn
        go_wp2
        go_light
        go_ret
        exact ⟨[], none, 0, (ends_stop HI7.out (lo := (lo : Int)) (hi := hi) (by omega)).congr (fun i j' _ => by rw [← HLoE.out, ← HHiE.out]; exact (HRel.out i j').symm), rfl, HF7.out.below, (fun i a ha => by simp at ha), Nat.le_refl _⟩
       ·have hne : ((R.length : Int) == 0) = false := by rw [beq_eq_false_iff_ne]; omega
        go_wp2
        refine ⟨⟨k + 1, A7, c7, R, _, _, _, by rw [show ((k + 1 : Nat) : Int) = (k : Int) + 1 by omega], rfl, rfl, by omega, HF7, HL7, HO7, HI7, HB5, Lib.hid (by omega)⟩, ?_⟩
        simp [intOf]
        omega
   ·first
     | (exact absurd (show hi < 0 by have := HHz.out; omega) hc2)
     | skip
    all_goals
     have hd2 : ¬ x.hi < 0 := by have := HHz.out; omega
     by_cases hc3 : (k : Int) ≤ hi
     ·have hd3 : (k : Int) ≤ x.hi := by have := HHz.out; omega
      by_cases hge : lo ≤ k
      ·have hdg : x.lo ≤ (k : Int) := by have := HLz.out; omega
       have HJn := Lib.hid (rjoin11_go Ao Al co cl Lo Ll bs.length wr HLo.out.1 HLl.out.1 (by have := places_short HLo.out.2.2; have := HBl.out; omega) (by have := places_short HLl.out.2.2; have := HBl.out; omega) (by have := HBl.out; omega))
       go_wp2_with fail
       refine HJn.out.mono ?_
       rintro e w5 ⟨O, A5, c5, hO, rfl, hb5, hi5, hc5⟩
       have HF5 := Lib.hid (HF.out.next hb5)
       have HO5 := Lib.hid (show LiIn w5 A5 c5 bs.length O from ⟨hi5, hc5, hO.1, fun t ht => ((hO.2 t).1 ht).2⟩)
       have HL5 := Lib.hid (HLl.out.next hb5)
       have HB5 := Lib.hid ((HEo.out.or HEl.out HLo.out.2.2 HLl.out.2.2 hO).congr (fun i j' _ => below_more hge i j'))
       clear hO hb5 hi5 hc5 HJn HF HLl HLo HEo x0 x1 x2 x3 x4 x5 x6 x7 lx
       dsimp only
       obtain ⟨b, o, C, capc, hBe, hbb, hkl, ⟨q0, q1, q2, q3, q4, q5, q6, q7⟩, hkz⟩ := (HT.out.below (HF5).out.below).get (show x.kids.list[0]? = some y by rw [HKids.out]; rfl)
       subst hBe
       rw [Nat.zero_mul, Nat.add_zero] at q0 q1 q2 q3 q4 q5 q6 q7
       have hblk := World.block_lt_of_cell? w5 _ q0
       have hdc : (0 : Int) < (cap : Int) := by have := HCap.out; have := HOne.out; omega
       have hdo : (0 : Int) < (x.kids.len : Int) := by have := HOne.out; omega
       obtain ⟨x0, x1, x2, x3, x4, x5, x6, x7⟩ : _ ∧ _ ∧ _ ∧ _ ∧ _ ∧ _ ∧ _ ∧ _ := ⟨((HF5).out.box).cell 0, ((HF5).out.box).cell 1, ((HF5).out.box).cell 2, ((HF5).out.box).cell 3, ((HF5).out.box).cell 4, ((HF5).out.box).cell 5, ((HF5).out.box).cell 6, ((HF5).out.box).cell 7⟩
       simp only [List.getElem?_toArray, List.getElem?_cons_zero, List.getElem?_cons_succ, ndA] at x0 x1 x2 x3 x4 x5 x6 x7
       rw [HK.out] at x0
       have lx := ((HF5).out.box).lt
       have HC := Lib.hid (HY.out.at_ HBl.out (HF5).out.below hkz hkl HVb.out HCv.out (HL5).out)
       go_wp2_with fail
       unfold ndV at HC
       refine HC.out.mono ?_
       rintro e w7 ⟨R, A7, c7, hR, rfl, hb7, hi7, hc7⟩
       have HF7 := Lib.hid ((HF5).out.next hb7)
       have HL7 := Lib.hid (show LiIn w7 A7 c7 bs.length R from ⟨hi7, hc7, hR.within (HL5).out.2.2 (fun i j h1 h2 => rel_len y bs h1 h2)⟩)
       have HO7 := Lib.hid ((HO5).out.next hb7)
       have HI7 := Lib.hid (HEl.out.next hR)
       clear hR hb7 hi7 hc7 HC x0 x1 x2 x3 x4 x5 x6 x7 lx q0 q1 q2 q3 q4 q5 q6 q7 hblk hkz hkl hbb
       dsimp only
       by_cases hn : R.length = 0
       ·obtain rfl : R = [] := List.eq_nil_of_length_eq_zero hn
        clear hn
        go_wp2
        go_light
        go_ret
        exact ⟨O, A5, c5, (HB5.out.congr (fun i j' hi' => below_stop HI7.out hi (by omega) hi')).congr (fun i j' _ => by rw [← HLoE.out, ← HHiE.out]; exact (HRel.out i j').symm), rfl, HF7.out.below, HO7.out.1, HO7.out.2.1⟩
       ·have hne : ((R.length : Int) == 0) = false := by rw [beq_eq_false_iff_ne]; omega
        go_wp2
        refine ⟨⟨k + 1, A7, c7, R, _, _, _, by rw [show ((k + 1 : Nat) : Int) = (k : Int) + 1 by omega], rfl, rfl, by omega, HF7, HL7, HO7, HI7, HB5, Lib.hid (by omega)⟩, ?_⟩
        simp [intOf]
        omega
      ·first
        | (exact absurd hge (by have := HLz.out; omega))
        | skip
       all_goals
        have hdg : ¬ x.lo ≤ (k : Int) := by have := HLz.out; omega
        have HB5 := Lib.hid (below_next0 HEo.out (by omega))
        clear HEo x0 x1 x2 x3 x4 x5 x6 x7 lx
        obtain ⟨b, o, C, capc, hBe, hbb, hkl, ⟨q0, q1, q2, q3, q4, q5, q6, q7⟩, hkz⟩ := (HT.out.below (HF).out.below).get (show x.kids.list[0]? = some y by rw [HKids.out]; rfl)
        subst hBe
        rw [Nat.zero_mul, Nat.add_zero] at q0 q1 q2 q3 q4 q5 q6 q7
        have hblk := World.block_lt_of_cell? wr _ q0
        have hdc : (0 : Int) < (cap : Int) := by have := HCap.out; have := HOne.out; omega
        have hdo : (0 : Int) < (x.kids.len : Int) := by have := HOne.out; omega
        obtain ⟨x0, x1, x2, x3, x4, x5, x6, x7⟩ : _ ∧ _ ∧ _ ∧ _ ∧ _ ∧ _ ∧ _ ∧ _ := ⟨((HF).out.box).cell 0, ((HF).out.box).cell 1, ((HF).out.box).cell 2, ((HF).out.box).cell 3, ((HF).out.box).cell 4, ((HF).out.box).cell 5, ((HF).out.box).cell 6, ((HF).out.box).cell 7⟩
        simp only [List.getElem?_toArray, List.getElem?_cons_zero, List.getElem?_cons_succ, ndA] at x0 x1 x2 x3 x4 x5 x6 x7
        rw [HK.out] at x0
        have lx := ((HF).out.box).lt
        have HC := Lib.hid (HY.out.at_ HBl.out (HF).out.below hkz hkl HVb.out HCv.out (HLl).out)
        go_wp2_with fail
        unfold ndV at HC
        refine HC.out.mono ?_
        rintro e w7 ⟨R, A7, c7, hR, rfl, hb7, hi7, hc7⟩
        have HF7 := Lib.hid ((HF).out.next hb7)
        have HL7 := Lib.hid (show LiIn w7 A7 c7 bs.length R from ⟨hi7, hc7, hR.within (HLl).out.2.2 (fun i j h1 h2 => rel_len y bs h1 h2)⟩)
        have HO7 := Lib.hid ((HLo).out.next hb7)
        have HI7 := Lib.hid (HEl.out.next hR)
        clear hR hb7 hi7 hc7 HC x0 x1 x2 x3 x4 x5 x6 x7 lx q0 q1 q2 q3 q4 q5 q6 q7 hblk hkz hkl hbb
        dsimp only
        by_cases hn : R.length = 0
        ·obtain rfl : R = [] := List.eq_nil_of_length_eq_zero hn
         clear hn
         go_wp2
         go_light
         go_ret
         exact ⟨[], none, 0, (ends_stop HI7.out (lo := (lo : Int)) (hi := hi) (by omega)).congr (fun i j' _ => by rw [← HLoE.out, ← HHiE.out]; exact (HRel.out i j').symm), rfl, HF7.out.below, (fun i a ha => by simp at ha), Nat.le_refl _⟩
        ·have hne : ((R.length : Int) == 0) = false := by rw [beq_eq_false_iff_ne]; omega
         go_wp2
         refine ⟨⟨k + 1, A7, c7, R, _, _, _, by rw [show ((k + 1 : Nat) : Int) = (k : Int) + 1 by omega], rfl, rfl, by omega, HF7, HL7, HO7, HI7, HB5, Lib.hid (by omega)⟩, ?_⟩
         simp [intOf]
         omega
     ·have hd3 : ¬ (k : Int) ≤ x.hi := by have := HHz.out; omega
      have HX := Lib.hid (show EndsL (x.rel bs) L Lo from (HEo.out.congr (fun i j' _ => show belowR (y.rel bs) lo k i j' ↔ repR (lo : Int) hi (y.rel bs) i j' from by
       obtain ⟨h', hh'⟩ := Int.eq_ofNat_of_zero_le (show 0 ≤ hi by omega)
       obtain rfl : k = h' + 1 := by omega
       rw [hh']
       exact below_hi i j')).congr (fun i j' _ => by rw [← HLoE.out, ← HHiE.out]; exact (HRel.out i j').symm))
      clear hnum hki
      go_wp2
      go_light
      go_ret
      exact ⟨Lo, Ao, co, HX.out, rfl, HF.out.below, HLo.out.1, HLo.out.2.1⟩
  ·have hd1 : ¬ (k : Int) ≤ x.lo + (bs.length : Int) + 1 := by have := HLz.out; omega
   have HX := Lib.hid (show EndsL (x.rel bs) L Lo from (HEo.out.congr (fun i j' hi' => below_all (fun i j h => rel_up y bs h) (n := bs.length) (fun i j h1 h2 => rel_len y bs h1 h2) (by omega) hi (by omega) (by have := (HL.out.2.2.2 _ hi').2; omega))).congr (fun i j' _ => by rw [← HLoE.out, ← HHiE.out]; exact (HRel.out i j').symm))
   clear hnum hki
   go_wp2
   go_light
   go_ret
   exact ⟨Lo, Ao, co, HX.out, rfl, HF.out.below, HLo.out.1, HLo.out.2.1⟩
theorem only_kidR {F : Trees} (h : F.len = 1) : ∃ y, F.list = [y] := by
 rw [← Trees.len_list] at h
 match hF : F.list, h with
 | [y], _ => exact ⟨y, rfl⟩
theorem from_all {bs : List Nat} : ∀ (n : Nat) (z : Nd), z.size ≤ n → n ≤ 1000000 → (∀ u ∈ z.nodes, aloneN u = true) → FromC bs z
 | 0, z, h, _, _ => by unfold Nd.size at h; omega
 | n + 1, z, h, hn, ho => by
  have hK : ∀ y ∈ z.kids.list, FromC bs y := fun y hy => by
   obtain ⟨i, hi⟩ := List.mem_iff_getElem?.1 hy
   have hs := Trees.size_get z.kids i y hi
   refine from_all n y (by unfold Nd.size at h; unfold Nd.size at hs ⊢; omega) (by omega) (fun u hu => ho u ?_)
   simp only [Nd.nodes, List.mem_cons]
   exact .inr (nodes_kid hi u hu)
  have hl : z.kids.len ≤ 1000000 := by have := Trees.len_size z.kids; unfold Nd.size at h; omega
  obtain ⟨a1, a9, a0, ak1, ak9⟩ := aloneN_kids (ho z (self_nodes z))
  by_cases k1 : z.kind = 1
  ·exact from_nothing k1
  by_cases k2 : z.kind = 2
  ·exact from_empty k2
  by_cases k3 : z.kind = 3
  ·exact from_set k3
  by_cases k4 : z.kind = 4
  ·exact from_cat k4 hl hK
  by_cases k5 : z.kind = 5
  ·exact from_alt k5 hl hK
  obtain ⟨y, hy⟩ := only_kidR (a1 (by omega) (by omega))
  by_cases k6 : z.kind = 6
  ·exact from_star k6 hy hK
  by_cases k7 : z.kind = 7
  ·exact from_plus k7 hy hK
  by_cases k8 : z.kind = 8
  ·exact from_opt k8 hy hK
  have k9 : z.kind = 9 := by omega
  obtain ⟨c1, c2, c3, c4⟩ := numsOk_of (ho z (self_nodes z)) k9
  exact from_rep k9 hy hK ⟨c1, c2, c3, c4⟩
end Go.Proofs.YtfcblmbieiibmaaDoor
