/- Texts of the claim. -/
import Derived.Test.YtfcblmbieiibmaaDoorKMatRf
namespace Go.Proofs.YtfcblmbieiibmaaDoor
open Go.RowKit
set_option linter.unusedSimpArgs false
set_option linter.unusedVariables false
set_option maxRecDepth 100000
set_option maxHeartbeats 8000000
theorem FromC.at_ {bs : List Nat} {y : Nd} (h : FromC bs y) (hbl : bs.length ≤ 256) {P : Nat → Prop} {C : Option Addr} {capc : Nat} {V : Option Addr} {cv : Nat} {A : Option Addr} {c : Nat} {L : List Int} {w wr : World} (hb : Below w.heap.size w wr) (ht : TreesAt wr P y.kids C) (hc : y.kids.len ≤ capc) (hV : BytesAt w w.heap.size V bs) (hcv : bs.length ≤ cv) (hL : LiIn wr A c bs.length L) :
  Calls Tryd.prog 30 #[ndV y C capc, .slice V bs.length cv, .slice A L.length c] wr (PlOut (EndsL (y.rel bs) L) wr) :=
 h hbl C capc V cv A c L wr (ht.weak (fun b _ h => h)) hc ((hV.below hb).more hb.size) hcv hL.1 hL.2.1 hL.2.2
theorem from_cat {x : Nd} {bs : List Nat} (hk : x.kind = 4) (hsz : x.kids.len ≤ 1000000) (hK : ∀ y ∈ x.kids.list, FromC bs y) : FromC bs x := by
 have HE := Lib.hid (catTo_all hk bs)
 have HKd := Lib.hid hK
 clear hK
 intro hbl B cap V cv A ca L w ht hcap hV hcv hA hca hP
 have HBl := Lib.hid hbl
 have HK := Lib.hid hk
 obtain ⟨W0, hW0⟩ : ∃ W0, (w.alloc (.cells (ndA x B cap) 28)).alloc (.cells #[] 3) = W0 := ⟨_, rfl⟩
 obtain ⟨hF, hR⟩ := from_made hW0
 have HF := Lib.hid hF
 have HT := Lib.hid ht
 have HVb := Lib.hid hV
 have HL := Lib.hid (show LiIn w A ca bs.length L from ⟨hA, hca, hP⟩)
 have HR := Lib.hid hR
 have HCap := Lib.hid hcap
 have HCv := Lib.hid hcv
 unfold ndA at hW0
 unfold ndV
 rw [hk] at hW0 ⊢
 obtain ⟨x0, x1, x2, x3, x4, x5, x6, x7⟩ : _ ∧ _ ∧ _ ∧ _ ∧ _ ∧ _ ∧ _ ∧ _ := ⟨(HF.out.box).cell 0, (HF.out.box).cell 1, (HF.out.box).cell 2, (HF.out.box).cell 3, (HF.out.box).cell 4, (HF.out.box).cell 5, (HF.out.box).cell 6, (HF.out.box).cell 7⟩
 simp only [List.getElem?_toArray, List.getElem?_cons_zero, List.getElem?_cons_succ, ndA] at x0 x1 x2 x3 x4 x5 x6 x7
 rw [HK.out] at x0
 have lx := (HF.out.box).lt
 clear ht hV hA hca hP hF hR hk hcap hcv hbl
 go_enter Tryd.func30, Tryd.ntmps30
 go_wp2
 go_loopw [2, 9] (fun v i' wr => ∃ (j : Nat) (Aj : Option Addr) (cj : Nat) (Lj : List Int), i' = .int .i64 (j : Int) ∧ v = .slice Aj Lj.length cj ∧ j ≤ x.kids.len ∧ Hid (FrI w wr x B cap) ∧ Hid (LiIn wr Aj cj bs.length Lj) ∧ Hid (EndsL (catTo x bs j) L Lj)) (fun _ i' _ => x.kids.len - (intOf i').toNat)
 case atStart => exact ⟨0, A, ca, L, rfl, rfl, Nat.zero_le _, HF, Lib.hid (HL.out.next HF.out.below), Lib.hid (by rw [catTo_zero]; exact ends_id HL.out.2.2)⟩
 case round =>
  clear HF HR hW0 x0 x1 x2 x3 x4 x5 x6 x7 lx
  obtain ⟨j, Aj, cj, Lj, rfl, rfl, hj, HF, HLj, HEj⟩ := hrel
  obtain ⟨x0, x1, x2, x3, x4, x5, x6, x7⟩ : _ ∧ _ ∧ _ ∧ _ ∧ _ ∧ _ ∧ _ ∧ _ := ⟨(HF.out.box).cell 0, (HF.out.box).cell 1, (HF.out.box).cell 2, (HF.out.box).cell 3, (HF.out.box).cell 4, (HF.out.box).cell 5, (HF.out.box).cell 6, (HF.out.box).cell 7⟩
  simp only [List.getElem?_toArray, List.getElem?_cons_zero, List.getElem?_cons_succ, ndA] at x0 x1 x2 x3 x4 x5 x6 x7
  rw [HK.out] at x0
  have lx := (HF.out.box).lt
  by_cases hlt : j < x.kids.len
  ·obtain ⟨y, hy⟩ : ∃ y, x.kids.list[j]? = some y := ⟨_, List.getElem?_eq_getElem (by rw [Trees.len_list]; exact hlt)⟩
   obtain ⟨b, o, C, capc, rfl, hbb, hkl, ⟨q0, q1, q2, q3, q4, q5, q6, q7⟩, hkz⟩ := (HT.out.below HF.out.below).get hy
   have HC := Lib.hid ((HKd.out y (List.mem_of_getElem? hy)).at_ HBl.out HF.out.below hkz hkl HVb.out HCv.out HLj.out)
   have HN := Lib.hid (fun i j' => catTo_next (bs := bs) hy i j')
   have hblk := World.block_lt_of_cell? wr _ q0
   have hdl : (j : Int) < (x.kids.len : Int) := by omega
   have hdc : (j : Int) < (cap : Int) := by have := HCap.out; omega
   have hwj : IntKind.i64.wrap ((j : Int) + 1) = (j : Int) + 1 := by rw [IntKind.wrap_i64]; omega
   unfold ndV at HC
   clear hy hkz hkl hbb
   go_wp2_with fail
   refine HC.out.mono ?_
   rintro e w4 ⟨R, A4, c4, hR, rfl, hb4, hi4, hc4⟩
   have HF4 := Lib.hid (HF.out.next hb4)
   have HL4 := Lib.hid (show LiIn w4 A4 c4 bs.length R from ⟨hi4, hc4, hR.within HLj.out.2.2 (fun i j h1 h2 => rel_len y bs h1 h2)⟩)
   have HE4 := Lib.hid ((HEj.out.comp hR).congr (fun i j' _ => HN.out i j'))
   clear hR hb4 hi4 hc4 HC HF HLj HEj HN q0 q1 q2 q3 q4 q5 q6 q7 hblk x0 x1 x2 x3 x4 x5 x6 x7 lx
   dsimp only
   go_wp2
   refine ⟨⟨j + 1, A4, c4, R, by rw [show ((j + 1 : Nat) : Int) = (j : Int) + 1 by omega], rfl, by omega, HF4, HL4, HE4⟩, ?_⟩
   simp [intOf]
   omega
  ·obtain rfl : j = x.kids.len := by omega
   have hdl : ¬ (x.kids.len : Int) < (x.kids.len : Int) := by omega
   go_wp2
   go_light
   go_ret
   exact ⟨Lj, Aj, cj, by rw [HE.out]; exact HEj.out, rfl, HF.out.below, HLj.out.1, HLj.out.2.1⟩
theorem from_alt {x : Nd} {bs : List Nat} (hk : x.kind = 5) (hsz : x.kids.len ≤ 1000000) (hK : ∀ y ∈ x.kids.list, FromC bs y) : FromC bs x := by
 have HE := Lib.hid (altTo_all hk bs)
 have HKd := Lib.hid hK
 clear hK
 intro hbl B cap V cv A ca L w ht hcap hV hcv hA hca hP
 have HBl := Lib.hid hbl
 have HK := Lib.hid hk
 obtain ⟨W0, hW0⟩ : ∃ W0, (w.alloc (.cells (ndA x B cap) 28)).alloc (.cells #[] 3) = W0 := ⟨_, rfl⟩
 obtain ⟨hF, hR⟩ := from_made hW0
 have HF := Lib.hid hF
 have HT := Lib.hid ht
 have HVb := Lib.hid hV
 have HL := Lib.hid (show LiIn w A ca bs.length L from ⟨hA, hca, hP⟩)
 have HR := Lib.hid hR
 have HCap := Lib.hid hcap
 have HCv := Lib.hid hcv
 unfold ndA at hW0
 unfold ndV
 rw [hk] at hW0 ⊢
 obtain ⟨x0, x1, x2, x3, x4, x5, x6, x7⟩ : _ ∧ _ ∧ _ ∧ _ ∧ _ ∧ _ ∧ _ ∧ _ := ⟨(HF.out.box).cell 0, (HF.out.box).cell 1, (HF.out.box).cell 2, (HF.out.box).cell 3, (HF.out.box).cell 4, (HF.out.box).cell 5, (HF.out.box).cell 6, (HF.out.box).cell 7⟩
 simp only [List.getElem?_toArray, List.getElem?_cons_zero, List.getElem?_cons_succ, ndA] at x0 x1 x2 x3 x4 x5 x6 x7
 rw [HK.out] at x0
 have lx := (HF.out.box).lt
 clear ht hV hA hca hP hF hR hk hcap hcv hbl
 go_enter Tryd.func30, Tryd.ntmps30
 have HR0 := Lib.hid (own_intsC HR.out)
 go_wp2
 go_loopw [7, 10] (fun v i' wr => ∃ (j : Nat) (Aj : Option Addr) (cj : Nat) (Lj : List Int), i' = .int .i64 (j : Int) ∧ v = .slice Aj Lj.length cj ∧ j ≤ x.kids.len ∧ Hid (FrI w wr x B cap) ∧ Hid (LiIn wr Aj cj bs.length Lj) ∧ Hid (EndsL (altTo x bs j) L Lj)) (fun _ i' _ => x.kids.len - (intOf i').toNat)
 case atStart => exact ⟨0, _, 0, [], rfl, rfl, Nat.zero_le _, HF, Lib.hid ⟨HR0.out, Nat.le_refl _, places_none _⟩, Lib.hid (ends_none _ (altTo_zero x bs) L)⟩
 case round =>
  clear HF HR HR0 hW0 x0 x1 x2 x3 x4 x5 x6 x7 lx
  obtain ⟨j, Aj, cj, Lj, rfl, rfl, hj, HF, HLj, HEj⟩ := hrel
  obtain ⟨x0, x1, x2, x3, x4, x5, x6, x7⟩ : _ ∧ _ ∧ _ ∧ _ ∧ _ ∧ _ ∧ _ ∧ _ := ⟨(HF.out.box).cell 0, (HF.out.box).cell 1, (HF.out.box).cell 2, (HF.out.box).cell 3, (HF.out.box).cell 4, (HF.out.box).cell 5, (HF.out.box).cell 6, (HF.out.box).cell 7⟩
  simp only [List.getElem?_toArray, List.getElem?_cons_zero, List.getElem?_cons_succ, ndA] at x0 x1 x2 x3 x4 x5 x6 x7
  rw [HK.out] at x0
  have lx := (HF.out.box).lt
  by_cases hlt : j < x.kids.len
  ·obtain ⟨y, hy⟩ : ∃ y, x.kids.list[j]? = some y := ⟨_, List.getElem?_eq_getElem (by rw [Trees.len_list]; exact hlt)⟩
   obtain ⟨b, o, C, capc, rfl, hbb, hkl, ⟨q0, q1, q2, q3, q4, q5, q6, q7⟩, hkz⟩ := (HT.out.below HF.out.below).get hy
   have HC := Lib.hid ((HKd.out y (List.mem_of_getElem? hy)).at_ HBl.out HF.out.below hkz hkl HVb.out HCv.out (HL.out.next HF.out.below))
   have HN := Lib.hid (fun i j' => altTo_next (bs := bs) hy i j')
   have hblk := World.block_lt_of_cell? wr _ q0
   have hdl : (j : Int) < (x.kids.len : Int) := by omega
   have hdc : (j : Int) < (cap : Int) := by have := HCap.out; omega
   have hwj : IntKind.i64.wrap ((j : Int) + 1) = (j : Int) + 1 := by rw [IntKind.wrap_i64]; omega
   unfold ndV at HC
   clear hy hkz hkl hbb
   go_wp2_with fail
   refine HC.out.mono ?_
   rintro e w4 ⟨R, A4, c4, hR, rfl, hb4, hi4, hc4⟩
   have HF4 := Lib.hid (HF.out.next hb4)
   have HL4 := Lib.hid (show LiIn w4 A4 c4 bs.length R from ⟨hi4, hc4, hR.within HL.out.2.2 (fun i j h1 h2 => rel_len y bs h1 h2)⟩)
   have HLj4 := Lib.hid (HLj.out.next hb4)
   have HR4 := Lib.hid hR
   have HJn := Lib.hid (rjoin11_go Aj A4 cj c4 Lj R bs.length w4 HLj4.out.1 hi4 (by have := places_short HLj.out.2.2; have := HBl.out; omega) (by have := places_short HL4.out.2.2; have := HBl.out; omega) (by have := HBl.out; omega))
   clear hR hb4 hi4 hc4 HC HF HLj q0 q1 q2 q3 q4 q5 q6 q7 hblk x0 x1 x2 x3 x4 x5 x6 x7 lx
   dsimp only
   go_wp2_with fail
   refine HJn.out.mono ?_
   rintro e w5 ⟨O, A5, c5, hO, rfl, hb5, hi5, hc5⟩
   have HF5 := Lib.hid (HF4.out.next hb5)
   have HL5 := Lib.hid (show LiIn w5 A5 c5 bs.length O from ⟨hi5, hc5, hO.1, fun t ht => ((hO.2 t).1 ht).2⟩)
   have HE5 := Lib.hid ((HEj.out.or HR4.out HLj4.out.2.2 HL4.out.2.2 hO).congr (fun i j' _ => HN.out i j'))
   clear hO hb5 hi5 hc5 HJn HF4 HL4 HLj4 HEj HN HR4
   dsimp only
   go_wp2
   refine ⟨⟨j + 1, A5, c5, O, by rw [show ((j + 1 : Nat) : Int) = (j : Int) + 1 by omega], rfl, by omega, HF5, HL5, HE5⟩, ?_⟩
   simp [intOf]
   omega
  ·obtain rfl : j = x.kids.len := by omega
   have hdl : ¬ (x.kids.len : Int) < (x.kids.len : Int) := by omega
   go_wp2
   go_light
   go_ret
   exact ⟨Lj, Aj, cj, by rw [HE.out]; exact HEj.out, rfl, HF.out.below, HLj.out.1, HLj.out.2.1⟩
end Go.Proofs.YtfcblmbieiibmaaDoor
