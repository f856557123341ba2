/- Texts of the claim. -/
import Derived.Test.YtfcblmbieiibmaaDoorKMatRh
import Derived.Test.YtfcblmbieiibmaaDoorKMatEl
import Derived.Test.YtfcblmbieiibmaaDoorKRRightX
namespace Go.Proofs.YtfcblmbieiibmaaDoor
open Go.RowKit
set_option linter.unusedSimpArgs false
set_option linter.unusedVariables false
set_option maxRecDepth 100000
set_option maxHeartbeats 8000000
theorem placesL_ends {x : Nd} {bs : List Nat} {i : Nat} (hl : bs.length ≤ 256) (hi : i ≤ bs.length) : EndsL (x.rel bs) [(i : Int)] (placesL (endsB x bs i)) := by
 refine ⟨?_, fun t => ?_⟩
 ·unfold Rises placesL elems
  rw [List.pairwise_map]
  exact (List.pairwise_lt_range.filter _).imp fun {a b} h => by omega
 ·unfold placesL elems
  simp only [List.mem_map, List.mem_filter, List.mem_range, List.mem_singleton]
  constructor
  ·rintro ⟨c, ⟨_, h2⟩, rfl⟩
   exact ⟨i, c, rfl, endsB_iff.1 h2, rfl⟩
  ·rintro ⟨i', j, h1, h2, rfl⟩
   obtain rfl : i' = i := by omega
   have := rel_len x bs hi h2
   exact ⟨j, ⟨by omega, endsB_iff.2 h2⟩, rfl⟩
theorem placesL_none : placesL (fun _ => false) = [] := by decide +kernel
theorem hasI_places {p : Nat → Bool} {n : Nat} (hn : n < 320) : hasI (placesL p) (n : Int) = p n := by
 cases h : p n with
 | true =>
  rw [hasI_iff]
  unfold placesL elems
  exact List.mem_map.2 ⟨n, List.mem_filter.2 ⟨List.mem_range.2 hn, h⟩, rfl⟩
 | false =>
  cases h2 : hasI (placesL p) (n : Int) with
  | false => rfl
  | true =>
   rw [hasI_iff] at h2
   unfold placesL elems at h2
   obtain ⟨c, h3, h4⟩ := List.mem_map.1 h2
   obtain rfl : c = n := by omega
   rw [(List.mem_filter.1 h3).2] at h
   cases h
theorem placesL_len (p : Nat → Bool) : (placesL p).length ≤ 320 := by
 unfold placesL elems
 rw [List.length_map]
 exact Nat.le_trans (List.length_filter_le _ _) (by simp)
theorem places_last {p : Nat → Bool} (h : 0 < (placesL p).length) : (placesL p)[(placesL p).length - 1]? = some (lastI (elems p 320)) := by
 unfold placesL at h ⊢
 rw [List.length_map] at h ⊢
 unfold lastI
 rw [List.getElem?_map]
 cases hg : (elems p 320).getLast? with
 | none =>
  rw [List.getLast?_eq_none_iff] at hg
  rw [hg] at h
  simp at h
 | some c =>
  rw [List.getLast?_eq_getElem?] at hg
  rw [hg]
  rfl
theorem places_empty {p : Nat → Bool} (h : (placesL p).length = 0) : lastI (elems p 320) = -1 := by
 unfold placesL at h
 rw [List.length_map] at h
 rw [List.eq_nil_of_length_eq_zero h]
 rfl
def EndsOut (x : Nd) (bs : List Nat) (i : Int) (w : World) (e : Ending) (w' : World) : Prop := ∃ A c, e = .returned (.tuple #[.slice A (placesL (findB x bs i)).length c, .int .i64 (errF x bs i)]) ∧ Below w.heap.size w w' ∧ IntsAt w' A (placesL (findB x bs i)) ∧ (placesL (findB x bs i)).length ≤ c
theorem rends_kind (x : Nd) (B : Option Addr) (cap : Nat) (V : Option Addr) (cv : Nat) (i : Int) (bs : List Nat) (w : World) (hsz : x.size ≤ 140737488355328) (hcap : x.kids.len ≤ cap) (ht : TreesAt w (fun b => b < w.heap.size) x.kids B) (hV : BytesAt w w.heap.size V bs) (hcv : bs.length ≤ cv) (hr : rightT x = false) : Calls Tryd.prog 10 #[ndV x B cap, .slice V bs.length cv, .int .i64 i] w (EndsOut x bs i w) := by
 have HF := Lib.hid (show errF x bs i = 6 by unfold errF; rw [if_pos hr])
 have hal : Below w.heap.size w (w.alloc (.cells (ndA x B cap) 28)) := (Below.refl _ _).alloc (Nat.le_refl _) _
 have H0 := Lib.hid (Blk.new w 28 (ndA x B cap))
 have HB0 := Lib.hid hal
 have HC := Lib.hid (rright_any x _ B cap _ hsz (ht.below hal))
 have HT := Lib.hid ht
 have HV := Lib.hid hV
 have HCv := Lib.hid hcv
 have HCap := Lib.hid hcap
 clear ht hal hV hcv hcap hsz
 unfold ndV at HC ⊢
 unfold ndA at H0 HB0 HC
 obtain ⟨x0, x1, x2, x3, x4, x5, x6, x7⟩ : _ ∧ _ ∧ _ ∧ _ ∧ _ ∧ _ ∧ _ ∧ _ := ⟨(H0.out).cell 0, (H0.out).cell 1, (H0.out).cell 2, (H0.out).cell 3, (H0.out).cell 4, (H0.out).cell 5, (H0.out).cell 6, (H0.out).cell 7⟩
 simp only [List.getElem?_toArray, List.getElem?_cons_zero, List.getElem?_cons_succ, ndA] at x0 x1 x2 x3 x4 x5 x6 x7
 have lx := (H0.out).lt
 rw [hr] at HC
 clear hr
 go_enter Tryd.func10, Tryd.ntmps10
 go_wp2_with fail
 refine HC.out.mono ?_
 rintro e w1 ⟨rfl, hb1⟩
 have H1 := Lib.hid (H0.out.below hb1 H0.out.lt)
 have HB1 := Lib.hid (HB0.out.trans (hb1.mono HB0.out.size))
 clear hb1 HC H0 HB0 x0 x1 x2 x3 x4 x5 x6 x7 lx
 dsimp only
 go_wp2
 go_light
 refine bodyPost_ret (results_tmp2 rfl _ _ _) rfl ⟨none, 0, ?_, HB1.out, ?_, ?_⟩
 ·rw [HF.out, findB_no (by rw [HF.out]; decide), placesL_none]; rfl
 ·rw [findB_no (by rw [HF.out]; decide), placesL_none]; exact fun i a ha => by simp at ha
 ·rw [findB_no (by rw [HF.out]; decide), placesL_none]; exact Nat.le_refl _
theorem rends_long (x : Nd) (B : Option Addr) (cap : Nat) (V : Option Addr) (cv : Nat) (i : Int) (bs : List Nat) (w : World) (hsz : x.size ≤ 140737488355328) (hcap : x.kids.len ≤ cap) (ht : TreesAt w (fun b => b < w.heap.size) x.kids B) (hV : BytesAt w w.heap.size V bs) (hcv : bs.length ≤ cv) (hr : rightT x = true) (hl : 256 < bs.length) : Calls Tryd.prog 10 #[ndV x B cap, .slice V bs.length cv, .int .i64 i] w (EndsOut x bs i w) := by
 have HF := Lib.hid (show errF x bs i = 4 by unfold errF; rw [if_neg (by rw [hr]; decide), if_pos hl])
 have hal : Below w.heap.size w (w.alloc (.cells (ndA x B cap) 28)) := (Below.refl _ _).alloc (Nat.le_refl _) _
 have H0 := Lib.hid (Blk.new w 28 (ndA x B cap))
 have HB0 := Lib.hid hal
 have HC := Lib.hid (rright_any x _ B cap _ hsz (ht.below hal))
 have HT := Lib.hid ht
 have HV := Lib.hid hV
 have HCv := Lib.hid hcv
 have HCap := Lib.hid hcap
 clear ht hal hV hcv hcap hsz
 unfold ndV at HC ⊢
 unfold ndA at H0 HB0 HC
 obtain ⟨x0, x1, x2, x3, x4, x5, x6, x7⟩ : _ ∧ _ ∧ _ ∧ _ ∧ _ ∧ _ ∧ _ ∧ _ := ⟨(H0.out).cell 0, (H0.out).cell 1, (H0.out).cell 2, (H0.out).cell 3, (H0.out).cell 4, (H0.out).cell 5, (H0.out).cell 6, (H0.out).cell 7⟩
 simp only [List.getElem?_toArray, List.getElem?_cons_zero, List.getElem?_cons_succ, ndA] at x0 x1 x2 x3 x4 x5 x6 x7
 have lx := (H0.out).lt
 rw [hr] at HC
 have hd1 : (256 : Int) < (bs.length : Int) := by omega
 clear hr hl
 go_enter Tryd.func10, Tryd.ntmps10
 go_wp2_with fail
 refine HC.out.mono ?_
 rintro e w1 ⟨rfl, hb1⟩
 have H1 := Lib.hid (H0.out.below hb1 H0.out.lt)
 have HB1 := Lib.hid (HB0.out.trans (hb1.mono HB0.out.size))
 clear hb1 HC H0 HB0 x0 x1 x2 x3 x4 x5 x6 x7 lx
 dsimp only
 go_wp2
 go_light
 refine bodyPost_ret (results_tmp2 rfl _ _ _) rfl ⟨none, 0, ?_, HB1.out, ?_, ?_⟩
 ·rw [HF.out, findB_no (by rw [HF.out]; decide), placesL_none]; rfl
 ·rw [findB_no (by rw [HF.out]; decide), placesL_none]; exact fun i a ha => by simp at ha
 ·rw [findB_no (by rw [HF.out]; decide), placesL_none]; exact Nat.le_refl _
theorem rends_low (x : Nd) (B : Option Addr) (cap : Nat) (V : Option Addr) (cv : Nat) (i : Int) (bs : List Nat) (w : World) (hsz : x.size ≤ 140737488355328) (hcap : x.kids.len ≤ cap) (ht : TreesAt w (fun b => b < w.heap.size) x.kids B) (hV : BytesAt w w.heap.size V bs) (hcv : bs.length ≤ cv) (hr : rightT x = true) (hl : bs.length ≤ 256) (hi : i < 0) : Calls Tryd.prog 10 #[ndV x B cap, .slice V bs.length cv, .int .i64 i] w (EndsOut x bs i w) := by
 have HF := Lib.hid (show errF x bs i = 1 by unfold errF; rw [if_neg (by rw [hr]; decide), if_neg (by omega), if_pos (.inl hi)])
 have hal : Below w.heap.size w (w.alloc (.cells (ndA x B cap) 28)) := (Below.refl _ _).alloc (Nat.le_refl _) _
 have H0 := Lib.hid (Blk.new w 28 (ndA x B cap))
 have HB0 := Lib.hid hal
 have HC := Lib.hid (rright_any x _ B cap _ hsz (ht.below hal))
 have HT := Lib.hid ht
 have HV := Lib.hid hV
 have HCv := Lib.hid hcv
 have HCap := Lib.hid hcap
 clear ht hal hV hcv hcap hsz
 unfold ndV at HC ⊢
 unfold ndA at H0 HB0 HC
 obtain ⟨x0, x1, x2, x3, x4, x5, x6, x7⟩ : _ ∧ _ ∧ _ ∧ _ ∧ _ ∧ _ ∧ _ ∧ _ := ⟨(H0.out).cell 0, (H0.out).cell 1, (H0.out).cell 2, (H0.out).cell 3, (H0.out).cell 4, (H0.out).cell 5, (H0.out).cell 6, (H0.out).cell 7⟩
 simp only [List.getElem?_toArray, List.getElem?_cons_zero, List.getElem?_cons_succ, ndA] at x0 x1 x2 x3 x4 x5 x6 x7
 have lx := (H0.out).lt
 rw [hr] at HC
 have hd1 : ¬ (256 : Int) < (bs.length : Int) := by omega
 clear hr hl
 go_enter Tryd.func10, Tryd.ntmps10
 go_wp2_with fail
 refine HC.out.mono ?_
 rintro e w1 ⟨rfl, hb1⟩
 have H1 := Lib.hid (H0.out.below hb1 H0.out.lt)
 have HB1 := Lib.hid (HB0.out.trans (hb1.mono HB0.out.size))
 clear hb1 HC H0 HB0 x0 x1 x2 x3 x4 x5 x6 x7 lx
 dsimp only
 go_wp2
 go_light
 refine bodyPost_ret (results_tmp2 rfl _ _ _) rfl ⟨none, 0, ?_, HB1.out, ?_, ?_⟩
 ·rw [HF.out, findB_no (by rw [HF.out]; decide), placesL_none]; rfl
 ·rw [findB_no (by rw [HF.out]; decide), placesL_none]; exact fun i a ha => by simp at ha
 ·rw [findB_no (by rw [HF.out]; decide), placesL_none]; exact Nat.le_refl _
theorem rends_high (x : Nd) (B : Option Addr) (cap : Nat) (V : Option Addr) (cv : Nat) (i : Int) (bs : List Nat) (w : World) (hsz : x.size ≤ 140737488355328) (hcap : x.kids.len ≤ cap) (ht : TreesAt w (fun b => b < w.heap.size) x.kids B) (hV : BytesAt w w.heap.size V bs) (hcv : bs.length ≤ cv) (hr : rightT x = true) (hl : bs.length ≤ 256) (hi : 0 ≤ i) (hi2 : (bs.length : Int) < i) : Calls Tryd.prog 10 #[ndV x B cap, .slice V bs.length cv, .int .i64 i] w (EndsOut x bs i w) := by
 have HF := Lib.hid (show errF x bs i = 1 by unfold errF; rw [if_neg (by rw [hr]; decide), if_neg (by omega), if_pos (.inr hi2)])
 have hal : Below w.heap.size w (w.alloc (.cells (ndA x B cap) 28)) := (Below.refl _ _).alloc (Nat.le_refl _) _
 have H0 := Lib.hid (Blk.new w 28 (ndA x B cap))
 have HB0 := Lib.hid hal
 have HC := Lib.hid (rright_any x _ B cap _ hsz (ht.below hal))
 have HT := Lib.hid ht
 have HV := Lib.hid hV
 have HCv := Lib.hid hcv
 have HCap := Lib.hid hcap
 clear ht hal hV hcv hcap hsz
 unfold ndV at HC ⊢
 unfold ndA at H0 HB0 HC
 obtain ⟨x0, x1, x2, x3, x4, x5, x6, x7⟩ : _ ∧ _ ∧ _ ∧ _ ∧ _ ∧ _ ∧ _ ∧ _ := ⟨(H0.out).cell 0, (H0.out).cell 1, (H0.out).cell 2, (H0.out).cell 3, (H0.out).cell 4, (H0.out).cell 5, (H0.out).cell 6, (H0.out).cell 7⟩
 simp only [List.getElem?_toArray, List.getElem?_cons_zero, List.getElem?_cons_succ, ndA] at x0 x1 x2 x3 x4 x5 x6 x7
 have lx := (H0.out).lt
 rw [hr] at HC
 have hd1 : ¬ (256 : Int) < (bs.length : Int) := by omega
 have hd2 : ¬ i < 0 := by omega
 clear hr hl hi
 go_enter Tryd.func10, Tryd.ntmps10
 go_wp2_with fail
 refine HC.out.mono ?_
 rintro e w1 ⟨rfl, hb1⟩
 have H1 := Lib.hid (H0.out.below hb1 H0.out.lt)
 have HB1 := Lib.hid (HB0.out.trans (hb1.mono HB0.out.size))
 clear hb1 HC H0 HB0 x0 x1 x2 x3 x4 x5 x6 x7 lx
 dsimp only
 go_wp2
 go_light
 refine bodyPost_ret (results_tmp2 rfl _ _ _) rfl ⟨none, 0, ?_, HB1.out, ?_, ?_⟩
 ·rw [HF.out, findB_no (by rw [HF.out]; decide), placesL_none]; rfl
 ·rw [findB_no (by rw [HF.out]; decide), placesL_none]; exact fun i a ha => by simp at ha
 ·rw [findB_no (by rw [HF.out]; decide), placesL_none]; exact Nat.le_refl _
theorem one_intR (w : World) (i : Int) : IntsAt (w.alloc (.cells #[.int .i64 i] 3)) (some ⟨w.heap.size, 0, none⟩) [i] := fun k a ha => by
 have h := Blk.new w 3 #[.int .i64 i]
 match k, ha with
 | 0, ha => simp at ha; subst ha; exact ⟨_, _, rfl, h.cell 0⟩
 | k + 1, ha => simp at ha
theorem small_right {x : Nd} (h : rightT x = true) : x.size ≤ 4096 ∧ ∀ y ∈ x.nodes, aloneN y = true := ⟨right_small h, right_okays h⟩
theorem rends_yes (x : Nd) (B : Option Addr) (cap : Nat) (V : Option Addr) (cv : Nat) (i : Int) (bs : List Nat) (w : World) (hsz : x.size ≤ 140737488355328) (hcap : x.kids.len ≤ cap) (ht : TreesAt w (fun b => b < w.heap.size) x.kids B) (hV : BytesAt w w.heap.size V bs) (hcv : bs.length ≤ cv) (hr : rightT x = true) (hl : bs.length ≤ 256) (i0 : Nat) (hi : i = (i0 : Int)) (hi2 : i0 ≤ bs.length) : Calls Tryd.prog 10 #[ndV x B cap, .slice V bs.length cv, .int .i64 i] w (EndsOut x bs i w) := by
 have hF0 : errF x bs i = 0 := by unfold errF; rw [if_neg (by rw [hr]; decide), if_neg (by omega), if_neg (by omega)]
 have HF := Lib.hid (show errF x bs i = 0 ∧ findB x bs i = endsB x bs i0 from ⟨hF0, by rw [findB_yes hF0, hi]; rfl⟩)
 have hal : Below w.heap.size w (w.alloc (.cells (ndA x B cap) 28)) := (Below.refl _ _).alloc (Nat.le_refl _) _
 have H0 := Lib.hid (Blk.new w 28 (ndA x B cap))
 have HB0 := Lib.hid hal
 have HC := Lib.hid (rright_any x _ B cap _ hsz (ht.below hal))
 have HT := Lib.hid ht
 have HV := Lib.hid hV
 have HCv := Lib.hid hcv
 have HCap := Lib.hid hcap
 clear ht hal hV hcv hcap hsz
 unfold ndV at HC ⊢
 unfold ndA at H0 HB0 HC
 obtain ⟨x0, x1, x2, x3, x4, x5, x6, x7⟩ : _ ∧ _ ∧ _ ∧ _ ∧ _ ∧ _ ∧ _ ∧ _ := ⟨(H0.out).cell 0, (H0.out).cell 1, (H0.out).cell 2, (H0.out).cell 3, (H0.out).cell 4, (H0.out).cell 5, (H0.out).cell 6, (H0.out).cell 7⟩
 simp only [List.getElem?_toArray, List.getElem?_cons_zero, List.getElem?_cons_succ, ndA] at x0 x1 x2 x3 x4 x5 x6 x7
 have lx := (H0.out).lt
 have HS := Lib.hid (small_right hr)
 rw [hr] at HC
 have hd1 : ¬ (256 : Int) < (bs.length : Int) := by omega
 have hd2 : ¬ (i0 : Int) < 0 := by omega
 have hd3 : ¬ (bs.length : Int) < (i0 : Int) := by omega
 have HL := Lib.hid (show bs.length ≤ 256 ∧ i0 ≤ bs.length from ⟨hl, hi2⟩)
 clear hr hF0 hl hi2
 subst hi
 go_enter Tryd.func10, Tryd.ntmps10
 go_wp2_with fail
 refine HC.out.mono ?_
 rintro e w1 ⟨rfl, hb1⟩
 have H1 := Lib.hid (H0.out.below hb1 H0.out.lt)
 have HB1 := Lib.hid (HB0.out.trans (hb1.mono HB0.out.size))
 clear hb1 HC H0 HB0 x0 x1 x2 x3 x4 x5 x6 x7 lx
 dsimp only
 obtain ⟨x0, x1, x2, x3, x4, x5, x6, x7⟩ : _ ∧ _ ∧ _ ∧ _ ∧ _ ∧ _ ∧ _ ∧ _ := ⟨(H1.out).cell 0, (H1.out).cell 1, (H1.out).cell 2, (H1.out).cell 3, (H1.out).cell 4, (H1.out).cell 5, (H1.out).cell 6, (H1.out).cell 7⟩
 simp only [List.getElem?_toArray, List.getElem?_cons_zero, List.getElem?_cons_succ, ndA] at x0 x1 x2 x3 x4 x5 x6 x7
 have lx := (H1.out).lt
 have hb2 : Below w1.heap.size w1 (w1.alloc (.cells #[.int .i64 (i0 : Int)] 3)) := (Below.refl _ _).alloc (Nat.le_refl _) _
 have HB2 := Lib.hid (HB1.out.trans (hb2.mono HB1.out.size))
 have HFr := Lib.hid (from_all (bs := bs) x.size x (Nat.le_refl _) (by have := HS.out.1; omega) HS.out.2 HL.out.1 B cap V cv (some ⟨w1.heap.size, 0, none⟩) 1 [(i0 : Int)] (w1.alloc (.cells #[.int .i64 (i0 : Int)] 3)) ((HT.out.below HB2.out).weak (fun b h _ => Nat.lt_of_lt_of_le h HB2.out.size)) HCap.out ((HV.out.below HB2.out).more HB2.out.size) HCv.out (one_intR w1 _) (Nat.le_refl _) (places_one HL.out.2))
 unfold ndV at HFr
 clear hb2
 go_wp2_with fail
 refine HFr.out.mono ?_
 rintro e w3 ⟨R, A3, c3, hR, rfl, hb3, hi3, hc3⟩
 have hRe : R = placesL (endsB x bs i0) := ends_one hR (placesL_ends HL.out.1 HL.out.2)
 subst hRe
 have HB3 := Lib.hid (HB2.out.trans (hb3.mono HB2.out.size))
 have HI3 := Lib.hid (show _ ∧ _ from ⟨hi3, hc3⟩)
 clear hR hb3 hi3 hc3 HFr x0 x1 x2 x3 x4 x5 x6 x7 lx
 dsimp only
 go_wp2
 go_light
 refine bodyPost_ret (results_tmp2 rfl _ _ _) rfl ⟨A3, c3, ?_, HB3.out, ?_, ?_⟩
 ·rw [HF.out.1, HF.out.2]; rfl
 ·rw [HF.out.2]; exact HI3.out.1
 ·rw [HF.out.2]; exact HI3.out.2
theorem rends_go (x : Nd) (B : Option Addr) (cap : Nat) (V : Option Addr) (cv : Nat) (i : Int) (bs : List Nat) (w : World) (hsz : x.size ≤ 140737488355328) (hcap : x.kids.len ≤ cap) (ht : TreesAt w (fun b => b < w.heap.size) x.kids B) (hV : BytesAt w w.heap.size V bs) (hcv : bs.length ≤ cv) : Calls Tryd.prog 10 #[ndV x B cap, .slice V bs.length cv, .int .i64 i] w (EndsOut x bs i w) := by
 rcases hr : rightT x with _ | _
 ·exact rends_kind x B cap V cv i bs w hsz hcap ht hV hcv hr
 rcases Nat.lt_or_ge 256 bs.length with hl | hl
 ·exact rends_long x B cap V cv i bs w hsz hcap ht hV hcv hr hl
 rcases Int.lt_or_le i 0 with hi | hi
 ·exact rends_low x B cap V cv i bs w hsz hcap ht hV hcv hr hl hi
 rcases Int.lt_or_le (bs.length : Int) i with hi2 | hi2
 ·exact rends_high x B cap V cv i bs w hsz hcap ht hV hcv hr hl hi hi2
 ·exact rends_yes x B cap V cv i bs w hsz hcap ht hV hcv hr hl i.toNat (by omega) (by omega)
theorem rfull_go (x : Nd) (B : Option Addr) (cap : Nat) (V : Option Addr) (cv : Nat) (bs : List Nat) (w : World) (hsz : x.size ≤ 140737488355328) (hcap : x.kids.len ≤ cap) (ht : TreesAt w (fun b => b < w.heap.size) x.kids B) (hV : BytesAt w w.heap.size V bs) (hcv : bs.length ≤ cv) : Calls Tryd.prog 13 #[ndV x B cap, .slice V bs.length cv] w fun e w' => e = .returned (.bool (fullB x bs)) ∧ Below w.heap.size w w' := by
 have hal : Below w.heap.size w (w.alloc (.cells (ndA x B cap) 28)) := (Below.refl _ _).alloc (Nat.le_refl _) _
 have H0 := Lib.hid (Blk.new w 28 (ndA x B cap))
 have HB0 := Lib.hid hal
 have HC := Lib.hid (rends_go x B cap V cv 0 bs (w.alloc (.cells (ndA x B cap) 28)) hsz hcap ((ht.below hal).weak (fun b h _ => Nat.lt_of_lt_of_le h hal.size)) ((hV.below hal).more hal.size) hcv)
 clear ht hal hV hcv hcap hsz
 unfold ndV at HC ⊢
 unfold ndA at H0 HB0 HC
 obtain ⟨x0, x1, x2, x3, x4, x5, x6, x7⟩ : _ ∧ _ ∧ _ ∧ _ ∧ _ ∧ _ ∧ _ ∧ _ := ⟨(H0.out).cell 0, (H0.out).cell 1, (H0.out).cell 2, (H0.out).cell 3, (H0.out).cell 4, (H0.out).cell 5, (H0.out).cell 6, (H0.out).cell 7⟩
 simp only [List.getElem?_toArray, List.getElem?_cons_zero, List.getElem?_cons_succ, ndA] at x0 x1 x2 x3 x4 x5 x6 x7
 have lx := (H0.out).lt
 unfold EndsOut at HC
 by_cases he : errF x bs 0 = 0
 ·have HV := Lib.hid (show bs.length ≤ 256 ∧ fullB x bs = findB x bs 0 bs.length from ⟨(errF_zero he).2.1, rfl⟩)
  rw [he] at HC
  clear he
  go_enter Tryd.func13, Tryd.ntmps13
  go_wp2_with fail
  refine HC.out.mono ?_
  rintro e w1 ⟨A1, c1, rfl, hb1, hi1, hc1⟩
  have HB1 := Lib.hid (HB0.out.trans (hb1.mono HB0.out.size))
  have HH := Lib.hid (rhas11_go A1 c1 (placesL (findB x bs 0)) (bs.length : Int) w1 hi1 (by have := placesL_len (findB x bs 0); omega))
  rw [hasI_places (by have := HV.out.1; omega)] at HH
  clear hb1 hi1 hc1 HC H0 HB0 x0 x1 x2 x3 x4 x5 x6 x7 lx
  dsimp only
  go_wp2_with fail
  refine HH.out.mono ?_
  rintro e _ ⟨rfl, rfl⟩
  dsimp only
  go_wp2
  go_light
  go_ret
  exact ⟨by rw [HV.out.2]; rfl, HB1.out⟩
 ·have HV := Lib.hid (show fullB x bs = false from by unfold fullB; rw [findB_no he])
  have hbe : (errF x bs 0 == 0) = false := by simpa using he
  generalize errF x bs 0 = er at *
  go_enter Tryd.func13, Tryd.ntmps13
  go_wp2_with fail
  refine HC.out.mono ?_
  rintro e w1 ⟨A1, c1, rfl, hb1, hi1, hc1⟩
  have HB1 := Lib.hid (HB0.out.trans (hb1.mono HB0.out.size))
  clear hb1 hi1 hc1 HC H0 HB0 x0 x1 x2 x3 x4 x5 x6 x7 lx
  dsimp only
  go_wp2
  go_light
  go_ret
  exact ⟨by rw [HV.out]; rfl, HB1.out⟩
theorem rlongest11_go (x : Nd) (B : Option Addr) (cap : Nat) (V : Option Addr) (cv : Nat) (i : Int) (bs : List Nat) (w : World) (hsz : x.size ≤ 140737488355328) (hcap : x.kids.len ≤ cap) (ht : TreesAt w (fun b => b < w.heap.size) x.kids B) (hV : BytesAt w w.heap.size V bs) (hcv : bs.length ≤ cv) : Calls Tryd.prog 15 #[ndV x B cap, .slice V bs.length cv, .int .i64 i] w fun e w' => e = .returned (.int .i64 (lastI (elems (findB x bs i) 320))) ∧ Below w.heap.size w w' := by
 have hal : Below w.heap.size w (w.alloc (.cells (ndA x B cap) 28)) := (Below.refl _ _).alloc (Nat.le_refl _) _
 have H0 := Lib.hid (Blk.new w 28 (ndA x B cap))
 have HB0 := Lib.hid hal
 have HC := Lib.hid (rends_go x B cap V cv i bs (w.alloc (.cells (ndA x B cap) 28)) hsz hcap ((ht.below hal).weak (fun b h _ => Nat.lt_of_lt_of_le h hal.size)) ((hV.below hal).more hal.size) hcv)
 clear ht hal hV hcv hcap hsz
 unfold ndV at HC ⊢
 unfold ndA at H0 HB0 HC
 obtain ⟨x0, x1, x2, x3, x4, x5, x6, x7⟩ : _ ∧ _ ∧ _ ∧ _ ∧ _ ∧ _ ∧ _ ∧ _ := ⟨(H0.out).cell 0, (H0.out).cell 1, (H0.out).cell 2, (H0.out).cell 3, (H0.out).cell 4, (H0.out).cell 5, (H0.out).cell 6, (H0.out).cell 7⟩
 simp only [List.getElem?_toArray, List.getElem?_cons_zero, List.getElem?_cons_succ, ndA] at x0 x1 x2 x3 x4 x5 x6 x7
 have lx := (H0.out).lt
 unfold EndsOut at HC
 by_cases he : errF x bs i = 0
 ·rw [he] at HC
  clear he
  by_cases hn : (placesL (findB x bs i)).length = 0
  ·have HV := Lib.hid (places_empty hn)
   rw [hn] at HC
   clear hn
   go_enter Tryd.func15, Tryd.ntmps15
   go_wp2_with fail
   refine HC.out.mono ?_
   rintro e w1 ⟨A1, c1, rfl, hb1, hi1, hc1⟩
   have HB1 := Lib.hid (HB0.out.trans (hb1.mono HB0.out.size))
   clear hb1 hi1 hc1 HC H0 HB0 x0 x1 x2 x3 x4 x5 x6 x7 lx
   dsimp only
   go_wp2
   go_light
   go_ret
   exact ⟨by rw [HV.out]; rfl, HB1.out⟩
  ·have HP := Lib.hid (places_last (p := findB x bs i) (by omega))
   have HLn := Lib.hid (placesL_len (findB x bs i))
   have hne : (((placesL (findB x bs i)).length : Int) == 0) = false := by rw [beq_eq_false_iff_ne]; omega
   have hpos : 0 < (placesL (findB x bs i)).length := by omega
   clear hn
   generalize placesL (findB x bs i) = L at *
   generalize lastI (elems (findB x bs i) 320) = last at *
   go_enter Tryd.func15, Tryd.ntmps15
   go_wp2_with fail
   refine HC.out.mono ?_
   rintro e w1 ⟨A1, c1, rfl, hb1, hi1, hc1⟩
   have HB1 := Lib.hid (HB0.out.trans (hb1.mono HB0.out.size))
   obtain ⟨b', o', rfl, hc⟩ := hi1 _ _ HP.out
   have hw : IntKind.i64.wrap ((L.length : Int) - 1) = ((L.length - 1 : Nat) : Int) := by rw [IntKind.wrap_i64]; have := HLn.out; omega
   have hd1 : ((L.length - 1 : Nat) : Int) < (L.length : Int) := by omega
   have hd2 : ((L.length - 1 : Nat) : Int) < (c1 : Int) := by omega
   clear hb1 hi1 HC H0 HB0 x0 x1 x2 x3 x4 x5 x6 x7 lx hc1
   dsimp only
   go_wp2
   go_light
   go_ret
   exact ⟨rfl, HB1.out⟩
 ·have HV := Lib.hid (show lastI (elems (findB x bs i) 320) = -1 from by rw [findB_no he]; decide +kernel)
  have hbe : (errF x bs i != 0) = true := by simpa using he
  generalize errF x bs i = er at *
  go_enter Tryd.func15, Tryd.ntmps15
  go_wp2_with fail
  refine HC.out.mono ?_
  rintro e w1 ⟨A1, c1, rfl, hb1, hi1, hc1⟩
  have HB1 := Lib.hid (HB0.out.trans (hb1.mono HB0.out.size))
  clear hb1 hi1 hc1 HC H0 HB0 x0 x1 x2 x3 x4 x5 x6 x7 lx
  dsimp only
  go_wp2
  go_light
  go_ret
  exact ⟨by rw [HV.out]; rfl, HB1.out⟩
end Go.Proofs.YtfcblmbieiibmaaDoor
