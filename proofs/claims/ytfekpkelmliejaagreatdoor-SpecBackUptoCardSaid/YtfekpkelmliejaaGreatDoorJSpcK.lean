/- Texts of the claim. -/
import Derived.Test.YtfekpkelmliejaaGreatDoorJSpcC
import Derived.Test.YtfekpkelmliejaaGreatDoorJSpcS
import Derived.Test.YtfekpkelmliejaaGreatDoorJSpecSame
import Derived.Test.YtfekpkelmliejaaGreatDoorJKnows09
import Derived.Test.YtfekpkelmliejaaGreatDoorJZ01
namespace Go.Proofs.YtfekpkelmliejaaGreatDoor
open Go.RowKit Go.Maps
set_option linter.unusedSimpArgs false
set_option linter.unusedVariables false
set_option maxRecDepth 100000
set_option maxHeartbeats 8000000
theorem textR_kind {rs : List RuleS} {k : Int} (h : textR rs = .error k) : k ≠ 0 := by
 unfold textR at h
 split at h
 ·cases h; decide
 ·split at h
  ·split at h
   ·cases h; decide
   ·cases h
  ·cases h; decide
theorem txt_form (r : Except Int (List Nat)) : ∃ (sv : ByteArray) (kv : Int), txtV r = .tuple #[.string sv, .int .i64 kv] ∧ (kv = 0 → (∃ s, r = .ok s ∧ sv = strOf s) ∨ r = .error 0) := by
 cases r with
 | ok s => exact ⟨strOf s, 0, rfl, fun _ => .inl ⟨s, rfl, rfl⟩⟩
 | error k => exact ⟨⟨#[]⟩, k, rfl, fun h => .inr (by rw [h])⟩
theorem said_sum9 : ∀ F : Trees, (F.said.map Nd.size).sum ≤ F.size
 | .nil => Nat.le_refl _
 | .cons k s ks lo hi r => by
  have h1 := said_sum9 ks
  have h2 := said_sum9 r
  have h3 : (saidK k s lo hi ks.said).size ≤ 1 + (ks.said.map Nd.size).sum := by
   unfold saidK
   split
   ·show 1 ≤ _; omega
   ·show 1 + (Trees.of ks.said).size ≤ _
    rw [Trees.size_list, Trees.list_of]
    omega
  rw [Trees.said, List.map_cons, List.sum_cons, Trees.size]
  omega
theorem said_size9 (x : Nd) : x.said.size ≤ x.size := by
 have h1 := said_sum9 x.kids
 show (saidK x.kind x.set x.lo x.hi x.kids.said).size ≤ 1 + x.kids.size
 unfold saidK
 split
 ·show 1 ≤ _; omega
 ·show 1 + (Trees.of x.kids.said).size ≤ _
  rw [Trees.size_list, Trees.list_of]
  omega
theorem back9_law (A : Option Addr) (cap : Nat) (rs : List RuleS) (a1 : Option Addr) (cap1 : Nat) (bs : List Nat) (w : World) (hA : RulesAt w (fun b => b < w.heap.size) rs A) (hF : Fit rs) (hcap : rs.length ≤ cap) (hb : BytesAt w w.heap.size a1 bs) (hc1 : bs.length ≤ cap1) (hT : TabAt 1 Lib.deBruijn64tab w) (hw0 : 1 < w.heap.size) :
  Calls Tryz.prog 11 #[.slice A rs.length cap, .slice a1 bs.length cap1] w fun e w' => e = .returned (.bool true) ∧ Below w.heap.size w w' := by
 have HA := Lib.hid hA
 have HF := Lib.hid hF
 have HT := Lib.hid hT
 have HY := Lib.hid hb
 have H1 := Lib.hid (stext9_go A cap rs w hA hF hT hw0)
 have h140 := hb.2.1
 clear hA hF hT hb
 go_enter Tryz.func11, Tryz.ntmps11
 obtain ⟨sv, kv, hv, hk0⟩ := txt_form (textR rs)
 rw [hv] at H1
 have HK0 := Lib.hid hk0
 clear hk0 hv
 go_wp2_with fail
 refine H1.out.mono ?_
 rintro e w1 ⟨rfl, hb1⟩
 have HB1 := Lib.hid hb1
 clear hb1 H1
 dsimp only
 go_upto_if 21 with fail
 go_cut [7, 8] from 22 to 37 (fun u7 u8 wx => Hid (Below w.heap.size w wx))
 case first =>
  by_cases hk : kv = 0
  ·obtain ⟨s, ht, rfl⟩ : ∃ s, textR rs = .ok s ∧ sv = strOf s := (HK0.out hk).resolve_right (fun h => textR_kind h rfl)
   subst hk
   obtain ⟨hrd, hsb, hsl, hrr⟩ := text_back9 ht
   have hl64 := rightR_few hrr
   have hsz : ∀ r ∈ rs, r.body.size ≤ 4096 := fun r hr => by
    obtain ⟨k, hk, rfl⟩ := List.mem_iff_getElem.1 hr
    exact rightT_size (rightR_get hrr (List.getElem?_eq_getElem hk)).2.2
   obtain ⟨C, w2, hconv, hbt, hbel, hC⟩ := conv_text w1 s hsb (by omega)
   have HB2 := Lib.hid (HB1.out.trans (hbel.mono HB1.out.size))
   have hRd := sread_go (some ⟨w1.heap.size, 0, none⟩) C s w2 hbt hC
   rw [hrd] at hRd
   have HRd := Lib.hid hRd
   have HSz := Lib.hid hsz
   clear hRd hbel hbt hrd hsb HB1 HK0 ht hrr hsz
   go_wp2_with fail
   refine HRd.out.mono ?_
   rintro e w3 ⟨A3, cap3, rfl, hb3, hc3, ht3⟩
   clear HRd hconv
   have hb4 : Below w3.heap.size w3 (w3.alloc (.cells #[.int .i64 0, .int .i64 0] 75)) := (Below.refl _ _).alloc (Nat.le_refl _) _
   have HB4 := Lib.hid ((HB2.out.trans (hb3.mono HB2.out.size)).trans (hb4.mono (by have := HB2.out.size; have := hb3.size; omega)))
   have HT4 := Lib.hid (ht3.below hb4)
   have hA4 : RulesAt (w3.alloc (.cells #[.int .i64 0, .int .i64 0] 75)) (fun b => b < (w3.alloc (.cells #[.int .i64 0, .int .i64 0] 75)).heap.size) rs A := (HA.out.below HB4.out).weak (fun b _ h => h)
   have HS4 := Lib.hid (said9_go A cap rs _ hA4 hcap hl64 (fun r hr => by have := HSz.out r hr; omega))
   have HX4 := Lib.hid (Blk.new w3 75 #[.int .i64 0, .int .i64 0])
   rw [List.length_map] at hc3
   simp only [List.length_map]
   have hsl2 : ∀ r ∈ rs.map saidR, r.body.size ≤ 4096 := fun r hr => by
    obtain ⟨q, hq, rfl⟩ := List.mem_map.1 hr
    exact Nat.le_trans (said_size9 q.body) (HSz.out q hq)
   have HZ := Lib.hid hsl2
   clear hb3 ht3 hb4 hA4 hsl2 HB2
   go_upto_region 4 with fail
   generalize hg : w3.heap.size = gx at *
   generalize w3.alloc (.cells #[.int .i64 0, .int .i64 0] 75) = w4 at *
   have x0 := HX4.out.cell 0
   simp only [List.getElem?_toArray, List.getElem?_cons_zero] at x0
   have hlx := HX4.out.lt
   go_wp2_with fail
   refine HS4.out.mono ?_
   rintro e w5 ⟨A5, cap5, rfl, hb5, ht5⟩
   have HB5 := Lib.hid (HB4.out.trans (hb5.mono HB4.out.size))
   have hE := sspsame_go A3 A5 cap3 cap5 (rs.map saidR) _ _ w5 (HT4.out.below hb5) ht5 (by rw [List.length_map]; omega) (fun r hr => by have := HZ.out r hr; omega)
   rw [List.length_map] at hE
   have HE := Lib.hid hE
   clear hb5 ht5 HS4 HT4 HB4 hE x0
   dsimp only
   go_wp2_with fail
   refine HE.out.mono ?_
   rintro e w6 ⟨rfl, hb6⟩
   have HB6 := Lib.hid (HB5.out.trans (hb6.mono HB5.out.size))
   clear hb6 HE HB5
   dsimp only
   go_wp2_with fail
   go_meet
   exact HB6
  ·have hkn : (kv == 0) = false := by simpa using hk
   go_wp2_with fail
   go_meet
   exact HB1
 case rest =>
 have HBc := Lib.hid (show Below w.heap.size w wc from hcut.out)
 clear HB1 HK0 hcut HA HF
 have hYc : BytesAt wc wc.heap.size a1 bs := (HY.out.below HBc.out).more HBc.out.size
 have hbs := hYc.1
 have hRd := sread_go a1 cap1 bs wc hYc hc1
 cases hr : rulesS bs with
 | error z =>
  obtain ⟨k, q⟩ := z
  obtain ⟨hk, hq0, hq1⟩ := rulesS_at hbs hr
  have hkn : (k != 0) = true := by simpa using hk
  rw [hr] at hRd
  have HRd := Lib.hid hRd
  clear hRd hYc hr hbs hk
  go_wp2_with fail
  refine HRd.out.mono ?_
  rintro e w3 ⟨rfl, hb3⟩
  have HB8 := Lib.hid (HBc.out.trans ((hb3.trans ((Below.refl w3.heap.size w3).alloc (Nat.le_refl _) (.cells #[.int .i64 k, .int .i64 q] 75) |>.mono hb3.size)).mono HBc.out.size))
  have HX4 := Lib.hid (Blk.new w3 75 #[.int .i64 k, .int .i64 q])
  clear hb3 HRd
  go_upto_region 7 with fail
  generalize hg : w3.heap.size = gx at *
  generalize w3.alloc (.cells #[.int .i64 k, .int .i64 q] 75) = w4 at *
  obtain ⟨x0, x1, _, _⟩ := HX4.out.c2
  have hlx := HX4.out.lt
  go_wp2_with fail
  refine (knows09_go _).mono ?_
  rintro e w9 ⟨rfl, hb9⟩
  have HB9 := Lib.hid (HB8.out.trans (hb9.mono HB8.out.size))
  clear hb9
  dsimp only
  go_wp2
  go_light
  go_ret
  exact ⟨rfl, HB9.out⟩
 | ok l =>
  obtain ⟨hrr, hsd, htx⟩ := read_text hbs hr
  obtain ⟨hl64, hlz⟩ := rulesS_few hr
  have hlb := rulesS_lt hbs hr
  have hFl : Fit l := ⟨hlb, fun r hr2 => by
   obtain ⟨k, hk, rfl⟩ := List.mem_iff_getElem.1 hr2
   have := nameB_le (rightR_get hrr (List.getElem?_eq_getElem hk)).1
   omega, fun r hr2 => by have := hlz r hr2; omega, by omega⟩
  rw [hr] at hRd
  have HRd := Lib.hid hRd
  have HFl := Lib.hid hFl
  have HLz := Lib.hid hlz
  have HRR := Lib.hid hrr
  have HSD := Lib.hid hsd
  clear hRd hYc hr hbs hrr hsd hlz hlb hFl
  go_wp2_with fail
  refine HRd.out.mono ?_
  rintro e w3 ⟨A3, cap3, rfl, hb3, hc3, ht3⟩
  have hb4 : Below w3.heap.size w3 (w3.alloc (.cells #[.int .i64 0, .int .i64 0] 75)) := (Below.refl _ _).alloc (Nat.le_refl _) _
  have HB4 := Lib.hid (HBc.out.trans ((hb3.trans (hb4.mono hb3.size)).mono HBc.out.size))
  have HT4 := Lib.hid (ht3.below hb4)
  have HX4 := Lib.hid (Blk.new w3 75 #[.int .i64 0, .int .i64 0])
  clear hb3 hb4 ht3 HRd
  go_upto_region 7 with fail
  generalize hg : w3.heap.size = gx at *
  generalize w3.alloc (.cells #[.int .i64 0, .int .i64 0] 75) = w4 at *
  have x0 := HX4.out.cell 0
  simp only [List.getElem?_toArray, List.getElem?_cons_zero] at x0
  have hlx := HX4.out.lt
  have hA4 : RulesAt w4 (fun b => b < w4.heap.size) l A3 := HT4.out.weak (fun b _ h => h)
  have H4 := stext9_go A3 cap3 l w4 hA4 HFl.out (TabAt.below HB4.out hw0 HT.out) (Nat.lt_of_lt_of_le hw0 HB4.out.size)
  rcases htx with ⟨s, ht⟩ | ⟨ht, h1000⟩
  ·rw [ht] at H4
   unfold txtV at H4
   have H4 := Lib.hid H4
   obtain ⟨hrd, hsb, hsl, _⟩ := text_back9 ht
   rw [HSD.out] at hrd
   clear hA4 ht
   go_wp2_with fail
   refine H4.out.mono ?_
   rintro e w5 ⟨rfl, hb5⟩
   obtain ⟨C, w6, hconv, hbt, hbel, hC⟩ := conv_text w5 s hsb (by omega)
   have hRd := sread_go (some ⟨w5.heap.size, 0, none⟩) C s w6 hbt hC
   rw [hrd] at hRd
   have HRd := Lib.hid hRd
   have hb46 := hb5.trans (hbel.mono hb5.size)
   have HB6 := Lib.hid (HB4.out.trans (hb46.mono HB4.out.size))
   have HT6 := Lib.hid (HT4.out.below hb46)
   clear hRd hb5 hbel hbt hrd hsb HB4 HT4 hb46 H4 HX4 x0 hlx
   dsimp only
   go_wp2_with fail
   refine HRd.out.mono ?_
   rintro e w7 ⟨A7, cap7, rfl, hb7, hc7, ht7⟩
   have hb78 : Below w7.heap.size w7 (w7.alloc (.cells #[.int .i64 0, .int .i64 0] 75)) := (Below.refl _ _).alloc (Nat.le_refl _) _
   have hb68 := hb7.trans (hb78.mono hb7.size)
   have HB7 := Lib.hid (HB6.out.trans (hb68.mono HB6.out.size))
   have HT7 := Lib.hid (HT6.out.below hb68)
   have HU7 := Lib.hid (ht7.below hb78)
   have HX7 := Lib.hid (Blk.new w7 75 #[.int .i64 0, .int .i64 0])
   clear hb7 ht7 hb78 hb68 HRd hconv HB6 HT6
   go_upto_region 13 with fail
   generalize hg7 : w7.heap.size = g7 at *
   generalize w7.alloc (.cells #[.int .i64 0, .int .i64 0] 75) = w8 at *
   have y0 := HX7.out.cell 0
   simp only [List.getElem?_toArray, List.getElem?_cons_zero] at y0
   have hly := HX7.out.lt
   have HE := Lib.hid (sspsame_go A3 A7 cap3 cap7 l _ _ w8 HT7.out HU7.out (by omega) (fun r hr => by have := HLz.out r hr; omega))
   go_wp2_with fail
   refine HE.out.mono ?_
   rintro e w9 ⟨rfl, hb9⟩
   have HB9 := Lib.hid (HB7.out.trans (hb9.mono HB7.out.size))
   have HRt := Lib.hid (sspright_go A3 cap3 l w9 ((HT7.out.below hb9).weak (fun b _ h => h)) HFl.out)
   rw [HRR.out] at HRt
   clear hb9 HE HB7
   dsimp only
   go_wp2_with fail
   refine HRt.out.mono ?_
   rintro e w10 ⟨rfl, hb10⟩
   have HB8 := Lib.hid (HB9.out.trans (hb10.mono HB9.out.size))
   clear hb10 HRt HB9
   dsimp only
   go_wp2_with fail
   refine (knows09_go _).mono ?_
   rintro e w9 ⟨rfl, hb9⟩
   have HB9 := Lib.hid (HB8.out.trans (hb9.mono HB8.out.size))
   clear hb9
   dsimp only
   go_wp2
   go_light
   go_ret
   exact ⟨rfl, HB9.out⟩
  ·rw [ht] at H4
   unfold txtV at H4
   have H4 := Lib.hid H4
   have h1000' : (1000 : Int) < (bs.length : Int) := by omega
   clear hA4 ht
   go_wp2_with fail
   refine H4.out.mono ?_
   rintro e w5 ⟨rfl, hb5⟩
   have HB8 := Lib.hid (HB4.out.trans (hb5.mono HB4.out.size))
   clear hb5 H4 HB4
   dsimp only
   go_wp2_with fail
   refine (knows09_go _).mono ?_
   rintro e w9 ⟨rfl, hb9⟩
   have HB9 := Lib.hid (HB8.out.trans (hb9.mono HB8.out.size))
   clear hb9
   dsimp only
   go_wp2
   go_light
   go_ret
   exact ⟨rfl, HB9.out⟩
end Go.Proofs.YtfekpkelmliejaaGreatDoor
