/- Texts of the claim. -/
import Derived.Test.YtofbfafnpdaejaaGreatDoorJSimLo
set_option linter.all false
set_option maxRecDepth 100000
set_option maxHeartbeats 8000000
namespace Go.Proofs.YtofbfafnpdaejaaGreatDoor
open Go.RowKit
theorem map_take {F : Trees} {k : Nat} {z : Nd} (h : F.list[k]? = some z) : (F.list.take (k + 1)).map Nd.sim = (F.list.take k).map Nd.sim ++ [z.sim] := by
 rw [List.take_add_one, h, List.map_append]
 rfl
theorem made_good {F : Trees} (hf : FitF F) (hr : ∀ (m : Nat) (z : Nd), m < F.len → F.list[m]? = some z → rightT z = true) : (∀ x ∈ F.list.map Nd.sim, SG x) ∧ ((F.list.map Nd.sim).map Nd.size).sum ≤ F.size := by
 have hz : ∀ z ∈ F.list, ∀ y ∈ z.nodes, OkN y := fun z hz => by
  obtain ⟨m, hm⟩ := List.getElem?_of_mem hz
  exact right_oks (hr m z (by rw [← Trees.len_list]; exact (List.getElem?_eq_some_iff.1 hm).1) hm) (hf.get hz)
 refine ⟨fun x hx => ?_, ?_⟩
 ·obtain ⟨z, h, rfl⟩ := List.mem_map.1 hx
  exact (sim_sg (hz z h)).1
 ·rw [← Trees.sims_list]
  refine sims_size F fun y hy => ?_
  obtain ⟨z, h, hy⟩ := (nodes_list _ _).1 hy
  exact hz z h y hy
theorem simpleMakes_go (F : Trees) (B : Option Addr) (cap : Nat) (w : World) (hlen : F.size ≤ 1048576) (hf : FitF F) (ht : TreesAt w (fun b => b < w.heap.size) F B) (hT : TabAt 0 Lib.deBruijn64tab w) (hw0 : 0 < w.heap.size) :
  Calls Tryz.prog 6 #[.slice B F.len cap] w fun e w' => e = .returned (.bool true) ∧ Below w.heap.size w w' := by
 have HT := Lib.hid ht
 have HTB := Lib.hid hT
 have HFT := Lib.hid hf
 have HFl := Lib.hid (Trees.len_list F)
 have HFs := Lib.hid (Trees.len_size F)
 have HM := Lib.hid (orow_made (fun _ => True) w)
 clear ht hT hf
 go_enter Tryz.func6, Tryz.ntmps6
 go_wp2
 go_loopw [3, 4] (fun u i wr => ∃ j : Nat, i = .int .i64 (j : Int) ∧ j ≤ F.len ∧ Hid (∀ (m : Nat) (z : Nd), m < j → F.list[m]? = some z → rightT z = true) ∧ Hid (QRow (fun _ => True) w.heap.size w ((F.list.take j).map Nd.sim) u wr)) (fun _ i _ => F.len - (intOf i).toNat)
 case atStart => exact ⟨0, rfl, Nat.zero_le _, Lib.hid (fun m z hm => by omega), HM⟩
 case round =>
  clear HM
  obtain ⟨j, rfl, hk, HN, HR⟩ := hrel
  by_cases hlt : j < F.len
  ·obtain ⟨z, hz⟩ : ∃ z, F.list[j]? = some z := ⟨_, List.getElem?_eq_getElem (by rw [HFl.out]; exact hlt)⟩
   have HTk := Lib.hid (map_take hz)
   have hll := HFs.out
   have hacc : ((F.list.take j).map Nd.sim).length ≤ 2000000 := by rw [List.length_map, List.length_take]; omega
   obtain ⟨b, o, C, capc, rfl, hbb, hck, ⟨c0, c1, c2, c3, c4, c5, c6, c7⟩, hkz⟩ := (HT.out.below HR.out.2.1).get hz
   have hdl : (j : Int) < (F.len : Int) := by omega
   have hbl := World.block_lt_of_cell? wr _ c0
   have hzs := Trees.size_get F j z hz
   have HOF := Lib.hid (rOf_go z _ C capc wr (by omega) (HFT.out.get (List.mem_of_getElem? hz)) hck (fun b h => Nat.lt_of_lt_of_le h HR.out.2.2) hkz)
   have HZJ := Lib.hid hz
   have HHA := Lib.hid hacc
   clear hz hck hkz hzs hll hacc
   generalize (F.list.take j).map Nd.sim = acc at *
   unfold ndV at HOF
   go_wp2_with fail
   refine HOF.out.mono ?_
   rintro e w2 ⟨hb2, ⟨hr, rfl⟩ | ⟨hr, B2, cp2, rfl, hc2, ht2⟩⟩
   ·have HB2 := Lib.hid (HR.out.2.1.trans (hb2.mono HR.out.2.2))
    have hbA : Below w2.heap.size w2 (w2.alloc (.cells #[.int .i64 0, .int .u64 0, .int .u64 0, .int .u64 0, .int .u64 0, .slice none 0 0, .int .i64 0, .int .i64 0] 28)) := (Below.refl _ _).alloc (Nat.le_refl _) _
    have HB3 := Lib.hid (HB2.out.trans (hbA.mono HB2.out.size))
    have HK := Lib.hid (knows12_go _ (TabAt.below HB3.out hw0 HTB.out) (Nat.lt_of_lt_of_le hw0 HB3.out.size))
    clear hb2 hbA HB2 hr HOF HR HN HTk c0 c1 c2 c3 c4 c5 c6 c7
    dsimp only
    go_wp2_with fail
    refine HK.out.mono ?_
    rintro e w7 ⟨rfl, hb7⟩
    have HB7 := Lib.hid (HB3.out.trans (hb7.mono HB3.out.size))
    clear hb7
    dsimp only
    go_wp2
    go_light
    go_ret
    exact ⟨rfl, HB7.out⟩
   ·have hown := HR.out.own
    have hR2 := HR.out.below hb2
    have hbA : Below w2.heap.size w2 (w2.alloc (.cells (ndA z.sim B2 cp2) 28)) := (Below.refl _ _).alloc (Nat.le_refl _) _
    have hR3 := hR2.below hbA
    have HX3 := Lib.hid (Blk.new w2 28 (ndA z.sim B2 cp2))
    obtain ⟨v5, w5, hrun, hrow5⟩ := hR3.one hc2 ((ht2.below hbA).weak (fun b h _ => ⟨trivial, fun e => by
     have := hown _ e.symm
     have := HR.out.2.2
     omega⟩)) (by have := HHA.out; omega)
    have HR5 := Lib.hid hrow5
    have HN2 := Lib.hid (show ∀ (m : Nat) (y : Nd), m < j + 1 → F.list[m]? = some y → rightT y = true from fun m y hm hy => by
     rcases Nat.lt_or_ge m j with h | h
     ·exact HN.out m y h hy
     ·obtain rfl : m = j := by omega
      rw [HZJ.out] at hy
      cases hy
      exact hr)
    clear hb2 hbA hr ht2 hc2 hown hR2 hR3 hrow5 HOF HR HN c0 c1 c2 c3 c4 c5 c6 c7 HZJ HHA
    unfold ndV
    unfold ndA at hrun HX3
    generalize z.sim = y at *
    dsimp only
    go_upto_region 6 with fail
    generalize (w2.alloc (.cells #[.int .i64 y.kind, .int .u64 (word y.set.testBit 0), .int .u64 (word y.set.testBit 1), .int .u64 (word y.set.testBit 2), .int .u64 (word y.set.testBit 3), .slice B2 y.kids.len cp2, .int .i64 y.lo, .int .i64 y.hi] 28)) = w3 at *
    obtain ⟨x0, x1, x2, x3, x4, x5, x6, x7, xl⟩ := (HX3.out).c8n
    have hll := HFs.out
    go_wp2_with (at_builtin; refine wpList_append_by rfl _ _ 26 26 rfl _ _ _ _ rfl rfl hrun ?_)
    clear hrun
    go_light
    go_roundw
    case rel => exact ⟨j + 1, by go_num, by omega, HN2, Lib.hid (by rw [HTk.out]; exact HR5.out)⟩
    case measure => simp [intOf]; omega
  ·have hdl : ¬ ((j : Int) < (F.len : Int)) := by omega
   obtain rfl : j = F.len := by omega
   obtain ⟨hsg, hsz⟩ := made_good HFT.out HN.out
   have hta : F.list.take F.len = F.list := by rw [← HFl.out]; exact List.take_length
   rw [hta] at HR
   generalize F.list.map Nd.sim = R at *
   obtain ⟨A5, cp5, rfl, hc5, ht5⟩ := HR.out.trees
   have HB5 := Lib.hid HR.out.2.1
   have HN5 := HR.out.2.2
   have hG : (Trees.of R).size = (R.map Nd.size).sum := size_ofS R
   have hlist : (Trees.of R).list = R := Trees.list_of R
   have HT5 := Lib.hid (ht5.keep (Q := fun b => b < wr.heap.size) (fun _ _ _ _ => rfl) (fun b _ h => h))
   have HC1 := scat_go (Trees.of R) A5 cp5 wr (by omega) HT5.out
   rw [Trees.len_of, hlist] at HC1
   have HC1 := Lib.hid HC1
   have HCD := Lib.hid (fun (W : World) (h : Below wr.heap.size wr W) => by
    have := rcat12_go (Trees.of R) A5 cp5 W (by omega) (by rw [hlist]; exact hsg) (fun b h1 => Nat.lt_of_lt_of_le h1 h.size) (HT5.out.below h)
    rw [Trees.len_of, hlist, catQ_eq hsg] at this
    exact this)
   have HAP := Lib.hid (fun (W : World) (h : Below wr.heap.size wr W) => by
    have := salt_go (Trees.of R) A5 cp5 W (by omega) (by rw [hlist]; exact hsg) ((HT5.out.below h).weak (fun b h1 _ => Nat.lt_of_lt_of_le h1 h.size))
    rw [Trees.len_of, hlist] at this
    exact this)
   have HAD := Lib.hid (fun (W : World) (h : Below wr.heap.size wr W) => by
    have := ralt12_go (Trees.of R) A5 cp5 W (by omega) (by rw [hlist]; exact hsg) (fun b h1 => Nat.lt_of_lt_of_le h1 h.size) (HT5.out.below h)
    rw [Trees.len_of, hlist, altQ_eq hsg] at this
    exact this)
   have HS1 := Lib.hid (show (catP R).size ≤ 2000000 by have := catP_size R; omega)
   have HS2 := Lib.hid (show (altP R).size ≤ 2000000 by have := altP_size R; omega)
   clear HR ht5 hc5 HN hG hlist hsg hsz hta HT HT5
   generalize catP R = x at *
   generalize altP R = y at *
   generalize R.length = len at *
   go_wp2_with fail
   refine HC1.out.mono ?_
   rintro e w6 ⟨B6, c6, rfl, hb6, _, ht6⟩
   have HD6 := Lib.hid (HCD.out w6 hb6)
   have HB6 := Lib.hid hb6
   have HT6 := Lib.hid ht6
   clear HC1 HCD hb6 ht6
   dsimp only
   go_wp2_with fail
   refine HD6.out.mono ?_
   rintro e w7 ⟨B7, c7, rfl, hb7, _, ht7⟩
   have HE7 := Lib.hid (nsame_go x _ _ B6 B7 c6 c7 w7 (by have := HS1.out; omega) (HT6.out.below hb7) ht7)
   have HB7 := Lib.hid (HB6.out.trans (hb7.mono HB6.out.size))
   clear hb7 ht7 HD6 HB6 HT6
   unfold ndV at HE7 ⊢
   dsimp only
   go_wp2_with fail
   refine HE7.out.mono ?_
   rintro e w8 ⟨rfl, hb8⟩
   have HB8 := Lib.hid (HB7.out.trans (hb8.mono HB7.out.size))
   have HC8 := Lib.hid (HAP.out w8 HB8.out)
   clear HE7 HB7 hb8 HAP
   dsimp only
   go_wp2_with fail
   refine HC8.out.mono ?_
   rintro e w9 ⟨B9, c9, rfl, hb9, _, ht9⟩
   have HB9 := Lib.hid (HB8.out.trans (hb9.mono HB8.out.size))
   have HD9 := Lib.hid (HAD.out w9 HB9.out)
   have HT9 := Lib.hid ht9
   clear HC8 HAD hb9 ht9 HB8
   dsimp only
   go_wp2_with fail
   refine HD9.out.mono ?_
   rintro e v1 ⟨C1, d1, rfl, hb1, _, ht1⟩
   have HE1 := Lib.hid (nsame_go y _ _ B9 C1 c9 d1 v1 (by have := HS2.out; omega) (HT9.out.below hb1) ht1)
   have HB1 := Lib.hid (HB9.out.trans (hb1.mono HB9.out.size))
   clear hb1 ht1 HD9 HB9 HT9
   unfold ndV at HE1 ⊢
   dsimp only
   go_wp2_with fail
   refine HE1.out.mono ?_
   rintro e v2 ⟨rfl, hb2⟩
   have HB2 := Lib.hid (HB5.out.trans ((HB1.out.trans (hb2.mono HB1.out.size)).mono HN5))
   have HK := Lib.hid (knows12_go v2 (TabAt.below HB2.out hw0 HTB.out) (Nat.lt_of_lt_of_le hw0 HB2.out.size))
   clear HE1 HB1 hb2
   dsimp only
   go_wp2_with fail
   refine HK.out.mono ?_
   rintro e v3 ⟨rfl, hb3⟩
   have HB3 := Lib.hid (HB2.out.trans (hb3.mono HB2.out.size))
   clear hb3
   dsimp only
   go_wp2
   go_light
   go_ret
   exact ⟨rfl, HB3.out⟩
theorem simpleMakes_law (F : Trees) (B : Option Addr) (cap : Nat) (w : World) (hlen : F.size ≤ 1048576) (ht : TreesAt w (fun b => b < w.heap.size) F B) (hT : TabAt 0 Lib.deBruijn64tab w) (hw0 : 0 < w.heap.size) :
  Calls Tryz.prog 6 #[.slice B F.len cap] w fun e w' => e = .returned (.bool true) ∧ Below w.heap.size w w' := by
 rw [← F.len_cut]
 exact simpleMakes_go F.cut B cap w (by rw [F.size_cut]; exact hlen) F.fit_cut ht.cut hT hw0
end Go.Proofs.YtofbfafnpdaejaaGreatDoor
