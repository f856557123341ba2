/- Texts of the claim. -/
import Derived.Test.YtofbfafnpdaejaaGreatDoorJSimU
import Derived.Test.YtofbfafnpdaejaaGreatDoorJSimM
import Derived.Test.YtofbfafnpdaejaaGreatDoorJSimF
set_option linter.all false
set_option maxRecDepth 100000
set_option maxHeartbeats 8000000
namespace Go.Proofs.YtofbfafnpdaejaaGreatDoor
open Go.RowKit
def OfD (n : Nat) : Prop := ∀ (x : Nd) (P : Nat → Prop) (B : Option Addr) (cap : Nat) (w : World), x.size ≤ n → x.size ≤ 1000000 → (∀ y ∈ x.nodes, OkN y) → x.kids.len ≤ cap → (∀ b, P b → b < w.heap.size) → TreesAt w P x.kids B →
 Calls Tryz.prog 74 #[ndV x B cap] w (OldT P x.sim w)
theorem sims_take {F : Trees} {k : Nat} {z : Nd} (h : F.list[k]? = some z) : F.sims.take (k + 1) = F.sims.take k ++ [z.sim] := by
 rw [F.sims_list, List.take_add_one, List.getElem?_map, h]
 simp
theorem kid_ih {n : Nat} (ih : OfD n) {x : Nd} (hn : x.size ≤ n + 1) (hs : x.size ≤ 1000000) (ho : ∀ y ∈ x.nodes, OkN y) : ∀ (k : Nat) (z : Nd), x.kids.list[k]? = some z → ∀ (P : Nat → Prop) (C : Option Addr) (capc : Nat) (W : World), z.kids.len ≤ capc → (∀ b, P b → b < W.heap.size) → TreesAt W P z.kids C →
  Calls Tryz.prog 74 #[ndV z C capc] W (OldT P z.sim W) := fun k z hz P C capc W hc hP ht => by
 have := Trees.size_get x.kids k z hz
 unfold Nd.size at hn hs
 exact ih z P C capc W (by unfold Nd.size at this ⊢; omega) (by unfold Nd.size at this ⊢; omega) (fun y hy => ho y (List.mem_cons_of_mem _ ((nodes_list _ _).2 ⟨z, List.mem_of_getElem? hz, hy⟩))) hc hP ht
theorem rof_step {n : Nat} (ih : OfD n) : OfD (n + 1) := by
 intro x P B cap w hn hs ho hc hP ht
 have HK := Lib.hid (kid_ih ih hn hs ho)
 have HKT := Lib.hid (show ∀ (k : Nat) (z : Nd), x.kids.list[k]? = some z → x.kids.sims.take (k + 1) = x.kids.sims.take k ++ [z.sim] from fun k z h => sims_take h)
 have HKL := Lib.hid (Trees.len_list x.kids)
 have HO := Lib.hid (ho x List.mem_cons_self)
 have HSS := Lib.hid (sim_sg ho).1
 have HSL := Lib.hid (sims_len x.kids)
 have HSG := Lib.hid (sims_all x.kids (fun y hy => ho y (List.mem_cons_of_mem _ hy))).1
 have hsz := sims_size x.kids (fun y hy => ho y (List.mem_cons_of_mem _ hy))
 have hkz : x.kids.size ≤ 1000000 := by unfold Nd.size at hs; omega
 have hkl : x.kids.len ≤ 1000000 := Nat.le_trans (Trees.len_size x.kids) hkz
 have HSZ := Lib.hid (show (x.kids.sims.map Nd.size).sum ≤ 1000000 by omega)
 obtain ⟨hb2, HB2, HX2, HZ2, HW2⟩ := two_hid w x B cap
 have HB12 := Lib.hid (two_made w x B cap).2.2.2.2.2
 have HT2 := Lib.hid (ht.below hb2)
 have HW2 := Lib.hid (two_made w x B cap).2.2.2.2.1
 have HV := Lib.hid (show x.sim = simK x.kind x.set x.kids x.lo x.hi x.kids.sims from rfl)
 have HM := Lib.hid (orow_made (fun b => P b ∨ w.heap.size + 2 ≤ b) (W2n w x B cap))
 clear ht hb2 HB2 ih hn ho hsz hkz
 generalize x.kids.sims = L at *
 unfold ndV
 unfold ndA at HX2 HB12
 obtain ⟨x0, x1, x2, x3, x4, x5, x6, x7, hl2⟩ := (HX2.out).c8n
 go_enter Tryz.func74, Tryz.ntmps74
 go_upto_region 1 with fail
 rw [← W2n_lit w x B cap]
 generalize W2n w x B cap = w2 at *
 clear x0 x1 x2 x3 x4 x5 x6 x7 hl2
 go_wp2
 go_loopw [3, 4] (fun u i wr => ∃ j : Nat, i = .int .i64 (j : Int) ∧ j ≤ x.kids.len ∧ Hid (QRow (fun b => P b ∨ w.heap.size + 2 ≤ b) w2.heap.size w2 (L.take j) u wr)) (fun _ i _ => x.kids.len - (intOf i).toNat)
 case atStart => exact ⟨0, rfl, Nat.zero_le _, HM⟩
 case round =>
  clear HM
  obtain ⟨j, rfl, hk, HR⟩ := hrel
  have hbr := HR.out.2.1
  have hwr := HR.out.2.2
  have hw2a : w.heap.size + 2 ≤ w2.heap.size := Nat.le_of_eq HW2.out.symm
  have hw2b : w2.heap.size ≤ w.heap.size + 2 := Nat.le_of_eq HW2.out
  have hwr := Nat.le_trans hw2a hwr
  have HXr := Lib.hid (HX2.out.below hbr HX2.out.lt)
  by_cases hlt : j < x.kids.len
  ·obtain ⟨z, hz⟩ : ∃ z, x.kids.list[j]? = some z := ⟨_, List.getElem?_eq_getElem (by rw [HKL.out]; exact hlt)⟩
   have HTk := Lib.hid (HKT.out j z hz)
   obtain ⟨b, o, C, capc, hBe, hbb, hck, ⟨c0, c1, c2, c3, c4, c5, c6, c7⟩, hkz⟩ := (HT2.out.below hbr).get hz
   have hbl := World.block_lt_of_cell? wr _ c0
   have hdl : (j : Int) < (x.kids.len : Int) := by omega
   have HI := Lib.hid (HK.out j z hz P C capc wr hck (fun b h => Nat.lt_of_lt_of_le (hP b h) (by omega)) hkz)
   subst hBe
   obtain ⟨x0, x1, x2, x3, x4, x5, x6, x7, hl2⟩ := (HXr.out).c8n
   unfold ndV at HI
   clear hz hkz hbb
   go_wp2_with fail
   refine HI.out.mono ?_
   rintro e w4 ⟨B4, c4', rfl, hb4, hc4, ht4⟩
   have hown := HR.out.own
   have hle : (L.take j).length ≤ j := by rw [List.length_take]; omega
   generalize hac : L.take j = acc at *
   generalize hsy : z.sim = y at *
   obtain ⟨v5, w5, hrun, hrow5⟩ := (HR.out.below hb4).one (x := y) (C := B4) (capc := c4') hc4 (ht4.weak (fun b h _ => by
    rcases h with h | h
    ·exact ⟨.inl h, fun e => by have := (hown _ e.symm).1; have := hP b h; omega⟩
    ·exact ⟨.inr (by omega), fun e => by have := (hown _ e.symm).2; omega⟩)) (by omega)
   have HR5 := Lib.hid hrow5
   unfold ndA at hrun
   clear HI hb4 hc4 ht4 hown hrow5 HR hac hsy c0 c1 c2 c3 c4 c5 c6 c7 hck x0 x1 x2 x3 x4 x5 x6 x7 hl2
   unfold ndV
   dsimp only
   go_wp2_with (at_builtin; refine wpList_append_by rfl _ _ 26 26 rfl _ _ _ _ rfl rfl hrun ?_)
   clear hrun
   go_light
   go_roundw
   case rel => exact ⟨j + 1, by go_num, by omega, Lib.hid (by rw [HTk.out]; exact HR5.out)⟩
   case measure => simp [intOf]; omega
  ·have hdl : ¬ ((j : Int) < (x.kids.len : Int)) := by omega
   obtain rfl : j = x.kids.len := by omega
   have htk : L.take x.kids.len = L := by rw [← HSL.out]; exact List.take_length
   rw [htk] at HR
   obtain ⟨A3, c3, rfl, hc3, ht3⟩ := HR.out.trees
   have HTr := Lib.hid (ht3.keep (Q := fun b => (P b ∨ w.heap.size + 2 ≤ b) ∧ b < wr.heap.size) (fun _ _ _ _ => rfl) (fun b h hl => ⟨h.elim id (fun h => .inr (by omega)), hl⟩))
   have HZr := Lib.hid (HZ2.out.below hbr HZ2.out.lt)
   have HBr := Lib.hid (HB12.out.trans (hbr.mono (by omega)))
   rw [← HSL.out] at hkl
   obtain ⟨x0, x1, x2, x3, x4, x5, x6, x7, hl2⟩ := (HXr.out).c8n
   clear HR ht3 htk hbr hw2a hw2b HZ2 HX2 HB12 HT2 HK HKT HW2
   by_cases hk : x.kind = 1 ∨ x.kind = 2
   ·have hV := HV.out
    clear HV
    unfold simK at hV
    have HV := Lib.hid (show x.sim = x by rw [hV]; rw [if_neg (by omega)]; rw [if_neg (by omega)]; rw [if_neg (by omega)]; rw [if_neg (by omega)]; rw [if_neg (by omega)]; rw [if_neg (by omega)]; rw [if_neg (by omega)])
    clear hV
    have HNil := Lib.hid (show x.kids = .nil from list_nil (by have := HO.out.2; omega))
    have e3 : (x.kind == 3) = false := kind_no (by omega)
    have e4 : (x.kind == 4) = false := kind_no (by omega)
    have e5 : (x.kind == 5) = false := kind_no (by omega)
    have e6 : (x.kind == 6) = false := kind_no (by omega)
    have e7 : (x.kind == 7) = false := kind_no (by omega)
    have e8 : (x.kind == 8) = false := kind_no (by omega)
    have e9 : (x.kind == 9) = false := kind_no (by omega)
    clear hk HO
    obtain ⟨y0, y1, y2, y3, y4, y5, y6, y7, g0, g1, g2, g3, g4, g5, g6, g7⟩ := HZr.out.z16
    go_wp2
    go_light
    have hF := old_put1 (x := x) (B := B) (cap := cap) (by rw [← HV.out]; exact HSS.out) HZr.out HBr.out hP (P2 := fun b => P b ∨ w.heap.size + 1 ≤ b) (fun b h => h) (by rw [HNil.out]; trivial) rfl
    refine bodyPost_ret (ret_node Tryz.results74 rfl hF.1) rfl ?_
    rw [HV.out]
    exact ⟨B, cap, rfl, hF.2.1, hc, hF.2.2⟩
   by_cases hk : x.kind = 3
   ·have hV := HV.out
    clear HV
    unfold simK at hV
    have HV := Lib.hid (show x.sim = if isNoSet x.set = true then noneN else x by rw [hV]; rw [if_pos hk])
    clear hV
    have e3 := kind_yes hk
    have HNil := Lib.hid (show x.kids = .nil from list_nil (by have := HO.out.2; omega))
    clear hk HO
    by_cases hset : isNoSet x.set = true
    ·have HWs := Lib.hid (noset_words hset)
     rw [if_pos hset] at HV
     obtain ⟨n0, n1, n2, n3⟩ := HWs.out
     rw [n0] at x1
     rw [n1] at x2
     rw [n2] at x3
     rw [n3] at x4
     clear hset n0 n1 n2 n3
     obtain ⟨y0, y1, y2, y3, y4, y5, y6, y7, g0, g1, g2, g3, g4, g5, g6, g7⟩ := HZr.out.z16
     go_wp2
     go_light
     have hF := old_put1 (x := noneN) (B := none) (cap := 0) sg_none HZr.out HBr.out hP (P2 := fun b => P b ∨ w.heap.size + 1 ≤ b) (fun b h => h) trivial (by simp only [noneN, word_zero]; rfl)
     refine bodyPost_ret (ret_node Tryz.results74 rfl hF.1) rfl ?_
     rw [HV.out]
     exact ⟨none, 0, rfl, hF.2.1, Nat.le_refl _, hF.2.2⟩
    ·rw [if_neg hset] at HV
     cases h0 : (((word x.set.testBit 0 : Nat) : Int) == 0) with
     | false =>
      clear hset
      obtain ⟨y0, y1, y2, y3, y4, y5, y6, y7, g0, g1, g2, g3, g4, g5, g6, g7⟩ := HZr.out.z16
      go_wp2
      go_light
      have hF := old_put1 (x := x) (B := B) (cap := cap) (by rw [← HV.out]; exact HSS.out) HZr.out HBr.out hP (P2 := fun b => P b ∨ w.heap.size + 1 ≤ b) (fun b h => h) (by rw [HNil.out]; trivial) rfl
      refine bodyPost_ret (ret_node Tryz.results74 rfl hF.1) rfl ?_
      rw [HV.out]
      exact ⟨B, cap, rfl, hF.2.1, hc, hF.2.2⟩
     | true =>
     cases h1 : (((word x.set.testBit 1 : Nat) : Int) == 0) with
     | false =>
      clear hset
      obtain ⟨y0, y1, y2, y3, y4, y5, y6, y7, g0, g1, g2, g3, g4, g5, g6, g7⟩ := HZr.out.z16
      go_wp2
      go_light
      have hF := old_put1 (x := x) (B := B) (cap := cap) (by rw [← HV.out]; exact HSS.out) HZr.out HBr.out hP (P2 := fun b => P b ∨ w.heap.size + 1 ≤ b) (fun b h => h) (by rw [HNil.out]; trivial) rfl
      refine bodyPost_ret (ret_node Tryz.results74 rfl hF.1) rfl ?_
      rw [HV.out]
      exact ⟨B, cap, rfl, hF.2.1, hc, hF.2.2⟩
     | true =>
     cases h2 : (((word x.set.testBit 2 : Nat) : Int) == 0) with
     | false =>
      clear hset
      obtain ⟨y0, y1, y2, y3, y4, y5, y6, y7, g0, g1, g2, g3, g4, g5, g6, g7⟩ := HZr.out.z16
      go_wp2
      go_light
      have hF := old_put1 (x := x) (B := B) (cap := cap) (by rw [← HV.out]; exact HSS.out) HZr.out HBr.out hP (P2 := fun b => P b ∨ w.heap.size + 1 ≤ b) (fun b h => h) (by rw [HNil.out]; trivial) rfl
      refine bodyPost_ret (ret_node Tryz.results74 rfl hF.1) rfl ?_
      rw [HV.out]
      exact ⟨B, cap, rfl, hF.2.1, hc, hF.2.2⟩
     | true =>
     cases h3 : (((word x.set.testBit 3 : Nat) : Int) == 0) with
     | false =>
      clear hset
      obtain ⟨y0, y1, y2, y3, y4, y5, y6, y7, g0, g1, g2, g3, g4, g5, g6, g7⟩ := HZr.out.z16
      go_wp2
      go_light
      have hF := old_put1 (x := x) (B := B) (cap := cap) (by rw [← HV.out]; exact HSS.out) HZr.out HBr.out hP (P2 := fun b => P b ∨ w.heap.size + 1 ≤ b) (fun b h => h) (by rw [HNil.out]; trivial) rfl
      refine bodyPost_ret (ret_node Tryz.results74 rfl hF.1) rfl ?_
      rw [HV.out]
      exact ⟨B, cap, rfl, hF.2.1, hc, hF.2.2⟩
     | true =>
      refine absurd ?_ hset
      rw [beq_iff_eq] at h0 h1 h2 h3
      unfold isNoSet
      rw [show word x.set.testBit 0 = 0 by omega, show word x.set.testBit 1 = 0 by omega, show word x.set.testBit 2 = 0 by omega, show word x.set.testBit 3 = 0 by omega]
      rfl
   by_cases hk : x.kind = 4
   ·have hV := HV.out
    clear HV
    unfold simK at hV
    have HV := Lib.hid (show x.sim = catQ L by rw [hV]; rw [if_neg (by omega)]; rw [if_pos (by omega)]; rw [catQ_eq HSG.out])
    clear hV
    have e3 : (x.kind == 3) = false := kind_no (by omega)
    have e4 : (x.kind == 4) = true := kind_yes hk
    clear hk HO
    have hi := rcat12_go (Trees.of L) A3 c3 wr (by rw [size_ofS]; have := HSZ.out; omega) (by rw [Trees.list_of]; exact HSG.out) (fun b h => h.2) HTr.out
    rw [Trees.len_of, Trees.list_of] at hi
    have HI := Lib.hid hi
    clear hi
    go_wp2_with fail
    refine HI.out.mono ?_
    rintro e w9 ⟨B9, c9, rfl, hb9, hc9, ht9⟩
    have hZ9 := HZr.out.below hb9 HZr.out.lt
    have HB9 := Lib.hid (HBr.out.trans (hb9.mono (by omega)))
    have HZ9 := Lib.hid hZ9
    have HT9 := Lib.hid (ht9.weak (Q := fun b => P b ∨ w.heap.size + 1 ≤ b) (fun b h _ => by
     rcases h with h | h
     ·exact h.1.imp id (fun h => by omega)
     ·exact .inr (by omega)))
    obtain ⟨y0, y1, y2, y3, y4, y5, y6, y7, g0, g1, g2, g3, g4, g5, g6, g7⟩ := hZ9.z16
    clear hZ9 ht9 hb9 HI HZr HBr HXr x0 x1 x2 x3 x4 x5 x6 x7 hl2 HTr HSG HSZ
    generalize hy : catQ L = y at *
    have HY := Lib.hid hy
    clear hy
    unfold ndV
    dsimp only
    go_wp2
    go_light
    have hF := old_put1 (x := y) (B := B9) (cap := c9) (by rw [← HV.out]; exact HSS.out) HZ9.out HB9.out hP (fun b h => h) HT9.out rfl
    refine bodyPost_ret (ret_node Tryz.results74 rfl hF.1) rfl ?_
    rw [HV.out]
    exact ⟨B9, c9, rfl, hF.2.1, hc9, hF.2.2⟩
   by_cases hk : x.kind = 5
   ·have hV := HV.out
    clear HV
    unfold simK at hV
    have HV := Lib.hid (show x.sim = altQ L by rw [hV]; rw [if_neg (by omega)]; rw [if_neg (by omega)]; rw [if_pos (by omega)]; rw [altQ_eq HSG.out])
    clear hV
    have e3 : (x.kind == 3) = false := kind_no (by omega)
    have e4 : (x.kind == 4) = false := kind_no (by omega)
    have e5 : (x.kind == 5) = true := kind_yes hk
    clear hk HO
    have hi := ralt12_go (Trees.of L) A3 c3 wr (by rw [size_ofS]; have := HSZ.out; omega) (by rw [Trees.list_of]; exact HSG.out) (fun b h => h.2) HTr.out
    rw [Trees.len_of, Trees.list_of] at hi
    have HI := Lib.hid hi
    clear hi
    go_wp2_with fail
    refine HI.out.mono ?_
    rintro e w9 ⟨B9, c9, rfl, hb9, hc9, ht9⟩
    have hZ9 := HZr.out.below hb9 HZr.out.lt
    have HB9 := Lib.hid (HBr.out.trans (hb9.mono (by omega)))
    have HZ9 := Lib.hid hZ9
    have HT9 := Lib.hid (ht9.weak (Q := fun b => P b ∨ w.heap.size + 1 ≤ b) (fun b h _ => by
     rcases h with h | h
     ·exact h.1.imp id (fun h => by omega)
     ·exact .inr (by omega)))
    obtain ⟨y0, y1, y2, y3, y4, y5, y6, y7, g0, g1, g2, g3, g4, g5, g6, g7⟩ := hZ9.z16
    clear hZ9 ht9 hb9 HI HZr HBr HXr x0 x1 x2 x3 x4 x5 x6 x7 hl2 HTr HSG HSZ
    generalize hy : altQ L = y at *
    have HY := Lib.hid hy
    clear hy
    unfold ndV
    dsimp only
    go_wp2
    go_light
    have hF := old_put1 (x := y) (B := B9) (cap := c9) (by rw [← HV.out]; exact HSS.out) HZ9.out HB9.out hP (fun b h => h) HT9.out rfl
    refine bodyPost_ret (ret_node Tryz.results74 rfl hF.1) rfl ?_
    rw [HV.out]
    exact ⟨B9, c9, rfl, hF.2.1, hc9, hF.2.2⟩
   by_cases hk : x.kind = 6
   ·have hV := HV.out
    clear HV
    unfold simK at hV
    have HV := Lib.hid (show x.sim = starP (L.headD noneN) by rw [hV]; rw [if_neg (by omega)]; rw [if_neg (by omega)]; rw [if_neg (by omega)]; rw [if_pos (by omega)])
    clear hV
    have HONE := Lib.hid (show x.kids.len = 1 by have := HO.out.2; omega)
    have e3 : (x.kind == 3) = false := kind_no (by omega)
    have e4 : (x.kind == 4) = false := kind_no (by omega)
    have e5 : (x.kind == 5) = false := kind_no (by omega)
    have e6 : (x.kind == 6) = true := kind_yes hk
    clear hk HO
    obtain ⟨z, hz⟩ : ∃ z, L = [z] := List.length_eq_one_iff.1 (by rw [HSL.out]; exact HONE.out)
    have hg : (Trees.of L).list[0]? = some z := by rw [Trees.list_of, hz]; rfl
    obtain ⟨b, o, C, capc, hBe, _, hck, ⟨c0, c1, c2, c3', c4, c5', c6, c7⟩, hkz3⟩ := HTr.out.get hg
    simp only [Nat.zero_mul, Nat.add_zero] at c0 c1 c2 c3' c4 c5' c6 c7
    have hbl := World.block_lt_of_cell? _ _ c0
    have hzs : z.size ≤ 2000000 := by have := mem_size (show z ∈ L by rw [hz]; simp); have := HSZ.out; omega
    have hzg : SG z := HSG.out z (by rw [hz]; simp)
    have hd0 : (0 : Int) < (L.length : Int) := by rw [hz]; simp
    have hdn : 0 < L.length := by rw [hz]; simp
    have hhd : L.headD noneN = z := by rw [hz]; rfl
    rw [hhd] at HV
    subst hBe
    clear hz hg hhd
    have HI := Lib.hid (rstar12_go z C capc wr hzs hzg hck (fun b h => h.2) hkz3)
    rw [starQ_eq hzg] at HI
    unfold ndV at HI
    clear hkz3 hzg
    go_wp2_with fail
    refine HI.out.mono ?_
    rintro e w9 ⟨B9, c9, rfl, hb9, hc9, ht9⟩
    have hZ9 := HZr.out.below hb9 HZr.out.lt
    have HB9 := Lib.hid (HBr.out.trans (hb9.mono (by omega)))
    have HZ9 := Lib.hid hZ9
    have HT9 := Lib.hid (ht9.weak (Q := fun b => P b ∨ w.heap.size + 1 ≤ b) (fun b h _ => by
     rcases h with h | h
     ·exact h.1.imp id (fun h => by omega)
     ·exact .inr (by omega)))
    obtain ⟨y0, y1, y2, y3, y4, y5, y6, y7, g0, g1, g2, g3, g4, g5, g6, g7⟩ := hZ9.z16
    clear hZ9 ht9 hb9 HI HZr HBr HXr x0 x1 x2 x3 x4 x5 x6 x7 hl2 HTr HSG HSZ
    generalize hy : starP z = y at *
    have HY := Lib.hid hy
    clear hy
    unfold ndV
    dsimp only
    go_wp2
    go_light
    have hF := old_put1 (x := y) (B := B9) (cap := c9) (by rw [← HV.out]; exact HSS.out) HZ9.out HB9.out hP (fun b h => h) HT9.out rfl
    refine bodyPost_ret (ret_node Tryz.results74 rfl hF.1) rfl ?_
    rw [HV.out]
    exact ⟨B9, c9, rfl, hF.2.1, hc9, hF.2.2⟩
   by_cases hk : x.kind = 7
   ·have hV := HV.out
    clear HV
    unfold simK at hV
    have HV := Lib.hid (show x.sim = plusP (L.headD noneN) by rw [hV]; rw [if_neg (by omega)]; rw [if_neg (by omega)]; rw [if_neg (by omega)]; rw [if_neg (by omega)]; rw [if_pos (by omega)])
    clear hV
    have HONE := Lib.hid (show x.kids.len = 1 by have := HO.out.2; omega)
    have e3 : (x.kind == 3) = false := kind_no (by omega)
    have e4 : (x.kind == 4) = false := kind_no (by omega)
    have e5 : (x.kind == 5) = false := kind_no (by omega)
    have e6 : (x.kind == 6) = false := kind_no (by omega)
    have e7 : (x.kind == 7) = true := kind_yes hk
    clear hk HO
    obtain ⟨z, hz⟩ : ∃ z, L = [z] := List.length_eq_one_iff.1 (by rw [HSL.out]; exact HONE.out)
    have hg : (Trees.of L).list[0]? = some z := by rw [Trees.list_of, hz]; rfl
    obtain ⟨b, o, C, capc, hBe, _, hck, ⟨c0, c1, c2, c3', c4, c5', c6, c7⟩, hkz3⟩ := HTr.out.get hg
    simp only [Nat.zero_mul, Nat.add_zero] at c0 c1 c2 c3' c4 c5' c6 c7
    have hbl := World.block_lt_of_cell? _ _ c0
    have hzs : z.size ≤ 2000000 := by have := mem_size (show z ∈ L by rw [hz]; simp); have := HSZ.out; omega
    have hzg : SG z := HSG.out z (by rw [hz]; simp)
    have hd0 : (0 : Int) < (L.length : Int) := by rw [hz]; simp
    have hdn : 0 < L.length := by rw [hz]; simp
    have hhd : L.headD noneN = z := by rw [hz]; rfl
    rw [hhd] at HV
    subst hBe
    clear hz hg hhd
    have HI := Lib.hid (rplus12_go z C capc wr hzs hzg hck (fun b h => h.2) hkz3)
    rw [plusQ_eq hzg] at HI
    unfold ndV at HI
    clear hkz3 hzg
    go_wp2_with fail
    refine HI.out.mono ?_
    rintro e w9 ⟨B9, c9, rfl, hb9, hc9, ht9⟩
    have hZ9 := HZr.out.below hb9 HZr.out.lt
    have HB9 := Lib.hid (HBr.out.trans (hb9.mono (by omega)))
    have HZ9 := Lib.hid hZ9
    have HT9 := Lib.hid (ht9.weak (Q := fun b => P b ∨ w.heap.size + 1 ≤ b) (fun b h _ => by
     rcases h with h | h
     ·exact h.1.imp id (fun h => by omega)
     ·exact .inr (by omega)))
    obtain ⟨y0, y1, y2, y3, y4, y5, y6, y7, g0, g1, g2, g3, g4, g5, g6, g7⟩ := hZ9.z16
    clear hZ9 ht9 hb9 HI HZr HBr HXr x0 x1 x2 x3 x4 x5 x6 x7 hl2 HTr HSG HSZ
    generalize hy : plusP z = y at *
    have HY := Lib.hid hy
    clear hy
    unfold ndV
    dsimp only
    go_wp2
    go_light
    have hF := old_put1 (x := y) (B := B9) (cap := c9) (by rw [← HV.out]; exact HSS.out) HZ9.out HB9.out hP (fun b h => h) HT9.out rfl
    refine bodyPost_ret (ret_node Tryz.results74 rfl hF.1) rfl ?_
    rw [HV.out]
    exact ⟨B9, c9, rfl, hF.2.1, hc9, hF.2.2⟩
   by_cases hk : x.kind = 8
   ·have hV := HV.out
    clear HV
    unfold simK at hV
    have HV := Lib.hid (show x.sim = optP (L.headD noneN) by rw [hV]; rw [if_neg (by omega)]; rw [if_neg (by omega)]; rw [if_neg (by omega)]; rw [if_neg (by omega)]; rw [if_neg (by omega)]; rw [if_pos (by omega)])
    clear hV
    have HONE := Lib.hid (show x.kids.len = 1 by have := HO.out.2; omega)
    have e3 : (x.kind == 3) = false := kind_no (by omega)
    have e4 : (x.kind == 4) = false := kind_no (by omega)
    have e5 : (x.kind == 5) = false := kind_no (by omega)
    have e6 : (x.kind == 6) = false := kind_no (by omega)
    have e7 : (x.kind == 7) = false := kind_no (by omega)
    have e8 : (x.kind == 8) = true := kind_yes hk
    clear hk HO
    obtain ⟨z, hz⟩ : ∃ z, L = [z] := List.length_eq_one_iff.1 (by rw [HSL.out]; exact HONE.out)
    have hg : (Trees.of L).list[0]? = some z := by rw [Trees.list_of, hz]; rfl
    obtain ⟨b, o, C, capc, hBe, _, hck, ⟨c0, c1, c2, c3', c4, c5', c6, c7⟩, hkz3⟩ := HTr.out.get hg
    simp only [Nat.zero_mul, Nat.add_zero] at c0 c1 c2 c3' c4 c5' c6 c7
    have hbl := World.block_lt_of_cell? _ _ c0
    have hzs : z.size ≤ 2000000 := by have := mem_size (show z ∈ L by rw [hz]; simp); have := HSZ.out; omega
    have hzg : SG z := HSG.out z (by rw [hz]; simp)
    have hd0 : (0 : Int) < (L.length : Int) := by rw [hz]; simp
    have hdn : 0 < L.length := by rw [hz]; simp
    have hhd : L.headD noneN = z := by rw [hz]; rfl
    rw [hhd] at HV
    subst hBe
    clear hz hg hhd
    have HI := Lib.hid (ropt12_go z C capc wr hzs hzg hck (fun b h => h.2) hkz3)
    rw [optQ_eq hzg] at HI
    unfold ndV at HI
    clear hkz3 hzg
    go_wp2_with fail
    refine HI.out.mono ?_
    rintro e w9 ⟨B9, c9, rfl, hb9, hc9, ht9⟩
    have hZ9 := HZr.out.below hb9 HZr.out.lt
    have HB9 := Lib.hid (HBr.out.trans (hb9.mono (by omega)))
    have HZ9 := Lib.hid hZ9
    have HT9 := Lib.hid (ht9.weak (Q := fun b => P b ∨ w.heap.size + 1 ≤ b) (fun b h _ => by
     rcases h with h | h
     ·exact h.1.imp id (fun h => by omega)
     ·exact .inr (by omega)))
    obtain ⟨y0, y1, y2, y3, y4, y5, y6, y7, g0, g1, g2, g3, g4, g5, g6, g7⟩ := hZ9.z16
    clear hZ9 ht9 hb9 HI HZr HBr HXr x0 x1 x2 x3 x4 x5 x6 x7 hl2 HTr HSG HSZ
    generalize hy : optP z = y at *
    have HY := Lib.hid hy
    clear hy
    unfold ndV
    dsimp only
    go_wp2
    go_light
    have hF := old_put1 (x := y) (B := B9) (cap := c9) (by rw [← HV.out]; exact HSS.out) HZ9.out HB9.out hP (fun b h => h) HT9.out rfl
    refine bodyPost_ret (ret_node Tryz.results74 rfl hF.1) rfl ?_
    rw [HV.out]
    exact ⟨B9, c9, rfl, hF.2.1, hc9, hF.2.2⟩
   have hk9 : x.kind = 9 := by have := HO.out.2; omega
   have hV := HV.out
   clear HV
   unfold simK at hV
   have HV := Lib.hid (show x.sim = repP (L.headD noneN) x.lo x.hi by rw [hV]; rw [if_neg (by omega)]; rw [if_neg (by omega)]; rw [if_neg (by omega)]; rw [if_neg (by omega)]; rw [if_neg (by omega)]; rw [if_neg (by omega)]; rw [if_pos (by omega)])
   clear hV
   have HONE := Lib.hid (show x.kids.len = 1 by have := HO.out.2; omega)
   have HTO := Lib.hid (show TimesOk x.lo x.hi by have := HO.out.2; unfold TimesOk; omega)
   have e3 : (x.kind == 3) = false := kind_no (by omega)
   have e4 : (x.kind == 4) = false := kind_no (by omega)
   have e5 : (x.kind == 5) = false := kind_no (by omega)
   have e6 : (x.kind == 6) = false := kind_no (by omega)
   have e7 : (x.kind == 7) = false := kind_no (by omega)
   have e8 : (x.kind == 8) = false := kind_no (by omega)
   have e9 : (x.kind == 9) = true := kind_yes hk9
   clear HO
   obtain ⟨z, hz⟩ : ∃ z, L = [z] := List.length_eq_one_iff.1 (by rw [HSL.out]; exact HONE.out)
   have hg : (Trees.of L).list[0]? = some z := by rw [Trees.list_of, hz]; rfl
   obtain ⟨b, o, C, capc, hBe, _, hck, ⟨c0, c1, c2, c3', c4, c5', c6, c7⟩, hkz3⟩ := HTr.out.get hg
   simp only [Nat.zero_mul, Nat.add_zero] at c0 c1 c2 c3' c4 c5' c6 c7
   have hbl := World.block_lt_of_cell? _ _ c0
   have hzs : z.size ≤ 2000000 := by have := mem_size (show z ∈ L by rw [hz]; simp); have := HSZ.out; omega
   have hzg : SG z := HSG.out z (by rw [hz]; simp)
   have hd0 : (0 : Int) < (L.length : Int) := by rw [hz]; simp
   have hdn : 0 < L.length := by rw [hz]; simp
   have hhd : L.headD noneN = z := by rw [hz]; rfl
   rw [hhd] at HV
   subst hBe
   clear hz hg hhd
   have hbD : Below wr.heap.size wr wr.drew := (Below.refl _ _).drew
   have hi := rrep12_go z x.lo x.hi C capc wr.drew hzs hzg hck (fun b h => Nat.lt_of_lt_of_le h.2 hbD.size) (hkz3.below hbD) HTO.out
   rw [repQ_eq hzg HTO.out] at hi
   have HI := Lib.hid hi
   have HZD := Lib.hid (HZr.out.below hbD HZr.out.lt)
   have HXD := Lib.hid (HXr.out.below hbD HXr.out.lt)
   have HBD := Lib.hid (HBr.out.trans (hbD.mono (by omega)))
   have hwd : wr.drew.heap.size = wr.heap.size := rfl
   unfold ndV at HI
   clear hi HZr HXr HBr hbD HTr HSG HSZ hkz3 hzg HTO
   generalize hrp : repP z x.lo x.hi = y at *
   have HRP := Lib.hid hrp
   clear hrp
   generalize x.lo = lo at *
   generalize x.hi = hi at *
   go_upto_region 21 with fail
   generalize hbx : w.heap.size = bx at *
   have hs : (fun w' => w'.cell? ⟨bx, 6, none⟩ = some (.int .i64 lo) ∧ w'.cell? ⟨bx, 7, none⟩ = some (.int .i64 hi)) wr.drew := ⟨x6, x7⟩
   refine wp_region_noPanic ?_
   refine wp_region_held_drew (S := fun w' => w'.cell? ⟨bx, 6, none⟩ = some (.int .i64 lo) ∧ w'.cell? ⟨bx, 7, none⟩ = some (.int .i64 hi)) (by kernel_rfl) hs (fun hHeld => ?_)
   refine wpAnyH_take (i := 0) (oi := _) (v := ?_) rfl (by kernel_rfl) (by kernel_rfl) (by kernel_rfl) (fun _ _ _ h => h) (Or.inl ⟨by kernel_rfl, ?_⟩) (by assumption) ?_
   rotate_left
   ·intro w hSw
    try dsimp only at hSw
    go_simp
    try (with_reducible rfl)
   try simp only [Act.put, nrmH]
   refine wpAnyH_take (i := 1) (oi := _) (v := ?_) rfl (by kernel_rfl) (by kernel_rfl) (by kernel_rfl) (fun _ _ _ h => h) (Or.inl ⟨by kernel_rfl, ?_⟩) (by assumption) ?_
   rotate_left
   ·intro w hSw
    try dsimp only at hSw
    go_simp
    try (with_reducible rfl)
   try simp only [Act.put, nrmH]
   refine wpAnyH_take (i := 3) (oi := _) (v := ?_) rfl (by kernel_rfl) (by kernel_rfl) (by kernel_rfl) (fun _ _ _ h => h) (Or.inl ⟨by kernel_rfl, ?_⟩) (by assumption) ?_
   rotate_left
   ·intro w hSw
    try dsimp only at hSw
    go_simp
    try (with_reducible rfl)
   try simp only [Act.put, nrmH]
   refine wpAnyH_take (i := 4) (oi := _) (v := ?_) rfl (by kernel_rfl) (by kernel_rfl) (by kernel_rfl) (fun _ _ _ h => h) (Or.inl ⟨by kernel_rfl, ?_⟩) (by assumption) ?_
   rotate_left
   ·intro w hSw
    try dsimp only at hSw
    go_simp
    try (with_reducible rfl)
   try simp only [Act.put, nrmH]
   refine wpAnyH_take (i := 5) (oi := _) (v := ?_) rfl (by kernel_rfl) (by kernel_rfl) (by kernel_rfl) (fun _ _ _ h => h) (Or.inl ⟨by kernel_rfl, ?_⟩) (by assumption) ?_
   rotate_left
   ·intro w hSw
    try dsimp only at hSw
    go_simp
    try (with_reducible rfl)
   try simp only [Act.put, nrmH]
   refine wpAnyH_take (i := 6) (oi := _) (v := ?_) rfl (by kernel_rfl) (by kernel_rfl) (by kernel_rfl) (fun _ _ _ h => h) (Or.inl ⟨by kernel_rfl, ?_⟩) (by assumption) ?_
   rotate_left
   ·intro w hSw
    try dsimp only at hSw
    go_simp
    try (with_reducible rfl)
   try simp only [Act.put, nrmH]
   refine wpAnyH_ready (rs := [2]) (by kernel_rfl) (by simp) ?_
   refine AllReadyH.cons (o := _) rfl (fun K hK => ?_) AllReadyH.nil
   go_simp
   refine hK.out _ _ hs (fun _ => ?_)
   clear hK K
   try simp only [Act.put, nrmH]
   refine wpAnyH_ready (rs := [7]) (by kernel_rfl) (by simp) ?_
   refine AllReadyH.cons (o := _) rfl (fun K hK => ?_) AllReadyH.nil
   go_simp
   go_at_call 40
   refine HI.out.mono ?_
   rintro e w9 ⟨B9, c9, rfl, hb9, hc9, ht9⟩
   have hX9 := HXD.out.below hb9 HXD.out.lt
   have hZ9 := HZD.out.below hb9 HZD.out.lt
   have HB9 := Lib.hid (HBD.out.trans (hb9.mono (show bx + 1 ≤ wr.heap.size by omega)))
   have HZ9 := Lib.hid hZ9
   have HT9 := Lib.hid (ht9.weak (Q := fun b => P b ∨ bx + 1 ≤ b) (fun b h _ => by
    rcases h with h | h
    ·exact h.1.imp id (fun h => by omega)
    ·exact .inr (by omega)))
   have HX9 := Lib.hid hX9
   have hs9 : (fun w' => w'.cell? ⟨bx, 6, none⟩ = some (.int .i64 lo) ∧ w'.cell? ⟨bx, 7, none⟩ = some (.int .i64 hi)) w9 := ⟨hX9.cell 6, hX9.cell 7⟩
   refine hK.out _ _ hs9 (fun _ => ?_)
   clear hK K hb9 ht9 x0 x1 x2 x3 x4 x5 x6 x7 hl2 c0 c1 c2 c3' c4 c5' c6 c7 hs hX9
   try simp only [Act.put, nrmH]
   obtain ⟨y0, y1, y2, y3, y4, y5, y6, y7, g0, g1, g2, g3, g4, g5, g6, g7⟩ := hZ9.z16
   clear hZ9
   unfold ndV
   refine wpAnyH_ready (rs := [8]) (by kernel_rfl) (by simp) ?_
   refine AllReadyH.cons (o := _) rfl (fun K hK => ?_) AllReadyH.nil
   go_simp
   have hXf := far8 HX9.out (show bx ≠ bx + 1 by omega) (.int .i64 y.kind) (.int .u64 (word y.set.testBit 0)) (.int .u64 (word y.set.testBit 1)) (.int .u64 (word y.set.testBit 2)) (.int .u64 (word y.set.testBit 3)) (.slice B9 y.kids.len c9) (.int .i64 y.lo) (.int .i64 y.hi)
   refine hK.out _ _ ⟨hXf.cell 6, hXf.cell 7⟩ (fun _ => ?_)
   clear hK K hXf hs9
   try simp only [Act.put, nrmH]
   refine wpAnyH_done (by kernel_rfl) ?_ _
   refine NoPanic.normal ?_
   go_wp2
   go_light
   subst hbx
   have hF := old_put1 (x := y) (B := B9) (cap := c9) (by rw [← HV.out]; exact HSS.out) HZ9.out HB9.out hP (fun b h => h) HT9.out rfl
   refine bodyPost_ret (ret_node Tryz.results74 rfl hF.1) rfl ?_
   rw [HV.out]
   exact ⟨B9, c9, rfl, hF.2.1, hc9, hF.2.2⟩
theorem rof_go (x : Nd) (P : Nat → Prop) (B : Option Addr) (cap : Nat) (w : World) (hs : x.size ≤ 1000000) (ho : ∀ y ∈ x.nodes, OkN y) (hc : x.kids.len ≤ cap) (hP : ∀ b, P b → b < w.heap.size) (ht : TreesAt w P x.kids B) :
  Calls Tryz.prog 74 #[ndV x B cap] w (OldT P x.sim w) := by
 have h : ∀ n, OfD n := by
  intro n
  induction n with
  | zero => exact fun x _ _ _ _ h => by unfold Nd.size at h; omega
  | succ n ih => exact rof_step ih
 exact h x.size x P B cap w (Nat.le_refl _) hs ho hc hP ht
end Go.Proofs.YtofbfafnpdaejaaGreatDoor
