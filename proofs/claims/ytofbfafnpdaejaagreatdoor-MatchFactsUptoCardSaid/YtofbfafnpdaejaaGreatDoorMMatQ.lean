/- Texts of the claim. -/
import Derived.Test.YtofbfafnpdaejaaGreatDoorMMatP
import Derived.Test.YtofbfafnpdaejaaGreatDoorMMatJ
namespace Go.Proofs.YtofbfafnpdaejaaGreatDoor
open Go.RowKit
set_option linter.unusedSimpArgs false
set_option linter.unusedVariables false
set_option maxRecDepth 100000
set_option maxHeartbeats 8000000
theorem rels_kid {z y : Nd} (hy : z.kids.list = [y]) (bs : List Nat) : z.kids.rels bs = [y.rel bs] := by rw [Trees.rels_list, hy]; rfl
theorem rel_kid6 {z y : Nd} (hk : z.kind = 6) (hy : z.kids.list = [y]) (bs : List Nat) : z.rel bs = starR (y.rel bs) := by show saysK z.kind z.set z.lo z.hi bs (z.kids.rels bs) = _; rw [rels_kid hy, hk]; simp [saysK]
theorem rel_kid7 {z y : Nd} (hk : z.kind = 7) (hy : z.kids.list = [y]) (bs : List Nat) : z.rel bs = plusR (y.rel bs) := by show saysK z.kind z.set z.lo z.hi bs (z.kids.rels bs) = _; rw [rels_kid hy, hk]; simp [saysK]
theorem rel_kid8 {z y : Nd} (hk : z.kind = 8) (hy : z.kids.list = [y]) (bs : List Nat) : z.rel bs = optR (y.rel bs) := by show saysK z.kind z.set z.lo z.hi bs (z.kids.rels bs) = _; rw [rels_kid hy, hk]; simp [saysK]
theorem rel_kid9 {z y : Nd} (hk : z.kind = 9) (hy : z.kids.list = [y]) (bs : List Nat) : z.rel bs = repR z.lo z.hi (y.rel bs) := by show saysK z.kind z.set z.lo z.hi bs (z.kids.rels bs) = _; rw [rels_kid hy, hk]; simp [saysK]
theorem at_len {bs : List Nat} {i : Nat} (hi : i ≤ bs.length) : ∀ c, atB i c = true → c ≤ bs.length := fun c hc => by rw [atB_iff] at hc; omega
theorem kid_cell {w W : World} {b' o' c2 m : Nat} {L : List Int} {x : Nd} {bs : List Nat} {fm : Nat} (h : IntsAt w (some ⟨b', o', none⟩) L) (hm1 : L[0]? = some (m : Int)) (hg : w.grownBy W (some fm)) (hm : MemoAt askV okA (goodM x bs) w fm) : W.cell? ⟨b', o', none⟩ = some (.int .i64 (m : Int)) := by
 obtain ⟨b2, o2, e, hc⟩ := ints_grown h hg hm 0 _ hm1
 cases e
 exact hc
theorem look_star {x z y : Nd} {bs : List Nat} (hk : z.kind = 6) (hy : z.kids.list = [y]) (hK : EndsC x bs y) : LookC x bs z := by
 intro base gm b cp fm cv V w hM k i B A n1 c1 c2 hkb hi hints hc2
 have hn : z.kids.len = 1 := by rw [← Trees.len_list, hy]; rfl
 rw [hk, hn]
 rw [hn] at hc2
 obtain ⟨m, hm1, hm2⟩ := hkb.kid (i := 0) (y := y) (by rw [hy]; rfl)
 obtain ⟨b', o', rfl, hkc⟩ := hints 0 _ hm1
 rw [Nat.add_zero] at hkc
 have HM2 := Lib.hid hm2
 have HM1 := Lib.hid hm1
 clear hm1 hm2
 obtain ⟨W0, hW0⟩ : ∃ W0, ((w.alloc (.cells #[.int .i64 (6), .int .u64 (word z.set.testBit 0), .int .u64 (word z.set.testBit 1), .int .u64 (word z.set.testBit 2), .int .u64 (word z.set.testBit 3), .slice B n1 c1, .int .i64 z.lo, .int .i64 z.hi, .slice (some ⟨b', o', none⟩) (1) c2] 172)).alloc (.cells #[.int .u64 0, .int .u64 0, .int .u64 0, .int .u64 0, .int .u64 0] 69)).alloc (.cells #[.int .u64 0, .int .u64 0, .int .u64 0, .int .u64 0, .int .u64 0] 69) = W0 := ⟨_, rfl⟩
 have HM := Lib.hid hM
 have hlen := hM.len
 have H0 := Lib.hid (look_made hM hW0)
 obtain ⟨k0, k1, k2, k3, k4, k5, k6, k7, k8⟩ : _ ∧ _ ∧ _ ∧ _ ∧ _ ∧ _ ∧ _ ∧ _ ∧ _ := ⟨H0.out.bx.cell 0, H0.out.bx.cell 1, H0.out.bx.cell 2, H0.out.bx.cell 3, H0.out.bx.cell 4, H0.out.bx.cell 5, H0.out.bx.cell 6, H0.out.bx.cell 7, H0.out.bx.cell 8⟩
 simp only [List.getElem?_toArray, List.getElem?_cons_zero, List.getElem?_cons_succ] at k0 k1 k2 k3 k4 k5 k6 k7 k8
 obtain ⟨p0, p1, p2, p3, p4⟩ := H0.out.bp.c5w
 simp only [word_none] at p0 p1 p2 p3 p4
 have HKB := Lib.hid hkb
 have HIN := Lib.hid hints
 have lx := H0.out.bx.lt
 have lp := H0.out.bp.lt
 have lr := H0.out.br.lt
 clear hM hkb hints
 go_enter Tryz.func155, Tryz.ntmps155
 have HK := Lib.hid (eachC_of hK)
 clear hK
 go_wp2_with fail
 refine (pput_go (w.heap.size + 2) (fun _ => false) i (by omega) W0 H0.out.bp).mono ?_
 rintro _ W1 ⟨rfl, hb1, hg1⟩
 have H1 := Lib.hid (H0.out.put HM.out hg1 (show Blk W1 (w.heap.size + 2) _ #[.int .u64 (word (atB i) 0), .int .u64 (word (atB i) 1), .int .u64 (word (atB i) 2), .int .u64 (word (atB i) 3), .int .u64 (word (atB i) 4)] from hb1))
 clear hb1 hg1 p0 p1 p2 p3 p4 H0 hW0 k0 k1 k2 k3 k4 k5 k6 k7 k8
 have k8 := H1.out.bx.cell 8
 simp only [List.getElem?_toArray, List.getElem?_cons_zero, List.getElem?_cons_succ] at k8
 have HD := Lib.hid H1.out.drew
 obtain ⟨p0, p1, p2, p3, p4⟩ := H1.out.bp.c5w
 have kc := kid_cell (c2 := 0) HIN.out HM1.out H1.out.mw.grown HM.out.memo
 have lx1 := H1.out.bx.lt
 have HA := Lib.hid (again_go HK.out W1.drew HD.out.mw.mat m (atB i) HM2.out (at_len hi))
 have hd1 : (0 : Int) < (c2 : Int) := by omega
 dsimp only
 go_wp2
 go_region_with (go_at_call 188; refine HA.out.mono ?_; rintro _ W2 ⟨rfl, hm2, hg2⟩; have H2 := Lib.hid (HD.out.call hm2 hg2); clear hm2 hg2; obtain ⟨r0, r1, r2, r3, r4⟩ := H2.out.br.c5w; obtain ⟨f0, f1, f2, f3, f4⟩ := H2.out.br.f5w; have lr2 := H2.out.br.lt)
 all_goals go_wp2
 all_goals obtain ⟨e1, e2⟩ := look_done HM.out H2.out (imgB (starR (y.rel bs)) (atB i)) (by unfold endsB; rw [rel_kid6 hk hy])
 all_goals exact bodyPost_ret (ret_pl Tryz.results155 rfl e1) rfl e2
theorem look_opt {x z y : Nd} {bs : List Nat} (hk : z.kind = 8) (hy : z.kids.list = [y]) (hK : EndsC x bs y) : LookC x bs z := by
 intro base gm b cp fm cv V w hM k i B A n1 c1 c2 hkb hi hints hc2
 have hn : z.kids.len = 1 := by rw [← Trees.len_list, hy]; rfl
 rw [hk, hn]
 rw [hn] at hc2
 obtain ⟨m, hm1, hm2⟩ := hkb.kid (i := 0) (y := y) (by rw [hy]; rfl)
 obtain ⟨b', o', rfl, hkc⟩ := hints 0 _ hm1
 rw [Nat.add_zero] at hkc
 have HM2 := Lib.hid hm2
 have HM1 := Lib.hid hm1
 clear hm1 hm2
 obtain ⟨W0, hW0⟩ : ∃ W0, ((w.alloc (.cells #[.int .i64 (8), .int .u64 (word z.set.testBit 0), .int .u64 (word z.set.testBit 1), .int .u64 (word z.set.testBit 2), .int .u64 (word z.set.testBit 3), .slice B n1 c1, .int .i64 z.lo, .int .i64 z.hi, .slice (some ⟨b', o', none⟩) (1) c2] 172)).alloc (.cells #[.int .u64 0, .int .u64 0, .int .u64 0, .int .u64 0, .int .u64 0] 69)).alloc (.cells #[.int .u64 0, .int .u64 0, .int .u64 0, .int .u64 0, .int .u64 0] 69) = W0 := ⟨_, rfl⟩
 have HM := Lib.hid hM
 have hlen := hM.len
 have H0 := Lib.hid (look_made hM hW0)
 obtain ⟨k0, k1, k2, k3, k4, k5, k6, k7, k8⟩ : _ ∧ _ ∧ _ ∧ _ ∧ _ ∧ _ ∧ _ ∧ _ ∧ _ := ⟨H0.out.bx.cell 0, H0.out.bx.cell 1, H0.out.bx.cell 2, H0.out.bx.cell 3, H0.out.bx.cell 4, H0.out.bx.cell 5, H0.out.bx.cell 6, H0.out.bx.cell 7, H0.out.bx.cell 8⟩
 simp only [List.getElem?_toArray, List.getElem?_cons_zero, List.getElem?_cons_succ] at k0 k1 k2 k3 k4 k5 k6 k7 k8
 obtain ⟨p0, p1, p2, p3, p4⟩ := H0.out.bp.c5w
 simp only [word_none] at p0 p1 p2 p3 p4
 have HKB := Lib.hid hkb
 have HIN := Lib.hid hints
 have lx := H0.out.bx.lt
 have lp := H0.out.bp.lt
 have lr := H0.out.br.lt
 clear hM hkb hints
 go_enter Tryz.func155, Tryz.ntmps155
 have HK := Lib.hid hK
 clear hK
 go_wp2_with fail
 refine (pput_go (w.heap.size + 2) (fun _ => false) i (by omega) W0 H0.out.bp).mono ?_
 rintro _ W1 ⟨rfl, hb1, hg1⟩
 have H1 := Lib.hid (H0.out.put HM.out hg1 (show Blk W1 (w.heap.size + 2) _ #[.int .u64 (word (atB i) 0), .int .u64 (word (atB i) 1), .int .u64 (word (atB i) 2), .int .u64 (word (atB i) 3), .int .u64 (word (atB i) 4)] from hb1))
 clear hb1 hg1 p0 p1 p2 p3 p4 H0 hW0 k0 k1 k2 k3 k4 k5 k6 k7 k8
 have k8 := H1.out.bx.cell 8
 simp only [List.getElem?_toArray, List.getElem?_cons_zero, List.getElem?_cons_succ] at k8
 have HD := Lib.hid H1.out.drew
 obtain ⟨p0, p1, p2, p3, p4⟩ := H1.out.bp.c5w
 have kc := kid_cell (c2 := 0) HIN.out HM1.out H1.out.mw.grown HM.out.memo
 have lx1 := H1.out.bx.lt
 have HC := Lib.hid (HK.out base gm b cp fm cv V W1.drew HD.out.mw.mat m i HM2.out hi)
 have HO := Lib.hid (show endsB z bs i = (fun c => atB i c || endsB y bs i c) from setB_ext fun c => by
  rw [endsB_iff, rel_kid8 hk hy, Bool.or_eq_true, atB_iff, endsB_iff]
  exact ⟨fun h => h.imp (fun e => (show i = c from e).symm) id, fun h => h.imp (fun e => (show i = c from e.symm)) id⟩)
 have hd1 : (0 : Int) < (c2 : Int) := by omega
 dsimp only
 go_wp2
 go_region_with (first
  | (go_at_call 112; refine HC.out.mono ?_; rintro _ w4 ⟨rfl, hm4, hg4⟩; have H4 := Lib.hid (HD.out.call hm4 hg4); clear hm4 hg4; obtain ⟨p0, p1, p2, p3, p4⟩ := H4.out.bp.c5w; have lp4 := H4.out.bp.lt)
  | (go_at_call 187; refine (pwith_go _ _ _).mono ?_; rintro _ W2 ⟨rfl, hb5⟩; have H2 := Lib.hid (H4.out.below hb5); clear hb5; obtain ⟨r0, r1, r2, r3, r4⟩ := H2.out.br.c5w; obtain ⟨f0, f1, f2, f3, f4⟩ := H2.out.br.f5w; have lr2 := H2.out.br.lt))
 all_goals go_wp2
 all_goals obtain ⟨e1, e2⟩ := look_done HM.out H2.out (fun c => atB i c || endsB y bs i c) HO.out
 all_goals exact bodyPost_ret (ret_pl Tryz.results155 rfl e1) rfl e2
end Go.Proofs.YtofbfafnpdaejaaGreatDoor
