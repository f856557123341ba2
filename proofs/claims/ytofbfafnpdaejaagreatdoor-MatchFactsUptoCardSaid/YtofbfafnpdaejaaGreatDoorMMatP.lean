/- Texts of the claim. -/
import Derived.Test.YtofbfafnpdaejaaGreatDoorMMatO
namespace Go.Proofs.YtofbfafnpdaejaaGreatDoor
open Go.RowKit
set_option linter.unusedSimpArgs false
set_option linter.unusedVariables false
set_option maxRecDepth 100000
set_option maxHeartbeats 8000000
theorem ints_grown {w W : World} {A : Option Addr} {L : List Int} {x : Nd} {bs : List Nat} {fm : Nat} (h : IntsAt w A L) (hg : w.grownBy W (some fm)) (hm : MemoAt askV okA (goodM x bs) w fm) : IntsAt W A L := by
 obtain ⟨es, clock, hf, _⟩ := hm
 refine ints_stayM h (fun j cs t fr hj => hg.block j (Array.getElem?_eq_some_iff.1 hj).1 (fun e => ?_))
 cases e
 rw [hf] at hj
 cases hj
theorem rel_cat4 {z : Nd} (hk : z.kind = 4) (bs : List Nat) : z.rel bs = catR (z.kids.rels bs) := by unfold Nd.rel saysK; rw [hk]; simp
theorem rel_alt5 {z : Nd} (hk : z.kind = 5) (bs : List Nat) : z.rel bs = altR (z.kids.rels bs) := by unfold Nd.rel saysK; rw [hk]; simp
theorem rels_take (F : Trees) (bs : List Nat) {j : Nat} {y : Nd} (hy : F.list[j]? = some y) : (F.rels bs).take (j + 1) = (F.rels bs).take j ++ [y.rel bs] := by
 rw [Trees.rels_list, List.take_add_one, List.getElem?_map, hy]
 rfl
theorem rels_all (F : Trees) (bs : List Nat) : (F.rels bs).take F.len = F.rels bs := by
 rw [Trees.rels_list, ← Trees.len_list, List.take_of_length_le (by simp)]
noncomputable def catB (z : Nd) (bs : List Nat) (i j : Nat) : Nat → Bool := imgB (catR ((z.kids.rels bs).take j)) (atB i)
theorem catB_zero (z : Nd) (bs : List Nat) (i : Nat) : catB z bs i 0 = atB i := by
 unfold catB
 rw [List.take_zero]
 exact imgB_id _
theorem catB_next {z : Nd} {bs : List Nat} {i j : Nat} {y : Nd} (hy : z.kids.list[j]? = some y) : imgB (y.rel bs) (catB z bs i j) = catB z bs i (j + 1) := by
 unfold catB
 rw [rels_take z.kids bs hy, imgB_comp]
 exact imgB_congr (fun a b => (catR_snoc _ _ a b).symm) _
theorem catB_all {z : Nd} (hk : z.kind = 4) (bs : List Nat) (i : Nat) : endsB z bs i = catB z bs i z.kids.len := by
 unfold catB endsB
 rw [rels_all, rel_cat4 hk]
noncomputable def altB (z : Nd) (bs : List Nat) (i j : Nat) : Nat → Bool := imgB (altR ((z.kids.rels bs).take j)) (atB i)
theorem altB_zero (z : Nd) (bs : List Nat) (i : Nat) : altB z bs i 0 = fun _ => false := by
 unfold altB
 rw [List.take_zero]
 refine setB_ext fun c => ?_
 rw [imgB_iff]
 exact ⟨fun ⟨_, _, R, h, _⟩ => by simp at h, fun h => by cases h⟩
theorem altB_next {z : Nd} {bs : List Nat} {i j : Nat} {y : Nd} (hy : z.kids.list[j]? = some y) : (fun c => altB z bs i j c || endsB y bs i c) = altB z bs i (j + 1) := by
 refine setB_ext fun c => ?_
 unfold altB
 rw [rels_take z.kids bs hy, Bool.or_eq_true, imgB_iff, imgB_iff, endsB_iff]
 constructor
 ·rintro (⟨a, h1, h2⟩ | h)
  ·exact ⟨a, h1, (altR_snoc _ _ a c).2 (.inl h2)⟩
  ·exact ⟨i, atB_iff.2 rfl, (altR_snoc _ _ i c).2 (.inr h)⟩
 ·rintro ⟨a, h1, h2⟩
  rcases (altR_snoc _ _ a c).1 h2 with h | h
  ·exact .inl ⟨a, h1, h⟩
  ·rw [atB_iff.1 h1] at h
   exact .inr h
theorem altB_all {z : Nd} (hk : z.kind = 5) (bs : List Nat) (i : Nat) : endsB z bs i = altB z bs i z.kids.len := by
 unfold altB endsB
 rw [rels_all, rel_alt5 hk]
theorem look_cat {x z : Nd} {bs : List Nat} (hk : z.kind = 4) (hsz : z.kids.len ≤ 1000000) (hK : ∀ y ∈ z.kids.list, EndsC x bs y) : LookC x bs z := by
 intro base gm b cp fm cv V w hM k i B A n1 c1 c2 hkb hi hints hc2
 rw [hk]
 obtain ⟨W0, hW0⟩ : ∃ W0, ((w.alloc (.cells #[.int .i64 (4), .int .u64 (word z.set.testBit 0), .int .u64 (word z.set.testBit 1), .int .u64 (word z.set.testBit 2), .int .u64 (word z.set.testBit 3), .slice B n1 c1, .int .i64 z.lo, .int .i64 z.hi, .slice A (z.kids.len) c2] 172)).alloc (.cells #[.int .u64 0, .int .u64 0, .int .u64 0, .int .u64 0, .int .u64 0] 69)).alloc (.cells #[.int .u64 0, .int .u64 0, .int .u64 0, .int .u64 0, .int .u64 0] 69) = W0 := ⟨_, rfl⟩
 have HM := Lib.hid hM
 have hlen := hM.len
 have H0 := Lib.hid (look_made hM hW0)
 obtain ⟨k0, k1, k2, k3, k4, k5, k6, k7, k8⟩ : _ ∧ _ ∧ _ ∧ _ ∧ _ ∧ _ ∧ _ ∧ _ ∧ _ := ⟨H0.out.bx.cell 0, H0.out.bx.cell 1, H0.out.bx.cell 2, H0.out.bx.cell 3, H0.out.bx.cell 4, H0.out.bx.cell 5, H0.out.bx.cell 6, H0.out.bx.cell 7, H0.out.bx.cell 8⟩
 simp only [List.getElem?_toArray, List.getElem?_cons_zero, List.getElem?_cons_succ] at k0 k1 k2 k3 k4 k5 k6 k7 k8
 obtain ⟨p0, p1, p2, p3, p4⟩ := H0.out.bp.c5w
 simp only [word_none] at p0 p1 p2 p3 p4
 have HKB := Lib.hid hkb
 have HIN := Lib.hid hints
 have lx := H0.out.bx.lt
 have lp := H0.out.bp.lt
 have lr := H0.out.br.lt
 clear hM hkb hints
 go_enter Tryz.func155, Tryz.ntmps155
 have HK := Lib.hid hK
 clear hK
 go_wp2_with fail
 refine (pput_go (w.heap.size + 2) (fun _ => false) i (by omega) W0 H0.out.bp).mono ?_
 rintro _ W1 ⟨rfl, hb1, hg1⟩
 have H1 := Lib.hid (H0.out.put HM.out hg1 (show Blk W1 (w.heap.size + 2) _ #[.int .u64 (word (atB i) 0), .int .u64 (word (atB i) 1), .int .u64 (word (atB i) 2), .int .u64 (word (atB i) 3), .int .u64 (word (atB i) 4)] from hb1))
 clear hb1 hg1 p0 p1 p2 p3 p4 H0 hW0 k0 k1 k2 k3 k4 k5 k6 k7 k8
 have k8 := H1.out.bx.cell 8
 simp only [List.getElem?_toArray, List.getElem?_cons_zero, List.getElem?_cons_succ] at k8
 have lx1 := H1.out.bx.lt
 dsimp only
 go_wp2
 go_loopw [51] (fun v wr => ∃ j : Nat, v = .int .i64 (j : Int) ∧ j ≤ z.kids.len ∧ Hid (∀ c, catB z bs i j c = true → c ≤ bs.length) ∧ Hid (LookI x bs base gm b cp fm cv V w wr #[.int .i64 (4), .int .u64 (word z.set.testBit 0), .int .u64 (word z.set.testBit 1), .int .u64 (word z.set.testBit 2), .int .u64 (word z.set.testBit 3), .slice B n1 c1, .int .i64 z.lo, .int .i64 z.hi, .slice A (z.kids.len) c2] (catB z bs i j))) (fun v _ => z.kids.len - (intOf v).toNat)
 case atStart => exact ⟨0, rfl, Nat.zero_le _, Lib.hid (fun c hc => by rw [catB_zero, atB_iff] at hc; omega), by rw [catB_zero]; exact H1⟩
 case round =>
  clear H1 k8 lx1
  obtain ⟨j, rfl, hj, hbd, HI⟩ := hrel
  obtain ⟨p0, p1, p2, p3, p4⟩ := HI.out.bp.c5w
  have lp2 := HI.out.bp.lt
  by_cases hlt : j < z.kids.len
  ·obtain ⟨y, hy⟩ : ∃ y, z.kids.list[j]? = some y := ⟨_, List.getElem?_eq_getElem (by rw [Trees.len_list]; exact hlt)⟩
   obtain ⟨m, hm1, hm2⟩ := HKB.out.kid hy
   obtain ⟨b', o', rfl, hc⟩ := ints_grown HIN.out HI.out.mw.grown HM.out.memo j _ hm1
   have HY := Lib.hid hy
   have HC := Lib.hid (eachC_of (HK.out y (List.mem_of_getElem? hy)) base gm b cp fm cv V wr HI.out.mw.mat m (catB z bs i j) hm2 hbd.out)
   rw [catB_next hy] at HC
   have hbd2 := Lib.hid (show ∀ c, catB z bs i (j + 1) c = true → c ≤ bs.length from fun c hc => by rw [← catB_next hy] at hc; exact img_len hbd.out c hc)
   have hdl : (j : Int) < (z.kids.len : Int) := by omega
   have hdc : (j : Int) < (c2 : Int) := by omega
   have hwj : IntKind.i64.wrap ((j : Int) + 1) = (j : Int) + 1 := by rw [IntKind.wrap_i64]; omega
   clear hy hm1 hm2
   go_wp2_with fail
   refine HC.out.mono ?_
   rintro _ W4 ⟨rfl, hm4, hg4⟩
   have H4 := Lib.hid (HI.out.call hm4 hg4)
   clear hm4 hg4 HC HI p0 p1 p2 p3 p4 lp2 hc
   obtain ⟨p0, p1, p2, p3, p4⟩ := H4.out.bp.c5w
   obtain ⟨f0, f1, f2, f3, f4⟩ := H4.out.bp.f5w
   dsimp only
   go_wp2
   refine ⟨⟨j + 1, by rw [show ((j + 1 : Nat) : Int) = (j : Int) + 1 by omega], by omega, hbd2, Lib.hid (H4.out.stow HM.out (catB z bs i (j + 1)))⟩, ?_⟩
   simp [intOf]
   omega
  ·obtain rfl : j = z.kids.len := by omega
   have hdl : ¬ (z.kids.len : Int) < (z.kids.len : Int) := by omega
   have HE := Lib.hid (catB_all hk bs i)
   obtain ⟨r0, r1, r2, r3, r4⟩ := HI.out.br.c5w
   obtain ⟨f0, f1, f2, f3, f4⟩ := HI.out.br.f5w
   go_wp2
   obtain ⟨e1, e2⟩ := look_done HM.out HI.out (catB z bs i z.kids.len) HE.out
   exact bodyPost_ret (ret_pl Tryz.results155 rfl e1) rfl e2
theorem look_alt {x z : Nd} {bs : List Nat} (hk : z.kind = 5) (hsz : z.kids.len ≤ 1000000) (hK : ∀ y ∈ z.kids.list, EndsC x bs y) : LookC x bs z := by
 intro base gm b cp fm cv V w hM k i B A n1 c1 c2 hkb hi hints hc2
 rw [hk]
 obtain ⟨W0, hW0⟩ : ∃ W0, ((w.alloc (.cells #[.int .i64 (5), .int .u64 (word z.set.testBit 0), .int .u64 (word z.set.testBit 1), .int .u64 (word z.set.testBit 2), .int .u64 (word z.set.testBit 3), .slice B n1 c1, .int .i64 z.lo, .int .i64 z.hi, .slice A (z.kids.len) c2] 172)).alloc (.cells #[.int .u64 0, .int .u64 0, .int .u64 0, .int .u64 0, .int .u64 0] 69)).alloc (.cells #[.int .u64 0, .int .u64 0, .int .u64 0, .int .u64 0, .int .u64 0] 69) = W0 := ⟨_, rfl⟩
 have HM := Lib.hid hM
 have hlen := hM.len
 have H0 := Lib.hid (look_made hM hW0)
 obtain ⟨k0, k1, k2, k3, k4, k5, k6, k7, k8⟩ : _ ∧ _ ∧ _ ∧ _ ∧ _ ∧ _ ∧ _ ∧ _ ∧ _ := ⟨H0.out.bx.cell 0, H0.out.bx.cell 1, H0.out.bx.cell 2, H0.out.bx.cell 3, H0.out.bx.cell 4, H0.out.bx.cell 5, H0.out.bx.cell 6, H0.out.bx.cell 7, H0.out.bx.cell 8⟩
 simp only [List.getElem?_toArray, List.getElem?_cons_zero, List.getElem?_cons_succ] at k0 k1 k2 k3 k4 k5 k6 k7 k8
 obtain ⟨p0, p1, p2, p3, p4⟩ := H0.out.bp.c5w
 simp only [word_none] at p0 p1 p2 p3 p4
 have HKB := Lib.hid hkb
 have HIN := Lib.hid hints
 have lx := H0.out.bx.lt
 have lp := H0.out.bp.lt
 have lr := H0.out.br.lt
 clear hM hkb hints
 go_enter Tryz.func155, Tryz.ntmps155
 have HK := Lib.hid hK
 clear hK
 go_wp2
 go_loopw [65] (fun v wr => ∃ j : Nat, v = .int .i64 (j : Int) ∧ j ≤ z.kids.len ∧ Hid (LookI x bs base gm b cp fm cv V w wr #[.int .i64 (5), .int .u64 (word z.set.testBit 0), .int .u64 (word z.set.testBit 1), .int .u64 (word z.set.testBit 2), .int .u64 (word z.set.testBit 3), .slice B n1 c1, .int .i64 z.lo, .int .i64 z.hi, .slice A (z.kids.len) c2] (altB z bs i j))) (fun v _ => z.kids.len - (intOf v).toNat)
 case atStart => exact ⟨0, rfl, Nat.zero_le _, by rw [altB_zero]; exact H0⟩
 case round =>
  clear H0 hW0 k0 k1 k2 k3 k4 k5 k6 k7 k8 p0 p1 p2 p3 p4
  obtain ⟨j, rfl, hj, HI⟩ := hrel
  obtain ⟨p0, p1, p2, p3, p4⟩ := HI.out.bp.c5w
  have lp2 := HI.out.bp.lt
  by_cases hlt : j < z.kids.len
  ·obtain ⟨y, hy⟩ : ∃ y, z.kids.list[j]? = some y := ⟨_, List.getElem?_eq_getElem (by rw [Trees.len_list]; exact hlt)⟩
   obtain ⟨m, hm1, hm2⟩ := HKB.out.kid hy
   obtain ⟨b', o', rfl, hc⟩ := ints_grown HIN.out HI.out.mw.grown HM.out.memo j _ hm1
   have HD := Lib.hid HI.out.drew
   have HC := Lib.hid (HK.out y (List.mem_of_getElem? hy) base gm b cp fm cv V wr.drew HD.out.mw.mat m i hm2 hi)
   have HN := Lib.hid (altB_next (i := i) (bs := bs) hy)
   have hdl : (j : Int) < (z.kids.len : Int) := by omega
   have hdc : (j : Int) < (c2 : Int) := by omega
   have hwj : IntKind.i64.wrap ((j : Int) + 1) = (j : Int) + 1 := by rw [IntKind.wrap_i64]; omega
   clear hy hm1 hm2
   go_wp2
   go_region_with (first
    | (go_at_call 112; refine HC.out.mono ?_; rintro _ w4 ⟨rfl, hm4, hg4⟩; have H4 := Lib.hid (HD.out.call hm4 hg4); clear hm4 hg4; obtain ⟨p0, p1, p2, p3, p4⟩ := H4.out.bp.c5w; have lp4 := H4.out.bp.lt)
    | (go_at_call 187; refine (pwith_go _ _ _).mono ?_; rintro _ w5 ⟨rfl, hb5⟩; have H5 := Lib.hid (H4.out.below hb5); clear hb5; obtain ⟨p0, p1, p2, p3, p4⟩ := H5.out.bp.c5w; obtain ⟨f0, f1, f2, f3, f4⟩ := H5.out.bp.f5w; have lp5 := H5.out.bp.lt))
   all_goals
    rw [HN.out]
    go_wp2
    refine ⟨⟨j + 1, by rw [show ((j + 1 : Nat) : Int) = (j : Int) + 1 by omega], by omega, Lib.hid (H5.out.stow HM.out (altB z bs i (j + 1)))⟩, ?_⟩
    simp [intOf]
    omega
  ·obtain rfl : j = z.kids.len := by omega
   have hdl : ¬ (z.kids.len : Int) < (z.kids.len : Int) := by omega
   have HE := Lib.hid (altB_all hk bs i)
   obtain ⟨r0, r1, r2, r3, r4⟩ := HI.out.br.c5w
   obtain ⟨f0, f1, f2, f3, f4⟩ := HI.out.br.f5w
   go_wp2
   obtain ⟨e1, e2⟩ := look_done HM.out HI.out (altB z bs i z.kids.len) HE.out
   exact bodyPost_ret (ret_pl Tryz.results155 rfl e1) rfl e2
end Go.Proofs.YtofbfafnpdaejaaGreatDoor
