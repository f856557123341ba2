/- Texts of the claim. -/
import Derived.StillTailTactics
import Derived.RangeFuncBox
import Derived.Maps.AppendAt
import Derived.Maps.OwnIn
import Derived.Lib.Hide
import Derived.Deep.QuietTactic
import Derived.BigQuiet
import Derived.Deep.Onto
import Derived.Test.YtofbfafnpdaejaaGreatDoorMZ04
import Derived.Test.YtofbfafnpdaejaaGreatDoorMZ03
import Derived.Test.YtofbfafnpdaejaaGreatDoorMEscCl
import Derived.Test.YtofbfafnpdaejaaGreatDoorMZ01
set_option linter.all false
set_option maxRecDepth 100000
set_option maxHeartbeats 8000000
namespace Go.Proofs.YtofbfafnpdaejaaGreatDoor
section
open Go.RowKit
theorem ints_grown {w W : World} {A : Option Addr} {L : List Int} {x : Nd} {bs : List Nat} {fm : Nat} (h : IntsAt w A L) (hg : w.grownBy W (some fm)) (hm : MemoAt askV okA (goodM x bs) w fm) : IntsAt W A L := by
 obtain ⟨es, clock, hf, _⟩ := hm
 refine ints_stayM h (fun j cs t fr hj => hg.block j (Array.getElem?_eq_some_iff.1 hj).1 (fun e => ?_))
 cases e
 rw [hf] at hj
 cases hj
theorem rel_cat4 {z : Nd} (hk : z.kind = 4) (bs : List Nat) : z.rel bs = catR (z.kids.rels bs) := by unfold Nd.rel saysK; rw [hk]; simp
theorem rel_alt5 {z : Nd} (hk : z.kind = 5) (bs : List Nat) : z.rel bs = altR (z.kids.rels bs) := by unfold Nd.rel saysK; rw [hk]; simp
theorem rels_take (F : Trees) (bs : List Nat) {j : Nat} {y : Nd} (hy : F.list[j]? = some y) : (F.rels bs).take (j + 1) = (F.rels bs).take j ++ [y.rel bs] := by
 rw [Trees.rels_list, List.take_add_one, List.getElem?_map, hy]
 rfl
theorem rels_all (F : Trees) (bs : List Nat) : (F.rels bs).take F.len = F.rels bs := by
 rw [Trees.rels_list, ← Trees.len_list, List.take_of_length_le (by simp)]
noncomputable def catB (z : Nd) (bs : List Nat) (i j : Nat) : Nat → Bool := imgB (catR ((z.kids.rels bs).take j)) (atB i)
theorem catB_zero (z : Nd) (bs : List Nat) (i : Nat) : catB z bs i 0 = atB i := by
 unfold catB
 rw [List.take_zero]
 exact imgB_id _
theorem catB_next {z : Nd} {bs : List Nat} {i j : Nat} {y : Nd} (hy : z.kids.list[j]? = some y) : imgB (y.rel bs) (catB z bs i j) = catB z bs i (j + 1) := by
 unfold catB
 rw [rels_take z.kids bs hy, imgB_comp]
 exact imgB_congr (fun a b => (catR_snoc _ _ a b).symm) _
theorem catB_all {z : Nd} (hk : z.kind = 4) (bs : List Nat) (i : Nat) : endsB z bs i = catB z bs i z.kids.len := by
 unfold catB endsB
 rw [rels_all, rel_cat4 hk]
noncomputable def altB (z : Nd) (bs : List Nat) (i j : Nat) : Nat → Bool := imgB (altR ((z.kids.rels bs).take j)) (atB i)
theorem altB_zero (z : Nd) (bs : List Nat) (i : Nat) : altB z bs i 0 = fun _ => false := by
 unfold altB
 rw [List.take_zero]
 refine setB_ext fun c => ?_
 rw [imgB_iff]
 exact ⟨fun ⟨_, _, R, h, _⟩ => by simp at h, fun h => by cases h⟩
theorem altB_next {z : Nd} {bs : List Nat} {i j : Nat} {y : Nd} (hy : z.kids.list[j]? = some y) : (fun c => altB z bs i j c || endsB y bs i c) = altB z bs i (j + 1) := by
 refine setB_ext fun c => ?_
 unfold altB
 rw [rels_take z.kids bs hy, Bool.or_eq_true, imgB_iff, imgB_iff, endsB_iff]
 constructor
 ·rintro (⟨a, h1, h2⟩ | h)
  ·exact ⟨a, h1, (altR_snoc _ _ a c).2 (.inl h2)⟩
  ·exact ⟨i, atB_iff.2 rfl, (altR_snoc _ _ i c).2 (.inr h)⟩
 ·rintro ⟨a, h1, h2⟩
  rcases (altR_snoc _ _ a c).1 h2 with h | h
  ·exact .inl ⟨a, h1, h⟩
  ·rw [atB_iff.1 h1] at h
   exact .inr h
theorem altB_all {z : Nd} (hk : z.kind = 5) (bs : List Nat) (i : Nat) : endsB z bs i = altB z bs i z.kids.len := by
 unfold altB endsB
 rw [rels_all, rel_alt5 hk]
theorem look_cat {x z : Nd} {bs : List Nat} (hk : z.kind = 4) (hsz : z.kids.len ≤ 1000000) (hK : ∀ y ∈ z.kids.list, EndsC x bs y) : LookC x bs z := by
 intro base gm b cp fm cv V w hM k i B A n1 c1 c2 hkb hi hints hc2
 rw [hk]
 obtain ⟨W0, hW0⟩ : ∃ W0, ((w.alloc (.cells #[.int .i64 (4), .int .u64 (word z.set.testBit 0), .int .u64 (word z.set.testBit 1), .int .u64 (word z.set.testBit 2), .int .u64 (word z.set.testBit 3), .slice B n1 c1, .int .i64 z.lo, .int .i64 z.hi, .slice A (z.kids.len) c2] 172)).alloc (.cells #[.int .u64 0, .int .u64 0, .int .u64 0, .int .u64 0, .int .u64 0] 69)).alloc (.cells #[.int .u64 0, .int .u64 0, .int .u64 0, .int .u64 0, .int .u64 0] 69) = W0 := ⟨_, rfl⟩
 have HM := Lib.hid hM
 have hlen := hM.len
 have H0 := Lib.hid (look_made hM hW0)
 obtain ⟨k0, k1, k2, k3, k4, k5, k6, k7, k8⟩ : _ ∧ _ ∧ _ ∧ _ ∧ _ ∧ _ ∧ _ ∧ _ ∧ _ := ⟨H0.out.bx.cell 0, H0.out.bx.cell 1, H0.out.bx.cell 2, H0.out.bx.cell 3, H0.out.bx.cell 4, H0.out.bx.cell 5, H0.out.bx.cell 6, H0.out.bx.cell 7, H0.out.bx.cell 8⟩
 simp only [List.getElem?_toArray, List.getElem?_cons_zero, List.getElem?_cons_succ] at k0 k1 k2 k3 k4 k5 k6 k7 k8
 obtain ⟨p0, p1, p2, p3, p4⟩ := H0.out.bp.c5w
 simp only [word_none] at p0 p1 p2 p3 p4
 have HKB := Lib.hid hkb
 have HIN := Lib.hid hints
 have lx := H0.out.bx.lt
 have lp := H0.out.bp.lt
 have lr := H0.out.br.lt
 clear hM hkb hints
 go_enter Tryz.func155, Tryz.ntmps155
 have HK := Lib.hid hK
 clear hK
 go_wp2_with fail
 refine (pput_go (w.heap.size + 2) (fun _ => false) i (by omega) W0 H0.out.bp).mono ?_
 rintro _ W1 ⟨rfl, hb1, hg1⟩
 have H1 := Lib.hid (H0.out.put HM.out hg1 (show Blk W1 (w.heap.size + 2) _ #[.int .u64 (word (atB i) 0), .int .u64 (word (atB i) 1), .int .u64 (word (atB i) 2), .int .u64 (word (atB i) 3), .int .u64 (word (atB i) 4)] from hb1))
 clear hb1 hg1 p0 p1 p2 p3 p4 H0 hW0 k0 k1 k2 k3 k4 k5 k6 k7 k8
 have k8 := H1.out.bx.cell 8
 simp only [List.getElem?_toArray, List.getElem?_cons_zero, List.getElem?_cons_succ] at k8
 have lx1 := H1.out.bx.lt
 dsimp only
 go_wp2
 go_loopw [51] (fun v wr => ∃ j : Nat, v = .int .i64 (j : Int) ∧ j ≤ z.kids.len ∧ Hid (∀ c, catB z bs i j c = true → c ≤ bs.length) ∧ Hid (LookI x bs base gm b cp fm cv V w wr #[.int .i64 (4), .int .u64 (word z.set.testBit 0), .int .u64 (word z.set.testBit 1), .int .u64 (word z.set.testBit 2), .int .u64 (word z.set.testBit 3), .slice B n1 c1, .int .i64 z.lo, .int .i64 z.hi, .slice A (z.kids.len) c2] (catB z bs i j))) (fun v _ => z.kids.len - (intOf v).toNat)
 case atStart => exact ⟨0, rfl, Nat.zero_le _, Lib.hid (fun c hc => by rw [catB_zero, atB_iff] at hc; omega), by rw [catB_zero]; exact H1⟩
 case round =>
  clear H1 k8 lx1
  obtain ⟨j, rfl, hj, hbd, HI⟩ := hrel
  obtain ⟨p0, p1, p2, p3, p4⟩ := HI.out.bp.c5w
  have lp2 := HI.out.bp.lt
  by_cases hlt : j < z.kids.len
  ·obtain ⟨y, hy⟩ : ∃ y, z.kids.list[j]? = some y := ⟨_, List.getElem?_eq_getElem (by rw [Trees.len_list]; exact hlt)⟩
   obtain ⟨m, hm1, hm2⟩ := HKB.out.kid hy
   obtain ⟨b', o', rfl, hc⟩ := ints_grown HIN.out HI.out.mw.grown HM.out.memo j _ hm1
   have HY := Lib.hid hy
   have HC := Lib.hid (eachC_of (HK.out y (List.mem_of_getElem? hy)) base gm b cp fm cv V wr HI.out.mw.mat m (catB z bs i j) hm2 hbd.out)
   rw [catB_next hy] at HC
   have hbd2 := Lib.hid (show ∀ c, catB z bs i (j + 1) c = true → c ≤ bs.length from fun c hc => by rw [← catB_next hy] at hc; exact img_len hbd.out c hc)
   have hdl : (j : Int) < (z.kids.len : Int) := by omega
   have hdc : (j : Int) < (c2 : Int) := by omega
   have hwj : IntKind.i64.wrap ((j : Int) + 1) = (j : Int) + 1 := by rw [IntKind.wrap_i64]; omega
   clear hy hm1 hm2
   go_wp2_with fail
   refine HC.out.mono ?_
   rintro _ W4 ⟨rfl, hm4, hg4⟩
   have H4 := Lib.hid (HI.out.call hm4 hg4)
   clear hm4 hg4 HC HI p0 p1 p2 p3 p4 lp2 hc
   obtain ⟨p0, p1, p2, p3, p4⟩ := H4.out.bp.c5w
   obtain ⟨f0, f1, f2, f3, f4⟩ := H4.out.bp.f5w
   dsimp only
   go_wp2
   refine ⟨⟨j + 1, by rw [show ((j + 1 : Nat) : Int) = (j : Int) + 1 by omega], by omega, hbd2, Lib.hid (H4.out.stow HM.out (catB z bs i (j + 1)))⟩, ?_⟩
   simp [intOf]
   omega
  ·obtain rfl : j = z.kids.len := by omega
   have hdl : ¬ (z.kids.len : Int) < (z.kids.len : Int) := by omega
   have HE := Lib.hid (catB_all hk bs i)
   obtain ⟨r0, r1, r2, r3, r4⟩ := HI.out.br.c5w
   obtain ⟨f0, f1, f2, f3, f4⟩ := HI.out.br.f5w
   go_wp2
   obtain ⟨e1, e2⟩ := look_done HM.out HI.out (catB z bs i z.kids.len) HE.out
   exact bodyPost_ret (ret_pl Tryz.results155 rfl e1) rfl e2
theorem look_alt {x z : Nd} {bs : List Nat} (hk : z.kind = 5) (hsz : z.kids.len ≤ 1000000) (hK : ∀ y ∈ z.kids.list, EndsC x bs y) : LookC x bs z := by
 intro base gm b cp fm cv V w hM k i B A n1 c1 c2 hkb hi hints hc2
 rw [hk]
 obtain ⟨W0, hW0⟩ : ∃ W0, ((w.alloc (.cells #[.int .i64 (5), .int .u64 (word z.set.testBit 0), .int .u64 (word z.set.testBit 1), .int .u64 (word z.set.testBit 2), .int .u64 (word z.set.testBit 3), .slice B n1 c1, .int .i64 z.lo, .int .i64 z.hi, .slice A (z.kids.len) c2] 172)).alloc (.cells #[.int .u64 0, .int .u64 0, .int .u64 0, .int .u64 0, .int .u64 0] 69)).alloc (.cells #[.int .u64 0, .int .u64 0, .int .u64 0, .int .u64 0, .int .u64 0] 69) = W0 := ⟨_, rfl⟩
 have HM := Lib.hid hM
 have hlen := hM.len
 have H0 := Lib.hid (look_made hM hW0)
 obtain ⟨k0, k1, k2, k3, k4, k5, k6, k7, k8⟩ : _ ∧ _ ∧ _ ∧ _ ∧ _ ∧ _ ∧ _ ∧ _ ∧ _ := ⟨H0.out.bx.cell 0, H0.out.bx.cell 1, H0.out.bx.cell 2, H0.out.bx.cell 3, H0.out.bx.cell 4, H0.out.bx.cell 5, H0.out.bx.cell 6, H0.out.bx.cell 7, H0.out.bx.cell 8⟩
 simp only [List.getElem?_toArray, List.getElem?_cons_zero, List.getElem?_cons_succ] at k0 k1 k2 k3 k4 k5 k6 k7 k8
 obtain ⟨p0, p1, p2, p3, p4⟩ := H0.out.bp.c5w
 simp only [word_none] at p0 p1 p2 p3 p4
 have HKB := Lib.hid hkb
 have HIN := Lib.hid hints
 have lx := H0.out.bx.lt
 have lp := H0.out.bp.lt
 have lr := H0.out.br.lt
 clear hM hkb hints
 go_enter Tryz.func155, Tryz.ntmps155
 have HK := Lib.hid hK
 clear hK
 go_wp2
 go_loopw [65] (fun v wr => ∃ j : Nat, v = .int .i64 (j : Int) ∧ j ≤ z.kids.len ∧ Hid (LookI x bs base gm b cp fm cv V w wr #[.int .i64 (5), .int .u64 (word z.set.testBit 0), .int .u64 (word z.set.testBit 1), .int .u64 (word z.set.testBit 2), .int .u64 (word z.set.testBit 3), .slice B n1 c1, .int .i64 z.lo, .int .i64 z.hi, .slice A (z.kids.len) c2] (altB z bs i j))) (fun v _ => z.kids.len - (intOf v).toNat)
 case atStart => exact ⟨0, rfl, Nat.zero_le _, by rw [altB_zero]; exact H0⟩
 case round =>
  clear H0 hW0 k0 k1 k2 k3 k4 k5 k6 k7 k8 p0 p1 p2 p3 p4
  obtain ⟨j, rfl, hj, HI⟩ := hrel
  obtain ⟨p0, p1, p2, p3, p4⟩ := HI.out.bp.c5w
  have lp2 := HI.out.bp.lt
  by_cases hlt : j < z.kids.len
  ·obtain ⟨y, hy⟩ : ∃ y, z.kids.list[j]? = some y := ⟨_, List.getElem?_eq_getElem (by rw [Trees.len_list]; exact hlt)⟩
   obtain ⟨m, hm1, hm2⟩ := HKB.out.kid hy
   obtain ⟨b', o', rfl, hc⟩ := ints_grown HIN.out HI.out.mw.grown HM.out.memo j _ hm1
   have HD := Lib.hid HI.out.drew
   have HC := Lib.hid (HK.out y (List.mem_of_getElem? hy) base gm b cp fm cv V wr.drew HD.out.mw.mat m i hm2 hi)
   have HN := Lib.hid (altB_next (i := i) (bs := bs) hy)
   have hdl : (j : Int) < (z.kids.len : Int) := by omega
   have hdc : (j : Int) < (c2 : Int) := by omega
   have hwj : IntKind.i64.wrap ((j : Int) + 1) = (j : Int) + 1 := by rw [IntKind.wrap_i64]; omega
   clear hy hm1 hm2
   go_wp2
   go_region_with (first
    | (go_at_call 112; refine HC.out.mono ?_; rintro _ w4 ⟨rfl, hm4, hg4⟩; have H4 := Lib.hid (HD.out.call hm4 hg4); clear hm4 hg4; obtain ⟨p0, p1, p2, p3, p4⟩ := H4.out.bp.c5w; have lp4 := H4.out.bp.lt)
    | (go_at_call 187; refine (pwith_go _ _ _).mono ?_; rintro _ w5 ⟨rfl, hb5⟩; have H5 := Lib.hid (H4.out.below hb5); clear hb5; obtain ⟨p0, p1, p2, p3, p4⟩ := H5.out.bp.c5w; obtain ⟨f0, f1, f2, f3, f4⟩ := H5.out.bp.f5w; have lp5 := H5.out.bp.lt))
   all_goals
    rw [HN.out]
    go_wp2
    refine ⟨⟨j + 1, by rw [show ((j + 1 : Nat) : Int) = (j : Int) + 1 by omega], by omega, Lib.hid (H5.out.stow HM.out (altB z bs i (j + 1)))⟩, ?_⟩
    simp [intOf]
    omega
  ·obtain rfl : j = z.kids.len := by omega
   have hdl : ¬ (z.kids.len : Int) < (z.kids.len : Int) := by omega
   have HE := Lib.hid (altB_all hk bs i)
   obtain ⟨r0, r1, r2, r3, r4⟩ := HI.out.br.c5w
   obtain ⟨f0, f1, f2, f3, f4⟩ := HI.out.br.f5w
   go_wp2
   obtain ⟨e1, e2⟩ := look_done HM.out HI.out (altB z bs i z.kids.len) HE.out
   exact bodyPost_ret (ret_pl Tryz.results155 rfl e1) rfl e2
theorem rels_kid {z y : Nd} (hy : z.kids.list = [y]) (bs : List Nat) : z.kids.rels bs = [y.rel bs] := by rw [Trees.rels_list, hy]; rfl
theorem rel_kid6 {z y : Nd} (hk : z.kind = 6) (hy : z.kids.list = [y]) (bs : List Nat) : z.rel bs = starR (y.rel bs) := by show saysK z.kind z.set z.lo z.hi bs (z.kids.rels bs) = _; rw [rels_kid hy, hk]; simp [saysK]
theorem rel_kid7 {z y : Nd} (hk : z.kind = 7) (hy : z.kids.list = [y]) (bs : List Nat) : z.rel bs = plusR (y.rel bs) := by show saysK z.kind z.set z.lo z.hi bs (z.kids.rels bs) = _; rw [rels_kid hy, hk]; simp [saysK]
theorem rel_kid8 {z y : Nd} (hk : z.kind = 8) (hy : z.kids.list = [y]) (bs : List Nat) : z.rel bs = optR (y.rel bs) := by show saysK z.kind z.set z.lo z.hi bs (z.kids.rels bs) = _; rw [rels_kid hy, hk]; simp [saysK]
theorem rel_kid9 {z y : Nd} (hk : z.kind = 9) (hy : z.kids.list = [y]) (bs : List Nat) : z.rel bs = repR z.lo z.hi (y.rel bs) := by show saysK z.kind z.set z.lo z.hi bs (z.kids.rels bs) = _; rw [rels_kid hy, hk]; simp [saysK]
theorem at_len {bs : List Nat} {i : Nat} (hi : i ≤ bs.length) : ∀ c, atB i c = true → c ≤ bs.length := fun c hc => by rw [atB_iff] at hc; omega
theorem kid_cell {w W : World} {b' o' c2 m : Nat} {L : List Int} {x : Nd} {bs : List Nat} {fm : Nat} (h : IntsAt w (some ⟨b', o', none⟩) L) (hm1 : L[0]? = some (m : Int)) (hg : w.grownBy W (some fm)) (hm : MemoAt askV okA (goodM x bs) w fm) : W.cell? ⟨b', o', none⟩ = some (.int .i64 (m : Int)) := by
 obtain ⟨b2, o2, e, hc⟩ := ints_grown h hg hm 0 _ hm1
 cases e
 exact hc
theorem look_star {x z y : Nd} {bs : List Nat} (hk : z.kind = 6) (hy : z.kids.list = [y]) (hK : EndsC x bs y) : LookC x bs z := by
 intro base gm b cp fm cv V w hM k i B A n1 c1 c2 hkb hi hints hc2
 have hn : z.kids.len = 1 := by rw [← Trees.len_list, hy]; rfl
 rw [hk, hn]
 rw [hn] at hc2
 obtain ⟨m, hm1, hm2⟩ := hkb.kid (i := 0) (y := y) (by rw [hy]; rfl)
 obtain ⟨b', o', rfl, hkc⟩ := hints 0 _ hm1
 rw [Nat.add_zero] at hkc
 have HM2 := Lib.hid hm2
 have HM1 := Lib.hid hm1
 clear hm1 hm2
 obtain ⟨W0, hW0⟩ : ∃ W0, ((w.alloc (.cells #[.int .i64 (6), .int .u64 (word z.set.testBit 0), .int .u64 (word z.set.testBit 1), .int .u64 (word z.set.testBit 2), .int .u64 (word z.set.testBit 3), .slice B n1 c1, .int .i64 z.lo, .int .i64 z.hi, .slice (some ⟨b', o', none⟩) (1) c2] 172)).alloc (.cells #[.int .u64 0, .int .u64 0, .int .u64 0, .int .u64 0, .int .u64 0] 69)).alloc (.cells #[.int .u64 0, .int .u64 0, .int .u64 0, .int .u64 0, .int .u64 0] 69) = W0 := ⟨_, rfl⟩
 have HM := Lib.hid hM
 have hlen := hM.len
 have H0 := Lib.hid (look_made hM hW0)
 obtain ⟨k0, k1, k2, k3, k4, k5, k6, k7, k8⟩ : _ ∧ _ ∧ _ ∧ _ ∧ _ ∧ _ ∧ _ ∧ _ ∧ _ := ⟨H0.out.bx.cell 0, H0.out.bx.cell 1, H0.out.bx.cell 2, H0.out.bx.cell 3, H0.out.bx.cell 4, H0.out.bx.cell 5, H0.out.bx.cell 6, H0.out.bx.cell 7, H0.out.bx.cell 8⟩
 simp only [List.getElem?_toArray, List.getElem?_cons_zero, List.getElem?_cons_succ] at k0 k1 k2 k3 k4 k5 k6 k7 k8
 obtain ⟨p0, p1, p2, p3, p4⟩ := H0.out.bp.c5w
 simp only [word_none] at p0 p1 p2 p3 p4
 have HKB := Lib.hid hkb
 have HIN := Lib.hid hints
 have lx := H0.out.bx.lt
 have lp := H0.out.bp.lt
 have lr := H0.out.br.lt
 clear hM hkb hints
 go_enter Tryz.func155, Tryz.ntmps155
 have HK := Lib.hid (eachC_of hK)
 clear hK
 go_wp2_with fail
 refine (pput_go (w.heap.size + 2) (fun _ => false) i (by omega) W0 H0.out.bp).mono ?_
 rintro _ W1 ⟨rfl, hb1, hg1⟩
 have H1 := Lib.hid (H0.out.put HM.out hg1 (show Blk W1 (w.heap.size + 2) _ #[.int .u64 (word (atB i) 0), .int .u64 (word (atB i) 1), .int .u64 (word (atB i) 2), .int .u64 (word (atB i) 3), .int .u64 (word (atB i) 4)] from hb1))
 clear hb1 hg1 p0 p1 p2 p3 p4 H0 hW0 k0 k1 k2 k3 k4 k5 k6 k7 k8
 have k8 := H1.out.bx.cell 8
 simp only [List.getElem?_toArray, List.getElem?_cons_zero, List.getElem?_cons_succ] at k8
 have HD := Lib.hid H1.out.drew
 obtain ⟨p0, p1, p2, p3, p4⟩ := H1.out.bp.c5w
 have kc := kid_cell (c2 := 0) HIN.out HM1.out H1.out.mw.grown HM.out.memo
 have lx1 := H1.out.bx.lt
 have HA := Lib.hid (again_go HK.out W1.drew HD.out.mw.mat m (atB i) HM2.out (at_len hi))
 have hd1 : (0 : Int) < (c2 : Int) := by omega
 dsimp only
 go_wp2
 go_region_with (go_at_call 188; refine HA.out.mono ?_; rintro _ W2 ⟨rfl, hm2, hg2⟩; have H2 := Lib.hid (HD.out.call hm2 hg2); clear hm2 hg2; obtain ⟨r0, r1, r2, r3, r4⟩ := H2.out.br.c5w; obtain ⟨f0, f1, f2, f3, f4⟩ := H2.out.br.f5w; have lr2 := H2.out.br.lt)
 all_goals go_wp2
 all_goals obtain ⟨e1, e2⟩ := look_done HM.out H2.out (imgB (starR (y.rel bs)) (atB i)) (by unfold endsB; rw [rel_kid6 hk hy])
 all_goals exact bodyPost_ret (ret_pl Tryz.results155 rfl e1) rfl e2
theorem look_opt {x z y : Nd} {bs : List Nat} (hk : z.kind = 8) (hy : z.kids.list = [y]) (hK : EndsC x bs y) : LookC x bs z := by
 intro base gm b cp fm cv V w hM k i B A n1 c1 c2 hkb hi hints hc2
 have hn : z.kids.len = 1 := by rw [← Trees.len_list, hy]; rfl
 rw [hk, hn]
 rw [hn] at hc2
 obtain ⟨m, hm1, hm2⟩ := hkb.kid (i := 0) (y := y) (by rw [hy]; rfl)
 obtain ⟨b', o', rfl, hkc⟩ := hints 0 _ hm1
 rw [Nat.add_zero] at hkc
 have HM2 := Lib.hid hm2
 have HM1 := Lib.hid hm1
 clear hm1 hm2
 obtain ⟨W0, hW0⟩ : ∃ W0, ((w.alloc (.cells #[.int .i64 (8), .int .u64 (word z.set.testBit 0), .int .u64 (word z.set.testBit 1), .int .u64 (word z.set.testBit 2), .int .u64 (word z.set.testBit 3), .slice B n1 c1, .int .i64 z.lo, .int .i64 z.hi, .slice (some ⟨b', o', none⟩) (1) c2] 172)).alloc (.cells #[.int .u64 0, .int .u64 0, .int .u64 0, .int .u64 0, .int .u64 0] 69)).alloc (.cells #[.int .u64 0, .int .u64 0, .int .u64 0, .int .u64 0, .int .u64 0] 69) = W0 := ⟨_, rfl⟩
 have HM := Lib.hid hM
 have hlen := hM.len
 have H0 := Lib.hid (look_made hM hW0)
 obtain ⟨k0, k1, k2, k3, k4, k5, k6, k7, k8⟩ : _ ∧ _ ∧ _ ∧ _ ∧ _ ∧ _ ∧ _ ∧ _ ∧ _ := ⟨H0.out.bx.cell 0, H0.out.bx.cell 1, H0.out.bx.cell 2, H0.out.bx.cell 3, H0.out.bx.cell 4, H0.out.bx.cell 5, H0.out.bx.cell 6, H0.out.bx.cell 7, H0.out.bx.cell 8⟩
 simp only [List.getElem?_toArray, List.getElem?_cons_zero, List.getElem?_cons_succ] at k0 k1 k2 k3 k4 k5 k6 k7 k8
 obtain ⟨p0, p1, p2, p3, p4⟩ := H0.out.bp.c5w
 simp only [word_none] at p0 p1 p2 p3 p4
 have HKB := Lib.hid hkb
 have HIN := Lib.hid hints
 have lx := H0.out.bx.lt
 have lp := H0.out.bp.lt
 have lr := H0.out.br.lt
 clear hM hkb hints
 go_enter Tryz.func155, Tryz.ntmps155
 have HK := Lib.hid hK
 clear hK
 go_wp2_with fail
 refine (pput_go (w.heap.size + 2) (fun _ => false) i (by omega) W0 H0.out.bp).mono ?_
 rintro _ W1 ⟨rfl, hb1, hg1⟩
 have H1 := Lib.hid (H0.out.put HM.out hg1 (show Blk W1 (w.heap.size + 2) _ #[.int .u64 (word (atB i) 0), .int .u64 (word (atB i) 1), .int .u64 (word (atB i) 2), .int .u64 (word (atB i) 3), .int .u64 (word (atB i) 4)] from hb1))
 clear hb1 hg1 p0 p1 p2 p3 p4 H0 hW0 k0 k1 k2 k3 k4 k5 k6 k7 k8
 have k8 := H1.out.bx.cell 8
 simp only [List.getElem?_toArray, List.getElem?_cons_zero, List.getElem?_cons_succ] at k8
 have HD := Lib.hid H1.out.drew
 obtain ⟨p0, p1, p2, p3, p4⟩ := H1.out.bp.c5w
 have kc := kid_cell (c2 := 0) HIN.out HM1.out H1.out.mw.grown HM.out.memo
 have lx1 := H1.out.bx.lt
 have HC := Lib.hid (HK.out base gm b cp fm cv V W1.drew HD.out.mw.mat m i HM2.out hi)
 have HO := Lib.hid (show endsB z bs i = (fun c => atB i c || endsB y bs i c) from setB_ext fun c => by
  rw [endsB_iff, rel_kid8 hk hy, Bool.or_eq_true, atB_iff, endsB_iff]
  exact ⟨fun h => h.imp (fun e => (show i = c from e).symm) id, fun h => h.imp (fun e => (show i = c from e.symm)) id⟩)
 have hd1 : (0 : Int) < (c2 : Int) := by omega
 dsimp only
 go_wp2
 go_region_with (first
  | (go_at_call 112; refine HC.out.mono ?_; rintro _ w4 ⟨rfl, hm4, hg4⟩; have H4 := Lib.hid (HD.out.call hm4 hg4); clear hm4 hg4; obtain ⟨p0, p1, p2, p3, p4⟩ := H4.out.bp.c5w; have lp4 := H4.out.bp.lt)
  | (go_at_call 187; refine (pwith_go _ _ _).mono ?_; rintro _ W2 ⟨rfl, hb5⟩; have H2 := Lib.hid (H4.out.below hb5); clear hb5; obtain ⟨r0, r1, r2, r3, r4⟩ := H2.out.br.c5w; obtain ⟨f0, f1, f2, f3, f4⟩ := H2.out.br.f5w; have lr2 := H2.out.br.lt))
 all_goals go_wp2
 all_goals obtain ⟨e1, e2⟩ := look_done HM.out H2.out (fun c => atB i c || endsB y bs i c) HO.out
 all_goals exact bodyPost_ret (ret_pl Tryz.results155 rfl e1) rfl e2
theorem look_plus {x z y : Nd} {bs : List Nat} (hk : z.kind = 7) (hy : z.kids.list = [y]) (hK : EndsC x bs y) : LookC x bs z := by
 intro base gm b cp fm cv V w hM k i B A n1 c1 c2 hkb hi hints hc2
 have hn : z.kids.len = 1 := by rw [← Trees.len_list, hy]; rfl
 rw [hk, hn]
 rw [hn] at hc2
 obtain ⟨m, hm1, hm2⟩ := hkb.kid (i := 0) (y := y) (by rw [hy]; rfl)
 obtain ⟨b', o', rfl, hkc⟩ := hints 0 _ hm1
 rw [Nat.add_zero] at hkc
 have HM2 := Lib.hid hm2
 have HM1 := Lib.hid hm1
 clear hm1 hm2
 obtain ⟨W0, hW0⟩ : ∃ W0, ((w.alloc (.cells #[.int .i64 (7), .int .u64 (word z.set.testBit 0), .int .u64 (word z.set.testBit 1), .int .u64 (word z.set.testBit 2), .int .u64 (word z.set.testBit 3), .slice B n1 c1, .int .i64 z.lo, .int .i64 z.hi, .slice (some ⟨b', o', none⟩) (1) c2] 172)).alloc (.cells #[.int .u64 0, .int .u64 0, .int .u64 0, .int .u64 0, .int .u64 0] 69)).alloc (.cells #[.int .u64 0, .int .u64 0, .int .u64 0, .int .u64 0, .int .u64 0] 69) = W0 := ⟨_, rfl⟩
 have HM := Lib.hid hM
 have hlen := hM.len
 have H0 := Lib.hid (look_made hM hW0)
 obtain ⟨k0, k1, k2, k3, k4, k5, k6, k7, k8⟩ : _ ∧ _ ∧ _ ∧ _ ∧ _ ∧ _ ∧ _ ∧ _ ∧ _ := ⟨H0.out.bx.cell 0, H0.out.bx.cell 1, H0.out.bx.cell 2, H0.out.bx.cell 3, H0.out.bx.cell 4, H0.out.bx.cell 5, H0.out.bx.cell 6, H0.out.bx.cell 7, H0.out.bx.cell 8⟩
 simp only [List.getElem?_toArray, List.getElem?_cons_zero, List.getElem?_cons_succ] at k0 k1 k2 k3 k4 k5 k6 k7 k8
 obtain ⟨p0, p1, p2, p3, p4⟩ := H0.out.bp.c5w
 simp only [word_none] at p0 p1 p2 p3 p4
 have HKB := Lib.hid hkb
 have HIN := Lib.hid hints
 have lx := H0.out.bx.lt
 have lp := H0.out.bp.lt
 have lr := H0.out.br.lt
 clear hM hkb hints
 go_enter Tryz.func155, Tryz.ntmps155
 have HK := Lib.hid (eachC_of hK)
 have HD := Lib.hid H0.out.drew
 have kc := kid_cell (c2 := 0) HIN.out HM1.out H0.out.mw.grown HM.out.memo
 have HC := Lib.hid (hK base gm b cp fm cv V W0.drew HD.out.mw.mat m i HM2.out hi)
 have HL := Lib.hid (show ∀ c, endsB y bs i c = true → c ≤ bs.length from fun c hc => rel_len y bs hi (endsB_iff.1 hc))
 have hd1 : (0 : Int) < (c2 : Int) := by omega
 clear hK hkc
 go_wp2
 clear hW0
 go_region_with (first
  | (go_at_call 112; refine HC.out.mono ?_; rintro _ w4 ⟨rfl, hm4, hg4⟩; have H4 := Lib.hid (HD.out.call hm4 hg4); clear hm4 hg4; have k8 := H4.out.bx.cell 8; simp only [List.getElem?_toArray, List.getElem?_cons_zero, List.getElem?_cons_succ] at k8; have kc := kid_cell (c2 := 0) HIN.out HM1.out H4.out.mw.grown HM.out.memo; have lx4 := H4.out.bx.lt)
  | (go_at_call 188; refine (again_go HK.out w4 H4.out.mw.mat m (endsB y bs i) HM2.out HL.out).mono ?_; rintro _ W2 ⟨rfl, hm2, hg2⟩; have H2 := Lib.hid (H4.out.call hm2 hg2); clear hm2 hg2; obtain ⟨r0, r1, r2, r3, r4⟩ := H2.out.br.c5w; obtain ⟨f0, f1, f2, f3, f4⟩ := H2.out.br.f5w; have lr2 := H2.out.br.lt))
 all_goals go_wp2
 all_goals obtain ⟨e1, e2⟩ := look_done HM.out H2.out (imgB (starR (y.rel bs)) (endsB y bs i)) (by unfold endsB; rw [rel_kid7 hk hy, imgB_comp]; rfl)
 all_goals exact bodyPost_ret (ret_pl Tryz.results155 rfl e1) rfl e2
theorem look_rep {x z y : Nd} {bs : List Nat} (hk : z.kind = 9) (hy : z.kids.list = [y]) (hK : EndsC x bs y) (lo : Nat) (hlo : z.lo = (lo : Int)) (h1 : lo ≤ 1000) (h2 : -1 ≤ z.hi) (h3 : z.hi ≤ 1000) (h4 : z.hi = -1 ∨ z.lo ≤ z.hi) : LookC x bs z := by
 have HLO := Lib.hid hlo
 have HNS := Lib.hid (show z.hi ≤ 1000000 ∧ (z.hi < 0 ∨ (lo : Int) ≤ z.hi) ∧ -9000000000000000000 ≤ z.hi from by omega)
 clear hlo h2 h3 h4
 intro base gm b cp fm cv V w hM k i B A n1 c1 c2 hkb hi hints hc2
 have hn : z.kids.len = 1 := by rw [← Trees.len_list, hy]; rfl
 rw [hk, hn]
 rw [hn] at hc2
 obtain ⟨m, hm1, hm2⟩ := hkb.kid (i := 0) (y := y) (by rw [hy]; rfl)
 obtain ⟨b', o', rfl, hkc⟩ := hints 0 _ hm1
 rw [Nat.add_zero] at hkc
 have HM2 := Lib.hid hm2
 have HM1 := Lib.hid hm1
 clear hm1 hm2
 obtain ⟨W0, hW0⟩ : ∃ W0, ((w.alloc (.cells #[.int .i64 (9), .int .u64 (word z.set.testBit 0), .int .u64 (word z.set.testBit 1), .int .u64 (word z.set.testBit 2), .int .u64 (word z.set.testBit 3), .slice B n1 c1, .int .i64 z.lo, .int .i64 z.hi, .slice (some ⟨b', o', none⟩) (1) c2] 172)).alloc (.cells #[.int .u64 0, .int .u64 0, .int .u64 0, .int .u64 0, .int .u64 0] 69)).alloc (.cells #[.int .u64 0, .int .u64 0, .int .u64 0, .int .u64 0, .int .u64 0] 69) = W0 := ⟨_, rfl⟩
 have HM := Lib.hid hM
 have hlen := hM.len
 have H0 := Lib.hid (look_made hM hW0)
 obtain ⟨k0, k1, k2, k3, k4, k5, k6, k7, k8⟩ : _ ∧ _ ∧ _ ∧ _ ∧ _ ∧ _ ∧ _ ∧ _ ∧ _ := ⟨H0.out.bx.cell 0, H0.out.bx.cell 1, H0.out.bx.cell 2, H0.out.bx.cell 3, H0.out.bx.cell 4, H0.out.bx.cell 5, H0.out.bx.cell 6, H0.out.bx.cell 7, H0.out.bx.cell 8⟩
 simp only [List.getElem?_toArray, List.getElem?_cons_zero, List.getElem?_cons_succ] at k0 k1 k2 k3 k4 k5 k6 k7 k8
 obtain ⟨p0, p1, p2, p3, p4⟩ := H0.out.bp.c5w
 simp only [word_none] at p0 p1 p2 p3 p4
 have HKB := Lib.hid hkb
 have HIN := Lib.hid hints
 have lx := H0.out.bx.lt
 have lp := H0.out.bp.lt
 have lr := H0.out.br.lt
 clear hM hkb hints
 go_enter Tryz.func155, Tryz.ntmps155
 have HK := Lib.hid (eachC_of hK)
 clear hK
 go_wp2_with fail
 refine (pput_go (w.heap.size + 2) (fun _ => false) i (by omega) W0 H0.out.bp).mono ?_
 rintro _ W1 ⟨rfl, hb1, hg1⟩
 have H1 := Lib.hid (H0.out.put HM.out hg1 (show Blk W1 (w.heap.size + 2) _ #[.int .u64 (word (atB i) 0), .int .u64 (word (atB i) 1), .int .u64 (word (atB i) 2), .int .u64 (word (atB i) 3), .int .u64 (word (atB i) 4)] from hb1))
 clear hb1 hg1 p0 p1 p2 p3 p4 H0 hW0 k0 k1 k2 k3 k4 k5 k6 k7 k8
 have k6 := H1.out.bx.cell 6
 have k7 := H1.out.bx.cell 7
 have k8 := H1.out.bx.cell 8
 simp only [List.getElem?_toArray, List.getElem?_cons_zero, List.getElem?_cons_succ] at k6 k7 k8
 have HD := Lib.hid H1.out.drew
 obtain ⟨p0, p1, p2, p3, p4⟩ := H1.out.bp.c5w
 have kc := kid_cell (c2 := 0) HIN.out HM1.out H1.out.mw.grown HM.out.memo
 have lx1 := H1.out.bx.lt
 have HA := Lib.hid (times11_go HK.out W1.drew HD.out.mw.mat m (atB i) lo z.hi (by omega) HNS.out.1 HNS.out.2.1 HNS.out.2.2 HM2.out (at_len hi))
 rw [← HLO.out] at HA
 have hd1 : (0 : Int) < (c2 : Int) := by omega
 clear h1
 dsimp only
 go_wp2
 go_still_tail 12, (by kernel_rfl)
 change wpList _ _ _ _ _ W1.drew
 clear p0 p1 p2 p3 p4 k6 k7 k8 kc
 go_wp2_with fail
 refine HA.out.mono ?_
 rintro _ W2 ⟨rfl, hm2, hg2⟩
 have H2 := Lib.hid (HD.out.call hm2 hg2)
 clear hm2 hg2
 obtain ⟨r0, r1, r2, r3, r4⟩ := H2.out.br.c5w
 obtain ⟨f0, f1, f2, f3, f4⟩ := H2.out.br.f5w
 have lr2 := H2.out.br.lt
 dsimp only
 go_wp2
 obtain ⟨e1, e2⟩ := look_done HM.out H2.out (imgB (repR z.lo z.hi (y.rel bs)) (atB i)) (by unfold endsB; rw [rel_kid9 hk hy])
 exact bodyPost_ret (ret_pl Tryz.results155 rfl e1) rfl e2
end
section
open Go.RowKit Go.Maps
theorem only_kid {F : Trees} (h : F.len = 1) : ∃ y, F.list = [y] := by
 rw [← Trees.len_list] at h
 match hF : F.list, h with
 | [y], _ => exact ⟨y, rfl⟩
theorem kid_size {z y : Nd} (h : y ∈ z.kids.list) : y.size + 1 ≤ z.size := by
 obtain ⟨i, hi⟩ := List.mem_iff_getElem?.1 h
 have := Trees.size_get z.kids i y hi
 unfold Nd.size at this ⊢
 omega
theorem kid_okays {z y : Nd} (h : y ∈ z.kids.list) (ho : ∀ u ∈ z.nodes, aloneN u = true) : ∀ u ∈ y.nodes, aloneN u = true := fun u hu => by
 obtain ⟨i, hi⟩ := List.mem_iff_getElem?.1 h
 refine ho u ?_
 simp only [Nd.nodes, List.mem_cons]
 exact .inr (nodes_kid hi u hu)
theorem ends_all {x : Nd} {bs : List Nat} : ∀ (n : Nat) (z : Nd), z.size ≤ n → n ≤ 1000000 → (∀ u ∈ z.nodes, aloneN u = true) → EndsC x bs z
 | 0, z, h, _, _ => by unfold Nd.size at h; omega
 | n + 1, z, h, hn, ho => by
  have hK : ∀ y ∈ z.kids.list, EndsC x bs y := fun y hy => ends_all n y (by have := kid_size hy; omega) (by omega) (kid_okays hy ho)
  have hl : z.kids.len ≤ 1000000 := by have := Trees.len_size z.kids; unfold Nd.size at h; omega
  refine ends_of ?_
  obtain ⟨a1, a9, a0, ak1, ak9⟩ := aloneN_kids (ho z (self_nodes z))
  by_cases k1 : z.kind = 1
  ·exact look_nothing k1
  by_cases k2 : z.kind = 2
  ·exact look_empty k2
  by_cases k3 : z.kind = 3
  ·exact look_set k3
  by_cases k4 : z.kind = 4
  ·exact look_cat k4 hl hK
  by_cases k5 : z.kind = 5
  ·exact look_alt k5 hl hK
  obtain ⟨y, hy⟩ := only_kid (a1 (by omega) (by omega))
  have hY := hK y (by rw [hy]; simp)
  by_cases k6 : z.kind = 6
  ·exact look_star k6 hy hY
  by_cases k7 : z.kind = 7
  ·exact look_plus k7 hy hY
  by_cases k8 : z.kind = 8
  ·exact look_opt k8 hy hY
  have k9 : z.kind = 9 := by omega
  obtain ⟨b1, b2⟩ := a9 k9
  obtain ⟨c1, c2, c3, c4⟩ := numsOk_of (ho z (self_nodes z)) k9
  exact look_rep k9 hy hY z.lo.toNat (by omega) (by omega) c3 c4 b2
def errF (x : Nd) (bs : List Nat) (i : Int) : Int := if rightT x = false then 6 else if 256 < bs.length then 4 else if i < 0 ∨ (bs.length : Int) < i then 1 else 0
noncomputable def findB (x : Nd) (bs : List Nat) (i : Int) : Nat → Bool := if errF x bs i = 0 then endsB x bs i.toNat else fun _ => false
theorem errF_zero {x : Nd} {bs : List Nat} {i : Int} (h : errF x bs i = 0) : rightT x = true ∧ bs.length ≤ 256 ∧ 0 ≤ i ∧ i ≤ (bs.length : Int) := by
 unfold errF at h
 split at h
 ·omega
 split at h
 ·omega
 split at h
 ·omega
 ·rename_i h1 h2 h3
  exact ⟨by simpa using h1, by omega, by omega, by omega⟩
theorem findB_no {x : Nd} {bs : List Nat} {i : Int} (h : errF x bs i ≠ 0) : findB x bs i = fun _ => false := by unfold findB; rw [if_neg h]
theorem findB_yes {x : Nd} {bs : List Nat} {i : Int} (h : errF x bs i = 0) : findB x bs i = endsB x bs i.toNat := by unfold findB; rw [if_pos h]
theorem ret_find {fn : Func} {t2 t3 : Tmp} (h : fn.results = #[.cell t2 69, .tmp t3]) {tmps : Array Value} {w : World} {g : Nat} {a0 a1 a2 a3 a4 c : Value}
  (hp : tmps.getD t2 undef = .pointer (some ⟨g, 0, none⟩)) (hc : tmps.getD t3 undef = c) (hb : Blk w g 69 #[a0, a1, a2, a3, a4]) :
  (results fn tmps).run Tryz.prog w = .ok (.tuple #[.agg #[a0, a1, a2, a3, a4], c]) w := by
 have h1 := run_loadVar_row (P := Tryz.prog) w g 69 69 #[a0, a1, a2, a3, a4] (0, 0) _ hb Tryz.underlying69 rfl (by kernel_rfl)
 simp only [results, h]
 simp only [Array.getD_eq_getD_getElem?] at hp hc
 simp [Sem.run_bind, hp, hc, asAddr, h1, Result.andThen]
theorem mat_made {x : Nd} {bs : List Nat} {base gm b cp cv : Nat} {V : Option Addr} {w3 : World} {xs : List Value} {Q : Nat → Prop}
  (hbox : Blk w3 gm 132 #[.slice (some ⟨b, 0, none⟩) x.size cp, .slice V bs.length cv, .map (some base)]) (hrow : w3.ownsRow base 172 9 (.slice (some ⟨b, 0, none⟩) x.size cp) x.size xs) (hp : PartsL w3 base Q 0 x.nodes xs)
  (hV : BytesAt w3 base V bs) (hl : bs.length ≤ 256) (hm : MemoAt askV okA (goodM x bs) w3 base) (hT : TabAt 0 Lib.deBruijn64tab w3) (hg : 0 < base) (hs : x.size ≤ 1000000) :
  MatAt w3 x bs base gm b cp base V cv := by
 refine ⟨hbox, fun k z hz => ?_, ?_, hV, hl, hm, hT, hg, Nat.le_refl _, hs⟩
 ·obtain ⟨B, n1, c1, A, c2, h1, h2⟩ := hp.get hz
  have hk : k < x.size := by rw [← Nd.nodes_len]; exact (List.getElem?_eq_some_iff.1 hz).1
  have hc : ∀ j u, j < 9 → (pcell z B n1 c1 A z.kids.len c2)[j]? = some u → w3.cell? ⟨b, k * 9 + j, none⟩ = some u := fun j u hj hu => by
   rw [hrow.cellAt _ (by omega)]
   exact h1 j u hu
  obtain ⟨A', c', e, hle⟩ := row_form h2
  cases e
  have hlen : z.kids.len = (kidNums (0 + k + 1) z.kids.list).length := by rw [kidNums_len, Trees.len_list]
  refine ⟨B, A, n1, c1, c2, hc 0 _ (by omega) rfl, hc 1 _ (by omega) rfl, hc 2 _ (by omega) rfl, hc 3 _ (by omega) rfl, hc 4 _ (by omega) rfl, hc 5 _ (by omega) rfl, hc 6 _ (by omega) rfl, hc 7 _ (by omega) rfl, hc 8 _ (by omega) rfl, ?_, hle⟩
  rw [hlen, Nat.zero_add] at h2
  exact own_intsC h2
 ·obtain ⟨A, c, e, h⟩ := row_form hrow
  cases e
  exact h
theorem right_okays {x : Nd} (h : rightT x = true) : ∀ y ∈ x.nodes, aloneN y = true := by
 unfold rightT at h
 rw [Bool.and_eq_true, List.all_eq_true] at h
 exact h.2
theorem right_small {x : Nd} (h : rightT x = true) : x.size ≤ 4096 := by
 unfold rightT at h
 rw [Bool.and_eq_true, decide_eq_true_eq, Nd.nodes_len] at h
 exact h.1
theorem root_below (x : Nd) : Below1 x.nodes 0 x := fun j u h => by rw [Nat.zero_add]; exact h
theorem find_kind (x : Nd) (B : Option Addr) (cap : Nat) (V : Option Addr) (cv : Nat) (i : Int) (bs : List Nat) (w : World) (hsz : x.size ≤ 4611686018427387903) (hcap : x.kids.len ≤ cap) (ht : TreesAt w (fun b => b < w.heap.size) x.kids B) (hV : BytesAt w w.heap.size V bs) (hT : TabAt 0 Lib.deBruijn64tab w) (hg : 0 < w.heap.size) (hr : rightT x = false) : Calls Tryz.prog 56 #[ndV x B cap, .slice V bs.length cv, .int .i64 i] w fun e w' => e = .returned (.tuple #[.agg #[.int .u64 (word (findB x bs i) 0), .int .u64 (word (findB x bs i) 1), .int .u64 (word (findB x bs i) 2), .int .u64 (word (findB x bs i) 3), .int .u64 (word (findB x bs i) 4)], .int .i64 (errF x bs i)]) ∧ Below w.heap.size w w' := by
 have HF := Lib.hid (show errF x bs i = 6 ∧ True from ⟨by unfold errF; rw [if_pos hr], trivial⟩)
 obtain ⟨W0, hW0⟩ : ∃ W0, (w.alloc (.cells (ndA x B cap) 28)).alloc (.cells #[.int .u64 0, .int .u64 0, .int .u64 0, .int .u64 0, .int .u64 0] 69) = W0 := ⟨_, rfl⟩
 have hal : Below w.heap.size w W0 := by rw [← hW0]; exact ((Below.refl _ _).alloc (Nat.le_refl _) _).alloc (by simp) _
 have hX : Blk W0 w.heap.size 28 (ndA x B cap) := by rw [← hW0]; exact (Blk.new w _ _).alloc _
 have hR : Blk W0 (w.heap.size + 1) 69 #[.int .u64 0, .int .u64 0, .int .u64 0, .int .u64 0, .int .u64 0] := by rw [← hW0]; exact Blk.new_at (by simp)
 have HC := Lib.hid (tright_any x B cap W0 hsz ((ht.below hal).weak (fun b h _ => Nat.lt_of_lt_of_le h hal.size)))
 have HX := Lib.hid hX
 have HR := Lib.hid hR
 have HAL := Lib.hid hal
 obtain ⟨x0, x1, x2, x3, x4, x5, x6, x7⟩ : _ ∧ _ ∧ _ ∧ _ ∧ _ ∧ _ ∧ _ ∧ _ := ⟨hX.cell 0, hX.cell 1, hX.cell 2, hX.cell 3, hX.cell 4, hX.cell 5, hX.cell 6, hX.cell 7⟩
 have lx := hX.lt
 unfold ndA at x0 x1 x2 x3 x4 x5 x6 x7 hW0
 simp only [List.getElem?_toArray, List.getElem?_cons_zero, List.getElem?_cons_succ] at x0 x1 x2 x3 x4 x5 x6 x7
 unfold ndV at HC ⊢
 rw [hr] at HC
 clear hr
 clear ht hV hT hX hR hal
 go_enter Tryz.func56, Tryz.ntmps56
 go_wp2_with fail
 refine HC.out.mono ?_
 rintro _ w1 ⟨rfl, hb1⟩
 have hR1 := HR.out.below hb1 HR.out.lt
 have HX1 := Lib.hid (HX.out.below hb1 HX.out.lt)
 have HB1 := Lib.hid (HAL.out.trans (hb1.mono HAL.out.size))
 have HR1 := Lib.hid hR1
 obtain ⟨r0, r1, r2, r3, r4⟩ := hR1.c5w
 obtain ⟨f0, f1, f2, f3, f4⟩ := hR1.f5w
 have lr := hR1.lt
 clear hb1 hR1 HC HX HR HAL x0 x1 x2 x3 x4 x5 x6 x7 lx hW0
 dsimp only
 go_wp2
 have h5 := HR1.out.put5 (fun _ => false)
 have hs5 := stow_none w1 (w.heap.size + 1)
 have hb5 : Below w.heap.size w (stow5 w1 (w.heap.size + 1) (fun _ => false)) := HB1.out.grown (grown5 _ _ _) HB1.out.size (fun k e => by cases e; omega)
 rw [hs5] at h5 hb5
 simp only [word_none] at h5
 exact bodyPost_ret (ret_find Tryz.results56 rfl rfl h5) rfl ⟨by rw [HF.out.1, findB_no (by rw [HF.out.1]; decide)]; simp only [word_none]; rfl, hb5⟩
theorem find_long (x : Nd) (B : Option Addr) (cap : Nat) (V : Option Addr) (cv : Nat) (i : Int) (bs : List Nat) (w : World) (hsz : x.size ≤ 4611686018427387903) (hcap : x.kids.len ≤ cap) (ht : TreesAt w (fun b => b < w.heap.size) x.kids B) (hV : BytesAt w w.heap.size V bs) (hT : TabAt 0 Lib.deBruijn64tab w) (hg : 0 < w.heap.size) (hr : rightT x = true) (hl : 256 < bs.length) : Calls Tryz.prog 56 #[ndV x B cap, .slice V bs.length cv, .int .i64 i] w fun e w' => e = .returned (.tuple #[.agg #[.int .u64 (word (findB x bs i) 0), .int .u64 (word (findB x bs i) 1), .int .u64 (word (findB x bs i) 2), .int .u64 (word (findB x bs i) 3), .int .u64 (word (findB x bs i) 4)], .int .i64 (errF x bs i)]) ∧ Below w.heap.size w w' := by
 have HF := Lib.hid (show errF x bs i = 4 ∧ True from ⟨by unfold errF; rw [if_neg (by rw [hr]; decide), if_pos hl], trivial⟩)
 obtain ⟨W0, hW0⟩ : ∃ W0, (w.alloc (.cells (ndA x B cap) 28)).alloc (.cells #[.int .u64 0, .int .u64 0, .int .u64 0, .int .u64 0, .int .u64 0] 69) = W0 := ⟨_, rfl⟩
 have hal : Below w.heap.size w W0 := by rw [← hW0]; exact ((Below.refl _ _).alloc (Nat.le_refl _) _).alloc (by simp) _
 have hX : Blk W0 w.heap.size 28 (ndA x B cap) := by rw [← hW0]; exact (Blk.new w _ _).alloc _
 have hR : Blk W0 (w.heap.size + 1) 69 #[.int .u64 0, .int .u64 0, .int .u64 0, .int .u64 0, .int .u64 0] := by rw [← hW0]; exact Blk.new_at (by simp)
 have HC := Lib.hid (tright_any x B cap W0 hsz ((ht.below hal).weak (fun b h _ => Nat.lt_of_lt_of_le h hal.size)))
 have HX := Lib.hid hX
 have HR := Lib.hid hR
 have HAL := Lib.hid hal
 obtain ⟨x0, x1, x2, x3, x4, x5, x6, x7⟩ : _ ∧ _ ∧ _ ∧ _ ∧ _ ∧ _ ∧ _ ∧ _ := ⟨hX.cell 0, hX.cell 1, hX.cell 2, hX.cell 3, hX.cell 4, hX.cell 5, hX.cell 6, hX.cell 7⟩
 have lx := hX.lt
 unfold ndA at x0 x1 x2 x3 x4 x5 x6 x7 hW0
 simp only [List.getElem?_toArray, List.getElem?_cons_zero, List.getElem?_cons_succ] at x0 x1 x2 x3 x4 x5 x6 x7
 unfold ndV at HC ⊢
 rw [hr] at HC
 have hd1 : (256 : Int) < (bs.length : Int) := by omega
 clear hr hl
 clear ht hV hT hX hR hal
 go_enter Tryz.func56, Tryz.ntmps56
 go_wp2_with fail
 refine HC.out.mono ?_
 rintro _ w1 ⟨rfl, hb1⟩
 have hR1 := HR.out.below hb1 HR.out.lt
 have HX1 := Lib.hid (HX.out.below hb1 HX.out.lt)
 have HB1 := Lib.hid (HAL.out.trans (hb1.mono HAL.out.size))
 have HR1 := Lib.hid hR1
 obtain ⟨r0, r1, r2, r3, r4⟩ := hR1.c5w
 obtain ⟨f0, f1, f2, f3, f4⟩ := hR1.f5w
 have lr := hR1.lt
 clear hb1 hR1 HC HX HR HAL x0 x1 x2 x3 x4 x5 x6 x7 lx hW0
 dsimp only
 go_wp2
 have h5 := HR1.out.put5 (fun _ => false)
 have hs5 := stow_none w1 (w.heap.size + 1)
 have hb5 : Below w.heap.size w (stow5 w1 (w.heap.size + 1) (fun _ => false)) := HB1.out.grown (grown5 _ _ _) HB1.out.size (fun k e => by cases e; omega)
 rw [hs5] at h5 hb5
 simp only [word_none] at h5
 exact bodyPost_ret (ret_find Tryz.results56 rfl rfl h5) rfl ⟨by rw [HF.out.1, findB_no (by rw [HF.out.1]; decide)]; simp only [word_none]; rfl, hb5⟩
theorem find_low (x : Nd) (B : Option Addr) (cap : Nat) (V : Option Addr) (cv : Nat) (i : Int) (bs : List Nat) (w : World) (hsz : x.size ≤ 4611686018427387903) (hcap : x.kids.len ≤ cap) (ht : TreesAt w (fun b => b < w.heap.size) x.kids B) (hV : BytesAt w w.heap.size V bs) (hT : TabAt 0 Lib.deBruijn64tab w) (hg : 0 < w.heap.size) (hr : rightT x = true) (hl : bs.length ≤ 256) (hi : i < 0) : Calls Tryz.prog 56 #[ndV x B cap, .slice V bs.length cv, .int .i64 i] w fun e w' => e = .returned (.tuple #[.agg #[.int .u64 (word (findB x bs i) 0), .int .u64 (word (findB x bs i) 1), .int .u64 (word (findB x bs i) 2), .int .u64 (word (findB x bs i) 3), .int .u64 (word (findB x bs i) 4)], .int .i64 (errF x bs i)]) ∧ Below w.heap.size w w' := by
 have HF := Lib.hid (show errF x bs i = 1 ∧ True from ⟨by unfold errF; rw [if_neg (by rw [hr]; decide), if_neg (by omega), if_pos (.inl hi)], trivial⟩)
 obtain ⟨W0, hW0⟩ : ∃ W0, (w.alloc (.cells (ndA x B cap) 28)).alloc (.cells #[.int .u64 0, .int .u64 0, .int .u64 0, .int .u64 0, .int .u64 0] 69) = W0 := ⟨_, rfl⟩
 have hal : Below w.heap.size w W0 := by rw [← hW0]; exact ((Below.refl _ _).alloc (Nat.le_refl _) _).alloc (by simp) _
 have hX : Blk W0 w.heap.size 28 (ndA x B cap) := by rw [← hW0]; exact (Blk.new w _ _).alloc _
 have hR : Blk W0 (w.heap.size + 1) 69 #[.int .u64 0, .int .u64 0, .int .u64 0, .int .u64 0, .int .u64 0] := by rw [← hW0]; exact Blk.new_at (by simp)
 have HC := Lib.hid (tright_any x B cap W0 hsz ((ht.below hal).weak (fun b h _ => Nat.lt_of_lt_of_le h hal.size)))
 have HX := Lib.hid hX
 have HR := Lib.hid hR
 have HAL := Lib.hid hal
 obtain ⟨x0, x1, x2, x3, x4, x5, x6, x7⟩ : _ ∧ _ ∧ _ ∧ _ ∧ _ ∧ _ ∧ _ ∧ _ := ⟨hX.cell 0, hX.cell 1, hX.cell 2, hX.cell 3, hX.cell 4, hX.cell 5, hX.cell 6, hX.cell 7⟩
 have lx := hX.lt
 unfold ndA at x0 x1 x2 x3 x4 x5 x6 x7 hW0
 simp only [List.getElem?_toArray, List.getElem?_cons_zero, List.getElem?_cons_succ] at x0 x1 x2 x3 x4 x5 x6 x7
 unfold ndV at HC ⊢
 rw [hr] at HC
 have hd1 : ¬ (256 : Int) < (bs.length : Int) := by omega
 clear hr hl
 clear ht hV hT hX hR hal
 go_enter Tryz.func56, Tryz.ntmps56
 go_wp2_with fail
 refine HC.out.mono ?_
 rintro _ w1 ⟨rfl, hb1⟩
 have hR1 := HR.out.below hb1 HR.out.lt
 have HX1 := Lib.hid (HX.out.below hb1 HX.out.lt)
 have HB1 := Lib.hid (HAL.out.trans (hb1.mono HAL.out.size))
 have HR1 := Lib.hid hR1
 obtain ⟨r0, r1, r2, r3, r4⟩ := hR1.c5w
 obtain ⟨f0, f1, f2, f3, f4⟩ := hR1.f5w
 have lr := hR1.lt
 clear hb1 hR1 HC HX HR HAL x0 x1 x2 x3 x4 x5 x6 x7 lx hW0
 dsimp only
 go_wp2
 have h5 := HR1.out.put5 (fun _ => false)
 have hs5 := stow_none w1 (w.heap.size + 1)
 have hb5 : Below w.heap.size w (stow5 w1 (w.heap.size + 1) (fun _ => false)) := HB1.out.grown (grown5 _ _ _) HB1.out.size (fun k e => by cases e; omega)
 rw [hs5] at h5 hb5
 simp only [word_none] at h5
 exact bodyPost_ret (ret_find Tryz.results56 rfl rfl h5) rfl ⟨by rw [HF.out.1, findB_no (by rw [HF.out.1]; decide)]; simp only [word_none]; rfl, hb5⟩
theorem find_high (x : Nd) (B : Option Addr) (cap : Nat) (V : Option Addr) (cv : Nat) (i : Int) (bs : List Nat) (w : World) (hsz : x.size ≤ 4611686018427387903) (hcap : x.kids.len ≤ cap) (ht : TreesAt w (fun b => b < w.heap.size) x.kids B) (hV : BytesAt w w.heap.size V bs) (hT : TabAt 0 Lib.deBruijn64tab w) (hg : 0 < w.heap.size) (hr : rightT x = true) (hl : bs.length ≤ 256) (hi : 0 ≤ i) (hi2 : (bs.length : Int) < i) : Calls Tryz.prog 56 #[ndV x B cap, .slice V bs.length cv, .int .i64 i] w fun e w' => e = .returned (.tuple #[.agg #[.int .u64 (word (findB x bs i) 0), .int .u64 (word (findB x bs i) 1), .int .u64 (word (findB x bs i) 2), .int .u64 (word (findB x bs i) 3), .int .u64 (word (findB x bs i) 4)], .int .i64 (errF x bs i)]) ∧ Below w.heap.size w w' := by
 have HF := Lib.hid (show errF x bs i = 1 ∧ True from ⟨by unfold errF; rw [if_neg (by rw [hr]; decide), if_neg (by omega), if_pos (.inr hi2)], trivial⟩)
 obtain ⟨W0, hW0⟩ : ∃ W0, (w.alloc (.cells (ndA x B cap) 28)).alloc (.cells #[.int .u64 0, .int .u64 0, .int .u64 0, .int .u64 0, .int .u64 0] 69) = W0 := ⟨_, rfl⟩
 have hal : Below w.heap.size w W0 := by rw [← hW0]; exact ((Below.refl _ _).alloc (Nat.le_refl _) _).alloc (by simp) _
 have hX : Blk W0 w.heap.size 28 (ndA x B cap) := by rw [← hW0]; exact (Blk.new w _ _).alloc _
 have hR : Blk W0 (w.heap.size + 1) 69 #[.int .u64 0, .int .u64 0, .int .u64 0, .int .u64 0, .int .u64 0] := by rw [← hW0]; exact Blk.new_at (by simp)
 have HC := Lib.hid (tright_any x B cap W0 hsz ((ht.below hal).weak (fun b h _ => Nat.lt_of_lt_of_le h hal.size)))
 have HX := Lib.hid hX
 have HR := Lib.hid hR
 have HAL := Lib.hid hal
 obtain ⟨x0, x1, x2, x3, x4, x5, x6, x7⟩ : _ ∧ _ ∧ _ ∧ _ ∧ _ ∧ _ ∧ _ ∧ _ := ⟨hX.cell 0, hX.cell 1, hX.cell 2, hX.cell 3, hX.cell 4, hX.cell 5, hX.cell 6, hX.cell 7⟩
 have lx := hX.lt
 unfold ndA at x0 x1 x2 x3 x4 x5 x6 x7 hW0
 simp only [List.getElem?_toArray, List.getElem?_cons_zero, List.getElem?_cons_succ] at x0 x1 x2 x3 x4 x5 x6 x7
 unfold ndV at HC ⊢
 rw [hr] at HC
 have hd1 : ¬ (256 : Int) < (bs.length : Int) := by omega
 have hd2 : ¬ i < 0 := by omega
 clear hr hl hi
 clear ht hV hT hX hR hal
 go_enter Tryz.func56, Tryz.ntmps56
 go_wp2_with fail
 refine HC.out.mono ?_
 rintro _ w1 ⟨rfl, hb1⟩
 have hR1 := HR.out.below hb1 HR.out.lt
 have HX1 := Lib.hid (HX.out.below hb1 HX.out.lt)
 have HB1 := Lib.hid (HAL.out.trans (hb1.mono HAL.out.size))
 have HR1 := Lib.hid hR1
 obtain ⟨r0, r1, r2, r3, r4⟩ := hR1.c5w
 obtain ⟨f0, f1, f2, f3, f4⟩ := hR1.f5w
 have lr := hR1.lt
 clear hb1 hR1 HC HX HR HAL x0 x1 x2 x3 x4 x5 x6 x7 lx hW0
 dsimp only
 go_wp2
 have h5 := HR1.out.put5 (fun _ => false)
 have hs5 := stow_none w1 (w.heap.size + 1)
 have hb5 : Below w.heap.size w (stow5 w1 (w.heap.size + 1) (fun _ => false)) := HB1.out.grown (grown5 _ _ _) HB1.out.size (fun k e => by cases e; omega)
 rw [hs5] at h5 hb5
 simp only [word_none] at h5
 exact bodyPost_ret (ret_find Tryz.results56 rfl rfl h5) rfl ⟨by rw [HF.out.1, findB_no (by rw [HF.out.1]; decide)]; simp only [word_none]; rfl, hb5⟩
theorem find_yes (x : Nd) (B : Option Addr) (cap : Nat) (V : Option Addr) (cv : Nat) (i : Int) (bs : List Nat) (w : World) (hsz : x.size ≤ 4611686018427387903) (hcap : x.kids.len ≤ cap) (ht : TreesAt w (fun b => b < w.heap.size) x.kids B) (hV : BytesAt w w.heap.size V bs) (hT : TabAt 0 Lib.deBruijn64tab w) (hg : 0 < w.heap.size) (hr : rightT x = true) (hl : bs.length ≤ 256) (i0 : Nat) (hi : i = (i0 : Int)) (hi2 : i0 ≤ bs.length) : Calls Tryz.prog 56 #[ndV x B cap, .slice V bs.length cv, .int .i64 i] w fun e w' => e = .returned (.tuple #[.agg #[.int .u64 (word (findB x bs i) 0), .int .u64 (word (findB x bs i) 1), .int .u64 (word (findB x bs i) 2), .int .u64 (word (findB x bs i) 3), .int .u64 (word (findB x bs i) 4)], .int .i64 (errF x bs i)]) ∧ Below w.heap.size w w' := by
 have hF0 : errF x bs i = 0 := by unfold errF; rw [if_neg (by rw [hr]; decide), if_neg (by omega), if_neg (by omega)]
 have HF := Lib.hid (show errF x bs i = 0 ∧ findB x bs i = endsB x bs i0 from ⟨hF0, by rw [findB_yes hF0, hi]; rfl⟩)
 obtain ⟨W0, hW0⟩ : ∃ W0, (w.alloc (.cells (ndA x B cap) 28)).alloc (.cells #[.int .u64 0, .int .u64 0, .int .u64 0, .int .u64 0, .int .u64 0] 69) = W0 := ⟨_, rfl⟩
 have hal : Below w.heap.size w W0 := by rw [← hW0]; exact ((Below.refl _ _).alloc (Nat.le_refl _) _).alloc (by simp) _
 have hX : Blk W0 w.heap.size 28 (ndA x B cap) := by rw [← hW0]; exact (Blk.new w _ _).alloc _
 have hR : Blk W0 (w.heap.size + 1) 69 #[.int .u64 0, .int .u64 0, .int .u64 0, .int .u64 0, .int .u64 0] := by rw [← hW0]; exact Blk.new_at (by simp)
 have HC := Lib.hid (tright_any x B cap W0 hsz ((ht.below hal).weak (fun b h _ => Nat.lt_of_lt_of_le h hal.size)))
 have HX := Lib.hid hX
 have HR := Lib.hid hR
 have HAL := Lib.hid hal
 obtain ⟨x0, x1, x2, x3, x4, x5, x6, x7⟩ : _ ∧ _ ∧ _ ∧ _ ∧ _ ∧ _ ∧ _ ∧ _ := ⟨hX.cell 0, hX.cell 1, hX.cell 2, hX.cell 3, hX.cell 4, hX.cell 5, hX.cell 6, hX.cell 7⟩
 have lx := hX.lt
 unfold ndA at x0 x1 x2 x3 x4 x5 x6 x7 hW0
 simp only [List.getElem?_toArray, List.getElem?_cons_zero, List.getElem?_cons_succ] at x0 x1 x2 x3 x4 x5 x6 x7
 unfold ndV at HC ⊢
 rw [hr] at HC
 have hd1 : ¬ (256 : Int) < (bs.length : Int) := by omega
 have hd2 : ¬ (i0 : Int) < 0 := by omega
 have hd3 : ¬ (bs.length : Int) < (i0 : Int) := by omega
 have HT := Lib.hid ht
 have HV := Lib.hid hV
 have HTB := Lib.hid hT
 have HO := Lib.hid (right_okays hr)
 have HS := Lib.hid (right_small hr)
 clear ht hV hT hX hR hal hr hF0
 subst hi
 go_enter Tryz.func56, Tryz.ntmps56
 go_wp2_with fail
 refine HC.out.mono ?_
 rintro _ w1 ⟨rfl, hb1⟩
 have hR1 := HR.out.below hb1 HR.out.lt
 have HX1 := Lib.hid (HX.out.below hb1 HX.out.lt)
 have HB1 := Lib.hid (HAL.out.trans (hb1.mono HAL.out.size))
 have HR1 := Lib.hid hR1
 obtain ⟨r0, r1, r2, r3, r4⟩ := hR1.c5w
 obtain ⟨f0, f1, f2, f3, f4⟩ := hR1.f5w
 have lr := hR1.lt
 clear hb1 hR1 HC HX HR HAL x0 x1 x2 x3 x4 x5 x6 x7 lx hW0
 dsimp only
 have hmm := @run_makeMap Tryz.prog
 go_upto_region 8 with fail
 clear hmm
 have hB2 : Below w1.heap.size w1 ((w1.alloc (.map #[] 0)).alloc (.cells #[.slice none 0 0, .slice V bs.length cv, .map (some w1.heap.size)] 132)) := ((Below.refl _ _).alloc (Nat.le_refl _) _).alloc (by simp) _
 have hM2 : MemoAt askV okA (goodM x bs) ((w1.alloc (.map #[] 0)).alloc (.cells #[.slice none 0 0, .slice V bs.length cv, .map (some w1.heap.size)] 132)) w1.heap.size := (memo_made w1).stay (((Below.refl _ (w1.alloc (.map #[] 0))).alloc (Nat.le_refl _) _).block _ (by simp))
 have hG2 : Blk ((w1.alloc (.map #[] 0)).alloc (.cells #[.slice none 0 0, .slice V bs.length cv, .map (some w1.heap.size)] 132)) (w1.heap.size + 1) 132 #[.slice none 0 0, .slice V bs.length cv, .map (some w1.heap.size)] := Blk.new_at (by simp)
 have hs2 : ((w1.alloc (.map #[] 0)).alloc (.cells #[.slice none 0 0, .slice V bs.length cv, .map (some w1.heap.size)] 132)).heap.size = w1.heap.size + 2 := by simp
 generalize (w1.alloc (.map #[] 0)).alloc (.cells #[.slice none 0 0, .slice V bs.length cv, .map (some w1.heap.size)] 132) = w2 at *
 have hX2 := HX1.out.below hB2 HX1.out.lt
 have HR2 := Lib.hid (HR1.out.below hB2 HR1.out.lt)
 have HB2 := Lib.hid (HB1.out.trans (hB2.mono (by omega)))
 have hw1 := HB1.out.size
 have hlay := lay11_all x.size x (Nat.le_refl _) B cap w1.heap.size (w1.heap.size + 1) (.slice V bs.length cv) (.map (some w1.heap.size)) (.slice none 0 0) 0 [] w2 ((HT.out.below (HB2.out)).weak (fun b h _ => Nat.lt_of_lt_of_le h hw1)) hcap hG2 (World.ownsRow_nil _ _ _ _) (by omega) (by omega) (by have := HS.out; omega)
 have HL := Lib.hid hlay
 obtain ⟨x0, x1, x2, x3, x4, x5, x6, x7⟩ : _ ∧ _ ∧ _ ∧ _ ∧ _ ∧ _ ∧ _ ∧ _ := ⟨hX2.cell 0, hX2.cell 1, hX2.cell 2, hX2.cell 3, hX2.cell 4, hX2.cell 5, hX2.cell 6, hX2.cell 7⟩
 have lx := hX2.lt
 simp only [List.getElem?_toArray, List.getElem?_cons_zero, List.getElem?_cons_succ, ndA] at x0 x1 x2 x3 x4 x5 x6 x7
 unfold ndV at HL
 have HS2 := Lib.hid hs2
 have HM2 := Lib.hid hM2
 have HW1 := Lib.hid (show w.heap.size ≤ w1.heap.size ∧ w.heap.size + 1 < w1.heap.size from ⟨hw1, lr⟩)
 clear hlay hX2 hB2 hM2 hG2 hs2 r0 r1 r2 r3 r4 f0 f1 f2 f3 f4 HX1 HR1 HB1 hw1 lr
 go_wp2_with fail
 refine HL.out.mono ?_
 rintro _ w3 ⟨rfl, v3, xs, hbx, hrw, hps, hly⟩
 rw [Nat.zero_add] at hrw
 obtain ⟨b, cp, rfl, _, _⟩ := own_form hrw (by unfold Nd.size; omega)
 have hw2 : w2.heap.size = w1.heap.size + 2 := HS2.out
 have h03 : Below w.heap.size w w3 := HB2.out.trans (hly.below.mono HW1.out.1)
 have hk3 : ∀ j, j < w1.heap.size + 1 → w3.heap[j]? = w2.heap[j]? := fun j hj => hly.kept j (by omega) (by omega) (by simp [Value.ownBlock])
 have hmat := mat_made hbx hrw hps ((HV.out.below h03).more HW1.out.1) hl (HM2.out.stay (hk3 _ (by omega))) (TabAt.below h03 hg HTB.out) (by have := HW1.out.1; omega) (by have := HS.out; omega)
 have HMat := Lib.hid hmat
 have H03 := Lib.hid h03
 have HR3 := Lib.hid ((show w3.heap[w.heap.size + 1]? = _ from (hk3 _ (by have := HW1.out.2; omega)).trans HR2.out))
 have HE := Lib.hid (ends_all (x := x) (bs := bs) x.size x (Nat.le_refl _) (by have := HS.out; omega) HO.out w1.heap.size (w1.heap.size + 1) b cp w1.heap.size cv V w3 hmat 0 i0 (root_below x) hi2)
 clear hw2 h03 hk3 hmat hly hps hrw hbx HL HR2 HM2 HS2 HB2 x0 x1 x2 x3 x4 x5 x6 x7 lx
 dsimp only
 go_wp2_with fail
 refine HE.out.mono ?_
 rintro _ w4 ⟨rfl, hm4, hg4⟩
 have hR4 : Blk w4 (w.heap.size + 1) 69 #[.int .u64 0, .int .u64 0, .int .u64 0, .int .u64 0, .int .u64 0] := Blk.grown (show Blk w3 _ _ _ from HR3.out) hg4 (by have := HW1.out.2; simp; omega)
 have H04 := Lib.hid (H03.out.grown hg4 H03.out.size (fun k e => by cases e; exact HW1.out.1))
 have HR4 := Lib.hid hR4
 obtain ⟨r0, r1, r2, r3, r4⟩ := hR4.c5w
 obtain ⟨f0, f1, f2, f3, f4⟩ := hR4.f5w
 have lr := hR4.lt
 clear hm4 hg4 hR4 HE HR3 H03 HMat
 dsimp only
 go_wp2
 refine bodyPost_ret (ret_find Tryz.results56 rfl rfl (HR4.out.put5 (endsB x bs i0))) rfl ⟨by rw [HF.out.1, HF.out.2]; rfl, H04.out.grown (grown5 _ _ _) H04.out.size (fun k e => by cases e; omega)⟩
theorem find_go (x : Nd) (B : Option Addr) (cap : Nat) (V : Option Addr) (cv : Nat) (i : Int) (bs : List Nat) (w : World) (hsz : x.size ≤ 4611686018427387903) (hcap : x.kids.len ≤ cap) (ht : TreesAt w (fun b => b < w.heap.size) x.kids B) (hV : BytesAt w w.heap.size V bs) (hT : TabAt 0 Lib.deBruijn64tab w) (hg : 0 < w.heap.size) : Calls Tryz.prog 56 #[ndV x B cap, .slice V bs.length cv, .int .i64 i] w fun e w' => e = .returned (.tuple #[.agg #[.int .u64 (word (findB x bs i) 0), .int .u64 (word (findB x bs i) 1), .int .u64 (word (findB x bs i) 2), .int .u64 (word (findB x bs i) 3), .int .u64 (word (findB x bs i) 4)], .int .i64 (errF x bs i)]) ∧ Below w.heap.size w w' := by
 rcases hr : rightT x with _ | _
 ·exact find_kind x B cap V cv i bs w hsz hcap ht hV hT hg hr
 rcases Nat.lt_or_ge 256 bs.length with hl | hl
 ·exact find_long x B cap V cv i bs w hsz hcap ht hV hT hg hr hl
 rcases Int.lt_or_le i 0 with hi | hi
 ·exact find_low x B cap V cv i bs w hsz hcap ht hV hT hg hr hl hi
 rcases Int.lt_or_le (bs.length : Int) i with hi2 | hi2
 ·exact find_high x B cap V cv i bs w hsz hcap ht hV hT hg hr hl hi hi2
 ·exact find_yes x B cap V cv i bs w hsz hcap ht hV hT hg hr hl i.toNat (by omega) (by omega)
end
section
open Go.RowKit Go.Shelf Go.Maps
attribute [local go_sem] Oper.semAt_some
attribute [local go_sem] Oper.semAt_some
noncomputable def fullB (x : Nd) (bs : List Nat) : Bool := findB x bs 0 bs.length
theorem pfull_any (x : Nd) (B : Option Addr) (cap : Nat) (V : Option Addr) (cv : Nat) (bs : List Nat) (w : World) (hsz : x.size ≤ 4611686018427387903) (hcap : x.kids.len ≤ cap) (ht : TreesAt w (fun b => b < w.heap.size) x.kids B) (hV : BytesAt w w.heap.size V bs) (hT : TabAt 0 Lib.deBruijn64tab w) (hg : 0 < w.heap.size) : Calls Tryz.prog 12 #[ndV x B cap, .slice V bs.length cv] w fun e w' => e = .returned (.bool (fullB x bs)) ∧ Below w.heap.size w w' := by
 have hX : Blk (w.alloc (.cells (ndA x B cap) 28)) w.heap.size 28 (ndA x B cap) := Blk.new w _ _
 have hal : Below w.heap.size w (w.alloc (.cells (ndA x B cap) 28)) := (Below.refl _ _).alloc (Nat.le_refl _) _
 have HF := Lib.hid (find_go x B cap V cv 0 bs (w.alloc (.cells (ndA x B cap) 28)) hsz hcap ((ht.below hal).weak (fun b h _ => Nat.lt_of_lt_of_le h hal.size)) ((hV.below hal).more hal.size) (TabAt.below hal hg hT) (Nat.lt_of_lt_of_le hg hal.size))
 have HAL := Lib.hid hal
 clear hal hT hV ht
 unfold ndV at HF ⊢
 unfold ndA at hX HF HAL
 obtain ⟨x0, x1, x2, x3, x4, x5, x6, x7⟩ : _ ∧ _ ∧ _ ∧ _ ∧ _ ∧ _ ∧ _ ∧ _ := ⟨hX.cell 0, hX.cell 1, hX.cell 2, hX.cell 3, hX.cell 4, hX.cell 5, hX.cell 6, hX.cell 7⟩
 simp only [List.getElem?_toArray, List.getElem?_cons_zero, List.getElem?_cons_succ] at x0 x1 x2 x3 x4 x5 x6 x7
 have lx := hX.lt
 clear hX
 by_cases he : errF x bs 0 = 0
 ·have HV := Lib.hid (show fullB x bs = findB x bs 0 bs.length from rfl)
  have hlen := (errF_zero he).2.1
  rw [he] at HF
  clear he
  go_enter Tryz.func12, Tryz.ntmps12
  go_wp2_with fail
  refine HF.out.mono ?_
  rintro e w1 ⟨rfl, hb1⟩
  have HB01 := Lib.hid (HAL.out.trans (hb1.mono HAL.out.size))
  have HP := Lib.hid (fun W => phas_go (findB x bs 0) bs.length (by omega) W)
  clear hb1 HF HAL x0 x1 x2 x3 x4 x5 x6 x7 lx
  dsimp only
  go_wp2_with fail
  refine (HP.out _).mono ?_
  rintro e w2 ⟨rfl, hb2⟩
  dsimp only
  go_wp2
  go_light
  go_ret
  exact ⟨by rw [HV.out]; rfl, HB01.out.trans ((((Below.refl w1.heap.size w1).alloc (Nat.le_refl _) _).trans (hb2.mono (by simp))).mono HB01.out.size)⟩
 ·have HV := Lib.hid (show fullB x bs = false from by unfold fullB; rw [findB_no he])
  have hbe : (errF x bs 0 == 0) = false := by simpa using he
  generalize errF x bs 0 = er at *
  go_enter Tryz.func12, Tryz.ntmps12
  go_wp2_with fail
  refine HF.out.mono ?_
  rintro e w1 ⟨rfl, hb1⟩
  have HB01 := Lib.hid (HAL.out.trans (hb1.mono HAL.out.size))
  clear hb1 HF HAL x0 x1 x2 x3 x4 x5 x6 x7 lx
  dsimp only
  go_wp2
  go_light
  go_ret
  exact ⟨by rw [HV.out]; rfl, HB01.out.trans (((Below.refl w1.heap.size w1).alloc (Nat.le_refl _) _).mono HB01.out.size)⟩
theorem pfull_go (x : Nd) (B : Option Addr) (cap : Nat) (V : Option Addr) (cv : Nat) (bs : List Nat) (w : World) (hsz : x.size ≤ 4611686018427387903) (hcap : x.kids.len ≤ cap) (ht : TreesAt w (fun b => b < w.heap.size) x.kids B) (hV : BytesAt w w.heap.size V bs) (hcv : bs.length ≤ cv) (hT : TabAt 0 Lib.deBruijn64tab w) (hg : 0 < w.heap.size) : Calls Tryz.prog 12 #[ndV x B cap, .slice V bs.length cv] w fun e w' => e = .returned (.bool (fullB x bs)) ∧ Below w.heap.size w w' :=
 pfull_any x B cap V cv bs w hsz hcap ht hV hT hg
end
section
open Go.RowKit
theorem word_noSet (i : Nat) : word noSet i = 0 := word_none i
theorem put_no (S b o len cap : Nat) (i : Int) (v : Value) (k q : Int) (N : Nat) (L : List Lex) (kind place lo hi next : Int) (W : World) (hS : Spl W S b o len cap i v k q) (hrow : W.ownsRow N 143 8 v L.length (lexCells L)) (hN : N ≤ S) (hL : L.length ≤ 100000) :
  Calls Tryz.prog 231 #[.pointer (some ⟨S, 0, none⟩), .agg #[.int .i64 kind, .int .i64 place, .int .u64 0, .int .u64 0, .int .u64 0, .int .u64 0, .int .i64 lo, .int .i64 hi], .int .i64 next] W (Took S b o len cap N L ⟨kind, i, noSet, lo, hi⟩ next k q W) := by
 have h := put_go S b o len cap i v k q N L ⟨kind, place, noSet, lo, hi⟩ next W hS hrow hN hL
 simp only [word_noSet] at h
 exact h
def Quiet (v : Value) (W : World) (e : Ending) (W' : World) : Prop := e = .returned v ∧ ∃ n, W' = W.drewN n
theorem sign_no (S b o cap : Nat) (bs : List Nat) (i : Nat) (v : Value) (N : Nat) (W : World) (hS : Spl W S b o bs.length cap i v 0 0) (hA : BytesAt W N (some ⟨b, o, none⟩) bs) (h0 : i < bs.length) (hk : signKind (byteAt bs i) = 0) :
  Calls Tryz.prog 198 #[.pointer (some ⟨S, 0, none⟩)] W (Quiet (.bool false) W) := by
 obtain ⟨s0, s1, s2, s3, s4, f0, f1, f2, f3, f4⟩ := hS.cells
 have hcell := bytesAt_cells hA i h0
 have hl := hA.2.1
 have hc256 := byteAt_lt hA.1 i
 generalize byteAt bs i = c at *
 have hne : c ≠ 40 ∧ c ≠ 41 ∧ c ≠ 124 ∧ c ≠ 42 ∧ c ≠ 43 ∧ c ≠ 63 := by
  unfold signKind at hk
  refine ⟨?_, ?_, ?_, ?_, ?_, ?_⟩ <;> (rintro rfl; revert hk; decide)
 obtain ⟨a1, a2, a3, a4, a5, a6⟩ := hne
 have b1 : ((c : Int) == 40) = false := by simp; omega
 have b2 : ((c : Int) == 41) = false := by simp; omega
 have b3 : ((c : Int) == 124) = false := by simp; omega
 have b4 : ((c : Int) == 42) = false := by simp; omega
 have b5 : ((c : Int) == 43) = false := by simp; omega
 have b6 : ((c : Int) == 63) = false := by simp; omega
 clear hS hA hk a1 a2 a3 a4 a5 a6
 go_enter Tryz.func198, Tryz.ntmps198
 go_wp2
 go_quiet (fail)
 go_wp2
 go_light
 go_ret
 exact ⟨rfl, _, rfl⟩
theorem sign_yes (S b o cap : Nat) (bs : List Nat) (i : Nat) (v : Value) (N : Nat) (L : List Lex) (W : World) (hS : Spl W S b o bs.length cap i v 0 0) (hrow : W.ownsRow N 143 8 v L.length (lexCells L)) (hN : N ≤ S) (hL : L.length ≤ 100000) (hA : BytesAt W N (some ⟨b, o, none⟩) bs) (h0 : i < bs.length) (hk : signKind (byteAt bs i) ≠ 0) :
  Calls Tryz.prog 198 #[.pointer (some ⟨S, 0, none⟩)] W fun e W' => e = .returned (.bool true) ∧ Below N W W' ∧ ∃ v', Spl W' S b o bs.length cap ((i : Int) + 1) v' 0 0 ∧ W'.ownsRow N 143 8 v' (L.length + 1) (lexCells (L ++ [⟨signKind (byteAt bs i), i, noSet, 0, 0⟩])) := by
 obtain ⟨s0, s1, s2, s3, s4, f0, f1, f2, f3, f4⟩ := hS.cells
 have hcell := bytesAt_cells hA i h0
 have hl := hA.2.1
 have hc256 := byteAt_lt hA.1 i
 have hlt := Blk.lt hS
 have hi2 : i < 140737488355328 := by omega
 have hcs : byteAt bs i = 40 ∨ byteAt bs i = 41 ∨ byteAt bs i = 124 ∨ byteAt bs i = 42 ∨ byteAt bs i = 43 ∨ byteAt bs i = 63 := by
  unfold signKind at hk
  by_cases a1 : byteAt bs i = 40
  ·omega
  by_cases a2 : byteAt bs i = 41
  ·omega
  by_cases a3 : byteAt bs i = 124
  ·omega
  by_cases a4 : byteAt bs i = 42
  ·omega
  by_cases a5 : byteAt bs i = 43
  ·omega
  by_cases a6 : byteAt bs i = 63
  ·omega
  rw [if_neg a1, if_neg a2, if_neg a3, if_neg a4, if_neg a5, if_neg a6] at hk
  exact absurd rfl hk
 have hP := fun (kd : Int) (n : Nat) => put_no S b o bs.length cap i v 0 0 N L kd 0 0 0 ((i : Int) + 1) (W.drewN n) hS hrow hN hL
 have HP := Lib.hid hP
 clear hS hA hk hP hrow
 rcases hcs with hc | hc | hc | hc | hc | hc
 ·rw [hc] at hcell
  have HK := Lib.hid (show signKind (byteAt bs i) = 2 by rw [hc]; rfl)
  clear hc hc256
  go_enter Tryz.func198, Tryz.ntmps198
  go_wp2
  go_quiet (fail)
  go_wp2_with fail
  refine (HP.out 2 _).mono ?_
  rintro e w4 ⟨rfl, hb4, hv4⟩
  have HV := Lib.hid hv4
  have HB4 := Lib.hid hb4
  clear hv4 hb4
  go_wp2
  go_light
  go_ret
  exact ⟨rfl, (bel_drewN (Below.refl N W) _).trans HB4.out, by rw [HK.out]; exact HV.out⟩
 ·rw [hc] at hcell
  have HK := Lib.hid (show signKind (byteAt bs i) = 3 by rw [hc]; rfl)
  clear hc hc256
  go_enter Tryz.func198, Tryz.ntmps198
  go_wp2
  go_quiet (fail)
  go_wp2_with fail
  refine (HP.out 3 _).mono ?_
  rintro e w4 ⟨rfl, hb4, hv4⟩
  have HV := Lib.hid hv4
  have HB4 := Lib.hid hb4
  clear hv4 hb4
  go_wp2
  go_light
  go_ret
  exact ⟨rfl, (bel_drewN (Below.refl N W) _).trans HB4.out, by rw [HK.out]; exact HV.out⟩
 ·rw [hc] at hcell
  have HK := Lib.hid (show signKind (byteAt bs i) = 4 by rw [hc]; rfl)
  clear hc hc256
  go_enter Tryz.func198, Tryz.ntmps198
  go_wp2
  go_quiet (fail)
  go_wp2_with fail
  refine (HP.out 4 _).mono ?_
  rintro e w4 ⟨rfl, hb4, hv4⟩
  have HV := Lib.hid hv4
  have HB4 := Lib.hid hb4
  clear hv4 hb4
  go_wp2
  go_light
  go_ret
  exact ⟨rfl, (bel_drewN (Below.refl N W) _).trans HB4.out, by rw [HK.out]; exact HV.out⟩
 ·rw [hc] at hcell
  have HK := Lib.hid (show signKind (byteAt bs i) = 5 by rw [hc]; rfl)
  clear hc hc256
  go_enter Tryz.func198, Tryz.ntmps198
  go_wp2
  go_quiet (fail)
  go_wp2_with fail
  refine (HP.out 5 _).mono ?_
  rintro e w4 ⟨rfl, hb4, hv4⟩
  have HV := Lib.hid hv4
  have HB4 := Lib.hid hb4
  clear hv4 hb4
  go_wp2
  go_light
  go_ret
  exact ⟨rfl, (bel_drewN (Below.refl N W) _).trans HB4.out, by rw [HK.out]; exact HV.out⟩
 ·rw [hc] at hcell
  have HK := Lib.hid (show signKind (byteAt bs i) = 6 by rw [hc]; rfl)
  clear hc hc256
  go_enter Tryz.func198, Tryz.ntmps198
  go_wp2
  go_quiet (fail)
  go_wp2_with fail
  refine (HP.out 6 _).mono ?_
  rintro e w4 ⟨rfl, hb4, hv4⟩
  have HV := Lib.hid hv4
  have HB4 := Lib.hid hb4
  clear hv4 hb4
  go_wp2
  go_light
  go_ret
  exact ⟨rfl, (bel_drewN (Below.refl N W) _).trans HB4.out, by rw [HK.out]; exact HV.out⟩
 ·rw [hc] at hcell
  have HK := Lib.hid (show signKind (byteAt bs i) = 7 by rw [hc]; rfl)
  clear hc hc256
  go_enter Tryz.func198, Tryz.ntmps198
  go_wp2
  go_quiet (fail)
  go_wp2_with fail
  refine (HP.out 7 _).mono ?_
  rintro e w4 ⟨rfl, hb4, hv4⟩
  have HV := Lib.hid hv4
  have HB4 := Lib.hid hb4
  clear hv4 hb4
  go_wp2
  go_light
  go_ret
  exact ⟨rfl, (bel_drewN (Below.refl N W) _).trans HB4.out, by rw [HK.out]; exact HV.out⟩
structure Ctx (N S T I b o cap : Nat) (bs : List Nat) (i : Nat) (v : Value) (L : List Lex) (W0 : World) (j : Nat) (W : World) : Prop where
 hT : W.cell? ⟨T, 0, none⟩ = some (.pointer (some ⟨S, 0, none⟩))
 hI : Blk W I 3 #[.int .i64 (j : Int)]
 hS : Spl W S b o bs.length cap i v 0 0
 hrow : W.ownsRow N 143 8 v L.length (lexCells L)
 hA : BytesAt W N (some ⟨b, o, none⟩) bs
 hB : Below N W0 W
 hNS : N ≤ S
 hNI : N ≤ I
 hTI : T ≠ I
 hSI : S ≠ I
 hcap : bs.length ≤ cap
section
variable {N S T I b o cap : Nat} {bs : List Nat} {i : Nat} {v : Value} {L : List Lex} {W0 : World} {j : Nat} {W W' : World}
theorem Ctx.drewN (h : Ctx N S T I b o cap bs i v L W0 j W) (n : Nat) : Ctx N S T I b o cap bs i v L W0 j (W.drewN n) :=
 ⟨h.hT, h.hI, h.hS, h.hrow, h.hA, bel_drewN h.hB n, h.hNS, h.hNI, h.hTI, h.hSI, h.hcap⟩
theorem Ctx.below (h : Ctx N S T I b o cap bs i v L W0 j W) (hb : Below W.heap.size W W') : Ctx N S T I b o cap bs i v L W0 j W' :=
  ⟨(hb.cell (p := ⟨T, 0, none⟩) (World.block_lt_of_cell? W _ h.hT)).trans h.hT, h.hI.below hb h.hI.lt, Blk.below h.hS hb (Blk.lt h.hS), own_below h.hrow hb, h.hA.below (hb.mono (Nat.le_of_lt (Nat.lt_of_le_of_lt h.hNS (Blk.lt h.hS)))),
    h.hB.trans (hb.mono (Nat.le_of_lt (Nat.lt_of_le_of_lt h.hNS (Blk.lt h.hS)))), h.hNS, h.hNI, h.hTI, h.hSI, h.hcap⟩
theorem Ctx.set_ (h : Ctx N S T I b o cap bs i v L W0 j W) (m : Nat) : Ctx N S T I b o cap bs i v L W0 m (W.setCell ⟨I, 0, none⟩ (.int .i64 (m : Int))) :=
  ⟨(World.cell?_setCell_other W _ _ _ (fun e => h.hTI (by simpa using (congrArg Addr.block e).symm))).trans h.hT, h.hI.set_ 0 _, Blk.far h.hS (p := ⟨I, 0, none⟩) h.hSI _, own_set h.hrow (blk_not_row h.hI (by decide) h.hrow),
    h.hA.below ((Below.refl N W).setCell (p := ⟨I, 0, none⟩) h.hNI _), h.hB.setCell (p := ⟨I, 0, none⟩) h.hNI _, h.hNS, h.hNI, h.hTI, h.hSI, h.hcap⟩
theorem Ctx.facts (h : Ctx N S T I b o cap bs i v L W0 j W) : W.cell? ⟨T, 0, none⟩ = some (.pointer (some ⟨S, 0, none⟩)) ∧ W.cell? ⟨I, 0, none⟩ = some (.int .i64 (j : Int)) ∧ W.cell? ⟨S, 0, none⟩ = some (.slice (some ⟨b, o, none⟩) bs.length cap) ∧ W.frozen? ⟨I, 0, none⟩ = false ∧
  T < W.heap.size ∧ I < W.heap.size ∧ S < W.heap.size ∧ N ≤ W.heap.size :=
 ⟨h.hT, h.hI.cell 0, (Spl.cells h.hS).1, h.hI.frozen 0, World.block_lt_of_cell? W _ h.hT, h.hI.lt, Blk.lt h.hS, Nat.le_of_lt (Nat.lt_of_le_of_lt h.hNS (Blk.lt h.hS))⟩
end
def Kept (N S T I b o cap : Nat) (bs : List Nat) (i : Nat) (u : Value) (L : List Lex) (W0 : World) (j : Nat) (v : Value) (e : Ending) (W' : World) : Prop := e = .returned v ∧ Ctx N S T I b o cap bs i u L W0 j W'
theorem here_yes {N S T I b o cap : Nat} {bs : List Nat} {i : Nat} {v : Value} {L : List Lex} {W0 : World} {j : Nat} {W : World} (h : Ctx N S T I b o cap bs i v L W0 j W) (c : Nat) (hj : j < bs.length) :
  Calls Tryz.prog 230 #[.int .u8 (c : Int), .pointer (some ⟨I, 0, none⟩), .pointer (some ⟨T, 0, none⟩)] W (Kept N S T I b o cap bs i v L W0 j (.bool (hasAt bs j c))) := by
 obtain ⟨c0, c1, c2, f1, l0, l1, l2, _⟩ := h.facts
 have hcell := bytesAt_cells h.hA j hj
 have hl := h.hA.2.1
 have HK := Lib.hid h
 have Hh := Lib.hid (hasAt_in c hj)
 clear h
 generalize byteAt bs j = d at *
 have hd : decide (j < bs.length) = true := by simp; omega
 have hd2 : (j : Int) < (bs.length : Int) := by omega
 go_enter Tryz.func230, Tryz.ntmps230
 go_wp2
 go_quiet (fail)
 go_wp2
 go_light
 go_ret
 refine ⟨ret_b ?_, HK.out.drewN _⟩
 rw [Hh.out]
 rw [Bool.eq_iff_iff]
 simp
 omega
theorem here_end {N S T I b o cap : Nat} {bs : List Nat} {i : Nat} {v : Value} {L : List Lex} {W0 : World} {j : Nat} {W : World} (h : Ctx N S T I b o cap bs i v L W0 j W) (c : Nat) (hj : bs.length ≤ j) :
  Calls Tryz.prog 230 #[.int .u8 (c : Int), .pointer (some ⟨I, 0, none⟩), .pointer (some ⟨T, 0, none⟩)] W (Kept N S T I b o cap bs i v L W0 j (.bool (hasAt bs j c))) := by
 obtain ⟨c0, c1, c2, f1, l0, l1, l2, _⟩ := h.facts
 have hl := h.hA.2.1
 have HK := Lib.hid h
 have Hh := Lib.hid (hasAt_out (bs := bs) (i := (j : Int)) c (by omega))
 clear h
 have hd : decide (j < bs.length) = false := by simp; omega
 go_enter Tryz.func230, Tryz.ntmps230
 go_wp2
 go_quiet (fail)
 go_wp2
 go_light
 go_ret
 exact ⟨ret_b (by rw [Hh.out]), HK.out.drewN _⟩
theorem sphere_go {N S T I b o cap : Nat} {bs : List Nat} {i : Nat} {v : Value} {L : List Lex} {W0 : World} {j : Nat} {W : World} (h : Ctx N S T I b o cap bs i v L W0 j W) (c : Nat) :
  Calls Tryz.prog 230 #[.int .u8 (c : Int), .pointer (some ⟨I, 0, none⟩), .pointer (some ⟨T, 0, none⟩)] W (Kept N S T I b o cap bs i v L W0 j (.bool (hasAt bs j c))) := by
 rcases Nat.lt_or_ge j bs.length with hj | hj
 ·exact here_yes h c hj
 ·exact here_end h c hj
theorem num_yes {N S T I b o cap : Nat} {bs : List Nat} {i : Nat} {v : Value} {L : List Lex} {W0 : World} {j : Nat} {W : World} (h : Ctx N S T I b o cap bs i v L W0 j W) (hj : j ≤ bs.length) {n m : Nat} (ht : takeS bs j = some (n, m)) :
  Calls Tryz.prog 228 #[.pointer (some ⟨T, 0, none⟩), .pointer (some ⟨I, 0, none⟩)] W (Kept N S T I b o cap bs i v L W0 m (.tuple #[.int .i64 (n : Int), .bool true])) := by
 have Hv := Lib.hid (show takeVal bs j = .tuple #[.int .i64 (n : Int), .int .i64 (m : Int), .int .i64 0] by unfold takeVal; rw [ht])
 clear ht
 obtain ⟨c0, c1, c2, f1, l0, l1, l2, l3⟩ := h.facts
 have hl := h.hA.2.1
 have HK := Lib.hid h
 have HE := Lib.hid (fun w hA => take_at b o cap bs j w hA h.hcap hj)
 clear h
 go_enter Tryz.func228, Tryz.ntmps228
 go_wp2_with fail
 go_region_held3 (fun w' => (∀ b o, b < W.heap.size → w'.cell? ⟨b, o, none⟩ = W.cell? ⟨b, o, none⟩) ∧ Since W.heap.size W w') (first | (with_reducible exact HK2.out) | (with_reducible exact since_start (Nat.le_refl _)))
  (first | (go_at_call 229; refine (HE.out _ (bytes_since (by assumption) HK.out.hA l3)).mono ?_; rintro e w' ⟨rfl, hb'⟩; rw [Hv.out]; have hK := since_step (by assumption) hb'; have HK2 := Lib.hid hK; clear hK))
 have HC := Lib.hid (HK.out.below HK2.out.2.1)
 obtain ⟨k0, k1, k2, g1, _, _, _, _⟩ := HC.out.facts
 go_wp2
 go_light
 go_ret2
 exact ⟨rfl, HC.out.set_ m⟩
theorem num_no {N S T I b o cap : Nat} {bs : List Nat} {i : Nat} {v : Value} {L : List Lex} {W0 : World} {j : Nat} {W : World} (h : Ctx N S T I b o cap bs i v L W0 j W) (hj : j ≤ bs.length) (ht : takeS bs j = none) :
  Calls Tryz.prog 228 #[.pointer (some ⟨T, 0, none⟩), .pointer (some ⟨I, 0, none⟩)] W (Kept N S T I b o cap bs i v L W0 j (.tuple #[.int .i64 0, .bool false])) := by
 have Hv := Lib.hid (show takeVal bs j = .tuple #[.int .i64 0, .int .i64 0, .int .i64 (takeErr bs j)] by unfold takeVal; rw [ht])
 have hk := takeErr_pos bs j
 generalize takeErr bs j = k at *
 have hk0 : (k != 0) = true := by rw [bne_iff_ne]; omega
 clear ht hk
 obtain ⟨c0, c1, c2, f1, l0, l1, l2, l3⟩ := h.facts
 have hl := h.hA.2.1
 have HK := Lib.hid h
 have HE := Lib.hid (fun w hA => take_at b o cap bs j w hA h.hcap hj)
 clear h
 go_enter Tryz.func228, Tryz.ntmps228
 go_wp2_with fail
 go_region_held3 (fun w' => (∀ b o, b < W.heap.size → w'.cell? ⟨b, o, none⟩ = W.cell? ⟨b, o, none⟩) ∧ Since W.heap.size W w') (first | (with_reducible exact HK2.out) | (with_reducible exact since_start (Nat.le_refl _)))
  (first | (go_at_call 229; refine (HE.out _ (bytes_since (by assumption) HK.out.hA l3)).mono ?_; rintro e w' ⟨rfl, hb'⟩; rw [Hv.out]; have hK := since_step (by assumption) hb'; have HK2 := Lib.hid hK; clear hK))
 have HC := Lib.hid (HK.out.below HK2.out.2.1)
 obtain ⟨k0, k1, k2, g1, _, _, _, _⟩ := HC.out.facts
 go_wp2
 go_light
 go_ret2
 exact ⟨rfl, HC.out⟩
theorem full_says {x : Nd} {bs : List Nat} (hr : rightT x = true) (hl : bs.length ≤ 256) : fullB x bs = true ↔ SaysW x bs := by
 have h0 : errF x bs 0 = 0 := by unfold errF; rw [if_neg (by rw [hr]; decide), if_neg (by omega), if_neg (by omega)]
 unfold fullB
 rw [findB_yes h0, endsB_iff]
 exact Iff.rfl
def lexK (k : Int) : Lex := ⟨k, 0, noSet, 0, 0⟩
def brS (p k : Int) : Bool := decide (k = 5) || (decide (p ≠ 5) && (decide (k = 4) || decide (k = 2)))
def kidS (p : Int) (q : Int × List Lex) : List Lex := if brS p q.1 = true then lexK 2 :: (q.2 ++ [lexK 3]) else q.2
def barsS (l : List (List Lex)) : List Lex := (l.flatMap fun x => lexK 4 :: x).drop 1
theorem barsS_snoc (l : List (List Lex)) (x : List Lex) : barsS (l ++ [x]) = if l.length = 0 then x else barsS l ++ lexK 4 :: x := by
 unfold barsS
 cases l with
 | nil => simp
 | cons y l => simp
def writeK (k : Int) (s : Nat) (lo hi : Int) (ks : List (Int × List Lex)) : List Lex :=
 if k = 1 ∨ k = 3 then [⟨1, 0, s.testBit, 0, 0⟩]
 else if k = 4 then (ks.map (kidS 4)).flatten
 else if k = 5 then barsS (ks.map (kidS 5))
 else if 6 ≤ k ∧ k ≤ 8 then kidS k (ks.headD (0, [])) ++ [lexK (k - 1)]
 else if k = 9 then kidS k (ks.headD (0, [])) ++ [⟨8, 0, noSet, lo, hi⟩]
 else []
def Trees.writes : Trees → List (Int × List Lex)
 | .nil => []
 | .cons k s ks lo hi r => (k, writeK k s lo hi ks.writes) :: r.writes
def Nd.write (x : Nd) : List Lex := writeK x.kind x.set x.lo x.hi x.kids.writes
theorem Trees.writes_list : ∀ F : Trees, F.writes = F.list.map (fun z => (z.kind, z.write))
 | .nil => rfl
 | .cons k s ks lo hi r => by rw [Trees.writes, Trees.list, List.map_cons, Trees.writes_list r]; rfl
theorem Trees.writes_len (F : Trees) : F.writes.length = F.len := by rw [F.writes_list, List.length_map, F.len_list]
theorem Trees.writes_get {F : Trees} {i : Nat} {z : Nd} (h : F.list[i]? = some z) : F.writes[i]? = some (z.kind, z.write) := by
 rw [F.writes_list, List.getElem?_map, h]; rfl
theorem Trees.writes_head {F : Trees} {z : Nd} (h : F.list[0]? = some z) : F.writes.headD (0, []) = (z.kind, z.write) := by
 have := Trees.writes_get h
 cases hw : F.writes with
 | nil => rw [hw] at this; simp at this
 | cons a l => rw [hw] at this; simpa using this
theorem Nd.write_leaf {x : Nd} (h : x.kind = 1 ∨ x.kind = 3) : x.write = [⟨1, 0, x.set.testBit, 0, 0⟩] := by unfold Nd.write writeK; rw [if_pos h]
theorem Nd.write_cat {x : Nd} (h : x.kind = 4) : x.write = (x.kids.writes.map (kidS 4)).flatten := by unfold Nd.write writeK; rw [if_neg (by omega), if_pos h]
theorem Nd.write_alt {x : Nd} (h : x.kind = 5) : x.write = barsS (x.kids.writes.map (kidS 5)) := by unfold Nd.write writeK; rw [if_neg (by omega), if_neg (by omega), if_pos h]
theorem Nd.write_post {x : Nd} (h : 6 ≤ x.kind ∧ x.kind ≤ 8) : x.write = kidS x.kind (x.kids.writes.headD (0, [])) ++ [lexK (x.kind - 1)] := by unfold Nd.write writeK; rw [if_neg (by omega), if_neg (by omega), if_neg (by omega), if_pos h]
theorem Nd.write_rep {x : Nd} (h : x.kind = 9) : x.write = kidS 9 (x.kids.writes.headD (0, [])) ++ [⟨8, 0, noSet, x.lo, x.hi⟩] := by unfold Nd.write writeK; rw [if_neg (by omega), if_neg (by omega), if_neg (by omega), if_neg (by omega), if_pos h, h]
theorem Nd.write_empty {x : Nd} (h : x.kind = 2) : x.write = [] := by unfold Nd.write writeK; rw [if_neg (by omega), if_neg (by omega), if_neg (by omega), if_neg (by omega), if_neg (by omega)]
theorem kidS_len (p : Int) (q : Int × List Lex) : (kidS p q).length ≤ q.2.length + 2 := by
 unfold kidS
 split
 ·simp
 ·omega
def costW (l : List (Int × List Lex)) : Nat := (l.map fun q => q.2.length + 3).sum
theorem costW_flat (p : Int) : ∀ l : List (Int × List Lex), ((l.map (kidS p)).flatten).length ≤ costW l
 | [] => by simp
 | q :: l => by
  have h1 := costW_flat p l
  have h2 := kidS_len p q
  unfold costW at *
  simp only [List.map_cons, List.flatten_cons, List.length_append, List.sum_cons]
  omega
theorem costW_bars (p : Int) : ∀ l : List (Int × List Lex), ((l.map (kidS p)).flatMap fun x => lexK 4 :: x).length ≤ costW l
 | [] => by simp
 | q :: l => by
  have h1 := costW_bars p l
  have h2 := kidS_len p q
  unfold costW at *
  simp only [List.map_cons, List.flatMap_cons, List.length_append, List.sum_cons, List.length_cons]
  omega
theorem costW_head (p : Int) (l : List (Int × List Lex)) : (kidS p (l.headD (0, []))).length ≤ costW l + 2 := by
 cases l with
 | nil => exact Nat.le_trans (kidS_len _ _) (by simp [costW])
 | cons q l =>
  have := kidS_len p q
  unfold costW
  simp only [List.headD_cons, List.map_cons, List.sum_cons]
  omega
theorem writeK_len (k : Int) (s : Nat) (lo hi : Int) (ks : List (Int × List Lex)) : (writeK k s lo hi ks).length ≤ costW ks + 3 := by
 unfold writeK
 have h1 := costW_flat 4 ks
 have h2 := costW_bars 5 ks
 have h3 := costW_head k ks
 unfold barsS
 repeat' split
 all_goals (try simp only [List.length_append, List.length_cons, List.length_nil, List.length_drop])
 all_goals omega
theorem Trees.cost_le : ∀ F : Trees, costW F.writes ≤ 6 * F.size
 | .nil => by simp [Trees.writes, costW]
 | .cons k s ks lo hi r => by
  have h1 := Trees.cost_le ks
  have h2 := Trees.cost_le r
  have h3 := writeK_len k s lo hi ks.writes
  have e : costW (Trees.cons k s ks lo hi r).writes = (writeK k s lo hi ks.writes).length + 3 + costW r.writes := by simp [costW, Trees.writes]
  rw [e, Trees.size]
  omega
theorem Nd.write_len (x : Nd) : x.write.length ≤ 6 * x.size := by
 have h1 := writeK_len x.kind x.set x.lo x.hi x.kids.writes
 have h2 := x.kids.cost_le
 unfold Nd.write Nd.size
 omega
theorem lexK_right {k : Int} (h : 2 ≤ k ∧ k ≤ 7) : rightS (lexK k) = true := by
 have e0 := word_empty 0 (by decide)
 have e1 := word_empty 1 (by decide)
 have e2 := word_empty 2 (by decide)
 have e3 := word_empty 3 (by decide)
 have h1 : ¬ k = 8 := by omega
 have h2 : ¬ k = 1 := by omega
 unfold rightS rightV lexK
 simp [e0, e1, e2, e3, h1, h2]
 omega
theorem kidS_right {p : Int} {q : Int × List Lex} (h : ∀ y ∈ q.2, rightS y = true) : ∀ y ∈ kidS p q, rightS y = true := by
 intro y hy
 unfold kidS at hy
 split at hy
 ·rcases List.mem_cons.1 hy with rfl | hy
  ·exact lexK_right (by decide)
  ·rcases List.mem_append.1 hy with hy | hy
   ·exact h y hy
   ·rw [List.mem_singleton.1 hy]; exact lexK_right (by decide)
 ·exact h y hy
theorem writeK_right {k : Int} {s : Nat} {lo hi : Int} {ks : List (Int × List Lex)} (h9 : k = 9 → 0 ≤ lo ∧ lo ≤ 1000 ∧ (hi = -1 ∨ lo ≤ hi) ∧ hi ≤ 1000) (h : ∀ q ∈ ks, ∀ y ∈ q.2, rightS y = true) : ∀ y ∈ writeK k s lo hi ks, rightS y = true := by
 have hh : ∀ y ∈ kidS k (ks.headD (0, [])), rightS y = true := by
  refine kidS_right ?_
  cases ks with
  | nil => intro y hy; simp at hy
  | cons q l => exact h q (by simp)
 intro y hy
 unfold writeK at hy
 split at hy
 ·rw [List.mem_singleton.1 hy]; exact right_set 0 _
 split at hy
 ·obtain ⟨l, hl, hy⟩ := List.mem_flatten.1 hy
  obtain ⟨q, hq, rfl⟩ := List.mem_map.1 hl
  exact kidS_right (h q hq) y hy
 split at hy
 ·obtain ⟨l, hl, hy⟩ := List.mem_flatMap.1 (List.mem_of_mem_drop hy)
  obtain ⟨q, hq, rfl⟩ := List.mem_map.1 hl
  rcases List.mem_cons.1 hy with rfl | hy
  ·exact lexK_right (by decide)
  ·exact kidS_right (h q hq) y hy
 split at hy
 ·rcases List.mem_append.1 hy with hy | hy
  ·exact hh y hy
  ·rw [List.mem_singleton.1 hy]; exact lexK_right (by omega)
 split at hy
 ·rename_i hk9
  rcases List.mem_append.1 hy with hy | hy
  ·exact hh y hy
  ·rw [List.mem_singleton.1 hy]
   have := h9 hk9
   have e := right_rep_of 0 lo.toNat hi (by omega) (by omega)
   rw [Int.toNat_of_nonneg this.1] at e
   exact e
 ·cases hy
theorem alone_nine {y : Nd} (h : aloneN y = true) : y.kind = 9 → 0 ≤ y.lo ∧ y.lo ≤ 1000 ∧ (y.hi = -1 ∨ y.lo ≤ y.hi) ∧ y.hi ≤ 1000 := fun h9 => by
 have h1 := numsOk_of h h9
 have h2 := (aloneN_kids h).2.1 h9
 omega
theorem writes_right : ∀ (F : Trees), Okays F → ∀ q ∈ F.writes, ∀ y ∈ q.2, rightS y = true
 | .nil, _, q, hq => by cases hq
 | .cons k s ks lo hi r, ho, q, hq => by
  rw [Trees.writes] at hq
  rcases List.mem_cons.1 hq with rfl | hq
  ·exact writeK_right (alone_nine (y := ⟨k, s, ks, lo, hi⟩) (ho _ (by simp [Trees.nodes]))) (writes_right ks (fun y hy => ho y (by simp [Trees.nodes, hy])))
  ·exact writes_right r (fun y hy => ho y (by simp [Trees.nodes, hy])) q hq
theorem okays_kids {x : Nd} (h : rightT x = true) : aloneN x = true ∧ Okays x.kids := by
 unfold rightT at h
 rw [Bool.and_eq_true] at h
 have := List.all_eq_true.1 h.2
 exact ⟨this x (by simp [Nd.nodes]), fun y hy => this y (by simp [Nd.nodes, hy])⟩
theorem write_right {x : Nd} (h : rightT x = true) : x.write.all rightS = true := by
 obtain ⟨h1, h2⟩ := okays_kids h
 exact List.all_eq_true.2 (writeK_right (alone_nine h1) (writes_right _ h2))
def lexsS (x : Nd) : Except Int (List Lex) := if rightT x = false then .error 6 else match lexemesS x.write with
 | .error _ => .error 4
 | .ok _ => .ok x.write
def showT (x : Nd) : Except Int (List Nat) := match lexsS x with
 | .error e => .error e
 | .ok L => if 65536 < (joinS L).length then .error 4 else .ok (joinS L)
def WrAt (w : World) (base g : Nat) (S : Nat → Prop) (L : List Lex) : Prop :=
 (∀ b, S b → base ≤ b ∧ b < w.heap.size) ∧ S g ∧ ∃ v, Blk w g 181 #[v] ∧ w.ownsRow base 143 8 v L.length (lexCells L) ∧ ∀ b, v.ownBlock = some b → S b
theorem WrAt.keep {w w' : World} {base g : Nat} {S : Nat → Prop} {L : List Lex} (h : WrAt w base g S L) (hs : w.heap.size ≤ w'.heap.size) (hk : ∀ b, S b → w'.heap[b]? = w.heap[b]?) : WrAt w' base g S L := by
 obtain ⟨h0, hg, v, h1, h2, h3⟩ := h
 exact ⟨fun b hb => ⟨(h0 b hb).1, by have := (h0 b hb).2; omega⟩, hg, v, (hk g hg).trans h1, ownsRow_block h2 (fun k e => hk k (h3 k e)), h3⟩
theorem WrAt.lt {w : World} {base g : Nat} {S : Nat → Prop} {L : List Lex} (h : WrAt w base g S L) : ∀ b, S b → b < w.heap.size := fun b hb => (h.1 b hb).2
theorem WrAt.alloc {w : World} {base g : Nat} {S : Nat → Prop} {L : List Lex} (h : WrAt w base g S L) (o : Obj) : WrAt (w.alloc o) base g S L :=
 h.keep (by simp) (fun b hb => Below.heap_alloc w o b (h.lt b hb))
theorem WrAt.below {w w' : World} {base g : Nat} {S : Nat → Prop} {L : List Lex} (h : WrAt w base g S L) (hb : Below w.heap.size w w') : WrAt w' base g S L :=
 h.keep hb.size (fun b hs => hb.block b (h.lt b hs))
theorem WrAt.not {w : World} {base g : Nat} {S : Nat → Prop} {L : List Lex} (h : WrAt w base g S L) {b : Nat} (hb : w.heap.size ≤ b) : ¬ S b := fun h' => by have := h.lt b h'; omega
def WrOut (base g : Nat) (S : Nat → Prop) (w : World) (L : List Lex) (e : Ending) (w' : World) : Prop :=
 e = .returned (.tuple #[]) ∧ ∃ S', WrAt w' base g S' L ∧ Moves base S w S' w'
theorem wr_push {base g gg cap : Nat} {S : Nat → Prop} {L : List Lex} {x : Lex} {w wa w1 : World} {v : Value} {z : Nat} (hH : (∀ b, S b → base ≤ b ∧ b < w.heap.size) ∧ S g ∧ ∀ b, v.ownBlock = some b → S b) (hb : base ≤ w.heap.size) (hG1 : Blk w1 g 181 #[v])
  (ha : Below w.heap.size w wa) (hgrow : wa.grownBy w1 v.ownBlock) (hown : w1.ownsRow base 143 8 (.slice (some ⟨gg, 0, none⟩) (L.length + 1) cap) (L.length + 1) (lexCells L ++ lexCell x)) (hat : v.ownBlock = some gg ∨ gg = z) (hz : w.heap.size ≤ z) :
  ∃ S', WrAt (w1.setCell ⟨g, 0, none⟩ (.slice (some ⟨gg, 0, none⟩) (L.length + 1) cap)) base g S' (L ++ [x]) ∧ Moves base S w S' (w1.setCell ⟨g, 0, none⟩ (.slice (some ⟨gg, 0, none⟩) (L.length + 1) cap)) := by
 obtain ⟨h0, hg, h3⟩ := hH
 have hne := blk_not_row hG1 (by decide) hown
 have hlg := hown.lt gg rfl
 have hM : Moves base S w (fun b => S b ∨ b = gg) w1 := Moves.push h0 hb ha hgrow h3 (by rcases hat with h | h; exact .inl h; exact .inr (by omega))
 have hsz : w.heap.size ≤ w1.heap.size := hM.size
 refine ⟨fun b => S b ∨ b = gg, ⟨fun b hb => ?_, .inl hg, .slice (some ⟨gg, 0, none⟩) (L.length + 1) cap, hG1.set_ 0 _, ?_, fun b h => .inr (by simpa [Value.ownBlock] using h.symm)⟩, hM.setS (p := ⟨g, 0, none⟩) hg (h0 g hg).1 _⟩
 ·simp only [World.setCell, Array.size_modify]
  rcases hb with h | rfl
  ·exact ⟨(h0 b h).1, by have := (h0 b h).2; omega⟩
  ·exact hlg
 ·rw [List.length_append, lexCells_snoc]
  exact own_set hown hne
theorem lexCell_sign (k : Int) : lexCell (lexK k) = [.int .i64 k, .int .i64 0, .int .u64 0, .int .u64 0, .int .u64 0, .int .u64 0, .int .i64 0, .int .i64 0] := rfl
theorem wput_go (base g : Nat) (S : Nat → Prop) (L : List Lex) (k : Int) (w : World) (h : WrAt w base g S L) (hb : base ≤ w.heap.size) (hf : L.length ≤ 100000000) :
  Calls Tryz.prog 207 #[.pointer (some ⟨g, 0, none⟩), .int .i64 k] w (WrOut base g S w (L ++ [lexK k])) := by
 obtain ⟨i0, hi, hz0, hz1, hz2⟩ := info_parts info_lex
 obtain ⟨h0, hg, v, hG, hR, h3⟩ := h
 have s0 := hG.cell 0
 have f0 := hG.frozen 0
 have hlt := Blk.lt hG
 have HG := Lib.hid hG
 have HR := Lib.hid hR
 have HH := Lib.hid (show _ ∧ _ ∧ _ from ⟨h0, hg, h3⟩)
 have hneG := blk_not_row hG (by decide) hR
 have HneG := Lib.hid hneG
 have h63 : L.length + 1 ≤ maxLen := Nat.le_trans (by omega) (show 2000000000000 ≤ maxLen by decide)
 have hby : (L.length + 1) * 64 ≤ 140737488355328 := by omega
 have HS := Lib.hid (lexCell_sign k)
 clear hG hR hneG h0 h3
 go_enter Tryz.func207, Tryz.ntmps207
 go_wp2_with (at_builtin; refine wpList_append_lies _ rfl _ _ 138 rfl base 143 i0 _ 8 64 Tryz.underlying138 hi hz0 hz1 hz2 rfl (by decide) v L.length (lexCells L) rfl (HR.out.alloc _) ⟨w.heap.size, 0, none⟩ 1 1 [.int .i64 k, .int .i64 0, .int .u64 0, .int .u64 0, .int .u64 0, .int .u64 0, .int .i64 0, .int .i64 0] rfl rfl (World.news_of_block (cs := #[.int .i64 k, .int .i64 0, .int .u64 0, .int .u64 0, .int .u64 0, .int .u64 0, .int .i64 0, .int .i64 0]) (t := 143) (fr := (0, 0)) (heap_alloc_new w _)) (by simp [Value.oneCell']) (by decide) h63 hby (by simp; omega) (w.heap.size + 1) (by simp) ?_; intro gg cap' w1 hown1 hgrow hat hlt1; have hG1 := Blk.grown (Blk.alloc HG.out _) hgrow HneG.out; have c0 := hG1.cell 0; have d0 := hG1.frozen 0; have HG1 := Lib.hid hG1; have Hgrow := Lib.hid hgrow; have Hown1 := Lib.hid hown1; have Hat := Lib.hid hat; clear hG1 hgrow hown1 hat)
 go_light
 go_end0
 rw [← HS.out] at Hown1
 exact ⟨rfl, wr_push HH.out hb HG1.out ((Below.refl _ _).alloc (Nat.le_refl _) _) Hgrow.out Hown1.out Hat.out (by omega)⟩
def levelS (k : Int) : Int := if k = 5 then 1 else if k = 4 then 2 else if k = 2 then 0 else 3
theorem level1 (s : Nat) (n : Nat) (lo hi : Int) (B : Option Addr) (cap : Nat) (w : World) :
  Calls Tryz.prog 206 #[.agg #[.int .i64 1, .int .u64 (word s.testBit 0), .int .u64 (word s.testBit 1), .int .u64 (word s.testBit 2), .int .u64 (word s.testBit 3), .slice B n cap, .int .i64 lo, .int .i64 hi]] w fun e w' => e = .returned (.int .i64 3) ∧ Below w.heap.size w w' := by
 have HB := Lib.hid (((Below.refl w.heap.size w).alloc (Nat.le_refl _) (.cells #[.int .i64 1, .int .u64 (word s.testBit 0), .int .u64 (word s.testBit 1), .int .u64 (word s.testBit 2), .int .u64 (word s.testBit 3), .slice B n cap, .int .i64 lo, .int .i64 hi] 28)).alloc (by simp) (.cells #[.int .i64 0, .int .i64 3, .int .i64 0, .int .i64 3, .int .i64 2, .int .i64 1, .int .i64 3, .int .i64 3, .int .i64 3, .int .i64 3] 173))
 go_enter Tryz.func206, Tryz.ntmps206
 go_wp2
 go_light
 go_ret
 exact ⟨rfl, HB.out⟩
theorem level2 (s : Nat) (n : Nat) (lo hi : Int) (B : Option Addr) (cap : Nat) (w : World) :
  Calls Tryz.prog 206 #[.agg #[.int .i64 2, .int .u64 (word s.testBit 0), .int .u64 (word s.testBit 1), .int .u64 (word s.testBit 2), .int .u64 (word s.testBit 3), .slice B n cap, .int .i64 lo, .int .i64 hi]] w fun e w' => e = .returned (.int .i64 0) ∧ Below w.heap.size w w' := by
 have HB := Lib.hid (((Below.refl w.heap.size w).alloc (Nat.le_refl _) (.cells #[.int .i64 2, .int .u64 (word s.testBit 0), .int .u64 (word s.testBit 1), .int .u64 (word s.testBit 2), .int .u64 (word s.testBit 3), .slice B n cap, .int .i64 lo, .int .i64 hi] 28)).alloc (by simp) (.cells #[.int .i64 0, .int .i64 3, .int .i64 0, .int .i64 3, .int .i64 2, .int .i64 1, .int .i64 3, .int .i64 3, .int .i64 3, .int .i64 3] 173))
 go_enter Tryz.func206, Tryz.ntmps206
 go_wp2
 go_light
 go_ret
 exact ⟨rfl, HB.out⟩
theorem level3 (s : Nat) (n : Nat) (lo hi : Int) (B : Option Addr) (cap : Nat) (w : World) :
  Calls Tryz.prog 206 #[.agg #[.int .i64 3, .int .u64 (word s.testBit 0), .int .u64 (word s.testBit 1), .int .u64 (word s.testBit 2), .int .u64 (word s.testBit 3), .slice B n cap, .int .i64 lo, .int .i64 hi]] w fun e w' => e = .returned (.int .i64 3) ∧ Below w.heap.size w w' := by
 have HB := Lib.hid (((Below.refl w.heap.size w).alloc (Nat.le_refl _) (.cells #[.int .i64 3, .int .u64 (word s.testBit 0), .int .u64 (word s.testBit 1), .int .u64 (word s.testBit 2), .int .u64 (word s.testBit 3), .slice B n cap, .int .i64 lo, .int .i64 hi] 28)).alloc (by simp) (.cells #[.int .i64 0, .int .i64 3, .int .i64 0, .int .i64 3, .int .i64 2, .int .i64 1, .int .i64 3, .int .i64 3, .int .i64 3, .int .i64 3] 173))
 go_enter Tryz.func206, Tryz.ntmps206
 go_wp2
 go_light
 go_ret
 exact ⟨rfl, HB.out⟩
theorem level4 (s : Nat) (n : Nat) (lo hi : Int) (B : Option Addr) (cap : Nat) (w : World) :
  Calls Tryz.prog 206 #[.agg #[.int .i64 4, .int .u64 (word s.testBit 0), .int .u64 (word s.testBit 1), .int .u64 (word s.testBit 2), .int .u64 (word s.testBit 3), .slice B n cap, .int .i64 lo, .int .i64 hi]] w fun e w' => e = .returned (.int .i64 2) ∧ Below w.heap.size w w' := by
 have HB := Lib.hid (((Below.refl w.heap.size w).alloc (Nat.le_refl _) (.cells #[.int .i64 4, .int .u64 (word s.testBit 0), .int .u64 (word s.testBit 1), .int .u64 (word s.testBit 2), .int .u64 (word s.testBit 3), .slice B n cap, .int .i64 lo, .int .i64 hi] 28)).alloc (by simp) (.cells #[.int .i64 0, .int .i64 3, .int .i64 0, .int .i64 3, .int .i64 2, .int .i64 1, .int .i64 3, .int .i64 3, .int .i64 3, .int .i64 3] 173))
 go_enter Tryz.func206, Tryz.ntmps206
 go_wp2
 go_light
 go_ret
 exact ⟨rfl, HB.out⟩
theorem level5 (s : Nat) (n : Nat) (lo hi : Int) (B : Option Addr) (cap : Nat) (w : World) :
  Calls Tryz.prog 206 #[.agg #[.int .i64 5, .int .u64 (word s.testBit 0), .int .u64 (word s.testBit 1), .int .u64 (word s.testBit 2), .int .u64 (word s.testBit 3), .slice B n cap, .int .i64 lo, .int .i64 hi]] w fun e w' => e = .returned (.int .i64 1) ∧ Below w.heap.size w w' := by
 have HB := Lib.hid (((Below.refl w.heap.size w).alloc (Nat.le_refl _) (.cells #[.int .i64 5, .int .u64 (word s.testBit 0), .int .u64 (word s.testBit 1), .int .u64 (word s.testBit 2), .int .u64 (word s.testBit 3), .slice B n cap, .int .i64 lo, .int .i64 hi] 28)).alloc (by simp) (.cells #[.int .i64 0, .int .i64 3, .int .i64 0, .int .i64 3, .int .i64 2, .int .i64 1, .int .i64 3, .int .i64 3, .int .i64 3, .int .i64 3] 173))
 go_enter Tryz.func206, Tryz.ntmps206
 go_wp2
 go_light
 go_ret
 exact ⟨rfl, HB.out⟩
theorem level6 (s : Nat) (n : Nat) (lo hi : Int) (B : Option Addr) (cap : Nat) (w : World) :
  Calls Tryz.prog 206 #[.agg #[.int .i64 6, .int .u64 (word s.testBit 0), .int .u64 (word s.testBit 1), .int .u64 (word s.testBit 2), .int .u64 (word s.testBit 3), .slice B n cap, .int .i64 lo, .int .i64 hi]] w fun e w' => e = .returned (.int .i64 3) ∧ Below w.heap.size w w' := by
 have HB := Lib.hid (((Below.refl w.heap.size w).alloc (Nat.le_refl _) (.cells #[.int .i64 6, .int .u64 (word s.testBit 0), .int .u64 (word s.testBit 1), .int .u64 (word s.testBit 2), .int .u64 (word s.testBit 3), .slice B n cap, .int .i64 lo, .int .i64 hi] 28)).alloc (by simp) (.cells #[.int .i64 0, .int .i64 3, .int .i64 0, .int .i64 3, .int .i64 2, .int .i64 1, .int .i64 3, .int .i64 3, .int .i64 3, .int .i64 3] 173))
 go_enter Tryz.func206, Tryz.ntmps206
 go_wp2
 go_light
 go_ret
 exact ⟨rfl, HB.out⟩
theorem level7 (s : Nat) (n : Nat) (lo hi : Int) (B : Option Addr) (cap : Nat) (w : World) :
  Calls Tryz.prog 206 #[.agg #[.int .i64 7, .int .u64 (word s.testBit 0), .int .u64 (word s.testBit 1), .int .u64 (word s.testBit 2), .int .u64 (word s.testBit 3), .slice B n cap, .int .i64 lo, .int .i64 hi]] w fun e w' => e = .returned (.int .i64 3) ∧ Below w.heap.size w w' := by
 have HB := Lib.hid (((Below.refl w.heap.size w).alloc (Nat.le_refl _) (.cells #[.int .i64 7, .int .u64 (word s.testBit 0), .int .u64 (word s.testBit 1), .int .u64 (word s.testBit 2), .int .u64 (word s.testBit 3), .slice B n cap, .int .i64 lo, .int .i64 hi] 28)).alloc (by simp) (.cells #[.int .i64 0, .int .i64 3, .int .i64 0, .int .i64 3, .int .i64 2, .int .i64 1, .int .i64 3, .int .i64 3, .int .i64 3, .int .i64 3] 173))
 go_enter Tryz.func206, Tryz.ntmps206
 go_wp2
 go_light
 go_ret
 exact ⟨rfl, HB.out⟩
theorem level8 (s : Nat) (n : Nat) (lo hi : Int) (B : Option Addr) (cap : Nat) (w : World) :
  Calls Tryz.prog 206 #[.agg #[.int .i64 8, .int .u64 (word s.testBit 0), .int .u64 (word s.testBit 1), .int .u64 (word s.testBit 2), .int .u64 (word s.testBit 3), .slice B n cap, .int .i64 lo, .int .i64 hi]] w fun e w' => e = .returned (.int .i64 3) ∧ Below w.heap.size w w' := by
 have HB := Lib.hid (((Below.refl w.heap.size w).alloc (Nat.le_refl _) (.cells #[.int .i64 8, .int .u64 (word s.testBit 0), .int .u64 (word s.testBit 1), .int .u64 (word s.testBit 2), .int .u64 (word s.testBit 3), .slice B n cap, .int .i64 lo, .int .i64 hi] 28)).alloc (by simp) (.cells #[.int .i64 0, .int .i64 3, .int .i64 0, .int .i64 3, .int .i64 2, .int .i64 1, .int .i64 3, .int .i64 3, .int .i64 3, .int .i64 3] 173))
 go_enter Tryz.func206, Tryz.ntmps206
 go_wp2
 go_light
 go_ret
 exact ⟨rfl, HB.out⟩
theorem level9 (s : Nat) (n : Nat) (lo hi : Int) (B : Option Addr) (cap : Nat) (w : World) :
  Calls Tryz.prog 206 #[.agg #[.int .i64 9, .int .u64 (word s.testBit 0), .int .u64 (word s.testBit 1), .int .u64 (word s.testBit 2), .int .u64 (word s.testBit 3), .slice B n cap, .int .i64 lo, .int .i64 hi]] w fun e w' => e = .returned (.int .i64 3) ∧ Below w.heap.size w w' := by
 have HB := Lib.hid (((Below.refl w.heap.size w).alloc (Nat.le_refl _) (.cells #[.int .i64 9, .int .u64 (word s.testBit 0), .int .u64 (word s.testBit 1), .int .u64 (word s.testBit 2), .int .u64 (word s.testBit 3), .slice B n cap, .int .i64 lo, .int .i64 hi] 28)).alloc (by simp) (.cells #[.int .i64 0, .int .i64 3, .int .i64 0, .int .i64 3, .int .i64 2, .int .i64 1, .int .i64 3, .int .i64 3, .int .i64 3, .int .i64 3] 173))
 go_enter Tryz.func206, Tryz.ntmps206
 go_wp2
 go_light
 go_ret
 exact ⟨rfl, HB.out⟩
theorem level_go (z : Nd) (B : Option Addr) (cap : Nat) (w : World) (h1 : 1 ≤ z.kind) (h9 : z.kind ≤ 9) :
  Calls Tryz.prog 206 #[ndV z B cap] w fun e w' => e = .returned (.int .i64 (levelS z.kind)) ∧ Below w.heap.size w w' := by
 unfold ndV
 rcases (show z.kind = 1 ∨ z.kind = 2 ∨ z.kind = 3 ∨ z.kind = 4 ∨ z.kind = 5 ∨ z.kind = 6 ∨ z.kind = 7 ∨ z.kind = 8 ∨ z.kind = 9 by omega) with h | h | h | h | h | h | h | h | h <;> rw [h]
 ·exact level1 _ _ _ _ _ _ w
 ·exact level2 _ _ _ _ _ _ w
 ·exact level3 _ _ _ _ _ _ w
 ·exact level4 _ _ _ _ _ _ w
 ·exact level5 _ _ _ _ _ _ w
 ·exact level6 _ _ _ _ _ _ w
 ·exact level7 _ _ _ _ _ _ w
 ·exact level8 _ _ _ _ _ _ w
 ·exact level9 _ _ _ _ _ _ w
def WriteC (x : Nd) : Prop := ∀ (B : Option Addr) (cap base g : Nat) (S : Nat → Prop) (L : List Lex) (w : World), TreesAt w (fun b => ¬ S b) x.kids B → WrAt w base g S L → base ≤ w.heap.size → L.length + x.write.length ≤ 90000000 →
 Calls Tryz.prog 161 #[.pointer (some ⟨g, 0, none⟩), ndV x B cap] w (WrOut base g S w (L ++ x.write))
theorem cell_blk {w w' : World} {b o : Nat} (h : w'.heap[b]? = w.heap[b]?) : w'.cell? ⟨b, o, none⟩ = w.cell? ⟨b, o, none⟩ := by
 simp only [World.cell?, h]
theorem TreesAt.movesW {base : Nat} {S S1 : Nat → Prop} {w w1 : World} {F : Trees} {B : Option Addr} (h : TreesAt w (fun b => ¬ S b) F B) (hm : Moves base S w S1 w1) : TreesAt w1 (fun b => ¬ S1 b) F B :=
 h.keep (fun b o hb hl => cell_blk (hm.kept b hl hb)) (fun b hb hl => hm.notIn hl hb)
structure KFr (w : World) (base g pb : Nat) (S : Nat → Prop) (nd : Array Value) (S1 : Nat → Prop) (L : List Lex) (w1 : World) : Prop where
 x : Blk w1 w.heap.size 28 nd
 p : w1.cell? ⟨pb, 0, none⟩ = some (.pointer (some ⟨g, 0, none⟩))
 wr : WrAt w1 base g S1 L
 mvs : Moves base S w S1 w1
 nx : ¬ S1 w.heap.size
 np : ¬ S1 pb
 hb : base ≤ w.heap.size
 hpl : pb < w.heap.size
theorem KFr.start {w : World} {base g pb : Nat} {S : Nat → Prop} {L : List Lex} (nd : Array Value) (h : WrAt w base g S L) (hb : base ≤ w.heap.size) (hp : w.cell? ⟨pb, 0, none⟩ = some (.pointer (some ⟨g, 0, none⟩))) (hnp : ¬ S pb) : KFr w base g pb S nd S L (w.alloc (.cells nd 28)) :=
 have hl := World.block_lt_of_cell? w _ hp
 ⟨Blk.new w _ _, (cell_blk (Below.heap_alloc w _ pb hl)).trans hp, h.alloc _, (Moves.refl base S w).alloc hb _, h.not (Nat.le_refl _), hnp, hb, hl⟩
theorem KFr.go {w w1 : World} {base g pb : Nat} {S S1 : Nat → Prop} {L : List Lex} {nd : Array Value} (h : KFr w base g pb S nd S1 L w1) {w2 : World} {S2 : Nat → Prop} {L2 : List Lex} (hm : WrAt w2 base g S2 L2) (hv : Moves base S1 w1 S2 w2) : KFr w base g pb S nd S2 L2 w2 :=
 have hl : pb < w1.heap.size := World.block_lt_of_cell? w1 _ h.p
 ⟨h.x.moves hv h.nx, (cell_blk (hv.kept pb hl h.np)).trans h.p, hm, h.mvs.trans hv, hv.notIn h.x.lt h.nx, hv.notIn hl h.np, h.hb, h.hpl⟩
theorem KFr.below {w w1 : World} {base g pb : Nat} {S S1 : Nat → Prop} {L : List Lex} {nd : Array Value} (h : KFr w base g pb S nd S1 L w1) {w2 : World} (hB : Below w1.heap.size w1 w2) : KFr w base g pb S nd S1 L w2 :=
 h.go (h.wr.below hB) (Moves.of_below hB (by have := h.mvs.size; have := h.hb; omega))
theorem KFr.size {w w1 : World} {base g pb : Nat} {S S1 : Nat → Prop} {L : List Lex} {nd : Array Value} (h : KFr w base g pb S nd S1 L w1) : base ≤ w1.heap.size := by
 have := h.mvs.size; have := h.hb; omega
theorem kid_openA (z : Nd) (C : Option Addr) (cap : Nat) (least : Int) (base g pb : Nat) (S : Nat → Prop) (L : List Lex) (w : World) (ht : TreesAt w (fun b => ¬ S b) z.kids C) (h : WrAt w base g S L) (hb : base ≤ w.heap.size) (hp : w.cell? ⟨pb, 0, none⟩ = some (.pointer (some ⟨g, 0, none⟩))) (hnp : ¬ S pb) (hk1 : 1 ≤ z.kind) (hk9 : z.kind ≤ 9) (hW : WriteC z) (hl : L.length + z.write.length + 2 ≤ 90000000) (h1 : levelS z.kind < least) (h2 : 2 < least) : Calls Tryz.prog 205 #[ndV z C cap, .int .i64 least, .pointer (some ⟨pb, 0, none⟩)] w (WrOut base g S w (L ++ (lexK 2 :: (z.write ++ [lexK 3])))) := by
 have hF1 := KFr.start #[.int .i64 z.kind, .int .u64 (word z.set.testBit 0), .int .u64 (word z.set.testBit 1), .int .u64 (word z.set.testBit 2), .int .u64 (word z.set.testBit 3), .slice C z.kids.len cap, .int .i64 z.lo, .int .i64 z.hi] h hb hp hnp
 have HL1 := Lib.hid (level_go z C cap (w.alloc (.cells #[.int .i64 z.kind, .int .u64 (word z.set.testBit 0), .int .u64 (word z.set.testBit 1), .int .u64 (word z.set.testBit 2), .int .u64 (word z.set.testBit 3), .slice C z.kids.len cap, .int .i64 z.lo, .int .i64 z.hi] 28)) hk1 hk9)
 have HLV := Lib.hid (fun (w' : World) => level_go z C cap w' hk1 hk9)
 have HF1 := Lib.hid hF1
 have HT := Lib.hid ht
 have HW := Lib.hid hW
 unfold ndV at HL1 HLV ⊢
 generalize levelS z.kind = lv at *
 clear hF1 ht hW h hp hnp hk1 hk9
 go_enter Tryz.func205, Tryz.ntmps205
 go_wp2_with fail
 refine HL1.out.mono ?_
 rintro e w2 ⟨rfl, hb2⟩
 have hF2 := HF1.out.below hb2
 have n0 := (hF2).x.cell 0
 have n1 := (hF2).x.cell 1
 have n2 := (hF2).x.cell 2
 have n3 := (hF2).x.cell 3
 have n4 := (hF2).x.cell 4
 have n5 := (hF2).x.cell 5
 have n6 := (hF2).x.cell 6
 have n7 := (hF2).x.cell 7
 have p0 := (hF2).p
 have hlx := (hF2).x.lt
 simp only [getH] at n0 n1 n2 n3 n4 n5 n6 n7
 have HF2 := Lib.hid hF2
 clear hF2 HF1 HL1 hb2
 dsimp only
 have HP := Lib.hid (wput_go base g S L 2 w2 (HF2).out.wr (HF2).out.size (by omega))
 go_wp2_with fail
 refine HP.out.mono ?_
 rintro e w4 ⟨rfl, S4, hm4, hv4⟩
 have hF4 := (HF2).out.go hm4 hv4
 clear n0 n1 n2 n3 n4 n5 n6 n7 p0 hlx
 have n0 := (hF4).x.cell 0
 have n1 := (hF4).x.cell 1
 have n2 := (hF4).x.cell 2
 have n3 := (hF4).x.cell 3
 have n4 := (hF4).x.cell 4
 have n5 := (hF4).x.cell 5
 have n6 := (hF4).x.cell 6
 have n7 := (hF4).x.cell 7
 have p0 := (hF4).p
 have hlx := (hF4).x.lt
 simp only [getH] at n0 n1 n2 n3 n4 n5 n6 n7
 have HF4 := Lib.hid hF4
 clear hF4 hm4 hv4 HP HF2
 dsimp only
 have HI := Lib.hid (HW.out C cap base g S4 (L ++ [lexK 2]) w4 (HT.out.movesW (HF4).out.mvs) (HF4).out.wr (HF4).out.size (by (try simp only [List.length_append, List.length_cons, List.length_nil]); omega))
 unfold ndV at HI
 go_wp2_with fail
 refine HI.out.mono ?_
 rintro e w5 ⟨rfl, S5, hm5, hv5⟩
 have hF5 := (HF4).out.go hm5 hv5
 clear n0 n1 n2 n3 n4 n5 n6 n7 p0 hlx
 have n0 := (hF5).x.cell 0
 have n1 := (hF5).x.cell 1
 have n2 := (hF5).x.cell 2
 have n3 := (hF5).x.cell 3
 have n4 := (hF5).x.cell 4
 have n5 := (hF5).x.cell 5
 have n6 := (hF5).x.cell 6
 have n7 := (hF5).x.cell 7
 have p0 := (hF5).p
 have hlx := (hF5).x.lt
 simp only [getH] at n0 n1 n2 n3 n4 n5 n6 n7
 have HF5 := Lib.hid hF5
 clear hF5 hm5 hv5 HI
 dsimp only
 have HP := Lib.hid (wput_go base g S5 (L ++ [lexK 2] ++ z.write) 3 w5 HF5.out.wr HF5.out.size (by (try simp only [List.length_append, List.length_cons, List.length_nil]); omega))
 go_wp2_with fail
 refine HP.out.mono ?_
 rintro e w6 ⟨rfl, S6, hm6, hv6⟩
 have HF6 := Lib.hid (HF5.out.go hm6 hv6)
 clear n0 n1 n2 n3 n4 n5 n6 n7 p0 hlx
 clear hm6 hv6 HP HF5
 dsimp only
 go_wp2
 go_light
 go_end0
 have e6 : L ++ (lexK 2 :: (z.write ++ [lexK 3])) = L ++ [lexK 2] ++ z.write ++ [lexK 3] := by simp
 rw [e6]
 exact ⟨rfl, S6, HF6.out.wr, HF6.out.mvs⟩
theorem kid_openB (z : Nd) (C : Option Addr) (cap : Nat) (least : Int) (base g pb : Nat) (S : Nat → Prop) (L : List Lex) (w : World) (ht : TreesAt w (fun b => ¬ S b) z.kids C) (h : WrAt w base g S L) (hb : base ≤ w.heap.size) (hp : w.cell? ⟨pb, 0, none⟩ = some (.pointer (some ⟨g, 0, none⟩))) (hnp : ¬ S pb) (hk1 : 1 ≤ z.kind) (hk9 : z.kind ≤ 9) (hW : WriteC z) (hl : L.length + z.write.length + 2 ≤ 90000000) (h1 : levelS z.kind < least) (h2 : ¬ 2 < least) (h3 : 0 < levelS z.kind) : Calls Tryz.prog 205 #[ndV z C cap, .int .i64 least, .pointer (some ⟨pb, 0, none⟩)] w (WrOut base g S w (L ++ (lexK 2 :: (z.write ++ [lexK 3])))) := by
 have hF1 := KFr.start #[.int .i64 z.kind, .int .u64 (word z.set.testBit 0), .int .u64 (word z.set.testBit 1), .int .u64 (word z.set.testBit 2), .int .u64 (word z.set.testBit 3), .slice C z.kids.len cap, .int .i64 z.lo, .int .i64 z.hi] h hb hp hnp
 have HL1 := Lib.hid (level_go z C cap (w.alloc (.cells #[.int .i64 z.kind, .int .u64 (word z.set.testBit 0), .int .u64 (word z.set.testBit 1), .int .u64 (word z.set.testBit 2), .int .u64 (word z.set.testBit 3), .slice C z.kids.len cap, .int .i64 z.lo, .int .i64 z.hi] 28)) hk1 hk9)
 have HLV := Lib.hid (fun (w' : World) => level_go z C cap w' hk1 hk9)
 have HF1 := Lib.hid hF1
 have HT := Lib.hid ht
 have HW := Lib.hid hW
 unfold ndV at HL1 HLV ⊢
 generalize levelS z.kind = lv at *
 clear hF1 ht hW h hp hnp hk1 hk9
 go_enter Tryz.func205, Tryz.ntmps205
 go_wp2_with fail
 refine HL1.out.mono ?_
 rintro e w2 ⟨rfl, hb2⟩
 have hF2 := HF1.out.below hb2
 have n0 := (hF2).x.cell 0
 have n1 := (hF2).x.cell 1
 have n2 := (hF2).x.cell 2
 have n3 := (hF2).x.cell 3
 have n4 := (hF2).x.cell 4
 have n5 := (hF2).x.cell 5
 have n6 := (hF2).x.cell 6
 have n7 := (hF2).x.cell 7
 have p0 := (hF2).p
 have hlx := (hF2).x.lt
 simp only [getH] at n0 n1 n2 n3 n4 n5 n6 n7
 have HF2 := Lib.hid hF2
 clear hF2 HF1 HL1 hb2
 dsimp only
 go_wp2_with fail
 refine (HLV.out _).mono ?_
 rintro e w3 ⟨rfl, hb3⟩
 have hF3 := HF2.out.below hb3
 clear n0 n1 n2 n3 n4 n5 n6 n7 p0 hlx
 have n0 := (hF3).x.cell 0
 have n1 := (hF3).x.cell 1
 have n2 := (hF3).x.cell 2
 have n3 := (hF3).x.cell 3
 have n4 := (hF3).x.cell 4
 have n5 := (hF3).x.cell 5
 have n6 := (hF3).x.cell 6
 have n7 := (hF3).x.cell 7
 have p0 := (hF3).p
 have hlx := (hF3).x.lt
 simp only [getH] at n0 n1 n2 n3 n4 n5 n6 n7
 have HF3 := Lib.hid hF3
 clear hF3 hb3 HF2
 dsimp only
 have HP := Lib.hid (wput_go base g S L 2 w3 (HF3).out.wr (HF3).out.size (by omega))
 go_wp2_with fail
 refine HP.out.mono ?_
 rintro e w4 ⟨rfl, S4, hm4, hv4⟩
 have hF4 := (HF3).out.go hm4 hv4
 clear n0 n1 n2 n3 n4 n5 n6 n7 p0 hlx
 have n0 := (hF4).x.cell 0
 have n1 := (hF4).x.cell 1
 have n2 := (hF4).x.cell 2
 have n3 := (hF4).x.cell 3
 have n4 := (hF4).x.cell 4
 have n5 := (hF4).x.cell 5
 have n6 := (hF4).x.cell 6
 have n7 := (hF4).x.cell 7
 have p0 := (hF4).p
 have hlx := (hF4).x.lt
 simp only [getH] at n0 n1 n2 n3 n4 n5 n6 n7
 have HF4 := Lib.hid hF4
 clear hF4 hm4 hv4 HP HF3
 dsimp only
 have HI := Lib.hid (HW.out C cap base g S4 (L ++ [lexK 2]) w4 (HT.out.movesW (HF4).out.mvs) (HF4).out.wr (HF4).out.size (by (try simp only [List.length_append, List.length_cons, List.length_nil]); omega))
 unfold ndV at HI
 go_wp2_with fail
 refine HI.out.mono ?_
 rintro e w5 ⟨rfl, S5, hm5, hv5⟩
 have hF5 := (HF4).out.go hm5 hv5
 clear n0 n1 n2 n3 n4 n5 n6 n7 p0 hlx
 have n0 := (hF5).x.cell 0
 have n1 := (hF5).x.cell 1
 have n2 := (hF5).x.cell 2
 have n3 := (hF5).x.cell 3
 have n4 := (hF5).x.cell 4
 have n5 := (hF5).x.cell 5
 have n6 := (hF5).x.cell 6
 have n7 := (hF5).x.cell 7
 have p0 := (hF5).p
 have hlx := (hF5).x.lt
 simp only [getH] at n0 n1 n2 n3 n4 n5 n6 n7
 have HF5 := Lib.hid hF5
 clear hF5 hm5 hv5 HI
 dsimp only
 have HP := Lib.hid (wput_go base g S5 (L ++ [lexK 2] ++ z.write) 3 w5 HF5.out.wr HF5.out.size (by (try simp only [List.length_append, List.length_cons, List.length_nil]); omega))
 go_wp2_with fail
 refine HP.out.mono ?_
 rintro e w6 ⟨rfl, S6, hm6, hv6⟩
 have HF6 := Lib.hid (HF5.out.go hm6 hv6)
 clear n0 n1 n2 n3 n4 n5 n6 n7 p0 hlx
 clear hm6 hv6 HP HF5
 dsimp only
 go_wp2
 go_light
 go_end0
 have e6 : L ++ (lexK 2 :: (z.write ++ [lexK 3])) = L ++ [lexK 2] ++ z.write ++ [lexK 3] := by simp
 rw [e6]
 exact ⟨rfl, S6, HF6.out.wr, HF6.out.mvs⟩
theorem kid_plainC (z : Nd) (C : Option Addr) (cap : Nat) (least : Int) (base g pb : Nat) (S : Nat → Prop) (L : List Lex) (w : World) (ht : TreesAt w (fun b => ¬ S b) z.kids C) (h : WrAt w base g S L) (hb : base ≤ w.heap.size) (hp : w.cell? ⟨pb, 0, none⟩ = some (.pointer (some ⟨g, 0, none⟩))) (hnp : ¬ S pb) (hk1 : 1 ≤ z.kind) (hk9 : z.kind ≤ 9) (hW : WriteC z) (hl : L.length + z.write.length ≤ 90000000) (h1 : ¬ levelS z.kind < least) : Calls Tryz.prog 205 #[ndV z C cap, .int .i64 least, .pointer (some ⟨pb, 0, none⟩)] w (WrOut base g S w (L ++ z.write)) := by
 have hF1 := KFr.start #[.int .i64 z.kind, .int .u64 (word z.set.testBit 0), .int .u64 (word z.set.testBit 1), .int .u64 (word z.set.testBit 2), .int .u64 (word z.set.testBit 3), .slice C z.kids.len cap, .int .i64 z.lo, .int .i64 z.hi] h hb hp hnp
 have HL1 := Lib.hid (level_go z C cap (w.alloc (.cells #[.int .i64 z.kind, .int .u64 (word z.set.testBit 0), .int .u64 (word z.set.testBit 1), .int .u64 (word z.set.testBit 2), .int .u64 (word z.set.testBit 3), .slice C z.kids.len cap, .int .i64 z.lo, .int .i64 z.hi] 28)) hk1 hk9)
 have HLV := Lib.hid (fun (w' : World) => level_go z C cap w' hk1 hk9)
 have HF1 := Lib.hid hF1
 have HT := Lib.hid ht
 have HW := Lib.hid hW
 unfold ndV at HL1 HLV ⊢
 generalize levelS z.kind = lv at *
 clear hF1 ht hW h hp hnp hk1 hk9
 go_enter Tryz.func205, Tryz.ntmps205
 go_wp2_with fail
 refine HL1.out.mono ?_
 rintro e w2 ⟨rfl, hb2⟩
 have hF2 := HF1.out.below hb2
 have n0 := (hF2).x.cell 0
 have n1 := (hF2).x.cell 1
 have n2 := (hF2).x.cell 2
 have n3 := (hF2).x.cell 3
 have n4 := (hF2).x.cell 4
 have n5 := (hF2).x.cell 5
 have n6 := (hF2).x.cell 6
 have n7 := (hF2).x.cell 7
 have p0 := (hF2).p
 have hlx := (hF2).x.lt
 simp only [getH] at n0 n1 n2 n3 n4 n5 n6 n7
 have HF2 := Lib.hid hF2
 clear hF2 HF1 HL1 hb2
 dsimp only
 have HI := Lib.hid (HW.out C cap base g S L w2 (HT.out.movesW (HF2).out.mvs) (HF2).out.wr (HF2).out.size (by (try simp only [List.length_append, List.length_cons, List.length_nil]); omega))
 unfold ndV at HI
 go_wp2_with fail
 refine HI.out.mono ?_
 rintro e w5 ⟨rfl, S5, hm5, hv5⟩
 have hF5 := (HF2).out.go hm5 hv5
 clear n0 n1 n2 n3 n4 n5 n6 n7 p0 hlx
 have n0 := (hF5).x.cell 0
 have n1 := (hF5).x.cell 1
 have n2 := (hF5).x.cell 2
 have n3 := (hF5).x.cell 3
 have n4 := (hF5).x.cell 4
 have n5 := (hF5).x.cell 5
 have n6 := (hF5).x.cell 6
 have n7 := (hF5).x.cell 7
 have p0 := (hF5).p
 have hlx := (hF5).x.lt
 simp only [getH] at n0 n1 n2 n3 n4 n5 n6 n7
 have HF5 := Lib.hid hF5
 clear hF5 hm5 hv5 HI
 dsimp only
 go_wp2
 go_light
 go_end0
 exact ⟨rfl, S5, HF5.out.wr, HF5.out.mvs⟩
theorem kid_plainD (z : Nd) (C : Option Addr) (cap : Nat) (least : Int) (base g pb : Nat) (S : Nat → Prop) (L : List Lex) (w : World) (ht : TreesAt w (fun b => ¬ S b) z.kids C) (h : WrAt w base g S L) (hb : base ≤ w.heap.size) (hp : w.cell? ⟨pb, 0, none⟩ = some (.pointer (some ⟨g, 0, none⟩))) (hnp : ¬ S pb) (hk1 : 1 ≤ z.kind) (hk9 : z.kind ≤ 9) (hW : WriteC z) (hl : L.length + z.write.length ≤ 90000000) (h1 : levelS z.kind < least) (h2 : ¬ 2 < least) (h3 : ¬ 0 < levelS z.kind) : Calls Tryz.prog 205 #[ndV z C cap, .int .i64 least, .pointer (some ⟨pb, 0, none⟩)] w (WrOut base g S w (L ++ z.write)) := by
 have hF1 := KFr.start #[.int .i64 z.kind, .int .u64 (word z.set.testBit 0), .int .u64 (word z.set.testBit 1), .int .u64 (word z.set.testBit 2), .int .u64 (word z.set.testBit 3), .slice C z.kids.len cap, .int .i64 z.lo, .int .i64 z.hi] h hb hp hnp
 have HL1 := Lib.hid (level_go z C cap (w.alloc (.cells #[.int .i64 z.kind, .int .u64 (word z.set.testBit 0), .int .u64 (word z.set.testBit 1), .int .u64 (word z.set.testBit 2), .int .u64 (word z.set.testBit 3), .slice C z.kids.len cap, .int .i64 z.lo, .int .i64 z.hi] 28)) hk1 hk9)
 have HLV := Lib.hid (fun (w' : World) => level_go z C cap w' hk1 hk9)
 have HF1 := Lib.hid hF1
 have HT := Lib.hid ht
 have HW := Lib.hid hW
 unfold ndV at HL1 HLV ⊢
 generalize levelS z.kind = lv at *
 clear hF1 ht hW h hp hnp hk1 hk9
 go_enter Tryz.func205, Tryz.ntmps205
 go_wp2_with fail
 refine HL1.out.mono ?_
 rintro e w2 ⟨rfl, hb2⟩
 have hF2 := HF1.out.below hb2
 have n0 := (hF2).x.cell 0
 have n1 := (hF2).x.cell 1
 have n2 := (hF2).x.cell 2
 have n3 := (hF2).x.cell 3
 have n4 := (hF2).x.cell 4
 have n5 := (hF2).x.cell 5
 have n6 := (hF2).x.cell 6
 have n7 := (hF2).x.cell 7
 have p0 := (hF2).p
 have hlx := (hF2).x.lt
 simp only [getH] at n0 n1 n2 n3 n4 n5 n6 n7
 have HF2 := Lib.hid hF2
 clear hF2 HF1 HL1 hb2
 dsimp only
 go_wp2_with fail
 refine (HLV.out _).mono ?_
 rintro e w3 ⟨rfl, hb3⟩
 have hF3 := HF2.out.below hb3
 clear n0 n1 n2 n3 n4 n5 n6 n7 p0 hlx
 have n0 := (hF3).x.cell 0
 have n1 := (hF3).x.cell 1
 have n2 := (hF3).x.cell 2
 have n3 := (hF3).x.cell 3
 have n4 := (hF3).x.cell 4
 have n5 := (hF3).x.cell 5
 have n6 := (hF3).x.cell 6
 have n7 := (hF3).x.cell 7
 have p0 := (hF3).p
 have hlx := (hF3).x.lt
 simp only [getH] at n0 n1 n2 n3 n4 n5 n6 n7
 have HF3 := Lib.hid hF3
 clear hF3 hb3 HF2
 dsimp only
 have HI := Lib.hid (HW.out C cap base g S L w3 (HT.out.movesW (HF3).out.mvs) (HF3).out.wr (HF3).out.size (by (try simp only [List.length_append, List.length_cons, List.length_nil]); omega))
 unfold ndV at HI
 go_wp2_with fail
 refine HI.out.mono ?_
 rintro e w5 ⟨rfl, S5, hm5, hv5⟩
 have hF5 := (HF3).out.go hm5 hv5
 clear n0 n1 n2 n3 n4 n5 n6 n7 p0 hlx
 have n0 := (hF5).x.cell 0
 have n1 := (hF5).x.cell 1
 have n2 := (hF5).x.cell 2
 have n3 := (hF5).x.cell 3
 have n4 := (hF5).x.cell 4
 have n5 := (hF5).x.cell 5
 have n6 := (hF5).x.cell 6
 have n7 := (hF5).x.cell 7
 have p0 := (hF5).p
 have hlx := (hF5).x.lt
 simp only [getH] at n0 n1 n2 n3 n4 n5 n6 n7
 have HF5 := Lib.hid hF5
 clear hF5 hm5 hv5 HI
 dsimp only
 go_wp2
 go_light
 go_end0
 exact ⟨rfl, S5, HF5.out.wr, HF5.out.mvs⟩
def leastS (p : Int) : Int := if p = 5 then 2 else 3
theorem kid_go (p : Int) (z : Nd) (C : Option Addr) (cap : Nat) (least : Int) (base g pb : Nat) (S : Nat → Prop) (L : List Lex) (w : World) (ht : TreesAt w (fun b => ¬ S b) z.kids C) (h : WrAt w base g S L) (hb : base ≤ w.heap.size) (hp : w.cell? ⟨pb, 0, none⟩ = some (.pointer (some ⟨g, 0, none⟩))) (hnp : ¬ S pb) (hk1 : 1 ≤ z.kind) (hk9 : z.kind ≤ 9) (hW : WriteC z) (hl : L.length + (kidS p (z.kind, z.write)).length ≤ 90000000) (hle : least = leastS p) : Calls Tryz.prog 205 #[ndV z C cap, .int .i64 least, .pointer (some ⟨pb, 0, none⟩)] w (WrOut base g S w (L ++ kidS p (z.kind, z.write))) := by
 have hlv : levelS z.kind = 0 ∧ z.kind = 2 ∨ levelS z.kind = 1 ∧ z.kind = 5 ∨ levelS z.kind = 2 ∧ z.kind = 4 ∨ levelS z.kind = 3 ∧ z.kind ≠ 2 ∧ z.kind ≠ 4 ∧ z.kind ≠ 5 := by
  unfold levelS
  repeat' split
  all_goals omega
 unfold leastS at hle
 unfold kidS at hl ⊢
 cases hb' : brS p z.kind with
 | true =>
  rw [if_pos rfl]
  rw [if_pos (show brS p (z.kind, z.write).1 = true from hb')] at hl
  simp only [List.length_cons, List.length_append, List.length_nil] at hl
  have hbr : z.kind = 5 ∨ p ≠ 5 ∧ (z.kind = 4 ∨ z.kind = 2) := by unfold brS at hb'; simpa using hb'
  split at hle
  ·exact kid_openB z C cap least base g pb S L w ht h hb hp hnp hk1 hk9 hW (by omega) (by omega) (by omega) (by omega)
  ·exact kid_openA z C cap least base g pb S L w ht h hb hp hnp hk1 hk9 hW (by omega) (by omega) (by omega)
 | false =>
  rw [if_neg (by decide)]
  rw [if_neg (show ¬ brS p (z.kind, z.write).1 = true from by rw [show brS p (z.kind, z.write).1 = false from hb']; decide)] at hl
  have hbr : z.kind ≠ 5 ∧ (p = 5 ∨ z.kind ≠ 4 ∧ z.kind ≠ 2) := by
   unfold brS at hb'
   simp at hb'
   refine ⟨hb'.1, ?_⟩
   by_cases hp5 : p = 5
   ·exact .inl hp5
   ·exact .inr (hb'.2 hp5)
  by_cases hlt : levelS z.kind < least
  ·split at hle
   ·exact kid_plainD z C cap least base g pb S L w ht h hb hp hnp hk1 hk9 hW hl hlt (by omega) (by omega)
   ·exact absurd hlt (by omega)
  ·exact kid_plainC z C cap least base g pb S L w ht h hb hp hnp hk1 hk9 hW hl hlt
theorem one_kid {x : Nd} (h : x.kids.len = 1) : ∃ z, x.kids.list = [z] ∧ x.kids.list[0]? = some z := by
 have : x.kids.list.length = 1 := by rw [Trees.len_list]; exact h
 obtain ⟨z, hz⟩ := List.length_eq_one_iff.1 this
 exact ⟨z, hz, by rw [hz]; rfl⟩
end
section
def noneN : Nd := ⟨1, 0, .nil, 0, 0⟩
noncomputable def sameN (x y : Nd) : Bool := @decide (x = y) (Classical.propDecidable _)
theorem sameN_iff {x y : Nd} : sameN x y = true ↔ x = y := by unfold sameN; exact @decide_eq_true_iff _ (Classical.propDecidable _)
theorem sameN_self (x : Nd) : sameN x x = true := sameN_iff.2 rfl
theorem sameN_no {x y : Nd} (h : x ≠ y) : sameN x y = false := by
 cases hb : sameN x y with
 | false => rfl
 | true => exact absurd (sameN_iff.1 hb) h
def flatK (kind gone : Int) (x : Nd) : List Nd := if x.kind = kind then x.kids.list else if x.kind = gone then [] else [x]
def flatQ (kind : Int) (x : Nd) : List Nd := if x.kind = kind then x.kids.list else [x]
def isK (k : Int) (x : Nd) : Bool := decide (x.kind = k)
def catP (l : List Nd) : Nd := if (l.flatMap (flatK 4 2)).any (isK 1) = true then noneN else manyN 4 2 (l.flatMap (flatK 4 2))
def joinN (y x : Nd) : Nd := ⟨y.kind, y.set ||| x.set, y.kids, y.lo, y.hi⟩
noncomputable def addP (st : List Nd × Option Nat) (x : Nd) : List Nd × Option Nat :=
 if x.kind = 3 then
  match st.2 with
  | some i => (st.1.modify i (fun y => joinN y x), some i)
  | none => (st.1 ++ [x], some st.1.length)
 else if st.1.any (sameN x) = true then st else (st.1 ++ [x], st.2)
noncomputable def altP (l : List Nd) : Nd := manyN 5 1 ((l.flatMap (flatK 5 1)).foldl addP ([], none)).1
def overN (k : Int) (x : Nd) : Nd := ⟨k, 0, Trees.of [x], 0, 0⟩
def kid0 (x : Nd) : Nd := x.kids.list.headD noneN
def starP (x : Nd) : Nd := if x.kind = 1 ∨ x.kind = 2 then emptyN else if x.kind = 6 ∨ x.kind = 7 ∨ x.kind = 8 then overN 6 (kid0 x) else overN 6 x
def plusP (x : Nd) : Nd := if x.kind = 1 ∨ x.kind = 2 ∨ x.kind = 6 ∨ x.kind = 7 then x else if x.kind = 8 then overN 6 (kid0 x) else overN 7 x
def optP (x : Nd) : Nd := if x.kind = 1 then emptyN else if x.kind = 2 ∨ x.kind = 6 ∨ x.kind = 8 then x else if x.kind = 7 then overN 6 (kid0 x) else overN 8 x
def repP (x : Nd) (lo hi : Int) : Nd :=
 if hi = 0 ∨ x.kind = 2 then emptyN else if x.kind = 1 ∧ lo = 0 then emptyN else if x.kind = 1 then noneN
 else if lo = 1 ∧ hi = 1 then x else if lo = 0 ∧ hi = -1 then starP x else if lo = 1 ∧ hi = -1 then plusP x else if lo = 0 ∧ hi = 1 then optP x
 else ⟨9, 0, Trees.of [x], lo, hi⟩
noncomputable def simK (k : Int) (s : Nat) (ks : Trees) (lo hi : Int) (L : List Nd) : Nd :=
 if k = 3 then (if isNoSet s = true then noneN else ⟨k, s, ks, lo, hi⟩)
 else if k = 4 then catP L else if k = 5 then altP L
 else if k = 6 then starP (L.headD noneN) else if k = 7 then plusP (L.headD noneN) else if k = 8 then optP (L.headD noneN)
 else if k = 9 then repP (L.headD noneN) lo hi else ⟨k, s, ks, lo, hi⟩
noncomputable def Trees.sims : Trees → List Nd
 | .nil => []
 | .cons k s ks lo hi r => simK k s ks lo hi ks.sims :: r.sims
noncomputable def Nd.sim (x : Nd) : Nd := simK x.kind x.set x.kids x.lo x.hi x.kids.sims
theorem Trees.sims_list : ∀ F : Trees, F.sims = F.list.map Nd.sim
 | .nil => rfl
 | .cons k s ks lo hi r => by rw [Trees.sims, Trees.list, List.map_cons, Trees.sims_list r]; rfl
def catQ (l : List Nd) : Nd := if (l.flatMap (flatQ 4)).any (isK 1) = true then noneN else manyN 4 2 ((l.flatMap (flatQ 4)).filter (fun x => !isK 2 x))
def unionQ (l : List Nd) : Nat := l.foldl (fun s x => if x.kind = 3 then s ||| x.set else s) 0
def replQ (s : Nat) (x : Nd) : Nd := if x.kind = 3 then ⟨x.kind, s, x.kids, x.lo, x.hi⟩ else x
noncomputable def addQ (s : Nat) (out : List Nd) (x : Nd) : List Nd := if x.kind = 1 ∨ out.any (fun y => sameN y (replQ s x)) = true then out else out ++ [replQ s x]
noncomputable def altQ (l : List Nd) : Nd := manyN 5 1 ((l.flatMap (flatQ 5)).foldl (addQ (unionQ (l.flatMap (flatQ 5)))) [])
def starQ (x : Nd) : Nd := if x.kind = 1 ∨ x.kind = 2 then emptyN else if x.kind = 6 ∨ x.kind = 7 ∨ x.kind = 8 then ⟨6, 0, x.kids, 0, 0⟩ else overN 6 x
def plusQ (x : Nd) : Nd := if x.kind = 1 ∨ x.kind = 2 ∨ x.kind = 6 ∨ x.kind = 7 then x else if x.kind = 8 then ⟨6, 0, x.kids, 0, 0⟩ else overN 7 x
def optQ (x : Nd) : Nd := if x.kind = 1 then emptyN else if x.kind = 2 ∨ x.kind = 6 ∨ x.kind = 8 then x else if x.kind = 7 then ⟨6, 0, x.kids, 0, 0⟩ else overN 8 x
def repQ (x : Nd) (lo hi : Int) : Nd :=
 if hi = 0 ∨ x.kind = 2 ∨ (x.kind = 1 ∧ lo = 0) then emptyN else if x.kind = 1 ∨ (lo = 1 ∧ hi = 1) then x
 else if hi = -1 ∧ lo = 0 then starQ x else if hi = -1 ∧ lo = 1 then plusQ x else if hi = 1 then optQ x else ⟨9, 0, Trees.of [x], lo, hi⟩
noncomputable def simQK (k : Int) (s : Nat) (ks : Trees) (lo hi : Int) (L : List Nd) : Nd :=
 if k = 3 then (if isNoSet s = true then noneN else ⟨k, s, ks, lo, hi⟩)
 else if k = 4 then catQ L else if k = 5 then altQ L
 else if k = 6 then starQ (L.headD noneN) else if k = 7 then plusQ (L.headD noneN) else if k = 8 then optQ (L.headD noneN)
 else if k = 9 then repQ (L.headD noneN) lo hi else ⟨k, s, ks, lo, hi⟩
noncomputable def Trees.simqs : Trees → List Nd
 | .nil => []
 | .cons k s ks lo hi r => simQK k s ks lo hi ks.simqs :: r.simqs
noncomputable def Nd.simq (x : Nd) : Nd := simQK x.kind x.set x.kids x.lo x.hi x.kids.simqs
def OkV (k : Int) (s : Nat) (lo hi : Int) (n : Nat) : Prop :=
 s < 2 ^ 256 ∧ ((1 ≤ k ∧ k ≤ 2 ∧ s = 0 ∧ lo = 0 ∧ hi = 0 ∧ n = 0) ∨ (k = 3 ∧ lo = 0 ∧ hi = 0 ∧ n = 0) ∨ (4 ≤ k ∧ k ≤ 5 ∧ s = 0 ∧ lo = 0 ∧ hi = 0 ∧ 2 ≤ n) ∨ (6 ≤ k ∧ k ≤ 8 ∧ s = 0 ∧ lo = 0 ∧ hi = 0 ∧ n = 1) ∨ (k = 9 ∧ s = 0 ∧ n = 1 ∧ 0 ≤ lo ∧ lo ≤ 1000 ∧ (hi = -1 ∨ lo ≤ hi) ∧ hi ≤ 1000))
def OkN (y : Nd) : Prop := OkV y.kind y.set y.lo y.hi y.kids.len
def FsN (y : Nd) : Prop :=
 (y.kind = 3 → y.set ≠ 0) ∧
 (y.kind = 4 → ∀ z ∈ y.kids.list, z.kind ≠ 1 ∧ z.kind ≠ 2 ∧ z.kind ≠ 4) ∧
 (y.kind = 5 → (∀ z ∈ y.kids.list, z.kind ≠ 1 ∧ z.kind ≠ 5) ∧ y.kids.list.Nodup ∧ (y.kids.list.filter (isK 3)).length ≤ 1) ∧
 (6 ≤ y.kind ∧ y.kind ≤ 8 → ∀ z ∈ y.kids.list, z.kind ≠ 1 ∧ z.kind ≠ 2 ∧ z.kind ≠ 6 ∧ z.kind ≠ 7 ∧ z.kind ≠ 8) ∧
 (y.kind = 9 → (∀ z ∈ y.kids.list, z.kind ≠ 1 ∧ z.kind ≠ 2) ∧ y.hi ≠ 0 ∧ ¬ (y.lo = 1 ∧ y.hi = 1) ∧ ¬ (y.lo = 0 ∧ y.hi = -1) ∧ ¬ (y.lo = 1 ∧ y.hi = -1) ∧ ¬ (y.lo = 0 ∧ y.hi = 1))
def SG (x : Nd) : Prop := ∀ y ∈ x.nodes, OkN y ∧ FsN y
theorem nodes_of : ∀ (l : List Nd) (y : Nd), y ∈ (Trees.of l).nodes ↔ ∃ z ∈ l, y ∈ z.nodes
 | [], y => by simp [Trees.of, Trees.nodes]
 | x :: l, y => by
  rw [Trees.of, Trees.nodes, List.mem_cons, List.mem_append, nodes_of l y]
  constructor
  ·rintro (h | h | ⟨z, hz, h⟩)
   ·exact ⟨x, by simp, by rw [h]; exact List.mem_cons_self⟩
   ·exact ⟨x, by simp, List.mem_cons_of_mem _ h⟩
   ·exact ⟨z, by simp [hz], h⟩
  ·rintro ⟨z, hz, h⟩
   rcases List.mem_cons.1 hz with rfl | hz
   ·rcases List.mem_cons.1 h with h | h
    ·exact .inl h
    ·exact .inr (.inl h)
   ·exact .inr (.inr ⟨z, hz, h⟩)
theorem nodes_list (F : Trees) (y : Nd) : y ∈ F.nodes ↔ ∃ z ∈ F.list, y ∈ z.nodes := by
 have := nodes_of F.list y
 rwa [Trees.of_list] at this
theorem sg_iff {x : Nd} : SG x ↔ (OkN x ∧ FsN x) ∧ ∀ z ∈ x.kids.list, SG z := by
 unfold SG
 constructor
 ·intro h
  exact ⟨h x List.mem_cons_self, fun z hz y hy => h y (List.mem_cons_of_mem _ ((nodes_list _ _).2 ⟨z, hz, hy⟩))⟩
 ·rintro ⟨h1, h2⟩ y hy
  rcases List.mem_cons.1 hy with rfl | hy
  ·exact h1
  ·obtain ⟨z, hz, hy⟩ := (nodes_list _ _).1 hy
   exact h2 z hz y hy
theorem sg_none : SG noneN := sg_iff.2 ⟨⟨⟨by decide, .inl ⟨by decide, by decide, rfl, rfl, rfl, rfl⟩⟩, by simp [FsN, noneN]⟩, fun z hz => by cases hz⟩
theorem sg_empty : SG emptyN := sg_iff.2 ⟨⟨⟨by decide, .inl ⟨by decide, by decide, rfl, rfl, rfl, rfl⟩⟩, by simp [FsN, emptyN]⟩, fun z hz => by cases hz⟩
theorem list_nil {F : Trees} (h : F.len = 0) : F = .nil := by
 cases F with
 | nil => rfl
 | cons k s ks lo hi r => simp [Trees.len] at h
theorem ok_none {x : Nd} (h : OkN x) (hk : x.kind = 1) : x = noneN := by
 obtain ⟨k, s, F, lo, hi⟩ := x
 obtain ⟨_, h⟩ := h
 simp only at h hk
 have hf : F.len = 0 ∧ s = 0 ∧ lo = 0 ∧ hi = 0 := by omega
 obtain ⟨h1, rfl, rfl, rfl⟩ := hf
 rw [list_nil h1, hk]
 rfl
theorem ok_set {x : Nd} (h : OkN x) (hk : x.kind = 3) : x = ⟨3, x.set, .nil, 0, 0⟩ := by
 obtain ⟨k, s, F, lo, hi⟩ := x
 obtain ⟨_, h⟩ := h
 simp only at h hk
 have hf : F.len = 0 ∧ lo = 0 ∧ hi = 0 := by omega
 obtain ⟨h1, rfl, rfl⟩ := hf
 rw [list_nil h1, hk]
theorem ok_one {x : Nd} (h : OkN x) (hk : 6 ≤ x.kind) : ∃ z, x.kids.list = [z] := by
 obtain ⟨_, h⟩ := h
 have hf : x.kids.len = 1 := by omega
 rw [← Trees.len_list] at hf
 exact List.length_eq_one_iff.1 hf
theorem one_trees {F : Trees} {z : Nd} (h : F.list = [z]) : F = Trees.of [z] := by rw [← h, Trees.of_list]
theorem kid0_one {x : Nd} {z : Nd} (h : x.kids.list = [z]) : kid0 x = z := by unfold kid0; rw [h]; rfl
theorem many_sg {k n : Int} {l : List Nd} (he : SG ⟨n, 0, .nil, 0, 0⟩) (hl : ∀ x ∈ l, SG x) (hk : ∀ x y m, l = x :: y :: m → OkN ⟨k, 0, Trees.of l, 0, 0⟩ ∧ FsN ⟨k, 0, Trees.of l, 0, 0⟩) : SG (manyN k n l) := by
 match l, hl, hk with
 | [], _, _ => exact he
 | [x], hl, _ => exact hl x (by simp)
 | x :: y :: m, hl, hk =>
  refine sg_iff.2 ⟨hk x y m rfl, fun z hz => hl z ?_⟩
  have hz : z ∈ (Trees.of (x :: y :: m)).list := hz
  rwa [Trees.list_of] at hz
theorem ok_many {k : Int} (h4 : 4 ≤ k) (h5 : k ≤ 5) (x y : Nd) (m : List Nd) : OkN ⟨k, 0, Trees.of (x :: y :: m), 0, 0⟩ :=
 ⟨by show 0 < 2 ^ 256; decide, .inr (.inr (.inl ⟨h4, h5, rfl, rfl, rfl, by rw [Trees.len_of]; simp⟩))⟩
theorem flat4 {l : List Nd} (h : ∀ x ∈ l, SG x) : ∀ z ∈ l.flatMap (flatK 4 2), SG z ∧ z.kind ≠ 2 ∧ z.kind ≠ 4 := by
 intro z hz
 obtain ⟨x, hx, hz⟩ := List.mem_flatMap.1 hz
 have hs := h x hx
 unfold flatK at hz
 by_cases h4 : x.kind = 4
 ·rw [if_pos h4] at hz
  have hh := sg_iff.1 hs
  have := hh.1.2.2.1 h4 z hz
  exact ⟨hh.2 z hz, this.2.1, this.2.2⟩
 rw [if_neg h4] at hz
 by_cases h2 : x.kind = 2
 ·rw [if_pos h2] at hz
  cases hz
 ·rw [if_neg h2] at hz
  obtain rfl : z = x := by simpa using hz
  exact ⟨hs, h2, h4⟩
theorem catP_sg {l : List Nd} (h : ∀ x ∈ l, SG x) : SG (catP l) := by
 unfold catP
 have hf := flat4 h
 by_cases h1 : (l.flatMap (flatK 4 2)).any (isK 1) = true
 ·rw [if_pos h1]
  exact sg_none
 ·rw [if_neg h1]
  have hn : ∀ z ∈ l.flatMap (flatK 4 2), z.kind ≠ 1 := fun z hz hk => h1 (List.any_eq_true.2 ⟨z, hz, by unfold isK; exact decide_eq_true hk⟩)
  generalize l.flatMap (flatK 4 2) = m at *
  refine many_sg sg_empty (fun x hx => (hf x hx).1) (fun x y r e => ?_)
  rw [e]
  refine ⟨ok_many (by decide) (by decide) x y r, by simp, fun _ z hz => ?_, by simp, by simp, by simp⟩
  have hz : z ∈ (Trees.of (x :: y :: r)).list := hz
  rw [Trees.list_of, ← e] at hz
  exact ⟨hn z hz, (hf z hz).2⟩
theorem flat_filter (x : Nd) (h : SG x) : (flatQ 4 x).filter (fun x => !isK 2 x) = flatK 4 2 x := by
 unfold flatQ flatK
 by_cases h4 : x.kind = 4
 ·rw [if_pos h4, if_pos h4]
  refine List.filter_eq_self.2 fun z hz => ?_
  have := ((sg_iff.1 h).1.2.2.1 h4 z hz).2.1
  unfold isK
  rw [decide_eq_false this]
  rfl
 ·rw [if_neg h4, if_neg h4]
  by_cases h2 : x.kind = 2
  ·rw [if_pos h2]
   simp [isK, h2]
  ·rw [if_neg h2]
   simp [isK, h2]
theorem flat_any (x : Nd) (h : SG x) : (flatQ 4 x).any (isK 1) = (flatK 4 2 x).any (isK 1) := by
 rw [← flat_filter x h, List.any_filter]
 refine congrArg (fun f => (flatQ 4 x).any f) (funext fun z => ?_)
 unfold isK
 by_cases h1 : z.kind = 1
 ·simp [h1]
 ·simp [h1]
theorem catQ_eq {l : List Nd} (h : ∀ x ∈ l, SG x) : catQ l = catP l := by
 have e1 : (l.flatMap (flatQ 4)).any (isK 1) = (l.flatMap (flatK 4 2)).any (isK 1) := by
  rw [List.any_flatMap, List.any_flatMap]
  induction l with
  | nil => rfl
  | cons x l ih => rw [List.any_cons, List.any_cons, ih (fun y hy => h y (by simp [hy])), flat_any x (h x (by simp))]
 have e2 : (l.flatMap (flatQ 4)).filter (fun x => !isK 2 x) = l.flatMap (flatK 4 2) := by
  rw [List.filter_flatMap]
  clear e1
  induction l with
  | nil => rfl
  | cons x l ih => rw [List.flatMap_cons, List.flatMap_cons, ih (fun y hy => h y (by simp [hy])), flat_filter x (h x (by simp))]
 unfold catQ catP
 rw [e1, e2]
theorem flat5 {l : List Nd} (h : ∀ x ∈ l, SG x) : ∀ z ∈ l.flatMap (flatK 5 1), SG z ∧ z.kind ≠ 1 ∧ z.kind ≠ 5 := by
 intro z hz
 obtain ⟨x, hx, hz⟩ := List.mem_flatMap.1 hz
 have hs := h x hx
 unfold flatK at hz
 by_cases h5 : x.kind = 5
 ·rw [if_pos h5] at hz
  have hh := sg_iff.1 hs
  have := (hh.1.2.2.2.1 h5).1 z hz
  exact ⟨hh.2 z hz, this.1, this.2⟩
 rw [if_neg h5] at hz
 by_cases h1 : x.kind = 1
 ·rw [if_pos h1] at hz
  cases hz
 ·rw [if_neg h1] at hz
  obtain rfl : z = x := by simpa using hz
  exact ⟨hs, h1, h5⟩
theorem or_lt {a b : Nat} (ha : a < 2 ^ 256) (hb : b < 2 ^ 256) : a ||| b < 2 ^ 256 := Nat.or_lt_two_pow ha hb
theorem or_ne {a b : Nat} (ha : a ≠ 0) : a ||| b ≠ 0 := fun h => ha (by
 refine Nat.eq_of_testBit_eq fun i => ?_
 have := congrArg (fun n => n.testBit i) h
 simp only [Nat.testBit_or, Nat.zero_testBit, Bool.or_eq_false_iff] at this
 rw [this.1, Nat.zero_testBit])
theorem join_sg {y x : Nd} (hy : SG y) (hx : SG x) (ky : y.kind = 3) (kx : x.kind = 3) : SG (joinN y x) := by
 have h1 := sg_iff.1 hy
 have h2 := sg_iff.1 hx
 have e := ok_set h1.1.1 ky
 have a1 := h1.1.1.1
 have a2 := h2.1.1.1
 have a3 := h1.1.2.1 ky
 unfold joinN
 rw [e]
 refine sg_iff.2 ⟨⟨⟨or_lt a1 a2, .inr (.inl ⟨rfl, rfl, rfl, rfl⟩)⟩, fun _ => or_ne a3, by simp, by simp, by simp, by simp⟩, fun z hz => by cases hz⟩
structure AInv (p : List Nd) (st : List Nd × Option Nat) : Prop where
 good : ∀ z ∈ st.1, SG z ∧ z.kind ≠ 1 ∧ z.kind ≠ 5
 nodup : st.1.Nodup
 no : st.2 = none → (∀ z ∈ st.1, z.kind ≠ 3) ∧ unionQ p = 0
 yes : ∀ i, st.2 = some i → (∃ y, st.1[i]? = some y ∧ y.kind = 3 ∧ y.set = unionQ p) ∧ ∀ j z, st.1[j]? = some z → z.kind = 3 → j = i
 same : ∀ S, st.1.map (replQ S) = p.foldl (addQ S) []
theorem union_snoc (p : List Nd) (x : Nd) : unionQ (p ++ [x]) = if x.kind = 3 then unionQ p ||| x.set else unionQ p := by
 unfold unionQ
 rw [List.foldl_append]
 rfl
theorem repl_kind (S : Nat) (x : Nd) : (replQ S x).kind = x.kind := by
 unfold replQ
 split <;> rfl
theorem repl_other {S : Nat} {x : Nd} (h : x.kind ≠ 3) : replQ S x = x := by unfold replQ; rw [if_neg h]
theorem repl_set {S : Nat} {x : Nd} (h : OkN x) (hk : x.kind = 3) : replQ S x = ⟨3, S, .nil, 0, 0⟩ := by
 have := ok_set h hk
 unfold replQ
 rw [if_pos hk, this]
theorem addQ_in {S : Nat} {out : List Nd} {x : Nd} (h : replQ S x ∈ out) : addQ S out x = out := by
 unfold addQ
 rw [if_pos (.inr (List.any_eq_true.2 ⟨_, h, sameN_self _⟩))]
theorem addQ_out {S : Nat} {out : List Nd} {x : Nd} (h1 : x.kind ≠ 1) (h : replQ S x ∉ out) : addQ S out x = out ++ [replQ S x] := by
 unfold addQ
 rw [if_neg]
 rintro (h2 | h2)
 ·exact h1 h2
 ·obtain ⟨y, hy, e⟩ := List.any_eq_true.1 h2
  rw [sameN_iff.1 e] at hy
  exact h hy
theorem nodup_snoc {l : List Nd} {x : Nd} (h : l.Nodup) (hx : x ∉ l) : (l ++ [x]).Nodup := by
 rw [List.nodup_append]
 exact ⟨h, by simp, fun a ha b hb e => by
  have : b = x := by simpa using hb
  exact hx (by rw [← this, ← e]; exact ha)⟩
theorem modify_get {l : List Nd} {i j : Nat} {f : Nd → Nd} {z : Nd} (h : (l.modify i f)[j]? = some z) : ∃ y, l[j]? = some y ∧ z = if i = j then f y else y := by
 rw [List.getElem?_modify] at h
 cases hy : l[j]? with
 | none => rw [hy] at h; cases h
 | some y =>
  rw [hy] at h
  refine ⟨y, rfl, ?_⟩
  have h : (fun a => if i = j then f a else a) y = z := by simpa using h
  exact h.symm
theorem nodup_get {l : List Nd} : l.Nodup ↔ ∀ (i j : Nat) (z : Nd), l[i]? = some z → l[j]? = some z → i = j := by
 constructor
 ·intro h i j z hi hj
  have h1 := (List.getElem?_eq_some_iff.1 hi).1
  exact (List.getElem?_inj h1 h).1 (hi.trans hj.symm)
 ·intro h
  rw [List.Nodup, List.pairwise_iff_getElem]
  intro i j hi hj hij e
  have hz : l[j]? = some l[j] := List.getElem?_eq_getElem hj
  have hy : l[i]? = some l[j] := by rw [List.getElem?_eq_getElem hi, e]
  have := h i j _ hy hz
  omega
theorem addP_step {p : List Nd} {st : List Nd × Option Nat} {x : Nd} (h : AInv p st) (hx : SG x) (h1 : x.kind ≠ 1) (h5 : x.kind ≠ 5) : AInv (p ++ [x]) (addP st x) := by
 obtain ⟨out, si⟩ := st
 have ox := (sg_iff.1 hx).1.1
 have hfold : ∀ S, (p ++ [x]).foldl (addQ S) [] = addQ S (out.map (replQ S)) x := fun S => by rw [List.foldl_append, ← h.same S]; rfl
 by_cases k3 : x.kind = 3
 ·cases si with
  | none =>
   obtain ⟨n1, n2⟩ := h.no rfl
   have e : addP (out, none) x = (out ++ [x], some out.length) := by unfold addP; rw [if_pos k3]
   rw [e]
   have hnot : x ∉ out := fun hh => n1 x hh k3
   refine ⟨fun z hz => ?_, nodup_snoc h.nodup hnot, fun hh => (by cases hh), fun i hi => ?_, fun S => ?_⟩
   ·rcases List.mem_append.1 hz with hz | hz
    ·exact h.good z hz
    ·obtain rfl : z = x := by simpa using hz
     exact ⟨hx, h1, h5⟩
   ·cases hi
    refine ⟨⟨x, by simp, k3, by rw [union_snoc, if_pos k3, n2, Nat.zero_or]⟩, fun j z hz hk => ?_⟩
    rcases Nat.lt_or_ge j out.length with hj | hj
    ·rw [List.getElem?_append_left hj] at hz
     exact absurd hk (n1 z (List.mem_of_getElem? hz))
    ·have := (List.getElem?_eq_some_iff.1 hz).1
     simp at this
     omega
   ·rw [hfold S, List.map_append, addQ_out h1 (fun hh => ?_)]
    ·rfl
    ·obtain ⟨y, hy, e⟩ := List.mem_map.1 hh
     have := congrArg Nd.kind e
     rw [repl_kind, repl_kind, k3] at this
     exact n1 y hy this
  | some i =>
   obtain ⟨⟨y, hy, ky, sy⟩, huniq⟩ := h.yes i rfl
   have e : addP (out, some i) x = (out.modify i (fun y => joinN y x), some i) := by unfold addP; rw [if_pos k3]
   have gy := h.good y (List.mem_of_getElem? hy)
   rw [e]
   have hget : ∀ j z, (out.modify i (fun y => joinN y x))[j]? = some z → (j = i ∧ z = joinN y x) ∨ (j ≠ i ∧ out[j]? = some z) := fun j z hz => by
    obtain ⟨q, hq, e⟩ := modify_get hz
    by_cases c : i = j
    ·subst c
     rw [hy] at hq
     cases hq
     rw [if_pos rfl] at e
     exact .inl ⟨rfl, e⟩
    ·rw [if_neg c] at e
     exact .inr ⟨fun hh => c hh.symm, by rw [e]; exact hq⟩
   have hkj : (joinN y x).kind = 3 := ky
   refine ⟨fun z hz => ?_, nodup_get.2 (fun a b z ha hb => ?_), fun hh => (by cases hh), fun i' hi => ?_, fun S => ?_⟩
   ·obtain ⟨j, hj⟩ := List.getElem?_of_mem hz
    rcases hget j z hj with ⟨_, rfl⟩ | ⟨_, h2⟩
    ·exact ⟨join_sg gy.1 hx ky k3, by rw [hkj]; decide, by rw [hkj]; decide⟩
    ·exact h.good z (List.mem_of_getElem? h2)
   ·rcases hget a z ha with ⟨rfl, rfl⟩ | ⟨a1, a2⟩
    ·rcases hget b _ hb with ⟨rfl, _⟩ | ⟨b1, b2⟩
     ·rfl
     ·exact absurd (huniq b _ b2 hkj) b1
    ·rcases hget b z hb with ⟨rfl, rfl⟩ | ⟨b1, b2⟩
     ·exact absurd (huniq a _ a2 hkj) a1
     ·exact nodup_get.1 h.nodup a b z a2 b2
   ·cases hi
    refine ⟨⟨joinN y x, ?_, hkj, ?_⟩, fun j z hz hk => ?_⟩
    ·rw [List.getElem?_modify, hy]
     simp
    ·rw [union_snoc, if_pos k3, ← sy]
     rfl
    ·rcases hget j z hz with ⟨h2, _⟩ | ⟨_, h2⟩
     ·exact h2
     ·exact huniq j z h2 hk
   ·have hmap : (out.modify i (fun y => joinN y x)).map (replQ S) = out.map (replQ S) := by
     refine List.ext_getElem? fun j => ?_
     rw [List.getElem?_map, List.getElem?_map, List.getElem?_modify]
     cases hq : out[j]? with
     | none => rfl
     | some q =>
      show some (replQ S (if i = j then joinN q x else q)) = some (replQ S q)
      by_cases c : i = j
      ·subst c
       have hq : out[i]? = some q := hq
       have hy : out[i]? = some y := hy
       rw [hy] at hq
       cases hq
       rw [if_pos rfl]
       unfold replQ
       rw [if_pos hkj, if_pos ky]
       rfl
      ·rw [if_neg c]
    rw [hfold S, hmap, addQ_in]
    rw [repl_set ox k3, ← repl_set (S := S) (sg_iff.1 gy.1).1.1 ky]
    exact List.mem_map.2 ⟨y, List.mem_of_getElem? hy, rfl⟩
 ·have hu : unionQ (p ++ [x]) = unionQ p := by rw [union_snoc, if_neg k3]
  have hiff : ∀ S, replQ S x ∈ out.map (replQ S) ↔ x ∈ out := fun S => by
   rw [repl_other k3]
   constructor
   ·intro hh
    obtain ⟨y, hy, e⟩ := List.mem_map.1 hh
    have := congrArg Nd.kind e
    rw [repl_kind] at this
    rw [repl_other (by rw [this]; exact k3)] at e
    rw [← e]
    exact hy
   ·exact fun hh => List.mem_map.2 ⟨x, hh, repl_other k3⟩
  by_cases hin : x ∈ out
  ·have e : addP (out, si) x = (out, si) := by
    unfold addP
    rw [if_neg k3, if_pos (List.any_eq_true.2 ⟨x, hin, sameN_self x⟩)]
   rw [e]
   exact ⟨h.good, h.nodup, fun hh => by rw [hu]; exact h.no hh, fun i hi => by rw [hu]; exact h.yes i hi, fun S => by rw [hfold S, addQ_in ((hiff S).2 hin)]⟩
  ·have e : addP (out, si) x = (out ++ [x], si) := by
    unfold addP
    rw [if_neg k3, if_neg]
    intro hh
    obtain ⟨y, hy, e⟩ := List.any_eq_true.1 hh
    rw [← sameN_iff.1 e] at hy
    exact hin hy
   rw [e]
   refine ⟨fun z hz => ?_, nodup_snoc h.nodup hin, fun hh => ?_, fun i hi => ?_, fun S => ?_⟩
   ·rcases List.mem_append.1 hz with hz | hz
    ·exact h.good z hz
    ·obtain rfl : z = x := by simpa using hz
     exact ⟨hx, h1, h5⟩
   ·obtain ⟨n1, n2⟩ := h.no hh
    refine ⟨fun z hz => ?_, by rw [hu]; exact n2⟩
    rcases List.mem_append.1 hz with hz | hz
    ·exact n1 z hz
    ·obtain rfl : z = x := by simpa using hz
     exact k3
   ·obtain ⟨⟨y, hy, ky, sy⟩, huniq⟩ := h.yes i hi
    have hil := (List.getElem?_eq_some_iff.1 hy).1
    refine ⟨⟨y, by rw [List.getElem?_append_left hil]; exact hy, ky, by rw [hu]; exact sy⟩, fun j z hz hk => ?_⟩
    rcases Nat.lt_or_ge j out.length with hj | hj
    ·rw [List.getElem?_append_left hj] at hz
     exact huniq j z hz hk
    ·rw [List.getElem?_append_right hj] at hz
     obtain rfl : z = x := by
      have := List.mem_of_getElem? hz
      simpa using this
     exact absurd hk k3
   ·rw [hfold S, List.map_append, addQ_out h1 (fun hh => hin ((hiff S).1 hh))]
    rfl
theorem addP_all : ∀ (l p : List Nd) (st : List Nd × Option Nat), AInv p st → (∀ z ∈ l, SG z ∧ z.kind ≠ 1 ∧ z.kind ≠ 5) → AInv (p ++ l) (l.foldl addP st)
 | [], p, st, h, _ => by rw [List.append_nil]; exact h
 | x :: l, p, st, h, hl => by
  obtain ⟨a, b, c⟩ := hl x (by simp)
  have := addP_all l (p ++ [x]) _ (addP_step h a b c) (fun z hz => hl z (by simp [hz]))
  rw [List.append_assoc] at this
  exact this
theorem ainv_start : AInv [] ([], none) := ⟨(fun z hz => by cases hz), List.Pairwise.nil, (fun _ => ⟨(fun z hz => by cases hz), rfl⟩), (fun i hi => by cases hi), (fun S => rfl)⟩
theorem alt_inv {l : List Nd} (h : ∀ x ∈ l, SG x) : AInv (l.flatMap (flatK 5 1)) ((l.flatMap (flatK 5 1)).foldl addP ([], none)) := addP_all _ [] _ ainv_start (flat5 h)
theorem filter_one {out : List Nd} {si : Option Nat} {p : List Nd} (h : AInv p (out, si)) : (out.filter (isK 3)).length ≤ 1 := by
 have hu : ∀ (j j' : Nat) (z z' : Nd), out[j]? = some z → z.kind = 3 → out[j']? = some z' → z'.kind = 3 → j = j' := fun j j' z z' h1 h2 h3 h4 => by
  cases si with
  | none => exact absurd h2 ((h.no rfl).1 z (List.mem_of_getElem? h1))
  | some i =>
   have := (h.yes i rfl).2
   rw [this j z h1 h2, this j' z' h3 h4]
 have hnd := List.Pairwise.filter (isK 3) h.nodup
 match hf : out.filter (isK 3), hnd with
 | [], _ => simp
 | [a], _ => simp
 | a :: b :: r, hnd =>
  have ha : a ∈ out.filter (isK 3) := by rw [hf]; simp
  have hb : b ∈ out.filter (isK 3) := by rw [hf]; simp
  obtain ⟨a1, a2⟩ := List.mem_filter.1 ha
  obtain ⟨b1, b2⟩ := List.mem_filter.1 hb
  obtain ⟨i, hi⟩ := List.getElem?_of_mem a1
  obtain ⟨j, hj⟩ := List.getElem?_of_mem b1
  have := hu i j a b hi (of_decide_eq_true a2) hj (of_decide_eq_true b2)
  subst this
  rw [hi] at hj
  cases hj
  have := (List.pairwise_cons.1 hnd).1 a (by simp)
  exact absurd rfl this
theorem altP_sg {l : List Nd} (h : ∀ x ∈ l, SG x) : SG (altP l) := by
 have hi := alt_inv h
 unfold altP
 generalize (l.flatMap (flatK 5 1)).foldl addP ([], none) = st at *
 obtain ⟨out, si⟩ := st
 refine many_sg sg_none (fun x hx => (hi.good x hx).1) (fun x y r e => ?_)
 have e : out = x :: y :: r := e
 have hf := filter_one hi
 have hn : out.Nodup := hi.nodup
 have hg := hi.good
 show OkN ⟨5, 0, Trees.of out, 0, 0⟩ ∧ FsN ⟨5, 0, Trees.of out, 0, 0⟩
 subst e
 refine ⟨ok_many (by decide) (by decide) x y r, by simp, by simp, fun _ => ?_, by simp, by simp⟩
 show (∀ z ∈ (Trees.of (x :: y :: r)).list, _) ∧ (Trees.of (x :: y :: r)).list.Nodup ∧ ((Trees.of (x :: y :: r)).list.filter (isK 3)).length ≤ 1
 rw [Trees.list_of]
 exact ⟨fun z hz => (hg z hz).2, hn, hf⟩
theorem flat_filter5 (x : Nd) (h : SG x) : (flatQ 5 x).filter (fun x => !isK 1 x) = flatK 5 1 x := by
 unfold flatQ flatK
 by_cases h5 : x.kind = 5
 ·rw [if_pos h5, if_pos h5]
  refine List.filter_eq_self.2 fun z hz => ?_
  have := (((sg_iff.1 h).1.2.2.2.1 h5).1 z hz).1
  unfold isK
  rw [decide_eq_false this]
  rfl
 ·rw [if_neg h5, if_neg h5]
  by_cases h1 : x.kind = 1
  ·rw [if_pos h1]
   simp [isK, h1]
  ·rw [if_neg h1]
   simp [isK, h1]
theorem flat_all5 : ∀ (l : List Nd), (∀ x ∈ l, SG x) → (l.flatMap (flatQ 5)).filter (fun x => !isK 1 x) = l.flatMap (flatK 5 1)
 | [], _ => rfl
 | x :: l, h => by rw [List.flatMap_cons, List.filter_append, List.flatMap_cons, flat_all5 l (fun y hy => h y (by simp [hy])), flat_filter5 x (h x (by simp))]
theorem union_filter : ∀ (l : List Nd) (s : Nat), (l.filter (fun x => !isK 1 x)).foldl (fun s x => if x.kind = 3 then s ||| x.set else s) s = l.foldl (fun s x => if x.kind = 3 then s ||| x.set else s) s
 | [], s => rfl
 | x :: l, s => by
  rw [List.filter_cons]
  by_cases h1 : x.kind = 1
  ·have : isK 1 x = true := decide_eq_true h1
   rw [this, if_neg (by decide), List.foldl_cons, if_neg (by omega), union_filter l s]
  ·have : isK 1 x = false := decide_eq_false h1
   rw [this, if_pos (by decide), List.foldl_cons, List.foldl_cons, union_filter l _]
theorem add_filter (S : Nat) : ∀ (l out : List Nd), (l.filter (fun x => !isK 1 x)).foldl (addQ S) out = l.foldl (addQ S) out
 | [], out => rfl
 | x :: l, out => by
  rw [List.filter_cons]
  by_cases h1 : x.kind = 1
  ·have : isK 1 x = true := decide_eq_true h1
   rw [this, if_neg (by decide), List.foldl_cons, show addQ S out x = out by unfold addQ; rw [if_pos (.inl h1)], add_filter S l out]
  ·have : isK 1 x = false := decide_eq_false h1
   rw [this, if_pos (by decide), List.foldl_cons, List.foldl_cons, add_filter S l _]
theorem altQ_eq {l : List Nd} (h : ∀ x ∈ l, SG x) : altQ l = altP l := by
 have hi := alt_inv h
 have hf := flat_all5 l h
 have e1 : unionQ (l.flatMap (flatQ 5)) = unionQ (l.flatMap (flatK 5 1)) := by
  unfold unionQ
  rw [← hf, union_filter]
 unfold altQ altP
 rw [e1, ← add_filter, hf]
 generalize (l.flatMap (flatK 5 1)).foldl addP ([], none) = st at *
 rw [← hi.same]
 congr 1
 obtain ⟨out, si⟩ := st
 show out.map _ = out
 refine (List.map_congr_left (fun z hz => ?_)).trans (List.map_id out)
 by_cases k3 : z.kind = 3
 ·cases si with
  | none => exact absurd k3 ((hi.no rfl).1 z hz)
  | some i =>
   obtain ⟨⟨y, hy, ky, sy⟩, huniq⟩ := hi.yes i rfl
   obtain ⟨j, hj⟩ := List.getElem?_of_mem hz
   have := huniq j z hj k3
   subst this
   have hj : out[j]? = some z := hj
   have hy : out[j]? = some y := hy
   rw [hj] at hy
   cases hy
   have ho := (sg_iff.1 (hi.good z hz).1).1.1
   rw [repl_set ho k3, ← sy]
   exact (ok_set ho k3).symm
 ·exact repl_other k3
theorem over_sg {k : Int} {z : Nd} (h6 : 6 ≤ k) (h8 : k ≤ 8) (hz : SG z) (hk : z.kind ≠ 1 ∧ z.kind ≠ 2 ∧ z.kind ≠ 6 ∧ z.kind ≠ 7 ∧ z.kind ≠ 8) : SG (overN k z) := by
 have hl : (Trees.of [z]).list = [z] := Trees.list_of _
 refine sg_iff.2 ⟨⟨⟨by show 0 < 2 ^ 256; decide, .inr (.inr (.inr (.inl ⟨h6, h8, rfl, rfl, rfl, by show (Trees.of [z]).len = 1; rw [Trees.len_of]; rfl⟩)))⟩, ?_, ?_, ?_, ?_, ?_⟩, ?_⟩
 ·show k = 3 → _
  omega
 ·show k = 4 → _
  omega
 ·show k = 5 → _
  omega
 ·intro _ y hy
  have hy : y ∈ (Trees.of [z]).list := hy
  rw [hl] at hy
  obtain rfl : y = z := by simpa using hy
  exact hk
 ·show k = 9 → _
  omega
 ·intro y hy
  have hy : y ∈ (Trees.of [z]).list := hy
  rw [hl] at hy
  obtain rfl : y = z := by simpa using hy
  exact hz
theorem kid0_sg {x : Nd} (h : SG x) (h6 : 6 ≤ x.kind) (h8 : x.kind ≤ 8) : SG (kid0 x) ∧ (kid0 x).kind ≠ 1 ∧ (kid0 x).kind ≠ 2 ∧ (kid0 x).kind ≠ 6 ∧ (kid0 x).kind ≠ 7 ∧ (kid0 x).kind ≠ 8 := by
 have hh := sg_iff.1 h
 obtain ⟨z, hz⟩ := ok_one hh.1.1 h6
 rw [kid0_one hz]
 exact ⟨hh.2 z (by rw [hz]; simp), hh.1.2.2.2.2.1 ⟨h6, h8⟩ z (by rw [hz]; simp)⟩
theorem starP_sg {x : Nd} (h : SG x) : SG (starP x) := by
 unfold starP
 split
 ·exact sg_empty
 split
 ·obtain ⟨a, b⟩ := kid0_sg h (by omega) (by omega)
  exact over_sg (by decide) (by decide) a b
 ·exact over_sg (by decide) (by decide) h (by omega)
theorem plusP_sg {x : Nd} (h : SG x) : SG (plusP x) := by
 unfold plusP
 split
 ·exact h
 split
 ·obtain ⟨a, b⟩ := kid0_sg h (by omega) (by omega)
  exact over_sg (by decide) (by decide) a b
 ·exact over_sg (by decide) (by decide) h (by omega)
theorem optP_sg {x : Nd} (h : SG x) : SG (optP x) := by
 unfold optP
 split
 ·exact sg_empty
 split
 ·exact h
 split
 ·obtain ⟨a, b⟩ := kid0_sg h (by omega) (by omega)
  exact over_sg (by decide) (by decide) a b
 ·exact over_sg (by decide) (by decide) h (by omega)
def TimesOk (lo hi : Int) : Prop := 0 ≤ lo ∧ lo ≤ 1000 ∧ (hi = -1 ∨ lo ≤ hi) ∧ hi ≤ 1000
theorem repP_sg {x : Nd} {lo hi : Int} (h : SG x) (ht : TimesOk lo hi) : SG (repP x lo hi) := by
 unfold repP
 split
 ·exact sg_empty
 split
 ·exact sg_empty
 split
 ·exact sg_none
 split
 ·exact h
 split
 ·exact starP_sg h
 split
 ·exact plusP_sg h
 split
 ·exact optP_sg h
 ·obtain ⟨a, b, c, d⟩ := ht
  have hl : (Trees.of [x]).list = [x] := Trees.list_of _
  refine sg_iff.2 ⟨⟨⟨by show 0 < 2 ^ 256; decide, .inr (.inr (.inr (.inr ⟨rfl, rfl, by show (Trees.of [x]).len = 1; rw [Trees.len_of]; rfl, a, b, c, d⟩)))⟩, by simp, by simp, by simp, by simp, fun _ => ⟨fun y hy => ?_, ?_⟩⟩, fun y hy => ?_⟩
  ·have hy : y ∈ (Trees.of [x]).list := hy
   rw [hl] at hy
   obtain rfl : y = x := by simpa using hy
   omega
  ·show hi ≠ 0 ∧ _
   refine ⟨by omega, ?_⟩
   show ¬ (lo = 1 ∧ hi = 1) ∧ ¬ (lo = 0 ∧ hi = -1) ∧ ¬ (lo = 1 ∧ hi = -1) ∧ ¬ (lo = 0 ∧ hi = 1)
   omega
  ·have hy : y ∈ (Trees.of [x]).list := hy
   rw [hl] at hy
   obtain rfl : y = x := by simpa using hy
   exact h
theorem kids_one {x : Nd} (h : SG x) (h6 : 6 ≤ x.kind) : x.kids = Trees.of [kid0 x] := by
 obtain ⟨z, hz⟩ := ok_one (sg_iff.1 h).1.1 h6
 rw [kid0_one hz]
 exact one_trees hz
theorem starQ_eq {x : Nd} (h : SG x) : starQ x = starP x := by
 unfold starQ starP
 split
 ·rfl
 split
 ·rw [kids_one h (by omega)]
  rfl
 ·rfl
theorem plusQ_eq {x : Nd} (h : SG x) : plusQ x = plusP x := by
 unfold plusQ plusP
 split
 ·rfl
 split
 ·rw [kids_one h (by omega)]
  rfl
 ·rfl
theorem optQ_eq {x : Nd} (h : SG x) : optQ x = optP x := by
 unfold optQ optP
 split
 ·rfl
 split
 ·rfl
 split
 ·rw [kids_one h (by omega)]
  rfl
 ·rfl
theorem repQ_eq {x : Nd} {lo hi : Int} (h : SG x) (ht : TimesOk lo hi) : repQ x lo hi = repP x lo hi := by
 obtain ⟨a, b, c, d⟩ := ht
 unfold repQ repP
 by_cases h1 : hi = 0 ∨ x.kind = 2
 ·rw [if_pos (by omega), if_pos h1]
 rw [if_neg h1]
 by_cases h2 : x.kind = 1 ∧ lo = 0
 ·rw [if_pos (.inr (.inr h2)), if_pos h2]
 rw [if_neg (by omega), if_neg h2]
 by_cases h3 : x.kind = 1
 ·rw [if_pos (.inl h3), if_pos h3]
  exact ok_none (sg_iff.1 h).1.1 h3
 rw [if_neg h3]
 by_cases h4 : lo = 1 ∧ hi = 1
 ·rw [if_pos (.inr h4), if_pos h4]
 rw [if_neg (by omega), if_neg h4]
 by_cases h5 : lo = 0 ∧ hi = -1
 ·rw [if_pos ⟨h5.2, h5.1⟩, if_pos h5, starQ_eq h]
 rw [if_neg (by omega), if_neg h5]
 by_cases h6 : lo = 1 ∧ hi = -1
 ·rw [if_pos ⟨h6.2, h6.1⟩, if_pos h6, plusQ_eq h]
 rw [if_neg (by omega), if_neg h6]
 by_cases h7 : lo = 0 ∧ hi = 1
 ·rw [if_pos h7.2, if_pos h7, optQ_eq h]
 rw [if_neg (by omega), if_neg h7]
theorem noset_ne {s : Nat} (h : ¬ isNoSet s = true) : s ≠ 0 := by
 rintro rfl
 refine h ?_
 decide +kernel
theorem simK_sg {k : Int} {s : Nat} {ks : Trees} {lo hi : Int} {L : List Nd} (ho : OkV k s lo hi ks.len) (hL : ∀ z ∈ L, SG z) (hlen : L.length = ks.len) : SG (simK k s ks lo hi L) ∧ simQK k s ks lo hi L = simK k s ks lo hi L := by
 have hh : 6 ≤ k → SG (L.headD noneN) := fun h6 => by
  have : ks.len = 1 := by have := ho.2; omega
  cases L with
  | nil => exact sg_none
  | cons z l => exact hL z (by simp)
 unfold simK simQK
 by_cases k3 : k = 3
 ·rw [if_pos k3, if_pos k3]
  refine ⟨?_, rfl⟩
  split
  ·exact sg_none
  ·rename_i hn
   have hz : ks.len = 0 := by have := ho.2; omega
   have hks := list_nil hz
   subst hks
   refine sg_iff.2 ⟨⟨ho, fun _ => noset_ne hn, ?_, ?_, ?_, ?_⟩, fun z hz => by cases hz⟩
   ·show k = 4 → _
    omega
   ·show k = 5 → _
    omega
   ·show 6 ≤ k ∧ k ≤ 8 → _
    omega
   ·show k = 9 → _
    omega
 rw [if_neg k3, if_neg k3]
 by_cases k4 : k = 4
 ·rw [if_pos k4, if_pos k4]
  exact ⟨catP_sg hL, catQ_eq hL⟩
 rw [if_neg k4, if_neg k4]
 by_cases k5 : k = 5
 ·rw [if_pos k5, if_pos k5]
  exact ⟨altP_sg hL, altQ_eq hL⟩
 rw [if_neg k5, if_neg k5]
 by_cases k6 : k = 6
 ·rw [if_pos k6, if_pos k6]
  exact ⟨starP_sg (hh (by omega)), starQ_eq (hh (by omega))⟩
 rw [if_neg k6, if_neg k6]
 by_cases k7 : k = 7
 ·rw [if_pos k7, if_pos k7]
  exact ⟨plusP_sg (hh (by omega)), plusQ_eq (hh (by omega))⟩
 rw [if_neg k7, if_neg k7]
 by_cases k8 : k = 8
 ·rw [if_pos k8, if_pos k8]
  exact ⟨optP_sg (hh (by omega)), optQ_eq (hh (by omega))⟩
 rw [if_neg k8, if_neg k8]
 by_cases k9 : k = 9
 ·have ht : TimesOk lo hi := by
   have := ho.2
   unfold TimesOk
   omega
  rw [if_pos k9, if_pos k9]
  exact ⟨repP_sg (hh (by omega)) ht, repQ_eq (hh (by omega)) ht⟩
 ·rw [if_neg k9, if_neg k9]
  refine ⟨?_, rfl⟩
  have h12 : ks.len = 0 ∧ k ≤ 2 := by have := ho.2; omega
  have hks := list_nil h12.1
  subst hks
  refine sg_iff.2 ⟨⟨ho, ?_, ?_, ?_, ?_, ?_⟩, fun z hz => by cases hz⟩
  ·show k = 3 → _
   omega
  ·show k = 4 → _
   omega
  ·show k = 5 → _
   omega
  ·show 6 ≤ k ∧ k ≤ 8 → _
   omega
  ·show k = 9 → _
   omega
theorem sims_len (F : Trees) : F.sims.length = F.len := by rw [F.sims_list, List.length_map, Trees.len_list]
theorem sims_all : ∀ (F : Trees), (∀ y ∈ F.nodes, OkN y) → (∀ z ∈ F.sims, SG z) ∧ F.simqs = F.sims
 | .nil, _ => ⟨(fun z hz => by cases hz), rfl⟩
 | .cons k s ks lo hi r, h => by
  obtain ⟨a, b⟩ := sims_all ks (fun y hy => h y (by simp [Trees.nodes, hy]))
  obtain ⟨c, d⟩ := sims_all r (fun y hy => h y (by simp [Trees.nodes, hy]))
  obtain ⟨e, f⟩ := simK_sg (k := k) (s := s) (ks := ks) (lo := lo) (hi := hi) (h ⟨k, s, ks, lo, hi⟩ (by simp [Trees.nodes])) a (sims_len ks)
  rw [Trees.sims, Trees.simqs, b, d, f]
  refine ⟨fun z hz => ?_, rfl⟩
  rcases List.mem_cons.1 hz with rfl | hz
  ·exact e
  ·exact c z hz
theorem sim_sg {x : Nd} (h : ∀ y ∈ x.nodes, OkN y) : SG x.sim ∧ x.simq = x.sim := by
 obtain ⟨a, b⟩ := sims_all x.kids (fun y hy => h y (List.mem_cons_of_mem _ hy))
 obtain ⟨e, f⟩ := simK_sg (k := x.kind) (s := x.set) (ks := x.kids) (lo := x.lo) (hi := x.hi) (h x List.mem_cons_self) a (sims_len x.kids)
 refine ⟨e, ?_⟩
 unfold Nd.simq
 rw [b]
 exact f
theorem zero_words {s : Nat} (hs : s < 2 ^ 256) (h0 : word s.testBit 0 = 0) (h1 : word s.testBit 1 = 0) (h2 : word s.testBit 2 = 0) (h3 : word s.testBit 3 = 0) : s = 0 := by
 refine Nat.eq_of_testBit_eq fun c => ?_
 rw [Nat.zero_testBit]
 rcases Nat.lt_or_ge c 256 with hc | hc
 ·have hw : ∀ i, i < 4 → word s.testBit i = 0 := fun i hi => by
   rcases (by omega : i = 0 ∨ i = 1 ∨ i = 2 ∨ i = 3) with rfl | rfl | rfl | rfl <;> assumption
  have := word_zeroQ s.testBit (c / 64) (hw (c / 64) (by omega)) (c % 64) (Nat.mod_lt _ (by decide))
  rwa [show 64 * (c / 64) + c % 64 = c by omega] at this
 ·exact Nat.testBit_lt_two_pow (Nat.lt_of_lt_of_le hs (Nat.pow_le_pow_right (by decide) hc))
theorem ok_of_alone {y : Nd} (h : aloneN y = true) (hs : y.set < 2 ^ 256) : OkN y := by
 unfold aloneN aloneV at h
 by_cases k3 : y.kind = 3
 ·rw [if_pos k3] at h
  simp at h
  exact ⟨hs, .inr (.inl ⟨k3, h.1, h.2.1, h.2.2⟩)⟩
 rw [if_neg k3] at h
 by_cases hz : ((word y.set.testBit 0 : Nat) : Int) ≠ 0 ∨ ((word y.set.testBit 1 : Nat) : Int) ≠ 0 ∨ ((word y.set.testBit 2 : Nat) : Int) ≠ 0 ∨ ((word y.set.testBit 3 : Nat) : Int) ≠ 0
 ·rw [if_pos hz] at h
  cases h
 rw [if_neg hz] at h
 have h0 : y.set = 0 := zero_words hs (by omega) (by omega) (by omega) (by omega)
 refine ⟨hs, ?_⟩
 by_cases k9 : y.kind = 9
 ·rw [if_pos k9] at h
  unfold timesB at h
  simp at h
  right; right; right; right
  exact ⟨k9, h0, h.2, h.1.1.1, h.1.1.2, by omega, by omega⟩
 ·rw [if_neg k9] at h
  unfold arityS at h
  simp only [Bool.and_eq_true, decide_eq_true_eq] at h
  obtain ⟨a, b, c⟩ := h
  by_cases c1 : y.kind = 1 ∨ y.kind = 2 ∨ y.kind = 3
  ·rw [if_pos c1] at c
   simp at c
   omega
  rw [if_neg c1] at c
  by_cases c2 : y.kind = 4 ∨ y.kind = 5
  ·rw [if_pos c2] at c
   simp at c
   omega
  rw [if_neg c2] at c
  by_cases c3 : 6 ≤ y.kind ∧ y.kind ≤ 9
  ·rw [if_pos c3] at c
   simp at c
   omega
  ·rw [if_neg c3] at c
   simp at c
end
section
open Go.RowKit
theorem CellsAre.app {w : World} {P : Nat → Prop} : ∀ {l m : List Nd} {cs ds : List Value}, CellsAre w P l cs → CellsAre w P m ds → CellsAre w P (l ++ m) (cs ++ ds)
 | [], m, cs, ds, h, g => by
  have : cs = [] := h
  subst this
  exact g
 | x :: l, m, cs, ds, ⟨B, cap, rest, hcs, hc, ht, hr⟩, g => ⟨B, cap, rest ++ ds, by rw [hcs, List.append_assoc], hc, ht, hr.app g⟩
def ORow (n0 : Nat) (w : World) (acc : List Nd) (u : Value) (wr : World) : Prop :=
 (∃ cs, wr.ownsRow n0 28 8 u acc.length cs ∧ CellsAre wr (fun b => some b ≠ u.ownBlock) acc cs) ∧ Below n0 w wr ∧ n0 ≤ wr.heap.size
section
variable {n0 : Nat} {w wr w2 w' : World} {acc : List Nd} {u : Value}
theorem ORow.own (h : ORow n0 w acc u wr) : ∀ g, u.ownBlock = some g → n0 ≤ g ∧ g < wr.heap.size := by
 obtain ⟨⟨cs, hr, _⟩, _⟩ := h
 exact hr.lt
theorem ORow.below (h : ORow n0 w acc u wr) (hb : Below wr.heap.size wr w2) : ORow n0 w acc u w2 := by
 obtain ⟨⟨cs, hr, hc⟩, h3, h4⟩ := h
 exact ⟨⟨cs, own_below hr hb, hc.below hb⟩, h3.trans (hb.mono h4), Nat.le_trans h4 hb.size⟩
theorem ORow.trees (h : ORow n0 w acc u wr) : ∃ A cap, u = .slice A acc.length cap ∧ acc.length ≤ cap ∧ TreesAt wr (fun b => b < wr.heap.size) (Trees.of acc) A := by
 obtain ⟨⟨cs, hr, hc⟩, _⟩ := h
 obtain ⟨A, cap, h1, h2, h3⟩ := trees_of (P := fun _ => True) hr (hc.keep (fun _ _ _ _ => rfl) (fun b hb _ => trivial)) (fun g e => trivial)
 exact ⟨A, cap, h1, h2, h3.keep (fun _ _ _ _ => rfl) (fun b _ h => h)⟩
theorem orow_start (w : World) : ORow w.heap.size w [] (.slice none 0 0) w := ⟨⟨[], World.ownsRow_nil _ _ _ _, rfl⟩, Below.refl _ _, Nat.le_refl _⟩
theorem ORow.appends (h : ORow n0 w acc u wr) {A : Option Addr} {G : Trees} (c : Nat) (hA : TreesAt wr (fun b => some b ≠ u.ownBlock) G A) (hs : acc.length + G.len ≤ 200000000) (t ty : TypeId) (ht : Tryz.prog.underlying t = some (.slice 28)) :
  ∃ u' w', (Builtin.append_ #[t, t] ty #[u, .slice A G.len c]).run Tryz.prog wr = .ok u' w' ∧ ORow n0 w (acc ++ G.list) u' w' ∧ wr.grownBy w' u.ownBlock := by
 obtain ⟨i0, hi, hz0, hz1, hz2⟩ := info_parts info_nd
 have hl := h.own
 have h63 : acc.length + G.len ≤ maxLen := Nat.le_trans hs (by decide)
 have hby : (acc.length + G.len) * 80 ≤ 140737488355328 := by omega
 obtain ⟨⟨cs, hr, hc⟩, h3, h4⟩ := h
 cases A with
 | none =>
  have h0 : G = .nil := by
   cases G with
   | nil => rfl
   | cons k s ks lo hi r =>
    obtain ⟨b, o, B, cap, e, _⟩ := hA
    cases e
  subst h0
  refine ⟨u, wr, ?_, ?_, ⟨rfl, rfl, rfl, Nat.le_refl _, fun _ _ _ => rfl⟩⟩
  ·rcases hr.2 with ⟨rfl, _⟩ | ⟨g, cap, cur, rfl, _, _, hnc, _⟩
   ·simp [Builtin.append_, run_underlying ht, sizeOf, typeInfo, hi, Builtin.lenOf, Builtin.firstCells, Trees.len]
   ·simp [Builtin.append_, run_underlying ht, sizeOf, typeInfo, hi, Builtin.lenOf, Builtin.firstCells, hnc, storeCells, Trees.len]
  ·rw [show acc ++ Trees.nil.list = acc by simp [Trees.list]]
   exact ⟨⟨cs, hr, hc⟩, h3, h4⟩
 | some a =>
  have hcells : ∃ ds, CellsAre wr (fun b => some b ≠ u.ownBlock) G.list ds ∧ ∀ j v, ds[j]? = some v → wr.cell? (a.add j) = some v := by
   cases hG : G with
   | nil => exact ⟨[], rfl, fun j v hv => by cases hv⟩
   | cons k s ks lo hi r =>
    have hA2 := hA
    rw [hG] at hA2
    obtain ⟨b, o, B, cap, e, _⟩ := id hA2
    cases e
    rw [← Trees.of_list (.cons k s ks lo hi r)] at hA2
    obtain ⟨ds, h1, h2⟩ := TreesAt.cells hA2
    exact ⟨ds, h1, fun j v hv => by rw [addr_plus7]; exact h2 j v hv⟩
  obtain ⟨ds, hd1, hd2⟩ := hcells
  have hdl : ds.length = G.len * 8 := by rw [hd1.length, Trees.len_list]
  obtain ⟨u', w', h5, h6, h7, _, h9⟩ := run_append_own_at (P := Tryz.prog) wr n0 t ty 28 i0 _ 8 80 ht hi hz0 hz1 hz2 rfl (by decide) u acc.length cs hr a G.len c ds hdl hd2 (fun v hv => hd1.one v hv) h63 hby h4
  have hk : ∀ b i, some b ≠ u.ownBlock → b < wr.heap.size → w'.cell? ⟨b, i, none⟩ = wr.cell? ⟨b, i, none⟩ := fun b i hb hbl => World.cell?_of_block (h7.block b hbl hb)
  have hq : ∀ b, some b ≠ u.ownBlock → b < wr.heap.size → some b ≠ u'.ownBlock := fun b hb hbl e => by
   rcases h9 with h9 | h9
   ·exact hb (e.trans h9)
   ·rw [h9] at e
    cases e
    omega
  refine ⟨u', w', h5, ⟨⟨cs ++ ds, by rw [List.length_append, Trees.len_list]; exact h6, (hc.keep hk hq).app (hd1.keep hk hq)⟩, h3.grown h7 h4 (fun k e => (hl k e).1), Nat.le_trans h4 h7.size⟩, h7⟩
end
def ByC (n : Nat) (caps : Array Value) (g : Nd → List Nd) (w : World) (x : Nd) : Prop := ∀ (C : Option Addr) (capc : Nat) (W : World), Below w.heap.size w W → x.kids.len ≤ capc → TreesAt W (fun b => b < w.heap.size) x.kids C →
 Calls Tryz.prog n (#[ndV x C capc] ++ caps) W fun e w' => ∃ A c, e = .returned (.slice A (g x).length c) ∧ Below W.heap.size W w' ∧ (g x).length ≤ c ∧ TreesAt w' (fun b => b < w.heap.size ∨ W.heap.size ≤ b) (Trees.of (g x)) A
theorem sflat_take {F : Trees} {g : Nd → List Nd} {k : Nat} {z : Nd} (h : F.list[k]? = some z) : (F.list.take (k + 1)).flatMap g = (F.list.take k).flatMap g ++ g z := by
 rw [List.take_add_one, h, List.flatMap_append]
 simp
theorem sflat_len {l : List Nd} {g : Nd → List Nd} (k : Nat) : ((l.take k).flatMap g).length ≤ (l.flatMap g).length := by
 conv => rhs; rw [← List.take_append_drop k l, List.flatMap_append, List.length_append]
 omega
theorem sflat_go (F : Trees) (B : Option Addr) (cap : Nat) (w : World) (n : Nat) (caps : Array Value) (g : Nd → List Nd) (L : List Nd) (hL : F.list.flatMap g = L) (hl : F.len ≤ 100000000) (ht : TreesAt w (fun b => b < w.heap.size) F B) (hen : ∀ args W, (callFunc n args).run Tryz.prog W = .ok (.enter n args) W) (hby : ∀ x ∈ F.list, ByC n caps g w x) (hs : L.length ≤ 100000000) :
  Calls Tryz.prog 75 #[.slice B F.len cap, .func (.func n) #[] caps] w fun e w' => ∃ A c, e = .returned (.slice A L.length c) ∧ Below w.heap.size w w' ∧ L.length ≤ c ∧ TreesAt w' (fun b => b < w'.heap.size) (Trees.of L) A := by
 have HT := Lib.hid ht
 have HBy := Lib.hid hby
 have HS := Lib.hid hs
 have HL := Lib.hid hL
 have hFl := Trees.len_list F
 clear ht hby hs hL
 go_enter Tryz.func75, Tryz.ntmps75
 go_wp2
 go_loopw [5, 10] (fun u i wr => ∃ k : Nat, i = .int .i64 (k : Int) ∧ k ≤ F.len ∧ Hid (ORow w.heap.size w ((F.list.take k).flatMap g) u wr)) (fun _ i _ => F.len - (intOf i).toNat)
 case atStart => exact ⟨0, rfl, Nat.zero_le _, Lib.hid (orow_start w)⟩
 case round =>
  obtain ⟨k, rfl, hk, HR⟩ := hrel
  by_cases hlt : k < F.len
  ·obtain ⟨z, hz⟩ : ∃ z, F.list[k]? = some z := ⟨_, List.getElem?_eq_getElem (by omega)⟩
   have htk := sflat_take (g := g) hz
   have hle := sflat_len (l := F.list) (g := g) (k + 1)
   have HTk := Lib.hid htk
   obtain ⟨b, o, C, capc, rfl, _, hck, ⟨c0, c1, c2, c3, c4, c5, c6, c7⟩, hkz⟩ := (HT.out.below HR.out.2.1).get hz
   have hdl : (k : Int) < (F.len : Int) := by omega
   have hbl := World.block_lt_of_cell? wr _ c0
   have hb2 : Below wr.heap.size wr (wr.alloc (.cells (ndA z C capc) 28)) := (Below.refl _ _).alloc (Nat.le_refl _) _
   have hws := HR.out.2.2
   have HI := Lib.hid (HBy.out z (List.mem_of_getElem? hz) C capc (wr.alloc (.cells (ndA z C capc) 28)) (HR.out.2.1.trans (hb2.mono hws)) hck (hkz.below hb2))
   have Hrow2 := Lib.hid (HR.out.below hb2)
   have hsum : ((F.list.take k).flatMap g).length + (g z).length ≤ 100000000 := by
    rw [htk, List.length_append, HL.out] at hle
    have := HS.out
    omega
   clear hz hkz hb2 HR htk hck hle
   generalize (F.list.take k).flatMap g = acc at *
   unfold ndV at HI
   go_wp2_with fail
   refine HI.out.mono ?_
   rintro e w4 ⟨A4, cap4, rfl, hb4, hc4, ht4⟩
   have hl4 := Hrow2.out.own
   have hz4 := ht4.weak (Q := fun b => some b ≠ u5.ownBlock) (fun b hb _ e => by
    have := hl4 b e.symm
    rcases hb with h | h <;> omega)
   obtain ⟨v5, w5, hrun, hrow5, hgrow5⟩ := (Hrow2.out.below hb4).appends cap4 hz4 (by rw [Trees.len_of]; omega) 26 26 Tryz.underlying26
   rw [Trees.len_of] at hrun
   rw [Trees.list_of] at hrow5
   have HR5 := Lib.hid hrow5
   clear hrow5 hgrow5 hz4 ht4 hl4 hb4 HI Hrow2 c0 c1 c2 c3 c4 c5 c6 c7
   dsimp only
   go_wp2_with (at_builtin; refine wpList_append_by rfl _ _ 26 26 rfl _ _ _ _ rfl rfl hrun ?_)
   clear hrun
   go_light
   go_roundw
   case rel => exact ⟨k + 1, by go_num, by omega, Lib.hid (by rw [HTk.out]; exact HR5.out)⟩
   case measure => simp [intOf]; omega
  ·have hdl : ¬ (k : Int) < (F.len : Int) := by omega
   obtain rfl : k = F.len := by omega
   have hta : F.list.take F.len = F.list := by rw [← hFl]; exact List.take_length
   rw [hta, HL.out] at HR
   obtain ⟨A5, cap5, rfl, hc5, ht5⟩ := HR.out.trees
   have HB5 := Lib.hid HR.out.2.1
   have HT5 := Lib.hid ht5
   clear HR ht5 hta
   go_wp2
   go_light
   go_ret
   exact ⟨A5, cap5, rfl, HB5.out, hc5, HT5.out⟩
theorem row_oneS {U : World} {P : Nat → Prop} {g : Nat} {x : Nd} {C : Option Addr} {capc : Nat} (hB : Blk U g 28 (ndA x C capc)) (hP : P g) (hc : x.kids.len ≤ capc) (ht : TreesAt U P x.kids C) : TreesAt U P (Trees.of [x]) (some ⟨g, 0, none⟩) :=
 ⟨g, 0, C, capc, rfl, hP, hc, ⟨hB.cell 0, hB.cell 1, hB.cell 2, hB.cell 3, hB.cell 4, hB.cell 5, hB.cell 6, hB.cell 7⟩, ht, trivial⟩
def kidsV (g1 g2 : Nat) : Value := .func (.func 133) #[] #[.pointer (some ⟨g1, 0, none⟩), .pointer (some ⟨g2, 0, none⟩)]
theorem kidsOf_go (k q : Int) (w : World) :
  Calls Tryz.prog 76 #[.int .i64 k, .int .i64 q] w fun e w' => ∃ g1 g2, e = .returned (kidsV g1 g2) ∧ Below w.heap.size w w' ∧ w'.cell? ⟨g1, 0, none⟩ = some (.int .i64 k) ∧ w'.cell? ⟨g2, 0, none⟩ = some (.int .i64 q) := by
 have h1 : Blk ((w.alloc (.cells #[.int .i64 k] 22)).alloc (.cells #[.int .i64 q] 22)) w.heap.size 22 #[.int .i64 k] := (Blk.new w _ _).alloc _
 have h2 : Blk ((w.alloc (.cells #[.int .i64 k] 22)).alloc (.cells #[.int .i64 q] 22)) (w.heap.size + 1) 22 #[.int .i64 q] := Blk.new_at (by simp)
 go_enter Tryz.func76, Tryz.ntmps76
 go_wp2
 go_light
 go_ret
 exact ⟨_, _, rfl, ((Below.refl _ _).alloc (Nat.le_refl _) _).alloc (by simp) _, h1.cell 0, h2.cell 0⟩
theorem kids1_go (k q : Int) (g1 g2 : Nat) (w : World) (x : Nd) (hg1 : w.cell? ⟨g1, 0, none⟩ = some (.int .i64 k)) (hg2 : w.cell? ⟨g2, 0, none⟩ = some (.int .i64 q)) : ByC 133 #[.pointer (some ⟨g1, 0, none⟩), .pointer (some ⟨g2, 0, none⟩)] (flatK k q) w x := by
 intro C capc W hW hc ht
 have hl1 : g1 < w.heap.size := World.block_lt_of_cell? w _ hg1
 have hl2 : g2 < w.heap.size := World.block_lt_of_cell? w _ hg2
 have hal : Below W.heap.size W (W.alloc (.cells (ndA x C capc) 28)) := (Below.refl _ _).alloc (Nat.le_refl _) _
 have hb1 := hW.trans (hal.mono hW.size)
 have d1 := (hb1.cell (p := ⟨g1, 0, none⟩) hl1).trans hg1
 have d2 := (hb1.cell (p := ⟨g2, 0, none⟩) hl2).trans hg2
 have HX := Lib.hid (Blk.new W 28 (ndA x C capc))
 have HB := Lib.hid hal
 have HT := Lib.hid (ht.below hal)
 have hw2 := hW.size
 obtain ⟨p0, p1, p2, p3, p4, p5, p6, p7⟩ : _ ∧ _ ∧ _ ∧ _ ∧ _ ∧ _ ∧ _ ∧ _ := ⟨(HX.out).cell 0, (HX.out).cell 1, (HX.out).cell 2, (HX.out).cell 3, (HX.out).cell 4, (HX.out).cell 5, (HX.out).cell 6, (HX.out).cell 7⟩
 simp only [List.getElem?_toArray, List.getElem?_cons_zero, List.getElem?_cons_succ, ndA] at p0 p1 p2 p3 p4 p5 p6 p7
 have pl := (HX.out).lt
 clear hal hb1 ht hg1 hg2 hW
 unfold ndV
 unfold ndA at *
 by_cases h1 : x.kind = k
 ·have HF := Lib.hid (show flatK k q x = x.kids.list by unfold flatK; rw [if_pos h1])
  have hd : (x.kind == k) = true := by rw [beq_iff_eq]; exact h1
  have HL := Trees.len_list x.kids
  clear h1
  go_enter Tryz.func133, Tryz.ntmps133
  go_upto_region 1 with fail
  generalize W.alloc (.cells #[.int .i64 x.kind, .int .u64 (word x.set.testBit 0), .int .u64 (word x.set.testBit 1), .int .u64 (word x.set.testBit 2), .int .u64 (word x.set.testBit 3), .slice C x.kids.len capc, .int .i64 x.lo, .int .i64 x.hi] 28) = W1 at *
  go_wp2
  go_light
  go_ret
  rw [HF.out, HL, Trees.of_list]
  exact ⟨C, capc, rfl, HB.out, hc, HT.out.weak (fun b h _ => .inl h)⟩
 ·have hd : (x.kind == k) = false := by rw [beq_eq_false_iff_ne]; exact h1
  by_cases h2 : x.kind = q
  ·have HF := Lib.hid (show flatK k q x = [] by unfold flatK; rw [if_neg h1, if_pos h2])
   have hd2 : (x.kind == q) = true := by rw [beq_iff_eq]; exact h2
   clear h1 h2
   go_enter Tryz.func133, Tryz.ntmps133
   go_upto_region 1 with fail
   generalize W.alloc (.cells #[.int .i64 x.kind, .int .u64 (word x.set.testBit 0), .int .u64 (word x.set.testBit 1), .int .u64 (word x.set.testBit 2), .int .u64 (word x.set.testBit 3), .slice C x.kids.len capc, .int .i64 x.lo, .int .i64 x.hi] 28) = W1 at *
   go_wp2
   go_light
   go_ret
   rw [HF.out]
   exact ⟨none, 0, rfl, HB.out, Nat.le_refl _, trivial⟩
  ·have HF := Lib.hid (show flatK k q x = [x] by unfold flatK; rw [if_neg h1, if_neg h2])
   have hd2 : (x.kind == q) = false := by rw [beq_eq_false_iff_ne]; exact h2
   clear h1 h2
   go_enter Tryz.func133, Tryz.ntmps133
   go_upto_region 1 with fail
   generalize hW1 : W.alloc (.cells #[.int .i64 x.kind, .int .u64 (word x.set.testBit 0), .int .u64 (word x.set.testBit 1), .int .u64 (word x.set.testBit 2), .int .u64 (word x.set.testBit 3), .slice C x.kids.len capc, .int .i64 x.lo, .int .i64 x.hi] 28) = W1 at *
   have hsz : W.heap.size ≤ W1.heap.size := HB.out.size
   go_wp2
   go_light
   go_ret
   rw [HF.out]
   have hbw := (Below.refl W1.heap.size W1).alloc (Nat.le_refl _) (.cells (ndA x C capc) 28)
   exact ⟨_, _, rfl, HB.out.trans (hbw.mono hsz), Nat.le_refl _, row_oneS (Blk.new W1 _ _) (.inr hsz) hc ((HT.out.below hbw).weak (fun b h _ => .inl h))⟩
def PredC (n : Nat) (caps : Array Value) (p : Nd → Bool) (w : World) (x : Nd) : Prop := ∀ (C : Option Addr) (capc : Nat) (W : World), Below w.heap.size w W → x.kids.len ≤ capc → TreesAt W (fun b => b < w.heap.size) x.kids C →
 Calls Tryz.prog n (#[ndV x C capc] ++ caps) W fun e w' => e = .returned (.bool (p x)) ∧ Below W.heap.size W w'
def IdxN (b : Bool) (w : World) (e : Ending) (w' : World) : Prop := ∃ v : Int, e = .returned (.int .i64 v) ∧ ((b = false ∧ v = -1) ∨ (b = true ∧ 0 ≤ v)) ∧ Below w.heap.size w w'
theorem idxn_go (F : Trees) (B : Option Addr) (cap : Nat) (w : World) (n : Nat) (caps : Array Value) (p : Nd → Bool) (hl : F.len ≤ 100000000) (ht : TreesAt w (fun b => b < w.heap.size) F B) (hen : ∀ args W, (callFunc n args).run Tryz.prog W = .ok (.enter n args) W) (hby : ∀ x ∈ F.list, PredC n caps p w x) :
  Calls Tryz.prog 134 #[.slice B F.len cap, .func (.func n) #[] caps] w (IdxN (F.list.any p) w) := by
 have HT := Lib.hid ht
 have HBy := Lib.hid hby
 have hFl := Trees.len_list F
 clear ht hby
 go_enter Tryz.func134, Tryz.ntmps134
 go_wp2
 go_loopw [8] (fun i wr => ∃ k : Nat, i = .int .i64 (k : Int) ∧ k ≤ F.len ∧ Hid (∀ j z, j < k → F.list[j]? = some z → p z = false) ∧ Hid (Below w.heap.size w wr)) (fun i _ => F.len - (intOf i).toNat)
 case atStart => exact ⟨0, rfl, Nat.zero_le _, Lib.hid (fun j z hj => by omega), Lib.hid (Below.refl _ _)⟩
 case round =>
  obtain ⟨k, rfl, hk, HR, HB⟩ := hrel
  by_cases hlt : k < F.len
  ·obtain ⟨z, hz⟩ : ∃ z, F.list[k]? = some z := ⟨_, List.getElem?_eq_getElem (by omega)⟩
   obtain ⟨b, o, C, capc, rfl, _, hck, ⟨c0, c1, c2, c3, c4, c5, c6, c7⟩, hkz⟩ := (HT.out.below HB.out).get hz
   have hdl : (k : Int) < (F.len : Int) := by omega
   have hbl := World.block_lt_of_cell? wr _ c0
   have HI := Lib.hid (HBy.out z (List.mem_of_getElem? hz) C capc wr HB.out hck hkz)
   have HZ := Lib.hid hz
   clear hz hkz hck
   unfold ndV at HI
   cases hv : p z with
   | false =>
    rw [hv] at HI
    have HV := Lib.hid hv
    clear hv
    go_wp2_with fail
    refine HI.out.mono ?_
    rintro e w3 ⟨rfl, hb3⟩
    have HB3 := Lib.hid (HB.out.trans (hb3.mono HB.out.size))
    clear HI c0 c1 c2 c3 c4 c5 c6 c7 hb3 HB
    dsimp only
    go_wp2
    go_roundw
    case rel => exact ⟨k + 1, by go_num, by omega, Lib.hid (fun j y hj hy => by
     rcases Nat.lt_or_ge j k with h | h
     ·exact HR.out j y h hy
     ·obtain rfl : j = k := by omega
      rw [HZ.out] at hy
      cases hy
      exact HV.out), HB3⟩
    case measure => simp [intOf]; omega
   | true =>
    rw [hv] at HI
    have HV := Lib.hid (show F.list.any p = true from List.any_eq_true.2 ⟨z, List.mem_of_getElem? HZ.out, hv⟩)
    clear hv
    go_wp2_with fail
    refine HI.out.mono ?_
    rintro e w3 ⟨rfl, hb3⟩
    have HB3 := Lib.hid (HB.out.trans (hb3.mono HB.out.size))
    clear HI c0 c1 c2 c3 c4 c5 c6 c7 hb3 HB
    dsimp only
    go_wp2
    go_light
    go_ret
    exact ⟨k, rfl, .inr ⟨HV.out, by omega⟩, HB3.out⟩
  ·obtain rfl : k = F.len := by omega
   have hdl : ¬ ((F.len : Int) < (F.len : Int)) := by omega
   have HV := Lib.hid (show F.list.any p = false by
    rw [List.any_eq_false]
    intro x hx
    obtain ⟨j, hj⟩ := List.getElem?_of_mem hx
    have := (List.getElem?_eq_some_iff.1 hj).1
    rw [HR.out j x (by omega) hj]
    decide)
   go_wp2
   go_light
   go_ret
   exact ⟨-1, rfl, .inl ⟨HV.out, rfl⟩, HB.out⟩
theorem hasn_go (F : Trees) (B : Option Addr) (cap : Nat) (w : World) (n : Nat) (caps : Array Value) (p : Nd → Bool) (q : Bool) (hq : F.list.any p = q) (hl : F.len ≤ 100000000) (ht : TreesAt w (fun b => b < w.heap.size) F B) (hen : ∀ args W, (callFunc n args).run Tryz.prog W = .ok (.enter n args) W) (hby : ∀ x ∈ F.list, PredC n caps p w x) :
  Calls Tryz.prog 77 #[.slice B F.len cap, .func (.func n) #[] caps] w fun e w' => e = .returned (.bool q) ∧ Below w.heap.size w w' := by
 have hi := idxn_go F B cap w n caps p hl ht hen hby
 rw [hq] at hi
 have HI := Lib.hid hi
 clear ht hby hen hi hq
 go_enter Tryz.func77, Tryz.ntmps77
 go_wp2_with fail
 refine HI.out.mono ?_
 rintro e w3 ⟨v, rfl, hv, hb3⟩
 have HB := Lib.hid hb3
 clear HI hb3
 rcases hv with ⟨rfl, rfl⟩ | ⟨rfl, h2⟩
 ·dsimp only
  go_wp2
  go_light
  go_ret
  exact ⟨rfl, HB.out⟩
 ·have hd : decide ((0 : Int) ≤ v) = true := decide_eq_true h2
  dsimp only
  go_wp2
  go_light
  go_ret
  exact ⟨ret_b (by simp [h2]), HB.out⟩
theorem isnone_go (w : World) (x : Nd) : PredC 78 #[] (isK 1) w x := by
 intro C capc W hW hc ht
 have hal : Below W.heap.size W (W.alloc (.cells (ndA x C capc) 28)) := (Below.refl _ _).alloc (Nat.le_refl _) _
 have p0 : (W.alloc (.cells (ndA x C capc) 28)).cell? ⟨W.heap.size, 0, none⟩ = some (.int .i64 x.kind) := (Blk.new W 28 (ndA x C capc)).cell 0
 have HB := Lib.hid hal
 clear ht hW hal
 unfold ndV
 unfold ndA at *
 have hl : W.heap.size < (W.alloc (.cells #[.int .i64 x.kind, .int .u64 (word x.set.testBit 0), .int .u64 (word x.set.testBit 1), .int .u64 (word x.set.testBit 2), .int .u64 (word x.set.testBit 3), .slice C x.kids.len capc, .int .i64 x.lo, .int .i64 x.hi] 28)).heap.size := by simp
 go_enter Tryz.func78, Tryz.ntmps78
 go_upto_region 1 with fail
 generalize W.alloc (.cells #[.int .i64 x.kind, .int .u64 (word x.set.testBit 0), .int .u64 (word x.set.testBit 1), .int .u64 (word x.set.testBit 2), .int .u64 (word x.set.testBit 3), .slice C x.kids.len capc, .int .i64 x.lo, .int .i64 x.hi] 28) = W1 at *
 go_wp2
 go_light
 go_ret
 exact ⟨ret_b (by unfold isK; rfl), HB.out⟩
theorem enters_go {f : FuncId} {fn : Func} {c : Code} (hf : Tryz.prog.funcs[f]? = some fn) (hn : (fn.name == "runtime.NumGoroutine") = false) (hb : fn.body = some c) (args : Array Value) (W : World) : (callFunc f args).run Tryz.prog W = .ok (.enter f args) W := by
 have h1 : fn.name ≠ "runtime.NumGoroutine" := by simpa using hn
 simp [callFunc, hf, h1, hb]
theorem enter_isNone (args : Array Value) (W : World) : (callFunc 78 args).run Tryz.prog W = .ok (.enter 78 args) W := enters_go Tryz.func78 (by kernel_rfl) rfl args W
end
end Go.Proofs.YtofbfafnpdaejaaGreatDoor
