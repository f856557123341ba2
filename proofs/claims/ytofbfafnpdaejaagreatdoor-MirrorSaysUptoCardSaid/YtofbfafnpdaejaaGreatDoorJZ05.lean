/- Texts of the claim. -/
import Derived.StillTailTactics
import Derived.RangeFuncBox
import Derived.Maps.AppendAt
import Derived.Maps.OwnIn
import Derived.Lib.Hide
import Derived.Deep.QuietTactic
import Derived.BigQuiet
import Derived.Test.YtofbfafnpdaejaaGreatDoorJZ04
import Derived.Test.YtofbfafnpdaejaaGreatDoorJZ03
import Derived.Test.YtofbfafnpdaejaaGreatDoorJEscCl
namespace Go.Proofs.YtofbfafnpdaejaaGreatDoor
open Go.RowKit
set_option linter.unusedSimpArgs false
set_option linter.unusedVariables false
set_option maxRecDepth 100000
set_option maxHeartbeats 8000000
theorem look_plus {x z y : Nd} {bs : List Nat} (hk : z.kind = 7) (hy : z.kids.list = [y]) (hK : EndsC x bs y) : LookC x bs z := by
 intro base gm b cp fm cv V w hM k i B A n1 c1 c2 hkb hi hints hc2
 have hn : z.kids.len = 1 := by rw [← Trees.len_list, hy]; rfl
 rw [hk, hn]
 rw [hn] at hc2
 obtain ⟨m, hm1, hm2⟩ := hkb.kid (i := 0) (y := y) (by rw [hy]; rfl)
 obtain ⟨b', o', rfl, hkc⟩ := hints 0 _ hm1
 rw [Nat.add_zero] at hkc
 have HM2 := Lib.hid hm2
 have HM1 := Lib.hid hm1
 clear hm1 hm2
 obtain ⟨W0, hW0⟩ : ∃ W0, ((w.alloc (.cells #[.int .i64 (7), .int .u64 (word z.set.testBit 0), .int .u64 (word z.set.testBit 1), .int .u64 (word z.set.testBit 2), .int .u64 (word z.set.testBit 3), .slice B n1 c1, .int .i64 z.lo, .int .i64 z.hi, .slice (some ⟨b', o', none⟩) (1) c2] 172)).alloc (.cells #[.int .u64 0, .int .u64 0, .int .u64 0, .int .u64 0, .int .u64 0] 69)).alloc (.cells #[.int .u64 0, .int .u64 0, .int .u64 0, .int .u64 0, .int .u64 0] 69) = W0 := ⟨_, rfl⟩
 have HM := Lib.hid hM
 have hlen := hM.len
 have H0 := Lib.hid (look_made hM hW0)
 obtain ⟨k0, k1, k2, k3, k4, k5, k6, k7, k8⟩ : _ ∧ _ ∧ _ ∧ _ ∧ _ ∧ _ ∧ _ ∧ _ ∧ _ := ⟨H0.out.bx.cell 0, H0.out.bx.cell 1, H0.out.bx.cell 2, H0.out.bx.cell 3, H0.out.bx.cell 4, H0.out.bx.cell 5, H0.out.bx.cell 6, H0.out.bx.cell 7, H0.out.bx.cell 8⟩
 simp only [List.getElem?_toArray, List.getElem?_cons_zero, List.getElem?_cons_succ] at k0 k1 k2 k3 k4 k5 k6 k7 k8
 obtain ⟨p0, p1, p2, p3, p4⟩ := H0.out.bp.c5w
 simp only [word_none] at p0 p1 p2 p3 p4
 have HKB := Lib.hid hkb
 have HIN := Lib.hid hints
 have lx := H0.out.bx.lt
 have lp := H0.out.bp.lt
 have lr := H0.out.br.lt
 clear hM hkb hints
 go_enter Tryz.func155, Tryz.ntmps155
 have HK := Lib.hid (eachC_of hK)
 have HD := Lib.hid H0.out.drew
 have kc := kid_cell (c2 := 0) HIN.out HM1.out H0.out.mw.grown HM.out.memo
 have HC := Lib.hid (hK base gm b cp fm cv V W0.drew HD.out.mw.mat m i HM2.out hi)
 have HL := Lib.hid (show ∀ c, endsB y bs i c = true → c ≤ bs.length from fun c hc => rel_len y bs hi (endsB_iff.1 hc))
 have hd1 : (0 : Int) < (c2 : Int) := by omega
 clear hK hkc
 go_wp2
 clear hW0
 go_region_with (first
  | (go_at_call 112; refine HC.out.mono ?_; rintro _ w4 ⟨rfl, hm4, hg4⟩; have H4 := Lib.hid (HD.out.call hm4 hg4); clear hm4 hg4; have k8 := H4.out.bx.cell 8; simp only [List.getElem?_toArray, List.getElem?_cons_zero, List.getElem?_cons_succ] at k8; have kc := kid_cell (c2 := 0) HIN.out HM1.out H4.out.mw.grown HM.out.memo; have lx4 := H4.out.bx.lt)
  | (go_at_call 188; refine (again_go HK.out w4 H4.out.mw.mat m (endsB y bs i) HM2.out HL.out).mono ?_; rintro _ W2 ⟨rfl, hm2, hg2⟩; have H2 := Lib.hid (H4.out.call hm2 hg2); clear hm2 hg2; obtain ⟨r0, r1, r2, r3, r4⟩ := H2.out.br.c5w; obtain ⟨f0, f1, f2, f3, f4⟩ := H2.out.br.f5w; have lr2 := H2.out.br.lt))
 all_goals go_wp2
 all_goals obtain ⟨e1, e2⟩ := look_done HM.out H2.out (imgB (starR (y.rel bs)) (endsB y bs i)) (by unfold endsB; rw [rel_kid7 hk hy, imgB_comp]; rfl)
 all_goals exact bodyPost_ret (ret_pl Tryz.results155 rfl e1) rfl e2
theorem look_rep {x z y : Nd} {bs : List Nat} (hk : z.kind = 9) (hy : z.kids.list = [y]) (hK : EndsC x bs y) (lo : Nat) (hlo : z.lo = (lo : Int)) (h1 : lo ≤ 1000) (h2 : -1 ≤ z.hi) (h3 : z.hi ≤ 1000) (h4 : z.hi = -1 ∨ z.lo ≤ z.hi) : LookC x bs z := by
 have HLO := Lib.hid hlo
 have HNS := Lib.hid (show z.hi ≤ 1000000 ∧ (z.hi < 0 ∨ (lo : Int) ≤ z.hi) ∧ -9000000000000000000 ≤ z.hi from by omega)
 clear hlo h2 h3 h4
 intro base gm b cp fm cv V w hM k i B A n1 c1 c2 hkb hi hints hc2
 have hn : z.kids.len = 1 := by rw [← Trees.len_list, hy]; rfl
 rw [hk, hn]
 rw [hn] at hc2
 obtain ⟨m, hm1, hm2⟩ := hkb.kid (i := 0) (y := y) (by rw [hy]; rfl)
 obtain ⟨b', o', rfl, hkc⟩ := hints 0 _ hm1
 rw [Nat.add_zero] at hkc
 have HM2 := Lib.hid hm2
 have HM1 := Lib.hid hm1
 clear hm1 hm2
 obtain ⟨W0, hW0⟩ : ∃ W0, ((w.alloc (.cells #[.int .i64 (9), .int .u64 (word z.set.testBit 0), .int .u64 (word z.set.testBit 1), .int .u64 (word z.set.testBit 2), .int .u64 (word z.set.testBit 3), .slice B n1 c1, .int .i64 z.lo, .int .i64 z.hi, .slice (some ⟨b', o', none⟩) (1) c2] 172)).alloc (.cells #[.int .u64 0, .int .u64 0, .int .u64 0, .int .u64 0, .int .u64 0] 69)).alloc (.cells #[.int .u64 0, .int .u64 0, .int .u64 0, .int .u64 0, .int .u64 0] 69) = W0 := ⟨_, rfl⟩
 have HM := Lib.hid hM
 have hlen := hM.len
 have H0 := Lib.hid (look_made hM hW0)
 obtain ⟨k0, k1, k2, k3, k4, k5, k6, k7, k8⟩ : _ ∧ _ ∧ _ ∧ _ ∧ _ ∧ _ ∧ _ ∧ _ ∧ _ := ⟨H0.out.bx.cell 0, H0.out.bx.cell 1, H0.out.bx.cell 2, H0.out.bx.cell 3, H0.out.bx.cell 4, H0.out.bx.cell 5, H0.out.bx.cell 6, H0.out.bx.cell 7, H0.out.bx.cell 8⟩
 simp only [List.getElem?_toArray, List.getElem?_cons_zero, List.getElem?_cons_succ] at k0 k1 k2 k3 k4 k5 k6 k7 k8
 obtain ⟨p0, p1, p2, p3, p4⟩ := H0.out.bp.c5w
 simp only [word_none] at p0 p1 p2 p3 p4
 have HKB := Lib.hid hkb
 have HIN := Lib.hid hints
 have lx := H0.out.bx.lt
 have lp := H0.out.bp.lt
 have lr := H0.out.br.lt
 clear hM hkb hints
 go_enter Tryz.func155, Tryz.ntmps155
 have HK := Lib.hid (eachC_of hK)
 clear hK
 go_wp2_with fail
 refine (pput_go (w.heap.size + 2) (fun _ => false) i (by omega) W0 H0.out.bp).mono ?_
 rintro _ W1 ⟨rfl, hb1, hg1⟩
 have H1 := Lib.hid (H0.out.put HM.out hg1 (show Blk W1 (w.heap.size + 2) _ #[.int .u64 (word (atB i) 0), .int .u64 (word (atB i) 1), .int .u64 (word (atB i) 2), .int .u64 (word (atB i) 3), .int .u64 (word (atB i) 4)] from hb1))
 clear hb1 hg1 p0 p1 p2 p3 p4 H0 hW0 k0 k1 k2 k3 k4 k5 k6 k7 k8
 have k6 := H1.out.bx.cell 6
 have k7 := H1.out.bx.cell 7
 have k8 := H1.out.bx.cell 8
 simp only [List.getElem?_toArray, List.getElem?_cons_zero, List.getElem?_cons_succ] at k6 k7 k8
 have HD := Lib.hid H1.out.drew
 obtain ⟨p0, p1, p2, p3, p4⟩ := H1.out.bp.c5w
 have kc := kid_cell (c2 := 0) HIN.out HM1.out H1.out.mw.grown HM.out.memo
 have lx1 := H1.out.bx.lt
 have HA := Lib.hid (times11_go HK.out W1.drew HD.out.mw.mat m (atB i) lo z.hi (by omega) HNS.out.1 HNS.out.2.1 HNS.out.2.2 HM2.out (at_len hi))
 rw [← HLO.out] at HA
 have hd1 : (0 : Int) < (c2 : Int) := by omega
 clear h1
 dsimp only
 go_wp2
 go_still_tail 12, (by kernel_rfl)
 change wpList _ _ _ _ _ W1.drew
 clear p0 p1 p2 p3 p4 k6 k7 k8 kc
 go_wp2_with fail
 refine HA.out.mono ?_
 rintro _ W2 ⟨rfl, hm2, hg2⟩
 have H2 := Lib.hid (HD.out.call hm2 hg2)
 clear hm2 hg2
 obtain ⟨r0, r1, r2, r3, r4⟩ := H2.out.br.c5w
 obtain ⟨f0, f1, f2, f3, f4⟩ := H2.out.br.f5w
 have lr2 := H2.out.br.lt
 dsimp only
 go_wp2
 obtain ⟨e1, e2⟩ := look_done HM.out H2.out (imgB (repR z.lo z.hi (y.rel bs)) (atB i)) (by unfold endsB; rw [rel_kid9 hk hy])
 exact bodyPost_ret (ret_pl Tryz.results155 rfl e1) rfl e2
end Go.Proofs.YtofbfafnpdaejaaGreatDoor
namespace Go.Proofs.YtofbfafnpdaejaaGreatDoor
open Go.RowKit Go.Maps
set_option linter.unusedSimpArgs false
set_option linter.unusedVariables false
set_option maxHeartbeats 8000000
theorem only_kid {F : Trees} (h : F.len = 1) : ∃ y, F.list = [y] := by
 rw [← Trees.len_list] at h
 match hF : F.list, h with
 | [y], _ => exact ⟨y, rfl⟩
theorem kid_size {z y : Nd} (h : y ∈ z.kids.list) : y.size + 1 ≤ z.size := by
 obtain ⟨i, hi⟩ := List.mem_iff_getElem?.1 h
 have := Trees.size_get z.kids i y hi
 unfold Nd.size at this ⊢
 omega
theorem kid_okays {z y : Nd} (h : y ∈ z.kids.list) (ho : ∀ u ∈ z.nodes, aloneN u = true) : ∀ u ∈ y.nodes, aloneN u = true := fun u hu => by
 obtain ⟨i, hi⟩ := List.mem_iff_getElem?.1 h
 refine ho u ?_
 simp only [Nd.nodes, List.mem_cons]
 exact .inr (nodes_kid hi u hu)
theorem ends_all {x : Nd} {bs : List Nat} : ∀ (n : Nat) (z : Nd), z.size ≤ n → n ≤ 1000000 → (∀ u ∈ z.nodes, aloneN u = true) → EndsC x bs z
 | 0, z, h, _, _ => by unfold Nd.size at h; omega
 | n + 1, z, h, hn, ho => by
  have hK : ∀ y ∈ z.kids.list, EndsC x bs y := fun y hy => ends_all n y (by have := kid_size hy; omega) (by omega) (kid_okays hy ho)
  have hl : z.kids.len ≤ 1000000 := by have := Trees.len_size z.kids; unfold Nd.size at h; omega
  refine ends_of ?_
  obtain ⟨a1, a9, a0, ak1, ak9⟩ := aloneN_kids (ho z (self_nodes z))
  by_cases k1 : z.kind = 1
  ·exact look_nothing k1
  by_cases k2 : z.kind = 2
  ·exact look_empty k2
  by_cases k3 : z.kind = 3
  ·exact look_set k3
  by_cases k4 : z.kind = 4
  ·exact look_cat k4 hl hK
  by_cases k5 : z.kind = 5
  ·exact look_alt k5 hl hK
  obtain ⟨y, hy⟩ := only_kid (a1 (by omega) (by omega))
  have hY := hK y (by rw [hy]; simp)
  by_cases k6 : z.kind = 6
  ·exact look_star k6 hy hY
  by_cases k7 : z.kind = 7
  ·exact look_plus k7 hy hY
  by_cases k8 : z.kind = 8
  ·exact look_opt k8 hy hY
  have k9 : z.kind = 9 := by omega
  obtain ⟨b1, b2⟩ := a9 k9
  obtain ⟨c1, c2, c3, c4⟩ := numsOk_of (ho z (self_nodes z)) k9
  exact look_rep k9 hy hY z.lo.toNat (by omega) (by omega) c3 c4 b2
set_option maxRecDepth 100000
def errF (x : Nd) (bs : List Nat) (i : Int) : Int := if rightT x = false then 6 else if 256 < bs.length then 4 else if i < 0 ∨ (bs.length : Int) < i then 1 else 0
noncomputable def findB (x : Nd) (bs : List Nat) (i : Int) : Nat → Bool := if errF x bs i = 0 then endsB x bs i.toNat else fun _ => false
theorem errF_zero {x : Nd} {bs : List Nat} {i : Int} (h : errF x bs i = 0) : rightT x = true ∧ bs.length ≤ 256 ∧ 0 ≤ i ∧ i ≤ (bs.length : Int) := by
 unfold errF at h
 split at h
 ·omega
 split at h
 ·omega
 split at h
 ·omega
 ·rename_i h1 h2 h3
  exact ⟨by simpa using h1, by omega, by omega, by omega⟩
theorem findB_no {x : Nd} {bs : List Nat} {i : Int} (h : errF x bs i ≠ 0) : findB x bs i = fun _ => false := by unfold findB; rw [if_neg h]
theorem findB_yes {x : Nd} {bs : List Nat} {i : Int} (h : errF x bs i = 0) : findB x bs i = endsB x bs i.toNat := by unfold findB; rw [if_pos h]
theorem ret_find {fn : Func} {t2 t3 : Tmp} (h : fn.results = #[.cell t2 69, .tmp t3]) {tmps : Array Value} {w : World} {g : Nat} {a0 a1 a2 a3 a4 c : Value}
  (hp : tmps.getD t2 undef = .pointer (some ⟨g, 0, none⟩)) (hc : tmps.getD t3 undef = c) (hb : Blk w g 69 #[a0, a1, a2, a3, a4]) :
  (results fn tmps).run Tryz.prog w = .ok (.tuple #[.agg #[a0, a1, a2, a3, a4], c]) w := by
 have h1 := run_loadVar_row (P := Tryz.prog) w g 69 69 #[a0, a1, a2, a3, a4] (0, 0) _ hb Tryz.underlying69 rfl (by kernel_rfl)
 simp only [results, h]
 simp only [Array.getD_eq_getD_getElem?] at hp hc
 simp [Sem.run_bind, hp, hc, asAddr, h1, Result.andThen]
theorem mat_made {x : Nd} {bs : List Nat} {base gm b cp cv : Nat} {V : Option Addr} {w3 : World} {xs : List Value} {Q : Nat → Prop}
  (hbox : Blk w3 gm 132 #[.slice (some ⟨b, 0, none⟩) x.size cp, .slice V bs.length cv, .map (some base)]) (hrow : w3.ownsRow base 172 9 (.slice (some ⟨b, 0, none⟩) x.size cp) x.size xs) (hp : PartsL w3 base Q 0 x.nodes xs)
  (hV : BytesAt w3 base V bs) (hl : bs.length ≤ 256) (hm : MemoAt askV okA (goodM x bs) w3 base) (hT : TabAt 0 Lib.deBruijn64tab w3) (hg : 0 < base) (hs : x.size ≤ 1000000) :
  MatAt w3 x bs base gm b cp base V cv := by
 refine ⟨hbox, fun k z hz => ?_, ?_, hV, hl, hm, hT, hg, Nat.le_refl _, hs⟩
 ·obtain ⟨B, n1, c1, A, c2, h1, h2⟩ := hp.get hz
  have hk : k < x.size := by rw [← Nd.nodes_len]; exact (List.getElem?_eq_some_iff.1 hz).1
  have hc : ∀ j u, j < 9 → (pcell z B n1 c1 A z.kids.len c2)[j]? = some u → w3.cell? ⟨b, k * 9 + j, none⟩ = some u := fun j u hj hu => by
   rw [hrow.cellAt _ (by omega)]
   exact h1 j u hu
  obtain ⟨A', c', e, hle⟩ := row_form h2
  cases e
  have hlen : z.kids.len = (kidNums (0 + k + 1) z.kids.list).length := by rw [kidNums_len, Trees.len_list]
  refine ⟨B, A, n1, c1, c2, hc 0 _ (by omega) rfl, hc 1 _ (by omega) rfl, hc 2 _ (by omega) rfl, hc 3 _ (by omega) rfl, hc 4 _ (by omega) rfl, hc 5 _ (by omega) rfl, hc 6 _ (by omega) rfl, hc 7 _ (by omega) rfl, hc 8 _ (by omega) rfl, ?_, hle⟩
  rw [hlen, Nat.zero_add] at h2
  exact own_intsC h2
 ·obtain ⟨A, c, e, h⟩ := row_form hrow
  cases e
  exact h
theorem right_okays {x : Nd} (h : rightT x = true) : ∀ y ∈ x.nodes, aloneN y = true := by
 unfold rightT at h
 rw [Bool.and_eq_true, List.all_eq_true] at h
 exact h.2
theorem right_small {x : Nd} (h : rightT x = true) : x.size ≤ 4096 := by
 unfold rightT at h
 rw [Bool.and_eq_true, decide_eq_true_eq, Nd.nodes_len] at h
 exact h.1
theorem root_below (x : Nd) : Below1 x.nodes 0 x := fun j u h => by rw [Nat.zero_add]; exact h
theorem find_kind (x : Nd) (B : Option Addr) (cap : Nat) (V : Option Addr) (cv : Nat) (i : Int) (bs : List Nat) (w : World) (hsz : x.size ≤ 4611686018427387903) (hcap : x.kids.len ≤ cap) (ht : TreesAt w (fun b => b < w.heap.size) x.kids B) (hV : BytesAt w w.heap.size V bs) (hT : TabAt 0 Lib.deBruijn64tab w) (hg : 0 < w.heap.size) (hr : rightT x = false) : Calls Tryz.prog 56 #[ndV x B cap, .slice V bs.length cv, .int .i64 i] w fun e w' => e = .returned (.tuple #[.agg #[.int .u64 (word (findB x bs i) 0), .int .u64 (word (findB x bs i) 1), .int .u64 (word (findB x bs i) 2), .int .u64 (word (findB x bs i) 3), .int .u64 (word (findB x bs i) 4)], .int .i64 (errF x bs i)]) ∧ Below w.heap.size w w' := by
 have HF := Lib.hid (show errF x bs i = 6 ∧ True from ⟨by unfold errF; rw [if_pos hr], trivial⟩)
 obtain ⟨W0, hW0⟩ : ∃ W0, (w.alloc (.cells (ndA x B cap) 28)).alloc (.cells #[.int .u64 0, .int .u64 0, .int .u64 0, .int .u64 0, .int .u64 0] 69) = W0 := ⟨_, rfl⟩
 have hal : Below w.heap.size w W0 := by rw [← hW0]; exact ((Below.refl _ _).alloc (Nat.le_refl _) _).alloc (by simp) _
 have hX : Blk W0 w.heap.size 28 (ndA x B cap) := by rw [← hW0]; exact (Blk.new w _ _).alloc _
 have hR : Blk W0 (w.heap.size + 1) 69 #[.int .u64 0, .int .u64 0, .int .u64 0, .int .u64 0, .int .u64 0] := by rw [← hW0]; exact Blk.new_at (by simp)
 have HC := Lib.hid (tright_any x B cap W0 hsz ((ht.below hal).weak (fun b h _ => Nat.lt_of_lt_of_le h hal.size)))
 have HX := Lib.hid hX
 have HR := Lib.hid hR
 have HAL := Lib.hid hal
 obtain ⟨x0, x1, x2, x3, x4, x5, x6, x7⟩ : _ ∧ _ ∧ _ ∧ _ ∧ _ ∧ _ ∧ _ ∧ _ := ⟨hX.cell 0, hX.cell 1, hX.cell 2, hX.cell 3, hX.cell 4, hX.cell 5, hX.cell 6, hX.cell 7⟩
 have lx := hX.lt
 unfold ndA at x0 x1 x2 x3 x4 x5 x6 x7 hW0
 simp only [List.getElem?_toArray, List.getElem?_cons_zero, List.getElem?_cons_succ] at x0 x1 x2 x3 x4 x5 x6 x7
 unfold ndV at HC ⊢
 rw [hr] at HC
 clear hr
 clear ht hV hT hX hR hal
 go_enter Tryz.func56, Tryz.ntmps56
 go_wp2_with fail
 refine HC.out.mono ?_
 rintro _ w1 ⟨rfl, hb1⟩
 have hR1 := HR.out.below hb1 HR.out.lt
 have HX1 := Lib.hid (HX.out.below hb1 HX.out.lt)
 have HB1 := Lib.hid (HAL.out.trans (hb1.mono HAL.out.size))
 have HR1 := Lib.hid hR1
 obtain ⟨r0, r1, r2, r3, r4⟩ := hR1.c5w
 obtain ⟨f0, f1, f2, f3, f4⟩ := hR1.f5w
 have lr := hR1.lt
 clear hb1 hR1 HC HX HR HAL x0 x1 x2 x3 x4 x5 x6 x7 lx hW0
 dsimp only
 go_wp2
 have h5 := HR1.out.put5 (fun _ => false)
 have hs5 := stow_none w1 (w.heap.size + 1)
 have hb5 : Below w.heap.size w (stow5 w1 (w.heap.size + 1) (fun _ => false)) := HB1.out.grown (grown5 _ _ _) HB1.out.size (fun k e => by cases e; omega)
 rw [hs5] at h5 hb5
 simp only [word_none] at h5
 exact bodyPost_ret (ret_find Tryz.results56 rfl rfl h5) rfl ⟨by rw [HF.out.1, findB_no (by rw [HF.out.1]; decide)]; simp only [word_none]; rfl, hb5⟩
theorem find_long (x : Nd) (B : Option Addr) (cap : Nat) (V : Option Addr) (cv : Nat) (i : Int) (bs : List Nat) (w : World) (hsz : x.size ≤ 4611686018427387903) (hcap : x.kids.len ≤ cap) (ht : TreesAt w (fun b => b < w.heap.size) x.kids B) (hV : BytesAt w w.heap.size V bs) (hT : TabAt 0 Lib.deBruijn64tab w) (hg : 0 < w.heap.size) (hr : rightT x = true) (hl : 256 < bs.length) : Calls Tryz.prog 56 #[ndV x B cap, .slice V bs.length cv, .int .i64 i] w fun e w' => e = .returned (.tuple #[.agg #[.int .u64 (word (findB x bs i) 0), .int .u64 (word (findB x bs i) 1), .int .u64 (word (findB x bs i) 2), .int .u64 (word (findB x bs i) 3), .int .u64 (word (findB x bs i) 4)], .int .i64 (errF x bs i)]) ∧ Below w.heap.size w w' := by
 have HF := Lib.hid (show errF x bs i = 4 ∧ True from ⟨by unfold errF; rw [if_neg (by rw [hr]; decide), if_pos hl], trivial⟩)
 obtain ⟨W0, hW0⟩ : ∃ W0, (w.alloc (.cells (ndA x B cap) 28)).alloc (.cells #[.int .u64 0, .int .u64 0, .int .u64 0, .int .u64 0, .int .u64 0] 69) = W0 := ⟨_, rfl⟩
 have hal : Below w.heap.size w W0 := by rw [← hW0]; exact ((Below.refl _ _).alloc (Nat.le_refl _) _).alloc (by simp) _
 have hX : Blk W0 w.heap.size 28 (ndA x B cap) := by rw [← hW0]; exact (Blk.new w _ _).alloc _
 have hR : Blk W0 (w.heap.size + 1) 69 #[.int .u64 0, .int .u64 0, .int .u64 0, .int .u64 0, .int .u64 0] := by rw [← hW0]; exact Blk.new_at (by simp)
 have HC := Lib.hid (tright_any x B cap W0 hsz ((ht.below hal).weak (fun b h _ => Nat.lt_of_lt_of_le h hal.size)))
 have HX := Lib.hid hX
 have HR := Lib.hid hR
 have HAL := Lib.hid hal
 obtain ⟨x0, x1, x2, x3, x4, x5, x6, x7⟩ : _ ∧ _ ∧ _ ∧ _ ∧ _ ∧ _ ∧ _ ∧ _ := ⟨hX.cell 0, hX.cell 1, hX.cell 2, hX.cell 3, hX.cell 4, hX.cell 5, hX.cell 6, hX.cell 7⟩
 have lx := hX.lt
 unfold ndA at x0 x1 x2 x3 x4 x5 x6 x7 hW0
 simp only [List.getElem?_toArray, List.getElem?_cons_zero, List.getElem?_cons_succ] at x0 x1 x2 x3 x4 x5 x6 x7
 unfold ndV at HC ⊢
 rw [hr] at HC
 have hd1 : (256 : Int) < (bs.length : Int) := by omega
 clear hr hl
 clear ht hV hT hX hR hal
 go_enter Tryz.func56, Tryz.ntmps56
 go_wp2_with fail
 refine HC.out.mono ?_
 rintro _ w1 ⟨rfl, hb1⟩
 have hR1 := HR.out.below hb1 HR.out.lt
 have HX1 := Lib.hid (HX.out.below hb1 HX.out.lt)
 have HB1 := Lib.hid (HAL.out.trans (hb1.mono HAL.out.size))
 have HR1 := Lib.hid hR1
 obtain ⟨r0, r1, r2, r3, r4⟩ := hR1.c5w
 obtain ⟨f0, f1, f2, f3, f4⟩ := hR1.f5w
 have lr := hR1.lt
 clear hb1 hR1 HC HX HR HAL x0 x1 x2 x3 x4 x5 x6 x7 lx hW0
 dsimp only
 go_wp2
 have h5 := HR1.out.put5 (fun _ => false)
 have hs5 := stow_none w1 (w.heap.size + 1)
 have hb5 : Below w.heap.size w (stow5 w1 (w.heap.size + 1) (fun _ => false)) := HB1.out.grown (grown5 _ _ _) HB1.out.size (fun k e => by cases e; omega)
 rw [hs5] at h5 hb5
 simp only [word_none] at h5
 exact bodyPost_ret (ret_find Tryz.results56 rfl rfl h5) rfl ⟨by rw [HF.out.1, findB_no (by rw [HF.out.1]; decide)]; simp only [word_none]; rfl, hb5⟩
theorem find_low (x : Nd) (B : Option Addr) (cap : Nat) (V : Option Addr) (cv : Nat) (i : Int) (bs : List Nat) (w : World) (hsz : x.size ≤ 4611686018427387903) (hcap : x.kids.len ≤ cap) (ht : TreesAt w (fun b => b < w.heap.size) x.kids B) (hV : BytesAt w w.heap.size V bs) (hT : TabAt 0 Lib.deBruijn64tab w) (hg : 0 < w.heap.size) (hr : rightT x = true) (hl : bs.length ≤ 256) (hi : i < 0) : Calls Tryz.prog 56 #[ndV x B cap, .slice V bs.length cv, .int .i64 i] w fun e w' => e = .returned (.tuple #[.agg #[.int .u64 (word (findB x bs i) 0), .int .u64 (word (findB x bs i) 1), .int .u64 (word (findB x bs i) 2), .int .u64 (word (findB x bs i) 3), .int .u64 (word (findB x bs i) 4)], .int .i64 (errF x bs i)]) ∧ Below w.heap.size w w' := by
 have HF := Lib.hid (show errF x bs i = 1 ∧ True from ⟨by unfold errF; rw [if_neg (by rw [hr]; decide), if_neg (by omega), if_pos (.inl hi)], trivial⟩)
 obtain ⟨W0, hW0⟩ : ∃ W0, (w.alloc (.cells (ndA x B cap) 28)).alloc (.cells #[.int .u64 0, .int .u64 0, .int .u64 0, .int .u64 0, .int .u64 0] 69) = W0 := ⟨_, rfl⟩
 have hal : Below w.heap.size w W0 := by rw [← hW0]; exact ((Below.refl _ _).alloc (Nat.le_refl _) _).alloc (by simp) _
 have hX : Blk W0 w.heap.size 28 (ndA x B cap) := by rw [← hW0]; exact (Blk.new w _ _).alloc _
 have hR : Blk W0 (w.heap.size + 1) 69 #[.int .u64 0, .int .u64 0, .int .u64 0, .int .u64 0, .int .u64 0] := by rw [← hW0]; exact Blk.new_at (by simp)
 have HC := Lib.hid (tright_any x B cap W0 hsz ((ht.below hal).weak (fun b h _ => Nat.lt_of_lt_of_le h hal.size)))
 have HX := Lib.hid hX
 have HR := Lib.hid hR
 have HAL := Lib.hid hal
 obtain ⟨x0, x1, x2, x3, x4, x5, x6, x7⟩ : _ ∧ _ ∧ _ ∧ _ ∧ _ ∧ _ ∧ _ ∧ _ := ⟨hX.cell 0, hX.cell 1, hX.cell 2, hX.cell 3, hX.cell 4, hX.cell 5, hX.cell 6, hX.cell 7⟩
 have lx := hX.lt
 unfold ndA at x0 x1 x2 x3 x4 x5 x6 x7 hW0
 simp only [List.getElem?_toArray, List.getElem?_cons_zero, List.getElem?_cons_succ] at x0 x1 x2 x3 x4 x5 x6 x7
 unfold ndV at HC ⊢
 rw [hr] at HC
 have hd1 : ¬ (256 : Int) < (bs.length : Int) := by omega
 clear hr hl
 clear ht hV hT hX hR hal
 go_enter Tryz.func56, Tryz.ntmps56
 go_wp2_with fail
 refine HC.out.mono ?_
 rintro _ w1 ⟨rfl, hb1⟩
 have hR1 := HR.out.below hb1 HR.out.lt
 have HX1 := Lib.hid (HX.out.below hb1 HX.out.lt)
 have HB1 := Lib.hid (HAL.out.trans (hb1.mono HAL.out.size))
 have HR1 := Lib.hid hR1
 obtain ⟨r0, r1, r2, r3, r4⟩ := hR1.c5w
 obtain ⟨f0, f1, f2, f3, f4⟩ := hR1.f5w
 have lr := hR1.lt
 clear hb1 hR1 HC HX HR HAL x0 x1 x2 x3 x4 x5 x6 x7 lx hW0
 dsimp only
 go_wp2
 have h5 := HR1.out.put5 (fun _ => false)
 have hs5 := stow_none w1 (w.heap.size + 1)
 have hb5 : Below w.heap.size w (stow5 w1 (w.heap.size + 1) (fun _ => false)) := HB1.out.grown (grown5 _ _ _) HB1.out.size (fun k e => by cases e; omega)
 rw [hs5] at h5 hb5
 simp only [word_none] at h5
 exact bodyPost_ret (ret_find Tryz.results56 rfl rfl h5) rfl ⟨by rw [HF.out.1, findB_no (by rw [HF.out.1]; decide)]; simp only [word_none]; rfl, hb5⟩
theorem find_high (x : Nd) (B : Option Addr) (cap : Nat) (V : Option Addr) (cv : Nat) (i : Int) (bs : List Nat) (w : World) (hsz : x.size ≤ 4611686018427387903) (hcap : x.kids.len ≤ cap) (ht : TreesAt w (fun b => b < w.heap.size) x.kids B) (hV : BytesAt w w.heap.size V bs) (hT : TabAt 0 Lib.deBruijn64tab w) (hg : 0 < w.heap.size) (hr : rightT x = true) (hl : bs.length ≤ 256) (hi : 0 ≤ i) (hi2 : (bs.length : Int) < i) : Calls Tryz.prog 56 #[ndV x B cap, .slice V bs.length cv, .int .i64 i] w fun e w' => e = .returned (.tuple #[.agg #[.int .u64 (word (findB x bs i) 0), .int .u64 (word (findB x bs i) 1), .int .u64 (word (findB x bs i) 2), .int .u64 (word (findB x bs i) 3), .int .u64 (word (findB x bs i) 4)], .int .i64 (errF x bs i)]) ∧ Below w.heap.size w w' := by
 have HF := Lib.hid (show errF x bs i = 1 ∧ True from ⟨by unfold errF; rw [if_neg (by rw [hr]; decide), if_neg (by omega), if_pos (.inr hi2)], trivial⟩)
 obtain ⟨W0, hW0⟩ : ∃ W0, (w.alloc (.cells (ndA x B cap) 28)).alloc (.cells #[.int .u64 0, .int .u64 0, .int .u64 0, .int .u64 0, .int .u64 0] 69) = W0 := ⟨_, rfl⟩
 have hal : Below w.heap.size w W0 := by rw [← hW0]; exact ((Below.refl _ _).alloc (Nat.le_refl _) _).alloc (by simp) _
 have hX : Blk W0 w.heap.size 28 (ndA x B cap) := by rw [← hW0]; exact (Blk.new w _ _).alloc _
 have hR : Blk W0 (w.heap.size + 1) 69 #[.int .u64 0, .int .u64 0, .int .u64 0, .int .u64 0, .int .u64 0] := by rw [← hW0]; exact Blk.new_at (by simp)
 have HC := Lib.hid (tright_any x B cap W0 hsz ((ht.below hal).weak (fun b h _ => Nat.lt_of_lt_of_le h hal.size)))
 have HX := Lib.hid hX
 have HR := Lib.hid hR
 have HAL := Lib.hid hal
 obtain ⟨x0, x1, x2, x3, x4, x5, x6, x7⟩ : _ ∧ _ ∧ _ ∧ _ ∧ _ ∧ _ ∧ _ ∧ _ := ⟨hX.cell 0, hX.cell 1, hX.cell 2, hX.cell 3, hX.cell 4, hX.cell 5, hX.cell 6, hX.cell 7⟩
 have lx := hX.lt
 unfold ndA at x0 x1 x2 x3 x4 x5 x6 x7 hW0
 simp only [List.getElem?_toArray, List.getElem?_cons_zero, List.getElem?_cons_succ] at x0 x1 x2 x3 x4 x5 x6 x7
 unfold ndV at HC ⊢
 rw [hr] at HC
 have hd1 : ¬ (256 : Int) < (bs.length : Int) := by omega
 have hd2 : ¬ i < 0 := by omega
 clear hr hl hi
 clear ht hV hT hX hR hal
 go_enter Tryz.func56, Tryz.ntmps56
 go_wp2_with fail
 refine HC.out.mono ?_
 rintro _ w1 ⟨rfl, hb1⟩
 have hR1 := HR.out.below hb1 HR.out.lt
 have HX1 := Lib.hid (HX.out.below hb1 HX.out.lt)
 have HB1 := Lib.hid (HAL.out.trans (hb1.mono HAL.out.size))
 have HR1 := Lib.hid hR1
 obtain ⟨r0, r1, r2, r3, r4⟩ := hR1.c5w
 obtain ⟨f0, f1, f2, f3, f4⟩ := hR1.f5w
 have lr := hR1.lt
 clear hb1 hR1 HC HX HR HAL x0 x1 x2 x3 x4 x5 x6 x7 lx hW0
 dsimp only
 go_wp2
 have h5 := HR1.out.put5 (fun _ => false)
 have hs5 := stow_none w1 (w.heap.size + 1)
 have hb5 : Below w.heap.size w (stow5 w1 (w.heap.size + 1) (fun _ => false)) := HB1.out.grown (grown5 _ _ _) HB1.out.size (fun k e => by cases e; omega)
 rw [hs5] at h5 hb5
 simp only [word_none] at h5
 exact bodyPost_ret (ret_find Tryz.results56 rfl rfl h5) rfl ⟨by rw [HF.out.1, findB_no (by rw [HF.out.1]; decide)]; simp only [word_none]; rfl, hb5⟩
theorem find_yes (x : Nd) (B : Option Addr) (cap : Nat) (V : Option Addr) (cv : Nat) (i : Int) (bs : List Nat) (w : World) (hsz : x.size ≤ 4611686018427387903) (hcap : x.kids.len ≤ cap) (ht : TreesAt w (fun b => b < w.heap.size) x.kids B) (hV : BytesAt w w.heap.size V bs) (hT : TabAt 0 Lib.deBruijn64tab w) (hg : 0 < w.heap.size) (hr : rightT x = true) (hl : bs.length ≤ 256) (i0 : Nat) (hi : i = (i0 : Int)) (hi2 : i0 ≤ bs.length) : Calls Tryz.prog 56 #[ndV x B cap, .slice V bs.length cv, .int .i64 i] w fun e w' => e = .returned (.tuple #[.agg #[.int .u64 (word (findB x bs i) 0), .int .u64 (word (findB x bs i) 1), .int .u64 (word (findB x bs i) 2), .int .u64 (word (findB x bs i) 3), .int .u64 (word (findB x bs i) 4)], .int .i64 (errF x bs i)]) ∧ Below w.heap.size w w' := by
 have hF0 : errF x bs i = 0 := by unfold errF; rw [if_neg (by rw [hr]; decide), if_neg (by omega), if_neg (by omega)]
 have HF := Lib.hid (show errF x bs i = 0 ∧ findB x bs i = endsB x bs i0 from ⟨hF0, by rw [findB_yes hF0, hi]; rfl⟩)
 obtain ⟨W0, hW0⟩ : ∃ W0, (w.alloc (.cells (ndA x B cap) 28)).alloc (.cells #[.int .u64 0, .int .u64 0, .int .u64 0, .int .u64 0, .int .u64 0] 69) = W0 := ⟨_, rfl⟩
 have hal : Below w.heap.size w W0 := by rw [← hW0]; exact ((Below.refl _ _).alloc (Nat.le_refl _) _).alloc (by simp) _
 have hX : Blk W0 w.heap.size 28 (ndA x B cap) := by rw [← hW0]; exact (Blk.new w _ _).alloc _
 have hR : Blk W0 (w.heap.size + 1) 69 #[.int .u64 0, .int .u64 0, .int .u64 0, .int .u64 0, .int .u64 0] := by rw [← hW0]; exact Blk.new_at (by simp)
 have HC := Lib.hid (tright_any x B cap W0 hsz ((ht.below hal).weak (fun b h _ => Nat.lt_of_lt_of_le h hal.size)))
 have HX := Lib.hid hX
 have HR := Lib.hid hR
 have HAL := Lib.hid hal
 obtain ⟨x0, x1, x2, x3, x4, x5, x6, x7⟩ : _ ∧ _ ∧ _ ∧ _ ∧ _ ∧ _ ∧ _ ∧ _ := ⟨hX.cell 0, hX.cell 1, hX.cell 2, hX.cell 3, hX.cell 4, hX.cell 5, hX.cell 6, hX.cell 7⟩
 have lx := hX.lt
 unfold ndA at x0 x1 x2 x3 x4 x5 x6 x7 hW0
 simp only [List.getElem?_toArray, List.getElem?_cons_zero, List.getElem?_cons_succ] at x0 x1 x2 x3 x4 x5 x6 x7
 unfold ndV at HC ⊢
 rw [hr] at HC
 have hd1 : ¬ (256 : Int) < (bs.length : Int) := by omega
 have hd2 : ¬ (i0 : Int) < 0 := by omega
 have hd3 : ¬ (bs.length : Int) < (i0 : Int) := by omega
 have HT := Lib.hid ht
 have HV := Lib.hid hV
 have HTB := Lib.hid hT
 have HO := Lib.hid (right_okays hr)
 have HS := Lib.hid (right_small hr)
 clear ht hV hT hX hR hal hr hF0
 subst hi
 go_enter Tryz.func56, Tryz.ntmps56
 go_wp2_with fail
 refine HC.out.mono ?_
 rintro _ w1 ⟨rfl, hb1⟩
 have hR1 := HR.out.below hb1 HR.out.lt
 have HX1 := Lib.hid (HX.out.below hb1 HX.out.lt)
 have HB1 := Lib.hid (HAL.out.trans (hb1.mono HAL.out.size))
 have HR1 := Lib.hid hR1
 obtain ⟨r0, r1, r2, r3, r4⟩ := hR1.c5w
 obtain ⟨f0, f1, f2, f3, f4⟩ := hR1.f5w
 have lr := hR1.lt
 clear hb1 hR1 HC HX HR HAL x0 x1 x2 x3 x4 x5 x6 x7 lx hW0
 dsimp only
 have hmm := @run_makeMap Tryz.prog
 go_upto_region 8 with fail
 clear hmm
 have hB2 : Below w1.heap.size w1 ((w1.alloc (.map #[] 0)).alloc (.cells #[.slice none 0 0, .slice V bs.length cv, .map (some w1.heap.size)] 132)) := ((Below.refl _ _).alloc (Nat.le_refl _) _).alloc (by simp) _
 have hM2 : MemoAt askV okA (goodM x bs) ((w1.alloc (.map #[] 0)).alloc (.cells #[.slice none 0 0, .slice V bs.length cv, .map (some w1.heap.size)] 132)) w1.heap.size := (memo_made w1).stay (((Below.refl _ (w1.alloc (.map #[] 0))).alloc (Nat.le_refl _) _).block _ (by simp))
 have hG2 : Blk ((w1.alloc (.map #[] 0)).alloc (.cells #[.slice none 0 0, .slice V bs.length cv, .map (some w1.heap.size)] 132)) (w1.heap.size + 1) 132 #[.slice none 0 0, .slice V bs.length cv, .map (some w1.heap.size)] := Blk.new_at (by simp)
 have hs2 : ((w1.alloc (.map #[] 0)).alloc (.cells #[.slice none 0 0, .slice V bs.length cv, .map (some w1.heap.size)] 132)).heap.size = w1.heap.size + 2 := by simp
 generalize (w1.alloc (.map #[] 0)).alloc (.cells #[.slice none 0 0, .slice V bs.length cv, .map (some w1.heap.size)] 132) = w2 at *
 have hX2 := HX1.out.below hB2 HX1.out.lt
 have HR2 := Lib.hid (HR1.out.below hB2 HR1.out.lt)
 have HB2 := Lib.hid (HB1.out.trans (hB2.mono (by omega)))
 have hw1 := HB1.out.size
 have hlay := lay11_all x.size x (Nat.le_refl _) B cap w1.heap.size (w1.heap.size + 1) (.slice V bs.length cv) (.map (some w1.heap.size)) (.slice none 0 0) 0 [] w2 ((HT.out.below (HB2.out)).weak (fun b h _ => Nat.lt_of_lt_of_le h hw1)) hcap hG2 (World.ownsRow_nil _ _ _ _) (by omega) (by omega) (by have := HS.out; omega)
 have HL := Lib.hid hlay
 obtain ⟨x0, x1, x2, x3, x4, x5, x6, x7⟩ : _ ∧ _ ∧ _ ∧ _ ∧ _ ∧ _ ∧ _ ∧ _ := ⟨hX2.cell 0, hX2.cell 1, hX2.cell 2, hX2.cell 3, hX2.cell 4, hX2.cell 5, hX2.cell 6, hX2.cell 7⟩
 have lx := hX2.lt
 simp only [List.getElem?_toArray, List.getElem?_cons_zero, List.getElem?_cons_succ, ndA] at x0 x1 x2 x3 x4 x5 x6 x7
 unfold ndV at HL
 have HS2 := Lib.hid hs2
 have HM2 := Lib.hid hM2
 have HW1 := Lib.hid (show w.heap.size ≤ w1.heap.size ∧ w.heap.size + 1 < w1.heap.size from ⟨hw1, lr⟩)
 clear hlay hX2 hB2 hM2 hG2 hs2 r0 r1 r2 r3 r4 f0 f1 f2 f3 f4 HX1 HR1 HB1 hw1 lr
 go_wp2_with fail
 refine HL.out.mono ?_
 rintro _ w3 ⟨rfl, v3, xs, hbx, hrw, hps, hly⟩
 rw [Nat.zero_add] at hrw
 obtain ⟨b, cp, rfl, _, _⟩ := own_form hrw (by unfold Nd.size; omega)
 have hw2 : w2.heap.size = w1.heap.size + 2 := HS2.out
 have h03 : Below w.heap.size w w3 := HB2.out.trans (hly.below.mono HW1.out.1)
 have hk3 : ∀ j, j < w1.heap.size + 1 → w3.heap[j]? = w2.heap[j]? := fun j hj => hly.kept j (by omega) (by omega) (by simp [Value.ownBlock])
 have hmat := mat_made hbx hrw hps ((HV.out.below h03).more HW1.out.1) hl (HM2.out.stay (hk3 _ (by omega))) (TabAt.below h03 hg HTB.out) (by have := HW1.out.1; omega) (by have := HS.out; omega)
 have HMat := Lib.hid hmat
 have H03 := Lib.hid h03
 have HR3 := Lib.hid ((show w3.heap[w.heap.size + 1]? = _ from (hk3 _ (by have := HW1.out.2; omega)).trans HR2.out))
 have HE := Lib.hid (ends_all (x := x) (bs := bs) x.size x (Nat.le_refl _) (by have := HS.out; omega) HO.out w1.heap.size (w1.heap.size + 1) b cp w1.heap.size cv V w3 hmat 0 i0 (root_below x) hi2)
 clear hw2 h03 hk3 hmat hly hps hrw hbx HL HR2 HM2 HS2 HB2 x0 x1 x2 x3 x4 x5 x6 x7 lx
 dsimp only
 go_wp2_with fail
 refine HE.out.mono ?_
 rintro _ w4 ⟨rfl, hm4, hg4⟩
 have hR4 : Blk w4 (w.heap.size + 1) 69 #[.int .u64 0, .int .u64 0, .int .u64 0, .int .u64 0, .int .u64 0] := Blk.grown (show Blk w3 _ _ _ from HR3.out) hg4 (by have := HW1.out.2; simp; omega)
 have H04 := Lib.hid (H03.out.grown hg4 H03.out.size (fun k e => by cases e; exact HW1.out.1))
 have HR4 := Lib.hid hR4
 obtain ⟨r0, r1, r2, r3, r4⟩ := hR4.c5w
 obtain ⟨f0, f1, f2, f3, f4⟩ := hR4.f5w
 have lr := hR4.lt
 clear hm4 hg4 hR4 HE HR3 H03 HMat
 dsimp only
 go_wp2
 refine bodyPost_ret (ret_find Tryz.results56 rfl rfl (HR4.out.put5 (endsB x bs i0))) rfl ⟨by rw [HF.out.1, HF.out.2]; rfl, H04.out.grown (grown5 _ _ _) H04.out.size (fun k e => by cases e; omega)⟩
theorem find_go (x : Nd) (B : Option Addr) (cap : Nat) (V : Option Addr) (cv : Nat) (i : Int) (bs : List Nat) (w : World) (hsz : x.size ≤ 4611686018427387903) (hcap : x.kids.len ≤ cap) (ht : TreesAt w (fun b => b < w.heap.size) x.kids B) (hV : BytesAt w w.heap.size V bs) (hT : TabAt 0 Lib.deBruijn64tab w) (hg : 0 < w.heap.size) : Calls Tryz.prog 56 #[ndV x B cap, .slice V bs.length cv, .int .i64 i] w fun e w' => e = .returned (.tuple #[.agg #[.int .u64 (word (findB x bs i) 0), .int .u64 (word (findB x bs i) 1), .int .u64 (word (findB x bs i) 2), .int .u64 (word (findB x bs i) 3), .int .u64 (word (findB x bs i) 4)], .int .i64 (errF x bs i)]) ∧ Below w.heap.size w w' := by
 rcases hr : rightT x with _ | _
 ·exact find_kind x B cap V cv i bs w hsz hcap ht hV hT hg hr
 rcases Nat.lt_or_ge 256 bs.length with hl | hl
 ·exact find_long x B cap V cv i bs w hsz hcap ht hV hT hg hr hl
 rcases Int.lt_or_le i 0 with hi | hi
 ·exact find_low x B cap V cv i bs w hsz hcap ht hV hT hg hr hl hi
 rcases Int.lt_or_le (bs.length : Int) i with hi2 | hi2
 ·exact find_high x B cap V cv i bs w hsz hcap ht hV hT hg hr hl hi hi2
 ·exact find_yes x B cap V cv i bs w hsz hcap ht hV hT hg hr hl i.toNat (by omega) (by omega)
end Go.Proofs.YtofbfafnpdaejaaGreatDoor
namespace Go.Proofs.YtofbfafnpdaejaaGreatDoor
open Go.RowKit Go.Shelf Go.Maps
set_option linter.unusedSimpArgs false
set_option linter.unusedVariables false
set_option maxRecDepth 100000
set_option maxHeartbeats 8000000
attribute [local go_sem] Oper.semAt_some
attribute [local go_sem] Oper.semAt_some
noncomputable def fullB (x : Nd) (bs : List Nat) : Bool := findB x bs 0 bs.length
theorem pfull_any (x : Nd) (B : Option Addr) (cap : Nat) (V : Option Addr) (cv : Nat) (bs : List Nat) (w : World) (hsz : x.size ≤ 4611686018427387903) (hcap : x.kids.len ≤ cap) (ht : TreesAt w (fun b => b < w.heap.size) x.kids B) (hV : BytesAt w w.heap.size V bs) (hT : TabAt 0 Lib.deBruijn64tab w) (hg : 0 < w.heap.size) : Calls Tryz.prog 12 #[ndV x B cap, .slice V bs.length cv] w fun e w' => e = .returned (.bool (fullB x bs)) ∧ Below w.heap.size w w' := by
 have hX : Blk (w.alloc (.cells (ndA x B cap) 28)) w.heap.size 28 (ndA x B cap) := Blk.new w _ _
 have hal : Below w.heap.size w (w.alloc (.cells (ndA x B cap) 28)) := (Below.refl _ _).alloc (Nat.le_refl _) _
 have HF := Lib.hid (find_go x B cap V cv 0 bs (w.alloc (.cells (ndA x B cap) 28)) hsz hcap ((ht.below hal).weak (fun b h _ => Nat.lt_of_lt_of_le h hal.size)) ((hV.below hal).more hal.size) (TabAt.below hal hg hT) (Nat.lt_of_lt_of_le hg hal.size))
 have HAL := Lib.hid hal
 clear hal hT hV ht
 unfold ndV at HF ⊢
 unfold ndA at hX HF HAL
 obtain ⟨x0, x1, x2, x3, x4, x5, x6, x7⟩ : _ ∧ _ ∧ _ ∧ _ ∧ _ ∧ _ ∧ _ ∧ _ := ⟨hX.cell 0, hX.cell 1, hX.cell 2, hX.cell 3, hX.cell 4, hX.cell 5, hX.cell 6, hX.cell 7⟩
 simp only [List.getElem?_toArray, List.getElem?_cons_zero, List.getElem?_cons_succ] at x0 x1 x2 x3 x4 x5 x6 x7
 have lx := hX.lt
 clear hX
 by_cases he : errF x bs 0 = 0
 ·have HV := Lib.hid (show fullB x bs = findB x bs 0 bs.length from rfl)
  have hlen := (errF_zero he).2.1
  rw [he] at HF
  clear he
  go_enter Tryz.func12, Tryz.ntmps12
  go_wp2_with fail
  refine HF.out.mono ?_
  rintro e w1 ⟨rfl, hb1⟩
  have HB01 := Lib.hid (HAL.out.trans (hb1.mono HAL.out.size))
  have HP := Lib.hid (fun W => phas_go (findB x bs 0) bs.length (by omega) W)
  clear hb1 HF HAL x0 x1 x2 x3 x4 x5 x6 x7 lx
  dsimp only
  go_wp2_with fail
  refine (HP.out _).mono ?_
  rintro e w2 ⟨rfl, hb2⟩
  dsimp only
  go_wp2
  go_light
  go_ret
  exact ⟨by rw [HV.out]; rfl, HB01.out.trans ((((Below.refl w1.heap.size w1).alloc (Nat.le_refl _) _).trans (hb2.mono (by simp))).mono HB01.out.size)⟩
 ·have HV := Lib.hid (show fullB x bs = false from by unfold fullB; rw [findB_no he])
  have hbe : (errF x bs 0 == 0) = false := by simpa using he
  generalize errF x bs 0 = er at *
  go_enter Tryz.func12, Tryz.ntmps12
  go_wp2_with fail
  refine HF.out.mono ?_
  rintro e w1 ⟨rfl, hb1⟩
  have HB01 := Lib.hid (HAL.out.trans (hb1.mono HAL.out.size))
  clear hb1 HF HAL x0 x1 x2 x3 x4 x5 x6 x7 lx
  dsimp only
  go_wp2
  go_light
  go_ret
  exact ⟨by rw [HV.out]; rfl, HB01.out.trans (((Below.refl w1.heap.size w1).alloc (Nat.le_refl _) _).mono HB01.out.size)⟩
theorem pfull_go (x : Nd) (B : Option Addr) (cap : Nat) (V : Option Addr) (cv : Nat) (bs : List Nat) (w : World) (hsz : x.size ≤ 4611686018427387903) (hcap : x.kids.len ≤ cap) (ht : TreesAt w (fun b => b < w.heap.size) x.kids B) (hV : BytesAt w w.heap.size V bs) (hcv : bs.length ≤ cv) (hT : TabAt 0 Lib.deBruijn64tab w) (hg : 0 < w.heap.size) : Calls Tryz.prog 12 #[ndV x B cap, .slice V bs.length cv] w fun e w' => e = .returned (.bool (fullB x bs)) ∧ Below w.heap.size w w' :=
 pfull_any x B cap V cv bs w hsz hcap ht hV hT hg
end Go.Proofs.YtofbfafnpdaejaaGreatDoor
namespace Go.Proofs.YtofbfafnpdaejaaGreatDoor
open Go.RowKit
set_option linter.unusedSimpArgs false
set_option linter.unusedVariables false
set_option maxRecDepth 100000
set_option maxHeartbeats 8000000
theorem word_noSet (i : Nat) : word noSet i = 0 := word_none i
theorem put_no (S b o len cap : Nat) (i : Int) (v : Value) (k q : Int) (N : Nat) (L : List Lex) (kind place lo hi next : Int) (W : World) (hS : Spl W S b o len cap i v k q) (hrow : W.ownsRow N 143 8 v L.length (lexCells L)) (hN : N ≤ S) (hL : L.length ≤ 100000) :
  Calls Tryz.prog 231 #[.pointer (some ⟨S, 0, none⟩), .agg #[.int .i64 kind, .int .i64 place, .int .u64 0, .int .u64 0, .int .u64 0, .int .u64 0, .int .i64 lo, .int .i64 hi], .int .i64 next] W (Took S b o len cap N L ⟨kind, i, noSet, lo, hi⟩ next k q W) := by
 have h := put_go S b o len cap i v k q N L ⟨kind, place, noSet, lo, hi⟩ next W hS hrow hN hL
 simp only [word_noSet] at h
 exact h
def Quiet (v : Value) (W : World) (e : Ending) (W' : World) : Prop := e = .returned v ∧ ∃ n, W' = W.drewN n
theorem sign_no (S b o cap : Nat) (bs : List Nat) (i : Nat) (v : Value) (N : Nat) (W : World) (hS : Spl W S b o bs.length cap i v 0 0) (hA : BytesAt W N (some ⟨b, o, none⟩) bs) (h0 : i < bs.length) (hk : signKind (byteAt bs i) = 0) :
  Calls Tryz.prog 198 #[.pointer (some ⟨S, 0, none⟩)] W (Quiet (.bool false) W) := by
 obtain ⟨s0, s1, s2, s3, s4, f0, f1, f2, f3, f4⟩ := hS.cells
 have hcell := bytesAt_cells hA i h0
 have hl := hA.2.1
 have hc256 := byteAt_lt hA.1 i
 generalize byteAt bs i = c at *
 have hne : c ≠ 40 ∧ c ≠ 41 ∧ c ≠ 124 ∧ c ≠ 42 ∧ c ≠ 43 ∧ c ≠ 63 := by
  unfold signKind at hk
  refine ⟨?_, ?_, ?_, ?_, ?_, ?_⟩ <;> (rintro rfl; revert hk; decide)
 obtain ⟨a1, a2, a3, a4, a5, a6⟩ := hne
 have b1 : ((c : Int) == 40) = false := by simp; omega
 have b2 : ((c : Int) == 41) = false := by simp; omega
 have b3 : ((c : Int) == 124) = false := by simp; omega
 have b4 : ((c : Int) == 42) = false := by simp; omega
 have b5 : ((c : Int) == 43) = false := by simp; omega
 have b6 : ((c : Int) == 63) = false := by simp; omega
 clear hS hA hk a1 a2 a3 a4 a5 a6
 go_enter Tryz.func198, Tryz.ntmps198
 go_wp2
 go_quiet (fail)
 go_wp2
 go_light
 go_ret
 exact ⟨rfl, _, rfl⟩
theorem sign_yes (S b o cap : Nat) (bs : List Nat) (i : Nat) (v : Value) (N : Nat) (L : List Lex) (W : World) (hS : Spl W S b o bs.length cap i v 0 0) (hrow : W.ownsRow N 143 8 v L.length (lexCells L)) (hN : N ≤ S) (hL : L.length ≤ 100000) (hA : BytesAt W N (some ⟨b, o, none⟩) bs) (h0 : i < bs.length) (hk : signKind (byteAt bs i) ≠ 0) :
  Calls Tryz.prog 198 #[.pointer (some ⟨S, 0, none⟩)] W fun e W' => e = .returned (.bool true) ∧ Below N W W' ∧ ∃ v', Spl W' S b o bs.length cap ((i : Int) + 1) v' 0 0 ∧ W'.ownsRow N 143 8 v' (L.length + 1) (lexCells (L ++ [⟨signKind (byteAt bs i), i, noSet, 0, 0⟩])) := by
 obtain ⟨s0, s1, s2, s3, s4, f0, f1, f2, f3, f4⟩ := hS.cells
 have hcell := bytesAt_cells hA i h0
 have hl := hA.2.1
 have hc256 := byteAt_lt hA.1 i
 have hlt := Blk.lt hS
 have hi2 : i < 140737488355328 := by omega
 have hcs : byteAt bs i = 40 ∨ byteAt bs i = 41 ∨ byteAt bs i = 124 ∨ byteAt bs i = 42 ∨ byteAt bs i = 43 ∨ byteAt bs i = 63 := by
  unfold signKind at hk
  by_cases a1 : byteAt bs i = 40
  ·omega
  by_cases a2 : byteAt bs i = 41
  ·omega
  by_cases a3 : byteAt bs i = 124
  ·omega
  by_cases a4 : byteAt bs i = 42
  ·omega
  by_cases a5 : byteAt bs i = 43
  ·omega
  by_cases a6 : byteAt bs i = 63
  ·omega
  rw [if_neg a1, if_neg a2, if_neg a3, if_neg a4, if_neg a5, if_neg a6] at hk
  exact absurd rfl hk
 have hP := fun (kd : Int) (n : Nat) => put_no S b o bs.length cap i v 0 0 N L kd 0 0 0 ((i : Int) + 1) (W.drewN n) hS hrow hN hL
 have HP := Lib.hid hP
 clear hS hA hk hP hrow
 rcases hcs with hc | hc | hc | hc | hc | hc
 ·rw [hc] at hcell
  have HK := Lib.hid (show signKind (byteAt bs i) = 2 by rw [hc]; rfl)
  clear hc hc256
  go_enter Tryz.func198, Tryz.ntmps198
  go_wp2
  go_quiet (fail)
  go_wp2_with fail
  refine (HP.out 2 _).mono ?_
  rintro e w4 ⟨rfl, hb4, hv4⟩
  have HV := Lib.hid hv4
  have HB4 := Lib.hid hb4
  clear hv4 hb4
  go_wp2
  go_light
  go_ret
  exact ⟨rfl, (bel_drewN (Below.refl N W) _).trans HB4.out, by rw [HK.out]; exact HV.out⟩
 ·rw [hc] at hcell
  have HK := Lib.hid (show signKind (byteAt bs i) = 3 by rw [hc]; rfl)
  clear hc hc256
  go_enter Tryz.func198, Tryz.ntmps198
  go_wp2
  go_quiet (fail)
  go_wp2_with fail
  refine (HP.out 3 _).mono ?_
  rintro e w4 ⟨rfl, hb4, hv4⟩
  have HV := Lib.hid hv4
  have HB4 := Lib.hid hb4
  clear hv4 hb4
  go_wp2
  go_light
  go_ret
  exact ⟨rfl, (bel_drewN (Below.refl N W) _).trans HB4.out, by rw [HK.out]; exact HV.out⟩
 ·rw [hc] at hcell
  have HK := Lib.hid (show signKind (byteAt bs i) = 4 by rw [hc]; rfl)
  clear hc hc256
  go_enter Tryz.func198, Tryz.ntmps198
  go_wp2
  go_quiet (fail)
  go_wp2_with fail
  refine (HP.out 4 _).mono ?_
  rintro e w4 ⟨rfl, hb4, hv4⟩
  have HV := Lib.hid hv4
  have HB4 := Lib.hid hb4
  clear hv4 hb4
  go_wp2
  go_light
  go_ret
  exact ⟨rfl, (bel_drewN (Below.refl N W) _).trans HB4.out, by rw [HK.out]; exact HV.out⟩
 ·rw [hc] at hcell
  have HK := Lib.hid (show signKind (byteAt bs i) = 5 by rw [hc]; rfl)
  clear hc hc256
  go_enter Tryz.func198, Tryz.ntmps198
  go_wp2
  go_quiet (fail)
  go_wp2_with fail
  refine (HP.out 5 _).mono ?_
  rintro e w4 ⟨rfl, hb4, hv4⟩
  have HV := Lib.hid hv4
  have HB4 := Lib.hid hb4
  clear hv4 hb4
  go_wp2
  go_light
  go_ret
  exact ⟨rfl, (bel_drewN (Below.refl N W) _).trans HB4.out, by rw [HK.out]; exact HV.out⟩
 ·rw [hc] at hcell
  have HK := Lib.hid (show signKind (byteAt bs i) = 6 by rw [hc]; rfl)
  clear hc hc256
  go_enter Tryz.func198, Tryz.ntmps198
  go_wp2
  go_quiet (fail)
  go_wp2_with fail
  refine (HP.out 6 _).mono ?_
  rintro e w4 ⟨rfl, hb4, hv4⟩
  have HV := Lib.hid hv4
  have HB4 := Lib.hid hb4
  clear hv4 hb4
  go_wp2
  go_light
  go_ret
  exact ⟨rfl, (bel_drewN (Below.refl N W) _).trans HB4.out, by rw [HK.out]; exact HV.out⟩
 ·rw [hc] at hcell
  have HK := Lib.hid (show signKind (byteAt bs i) = 7 by rw [hc]; rfl)
  clear hc hc256
  go_enter Tryz.func198, Tryz.ntmps198
  go_wp2
  go_quiet (fail)
  go_wp2_with fail
  refine (HP.out 7 _).mono ?_
  rintro e w4 ⟨rfl, hb4, hv4⟩
  have HV := Lib.hid hv4
  have HB4 := Lib.hid hb4
  clear hv4 hb4
  go_wp2
  go_light
  go_ret
  exact ⟨rfl, (bel_drewN (Below.refl N W) _).trans HB4.out, by rw [HK.out]; exact HV.out⟩
structure Ctx (N S T I b o cap : Nat) (bs : List Nat) (i : Nat) (v : Value) (L : List Lex) (W0 : World) (j : Nat) (W : World) : Prop where
 hT : W.cell? ⟨T, 0, none⟩ = some (.pointer (some ⟨S, 0, none⟩))
 hI : Blk W I 3 #[.int .i64 (j : Int)]
 hS : Spl W S b o bs.length cap i v 0 0
 hrow : W.ownsRow N 143 8 v L.length (lexCells L)
 hA : BytesAt W N (some ⟨b, o, none⟩) bs
 hB : Below N W0 W
 hNS : N ≤ S
 hNI : N ≤ I
 hTI : T ≠ I
 hSI : S ≠ I
 hcap : bs.length ≤ cap
section
variable {N S T I b o cap : Nat} {bs : List Nat} {i : Nat} {v : Value} {L : List Lex} {W0 : World} {j : Nat} {W W' : World}
theorem Ctx.drewN (h : Ctx N S T I b o cap bs i v L W0 j W) (n : Nat) : Ctx N S T I b o cap bs i v L W0 j (W.drewN n) :=
 ⟨h.hT, h.hI, h.hS, h.hrow, h.hA, bel_drewN h.hB n, h.hNS, h.hNI, h.hTI, h.hSI, h.hcap⟩
theorem Ctx.below (h : Ctx N S T I b o cap bs i v L W0 j W) (hb : Below W.heap.size W W') : Ctx N S T I b o cap bs i v L W0 j W' :=
  ⟨(hb.cell (p := ⟨T, 0, none⟩) (World.block_lt_of_cell? W _ h.hT)).trans h.hT, h.hI.below hb h.hI.lt, Blk.below h.hS hb (Blk.lt h.hS), own_below h.hrow hb, h.hA.below (hb.mono (Nat.le_of_lt (Nat.lt_of_le_of_lt h.hNS (Blk.lt h.hS)))),
    h.hB.trans (hb.mono (Nat.le_of_lt (Nat.lt_of_le_of_lt h.hNS (Blk.lt h.hS)))), h.hNS, h.hNI, h.hTI, h.hSI, h.hcap⟩
theorem Ctx.set_ (h : Ctx N S T I b o cap bs i v L W0 j W) (m : Nat) : Ctx N S T I b o cap bs i v L W0 m (W.setCell ⟨I, 0, none⟩ (.int .i64 (m : Int))) :=
  ⟨(World.cell?_setCell_other W _ _ _ (fun e => h.hTI (by simpa using (congrArg Addr.block e).symm))).trans h.hT, h.hI.set_ 0 _, Blk.far h.hS (p := ⟨I, 0, none⟩) h.hSI _, own_set h.hrow (blk_not_row h.hI (by decide) h.hrow),
    h.hA.below ((Below.refl N W).setCell (p := ⟨I, 0, none⟩) h.hNI _), h.hB.setCell (p := ⟨I, 0, none⟩) h.hNI _, h.hNS, h.hNI, h.hTI, h.hSI, h.hcap⟩
theorem Ctx.facts (h : Ctx N S T I b o cap bs i v L W0 j W) : W.cell? ⟨T, 0, none⟩ = some (.pointer (some ⟨S, 0, none⟩)) ∧ W.cell? ⟨I, 0, none⟩ = some (.int .i64 (j : Int)) ∧ W.cell? ⟨S, 0, none⟩ = some (.slice (some ⟨b, o, none⟩) bs.length cap) ∧ W.frozen? ⟨I, 0, none⟩ = false ∧
  T < W.heap.size ∧ I < W.heap.size ∧ S < W.heap.size ∧ N ≤ W.heap.size :=
 ⟨h.hT, h.hI.cell 0, (Spl.cells h.hS).1, h.hI.frozen 0, World.block_lt_of_cell? W _ h.hT, h.hI.lt, Blk.lt h.hS, Nat.le_of_lt (Nat.lt_of_le_of_lt h.hNS (Blk.lt h.hS))⟩
end
def Kept (N S T I b o cap : Nat) (bs : List Nat) (i : Nat) (u : Value) (L : List Lex) (W0 : World) (j : Nat) (v : Value) (e : Ending) (W' : World) : Prop := e = .returned v ∧ Ctx N S T I b o cap bs i u L W0 j W'
theorem here_yes {N S T I b o cap : Nat} {bs : List Nat} {i : Nat} {v : Value} {L : List Lex} {W0 : World} {j : Nat} {W : World} (h : Ctx N S T I b o cap bs i v L W0 j W) (c : Nat) (hj : j < bs.length) :
  Calls Tryz.prog 230 #[.int .u8 (c : Int), .pointer (some ⟨I, 0, none⟩), .pointer (some ⟨T, 0, none⟩)] W (Kept N S T I b o cap bs i v L W0 j (.bool (hasAt bs j c))) := by
 obtain ⟨c0, c1, c2, f1, l0, l1, l2, _⟩ := h.facts
 have hcell := bytesAt_cells h.hA j hj
 have hl := h.hA.2.1
 have HK := Lib.hid h
 have Hh := Lib.hid (hasAt_in c hj)
 clear h
 generalize byteAt bs j = d at *
 have hd : decide (j < bs.length) = true := by simp; omega
 have hd2 : (j : Int) < (bs.length : Int) := by omega
 go_enter Tryz.func230, Tryz.ntmps230
 go_wp2
 go_quiet (fail)
 go_wp2
 go_light
 go_ret
 refine ⟨ret_b ?_, HK.out.drewN _⟩
 rw [Hh.out]
 rw [Bool.eq_iff_iff]
 simp
 omega
theorem here_end {N S T I b o cap : Nat} {bs : List Nat} {i : Nat} {v : Value} {L : List Lex} {W0 : World} {j : Nat} {W : World} (h : Ctx N S T I b o cap bs i v L W0 j W) (c : Nat) (hj : bs.length ≤ j) :
  Calls Tryz.prog 230 #[.int .u8 (c : Int), .pointer (some ⟨I, 0, none⟩), .pointer (some ⟨T, 0, none⟩)] W (Kept N S T I b o cap bs i v L W0 j (.bool (hasAt bs j c))) := by
 obtain ⟨c0, c1, c2, f1, l0, l1, l2, _⟩ := h.facts
 have hl := h.hA.2.1
 have HK := Lib.hid h
 have Hh := Lib.hid (hasAt_out (bs := bs) (i := (j : Int)) c (by omega))
 clear h
 have hd : decide (j < bs.length) = false := by simp; omega
 go_enter Tryz.func230, Tryz.ntmps230
 go_wp2
 go_quiet (fail)
 go_wp2
 go_light
 go_ret
 exact ⟨ret_b (by rw [Hh.out]), HK.out.drewN _⟩
theorem sphere_go {N S T I b o cap : Nat} {bs : List Nat} {i : Nat} {v : Value} {L : List Lex} {W0 : World} {j : Nat} {W : World} (h : Ctx N S T I b o cap bs i v L W0 j W) (c : Nat) :
  Calls Tryz.prog 230 #[.int .u8 (c : Int), .pointer (some ⟨I, 0, none⟩), .pointer (some ⟨T, 0, none⟩)] W (Kept N S T I b o cap bs i v L W0 j (.bool (hasAt bs j c))) := by
 rcases Nat.lt_or_ge j bs.length with hj | hj
 ·exact here_yes h c hj
 ·exact here_end h c hj
theorem num_yes {N S T I b o cap : Nat} {bs : List Nat} {i : Nat} {v : Value} {L : List Lex} {W0 : World} {j : Nat} {W : World} (h : Ctx N S T I b o cap bs i v L W0 j W) (hj : j ≤ bs.length) {n m : Nat} (ht : takeS bs j = some (n, m)) :
  Calls Tryz.prog 228 #[.pointer (some ⟨T, 0, none⟩), .pointer (some ⟨I, 0, none⟩)] W (Kept N S T I b o cap bs i v L W0 m (.tuple #[.int .i64 (n : Int), .bool true])) := by
 have Hv := Lib.hid (show takeVal bs j = .tuple #[.int .i64 (n : Int), .int .i64 (m : Int), .int .i64 0] by unfold takeVal; rw [ht])
 clear ht
 obtain ⟨c0, c1, c2, f1, l0, l1, l2, l3⟩ := h.facts
 have hl := h.hA.2.1
 have HK := Lib.hid h
 have HE := Lib.hid (fun w hA => take_at b o cap bs j w hA h.hcap hj)
 clear h
 go_enter Tryz.func228, Tryz.ntmps228
 go_wp2_with fail
 go_region_held3 (fun w' => (∀ b o, b < W.heap.size → w'.cell? ⟨b, o, none⟩ = W.cell? ⟨b, o, none⟩) ∧ Since W.heap.size W w') (first | (with_reducible exact HK2.out) | (with_reducible exact since_start (Nat.le_refl _)))
  (first | (go_at_call 229; refine (HE.out _ (bytes_since (by assumption) HK.out.hA l3)).mono ?_; rintro e w' ⟨rfl, hb'⟩; rw [Hv.out]; have hK := since_step (by assumption) hb'; have HK2 := Lib.hid hK; clear hK))
 have HC := Lib.hid (HK.out.below HK2.out.2.1)
 obtain ⟨k0, k1, k2, g1, _, _, _, _⟩ := HC.out.facts
 go_wp2
 go_light
 go_ret2
 exact ⟨rfl, HC.out.set_ m⟩
theorem num_no {N S T I b o cap : Nat} {bs : List Nat} {i : Nat} {v : Value} {L : List Lex} {W0 : World} {j : Nat} {W : World} (h : Ctx N S T I b o cap bs i v L W0 j W) (hj : j ≤ bs.length) (ht : takeS bs j = none) :
  Calls Tryz.prog 228 #[.pointer (some ⟨T, 0, none⟩), .pointer (some ⟨I, 0, none⟩)] W (Kept N S T I b o cap bs i v L W0 j (.tuple #[.int .i64 0, .bool false])) := by
 have Hv := Lib.hid (show takeVal bs j = .tuple #[.int .i64 0, .int .i64 0, .int .i64 (takeErr bs j)] by unfold takeVal; rw [ht])
 have hk := takeErr_pos bs j
 generalize takeErr bs j = k at *
 have hk0 : (k != 0) = true := by rw [bne_iff_ne]; omega
 clear ht hk
 obtain ⟨c0, c1, c2, f1, l0, l1, l2, l3⟩ := h.facts
 have hl := h.hA.2.1
 have HK := Lib.hid h
 have HE := Lib.hid (fun w hA => take_at b o cap bs j w hA h.hcap hj)
 clear h
 go_enter Tryz.func228, Tryz.ntmps228
 go_wp2_with fail
 go_region_held3 (fun w' => (∀ b o, b < W.heap.size → w'.cell? ⟨b, o, none⟩ = W.cell? ⟨b, o, none⟩) ∧ Since W.heap.size W w') (first | (with_reducible exact HK2.out) | (with_reducible exact since_start (Nat.le_refl _)))
  (first | (go_at_call 229; refine (HE.out _ (bytes_since (by assumption) HK.out.hA l3)).mono ?_; rintro e w' ⟨rfl, hb'⟩; rw [Hv.out]; have hK := since_step (by assumption) hb'; have HK2 := Lib.hid hK; clear hK))
 have HC := Lib.hid (HK.out.below HK2.out.2.1)
 obtain ⟨k0, k1, k2, g1, _, _, _, _⟩ := HC.out.facts
 go_wp2
 go_light
 go_ret2
 exact ⟨rfl, HC.out⟩
theorem full_says {x : Nd} {bs : List Nat} (hr : rightT x = true) (hl : bs.length ≤ 256) : fullB x bs = true ↔ SaysW x bs := by
 have h0 : errF x bs 0 = 0 := by unfold errF; rw [if_neg (by rw [hr]; decide), if_neg (by omega), if_neg (by omega)]
 unfold fullB
 rw [findB_yes h0, endsB_iff]
 exact Iff.rfl
end Go.Proofs.YtofbfafnpdaejaaGreatDoor
