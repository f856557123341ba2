/- Texts of the claim. -/
import Derived.Maps.AppendAt
import Derived.Deep.AppendLies
import Derived.Deep.RegionLaw
import Derived.Deep.RegionHeld3
import Derived.RegionTactic
import Derived.BigRegion
import Derived.Deep.QuietTactic
import Derived.BigQuiet
import Derived.Test.YtofbfafnpdaejaaGreatDoorKZ02
import Derived.Test.YtofbfafnpdaejaaGreatDoorKZ01
import Derived.Test.YtofbfafnpdaejaaGreatDoorKRShow
import Derived.Test.YtofbfafnpdaejaaGreatDoorKRefEsc
namespace Go.Proofs.YtofbfafnpdaejaaGreatDoor
open Go.RowKit
set_option linter.unusedSimpArgs false
set_option linter.unusedVariables false
set_option maxRecDepth 100000
set_option maxHeartbeats 8000000
def timesW (lo hi : Int) (n : Nat) : Nat :=
 if n = 0 then 0
 else if hi < 0 then min topN (min topN (lo.toNat * n) + n + 1)
 else if lo < hi then min topN (min topN (lo.toNat * n) + min topN ((hi - lo).toNat * n) + 1)
 else min topN (lo.toNat * n)
def wgtK (k lo hi : Int) (n : Nat) : Nat := if k = 2 ∨ k = 4 then n else if k = 9 then timesW lo hi n else min topN (n + 1)
def Trees.wsum : Trees → Nat
 | .nil => 0
 | .cons k _ ks lo hi r => wgtK k lo hi (min topN ks.wsum) + r.wsum
def Nd.wgt (x : Nd) : Nat := wgtK x.kind x.lo x.hi (min topN x.kids.wsum)
theorem timesW_le (lo hi : Int) (n : Nat) : timesW lo hi n ≤ topN := by
 unfold timesW
 split
 ·exact Nat.zero_le _
 split
 ·exact Nat.min_le_left _ _
 split
 ·exact Nat.min_le_left _ _
 ·exact Nat.min_le_left _ _
theorem wgtK_le {k lo hi : Int} {n : Nat} (h : n ≤ topN) : wgtK k lo hi n ≤ topN := by
 unfold wgtK
 split
 ·exact h
 split
 ·exact timesW_le _ _ _
 ·exact Nat.min_le_left _ _
theorem Nd.wgt_le (x : Nd) : x.wgt ≤ topN := wgtK_le (Nat.min_le_left _ _)
theorem Trees.wsum_list : ∀ F : Trees, F.wsum = (F.list.map Nd.wgt).sum
 | .nil => rfl
 | .cons k s ks lo hi r => by
  rw [Trees.wsum, Trees.list, List.map_cons, List.sum_cons, Trees.wsum_list r]
  rfl
def numsOk (y : Nd) : Prop := y.kind = 9 → 0 ≤ y.lo ∧ y.lo ≤ 1000 ∧ -1 ≤ y.hi ∧ y.hi ≤ 1000
theorem numsOk_of {y : Nd} (h : aloneN y = true) : numsOk y := by
 intro h9
 unfold aloneN aloneV at h
 rw [if_neg (by omega)] at h
 split at h
 ·cases h
 try rw [if_pos h9] at h
 rw [Bool.and_eq_true] at h
 have := h.1
 unfold timesB at this
 simp only [Bool.and_eq_true, Bool.or_eq_true, decide_eq_true_eq] at this
 omega
theorem rightT_nums {x : Nd} (h : rightT x = true) : ∀ y ∈ x.nodes, numsOk y := by
 unfold rightT at h
 rw [Bool.and_eq_true] at h
 exact fun y hy => numsOk_of (List.all_eq_true.1 h.2 y hy)
theorem nodes_kid : ∀ {F : Trees} {i : Nat} {z : Nd}, F.list[i]? = some z → ∀ y ∈ z.nodes, y ∈ F.nodes
 | .nil, i, z, h => by simp [Trees.list] at h
 | .cons k s ks lo hi r, 0, z, h => by
  simp [Trees.list] at h
  subst h
  intro y hy
  unfold Nd.nodes at hy
  rcases List.mem_cons.1 hy with rfl | hy
  ·simp [Trees.nodes]
  ·simp [Trees.nodes, hy]
 | .cons k s ks lo hi r, i + 1, z, h => by
  intro y hy
  have := nodes_kid (F := r) (i := i) (by simpa [Trees.list] using h) y hy
  simp [Trees.nodes, this]
def sumTo (f : Nd → Nat) (l : List Nd) (k : Nat) : Nat := ((l.map f).take k).sum
theorem sumTo_zero (f : Nd → Nat) (l : List Nd) : sumTo f l 0 = 0 := by simp [sumTo]
theorem sumTo_succ {f : Nd → Nat} {l : List Nd} {k : Nat} {z : Nd} (h : l[k]? = some z) : sumTo f l (k + 1) = sumTo f l k + f z := by
 obtain ⟨hk, rfl⟩ := List.getElem?_eq_some_iff.1 h
 unfold sumTo
 rw [take_sum _ k (by simpa using hk)]
 simp [List.getD, hk]
theorem sumTo_all (f : Nd → Nat) (l : List Nd) : sumTo f l l.length = (l.map f).sum := by
 unfold sumTo
 rw [List.take_of_length_le (by simp)]
theorem nums2 {w : World} {g : Nat} {a b : Nat} (h : Blk w g 3 #[.int .i64 (a : Int), .int .i64 (b : Int)]) : NumsAt w (some ⟨g, 0, none⟩) [a, b] := fun i hi => by
 refine ⟨g, 0, rfl, ?_⟩
 match i, hi with
 | 0, _ => exact h.cell 0
 | 1, _ => exact h.cell 1
theorem nums3 {w : World} {g : Nat} {a b c : Nat} (h : Blk w g 3 #[.int .i64 (a : Int), .int .i64 (b : Int), .int .i64 (c : Int)]) : NumsAt w (some ⟨g, 0, none⟩) [a, b, c] := fun i hi => by
 refine ⟨g, 0, rfl, ?_⟩
 match i, hi with
 | 0, _ => exact h.cell 0
 | 1, _ => exact h.cell 1
 | 2, _ => exact h.cell 2
theorem min3 (a b : Nat) : min topN (min topN a + b) = min topN (a + b) := by omega
theorem nsum_go (g : FuncId) (f : Nd → Nat) (F : Trees) (P : Nat → Prop) (B : Option Addr) (cap : Nat) (w : World) (hl : F.len ≤ 140737488355328) (ht : TreesAt w P F B) (hf : ∀ z, f z ≤ topN)
  (hg : ∀ (i : Nat) (z : Nd) (C : Option Addr) (capc : Nat) (w' : World), F.list[i]? = some z → TreesAt w' P z.kids C → Calls Tryz.prog g #[ndV z C capc] w' fun e w'' => e = .returned (.int .i64 ((f z : Nat) : Int)) ∧ Below w'.heap.size w' w'')
  (henter : ∀ args w, (callFunc g args).run Tryz.prog w = .ok (.enter g args) w) :
  Calls Tryz.prog 141 #[.func (.func g) #[] #[], .slice B F.len cap] w fun e w' => e = .returned (.int .i64 ((min topN ((F.list.map f).sum) : Nat) : Int)) ∧ Below w.heap.size w w' := by
 have HT := Lib.hid ht
 have HG := Lib.hid hg
 have HF := Lib.hid hf
 clear ht hg hf
 go_enter Tryz.func141, Tryz.ntmps141
 go_wp2
 go_loopw [5, 10] (fun v i wr => ∃ k : Nat, i = .int .i64 (k : Int) ∧ k ≤ F.len ∧ v = .int .i64 ((min topN (sumTo f F.list k) : Nat) : Int) ∧ Hid (Below w.heap.size w wr)) (fun _ i _ => F.len - (intOf i).toNat)
 case atStart => exact ⟨0, rfl, Nat.zero_le _, by rw [sumTo_zero]; rfl, Lib.hid (Below.refl _ _)⟩
 case round =>
  obtain ⟨k, rfl, hk, rfl, HB⟩ := hrel
  by_cases hlt : k < F.len
  ·obtain ⟨z, hz⟩ : ∃ z, F.list[k]? = some z := ⟨_, List.getElem?_eq_getElem (by rw [Trees.len_list]; exact hlt)⟩
   obtain ⟨b, o, C, capc, rfl, _, _, ⟨c0, c1, c2, c3, c4, c5, c6, c7⟩, hkz⟩ := (HT.out.below HB.out).get hz
   have hdl : (k : Int) < (F.len : Int) := by omega
   have hbA : Below wr.heap.size wr (wr.alloc (.cells (ndA z C capc) 28)) := (Below.refl _ _).alloc (Nat.le_refl _) _
   have HI := Lib.hid (HG.out k z C capc (wr.alloc (.cells (ndA z C capc) 28)) hz (hkz.below hbA))
   have HS := Lib.hid (show min topN (sumTo f F.list (k + 1)) = min topN (min topN (sumTo f F.list k) + f z) by rw [sumTo_succ hz, min3])
   have hfz := HF.out z
   have hvle : min topN (sumTo f F.list k) ≤ topN := Nat.min_le_left _ _
   have HBA := Lib.hid (HB.out.trans (hbA.mono HB.out.size))
   clear hz hkz hbA
   generalize min topN (sumTo f F.list k) = v at *
   generalize f z = fz at *
   unfold ndV at HI
   go_wp2_with fail
   refine HI.out.mono ?_
   rintro e w3 ⟨rfl, hb3⟩
   have hb4 : Below w3.heap.size w3 (w3.alloc (.cells #[.int .i64 (v : Int), .int .i64 (fz : Int)] 3)) := (Below.refl _ _).alloc (Nat.le_refl _) _
   have HA := Lib.hid (nadd_go (some ⟨w3.heap.size, 0, none⟩) 2 [v, fz] (w3.alloc (.cells #[.int .i64 (v : Int), .int .i64 (fz : Int)] 3)) (nums2 (Blk.new _ _ _)) (fun x hx => by
    rcases List.mem_cons.1 hx with rfl | hx
    ·exact hvle
    ·rw [List.mem_singleton.1 hx]; exact hfz) (by simp))
   have HB4 := Lib.hid (HBA.out.trans ((hb3.trans (hb4.mono hb3.size)).mono HBA.out.size))
   clear hb3 hb4 HI c0 c1 c2 c3 c4 c5 c6 c7
   dsimp only
   go_wp2_with fail
   refine HA.out.mono ?_
   rintro e w5 ⟨rfl, hb5⟩
   have HB5 := Lib.hid (HB4.out.trans (hb5.mono HB4.out.size))
   have HS2 := Lib.hid (show min topN [v, fz].sum = min topN (sumTo f F.list (k + 1)) by rw [HS.out]; simp)
   rw [HS2.out]
   clear hb5 HA
   dsimp only
   go_wp2
   go_roundw
   case rel => exact ⟨k + 1, by go_num, by omega, rfl, HB5⟩
   case measure => simp [intOf]; omega
  ·obtain rfl : k = F.len := by omega
   have hdl : ¬ ((F.len : Int) < (F.len : Int)) := by omega
   have HV := Lib.hid (show sumTo f F.list F.len = (F.list.map f).sum by rw [← Trees.len_list, sumTo_all])
   go_wp2
   go_light
   go_ret
   exact ⟨ret_i (by rw [HV.out]), HB.out⟩
theorem le3 {a b c : Nat} (ha : a ≤ topN) (hb : b ≤ topN) (hc : c ≤ topN) : ∀ x ∈ [a, b, c], x ≤ topN := by
 intro x hx
 simp at hx
 rcases hx with rfl | rfl | rfl <;> assumption
theorem le2 {a b : Nat} (ha : a ≤ topN) (hb : b ≤ topN) : ∀ x ∈ [a, b], x ≤ topN := by
 intro x hx
 simp at hx
 rcases hx with rfl | rfl <;> assumption
theorem mul2_new (w : World) (g a b : Nat) (hg : g = w.heap.size) (ha : a ≤ topN) (hb : b ≤ topN) :
  Calls Tryz.prog 215 #[.int .i64 1099511627776, .slice (some ⟨g, 0, none⟩) 2 2] (w.alloc (.cells #[.int .i64 (a : Int), .int .i64 (b : Int)] 3)) fun e w' => e = .returned (.int .i64 ((min topN (a * b) : Nat) : Int)) ∧ Below w.heap.size w w' :=
 (nmul_go (some ⟨g, 0, none⟩) 2 a b _ (nums2 (Blk.new_at hg)) ha hb).mono fun e w' ⟨he, hb⟩ => ⟨he, ((Below.refl _ _).alloc (Nat.le_refl _) _).trans (hb.mono (by simp))⟩
theorem add2_new (w : World) (g a b : Nat) (hg : g = w.heap.size) (ha : a ≤ topN) (hb : b ≤ topN) :
  Calls Tryz.prog 140 #[.int .i64 1099511627776, .slice (some ⟨g, 0, none⟩) 2 2] (w.alloc (.cells #[.int .i64 (a : Int), .int .i64 (b : Int)] 3)) fun e w' => e = .returned (.int .i64 ((min topN (a + b) : Nat) : Int)) ∧ Below w.heap.size w w' :=
 (nadd_go (some ⟨g, 0, none⟩) 2 [a, b] _ (nums2 (Blk.new_at hg)) (le2 ha hb) (by simp)).mono fun e w' ⟨he, hb⟩ => ⟨by rw [he]; simp, ((Below.refl _ _).alloc (Nat.le_refl _) _).trans (hb.mono (by simp))⟩
theorem add3_new (w : World) (g a b c : Nat) (hg : g = w.heap.size) (ha : a ≤ topN) (hb : b ≤ topN) (hc : c ≤ topN) :
  Calls Tryz.prog 140 #[.int .i64 1099511627776, .slice (some ⟨g, 0, none⟩) 3 3] (w.alloc (.cells #[.int .i64 (a : Int), .int .i64 (b : Int), .int .i64 (c : Int)] 3)) fun e w' => e = .returned (.int .i64 ((min topN (a + b + c) : Nat) : Int)) ∧ Below w.heap.size w w' :=
 (nadd_go (some ⟨g, 0, none⟩) 3 [a, b, c] _ (nums3 (Blk.new_at hg)) (le3 ha hb hc) (by simp)).mono fun e w' ⟨he, hb⟩ => ⟨by rw [he]; simp [Nat.add_assoc], ((Below.refl _ _).alloc (Nat.le_refl _) _).trans (hb.mono (by simp))⟩
theorem ntimes_go (x : Nd) (B : Option Addr) (cap n : Nat) (w : World) (hn : n ≤ topN) (h0 : 0 ≤ x.lo) (h1 : x.lo ≤ 1000) (h2 : -1 ≤ x.hi) (h3 : x.hi ≤ 1000) :
  Calls Tryz.prog 172 #[ndV x B cap, .int .i64 (n : Int)] w fun e w' => e = .returned (.int .i64 ((timesW x.lo x.hi n : Nat) : Int)) ∧ Below w.heap.size w w' := by
 have hb1 : Below w.heap.size w (w.alloc (.cells (ndA x B cap) 28)) := (Below.refl _ _).alloc (Nat.le_refl _) _
 have hx1 := Blk.new w 28 (ndA x B cap)
 obtain ⟨l, hl⟩ := Int.eq_ofNat_of_zero_le h0
 have hlt : l ≤ topN := by unfold topN; omega
 have h1t : (1 : Nat) ≤ topN := by decide
 have hmt : min topN (l * n) ≤ topN := Nat.min_le_left _ _
 have htl : x.lo.toNat = l := by omega
 rcases Nat.eq_zero_or_pos n with rfl | hpos
 ·have HV := Lib.hid (show timesW x.lo x.hi 0 = 0 by unfold timesW; rw [if_pos rfl])
  have HB := Lib.hid hb1
  clear hl htl hx1 hb1
  unfold ndV
  go_enter Tryz.func172, Tryz.ntmps172
  go_wp2
  go_light
  go_ret
  exact ⟨ret_i (by rw [HV.out]; rfl), HB.out⟩
 have hnz : ((n : Int) == 0) = false := by rw [beq_eq_false_iff_ne]; omega
 have HM := Lib.hid (fun (W : World) (g : Nat) (hg : g = W.heap.size) => mul2_new W g l n hg hlt hn)
 have HX := Lib.hid (show _ ∧ _ from ⟨hb1, hx1⟩)
 have y6 : (w.alloc (.cells (ndA x B cap) 28)).cell? ⟨w.heap.size, 6, none⟩ = some (.int .i64 (l : Int)) := by rw [← hl]; exact hx1.cell 6
 rcases Int.lt_or_le x.hi 0 with hh | hh
 ·have HV := Lib.hid (show timesW x.lo x.hi n = min topN (min topN (l * n) + n + 1) by unfold timesW; rw [if_neg (by omega), if_pos hh, htl])
  have HA := Lib.hid (fun (W : World) (g : Nat) (hg : g = W.heap.size) => add3_new W g (min topN (l * n)) n 1 hg hmt hn h1t)
  clear hl htl hb1 hx1 h1t
  generalize min topN (l * n) = m at *
  unfold ndV
  unfold ndA at HX y6
  go_enter Tryz.func172, Tryz.ntmps172
  go_wp2_with fail
  refine (HM.out _ _ (by simp)).mono ?_
  rintro e w2 ⟨rfl, hb2⟩
  have hX2 := HX.out.2.below hb2 HX.out.2.lt
  have z7 : w2.cell? ⟨w.heap.size, 7, none⟩ = some (.int .i64 x.hi) := hX2.cell 7
  have HB2 := Lib.hid (HX.out.1.trans (hb2.mono HX.out.1.size))
  clear hb2 hX2 y6 HM
  dsimp only
  go_wp2_with fail
  refine (HA.out _ _ (by simp)).mono ?_
  rintro e w3 ⟨rfl, hb3⟩
  have HB3 := Lib.hid (HB2.out.trans (hb3.mono HB2.out.size))
  clear hb3 HA
  dsimp only
  go_wp2
  go_light
  go_ret
  exact ⟨ret_i (by rw [HV.out]), HB3.out⟩
 rcases Int.lt_or_le x.lo x.hi with hlh | hlh
 ·obtain ⟨d, hd⟩ := Int.eq_ofNat_of_zero_le (show 0 ≤ x.hi - x.lo by omega)
  have hdt : d ≤ topN := by unfold topN; omega
  have hdn : (x.hi - x.lo).toNat = d := by omega
  have hmt2 : min topN (d * n) ≤ topN := Nat.min_le_left _ _
  have HV := Lib.hid (show timesW x.lo x.hi n = min topN (min topN (l * n) + min topN (d * n) + 1) by unfold timesW; rw [if_neg (by omega), if_neg (by omega), if_pos hlh, htl, hdn])
  have HM2 := Lib.hid (fun (W : World) (g : Nat) (hg : g = W.heap.size) => mul2_new W g d n hg hdt hn)
  have HA := Lib.hid (fun (W : World) (g : Nat) (hg : g = W.heap.size) => add3_new W g (min topN (l * n)) (min topN (d * n)) 1 hg hmt hmt2 h1t)
  obtain ⟨u, hu⟩ := Int.eq_ofNat_of_zero_le hh
  have hul : l < u := by omega
  have hud : (u : Int) - (l : Int) = (d : Int) := by omega
  have hu1 : u ≤ 1000 := by omega
  have Hu := Lib.hid hu
  have Hl := Lib.hid hl
  have Hud := Lib.hid hud
  clear hl htl hb1 hx1 h1t hd hdn hlh hu hud
  generalize min topN (l * n) = m at *
  generalize min topN (d * n) = m2 at *
  unfold ndV
  unfold ndA at HX y6
  go_enter Tryz.func172, Tryz.ntmps172
  go_wp2_with fail
  refine (HM.out _ _ (by simp)).mono ?_
  rintro e w2 ⟨rfl, hb2⟩
  have hX2 := HX.out.2.below hb2 HX.out.2.lt
  have z6 : w2.cell? ⟨w.heap.size, 6, none⟩ = some (.int .i64 (l : Int)) := by rw [← Hl.out]; exact hX2.cell 6
  have z7 : w2.cell? ⟨w.heap.size, 7, none⟩ = some (.int .i64 (u : Int)) := by rw [← Hu.out]; exact hX2.cell 7
  have HB2 := Lib.hid (HX.out.1.trans (hb2.mono HX.out.1.size))
  have hub : ¬ ((u : Int) < 0) := by omega
  clear hb2 hX2 y6 HM
  dsimp only
  go_wp2_with fail
  rw [Hud.out]
  refine (HM2.out _ _ (by simp)).mono ?_
  rintro e w3 ⟨rfl, hb3⟩
  have HB3 := Lib.hid (HB2.out.trans (hb3.mono HB2.out.size))
  clear hb3 HM2
  dsimp only
  go_wp2_with fail
  refine (HA.out _ _ (by simp)).mono ?_
  rintro e w4 ⟨rfl, hb4⟩
  have HB4 := Lib.hid (HB3.out.trans (hb4.mono HB3.out.size))
  clear hb4 HA
  dsimp only
  go_wp2
  go_light
  go_ret
  exact ⟨ret_i (by rw [HV.out]), HB4.out⟩
 ·have HV := Lib.hid (show timesW x.lo x.hi n = min topN (l * n) by unfold timesW; rw [if_neg (by omega), if_neg (by omega), if_neg (by omega), htl])
  have hhl : ¬ (x.lo < x.hi) := by omega
  clear hl htl hb1 hx1 h1t
  generalize min topN (l * n) = m at *
  unfold ndV
  unfold ndA at HX y6
  go_enter Tryz.func172, Tryz.ntmps172
  go_wp2_with fail
  refine (HM.out _ _ (by simp)).mono ?_
  rintro e w2 ⟨rfl, hb2⟩
  have hX2 := HX.out.2.below hb2 HX.out.2.lt
  have z6 : w2.cell? ⟨w.heap.size, 6, none⟩ = some (.int .i64 x.lo) := hX2.cell 6
  have z7 : w2.cell? ⟨w.heap.size, 7, none⟩ = some (.int .i64 x.hi) := hX2.cell 7
  have HB2 := Lib.hid (HX.out.1.trans (hb2.mono HX.out.1.size))
  clear hb2 hX2 y6 HM
  dsimp only
  go_wp2
  go_light
  go_ret
  exact ⟨ret_i (by rw [HV.out]), HB2.out⟩
def NWgtC (n : Nat) : Prop := ∀ (x : Nd) (P : Nat → Prop) (B : Option Addr) (cap : Nat) (w : World), x.size ≤ n → x.size ≤ 140737488355328 → (∀ y ∈ x.nodes, numsOk y) → TreesAt w P x.kids B →
 Calls Tryz.prog 143 #[ndV x B cap] w fun e w' => e = .returned (.int .i64 ((x.wgt : Nat) : Int)) ∧ Below w.heap.size w w'
theorem self_nodes (x : Nd) : x ∈ x.nodes := by simp [Nd.nodes]
theorem kid_nodes {x z : Nd} {i : Nat} (h : x.kids.list[i]? = some z) : ∀ y ∈ z.nodes, y ∈ x.nodes := fun y hy => by
 unfold Nd.nodes
 exact List.mem_cons_of_mem _ (nodes_kid h y hy)
theorem nwgt_step {n : Nat} (ih : NWgtC n) : NWgtC (n + 1) := by
 intro x P B cap w hsz hlen hok ht
 have hb1 : Below w.heap.size w (w.alloc (.cells (ndA x B cap) 28)) := (Below.refl _ _).alloc (Nat.le_refl _) _
 have hlk : x.kids.len ≤ 140737488355328 := by have := Trees.len_size x.kids; unfold Nd.size at hlen; omega
 have hks : x.kids.size + 1 = x.size := by unfold Nd.size; omega
 have HS := Lib.hid (nsum_go 143 Nd.wgt x.kids P B cap _ hlk (ht.below hb1) Nd.wgt_le (fun i z C capc w' hz ht' => by
  have := Trees.size_get x.kids i z hz
  exact ih z P C capc w' (by omega) (by omega) (fun y hy => hok y (kid_nodes hz y hy)) ht') (enters_of Tryz.func143 (by kernel_rfl) rfl))
 rw [← Trees.wsum_list] at HS
 have HX := Lib.hid (show _ ∧ _ from ⟨hb1, Blk.new w 28 (ndA x B cap)⟩)
 have hself := hok x (self_nodes x)
 have hsn : min topN x.kids.wsum ≤ topN := Nat.min_le_left _ _
 clear ht hok hb1
 by_cases h24 : x.kind = 2 ∨ x.kind = 4
 ·have HV := Lib.hid (show x.wgt = min topN x.kids.wsum by unfold Nd.wgt wgtK; rw [if_pos h24])
  generalize min topN x.kids.wsum = s at *
  have hk : (x.kind == 2) = true ∨ ((x.kind == 2) = false ∧ (x.kind == 4) = true) := by
   rcases h24 with h | h
   ·exact .inl (by rw [beq_iff_eq]; exact h)
   ·exact .inr ⟨by rw [beq_eq_false_iff_ne]; omega, by rw [beq_iff_eq]; exact h⟩
  clear h24 hself
  unfold ndV
  unfold ndA at *
  rcases hk with hk | ⟨hk, hk2⟩
  all_goals
   go_enter Tryz.func143, Tryz.ntmps143
   go_wp2_with fail
   refine HS.out.mono ?_
   rintro e w2 ⟨rfl, hb2⟩
   have hX := HX.out.2.below hb2 HX.out.2.lt
   have y0 : w2.cell? ⟨w.heap.size, 0, none⟩ = some (.int .i64 x.kind) := hX.cell 0
   have y1 : w2.cell? ⟨w.heap.size, 1, none⟩ = some (.int .u64 (word x.set.testBit 0)) := hX.cell 1
   have y2 : w2.cell? ⟨w.heap.size, 2, none⟩ = some (.int .u64 (word x.set.testBit 1)) := hX.cell 2
   have y3 : w2.cell? ⟨w.heap.size, 3, none⟩ = some (.int .u64 (word x.set.testBit 2)) := hX.cell 3
   have y4 : w2.cell? ⟨w.heap.size, 4, none⟩ = some (.int .u64 (word x.set.testBit 3)) := hX.cell 4
   have y5 : w2.cell? ⟨w.heap.size, 5, none⟩ = some (.slice B x.kids.len cap) := hX.cell 5
   have y6 : w2.cell? ⟨w.heap.size, 6, none⟩ = some (.int .i64 x.lo) := hX.cell 6
   have y7 : w2.cell? ⟨w.heap.size, 7, none⟩ = some (.int .i64 x.hi) := hX.cell 7
   have HB2 := Lib.hid (HX.out.1.trans (hb2.mono HX.out.1.size))
   clear hb2 hX HS
   dsimp only
   go_wp2
   go_light
   go_ret
   exact ⟨ret_i (by rw [HV.out]), HB2.out⟩
 have hk2 : (x.kind == 2) = false := by rw [beq_eq_false_iff_ne]; omega
 have hk4 : (x.kind == 4) = false := by rw [beq_eq_false_iff_ne]; omega
 by_cases h9 : x.kind = 9
 ·have HV := Lib.hid (show x.wgt = timesW x.lo x.hi (min topN x.kids.wsum) by unfold Nd.wgt wgtK; rw [if_neg h24, if_pos h9])
  obtain ⟨l0, l1, l2, l3⟩ := hself h9
  have HT := Lib.hid (fun (W : World) => ntimes_go x B cap (min topN x.kids.wsum) W hsn l0 l1 l2 l3)
  generalize min topN x.kids.wsum = s at *
  have hk9 : (x.kind == 9) = true := by rw [beq_iff_eq]; exact h9
  clear h24 hself h9
  unfold ndV at *
  unfold ndA at *
  go_enter Tryz.func143, Tryz.ntmps143
  go_wp2_with fail
  refine HS.out.mono ?_
  rintro e w2 ⟨rfl, hb2⟩
  have hX := HX.out.2.below hb2 HX.out.2.lt
  have y0 : w2.cell? ⟨w.heap.size, 0, none⟩ = some (.int .i64 x.kind) := hX.cell 0
  have y1 : w2.cell? ⟨w.heap.size, 1, none⟩ = some (.int .u64 (word x.set.testBit 0)) := hX.cell 1
  have y2 : w2.cell? ⟨w.heap.size, 2, none⟩ = some (.int .u64 (word x.set.testBit 1)) := hX.cell 2
  have y3 : w2.cell? ⟨w.heap.size, 3, none⟩ = some (.int .u64 (word x.set.testBit 2)) := hX.cell 3
  have y4 : w2.cell? ⟨w.heap.size, 4, none⟩ = some (.int .u64 (word x.set.testBit 3)) := hX.cell 4
  have y5 : w2.cell? ⟨w.heap.size, 5, none⟩ = some (.slice B x.kids.len cap) := hX.cell 5
  have y6 : w2.cell? ⟨w.heap.size, 6, none⟩ = some (.int .i64 x.lo) := hX.cell 6
  have y7 : w2.cell? ⟨w.heap.size, 7, none⟩ = some (.int .i64 x.hi) := hX.cell 7
  have HB2 := Lib.hid (HX.out.1.trans (hb2.mono HX.out.1.size))
  clear hb2 hX HS
  dsimp only
  go_wp2_with fail
  refine (HT.out _).mono ?_
  rintro e w3 ⟨rfl, hb3⟩
  have HB3 := Lib.hid (HB2.out.trans (hb3.mono HB2.out.size))
  clear hb3 HT y0 y1 y2 y3 y4 y5 y6 y7
  dsimp only
  go_wp2
  go_light
  go_ret
  exact ⟨ret_i (by rw [HV.out]), HB3.out⟩
 ·have HV := Lib.hid (show x.wgt = min topN (min topN x.kids.wsum + 1) by unfold Nd.wgt wgtK; rw [if_neg h24, if_neg h9])
  have HA := Lib.hid (fun (W : World) (g : Nat) (hg : g = W.heap.size) => add2_new W g (min topN x.kids.wsum) 1 hg hsn (by decide))
  generalize min topN x.kids.wsum = s at *
  have hk9 : (x.kind == 9) = false := by rw [beq_eq_false_iff_ne]; exact h9
  clear h24 hself h9
  unfold ndV at *
  unfold ndA at *
  go_enter Tryz.func143, Tryz.ntmps143
  go_wp2_with fail
  refine HS.out.mono ?_
  rintro e w2 ⟨rfl, hb2⟩
  have hX := HX.out.2.below hb2 HX.out.2.lt
  have y0 : w2.cell? ⟨w.heap.size, 0, none⟩ = some (.int .i64 x.kind) := hX.cell 0
  have y1 : w2.cell? ⟨w.heap.size, 1, none⟩ = some (.int .u64 (word x.set.testBit 0)) := hX.cell 1
  have y2 : w2.cell? ⟨w.heap.size, 2, none⟩ = some (.int .u64 (word x.set.testBit 1)) := hX.cell 2
  have y3 : w2.cell? ⟨w.heap.size, 3, none⟩ = some (.int .u64 (word x.set.testBit 2)) := hX.cell 3
  have y4 : w2.cell? ⟨w.heap.size, 4, none⟩ = some (.int .u64 (word x.set.testBit 3)) := hX.cell 4
  have y5 : w2.cell? ⟨w.heap.size, 5, none⟩ = some (.slice B x.kids.len cap) := hX.cell 5
  have y6 : w2.cell? ⟨w.heap.size, 6, none⟩ = some (.int .i64 x.lo) := hX.cell 6
  have y7 : w2.cell? ⟨w.heap.size, 7, none⟩ = some (.int .i64 x.hi) := hX.cell 7
  have HB2 := Lib.hid (HX.out.1.trans (hb2.mono HX.out.1.size))
  clear hb2 hX HS
  dsimp only
  go_wp2_with fail
  refine (HA.out _ _ (by simp)).mono ?_
  rintro e w3 ⟨rfl, hb3⟩
  have HB3 := Lib.hid (HB2.out.trans (hb3.mono HB2.out.size))
  clear hb3 HA y0 y1 y2 y3 y4 y5 y6 y7
  dsimp only
  go_wp2
  go_light
  go_ret
  exact ⟨ret_i (by rw [HV.out]), HB3.out⟩
theorem nwgt_go (x : Nd) (P : Nat → Prop) (B : Option Addr) (cap : Nat) (w : World) (hlen : x.size ≤ 140737488355328) (hok : ∀ y ∈ x.nodes, numsOk y) (ht : TreesAt w P x.kids B) :
  Calls Tryz.prog 143 #[ndV x B cap] w fun e w' => e = .returned (.int .i64 ((x.wgt : Nat) : Int)) ∧ Below w.heap.size w w' := by
 have h : ∀ n, NWgtC n := by
  intro n
  induction n with
  | zero => exact fun x _ _ _ _ h => by unfold Nd.size at h; omega
  | succ n ih => exact nwgt_step ih
 exact h x.size x P B cap w (Nat.le_refl _) hlen hok ht
structure MachS where
 accept : List Nat
 links : List (Nat × Nat)
 edges : List (Nat × Nat × Nat)
def MachS.states (m : MachS) : Nat := m.accept.length
def MachS.state (m : MachS) (label : Nat) : MachS := ⟨m.accept ++ [label], m.links, m.edges⟩
def MachS.link (m : MachS) (a b : Nat) : MachS := ⟨m.accept, m.links ++ [(a, b)], m.edges⟩
def MachS.edge (m : MachS) (a s b : Nat) : MachS := ⟨m.accept, m.links, m.edges ++ [(a, s, b)]⟩
abbrev LayF := MachS → Nat → MachS × Nat
def noF : LayF := fun m i => (m, i)
def catF : List LayF → LayF
 | [], m, i => (m, i)
 | f :: l, m, i => catF l (f m i).1 (f m i).2
def altF : List LayF → MachS → Nat → MachS × List Nat
 | [], m, _ => (m, [])
 | f :: l, m, i => ((altF l (f m i).1 i).1, (f m i).2 :: (altF l (f m i).1 i).2)
def linksF (t : Nat) : List Nat → MachS → MachS
 | [], m => m
 | e :: l, m => linksF t l (m.link e t)
def barF (fs : List LayF) : LayF := fun m i => (linksF (altF fs m i).1.states (altF fs m i).2 ((altF fs m i).1.state 0), (altF fs m i).1.states)
def loopF (plus : Bool) (f : LayF) : LayF := fun m i =>
 ((f ((m.state 0).link i m.states) m.states).1.link (f ((m.state 0).link i m.states) m.states).2 m.states, if plus = true then (f ((m.state 0).link i m.states) m.states).2 else m.states)
def optF (f : LayF) : LayF := fun m i => ((((f m i).1.state 0).link (f m i).2 (f m i).1.states).link i (f m i).1.states, (f m i).1.states)
def timesF (f : LayF) : Nat → LayF
 | 0, m, i => (m, i)
 | k + 1, m, i => timesF f k (f m i).1 (f m i).2
def optsF (f : LayF) (t : Nat) : Nat → LayF
 | 0, m, i => (m, i)
 | k + 1, m, i => optsF f t k (f (m.link i t) i).1 (f (m.link i t) i).2
def upF (f : LayF) (k : Nat) : LayF := fun m i => ((optsF f m.states k (m.state 0) i).1.link (optsF f m.states k (m.state 0) i).2 m.states, m.states)
def repF (n : Nat) (lo hi : Int) (f : LayF) : LayF := fun m i =>
 if n = 0 then (m, i)
 else if hi < 0 then loopF false f (timesF f lo.toNat m i).1 (timesF f lo.toNat m i).2
 else if hi = lo then timesF f lo.toNat m i
 else upF f (hi - lo).toNat (timesF f lo.toNat m i).1 (timesF f lo.toNat m i).2
def setF (s : Nat) : LayF := fun m i => ((m.state 0).edge i s m.states, m.states)
def nilF : LayF := fun m _ => (m.state 0, m.states)
def layK (k : Int) (s : Nat) (lo hi : Int) (fs : List LayF) (n : Nat) : LayF :=
 if k = 2 then noF
 else if k = 3 then setF s
 else if k = 4 then catF fs
 else if k = 5 then barF fs
 else if k = 6 then loopF false (fs.headD noF)
 else if k = 7 then loopF true (fs.headD noF)
 else if k = 8 then optF (fs.headD noF)
 else if k = 9 then repF n lo hi (fs.headD noF)
 else nilF
def Trees.headW : Trees → Nat
 | .nil => 0
 | .cons k _ ks lo hi _ => wgtK k lo hi (min topN ks.wsum)
def Trees.lays : Trees → List LayF
 | .nil => []
 | .cons k s ks lo hi r => layK k s lo hi ks.lays ks.headW :: r.lays
def Nd.lay (x : Nd) : LayF := layK x.kind x.set x.lo x.hi x.kids.lays x.kids.headW
theorem Trees.lays_list : ∀ F : Trees, F.lays = F.list.map Nd.lay
 | .nil => rfl
 | .cons k s ks lo hi r => by rw [Trees.lays, Trees.list, List.map_cons, Trees.lays_list r]; rfl
theorem Trees.headW_list {F : Trees} {z : Nd} (h : F.list[0]? = some z) : F.headW = z.wgt := by
 cases F with
 | nil => simp [Trees.list] at h
 | cons k s ks lo hi r =>
  simp [Trees.list] at h
  subst h
  rfl
theorem Trees.lays_head {F : Trees} {z : Nd} (h : F.list[0]? = some z) : F.lays.headD noF = z.lay := by
 cases F with
 | nil => simp [Trees.list] at h
 | cons k s ks lo hi r =>
  simp [Trees.list] at h
  subst h
  rfl
theorem repl_add (n k : Nat) : List.replicate (n + k) 0 = List.replicate n 0 ++ List.replicate k (0 : Nat) := by
 induction n with
 | zero => simp
 | succ n ih => rw [Nat.succ_add, List.replicate_succ, List.replicate_succ, ih]; rfl
def NewS (m : MachS) (i n a : Nat) : Prop := a = i ∨ m.states ≤ a ∧ a < m.states + n
def Adds (m : MachS) (i n c : Nat) (m' : MachS) (e : Nat) : Prop :=
 ∃ L E, m' = ⟨m.accept ++ List.replicate n 0, m.links ++ L, m.edges ++ E⟩ ∧ (∀ p ∈ L, NewS m i n p.1 ∧ m.states ≤ p.2 ∧ p.2 < m.states + n) ∧
  (∀ p ∈ E, NewS m i n p.1 ∧ m.states ≤ p.2.2 ∧ p.2.2 < m.states + n) ∧ NewS m i n e ∧ L.length + E.length ≤ c
theorem Adds.states {m m' : MachS} {i n c e : Nat} (h : Adds m i n c m' e) : m'.states = m.states + n := by
 obtain ⟨L, E, rfl, _⟩ := h
 simp [MachS.states]
theorem Adds.new {m m' : MachS} {i n c e : Nat} (h : Adds m i n c m' e) : NewS m i n e := by
 obtain ⟨L, E, _, _, _, h, _⟩ := h
 exact h
theorem Adds.more {m m' : MachS} {i n c c' e : Nat} (h : Adds m i n c m' e) (hc : c ≤ c') : Adds m i n c' m' e := by
 obtain ⟨L, E, h0, h1, h2, h3, h4⟩ := h
 exact ⟨L, E, h0, h1, h2, h3, by omega⟩
theorem Adds.cast {m m' : MachS} {i n n' c c' e : Nat} (h : Adds m i n c m' e) (hn : n = n') (hc : c ≤ c') : Adds m i n' c' m' e := by
 subst hn
 exact h.more hc
theorem Adds.zero (m : MachS) (i : Nat) : Adds m i 0 0 m i := ⟨[], [], by simp, by simp, by simp, .inl rfl, by simp⟩
theorem Adds.then {m m1 m2 : MachS} {i n c e1 j n' c' e2 : Nat} (h : Adds m i n c m1 e1) (h' : Adds m1 j n' c' m2 e2) (hj : NewS m i n j) : Adds m i (n + n') (c + c') m2 e2 := by
 have hs := h.states
 obtain ⟨L, E, rfl, h1, h2, h3, h4⟩ := h
 obtain ⟨L', E', rfl, g1, g2, g3, g4⟩ := h'
 unfold NewS at *
 refine ⟨L ++ L', E ++ E', ?_, ?_, ?_, ?_, ?_⟩
 ·simp only [repl_add, List.append_assoc]
 ·intro p hp
  rcases List.mem_append.1 hp with hp | hp
  ·have := h1 p hp; unfold NewS; omega
  ·have := g1 p hp; unfold NewS; omega
 ·intro p hp
  rcases List.mem_append.1 hp with hp | hp
  ·have := h2 p hp; unfold NewS; omega
  ·have := g2 p hp; unfold NewS; omega
 ·unfold NewS; omega
 ·simp; omega
theorem Adds.end_ {m m' : MachS} {i n c e e' : Nat} (h : Adds m i n c m' e) (he : NewS m i n e') : Adds m i n c m' e' := by
 obtain ⟨L, E, h0, h1, h2, h3, h4⟩ := h
 exact ⟨L, E, h0, h1, h2, he, h4⟩
theorem Adds.state {m m' : MachS} {i n c e : Nat} (h : Adds m i n c m' e) : Adds m i (n + 1) c (m'.state 0) m'.states := by
 have hs := h.states
 obtain ⟨L, E, h0, h1, h2, h3, h4⟩ := h
 refine ⟨L, E, ?_, fun p hp => ?_, fun p hp => ?_, ?_, h4⟩
 ·rw [h0]
  simp only [MachS.state, repl_add, List.append_assoc]
  rfl
 ·have := h1 p hp; unfold NewS at *; omega
 ·have := h2 p hp; unfold NewS at *; omega
 ·unfold NewS; omega
theorem Adds.link {m m' : MachS} {i n c e a b : Nat} (h : Adds m i n c m' e) (ha : NewS m i n a) (hb : m.states ≤ b) (hb2 : b < m.states + n) : Adds m i n (c + 1) (m'.link a b) e := by
 obtain ⟨L, E, rfl, h1, h2, h3, h4⟩ := h
 refine ⟨L ++ [(a, b)], E, by simp [MachS.link], fun p hp => ?_, h2, h3, by simp; omega⟩
 rcases List.mem_append.1 hp with hp | hp
 ·exact h1 p hp
 ·rw [List.mem_singleton.1 hp]; exact ⟨ha, hb, hb2⟩
theorem Adds.edge {m m' : MachS} {i n c e a s b : Nat} (h : Adds m i n c m' e) (ha : NewS m i n a) (hb : m.states ≤ b) (hb2 : b < m.states + n) : Adds m i n (c + 1) (m'.edge a s b) e := by
 obtain ⟨L, E, rfl, h1, h2, h3, h4⟩ := h
 refine ⟨L, E ++ [(a, s, b)], by simp [MachS.edge], h1, fun p hp => ?_, h3, by simp; omega⟩
 rcases List.mem_append.1 hp with hp | hp
 ·exact h2 p hp
 ·rw [List.mem_singleton.1 hp]; exact ⟨ha, hb, hb2⟩
def AddsF (f : LayF) (n c : Nat) : Prop := ∀ m i, Adds m i n c (f m i).1 (f m i).2
theorem addsF_no : AddsF noF 0 0 := fun m i => Adds.zero m i
theorem addsF_nil : AddsF nilF 1 0 := fun m i => ((Adds.zero m i).state).cast (by omega) (by omega)
theorem addsF_set (s : Nat) : AddsF (setF s) 1 1 := fun m i => ((Adds.zero m i).state.edge (.inl rfl) (by omega) (by omega)).cast (by omega) (by omega)
theorem addsF_cat : ∀ (l : List (LayF × Nat × Nat)), (∀ q ∈ l, AddsF q.1 q.2.1 q.2.2) → AddsF (catF (l.map (·.1))) (l.map (·.2.1)).sum (l.map (·.2.2)).sum
 | [], _ => fun m i => Adds.zero m i
 | q :: l, h => fun m i => by
  have h1 := h q (by simp) m i
  have h2 := addsF_cat l (fun q hq => h q (by simp [hq])) (q.1 m i).1 (q.1 m i).2
  have := h1.then h2 h1.new
  simpa [catF] using this
theorem adds_alt : ∀ (l : List (LayF × Nat × Nat)), (∀ q ∈ l, AddsF q.1 q.2.1 q.2.2) → ∀ m i, Adds m i (l.map (·.2.1)).sum (l.map (·.2.2)).sum (altF (l.map (·.1)) m i).1 i ∧ (altF (l.map (·.1)) m i).2.length = l.length ∧ ∀ e ∈ (altF (l.map (·.1)) m i).2, NewS m i (l.map (·.2.1)).sum e
 | [], _, m, i => ⟨Adds.zero m i, rfl, fun e he => by cases he⟩
 | q :: l, h, m, i => by
  have h1 := h q (by simp) m i
  have hs := h1.states
  obtain ⟨h2, h3, h4⟩ := adds_alt l (fun q hq => h q (by simp [hq])) (q.1 m i).1 i
  have h5 := h1.then h2 (.inl rfl)
  have hn := h1.new
  refine ⟨by simpa [altF] using h5, by simp [altF, h3], fun e he => ?_⟩
  simp [altF] at he
  rcases he with rfl | he
  ·unfold NewS at *; simp; omega
  ·have := h4 e he
   unfold NewS at *
   simp
   omega
theorem adds_links {m : MachS} {i n t : Nat} (ht : m.states ≤ t) (ht2 : t < m.states + n) : ∀ (es : List Nat) {m' : MachS} {c e : Nat}, Adds m i n c m' e → (∀ x ∈ es, NewS m i n x) → Adds m i n (c + es.length) (linksF t es m') e
 | [], m', c, e, h, _ => h
 | x :: l, m', c, e, h, hx => by
  have := adds_links ht ht2 l (h.link (hx x (by simp)) ht ht2) (fun y hy => hx y (by simp [hy]))
  refine this.cast rfl ?_
  simp
  omega
theorem addsF_bar (l : List (LayF × Nat × Nat)) (h : ∀ q ∈ l, AddsF q.1 q.2.1 q.2.2) : AddsF (barF (l.map (·.1))) ((l.map (·.2.1)).sum + 1) ((l.map (·.2.2)).sum + l.length) := fun m i => by
 obtain ⟨h1, h2, h3⟩ := adds_alt l h m i
 have hs := h1.states
 have h4 := adds_links (m := m) (i := i) (n := (l.map (·.2.1)).sum + 1) (t := (altF (l.map (·.1)) m i).1.states) (by omega) (by omega) (altF (l.map (·.1)) m i).2 h1.state (fun x hx => by have := h3 x hx; unfold NewS at *; omega)
 rw [h2] at h4
 exact h4
theorem addsF_loop (plus : Bool) {f : LayF} {n c : Nat} (h : AddsF f n c) : AddsF (loopF plus f) (n + 1) (c + 2) := fun m i => by
 have h1 : Adds m i 1 1 ((m.state 0).link i m.states) m.states := ((Adds.zero m i).state.link (.inl rfl) (by omega) (by omega)).cast (by omega) (by omega)
 have h2 := h ((m.state 0).link i m.states) m.states
 have h3 := h1.then h2 h1.new
 have h4 := (h3.link h3.new (b := m.states) (by omega) (by omega)).cast (n' := n + 1) (c' := c + 2) (by omega) (by omega)
 cases plus with
 | true => exact h4
 | false => exact h4.end_ (e' := m.states) (by unfold NewS; omega)
theorem addsF_opt {f : LayF} {n c : Nat} (h : AddsF f n c) : AddsF (optF f) (n + 1) (c + 2) := fun m i => by
 have h1 := h m i
 have hs := h1.states
 have hn := h1.new
 exact (h1.state.link (a := (f m i).2) (b := (f m i).1.states) (by unfold NewS at *; omega) (by omega) (by omega)).link (a := i) (b := (f m i).1.states) (.inl rfl) (by omega) (by omega)
theorem addsF_times {f : LayF} {n c : Nat} (h : AddsF f n c) : ∀ k, AddsF (timesF f k) (k * n) (k * c)
 | 0 => fun m i => (Adds.zero m i).cast (by omega) (by omega)
 | k + 1 => fun m i => by
  have h1 := h m i
  have h2 := addsF_times h k (f m i).1 (f m i).2
  exact (h1.then h2 h1.new).cast (by rw [Nat.succ_mul]; omega) (by rw [Nat.succ_mul]; omega)
theorem adds_opts {f : LayF} {n c : Nat} (h : AddsF f n c) {m : MachS} {i t : Nat} : ∀ (k : Nat) {n0 c0 : Nat} {m1 : MachS} {e1 : Nat}, Adds m i n0 c0 m1 e1 → m.states ≤ t → t < m.states + n0 → Adds m i (n0 + k * n) (c0 + k * (c + 1)) (optsF f t k m1 e1).1 (optsF f t k m1 e1).2
 | 0, n0, c0, m1, e1, h1, _, _ => h1.cast (by omega) (by omega)
 | k + 1, n0, c0, m1, e1, h1, ht, ht2 => by
  have h2 := h1.link h1.new ht ht2
  have h3 := h (m1.link e1 t) e1
  have h4 := h2.then h3 h1.new
  have h5 := adds_opts h k h4 ht (by omega)
  exact h5.cast (by rw [Nat.succ_mul]; omega) (by rw [Nat.succ_mul]; omega)
theorem addsF_up {f : LayF} {n c : Nat} (h : AddsF f n c) (k : Nat) : AddsF (upF f k) (k * n + 1) (k * (c + 1) + 1) := fun m i => by
 have h0 : Adds m i 1 0 (m.state 0) i := ((Adds.zero m i).state.end_ (.inl rfl)).cast (by omega) (by omega)
 have h1 := adds_opts h (t := m.states) k h0 (by omega) (by omega)
 exact ((h1.link h1.new (b := m.states) (by omega) (by omega)).end_ (e' := m.states) (by unfold NewS; omega)).cast (by omega) (by omega)
def wgtU (k lo hi : Int) (n : Nat) : Nat :=
 if k = 2 ∨ k = 4 then n
 else if k = 9 then (if n = 0 then 0 else if hi < 0 then lo.toNat * n + n + 1 else if lo < hi then lo.toNat * n + (hi - lo).toNat * n + 1 else lo.toNat * n)
 else n + 1
def Trees.wsumU : Trees → Nat
 | .nil => 0
 | .cons k _ ks lo hi r => wgtU k lo hi ks.wsumU + r.wsumU
def Nd.wgtU (x : Nd) : Nat := Go.Proofs.YtofbfafnpdaejaaGreatDoor.wgtU x.kind x.lo x.hi x.kids.wsumU
theorem min_mul_top (a k : Nat) : min topN (k * min topN a) = min topN (k * a) := by
 rcases Nat.eq_zero_or_pos k with rfl | hk
 ·simp
 ·rcases Nat.lt_or_ge topN a with h | h
  ·have h1 : topN ≤ k * topN := Nat.le_mul_of_pos_left _ hk
   have h2 : topN ≤ k * a := Nat.le_trans (Nat.le_of_lt h) (Nat.le_mul_of_pos_left _ hk)
   rw [Nat.min_eq_left (Nat.le_of_lt h), Nat.min_eq_left h1, Nat.min_eq_left h2]
  ·rw [Nat.min_eq_right h]
theorem topN_pos : 0 < topN := by decide
theorem wgtK_U (k lo hi : Int) (n : Nat) : wgtK k lo hi (min topN n) = min topN (wgtU k lo hi n) := by
 have ht := topN_pos
 unfold wgtK wgtU
 split
 ·rfl
 split
 ·unfold timesW
  by_cases hn : n = 0
  ·subst hn
   simp
  rw [if_neg (by omega), if_neg hn]
  split
  ·have := min_mul_top n lo.toNat
   omega
  split
  ·have h1 := min_mul_top n lo.toNat
   have h2 := min_mul_top n (hi - lo).toNat
   omega
  ·exact min_mul_top n _
 ·omega
theorem Trees.wsum_U : ∀ F : Trees, min topN F.wsum = min topN F.wsumU
 | .nil => rfl
 | .cons k s ks lo hi r => by
  have h1 := Trees.wsum_U ks
  have h2 := Trees.wsum_U r
  rw [Trees.wsum, Trees.wsumU, h1, wgtK_U]
  omega
theorem Nd.wgt_U (x : Nd) : x.wgt = min topN x.wgtU := by
 unfold Nd.wgt Nd.wgtU
 rw [x.kids.wsum_U, wgtK_U]
theorem Trees.wsumU_list : ∀ F : Trees, F.wsumU = (F.list.map Nd.wgtU).sum
 | .nil => rfl
 | .cons k s ks lo hi r => by rw [Trees.wsumU, Trees.list, List.map_cons, List.sum_cons, Trees.wsumU_list r]; rfl
theorem Trees.size_list : ∀ F : Trees, F.size = (F.list.map Nd.size).sum
 | .nil => rfl
 | .cons k s ks lo hi r => by rw [Trees.size, Trees.list, List.map_cons, List.sum_cons, Trees.size_list r]; rfl
theorem aloneN_kids {y : Nd} (h : aloneN y = true) : (6 ≤ y.kind → y.kind ≤ 9 → y.kids.len = 1) ∧ (y.kind = 9 → 0 ≤ y.lo ∧ (y.hi = -1 ∨ y.lo ≤ y.hi)) ∧ (y.kind < 4 → y.kids.len = 0) ∧ 1 ≤ y.kind ∧ y.kind ≤ 9 := by
 unfold aloneN aloneV at h
 by_cases h3 : y.kind = 3
 ·rw [if_pos h3] at h
  simp at h
  omega
 rw [if_neg h3] at h
 split at h
 ·cases h
 by_cases h9 : y.kind = 9
 ·rw [if_pos h9] at h
  unfold timesB at h
  simp at h
  omega
 ·rw [if_neg h9] at h
  by_cases k1 : y.kind = 1 ∨ y.kind = 2 ∨ y.kind = 3
  ·have e : arityS y.kind = 0 := by unfold arityS; rw [if_pos k1]
   rw [e] at h
   simp at h
   omega
  by_cases k2 : y.kind = 4 ∨ y.kind = 5
  ·have e : arityS y.kind = 2 := by unfold arityS; rw [if_neg k1, if_pos k2]
   rw [e] at h
   simp at h
   omega
  by_cases k3 : 6 ≤ y.kind ∧ y.kind ≤ 9
  ·have e : arityS y.kind = 1 := by unfold arityS; rw [if_neg k1, if_neg k2, if_pos k3]
   rw [e] at h
   simp at h
   omega
  ·have e : arityS y.kind = -1 := by unfold arityS; rw [if_neg k1, if_neg k2, if_neg k3]
   rw [e] at h
   simp at h
theorem exp1 (a S : Nat) : 2 * (a + 1) * (1 + S) = 2 * a * S + 2 * a + 2 * S + 2 := by
 have h : 2 * (a + 1) = 2 * a + 2 := by omega
 rw [h, Nat.mul_add, Nat.mul_one, Nat.add_mul]
 omega
theorem exp2 (a b S : Nat) : 2 * (a + b) * S = 2 * a * S + 2 * b * S := by
 have h : 2 * (a + b) = 2 * a + 2 * b := by omega
 rw [h, Nat.add_mul]
theorem two_mul_le {a b c d : Nat} (h1 : a ≤ c) (h2 : b ≤ d) : 2 * a * b ≤ 2 * c * d := Nat.mul_le_mul (Nat.mul_le_mul_left 2 h1) h2
def Okays (F : Trees) : Prop := ∀ y ∈ F.nodes, aloneN y = true
theorem sum_le_mul : ∀ (l : List Nd), ((l.map fun z => 2 * z.wgtU * z.size).sum) ≤ 2 * (l.map Nd.wgtU).sum * (l.map Nd.size).sum
 | [] => by simp
 | x :: l => by
  have := sum_le_mul l
  simp only [List.map_cons, List.sum_cons]
  generalize (l.map Nd.wgtU).sum = A at *
  generalize (l.map Nd.size).sum = B at *
  rw [exp2, Nat.mul_add, Nat.mul_add]
  omega
theorem lay_adds : ∀ (F : Trees), Okays F → ∀ z ∈ F.list, AddsF z.lay z.wgtU (2 * z.wgtU * z.size)
 | .nil, _, z, hz => by cases hz
 | .cons k s ks lo hi r, ho, z, hz => by
  rw [Trees.list] at hz
  rcases List.mem_cons.1 hz with rfl | hz
  ·have hself : aloneN ⟨k, s, ks, lo, hi⟩ = true := ho _ (by simp [Trees.nodes])
   have hks : Okays ks := fun y hy => ho y (by simp [Trees.nodes, hy])
   have ih := lay_adds ks hks
   obtain ⟨a1, a9, a0, ak1, ak9⟩ := aloneN_kids hself
   simp only at a1 a9 a0 ak1 ak9
   unfold Nd.lay Nd.wgtU Nd.size layK Go.Proofs.YtofbfafnpdaejaaGreatDoor.wgtU
   simp only
   have hmap : ks.lays = ((ks.list.map fun z => (z.lay, z.wgtU, 2 * z.wgtU * z.size)).map (·.1)) := by rw [Trees.lays_list, List.map_map]; rfl
   have hq : ∀ q ∈ ks.list.map (fun z => (z.lay, z.wgtU, 2 * z.wgtU * z.size)), AddsF q.1 q.2.1 q.2.2 := by
    intro q hq
    obtain ⟨z, hz, rfl⟩ := List.mem_map.1 hq
    exact ih z hz
   have hw : ((ks.list.map fun z => (z.lay, z.wgtU, 2 * z.wgtU * z.size)).map (·.2.1)).sum = ks.wsumU := by rw [List.map_map, Trees.wsumU_list]; rfl
   have hc : ((ks.list.map fun z => (z.lay, z.wgtU, 2 * z.wgtU * z.size)).map (·.2.2)).sum ≤ 2 * ks.wsumU * ks.size := by
    rw [List.map_map, Trees.wsumU_list, Trees.size_list]
    exact sum_le_mul ks.list
   have hl : (ks.list.map fun z => (z.lay, z.wgtU, 2 * z.wgtU * z.size)).length = ks.len := by rw [List.length_map, Trees.len_list]
   have hlen := Trees.len_size ks
   have hone : 6 ≤ k → k ≤ 9 → ∃ z, ks.list = [z] ∧ ks.wsumU = z.wgtU ∧ ks.size = z.size := fun h6 h9 => by
    have h1 := a1 h6 h9
    rw [← Trees.len_list] at h1
    obtain ⟨z, hz⟩ := List.length_eq_one_iff.1 h1
    exact ⟨z, hz, by rw [Trees.wsumU_list, hz]; simp, by rw [Trees.size_list, hz]; simp⟩
   rcases (show k = 1 ∨ k = 2 ∨ k = 3 ∨ k = 4 ∨ k = 5 ∨ k = 6 ∨ k = 7 ∨ k = 8 ∨ k = 9 by omega) with rfl | rfl | rfl | rfl | rfl | rfl | rfl | rfl | rfl
   ·have h0 : ks.wsumU = 0 := by
     have := a0 (by decide)
     rw [← Trees.len_list] at this
     rw [Trees.wsumU_list, List.length_eq_zero_iff.1 this]
     rfl
    rw [h0]
    intro m i
    exact (addsF_nil m i).cast rfl (by simp)
   ·have h0 : ks.wsumU = 0 := by
     have := a0 (by decide)
     rw [← Trees.len_list] at this
     rw [Trees.wsumU_list, List.length_eq_zero_iff.1 this]
     rfl
    rw [h0]
    exact fun m i => (addsF_no m i).cast rfl (by omega)
   ·have h0 : ks.wsumU = 0 := by
     have := a0 (by decide)
     rw [← Trees.len_list] at this
     rw [Trees.wsumU_list, List.length_eq_zero_iff.1 this]
     rfl
    rw [h0]
    exact fun m i => (addsF_set s m i).cast rfl (by simp; omega)
   ·have := addsF_cat _ hq
    rw [← hmap, hw] at this
    exact fun m i => (this m i).cast rfl (Nat.le_trans hc (two_mul_le (Nat.le_refl _) (by omega)))
   ·have := addsF_bar _ hq
    rw [← hmap, hw, hl] at this
    refine fun m i => (this m i).cast rfl ?_
    have h1 : 2 * (ks.wsumU + 1) * (1 + ks.size) = 2 * ks.wsumU * ks.size + 2 * ks.wsumU + 2 * ks.size + 2 := exp1 _ _
    simp only [show ¬ ((5 : Int) = 2 ∨ (5 : Int) = 4) by decide, if_false, show ¬ ((5 : Int) = 9) by decide]
    omega
   ·obtain ⟨z, hz, hw1, hs1⟩ := hone (by decide) (by decide)
    have hh := Trees.lays_head (F := ks) (z := z) (by rw [hz]; rfl)
    have := addsF_loop false (ih z (by rw [hz]; simp))
    rw [← hh] at this
    refine fun m i => (this m i).cast (by simp [hw1]) ?_
    have h1 : 2 * (z.wgtU + 1) * (1 + z.size) = 2 * z.wgtU * z.size + 2 * z.wgtU + 2 * z.size + 2 := exp1 _ _
    simp only [show ¬ ((6 : Int) = 2 ∨ (6 : Int) = 4) by decide, if_false, show ¬ ((6 : Int) = 9) by decide]
    rw [hw1, hs1]
    omega
   ·obtain ⟨z, hz, hw1, hs1⟩ := hone (by decide) (by decide)
    have hh := Trees.lays_head (F := ks) (z := z) (by rw [hz]; rfl)
    have := addsF_loop true (ih z (by rw [hz]; simp))
    rw [← hh] at this
    refine fun m i => (this m i).cast (by simp [hw1]) ?_
    have h1 : 2 * (z.wgtU + 1) * (1 + z.size) = 2 * z.wgtU * z.size + 2 * z.wgtU + 2 * z.size + 2 := exp1 _ _
    simp only [show ¬ ((7 : Int) = 2 ∨ (7 : Int) = 4) by decide, if_false, show ¬ ((7 : Int) = 9) by decide]
    rw [hw1, hs1]
    omega
   ·obtain ⟨z, hz, hw1, hs1⟩ := hone (by decide) (by decide)
    have hh := Trees.lays_head (F := ks) (z := z) (by rw [hz]; rfl)
    have := addsF_opt (ih z (by rw [hz]; simp))
    rw [← hh] at this
    refine fun m i => (this m i).cast (by simp [hw1]) ?_
    have h1 : 2 * (z.wgtU + 1) * (1 + z.size) = 2 * z.wgtU * z.size + 2 * z.wgtU + 2 * z.size + 2 := exp1 _ _
    simp only [show ¬ ((8 : Int) = 2 ∨ (8 : Int) = 4) by decide, if_false, show ¬ ((8 : Int) = 9) by decide]
    rw [hw1, hs1]
    omega
   ·obtain ⟨z, hz, hw1, hs1⟩ := hone (by decide) (by decide)
    have hh := Trees.lays_head (F := ks) (z := z) (by rw [hz]; rfl)
    have hW := Trees.headW_list (F := ks) (z := z) (by rw [hz]; rfl)
    have hWU := z.wgt_U
    have ht := topN_pos
    have hf := ih z (by rw [hz]; simp)
    rw [← hh] at hf
    have hlo := a9 rfl
    rw [hw1, hs1, hW]
    simp only [show ¬ ((9 : Int) = 2 ∨ (9 : Int) = 4) by decide, if_false, if_true]
    simp only [show ¬ ((9 : Int) = 2) by decide, show ¬ ((9 : Int) = 3) by decide, show ¬ ((9 : Int) = 4) by decide, show ¬ ((9 : Int) = 5) by decide, show ¬ ((9 : Int) = 6) by decide, show ¬ ((9 : Int) = 7) by decide, show ¬ ((9 : Int) = 8) by decide, if_false]
    generalize ks.lays.headD noF = f at *
    generalize z.size = S at *
    generalize z.wgt = N at *
    generalize z.wgtU = n at *
    intro m i
    unfold repF
    by_cases h0 : n = 0
    ·subst h0
     rw [if_pos rfl, if_pos (by omega)]
     exact (Adds.zero m i).cast rfl (by omega)
    rw [if_neg h0, if_neg (show ¬ N = 0 by omega)]
    have htm := addsF_times hf lo.toNat m i
    have e1 : lo.toNat * (2 * n * S) = 2 * (lo.toNat * n) * S := by rw [← Nat.mul_assoc, ← Nat.mul_assoc, Nat.mul_comm lo.toNat 2, Nat.mul_assoc 2]
    by_cases hh0 : hi < 0
    ·rw [if_pos hh0, if_pos hh0]
     have h2 := addsF_loop false hf (timesF f lo.toNat m i).1 (timesF f lo.toNat m i).2
     refine (htm.then h2 htm.new).cast (by omega) ?_
     rw [e1]
     have h1 : 2 * (lo.toNat * n + n + 1) * (1 + S) = 2 * (lo.toNat * n) * S + 2 * n * S + 2 * S + 2 * (lo.toNat * n + n + 1) := by
      rw [exp1, exp2]; omega
     omega
    rw [if_neg hh0, if_neg hh0]
    by_cases hll : hi = lo
    ·rw [if_pos hll, if_neg (by omega)]
     refine htm.cast rfl ?_
     rw [e1]
     exact two_mul_le (Nat.le_refl _) (by omega)
    ·rw [if_neg hll, if_pos (by omega)]
     have h2 := addsF_up hf (hi - lo).toNat (timesF f lo.toNat m i).1 (timesF f lo.toNat m i).2
     refine (htm.then h2 htm.new).cast (by omega) ?_
     generalize (hi - lo).toNat = d at *
     have e2 : d * (2 * n * S + 1) = 2 * (d * n) * S + d := by
      rw [Nat.mul_add, Nat.mul_one, ← Nat.mul_assoc, ← Nat.mul_assoc, Nat.mul_comm d 2, Nat.mul_assoc 2]
     rw [e1, e2]
     have h1 : 2 * (lo.toNat * n + d * n + 1) * (1 + S) = 2 * (lo.toNat * n) * S + 2 * (d * n) * S + 2 * S + 2 * (lo.toNat * n + d * n + 1) := by
      rw [exp1, exp2]; omega
     have h3 : d ≤ d * n := Nat.le_mul_of_pos_right _ (by omega)
     omega
  ·exact lay_adds r (fun y hy => ho y (by simp [Trees.nodes, hy])) z hz
def layAll : List Nd → Nat → MachS → MachS
 | [], _, m => m
 | x :: l, i, m => layAll l (i + 1) (((x.lay m 0).1.state (i + 1)).link (x.lay m 0).2 (x.lay m 0).1.states)
def machS (l : List Nd) : MachS := layAll l 0 ⟨[0], [], []⟩
def wAll (l : List Nd) : Nat := (l.map fun x => x.wgtU + 1).sum
def sizeW (l : List Nd) : Nat := min topN (1 + wAll l)
def ofS (l : List Nd) : Except Int MachS :=
 if 64 < l.length then .error 18 else if (l.all rightT) = false then .error 6 else if 65536 < sizeW l then .error 7 else .ok (machS l)
def Shaped (m : MachS) : Prop :=
 (∀ p ∈ m.links, p.1 < m.states ∧ 0 < p.2 ∧ p.2 < m.states ∧ m.accept[p.1]? = some 0) ∧ (∀ p ∈ m.edges, p.1 < m.states ∧ 0 < p.2.2 ∧ p.2.2 < m.states ∧ m.accept[p.1]? = some 0) ∧ m.accept[0]? = some 0
def countL : List Nat → Nat → Option Nat
 | [], k => some k
 | a :: r, k => if a = 0 then countL r k else if a = k then countL r (k + 1) else none
theorem countL_app : ∀ (xs ys : List Nat) (k : Nat), countL (xs ++ ys) k = (countL xs k).bind (countL ys)
 | [], ys, k => rfl
 | a :: r, ys, k => by
  simp only [List.cons_append, countL]
  split
  ·exact countL_app r ys k
  split
  ·exact countL_app r ys (k + 1)
  ·rfl
theorem countL_zeros : ∀ (n k : Nat), countL (List.replicate n 0) k = some k
 | 0, k => rfl
 | n + 1, k => by rw [List.replicate_succ]; simp only [countL, if_true]; exact countL_zeros n k
def layOne (x : Nd) (i : Nat) (m : MachS) : MachS := ((x.lay m 0).1.state (i + 1)).link (x.lay m 0).2 (x.lay m 0).1.states
theorem layAll_cons (x : Nd) (l : List Nd) (i : Nat) (m : MachS) : layAll (x :: l) i m = layAll l (i + 1) (layOne x i m) := rfl
theorem layAll_snoc (x : Nd) : ∀ (l : List Nd) (i : Nat) (m : MachS), layAll (l ++ [x]) i m = layOne x (i + l.length) (layAll l i m)
 | [], i, m => rfl
 | y :: l, i, m => by
  rw [List.cons_append, layAll_cons, layAll_cons, layAll_snoc x l]
  rw [List.length_cons, show i + 1 + l.length = i + (l.length + 1) by omega]
theorem lay_one {x : Nd} (h : rightT x = true) : AddsF x.lay x.wgtU (2 * x.wgtU * x.size) := by
 have ho : Okays (Trees.of [x]) := fun y hy => by
  unfold rightT at h
  rw [Bool.and_eq_true] at h
  refine List.all_eq_true.1 h.2 y ?_
  simpa [Trees.of, Trees.nodes, Nd.nodes] using hy
 exact lay_adds (Trees.of [x]) ho x (by rw [Trees.list_of]; simp)
structure Grown (m : MachS) (n c i : Nat) : Prop where
 states : m.states = n
 shaped : Shaped m
 count : countL m.accept 1 = some (i + 1)
 few : m.links.length + m.edges.length ≤ c
 label : ∀ a ∈ m.accept, a ≤ i
theorem getElem?_repl {a : List Nat} {n k e : Nat} (h : e < a.length + n) (h2 : a.length ≤ e) : (a ++ List.replicate n 0)[e]? = some 0 := by
 rw [List.getElem?_append_right h2, List.getElem?_replicate, if_pos (by omega)]
theorem grown_one {m : MachS} {n c i : Nat} (h : Grown m n c i) (hn : 0 < n) {x : Nd} (hx : rightT x = true) : Grown (layOne x i m) (n + x.wgtU + 1) (c + 2 * x.wgtU * x.size + 1) (i + 1) := by
 have ha := lay_one hx m 0
 unfold layOne
 generalize (x.lay m 0).1 = m1 at *
 generalize (x.lay m 0).2 = e at *
 generalize 2 * x.wgtU * x.size = k at *
 generalize x.wgtU = d at *
 have hs := ha.states
 have he := ha.new
 obtain ⟨L, E, rfl, h1, h2, h3, h4⟩ := ha
 obtain ⟨s0, ⟨s1, s2, s3⟩, s4, s5, s6⟩ := h
 simp only [MachS.states] at *
 have hz : ∀ p, NewS m 0 d p → p < n + d + 1 ∧ ((m.accept ++ List.replicate d 0) ++ [i + 1])[p]? = some 0 := by
  intro p hp
  unfold NewS MachS.states at hp
  rw [s0] at hp
  refine ⟨by omega, ?_⟩
  rcases hp with rfl | ⟨hp, hp2⟩
  ·rw [List.getElem?_append_left (by simp; omega), List.getElem?_append_left (by omega)]
   exact s3
  ·rw [List.getElem?_append_left (by simp; omega)]
   exact getElem?_repl (k := 0) (by omega) (by omega)
 have hold : ∀ p, p < n → m.accept[p]? = some 0 → ((m.accept ++ List.replicate d 0) ++ [i + 1])[p]? = some 0 := by
  intro p hp h0
  rw [List.getElem?_append_left (by simp; omega), List.getElem?_append_left (by omega)]
  exact h0
 refine ⟨?_, ⟨?_, ?_, ?_⟩, ?_, ?_, ?_⟩
 ·simp [MachS.states, MachS.link, MachS.state]; omega
 ·intro p hp
  simp only [MachS.link, MachS.state, MachS.states] at hp ⊢
  simp only [List.length_append, List.length_replicate, List.length_singleton]
  rcases List.mem_append.1 hp with hp | hp
  ·rcases List.mem_append.1 hp with hp | hp
   ·obtain ⟨a1, a2, a3, a4⟩ := s1 p hp
    exact ⟨by omega, a2, by omega, hold _ (by omega) a4⟩
   ·obtain ⟨a1, a2, a3⟩ := h1 p hp
    obtain ⟨b1, b2⟩ := hz _ a1
    exact ⟨by omega, by omega, by omega, b2⟩
  ·rw [List.mem_singleton.1 hp]
   obtain ⟨b1, b2⟩ := hz _ he
   exact ⟨by simp only; omega, by simp only; omega, by simp only; omega, b2⟩
 ·intro p hp
  simp only [MachS.link, MachS.state, MachS.states] at hp ⊢
  simp only [List.length_append, List.length_replicate, List.length_singleton]
  rcases List.mem_append.1 hp with hp | hp
  ·obtain ⟨a1, a2, a3, a4⟩ := s2 p hp
   exact ⟨by omega, a2, by omega, hold _ (by omega) a4⟩
  ·obtain ⟨a1, a2, a3⟩ := h2 p hp
   obtain ⟨b1, b2⟩ := hz _ a1
   exact ⟨by omega, by omega, by omega, b2⟩
 ·exact hold 0 (by omega) s3
 ·simp only [MachS.link, MachS.state]
  rw [countL_app, countL_app, s4]
  simp only [Option.bind_some]
  rw [countL_zeros]
  simp [countL]
 ·simp [MachS.link, MachS.state]; omega
 ·intro a ha
  simp only [MachS.link, MachS.state] at ha
  rcases List.mem_append.1 ha with ha | ha
  ·rcases List.mem_append.1 ha with ha | ha
   ·have := s6 a ha; omega
   ·have := (List.mem_replicate.1 ha).2; omega
  ·rw [List.mem_singleton.1 ha]; omega
def cAll (l : List Nd) : Nat := (l.map fun x => 2 * x.wgtU * x.size + 1).sum
theorem grown_all : ∀ (l : List Nd) {m : MachS} {n c i : Nat}, Grown m n c i → 0 < n → (∀ x ∈ l, rightT x = true) → Grown (layAll l i m) (n + wAll l) (c + cAll l) (i + l.length)
 | [], m, n, c, i, h, _, _ => by simpa [layAll, wAll, cAll] using h
 | x :: l, m, n, c, i, h, hn, hr => by
  rw [layAll_cons]
  have h1 := grown_one h hn (hr x (by simp))
  have h2 := grown_all l h1 (by omega) (fun y hy => hr y (by simp [hy]))
  have e1 : n + x.wgtU + 1 + wAll l = n + wAll (x :: l) := by simp [wAll]; omega
  have e2 : c + 2 * x.wgtU * x.size + 1 + cAll l = c + cAll (x :: l) := by simp [cAll]; omega
  have e3 : i + 1 + l.length = i + (x :: l).length := by simp; omega
  rw [← e1, ← e2, ← e3]
  exact h2
theorem grown_mach {l : List Nd} (hr : ∀ x ∈ l, rightT x = true) : Grown (machS l) (1 + wAll l) (cAll l) l.length := by
 have h0 : Grown ⟨[0], [], []⟩ 1 0 0 := ⟨rfl, ⟨by simp, by simp, rfl⟩, rfl, by simp, by simp⟩
 have := grown_all l h0 (by decide) hr
 simpa [machS] using this
theorem cAll_le : ∀ (l : List Nd), (∀ x ∈ l, x.size ≤ 4096) → cAll l ≤ 8192 * wAll l
 | [], _ => by simp [cAll, wAll]
 | x :: l, h => by
  have := cAll_le l (fun y hy => h y (by simp [hy]))
  have hx := h x (by simp)
  have hm : 2 * x.wgtU * x.size ≤ 2 * x.wgtU * 4096 := Nat.mul_le_mul_left _ hx
  simp only [cAll, wAll, List.map_cons, List.sum_cons] at *
  omega
theorem rightT_size {x : Nd} (h : rightT x = true) : x.size ≤ 4096 := by
 unfold rightT at h
 rw [Bool.and_eq_true, decide_eq_true_eq] at h
 rw [← x.nodes_len]
 exact h.1
def linkCell (p : Nat × Nat) : List Value := [.int .i64 (p.1 : Int), .int .i64 (p.2 : Int)]
def edgeCell (p : Nat × Nat × Nat) : List Value := [.int .i64 (p.1 : Int), .int .u64 (word p.2.1.testBit 0), .int .u64 (word p.2.1.testBit 1), .int .u64 (word p.2.1.testBit 2), .int .u64 (word p.2.1.testBit 3), .int .i64 (p.2.2 : Int)]
def accCell (a : Nat) : List Value := [.int .i64 (a : Int)]
def linkCells (l : List (Nat × Nat)) : List Value := l.flatMap linkCell
def edgeCells (l : List (Nat × Nat × Nat)) : List Value := l.flatMap edgeCell
def accCells (l : List Nat) : List Value := l.flatMap accCell
theorem linkCells_snoc (l : List (Nat × Nat)) (x : Nat × Nat) : linkCells (l ++ [x]) = linkCells l ++ linkCell x := by simp [linkCells]
theorem edgeCells_snoc (l : List (Nat × Nat × Nat)) (x : Nat × Nat × Nat) : edgeCells (l ++ [x]) = edgeCells l ++ edgeCell x := by simp [edgeCells]
theorem accCells_snoc (l : List Nat) (x : Nat) : accCells (l ++ [x]) = accCells l ++ accCell x := by simp [accCells]
structure RowsM (w : World) (base : Nat) (m : MachS) (L E A : Value) : Prop where
 l : w.ownsRow base 85 2 L m.links.length (linkCells m.links)
 e : w.ownsRow base 89 6 E m.edges.length (edgeCells m.edges)
 a : w.ownsRow base 3 1 A m.accept.length (accCells m.accept)
structure In3 (S : Nat → Prop) (L E A : Value) : Prop where
 l : ∀ b, L.ownBlock = some b → S b
 e : ∀ b, E.ownBlock = some b → S b
 a : ∀ b, A.ownBlock = some b → S b
theorem ownsRow_block {W W' : World} {base size k : Nat} {e : TypeId} {v : Value} {xs : List Value} (hr : W.ownsRow base e size v k xs) (hb : ∀ k, v.ownBlock = some k → W'.heap[k]? = W.heap[k]?) : W'.ownsRow base e size v k xs := by
 refine ⟨hr.1, ?_⟩
 rcases hr.2 with h | ⟨g, cap, cur, rfl, h1, h2, h3⟩
 ·exact .inl h
 ·exact .inr ⟨g, cap, cur, rfl, h1, (hb g rfl).trans h2, h3⟩
theorem RowsM.keep {w w' : World} {base : Nat} {m : MachS} {L E A : Value} {S : Nat → Prop} (h : RowsM w base m L E A) (hi : In3 S L E A) (hk : ∀ b, S b → w'.heap[b]? = w.heap[b]?) : RowsM w' base m L E A :=
 ⟨ownsRow_block h.l (fun k e => hk k (hi.l k e)), ownsRow_block h.e (fun k e => hk k (hi.e k e)), ownsRow_block h.a (fun k e => hk k (hi.a k e))⟩
def LayAt (w : World) (base g : Nat) (S : Nat → Prop) (m : MachS) : Prop :=
 (∀ b, S b → base ≤ b ∧ b < w.heap.size) ∧ S g ∧ ∃ L E A, Blk w g 112 #[.int .i64 (m.states : Int), .int .i64 0, L, E, A] ∧ RowsM w base m L E A ∧ In3 S L E A
theorem LayAt.keep {w w' : World} {base g : Nat} {S : Nat → Prop} {m : MachS} (h : LayAt w base g S m) (hs : w.heap.size ≤ w'.heap.size) (hk : ∀ b, S b → w'.heap[b]? = w.heap[b]?) : LayAt w' base g S m := by
 obtain ⟨h0, hg, L, E, A, h1, h2, h3⟩ := h
 exact ⟨fun b hb => ⟨(h0 b hb).1, by have := (h0 b hb).2; omega⟩, hg, L, E, A, (hk g hg).trans h1, h2.keep h3 hk, h3⟩
theorem LayAt.alloc {w : World} {base g : Nat} {S : Nat → Prop} {m : MachS} (h : LayAt w base g S m) (o : Obj) : LayAt (w.alloc o) base g S m :=
 h.keep (by simp) (fun b hb => Below.heap_alloc w o b (h.1 b hb).2)
theorem LayAt.lt {w : World} {base g : Nat} {S : Nat → Prop} {m : MachS} (h : LayAt w base g S m) : ∀ b, S b → b < w.heap.size := fun b hb => (h.1 b hb).2
theorem LayAt.not {w : World} {base g : Nat} {S : Nat → Prop} {m : MachS} (h : LayAt w base g S m) {b : Nat} (hb : w.heap.size ≤ b) : ¬ S b := fun h' => by have := h.lt b h'; omega
structure Moves (base : Nat) (S : Nat → Prop) (w : World) (S' : Nat → Prop) (w' : World) : Prop where
 below : Below base w w'
 size : w.heap.size ≤ w'.heap.size
 kept : ∀ b, b < w.heap.size → ¬ S b → w'.heap[b]? = w.heap[b]?
 fresh : ∀ b, S' b → S b ∨ w.heap.size ≤ b
theorem Moves.refl (base : Nat) (S : Nat → Prop) (w : World) : Moves base S w S w := ⟨Below.refl _ _, Nat.le_refl _, fun _ _ _ => rfl, fun b hb => .inl hb⟩
theorem Moves.trans {base : Nat} {S S1 S2 : Nat → Prop} {w w1 w2 : World} (h : Moves base S w S1 w1) (h' : Moves base S1 w1 S2 w2) : Moves base S w S2 w2 :=
 ⟨h.below.trans h'.below, Nat.le_trans h.size h'.size, fun b hb hn => by
  have hn1 : ¬ S1 b := fun hb1 => by
   rcases h.fresh b hb1 with h2 | h2
   ·exact hn h2
   ·omega
  exact (h'.kept b (by have := h.size; omega) hn1).trans (h.kept b hb hn), fun b hb => by
  rcases h'.fresh b hb with h2 | h2
  ·exact h.fresh b h2
  ·right; have := h.size; omega⟩
theorem Moves.alloc {base : Nat} {S S1 : Nat → Prop} {w w1 : World} (h : Moves base S w S1 w1) (hb : base ≤ w.heap.size) (o : Obj) : Moves base S w S1 (w1.alloc o) :=
 ⟨h.below.alloc (by have := h.size; omega) o, by have := h.size; simp; omega, fun b hb hn => (Below.heap_alloc w1 o b (by have := h.size; omega)).trans (h.kept b hb hn), h.fresh⟩
theorem Blk.moves {base : Nat} {S S1 : Nat → Prop} {w w1 : World} {b : Nat} {t : TypeId} {cs : Array Value} (h : Blk w b t cs) (hm : Moves base S w S1 w1) (hn : ¬ S b) : Blk w1 b t cs := (hm.kept b h.lt hn).trans h
theorem Moves.notIn {base : Nat} {S S1 : Nat → Prop} {w w1 : World} (h : Moves base S w S1 w1) {b : Nat} (hb : b < w.heap.size) (hn : ¬ S b) : ¬ S1 b := fun h1 => by
 rcases h.fresh b h1 with h2 | h2
 ·exact hn h2
 ·omega
theorem Moves.of_below {base : Nat} {S : Nat → Prop} {w w' : World} (h : Below w.heap.size w w') (hb : base ≤ w.heap.size) : Moves base S w S w' :=
 ⟨h.mono hb, h.size, fun b hb _ => h.block b hb, fun b hb => .inl hb⟩
theorem LayAt.below {w w' : World} {base g : Nat} {S : Nat → Prop} {m : MachS} (h : LayAt w base g S m) (hb : Below w.heap.size w w') : LayAt w' base g S m :=
 h.keep hb.size (fun b hs => hb.block b (h.lt b hs))
theorem TreesAt.moves {base : Nat} {S S1 : Nat → Prop} {w w1 : World} {F : Trees} {B : Option Addr} (h : TreesAt w (fun b => b < base) F B) (hm : Moves base S w S1 w1) : TreesAt w1 (fun b => b < base) F B :=
 h.keep (fun b o hb _ => hm.below.cell (p := ⟨b, o, none⟩) hb) (fun b hb _ => hb)
theorem rows_apart {w : World} {b1 b2 s1 s2 k1 k2 : Nat} {e1 e2 : TypeId} {v1 v2 : Value} {x1 x2 : List Value} (h1 : w.ownsRow b1 e1 s1 v1 k1 x1) (h2 : w.ownsRow b2 e2 s2 v2 k2 x2) (he : e1 ≠ e2) {b : Nat} (hb : v1.ownBlock = some b) : v2.ownBlock ≠ some b := by
 intro hb2
 rcases h1.2 with ⟨rfl, _⟩ | ⟨g, cap, cur, rfl, _, hg, _⟩
 ·simp [Value.ownBlock] at hb
 rcases h2.2 with ⟨rfl, _⟩ | ⟨g', cap', cur', rfl, _, hg', _⟩
 ·simp [Value.ownBlock] at hb2
 obtain rfl : g = b := by simpa [Value.ownBlock] using hb
 obtain rfl : g' = g := by simpa [Value.ownBlock] using hb2
 rw [hg] at hg'
 simp at hg'
 exact he hg'.2
theorem info_intN : (Tryz.prog.info? 3).map (fun i => (i.zero, i.size, i.bytes)) = some (some (.int .i64 0), 1, 8) := by kernel_rfl
theorem info_linkN : (Tryz.prog.info? 85).map (fun i => (i.zero, i.size, i.bytes)) = some (some (.agg #[.int .i64 0, .int .i64 0]), 2, 16) := by kernel_rfl
theorem info_edgeN : (Tryz.prog.info? 89).map (fun i => (i.zero, i.size, i.bytes)) = some (some (.agg #[.int .i64 0, .int .u64 0, .int .u64 0, .int .u64 0, .int .u64 0, .int .i64 0]), 6, 48) := by kernel_rfl
theorem Moves.setS {base : Nat} {S S1 : Nat → Prop} {w w1 : World} (h : Moves base S w S1 w1) {p : Addr} (hp : S p.block) (hb : base ≤ p.block) (u : Value) : Moves base S w S1 (w1.setCell p u) :=
 ⟨h.below.setCell hb u, by have := h.size; simpa [World.setCell] using this, fun b hlt hn => (Below.heap_setCell w1 p u b (fun e => hn (e ▸ hp))).trans (h.kept b hlt hn), h.fresh⟩
theorem Moves.push {base : Nat} {S : Nat → Prop} {w wa w1 : World} {v : Value} {gg : Nat} (hS : ∀ b, S b → base ≤ b ∧ b < w.heap.size) (hb : base ≤ w.heap.size) (ha : Below w.heap.size w wa) (hgrow : wa.grownBy w1 v.ownBlock) (hv : ∀ b, v.ownBlock = some b → S b) (hat : v.ownBlock = some gg ∨ w.heap.size ≤ gg) :
  Moves base S w (fun b => S b ∨ b = gg) w1 := by
 have hsz := ha.size
 have hs2 : wa.heap.size ≤ w1.heap.size := hgrow.size
 refine ⟨(ha.mono hb).grown hgrow (by omega) (fun k hk => (hS k (hv k hk)).1), by omega, fun b hlt hn => ?_, fun b hb => ?_⟩
 ·exact (hgrow.block b (by omega) (fun e => hn (hv b e.symm))).trans (ha.block b hlt)
 ·rcases hb with h | rfl
  ·exact .inl h
  ·rcases hat with h | h
   ·exact .inl (hv _ h)
   ·exact .inr h
theorem other_row {w w1 : World} {base size k : Nat} {e : TypeId} {v : Value} {xs : List Value} {r : Option Nat} {o : Obj} (hr : w.ownsRow base e size v k xs) (hne : ∀ k, v.ownBlock = some k → r ≠ some k) (hg : ∀ k, k < (w.alloc o).heap.size → some k ≠ r → w1.heap[k]? = (w.alloc o).heap[k]?) : w1.ownsRow base e size v k xs :=
 ownsRow_block hr (fun k hk => (hg k (by have := (hr.lt k hk).2; simp; omega) (fun e => hne k hk e.symm)).trans (Below.heap_alloc w o k (hr.lt k hk).2))
theorem push_acc {base g gg cap label : Nat} {S : Nat → Prop} {m : MachS} {w w1 : World} {L E A : Value} {o : Obj} (hH : (∀ b, S b → base ≤ b ∧ b < w.heap.size) ∧ S g ∧ In3 S L E A) (hb : base ≤ w.heap.size) (hR : RowsM w base m L E A) (hG : Blk w g 112 #[.int .i64 (m.states : Int), .int .i64 0, L, E, A])
  (hG1 : Blk w1 g 112 #[.int .i64 (m.states : Int), .int .i64 0, L, E, A]) (hgrow : (w.alloc o).grownBy w1 A.ownBlock)
  (hown : w1.ownsRow base 3 1 (.slice (some ⟨gg, 0, none⟩) (m.accept.length + 1) cap) (m.accept.length + 1) (accCells m.accept ++ accCell label)) (hat : A.ownBlock = some gg ∨ gg = w.heap.size + 1) :
  LayAt ((w1.setCell ⟨g, 4, none⟩ (.slice (some ⟨gg, 0, none⟩) (m.accept.length + 1) cap)).setCell ⟨g, 0, none⟩ (.int .i64 ((m.states : Int) + 1))) base g (fun b => S b ∨ b = gg) (m.state label) ∧
  Moves base S w (fun b => S b ∨ b = gg) ((w1.setCell ⟨g, 4, none⟩ (.slice (some ⟨gg, 0, none⟩) (m.accept.length + 1) cap)).setCell ⟨g, 0, none⟩ (.int .i64 ((m.states : Int) + 1))) := by
 obtain ⟨h0, hg, h3⟩ := hH
 have hne := blk_not_row hG1 (by decide) hown
 have hneL := blk_not_row hG (by decide) hR.l
 have hneE := blk_not_row hG (by decide) hR.e
 have hlg := hown.lt gg rfl
 have hM : Moves base S w (fun b => S b ∨ b = gg) w1 := Moves.push h0 hb ((Below.refl _ _).alloc (Nat.le_refl _) o) hgrow h3.a (by rcases hat with h | h; exact .inl h; exact .inr (by omega))
 have hsz : w.heap.size ≤ w1.heap.size := hM.size
 refine ⟨⟨fun b hb => ?_, .inl hg, L, E, .slice (some ⟨gg, 0, none⟩) (m.accept.length + 1) cap, ?_, ⟨own_set (own_set (other_row hR.l (fun k hk => rows_apart hR.l hR.a (by decide) hk) hgrow.block) hneL) hneL, own_set (own_set (other_row hR.e (fun k hk => rows_apart hR.e hR.a (by decide) hk) hgrow.block) hneE) hneE, ?_⟩, ⟨fun b h => .inl (h3.l b h), fun b h => .inl (h3.e b h), fun b h => .inr ?_⟩⟩, (hM.setS (p := ⟨g, 4, none⟩) hg (h0 g hg).1 _).setS (p := ⟨g, 0, none⟩) hg (h0 g hg).1 _⟩
 ·simp only [World.setCell, Array.size_modify]
  rcases hb with h | rfl
  ·exact ⟨(h0 b h).1, by have := (h0 b h).2; omega⟩
  ·exact hlg
 ·have := (hG1.set_ 4 (.slice (some ⟨gg, 0, none⟩) (m.accept.length + 1) cap)).set_ 0 (.int .i64 ((m.states : Int) + 1))
  have e : (((m.state label).states : Nat) : Int) = (m.states : Int) + 1 := by simp [MachS.states, MachS.state]
  rw [e]
  exact this
 ·have e1 : (m.state label).accept.length = m.accept.length + 1 := by simp [MachS.state]
  have e2 : accCells (m.state label).accept = accCells m.accept ++ accCell label := accCells_snoc _ _
  rw [e1, e2]
  exact own_set (own_set hown hne) hne
 ·simpa [Value.ownBlock] using h.symm
theorem push_link {base g gg cap a b' : Nat} {S : Nat → Prop} {m : MachS} {w w1 : World} {L E A : Value} {o : Obj} (hH : (∀ b, S b → base ≤ b ∧ b < w.heap.size) ∧ S g ∧ In3 S L E A) (hb : base ≤ w.heap.size) (hR : RowsM w base m L E A) (hG : Blk w g 112 #[.int .i64 (m.states : Int), .int .i64 0, L, E, A])
  (hG1 : Blk w1 g 112 #[.int .i64 (m.states : Int), .int .i64 0, L, E, A]) (hgrow : (w.alloc o).grownBy w1 L.ownBlock)
  (hown : w1.ownsRow base 85 2 (.slice (some ⟨gg, 0, none⟩) (m.links.length + 1) cap) (m.links.length + 1) (linkCells m.links ++ linkCell (a, b'))) (hat : L.ownBlock = some gg ∨ gg = w.heap.size + 1) :
  LayAt (w1.setCell ⟨g, 2, none⟩ (.slice (some ⟨gg, 0, none⟩) (m.links.length + 1) cap)) base g (fun b => S b ∨ b = gg) (m.link a b') ∧
  Moves base S w (fun b => S b ∨ b = gg) (w1.setCell ⟨g, 2, none⟩ (.slice (some ⟨gg, 0, none⟩) (m.links.length + 1) cap)) := by
 obtain ⟨h0, hg, h3⟩ := hH
 have hne := blk_not_row hG1 (by decide) hown
 have hneA := blk_not_row hG (by decide) hR.a
 have hneE := blk_not_row hG (by decide) hR.e
 have hlg := hown.lt gg rfl
 have hM : Moves base S w (fun b => S b ∨ b = gg) w1 := Moves.push h0 hb ((Below.refl _ _).alloc (Nat.le_refl _) o) hgrow h3.l (by rcases hat with h | h; exact .inl h; exact .inr (by omega))
 have hsz : w.heap.size ≤ w1.heap.size := hM.size
 refine ⟨⟨fun b hb => ?_, .inl hg, .slice (some ⟨gg, 0, none⟩) (m.links.length + 1) cap, E, A, hG1.set_ 2 _, ⟨?_, own_set (other_row hR.e (fun k hk => rows_apart hR.e hR.l (by decide) hk) hgrow.block) hneE, own_set (other_row hR.a (fun k hk => rows_apart hR.a hR.l (by decide) hk) hgrow.block) hneA⟩, ⟨fun b h => .inr ?_, fun b h => .inl (h3.e b h), fun b h => .inl (h3.a b h)⟩⟩, hM.setS (p := ⟨g, 2, none⟩) hg (h0 g hg).1 _⟩
 ·simp only [World.setCell, Array.size_modify]
  rcases hb with h | rfl
  ·exact ⟨(h0 b h).1, by have := (h0 b h).2; omega⟩
  ·exact hlg
 ·have e1 : (m.link a b').links.length = m.links.length + 1 := by simp [MachS.link]
  have e2 : linkCells (m.link a b').links = linkCells m.links ++ linkCell (a, b') := linkCells_snoc _ _
  rw [e1, e2]
  exact own_set hown hne
 ·simpa [Value.ownBlock] using h.symm
theorem push_edge {base g gg cap a s b' z : Nat} {S : Nat → Prop} {m : MachS} {w w1 : World} {L E A : Value} {o : Obj} (hH : (∀ b, S b → base ≤ b ∧ b < w.heap.size) ∧ S g ∧ In3 S L E A) (hb : base ≤ w.heap.size) (hR : RowsM w base m L E A) (hG : Blk w g 112 #[.int .i64 (m.states : Int), .int .i64 0, L, E, A])
  (hG1 : Blk w1 g 112 #[.int .i64 (m.states : Int), .int .i64 0, L, E, A]) (hgrow : (w.alloc o).drew.grownBy w1 E.ownBlock)
  (hown : w1.ownsRow base 89 6 (.slice (some ⟨gg, 0, none⟩) (m.edges.length + 1) cap) (m.edges.length + 1) (edgeCells m.edges ++ edgeCell (a, s, b'))) (hz : z = w.heap.size + 1) (hat : E.ownBlock = some gg ∨ gg = z) :
  LayAt (w1.setCell ⟨g, 3, none⟩ (.slice (some ⟨gg, 0, none⟩) (m.edges.length + 1) cap)) base g (fun b => S b ∨ b = gg) (m.edge a s b') ∧
  Moves base S w (fun b => S b ∨ b = gg) (w1.setCell ⟨g, 3, none⟩ (.slice (some ⟨gg, 0, none⟩) (m.edges.length + 1) cap)) := by
 obtain ⟨h0, hg, h3⟩ := hH
 have hne := blk_not_row hG1 (by decide) hown
 have hneA := blk_not_row hG (by decide) hR.a
 have hneL := blk_not_row hG (by decide) hR.l
 have hlg := hown.lt gg rfl
 have hM : Moves base S w (fun b => S b ∨ b = gg) w1 := Moves.push h0 hb ((Below.refl _ _).alloc (Nat.le_refl _) o).drew hgrow h3.e (by rcases hat with h | h; exact .inl h; exact .inr (by omega))
 have hsz : w.heap.size ≤ w1.heap.size := hM.size
 refine ⟨⟨fun b hb => ?_, .inl hg, L, .slice (some ⟨gg, 0, none⟩) (m.edges.length + 1) cap, A, hG1.set_ 3 _, ⟨own_set (other_row hR.l (fun k hk => rows_apart hR.l hR.e (by decide) hk) hgrow.block) hneL, ?_, own_set (other_row hR.a (fun k hk => rows_apart hR.a hR.e (by decide) hk) hgrow.block) hneA⟩, ⟨fun b h => .inl (h3.l b h), fun b h => .inr ?_, fun b h => .inl (h3.a b h)⟩⟩, hM.setS (p := ⟨g, 3, none⟩) hg (h0 g hg).1 _⟩
 ·simp only [World.setCell, Array.size_modify]
  rcases hb with h | rfl
  ·exact ⟨(h0 b h).1, by have := (h0 b h).2; omega⟩
  ·exact hlg
 ·have e1 : (m.edge a s b').edges.length = m.edges.length + 1 := by simp [MachS.edge]
  have e2 : edgeCells (m.edge a s b').edges = edgeCells m.edges ++ edgeCell (a, s, b') := edgeCells_snoc _ _
  rw [e1, e2]
  exact own_set hown hne
 ·simpa [Value.ownBlock] using h.symm
theorem lstate_go (base g : Nat) (S : Nat → Prop) (m : MachS) (label : Nat) (w : World) (h : LayAt w base g S m) (hb : base ≤ w.heap.size) (hf : m.states ≤ 1000000000000) :
  Calls Tryz.prog 98 #[.pointer (some ⟨g, 0, none⟩), .int .i64 (label : Int)] w fun e w' => e = .returned (.int .i64 (m.states : Int)) ∧ ∃ S', LayAt w' base g S' (m.state label) ∧ Moves base S w S' w' := by
 obtain ⟨i0, hi, hz0, hz1, hz2⟩ := info_parts info_intN
 obtain ⟨h0, hg, L, E, A, hG, hR, h3⟩ := h
 have s0 := hG.cell 0
 have s4 := hG.cell 4
 have f0 := hG.frozen 0
 have f4 := hG.frozen 4
 have hlt := Blk.lt hG
 have HG := Lib.hid hG
 have HR := Lib.hid hR
 have HH := Lib.hid (show _ ∧ _ ∧ _ from ⟨h0, hg, h3⟩)
 have hneG := blk_not_row hG (by decide) hR.a
 have HneG := Lib.hid hneG
 have hlen : m.accept.length = m.states := rfl
 have h63 : m.accept.length + 1 ≤ maxLen := Nat.le_trans (by omega) (show 2000000000000 ≤ maxLen by decide)
 have hby : (m.accept.length + 1) * 8 ≤ 140737488355328 := by omega
 clear hG hR hneG h0 h3 hlen
 go_enter Tryz.func98, Tryz.ntmps98
 go_wp2_with (at_builtin; refine wpList_append_lies _ rfl _ _ 38 rfl base 3 i0 _ 1 8 Tryz.underlying38 hi hz0 hz1 hz2 rfl (by decide) A m.accept.length (accCells m.accept) rfl (HR.out.a.alloc _) ⟨w.heap.size, 0, none⟩ 1 1 (accCell label) rfl rfl (World.news_of_block (cs := #[.int .i64 (label : Int)]) (t := 3) (fr := (0, 0)) (heap_alloc_new w _)) (by simp [accCell, Value.oneCell']) (by decide) h63 hby (by simp; omega) (w.heap.size + 1) (by simp) ?_; intro gg cap' w1 hown1 hgrow hat hlt1; have hG1 := Blk.grown (Blk.alloc HG.out _) hgrow HneG.out; have c0 := hG1.cell 0; have c4 := hG1.cell 4; have d0 := hG1.frozen 0; have d4 := hG1.frozen 4; have HG1 := Lib.hid hG1; have Hgrow := Lib.hid hgrow; have Hown1 := Lib.hid hown1; have Hat := Lib.hid hat; clear hG1 hgrow hown1 hat)
 go_light
 go_ret
 exact ⟨rfl, _, push_acc HH.out hb HR.out HG.out HG1.out Hgrow.out Hown1.out Hat.out⟩
theorem llink_go (base g : Nat) (S : Nat → Prop) (m : MachS) (i j : Nat) (w : World) (h : LayAt w base g S m) (hb : base ≤ w.heap.size) (hf : m.links.length ≤ 1000000000000) :
  Calls Tryz.prog 100 #[.pointer (some ⟨g, 0, none⟩), .int .i64 (i : Int), .int .i64 (j : Int)] w fun e w' => e = .returned (.tuple #[]) ∧ ∃ S', LayAt w' base g S' (m.link i j) ∧ Moves base S w S' w' := by
 obtain ⟨i0, hi, hz0, hz1, hz2⟩ := info_parts info_linkN
 obtain ⟨h0, hg, L, E, A, hG, hR, h3⟩ := h
 have s2 := hG.cell 2
 have f2 := hG.frozen 2
 have hlt := Blk.lt hG
 have HG := Lib.hid hG
 have HR := Lib.hid hR
 have HH := Lib.hid (show _ ∧ _ ∧ _ from ⟨h0, hg, h3⟩)
 have hneG := blk_not_row hG (by decide) hR.l
 have HneG := Lib.hid hneG
 have h63 : m.links.length + 1 ≤ maxLen := Nat.le_trans (by omega) (show 2000000000000 ≤ maxLen by decide)
 have hby : (m.links.length + 1) * 16 ≤ 140737488355328 := by omega
 clear hG hR hneG h0 h3
 go_enter Tryz.func100, Tryz.ntmps100
 go_wp2_with (at_builtin; refine wpList_append_lies _ rfl _ _ 36 rfl base 85 i0 _ 2 16 Tryz.underlying36 hi hz0 hz1 hz2 rfl (by decide) L m.links.length (linkCells m.links) rfl (HR.out.l.alloc _) ⟨w.heap.size, 0, none⟩ 1 1 (linkCell (i, j)) rfl rfl (World.news_of_block (cs := #[.int .i64 (i : Int), .int .i64 (j : Int)]) (t := 85) (fr := (0, 0)) (heap_alloc_new w _)) (by simp [linkCell, Value.oneCell']) (by decide) h63 hby (by simp; omega) (w.heap.size + 1) (by simp) ?_; intro gg cap' w1 hown1 hgrow hat hlt1; have hG1 := Blk.grown (Blk.alloc HG.out _) hgrow HneG.out; have c2 := hG1.cell 2; have d2 := hG1.frozen 2; have HG1 := Lib.hid hG1; have Hgrow := Lib.hid hgrow; have Hown1 := Lib.hid hown1; have Hat := Lib.hid hat; clear hG1 hgrow hown1 hat)
 go_light
 go_end0
 exact ⟨rfl, _, push_link HH.out hb HR.out HG.out HG1.out Hgrow.out Hown1.out Hat.out⟩
def FitsM (m : MachS) : Prop := m.states ≤ 1000000000000 ∧ m.links.length ≤ 1000000000000 ∧ m.edges.length ≤ 1000000000000
def ExtM (m m' : MachS) : Prop := m.states ≤ m'.states ∧ m.links.length ≤ m'.links.length ∧ m.edges.length ≤ m'.edges.length
theorem FitsM.of {m m' : MachS} (h : FitsM m') (he : ExtM m m') : FitsM m := ⟨Nat.le_trans he.1 h.1, Nat.le_trans he.2.1 h.2.1, Nat.le_trans he.2.2 h.2.2⟩
theorem ExtM.refl (m : MachS) : ExtM m m := ⟨Nat.le_refl _, Nat.le_refl _, Nat.le_refl _⟩
theorem ExtM.trans {a b c : MachS} (h : ExtM a b) (h' : ExtM b c) : ExtM a c := ⟨Nat.le_trans h.1 h'.1, Nat.le_trans h.2.1 h'.2.1, Nat.le_trans h.2.2 h'.2.2⟩
theorem ExtM.state (m : MachS) (a : Nat) : ExtM m (m.state a) := ⟨by simp [MachS.states, MachS.state], Nat.le_refl _, Nat.le_refl _⟩
theorem ExtM.link (m : MachS) (a b : Nat) : ExtM m (m.link a b) := ⟨Nat.le_refl _, by simp [MachS.link], Nat.le_refl _⟩
theorem ExtM.edge (m : MachS) (a s b : Nat) : ExtM m (m.edge a s b) := ⟨Nat.le_refl _, Nat.le_refl _, by simp [MachS.edge]⟩
def GrowsF (f : LayF) : Prop := ∀ m i, ExtM m (f m i).1
theorem AddsF.grows {f : LayF} {n c : Nat} (h : AddsF f n c) : GrowsF f := fun m i => by
 obtain ⟨L, E, h0, _⟩ := h m i
 rw [h0]
 exact ⟨by simp [MachS.states], by simp, by simp⟩
theorem catF_snoc (f : LayF) : ∀ (l : List LayF) (m : MachS) (i : Nat), catF (l ++ [f]) m i = f (catF l m i).1 (catF l m i).2
 | [], m, i => rfl
 | g :: l, m, i => by simp only [List.cons_append, catF]; exact catF_snoc f l _ _
theorem catF_app (a : List LayF) : ∀ (b : List LayF) (m : MachS) (i : Nat), catF (a ++ b) m i = catF b (catF a m i).1 (catF a m i).2 := by
 induction a with
 | nil => intros; rfl
 | cons f a ih => intro b m i; simp only [List.cons_append, catF]; exact ih b _ _
theorem catF_grows : ∀ (l : List LayF), (∀ f ∈ l, GrowsF f) → GrowsF (catF l)
 | [], _ => fun m i => ExtM.refl m
 | f :: l, h => fun m i => (h f (by simp) m i).trans (catF_grows l (fun g hg => h g (by simp [hg])) _ _)
theorem catF_part {l : List LayF} (h : ∀ f ∈ l, GrowsF f) (k : Nat) (m : MachS) (i : Nat) : ExtM (catF (l.take k) m i).1 (catF l m i).1 := by
 conv => rhs; rw [← List.take_append_drop k l, catF_app]
 exact catF_grows _ (fun f hf => h f (List.mem_of_mem_drop hf)) _ _
theorem take_snocF {α : Type} {l : List α} {k : Nat} {x : α} (h : l[k]? = some x) : l.take (k + 1) = l.take k ++ [x] := by
 obtain ⟨hk, rfl⟩ := List.getElem?_eq_some_iff.1 h
 rw [List.take_succ_eq_append_getElem hk]
def LayOut (base g : Nat) (S : Nat → Prop) (w : World) (r : MachS × Nat) (e : Ending) (w' : World) : Prop :=
 e = .returned (.int .i64 (r.2 : Int)) ∧ ∃ S', LayAt w' base g S' r.1 ∧ Moves base S w S' w'
def LayC (x : Nd) : Prop := ∀ (B : Option Addr) (cap i base g : Nat) (S : Nat → Prop) (m : MachS) (w : World), TreesAt w (fun b => b < base) x.kids B → LayAt w base g S m → base ≤ w.heap.size → FitsM (x.lay m i).1 →
 Calls Tryz.prog 99 #[.pointer (some ⟨g, 0, none⟩), ndV x B cap, .int .i64 (i : Int)] w (LayOut base g S w (x.lay m i))
structure KidsC (F : Trees) : Prop where
 lay : ∀ z ∈ F.list, LayC z
 grows : ∀ f ∈ F.lays, GrowsF f
theorem KidsC.get {F : Trees} (h : KidsC F) {k : Nat} {z : Nd} (hz : F.list[k]? = some z) : LayC z := h.lay z (List.mem_of_getElem? hz)
theorem lays_get {F : Trees} {k : Nat} {z : Nd} (hz : F.list[k]? = some z) : F.lays[k]? = some z.lay := by rw [Trees.lays_list, List.getElem?_map, hz]; rfl
theorem lays_len (F : Trees) : F.lays.length = F.len := by rw [Trees.lays_list, List.length_map, Trees.len_list]
theorem lcat_go (x : Nd) (hK : KidsC x.kids) (B : Option Addr) (cap i base g : Nat) (S : Nat → Prop) (m : MachS) (w : World) (ht : TreesAt w (fun b => b < base) x.kids B) (h : LayAt w base g S m) (hb : base ≤ w.heap.size) (hf : FitsM (catF x.kids.lays m i).1) (hl : x.kids.len ≤ 140737488355328) :
  Calls Tryz.prog 145 #[.pointer (some ⟨g, 0, none⟩), ndV x B cap, .int .i64 (i : Int)] w (LayOut base g S w (catF x.kids.lays m i)) := by
 have HT := Lib.hid ht
 have HK := Lib.hid hK
 have HF := Lib.hid hf
 have HM0 := Lib.hid (show ∃ S', LayAt (w.alloc (.cells (ndA x B cap) 28)) base g S' m ∧ Moves base S w S' (w.alloc (.cells (ndA x B cap) 28)) from ⟨S, h.alloc _, (Moves.refl base S w).alloc hb _⟩)
 have hsz : w.heap.size ≤ (w.alloc (.cells (ndA x B cap) 28)).heap.size := by simp
 clear ht hK hf h
 unfold ndV
 unfold ndA at HM0 hsz
 go_enter Tryz.func145, Tryz.ntmps145
 go_wp2
 go_loopw [2, 12] (fun v i' wr => ∃ k : Nat, i' = .int .i64 (k : Int) ∧ k ≤ x.kids.len ∧ v = .int .i64 ((((catF (x.kids.lays.take k) m i).2 : Nat)) : Int) ∧ Hid (∃ S', LayAt wr base g S' (catF (x.kids.lays.take k) m i).1 ∧ Moves base S w S' wr)) (fun _ i' _ => x.kids.len - (intOf i').toNat)
 case atStart => exact ⟨0, rfl, Nat.zero_le _, rfl, HM0⟩
 case round =>
  obtain ⟨k, rfl, hk, rfl, HM⟩ := hrel
  by_cases hlt : k < x.kids.len
  ·obtain ⟨z, hz⟩ : ∃ z, x.kids.list[k]? = some z := ⟨_, List.getElem?_eq_getElem (by rw [Trees.len_list]; exact hlt)⟩
   obtain ⟨S1, hL1, hM1⟩ := HM.out
   obtain ⟨b, o, C, capc, rfl, hbb, _, ⟨c0, c1, c2, c3, c4, c5, c6, c7⟩, hkz⟩ := (HT.out.moves hM1).get hz
   have hdl : (k : Int) < (x.kids.len : Int) := by omega
   have hbr : base ≤ wr.heap.size := by have := hM1.size; omega
   have hblk := World.block_lt_of_cell? wr _ c0
   have hts := take_snocF (lays_get hz)
   have hfit : FitsM (z.lay (catF (x.kids.lays.take k) m i).1 (catF (x.kids.lays.take k) m i).2).1 := by
    have := HF.out.of (catF_part HK.out.grows (k + 1) m i)
    rw [hts, catF_snoc] at this
    exact this
   have hbA : Below wr.heap.size wr (wr.alloc (.cells (ndA z C capc) 28)) := (Below.refl _ _).alloc (Nat.le_refl _) _
   have HI := Lib.hid (HK.out.get hz C capc (catF (x.kids.lays.take k) m i).2 base g S1 (catF (x.kids.lays.take k) m i).1 (wr.alloc (.cells (ndA z C capc) 28)) (hkz.below hbA) (hL1.alloc _) (by simp; omega) hfit)
   have HM2 := Lib.hid (hM1.alloc hb (.cells (ndA z C capc) 28))
   have HS := Lib.hid (show catF (x.kids.lays.take (k + 1)) m i = z.lay (catF (x.kids.lays.take k) m i).1 (catF (x.kids.lays.take k) m i).2 by rw [hts, catF_snoc])
   clear hz hkz hbA hts hfit hL1 hM1 HM hsz
   unfold ndV at HI
   unfold ndA at HM2
   generalize (catF (x.kids.lays.take k) m i).2 = at1 at *
   go_wp2_with fail
   refine HI.out.mono ?_
   rintro e w3 ⟨rfl, hlay⟩
   have HL3 := Lib.hid hlay
   clear hlay HI c0 c1 c2 c3 c4 c5 c6 c7 hbb hblk
   dsimp only
   go_wp2
   go_roundw
   case rel =>
    refine ⟨k + 1, by go_num, by omega, by rw [HS.out], Lib.hid ?_⟩
    rw [HS.out]
    obtain ⟨S3, h1, h2⟩ := HL3.out
    exact ⟨S3, h1, HM2.out.trans h2⟩
   case measure => simp [intOf]; omega
  ·obtain rfl : k = x.kids.len := by omega
   have hdl : ¬ ((x.kids.len : Int) < (x.kids.len : Int)) := by omega
   have HV := Lib.hid (show x.kids.lays.take x.kids.len = x.kids.lays by rw [← lays_len, List.take_length])
   rw [HV.out] at HM ⊢
   go_wp2
   go_light
   go_ret
   exact ⟨rfl, HM.out⟩
theorem LayOut.alloc_first {base g : Nat} {S : Nat → Prop} {w : World} {o : Obj} {r : MachS × Nat} {e : Ending} {w' : World} (hb : base ≤ w.heap.size) (h : LayOut base g S (w.alloc o) r e w') : LayOut base g S w r e w' := by
 obtain ⟨he, S', h1, h2⟩ := h
 exact ⟨he, S', h1, ((Moves.refl base S w).alloc hb o).trans h2⟩
theorem lplain_empty (x : Nd) (hk : x.kind = 2) (B : Option Addr) (cap i base g : Nat) (S : Nat → Prop) (m : MachS) (w : World) (h : LayAt w base g S m) (hb : base ≤ w.heap.size) :
  Calls Tryz.prog 144 #[.pointer (some ⟨g, 0, none⟩), ndV x B cap, .int .i64 (i : Int)] w (LayOut base g S w (noF m i)) := by
 have HM0 := Lib.hid (show ∃ S', LayAt (w.alloc (.cells (ndA x B cap) 28)) base g S' m ∧ Moves base S w S' (w.alloc (.cells (ndA x B cap) 28)) from ⟨S, h.alloc _, (Moves.refl base S w).alloc hb _⟩)
 clear h
 unfold ndV
 unfold ndA at HM0
 rw [hk] at *
 clear hk
 go_enter Tryz.func144, Tryz.ntmps144
 go_wp2
 go_light
 go_ret
 exact ⟨rfl, HM0.out⟩
theorem lplain_none (x : Nd) (hk : x.kind = 1) (B : Option Addr) (cap i base g : Nat) (S : Nat → Prop) (m : MachS) (w : World) (h : LayAt w base g S m) (hb : base ≤ w.heap.size) (hf : FitsM (nilF m i).1) :
  Calls Tryz.prog 144 #[.pointer (some ⟨g, 0, none⟩), ndV x B cap, .int .i64 (i : Int)] w (LayOut base g S w (nilF m i)) := by
 have HC := Lib.hid (lstate_go base g S m 0 _ (h.alloc (.cells (ndA x B cap) 28)) (by simp; omega) (hf.of (ExtM.state m 0)).1)
 have HB := Lib.hid hb
 clear h hf
 unfold ndV
 unfold ndA at HC
 rw [hk] at *
 clear hk
 go_enter Tryz.func144, Tryz.ntmps144
 go_wp2_with fail
 refine HC.out.mono ?_
 rintro e w2 ⟨rfl, hl⟩
 have HL := Lib.hid hl
 clear hl HC
 dsimp only
 go_wp2
 go_light
 go_ret
 exact LayOut.alloc_first HB.out ⟨rfl, HL.out⟩
theorem lplain_set (x : Nd) (hk : x.kind = 3) (B : Option Addr) (cap i base g : Nat) (S : Nat → Prop) (m : MachS) (w : World) (h : LayAt w base g S m) (hb : base ≤ w.heap.size) (hf : FitsM (setF x.set m i).1) :
  Calls Tryz.prog 144 #[.pointer (some ⟨g, 0, none⟩), ndV x B cap, .int .i64 (i : Int)] w (LayOut base g S w (setF x.set m i)) := by
 have hf1 := hf.of (ExtM.edge (m.state 0) i x.set m.states)
 have hfe : m.edges.length ≤ 1000000000000 := hf1.2.2
 have HC := Lib.hid (lstate_go base g S m 0 _ (h.alloc (.cells (ndA x B cap) 28)) (by simp; omega) (hf1.of (ExtM.state m 0)).1)
 have HB := Lib.hid hb
 have HX := Lib.hid (show Blk _ w.heap.size 28 (ndA x B cap) ∧ ¬ S w.heap.size from ⟨Blk.new w 28 (ndA x B cap), h.not (Nat.le_refl _)⟩)
 clear h hf hf1
 unfold ndV
 unfold ndA at HC HX
 rw [hk] at *
 clear hk
 go_enter Tryz.func144, Tryz.ntmps144
 go_wp2_with fail
 refine HC.out.mono ?_
 rintro e w2 ⟨rfl, S2, hL2, hM2⟩
 obtain ⟨i0, hi, hz0, hz1, hz2⟩ := info_parts info_edgeN
 obtain ⟨h0, hg, L, E, A, hG, hR, h3⟩ := hL2
 have hX2 := HX.out.1.moves hM2 HX.out.2
 have x1 : w2.cell? ⟨w.heap.size, 1, none⟩ = some (.int .u64 (word x.set.testBit 0)) := hX2.cell 1
 have x2 : w2.cell? ⟨w.heap.size, 2, none⟩ = some (.int .u64 (word x.set.testBit 1)) := hX2.cell 2
 have x3 : w2.cell? ⟨w.heap.size, 3, none⟩ = some (.int .u64 (word x.set.testBit 2)) := hX2.cell 3
 have x4 : w2.cell? ⟨w.heap.size, 4, none⟩ = some (.int .u64 (word x.set.testBit 3)) := hX2.cell 4
 have s3 := hG.cell 3
 have f3 := hG.frozen 3
 have hlt := Blk.lt hG
 have hltx : w.heap.size < w2.heap.size := hX2.lt
 have hbw : base ≤ w2.heap.size := by omega
 have HG := Lib.hid hG
 have HR := Lib.hid hR
 have HH := Lib.hid (show _ ∧ _ ∧ _ from ⟨h0, hg, h3⟩)
 have hneG := blk_not_row hG (by decide) hR.e
 have HneG := Lib.hid hneG
 have hle : (m.state 0).edges.length = m.edges.length := rfl
 have h63 : (m.state 0).edges.length + 1 ≤ maxLen := Nat.le_trans (by omega) (show 2000000000000 ≤ maxLen by decide)
 have hby : ((m.state 0).edges.length + 1) * 48 ≤ 140737488355328 := by omega
 have HM2 := Lib.hid hM2
 clear hG hR hneG h0 h3 hM2 hX2 HC hle
 dsimp only
 go_wp2
 go_region_law ((refine step_append_lies _ (by rfl) _ _ _ (by rfl) base 89 i0 _ 6 48 Tryz.underlying37 hi hz0 hz1 hz2 rfl (by decide) E (m.state 0).edges.length (edgeCells (m.state 0).edges) (by rfl) ((HR.out.e.alloc _).drew) ⟨w2.heap.size, 0, none⟩ 1 1 (edgeCell (i, x.set, m.states)) (by rfl) (by rfl) (World.news_of_block (cs := #[.int .i64 (i : Int), .int .u64 (word x.set.testBit 0), .int .u64 (word x.set.testBit 1), .int .u64 (word x.set.testBit 2), .int .u64 (word x.set.testBit 3), .int .i64 (m.states : Int)]) (t := 89) (fr := (0, 0)) (heap_alloc_new w2 _)) (by simp [edgeCell, Value.oneCell']) (by decide) h63 hby (by simp; omega) (w2.heap.size + 1) (by simp) ?_; intro gg cap' w3 hown1 hgrow hat hlt1; have hG1 := Blk.grown (Blk.drew (Blk.alloc HG.out _)) hgrow HneG.out; have c3 := hG1.cell 3; have d3 := hG1.frozen 3; have HG1 := Lib.hid hG1; have Hgrow := Lib.hid hgrow; have Hown1 := Lib.hid hown1; have Hat := Lib.hid hat; clear hG1 hgrow hown1 hat))
 all_goals go_wp2
 all_goals go_light
 all_goals go_ret
 all_goals
  have hp := push_edge HH.out hbw HR.out HG.out HG1.out Hgrow.out Hown1.out rfl Hat.out
  exact ⟨rfl, _, hp.1, ((Moves.refl base S w).alloc HB.out _).trans (HM2.out.trans hp.2)⟩
theorem altF_snoc (f : LayF) : ∀ (l : List LayF) (m : MachS) (i : Nat), altF (l ++ [f]) m i = ((f (altF l m i).1 i).1, (altF l m i).2 ++ [(f (altF l m i).1 i).2])
 | [], m, i => rfl
 | g :: l, m, i => by simp only [List.cons_append, altF]; rw [altF_snoc f l]
theorem altF_grows : ∀ (l : List LayF), (∀ f ∈ l, GrowsF f) → ∀ m i, ExtM m (altF l m i).1
 | [], _ => fun m i => ExtM.refl m
 | f :: l, h => fun m i => (h f (by simp) m i).trans (altF_grows l (fun g hg => h g (by simp [hg])) _ _)
theorem altF_app (a : List LayF) : ∀ (b : List LayF) (m : MachS) (i : Nat), (altF (a ++ b) m i).1 = (altF b (altF a m i).1 i).1 := by
 induction a with
 | nil => intros; rfl
 | cons f a ih => intro b m i; simp only [List.cons_append, altF]; exact ih b _ _
theorem altF_part {l : List LayF} (h : ∀ f ∈ l, GrowsF f) (k : Nat) (m : MachS) (i : Nat) : ExtM (altF (l.take k) m i).1 (altF l m i).1 := by
 conv => rhs; rw [← List.take_append_drop k l, altF_app]
 exact altF_grows _ (fun f hf => h f (List.mem_of_mem_drop hf)) _ _
theorem altF_len : ∀ (l : List LayF) (m : MachS) (i : Nat), (altF l m i).2.length = l.length
 | [], m, i => rfl
 | f :: l, m, i => by simp only [altF, List.length_cons]; rw [altF_len l]
theorem linksF_snoc (t e : Nat) : ∀ (l : List Nat) (m : MachS), linksF t (l ++ [e]) m = (linksF t l m).link e t
 | [], m => rfl
 | x :: l, m => by simp only [List.cons_append, linksF]; exact linksF_snoc t e l _
theorem linksF_grows (t : Nat) : ∀ (l : List Nat) (m : MachS), ExtM m (linksF t l m)
 | [], m => ExtM.refl m
 | e :: l, m => (ExtM.link m e t).trans (linksF_grows t l _)
theorem linksF_app (t : Nat) (a : List Nat) : ∀ (b : List Nat) (m : MachS), linksF t (a ++ b) m = linksF t b (linksF t a m) := by
 induction a with
 | nil => intros; rfl
 | cons f a ih => intro b m; simp only [List.cons_append, linksF]; exact ih b _
theorem linksF_part (t : Nat) (l : List Nat) (k : Nat) (m : MachS) : ExtM (linksF t (l.take k) m) (linksF t l m) := by
 conv => rhs; rw [← List.take_append_drop k l, linksF_app]
 exact linksF_grows _ _ _
theorem accCells_get : ∀ (l : List Nat) (k a : Nat), l[k]? = some a → (accCells l)[k]? = some (.int .i64 (a : Int))
 | [], k, a, h => by simp at h
 | x :: l, 0, a, h => by simp at h; subst h; rfl
 | x :: l, k + 1, a, h => by
  have := accCells_get l k a (by simpa using h)
  simpa [accCells, accCell] using this
theorem addr_plusE (b j : Nat) : (⟨b, 0, none⟩ : Addr).add j = ⟨b, j, none⟩ := by unfold Addr.add; split <;> simp_all
def Ends (base g : Nat) (S : Nat → Prop) (w : World) (m : MachS) (v : Value) (es : List Nat) (wr : World) : Prop :=
 ∃ S', LayAt wr base g S' m ∧ Moves base S w S' wr ∧ wr.ownsRow w.heap.size 3 1 v es.length (accCells es) ∧ ∀ b, v.ownBlock = some b → ¬ S' b
theorem lalt_go (x : Nd) (hK : KidsC x.kids) (B : Option Addr) (cap i base g : Nat) (S : Nat → Prop) (m : MachS) (w : World) (ht : TreesAt w (fun b => b < base) x.kids B) (h : LayAt w base g S m) (hb : base ≤ w.heap.size) (hf : FitsM (barF x.kids.lays m i).1) (hl : x.kids.len ≤ 1000000000000) :
  Calls Tryz.prog 146 #[.pointer (some ⟨g, 0, none⟩), ndV x B cap, .int .i64 (i : Int)] w (LayOut base g S w (barF x.kids.lays m i)) := by
 obtain ⟨i0, hi, hz0, hz1, hz2⟩ := info_parts info_intN
 have HT := Lib.hid ht
 have HK := Lib.hid hK
 have hel : (altF x.kids.lays m i).2.length = x.kids.len := by rw [altF_len, lays_len]
 have hfs : FitsM ((altF x.kids.lays m i).1.state 0) := hf.of (linksF_grows _ _ _)
 have HF := Lib.hid (show FitsM (altF x.kids.lays m i).1 ∧ FitsM ((altF x.kids.lays m i).1.state 0) ∧ FitsM (linksF (altF x.kids.lays m i).1.states (altF x.kids.lays m i).2 ((altF x.kids.lays m i).1.state 0)) from ⟨hfs.of (ExtM.state _ _), hfs, hf⟩)
 have HM0 := Lib.hid (show Ends base g S w m (.slice none 0 0) [] (w.alloc (.cells (ndA x B cap) 28)) from ⟨S, h.alloc _, (Moves.refl base S w).alloc hb _, ⟨rfl, .inl ⟨rfl, rfl⟩⟩, fun b hb => by simp [Value.ownBlock] at hb⟩)
 have hsz : w.heap.size ≤ (w.alloc (.cells (ndA x B cap) 28)).heap.size := by simp
 have HEL := Lib.hid hel
 clear ht hK hf h hfs hel
 unfold ndV
 unfold ndA at HM0 hsz
 go_enter Tryz.func146, Tryz.ntmps146
 go_wp2
 go_loopw [7, 16] (fun v i' wr => ∃ (k : Nat) (Av : Option Addr) (capv : Nat), i' = .int .i64 (k : Int) ∧ v = .slice Av k capv ∧ k ≤ x.kids.len ∧ Hid (Ends base g S w (altF (x.kids.lays.take k) m i).1 (.slice Av k capv) (altF (x.kids.lays.take k) m i).2 wr)) (fun _ i' _ => x.kids.len - (intOf i').toNat)
 case atStart => exact ⟨0, none, 0, rfl, rfl, Nat.zero_le _, HM0⟩
 case round =>
  obtain ⟨k, Av, capv, rfl, rfl, hk, HM⟩ := hrel
  by_cases hlt : k < x.kids.len
  ·obtain ⟨z, hz⟩ : ∃ z, x.kids.list[k]? = some z := ⟨_, List.getElem?_eq_getElem (by rw [Trees.len_list]; exact hlt)⟩
   obtain ⟨S1, hL1, hM1, hE1, hN1⟩ := HM.out
   obtain ⟨b, o, C, capc, rfl, hbb, _, ⟨c0, c1, c2, c3, c4, c5, c6, c7⟩, hkz⟩ := (HT.out.moves hM1).get hz
   have hdl : (k : Int) < (x.kids.len : Int) := by omega
   have hwr : w.heap.size ≤ wr.heap.size := hM1.size
   have hbr : base ≤ wr.heap.size := by omega
   have hblk := World.block_lt_of_cell? wr _ c0
   have hts := take_snocF (lays_get hz)
   have hfit : FitsM (z.lay (altF (x.kids.lays.take k) m i).1 i).1 := by
    have := HF.out.1.of (altF_part HK.out.grows (k + 1) m i)
    rw [hts, altF_snoc] at this
    exact this
   have hbA : Below wr.heap.size wr (wr.alloc (.cells (ndA z C capc) 28)) := (Below.refl _ _).alloc (Nat.le_refl _) _
   have HI := Lib.hid (HK.out.get hz C capc i base g S1 (altF (x.kids.lays.take k) m i).1 (wr.alloc (.cells (ndA z C capc) 28)) (hkz.below hbA) (hL1.alloc _) (by simp; omega) hfit)
   have HM2 := Lib.hid (hM1.alloc hb (.cells (ndA z C capc) 28))
   have HE2 := Lib.hid (hE1.alloc (.cells (ndA z C capc) 28))
   have HN2 := Lib.hid hN1
   have HS := Lib.hid (show altF (x.kids.lays.take (k + 1)) m i = ((z.lay (altF (x.kids.lays.take k) m i).1 i).1, (altF (x.kids.lays.take k) m i).2 ++ [(z.lay (altF (x.kids.lays.take k) m i).1 i).2]) by rw [hts, altF_snoc])
   have HLEN := Lib.hid (show (altF (x.kids.lays.take k) m i).2.length = k by rw [altF_len, List.length_take, lays_len]; omega)
   have HEB := Lib.hid (show ∀ b, (Value.slice Av k capv).ownBlock = some b → b < wr.heap.size from fun b hb => (hE1.lt b hb).2)
   clear hz hkz hbA hts hfit hL1 hM1 HM hsz hE1 hN1
   unfold ndV at HI
   unfold ndA at HM2 HE2 HI
   go_wp2_with fail
   refine HI.out.mono ?_
   rintro e w3 ⟨rfl, S3, hL3, hM3⟩
   have hE3 := ownsRow_block HE2.out (fun k hk => hM3.kept k (by have := HEB.out k hk; simp; omega) (HN2.out k hk))
   have hN3 : ∀ b, (Value.slice Av k capv).ownBlock = some b → ¬ S3 b := fun b hb => hM3.notIn (by have := HEB.out b hb; simp; omega) (HN2.out b hb)
   rw [HLEN.out] at hE3
   have hs3 := hM3.size
   have hw3 : w.heap.size ≤ w3.heap.size := by simp at hs3; omega
   have HE3 := Lib.hid hE3
   have HL3 := Lib.hid hL3
   have HN3 := Lib.hid hN3
   have HM3 := Lib.hid (HM2.out.trans hM3)
   have h63 : k + 1 ≤ maxLen := Nat.le_trans (by omega) (show 2000000000000 ≤ maxLen by decide)
   have hby : (k + 1) * 8 ≤ 140737488355328 := by omega
   clear hM3 hL3 hE3 hN3 HI c0 c1 c2 c3 c4 c5 c6 c7 hbb hblk hs3 HM2 HE2 HN2 HEB
   dsimp only
   go_wp2_with (at_builtin; refine wpList_append_lies _ rfl _ _ 38 rfl w.heap.size 3 i0 _ 1 8 Tryz.underlying38 hi hz0 hz1 hz2 rfl (by decide) (.slice Av k capv) k (accCells (altF (x.kids.lays.take k) m i).2) rfl (HE3.out.alloc _) ⟨w3.heap.size, 0, none⟩ 1 1 (accCell (z.lay (altF (x.kids.lays.take k) m i).1 i).2) rfl rfl (World.news_of_block (cs := #[.int .i64 (((z.lay (altF (x.kids.lays.take k) m i).1 i).2 : Nat) : Int)]) (t := 3) (fr := (0, 0)) (heap_alloc_new w3 _)) (by simp [accCell, Value.oneCell']) (by decide) h63 hby (by simp; omega) (w3.heap.size + 1) (by simp) ?_; intro gg cap' w4 hown4 hgrow hat hlt1; have Hgrow := Lib.hid hgrow; have Hown4 := Lib.hid hown4; have Hat := Lib.hid hat; clear hgrow hown4 hat)
   go_roundw
   case rel =>
    refine ⟨k + 1, _, _, by go_num, rfl, by omega, Lib.hid ?_⟩
    rw [HS.out]
    refine ⟨S3, ?_, ?_, ?_, ?_⟩
    ·exact HL3.out.keep (by have := Hgrow.out.size; simp at this; omega) (fun b hb => (Hgrow.out.block b (by have := HL3.out.lt b hb; simp; omega) (fun e => HN3.out b e.symm hb)).trans (Below.heap_alloc w3 _ b (HL3.out.lt b hb)))
    ·have hal := HM3.out.alloc hb (.cells #[.int .i64 (((z.lay (altF (x.kids.lays.take k) m i).1 i).2 : Nat) : Int)] 3)
     have hge : ∀ r, (Value.slice Av k capv).ownBlock = some r → w.heap.size ≤ r := fun r hr => (HE3.out.lt r hr).1
     refine ⟨hal.below.grown Hgrow.out (by have := hal.size; omega) (fun r hr => by have := hge r hr; omega), by have := Hgrow.out.size; have := hal.size; omega, fun b hlb hn => ?_, hal.fresh⟩
     exact (Hgrow.out.block b (by have := hal.size; omega) (fun e => by have := hge b e.symm; omega)).trans (hal.kept b hlb hn)
    ·rw [accCells_snoc, List.length_append, HLEN.out]
     exact Hown4.out
    ·intro b hb hS
     obtain rfl : gg = b := by simpa [Value.ownBlock] using hb
     rcases Hat.out with h | h
     ·exact HN3.out _ h hS
     ·have := HL3.out.lt _ hS; omega
   case measure => simp [intOf]; omega
  ·obtain rfl : k = x.kids.len := by omega
   have hdl : ¬ ((x.kids.len : Int) < (x.kids.len : Int)) := by omega
   have hV : x.kids.lays.take x.kids.len = x.kids.lays := by rw [← lays_len, List.take_length]
   rw [hV] at HM
   obtain ⟨S1, hL1, hM1, hE1, hN1⟩ := HM.out
   have hwr : w.heap.size ≤ wr.heap.size := hM1.size
   have HBAR := Lib.hid (show barF x.kids.lays m i = (linksF (altF x.kids.lays m i).1.states (altF x.kids.lays m i).2 ((altF x.kids.lays m i).1.state 0), (altF x.kids.lays m i).1.states) from rfl)
   have HC := Lib.hid (lstate_go base g S1 _ 0 wr hL1 (by omega) HF.out.1.1)
   have HM1 := Lib.hid hM1
   have HN1 := Lib.hid hN1
   rw [HEL.out] at hE1
   have HE1 := Lib.hid hE1
   clear hV HM hL1 hM1 hN1 hsz
   clear hE1
   generalize (altF x.kids.lays m i).1 = m1 at *
   generalize (altF x.kids.lays m i).2 = es at *
   go_wp2_with fail
   refine HC.out.mono ?_
   rintro e w2 ⟨rfl, S2, hL2, hM2⟩
   have hE2 := ownsRow_block HE1.out (fun k hk => hM2.kept k (HE1.out.lt k hk).2 (HN1.out k hk))
   have hN2 : ∀ b, (Value.slice Av x.kids.len capv).ownBlock = some b → ¬ S2 b := fun b hb => hM2.notIn (HE1.out.lt b hb).2 (HN1.out b hb)
   have HR0 := Lib.hid (show ∃ S', LayAt w2 base g S' (m1.state 0) ∧ Moves base S w S' w2 ∧ w2.ownsRow w.heap.size 3 1 (.slice Av x.kids.len capv) x.kids.len (accCells es) ∧ ∀ b, (Value.slice Av x.kids.len capv).ownBlock = some b → ¬ S' b from ⟨S2, hL2, HM1.out.trans hM2, hE2, hN2⟩)
   clear hE2 hN2 hL2 hM2 HM1 HE1 HN1 HC
   dsimp only
   go_wp2
   go_loopw [32] (fun i' wr => ∃ k : Nat, i' = .int .i64 (k : Int) ∧ k ≤ x.kids.len ∧ Hid (∃ S', LayAt wr base g S' (linksF m1.states (es.take k) (m1.state 0)) ∧ Moves base S w S' wr ∧ wr.ownsRow w.heap.size 3 1 (.slice Av x.kids.len capv) x.kids.len (accCells es) ∧ ∀ b, (Value.slice Av x.kids.len capv).ownBlock = some b → ¬ S' b)) (fun i' _ => x.kids.len - (intOf i').toNat)
   case atStart => exact ⟨0, rfl, Nat.zero_le _, HR0⟩
   case round =>
    clear HR0
    obtain ⟨k, rfl, hk, HR⟩ := hrel
    by_cases hlt : k < x.kids.len
    ·obtain ⟨a, ha⟩ : ∃ a, es[k]? = some a := ⟨_, List.getElem?_eq_getElem (by rw [HEL.out]; exact hlt)⟩
     obtain ⟨S1, hL1, hM1, hE1, hN1⟩ := HR.out
     obtain ⟨b, capb, hv, _, hbl⟩ := own_form hE1 (by omega)
     have hce := hE1.cells (g := b) (by rw [hv]; rfl) k _ (accCells_get es k a ha)
     cases hv
     rw [addr_plusE] at hce
     have hdl : (k : Int) < (x.kids.len : Int) := by omega
     have hwr2 : w.heap.size ≤ wr.heap.size := hM1.size
     have hts := take_snocF ha
     have hfl := HF.out.2.2.of (linksF_part m1.states es k (m1.state 0))
     have HC := Lib.hid (llink_go base g S1 _ a m1.states wr hL1 (by omega) hfl.2.1)
     have HQ := Lib.hid (show _ ∧ _ ∧ _ from ⟨hM1, hE1, hN1⟩)
     have HTS := Lib.hid hts
     clear ha hL1 hM1 hE1 hN1 hts hfl HR
     go_wp2_with fail
     refine HC.out.mono ?_
     rintro e w5 ⟨rfl, S5, hL5, hM5⟩
     have HQ5 := Lib.hid (show ∃ S', LayAt w5 base g S' _ ∧ Moves base S w S' w5 ∧ w5.ownsRow w.heap.size 3 1 (.slice (some ⟨b, 0, none⟩) x.kids.len capv) x.kids.len (accCells es) ∧ ∀ b', (Value.slice (some ⟨b, 0, none⟩) x.kids.len capv).ownBlock = some b' → ¬ S' b' from ⟨S5, hL5, HQ.out.1.trans hM5, ownsRow_block HQ.out.2.1 (fun k hk => hM5.kept k (HQ.out.2.1.lt k hk).2 (HQ.out.2.2 k hk)), fun b hb => hM5.notIn (HQ.out.2.1.lt b hb).2 (HQ.out.2.2 b hb)⟩)
     clear hL5 hM5 HC hce HQ
     dsimp only
     go_wp2
     go_roundw
     case rel => exact ⟨k + 1, by go_num, by omega, by rw [HTS.out, linksF_snoc]; exact HQ5⟩
     case measure => simp [intOf]; omega
    ·obtain rfl : k = x.kids.len := by omega
     have hdl : ¬ ((x.kids.len : Int) < (x.kids.len : Int)) := by omega
     have hV : es.take x.kids.len = es := by rw [← HEL.out, List.take_length]
     rw [hV] at HR
     clear hV
     go_wp2
     go_light
     go_ret
     obtain ⟨S1, hL1, hM1, _, _⟩ := HR.out
     refine ⟨?_, S1, by rw [HBAR.out]; exact hL1, hM1⟩
     rw [HBAR.out]
     rfl
structure NfaV where
 states : Int
 start : Int
 links : List (Int × Int)
 edges : List (Int × Nat × Int)
 accept : List Int
def LinksAt (w : World) (A : Option Addr) (L : List (Int × Int)) : Prop := ∀ (i : Nat) (p : Int × Int), L[i]? = some p → ∃ b o, A = some ⟨b, o, none⟩ ∧ w.cell? ⟨b, o + i * 2, none⟩ = some (.int .i64 p.1) ∧ w.cell? ⟨b, o + i * 2 + 1, none⟩ = some (.int .i64 p.2)
def EdgesAt (w : World) (A : Option Addr) (L : List (Int × Nat × Int)) : Prop := ∀ (i : Nat) (p : Int × Nat × Int), L[i]? = some p → ∃ b o, A = some ⟨b, o, none⟩ ∧ w.cell? ⟨b, o + i * 6, none⟩ = some (.int .i64 p.1) ∧
 w.cell? ⟨b, o + i * 6 + 1, none⟩ = some (.int .u64 (word p.2.1.testBit 0)) ∧ w.cell? ⟨b, o + i * 6 + 2, none⟩ = some (.int .u64 (word p.2.1.testBit 1)) ∧ w.cell? ⟨b, o + i * 6 + 3, none⟩ = some (.int .u64 (word p.2.1.testBit 2)) ∧ w.cell? ⟨b, o + i * 6 + 4, none⟩ = some (.int .u64 (word p.2.1.testBit 3)) ∧
 w.cell? ⟨b, o + i * 6 + 5, none⟩ = some (.int .i64 p.2.2)
def IntsAt (w : World) (A : Option Addr) (L : List Int) : Prop := ∀ (i : Nat) (a : Int), L[i]? = some a → ∃ b o, A = some ⟨b, o, none⟩ ∧ w.cell? ⟨b, o + i, none⟩ = some (.int .i64 a)
theorem LinksAt.below {w w' : World} {A : Option Addr} {L : List (Int × Int)} (h : LinksAt w A L) (hb : Below w.heap.size w w') : LinksAt w' A L := fun i p hp => by
 obtain ⟨b, o, hA, h0, h1⟩ := h i p hp
 have hl : b < w.heap.size := World.block_lt_of_cell? w _ h0
 exact ⟨b, o, hA, (hb.cell (p := ⟨b, _, none⟩) hl).trans h0, (hb.cell (p := ⟨b, _, none⟩) hl).trans h1⟩
theorem EdgesAt.below {w w' : World} {A : Option Addr} {L : List (Int × Nat × Int)} (h : EdgesAt w A L) (hb : Below w.heap.size w w') : EdgesAt w' A L := fun i p hp => by
 obtain ⟨b, o, hA, h0, h1, h2, h3, h4, h5⟩ := h i p hp
 have hl : b < w.heap.size := World.block_lt_of_cell? w _ h0
 exact ⟨b, o, hA, (hb.cell (p := ⟨b, _, none⟩) hl).trans h0, (hb.cell (p := ⟨b, _, none⟩) hl).trans h1, (hb.cell (p := ⟨b, _, none⟩) hl).trans h2, (hb.cell (p := ⟨b, _, none⟩) hl).trans h3, (hb.cell (p := ⟨b, _, none⟩) hl).trans h4, (hb.cell (p := ⟨b, _, none⟩) hl).trans h5⟩
theorem IntsAt.below {w w' : World} {A : Option Addr} {L : List Int} (h : IntsAt w A L) (hb : Below w.heap.size w w') : IntsAt w' A L := fun i p hp => by
 obtain ⟨b, o, hA, h0⟩ := h i p hp
 have hl : b < w.heap.size := World.block_lt_of_cell? w _ h0
 exact ⟨b, o, hA, (hb.cell (p := ⟨b, _, none⟩) hl).trans h0⟩
structure NfaAt (w : World) (N : NfaV) (A1 A2 A3 : Option Addr) : Prop where
 l : LinksAt w A1 N.links
 e : EdgesAt w A2 N.edges
 a : IntsAt w A3 N.accept
 ll : N.links.length ≤ 140737488355328
 el : N.edges.length ≤ 140737488355328
 al : N.accept.length ≤ 140737488355328
theorem NfaAt.below {w w' : World} {N : NfaV} {A1 A2 A3 : Option Addr} (h : NfaAt w N A1 A2 A3) (hb : Below w.heap.size w w') : NfaAt w' N A1 A2 A3 := ⟨h.l.below hb, h.e.below hb, h.a.below hb, h.ll, h.el, h.al⟩
@[inline] def nfA (N : NfaV) (A1 : Option Addr) (k1 : Nat) (A2 : Option Addr) (k2 : Nat) (A3 : Option Addr) (k3 : Nat) : Array Value := #[.int .i64 N.states, .int .i64 N.start, .slice A1 N.links.length k1, .slice A2 N.edges.length k2, .slice A3 N.accept.length k3]
def isB (n s : Int) : Bool := decide (0 ≤ s) && decide (s < n)
theorem isB_iff {n s : Int} : isB n s = true ↔ 0 ≤ s ∧ s < n := by unfold isB; rw [Bool.and_eq_true, decide_eq_true_eq, decide_eq_true_eq]
theorem isB_no {n s : Int} : isB n s = false ↔ s < 0 ∨ n ≤ s := by
 rw [← Bool.not_eq_true, isB_iff]; omega
def linkB (n : Int) (p : Int × Int) : Bool := isB n p.1 && isB n p.2
def edgeB (n : Int) (p : Int × Nat × Int) : Bool := isB n p.1 && isB n p.2.2
def accB (a : Int) : Bool := decide (0 ≤ a) && decide (a ≤ 64)
theorem accB_no {a : Int} : accB a = false ↔ a < 0 ∨ 64 < a := by
 rw [← Bool.not_eq_true]; unfold accB; rw [Bool.and_eq_true, decide_eq_true_eq, decide_eq_true_eq]; omega
def rightN (N : NfaV) : Bool := decide (N.states ≤ 65536) && (isB N.states N.start && (decide ((N.accept.length : Int) = N.states) && (N.links.all (linkB N.states) && (N.edges.all (edgeB N.states) && N.accept.all accB))))
theorem rightN_head {N : NfaV} (h : ¬ (N.states ≤ 65536 ∧ isB N.states N.start = true ∧ (N.accept.length : Int) = N.states)) : rightN N = false := by
 rw [← Bool.not_eq_true]
 unfold rightN
 simp only [Bool.and_eq_true, decide_eq_true_eq]
 exact fun ⟨a, b, c, _⟩ => h ⟨a, b, c⟩
theorem rightN_tail {N : NfaV} (h1 : N.states ≤ 65536) (h2 : isB N.states N.start = true) (h3 : (N.accept.length : Int) = N.states) : rightN N = (N.links.all (linkB N.states) && (N.edges.all (edgeB N.states) && N.accept.all accB)) := by
 unfold rightN
 rw [decide_eq_true h1, h2, decide_eq_true h3]
 rfl
theorem all_no {α : Type} {l : List α} {f : α → Bool} {k : Nat} {x : α} (hx : l[k]? = some x) (hf : f x = false) : l.all f = false := List.all_eq_false.2 ⟨x, List.mem_of_getElem? hx, by rw [hf]; decide⟩
theorem all_yes {α : Type} {l : List α} {f : α → Bool} (h : ∀ (j : Nat) (x : α), j < l.length → l[j]? = some x → f x = true) : l.all f = true := List.all_eq_true.2 (fun x hx => by
 obtain ⟨j, hj, e⟩ := List.getElem_of_mem hx
 exact h j x hj (by rw [List.getElem?_eq_getElem hj, e]))
theorem is_go (s n : Int) (g : Nat) (w : World) (hg : w.cell? ⟨g, 0, none⟩ = some (.int .i64 n)) :
  Calls Tryz.prog 126 #[.int .i64 s, .pointer (some ⟨g, 0, none⟩)] w fun e w' => e = .returned (.bool (isB n s)) ∧ w = w' := by
 cases hv : isB n s with
 | true =>
  obtain ⟨h0, h1⟩ := isB_iff.1 hv
  clear hv
  go_enter Tryz.func126, Tryz.ntmps126
  go_wp2
  go_ret
  exact ⟨rfl, rfl⟩
 | false =>
  have h := isB_no.1 hv
  clear hv
  rcases Int.lt_or_le s 0 with h0 | h0
  ·have hd : decide ((0 : Int) ≤ s) = false := decide_eq_false (by omega)
   clear h
   go_enter Tryz.func126, Tryz.ntmps126
   go_wp2
   go_ret
   exact ⟨rfl, rfl⟩
  ·have hd : decide (s < n) = false := decide_eq_false (by omega)
   clear h
   go_enter Tryz.func126, Tryz.ntmps126
   go_wp2
   go_ret
   exact ⟨rfl, rfl⟩
theorem out_go (a : Int) (w : World) :
  Calls Tryz.prog 128 #[.int .i64 a] w fun e w' => e = .returned (.bool (!accB a)) ∧ w = w' := by
 cases hv : accB a with
 | true =>
  have hv2 := hv
  unfold accB at hv2
  rw [Bool.and_eq_true, decide_eq_true_eq, decide_eq_true_eq] at hv2
  obtain ⟨h0, h1⟩ := hv2
  have hd : decide ((64 : Int) < a) = false := decide_eq_false (by omega)
  have hd2 : decide (a < (0 : Int)) = false := decide_eq_false (by omega)
  clear hv
  go_enter Tryz.func128, Tryz.ntmps128
  go_wp2
  go_ret
  exact ⟨rfl, rfl⟩
 | false =>
  have h := accB_no.1 hv
  clear hv
  rcases Int.lt_or_le a 0 with h0 | h0
  ·clear h
   go_enter Tryz.func128, Tryz.ntmps128
   go_wp2
   go_ret
   exact ⟨rfl, rfl⟩
  ·have hd : decide (a < (0 : Int)) = false := decide_eq_false (by omega)
   have hd2 : (64 : Int) < a := by omega
   clear h
   go_enter Tryz.func128, Tryz.ntmps128
   go_wp2
   go_ret
   exact ⟨rfl, rfl⟩
def IdxAcc (l : List Int) (w : World) (e : Ending) (w' : World) : Prop := ∃ v : Int, e = .returned (.int .i64 v) ∧ ((l.all accB = true ∧ v = -1) ∨ (l.all accB = false ∧ 0 ≤ v)) ∧ w = w'
theorem idxacc_go (A : Option Addr) (cap : Nat) (xs : List Int) (w : World) (hl : xs.length ≤ 140737488355328) (hA : IntsAt w A xs) :
  Calls Tryz.prog 164 #[.slice A xs.length cap, .func (.func 128) #[] #[]] w (IdxAcc xs w) := by
 have HA := Lib.hid hA
 clear hA
 go_enter Tryz.func164, Tryz.ntmps164
 go_wp2
 go_loop [8] (fun i' => ∃ k : Nat, i' = .int .i64 (k : Int) ∧ k ≤ xs.length ∧ Hid (∀ j z, j < k → xs[j]? = some z → accB z = true)) (fun i' => xs.length - (intOf i').toNat)
 case atStart => exact ⟨0, rfl, Nat.zero_le _, Lib.hid (fun j z hj => by omega)⟩
 case round =>
  obtain ⟨k, rfl, hk, HR⟩ := hrel
  by_cases hlt : k < xs.length
  ·obtain ⟨a, ha⟩ : ∃ a, xs[k]? = some a := ⟨_, List.getElem?_eq_getElem hlt⟩
   obtain ⟨b, o, rfl, c0⟩ := HA.out k a ha
   have hdl : (k : Int) < (xs.length : Int) := by omega
   have HI := Lib.hid (out_go a w)
   have HZ := Lib.hid ha
   clear ha
   cases hv : accB a with
   | true =>
    rw [hv] at HI
    have HV := Lib.hid hv
    clear hv
    go_wp2_with fail
    refine HI.out.mono ?_
    rintro e w3 ⟨rfl, rfl⟩
    clear HI c0
    dsimp only
    go_wp2
    go_round
    case rel => exact ⟨k + 1, by go_num, by omega, Lib.hid (fun j y hj hy => by
     rcases Nat.lt_or_ge j k with h | h
     ·exact HR.out j y h hy
     ·obtain rfl : j = k := by omega
      rw [HZ.out] at hy
      cases hy
      exact HV.out)⟩
    case measure => simp [intOf]; omega
   | false =>
    rw [hv] at HI
    have HV := Lib.hid hv
    clear hv
    go_wp2_with fail
    refine HI.out.mono ?_
    rintro e w3 ⟨rfl, rfl⟩
    clear HI c0
    dsimp only
    go_wp2
    go_ret
    exact ⟨k, rfl, .inr ⟨all_no HZ.out HV.out, by omega⟩, rfl⟩
  ·obtain rfl : k = xs.length := by omega
   have hdl : ¬ ((xs.length : Int) < (xs.length : Int)) := by omega
   go_wp2
   go_ret
   exact ⟨-1, rfl, .inl ⟨all_yes (fun j x hj hx => HR.out j x hj hx), rfl⟩, rfl⟩
theorem hasacc_go (A : Option Addr) (cap : Nat) (xs : List Int) (w : World) (hl : xs.length ≤ 140737488355328) (hA : IntsAt w A xs) :
  Calls Tryz.prog 127 #[.slice A xs.length cap, .func (.func 128) #[] #[]] w fun e w' => e = .returned (.bool (!xs.all accB)) ∧ w = w' := by
 have HI := Lib.hid (idxacc_go A cap xs w hl hA)
 clear hA
 go_enter Tryz.func127, Tryz.ntmps127
 go_wp2_with fail
 refine HI.out.mono ?_
 rintro e w3 ⟨v, rfl, hv, rfl⟩
 clear HI
 rcases hv with ⟨h1, rfl⟩ | ⟨h1, h2⟩
 ·have HV := Lib.hid h1
  clear h1
  dsimp only
  go_wp2
  go_ret
  exact ⟨by rw [HV.out]; rfl, rfl⟩
 ·have HV := Lib.hid h1
  clear h1
  dsimp only
  go_wp2
  go_ret
  exact ⟨by rw [HV.out]; exact ret_b (by simp [h2]), rfl⟩
def intsC (l : List Int) : List Value := l.map (Value.int .i64)
theorem intsC_snoc (l : List Int) (a : Int) : intsC (l ++ [a]) = intsC l ++ [.int .i64 a] := by simp [intsC]
theorem addr_plusC (b o j : Nat) : (⟨b, o, none⟩ : Addr).add j = ⟨b, o + j, none⟩ := by unfold Addr.add; split <;> simp_all
theorem own_intsC {w : World} {base n : Nat} {A : Option Addr} {k : Nat} {l : List Int} (h : w.ownsRow base 3 1 (.slice A n k) l.length (intsC l)) : IntsAt w A l := fun i a ha => by
 have hi := (List.getElem?_eq_some_iff.1 ha).1
 obtain ⟨g, c, e, _, _⟩ := own_form h (by omega)
 cases e
 have d0 := h.cells (g := g) rfl i (.int .i64 a) (by unfold intsC; rw [List.getElem?_map, ha]; rfl)
 rw [addr_plusC] at d0
 exact ⟨g, 0, rfl, d0⟩
theorem info_intC : (Tryz.prog.info? 3).map (fun i => (i.zero, i.size, i.bytes)) = some (some (.int .i64 0), 1, 8) := by kernel_rfl
theorem append_own_ints (w : World) (base : Nat) (v : Value) (acc : List Int) (hown : w.ownsRow base 3 1 v acc.length (intsC acc)) {A : Option Addr} (c : Nat) {L : List Int} (hA : IntsAt w A L) (hs : acc.length + L.length ≤ 10000000000000) (hbase : base ≤ w.heap.size)
  (t ty : TypeId) (ht : Tryz.prog.underlying t = some (.slice 3)) :
  ∃ v' w', (Builtin.append_ #[t, t] ty #[v, .slice A L.length c]).run Tryz.prog w = .ok v' w' ∧ w'.ownsRow base 3 1 v' (acc ++ L).length (intsC (acc ++ L)) ∧ w.grownBy w' v.ownBlock := by
 obtain ⟨i0, hi, hz0, hz1, hz2⟩ := info_parts info_intC
 have h63 : acc.length + L.length ≤ maxLen := Nat.le_trans hs (by decide)
 have hby : (acc.length + L.length) * 8 ≤ 140737488355328 := by omega
 cases A with
 | none =>
  have h0 : L = [] := by
   cases L with
   | nil => rfl
   | cons a l =>
    obtain ⟨b, o, e, _⟩ := hA 0 a rfl
    cases e
  subst h0
  refine ⟨v, w, ?_, by simpa using hown, ⟨rfl, rfl, rfl, Nat.le_refl _, fun _ _ _ => rfl⟩⟩
  rcases hown.2 with ⟨rfl, _⟩ | ⟨g, cap, cur, rfl, _, _, hnc, _⟩
  ·simp [Builtin.append_, run_underlying ht, sizeOf, typeInfo, hi, Builtin.lenOf, Builtin.firstCells]
  ·simp [Builtin.append_, run_underlying ht, sizeOf, typeInfo, hi, Builtin.lenOf, Builtin.firstCells, hnc, storeCells]
 | some a =>
  have hcells : ∀ j u, (intsC L)[j]? = some u → w.cell? (a.add j) = some u := fun j u hj => by
   unfold intsC at hj
   rw [List.getElem?_map] at hj
   cases hx : L[j]? with
   | none => rw [hx] at hj; cases hj
   | some x =>
    rw [hx] at hj
    obtain ⟨b, o, e, h0⟩ := hA j x hx
    cases e
    rw [addr_plusC, h0]
    exact hj
  obtain ⟨v', w', h1, h2, h3, _⟩ := run_append_own_at (P := Tryz.prog) w base t ty 3 i0 _ 1 8 ht hi hz0 hz1 hz2 rfl (by decide) v acc.length _ hown a L.length c (intsC L) (by simp [intsC]) hcells (fun u hu => by obtain ⟨_, _, rfl⟩ := List.mem_map.1 hu; rfl) h63 hby hbase
  exact ⟨v', w', h1, by rw [List.length_append, show intsC (acc ++ L) = intsC acc ++ intsC L from List.map_append]; exact h2, h3⟩
theorem rsame17_go (A B : Option Addr) (ca cb : Nat) (L M : List Int) (w : World) (hA : IntsAt w A L) (hB : IntsAt w B M) (hl : L.length ≤ 100000000) (hca : L.length ≤ ca) (hcb : M.length ≤ cb) :
  Calls Tryz.prog 101 #[.slice A L.length ca, .slice B M.length cb] w fun e w' => e = .returned (.bool (decide (L = M))) ∧ Below w.heap.size w w' := by
 have HA := Lib.hid hA
 have HB := Lib.hid hB
 clear hA hB
 by_cases hlen : L.length = M.length
 ·rw [← hlen] at hcb ⊢
  have HLen := Lib.hid hlen
  clear hlen
  go_enter Tryz.func101, Tryz.ntmps101
  go_wp2
  go_loopw [5] (fun i wr => ∃ k : Nat, k ≤ L.length ∧ Hid (∀ j, j < k → L[j]? = M[j]?) ∧ i = .int .i64 (k : Int) ∧ Hid (Below w.heap.size w wr)) (fun i _ => L.length - (intOf i).toNat)
  case atStart => exact ⟨0, Nat.zero_le _, Lib.hid (fun j h => by omega), rfl, Lib.hid (Below.refl _ _)⟩
  case round =>
   obtain ⟨k, hk, HK, rfl, HW⟩ := hrel
   by_cases hlt : k < L.length
   ·have hlt2 : k < M.length := by have := HLen.out; omega
    obtain ⟨a, hr⟩ : ∃ a, L[k]? = some a := ⟨_, List.getElem?_eq_getElem hlt⟩
    obtain ⟨c, hr2⟩ : ∃ c, M[k]? = some c := ⟨_, List.getElem?_eq_getElem hlt2⟩
    obtain ⟨b, o, rfl, hc⟩ := (HA.out.below HW.out) k a hr
    obtain ⟨b2, o2, rfl, hc2⟩ := (HB.out.below HW.out) k c hr2
    have HR := Lib.hid hr
    have HR2 := Lib.hid hr2
    have hd1 : (k : Int) < (L.length : Int) := by omega
    have hd2 : (k : Int) ≤ (ca : Int) := by omega
    have hd3 : (k : Int) < (ca : Int) := by omega
    have hd4 : (k : Int) < (cb : Int) := by omega
    have HW2 := Lib.hid HW.out.drew
    by_cases he : a = c
    ·have HV := Lib.hid (show ∀ j, j < k + 1 → L[j]? = M[j]? from fun j hj => by
      rcases Nat.lt_or_ge j k with h | h
      ·exact HK.out j h
      ·obtain rfl : j = k := by omega
       rw [HR.out, HR2.out, he])
     have hs : (a != c) = false := by simpa using he
     clear hr hr2 he hlt2
     go_wp2_with fail
     go_region
     go_wp2
     go_light
     go_roundw
     case rel => exact ⟨k + 1, by omega, HV, by go_num, HW2⟩
     case measure => simp [intOf]; omega
    ·have HV := Lib.hid (show decide (L = M) = false from decide_eq_false (fun e => he (by
      have h1 := HR.out
      rw [e, HR2.out] at h1
      exact (Option.some.inj h1).symm)))
     have hs : (a != c) = true := by simpa using he
     clear hr hr2 he hlt2
     go_wp2_with fail
     go_region
     go_wp2
     go_light
     go_ret
     exact ⟨ret_b HV.out.symm, HW2.out⟩
   ·have HV := Lib.hid (show decide (L = M) = true from decide_eq_true (List.ext_getElem? fun j => by
     rcases Nat.lt_or_ge j L.length with h | h
     ·exact HK.out j (by omega)
     ·rw [List.getElem?_eq_none h, List.getElem?_eq_none (by have := HLen.out; omega)]))
    go_wp2
    go_light
    go_ret
    exact ⟨ret_b HV.out.symm, HW.out⟩
 ·have HV := Lib.hid (show decide (L = M) = false from decide_eq_false (fun e => hlen (by rw [e])))
  have hs : ((L.length : Int) != (M.length : Int)) = true := by simp; omega
  go_enter Tryz.func101, Tryz.ntmps101
  go_wp2
  go_light
  go_ret
  exact ⟨ret_b HV.out.symm, Below.refl _ _⟩
end Go.Proofs.YtofbfafnpdaejaaGreatDoor
namespace Go.Proofs.YtofbfafnpdaejaaGreatDoor
set_option linter.unusedSimpArgs false
set_option linter.unusedVariables false
set_option maxHeartbeats 8000000
theorem testBit_split (a b j : Nat) (ha : a < 256) : (a + 256 * b).testBit j = if j < 8 then a.testBit j else b.testBit (j - 8) := by
 rw [Nat.add_comm, show (256 : Nat) = 2 ^ 8 from rfl]
 exact Nat.testBit_two_pow_mul_add b ha j
theorem land_split (x m n : Nat) (hm : m < 256) : x &&& (m + 256 * n) = ((x % 256) &&& m) + 256 * ((x / 256) &&& n) := by
 apply Nat.eq_of_testBit_eq
 intro j
 have h1 : (x % 256) &&& m < 256 := Nat.and_lt_two_pow (n := 8) _ hm
 rw [testBit_split _ _ _ h1, Nat.testBit_and, testBit_split _ _ _ hm]
 by_cases hj : j < 8
 ·rw [if_pos hj, if_pos hj, Nat.testBit_and, show (256 : Nat) = 2 ^ 8 from rfl, Nat.testBit_mod_two_pow]
  simp [hj]
 ·rw [if_neg hj, if_neg hj, Nat.testBit_and, show (256 : Nat) = 2 ^ 8 from rfl, Nat.testBit_div_two_pow]
  congr 2
  omega
def mask (m : Nat) : Nat → Nat
 | 0 => 0
 | n + 1 => m + 256 * mask m n
def s1 (n x : Nat) : Nat := ((x / 2) &&& mask 0x55 n) + (x &&& mask 0x55 n)
def s2 (n x : Nat) : Nat := ((x / 4) &&& mask 0x33 n) + (x &&& mask 0x33 n)
def s3 (n x : Nat) : Nat := (x / 16 + x) &&& mask 0x0f n
def f1 (b : Nat) : Nat := ((b / 2) &&& 0x55) + (b &&& 0x55)
def f2 (b : Nat) : Nat := ((b / 4) &&& 0x33) + (b &&& 0x33)
def f3 (b : Nat) : Nat := (b / 16 + b) &&& 0x0f
theorem cross1 : ∀ y : Fin 512, (y.val / 2) &&& 0x55 = (y.val % 256 / 2) &&& 0x55 := by decide +kernel
theorem cross2 : ∀ y : Fin 1024, (y.val / 4) &&& 0x33 = (y.val % 256 / 4) &&& 0x33 := by decide +kernel
theorem s1_step (n x : Nat) : s1 (n + 1) x = f1 (x % 256) + 256 * s1 n (x / 256) := by
 unfold s1 f1
 rw [show mask 0x55 (n + 1) = 0x55 + 256 * mask 0x55 n from rfl, land_split _ _ _ (by decide), land_split _ _ _ (by decide)]
 have h := cross1 ⟨x % 512, Nat.mod_lt _ (by decide)⟩
 dsimp only at h
 rw [show x / 2 % 256 = x % 512 / 2 by omega, h, show x % 512 % 256 = x % 256 by omega, show x / 2 / 256 = x / 256 / 2 by omega]
 omega
theorem s2_step (n x : Nat) : s2 (n + 1) x = f2 (x % 256) + 256 * s2 n (x / 256) := by
 unfold s2 f2
 rw [show mask 0x33 (n + 1) = 0x33 + 256 * mask 0x33 n from rfl, land_split _ _ _ (by decide), land_split _ _ _ (by decide)]
 have h := cross2 ⟨x % 1024, Nat.mod_lt _ (by decide)⟩
 dsimp only at h
 rw [show x / 4 % 256 = x % 1024 / 4 by omega, h, show x % 1024 % 256 = x % 256 by omega, show x / 4 / 256 = x / 256 / 4 by omega]
 omega
theorem cross3 : ∀ y : Fin 69, ∀ t : Fin 5, (y.val / 16 + y.val + 16 * t.val) &&& 0x0f = (y.val / 16 + y.val) &&& 0x0f := by decide +kernel
theorem s3_step (n x : Nat) (h1 : x % 256 < 69) (h2 : x / 256 % 16 < 5) : s3 (n + 1) x = f3 (x % 256) + 256 * s3 n (x / 256) := by
 unfold s3 f3
 rw [show mask 0x0f (n + 1) = 0x0f + 256 * mask 0x0f n from rfl, land_split _ _ _ (by decide)]
 have h := cross3 ⟨x % 256, h1⟩ ⟨x / 256 % 16, h2⟩
 dsimp only at h
 rw [show (x / 16 + x) % 256 = x % 256 / 16 + x % 256 + 16 * (x / 256 % 16) by omega, h, show (x / 16 + x) / 256 = x / 256 / 16 + x / 256 by omega]
theorem f1_lt : ∀ b : Fin 256, f1 b.val < 256 := by decide +kernel
theorem f2f1_lt : ∀ b : Fin 256, f2 (f1 b.val) < 69 ∧ f2 (f1 b.val) % 16 < 5 := by decide +kernel
def pop (b : Nat) : Nat := f3 (f2 (f1 b))
theorem pop_le : ∀ b : Fin 256, pop b.val ≤ 8 := by decide +kernel
def cnts : Nat → Nat → Nat
 | 0, _ => 0
 | n + 1, x => pop (x % 256) + 256 * cnts n (x / 256)
theorem s123 : ∀ (n x : Nat), s3 n (s2 n (s1 n x)) = cnts n x ∧ (0 < n → s2 n (s1 n x) % 16 < 5)
 | 0, x => by simp [s3, s2, s1, mask, cnts]
 | n + 1, x => by
  obtain ⟨ih, ihn⟩ := s123 n (x / 256)
  have hb : x % 256 < 256 := Nat.mod_lt _ (by decide)
  have a1 := f1_lt ⟨x % 256, hb⟩
  have a2 := f2f1_lt ⟨x % 256, hb⟩
  dsimp only at a1 a2
  have e2 : s2 (n + 1) (s1 (n + 1) x) = f2 (f1 (x % 256)) + 256 * s2 n (s1 n (x / 256)) := by
   rw [s2_step, s1_step, show (f1 (x % 256) + 256 * s1 n (x / 256)) % 256 = f1 (x % 256) by omega, show (f1 (x % 256) + 256 * s1 n (x / 256)) / 256 = s1 n (x / 256) by omega]
  refine ⟨?_, fun _ => by rw [e2]; omega⟩
  have hz : s2 n (s1 n (x / 256)) % 16 < 5 := by
   rcases Nat.eq_zero_or_pos n with h0 | h0
   ·subst h0; simp [s2, s1, mask]
   ·exact ihn h0
  rw [e2, s3_step _ _ (by omega) (by rw [show (f2 (f1 (x % 256)) + 256 * s2 n (s1 n (x / 256))) / 256 = s2 n (s1 n (x / 256)) by omega]; exact hz),
   show (f2 (f1 (x % 256)) + 256 * s2 n (s1 n (x / 256))) % 256 = f2 (f1 (x % 256)) by omega, show (f2 (f1 (x % 256)) + 256 * s2 n (s1 n (x / 256))) / 256 = s2 n (s1 n (x / 256)) by omega, ih]
  rfl
def cnt (p : Nat → Bool) : Nat → Nat
 | 0 => 0
 | n + 1 => cnt p n + (p n).toNat
theorem cnt_le (p : Nat → Bool) : ∀ n, cnt p n ≤ n
  | 0 => Nat.le_refl _
  | n + 1 => by have := cnt_le p n; have : (p n).toNat ≤ 1 := by cases p n <;> decide
                unfold cnt; omega
theorem cnt_congr {p q : Nat → Bool} : ∀ n, (∀ k, k < n → p k = q k) → cnt p n = cnt q n
 | 0, _ => rfl
 | n + 1, h => by unfold cnt; rw [cnt_congr n (fun k hk => h k (by omega)), h n (by omega)]
theorem cnt_add (p : Nat → Bool) (m : Nat) : ∀ n, cnt p (m + n) = cnt p m + cnt (fun k => p (m + k)) n
 | 0 => by simp [cnt]
 | n + 1 => by rw [← Nat.add_assoc]; show cnt p (m + n) + (p (m + n)).toNat = cnt p m + (cnt (fun k => p (m + k)) n + (p (m + n)).toNat); rw [cnt_add p m n]; omega
theorem pop_cnt : ∀ b : Fin 256, pop b.val = cnt b.val.testBit 8 := by decide +kernel
def sums : Nat → Nat → Nat
 | 0, _ => 0
 | n + 1, x => pop (x % 256) + sums n (x / 256)
theorem sums_cnt : ∀ (n x : Nat), sums n x = cnt x.testBit (8 * n)
 | 0, x => rfl
 | n + 1, x => by
  unfold sums
  rw [sums_cnt n, pop_cnt ⟨x % 256, Nat.mod_lt _ (by decide)⟩, show 8 * (n + 1) = 8 + 8 * n by omega, cnt_add]
  dsimp only
  congr 1
  ·apply cnt_congr
   intro k hk
   rw [show (256 : Nat) = 2 ^ 8 from rfl, Nat.testBit_mod_two_pow]
   simp [hk]
  ·apply cnt_congr
   intro k _
   rw [show (256 : Nat) = 2 ^ 8 from rfl, Nat.testBit_div_two_pow, Nat.add_comm]
def fold3 (z : Nat) : Nat := let u := z + z / 256; let v := u + u / 65536; (v + v / 4294967296) % 128
theorem d1 {a b : Nat} (h : a < 256) : (a + 256 * b) / 256 = b := by omega
theorem m1 (a b : Nat) : (a + 256 * b) % 128 = a % 128 := by omega
theorem a1 (a b c d : Nat) : (a + 256 * b) + (c + 256 * d) = (a + c) + 256 * (b + d) := by omega
theorem a0 (a b c : Nat) : (a + 256 * b) + c = (a + c) + 256 * b := by omega
theorem fold3_eq (c0 c1 c2 c3 c4 c5 c6 c7 : Nat) (h0 : c0 ≤ 8) (h1 : c1 ≤ 8) (h2 : c2 ≤ 8) (h3 : c3 ≤ 8) (h4 : c4 ≤ 8) (h5 : c5 ≤ 8) (h6 : c6 ≤ 8) (h7 : c7 ≤ 8) :
  fold3 (c0 + 256 * (c1 + 256 * (c2 + 256 * (c3 + 256 * (c4 + 256 * (c5 + 256 * (c6 + 256 * c7))))))) = c0 + c1 + (c2 + c3) + (c4 + c5 + (c6 + c7)) := by
 unfold fold3
 dsimp only
 rw [d1 (show c0 < 256 by omega)]
 have e2 : c0 + 256 * (c1 + 256 * (c2 + 256 * (c3 + 256 * (c4 + 256 * (c5 + 256 * (c6 + 256 * c7)))))) + (c1 + 256 * (c2 + 256 * (c3 + 256 * (c4 + 256 * (c5 + 256 * (c6 + 256 * c7)))))) =
   (c0 + c1) + 256 * ((c1 + c2) + 256 * ((c2 + c3) + 256 * ((c3 + c4) + 256 * ((c4 + c5) + 256 * ((c5 + c6) + 256 * ((c6 + c7) + 256 * c7)))))) := by
  simp only [Nat.mul_add]; clear h0 h1 h2 h3 h4 h5 h6 h7; omega
 rw [e2, show (65536 : Nat) = 256 * 256 from rfl, ← Nat.div_div_eq_div_mul, d1 (show c0 + c1 < 256 by omega), d1 (show c1 + c2 < 256 by omega)]
 have e3 : (c0 + c1) + 256 * ((c1 + c2) + 256 * ((c2 + c3) + 256 * ((c3 + c4) + 256 * ((c4 + c5) + 256 * ((c5 + c6) + 256 * ((c6 + c7) + 256 * c7)))))) + ((c2 + c3) + 256 * ((c3 + c4) + 256 * ((c4 + c5) + 256 * ((c5 + c6) + 256 * ((c6 + c7) + 256 * c7))))) =
   (c0 + c1 + (c2 + c3)) + 256 * ((c1 + c2 + (c3 + c4)) + 256 * ((c2 + c3 + (c4 + c5)) + 256 * ((c3 + c4 + (c5 + c6)) + 256 * ((c4 + c5 + (c6 + c7)) + 256 * ((c5 + c6 + c7) + 256 * ((c6 + c7) + 256 * c7)))))) := by
  simp only [Nat.mul_add]; clear h0 h1 h2 h3 h4 h5 h6 h7; omega
 rw [e3, show (4294967296 : Nat) = 256 * 256 * 256 * 256 from rfl, ← Nat.div_div_eq_div_mul, ← Nat.div_div_eq_div_mul, ← Nat.div_div_eq_div_mul,
  d1 (show c0 + c1 + (c2 + c3) < 256 by omega), d1 (show c1 + c2 + (c3 + c4) < 256 by omega), d1 (show c2 + c3 + (c4 + c5) < 256 by omega), d1 (show c3 + c4 + (c5 + c6) < 256 by omega)]
 rw [a1, m1]
 omega
theorem fold3_cnts (x : Nat) : fold3 (cnts 8 x) = sums 8 x := by
 have h : ∀ y, pop (y % 256) ≤ 8 := fun y => pop_le ⟨y % 256, Nat.mod_lt _ (by decide)⟩
 have e := fold3_eq _ _ _ _ _ _ _ _ (h x) (h (x / 256)) (h (x / 256 / 256)) (h (x / 256 / 256 / 256)) (h (x / 256 / 256 / 256 / 256)) (h (x / 256 / 256 / 256 / 256 / 256)) (h (x / 256 / 256 / 256 / 256 / 256 / 256)) (h (x / 256 / 256 / 256 / 256 / 256 / 256 / 256))
 simp only [cnts, sums, Nat.mul_zero, Nat.add_zero]
 rw [e]
 simp only [Nat.add_assoc]
end Go.Proofs.YtofbfafnpdaejaaGreatDoor
namespace Go.Proofs.YtofbfafnpdaejaaGreatDoor
open Go.RowKit
set_option linter.unusedSimpArgs false
set_option linter.unusedVariables false
set_option maxRecDepth 100000
set_option maxHeartbeats 8000000
theorem and64 (a M : Nat) (ha : a < 18446744073709551616) (hM : M < 18446744073709551616) : bits .and .u64 (a : Int) (M : Int) = ((a &&& M : Nat) : Int) := u64_and_nat a M ha hM
theorem wrapN (a : Nat) (h : a < 18446744073709551616) : IntKind.u64.wrap (a : Int) = (a : Int) := by rw [IntKind.wrap_u64]; omega
theorem i64_and127 (a : Nat) (ha : a < 9223372036854775808) : bits .and .i64 (a : Int) 127 = ((a % 128 : Nat) : Int) := by
 have hx : a &&& 127 = a % 128 := Nat.and_two_pow_sub_one_eq_mod a 7
 show IntKind.i64.wrap ((BitVec.ofInt 64 (a : Int) &&& BitVec.ofInt 64 (127 : Int)).toNat : Int) = _
 have e1 : (BitVec.ofInt 64 (a : Int)).toNat = a := by rw [BitVec.ofInt_natCast, BitVec.toNat_ofNat]; exact Nat.mod_eq_of_lt (by omega)
 have e2 : (BitVec.ofInt 64 (127 : Int)).toNat = 127 := by decide
 rw [BitVec.toNat_and, e1, e2, hx, IntKind.wrap_i64]
 omega
theorem mask55 : mask 0x55 8 = 6148914691236517205 := by decide
theorem mask33 : mask 0x33 8 = 3689348814741910323 := by decide
theorem mask0f : mask 0x0f 8 = 1085102592571150095 := by decide
theorem st1 (x : Nat) (hx : x < 18446744073709551616) : IntKind.u64.wrap (bits .and .u64 ((x : Int) / 2) 6148914691236517205 + bits .and .u64 (x : Int) 6148914691236517205) = ((s1 8 x : Nat) : Int) ∧ s1 8 x < 18446744073709551616 := by
 have e : ((x : Int) / 2) = ((x / 2 : Nat) : Int) := by omega
 have h1 : (x / 2) &&& 6148914691236517205 ≤ 6148914691236517205 := Nat.and_le_right
 have h2 : x &&& 6148914691236517205 ≤ 6148914691236517205 := Nat.and_le_right
 have b1 := and64 (x / 2) 6148914691236517205 (by omega) (by decide)
 have b2 := and64 x 6148914691236517205 hx (by decide)
 rw [show (((6148914691236517205 : Nat)) : Int) = 6148914691236517205 from rfl] at b1 b2
 unfold s1
 rw [mask55, e, b1, b2, ← Int.natCast_add]
 exact ⟨wrapN _ (by omega), by omega⟩
theorem st2 (x : Nat) (hx : x < 18446744073709551616) : IntKind.u64.wrap (bits .and .u64 ((x : Int) / 4) 3689348814741910323 + bits .and .u64 (x : Int) 3689348814741910323) = ((s2 8 x : Nat) : Int) ∧ s2 8 x ≤ 7378697629483820646 := by
 have e : ((x : Int) / 4) = ((x / 4 : Nat) : Int) := by omega
 have h1 : (x / 4) &&& 3689348814741910323 ≤ 3689348814741910323 := Nat.and_le_right
 have h2 : x &&& 3689348814741910323 ≤ 3689348814741910323 := Nat.and_le_right
 have b1 := and64 (x / 4) 3689348814741910323 (by omega) (by decide)
 have b2 := and64 x 3689348814741910323 hx (by decide)
 rw [show (((3689348814741910323 : Nat)) : Int) = 3689348814741910323 from rfl] at b1 b2
 unfold s2
 rw [mask33, e, b1, b2, ← Int.natCast_add]
 exact ⟨wrapN _ (by omega), by omega⟩
theorem st3 (x : Nat) (hx : x ≤ 7378697629483820646) : bits .and .u64 (IntKind.u64.wrap ((x : Int) / 16 + (x : Int))) 1085102592571150095 = ((s3 8 x : Nat) : Int) ∧ s3 8 x ≤ 1085102592571150095 := by
 have e : ((x : Int) / 16 + (x : Int)) = ((x / 16 + x : Nat) : Int) := by omega
 have b1 := and64 (x / 16 + x) 1085102592571150095 (by omega) (by decide)
 rw [show (((1085102592571150095 : Nat)) : Int) = 1085102592571150095 from rfl] at b1
 unfold s3
 rw [mask0f, e, wrapN _ (by omega), b1]
 exact ⟨rfl, Nat.and_le_right⟩
theorem ones_go (x : Nat) (w : World) (hx : x < 18446744073709551616) :
  Calls Tryz.prog 157 #[.int .u64 (x : Int)] w fun e w' => e = .returned (.int .i64 ((cnt x.testBit 64 : Nat) : Int)) ∧ w = w' := by
 go_enter Tryz.func157, Tryz.ntmps157
 go_wp2
 go_light
 go_ret
 refine ⟨ret_i ?_, rfl⟩
 obtain ⟨e1, l1⟩ := st1 x hx
 obtain ⟨e2, l2⟩ := st2 (s1 8 x) l1
 obtain ⟨e3, l3⟩ := st3 (s2 8 (s1 8 x)) l2
 have ef : fold3 (s3 8 (s2 8 (s1 8 x))) = cnt x.testBit 64 := by rw [(s123 8 x).1, fold3_cnts, sums_cnt]
 rw [e1, e2, e3]
 generalize s3 8 (s2 8 (s1 8 x)) = z at *
 rw [← ef]
 unfold fold3
 dsimp only
 clear e1 e2 e3 l1 l2 ef
 have q1 : ((z : Int) + (z : Int) / 256) = ((z + z / 256 : Nat) : Int) := by omega
 rw [q1, wrapN _ (by omega)]
 generalize hu : z + z / 256 = u
 have lu : u ≤ 2170205185142300190 := by omega
 have q2 : ((u : Int) + (u : Int) / 65536) = ((u + u / 65536 : Nat) : Int) := by omega
 rw [q2, wrapN _ (by omega)]
 generalize hv : u + u / 65536 = v
 have lv : v ≤ 2180205185142300190 := by omega
 have q3 : ((v : Int) + (v : Int) / 4294967296) = ((v + v / 4294967296 : Nat) : Int) := by omega
 rw [q3, wrapN _ (by omega), show wrap64 ((v + v / 4294967296 : Nat) : Int) = ((v + v / 4294967296 : Nat) : Int) by unfold wrap64; omega]
 exact i64_and127 _ (by omega)
theorem cnt_word (p : Nat → Bool) (i : Nat) : cnt (word p i).testBit 64 = cnt (fun k => p (64 * i + k)) 64 :=
 cnt_congr 64 fun k hk => by rw [testBit_word]; simp [hk]
theorem cnt_words (p : Nat → Bool) : cnt (word p 0).testBit 64 + cnt (word p 1).testBit 64 + cnt (word p 2).testBit 64 + cnt (word p 3).testBit 64 = cnt p 256 := by
 rw [cnt_word, cnt_word, cnt_word, cnt_word, show 256 = 64 + (64 + (64 + 64)) from rfl, cnt_add, cnt_add, cnt_add]
 simp only [Nat.mul_zero, Nat.zero_add, ← Nat.add_assoc, Nat.mul_one, show 64 * 2 = 64 + 64 from rfl, show 64 * 3 = 64 + 64 + 64 from rfl]
theorem count_go (p : Nat → Bool) (w : World) :
  Calls Tryz.prog 121 #[.agg #[.int .u64 (word p 0), .int .u64 (word p 1), .int .u64 (word p 2), .int .u64 (word p 3)]] w fun e w' => e = .returned (.int .i64 ((cnt p 256 : Nat) : Int)) ∧ Below w.heap.size w w' := by
 go_enter Tryz.func121, Tryz.ntmps121
 go_wp2
 refine wp_loop_rounds 5 ?_
 rw [rounds_succ]
 go_wp2_with (go_at_call 157; refine (ones_go _ _ (word_lt _ _)).mono ?_; rintro e w2 ⟨rfl, rfl⟩)
 rw [rounds_succ]
 go_wp2_with (go_at_call 157; refine (ones_go _ _ (word_lt _ _)).mono ?_; rintro e w2 ⟨rfl, rfl⟩)
 rw [rounds_succ]
 go_wp2_with (go_at_call 157; refine (ones_go _ _ (word_lt _ _)).mono ?_; rintro e w2 ⟨rfl, rfl⟩)
 rw [rounds_succ]
 go_wp2_with (go_at_call 157; refine (ones_go _ _ (word_lt _ _)).mono ?_; rintro e w2 ⟨rfl, rfl⟩)
 rw [rounds_succ]
 go_wp2
 go_light
 go_ret
 refine ⟨ret_i ?_, (Below.refl _ _).alloc (Nat.le_refl _) _⟩
 have e := cnt_words p
 have l0 := cnt_le (word p 0).testBit 64
 have l1 := cnt_le (word p 1).testBit 64
 have l2 := cnt_le (word p 2).testBit 64
 have l3 := cnt_le (word p 3).testBit 64
 rw [← e]
 unfold wrap64
 omega
theorem nright_big (N : NfaV) (A1 : Option Addr) (k1 : Nat) (A2 : Option Addr) (k2 : Nat) (A3 : Option Addr) (k3 : Nat) (w : World) (hN : NfaAt w N A1 A2 A3) (h : 65536 < N.states) : Calls Tryz.prog 63 #[.agg (nfA N A1 k1 A2 k2 A3 k3)] w fun e w' => e = .returned (.bool (rightN N)) ∧ Below w.heap.size w w' := by
 have hb1 : Below w.heap.size w (w.alloc (.cells (nfA N A1 k1 A2 k2 A3 k3) 40)) := (Below.refl _ _).alloc (Nat.le_refl _) _
 have HB1 := Lib.hid hb1
 have HX := Lib.hid (Blk.new w 40 (nfA N A1 k1 A2 k2 A3 k3))
 have HI := Lib.hid (is_go N.start N.states w.heap.size (w.alloc (.cells (nfA N A1 k1 A2 k2 A3 k3) 40)) (HX.out.cell 0))
 have HN := Lib.hid hN
 clear hb1 hN
 unfold nfA at *
 have HV := Lib.hid (rightN_head (N := N) (fun ⟨a, _⟩ => by omega))
 clear HI
 go_enter Tryz.func63, Tryz.ntmps63
 go_wp2
 go_light
 go_ret
 exact ⟨by rw [HV.out]; rfl, HB1.out⟩
theorem nright_start (N : NfaV) (A1 : Option Addr) (k1 : Nat) (A2 : Option Addr) (k2 : Nat) (A3 : Option Addr) (k3 : Nat) (w : World) (hN : NfaAt w N A1 A2 A3) (h : N.states ≤ 65536) (h2 : isB N.states N.start = false) : Calls Tryz.prog 63 #[.agg (nfA N A1 k1 A2 k2 A3 k3)] w fun e w' => e = .returned (.bool (rightN N)) ∧ Below w.heap.size w w' := by
 have hb1 : Below w.heap.size w (w.alloc (.cells (nfA N A1 k1 A2 k2 A3 k3) 40)) := (Below.refl _ _).alloc (Nat.le_refl _) _
 have HB1 := Lib.hid hb1
 have HX := Lib.hid (Blk.new w 40 (nfA N A1 k1 A2 k2 A3 k3))
 have HI := Lib.hid (is_go N.start N.states w.heap.size (w.alloc (.cells (nfA N A1 k1 A2 k2 A3 k3) 40)) (HX.out.cell 0))
 have HN := Lib.hid hN
 clear hb1 hN
 unfold nfA at *
 have HV := Lib.hid (rightN_head (N := N) (fun ⟨_, a, _⟩ => by rw [h2] at a; cases a))
 rw [h2] at HI
 have hd : decide ((65536 : Int) < N.states) = false := decide_eq_false (by omega)
 clear h2
 go_enter Tryz.func63, Tryz.ntmps63
 go_wp2_with fail
 refine HI.out.mono ?_
 rintro e w2 ⟨rfl, rfl⟩
 clear HI
 dsimp only
 go_wp2
 go_light
 go_ret
 exact ⟨by rw [HV.out]; rfl, HB1.out⟩
theorem nright_len (N : NfaV) (A1 : Option Addr) (k1 : Nat) (A2 : Option Addr) (k2 : Nat) (A3 : Option Addr) (k3 : Nat) (w : World) (hN : NfaAt w N A1 A2 A3) (h : N.states ≤ 65536) (h2 : isB N.states N.start = true) (h3 : (N.accept.length : Int) ≠ N.states) : Calls Tryz.prog 63 #[.agg (nfA N A1 k1 A2 k2 A3 k3)] w fun e w' => e = .returned (.bool (rightN N)) ∧ Below w.heap.size w w' := by
 have hb1 : Below w.heap.size w (w.alloc (.cells (nfA N A1 k1 A2 k2 A3 k3) 40)) := (Below.refl _ _).alloc (Nat.le_refl _) _
 have HB1 := Lib.hid hb1
 have HX := Lib.hid (Blk.new w 40 (nfA N A1 k1 A2 k2 A3 k3))
 have HI := Lib.hid (is_go N.start N.states w.heap.size (w.alloc (.cells (nfA N A1 k1 A2 k2 A3 k3) 40)) (HX.out.cell 0))
 have HN := Lib.hid hN
 clear hb1 hN
 unfold nfA at *
 have HV := Lib.hid (rightN_head (N := N) (fun ⟨_, _, a⟩ => h3 a))
 rw [h2] at HI
 have hd : decide ((65536 : Int) < N.states) = false := decide_eq_false (by omega)
 have hne : ((N.accept.length : Int) != N.states) = true := by rw [bne_iff_ne]; exact h3
 have y0 := HX.out.cell 0
 have y4 := HX.out.cell 4
 clear h2 h3
 go_enter Tryz.func63, Tryz.ntmps63
 go_wp2_with fail
 refine HI.out.mono ?_
 rintro e w2 ⟨rfl, rfl⟩
 clear HI
 dsimp only
 go_wp2
 go_light
 go_ret
 exact ⟨by rw [HV.out]; rfl, HB1.out⟩
theorem nright_rows (N : NfaV) (A1 : Option Addr) (k1 : Nat) (A2 : Option Addr) (k2 : Nat) (A3 : Option Addr) (k3 : Nat) (w : World) (hN : NfaAt w N A1 A2 A3) (h : N.states ≤ 65536) (h2 : isB N.states N.start = true) (h3 : (N.accept.length : Int) = N.states) : Calls Tryz.prog 63 #[.agg (nfA N A1 k1 A2 k2 A3 k3)] w fun e w' => e = .returned (.bool (rightN N)) ∧ Below w.heap.size w w' := by
 have hb1 : Below w.heap.size w (w.alloc (.cells (nfA N A1 k1 A2 k2 A3 k3) 40)) := (Below.refl _ _).alloc (Nat.le_refl _) _
 have HB1 := Lib.hid hb1
 have HX := Lib.hid (Blk.new w 40 (nfA N A1 k1 A2 k2 A3 k3))
 have HI := Lib.hid (is_go N.start N.states w.heap.size (w.alloc (.cells (nfA N A1 k1 A2 k2 A3 k3) 40)) (HX.out.cell 0))
 have HN := Lib.hid hN
 clear hb1 hN
 unfold nfA at *
 have HV := Lib.hid (rightN_tail h h2 h3)
 rw [h2] at HI
 have hd : decide ((65536 : Int) < N.states) = false := decide_eq_false (by omega)
 have hne : ((N.accept.length : Int) != N.states) = false := by rw [bne_eq_false_iff_eq]; exact h3
 have y0 := HX.out.cell 0
 have y4 := HX.out.cell 4
 have hll := HN.out.ll
 have hel := HN.out.el
 have hal := HN.out.al
 clear h2 h3
 go_enter Tryz.func63, Tryz.ntmps63
 go_wp2_with fail
 refine HI.out.mono ?_
 rintro e w2 ⟨rfl, rfl⟩
 clear HI y0 y4
 have y2 := HX.out.cell 2
 dsimp only
 go_wp2
 clear hd hne y2
 go_loopw [30] (fun i' wr => ∃ k : Nat, i' = .int .i64 (k : Int) ∧ k ≤ N.links.length ∧ Hid (∀ j z, j < k → N.links[j]? = some z → linkB N.states z = true) ∧ Hid (Below w.heap.size w wr) ∧ Hid (Blk wr w.heap.size 40 #[.int .i64 N.states, .int .i64 N.start, .slice A1 N.links.length k1, .slice A2 N.edges.length k2, .slice A3 N.accept.length k3])) (fun i' _ => N.links.length - (intOf i').toNat)
 case atStart => exact ⟨0, rfl, Nat.zero_le _, Lib.hid (fun j z hj => by omega), HB1, HX⟩
 case round =>
  clear HX HB1
  obtain ⟨k, rfl, hk, HR, HB, HX⟩ := hrel
  have hlx := HX.out.lt
  by_cases hlt : k < N.links.length
  ·obtain ⟨p, hp⟩ : ∃ p, N.links[k]? = some p := ⟨_, List.getElem?_eq_getElem hlt⟩
   obtain ⟨b, o, rfl, c0, c1⟩ := (HN.out.l.below HB.out) k p hp
   have hdl : (k : Int) < (N.links.length : Int) := by omega
   have hblk := World.block_lt_of_cell? wr _ c0
   have hbA : Below wr.heap.size wr (wr.alloc (.cells #[.int .i64 p.1, .int .i64 p.2] 85)) := (Below.refl _ _).alloc (Nat.le_refl _) _
   have HXA := Lib.hid (HX.out.alloc (.cells #[.int .i64 p.1, .int .i64 p.2] 85))
   have HBA := Lib.hid (HB.out.trans (hbA.mono HB.out.size))
   have HP := Lib.hid hp
   have HI1 := Lib.hid (is_go p.1 N.states w.heap.size _ (HXA.out.cell 0))
   have HI2 := Lib.hid (is_go p.2 N.states w.heap.size _ (HXA.out.cell 0))
   clear hp hbA
   cases hv1 : isB N.states p.1 with
   | false =>
    rw [hv1] at HI1
    have HF := Lib.hid (all_no HP.out (show linkB N.states p = false by unfold linkB; rw [hv1]; rfl))
    clear hv1
    go_wp2_with fail
    refine HI1.out.mono ?_
    rintro e w3 ⟨rfl, rfl⟩
    clear HI1 HI2 c0 c1
    dsimp only
    go_wp2
    go_light
    go_ret
    exact ⟨by rw [HV.out, HF.out]; rfl, HBA.out⟩
   | true =>
    rw [hv1] at HI1
    have HV1 := Lib.hid hv1
    clear hv1
    cases hv2 : isB N.states p.2 with
    | false =>
     rw [hv2] at HI2
     have HF := Lib.hid (all_no HP.out (show linkB N.states p = false by unfold linkB; rw [hv2, Bool.and_false]))
     clear hv2
     go_wp2_with fail
     refine HI1.out.mono ?_
     rintro e w3 ⟨rfl, rfl⟩
     clear HI1
     dsimp only
     go_wp2_with fail
     refine HI2.out.mono ?_
     rintro e w3 ⟨rfl, rfl⟩
     clear HI2 c0 c1
     dsimp only
     go_wp2
     go_light
     go_ret
     exact ⟨by rw [HV.out, HF.out]; rfl, HBA.out⟩
    | true =>
     rw [hv2] at HI2
     have HV2 := Lib.hid hv2
     clear hv2
     go_wp2_with fail
     refine HI1.out.mono ?_
     rintro e w3 ⟨rfl, rfl⟩
     clear HI1
     dsimp only
     go_wp2_with fail
     refine HI2.out.mono ?_
     rintro e w3 ⟨rfl, rfl⟩
     clear HI2 c0 c1
     dsimp only
     go_wp2
     go_roundw
     case rel => exact ⟨k + 1, by go_num, by omega, Lib.hid (fun j y hj hy => by
      rcases Nat.lt_or_ge j k with h | h
      ·exact HR.out j y h hy
      ·obtain rfl : j = k := by omega
       rw [HP.out] at hy
       cases hy
       unfold linkB
       rw [HV1.out, HV2.out]
       rfl), HBA, HXA⟩
     case measure => simp [intOf]; omega
  ·obtain rfl : k = N.links.length := by omega
   have hdl : ¬ ((N.links.length : Int) < (N.links.length : Int)) := by omega
   have HLL := Lib.hid (all_yes (f := linkB N.states) HR.out)
   clear HR hlt hk
   have y3 := HX.out.cell 3
   go_wp2
   clear y3
   go_loopw [50] (fun i' wr => ∃ k : Nat, i' = .int .i64 (k : Int) ∧ k ≤ N.edges.length ∧ Hid (∀ j z, j < k → N.edges[j]? = some z → edgeB N.states z = true) ∧ Hid (Below w.heap.size w wr) ∧ Hid (Blk wr w.heap.size 40 #[.int .i64 N.states, .int .i64 N.start, .slice A1 N.links.length k1, .slice A2 N.edges.length k2, .slice A3 N.accept.length k3])) (fun i' _ => N.edges.length - (intOf i').toNat)
   case atStart => exact ⟨0, rfl, Nat.zero_le _, Lib.hid (fun j z hj => by omega), HB, HX⟩
   case round =>
    clear HX HB hlx
    obtain ⟨k, rfl, hk, HR, HB, HX⟩ := hrel
    have hlx := HX.out.lt
    by_cases hlt : k < N.edges.length
    ·obtain ⟨p, hp⟩ : ∃ p, N.edges[k]? = some p := ⟨_, List.getElem?_eq_getElem hlt⟩
     obtain ⟨b, o, rfl, c0, c1, c2, c3, c4, c5⟩ := (HN.out.e.below HB.out) k p hp
     have hdl : (k : Int) < (N.edges.length : Int) := by omega
     have hblk := World.block_lt_of_cell? wr _ c0
     have hbA : Below wr.heap.size wr (wr.alloc (.cells #[.int .i64 p.1, .int .u64 (word p.2.1.testBit 0), .int .u64 (word p.2.1.testBit 1), .int .u64 (word p.2.1.testBit 2), .int .u64 (word p.2.1.testBit 3), .int .i64 p.2.2] 89)) := (Below.refl _ _).alloc (Nat.le_refl _) _
     have HXA := Lib.hid (HX.out.alloc (.cells #[.int .i64 p.1, .int .u64 (word p.2.1.testBit 0), .int .u64 (word p.2.1.testBit 1), .int .u64 (word p.2.1.testBit 2), .int .u64 (word p.2.1.testBit 3), .int .i64 p.2.2] 89))
     have HBA := Lib.hid (HB.out.trans (hbA.mono HB.out.size))
     have HP := Lib.hid hp
     have HI1 := Lib.hid (is_go p.1 N.states w.heap.size _ (HXA.out.cell 0))
     have HI2 := Lib.hid (is_go p.2.2 N.states w.heap.size _ (HXA.out.cell 0))
     clear hp hbA
     cases hv1 : isB N.states p.1 with
     | false =>
      rw [hv1] at HI1
      have HF := Lib.hid (all_no HP.out (show edgeB N.states p = false by unfold edgeB; rw [hv1]; rfl))
      clear hv1
      go_wp2_with fail
      refine HI1.out.mono ?_
      rintro e w3 ⟨rfl, rfl⟩
      clear HI1 HI2 c0 c1 c2 c3 c4 c5
      dsimp only
      go_wp2
      go_light
      go_ret
      exact ⟨by rw [HV.out, HF.out]; simp, HBA.out⟩
     | true =>
      rw [hv1] at HI1
      have HV1 := Lib.hid hv1
      clear hv1
      cases hv2 : isB N.states p.2.2 with
      | false =>
       rw [hv2] at HI2
       have HF := Lib.hid (all_no HP.out (show edgeB N.states p = false by unfold edgeB; rw [hv2, Bool.and_false]))
       clear hv2
       go_wp2_with fail
       refine HI1.out.mono ?_
       rintro e w3 ⟨rfl, rfl⟩
       clear HI1
       dsimp only
       go_wp2_with fail
       refine HI2.out.mono ?_
       rintro e w3 ⟨rfl, rfl⟩
       clear HI2 c0 c1 c2 c3 c4 c5
       dsimp only
       go_wp2
       go_light
       go_ret
       exact ⟨by rw [HV.out, HF.out]; simp, HBA.out⟩
      | true =>
       rw [hv2] at HI2
       have HV2 := Lib.hid hv2
       clear hv2
       go_wp2_with fail
       refine HI1.out.mono ?_
       rintro e w3 ⟨rfl, rfl⟩
       clear HI1
       dsimp only
       go_wp2_with fail
       refine HI2.out.mono ?_
       rintro e w3 ⟨rfl, rfl⟩
       clear HI2 c0 c1 c2 c3 c4 c5
       dsimp only
       go_wp2
       go_roundw
       case rel => exact ⟨k + 1, by go_num, by omega, Lib.hid (fun j y hj hy => by
        rcases Nat.lt_or_ge j k with h | h
        ·exact HR.out j y h hy
        ·obtain rfl : j = k := by omega
         rw [HP.out] at hy
         cases hy
         unfold edgeB
         rw [HV1.out, HV2.out]
         rfl), HBA, HXA⟩
       case measure => simp [intOf]; omega
    ·obtain rfl : k = N.edges.length := by omega
     have hdl : ¬ ((N.edges.length : Int) < (N.edges.length : Int)) := by omega
     have HEE := Lib.hid (all_yes (f := edgeB N.states) HR.out)
     have HC := Lib.hid (hasacc_go A3 k3 N.accept wr hal (HN.out.a.below HB.out))
     clear HR hlt hk
     have y4 := HX.out.cell 4
     go_wp2_with fail
     refine HC.out.mono ?_
     rintro e w3 ⟨rfl, rfl⟩
     clear HC y4
     dsimp only
     go_wp2
     go_light
     go_ret
     exact ⟨by rw [HV.out, HLL.out, HEE.out]; exact ret_b (by simp), HB.out⟩
theorem nright_go (N : NfaV) (A1 : Option Addr) (k1 : Nat) (A2 : Option Addr) (k2 : Nat) (A3 : Option Addr) (k3 : Nat) (w : World) (hN : NfaAt w N A1 A2 A3) : Calls Tryz.prog 63 #[.agg (nfA N A1 k1 A2 k2 A3 k3)] w fun e w' => e = .returned (.bool (rightN N)) ∧ Below w.heap.size w w' := by
 rcases Int.lt_or_le 65536 N.states with h | h
 ·exact nright_big N A1 k1 A2 k2 A3 k3 w hN h
 cases h2 : isB N.states N.start with
 | false => exact nright_start N A1 k1 A2 k2 A3 k3 w hN h h2
 | true =>
  by_cases h3 : (N.accept.length : Int) = N.states
  ·exact nright_rows N A1 k1 A2 k2 A3 k3 w hN h h2 h3
  ·exact nright_len N A1 k1 A2 k2 A3 k3 w hN h h2 h3
def Since (n : Nat) (w0 w : World) : Prop := Below n w0 w ∧ n ≤ w0.heap.size
theorem Since.cells {n : Nat} {w0 w : World} (h : Since n w0 w) : ∀ b o, b < n → w.cell? ⟨b, o, none⟩ = w0.cell? ⟨b, o, none⟩ := (bcell h.1).1
theorem since_step {n : Nat} {w0 w w' : World} (h : (∀ b o, b < n → w.cell? ⟨b, o, none⟩ = w0.cell? ⟨b, o, none⟩) ∧ Since n w0 w) (hb : Below w.heap.size w w') : (∀ b o, b < n → w'.cell? ⟨b, o, none⟩ = w0.cell? ⟨b, o, none⟩) ∧ Since n w0 w' := by
 have h2 : Since n w0 w' := ⟨h.2.1.trans (hb.mono (Nat.le_trans h.2.2 h.2.1.size)), h.2.2⟩
 exact ⟨h2.cells, h2⟩
theorem since_alloc {n : Nat} {w0 w : World} (h : (∀ b o, b < n → w.cell? ⟨b, o, none⟩ = w0.cell? ⟨b, o, none⟩) ∧ Since n w0 w) (o : Obj) : (∀ b i, b < n → (w.alloc o).cell? ⟨b, i, none⟩ = w0.cell? ⟨b, i, none⟩) ∧ Since n w0 (w.alloc o) := since_step h ((Below.refl _ _).alloc (Nat.le_refl _) o)
theorem since_start {n : Nat} {w0 : World} (h : n ≤ w0.heap.size) : (∀ b o, b < n → w0.drew.cell? ⟨b, o, none⟩ = w0.cell? ⟨b, o, none⟩) ∧ Since n w0 w0.drew := by
 have h2 : Since n w0 w0.drew := ⟨(Below.refl _ _).drew, h⟩
 exact ⟨h2.cells, h2⟩
theorem since_set {n : Nat} {w0 w : World} (h : (∀ b o, b < n → w.cell? ⟨b, o, none⟩ = w0.cell? ⟨b, o, none⟩) ∧ Since n w0 w) {p : Addr} (hp : n ≤ p.block) (v : Value) : (∀ b i, b < n → (w.setCell p v).cell? ⟨b, i, none⟩ = w0.cell? ⟨b, i, none⟩) ∧ Since n w0 (w.setCell p v) := by
 have h2 : Since n w0 (w.setCell p v) := ⟨h.2.1.setCell hp v, h.2.2⟩
 exact ⟨h2.cells, h2⟩
theorem since_drew {n : Nat} {w0 w : World} (h : (∀ b o, b < n → w.cell? ⟨b, o, none⟩ = w0.cell? ⟨b, o, none⟩) ∧ Since n w0 w) : (∀ b i, b < n → (w.drew).cell? ⟨b, i, none⟩ = w0.cell? ⟨b, i, none⟩) ∧ Since n w0 w.drew := by
 have h2 : Since n w0 w.drew := ⟨h.2.1.drew, h.2.2⟩
 exact ⟨h2.cells, h2⟩
theorem since_refl {n : Nat} {w0 : World} (h : n ≤ w0.heap.size) : (∀ b o, b < n → w0.cell? ⟨b, o, none⟩ = w0.cell? ⟨b, o, none⟩) ∧ Since n w0 w0 := ⟨fun _ _ _ => rfl, Below.refl _ _, h⟩
theorem bytes_since {n N : Nat} {w0 w : World} {A : Option Addr} {bs : List Nat} (h : (∀ b o, b < n → w.cell? ⟨b, o, none⟩ = w0.cell? ⟨b, o, none⟩) ∧ Since n w0 w) (hA : BytesAt w0 N A bs) (hN : N ≤ n) : BytesAt w w.heap.size A bs :=
 (hA.below (h.2.1.mono hN)).more (Nat.le_trans hN (Nat.le_trans h.2.2 h.2.1.size))
def MachS.toV (m : MachS) : NfaV := ⟨m.states, 0, m.links.map fun p => ((p.1 : Int), (p.2 : Int)), m.edges.map fun p => ((p.1 : Int), p.2.1, (p.2.2 : Int)), m.accept.map fun (a : Nat) => (a : Int)⟩
theorem linkCells_get : ∀ (l : List (Nat × Nat)) (k : Nat) (p : Nat × Nat), l[k]? = some p → (linkCells l)[k * 2]? = some (.int .i64 (p.1 : Int)) ∧ (linkCells l)[k * 2 + 1]? = some (.int .i64 (p.2 : Int))
 | [], k, p, h => by simp at h
 | x :: l, 0, p, h => by simp at h; subst h; exact ⟨rfl, rfl⟩
 | x :: l, k + 1, p, h => by
  obtain ⟨h1, h2⟩ := linkCells_get l k p (by simpa using h)
  have e : linkCells (x :: l) = linkCell x ++ linkCells l := by simp [linkCells]
  have hl : (linkCell x).length = 2 := rfl
  rw [e]
  refine ⟨?_, ?_⟩
  ·rw [List.getElem?_append_right (by omega), hl, show (k + 1) * 2 - 2 = k * 2 by omega]; exact h1
  ·rw [List.getElem?_append_right (by omega), hl, show (k + 1) * 2 + 1 - 2 = k * 2 + 1 by omega]; exact h2
theorem edgeCells_get : ∀ (l : List (Nat × Nat × Nat)) (k : Nat) (p : Nat × Nat × Nat), l[k]? = some p → ∀ j, j < 6 → (edgeCells l)[k * 6 + j]? = (edgeCell p)[j]?
 | [], k, p, h, _, _ => by simp at h
 | x :: l, 0, p, h, j, hj => by
  simp at h
  subst h
  have e : edgeCells (x :: l) = edgeCell x ++ edgeCells l := by simp [edgeCells]
  rw [e, Nat.zero_mul, Nat.zero_add, List.getElem?_append_left (by simpa [edgeCell] using hj)]
 | x :: l, k + 1, p, h, j, hj => by
  have h1 := edgeCells_get l k p (by simpa using h) j hj
  have e : edgeCells (x :: l) = edgeCell x ++ edgeCells l := by simp [edgeCells]
  have hl : (edgeCell x).length = 6 := rfl
  rw [e, List.getElem?_append_right (by omega), hl, show (k + 1) * 6 + j - 6 = k * 6 + j by omega]
  exact h1
theorem RowsM.nfaAt {w : World} {base : Nat} {m : MachS} {A1 A2 A3 : Option Addr} {n1 n2 n3 k1 k2 k3 : Nat} (h : RowsM w base m (.slice A1 n1 k1) (.slice A2 n2 k2) (.slice A3 n3 k3)) (hf : FitsM m) : NfaAt w m.toV A1 A2 A3 := by
 refine ⟨fun i p hp => ?_, fun i p hp => ?_, fun i a ha => ?_, by simp [MachS.toV]; have := hf.2.1; omega, by simp [MachS.toV]; have := hf.2.2; omega, by simp [MachS.toV]; have := hf.1; unfold MachS.states at this; omega⟩
 ·simp only [MachS.toV] at hp
  rw [List.getElem?_map] at hp
  obtain ⟨q, hq, rfl⟩ := Option.map_eq_some_iff.1 hp
  have hi := (List.getElem?_eq_some_iff.1 hq).1
  obtain ⟨g, c, e, _, _⟩ := own_form h.l (by omega)
  cases e
  obtain ⟨c0, c1⟩ := linkCells_get m.links i q hq
  have d0 := h.l.cells (g := g) rfl _ _ c0
  have d1 := h.l.cells (g := g) rfl _ _ c1
  rw [addr_plusE] at d0 d1
  exact ⟨g, 0, rfl, by rw [Nat.zero_add]; exact d0, by rw [Nat.zero_add]; exact d1⟩
 ·simp only [MachS.toV] at hp
  rw [List.getElem?_map] at hp
  obtain ⟨q, hq, rfl⟩ := Option.map_eq_some_iff.1 hp
  have hi := (List.getElem?_eq_some_iff.1 hq).1
  obtain ⟨g, c, e, _, _⟩ := own_form h.e (by omega)
  cases e
  have hc := edgeCells_get m.edges i q hq
  have d : ∀ j u, j < 6 → (edgeCell q)[j]? = some u → w.cell? ⟨g, 0 + i * 6 + j, none⟩ = some u := fun j u hj hu => by
   have := h.e.cells (g := g) rfl _ _ ((hc j hj).trans hu)
   rw [addr_plusE] at this
   rw [Nat.zero_add]
   exact this
  exact ⟨g, 0, rfl, d 0 _ (by decide) rfl, d 1 _ (by decide) rfl, d 2 _ (by decide) rfl, d 3 _ (by decide) rfl, d 4 _ (by decide) rfl, d 5 _ (by decide) rfl⟩
 ·simp only [MachS.toV] at ha
  rw [List.getElem?_map] at ha
  obtain ⟨q, hq, rfl⟩ := Option.map_eq_some_iff.1 ha
  have hi := (List.getElem?_eq_some_iff.1 hq).1
  obtain ⟨g, c, e, _, _⟩ := own_form h.a (by omega)
  cases e
  have d0 := h.a.cells (g := g) rfl _ _ (accCells_get m.accept i q hq)
  rw [addr_plusE] at d0
  exact ⟨g, 0, rfl, by rw [Nat.zero_add]; exact d0⟩
def readyS (L : List Lex) : Int × Int := if L.all rightS = false then (6, 0) else if h : 1024 < L.length then (4, (L[1024]).place) else (0, 0)
theorem readyS_bad {L : List Lex} {k : Nat} {x : Lex} (h : L[k]? = some x) (hx : rightS x = false) : readyS L = (6, 0) := by
 refine if_pos ?_
 cases ha : L.all rightS
 ·rfl
 ·have := List.all_eq_true.1 ha x (List.mem_of_getElem? h)
  rw [hx] at this
  cases this
theorem all_right {L : List Lex} (h : ∀ (k : Nat) x, L[k]? = some x → rightS x = true) : L.all rightS = true := List.all_eq_true.2 fun x hx => by
 obtain ⟨k, hk, rfl⟩ := List.mem_iff_getElem.1 hx
 exact h k _ (List.getElem?_eq_getElem hk)
theorem readyS_ok {L : List Lex} (h : L.all rightS = true) (hl : L.length ≤ 1024) : readyS L = (0, 0) := by
 unfold readyS
 rw [if_neg (by rw [h]; decide), dif_neg (by omega)]
theorem readyS_long {L : List Lex} {x : Lex} (h : L.all rightS = true) (hx : L[1024]? = some x) : readyS L = (4, x.place) := by
 obtain ⟨hl, rfl⟩ := List.getElem?_eq_some_iff.1 hx
 unfold readyS
 rw [if_neg (by rw [h]; decide), dif_pos hl]
theorem ret_badv {fn : Func} {t : Tmp} (h : fn.results = #[.cell t 77]) {tmps : Array Value} {w : World} {g : Nat} {a b : Value} (hp : tmps.getD t undef = .pointer (some ⟨g, 0, none⟩)) (hb : Blk w g 77 #[a, b]) :
  (results fn tmps).run Tryz.prog w = .ok (.agg #[a, b]) w :=
 results_cell_row h tmps w g _ _ _ _ hp hb Tryz.underlying77 rfl (by kernel_rfl)
theorem ready_go (A : Option Addr) (cap : Nat) (L : List Lex) (w : World) (hA : LexsAt w w.heap.size A L) (hlen : L.length ≤ 140737488355328) :
  Calls Tryz.prog 158 #[.slice A L.length cap] w fun e w' => e = .returned (.agg #[.int .i64 (readyS L).1, .int .i64 (readyS L).2]) ∧ Below w.heap.size w w' := by
 have HA := Lib.hid hA
 have hb0 : Below w.heap.size w (w.alloc (.cells #[.int .i64 0, .int .i64 0] 77)) := (Below.refl _ _).alloc (Nat.le_refl _) _
 have HB0 := Lib.hid hb0
 have HZ0 := Lib.hid (Blk.new w 77 #[.int .i64 0, .int .i64 0])
 clear hA hb0
 go_enter Tryz.func158, Tryz.ntmps158
 go_wp2
 go_loopw [7] (fun i wr => ∃ k : Nat, i = .int .i64 (k : Int) ∧ k ≤ L.length ∧ Hid (Below w.heap.size w wr) ∧ Hid (Blk wr w.heap.size 77 #[.int .i64 0, .int .i64 0]) ∧ Hid (∀ j x, j < k → L[j]? = some x → rightS x = true)) (fun i _ => L.length - (intOf i).toNat)
 case atStart => exact ⟨0, rfl, Nat.zero_le _, HB0, HZ0, Lib.hid (fun j x hj => by omega)⟩
 case round =>
  clear HB0 HZ0
  obtain ⟨k, rfl, hk, HB, HZ, HR⟩ := hrel
  by_cases hlt : k < L.length
  ·obtain ⟨x, hx⟩ : ∃ x, L[k]? = some x := ⟨_, List.getElem?_eq_getElem hlt⟩
   obtain ⟨b, o, rfl, hbl, hc⟩ := HA.out (by omega)
   have hbl' : b < wr.heap.size := Nat.lt_of_lt_of_le hbl HB.out.size
   obtain ⟨c0, c1, c2, c3, c4, c5, c6, c7⟩ := ((HA.out.below HB.out) (by omega)).elim fun b' h => h.elim fun o' h => by
    obtain ⟨e, _, h⟩ := h
    obtain ⟨rfl, rfl⟩ : b = b' ∧ o = o' := by simpa using e
    exact h k x hx
   clear hc
   have Hx := Lib.hid hx
   have hdl : (k : Int) < (L.length : Int) := by omega
   have HZx := Lib.hid (HZ.out.alloc (.cells #[.int .i64 x.kind, .int .i64 x.place, .int .u64 (word x.set 0), .int .u64 (word x.set 1), .int .u64 (word x.set 2), .int .u64 (word x.set 3), .int .i64 x.lo, .int .i64 x.hi] 143))
   have HBx := Lib.hid (HB.out.alloc HB.out.size (.cells #[.int .i64 x.kind, .int .i64 x.place, .int .u64 (word x.set 0), .int .u64 (word x.set 1), .int .u64 (word x.set 2), .int .u64 (word x.set 3), .int .i64 x.lo, .int .i64 x.hi] 143))
   clear hx
   go_wp2_with fail
   refine (right_go _ _ _ _ _ _ _ _ _).mono ?_
   rintro e w1 ⟨rfl, hb1⟩
   have HZ1 := Lib.hid (HZx.out.below hb1 HZx.out.lt)
   have HB1 := Lib.hid (HBx.out.trans (hb1.mono HBx.out.size))
   obtain ⟨b0, b1, f0, f1⟩ := HZ1.out.c2
   clear hb1 c0 c1 c2 c3 c4 c5 c6 c7
   cases hr : rightS x
   ·have hr' := hr
    unfold rightS at hr'
    rw [hr']
    have HV := Lib.hid (readyS_bad Hx.out hr)
    clear hr hr'
    go_wp2
    go_light
    rw [HV.out]
    exact bodyPost_ret (ret_badv Tryz.results158 rfl HZ1.out.set2) rfl ⟨rfl, below_set2 HB1.out (Nat.le_refl _) _ _⟩
   ·have hr' := hr
    unfold rightS at hr'
    rw [hr']
    have Hr := Lib.hid hr
    clear hr hr'
    go_wp2
    go_roundw
    case rel => exact ⟨k + 1, by go_num, by omega, HB1, HZ1, Lib.hid (fun j y hj hy => by
     rcases Nat.lt_or_ge j k with h | h
     ·exact HR.out j y h hy
     ·obtain rfl : j = k := by omega
      have := Hx.out.symm.trans hy
      obtain rfl : x = y := by simpa using this
      exact Hr.out)⟩
    case measure => simp [intOf]; omega
  ·have hdl : ¬ (k : Int) < (L.length : Int) := by omega
   have Hall := Lib.hid (all_right (L := L) (fun j x hx => HR.out j x (by have := (List.getElem?_eq_some_iff.1 hx).1; omega) hx))
   obtain ⟨b0, b1, f0, f1⟩ := HZ.out.c2
   by_cases h1024 : L.length ≤ 1024
   ·have HV := Lib.hid (readyS_ok Hall.out h1024)
    have hd : ¬ (1024 : Int) < (L.length : Int) := by omega
    clear h1024
    go_wp2
    go_light
    rw [HV.out]
    exact bodyPost_ret (ret_badv Tryz.results158 rfl HZ.out.set2) rfl ⟨rfl, below_set2 HB.out (Nat.le_refl _) _ _⟩
   ·obtain ⟨x, hx⟩ : ∃ x, L[1024]? = some x := ⟨_, List.getElem?_eq_getElem (by omega)⟩
    have HV := Lib.hid (readyS_long Hall.out hx)
    have hd : (1024 : Int) < (L.length : Int) := by omega
    obtain ⟨b, o, rfl, hbl, hc⟩ := HA.out (by omega)
    obtain ⟨_, c1, _⟩ := ((HA.out.below HB.out) (by omega)).elim fun b' h => h.elim fun o' h => by
     obtain ⟨e, _, h⟩ := h
     obtain ⟨rfl, rfl⟩ : b = b' ∧ o = o' := by simpa using e
     exact h 1024 x hx
    have c1' : wr.cell? ⟨b, o + 8193, none⟩ = some (.int .i64 x.place) := c1
    clear h1024 hc hx c1
    go_wp2
    go_light
    rw [HV.out]
    exact bodyPost_ret (ret_badv Tryz.results158 rfl HZ.out.set2) rfl ⟨rfl, below_set2 HB.out (Nat.le_refl _) _ _⟩
theorem ret_tree {fn : Func} {t2 t3 : Tmp} (h : fn.results = #[.cell t2 28, .cell t3 77]) {tmps : Array Value} {w : World} {g g' : Nat} {a0 a1 a2 a3 a4 a5 a6 a7 x y : Value}
  (hp : tmps.getD t2 undef = .pointer (some ⟨g, 0, none⟩)) (hp' : tmps.getD t3 undef = .pointer (some ⟨g', 0, none⟩)) (hb : Blk w g 28 #[a0, a1, a2, a3, a4, a5, a6, a7]) (hb' : Blk w g' 77 #[x, y]) :
  (results fn tmps).run Tryz.prog w = .ok (.tuple #[.agg #[a0, a1, a2, a3, a4, a5, a6, a7], .agg #[x, y]]) w := by
 have h1 := run_loadVar_row (P := Tryz.prog) w g 28 28 #[a0, a1, a2, a3, a4, a5, a6, a7] (0, 0) _ hb Tryz.underlying28 rfl (by kernel_rfl)
 have h2 := run_loadVar_row (P := Tryz.prog) w g' 77 77 #[x, y] (0, 0) _ hb' Tryz.underlying77 rfl (by kernel_rfl)
 simp only [results, h]
 simp only [Array.getD_eq_getD_getElem?] at hp hp'
 simp [Sem.run_bind, hp, hp', asAddr, h1, h2, Result.andThen]
def TreeOut (r : Except Wrong Nd) (w : World) (e : Ending) (w' : World) : Prop :=
 match r with
 | .ok x => ∃ B cap, e = .returned (.tuple #[ndV x B cap, .agg #[.int .i64 0, .int .i64 0]]) ∧ Below w.heap.size w w' ∧ x.kids.len ≤ cap ∧ TreesAt w' (fun b => w.heap.size ≤ b) x.kids B
 | .error (k, q) => e = .returned (.tuple #[zeroN, .agg #[.int .i64 k, .int .i64 q]]) ∧ Below w.heap.size w w'
theorem lexemesS_bad {L : List Lex} (h : (readyS L).1 ≠ 0) : lexemesS L = .error (readyS L) := by
 unfold readyS at h ⊢
 unfold lexemesS
 by_cases h1 : L.all rightS = false
 ·rw [if_pos h1, if_pos h1]
 ·rw [if_neg h1, if_neg h1]
  by_cases h2 : 1024 < L.length
  ·rw [dif_pos h2, dif_pos h2]
  ·rw [if_neg h1, dif_neg h2] at h
   exact absurd rfl h
theorem readyS_zero {L : List Lex} (h : (readyS L).1 = 0) : readyS L = (0, 0) ∧ L.all rightS = true ∧ L.length ≤ 1024 := by
 unfold readyS at h ⊢
 by_cases h1 : L.all rightS = false
 ·rw [if_pos h1] at h; cases h
 ·by_cases h2 : 1024 < L.length
  ·rw [if_neg h1, dif_pos h2] at h; cases h
  ·rw [if_neg h1, dif_neg h2]
   exact ⟨rfl, by simpa using h1, by omega⟩
theorem lexemesS_ok {L : List Lex} (h : L.all rightS = true) (hl : L.length ≤ 1024) : lexemesS L = match altG (3 * L.length + 3) [] [] L with
  | .error e => .error e
  | .ok (x, _) => .ok x := by
 unfold lexemesS
 rw [if_neg (by rw [h]; decide), dif_neg (by omega)]
 rfl
theorem lexemes_go (A : Option Addr) (cap : Nat) (L : List Lex) (w : World) (hA : LexsAt w w.heap.size A L) (hlen : L.length ≤ 140737488355328) (hcap : L.length ≤ cap) :
  Calls Tryz.prog 123 #[.slice A L.length cap] w (TreeOut (lexemesS L) w) := by
 have hmf : ∀ (fn : Fn) (first cap : Array Value) (w : World), (Instr.makeFunc fn first cap).run Tryz.prog w = .ok (.func fn first cap) w := fun _ _ _ _ => rfl
 have hb2 : Below w.heap.size w ((w.alloc (.cells #[.int .i64 0, .int .u64 0, .int .u64 0, .int .u64 0, .int .u64 0, .slice none 0 0, .int .i64 0, .int .i64 0] 28)).alloc (.cells #[.int .i64 0, .int .i64 0] 77)) := ((Below.refl _ _).alloc (Nat.le_refl _) _).alloc (by simp) _
 have HB2 := Lib.hid hb2
 have HG2 := Lib.hid (show Blk ((w.alloc (.cells #[.int .i64 0, .int .u64 0, .int .u64 0, .int .u64 0, .int .u64 0, .slice none 0 0, .int .i64 0, .int .i64 0] 28)).alloc (.cells #[.int .i64 0, .int .i64 0] 77)) w.heap.size 28 _ from (Blk.new w 28 #[.int .i64 0, .int .u64 0, .int .u64 0, .int .u64 0, .int .u64 0, .slice none 0 0, .int .i64 0, .int .i64 0]).alloc _)
 have HH2 := Lib.hid (show Blk ((w.alloc (.cells #[.int .i64 0, .int .u64 0, .int .u64 0, .int .u64 0, .int .u64 0, .slice none 0 0, .int .i64 0, .int .i64 0] 28)).alloc (.cells #[.int .i64 0, .int .i64 0] 77)) (w.heap.size + 1) 77 #[.int .i64 0, .int .i64 0] from Blk.new_at (by simp))
 have HA := Lib.hid hA
 have hz2 : ((w.alloc (.cells #[.int .i64 0, .int .u64 0, .int .u64 0, .int .u64 0, .int .u64 0, .slice none 0 0, .int .i64 0, .int .i64 0] 28)).alloc (.cells #[.int .i64 0, .int .i64 0] 77)).heap.size = w.heap.size + 2 := by simp
 have HRd := Lib.hid (ready_go A cap L _ ((hA.below hb2).more (by omega)) hlen)
 clear hb2 hA hz2
 go_enter_defers Tryz.func123, Tryz.ntmps123
 go_wp2_with fail
 refine HRd.out.mono ?_
 rintro e w3 ⟨rfl, hb3⟩
 have HB3 := Lib.hid (HB2.out.trans (hb3.mono HB2.out.size))
 have hG3 := HG2.out.below hb3 HG2.out.lt
 have hH3 := HH2.out.below hb3 HH2.out.lt
 have HG3 := Lib.hid hG3
 have HH3 := Lib.hid hH3
 have hne1 : w.heap.size ≠ w3.heap.size := by have := hG3.lt; omega
 have hne2 : w.heap.size + 1 ≠ w3.heap.size := by have := hH3.lt; omega
 have hlt1 : w.heap.size < w3.heap.size := hG3.lt
 have hlt2 : w.heap.size + 1 < w3.heap.size := hH3.lt
 by_cases h0 : (readyS L).1 = 0
 ·obtain ⟨h1, h2, h3⟩ := readyS_zero h0
  have HV := Lib.hid (lexemesS_ok h2 h3)
  rw [h1]
  have hb5 : Below w3.heap.size w3 ((w3.alloc (.cells #[.int .i64 0, .int .i64 0] 77)).alloc (.cells #[.slice A L.length cap, .slice none 0 0] 179)) := ((Below.refl _ _).alloc (Nat.le_refl _) _).alloc (by simp) _
  have hP5 : PAt ((w3.alloc (.cells #[.int .i64 0, .int .i64 0] 77)).alloc (.cells #[.slice A L.length cap, .slice none 0 0] 179)) (w3.heap.size + 1) (.slice none 0 0) L 0 :=
   ⟨A, cap, [], Blk.new_at (by simp), hcap, (HA.out.below (HB3.out.trans (hb5.mono HB3.out.size))).more (by omega), World.ownsRow_nil _ _ _ _⟩
  have HC := Lib.hid ((reads_go (3 * L.length + 3)).1 (w3.heap.size + 1) [] L _ (.slice none 0 0) hP5 (by omega) (by decide) (by omega))
  have HB5 := Lib.hid (HB3.out.trans (hb5.mono HB3.out.size))
  have HG5 := Lib.hid (hG3.below hb5 hlt1)
  have HH5 := Lib.hid (hH3.below hb5 hlt2)
  clear hb3 hG3 hH3 HRd HB2 HG2 HH2 h0 h1 h2 hb5 hP5 HG3 HH3
  go_wp2_with fail
  refine HC.out.mono ?_
  cases hx : altG (3 * L.length + 3) [] [] L with
  | error x =>
   obtain ⟨k, q⟩ := x
   rw [hx] at HV
   rintro e w6 ⟨rfl, hb6⟩
   have HV := Lib.hid (show lexemesS L = .error (k, q) from HV.out)
   have HB6 := Lib.hid (HB5.out.trans (hb6.mono (by omega)))
   have hG6 := HG5.out.below hb6 (by omega)
   have hH6 := HH5.out.below hb6 (by omega)
   dsimp only
   refine leaves_cons (f := 159) (args := #[.pointer (some ⟨w.heap.size, 0, none⟩), .pointer (some ⟨w.heap.size + 1, 0, none⟩)]) (by simp) (by simp [go_sem]) ?_
   refine (catch_bad w.heap.size (w.heap.size + 1) k q [] w6 hG6 hH6 (by omega)).mono ?_
   rintro e u' w7 ⟨rfl, rfl, hG7, hH7, hb7⟩
   dsimp only
   change Leaves Tryz.prog _ _ _ [] FrameMode.returning w7
   rw [HV.out]
   exact ⟨_, ret_tree Tryz.results123 rfl rfl hG7 hH7, rfl, HB6.out.trans (hb7 w.heap.size (Nat.le_refl _) (by omega))⟩
  | ok x =>
   obtain ⟨x, R⟩ := x
   rw [hx] at HV
   rintro e w6 ⟨v6, B, cap6, rfl, hP6, hS6, hc6, ht6⟩
   have HV := Lib.hid (show lexemesS L = .ok x from HV.out)
   have HB6 := Lib.hid (HB5.out.trans (hS6.1.mono (by omega)))
   have hG6 := HG5.out.below hS6.1 (by omega)
   have hH6 := HH5.out.below hS6.1 (by omega)
   have HT6 := Lib.hid (ht6.weak (Q := fun b => w3.heap.size + 2 ≤ b) (fun b hb _ => by have := hb.1; simp at this; omega))
   have y0 : w6.cell? ⟨w.heap.size, 0, none⟩ = some (.int .i64 0) := hG6.cell 0
   have y1 : w6.cell? ⟨w.heap.size, 1, none⟩ = some (.int .u64 0) := hG6.cell 1
   have y2 : w6.cell? ⟨w.heap.size, 2, none⟩ = some (.int .u64 0) := hG6.cell 2
   have y3 : w6.cell? ⟨w.heap.size, 3, none⟩ = some (.int .u64 0) := hG6.cell 3
   have y4 : w6.cell? ⟨w.heap.size, 4, none⟩ = some (.int .u64 0) := hG6.cell 4
   have y5 : w6.cell? ⟨w.heap.size, 5, none⟩ = some (.slice none 0 0) := hG6.cell 5
   have y6 : w6.cell? ⟨w.heap.size, 6, none⟩ = some (.int .i64 0) := hG6.cell 6
   have y7 : w6.cell? ⟨w.heap.size, 7, none⟩ = some (.int .i64 0) := hG6.cell 7
   have z0 := hG6.frozen 0
   have z1 := hG6.frozen 1
   have z2 := hG6.frozen 2
   have z3 := hG6.frozen 3
   have z4 := hG6.frozen 4
   have z5 := hG6.frozen 5
   have z6 := hG6.frozen 6
   have z7 := hG6.frozen 7
   obtain ⟨b0, b1, f0, f1⟩ := hH6.c2
   have HG6 := Lib.hid hG6
   have HH6 := Lib.hid hH6
   have hsz : w.heap.size + 1 ≤ w3.heap.size + 2 := by omega
   clear hP6 hS6 ht6 hG6 hH6 HC hx
   unfold ndV
   dsimp only
   go_wp2
   go_light
   have hg1 := only_put8 w6 w.heap.size (.int .i64 x.kind) (.int .u64 (word x.set.testBit 0)) (.int .u64 (word x.set.testBit 1)) (.int .u64 (word x.set.testBit 2)) (.int .u64 (word x.set.testBit 3)) (.slice B x.kids.len cap6) (.int .i64 x.lo) (.int .i64 x.hi)
   have ht7 := TreesAt.keep (Q := fun b => w3.heap.size + 2 ≤ b) (fun b o (hb : w3.heap.size + 2 ≤ b) hl => World.cell?_of_block (hg1.block b hl (by simp; omega))) (fun b hb _ => hb) HT6.out
   refine leaves_cons (f := 159) (args := #[.pointer (some ⟨w.heap.size, 0, none⟩), .pointer (some ⟨w.heap.size + 1, 0, none⟩)]) (by simp) (by simp [go_sem]) ?_
   refine (catch_idle w.heap.size (w.heap.size + 1) _).mono ?_
   rintro e u' w7 ⟨rfl, rfl, hw7⟩
   dsimp only
   change Leaves Tryz.prog _ _ _ [] FrameMode.returning w7
   rw [HV.out]
   have hg2 := only_set (only_set (only_refl ((((((((w6.setCell ⟨w.heap.size, 0, none⟩ (.int .i64 x.kind)).setCell ⟨w.heap.size, 1, none⟩ (.int .u64 (word x.set.testBit 0))).setCell ⟨w.heap.size, 2, none⟩ (.int .u64 (word x.set.testBit 1))).setCell ⟨w.heap.size, 3, none⟩ (.int .u64 (word x.set.testBit 2))).setCell ⟨w.heap.size, 4, none⟩ (.int .u64 (word x.set.testBit 3))).setCell ⟨w.heap.size, 5, none⟩ (.slice B x.kids.len cap6)).setCell ⟨w.heap.size, 6, none⟩ (.int .i64 x.lo)).setCell ⟨w.heap.size, 7, none⟩ (.int .i64 x.hi)) (some (w.heap.size + 1))) 0 (.int .i64 0)) 1 (.int .i64 0)
   have ht8 := TreesAt.keep (Q := fun b => w.heap.size ≤ b) (fun b o (hb : w3.heap.size + 2 ≤ b) hl => World.cell?_of_block (hg2.block b hl (by simp; omega))) (fun b (hb : w3.heap.size + 2 ≤ b) _ => by omega) ht7
   have hG7 := (HG6.out.put8 (.int .i64 x.kind) (.int .u64 (word x.set.testBit 0)) (.int .u64 (word x.set.testBit 1)) (.int .u64 (word x.set.testBit 2)) (.int .u64 (word x.set.testBit 3)) (.slice B x.kids.len cap6) (.int .i64 x.lo) (.int .i64 x.hi)).far2 (g' := w.heap.size + 1) (by omega) (.int .i64 0) (.int .i64 0)
   have hH7 := (HH6.out.past8 (g' := w.heap.size) (by omega) (.int .i64 x.kind) (.int .u64 (word x.set.testBit 0)) (.int .u64 (word x.set.testBit 1)) (.int .u64 (word x.set.testBit 2)) (.int .u64 (word x.set.testBit 3)) (.slice B x.kids.len cap6) (.int .i64 x.lo) (.int .i64 x.hi)).set2 (a' := .int .i64 0) (b' := .int .i64 0)
   have hb7 := below_set2 (below_put8 HB6.out (Nat.le_refl _) (.int .i64 x.kind) (.int .u64 (word x.set.testBit 0)) (.int .u64 (word x.set.testBit 1)) (.int .u64 (word x.set.testBit 2)) (.int .u64 (word x.set.testBit 3)) (.slice B x.kids.len cap6) (.int .i64 x.lo) (.int .i64 x.hi)) (Nat.le_succ w.heap.size) (.int .i64 0) (.int .i64 0)
   rw [← hw7] at ht8 hG7 hH7 hb7
   exact ⟨_, ret_tree Tryz.results123 rfl rfl hG7 hH7, B, cap6, rfl, hb7, hc6, ht8⟩
 ·have hd : ((readyS L).1 != 0) = true := by simpa using h0
  have HV := Lib.hid (lexemesS_bad h0)
  have y0 : w3.cell? ⟨w.heap.size, 0, none⟩ = some (.int .i64 0) := hG3.cell 0
  have y1 : w3.cell? ⟨w.heap.size, 1, none⟩ = some (.int .u64 0) := hG3.cell 1
  have y2 : w3.cell? ⟨w.heap.size, 2, none⟩ = some (.int .u64 0) := hG3.cell 2
  have y3 : w3.cell? ⟨w.heap.size, 3, none⟩ = some (.int .u64 0) := hG3.cell 3
  have y4 : w3.cell? ⟨w.heap.size, 4, none⟩ = some (.int .u64 0) := hG3.cell 4
  have y5 : w3.cell? ⟨w.heap.size, 5, none⟩ = some (.slice none 0 0) := hG3.cell 5
  have y6 : w3.cell? ⟨w.heap.size, 6, none⟩ = some (.int .i64 0) := hG3.cell 6
  have y7 : w3.cell? ⟨w.heap.size, 7, none⟩ = some (.int .i64 0) := hG3.cell 7
  have z0 := hG3.frozen 0
  have z1 := hG3.frozen 1
  have z2 := hG3.frozen 2
  have z3 := hG3.frozen 3
  have z4 := hG3.frozen 4
  have z5 := hG3.frozen 5
  have z6 := hG3.frozen 6
  have z7 := hG3.frozen 7
  obtain ⟨b0, b1, f0, f1⟩ := hH3.c2
  clear hb3 hG3 hH3 HRd HB2 HG2 HH2 h0
  generalize readyS L = kq at *
  obtain ⟨k, q⟩ := kq
  dsimp only at hd ⊢
  go_wp2
  go_region
  all_goals go_wp2
  all_goals go_light
  rw [HV.out]
  exact ⟨_, ret_tree Tryz.results123 rfl rfl (((HG3.out.put8 _ _ _ _ _ _ _ _).far2 (by omega) _ _).alloc _).drew (((HH3.out.past8 (by omega) _ _ _ _ _ _ _ _).set2).alloc _).drew, rfl, ((below_set2 (below_put8 HB3.out (Nat.le_refl _) _ _ _ _ _ _ _ _) (by omega) _ _).alloc (by have := HB3.out.size; simpa [World.setCell] using this) _).drew⟩
theorem word_noSet (i : Nat) : word noSet i = 0 := word_none i
theorem put_no (S b o len cap : Nat) (i : Int) (v : Value) (k q : Int) (N : Nat) (L : List Lex) (kind place lo hi next : Int) (W : World) (hS : Spl W S b o len cap i v k q) (hrow : W.ownsRow N 143 8 v L.length (lexCells L)) (hN : N ≤ S) (hL : L.length ≤ 100000) :
  Calls Tryz.prog 231 #[.pointer (some ⟨S, 0, none⟩), .agg #[.int .i64 kind, .int .i64 place, .int .u64 0, .int .u64 0, .int .u64 0, .int .u64 0, .int .i64 lo, .int .i64 hi], .int .i64 next] W (Took S b o len cap N L ⟨kind, i, noSet, lo, hi⟩ next k q W) := by
 have h := put_go S b o len cap i v k q N L ⟨kind, place, noSet, lo, hi⟩ next W hS hrow hN hL
 simp only [word_noSet] at h
 exact h
def Quiet (v : Value) (W : World) (e : Ending) (W' : World) : Prop := e = .returned v ∧ ∃ n, W' = W.drewN n
theorem sign_no (S b o cap : Nat) (bs : List Nat) (i : Nat) (v : Value) (N : Nat) (W : World) (hS : Spl W S b o bs.length cap i v 0 0) (hA : BytesAt W N (some ⟨b, o, none⟩) bs) (h0 : i < bs.length) (hk : signKind (byteAt bs i) = 0) :
  Calls Tryz.prog 198 #[.pointer (some ⟨S, 0, none⟩)] W (Quiet (.bool false) W) := by
 obtain ⟨s0, s1, s2, s3, s4, f0, f1, f2, f3, f4⟩ := hS.cells
 have hcell := bytesAt_cells hA i h0
 have hl := hA.2.1
 have hc256 := byteAt_lt hA.1 i
 generalize byteAt bs i = c at *
 have hne : c ≠ 40 ∧ c ≠ 41 ∧ c ≠ 124 ∧ c ≠ 42 ∧ c ≠ 43 ∧ c ≠ 63 := by
  unfold signKind at hk
  refine ⟨?_, ?_, ?_, ?_, ?_, ?_⟩ <;> (rintro rfl; revert hk; decide)
 obtain ⟨a1, a2, a3, a4, a5, a6⟩ := hne
 have b1 : ((c : Int) == 40) = false := by simp; omega
 have b2 : ((c : Int) == 41) = false := by simp; omega
 have b3 : ((c : Int) == 124) = false := by simp; omega
 have b4 : ((c : Int) == 42) = false := by simp; omega
 have b5 : ((c : Int) == 43) = false := by simp; omega
 have b6 : ((c : Int) == 63) = false := by simp; omega
 clear hS hA hk a1 a2 a3 a4 a5 a6
 go_enter Tryz.func198, Tryz.ntmps198
 go_wp2
 go_quiet (fail)
 go_wp2
 go_light
 go_ret
 exact ⟨rfl, _, rfl⟩
theorem sign_yes (S b o cap : Nat) (bs : List Nat) (i : Nat) (v : Value) (N : Nat) (L : List Lex) (W : World) (hS : Spl W S b o bs.length cap i v 0 0) (hrow : W.ownsRow N 143 8 v L.length (lexCells L)) (hN : N ≤ S) (hL : L.length ≤ 100000) (hA : BytesAt W N (some ⟨b, o, none⟩) bs) (h0 : i < bs.length) (hk : signKind (byteAt bs i) ≠ 0) :
  Calls Tryz.prog 198 #[.pointer (some ⟨S, 0, none⟩)] W fun e W' => e = .returned (.bool true) ∧ Below N W W' ∧ ∃ v', Spl W' S b o bs.length cap ((i : Int) + 1) v' 0 0 ∧ W'.ownsRow N 143 8 v' (L.length + 1) (lexCells (L ++ [⟨signKind (byteAt bs i), i, noSet, 0, 0⟩])) := by
 obtain ⟨s0, s1, s2, s3, s4, f0, f1, f2, f3, f4⟩ := hS.cells
 have hcell := bytesAt_cells hA i h0
 have hl := hA.2.1
 have hc256 := byteAt_lt hA.1 i
 have hlt := Blk.lt hS
 have hi2 : i < 140737488355328 := by omega
 have hcs : byteAt bs i = 40 ∨ byteAt bs i = 41 ∨ byteAt bs i = 124 ∨ byteAt bs i = 42 ∨ byteAt bs i = 43 ∨ byteAt bs i = 63 := by
  unfold signKind at hk
  by_cases a1 : byteAt bs i = 40
  ·omega
  by_cases a2 : byteAt bs i = 41
  ·omega
  by_cases a3 : byteAt bs i = 124
  ·omega
  by_cases a4 : byteAt bs i = 42
  ·omega
  by_cases a5 : byteAt bs i = 43
  ·omega
  by_cases a6 : byteAt bs i = 63
  ·omega
  rw [if_neg a1, if_neg a2, if_neg a3, if_neg a4, if_neg a5, if_neg a6] at hk
  exact absurd rfl hk
 have hP := fun (kd : Int) (n : Nat) => put_no S b o bs.length cap i v 0 0 N L kd 0 0 0 ((i : Int) + 1) (W.drewN n) hS hrow hN hL
 have HP := Lib.hid hP
 clear hS hA hk hP hrow
 rcases hcs with hc | hc | hc | hc | hc | hc
 ·rw [hc] at hcell
  have HK := Lib.hid (show signKind (byteAt bs i) = 2 by rw [hc]; rfl)
  clear hc hc256
  go_enter Tryz.func198, Tryz.ntmps198
  go_wp2
  go_quiet (fail)
  go_wp2_with fail
  refine (HP.out 2 _).mono ?_
  rintro e w4 ⟨rfl, hb4, hv4⟩
  have HV := Lib.hid hv4
  have HB4 := Lib.hid hb4
  clear hv4 hb4
  go_wp2
  go_light
  go_ret
  exact ⟨rfl, (bel_drewN (Below.refl N W) _).trans HB4.out, by rw [HK.out]; exact HV.out⟩
 ·rw [hc] at hcell
  have HK := Lib.hid (show signKind (byteAt bs i) = 3 by rw [hc]; rfl)
  clear hc hc256
  go_enter Tryz.func198, Tryz.ntmps198
  go_wp2
  go_quiet (fail)
  go_wp2_with fail
  refine (HP.out 3 _).mono ?_
  rintro e w4 ⟨rfl, hb4, hv4⟩
  have HV := Lib.hid hv4
  have HB4 := Lib.hid hb4
  clear hv4 hb4
  go_wp2
  go_light
  go_ret
  exact ⟨rfl, (bel_drewN (Below.refl N W) _).trans HB4.out, by rw [HK.out]; exact HV.out⟩
 ·rw [hc] at hcell
  have HK := Lib.hid (show signKind (byteAt bs i) = 4 by rw [hc]; rfl)
  clear hc hc256
  go_enter Tryz.func198, Tryz.ntmps198
  go_wp2
  go_quiet (fail)
  go_wp2_with fail
  refine (HP.out 4 _).mono ?_
  rintro e w4 ⟨rfl, hb4, hv4⟩
  have HV := Lib.hid hv4
  have HB4 := Lib.hid hb4
  clear hv4 hb4
  go_wp2
  go_light
  go_ret
  exact ⟨rfl, (bel_drewN (Below.refl N W) _).trans HB4.out, by rw [HK.out]; exact HV.out⟩
 ·rw [hc] at hcell
  have HK := Lib.hid (show signKind (byteAt bs i) = 5 by rw [hc]; rfl)
  clear hc hc256
  go_enter Tryz.func198, Tryz.ntmps198
  go_wp2
  go_quiet (fail)
  go_wp2_with fail
  refine (HP.out 5 _).mono ?_
  rintro e w4 ⟨rfl, hb4, hv4⟩
  have HV := Lib.hid hv4
  have HB4 := Lib.hid hb4
  clear hv4 hb4
  go_wp2
  go_light
  go_ret
  exact ⟨rfl, (bel_drewN (Below.refl N W) _).trans HB4.out, by rw [HK.out]; exact HV.out⟩
 ·rw [hc] at hcell
  have HK := Lib.hid (show signKind (byteAt bs i) = 6 by rw [hc]; rfl)
  clear hc hc256
  go_enter Tryz.func198, Tryz.ntmps198
  go_wp2
  go_quiet (fail)
  go_wp2_with fail
  refine (HP.out 6 _).mono ?_
  rintro e w4 ⟨rfl, hb4, hv4⟩
  have HV := Lib.hid hv4
  have HB4 := Lib.hid hb4
  clear hv4 hb4
  go_wp2
  go_light
  go_ret
  exact ⟨rfl, (bel_drewN (Below.refl N W) _).trans HB4.out, by rw [HK.out]; exact HV.out⟩
 ·rw [hc] at hcell
  have HK := Lib.hid (show signKind (byteAt bs i) = 7 by rw [hc]; rfl)
  clear hc hc256
  go_enter Tryz.func198, Tryz.ntmps198
  go_wp2
  go_quiet (fail)
  go_wp2_with fail
  refine (HP.out 7 _).mono ?_
  rintro e w4 ⟨rfl, hb4, hv4⟩
  have HV := Lib.hid hv4
  have HB4 := Lib.hid hb4
  clear hv4 hb4
  go_wp2
  go_light
  go_ret
  exact ⟨rfl, (bel_drewN (Below.refl N W) _).trans HB4.out, by rw [HK.out]; exact HV.out⟩
def Laid2 (w : World) (A : Option Addr) (cap : Nat) (bs : List Nat) (i : Int) : World :=
 (w.alloc (.cells #[.int .i64 0, .int .i64 0] 77)).alloc (.cells #[.slice A bs.length cap, .int .i64 i, .int .i64 0, .int .i64 0, .int .i64 0] 259)
section
variable (w : World) (A : Option Addr) (cap : Nat) (bs : List Nat) (i : Int)
theorem Laid2.rd : Rd (Laid2 w A cap bs i) (w.heap.size + 1) A cap bs i 0 0 0 := Blk.new_at (by simp)
theorem Laid2.bad : Blk (Laid2 w A cap bs i) w.heap.size 77 #[.int .i64 0, .int .i64 0] := (Blk.new _ _ _).alloc _
theorem Laid2.below : Below w.heap.size w (Laid2 w A cap bs i) := ((Below.refl _ _).alloc (Nat.le_refl _) _).alloc (by simp) _
theorem Laid2.size : (Laid2 w A cap bs i).heap.size = w.heap.size + 1 + 1 := by simp [Laid2]
end
theorem esc_no (A : Option Addr) (cap : Nat) (bs : List Nat) (i : Int) (w : World) (hA : BytesAt w w.heap.size A bs) (h : hasAt bs i 92 = false) : Calls Tryz.prog 226 #[.slice A bs.length cap, .int .i64 i] w fun e w' => e = .returned (escVal bs i) ∧ Below w.heap.size w w' := by
 rw [escVal_no h]
 have HA := Lib.hid (hA.below (Laid2.below w A cap bs i))
 obtain ⟨b0, b1, x0, x1⟩ := (Laid2.bad w A cap bs i).c2
 have Hb := Lib.hid (Laid2.bad w A cap bs i)
 clear hA
 go_enter Tryz.func226, Tryz.ntmps226
 go_wp2_with fail
 refine (here_go (w.heap.size + 1) A cap bs _ _ _ _ 92 w.heap.size _ (Laid2.rd w A cap bs _) HA.out (by omega) (by omega)).mono ?_
 rintro e w1 ⟨rfl, n1, rfl⟩
 go_wp2
 go_light
 refine bodyPost_ret (ret_esc Tryz.results226 rfl rfl rfl (Hb.out.drewN n1).set2) rfl ⟨rfl, ?_⟩
 exact below_set2 (below_drewN (Laid2.below w A cap bs i) n1) (Nat.le_refl _) _ _
theorem esc_yes (A : Option Addr) (cap : Nat) (bs : List Nat) (i : Nat) (w : World) (hA : BytesAt w w.heap.size A bs) (h : hasAt bs (i : Int) 92 = true) (hi : i < bs.length) : Calls Tryz.prog 226 #[.slice A bs.length cap, .int .i64 (i : Int)] w fun e w' => e = .returned (escVal bs (i : Int)) ∧ Below w.heap.size w w' := by
 have HA := Lib.hid (hA.below (Laid2.below w A cap bs i))
 obtain ⟨b0, b1, x0, x1⟩ := (Laid2.bad w A cap bs i).c2
 have Hb := Lib.hid (Laid2.bad w A cap bs i)
 clear hA
 cases he : escS bs i with
 | none =>
  have HV := Lib.hid (escVal_none h he)
  have He := Lib.hid he
  clear he
  rw [HV.out]
  go_enter Tryz.func226, Tryz.ntmps226
  go_wp2_with fail
  refine (here_go (w.heap.size + 1) A cap bs _ _ _ _ 92 w.heap.size _ (Laid2.rd w A cap bs _) HA.out (by omega) (by omega)).mono ?_
  rintro e w1 ⟨rfl, n1, rfl⟩
  go_wp2_with (go_at_call 244; refine (escape_go (w.heap.size + 1) A cap bs i _ w.heap.size _ ((Laid2.rd w A cap bs _).drewN n1) (HA.out.drewN n1) (by omega) hi).mono ?_; rintro e w2 hp; unfold EscPost at hp; rw [He.out] at hp; obtain ⟨hg2, c', j', hc', rfl, hr2⟩ := hp; obtain ⟨c0, c1, c2, c3, c4, e1, e3, e4⟩ := hr2.cells; have hb2 := (Hb.out.drewN n1).grown hg2 (by simp); obtain ⟨r0, r1, r2, r3⟩ := hb2.c2; have Hb2 := Lib.hid hb2; have Hg2 := Lib.hid hg2; clear hb2 hg2 hr2)
  go_region
  all_goals go_wp2
  all_goals go_light
  refine bodyPost_ret (ret_esc Tryz.results226 rfl rfl rfl Hb2.out.set2.drew) rfl ⟨rfl, ?_⟩
  exact (below_set2 (below_only (below_drewN (Laid2.below w A cap bs i) n1) Hg2.out (by omega) (by simp [Laid2.size]; omega)) (Nat.le_refl _) _ _).drew
 | some x =>
  obtain ⟨c', j'⟩ := x
  have HV := Lib.hid (escVal_some h he)
  have He := Lib.hid he
  clear he
  rw [HV.out]
  go_enter Tryz.func226, Tryz.ntmps226
  go_wp2_with fail
  refine (here_go (w.heap.size + 1) A cap bs _ _ _ _ 92 w.heap.size _ (Laid2.rd w A cap bs _) HA.out (by omega) (by omega)).mono ?_
  rintro e w1 ⟨rfl, n1, rfl⟩
  go_wp2_with (go_at_call 244; refine (escape_go (w.heap.size + 1) A cap bs i _ w.heap.size _ ((Laid2.rd w A cap bs _).drewN n1) (HA.out.drewN n1) (by omega) hi).mono ?_; rintro e w2 hp; unfold EscPost at hp; rw [He.out] at hp; obtain ⟨hg2, rfl, hr2⟩ := hp; obtain ⟨c0, c1, c2, c3, c4, e1, e3, e4⟩ := hr2.cells; have hb2 := (Hb.out.drewN n1).grown hg2 (by simp); obtain ⟨r0, r1, r2, r3⟩ := hb2.c2; have Hb2 := Lib.hid hb2; have Hg2 := Lib.hid hg2; clear hb2 hg2 hr2)
  go_region
  all_goals go_wp2
  all_goals go_light
  refine bodyPost_ret (ret_esc Tryz.results226 rfl rfl rfl Hb2.out.set2.drew) rfl ⟨rfl, ?_⟩
  exact (below_set2 (below_only (below_drewN (Laid2.below w A cap bs i) n1) Hg2.out (by omega) (by simp [Laid2.size]; omega)) (Nat.le_refl _) _ _).drew
theorem esc_go (A : Option Addr) (cap : Nat) (bs : List Nat) (i : Int) (w : World) (hA : BytesAt w w.heap.size A bs) : Calls Tryz.prog 226 #[.slice A bs.length cap, .int .i64 i] w fun e w' => e = .returned (escVal bs i) ∧ Below w.heap.size w w' := by
 cases h : hasAt bs i 92 with
 | false => exact esc_no A cap bs i w hA h
 | true =>
  obtain ⟨i, rfl, hlt, _⟩ := hasAt_yes h
  exact esc_yes A cap bs i w hA h hlt
@[inline] def noNfa : Value := .agg #[.int .i64 0, .int .i64 0, .slice none 0 0, .slice none 0 0, .slice none 0 0]
end Go.Proofs.YtofbfafnpdaejaaGreatDoor
