/-
  How many states trees take: the plain number, and the contracts of nfa.sum, nfa.times, nfa.Weight, nfa.Size.
-/
import Derived.Test.YtgbpcigfbpghgaaQZB01
namespace Go.Proofs.Ytgbpcigfbpghgaa
open Go.RowKit
set_option linter.unusedSimpArgs false
set_option linter.unusedVariables false
set_option maxRecDepth 100000

/-- What a node that says so often takes, its kid taking n. -/
def timesW (lo hi : Int) (n : Nat) : Nat :=
  if n = 0 then 0
  else if hi < 0 then min topN (min topN (lo.toNat * n) + n + 1)
  else if lo < hi then min topN (min topN (lo.toNat * n) + min topN ((hi - lo).toNat * n) + 1)
  else min topN (lo.toNat * n)
/-- What a node takes, its kids taking n together. -/
def wgtK (k lo hi : Int) (n : Nat) : Nat := if k = 2 ∨ k = 4 then n else if k = 9 then timesW lo hi n else min topN (n + 1)
/-- What trees take together. -/
def Trees.wsum : Trees → Nat
  | .nil => 0
  | .cons k _ ks lo hi r => wgtK k lo hi (min topN ks.wsum) + r.wsum
def Nd.wgt (x : Nd) : Nat := wgtK x.kind x.lo x.hi (min topN x.kids.wsum)
theorem timesW_le (lo hi : Int) (n : Nat) : timesW lo hi n ≤ topN := by
  unfold timesW
  split
  · exact Nat.zero_le _
  split
  · exact Nat.min_le_left _ _
  split
  · exact Nat.min_le_left _ _
  · exact Nat.min_le_left _ _
theorem wgtK_le {k lo hi : Int} {n : Nat} (h : n ≤ topN) : wgtK k lo hi n ≤ topN := by
  unfold wgtK
  split
  · exact h
  split
  · exact timesW_le _ _ _
  · exact Nat.min_le_left _ _
theorem Nd.wgt_le (x : Nd) : x.wgt ≤ topN := wgtK_le (Nat.min_le_left _ _)
theorem Trees.wsum_list : ∀ F : Trees, F.wsum = (F.list.map Nd.wgt).sum
  | .nil => rfl
  | .cons k s ks lo hi r => by
    rw [Trees.wsum, Trees.list, List.map_cons, List.sum_cons, Trees.wsum_list r]
    rfl
/-- Numbers of times that may be. -/
def numsOk (y : Nd) : Prop := y.kind = 9 → 0 ≤ y.lo ∧ y.lo ≤ 1000 ∧ -1 ≤ y.hi ∧ y.hi ≤ 1000
theorem numsOk_of {y : Nd} (h : aloneN y = true) : numsOk y := by
  intro h9
  unfold aloneN aloneV at h
  rw [if_neg (by omega)] at h
  split at h
  · cases h
  try rw [if_pos h9] at h
  rw [Bool.and_eq_true] at h
  have := h.1
  unfold timesB at this
  simp only [Bool.and_eq_true, Bool.or_eq_true, decide_eq_true_eq] at this
  omega
theorem rightT_nums {x : Nd} (h : rightT x = true) : ∀ y ∈ x.nodes, numsOk y := by
  unfold rightT at h
  rw [Bool.and_eq_true] at h
  exact fun y hy => numsOk_of (List.all_eq_true.1 h.2 y hy)
theorem nodes_kid : ∀ {F : Trees} {i : Nat} {z : Nd}, F.list[i]? = some z → ∀ y ∈ z.nodes, y ∈ F.nodes
  | .nil, i, z, h => by simp [Trees.list] at h
  | .cons k s ks lo hi r, 0, z, h => by
    simp [Trees.list] at h
    subst h
    intro y hy
    unfold Nd.nodes at hy
    rcases List.mem_cons.1 hy with rfl | hy
    · simp [Trees.nodes]
    · simp [Trees.nodes, hy]
  | .cons k s ks lo hi r, i + 1, z, h => by
    intro y hy
    have := nodes_kid (F := r) (i := i) (by simpa [Trees.list] using h) y hy
    simp [Trees.nodes, this]
/-- What the first of some nodes take together. -/
def sumTo (f : Nd → Nat) (l : List Nd) (k : Nat) : Nat := ((l.map f).take k).sum
theorem sumTo_zero (f : Nd → Nat) (l : List Nd) : sumTo f l 0 = 0 := by simp [sumTo]
theorem sumTo_succ {f : Nd → Nat} {l : List Nd} {k : Nat} {z : Nd} (h : l[k]? = some z) : sumTo f l (k + 1) = sumTo f l k + f z := by
  obtain ⟨hk, rfl⟩ := List.getElem?_eq_some_iff.1 h
  unfold sumTo
  rw [take_sum _ k (by simpa using hk)]
  simp [List.getD, hk]
theorem sumTo_all (f : Nd → Nat) (l : List Nd) : sumTo f l l.length = (l.map f).sum := by
  unfold sumTo
  rw [List.take_of_length_le (by simp)]
theorem nums2 {w : World} {g : Nat} {a b : Nat} (h : Blk w g 3 #[.int .i64 (a : Int), .int .i64 (b : Int)]) : NumsAt w (some ⟨g, 0, none⟩) [a, b] := fun i hi => by
  refine ⟨g, 0, rfl, ?_⟩
  match i, hi with
  | 0, _ => exact h.cell 0
  | 1, _ => exact h.cell 1
theorem nums3 {w : World} {g : Nat} {a b c : Nat} (h : Blk w g 3 #[.int .i64 (a : Int), .int .i64 (b : Int), .int .i64 (c : Int)]) : NumsAt w (some ⟨g, 0, none⟩) [a, b, c] := fun i hi => by
  refine ⟨g, 0, rfl, ?_⟩
  match i, hi with
  | 0, _ => exact h.cell 0
  | 1, _ => exact h.cell 1
  | 2, _ => exact h.cell 2
theorem min3 (a b : Nat) : min topN (min topN a + b) = min topN (a + b) := by omega
set_option maxHeartbeats 2000000 in
/-- nfa.sum over trees, each taking what a function says. -/
theorem nsum_go (g : FuncId) (f : Nd → Nat) (F : Trees) (P : Nat → Prop) (B : Option Addr) (cap : Nat) (w : World) (hl : F.len ≤ 140737488355328) (ht : TreesAt w P F B) (hf : ∀ z, f z ≤ topN)
    (hg : ∀ (i : Nat) (z : Nd) (C : Option Addr) (capc : Nat) (w' : World), F.list[i]? = some z → TreesAt w' P z.kids C → Calls Try.prog g #[ndV z C capc] w' fun e w'' => e = .returned (.int .i64 ((f z : Nat) : Int)) ∧ Below w'.heap.size w' w'')
    (henter : ∀ args w, (callFunc g args).run Try.prog w = .ok (.enter g args) w) :
    Calls Try.prog 30 #[.func (.func g) #[] #[], .slice B F.len cap] w fun e w' => e = .returned (.int .i64 ((min topN ((F.list.map f).sum) : Nat) : Int)) ∧ Below w.heap.size w w' := by
  have HT := Lib.hid ht
  have HG := Lib.hid hg
  have HF := Lib.hid hf
  clear ht hg hf
  go_enter Try.func30, Try.ntmps30
  go_wp2
  go_loopw [5, 10] (fun v i wr => ∃ k : Nat, i = .int .i64 (k : Int) ∧ k ≤ F.len ∧ v = .int .i64 ((min topN (sumTo f F.list k) : Nat) : Int) ∧ Hid (Below w.heap.size w wr)) (fun _ i _ => F.len - (intOf i).toNat)
  case atStart => exact ⟨0, rfl, Nat.zero_le _, by rw [sumTo_zero]; rfl, Lib.hid (Below.refl _ _)⟩
  case round =>
    obtain ⟨k, rfl, hk, rfl, HB⟩ := hrel
    by_cases hlt : k < F.len
    · obtain ⟨z, hz⟩ : ∃ z, F.list[k]? = some z := ⟨_, List.getElem?_eq_getElem (by rw [Trees.len_list]; exact hlt)⟩
      obtain ⟨b, o, C, capc, rfl, _, _, ⟨c0, c1, c2, c3, c4, c5, c6, c7⟩, hkz⟩ := (HT.out.below HB.out).get hz
      have hdl : (k : Int) < (F.len : Int) := by omega
      have hbA : Below wr.heap.size wr (wr.alloc (.cells (ndA z C capc) 37)) := (Below.refl _ _).alloc (Nat.le_refl _) _
      have HI := Lib.hid (HG.out k z C capc (wr.alloc (.cells (ndA z C capc) 37)) hz (hkz.below hbA))
      have HS := Lib.hid (show min topN (sumTo f F.list (k + 1)) = min topN (min topN (sumTo f F.list k) + f z) by rw [sumTo_succ hz, min3])
      have hfz := HF.out z
      have hvle : min topN (sumTo f F.list k) ≤ topN := Nat.min_le_left _ _
      have HBA := Lib.hid (HB.out.trans (hbA.mono HB.out.size))
      clear hz hkz hbA
      generalize min topN (sumTo f F.list k) = v at *
      generalize f z = fz at *
      unfold ndV at HI
      go_wp2_with fail
      refine HI.out.mono ?_
      rintro e w3 ⟨rfl, hb3⟩
      have hb4 : Below w3.heap.size w3 (w3.alloc (.cells #[.int .i64 (v : Int), .int .i64 (fz : Int)] 3)) := (Below.refl _ _).alloc (Nat.le_refl _) _
      have HA := Lib.hid (nadd_go (some ⟨w3.heap.size, 0, none⟩) 2 [v, fz] (w3.alloc (.cells #[.int .i64 (v : Int), .int .i64 (fz : Int)] 3)) (nums2 (Blk.new _ _ _)) (fun x hx => by
        rcases List.mem_cons.1 hx with rfl | hx
        · exact hvle
        · rw [List.mem_singleton.1 hx]; exact hfz) (by simp))
      have HB4 := Lib.hid (HBA.out.trans ((hb3.trans (hb4.mono hb3.size)).mono HBA.out.size))
      clear hb3 hb4 HI c0 c1 c2 c3 c4 c5 c6 c7
      dsimp only
      go_wp2_with fail
      refine HA.out.mono ?_
      rintro e w5 ⟨rfl, hb5⟩
      have HB5 := Lib.hid (HB4.out.trans (hb5.mono HB4.out.size))
      have HS2 := Lib.hid (show min topN [v, fz].sum = min topN (sumTo f F.list (k + 1)) by rw [HS.out]; simp)
      rw [HS2.out]
      clear hb5 HA
      dsimp only
      go_wp2
      go_roundw
      case rel => exact ⟨k + 1, by go_num, by omega, rfl, HB5⟩
      case measure => simp [intOf]; omega
    · obtain rfl : k = F.len := by omega
      have hdl : ¬ ((F.len : Int) < (F.len : Int)) := by omega
      have HV := Lib.hid (show sumTo f F.list F.len = (F.list.map f).sum by rw [← Trees.len_list, sumTo_all])
      go_wp2
      go_light
      go_ret
      exact ⟨ret_i (by rw [HV.out]), HB.out⟩
theorem le3 {a b c : Nat} (ha : a ≤ topN) (hb : b ≤ topN) (hc : c ≤ topN) : ∀ x ∈ [a, b, c], x ≤ topN := by
  intro x hx
  simp at hx
  rcases hx with rfl | rfl | rfl <;> assumption
theorem le2 {a b : Nat} (ha : a ≤ topN) (hb : b ≤ topN) : ∀ x ∈ [a, b], x ≤ topN := by
  intro x hx
  simp at hx
  rcases hx with rfl | rfl <;> assumption
theorem mul2_new (w : World) (g a b : Nat) (hg : g = w.heap.size) (ha : a ≤ topN) (hb : b ≤ topN) :
    Calls Try.prog 57 #[.int .i64 1099511627776, .slice (some ⟨g, 0, none⟩) 2 2] (w.alloc (.cells #[.int .i64 (a : Int), .int .i64 (b : Int)] 3)) fun e w' => e = .returned (.int .i64 ((min topN (a * b) : Nat) : Int)) ∧ Below w.heap.size w w' :=
  (nmul_go (some ⟨g, 0, none⟩) 2 a b _ (nums2 (Blk.new_at hg)) ha hb).mono fun e w' ⟨he, hb⟩ => ⟨he, ((Below.refl _ _).alloc (Nat.le_refl _) _).trans (hb.mono (by simp))⟩
theorem add2_new (w : World) (g a b : Nat) (hg : g = w.heap.size) (ha : a ≤ topN) (hb : b ≤ topN) :
    Calls Try.prog 32 #[.int .i64 1099511627776, .slice (some ⟨g, 0, none⟩) 2 2] (w.alloc (.cells #[.int .i64 (a : Int), .int .i64 (b : Int)] 3)) fun e w' => e = .returned (.int .i64 ((min topN (a + b) : Nat) : Int)) ∧ Below w.heap.size w w' :=
  (nadd_go (some ⟨g, 0, none⟩) 2 [a, b] _ (nums2 (Blk.new_at hg)) (le2 ha hb) (by simp)).mono fun e w' ⟨he, hb⟩ => ⟨by rw [he]; simp, ((Below.refl _ _).alloc (Nat.le_refl _) _).trans (hb.mono (by simp))⟩
theorem add3_new (w : World) (g a b c : Nat) (hg : g = w.heap.size) (ha : a ≤ topN) (hb : b ≤ topN) (hc : c ≤ topN) :
    Calls Try.prog 32 #[.int .i64 1099511627776, .slice (some ⟨g, 0, none⟩) 3 3] (w.alloc (.cells #[.int .i64 (a : Int), .int .i64 (b : Int), .int .i64 (c : Int)] 3)) fun e w' => e = .returned (.int .i64 ((min topN (a + b + c) : Nat) : Int)) ∧ Below w.heap.size w w' :=
  (nadd_go (some ⟨g, 0, none⟩) 3 [a, b, c] _ (nums3 (Blk.new_at hg)) (le3 ha hb hc) (by simp)).mono fun e w' ⟨he, hb⟩ => ⟨by rw [he]; simp [Nat.add_assoc], ((Below.refl _ _).alloc (Nat.le_refl _) _).trans (hb.mono (by simp))⟩
set_option maxHeartbeats 2000000 in
theorem ntimes_go (x : Nd) (B : Option Addr) (cap n : Nat) (w : World) (hn : n ≤ topN) (h0 : 0 ≤ x.lo) (h1 : x.lo ≤ 1000) (h2 : -1 ≤ x.hi) (h3 : x.hi ≤ 1000) :
    Calls Try.prog 31 #[ndV x B cap, .int .i64 (n : Int)] w fun e w' => e = .returned (.int .i64 ((timesW x.lo x.hi n : Nat) : Int)) ∧ Below w.heap.size w w' := by
  have hb1 : Below w.heap.size w (w.alloc (.cells (ndA x B cap) 37)) := (Below.refl _ _).alloc (Nat.le_refl _) _
  have hx1 := Blk.new w 37 (ndA x B cap)
  obtain ⟨l, hl⟩ := Int.eq_ofNat_of_zero_le h0
  have hlt : l ≤ topN := by unfold topN; omega
  have h1t : (1 : Nat) ≤ topN := by decide
  have hmt : min topN (l * n) ≤ topN := Nat.min_le_left _ _
  have htl : x.lo.toNat = l := by omega
  rcases Nat.eq_zero_or_pos n with rfl | hpos
  · have HV := Lib.hid (show timesW x.lo x.hi 0 = 0 by unfold timesW; rw [if_pos rfl])
    have HB := Lib.hid hb1
    clear hl htl hx1 hb1
    unfold ndV
    go_enter Try.func31, Try.ntmps31
    go_wp2
    go_light
    go_ret
    exact ⟨ret_i (by rw [HV.out]; rfl), HB.out⟩
  have hnz : ((n : Int) == 0) = false := by rw [beq_eq_false_iff_ne]; omega
  have HM := Lib.hid (fun (W : World) (g : Nat) (hg : g = W.heap.size) => mul2_new W g l n hg hlt hn)
  have HX := Lib.hid (show _ ∧ _ from ⟨hb1, hx1⟩)
  have y6 : (w.alloc (.cells (ndA x B cap) 37)).cell? ⟨w.heap.size, 6, none⟩ = some (.int .i64 (l : Int)) := by rw [← hl]; exact hx1.cell 6
  rcases Int.lt_or_le x.hi 0 with hh | hh
  · have HV := Lib.hid (show timesW x.lo x.hi n = min topN (min topN (l * n) + n + 1) by unfold timesW; rw [if_neg (by omega), if_pos hh, htl])
    have HA := Lib.hid (fun (W : World) (g : Nat) (hg : g = W.heap.size) => add3_new W g (min topN (l * n)) n 1 hg hmt hn h1t)
    clear hl htl hb1 hx1 h1t
    generalize min topN (l * n) = m at *
    unfold ndV
    unfold ndA at HX y6
    go_enter Try.func31, Try.ntmps31
    go_wp2_with fail
    refine (HM.out _ _ (by simp)).mono ?_
    rintro e w2 ⟨rfl, hb2⟩
    have hX2 := HX.out.2.below hb2 HX.out.2.lt
    have z7 : w2.cell? ⟨w.heap.size, 7, none⟩ = some (.int .i64 x.hi) := hX2.cell 7
    have HB2 := Lib.hid (HX.out.1.trans (hb2.mono HX.out.1.size))
    clear hb2 hX2 y6 HM
    dsimp only
    go_wp2_with fail
    refine (HA.out _ _ (by simp)).mono ?_
    rintro e w3 ⟨rfl, hb3⟩
    have HB3 := Lib.hid (HB2.out.trans (hb3.mono HB2.out.size))
    clear hb3 HA
    dsimp only
    go_wp2
    go_light
    go_ret
    exact ⟨ret_i (by rw [HV.out]), HB3.out⟩
  rcases Int.lt_or_le x.lo x.hi with hlh | hlh
  · obtain ⟨d, hd⟩ := Int.eq_ofNat_of_zero_le (show 0 ≤ x.hi - x.lo by omega)
    have hdt : d ≤ topN := by unfold topN; omega
    have hdn : (x.hi - x.lo).toNat = d := by omega
    have hmt2 : min topN (d * n) ≤ topN := Nat.min_le_left _ _
    have HV := Lib.hid (show timesW x.lo x.hi n = min topN (min topN (l * n) + min topN (d * n) + 1) by unfold timesW; rw [if_neg (by omega), if_neg (by omega), if_pos hlh, htl, hdn])
    have HM2 := Lib.hid (fun (W : World) (g : Nat) (hg : g = W.heap.size) => mul2_new W g d n hg hdt hn)
    have HA := Lib.hid (fun (W : World) (g : Nat) (hg : g = W.heap.size) => add3_new W g (min topN (l * n)) (min topN (d * n)) 1 hg hmt hmt2 h1t)
    obtain ⟨u, hu⟩ := Int.eq_ofNat_of_zero_le hh
    have hul : l < u := by omega
    have hud : (u : Int) - (l : Int) = (d : Int) := by omega
    have hu1 : u ≤ 1000 := by omega
    have Hu := Lib.hid hu
    have Hl := Lib.hid hl
    have Hud := Lib.hid hud
    clear hl htl hb1 hx1 h1t hd hdn hlh hu hud
    generalize min topN (l * n) = m at *
    generalize min topN (d * n) = m2 at *
    unfold ndV
    unfold ndA at HX y6
    go_enter Try.func31, Try.ntmps31
    go_wp2_with fail
    refine (HM.out _ _ (by simp)).mono ?_
    rintro e w2 ⟨rfl, hb2⟩
    have hX2 := HX.out.2.below hb2 HX.out.2.lt
    have z6 : w2.cell? ⟨w.heap.size, 6, none⟩ = some (.int .i64 (l : Int)) := by rw [← Hl.out]; exact hX2.cell 6
    have z7 : w2.cell? ⟨w.heap.size, 7, none⟩ = some (.int .i64 (u : Int)) := by rw [← Hu.out]; exact hX2.cell 7
    have HB2 := Lib.hid (HX.out.1.trans (hb2.mono HX.out.1.size))
    have hub : ¬ ((u : Int) < 0) := by omega
    clear hb2 hX2 y6 HM
    dsimp only
    go_wp2_with fail
    rw [Hud.out]
    refine (HM2.out _ _ (by simp)).mono ?_
    rintro e w3 ⟨rfl, hb3⟩
    have HB3 := Lib.hid (HB2.out.trans (hb3.mono HB2.out.size))
    clear hb3 HM2
    dsimp only
    go_wp2_with fail
    refine (HA.out _ _ (by simp)).mono ?_
    rintro e w4 ⟨rfl, hb4⟩
    have HB4 := Lib.hid (HB3.out.trans (hb4.mono HB3.out.size))
    clear hb4 HA
    dsimp only
    go_wp2
    go_light
    go_ret
    exact ⟨ret_i (by rw [HV.out]), HB4.out⟩
  · have HV := Lib.hid (show timesW x.lo x.hi n = min topN (l * n) by unfold timesW; rw [if_neg (by omega), if_neg (by omega), if_neg (by omega), htl])
    have hhl : ¬ (x.lo < x.hi) := by omega
    clear hl htl hb1 hx1 h1t
    generalize min topN (l * n) = m at *
    unfold ndV
    unfold ndA at HX y6
    go_enter Try.func31, Try.ntmps31
    go_wp2_with fail
    refine (HM.out _ _ (by simp)).mono ?_
    rintro e w2 ⟨rfl, hb2⟩
    have hX2 := HX.out.2.below hb2 HX.out.2.lt
    have z6 : w2.cell? ⟨w.heap.size, 6, none⟩ = some (.int .i64 x.lo) := hX2.cell 6
    have z7 : w2.cell? ⟨w.heap.size, 7, none⟩ = some (.int .i64 x.hi) := hX2.cell 7
    have HB2 := Lib.hid (HX.out.1.trans (hb2.mono HX.out.1.size))
    clear hb2 hX2 y6 HM
    dsimp only
    go_wp2
    go_light
    go_ret
    exact ⟨ret_i (by rw [HV.out]), HB2.out⟩

def NWgtC (n : Nat) : Prop := ∀ (x : Nd) (P : Nat → Prop) (B : Option Addr) (cap : Nat) (w : World), x.size ≤ n → x.size ≤ 140737488355328 → (∀ y ∈ x.nodes, numsOk y) → TreesAt w P x.kids B →
  Calls Try.prog 13 #[ndV x B cap] w fun e w' => e = .returned (.int .i64 ((x.wgt : Nat) : Int)) ∧ Below w.heap.size w w'
theorem self_nodes (x : Nd) : x ∈ x.nodes := by simp [Nd.nodes]
theorem kid_nodes {x z : Nd} {i : Nat} (h : x.kids.list[i]? = some z) : ∀ y ∈ z.nodes, y ∈ x.nodes := fun y hy => by
  unfold Nd.nodes
  exact List.mem_cons_of_mem _ (nodes_kid h y hy)
set_option maxHeartbeats 2000000 in
theorem nwgt_step {n : Nat} (ih : NWgtC n) : NWgtC (n + 1) := by
  intro x P B cap w hsz hlen hok ht
  have hb1 : Below w.heap.size w (w.alloc (.cells (ndA x B cap) 37)) := (Below.refl _ _).alloc (Nat.le_refl _) _
  have hlk : x.kids.len ≤ 140737488355328 := by have := Trees.len_size x.kids; unfold Nd.size at hlen; omega
  have hks : x.kids.size + 1 = x.size := by unfold Nd.size; omega
  have HS := Lib.hid (nsum_go 13 Nd.wgt x.kids P B cap _ hlk (ht.below hb1) Nd.wgt_le (fun i z C capc w' hz ht' => by
    have := Trees.size_get x.kids i z hz
    exact ih z P C capc w' (by omega) (by omega) (fun y hy => hok y (kid_nodes hz y hy)) ht') (enters_of Try.func13 (by kernel_rfl) rfl))
  rw [← Trees.wsum_list] at HS
  have HX := Lib.hid (show _ ∧ _ from ⟨hb1, Blk.new w 37 (ndA x B cap)⟩)
  have hself := hok x (self_nodes x)
  have hsn : min topN x.kids.wsum ≤ topN := Nat.min_le_left _ _
  clear ht hok hb1
  by_cases h24 : x.kind = 2 ∨ x.kind = 4
  · have HV := Lib.hid (show x.wgt = min topN x.kids.wsum by unfold Nd.wgt wgtK; rw [if_pos h24])
    generalize min topN x.kids.wsum = s at *
    have hk : (x.kind == 2) = true ∨ ((x.kind == 2) = false ∧ (x.kind == 4) = true) := by
      rcases h24 with h | h
      · exact .inl (by rw [beq_iff_eq]; exact h)
      · exact .inr ⟨by rw [beq_eq_false_iff_ne]; omega, by rw [beq_iff_eq]; exact h⟩
    clear h24 hself
    unfold ndV
    unfold ndA at *
    rcases hk with hk | ⟨hk, hk2⟩
    all_goals
      go_enter Try.func13, Try.ntmps13
      go_wp2_with fail
      refine HS.out.mono ?_
      rintro e w2 ⟨rfl, hb2⟩
      have hX := HX.out.2.below hb2 HX.out.2.lt
      have y0 : w2.cell? ⟨w.heap.size, 0, none⟩ = some (.int .i64 x.kind) := hX.cell 0
      have y1 : w2.cell? ⟨w.heap.size, 1, none⟩ = some (.int .u64 ((word x.set.testBit 0 : Nat) : Int)) := hX.cell 1
      have y2 : w2.cell? ⟨w.heap.size, 2, none⟩ = some (.int .u64 ((word x.set.testBit 1 : Nat) : Int)) := hX.cell 2
      have y3 : w2.cell? ⟨w.heap.size, 3, none⟩ = some (.int .u64 ((word x.set.testBit 2 : Nat) : Int)) := hX.cell 3
      have y4 : w2.cell? ⟨w.heap.size, 4, none⟩ = some (.int .u64 ((word x.set.testBit 3 : Nat) : Int)) := hX.cell 4
      have y5 : w2.cell? ⟨w.heap.size, 5, none⟩ = some (.slice B x.kids.len cap) := hX.cell 5
      have y6 : w2.cell? ⟨w.heap.size, 6, none⟩ = some (.int .i64 x.lo) := hX.cell 6
      have y7 : w2.cell? ⟨w.heap.size, 7, none⟩ = some (.int .i64 x.hi) := hX.cell 7
      have HB2 := Lib.hid (HX.out.1.trans (hb2.mono HX.out.1.size))
      clear hb2 hX HS
      dsimp only
      go_wp2
      go_light
      go_ret
      exact ⟨ret_i (by rw [HV.out]), HB2.out⟩
  have hk2 : (x.kind == 2) = false := by rw [beq_eq_false_iff_ne]; omega
  have hk4 : (x.kind == 4) = false := by rw [beq_eq_false_iff_ne]; omega
  by_cases h9 : x.kind = 9
  · have HV := Lib.hid (show x.wgt = timesW x.lo x.hi (min topN x.kids.wsum) by unfold Nd.wgt wgtK; rw [if_neg h24, if_pos h9])
    obtain ⟨l0, l1, l2, l3⟩ := hself h9
    have HT := Lib.hid (fun (W : World) => ntimes_go x B cap (min topN x.kids.wsum) W hsn l0 l1 l2 l3)
    generalize min topN x.kids.wsum = s at *
    have hk9 : (x.kind == 9) = true := by rw [beq_iff_eq]; exact h9
    clear h24 hself h9
    unfold ndV at *
    unfold ndA at *
    go_enter Try.func13, Try.ntmps13
    go_wp2_with fail
    refine HS.out.mono ?_
    rintro e w2 ⟨rfl, hb2⟩
    have hX := HX.out.2.below hb2 HX.out.2.lt
    have y0 : w2.cell? ⟨w.heap.size, 0, none⟩ = some (.int .i64 x.kind) := hX.cell 0
    have y1 : w2.cell? ⟨w.heap.size, 1, none⟩ = some (.int .u64 ((word x.set.testBit 0 : Nat) : Int)) := hX.cell 1
    have y2 : w2.cell? ⟨w.heap.size, 2, none⟩ = some (.int .u64 ((word x.set.testBit 1 : Nat) : Int)) := hX.cell 2
    have y3 : w2.cell? ⟨w.heap.size, 3, none⟩ = some (.int .u64 ((word x.set.testBit 2 : Nat) : Int)) := hX.cell 3
    have y4 : w2.cell? ⟨w.heap.size, 4, none⟩ = some (.int .u64 ((word x.set.testBit 3 : Nat) : Int)) := hX.cell 4
    have y5 : w2.cell? ⟨w.heap.size, 5, none⟩ = some (.slice B x.kids.len cap) := hX.cell 5
    have y6 : w2.cell? ⟨w.heap.size, 6, none⟩ = some (.int .i64 x.lo) := hX.cell 6
    have y7 : w2.cell? ⟨w.heap.size, 7, none⟩ = some (.int .i64 x.hi) := hX.cell 7
    have HB2 := Lib.hid (HX.out.1.trans (hb2.mono HX.out.1.size))
    clear hb2 hX HS
    dsimp only
    go_wp2_with fail
    refine (HT.out _).mono ?_
    rintro e w3 ⟨rfl, hb3⟩
    have HB3 := Lib.hid (HB2.out.trans (hb3.mono HB2.out.size))
    clear hb3 HT y0 y1 y2 y3 y4 y5 y6 y7
    dsimp only
    go_wp2
    go_light
    go_ret
    exact ⟨ret_i (by rw [HV.out]), HB3.out⟩
  · have HV := Lib.hid (show x.wgt = min topN (min topN x.kids.wsum + 1) by unfold Nd.wgt wgtK; rw [if_neg h24, if_neg h9])
    have HA := Lib.hid (fun (W : World) (g : Nat) (hg : g = W.heap.size) => add2_new W g (min topN x.kids.wsum) 1 hg hsn (by decide))
    generalize min topN x.kids.wsum = s at *
    have hk9 : (x.kind == 9) = false := by rw [beq_eq_false_iff_ne]; exact h9
    clear h24 hself h9
    unfold ndV at *
    unfold ndA at *
    go_enter Try.func13, Try.ntmps13
    go_wp2_with fail
    refine HS.out.mono ?_
    rintro e w2 ⟨rfl, hb2⟩
    have hX := HX.out.2.below hb2 HX.out.2.lt
    have y0 : w2.cell? ⟨w.heap.size, 0, none⟩ = some (.int .i64 x.kind) := hX.cell 0
    have y1 : w2.cell? ⟨w.heap.size, 1, none⟩ = some (.int .u64 ((word x.set.testBit 0 : Nat) : Int)) := hX.cell 1
    have y2 : w2.cell? ⟨w.heap.size, 2, none⟩ = some (.int .u64 ((word x.set.testBit 1 : Nat) : Int)) := hX.cell 2
    have y3 : w2.cell? ⟨w.heap.size, 3, none⟩ = some (.int .u64 ((word x.set.testBit 2 : Nat) : Int)) := hX.cell 3
    have y4 : w2.cell? ⟨w.heap.size, 4, none⟩ = some (.int .u64 ((word x.set.testBit 3 : Nat) : Int)) := hX.cell 4
    have y5 : w2.cell? ⟨w.heap.size, 5, none⟩ = some (.slice B x.kids.len cap) := hX.cell 5
    have y6 : w2.cell? ⟨w.heap.size, 6, none⟩ = some (.int .i64 x.lo) := hX.cell 6
    have y7 : w2.cell? ⟨w.heap.size, 7, none⟩ = some (.int .i64 x.hi) := hX.cell 7
    have HB2 := Lib.hid (HX.out.1.trans (hb2.mono HX.out.1.size))
    clear hb2 hX HS
    dsimp only
    go_wp2_with fail
    refine (HA.out _ _ (by simp)).mono ?_
    rintro e w3 ⟨rfl, hb3⟩
    have HB3 := Lib.hid (HB2.out.trans (hb3.mono HB2.out.size))
    clear hb3 HA y0 y1 y2 y3 y4 y5 y6 y7
    dsimp only
    go_wp2
    go_light
    go_ret
    exact ⟨ret_i (by rw [HV.out]), HB3.out⟩
theorem nwgt_go (x : Nd) (P : Nat → Prop) (B : Option Addr) (cap : Nat) (w : World) (hlen : x.size ≤ 140737488355328) (hok : ∀ y ∈ x.nodes, numsOk y) (ht : TreesAt w P x.kids B) :
    Calls Try.prog 13 #[ndV x B cap] w fun e w' => e = .returned (.int .i64 ((x.wgt : Nat) : Int)) ∧ Below w.heap.size w w' := by
  have h : ∀ n, NWgtC n := by
    intro n
    induction n with
    | zero => exact fun x _ _ _ _ h => by unfold Nd.size at h; omega
    | succ n ih => exact nwgt_step ih
  exact h x.size x P B cap w (Nat.le_refl _) hlen hok ht

end Go.Proofs.Ytgbpcigfbpghgaa
