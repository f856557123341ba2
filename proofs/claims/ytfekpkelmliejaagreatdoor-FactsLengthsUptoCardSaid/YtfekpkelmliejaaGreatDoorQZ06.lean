/-
  The reference of chapter 10: Shortest. The reference of chapter 10: long. The contract of parse.Text.
-/
import Derived.Test.YtfekpkelmliejaaGreatDoorQZ05
import Derived.Test.YtfekpkelmliejaaGreatDoorQZ03
namespace Go.Proofs.YtfekpkelmliejaaGreatDoor
open Go.RowKit
set_option linter.unusedSimpArgs false
set_option linter.unusedVariables false
set_option maxRecDepth 100000

theorem rnum_int (w : World) (g : Nat) (a b : Int) (hg : g = w.heap.size) (ha : 0 ≤ a ∧ a ≤ topI) (hb : 0 ≤ b ∧ b ≤ topI) :
    Calls Tryz.prog 68 #[.int .i64 1099511627776, .slice (some ⟨g, 0, none⟩) 2 2] (w.alloc (.cells #[.int .i64 a, .int .i64 b] 3)) fun e w' => e = .returned (.int .i64 (addF a b)) ∧ Below w.heap.size w w' := by
  obtain ⟨m, rfl⟩ := Int.eq_ofNat_of_zero_le ha.1
  obtain ⟨n, rfl⟩ := Int.eq_ofNat_of_zero_le hb.1
  have h1 : m ≤ topN := by unfold topI at ha; unfold topN; omega
  have h2 : n ≤ topN := by unfold topI at hb; unfold topN; omega
  rw [addF_nat m n (by unfold endF; unfold topI at ha; omega) (by unfold endF; unfold topI at hb; omega)]
  exact rnum_new w g m n hg h1 h2
theorem rmul_int (w : World) (g : Nat) (a b : Int) (hg : g = w.heap.size) (ha : 0 ≤ a ∧ a ≤ topI) (hb : 0 ≤ b ∧ b ≤ topI) :
    Calls Tryz.prog 69 #[.int .i64 1099511627776, .slice (some ⟨g, 0, none⟩) 2 2] (w.alloc (.cells #[.int .i64 a, .int .i64 b] 3)) fun e w' => e = .returned (.int .i64 (timF a b)) ∧ Below w.heap.size w w' := by
  obtain ⟨m, rfl⟩ := Int.eq_ofNat_of_zero_le ha.1
  obtain ⟨n, rfl⟩ := Int.eq_ofNat_of_zero_le hb.1
  have h1 : m ≤ topN := by unfold topI at ha; unfold topN; omega
  have h2 : n ≤ topN := by unfold topI at hb; unfold topN; omega
  have e : timF (m : Int) (n : Int) = ((min topN (m * n) : Nat) : Int) := by
    by_cases h0 : m = 0
    · subst h0; simp [timF]
    by_cases h3 : n = 0
    · subst h3; simp [timF]
    exact timF_nat m n h0 h3 (by unfold endF; unfold topI at ha; omega) (by unfold endF; unfold topI at hb; omega)
  rw [e]
  exact rmul_new w g m n hg h1 h2
theorem tim_one {s : Int} (h0 : 0 ≤ s) (h1 : s ≤ topI) : timF 1 s = s := by
  unfold timF
  unfold topI at *
  by_cases h : s = 0
  · rw [if_pos (.inr h), h]
  · rw [if_neg (by omega), if_neg (by unfold endF; omega)]
    omega
theorem rep_short {a : SumS} {lo hi : Int} (h : (repeatedF a lo hi).hollow = false) (hh : hi ≠ 0) (hl : lo ≠ 0) : a.hollow = false ∧ (repeatedF a lo hi).short = timF lo a.short := by
  rw [hol_rep] at h
  have ha : a.hollow = false := by simpa [hh, hl] using h
  refine ⟨ha, ?_⟩
  unfold repeatedF
  rw [if_neg (by simp [hh, ha]), if_neg (by simp [ha])]
theorem rep_short0 (a : SumS) (hi : Int) : (repeatedF a 0 hi).short = 0 := by
  unfold repeatedF
  split
  · rfl
  · rename_i h
    have : ¬ a.hollow = true := fun h' => h (.inr ⟨h', rfl⟩)
    rw [if_neg this]
    show timF 0 a.short = 0
    unfold timF
    rw [if_pos (Or.inl rfl)]
def KidS (x : Nd) (P : Nat → Prop) : Prop := ∀ (i : Nat) (z : Nd) (C : Option Addr) (capc : Nat) (w' : World), x.kids.list[i]? = some z → TreesAt w' P z.kids C → Calls Tryz.prog 17 #[ndV z C capc] w' fun e w'' => e = .returned (.int .i64 z.sum.short) ∧ Below w'.heap.size w' w''
theorem rs_no (x : Nd) (P : Nat → Prop) (B : Option Addr) (cap : Nat) (w : World) (hs : x.size ≤ 140737488355328) (hl : x.kids.len ≤ 140737488355328) (ho : ∀ y ∈ x.nodes, aloneN y = true) (ht : TreesAt w P x.kids B) (hG : KidS x P) (hh : x.sum.hollow = true) : Calls Tryz.prog 17 #[ndV x B cap] w fun e w' => e = .returned (.int .i64 x.sum.short) ∧ Below w.heap.size w w' := by
  have HV := Lib.hid (show x.sum.short = -1 by rw [(ok_sum ho).none hh]; rfl)
  have hb : Below w.heap.size w (w.alloc (.cells #[.int .i64 x.kind, .int .u64 ((word (x.set.testBit) 0 : Nat) : Int), .int .u64 ((word (x.set.testBit) 1 : Nat) : Int), .int .u64 ((word (x.set.testBit) 2 : Nat) : Int), .int .u64 ((word (x.set.testBit) 3 : Nat) : Int), .slice B x.kids.len cap, .int .i64 x.lo, .int .i64 x.hi] 28)) := (Below.refl _ _).alloc (Nat.le_refl _) _
  have HB := Lib.hid hb
  have HC := Lib.hid (rhollow_go x P B cap _ hs ho (ht.below hb))
  have HH := Lib.hid hh
  clear hb ht hG ho hs hh
  unfold ndV at HC ⊢
  go_enter Tryz.func17, Tryz.ntmps17
  go_wp2_with fail
  refine HC.out.mono ?_
  rintro e w2 ⟨rfl, hb2⟩
  have HB2 := Lib.hid (HB.out.trans (hb2.mono HB.out.size))
  clear HC hb2
  rw [HH.out]
  dsimp only
  go_wp2
  go_light
  go_ret
  exact ⟨by rw [HV.out]; rfl, HB2.out⟩
set_option maxHeartbeats 2000000 in
theorem rs_two (x : Nd) (P : Nat → Prop) (B : Option Addr) (cap : Nat) (w : World) (hs : x.size ≤ 140737488355328) (hl : x.kids.len ≤ 140737488355328) (ho : ∀ y ∈ x.nodes, aloneN y = true) (ht : TreesAt w P x.kids B) (hG : KidS x P) (hh : x.sum.hollow = false) (hk : x.kind = 2) : Calls Tryz.prog 17 #[ndV x B cap] w fun e w' => e = .returned (.int .i64 x.sum.short) ∧ Below w.heap.size w w' := by
  have HV := Lib.hid (show x.sum.short = 0 by (rw [sum_two hk]; rfl))
  have HH := Lib.hid hh
  clear hh
  have hb : Below w.heap.size w (w.alloc (.cells #[.int .i64 x.kind, .int .u64 ((word (x.set.testBit) 0 : Nat) : Int), .int .u64 ((word (x.set.testBit) 1 : Nat) : Int), .int .u64 ((word (x.set.testBit) 2 : Nat) : Int), .int .u64 ((word (x.set.testBit) 3 : Nat) : Int), .slice B x.kids.len cap, .int .i64 x.lo, .int .i64 x.hi] 28)) := (Below.refl _ _).alloc (Nat.le_refl _) _
  have HB := Lib.hid hb
  have HN := Lib.hid (Blk.new w 28 #[.int .i64 x.kind, .int .u64 ((word (x.set.testBit) 0 : Nat) : Int), .int .u64 ((word (x.set.testBit) 1 : Nat) : Int), .int .u64 ((word (x.set.testBit) 2 : Nat) : Int), .int .u64 ((word (x.set.testBit) 3 : Nat) : Int), .slice B x.kids.len cap, .int .i64 x.lo, .int .i64 x.hi])
  have HT := Lib.hid (ht.below hb)
  have HG := Lib.hid hG
  have HO := Lib.hid ho
  have HC := Lib.hid (rhollow_go x P B cap _ hs ho (ht.below hb))
  clear hb ht hG ho hs
  unfold ndV at HC ⊢
  rw [hk] at HN HT HB HC ⊢
  go_enter Tryz.func17, Tryz.ntmps17
  go_upto_region 1 with fail
  generalize (w.alloc (.cells #[.int .i64 2, .int .u64 ((word (x.set.testBit) 0 : Nat) : Int), .int .u64 ((word (x.set.testBit) 1 : Nat) : Int), .int .u64 ((word (x.set.testBit) 2 : Nat) : Int), .int .u64 ((word (x.set.testBit) 3 : Nat) : Int), .slice B x.kids.len cap, .int .i64 x.lo, .int .i64 x.hi] 28)) = w1 at *
  have n0 := (HN.out).cell 0
  have n1 := (HN.out).cell 1
  have n2 := (HN.out).cell 2
  have n3 := (HN.out).cell 3
  have n4 := (HN.out).cell 4
  have n5 := (HN.out).cell 5
  have n6 := (HN.out).cell 6
  have n7 := (HN.out).cell 7
  have hln := (HN.out).lt
  simp only [List.getElem?_toArray, List.getElem?_cons_zero, List.getElem?_cons_succ] at n0 n1 n2 n3 n4 n5 n6 n7

  go_wp2_with fail
  refine HC.out.mono ?_
  rintro e w2 ⟨rfl, hb2⟩
  have HN2 := Lib.hid (HN.out.below hb2 HN.out.lt)
  have HT2 := Lib.hid (HT.out.below hb2)
  have HB2 := Lib.hid (HB.out.trans (hb2.mono HB.out.size))
  clear n0 n1 n2 n3 n4 n5 n6 n7 hln

  clear HC hb2 HN HT HB
  rw [HH.out]
  dsimp only
  have n0 := (HN2.out).cell 0
  have n1 := (HN2.out).cell 1
  have n2 := (HN2.out).cell 2
  have n3 := (HN2.out).cell 3
  have n4 := (HN2.out).cell 4
  have n5 := (HN2.out).cell 5
  have n6 := (HN2.out).cell 6
  have n7 := (HN2.out).cell 7
  have hln := (HN2.out).lt
  simp only [List.getElem?_toArray, List.getElem?_cons_zero, List.getElem?_cons_succ] at n0 n1 n2 n3 n4 n5 n6 n7
  go_wp2
  go_light
  go_ret
  exact ⟨by rw [HV.out]; rfl, HB2.out⟩
set_option maxHeartbeats 2000000 in
theorem rs_set (x : Nd) (P : Nat → Prop) (B : Option Addr) (cap : Nat) (w : World) (hs : x.size ≤ 140737488355328) (hl : x.kids.len ≤ 140737488355328) (ho : ∀ y ∈ x.nodes, aloneN y = true) (ht : TreesAt w P x.kids B) (hG : KidS x P) (hh : x.sum.hollow = false) (hk : x.kind = 3) : Calls Tryz.prog 17 #[ndV x B cap] w fun e w' => e = .returned (.int .i64 x.sum.short) ∧ Below w.heap.size w w' := by
  have HV := Lib.hid (show x.sum.short = 1 by (rw [sum_set hk] at hh ⊢; split at hh; cases hh; rename_i h; rw [if_neg h]))
  have HH := Lib.hid hh
  clear hh
  have hb : Below w.heap.size w (w.alloc (.cells #[.int .i64 x.kind, .int .u64 ((word (x.set.testBit) 0 : Nat) : Int), .int .u64 ((word (x.set.testBit) 1 : Nat) : Int), .int .u64 ((word (x.set.testBit) 2 : Nat) : Int), .int .u64 ((word (x.set.testBit) 3 : Nat) : Int), .slice B x.kids.len cap, .int .i64 x.lo, .int .i64 x.hi] 28)) := (Below.refl _ _).alloc (Nat.le_refl _) _
  have HB := Lib.hid hb
  have HN := Lib.hid (Blk.new w 28 #[.int .i64 x.kind, .int .u64 ((word (x.set.testBit) 0 : Nat) : Int), .int .u64 ((word (x.set.testBit) 1 : Nat) : Int), .int .u64 ((word (x.set.testBit) 2 : Nat) : Int), .int .u64 ((word (x.set.testBit) 3 : Nat) : Int), .slice B x.kids.len cap, .int .i64 x.lo, .int .i64 x.hi])
  have HT := Lib.hid (ht.below hb)
  have HG := Lib.hid hG
  have HO := Lib.hid ho
  have HC := Lib.hid (rhollow_go x P B cap _ hs ho (ht.below hb))
  clear hb ht hG ho hs
  unfold ndV at HC ⊢
  rw [hk] at HN HT HB HC ⊢
  go_enter Tryz.func17, Tryz.ntmps17
  go_upto_region 1 with fail
  generalize (w.alloc (.cells #[.int .i64 3, .int .u64 ((word (x.set.testBit) 0 : Nat) : Int), .int .u64 ((word (x.set.testBit) 1 : Nat) : Int), .int .u64 ((word (x.set.testBit) 2 : Nat) : Int), .int .u64 ((word (x.set.testBit) 3 : Nat) : Int), .slice B x.kids.len cap, .int .i64 x.lo, .int .i64 x.hi] 28)) = w1 at *
  have n0 := (HN.out).cell 0
  have n1 := (HN.out).cell 1
  have n2 := (HN.out).cell 2
  have n3 := (HN.out).cell 3
  have n4 := (HN.out).cell 4
  have n5 := (HN.out).cell 5
  have n6 := (HN.out).cell 6
  have n7 := (HN.out).cell 7
  have hln := (HN.out).lt
  simp only [List.getElem?_toArray, List.getElem?_cons_zero, List.getElem?_cons_succ] at n0 n1 n2 n3 n4 n5 n6 n7

  go_wp2_with fail
  refine HC.out.mono ?_
  rintro e w2 ⟨rfl, hb2⟩
  have HN2 := Lib.hid (HN.out.below hb2 HN.out.lt)
  have HT2 := Lib.hid (HT.out.below hb2)
  have HB2 := Lib.hid (HB.out.trans (hb2.mono HB.out.size))
  clear n0 n1 n2 n3 n4 n5 n6 n7 hln

  clear HC hb2 HN HT HB
  rw [HH.out]
  dsimp only
  have n0 := (HN2.out).cell 0
  have n1 := (HN2.out).cell 1
  have n2 := (HN2.out).cell 2
  have n3 := (HN2.out).cell 3
  have n4 := (HN2.out).cell 4
  have n5 := (HN2.out).cell 5
  have n6 := (HN2.out).cell 6
  have n7 := (HN2.out).cell 7
  have hln := (HN2.out).lt
  simp only [List.getElem?_toArray, List.getElem?_cons_zero, List.getElem?_cons_succ] at n0 n1 n2 n3 n4 n5 n6 n7
  go_wp2
  go_light
  go_ret
  exact ⟨by rw [HV.out]; rfl, HB2.out⟩
set_option maxHeartbeats 2000000 in
theorem rs_star (x : Nd) (P : Nat → Prop) (B : Option Addr) (cap : Nat) (w : World) (hs : x.size ≤ 140737488355328) (hl : x.kids.len ≤ 140737488355328) (ho : ∀ y ∈ x.nodes, aloneN y = true) (ht : TreesAt w P x.kids B) (hG : KidS x P) (hh : x.sum.hollow = false) (hk : x.kind = 6) (z : Nd) (hz : x.kids.list[0]? = some z) : Calls Tryz.prog 17 #[ndV x B cap] w fun e w' => e = .returned (.int .i64 x.sum.short) ∧ Below w.heap.size w w' := by
  have HV := Lib.hid (show x.sum.short = 0 by rw [sum_star hk hz, rep_short0])
  have HH := Lib.hid hh
  clear hh
  have hb : Below w.heap.size w (w.alloc (.cells #[.int .i64 x.kind, .int .u64 ((word (x.set.testBit) 0 : Nat) : Int), .int .u64 ((word (x.set.testBit) 1 : Nat) : Int), .int .u64 ((word (x.set.testBit) 2 : Nat) : Int), .int .u64 ((word (x.set.testBit) 3 : Nat) : Int), .slice B x.kids.len cap, .int .i64 x.lo, .int .i64 x.hi] 28)) := (Below.refl _ _).alloc (Nat.le_refl _) _
  have HB := Lib.hid hb
  have HN := Lib.hid (Blk.new w 28 #[.int .i64 x.kind, .int .u64 ((word (x.set.testBit) 0 : Nat) : Int), .int .u64 ((word (x.set.testBit) 1 : Nat) : Int), .int .u64 ((word (x.set.testBit) 2 : Nat) : Int), .int .u64 ((word (x.set.testBit) 3 : Nat) : Int), .slice B x.kids.len cap, .int .i64 x.lo, .int .i64 x.hi])
  have HT := Lib.hid (ht.below hb)
  have HG := Lib.hid hG
  have HO := Lib.hid ho
  have HC := Lib.hid (rhollow_go x P B cap _ hs ho (ht.below hb))
  clear hb ht hG ho hs
  unfold ndV at HC ⊢
  rw [hk] at HN HT HB HC ⊢
  go_enter Tryz.func17, Tryz.ntmps17
  go_upto_region 1 with fail
  generalize (w.alloc (.cells #[.int .i64 6, .int .u64 ((word (x.set.testBit) 0 : Nat) : Int), .int .u64 ((word (x.set.testBit) 1 : Nat) : Int), .int .u64 ((word (x.set.testBit) 2 : Nat) : Int), .int .u64 ((word (x.set.testBit) 3 : Nat) : Int), .slice B x.kids.len cap, .int .i64 x.lo, .int .i64 x.hi] 28)) = w1 at *
  have n0 := (HN.out).cell 0
  have n1 := (HN.out).cell 1
  have n2 := (HN.out).cell 2
  have n3 := (HN.out).cell 3
  have n4 := (HN.out).cell 4
  have n5 := (HN.out).cell 5
  have n6 := (HN.out).cell 6
  have n7 := (HN.out).cell 7
  have hln := (HN.out).lt
  simp only [List.getElem?_toArray, List.getElem?_cons_zero, List.getElem?_cons_succ] at n0 n1 n2 n3 n4 n5 n6 n7

  go_wp2_with fail
  refine HC.out.mono ?_
  rintro e w2 ⟨rfl, hb2⟩
  have HN2 := Lib.hid (HN.out.below hb2 HN.out.lt)
  have HT2 := Lib.hid (HT.out.below hb2)
  have HB2 := Lib.hid (HB.out.trans (hb2.mono HB.out.size))
  clear n0 n1 n2 n3 n4 n5 n6 n7 hln

  clear HC hb2 HN HT HB
  rw [HH.out]
  dsimp only
  have n0 := (HN2.out).cell 0
  have n1 := (HN2.out).cell 1
  have n2 := (HN2.out).cell 2
  have n3 := (HN2.out).cell 3
  have n4 := (HN2.out).cell 4
  have n5 := (HN2.out).cell 5
  have n6 := (HN2.out).cell 6
  have n7 := (HN2.out).cell 7
  have hln := (HN2.out).lt
  simp only [List.getElem?_toArray, List.getElem?_cons_zero, List.getElem?_cons_succ] at n0 n1 n2 n3 n4 n5 n6 n7
  go_wp2
  go_light
  go_ret
  exact ⟨by rw [HV.out]; rfl, HB2.out⟩
set_option maxHeartbeats 2000000 in
theorem rs_opt (x : Nd) (P : Nat → Prop) (B : Option Addr) (cap : Nat) (w : World) (hs : x.size ≤ 140737488355328) (hl : x.kids.len ≤ 140737488355328) (ho : ∀ y ∈ x.nodes, aloneN y = true) (ht : TreesAt w P x.kids B) (hG : KidS x P) (hh : x.sum.hollow = false) (hk : x.kind = 8) (z : Nd) (hz : x.kids.list[0]? = some z) : Calls Tryz.prog 17 #[ndV x B cap] w fun e w' => e = .returned (.int .i64 x.sum.short) ∧ Below w.heap.size w w' := by
  have HV := Lib.hid (show x.sum.short = 0 by rw [sum_opt hk hz, rep_short0])
  have HH := Lib.hid hh
  clear hh
  have hb : Below w.heap.size w (w.alloc (.cells #[.int .i64 x.kind, .int .u64 ((word (x.set.testBit) 0 : Nat) : Int), .int .u64 ((word (x.set.testBit) 1 : Nat) : Int), .int .u64 ((word (x.set.testBit) 2 : Nat) : Int), .int .u64 ((word (x.set.testBit) 3 : Nat) : Int), .slice B x.kids.len cap, .int .i64 x.lo, .int .i64 x.hi] 28)) := (Below.refl _ _).alloc (Nat.le_refl _) _
  have HB := Lib.hid hb
  have HN := Lib.hid (Blk.new w 28 #[.int .i64 x.kind, .int .u64 ((word (x.set.testBit) 0 : Nat) : Int), .int .u64 ((word (x.set.testBit) 1 : Nat) : Int), .int .u64 ((word (x.set.testBit) 2 : Nat) : Int), .int .u64 ((word (x.set.testBit) 3 : Nat) : Int), .slice B x.kids.len cap, .int .i64 x.lo, .int .i64 x.hi])
  have HT := Lib.hid (ht.below hb)
  have HG := Lib.hid hG
  have HO := Lib.hid ho
  have HC := Lib.hid (rhollow_go x P B cap _ hs ho (ht.below hb))
  clear hb ht hG ho hs
  unfold ndV at HC ⊢
  rw [hk] at HN HT HB HC ⊢
  go_enter Tryz.func17, Tryz.ntmps17
  go_upto_region 1 with fail
  generalize (w.alloc (.cells #[.int .i64 8, .int .u64 ((word (x.set.testBit) 0 : Nat) : Int), .int .u64 ((word (x.set.testBit) 1 : Nat) : Int), .int .u64 ((word (x.set.testBit) 2 : Nat) : Int), .int .u64 ((word (x.set.testBit) 3 : Nat) : Int), .slice B x.kids.len cap, .int .i64 x.lo, .int .i64 x.hi] 28)) = w1 at *
  have n0 := (HN.out).cell 0
  have n1 := (HN.out).cell 1
  have n2 := (HN.out).cell 2
  have n3 := (HN.out).cell 3
  have n4 := (HN.out).cell 4
  have n5 := (HN.out).cell 5
  have n6 := (HN.out).cell 6
  have n7 := (HN.out).cell 7
  have hln := (HN.out).lt
  simp only [List.getElem?_toArray, List.getElem?_cons_zero, List.getElem?_cons_succ] at n0 n1 n2 n3 n4 n5 n6 n7

  go_wp2_with fail
  refine HC.out.mono ?_
  rintro e w2 ⟨rfl, hb2⟩
  have HN2 := Lib.hid (HN.out.below hb2 HN.out.lt)
  have HT2 := Lib.hid (HT.out.below hb2)
  have HB2 := Lib.hid (HB.out.trans (hb2.mono HB.out.size))
  clear n0 n1 n2 n3 n4 n5 n6 n7 hln

  clear HC hb2 HN HT HB
  rw [HH.out]
  dsimp only
  have n0 := (HN2.out).cell 0
  have n1 := (HN2.out).cell 1
  have n2 := (HN2.out).cell 2
  have n3 := (HN2.out).cell 3
  have n4 := (HN2.out).cell 4
  have n5 := (HN2.out).cell 5
  have n6 := (HN2.out).cell 6
  have n7 := (HN2.out).cell 7
  have hln := (HN2.out).lt
  simp only [List.getElem?_toArray, List.getElem?_cons_zero, List.getElem?_cons_succ] at n0 n1 n2 n3 n4 n5 n6 n7
  go_wp2
  go_light
  go_ret
  exact ⟨by rw [HV.out]; rfl, HB2.out⟩
set_option maxHeartbeats 2000000 in
theorem rs_plus (x : Nd) (P : Nat → Prop) (B : Option Addr) (cap : Nat) (w : World) (hs : x.size ≤ 140737488355328) (hl : x.kids.len ≤ 140737488355328) (ho : ∀ y ∈ x.nodes, aloneN y = true) (ht : TreesAt w P x.kids B) (hG : KidS x P) (hh : x.sum.hollow = false) (hk : x.kind = 7) (z : Nd) (hz : x.kids.list[0]? = some z) (hk1 : x.kids.len = 1) : Calls Tryz.prog 17 #[ndV x B cap] w fun e w' => e = .returned (.int .i64 x.sum.short) ∧ Below w.heap.size w w' := by
  have HV := Lib.hid (show x.sum.short = z.sum.short by
    rw [sum_plus hk hz] at hh ⊢
    obtain ⟨h1, h2⟩ := rep_short hh (by decide) (by decide)
    have := (ok_sum (x := z) (fun y hy => ho y (kid_nodes hz y hy))).short h1
    rw [h2, tim_one this.1 this.2])
  have HH := Lib.hid hh
  have HK1 := Lib.hid hk1
  clear hh hk1
  have hb : Below w.heap.size w (w.alloc (.cells #[.int .i64 x.kind, .int .u64 ((word (x.set.testBit) 0 : Nat) : Int), .int .u64 ((word (x.set.testBit) 1 : Nat) : Int), .int .u64 ((word (x.set.testBit) 2 : Nat) : Int), .int .u64 ((word (x.set.testBit) 3 : Nat) : Int), .slice B x.kids.len cap, .int .i64 x.lo, .int .i64 x.hi] 28)) := (Below.refl _ _).alloc (Nat.le_refl _) _
  have HB := Lib.hid hb
  have HN := Lib.hid (Blk.new w 28 #[.int .i64 x.kind, .int .u64 ((word (x.set.testBit) 0 : Nat) : Int), .int .u64 ((word (x.set.testBit) 1 : Nat) : Int), .int .u64 ((word (x.set.testBit) 2 : Nat) : Int), .int .u64 ((word (x.set.testBit) 3 : Nat) : Int), .slice B x.kids.len cap, .int .i64 x.lo, .int .i64 x.hi])
  have HT := Lib.hid (ht.below hb)
  have HG := Lib.hid hG
  have HO := Lib.hid ho
  have HC := Lib.hid (rhollow_go x P B cap _ hs ho (ht.below hb))
  clear hb ht hG ho hs
  unfold ndV at HC ⊢
  rw [hk] at HN HT HB HC ⊢
  go_enter Tryz.func17, Tryz.ntmps17
  go_upto_region 1 with fail
  generalize (w.alloc (.cells #[.int .i64 7, .int .u64 ((word (x.set.testBit) 0 : Nat) : Int), .int .u64 ((word (x.set.testBit) 1 : Nat) : Int), .int .u64 ((word (x.set.testBit) 2 : Nat) : Int), .int .u64 ((word (x.set.testBit) 3 : Nat) : Int), .slice B x.kids.len cap, .int .i64 x.lo, .int .i64 x.hi] 28)) = w1 at *
  have n0 := (HN.out).cell 0
  have n1 := (HN.out).cell 1
  have n2 := (HN.out).cell 2
  have n3 := (HN.out).cell 3
  have n4 := (HN.out).cell 4
  have n5 := (HN.out).cell 5
  have n6 := (HN.out).cell 6
  have n7 := (HN.out).cell 7
  have hln := (HN.out).lt
  simp only [List.getElem?_toArray, List.getElem?_cons_zero, List.getElem?_cons_succ] at n0 n1 n2 n3 n4 n5 n6 n7

  go_wp2_with fail
  refine HC.out.mono ?_
  rintro e w2 ⟨rfl, hb2⟩
  have HN2 := Lib.hid (HN.out.below hb2 HN.out.lt)
  have HT2 := Lib.hid (HT.out.below hb2)
  have HB2 := Lib.hid (HB.out.trans (hb2.mono HB.out.size))
  clear n0 n1 n2 n3 n4 n5 n6 n7 hln

  clear HC hb2 HN HT HB
  rw [HH.out]
  dsimp only
  have hk1 := HK1.out
  obtain ⟨b, o, C, capc, rfl, hbP, _, ⟨c0, c1, c2, c3, c4, c5, c6, c7⟩, hkz⟩ := HT2.out.get hz
  simp only [Nat.zero_mul, Nat.add_zero] at c0 c1 c2 c3 c4 c5 c6 c7
  have hblk := World.block_lt_of_cell? w2 _ c0
  have HC := Lib.hid (HG.out 0 z C capc w2 hz hkz)
  clear hz hkz
  unfold ndV at HC
  have n0 := (HN2.out).cell 0
  have n1 := (HN2.out).cell 1
  have n2 := (HN2.out).cell 2
  have n3 := (HN2.out).cell 3
  have n4 := (HN2.out).cell 4
  have n5 := (HN2.out).cell 5
  have n6 := (HN2.out).cell 6
  have n7 := (HN2.out).cell 7
  have hln := (HN2.out).lt
  simp only [List.getElem?_toArray, List.getElem?_cons_zero, List.getElem?_cons_succ] at n0 n1 n2 n3 n4 n5 n6 n7
  go_wp2_with fail
  refine HC.out.mono ?_
  rintro e w3 ⟨rfl, hb3⟩
  have HB3 := Lib.hid (HB2.out.trans (hb3.mono HB2.out.size))
  clear n0 n1 n2 n3 n4 n5 n6 n7 hln
  clear hb3 c0 c1 c2 c3 c4 c5 c6 c7 hblk HC
  dsimp only
  go_wp2
  go_light
  go_ret
  exact ⟨by rw [HV.out]; rfl, HB3.out⟩
set_option maxHeartbeats 2000000 in
theorem rs_rep0 (x : Nd) (P : Nat → Prop) (B : Option Addr) (cap : Nat) (w : World) (hs : x.size ≤ 140737488355328) (hl : x.kids.len ≤ 140737488355328) (ho : ∀ y ∈ x.nodes, aloneN y = true) (ht : TreesAt w P x.kids B) (hG : KidS x P) (hh : x.sum.hollow = false) (hk : x.kind = 9) (z : Nd) (hz : x.kids.list[0]? = some z) (h0 : x.lo = 0) : Calls Tryz.prog 17 #[ndV x B cap] w fun e w' => e = .returned (.int .i64 x.sum.short) ∧ Below w.heap.size w w' := by
  have HV := Lib.hid (show x.sum.short = 0 by rw [sum_rep hk hz, h0, rep_short0])
  have HH := Lib.hid hh
  have hd : (x.lo == 0) = true := by rw [h0]; rfl
  clear hh h0
  have hb : Below w.heap.size w (w.alloc (.cells #[.int .i64 x.kind, .int .u64 ((word (x.set.testBit) 0 : Nat) : Int), .int .u64 ((word (x.set.testBit) 1 : Nat) : Int), .int .u64 ((word (x.set.testBit) 2 : Nat) : Int), .int .u64 ((word (x.set.testBit) 3 : Nat) : Int), .slice B x.kids.len cap, .int .i64 x.lo, .int .i64 x.hi] 28)) := (Below.refl _ _).alloc (Nat.le_refl _) _
  have HB := Lib.hid hb
  have HN := Lib.hid (Blk.new w 28 #[.int .i64 x.kind, .int .u64 ((word (x.set.testBit) 0 : Nat) : Int), .int .u64 ((word (x.set.testBit) 1 : Nat) : Int), .int .u64 ((word (x.set.testBit) 2 : Nat) : Int), .int .u64 ((word (x.set.testBit) 3 : Nat) : Int), .slice B x.kids.len cap, .int .i64 x.lo, .int .i64 x.hi])
  have HT := Lib.hid (ht.below hb)
  have HG := Lib.hid hG
  have HO := Lib.hid ho
  have HC := Lib.hid (rhollow_go x P B cap _ hs ho (ht.below hb))
  clear hb ht hG ho hs
  unfold ndV at HC ⊢
  rw [hk] at HN HT HB HC ⊢
  go_enter Tryz.func17, Tryz.ntmps17
  go_upto_region 1 with fail
  generalize (w.alloc (.cells #[.int .i64 9, .int .u64 ((word (x.set.testBit) 0 : Nat) : Int), .int .u64 ((word (x.set.testBit) 1 : Nat) : Int), .int .u64 ((word (x.set.testBit) 2 : Nat) : Int), .int .u64 ((word (x.set.testBit) 3 : Nat) : Int), .slice B x.kids.len cap, .int .i64 x.lo, .int .i64 x.hi] 28)) = w1 at *
  have n0 := (HN.out).cell 0
  have n1 := (HN.out).cell 1
  have n2 := (HN.out).cell 2
  have n3 := (HN.out).cell 3
  have n4 := (HN.out).cell 4
  have n5 := (HN.out).cell 5
  have n6 := (HN.out).cell 6
  have n7 := (HN.out).cell 7
  have hln := (HN.out).lt
  simp only [List.getElem?_toArray, List.getElem?_cons_zero, List.getElem?_cons_succ] at n0 n1 n2 n3 n4 n5 n6 n7

  go_wp2_with fail
  refine HC.out.mono ?_
  rintro e w2 ⟨rfl, hb2⟩
  have HN2 := Lib.hid (HN.out.below hb2 HN.out.lt)
  have HT2 := Lib.hid (HT.out.below hb2)
  have HB2 := Lib.hid (HB.out.trans (hb2.mono HB.out.size))
  clear n0 n1 n2 n3 n4 n5 n6 n7 hln

  clear HC hb2 HN HT HB
  rw [HH.out]
  dsimp only
  have n0 := (HN2.out).cell 0
  have n1 := (HN2.out).cell 1
  have n2 := (HN2.out).cell 2
  have n3 := (HN2.out).cell 3
  have n4 := (HN2.out).cell 4
  have n5 := (HN2.out).cell 5
  have n6 := (HN2.out).cell 6
  have n7 := (HN2.out).cell 7
  have hln := (HN2.out).lt
  simp only [List.getElem?_toArray, List.getElem?_cons_zero, List.getElem?_cons_succ] at n0 n1 n2 n3 n4 n5 n6 n7
  go_wp2
  go_light
  go_ret
  exact ⟨by rw [HV.out]; rfl, HB2.out⟩
set_option maxHeartbeats 4000000 in
theorem rs_rep1 (x : Nd) (P : Nat → Prop) (B : Option Addr) (cap : Nat) (w : World) (hs : x.size ≤ 140737488355328) (hl : x.kids.len ≤ 140737488355328) (ho : ∀ y ∈ x.nodes, aloneN y = true) (ht : TreesAt w P x.kids B) (hG : KidS x P) (hh : x.sum.hollow = false) (hk : x.kind = 9) (z : Nd) (hz : x.kids.list[0]? = some z) (hk1 : x.kids.len = 1) (h0 : x.lo ≠ 0) : Calls Tryz.prog 17 #[ndV x B cap] w fun e w' => e = .returned (.int .i64 x.sum.short) ∧ Below w.heap.size w w' := by
  have hn := nine_of (ho x (self_nodes x)) hk
  have hHi : hiF x.hi ≠ 0 := by unfold hiF endF; split <;> omega
  have h3 : z.sum.hollow = false ∧ x.sum.short = timF x.lo z.sum.short := by
    rw [sum_rep hk hz] at hh ⊢
    exact rep_short hh hHi h0
  have hz2 := (ok_sum (x := z) (fun y hy => ho y (kid_nodes hz y hy))).short h3.1
  have HV := Lib.hid h3.2
  have HH := Lib.hid hh
  have HK1 := Lib.hid hk1
  have hd : (x.lo == 0) = false := by rw [beq_eq_false_iff_ne]; exact h0
  have HM := Lib.hid (fun (W : World) (g : Nat) (hg : g = W.heap.size) => rmul_int W g x.lo z.sum.short hg ⟨by omega, by unfold topI; omega⟩ hz2)
  clear hh hk1 h0 hn hHi h3 hz2
  have hb : Below w.heap.size w (w.alloc (.cells #[.int .i64 x.kind, .int .u64 ((word (x.set.testBit) 0 : Nat) : Int), .int .u64 ((word (x.set.testBit) 1 : Nat) : Int), .int .u64 ((word (x.set.testBit) 2 : Nat) : Int), .int .u64 ((word (x.set.testBit) 3 : Nat) : Int), .slice B x.kids.len cap, .int .i64 x.lo, .int .i64 x.hi] 28)) := (Below.refl _ _).alloc (Nat.le_refl _) _
  have HB := Lib.hid hb
  have HN := Lib.hid (Blk.new w 28 #[.int .i64 x.kind, .int .u64 ((word (x.set.testBit) 0 : Nat) : Int), .int .u64 ((word (x.set.testBit) 1 : Nat) : Int), .int .u64 ((word (x.set.testBit) 2 : Nat) : Int), .int .u64 ((word (x.set.testBit) 3 : Nat) : Int), .slice B x.kids.len cap, .int .i64 x.lo, .int .i64 x.hi])
  have HT := Lib.hid (ht.below hb)
  have HG := Lib.hid hG
  have HO := Lib.hid ho
  have HC := Lib.hid (rhollow_go x P B cap _ hs ho (ht.below hb))
  clear hb ht hG ho hs
  unfold ndV at HC ⊢
  rw [hk] at HN HT HB HC ⊢
  go_enter Tryz.func17, Tryz.ntmps17
  go_upto_region 1 with fail
  generalize (w.alloc (.cells #[.int .i64 9, .int .u64 ((word (x.set.testBit) 0 : Nat) : Int), .int .u64 ((word (x.set.testBit) 1 : Nat) : Int), .int .u64 ((word (x.set.testBit) 2 : Nat) : Int), .int .u64 ((word (x.set.testBit) 3 : Nat) : Int), .slice B x.kids.len cap, .int .i64 x.lo, .int .i64 x.hi] 28)) = w1 at *
  have n0 := (HN.out).cell 0
  have n1 := (HN.out).cell 1
  have n2 := (HN.out).cell 2
  have n3 := (HN.out).cell 3
  have n4 := (HN.out).cell 4
  have n5 := (HN.out).cell 5
  have n6 := (HN.out).cell 6
  have n7 := (HN.out).cell 7
  have hln := (HN.out).lt
  simp only [List.getElem?_toArray, List.getElem?_cons_zero, List.getElem?_cons_succ] at n0 n1 n2 n3 n4 n5 n6 n7

  go_wp2_with fail
  refine HC.out.mono ?_
  rintro e w2 ⟨rfl, hb2⟩
  have HN2 := Lib.hid (HN.out.below hb2 HN.out.lt)
  have HT2 := Lib.hid (HT.out.below hb2)
  have HB2 := Lib.hid (HB.out.trans (hb2.mono HB.out.size))
  clear n0 n1 n2 n3 n4 n5 n6 n7 hln

  clear HC hb2 HN HT HB
  rw [HH.out]
  dsimp only
  have hk1 := HK1.out
  obtain ⟨b, o, C, capc, rfl, hbP, _, ⟨c0, c1, c2, c3, c4, c5, c6, c7⟩, hkz⟩ := HT2.out.get hz
  simp only [Nat.zero_mul, Nat.add_zero] at c0 c1 c2 c3 c4 c5 c6 c7
  have hblk := World.block_lt_of_cell? w2 _ c0
  have HC := Lib.hid (fun (W : World) (hb : Below w2.heap.size w2 W) => HG.out 0 z C capc W hz (hkz.below hb))
  clear hz hkz
  unfold ndV at HC
  have n0 := (HN2.out).cell 0
  have n1 := (HN2.out).cell 1
  have n2 := (HN2.out).cell 2
  have n3 := (HN2.out).cell 3
  have n4 := (HN2.out).cell 4
  have n5 := (HN2.out).cell 5
  have n6 := (HN2.out).cell 6
  have n7 := (HN2.out).cell 7
  have hln := (HN2.out).lt
  simp only [List.getElem?_toArray, List.getElem?_cons_zero, List.getElem?_cons_succ] at n0 n1 n2 n3 n4 n5 n6 n7
  generalize z.sum.short = zs at *
  go_upto_region 27 with fail
  have hlb : b < w2.heap.size := hblk
  have hKl := two_of (Q := fun b => b < w2.heap.size) hln hlb
  refine wp_region_held_drew (S := fun w' => ∀ b' o', b' = w.heap.size ∨ b' = b → w'.cell? ⟨b', o', none⟩ = w2.cell? ⟨b', o', none⟩) (by kernel_rfl) (KeepP.start (fun b' => b' = w.heap.size ∨ b' = b) w2) (fun hHeld => ?_)
  refine wpAnyH_take (i := 0) (oi := _) (v := ?_) rfl (by kernel_rfl) (by kernel_rfl) (by kernel_rfl) (fun _ _ _ h => h) (Or.inl ⟨by kernel_rfl, ?_⟩) (by assumption) ?_
  rotate_left
  · intro w hSw
    try dsimp only at hSw
    go_simp
    try (with_reducible rfl)
  try simp only [Act.put, List.getElem_toArray, List.getElem_cons_zero, List.getElem_cons_succ, List.setIfInBounds_toArray, List.set_cons_zero, List.set_cons_succ]
  refine wpAnyH_take (i := 1) (oi := _) (v := ?_) rfl (by kernel_rfl) (by kernel_rfl) (by kernel_rfl) (fun _ _ _ h => h) (Or.inl ⟨by kernel_rfl, ?_⟩) (by assumption) ?_
  rotate_left
  · intro w hSw
    try dsimp only at hSw
    go_simp
    try (with_reducible rfl)
  try simp only [Act.put, List.getElem_toArray, List.getElem_cons_zero, List.getElem_cons_succ, List.setIfInBounds_toArray, List.set_cons_zero, List.set_cons_succ]
  refine wpAnyH_take (i := 2) (oi := _) (v := ?_) rfl (by kernel_rfl) (by kernel_rfl) (by kernel_rfl) (fun _ _ _ h => h) (Or.inl ⟨by kernel_rfl, ?_⟩) (by assumption) ?_
  rotate_left
  · intro w hSw
    try dsimp only at hSw
    go_simp
    try (with_reducible rfl)
  try simp only [Act.put, List.getElem_toArray, List.getElem_cons_zero, List.getElem_cons_succ, List.setIfInBounds_toArray, List.set_cons_zero, List.set_cons_succ]
  refine wpAnyH_take (i := 3) (oi := _) (v := ?_) rfl (by kernel_rfl) (by kernel_rfl) (by kernel_rfl) (fun _ _ _ h => h) (Or.inl ⟨by kernel_rfl, ?_⟩) (by assumption) ?_
  rotate_left
  · intro w hSw
    try dsimp only at hSw
    go_simp
    try (with_reducible rfl)
  try simp only [Act.put, List.getElem_toArray, List.getElem_cons_zero, List.getElem_cons_succ, List.setIfInBounds_toArray, List.set_cons_zero, List.set_cons_succ]
  refine wpAnyH_take (i := 4) (oi := _) (v := ?_) rfl (by kernel_rfl) (by kernel_rfl) (by kernel_rfl) (fun _ _ _ h => h) (Or.inl ⟨by kernel_rfl, ?_⟩) (by assumption) ?_
  rotate_left
  · intro w hSw
    try dsimp only at hSw
    go_simp
    try (with_reducible rfl)
  try simp only [Act.put, List.getElem_toArray, List.getElem_cons_zero, List.getElem_cons_succ, List.setIfInBounds_toArray, List.set_cons_zero, List.set_cons_succ]
  refine wpAnyH_take (i := 5) (oi := _) (v := ?_) rfl (by kernel_rfl) (by kernel_rfl) (by kernel_rfl) (fun _ _ _ h => h) (Or.inl ⟨by kernel_rfl, ?_⟩) (by assumption) ?_
  rotate_left
  · intro w hSw
    try dsimp only at hSw
    go_simp
    try (with_reducible rfl)
  try simp only [Act.put, List.getElem_toArray, List.getElem_cons_zero, List.getElem_cons_succ, List.setIfInBounds_toArray, List.set_cons_zero, List.set_cons_succ]
  refine wpAnyH_ready (rs := [6]) (by kernel_rfl) (by simp) ?_
  refine AllReadyH.cons (o := _) rfl (fun K hK => ?_) AllReadyH.nil
  go_simp
  go_at_call 17
  refine (HC.out w2.drew (Below.refl _ _).drew).mono ?_
  rintro e w3 ⟨rfl, hb3'⟩
  have hb3 : Below w2.heap.size w2 w3 := (Below.refl _ _).drew.trans hb3'
  have hk3 := KeepP.below (KeepP.start (fun b' => b' = w.heap.size ∨ b' = b) w2) hb3' hKl
  refine hK.out _ _ hk3 (fun _ => ?_)
  clear hK K hHeld hb3'
  try simp only [Act.put, List.getElem_toArray, List.getElem_cons_zero, List.getElem_cons_succ, List.setIfInBounds_toArray, List.set_cons_zero, List.set_cons_succ]
  refine wpAnyH_ready (rs := [7]) (by kernel_rfl) (by simp) ?_
  refine AllReadyH.cons (o := _) rfl (fun K hK => ?_) AllReadyH.nil
  go_simp
  have hk4 := KeepP.alloc hk3 (fun b' h => Nat.lt_of_lt_of_le (hKl b' h) hb3.size) (.cells #[.int .i64 x.lo, .int .i64 zs] 3)
  refine hK.out _ _ hk4 (fun _ => ?_)
  clear hK K
  try simp only [Act.put, List.getElem_toArray, List.getElem_cons_zero, List.getElem_cons_succ, List.setIfInBounds_toArray, List.set_cons_zero, List.set_cons_succ]
  refine wpAnyH_ready (rs := [8]) (by kernel_rfl) (by simp) ?_
  refine AllReadyH.cons (o := _) rfl (fun K hK => ?_) AllReadyH.nil
  go_simp
  refine (HM.out w3 _ rfl).mono ?_
  rintro e w5 ⟨rfl, hb5⟩
  have hk5 := KeepP.below hk3 hb5 (fun b' h => Nat.lt_of_lt_of_le (hKl b' h) hb3.size)
  refine hK.out _ _ hk5 (fun _ => ?_)
  clear hK K hk4 hk3
  try simp only [Act.put, List.getElem_toArray, List.getElem_cons_zero, List.getElem_cons_succ, List.setIfInBounds_toArray, List.set_cons_zero, List.set_cons_succ]
  have HB5 := Lib.hid ((HB2.out.trans (hb3.mono HB2.out.size)).trans (hb5.mono (by have := HB2.out.size; have := hb3.size; omega)))
  clear n0 n1 n2 n3 n4 n5 n6 n7 hln
  clear hb3 hb5 c0 c1 c2 c3 c4 c5 c6 c7 hblk HC
  refine wpAnyH_take (i := 9) (oi := _) (v := ?_) rfl (by kernel_rfl) (by kernel_rfl) (by kernel_rfl) (fun _ _ _ h => h) (Or.inl ⟨by kernel_rfl, ?_⟩) (by assumption) ?_
  rotate_left
  · intro w hSw
    try dsimp only at hSw
    go_simp
    try (with_reducible rfl)
  try simp only [Act.put, List.getElem_toArray, List.getElem_cons_zero, List.getElem_cons_succ, List.setIfInBounds_toArray, List.set_cons_zero, List.set_cons_succ]
  refine wpAnyH_done (by kernel_rfl) ?_ _
  go_wp2
  go_light
  go_ret
  exact ⟨by rw [HV.out]; rfl, HB5.out⟩
set_option maxHeartbeats 4000000 in
theorem rs_cat (x : Nd) (P : Nat → Prop) (B : Option Addr) (cap : Nat) (w : World) (hs : x.size ≤ 140737488355328) (hl : x.kids.len ≤ 140737488355328) (ho : ∀ y ∈ x.nodes, aloneN y = true) (ht : TreesAt w P x.kids B) (hG : KidS x P) (hh : x.sum.hollow = false) (hk : x.kind = 4) : Calls Tryz.prog 17 #[ndV x B cap] w fun e w' => e = .returned (.int .i64 x.sum.short) ∧ Below w.heap.size w w' := by
  have HV := Lib.hid (show x.sum = fcatF x.kids.sums from sum_cat hk)
  have HF := Lib.hid (show (fcatF x.kids.sums).hollow = false by rw [← HV.out]; exact hh)
  have HS := Lib.hid (ok_sums x.kids (fun y hy => ho y (by simp [Nd.nodes, hy])))
  have HH := Lib.hid hh
  clear hh
  have hb : Below w.heap.size w (w.alloc (.cells #[.int .i64 x.kind, .int .u64 ((word (x.set.testBit) 0 : Nat) : Int), .int .u64 ((word (x.set.testBit) 1 : Nat) : Int), .int .u64 ((word (x.set.testBit) 2 : Nat) : Int), .int .u64 ((word (x.set.testBit) 3 : Nat) : Int), .slice B x.kids.len cap, .int .i64 x.lo, .int .i64 x.hi] 28)) := (Below.refl _ _).alloc (Nat.le_refl _) _
  have HB := Lib.hid hb
  have HN := Lib.hid (Blk.new w 28 #[.int .i64 x.kind, .int .u64 ((word (x.set.testBit) 0 : Nat) : Int), .int .u64 ((word (x.set.testBit) 1 : Nat) : Int), .int .u64 ((word (x.set.testBit) 2 : Nat) : Int), .int .u64 ((word (x.set.testBit) 3 : Nat) : Int), .slice B x.kids.len cap, .int .i64 x.lo, .int .i64 x.hi])
  have HT := Lib.hid (ht.below hb)
  have HG := Lib.hid hG
  have HO := Lib.hid ho
  have HC := Lib.hid (rhollow_go x P B cap _ hs ho (ht.below hb))
  clear hb ht hG ho hs
  unfold ndV at HC ⊢
  rw [hk] at HN HT HB HC ⊢
  go_enter Tryz.func17, Tryz.ntmps17
  go_upto_region 1 with fail
  generalize (w.alloc (.cells #[.int .i64 4, .int .u64 ((word (x.set.testBit) 0 : Nat) : Int), .int .u64 ((word (x.set.testBit) 1 : Nat) : Int), .int .u64 ((word (x.set.testBit) 2 : Nat) : Int), .int .u64 ((word (x.set.testBit) 3 : Nat) : Int), .slice B x.kids.len cap, .int .i64 x.lo, .int .i64 x.hi] 28)) = w1 at *
  have n0 := (HN.out).cell 0
  have n1 := (HN.out).cell 1
  have n2 := (HN.out).cell 2
  have n3 := (HN.out).cell 3
  have n4 := (HN.out).cell 4
  have n5 := (HN.out).cell 5
  have n6 := (HN.out).cell 6
  have n7 := (HN.out).cell 7
  have hln := (HN.out).lt
  simp only [List.getElem?_toArray, List.getElem?_cons_zero, List.getElem?_cons_succ] at n0 n1 n2 n3 n4 n5 n6 n7

  go_wp2_with fail
  refine HC.out.mono ?_
  rintro e w2 ⟨rfl, hb2⟩
  have HN2 := Lib.hid (HN.out.below hb2 HN.out.lt)
  have HT2 := Lib.hid (HT.out.below hb2)
  have HB2 := Lib.hid (HB.out.trans (hb2.mono HB.out.size))
  clear n0 n1 n2 n3 n4 n5 n6 n7 hln

  clear HC hb2 HN HT HB
  rw [HH.out]
  dsimp only
  have n0 := HN2.out.cell 0
  have hln := HN2.out.lt
  simp only [List.getElem?_toArray, List.getElem?_cons_zero] at n0
  go_wp2
  clear n0 hln
  go_loopw [3, 4] (fun nv i wr => ∃ (k : Nat) (n : Int), i = .int .i64 (k : Int) ∧ nv = .int .i64 n ∧ k ≤ x.kids.len ∧ Hid (n = (fcatF (x.kids.sums.take k)).short) ∧ Hid (Below w.heap.size w wr) ∧ Hid (Below w2.heap.size w2 wr)) (fun _ i _ => x.kids.len - (intOf i).toNat)
  case atStart => exact ⟨0, 0, rfl, rfl, Nat.zero_le _, Lib.hid rfl, HB2, Lib.hid (Below.refl _ _)⟩
  case round =>
    obtain ⟨k, n, rfl, rfl, hk, HA, HB, HW⟩ := hrel
    have HN3 := Lib.hid (HN2.out.below HW.out HN2.out.lt)
    have n5 := HN3.out.cell 5
    have hln := HN3.out.lt
    simp only [List.getElem?_toArray, List.getElem?_cons_zero, List.getElem?_cons_succ] at n5
    by_cases hlt : k < x.kids.len
    · obtain ⟨z, hz⟩ : ∃ z, x.kids.list[k]? = some z := ⟨_, List.getElem?_eq_getElem (by rw [Trees.len_list]; exact hlt)⟩
      obtain ⟨b, o, C, capc, rfl, _, _, ⟨c0, c1, c2, c3, c4, c5, c6, c7⟩, hkz⟩ := (HT2.out.below HW.out).get hz
      have hdl : (k : Int) < (x.kids.len : Int) := by omega
      have HC := Lib.hid (HG.out k z C capc wr hz hkz)
      have hzg := sums_get hz
      have hzh := fcatF_full HF.out z.sum (List.mem_of_getElem? hzg)
      have hzo := (HS.out z.sum (List.mem_of_getElem? hzg)).short hzh
      have hpo := (ok_cat (ok_take HS.out k)).short (fcatF_take HF.out k)
      rw [← HA.out] at hpo
      have HE := Lib.hid (show (fcatF (x.kids.sums.take (k + 1))).short = addF n z.sum.short by rw [take_snocS hzg, fcatF_snoc, behind_full (fcatF_take HF.out k) hzh, HA.out])
      have HM := Lib.hid (fun (W : World) (g : Nat) (hg : g = W.heap.size) => rnum_int W g n z.sum.short hg hpo hzo)
      clear hz hkz hzg hzh hzo hpo
      generalize z.sum.short = zs at *
      unfold ndV at HC
      go_wp2_with fail
      refine HC.out.mono ?_
      rintro e w3 ⟨rfl, hb3⟩
      clear HC c0 c1 c2 c3 c4 c5 c6 c7 n5 hln
      dsimp only
      go_wp2_with fail
      refine (HM.out w3 _ rfl).mono ?_
      rintro e w5 ⟨rfl, hb5⟩
      have HB3 := Lib.hid ((HB.out.trans (hb3.mono HB.out.size)).trans (hb5.mono (by have := HB.out.size; have := hb3.size; omega)))
      have HW3 := Lib.hid ((HW.out.trans (hb3.mono HW.out.size)).trans (hb5.mono (by have := HW.out.size; have := hb3.size; omega)))
      clear hb3 hb5 HM
      rw [← HE.out]
      dsimp only
      go_wp2
      go_roundw
      case rel => exact ⟨k + 1, _, by go_num, rfl, by omega, Lib.hid rfl, HB3, HW3⟩
      case measure => simp [intOf]; omega
    · obtain rfl : k = x.kids.len := by omega
      have hdl : ¬ ((x.kids.len : Int) < (x.kids.len : Int)) := by omega
      go_wp2
      go_light
      go_ret
      exact ⟨by rw [HV.out, HA.out, ← sums_len, List.take_length]; rfl, HB.out⟩
set_option maxHeartbeats 4000000 in
theorem rs_alt (x : Nd) (P : Nat → Prop) (B : Option Addr) (cap : Nat) (w : World) (hs : x.size ≤ 140737488355328) (hl : x.kids.len ≤ 140737488355328) (ho : ∀ y ∈ x.nodes, aloneN y = true) (ht : TreesAt w P x.kids B) (hG : KidS x P) (hh : x.sum.hollow = false) (hk : x.kind = 5) : Calls Tryz.prog 17 #[ndV x B cap] w fun e w' => e = .returned (.int .i64 x.sum.short) ∧ Below w.heap.size w w' := by
  have HV := Lib.hid (show x.sum = faltF x.kids.sums from sum_alt hk)
  have HF := Lib.hid (show (faltF x.kids.sums).hollow = false by rw [← HV.out]; exact hh)
  have HS := Lib.hid (ok_sums x.kids (fun y hy => ho y (by simp [Nd.nodes, hy])))
  have HH := Lib.hid hh
  clear hh
  have hb : Below w.heap.size w (w.alloc (.cells #[.int .i64 x.kind, .int .u64 ((word (x.set.testBit) 0 : Nat) : Int), .int .u64 ((word (x.set.testBit) 1 : Nat) : Int), .int .u64 ((word (x.set.testBit) 2 : Nat) : Int), .int .u64 ((word (x.set.testBit) 3 : Nat) : Int), .slice B x.kids.len cap, .int .i64 x.lo, .int .i64 x.hi] 28)) := (Below.refl _ _).alloc (Nat.le_refl _) _
  have HB := Lib.hid hb
  have HN := Lib.hid (Blk.new w 28 #[.int .i64 x.kind, .int .u64 ((word (x.set.testBit) 0 : Nat) : Int), .int .u64 ((word (x.set.testBit) 1 : Nat) : Int), .int .u64 ((word (x.set.testBit) 2 : Nat) : Int), .int .u64 ((word (x.set.testBit) 3 : Nat) : Int), .slice B x.kids.len cap, .int .i64 x.lo, .int .i64 x.hi])
  have HT := Lib.hid (ht.below hb)
  have HG := Lib.hid hG
  have HO := Lib.hid ho
  have HC := Lib.hid (rhollow_go x P B cap _ hs ho (ht.below hb))
  clear hb ht hG ho hs
  unfold ndV at HC ⊢
  rw [hk] at HN HT HB HC ⊢
  go_enter Tryz.func17, Tryz.ntmps17
  go_upto_region 1 with fail
  generalize (w.alloc (.cells #[.int .i64 5, .int .u64 ((word (x.set.testBit) 0 : Nat) : Int), .int .u64 ((word (x.set.testBit) 1 : Nat) : Int), .int .u64 ((word (x.set.testBit) 2 : Nat) : Int), .int .u64 ((word (x.set.testBit) 3 : Nat) : Int), .slice B x.kids.len cap, .int .i64 x.lo, .int .i64 x.hi] 28)) = w1 at *
  have n0 := (HN.out).cell 0
  have n1 := (HN.out).cell 1
  have n2 := (HN.out).cell 2
  have n3 := (HN.out).cell 3
  have n4 := (HN.out).cell 4
  have n5 := (HN.out).cell 5
  have n6 := (HN.out).cell 6
  have n7 := (HN.out).cell 7
  have hln := (HN.out).lt
  simp only [List.getElem?_toArray, List.getElem?_cons_zero, List.getElem?_cons_succ] at n0 n1 n2 n3 n4 n5 n6 n7

  go_wp2_with fail
  refine HC.out.mono ?_
  rintro e w2 ⟨rfl, hb2⟩
  have HN2 := Lib.hid (HN.out.below hb2 HN.out.lt)
  have HT2 := Lib.hid (HT.out.below hb2)
  have HB2 := Lib.hid (HB.out.trans (hb2.mono HB.out.size))
  clear n0 n1 n2 n3 n4 n5 n6 n7 hln

  clear HC hb2 HN HT HB
  rw [HH.out]
  dsimp only
  have n0 := HN2.out.cell 0
  have hln := HN2.out.lt
  simp only [List.getElem?_toArray, List.getElem?_cons_zero] at n0
  go_wp2
  clear n0 hln
  go_loopw [5, 6, 7] (fun nv i kv wr => ∃ (k : Nat) (n : Int), i = .int .i64 (k : Int) ∧ nv = .int .i64 n ∧ k ≤ x.kids.len ∧ Hid (n = if (faltF (x.kids.sums.take k)).hollow = true then topI else (faltF (x.kids.sums.take k)).short) ∧ Hid (Below w.heap.size w wr) ∧ Hid (Below w2.heap.size w2 wr)) (fun _ i _ _ => x.kids.len - (intOf i).toNat)
  case atStart => exact ⟨0, 1099511627776, rfl, rfl, Nat.zero_le _, Lib.hid rfl, HB2, Lib.hid (Below.refl _ _)⟩
  case round =>
    obtain ⟨k, n, rfl, rfl, hk, HA, HB, HW⟩ := hrel
    have HN3 := Lib.hid (HN2.out.below HW.out HN2.out.lt)
    have n5 := HN3.out.cell 5
    have hln := HN3.out.lt
    simp only [List.getElem?_toArray, List.getElem?_cons_zero, List.getElem?_cons_succ] at n5
    by_cases hlt : k < x.kids.len
    · obtain ⟨z, hz⟩ : ∃ z, x.kids.list[k]? = some z := ⟨_, List.getElem?_eq_getElem (by rw [Trees.len_list]; exact hlt)⟩
      obtain ⟨b, o, C, capc, rfl, _, _, ⟨c0, c1, c2, c3, c4, c5, c6, c7⟩, hkz⟩ := (HT2.out.below HW.out).get hz
      have hdl : (k : Int) < (x.kids.len : Int) := by omega
      have HC := Lib.hid (HG.out k z C capc wr hz hkz)
      have hzg := sums_get hz
      have hzo := HS.out z.sum (List.mem_of_getElem? hzg)
      have hpo := ok_alt (ok_take HS.out k)
      have HE := Lib.hid (show (if (faltF (x.kids.sums.take (k + 1))).hollow = true then topI else (faltF (x.kids.sums.take (k + 1))).short) = if 0 ≤ z.sum.short ∧ z.sum.short < n then z.sum.short else n by
        rw [take_snocS hzg, faltF_snoc, HA.out]
        cases hp : (faltF (x.kids.sums.take k)).hollow with
        | true =>
          rw [either_left hp]
          cases hs : z.sum.hollow with
          | true =>
            have : z.sum.short = -1 := by rw [hzo.none hs]; rfl
            simp [this]
          | false =>
            have := hzo.short hs
            simp only [if_true, Bool.false_eq_true, if_false]
            split <;> omega
        | false =>
          have h1 := hpo.short hp
          cases hs : z.sum.hollow with
          | true =>
            have : z.sum.short = -1 := by rw [hzo.none hs]; rfl
            rw [either_right hp hs]
            simp [this, hp]
          | false =>
            have h2 := hzo.short hs
            rw [either_full hp hs]
            simp only [Bool.false_eq_true, if_false]
            split <;> omega)
      clear hz hkz hzg hzo hpo HA
      generalize z.sum.short = zs at *
      unfold ndV at HC
      go_wp2_with fail
      refine HC.out.mono ?_
      rintro e w3 ⟨rfl, hb3⟩
      have HB3 := Lib.hid (HB.out.trans (hb3.mono HB.out.size))
      have HW3 := Lib.hid (HW.out.trans (hb3.mono HW.out.size))
      clear hb3 HC c0 c1 c2 c3 c4 c5 c6 c7 n5 hln
      by_cases hge : 0 ≤ zs
      · by_cases hls : zs < n
        · have HE2 := Lib.hid (show _ = zs from (HE.out).trans (if_pos ⟨hge, hls⟩))
          dsimp only
          go_wp2
          go_roundw
          case rel => exact ⟨k + 1, _, by go_num, rfl, by omega, Lib.hid HE2.out.symm, HB3, HW3⟩
          case measure => simp [intOf]; omega
        · have HE2 := Lib.hid (show _ = n from (HE.out).trans (if_neg (fun h => hls h.2)))
          dsimp only
          go_wp2
          go_roundw
          case rel => exact ⟨k + 1, _, by go_num, rfl, by omega, Lib.hid HE2.out.symm, HB3, HW3⟩
          case measure => simp [intOf]; omega
      · have HE2 := Lib.hid (show _ = n from (HE.out).trans (if_neg (fun h => hge h.1)))
        dsimp only
        go_wp2
        go_roundw
        case rel => exact ⟨k + 1, _, by go_num, rfl, by omega, Lib.hid HE2.out.symm, HB3, HW3⟩
        case measure => simp [intOf]; omega
    · obtain rfl : k = x.kids.len := by omega
      have hdl : ¬ ((x.kids.len : Int) < (x.kids.len : Int)) := by omega
      have HE := Lib.hid (show n = x.sum.short by
        rw [HA.out, ← sums_len, List.take_length, HF.out, HV.out]
        rfl)
      clear HA
      go_wp2
      go_light
      go_ret
      exact ⟨by rw [← HE.out]; rfl, HB.out⟩
def RShC (n : Nat) : Prop := ∀ (x : Nd) (P : Nat → Prop) (B : Option Addr) (cap : Nat) (w : World), x.size ≤ n → x.size ≤ 140737488355328 → (∀ y ∈ x.nodes, aloneN y = true) → TreesAt w P x.kids B → Calls Tryz.prog 17 #[ndV x B cap] w fun e w' => e = .returned (.int .i64 x.sum.short) ∧ Below w.heap.size w w'
theorem rsh_step {n : Nat} (ih : RShC n) : RShC (n + 1) := by
  intro x P B cap w hsz hlen ho ht
  have hlk : x.kids.len ≤ 140737488355328 := by have := Trees.len_size x.kids; unfold Nd.size at hlen; omega
  have hG : KidS x P := fun i z C capc w' hz ht' => by
    have := Trees.size_get x.kids i z hz
    have hks : x.kids.size + 1 = x.size := by unfold Nd.size; omega
    exact ih z _ C capc w' (by omega) (by omega) (fun y hy => ho y (kid_nodes hz y hy)) ht'
  obtain ⟨a1, a9, a0, ak1, ak9⟩ := aloneN_kids (ho x (self_nodes x))
  cases hh : x.sum.hollow with
  | true => exact rs_no x _ B cap w hlen hlk ho ht hG hh
  | false =>
    by_cases k1 : x.kind = 1
    · rw [sum_none k1] at hh; cases hh
    by_cases k2 : x.kind = 2
    · exact rs_two x _ B cap w hlen hlk ho ht hG hh k2
    by_cases k3 : x.kind = 3
    · exact rs_set x _ B cap w hlen hlk ho ht hG hh k3
    by_cases k4 : x.kind = 4
    · exact rs_cat x _ B cap w hlen hlk ho ht hG hh k4
    by_cases k5 : x.kind = 5
    · exact rs_alt x _ B cap w hlen hlk ho ht hG hh k5
    obtain ⟨z, _, hz⟩ := one_kid (a1 (by omega) (by omega))
    have hk1 := a1 (by omega) (by omega)
    by_cases k6 : x.kind = 6
    · exact rs_star x _ B cap w hlen hlk ho ht hG hh k6 z hz
    by_cases k7 : x.kind = 7
    · exact rs_plus x _ B cap w hlen hlk ho ht hG hh k7 z hz hk1
    by_cases k8 : x.kind = 8
    · exact rs_opt x _ B cap w hlen hlk ho ht hG hh k8 z hz
    have k9 : x.kind = 9 := by omega
    by_cases h : x.lo = 0
    · exact rs_rep0 x _ B cap w hlen hlk ho ht hG hh k9 z hz h
    · exact rs_rep1 x _ B cap w hlen hlk ho ht hG hh k9 z hz hk1 h
theorem rshort_go (x : Nd) (P : Nat → Prop) (B : Option Addr) (cap : Nat) (w : World) (hlen : x.size ≤ 140737488355328) (ho : ∀ y ∈ x.nodes, aloneN y = true) (ht : TreesAt w P x.kids B) : Calls Tryz.prog 17 #[ndV x B cap] w fun e w' => e = .returned (.int .i64 x.sum.short) ∧ Below w.heap.size w w' := by
  have h : ∀ n, RShC n := by
    intro n
    induction n with
    | zero => exact fun x _ _ _ _ h => by unfold Nd.size at h; omega
    | succ n ih => exact rsh_step ih
  exact h x.size x P B cap w (Nat.le_refl _) hlen ho ht
end Go.Proofs.YtfekpkelmliejaaGreatDoor
namespace Go.Proofs.YtfekpkelmliejaaGreatDoor
open Go.RowKit
set_option linter.unusedSimpArgs false
set_option linter.unusedVariables false
set_option maxRecDepth 100000

/-- The length of the longest words: -1 of no word, -2 without a bound. -/
def lonF (s : SumS) : Int := if s.hollow = true then -1 else if s.long = endF then -2 else s.long
theorem lonF_no {s : SumS} (h : s.hollow = true) : lonF s = -1 := by unfold lonF; rw [if_pos h]
theorem lonF_end {s : SumS} (h : s.hollow = false) (h2 : s.long = endF) : lonF s = -2 := by unfold lonF; rw [if_neg (by rw [h]; decide), if_pos h2]
theorem lonF_len {s : SumS} (h : s.hollow = false) (h2 : s.long ≠ endF) : lonF s = s.long := by unfold lonF; rw [if_neg (by rw [h]; decide), if_neg h2]
def lonP (k hi m : Int) : Int := if m ≤ 0 ∧ m ≠ -2 then 0 else if k = 8 then m else if k = 9 ∧ hi = 0 then 0 else if m = -2 ∨ k ≠ 9 ∨ hi < 0 then -2 else timF hi m
theorem lon_rep {a : SumS} {lo hi : Int} (o : SumOk a) (h : (repeatedF a lo hi).hollow = false) (h0 : 0 ≤ hi) (h1 : hi ≤ endF) :
    lonF (repeatedF a lo hi) = if a.hollow = true ∨ hi = 0 ∨ a.long = 0 then 0 else if a.long = endF ∨ hi = endF then -2 else timF hi a.long := by
  by_cases hh : hi = 0
  · rw [if_pos (.inr (.inl hh))]
    have : repeatedF a lo hi = fnilF := by unfold repeatedF; rw [if_pos (.inl hh)]
    rw [this]; rfl
  cases ha : a.hollow with
  | true =>
    rw [if_pos (.inl rfl)]
    rw [hol_rep, ha] at h
    have hl : lo = 0 := by simpa [hh] using h
    have : repeatedF a lo hi = fnilF := by unfold repeatedF; rw [if_pos (.inr ⟨ha, hl⟩)]
    rw [this]; rfl
  | false =>
    have hl := o.long ha
    have hs := o.short ha
    have e : repeatedF a lo hi = ⟨a.hollow, timF lo a.short, timF hi a.long, a.first, a.last⟩ := by unfold repeatedF; rw [if_neg (by simp [hh, ha]), if_neg (by simp [ha])]
    rw [e]
    by_cases hz : a.long = 0
    · rw [if_pos (.inr (.inr hz))]
      have e2 : timF hi a.long = 0 := by unfold timF; rw [if_pos (.inr hz)]
      rw [lonF_len (by exact ha) (by show timF hi a.long ≠ endF; rw [e2]; decide)]
      exact e2
    · rw [if_neg (by simp [hh, hz])]
      by_cases he : a.long = endF ∨ hi = endF
      · rw [if_pos he]
        exact lonF_end ha (show timF hi a.long = endF by unfold timF; rw [if_neg (by omega), if_pos he])
      · rw [if_neg he]
        refine lonF_len ha ?_
        have := timF_low (n := hi) (a := a.long) h0 (by omega) (by unfold topI; unfold endF at *; omega) (by unfold topI; unfold endF at *; omega)
        show timF hi a.long ≠ endF
        unfold topI at this
        unfold endF
        omega
theorem lonF_cases {a : SumS} (o : SumOk a) : (a.hollow = true ∧ lonF a = -1) ∨ (a.hollow = false ∧ a.long = endF ∧ lonF a = -2) ∨ (a.hollow = false ∧ a.long ≠ endF ∧ lonF a = a.long ∧ 0 ≤ a.long ∧ a.long ≤ topI) := by
  cases ha : a.hollow with
  | true => exact .inl ⟨rfl, lonF_no ha⟩
  | false =>
    have hl := o.long ha
    have hs := o.short ha
    by_cases he : a.long = endF
    · exact .inr (.inl ⟨rfl, he, lonF_end ha he⟩)
    · exact .inr (.inr ⟨rfl, he, lonF_len ha he, by omega, by unfold topI; unfold endF at *; omega⟩)
theorem lon_post {x z : Nd} (ho : ∀ y ∈ x.nodes, aloneN y = true) (hh : x.sum.hollow = false) (hz : x.kids.list[0]? = some z) (h6 : 6 ≤ x.kind) (h9 : x.kind ≤ 9) : lonF x.sum = lonP x.kind x.hi (lonF z.sum) := by
  have o := ok_sum (x := z) (fun y hy => ho y (kid_nodes hz y hy))
  have hc := lonF_cases o
  have ht : topI = 1099511627776 := rfl
  have he : endF = 1099511627777 := rfl
  unfold lonP
  by_cases k6 : x.kind = 6
  · rw [sum_star k6 hz] at hh ⊢
    rw [lon_rep o hh (by decide) (by decide), k6]
    rcases hc with ⟨h1, h2⟩ | ⟨h1, h2, h3⟩ | ⟨h1, h2, h3, h4, h5⟩
    · rw [if_pos (.inl h1), h2]; simp
    · rw [if_neg (by simp [h1, h2]; omega), if_pos (.inl h2), h3]; simp
    · by_cases hl : z.sum.long = 0
      · rw [if_pos (.inr (.inr hl)), h3, hl]; simp
      · rw [if_neg (by simp [h1, hl]; omega), if_pos (.inr rfl), h3, if_neg (by omega), if_neg (by omega), if_neg (by omega), if_pos (by omega)]
  by_cases k7 : x.kind = 7
  · rw [sum_plus k7 hz] at hh ⊢
    rw [lon_rep o hh (by decide) (by decide), k7]
    rcases hc with ⟨h1, h2⟩ | ⟨h1, h2, h3⟩ | ⟨h1, h2, h3, h4, h5⟩
    · rw [if_pos (.inl h1), h2]; simp
    · rw [if_neg (by simp [h1, h2]; omega), if_pos (.inl h2), h3]; simp
    · by_cases hl : z.sum.long = 0
      · rw [if_pos (.inr (.inr hl)), h3, hl]; simp
      · rw [if_neg (by simp [h1, hl]; omega), if_pos (.inr rfl), h3, if_neg (by omega), if_neg (by omega), if_neg (by omega), if_pos (by omega)]
  by_cases k8 : x.kind = 8
  · rw [sum_opt k8 hz] at hh ⊢
    rw [lon_rep o hh (by decide) (by decide), k8]
    rcases hc with ⟨h1, h2⟩ | ⟨h1, h2, h3⟩ | ⟨h1, h2, h3, h4, h5⟩
    · rw [if_pos (.inl h1), h2]; simp
    · rw [if_neg (by simp [h1, h2]; omega), if_pos (.inl h2), h3]; simp
    · by_cases hl : z.sum.long = 0
      · rw [if_pos (.inr (.inr hl)), h3, hl]; simp
      · rw [if_neg (by simp [h1, hl]), if_neg (by omega), h3, if_neg (by omega), if_pos rfl, tim_one h4 h5]
  have k9 : x.kind = 9 := by omega
  have hn := nine_of (ho x (self_nodes x)) k9
  rw [sum_rep k9 hz] at hh ⊢
  have hf0 : 0 ≤ hiF x.hi ∧ hiF x.hi ≤ endF := by unfold hiF; split <;> omega
  rw [lon_rep o hh hf0.1 hf0.2, k9]
  have hfz : hiF x.hi = 0 ↔ x.hi = 0 := by unfold hiF; split <;> omega
  have hfe : hiF x.hi = endF ↔ x.hi < 0 := by unfold hiF; split <;> omega
  rcases hc with ⟨h1, h2⟩ | ⟨h1, h2, h3⟩ | ⟨h1, h2, h3, h4, h5⟩
  · rw [if_pos (.inl h1), h2]; simp
  · by_cases h0 : x.hi = 0
    · rw [if_pos (.inr (.inl (hfz.2 h0))), h3, if_neg (by omega), if_neg (by omega), if_pos ⟨rfl, h0⟩]
    · rw [if_neg (by rw [hfz]; simp [h1, h0, h2]; omega), if_pos (.inl h2), h3, if_neg (by omega), if_neg (by omega), if_neg (by omega), if_pos (by omega)]
  · by_cases hl : z.sum.long = 0
    · rw [if_pos (.inr (.inr hl)), h3, hl]; simp
    · by_cases h0 : x.hi = 0
      · rw [if_pos (.inr (.inl (hfz.2 h0))), h3, if_neg (by omega), if_neg (by omega), if_pos ⟨rfl, h0⟩]
      · rw [if_neg (by rw [hfz]; simp [h1, h0, hl]), h3]
        by_cases hm : x.hi < 0
        · rw [if_pos (Or.inr (hfe.2 hm)), if_neg (show ¬ (z.sum.long ≤ 0 ∧ z.sum.long ≠ -2) by omega), if_neg (show ¬ ((9 : Int) = 8) by decide), if_neg (by omega), if_pos (by omega)]
        · rw [if_neg (fun h => h.elim h2 (fun h => hm (hfe.1 h))), if_neg (show ¬ (z.sum.long ≤ 0 ∧ z.sum.long ≠ -2) by omega), if_neg (show ¬ ((9 : Int) = 8) by decide), if_neg (by omega), if_neg (by omega)]
          unfold hiF
          rw [if_neg hm]
def KidL (x : Nd) (P : Nat → Prop) : Prop := ∀ (i : Nat) (z : Nd) (C : Option Addr) (capc : Nat) (w' : World), x.kids.list[i]? = some z → TreesAt w' P z.kids C → Calls Tryz.prog 70 #[ndV z C capc] w' fun e w'' => e = .returned (.int .i64 (lonF z.sum)) ∧ Below w'.heap.size w' w''
theorem rl_no (x : Nd) (P : Nat → Prop) (B : Option Addr) (cap : Nat) (w : World) (hs : x.size ≤ 140737488355328) (hl : x.kids.len ≤ 140737488355328) (ho : ∀ y ∈ x.nodes, aloneN y = true) (ht : TreesAt w P x.kids B) (hG : KidL x P) (hh : x.sum.hollow = true) : Calls Tryz.prog 70 #[ndV x B cap] w fun e w' => e = .returned (.int .i64 (lonF x.sum)) ∧ Below w.heap.size w w' := by
  have HV := Lib.hid (lonF_no hh)
  have hb : Below w.heap.size w (w.alloc (.cells #[.int .i64 x.kind, .int .u64 ((word (x.set.testBit) 0 : Nat) : Int), .int .u64 ((word (x.set.testBit) 1 : Nat) : Int), .int .u64 ((word (x.set.testBit) 2 : Nat) : Int), .int .u64 ((word (x.set.testBit) 3 : Nat) : Int), .slice B x.kids.len cap, .int .i64 x.lo, .int .i64 x.hi] 28)) := (Below.refl _ _).alloc (Nat.le_refl _) _
  have HB := Lib.hid hb
  have HC := Lib.hid (rhollow_go x P B cap _ hs ho (ht.below hb))
  have HH := Lib.hid hh
  clear hb ht hG ho hs hh
  unfold ndV at HC ⊢
  go_enter Tryz.func70, Tryz.ntmps70
  go_wp2_with fail
  refine HC.out.mono ?_
  rintro e w2 ⟨rfl, hb2⟩
  have HB2 := Lib.hid (HB.out.trans (hb2.mono HB.out.size))
  clear HC hb2
  rw [HH.out]
  dsimp only
  go_wp2
  go_light
  go_ret
  exact ⟨by rw [HV.out]; rfl, HB2.out⟩
set_option maxHeartbeats 2000000 in
theorem rl_two (x : Nd) (P : Nat → Prop) (B : Option Addr) (cap : Nat) (w : World) (hs : x.size ≤ 140737488355328) (hl : x.kids.len ≤ 140737488355328) (ho : ∀ y ∈ x.nodes, aloneN y = true) (ht : TreesAt w P x.kids B) (hG : KidL x P) (hh : x.sum.hollow = false) (hk : x.kind = 2) : Calls Tryz.prog 70 #[ndV x B cap] w fun e w' => e = .returned (.int .i64 (lonF x.sum)) ∧ Below w.heap.size w w' := by
  have HV := Lib.hid (show lonF x.sum = 0 by (rw [sum_two hk]; rfl))
  have HH := Lib.hid hh
  clear hh
  have hb : Below w.heap.size w (w.alloc (.cells #[.int .i64 x.kind, .int .u64 ((word (x.set.testBit) 0 : Nat) : Int), .int .u64 ((word (x.set.testBit) 1 : Nat) : Int), .int .u64 ((word (x.set.testBit) 2 : Nat) : Int), .int .u64 ((word (x.set.testBit) 3 : Nat) : Int), .slice B x.kids.len cap, .int .i64 x.lo, .int .i64 x.hi] 28)) := (Below.refl _ _).alloc (Nat.le_refl _) _
  have HB := Lib.hid hb
  have HN := Lib.hid (Blk.new w 28 #[.int .i64 x.kind, .int .u64 ((word (x.set.testBit) 0 : Nat) : Int), .int .u64 ((word (x.set.testBit) 1 : Nat) : Int), .int .u64 ((word (x.set.testBit) 2 : Nat) : Int), .int .u64 ((word (x.set.testBit) 3 : Nat) : Int), .slice B x.kids.len cap, .int .i64 x.lo, .int .i64 x.hi])
  have HT := Lib.hid (ht.below hb)
  have HG := Lib.hid hG
  have HO := Lib.hid ho
  have HC := Lib.hid (rhollow_go x P B cap _ hs ho (ht.below hb))
  clear hb ht hG ho hs
  unfold ndV at HC ⊢
  rw [hk] at HN HT HB HC ⊢
  go_enter Tryz.func70, Tryz.ntmps70
  go_upto_region 1 with fail
  generalize (w.alloc (.cells #[.int .i64 2, .int .u64 ((word (x.set.testBit) 0 : Nat) : Int), .int .u64 ((word (x.set.testBit) 1 : Nat) : Int), .int .u64 ((word (x.set.testBit) 2 : Nat) : Int), .int .u64 ((word (x.set.testBit) 3 : Nat) : Int), .slice B x.kids.len cap, .int .i64 x.lo, .int .i64 x.hi] 28)) = w1 at *
  obtain ⟨n0, n1, n2, n3, n4, n5, n6, n7⟩ := ((HN.out)).c8r
  have hln := (HN.out).lt

  go_wp2_with fail
  refine HC.out.mono ?_
  rintro e w2 ⟨rfl, hb2⟩
  have HN2 := Lib.hid (HN.out.below hb2 HN.out.lt)
  have HT2 := Lib.hid (HT.out.below hb2)
  have HB2 := Lib.hid (HB.out.trans (hb2.mono HB.out.size))
  clear n0 n1 n2 n3 n4 n5 n6 n7 hln

  clear HC hb2 HN HT HB
  rw [HH.out]
  dsimp only
  obtain ⟨n0, n1, n2, n3, n4, n5, n6, n7⟩ := ((HN2.out)).c8r
  have hln := (HN2.out).lt
  go_wp2
  go_light
  go_ret
  exact ⟨by rw [HV.out]; rfl, HB2.out⟩
set_option maxHeartbeats 2000000 in
theorem rl_set (x : Nd) (P : Nat → Prop) (B : Option Addr) (cap : Nat) (w : World) (hs : x.size ≤ 140737488355328) (hl : x.kids.len ≤ 140737488355328) (ho : ∀ y ∈ x.nodes, aloneN y = true) (ht : TreesAt w P x.kids B) (hG : KidL x P) (hh : x.sum.hollow = false) (hk : x.kind = 3) : Calls Tryz.prog 70 #[ndV x B cap] w fun e w' => e = .returned (.int .i64 (lonF x.sum)) ∧ Below w.heap.size w w' := by
  have HV := Lib.hid (show lonF x.sum = 1 by (rw [sum_set hk] at hh ⊢; split at hh; cases hh; rename_i h; rw [if_neg h]; rfl))
  have HH := Lib.hid hh
  clear hh
  have hb : Below w.heap.size w (w.alloc (.cells #[.int .i64 x.kind, .int .u64 ((word (x.set.testBit) 0 : Nat) : Int), .int .u64 ((word (x.set.testBit) 1 : Nat) : Int), .int .u64 ((word (x.set.testBit) 2 : Nat) : Int), .int .u64 ((word (x.set.testBit) 3 : Nat) : Int), .slice B x.kids.len cap, .int .i64 x.lo, .int .i64 x.hi] 28)) := (Below.refl _ _).alloc (Nat.le_refl _) _
  have HB := Lib.hid hb
  have HN := Lib.hid (Blk.new w 28 #[.int .i64 x.kind, .int .u64 ((word (x.set.testBit) 0 : Nat) : Int), .int .u64 ((word (x.set.testBit) 1 : Nat) : Int), .int .u64 ((word (x.set.testBit) 2 : Nat) : Int), .int .u64 ((word (x.set.testBit) 3 : Nat) : Int), .slice B x.kids.len cap, .int .i64 x.lo, .int .i64 x.hi])
  have HT := Lib.hid (ht.below hb)
  have HG := Lib.hid hG
  have HO := Lib.hid ho
  have HC := Lib.hid (rhollow_go x P B cap _ hs ho (ht.below hb))
  clear hb ht hG ho hs
  unfold ndV at HC ⊢
  rw [hk] at HN HT HB HC ⊢
  go_enter Tryz.func70, Tryz.ntmps70
  go_upto_region 1 with fail
  generalize (w.alloc (.cells #[.int .i64 3, .int .u64 ((word (x.set.testBit) 0 : Nat) : Int), .int .u64 ((word (x.set.testBit) 1 : Nat) : Int), .int .u64 ((word (x.set.testBit) 2 : Nat) : Int), .int .u64 ((word (x.set.testBit) 3 : Nat) : Int), .slice B x.kids.len cap, .int .i64 x.lo, .int .i64 x.hi] 28)) = w1 at *
  obtain ⟨n0, n1, n2, n3, n4, n5, n6, n7⟩ := ((HN.out)).c8r
  have hln := (HN.out).lt

  go_wp2_with fail
  refine HC.out.mono ?_
  rintro e w2 ⟨rfl, hb2⟩
  have HN2 := Lib.hid (HN.out.below hb2 HN.out.lt)
  have HT2 := Lib.hid (HT.out.below hb2)
  have HB2 := Lib.hid (HB.out.trans (hb2.mono HB.out.size))
  clear n0 n1 n2 n3 n4 n5 n6 n7 hln

  clear HC hb2 HN HT HB
  rw [HH.out]
  dsimp only
  obtain ⟨n0, n1, n2, n3, n4, n5, n6, n7⟩ := ((HN2.out)).c8r
  have hln := (HN2.out).lt
  go_wp2
  go_light
  go_ret
  exact ⟨by rw [HV.out]; rfl, HB2.out⟩
set_option maxHeartbeats 4000000 in
theorem rl_post6 (x : Nd) (P : Nat → Prop) (B : Option Addr) (cap : Nat) (w : World) (hs : x.size ≤ 140737488355328) (hl : x.kids.len ≤ 140737488355328) (ho : ∀ y ∈ x.nodes, aloneN y = true) (ht : TreesAt w P x.kids B) (hG : KidL x P) (hh : x.sum.hollow = false) (hk : x.kind = 6) (z : Nd) (hz : x.kids.list[0]? = some z) (hk1 : x.kids.len = 1) : Calls Tryz.prog 70 #[ndV x B cap] w fun e w' => e = .returned (.int .i64 (lonF x.sum)) ∧ Below w.heap.size w w' := by
  have HV := Lib.hid (show lonF x.sum = lonP 6 x.hi (lonF z.sum) by rw [lon_post ho hh hz (by omega) (by omega), hk])
  have hzc := lonF_cases (ok_sum (x := z) (fun y hy => ho y (kid_nodes hz y hy)))
  have hm : lonF z.sum = -2 ∨ (-1 ≤ lonF z.sum ∧ lonF z.sum ≤ topI) := by unfold topI at *; omega
  have HH := Lib.hid hh
  have HK1 := Lib.hid hk1
  clear hh hk1 hzc
  have hb : Below w.heap.size w (w.alloc (.cells #[.int .i64 x.kind, .int .u64 ((word (x.set.testBit) 0 : Nat) : Int), .int .u64 ((word (x.set.testBit) 1 : Nat) : Int), .int .u64 ((word (x.set.testBit) 2 : Nat) : Int), .int .u64 ((word (x.set.testBit) 3 : Nat) : Int), .slice B x.kids.len cap, .int .i64 x.lo, .int .i64 x.hi] 28)) := (Below.refl _ _).alloc (Nat.le_refl _) _
  have HB := Lib.hid hb
  have HN := Lib.hid (Blk.new w 28 #[.int .i64 x.kind, .int .u64 ((word (x.set.testBit) 0 : Nat) : Int), .int .u64 ((word (x.set.testBit) 1 : Nat) : Int), .int .u64 ((word (x.set.testBit) 2 : Nat) : Int), .int .u64 ((word (x.set.testBit) 3 : Nat) : Int), .slice B x.kids.len cap, .int .i64 x.lo, .int .i64 x.hi])
  have HT := Lib.hid (ht.below hb)
  have HG := Lib.hid hG
  have HO := Lib.hid ho
  have HC := Lib.hid (rhollow_go x P B cap _ hs ho (ht.below hb))
  clear hb ht hG ho hs
  unfold ndV at HC ⊢
  rw [hk] at HN HT HB HC ⊢
  go_enter Tryz.func70, Tryz.ntmps70
  go_upto_region 1 with fail
  generalize (w.alloc (.cells #[.int .i64 6, .int .u64 ((word (x.set.testBit) 0 : Nat) : Int), .int .u64 ((word (x.set.testBit) 1 : Nat) : Int), .int .u64 ((word (x.set.testBit) 2 : Nat) : Int), .int .u64 ((word (x.set.testBit) 3 : Nat) : Int), .slice B x.kids.len cap, .int .i64 x.lo, .int .i64 x.hi] 28)) = w1 at *
  obtain ⟨n0, n1, n2, n3, n4, n5, n6, n7⟩ := ((HN.out)).c8r
  have hln := (HN.out).lt

  go_wp2_with fail
  refine HC.out.mono ?_
  rintro e w2 ⟨rfl, hb2⟩
  have HN2 := Lib.hid (HN.out.below hb2 HN.out.lt)
  have HT2 := Lib.hid (HT.out.below hb2)
  have HB2 := Lib.hid (HB.out.trans (hb2.mono HB.out.size))
  clear n0 n1 n2 n3 n4 n5 n6 n7 hln

  clear HC hb2 HN HT HB
  rw [HH.out]
  dsimp only
  have hk1 := HK1.out
  obtain ⟨b, o, C, capc, rfl, hbP, _, ⟨c0, c1, c2, c3, c4, c5, c6, c7⟩, hkz⟩ := HT2.out.get hz
  simp only [Nat.zero_mul, Nat.add_zero] at c0 c1 c2 c3 c4 c5 c6 c7
  have hblk := World.block_lt_of_cell? w2 _ c0
  have HC := Lib.hid (HG.out 0 z C capc w2 hz hkz)
  clear hz hkz
  unfold ndV at HC
  obtain ⟨n0, n1, n2, n3, n4, n5, n6, n7⟩ := ((HN2.out)).c8r
  have hln := (HN2.out).lt
  obtain ⟨m, hmm⟩ : ∃ m, m = lonF z.sum := ⟨_, rfl⟩
  rw [← hmm] at HV HC hm
  clear hmm
  go_wp2_with fail
  refine HC.out.mono ?_
  rintro e w3 ⟨rfl, hb3⟩
  have HN3 := Lib.hid (HN2.out.below hb3 HN2.out.lt)
  have HB3 := Lib.hid (HB2.out.trans (hb3.mono HB2.out.size))
  clear n0 n1 n2 n3 n4 n5 n6 n7 hln
  clear hb3 c0 c1 c2 c3 c4 c5 c6 c7 hblk HC HN2
  dsimp only
  by_cases h2 : m = -2
  · have e2 : (m == -2) = true := by rw [h2]; rfl
    have e3 : (m != -2) = false := by rw [h2]; rfl
    have hle : m ≤ 0 := by omega
    have HE := Lib.hid (show lonP 6 x.hi m = -2 by unfold lonP; rw [h2]; simp)
    clear hm h2
    obtain ⟨n0, n1, n2, n3, n4, n5, n6, n7⟩ := ((HN3.out)).c8r
    have hln := (HN3.out).lt
    go_wp2
    go_light
    go_ret
    exact ⟨by rw [HV.out, HE.out]; rfl, HB3.out⟩
  have e2 : (m == -2) = false := by rw [beq_eq_false_iff_ne]; exact h2
  have e3 : (m != -2) = true := by rw [bne_iff_ne]; exact h2
  have hm2 : -1 ≤ m ∧ m ≤ topI := by omega
  by_cases hle : m ≤ 0
  · skip
    have HE := Lib.hid (show lonP 6 x.hi m = 0 by unfold lonP; rw [if_pos ⟨hle, h2⟩])
    clear hm hm2 h2
    obtain ⟨n0, n1, n2, n3, n4, n5, n6, n7⟩ := ((HN3.out)).c8r
    have hln := (HN3.out).lt
    go_wp2
    go_light
    go_ret
    exact ⟨by rw [HV.out, HE.out]; rfl, HB3.out⟩
  have hgt : 0 < m := by omega
  have HE := Lib.hid (show lonP 6 x.hi m = -2 by unfold lonP; rw [if_neg (show ¬ (m ≤ 0 ∧ m ≠ -2) by omega), if_neg (by decide), if_neg (by omega), if_pos (by omega)])
  clear hm hm2 h2 hle
  obtain ⟨n0, n1, n2, n3, n4, n5, n6, n7⟩ := ((HN3.out)).c8r
  have hln := (HN3.out).lt
  go_wp2
  go_light
  go_ret
  exact ⟨by rw [HV.out, HE.out]; rfl, HB3.out⟩
set_option maxHeartbeats 4000000 in
theorem rl_post7 (x : Nd) (P : Nat → Prop) (B : Option Addr) (cap : Nat) (w : World) (hs : x.size ≤ 140737488355328) (hl : x.kids.len ≤ 140737488355328) (ho : ∀ y ∈ x.nodes, aloneN y = true) (ht : TreesAt w P x.kids B) (hG : KidL x P) (hh : x.sum.hollow = false) (hk : x.kind = 7) (z : Nd) (hz : x.kids.list[0]? = some z) (hk1 : x.kids.len = 1) : Calls Tryz.prog 70 #[ndV x B cap] w fun e w' => e = .returned (.int .i64 (lonF x.sum)) ∧ Below w.heap.size w w' := by
  have HV := Lib.hid (show lonF x.sum = lonP 7 x.hi (lonF z.sum) by rw [lon_post ho hh hz (by omega) (by omega), hk])
  have hzc := lonF_cases (ok_sum (x := z) (fun y hy => ho y (kid_nodes hz y hy)))
  have hm : lonF z.sum = -2 ∨ (-1 ≤ lonF z.sum ∧ lonF z.sum ≤ topI) := by unfold topI at *; omega
  have HH := Lib.hid hh
  have HK1 := Lib.hid hk1
  clear hh hk1 hzc
  have hb : Below w.heap.size w (w.alloc (.cells #[.int .i64 x.kind, .int .u64 ((word (x.set.testBit) 0 : Nat) : Int), .int .u64 ((word (x.set.testBit) 1 : Nat) : Int), .int .u64 ((word (x.set.testBit) 2 : Nat) : Int), .int .u64 ((word (x.set.testBit) 3 : Nat) : Int), .slice B x.kids.len cap, .int .i64 x.lo, .int .i64 x.hi] 28)) := (Below.refl _ _).alloc (Nat.le_refl _) _
  have HB := Lib.hid hb
  have HN := Lib.hid (Blk.new w 28 #[.int .i64 x.kind, .int .u64 ((word (x.set.testBit) 0 : Nat) : Int), .int .u64 ((word (x.set.testBit) 1 : Nat) : Int), .int .u64 ((word (x.set.testBit) 2 : Nat) : Int), .int .u64 ((word (x.set.testBit) 3 : Nat) : Int), .slice B x.kids.len cap, .int .i64 x.lo, .int .i64 x.hi])
  have HT := Lib.hid (ht.below hb)
  have HG := Lib.hid hG
  have HO := Lib.hid ho
  have HC := Lib.hid (rhollow_go x P B cap _ hs ho (ht.below hb))
  clear hb ht hG ho hs
  unfold ndV at HC ⊢
  rw [hk] at HN HT HB HC ⊢
  go_enter Tryz.func70, Tryz.ntmps70
  go_upto_region 1 with fail
  generalize (w.alloc (.cells #[.int .i64 7, .int .u64 ((word (x.set.testBit) 0 : Nat) : Int), .int .u64 ((word (x.set.testBit) 1 : Nat) : Int), .int .u64 ((word (x.set.testBit) 2 : Nat) : Int), .int .u64 ((word (x.set.testBit) 3 : Nat) : Int), .slice B x.kids.len cap, .int .i64 x.lo, .int .i64 x.hi] 28)) = w1 at *
  obtain ⟨n0, n1, n2, n3, n4, n5, n6, n7⟩ := ((HN.out)).c8r
  have hln := (HN.out).lt

  go_wp2_with fail
  refine HC.out.mono ?_
  rintro e w2 ⟨rfl, hb2⟩
  have HN2 := Lib.hid (HN.out.below hb2 HN.out.lt)
  have HT2 := Lib.hid (HT.out.below hb2)
  have HB2 := Lib.hid (HB.out.trans (hb2.mono HB.out.size))
  clear n0 n1 n2 n3 n4 n5 n6 n7 hln

  clear HC hb2 HN HT HB
  rw [HH.out]
  dsimp only
  have hk1 := HK1.out
  obtain ⟨b, o, C, capc, rfl, hbP, _, ⟨c0, c1, c2, c3, c4, c5, c6, c7⟩, hkz⟩ := HT2.out.get hz
  simp only [Nat.zero_mul, Nat.add_zero] at c0 c1 c2 c3 c4 c5 c6 c7
  have hblk := World.block_lt_of_cell? w2 _ c0
  have HC := Lib.hid (HG.out 0 z C capc w2 hz hkz)
  clear hz hkz
  unfold ndV at HC
  obtain ⟨n0, n1, n2, n3, n4, n5, n6, n7⟩ := ((HN2.out)).c8r
  have hln := (HN2.out).lt
  obtain ⟨m, hmm⟩ : ∃ m, m = lonF z.sum := ⟨_, rfl⟩
  rw [← hmm] at HV HC hm
  clear hmm
  go_wp2_with fail
  refine HC.out.mono ?_
  rintro e w3 ⟨rfl, hb3⟩
  have HN3 := Lib.hid (HN2.out.below hb3 HN2.out.lt)
  have HB3 := Lib.hid (HB2.out.trans (hb3.mono HB2.out.size))
  clear n0 n1 n2 n3 n4 n5 n6 n7 hln
  clear hb3 c0 c1 c2 c3 c4 c5 c6 c7 hblk HC HN2
  dsimp only
  by_cases h2 : m = -2
  · have e2 : (m == -2) = true := by rw [h2]; rfl
    have e3 : (m != -2) = false := by rw [h2]; rfl
    have hle : m ≤ 0 := by omega
    have HE := Lib.hid (show lonP 7 x.hi m = -2 by unfold lonP; rw [h2]; simp)
    clear hm h2
    obtain ⟨n0, n1, n2, n3, n4, n5, n6, n7⟩ := ((HN3.out)).c8r
    have hln := (HN3.out).lt
    go_wp2
    go_light
    go_ret
    exact ⟨by rw [HV.out, HE.out]; rfl, HB3.out⟩
  have e2 : (m == -2) = false := by rw [beq_eq_false_iff_ne]; exact h2
  have e3 : (m != -2) = true := by rw [bne_iff_ne]; exact h2
  have hm2 : -1 ≤ m ∧ m ≤ topI := by omega
  by_cases hle : m ≤ 0
  · skip
    have HE := Lib.hid (show lonP 7 x.hi m = 0 by unfold lonP; rw [if_pos ⟨hle, h2⟩])
    clear hm hm2 h2
    obtain ⟨n0, n1, n2, n3, n4, n5, n6, n7⟩ := ((HN3.out)).c8r
    have hln := (HN3.out).lt
    go_wp2
    go_light
    go_ret
    exact ⟨by rw [HV.out, HE.out]; rfl, HB3.out⟩
  have hgt : 0 < m := by omega
  have HE := Lib.hid (show lonP 7 x.hi m = -2 by unfold lonP; rw [if_neg (show ¬ (m ≤ 0 ∧ m ≠ -2) by omega), if_neg (by decide), if_neg (by omega), if_pos (by omega)])
  clear hm hm2 h2 hle
  obtain ⟨n0, n1, n2, n3, n4, n5, n6, n7⟩ := ((HN3.out)).c8r
  have hln := (HN3.out).lt
  go_wp2
  go_light
  go_ret
  exact ⟨by rw [HV.out, HE.out]; rfl, HB3.out⟩
set_option maxHeartbeats 4000000 in
theorem rl_post8 (x : Nd) (P : Nat → Prop) (B : Option Addr) (cap : Nat) (w : World) (hs : x.size ≤ 140737488355328) (hl : x.kids.len ≤ 140737488355328) (ho : ∀ y ∈ x.nodes, aloneN y = true) (ht : TreesAt w P x.kids B) (hG : KidL x P) (hh : x.sum.hollow = false) (hk : x.kind = 8) (z : Nd) (hz : x.kids.list[0]? = some z) (hk1 : x.kids.len = 1) : Calls Tryz.prog 70 #[ndV x B cap] w fun e w' => e = .returned (.int .i64 (lonF x.sum)) ∧ Below w.heap.size w w' := by
  have HV := Lib.hid (show lonF x.sum = lonP 8 x.hi (lonF z.sum) by rw [lon_post ho hh hz (by omega) (by omega), hk])
  have hzc := lonF_cases (ok_sum (x := z) (fun y hy => ho y (kid_nodes hz y hy)))
  have hm : lonF z.sum = -2 ∨ (-1 ≤ lonF z.sum ∧ lonF z.sum ≤ topI) := by unfold topI at *; omega
  have HH := Lib.hid hh
  have HK1 := Lib.hid hk1
  clear hh hk1 hzc
  have hb : Below w.heap.size w (w.alloc (.cells #[.int .i64 x.kind, .int .u64 ((word (x.set.testBit) 0 : Nat) : Int), .int .u64 ((word (x.set.testBit) 1 : Nat) : Int), .int .u64 ((word (x.set.testBit) 2 : Nat) : Int), .int .u64 ((word (x.set.testBit) 3 : Nat) : Int), .slice B x.kids.len cap, .int .i64 x.lo, .int .i64 x.hi] 28)) := (Below.refl _ _).alloc (Nat.le_refl _) _
  have HB := Lib.hid hb
  have HN := Lib.hid (Blk.new w 28 #[.int .i64 x.kind, .int .u64 ((word (x.set.testBit) 0 : Nat) : Int), .int .u64 ((word (x.set.testBit) 1 : Nat) : Int), .int .u64 ((word (x.set.testBit) 2 : Nat) : Int), .int .u64 ((word (x.set.testBit) 3 : Nat) : Int), .slice B x.kids.len cap, .int .i64 x.lo, .int .i64 x.hi])
  have HT := Lib.hid (ht.below hb)
  have HG := Lib.hid hG
  have HO := Lib.hid ho
  have HC := Lib.hid (rhollow_go x P B cap _ hs ho (ht.below hb))
  clear hb ht hG ho hs
  unfold ndV at HC ⊢
  rw [hk] at HN HT HB HC ⊢
  go_enter Tryz.func70, Tryz.ntmps70
  go_upto_region 1 with fail
  generalize (w.alloc (.cells #[.int .i64 8, .int .u64 ((word (x.set.testBit) 0 : Nat) : Int), .int .u64 ((word (x.set.testBit) 1 : Nat) : Int), .int .u64 ((word (x.set.testBit) 2 : Nat) : Int), .int .u64 ((word (x.set.testBit) 3 : Nat) : Int), .slice B x.kids.len cap, .int .i64 x.lo, .int .i64 x.hi] 28)) = w1 at *
  obtain ⟨n0, n1, n2, n3, n4, n5, n6, n7⟩ := ((HN.out)).c8r
  have hln := (HN.out).lt

  go_wp2_with fail
  refine HC.out.mono ?_
  rintro e w2 ⟨rfl, hb2⟩
  have HN2 := Lib.hid (HN.out.below hb2 HN.out.lt)
  have HT2 := Lib.hid (HT.out.below hb2)
  have HB2 := Lib.hid (HB.out.trans (hb2.mono HB.out.size))
  clear n0 n1 n2 n3 n4 n5 n6 n7 hln

  clear HC hb2 HN HT HB
  rw [HH.out]
  dsimp only
  have hk1 := HK1.out
  obtain ⟨b, o, C, capc, rfl, hbP, _, ⟨c0, c1, c2, c3, c4, c5, c6, c7⟩, hkz⟩ := HT2.out.get hz
  simp only [Nat.zero_mul, Nat.add_zero] at c0 c1 c2 c3 c4 c5 c6 c7
  have hblk := World.block_lt_of_cell? w2 _ c0
  have HC := Lib.hid (HG.out 0 z C capc w2 hz hkz)
  clear hz hkz
  unfold ndV at HC
  obtain ⟨n0, n1, n2, n3, n4, n5, n6, n7⟩ := ((HN2.out)).c8r
  have hln := (HN2.out).lt
  obtain ⟨m, hmm⟩ : ∃ m, m = lonF z.sum := ⟨_, rfl⟩
  rw [← hmm] at HV HC hm
  clear hmm
  go_wp2_with fail
  refine HC.out.mono ?_
  rintro e w3 ⟨rfl, hb3⟩
  have HN3 := Lib.hid (HN2.out.below hb3 HN2.out.lt)
  have HB3 := Lib.hid (HB2.out.trans (hb3.mono HB2.out.size))
  clear n0 n1 n2 n3 n4 n5 n6 n7 hln
  clear hb3 c0 c1 c2 c3 c4 c5 c6 c7 hblk HC HN2
  dsimp only
  by_cases h2 : m = -2
  · have e2 : (m == -2) = true := by rw [h2]; rfl
    have e3 : (m != -2) = false := by rw [h2]; rfl
    have hle : m ≤ 0 := by omega
    have HE := Lib.hid (show lonP 8 x.hi m = m by unfold lonP; rw [h2]; simp)
    clear hm h2
    obtain ⟨n0, n1, n2, n3, n4, n5, n6, n7⟩ := ((HN3.out)).c8r
    have hln := (HN3.out).lt
    go_wp2
    go_light
    go_ret
    exact ⟨by rw [HV.out, HE.out]; rfl, HB3.out⟩
  have e2 : (m == -2) = false := by rw [beq_eq_false_iff_ne]; exact h2
  have e3 : (m != -2) = true := by rw [bne_iff_ne]; exact h2
  have hm2 : -1 ≤ m ∧ m ≤ topI := by omega
  by_cases hle : m ≤ 0
  · skip
    have HE := Lib.hid (show lonP 8 x.hi m = 0 by unfold lonP; rw [if_pos ⟨hle, h2⟩])
    clear hm hm2 h2
    obtain ⟨n0, n1, n2, n3, n4, n5, n6, n7⟩ := ((HN3.out)).c8r
    have hln := (HN3.out).lt
    go_wp2
    go_light
    go_ret
    exact ⟨by rw [HV.out, HE.out]; rfl, HB3.out⟩
  have hgt : 0 < m := by omega
  have HE := Lib.hid (show lonP 8 x.hi m = m by unfold lonP; rw [if_neg (show ¬ (m ≤ 0 ∧ m ≠ -2) by omega), if_pos rfl])
  clear hm hm2 h2 hle
  obtain ⟨n0, n1, n2, n3, n4, n5, n6, n7⟩ := ((HN3.out)).c8r
  have hln := (HN3.out).lt
  go_wp2
  go_light
  go_ret
  exact ⟨by rw [HV.out, HE.out]; rfl, HB3.out⟩
set_option maxHeartbeats 4000000 in
theorem rl_post9 (x : Nd) (P : Nat → Prop) (B : Option Addr) (cap : Nat) (w : World) (hs : x.size ≤ 140737488355328) (hl : x.kids.len ≤ 140737488355328) (ho : ∀ y ∈ x.nodes, aloneN y = true) (ht : TreesAt w P x.kids B) (hG : KidL x P) (hh : x.sum.hollow = false) (hk : x.kind = 9) (z : Nd) (hz : x.kids.list[0]? = some z) (hk1 : x.kids.len = 1) : Calls Tryz.prog 70 #[ndV x B cap] w fun e w' => e = .returned (.int .i64 (lonF x.sum)) ∧ Below w.heap.size w w' := by
  have HV := Lib.hid (show lonF x.sum = lonP 9 x.hi (lonF z.sum) by rw [lon_post ho hh hz (by omega) (by omega), hk])
  have hzc := lonF_cases (ok_sum (x := z) (fun y hy => ho y (kid_nodes hz y hy)))
  have hm : lonF z.sum = -2 ∨ (-1 ≤ lonF z.sum ∧ lonF z.sum ≤ topI) := by unfold topI at *; omega
  have hn := nine_of (ho x (self_nodes x)) hk
  have HH := Lib.hid hh
  have HK1 := Lib.hid hk1
  clear hh hk1 hzc
  have hb : Below w.heap.size w (w.alloc (.cells #[.int .i64 x.kind, .int .u64 ((word (x.set.testBit) 0 : Nat) : Int), .int .u64 ((word (x.set.testBit) 1 : Nat) : Int), .int .u64 ((word (x.set.testBit) 2 : Nat) : Int), .int .u64 ((word (x.set.testBit) 3 : Nat) : Int), .slice B x.kids.len cap, .int .i64 x.lo, .int .i64 x.hi] 28)) := (Below.refl _ _).alloc (Nat.le_refl _) _
  have HB := Lib.hid hb
  have HN := Lib.hid (Blk.new w 28 #[.int .i64 x.kind, .int .u64 ((word (x.set.testBit) 0 : Nat) : Int), .int .u64 ((word (x.set.testBit) 1 : Nat) : Int), .int .u64 ((word (x.set.testBit) 2 : Nat) : Int), .int .u64 ((word (x.set.testBit) 3 : Nat) : Int), .slice B x.kids.len cap, .int .i64 x.lo, .int .i64 x.hi])
  have HT := Lib.hid (ht.below hb)
  have HG := Lib.hid hG
  have HO := Lib.hid ho
  have HC := Lib.hid (rhollow_go x P B cap _ hs ho (ht.below hb))
  clear hb ht hG ho hs
  unfold ndV at HC ⊢
  rw [hk] at HN HT HB HC ⊢
  go_enter Tryz.func70, Tryz.ntmps70
  go_upto_region 1 with fail
  generalize (w.alloc (.cells #[.int .i64 9, .int .u64 ((word (x.set.testBit) 0 : Nat) : Int), .int .u64 ((word (x.set.testBit) 1 : Nat) : Int), .int .u64 ((word (x.set.testBit) 2 : Nat) : Int), .int .u64 ((word (x.set.testBit) 3 : Nat) : Int), .slice B x.kids.len cap, .int .i64 x.lo, .int .i64 x.hi] 28)) = w1 at *
  obtain ⟨n0, n1, n2, n3, n4, n5, n6, n7⟩ := ((HN.out)).c8r
  have hln := (HN.out).lt

  go_wp2_with fail
  refine HC.out.mono ?_
  rintro e w2 ⟨rfl, hb2⟩
  have HN2 := Lib.hid (HN.out.below hb2 HN.out.lt)
  have HT2 := Lib.hid (HT.out.below hb2)
  have HB2 := Lib.hid (HB.out.trans (hb2.mono HB.out.size))
  clear n0 n1 n2 n3 n4 n5 n6 n7 hln

  clear HC hb2 HN HT HB
  rw [HH.out]
  dsimp only
  have hk1 := HK1.out
  obtain ⟨b, o, C, capc, rfl, hbP, _, ⟨c0, c1, c2, c3, c4, c5, c6, c7⟩, hkz⟩ := HT2.out.get hz
  simp only [Nat.zero_mul, Nat.add_zero] at c0 c1 c2 c3 c4 c5 c6 c7
  have hblk := World.block_lt_of_cell? w2 _ c0
  have HC := Lib.hid (HG.out 0 z C capc w2 hz hkz)
  clear hz hkz
  unfold ndV at HC
  obtain ⟨n0, n1, n2, n3, n4, n5, n6, n7⟩ := ((HN2.out)).c8r
  have hln := (HN2.out).lt
  obtain ⟨m, hmm⟩ : ∃ m, m = lonF z.sum := ⟨_, rfl⟩
  rw [← hmm] at HV HC hm
  clear hmm
  go_wp2_with fail
  refine HC.out.mono ?_
  rintro e w3 ⟨rfl, hb3⟩
  have HN3 := Lib.hid (HN2.out.below hb3 HN2.out.lt)
  have HB3 := Lib.hid (HB2.out.trans (hb3.mono HB2.out.size))
  clear n0 n1 n2 n3 n4 n5 n6 n7 hln
  clear hb3 c0 c1 c2 c3 c4 c5 c6 c7 hblk HC HN2
  dsimp only
  by_cases h0 : x.hi = 0
  · have e0 : (x.hi == 0) = true := by rw [h0]; rfl
    have HE := Lib.hid (show lonP 9 x.hi m = 0 by unfold lonP; rw [if_neg (show ¬ ((9 : Int) = 8) by decide), if_pos (show (9 : Int) = 9 ∧ x.hi = 0 from ⟨rfl, h0⟩)]; simp)
    by_cases hle : m ≤ 0
    · by_cases h2 : m = -2
      · have e2 : (m == -2) = true := by rw [h2]; rfl
        have e3 : (m != -2) = false := by rw [h2]; rfl
        clear hm h2 h0 hn
        obtain ⟨n0, n1, n2, n3, n4, n5, n6, n7⟩ := ((HN3.out)).c8r
        have hln := (HN3.out).lt
        go_wp2
        go_light
        go_ret
        exact ⟨by rw [HV.out, HE.out]; rfl, HB3.out⟩
      · have e2 : (m == -2) = false := by rw [beq_eq_false_iff_ne]; exact h2
        have e3 : (m != -2) = true := by rw [bne_iff_ne]; exact h2
        clear hm h2 h0 hn
        obtain ⟨n0, n1, n2, n3, n4, n5, n6, n7⟩ := ((HN3.out)).c8r
        have hln := (HN3.out).lt
        go_wp2
        go_light
        go_ret
        exact ⟨by rw [HV.out, HE.out]; rfl, HB3.out⟩
    · have hgt : 0 < m := by omega
      clear hm h0 hn hle
      obtain ⟨n0, n1, n2, n3, n4, n5, n6, n7⟩ := ((HN3.out)).c8r
      have hln := (HN3.out).lt
      go_wp2
      go_light
      go_ret
      exact ⟨by rw [HV.out, HE.out]; rfl, HB3.out⟩
  have e0 : (x.hi == 0) = false := by rw [beq_eq_false_iff_ne]; exact h0
  by_cases h2 : m = -2
  · have e2 : (m == -2) = true := by rw [h2]; rfl
    have e3 : (m != -2) = false := by rw [h2]; rfl
    have hle : m ≤ 0 := by omega
    have HE := Lib.hid (show lonP 9 x.hi m = -2 by unfold lonP; rw [h2]; simp [h0])
    clear hm h2 h0 hn
    obtain ⟨n0, n1, n2, n3, n4, n5, n6, n7⟩ := ((HN3.out)).c8r
    have hln := (HN3.out).lt
    go_wp2
    go_light
    go_ret
    exact ⟨by rw [HV.out, HE.out]; rfl, HB3.out⟩
  have e2 : (m == -2) = false := by rw [beq_eq_false_iff_ne]; exact h2
  have e3 : (m != -2) = true := by rw [bne_iff_ne]; exact h2
  have hm2 : -1 ≤ m ∧ m ≤ topI := by omega
  by_cases hle : m ≤ 0
  · skip
    have HE := Lib.hid (show lonP 9 x.hi m = 0 by unfold lonP; rw [if_pos ⟨hle, h2⟩])
    clear hm hm2 h2 h0 hn
    obtain ⟨n0, n1, n2, n3, n4, n5, n6, n7⟩ := ((HN3.out)).c8r
    have hln := (HN3.out).lt
    go_wp2
    go_light
    go_ret
    exact ⟨by rw [HV.out, HE.out]; rfl, HB3.out⟩
  have hgt : 0 < m := by omega
  by_cases hneg : x.hi < 0
  · skip
    have HE := Lib.hid (show lonP 9 x.hi m = -2 by unfold lonP; rw [if_neg (show ¬ (m ≤ 0 ∧ m ≠ -2) by omega), if_neg (by decide), if_neg (by omega), if_pos (by omega)])
    clear hm hm2 h2 hle h0 hn
    obtain ⟨n0, n1, n2, n3, n4, n5, n6, n7⟩ := ((HN3.out)).c8r
    have hln := (HN3.out).lt
    go_wp2
    go_light
    go_ret
    exact ⟨by rw [HV.out, HE.out]; rfl, HB3.out⟩
  have HE := Lib.hid (show lonP 9 x.hi m = timF x.hi m by unfold lonP; rw [if_neg (show ¬ (m ≤ 0 ∧ m ≠ -2) by omega), if_neg (by decide), if_neg (by omega), if_neg (by omega)])
  have HM := Lib.hid (fun (W : World) (g : Nat) (hg : g = W.heap.size) => rmul_int W g x.hi m hg ⟨by omega, by unfold topI; omega⟩ ⟨by omega, hm2.2⟩)
  clear hm hm2 h2 hle h0 hn
  obtain ⟨n0, n1, n2, n3, n4, n5, n6, n7⟩ := ((HN3.out)).c8r
  have hln := (HN3.out).lt
  go_wp2_with fail
  refine (HM.out w3 _ rfl).mono ?_
  rintro e w5 ⟨rfl, hb5⟩
  have HB5 := Lib.hid (HB3.out.trans (hb5.mono HB3.out.size))
  clear hb5
  dsimp only
  go_wp2
  go_light
  go_ret
  exact ⟨by rw [HV.out, HE.out]; rfl, HB5.out⟩
set_option maxHeartbeats 4000000 in
theorem rl_cat (x : Nd) (P : Nat → Prop) (B : Option Addr) (cap : Nat) (w : World) (hs : x.size ≤ 140737488355328) (hl : x.kids.len ≤ 140737488355328) (ho : ∀ y ∈ x.nodes, aloneN y = true) (ht : TreesAt w P x.kids B) (hG : KidL x P) (hh : x.sum.hollow = false) (hk : x.kind = 4) : Calls Tryz.prog 70 #[ndV x B cap] w fun e w' => e = .returned (.int .i64 (lonF x.sum)) ∧ Below w.heap.size w w' := by
  have HV := Lib.hid (show x.sum = fcatF x.kids.sums from sum_cat hk)
  have HF := Lib.hid (show (fcatF x.kids.sums).hollow = false by rw [← HV.out]; exact hh)
  have HS := Lib.hid (ok_sums x.kids (fun y hy => ho y (by simp [Nd.nodes, hy])))
  have HH := Lib.hid hh
  clear hh
  have hb : Below w.heap.size w (w.alloc (.cells #[.int .i64 x.kind, .int .u64 ((word (x.set.testBit) 0 : Nat) : Int), .int .u64 ((word (x.set.testBit) 1 : Nat) : Int), .int .u64 ((word (x.set.testBit) 2 : Nat) : Int), .int .u64 ((word (x.set.testBit) 3 : Nat) : Int), .slice B x.kids.len cap, .int .i64 x.lo, .int .i64 x.hi] 28)) := (Below.refl _ _).alloc (Nat.le_refl _) _
  have HB := Lib.hid hb
  have HN := Lib.hid (Blk.new w 28 #[.int .i64 x.kind, .int .u64 ((word (x.set.testBit) 0 : Nat) : Int), .int .u64 ((word (x.set.testBit) 1 : Nat) : Int), .int .u64 ((word (x.set.testBit) 2 : Nat) : Int), .int .u64 ((word (x.set.testBit) 3 : Nat) : Int), .slice B x.kids.len cap, .int .i64 x.lo, .int .i64 x.hi])
  have HT := Lib.hid (ht.below hb)
  have HG := Lib.hid hG
  have HO := Lib.hid ho
  have HC := Lib.hid (rhollow_go x P B cap _ hs ho (ht.below hb))
  clear hb ht hG ho hs
  unfold ndV at HC ⊢
  rw [hk] at HN HT HB HC ⊢
  go_enter Tryz.func70, Tryz.ntmps70
  go_upto_region 1 with fail
  generalize (w.alloc (.cells #[.int .i64 4, .int .u64 ((word (x.set.testBit) 0 : Nat) : Int), .int .u64 ((word (x.set.testBit) 1 : Nat) : Int), .int .u64 ((word (x.set.testBit) 2 : Nat) : Int), .int .u64 ((word (x.set.testBit) 3 : Nat) : Int), .slice B x.kids.len cap, .int .i64 x.lo, .int .i64 x.hi] 28)) = w1 at *
  obtain ⟨n0, n1, n2, n3, n4, n5, n6, n7⟩ := ((HN.out)).c8r
  have hln := (HN.out).lt

  go_wp2_with fail
  refine HC.out.mono ?_
  rintro e w2 ⟨rfl, hb2⟩
  have HN2 := Lib.hid (HN.out.below hb2 HN.out.lt)
  have HT2 := Lib.hid (HT.out.below hb2)
  have HB2 := Lib.hid (HB.out.trans (hb2.mono HB.out.size))
  clear n0 n1 n2 n3 n4 n5 n6 n7 hln

  clear HC hb2 HN HT HB
  rw [HH.out]
  dsimp only
  have n0 := HN2.out.cell 0
  have hln := HN2.out.lt
  simp only [List.getElem?_toArray, List.getElem?_cons_zero] at n0
  go_wp2
  clear n0 hln
  go_loopw [3, 4, 5] (fun nv i mv wr => ∃ (k : Nat) (n : Int), i = .int .i64 (k : Int) ∧ nv = .int .i64 n ∧ k ≤ x.kids.len ∧ Hid (n = (fcatF (x.kids.sums.take k)).long ∧ n ≠ endF) ∧ Hid (Below w.heap.size w wr) ∧ Hid (Below w2.heap.size w2 wr)) (fun _ i _ _ => x.kids.len - (intOf i).toNat)
  case atStart => exact ⟨0, 0, rfl, rfl, Nat.zero_le _, Lib.hid ⟨rfl, by decide⟩, HB2, Lib.hid (Below.refl _ _)⟩
  case round =>
    obtain ⟨k, n, rfl, rfl, hk, HA, HB, HW⟩ := hrel
    have HN3 := Lib.hid (HN2.out.below HW.out HN2.out.lt)
    have n0 := HN3.out.cell 0
    have n5 := HN3.out.cell 5
    have hln := HN3.out.lt
    simp only [List.getElem?_toArray, List.getElem?_cons_zero, List.getElem?_cons_succ] at n0 n5
    by_cases hlt : k < x.kids.len
    · obtain ⟨z, hz⟩ : ∃ z, x.kids.list[k]? = some z := ⟨_, List.getElem?_eq_getElem (by rw [Trees.len_list]; exact hlt)⟩
      obtain ⟨b, o, C, capc, rfl, _, _, ⟨c0, c1, c2, c3, c4, c5, c6, c7⟩, hkz⟩ := (HT2.out.below HW.out).get hz
      have hdl : (k : Int) < (x.kids.len : Int) := by omega
      have HC := Lib.hid (HG.out k z C capc wr hz hkz)
      have hzg := sums_get hz
      have hzh := fcatF_full HF.out z.sum (List.mem_of_getElem? hzg)
      have hzo := HS.out z.sum (List.mem_of_getElem? hzg)
      have hpo := ok_cat (ok_take HS.out k)
      have hph := fcatF_take HF.out k
      clear hz hkz
      unfold ndV at HC
      by_cases he : z.sum.long = endF
      · have HE := Lib.hid (show lonF x.sum = -2 by rw [HV.out]; exact lonF_end HF.out (fcatF_endless HF.out hzg he))
        rw [lonF_end hzh he] at HC
        clear hzg hzh hzo hpo hph he
        go_wp2_with fail
        refine HC.out.mono ?_
        rintro e w3 ⟨rfl, hb3⟩
        have HN4 := Lib.hid (HN3.out.below hb3 HN3.out.lt)
        have HB3 := Lib.hid (HB.out.trans (hb3.mono HB.out.size))
        have HW3 := Lib.hid (HW.out.trans (hb3.mono HW.out.size))
        clear hb3 HC c0 c1 c2 c3 c4 c5 c6 c7 n0 n5 hln
        have n0 := HN4.out.cell 0
        have hln := HN4.out.lt
        simp only [List.getElem?_toArray, List.getElem?_cons_zero] at n0
        dsimp only
        go_wp2
        go_light
        go_ret
        exact ⟨by rw [HE.out]; rfl, HB3.out⟩
      · have p1 := hpo.long hph
        have p2 := hpo.short hph
        have p3 := hzo.long hzh
        have p4 := hzo.short hzh
        rw [← HA.out.1] at p1
        have hn := HA.out.2
        have hn2 : 0 ≤ n ∧ n ≤ topI := ⟨by omega, by unfold topI; unfold endF at *; omega⟩
        have hz2 : 0 ≤ z.sum.long ∧ z.sum.long ≤ topI := ⟨by omega, by unfold topI; unfold endF at *; omega⟩
        have HE := Lib.hid (show (fcatF (x.kids.sums.take (k + 1))).long = addF n z.sum.long by rw [take_snocS hzg, fcatF_snoc, behind_full hph hzh, HA.out.1])
        have hne := addF_low hn2.1 hz2.1 hn2.2 hz2.2
        have HNe := Lib.hid (show addF n z.sum.long ≠ endF by unfold topI at hne; unfold endF; omega)
        have HM := Lib.hid (fun (W : World) (g : Nat) (hg : g = W.heap.size) => rnum_int W g n z.sum.long hg hn2 hz2)
        have e2 : (z.sum.long == -2) = false := by rw [beq_eq_false_iff_ne]; omega
        rw [lonF_len hzh he] at HC
        clear hzg hzh hzo hpo hph he p1 p2 p3 p4 hn hn2 hz2 hne
        generalize z.sum.long = zs at *
        go_wp2_with fail
        refine HC.out.mono ?_
        rintro e w3 ⟨rfl, hb3⟩
        have HN4 := Lib.hid (HN3.out.below hb3 HN3.out.lt)
        have HB3 := Lib.hid (HB.out.trans (hb3.mono HB.out.size))
        have HW3 := Lib.hid (HW.out.trans (hb3.mono HW.out.size))
        clear hb3 HC c0 c1 c2 c3 c4 c5 c6 c7 n0 n5 hln
        have n0 := HN4.out.cell 0
        have hln := HN4.out.lt
        simp only [List.getElem?_toArray, List.getElem?_cons_zero] at n0
        dsimp only
        go_wp2_with fail
        refine (HM.out w3 _ rfl).mono ?_
        rintro e w5 ⟨rfl, hb5⟩
        have HB5 := Lib.hid (HB3.out.trans (hb5.mono HB3.out.size))
        have HW5 := Lib.hid (HW3.out.trans (hb5.mono HW3.out.size))
        clear hb5 HM n0 hln
        dsimp only
        go_wp2
        go_roundw
        case rel => exact ⟨k + 1, _, by go_num, rfl, by omega, Lib.hid ⟨HE.out.symm, HNe.out⟩, HB5, HW5⟩
        case measure => simp [intOf]; omega
    · obtain rfl : k = x.kids.len := by omega
      have hdl : ¬ ((x.kids.len : Int) < (x.kids.len : Int)) := by omega
      have HE := Lib.hid (show lonF x.sum = n by
        have e : fcatF (x.kids.sums.take x.kids.len) = x.sum := by rw [← sums_len, List.take_length, HV.out]
        have h1 := HA.out
        rw [e] at h1
        rw [lonF_len HH.out (by rw [← h1.1]; exact h1.2), h1.1])
      clear HA
      go_wp2
      go_light
      go_ret
      exact ⟨by rw [HE.out]; rfl, HB.out⟩
set_option maxHeartbeats 4000000 in
theorem rl_alt (x : Nd) (P : Nat → Prop) (B : Option Addr) (cap : Nat) (w : World) (hs : x.size ≤ 140737488355328) (hl : x.kids.len ≤ 140737488355328) (ho : ∀ y ∈ x.nodes, aloneN y = true) (ht : TreesAt w P x.kids B) (hG : KidL x P) (hh : x.sum.hollow = false) (hk : x.kind = 5) : Calls Tryz.prog 70 #[ndV x B cap] w fun e w' => e = .returned (.int .i64 (lonF x.sum)) ∧ Below w.heap.size w w' := by
  have HV := Lib.hid (show x.sum = faltF x.kids.sums from sum_alt hk)
  have HF := Lib.hid (show (faltF x.kids.sums).hollow = false by rw [← HV.out]; exact hh)
  have HS := Lib.hid (ok_sums x.kids (fun y hy => ho y (by simp [Nd.nodes, hy])))
  have HH := Lib.hid hh
  clear hh
  have hb : Below w.heap.size w (w.alloc (.cells #[.int .i64 x.kind, .int .u64 ((word (x.set.testBit) 0 : Nat) : Int), .int .u64 ((word (x.set.testBit) 1 : Nat) : Int), .int .u64 ((word (x.set.testBit) 2 : Nat) : Int), .int .u64 ((word (x.set.testBit) 3 : Nat) : Int), .slice B x.kids.len cap, .int .i64 x.lo, .int .i64 x.hi] 28)) := (Below.refl _ _).alloc (Nat.le_refl _) _
  have HB := Lib.hid hb
  have HN := Lib.hid (Blk.new w 28 #[.int .i64 x.kind, .int .u64 ((word (x.set.testBit) 0 : Nat) : Int), .int .u64 ((word (x.set.testBit) 1 : Nat) : Int), .int .u64 ((word (x.set.testBit) 2 : Nat) : Int), .int .u64 ((word (x.set.testBit) 3 : Nat) : Int), .slice B x.kids.len cap, .int .i64 x.lo, .int .i64 x.hi])
  have HT := Lib.hid (ht.below hb)
  have HG := Lib.hid hG
  have HO := Lib.hid ho
  have HC := Lib.hid (rhollow_go x P B cap _ hs ho (ht.below hb))
  clear hb ht hG ho hs
  unfold ndV at HC ⊢
  rw [hk] at HN HT HB HC ⊢
  go_enter Tryz.func70, Tryz.ntmps70
  go_upto_region 1 with fail
  generalize (w.alloc (.cells #[.int .i64 5, .int .u64 ((word (x.set.testBit) 0 : Nat) : Int), .int .u64 ((word (x.set.testBit) 1 : Nat) : Int), .int .u64 ((word (x.set.testBit) 2 : Nat) : Int), .int .u64 ((word (x.set.testBit) 3 : Nat) : Int), .slice B x.kids.len cap, .int .i64 x.lo, .int .i64 x.hi] 28)) = w1 at *
  obtain ⟨n0, n1, n2, n3, n4, n5, n6, n7⟩ := ((HN.out)).c8r
  have hln := (HN.out).lt

  go_wp2_with fail
  refine HC.out.mono ?_
  rintro e w2 ⟨rfl, hb2⟩
  have HN2 := Lib.hid (HN.out.below hb2 HN.out.lt)
  have HT2 := Lib.hid (HT.out.below hb2)
  have HB2 := Lib.hid (HB.out.trans (hb2.mono HB.out.size))
  clear n0 n1 n2 n3 n4 n5 n6 n7 hln

  clear HC hb2 HN HT HB
  rw [HH.out]
  dsimp only
  have n0 := HN2.out.cell 0
  have hln := HN2.out.lt
  simp only [List.getElem?_toArray, List.getElem?_cons_zero] at n0
  go_wp2
  clear n0 hln
  go_loopw [3, 4, 5] (fun nv i mv wr => ∃ (k : Nat) (n : Int), i = .int .i64 (k : Int) ∧ nv = .int .i64 n ∧ k ≤ x.kids.len ∧ Hid ((n = if (faltF (x.kids.sums.take k)).hollow = true then 0 else (faltF (x.kids.sums.take k)).long) ∧ n ≠ endF) ∧ Hid (Below w.heap.size w wr) ∧ Hid (Below w2.heap.size w2 wr)) (fun _ i _ _ => x.kids.len - (intOf i).toNat)
  case atStart => exact ⟨0, 0, rfl, rfl, Nat.zero_le _, Lib.hid ⟨rfl, by decide⟩, HB2, Lib.hid (Below.refl _ _)⟩
  case round =>
    obtain ⟨k, n, rfl, rfl, hk, HA, HB, HW⟩ := hrel
    have HN3 := Lib.hid (HN2.out.below HW.out HN2.out.lt)
    have n0 := HN3.out.cell 0
    have n5 := HN3.out.cell 5
    have hln := HN3.out.lt
    simp only [List.getElem?_toArray, List.getElem?_cons_zero, List.getElem?_cons_succ] at n0 n5
    by_cases hlt : k < x.kids.len
    · obtain ⟨z, hz⟩ : ∃ z, x.kids.list[k]? = some z := ⟨_, List.getElem?_eq_getElem (by rw [Trees.len_list]; exact hlt)⟩
      obtain ⟨b, o, C, capc, rfl, _, _, ⟨c0, c1, c2, c3, c4, c5, c6, c7⟩, hkz⟩ := (HT2.out.below HW.out).get hz
      have hdl : (k : Int) < (x.kids.len : Int) := by omega
      have HC := Lib.hid (HG.out k z C capc wr hz hkz)
      have hzg := sums_get hz
      have hzo := HS.out z.sum (List.mem_of_getElem? hzg)
      have hpo := ok_alt (ok_take HS.out k)
      have hcs := lonF_cases hzo
      clear hz hkz
      unfold ndV at HC
      by_cases he : lonF z.sum = -2
      · have hx : z.sum.hollow = false ∧ z.sum.long = endF := by
          rcases hcs with ⟨h1, h2⟩ | ⟨h1, h2, h3⟩ | ⟨h1, h2, h3, h4, h5⟩
          · omega
          · exact ⟨h1, h2⟩
          · omega
        have HE := Lib.hid (show lonF x.sum = -2 by rw [HV.out]; exact lonF_end HF.out (faltF_endless HS.out hzg hx.1 hx.2))
        rw [he] at HC
        clear hzg hzo hpo hcs he hx
        go_wp2_with fail
        refine HC.out.mono ?_
        rintro e w3 ⟨rfl, hb3⟩
        have HN4 := Lib.hid (HN3.out.below hb3 HN3.out.lt)
        have HB3 := Lib.hid (HB.out.trans (hb3.mono HB.out.size))
        have HW3 := Lib.hid (HW.out.trans (hb3.mono HW.out.size))
        clear hb3 HC c0 c1 c2 c3 c4 c5 c6 c7 n0 n5 hln
        have n0 := HN4.out.cell 0
        have hln := HN4.out.lt
        simp only [List.getElem?_toArray, List.getElem?_cons_zero] at n0
        dsimp only
        go_wp2
        go_light
        go_ret
        exact ⟨by rw [HE.out]; rfl, HB3.out⟩
      · have HE := Lib.hid (show (if (faltF (x.kids.sums.take (k + 1))).hollow = true then 0 else (faltF (x.kids.sums.take (k + 1))).long) = if n < lonF z.sum then lonF z.sum else n by
          rw [take_snocS hzg, faltF_snoc, HA.out.1]
          cases hp : (faltF (x.kids.sums.take k)).hollow with
          | true =>
            rw [either_left hp]
            simp only [if_true]
            rcases hcs with ⟨h1, h2⟩ | ⟨h1, h2, h3⟩ | ⟨h1, h2, h3, h4, h5⟩
            · simp only [h1, if_true]; rw [h2]; rfl
            · omega
            · simp only [h1, Bool.false_eq_true, if_false]; rw [h3]; split <;> omega
          | false =>
            have p1 := hpo.long hp
            have p2 := hpo.short hp
            rcases hcs with ⟨h1, h2⟩ | ⟨h1, h2, h3⟩ | ⟨h1, h2, h3, h4, h5⟩
            · rw [either_right hp h1]
              simp only [hp, Bool.false_eq_true, if_false]
              rw [h2, if_neg (by omega)]
            · omega
            · rw [either_full hp h1]
              simp only [Bool.false_eq_true, if_false]
              rw [h3]
              split <;> omega)
        have e2 : (lonF z.sum == -2) = false := by rw [beq_eq_false_iff_ne]; exact he
        have HNe := Lib.hid (show lonF z.sum ≠ endF by unfold endF; unfold endF topI at hcs; omega)
        have HNn := Lib.hid HA.out.2
        clear hzg hzo hpo he hcs HA
        generalize lonF z.sum = zs at *
        go_wp2_with fail
        refine HC.out.mono ?_
        rintro e w3 ⟨rfl, hb3⟩
        have HN4 := Lib.hid (HN3.out.below hb3 HN3.out.lt)
        have HB3 := Lib.hid (HB.out.trans (hb3.mono HB.out.size))
        have HW3 := Lib.hid (HW.out.trans (hb3.mono HW.out.size))
        clear hb3 HC c0 c1 c2 c3 c4 c5 c6 c7 n0 n5 hln
        have n0 := HN4.out.cell 0
        have hln := HN4.out.lt
        simp only [List.getElem?_toArray, List.getElem?_cons_zero] at n0
        dsimp only
        by_cases hls : n < zs
        · have HE2 := Lib.hid (show _ = zs from (HE.out).trans (if_pos hls))
          go_wp2
          go_roundw
          case rel => exact ⟨k + 1, _, by go_num, rfl, by omega, Lib.hid ⟨HE2.out.symm, HNe.out⟩, HB3, HW3⟩
          case measure => simp [intOf]; omega
        · have HE2 := Lib.hid (show _ = n from (HE.out).trans (if_neg hls))
          go_wp2
          go_roundw
          case rel => exact ⟨k + 1, _, by go_num, rfl, by omega, Lib.hid ⟨HE2.out.symm, HNn.out⟩, HB3, HW3⟩
          case measure => simp [intOf]; omega
    · obtain rfl : k = x.kids.len := by omega
      have hdl : ¬ ((x.kids.len : Int) < (x.kids.len : Int)) := by omega
      have HE := Lib.hid (show lonF x.sum = n by
        have e : faltF (x.kids.sums.take x.kids.len) = x.sum := by rw [← sums_len, List.take_length, HV.out]
        have h1 := HA.out
        rw [e, HH.out] at h1
        have h2 : n = x.sum.long := h1.1
        rw [lonF_len HH.out (by rw [← h2]; exact h1.2), h2])
      clear HA
      go_wp2
      go_light
      go_ret
      exact ⟨by rw [HE.out]; rfl, HB.out⟩
def RLoC (n : Nat) : Prop := ∀ (x : Nd) (P : Nat → Prop) (B : Option Addr) (cap : Nat) (w : World), x.size ≤ n → x.size ≤ 140737488355328 → (∀ y ∈ x.nodes, aloneN y = true) → TreesAt w P x.kids B → Calls Tryz.prog 70 #[ndV x B cap] w fun e w' => e = .returned (.int .i64 (lonF x.sum)) ∧ Below w.heap.size w w'
theorem rlo_step {n : Nat} (ih : RLoC n) : RLoC (n + 1) := by
  intro x P B cap w hsz hlen ho ht
  have hlk : x.kids.len ≤ 140737488355328 := by have := Trees.len_size x.kids; unfold Nd.size at hlen; omega
  have hG : KidL x P := fun i z C capc w' hz ht' => by
    have := Trees.size_get x.kids i z hz
    have hks : x.kids.size + 1 = x.size := by unfold Nd.size; omega
    exact ih z _ C capc w' (by omega) (by omega) (fun y hy => ho y (kid_nodes hz y hy)) ht'
  obtain ⟨a1, a9, a0, ak1, ak9⟩ := aloneN_kids (ho x (self_nodes x))
  cases hh : x.sum.hollow with
  | true => exact rl_no x _ B cap w hlen hlk ho ht hG hh
  | false =>
    by_cases k1 : x.kind = 1
    · rw [sum_none k1] at hh; cases hh
    by_cases k2 : x.kind = 2
    · exact rl_two x _ B cap w hlen hlk ho ht hG hh k2
    by_cases k3 : x.kind = 3
    · exact rl_set x _ B cap w hlen hlk ho ht hG hh k3
    by_cases k4 : x.kind = 4
    · exact rl_cat x _ B cap w hlen hlk ho ht hG hh k4
    by_cases k5 : x.kind = 5
    · exact rl_alt x _ B cap w hlen hlk ho ht hG hh k5
    obtain ⟨z, _, hz⟩ := one_kid (a1 (by omega) (by omega))
    have hk1 := a1 (by omega) (by omega)
    by_cases k6 : x.kind = 6
    · exact rl_post6 x _ B cap w hlen hlk ho ht hG hh k6 z hz hk1
    by_cases k7 : x.kind = 7
    · exact rl_post7 x _ B cap w hlen hlk ho ht hG hh k7 z hz hk1
    by_cases k8 : x.kind = 8
    · exact rl_post8 x _ B cap w hlen hlk ho ht hG hh k8 z hz hk1
    exact rl_post9 x _ B cap w hlen hlk ho ht hG hh (by omega) z hz hk1
theorem rlong_go (x : Nd) (P : Nat → Prop) (B : Option Addr) (cap : Nat) (w : World) (hlen : x.size ≤ 140737488355328) (ho : ∀ y ∈ x.nodes, aloneN y = true) (ht : TreesAt w P x.kids B) : Calls Tryz.prog 70 #[ndV x B cap] w fun e w' => e = .returned (.int .i64 (lonF x.sum)) ∧ Below w.heap.size w w' := by
  have h : ∀ n, RLoC n := by
    intro n
    induction n with
    | zero => exact fun x _ _ _ _ h => by unfold Nd.size at h; omega
    | succ n ih => exact rlo_step ih
  exact h x.size x P B cap w (Nat.le_refl _) hlen ho ht
end Go.Proofs.YtfekpkelmliejaaGreatDoor
namespace Go.Proofs.YtfekpkelmliejaaGreatDoor
open Go.RowKit
set_option linter.unusedSimpArgs false
set_option linter.unusedVariables false
set_option maxRecDepth 100000

theorem own_room {w : World} {base size n : Nat} {e : TypeId} {v : Value} {xs : List Value} {a : Option Addr} {cap : Nat} (h : w.ownsRow base e size v n xs) (hv : v = .slice a n cap) : n ≤ cap := by
  rcases h.2 with ⟨rfl, h0⟩ | ⟨g', cap', cur, rfl, _, _, hc, _⟩
  · have := (Value.slice.inj hv).2.1
    omega
  · have := (Value.slice.inj hv).2.2
    omega
theorem LexRow.at {w : World} {A : Option Addr} {cap : Nat} {L : List Lex} (h : LexRow w (.slice A L.length cap) L) : LexsAt w w.heap.size A L := fun hl => by
  obtain ⟨A', cap', hv, hc⟩ := h
  obtain ⟨rfl, _⟩ : A = A' ∧ cap = cap' := ⟨(Value.slice.inj hv).1, (Value.slice.inj hv).2.2⟩
  obtain ⟨x, hx⟩ : ∃ x, L[0]? = some x := ⟨_, List.getElem?_eq_getElem hl⟩
  obtain ⟨g, hg, c0, _⟩ := hc 0 x hx
  refine ⟨g, 0, hg, World.block_lt_of_cell? w _ c0, fun k y hy => ?_⟩
  obtain ⟨g', hg', d⟩ := hc k y hy
  obtain rfl : g = g' := by rw [hg] at hg'; simpa using hg'
  simpa using d
theorem one_leaf {x : Lex} (h : rightS x = true) (hk : x.kind = 1) : lexemesS [x] = .ok (leafN (maskOf x.set)) := by
  rw [lexemesS_ok (by simp [h]) (by simp)]
  have e : altG 6 [] [] [x] = .ok (leafN (maskOf x.set), []) := by
    have hp : piecesG 5 [] [] [x] = .ok ([leafN (maskOf x.set)], []) := by
      rw [piecesG_go (atomG_set hk)]
      exact piecesG_end (atomG_nil _ _)
    rw [altG_ok hp]
    rfl
  show (match altG 6 [] [] [x] with | .error e => Except.error e | .ok (x, _) => .ok x) = _
  rw [e]
theorem TreeOut.later {r : Except Wrong Nd} {w w0 : World} (hb : Below w0.heap.size w0 w) {e : Ending} {w' : World} (h : TreeOut r w e w') : TreeOut r w0 e w' := by
  unfold TreeOut at h ⊢
  cases r with
  | ok x =>
    obtain ⟨B, cap, h1, h2, h3, h4⟩ := h
    exact ⟨B, cap, h1, hb.trans (h2.mono hb.size), h3, h4.weak (fun b hb' _ => Nat.le_trans hb.size hb')⟩
  | error x => exact ⟨h.1, hb.trans (h.2.mono hb.size)⟩

set_option maxHeartbeats 4000000 in
theorem text_bad (A : Option Addr) (cap : Nat) (bs : List Nat) (w : World) (hA : BytesAt w w.heap.size A bs) (hcap : bs.length ≤ cap) {k q : Int} (hs : splitS bs = .error (k, q)) (hk : k ≠ 0) :
    Calls Tryz.prog 58 #[.slice A bs.length cap] w (TreeOut (parseS bs) w) := by
  have hd : (k != 0) = true := by rw [bne_iff_ne]; exact hk
  have HV := Lib.hid (show parseS bs = .error (k, q) by unfold parseS; rw [hs])
  have hb2 : Below w.heap.size w ((w.alloc (.cells #[.int .i64 0, .int .u64 0, .int .u64 0, .int .u64 0, .int .u64 0, .slice none 0 0, .int .i64 0, .int .i64 0] 28)).alloc (.cells #[.int .i64 0, .int .i64 0] 75)) := ((Below.refl _ _).alloc (Nat.le_refl _) _).alloc (by simp) _
  have HB2 := Lib.hid hb2
  have HG2 := Lib.hid (show Blk ((w.alloc (.cells #[.int .i64 0, .int .u64 0, .int .u64 0, .int .u64 0, .int .u64 0, .slice none 0 0, .int .i64 0, .int .i64 0] 28)).alloc (.cells #[.int .i64 0, .int .i64 0] 75)) w.heap.size 28 _ from (Blk.new w 28 #[.int .i64 0, .int .u64 0, .int .u64 0, .int .u64 0, .int .u64 0, .slice none 0 0, .int .i64 0, .int .i64 0]).alloc _)
  have HH2 := Lib.hid (show Blk ((w.alloc (.cells #[.int .i64 0, .int .u64 0, .int .u64 0, .int .u64 0, .int .u64 0, .slice none 0 0, .int .i64 0, .int .i64 0] 28)).alloc (.cells #[.int .i64 0, .int .i64 0] 75)) (w.heap.size + 1) 75 #[.int .i64 0, .int .i64 0] from Blk.new_at (by simp))
  have h1 := split_go A cap bs _ ((hA.below hb2).more (by simp; omega)) hcap
  rw [hs] at h1
  have H1 := Lib.hid h1
  clear hb2 hA hs h1 hk
  go_enter Tryz.func58, Tryz.ntmps58
  go_wp2_with fail
  refine H1.out.mono ?_
  rintro e w3 ⟨rfl, hb3⟩
  have HB3 := Lib.hid (HB2.out.trans (hb3.mono HB2.out.size))
  have hG3 := HG2.out.below hb3 HG2.out.lt
  have hH3 := HH2.out.below hb3 HH2.out.lt
  have HG3 := Lib.hid hG3
  have HH3 := Lib.hid hH3
  have hlt1 : w.heap.size < w3.heap.size := hG3.lt
  have hlt2 : w.heap.size + 1 < w3.heap.size := hH3.lt
  have hne1 : w.heap.size ≠ w3.heap.size := by omega
  have hne2 : w.heap.size + 1 ≠ w3.heap.size := by omega
  have y0 : w3.cell? ⟨w.heap.size, 0, none⟩ = some (.int .i64 0) := hG3.cell 0
  have y1 : w3.cell? ⟨w.heap.size, 1, none⟩ = some (.int .u64 0) := hG3.cell 1
  have y2 : w3.cell? ⟨w.heap.size, 2, none⟩ = some (.int .u64 0) := hG3.cell 2
  have y3 : w3.cell? ⟨w.heap.size, 3, none⟩ = some (.int .u64 0) := hG3.cell 3
  have y4 : w3.cell? ⟨w.heap.size, 4, none⟩ = some (.int .u64 0) := hG3.cell 4
  have y5 : w3.cell? ⟨w.heap.size, 5, none⟩ = some (.slice none 0 0) := hG3.cell 5
  have y6 : w3.cell? ⟨w.heap.size, 6, none⟩ = some (.int .i64 0) := hG3.cell 6
  have y7 : w3.cell? ⟨w.heap.size, 7, none⟩ = some (.int .i64 0) := hG3.cell 7
  have z0 := hG3.frozen 0
  have z1 := hG3.frozen 1
  have z2 := hG3.frozen 2
  have z3 := hG3.frozen 3
  have z4 := hG3.frozen 4
  have z5 := hG3.frozen 5
  have z6 := hG3.frozen 6
  have z7 := hG3.frozen 7
  obtain ⟨b0, b1, f0, f1⟩ := hH3.c2
  clear hb3 hG3 hH3 H1 HB2 HG2 HH2
  dsimp only
  go_wp2
  go_region
  all_goals go_wp2
  all_goals go_light
  rw [HV.out]
  exact bodyPost_ret (ret_tree Tryz.results58 rfl rfl (((HG3.out.put8 _ _ _ _ _ _ _ _).far2 (by omega) _ _).alloc _).drew (((HH3.out.past8 (by omega) _ _ _ _ _ _ _ _).set2).alloc _).drew) rfl ⟨rfl, ((below_set2 (below_put8 HB3.out (Nat.le_refl _) _ _ _ _ _ _ _ _) (by omega) _ _).alloc (by have := HB3.out.size; simpa [World.setCell] using this) _).drew⟩

/-- A tree and no fault are laid into the results. -/
theorem laid {n : Nat} {w w6 w7 : World} {x : Nd} {B : Option Addr} {cap : Nat} {k q : Int} (hG : Blk w6 n 28 #[.int .i64 0, .int .u64 0, .int .u64 0, .int .u64 0, .int .u64 0, .slice none 0 0, .int .i64 0, .int .i64 0]) (hH : Blk w6 (n + 1) 75 #[.int .i64 0, .int .i64 0]) (hB : Below n w w6) (hT : TreesAt w6 (fun b => n + 2 ≤ b) x.kids B)
    (hw : w7 = (((((((((w6.setCell ⟨n, 0, none⟩ (.int .i64 x.kind)).setCell ⟨n, 1, none⟩ (.int .u64 ((word x.set.testBit 0 : Nat) : Int))).setCell ⟨n, 2, none⟩ (.int .u64 ((word x.set.testBit 1 : Nat) : Int))).setCell ⟨n, 3, none⟩ (.int .u64 ((word x.set.testBit 2 : Nat) : Int))).setCell ⟨n, 4, none⟩ (.int .u64 ((word x.set.testBit 3 : Nat) : Int))).setCell ⟨n, 5, none⟩ (.slice B x.kids.len cap)).setCell ⟨n, 6, none⟩ (.int .i64 x.lo)).setCell ⟨n, 7, none⟩ (.int .i64 x.hi)).setCell ⟨n + 1, 0, none⟩ (.int .i64 k)).setCell ⟨n + 1, 1, none⟩ (.int .i64 q)) :
    Blk w7 n 28 (ndA x B cap) ∧ Blk w7 (n + 1) 75 #[.int .i64 k, .int .i64 q] ∧ Below n w w7 ∧ TreesAt w7 (fun b => n ≤ b) x.kids B := by
  have hg1 := only_put8 w6 n (.int .i64 x.kind) (.int .u64 ((word x.set.testBit 0 : Nat) : Int)) (.int .u64 ((word x.set.testBit 1 : Nat) : Int)) (.int .u64 ((word x.set.testBit 2 : Nat) : Int)) (.int .u64 ((word x.set.testBit 3 : Nat) : Int)) (.slice B x.kids.len cap) (.int .i64 x.lo) (.int .i64 x.hi)
  have ht7 := TreesAt.keep (Q := fun b => n + 2 ≤ b) (fun b o (hb : n + 2 ≤ b) hl => World.cell?_of_block (hg1.block b hl (by simp; omega))) (fun b hb _ => hb) hT
  have hg2 := only_set (only_set (only_refl ((((((((w6.setCell ⟨n, 0, none⟩ (.int .i64 x.kind)).setCell ⟨n, 1, none⟩ (.int .u64 ((word x.set.testBit 0 : Nat) : Int))).setCell ⟨n, 2, none⟩ (.int .u64 ((word x.set.testBit 1 : Nat) : Int))).setCell ⟨n, 3, none⟩ (.int .u64 ((word x.set.testBit 2 : Nat) : Int))).setCell ⟨n, 4, none⟩ (.int .u64 ((word x.set.testBit 3 : Nat) : Int))).setCell ⟨n, 5, none⟩ (.slice B x.kids.len cap)).setCell ⟨n, 6, none⟩ (.int .i64 x.lo)).setCell ⟨n, 7, none⟩ (.int .i64 x.hi)) (some (n + 1))) 0 (.int .i64 k)) 1 (.int .i64 q)
  have ht8 := TreesAt.keep (Q := fun b => n ≤ b) (fun b o (hb : n + 2 ≤ b) hl => World.cell?_of_block (hg2.block b hl (by simp; omega))) (fun b (hb : n + 2 ≤ b) _ => by omega) ht7
  have hG7 := (hG.put8 (.int .i64 x.kind) (.int .u64 ((word x.set.testBit 0 : Nat) : Int)) (.int .u64 ((word x.set.testBit 1 : Nat) : Int)) (.int .u64 ((word x.set.testBit 2 : Nat) : Int)) (.int .u64 ((word x.set.testBit 3 : Nat) : Int)) (.slice B x.kids.len cap) (.int .i64 x.lo) (.int .i64 x.hi)).far2 (g' := n + 1) (by omega) (.int .i64 k) (.int .i64 q)
  have hH7 := (hH.past8 (g' := n) (by omega) (.int .i64 x.kind) (.int .u64 ((word x.set.testBit 0 : Nat) : Int)) (.int .u64 ((word x.set.testBit 1 : Nat) : Int)) (.int .u64 ((word x.set.testBit 2 : Nat) : Int)) (.int .u64 ((word x.set.testBit 3 : Nat) : Int)) (.slice B x.kids.len cap) (.int .i64 x.lo) (.int .i64 x.hi)).set2 (a' := .int .i64 k) (b' := .int .i64 q)
  have hb7 := below_set2 (below_put8 hB (Nat.le_refl _) (.int .i64 x.kind) (.int .u64 ((word x.set.testBit 0 : Nat) : Int)) (.int .u64 ((word x.set.testBit 1 : Nat) : Int)) (.int .u64 ((word x.set.testBit 2 : Nat) : Int)) (.int .u64 ((word x.set.testBit 3 : Nat) : Int)) (.slice B x.kids.len cap) (.int .i64 x.lo) (.int .i64 x.hi)) (Nat.le_succ n) (.int .i64 k) (.int .i64 q)
  rw [hw]
  exact ⟨hG7, hH7, hb7, ht8⟩
set_option maxHeartbeats 4000000 in
theorem text_many (A : Option Addr) (cap : Nat) (bs : List Nat) (w : World) (hA : BytesAt w w.heap.size A bs) (hcap : bs.length ≤ cap) {L : List Lex} (hs : splitS bs = .ok L) (h1 : L.length ≠ 1) :
    Calls Tryz.prog 58 #[.slice A bs.length cap] w (TreeOut (parseS bs) w) := by
  have hd : ((L.length : Int) == 1) = false := by rw [beq_eq_false_iff_ne]; omega
  have hV : parseS bs = lexemesS L := by unfold parseS; rw [hs]
  clear h1
  cases hx : lexemesS L with
  | error x =>
    obtain ⟨k, q⟩ := x
    have HV := Lib.hid (hV.trans hx)
    have HX := Lib.hid hx
    clear hV hx
    have hL65 := (splitS_right hA.1 hs).2.2
    have hb2 : Below w.heap.size w ((w.alloc (.cells #[.int .i64 0, .int .u64 0, .int .u64 0, .int .u64 0, .int .u64 0, .slice none 0 0, .int .i64 0, .int .i64 0] 28)).alloc (.cells #[.int .i64 0, .int .i64 0] 75)) := ((Below.refl _ _).alloc (Nat.le_refl _) _).alloc (by simp) _
    have HB2 := Lib.hid hb2
    have HG2 := Lib.hid (show Blk ((w.alloc (.cells #[.int .i64 0, .int .u64 0, .int .u64 0, .int .u64 0, .int .u64 0, .slice none 0 0, .int .i64 0, .int .i64 0] 28)).alloc (.cells #[.int .i64 0, .int .i64 0] 75)) w.heap.size 28 _ from (Blk.new w 28 #[.int .i64 0, .int .u64 0, .int .u64 0, .int .u64 0, .int .u64 0, .slice none 0 0, .int .i64 0, .int .i64 0]).alloc _)
    have HH2 := Lib.hid (show Blk ((w.alloc (.cells #[.int .i64 0, .int .u64 0, .int .u64 0, .int .u64 0, .int .u64 0, .slice none 0 0, .int .i64 0, .int .i64 0] 28)).alloc (.cells #[.int .i64 0, .int .i64 0] 75)) (w.heap.size + 1) 75 #[.int .i64 0, .int .i64 0] from Blk.new_at (by simp))
    have h1 := split_go A cap bs _ ((hA.below hb2).more (by simp; omega)) hcap
    rw [hs] at h1
    have H1 := Lib.hid h1
    clear hb2 hA h1
    go_enter Tryz.func58, Tryz.ntmps58
    go_wp2_with fail
    refine H1.out.mono ?_
    rintro e w3 ⟨v, rfl, hb3, hrow3⟩
    obtain ⟨A3, cap3, rfl⟩ := own_slice hrow3
    have hb4 : Below w3.heap.size w3 (w3.alloc (.cells #[.int .i64 0, .int .i64 0] 75)) := (Below.refl _ _).alloc (Nat.le_refl _) _
    have HB4 := Lib.hid (HB2.out.trans ((hb3.trans (hb4.mono hb3.size)).mono HB2.out.size))
    have hG4 := (HG2.out.below hb3 HG2.out.lt).alloc (.cells #[.int .i64 0, .int .i64 0] 75)
    have hH4 := (HH2.out.below hb3 HH2.out.lt).alloc (.cells #[.int .i64 0, .int .i64 0] 75)
    have hc3 := own_room hrow3 rfl
    have HL4 := Lib.hid (((lexRow_of hrow3).at.below hb4).more hb4.size)
    have hsz4 : w.heap.size + 2 < (w3.alloc (.cells #[.int .i64 0, .int .i64 0] 75)).heap.size := by have := hb3.size; simp at this ⊢; omega
    have HG4 := Lib.hid hG4
    have HH4 := Lib.hid hH4
    clear hb3 hrow3 hb4 H1 HB2 HG2 HH2
    dsimp only
    skip
    have hP := lexemes_go _ cap3 L _ HL4.out (by omega) hc3
    rw [HX.out] at hP
    have HP := Lib.hid hP
    clear hP
    go_wp2_with fail
    refine HP.out.mono ?_
    rintro e w6 ⟨rfl, hb6⟩
    have hG6 := HG4.out.below hb6 HG4.out.lt
    have hH6 := HH4.out.below hb6 HH4.out.lt
    have HB6 := Lib.hid (HB4.out.trans (hb6.mono (by omega)))
    have y0 : w6.cell? ⟨w.heap.size, 0, none⟩ = some (.int .i64 0) := hG6.cell 0
    have y1 : w6.cell? ⟨w.heap.size, 1, none⟩ = some (.int .u64 0) := hG6.cell 1
    have y2 : w6.cell? ⟨w.heap.size, 2, none⟩ = some (.int .u64 0) := hG6.cell 2
    have y3 : w6.cell? ⟨w.heap.size, 3, none⟩ = some (.int .u64 0) := hG6.cell 3
    have y4 : w6.cell? ⟨w.heap.size, 4, none⟩ = some (.int .u64 0) := hG6.cell 4
    have y5 : w6.cell? ⟨w.heap.size, 5, none⟩ = some (.slice none 0 0) := hG6.cell 5
    have y6 : w6.cell? ⟨w.heap.size, 6, none⟩ = some (.int .i64 0) := hG6.cell 6
    have y7 : w6.cell? ⟨w.heap.size, 7, none⟩ = some (.int .i64 0) := hG6.cell 7
    have z0 := hG6.frozen 0
    have z1 := hG6.frozen 1
    have z2 := hG6.frozen 2
    have z3 := hG6.frozen 3
    have z4 := hG6.frozen 4
    have z5 := hG6.frozen 5
    have z6 := hG6.frozen 6
    have z7 := hG6.frozen 7
    obtain ⟨b0, b1, f0, f1⟩ := hH6.c2
    have HG6 := Lib.hid hG6
    have HH6 := Lib.hid hH6
    clear hb6 hG6 hH6 HP HG4 HH4 HB4 hG4 hH4
    unfold zeroN
    dsimp only
    go_wp2
    go_light
    rw [HV.out]
    exact bodyPost_ret (ret_tree Tryz.results58 rfl rfl ((HG6.out.put8 _ _ _ _ _ _ _ _).far2 (by omega) _ _) ((HH6.out.past8 (by omega) _ _ _ _ _ _ _ _).set2)) rfl ⟨rfl, below_set2 (below_put8 HB6.out (Nat.le_refl _) _ _ _ _ _ _ _ _) (by omega) _ _⟩
  | ok x =>
    have HV := Lib.hid (hV.trans hx)
    have HX := Lib.hid hx
    clear hV hx
    have hL65 := (splitS_right hA.1 hs).2.2
    have hb2 : Below w.heap.size w ((w.alloc (.cells #[.int .i64 0, .int .u64 0, .int .u64 0, .int .u64 0, .int .u64 0, .slice none 0 0, .int .i64 0, .int .i64 0] 28)).alloc (.cells #[.int .i64 0, .int .i64 0] 75)) := ((Below.refl _ _).alloc (Nat.le_refl _) _).alloc (by simp) _
    have HB2 := Lib.hid hb2
    have HG2 := Lib.hid (show Blk ((w.alloc (.cells #[.int .i64 0, .int .u64 0, .int .u64 0, .int .u64 0, .int .u64 0, .slice none 0 0, .int .i64 0, .int .i64 0] 28)).alloc (.cells #[.int .i64 0, .int .i64 0] 75)) w.heap.size 28 _ from (Blk.new w 28 #[.int .i64 0, .int .u64 0, .int .u64 0, .int .u64 0, .int .u64 0, .slice none 0 0, .int .i64 0, .int .i64 0]).alloc _)
    have HH2 := Lib.hid (show Blk ((w.alloc (.cells #[.int .i64 0, .int .u64 0, .int .u64 0, .int .u64 0, .int .u64 0, .slice none 0 0, .int .i64 0, .int .i64 0] 28)).alloc (.cells #[.int .i64 0, .int .i64 0] 75)) (w.heap.size + 1) 75 #[.int .i64 0, .int .i64 0] from Blk.new_at (by simp))
    have h1 := split_go A cap bs _ ((hA.below hb2).more (by simp; omega)) hcap
    rw [hs] at h1
    have H1 := Lib.hid h1
    clear hb2 hA h1
    go_enter Tryz.func58, Tryz.ntmps58
    go_wp2_with fail
    refine H1.out.mono ?_
    rintro e w3 ⟨v, rfl, hb3, hrow3⟩
    obtain ⟨A3, cap3, rfl⟩ := own_slice hrow3
    have hb4 : Below w3.heap.size w3 (w3.alloc (.cells #[.int .i64 0, .int .i64 0] 75)) := (Below.refl _ _).alloc (Nat.le_refl _) _
    have HB4 := Lib.hid (HB2.out.trans ((hb3.trans (hb4.mono hb3.size)).mono HB2.out.size))
    have hG4 := (HG2.out.below hb3 HG2.out.lt).alloc (.cells #[.int .i64 0, .int .i64 0] 75)
    have hH4 := (HH2.out.below hb3 HH2.out.lt).alloc (.cells #[.int .i64 0, .int .i64 0] 75)
    have hc3 := own_room hrow3 rfl
    have HL4 := Lib.hid (((lexRow_of hrow3).at.below hb4).more hb4.size)
    have hsz4 : w.heap.size + 2 < (w3.alloc (.cells #[.int .i64 0, .int .i64 0] 75)).heap.size := by have := hb3.size; simp at this ⊢; omega
    have HG4 := Lib.hid hG4
    have HH4 := Lib.hid hH4
    clear hb3 hrow3 hb4 H1 HB2 HG2 HH2
    dsimp only
    skip
    have hP := lexemes_go _ cap3 L _ HL4.out (by omega) hc3
    rw [HX.out] at hP
    have HP := Lib.hid hP
    clear hP
    go_wp2_with fail
    refine HP.out.mono ?_
    rintro e w6 ⟨B, cap6, rfl, hb6, hc6, ht6⟩
    have hG6 := HG4.out.below hb6 HG4.out.lt
    have hH6 := HH4.out.below hb6 HH4.out.lt
    have HB6 := Lib.hid (HB4.out.trans (hb6.mono (by omega)))
    have HT6 := Lib.hid (ht6.weak (Q := fun b => w.heap.size + 2 ≤ b) (fun b hb _ => by omega))
    have y0 : w6.cell? ⟨w.heap.size, 0, none⟩ = some (.int .i64 0) := hG6.cell 0
    have y1 : w6.cell? ⟨w.heap.size, 1, none⟩ = some (.int .u64 0) := hG6.cell 1
    have y2 : w6.cell? ⟨w.heap.size, 2, none⟩ = some (.int .u64 0) := hG6.cell 2
    have y3 : w6.cell? ⟨w.heap.size, 3, none⟩ = some (.int .u64 0) := hG6.cell 3
    have y4 : w6.cell? ⟨w.heap.size, 4, none⟩ = some (.int .u64 0) := hG6.cell 4
    have y5 : w6.cell? ⟨w.heap.size, 5, none⟩ = some (.slice none 0 0) := hG6.cell 5
    have y6 : w6.cell? ⟨w.heap.size, 6, none⟩ = some (.int .i64 0) := hG6.cell 6
    have y7 : w6.cell? ⟨w.heap.size, 7, none⟩ = some (.int .i64 0) := hG6.cell 7
    have z0 := hG6.frozen 0
    have z1 := hG6.frozen 1
    have z2 := hG6.frozen 2
    have z3 := hG6.frozen 3
    have z4 := hG6.frozen 4
    have z5 := hG6.frozen 5
    have z6 := hG6.frozen 6
    have z7 := hG6.frozen 7
    obtain ⟨b0, b1, f0, f1⟩ := hH6.c2
    have HG6 := Lib.hid hG6
    have HH6 := Lib.hid hH6
    clear hb6 ht6 hG6 hH6 HP HG4 HH4 HB4 hG4 hH4
    unfold ndV
    dsimp only
    go_wp2
    go_light
    have hF := laid (x := x) (B := B) (cap := cap6) (k := 0) (q := 0) HG6.out HH6.out HB6.out HT6.out rfl
    rw [HV.out]
    exact bodyPost_ret (ret_tree Tryz.results58 rfl rfl hF.1 hF.2.1) rfl ⟨B, cap6, rfl, hF.2.2.1, hc6, hF.2.2.2⟩

set_option maxHeartbeats 4000000 in
theorem text_sign (A : Option Addr) (cap : Nat) (bs : List Nat) (w : World) (hA : BytesAt w w.heap.size A bs) (hcap : bs.length ≤ cap) {y : Lex} (hs : splitS bs = .ok [y]) (h1 : y.kind ≠ 1) :
    Calls Tryz.prog 58 #[.slice A bs.length cap] w (TreeOut (parseS bs) w) := by
  obtain ⟨L, hL⟩ : ∃ L, L = [y] := ⟨_, rfl⟩
  have HLy := Lib.hid hL
  rw [← hL] at hs
  have hlen : L.length = 1 := by rw [hL]; rfl
  clear hL
  have hd : ((L.length : Int) == 1) = true := by rw [beq_iff_eq]; omega
  have hd0 : (0 : Int) < (L.length : Int) := by omega
  have hy : L[0]? = some y := by rw [HLy.out]; rfl
  have Hy := Lib.hid hy
  have hk : (y.kind == 1) = false := by simp; exact h1
  have hV : parseS bs = lexemesS L := by unfold parseS; rw [hs]
  clear h1 hlen hy
  cases hx : lexemesS L with
  | error x =>
    obtain ⟨k, q⟩ := x
    have HV := Lib.hid (hV.trans hx)
    have HX := Lib.hid hx
    clear hV hx
    have hL65 := (splitS_right hA.1 hs).2.2
    have hb2 : Below w.heap.size w ((w.alloc (.cells #[.int .i64 0, .int .u64 0, .int .u64 0, .int .u64 0, .int .u64 0, .slice none 0 0, .int .i64 0, .int .i64 0] 28)).alloc (.cells #[.int .i64 0, .int .i64 0] 75)) := ((Below.refl _ _).alloc (Nat.le_refl _) _).alloc (by simp) _
    have HB2 := Lib.hid hb2
    have HG2 := Lib.hid (show Blk ((w.alloc (.cells #[.int .i64 0, .int .u64 0, .int .u64 0, .int .u64 0, .int .u64 0, .slice none 0 0, .int .i64 0, .int .i64 0] 28)).alloc (.cells #[.int .i64 0, .int .i64 0] 75)) w.heap.size 28 _ from (Blk.new w 28 #[.int .i64 0, .int .u64 0, .int .u64 0, .int .u64 0, .int .u64 0, .slice none 0 0, .int .i64 0, .int .i64 0]).alloc _)
    have HH2 := Lib.hid (show Blk ((w.alloc (.cells #[.int .i64 0, .int .u64 0, .int .u64 0, .int .u64 0, .int .u64 0, .slice none 0 0, .int .i64 0, .int .i64 0] 28)).alloc (.cells #[.int .i64 0, .int .i64 0] 75)) (w.heap.size + 1) 75 #[.int .i64 0, .int .i64 0] from Blk.new_at (by simp))
    have h1 := split_go A cap bs _ ((hA.below hb2).more (by simp; omega)) hcap
    rw [hs] at h1
    have H1 := Lib.hid h1
    clear hb2 hA h1
    go_enter Tryz.func58, Tryz.ntmps58
    go_wp2_with fail
    refine H1.out.mono ?_
    rintro e w3 ⟨v, rfl, hb3, hrow3⟩
    obtain ⟨A3, cap3, rfl⟩ := own_slice hrow3
    have hb4 : Below w3.heap.size w3 (w3.alloc (.cells #[.int .i64 0, .int .i64 0] 75)) := (Below.refl _ _).alloc (Nat.le_refl _) _
    have HB4 := Lib.hid (HB2.out.trans ((hb3.trans (hb4.mono hb3.size)).mono HB2.out.size))
    have hG4 := (HG2.out.below hb3 HG2.out.lt).alloc (.cells #[.int .i64 0, .int .i64 0] 75)
    have hH4 := (HH2.out.below hb3 HH2.out.lt).alloc (.cells #[.int .i64 0, .int .i64 0] 75)
    have hc3 := own_room hrow3 rfl
    have HL4 := Lib.hid (((lexRow_of hrow3).at.below hb4).more hb4.size)
    have hsz4 : w.heap.size + 2 < (w3.alloc (.cells #[.int .i64 0, .int .i64 0] 75)).heap.size := by have := hb3.size; simp at this ⊢; omega
    have HG4 := Lib.hid hG4
    have HH4 := Lib.hid hH4
    clear hb3 hrow3 hb4 H1 HB2 HG2 HH2
    dsimp only
    obtain ⟨b4, o4, rfl, hbl4, hc4⟩ := HL4.out (by omega); obtain ⟨q0, _⟩ := hc4 0 y Hy.out; simp only [Nat.zero_mul, Nat.add_zero] at q0; clear hc4
    have hP := lexemes_go _ cap3 L _ HL4.out (by omega) hc3
    rw [HX.out] at hP
    have HP := Lib.hid hP
    clear hP
    go_wp2_with fail
    refine HP.out.mono ?_
    rintro e w6 ⟨rfl, hb6⟩
    have hG6 := HG4.out.below hb6 HG4.out.lt
    have hH6 := HH4.out.below hb6 HH4.out.lt
    have HB6 := Lib.hid (HB4.out.trans (hb6.mono (by omega)))
    have y0 : w6.cell? ⟨w.heap.size, 0, none⟩ = some (.int .i64 0) := hG6.cell 0
    have y1 : w6.cell? ⟨w.heap.size, 1, none⟩ = some (.int .u64 0) := hG6.cell 1
    have y2 : w6.cell? ⟨w.heap.size, 2, none⟩ = some (.int .u64 0) := hG6.cell 2
    have y3 : w6.cell? ⟨w.heap.size, 3, none⟩ = some (.int .u64 0) := hG6.cell 3
    have y4 : w6.cell? ⟨w.heap.size, 4, none⟩ = some (.int .u64 0) := hG6.cell 4
    have y5 : w6.cell? ⟨w.heap.size, 5, none⟩ = some (.slice none 0 0) := hG6.cell 5
    have y6 : w6.cell? ⟨w.heap.size, 6, none⟩ = some (.int .i64 0) := hG6.cell 6
    have y7 : w6.cell? ⟨w.heap.size, 7, none⟩ = some (.int .i64 0) := hG6.cell 7
    have z0 := hG6.frozen 0
    have z1 := hG6.frozen 1
    have z2 := hG6.frozen 2
    have z3 := hG6.frozen 3
    have z4 := hG6.frozen 4
    have z5 := hG6.frozen 5
    have z6 := hG6.frozen 6
    have z7 := hG6.frozen 7
    obtain ⟨b0, b1, f0, f1⟩ := hH6.c2
    have HG6 := Lib.hid hG6
    have HH6 := Lib.hid hH6
    clear hb6 hG6 hH6 HP HG4 HH4 HB4 hG4 hH4
    unfold zeroN
    dsimp only
    go_wp2
    go_light
    rw [HV.out]
    exact bodyPost_ret (ret_tree Tryz.results58 rfl rfl ((HG6.out.put8 _ _ _ _ _ _ _ _).far2 (by omega) _ _) ((HH6.out.past8 (by omega) _ _ _ _ _ _ _ _).set2)) rfl ⟨rfl, below_set2 (below_put8 HB6.out (Nat.le_refl _) _ _ _ _ _ _ _ _) (by omega) _ _⟩
  | ok x =>
    have HV := Lib.hid (hV.trans hx)
    have HX := Lib.hid hx
    clear hV hx
    have hL65 := (splitS_right hA.1 hs).2.2
    have hb2 : Below w.heap.size w ((w.alloc (.cells #[.int .i64 0, .int .u64 0, .int .u64 0, .int .u64 0, .int .u64 0, .slice none 0 0, .int .i64 0, .int .i64 0] 28)).alloc (.cells #[.int .i64 0, .int .i64 0] 75)) := ((Below.refl _ _).alloc (Nat.le_refl _) _).alloc (by simp) _
    have HB2 := Lib.hid hb2
    have HG2 := Lib.hid (show Blk ((w.alloc (.cells #[.int .i64 0, .int .u64 0, .int .u64 0, .int .u64 0, .int .u64 0, .slice none 0 0, .int .i64 0, .int .i64 0] 28)).alloc (.cells #[.int .i64 0, .int .i64 0] 75)) w.heap.size 28 _ from (Blk.new w 28 #[.int .i64 0, .int .u64 0, .int .u64 0, .int .u64 0, .int .u64 0, .slice none 0 0, .int .i64 0, .int .i64 0]).alloc _)
    have HH2 := Lib.hid (show Blk ((w.alloc (.cells #[.int .i64 0, .int .u64 0, .int .u64 0, .int .u64 0, .int .u64 0, .slice none 0 0, .int .i64 0, .int .i64 0] 28)).alloc (.cells #[.int .i64 0, .int .i64 0] 75)) (w.heap.size + 1) 75 #[.int .i64 0, .int .i64 0] from Blk.new_at (by simp))
    have h1 := split_go A cap bs _ ((hA.below hb2).more (by simp; omega)) hcap
    rw [hs] at h1
    have H1 := Lib.hid h1
    clear hb2 hA h1
    go_enter Tryz.func58, Tryz.ntmps58
    go_wp2_with fail
    refine H1.out.mono ?_
    rintro e w3 ⟨v, rfl, hb3, hrow3⟩
    obtain ⟨A3, cap3, rfl⟩ := own_slice hrow3
    have hb4 : Below w3.heap.size w3 (w3.alloc (.cells #[.int .i64 0, .int .i64 0] 75)) := (Below.refl _ _).alloc (Nat.le_refl _) _
    have HB4 := Lib.hid (HB2.out.trans ((hb3.trans (hb4.mono hb3.size)).mono HB2.out.size))
    have hG4 := (HG2.out.below hb3 HG2.out.lt).alloc (.cells #[.int .i64 0, .int .i64 0] 75)
    have hH4 := (HH2.out.below hb3 HH2.out.lt).alloc (.cells #[.int .i64 0, .int .i64 0] 75)
    have hc3 := own_room hrow3 rfl
    have HL4 := Lib.hid (((lexRow_of hrow3).at.below hb4).more hb4.size)
    have hsz4 : w.heap.size + 2 < (w3.alloc (.cells #[.int .i64 0, .int .i64 0] 75)).heap.size := by have := hb3.size; simp at this ⊢; omega
    have HG4 := Lib.hid hG4
    have HH4 := Lib.hid hH4
    clear hb3 hrow3 hb4 H1 HB2 HG2 HH2
    dsimp only
    obtain ⟨b4, o4, rfl, hbl4, hc4⟩ := HL4.out (by omega); obtain ⟨q0, _⟩ := hc4 0 y Hy.out; simp only [Nat.zero_mul, Nat.add_zero] at q0; clear hc4
    have hP := lexemes_go _ cap3 L _ HL4.out (by omega) hc3
    rw [HX.out] at hP
    have HP := Lib.hid hP
    clear hP
    go_wp2_with fail
    refine HP.out.mono ?_
    rintro e w6 ⟨B, cap6, rfl, hb6, hc6, ht6⟩
    have hG6 := HG4.out.below hb6 HG4.out.lt
    have hH6 := HH4.out.below hb6 HH4.out.lt
    have HB6 := Lib.hid (HB4.out.trans (hb6.mono (by omega)))
    have HT6 := Lib.hid (ht6.weak (Q := fun b => w.heap.size + 2 ≤ b) (fun b hb _ => by omega))
    have y0 : w6.cell? ⟨w.heap.size, 0, none⟩ = some (.int .i64 0) := hG6.cell 0
    have y1 : w6.cell? ⟨w.heap.size, 1, none⟩ = some (.int .u64 0) := hG6.cell 1
    have y2 : w6.cell? ⟨w.heap.size, 2, none⟩ = some (.int .u64 0) := hG6.cell 2
    have y3 : w6.cell? ⟨w.heap.size, 3, none⟩ = some (.int .u64 0) := hG6.cell 3
    have y4 : w6.cell? ⟨w.heap.size, 4, none⟩ = some (.int .u64 0) := hG6.cell 4
    have y5 : w6.cell? ⟨w.heap.size, 5, none⟩ = some (.slice none 0 0) := hG6.cell 5
    have y6 : w6.cell? ⟨w.heap.size, 6, none⟩ = some (.int .i64 0) := hG6.cell 6
    have y7 : w6.cell? ⟨w.heap.size, 7, none⟩ = some (.int .i64 0) := hG6.cell 7
    have z0 := hG6.frozen 0
    have z1 := hG6.frozen 1
    have z2 := hG6.frozen 2
    have z3 := hG6.frozen 3
    have z4 := hG6.frozen 4
    have z5 := hG6.frozen 5
    have z6 := hG6.frozen 6
    have z7 := hG6.frozen 7
    obtain ⟨b0, b1, f0, f1⟩ := hH6.c2
    have HG6 := Lib.hid hG6
    have HH6 := Lib.hid hH6
    clear hb6 ht6 hG6 hH6 HP HG4 HH4 HB4 hG4 hH4
    unfold ndV
    dsimp only
    go_wp2
    go_light
    have hF := laid (x := x) (B := B) (cap := cap6) (k := 0) (q := 0) HG6.out HH6.out HB6.out HT6.out rfl
    rw [HV.out]
    exact bodyPost_ret (ret_tree Tryz.results58 rfl rfl hF.1 hF.2.1) rfl ⟨B, cap6, rfl, hF.2.2.1, hc6, hF.2.2.2⟩


set_option maxHeartbeats 4000000 in
theorem text_set (A : Option Addr) (cap : Nat) (bs : List Nat) (w : World) (hA : BytesAt w w.heap.size A bs) (hcap : bs.length ≤ cap) {y : Lex} (hs : splitS bs = .ok [y]) (h1 : y.kind = 1) :
    Calls Tryz.prog 58 #[.slice A bs.length cap] w (TreeOut (parseS bs) w) := by
  have hr : rightS y = true := (splitS_right hA.1 hs).1 0 y rfl
  have hx := one_leaf hr h1
  have HV := Lib.hid (show parseS bs = .ok (leafN (maskOf y.set)) by unfold parseS; rw [hs]; exact hx)
  obtain ⟨L, hL⟩ : ∃ L, L = [y] := ⟨_, rfl⟩
  have HLy := Lib.hid hL
  rw [← hL] at hs hx
  have HX := Lib.hid hx
  have hlen : L.length = 1 := by rw [hL]; rfl
  clear hL
  have hd : ((L.length : Int) == 1) = true := by rw [beq_iff_eq]; omega
  have hd0 : (0 : Int) < (L.length : Int) := by omega
  have hy : L[0]? = some y := by rw [HLy.out]; rfl
  have Hy := Lib.hid hy
  clear hlen hy hr hx
  have hL65 := (splitS_right hA.1 hs).2.2
  have hb2 : Below w.heap.size w ((w.alloc (.cells #[.int .i64 0, .int .u64 0, .int .u64 0, .int .u64 0, .int .u64 0, .slice none 0 0, .int .i64 0, .int .i64 0] 28)).alloc (.cells #[.int .i64 0, .int .i64 0] 75)) := ((Below.refl _ _).alloc (Nat.le_refl _) _).alloc (by simp) _
  have HB2 := Lib.hid hb2
  have HG2 := Lib.hid (show Blk ((w.alloc (.cells #[.int .i64 0, .int .u64 0, .int .u64 0, .int .u64 0, .int .u64 0, .slice none 0 0, .int .i64 0, .int .i64 0] 28)).alloc (.cells #[.int .i64 0, .int .i64 0] 75)) w.heap.size 28 _ from (Blk.new w 28 #[.int .i64 0, .int .u64 0, .int .u64 0, .int .u64 0, .int .u64 0, .slice none 0 0, .int .i64 0, .int .i64 0]).alloc _)
  have HH2 := Lib.hid (show Blk ((w.alloc (.cells #[.int .i64 0, .int .u64 0, .int .u64 0, .int .u64 0, .int .u64 0, .slice none 0 0, .int .i64 0, .int .i64 0] 28)).alloc (.cells #[.int .i64 0, .int .i64 0] 75)) (w.heap.size + 1) 75 #[.int .i64 0, .int .i64 0] from Blk.new_at (by simp))
  have h1 := split_go A cap bs _ ((hA.below hb2).more (by simp; omega)) hcap
  rw [hs] at h1
  have H1 := Lib.hid h1
  clear hb2 hA h1
  go_enter Tryz.func58, Tryz.ntmps58
  go_wp2_with fail
  refine H1.out.mono ?_
  rintro e w3 ⟨v, rfl, hb3, hrow3⟩
  obtain ⟨A3, cap3, rfl⟩ := own_slice hrow3
  have hb4 : Below w3.heap.size w3 (w3.alloc (.cells #[.int .i64 0, .int .i64 0] 75)) := (Below.refl _ _).alloc (Nat.le_refl _) _
  have HB4 := Lib.hid (HB2.out.trans ((hb3.trans (hb4.mono hb3.size)).mono HB2.out.size))
  have hG4 := (HG2.out.below hb3 HG2.out.lt).alloc (.cells #[.int .i64 0, .int .i64 0] 75)
  have hH4 := (HH2.out.below hb3 HH2.out.lt).alloc (.cells #[.int .i64 0, .int .i64 0] 75)
  have hc3 := own_room hrow3 rfl
  have HL4 := Lib.hid (((lexRow_of hrow3).at.below hb4).more hb4.size)
  have hsz4 : w.heap.size + 2 < (w3.alloc (.cells #[.int .i64 0, .int .i64 0] 75)).heap.size := by have := hb3.size; simp at this ⊢; omega
  have HG4 := Lib.hid hG4
  have HH4 := Lib.hid hH4
  clear hb3 hrow3 hb4 H1 HB2 HG2 HH2
  dsimp only

  obtain ⟨b4, o4, rfl, hbl4, hc4⟩ := HL4.out (by omega)
  obtain ⟨q0, _, q2, q3, q4, q5, _⟩ := hc4 0 y Hy.out
  simp only [Nat.zero_mul, Nat.add_zero] at q0 q2 q3 q4 q5
  rw [h1] at q0
  have q3' : (w3.alloc (.cells #[.int .i64 0, .int .i64 0] 75)).cell? ⟨b4, o4 + 2 + 1, none⟩ = some (.int .u64 ((word y.set 1 : Nat) : Int)) := q3
  have q4' : (w3.alloc (.cells #[.int .i64 0, .int .i64 0] 75)).cell? ⟨b4, o4 + 2 + 2, none⟩ = some (.int .u64 ((word y.set 2 : Nat) : Int)) := q4
  have q5' : (w3.alloc (.cells #[.int .i64 0, .int .i64 0] 75)).cell? ⟨b4, o4 + 2 + 3, none⟩ = some (.int .u64 ((word y.set 3 : Nat) : Int)) := q5
  clear hc4 hG4 hH4
  go_wp2_with fail
  refine (count_go y.set _).mono ?_
  rintro e w5 ⟨rfl, hb5⟩
  have hG5 := HG4.out.below hb5 HG4.out.lt
  have hH5 := HH4.out.below hb5 HH4.out.lt
  have HB5 := Lib.hid (HB4.out.trans (hb5.mono (by omega)))
  have HL5 := Lib.hid ((HL4.out.below hb5).more hb5.size)
  have hsz5 := hb5.size
  have q2 := (hb5.cell (p := ⟨b4, o4 + 2, none⟩) hbl4).trans q2
  have q3' := (hb5.cell (p := ⟨b4, o4 + 2 + 1, none⟩) hbl4).trans q3'
  have q4' := (hb5.cell (p := ⟨b4, o4 + 2 + 2, none⟩) hbl4).trans q4'
  have q5' := (hb5.cell (p := ⟨b4, o4 + 2 + 3, none⟩) hbl4).trans q5'
  have HG5 := Lib.hid hG5
  have HH5 := Lib.hid hH5
  clear hb5 hG5 hH5 HB4 HG4 HH4 HL4 q0
  dsimp only
  by_cases hcn : cnt y.set 256 = 1
  · rw [hcn]
    clear hcn
    go_wp2_with fail
    refine (tbytes_any y.set _).mono ?_
    rintro e w6 ⟨rfl, hb6⟩
    have hG6 := HG5.out.below hb6 HG5.out.lt
    have hH6 := HH5.out.below hb6 HH5.out.lt
    have HB6 := Lib.hid (HB5.out.trans (hb6.mono (by omega)))
    have HT6 : Hid (TreesAt w6 (fun b => w.heap.size + 2 ≤ b) (leafN (maskOf y.set)).kids none) := Lib.hid trivial
    have y0 : w6.cell? ⟨w.heap.size, 0, none⟩ = some (.int .i64 0) := hG6.cell 0
    have y1 : w6.cell? ⟨w.heap.size, 1, none⟩ = some (.int .u64 0) := hG6.cell 1
    have y2 : w6.cell? ⟨w.heap.size, 2, none⟩ = some (.int .u64 0) := hG6.cell 2
    have y3 : w6.cell? ⟨w.heap.size, 3, none⟩ = some (.int .u64 0) := hG6.cell 3
    have y4 : w6.cell? ⟨w.heap.size, 4, none⟩ = some (.int .u64 0) := hG6.cell 4
    have y5 : w6.cell? ⟨w.heap.size, 5, none⟩ = some (.slice none 0 0) := hG6.cell 5
    have y6 : w6.cell? ⟨w.heap.size, 6, none⟩ = some (.int .i64 0) := hG6.cell 6
    have y7 : w6.cell? ⟨w.heap.size, 7, none⟩ = some (.int .i64 0) := hG6.cell 7
    have z0 := hG6.frozen 0
    have z1 := hG6.frozen 1
    have z2 := hG6.frozen 2
    have z3 := hG6.frozen 3
    have z4 := hG6.frozen 4
    have z5 := hG6.frozen 5
    have z6 := hG6.frozen 6
    have z7 := hG6.frozen 7
    obtain ⟨b0, b1, f0, f1⟩ := hH6.c2
    have HG6 := Lib.hid hG6
    have HH6 := Lib.hid hH6
    clear hb6 hG6 hH6 HG5 HH5 HB5
    have hv3 : ndV (leafN (maskOf y.set)) none 0 = .agg #[.int .i64 3, .int .u64 ((word ((maskOf y.set).testBit) 0 : Nat) : Int), .int .u64 ((word ((maskOf y.set).testBit) 1 : Nat) : Int), .int .u64 ((word ((maskOf y.set).testBit) 2 : Nat) : Int), .int .u64 ((word ((maskOf y.set).testBit) 3 : Nat) : Int), .slice none 0 0, .int .i64 0, .int .i64 0] := rfl
    rw [hv3]
    clear hv3
    dsimp only
    go_wp2
    go_light
    have hF := laid (x := leafN (maskOf y.set)) (B := none) (cap := 0) (k := 0) (q := 0) HG6.out HH6.out HB6.out HT6.out rfl
    rw [HV.out]
    exact bodyPost_ret (ret_tree Tryz.results58 rfl rfl hF.1 hF.2.1) rfl ⟨none, 0, rfl, hF.2.2.1, Nat.le_refl _, hF.2.2.2⟩
  · have hd2 : (((cnt y.set 256 : Nat) : Int) == 1) = false := by rw [beq_eq_false_iff_ne]; omega
    clear hcn
    have hP := lexemes_go _ cap3 L _ HL5.out (by omega) hc3
    rw [HX.out] at hP
    have HP := Lib.hid hP
    clear hP
    go_wp2_with fail
    refine HP.out.mono ?_
    rintro e w6 ⟨B, cap6, rfl, hb6, hc6, ht6⟩
    have hG6 := HG5.out.below hb6 HG5.out.lt
    have hH6 := HH5.out.below hb6 HH5.out.lt
    have HB6 := Lib.hid (HB5.out.trans (hb6.mono (by omega)))
    have HT6 := Lib.hid (ht6.weak (Q := fun b => w.heap.size + 2 ≤ b) (fun b hb _ => by omega))
    have y0 : w6.cell? ⟨w.heap.size, 0, none⟩ = some (.int .i64 0) := hG6.cell 0
    have y1 : w6.cell? ⟨w.heap.size, 1, none⟩ = some (.int .u64 0) := hG6.cell 1
    have y2 : w6.cell? ⟨w.heap.size, 2, none⟩ = some (.int .u64 0) := hG6.cell 2
    have y3 : w6.cell? ⟨w.heap.size, 3, none⟩ = some (.int .u64 0) := hG6.cell 3
    have y4 : w6.cell? ⟨w.heap.size, 4, none⟩ = some (.int .u64 0) := hG6.cell 4
    have y5 : w6.cell? ⟨w.heap.size, 5, none⟩ = some (.slice none 0 0) := hG6.cell 5
    have y6 : w6.cell? ⟨w.heap.size, 6, none⟩ = some (.int .i64 0) := hG6.cell 6
    have y7 : w6.cell? ⟨w.heap.size, 7, none⟩ = some (.int .i64 0) := hG6.cell 7
    have z0 := hG6.frozen 0
    have z1 := hG6.frozen 1
    have z2 := hG6.frozen 2
    have z3 := hG6.frozen 3
    have z4 := hG6.frozen 4
    have z5 := hG6.frozen 5
    have z6 := hG6.frozen 6
    have z7 := hG6.frozen 7
    obtain ⟨b0, b1, f0, f1⟩ := hH6.c2
    have HG6 := Lib.hid hG6
    have HH6 := Lib.hid hH6
    clear hb6 ht6 hG6 hH6 HP HG5 HH5 HB5
    unfold ndV
    dsimp only
    go_wp2
    go_light
    have hF := laid (x := leafN (maskOf y.set)) (B := B) (cap := cap6) (k := 0) (q := 0) HG6.out HH6.out HB6.out HT6.out rfl
    rw [HV.out]
    exact bodyPost_ret (ret_tree Tryz.results58 rfl rfl hF.1 hF.2.1) rfl ⟨B, cap6, rfl, hF.2.2.1, hc6, hF.2.2.2⟩

theorem splitF_kind {bs : List Nat} (hb : ∀ x ∈ bs, x < 256) : ∀ {f i : Nat} {L : List Lex} {k q : Int}, bs.length < f + i → i ≤ bs.length → splitF bs f i L = .error (k, q) → k ≠ 0
  | 0, i, L, k, q, hf, hi, h => by omega
  | f + 1, i, L, k, q, hf, hi, h => by
    rcases Nat.lt_or_ge i bs.length with h1 | h1
    · cases hx : lexS bs i with
      | error e =>
        obtain ⟨a, b⟩ := e
        rw [splitF_bad h1 hx] at h
        cases h
        exact lexS_err hb hx
      | ok x =>
        obtain ⟨x, j⟩ := x
        have hj := lexS_some hb h1 hx
        rw [splitF_ok h1 hx] at h
        exact splitF_kind hb (by omega) hj.2 h
    · rw [splitF_end h1] at h; cases h
theorem splitS_kind {bs : List Nat} (hb : ∀ x ∈ bs, x < 256) {k q : Int} (h : splitS bs = .error (k, q)) : k ≠ 0 := by
  rcases Nat.lt_or_ge 65536 bs.length with h1 | h1
  · rw [splitS_long h1] at h
    cases h
    decide
  · rw [splitS_go h1] at h
    exact splitF_kind hb (by omega) (Nat.zero_le _) h
theorem text_go07 (A : Option Addr) (cap : Nat) (bs : List Nat) (w : World) (hA : BytesAt w w.heap.size A bs) (hcap : bs.length ≤ cap) :
    Calls Tryz.prog 58 #[.slice A bs.length cap] w (TreeOut (parseS bs) w) := by
  cases hs : splitS bs with
  | error x =>
    obtain ⟨k, q⟩ := x
    exact text_bad A cap bs w hA hcap hs (splitS_kind hA.1 hs)
  | ok L =>
    by_cases h1 : L.length = 1
    · obtain ⟨y, rfl⟩ := List.length_eq_one_iff.1 h1
      by_cases hk : y.kind = 1
      · exact text_set A cap bs w hA hcap hs hk
      · exact text_sign A cap bs w hA hcap hs hk
    · exact text_many A cap bs w hA hcap hs h1

end Go.Proofs.YtfekpkelmliejaaGreatDoor
