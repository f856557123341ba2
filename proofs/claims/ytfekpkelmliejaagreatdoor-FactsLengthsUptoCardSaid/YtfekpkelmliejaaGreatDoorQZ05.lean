/-
  facts.of: what is known of any tree that may be. facts.known, and what is asked of any tree. The reference of chapter 10: Hollow. The contract of Split.
-/
import Derived.Test.YtfekpkelmliejaaGreatDoorQZ04
import Derived.Test.YtfekpkelmliejaaGreatDoorQZ03
import Derived.Test.YtfekpkelmliejaaGreatDoorQNext
import Derived.Test.YtfekpkelmliejaaGreatDoorQRefEsc
namespace Go.Proofs.YtfekpkelmliejaaGreatDoor
open Go.RowKit
set_option linter.unusedSimpArgs false
set_option linter.unusedVariables false
set_option maxRecDepth 100000

def OfC (n : Nat) : Prop := ∀ (x : Nd) (P : Nat → Prop) (B : Option Addr) (cap : Nat) (w : World), x.size ≤ n → x.size ≤ 140737488355328 → (∀ y ∈ x.nodes, aloneN y = true) → TreesAt w P x.kids B →
  Calls Tryz.prog 105 #[ndV x B cap] w fun e w' => e = .returned (sumV x.sum) ∧ Below w.heap.size w w'
/-- What a call for the kids may use. -/
def KidOf (x : Nd) (P : Nat → Prop) : Prop := ∀ (i : Nat) (z : Nd) (C : Option Addr) (capc : Nat) (w' : World), x.kids.list[i]? = some z → TreesAt w' P z.kids C → Calls Tryz.prog 105 #[ndV z C capc] w' fun e w'' => e = .returned (sumV z.sum) ∧ Below w'.heap.size w' w''
theorem sum_two {x : Nd} (h : x.kind = 2) : x.sum = fnilF := by unfold Nd.sum ofF; rw [if_pos h]
theorem sum_set {x : Nd} (h : x.kind = 3) : x.sum = if isNoSet x.set = true then nothingF else ⟨false, 1, 1, x.set.testBit, x.set.testBit⟩ := by unfold Nd.sum ofF; rw [if_neg (by omega), if_pos h]
theorem sum_cat {x : Nd} (h : x.kind = 4) : x.sum = x.kids.sums.foldl behindF fnilF := by unfold Nd.sum ofF; rw [if_neg (by omega), if_neg (by omega), if_pos h]
theorem sum_alt {x : Nd} (h : x.kind = 5) : x.sum = x.kids.sums.foldl eitherF nothingF := by unfold Nd.sum ofF; rw [if_neg (by omega), if_neg (by omega), if_neg (by omega), if_pos h]
theorem sum_star {x z : Nd} (h : x.kind = 6) (hz : x.kids.list[0]? = some z) : x.sum = repeatedF z.sum 0 endF := by rw [show x.sum = ofF x.kind x.set x.lo x.hi x.kids.sums from rfl]; unfold ofF; rw [if_neg (by omega), if_neg (by omega), if_neg (by omega), if_neg (by omega), if_pos h, Trees.sums_head hz]
theorem sum_plus {x z : Nd} (h : x.kind = 7) (hz : x.kids.list[0]? = some z) : x.sum = repeatedF z.sum 1 endF := by rw [show x.sum = ofF x.kind x.set x.lo x.hi x.kids.sums from rfl]; unfold ofF; rw [if_neg (by omega), if_neg (by omega), if_neg (by omega), if_neg (by omega), if_neg (by omega), if_pos h, Trees.sums_head hz]
theorem sum_opt {x z : Nd} (h : x.kind = 8) (hz : x.kids.list[0]? = some z) : x.sum = repeatedF z.sum 0 1 := by rw [show x.sum = ofF x.kind x.set x.lo x.hi x.kids.sums from rfl]; unfold ofF; rw [if_neg (by omega), if_neg (by omega), if_neg (by omega), if_neg (by omega), if_neg (by omega), if_neg (by omega), if_pos h, Trees.sums_head hz]
theorem sum_rep {x z : Nd} (h : x.kind = 9) (hz : x.kids.list[0]? = some z) : x.sum = repeatedF z.sum x.lo (hiF x.hi) := by rw [show x.sum = ofF x.kind x.set x.lo x.hi x.kids.sums from rfl]; unfold ofF; rw [if_neg (by omega), if_neg (by omega), if_neg (by omega), if_neg (by omega), if_neg (by omega), if_neg (by omega), if_neg (by omega), if_pos h, Trees.sums_head hz]
theorem sum_none {x : Nd} (h : x.kind = 1) : x.sum = nothingF := by unfold Nd.sum ofF; rw [if_neg (by omega), if_neg (by omega), if_neg (by omega), if_neg (by omega), if_neg (by omega), if_neg (by omega), if_neg (by omega), if_neg (by omega)]
set_option maxHeartbeats 4000000 in
theorem of_two (x : Nd) (P : Nat → Prop) (B : Option Addr) (cap : Nat) (w : World) (hl : x.kids.len ≤ 140737488355328) (ho : ∀ y ∈ x.nodes, aloneN y = true) (ht : TreesAt w P x.kids B) (hG : KidOf x P) (hk : x.kind = 2) : Calls Tryz.prog 105 #[ndV x B cap] w fun e w' => e = .returned (sumV x.sum) ∧ Below w.heap.size w w' := by
  have HV := Lib.hid (sum_two hk)
  have hb : Below w.heap.size w ((w.alloc (.cells #[.int .i64 x.kind, .int .u64 ((word (x.set.testBit) 0 : Nat) : Int), .int .u64 ((word (x.set.testBit) 1 : Nat) : Int), .int .u64 ((word (x.set.testBit) 2 : Nat) : Int), .int .u64 ((word (x.set.testBit) 3 : Nat) : Int), .slice B x.kids.len cap, .int .i64 x.lo, .int .i64 x.hi] 28)).alloc (.cells #[.bool false, .int .i64 0, .int .i64 0, .int .u64 0, .int .u64 0, .int .u64 0, .int .u64 0, .int .u64 0, .int .u64 0, .int .u64 0, .int .u64 0] 85)) := ((Below.refl _ _).alloc (Nat.le_refl _) _).alloc (by simp) _
  have HB := Lib.hid hb
  have HN := Lib.hid ((Blk.new w 28 #[.int .i64 x.kind, .int .u64 ((word (x.set.testBit) 0 : Nat) : Int), .int .u64 ((word (x.set.testBit) 1 : Nat) : Int), .int .u64 ((word (x.set.testBit) 2 : Nat) : Int), .int .u64 ((word (x.set.testBit) 3 : Nat) : Int), .slice B x.kids.len cap, .int .i64 x.lo, .int .i64 x.hi]).alloc (.cells #[.bool false, .int .i64 0, .int .i64 0, .int .u64 0, .int .u64 0, .int .u64 0, .int .u64 0, .int .u64 0, .int .u64 0, .int .u64 0, .int .u64 0] 85))
  have HR := Lib.hid (show Blk ((w.alloc (.cells #[.int .i64 x.kind, .int .u64 ((word (x.set.testBit) 0 : Nat) : Int), .int .u64 ((word (x.set.testBit) 1 : Nat) : Int), .int .u64 ((word (x.set.testBit) 2 : Nat) : Int), .int .u64 ((word (x.set.testBit) 3 : Nat) : Int), .slice B x.kids.len cap, .int .i64 x.lo, .int .i64 x.hi] 28)).alloc (.cells #[.bool false, .int .i64 0, .int .i64 0, .int .u64 0, .int .u64 0, .int .u64 0, .int .u64 0, .int .u64 0, .int .u64 0, .int .u64 0, .int .u64 0] 85)) (w.heap.size + 1) 85 #[.bool false, .int .i64 0, .int .i64 0, .int .u64 0, .int .u64 0, .int .u64 0, .int .u64 0, .int .u64 0, .int .u64 0, .int .u64 0, .int .u64 0] from Blk.new_at (by simp))
  have HT := Lib.hid (ht.below hb)
  have HG := Lib.hid hG
  have HO := Lib.hid ho
  clear hb ht hG ho
  unfold ndV
  rw [hk] at HN HR HT HB ⊢
  go_enter Tryz.func105, Tryz.ntmps105
  go_upto_region 1 with fail
  generalize ((w.alloc (.cells #[.int .i64 2, .int .u64 ((word (x.set.testBit) 0 : Nat) : Int), .int .u64 ((word (x.set.testBit) 1 : Nat) : Int), .int .u64 ((word (x.set.testBit) 2 : Nat) : Int), .int .u64 ((word (x.set.testBit) 3 : Nat) : Int), .slice B x.kids.len cap, .int .i64 x.lo, .int .i64 x.hi] 28)).alloc (.cells #[.bool false, .int .i64 0, .int .i64 0, .int .u64 0, .int .u64 0, .int .u64 0, .int .u64 0, .int .u64 0, .int .u64 0, .int .u64 0, .int .u64 0] 85)) = w2 at *
  obtain ⟨n0, n1, n2, n3, n4, n5, n6, n7⟩ := ((HN.out)).c8r
  have hln := (HN.out).lt
  obtain ⟨r0, r1, r2, r3, r4, r5, r6, r7, r8, r9, r10⟩ := ((HR.out)).c11r
  obtain ⟨q0, q1, q2, q3, q4, q5, q6, q7, q8, q9, q10⟩ := ((HR.out)).f11r
  have hlr := (HR.out).lt
  go_wp2
  refine bodyPost_ret (ret_sum Tryz.results105 rfl (Blk.store11 HR.out)) rfl ⟨by rw [HV.out, fnil_val], below_set11 HB.out (by omega)⟩
set_option maxHeartbeats 4000000 in
theorem of_none (x : Nd) (P : Nat → Prop) (B : Option Addr) (cap : Nat) (w : World) (hl : x.kids.len ≤ 140737488355328) (ho : ∀ y ∈ x.nodes, aloneN y = true) (ht : TreesAt w P x.kids B) (hG : KidOf x P) (hk : x.kind = 1) : Calls Tryz.prog 105 #[ndV x B cap] w fun e w' => e = .returned (sumV x.sum) ∧ Below w.heap.size w w' := by
  have HV := Lib.hid (sum_none hk)
  have hb : Below w.heap.size w ((w.alloc (.cells #[.int .i64 x.kind, .int .u64 ((word (x.set.testBit) 0 : Nat) : Int), .int .u64 ((word (x.set.testBit) 1 : Nat) : Int), .int .u64 ((word (x.set.testBit) 2 : Nat) : Int), .int .u64 ((word (x.set.testBit) 3 : Nat) : Int), .slice B x.kids.len cap, .int .i64 x.lo, .int .i64 x.hi] 28)).alloc (.cells #[.bool false, .int .i64 0, .int .i64 0, .int .u64 0, .int .u64 0, .int .u64 0, .int .u64 0, .int .u64 0, .int .u64 0, .int .u64 0, .int .u64 0] 85)) := ((Below.refl _ _).alloc (Nat.le_refl _) _).alloc (by simp) _
  have HB := Lib.hid hb
  have HN := Lib.hid ((Blk.new w 28 #[.int .i64 x.kind, .int .u64 ((word (x.set.testBit) 0 : Nat) : Int), .int .u64 ((word (x.set.testBit) 1 : Nat) : Int), .int .u64 ((word (x.set.testBit) 2 : Nat) : Int), .int .u64 ((word (x.set.testBit) 3 : Nat) : Int), .slice B x.kids.len cap, .int .i64 x.lo, .int .i64 x.hi]).alloc (.cells #[.bool false, .int .i64 0, .int .i64 0, .int .u64 0, .int .u64 0, .int .u64 0, .int .u64 0, .int .u64 0, .int .u64 0, .int .u64 0, .int .u64 0] 85))
  have HR := Lib.hid (show Blk ((w.alloc (.cells #[.int .i64 x.kind, .int .u64 ((word (x.set.testBit) 0 : Nat) : Int), .int .u64 ((word (x.set.testBit) 1 : Nat) : Int), .int .u64 ((word (x.set.testBit) 2 : Nat) : Int), .int .u64 ((word (x.set.testBit) 3 : Nat) : Int), .slice B x.kids.len cap, .int .i64 x.lo, .int .i64 x.hi] 28)).alloc (.cells #[.bool false, .int .i64 0, .int .i64 0, .int .u64 0, .int .u64 0, .int .u64 0, .int .u64 0, .int .u64 0, .int .u64 0, .int .u64 0, .int .u64 0] 85)) (w.heap.size + 1) 85 #[.bool false, .int .i64 0, .int .i64 0, .int .u64 0, .int .u64 0, .int .u64 0, .int .u64 0, .int .u64 0, .int .u64 0, .int .u64 0, .int .u64 0] from Blk.new_at (by simp))
  have HT := Lib.hid (ht.below hb)
  have HG := Lib.hid hG
  have HO := Lib.hid ho
  clear hb ht hG ho
  unfold ndV
  rw [hk] at HN HR HT HB ⊢
  go_enter Tryz.func105, Tryz.ntmps105
  go_upto_region 1 with fail
  generalize ((w.alloc (.cells #[.int .i64 1, .int .u64 ((word (x.set.testBit) 0 : Nat) : Int), .int .u64 ((word (x.set.testBit) 1 : Nat) : Int), .int .u64 ((word (x.set.testBit) 2 : Nat) : Int), .int .u64 ((word (x.set.testBit) 3 : Nat) : Int), .slice B x.kids.len cap, .int .i64 x.lo, .int .i64 x.hi] 28)).alloc (.cells #[.bool false, .int .i64 0, .int .i64 0, .int .u64 0, .int .u64 0, .int .u64 0, .int .u64 0, .int .u64 0, .int .u64 0, .int .u64 0, .int .u64 0] 85)) = w2 at *
  obtain ⟨n0, n1, n2, n3, n4, n5, n6, n7⟩ := ((HN.out)).c8r
  have hln := (HN.out).lt
  go_wp2_with fail
  refine (nothing_go _).mono ?_
  rintro e w3 ⟨rfl, hb3⟩
  have HR3 := Lib.hid (HR.out.below hb3 HR.out.lt)
  have HB3 := Lib.hid (HB.out.trans (hb3.mono HB.out.size))
  clear hb3
  clear n0 n1 n2 n3 n4 n5 n6 n7
  rw [nothing_val]
  dsimp only
  obtain ⟨r0, r1, r2, r3, r4, r5, r6, r7, r8, r9, r10⟩ := ((HR3.out)).c11r
  obtain ⟨q0, q1, q2, q3, q4, q5, q6, q7, q8, q9, q10⟩ := ((HR3.out)).f11r
  have hlr := (HR3.out).lt
  go_wp2
  refine bodyPost_ret (ret_sum Tryz.results105 rfl (Blk.store11 HR3.out)) rfl ⟨by rw [HV.out, nothing_val], below_set11 HB3.out (by omega)⟩
set_option maxHeartbeats 4000000 in
theorem of_set0 (x : Nd) (P : Nat → Prop) (B : Option Addr) (cap : Nat) (w : World) (hl : x.kids.len ≤ 140737488355328) (ho : ∀ y ∈ x.nodes, aloneN y = true) (ht : TreesAt w P x.kids B) (hG : KidOf x P) (hk : x.kind = 3) (h0 : isNoSet x.set = true) : Calls Tryz.prog 105 #[ndV x B cap] w fun e w' => e = .returned (sumV x.sum) ∧ Below w.heap.size w w' := by
  have HV := Lib.hid (show x.sum = nothingF by rw [sum_set hk, if_pos h0])
  have HE0 := Lib.hid (show word x.set.testBit 0 = 0 ∧ word x.set.testBit 1 = 0 ∧ word x.set.testBit 2 = 0 ∧ word x.set.testBit 3 = 0 by unfold isNoSet at h0; simpa using h0)
  clear h0
  have hb : Below w.heap.size w ((w.alloc (.cells #[.int .i64 x.kind, .int .u64 ((word (x.set.testBit) 0 : Nat) : Int), .int .u64 ((word (x.set.testBit) 1 : Nat) : Int), .int .u64 ((word (x.set.testBit) 2 : Nat) : Int), .int .u64 ((word (x.set.testBit) 3 : Nat) : Int), .slice B x.kids.len cap, .int .i64 x.lo, .int .i64 x.hi] 28)).alloc (.cells #[.bool false, .int .i64 0, .int .i64 0, .int .u64 0, .int .u64 0, .int .u64 0, .int .u64 0, .int .u64 0, .int .u64 0, .int .u64 0, .int .u64 0] 85)) := ((Below.refl _ _).alloc (Nat.le_refl _) _).alloc (by simp) _
  have HB := Lib.hid hb
  have HN := Lib.hid ((Blk.new w 28 #[.int .i64 x.kind, .int .u64 ((word (x.set.testBit) 0 : Nat) : Int), .int .u64 ((word (x.set.testBit) 1 : Nat) : Int), .int .u64 ((word (x.set.testBit) 2 : Nat) : Int), .int .u64 ((word (x.set.testBit) 3 : Nat) : Int), .slice B x.kids.len cap, .int .i64 x.lo, .int .i64 x.hi]).alloc (.cells #[.bool false, .int .i64 0, .int .i64 0, .int .u64 0, .int .u64 0, .int .u64 0, .int .u64 0, .int .u64 0, .int .u64 0, .int .u64 0, .int .u64 0] 85))
  have HR := Lib.hid (show Blk ((w.alloc (.cells #[.int .i64 x.kind, .int .u64 ((word (x.set.testBit) 0 : Nat) : Int), .int .u64 ((word (x.set.testBit) 1 : Nat) : Int), .int .u64 ((word (x.set.testBit) 2 : Nat) : Int), .int .u64 ((word (x.set.testBit) 3 : Nat) : Int), .slice B x.kids.len cap, .int .i64 x.lo, .int .i64 x.hi] 28)).alloc (.cells #[.bool false, .int .i64 0, .int .i64 0, .int .u64 0, .int .u64 0, .int .u64 0, .int .u64 0, .int .u64 0, .int .u64 0, .int .u64 0, .int .u64 0] 85)) (w.heap.size + 1) 85 #[.bool false, .int .i64 0, .int .i64 0, .int .u64 0, .int .u64 0, .int .u64 0, .int .u64 0, .int .u64 0, .int .u64 0, .int .u64 0, .int .u64 0] from Blk.new_at (by simp))
  have HT := Lib.hid (ht.below hb)
  have HG := Lib.hid hG
  have HO := Lib.hid ho
  clear hb ht hG ho
  unfold ndV
  rw [hk] at HN HR HT HB ⊢
  go_enter Tryz.func105, Tryz.ntmps105
  go_upto_region 1 with fail
  generalize ((w.alloc (.cells #[.int .i64 3, .int .u64 ((word (x.set.testBit) 0 : Nat) : Int), .int .u64 ((word (x.set.testBit) 1 : Nat) : Int), .int .u64 ((word (x.set.testBit) 2 : Nat) : Int), .int .u64 ((word (x.set.testBit) 3 : Nat) : Int), .slice B x.kids.len cap, .int .i64 x.lo, .int .i64 x.hi] 28)).alloc (.cells #[.bool false, .int .i64 0, .int .i64 0, .int .u64 0, .int .u64 0, .int .u64 0, .int .u64 0, .int .u64 0, .int .u64 0, .int .u64 0, .int .u64 0] 85)) = w2 at *
  obtain ⟨n0, n1, n2, n3, n4, n5, n6, n7⟩ := ((HN.out)).c8r
  have hln := (HN.out).lt
  obtain ⟨e0, e1, e2, e3⟩ := HE0.out
  rw [e0] at n1
  rw [e1] at n2
  rw [e2] at n3
  rw [e3] at n4
  clear e0 e1 e2 e3
  go_wp2_with fail
  refine (nothing_go _).mono ?_
  rintro e w3 ⟨rfl, hb3⟩
  have HR3 := Lib.hid (HR.out.below hb3 HR.out.lt)
  have HB3 := Lib.hid (HB.out.trans (hb3.mono HB.out.size))
  clear hb3
  clear n0 n1 n2 n3 n4 n5 n6 n7
  rw [nothing_val]
  dsimp only
  obtain ⟨r0, r1, r2, r3, r4, r5, r6, r7, r8, r9, r10⟩ := ((HR3.out)).c11r
  obtain ⟨q0, q1, q2, q3, q4, q5, q6, q7, q8, q9, q10⟩ := ((HR3.out)).f11r
  have hlr := (HR3.out).lt
  go_wp2
  refine bodyPost_ret (ret_sum Tryz.results105 rfl (Blk.store11 HR3.out)) rfl ⟨by rw [HV.out, nothing_val], below_set11 HB3.out (by omega)⟩
set_option maxHeartbeats 4000000 in
theorem of_set1 (x : Nd) (P : Nat → Prop) (B : Option Addr) (cap : Nat) (w : World) (hl : x.kids.len ≤ 140737488355328) (ho : ∀ y ∈ x.nodes, aloneN y = true) (ht : TreesAt w P x.kids B) (hG : KidOf x P) (hk : x.kind = 3)  (hn : word x.set.testBit 0 ≠ 0) : Calls Tryz.prog 105 #[ndV x B cap] w fun e w' => e = .returned (sumV x.sum) ∧ Below w.heap.size w w' := by
  have HV := Lib.hid (show x.sum = ⟨false, 1, 1, x.set.testBit, x.set.testBit⟩ by rw [sum_set hk, if_neg (by unfold isNoSet; simp [hn])])
  have hn1 : (((word x.set.testBit 0 : Nat) : Int) == 0) = false := by rw [beq_eq_false_iff_ne]; omega
  clear hn 
  have hb : Below w.heap.size w ((w.alloc (.cells #[.int .i64 x.kind, .int .u64 ((word (x.set.testBit) 0 : Nat) : Int), .int .u64 ((word (x.set.testBit) 1 : Nat) : Int), .int .u64 ((word (x.set.testBit) 2 : Nat) : Int), .int .u64 ((word (x.set.testBit) 3 : Nat) : Int), .slice B x.kids.len cap, .int .i64 x.lo, .int .i64 x.hi] 28)).alloc (.cells #[.bool false, .int .i64 0, .int .i64 0, .int .u64 0, .int .u64 0, .int .u64 0, .int .u64 0, .int .u64 0, .int .u64 0, .int .u64 0, .int .u64 0] 85)) := ((Below.refl _ _).alloc (Nat.le_refl _) _).alloc (by simp) _
  have HB := Lib.hid hb
  have HN := Lib.hid ((Blk.new w 28 #[.int .i64 x.kind, .int .u64 ((word (x.set.testBit) 0 : Nat) : Int), .int .u64 ((word (x.set.testBit) 1 : Nat) : Int), .int .u64 ((word (x.set.testBit) 2 : Nat) : Int), .int .u64 ((word (x.set.testBit) 3 : Nat) : Int), .slice B x.kids.len cap, .int .i64 x.lo, .int .i64 x.hi]).alloc (.cells #[.bool false, .int .i64 0, .int .i64 0, .int .u64 0, .int .u64 0, .int .u64 0, .int .u64 0, .int .u64 0, .int .u64 0, .int .u64 0, .int .u64 0] 85))
  have HR := Lib.hid (show Blk ((w.alloc (.cells #[.int .i64 x.kind, .int .u64 ((word (x.set.testBit) 0 : Nat) : Int), .int .u64 ((word (x.set.testBit) 1 : Nat) : Int), .int .u64 ((word (x.set.testBit) 2 : Nat) : Int), .int .u64 ((word (x.set.testBit) 3 : Nat) : Int), .slice B x.kids.len cap, .int .i64 x.lo, .int .i64 x.hi] 28)).alloc (.cells #[.bool false, .int .i64 0, .int .i64 0, .int .u64 0, .int .u64 0, .int .u64 0, .int .u64 0, .int .u64 0, .int .u64 0, .int .u64 0, .int .u64 0] 85)) (w.heap.size + 1) 85 #[.bool false, .int .i64 0, .int .i64 0, .int .u64 0, .int .u64 0, .int .u64 0, .int .u64 0, .int .u64 0, .int .u64 0, .int .u64 0, .int .u64 0] from Blk.new_at (by simp))
  have HT := Lib.hid (ht.below hb)
  have HG := Lib.hid hG
  have HO := Lib.hid ho
  clear hb ht hG ho
  unfold ndV
  rw [hk] at HN HR HT HB ⊢
  go_enter Tryz.func105, Tryz.ntmps105
  go_upto_region 1 with fail
  generalize ((w.alloc (.cells #[.int .i64 3, .int .u64 ((word (x.set.testBit) 0 : Nat) : Int), .int .u64 ((word (x.set.testBit) 1 : Nat) : Int), .int .u64 ((word (x.set.testBit) 2 : Nat) : Int), .int .u64 ((word (x.set.testBit) 3 : Nat) : Int), .slice B x.kids.len cap, .int .i64 x.lo, .int .i64 x.hi] 28)).alloc (.cells #[.bool false, .int .i64 0, .int .i64 0, .int .u64 0, .int .u64 0, .int .u64 0, .int .u64 0, .int .u64 0, .int .u64 0, .int .u64 0, .int .u64 0] 85)) = w2 at *
  obtain ⟨n0, n1, n2, n3, n4, n5, n6, n7⟩ := ((HN.out)).c8r
  have hln := (HN.out).lt
  obtain ⟨r0, r1, r2, r3, r4, r5, r6, r7, r8, r9, r10⟩ := ((HR.out)).c11r
  obtain ⟨q0, q1, q2, q3, q4, q5, q6, q7, q8, q9, q10⟩ := ((HR.out)).f11r
  have hlr := (HR.out).lt
  go_wp2
  refine bodyPost_ret (ret_sum Tryz.results105 rfl (Blk.store11 HR.out)) rfl ⟨by rw [HV.out]; rfl, below_set11 HB.out (by omega)⟩
set_option maxHeartbeats 4000000 in
theorem of_set2 (x : Nd) (P : Nat → Prop) (B : Option Addr) (cap : Nat) (w : World) (hl : x.kids.len ≤ 140737488355328) (ho : ∀ y ∈ x.nodes, aloneN y = true) (ht : TreesAt w P x.kids B) (hG : KidOf x P) (hk : x.kind = 3) (h0 : word x.set.testBit 0 = 0) (hn : word x.set.testBit 1 ≠ 0) : Calls Tryz.prog 105 #[ndV x B cap] w fun e w' => e = .returned (sumV x.sum) ∧ Below w.heap.size w w' := by
  have HV := Lib.hid (show x.sum = ⟨false, 1, 1, x.set.testBit, x.set.testBit⟩ by rw [sum_set hk, if_neg (by unfold isNoSet; simp [hn])])
  have hn1 : (((word x.set.testBit 1 : Nat) : Int) == 0) = false := by rw [beq_eq_false_iff_ne]; omega
  have H0 := Lib.hid h0
  clear hn h0
  have hb : Below w.heap.size w ((w.alloc (.cells #[.int .i64 x.kind, .int .u64 ((word (x.set.testBit) 0 : Nat) : Int), .int .u64 ((word (x.set.testBit) 1 : Nat) : Int), .int .u64 ((word (x.set.testBit) 2 : Nat) : Int), .int .u64 ((word (x.set.testBit) 3 : Nat) : Int), .slice B x.kids.len cap, .int .i64 x.lo, .int .i64 x.hi] 28)).alloc (.cells #[.bool false, .int .i64 0, .int .i64 0, .int .u64 0, .int .u64 0, .int .u64 0, .int .u64 0, .int .u64 0, .int .u64 0, .int .u64 0, .int .u64 0] 85)) := ((Below.refl _ _).alloc (Nat.le_refl _) _).alloc (by simp) _
  have HB := Lib.hid hb
  have HN := Lib.hid ((Blk.new w 28 #[.int .i64 x.kind, .int .u64 ((word (x.set.testBit) 0 : Nat) : Int), .int .u64 ((word (x.set.testBit) 1 : Nat) : Int), .int .u64 ((word (x.set.testBit) 2 : Nat) : Int), .int .u64 ((word (x.set.testBit) 3 : Nat) : Int), .slice B x.kids.len cap, .int .i64 x.lo, .int .i64 x.hi]).alloc (.cells #[.bool false, .int .i64 0, .int .i64 0, .int .u64 0, .int .u64 0, .int .u64 0, .int .u64 0, .int .u64 0, .int .u64 0, .int .u64 0, .int .u64 0] 85))
  have HR := Lib.hid (show Blk ((w.alloc (.cells #[.int .i64 x.kind, .int .u64 ((word (x.set.testBit) 0 : Nat) : Int), .int .u64 ((word (x.set.testBit) 1 : Nat) : Int), .int .u64 ((word (x.set.testBit) 2 : Nat) : Int), .int .u64 ((word (x.set.testBit) 3 : Nat) : Int), .slice B x.kids.len cap, .int .i64 x.lo, .int .i64 x.hi] 28)).alloc (.cells #[.bool false, .int .i64 0, .int .i64 0, .int .u64 0, .int .u64 0, .int .u64 0, .int .u64 0, .int .u64 0, .int .u64 0, .int .u64 0, .int .u64 0] 85)) (w.heap.size + 1) 85 #[.bool false, .int .i64 0, .int .i64 0, .int .u64 0, .int .u64 0, .int .u64 0, .int .u64 0, .int .u64 0, .int .u64 0, .int .u64 0, .int .u64 0] from Blk.new_at (by simp))
  have HT := Lib.hid (ht.below hb)
  have HG := Lib.hid hG
  have HO := Lib.hid ho
  clear hb ht hG ho
  unfold ndV
  rw [hk] at HN HR HT HB ⊢
  go_enter Tryz.func105, Tryz.ntmps105
  go_upto_region 1 with fail
  generalize ((w.alloc (.cells #[.int .i64 3, .int .u64 ((word (x.set.testBit) 0 : Nat) : Int), .int .u64 ((word (x.set.testBit) 1 : Nat) : Int), .int .u64 ((word (x.set.testBit) 2 : Nat) : Int), .int .u64 ((word (x.set.testBit) 3 : Nat) : Int), .slice B x.kids.len cap, .int .i64 x.lo, .int .i64 x.hi] 28)).alloc (.cells #[.bool false, .int .i64 0, .int .i64 0, .int .u64 0, .int .u64 0, .int .u64 0, .int .u64 0, .int .u64 0, .int .u64 0, .int .u64 0, .int .u64 0] 85)) = w2 at *
  obtain ⟨n0, n1, n2, n3, n4, n5, n6, n7⟩ := ((HN.out)).c8r
  have hln := (HN.out).lt
  rw [H0.out] at n1
  obtain ⟨r0, r1, r2, r3, r4, r5, r6, r7, r8, r9, r10⟩ := ((HR.out)).c11r
  obtain ⟨q0, q1, q2, q3, q4, q5, q6, q7, q8, q9, q10⟩ := ((HR.out)).f11r
  have hlr := (HR.out).lt
  go_wp2
  refine bodyPost_ret (ret_sum Tryz.results105 rfl (Blk.store11 HR.out)) rfl ⟨by rw [HV.out]; unfold sumV sumA; dsimp only; first | (rw [H0.out]; done) | (rw [H0.out]; rfl), below_set11 HB.out (by omega)⟩
set_option maxHeartbeats 4000000 in
theorem of_set3 (x : Nd) (P : Nat → Prop) (B : Option Addr) (cap : Nat) (w : World) (hl : x.kids.len ≤ 140737488355328) (ho : ∀ y ∈ x.nodes, aloneN y = true) (ht : TreesAt w P x.kids B) (hG : KidOf x P) (hk : x.kind = 3) (h0 : word x.set.testBit 0 = 0) (h1 : word x.set.testBit 1 = 0) (hn : word x.set.testBit 2 ≠ 0) : Calls Tryz.prog 105 #[ndV x B cap] w fun e w' => e = .returned (sumV x.sum) ∧ Below w.heap.size w w' := by
  have HV := Lib.hid (show x.sum = ⟨false, 1, 1, x.set.testBit, x.set.testBit⟩ by rw [sum_set hk, if_neg (by unfold isNoSet; simp [hn])])
  have hn1 : (((word x.set.testBit 2 : Nat) : Int) == 0) = false := by rw [beq_eq_false_iff_ne]; omega
  have H0 := Lib.hid h0
  have H1 := Lib.hid h1
  clear hn h0 h1
  have hb : Below w.heap.size w ((w.alloc (.cells #[.int .i64 x.kind, .int .u64 ((word (x.set.testBit) 0 : Nat) : Int), .int .u64 ((word (x.set.testBit) 1 : Nat) : Int), .int .u64 ((word (x.set.testBit) 2 : Nat) : Int), .int .u64 ((word (x.set.testBit) 3 : Nat) : Int), .slice B x.kids.len cap, .int .i64 x.lo, .int .i64 x.hi] 28)).alloc (.cells #[.bool false, .int .i64 0, .int .i64 0, .int .u64 0, .int .u64 0, .int .u64 0, .int .u64 0, .int .u64 0, .int .u64 0, .int .u64 0, .int .u64 0] 85)) := ((Below.refl _ _).alloc (Nat.le_refl _) _).alloc (by simp) _
  have HB := Lib.hid hb
  have HN := Lib.hid ((Blk.new w 28 #[.int .i64 x.kind, .int .u64 ((word (x.set.testBit) 0 : Nat) : Int), .int .u64 ((word (x.set.testBit) 1 : Nat) : Int), .int .u64 ((word (x.set.testBit) 2 : Nat) : Int), .int .u64 ((word (x.set.testBit) 3 : Nat) : Int), .slice B x.kids.len cap, .int .i64 x.lo, .int .i64 x.hi]).alloc (.cells #[.bool false, .int .i64 0, .int .i64 0, .int .u64 0, .int .u64 0, .int .u64 0, .int .u64 0, .int .u64 0, .int .u64 0, .int .u64 0, .int .u64 0] 85))
  have HR := Lib.hid (show Blk ((w.alloc (.cells #[.int .i64 x.kind, .int .u64 ((word (x.set.testBit) 0 : Nat) : Int), .int .u64 ((word (x.set.testBit) 1 : Nat) : Int), .int .u64 ((word (x.set.testBit) 2 : Nat) : Int), .int .u64 ((word (x.set.testBit) 3 : Nat) : Int), .slice B x.kids.len cap, .int .i64 x.lo, .int .i64 x.hi] 28)).alloc (.cells #[.bool false, .int .i64 0, .int .i64 0, .int .u64 0, .int .u64 0, .int .u64 0, .int .u64 0, .int .u64 0, .int .u64 0, .int .u64 0, .int .u64 0] 85)) (w.heap.size + 1) 85 #[.bool false, .int .i64 0, .int .i64 0, .int .u64 0, .int .u64 0, .int .u64 0, .int .u64 0, .int .u64 0, .int .u64 0, .int .u64 0, .int .u64 0] from Blk.new_at (by simp))
  have HT := Lib.hid (ht.below hb)
  have HG := Lib.hid hG
  have HO := Lib.hid ho
  clear hb ht hG ho
  unfold ndV
  rw [hk] at HN HR HT HB ⊢
  go_enter Tryz.func105, Tryz.ntmps105
  go_upto_region 1 with fail
  generalize ((w.alloc (.cells #[.int .i64 3, .int .u64 ((word (x.set.testBit) 0 : Nat) : Int), .int .u64 ((word (x.set.testBit) 1 : Nat) : Int), .int .u64 ((word (x.set.testBit) 2 : Nat) : Int), .int .u64 ((word (x.set.testBit) 3 : Nat) : Int), .slice B x.kids.len cap, .int .i64 x.lo, .int .i64 x.hi] 28)).alloc (.cells #[.bool false, .int .i64 0, .int .i64 0, .int .u64 0, .int .u64 0, .int .u64 0, .int .u64 0, .int .u64 0, .int .u64 0, .int .u64 0, .int .u64 0] 85)) = w2 at *
  obtain ⟨n0, n1, n2, n3, n4, n5, n6, n7⟩ := ((HN.out)).c8r
  have hln := (HN.out).lt
  rw [H0.out] at n1
  rw [H1.out] at n2
  obtain ⟨r0, r1, r2, r3, r4, r5, r6, r7, r8, r9, r10⟩ := ((HR.out)).c11r
  obtain ⟨q0, q1, q2, q3, q4, q5, q6, q7, q8, q9, q10⟩ := ((HR.out)).f11r
  have hlr := (HR.out).lt
  go_wp2
  refine bodyPost_ret (ret_sum Tryz.results105 rfl (Blk.store11 HR.out)) rfl ⟨by rw [HV.out]; unfold sumV sumA; dsimp only; first | (rw [H0.out, H1.out]; done) | (rw [H0.out, H1.out]; rfl), below_set11 HB.out (by omega)⟩
set_option maxHeartbeats 4000000 in
theorem of_set4 (x : Nd) (P : Nat → Prop) (B : Option Addr) (cap : Nat) (w : World) (hl : x.kids.len ≤ 140737488355328) (ho : ∀ y ∈ x.nodes, aloneN y = true) (ht : TreesAt w P x.kids B) (hG : KidOf x P) (hk : x.kind = 3) (h0 : word x.set.testBit 0 = 0) (h1 : word x.set.testBit 1 = 0) (h2 : word x.set.testBit 2 = 0) (hn : word x.set.testBit 3 ≠ 0) : Calls Tryz.prog 105 #[ndV x B cap] w fun e w' => e = .returned (sumV x.sum) ∧ Below w.heap.size w w' := by
  have HV := Lib.hid (show x.sum = ⟨false, 1, 1, x.set.testBit, x.set.testBit⟩ by rw [sum_set hk, if_neg (by unfold isNoSet; simp [hn])])
  have hn1 : (((word x.set.testBit 3 : Nat) : Int) == 0) = false := by rw [beq_eq_false_iff_ne]; omega
  have H0 := Lib.hid h0
  have H1 := Lib.hid h1
  have H2 := Lib.hid h2
  clear hn h0 h1 h2
  have hb : Below w.heap.size w ((w.alloc (.cells #[.int .i64 x.kind, .int .u64 ((word (x.set.testBit) 0 : Nat) : Int), .int .u64 ((word (x.set.testBit) 1 : Nat) : Int), .int .u64 ((word (x.set.testBit) 2 : Nat) : Int), .int .u64 ((word (x.set.testBit) 3 : Nat) : Int), .slice B x.kids.len cap, .int .i64 x.lo, .int .i64 x.hi] 28)).alloc (.cells #[.bool false, .int .i64 0, .int .i64 0, .int .u64 0, .int .u64 0, .int .u64 0, .int .u64 0, .int .u64 0, .int .u64 0, .int .u64 0, .int .u64 0] 85)) := ((Below.refl _ _).alloc (Nat.le_refl _) _).alloc (by simp) _
  have HB := Lib.hid hb
  have HN := Lib.hid ((Blk.new w 28 #[.int .i64 x.kind, .int .u64 ((word (x.set.testBit) 0 : Nat) : Int), .int .u64 ((word (x.set.testBit) 1 : Nat) : Int), .int .u64 ((word (x.set.testBit) 2 : Nat) : Int), .int .u64 ((word (x.set.testBit) 3 : Nat) : Int), .slice B x.kids.len cap, .int .i64 x.lo, .int .i64 x.hi]).alloc (.cells #[.bool false, .int .i64 0, .int .i64 0, .int .u64 0, .int .u64 0, .int .u64 0, .int .u64 0, .int .u64 0, .int .u64 0, .int .u64 0, .int .u64 0] 85))
  have HR := Lib.hid (show Blk ((w.alloc (.cells #[.int .i64 x.kind, .int .u64 ((word (x.set.testBit) 0 : Nat) : Int), .int .u64 ((word (x.set.testBit) 1 : Nat) : Int), .int .u64 ((word (x.set.testBit) 2 : Nat) : Int), .int .u64 ((word (x.set.testBit) 3 : Nat) : Int), .slice B x.kids.len cap, .int .i64 x.lo, .int .i64 x.hi] 28)).alloc (.cells #[.bool false, .int .i64 0, .int .i64 0, .int .u64 0, .int .u64 0, .int .u64 0, .int .u64 0, .int .u64 0, .int .u64 0, .int .u64 0, .int .u64 0] 85)) (w.heap.size + 1) 85 #[.bool false, .int .i64 0, .int .i64 0, .int .u64 0, .int .u64 0, .int .u64 0, .int .u64 0, .int .u64 0, .int .u64 0, .int .u64 0, .int .u64 0] from Blk.new_at (by simp))
  have HT := Lib.hid (ht.below hb)
  have HG := Lib.hid hG
  have HO := Lib.hid ho
  clear hb ht hG ho
  unfold ndV
  rw [hk] at HN HR HT HB ⊢
  go_enter Tryz.func105, Tryz.ntmps105
  go_upto_region 1 with fail
  generalize ((w.alloc (.cells #[.int .i64 3, .int .u64 ((word (x.set.testBit) 0 : Nat) : Int), .int .u64 ((word (x.set.testBit) 1 : Nat) : Int), .int .u64 ((word (x.set.testBit) 2 : Nat) : Int), .int .u64 ((word (x.set.testBit) 3 : Nat) : Int), .slice B x.kids.len cap, .int .i64 x.lo, .int .i64 x.hi] 28)).alloc (.cells #[.bool false, .int .i64 0, .int .i64 0, .int .u64 0, .int .u64 0, .int .u64 0, .int .u64 0, .int .u64 0, .int .u64 0, .int .u64 0, .int .u64 0] 85)) = w2 at *
  obtain ⟨n0, n1, n2, n3, n4, n5, n6, n7⟩ := ((HN.out)).c8r
  have hln := (HN.out).lt
  rw [H0.out] at n1
  rw [H1.out] at n2
  rw [H2.out] at n3
  obtain ⟨r0, r1, r2, r3, r4, r5, r6, r7, r8, r9, r10⟩ := ((HR.out)).c11r
  obtain ⟨q0, q1, q2, q3, q4, q5, q6, q7, q8, q9, q10⟩ := ((HR.out)).f11r
  have hlr := (HR.out).lt
  go_wp2
  refine bodyPost_ret (ret_sum Tryz.results105 rfl (Blk.store11 HR.out)) rfl ⟨by rw [HV.out]; unfold sumV sumA; dsimp only; first | (rw [H0.out, H1.out, H2.out]; done) | (rw [H0.out, H1.out, H2.out]; rfl), below_set11 HB.out (by omega)⟩
set_option maxHeartbeats 4000000 in
theorem of_cat (x : Nd) (P : Nat → Prop) (B : Option Addr) (cap : Nat) (w : World) (hl : x.kids.len ≤ 140737488355328) (ho : ∀ y ∈ x.nodes, aloneN y = true) (ht : TreesAt w P x.kids B) (hG : KidOf x P) (hk : x.kind = 4) : Calls Tryz.prog 105 #[ndV x B cap] w fun e w' => e = .returned (sumV x.sum) ∧ Below w.heap.size w w' := by
  have HV := Lib.hid (sum_cat hk)
  have hb : Below w.heap.size w ((w.alloc (.cells #[.int .i64 x.kind, .int .u64 ((word (x.set.testBit) 0 : Nat) : Int), .int .u64 ((word (x.set.testBit) 1 : Nat) : Int), .int .u64 ((word (x.set.testBit) 2 : Nat) : Int), .int .u64 ((word (x.set.testBit) 3 : Nat) : Int), .slice B x.kids.len cap, .int .i64 x.lo, .int .i64 x.hi] 28)).alloc (.cells #[.bool false, .int .i64 0, .int .i64 0, .int .u64 0, .int .u64 0, .int .u64 0, .int .u64 0, .int .u64 0, .int .u64 0, .int .u64 0, .int .u64 0] 85)) := ((Below.refl _ _).alloc (Nat.le_refl _) _).alloc (by simp) _
  have HB := Lib.hid hb
  have HN := Lib.hid ((Blk.new w 28 #[.int .i64 x.kind, .int .u64 ((word (x.set.testBit) 0 : Nat) : Int), .int .u64 ((word (x.set.testBit) 1 : Nat) : Int), .int .u64 ((word (x.set.testBit) 2 : Nat) : Int), .int .u64 ((word (x.set.testBit) 3 : Nat) : Int), .slice B x.kids.len cap, .int .i64 x.lo, .int .i64 x.hi]).alloc (.cells #[.bool false, .int .i64 0, .int .i64 0, .int .u64 0, .int .u64 0, .int .u64 0, .int .u64 0, .int .u64 0, .int .u64 0, .int .u64 0, .int .u64 0] 85))
  have HR := Lib.hid (show Blk ((w.alloc (.cells #[.int .i64 x.kind, .int .u64 ((word (x.set.testBit) 0 : Nat) : Int), .int .u64 ((word (x.set.testBit) 1 : Nat) : Int), .int .u64 ((word (x.set.testBit) 2 : Nat) : Int), .int .u64 ((word (x.set.testBit) 3 : Nat) : Int), .slice B x.kids.len cap, .int .i64 x.lo, .int .i64 x.hi] 28)).alloc (.cells #[.bool false, .int .i64 0, .int .i64 0, .int .u64 0, .int .u64 0, .int .u64 0, .int .u64 0, .int .u64 0, .int .u64 0, .int .u64 0, .int .u64 0] 85)) (w.heap.size + 1) 85 #[.bool false, .int .i64 0, .int .i64 0, .int .u64 0, .int .u64 0, .int .u64 0, .int .u64 0, .int .u64 0, .int .u64 0, .int .u64 0, .int .u64 0] from Blk.new_at (by simp))
  have HT := Lib.hid (ht.below hb)
  have HG := Lib.hid hG
  have HO := Lib.hid ho
  clear hb ht hG ho
  unfold ndV
  rw [hk] at HN HR HT HB ⊢
  go_enter Tryz.func105, Tryz.ntmps105
  go_upto_region 1 with fail
  generalize ((w.alloc (.cells #[.int .i64 4, .int .u64 ((word (x.set.testBit) 0 : Nat) : Int), .int .u64 ((word (x.set.testBit) 1 : Nat) : Int), .int .u64 ((word (x.set.testBit) 2 : Nat) : Int), .int .u64 ((word (x.set.testBit) 3 : Nat) : Int), .slice B x.kids.len cap, .int .i64 x.lo, .int .i64 x.hi] 28)).alloc (.cells #[.bool false, .int .i64 0, .int .i64 0, .int .u64 0, .int .u64 0, .int .u64 0, .int .u64 0, .int .u64 0, .int .u64 0, .int .u64 0, .int .u64 0] 85)) = w2 at *
  have hs := ok_sums x.kids (fun y hy => HO.out y (by simp [Nd.nodes, hy]))
  have HC := Lib.hid (ffold_go 149 behindF x.kids P B cap fnilF w2 ok_nil hl HT.out (fun a b w' ha hb => fbehind_go a b w' ha hb) (fun a b => ok_behind) HG.out hs (enters_of Tryz.func149 (by kernel_rfl) rfl))
  rw [fnil_val, ← HV.out] at HC
  clear hs
  obtain ⟨n0, n1, n2, n3, n4, n5, n6, n7⟩ := ((HN.out)).c8r
  have hln := (HN.out).lt
  obtain ⟨r, hr⟩ : ∃ r, r = x.sum := ⟨_, rfl⟩
  have HRr := Lib.hid hr
  rw [← hr] at HC
  clear hr
  unfold sumV sumA at HC
  go_wp2_with fail
  refine HC.out.mono ?_
  rintro e w3 ⟨rfl, hb3⟩
  have HR3 := Lib.hid (HR.out.below hb3 HR.out.lt)
  have HB3 := Lib.hid (HB.out.trans (hb3.mono HB.out.size))
  clear hb3 HC
  clear n0 n1 n2 n3 n4 n5 n6 n7
  dsimp only
  obtain ⟨r0, r1, r2, r3, r4, r5, r6, r7, r8, r9, r10⟩ := ((HR3.out)).c11r
  obtain ⟨q0, q1, q2, q3, q4, q5, q6, q7, q8, q9, q10⟩ := ((HR3.out)).f11r
  have hlr := (HR3.out).lt
  go_wp2
  refine bodyPost_ret (ret_sum Tryz.results105 rfl (Blk.store11 HR3.out)) rfl ⟨by rw [← HRr.out]; rfl, below_set11 HB3.out (by omega)⟩
set_option maxHeartbeats 4000000 in
theorem of_alt (x : Nd) (P : Nat → Prop) (B : Option Addr) (cap : Nat) (w : World) (hl : x.kids.len ≤ 140737488355328) (ho : ∀ y ∈ x.nodes, aloneN y = true) (ht : TreesAt w P x.kids B) (hG : KidOf x P) (hk : x.kind = 5) : Calls Tryz.prog 105 #[ndV x B cap] w fun e w' => e = .returned (sumV x.sum) ∧ Below w.heap.size w w' := by
  have HV := Lib.hid (sum_alt hk)
  have hb : Below w.heap.size w ((w.alloc (.cells #[.int .i64 x.kind, .int .u64 ((word (x.set.testBit) 0 : Nat) : Int), .int .u64 ((word (x.set.testBit) 1 : Nat) : Int), .int .u64 ((word (x.set.testBit) 2 : Nat) : Int), .int .u64 ((word (x.set.testBit) 3 : Nat) : Int), .slice B x.kids.len cap, .int .i64 x.lo, .int .i64 x.hi] 28)).alloc (.cells #[.bool false, .int .i64 0, .int .i64 0, .int .u64 0, .int .u64 0, .int .u64 0, .int .u64 0, .int .u64 0, .int .u64 0, .int .u64 0, .int .u64 0] 85)) := ((Below.refl _ _).alloc (Nat.le_refl _) _).alloc (by simp) _
  have HB := Lib.hid hb
  have HN := Lib.hid ((Blk.new w 28 #[.int .i64 x.kind, .int .u64 ((word (x.set.testBit) 0 : Nat) : Int), .int .u64 ((word (x.set.testBit) 1 : Nat) : Int), .int .u64 ((word (x.set.testBit) 2 : Nat) : Int), .int .u64 ((word (x.set.testBit) 3 : Nat) : Int), .slice B x.kids.len cap, .int .i64 x.lo, .int .i64 x.hi]).alloc (.cells #[.bool false, .int .i64 0, .int .i64 0, .int .u64 0, .int .u64 0, .int .u64 0, .int .u64 0, .int .u64 0, .int .u64 0, .int .u64 0, .int .u64 0] 85))
  have HR := Lib.hid (show Blk ((w.alloc (.cells #[.int .i64 x.kind, .int .u64 ((word (x.set.testBit) 0 : Nat) : Int), .int .u64 ((word (x.set.testBit) 1 : Nat) : Int), .int .u64 ((word (x.set.testBit) 2 : Nat) : Int), .int .u64 ((word (x.set.testBit) 3 : Nat) : Int), .slice B x.kids.len cap, .int .i64 x.lo, .int .i64 x.hi] 28)).alloc (.cells #[.bool false, .int .i64 0, .int .i64 0, .int .u64 0, .int .u64 0, .int .u64 0, .int .u64 0, .int .u64 0, .int .u64 0, .int .u64 0, .int .u64 0] 85)) (w.heap.size + 1) 85 #[.bool false, .int .i64 0, .int .i64 0, .int .u64 0, .int .u64 0, .int .u64 0, .int .u64 0, .int .u64 0, .int .u64 0, .int .u64 0, .int .u64 0] from Blk.new_at (by simp))
  have HT := Lib.hid (ht.below hb)
  have HG := Lib.hid hG
  have HO := Lib.hid ho
  clear hb ht hG ho
  unfold ndV
  rw [hk] at HN HR HT HB ⊢
  go_enter Tryz.func105, Tryz.ntmps105
  go_upto_region 1 with fail
  generalize ((w.alloc (.cells #[.int .i64 5, .int .u64 ((word (x.set.testBit) 0 : Nat) : Int), .int .u64 ((word (x.set.testBit) 1 : Nat) : Int), .int .u64 ((word (x.set.testBit) 2 : Nat) : Int), .int .u64 ((word (x.set.testBit) 3 : Nat) : Int), .slice B x.kids.len cap, .int .i64 x.lo, .int .i64 x.hi] 28)).alloc (.cells #[.bool false, .int .i64 0, .int .i64 0, .int .u64 0, .int .u64 0, .int .u64 0, .int .u64 0, .int .u64 0, .int .u64 0, .int .u64 0, .int .u64 0] 85)) = w2 at *
  have hs := ok_sums x.kids (fun y hy => HO.out y (by simp [Nd.nodes, hy]))
  have HC := Lib.hid (fun (W : World) (hb : Below w2.heap.size w2 W) => ffold_go 150 eitherF x.kids P B cap nothingF W ok_nothing hl (HT.out.below hb) (fun a b w' _ _ => feither_go a b w') (fun a b => ok_either) HG.out hs (enters_of Tryz.func150 (by kernel_rfl) rfl))
  rw [nothing_val, ← HV.out] at HC
  clear hs
  obtain ⟨n0, n1, n2, n3, n4, n5, n6, n7⟩ := ((HN.out)).c8r
  have hln := (HN.out).lt
  obtain ⟨r, hr⟩ : ∃ r, r = x.sum := ⟨_, rfl⟩
  have HRr := Lib.hid hr
  rw [← hr] at HC
  clear hr
  unfold sumV sumA at HC
  go_upto_region 11 with fail
  have hKl : ∀ b', b' = w.heap.size → b' < w2.heap.size := fun b' h => by rw [h]; exact hln
  refine wp_region_held_drew (S := fun w' => ∀ b' o', b' = w.heap.size → w'.cell? ⟨b', o', none⟩ = w2.cell? ⟨b', o', none⟩) (by kernel_rfl) (KeepP.start (fun b' => b' = w.heap.size) w2) (fun hHeld => ?_)
  refine wpAnyH_take (i := 1) (oi := _) (v := ?_) rfl (by kernel_rfl) (by kernel_rfl) (by kernel_rfl) (fun _ _ _ h => h) (Or.inl ⟨by kernel_rfl, ?_⟩) (by assumption) ?_
  rotate_left
  · intro w hSw
    try dsimp only at hSw
    go_simp
    try (with_reducible rfl)
  try simp only [Act.put, List.getElem_toArray, List.getElem_cons_zero, List.getElem_cons_succ, List.setIfInBounds_toArray, List.set_cons_zero, List.set_cons_succ]
  refine wpAnyH_take (i := 2) (oi := _) (v := ?_) rfl (by kernel_rfl) (by kernel_rfl) (by kernel_rfl) (fun _ _ _ h => h) (Or.inl ⟨by kernel_rfl, ?_⟩) (by assumption) ?_
  rotate_left
  · intro w hSw
    try dsimp only at hSw
    go_simp
    try (with_reducible rfl)
  try simp only [Act.put, List.getElem_toArray, List.getElem_cons_zero, List.getElem_cons_succ, List.setIfInBounds_toArray, List.set_cons_zero, List.set_cons_succ]
  refine wpAnyH_ready (rs := [0]) (by kernel_rfl) (by simp) ?_
  refine AllReadyH.cons (o := _) rfl (fun K hK => ?_) AllReadyH.nil
  go_simp
  go_at_call 147
  refine (nothing_go _).mono ?_
  rintro e w3 ⟨rfl, hb3'⟩
  have hb3 : Below w2.heap.size w2 w3 := (Below.refl _ _).drew.trans hb3'
  have hk3 := KeepP.below (KeepP.start (fun b' => b' = w.heap.size) w2) hb3' hKl
  rw [nothing_val]
  refine hK.out _ _ hk3 (fun _ => ?_)
  clear hK K hHeld hb3'
  try simp only [Act.put, List.getElem_toArray, List.getElem_cons_zero, List.getElem_cons_succ, List.setIfInBounds_toArray, List.set_cons_zero, List.set_cons_succ]
  refine wpAnyH_ready (rs := [3]) (by kernel_rfl) (by simp) ?_
  refine AllReadyH.cons (o := _) rfl (fun K hK => ?_) AllReadyH.nil
  go_simp
  refine (HC.out w3 hb3).mono ?_
  rintro e w4 ⟨rfl, hb4⟩
  have hk4 := KeepP.below hk3 hb4 (fun b' h => Nat.lt_of_lt_of_le (hKl b' h) hb3.size)
  refine hK.out _ _ hk4 (fun _ => ?_)
  clear hK K hk3
  try simp only [Act.put, List.getElem_toArray, List.getElem_cons_zero, List.getElem_cons_succ, List.setIfInBounds_toArray, List.set_cons_zero, List.set_cons_succ]
  have HR3 := Lib.hid ((HR.out.below hb3 HR.out.lt).below hb4 (Nat.lt_of_lt_of_le HR.out.lt hb3.size))
  have HB3 := Lib.hid ((HB.out.trans (hb3.mono HB.out.size)).trans (hb4.mono (by have := HB.out.size; have := hb3.size; omega)))
  clear hb3 hb4 HC
  clear n0 n1 n2 n3 n4 n5 n6 n7
  obtain ⟨r0, r1, r2, r3, r4, r5, r6, r7, r8, r9, r10⟩ := ((HR3.out)).c11r
  obtain ⟨q0, q1, q2, q3, q4, q5, q6, q7, q8, q9, q10⟩ := ((HR3.out)).f11r
  have hlr := (HR3.out).lt
  refine wpAnyH_ready (rs := [4]) (by kernel_rfl) (by simp) ?_
  refine AllReadyH.cons (o := _) rfl (fun K hK => ?_) AllReadyH.nil
  go_simp
  refine hK.out _ _ (KeepP.set11 hk4 (fun b' h e => by omega)) (fun _ => ?_)
  clear hK K
  try simp only [Act.put, List.getElem_toArray, List.getElem_cons_zero, List.getElem_cons_succ, List.setIfInBounds_toArray, List.set_cons_zero, List.set_cons_succ]
  refine wpAnyH_done (by kernel_rfl) ?_ _
  go_wp2
  refine bodyPost_ret (ret_sum Tryz.results105 rfl (Blk.store11 HR3.out)) rfl ⟨by rw [← HRr.out]; rfl, below_set11 HB3.out (by omega)⟩
set_option maxHeartbeats 4000000 in
theorem of_star (x : Nd) (P : Nat → Prop) (B : Option Addr) (cap : Nat) (w : World) (hl : x.kids.len ≤ 140737488355328) (ho : ∀ y ∈ x.nodes, aloneN y = true) (ht : TreesAt w P x.kids B) (hG : KidOf x P) (hk : x.kind = 6) (z : Nd) (hz : x.kids.list[0]? = some z) (hk1 : x.kids.len = 1) : Calls Tryz.prog 105 #[ndV x B cap] w fun e w' => e = .returned (sumV x.sum) ∧ Below w.heap.size w w' := by
  have HK1 := Lib.hid hk1
  clear hk1
  have HV := Lib.hid (sum_star hk hz)
  have hb : Below w.heap.size w ((w.alloc (.cells #[.int .i64 x.kind, .int .u64 ((word (x.set.testBit) 0 : Nat) : Int), .int .u64 ((word (x.set.testBit) 1 : Nat) : Int), .int .u64 ((word (x.set.testBit) 2 : Nat) : Int), .int .u64 ((word (x.set.testBit) 3 : Nat) : Int), .slice B x.kids.len cap, .int .i64 x.lo, .int .i64 x.hi] 28)).alloc (.cells #[.bool false, .int .i64 0, .int .i64 0, .int .u64 0, .int .u64 0, .int .u64 0, .int .u64 0, .int .u64 0, .int .u64 0, .int .u64 0, .int .u64 0] 85)) := ((Below.refl _ _).alloc (Nat.le_refl _) _).alloc (by simp) _
  have HB := Lib.hid hb
  have HN := Lib.hid ((Blk.new w 28 #[.int .i64 x.kind, .int .u64 ((word (x.set.testBit) 0 : Nat) : Int), .int .u64 ((word (x.set.testBit) 1 : Nat) : Int), .int .u64 ((word (x.set.testBit) 2 : Nat) : Int), .int .u64 ((word (x.set.testBit) 3 : Nat) : Int), .slice B x.kids.len cap, .int .i64 x.lo, .int .i64 x.hi]).alloc (.cells #[.bool false, .int .i64 0, .int .i64 0, .int .u64 0, .int .u64 0, .int .u64 0, .int .u64 0, .int .u64 0, .int .u64 0, .int .u64 0, .int .u64 0] 85))
  have HR := Lib.hid (show Blk ((w.alloc (.cells #[.int .i64 x.kind, .int .u64 ((word (x.set.testBit) 0 : Nat) : Int), .int .u64 ((word (x.set.testBit) 1 : Nat) : Int), .int .u64 ((word (x.set.testBit) 2 : Nat) : Int), .int .u64 ((word (x.set.testBit) 3 : Nat) : Int), .slice B x.kids.len cap, .int .i64 x.lo, .int .i64 x.hi] 28)).alloc (.cells #[.bool false, .int .i64 0, .int .i64 0, .int .u64 0, .int .u64 0, .int .u64 0, .int .u64 0, .int .u64 0, .int .u64 0, .int .u64 0, .int .u64 0] 85)) (w.heap.size + 1) 85 #[.bool false, .int .i64 0, .int .i64 0, .int .u64 0, .int .u64 0, .int .u64 0, .int .u64 0, .int .u64 0, .int .u64 0, .int .u64 0, .int .u64 0] from Blk.new_at (by simp))
  have HT := Lib.hid (ht.below hb)
  have HG := Lib.hid hG
  have HO := Lib.hid ho
  clear hb ht hG ho
  unfold ndV
  rw [hk] at HN HR HT HB ⊢
  go_enter Tryz.func105, Tryz.ntmps105
  go_upto_region 1 with fail
  generalize ((w.alloc (.cells #[.int .i64 6, .int .u64 ((word (x.set.testBit) 0 : Nat) : Int), .int .u64 ((word (x.set.testBit) 1 : Nat) : Int), .int .u64 ((word (x.set.testBit) 2 : Nat) : Int), .int .u64 ((word (x.set.testBit) 3 : Nat) : Int), .slice B x.kids.len cap, .int .i64 x.lo, .int .i64 x.hi] 28)).alloc (.cells #[.bool false, .int .i64 0, .int .i64 0, .int .u64 0, .int .u64 0, .int .u64 0, .int .u64 0, .int .u64 0, .int .u64 0, .int .u64 0, .int .u64 0] 85)) = w2 at *
  have hk1 := HK1.out
  have HOz := Lib.hid (ok_sum (x := z) (fun y hy => HO.out y (kid_nodes hz y hy)))
  obtain ⟨b, o, C, capc, rfl, _, _, ⟨c0, c1, c2, c3, c4, c5, c6, c7⟩, hkz⟩ := HT.out.get hz
  simp only [Nat.zero_mul, Nat.add_zero] at c0 c1 c2 c3 c4 c5 c6 c7
  have hblk := World.block_lt_of_cell? w2 _ c0
  have HC := Lib.hid (HG.out 0 z C capc w2 hz hkz)
  have HC2 := Lib.hid (fun W => frepeated_go z.sum 0 endF W HOz.out (by decide) (by decide))
  rw [← HV.out] at HC2
  clear hz hkz
  obtain ⟨n0, n1, n2, n3, n4, n5, n6, n7⟩ := ((HN.out)).c8r
  have hln := (HN.out).lt
  obtain ⟨r, hr⟩ : ∃ r, r = x.sum := ⟨_, rfl⟩
  have HRr := Lib.hid hr
  rw [← hr] at HC2
  clear hr
  generalize z.sum = s at *
  unfold ndV sumV sumA at HC
  unfold sumV sumA at HC2
  try unfold endF at HC2
  go_wp2_with fail
  refine HC.out.mono ?_
  rintro e w3 ⟨rfl, hb3⟩
  clear HC c0 c1 c2 c3 c4 c5 c6 c7 hblk
  clear n0 n1 n2 n3 n4 n5 n6 n7
  dsimp only
  go_wp2_with fail
  refine (HC2.out w3).mono ?_
  rintro e w4 ⟨rfl, hb4⟩
  have HR3 := Lib.hid ((HR.out.below hb3 HR.out.lt).below hb4 (Nat.lt_of_lt_of_le HR.out.lt hb3.size))
  have HB3 := Lib.hid ((HB.out.trans (hb3.mono HB.out.size)).trans (hb4.mono (by have := HB.out.size; have := hb3.size; omega)))
  clear hb3 hb4 HC2
  dsimp only
  obtain ⟨r0, r1, r2, r3, r4, r5, r6, r7, r8, r9, r10⟩ := ((HR3.out)).c11r
  obtain ⟨q0, q1, q2, q3, q4, q5, q6, q7, q8, q9, q10⟩ := ((HR3.out)).f11r
  have hlr := (HR3.out).lt
  go_wp2
  refine bodyPost_ret (ret_sum Tryz.results105 rfl (Blk.store11 HR3.out)) rfl ⟨by rw [← HRr.out]; rfl, below_set11 HB3.out (by omega)⟩
set_option maxHeartbeats 4000000 in
theorem of_plus (x : Nd) (P : Nat → Prop) (B : Option Addr) (cap : Nat) (w : World) (hl : x.kids.len ≤ 140737488355328) (ho : ∀ y ∈ x.nodes, aloneN y = true) (ht : TreesAt w P x.kids B) (hG : KidOf x P) (hk : x.kind = 7) (z : Nd) (hz : x.kids.list[0]? = some z) (hk1 : x.kids.len = 1) : Calls Tryz.prog 105 #[ndV x B cap] w fun e w' => e = .returned (sumV x.sum) ∧ Below w.heap.size w w' := by
  have HK1 := Lib.hid hk1
  clear hk1
  have HV := Lib.hid (sum_plus hk hz)
  have hb : Below w.heap.size w ((w.alloc (.cells #[.int .i64 x.kind, .int .u64 ((word (x.set.testBit) 0 : Nat) : Int), .int .u64 ((word (x.set.testBit) 1 : Nat) : Int), .int .u64 ((word (x.set.testBit) 2 : Nat) : Int), .int .u64 ((word (x.set.testBit) 3 : Nat) : Int), .slice B x.kids.len cap, .int .i64 x.lo, .int .i64 x.hi] 28)).alloc (.cells #[.bool false, .int .i64 0, .int .i64 0, .int .u64 0, .int .u64 0, .int .u64 0, .int .u64 0, .int .u64 0, .int .u64 0, .int .u64 0, .int .u64 0] 85)) := ((Below.refl _ _).alloc (Nat.le_refl _) _).alloc (by simp) _
  have HB := Lib.hid hb
  have HN := Lib.hid ((Blk.new w 28 #[.int .i64 x.kind, .int .u64 ((word (x.set.testBit) 0 : Nat) : Int), .int .u64 ((word (x.set.testBit) 1 : Nat) : Int), .int .u64 ((word (x.set.testBit) 2 : Nat) : Int), .int .u64 ((word (x.set.testBit) 3 : Nat) : Int), .slice B x.kids.len cap, .int .i64 x.lo, .int .i64 x.hi]).alloc (.cells #[.bool false, .int .i64 0, .int .i64 0, .int .u64 0, .int .u64 0, .int .u64 0, .int .u64 0, .int .u64 0, .int .u64 0, .int .u64 0, .int .u64 0] 85))
  have HR := Lib.hid (show Blk ((w.alloc (.cells #[.int .i64 x.kind, .int .u64 ((word (x.set.testBit) 0 : Nat) : Int), .int .u64 ((word (x.set.testBit) 1 : Nat) : Int), .int .u64 ((word (x.set.testBit) 2 : Nat) : Int), .int .u64 ((word (x.set.testBit) 3 : Nat) : Int), .slice B x.kids.len cap, .int .i64 x.lo, .int .i64 x.hi] 28)).alloc (.cells #[.bool false, .int .i64 0, .int .i64 0, .int .u64 0, .int .u64 0, .int .u64 0, .int .u64 0, .int .u64 0, .int .u64 0, .int .u64 0, .int .u64 0] 85)) (w.heap.size + 1) 85 #[.bool false, .int .i64 0, .int .i64 0, .int .u64 0, .int .u64 0, .int .u64 0, .int .u64 0, .int .u64 0, .int .u64 0, .int .u64 0, .int .u64 0] from Blk.new_at (by simp))
  have HT := Lib.hid (ht.below hb)
  have HG := Lib.hid hG
  have HO := Lib.hid ho
  clear hb ht hG ho
  unfold ndV
  rw [hk] at HN HR HT HB ⊢
  go_enter Tryz.func105, Tryz.ntmps105
  go_upto_region 1 with fail
  generalize ((w.alloc (.cells #[.int .i64 7, .int .u64 ((word (x.set.testBit) 0 : Nat) : Int), .int .u64 ((word (x.set.testBit) 1 : Nat) : Int), .int .u64 ((word (x.set.testBit) 2 : Nat) : Int), .int .u64 ((word (x.set.testBit) 3 : Nat) : Int), .slice B x.kids.len cap, .int .i64 x.lo, .int .i64 x.hi] 28)).alloc (.cells #[.bool false, .int .i64 0, .int .i64 0, .int .u64 0, .int .u64 0, .int .u64 0, .int .u64 0, .int .u64 0, .int .u64 0, .int .u64 0, .int .u64 0] 85)) = w2 at *
  have hk1 := HK1.out
  have HOz := Lib.hid (ok_sum (x := z) (fun y hy => HO.out y (kid_nodes hz y hy)))
  obtain ⟨b, o, C, capc, rfl, _, _, ⟨c0, c1, c2, c3, c4, c5, c6, c7⟩, hkz⟩ := HT.out.get hz
  simp only [Nat.zero_mul, Nat.add_zero] at c0 c1 c2 c3 c4 c5 c6 c7
  have hblk := World.block_lt_of_cell? w2 _ c0
  have HC := Lib.hid (HG.out 0 z C capc w2 hz hkz)
  have HC2 := Lib.hid (fun W => frepeated_go z.sum 1 endF W HOz.out (by decide) (by decide))
  rw [← HV.out] at HC2
  clear hz hkz
  obtain ⟨n0, n1, n2, n3, n4, n5, n6, n7⟩ := ((HN.out)).c8r
  have hln := (HN.out).lt
  obtain ⟨r, hr⟩ : ∃ r, r = x.sum := ⟨_, rfl⟩
  have HRr := Lib.hid hr
  rw [← hr] at HC2
  clear hr
  generalize z.sum = s at *
  unfold ndV sumV sumA at HC
  unfold sumV sumA at HC2
  try unfold endF at HC2
  go_wp2_with fail
  refine HC.out.mono ?_
  rintro e w3 ⟨rfl, hb3⟩
  clear HC c0 c1 c2 c3 c4 c5 c6 c7 hblk
  clear n0 n1 n2 n3 n4 n5 n6 n7
  dsimp only
  go_wp2_with fail
  refine (HC2.out w3).mono ?_
  rintro e w4 ⟨rfl, hb4⟩
  have HR3 := Lib.hid ((HR.out.below hb3 HR.out.lt).below hb4 (Nat.lt_of_lt_of_le HR.out.lt hb3.size))
  have HB3 := Lib.hid ((HB.out.trans (hb3.mono HB.out.size)).trans (hb4.mono (by have := HB.out.size; have := hb3.size; omega)))
  clear hb3 hb4 HC2
  dsimp only
  obtain ⟨r0, r1, r2, r3, r4, r5, r6, r7, r8, r9, r10⟩ := ((HR3.out)).c11r
  obtain ⟨q0, q1, q2, q3, q4, q5, q6, q7, q8, q9, q10⟩ := ((HR3.out)).f11r
  have hlr := (HR3.out).lt
  go_wp2
  refine bodyPost_ret (ret_sum Tryz.results105 rfl (Blk.store11 HR3.out)) rfl ⟨by rw [← HRr.out]; rfl, below_set11 HB3.out (by omega)⟩
set_option maxHeartbeats 4000000 in
theorem of_opt (x : Nd) (P : Nat → Prop) (B : Option Addr) (cap : Nat) (w : World) (hl : x.kids.len ≤ 140737488355328) (ho : ∀ y ∈ x.nodes, aloneN y = true) (ht : TreesAt w P x.kids B) (hG : KidOf x P) (hk : x.kind = 8) (z : Nd) (hz : x.kids.list[0]? = some z) (hk1 : x.kids.len = 1) : Calls Tryz.prog 105 #[ndV x B cap] w fun e w' => e = .returned (sumV x.sum) ∧ Below w.heap.size w w' := by
  have HK1 := Lib.hid hk1
  clear hk1
  have HV := Lib.hid (sum_opt hk hz)
  have hb : Below w.heap.size w ((w.alloc (.cells #[.int .i64 x.kind, .int .u64 ((word (x.set.testBit) 0 : Nat) : Int), .int .u64 ((word (x.set.testBit) 1 : Nat) : Int), .int .u64 ((word (x.set.testBit) 2 : Nat) : Int), .int .u64 ((word (x.set.testBit) 3 : Nat) : Int), .slice B x.kids.len cap, .int .i64 x.lo, .int .i64 x.hi] 28)).alloc (.cells #[.bool false, .int .i64 0, .int .i64 0, .int .u64 0, .int .u64 0, .int .u64 0, .int .u64 0, .int .u64 0, .int .u64 0, .int .u64 0, .int .u64 0] 85)) := ((Below.refl _ _).alloc (Nat.le_refl _) _).alloc (by simp) _
  have HB := Lib.hid hb
  have HN := Lib.hid ((Blk.new w 28 #[.int .i64 x.kind, .int .u64 ((word (x.set.testBit) 0 : Nat) : Int), .int .u64 ((word (x.set.testBit) 1 : Nat) : Int), .int .u64 ((word (x.set.testBit) 2 : Nat) : Int), .int .u64 ((word (x.set.testBit) 3 : Nat) : Int), .slice B x.kids.len cap, .int .i64 x.lo, .int .i64 x.hi]).alloc (.cells #[.bool false, .int .i64 0, .int .i64 0, .int .u64 0, .int .u64 0, .int .u64 0, .int .u64 0, .int .u64 0, .int .u64 0, .int .u64 0, .int .u64 0] 85))
  have HR := Lib.hid (show Blk ((w.alloc (.cells #[.int .i64 x.kind, .int .u64 ((word (x.set.testBit) 0 : Nat) : Int), .int .u64 ((word (x.set.testBit) 1 : Nat) : Int), .int .u64 ((word (x.set.testBit) 2 : Nat) : Int), .int .u64 ((word (x.set.testBit) 3 : Nat) : Int), .slice B x.kids.len cap, .int .i64 x.lo, .int .i64 x.hi] 28)).alloc (.cells #[.bool false, .int .i64 0, .int .i64 0, .int .u64 0, .int .u64 0, .int .u64 0, .int .u64 0, .int .u64 0, .int .u64 0, .int .u64 0, .int .u64 0] 85)) (w.heap.size + 1) 85 #[.bool false, .int .i64 0, .int .i64 0, .int .u64 0, .int .u64 0, .int .u64 0, .int .u64 0, .int .u64 0, .int .u64 0, .int .u64 0, .int .u64 0] from Blk.new_at (by simp))
  have HT := Lib.hid (ht.below hb)
  have HG := Lib.hid hG
  have HO := Lib.hid ho
  clear hb ht hG ho
  unfold ndV
  rw [hk] at HN HR HT HB ⊢
  go_enter Tryz.func105, Tryz.ntmps105
  go_upto_region 1 with fail
  generalize ((w.alloc (.cells #[.int .i64 8, .int .u64 ((word (x.set.testBit) 0 : Nat) : Int), .int .u64 ((word (x.set.testBit) 1 : Nat) : Int), .int .u64 ((word (x.set.testBit) 2 : Nat) : Int), .int .u64 ((word (x.set.testBit) 3 : Nat) : Int), .slice B x.kids.len cap, .int .i64 x.lo, .int .i64 x.hi] 28)).alloc (.cells #[.bool false, .int .i64 0, .int .i64 0, .int .u64 0, .int .u64 0, .int .u64 0, .int .u64 0, .int .u64 0, .int .u64 0, .int .u64 0, .int .u64 0] 85)) = w2 at *
  have hk1 := HK1.out
  have HOz := Lib.hid (ok_sum (x := z) (fun y hy => HO.out y (kid_nodes hz y hy)))
  obtain ⟨b, o, C, capc, rfl, _, _, ⟨c0, c1, c2, c3, c4, c5, c6, c7⟩, hkz⟩ := HT.out.get hz
  simp only [Nat.zero_mul, Nat.add_zero] at c0 c1 c2 c3 c4 c5 c6 c7
  have hblk := World.block_lt_of_cell? w2 _ c0
  have HC := Lib.hid (HG.out 0 z C capc w2 hz hkz)
  have HC2 := Lib.hid (fun W => frepeated_go z.sum 0 1 W HOz.out (by decide) (by decide))
  rw [← HV.out] at HC2
  clear hz hkz
  obtain ⟨n0, n1, n2, n3, n4, n5, n6, n7⟩ := ((HN.out)).c8r
  have hln := (HN.out).lt
  obtain ⟨r, hr⟩ : ∃ r, r = x.sum := ⟨_, rfl⟩
  have HRr := Lib.hid hr
  rw [← hr] at HC2
  clear hr
  generalize z.sum = s at *
  unfold ndV sumV sumA at HC
  unfold sumV sumA at HC2
  try unfold endF at HC2
  go_wp2_with fail
  refine HC.out.mono ?_
  rintro e w3 ⟨rfl, hb3⟩
  clear HC c0 c1 c2 c3 c4 c5 c6 c7 hblk
  clear n0 n1 n2 n3 n4 n5 n6 n7
  dsimp only
  go_wp2_with fail
  refine (HC2.out w3).mono ?_
  rintro e w4 ⟨rfl, hb4⟩
  have HR3 := Lib.hid ((HR.out.below hb3 HR.out.lt).below hb4 (Nat.lt_of_lt_of_le HR.out.lt hb3.size))
  have HB3 := Lib.hid ((HB.out.trans (hb3.mono HB.out.size)).trans (hb4.mono (by have := HB.out.size; have := hb3.size; omega)))
  clear hb3 hb4 HC2
  dsimp only
  obtain ⟨r0, r1, r2, r3, r4, r5, r6, r7, r8, r9, r10⟩ := ((HR3.out)).c11r
  obtain ⟨q0, q1, q2, q3, q4, q5, q6, q7, q8, q9, q10⟩ := ((HR3.out)).f11r
  have hlr := (HR3.out).lt
  go_wp2
  refine bodyPost_ret (ret_sum Tryz.results105 rfl (Blk.store11 HR3.out)) rfl ⟨by rw [← HRr.out]; rfl, below_set11 HB3.out (by omega)⟩
set_option maxHeartbeats 4000000 in
theorem of_rep1 (x : Nd) (P : Nat → Prop) (B : Option Addr) (cap : Nat) (w : World) (hl : x.kids.len ≤ 140737488355328) (ho : ∀ y ∈ x.nodes, aloneN y = true) (ht : TreesAt w P x.kids B) (hG : KidOf x P) (hk : x.kind = 9) (z : Nd) (hz : x.kids.list[0]? = some z) (hk1 : x.kids.len = 1) (hh : x.hi < 0) (hPb : ∀ b, P b → b < w.heap.size) : Calls Tryz.prog 105 #[ndV x B cap] w fun e w' => e = .returned (sumV x.sum) ∧ Below w.heap.size w w' := by
  have HK1 := Lib.hid hk1
  clear hk1
  have HV := Lib.hid (show x.sum = repeatedF z.sum x.lo endF by rw [sum_rep hk hz]; unfold hiF; rw [if_pos hh])
  have hnum := nine_of (ho x (self_nodes x)) hk
  have hb : Below w.heap.size w ((w.alloc (.cells #[.int .i64 x.kind, .int .u64 ((word (x.set.testBit) 0 : Nat) : Int), .int .u64 ((word (x.set.testBit) 1 : Nat) : Int), .int .u64 ((word (x.set.testBit) 2 : Nat) : Int), .int .u64 ((word (x.set.testBit) 3 : Nat) : Int), .slice B x.kids.len cap, .int .i64 x.lo, .int .i64 x.hi] 28)).alloc (.cells #[.bool false, .int .i64 0, .int .i64 0, .int .u64 0, .int .u64 0, .int .u64 0, .int .u64 0, .int .u64 0, .int .u64 0, .int .u64 0, .int .u64 0] 85)) := ((Below.refl _ _).alloc (Nat.le_refl _) _).alloc (by simp) _
  have HB := Lib.hid hb
  have HN := Lib.hid ((Blk.new w 28 #[.int .i64 x.kind, .int .u64 ((word (x.set.testBit) 0 : Nat) : Int), .int .u64 ((word (x.set.testBit) 1 : Nat) : Int), .int .u64 ((word (x.set.testBit) 2 : Nat) : Int), .int .u64 ((word (x.set.testBit) 3 : Nat) : Int), .slice B x.kids.len cap, .int .i64 x.lo, .int .i64 x.hi]).alloc (.cells #[.bool false, .int .i64 0, .int .i64 0, .int .u64 0, .int .u64 0, .int .u64 0, .int .u64 0, .int .u64 0, .int .u64 0, .int .u64 0, .int .u64 0] 85))
  have HR := Lib.hid (show Blk ((w.alloc (.cells #[.int .i64 x.kind, .int .u64 ((word (x.set.testBit) 0 : Nat) : Int), .int .u64 ((word (x.set.testBit) 1 : Nat) : Int), .int .u64 ((word (x.set.testBit) 2 : Nat) : Int), .int .u64 ((word (x.set.testBit) 3 : Nat) : Int), .slice B x.kids.len cap, .int .i64 x.lo, .int .i64 x.hi] 28)).alloc (.cells #[.bool false, .int .i64 0, .int .i64 0, .int .u64 0, .int .u64 0, .int .u64 0, .int .u64 0, .int .u64 0, .int .u64 0, .int .u64 0, .int .u64 0] 85)) (w.heap.size + 1) 85 #[.bool false, .int .i64 0, .int .i64 0, .int .u64 0, .int .u64 0, .int .u64 0, .int .u64 0, .int .u64 0, .int .u64 0, .int .u64 0, .int .u64 0] from Blk.new_at (by simp))
  have HT := Lib.hid (ht.below hb)
  have HG := Lib.hid hG
  have HO := Lib.hid ho
  clear hb ht hG ho
  unfold ndV
  rw [hk] at HN HR HT HB ⊢
  go_enter Tryz.func105, Tryz.ntmps105
  go_upto_region 1 with fail
  generalize ((w.alloc (.cells #[.int .i64 9, .int .u64 ((word (x.set.testBit) 0 : Nat) : Int), .int .u64 ((word (x.set.testBit) 1 : Nat) : Int), .int .u64 ((word (x.set.testBit) 2 : Nat) : Int), .int .u64 ((word (x.set.testBit) 3 : Nat) : Int), .slice B x.kids.len cap, .int .i64 x.lo, .int .i64 x.hi] 28)).alloc (.cells #[.bool false, .int .i64 0, .int .i64 0, .int .u64 0, .int .u64 0, .int .u64 0, .int .u64 0, .int .u64 0, .int .u64 0, .int .u64 0, .int .u64 0] 85)) = w2 at *
  have hk1 := HK1.out
  have HOz := Lib.hid (ok_sum (x := z) (fun y hy => HO.out y (kid_nodes hz y hy)))
  obtain ⟨b, o, C, capc, rfl, hbP, _, ⟨c0, c1, c2, c3, c4, c5, c6, c7⟩, hkz⟩ := HT.out.get hz
  simp only [Nat.zero_mul, Nat.add_zero] at c0 c1 c2 c3 c4 c5 c6 c7
  have hblk := World.block_lt_of_cell? w2 _ c0
  have HNb := Lib.hid (show b ≠ w.heap.size + 1 by have := hPb b hbP; omega)
  have HC := Lib.hid (fun (W : World) (hq : TreesAt W P z.kids C) => HG.out 0 z C capc W hz hq)
  have HC2 := Lib.hid (fun W => frepeated_go z.sum x.lo endF W HOz.out (by unfold endF; omega) (by unfold endF; omega))
  rw [← HV.out] at HC2
  clear hz hnum hPb hbP
  obtain ⟨n0, n1, n2, n3, n4, n5, n6, n7⟩ := ((HN.out)).c8r
  have hln := (HN.out).lt
  have hd : x.hi < 0 := hh
  clear hh
  obtain ⟨r, hr⟩ : ∃ r, r = x.sum := ⟨_, rfl⟩
  have HRr := Lib.hid hr
  rw [← hr] at HC2
  clear hr
  generalize z.sum = s at *
  unfold ndV sumV sumA at HC
  unfold sumV sumA endF at HC2
  go_upto_region 22 with fail
  have hlb : b < w2.heap.size := hblk
  have hKl := two_of (Q := fun b => b < w2.heap.size) hln hlb
  refine wp_region_held_drew (S := fun w' => ∀ b' o', b' = w.heap.size ∨ b' = b → w'.cell? ⟨b', o', none⟩ = w2.cell? ⟨b', o', none⟩) (by kernel_rfl) (KeepP.start (fun b' => b' = w.heap.size ∨ b' = b) w2) (fun hHeld => ?_)
  refine wpAnyH_take (i := 0) (oi := _) (v := ?_) rfl (by kernel_rfl) (by kernel_rfl) (by kernel_rfl) (fun _ _ _ h => h) (Or.inl ⟨by kernel_rfl, ?_⟩) (by assumption) ?_
  rotate_left
  · intro w hSw
    try dsimp only at hSw
    go_simp
    try (with_reducible rfl)
  try simp only [Act.put, List.getElem_toArray, List.getElem_cons_zero, List.getElem_cons_succ, List.setIfInBounds_toArray, List.set_cons_zero, List.set_cons_succ]
  refine wpAnyH_take (i := 1) (oi := _) (v := ?_) rfl (by kernel_rfl) (by kernel_rfl) (by kernel_rfl) (fun _ _ _ h => h) (Or.inl ⟨by kernel_rfl, ?_⟩) (by assumption) ?_
  rotate_left
  · intro w hSw
    try dsimp only at hSw
    go_simp
    try (with_reducible rfl)
  try simp only [Act.put, List.getElem_toArray, List.getElem_cons_zero, List.getElem_cons_succ, List.setIfInBounds_toArray, List.set_cons_zero, List.set_cons_succ]
  refine wpAnyH_take (i := 2) (oi := _) (v := ?_) rfl (by kernel_rfl) (by kernel_rfl) (by kernel_rfl) (fun _ _ _ h => h) (Or.inl ⟨by kernel_rfl, ?_⟩) (by assumption) ?_
  rotate_left
  · intro w hSw
    try dsimp only at hSw
    go_simp
    try (with_reducible rfl)
  try simp only [Act.put, List.getElem_toArray, List.getElem_cons_zero, List.getElem_cons_succ, List.setIfInBounds_toArray, List.set_cons_zero, List.set_cons_succ]
  refine wpAnyH_take (i := 3) (oi := _) (v := ?_) rfl (by kernel_rfl) (by kernel_rfl) (by kernel_rfl) (fun _ _ _ h => h) (Or.inl ⟨by kernel_rfl, ?_⟩) (by assumption) ?_
  rotate_left
  · intro w hSw
    try dsimp only at hSw
    go_simp
    try (with_reducible rfl)
  try simp only [Act.put, List.getElem_toArray, List.getElem_cons_zero, List.getElem_cons_succ, List.setIfInBounds_toArray, List.set_cons_zero, List.set_cons_succ]
  refine wpAnyH_take (i := 5) (oi := _) (v := ?_) rfl (by kernel_rfl) (by kernel_rfl) (by kernel_rfl) (fun _ _ _ h => h) (Or.inl ⟨by kernel_rfl, ?_⟩) (by assumption) ?_
  rotate_left
  · intro w hSw
    try dsimp only at hSw
    go_simp
    try (with_reducible rfl)
  try simp only [Act.put, List.getElem_toArray, List.getElem_cons_zero, List.getElem_cons_succ, List.setIfInBounds_toArray, List.set_cons_zero, List.set_cons_succ]
  refine wpAnyH_take (i := 6) (oi := _) (v := ?_) rfl (by kernel_rfl) (by kernel_rfl) (by kernel_rfl) (fun _ _ _ h => h) (Or.inl ⟨by kernel_rfl, ?_⟩) (by assumption) ?_
  rotate_left
  · intro w hSw
    try dsimp only at hSw
    go_simp
    try (with_reducible rfl)
  try simp only [Act.put, List.getElem_toArray, List.getElem_cons_zero, List.getElem_cons_succ, List.setIfInBounds_toArray, List.set_cons_zero, List.set_cons_succ]
  refine wpAnyH_take (i := 7) (oi := _) (v := ?_) rfl (by kernel_rfl) (by kernel_rfl) (by kernel_rfl) (fun _ _ _ h => h) (Or.inl ⟨by kernel_rfl, ?_⟩) (by assumption) ?_
  rotate_left
  · intro w hSw
    try dsimp only at hSw
    go_simp
    try (with_reducible rfl)
  try simp only [Act.put, List.getElem_toArray, List.getElem_cons_zero, List.getElem_cons_succ, List.setIfInBounds_toArray, List.set_cons_zero, List.set_cons_succ]
  refine wpAnyH_ready (rs := [4]) (by kernel_rfl) (by simp) ?_
  refine AllReadyH.cons (o := _) rfl (fun K hK => ?_) AllReadyH.nil
  go_simp
  go_at_call 105
  refine (HC.out w2.drew (hkz.below (Below.refl _ _).drew)).mono ?_
  rintro e w3 ⟨rfl, hb3'⟩
  have hb3 : Below w2.heap.size w2 w3 := (Below.refl _ _).drew.trans hb3'
  have hk3 := KeepP.below (KeepP.start (fun b' => b' = w.heap.size ∨ b' = b) w2) hb3' hKl
  refine hK.out _ _ hk3 (fun _ => ?_)
  clear hK K hHeld hb3'
  try simp only [Act.put, List.getElem_toArray, List.getElem_cons_zero, List.getElem_cons_succ, List.setIfInBounds_toArray, List.set_cons_zero, List.set_cons_succ]
  refine wpAnyH_ready (rs := [8]) (by kernel_rfl) (by simp) ?_
  refine AllReadyH.cons (o := _) rfl (fun K hK => ?_) AllReadyH.nil
  go_simp
  refine (HC2.out w3).mono ?_
  rintro e w4 ⟨rfl, hb4⟩
  have hk4 := KeepP.below hk3 hb4 (fun b' h => Nat.lt_of_lt_of_le (hKl b' h) hb3.size)
  refine hK.out _ _ hk4 (fun _ => ?_)
  clear hK K hk3
  try simp only [Act.put, List.getElem_toArray, List.getElem_cons_zero, List.getElem_cons_succ, List.setIfInBounds_toArray, List.set_cons_zero, List.set_cons_succ]
  have HR3 := Lib.hid ((HR.out.below hb3 HR.out.lt).below hb4 (Nat.lt_of_lt_of_le HR.out.lt hb3.size))
  have HB3 := Lib.hid ((HB.out.trans (hb3.mono HB.out.size)).trans (hb4.mono (by have := HB.out.size; have := hb3.size; omega)))
  have hlb1 : b ≠ w.heap.size + 1 := HNb.out
  clear hb3 hb4 HC HC2 c0 c1 c2 c3 c4 c5 c6 c7 hblk
  clear n0 n1 n2 n3 n4 n5 n6 n7
  obtain ⟨r0, r1, r2, r3, r4, r5, r6, r7, r8, r9, r10⟩ := ((HR3.out)).c11r
  obtain ⟨q0, q1, q2, q3, q4, q5, q6, q7, q8, q9, q10⟩ := ((HR3.out)).f11r
  have hlr := (HR3.out).lt
  refine wpAnyH_ready (rs := [9]) (by kernel_rfl) (by simp) ?_
  refine AllReadyH.cons (o := _) rfl (fun K hK => ?_) AllReadyH.nil
  go_simp
  refine hK.out _ _ (KeepP.set11 hk4 (two_of (Q := fun b => b ≠ w.heap.size + 1) (by omega) hlb1)) (fun _ => ?_)
  clear hK K
  try simp only [Act.put, List.getElem_toArray, List.getElem_cons_zero, List.getElem_cons_succ, List.setIfInBounds_toArray, List.set_cons_zero, List.set_cons_succ]
  refine wpAnyH_done (by kernel_rfl) ?_ _
  go_wp2
  refine bodyPost_ret (ret_sum Tryz.results105 rfl (Blk.store11 HR3.out)) rfl ⟨by rw [← HRr.out]; rfl, below_set11 HB3.out (by omega)⟩
set_option maxHeartbeats 4000000 in
theorem of_rep2 (x : Nd) (P : Nat → Prop) (B : Option Addr) (cap : Nat) (w : World) (hl : x.kids.len ≤ 140737488355328) (ho : ∀ y ∈ x.nodes, aloneN y = true) (ht : TreesAt w P x.kids B) (hG : KidOf x P) (hk : x.kind = 9) (z : Nd) (hz : x.kids.list[0]? = some z) (hk1 : x.kids.len = 1) (hh : 0 ≤ x.hi) (hPb : ∀ b, P b → b < w.heap.size) : Calls Tryz.prog 105 #[ndV x B cap] w fun e w' => e = .returned (sumV x.sum) ∧ Below w.heap.size w w' := by
  have HK1 := Lib.hid hk1
  clear hk1
  have HV := Lib.hid (show x.sum = repeatedF z.sum x.lo x.hi by rw [sum_rep hk hz]; unfold hiF; rw [if_neg (by omega)])
  have hnum := nine_of (ho x (self_nodes x)) hk
  have hb : Below w.heap.size w ((w.alloc (.cells #[.int .i64 x.kind, .int .u64 ((word (x.set.testBit) 0 : Nat) : Int), .int .u64 ((word (x.set.testBit) 1 : Nat) : Int), .int .u64 ((word (x.set.testBit) 2 : Nat) : Int), .int .u64 ((word (x.set.testBit) 3 : Nat) : Int), .slice B x.kids.len cap, .int .i64 x.lo, .int .i64 x.hi] 28)).alloc (.cells #[.bool false, .int .i64 0, .int .i64 0, .int .u64 0, .int .u64 0, .int .u64 0, .int .u64 0, .int .u64 0, .int .u64 0, .int .u64 0, .int .u64 0] 85)) := ((Below.refl _ _).alloc (Nat.le_refl _) _).alloc (by simp) _
  have HB := Lib.hid hb
  have HN := Lib.hid ((Blk.new w 28 #[.int .i64 x.kind, .int .u64 ((word (x.set.testBit) 0 : Nat) : Int), .int .u64 ((word (x.set.testBit) 1 : Nat) : Int), .int .u64 ((word (x.set.testBit) 2 : Nat) : Int), .int .u64 ((word (x.set.testBit) 3 : Nat) : Int), .slice B x.kids.len cap, .int .i64 x.lo, .int .i64 x.hi]).alloc (.cells #[.bool false, .int .i64 0, .int .i64 0, .int .u64 0, .int .u64 0, .int .u64 0, .int .u64 0, .int .u64 0, .int .u64 0, .int .u64 0, .int .u64 0] 85))
  have HR := Lib.hid (show Blk ((w.alloc (.cells #[.int .i64 x.kind, .int .u64 ((word (x.set.testBit) 0 : Nat) : Int), .int .u64 ((word (x.set.testBit) 1 : Nat) : Int), .int .u64 ((word (x.set.testBit) 2 : Nat) : Int), .int .u64 ((word (x.set.testBit) 3 : Nat) : Int), .slice B x.kids.len cap, .int .i64 x.lo, .int .i64 x.hi] 28)).alloc (.cells #[.bool false, .int .i64 0, .int .i64 0, .int .u64 0, .int .u64 0, .int .u64 0, .int .u64 0, .int .u64 0, .int .u64 0, .int .u64 0, .int .u64 0] 85)) (w.heap.size + 1) 85 #[.bool false, .int .i64 0, .int .i64 0, .int .u64 0, .int .u64 0, .int .u64 0, .int .u64 0, .int .u64 0, .int .u64 0, .int .u64 0, .int .u64 0] from Blk.new_at (by simp))
  have HT := Lib.hid (ht.below hb)
  have HG := Lib.hid hG
  have HO := Lib.hid ho
  clear hb ht hG ho
  unfold ndV
  rw [hk] at HN HR HT HB ⊢
  go_enter Tryz.func105, Tryz.ntmps105
  go_upto_region 1 with fail
  generalize ((w.alloc (.cells #[.int .i64 9, .int .u64 ((word (x.set.testBit) 0 : Nat) : Int), .int .u64 ((word (x.set.testBit) 1 : Nat) : Int), .int .u64 ((word (x.set.testBit) 2 : Nat) : Int), .int .u64 ((word (x.set.testBit) 3 : Nat) : Int), .slice B x.kids.len cap, .int .i64 x.lo, .int .i64 x.hi] 28)).alloc (.cells #[.bool false, .int .i64 0, .int .i64 0, .int .u64 0, .int .u64 0, .int .u64 0, .int .u64 0, .int .u64 0, .int .u64 0, .int .u64 0, .int .u64 0] 85)) = w2 at *
  have hk1 := HK1.out
  have HOz := Lib.hid (ok_sum (x := z) (fun y hy => HO.out y (kid_nodes hz y hy)))
  obtain ⟨b, o, C, capc, rfl, hbP, _, ⟨c0, c1, c2, c3, c4, c5, c6, c7⟩, hkz⟩ := HT.out.get hz
  simp only [Nat.zero_mul, Nat.add_zero] at c0 c1 c2 c3 c4 c5 c6 c7
  have hblk := World.block_lt_of_cell? w2 _ c0
  have HNb := Lib.hid (show b ≠ w.heap.size + 1 by have := hPb b hbP; omega)
  have HC := Lib.hid (fun (W : World) (hq : TreesAt W P z.kids C) => HG.out 0 z C capc W hz hq)
  have HC2 := Lib.hid (fun W => frepeated_go z.sum x.lo x.hi W HOz.out (by unfold endF; omega) (by unfold endF; omega))
  rw [← HV.out] at HC2
  clear hz hnum hPb hbP
  obtain ⟨n0, n1, n2, n3, n4, n5, n6, n7⟩ := ((HN.out)).c8r
  have hln := (HN.out).lt
  have hd : ¬ x.hi < 0 := by omega
  clear hh
  obtain ⟨r, hr⟩ : ∃ r, r = x.sum := ⟨_, rfl⟩
  have HRr := Lib.hid hr
  rw [← hr] at HC2
  clear hr
  generalize z.sum = s at *
  unfold ndV sumV sumA at HC
  unfold sumV sumA at HC2
  go_upto_region 22 with fail
  have hlb : b < w2.heap.size := hblk
  have hKl := two_of (Q := fun b => b < w2.heap.size) hln hlb
  refine wp_region_held_drew (S := fun w' => ∀ b' o', b' = w.heap.size ∨ b' = b → w'.cell? ⟨b', o', none⟩ = w2.cell? ⟨b', o', none⟩) (by kernel_rfl) (KeepP.start (fun b' => b' = w.heap.size ∨ b' = b) w2) (fun hHeld => ?_)
  refine wpAnyH_take (i := 0) (oi := _) (v := ?_) rfl (by kernel_rfl) (by kernel_rfl) (by kernel_rfl) (fun _ _ _ h => h) (Or.inl ⟨by kernel_rfl, ?_⟩) (by assumption) ?_
  rotate_left
  · intro w hSw
    try dsimp only at hSw
    go_simp
    try (with_reducible rfl)
  try simp only [Act.put, List.getElem_toArray, List.getElem_cons_zero, List.getElem_cons_succ, List.setIfInBounds_toArray, List.set_cons_zero, List.set_cons_succ]
  refine wpAnyH_take (i := 1) (oi := _) (v := ?_) rfl (by kernel_rfl) (by kernel_rfl) (by kernel_rfl) (fun _ _ _ h => h) (Or.inl ⟨by kernel_rfl, ?_⟩) (by assumption) ?_
  rotate_left
  · intro w hSw
    try dsimp only at hSw
    go_simp
    try (with_reducible rfl)
  try simp only [Act.put, List.getElem_toArray, List.getElem_cons_zero, List.getElem_cons_succ, List.setIfInBounds_toArray, List.set_cons_zero, List.set_cons_succ]
  refine wpAnyH_take (i := 2) (oi := _) (v := ?_) rfl (by kernel_rfl) (by kernel_rfl) (by kernel_rfl) (fun _ _ _ h => h) (Or.inl ⟨by kernel_rfl, ?_⟩) (by assumption) ?_
  rotate_left
  · intro w hSw
    try dsimp only at hSw
    go_simp
    try (with_reducible rfl)
  try simp only [Act.put, List.getElem_toArray, List.getElem_cons_zero, List.getElem_cons_succ, List.setIfInBounds_toArray, List.set_cons_zero, List.set_cons_succ]
  refine wpAnyH_take (i := 3) (oi := _) (v := ?_) rfl (by kernel_rfl) (by kernel_rfl) (by kernel_rfl) (fun _ _ _ h => h) (Or.inl ⟨by kernel_rfl, ?_⟩) (by assumption) ?_
  rotate_left
  · intro w hSw
    try dsimp only at hSw
    go_simp
    try (with_reducible rfl)
  try simp only [Act.put, List.getElem_toArray, List.getElem_cons_zero, List.getElem_cons_succ, List.setIfInBounds_toArray, List.set_cons_zero, List.set_cons_succ]
  refine wpAnyH_take (i := 5) (oi := _) (v := ?_) rfl (by kernel_rfl) (by kernel_rfl) (by kernel_rfl) (fun _ _ _ h => h) (Or.inl ⟨by kernel_rfl, ?_⟩) (by assumption) ?_
  rotate_left
  · intro w hSw
    try dsimp only at hSw
    go_simp
    try (with_reducible rfl)
  try simp only [Act.put, List.getElem_toArray, List.getElem_cons_zero, List.getElem_cons_succ, List.setIfInBounds_toArray, List.set_cons_zero, List.set_cons_succ]
  refine wpAnyH_take (i := 6) (oi := _) (v := ?_) rfl (by kernel_rfl) (by kernel_rfl) (by kernel_rfl) (fun _ _ _ h => h) (Or.inl ⟨by kernel_rfl, ?_⟩) (by assumption) ?_
  rotate_left
  · intro w hSw
    try dsimp only at hSw
    go_simp
    try (with_reducible rfl)
  try simp only [Act.put, List.getElem_toArray, List.getElem_cons_zero, List.getElem_cons_succ, List.setIfInBounds_toArray, List.set_cons_zero, List.set_cons_succ]
  refine wpAnyH_take (i := 7) (oi := _) (v := ?_) rfl (by kernel_rfl) (by kernel_rfl) (by kernel_rfl) (fun _ _ _ h => h) (Or.inl ⟨by kernel_rfl, ?_⟩) (by assumption) ?_
  rotate_left
  · intro w hSw
    try dsimp only at hSw
    go_simp
    try (with_reducible rfl)
  try simp only [Act.put, List.getElem_toArray, List.getElem_cons_zero, List.getElem_cons_succ, List.setIfInBounds_toArray, List.set_cons_zero, List.set_cons_succ]
  refine wpAnyH_ready (rs := [4]) (by kernel_rfl) (by simp) ?_
  refine AllReadyH.cons (o := _) rfl (fun K hK => ?_) AllReadyH.nil
  go_simp
  go_at_call 105
  refine (HC.out w2.drew (hkz.below (Below.refl _ _).drew)).mono ?_
  rintro e w3 ⟨rfl, hb3'⟩
  have hb3 : Below w2.heap.size w2 w3 := (Below.refl _ _).drew.trans hb3'
  have hk3 := KeepP.below (KeepP.start (fun b' => b' = w.heap.size ∨ b' = b) w2) hb3' hKl
  refine hK.out _ _ hk3 (fun _ => ?_)
  clear hK K hHeld hb3'
  try simp only [Act.put, List.getElem_toArray, List.getElem_cons_zero, List.getElem_cons_succ, List.setIfInBounds_toArray, List.set_cons_zero, List.set_cons_succ]
  refine wpAnyH_ready (rs := [8]) (by kernel_rfl) (by simp) ?_
  refine AllReadyH.cons (o := _) rfl (fun K hK => ?_) AllReadyH.nil
  go_simp
  refine (HC2.out w3).mono ?_
  rintro e w4 ⟨rfl, hb4⟩
  have hk4 := KeepP.below hk3 hb4 (fun b' h => Nat.lt_of_lt_of_le (hKl b' h) hb3.size)
  refine hK.out _ _ hk4 (fun _ => ?_)
  clear hK K hk3
  try simp only [Act.put, List.getElem_toArray, List.getElem_cons_zero, List.getElem_cons_succ, List.setIfInBounds_toArray, List.set_cons_zero, List.set_cons_succ]
  have HR3 := Lib.hid ((HR.out.below hb3 HR.out.lt).below hb4 (Nat.lt_of_lt_of_le HR.out.lt hb3.size))
  have HB3 := Lib.hid ((HB.out.trans (hb3.mono HB.out.size)).trans (hb4.mono (by have := HB.out.size; have := hb3.size; omega)))
  have hlb1 : b ≠ w.heap.size + 1 := HNb.out
  clear hb3 hb4 HC HC2 c0 c1 c2 c3 c4 c5 c6 c7 hblk
  clear n0 n1 n2 n3 n4 n5 n6 n7
  obtain ⟨r0, r1, r2, r3, r4, r5, r6, r7, r8, r9, r10⟩ := ((HR3.out)).c11r
  obtain ⟨q0, q1, q2, q3, q4, q5, q6, q7, q8, q9, q10⟩ := ((HR3.out)).f11r
  have hlr := (HR3.out).lt
  refine wpAnyH_ready (rs := [9]) (by kernel_rfl) (by simp) ?_
  refine AllReadyH.cons (o := _) rfl (fun K hK => ?_) AllReadyH.nil
  go_simp
  refine hK.out _ _ (KeepP.set11 hk4 (two_of (Q := fun b => b ≠ w.heap.size + 1) (by omega) hlb1)) (fun _ => ?_)
  clear hK K
  try simp only [Act.put, List.getElem_toArray, List.getElem_cons_zero, List.getElem_cons_succ, List.setIfInBounds_toArray, List.set_cons_zero, List.set_cons_succ]
  refine wpAnyH_done (by kernel_rfl) ?_ _
  go_wp2
  refine bodyPost_ret (ret_sum Tryz.results105 rfl (Blk.store11 HR3.out)) rfl ⟨by rw [← HRr.out]; rfl, below_set11 HB3.out (by omega)⟩
theorem of_step {n : Nat} (ih : OfC n) : OfC (n + 1) := by
  intro x P B cap w hsz hlen ho ht0
  have ht := ht0.weak (Q := fun b => b < w.heap.size) (fun b _ h => h)
  have hlk : x.kids.len ≤ 140737488355328 := by have := Trees.len_size x.kids; unfold Nd.size at hlen; omega
  have hG : KidOf x (fun b => b < w.heap.size) := fun i z C capc w' hz ht' => by
    have := Trees.size_get x.kids i z hz
    have hks : x.kids.size + 1 = x.size := by unfold Nd.size; omega
    exact ih z _ C capc w' (by omega) (by omega) (fun y hy => ho y (kid_nodes hz y hy)) ht'
  obtain ⟨a1, a9, a0, ak1, ak9⟩ := aloneN_kids (ho x (self_nodes x))
  by_cases k1 : x.kind = 1
  · exact of_none x _ B cap w hlk ho ht hG k1
  by_cases k2 : x.kind = 2
  · exact of_two x _ B cap w hlk ho ht hG k2
  by_cases k3 : x.kind = 3
  · by_cases w0 : word x.set.testBit 0 = 0
    rotate_left
    · exact of_set1 x _ B cap w hlk ho ht hG k3 w0
    by_cases w1 : word x.set.testBit 1 = 0
    rotate_left
    · exact of_set2 x _ B cap w hlk ho ht hG k3 w0 w1
    by_cases w2 : word x.set.testBit 2 = 0
    rotate_left
    · exact of_set3 x _ B cap w hlk ho ht hG k3 w0 w1 w2
    by_cases w3 : word x.set.testBit 3 = 0
    rotate_left
    · exact of_set4 x _ B cap w hlk ho ht hG k3 w0 w1 w2 w3
    exact of_set0 x _ B cap w hlk ho ht hG k3 (by unfold isNoSet; simp [w0, w1, w2, w3])
  by_cases k4 : x.kind = 4
  · exact of_cat x _ B cap w hlk ho ht hG k4
  by_cases k5 : x.kind = 5
  · exact of_alt x _ B cap w hlk ho ht hG k5
  obtain ⟨z, _, hz⟩ := one_kid (a1 (by omega) (by omega))
  have hk1 := a1 (by omega) (by omega)
  by_cases k6 : x.kind = 6
  · exact of_star x _ B cap w hlk ho ht hG k6 z hz hk1
  by_cases k7 : x.kind = 7
  · exact of_plus x _ B cap w hlk ho ht hG k7 z hz hk1
  by_cases k8 : x.kind = 8
  · exact of_opt x _ B cap w hlk ho ht hG k8 z hz hk1
  have k9 : x.kind = 9 := by omega
  rcases Int.lt_or_le x.hi 0 with h | h
  · exact of_rep1 x _ B cap w hlk ho ht hG k9 z hz hk1 h (fun b hb => hb)
  · exact of_rep2 x _ B cap w hlk ho ht hG k9 z hz hk1 h (fun b hb => hb)
theorem of_go (x : Nd) (P : Nat → Prop) (B : Option Addr) (cap : Nat) (w : World) (hlen : x.size ≤ 140737488355328) (ho : ∀ y ∈ x.nodes, aloneN y = true) (ht : TreesAt w P x.kids B) :
    Calls Tryz.prog 105 #[ndV x B cap] w fun e w' => e = .returned (sumV x.sum) ∧ Below w.heap.size w w' := by
  have h : ∀ n, OfC n := by
    intro n
    induction n with
    | zero => exact fun x _ _ _ _ h => by unfold Nd.size at h; omega
    | succ n ih => exact of_step ih
  exact h x.size x P B cap w (Nat.le_refl _) hlen ho ht
end Go.Proofs.YtfekpkelmliejaaGreatDoor
namespace Go.Proofs.YtfekpkelmliejaaGreatDoor
open Go.RowKit
set_option linter.unusedSimpArgs false
set_option linter.unusedVariables false
set_option maxRecDepth 100000

theorem rightT_nodes {x : Nd} (h : rightT x = true) : ∀ y ∈ x.nodes, aloneN y = true := by
  unfold rightT at h
  rw [Bool.and_eq_true] at h
  exact List.all_eq_true.1 h.2
theorem ret_known {fn : Func} {t2 t3 : Tmp} (h : fn.results = #[.cell t2 85, .tmp t3]) {tmps : Array Value} {w : World} {g : Nat} {a0 a1 a2 a3 a4 a5 a6 a7 a8 a9 a10 c : Value}
    (hp : tmps.getD t2 undef = .pointer (some ⟨g, 0, none⟩)) (hc : tmps.getD t3 undef = c) (hb : Blk w g 85 #[a0, a1, a2, a3, a4, a5, a6, a7, a8, a9, a10]) :
    (results fn tmps).run Tryz.prog w = .ok (.tuple #[.agg #[a0, a1, a2, a3, a4, a5, a6, a7, a8, a9, a10], c]) w := by
  have h1 := run_loadVar_row (P := Tryz.prog) w g 85 85 #[a0, a1, a2, a3, a4, a5, a6, a7, a8, a9, a10] (0, 0) _ hb Tryz.underlying85 rfl (by kernel_rfl)
  simp only [results, h]
  simp only [Array.getD_eq_getD_getElem?] at hp hc
  simp [Sem.run_bind, hp, hc, asAddr, h1, Result.andThen]
/-- What is known of what may not be. -/
def offF : SumS := ⟨false, -1, -1, noB, noB⟩
def knownF (x : Nd) : SumS := if rightT x = true then x.sum else offF
def longestF (x : Nd) : Int := if (knownF x).long = endF then -1 else (knownF x).long
theorem off_val : sumV offF = .agg #[.bool false, .int .i64 (-1), .int .i64 (-1), .int .u64 0, .int .u64 0, .int .u64 0, .int .u64 0, .int .u64 0, .int .u64 0, .int .u64 0, .int .u64 0] := by
  unfold sumV sumA offF
  rw [noB_word 0 (by decide), noB_word 1 (by decide), noB_word 2 (by decide), noB_word 3 (by decide)]
  rfl
set_option maxHeartbeats 4000000 in
theorem known_go (x : Nd) (B : Option Addr) (cap : Nat) (w : World) (hs : x.size ≤ 140737488355328) (ht : TreesAt w (fun b => b < w.heap.size) x.kids B) :
    Calls Tryz.prog 61 #[ndV x B cap] w fun e w' => e = .returned (.tuple #[sumV (knownF x), .bool (rightT x)]) ∧ Below w.heap.size w w' := by
  have hb : Below w.heap.size w ((w.alloc (.cells #[.int .i64 x.kind, .int .u64 ((word (x.set.testBit) 0 : Nat) : Int), .int .u64 ((word (x.set.testBit) 1 : Nat) : Int), .int .u64 ((word (x.set.testBit) 2 : Nat) : Int), .int .u64 ((word (x.set.testBit) 3 : Nat) : Int), .slice B x.kids.len cap, .int .i64 x.lo, .int .i64 x.hi] 28)).alloc (.cells #[.bool false, .int .i64 0, .int .i64 0, .int .u64 0, .int .u64 0, .int .u64 0, .int .u64 0, .int .u64 0, .int .u64 0, .int .u64 0, .int .u64 0] 85)) := ((Below.refl _ _).alloc (Nat.le_refl _) _).alloc (by simp) _
  have HB := Lib.hid hb
  have HN := Lib.hid ((Blk.new w 28 #[.int .i64 x.kind, .int .u64 ((word (x.set.testBit) 0 : Nat) : Int), .int .u64 ((word (x.set.testBit) 1 : Nat) : Int), .int .u64 ((word (x.set.testBit) 2 : Nat) : Int), .int .u64 ((word (x.set.testBit) 3 : Nat) : Int), .slice B x.kids.len cap, .int .i64 x.lo, .int .i64 x.hi]).alloc (.cells #[.bool false, .int .i64 0, .int .i64 0, .int .u64 0, .int .u64 0, .int .u64 0, .int .u64 0, .int .u64 0, .int .u64 0, .int .u64 0, .int .u64 0] 85))
  have HR := Lib.hid (show Blk ((w.alloc (.cells #[.int .i64 x.kind, .int .u64 ((word (x.set.testBit) 0 : Nat) : Int), .int .u64 ((word (x.set.testBit) 1 : Nat) : Int), .int .u64 ((word (x.set.testBit) 2 : Nat) : Int), .int .u64 ((word (x.set.testBit) 3 : Nat) : Int), .slice B x.kids.len cap, .int .i64 x.lo, .int .i64 x.hi] 28)).alloc (.cells #[.bool false, .int .i64 0, .int .i64 0, .int .u64 0, .int .u64 0, .int .u64 0, .int .u64 0, .int .u64 0, .int .u64 0, .int .u64 0, .int .u64 0] 85)) (w.heap.size + 1) 85 #[.bool false, .int .i64 0, .int .i64 0, .int .u64 0, .int .u64 0, .int .u64 0, .int .u64 0, .int .u64 0, .int .u64 0, .int .u64 0, .int .u64 0] from Blk.new_at (by simp))
  have ht2 := (ht.below hb).weak (Q := fun b => b < ((w.alloc (.cells #[.int .i64 x.kind, .int .u64 ((word (x.set.testBit) 0 : Nat) : Int), .int .u64 ((word (x.set.testBit) 1 : Nat) : Int), .int .u64 ((word (x.set.testBit) 2 : Nat) : Int), .int .u64 ((word (x.set.testBit) 3 : Nat) : Int), .slice B x.kids.len cap, .int .i64 x.lo, .int .i64 x.hi] 28)).alloc (.cells #[.bool false, .int .i64 0, .int .i64 0, .int .u64 0, .int .u64 0, .int .u64 0, .int .u64 0, .int .u64 0, .int .u64 0, .int .u64 0, .int .u64 0] 85)).heap.size) (fun b _ h => h)
  have HC := Lib.hid (tright_any x B cap _ (by omega) ht2)
  have HO := Lib.hid (fun (h : rightT x = true) (W : World) (hW : Below ((w.alloc (.cells #[.int .i64 x.kind, .int .u64 ((word (x.set.testBit) 0 : Nat) : Int), .int .u64 ((word (x.set.testBit) 1 : Nat) : Int), .int .u64 ((word (x.set.testBit) 2 : Nat) : Int), .int .u64 ((word (x.set.testBit) 3 : Nat) : Int), .slice B x.kids.len cap, .int .i64 x.lo, .int .i64 x.hi] 28)).alloc (.cells #[.bool false, .int .i64 0, .int .i64 0, .int .u64 0, .int .u64 0, .int .u64 0, .int .u64 0, .int .u64 0, .int .u64 0, .int .u64 0, .int .u64 0] 85)).heap.size ((w.alloc (.cells #[.int .i64 x.kind, .int .u64 ((word (x.set.testBit) 0 : Nat) : Int), .int .u64 ((word (x.set.testBit) 1 : Nat) : Int), .int .u64 ((word (x.set.testBit) 2 : Nat) : Int), .int .u64 ((word (x.set.testBit) 3 : Nat) : Int), .slice B x.kids.len cap, .int .i64 x.lo, .int .i64 x.hi] 28)).alloc (.cells #[.bool false, .int .i64 0, .int .i64 0, .int .u64 0, .int .u64 0, .int .u64 0, .int .u64 0, .int .u64 0, .int .u64 0, .int .u64 0, .int .u64 0] 85)) W) => of_go x _ B cap W hs (rightT_nodes h) (ht2.below hW))
  clear hb ht ht2 hs
  unfold ndV at HC HO ⊢
  go_enter Tryz.func61, Tryz.ntmps61
  go_upto_region 1 with fail
  generalize ((w.alloc (.cells #[.int .i64 x.kind, .int .u64 ((word (x.set.testBit) 0 : Nat) : Int), .int .u64 ((word (x.set.testBit) 1 : Nat) : Int), .int .u64 ((word (x.set.testBit) 2 : Nat) : Int), .int .u64 ((word (x.set.testBit) 3 : Nat) : Int), .slice B x.kids.len cap, .int .i64 x.lo, .int .i64 x.hi] 28)).alloc (.cells #[.bool false, .int .i64 0, .int .i64 0, .int .u64 0, .int .u64 0, .int .u64 0, .int .u64 0, .int .u64 0, .int .u64 0, .int .u64 0, .int .u64 0] 85)) = w2 at *
  obtain ⟨n0, n1, n2, n3, n4, n5, n6, n7⟩ := ((HN.out)).c8r
  have hln := (HN.out).lt
  go_wp2_with fail
  refine HC.out.mono ?_
  rintro e w3 ⟨rfl, hb3⟩
  have HN3 := Lib.hid (HN.out.below hb3 HN.out.lt)
  have HR3 := Lib.hid (HR.out.below hb3 HR.out.lt)
  have HB3 := Lib.hid (HB.out.trans (hb3.mono HB.out.size))
  have HW3 := Lib.hid hb3
  clear n0 n1 n2 n3 n4 n5 n6 n7
  clear hln HC HN HR HB hb3
  cases hr : rightT x with
  | false =>
    have HV := Lib.hid (show knownF x = offF by unfold knownF; rw [hr]; rfl)
    have HX := Lib.hid hr
    clear hr
    obtain ⟨r0, r1, r2, r3, r4, r5, r6, r7, r8, r9, r10⟩ := ((HR3.out)).c11r
    obtain ⟨q0, q1, q2, q3, q4, q5, q6, q7, q8, q9, q10⟩ := ((HR3.out)).f11r
    have hlr := (HR3.out).lt
    dsimp only
    go_wp2
    refine bodyPost_ret (ret_known Tryz.results61 rfl rfl (Blk.store11 HR3.out)) rfl ⟨by rw [HV.out, off_val, HX.out]; rfl, below_set11 HB3.out (by omega)⟩
  | true =>
    have HV := Lib.hid (show knownF x = x.sum by unfold knownF; rw [if_pos hr])
    have HC := Lib.hid (HO.out hr w3 HW3.out)
    have HX := Lib.hid hr
    clear hr HO
    obtain ⟨n0, n1, n2, n3, n4, n5, n6, n7⟩ := ((HN3.out)).c8r
    have hln := (HN3.out).lt
    obtain ⟨r, hr⟩ : ∃ r, r = x.sum := ⟨_, rfl⟩
    have HRr := Lib.hid hr
    rw [← hr] at HC
    clear hr
    unfold sumV sumA at HC
    dsimp only
    go_wp2_with fail
    refine HC.out.mono ?_
    rintro e w4 ⟨rfl, hb4⟩
    have HR4 := Lib.hid (HR3.out.below hb4 HR3.out.lt)
    have HB4 := Lib.hid (HB3.out.trans (hb4.mono HB3.out.size))
    clear n0 n1 n2 n3 n4 n5 n6 n7
    clear hb4 HC hln HN3 HR3 HB3
    obtain ⟨r0, r1, r2, r3, r4, r5, r6, r7, r8, r9, r10⟩ := ((HR4.out)).c11r
    obtain ⟨q0, q1, q2, q3, q4, q5, q6, q7, q8, q9, q10⟩ := ((HR4.out)).f11r
    have hlr := (HR4.out).lt
    dsimp only
    go_wp2
    refine bodyPost_ret (ret_known Tryz.results61 rfl rfl (Blk.store11 HR4.out)) rfl ⟨by rw [HV.out, ← HRr.out, HX.out]; rfl, below_set11 HB4.out (by omega)⟩
set_option maxHeartbeats 4000000 in
theorem fbounded_go (x : Nd) (B : Option Addr) (cap : Nat) (w : World) (hs : x.size ≤ 140737488355328) (ht : TreesAt w (fun b => b < w.heap.size) x.kids B) :
    Calls Tryz.prog 59 #[ndV x B cap] w fun e w' => e = .returned (.bool (rightT x && ((knownF x).long != endF))) ∧ Below w.heap.size w w' := by
  have hb : Below w.heap.size w (w.alloc (.cells #[.int .i64 x.kind, .int .u64 ((word (x.set.testBit) 0 : Nat) : Int), .int .u64 ((word (x.set.testBit) 1 : Nat) : Int), .int .u64 ((word (x.set.testBit) 2 : Nat) : Int), .int .u64 ((word (x.set.testBit) 3 : Nat) : Int), .slice B x.kids.len cap, .int .i64 x.lo, .int .i64 x.hi] 28)) := (Below.refl _ _).alloc (Nat.le_refl _) _
  have HB := Lib.hid hb
  have HC := Lib.hid (known_go x B cap (w.alloc (.cells #[.int .i64 x.kind, .int .u64 ((word (x.set.testBit) 0 : Nat) : Int), .int .u64 ((word (x.set.testBit) 1 : Nat) : Int), .int .u64 ((word (x.set.testBit) 2 : Nat) : Int), .int .u64 ((word (x.set.testBit) 3 : Nat) : Int), .slice B x.kids.len cap, .int .i64 x.lo, .int .i64 x.hi] 28)) hs ((ht.below hb).weak (Q := fun b => b < ((w.alloc (.cells #[.int .i64 x.kind, .int .u64 ((word (x.set.testBit) 0 : Nat) : Int), .int .u64 ((word (x.set.testBit) 1 : Nat) : Int), .int .u64 ((word (x.set.testBit) 2 : Nat) : Int), .int .u64 ((word (x.set.testBit) 3 : Nat) : Int), .slice B x.kids.len cap, .int .i64 x.lo, .int .i64 x.hi] 28))).heap.size) (fun b _ h => h)))
  clear hb ht hs
  unfold ndV at HC ⊢
  go_enter Tryz.func59, Tryz.ntmps59
  go_wp2_with fail
  refine HC.out.mono ?_
  rintro e w3 ⟨rfl, hb3⟩
  obtain ⟨s, hs⟩ : ∃ s, s = knownF x := ⟨_, rfl⟩
  have HS := Lib.hid hs
  rw [← hs]
  clear hs
  have hbx : Below w3.heap.size w3 (w3.alloc (.cells (sumA s) 85)) := (Below.refl _ _).alloc (Nat.le_refl _) _
  have HX := Lib.hid (Blk.new w3 85 (sumA s))
  have HB4 := Lib.hid ((HB.out.trans (hb3.mono HB.out.size)).trans (hbx.mono (by have := HB.out.size; have := hb3.size; omega)))
  clear hb3 hbx HC HB
  unfold sumV
  unfold sumA at *
  dsimp only
  go_upto_region 2 with fail
  generalize w3.alloc (.cells #[.bool s.hollow, .int .i64 s.short, .int .i64 s.long, .int .u64 ((word (s.first) 0 : Nat) : Int), .int .u64 ((word (s.first) 1 : Nat) : Int), .int .u64 ((word (s.first) 2 : Nat) : Int), .int .u64 ((word (s.first) 3 : Nat) : Int), .int .u64 ((word (s.last) 0 : Nat) : Int), .int .u64 ((word (s.last) 1 : Nat) : Int), .int .u64 ((word (s.last) 2 : Nat) : Int), .int .u64 ((word (s.last) 3 : Nat) : Int)] 85) = w4 at *
  obtain ⟨x0, x1, x2, x3, x4, x5, x6, x7, x8, x9, x10⟩ := ((HX.out)).c11r
  have hlx := (HX.out).lt
  cases hr : rightT x with
  | false =>
    have HX2 := Lib.hid hr
    clear hr
    go_wp2
    go_light
    go_ret
    exact ⟨by rw [HX2.out]; rfl, HB4.out⟩
  | true =>
    have HX2 := Lib.hid hr
    clear hr
    go_wp2
    go_light
    go_ret
    exact ⟨by rw [← HS.out, HX2.out]; rfl, HB4.out⟩
set_option maxHeartbeats 4000000 in
theorem fnullable_go (x : Nd) (B : Option Addr) (cap : Nat) (w : World) (hs : x.size ≤ 140737488355328) (ht : TreesAt w (fun b => b < w.heap.size) x.kids B) :
    Calls Tryz.prog 47 #[ndV x B cap] w fun e w' => e = .returned (.bool (rightT x && (knownF x).null)) ∧ Below w.heap.size w w' := by
  have hb : Below w.heap.size w (w.alloc (.cells #[.int .i64 x.kind, .int .u64 ((word (x.set.testBit) 0 : Nat) : Int), .int .u64 ((word (x.set.testBit) 1 : Nat) : Int), .int .u64 ((word (x.set.testBit) 2 : Nat) : Int), .int .u64 ((word (x.set.testBit) 3 : Nat) : Int), .slice B x.kids.len cap, .int .i64 x.lo, .int .i64 x.hi] 28)) := (Below.refl _ _).alloc (Nat.le_refl _) _
  have HB := Lib.hid hb
  have HC := Lib.hid (known_go x B cap (w.alloc (.cells #[.int .i64 x.kind, .int .u64 ((word (x.set.testBit) 0 : Nat) : Int), .int .u64 ((word (x.set.testBit) 1 : Nat) : Int), .int .u64 ((word (x.set.testBit) 2 : Nat) : Int), .int .u64 ((word (x.set.testBit) 3 : Nat) : Int), .slice B x.kids.len cap, .int .i64 x.lo, .int .i64 x.hi] 28)) hs ((ht.below hb).weak (Q := fun b => b < ((w.alloc (.cells #[.int .i64 x.kind, .int .u64 ((word (x.set.testBit) 0 : Nat) : Int), .int .u64 ((word (x.set.testBit) 1 : Nat) : Int), .int .u64 ((word (x.set.testBit) 2 : Nat) : Int), .int .u64 ((word (x.set.testBit) 3 : Nat) : Int), .slice B x.kids.len cap, .int .i64 x.lo, .int .i64 x.hi] 28))).heap.size) (fun b _ h => h)))
  clear hb ht hs
  unfold ndV at HC ⊢
  go_enter Tryz.func47, Tryz.ntmps47
  go_wp2_with fail
  refine HC.out.mono ?_
  rintro e w3 ⟨rfl, hb3⟩
  obtain ⟨s, hs⟩ : ∃ s, s = knownF x := ⟨_, rfl⟩
  have HS := Lib.hid hs
  rw [← hs]
  clear hs
  have hbx : Below w3.heap.size w3 (w3.alloc (.cells (sumA s) 85)) := (Below.refl _ _).alloc (Nat.le_refl _) _
  have HX := Lib.hid (Blk.new w3 85 (sumA s))
  have HB4 := Lib.hid ((HB.out.trans (hb3.mono HB.out.size)).trans (hbx.mono (by have := HB.out.size; have := hb3.size; omega)))
  clear hb3 hbx HC HB
  unfold sumV
  unfold sumA at *
  dsimp only
  go_upto_region 2 with fail
  generalize w3.alloc (.cells #[.bool s.hollow, .int .i64 s.short, .int .i64 s.long, .int .u64 ((word (s.first) 0 : Nat) : Int), .int .u64 ((word (s.first) 1 : Nat) : Int), .int .u64 ((word (s.first) 2 : Nat) : Int), .int .u64 ((word (s.first) 3 : Nat) : Int), .int .u64 ((word (s.last) 0 : Nat) : Int), .int .u64 ((word (s.last) 1 : Nat) : Int), .int .u64 ((word (s.last) 2 : Nat) : Int), .int .u64 ((word (s.last) 3 : Nat) : Int)] 85) = w4 at *
  obtain ⟨x0, x1, x2, x3, x4, x5, x6, x7, x8, x9, x10⟩ := ((HX.out)).c11r
  have hlx := (HX.out).lt
  have HNl := Lib.hid (fun W => null_go s W)
  unfold sumV sumA at HNl
  cases hr : rightT x with
  | false =>
    have HX2 := Lib.hid hr
    clear hr
    go_wp2
    go_light
    go_ret
    exact ⟨by rw [HX2.out]; rfl, HB4.out⟩
  | true =>
    have HX2 := Lib.hid hr
    clear hr
    go_wp2_with fail
    refine (HNl.out _).mono ?_
    rintro e w5 ⟨rfl, hb5⟩
    have HB5 := Lib.hid (HB4.out.trans (hb5.mono HB4.out.size))
    clear hb5
    dsimp only
    go_wp2
    go_light
    go_ret
    exact ⟨by rw [← HS.out, HX2.out]; rfl, HB5.out⟩
set_option maxHeartbeats 4000000 in
theorem fshortest_go (x : Nd) (B : Option Addr) (cap : Nat) (w : World) (hs : x.size ≤ 140737488355328) (ht : TreesAt w (fun b => b < w.heap.size) x.kids B) :
    Calls Tryz.prog 16 #[ndV x B cap] w fun e w' => e = .returned (.int .i64 (knownF x).short) ∧ Below w.heap.size w w' := by
  have hb : Below w.heap.size w (w.alloc (.cells #[.int .i64 x.kind, .int .u64 ((word (x.set.testBit) 0 : Nat) : Int), .int .u64 ((word (x.set.testBit) 1 : Nat) : Int), .int .u64 ((word (x.set.testBit) 2 : Nat) : Int), .int .u64 ((word (x.set.testBit) 3 : Nat) : Int), .slice B x.kids.len cap, .int .i64 x.lo, .int .i64 x.hi] 28)) := (Below.refl _ _).alloc (Nat.le_refl _) _
  have HB := Lib.hid hb
  have HC := Lib.hid (known_go x B cap (w.alloc (.cells #[.int .i64 x.kind, .int .u64 ((word (x.set.testBit) 0 : Nat) : Int), .int .u64 ((word (x.set.testBit) 1 : Nat) : Int), .int .u64 ((word (x.set.testBit) 2 : Nat) : Int), .int .u64 ((word (x.set.testBit) 3 : Nat) : Int), .slice B x.kids.len cap, .int .i64 x.lo, .int .i64 x.hi] 28)) hs ((ht.below hb).weak (Q := fun b => b < ((w.alloc (.cells #[.int .i64 x.kind, .int .u64 ((word (x.set.testBit) 0 : Nat) : Int), .int .u64 ((word (x.set.testBit) 1 : Nat) : Int), .int .u64 ((word (x.set.testBit) 2 : Nat) : Int), .int .u64 ((word (x.set.testBit) 3 : Nat) : Int), .slice B x.kids.len cap, .int .i64 x.lo, .int .i64 x.hi] 28))).heap.size) (fun b _ h => h)))
  clear hb ht hs
  unfold ndV at HC ⊢
  go_enter Tryz.func16, Tryz.ntmps16
  go_wp2_with fail
  refine HC.out.mono ?_
  rintro e w3 ⟨rfl, hb3⟩
  obtain ⟨s, hs⟩ : ∃ s, s = knownF x := ⟨_, rfl⟩
  have HS := Lib.hid hs
  rw [← hs]
  clear hs
  have hbx : Below w3.heap.size w3 (w3.alloc (.cells (sumA s) 85)) := (Below.refl _ _).alloc (Nat.le_refl _) _
  have HX := Lib.hid (Blk.new w3 85 (sumA s))
  have HB4 := Lib.hid ((HB.out.trans (hb3.mono HB.out.size)).trans (hbx.mono (by have := HB.out.size; have := hb3.size; omega)))
  clear hb3 hbx HC HB
  unfold sumV
  unfold sumA at *
  dsimp only
  go_upto_region 2 with fail
  generalize w3.alloc (.cells #[.bool s.hollow, .int .i64 s.short, .int .i64 s.long, .int .u64 ((word (s.first) 0 : Nat) : Int), .int .u64 ((word (s.first) 1 : Nat) : Int), .int .u64 ((word (s.first) 2 : Nat) : Int), .int .u64 ((word (s.first) 3 : Nat) : Int), .int .u64 ((word (s.last) 0 : Nat) : Int), .int .u64 ((word (s.last) 1 : Nat) : Int), .int .u64 ((word (s.last) 2 : Nat) : Int), .int .u64 ((word (s.last) 3 : Nat) : Int)] 85) = w4 at *
  obtain ⟨x0, x1, x2, x3, x4, x5, x6, x7, x8, x9, x10⟩ := ((HX.out)).c11r
  have hlx := (HX.out).lt
  go_wp2
  go_light
  go_ret
  exact ⟨by rw [← HS.out]; rfl, HB4.out⟩
set_option maxHeartbeats 4000000 in
theorem flongest_go (x : Nd) (B : Option Addr) (cap : Nat) (w : World) (hs : x.size ≤ 140737488355328) (ht : TreesAt w (fun b => b < w.heap.size) x.kids B) :
    Calls Tryz.prog 18 #[ndV x B cap] w fun e w' => e = .returned (.int .i64 (longestF x)) ∧ Below w.heap.size w w' := by
  have hb : Below w.heap.size w (w.alloc (.cells #[.int .i64 x.kind, .int .u64 ((word (x.set.testBit) 0 : Nat) : Int), .int .u64 ((word (x.set.testBit) 1 : Nat) : Int), .int .u64 ((word (x.set.testBit) 2 : Nat) : Int), .int .u64 ((word (x.set.testBit) 3 : Nat) : Int), .slice B x.kids.len cap, .int .i64 x.lo, .int .i64 x.hi] 28)) := (Below.refl _ _).alloc (Nat.le_refl _) _
  have HB := Lib.hid hb
  have HC := Lib.hid (known_go x B cap (w.alloc (.cells #[.int .i64 x.kind, .int .u64 ((word (x.set.testBit) 0 : Nat) : Int), .int .u64 ((word (x.set.testBit) 1 : Nat) : Int), .int .u64 ((word (x.set.testBit) 2 : Nat) : Int), .int .u64 ((word (x.set.testBit) 3 : Nat) : Int), .slice B x.kids.len cap, .int .i64 x.lo, .int .i64 x.hi] 28)) hs ((ht.below hb).weak (Q := fun b => b < ((w.alloc (.cells #[.int .i64 x.kind, .int .u64 ((word (x.set.testBit) 0 : Nat) : Int), .int .u64 ((word (x.set.testBit) 1 : Nat) : Int), .int .u64 ((word (x.set.testBit) 2 : Nat) : Int), .int .u64 ((word (x.set.testBit) 3 : Nat) : Int), .slice B x.kids.len cap, .int .i64 x.lo, .int .i64 x.hi] 28))).heap.size) (fun b _ h => h)))
  clear hb ht hs
  unfold ndV at HC ⊢
  go_enter Tryz.func18, Tryz.ntmps18
  go_wp2_with fail
  refine HC.out.mono ?_
  rintro e w3 ⟨rfl, hb3⟩
  obtain ⟨s, hs⟩ : ∃ s, s = knownF x := ⟨_, rfl⟩
  have HS := Lib.hid hs
  rw [← hs]
  clear hs
  have hbx : Below w3.heap.size w3 (w3.alloc (.cells (sumA s) 85)) := (Below.refl _ _).alloc (Nat.le_refl _) _
  have HX := Lib.hid (Blk.new w3 85 (sumA s))
  have HB4 := Lib.hid ((HB.out.trans (hb3.mono HB.out.size)).trans (hbx.mono (by have := HB.out.size; have := hb3.size; omega)))
  clear hb3 hbx HC HB
  unfold sumV
  unfold sumA at *
  dsimp only
  go_upto_region 2 with fail
  generalize w3.alloc (.cells #[.bool s.hollow, .int .i64 s.short, .int .i64 s.long, .int .u64 ((word (s.first) 0 : Nat) : Int), .int .u64 ((word (s.first) 1 : Nat) : Int), .int .u64 ((word (s.first) 2 : Nat) : Int), .int .u64 ((word (s.first) 3 : Nat) : Int), .int .u64 ((word (s.last) 0 : Nat) : Int), .int .u64 ((word (s.last) 1 : Nat) : Int), .int .u64 ((word (s.last) 2 : Nat) : Int), .int .u64 ((word (s.last) 3 : Nat) : Int)] 85) = w4 at *
  obtain ⟨x0, x1, x2, x3, x4, x5, x6, x7, x8, x9, x10⟩ := ((HX.out)).c11r
  have hlx := (HX.out).lt
  by_cases he : s.long = endF
  · have HV := Lib.hid (show longestF x = -1 by unfold longestF; rw [← HS.out, if_pos he])
    have e1 : (s.long == 1099511627777) = true := by rw [he]; rfl
    clear he
    go_wp2
    go_light
    go_ret
    exact ⟨by rw [HV.out]; rfl, HB4.out⟩
  · have HV := Lib.hid (show longestF x = s.long by unfold longestF; rw [← HS.out, if_neg he])
    have e1 : (s.long == 1099511627777) = false := by rw [beq_eq_false_iff_ne]; exact he
    clear he
    go_wp2
    go_light
    go_ret
    exact ⟨by rw [HV.out]; rfl, HB4.out⟩
set_option maxHeartbeats 4000000 in
theorem ffirst_go (x : Nd) (B : Option Addr) (cap : Nat) (w : World) (hs : x.size ≤ 140737488355328) (ht : TreesAt w (fun b => b < w.heap.size) x.kids B) :
    Calls Tryz.prog 20 #[ndV x B cap] w fun e w' => e = .returned (.agg #[.int .u64 ((word ((knownF x).first) 0 : Nat) : Int), .int .u64 ((word ((knownF x).first) 1 : Nat) : Int), .int .u64 ((word ((knownF x).first) 2 : Nat) : Int), .int .u64 ((word ((knownF x).first) 3 : Nat) : Int)]) ∧ Below w.heap.size w w' := by
  have hb : Below w.heap.size w ((w.alloc (.cells #[.int .i64 x.kind, .int .u64 ((word (x.set.testBit) 0 : Nat) : Int), .int .u64 ((word (x.set.testBit) 1 : Nat) : Int), .int .u64 ((word (x.set.testBit) 2 : Nat) : Int), .int .u64 ((word (x.set.testBit) 3 : Nat) : Int), .slice B x.kids.len cap, .int .i64 x.lo, .int .i64 x.hi] 28)).alloc (.cells #[.int .u64 0, .int .u64 0, .int .u64 0, .int .u64 0] 25)) := ((Below.refl _ _).alloc (Nat.le_refl _) _).alloc (by simp) _
  have HB := Lib.hid hb
  have HR := Lib.hid (show Blk ((w.alloc (.cells #[.int .i64 x.kind, .int .u64 ((word (x.set.testBit) 0 : Nat) : Int), .int .u64 ((word (x.set.testBit) 1 : Nat) : Int), .int .u64 ((word (x.set.testBit) 2 : Nat) : Int), .int .u64 ((word (x.set.testBit) 3 : Nat) : Int), .slice B x.kids.len cap, .int .i64 x.lo, .int .i64 x.hi] 28)).alloc (.cells #[.int .u64 0, .int .u64 0, .int .u64 0, .int .u64 0] 25)) (w.heap.size + 1) 25 #[.int .u64 0, .int .u64 0, .int .u64 0, .int .u64 0] from Blk.new_at (by simp))
  have HC := Lib.hid (known_go x B cap ((w.alloc (.cells #[.int .i64 x.kind, .int .u64 ((word (x.set.testBit) 0 : Nat) : Int), .int .u64 ((word (x.set.testBit) 1 : Nat) : Int), .int .u64 ((word (x.set.testBit) 2 : Nat) : Int), .int .u64 ((word (x.set.testBit) 3 : Nat) : Int), .slice B x.kids.len cap, .int .i64 x.lo, .int .i64 x.hi] 28)).alloc (.cells #[.int .u64 0, .int .u64 0, .int .u64 0, .int .u64 0] 25)) hs ((ht.below hb).weak (Q := fun b => b < (((w.alloc (.cells #[.int .i64 x.kind, .int .u64 ((word (x.set.testBit) 0 : Nat) : Int), .int .u64 ((word (x.set.testBit) 1 : Nat) : Int), .int .u64 ((word (x.set.testBit) 2 : Nat) : Int), .int .u64 ((word (x.set.testBit) 3 : Nat) : Int), .slice B x.kids.len cap, .int .i64 x.lo, .int .i64 x.hi] 28)).alloc (.cells #[.int .u64 0, .int .u64 0, .int .u64 0, .int .u64 0] 25))).heap.size) (fun b _ h => h)))
  clear hb ht hs
  unfold ndV at HC ⊢
  go_enter Tryz.func20, Tryz.ntmps20
  go_wp2_with fail
  refine HC.out.mono ?_
  rintro e w3 ⟨rfl, hb3⟩
  obtain ⟨s, hs⟩ : ∃ s, s = knownF x := ⟨_, rfl⟩
  have HS := Lib.hid hs
  rw [← hs]
  clear hs
  have hbx : Below w3.heap.size w3 (w3.alloc (.cells (sumA s) 85)) := (Below.refl _ _).alloc (Nat.le_refl _) _
  have HX := Lib.hid (Blk.new w3 85 (sumA s))
  have HB4 := Lib.hid ((HB.out.trans (hb3.mono HB.out.size)).trans (hbx.mono (by have := HB.out.size; have := hb3.size; omega)))
  have hR3 := HR.out.below hb3 HR.out.lt
  have HR4 := Lib.hid (hR3.alloc (.cells (sumA s) 85))
  clear hR3 HR
  clear hb3 hbx HC HB
  unfold sumV
  unfold sumA at *
  dsimp only
  go_upto_region 2 with fail
  generalize w3.alloc (.cells #[.bool s.hollow, .int .i64 s.short, .int .i64 s.long, .int .u64 ((word (s.first) 0 : Nat) : Int), .int .u64 ((word (s.first) 1 : Nat) : Int), .int .u64 ((word (s.first) 2 : Nat) : Int), .int .u64 ((word (s.first) 3 : Nat) : Int), .int .u64 ((word (s.last) 0 : Nat) : Int), .int .u64 ((word (s.last) 1 : Nat) : Int), .int .u64 ((word (s.last) 2 : Nat) : Int), .int .u64 ((word (s.last) 3 : Nat) : Int)] 85) = w4 at *
  obtain ⟨x0, x1, x2, x3, x4, x5, x6, x7, x8, x9, x10⟩ := ((HX.out)).c11r
  have hlx := (HX.out).lt
  obtain ⟨r0, r1, r2, r3, q0, q1, q2, q3⟩ := ((HR4.out)).c4
  have hlr := (HR4.out).lt
  go_wp2
  refine bodyPost_ret (ret_set Tryz.results20 rfl (Blk.set4 HR4.out)) rfl ⟨by rw [← HS.out], below_set4 HB4.out (Nat.le_succ _) _ _ _ _⟩
set_option maxHeartbeats 4000000 in
theorem flast_go (x : Nd) (B : Option Addr) (cap : Nat) (w : World) (hs : x.size ≤ 140737488355328) (ht : TreesAt w (fun b => b < w.heap.size) x.kids B) :
    Calls Tryz.prog 22 #[ndV x B cap] w fun e w' => e = .returned (.agg #[.int .u64 ((word ((knownF x).last) 0 : Nat) : Int), .int .u64 ((word ((knownF x).last) 1 : Nat) : Int), .int .u64 ((word ((knownF x).last) 2 : Nat) : Int), .int .u64 ((word ((knownF x).last) 3 : Nat) : Int)]) ∧ Below w.heap.size w w' := by
  have hb : Below w.heap.size w ((w.alloc (.cells #[.int .i64 x.kind, .int .u64 ((word (x.set.testBit) 0 : Nat) : Int), .int .u64 ((word (x.set.testBit) 1 : Nat) : Int), .int .u64 ((word (x.set.testBit) 2 : Nat) : Int), .int .u64 ((word (x.set.testBit) 3 : Nat) : Int), .slice B x.kids.len cap, .int .i64 x.lo, .int .i64 x.hi] 28)).alloc (.cells #[.int .u64 0, .int .u64 0, .int .u64 0, .int .u64 0] 25)) := ((Below.refl _ _).alloc (Nat.le_refl _) _).alloc (by simp) _
  have HB := Lib.hid hb
  have HR := Lib.hid (show Blk ((w.alloc (.cells #[.int .i64 x.kind, .int .u64 ((word (x.set.testBit) 0 : Nat) : Int), .int .u64 ((word (x.set.testBit) 1 : Nat) : Int), .int .u64 ((word (x.set.testBit) 2 : Nat) : Int), .int .u64 ((word (x.set.testBit) 3 : Nat) : Int), .slice B x.kids.len cap, .int .i64 x.lo, .int .i64 x.hi] 28)).alloc (.cells #[.int .u64 0, .int .u64 0, .int .u64 0, .int .u64 0] 25)) (w.heap.size + 1) 25 #[.int .u64 0, .int .u64 0, .int .u64 0, .int .u64 0] from Blk.new_at (by simp))
  have HC := Lib.hid (known_go x B cap ((w.alloc (.cells #[.int .i64 x.kind, .int .u64 ((word (x.set.testBit) 0 : Nat) : Int), .int .u64 ((word (x.set.testBit) 1 : Nat) : Int), .int .u64 ((word (x.set.testBit) 2 : Nat) : Int), .int .u64 ((word (x.set.testBit) 3 : Nat) : Int), .slice B x.kids.len cap, .int .i64 x.lo, .int .i64 x.hi] 28)).alloc (.cells #[.int .u64 0, .int .u64 0, .int .u64 0, .int .u64 0] 25)) hs ((ht.below hb).weak (Q := fun b => b < (((w.alloc (.cells #[.int .i64 x.kind, .int .u64 ((word (x.set.testBit) 0 : Nat) : Int), .int .u64 ((word (x.set.testBit) 1 : Nat) : Int), .int .u64 ((word (x.set.testBit) 2 : Nat) : Int), .int .u64 ((word (x.set.testBit) 3 : Nat) : Int), .slice B x.kids.len cap, .int .i64 x.lo, .int .i64 x.hi] 28)).alloc (.cells #[.int .u64 0, .int .u64 0, .int .u64 0, .int .u64 0] 25))).heap.size) (fun b _ h => h)))
  clear hb ht hs
  unfold ndV at HC ⊢
  go_enter Tryz.func22, Tryz.ntmps22
  go_wp2_with fail
  refine HC.out.mono ?_
  rintro e w3 ⟨rfl, hb3⟩
  obtain ⟨s, hs⟩ : ∃ s, s = knownF x := ⟨_, rfl⟩
  have HS := Lib.hid hs
  rw [← hs]
  clear hs
  have hbx : Below w3.heap.size w3 (w3.alloc (.cells (sumA s) 85)) := (Below.refl _ _).alloc (Nat.le_refl _) _
  have HX := Lib.hid (Blk.new w3 85 (sumA s))
  have HB4 := Lib.hid ((HB.out.trans (hb3.mono HB.out.size)).trans (hbx.mono (by have := HB.out.size; have := hb3.size; omega)))
  have hR3 := HR.out.below hb3 HR.out.lt
  have HR4 := Lib.hid (hR3.alloc (.cells (sumA s) 85))
  clear hR3 HR
  clear hb3 hbx HC HB
  unfold sumV
  unfold sumA at *
  dsimp only
  go_upto_region 2 with fail
  generalize w3.alloc (.cells #[.bool s.hollow, .int .i64 s.short, .int .i64 s.long, .int .u64 ((word (s.first) 0 : Nat) : Int), .int .u64 ((word (s.first) 1 : Nat) : Int), .int .u64 ((word (s.first) 2 : Nat) : Int), .int .u64 ((word (s.first) 3 : Nat) : Int), .int .u64 ((word (s.last) 0 : Nat) : Int), .int .u64 ((word (s.last) 1 : Nat) : Int), .int .u64 ((word (s.last) 2 : Nat) : Int), .int .u64 ((word (s.last) 3 : Nat) : Int)] 85) = w4 at *
  obtain ⟨x0, x1, x2, x3, x4, x5, x6, x7, x8, x9, x10⟩ := ((HX.out)).c11r
  have hlx := (HX.out).lt
  obtain ⟨r0, r1, r2, r3, q0, q1, q2, q3⟩ := ((HR4.out)).c4
  have hlr := (HR4.out).lt
  go_wp2
  refine bodyPost_ret (ret_set Tryz.results22 rfl (Blk.set4 HR4.out)) rfl ⟨by rw [← HS.out], below_set4 HB4.out (Nat.le_succ _) _ _ _ _⟩
end Go.Proofs.YtfekpkelmliejaaGreatDoor
namespace Go.Proofs.YtfekpkelmliejaaGreatDoor
open Go.RowKit
set_option linter.unusedSimpArgs false
set_option linter.unusedVariables false
set_option maxRecDepth 100000

theorem hol_cat {x : Nd} (h : x.kind = 4) : x.sum.hollow = x.kids.sums.any SumS.hollow := by rw [sum_cat h, cat_hollow]; rfl
theorem hol_alt {x : Nd} (h : x.kind = 5) : x.sum.hollow = x.kids.sums.all SumS.hollow := by rw [sum_alt h, alt_hollow]; rfl
theorem hol_rep (a : SumS) (lo hi : Int) : (repeatedF a lo hi).hollow = (!decide (hi = 0) && (!decide (lo = 0) && a.hollow)) := by
  unfold repeatedF
  by_cases h : hi = 0
  · rw [if_pos (.inl h)]; simp [h, fnilF]
  by_cases h0 : lo = 0
  · cases ha : a.hollow with
    | true => rw [if_pos (.inr ⟨rfl, h0⟩)]; simp [h0, fnilF]
    | false => rw [if_neg (by simp [h]), if_neg (by simp)]; simp [h0, ha]
  · cases ha : a.hollow with
    | true => rw [if_neg (by simp [h, h0]), if_pos rfl]; simp [h, h0, nothingF]
    | false => rw [if_neg (by simp [h]), if_neg (by simp)]; simp [ha]
/-- What a call for the kids may use. -/
def KidH (x : Nd) (P : Nat → Prop) : Prop := ∀ (i : Nat) (z : Nd) (C : Option Addr) (capc : Nat) (w' : World), x.kids.list[i]? = some z → TreesAt w' P z.kids C → Calls Tryz.prog 63 #[ndV z C capc] w' fun e w'' => e = .returned (.bool z.sum.hollow) ∧ Below w'.heap.size w' w''
set_option maxHeartbeats 2000000 in
theorem rh_none (x : Nd) (P : Nat → Prop) (B : Option Addr) (cap : Nat) (w : World) (hl : x.kids.len ≤ 140737488355328) (ho : ∀ y ∈ x.nodes, aloneN y = true) (ht : TreesAt w P x.kids B) (hG : KidH x P) (hk : x.kind = 1) : Calls Tryz.prog 63 #[ndV x B cap] w fun e w' => e = .returned (.bool x.sum.hollow) ∧ Below w.heap.size w w' := by
  have HV := Lib.hid (show x.sum.hollow = true by (rw [sum_none hk]; rfl))
  have hb : Below w.heap.size w (w.alloc (.cells #[.int .i64 x.kind, .int .u64 ((word (x.set.testBit) 0 : Nat) : Int), .int .u64 ((word (x.set.testBit) 1 : Nat) : Int), .int .u64 ((word (x.set.testBit) 2 : Nat) : Int), .int .u64 ((word (x.set.testBit) 3 : Nat) : Int), .slice B x.kids.len cap, .int .i64 x.lo, .int .i64 x.hi] 28)) := (Below.refl _ _).alloc (Nat.le_refl _) _
  have HB := Lib.hid hb
  have HN := Lib.hid (Blk.new w 28 #[.int .i64 x.kind, .int .u64 ((word (x.set.testBit) 0 : Nat) : Int), .int .u64 ((word (x.set.testBit) 1 : Nat) : Int), .int .u64 ((word (x.set.testBit) 2 : Nat) : Int), .int .u64 ((word (x.set.testBit) 3 : Nat) : Int), .slice B x.kids.len cap, .int .i64 x.lo, .int .i64 x.hi])
  have HT := Lib.hid (ht.below hb)
  have HG := Lib.hid hG
  have HO := Lib.hid ho
  clear hb ht hG ho
  unfold ndV
  rw [hk] at HN HT HB ⊢
  go_enter Tryz.func63, Tryz.ntmps63
  go_upto_region 1 with fail
  generalize (w.alloc (.cells #[.int .i64 1, .int .u64 ((word (x.set.testBit) 0 : Nat) : Int), .int .u64 ((word (x.set.testBit) 1 : Nat) : Int), .int .u64 ((word (x.set.testBit) 2 : Nat) : Int), .int .u64 ((word (x.set.testBit) 3 : Nat) : Int), .slice B x.kids.len cap, .int .i64 x.lo, .int .i64 x.hi] 28)) = w2 at *
  have n0 := (HN.out).cell 0
  have n1 := (HN.out).cell 1
  have n2 := (HN.out).cell 2
  have n3 := (HN.out).cell 3
  have n4 := (HN.out).cell 4
  have n5 := (HN.out).cell 5
  have n6 := (HN.out).cell 6
  have n7 := (HN.out).cell 7
  have hln := (HN.out).lt
  simp only [List.getElem?_toArray, List.getElem?_cons_zero, List.getElem?_cons_succ] at n0 n1 n2 n3 n4 n5 n6 n7
  go_wp2
  go_light
  go_ret
  exact ⟨by rw [HV.out]; rfl, HB.out⟩
set_option maxHeartbeats 2000000 in
theorem rh_two (x : Nd) (P : Nat → Prop) (B : Option Addr) (cap : Nat) (w : World) (hl : x.kids.len ≤ 140737488355328) (ho : ∀ y ∈ x.nodes, aloneN y = true) (ht : TreesAt w P x.kids B) (hG : KidH x P) (hk : x.kind = 2) : Calls Tryz.prog 63 #[ndV x B cap] w fun e w' => e = .returned (.bool x.sum.hollow) ∧ Below w.heap.size w w' := by
  have HV := Lib.hid (show x.sum.hollow = false by (rw [sum_two hk]; rfl))
  have hb : Below w.heap.size w (w.alloc (.cells #[.int .i64 x.kind, .int .u64 ((word (x.set.testBit) 0 : Nat) : Int), .int .u64 ((word (x.set.testBit) 1 : Nat) : Int), .int .u64 ((word (x.set.testBit) 2 : Nat) : Int), .int .u64 ((word (x.set.testBit) 3 : Nat) : Int), .slice B x.kids.len cap, .int .i64 x.lo, .int .i64 x.hi] 28)) := (Below.refl _ _).alloc (Nat.le_refl _) _
  have HB := Lib.hid hb
  have HN := Lib.hid (Blk.new w 28 #[.int .i64 x.kind, .int .u64 ((word (x.set.testBit) 0 : Nat) : Int), .int .u64 ((word (x.set.testBit) 1 : Nat) : Int), .int .u64 ((word (x.set.testBit) 2 : Nat) : Int), .int .u64 ((word (x.set.testBit) 3 : Nat) : Int), .slice B x.kids.len cap, .int .i64 x.lo, .int .i64 x.hi])
  have HT := Lib.hid (ht.below hb)
  have HG := Lib.hid hG
  have HO := Lib.hid ho
  clear hb ht hG ho
  unfold ndV
  rw [hk] at HN HT HB ⊢
  go_enter Tryz.func63, Tryz.ntmps63
  go_upto_region 1 with fail
  generalize (w.alloc (.cells #[.int .i64 2, .int .u64 ((word (x.set.testBit) 0 : Nat) : Int), .int .u64 ((word (x.set.testBit) 1 : Nat) : Int), .int .u64 ((word (x.set.testBit) 2 : Nat) : Int), .int .u64 ((word (x.set.testBit) 3 : Nat) : Int), .slice B x.kids.len cap, .int .i64 x.lo, .int .i64 x.hi] 28)) = w2 at *
  have n0 := (HN.out).cell 0
  have n1 := (HN.out).cell 1
  have n2 := (HN.out).cell 2
  have n3 := (HN.out).cell 3
  have n4 := (HN.out).cell 4
  have n5 := (HN.out).cell 5
  have n6 := (HN.out).cell 6
  have n7 := (HN.out).cell 7
  have hln := (HN.out).lt
  simp only [List.getElem?_toArray, List.getElem?_cons_zero, List.getElem?_cons_succ] at n0 n1 n2 n3 n4 n5 n6 n7
  go_wp2
  go_light
  go_ret
  exact ⟨by rw [HV.out]; rfl, HB.out⟩
set_option maxHeartbeats 2000000 in
theorem rh_star (x : Nd) (P : Nat → Prop) (B : Option Addr) (cap : Nat) (w : World) (hl : x.kids.len ≤ 140737488355328) (ho : ∀ y ∈ x.nodes, aloneN y = true) (ht : TreesAt w P x.kids B) (hG : KidH x P) (hk : x.kind = 6) (z : Nd) (hz : x.kids.list[0]? = some z) : Calls Tryz.prog 63 #[ndV x B cap] w fun e w' => e = .returned (.bool x.sum.hollow) ∧ Below w.heap.size w w' := by
  have HV := Lib.hid (show x.sum.hollow = false by rw [sum_star hk hz, hol_rep]; simp)
  have hb : Below w.heap.size w (w.alloc (.cells #[.int .i64 x.kind, .int .u64 ((word (x.set.testBit) 0 : Nat) : Int), .int .u64 ((word (x.set.testBit) 1 : Nat) : Int), .int .u64 ((word (x.set.testBit) 2 : Nat) : Int), .int .u64 ((word (x.set.testBit) 3 : Nat) : Int), .slice B x.kids.len cap, .int .i64 x.lo, .int .i64 x.hi] 28)) := (Below.refl _ _).alloc (Nat.le_refl _) _
  have HB := Lib.hid hb
  have HN := Lib.hid (Blk.new w 28 #[.int .i64 x.kind, .int .u64 ((word (x.set.testBit) 0 : Nat) : Int), .int .u64 ((word (x.set.testBit) 1 : Nat) : Int), .int .u64 ((word (x.set.testBit) 2 : Nat) : Int), .int .u64 ((word (x.set.testBit) 3 : Nat) : Int), .slice B x.kids.len cap, .int .i64 x.lo, .int .i64 x.hi])
  have HT := Lib.hid (ht.below hb)
  have HG := Lib.hid hG
  have HO := Lib.hid ho
  clear hb ht hG ho
  unfold ndV
  rw [hk] at HN HT HB ⊢
  go_enter Tryz.func63, Tryz.ntmps63
  go_upto_region 1 with fail
  generalize (w.alloc (.cells #[.int .i64 6, .int .u64 ((word (x.set.testBit) 0 : Nat) : Int), .int .u64 ((word (x.set.testBit) 1 : Nat) : Int), .int .u64 ((word (x.set.testBit) 2 : Nat) : Int), .int .u64 ((word (x.set.testBit) 3 : Nat) : Int), .slice B x.kids.len cap, .int .i64 x.lo, .int .i64 x.hi] 28)) = w2 at *
  have n0 := (HN.out).cell 0
  have n1 := (HN.out).cell 1
  have n2 := (HN.out).cell 2
  have n3 := (HN.out).cell 3
  have n4 := (HN.out).cell 4
  have n5 := (HN.out).cell 5
  have n6 := (HN.out).cell 6
  have n7 := (HN.out).cell 7
  have hln := (HN.out).lt
  simp only [List.getElem?_toArray, List.getElem?_cons_zero, List.getElem?_cons_succ] at n0 n1 n2 n3 n4 n5 n6 n7
  go_wp2
  go_light
  go_ret
  exact ⟨by rw [HV.out]; rfl, HB.out⟩
set_option maxHeartbeats 2000000 in
theorem rh_opt (x : Nd) (P : Nat → Prop) (B : Option Addr) (cap : Nat) (w : World) (hl : x.kids.len ≤ 140737488355328) (ho : ∀ y ∈ x.nodes, aloneN y = true) (ht : TreesAt w P x.kids B) (hG : KidH x P) (hk : x.kind = 8) (z : Nd) (hz : x.kids.list[0]? = some z) : Calls Tryz.prog 63 #[ndV x B cap] w fun e w' => e = .returned (.bool x.sum.hollow) ∧ Below w.heap.size w w' := by
  have HV := Lib.hid (show x.sum.hollow = false by rw [sum_opt hk hz, hol_rep]; simp)
  have hb : Below w.heap.size w (w.alloc (.cells #[.int .i64 x.kind, .int .u64 ((word (x.set.testBit) 0 : Nat) : Int), .int .u64 ((word (x.set.testBit) 1 : Nat) : Int), .int .u64 ((word (x.set.testBit) 2 : Nat) : Int), .int .u64 ((word (x.set.testBit) 3 : Nat) : Int), .slice B x.kids.len cap, .int .i64 x.lo, .int .i64 x.hi] 28)) := (Below.refl _ _).alloc (Nat.le_refl _) _
  have HB := Lib.hid hb
  have HN := Lib.hid (Blk.new w 28 #[.int .i64 x.kind, .int .u64 ((word (x.set.testBit) 0 : Nat) : Int), .int .u64 ((word (x.set.testBit) 1 : Nat) : Int), .int .u64 ((word (x.set.testBit) 2 : Nat) : Int), .int .u64 ((word (x.set.testBit) 3 : Nat) : Int), .slice B x.kids.len cap, .int .i64 x.lo, .int .i64 x.hi])
  have HT := Lib.hid (ht.below hb)
  have HG := Lib.hid hG
  have HO := Lib.hid ho
  clear hb ht hG ho
  unfold ndV
  rw [hk] at HN HT HB ⊢
  go_enter Tryz.func63, Tryz.ntmps63
  go_upto_region 1 with fail
  generalize (w.alloc (.cells #[.int .i64 8, .int .u64 ((word (x.set.testBit) 0 : Nat) : Int), .int .u64 ((word (x.set.testBit) 1 : Nat) : Int), .int .u64 ((word (x.set.testBit) 2 : Nat) : Int), .int .u64 ((word (x.set.testBit) 3 : Nat) : Int), .slice B x.kids.len cap, .int .i64 x.lo, .int .i64 x.hi] 28)) = w2 at *
  have n0 := (HN.out).cell 0
  have n1 := (HN.out).cell 1
  have n2 := (HN.out).cell 2
  have n3 := (HN.out).cell 3
  have n4 := (HN.out).cell 4
  have n5 := (HN.out).cell 5
  have n6 := (HN.out).cell 6
  have n7 := (HN.out).cell 7
  have hln := (HN.out).lt
  simp only [List.getElem?_toArray, List.getElem?_cons_zero, List.getElem?_cons_succ] at n0 n1 n2 n3 n4 n5 n6 n7
  go_wp2
  go_light
  go_ret
  exact ⟨by rw [HV.out]; rfl, HB.out⟩
set_option maxHeartbeats 2000000 in
theorem rh_set0 (x : Nd) (P : Nat → Prop) (B : Option Addr) (cap : Nat) (w : World) (hl : x.kids.len ≤ 140737488355328) (ho : ∀ y ∈ x.nodes, aloneN y = true) (ht : TreesAt w P x.kids B) (hG : KidH x P) (hk : x.kind = 3) (h0 : isNoSet x.set = true) : Calls Tryz.prog 63 #[ndV x B cap] w fun e w' => e = .returned (.bool x.sum.hollow) ∧ Below w.heap.size w w' := by
  have HV := Lib.hid (show x.sum.hollow = true by first | (rw [sum_set hk, if_pos h0]; done) | (rw [sum_set hk, if_pos h0]; rfl))
  (have HE0 := Lib.hid (show word x.set.testBit 0 = 0 ∧ word x.set.testBit 1 = 0 ∧ word x.set.testBit 2 = 0 ∧ word x.set.testBit 3 = 0 by unfold isNoSet at h0; simpa using h0); clear h0)
  have hb : Below w.heap.size w (w.alloc (.cells #[.int .i64 x.kind, .int .u64 ((word (x.set.testBit) 0 : Nat) : Int), .int .u64 ((word (x.set.testBit) 1 : Nat) : Int), .int .u64 ((word (x.set.testBit) 2 : Nat) : Int), .int .u64 ((word (x.set.testBit) 3 : Nat) : Int), .slice B x.kids.len cap, .int .i64 x.lo, .int .i64 x.hi] 28)) := (Below.refl _ _).alloc (Nat.le_refl _) _
  have HB := Lib.hid hb
  have HN := Lib.hid (Blk.new w 28 #[.int .i64 x.kind, .int .u64 ((word (x.set.testBit) 0 : Nat) : Int), .int .u64 ((word (x.set.testBit) 1 : Nat) : Int), .int .u64 ((word (x.set.testBit) 2 : Nat) : Int), .int .u64 ((word (x.set.testBit) 3 : Nat) : Int), .slice B x.kids.len cap, .int .i64 x.lo, .int .i64 x.hi])
  have HT := Lib.hid (ht.below hb)
  have HG := Lib.hid hG
  have HO := Lib.hid ho
  clear hb ht hG ho
  unfold ndV
  rw [hk] at HN HT HB ⊢
  go_enter Tryz.func63, Tryz.ntmps63
  go_upto_region 1 with fail
  generalize (w.alloc (.cells #[.int .i64 3, .int .u64 ((word (x.set.testBit) 0 : Nat) : Int), .int .u64 ((word (x.set.testBit) 1 : Nat) : Int), .int .u64 ((word (x.set.testBit) 2 : Nat) : Int), .int .u64 ((word (x.set.testBit) 3 : Nat) : Int), .slice B x.kids.len cap, .int .i64 x.lo, .int .i64 x.hi] 28)) = w2 at *
  have n0 := (HN.out).cell 0
  have n1 := (HN.out).cell 1
  have n2 := (HN.out).cell 2
  have n3 := (HN.out).cell 3
  have n4 := (HN.out).cell 4
  have n5 := (HN.out).cell 5
  have n6 := (HN.out).cell 6
  have n7 := (HN.out).cell 7
  have hln := (HN.out).lt
  simp only [List.getElem?_toArray, List.getElem?_cons_zero, List.getElem?_cons_succ] at n0 n1 n2 n3 n4 n5 n6 n7
  (obtain ⟨e0, e1, e2, e3⟩ := HE0.out; rw [e0] at n1; rw [e1] at n2; rw [e2] at n3; rw [e3] at n4; clear e0 e1 e2 e3)
  go_wp2
  go_light
  go_ret
  exact ⟨by rw [HV.out]; rfl, HB.out⟩
set_option maxHeartbeats 2000000 in
theorem rh_set1 (x : Nd) (P : Nat → Prop) (B : Option Addr) (cap : Nat) (w : World) (hl : x.kids.len ≤ 140737488355328) (ho : ∀ y ∈ x.nodes, aloneN y = true) (ht : TreesAt w P x.kids B) (hG : KidH x P) (hk : x.kind = 3) (hn : word x.set.testBit 0 ≠ 0) : Calls Tryz.prog 63 #[ndV x B cap] w fun e w' => e = .returned (.bool x.sum.hollow) ∧ Below w.heap.size w w' := by
  have HV := Lib.hid (show x.sum.hollow = false by first | (rw [sum_set hk, (if_neg (by unfold isNoSet; simp [hn]))]; done) | (rw [sum_set hk, (if_neg (by unfold isNoSet; simp [hn]))]; rfl))
  (have hn1 : (((word x.set.testBit 0 : Nat) : Int) == 0) = false := (by rw [beq_eq_false_iff_ne]; omega); clear hn)
  have hb : Below w.heap.size w (w.alloc (.cells #[.int .i64 x.kind, .int .u64 ((word (x.set.testBit) 0 : Nat) : Int), .int .u64 ((word (x.set.testBit) 1 : Nat) : Int), .int .u64 ((word (x.set.testBit) 2 : Nat) : Int), .int .u64 ((word (x.set.testBit) 3 : Nat) : Int), .slice B x.kids.len cap, .int .i64 x.lo, .int .i64 x.hi] 28)) := (Below.refl _ _).alloc (Nat.le_refl _) _
  have HB := Lib.hid hb
  have HN := Lib.hid (Blk.new w 28 #[.int .i64 x.kind, .int .u64 ((word (x.set.testBit) 0 : Nat) : Int), .int .u64 ((word (x.set.testBit) 1 : Nat) : Int), .int .u64 ((word (x.set.testBit) 2 : Nat) : Int), .int .u64 ((word (x.set.testBit) 3 : Nat) : Int), .slice B x.kids.len cap, .int .i64 x.lo, .int .i64 x.hi])
  have HT := Lib.hid (ht.below hb)
  have HG := Lib.hid hG
  have HO := Lib.hid ho
  clear hb ht hG ho
  unfold ndV
  rw [hk] at HN HT HB ⊢
  go_enter Tryz.func63, Tryz.ntmps63
  go_upto_region 1 with fail
  generalize (w.alloc (.cells #[.int .i64 3, .int .u64 ((word (x.set.testBit) 0 : Nat) : Int), .int .u64 ((word (x.set.testBit) 1 : Nat) : Int), .int .u64 ((word (x.set.testBit) 2 : Nat) : Int), .int .u64 ((word (x.set.testBit) 3 : Nat) : Int), .slice B x.kids.len cap, .int .i64 x.lo, .int .i64 x.hi] 28)) = w2 at *
  have n0 := (HN.out).cell 0
  have n1 := (HN.out).cell 1
  have n2 := (HN.out).cell 2
  have n3 := (HN.out).cell 3
  have n4 := (HN.out).cell 4
  have n5 := (HN.out).cell 5
  have n6 := (HN.out).cell 6
  have n7 := (HN.out).cell 7
  have hln := (HN.out).lt
  simp only [List.getElem?_toArray, List.getElem?_cons_zero, List.getElem?_cons_succ] at n0 n1 n2 n3 n4 n5 n6 n7
  skip
  go_wp2
  go_light
  go_ret
  exact ⟨by rw [HV.out]; rfl, HB.out⟩
set_option maxHeartbeats 2000000 in
theorem rh_set2 (x : Nd) (P : Nat → Prop) (B : Option Addr) (cap : Nat) (w : World) (hl : x.kids.len ≤ 140737488355328) (ho : ∀ y ∈ x.nodes, aloneN y = true) (ht : TreesAt w P x.kids B) (hG : KidH x P) (hk : x.kind = 3) (h0 : word x.set.testBit 0 = 0) (hn : word x.set.testBit 1 ≠ 0) : Calls Tryz.prog 63 #[ndV x B cap] w fun e w' => e = .returned (.bool x.sum.hollow) ∧ Below w.heap.size w w' := by
  have HV := Lib.hid (show x.sum.hollow = false by first | (rw [sum_set hk, (if_neg (by unfold isNoSet; simp [hn]))]; done) | (rw [sum_set hk, (if_neg (by unfold isNoSet; simp [hn]))]; rfl))
  (have hn1 : (((word x.set.testBit 1 : Nat) : Int) == 0) = false := (by rw [beq_eq_false_iff_ne]; omega); have H0 := Lib.hid h0; clear hn h0)
  have hb : Below w.heap.size w (w.alloc (.cells #[.int .i64 x.kind, .int .u64 ((word (x.set.testBit) 0 : Nat) : Int), .int .u64 ((word (x.set.testBit) 1 : Nat) : Int), .int .u64 ((word (x.set.testBit) 2 : Nat) : Int), .int .u64 ((word (x.set.testBit) 3 : Nat) : Int), .slice B x.kids.len cap, .int .i64 x.lo, .int .i64 x.hi] 28)) := (Below.refl _ _).alloc (Nat.le_refl _) _
  have HB := Lib.hid hb
  have HN := Lib.hid (Blk.new w 28 #[.int .i64 x.kind, .int .u64 ((word (x.set.testBit) 0 : Nat) : Int), .int .u64 ((word (x.set.testBit) 1 : Nat) : Int), .int .u64 ((word (x.set.testBit) 2 : Nat) : Int), .int .u64 ((word (x.set.testBit) 3 : Nat) : Int), .slice B x.kids.len cap, .int .i64 x.lo, .int .i64 x.hi])
  have HT := Lib.hid (ht.below hb)
  have HG := Lib.hid hG
  have HO := Lib.hid ho
  clear hb ht hG ho
  unfold ndV
  rw [hk] at HN HT HB ⊢
  go_enter Tryz.func63, Tryz.ntmps63
  go_upto_region 1 with fail
  generalize (w.alloc (.cells #[.int .i64 3, .int .u64 ((word (x.set.testBit) 0 : Nat) : Int), .int .u64 ((word (x.set.testBit) 1 : Nat) : Int), .int .u64 ((word (x.set.testBit) 2 : Nat) : Int), .int .u64 ((word (x.set.testBit) 3 : Nat) : Int), .slice B x.kids.len cap, .int .i64 x.lo, .int .i64 x.hi] 28)) = w2 at *
  have n0 := (HN.out).cell 0
  have n1 := (HN.out).cell 1
  have n2 := (HN.out).cell 2
  have n3 := (HN.out).cell 3
  have n4 := (HN.out).cell 4
  have n5 := (HN.out).cell 5
  have n6 := (HN.out).cell 6
  have n7 := (HN.out).cell 7
  have hln := (HN.out).lt
  simp only [List.getElem?_toArray, List.getElem?_cons_zero, List.getElem?_cons_succ] at n0 n1 n2 n3 n4 n5 n6 n7
  (rw [H0.out] at n1)
  go_wp2
  go_light
  go_ret
  exact ⟨by rw [HV.out]; rfl, HB.out⟩
set_option maxHeartbeats 2000000 in
theorem rh_set3 (x : Nd) (P : Nat → Prop) (B : Option Addr) (cap : Nat) (w : World) (hl : x.kids.len ≤ 140737488355328) (ho : ∀ y ∈ x.nodes, aloneN y = true) (ht : TreesAt w P x.kids B) (hG : KidH x P) (hk : x.kind = 3) (h0 : word x.set.testBit 0 = 0) (h1 : word x.set.testBit 1 = 0) (hn : word x.set.testBit 2 ≠ 0) : Calls Tryz.prog 63 #[ndV x B cap] w fun e w' => e = .returned (.bool x.sum.hollow) ∧ Below w.heap.size w w' := by
  have HV := Lib.hid (show x.sum.hollow = false by first | (rw [sum_set hk, (if_neg (by unfold isNoSet; simp [hn]))]; done) | (rw [sum_set hk, (if_neg (by unfold isNoSet; simp [hn]))]; rfl))
  (have hn1 : (((word x.set.testBit 2 : Nat) : Int) == 0) = false := (by rw [beq_eq_false_iff_ne]; omega); have H0 := Lib.hid h0; have H1 := Lib.hid h1; clear hn h0 h1)
  have hb : Below w.heap.size w (w.alloc (.cells #[.int .i64 x.kind, .int .u64 ((word (x.set.testBit) 0 : Nat) : Int), .int .u64 ((word (x.set.testBit) 1 : Nat) : Int), .int .u64 ((word (x.set.testBit) 2 : Nat) : Int), .int .u64 ((word (x.set.testBit) 3 : Nat) : Int), .slice B x.kids.len cap, .int .i64 x.lo, .int .i64 x.hi] 28)) := (Below.refl _ _).alloc (Nat.le_refl _) _
  have HB := Lib.hid hb
  have HN := Lib.hid (Blk.new w 28 #[.int .i64 x.kind, .int .u64 ((word (x.set.testBit) 0 : Nat) : Int), .int .u64 ((word (x.set.testBit) 1 : Nat) : Int), .int .u64 ((word (x.set.testBit) 2 : Nat) : Int), .int .u64 ((word (x.set.testBit) 3 : Nat) : Int), .slice B x.kids.len cap, .int .i64 x.lo, .int .i64 x.hi])
  have HT := Lib.hid (ht.below hb)
  have HG := Lib.hid hG
  have HO := Lib.hid ho
  clear hb ht hG ho
  unfold ndV
  rw [hk] at HN HT HB ⊢
  go_enter Tryz.func63, Tryz.ntmps63
  go_upto_region 1 with fail
  generalize (w.alloc (.cells #[.int .i64 3, .int .u64 ((word (x.set.testBit) 0 : Nat) : Int), .int .u64 ((word (x.set.testBit) 1 : Nat) : Int), .int .u64 ((word (x.set.testBit) 2 : Nat) : Int), .int .u64 ((word (x.set.testBit) 3 : Nat) : Int), .slice B x.kids.len cap, .int .i64 x.lo, .int .i64 x.hi] 28)) = w2 at *
  have n0 := (HN.out).cell 0
  have n1 := (HN.out).cell 1
  have n2 := (HN.out).cell 2
  have n3 := (HN.out).cell 3
  have n4 := (HN.out).cell 4
  have n5 := (HN.out).cell 5
  have n6 := (HN.out).cell 6
  have n7 := (HN.out).cell 7
  have hln := (HN.out).lt
  simp only [List.getElem?_toArray, List.getElem?_cons_zero, List.getElem?_cons_succ] at n0 n1 n2 n3 n4 n5 n6 n7
  (rw [H0.out] at n1; rw [H1.out] at n2)
  go_wp2
  go_light
  go_ret
  exact ⟨by rw [HV.out]; rfl, HB.out⟩
set_option maxHeartbeats 2000000 in
theorem rh_set4 (x : Nd) (P : Nat → Prop) (B : Option Addr) (cap : Nat) (w : World) (hl : x.kids.len ≤ 140737488355328) (ho : ∀ y ∈ x.nodes, aloneN y = true) (ht : TreesAt w P x.kids B) (hG : KidH x P) (hk : x.kind = 3) (h0 : word x.set.testBit 0 = 0) (h1 : word x.set.testBit 1 = 0) (h2 : word x.set.testBit 2 = 0) (hn : word x.set.testBit 3 ≠ 0) : Calls Tryz.prog 63 #[ndV x B cap] w fun e w' => e = .returned (.bool x.sum.hollow) ∧ Below w.heap.size w w' := by
  have HV := Lib.hid (show x.sum.hollow = false by first | (rw [sum_set hk, (if_neg (by unfold isNoSet; simp [hn]))]; done) | (rw [sum_set hk, (if_neg (by unfold isNoSet; simp [hn]))]; rfl))
  (have hn1 : (((word x.set.testBit 3 : Nat) : Int) == 0) = false := (by rw [beq_eq_false_iff_ne]; omega); have H0 := Lib.hid h0; have H1 := Lib.hid h1; have H2 := Lib.hid h2; clear hn h0 h1 h2)
  have hb : Below w.heap.size w (w.alloc (.cells #[.int .i64 x.kind, .int .u64 ((word (x.set.testBit) 0 : Nat) : Int), .int .u64 ((word (x.set.testBit) 1 : Nat) : Int), .int .u64 ((word (x.set.testBit) 2 : Nat) : Int), .int .u64 ((word (x.set.testBit) 3 : Nat) : Int), .slice B x.kids.len cap, .int .i64 x.lo, .int .i64 x.hi] 28)) := (Below.refl _ _).alloc (Nat.le_refl _) _
  have HB := Lib.hid hb
  have HN := Lib.hid (Blk.new w 28 #[.int .i64 x.kind, .int .u64 ((word (x.set.testBit) 0 : Nat) : Int), .int .u64 ((word (x.set.testBit) 1 : Nat) : Int), .int .u64 ((word (x.set.testBit) 2 : Nat) : Int), .int .u64 ((word (x.set.testBit) 3 : Nat) : Int), .slice B x.kids.len cap, .int .i64 x.lo, .int .i64 x.hi])
  have HT := Lib.hid (ht.below hb)
  have HG := Lib.hid hG
  have HO := Lib.hid ho
  clear hb ht hG ho
  unfold ndV
  rw [hk] at HN HT HB ⊢
  go_enter Tryz.func63, Tryz.ntmps63
  go_upto_region 1 with fail
  generalize (w.alloc (.cells #[.int .i64 3, .int .u64 ((word (x.set.testBit) 0 : Nat) : Int), .int .u64 ((word (x.set.testBit) 1 : Nat) : Int), .int .u64 ((word (x.set.testBit) 2 : Nat) : Int), .int .u64 ((word (x.set.testBit) 3 : Nat) : Int), .slice B x.kids.len cap, .int .i64 x.lo, .int .i64 x.hi] 28)) = w2 at *
  have n0 := (HN.out).cell 0
  have n1 := (HN.out).cell 1
  have n2 := (HN.out).cell 2
  have n3 := (HN.out).cell 3
  have n4 := (HN.out).cell 4
  have n5 := (HN.out).cell 5
  have n6 := (HN.out).cell 6
  have n7 := (HN.out).cell 7
  have hln := (HN.out).lt
  simp only [List.getElem?_toArray, List.getElem?_cons_zero, List.getElem?_cons_succ] at n0 n1 n2 n3 n4 n5 n6 n7
  (rw [H0.out] at n1; rw [H1.out] at n2; rw [H2.out] at n3)
  go_wp2
  go_light
  go_ret
  exact ⟨by rw [HV.out]; rfl, HB.out⟩
set_option maxHeartbeats 2000000 in
theorem rh_plus (x : Nd) (P : Nat → Prop) (B : Option Addr) (cap : Nat) (w : World) (hl : x.kids.len ≤ 140737488355328) (ho : ∀ y ∈ x.nodes, aloneN y = true) (ht : TreesAt w P x.kids B) (hG : KidH x P) (hk : x.kind = 7) (z : Nd) (hz : x.kids.list[0]? = some z) (hk1 : x.kids.len = 1) : Calls Tryz.prog 63 #[ndV x B cap] w fun e w' => e = .returned (.bool x.sum.hollow) ∧ Below w.heap.size w w' := by
  have HV := Lib.hid (show x.sum.hollow = z.sum.hollow by rw [sum_plus hk hz, hol_rep]; simp [endF])
  have HK1 := Lib.hid hk1
  clear hk1
  have hb : Below w.heap.size w (w.alloc (.cells #[.int .i64 x.kind, .int .u64 ((word (x.set.testBit) 0 : Nat) : Int), .int .u64 ((word (x.set.testBit) 1 : Nat) : Int), .int .u64 ((word (x.set.testBit) 2 : Nat) : Int), .int .u64 ((word (x.set.testBit) 3 : Nat) : Int), .slice B x.kids.len cap, .int .i64 x.lo, .int .i64 x.hi] 28)) := (Below.refl _ _).alloc (Nat.le_refl _) _
  have HB := Lib.hid hb
  have HN := Lib.hid (Blk.new w 28 #[.int .i64 x.kind, .int .u64 ((word (x.set.testBit) 0 : Nat) : Int), .int .u64 ((word (x.set.testBit) 1 : Nat) : Int), .int .u64 ((word (x.set.testBit) 2 : Nat) : Int), .int .u64 ((word (x.set.testBit) 3 : Nat) : Int), .slice B x.kids.len cap, .int .i64 x.lo, .int .i64 x.hi])
  have HT := Lib.hid (ht.below hb)
  have HG := Lib.hid hG
  have HO := Lib.hid ho
  clear hb ht hG ho
  unfold ndV
  rw [hk] at HN HT HB ⊢
  go_enter Tryz.func63, Tryz.ntmps63
  go_upto_region 1 with fail
  generalize (w.alloc (.cells #[.int .i64 7, .int .u64 ((word (x.set.testBit) 0 : Nat) : Int), .int .u64 ((word (x.set.testBit) 1 : Nat) : Int), .int .u64 ((word (x.set.testBit) 2 : Nat) : Int), .int .u64 ((word (x.set.testBit) 3 : Nat) : Int), .slice B x.kids.len cap, .int .i64 x.lo, .int .i64 x.hi] 28)) = w2 at *
  have hk1 := HK1.out
  obtain ⟨b, o, C, capc, rfl, _, _, ⟨c0, c1, c2, c3, c4, c5, c6, c7⟩, hkz⟩ := HT.out.get hz
  simp only [Nat.zero_mul, Nat.add_zero] at c0 c1 c2 c3 c4 c5 c6 c7
  have hblk := World.block_lt_of_cell? w2 _ c0
  have HC := Lib.hid (HG.out 0 z C capc w2 hz hkz)
  clear hz hkz
  unfold ndV at HC
  have n0 := (HN.out).cell 0
  have n1 := (HN.out).cell 1
  have n2 := (HN.out).cell 2
  have n3 := (HN.out).cell 3
  have n4 := (HN.out).cell 4
  have n5 := (HN.out).cell 5
  have n6 := (HN.out).cell 6
  have n7 := (HN.out).cell 7
  have hln := (HN.out).lt
  simp only [List.getElem?_toArray, List.getElem?_cons_zero, List.getElem?_cons_succ] at n0 n1 n2 n3 n4 n5 n6 n7
  go_wp2_with fail
  refine HC.out.mono ?_
  rintro e w3 ⟨rfl, hb3⟩
  have HB3 := Lib.hid (HB.out.trans (hb3.mono HB.out.size))
  clear n0 n1 n2 n3 n4 n5 n6 n7 hln
  clear hb3 c0 c1 c2 c3 c4 c5 c6 c7 hblk HC
  dsimp only
  go_wp2
  go_light
  go_ret
  exact ⟨by rw [HV.out]; rfl, HB3.out⟩
set_option maxHeartbeats 2000000 in
theorem rh_rep0 (x : Nd) (P : Nat → Prop) (B : Option Addr) (cap : Nat) (w : World) (hl : x.kids.len ≤ 140737488355328) (ho : ∀ y ∈ x.nodes, aloneN y = true) (ht : TreesAt w P x.kids B) (hG : KidH x P) (hk : x.kind = 9) (z : Nd) (hz : x.kids.list[0]? = some z) (h0 : x.lo ≤ 0) : Calls Tryz.prog 63 #[ndV x B cap] w fun e w' => e = .returned (.bool x.sum.hollow) ∧ Below w.heap.size w w' := by
  have HV := Lib.hid (show x.sum.hollow = false by
    have := (nine_of (ho x (self_nodes x)) hk).1
    have e : x.lo = 0 := by omega
    rw [sum_rep hk hz, hol_rep, e]; simp)
  have hd : ¬ 0 < x.lo := by omega
  clear h0
  have hb : Below w.heap.size w (w.alloc (.cells #[.int .i64 x.kind, .int .u64 ((word (x.set.testBit) 0 : Nat) : Int), .int .u64 ((word (x.set.testBit) 1 : Nat) : Int), .int .u64 ((word (x.set.testBit) 2 : Nat) : Int), .int .u64 ((word (x.set.testBit) 3 : Nat) : Int), .slice B x.kids.len cap, .int .i64 x.lo, .int .i64 x.hi] 28)) := (Below.refl _ _).alloc (Nat.le_refl _) _
  have HB := Lib.hid hb
  have HN := Lib.hid (Blk.new w 28 #[.int .i64 x.kind, .int .u64 ((word (x.set.testBit) 0 : Nat) : Int), .int .u64 ((word (x.set.testBit) 1 : Nat) : Int), .int .u64 ((word (x.set.testBit) 2 : Nat) : Int), .int .u64 ((word (x.set.testBit) 3 : Nat) : Int), .slice B x.kids.len cap, .int .i64 x.lo, .int .i64 x.hi])
  have HT := Lib.hid (ht.below hb)
  have HG := Lib.hid hG
  have HO := Lib.hid ho
  clear hb ht hG ho
  unfold ndV
  rw [hk] at HN HT HB ⊢
  go_enter Tryz.func63, Tryz.ntmps63
  go_upto_region 1 with fail
  generalize (w.alloc (.cells #[.int .i64 9, .int .u64 ((word (x.set.testBit) 0 : Nat) : Int), .int .u64 ((word (x.set.testBit) 1 : Nat) : Int), .int .u64 ((word (x.set.testBit) 2 : Nat) : Int), .int .u64 ((word (x.set.testBit) 3 : Nat) : Int), .slice B x.kids.len cap, .int .i64 x.lo, .int .i64 x.hi] 28)) = w2 at *
  have n0 := (HN.out).cell 0
  have n1 := (HN.out).cell 1
  have n2 := (HN.out).cell 2
  have n3 := (HN.out).cell 3
  have n4 := (HN.out).cell 4
  have n5 := (HN.out).cell 5
  have n6 := (HN.out).cell 6
  have n7 := (HN.out).cell 7
  have hln := (HN.out).lt
  simp only [List.getElem?_toArray, List.getElem?_cons_zero, List.getElem?_cons_succ] at n0 n1 n2 n3 n4 n5 n6 n7
  go_wp2
  go_light
  go_ret
  exact ⟨by rw [HV.out]; rfl, HB.out⟩
set_option maxHeartbeats 2000000 in
theorem rh_rep1 (x : Nd) (P : Nat → Prop) (B : Option Addr) (cap : Nat) (w : World) (hl : x.kids.len ≤ 140737488355328) (ho : ∀ y ∈ x.nodes, aloneN y = true) (ht : TreesAt w P x.kids B) (hG : KidH x P) (hk : x.kind = 9) (z : Nd) (hz : x.kids.list[0]? = some z) (hk1 : x.kids.len = 1) (h0 : 0 < x.lo) : Calls Tryz.prog 63 #[ndV x B cap] w fun e w' => e = .returned (.bool x.sum.hollow) ∧ Below w.heap.size w w' := by
  have HV := Lib.hid (show x.sum.hollow = z.sum.hollow by
    have hn := nine_of (ho x (self_nodes x)) hk
    have e : ¬ x.lo = 0 := by omega
    have e2 : ¬ hiF x.hi = 0 := by unfold hiF endF; split <;> omega
    rw [sum_rep hk hz, hol_rep]; simp [e, e2])
  have HK1 := Lib.hid hk1
  clear hk1
  have hb : Below w.heap.size w (w.alloc (.cells #[.int .i64 x.kind, .int .u64 ((word (x.set.testBit) 0 : Nat) : Int), .int .u64 ((word (x.set.testBit) 1 : Nat) : Int), .int .u64 ((word (x.set.testBit) 2 : Nat) : Int), .int .u64 ((word (x.set.testBit) 3 : Nat) : Int), .slice B x.kids.len cap, .int .i64 x.lo, .int .i64 x.hi] 28)) := (Below.refl _ _).alloc (Nat.le_refl _) _
  have HB := Lib.hid hb
  have HN := Lib.hid (Blk.new w 28 #[.int .i64 x.kind, .int .u64 ((word (x.set.testBit) 0 : Nat) : Int), .int .u64 ((word (x.set.testBit) 1 : Nat) : Int), .int .u64 ((word (x.set.testBit) 2 : Nat) : Int), .int .u64 ((word (x.set.testBit) 3 : Nat) : Int), .slice B x.kids.len cap, .int .i64 x.lo, .int .i64 x.hi])
  have HT := Lib.hid (ht.below hb)
  have HG := Lib.hid hG
  have HO := Lib.hid ho
  clear hb ht hG ho
  unfold ndV
  rw [hk] at HN HT HB ⊢
  go_enter Tryz.func63, Tryz.ntmps63
  go_upto_region 1 with fail
  generalize (w.alloc (.cells #[.int .i64 9, .int .u64 ((word (x.set.testBit) 0 : Nat) : Int), .int .u64 ((word (x.set.testBit) 1 : Nat) : Int), .int .u64 ((word (x.set.testBit) 2 : Nat) : Int), .int .u64 ((word (x.set.testBit) 3 : Nat) : Int), .slice B x.kids.len cap, .int .i64 x.lo, .int .i64 x.hi] 28)) = w2 at *
  have hk1 := HK1.out
  obtain ⟨b, o, C, capc, rfl, _, _, ⟨c0, c1, c2, c3, c4, c5, c6, c7⟩, hkz⟩ := HT.out.get hz
  simp only [Nat.zero_mul, Nat.add_zero] at c0 c1 c2 c3 c4 c5 c6 c7
  have hblk := World.block_lt_of_cell? w2 _ c0
  have HC := Lib.hid (HG.out 0 z C capc w2 hz hkz)
  clear hz hkz
  unfold ndV at HC
  have n0 := (HN.out).cell 0
  have n1 := (HN.out).cell 1
  have n2 := (HN.out).cell 2
  have n3 := (HN.out).cell 3
  have n4 := (HN.out).cell 4
  have n5 := (HN.out).cell 5
  have n6 := (HN.out).cell 6
  have n7 := (HN.out).cell 7
  have hln := (HN.out).lt
  simp only [List.getElem?_toArray, List.getElem?_cons_zero, List.getElem?_cons_succ] at n0 n1 n2 n3 n4 n5 n6 n7
  go_wp2_with fail
  refine HC.out.mono ?_
  rintro e w3 ⟨rfl, hb3⟩
  have HB3 := Lib.hid (HB.out.trans (hb3.mono HB.out.size))
  clear n0 n1 n2 n3 n4 n5 n6 n7 hln
  clear hb3 c0 c1 c2 c3 c4 c5 c6 c7 hblk HC
  dsimp only
  go_wp2
  go_light
  go_ret
  exact ⟨by rw [HV.out]; rfl, HB3.out⟩
theorem any_one {l : List SumS} {k : Nat} {s : SumS} (h : l[k]? = some s) (hs : s.hollow = true) : l.any SumS.hollow = true := List.any_eq_true.2 ⟨s, List.mem_of_getElem? h, hs⟩
theorem any_none {l : List SumS} (h : ∀ (j : Nat) s, l[j]? = some s → s.hollow = false) : l.any SumS.hollow = false := by
  rw [List.any_eq_false]
  intro s hs
  obtain ⟨j, hj, rfl⟩ := List.getElem_of_mem hs
  rw [h j _ (List.getElem?_eq_getElem hj)]
  decide
theorem all_one {l : List SumS} {k : Nat} {s : SumS} (h : l[k]? = some s) (hs : s.hollow = false) : l.all SumS.hollow = false := List.all_eq_false.2 ⟨s, List.mem_of_getElem? h, by rw [hs]; decide⟩
theorem all_all {l : List SumS} (h : ∀ (j : Nat) s, l[j]? = some s → s.hollow = true) : l.all SumS.hollow = true := by
  rw [List.all_eq_true]
  intro s hs
  obtain ⟨j, hj, rfl⟩ := List.getElem_of_mem hs
  exact h j _ (List.getElem?_eq_getElem hj)
set_option maxHeartbeats 4000000 in
theorem rh_cat (x : Nd) (P : Nat → Prop) (B : Option Addr) (cap : Nat) (w : World) (hl : x.kids.len ≤ 140737488355328) (ho : ∀ y ∈ x.nodes, aloneN y = true) (ht : TreesAt w P x.kids B) (hG : KidH x P) (hk : x.kind = 4) : Calls Tryz.prog 63 #[ndV x B cap] w fun e w' => e = .returned (.bool x.sum.hollow) ∧ Below w.heap.size w w' := by
  have HV := Lib.hid (hol_cat hk)
  have hb : Below w.heap.size w (w.alloc (.cells #[.int .i64 x.kind, .int .u64 ((word (x.set.testBit) 0 : Nat) : Int), .int .u64 ((word (x.set.testBit) 1 : Nat) : Int), .int .u64 ((word (x.set.testBit) 2 : Nat) : Int), .int .u64 ((word (x.set.testBit) 3 : Nat) : Int), .slice B x.kids.len cap, .int .i64 x.lo, .int .i64 x.hi] 28)) := (Below.refl _ _).alloc (Nat.le_refl _) _
  have HB := Lib.hid hb
  have HN := Lib.hid (Blk.new w 28 #[.int .i64 x.kind, .int .u64 ((word (x.set.testBit) 0 : Nat) : Int), .int .u64 ((word (x.set.testBit) 1 : Nat) : Int), .int .u64 ((word (x.set.testBit) 2 : Nat) : Int), .int .u64 ((word (x.set.testBit) 3 : Nat) : Int), .slice B x.kids.len cap, .int .i64 x.lo, .int .i64 x.hi])
  have HT := Lib.hid (ht.below hb)
  have HG := Lib.hid hG
  have HO := Lib.hid ho
  clear hb ht hG ho
  unfold ndV
  rw [hk] at HN HT HB ⊢
  go_enter Tryz.func63, Tryz.ntmps63
  go_upto_region 1 with fail
  generalize (w.alloc (.cells #[.int .i64 4, .int .u64 ((word (x.set.testBit) 0 : Nat) : Int), .int .u64 ((word (x.set.testBit) 1 : Nat) : Int), .int .u64 ((word (x.set.testBit) 2 : Nat) : Int), .int .u64 ((word (x.set.testBit) 3 : Nat) : Int), .slice B x.kids.len cap, .int .i64 x.lo, .int .i64 x.hi] 28)) = w2 at *
  have n0 := HN.out.cell 0
  have hln := HN.out.lt
  simp only [List.getElem?_toArray, List.getElem?_cons_zero] at n0
  go_wp2
  clear n0 hln
  go_loopw [3] (fun i wr => ∃ k : Nat, i = .int .i64 (k : Int) ∧ k ≤ x.kids.len ∧ Hid (∀ j s, j < k → x.kids.sums[j]? = some s → s.hollow = false) ∧ Hid (Below w.heap.size w wr) ∧ Hid (Below w2.heap.size w2 wr)) (fun i _ => x.kids.len - (intOf i).toNat)
  case atStart => exact ⟨0, rfl, Nat.zero_le _, Lib.hid (fun j s h _ => absurd h (Nat.not_lt_zero _)), HB, Lib.hid (Below.refl _ _)⟩
  case round =>
    obtain ⟨k, rfl, hk, HA, HB, HW⟩ := hrel
    have HN2 := Lib.hid (HN.out.below HW.out HN.out.lt)
    have n5 := HN2.out.cell 5
    have hln := HN2.out.lt
    simp only [List.getElem?_toArray, List.getElem?_cons_zero, List.getElem?_cons_succ] at n5
    by_cases hlt : k < x.kids.len
    · obtain ⟨z, hz⟩ : ∃ z, x.kids.list[k]? = some z := ⟨_, List.getElem?_eq_getElem (by rw [Trees.len_list]; exact hlt)⟩
      obtain ⟨b, o, C, capc, rfl, _, _, ⟨c0, c1, c2, c3, c4, c5, c6, c7⟩, hkz⟩ := (HT.out.below HW.out).get hz
      have hdl : (k : Int) < (x.kids.len : Int) := by omega
      have HC := Lib.hid (HG.out k z C capc wr hz hkz)
      have HZ := Lib.hid (sums_get hz)
      clear hz hkz
      unfold ndV at HC
      go_wp2_with fail
      refine HC.out.mono ?_
      rintro e w3 ⟨rfl, hb3⟩
      have HB3 := Lib.hid (HB.out.trans (hb3.mono HB.out.size))
      have HW3 := Lib.hid (HW.out.trans (hb3.mono HW.out.size))
      clear hb3 HC c0 c1 c2 c3 c4 c5 c6 c7 n5 hln
      cases hz : z.sum.hollow with
      | false =>
        have HX := Lib.hid hz
        clear hz
        dsimp only
        go_wp2
        go_roundw
        case rel => exact ⟨k + 1, by go_num, by omega, Lib.hid (fun j s hj hs => by
          rcases Nat.lt_or_ge j k with h | h
          · exact HA.out j s h hs
          · obtain rfl : j = k := by omega
            rw [HZ.out] at hs
            cases hs
            exact HX.out), HB3, HW3⟩
        case measure => simp [intOf]; omega
      | true =>
        have HX := Lib.hid hz
        clear hz
        dsimp only
        go_wp2
        go_light
        go_ret
        exact ⟨by rw [HV.out, any_one HZ.out HX.out]; rfl, HB3.out⟩
    · obtain rfl : k = x.kids.len := by omega
      have hdl : ¬ ((x.kids.len : Int) < (x.kids.len : Int)) := by omega
      go_wp2
      go_light
      go_ret
      exact ⟨by rw [HV.out, any_none (fun j s hs => HA.out j s (by have := (List.getElem?_eq_some_iff.1 hs).1; rw [sums_len] at this; exact this) hs)]; rfl, HB.out⟩
set_option maxHeartbeats 4000000 in
theorem rh_alt (x : Nd) (P : Nat → Prop) (B : Option Addr) (cap : Nat) (w : World) (hl : x.kids.len ≤ 140737488355328) (ho : ∀ y ∈ x.nodes, aloneN y = true) (ht : TreesAt w P x.kids B) (hG : KidH x P) (hk : x.kind = 5) : Calls Tryz.prog 63 #[ndV x B cap] w fun e w' => e = .returned (.bool x.sum.hollow) ∧ Below w.heap.size w w' := by
  have HV := Lib.hid (hol_alt hk)
  have hb : Below w.heap.size w (w.alloc (.cells #[.int .i64 x.kind, .int .u64 ((word (x.set.testBit) 0 : Nat) : Int), .int .u64 ((word (x.set.testBit) 1 : Nat) : Int), .int .u64 ((word (x.set.testBit) 2 : Nat) : Int), .int .u64 ((word (x.set.testBit) 3 : Nat) : Int), .slice B x.kids.len cap, .int .i64 x.lo, .int .i64 x.hi] 28)) := (Below.refl _ _).alloc (Nat.le_refl _) _
  have HB := Lib.hid hb
  have HN := Lib.hid (Blk.new w 28 #[.int .i64 x.kind, .int .u64 ((word (x.set.testBit) 0 : Nat) : Int), .int .u64 ((word (x.set.testBit) 1 : Nat) : Int), .int .u64 ((word (x.set.testBit) 2 : Nat) : Int), .int .u64 ((word (x.set.testBit) 3 : Nat) : Int), .slice B x.kids.len cap, .int .i64 x.lo, .int .i64 x.hi])
  have HT := Lib.hid (ht.below hb)
  have HG := Lib.hid hG
  have HO := Lib.hid ho
  clear hb ht hG ho
  unfold ndV
  rw [hk] at HN HT HB ⊢
  go_enter Tryz.func63, Tryz.ntmps63
  go_upto_region 1 with fail
  generalize (w.alloc (.cells #[.int .i64 5, .int .u64 ((word (x.set.testBit) 0 : Nat) : Int), .int .u64 ((word (x.set.testBit) 1 : Nat) : Int), .int .u64 ((word (x.set.testBit) 2 : Nat) : Int), .int .u64 ((word (x.set.testBit) 3 : Nat) : Int), .slice B x.kids.len cap, .int .i64 x.lo, .int .i64 x.hi] 28)) = w2 at *
  have n0 := HN.out.cell 0
  have hln := HN.out.lt
  simp only [List.getElem?_toArray, List.getElem?_cons_zero] at n0
  go_wp2
  clear n0 hln
  go_loopw [4] (fun i wr => ∃ k : Nat, i = .int .i64 (k : Int) ∧ k ≤ x.kids.len ∧ Hid (∀ j s, j < k → x.kids.sums[j]? = some s → s.hollow = true) ∧ Hid (Below w.heap.size w wr) ∧ Hid (Below w2.heap.size w2 wr)) (fun i _ => x.kids.len - (intOf i).toNat)
  case atStart => exact ⟨0, rfl, Nat.zero_le _, Lib.hid (fun j s h _ => absurd h (Nat.not_lt_zero _)), HB, Lib.hid (Below.refl _ _)⟩
  case round =>
    obtain ⟨k, rfl, hk, HA, HB, HW⟩ := hrel
    have HN2 := Lib.hid (HN.out.below HW.out HN.out.lt)
    have n5 := HN2.out.cell 5
    have hln := HN2.out.lt
    simp only [List.getElem?_toArray, List.getElem?_cons_zero, List.getElem?_cons_succ] at n5
    by_cases hlt : k < x.kids.len
    · obtain ⟨z, hz⟩ : ∃ z, x.kids.list[k]? = some z := ⟨_, List.getElem?_eq_getElem (by rw [Trees.len_list]; exact hlt)⟩
      obtain ⟨b, o, C, capc, rfl, _, _, ⟨c0, c1, c2, c3, c4, c5, c6, c7⟩, hkz⟩ := (HT.out.below HW.out).get hz
      have hdl : (k : Int) < (x.kids.len : Int) := by omega
      have HC := Lib.hid (HG.out k z C capc wr hz hkz)
      have HZ := Lib.hid (sums_get hz)
      clear hz hkz
      unfold ndV at HC
      go_wp2_with fail
      refine HC.out.mono ?_
      rintro e w3 ⟨rfl, hb3⟩
      have HB3 := Lib.hid (HB.out.trans (hb3.mono HB.out.size))
      have HW3 := Lib.hid (HW.out.trans (hb3.mono HW.out.size))
      clear hb3 HC c0 c1 c2 c3 c4 c5 c6 c7 n5 hln
      cases hz : z.sum.hollow with
      | true =>
        have HX := Lib.hid hz
        clear hz
        dsimp only
        go_wp2
        go_roundw
        case rel => exact ⟨k + 1, by go_num, by omega, Lib.hid (fun j s hj hs => by
          rcases Nat.lt_or_ge j k with h | h
          · exact HA.out j s h hs
          · obtain rfl : j = k := by omega
            rw [HZ.out] at hs
            cases hs
            exact HX.out), HB3, HW3⟩
        case measure => simp [intOf]; omega
      | false =>
        have HX := Lib.hid hz
        clear hz
        dsimp only
        go_wp2
        go_light
        go_ret
        exact ⟨by rw [HV.out, all_one HZ.out HX.out]; rfl, HB3.out⟩
    · obtain rfl : k = x.kids.len := by omega
      have hdl : ¬ ((x.kids.len : Int) < (x.kids.len : Int)) := by omega
      go_wp2
      go_light
      go_ret
      exact ⟨by rw [HV.out, all_all (fun j s hs => HA.out j s (by have := (List.getElem?_eq_some_iff.1 hs).1; rw [sums_len] at this; exact this) hs)]; rfl, HB.out⟩
def RHolC (n : Nat) : Prop := ∀ (x : Nd) (P : Nat → Prop) (B : Option Addr) (cap : Nat) (w : World), x.size ≤ n → x.size ≤ 140737488355328 → (∀ y ∈ x.nodes, aloneN y = true) → TreesAt w P x.kids B → Calls Tryz.prog 63 #[ndV x B cap] w fun e w' => e = .returned (.bool x.sum.hollow) ∧ Below w.heap.size w w'
theorem rhol_step {n : Nat} (ih : RHolC n) : RHolC (n + 1) := by
  intro x P B cap w hsz hlen ho ht
  have hlk : x.kids.len ≤ 140737488355328 := by have := Trees.len_size x.kids; unfold Nd.size at hlen; omega
  have hG : KidH x P := fun i z C capc w' hz ht' => by
    have := Trees.size_get x.kids i z hz
    have hks : x.kids.size + 1 = x.size := by unfold Nd.size; omega
    exact ih z _ C capc w' (by omega) (by omega) (fun y hy => ho y (kid_nodes hz y hy)) ht'
  obtain ⟨a1, a9, a0, ak1, ak9⟩ := aloneN_kids (ho x (self_nodes x))
  by_cases k1 : x.kind = 1
  · exact rh_none x _ B cap w hlk ho ht hG k1
  by_cases k2 : x.kind = 2
  · exact rh_two x _ B cap w hlk ho ht hG k2
  by_cases k3 : x.kind = 3
  · by_cases w0 : word x.set.testBit 0 = 0
    rotate_left
    · exact rh_set1 x _ B cap w hlk ho ht hG k3 w0
    by_cases w1 : word x.set.testBit 1 = 0
    rotate_left
    · exact rh_set2 x _ B cap w hlk ho ht hG k3 w0 w1
    by_cases w2 : word x.set.testBit 2 = 0
    rotate_left
    · exact rh_set3 x _ B cap w hlk ho ht hG k3 w0 w1 w2
    by_cases w3 : word x.set.testBit 3 = 0
    rotate_left
    · exact rh_set4 x _ B cap w hlk ho ht hG k3 w0 w1 w2 w3
    exact rh_set0 x _ B cap w hlk ho ht hG k3 (by unfold isNoSet; simp [w0, w1, w2, w3])
  by_cases k4 : x.kind = 4
  · exact rh_cat x _ B cap w hlk ho ht hG k4
  by_cases k5 : x.kind = 5
  · exact rh_alt x _ B cap w hlk ho ht hG k5
  obtain ⟨z, _, hz⟩ := one_kid (a1 (by omega) (by omega))
  have hk1 := a1 (by omega) (by omega)
  by_cases k6 : x.kind = 6
  · exact rh_star x _ B cap w hlk ho ht hG k6 z hz
  by_cases k7 : x.kind = 7
  · exact rh_plus x _ B cap w hlk ho ht hG k7 z hz hk1
  by_cases k8 : x.kind = 8
  · exact rh_opt x _ B cap w hlk ho ht hG k8 z hz
  have k9 : x.kind = 9 := by omega
  rcases Int.lt_or_le 0 x.lo with h | h
  · exact rh_rep1 x _ B cap w hlk ho ht hG k9 z hz hk1 h
  · exact rh_rep0 x _ B cap w hlk ho ht hG k9 z hz h
theorem rhollow_go (x : Nd) (P : Nat → Prop) (B : Option Addr) (cap : Nat) (w : World) (hlen : x.size ≤ 140737488355328) (ho : ∀ y ∈ x.nodes, aloneN y = true) (ht : TreesAt w P x.kids B) : Calls Tryz.prog 63 #[ndV x B cap] w fun e w' => e = .returned (.bool x.sum.hollow) ∧ Below w.heap.size w w' := by
  have h : ∀ n, RHolC n := by
    intro n
    induction n with
    | zero => exact fun x _ _ _ _ h => by unfold Nd.size at h; omega
    | succ n ih => exact rhol_step ih
  exact h x.size x P B cap w (Nat.le_refl _) hlen ho ht
end Go.Proofs.YtfekpkelmliejaaGreatDoor
namespace Go.Proofs.YtfekpkelmliejaaGreatDoor
open Go.RowKit
set_option linter.unusedSimpArgs false
set_option linter.unusedVariables false
set_option maxRecDepth 100000

theorem ret_split {fn : Func} {t4 t6 : Tmp} (h : fn.results = #[.tmp t4, .cell t6 75]) {tmps : Array Value} {w : World} {g' : Nat} {x y c : Value}
    (hc : tmps.getD t4 undef = c) (hp' : tmps.getD t6 undef = .pointer (some ⟨g', 0, none⟩)) (hb' : Blk w g' 75 #[x, y]) :
    (results fn tmps).run Tryz.prog w = .ok (.tuple #[c, .agg #[x, y]]) w := by
  have h2 := run_loadVar_row (P := Tryz.prog) w g' 75 75 #[x, y] (0, 0) _ hb' Tryz.underlying75 rfl (by kernel_rfl)
  simp only [results, h]
  simp only [Array.getD_eq_getD_getElem?] at hc hp'
  simp [Sem.run_bind, hc, hp', asAddr, h2, Result.andThen]

theorem own_mono {w : World} {base base' size n : Nat} {e : TypeId} {v : Value} {xs : List Value} (h : w.ownsRow base e size v n xs) (hb : base' ≤ base) : w.ownsRow base' e size v n xs := by
  obtain ⟨h1, h2 | ⟨g, cap, cur, e1, e2, h3⟩⟩ := h
  · exact ⟨h1, .inl h2⟩
  · exact ⟨h1, .inr ⟨g, cap, cur, e1, Nat.le_trans hb e2, h3⟩⟩
/-- What a splitting gives. -/
def Cuts (r : Except Wrong (List Lex)) (w : World) (e : Ending) (w' : World) : Prop :=
  match r with
  | .ok l => ∃ v, e = .returned (.tuple #[v, .agg #[.int .i64 0, .int .i64 0]]) ∧ Below w.heap.size w w' ∧ w'.ownsRow w.heap.size 139 8 v l.length (lexCells l)
  | .error (k, q) => e = .returned (.tuple #[.slice none 0 0, .agg #[.int .i64 k, .int .i64 q]]) ∧ Below w.heap.size w w'

set_option maxHeartbeats 1000000 in
theorem split_long (A : Option Addr) (cap : Nat) (bs : List Nat) (w : World) (hlen : 65536 < bs.length) (hmax : bs.length ≤ 140737488355328) :
    Calls Tryz.prog 101 #[.slice A bs.length cap] w (Cuts (splitS bs) w) := by
  have hd : decide ((65536 : Int) < (bs.length : Int)) = true := by simp; omega
  have hd' : (65536 : Int) < (bs.length : Int) := by omega
  have Hb := Lib.hid (Blk.new w 75 #[.int .i64 0, .int .i64 0])
  obtain ⟨b0, b1, x0, x1⟩ := Hb.out.c2
  rw [splitS_long hlen]
  clear hlen
  go_enter Tryz.func101, Tryz.ntmps101
  go_wp2
  go_light
  refine bodyPost_ret (ret_split Tryz.results101 rfl rfl (Blk.new w 75 #[.int .i64 4, .int .i64 65536])) rfl ⟨rfl, (Below.refl w.heap.size w).alloc (Nat.le_refl _) _⟩

set_option maxHeartbeats 1000000 in
theorem split_none (A : Option Addr) (cap : Nat) (w : World) :
    Calls Tryz.prog 101 #[.slice A 0 cap] w (Cuts (splitS []) w) := by
  have Hb := Lib.hid ((Blk.new w 75 #[.int .i64 0, .int .i64 0]).alloc (.cells #[.slice A 0 cap, .int .i64 0, .slice none 0 0, .int .i64 0, .int .i64 0] 180))
  have hs : Blk ((w.alloc (.cells #[.int .i64 0, .int .i64 0] 75)).alloc (.cells #[.slice A 0 cap, .int .i64 0, .slice none 0 0, .int .i64 0, .int .i64 0] 180)) (w.heap.size + 1) 180 #[.slice A 0 cap, .int .i64 0, .slice none 0 0, .int .i64 0, .int .i64 0] := Blk.new_at (by simp)
  obtain ⟨b0, b1, x0, x1⟩ := Hb.out.c2
  have s1 := hs.cell 1
  have s2 := hs.cell 2
  have HB := Lib.hid (((Below.refl w.heap.size w).alloc (Nat.le_refl _) (.cells #[.int .i64 0, .int .i64 0] 75)).alloc (by simp) (.cells #[.slice A 0 cap, .int .i64 0, .slice none 0 0, .int .i64 0, .int .i64 0] 180))
  clear hs
  rw [splitS_go (bs := []) (by simp), splitF_end (by simp)]
  go_enter Tryz.func101, Tryz.ntmps101
  go_wp2
  go_loopw [16] (fun v16 wr => wr = ((w.alloc (.cells #[.int .i64 0, .int .i64 0] 75)).alloc (.cells #[.slice A 0 cap, .int .i64 0, .slice none 0 0, .int .i64 0, .int .i64 0] 180))) (fun _ wr => 0)
  case atStart => rfl
  case round =>
    obtain rfl := hrel
    go_wp2
    go_light
    refine bodyPost_ret (ret_split Tryz.results101 rfl rfl Hb.out) rfl ⟨_, rfl, HB.out, World.ownsRow_nil _ _ _ _⟩

set_option maxHeartbeats 4000000 in
theorem split_some (b o cap : Nat) (bs : List Nat) (w : World) (hA : BytesAt w w.heap.size (some ⟨b, o, none⟩) bs) (hcap : bs.length ≤ cap) (hlen : bs.length ≤ 65536) (h0 : 0 < bs.length) :
    Calls Tryz.prog 101 #[.slice (some ⟨b, o, none⟩) bs.length cap] w (Cuts (splitS bs) w) := by
  have hl := hA.2.1
  have hb := hA.1
  have hd : decide ((65536 : Int) < (bs.length : Int)) = false := by simp; omega
  have hd' : ¬ (65536 : Int) < (bs.length : Int) := by omega
  have Hb0 := Lib.hid ((Blk.new w 75 #[.int .i64 0, .int .i64 0]).alloc (.cells #[.slice (some ⟨b, o, none⟩) bs.length cap, .int .i64 0, .slice none 0 0, .int .i64 0, .int .i64 0] 180))
  have hS0 : Spl ((w.alloc (.cells #[.int .i64 0, .int .i64 0] 75)).alloc (.cells #[.slice (some ⟨b, o, none⟩) bs.length cap, .int .i64 0, .slice none 0 0, .int .i64 0, .int .i64 0] 180)) (w.heap.size + 1) b o bs.length cap 0 (.slice none 0 0) 0 0 := Blk.new_at (by simp)
  have HS0 := Lib.hid hS0
  have HB0 := Lib.hid (((Below.refl w.heap.size w).alloc (Nat.le_refl _) (.cells #[.int .i64 0, .int .i64 0] 75)).alloc (by simp) (.cells #[.slice (some ⟨b, o, none⟩) bs.length cap, .int .i64 0, .slice none 0 0, .int .i64 0, .int .i64 0] 180))
  have HA0 := Lib.hid ((hA.below HB0.out).more (Nat.le_succ _))
  have hz0 : (((w.alloc (.cells #[.int .i64 0, .int .i64 0] 75)).alloc (.cells #[.slice (some ⟨b, o, none⟩) bs.length cap, .int .i64 0, .slice none 0 0, .int .i64 0, .int .i64 0] 180))).heap.size = w.heap.size + 2 := by simp
  have hR0 : w.heap.size < (((w.alloc (.cells #[.int .i64 0, .int .i64 0] 75)).alloc (.cells #[.slice (some ⟨b, o, none⟩) bs.length cap, .int .i64 0, .slice none 0 0, .int .i64 0, .int .i64 0] 180))).heap.size := by omega
  clear hA
  obtain ⟨s0, s1, s2, s3, s4, f0, f1, f2, f3, f4⟩ := hS0.cells
  clear hS0
  go_enter Tryz.func101, Tryz.ntmps101
  go_wp2
  go_loopw [16] (fun v16 wr => ∃ (i f : Nat) (v : Value) (L : List Lex), i ≤ bs.length ∧ L.length ≤ i ∧ bs.length < i + f ∧ splitF bs f i L = splitS bs ∧ Spl wr (w.heap.size + 1) b o bs.length cap i v 0 0 ∧ wr.ownsRow (w.heap.size + 1) 139 8 v L.length (lexCells L) ∧ Below (w.heap.size + 1) ((w.alloc (.cells #[.int .i64 0, .int .i64 0] 75)).alloc (.cells #[.slice (some ⟨b, o, none⟩) bs.length cap, .int .i64 0, .slice none 0 0, .int .i64 0, .int .i64 0] 180)) wr) (fun _ wr => bs.length - (intOf ((wr.cell? ⟨w.heap.size + 1, 1, none⟩).getD undef)).toNat)
  case atStart => exact ⟨0, bs.length + 1, _, [], by omega, by simp, by omega, (splitS_go hlen).symm, HS0.out, World.ownsRow_nil _ _ _ _, Below.refl _ _⟩
  case round =>
    obtain ⟨i, f, v, L, hi, hL, hf, hF, hS, hrow, hB⟩ := hrel
    obtain ⟨t0, t1, t2, t3, t4, g0, g1, g2, g3, g4⟩ := hS.cells
    have hbr := Hb0.out.below hB (by omega)
    obtain ⟨r0, r1, e0, e1⟩ := hbr.c2
    have hsz := hB.size
    by_cases hlt : i < bs.length
    · have HG := Lib.hid (next_go (w.heap.size + 1) b o cap bs i v (w.heap.size + 1) L wr hS hrow (Nat.le_refl _) (by omega) (HA0.out.below hB) hlt hcap hlen)
      have hdl : (i : Int) < (bs.length : Int) := by omega
      have Hbr := Lib.hid hbr
      have HB := Lib.hid hB
      have HF := Lib.hid hF
      obtain ⟨f, rfl⟩ : ∃ f', f = f' + 1 := ⟨f - 1, by omega⟩
      clear hS hrow hB hbr hF r0 r1 e0 e1 t2 t3 t4
      cases hx : lexS bs i with
      | error x =>
        obtain ⟨k, q⟩ := x
        have hk0 : (k != 0) = true := by rw [bne_iff_ne]; exact lexS_err hb hx
        have HV := Lib.hid (show splitS bs = .error (k, q) by rw [← HF.out]; exact splitF_bad hlt hx)
        have Hx := Lib.hid hx
        clear hx
        go_wp2_with fail
        refine HG.out.mono ?_
        intro e w1 hs
        unfold Stepped at hs
        rw [Hx.out] at hs
        obtain ⟨rfl, hb1, i1, v1, hS1⟩ := hs
        obtain ⟨u0, u1, u2, u3, u4, g0, g1, g2, g3, g4⟩ := hS1.cells
        have hbr1 := Hbr.out.below hb1 (by omega)
        obtain ⟨r0, r1, e0, e1⟩ := hbr1.c2
        have Hbr1 := Lib.hid hbr1
        have HB1 := Lib.hid (HB.out.trans hb1)
        clear hb1 hS1 hbr1
        go_wp2
        go_region
        all_goals go_wp2
        all_goals go_light
        all_goals rw [HV.out]
        refine bodyPost_ret (ret_split Tryz.results101 rfl rfl Hbr1.out.drew.set2) rfl ⟨rfl, below_set2 (HB0.out.trans (HB1.out.mono (Nat.le_succ _))).drew (Nat.le_refl _) _ _⟩
      | ok x =>
        obtain ⟨x, j⟩ := x
        have hj := lexS_some hb hlt hx
        have HV := Lib.hid (show splitF bs f j (L ++ [x]) = splitS bs by rw [← HF.out]; exact (splitF_ok hlt hx).symm)
        have Hx := Lib.hid hx
        clear hx
        go_wp2_with fail
        refine HG.out.mono ?_
        intro e w1 hs
        unfold Stepped at hs
        rw [Hx.out] at hs
        obtain ⟨rfl, hb1, v1, hS1, hrow1⟩ := hs
        obtain ⟨u0, u1, u2, u3, u4, g0, g1, g2, g3, g4⟩ := hS1.cells
        have HS1 := Lib.hid hS1
        have HR1 := Lib.hid hrow1
        have HB1 := Lib.hid (HB.out.trans hb1)
        clear hb1 hS1 hrow1
        go_wp2
        go_roundw
        case rel => exact ⟨j, f, v1, L ++ [x], hj.2, by simp; omega, by omega, HV.out, HS1.out, by simpa using HR1.out, HB1.out⟩
        case measure => rw [t1, u1]; simp [intOf]; omega
    · have HV := Lib.hid (show splitS bs = .ok L by rw [← hF]; obtain ⟨f, rfl⟩ : ∃ f', f = f' + 1 := ⟨f - 1, by omega⟩; exact splitF_end (by omega))
      have hdl : ¬ (i : Int) < (bs.length : Int) := by omega
      have Hbr := Lib.hid hbr
      have HB := Lib.hid hB
      have HS := Lib.hid hS
      have Hrow := Lib.hid hrow
      have Hne := Lib.hid (blk_not_row hbr (by decide) hrow)
      clear hS hrow hB hbr hF
      go_wp2
      go_light
      rw [HV.out]
      refine bodyPost_ret (ret_split Tryz.results101 rfl rfl Hbr.out.set2) rfl ⟨v, rfl, below_set2 (HB0.out.trans (HB.out.mono (Nat.le_succ _))) (Nat.le_refl _) _ _, own_set (own_set (own_mono Hrow.out (Nat.le_succ _)) Hne.out) Hne.out⟩
theorem split_go (A : Option Addr) (cap : Nat) (bs : List Nat) (w : World) (hA : BytesAt w w.heap.size A bs) (hcap : bs.length ≤ cap) :
    Calls Tryz.prog 101 #[.slice A bs.length cap] w (Cuts (splitS bs) w) := by
  rcases Nat.eq_zero_or_pos bs.length with h0 | h0
  · obtain rfl : bs = [] := List.length_eq_zero_iff.mp h0
    exact split_none A cap w
  rcases Nat.lt_or_ge 65536 bs.length with h | h
  · exact split_long A cap bs w h hA.2.1
  obtain ⟨b, o, rfl, _, _⟩ := hA.2.2 h0
  exact split_some b o cap bs w hA hcap h h0

end Go.Proofs.YtfekpkelmliejaaGreatDoor
