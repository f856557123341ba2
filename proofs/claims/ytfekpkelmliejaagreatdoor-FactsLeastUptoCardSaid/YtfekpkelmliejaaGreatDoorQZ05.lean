/-
  The reference of chapter 10: Hollow. The reference of chapter 10: Shortest. The contract of parse.Lexemes. The contracts of the closures of the splitter's rep. Rows turned round in place: bytes. Rows of nodes turned round in place. A row of nodes cloned and turned round: mirror.turned at nodes. The contract of mirror.Tree. Words turned round: mirror.Word and the reference's Word. The contract of the reference's Same at two trees that are the same. Rows of lexemes appended to a row of one's own; the reference's lex and kid of chapter 08. The contracts of the layer's state and link, and of an edge laid. The contracts of the layer's plain, cat, loop and opt, their kids' being known.
-/
import Derived.Shelf.RegionOpenPlain
import Derived.BigRegion
import Derived.StillTailTactics
import Derived.Deep.Onto
import Derived.Test.YtfekpkelmliejaaGreatDoorQZ04
import Derived.Test.YtfekpkelmliejaaGreatDoorQZ03
import Derived.Test.YtfekpkelmliejaaGreatDoorQZ02
import Derived.Test.YtfekpkelmliejaaGreatDoorQEscCl
import Derived.Test.YtfekpkelmliejaaGreatDoorQZ01
namespace Go.Proofs.YtfekpkelmliejaaGreatDoor
open Go.RowKit
set_option linter.unusedSimpArgs false
set_option linter.unusedVariables false
set_option maxRecDepth 100000

theorem hol_cat {x : Nd} (h : x.kind = 4) : x.sum.hollow = x.kids.sums.any SumS.hollow := by rw [sum_cat h, cat_hollow]; rfl
theorem hol_alt {x : Nd} (h : x.kind = 5) : x.sum.hollow = x.kids.sums.all SumS.hollow := by rw [sum_alt h, alt_hollow]; rfl
theorem hol_rep (a : SumS) (lo hi : Int) : (repeatedF a lo hi).hollow = (!decide (hi = 0) && (!decide (lo = 0) && a.hollow)) := by
  unfold repeatedF
  by_cases h : hi = 0
  · rw [if_pos (.inl h)]; simp [h, fnilF]
  by_cases h0 : lo = 0
  · cases ha : a.hollow with
    | true => rw [if_pos (.inr ⟨rfl, h0⟩)]; simp [h0, fnilF]
    | false => rw [if_neg (by simp [h]), if_neg (by simp)]; simp [h0, ha]
  · cases ha : a.hollow with
    | true => rw [if_neg (by simp [h, h0]), if_pos rfl]; simp [h, h0, nothingF]
    | false => rw [if_neg (by simp [h]), if_neg (by simp)]; simp [ha]
/-- What a call for the kids may use. -/
def KidH (x : Nd) (P : Nat → Prop) : Prop := ∀ (i : Nat) (z : Nd) (C : Option Addr) (capc : Nat) (w' : World), x.kids.list[i]? = some z → TreesAt w' P z.kids C → Calls Tryz.prog 63 #[ndV z C capc] w' fun e w'' => e = .returned (.bool z.sum.hollow) ∧ Below w'.heap.size w' w''
set_option maxHeartbeats 2000000 in
theorem rh_none (x : Nd) (P : Nat → Prop) (B : Option Addr) (cap : Nat) (w : World) (hl : x.kids.len ≤ 140737488355328) (ho : ∀ y ∈ x.nodes, aloneN y = true) (ht : TreesAt w P x.kids B) (hG : KidH x P) (hk : x.kind = 1) : Calls Tryz.prog 63 #[ndV x B cap] w fun e w' => e = .returned (.bool x.sum.hollow) ∧ Below w.heap.size w w' := by
  have HV := Lib.hid (show x.sum.hollow = true by (rw [sum_none hk]; rfl))
  have hb : Below w.heap.size w (w.alloc (.cells #[.int .i64 x.kind, .int .u64 ((word (x.set.testBit) 0 : Nat) : Int), .int .u64 ((word (x.set.testBit) 1 : Nat) : Int), .int .u64 ((word (x.set.testBit) 2 : Nat) : Int), .int .u64 ((word (x.set.testBit) 3 : Nat) : Int), .slice B x.kids.len cap, .int .i64 x.lo, .int .i64 x.hi] 28)) := (Below.refl _ _).alloc (Nat.le_refl _) _
  have HB := Lib.hid hb
  have HN := Lib.hid (Blk.new w 28 #[.int .i64 x.kind, .int .u64 ((word (x.set.testBit) 0 : Nat) : Int), .int .u64 ((word (x.set.testBit) 1 : Nat) : Int), .int .u64 ((word (x.set.testBit) 2 : Nat) : Int), .int .u64 ((word (x.set.testBit) 3 : Nat) : Int), .slice B x.kids.len cap, .int .i64 x.lo, .int .i64 x.hi])
  have HT := Lib.hid (ht.below hb)
  have HG := Lib.hid hG
  have HO := Lib.hid ho
  clear hb ht hG ho
  unfold ndV
  rw [hk] at HN HT HB ⊢
  go_enter Tryz.func63, Tryz.ntmps63
  go_upto_region 1 with fail
  generalize (w.alloc (.cells #[.int .i64 1, .int .u64 ((word (x.set.testBit) 0 : Nat) : Int), .int .u64 ((word (x.set.testBit) 1 : Nat) : Int), .int .u64 ((word (x.set.testBit) 2 : Nat) : Int), .int .u64 ((word (x.set.testBit) 3 : Nat) : Int), .slice B x.kids.len cap, .int .i64 x.lo, .int .i64 x.hi] 28)) = w2 at *
  have n0 := (HN.out).cell 0
  have n1 := (HN.out).cell 1
  have n2 := (HN.out).cell 2
  have n3 := (HN.out).cell 3
  have n4 := (HN.out).cell 4
  have n5 := (HN.out).cell 5
  have n6 := (HN.out).cell 6
  have n7 := (HN.out).cell 7
  have hln := (HN.out).lt
  simp only [List.getElem?_toArray, List.getElem?_cons_zero, List.getElem?_cons_succ] at n0 n1 n2 n3 n4 n5 n6 n7
  go_wp2
  go_light
  go_ret
  exact ⟨by rw [HV.out]; rfl, HB.out⟩
set_option maxHeartbeats 2000000 in
theorem rh_two (x : Nd) (P : Nat → Prop) (B : Option Addr) (cap : Nat) (w : World) (hl : x.kids.len ≤ 140737488355328) (ho : ∀ y ∈ x.nodes, aloneN y = true) (ht : TreesAt w P x.kids B) (hG : KidH x P) (hk : x.kind = 2) : Calls Tryz.prog 63 #[ndV x B cap] w fun e w' => e = .returned (.bool x.sum.hollow) ∧ Below w.heap.size w w' := by
  have HV := Lib.hid (show x.sum.hollow = false by (rw [sum_two hk]; rfl))
  have hb : Below w.heap.size w (w.alloc (.cells #[.int .i64 x.kind, .int .u64 ((word (x.set.testBit) 0 : Nat) : Int), .int .u64 ((word (x.set.testBit) 1 : Nat) : Int), .int .u64 ((word (x.set.testBit) 2 : Nat) : Int), .int .u64 ((word (x.set.testBit) 3 : Nat) : Int), .slice B x.kids.len cap, .int .i64 x.lo, .int .i64 x.hi] 28)) := (Below.refl _ _).alloc (Nat.le_refl _) _
  have HB := Lib.hid hb
  have HN := Lib.hid (Blk.new w 28 #[.int .i64 x.kind, .int .u64 ((word (x.set.testBit) 0 : Nat) : Int), .int .u64 ((word (x.set.testBit) 1 : Nat) : Int), .int .u64 ((word (x.set.testBit) 2 : Nat) : Int), .int .u64 ((word (x.set.testBit) 3 : Nat) : Int), .slice B x.kids.len cap, .int .i64 x.lo, .int .i64 x.hi])
  have HT := Lib.hid (ht.below hb)
  have HG := Lib.hid hG
  have HO := Lib.hid ho
  clear hb ht hG ho
  unfold ndV
  rw [hk] at HN HT HB ⊢
  go_enter Tryz.func63, Tryz.ntmps63
  go_upto_region 1 with fail
  generalize (w.alloc (.cells #[.int .i64 2, .int .u64 ((word (x.set.testBit) 0 : Nat) : Int), .int .u64 ((word (x.set.testBit) 1 : Nat) : Int), .int .u64 ((word (x.set.testBit) 2 : Nat) : Int), .int .u64 ((word (x.set.testBit) 3 : Nat) : Int), .slice B x.kids.len cap, .int .i64 x.lo, .int .i64 x.hi] 28)) = w2 at *
  have n0 := (HN.out).cell 0
  have n1 := (HN.out).cell 1
  have n2 := (HN.out).cell 2
  have n3 := (HN.out).cell 3
  have n4 := (HN.out).cell 4
  have n5 := (HN.out).cell 5
  have n6 := (HN.out).cell 6
  have n7 := (HN.out).cell 7
  have hln := (HN.out).lt
  simp only [List.getElem?_toArray, List.getElem?_cons_zero, List.getElem?_cons_succ] at n0 n1 n2 n3 n4 n5 n6 n7
  go_wp2
  go_light
  go_ret
  exact ⟨by rw [HV.out]; rfl, HB.out⟩
set_option maxHeartbeats 2000000 in
theorem rh_star (x : Nd) (P : Nat → Prop) (B : Option Addr) (cap : Nat) (w : World) (hl : x.kids.len ≤ 140737488355328) (ho : ∀ y ∈ x.nodes, aloneN y = true) (ht : TreesAt w P x.kids B) (hG : KidH x P) (hk : x.kind = 6) (z : Nd) (hz : x.kids.list[0]? = some z) : Calls Tryz.prog 63 #[ndV x B cap] w fun e w' => e = .returned (.bool x.sum.hollow) ∧ Below w.heap.size w w' := by
  have HV := Lib.hid (show x.sum.hollow = false by rw [sum_star hk hz, hol_rep]; simp)
  have hb : Below w.heap.size w (w.alloc (.cells #[.int .i64 x.kind, .int .u64 ((word (x.set.testBit) 0 : Nat) : Int), .int .u64 ((word (x.set.testBit) 1 : Nat) : Int), .int .u64 ((word (x.set.testBit) 2 : Nat) : Int), .int .u64 ((word (x.set.testBit) 3 : Nat) : Int), .slice B x.kids.len cap, .int .i64 x.lo, .int .i64 x.hi] 28)) := (Below.refl _ _).alloc (Nat.le_refl _) _
  have HB := Lib.hid hb
  have HN := Lib.hid (Blk.new w 28 #[.int .i64 x.kind, .int .u64 ((word (x.set.testBit) 0 : Nat) : Int), .int .u64 ((word (x.set.testBit) 1 : Nat) : Int), .int .u64 ((word (x.set.testBit) 2 : Nat) : Int), .int .u64 ((word (x.set.testBit) 3 : Nat) : Int), .slice B x.kids.len cap, .int .i64 x.lo, .int .i64 x.hi])
  have HT := Lib.hid (ht.below hb)
  have HG := Lib.hid hG
  have HO := Lib.hid ho
  clear hb ht hG ho
  unfold ndV
  rw [hk] at HN HT HB ⊢
  go_enter Tryz.func63, Tryz.ntmps63
  go_upto_region 1 with fail
  generalize (w.alloc (.cells #[.int .i64 6, .int .u64 ((word (x.set.testBit) 0 : Nat) : Int), .int .u64 ((word (x.set.testBit) 1 : Nat) : Int), .int .u64 ((word (x.set.testBit) 2 : Nat) : Int), .int .u64 ((word (x.set.testBit) 3 : Nat) : Int), .slice B x.kids.len cap, .int .i64 x.lo, .int .i64 x.hi] 28)) = w2 at *
  have n0 := (HN.out).cell 0
  have n1 := (HN.out).cell 1
  have n2 := (HN.out).cell 2
  have n3 := (HN.out).cell 3
  have n4 := (HN.out).cell 4
  have n5 := (HN.out).cell 5
  have n6 := (HN.out).cell 6
  have n7 := (HN.out).cell 7
  have hln := (HN.out).lt
  simp only [List.getElem?_toArray, List.getElem?_cons_zero, List.getElem?_cons_succ] at n0 n1 n2 n3 n4 n5 n6 n7
  go_wp2
  go_light
  go_ret
  exact ⟨by rw [HV.out]; rfl, HB.out⟩
set_option maxHeartbeats 2000000 in
theorem rh_opt (x : Nd) (P : Nat → Prop) (B : Option Addr) (cap : Nat) (w : World) (hl : x.kids.len ≤ 140737488355328) (ho : ∀ y ∈ x.nodes, aloneN y = true) (ht : TreesAt w P x.kids B) (hG : KidH x P) (hk : x.kind = 8) (z : Nd) (hz : x.kids.list[0]? = some z) : Calls Tryz.prog 63 #[ndV x B cap] w fun e w' => e = .returned (.bool x.sum.hollow) ∧ Below w.heap.size w w' := by
  have HV := Lib.hid (show x.sum.hollow = false by rw [sum_opt hk hz, hol_rep]; simp)
  have hb : Below w.heap.size w (w.alloc (.cells #[.int .i64 x.kind, .int .u64 ((word (x.set.testBit) 0 : Nat) : Int), .int .u64 ((word (x.set.testBit) 1 : Nat) : Int), .int .u64 ((word (x.set.testBit) 2 : Nat) : Int), .int .u64 ((word (x.set.testBit) 3 : Nat) : Int), .slice B x.kids.len cap, .int .i64 x.lo, .int .i64 x.hi] 28)) := (Below.refl _ _).alloc (Nat.le_refl _) _
  have HB := Lib.hid hb
  have HN := Lib.hid (Blk.new w 28 #[.int .i64 x.kind, .int .u64 ((word (x.set.testBit) 0 : Nat) : Int), .int .u64 ((word (x.set.testBit) 1 : Nat) : Int), .int .u64 ((word (x.set.testBit) 2 : Nat) : Int), .int .u64 ((word (x.set.testBit) 3 : Nat) : Int), .slice B x.kids.len cap, .int .i64 x.lo, .int .i64 x.hi])
  have HT := Lib.hid (ht.below hb)
  have HG := Lib.hid hG
  have HO := Lib.hid ho
  clear hb ht hG ho
  unfold ndV
  rw [hk] at HN HT HB ⊢
  go_enter Tryz.func63, Tryz.ntmps63
  go_upto_region 1 with fail
  generalize (w.alloc (.cells #[.int .i64 8, .int .u64 ((word (x.set.testBit) 0 : Nat) : Int), .int .u64 ((word (x.set.testBit) 1 : Nat) : Int), .int .u64 ((word (x.set.testBit) 2 : Nat) : Int), .int .u64 ((word (x.set.testBit) 3 : Nat) : Int), .slice B x.kids.len cap, .int .i64 x.lo, .int .i64 x.hi] 28)) = w2 at *
  have n0 := (HN.out).cell 0
  have n1 := (HN.out).cell 1
  have n2 := (HN.out).cell 2
  have n3 := (HN.out).cell 3
  have n4 := (HN.out).cell 4
  have n5 := (HN.out).cell 5
  have n6 := (HN.out).cell 6
  have n7 := (HN.out).cell 7
  have hln := (HN.out).lt
  simp only [List.getElem?_toArray, List.getElem?_cons_zero, List.getElem?_cons_succ] at n0 n1 n2 n3 n4 n5 n6 n7
  go_wp2
  go_light
  go_ret
  exact ⟨by rw [HV.out]; rfl, HB.out⟩
set_option maxHeartbeats 2000000 in
theorem rh_set0 (x : Nd) (P : Nat → Prop) (B : Option Addr) (cap : Nat) (w : World) (hl : x.kids.len ≤ 140737488355328) (ho : ∀ y ∈ x.nodes, aloneN y = true) (ht : TreesAt w P x.kids B) (hG : KidH x P) (hk : x.kind = 3) (h0 : isNoSet x.set = true) : Calls Tryz.prog 63 #[ndV x B cap] w fun e w' => e = .returned (.bool x.sum.hollow) ∧ Below w.heap.size w w' := by
  have HV := Lib.hid (show x.sum.hollow = true by first | (rw [sum_set hk, if_pos h0]; done) | (rw [sum_set hk, if_pos h0]; rfl))
  (have HE0 := Lib.hid (show word x.set.testBit 0 = 0 ∧ word x.set.testBit 1 = 0 ∧ word x.set.testBit 2 = 0 ∧ word x.set.testBit 3 = 0 by unfold isNoSet at h0; simpa using h0); clear h0)
  have hb : Below w.heap.size w (w.alloc (.cells #[.int .i64 x.kind, .int .u64 ((word (x.set.testBit) 0 : Nat) : Int), .int .u64 ((word (x.set.testBit) 1 : Nat) : Int), .int .u64 ((word (x.set.testBit) 2 : Nat) : Int), .int .u64 ((word (x.set.testBit) 3 : Nat) : Int), .slice B x.kids.len cap, .int .i64 x.lo, .int .i64 x.hi] 28)) := (Below.refl _ _).alloc (Nat.le_refl _) _
  have HB := Lib.hid hb
  have HN := Lib.hid (Blk.new w 28 #[.int .i64 x.kind, .int .u64 ((word (x.set.testBit) 0 : Nat) : Int), .int .u64 ((word (x.set.testBit) 1 : Nat) : Int), .int .u64 ((word (x.set.testBit) 2 : Nat) : Int), .int .u64 ((word (x.set.testBit) 3 : Nat) : Int), .slice B x.kids.len cap, .int .i64 x.lo, .int .i64 x.hi])
  have HT := Lib.hid (ht.below hb)
  have HG := Lib.hid hG
  have HO := Lib.hid ho
  clear hb ht hG ho
  unfold ndV
  rw [hk] at HN HT HB ⊢
  go_enter Tryz.func63, Tryz.ntmps63
  go_upto_region 1 with fail
  generalize (w.alloc (.cells #[.int .i64 3, .int .u64 ((word (x.set.testBit) 0 : Nat) : Int), .int .u64 ((word (x.set.testBit) 1 : Nat) : Int), .int .u64 ((word (x.set.testBit) 2 : Nat) : Int), .int .u64 ((word (x.set.testBit) 3 : Nat) : Int), .slice B x.kids.len cap, .int .i64 x.lo, .int .i64 x.hi] 28)) = w2 at *
  have n0 := (HN.out).cell 0
  have n1 := (HN.out).cell 1
  have n2 := (HN.out).cell 2
  have n3 := (HN.out).cell 3
  have n4 := (HN.out).cell 4
  have n5 := (HN.out).cell 5
  have n6 := (HN.out).cell 6
  have n7 := (HN.out).cell 7
  have hln := (HN.out).lt
  simp only [List.getElem?_toArray, List.getElem?_cons_zero, List.getElem?_cons_succ] at n0 n1 n2 n3 n4 n5 n6 n7
  (obtain ⟨e0, e1, e2, e3⟩ := HE0.out; rw [e0] at n1; rw [e1] at n2; rw [e2] at n3; rw [e3] at n4; clear e0 e1 e2 e3)
  go_wp2
  go_light
  go_ret
  exact ⟨by rw [HV.out]; rfl, HB.out⟩
set_option maxHeartbeats 2000000 in
theorem rh_set1 (x : Nd) (P : Nat → Prop) (B : Option Addr) (cap : Nat) (w : World) (hl : x.kids.len ≤ 140737488355328) (ho : ∀ y ∈ x.nodes, aloneN y = true) (ht : TreesAt w P x.kids B) (hG : KidH x P) (hk : x.kind = 3) (hn : word x.set.testBit 0 ≠ 0) : Calls Tryz.prog 63 #[ndV x B cap] w fun e w' => e = .returned (.bool x.sum.hollow) ∧ Below w.heap.size w w' := by
  have HV := Lib.hid (show x.sum.hollow = false by first | (rw [sum_set hk, (if_neg (by unfold isNoSet; simp [hn]))]; done) | (rw [sum_set hk, (if_neg (by unfold isNoSet; simp [hn]))]; rfl))
  (have hn1 : (((word x.set.testBit 0 : Nat) : Int) == 0) = false := (by rw [beq_eq_false_iff_ne]; omega); clear hn)
  have hb : Below w.heap.size w (w.alloc (.cells #[.int .i64 x.kind, .int .u64 ((word (x.set.testBit) 0 : Nat) : Int), .int .u64 ((word (x.set.testBit) 1 : Nat) : Int), .int .u64 ((word (x.set.testBit) 2 : Nat) : Int), .int .u64 ((word (x.set.testBit) 3 : Nat) : Int), .slice B x.kids.len cap, .int .i64 x.lo, .int .i64 x.hi] 28)) := (Below.refl _ _).alloc (Nat.le_refl _) _
  have HB := Lib.hid hb
  have HN := Lib.hid (Blk.new w 28 #[.int .i64 x.kind, .int .u64 ((word (x.set.testBit) 0 : Nat) : Int), .int .u64 ((word (x.set.testBit) 1 : Nat) : Int), .int .u64 ((word (x.set.testBit) 2 : Nat) : Int), .int .u64 ((word (x.set.testBit) 3 : Nat) : Int), .slice B x.kids.len cap, .int .i64 x.lo, .int .i64 x.hi])
  have HT := Lib.hid (ht.below hb)
  have HG := Lib.hid hG
  have HO := Lib.hid ho
  clear hb ht hG ho
  unfold ndV
  rw [hk] at HN HT HB ⊢
  go_enter Tryz.func63, Tryz.ntmps63
  go_upto_region 1 with fail
  generalize (w.alloc (.cells #[.int .i64 3, .int .u64 ((word (x.set.testBit) 0 : Nat) : Int), .int .u64 ((word (x.set.testBit) 1 : Nat) : Int), .int .u64 ((word (x.set.testBit) 2 : Nat) : Int), .int .u64 ((word (x.set.testBit) 3 : Nat) : Int), .slice B x.kids.len cap, .int .i64 x.lo, .int .i64 x.hi] 28)) = w2 at *
  have n0 := (HN.out).cell 0
  have n1 := (HN.out).cell 1
  have n2 := (HN.out).cell 2
  have n3 := (HN.out).cell 3
  have n4 := (HN.out).cell 4
  have n5 := (HN.out).cell 5
  have n6 := (HN.out).cell 6
  have n7 := (HN.out).cell 7
  have hln := (HN.out).lt
  simp only [List.getElem?_toArray, List.getElem?_cons_zero, List.getElem?_cons_succ] at n0 n1 n2 n3 n4 n5 n6 n7
  skip
  go_wp2
  go_light
  go_ret
  exact ⟨by rw [HV.out]; rfl, HB.out⟩
set_option maxHeartbeats 2000000 in
theorem rh_set2 (x : Nd) (P : Nat → Prop) (B : Option Addr) (cap : Nat) (w : World) (hl : x.kids.len ≤ 140737488355328) (ho : ∀ y ∈ x.nodes, aloneN y = true) (ht : TreesAt w P x.kids B) (hG : KidH x P) (hk : x.kind = 3) (h0 : word x.set.testBit 0 = 0) (hn : word x.set.testBit 1 ≠ 0) : Calls Tryz.prog 63 #[ndV x B cap] w fun e w' => e = .returned (.bool x.sum.hollow) ∧ Below w.heap.size w w' := by
  have HV := Lib.hid (show x.sum.hollow = false by first | (rw [sum_set hk, (if_neg (by unfold isNoSet; simp [hn]))]; done) | (rw [sum_set hk, (if_neg (by unfold isNoSet; simp [hn]))]; rfl))
  (have hn1 : (((word x.set.testBit 1 : Nat) : Int) == 0) = false := (by rw [beq_eq_false_iff_ne]; omega); have H0 := Lib.hid h0; clear hn h0)
  have hb : Below w.heap.size w (w.alloc (.cells #[.int .i64 x.kind, .int .u64 ((word (x.set.testBit) 0 : Nat) : Int), .int .u64 ((word (x.set.testBit) 1 : Nat) : Int), .int .u64 ((word (x.set.testBit) 2 : Nat) : Int), .int .u64 ((word (x.set.testBit) 3 : Nat) : Int), .slice B x.kids.len cap, .int .i64 x.lo, .int .i64 x.hi] 28)) := (Below.refl _ _).alloc (Nat.le_refl _) _
  have HB := Lib.hid hb
  have HN := Lib.hid (Blk.new w 28 #[.int .i64 x.kind, .int .u64 ((word (x.set.testBit) 0 : Nat) : Int), .int .u64 ((word (x.set.testBit) 1 : Nat) : Int), .int .u64 ((word (x.set.testBit) 2 : Nat) : Int), .int .u64 ((word (x.set.testBit) 3 : Nat) : Int), .slice B x.kids.len cap, .int .i64 x.lo, .int .i64 x.hi])
  have HT := Lib.hid (ht.below hb)
  have HG := Lib.hid hG
  have HO := Lib.hid ho
  clear hb ht hG ho
  unfold ndV
  rw [hk] at HN HT HB ⊢
  go_enter Tryz.func63, Tryz.ntmps63
  go_upto_region 1 with fail
  generalize (w.alloc (.cells #[.int .i64 3, .int .u64 ((word (x.set.testBit) 0 : Nat) : Int), .int .u64 ((word (x.set.testBit) 1 : Nat) : Int), .int .u64 ((word (x.set.testBit) 2 : Nat) : Int), .int .u64 ((word (x.set.testBit) 3 : Nat) : Int), .slice B x.kids.len cap, .int .i64 x.lo, .int .i64 x.hi] 28)) = w2 at *
  have n0 := (HN.out).cell 0
  have n1 := (HN.out).cell 1
  have n2 := (HN.out).cell 2
  have n3 := (HN.out).cell 3
  have n4 := (HN.out).cell 4
  have n5 := (HN.out).cell 5
  have n6 := (HN.out).cell 6
  have n7 := (HN.out).cell 7
  have hln := (HN.out).lt
  simp only [List.getElem?_toArray, List.getElem?_cons_zero, List.getElem?_cons_succ] at n0 n1 n2 n3 n4 n5 n6 n7
  (rw [H0.out] at n1)
  go_wp2
  go_light
  go_ret
  exact ⟨by rw [HV.out]; rfl, HB.out⟩
set_option maxHeartbeats 2000000 in
theorem rh_set3 (x : Nd) (P : Nat → Prop) (B : Option Addr) (cap : Nat) (w : World) (hl : x.kids.len ≤ 140737488355328) (ho : ∀ y ∈ x.nodes, aloneN y = true) (ht : TreesAt w P x.kids B) (hG : KidH x P) (hk : x.kind = 3) (h0 : word x.set.testBit 0 = 0) (h1 : word x.set.testBit 1 = 0) (hn : word x.set.testBit 2 ≠ 0) : Calls Tryz.prog 63 #[ndV x B cap] w fun e w' => e = .returned (.bool x.sum.hollow) ∧ Below w.heap.size w w' := by
  have HV := Lib.hid (show x.sum.hollow = false by first | (rw [sum_set hk, (if_neg (by unfold isNoSet; simp [hn]))]; done) | (rw [sum_set hk, (if_neg (by unfold isNoSet; simp [hn]))]; rfl))
  (have hn1 : (((word x.set.testBit 2 : Nat) : Int) == 0) = false := (by rw [beq_eq_false_iff_ne]; omega); have H0 := Lib.hid h0; have H1 := Lib.hid h1; clear hn h0 h1)
  have hb : Below w.heap.size w (w.alloc (.cells #[.int .i64 x.kind, .int .u64 ((word (x.set.testBit) 0 : Nat) : Int), .int .u64 ((word (x.set.testBit) 1 : Nat) : Int), .int .u64 ((word (x.set.testBit) 2 : Nat) : Int), .int .u64 ((word (x.set.testBit) 3 : Nat) : Int), .slice B x.kids.len cap, .int .i64 x.lo, .int .i64 x.hi] 28)) := (Below.refl _ _).alloc (Nat.le_refl _) _
  have HB := Lib.hid hb
  have HN := Lib.hid (Blk.new w 28 #[.int .i64 x.kind, .int .u64 ((word (x.set.testBit) 0 : Nat) : Int), .int .u64 ((word (x.set.testBit) 1 : Nat) : Int), .int .u64 ((word (x.set.testBit) 2 : Nat) : Int), .int .u64 ((word (x.set.testBit) 3 : Nat) : Int), .slice B x.kids.len cap, .int .i64 x.lo, .int .i64 x.hi])
  have HT := Lib.hid (ht.below hb)
  have HG := Lib.hid hG
  have HO := Lib.hid ho
  clear hb ht hG ho
  unfold ndV
  rw [hk] at HN HT HB ⊢
  go_enter Tryz.func63, Tryz.ntmps63
  go_upto_region 1 with fail
  generalize (w.alloc (.cells #[.int .i64 3, .int .u64 ((word (x.set.testBit) 0 : Nat) : Int), .int .u64 ((word (x.set.testBit) 1 : Nat) : Int), .int .u64 ((word (x.set.testBit) 2 : Nat) : Int), .int .u64 ((word (x.set.testBit) 3 : Nat) : Int), .slice B x.kids.len cap, .int .i64 x.lo, .int .i64 x.hi] 28)) = w2 at *
  have n0 := (HN.out).cell 0
  have n1 := (HN.out).cell 1
  have n2 := (HN.out).cell 2
  have n3 := (HN.out).cell 3
  have n4 := (HN.out).cell 4
  have n5 := (HN.out).cell 5
  have n6 := (HN.out).cell 6
  have n7 := (HN.out).cell 7
  have hln := (HN.out).lt
  simp only [List.getElem?_toArray, List.getElem?_cons_zero, List.getElem?_cons_succ] at n0 n1 n2 n3 n4 n5 n6 n7
  (rw [H0.out] at n1; rw [H1.out] at n2)
  go_wp2
  go_light
  go_ret
  exact ⟨by rw [HV.out]; rfl, HB.out⟩
set_option maxHeartbeats 2000000 in
theorem rh_set4 (x : Nd) (P : Nat → Prop) (B : Option Addr) (cap : Nat) (w : World) (hl : x.kids.len ≤ 140737488355328) (ho : ∀ y ∈ x.nodes, aloneN y = true) (ht : TreesAt w P x.kids B) (hG : KidH x P) (hk : x.kind = 3) (h0 : word x.set.testBit 0 = 0) (h1 : word x.set.testBit 1 = 0) (h2 : word x.set.testBit 2 = 0) (hn : word x.set.testBit 3 ≠ 0) : Calls Tryz.prog 63 #[ndV x B cap] w fun e w' => e = .returned (.bool x.sum.hollow) ∧ Below w.heap.size w w' := by
  have HV := Lib.hid (show x.sum.hollow = false by first | (rw [sum_set hk, (if_neg (by unfold isNoSet; simp [hn]))]; done) | (rw [sum_set hk, (if_neg (by unfold isNoSet; simp [hn]))]; rfl))
  (have hn1 : (((word x.set.testBit 3 : Nat) : Int) == 0) = false := (by rw [beq_eq_false_iff_ne]; omega); have H0 := Lib.hid h0; have H1 := Lib.hid h1; have H2 := Lib.hid h2; clear hn h0 h1 h2)
  have hb : Below w.heap.size w (w.alloc (.cells #[.int .i64 x.kind, .int .u64 ((word (x.set.testBit) 0 : Nat) : Int), .int .u64 ((word (x.set.testBit) 1 : Nat) : Int), .int .u64 ((word (x.set.testBit) 2 : Nat) : Int), .int .u64 ((word (x.set.testBit) 3 : Nat) : Int), .slice B x.kids.len cap, .int .i64 x.lo, .int .i64 x.hi] 28)) := (Below.refl _ _).alloc (Nat.le_refl _) _
  have HB := Lib.hid hb
  have HN := Lib.hid (Blk.new w 28 #[.int .i64 x.kind, .int .u64 ((word (x.set.testBit) 0 : Nat) : Int), .int .u64 ((word (x.set.testBit) 1 : Nat) : Int), .int .u64 ((word (x.set.testBit) 2 : Nat) : Int), .int .u64 ((word (x.set.testBit) 3 : Nat) : Int), .slice B x.kids.len cap, .int .i64 x.lo, .int .i64 x.hi])
  have HT := Lib.hid (ht.below hb)
  have HG := Lib.hid hG
  have HO := Lib.hid ho
  clear hb ht hG ho
  unfold ndV
  rw [hk] at HN HT HB ⊢
  go_enter Tryz.func63, Tryz.ntmps63
  go_upto_region 1 with fail
  generalize (w.alloc (.cells #[.int .i64 3, .int .u64 ((word (x.set.testBit) 0 : Nat) : Int), .int .u64 ((word (x.set.testBit) 1 : Nat) : Int), .int .u64 ((word (x.set.testBit) 2 : Nat) : Int), .int .u64 ((word (x.set.testBit) 3 : Nat) : Int), .slice B x.kids.len cap, .int .i64 x.lo, .int .i64 x.hi] 28)) = w2 at *
  have n0 := (HN.out).cell 0
  have n1 := (HN.out).cell 1
  have n2 := (HN.out).cell 2
  have n3 := (HN.out).cell 3
  have n4 := (HN.out).cell 4
  have n5 := (HN.out).cell 5
  have n6 := (HN.out).cell 6
  have n7 := (HN.out).cell 7
  have hln := (HN.out).lt
  simp only [List.getElem?_toArray, List.getElem?_cons_zero, List.getElem?_cons_succ] at n0 n1 n2 n3 n4 n5 n6 n7
  (rw [H0.out] at n1; rw [H1.out] at n2; rw [H2.out] at n3)
  go_wp2
  go_light
  go_ret
  exact ⟨by rw [HV.out]; rfl, HB.out⟩
set_option maxHeartbeats 2000000 in
theorem rh_plus (x : Nd) (P : Nat → Prop) (B : Option Addr) (cap : Nat) (w : World) (hl : x.kids.len ≤ 140737488355328) (ho : ∀ y ∈ x.nodes, aloneN y = true) (ht : TreesAt w P x.kids B) (hG : KidH x P) (hk : x.kind = 7) (z : Nd) (hz : x.kids.list[0]? = some z) (hk1 : x.kids.len = 1) : Calls Tryz.prog 63 #[ndV x B cap] w fun e w' => e = .returned (.bool x.sum.hollow) ∧ Below w.heap.size w w' := by
  have HV := Lib.hid (show x.sum.hollow = z.sum.hollow by rw [sum_plus hk hz, hol_rep]; simp [endF])
  have HK1 := Lib.hid hk1
  clear hk1
  have hb : Below w.heap.size w (w.alloc (.cells #[.int .i64 x.kind, .int .u64 ((word (x.set.testBit) 0 : Nat) : Int), .int .u64 ((word (x.set.testBit) 1 : Nat) : Int), .int .u64 ((word (x.set.testBit) 2 : Nat) : Int), .int .u64 ((word (x.set.testBit) 3 : Nat) : Int), .slice B x.kids.len cap, .int .i64 x.lo, .int .i64 x.hi] 28)) := (Below.refl _ _).alloc (Nat.le_refl _) _
  have HB := Lib.hid hb
  have HN := Lib.hid (Blk.new w 28 #[.int .i64 x.kind, .int .u64 ((word (x.set.testBit) 0 : Nat) : Int), .int .u64 ((word (x.set.testBit) 1 : Nat) : Int), .int .u64 ((word (x.set.testBit) 2 : Nat) : Int), .int .u64 ((word (x.set.testBit) 3 : Nat) : Int), .slice B x.kids.len cap, .int .i64 x.lo, .int .i64 x.hi])
  have HT := Lib.hid (ht.below hb)
  have HG := Lib.hid hG
  have HO := Lib.hid ho
  clear hb ht hG ho
  unfold ndV
  rw [hk] at HN HT HB ⊢
  go_enter Tryz.func63, Tryz.ntmps63
  go_upto_region 1 with fail
  generalize (w.alloc (.cells #[.int .i64 7, .int .u64 ((word (x.set.testBit) 0 : Nat) : Int), .int .u64 ((word (x.set.testBit) 1 : Nat) : Int), .int .u64 ((word (x.set.testBit) 2 : Nat) : Int), .int .u64 ((word (x.set.testBit) 3 : Nat) : Int), .slice B x.kids.len cap, .int .i64 x.lo, .int .i64 x.hi] 28)) = w2 at *
  have hk1 := HK1.out
  obtain ⟨b, o, C, capc, rfl, _, _, ⟨c0, c1, c2, c3, c4, c5, c6, c7⟩, hkz⟩ := HT.out.get hz
  simp only [Nat.zero_mul, Nat.add_zero] at c0 c1 c2 c3 c4 c5 c6 c7
  have hblk := World.block_lt_of_cell? w2 _ c0
  have HC := Lib.hid (HG.out 0 z C capc w2 hz hkz)
  clear hz hkz
  unfold ndV at HC
  have n0 := (HN.out).cell 0
  have n1 := (HN.out).cell 1
  have n2 := (HN.out).cell 2
  have n3 := (HN.out).cell 3
  have n4 := (HN.out).cell 4
  have n5 := (HN.out).cell 5
  have n6 := (HN.out).cell 6
  have n7 := (HN.out).cell 7
  have hln := (HN.out).lt
  simp only [List.getElem?_toArray, List.getElem?_cons_zero, List.getElem?_cons_succ] at n0 n1 n2 n3 n4 n5 n6 n7
  go_wp2_with fail
  refine HC.out.mono ?_
  rintro e w3 ⟨rfl, hb3⟩
  have HB3 := Lib.hid (HB.out.trans (hb3.mono HB.out.size))
  clear n0 n1 n2 n3 n4 n5 n6 n7 hln
  clear hb3 c0 c1 c2 c3 c4 c5 c6 c7 hblk HC
  dsimp only
  go_wp2
  go_light
  go_ret
  exact ⟨by rw [HV.out]; rfl, HB3.out⟩
set_option maxHeartbeats 2000000 in
theorem rh_rep0 (x : Nd) (P : Nat → Prop) (B : Option Addr) (cap : Nat) (w : World) (hl : x.kids.len ≤ 140737488355328) (ho : ∀ y ∈ x.nodes, aloneN y = true) (ht : TreesAt w P x.kids B) (hG : KidH x P) (hk : x.kind = 9) (z : Nd) (hz : x.kids.list[0]? = some z) (h0 : x.lo ≤ 0) : Calls Tryz.prog 63 #[ndV x B cap] w fun e w' => e = .returned (.bool x.sum.hollow) ∧ Below w.heap.size w w' := by
  have HV := Lib.hid (show x.sum.hollow = false by
    have := (nine_of (ho x (self_nodes x)) hk).1
    have e : x.lo = 0 := by omega
    rw [sum_rep hk hz, hol_rep, e]; simp)
  have hd : ¬ 0 < x.lo := by omega
  clear h0
  have hb : Below w.heap.size w (w.alloc (.cells #[.int .i64 x.kind, .int .u64 ((word (x.set.testBit) 0 : Nat) : Int), .int .u64 ((word (x.set.testBit) 1 : Nat) : Int), .int .u64 ((word (x.set.testBit) 2 : Nat) : Int), .int .u64 ((word (x.set.testBit) 3 : Nat) : Int), .slice B x.kids.len cap, .int .i64 x.lo, .int .i64 x.hi] 28)) := (Below.refl _ _).alloc (Nat.le_refl _) _
  have HB := Lib.hid hb
  have HN := Lib.hid (Blk.new w 28 #[.int .i64 x.kind, .int .u64 ((word (x.set.testBit) 0 : Nat) : Int), .int .u64 ((word (x.set.testBit) 1 : Nat) : Int), .int .u64 ((word (x.set.testBit) 2 : Nat) : Int), .int .u64 ((word (x.set.testBit) 3 : Nat) : Int), .slice B x.kids.len cap, .int .i64 x.lo, .int .i64 x.hi])
  have HT := Lib.hid (ht.below hb)
  have HG := Lib.hid hG
  have HO := Lib.hid ho
  clear hb ht hG ho
  unfold ndV
  rw [hk] at HN HT HB ⊢
  go_enter Tryz.func63, Tryz.ntmps63
  go_upto_region 1 with fail
  generalize (w.alloc (.cells #[.int .i64 9, .int .u64 ((word (x.set.testBit) 0 : Nat) : Int), .int .u64 ((word (x.set.testBit) 1 : Nat) : Int), .int .u64 ((word (x.set.testBit) 2 : Nat) : Int), .int .u64 ((word (x.set.testBit) 3 : Nat) : Int), .slice B x.kids.len cap, .int .i64 x.lo, .int .i64 x.hi] 28)) = w2 at *
  have n0 := (HN.out).cell 0
  have n1 := (HN.out).cell 1
  have n2 := (HN.out).cell 2
  have n3 := (HN.out).cell 3
  have n4 := (HN.out).cell 4
  have n5 := (HN.out).cell 5
  have n6 := (HN.out).cell 6
  have n7 := (HN.out).cell 7
  have hln := (HN.out).lt
  simp only [List.getElem?_toArray, List.getElem?_cons_zero, List.getElem?_cons_succ] at n0 n1 n2 n3 n4 n5 n6 n7
  go_wp2
  go_light
  go_ret
  exact ⟨by rw [HV.out]; rfl, HB.out⟩
set_option maxHeartbeats 2000000 in
theorem rh_rep1 (x : Nd) (P : Nat → Prop) (B : Option Addr) (cap : Nat) (w : World) (hl : x.kids.len ≤ 140737488355328) (ho : ∀ y ∈ x.nodes, aloneN y = true) (ht : TreesAt w P x.kids B) (hG : KidH x P) (hk : x.kind = 9) (z : Nd) (hz : x.kids.list[0]? = some z) (hk1 : x.kids.len = 1) (h0 : 0 < x.lo) : Calls Tryz.prog 63 #[ndV x B cap] w fun e w' => e = .returned (.bool x.sum.hollow) ∧ Below w.heap.size w w' := by
  have HV := Lib.hid (show x.sum.hollow = z.sum.hollow by
    have hn := nine_of (ho x (self_nodes x)) hk
    have e : ¬ x.lo = 0 := by omega
    have e2 : ¬ hiF x.hi = 0 := by unfold hiF endF; split <;> omega
    rw [sum_rep hk hz, hol_rep]; simp [e, e2])
  have HK1 := Lib.hid hk1
  clear hk1
  have hb : Below w.heap.size w (w.alloc (.cells #[.int .i64 x.kind, .int .u64 ((word (x.set.testBit) 0 : Nat) : Int), .int .u64 ((word (x.set.testBit) 1 : Nat) : Int), .int .u64 ((word (x.set.testBit) 2 : Nat) : Int), .int .u64 ((word (x.set.testBit) 3 : Nat) : Int), .slice B x.kids.len cap, .int .i64 x.lo, .int .i64 x.hi] 28)) := (Below.refl _ _).alloc (Nat.le_refl _) _
  have HB := Lib.hid hb
  have HN := Lib.hid (Blk.new w 28 #[.int .i64 x.kind, .int .u64 ((word (x.set.testBit) 0 : Nat) : Int), .int .u64 ((word (x.set.testBit) 1 : Nat) : Int), .int .u64 ((word (x.set.testBit) 2 : Nat) : Int), .int .u64 ((word (x.set.testBit) 3 : Nat) : Int), .slice B x.kids.len cap, .int .i64 x.lo, .int .i64 x.hi])
  have HT := Lib.hid (ht.below hb)
  have HG := Lib.hid hG
  have HO := Lib.hid ho
  clear hb ht hG ho
  unfold ndV
  rw [hk] at HN HT HB ⊢
  go_enter Tryz.func63, Tryz.ntmps63
  go_upto_region 1 with fail
  generalize (w.alloc (.cells #[.int .i64 9, .int .u64 ((word (x.set.testBit) 0 : Nat) : Int), .int .u64 ((word (x.set.testBit) 1 : Nat) : Int), .int .u64 ((word (x.set.testBit) 2 : Nat) : Int), .int .u64 ((word (x.set.testBit) 3 : Nat) : Int), .slice B x.kids.len cap, .int .i64 x.lo, .int .i64 x.hi] 28)) = w2 at *
  have hk1 := HK1.out
  obtain ⟨b, o, C, capc, rfl, _, _, ⟨c0, c1, c2, c3, c4, c5, c6, c7⟩, hkz⟩ := HT.out.get hz
  simp only [Nat.zero_mul, Nat.add_zero] at c0 c1 c2 c3 c4 c5 c6 c7
  have hblk := World.block_lt_of_cell? w2 _ c0
  have HC := Lib.hid (HG.out 0 z C capc w2 hz hkz)
  clear hz hkz
  unfold ndV at HC
  have n0 := (HN.out).cell 0
  have n1 := (HN.out).cell 1
  have n2 := (HN.out).cell 2
  have n3 := (HN.out).cell 3
  have n4 := (HN.out).cell 4
  have n5 := (HN.out).cell 5
  have n6 := (HN.out).cell 6
  have n7 := (HN.out).cell 7
  have hln := (HN.out).lt
  simp only [List.getElem?_toArray, List.getElem?_cons_zero, List.getElem?_cons_succ] at n0 n1 n2 n3 n4 n5 n6 n7
  go_wp2_with fail
  refine HC.out.mono ?_
  rintro e w3 ⟨rfl, hb3⟩
  have HB3 := Lib.hid (HB.out.trans (hb3.mono HB.out.size))
  clear n0 n1 n2 n3 n4 n5 n6 n7 hln
  clear hb3 c0 c1 c2 c3 c4 c5 c6 c7 hblk HC
  dsimp only
  go_wp2
  go_light
  go_ret
  exact ⟨by rw [HV.out]; rfl, HB3.out⟩
theorem any_one {l : List SumS} {k : Nat} {s : SumS} (h : l[k]? = some s) (hs : s.hollow = true) : l.any SumS.hollow = true := List.any_eq_true.2 ⟨s, List.mem_of_getElem? h, hs⟩
theorem any_none {l : List SumS} (h : ∀ (j : Nat) s, l[j]? = some s → s.hollow = false) : l.any SumS.hollow = false := by
  rw [List.any_eq_false]
  intro s hs
  obtain ⟨j, hj, rfl⟩ := List.getElem_of_mem hs
  rw [h j _ (List.getElem?_eq_getElem hj)]
  decide
theorem all_one {l : List SumS} {k : Nat} {s : SumS} (h : l[k]? = some s) (hs : s.hollow = false) : l.all SumS.hollow = false := List.all_eq_false.2 ⟨s, List.mem_of_getElem? h, by rw [hs]; decide⟩
theorem all_all {l : List SumS} (h : ∀ (j : Nat) s, l[j]? = some s → s.hollow = true) : l.all SumS.hollow = true := by
  rw [List.all_eq_true]
  intro s hs
  obtain ⟨j, hj, rfl⟩ := List.getElem_of_mem hs
  exact h j _ (List.getElem?_eq_getElem hj)
set_option maxHeartbeats 4000000 in
theorem rh_cat (x : Nd) (P : Nat → Prop) (B : Option Addr) (cap : Nat) (w : World) (hl : x.kids.len ≤ 140737488355328) (ho : ∀ y ∈ x.nodes, aloneN y = true) (ht : TreesAt w P x.kids B) (hG : KidH x P) (hk : x.kind = 4) : Calls Tryz.prog 63 #[ndV x B cap] w fun e w' => e = .returned (.bool x.sum.hollow) ∧ Below w.heap.size w w' := by
  have HV := Lib.hid (hol_cat hk)
  have hb : Below w.heap.size w (w.alloc (.cells #[.int .i64 x.kind, .int .u64 ((word (x.set.testBit) 0 : Nat) : Int), .int .u64 ((word (x.set.testBit) 1 : Nat) : Int), .int .u64 ((word (x.set.testBit) 2 : Nat) : Int), .int .u64 ((word (x.set.testBit) 3 : Nat) : Int), .slice B x.kids.len cap, .int .i64 x.lo, .int .i64 x.hi] 28)) := (Below.refl _ _).alloc (Nat.le_refl _) _
  have HB := Lib.hid hb
  have HN := Lib.hid (Blk.new w 28 #[.int .i64 x.kind, .int .u64 ((word (x.set.testBit) 0 : Nat) : Int), .int .u64 ((word (x.set.testBit) 1 : Nat) : Int), .int .u64 ((word (x.set.testBit) 2 : Nat) : Int), .int .u64 ((word (x.set.testBit) 3 : Nat) : Int), .slice B x.kids.len cap, .int .i64 x.lo, .int .i64 x.hi])
  have HT := Lib.hid (ht.below hb)
  have HG := Lib.hid hG
  have HO := Lib.hid ho
  clear hb ht hG ho
  unfold ndV
  rw [hk] at HN HT HB ⊢
  go_enter Tryz.func63, Tryz.ntmps63
  go_upto_region 1 with fail
  generalize (w.alloc (.cells #[.int .i64 4, .int .u64 ((word (x.set.testBit) 0 : Nat) : Int), .int .u64 ((word (x.set.testBit) 1 : Nat) : Int), .int .u64 ((word (x.set.testBit) 2 : Nat) : Int), .int .u64 ((word (x.set.testBit) 3 : Nat) : Int), .slice B x.kids.len cap, .int .i64 x.lo, .int .i64 x.hi] 28)) = w2 at *
  have n0 := HN.out.cell 0
  have hln := HN.out.lt
  simp only [List.getElem?_toArray, List.getElem?_cons_zero] at n0
  go_wp2
  clear n0 hln
  go_loopw [3] (fun i wr => ∃ k : Nat, i = .int .i64 (k : Int) ∧ k ≤ x.kids.len ∧ Hid (∀ j s, j < k → x.kids.sums[j]? = some s → s.hollow = false) ∧ Hid (Below w.heap.size w wr) ∧ Hid (Below w2.heap.size w2 wr)) (fun i _ => x.kids.len - (intOf i).toNat)
  case atStart => exact ⟨0, rfl, Nat.zero_le _, Lib.hid (fun j s h _ => absurd h (Nat.not_lt_zero _)), HB, Lib.hid (Below.refl _ _)⟩
  case round =>
    obtain ⟨k, rfl, hk, HA, HB, HW⟩ := hrel
    have HN2 := Lib.hid (HN.out.below HW.out HN.out.lt)
    have n5 := HN2.out.cell 5
    have hln := HN2.out.lt
    simp only [List.getElem?_toArray, List.getElem?_cons_zero, List.getElem?_cons_succ] at n5
    by_cases hlt : k < x.kids.len
    · obtain ⟨z, hz⟩ : ∃ z, x.kids.list[k]? = some z := ⟨_, List.getElem?_eq_getElem (by rw [Trees.len_list]; exact hlt)⟩
      obtain ⟨b, o, C, capc, rfl, _, _, ⟨c0, c1, c2, c3, c4, c5, c6, c7⟩, hkz⟩ := (HT.out.below HW.out).get hz
      have hdl : (k : Int) < (x.kids.len : Int) := by omega
      have HC := Lib.hid (HG.out k z C capc wr hz hkz)
      have HZ := Lib.hid (sums_get hz)
      clear hz hkz
      unfold ndV at HC
      go_wp2_with fail
      refine HC.out.mono ?_
      rintro e w3 ⟨rfl, hb3⟩
      have HB3 := Lib.hid (HB.out.trans (hb3.mono HB.out.size))
      have HW3 := Lib.hid (HW.out.trans (hb3.mono HW.out.size))
      clear hb3 HC c0 c1 c2 c3 c4 c5 c6 c7 n5 hln
      cases hz : z.sum.hollow with
      | false =>
        have HX := Lib.hid hz
        clear hz
        dsimp only
        go_wp2
        go_roundw
        case rel => exact ⟨k + 1, by go_num, by omega, Lib.hid (fun j s hj hs => by
          rcases Nat.lt_or_ge j k with h | h
          · exact HA.out j s h hs
          · obtain rfl : j = k := by omega
            rw [HZ.out] at hs
            cases hs
            exact HX.out), HB3, HW3⟩
        case measure => simp [intOf]; omega
      | true =>
        have HX := Lib.hid hz
        clear hz
        dsimp only
        go_wp2
        go_light
        go_ret
        exact ⟨by rw [HV.out, any_one HZ.out HX.out]; rfl, HB3.out⟩
    · obtain rfl : k = x.kids.len := by omega
      have hdl : ¬ ((x.kids.len : Int) < (x.kids.len : Int)) := by omega
      go_wp2
      go_light
      go_ret
      exact ⟨by rw [HV.out, any_none (fun j s hs => HA.out j s (by have := (List.getElem?_eq_some_iff.1 hs).1; rw [sums_len] at this; exact this) hs)]; rfl, HB.out⟩
set_option maxHeartbeats 4000000 in
theorem rh_alt (x : Nd) (P : Nat → Prop) (B : Option Addr) (cap : Nat) (w : World) (hl : x.kids.len ≤ 140737488355328) (ho : ∀ y ∈ x.nodes, aloneN y = true) (ht : TreesAt w P x.kids B) (hG : KidH x P) (hk : x.kind = 5) : Calls Tryz.prog 63 #[ndV x B cap] w fun e w' => e = .returned (.bool x.sum.hollow) ∧ Below w.heap.size w w' := by
  have HV := Lib.hid (hol_alt hk)
  have hb : Below w.heap.size w (w.alloc (.cells #[.int .i64 x.kind, .int .u64 ((word (x.set.testBit) 0 : Nat) : Int), .int .u64 ((word (x.set.testBit) 1 : Nat) : Int), .int .u64 ((word (x.set.testBit) 2 : Nat) : Int), .int .u64 ((word (x.set.testBit) 3 : Nat) : Int), .slice B x.kids.len cap, .int .i64 x.lo, .int .i64 x.hi] 28)) := (Below.refl _ _).alloc (Nat.le_refl _) _
  have HB := Lib.hid hb
  have HN := Lib.hid (Blk.new w 28 #[.int .i64 x.kind, .int .u64 ((word (x.set.testBit) 0 : Nat) : Int), .int .u64 ((word (x.set.testBit) 1 : Nat) : Int), .int .u64 ((word (x.set.testBit) 2 : Nat) : Int), .int .u64 ((word (x.set.testBit) 3 : Nat) : Int), .slice B x.kids.len cap, .int .i64 x.lo, .int .i64 x.hi])
  have HT := Lib.hid (ht.below hb)
  have HG := Lib.hid hG
  have HO := Lib.hid ho
  clear hb ht hG ho
  unfold ndV
  rw [hk] at HN HT HB ⊢
  go_enter Tryz.func63, Tryz.ntmps63
  go_upto_region 1 with fail
  generalize (w.alloc (.cells #[.int .i64 5, .int .u64 ((word (x.set.testBit) 0 : Nat) : Int), .int .u64 ((word (x.set.testBit) 1 : Nat) : Int), .int .u64 ((word (x.set.testBit) 2 : Nat) : Int), .int .u64 ((word (x.set.testBit) 3 : Nat) : Int), .slice B x.kids.len cap, .int .i64 x.lo, .int .i64 x.hi] 28)) = w2 at *
  have n0 := HN.out.cell 0
  have hln := HN.out.lt
  simp only [List.getElem?_toArray, List.getElem?_cons_zero] at n0
  go_wp2
  clear n0 hln
  go_loopw [4] (fun i wr => ∃ k : Nat, i = .int .i64 (k : Int) ∧ k ≤ x.kids.len ∧ Hid (∀ j s, j < k → x.kids.sums[j]? = some s → s.hollow = true) ∧ Hid (Below w.heap.size w wr) ∧ Hid (Below w2.heap.size w2 wr)) (fun i _ => x.kids.len - (intOf i).toNat)
  case atStart => exact ⟨0, rfl, Nat.zero_le _, Lib.hid (fun j s h _ => absurd h (Nat.not_lt_zero _)), HB, Lib.hid (Below.refl _ _)⟩
  case round =>
    obtain ⟨k, rfl, hk, HA, HB, HW⟩ := hrel
    have HN2 := Lib.hid (HN.out.below HW.out HN.out.lt)
    have n5 := HN2.out.cell 5
    have hln := HN2.out.lt
    simp only [List.getElem?_toArray, List.getElem?_cons_zero, List.getElem?_cons_succ] at n5
    by_cases hlt : k < x.kids.len
    · obtain ⟨z, hz⟩ : ∃ z, x.kids.list[k]? = some z := ⟨_, List.getElem?_eq_getElem (by rw [Trees.len_list]; exact hlt)⟩
      obtain ⟨b, o, C, capc, rfl, _, _, ⟨c0, c1, c2, c3, c4, c5, c6, c7⟩, hkz⟩ := (HT.out.below HW.out).get hz
      have hdl : (k : Int) < (x.kids.len : Int) := by omega
      have HC := Lib.hid (HG.out k z C capc wr hz hkz)
      have HZ := Lib.hid (sums_get hz)
      clear hz hkz
      unfold ndV at HC
      go_wp2_with fail
      refine HC.out.mono ?_
      rintro e w3 ⟨rfl, hb3⟩
      have HB3 := Lib.hid (HB.out.trans (hb3.mono HB.out.size))
      have HW3 := Lib.hid (HW.out.trans (hb3.mono HW.out.size))
      clear hb3 HC c0 c1 c2 c3 c4 c5 c6 c7 n5 hln
      cases hz : z.sum.hollow with
      | true =>
        have HX := Lib.hid hz
        clear hz
        dsimp only
        go_wp2
        go_roundw
        case rel => exact ⟨k + 1, by go_num, by omega, Lib.hid (fun j s hj hs => by
          rcases Nat.lt_or_ge j k with h | h
          · exact HA.out j s h hs
          · obtain rfl : j = k := by omega
            rw [HZ.out] at hs
            cases hs
            exact HX.out), HB3, HW3⟩
        case measure => simp [intOf]; omega
      | false =>
        have HX := Lib.hid hz
        clear hz
        dsimp only
        go_wp2
        go_light
        go_ret
        exact ⟨by rw [HV.out, all_one HZ.out HX.out]; rfl, HB3.out⟩
    · obtain rfl : k = x.kids.len := by omega
      have hdl : ¬ ((x.kids.len : Int) < (x.kids.len : Int)) := by omega
      go_wp2
      go_light
      go_ret
      exact ⟨by rw [HV.out, all_all (fun j s hs => HA.out j s (by have := (List.getElem?_eq_some_iff.1 hs).1; rw [sums_len] at this; exact this) hs)]; rfl, HB.out⟩
def RHolC (n : Nat) : Prop := ∀ (x : Nd) (P : Nat → Prop) (B : Option Addr) (cap : Nat) (w : World), x.size ≤ n → x.size ≤ 140737488355328 → (∀ y ∈ x.nodes, aloneN y = true) → TreesAt w P x.kids B → Calls Tryz.prog 63 #[ndV x B cap] w fun e w' => e = .returned (.bool x.sum.hollow) ∧ Below w.heap.size w w'
theorem rhol_step {n : Nat} (ih : RHolC n) : RHolC (n + 1) := by
  intro x P B cap w hsz hlen ho ht
  have hlk : x.kids.len ≤ 140737488355328 := by have := Trees.len_size x.kids; unfold Nd.size at hlen; omega
  have hG : KidH x P := fun i z C capc w' hz ht' => by
    have := Trees.size_get x.kids i z hz
    have hks : x.kids.size + 1 = x.size := by unfold Nd.size; omega
    exact ih z _ C capc w' (by omega) (by omega) (fun y hy => ho y (kid_nodes hz y hy)) ht'
  obtain ⟨a1, a9, a0, ak1, ak9⟩ := aloneN_kids (ho x (self_nodes x))
  by_cases k1 : x.kind = 1
  · exact rh_none x _ B cap w hlk ho ht hG k1
  by_cases k2 : x.kind = 2
  · exact rh_two x _ B cap w hlk ho ht hG k2
  by_cases k3 : x.kind = 3
  · by_cases w0 : word x.set.testBit 0 = 0
    rotate_left
    · exact rh_set1 x _ B cap w hlk ho ht hG k3 w0
    by_cases w1 : word x.set.testBit 1 = 0
    rotate_left
    · exact rh_set2 x _ B cap w hlk ho ht hG k3 w0 w1
    by_cases w2 : word x.set.testBit 2 = 0
    rotate_left
    · exact rh_set3 x _ B cap w hlk ho ht hG k3 w0 w1 w2
    by_cases w3 : word x.set.testBit 3 = 0
    rotate_left
    · exact rh_set4 x _ B cap w hlk ho ht hG k3 w0 w1 w2 w3
    exact rh_set0 x _ B cap w hlk ho ht hG k3 (by unfold isNoSet; simp [w0, w1, w2, w3])
  by_cases k4 : x.kind = 4
  · exact rh_cat x _ B cap w hlk ho ht hG k4
  by_cases k5 : x.kind = 5
  · exact rh_alt x _ B cap w hlk ho ht hG k5
  obtain ⟨z, _, hz⟩ := one_kid (a1 (by omega) (by omega))
  have hk1 := a1 (by omega) (by omega)
  by_cases k6 : x.kind = 6
  · exact rh_star x _ B cap w hlk ho ht hG k6 z hz
  by_cases k7 : x.kind = 7
  · exact rh_plus x _ B cap w hlk ho ht hG k7 z hz hk1
  by_cases k8 : x.kind = 8
  · exact rh_opt x _ B cap w hlk ho ht hG k8 z hz
  have k9 : x.kind = 9 := by omega
  rcases Int.lt_or_le 0 x.lo with h | h
  · exact rh_rep1 x _ B cap w hlk ho ht hG k9 z hz hk1 h
  · exact rh_rep0 x _ B cap w hlk ho ht hG k9 z hz h
theorem rhollow_go (x : Nd) (P : Nat → Prop) (B : Option Addr) (cap : Nat) (w : World) (hlen : x.size ≤ 140737488355328) (ho : ∀ y ∈ x.nodes, aloneN y = true) (ht : TreesAt w P x.kids B) : Calls Tryz.prog 63 #[ndV x B cap] w fun e w' => e = .returned (.bool x.sum.hollow) ∧ Below w.heap.size w w' := by
  have h : ∀ n, RHolC n := by
    intro n
    induction n with
    | zero => exact fun x _ _ _ _ h => by unfold Nd.size at h; omega
    | succ n ih => exact rhol_step ih
  exact h x.size x P B cap w (Nat.le_refl _) hlen ho ht
end Go.Proofs.YtfekpkelmliejaaGreatDoor
namespace Go.Proofs.YtfekpkelmliejaaGreatDoor
open Go.RowKit
set_option linter.unusedSimpArgs false
set_option linter.unusedVariables false
set_option maxRecDepth 100000

theorem rnum_int (w : World) (g : Nat) (a b : Int) (hg : g = w.heap.size) (ha : 0 ≤ a ∧ a ≤ topI) (hb : 0 ≤ b ∧ b ≤ topI) :
    Calls Tryz.prog 68 #[.int .i64 1099511627776, .slice (some ⟨g, 0, none⟩) 2 2] (w.alloc (.cells #[.int .i64 a, .int .i64 b] 3)) fun e w' => e = .returned (.int .i64 (addF a b)) ∧ Below w.heap.size w w' := by
  obtain ⟨m, rfl⟩ := Int.eq_ofNat_of_zero_le ha.1
  obtain ⟨n, rfl⟩ := Int.eq_ofNat_of_zero_le hb.1
  have h1 : m ≤ topN := by unfold topI at ha; unfold topN; omega
  have h2 : n ≤ topN := by unfold topI at hb; unfold topN; omega
  rw [addF_nat m n (by unfold endF; unfold topI at ha; omega) (by unfold endF; unfold topI at hb; omega)]
  exact rnum_new w g m n hg h1 h2
theorem rmul_int (w : World) (g : Nat) (a b : Int) (hg : g = w.heap.size) (ha : 0 ≤ a ∧ a ≤ topI) (hb : 0 ≤ b ∧ b ≤ topI) :
    Calls Tryz.prog 69 #[.int .i64 1099511627776, .slice (some ⟨g, 0, none⟩) 2 2] (w.alloc (.cells #[.int .i64 a, .int .i64 b] 3)) fun e w' => e = .returned (.int .i64 (timF a b)) ∧ Below w.heap.size w w' := by
  obtain ⟨m, rfl⟩ := Int.eq_ofNat_of_zero_le ha.1
  obtain ⟨n, rfl⟩ := Int.eq_ofNat_of_zero_le hb.1
  have h1 : m ≤ topN := by unfold topI at ha; unfold topN; omega
  have h2 : n ≤ topN := by unfold topI at hb; unfold topN; omega
  have e : timF (m : Int) (n : Int) = ((min topN (m * n) : Nat) : Int) := by
    by_cases h0 : m = 0
    · subst h0; simp [timF]
    by_cases h3 : n = 0
    · subst h3; simp [timF]
    exact timF_nat m n h0 h3 (by unfold endF; unfold topI at ha; omega) (by unfold endF; unfold topI at hb; omega)
  rw [e]
  exact rmul_new w g m n hg h1 h2
theorem tim_one {s : Int} (h0 : 0 ≤ s) (h1 : s ≤ topI) : timF 1 s = s := by
  unfold timF
  unfold topI at *
  by_cases h : s = 0
  · rw [if_pos (.inr h), h]
  · rw [if_neg (by omega), if_neg (by unfold endF; omega)]
    omega
theorem rep_short {a : SumS} {lo hi : Int} (h : (repeatedF a lo hi).hollow = false) (hh : hi ≠ 0) (hl : lo ≠ 0) : a.hollow = false ∧ (repeatedF a lo hi).short = timF lo a.short := by
  rw [hol_rep] at h
  have ha : a.hollow = false := by simpa [hh, hl] using h
  refine ⟨ha, ?_⟩
  unfold repeatedF
  rw [if_neg (by simp [hh, ha]), if_neg (by simp [ha])]
theorem rep_short0 (a : SumS) (hi : Int) : (repeatedF a 0 hi).short = 0 := by
  unfold repeatedF
  split
  · rfl
  · rename_i h
    have : ¬ a.hollow = true := fun h' => h (.inr ⟨h', rfl⟩)
    rw [if_neg this]
    show timF 0 a.short = 0
    unfold timF
    rw [if_pos (Or.inl rfl)]
def KidS (x : Nd) (P : Nat → Prop) : Prop := ∀ (i : Nat) (z : Nd) (C : Option Addr) (capc : Nat) (w' : World), x.kids.list[i]? = some z → TreesAt w' P z.kids C → Calls Tryz.prog 17 #[ndV z C capc] w' fun e w'' => e = .returned (.int .i64 z.sum.short) ∧ Below w'.heap.size w' w''
theorem rs_no (x : Nd) (P : Nat → Prop) (B : Option Addr) (cap : Nat) (w : World) (hs : x.size ≤ 140737488355328) (hl : x.kids.len ≤ 140737488355328) (ho : ∀ y ∈ x.nodes, aloneN y = true) (ht : TreesAt w P x.kids B) (hG : KidS x P) (hh : x.sum.hollow = true) : Calls Tryz.prog 17 #[ndV x B cap] w fun e w' => e = .returned (.int .i64 x.sum.short) ∧ Below w.heap.size w w' := by
  have HV := Lib.hid (show x.sum.short = -1 by rw [(ok_sum ho).none hh]; rfl)
  have hb : Below w.heap.size w (w.alloc (.cells #[.int .i64 x.kind, .int .u64 ((word (x.set.testBit) 0 : Nat) : Int), .int .u64 ((word (x.set.testBit) 1 : Nat) : Int), .int .u64 ((word (x.set.testBit) 2 : Nat) : Int), .int .u64 ((word (x.set.testBit) 3 : Nat) : Int), .slice B x.kids.len cap, .int .i64 x.lo, .int .i64 x.hi] 28)) := (Below.refl _ _).alloc (Nat.le_refl _) _
  have HB := Lib.hid hb
  have HC := Lib.hid (rhollow_go x P B cap _ hs ho (ht.below hb))
  have HH := Lib.hid hh
  clear hb ht hG ho hs hh
  unfold ndV at HC ⊢
  go_enter Tryz.func17, Tryz.ntmps17
  go_wp2_with fail
  refine HC.out.mono ?_
  rintro e w2 ⟨rfl, hb2⟩
  have HB2 := Lib.hid (HB.out.trans (hb2.mono HB.out.size))
  clear HC hb2
  rw [HH.out]
  dsimp only
  go_wp2
  go_light
  go_ret
  exact ⟨by rw [HV.out]; rfl, HB2.out⟩
set_option maxHeartbeats 2000000 in
theorem rs_two (x : Nd) (P : Nat → Prop) (B : Option Addr) (cap : Nat) (w : World) (hs : x.size ≤ 140737488355328) (hl : x.kids.len ≤ 140737488355328) (ho : ∀ y ∈ x.nodes, aloneN y = true) (ht : TreesAt w P x.kids B) (hG : KidS x P) (hh : x.sum.hollow = false) (hk : x.kind = 2) : Calls Tryz.prog 17 #[ndV x B cap] w fun e w' => e = .returned (.int .i64 x.sum.short) ∧ Below w.heap.size w w' := by
  have HV := Lib.hid (show x.sum.short = 0 by (rw [sum_two hk]; rfl))
  have HH := Lib.hid hh
  clear hh
  have hb : Below w.heap.size w (w.alloc (.cells #[.int .i64 x.kind, .int .u64 ((word (x.set.testBit) 0 : Nat) : Int), .int .u64 ((word (x.set.testBit) 1 : Nat) : Int), .int .u64 ((word (x.set.testBit) 2 : Nat) : Int), .int .u64 ((word (x.set.testBit) 3 : Nat) : Int), .slice B x.kids.len cap, .int .i64 x.lo, .int .i64 x.hi] 28)) := (Below.refl _ _).alloc (Nat.le_refl _) _
  have HB := Lib.hid hb
  have HN := Lib.hid (Blk.new w 28 #[.int .i64 x.kind, .int .u64 ((word (x.set.testBit) 0 : Nat) : Int), .int .u64 ((word (x.set.testBit) 1 : Nat) : Int), .int .u64 ((word (x.set.testBit) 2 : Nat) : Int), .int .u64 ((word (x.set.testBit) 3 : Nat) : Int), .slice B x.kids.len cap, .int .i64 x.lo, .int .i64 x.hi])
  have HT := Lib.hid (ht.below hb)
  have HG := Lib.hid hG
  have HO := Lib.hid ho
  have HC := Lib.hid (rhollow_go x P B cap _ hs ho (ht.below hb))
  clear hb ht hG ho hs
  unfold ndV at HC ⊢
  rw [hk] at HN HT HB HC ⊢
  go_enter Tryz.func17, Tryz.ntmps17
  go_upto_region 1 with fail
  generalize (w.alloc (.cells #[.int .i64 2, .int .u64 ((word (x.set.testBit) 0 : Nat) : Int), .int .u64 ((word (x.set.testBit) 1 : Nat) : Int), .int .u64 ((word (x.set.testBit) 2 : Nat) : Int), .int .u64 ((word (x.set.testBit) 3 : Nat) : Int), .slice B x.kids.len cap, .int .i64 x.lo, .int .i64 x.hi] 28)) = w1 at *
  have n0 := (HN.out).cell 0
  have n1 := (HN.out).cell 1
  have n2 := (HN.out).cell 2
  have n3 := (HN.out).cell 3
  have n4 := (HN.out).cell 4
  have n5 := (HN.out).cell 5
  have n6 := (HN.out).cell 6
  have n7 := (HN.out).cell 7
  have hln := (HN.out).lt
  simp only [List.getElem?_toArray, List.getElem?_cons_zero, List.getElem?_cons_succ] at n0 n1 n2 n3 n4 n5 n6 n7

  go_wp2_with fail
  refine HC.out.mono ?_
  rintro e w2 ⟨rfl, hb2⟩
  have HN2 := Lib.hid (HN.out.below hb2 HN.out.lt)
  have HT2 := Lib.hid (HT.out.below hb2)
  have HB2 := Lib.hid (HB.out.trans (hb2.mono HB.out.size))
  clear n0 n1 n2 n3 n4 n5 n6 n7 hln

  clear HC hb2 HN HT HB
  rw [HH.out]
  dsimp only
  have n0 := (HN2.out).cell 0
  have n1 := (HN2.out).cell 1
  have n2 := (HN2.out).cell 2
  have n3 := (HN2.out).cell 3
  have n4 := (HN2.out).cell 4
  have n5 := (HN2.out).cell 5
  have n6 := (HN2.out).cell 6
  have n7 := (HN2.out).cell 7
  have hln := (HN2.out).lt
  simp only [List.getElem?_toArray, List.getElem?_cons_zero, List.getElem?_cons_succ] at n0 n1 n2 n3 n4 n5 n6 n7
  go_wp2
  go_light
  go_ret
  exact ⟨by rw [HV.out]; rfl, HB2.out⟩
set_option maxHeartbeats 2000000 in
theorem rs_set (x : Nd) (P : Nat → Prop) (B : Option Addr) (cap : Nat) (w : World) (hs : x.size ≤ 140737488355328) (hl : x.kids.len ≤ 140737488355328) (ho : ∀ y ∈ x.nodes, aloneN y = true) (ht : TreesAt w P x.kids B) (hG : KidS x P) (hh : x.sum.hollow = false) (hk : x.kind = 3) : Calls Tryz.prog 17 #[ndV x B cap] w fun e w' => e = .returned (.int .i64 x.sum.short) ∧ Below w.heap.size w w' := by
  have HV := Lib.hid (show x.sum.short = 1 by (rw [sum_set hk] at hh ⊢; split at hh; cases hh; rename_i h; rw [if_neg h]))
  have HH := Lib.hid hh
  clear hh
  have hb : Below w.heap.size w (w.alloc (.cells #[.int .i64 x.kind, .int .u64 ((word (x.set.testBit) 0 : Nat) : Int), .int .u64 ((word (x.set.testBit) 1 : Nat) : Int), .int .u64 ((word (x.set.testBit) 2 : Nat) : Int), .int .u64 ((word (x.set.testBit) 3 : Nat) : Int), .slice B x.kids.len cap, .int .i64 x.lo, .int .i64 x.hi] 28)) := (Below.refl _ _).alloc (Nat.le_refl _) _
  have HB := Lib.hid hb
  have HN := Lib.hid (Blk.new w 28 #[.int .i64 x.kind, .int .u64 ((word (x.set.testBit) 0 : Nat) : Int), .int .u64 ((word (x.set.testBit) 1 : Nat) : Int), .int .u64 ((word (x.set.testBit) 2 : Nat) : Int), .int .u64 ((word (x.set.testBit) 3 : Nat) : Int), .slice B x.kids.len cap, .int .i64 x.lo, .int .i64 x.hi])
  have HT := Lib.hid (ht.below hb)
  have HG := Lib.hid hG
  have HO := Lib.hid ho
  have HC := Lib.hid (rhollow_go x P B cap _ hs ho (ht.below hb))
  clear hb ht hG ho hs
  unfold ndV at HC ⊢
  rw [hk] at HN HT HB HC ⊢
  go_enter Tryz.func17, Tryz.ntmps17
  go_upto_region 1 with fail
  generalize (w.alloc (.cells #[.int .i64 3, .int .u64 ((word (x.set.testBit) 0 : Nat) : Int), .int .u64 ((word (x.set.testBit) 1 : Nat) : Int), .int .u64 ((word (x.set.testBit) 2 : Nat) : Int), .int .u64 ((word (x.set.testBit) 3 : Nat) : Int), .slice B x.kids.len cap, .int .i64 x.lo, .int .i64 x.hi] 28)) = w1 at *
  have n0 := (HN.out).cell 0
  have n1 := (HN.out).cell 1
  have n2 := (HN.out).cell 2
  have n3 := (HN.out).cell 3
  have n4 := (HN.out).cell 4
  have n5 := (HN.out).cell 5
  have n6 := (HN.out).cell 6
  have n7 := (HN.out).cell 7
  have hln := (HN.out).lt
  simp only [List.getElem?_toArray, List.getElem?_cons_zero, List.getElem?_cons_succ] at n0 n1 n2 n3 n4 n5 n6 n7

  go_wp2_with fail
  refine HC.out.mono ?_
  rintro e w2 ⟨rfl, hb2⟩
  have HN2 := Lib.hid (HN.out.below hb2 HN.out.lt)
  have HT2 := Lib.hid (HT.out.below hb2)
  have HB2 := Lib.hid (HB.out.trans (hb2.mono HB.out.size))
  clear n0 n1 n2 n3 n4 n5 n6 n7 hln

  clear HC hb2 HN HT HB
  rw [HH.out]
  dsimp only
  have n0 := (HN2.out).cell 0
  have n1 := (HN2.out).cell 1
  have n2 := (HN2.out).cell 2
  have n3 := (HN2.out).cell 3
  have n4 := (HN2.out).cell 4
  have n5 := (HN2.out).cell 5
  have n6 := (HN2.out).cell 6
  have n7 := (HN2.out).cell 7
  have hln := (HN2.out).lt
  simp only [List.getElem?_toArray, List.getElem?_cons_zero, List.getElem?_cons_succ] at n0 n1 n2 n3 n4 n5 n6 n7
  go_wp2
  go_light
  go_ret
  exact ⟨by rw [HV.out]; rfl, HB2.out⟩
set_option maxHeartbeats 2000000 in
theorem rs_star (x : Nd) (P : Nat → Prop) (B : Option Addr) (cap : Nat) (w : World) (hs : x.size ≤ 140737488355328) (hl : x.kids.len ≤ 140737488355328) (ho : ∀ y ∈ x.nodes, aloneN y = true) (ht : TreesAt w P x.kids B) (hG : KidS x P) (hh : x.sum.hollow = false) (hk : x.kind = 6) (z : Nd) (hz : x.kids.list[0]? = some z) : Calls Tryz.prog 17 #[ndV x B cap] w fun e w' => e = .returned (.int .i64 x.sum.short) ∧ Below w.heap.size w w' := by
  have HV := Lib.hid (show x.sum.short = 0 by rw [sum_star hk hz, rep_short0])
  have HH := Lib.hid hh
  clear hh
  have hb : Below w.heap.size w (w.alloc (.cells #[.int .i64 x.kind, .int .u64 ((word (x.set.testBit) 0 : Nat) : Int), .int .u64 ((word (x.set.testBit) 1 : Nat) : Int), .int .u64 ((word (x.set.testBit) 2 : Nat) : Int), .int .u64 ((word (x.set.testBit) 3 : Nat) : Int), .slice B x.kids.len cap, .int .i64 x.lo, .int .i64 x.hi] 28)) := (Below.refl _ _).alloc (Nat.le_refl _) _
  have HB := Lib.hid hb
  have HN := Lib.hid (Blk.new w 28 #[.int .i64 x.kind, .int .u64 ((word (x.set.testBit) 0 : Nat) : Int), .int .u64 ((word (x.set.testBit) 1 : Nat) : Int), .int .u64 ((word (x.set.testBit) 2 : Nat) : Int), .int .u64 ((word (x.set.testBit) 3 : Nat) : Int), .slice B x.kids.len cap, .int .i64 x.lo, .int .i64 x.hi])
  have HT := Lib.hid (ht.below hb)
  have HG := Lib.hid hG
  have HO := Lib.hid ho
  have HC := Lib.hid (rhollow_go x P B cap _ hs ho (ht.below hb))
  clear hb ht hG ho hs
  unfold ndV at HC ⊢
  rw [hk] at HN HT HB HC ⊢
  go_enter Tryz.func17, Tryz.ntmps17
  go_upto_region 1 with fail
  generalize (w.alloc (.cells #[.int .i64 6, .int .u64 ((word (x.set.testBit) 0 : Nat) : Int), .int .u64 ((word (x.set.testBit) 1 : Nat) : Int), .int .u64 ((word (x.set.testBit) 2 : Nat) : Int), .int .u64 ((word (x.set.testBit) 3 : Nat) : Int), .slice B x.kids.len cap, .int .i64 x.lo, .int .i64 x.hi] 28)) = w1 at *
  have n0 := (HN.out).cell 0
  have n1 := (HN.out).cell 1
  have n2 := (HN.out).cell 2
  have n3 := (HN.out).cell 3
  have n4 := (HN.out).cell 4
  have n5 := (HN.out).cell 5
  have n6 := (HN.out).cell 6
  have n7 := (HN.out).cell 7
  have hln := (HN.out).lt
  simp only [List.getElem?_toArray, List.getElem?_cons_zero, List.getElem?_cons_succ] at n0 n1 n2 n3 n4 n5 n6 n7

  go_wp2_with fail
  refine HC.out.mono ?_
  rintro e w2 ⟨rfl, hb2⟩
  have HN2 := Lib.hid (HN.out.below hb2 HN.out.lt)
  have HT2 := Lib.hid (HT.out.below hb2)
  have HB2 := Lib.hid (HB.out.trans (hb2.mono HB.out.size))
  clear n0 n1 n2 n3 n4 n5 n6 n7 hln

  clear HC hb2 HN HT HB
  rw [HH.out]
  dsimp only
  have n0 := (HN2.out).cell 0
  have n1 := (HN2.out).cell 1
  have n2 := (HN2.out).cell 2
  have n3 := (HN2.out).cell 3
  have n4 := (HN2.out).cell 4
  have n5 := (HN2.out).cell 5
  have n6 := (HN2.out).cell 6
  have n7 := (HN2.out).cell 7
  have hln := (HN2.out).lt
  simp only [List.getElem?_toArray, List.getElem?_cons_zero, List.getElem?_cons_succ] at n0 n1 n2 n3 n4 n5 n6 n7
  go_wp2
  go_light
  go_ret
  exact ⟨by rw [HV.out]; rfl, HB2.out⟩
set_option maxHeartbeats 2000000 in
theorem rs_opt (x : Nd) (P : Nat → Prop) (B : Option Addr) (cap : Nat) (w : World) (hs : x.size ≤ 140737488355328) (hl : x.kids.len ≤ 140737488355328) (ho : ∀ y ∈ x.nodes, aloneN y = true) (ht : TreesAt w P x.kids B) (hG : KidS x P) (hh : x.sum.hollow = false) (hk : x.kind = 8) (z : Nd) (hz : x.kids.list[0]? = some z) : Calls Tryz.prog 17 #[ndV x B cap] w fun e w' => e = .returned (.int .i64 x.sum.short) ∧ Below w.heap.size w w' := by
  have HV := Lib.hid (show x.sum.short = 0 by rw [sum_opt hk hz, rep_short0])
  have HH := Lib.hid hh
  clear hh
  have hb : Below w.heap.size w (w.alloc (.cells #[.int .i64 x.kind, .int .u64 ((word (x.set.testBit) 0 : Nat) : Int), .int .u64 ((word (x.set.testBit) 1 : Nat) : Int), .int .u64 ((word (x.set.testBit) 2 : Nat) : Int), .int .u64 ((word (x.set.testBit) 3 : Nat) : Int), .slice B x.kids.len cap, .int .i64 x.lo, .int .i64 x.hi] 28)) := (Below.refl _ _).alloc (Nat.le_refl _) _
  have HB := Lib.hid hb
  have HN := Lib.hid (Blk.new w 28 #[.int .i64 x.kind, .int .u64 ((word (x.set.testBit) 0 : Nat) : Int), .int .u64 ((word (x.set.testBit) 1 : Nat) : Int), .int .u64 ((word (x.set.testBit) 2 : Nat) : Int), .int .u64 ((word (x.set.testBit) 3 : Nat) : Int), .slice B x.kids.len cap, .int .i64 x.lo, .int .i64 x.hi])
  have HT := Lib.hid (ht.below hb)
  have HG := Lib.hid hG
  have HO := Lib.hid ho
  have HC := Lib.hid (rhollow_go x P B cap _ hs ho (ht.below hb))
  clear hb ht hG ho hs
  unfold ndV at HC ⊢
  rw [hk] at HN HT HB HC ⊢
  go_enter Tryz.func17, Tryz.ntmps17
  go_upto_region 1 with fail
  generalize (w.alloc (.cells #[.int .i64 8, .int .u64 ((word (x.set.testBit) 0 : Nat) : Int), .int .u64 ((word (x.set.testBit) 1 : Nat) : Int), .int .u64 ((word (x.set.testBit) 2 : Nat) : Int), .int .u64 ((word (x.set.testBit) 3 : Nat) : Int), .slice B x.kids.len cap, .int .i64 x.lo, .int .i64 x.hi] 28)) = w1 at *
  have n0 := (HN.out).cell 0
  have n1 := (HN.out).cell 1
  have n2 := (HN.out).cell 2
  have n3 := (HN.out).cell 3
  have n4 := (HN.out).cell 4
  have n5 := (HN.out).cell 5
  have n6 := (HN.out).cell 6
  have n7 := (HN.out).cell 7
  have hln := (HN.out).lt
  simp only [List.getElem?_toArray, List.getElem?_cons_zero, List.getElem?_cons_succ] at n0 n1 n2 n3 n4 n5 n6 n7

  go_wp2_with fail
  refine HC.out.mono ?_
  rintro e w2 ⟨rfl, hb2⟩
  have HN2 := Lib.hid (HN.out.below hb2 HN.out.lt)
  have HT2 := Lib.hid (HT.out.below hb2)
  have HB2 := Lib.hid (HB.out.trans (hb2.mono HB.out.size))
  clear n0 n1 n2 n3 n4 n5 n6 n7 hln

  clear HC hb2 HN HT HB
  rw [HH.out]
  dsimp only
  have n0 := (HN2.out).cell 0
  have n1 := (HN2.out).cell 1
  have n2 := (HN2.out).cell 2
  have n3 := (HN2.out).cell 3
  have n4 := (HN2.out).cell 4
  have n5 := (HN2.out).cell 5
  have n6 := (HN2.out).cell 6
  have n7 := (HN2.out).cell 7
  have hln := (HN2.out).lt
  simp only [List.getElem?_toArray, List.getElem?_cons_zero, List.getElem?_cons_succ] at n0 n1 n2 n3 n4 n5 n6 n7
  go_wp2
  go_light
  go_ret
  exact ⟨by rw [HV.out]; rfl, HB2.out⟩
set_option maxHeartbeats 2000000 in
theorem rs_plus (x : Nd) (P : Nat → Prop) (B : Option Addr) (cap : Nat) (w : World) (hs : x.size ≤ 140737488355328) (hl : x.kids.len ≤ 140737488355328) (ho : ∀ y ∈ x.nodes, aloneN y = true) (ht : TreesAt w P x.kids B) (hG : KidS x P) (hh : x.sum.hollow = false) (hk : x.kind = 7) (z : Nd) (hz : x.kids.list[0]? = some z) (hk1 : x.kids.len = 1) : Calls Tryz.prog 17 #[ndV x B cap] w fun e w' => e = .returned (.int .i64 x.sum.short) ∧ Below w.heap.size w w' := by
  have HV := Lib.hid (show x.sum.short = z.sum.short by
    rw [sum_plus hk hz] at hh ⊢
    obtain ⟨h1, h2⟩ := rep_short hh (by decide) (by decide)
    have := (ok_sum (x := z) (fun y hy => ho y (kid_nodes hz y hy))).short h1
    rw [h2, tim_one this.1 this.2])
  have HH := Lib.hid hh
  have HK1 := Lib.hid hk1
  clear hh hk1
  have hb : Below w.heap.size w (w.alloc (.cells #[.int .i64 x.kind, .int .u64 ((word (x.set.testBit) 0 : Nat) : Int), .int .u64 ((word (x.set.testBit) 1 : Nat) : Int), .int .u64 ((word (x.set.testBit) 2 : Nat) : Int), .int .u64 ((word (x.set.testBit) 3 : Nat) : Int), .slice B x.kids.len cap, .int .i64 x.lo, .int .i64 x.hi] 28)) := (Below.refl _ _).alloc (Nat.le_refl _) _
  have HB := Lib.hid hb
  have HN := Lib.hid (Blk.new w 28 #[.int .i64 x.kind, .int .u64 ((word (x.set.testBit) 0 : Nat) : Int), .int .u64 ((word (x.set.testBit) 1 : Nat) : Int), .int .u64 ((word (x.set.testBit) 2 : Nat) : Int), .int .u64 ((word (x.set.testBit) 3 : Nat) : Int), .slice B x.kids.len cap, .int .i64 x.lo, .int .i64 x.hi])
  have HT := Lib.hid (ht.below hb)
  have HG := Lib.hid hG
  have HO := Lib.hid ho
  have HC := Lib.hid (rhollow_go x P B cap _ hs ho (ht.below hb))
  clear hb ht hG ho hs
  unfold ndV at HC ⊢
  rw [hk] at HN HT HB HC ⊢
  go_enter Tryz.func17, Tryz.ntmps17
  go_upto_region 1 with fail
  generalize (w.alloc (.cells #[.int .i64 7, .int .u64 ((word (x.set.testBit) 0 : Nat) : Int), .int .u64 ((word (x.set.testBit) 1 : Nat) : Int), .int .u64 ((word (x.set.testBit) 2 : Nat) : Int), .int .u64 ((word (x.set.testBit) 3 : Nat) : Int), .slice B x.kids.len cap, .int .i64 x.lo, .int .i64 x.hi] 28)) = w1 at *
  have n0 := (HN.out).cell 0
  have n1 := (HN.out).cell 1
  have n2 := (HN.out).cell 2
  have n3 := (HN.out).cell 3
  have n4 := (HN.out).cell 4
  have n5 := (HN.out).cell 5
  have n6 := (HN.out).cell 6
  have n7 := (HN.out).cell 7
  have hln := (HN.out).lt
  simp only [List.getElem?_toArray, List.getElem?_cons_zero, List.getElem?_cons_succ] at n0 n1 n2 n3 n4 n5 n6 n7

  go_wp2_with fail
  refine HC.out.mono ?_
  rintro e w2 ⟨rfl, hb2⟩
  have HN2 := Lib.hid (HN.out.below hb2 HN.out.lt)
  have HT2 := Lib.hid (HT.out.below hb2)
  have HB2 := Lib.hid (HB.out.trans (hb2.mono HB.out.size))
  clear n0 n1 n2 n3 n4 n5 n6 n7 hln

  clear HC hb2 HN HT HB
  rw [HH.out]
  dsimp only
  have hk1 := HK1.out
  obtain ⟨b, o, C, capc, rfl, hbP, _, ⟨c0, c1, c2, c3, c4, c5, c6, c7⟩, hkz⟩ := HT2.out.get hz
  simp only [Nat.zero_mul, Nat.add_zero] at c0 c1 c2 c3 c4 c5 c6 c7
  have hblk := World.block_lt_of_cell? w2 _ c0
  have HC := Lib.hid (HG.out 0 z C capc w2 hz hkz)
  clear hz hkz
  unfold ndV at HC
  have n0 := (HN2.out).cell 0
  have n1 := (HN2.out).cell 1
  have n2 := (HN2.out).cell 2
  have n3 := (HN2.out).cell 3
  have n4 := (HN2.out).cell 4
  have n5 := (HN2.out).cell 5
  have n6 := (HN2.out).cell 6
  have n7 := (HN2.out).cell 7
  have hln := (HN2.out).lt
  simp only [List.getElem?_toArray, List.getElem?_cons_zero, List.getElem?_cons_succ] at n0 n1 n2 n3 n4 n5 n6 n7
  go_wp2_with fail
  refine HC.out.mono ?_
  rintro e w3 ⟨rfl, hb3⟩
  have HB3 := Lib.hid (HB2.out.trans (hb3.mono HB2.out.size))
  clear n0 n1 n2 n3 n4 n5 n6 n7 hln
  clear hb3 c0 c1 c2 c3 c4 c5 c6 c7 hblk HC
  dsimp only
  go_wp2
  go_light
  go_ret
  exact ⟨by rw [HV.out]; rfl, HB3.out⟩
set_option maxHeartbeats 2000000 in
theorem rs_rep0 (x : Nd) (P : Nat → Prop) (B : Option Addr) (cap : Nat) (w : World) (hs : x.size ≤ 140737488355328) (hl : x.kids.len ≤ 140737488355328) (ho : ∀ y ∈ x.nodes, aloneN y = true) (ht : TreesAt w P x.kids B) (hG : KidS x P) (hh : x.sum.hollow = false) (hk : x.kind = 9) (z : Nd) (hz : x.kids.list[0]? = some z) (h0 : x.lo = 0) : Calls Tryz.prog 17 #[ndV x B cap] w fun e w' => e = .returned (.int .i64 x.sum.short) ∧ Below w.heap.size w w' := by
  have HV := Lib.hid (show x.sum.short = 0 by rw [sum_rep hk hz, h0, rep_short0])
  have HH := Lib.hid hh
  have hd : (x.lo == 0) = true := by rw [h0]; rfl
  clear hh h0
  have hb : Below w.heap.size w (w.alloc (.cells #[.int .i64 x.kind, .int .u64 ((word (x.set.testBit) 0 : Nat) : Int), .int .u64 ((word (x.set.testBit) 1 : Nat) : Int), .int .u64 ((word (x.set.testBit) 2 : Nat) : Int), .int .u64 ((word (x.set.testBit) 3 : Nat) : Int), .slice B x.kids.len cap, .int .i64 x.lo, .int .i64 x.hi] 28)) := (Below.refl _ _).alloc (Nat.le_refl _) _
  have HB := Lib.hid hb
  have HN := Lib.hid (Blk.new w 28 #[.int .i64 x.kind, .int .u64 ((word (x.set.testBit) 0 : Nat) : Int), .int .u64 ((word (x.set.testBit) 1 : Nat) : Int), .int .u64 ((word (x.set.testBit) 2 : Nat) : Int), .int .u64 ((word (x.set.testBit) 3 : Nat) : Int), .slice B x.kids.len cap, .int .i64 x.lo, .int .i64 x.hi])
  have HT := Lib.hid (ht.below hb)
  have HG := Lib.hid hG
  have HO := Lib.hid ho
  have HC := Lib.hid (rhollow_go x P B cap _ hs ho (ht.below hb))
  clear hb ht hG ho hs
  unfold ndV at HC ⊢
  rw [hk] at HN HT HB HC ⊢
  go_enter Tryz.func17, Tryz.ntmps17
  go_upto_region 1 with fail
  generalize (w.alloc (.cells #[.int .i64 9, .int .u64 ((word (x.set.testBit) 0 : Nat) : Int), .int .u64 ((word (x.set.testBit) 1 : Nat) : Int), .int .u64 ((word (x.set.testBit) 2 : Nat) : Int), .int .u64 ((word (x.set.testBit) 3 : Nat) : Int), .slice B x.kids.len cap, .int .i64 x.lo, .int .i64 x.hi] 28)) = w1 at *
  have n0 := (HN.out).cell 0
  have n1 := (HN.out).cell 1
  have n2 := (HN.out).cell 2
  have n3 := (HN.out).cell 3
  have n4 := (HN.out).cell 4
  have n5 := (HN.out).cell 5
  have n6 := (HN.out).cell 6
  have n7 := (HN.out).cell 7
  have hln := (HN.out).lt
  simp only [List.getElem?_toArray, List.getElem?_cons_zero, List.getElem?_cons_succ] at n0 n1 n2 n3 n4 n5 n6 n7

  go_wp2_with fail
  refine HC.out.mono ?_
  rintro e w2 ⟨rfl, hb2⟩
  have HN2 := Lib.hid (HN.out.below hb2 HN.out.lt)
  have HT2 := Lib.hid (HT.out.below hb2)
  have HB2 := Lib.hid (HB.out.trans (hb2.mono HB.out.size))
  clear n0 n1 n2 n3 n4 n5 n6 n7 hln

  clear HC hb2 HN HT HB
  rw [HH.out]
  dsimp only
  have n0 := (HN2.out).cell 0
  have n1 := (HN2.out).cell 1
  have n2 := (HN2.out).cell 2
  have n3 := (HN2.out).cell 3
  have n4 := (HN2.out).cell 4
  have n5 := (HN2.out).cell 5
  have n6 := (HN2.out).cell 6
  have n7 := (HN2.out).cell 7
  have hln := (HN2.out).lt
  simp only [List.getElem?_toArray, List.getElem?_cons_zero, List.getElem?_cons_succ] at n0 n1 n2 n3 n4 n5 n6 n7
  go_wp2
  go_light
  go_ret
  exact ⟨by rw [HV.out]; rfl, HB2.out⟩
set_option maxHeartbeats 4000000 in
theorem rs_rep1 (x : Nd) (P : Nat → Prop) (B : Option Addr) (cap : Nat) (w : World) (hs : x.size ≤ 140737488355328) (hl : x.kids.len ≤ 140737488355328) (ho : ∀ y ∈ x.nodes, aloneN y = true) (ht : TreesAt w P x.kids B) (hG : KidS x P) (hh : x.sum.hollow = false) (hk : x.kind = 9) (z : Nd) (hz : x.kids.list[0]? = some z) (hk1 : x.kids.len = 1) (h0 : x.lo ≠ 0) : Calls Tryz.prog 17 #[ndV x B cap] w fun e w' => e = .returned (.int .i64 x.sum.short) ∧ Below w.heap.size w w' := by
  have hn := nine_of (ho x (self_nodes x)) hk
  have hHi : hiF x.hi ≠ 0 := by unfold hiF endF; split <;> omega
  have h3 : z.sum.hollow = false ∧ x.sum.short = timF x.lo z.sum.short := by
    rw [sum_rep hk hz] at hh ⊢
    exact rep_short hh hHi h0
  have hz2 := (ok_sum (x := z) (fun y hy => ho y (kid_nodes hz y hy))).short h3.1
  have HV := Lib.hid h3.2
  have HH := Lib.hid hh
  have HK1 := Lib.hid hk1
  have hd : (x.lo == 0) = false := by rw [beq_eq_false_iff_ne]; exact h0
  have HM := Lib.hid (fun (W : World) (g : Nat) (hg : g = W.heap.size) => rmul_int W g x.lo z.sum.short hg ⟨by omega, by unfold topI; omega⟩ hz2)
  clear hh hk1 h0 hn hHi h3 hz2
  have hb : Below w.heap.size w (w.alloc (.cells #[.int .i64 x.kind, .int .u64 ((word (x.set.testBit) 0 : Nat) : Int), .int .u64 ((word (x.set.testBit) 1 : Nat) : Int), .int .u64 ((word (x.set.testBit) 2 : Nat) : Int), .int .u64 ((word (x.set.testBit) 3 : Nat) : Int), .slice B x.kids.len cap, .int .i64 x.lo, .int .i64 x.hi] 28)) := (Below.refl _ _).alloc (Nat.le_refl _) _
  have HB := Lib.hid hb
  have HN := Lib.hid (Blk.new w 28 #[.int .i64 x.kind, .int .u64 ((word (x.set.testBit) 0 : Nat) : Int), .int .u64 ((word (x.set.testBit) 1 : Nat) : Int), .int .u64 ((word (x.set.testBit) 2 : Nat) : Int), .int .u64 ((word (x.set.testBit) 3 : Nat) : Int), .slice B x.kids.len cap, .int .i64 x.lo, .int .i64 x.hi])
  have HT := Lib.hid (ht.below hb)
  have HG := Lib.hid hG
  have HO := Lib.hid ho
  have HC := Lib.hid (rhollow_go x P B cap _ hs ho (ht.below hb))
  clear hb ht hG ho hs
  unfold ndV at HC ⊢
  rw [hk] at HN HT HB HC ⊢
  go_enter Tryz.func17, Tryz.ntmps17
  go_upto_region 1 with fail
  generalize (w.alloc (.cells #[.int .i64 9, .int .u64 ((word (x.set.testBit) 0 : Nat) : Int), .int .u64 ((word (x.set.testBit) 1 : Nat) : Int), .int .u64 ((word (x.set.testBit) 2 : Nat) : Int), .int .u64 ((word (x.set.testBit) 3 : Nat) : Int), .slice B x.kids.len cap, .int .i64 x.lo, .int .i64 x.hi] 28)) = w1 at *
  have n0 := (HN.out).cell 0
  have n1 := (HN.out).cell 1
  have n2 := (HN.out).cell 2
  have n3 := (HN.out).cell 3
  have n4 := (HN.out).cell 4
  have n5 := (HN.out).cell 5
  have n6 := (HN.out).cell 6
  have n7 := (HN.out).cell 7
  have hln := (HN.out).lt
  simp only [List.getElem?_toArray, List.getElem?_cons_zero, List.getElem?_cons_succ] at n0 n1 n2 n3 n4 n5 n6 n7

  go_wp2_with fail
  refine HC.out.mono ?_
  rintro e w2 ⟨rfl, hb2⟩
  have HN2 := Lib.hid (HN.out.below hb2 HN.out.lt)
  have HT2 := Lib.hid (HT.out.below hb2)
  have HB2 := Lib.hid (HB.out.trans (hb2.mono HB.out.size))
  clear n0 n1 n2 n3 n4 n5 n6 n7 hln

  clear HC hb2 HN HT HB
  rw [HH.out]
  dsimp only
  have hk1 := HK1.out
  obtain ⟨b, o, C, capc, rfl, hbP, _, ⟨c0, c1, c2, c3, c4, c5, c6, c7⟩, hkz⟩ := HT2.out.get hz
  simp only [Nat.zero_mul, Nat.add_zero] at c0 c1 c2 c3 c4 c5 c6 c7
  have hblk := World.block_lt_of_cell? w2 _ c0
  have HC := Lib.hid (fun (W : World) (hb : Below w2.heap.size w2 W) => HG.out 0 z C capc W hz (hkz.below hb))
  clear hz hkz
  unfold ndV at HC
  have n0 := (HN2.out).cell 0
  have n1 := (HN2.out).cell 1
  have n2 := (HN2.out).cell 2
  have n3 := (HN2.out).cell 3
  have n4 := (HN2.out).cell 4
  have n5 := (HN2.out).cell 5
  have n6 := (HN2.out).cell 6
  have n7 := (HN2.out).cell 7
  have hln := (HN2.out).lt
  simp only [List.getElem?_toArray, List.getElem?_cons_zero, List.getElem?_cons_succ] at n0 n1 n2 n3 n4 n5 n6 n7
  generalize z.sum.short = zs at *
  go_upto_region 27 with fail
  have hlb : b < w2.heap.size := hblk
  have hKl := two_of (Q := fun b => b < w2.heap.size) hln hlb
  refine wp_region_held_drew (S := fun w' => ∀ b' o', b' = w.heap.size ∨ b' = b → w'.cell? ⟨b', o', none⟩ = w2.cell? ⟨b', o', none⟩) (by kernel_rfl) (KeepP.start (fun b' => b' = w.heap.size ∨ b' = b) w2) (fun hHeld => ?_)
  refine wpAnyH_take (i := 0) (oi := _) (v := ?_) rfl (by kernel_rfl) (by kernel_rfl) (by kernel_rfl) (fun _ _ _ h => h) (Or.inl ⟨by kernel_rfl, ?_⟩) (by assumption) ?_
  rotate_left
  · intro w hSw
    try dsimp only at hSw
    go_simp
    try (with_reducible rfl)
  try simp only [Act.put, List.getElem_toArray, List.getElem_cons_zero, List.getElem_cons_succ, List.setIfInBounds_toArray, List.set_cons_zero, List.set_cons_succ]
  refine wpAnyH_take (i := 1) (oi := _) (v := ?_) rfl (by kernel_rfl) (by kernel_rfl) (by kernel_rfl) (fun _ _ _ h => h) (Or.inl ⟨by kernel_rfl, ?_⟩) (by assumption) ?_
  rotate_left
  · intro w hSw
    try dsimp only at hSw
    go_simp
    try (with_reducible rfl)
  try simp only [Act.put, List.getElem_toArray, List.getElem_cons_zero, List.getElem_cons_succ, List.setIfInBounds_toArray, List.set_cons_zero, List.set_cons_succ]
  refine wpAnyH_take (i := 2) (oi := _) (v := ?_) rfl (by kernel_rfl) (by kernel_rfl) (by kernel_rfl) (fun _ _ _ h => h) (Or.inl ⟨by kernel_rfl, ?_⟩) (by assumption) ?_
  rotate_left
  · intro w hSw
    try dsimp only at hSw
    go_simp
    try (with_reducible rfl)
  try simp only [Act.put, List.getElem_toArray, List.getElem_cons_zero, List.getElem_cons_succ, List.setIfInBounds_toArray, List.set_cons_zero, List.set_cons_succ]
  refine wpAnyH_take (i := 3) (oi := _) (v := ?_) rfl (by kernel_rfl) (by kernel_rfl) (by kernel_rfl) (fun _ _ _ h => h) (Or.inl ⟨by kernel_rfl, ?_⟩) (by assumption) ?_
  rotate_left
  · intro w hSw
    try dsimp only at hSw
    go_simp
    try (with_reducible rfl)
  try simp only [Act.put, List.getElem_toArray, List.getElem_cons_zero, List.getElem_cons_succ, List.setIfInBounds_toArray, List.set_cons_zero, List.set_cons_succ]
  refine wpAnyH_take (i := 4) (oi := _) (v := ?_) rfl (by kernel_rfl) (by kernel_rfl) (by kernel_rfl) (fun _ _ _ h => h) (Or.inl ⟨by kernel_rfl, ?_⟩) (by assumption) ?_
  rotate_left
  · intro w hSw
    try dsimp only at hSw
    go_simp
    try (with_reducible rfl)
  try simp only [Act.put, List.getElem_toArray, List.getElem_cons_zero, List.getElem_cons_succ, List.setIfInBounds_toArray, List.set_cons_zero, List.set_cons_succ]
  refine wpAnyH_take (i := 5) (oi := _) (v := ?_) rfl (by kernel_rfl) (by kernel_rfl) (by kernel_rfl) (fun _ _ _ h => h) (Or.inl ⟨by kernel_rfl, ?_⟩) (by assumption) ?_
  rotate_left
  · intro w hSw
    try dsimp only at hSw
    go_simp
    try (with_reducible rfl)
  try simp only [Act.put, List.getElem_toArray, List.getElem_cons_zero, List.getElem_cons_succ, List.setIfInBounds_toArray, List.set_cons_zero, List.set_cons_succ]
  refine wpAnyH_ready (rs := [6]) (by kernel_rfl) (by simp) ?_
  refine AllReadyH.cons (o := _) rfl (fun K hK => ?_) AllReadyH.nil
  go_simp
  go_at_call 17
  refine (HC.out w2.drew (Below.refl _ _).drew).mono ?_
  rintro e w3 ⟨rfl, hb3'⟩
  have hb3 : Below w2.heap.size w2 w3 := (Below.refl _ _).drew.trans hb3'
  have hk3 := KeepP.below (KeepP.start (fun b' => b' = w.heap.size ∨ b' = b) w2) hb3' hKl
  refine hK.out _ _ hk3 (fun _ => ?_)
  clear hK K hHeld hb3'
  try simp only [Act.put, List.getElem_toArray, List.getElem_cons_zero, List.getElem_cons_succ, List.setIfInBounds_toArray, List.set_cons_zero, List.set_cons_succ]
  refine wpAnyH_ready (rs := [7]) (by kernel_rfl) (by simp) ?_
  refine AllReadyH.cons (o := _) rfl (fun K hK => ?_) AllReadyH.nil
  go_simp
  have hk4 := KeepP.alloc hk3 (fun b' h => Nat.lt_of_lt_of_le (hKl b' h) hb3.size) (.cells #[.int .i64 x.lo, .int .i64 zs] 3)
  refine hK.out _ _ hk4 (fun _ => ?_)
  clear hK K
  try simp only [Act.put, List.getElem_toArray, List.getElem_cons_zero, List.getElem_cons_succ, List.setIfInBounds_toArray, List.set_cons_zero, List.set_cons_succ]
  refine wpAnyH_ready (rs := [8]) (by kernel_rfl) (by simp) ?_
  refine AllReadyH.cons (o := _) rfl (fun K hK => ?_) AllReadyH.nil
  go_simp
  refine (HM.out w3 _ rfl).mono ?_
  rintro e w5 ⟨rfl, hb5⟩
  have hk5 := KeepP.below hk3 hb5 (fun b' h => Nat.lt_of_lt_of_le (hKl b' h) hb3.size)
  refine hK.out _ _ hk5 (fun _ => ?_)
  clear hK K hk4 hk3
  try simp only [Act.put, List.getElem_toArray, List.getElem_cons_zero, List.getElem_cons_succ, List.setIfInBounds_toArray, List.set_cons_zero, List.set_cons_succ]
  have HB5 := Lib.hid ((HB2.out.trans (hb3.mono HB2.out.size)).trans (hb5.mono (by have := HB2.out.size; have := hb3.size; omega)))
  clear n0 n1 n2 n3 n4 n5 n6 n7 hln
  clear hb3 hb5 c0 c1 c2 c3 c4 c5 c6 c7 hblk HC
  refine wpAnyH_take (i := 9) (oi := _) (v := ?_) rfl (by kernel_rfl) (by kernel_rfl) (by kernel_rfl) (fun _ _ _ h => h) (Or.inl ⟨by kernel_rfl, ?_⟩) (by assumption) ?_
  rotate_left
  · intro w hSw
    try dsimp only at hSw
    go_simp
    try (with_reducible rfl)
  try simp only [Act.put, List.getElem_toArray, List.getElem_cons_zero, List.getElem_cons_succ, List.setIfInBounds_toArray, List.set_cons_zero, List.set_cons_succ]
  refine wpAnyH_done (by kernel_rfl) ?_ _
  go_wp2
  go_light
  go_ret
  exact ⟨by rw [HV.out]; rfl, HB5.out⟩
set_option maxHeartbeats 4000000 in
theorem rs_cat (x : Nd) (P : Nat → Prop) (B : Option Addr) (cap : Nat) (w : World) (hs : x.size ≤ 140737488355328) (hl : x.kids.len ≤ 140737488355328) (ho : ∀ y ∈ x.nodes, aloneN y = true) (ht : TreesAt w P x.kids B) (hG : KidS x P) (hh : x.sum.hollow = false) (hk : x.kind = 4) : Calls Tryz.prog 17 #[ndV x B cap] w fun e w' => e = .returned (.int .i64 x.sum.short) ∧ Below w.heap.size w w' := by
  have HV := Lib.hid (show x.sum = fcatF x.kids.sums from sum_cat hk)
  have HF := Lib.hid (show (fcatF x.kids.sums).hollow = false by rw [← HV.out]; exact hh)
  have HS := Lib.hid (ok_sums x.kids (fun y hy => ho y (by simp [Nd.nodes, hy])))
  have HH := Lib.hid hh
  clear hh
  have hb : Below w.heap.size w (w.alloc (.cells #[.int .i64 x.kind, .int .u64 ((word (x.set.testBit) 0 : Nat) : Int), .int .u64 ((word (x.set.testBit) 1 : Nat) : Int), .int .u64 ((word (x.set.testBit) 2 : Nat) : Int), .int .u64 ((word (x.set.testBit) 3 : Nat) : Int), .slice B x.kids.len cap, .int .i64 x.lo, .int .i64 x.hi] 28)) := (Below.refl _ _).alloc (Nat.le_refl _) _
  have HB := Lib.hid hb
  have HN := Lib.hid (Blk.new w 28 #[.int .i64 x.kind, .int .u64 ((word (x.set.testBit) 0 : Nat) : Int), .int .u64 ((word (x.set.testBit) 1 : Nat) : Int), .int .u64 ((word (x.set.testBit) 2 : Nat) : Int), .int .u64 ((word (x.set.testBit) 3 : Nat) : Int), .slice B x.kids.len cap, .int .i64 x.lo, .int .i64 x.hi])
  have HT := Lib.hid (ht.below hb)
  have HG := Lib.hid hG
  have HO := Lib.hid ho
  have HC := Lib.hid (rhollow_go x P B cap _ hs ho (ht.below hb))
  clear hb ht hG ho hs
  unfold ndV at HC ⊢
  rw [hk] at HN HT HB HC ⊢
  go_enter Tryz.func17, Tryz.ntmps17
  go_upto_region 1 with fail
  generalize (w.alloc (.cells #[.int .i64 4, .int .u64 ((word (x.set.testBit) 0 : Nat) : Int), .int .u64 ((word (x.set.testBit) 1 : Nat) : Int), .int .u64 ((word (x.set.testBit) 2 : Nat) : Int), .int .u64 ((word (x.set.testBit) 3 : Nat) : Int), .slice B x.kids.len cap, .int .i64 x.lo, .int .i64 x.hi] 28)) = w1 at *
  have n0 := (HN.out).cell 0
  have n1 := (HN.out).cell 1
  have n2 := (HN.out).cell 2
  have n3 := (HN.out).cell 3
  have n4 := (HN.out).cell 4
  have n5 := (HN.out).cell 5
  have n6 := (HN.out).cell 6
  have n7 := (HN.out).cell 7
  have hln := (HN.out).lt
  simp only [List.getElem?_toArray, List.getElem?_cons_zero, List.getElem?_cons_succ] at n0 n1 n2 n3 n4 n5 n6 n7

  go_wp2_with fail
  refine HC.out.mono ?_
  rintro e w2 ⟨rfl, hb2⟩
  have HN2 := Lib.hid (HN.out.below hb2 HN.out.lt)
  have HT2 := Lib.hid (HT.out.below hb2)
  have HB2 := Lib.hid (HB.out.trans (hb2.mono HB.out.size))
  clear n0 n1 n2 n3 n4 n5 n6 n7 hln

  clear HC hb2 HN HT HB
  rw [HH.out]
  dsimp only
  have n0 := HN2.out.cell 0
  have hln := HN2.out.lt
  simp only [List.getElem?_toArray, List.getElem?_cons_zero] at n0
  go_wp2
  clear n0 hln
  go_loopw [3, 4] (fun nv i wr => ∃ (k : Nat) (n : Int), i = .int .i64 (k : Int) ∧ nv = .int .i64 n ∧ k ≤ x.kids.len ∧ Hid (n = (fcatF (x.kids.sums.take k)).short) ∧ Hid (Below w.heap.size w wr) ∧ Hid (Below w2.heap.size w2 wr)) (fun _ i _ => x.kids.len - (intOf i).toNat)
  case atStart => exact ⟨0, 0, rfl, rfl, Nat.zero_le _, Lib.hid rfl, HB2, Lib.hid (Below.refl _ _)⟩
  case round =>
    obtain ⟨k, n, rfl, rfl, hk, HA, HB, HW⟩ := hrel
    have HN3 := Lib.hid (HN2.out.below HW.out HN2.out.lt)
    have n5 := HN3.out.cell 5
    have hln := HN3.out.lt
    simp only [List.getElem?_toArray, List.getElem?_cons_zero, List.getElem?_cons_succ] at n5
    by_cases hlt : k < x.kids.len
    · obtain ⟨z, hz⟩ : ∃ z, x.kids.list[k]? = some z := ⟨_, List.getElem?_eq_getElem (by rw [Trees.len_list]; exact hlt)⟩
      obtain ⟨b, o, C, capc, rfl, _, _, ⟨c0, c1, c2, c3, c4, c5, c6, c7⟩, hkz⟩ := (HT2.out.below HW.out).get hz
      have hdl : (k : Int) < (x.kids.len : Int) := by omega
      have HC := Lib.hid (HG.out k z C capc wr hz hkz)
      have hzg := sums_get hz
      have hzh := fcatF_full HF.out z.sum (List.mem_of_getElem? hzg)
      have hzo := (HS.out z.sum (List.mem_of_getElem? hzg)).short hzh
      have hpo := (ok_cat (ok_take HS.out k)).short (fcatF_take HF.out k)
      rw [← HA.out] at hpo
      have HE := Lib.hid (show (fcatF (x.kids.sums.take (k + 1))).short = addF n z.sum.short by rw [take_snocS hzg, fcatF_snoc, behind_full (fcatF_take HF.out k) hzh, HA.out])
      have HM := Lib.hid (fun (W : World) (g : Nat) (hg : g = W.heap.size) => rnum_int W g n z.sum.short hg hpo hzo)
      clear hz hkz hzg hzh hzo hpo
      generalize z.sum.short = zs at *
      unfold ndV at HC
      go_wp2_with fail
      refine HC.out.mono ?_
      rintro e w3 ⟨rfl, hb3⟩
      clear HC c0 c1 c2 c3 c4 c5 c6 c7 n5 hln
      dsimp only
      go_wp2_with fail
      refine (HM.out w3 _ rfl).mono ?_
      rintro e w5 ⟨rfl, hb5⟩
      have HB3 := Lib.hid ((HB.out.trans (hb3.mono HB.out.size)).trans (hb5.mono (by have := HB.out.size; have := hb3.size; omega)))
      have HW3 := Lib.hid ((HW.out.trans (hb3.mono HW.out.size)).trans (hb5.mono (by have := HW.out.size; have := hb3.size; omega)))
      clear hb3 hb5 HM
      rw [← HE.out]
      dsimp only
      go_wp2
      go_roundw
      case rel => exact ⟨k + 1, _, by go_num, rfl, by omega, Lib.hid rfl, HB3, HW3⟩
      case measure => simp [intOf]; omega
    · obtain rfl : k = x.kids.len := by omega
      have hdl : ¬ ((x.kids.len : Int) < (x.kids.len : Int)) := by omega
      go_wp2
      go_light
      go_ret
      exact ⟨by rw [HV.out, HA.out, ← sums_len, List.take_length]; rfl, HB.out⟩
set_option maxHeartbeats 4000000 in
theorem rs_alt (x : Nd) (P : Nat → Prop) (B : Option Addr) (cap : Nat) (w : World) (hs : x.size ≤ 140737488355328) (hl : x.kids.len ≤ 140737488355328) (ho : ∀ y ∈ x.nodes, aloneN y = true) (ht : TreesAt w P x.kids B) (hG : KidS x P) (hh : x.sum.hollow = false) (hk : x.kind = 5) : Calls Tryz.prog 17 #[ndV x B cap] w fun e w' => e = .returned (.int .i64 x.sum.short) ∧ Below w.heap.size w w' := by
  have HV := Lib.hid (show x.sum = faltF x.kids.sums from sum_alt hk)
  have HF := Lib.hid (show (faltF x.kids.sums).hollow = false by rw [← HV.out]; exact hh)
  have HS := Lib.hid (ok_sums x.kids (fun y hy => ho y (by simp [Nd.nodes, hy])))
  have HH := Lib.hid hh
  clear hh
  have hb : Below w.heap.size w (w.alloc (.cells #[.int .i64 x.kind, .int .u64 ((word (x.set.testBit) 0 : Nat) : Int), .int .u64 ((word (x.set.testBit) 1 : Nat) : Int), .int .u64 ((word (x.set.testBit) 2 : Nat) : Int), .int .u64 ((word (x.set.testBit) 3 : Nat) : Int), .slice B x.kids.len cap, .int .i64 x.lo, .int .i64 x.hi] 28)) := (Below.refl _ _).alloc (Nat.le_refl _) _
  have HB := Lib.hid hb
  have HN := Lib.hid (Blk.new w 28 #[.int .i64 x.kind, .int .u64 ((word (x.set.testBit) 0 : Nat) : Int), .int .u64 ((word (x.set.testBit) 1 : Nat) : Int), .int .u64 ((word (x.set.testBit) 2 : Nat) : Int), .int .u64 ((word (x.set.testBit) 3 : Nat) : Int), .slice B x.kids.len cap, .int .i64 x.lo, .int .i64 x.hi])
  have HT := Lib.hid (ht.below hb)
  have HG := Lib.hid hG
  have HO := Lib.hid ho
  have HC := Lib.hid (rhollow_go x P B cap _ hs ho (ht.below hb))
  clear hb ht hG ho hs
  unfold ndV at HC ⊢
  rw [hk] at HN HT HB HC ⊢
  go_enter Tryz.func17, Tryz.ntmps17
  go_upto_region 1 with fail
  generalize (w.alloc (.cells #[.int .i64 5, .int .u64 ((word (x.set.testBit) 0 : Nat) : Int), .int .u64 ((word (x.set.testBit) 1 : Nat) : Int), .int .u64 ((word (x.set.testBit) 2 : Nat) : Int), .int .u64 ((word (x.set.testBit) 3 : Nat) : Int), .slice B x.kids.len cap, .int .i64 x.lo, .int .i64 x.hi] 28)) = w1 at *
  have n0 := (HN.out).cell 0
  have n1 := (HN.out).cell 1
  have n2 := (HN.out).cell 2
  have n3 := (HN.out).cell 3
  have n4 := (HN.out).cell 4
  have n5 := (HN.out).cell 5
  have n6 := (HN.out).cell 6
  have n7 := (HN.out).cell 7
  have hln := (HN.out).lt
  simp only [List.getElem?_toArray, List.getElem?_cons_zero, List.getElem?_cons_succ] at n0 n1 n2 n3 n4 n5 n6 n7

  go_wp2_with fail
  refine HC.out.mono ?_
  rintro e w2 ⟨rfl, hb2⟩
  have HN2 := Lib.hid (HN.out.below hb2 HN.out.lt)
  have HT2 := Lib.hid (HT.out.below hb2)
  have HB2 := Lib.hid (HB.out.trans (hb2.mono HB.out.size))
  clear n0 n1 n2 n3 n4 n5 n6 n7 hln

  clear HC hb2 HN HT HB
  rw [HH.out]
  dsimp only
  have n0 := HN2.out.cell 0
  have hln := HN2.out.lt
  simp only [List.getElem?_toArray, List.getElem?_cons_zero] at n0
  go_wp2
  clear n0 hln
  go_loopw [5, 6, 7] (fun nv i kv wr => ∃ (k : Nat) (n : Int), i = .int .i64 (k : Int) ∧ nv = .int .i64 n ∧ k ≤ x.kids.len ∧ Hid (n = if (faltF (x.kids.sums.take k)).hollow = true then topI else (faltF (x.kids.sums.take k)).short) ∧ Hid (Below w.heap.size w wr) ∧ Hid (Below w2.heap.size w2 wr)) (fun _ i _ _ => x.kids.len - (intOf i).toNat)
  case atStart => exact ⟨0, 1099511627776, rfl, rfl, Nat.zero_le _, Lib.hid rfl, HB2, Lib.hid (Below.refl _ _)⟩
  case round =>
    obtain ⟨k, n, rfl, rfl, hk, HA, HB, HW⟩ := hrel
    have HN3 := Lib.hid (HN2.out.below HW.out HN2.out.lt)
    have n5 := HN3.out.cell 5
    have hln := HN3.out.lt
    simp only [List.getElem?_toArray, List.getElem?_cons_zero, List.getElem?_cons_succ] at n5
    by_cases hlt : k < x.kids.len
    · obtain ⟨z, hz⟩ : ∃ z, x.kids.list[k]? = some z := ⟨_, List.getElem?_eq_getElem (by rw [Trees.len_list]; exact hlt)⟩
      obtain ⟨b, o, C, capc, rfl, _, _, ⟨c0, c1, c2, c3, c4, c5, c6, c7⟩, hkz⟩ := (HT2.out.below HW.out).get hz
      have hdl : (k : Int) < (x.kids.len : Int) := by omega
      have HC := Lib.hid (HG.out k z C capc wr hz hkz)
      have hzg := sums_get hz
      have hzo := HS.out z.sum (List.mem_of_getElem? hzg)
      have hpo := ok_alt (ok_take HS.out k)
      have HE := Lib.hid (show (if (faltF (x.kids.sums.take (k + 1))).hollow = true then topI else (faltF (x.kids.sums.take (k + 1))).short) = if 0 ≤ z.sum.short ∧ z.sum.short < n then z.sum.short else n by
        rw [take_snocS hzg, faltF_snoc, HA.out]
        cases hp : (faltF (x.kids.sums.take k)).hollow with
        | true =>
          rw [either_left hp]
          cases hs : z.sum.hollow with
          | true =>
            have : z.sum.short = -1 := by rw [hzo.none hs]; rfl
            simp [this]
          | false =>
            have := hzo.short hs
            simp only [if_true, Bool.false_eq_true, if_false]
            split <;> omega
        | false =>
          have h1 := hpo.short hp
          cases hs : z.sum.hollow with
          | true =>
            have : z.sum.short = -1 := by rw [hzo.none hs]; rfl
            rw [either_right hp hs]
            simp [this, hp]
          | false =>
            have h2 := hzo.short hs
            rw [either_full hp hs]
            simp only [Bool.false_eq_true, if_false]
            split <;> omega)
      clear hz hkz hzg hzo hpo HA
      generalize z.sum.short = zs at *
      unfold ndV at HC
      go_wp2_with fail
      refine HC.out.mono ?_
      rintro e w3 ⟨rfl, hb3⟩
      have HB3 := Lib.hid (HB.out.trans (hb3.mono HB.out.size))
      have HW3 := Lib.hid (HW.out.trans (hb3.mono HW.out.size))
      clear hb3 HC c0 c1 c2 c3 c4 c5 c6 c7 n5 hln
      by_cases hge : 0 ≤ zs
      · by_cases hls : zs < n
        · have HE2 := Lib.hid (show _ = zs from (HE.out).trans (if_pos ⟨hge, hls⟩))
          dsimp only
          go_wp2
          go_roundw
          case rel => exact ⟨k + 1, _, by go_num, rfl, by omega, Lib.hid HE2.out.symm, HB3, HW3⟩
          case measure => simp [intOf]; omega
        · have HE2 := Lib.hid (show _ = n from (HE.out).trans (if_neg (fun h => hls h.2)))
          dsimp only
          go_wp2
          go_roundw
          case rel => exact ⟨k + 1, _, by go_num, rfl, by omega, Lib.hid HE2.out.symm, HB3, HW3⟩
          case measure => simp [intOf]; omega
      · have HE2 := Lib.hid (show _ = n from (HE.out).trans (if_neg (fun h => hge h.1)))
        dsimp only
        go_wp2
        go_roundw
        case rel => exact ⟨k + 1, _, by go_num, rfl, by omega, Lib.hid HE2.out.symm, HB3, HW3⟩
        case measure => simp [intOf]; omega
    · obtain rfl : k = x.kids.len := by omega
      have hdl : ¬ ((x.kids.len : Int) < (x.kids.len : Int)) := by omega
      have HE := Lib.hid (show n = x.sum.short by
        rw [HA.out, ← sums_len, List.take_length, HF.out, HV.out]
        rfl)
      clear HA
      go_wp2
      go_light
      go_ret
      exact ⟨by rw [← HE.out]; rfl, HB.out⟩
def RShC (n : Nat) : Prop := ∀ (x : Nd) (P : Nat → Prop) (B : Option Addr) (cap : Nat) (w : World), x.size ≤ n → x.size ≤ 140737488355328 → (∀ y ∈ x.nodes, aloneN y = true) → TreesAt w P x.kids B → Calls Tryz.prog 17 #[ndV x B cap] w fun e w' => e = .returned (.int .i64 x.sum.short) ∧ Below w.heap.size w w'
theorem rsh_step {n : Nat} (ih : RShC n) : RShC (n + 1) := by
  intro x P B cap w hsz hlen ho ht
  have hlk : x.kids.len ≤ 140737488355328 := by have := Trees.len_size x.kids; unfold Nd.size at hlen; omega
  have hG : KidS x P := fun i z C capc w' hz ht' => by
    have := Trees.size_get x.kids i z hz
    have hks : x.kids.size + 1 = x.size := by unfold Nd.size; omega
    exact ih z _ C capc w' (by omega) (by omega) (fun y hy => ho y (kid_nodes hz y hy)) ht'
  obtain ⟨a1, a9, a0, ak1, ak9⟩ := aloneN_kids (ho x (self_nodes x))
  cases hh : x.sum.hollow with
  | true => exact rs_no x _ B cap w hlen hlk ho ht hG hh
  | false =>
    by_cases k1 : x.kind = 1
    · rw [sum_none k1] at hh; cases hh
    by_cases k2 : x.kind = 2
    · exact rs_two x _ B cap w hlen hlk ho ht hG hh k2
    by_cases k3 : x.kind = 3
    · exact rs_set x _ B cap w hlen hlk ho ht hG hh k3
    by_cases k4 : x.kind = 4
    · exact rs_cat x _ B cap w hlen hlk ho ht hG hh k4
    by_cases k5 : x.kind = 5
    · exact rs_alt x _ B cap w hlen hlk ho ht hG hh k5
    obtain ⟨z, _, hz⟩ := one_kid (a1 (by omega) (by omega))
    have hk1 := a1 (by omega) (by omega)
    by_cases k6 : x.kind = 6
    · exact rs_star x _ B cap w hlen hlk ho ht hG hh k6 z hz
    by_cases k7 : x.kind = 7
    · exact rs_plus x _ B cap w hlen hlk ho ht hG hh k7 z hz hk1
    by_cases k8 : x.kind = 8
    · exact rs_opt x _ B cap w hlen hlk ho ht hG hh k8 z hz
    have k9 : x.kind = 9 := by omega
    by_cases h : x.lo = 0
    · exact rs_rep0 x _ B cap w hlen hlk ho ht hG hh k9 z hz h
    · exact rs_rep1 x _ B cap w hlen hlk ho ht hG hh k9 z hz hk1 h
theorem rshort_go (x : Nd) (P : Nat → Prop) (B : Option Addr) (cap : Nat) (w : World) (hlen : x.size ≤ 140737488355328) (ho : ∀ y ∈ x.nodes, aloneN y = true) (ht : TreesAt w P x.kids B) : Calls Tryz.prog 17 #[ndV x B cap] w fun e w' => e = .returned (.int .i64 x.sum.short) ∧ Below w.heap.size w w' := by
  have h : ∀ n, RShC n := by
    intro n
    induction n with
    | zero => exact fun x _ _ _ _ h => by unfold Nd.size at h; omega
    | succ n ih => exact rsh_step ih
  exact h x.size x P B cap w (Nat.le_refl _) hlen ho ht
end Go.Proofs.YtfekpkelmliejaaGreatDoor
namespace Go.Proofs.YtfekpkelmliejaaGreatDoor
open Go.RowKit
set_option linter.unusedSimpArgs false
set_option linter.unusedVariables false
set_option maxRecDepth 100000

theorem ret_tree {fn : Func} {t2 t3 : Tmp} (h : fn.results = #[.cell t2 28, .cell t3 75]) {tmps : Array Value} {w : World} {g g' : Nat} {a0 a1 a2 a3 a4 a5 a6 a7 x y : Value}
    (hp : tmps.getD t2 undef = .pointer (some ⟨g, 0, none⟩)) (hp' : tmps.getD t3 undef = .pointer (some ⟨g', 0, none⟩)) (hb : Blk w g 28 #[a0, a1, a2, a3, a4, a5, a6, a7]) (hb' : Blk w g' 75 #[x, y]) :
    (results fn tmps).run Tryz.prog w = .ok (.tuple #[.agg #[a0, a1, a2, a3, a4, a5, a6, a7], .agg #[x, y]]) w := by
  have h1 := run_loadVar_row (P := Tryz.prog) w g 28 28 #[a0, a1, a2, a3, a4, a5, a6, a7] (0, 0) _ hb Tryz.underlying28 rfl (by kernel_rfl)
  have h2 := run_loadVar_row (P := Tryz.prog) w g' 75 75 #[x, y] (0, 0) _ hb' Tryz.underlying75 rfl (by kernel_rfl)
  simp only [results, h]
  simp only [Array.getD_eq_getD_getElem?] at hp hp'
  simp [Sem.run_bind, hp, hp', asAddr, h1, h2, Result.andThen]
/-- A tree, or what is wrong. -/
def TreeOut (r : Except Wrong Nd) (w : World) (e : Ending) (w' : World) : Prop :=
  match r with
  | .ok x => ∃ B cap, e = .returned (.tuple #[ndV x B cap, .agg #[.int .i64 0, .int .i64 0]]) ∧ Below w.heap.size w w' ∧ x.kids.len ≤ cap ∧ TreesAt w' (fun b => w.heap.size ≤ b) x.kids B
  | .error (k, q) => e = .returned (.tuple #[zeroN, .agg #[.int .i64 k, .int .i64 q]]) ∧ Below w.heap.size w w'
theorem lexemesS_bad {L : List Lex} (h : (readyS L).1 ≠ 0) : lexemesS L = .error (readyS L) := by
  unfold readyS at h ⊢
  unfold lexemesS
  by_cases h1 : L.all rightS = false
  · rw [if_pos h1, if_pos h1]
  · rw [if_neg h1, if_neg h1]
    by_cases h2 : 1024 < L.length
    · rw [dif_pos h2, dif_pos h2]
    · rw [if_neg h1, dif_neg h2] at h
      exact absurd rfl h
theorem readyS_zero {L : List Lex} (h : (readyS L).1 = 0) : readyS L = (0, 0) ∧ L.all rightS = true ∧ L.length ≤ 1024 := by
  unfold readyS at h ⊢
  by_cases h1 : L.all rightS = false
  · rw [if_pos h1] at h; cases h
  · by_cases h2 : 1024 < L.length
    · rw [if_neg h1, dif_pos h2] at h; cases h
    · rw [if_neg h1, dif_neg h2]
      exact ⟨rfl, by simpa using h1, by omega⟩
theorem lexemesS_ok {L : List Lex} (h : L.all rightS = true) (hl : L.length ≤ 1024) : lexemesS L = match altG (3 * L.length + 3) [] [] L with
    | .error e => .error e
    | .ok (x, _) => .ok x := by
  unfold lexemesS
  rw [if_neg (by rw [h]; decide), dif_neg (by omega)]
  rfl

set_option maxHeartbeats 4000000 in
theorem lexemes_go (A : Option Addr) (cap : Nat) (L : List Lex) (w : World) (hA : LexsAt w w.heap.size A L) (hlen : L.length ≤ 140737488355328) (hcap : L.length ≤ cap) :
    Calls Tryz.prog 104 #[.slice A L.length cap] w (TreeOut (lexemesS L) w) := by
  have hmf : ∀ (fn : Fn) (first cap : Array Value) (w : World), (Instr.makeFunc fn first cap).run Tryz.prog w = .ok (.func fn first cap) w := fun _ _ _ _ => rfl
  have hb2 : Below w.heap.size w ((w.alloc (.cells #[.int .i64 0, .int .u64 0, .int .u64 0, .int .u64 0, .int .u64 0, .slice none 0 0, .int .i64 0, .int .i64 0] 28)).alloc (.cells #[.int .i64 0, .int .i64 0] 75)) := ((Below.refl _ _).alloc (Nat.le_refl _) _).alloc (by simp) _
  have HB2 := Lib.hid hb2
  have HG2 := Lib.hid (show Blk ((w.alloc (.cells #[.int .i64 0, .int .u64 0, .int .u64 0, .int .u64 0, .int .u64 0, .slice none 0 0, .int .i64 0, .int .i64 0] 28)).alloc (.cells #[.int .i64 0, .int .i64 0] 75)) w.heap.size 28 _ from (Blk.new w 28 #[.int .i64 0, .int .u64 0, .int .u64 0, .int .u64 0, .int .u64 0, .slice none 0 0, .int .i64 0, .int .i64 0]).alloc _)
  have HH2 := Lib.hid (show Blk ((w.alloc (.cells #[.int .i64 0, .int .u64 0, .int .u64 0, .int .u64 0, .int .u64 0, .slice none 0 0, .int .i64 0, .int .i64 0] 28)).alloc (.cells #[.int .i64 0, .int .i64 0] 75)) (w.heap.size + 1) 75 #[.int .i64 0, .int .i64 0] from Blk.new_at (by simp))
  have HA := Lib.hid hA
  have hz2 : ((w.alloc (.cells #[.int .i64 0, .int .u64 0, .int .u64 0, .int .u64 0, .int .u64 0, .slice none 0 0, .int .i64 0, .int .i64 0] 28)).alloc (.cells #[.int .i64 0, .int .i64 0] 75)).heap.size = w.heap.size + 2 := by simp
  have HRd := Lib.hid (ready_go A cap L _ ((hA.below hb2).more (by omega)) hlen)
  clear hb2 hA hz2
  go_enter_defers Tryz.func104, Tryz.ntmps104
  go_wp2_with fail
  refine HRd.out.mono ?_
  rintro e w3 ⟨rfl, hb3⟩
  have HB3 := Lib.hid (HB2.out.trans (hb3.mono HB2.out.size))
  have hG3 := HG2.out.below hb3 HG2.out.lt
  have hH3 := HH2.out.below hb3 HH2.out.lt
  have HG3 := Lib.hid hG3
  have HH3 := Lib.hid hH3
  have hne1 : w.heap.size ≠ w3.heap.size := by have := hG3.lt; omega
  have hne2 : w.heap.size + 1 ≠ w3.heap.size := by have := hH3.lt; omega
  have hlt1 : w.heap.size < w3.heap.size := hG3.lt
  have hlt2 : w.heap.size + 1 < w3.heap.size := hH3.lt
  by_cases h0 : (readyS L).1 = 0
  · obtain ⟨h1, h2, h3⟩ := readyS_zero h0
    have HV := Lib.hid (lexemesS_ok h2 h3)
    rw [h1]
    have hb5 : Below w3.heap.size w3 ((w3.alloc (.cells #[.int .i64 0, .int .i64 0] 75)).alloc (.cells #[.slice A L.length cap, .slice none 0 0] 184)) := ((Below.refl _ _).alloc (Nat.le_refl _) _).alloc (by simp) _
    have hP5 : PAt ((w3.alloc (.cells #[.int .i64 0, .int .i64 0] 75)).alloc (.cells #[.slice A L.length cap, .slice none 0 0] 184)) (w3.heap.size + 1) (.slice none 0 0) L 0 :=
      ⟨A, cap, [], Blk.new_at (by simp), hcap, (HA.out.below (HB3.out.trans (hb5.mono HB3.out.size))).more (by omega), World.ownsRow_nil _ _ _ _⟩
    have HC := Lib.hid ((reads_go (3 * L.length + 3)).1 (w3.heap.size + 1) [] L _ (.slice none 0 0) hP5 (by omega) (by decide) (by omega))
    have HB5 := Lib.hid (HB3.out.trans (hb5.mono HB3.out.size))
    have HG5 := Lib.hid (hG3.below hb5 hlt1)
    have HH5 := Lib.hid (hH3.below hb5 hlt2)
    clear hb3 hG3 hH3 HRd HB2 HG2 HH2 h0 h1 h2 hb5 hP5 HG3 HH3
    go_wp2_with fail
    refine HC.out.mono ?_
    cases hx : altG (3 * L.length + 3) [] [] L with
    | error x =>
      obtain ⟨k, q⟩ := x
      rw [hx] at HV
      rintro e w6 ⟨rfl, hb6⟩
      have HV := Lib.hid (show lexemesS L = .error (k, q) from HV.out)
      have HB6 := Lib.hid (HB5.out.trans (hb6.mono (by omega)))
      have hG6 := HG5.out.below hb6 (by omega)
      have hH6 := HH5.out.below hb6 (by omega)
      dsimp only
      refine leaves_cons (f := 145) (args := #[.pointer (some ⟨w.heap.size, 0, none⟩), .pointer (some ⟨w.heap.size + 1, 0, none⟩)]) (by simp) (by simp [go_sem]) ?_
      refine (catch_bad w.heap.size (w.heap.size + 1) k q [] w6 hG6 hH6 (by omega)).mono ?_
      rintro e u' w7 ⟨rfl, rfl, hG7, hH7, hb7⟩
      dsimp only
      change Leaves Tryz.prog _ _ _ [] FrameMode.returning w7
      rw [HV.out]
      exact ⟨_, ret_tree Tryz.results104 rfl rfl hG7 hH7, rfl, HB6.out.trans (hb7 w.heap.size (Nat.le_refl _) (by omega))⟩
    | ok x =>
      obtain ⟨x, R⟩ := x
      rw [hx] at HV
      rintro e w6 ⟨v6, B, cap6, rfl, hP6, hS6, hc6, ht6⟩
      have HV := Lib.hid (show lexemesS L = .ok x from HV.out)
      have HB6 := Lib.hid (HB5.out.trans (hS6.1.mono (by omega)))
      have hG6 := HG5.out.below hS6.1 (by omega)
      have hH6 := HH5.out.below hS6.1 (by omega)
      have HT6 := Lib.hid (ht6.weak (Q := fun b => w3.heap.size + 2 ≤ b) (fun b hb _ => by have := hb.1; simp at this; omega))
      have y0 : w6.cell? ⟨w.heap.size, 0, none⟩ = some (.int .i64 0) := hG6.cell 0
      have y1 : w6.cell? ⟨w.heap.size, 1, none⟩ = some (.int .u64 0) := hG6.cell 1
      have y2 : w6.cell? ⟨w.heap.size, 2, none⟩ = some (.int .u64 0) := hG6.cell 2
      have y3 : w6.cell? ⟨w.heap.size, 3, none⟩ = some (.int .u64 0) := hG6.cell 3
      have y4 : w6.cell? ⟨w.heap.size, 4, none⟩ = some (.int .u64 0) := hG6.cell 4
      have y5 : w6.cell? ⟨w.heap.size, 5, none⟩ = some (.slice none 0 0) := hG6.cell 5
      have y6 : w6.cell? ⟨w.heap.size, 6, none⟩ = some (.int .i64 0) := hG6.cell 6
      have y7 : w6.cell? ⟨w.heap.size, 7, none⟩ = some (.int .i64 0) := hG6.cell 7
      have z0 := hG6.frozen 0
      have z1 := hG6.frozen 1
      have z2 := hG6.frozen 2
      have z3 := hG6.frozen 3
      have z4 := hG6.frozen 4
      have z5 := hG6.frozen 5
      have z6 := hG6.frozen 6
      have z7 := hG6.frozen 7
      obtain ⟨b0, b1, f0, f1⟩ := hH6.c2
      have HG6 := Lib.hid hG6
      have HH6 := Lib.hid hH6
      have hsz : w.heap.size + 1 ≤ w3.heap.size + 2 := by omega
      clear hP6 hS6 ht6 hG6 hH6 HC hx
      unfold ndV
      dsimp only
      go_wp2
      go_light
      have hg1 := only_put8 w6 w.heap.size (.int .i64 x.kind) (.int .u64 ((word x.set.testBit 0 : Nat) : Int)) (.int .u64 ((word x.set.testBit 1 : Nat) : Int)) (.int .u64 ((word x.set.testBit 2 : Nat) : Int)) (.int .u64 ((word x.set.testBit 3 : Nat) : Int)) (.slice B x.kids.len cap6) (.int .i64 x.lo) (.int .i64 x.hi)
      have ht7 := TreesAt.keep (Q := fun b => w3.heap.size + 2 ≤ b) (fun b o (hb : w3.heap.size + 2 ≤ b) hl => World.cell?_of_block (hg1.block b hl (by simp; omega))) (fun b hb _ => hb) HT6.out
      refine leaves_cons (f := 145) (args := #[.pointer (some ⟨w.heap.size, 0, none⟩), .pointer (some ⟨w.heap.size + 1, 0, none⟩)]) (by simp) (by simp [go_sem]) ?_
      refine (catch_idle w.heap.size (w.heap.size + 1) _).mono ?_
      rintro e u' w7 ⟨rfl, rfl, hw7⟩
      dsimp only
      change Leaves Tryz.prog _ _ _ [] FrameMode.returning w7
      rw [HV.out]
      have hg2 := only_set (only_set (only_refl ((((((((w6.setCell ⟨w.heap.size, 0, none⟩ (.int .i64 x.kind)).setCell ⟨w.heap.size, 1, none⟩ (.int .u64 ((word x.set.testBit 0 : Nat) : Int))).setCell ⟨w.heap.size, 2, none⟩ (.int .u64 ((word x.set.testBit 1 : Nat) : Int))).setCell ⟨w.heap.size, 3, none⟩ (.int .u64 ((word x.set.testBit 2 : Nat) : Int))).setCell ⟨w.heap.size, 4, none⟩ (.int .u64 ((word x.set.testBit 3 : Nat) : Int))).setCell ⟨w.heap.size, 5, none⟩ (.slice B x.kids.len cap6)).setCell ⟨w.heap.size, 6, none⟩ (.int .i64 x.lo)).setCell ⟨w.heap.size, 7, none⟩ (.int .i64 x.hi)) (some (w.heap.size + 1))) 0 (.int .i64 0)) 1 (.int .i64 0)
      have ht8 := TreesAt.keep (Q := fun b => w.heap.size ≤ b) (fun b o (hb : w3.heap.size + 2 ≤ b) hl => World.cell?_of_block (hg2.block b hl (by simp; omega))) (fun b (hb : w3.heap.size + 2 ≤ b) _ => by omega) ht7
      have hG7 := (HG6.out.put8 (.int .i64 x.kind) (.int .u64 ((word x.set.testBit 0 : Nat) : Int)) (.int .u64 ((word x.set.testBit 1 : Nat) : Int)) (.int .u64 ((word x.set.testBit 2 : Nat) : Int)) (.int .u64 ((word x.set.testBit 3 : Nat) : Int)) (.slice B x.kids.len cap6) (.int .i64 x.lo) (.int .i64 x.hi)).far2 (g' := w.heap.size + 1) (by omega) (.int .i64 0) (.int .i64 0)
      have hH7 := (HH6.out.past8 (g' := w.heap.size) (by omega) (.int .i64 x.kind) (.int .u64 ((word x.set.testBit 0 : Nat) : Int)) (.int .u64 ((word x.set.testBit 1 : Nat) : Int)) (.int .u64 ((word x.set.testBit 2 : Nat) : Int)) (.int .u64 ((word x.set.testBit 3 : Nat) : Int)) (.slice B x.kids.len cap6) (.int .i64 x.lo) (.int .i64 x.hi)).set2 (a' := .int .i64 0) (b' := .int .i64 0)
      have hb7 := below_set2 (below_put8 HB6.out (Nat.le_refl _) (.int .i64 x.kind) (.int .u64 ((word x.set.testBit 0 : Nat) : Int)) (.int .u64 ((word x.set.testBit 1 : Nat) : Int)) (.int .u64 ((word x.set.testBit 2 : Nat) : Int)) (.int .u64 ((word x.set.testBit 3 : Nat) : Int)) (.slice B x.kids.len cap6) (.int .i64 x.lo) (.int .i64 x.hi)) (Nat.le_succ w.heap.size) (.int .i64 0) (.int .i64 0)
      rw [← hw7] at ht8 hG7 hH7 hb7
      exact ⟨_, ret_tree Tryz.results104 rfl rfl hG7 hH7, B, cap6, rfl, hb7, hc6, ht8⟩
  · have hd : ((readyS L).1 != 0) = true := by simpa using h0
    have HV := Lib.hid (lexemesS_bad h0)
    have y0 : w3.cell? ⟨w.heap.size, 0, none⟩ = some (.int .i64 0) := hG3.cell 0
    have y1 : w3.cell? ⟨w.heap.size, 1, none⟩ = some (.int .u64 0) := hG3.cell 1
    have y2 : w3.cell? ⟨w.heap.size, 2, none⟩ = some (.int .u64 0) := hG3.cell 2
    have y3 : w3.cell? ⟨w.heap.size, 3, none⟩ = some (.int .u64 0) := hG3.cell 3
    have y4 : w3.cell? ⟨w.heap.size, 4, none⟩ = some (.int .u64 0) := hG3.cell 4
    have y5 : w3.cell? ⟨w.heap.size, 5, none⟩ = some (.slice none 0 0) := hG3.cell 5
    have y6 : w3.cell? ⟨w.heap.size, 6, none⟩ = some (.int .i64 0) := hG3.cell 6
    have y7 : w3.cell? ⟨w.heap.size, 7, none⟩ = some (.int .i64 0) := hG3.cell 7
    have z0 := hG3.frozen 0
    have z1 := hG3.frozen 1
    have z2 := hG3.frozen 2
    have z3 := hG3.frozen 3
    have z4 := hG3.frozen 4
    have z5 := hG3.frozen 5
    have z6 := hG3.frozen 6
    have z7 := hG3.frozen 7
    obtain ⟨b0, b1, f0, f1⟩ := hH3.c2
    clear hb3 hG3 hH3 HRd HB2 HG2 HH2 h0
    generalize readyS L = kq at *
    obtain ⟨k, q⟩ := kq
    dsimp only at hd ⊢
    go_wp2
    go_region
    all_goals go_wp2
    all_goals go_light
    rw [HV.out]
    exact ⟨_, ret_tree Tryz.results104 rfl rfl (((HG3.out.put8 _ _ _ _ _ _ _ _).far2 (by omega) _ _).alloc _).drew (((HH3.out.past8 (by omega) _ _ _ _ _ _ _ _).set2).alloc _).drew, rfl, ((below_set2 (below_put8 HB3.out (Nat.le_refl _) _ _ _ _ _ _ _ _) (by omega) _ _).alloc (by have := HB3.out.size; simpa [World.setCell] using this) _).drew⟩

end Go.Proofs.YtfekpkelmliejaaGreatDoor
namespace Go.Proofs.YtfekpkelmliejaaGreatDoor
open Go.RowKit
set_option linter.unusedSimpArgs false
set_option linter.unusedVariables false
set_option maxRecDepth 100000

/-- What rep has about it: the box of the splitter, the box of the place. -/
structure Ctx (N S T I b o cap : Nat) (bs : List Nat) (i : Nat) (v : Value) (L : List Lex) (W0 : World) (j : Nat) (W : World) : Prop where
  hT : W.cell? ⟨T, 0, none⟩ = some (.pointer (some ⟨S, 0, none⟩))
  hI : Blk W I 3 #[.int .i64 (j : Int)]
  hS : Spl W S b o bs.length cap i v 0 0
  hrow : W.ownsRow N 139 8 v L.length (lexCells L)
  hA : BytesAt W N (some ⟨b, o, none⟩) bs
  hB : Below N W0 W
  hNS : N ≤ S
  hNI : N ≤ I
  hTI : T ≠ I
  hSI : S ≠ I
  hcap : bs.length ≤ cap

section
variable {N S T I b o cap : Nat} {bs : List Nat} {i : Nat} {v : Value} {L : List Lex} {W0 : World} {j : Nat} {W W' : World}
theorem Ctx.drewN (h : Ctx N S T I b o cap bs i v L W0 j W) (n : Nat) : Ctx N S T I b o cap bs i v L W0 j (W.drewN n) :=
  ⟨h.hT, h.hI, h.hS, h.hrow, h.hA, bel_drewN h.hB n, h.hNS, h.hNI, h.hTI, h.hSI, h.hcap⟩
theorem Ctx.below (h : Ctx N S T I b o cap bs i v L W0 j W) (hb : Below W.heap.size W W') : Ctx N S T I b o cap bs i v L W0 j W' :=
  ⟨(hb.cell (p := ⟨T, 0, none⟩) (World.block_lt_of_cell? W _ h.hT)).trans h.hT, h.hI.below hb h.hI.lt, Blk.below h.hS hb (Blk.lt h.hS), own_below h.hrow hb, h.hA.below (hb.mono (Nat.le_of_lt (Nat.lt_of_le_of_lt h.hNS (Blk.lt h.hS)))),
    h.hB.trans (hb.mono (Nat.le_of_lt (Nat.lt_of_le_of_lt h.hNS (Blk.lt h.hS)))), h.hNS, h.hNI, h.hTI, h.hSI, h.hcap⟩
theorem Ctx.set_ (h : Ctx N S T I b o cap bs i v L W0 j W) (m : Nat) : Ctx N S T I b o cap bs i v L W0 m (W.setCell ⟨I, 0, none⟩ (.int .i64 (m : Int))) :=
  ⟨(World.cell?_setCell_other W _ _ _ (fun e => h.hTI (by simpa using (congrArg Addr.block e).symm))).trans h.hT, h.hI.set_ 0 _, Blk.far h.hS (p := ⟨I, 0, none⟩) h.hSI _, own_set h.hrow (blk_not_row h.hI (by decide) h.hrow),
    h.hA.below ((Below.refl N W).setCell (p := ⟨I, 0, none⟩) h.hNI _), h.hB.setCell (p := ⟨I, 0, none⟩) h.hNI _, h.hNS, h.hNI, h.hTI, h.hSI, h.hcap⟩
theorem Ctx.facts (h : Ctx N S T I b o cap bs i v L W0 j W) : W.cell? ⟨T, 0, none⟩ = some (.pointer (some ⟨S, 0, none⟩)) ∧ W.cell? ⟨I, 0, none⟩ = some (.int .i64 (j : Int)) ∧ W.cell? ⟨S, 0, none⟩ = some (.slice (some ⟨b, o, none⟩) bs.length cap) ∧ W.frozen? ⟨I, 0, none⟩ = false ∧
    T < W.heap.size ∧ I < W.heap.size ∧ S < W.heap.size ∧ N ≤ W.heap.size :=
  ⟨h.hT, h.hI.cell 0, (Spl.cells h.hS).1, h.hI.frozen 0, World.block_lt_of_cell? W _ h.hT, h.hI.lt, Blk.lt h.hS, Nat.le_of_lt (Nat.lt_of_le_of_lt h.hNS (Blk.lt h.hS))⟩
end

/-- A call that gives v, and keeps what rep has about it, the place at j. -/
def Kept (N S T I b o cap : Nat) (bs : List Nat) (i : Nat) (u : Value) (L : List Lex) (W0 : World) (j : Nat) (v : Value) (e : Ending) (W' : World) : Prop := e = .returned v ∧ Ctx N S T I b o cap bs i u L W0 j W'

set_option maxHeartbeats 2000000 in
theorem here_yes {N S T I b o cap : Nat} {bs : List Nat} {i : Nat} {v : Value} {L : List Lex} {W0 : World} {j : Nat} {W : World} (h : Ctx N S T I b o cap bs i v L W0 j W) (c : Nat) (hj : j < bs.length) :
    Calls Tryz.prog 230 #[.int .u8 (c : Int), .pointer (some ⟨I, 0, none⟩), .pointer (some ⟨T, 0, none⟩)] W (Kept N S T I b o cap bs i v L W0 j (.bool (hasAt bs j c))) := by
  obtain ⟨c0, c1, c2, f1, l0, l1, l2, _⟩ := h.facts
  have hcell := bytesAt_cells h.hA j hj
  have hl := h.hA.2.1
  have HK := Lib.hid h
  have Hh := Lib.hid (hasAt_in c hj)
  clear h
  generalize byteAt bs j = d at *
  have hd : decide (j < bs.length) = true := by simp; omega
  have hd2 : (j : Int) < (bs.length : Int) := by omega
  go_enter Tryz.func230, Tryz.ntmps230
  go_wp2
  go_quiet (fail)
  go_wp2
  go_light
  go_ret
  refine ⟨ret_b ?_, HK.out.drewN _⟩
  rw [Hh.out]
  rw [Bool.eq_iff_iff]
  simp
  omega
set_option maxHeartbeats 2000000 in
theorem here_end {N S T I b o cap : Nat} {bs : List Nat} {i : Nat} {v : Value} {L : List Lex} {W0 : World} {j : Nat} {W : World} (h : Ctx N S T I b o cap bs i v L W0 j W) (c : Nat) (hj : bs.length ≤ j) :
    Calls Tryz.prog 230 #[.int .u8 (c : Int), .pointer (some ⟨I, 0, none⟩), .pointer (some ⟨T, 0, none⟩)] W (Kept N S T I b o cap bs i v L W0 j (.bool (hasAt bs j c))) := by
  obtain ⟨c0, c1, c2, f1, l0, l1, l2, _⟩ := h.facts
  have hl := h.hA.2.1
  have HK := Lib.hid h
  have Hh := Lib.hid (hasAt_out (bs := bs) (i := (j : Int)) c (by omega))
  clear h
  have hd : decide (j < bs.length) = false := by simp; omega
  go_enter Tryz.func230, Tryz.ntmps230
  go_wp2
  go_quiet (fail)
  go_wp2
  go_light
  go_ret
  exact ⟨ret_b (by rw [Hh.out]), HK.out.drewN _⟩
theorem sphere_go {N S T I b o cap : Nat} {bs : List Nat} {i : Nat} {v : Value} {L : List Lex} {W0 : World} {j : Nat} {W : World} (h : Ctx N S T I b o cap bs i v L W0 j W) (c : Nat) :
    Calls Tryz.prog 230 #[.int .u8 (c : Int), .pointer (some ⟨I, 0, none⟩), .pointer (some ⟨T, 0, none⟩)] W (Kept N S T I b o cap bs i v L W0 j (.bool (hasAt bs j c))) := by
  rcases Nat.lt_or_ge j bs.length with hj | hj
  · exact here_yes h c hj
  · exact here_end h c hj

set_option maxHeartbeats 2000000 in
theorem num_yes {N S T I b o cap : Nat} {bs : List Nat} {i : Nat} {v : Value} {L : List Lex} {W0 : World} {j : Nat} {W : World} (h : Ctx N S T I b o cap bs i v L W0 j W) (hj : j ≤ bs.length) {n m : Nat} (ht : takeS bs j = some (n, m)) :
    Calls Tryz.prog 228 #[.pointer (some ⟨T, 0, none⟩), .pointer (some ⟨I, 0, none⟩)] W (Kept N S T I b o cap bs i v L W0 m (.tuple #[.int .i64 (n : Int), .bool true])) := by
  have Hv := Lib.hid (show takeVal bs j = .tuple #[.int .i64 (n : Int), .int .i64 (m : Int), .int .i64 0] by unfold takeVal; rw [ht])
  clear ht
  obtain ⟨c0, c1, c2, f1, l0, l1, l2, l3⟩ := h.facts
  have hl := h.hA.2.1
  have HK := Lib.hid h
  have HE := Lib.hid (fun w hA => take_at b o cap bs j w hA h.hcap hj)
  clear h
  go_enter Tryz.func228, Tryz.ntmps228
  go_wp2_with fail
  go_region_held3 (fun w' => (∀ b o, b < W.heap.size → w'.cell? ⟨b, o, none⟩ = W.cell? ⟨b, o, none⟩) ∧ Since W.heap.size W w') (first | (with_reducible exact HK2.out) | (with_reducible exact since_start (Nat.le_refl _)))
    (first | (go_at_call 229; refine (HE.out _ (bytes_since (by assumption) HK.out.hA l3)).mono ?_; rintro e w' ⟨rfl, hb'⟩; rw [Hv.out]; have hK := since_step (by assumption) hb'; have HK2 := Lib.hid hK; clear hK))
  have HC := Lib.hid (HK.out.below HK2.out.2.1)
  obtain ⟨k0, k1, k2, g1, _, _, _, _⟩ := HC.out.facts

  go_wp2
  go_light
  go_ret2
  exact ⟨rfl, HC.out.set_ m⟩
set_option maxHeartbeats 2000000 in
theorem num_no {N S T I b o cap : Nat} {bs : List Nat} {i : Nat} {v : Value} {L : List Lex} {W0 : World} {j : Nat} {W : World} (h : Ctx N S T I b o cap bs i v L W0 j W) (hj : j ≤ bs.length) (ht : takeS bs j = none) :
    Calls Tryz.prog 228 #[.pointer (some ⟨T, 0, none⟩), .pointer (some ⟨I, 0, none⟩)] W (Kept N S T I b o cap bs i v L W0 j (.tuple #[.int .i64 0, .bool false])) := by
  have Hv := Lib.hid (show takeVal bs j = .tuple #[.int .i64 0, .int .i64 0, .int .i64 (takeErr bs j)] by unfold takeVal; rw [ht])
  have hk := takeErr_pos bs j
  generalize takeErr bs j = k at *
  have hk0 : (k != 0) = true := by rw [bne_iff_ne]; omega
  clear ht hk
  obtain ⟨c0, c1, c2, f1, l0, l1, l2, l3⟩ := h.facts
  have hl := h.hA.2.1
  have HK := Lib.hid h
  have HE := Lib.hid (fun w hA => take_at b o cap bs j w hA h.hcap hj)
  clear h
  go_enter Tryz.func228, Tryz.ntmps228
  go_wp2_with fail
  go_region_held3 (fun w' => (∀ b o, b < W.heap.size → w'.cell? ⟨b, o, none⟩ = W.cell? ⟨b, o, none⟩) ∧ Since W.heap.size W w') (first | (with_reducible exact HK2.out) | (with_reducible exact since_start (Nat.le_refl _)))
    (first | (go_at_call 229; refine (HE.out _ (bytes_since (by assumption) HK.out.hA l3)).mono ?_; rintro e w' ⟨rfl, hb'⟩; rw [Hv.out]; have hK := since_step (by assumption) hb'; have HK2 := Lib.hid hK; clear hK))
  have HC := Lib.hid (HK.out.below HK2.out.2.1)
  obtain ⟨k0, k1, k2, g1, _, _, _, _⟩ := HC.out.facts

  go_wp2
  go_light
  go_ret2
  exact ⟨rfl, HC.out⟩

end Go.Proofs.YtfekpkelmliejaaGreatDoor
namespace Go.Proofs.YtfekpkelmliejaaGreatDoor
open Go.RowKit
set_option linter.unusedSimpArgs false
set_option linter.unusedVariables false
set_option maxRecDepth 100000

/-- What stands at a place when i rounds have turned a list from its two ends. -/
def revAt {α : Type} (l : List α) (i p : Nat) : Option α := if p < i ∨ l.length - i ≤ p then l[l.length - 1 - p]? else l[p]?
/-- A row of bytes in a block of its own, some rounds turned. -/
def RevB (w0 : World) (g : Nat) (bs : List Nat) (i : Nat) (w : World) : Prop :=
  ∃ cur : Array Value, Blk w g 5 cur ∧ bs.length ≤ cur.size ∧ (∀ p, p < bs.length → cur[p]? = (revAt bs i p).map fun n : Nat => Value.int .u8 (n : Int)) ∧ w0.grownBy w (some g)
theorem RevB.drew {w0 w : World} {g i : Nat} {bs : List Nat} (h : RevB w0 g bs i w) : RevB w0 g bs i w.drew := by
  obtain ⟨cur, h1, h2, h3, h4⟩ := h
  exact ⟨cur, h1.drew, h2, h3, ⟨h4.os, h4.tape, h4.output, h4.size, h4.block⟩⟩
end Go.Proofs.YtfekpkelmliejaaGreatDoor
namespace Go.Proofs.YtfekpkelmliejaaGreatDoor
open Go.RowKit
set_option linter.unusedSimpArgs false
set_option linter.unusedVariables false
set_option maxRecDepth 100000

/-- A row of nodes' cells in a block, some rounds turned. -/
def RevN (w0 : World) (g : Nat) (gs : List (Nd × Option Addr × Nat)) (i : Nat) (w : World) : Prop :=
  ∃ cur : Array Value, Blk w g 28 cur ∧ gs.length * 8 ≤ cur.size ∧ (∀ p a, p < gs.length → revAt gs i p = some a → ∀ j, j < 8 → cur[p * 8 + j]? = (ndCell a.1 a.2.1 a.2.2)[j]?) ∧ w0.grownBy w (some g)
theorem RevN.drew {w0 w : World} {g i : Nat} {gs : List (Nd × Option Addr × Nat)} (h : RevN w0 g gs i w) : RevN w0 g gs i w.drew := by
  obtain ⟨cur, h1, h2, h3, h4⟩ := h
  exact ⟨cur, h1.drew, h2, h3, ⟨h4.os, h4.tape, h4.output, h4.size, h4.block⟩⟩
end Go.Proofs.YtfekpkelmliejaaGreatDoor
namespace Go.Proofs.YtfekpkelmliejaaGreatDoor
open Go.RowKit
set_option linter.unusedSimpArgs false
set_option linter.unusedVariables false
set_option maxRecDepth 100000

theorem addr_plusR (b o j : Nat) : (⟨b, o, none⟩ : Addr).add j = ⟨b, o + j, none⟩ := by unfold Addr.add; split <;> simp_all
end Go.Proofs.YtfekpkelmliejaaGreatDoor
namespace Go.Proofs.YtfekpkelmliejaaGreatDoor
open Go.RowKit
set_option linter.unusedSimpArgs false
set_option linter.unusedVariables false
set_option maxRecDepth 100000

end Go.Proofs.YtfekpkelmliejaaGreatDoor
namespace Go.Proofs.YtfekpkelmliejaaGreatDoor
open Go.RowKit
set_option linter.unusedSimpArgs false
set_option linter.unusedVariables false
set_option maxRecDepth 100000

end Go.Proofs.YtfekpkelmliejaaGreatDoor
namespace Go.Proofs.YtfekpkelmliejaaGreatDoor
open Go.RowKit
set_option linter.unusedSimpArgs false
set_option linter.unusedVariables false
set_option maxRecDepth 100000

end Go.Proofs.YtfekpkelmliejaaGreatDoor
namespace Go.Proofs.YtfekpkelmliejaaGreatDoor
open Go.RowKit
set_option linter.unusedSimpArgs false
set_option linter.unusedVariables false
set_option maxRecDepth 100000

end Go.Proofs.YtfekpkelmliejaaGreatDoor
namespace Go.Proofs.YtfekpkelmliejaaGreatDoor
open Go.RowKit
set_option linter.unusedSimpArgs false
set_option linter.unusedVariables false
set_option maxRecDepth 100000

/-- An append to a row of the machine. -/
theorem Moves.push {base : Nat} {S : Nat → Prop} {w wa w1 : World} {v : Value} {gg : Nat} (hS : ∀ b, S b → base ≤ b ∧ b < w.heap.size) (hb : base ≤ w.heap.size) (ha : Below w.heap.size w wa) (hgrow : wa.grownBy w1 v.ownBlock) (hv : ∀ b, v.ownBlock = some b → S b) (hat : v.ownBlock = some gg ∨ w.heap.size ≤ gg) :
    Moves base S w (fun b => S b ∨ b = gg) w1 := by
  have hsz := ha.size
  have hs2 : wa.heap.size ≤ w1.heap.size := hgrow.size
  refine ⟨(ha.mono hb).grown hgrow (by omega) (fun k hk => (hS k (hv k hk)).1), by omega, fun b hlt hn => ?_, fun b hb => ?_⟩
  · exact (hgrow.block b (by omega) (fun e => hn (hv b e.symm))).trans (ha.block b hlt)
  · rcases hb with h | rfl
    · exact .inl h
    · rcases hat with h | h
      · exact .inl (hv _ h)
      · exact .inr h
end Go.Proofs.YtfekpkelmliejaaGreatDoor
namespace Go.Proofs.YtfekpkelmliejaaGreatDoor
open Go.RowKit
set_option linter.unusedSimpArgs false
set_option linter.unusedVariables false
set_option maxRecDepth 100000

/-- What is laid fits. -/
def FitsM (m : MachS) : Prop := m.states ≤ 1000000000000 ∧ m.links.length ≤ 1000000000000 ∧ m.edges.length ≤ 1000000000000
def ExtM (m m' : MachS) : Prop := m.states ≤ m'.states ∧ m.links.length ≤ m'.links.length ∧ m.edges.length ≤ m'.edges.length
theorem FitsM.of {m m' : MachS} (h : FitsM m') (he : ExtM m m') : FitsM m := ⟨Nat.le_trans he.1 h.1, Nat.le_trans he.2.1 h.2.1, Nat.le_trans he.2.2 h.2.2⟩
theorem ExtM.refl (m : MachS) : ExtM m m := ⟨Nat.le_refl _, Nat.le_refl _, Nat.le_refl _⟩
theorem ExtM.trans {a b c : MachS} (h : ExtM a b) (h' : ExtM b c) : ExtM a c := ⟨Nat.le_trans h.1 h'.1, Nat.le_trans h.2.1 h'.2.1, Nat.le_trans h.2.2 h'.2.2⟩
theorem ExtM.state (m : MachS) (a : Nat) : ExtM m (m.state a) := ⟨by simp [MachS.states, MachS.state], Nat.le_refl _, Nat.le_refl _⟩
theorem ExtM.link (m : MachS) (a b : Nat) : ExtM m (m.link a b) := ⟨Nat.le_refl _, by simp [MachS.link], Nat.le_refl _⟩
theorem ExtM.edge (m : MachS) (a s b : Nat) : ExtM m (m.edge a s b) := ⟨Nat.le_refl _, Nat.le_refl _, by simp [MachS.edge]⟩
def GrowsF (f : LayF) : Prop := ∀ m i, ExtM m (f m i).1
theorem AddsF.grows {f : LayF} {n c : Nat} (h : AddsF f n c) : GrowsF f := fun m i => by
  obtain ⟨L, E, h0, _⟩ := h m i
  rw [h0]
  exact ⟨by simp [MachS.states], by simp, by simp⟩
/-- How a call of laying ends. -/
def LayOut (base g : Nat) (S : Nat → Prop) (w : World) (r : MachS × Nat) (e : Ending) (w' : World) : Prop :=
  e = .returned (.int .i64 (r.2 : Int)) ∧ ∃ S', LayAt w' base g S' r.1 ∧ Moves base S w S' w'
/-- The contract of laying a tree. -/
def LayC (x : Nd) : Prop := ∀ (B : Option Addr) (cap i base g : Nat) (S : Nat → Prop) (m : MachS) (w : World), TreesAt w (fun b => b < base) x.kids B → LayAt w base g S m → base ≤ w.heap.size → FitsM (x.lay m i).1 →
  Calls Tryz.prog 120 #[.pointer (some ⟨g, 0, none⟩), ndV x B cap, .int .i64 (i : Int)] w (LayOut base g S w (x.lay m i))
/-- What is known of a node's kids. -/
structure KidsC (F : Trees) : Prop where
  lay : ∀ z ∈ F.list, LayC z
  grows : ∀ f ∈ F.lays, GrowsF f
theorem KidsC.get {F : Trees} (h : KidsC F) {k : Nat} {z : Nd} (hz : F.list[k]? = some z) : LayC z := h.lay z (List.mem_of_getElem? hz)
/-! What has no kids. -/
end Go.Proofs.YtfekpkelmliejaaGreatDoor
