/-
  The reference of chapter 10: edge, First, Last.
-/
import Derived.Test.YtfekpkelmliejaaGreatDoorQFactO
import Derived.Test.YtfekpkelmliejaaGreatDoorQFactM
namespace Go.Proofs.YtfekpkelmliejaaGreatDoor
open Go.RowKit
set_option linter.unusedSimpArgs false
set_option linter.unusedVariables false
set_option maxRecDepth 100000

theorem null_eq {s : SumS} (o : SumOk s) : s.null = (s.short == 0) := by
  unfold SumS.null
  cases h : s.hollow with
  | true => rw [o.none h]; rfl
  | false => by_cases hz : s.short = 0 <;> simp [hz]
set_option maxHeartbeats 4000000 in
theorem rnullP_go (x : Nd) (P : Nat → Prop) (B : Option Addr) (cap : Nat) (w : World) (hs : x.size ≤ 140737488355328) (ho : ∀ y ∈ x.nodes, aloneN y = true) (ht : TreesAt w P x.kids B) :
    Calls Tryz.prog 112 #[ndV x B cap] w fun e w' => e = .returned (.bool x.sum.null) ∧ Below w.heap.size w w' := by
  have hb : Below w.heap.size w (w.alloc (.cells #[.int .i64 x.kind, .int .u64 ((word (x.set.testBit) 0 : Nat) : Int), .int .u64 ((word (x.set.testBit) 1 : Nat) : Int), .int .u64 ((word (x.set.testBit) 2 : Nat) : Int), .int .u64 ((word (x.set.testBit) 3 : Nat) : Int), .slice B x.kids.len cap, .int .i64 x.lo, .int .i64 x.hi] 28)) := (Below.refl _ _).alloc (Nat.le_refl _) _
  have HB := Lib.hid hb
  have HV := Lib.hid (null_eq (ok_sum ho))
  have HN := Lib.hid (Blk.new w 28 #[.int .i64 x.kind, .int .u64 ((word (x.set.testBit) 0 : Nat) : Int), .int .u64 ((word (x.set.testBit) 1 : Nat) : Int), .int .u64 ((word (x.set.testBit) 2 : Nat) : Int), .int .u64 ((word (x.set.testBit) 3 : Nat) : Int), .slice B x.kids.len cap, .int .i64 x.lo, .int .i64 x.hi])
  have HC := Lib.hid (rshort_go x _ B cap (w.alloc (.cells #[.int .i64 x.kind, .int .u64 ((word (x.set.testBit) 0 : Nat) : Int), .int .u64 ((word (x.set.testBit) 1 : Nat) : Int), .int .u64 ((word (x.set.testBit) 2 : Nat) : Int), .int .u64 ((word (x.set.testBit) 3 : Nat) : Int), .slice B x.kids.len cap, .int .i64 x.lo, .int .i64 x.hi] 28)) hs ho (ht.below hb))
  clear hb ht hs ho
  unfold ndV at HC ⊢
  go_enter Tryz.func112, Tryz.ntmps112
  go_wp2_with fail
  refine HC.out.mono ?_
  rintro e w3 ⟨rfl, hb3⟩
  have HB3 := Lib.hid (HB.out.trans (hb3.mono HB.out.size))
  clear hb3 HC HB HN
  dsimp only
  go_wp2
  go_light
  go_ret
  exact ⟨by rw [HV.out]; simp, HB3.out⟩
def KidE (en : Bool) (x : Nd) : Prop := ∀ (i : Nat) (z : Nd) (P : Nat → Prop) (C : Option Addr) (capc : Nat) (w' : World), x.kids.list[i]? = some z → TreesAt w' P z.kids C → Calls Tryz.prog 71 #[ndV z C capc, .bool en] w' fun e w'' => e = .returned (.agg #[.int .u64 ((word (z.sum.edge en) 0 : Nat) : Int), .int .u64 ((word (z.sum.edge en) 1 : Nat) : Int), .int .u64 ((word (z.sum.edge en) 2 : Nat) : Int), .int .u64 ((word (z.sum.edge en) 3 : Nat) : Int)]) ∧ Below w'.heap.size w' w''
theorem c8n {w : World} {g : Nat} {t : TypeId} {a b c d e f i j : Value} (h : Blk w g t #[a, b, c, d, e, f, i, j]) :
    w.cell? ⟨g, 0, none⟩ = some a ∧ w.cell? ⟨g, 1, none⟩ = some b ∧ w.cell? ⟨g, 2, none⟩ = some c ∧ w.cell? ⟨g, 3, none⟩ = some d ∧ w.cell? ⟨g, 4, none⟩ = some e ∧ w.cell? ⟨g, 5, none⟩ = some f ∧ w.cell? ⟨g, 6, none⟩ = some i ∧ w.cell? ⟨g, 7, none⟩ = some j ∧ g < w.heap.size :=
  ⟨h.cell 0, h.cell 1, h.cell 2, h.cell 3, h.cell 4, h.cell 5, h.cell 6, h.cell 7, h.lt⟩
theorem all4 {w w4 : World} {a b c d e f i j x y z u x' y' z' u' : Value} (r : Nat → Bool) (hN : Blk w4 w.heap.size 28 #[a, b, c, d, e, f, i, j]) (hR : Blk w4 (w.heap.size + 1) 25 #[x, y, z, u]) (hS : Blk w4 (w.heap.size + 1 + 1) 25 #[x', y', z', u']) (hB : Below w.heap.size w w4) :
    ∃ w5, ((((w4.setCell ⟨w.heap.size + 1 + 1, 0, none⟩ (.int .u64 ((word r 0 : Nat) : Int))).setCell ⟨w.heap.size + 1 + 1, 1, none⟩ (.int .u64 ((word r 1 : Nat) : Int))).setCell ⟨w.heap.size + 1 + 1, 2, none⟩ (.int .u64 ((word r 2 : Nat) : Int))).setCell ⟨w.heap.size + 1 + 1, 3, none⟩ (.int .u64 ((word r 3 : Nat) : Int))) = w5 ∧
      (Blk w5 w.heap.size 28 #[a, b, c, d, e, f, i, j] ∧ Blk w5 (w.heap.size + 1) 25 #[x, y, z, u] ∧ Blk w5 (w.heap.size + 1 + 1) 25 #[.int .u64 ((word (r) 0 : Nat) : Int), .int .u64 ((word (r) 1 : Nat) : Int), .int .u64 ((word (r) 2 : Nat) : Int), .int .u64 ((word (r) 3 : Nat) : Int)] ∧ Below w.heap.size w w5) := by
  refine ⟨_, rfl, Blk.far4 (g' := w.heap.size + 1 + 1) hN (by omega) (.int .u64 ((word r 0 : Nat) : Int)) (.int .u64 ((word r 1 : Nat) : Int)) (.int .u64 ((word r 2 : Nat) : Int)) (.int .u64 ((word r 3 : Nat) : Int)), Blk.far4 (g' := w.heap.size + 1 + 1) hR (by omega) (.int .u64 ((word r 0 : Nat) : Int)) (.int .u64 ((word r 1 : Nat) : Int)) (.int .u64 ((word r 2 : Nat) : Int)) (.int .u64 ((word r 3 : Nat) : Int)), ?_, ?_⟩
  · exact Blk.set4 (a' := .int .u64 ((word r 0 : Nat) : Int)) (b' := .int .u64 ((word r 1 : Nat) : Int)) (c' := .int .u64 ((word r 2 : Nat) : Int)) (d' := .int .u64 ((word r 3 : Nat) : Int)) hS
  · exact below_set4 (g := w.heap.size + 1 + 1) hB (by omega) (.int .u64 ((word r 0 : Nat) : Int)) (.int .u64 ((word r 1 : Nat) : Int)) (.int .u64 ((word r 2 : Nat) : Int)) (.int .u64 ((word r 3 : Nat) : Int))
theorem keep4 {P : Nat → Prop} {w1 w2 : World} {g : Nat} (h : KeepP P w1 w2) (hP : ∀ b, P b → b ≠ g) (a b c d : Value) : KeepP P w1 ((((w2.setCell ⟨g, 0, none⟩ a).setCell ⟨g, 1, none⟩ b).setCell ⟨g, 2, none⟩ c).setCell ⟨g, 3, none⟩ d) :=
  (((h.set (p := ⟨g, 0, none⟩) hP a).set (p := ⟨g, 1, none⟩) hP b).set (p := ⟨g, 2, none⟩) hP c).set (p := ⟨g, 3, none⟩) hP d
set_option maxHeartbeats 4000000 in
theorem re_no (en : Bool) (x : Nd) (B : Option Addr) (cap : Nat) (w : World) (hs : x.size ≤ 140737488355328) (hl : x.kids.len ≤ 140737488355328) (ho : ∀ y ∈ x.nodes, aloneN y = true) (ht : TreesAt w (fun b => b < w.heap.size) x.kids B) (hG : KidE en x) (hh : x.sum.hollow = true) : Calls Tryz.prog 71 #[ndV x B cap, .bool en] w fun e w' => e = .returned (.agg #[.int .u64 ((word (x.sum.edge en) 0 : Nat) : Int), .int .u64 ((word (x.sum.edge en) 1 : Nat) : Int), .int .u64 ((word (x.sum.edge en) 2 : Nat) : Int), .int .u64 ((word (x.sum.edge en) 3 : Nat) : Int)]) ∧ Below w.heap.size w w' := by
  have HV := Lib.hid (show x.sum.edge en = noB by have := edge_none (ok_sum ho) hh; unfold SumS.edge; split; exact this.2; exact this.1)
  have HH := Lib.hid hh
  have hb : Below w.heap.size w (((w.alloc (.cells #[.int .i64 x.kind, .int .u64 ((word (x.set.testBit) 0 : Nat) : Int), .int .u64 ((word (x.set.testBit) 1 : Nat) : Int), .int .u64 ((word (x.set.testBit) 2 : Nat) : Int), .int .u64 ((word (x.set.testBit) 3 : Nat) : Int), .slice B x.kids.len cap, .int .i64 x.lo, .int .i64 x.hi] 28)).alloc (.cells #[.int .u64 0, .int .u64 0, .int .u64 0, .int .u64 0] 25)).alloc (.cells #[.int .u64 0, .int .u64 0, .int .u64 0, .int .u64 0] 25)) := (((Below.refl _ _).alloc (Nat.le_refl _) _).alloc (by simp) _).alloc (by simp; omega) _
  have HB := Lib.hid hb
  have HN := Lib.hid (((Blk.new w 28 #[.int .i64 x.kind, .int .u64 ((word (x.set.testBit) 0 : Nat) : Int), .int .u64 ((word (x.set.testBit) 1 : Nat) : Int), .int .u64 ((word (x.set.testBit) 2 : Nat) : Int), .int .u64 ((word (x.set.testBit) 3 : Nat) : Int), .slice B x.kids.len cap, .int .i64 x.lo, .int .i64 x.hi]).alloc (.cells #[.int .u64 0, .int .u64 0, .int .u64 0, .int .u64 0] 25)).alloc (.cells #[.int .u64 0, .int .u64 0, .int .u64 0, .int .u64 0] 25))
  have HR := Lib.hid ((show Blk ((w.alloc (.cells #[.int .i64 x.kind, .int .u64 ((word (x.set.testBit) 0 : Nat) : Int), .int .u64 ((word (x.set.testBit) 1 : Nat) : Int), .int .u64 ((word (x.set.testBit) 2 : Nat) : Int), .int .u64 ((word (x.set.testBit) 3 : Nat) : Int), .slice B x.kids.len cap, .int .i64 x.lo, .int .i64 x.hi] 28)).alloc (.cells #[.int .u64 0, .int .u64 0, .int .u64 0, .int .u64 0] 25)) (w.heap.size + 1) 25 #[.int .u64 0, .int .u64 0, .int .u64 0, .int .u64 0] from Blk.new_at (by simp)).alloc (.cells #[.int .u64 0, .int .u64 0, .int .u64 0, .int .u64 0] 25))
  have HS := Lib.hid (show Blk (((w.alloc (.cells #[.int .i64 x.kind, .int .u64 ((word (x.set.testBit) 0 : Nat) : Int), .int .u64 ((word (x.set.testBit) 1 : Nat) : Int), .int .u64 ((word (x.set.testBit) 2 : Nat) : Int), .int .u64 ((word (x.set.testBit) 3 : Nat) : Int), .slice B x.kids.len cap, .int .i64 x.lo, .int .i64 x.hi] 28)).alloc (.cells #[.int .u64 0, .int .u64 0, .int .u64 0, .int .u64 0] 25)).alloc (.cells #[.int .u64 0, .int .u64 0, .int .u64 0, .int .u64 0] 25)) (w.heap.size + 1 + 1) 25 #[.int .u64 0, .int .u64 0, .int .u64 0, .int .u64 0] from Blk.new_at (by simp))
  have HT := Lib.hid (ht.below hb)
  have HC := Lib.hid (rhollow_go x _ B cap _ hs ho (ht.below hb))
  clear hb ht
  clear hG ho hs hh
  unfold ndV at HC ⊢
  go_enter Tryz.func71, Tryz.ntmps71
  go_upto_region 2 with fail
  generalize (((w.alloc (.cells #[.int .i64 x.kind, .int .u64 ((word (x.set.testBit) 0 : Nat) : Int), .int .u64 ((word (x.set.testBit) 1 : Nat) : Int), .int .u64 ((word (x.set.testBit) 2 : Nat) : Int), .int .u64 ((word (x.set.testBit) 3 : Nat) : Int), .slice B x.kids.len cap, .int .i64 x.lo, .int .i64 x.hi] 28)).alloc (.cells #[.int .u64 0, .int .u64 0, .int .u64 0, .int .u64 0] 25)).alloc (.cells #[.int .u64 0, .int .u64 0, .int .u64 0, .int .u64 0] 25)) = w1 at *
  obtain ⟨n0, n1, n2, n3, n4, n5, n6, n7, hln⟩ := c8n (HN.out)
  go_wp2_with fail
  refine HC.out.mono ?_
  rintro e w2 ⟨rfl, hb2⟩
  have HN2 := Lib.hid (HN.out.below hb2 HN.out.lt)
  have HR2 := Lib.hid (HR.out.below hb2 HR.out.lt)
  have HS2 := Lib.hid (HS.out.below hb2 HS.out.lt)
  have HB2 := Lib.hid (HB.out.trans (hb2.mono HB.out.size))
  clear n0 n1 n2 n3 n4 n5 n6 n7 hln
  clear HC hb2 HN HT HB HR HS
  rw [HH.out]
  dsimp only
  obtain ⟨r0, r1, r2, r3, q0, q1, q2, q3⟩ := (HR2.out).c4
  have hlr := (HR2.out).lt
  obtain ⟨s0, s1, s2, s3, t0, t1, t2, t3⟩ := (HS2.out).c4
  have hls := (HS2.out).lt
  go_wp2
  refine bodyPost_ret (ret_set Tryz.results71 rfl (Blk.set4 HR2.out)) rfl ⟨by rw [HV.out, noB_word 0 (by decide), noB_word 1 (by decide), noB_word 2 (by decide), noB_word 3 (by decide)]; rfl, below_set4 HB2.out (Nat.le_succ _) _ _ _ _⟩
set_option maxHeartbeats 4000000 in
theorem re_set (en : Bool) (x : Nd) (B : Option Addr) (cap : Nat) (w : World) (hs : x.size ≤ 140737488355328) (hl : x.kids.len ≤ 140737488355328) (ho : ∀ y ∈ x.nodes, aloneN y = true) (ht : TreesAt w (fun b => b < w.heap.size) x.kids B) (hG : KidE en x) (hh : x.sum.hollow = false) (hk : x.kind = 3) : Calls Tryz.prog 71 #[ndV x B cap, .bool en] w fun e w' => e = .returned (.agg #[.int .u64 ((word (x.sum.edge en) 0 : Nat) : Int), .int .u64 ((word (x.sum.edge en) 1 : Nat) : Int), .int .u64 ((word (x.sum.edge en) 2 : Nat) : Int), .int .u64 ((word (x.sum.edge en) 3 : Nat) : Int)]) ∧ Below w.heap.size w w' := by
  have HV := Lib.hid (show x.sum.edge en = x.set.testBit by rw [sum_set hk] at hh ⊢; split at hh; cases hh; rename_i h; rw [if_neg h]; unfold SumS.edge; split <;> rfl)
  have HH := Lib.hid hh
  clear hh
  have HG := Lib.hid hG
  have HO := Lib.hid ho
  have HT0 := Lib.hid ht
  have hb : Below w.heap.size w (((w.alloc (.cells #[.int .i64 x.kind, .int .u64 ((word (x.set.testBit) 0 : Nat) : Int), .int .u64 ((word (x.set.testBit) 1 : Nat) : Int), .int .u64 ((word (x.set.testBit) 2 : Nat) : Int), .int .u64 ((word (x.set.testBit) 3 : Nat) : Int), .slice B x.kids.len cap, .int .i64 x.lo, .int .i64 x.hi] 28)).alloc (.cells #[.int .u64 0, .int .u64 0, .int .u64 0, .int .u64 0] 25)).alloc (.cells #[.int .u64 0, .int .u64 0, .int .u64 0, .int .u64 0] 25)) := (((Below.refl _ _).alloc (Nat.le_refl _) _).alloc (by simp) _).alloc (by simp; omega) _
  have HB := Lib.hid hb
  have HN := Lib.hid (((Blk.new w 28 #[.int .i64 x.kind, .int .u64 ((word (x.set.testBit) 0 : Nat) : Int), .int .u64 ((word (x.set.testBit) 1 : Nat) : Int), .int .u64 ((word (x.set.testBit) 2 : Nat) : Int), .int .u64 ((word (x.set.testBit) 3 : Nat) : Int), .slice B x.kids.len cap, .int .i64 x.lo, .int .i64 x.hi]).alloc (.cells #[.int .u64 0, .int .u64 0, .int .u64 0, .int .u64 0] 25)).alloc (.cells #[.int .u64 0, .int .u64 0, .int .u64 0, .int .u64 0] 25))
  have HR := Lib.hid ((show Blk ((w.alloc (.cells #[.int .i64 x.kind, .int .u64 ((word (x.set.testBit) 0 : Nat) : Int), .int .u64 ((word (x.set.testBit) 1 : Nat) : Int), .int .u64 ((word (x.set.testBit) 2 : Nat) : Int), .int .u64 ((word (x.set.testBit) 3 : Nat) : Int), .slice B x.kids.len cap, .int .i64 x.lo, .int .i64 x.hi] 28)).alloc (.cells #[.int .u64 0, .int .u64 0, .int .u64 0, .int .u64 0] 25)) (w.heap.size + 1) 25 #[.int .u64 0, .int .u64 0, .int .u64 0, .int .u64 0] from Blk.new_at (by simp)).alloc (.cells #[.int .u64 0, .int .u64 0, .int .u64 0, .int .u64 0] 25))
  have HS := Lib.hid (show Blk (((w.alloc (.cells #[.int .i64 x.kind, .int .u64 ((word (x.set.testBit) 0 : Nat) : Int), .int .u64 ((word (x.set.testBit) 1 : Nat) : Int), .int .u64 ((word (x.set.testBit) 2 : Nat) : Int), .int .u64 ((word (x.set.testBit) 3 : Nat) : Int), .slice B x.kids.len cap, .int .i64 x.lo, .int .i64 x.hi] 28)).alloc (.cells #[.int .u64 0, .int .u64 0, .int .u64 0, .int .u64 0] 25)).alloc (.cells #[.int .u64 0, .int .u64 0, .int .u64 0, .int .u64 0] 25)) (w.heap.size + 1 + 1) 25 #[.int .u64 0, .int .u64 0, .int .u64 0, .int .u64 0] from Blk.new_at (by simp))
  have HT := Lib.hid (ht.below hb)
  have HC := Lib.hid (rhollow_go x _ B cap _ hs ho (ht.below hb))
  clear hb ht

  clear hG ho
  unfold ndV at HC ⊢
  rw [hk] at HN HT HB HC HR HS ⊢
  go_enter Tryz.func71, Tryz.ntmps71
  go_upto_region 2 with fail
  generalize (((w.alloc (.cells #[.int .i64 3, .int .u64 ((word (x.set.testBit) 0 : Nat) : Int), .int .u64 ((word (x.set.testBit) 1 : Nat) : Int), .int .u64 ((word (x.set.testBit) 2 : Nat) : Int), .int .u64 ((word (x.set.testBit) 3 : Nat) : Int), .slice B x.kids.len cap, .int .i64 x.lo, .int .i64 x.hi] 28)).alloc (.cells #[.int .u64 0, .int .u64 0, .int .u64 0, .int .u64 0] 25)).alloc (.cells #[.int .u64 0, .int .u64 0, .int .u64 0, .int .u64 0] 25)) = w1 at *
  obtain ⟨n0, n1, n2, n3, n4, n5, n6, n7, hln⟩ := c8n (HN.out)

  go_wp2_with fail
  refine HC.out.mono ?_
  rintro e w2 ⟨rfl, hb2⟩
  have HN2 := Lib.hid (HN.out.below hb2 HN.out.lt)
  have HR2 := Lib.hid (HR.out.below hb2 HR.out.lt)
  have HS2 := Lib.hid (HS.out.below hb2 HS.out.lt)
  have HB2 := Lib.hid (HB.out.trans (hb2.mono HB.out.size))
  clear n0 n1 n2 n3 n4 n5 n6 n7 hln
  clear HC hb2 HN HT HB HR HS
  rw [HH.out]
  dsimp only

  obtain ⟨r0, r1, r2, r3, q0, q1, q2, q3⟩ := (HR2.out).c4
  have hlr := (HR2.out).lt
  obtain ⟨n0, n1, n2, n3, n4, n5, n6, n7, hln⟩ := c8n (HN2.out)
  go_wp2
  refine bodyPost_ret (ret_set Tryz.results71 rfl (Blk.set4 HR2.out)) rfl ⟨by rw [HV.out], below_set4 HB2.out (Nat.le_succ _) _ _ _ _⟩
set_option maxHeartbeats 4000000 in
theorem re_rep0 (en : Bool) (x : Nd) (B : Option Addr) (cap : Nat) (w : World) (hs : x.size ≤ 140737488355328) (hl : x.kids.len ≤ 140737488355328) (ho : ∀ y ∈ x.nodes, aloneN y = true) (ht : TreesAt w (fun b => b < w.heap.size) x.kids B) (hG : KidE en x) (hh : x.sum.hollow = false) (hk : x.kind = 9) (h0 : x.hi = 0) (z : Nd) (hz : x.kids.list[0]? = some z) : Calls Tryz.prog 71 #[ndV x B cap, .bool en] w fun e w' => e = .returned (.agg #[.int .u64 ((word (x.sum.edge en) 0 : Nat) : Int), .int .u64 ((word (x.sum.edge en) 1 : Nat) : Int), .int .u64 ((word (x.sum.edge en) 2 : Nat) : Int), .int .u64 ((word (x.sum.edge en) 3 : Nat) : Int)]) ∧ Below w.heap.size w w' := by
  have HV := Lib.hid (show x.sum.edge en = noB by rw [sum_rep hk hz, h0, show hiF 0 = 0 from rfl]; unfold repeatedF SumS.edge; rw [if_pos (Or.inl rfl)]; split <;> rfl)
  have HH := Lib.hid hh
  have hd : (x.hi == 0) = true := by rw [h0]; rfl
  clear hh h0
  have HG := Lib.hid hG
  have HO := Lib.hid ho
  have HT0 := Lib.hid ht
  have hb : Below w.heap.size w (((w.alloc (.cells #[.int .i64 x.kind, .int .u64 ((word (x.set.testBit) 0 : Nat) : Int), .int .u64 ((word (x.set.testBit) 1 : Nat) : Int), .int .u64 ((word (x.set.testBit) 2 : Nat) : Int), .int .u64 ((word (x.set.testBit) 3 : Nat) : Int), .slice B x.kids.len cap, .int .i64 x.lo, .int .i64 x.hi] 28)).alloc (.cells #[.int .u64 0, .int .u64 0, .int .u64 0, .int .u64 0] 25)).alloc (.cells #[.int .u64 0, .int .u64 0, .int .u64 0, .int .u64 0] 25)) := (((Below.refl _ _).alloc (Nat.le_refl _) _).alloc (by simp) _).alloc (by simp; omega) _
  have HB := Lib.hid hb
  have HN := Lib.hid (((Blk.new w 28 #[.int .i64 x.kind, .int .u64 ((word (x.set.testBit) 0 : Nat) : Int), .int .u64 ((word (x.set.testBit) 1 : Nat) : Int), .int .u64 ((word (x.set.testBit) 2 : Nat) : Int), .int .u64 ((word (x.set.testBit) 3 : Nat) : Int), .slice B x.kids.len cap, .int .i64 x.lo, .int .i64 x.hi]).alloc (.cells #[.int .u64 0, .int .u64 0, .int .u64 0, .int .u64 0] 25)).alloc (.cells #[.int .u64 0, .int .u64 0, .int .u64 0, .int .u64 0] 25))
  have HR := Lib.hid ((show Blk ((w.alloc (.cells #[.int .i64 x.kind, .int .u64 ((word (x.set.testBit) 0 : Nat) : Int), .int .u64 ((word (x.set.testBit) 1 : Nat) : Int), .int .u64 ((word (x.set.testBit) 2 : Nat) : Int), .int .u64 ((word (x.set.testBit) 3 : Nat) : Int), .slice B x.kids.len cap, .int .i64 x.lo, .int .i64 x.hi] 28)).alloc (.cells #[.int .u64 0, .int .u64 0, .int .u64 0, .int .u64 0] 25)) (w.heap.size + 1) 25 #[.int .u64 0, .int .u64 0, .int .u64 0, .int .u64 0] from Blk.new_at (by simp)).alloc (.cells #[.int .u64 0, .int .u64 0, .int .u64 0, .int .u64 0] 25))
  have HS := Lib.hid (show Blk (((w.alloc (.cells #[.int .i64 x.kind, .int .u64 ((word (x.set.testBit) 0 : Nat) : Int), .int .u64 ((word (x.set.testBit) 1 : Nat) : Int), .int .u64 ((word (x.set.testBit) 2 : Nat) : Int), .int .u64 ((word (x.set.testBit) 3 : Nat) : Int), .slice B x.kids.len cap, .int .i64 x.lo, .int .i64 x.hi] 28)).alloc (.cells #[.int .u64 0, .int .u64 0, .int .u64 0, .int .u64 0] 25)).alloc (.cells #[.int .u64 0, .int .u64 0, .int .u64 0, .int .u64 0] 25)) (w.heap.size + 1 + 1) 25 #[.int .u64 0, .int .u64 0, .int .u64 0, .int .u64 0] from Blk.new_at (by simp))
  have HT := Lib.hid (ht.below hb)
  have HC := Lib.hid (rhollow_go x _ B cap _ hs ho (ht.below hb))
  clear hb ht

  clear hG ho
  unfold ndV at HC ⊢
  rw [hk] at HN HT HB HC HR HS ⊢
  go_enter Tryz.func71, Tryz.ntmps71
  go_upto_region 2 with fail
  generalize (((w.alloc (.cells #[.int .i64 9, .int .u64 ((word (x.set.testBit) 0 : Nat) : Int), .int .u64 ((word (x.set.testBit) 1 : Nat) : Int), .int .u64 ((word (x.set.testBit) 2 : Nat) : Int), .int .u64 ((word (x.set.testBit) 3 : Nat) : Int), .slice B x.kids.len cap, .int .i64 x.lo, .int .i64 x.hi] 28)).alloc (.cells #[.int .u64 0, .int .u64 0, .int .u64 0, .int .u64 0] 25)).alloc (.cells #[.int .u64 0, .int .u64 0, .int .u64 0, .int .u64 0] 25)) = w1 at *
  obtain ⟨n0, n1, n2, n3, n4, n5, n6, n7, hln⟩ := c8n (HN.out)

  go_wp2_with fail
  refine HC.out.mono ?_
  rintro e w2 ⟨rfl, hb2⟩
  have HN2 := Lib.hid (HN.out.below hb2 HN.out.lt)
  have HR2 := Lib.hid (HR.out.below hb2 HR.out.lt)
  have HS2 := Lib.hid (HS.out.below hb2 HS.out.lt)
  have HB2 := Lib.hid (HB.out.trans (hb2.mono HB.out.size))
  clear n0 n1 n2 n3 n4 n5 n6 n7 hln
  clear HC hb2 HN HT HB HR HS
  rw [HH.out]
  dsimp only

  obtain ⟨r0, r1, r2, r3, q0, q1, q2, q3⟩ := (HR2.out).c4
  have hlr := (HR2.out).lt
  obtain ⟨n0, n1, n2, n3, n4, n5, n6, n7, hln⟩ := c8n (HN2.out)
  obtain ⟨s0, s1, s2, s3, t0, t1, t2, t3⟩ := (HS2.out).c4
  have hls := (HS2.out).lt
  go_wp2
  refine bodyPost_ret (ret_set Tryz.results71 rfl (Blk.set4 HR2.out)) rfl ⟨by rw [HV.out, noB_word 0 (by decide), noB_word 1 (by decide), noB_word 2 (by decide), noB_word 3 (by decide)]; rfl, below_set4 HB2.out (Nat.le_succ _) _ _ _ _⟩
theorem two_or (p q : Nat → Bool) : two 0 p q = orB p q := by funext c; simp [two, orB]
set_option maxHeartbeats 8000000 in
theorem re_5f (x : Nd) (B : Option Addr) (cap : Nat) (w : World) (hs : x.size ≤ 140737488355328) (hl : x.kids.len ≤ 140737488355328) (ho : ∀ y ∈ x.nodes, aloneN y = true) (ht : TreesAt w (fun b => b < w.heap.size) x.kids B) (hG : KidE false x) (hh : x.sum.hollow = false) (h3 : (x.kind == 3) = false) (h4 : (x.kind == 4) = false) (h9 : (x.kind == 9) = false) (hE : edgeGo false false noB (kidsV false x.kids.sums) = x.sum.edge false) :
    Calls Tryz.prog 71 #[ndV x B cap, .bool false] w fun e w' => e = .returned (.agg #[.int .u64 ((word (x.sum.edge false) 0 : Nat) : Int), .int .u64 ((word (x.sum.edge false) 1 : Nat) : Int), .int .u64 ((word (x.sum.edge false) 2 : Nat) : Int), .int .u64 ((word (x.sum.edge false) 3 : Nat) : Int)]) ∧ Below w.heap.size w w' := by
  have HE0 := Lib.hid hE
  have HH := Lib.hid hh
  clear hh hE
  have HG := Lib.hid hG
  have HO := Lib.hid ho
  have HT0 := Lib.hid ht
  have hb : Below w.heap.size w (((w.alloc (.cells #[.int .i64 x.kind, .int .u64 ((word (x.set.testBit) 0 : Nat) : Int), .int .u64 ((word (x.set.testBit) 1 : Nat) : Int), .int .u64 ((word (x.set.testBit) 2 : Nat) : Int), .int .u64 ((word (x.set.testBit) 3 : Nat) : Int), .slice B x.kids.len cap, .int .i64 x.lo, .int .i64 x.hi] 28)).alloc (.cells #[.int .u64 0, .int .u64 0, .int .u64 0, .int .u64 0] 25)).alloc (.cells #[.int .u64 0, .int .u64 0, .int .u64 0, .int .u64 0] 25)) := (((Below.refl _ _).alloc (Nat.le_refl _) _).alloc (by simp) _).alloc (by simp; omega) _
  have HB := Lib.hid hb
  have HN := Lib.hid (((Blk.new w 28 #[.int .i64 x.kind, .int .u64 ((word (x.set.testBit) 0 : Nat) : Int), .int .u64 ((word (x.set.testBit) 1 : Nat) : Int), .int .u64 ((word (x.set.testBit) 2 : Nat) : Int), .int .u64 ((word (x.set.testBit) 3 : Nat) : Int), .slice B x.kids.len cap, .int .i64 x.lo, .int .i64 x.hi]).alloc (.cells #[.int .u64 0, .int .u64 0, .int .u64 0, .int .u64 0] 25)).alloc (.cells #[.int .u64 0, .int .u64 0, .int .u64 0, .int .u64 0] 25))
  have HR := Lib.hid ((show Blk ((w.alloc (.cells #[.int .i64 x.kind, .int .u64 ((word (x.set.testBit) 0 : Nat) : Int), .int .u64 ((word (x.set.testBit) 1 : Nat) : Int), .int .u64 ((word (x.set.testBit) 2 : Nat) : Int), .int .u64 ((word (x.set.testBit) 3 : Nat) : Int), .slice B x.kids.len cap, .int .i64 x.lo, .int .i64 x.hi] 28)).alloc (.cells #[.int .u64 0, .int .u64 0, .int .u64 0, .int .u64 0] 25)) (w.heap.size + 1) 25 #[.int .u64 0, .int .u64 0, .int .u64 0, .int .u64 0] from Blk.new_at (by simp)).alloc (.cells #[.int .u64 0, .int .u64 0, .int .u64 0, .int .u64 0] 25))
  have HS := Lib.hid (show Blk (((w.alloc (.cells #[.int .i64 x.kind, .int .u64 ((word (x.set.testBit) 0 : Nat) : Int), .int .u64 ((word (x.set.testBit) 1 : Nat) : Int), .int .u64 ((word (x.set.testBit) 2 : Nat) : Int), .int .u64 ((word (x.set.testBit) 3 : Nat) : Int), .slice B x.kids.len cap, .int .i64 x.lo, .int .i64 x.hi] 28)).alloc (.cells #[.int .u64 0, .int .u64 0, .int .u64 0, .int .u64 0] 25)).alloc (.cells #[.int .u64 0, .int .u64 0, .int .u64 0, .int .u64 0] 25)) (w.heap.size + 1 + 1) 25 #[.int .u64 0, .int .u64 0, .int .u64 0, .int .u64 0] from Blk.new_at (by simp))
  have HT := Lib.hid (ht.below hb)
  have HC := Lib.hid (rhollow_go x _ B cap _ hs ho (ht.below hb))
  clear hb ht

  clear hG ho
  unfold ndV at HC ⊢
  skip
  go_enter Tryz.func71, Tryz.ntmps71
  go_upto_region 2 with fail
  generalize (((w.alloc (.cells #[.int .i64 x.kind, .int .u64 ((word (x.set.testBit) 0 : Nat) : Int), .int .u64 ((word (x.set.testBit) 1 : Nat) : Int), .int .u64 ((word (x.set.testBit) 2 : Nat) : Int), .int .u64 ((word (x.set.testBit) 3 : Nat) : Int), .slice B x.kids.len cap, .int .i64 x.lo, .int .i64 x.hi] 28)).alloc (.cells #[.int .u64 0, .int .u64 0, .int .u64 0, .int .u64 0] 25)).alloc (.cells #[.int .u64 0, .int .u64 0, .int .u64 0, .int .u64 0] 25)) = w1 at *
  obtain ⟨n0, n1, n2, n3, n4, n5, n6, n7, hln⟩ := c8n (HN.out)

  go_wp2_with fail
  refine HC.out.mono ?_
  rintro e w2 ⟨rfl, hb2⟩
  have HN2 := Lib.hid (HN.out.below hb2 HN.out.lt)
  have HR2 := Lib.hid (HR.out.below hb2 HR.out.lt)
  have HS2 := Lib.hid (HS.out.below hb2 HS.out.lt)
  have HB2 := Lib.hid (HB.out.trans (hb2.mono HB.out.size))
  clear n0 n1 n2 n3 n4 n5 n6 n7 hln
  clear HC hb2 HN HT HB HR HS
  rw [HH.out]
  dsimp only

  have HS0 := Lib.hid (show Blk w2 w.heap.size 28 #[.int .i64 x.kind, .int .u64 ((word (x.set.testBit) 0 : Nat) : Int), .int .u64 ((word (x.set.testBit) 1 : Nat) : Int), .int .u64 ((word (x.set.testBit) 2 : Nat) : Int), .int .u64 ((word (x.set.testBit) 3 : Nat) : Int), .slice B x.kids.len cap, .int .i64 x.lo, .int .i64 x.hi] ∧ Blk w2 (w.heap.size + 1) 25 #[.int .u64 0, .int .u64 0, .int .u64 0, .int .u64 0] ∧ Blk w2 (w.heap.size + 1 + 1) 25 #[.int .u64 ((word (noB) 0 : Nat) : Int), .int .u64 ((word (noB) 1 : Nat) : Int), .int .u64 ((word (noB) 2 : Nat) : Int), .int .u64 ((word (noB) 3 : Nat) : Int)] ∧ Below w.heap.size w w2 from ⟨HN2.out, HR2.out, by rw [noB_word 0 (by decide), noB_word 1 (by decide), noB_word 2 (by decide), noB_word 3 (by decide)]; exact HS2.out, HB2.out⟩)
  obtain ⟨n0, n1, n2, n3, n4, n5, n6, n7, hln⟩ := c8n (HN2.out)

  go_wp2
  clear n0 n1 n2 n3 n4 n5 n6 n7 hln
  go_loopw [7, 8] (fun iv kv wr => ∃ (i : Nat) (p : Nat → Bool), iv = .int .i64 (i : Int) ∧ i ≤ x.kids.len ∧ Hid (edgeGo false false p ((kidsV false x.kids.sums).drop i) = x.sum.edge false) ∧ Hid (Blk wr w.heap.size 28 #[.int .i64 x.kind, .int .u64 ((word (x.set.testBit) 0 : Nat) : Int), .int .u64 ((word (x.set.testBit) 1 : Nat) : Int), .int .u64 ((word (x.set.testBit) 2 : Nat) : Int), .int .u64 ((word (x.set.testBit) 3 : Nat) : Int), .slice B x.kids.len cap, .int .i64 x.lo, .int .i64 x.hi] ∧ Blk wr (w.heap.size + 1) 25 #[.int .u64 0, .int .u64 0, .int .u64 0, .int .u64 0] ∧ Blk wr (w.heap.size + 1 + 1) 25 #[.int .u64 ((word (p) 0 : Nat) : Int), .int .u64 ((word (p) 1 : Nat) : Int), .int .u64 ((word (p) 2 : Nat) : Int), .int .u64 ((word (p) 3 : Nat) : Int)] ∧ Below w.heap.size w wr)) (fun iv _ _ => x.kids.len - (intOf iv).toNat)
  case atStart => exact ⟨0, noB, rfl, Nat.zero_le _, Lib.hid (by rw [List.drop_zero]; exact HE0.out), HS0⟩
  case round =>
    clear HS0 HN2 HR2 HS2 HB2
    obtain ⟨i, p, rfl, hi, HE, HRw⟩ := hrel
    by_cases hlt : i < x.kids.len
    · obtain ⟨k, hk⟩ : ∃ k, i = k := ⟨i, rfl⟩
      have hlk : k < x.kids.len := by omega
      obtain ⟨z, hz⟩ : ∃ z, x.kids.list[k]? = some z := ⟨_, List.getElem?_eq_getElem (by rw [Trees.len_list]; exact hlk)⟩
      have HES := Lib.hid (edge_go_step HE.out (kidsV_get (en := false) (k := k) (by rw [sums_len]; exact hlt) (by rw [sums_len]; simp; omega) (sums_get hz)))
      obtain ⟨b, o, C, capc, rfl, hbw, _, ⟨c0, c1, c2, c3, c4, c5, c6, c7⟩, hkz⟩ := (HT0.out.below HRw.out.2.2.2).get hz
      have hdl : (i : Int) < (x.kids.len : Int) := by omega
      have hdk : (k : Int) < (x.kids.len : Int) := by omega
      have HCz := Lib.hid (fun (W : World) (hb : Below wr.heap.size wr W) => HG.out k z _ C capc W hz (hkz.below hb))
      unfold ndV at HCz
      have HZ := Lib.hid hz
      have HSz := Lib.hid (show z.size ≤ 140737488355328 by have := Trees.size_get x.kids k z hz; have hks : x.kids.size + 1 = x.size := (by unfold Nd.size; omega); omega)
      subst hk
      clear hz hkz
      generalize z.sum.edge false = q at *
      go_upto_region 13 with fail
      skip
      obtain ⟨n0, n1, n2, n3, n4, n5, n6, n7, hln⟩ := c8n (HRw.out.1)

      have hlb : b < wr.heap.size := Nat.lt_of_lt_of_le hbw HRw.out.2.2.2.size
      have hKl := two_of (Q := fun b => b < wr.heap.size) hln hlb
      have hn02 : w.heap.size ≠ w.heap.size + 1 + 1 := by omega
      have hn12 : w.heap.size + 1 ≠ w.heap.size + 1 + 1 := by omega
      have hn22 : w.heap.size ≤ w.heap.size + 1 + 1 := by omega
      have hKn : ∀ b', b' = w.heap.size ∨ b' = b → b' ≠ w.heap.size + 1 + 1 := by rintro b' (rfl | rfl) <;> omega
      refine wp_region_held_drew (S := fun w' => ∀ b' o', b' = w.heap.size ∨ b' = b → w'.cell? ⟨b', o', none⟩ = wr.cell? ⟨b', o', none⟩) (by kernel_rfl) (KeepP.start (fun b' => b' = w.heap.size ∨ b' = b) wr) (fun hHeld => ?_)
      refine wpAnyH_take (i := 1) (oi := _) (v := ?_) rfl (by kernel_rfl) (by kernel_rfl) (by kernel_rfl) (fun _ _ _ h => h) (Or.inl ⟨by kernel_rfl, ?_⟩) (by assumption) ?_
      rotate_left
      · intro w hSw
        try dsimp only at hSw
        go_simp
        try (with_reducible rfl)

      refine wpAnyH_take (i := 2) (oi := _) (v := ?_) rfl (by kernel_rfl) (by kernel_rfl) (by kernel_rfl) (fun _ _ _ h => h) (Or.inl ⟨by kernel_rfl, ?_⟩) (by assumption) ?_
      rotate_left
      · intro w hSw
        try dsimp only at hSw
        go_simp
        try (with_reducible rfl)

      refine wpAnyH_take (i := 3) (oi := _) (v := ?_) rfl (by kernel_rfl) (by kernel_rfl) (by kernel_rfl) (fun _ _ _ h => h) (Or.inl ⟨by kernel_rfl, ?_⟩) (by assumption) ?_
      rotate_left
      · intro w hSw
        try dsimp only at hSw
        go_simp
        try (with_reducible rfl)

      refine wpAnyH_take (i := 4) (oi := _) (v := ?_) rfl (by kernel_rfl) (by kernel_rfl) (by kernel_rfl) (fun _ _ _ h => h) (Or.inl ⟨by kernel_rfl, ?_⟩) (by assumption) ?_
      rotate_left
      · intro w hSw
        try dsimp only at hSw
        go_simp
        try (with_reducible rfl)

      refine wpAnyH_take (i := 5) (oi := _) (v := ?_) rfl (by kernel_rfl) (by kernel_rfl) (by kernel_rfl) (fun _ _ _ h => h) (Or.inl ⟨by kernel_rfl, ?_⟩) (by assumption) ?_
      rotate_left
      · intro w hSw
        try dsimp only at hSw
        go_simp
        try (with_reducible rfl)

      refine wpAnyH_take (i := 6) (oi := _) (v := ?_) rfl (by kernel_rfl) (by kernel_rfl) (by kernel_rfl) (fun _ _ _ h => h) (Or.inl ⟨by kernel_rfl, ?_⟩) (by assumption) ?_
      rotate_left
      · intro w hSw
        try dsimp only at hSw
        go_simp
        try (with_reducible rfl)

      try simp only [Act.put, List.getElem_toArray, List.getElem_cons_zero, List.getElem_cons_succ, List.setIfInBounds_toArray, List.set_cons_zero, List.set_cons_succ]

      refine wpAnyH_ready (rs := [0, 7]) (by kernel_rfl) (by simp) ?_
      refine AllReadyH.cons (o := _) rfl (fun K hK => ?_) (AllReadyH.cons (o := _) rfl (fun K hK => ?_) AllReadyH.nil)
      · skip
        obtain ⟨s0, s1, s2, s3, t0, t1, t2, t3⟩ := (HRw.out.2.2.1).c4
        have hls := (HRw.out.2.2.1).lt
        go_simp
        refine hK.out _ _ hHeld (fun _ => ?_)
        clear hK K
        clear s0 s1 s2 s3 t0 t1 t2 t3 hls
        try simp only [Act.put, List.getElem_toArray, List.getElem_cons_zero, List.getElem_cons_succ, List.setIfInBounds_toArray, List.set_cons_zero, List.set_cons_succ]
        refine wpAnyH_ready (rs := [7]) (by kernel_rfl) (by simp) ?_
        refine AllReadyH.cons (o := _) rfl (fun K hK => ?_) AllReadyH.nil
        go_simp
        go_at_call 71
        refine (HCz.out wr.drew (Below.refl _ _).drew).mono ?_
        rintro e w3 ⟨rfl, hb3'⟩
        have hb3 : Below wr.heap.size wr w3 := (Below.refl _ _).drew.trans hb3'
        have hk3 := KeepP.below (KeepP.start (fun b' => b' = w.heap.size ∨ b' = b) wr) hb3' hKl
        refine hK.out _ _ hk3 (fun hSc => ?_)
        clear hK K hHeld hb3'
        try simp only [Act.put, List.getElem_toArray, List.getElem_cons_zero, List.getElem_cons_succ, List.setIfInBounds_toArray, List.set_cons_zero, List.set_cons_succ]

        clear n0 n1 n2 n3 n4 n5 n6 n7 hln c0 c1 c2 c3 c4 c5 c6 c7
        refine wpAnyH_ready (rs := [8]) (by kernel_rfl) (by simp) ?_
        refine AllReadyH.cons (o := _) rfl (fun K hK => ?_) AllReadyH.nil

        have HF2 := Lib.hid (rtwo_any p q 0 w3 (Or.inl rfl))
        rw [two_or] at HF2
        go_simp
        refine HF2.out.mono ?_
        rintro e w4 ⟨rfl, hb4⟩
        have hk4 := KeepP.below hk3 hb4 (fun b' h => Nat.lt_of_lt_of_le (hKl b' h) hb3.size)
        refine hK.out _ _ hk4 (fun hSa => ?_)
        clear hK K HF2
        generalize orB p q = r at *
        try simp only [Act.put, List.getElem_toArray, List.getElem_cons_zero, List.getElem_cons_succ, List.setIfInBounds_toArray, List.set_cons_zero, List.set_cons_succ]

        have HS4 := Lib.hid ((HRw.out.2.2.1.below hb3 HRw.out.2.2.1.lt).below hb4 (Nat.lt_of_lt_of_le HRw.out.2.2.1.lt hb3.size))
        have HN4 := Lib.hid ((HRw.out.1.below hb3 HRw.out.1.lt).below hb4 (Nat.lt_of_lt_of_le HRw.out.1.lt hb3.size))
        have HR4 := Lib.hid ((HRw.out.2.1.below hb3 HRw.out.2.1.lt).below hb4 (Nat.lt_of_lt_of_le HRw.out.2.1.lt hb3.size))
        have HB4 := Lib.hid ((HRw.out.2.2.2.trans (hb3.mono HRw.out.2.2.2.size)).trans (hb4.mono (by have := HRw.out.2.2.2.size; have := hb3.size; omega)))
        obtain ⟨s0, s1, s2, s3, t0, t1, t2, t3⟩ := (HS4.out).c4
        have hls := (HS4.out).lt

        refine wpAnyH_ready (rs := [9]) (by kernel_rfl) (by simp) ?_
        refine AllReadyH.cons (o := _) rfl (fun K hK => ?_) AllReadyH.nil

        go_simp
        refine hK.out _ _ (keep4 hk4 hKn _ _ _ _) (fun hSb => ?_)
        clear hK K
        try simp only [Act.put, List.getElem_toArray, List.getElem_cons_zero, List.getElem_cons_succ, List.setIfInBounds_toArray, List.set_cons_zero, List.set_cons_succ]

        refine wpAnyH_done (by kernel_rfl) ?_ _
        clear hSa hSb
        clear s0 s1 s2 s3 t0 t1 t2 t3 hls

        obtain ⟨w5, hw5, hrr⟩ := all4 r HN4.out HR4.out HS4.out HB4.out
        have HRR := Lib.hid hrr
        clear HS4 HN4 HR4 HB4 hb3 hb4 hk3 hk4 HRw HCz
        clear hSc hrr
        rw [hw5]
        clear hw5
        have HE9 := Lib.hid (show edgeGo false false r ((kidsV false x.kids.sums).drop (i + 1)) = x.sum.edge false by have := HES.out; rw [if_neg (by simp)] at this; exact this)
        clear HES HE hKl hKn hn02 hn12 hn22 hlb
        obtain ⟨n0, n1, n2, n3, n4, n5, n6, n7, hln⟩ := c8n (HRR.out.1)

        go_wp2
        go_light
        go_roundw
        case rel => exact ⟨i + 1, r, by go_num, by omega, HE9, HRR⟩
        case measure => simp [intOf]; omega

      · skip
        go_simp
        go_at_call 71
        refine (HCz.out wr.drew (Below.refl _ _).drew).mono ?_
        rintro e w3 ⟨rfl, hb3'⟩
        have hb3 : Below wr.heap.size wr w3 := (Below.refl _ _).drew.trans hb3'
        have hk3 := KeepP.below (KeepP.start (fun b' => b' = w.heap.size ∨ b' = b) wr) hb3' hKl
        refine hK.out _ _ hk3 (fun hSc => ?_)
        clear hK K hHeld hb3'
        try simp only [Act.put, List.getElem_toArray, List.getElem_cons_zero, List.getElem_cons_succ, List.setIfInBounds_toArray, List.set_cons_zero, List.set_cons_succ]

        clear n0 n1 n2 n3 n4 n5 n6 n7 hln c0 c1 c2 c3 c4 c5 c6 c7
        obtain ⟨s0, s1, s2, s3, t0, t1, t2, t3⟩ := ((HRw.out.2.2.1.below hb3 HRw.out.2.2.1.lt)).c4
        have hls := ((HRw.out.2.2.1.below hb3 HRw.out.2.2.1.lt)).lt
        refine wpAnyH_ready (rs := [0]) (by kernel_rfl) (by simp) ?_
        refine AllReadyH.cons (o := _) rfl (fun K hK => ?_) AllReadyH.nil
        go_simp
        refine hK.out _ _ hk3 (fun hSd => ?_)
        clear hSd
        clear hK K
        clear s0 s1 s2 s3 t0 t1 t2 t3 hls
        try simp only [Act.put, List.getElem_toArray, List.getElem_cons_zero, List.getElem_cons_succ, List.setIfInBounds_toArray, List.set_cons_zero, List.set_cons_succ]
        refine wpAnyH_ready (rs := [8]) (by kernel_rfl) (by simp) ?_
        refine AllReadyH.cons (o := _) rfl (fun K hK => ?_) AllReadyH.nil

        have HF2 := Lib.hid (rtwo_any p q 0 w3 (Or.inl rfl))
        rw [two_or] at HF2
        go_simp
        refine HF2.out.mono ?_
        rintro e w4 ⟨rfl, hb4⟩
        have hk4 := KeepP.below hk3 hb4 (fun b' h => Nat.lt_of_lt_of_le (hKl b' h) hb3.size)
        refine hK.out _ _ hk4 (fun hSa => ?_)
        clear hK K HF2
        generalize orB p q = r at *
        try simp only [Act.put, List.getElem_toArray, List.getElem_cons_zero, List.getElem_cons_succ, List.setIfInBounds_toArray, List.set_cons_zero, List.set_cons_succ]

        have HS4 := Lib.hid ((HRw.out.2.2.1.below hb3 HRw.out.2.2.1.lt).below hb4 (Nat.lt_of_lt_of_le HRw.out.2.2.1.lt hb3.size))
        have HN4 := Lib.hid ((HRw.out.1.below hb3 HRw.out.1.lt).below hb4 (Nat.lt_of_lt_of_le HRw.out.1.lt hb3.size))
        have HR4 := Lib.hid ((HRw.out.2.1.below hb3 HRw.out.2.1.lt).below hb4 (Nat.lt_of_lt_of_le HRw.out.2.1.lt hb3.size))
        have HB4 := Lib.hid ((HRw.out.2.2.2.trans (hb3.mono HRw.out.2.2.2.size)).trans (hb4.mono (by have := HRw.out.2.2.2.size; have := hb3.size; omega)))
        obtain ⟨s0, s1, s2, s3, t0, t1, t2, t3⟩ := (HS4.out).c4
        have hls := (HS4.out).lt

        refine wpAnyH_ready (rs := [9]) (by kernel_rfl) (by simp) ?_
        refine AllReadyH.cons (o := _) rfl (fun K hK => ?_) AllReadyH.nil

        go_simp
        refine hK.out _ _ (keep4 hk4 hKn _ _ _ _) (fun hSb => ?_)
        clear hK K
        try simp only [Act.put, List.getElem_toArray, List.getElem_cons_zero, List.getElem_cons_succ, List.setIfInBounds_toArray, List.set_cons_zero, List.set_cons_succ]

        refine wpAnyH_done (by kernel_rfl) ?_ _
        clear hSa hSb
        clear s0 s1 s2 s3 t0 t1 t2 t3 hls

        obtain ⟨w5, hw5, hrr⟩ := all4 r HN4.out HR4.out HS4.out HB4.out
        have HRR := Lib.hid hrr
        clear HS4 HN4 HR4 HB4 hb3 hb4 hk3 hk4 HRw HCz
        clear hSc hrr
        rw [hw5]
        clear hw5
        have HE9 := Lib.hid (show edgeGo false false r ((kidsV false x.kids.sums).drop (i + 1)) = x.sum.edge false by have := HES.out; rw [if_neg (by simp)] at this; exact this)
        clear HES HE hKl hKn hn02 hn12 hn22 hlb
        obtain ⟨n0, n1, n2, n3, n4, n5, n6, n7, hln⟩ := c8n (HRR.out.1)

        go_wp2
        go_light
        go_roundw
        case rel => exact ⟨i + 1, r, by go_num, by omega, HE9, HRR⟩
        case measure => simp [intOf]; omega

    · obtain rfl : i = x.kids.len := by omega
      have hdl : ¬ ((x.kids.len : Int) < (x.kids.len : Int)) := by omega
      have HE1 := Lib.hid (show p = x.sum.edge false by
        have := HE.out
        rw [show x.kids.len = (kidsV false x.kids.sums).length by rw [kidsV_len, sums_len], List.drop_length] at this
        exact this)
      clear HE
      skip
      obtain ⟨r0, r1, r2, r3, q0, q1, q2, q3⟩ := (HRw.out.2.1).c4
      have hlr := (HRw.out.2.1).lt
      obtain ⟨s0, s1, s2, s3, t0, t1, t2, t3⟩ := (HRw.out.2.2.1).c4
      have hls := (HRw.out.2.2.1).lt
      go_wp2
      refine bodyPost_ret (ret_set Tryz.results71 rfl (Blk.set4 HRw.out.2.1)) rfl ⟨by rw [HE1.out], below_set4 HRw.out.2.2.2 (Nat.le_succ _) _ _ _ _⟩
set_option maxHeartbeats 8000000 in
theorem re_5t (x : Nd) (B : Option Addr) (cap : Nat) (w : World) (hs : x.size ≤ 140737488355328) (hl : x.kids.len ≤ 140737488355328) (ho : ∀ y ∈ x.nodes, aloneN y = true) (ht : TreesAt w (fun b => b < w.heap.size) x.kids B) (hG : KidE true x) (hh : x.sum.hollow = false) (h3 : (x.kind == 3) = false) (h4 : (x.kind == 4) = false) (h9 : (x.kind == 9) = false) (hE : edgeGo false true noB (kidsV true x.kids.sums) = x.sum.edge true) :
    Calls Tryz.prog 71 #[ndV x B cap, .bool true] w fun e w' => e = .returned (.agg #[.int .u64 ((word (x.sum.edge true) 0 : Nat) : Int), .int .u64 ((word (x.sum.edge true) 1 : Nat) : Int), .int .u64 ((word (x.sum.edge true) 2 : Nat) : Int), .int .u64 ((word (x.sum.edge true) 3 : Nat) : Int)]) ∧ Below w.heap.size w w' := by
  have HE0 := Lib.hid hE
  have HH := Lib.hid hh
  clear hh hE
  have HG := Lib.hid hG
  have HO := Lib.hid ho
  have HT0 := Lib.hid ht
  have hb : Below w.heap.size w (((w.alloc (.cells #[.int .i64 x.kind, .int .u64 ((word (x.set.testBit) 0 : Nat) : Int), .int .u64 ((word (x.set.testBit) 1 : Nat) : Int), .int .u64 ((word (x.set.testBit) 2 : Nat) : Int), .int .u64 ((word (x.set.testBit) 3 : Nat) : Int), .slice B x.kids.len cap, .int .i64 x.lo, .int .i64 x.hi] 28)).alloc (.cells #[.int .u64 0, .int .u64 0, .int .u64 0, .int .u64 0] 25)).alloc (.cells #[.int .u64 0, .int .u64 0, .int .u64 0, .int .u64 0] 25)) := (((Below.refl _ _).alloc (Nat.le_refl _) _).alloc (by simp) _).alloc (by simp; omega) _
  have HB := Lib.hid hb
  have HN := Lib.hid (((Blk.new w 28 #[.int .i64 x.kind, .int .u64 ((word (x.set.testBit) 0 : Nat) : Int), .int .u64 ((word (x.set.testBit) 1 : Nat) : Int), .int .u64 ((word (x.set.testBit) 2 : Nat) : Int), .int .u64 ((word (x.set.testBit) 3 : Nat) : Int), .slice B x.kids.len cap, .int .i64 x.lo, .int .i64 x.hi]).alloc (.cells #[.int .u64 0, .int .u64 0, .int .u64 0, .int .u64 0] 25)).alloc (.cells #[.int .u64 0, .int .u64 0, .int .u64 0, .int .u64 0] 25))
  have HR := Lib.hid ((show Blk ((w.alloc (.cells #[.int .i64 x.kind, .int .u64 ((word (x.set.testBit) 0 : Nat) : Int), .int .u64 ((word (x.set.testBit) 1 : Nat) : Int), .int .u64 ((word (x.set.testBit) 2 : Nat) : Int), .int .u64 ((word (x.set.testBit) 3 : Nat) : Int), .slice B x.kids.len cap, .int .i64 x.lo, .int .i64 x.hi] 28)).alloc (.cells #[.int .u64 0, .int .u64 0, .int .u64 0, .int .u64 0] 25)) (w.heap.size + 1) 25 #[.int .u64 0, .int .u64 0, .int .u64 0, .int .u64 0] from Blk.new_at (by simp)).alloc (.cells #[.int .u64 0, .int .u64 0, .int .u64 0, .int .u64 0] 25))
  have HS := Lib.hid (show Blk (((w.alloc (.cells #[.int .i64 x.kind, .int .u64 ((word (x.set.testBit) 0 : Nat) : Int), .int .u64 ((word (x.set.testBit) 1 : Nat) : Int), .int .u64 ((word (x.set.testBit) 2 : Nat) : Int), .int .u64 ((word (x.set.testBit) 3 : Nat) : Int), .slice B x.kids.len cap, .int .i64 x.lo, .int .i64 x.hi] 28)).alloc (.cells #[.int .u64 0, .int .u64 0, .int .u64 0, .int .u64 0] 25)).alloc (.cells #[.int .u64 0, .int .u64 0, .int .u64 0, .int .u64 0] 25)) (w.heap.size + 1 + 1) 25 #[.int .u64 0, .int .u64 0, .int .u64 0, .int .u64 0] from Blk.new_at (by simp))
  have HT := Lib.hid (ht.below hb)
  have HC := Lib.hid (rhollow_go x _ B cap _ hs ho (ht.below hb))
  clear hb ht

  clear hG ho
  unfold ndV at HC ⊢
  skip
  go_enter Tryz.func71, Tryz.ntmps71
  go_upto_region 2 with fail
  generalize (((w.alloc (.cells #[.int .i64 x.kind, .int .u64 ((word (x.set.testBit) 0 : Nat) : Int), .int .u64 ((word (x.set.testBit) 1 : Nat) : Int), .int .u64 ((word (x.set.testBit) 2 : Nat) : Int), .int .u64 ((word (x.set.testBit) 3 : Nat) : Int), .slice B x.kids.len cap, .int .i64 x.lo, .int .i64 x.hi] 28)).alloc (.cells #[.int .u64 0, .int .u64 0, .int .u64 0, .int .u64 0] 25)).alloc (.cells #[.int .u64 0, .int .u64 0, .int .u64 0, .int .u64 0] 25)) = w1 at *
  obtain ⟨n0, n1, n2, n3, n4, n5, n6, n7, hln⟩ := c8n (HN.out)

  go_wp2_with fail
  refine HC.out.mono ?_
  rintro e w2 ⟨rfl, hb2⟩
  have HN2 := Lib.hid (HN.out.below hb2 HN.out.lt)
  have HR2 := Lib.hid (HR.out.below hb2 HR.out.lt)
  have HS2 := Lib.hid (HS.out.below hb2 HS.out.lt)
  have HB2 := Lib.hid (HB.out.trans (hb2.mono HB.out.size))
  clear n0 n1 n2 n3 n4 n5 n6 n7 hln
  clear HC hb2 HN HT HB HR HS
  rw [HH.out]
  dsimp only

  have HS0 := Lib.hid (show Blk w2 w.heap.size 28 #[.int .i64 x.kind, .int .u64 ((word (x.set.testBit) 0 : Nat) : Int), .int .u64 ((word (x.set.testBit) 1 : Nat) : Int), .int .u64 ((word (x.set.testBit) 2 : Nat) : Int), .int .u64 ((word (x.set.testBit) 3 : Nat) : Int), .slice B x.kids.len cap, .int .i64 x.lo, .int .i64 x.hi] ∧ Blk w2 (w.heap.size + 1) 25 #[.int .u64 0, .int .u64 0, .int .u64 0, .int .u64 0] ∧ Blk w2 (w.heap.size + 1 + 1) 25 #[.int .u64 ((word (noB) 0 : Nat) : Int), .int .u64 ((word (noB) 1 : Nat) : Int), .int .u64 ((word (noB) 2 : Nat) : Int), .int .u64 ((word (noB) 3 : Nat) : Int)] ∧ Below w.heap.size w w2 from ⟨HN2.out, HR2.out, by rw [noB_word 0 (by decide), noB_word 1 (by decide), noB_word 2 (by decide), noB_word 3 (by decide)]; exact HS2.out, HB2.out⟩)
  obtain ⟨n0, n1, n2, n3, n4, n5, n6, n7, hln⟩ := c8n (HN2.out)

  go_wp2
  clear n0 n1 n2 n3 n4 n5 n6 n7 hln
  go_loopw [7, 8] (fun iv kv wr => ∃ (i : Nat) (p : Nat → Bool), iv = .int .i64 (i : Int) ∧ i ≤ x.kids.len ∧ Hid (edgeGo false true p ((kidsV true x.kids.sums).drop i) = x.sum.edge true) ∧ Hid (Blk wr w.heap.size 28 #[.int .i64 x.kind, .int .u64 ((word (x.set.testBit) 0 : Nat) : Int), .int .u64 ((word (x.set.testBit) 1 : Nat) : Int), .int .u64 ((word (x.set.testBit) 2 : Nat) : Int), .int .u64 ((word (x.set.testBit) 3 : Nat) : Int), .slice B x.kids.len cap, .int .i64 x.lo, .int .i64 x.hi] ∧ Blk wr (w.heap.size + 1) 25 #[.int .u64 0, .int .u64 0, .int .u64 0, .int .u64 0] ∧ Blk wr (w.heap.size + 1 + 1) 25 #[.int .u64 ((word (p) 0 : Nat) : Int), .int .u64 ((word (p) 1 : Nat) : Int), .int .u64 ((word (p) 2 : Nat) : Int), .int .u64 ((word (p) 3 : Nat) : Int)] ∧ Below w.heap.size w wr)) (fun iv _ _ => x.kids.len - (intOf iv).toNat)
  case atStart => exact ⟨0, noB, rfl, Nat.zero_le _, Lib.hid (by rw [List.drop_zero]; exact HE0.out), HS0⟩
  case round =>
    clear HS0 HN2 HR2 HS2 HB2
    obtain ⟨i, p, rfl, hi, HE, HRw⟩ := hrel
    by_cases hlt : i < x.kids.len
    · obtain ⟨k, hk⟩ : ∃ k, x.kids.len = k + 1 + i := ⟨x.kids.len - 1 - i, by omega⟩
      have hlk : k < x.kids.len := by omega
      obtain ⟨z, hz⟩ : ∃ z, x.kids.list[k]? = some z := ⟨_, List.getElem?_eq_getElem (by rw [Trees.len_list]; exact hlk)⟩
      have HES := Lib.hid (edge_go_step HE.out (kidsV_get (en := true) (k := k) (by rw [sums_len]; exact hlt) (by rw [sums_len]; simp; omega) (sums_get hz)))
      obtain ⟨b, o, C, capc, rfl, hbw, _, ⟨c0, c1, c2, c3, c4, c5, c6, c7⟩, hkz⟩ := (HT0.out.below HRw.out.2.2.2).get hz
      have hdl : (i : Int) < (x.kids.len : Int) := by omega
      have hdk : (k : Int) < (x.kids.len : Int) := by omega
      have HCz := Lib.hid (fun (W : World) (hb : Below wr.heap.size wr W) => HG.out k z _ C capc W hz (hkz.below hb))
      unfold ndV at HCz
      have HZ := Lib.hid hz
      have HSz := Lib.hid (show z.size ≤ 140737488355328 by have := Trees.size_get x.kids k z hz; have hks : x.kids.size + 1 = x.size := (by unfold Nd.size; omega); omega)
      have HKV := Lib.hid (show (x.kids.len : Int) - 1 - (i : Int) = (k : Int) by omega)
      clear hk
      clear hz hkz
      generalize z.sum.edge true = q at *
      go_upto_region 13 with fail
      rw [HKV.out]
      obtain ⟨n0, n1, n2, n3, n4, n5, n6, n7, hln⟩ := c8n (HRw.out.1)

      have hlb : b < wr.heap.size := Nat.lt_of_lt_of_le hbw HRw.out.2.2.2.size
      have hKl := two_of (Q := fun b => b < wr.heap.size) hln hlb
      have hn02 : w.heap.size ≠ w.heap.size + 1 + 1 := by omega
      have hn12 : w.heap.size + 1 ≠ w.heap.size + 1 + 1 := by omega
      have hn22 : w.heap.size ≤ w.heap.size + 1 + 1 := by omega
      have hKn : ∀ b', b' = w.heap.size ∨ b' = b → b' ≠ w.heap.size + 1 + 1 := by rintro b' (rfl | rfl) <;> omega
      refine wp_region_held_drew (S := fun w' => ∀ b' o', b' = w.heap.size ∨ b' = b → w'.cell? ⟨b', o', none⟩ = wr.cell? ⟨b', o', none⟩) (by kernel_rfl) (KeepP.start (fun b' => b' = w.heap.size ∨ b' = b) wr) (fun hHeld => ?_)
      refine wpAnyH_take (i := 1) (oi := _) (v := ?_) rfl (by kernel_rfl) (by kernel_rfl) (by kernel_rfl) (fun _ _ _ h => h) (Or.inl ⟨by kernel_rfl, ?_⟩) (by assumption) ?_
      rotate_left
      · intro w hSw
        try dsimp only at hSw
        go_simp
        try (with_reducible rfl)

      refine wpAnyH_take (i := 2) (oi := _) (v := ?_) rfl (by kernel_rfl) (by kernel_rfl) (by kernel_rfl) (fun _ _ _ h => h) (Or.inl ⟨by kernel_rfl, ?_⟩) (by assumption) ?_
      rotate_left
      · intro w hSw
        try dsimp only at hSw
        go_simp
        try (with_reducible rfl)

      refine wpAnyH_take (i := 3) (oi := _) (v := ?_) rfl (by kernel_rfl) (by kernel_rfl) (by kernel_rfl) (fun _ _ _ h => h) (Or.inl ⟨by kernel_rfl, ?_⟩) (by assumption) ?_
      rotate_left
      · intro w hSw
        try dsimp only at hSw
        go_simp
        try (with_reducible rfl)

      refine wpAnyH_take (i := 4) (oi := _) (v := ?_) rfl (by kernel_rfl) (by kernel_rfl) (by kernel_rfl) (fun _ _ _ h => h) (Or.inl ⟨by kernel_rfl, ?_⟩) (by assumption) ?_
      rotate_left
      · intro w hSw
        try dsimp only at hSw
        go_simp
        try (with_reducible rfl)

      refine wpAnyH_take (i := 5) (oi := _) (v := ?_) rfl (by kernel_rfl) (by kernel_rfl) (by kernel_rfl) (fun _ _ _ h => h) (Or.inl ⟨by kernel_rfl, ?_⟩) (by assumption) ?_
      rotate_left
      · intro w hSw
        try dsimp only at hSw
        go_simp
        try (with_reducible rfl)

      refine wpAnyH_take (i := 6) (oi := _) (v := ?_) rfl (by kernel_rfl) (by kernel_rfl) (by kernel_rfl) (fun _ _ _ h => h) (Or.inl ⟨by kernel_rfl, ?_⟩) (by assumption) ?_
      rotate_left
      · intro w hSw
        try dsimp only at hSw
        go_simp
        try (with_reducible rfl)

      try simp only [Act.put, List.getElem_toArray, List.getElem_cons_zero, List.getElem_cons_succ, List.setIfInBounds_toArray, List.set_cons_zero, List.set_cons_succ]

      refine wpAnyH_ready (rs := [0, 7]) (by kernel_rfl) (by simp) ?_
      refine AllReadyH.cons (o := _) rfl (fun K hK => ?_) (AllReadyH.cons (o := _) rfl (fun K hK => ?_) AllReadyH.nil)
      · skip
        obtain ⟨s0, s1, s2, s3, t0, t1, t2, t3⟩ := (HRw.out.2.2.1).c4
        have hls := (HRw.out.2.2.1).lt
        go_simp
        refine hK.out _ _ hHeld (fun _ => ?_)
        clear hK K
        clear s0 s1 s2 s3 t0 t1 t2 t3 hls
        try simp only [Act.put, List.getElem_toArray, List.getElem_cons_zero, List.getElem_cons_succ, List.setIfInBounds_toArray, List.set_cons_zero, List.set_cons_succ]
        refine wpAnyH_ready (rs := [7]) (by kernel_rfl) (by simp) ?_
        refine AllReadyH.cons (o := _) rfl (fun K hK => ?_) AllReadyH.nil
        go_simp
        go_at_call 71
        refine (HCz.out wr.drew (Below.refl _ _).drew).mono ?_
        rintro e w3 ⟨rfl, hb3'⟩
        have hb3 : Below wr.heap.size wr w3 := (Below.refl _ _).drew.trans hb3'
        have hk3 := KeepP.below (KeepP.start (fun b' => b' = w.heap.size ∨ b' = b) wr) hb3' hKl
        refine hK.out _ _ hk3 (fun hSc => ?_)
        clear hK K hHeld hb3'
        try simp only [Act.put, List.getElem_toArray, List.getElem_cons_zero, List.getElem_cons_succ, List.setIfInBounds_toArray, List.set_cons_zero, List.set_cons_succ]

        clear n0 n1 n2 n3 n4 n5 n6 n7 hln c0 c1 c2 c3 c4 c5 c6 c7
        refine wpAnyH_ready (rs := [8]) (by kernel_rfl) (by simp) ?_
        refine AllReadyH.cons (o := _) rfl (fun K hK => ?_) AllReadyH.nil

        have HF2 := Lib.hid (rtwo_any p q 0 w3 (Or.inl rfl))
        rw [two_or] at HF2
        go_simp
        refine HF2.out.mono ?_
        rintro e w4 ⟨rfl, hb4⟩
        have hk4 := KeepP.below hk3 hb4 (fun b' h => Nat.lt_of_lt_of_le (hKl b' h) hb3.size)
        refine hK.out _ _ hk4 (fun hSa => ?_)
        clear hK K HF2
        generalize orB p q = r at *
        try simp only [Act.put, List.getElem_toArray, List.getElem_cons_zero, List.getElem_cons_succ, List.setIfInBounds_toArray, List.set_cons_zero, List.set_cons_succ]

        have HS4 := Lib.hid ((HRw.out.2.2.1.below hb3 HRw.out.2.2.1.lt).below hb4 (Nat.lt_of_lt_of_le HRw.out.2.2.1.lt hb3.size))
        have HN4 := Lib.hid ((HRw.out.1.below hb3 HRw.out.1.lt).below hb4 (Nat.lt_of_lt_of_le HRw.out.1.lt hb3.size))
        have HR4 := Lib.hid ((HRw.out.2.1.below hb3 HRw.out.2.1.lt).below hb4 (Nat.lt_of_lt_of_le HRw.out.2.1.lt hb3.size))
        have HB4 := Lib.hid ((HRw.out.2.2.2.trans (hb3.mono HRw.out.2.2.2.size)).trans (hb4.mono (by have := HRw.out.2.2.2.size; have := hb3.size; omega)))
        obtain ⟨s0, s1, s2, s3, t0, t1, t2, t3⟩ := (HS4.out).c4
        have hls := (HS4.out).lt

        refine wpAnyH_ready (rs := [9]) (by kernel_rfl) (by simp) ?_
        refine AllReadyH.cons (o := _) rfl (fun K hK => ?_) AllReadyH.nil

        go_simp
        refine hK.out _ _ (keep4 hk4 hKn _ _ _ _) (fun hSb => ?_)
        clear hK K
        try simp only [Act.put, List.getElem_toArray, List.getElem_cons_zero, List.getElem_cons_succ, List.setIfInBounds_toArray, List.set_cons_zero, List.set_cons_succ]

        refine wpAnyH_done (by kernel_rfl) ?_ _
        clear hSa hSb
        clear s0 s1 s2 s3 t0 t1 t2 t3 hls

        obtain ⟨w5, hw5, hrr⟩ := all4 r HN4.out HR4.out HS4.out HB4.out
        have HRR := Lib.hid hrr
        clear HS4 HN4 HR4 HB4 hb3 hb4 hk3 hk4 HRw HCz
        clear hSc hrr
        rw [hw5]
        clear hw5
        have HE9 := Lib.hid (show edgeGo false true r ((kidsV true x.kids.sums).drop (i + 1)) = x.sum.edge true by have := HES.out; rw [if_neg (by simp)] at this; exact this)
        clear HES HE hKl hKn hn02 hn12 hn22 hlb
        obtain ⟨n0, n1, n2, n3, n4, n5, n6, n7, hln⟩ := c8n (HRR.out.1)

        go_wp2
        go_light
        go_roundw
        case rel => exact ⟨i + 1, r, by go_num, by omega, HE9, HRR⟩
        case measure => simp [intOf]; omega

      · skip
        go_simp
        go_at_call 71
        refine (HCz.out wr.drew (Below.refl _ _).drew).mono ?_
        rintro e w3 ⟨rfl, hb3'⟩
        have hb3 : Below wr.heap.size wr w3 := (Below.refl _ _).drew.trans hb3'
        have hk3 := KeepP.below (KeepP.start (fun b' => b' = w.heap.size ∨ b' = b) wr) hb3' hKl
        refine hK.out _ _ hk3 (fun hSc => ?_)
        clear hK K hHeld hb3'
        try simp only [Act.put, List.getElem_toArray, List.getElem_cons_zero, List.getElem_cons_succ, List.setIfInBounds_toArray, List.set_cons_zero, List.set_cons_succ]

        clear n0 n1 n2 n3 n4 n5 n6 n7 hln c0 c1 c2 c3 c4 c5 c6 c7
        obtain ⟨s0, s1, s2, s3, t0, t1, t2, t3⟩ := ((HRw.out.2.2.1.below hb3 HRw.out.2.2.1.lt)).c4
        have hls := ((HRw.out.2.2.1.below hb3 HRw.out.2.2.1.lt)).lt
        refine wpAnyH_ready (rs := [0]) (by kernel_rfl) (by simp) ?_
        refine AllReadyH.cons (o := _) rfl (fun K hK => ?_) AllReadyH.nil
        go_simp
        refine hK.out _ _ hk3 (fun hSd => ?_)
        clear hSd
        clear hK K
        clear s0 s1 s2 s3 t0 t1 t2 t3 hls
        try simp only [Act.put, List.getElem_toArray, List.getElem_cons_zero, List.getElem_cons_succ, List.setIfInBounds_toArray, List.set_cons_zero, List.set_cons_succ]
        refine wpAnyH_ready (rs := [8]) (by kernel_rfl) (by simp) ?_
        refine AllReadyH.cons (o := _) rfl (fun K hK => ?_) AllReadyH.nil

        have HF2 := Lib.hid (rtwo_any p q 0 w3 (Or.inl rfl))
        rw [two_or] at HF2
        go_simp
        refine HF2.out.mono ?_
        rintro e w4 ⟨rfl, hb4⟩
        have hk4 := KeepP.below hk3 hb4 (fun b' h => Nat.lt_of_lt_of_le (hKl b' h) hb3.size)
        refine hK.out _ _ hk4 (fun hSa => ?_)
        clear hK K HF2
        generalize orB p q = r at *
        try simp only [Act.put, List.getElem_toArray, List.getElem_cons_zero, List.getElem_cons_succ, List.setIfInBounds_toArray, List.set_cons_zero, List.set_cons_succ]

        have HS4 := Lib.hid ((HRw.out.2.2.1.below hb3 HRw.out.2.2.1.lt).below hb4 (Nat.lt_of_lt_of_le HRw.out.2.2.1.lt hb3.size))
        have HN4 := Lib.hid ((HRw.out.1.below hb3 HRw.out.1.lt).below hb4 (Nat.lt_of_lt_of_le HRw.out.1.lt hb3.size))
        have HR4 := Lib.hid ((HRw.out.2.1.below hb3 HRw.out.2.1.lt).below hb4 (Nat.lt_of_lt_of_le HRw.out.2.1.lt hb3.size))
        have HB4 := Lib.hid ((HRw.out.2.2.2.trans (hb3.mono HRw.out.2.2.2.size)).trans (hb4.mono (by have := HRw.out.2.2.2.size; have := hb3.size; omega)))
        obtain ⟨s0, s1, s2, s3, t0, t1, t2, t3⟩ := (HS4.out).c4
        have hls := (HS4.out).lt

        refine wpAnyH_ready (rs := [9]) (by kernel_rfl) (by simp) ?_
        refine AllReadyH.cons (o := _) rfl (fun K hK => ?_) AllReadyH.nil

        go_simp
        refine hK.out _ _ (keep4 hk4 hKn _ _ _ _) (fun hSb => ?_)
        clear hK K
        try simp only [Act.put, List.getElem_toArray, List.getElem_cons_zero, List.getElem_cons_succ, List.setIfInBounds_toArray, List.set_cons_zero, List.set_cons_succ]

        refine wpAnyH_done (by kernel_rfl) ?_ _
        clear hSa hSb
        clear s0 s1 s2 s3 t0 t1 t2 t3 hls

        obtain ⟨w5, hw5, hrr⟩ := all4 r HN4.out HR4.out HS4.out HB4.out
        have HRR := Lib.hid hrr
        clear HS4 HN4 HR4 HB4 hb3 hb4 hk3 hk4 HRw HCz
        clear hSc hrr
        rw [hw5]
        clear hw5
        have HE9 := Lib.hid (show edgeGo false true r ((kidsV true x.kids.sums).drop (i + 1)) = x.sum.edge true by have := HES.out; rw [if_neg (by simp)] at this; exact this)
        clear HES HE hKl hKn hn02 hn12 hn22 hlb
        obtain ⟨n0, n1, n2, n3, n4, n5, n6, n7, hln⟩ := c8n (HRR.out.1)

        go_wp2
        go_light
        go_roundw
        case rel => exact ⟨i + 1, r, by go_num, by omega, HE9, HRR⟩
        case measure => simp [intOf]; omega

    · obtain rfl : i = x.kids.len := by omega
      have hdl : ¬ ((x.kids.len : Int) < (x.kids.len : Int)) := by omega
      have HE1 := Lib.hid (show p = x.sum.edge true by
        have := HE.out
        rw [show x.kids.len = (kidsV true x.kids.sums).length by rw [kidsV_len, sums_len], List.drop_length] at this
        exact this)
      clear HE
      skip
      obtain ⟨r0, r1, r2, r3, q0, q1, q2, q3⟩ := (HRw.out.2.1).c4
      have hlr := (HRw.out.2.1).lt
      obtain ⟨s0, s1, s2, s3, t0, t1, t2, t3⟩ := (HRw.out.2.2.1).c4
      have hls := (HRw.out.2.2.1).lt
      go_wp2
      refine bodyPost_ret (ret_set Tryz.results71 rfl (Blk.set4 HRw.out.2.1)) rfl ⟨by rw [HE1.out], below_set4 HRw.out.2.2.2 (Nat.le_succ _) _ _ _ _⟩
set_option maxHeartbeats 8000000 in
theorem re_9f (x : Nd) (B : Option Addr) (cap : Nat) (w : World) (hs : x.size ≤ 140737488355328) (hl : x.kids.len ≤ 140737488355328) (ho : ∀ y ∈ x.nodes, aloneN y = true) (ht : TreesAt w (fun b => b < w.heap.size) x.kids B) (hG : KidE false x) (hh : x.sum.hollow = false) (hk : x.kind = 9) (hd : (x.hi == 0) = false) (hE : edgeGo false false noB (kidsV false x.kids.sums) = x.sum.edge false) :
    Calls Tryz.prog 71 #[ndV x B cap, .bool false] w fun e w' => e = .returned (.agg #[.int .u64 ((word (x.sum.edge false) 0 : Nat) : Int), .int .u64 ((word (x.sum.edge false) 1 : Nat) : Int), .int .u64 ((word (x.sum.edge false) 2 : Nat) : Int), .int .u64 ((word (x.sum.edge false) 3 : Nat) : Int)]) ∧ Below w.heap.size w w' := by
  have HE0 := Lib.hid hE
  have HH := Lib.hid hh
  clear hh hE
  have HG := Lib.hid hG
  have HO := Lib.hid ho
  have HT0 := Lib.hid ht
  have hb : Below w.heap.size w (((w.alloc (.cells #[.int .i64 x.kind, .int .u64 ((word (x.set.testBit) 0 : Nat) : Int), .int .u64 ((word (x.set.testBit) 1 : Nat) : Int), .int .u64 ((word (x.set.testBit) 2 : Nat) : Int), .int .u64 ((word (x.set.testBit) 3 : Nat) : Int), .slice B x.kids.len cap, .int .i64 x.lo, .int .i64 x.hi] 28)).alloc (.cells #[.int .u64 0, .int .u64 0, .int .u64 0, .int .u64 0] 25)).alloc (.cells #[.int .u64 0, .int .u64 0, .int .u64 0, .int .u64 0] 25)) := (((Below.refl _ _).alloc (Nat.le_refl _) _).alloc (by simp) _).alloc (by simp; omega) _
  have HB := Lib.hid hb
  have HN := Lib.hid (((Blk.new w 28 #[.int .i64 x.kind, .int .u64 ((word (x.set.testBit) 0 : Nat) : Int), .int .u64 ((word (x.set.testBit) 1 : Nat) : Int), .int .u64 ((word (x.set.testBit) 2 : Nat) : Int), .int .u64 ((word (x.set.testBit) 3 : Nat) : Int), .slice B x.kids.len cap, .int .i64 x.lo, .int .i64 x.hi]).alloc (.cells #[.int .u64 0, .int .u64 0, .int .u64 0, .int .u64 0] 25)).alloc (.cells #[.int .u64 0, .int .u64 0, .int .u64 0, .int .u64 0] 25))
  have HR := Lib.hid ((show Blk ((w.alloc (.cells #[.int .i64 x.kind, .int .u64 ((word (x.set.testBit) 0 : Nat) : Int), .int .u64 ((word (x.set.testBit) 1 : Nat) : Int), .int .u64 ((word (x.set.testBit) 2 : Nat) : Int), .int .u64 ((word (x.set.testBit) 3 : Nat) : Int), .slice B x.kids.len cap, .int .i64 x.lo, .int .i64 x.hi] 28)).alloc (.cells #[.int .u64 0, .int .u64 0, .int .u64 0, .int .u64 0] 25)) (w.heap.size + 1) 25 #[.int .u64 0, .int .u64 0, .int .u64 0, .int .u64 0] from Blk.new_at (by simp)).alloc (.cells #[.int .u64 0, .int .u64 0, .int .u64 0, .int .u64 0] 25))
  have HS := Lib.hid (show Blk (((w.alloc (.cells #[.int .i64 x.kind, .int .u64 ((word (x.set.testBit) 0 : Nat) : Int), .int .u64 ((word (x.set.testBit) 1 : Nat) : Int), .int .u64 ((word (x.set.testBit) 2 : Nat) : Int), .int .u64 ((word (x.set.testBit) 3 : Nat) : Int), .slice B x.kids.len cap, .int .i64 x.lo, .int .i64 x.hi] 28)).alloc (.cells #[.int .u64 0, .int .u64 0, .int .u64 0, .int .u64 0] 25)).alloc (.cells #[.int .u64 0, .int .u64 0, .int .u64 0, .int .u64 0] 25)) (w.heap.size + 1 + 1) 25 #[.int .u64 0, .int .u64 0, .int .u64 0, .int .u64 0] from Blk.new_at (by simp))
  have HT := Lib.hid (ht.below hb)
  have HC := Lib.hid (rhollow_go x _ B cap _ hs ho (ht.below hb))
  clear hb ht

  clear hG ho
  unfold ndV at HC ⊢
  rw [hk] at HN HT HB HC HR HS ⊢
  go_enter Tryz.func71, Tryz.ntmps71
  go_upto_region 2 with fail
  generalize (((w.alloc (.cells #[.int .i64 9, .int .u64 ((word (x.set.testBit) 0 : Nat) : Int), .int .u64 ((word (x.set.testBit) 1 : Nat) : Int), .int .u64 ((word (x.set.testBit) 2 : Nat) : Int), .int .u64 ((word (x.set.testBit) 3 : Nat) : Int), .slice B x.kids.len cap, .int .i64 x.lo, .int .i64 x.hi] 28)).alloc (.cells #[.int .u64 0, .int .u64 0, .int .u64 0, .int .u64 0] 25)).alloc (.cells #[.int .u64 0, .int .u64 0, .int .u64 0, .int .u64 0] 25)) = w1 at *
  obtain ⟨n0, n1, n2, n3, n4, n5, n6, n7, hln⟩ := c8n (HN.out)

  go_wp2_with fail
  refine HC.out.mono ?_
  rintro e w2 ⟨rfl, hb2⟩
  have HN2 := Lib.hid (HN.out.below hb2 HN.out.lt)
  have HR2 := Lib.hid (HR.out.below hb2 HR.out.lt)
  have HS2 := Lib.hid (HS.out.below hb2 HS.out.lt)
  have HB2 := Lib.hid (HB.out.trans (hb2.mono HB.out.size))
  clear n0 n1 n2 n3 n4 n5 n6 n7 hln
  clear HC hb2 HN HT HB HR HS
  rw [HH.out]
  dsimp only

  have HS0 := Lib.hid (show Blk w2 w.heap.size 28 #[.int .i64 9, .int .u64 ((word (x.set.testBit) 0 : Nat) : Int), .int .u64 ((word (x.set.testBit) 1 : Nat) : Int), .int .u64 ((word (x.set.testBit) 2 : Nat) : Int), .int .u64 ((word (x.set.testBit) 3 : Nat) : Int), .slice B x.kids.len cap, .int .i64 x.lo, .int .i64 x.hi] ∧ Blk w2 (w.heap.size + 1) 25 #[.int .u64 0, .int .u64 0, .int .u64 0, .int .u64 0] ∧ Blk w2 (w.heap.size + 1 + 1) 25 #[.int .u64 ((word (noB) 0 : Nat) : Int), .int .u64 ((word (noB) 1 : Nat) : Int), .int .u64 ((word (noB) 2 : Nat) : Int), .int .u64 ((word (noB) 3 : Nat) : Int)] ∧ Below w.heap.size w w2 from ⟨HN2.out, HR2.out, by rw [noB_word 0 (by decide), noB_word 1 (by decide), noB_word 2 (by decide), noB_word 3 (by decide)]; exact HS2.out, HB2.out⟩)
  obtain ⟨n0, n1, n2, n3, n4, n5, n6, n7, hln⟩ := c8n (HN2.out)

  go_wp2
  clear n0 n1 n2 n3 n4 n5 n6 n7 hln
  go_loopw [7, 8] (fun iv kv wr => ∃ (i : Nat) (p : Nat → Bool), iv = .int .i64 (i : Int) ∧ i ≤ x.kids.len ∧ Hid (edgeGo false false p ((kidsV false x.kids.sums).drop i) = x.sum.edge false) ∧ Hid (Blk wr w.heap.size 28 #[.int .i64 9, .int .u64 ((word (x.set.testBit) 0 : Nat) : Int), .int .u64 ((word (x.set.testBit) 1 : Nat) : Int), .int .u64 ((word (x.set.testBit) 2 : Nat) : Int), .int .u64 ((word (x.set.testBit) 3 : Nat) : Int), .slice B x.kids.len cap, .int .i64 x.lo, .int .i64 x.hi] ∧ Blk wr (w.heap.size + 1) 25 #[.int .u64 0, .int .u64 0, .int .u64 0, .int .u64 0] ∧ Blk wr (w.heap.size + 1 + 1) 25 #[.int .u64 ((word (p) 0 : Nat) : Int), .int .u64 ((word (p) 1 : Nat) : Int), .int .u64 ((word (p) 2 : Nat) : Int), .int .u64 ((word (p) 3 : Nat) : Int)] ∧ Below w.heap.size w wr)) (fun iv _ _ => x.kids.len - (intOf iv).toNat)
  case atStart => exact ⟨0, noB, rfl, Nat.zero_le _, Lib.hid (by rw [List.drop_zero]; exact HE0.out), HS0⟩
  case round =>
    clear HS0 HN2 HR2 HS2 HB2
    obtain ⟨i, p, rfl, hi, HE, HRw⟩ := hrel
    by_cases hlt : i < x.kids.len
    · obtain ⟨k, hk⟩ : ∃ k, i = k := ⟨i, rfl⟩
      have hlk : k < x.kids.len := by omega
      obtain ⟨z, hz⟩ : ∃ z, x.kids.list[k]? = some z := ⟨_, List.getElem?_eq_getElem (by rw [Trees.len_list]; exact hlk)⟩
      have HES := Lib.hid (edge_go_step HE.out (kidsV_get (en := false) (k := k) (by rw [sums_len]; exact hlt) (by rw [sums_len]; simp; omega) (sums_get hz)))
      obtain ⟨b, o, C, capc, rfl, hbw, _, ⟨c0, c1, c2, c3, c4, c5, c6, c7⟩, hkz⟩ := (HT0.out.below HRw.out.2.2.2).get hz
      have hdl : (i : Int) < (x.kids.len : Int) := by omega
      have hdk : (k : Int) < (x.kids.len : Int) := by omega
      have HCz := Lib.hid (fun (W : World) (hb : Below wr.heap.size wr W) => HG.out k z _ C capc W hz (hkz.below hb))
      unfold ndV at HCz
      have HZ := Lib.hid hz
      have HSz := Lib.hid (show z.size ≤ 140737488355328 by have := Trees.size_get x.kids k z hz; have hks : x.kids.size + 1 = x.size := (by unfold Nd.size; omega); omega)
      subst hk
      clear hz hkz
      generalize z.sum.edge false = q at *
      go_upto_region 13 with fail
      skip
      obtain ⟨n0, n1, n2, n3, n4, n5, n6, n7, hln⟩ := c8n (HRw.out.1)

      have hlb : b < wr.heap.size := Nat.lt_of_lt_of_le hbw HRw.out.2.2.2.size
      have hKl := two_of (Q := fun b => b < wr.heap.size) hln hlb
      have hn02 : w.heap.size ≠ w.heap.size + 1 + 1 := by omega
      have hn12 : w.heap.size + 1 ≠ w.heap.size + 1 + 1 := by omega
      have hn22 : w.heap.size ≤ w.heap.size + 1 + 1 := by omega
      have hKn : ∀ b', b' = w.heap.size ∨ b' = b → b' ≠ w.heap.size + 1 + 1 := by rintro b' (rfl | rfl) <;> omega
      refine wp_region_held_drew (S := fun w' => ∀ b' o', b' = w.heap.size ∨ b' = b → w'.cell? ⟨b', o', none⟩ = wr.cell? ⟨b', o', none⟩) (by kernel_rfl) (KeepP.start (fun b' => b' = w.heap.size ∨ b' = b) wr) (fun hHeld => ?_)
      refine wpAnyH_take (i := 1) (oi := _) (v := ?_) rfl (by kernel_rfl) (by kernel_rfl) (by kernel_rfl) (fun _ _ _ h => h) (Or.inl ⟨by kernel_rfl, ?_⟩) (by assumption) ?_
      rotate_left
      · intro w hSw
        try dsimp only at hSw
        go_simp
        try (with_reducible rfl)

      refine wpAnyH_take (i := 2) (oi := _) (v := ?_) rfl (by kernel_rfl) (by kernel_rfl) (by kernel_rfl) (fun _ _ _ h => h) (Or.inl ⟨by kernel_rfl, ?_⟩) (by assumption) ?_
      rotate_left
      · intro w hSw
        try dsimp only at hSw
        go_simp
        try (with_reducible rfl)

      refine wpAnyH_take (i := 3) (oi := _) (v := ?_) rfl (by kernel_rfl) (by kernel_rfl) (by kernel_rfl) (fun _ _ _ h => h) (Or.inl ⟨by kernel_rfl, ?_⟩) (by assumption) ?_
      rotate_left
      · intro w hSw
        try dsimp only at hSw
        go_simp
        try (with_reducible rfl)

      refine wpAnyH_take (i := 4) (oi := _) (v := ?_) rfl (by kernel_rfl) (by kernel_rfl) (by kernel_rfl) (fun _ _ _ h => h) (Or.inl ⟨by kernel_rfl, ?_⟩) (by assumption) ?_
      rotate_left
      · intro w hSw
        try dsimp only at hSw
        go_simp
        try (with_reducible rfl)

      refine wpAnyH_take (i := 5) (oi := _) (v := ?_) rfl (by kernel_rfl) (by kernel_rfl) (by kernel_rfl) (fun _ _ _ h => h) (Or.inl ⟨by kernel_rfl, ?_⟩) (by assumption) ?_
      rotate_left
      · intro w hSw
        try dsimp only at hSw
        go_simp
        try (with_reducible rfl)

      refine wpAnyH_take (i := 6) (oi := _) (v := ?_) rfl (by kernel_rfl) (by kernel_rfl) (by kernel_rfl) (fun _ _ _ h => h) (Or.inl ⟨by kernel_rfl, ?_⟩) (by assumption) ?_
      rotate_left
      · intro w hSw
        try dsimp only at hSw
        go_simp
        try (with_reducible rfl)

      try simp only [Act.put, List.getElem_toArray, List.getElem_cons_zero, List.getElem_cons_succ, List.setIfInBounds_toArray, List.set_cons_zero, List.set_cons_succ]

      refine wpAnyH_ready (rs := [0, 7]) (by kernel_rfl) (by simp) ?_
      refine AllReadyH.cons (o := _) rfl (fun K hK => ?_) (AllReadyH.cons (o := _) rfl (fun K hK => ?_) AllReadyH.nil)
      · skip
        obtain ⟨s0, s1, s2, s3, t0, t1, t2, t3⟩ := (HRw.out.2.2.1).c4
        have hls := (HRw.out.2.2.1).lt
        go_simp
        refine hK.out _ _ hHeld (fun _ => ?_)
        clear hK K
        clear s0 s1 s2 s3 t0 t1 t2 t3 hls
        try simp only [Act.put, List.getElem_toArray, List.getElem_cons_zero, List.getElem_cons_succ, List.setIfInBounds_toArray, List.set_cons_zero, List.set_cons_succ]
        refine wpAnyH_ready (rs := [7]) (by kernel_rfl) (by simp) ?_
        refine AllReadyH.cons (o := _) rfl (fun K hK => ?_) AllReadyH.nil
        go_simp
        go_at_call 71
        refine (HCz.out wr.drew (Below.refl _ _).drew).mono ?_
        rintro e w3 ⟨rfl, hb3'⟩
        have hb3 : Below wr.heap.size wr w3 := (Below.refl _ _).drew.trans hb3'
        have hk3 := KeepP.below (KeepP.start (fun b' => b' = w.heap.size ∨ b' = b) wr) hb3' hKl
        refine hK.out _ _ hk3 (fun hSc => ?_)
        clear hK K hHeld hb3'
        try simp only [Act.put, List.getElem_toArray, List.getElem_cons_zero, List.getElem_cons_succ, List.setIfInBounds_toArray, List.set_cons_zero, List.set_cons_succ]

        clear n0 n1 n2 n3 n4 n5 n6 n7 hln c0 c1 c2 c3 c4 c5 c6 c7
        refine wpAnyH_ready (rs := [8]) (by kernel_rfl) (by simp) ?_
        refine AllReadyH.cons (o := _) rfl (fun K hK => ?_) AllReadyH.nil

        have HF2 := Lib.hid (rtwo_any p q 0 w3 (Or.inl rfl))
        rw [two_or] at HF2
        go_simp
        refine HF2.out.mono ?_
        rintro e w4 ⟨rfl, hb4⟩
        have hk4 := KeepP.below hk3 hb4 (fun b' h => Nat.lt_of_lt_of_le (hKl b' h) hb3.size)
        refine hK.out _ _ hk4 (fun hSa => ?_)
        clear hK K HF2
        generalize orB p q = r at *
        try simp only [Act.put, List.getElem_toArray, List.getElem_cons_zero, List.getElem_cons_succ, List.setIfInBounds_toArray, List.set_cons_zero, List.set_cons_succ]

        have HS4 := Lib.hid ((HRw.out.2.2.1.below hb3 HRw.out.2.2.1.lt).below hb4 (Nat.lt_of_lt_of_le HRw.out.2.2.1.lt hb3.size))
        have HN4 := Lib.hid ((HRw.out.1.below hb3 HRw.out.1.lt).below hb4 (Nat.lt_of_lt_of_le HRw.out.1.lt hb3.size))
        have HR4 := Lib.hid ((HRw.out.2.1.below hb3 HRw.out.2.1.lt).below hb4 (Nat.lt_of_lt_of_le HRw.out.2.1.lt hb3.size))
        have HB4 := Lib.hid ((HRw.out.2.2.2.trans (hb3.mono HRw.out.2.2.2.size)).trans (hb4.mono (by have := HRw.out.2.2.2.size; have := hb3.size; omega)))
        obtain ⟨s0, s1, s2, s3, t0, t1, t2, t3⟩ := (HS4.out).c4
        have hls := (HS4.out).lt

        refine wpAnyH_ready (rs := [9]) (by kernel_rfl) (by simp) ?_
        refine AllReadyH.cons (o := _) rfl (fun K hK => ?_) AllReadyH.nil

        go_simp
        refine hK.out _ _ (keep4 hk4 hKn _ _ _ _) (fun hSb => ?_)
        clear hK K
        try simp only [Act.put, List.getElem_toArray, List.getElem_cons_zero, List.getElem_cons_succ, List.setIfInBounds_toArray, List.set_cons_zero, List.set_cons_succ]

        refine wpAnyH_done (by kernel_rfl) ?_ _
        clear hSa hSb
        clear s0 s1 s2 s3 t0 t1 t2 t3 hls

        obtain ⟨w5, hw5, hrr⟩ := all4 r HN4.out HR4.out HS4.out HB4.out
        have HRR := Lib.hid hrr
        clear HS4 HN4 HR4 HB4 hb3 hb4 hk3 hk4 HRw HCz
        clear hSc hrr
        rw [hw5]
        clear hw5
        have HE9 := Lib.hid (show edgeGo false false r ((kidsV false x.kids.sums).drop (i + 1)) = x.sum.edge false by have := HES.out; rw [if_neg (by simp)] at this; exact this)
        clear HES HE hKl hKn hn02 hn12 hn22 hlb
        obtain ⟨n0, n1, n2, n3, n4, n5, n6, n7, hln⟩ := c8n (HRR.out.1)

        go_wp2
        go_light
        go_roundw
        case rel => exact ⟨i + 1, r, by go_num, by omega, HE9, HRR⟩
        case measure => simp [intOf]; omega

      · skip
        go_simp
        go_at_call 71
        refine (HCz.out wr.drew (Below.refl _ _).drew).mono ?_
        rintro e w3 ⟨rfl, hb3'⟩
        have hb3 : Below wr.heap.size wr w3 := (Below.refl _ _).drew.trans hb3'
        have hk3 := KeepP.below (KeepP.start (fun b' => b' = w.heap.size ∨ b' = b) wr) hb3' hKl
        refine hK.out _ _ hk3 (fun hSc => ?_)
        clear hK K hHeld hb3'
        try simp only [Act.put, List.getElem_toArray, List.getElem_cons_zero, List.getElem_cons_succ, List.setIfInBounds_toArray, List.set_cons_zero, List.set_cons_succ]

        clear n0 n1 n2 n3 n4 n5 n6 n7 hln c0 c1 c2 c3 c4 c5 c6 c7
        obtain ⟨s0, s1, s2, s3, t0, t1, t2, t3⟩ := ((HRw.out.2.2.1.below hb3 HRw.out.2.2.1.lt)).c4
        have hls := ((HRw.out.2.2.1.below hb3 HRw.out.2.2.1.lt)).lt
        refine wpAnyH_ready (rs := [0]) (by kernel_rfl) (by simp) ?_
        refine AllReadyH.cons (o := _) rfl (fun K hK => ?_) AllReadyH.nil
        go_simp
        refine hK.out _ _ hk3 (fun hSd => ?_)
        clear hSd
        clear hK K
        clear s0 s1 s2 s3 t0 t1 t2 t3 hls
        try simp only [Act.put, List.getElem_toArray, List.getElem_cons_zero, List.getElem_cons_succ, List.setIfInBounds_toArray, List.set_cons_zero, List.set_cons_succ]
        refine wpAnyH_ready (rs := [8]) (by kernel_rfl) (by simp) ?_
        refine AllReadyH.cons (o := _) rfl (fun K hK => ?_) AllReadyH.nil

        have HF2 := Lib.hid (rtwo_any p q 0 w3 (Or.inl rfl))
        rw [two_or] at HF2
        go_simp
        refine HF2.out.mono ?_
        rintro e w4 ⟨rfl, hb4⟩
        have hk4 := KeepP.below hk3 hb4 (fun b' h => Nat.lt_of_lt_of_le (hKl b' h) hb3.size)
        refine hK.out _ _ hk4 (fun hSa => ?_)
        clear hK K HF2
        generalize orB p q = r at *
        try simp only [Act.put, List.getElem_toArray, List.getElem_cons_zero, List.getElem_cons_succ, List.setIfInBounds_toArray, List.set_cons_zero, List.set_cons_succ]

        have HS4 := Lib.hid ((HRw.out.2.2.1.below hb3 HRw.out.2.2.1.lt).below hb4 (Nat.lt_of_lt_of_le HRw.out.2.2.1.lt hb3.size))
        have HN4 := Lib.hid ((HRw.out.1.below hb3 HRw.out.1.lt).below hb4 (Nat.lt_of_lt_of_le HRw.out.1.lt hb3.size))
        have HR4 := Lib.hid ((HRw.out.2.1.below hb3 HRw.out.2.1.lt).below hb4 (Nat.lt_of_lt_of_le HRw.out.2.1.lt hb3.size))
        have HB4 := Lib.hid ((HRw.out.2.2.2.trans (hb3.mono HRw.out.2.2.2.size)).trans (hb4.mono (by have := HRw.out.2.2.2.size; have := hb3.size; omega)))
        obtain ⟨s0, s1, s2, s3, t0, t1, t2, t3⟩ := (HS4.out).c4
        have hls := (HS4.out).lt

        refine wpAnyH_ready (rs := [9]) (by kernel_rfl) (by simp) ?_
        refine AllReadyH.cons (o := _) rfl (fun K hK => ?_) AllReadyH.nil

        go_simp
        refine hK.out _ _ (keep4 hk4 hKn _ _ _ _) (fun hSb => ?_)
        clear hK K
        try simp only [Act.put, List.getElem_toArray, List.getElem_cons_zero, List.getElem_cons_succ, List.setIfInBounds_toArray, List.set_cons_zero, List.set_cons_succ]

        refine wpAnyH_done (by kernel_rfl) ?_ _
        clear hSa hSb
        clear s0 s1 s2 s3 t0 t1 t2 t3 hls

        obtain ⟨w5, hw5, hrr⟩ := all4 r HN4.out HR4.out HS4.out HB4.out
        have HRR := Lib.hid hrr
        clear HS4 HN4 HR4 HB4 hb3 hb4 hk3 hk4 HRw HCz
        clear hSc hrr
        rw [hw5]
        clear hw5
        have HE9 := Lib.hid (show edgeGo false false r ((kidsV false x.kids.sums).drop (i + 1)) = x.sum.edge false by have := HES.out; rw [if_neg (by simp)] at this; exact this)
        clear HES HE hKl hKn hn02 hn12 hn22 hlb
        obtain ⟨n0, n1, n2, n3, n4, n5, n6, n7, hln⟩ := c8n (HRR.out.1)

        go_wp2
        go_light
        go_roundw
        case rel => exact ⟨i + 1, r, by go_num, by omega, HE9, HRR⟩
        case measure => simp [intOf]; omega

    · obtain rfl : i = x.kids.len := by omega
      have hdl : ¬ ((x.kids.len : Int) < (x.kids.len : Int)) := by omega
      have HE1 := Lib.hid (show p = x.sum.edge false by
        have := HE.out
        rw [show x.kids.len = (kidsV false x.kids.sums).length by rw [kidsV_len, sums_len], List.drop_length] at this
        exact this)
      clear HE
      skip
      obtain ⟨r0, r1, r2, r3, q0, q1, q2, q3⟩ := (HRw.out.2.1).c4
      have hlr := (HRw.out.2.1).lt
      obtain ⟨s0, s1, s2, s3, t0, t1, t2, t3⟩ := (HRw.out.2.2.1).c4
      have hls := (HRw.out.2.2.1).lt
      go_wp2
      refine bodyPost_ret (ret_set Tryz.results71 rfl (Blk.set4 HRw.out.2.1)) rfl ⟨by rw [HE1.out], below_set4 HRw.out.2.2.2 (Nat.le_succ _) _ _ _ _⟩
set_option maxHeartbeats 8000000 in
theorem re_9t (x : Nd) (B : Option Addr) (cap : Nat) (w : World) (hs : x.size ≤ 140737488355328) (hl : x.kids.len ≤ 140737488355328) (ho : ∀ y ∈ x.nodes, aloneN y = true) (ht : TreesAt w (fun b => b < w.heap.size) x.kids B) (hG : KidE true x) (hh : x.sum.hollow = false) (hk : x.kind = 9) (hd : (x.hi == 0) = false) (hE : edgeGo false true noB (kidsV true x.kids.sums) = x.sum.edge true) :
    Calls Tryz.prog 71 #[ndV x B cap, .bool true] w fun e w' => e = .returned (.agg #[.int .u64 ((word (x.sum.edge true) 0 : Nat) : Int), .int .u64 ((word (x.sum.edge true) 1 : Nat) : Int), .int .u64 ((word (x.sum.edge true) 2 : Nat) : Int), .int .u64 ((word (x.sum.edge true) 3 : Nat) : Int)]) ∧ Below w.heap.size w w' := by
  have HE0 := Lib.hid hE
  have HH := Lib.hid hh
  clear hh hE
  have HG := Lib.hid hG
  have HO := Lib.hid ho
  have HT0 := Lib.hid ht
  have hb : Below w.heap.size w (((w.alloc (.cells #[.int .i64 x.kind, .int .u64 ((word (x.set.testBit) 0 : Nat) : Int), .int .u64 ((word (x.set.testBit) 1 : Nat) : Int), .int .u64 ((word (x.set.testBit) 2 : Nat) : Int), .int .u64 ((word (x.set.testBit) 3 : Nat) : Int), .slice B x.kids.len cap, .int .i64 x.lo, .int .i64 x.hi] 28)).alloc (.cells #[.int .u64 0, .int .u64 0, .int .u64 0, .int .u64 0] 25)).alloc (.cells #[.int .u64 0, .int .u64 0, .int .u64 0, .int .u64 0] 25)) := (((Below.refl _ _).alloc (Nat.le_refl _) _).alloc (by simp) _).alloc (by simp; omega) _
  have HB := Lib.hid hb
  have HN := Lib.hid (((Blk.new w 28 #[.int .i64 x.kind, .int .u64 ((word (x.set.testBit) 0 : Nat) : Int), .int .u64 ((word (x.set.testBit) 1 : Nat) : Int), .int .u64 ((word (x.set.testBit) 2 : Nat) : Int), .int .u64 ((word (x.set.testBit) 3 : Nat) : Int), .slice B x.kids.len cap, .int .i64 x.lo, .int .i64 x.hi]).alloc (.cells #[.int .u64 0, .int .u64 0, .int .u64 0, .int .u64 0] 25)).alloc (.cells #[.int .u64 0, .int .u64 0, .int .u64 0, .int .u64 0] 25))
  have HR := Lib.hid ((show Blk ((w.alloc (.cells #[.int .i64 x.kind, .int .u64 ((word (x.set.testBit) 0 : Nat) : Int), .int .u64 ((word (x.set.testBit) 1 : Nat) : Int), .int .u64 ((word (x.set.testBit) 2 : Nat) : Int), .int .u64 ((word (x.set.testBit) 3 : Nat) : Int), .slice B x.kids.len cap, .int .i64 x.lo, .int .i64 x.hi] 28)).alloc (.cells #[.int .u64 0, .int .u64 0, .int .u64 0, .int .u64 0] 25)) (w.heap.size + 1) 25 #[.int .u64 0, .int .u64 0, .int .u64 0, .int .u64 0] from Blk.new_at (by simp)).alloc (.cells #[.int .u64 0, .int .u64 0, .int .u64 0, .int .u64 0] 25))
  have HS := Lib.hid (show Blk (((w.alloc (.cells #[.int .i64 x.kind, .int .u64 ((word (x.set.testBit) 0 : Nat) : Int), .int .u64 ((word (x.set.testBit) 1 : Nat) : Int), .int .u64 ((word (x.set.testBit) 2 : Nat) : Int), .int .u64 ((word (x.set.testBit) 3 : Nat) : Int), .slice B x.kids.len cap, .int .i64 x.lo, .int .i64 x.hi] 28)).alloc (.cells #[.int .u64 0, .int .u64 0, .int .u64 0, .int .u64 0] 25)).alloc (.cells #[.int .u64 0, .int .u64 0, .int .u64 0, .int .u64 0] 25)) (w.heap.size + 1 + 1) 25 #[.int .u64 0, .int .u64 0, .int .u64 0, .int .u64 0] from Blk.new_at (by simp))
  have HT := Lib.hid (ht.below hb)
  have HC := Lib.hid (rhollow_go x _ B cap _ hs ho (ht.below hb))
  clear hb ht

  clear hG ho
  unfold ndV at HC ⊢
  rw [hk] at HN HT HB HC HR HS ⊢
  go_enter Tryz.func71, Tryz.ntmps71
  go_upto_region 2 with fail
  generalize (((w.alloc (.cells #[.int .i64 9, .int .u64 ((word (x.set.testBit) 0 : Nat) : Int), .int .u64 ((word (x.set.testBit) 1 : Nat) : Int), .int .u64 ((word (x.set.testBit) 2 : Nat) : Int), .int .u64 ((word (x.set.testBit) 3 : Nat) : Int), .slice B x.kids.len cap, .int .i64 x.lo, .int .i64 x.hi] 28)).alloc (.cells #[.int .u64 0, .int .u64 0, .int .u64 0, .int .u64 0] 25)).alloc (.cells #[.int .u64 0, .int .u64 0, .int .u64 0, .int .u64 0] 25)) = w1 at *
  obtain ⟨n0, n1, n2, n3, n4, n5, n6, n7, hln⟩ := c8n (HN.out)

  go_wp2_with fail
  refine HC.out.mono ?_
  rintro e w2 ⟨rfl, hb2⟩
  have HN2 := Lib.hid (HN.out.below hb2 HN.out.lt)
  have HR2 := Lib.hid (HR.out.below hb2 HR.out.lt)
  have HS2 := Lib.hid (HS.out.below hb2 HS.out.lt)
  have HB2 := Lib.hid (HB.out.trans (hb2.mono HB.out.size))
  clear n0 n1 n2 n3 n4 n5 n6 n7 hln
  clear HC hb2 HN HT HB HR HS
  rw [HH.out]
  dsimp only

  have HS0 := Lib.hid (show Blk w2 w.heap.size 28 #[.int .i64 9, .int .u64 ((word (x.set.testBit) 0 : Nat) : Int), .int .u64 ((word (x.set.testBit) 1 : Nat) : Int), .int .u64 ((word (x.set.testBit) 2 : Nat) : Int), .int .u64 ((word (x.set.testBit) 3 : Nat) : Int), .slice B x.kids.len cap, .int .i64 x.lo, .int .i64 x.hi] ∧ Blk w2 (w.heap.size + 1) 25 #[.int .u64 0, .int .u64 0, .int .u64 0, .int .u64 0] ∧ Blk w2 (w.heap.size + 1 + 1) 25 #[.int .u64 ((word (noB) 0 : Nat) : Int), .int .u64 ((word (noB) 1 : Nat) : Int), .int .u64 ((word (noB) 2 : Nat) : Int), .int .u64 ((word (noB) 3 : Nat) : Int)] ∧ Below w.heap.size w w2 from ⟨HN2.out, HR2.out, by rw [noB_word 0 (by decide), noB_word 1 (by decide), noB_word 2 (by decide), noB_word 3 (by decide)]; exact HS2.out, HB2.out⟩)
  obtain ⟨n0, n1, n2, n3, n4, n5, n6, n7, hln⟩ := c8n (HN2.out)

  go_wp2
  clear n0 n1 n2 n3 n4 n5 n6 n7 hln
  go_loopw [7, 8] (fun iv kv wr => ∃ (i : Nat) (p : Nat → Bool), iv = .int .i64 (i : Int) ∧ i ≤ x.kids.len ∧ Hid (edgeGo false true p ((kidsV true x.kids.sums).drop i) = x.sum.edge true) ∧ Hid (Blk wr w.heap.size 28 #[.int .i64 9, .int .u64 ((word (x.set.testBit) 0 : Nat) : Int), .int .u64 ((word (x.set.testBit) 1 : Nat) : Int), .int .u64 ((word (x.set.testBit) 2 : Nat) : Int), .int .u64 ((word (x.set.testBit) 3 : Nat) : Int), .slice B x.kids.len cap, .int .i64 x.lo, .int .i64 x.hi] ∧ Blk wr (w.heap.size + 1) 25 #[.int .u64 0, .int .u64 0, .int .u64 0, .int .u64 0] ∧ Blk wr (w.heap.size + 1 + 1) 25 #[.int .u64 ((word (p) 0 : Nat) : Int), .int .u64 ((word (p) 1 : Nat) : Int), .int .u64 ((word (p) 2 : Nat) : Int), .int .u64 ((word (p) 3 : Nat) : Int)] ∧ Below w.heap.size w wr)) (fun iv _ _ => x.kids.len - (intOf iv).toNat)
  case atStart => exact ⟨0, noB, rfl, Nat.zero_le _, Lib.hid (by rw [List.drop_zero]; exact HE0.out), HS0⟩
  case round =>
    clear HS0 HN2 HR2 HS2 HB2
    obtain ⟨i, p, rfl, hi, HE, HRw⟩ := hrel
    by_cases hlt : i < x.kids.len
    · obtain ⟨k, hk⟩ : ∃ k, x.kids.len = k + 1 + i := ⟨x.kids.len - 1 - i, by omega⟩
      have hlk : k < x.kids.len := by omega
      obtain ⟨z, hz⟩ : ∃ z, x.kids.list[k]? = some z := ⟨_, List.getElem?_eq_getElem (by rw [Trees.len_list]; exact hlk)⟩
      have HES := Lib.hid (edge_go_step HE.out (kidsV_get (en := true) (k := k) (by rw [sums_len]; exact hlt) (by rw [sums_len]; simp; omega) (sums_get hz)))
      obtain ⟨b, o, C, capc, rfl, hbw, _, ⟨c0, c1, c2, c3, c4, c5, c6, c7⟩, hkz⟩ := (HT0.out.below HRw.out.2.2.2).get hz
      have hdl : (i : Int) < (x.kids.len : Int) := by omega
      have hdk : (k : Int) < (x.kids.len : Int) := by omega
      have HCz := Lib.hid (fun (W : World) (hb : Below wr.heap.size wr W) => HG.out k z _ C capc W hz (hkz.below hb))
      unfold ndV at HCz
      have HZ := Lib.hid hz
      have HSz := Lib.hid (show z.size ≤ 140737488355328 by have := Trees.size_get x.kids k z hz; have hks : x.kids.size + 1 = x.size := (by unfold Nd.size; omega); omega)
      have HKV := Lib.hid (show (x.kids.len : Int) - 1 - (i : Int) = (k : Int) by omega)
      clear hk
      clear hz hkz
      generalize z.sum.edge true = q at *
      go_upto_region 13 with fail
      rw [HKV.out]
      obtain ⟨n0, n1, n2, n3, n4, n5, n6, n7, hln⟩ := c8n (HRw.out.1)

      have hlb : b < wr.heap.size := Nat.lt_of_lt_of_le hbw HRw.out.2.2.2.size
      have hKl := two_of (Q := fun b => b < wr.heap.size) hln hlb
      have hn02 : w.heap.size ≠ w.heap.size + 1 + 1 := by omega
      have hn12 : w.heap.size + 1 ≠ w.heap.size + 1 + 1 := by omega
      have hn22 : w.heap.size ≤ w.heap.size + 1 + 1 := by omega
      have hKn : ∀ b', b' = w.heap.size ∨ b' = b → b' ≠ w.heap.size + 1 + 1 := by rintro b' (rfl | rfl) <;> omega
      refine wp_region_held_drew (S := fun w' => ∀ b' o', b' = w.heap.size ∨ b' = b → w'.cell? ⟨b', o', none⟩ = wr.cell? ⟨b', o', none⟩) (by kernel_rfl) (KeepP.start (fun b' => b' = w.heap.size ∨ b' = b) wr) (fun hHeld => ?_)
      refine wpAnyH_take (i := 1) (oi := _) (v := ?_) rfl (by kernel_rfl) (by kernel_rfl) (by kernel_rfl) (fun _ _ _ h => h) (Or.inl ⟨by kernel_rfl, ?_⟩) (by assumption) ?_
      rotate_left
      · intro w hSw
        try dsimp only at hSw
        go_simp
        try (with_reducible rfl)

      refine wpAnyH_take (i := 2) (oi := _) (v := ?_) rfl (by kernel_rfl) (by kernel_rfl) (by kernel_rfl) (fun _ _ _ h => h) (Or.inl ⟨by kernel_rfl, ?_⟩) (by assumption) ?_
      rotate_left
      · intro w hSw
        try dsimp only at hSw
        go_simp
        try (with_reducible rfl)

      refine wpAnyH_take (i := 3) (oi := _) (v := ?_) rfl (by kernel_rfl) (by kernel_rfl) (by kernel_rfl) (fun _ _ _ h => h) (Or.inl ⟨by kernel_rfl, ?_⟩) (by assumption) ?_
      rotate_left
      · intro w hSw
        try dsimp only at hSw
        go_simp
        try (with_reducible rfl)

      refine wpAnyH_take (i := 4) (oi := _) (v := ?_) rfl (by kernel_rfl) (by kernel_rfl) (by kernel_rfl) (fun _ _ _ h => h) (Or.inl ⟨by kernel_rfl, ?_⟩) (by assumption) ?_
      rotate_left
      · intro w hSw
        try dsimp only at hSw
        go_simp
        try (with_reducible rfl)

      refine wpAnyH_take (i := 5) (oi := _) (v := ?_) rfl (by kernel_rfl) (by kernel_rfl) (by kernel_rfl) (fun _ _ _ h => h) (Or.inl ⟨by kernel_rfl, ?_⟩) (by assumption) ?_
      rotate_left
      · intro w hSw
        try dsimp only at hSw
        go_simp
        try (with_reducible rfl)

      refine wpAnyH_take (i := 6) (oi := _) (v := ?_) rfl (by kernel_rfl) (by kernel_rfl) (by kernel_rfl) (fun _ _ _ h => h) (Or.inl ⟨by kernel_rfl, ?_⟩) (by assumption) ?_
      rotate_left
      · intro w hSw
        try dsimp only at hSw
        go_simp
        try (with_reducible rfl)

      try simp only [Act.put, List.getElem_toArray, List.getElem_cons_zero, List.getElem_cons_succ, List.setIfInBounds_toArray, List.set_cons_zero, List.set_cons_succ]

      refine wpAnyH_ready (rs := [0, 7]) (by kernel_rfl) (by simp) ?_
      refine AllReadyH.cons (o := _) rfl (fun K hK => ?_) (AllReadyH.cons (o := _) rfl (fun K hK => ?_) AllReadyH.nil)
      · skip
        obtain ⟨s0, s1, s2, s3, t0, t1, t2, t3⟩ := (HRw.out.2.2.1).c4
        have hls := (HRw.out.2.2.1).lt
        go_simp
        refine hK.out _ _ hHeld (fun _ => ?_)
        clear hK K
        clear s0 s1 s2 s3 t0 t1 t2 t3 hls
        try simp only [Act.put, List.getElem_toArray, List.getElem_cons_zero, List.getElem_cons_succ, List.setIfInBounds_toArray, List.set_cons_zero, List.set_cons_succ]
        refine wpAnyH_ready (rs := [7]) (by kernel_rfl) (by simp) ?_
        refine AllReadyH.cons (o := _) rfl (fun K hK => ?_) AllReadyH.nil
        go_simp
        go_at_call 71
        refine (HCz.out wr.drew (Below.refl _ _).drew).mono ?_
        rintro e w3 ⟨rfl, hb3'⟩
        have hb3 : Below wr.heap.size wr w3 := (Below.refl _ _).drew.trans hb3'
        have hk3 := KeepP.below (KeepP.start (fun b' => b' = w.heap.size ∨ b' = b) wr) hb3' hKl
        refine hK.out _ _ hk3 (fun hSc => ?_)
        clear hK K hHeld hb3'
        try simp only [Act.put, List.getElem_toArray, List.getElem_cons_zero, List.getElem_cons_succ, List.setIfInBounds_toArray, List.set_cons_zero, List.set_cons_succ]

        clear n0 n1 n2 n3 n4 n5 n6 n7 hln c0 c1 c2 c3 c4 c5 c6 c7
        refine wpAnyH_ready (rs := [8]) (by kernel_rfl) (by simp) ?_
        refine AllReadyH.cons (o := _) rfl (fun K hK => ?_) AllReadyH.nil

        have HF2 := Lib.hid (rtwo_any p q 0 w3 (Or.inl rfl))
        rw [two_or] at HF2
        go_simp
        refine HF2.out.mono ?_
        rintro e w4 ⟨rfl, hb4⟩
        have hk4 := KeepP.below hk3 hb4 (fun b' h => Nat.lt_of_lt_of_le (hKl b' h) hb3.size)
        refine hK.out _ _ hk4 (fun hSa => ?_)
        clear hK K HF2
        generalize orB p q = r at *
        try simp only [Act.put, List.getElem_toArray, List.getElem_cons_zero, List.getElem_cons_succ, List.setIfInBounds_toArray, List.set_cons_zero, List.set_cons_succ]

        have HS4 := Lib.hid ((HRw.out.2.2.1.below hb3 HRw.out.2.2.1.lt).below hb4 (Nat.lt_of_lt_of_le HRw.out.2.2.1.lt hb3.size))
        have HN4 := Lib.hid ((HRw.out.1.below hb3 HRw.out.1.lt).below hb4 (Nat.lt_of_lt_of_le HRw.out.1.lt hb3.size))
        have HR4 := Lib.hid ((HRw.out.2.1.below hb3 HRw.out.2.1.lt).below hb4 (Nat.lt_of_lt_of_le HRw.out.2.1.lt hb3.size))
        have HB4 := Lib.hid ((HRw.out.2.2.2.trans (hb3.mono HRw.out.2.2.2.size)).trans (hb4.mono (by have := HRw.out.2.2.2.size; have := hb3.size; omega)))
        obtain ⟨s0, s1, s2, s3, t0, t1, t2, t3⟩ := (HS4.out).c4
        have hls := (HS4.out).lt

        refine wpAnyH_ready (rs := [9]) (by kernel_rfl) (by simp) ?_
        refine AllReadyH.cons (o := _) rfl (fun K hK => ?_) AllReadyH.nil

        go_simp
        refine hK.out _ _ (keep4 hk4 hKn _ _ _ _) (fun hSb => ?_)
        clear hK K
        try simp only [Act.put, List.getElem_toArray, List.getElem_cons_zero, List.getElem_cons_succ, List.setIfInBounds_toArray, List.set_cons_zero, List.set_cons_succ]

        refine wpAnyH_done (by kernel_rfl) ?_ _
        clear hSa hSb
        clear s0 s1 s2 s3 t0 t1 t2 t3 hls

        obtain ⟨w5, hw5, hrr⟩ := all4 r HN4.out HR4.out HS4.out HB4.out
        have HRR := Lib.hid hrr
        clear HS4 HN4 HR4 HB4 hb3 hb4 hk3 hk4 HRw HCz
        clear hSc hrr
        rw [hw5]
        clear hw5
        have HE9 := Lib.hid (show edgeGo false true r ((kidsV true x.kids.sums).drop (i + 1)) = x.sum.edge true by have := HES.out; rw [if_neg (by simp)] at this; exact this)
        clear HES HE hKl hKn hn02 hn12 hn22 hlb
        obtain ⟨n0, n1, n2, n3, n4, n5, n6, n7, hln⟩ := c8n (HRR.out.1)

        go_wp2
        go_light
        go_roundw
        case rel => exact ⟨i + 1, r, by go_num, by omega, HE9, HRR⟩
        case measure => simp [intOf]; omega

      · skip
        go_simp
        go_at_call 71
        refine (HCz.out wr.drew (Below.refl _ _).drew).mono ?_
        rintro e w3 ⟨rfl, hb3'⟩
        have hb3 : Below wr.heap.size wr w3 := (Below.refl _ _).drew.trans hb3'
        have hk3 := KeepP.below (KeepP.start (fun b' => b' = w.heap.size ∨ b' = b) wr) hb3' hKl
        refine hK.out _ _ hk3 (fun hSc => ?_)
        clear hK K hHeld hb3'
        try simp only [Act.put, List.getElem_toArray, List.getElem_cons_zero, List.getElem_cons_succ, List.setIfInBounds_toArray, List.set_cons_zero, List.set_cons_succ]

        clear n0 n1 n2 n3 n4 n5 n6 n7 hln c0 c1 c2 c3 c4 c5 c6 c7
        obtain ⟨s0, s1, s2, s3, t0, t1, t2, t3⟩ := ((HRw.out.2.2.1.below hb3 HRw.out.2.2.1.lt)).c4
        have hls := ((HRw.out.2.2.1.below hb3 HRw.out.2.2.1.lt)).lt
        refine wpAnyH_ready (rs := [0]) (by kernel_rfl) (by simp) ?_
        refine AllReadyH.cons (o := _) rfl (fun K hK => ?_) AllReadyH.nil
        go_simp
        refine hK.out _ _ hk3 (fun hSd => ?_)
        clear hSd
        clear hK K
        clear s0 s1 s2 s3 t0 t1 t2 t3 hls
        try simp only [Act.put, List.getElem_toArray, List.getElem_cons_zero, List.getElem_cons_succ, List.setIfInBounds_toArray, List.set_cons_zero, List.set_cons_succ]
        refine wpAnyH_ready (rs := [8]) (by kernel_rfl) (by simp) ?_
        refine AllReadyH.cons (o := _) rfl (fun K hK => ?_) AllReadyH.nil

        have HF2 := Lib.hid (rtwo_any p q 0 w3 (Or.inl rfl))
        rw [two_or] at HF2
        go_simp
        refine HF2.out.mono ?_
        rintro e w4 ⟨rfl, hb4⟩
        have hk4 := KeepP.below hk3 hb4 (fun b' h => Nat.lt_of_lt_of_le (hKl b' h) hb3.size)
        refine hK.out _ _ hk4 (fun hSa => ?_)
        clear hK K HF2
        generalize orB p q = r at *
        try simp only [Act.put, List.getElem_toArray, List.getElem_cons_zero, List.getElem_cons_succ, List.setIfInBounds_toArray, List.set_cons_zero, List.set_cons_succ]

        have HS4 := Lib.hid ((HRw.out.2.2.1.below hb3 HRw.out.2.2.1.lt).below hb4 (Nat.lt_of_lt_of_le HRw.out.2.2.1.lt hb3.size))
        have HN4 := Lib.hid ((HRw.out.1.below hb3 HRw.out.1.lt).below hb4 (Nat.lt_of_lt_of_le HRw.out.1.lt hb3.size))
        have HR4 := Lib.hid ((HRw.out.2.1.below hb3 HRw.out.2.1.lt).below hb4 (Nat.lt_of_lt_of_le HRw.out.2.1.lt hb3.size))
        have HB4 := Lib.hid ((HRw.out.2.2.2.trans (hb3.mono HRw.out.2.2.2.size)).trans (hb4.mono (by have := HRw.out.2.2.2.size; have := hb3.size; omega)))
        obtain ⟨s0, s1, s2, s3, t0, t1, t2, t3⟩ := (HS4.out).c4
        have hls := (HS4.out).lt

        refine wpAnyH_ready (rs := [9]) (by kernel_rfl) (by simp) ?_
        refine AllReadyH.cons (o := _) rfl (fun K hK => ?_) AllReadyH.nil

        go_simp
        refine hK.out _ _ (keep4 hk4 hKn _ _ _ _) (fun hSb => ?_)
        clear hK K
        try simp only [Act.put, List.getElem_toArray, List.getElem_cons_zero, List.getElem_cons_succ, List.setIfInBounds_toArray, List.set_cons_zero, List.set_cons_succ]

        refine wpAnyH_done (by kernel_rfl) ?_ _
        clear hSa hSb
        clear s0 s1 s2 s3 t0 t1 t2 t3 hls

        obtain ⟨w5, hw5, hrr⟩ := all4 r HN4.out HR4.out HS4.out HB4.out
        have HRR := Lib.hid hrr
        clear HS4 HN4 HR4 HB4 hb3 hb4 hk3 hk4 HRw HCz
        clear hSc hrr
        rw [hw5]
        clear hw5
        have HE9 := Lib.hid (show edgeGo false true r ((kidsV true x.kids.sums).drop (i + 1)) = x.sum.edge true by have := HES.out; rw [if_neg (by simp)] at this; exact this)
        clear HES HE hKl hKn hn02 hn12 hn22 hlb
        obtain ⟨n0, n1, n2, n3, n4, n5, n6, n7, hln⟩ := c8n (HRR.out.1)

        go_wp2
        go_light
        go_roundw
        case rel => exact ⟨i + 1, r, by go_num, by omega, HE9, HRR⟩
        case measure => simp [intOf]; omega

    · obtain rfl : i = x.kids.len := by omega
      have hdl : ¬ ((x.kids.len : Int) < (x.kids.len : Int)) := by omega
      have HE1 := Lib.hid (show p = x.sum.edge true by
        have := HE.out
        rw [show x.kids.len = (kidsV true x.kids.sums).length by rw [kidsV_len, sums_len], List.drop_length] at this
        exact this)
      clear HE
      skip
      obtain ⟨r0, r1, r2, r3, q0, q1, q2, q3⟩ := (HRw.out.2.1).c4
      have hlr := (HRw.out.2.1).lt
      obtain ⟨s0, s1, s2, s3, t0, t1, t2, t3⟩ := (HRw.out.2.2.1).c4
      have hls := (HRw.out.2.2.1).lt
      go_wp2
      refine bodyPost_ret (ret_set Tryz.results71 rfl (Blk.set4 HRw.out.2.1)) rfl ⟨by rw [HE1.out], below_set4 HRw.out.2.2.2 (Nat.le_succ _) _ _ _ _⟩
set_option maxHeartbeats 8000000 in
theorem re_4f (x : Nd) (B : Option Addr) (cap : Nat) (w : World) (hs : x.size ≤ 140737488355328) (hl : x.kids.len ≤ 140737488355328) (ho : ∀ y ∈ x.nodes, aloneN y = true) (ht : TreesAt w (fun b => b < w.heap.size) x.kids B) (hG : KidE false x) (hh : x.sum.hollow = false) (hk : x.kind = 4) (hE : edgeGo true false noB (kidsV false x.kids.sums) = x.sum.edge false) :
    Calls Tryz.prog 71 #[ndV x B cap, .bool false] w fun e w' => e = .returned (.agg #[.int .u64 ((word (x.sum.edge false) 0 : Nat) : Int), .int .u64 ((word (x.sum.edge false) 1 : Nat) : Int), .int .u64 ((word (x.sum.edge false) 2 : Nat) : Int), .int .u64 ((word (x.sum.edge false) 3 : Nat) : Int)]) ∧ Below w.heap.size w w' := by
  have HE0 := Lib.hid hE
  have HH := Lib.hid hh
  clear hh hE
  have HG := Lib.hid hG
  have HO := Lib.hid ho
  have HT0 := Lib.hid ht
  have hb : Below w.heap.size w (((w.alloc (.cells #[.int .i64 x.kind, .int .u64 ((word (x.set.testBit) 0 : Nat) : Int), .int .u64 ((word (x.set.testBit) 1 : Nat) : Int), .int .u64 ((word (x.set.testBit) 2 : Nat) : Int), .int .u64 ((word (x.set.testBit) 3 : Nat) : Int), .slice B x.kids.len cap, .int .i64 x.lo, .int .i64 x.hi] 28)).alloc (.cells #[.int .u64 0, .int .u64 0, .int .u64 0, .int .u64 0] 25)).alloc (.cells #[.int .u64 0, .int .u64 0, .int .u64 0, .int .u64 0] 25)) := (((Below.refl _ _).alloc (Nat.le_refl _) _).alloc (by simp) _).alloc (by simp; omega) _
  have HB := Lib.hid hb
  have HN := Lib.hid (((Blk.new w 28 #[.int .i64 x.kind, .int .u64 ((word (x.set.testBit) 0 : Nat) : Int), .int .u64 ((word (x.set.testBit) 1 : Nat) : Int), .int .u64 ((word (x.set.testBit) 2 : Nat) : Int), .int .u64 ((word (x.set.testBit) 3 : Nat) : Int), .slice B x.kids.len cap, .int .i64 x.lo, .int .i64 x.hi]).alloc (.cells #[.int .u64 0, .int .u64 0, .int .u64 0, .int .u64 0] 25)).alloc (.cells #[.int .u64 0, .int .u64 0, .int .u64 0, .int .u64 0] 25))
  have HR := Lib.hid ((show Blk ((w.alloc (.cells #[.int .i64 x.kind, .int .u64 ((word (x.set.testBit) 0 : Nat) : Int), .int .u64 ((word (x.set.testBit) 1 : Nat) : Int), .int .u64 ((word (x.set.testBit) 2 : Nat) : Int), .int .u64 ((word (x.set.testBit) 3 : Nat) : Int), .slice B x.kids.len cap, .int .i64 x.lo, .int .i64 x.hi] 28)).alloc (.cells #[.int .u64 0, .int .u64 0, .int .u64 0, .int .u64 0] 25)) (w.heap.size + 1) 25 #[.int .u64 0, .int .u64 0, .int .u64 0, .int .u64 0] from Blk.new_at (by simp)).alloc (.cells #[.int .u64 0, .int .u64 0, .int .u64 0, .int .u64 0] 25))
  have HS := Lib.hid (show Blk (((w.alloc (.cells #[.int .i64 x.kind, .int .u64 ((word (x.set.testBit) 0 : Nat) : Int), .int .u64 ((word (x.set.testBit) 1 : Nat) : Int), .int .u64 ((word (x.set.testBit) 2 : Nat) : Int), .int .u64 ((word (x.set.testBit) 3 : Nat) : Int), .slice B x.kids.len cap, .int .i64 x.lo, .int .i64 x.hi] 28)).alloc (.cells #[.int .u64 0, .int .u64 0, .int .u64 0, .int .u64 0] 25)).alloc (.cells #[.int .u64 0, .int .u64 0, .int .u64 0, .int .u64 0] 25)) (w.heap.size + 1 + 1) 25 #[.int .u64 0, .int .u64 0, .int .u64 0, .int .u64 0] from Blk.new_at (by simp))
  have HT := Lib.hid (ht.below hb)
  have HC := Lib.hid (rhollow_go x _ B cap _ hs ho (ht.below hb))
  clear hb ht

  clear hG ho
  unfold ndV at HC ⊢
  rw [hk] at HN HT HB HC HR HS ⊢
  go_enter Tryz.func71, Tryz.ntmps71
  go_upto_region 2 with fail
  generalize (((w.alloc (.cells #[.int .i64 4, .int .u64 ((word (x.set.testBit) 0 : Nat) : Int), .int .u64 ((word (x.set.testBit) 1 : Nat) : Int), .int .u64 ((word (x.set.testBit) 2 : Nat) : Int), .int .u64 ((word (x.set.testBit) 3 : Nat) : Int), .slice B x.kids.len cap, .int .i64 x.lo, .int .i64 x.hi] 28)).alloc (.cells #[.int .u64 0, .int .u64 0, .int .u64 0, .int .u64 0] 25)).alloc (.cells #[.int .u64 0, .int .u64 0, .int .u64 0, .int .u64 0] 25)) = w1 at *
  obtain ⟨n0, n1, n2, n3, n4, n5, n6, n7, hln⟩ := c8n (HN.out)

  go_wp2_with fail
  refine HC.out.mono ?_
  rintro e w2 ⟨rfl, hb2⟩
  have HN2 := Lib.hid (HN.out.below hb2 HN.out.lt)
  have HR2 := Lib.hid (HR.out.below hb2 HR.out.lt)
  have HS2 := Lib.hid (HS.out.below hb2 HS.out.lt)
  have HB2 := Lib.hid (HB.out.trans (hb2.mono HB.out.size))
  clear n0 n1 n2 n3 n4 n5 n6 n7 hln
  clear HC hb2 HN HT HB HR HS
  rw [HH.out]
  dsimp only

  have HS0 := Lib.hid (show Blk w2 w.heap.size 28 #[.int .i64 4, .int .u64 ((word (x.set.testBit) 0 : Nat) : Int), .int .u64 ((word (x.set.testBit) 1 : Nat) : Int), .int .u64 ((word (x.set.testBit) 2 : Nat) : Int), .int .u64 ((word (x.set.testBit) 3 : Nat) : Int), .slice B x.kids.len cap, .int .i64 x.lo, .int .i64 x.hi] ∧ Blk w2 (w.heap.size + 1) 25 #[.int .u64 0, .int .u64 0, .int .u64 0, .int .u64 0] ∧ Blk w2 (w.heap.size + 1 + 1) 25 #[.int .u64 ((word (noB) 0 : Nat) : Int), .int .u64 ((word (noB) 1 : Nat) : Int), .int .u64 ((word (noB) 2 : Nat) : Int), .int .u64 ((word (noB) 3 : Nat) : Int)] ∧ Below w.heap.size w w2 from ⟨HN2.out, HR2.out, by rw [noB_word 0 (by decide), noB_word 1 (by decide), noB_word 2 (by decide), noB_word 3 (by decide)]; exact HS2.out, HB2.out⟩)
  obtain ⟨n0, n1, n2, n3, n4, n5, n6, n7, hln⟩ := c8n (HN2.out)

  go_wp2
  clear n0 n1 n2 n3 n4 n5 n6 n7 hln
  go_loopw [7, 8] (fun iv kv wr => ∃ (i : Nat) (p : Nat → Bool), iv = .int .i64 (i : Int) ∧ i ≤ x.kids.len ∧ Hid (edgeGo true false p ((kidsV false x.kids.sums).drop i) = x.sum.edge false) ∧ Hid (Blk wr w.heap.size 28 #[.int .i64 4, .int .u64 ((word (x.set.testBit) 0 : Nat) : Int), .int .u64 ((word (x.set.testBit) 1 : Nat) : Int), .int .u64 ((word (x.set.testBit) 2 : Nat) : Int), .int .u64 ((word (x.set.testBit) 3 : Nat) : Int), .slice B x.kids.len cap, .int .i64 x.lo, .int .i64 x.hi] ∧ Blk wr (w.heap.size + 1) 25 #[.int .u64 0, .int .u64 0, .int .u64 0, .int .u64 0] ∧ Blk wr (w.heap.size + 1 + 1) 25 #[.int .u64 ((word (p) 0 : Nat) : Int), .int .u64 ((word (p) 1 : Nat) : Int), .int .u64 ((word (p) 2 : Nat) : Int), .int .u64 ((word (p) 3 : Nat) : Int)] ∧ Below w.heap.size w wr)) (fun iv _ _ => x.kids.len - (intOf iv).toNat)
  case atStart => exact ⟨0, noB, rfl, Nat.zero_le _, Lib.hid (by rw [List.drop_zero]; exact HE0.out), HS0⟩
  case round =>
    clear HS0 HN2 HR2 HS2 HB2
    obtain ⟨i, p, rfl, hi, HE, HRw⟩ := hrel
    by_cases hlt : i < x.kids.len
    · obtain ⟨k, hk⟩ : ∃ k, i = k := ⟨i, rfl⟩
      have hlk : k < x.kids.len := by omega
      obtain ⟨z, hz⟩ : ∃ z, x.kids.list[k]? = some z := ⟨_, List.getElem?_eq_getElem (by rw [Trees.len_list]; exact hlk)⟩
      have HES := Lib.hid (edge_go_step HE.out (kidsV_get (en := false) (k := k) (by rw [sums_len]; exact hlt) (by rw [sums_len]; simp; omega) (sums_get hz)))
      obtain ⟨b, o, C, capc, rfl, hbw, _, ⟨c0, c1, c2, c3, c4, c5, c6, c7⟩, hkz⟩ := (HT0.out.below HRw.out.2.2.2).get hz
      have hdl : (i : Int) < (x.kids.len : Int) := by omega
      have hdk : (k : Int) < (x.kids.len : Int) := by omega
      have HCz := Lib.hid (fun (W : World) (hb : Below wr.heap.size wr W) => HG.out k z _ C capc W hz (hkz.below hb))
      unfold ndV at HCz
      have HZ := Lib.hid hz
      have HSz := Lib.hid (show z.size ≤ 140737488355328 by have := Trees.size_get x.kids k z hz; have hks : x.kids.size + 1 = x.size := (by unfold Nd.size; omega); omega)
      subst hk
      clear hz hkz
      generalize z.sum.edge false = q at *
      go_upto_region 13 with fail
      skip
      obtain ⟨n0, n1, n2, n3, n4, n5, n6, n7, hln⟩ := c8n (HRw.out.1)

      have hlb : b < wr.heap.size := Nat.lt_of_lt_of_le hbw HRw.out.2.2.2.size
      have hKl := two_of (Q := fun b => b < wr.heap.size) hln hlb
      have hn02 : w.heap.size ≠ w.heap.size + 1 + 1 := by omega
      have hn12 : w.heap.size + 1 ≠ w.heap.size + 1 + 1 := by omega
      have hn22 : w.heap.size ≤ w.heap.size + 1 + 1 := by omega
      have hKn : ∀ b', b' = w.heap.size ∨ b' = b → b' ≠ w.heap.size + 1 + 1 := by rintro b' (rfl | rfl) <;> omega
      refine wp_region_held_drew (S := fun w' => ∀ b' o', b' = w.heap.size ∨ b' = b → w'.cell? ⟨b', o', none⟩ = wr.cell? ⟨b', o', none⟩) (by kernel_rfl) (KeepP.start (fun b' => b' = w.heap.size ∨ b' = b) wr) (fun hHeld => ?_)
      refine wpAnyH_take (i := 1) (oi := _) (v := ?_) rfl (by kernel_rfl) (by kernel_rfl) (by kernel_rfl) (fun _ _ _ h => h) (Or.inl ⟨by kernel_rfl, ?_⟩) (by assumption) ?_
      rotate_left
      · intro w hSw
        try dsimp only at hSw
        go_simp
        try (with_reducible rfl)

      refine wpAnyH_take (i := 2) (oi := _) (v := ?_) rfl (by kernel_rfl) (by kernel_rfl) (by kernel_rfl) (fun _ _ _ h => h) (Or.inl ⟨by kernel_rfl, ?_⟩) (by assumption) ?_
      rotate_left
      · intro w hSw
        try dsimp only at hSw
        go_simp
        try (with_reducible rfl)

      refine wpAnyH_take (i := 3) (oi := _) (v := ?_) rfl (by kernel_rfl) (by kernel_rfl) (by kernel_rfl) (fun _ _ _ h => h) (Or.inl ⟨by kernel_rfl, ?_⟩) (by assumption) ?_
      rotate_left
      · intro w hSw
        try dsimp only at hSw
        go_simp
        try (with_reducible rfl)

      refine wpAnyH_take (i := 4) (oi := _) (v := ?_) rfl (by kernel_rfl) (by kernel_rfl) (by kernel_rfl) (fun _ _ _ h => h) (Or.inl ⟨by kernel_rfl, ?_⟩) (by assumption) ?_
      rotate_left
      · intro w hSw
        try dsimp only at hSw
        go_simp
        try (with_reducible rfl)

      refine wpAnyH_take (i := 5) (oi := _) (v := ?_) rfl (by kernel_rfl) (by kernel_rfl) (by kernel_rfl) (fun _ _ _ h => h) (Or.inl ⟨by kernel_rfl, ?_⟩) (by assumption) ?_
      rotate_left
      · intro w hSw
        try dsimp only at hSw
        go_simp
        try (with_reducible rfl)

      refine wpAnyH_take (i := 6) (oi := _) (v := ?_) rfl (by kernel_rfl) (by kernel_rfl) (by kernel_rfl) (fun _ _ _ h => h) (Or.inl ⟨by kernel_rfl, ?_⟩) (by assumption) ?_
      rotate_left
      · intro w hSw
        try dsimp only at hSw
        go_simp
        try (with_reducible rfl)

      try simp only [Act.put, List.getElem_toArray, List.getElem_cons_zero, List.getElem_cons_succ, List.setIfInBounds_toArray, List.set_cons_zero, List.set_cons_succ]

      refine wpAnyH_ready (rs := [0, 7]) (by kernel_rfl) (by simp) ?_
      refine AllReadyH.cons (o := _) rfl (fun K hK => ?_) (AllReadyH.cons (o := _) rfl (fun K hK => ?_) AllReadyH.nil)
      · skip
        obtain ⟨s0, s1, s2, s3, t0, t1, t2, t3⟩ := (HRw.out.2.2.1).c4
        have hls := (HRw.out.2.2.1).lt
        go_simp
        refine hK.out _ _ hHeld (fun _ => ?_)
        clear hK K
        clear s0 s1 s2 s3 t0 t1 t2 t3 hls
        try simp only [Act.put, List.getElem_toArray, List.getElem_cons_zero, List.getElem_cons_succ, List.setIfInBounds_toArray, List.set_cons_zero, List.set_cons_succ]
        refine wpAnyH_ready (rs := [7]) (by kernel_rfl) (by simp) ?_
        refine AllReadyH.cons (o := _) rfl (fun K hK => ?_) AllReadyH.nil
        go_simp
        go_at_call 71
        refine (HCz.out wr.drew (Below.refl _ _).drew).mono ?_
        rintro e w3 ⟨rfl, hb3'⟩
        have hb3 : Below wr.heap.size wr w3 := (Below.refl _ _).drew.trans hb3'
        have hk3 := KeepP.below (KeepP.start (fun b' => b' = w.heap.size ∨ b' = b) wr) hb3' hKl
        refine hK.out _ _ hk3 (fun hSc => ?_)
        clear hK K hHeld hb3'
        try simp only [Act.put, List.getElem_toArray, List.getElem_cons_zero, List.getElem_cons_succ, List.setIfInBounds_toArray, List.set_cons_zero, List.set_cons_succ]

        clear n0 n1 n2 n3 n4 n5 n6 n7 hln c0 c1 c2 c3 c4 c5 c6 c7
        refine wpAnyH_ready (rs := [8]) (by kernel_rfl) (by simp) ?_
        refine AllReadyH.cons (o := _) rfl (fun K hK => ?_) AllReadyH.nil

        have HF2 := Lib.hid (rtwo_any p q 0 w3 (Or.inl rfl))
        rw [two_or] at HF2
        go_simp
        refine HF2.out.mono ?_
        rintro e w4 ⟨rfl, hb4⟩
        have hk4 := KeepP.below hk3 hb4 (fun b' h => Nat.lt_of_lt_of_le (hKl b' h) hb3.size)
        refine hK.out _ _ hk4 (fun hSa => ?_)
        clear hK K HF2
        generalize orB p q = r at *
        try simp only [Act.put, List.getElem_toArray, List.getElem_cons_zero, List.getElem_cons_succ, List.setIfInBounds_toArray, List.set_cons_zero, List.set_cons_succ]

        have HS4 := Lib.hid ((HRw.out.2.2.1.below hb3 HRw.out.2.2.1.lt).below hb4 (Nat.lt_of_lt_of_le HRw.out.2.2.1.lt hb3.size))
        have HN4 := Lib.hid ((HRw.out.1.below hb3 HRw.out.1.lt).below hb4 (Nat.lt_of_lt_of_le HRw.out.1.lt hb3.size))
        have HR4 := Lib.hid ((HRw.out.2.1.below hb3 HRw.out.2.1.lt).below hb4 (Nat.lt_of_lt_of_le HRw.out.2.1.lt hb3.size))
        have HB4 := Lib.hid ((HRw.out.2.2.2.trans (hb3.mono HRw.out.2.2.2.size)).trans (hb4.mono (by have := HRw.out.2.2.2.size; have := hb3.size; omega)))
        obtain ⟨s0, s1, s2, s3, t0, t1, t2, t3⟩ := (HS4.out).c4
        have hls := (HS4.out).lt

        refine wpAnyH_ready (rs := [9]) (by kernel_rfl) (by simp) ?_
        refine AllReadyH.cons (o := _) rfl (fun K hK => ?_) AllReadyH.nil

        go_simp
        refine hK.out _ _ (keep4 hk4 hKn _ _ _ _) (fun hSb => ?_)
        clear hK K
        try simp only [Act.put, List.getElem_toArray, List.getElem_cons_zero, List.getElem_cons_succ, List.setIfInBounds_toArray, List.set_cons_zero, List.set_cons_succ]

        refine wpAnyH_done (by kernel_rfl) ?_ _
        clear hSa hSb
        clear s0 s1 s2 s3 t0 t1 t2 t3 hls

        obtain ⟨w5, hw5, hrr⟩ := all4 r HN4.out HR4.out HS4.out HB4.out
        have HRR := Lib.hid hrr
        clear HS4 HN4 HR4 HB4 hb3 hb4 hk3 hk4 HRw HCz
        clear hSc hrr
        rw [hw5]
        clear hw5
        obtain ⟨b', o', C', capc', hB, hbw', _, ⟨c0, c1, c2, c3, c4, c5, c6, c7⟩, hkz'⟩ := (HT0.out.below HRR.out.2.2.2).get HZ.out
        obtain ⟨rfl, rfl⟩ : b = b' ∧ o = o' := by simpa using hB
        have HC := Lib.hid (rnullP_go z _ C' capc' w5 HSz.out (fun y hy => HO.out y (kid_nodes HZ.out y hy)) hkz')
        unfold ndV at HC
        clear HE hKl hKn hn02 hn12 hn22 hlb hkz' hB hbw'
        obtain ⟨n0, n1, n2, n3, n4, n5, n6, n7, hln⟩ := c8n (HRR.out.1)

        go_wp2_with fail
        refine HC.out.mono ?_
        rintro e w6 ⟨rfl, hb6⟩
        have HR6 := Lib.hid (And.intro (HRR.out.1.below hb6 HRR.out.1.lt) (And.intro (HRR.out.2.1.below hb6 HRR.out.2.1.lt) (And.intro (HRR.out.2.2.1.below hb6 HRR.out.2.2.1.lt) (HRR.out.2.2.2.trans (hb6.mono HRR.out.2.2.2.size)))))
        clear n0 n1 n2 n3 n4 n5 n6 n7 hln c0 c1 c2 c3 c4 c5 c6 c7 HC HRR hb6
        have hes := HES.out
        clear HES
        cases hn : z.sum.null with
        | false =>
          rw [if_pos (by simp [hn])] at hes
          have HE9 := Lib.hid hes
          clear hes hn
          dsimp only
          obtain ⟨r0, r1, r2, r3, q0, q1, q2, q3⟩ := (HR6.out.2.1).c4
          have hlr := (HR6.out.2.1).lt
          obtain ⟨s0, s1, s2, s3, t0, t1, t2, t3⟩ := (HR6.out.2.2.1).c4
          have hls := (HR6.out.2.2.1).lt
          go_wp2
          refine bodyPost_ret (ret_set Tryz.results71 rfl (Blk.set4 HR6.out.2.1)) rfl ⟨by rw [HE9.out], below_set4 HR6.out.2.2.2 (Nat.le_succ _) _ _ _ _⟩
        | true =>
          rw [if_neg (by simp [hn])] at hes
          have HE9 := Lib.hid hes
          clear hes hn
          dsimp only
          go_wp2
          go_light
          go_roundw
          case rel => exact ⟨i + 1, r, by go_num, by omega, HE9, HR6⟩
          case measure => simp [intOf]; omega

      · skip
        go_simp
        go_at_call 71
        refine (HCz.out wr.drew (Below.refl _ _).drew).mono ?_
        rintro e w3 ⟨rfl, hb3'⟩
        have hb3 : Below wr.heap.size wr w3 := (Below.refl _ _).drew.trans hb3'
        have hk3 := KeepP.below (KeepP.start (fun b' => b' = w.heap.size ∨ b' = b) wr) hb3' hKl
        refine hK.out _ _ hk3 (fun hSc => ?_)
        clear hK K hHeld hb3'
        try simp only [Act.put, List.getElem_toArray, List.getElem_cons_zero, List.getElem_cons_succ, List.setIfInBounds_toArray, List.set_cons_zero, List.set_cons_succ]

        clear n0 n1 n2 n3 n4 n5 n6 n7 hln c0 c1 c2 c3 c4 c5 c6 c7
        obtain ⟨s0, s1, s2, s3, t0, t1, t2, t3⟩ := ((HRw.out.2.2.1.below hb3 HRw.out.2.2.1.lt)).c4
        have hls := ((HRw.out.2.2.1.below hb3 HRw.out.2.2.1.lt)).lt
        refine wpAnyH_ready (rs := [0]) (by kernel_rfl) (by simp) ?_
        refine AllReadyH.cons (o := _) rfl (fun K hK => ?_) AllReadyH.nil
        go_simp
        refine hK.out _ _ hk3 (fun hSd => ?_)
        clear hSd
        clear hK K
        clear s0 s1 s2 s3 t0 t1 t2 t3 hls
        try simp only [Act.put, List.getElem_toArray, List.getElem_cons_zero, List.getElem_cons_succ, List.setIfInBounds_toArray, List.set_cons_zero, List.set_cons_succ]
        refine wpAnyH_ready (rs := [8]) (by kernel_rfl) (by simp) ?_
        refine AllReadyH.cons (o := _) rfl (fun K hK => ?_) AllReadyH.nil

        have HF2 := Lib.hid (rtwo_any p q 0 w3 (Or.inl rfl))
        rw [two_or] at HF2
        go_simp
        refine HF2.out.mono ?_
        rintro e w4 ⟨rfl, hb4⟩
        have hk4 := KeepP.below hk3 hb4 (fun b' h => Nat.lt_of_lt_of_le (hKl b' h) hb3.size)
        refine hK.out _ _ hk4 (fun hSa => ?_)
        clear hK K HF2
        generalize orB p q = r at *
        try simp only [Act.put, List.getElem_toArray, List.getElem_cons_zero, List.getElem_cons_succ, List.setIfInBounds_toArray, List.set_cons_zero, List.set_cons_succ]

        have HS4 := Lib.hid ((HRw.out.2.2.1.below hb3 HRw.out.2.2.1.lt).below hb4 (Nat.lt_of_lt_of_le HRw.out.2.2.1.lt hb3.size))
        have HN4 := Lib.hid ((HRw.out.1.below hb3 HRw.out.1.lt).below hb4 (Nat.lt_of_lt_of_le HRw.out.1.lt hb3.size))
        have HR4 := Lib.hid ((HRw.out.2.1.below hb3 HRw.out.2.1.lt).below hb4 (Nat.lt_of_lt_of_le HRw.out.2.1.lt hb3.size))
        have HB4 := Lib.hid ((HRw.out.2.2.2.trans (hb3.mono HRw.out.2.2.2.size)).trans (hb4.mono (by have := HRw.out.2.2.2.size; have := hb3.size; omega)))
        obtain ⟨s0, s1, s2, s3, t0, t1, t2, t3⟩ := (HS4.out).c4
        have hls := (HS4.out).lt

        refine wpAnyH_ready (rs := [9]) (by kernel_rfl) (by simp) ?_
        refine AllReadyH.cons (o := _) rfl (fun K hK => ?_) AllReadyH.nil

        go_simp
        refine hK.out _ _ (keep4 hk4 hKn _ _ _ _) (fun hSb => ?_)
        clear hK K
        try simp only [Act.put, List.getElem_toArray, List.getElem_cons_zero, List.getElem_cons_succ, List.setIfInBounds_toArray, List.set_cons_zero, List.set_cons_succ]

        refine wpAnyH_done (by kernel_rfl) ?_ _
        clear hSa hSb
        clear s0 s1 s2 s3 t0 t1 t2 t3 hls

        obtain ⟨w5, hw5, hrr⟩ := all4 r HN4.out HR4.out HS4.out HB4.out
        have HRR := Lib.hid hrr
        clear HS4 HN4 HR4 HB4 hb3 hb4 hk3 hk4 HRw HCz
        clear hSc hrr
        rw [hw5]
        clear hw5
        obtain ⟨b', o', C', capc', hB, hbw', _, ⟨c0, c1, c2, c3, c4, c5, c6, c7⟩, hkz'⟩ := (HT0.out.below HRR.out.2.2.2).get HZ.out
        obtain ⟨rfl, rfl⟩ : b = b' ∧ o = o' := by simpa using hB
        have HC := Lib.hid (rnullP_go z _ C' capc' w5 HSz.out (fun y hy => HO.out y (kid_nodes HZ.out y hy)) hkz')
        unfold ndV at HC
        clear HE hKl hKn hn02 hn12 hn22 hlb hkz' hB hbw'
        obtain ⟨n0, n1, n2, n3, n4, n5, n6, n7, hln⟩ := c8n (HRR.out.1)

        go_wp2_with fail
        refine HC.out.mono ?_
        rintro e w6 ⟨rfl, hb6⟩
        have HR6 := Lib.hid (And.intro (HRR.out.1.below hb6 HRR.out.1.lt) (And.intro (HRR.out.2.1.below hb6 HRR.out.2.1.lt) (And.intro (HRR.out.2.2.1.below hb6 HRR.out.2.2.1.lt) (HRR.out.2.2.2.trans (hb6.mono HRR.out.2.2.2.size)))))
        clear n0 n1 n2 n3 n4 n5 n6 n7 hln c0 c1 c2 c3 c4 c5 c6 c7 HC HRR hb6
        have hes := HES.out
        clear HES
        cases hn : z.sum.null with
        | false =>
          rw [if_pos (by simp [hn])] at hes
          have HE9 := Lib.hid hes
          clear hes hn
          dsimp only
          obtain ⟨r0, r1, r2, r3, q0, q1, q2, q3⟩ := (HR6.out.2.1).c4
          have hlr := (HR6.out.2.1).lt
          obtain ⟨s0, s1, s2, s3, t0, t1, t2, t3⟩ := (HR6.out.2.2.1).c4
          have hls := (HR6.out.2.2.1).lt
          go_wp2
          refine bodyPost_ret (ret_set Tryz.results71 rfl (Blk.set4 HR6.out.2.1)) rfl ⟨by rw [HE9.out], below_set4 HR6.out.2.2.2 (Nat.le_succ _) _ _ _ _⟩
        | true =>
          rw [if_neg (by simp [hn])] at hes
          have HE9 := Lib.hid hes
          clear hes hn
          dsimp only
          go_wp2
          go_light
          go_roundw
          case rel => exact ⟨i + 1, r, by go_num, by omega, HE9, HR6⟩
          case measure => simp [intOf]; omega

    · obtain rfl : i = x.kids.len := by omega
      have hdl : ¬ ((x.kids.len : Int) < (x.kids.len : Int)) := by omega
      have HE1 := Lib.hid (show p = x.sum.edge false by
        have := HE.out
        rw [show x.kids.len = (kidsV false x.kids.sums).length by rw [kidsV_len, sums_len], List.drop_length] at this
        exact this)
      clear HE
      skip
      obtain ⟨r0, r1, r2, r3, q0, q1, q2, q3⟩ := (HRw.out.2.1).c4
      have hlr := (HRw.out.2.1).lt
      obtain ⟨s0, s1, s2, s3, t0, t1, t2, t3⟩ := (HRw.out.2.2.1).c4
      have hls := (HRw.out.2.2.1).lt
      go_wp2
      refine bodyPost_ret (ret_set Tryz.results71 rfl (Blk.set4 HRw.out.2.1)) rfl ⟨by rw [HE1.out], below_set4 HRw.out.2.2.2 (Nat.le_succ _) _ _ _ _⟩
set_option maxHeartbeats 8000000 in
theorem re_4t (x : Nd) (B : Option Addr) (cap : Nat) (w : World) (hs : x.size ≤ 140737488355328) (hl : x.kids.len ≤ 140737488355328) (ho : ∀ y ∈ x.nodes, aloneN y = true) (ht : TreesAt w (fun b => b < w.heap.size) x.kids B) (hG : KidE true x) (hh : x.sum.hollow = false) (hk : x.kind = 4) (hE : edgeGo true true noB (kidsV true x.kids.sums) = x.sum.edge true) :
    Calls Tryz.prog 71 #[ndV x B cap, .bool true] w fun e w' => e = .returned (.agg #[.int .u64 ((word (x.sum.edge true) 0 : Nat) : Int), .int .u64 ((word (x.sum.edge true) 1 : Nat) : Int), .int .u64 ((word (x.sum.edge true) 2 : Nat) : Int), .int .u64 ((word (x.sum.edge true) 3 : Nat) : Int)]) ∧ Below w.heap.size w w' := by
  have HE0 := Lib.hid hE
  have HH := Lib.hid hh
  clear hh hE
  have HG := Lib.hid hG
  have HO := Lib.hid ho
  have HT0 := Lib.hid ht
  have hb : Below w.heap.size w (((w.alloc (.cells #[.int .i64 x.kind, .int .u64 ((word (x.set.testBit) 0 : Nat) : Int), .int .u64 ((word (x.set.testBit) 1 : Nat) : Int), .int .u64 ((word (x.set.testBit) 2 : Nat) : Int), .int .u64 ((word (x.set.testBit) 3 : Nat) : Int), .slice B x.kids.len cap, .int .i64 x.lo, .int .i64 x.hi] 28)).alloc (.cells #[.int .u64 0, .int .u64 0, .int .u64 0, .int .u64 0] 25)).alloc (.cells #[.int .u64 0, .int .u64 0, .int .u64 0, .int .u64 0] 25)) := (((Below.refl _ _).alloc (Nat.le_refl _) _).alloc (by simp) _).alloc (by simp; omega) _
  have HB := Lib.hid hb
  have HN := Lib.hid (((Blk.new w 28 #[.int .i64 x.kind, .int .u64 ((word (x.set.testBit) 0 : Nat) : Int), .int .u64 ((word (x.set.testBit) 1 : Nat) : Int), .int .u64 ((word (x.set.testBit) 2 : Nat) : Int), .int .u64 ((word (x.set.testBit) 3 : Nat) : Int), .slice B x.kids.len cap, .int .i64 x.lo, .int .i64 x.hi]).alloc (.cells #[.int .u64 0, .int .u64 0, .int .u64 0, .int .u64 0] 25)).alloc (.cells #[.int .u64 0, .int .u64 0, .int .u64 0, .int .u64 0] 25))
  have HR := Lib.hid ((show Blk ((w.alloc (.cells #[.int .i64 x.kind, .int .u64 ((word (x.set.testBit) 0 : Nat) : Int), .int .u64 ((word (x.set.testBit) 1 : Nat) : Int), .int .u64 ((word (x.set.testBit) 2 : Nat) : Int), .int .u64 ((word (x.set.testBit) 3 : Nat) : Int), .slice B x.kids.len cap, .int .i64 x.lo, .int .i64 x.hi] 28)).alloc (.cells #[.int .u64 0, .int .u64 0, .int .u64 0, .int .u64 0] 25)) (w.heap.size + 1) 25 #[.int .u64 0, .int .u64 0, .int .u64 0, .int .u64 0] from Blk.new_at (by simp)).alloc (.cells #[.int .u64 0, .int .u64 0, .int .u64 0, .int .u64 0] 25))
  have HS := Lib.hid (show Blk (((w.alloc (.cells #[.int .i64 x.kind, .int .u64 ((word (x.set.testBit) 0 : Nat) : Int), .int .u64 ((word (x.set.testBit) 1 : Nat) : Int), .int .u64 ((word (x.set.testBit) 2 : Nat) : Int), .int .u64 ((word (x.set.testBit) 3 : Nat) : Int), .slice B x.kids.len cap, .int .i64 x.lo, .int .i64 x.hi] 28)).alloc (.cells #[.int .u64 0, .int .u64 0, .int .u64 0, .int .u64 0] 25)).alloc (.cells #[.int .u64 0, .int .u64 0, .int .u64 0, .int .u64 0] 25)) (w.heap.size + 1 + 1) 25 #[.int .u64 0, .int .u64 0, .int .u64 0, .int .u64 0] from Blk.new_at (by simp))
  have HT := Lib.hid (ht.below hb)
  have HC := Lib.hid (rhollow_go x _ B cap _ hs ho (ht.below hb))
  clear hb ht

  clear hG ho
  unfold ndV at HC ⊢
  rw [hk] at HN HT HB HC HR HS ⊢
  go_enter Tryz.func71, Tryz.ntmps71
  go_upto_region 2 with fail
  generalize (((w.alloc (.cells #[.int .i64 4, .int .u64 ((word (x.set.testBit) 0 : Nat) : Int), .int .u64 ((word (x.set.testBit) 1 : Nat) : Int), .int .u64 ((word (x.set.testBit) 2 : Nat) : Int), .int .u64 ((word (x.set.testBit) 3 : Nat) : Int), .slice B x.kids.len cap, .int .i64 x.lo, .int .i64 x.hi] 28)).alloc (.cells #[.int .u64 0, .int .u64 0, .int .u64 0, .int .u64 0] 25)).alloc (.cells #[.int .u64 0, .int .u64 0, .int .u64 0, .int .u64 0] 25)) = w1 at *
  obtain ⟨n0, n1, n2, n3, n4, n5, n6, n7, hln⟩ := c8n (HN.out)

  go_wp2_with fail
  refine HC.out.mono ?_
  rintro e w2 ⟨rfl, hb2⟩
  have HN2 := Lib.hid (HN.out.below hb2 HN.out.lt)
  have HR2 := Lib.hid (HR.out.below hb2 HR.out.lt)
  have HS2 := Lib.hid (HS.out.below hb2 HS.out.lt)
  have HB2 := Lib.hid (HB.out.trans (hb2.mono HB.out.size))
  clear n0 n1 n2 n3 n4 n5 n6 n7 hln
  clear HC hb2 HN HT HB HR HS
  rw [HH.out]
  dsimp only

  have HS0 := Lib.hid (show Blk w2 w.heap.size 28 #[.int .i64 4, .int .u64 ((word (x.set.testBit) 0 : Nat) : Int), .int .u64 ((word (x.set.testBit) 1 : Nat) : Int), .int .u64 ((word (x.set.testBit) 2 : Nat) : Int), .int .u64 ((word (x.set.testBit) 3 : Nat) : Int), .slice B x.kids.len cap, .int .i64 x.lo, .int .i64 x.hi] ∧ Blk w2 (w.heap.size + 1) 25 #[.int .u64 0, .int .u64 0, .int .u64 0, .int .u64 0] ∧ Blk w2 (w.heap.size + 1 + 1) 25 #[.int .u64 ((word (noB) 0 : Nat) : Int), .int .u64 ((word (noB) 1 : Nat) : Int), .int .u64 ((word (noB) 2 : Nat) : Int), .int .u64 ((word (noB) 3 : Nat) : Int)] ∧ Below w.heap.size w w2 from ⟨HN2.out, HR2.out, by rw [noB_word 0 (by decide), noB_word 1 (by decide), noB_word 2 (by decide), noB_word 3 (by decide)]; exact HS2.out, HB2.out⟩)
  obtain ⟨n0, n1, n2, n3, n4, n5, n6, n7, hln⟩ := c8n (HN2.out)

  go_wp2
  clear n0 n1 n2 n3 n4 n5 n6 n7 hln
  go_loopw [7, 8] (fun iv kv wr => ∃ (i : Nat) (p : Nat → Bool), iv = .int .i64 (i : Int) ∧ i ≤ x.kids.len ∧ Hid (edgeGo true true p ((kidsV true x.kids.sums).drop i) = x.sum.edge true) ∧ Hid (Blk wr w.heap.size 28 #[.int .i64 4, .int .u64 ((word (x.set.testBit) 0 : Nat) : Int), .int .u64 ((word (x.set.testBit) 1 : Nat) : Int), .int .u64 ((word (x.set.testBit) 2 : Nat) : Int), .int .u64 ((word (x.set.testBit) 3 : Nat) : Int), .slice B x.kids.len cap, .int .i64 x.lo, .int .i64 x.hi] ∧ Blk wr (w.heap.size + 1) 25 #[.int .u64 0, .int .u64 0, .int .u64 0, .int .u64 0] ∧ Blk wr (w.heap.size + 1 + 1) 25 #[.int .u64 ((word (p) 0 : Nat) : Int), .int .u64 ((word (p) 1 : Nat) : Int), .int .u64 ((word (p) 2 : Nat) : Int), .int .u64 ((word (p) 3 : Nat) : Int)] ∧ Below w.heap.size w wr)) (fun iv _ _ => x.kids.len - (intOf iv).toNat)
  case atStart => exact ⟨0, noB, rfl, Nat.zero_le _, Lib.hid (by rw [List.drop_zero]; exact HE0.out), HS0⟩
  case round =>
    clear HS0 HN2 HR2 HS2 HB2
    obtain ⟨i, p, rfl, hi, HE, HRw⟩ := hrel
    by_cases hlt : i < x.kids.len
    · obtain ⟨k, hk⟩ : ∃ k, x.kids.len = k + 1 + i := ⟨x.kids.len - 1 - i, by omega⟩
      have hlk : k < x.kids.len := by omega
      obtain ⟨z, hz⟩ : ∃ z, x.kids.list[k]? = some z := ⟨_, List.getElem?_eq_getElem (by rw [Trees.len_list]; exact hlk)⟩
      have HES := Lib.hid (edge_go_step HE.out (kidsV_get (en := true) (k := k) (by rw [sums_len]; exact hlt) (by rw [sums_len]; simp; omega) (sums_get hz)))
      obtain ⟨b, o, C, capc, rfl, hbw, _, ⟨c0, c1, c2, c3, c4, c5, c6, c7⟩, hkz⟩ := (HT0.out.below HRw.out.2.2.2).get hz
      have hdl : (i : Int) < (x.kids.len : Int) := by omega
      have hdk : (k : Int) < (x.kids.len : Int) := by omega
      have HCz := Lib.hid (fun (W : World) (hb : Below wr.heap.size wr W) => HG.out k z _ C capc W hz (hkz.below hb))
      unfold ndV at HCz
      have HZ := Lib.hid hz
      have HSz := Lib.hid (show z.size ≤ 140737488355328 by have := Trees.size_get x.kids k z hz; have hks : x.kids.size + 1 = x.size := (by unfold Nd.size; omega); omega)
      have HKV := Lib.hid (show (x.kids.len : Int) - 1 - (i : Int) = (k : Int) by omega)
      clear hk
      clear hz hkz
      generalize z.sum.edge true = q at *
      go_upto_region 13 with fail
      rw [HKV.out]
      obtain ⟨n0, n1, n2, n3, n4, n5, n6, n7, hln⟩ := c8n (HRw.out.1)

      have hlb : b < wr.heap.size := Nat.lt_of_lt_of_le hbw HRw.out.2.2.2.size
      have hKl := two_of (Q := fun b => b < wr.heap.size) hln hlb
      have hn02 : w.heap.size ≠ w.heap.size + 1 + 1 := by omega
      have hn12 : w.heap.size + 1 ≠ w.heap.size + 1 + 1 := by omega
      have hn22 : w.heap.size ≤ w.heap.size + 1 + 1 := by omega
      have hKn : ∀ b', b' = w.heap.size ∨ b' = b → b' ≠ w.heap.size + 1 + 1 := by rintro b' (rfl | rfl) <;> omega
      refine wp_region_held_drew (S := fun w' => ∀ b' o', b' = w.heap.size ∨ b' = b → w'.cell? ⟨b', o', none⟩ = wr.cell? ⟨b', o', none⟩) (by kernel_rfl) (KeepP.start (fun b' => b' = w.heap.size ∨ b' = b) wr) (fun hHeld => ?_)
      refine wpAnyH_take (i := 1) (oi := _) (v := ?_) rfl (by kernel_rfl) (by kernel_rfl) (by kernel_rfl) (fun _ _ _ h => h) (Or.inl ⟨by kernel_rfl, ?_⟩) (by assumption) ?_
      rotate_left
      · intro w hSw
        try dsimp only at hSw
        go_simp
        try (with_reducible rfl)

      refine wpAnyH_take (i := 2) (oi := _) (v := ?_) rfl (by kernel_rfl) (by kernel_rfl) (by kernel_rfl) (fun _ _ _ h => h) (Or.inl ⟨by kernel_rfl, ?_⟩) (by assumption) ?_
      rotate_left
      · intro w hSw
        try dsimp only at hSw
        go_simp
        try (with_reducible rfl)

      refine wpAnyH_take (i := 3) (oi := _) (v := ?_) rfl (by kernel_rfl) (by kernel_rfl) (by kernel_rfl) (fun _ _ _ h => h) (Or.inl ⟨by kernel_rfl, ?_⟩) (by assumption) ?_
      rotate_left
      · intro w hSw
        try dsimp only at hSw
        go_simp
        try (with_reducible rfl)

      refine wpAnyH_take (i := 4) (oi := _) (v := ?_) rfl (by kernel_rfl) (by kernel_rfl) (by kernel_rfl) (fun _ _ _ h => h) (Or.inl ⟨by kernel_rfl, ?_⟩) (by assumption) ?_
      rotate_left
      · intro w hSw
        try dsimp only at hSw
        go_simp
        try (with_reducible rfl)

      refine wpAnyH_take (i := 5) (oi := _) (v := ?_) rfl (by kernel_rfl) (by kernel_rfl) (by kernel_rfl) (fun _ _ _ h => h) (Or.inl ⟨by kernel_rfl, ?_⟩) (by assumption) ?_
      rotate_left
      · intro w hSw
        try dsimp only at hSw
        go_simp
        try (with_reducible rfl)

      refine wpAnyH_take (i := 6) (oi := _) (v := ?_) rfl (by kernel_rfl) (by kernel_rfl) (by kernel_rfl) (fun _ _ _ h => h) (Or.inl ⟨by kernel_rfl, ?_⟩) (by assumption) ?_
      rotate_left
      · intro w hSw
        try dsimp only at hSw
        go_simp
        try (with_reducible rfl)

      try simp only [Act.put, List.getElem_toArray, List.getElem_cons_zero, List.getElem_cons_succ, List.setIfInBounds_toArray, List.set_cons_zero, List.set_cons_succ]

      refine wpAnyH_ready (rs := [0, 7]) (by kernel_rfl) (by simp) ?_
      refine AllReadyH.cons (o := _) rfl (fun K hK => ?_) (AllReadyH.cons (o := _) rfl (fun K hK => ?_) AllReadyH.nil)
      · skip
        obtain ⟨s0, s1, s2, s3, t0, t1, t2, t3⟩ := (HRw.out.2.2.1).c4
        have hls := (HRw.out.2.2.1).lt
        go_simp
        refine hK.out _ _ hHeld (fun _ => ?_)
        clear hK K
        clear s0 s1 s2 s3 t0 t1 t2 t3 hls
        try simp only [Act.put, List.getElem_toArray, List.getElem_cons_zero, List.getElem_cons_succ, List.setIfInBounds_toArray, List.set_cons_zero, List.set_cons_succ]
        refine wpAnyH_ready (rs := [7]) (by kernel_rfl) (by simp) ?_
        refine AllReadyH.cons (o := _) rfl (fun K hK => ?_) AllReadyH.nil
        go_simp
        go_at_call 71
        refine (HCz.out wr.drew (Below.refl _ _).drew).mono ?_
        rintro e w3 ⟨rfl, hb3'⟩
        have hb3 : Below wr.heap.size wr w3 := (Below.refl _ _).drew.trans hb3'
        have hk3 := KeepP.below (KeepP.start (fun b' => b' = w.heap.size ∨ b' = b) wr) hb3' hKl
        refine hK.out _ _ hk3 (fun hSc => ?_)
        clear hK K hHeld hb3'
        try simp only [Act.put, List.getElem_toArray, List.getElem_cons_zero, List.getElem_cons_succ, List.setIfInBounds_toArray, List.set_cons_zero, List.set_cons_succ]

        clear n0 n1 n2 n3 n4 n5 n6 n7 hln c0 c1 c2 c3 c4 c5 c6 c7
        refine wpAnyH_ready (rs := [8]) (by kernel_rfl) (by simp) ?_
        refine AllReadyH.cons (o := _) rfl (fun K hK => ?_) AllReadyH.nil

        have HF2 := Lib.hid (rtwo_any p q 0 w3 (Or.inl rfl))
        rw [two_or] at HF2
        go_simp
        refine HF2.out.mono ?_
        rintro e w4 ⟨rfl, hb4⟩
        have hk4 := KeepP.below hk3 hb4 (fun b' h => Nat.lt_of_lt_of_le (hKl b' h) hb3.size)
        refine hK.out _ _ hk4 (fun hSa => ?_)
        clear hK K HF2
        generalize orB p q = r at *
        try simp only [Act.put, List.getElem_toArray, List.getElem_cons_zero, List.getElem_cons_succ, List.setIfInBounds_toArray, List.set_cons_zero, List.set_cons_succ]

        have HS4 := Lib.hid ((HRw.out.2.2.1.below hb3 HRw.out.2.2.1.lt).below hb4 (Nat.lt_of_lt_of_le HRw.out.2.2.1.lt hb3.size))
        have HN4 := Lib.hid ((HRw.out.1.below hb3 HRw.out.1.lt).below hb4 (Nat.lt_of_lt_of_le HRw.out.1.lt hb3.size))
        have HR4 := Lib.hid ((HRw.out.2.1.below hb3 HRw.out.2.1.lt).below hb4 (Nat.lt_of_lt_of_le HRw.out.2.1.lt hb3.size))
        have HB4 := Lib.hid ((HRw.out.2.2.2.trans (hb3.mono HRw.out.2.2.2.size)).trans (hb4.mono (by have := HRw.out.2.2.2.size; have := hb3.size; omega)))
        obtain ⟨s0, s1, s2, s3, t0, t1, t2, t3⟩ := (HS4.out).c4
        have hls := (HS4.out).lt

        refine wpAnyH_ready (rs := [9]) (by kernel_rfl) (by simp) ?_
        refine AllReadyH.cons (o := _) rfl (fun K hK => ?_) AllReadyH.nil

        go_simp
        refine hK.out _ _ (keep4 hk4 hKn _ _ _ _) (fun hSb => ?_)
        clear hK K
        try simp only [Act.put, List.getElem_toArray, List.getElem_cons_zero, List.getElem_cons_succ, List.setIfInBounds_toArray, List.set_cons_zero, List.set_cons_succ]

        refine wpAnyH_done (by kernel_rfl) ?_ _
        clear hSa hSb
        clear s0 s1 s2 s3 t0 t1 t2 t3 hls

        obtain ⟨w5, hw5, hrr⟩ := all4 r HN4.out HR4.out HS4.out HB4.out
        have HRR := Lib.hid hrr
        clear HS4 HN4 HR4 HB4 hb3 hb4 hk3 hk4 HRw HCz
        clear hSc hrr
        rw [hw5]
        clear hw5
        obtain ⟨b', o', C', capc', hB, hbw', _, ⟨c0, c1, c2, c3, c4, c5, c6, c7⟩, hkz'⟩ := (HT0.out.below HRR.out.2.2.2).get HZ.out
        obtain ⟨rfl, rfl⟩ : b = b' ∧ o = o' := by simpa using hB
        have HC := Lib.hid (rnullP_go z _ C' capc' w5 HSz.out (fun y hy => HO.out y (kid_nodes HZ.out y hy)) hkz')
        unfold ndV at HC
        clear HE hKl hKn hn02 hn12 hn22 hlb hkz' hB hbw'
        obtain ⟨n0, n1, n2, n3, n4, n5, n6, n7, hln⟩ := c8n (HRR.out.1)

        go_wp2_with fail
        refine HC.out.mono ?_
        rintro e w6 ⟨rfl, hb6⟩
        have HR6 := Lib.hid (And.intro (HRR.out.1.below hb6 HRR.out.1.lt) (And.intro (HRR.out.2.1.below hb6 HRR.out.2.1.lt) (And.intro (HRR.out.2.2.1.below hb6 HRR.out.2.2.1.lt) (HRR.out.2.2.2.trans (hb6.mono HRR.out.2.2.2.size)))))
        clear n0 n1 n2 n3 n4 n5 n6 n7 hln c0 c1 c2 c3 c4 c5 c6 c7 HC HRR hb6
        have hes := HES.out
        clear HES
        cases hn : z.sum.null with
        | false =>
          rw [if_pos (by simp [hn])] at hes
          have HE9 := Lib.hid hes
          clear hes hn
          dsimp only
          obtain ⟨r0, r1, r2, r3, q0, q1, q2, q3⟩ := (HR6.out.2.1).c4
          have hlr := (HR6.out.2.1).lt
          obtain ⟨s0, s1, s2, s3, t0, t1, t2, t3⟩ := (HR6.out.2.2.1).c4
          have hls := (HR6.out.2.2.1).lt
          go_wp2
          refine bodyPost_ret (ret_set Tryz.results71 rfl (Blk.set4 HR6.out.2.1)) rfl ⟨by rw [HE9.out], below_set4 HR6.out.2.2.2 (Nat.le_succ _) _ _ _ _⟩
        | true =>
          rw [if_neg (by simp [hn])] at hes
          have HE9 := Lib.hid hes
          clear hes hn
          dsimp only
          go_wp2
          go_light
          go_roundw
          case rel => exact ⟨i + 1, r, by go_num, by omega, HE9, HR6⟩
          case measure => simp [intOf]; omega

      · skip
        go_simp
        go_at_call 71
        refine (HCz.out wr.drew (Below.refl _ _).drew).mono ?_
        rintro e w3 ⟨rfl, hb3'⟩
        have hb3 : Below wr.heap.size wr w3 := (Below.refl _ _).drew.trans hb3'
        have hk3 := KeepP.below (KeepP.start (fun b' => b' = w.heap.size ∨ b' = b) wr) hb3' hKl
        refine hK.out _ _ hk3 (fun hSc => ?_)
        clear hK K hHeld hb3'
        try simp only [Act.put, List.getElem_toArray, List.getElem_cons_zero, List.getElem_cons_succ, List.setIfInBounds_toArray, List.set_cons_zero, List.set_cons_succ]

        clear n0 n1 n2 n3 n4 n5 n6 n7 hln c0 c1 c2 c3 c4 c5 c6 c7
        obtain ⟨s0, s1, s2, s3, t0, t1, t2, t3⟩ := ((HRw.out.2.2.1.below hb3 HRw.out.2.2.1.lt)).c4
        have hls := ((HRw.out.2.2.1.below hb3 HRw.out.2.2.1.lt)).lt
        refine wpAnyH_ready (rs := [0]) (by kernel_rfl) (by simp) ?_
        refine AllReadyH.cons (o := _) rfl (fun K hK => ?_) AllReadyH.nil
        go_simp
        refine hK.out _ _ hk3 (fun hSd => ?_)
        clear hSd
        clear hK K
        clear s0 s1 s2 s3 t0 t1 t2 t3 hls
        try simp only [Act.put, List.getElem_toArray, List.getElem_cons_zero, List.getElem_cons_succ, List.setIfInBounds_toArray, List.set_cons_zero, List.set_cons_succ]
        refine wpAnyH_ready (rs := [8]) (by kernel_rfl) (by simp) ?_
        refine AllReadyH.cons (o := _) rfl (fun K hK => ?_) AllReadyH.nil

        have HF2 := Lib.hid (rtwo_any p q 0 w3 (Or.inl rfl))
        rw [two_or] at HF2
        go_simp
        refine HF2.out.mono ?_
        rintro e w4 ⟨rfl, hb4⟩
        have hk4 := KeepP.below hk3 hb4 (fun b' h => Nat.lt_of_lt_of_le (hKl b' h) hb3.size)
        refine hK.out _ _ hk4 (fun hSa => ?_)
        clear hK K HF2
        generalize orB p q = r at *
        try simp only [Act.put, List.getElem_toArray, List.getElem_cons_zero, List.getElem_cons_succ, List.setIfInBounds_toArray, List.set_cons_zero, List.set_cons_succ]

        have HS4 := Lib.hid ((HRw.out.2.2.1.below hb3 HRw.out.2.2.1.lt).below hb4 (Nat.lt_of_lt_of_le HRw.out.2.2.1.lt hb3.size))
        have HN4 := Lib.hid ((HRw.out.1.below hb3 HRw.out.1.lt).below hb4 (Nat.lt_of_lt_of_le HRw.out.1.lt hb3.size))
        have HR4 := Lib.hid ((HRw.out.2.1.below hb3 HRw.out.2.1.lt).below hb4 (Nat.lt_of_lt_of_le HRw.out.2.1.lt hb3.size))
        have HB4 := Lib.hid ((HRw.out.2.2.2.trans (hb3.mono HRw.out.2.2.2.size)).trans (hb4.mono (by have := HRw.out.2.2.2.size; have := hb3.size; omega)))
        obtain ⟨s0, s1, s2, s3, t0, t1, t2, t3⟩ := (HS4.out).c4
        have hls := (HS4.out).lt

        refine wpAnyH_ready (rs := [9]) (by kernel_rfl) (by simp) ?_
        refine AllReadyH.cons (o := _) rfl (fun K hK => ?_) AllReadyH.nil

        go_simp
        refine hK.out _ _ (keep4 hk4 hKn _ _ _ _) (fun hSb => ?_)
        clear hK K
        try simp only [Act.put, List.getElem_toArray, List.getElem_cons_zero, List.getElem_cons_succ, List.setIfInBounds_toArray, List.set_cons_zero, List.set_cons_succ]

        refine wpAnyH_done (by kernel_rfl) ?_ _
        clear hSa hSb
        clear s0 s1 s2 s3 t0 t1 t2 t3 hls

        obtain ⟨w5, hw5, hrr⟩ := all4 r HN4.out HR4.out HS4.out HB4.out
        have HRR := Lib.hid hrr
        clear HS4 HN4 HR4 HB4 hb3 hb4 hk3 hk4 HRw HCz
        clear hSc hrr
        rw [hw5]
        clear hw5
        obtain ⟨b', o', C', capc', hB, hbw', _, ⟨c0, c1, c2, c3, c4, c5, c6, c7⟩, hkz'⟩ := (HT0.out.below HRR.out.2.2.2).get HZ.out
        obtain ⟨rfl, rfl⟩ : b = b' ∧ o = o' := by simpa using hB
        have HC := Lib.hid (rnullP_go z _ C' capc' w5 HSz.out (fun y hy => HO.out y (kid_nodes HZ.out y hy)) hkz')
        unfold ndV at HC
        clear HE hKl hKn hn02 hn12 hn22 hlb hkz' hB hbw'
        obtain ⟨n0, n1, n2, n3, n4, n5, n6, n7, hln⟩ := c8n (HRR.out.1)

        go_wp2_with fail
        refine HC.out.mono ?_
        rintro e w6 ⟨rfl, hb6⟩
        have HR6 := Lib.hid (And.intro (HRR.out.1.below hb6 HRR.out.1.lt) (And.intro (HRR.out.2.1.below hb6 HRR.out.2.1.lt) (And.intro (HRR.out.2.2.1.below hb6 HRR.out.2.2.1.lt) (HRR.out.2.2.2.trans (hb6.mono HRR.out.2.2.2.size)))))
        clear n0 n1 n2 n3 n4 n5 n6 n7 hln c0 c1 c2 c3 c4 c5 c6 c7 HC HRR hb6
        have hes := HES.out
        clear HES
        cases hn : z.sum.null with
        | false =>
          rw [if_pos (by simp [hn])] at hes
          have HE9 := Lib.hid hes
          clear hes hn
          dsimp only
          obtain ⟨r0, r1, r2, r3, q0, q1, q2, q3⟩ := (HR6.out.2.1).c4
          have hlr := (HR6.out.2.1).lt
          obtain ⟨s0, s1, s2, s3, t0, t1, t2, t3⟩ := (HR6.out.2.2.1).c4
          have hls := (HR6.out.2.2.1).lt
          go_wp2
          refine bodyPost_ret (ret_set Tryz.results71 rfl (Blk.set4 HR6.out.2.1)) rfl ⟨by rw [HE9.out], below_set4 HR6.out.2.2.2 (Nat.le_succ _) _ _ _ _⟩
        | true =>
          rw [if_neg (by simp [hn])] at hes
          have HE9 := Lib.hid hes
          clear hes hn
          dsimp only
          go_wp2
          go_light
          go_roundw
          case rel => exact ⟨i + 1, r, by go_num, by omega, HE9, HR6⟩
          case measure => simp [intOf]; omega

    · obtain rfl : i = x.kids.len := by omega
      have hdl : ¬ ((x.kids.len : Int) < (x.kids.len : Int)) := by omega
      have HE1 := Lib.hid (show p = x.sum.edge true by
        have := HE.out
        rw [show x.kids.len = (kidsV true x.kids.sums).length by rw [kidsV_len, sums_len], List.drop_length] at this
        exact this)
      clear HE
      skip
      obtain ⟨r0, r1, r2, r3, q0, q1, q2, q3⟩ := (HRw.out.2.1).c4
      have hlr := (HRw.out.2.1).lt
      obtain ⟨s0, s1, s2, s3, t0, t1, t2, t3⟩ := (HRw.out.2.2.1).c4
      have hls := (HRw.out.2.2.1).lt
      go_wp2
      refine bodyPost_ret (ret_set Tryz.results71 rfl (Blk.set4 HRw.out.2.1)) rfl ⟨by rw [HE1.out], below_set4 HRw.out.2.2.2 (Nat.le_succ _) _ _ _ _⟩
end Go.Proofs.YtfekpkelmliejaaGreatDoor
