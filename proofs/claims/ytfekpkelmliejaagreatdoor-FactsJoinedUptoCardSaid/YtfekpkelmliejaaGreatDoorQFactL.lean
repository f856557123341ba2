/-
  knows of chapter 10.
-/
import Derived.Test.YtfekpkelmliejaaGreatDoorQFactK
namespace Go.Proofs.YtfekpkelmliejaaGreatDoor
open Go.RowKit
set_option linter.unusedSimpArgs false
set_option linter.unusedVariables false
set_option maxRecDepth 100000

/-- What the example's questions give, at any tree in memory that is the example's. -/
structure Ans10 (x : Nd) (B : Option Addr) (cap : Nat) (w : World) (f0 f1 f2 f3 l0 l1 l2 l3 : Int) : Prop where
  nul : ∀ W, Below w.heap.size w W → Calls Tryz.prog 47 #[ndV x B cap] W fun e w' => e = .returned (.bool false) ∧ Below W.heap.size W w'
  sho : ∀ W, Below w.heap.size w W → Calls Tryz.prog 16 #[ndV x B cap] W fun e w' => e = .returned (.int .i64 1) ∧ Below W.heap.size W w'
  bou : ∀ W, Below w.heap.size w W → Calls Tryz.prog 59 #[ndV x B cap] W fun e w' => e = .returned (.bool false) ∧ Below W.heap.size W w'
  fir : ∀ W, Below w.heap.size w W → Calls Tryz.prog 20 #[ndV x B cap] W fun e w' => e = .returned (.agg #[.int .u64 f0, .int .u64 f1, .int .u64 f2, .int .u64 f3]) ∧ Below W.heap.size W w'
  las : ∀ W, Below w.heap.size w W → Calls Tryz.prog 22 #[ndV x B cap] W fun e w' => e = .returned (.agg #[.int .u64 l0, .int .u64 l1, .int .u64 l2, .int .u64 l3]) ∧ Below W.heap.size W w'
  lea : ∀ W, Below w.heap.size w W → Calls Tryz.prog 13 #[ndV x B cap, .int .i64 9] W fun e w' => ∃ A k, e = .returned (.tuple #[.slice A 1 k, .bool true]) ∧ BytesAt w' w'.heap.size A [97] ∧ Below W.heap.size W w'
  ofa : ∀ (W : World) (g : Nat), g = W.heap.size → Calls Tryz.prog 60 #[.slice (some ⟨g, 0, none⟩) 2 2] (W.alloc (.cells #[.int .u8 97, .int .u8 98] 5)) fun e w' => e = .returned (.agg #[.int .u64 f0, .int .u64 f1, .int .u64 f2, .int .u64 f3]) ∧ Below W.heap.size W w'
  ofl : ∀ (W : World) (g : Nat), g = W.heap.size → Calls Tryz.prog 60 #[.slice (some ⟨g, 0, none⟩) 2 2] (W.alloc (.cells #[.int .u8 97, .int .u8 99] 5)) fun e w' => e = .returned (.agg #[.int .u64 l0, .int .u64 l1, .int .u64 l2, .int .u64 l3]) ∧ Below W.heap.size W w'
theorem of_pair (a b : Nat) (ha : a < 256) (hb : b < 256) (W : World) (g : Nat) (hg : g = W.heap.size) :
    Calls Tryz.prog 60 #[.slice (some ⟨g, 0, none⟩) 2 2] (W.alloc (.cells #[.int .u8 (a : Int), .int .u8 (b : Int)] 5)) fun e w' => e = .returned (.agg #[.int .u64 ((word (among [a, b] 2) 0 : Nat) : Int), .int .u64 ((word (among [a, b] 2) 1 : Nat) : Int), .int .u64 ((word (among [a, b] 2) 2 : Nat) : Int), .int .u64 ((word (among [a, b] 2) 3 : Nat) : Int)]) ∧ Below W.heap.size W w' :=
  (of_any (some ⟨g, 0, none⟩) [a, b] 2 (W.alloc (.cells #[.int .u8 (a : Int), .int .u8 (b : Int)] 5)) (bytes_new W g [a, b] _ _ hg rfl (by simp; omega) (by simp))).mono fun e w' ⟨he, hb⟩ => ⟨he, ((Below.refl _ _).alloc (Nat.le_refl _) _).trans (hb.mono (by simp))⟩
theorem ans10 (B : Option Addr) (cap : Nat) (w : World) (ht : TreesAt w (fun b => b < w.heap.size) kt10.kids B) (hT : TabAt 1 Lib.deBruijn64tab w) (hw0 : 1 < w.heap.size) :
    ∃ f0 f1 f2 f3 l0 l1 l2 l3, Ans10 kt10 B cap w f0 f1 f2 f3 l0 l1 l2 l3 := by
  have hF : ∀ W, Below w.heap.size w W → TreesAt W (fun b => b < W.heap.size) kt10.kids B := fun W hb => (ht.below hb).weak (fun b _ h => h)
  have hs : kt10.size ≤ 140737488355328 := by decide
  obtain ⟨s1, s2, s3⟩ := sum10
  obtain ⟨e1, e2⟩ := edge10
  refine ⟨_, _, _, _, _, _, _, _, fun W hW => ?_, fun W hW => ?_, fun W hW => ?_, fun W hW => ?_, fun W hW => ?_, fun W hW => Least10_go B cap W (hF W hW) (TabAt.below hW hw0 hT) (Nat.lt_of_lt_of_le hw0 hW.size), fun W g hg => of_pair 97 98 (by decide) (by decide) W g hg, fun W g hg => of_pair 97 99 (by decide) (by decide) W g hg⟩
  · have h := fnullable_go kt10 B cap W hs (hF W hW)
    rw [known10, right10, show kt10.sum.null = false by unfold SumS.null; rw [s1, s2]; rfl] at h
    exact h
  · have h := fshortest_go kt10 B cap W hs (hF W hW)
    rw [known10, s2] at h
    exact h
  · have h := fbounded_go kt10 B cap W hs (hF W hW)
    rw [known10, right10, s3] at h
    exact h
  · have h := ffirst_go kt10 B cap W hs (hF W hW)
    rw [known10, e1 0 (by decide), e1 1 (by decide), e1 2 (by decide), e1 3 (by decide)] at h
    exact h
  · have h := flast_go kt10 B cap W hs (hF W hW)
    rw [known10, e2 0 (by decide), e2 1 (by decide), e2 2 (by decide), e2 3 (by decide)] at h
    exact h
set_option maxHeartbeats 8000000 in
theorem knows10_go (w : World) (hT : TabAt 1 Lib.deBruijn64tab w) (hw0 : 1 < w.heap.size) :
    Calls Tryz.prog 12 #[] w fun e w' => e = .returned (.bool true) ∧ Below w.heap.size w w' := by
  have kc := fun (w : World) (C : Array Value) (n c : Nat) => Lib.run_convert_bytes_const (P := Tryz.prog) w 30 5 C n c Tryz.underlying30 Tryz.underlying5
  have HTB := Lib.hid hT
  clear hT
  go_enter Tryz.func12, Tryz.ntmps12
  go_wp2_with fail
  refine (tree10 _ _ rfl).mono ?_
  rintro e w1 ⟨B, cap, rfl, hb1, hc1, ht1⟩
  have HB1 := Lib.hid (((Below.refl w.heap.size w).alloc (Nat.le_refl _) (.cells #[.int .u8 40, .int .u8 97, .int .u8 124, .int .u8 98, .int .u8 99, .int .u8 41, .int .u8 43] 5 (7, 8))).trans (hb1.mono (by simp)))
  have hb2 : Below w1.heap.size w1 ((w1.alloc (.cells (ndA kt10 B cap) 28)).alloc (.cells #[.int .i64 0, .int .i64 0] 75)) := ((Below.refl _ _).alloc (Nat.le_refl _) _).alloc (by simp) _
  have HB2 := Lib.hid (HB1.out.trans (hb2.mono HB1.out.size))
  have HN := Lib.hid ((Blk.new w1 28 (ndA kt10 B cap)).alloc (.cells #[.int .i64 0, .int .i64 0] 75))
  have ht2 := (ht1.below hb2).weak (Q := fun b => b < ((w1.alloc (.cells (ndA kt10 B cap) 28)).alloc (.cells #[.int .i64 0, .int .i64 0] 75)).heap.size) (fun b _ h => h)
  obtain ⟨f0, f1, f2, f3, l0, l1, l2, l3, hans⟩ := ans10 B cap _ ht2 (TabAt.below HB2.out hw0 HTB.out) (Nat.lt_of_lt_of_le hw0 HB2.out.size)
  have HA := Lib.hid hans
  clear hb1 hb2 hc1 ht1 ht2 hans HB1
  unfold ndV
  unfold ndA at *
  dsimp only
  go_upto_region 2 with fail
  generalize kt10 = x at *
  generalize ((w1.alloc (.cells #[.int .i64 x.kind, .int .u64 ((word (x.set.testBit) 0 : Nat) : Int), .int .u64 ((word (x.set.testBit) 1 : Nat) : Int), .int .u64 ((word (x.set.testBit) 2 : Nat) : Int), .int .u64 ((word (x.set.testBit) 3 : Nat) : Int), .slice B x.kids.len cap, .int .i64 x.lo, .int .i64 x.hi] 28)).alloc (.cells #[.int .i64 0, .int .i64 0] 75)) = w2 at *
  have HW2 := Lib.hid (Below.refl w2.heap.size w2)
  have HC := Lib.hid (HA.out.lea w2 HW2.out)
  unfold ndV at HC
  have n0 := (HN.out).cell 0
  have n1 := (HN.out).cell 1
  have n2 := (HN.out).cell 2
  have n3 := (HN.out).cell 3
  have n4 := (HN.out).cell 4
  have n5 := (HN.out).cell 5
  have n6 := (HN.out).cell 6
  have n7 := (HN.out).cell 7
  have hln := (HN.out).lt
  simp only [List.getElem?_toArray, List.getElem?_cons_zero, List.getElem?_cons_succ] at n0 n1 n2 n3 n4 n5 n6 n7
  go_wp2_with fail
  refine HC.out.mono ?_
  rintro e w3 ⟨A3, k3, rfl, hA3, hb3⟩
  have HA3 := Lib.hid hA3
  have HW3 := Lib.hid hb3
  have HX3 := Lib.hid (Below.refl w3.heap.size w3)
  clear hb3 hA3 HC
  clear n0 n1 n2 n3 n4 n5 n6 n7 hln
  dsimp only
  have HC := Lib.hid (HA.out.nul w3 HW3.out)
  unfold ndV at HC
  have HN3 := Lib.hid (HN.out.below HW3.out HN.out.lt)
  have n0 := (HN3.out).cell 0
  have n1 := (HN3.out).cell 1
  have n2 := (HN3.out).cell 2
  have n3 := (HN3.out).cell 3
  have n4 := (HN3.out).cell 4
  have n5 := (HN3.out).cell 5
  have n6 := (HN3.out).cell 6
  have n7 := (HN3.out).cell 7
  have hln := (HN3.out).lt
  simp only [List.getElem?_toArray, List.getElem?_cons_zero, List.getElem?_cons_succ] at n0 n1 n2 n3 n4 n5 n6 n7
  go_wp2_with fail
  refine HC.out.mono ?_
  rintro e w4 ⟨rfl, hb4⟩
  have HW4 := Lib.hid (HW3.out.trans (hb4.mono HW3.out.size))
  have HX4 := Lib.hid (HX3.out.trans (hb4.mono HX3.out.size))
  clear HC hb4
  clear n0 n1 n2 n3 n4 n5 n6 n7 hln
  dsimp only
  have HC := Lib.hid (HA.out.sho w4 HW4.out)
  unfold ndV at HC
  have HN4 := Lib.hid (HN.out.below HW4.out HN.out.lt)
  have n0 := (HN4.out).cell 0
  have n1 := (HN4.out).cell 1
  have n2 := (HN4.out).cell 2
  have n3 := (HN4.out).cell 3
  have n4 := (HN4.out).cell 4
  have n5 := (HN4.out).cell 5
  have n6 := (HN4.out).cell 6
  have n7 := (HN4.out).cell 7
  have hln := (HN4.out).lt
  simp only [List.getElem?_toArray, List.getElem?_cons_zero, List.getElem?_cons_succ] at n0 n1 n2 n3 n4 n5 n6 n7
  go_wp2_with fail
  refine HC.out.mono ?_
  rintro e w5 ⟨rfl, hb5⟩
  have HW5 := Lib.hid (HW4.out.trans (hb5.mono HW4.out.size))
  have HX5 := Lib.hid (HX4.out.trans (hb5.mono HX4.out.size))
  clear HC hb5
  clear n0 n1 n2 n3 n4 n5 n6 n7 hln
  dsimp only
  have HC := Lib.hid (HA.out.bou w5 HW5.out)
  unfold ndV at HC
  have HN5 := Lib.hid (HN.out.below HW5.out HN.out.lt)
  have n0 := (HN5.out).cell 0
  have n1 := (HN5.out).cell 1
  have n2 := (HN5.out).cell 2
  have n3 := (HN5.out).cell 3
  have n4 := (HN5.out).cell 4
  have n5 := (HN5.out).cell 5
  have n6 := (HN5.out).cell 6
  have n7 := (HN5.out).cell 7
  have hln := (HN5.out).lt
  simp only [List.getElem?_toArray, List.getElem?_cons_zero, List.getElem?_cons_succ] at n0 n1 n2 n3 n4 n5 n6 n7
  go_wp2_with fail
  refine HC.out.mono ?_
  rintro e w6 ⟨rfl, hb6⟩
  have HW6 := Lib.hid (HW5.out.trans (hb6.mono HW5.out.size))
  have HX6 := Lib.hid (HX5.out.trans (hb6.mono HX5.out.size))
  clear HC hb6
  clear n0 n1 n2 n3 n4 n5 n6 n7 hln
  dsimp only
  have HC := Lib.hid (HA.out.fir w6 HW6.out)
  unfold ndV at HC
  have HN6 := Lib.hid (HN.out.below HW6.out HN.out.lt)
  have n0 := (HN6.out).cell 0
  have n1 := (HN6.out).cell 1
  have n2 := (HN6.out).cell 2
  have n3 := (HN6.out).cell 3
  have n4 := (HN6.out).cell 4
  have n5 := (HN6.out).cell 5
  have n6 := (HN6.out).cell 6
  have n7 := (HN6.out).cell 7
  have hln := (HN6.out).lt
  simp only [List.getElem?_toArray, List.getElem?_cons_zero, List.getElem?_cons_succ] at n0 n1 n2 n3 n4 n5 n6 n7
  go_wp2_with fail
  refine HC.out.mono ?_
  rintro e w7 ⟨rfl, hb7⟩
  have HW7 := Lib.hid (HW6.out.trans (hb7.mono HW6.out.size))
  have HX7 := Lib.hid (HX6.out.trans (hb7.mono HX6.out.size))
  clear HC hb7
  clear n0 n1 n2 n3 n4 n5 n6 n7 hln
  dsimp only
  go_wp2_with fail
  refine (HA.out.ofa w7 _ rfl).mono ?_
  rintro e w8 ⟨rfl, hb8⟩
  have HW8 := Lib.hid (HW7.out.trans (hb8.mono HW7.out.size))
  have HX8 := Lib.hid (HX7.out.trans (hb8.mono HX7.out.size))
  clear hb8
  dsimp only
  have HC := Lib.hid (HA.out.las w8 HW8.out)
  unfold ndV at HC
  have HN8 := Lib.hid (HN.out.below HW8.out HN.out.lt)
  have n0 := (HN8.out).cell 0
  have n1 := (HN8.out).cell 1
  have n2 := (HN8.out).cell 2
  have n3 := (HN8.out).cell 3
  have n4 := (HN8.out).cell 4
  have n5 := (HN8.out).cell 5
  have n6 := (HN8.out).cell 6
  have n7 := (HN8.out).cell 7
  have hln := (HN8.out).lt
  simp only [List.getElem?_toArray, List.getElem?_cons_zero, List.getElem?_cons_succ] at n0 n1 n2 n3 n4 n5 n6 n7
  go_wp2_with fail
  refine HC.out.mono ?_
  rintro e w9 ⟨rfl, hb9⟩
  have HW9 := Lib.hid (HW8.out.trans (hb9.mono HW8.out.size))
  have HX9 := Lib.hid (HX8.out.trans (hb9.mono HX8.out.size))
  clear HC hb9
  clear n0 n1 n2 n3 n4 n5 n6 n7 hln
  dsimp only
  go_wp2_with fail
  refine (HA.out.ofl w9 _ rfl).mono ?_
  rintro e w10 ⟨rfl, hb10⟩
  have HW10 := Lib.hid (HW9.out.trans (hb10.mono HW9.out.size))
  have HX10 := Lib.hid (HX9.out.trans (hb10.mono HX9.out.size))
  clear hb10
  dsimp only
  have hcv := bytes_strM k3 ((HA3.out.below HX10.out).more HX10.out.size)
  rw [show ([97] : List Nat).length = 1 from rfl] at hcv
  go_wp2
  go_light
  go_ret
  refine ⟨?_, HB2.out.trans (HW10.out.mono HB2.out.size)⟩
  go_light
  simp
  decide +kernel
end Go.Proofs.YtfekpkelmliejaaGreatDoor
