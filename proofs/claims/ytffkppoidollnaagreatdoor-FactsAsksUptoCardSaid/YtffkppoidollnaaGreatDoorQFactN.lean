/-
  FactsAsks: the walk.
-/
import Derived.Deep.RegionHeldLaw
import Derived.Test.YtffkppoidollnaaGreatDoorQFactM
import Derived.Test.YtffkppoidollnaaGreatDoorQZ02
namespace Go.Proofs.YtffkppoidollnaaGreatDoor
open Go.RowKit
set_option linter.unusedSimpArgs false
set_option linter.unusedVariables false
set_option maxRecDepth 100000

theorem null_same {s : SumS} (o : SumOk s) : s.null = (s.short == 0) := by
  unfold SumS.null
  cases h : s.hollow with
  | true => rw [o.none h]; rfl
  | false => by_cases hz : s.short = 0 <;> simp [hz]
theorem bound_same {s : SumS} (o : SumOk s) : (s.long != endF) = (lonF s != -2) := by
  rcases lonF_cases o with ⟨h, h2⟩ | ⟨h, h2, h3⟩ | ⟨h, h2, h3, h4, _⟩
  · rw [h2, o.none h]; rfl
  · rw [h3, h2]; rfl
  · rw [h3, show (s.long != endF) = true from by simpa using h2, show (s.long != -2) = true from by simp; omega]
/-- What is asked of a tree that may not be, and answered. -/
structure NoC (x : Nd) (B : Option Addr) (cap : Nat) (w : World) : Prop where
  rig : ∀ W, Below w.heap.size w W → Calls Tryz.prog 14 #[ndV x B cap] W fun e w' => e = .returned (.bool false) ∧ Below W.heap.size W w'
  hol : ∀ W, Below w.heap.size w W → Calls Tryz.prog 15 #[ndV x B cap] W fun e w' => e = .returned (.bool false) ∧ Below W.heap.size W w'
  nul : ∀ W, Below w.heap.size w W → Calls Tryz.prog 16 #[ndV x B cap] W fun e w' => e = .returned (.bool false) ∧ Below W.heap.size W w'
  bou : ∀ W, Below w.heap.size w W → Calls Tryz.prog 17 #[ndV x B cap] W fun e w' => e = .returned (.bool false) ∧ Below W.heap.size W w'
  sho : ∀ W, Below w.heap.size w W → Calls Tryz.prog 18 #[ndV x B cap] W fun e w' => e = .returned (.int .i64 (-1)) ∧ Below W.heap.size W w'
  lon : ∀ W, Below w.heap.size w W → Calls Tryz.prog 19 #[ndV x B cap] W fun e w' => e = .returned (.int .i64 (-1)) ∧ Below W.heap.size W w'
  fir : ∀ W, Below w.heap.size w W → Calls Tryz.prog 20 #[ndV x B cap] W fun e w' => e = .returned (.agg #[.int .u64 0, .int .u64 0, .int .u64 0, .int .u64 0]) ∧ Below W.heap.size W w'
  las : ∀ W, Below w.heap.size w W → Calls Tryz.prog 21 #[ndV x B cap] W fun e w' => e = .returned (.agg #[.int .u64 0, .int .u64 0, .int .u64 0, .int .u64 0]) ∧ Below W.heap.size W w'
  kno : ∀ W, Below w.heap.size w W → Calls Tryz.prog 22 #[] W fun e w' => e = .returned (.bool true) ∧ Below W.heap.size W w'
/-- What is asked of a tree that may be. -/
structure YesC (x : Nd) (B : Option Addr) (cap : Nat) (w : World) (h n b : Bool) : Prop where
  rig : ∀ W, Below w.heap.size w W → Calls Tryz.prog 14 #[ndV x B cap] W fun e w' => e = .returned (.bool true) ∧ Below W.heap.size W w'
  hol : ∀ W, Below w.heap.size w W → Calls Tryz.prog 15 #[ndV x B cap] W fun e w' => e = .returned (.bool h) ∧ Below W.heap.size W w'
  rho : ∀ W, Below w.heap.size w W → Calls Tryz.prog 23 #[ndV x B cap] W fun e w' => e = .returned (.bool h) ∧ Below W.heap.size W w'
  nul : ∀ W, Below w.heap.size w W → Calls Tryz.prog 16 #[ndV x B cap] W fun e w' => e = .returned (.bool n) ∧ Below W.heap.size W w'
  rnu : ∀ W, Below w.heap.size w W → Calls Tryz.prog 24 #[ndV x B cap] W fun e w' => e = .returned (.bool n) ∧ Below W.heap.size W w'
  bou : ∀ W, Below w.heap.size w W → Calls Tryz.prog 17 #[ndV x B cap] W fun e w' => e = .returned (.bool b) ∧ Below W.heap.size W w'
  rbo : ∀ W, Below w.heap.size w W → Calls Tryz.prog 25 #[ndV x B cap] W fun e w' => e = .returned (.bool b) ∧ Below W.heap.size W w'
  kno : ∀ W, Below w.heap.size w W → Calls Tryz.prog 22 #[] W fun e w' => e = .returned (.bool true) ∧ Below W.heap.size W w'
theorem no_c (x : Nd) (B : Option Addr) (cap : Nat) (w : World) (hs : x.size ≤ 140737488355328) (ht : TreesAt w (fun b => b < w.heap.size) x.kids B) (hT : TabAt 1 Lib.deBruijn64tab w) (hw0 : 1 < w.heap.size) (hr : rightT x = false) : NoC x B cap w := by
  have hF : ∀ W, Below w.heap.size w W → TreesAt W (fun b => b < W.heap.size) x.kids B := fun W hb => (ht.below hb).weak (fun b _ h => h)
  have hk : knownF x = offF := by unfold knownF; rw [hr]; rfl
  refine ⟨fun W hW => ?_, fun W hW => ?_, fun W hW => ?_, fun W hW => ?_, fun W hW => ?_, fun W hW => ?_, fun W hW => ?_, fun W hW => ?_, fun W hW => knows10_go W (TabAt.below hW hw0 hT) (Nat.lt_of_lt_of_le hw0 hW.size)⟩
  · have h := rright_any x _ B cap W hs (hF W hW)
    rw [hr] at h
    exact h
  · have h := fhollow_go x B cap W hs (hF W hW)
    rw [hr, Bool.false_and] at h
    exact h
  · have h := fnullable_go x B cap W hs (hF W hW)
    rw [hr, Bool.false_and] at h
    exact h
  · have h := fbounded_go x B cap W hs (hF W hW)
    rw [hr, Bool.false_and] at h
    exact h
  · have h := fshortest_go x B cap W hs (hF W hW)
    rw [hk] at h
    exact h
  · have h := flongest_go x B cap W hs (hF W hW)
    rw [show longestF x = -1 by unfold longestF; rw [hk]; rfl] at h
    exact h
  · have h := ffirst_go x B cap W hs (hF W hW)
    rw [hk, show offF.first = noB from rfl, noB_word 0 (by decide), noB_word 1 (by decide), noB_word 2 (by decide), noB_word 3 (by decide)] at h
    exact h
  · have h := flast_go x B cap W hs (hF W hW)
    rw [hk, show offF.last = noB from rfl, noB_word 0 (by decide), noB_word 1 (by decide), noB_word 2 (by decide), noB_word 3 (by decide)] at h
    exact h
theorem yes_c (x : Nd) (B : Option Addr) (cap : Nat) (w : World) (hs : x.size ≤ 140737488355328) (ht : TreesAt w (fun b => b < w.heap.size) x.kids B) (hT : TabAt 1 Lib.deBruijn64tab w) (hw0 : 1 < w.heap.size) (hr : rightT x = true) : ∃ h n b, YesC x B cap w h n b := by
  have hF : ∀ W, Below w.heap.size w W → TreesAt W (fun b => b < W.heap.size) x.kids B := fun W hb => (ht.below hb).weak (fun b _ h => h)
  have ho := rightT_nodes hr
  have hk : knownF x = x.sum := by unfold knownF; rw [hr]; rfl
  have hok := ok_sum ho
  refine ⟨_, _, _, fun W hW => ?_, fun W hW => ?_, fun W hW => rhollow_go x _ B cap W hs ho (hF W hW), fun W hW => ?_, fun W hW => rnull_go x B cap W hs ho (hF W hW), fun W hW => ?_, fun W hW => rbounded_go x B cap W hs ho (hF W hW), fun W hW => knows10_go W (TabAt.below hW hw0 hT) (Nat.lt_of_lt_of_le hw0 hW.size)⟩
  · have h := rright_any x _ B cap W hs (hF W hW)
    rw [hr] at h
    exact h
  · have h := fhollow_go x B cap W hs (hF W hW)
    rw [hr, hk, Bool.true_and] at h
    exact h
  · have h := fnullable_go x B cap W hs (hF W hW)
    rw [hr, hk, Bool.true_and, null_same hok] at h
    exact h
  · have h := fbounded_go x B cap W hs (hF W hW)
    rw [hr, hk, Bool.true_and, bound_same hok] at h
    exact h
set_option maxHeartbeats 8000000 in
theorem asks_go (x : Nd) (B : Option Addr) (cap : Nat) (w : World) (hs : x.size ≤ 140737488355328) (ht : TreesAt w (fun b => b < w.heap.size) x.kids B) (hT : TabAt 1 Lib.deBruijn64tab w) (hw0 : 1 < w.heap.size) :
    Calls Tryz.prog 4 #[ndV x B cap] w fun e w' => e = .returned (.bool true) ∧ Below w.heap.size w w' := by
  have hb1 : Below w.heap.size w (w.alloc (.cells #[.int .i64 x.kind, .int .u64 ((word (x.set.testBit) 0 : Nat) : Int), .int .u64 ((word (x.set.testBit) 1 : Nat) : Int), .int .u64 ((word (x.set.testBit) 2 : Nat) : Int), .int .u64 ((word (x.set.testBit) 3 : Nat) : Int), .slice B x.kids.len cap, .int .i64 x.lo, .int .i64 x.hi] 39)) := (Below.refl _ _).alloc (Nat.le_refl _) _
  have HB1 := Lib.hid hb1
  have HN := Lib.hid (Blk.new w 39 #[.int .i64 x.kind, .int .u64 ((word (x.set.testBit) 0 : Nat) : Int), .int .u64 ((word (x.set.testBit) 1 : Nat) : Int), .int .u64 ((word (x.set.testBit) 2 : Nat) : Int), .int .u64 ((word (x.set.testBit) 3 : Nat) : Int), .slice B x.kids.len cap, .int .i64 x.lo, .int .i64 x.hi])
  have ht2 := (ht.below hb1).weak (Q := fun b => b < (w.alloc (.cells #[.int .i64 x.kind, .int .u64 ((word (x.set.testBit) 0 : Nat) : Int), .int .u64 ((word (x.set.testBit) 1 : Nat) : Int), .int .u64 ((word (x.set.testBit) 2 : Nat) : Int), .int .u64 ((word (x.set.testBit) 3 : Nat) : Int), .slice B x.kids.len cap, .int .i64 x.lo, .int .i64 x.hi] 39)).heap.size) (fun b _ h => h)
  have HNo := Lib.hid (no_c x B cap _ hs ht2 (TabAt.below hb1 hw0 hT) (Nat.lt_of_lt_of_le hw0 hb1.size))
  have HYes := Lib.hid (yes_c x B cap _ hs ht2 (TabAt.below hb1 hw0 hT) (Nat.lt_of_lt_of_le hw0 hb1.size))
  clear hb1 ht2 ht hs hT hw0
  cases hr : rightT x with
  | false =>
    have HA := Lib.hid (HNo.out hr)
    clear hr HNo HYes
    unfold ndV
    go_enter Tryz.func4, Tryz.ntmps4
    have HC := Lib.hid (HA.out.rig _ (Below.refl _ _))
    unfold ndV at HC
    go_wp2_with fail
    refine HC.out.mono ?_
    rintro e w3 ⟨rfl, hb3⟩
    clear HC
    generalize (w.alloc (.cells #[.int .i64 x.kind, .int .u64 ((word (x.set.testBit) 0 : Nat) : Int), .int .u64 ((word (x.set.testBit) 1 : Nat) : Int), .int .u64 ((word (x.set.testBit) 2 : Nat) : Int), .int .u64 ((word (x.set.testBit) 3 : Nat) : Int), .slice B x.kids.len cap, .int .i64 x.lo, .int .i64 x.hi] 39)) = w2 at *
    have HW3 := Lib.hid hb3
    clear hb3
    dsimp only
    have HC := Lib.hid (HA.out.hol w3 HW3.out)
    unfold ndV at HC
    have HN3 := Lib.hid (HN.out.below HW3.out HN.out.lt)
    have n0 := (HN3.out).cell 0
    have n1 := (HN3.out).cell 1
    have n2 := (HN3.out).cell 2
    have n3 := (HN3.out).cell 3
    have n4 := (HN3.out).cell 4
    have n5 := (HN3.out).cell 5
    have n6 := (HN3.out).cell 6
    have n7 := (HN3.out).cell 7
    have hln := (HN3.out).lt
    simp only [List.getElem?_toArray, List.getElem?_cons_zero, List.getElem?_cons_succ] at n0 n1 n2 n3 n4 n5 n6 n7

    go_wp2_with fail
    refine HC.out.mono ?_
    rintro e w4 ⟨rfl, hb4⟩
    have HW4 := Lib.hid (HW3.out.trans (hb4.mono HW3.out.size))
    clear HC hb4
    clear n0 n1 n2 n3 n4 n5 n6 n7 hln
    dsimp only
    have HC := Lib.hid (HA.out.nul w4 HW4.out)
    unfold ndV at HC
    have HN4 := Lib.hid (HN.out.below HW4.out HN.out.lt)
    have n0 := (HN4.out).cell 0
    have n1 := (HN4.out).cell 1
    have n2 := (HN4.out).cell 2
    have n3 := (HN4.out).cell 3
    have n4 := (HN4.out).cell 4
    have n5 := (HN4.out).cell 5
    have n6 := (HN4.out).cell 6
    have n7 := (HN4.out).cell 7
    have hln := (HN4.out).lt
    simp only [List.getElem?_toArray, List.getElem?_cons_zero, List.getElem?_cons_succ] at n0 n1 n2 n3 n4 n5 n6 n7

    go_wp2_with fail
    refine HC.out.mono ?_
    rintro e w5 ⟨rfl, hb5⟩
    have HW5 := Lib.hid (HW4.out.trans (hb5.mono HW4.out.size))
    clear HC hb5
    clear n0 n1 n2 n3 n4 n5 n6 n7 hln
    dsimp only
    have HC := Lib.hid (HA.out.bou w5 HW5.out)
    unfold ndV at HC
    have HN5 := Lib.hid (HN.out.below HW5.out HN.out.lt)
    have n0 := (HN5.out).cell 0
    have n1 := (HN5.out).cell 1
    have n2 := (HN5.out).cell 2
    have n3 := (HN5.out).cell 3
    have n4 := (HN5.out).cell 4
    have n5 := (HN5.out).cell 5
    have n6 := (HN5.out).cell 6
    have n7 := (HN5.out).cell 7
    have hln := (HN5.out).lt
    simp only [List.getElem?_toArray, List.getElem?_cons_zero, List.getElem?_cons_succ] at n0 n1 n2 n3 n4 n5 n6 n7

    go_wp2_with fail
    refine HC.out.mono ?_
    rintro e w6 ⟨rfl, hb6⟩
    have HW6 := Lib.hid (HW5.out.trans (hb6.mono HW5.out.size))
    clear HC hb6
    clear n0 n1 n2 n3 n4 n5 n6 n7 hln
    dsimp only
    have HC := Lib.hid (HA.out.sho w6 HW6.out)
    unfold ndV at HC
    have HN6 := Lib.hid (HN.out.below HW6.out HN.out.lt)
    have n0 := (HN6.out).cell 0
    have n1 := (HN6.out).cell 1
    have n2 := (HN6.out).cell 2
    have n3 := (HN6.out).cell 3
    have n4 := (HN6.out).cell 4
    have n5 := (HN6.out).cell 5
    have n6 := (HN6.out).cell 6
    have n7 := (HN6.out).cell 7
    have hln := (HN6.out).lt
    simp only [List.getElem?_toArray, List.getElem?_cons_zero, List.getElem?_cons_succ] at n0 n1 n2 n3 n4 n5 n6 n7

    go_wp2_with fail
    refine HC.out.mono ?_
    rintro e w7 ⟨rfl, hb7⟩
    have HW7 := Lib.hid (HW6.out.trans (hb7.mono HW6.out.size))
    clear HC hb7
    clear n0 n1 n2 n3 n4 n5 n6 n7 hln
    dsimp only
    have HC := Lib.hid (HA.out.lon w7 HW7.out)
    unfold ndV at HC
    have HN7 := Lib.hid (HN.out.below HW7.out HN.out.lt)
    have n0 := (HN7.out).cell 0
    have n1 := (HN7.out).cell 1
    have n2 := (HN7.out).cell 2
    have n3 := (HN7.out).cell 3
    have n4 := (HN7.out).cell 4
    have n5 := (HN7.out).cell 5
    have n6 := (HN7.out).cell 6
    have n7 := (HN7.out).cell 7
    have hln := (HN7.out).lt
    simp only [List.getElem?_toArray, List.getElem?_cons_zero, List.getElem?_cons_succ] at n0 n1 n2 n3 n4 n5 n6 n7

    go_wp2_with fail
    refine HC.out.mono ?_
    rintro e w8 ⟨rfl, hb8⟩
    have HW8 := Lib.hid (HW7.out.trans (hb8.mono HW7.out.size))
    clear HC hb8
    clear n0 n1 n2 n3 n4 n5 n6 n7 hln
    dsimp only
    have HC := Lib.hid (HA.out.fir w8 HW8.out)
    unfold ndV at HC
    have HN8 := Lib.hid (HN.out.below HW8.out HN.out.lt)
    have n0 := (HN8.out).cell 0
    have n1 := (HN8.out).cell 1
    have n2 := (HN8.out).cell 2
    have n3 := (HN8.out).cell 3
    have n4 := (HN8.out).cell 4
    have n5 := (HN8.out).cell 5
    have n6 := (HN8.out).cell 6
    have n7 := (HN8.out).cell 7
    have hln := (HN8.out).lt
    simp only [List.getElem?_toArray, List.getElem?_cons_zero, List.getElem?_cons_succ] at n0 n1 n2 n3 n4 n5 n6 n7

    go_wp2_with fail
    refine HC.out.mono ?_
    rintro e w9 ⟨rfl, hb9⟩
    have HW9 := Lib.hid (HW8.out.trans (hb9.mono HW8.out.size))
    clear HC hb9
    clear n0 n1 n2 n3 n4 n5 n6 n7 hln
    dsimp only
    have HC := Lib.hid (HA.out.las w9 HW9.out)
    unfold ndV at HC
    have HN9 := Lib.hid (HN.out.below HW9.out HN.out.lt)
    have n0 := (HN9.out).cell 0
    have n1 := (HN9.out).cell 1
    have n2 := (HN9.out).cell 2
    have n3 := (HN9.out).cell 3
    have n4 := (HN9.out).cell 4
    have n5 := (HN9.out).cell 5
    have n6 := (HN9.out).cell 6
    have n7 := (HN9.out).cell 7
    have hln := (HN9.out).lt
    simp only [List.getElem?_toArray, List.getElem?_cons_zero, List.getElem?_cons_succ] at n0 n1 n2 n3 n4 n5 n6 n7

    go_wp2_with fail
    refine HC.out.mono ?_
    rintro e w10 ⟨rfl, hb10⟩
    have HW10 := Lib.hid (HW9.out.trans (hb10.mono HW9.out.size))
    clear HC hb10
    clear n0 n1 n2 n3 n4 n5 n6 n7 hln
    dsimp only
    have HC := Lib.hid (HA.out.kno w10 HW10.out)
    skip
    have HN10 := Lib.hid (HN.out.below HW10.out HN.out.lt)
    have n0 := (HN10.out).cell 0
    have n1 := (HN10.out).cell 1
    have n2 := (HN10.out).cell 2
    have n3 := (HN10.out).cell 3
    have n4 := (HN10.out).cell 4
    have n5 := (HN10.out).cell 5
    have n6 := (HN10.out).cell 6
    have n7 := (HN10.out).cell 7
    have hln := (HN10.out).lt
    simp only [List.getElem?_toArray, List.getElem?_cons_zero, List.getElem?_cons_succ] at n0 n1 n2 n3 n4 n5 n6 n7

    go_wp2_with fail
    refine HC.out.mono ?_
    rintro e w11 ⟨rfl, hb11⟩
    have HW11 := Lib.hid (HW10.out.trans (hb11.mono HW10.out.size))
    clear HC hb11
    clear n0 n1 n2 n3 n4 n5 n6 n7 hln
    dsimp only
    go_wp2
    go_light
    go_ret
    refine ⟨?_, HB1.out.trans (HW11.out.mono HB1.out.size)⟩
    simp
  | true =>
    obtain ⟨h, n, b, hA⟩ := HYes.out hr
    have HA := Lib.hid hA
    clear hr HNo HYes hA
    unfold ndV
    go_enter Tryz.func4, Tryz.ntmps4
    have HC := Lib.hid (HA.out.rig _ (Below.refl _ _))
    unfold ndV at HC
    go_wp2_with fail
    refine HC.out.mono ?_
    rintro e w3 ⟨rfl, hb3⟩
    clear HC
    generalize (w.alloc (.cells #[.int .i64 x.kind, .int .u64 ((word (x.set.testBit) 0 : Nat) : Int), .int .u64 ((word (x.set.testBit) 1 : Nat) : Int), .int .u64 ((word (x.set.testBit) 2 : Nat) : Int), .int .u64 ((word (x.set.testBit) 3 : Nat) : Int), .slice B x.kids.len cap, .int .i64 x.lo, .int .i64 x.hi] 39)) = w2 at *
    have HW3 := Lib.hid hb3
    clear hb3
    dsimp only
    have HN3 := Lib.hid (HN.out.below HW3.out HN.out.lt)
    have n0 := (HN3.out).cell 0
    have n1 := (HN3.out).cell 1
    have n2 := (HN3.out).cell 2
    have n3 := (HN3.out).cell 3
    have n4 := (HN3.out).cell 4
    have n5 := (HN3.out).cell 5
    have n6 := (HN3.out).cell 6
    have n7 := (HN3.out).cell 7
    have hln := (HN3.out).lt
    simp only [List.getElem?_toArray, List.getElem?_cons_zero, List.getElem?_cons_succ] at n0 n1 n2 n3 n4 n5 n6 n7
    have Hhol := Lib.hid (fun (w' : World) (h : (∀ b o, b < w3.heap.size → w'.cell? ⟨b, o, none⟩ = w3.cell? ⟨b, o, none⟩) ∧ Since w3.heap.size w3 w') => HA.out.hol w' (HW3.out.trans (h.2.1.mono HW3.out.size)))
    have Hrho := Lib.hid (fun (w' : World) (h : (∀ b o, b < w3.heap.size → w'.cell? ⟨b, o, none⟩ = w3.cell? ⟨b, o, none⟩) ∧ Since w3.heap.size w3 w') => HA.out.rho w' (HW3.out.trans (h.2.1.mono HW3.out.size)))
    have Hnul := Lib.hid (fun (w' : World) (h : (∀ b o, b < w3.heap.size → w'.cell? ⟨b, o, none⟩ = w3.cell? ⟨b, o, none⟩) ∧ Since w3.heap.size w3 w') => HA.out.nul w' (HW3.out.trans (h.2.1.mono HW3.out.size)))
    have Hrnu := Lib.hid (fun (w' : World) (h : (∀ b o, b < w3.heap.size → w'.cell? ⟨b, o, none⟩ = w3.cell? ⟨b, o, none⟩) ∧ Since w3.heap.size w3 w') => HA.out.rnu w' (HW3.out.trans (h.2.1.mono HW3.out.size)))
    have Hbou := Lib.hid (fun (w' : World) (h : (∀ b o, b < w3.heap.size → w'.cell? ⟨b, o, none⟩ = w3.cell? ⟨b, o, none⟩) ∧ Since w3.heap.size w3 w') => HA.out.bou w' (HW3.out.trans (h.2.1.mono HW3.out.size)))
    have Hrbo := Lib.hid (fun (w' : World) (h : (∀ b o, b < w3.heap.size → w'.cell? ⟨b, o, none⟩ = w3.cell? ⟨b, o, none⟩) ∧ Since w3.heap.size w3 w') => HA.out.rbo w' (HW3.out.trans (h.2.1.mono HW3.out.size)))
    have Hkno := Lib.hid (fun (w' : World) (h : (∀ b o, b < w3.heap.size → w'.cell? ⟨b, o, none⟩ = w3.cell? ⟨b, o, none⟩) ∧ Since w3.heap.size w3 w') => HA.out.kno w' (HW3.out.trans (h.2.1.mono HW3.out.size)))
    clear HA HN HN3
    unfold ndV at Hhol Hrho Hnul Hrnu Hbou Hrbo
    go_upto_region 3 with fail
    refine wp_region_noPanic ?_
    go_region_held_law (fun w' => (∀ b o, b < w3.heap.size → w'.cell? ⟨b, o, none⟩ = w3.cell? ⟨b, o, none⟩) ∧ Since w3.heap.size w3 w') (first | exact since_start (Nat.le_refl _) | exact since_step (by assumption) (by assumption))
      (first
        | (go_at_call 15; refine (Hhol.out _ (by assumption)).mono ?_; rintro e w' ⟨rfl, hb'⟩)
        | (go_at_call 23; refine (Hrho.out _ (by assumption)).mono ?_; rintro e w' ⟨rfl, hb'⟩)
        | (go_at_call 16; refine (Hnul.out _ (by assumption)).mono ?_; rintro e w' ⟨rfl, hb'⟩)
        | (go_at_call 24; refine (Hrnu.out _ (by assumption)).mono ?_; rintro e w' ⟨rfl, hb'⟩)
        | (go_at_call 17; refine (Hbou.out _ (by assumption)).mono ?_; rintro e w' ⟨rfl, hb'⟩)
        | (go_at_call 25; refine (Hrbo.out _ (by assumption)).mono ?_; rintro e w' ⟨rfl, hb'⟩)
        | (go_at_call 22; refine (Hkno.out _ (by assumption)).mono ?_; rintro e w' ⟨rfl, hb'⟩))
    all_goals
      refine NoPanic.normal ?_
      rename_i hS9
      have HB9 := Lib.hid (HB1.out.trans ((HW3.out.trans (hS9.2.1.mono HW3.out.size)).mono HB1.out.size))
      clear hS9
      go_wp2
      go_light
      go_ret
      refine ⟨?_, HB9.out⟩
      simp
end Go.Proofs.YtffkppoidollnaaGreatDoor
