/-
  FactsLengths: the walk.
-/
import Derived.Deep.RegionHeldLaw
import Derived.Test.YtfekpkelmliejaaGreatDoorQFactQ
import Derived.Test.YtfekpkelmliejaaGreatDoorQZ02
namespace Go.Proofs.YtfekpkelmliejaaGreatDoor
open Go.RowKit
set_option linter.unusedSimpArgs false
set_option linter.unusedVariables false
set_option maxRecDepth 100000

/-- What is asked of a tree that may not be, and answered. -/
structure NoL (x : Nd) (B : Option Addr) (cap : Nat) (w : World) : Prop where
  rig : ∀ W, Below w.heap.size w W → Calls Tryz.prog 15 #[ndV x B cap] W fun e w' => e = .returned (.bool false) ∧ Below W.heap.size W w'
  kno : ∀ W, Below w.heap.size w W → Calls Tryz.prog 12 #[] W fun e w' => e = .returned (.bool true) ∧ Below W.heap.size W w'
/-- What is asked of a tree that may be. -/
structure YesL (x : Nd) (B : Option Addr) (cap : Nat) (w : World) (s l f0 f1 f2 f3 g0 g1 g2 g3 : Int) : Prop where
  rig : ∀ W, Below w.heap.size w W → Calls Tryz.prog 15 #[ndV x B cap] W fun e w' => e = .returned (.bool true) ∧ Below W.heap.size W w'
  sho : ∀ W, Below w.heap.size w W → Calls Tryz.prog 16 #[ndV x B cap] W fun e w' => e = .returned (.int .i64 s) ∧ Below W.heap.size W w'
  rsh : ∀ W, Below w.heap.size w W → Calls Tryz.prog 17 #[ndV x B cap] W fun e w' => e = .returned (.int .i64 s) ∧ Below W.heap.size W w'
  lon : ∀ W, Below w.heap.size w W → Calls Tryz.prog 18 #[ndV x B cap] W fun e w' => e = .returned (.int .i64 l) ∧ Below W.heap.size W w'
  rlo : ∀ W, Below w.heap.size w W → Calls Tryz.prog 19 #[ndV x B cap] W fun e w' => e = .returned (.int .i64 l) ∧ Below W.heap.size W w'
  fir : ∀ W, Below w.heap.size w W → Calls Tryz.prog 20 #[ndV x B cap] W fun e w' => e = .returned (.agg #[.int .u64 f0, .int .u64 f1, .int .u64 f2, .int .u64 f3]) ∧ Below W.heap.size W w'
  rfi : ∀ W, Below w.heap.size w W → Calls Tryz.prog 21 #[ndV x B cap] W fun e w' => e = .returned (.agg #[.int .u64 f0, .int .u64 f1, .int .u64 f2, .int .u64 f3]) ∧ Below W.heap.size W w'
  las : ∀ W, Below w.heap.size w W → Calls Tryz.prog 22 #[ndV x B cap] W fun e w' => e = .returned (.agg #[.int .u64 g0, .int .u64 g1, .int .u64 g2, .int .u64 g3]) ∧ Below W.heap.size W w'
  rla : ∀ W, Below w.heap.size w W → Calls Tryz.prog 23 #[ndV x B cap] W fun e w' => e = .returned (.agg #[.int .u64 g0, .int .u64 g1, .int .u64 g2, .int .u64 g3]) ∧ Below W.heap.size W w'
  kno : ∀ W, Below w.heap.size w W → Calls Tryz.prog 12 #[] W fun e w' => e = .returned (.bool true) ∧ Below W.heap.size W w'
theorem no_l (x : Nd) (B : Option Addr) (cap : Nat) (w : World) (hs : x.size ≤ 140737488355328) (ht : TreesAt w (fun b => b < w.heap.size) x.kids B) (hT : TabAt 1 Lib.deBruijn64tab w) (hw0 : 1 < w.heap.size) (hr : rightT x = false) : NoL x B cap w := by
  have hF : ∀ W, Below w.heap.size w W → TreesAt W (fun b => b < W.heap.size) x.kids B := fun W hb => (ht.below hb).weak (fun b _ h => h)
  refine ⟨fun W hW => ?_, fun W hW => knows10_go W (TabAt.below hW hw0 hT) (Nat.lt_of_lt_of_le hw0 hW.size)⟩
  have h := rright_any x _ B cap W hs (hF W hW)
  rw [hr] at h
  exact h
theorem yes_l (x : Nd) (B : Option Addr) (cap : Nat) (w : World) (hs : x.size ≤ 140737488355328) (ht : TreesAt w (fun b => b < w.heap.size) x.kids B) (hT : TabAt 1 Lib.deBruijn64tab w) (hw0 : 1 < w.heap.size) (hr : rightT x = true) : ∃ s l f0 f1 f2 f3 g0 g1 g2 g3, YesL x B cap w s l f0 f1 f2 f3 g0 g1 g2 g3 := by
  have hF : ∀ W, Below w.heap.size w W → TreesAt W (fun b => b < W.heap.size) x.kids B := fun W hb => (ht.below hb).weak (fun b _ h => h)
  have ho := rightT_nodes hr
  have hk : knownF x = x.sum := by unfold knownF; rw [hr]; rfl
  have hok := ok_sum ho
  refine ⟨_, _, _, _, _, _, _, _, _, _, fun W hW => ?_, fun W hW => ?_, fun W hW => rshort_go x _ B cap W hs ho (hF W hW), fun W hW => ?_, fun W hW => rlongest_go x _ B cap W hs ho (hF W hW), fun W hW => ?_, fun W hW => rfirst_go x _ B cap W hs ho (hF W hW), fun W hW => ?_, fun W hW => rlast_go x _ B cap W hs ho (hF W hW), fun W hW => knows10_go W (TabAt.below hW hw0 hT) (Nat.lt_of_lt_of_le hw0 hW.size)⟩
  · have h := rright_any x _ B cap W hs (hF W hW)
    rw [hr] at h
    exact h
  · have h := fshortest_go x B cap W hs (hF W hW)
    rw [hk] at h
    exact h
  · have h := flongest_go x B cap W hs (hF W hW)
    rw [show longestF x = rlonF x.sum by unfold longestF; rw [hk]; exact long_same hok] at h
    exact h
  · have h := ffirst_go x B cap W hs (hF W hW)
    rw [hk] at h
    exact h
  · have h := flast_go x B cap W hs (hF W hW)
    rw [hk] at h
    exact h
set_option maxHeartbeats 8000000 in
theorem lengths_go (x : Nd) (B : Option Addr) (cap : Nat) (w : World) (hs : x.size ≤ 140737488355328) (ht : TreesAt w (fun b => b < w.heap.size) x.kids B) (hT : TabAt 1 Lib.deBruijn64tab w) (hw0 : 1 < w.heap.size) :
    Calls Tryz.prog 4 #[ndV x B cap] w fun e w' => e = .returned (.bool true) ∧ Below w.heap.size w w' := by
  have hb1 : Below w.heap.size w (w.alloc (.cells #[.int .i64 x.kind, .int .u64 ((word (x.set.testBit) 0 : Nat) : Int), .int .u64 ((word (x.set.testBit) 1 : Nat) : Int), .int .u64 ((word (x.set.testBit) 2 : Nat) : Int), .int .u64 ((word (x.set.testBit) 3 : Nat) : Int), .slice B x.kids.len cap, .int .i64 x.lo, .int .i64 x.hi] 28)) := (Below.refl _ _).alloc (Nat.le_refl _) _
  have HB1 := Lib.hid hb1
  have HN := Lib.hid (Blk.new w 28 #[.int .i64 x.kind, .int .u64 ((word (x.set.testBit) 0 : Nat) : Int), .int .u64 ((word (x.set.testBit) 1 : Nat) : Int), .int .u64 ((word (x.set.testBit) 2 : Nat) : Int), .int .u64 ((word (x.set.testBit) 3 : Nat) : Int), .slice B x.kids.len cap, .int .i64 x.lo, .int .i64 x.hi])
  have ht2 := (ht.below hb1).weak (Q := fun b => b < (w.alloc (.cells #[.int .i64 x.kind, .int .u64 ((word (x.set.testBit) 0 : Nat) : Int), .int .u64 ((word (x.set.testBit) 1 : Nat) : Int), .int .u64 ((word (x.set.testBit) 2 : Nat) : Int), .int .u64 ((word (x.set.testBit) 3 : Nat) : Int), .slice B x.kids.len cap, .int .i64 x.lo, .int .i64 x.hi] 28)).heap.size) (fun b _ h => h)
  have HNo := Lib.hid (no_l x B cap _ hs ht2 (TabAt.below hb1 hw0 hT) (Nat.lt_of_lt_of_le hw0 hb1.size))
  have HYes := Lib.hid (yes_l x B cap _ hs ht2 (TabAt.below hb1 hw0 hT) (Nat.lt_of_lt_of_le hw0 hb1.size))
  clear hb1 ht2 ht hs hT hw0
  cases hr : rightT x with
  | false =>
    have HA := Lib.hid (HNo.out hr)
    clear hr HNo HYes
    unfold ndV
    go_enter Tryz.func4, Tryz.ntmps4
    have HC := Lib.hid (HA.out.rig _ (Below.refl _ _))
    unfold ndV at HC
    go_wp2_with fail
    refine HC.out.mono ?_
    rintro e w3 ⟨rfl, hb3⟩
    clear HC
    generalize (w.alloc (.cells #[.int .i64 x.kind, .int .u64 ((word (x.set.testBit) 0 : Nat) : Int), .int .u64 ((word (x.set.testBit) 1 : Nat) : Int), .int .u64 ((word (x.set.testBit) 2 : Nat) : Int), .int .u64 ((word (x.set.testBit) 3 : Nat) : Int), .slice B x.kids.len cap, .int .i64 x.lo, .int .i64 x.hi] 28)) = w2 at *
    have HW3 := Lib.hid hb3
    clear hb3
    dsimp only
    have HC := Lib.hid (HA.out.kno w3 HW3.out)
    skip
    have HN3 := Lib.hid (HN.out.below HW3.out HN.out.lt)
    have n0 := (HN3.out).cell 0
    have n1 := (HN3.out).cell 1
    have n2 := (HN3.out).cell 2
    have n3 := (HN3.out).cell 3
    have n4 := (HN3.out).cell 4
    have n5 := (HN3.out).cell 5
    have n6 := (HN3.out).cell 6
    have n7 := (HN3.out).cell 7
    have hln := (HN3.out).lt
    simp only [List.getElem?_toArray, List.getElem?_cons_zero, List.getElem?_cons_succ] at n0 n1 n2 n3 n4 n5 n6 n7

    go_wp2_with fail
    refine HC.out.mono ?_
    rintro e w4 ⟨rfl, hb4⟩
    have HW4 := Lib.hid (HW3.out.trans (hb4.mono HW3.out.size))
    clear HC hb4
    clear n0 n1 n2 n3 n4 n5 n6 n7 hln
    dsimp only
    go_wp2
    go_light
    go_ret
    refine ⟨?_, HB1.out.trans (HW4.out.mono HB1.out.size)⟩
    simp
  | true =>
    obtain ⟨s, l, f0, f1, f2, f3, g0, g1, g2, g3, hA⟩ := HYes.out hr
    have HA := Lib.hid hA
    clear hr HNo HYes hA
    unfold ndV
    go_enter Tryz.func4, Tryz.ntmps4
    have HC := Lib.hid (HA.out.rig _ (Below.refl _ _))
    unfold ndV at HC
    go_wp2_with fail
    refine HC.out.mono ?_
    rintro e w3 ⟨rfl, hb3⟩
    clear HC
    generalize (w.alloc (.cells #[.int .i64 x.kind, .int .u64 ((word (x.set.testBit) 0 : Nat) : Int), .int .u64 ((word (x.set.testBit) 1 : Nat) : Int), .int .u64 ((word (x.set.testBit) 2 : Nat) : Int), .int .u64 ((word (x.set.testBit) 3 : Nat) : Int), .slice B x.kids.len cap, .int .i64 x.lo, .int .i64 x.hi] 28)) = w2 at *
    have HW3 := Lib.hid hb3
    clear hb3
    dsimp only
    have HN3 := Lib.hid (HN.out.below HW3.out HN.out.lt)
    have n0 := (HN3.out).cell 0
    have n1 := (HN3.out).cell 1
    have n2 := (HN3.out).cell 2
    have n3 := (HN3.out).cell 3
    have n4 := (HN3.out).cell 4
    have n5 := (HN3.out).cell 5
    have n6 := (HN3.out).cell 6
    have n7 := (HN3.out).cell 7
    have hln := (HN3.out).lt
    simp only [List.getElem?_toArray, List.getElem?_cons_zero, List.getElem?_cons_succ] at n0 n1 n2 n3 n4 n5 n6 n7
    have Hsho := Lib.hid (fun (w' : World) (h : (∀ b o, b < w3.heap.size → w'.cell? ⟨b, o, none⟩ = w3.cell? ⟨b, o, none⟩) ∧ Since w3.heap.size w3 w') => HA.out.sho w' (HW3.out.trans (h.2.1.mono HW3.out.size)))
    have Hrsh := Lib.hid (fun (w' : World) (h : (∀ b o, b < w3.heap.size → w'.cell? ⟨b, o, none⟩ = w3.cell? ⟨b, o, none⟩) ∧ Since w3.heap.size w3 w') => HA.out.rsh w' (HW3.out.trans (h.2.1.mono HW3.out.size)))
    have Hlon := Lib.hid (fun (w' : World) (h : (∀ b o, b < w3.heap.size → w'.cell? ⟨b, o, none⟩ = w3.cell? ⟨b, o, none⟩) ∧ Since w3.heap.size w3 w') => HA.out.lon w' (HW3.out.trans (h.2.1.mono HW3.out.size)))
    have Hrlo := Lib.hid (fun (w' : World) (h : (∀ b o, b < w3.heap.size → w'.cell? ⟨b, o, none⟩ = w3.cell? ⟨b, o, none⟩) ∧ Since w3.heap.size w3 w') => HA.out.rlo w' (HW3.out.trans (h.2.1.mono HW3.out.size)))
    have Hfir := Lib.hid (fun (w' : World) (h : (∀ b o, b < w3.heap.size → w'.cell? ⟨b, o, none⟩ = w3.cell? ⟨b, o, none⟩) ∧ Since w3.heap.size w3 w') => HA.out.fir w' (HW3.out.trans (h.2.1.mono HW3.out.size)))
    have Hrfi := Lib.hid (fun (w' : World) (h : (∀ b o, b < w3.heap.size → w'.cell? ⟨b, o, none⟩ = w3.cell? ⟨b, o, none⟩) ∧ Since w3.heap.size w3 w') => HA.out.rfi w' (HW3.out.trans (h.2.1.mono HW3.out.size)))
    have Hlas := Lib.hid (fun (w' : World) (h : (∀ b o, b < w3.heap.size → w'.cell? ⟨b, o, none⟩ = w3.cell? ⟨b, o, none⟩) ∧ Since w3.heap.size w3 w') => HA.out.las w' (HW3.out.trans (h.2.1.mono HW3.out.size)))
    have Hrla := Lib.hid (fun (w' : World) (h : (∀ b o, b < w3.heap.size → w'.cell? ⟨b, o, none⟩ = w3.cell? ⟨b, o, none⟩) ∧ Since w3.heap.size w3 w') => HA.out.rla w' (HW3.out.trans (h.2.1.mono HW3.out.size)))
    have Hkno := Lib.hid (fun (w' : World) (h : (∀ b o, b < w3.heap.size → w'.cell? ⟨b, o, none⟩ = w3.cell? ⟨b, o, none⟩) ∧ Since w3.heap.size w3 w') => HA.out.kno w' (HW3.out.trans (h.2.1.mono HW3.out.size)))
    clear HA HN HN3
    unfold ndV at Hsho Hrsh Hlon Hrlo Hfir Hrfi Hlas Hrla
    go_upto_region 3 with fail
    refine wp_region_noPanic ?_
    go_region_held_law (fun w' => (∀ b o, b < w3.heap.size → w'.cell? ⟨b, o, none⟩ = w3.cell? ⟨b, o, none⟩) ∧ Since w3.heap.size w3 w') (first | exact since_start (Nat.le_refl _) | exact since_step (by assumption) (by assumption))
      (first
        | (go_at_call 16; refine (Hsho.out _ (by assumption)).mono ?_; rintro e w' ⟨rfl, hb'⟩)
        | (go_at_call 17; refine (Hrsh.out _ (by assumption)).mono ?_; rintro e w' ⟨rfl, hb'⟩)
        | (go_at_call 18; refine (Hlon.out _ (by assumption)).mono ?_; rintro e w' ⟨rfl, hb'⟩)
        | (go_at_call 19; refine (Hrlo.out _ (by assumption)).mono ?_; rintro e w' ⟨rfl, hb'⟩)
        | (go_at_call 20; refine (Hfir.out _ (by assumption)).mono ?_; rintro e w' ⟨rfl, hb'⟩)
        | (go_at_call 21; refine (Hrfi.out _ (by assumption)).mono ?_; rintro e w' ⟨rfl, hb'⟩)
        | (go_at_call 22; refine (Hlas.out _ (by assumption)).mono ?_; rintro e w' ⟨rfl, hb'⟩)
        | (go_at_call 23; refine (Hrla.out _ (by assumption)).mono ?_; rintro e w' ⟨rfl, hb'⟩)
        | (go_at_call 12; refine (Hkno.out _ (by assumption)).mono ?_; rintro e w' ⟨rfl, hb'⟩))
    all_goals
      refine NoPanic.normal ?_
      rename_i hS9
      have HB9 := Lib.hid (HB1.out.trans ((HW3.out.trans (hS9.2.1.mono HW3.out.size)).mono HB1.out.size))
      clear hS9
      go_wp2
      go_light
      go_ret
      refine ⟨?_, HB9.out⟩
      simp
end Go.Proofs.YtfekpkelmliejaaGreatDoor
