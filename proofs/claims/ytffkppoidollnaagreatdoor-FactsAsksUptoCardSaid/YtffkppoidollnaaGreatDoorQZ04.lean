/-
  facts.behind, either and repeated at any that is known. facts.fold: what is known of some trees, by a function of two. The contract of the reference's Not. The contract of sets.Least at a set of one byte. The contracts of reference 02's Of, and of reference 05's Dot. A row of lexemes, off what a call owns; and what the three texts of knows split into. The reference's Weight and Size of chapter 16, and the program's Size. The contract of parse.ready. The contract of parse.Lexemes. The contract of the splitter's sign. The contracts of the closures of the splitter's rep. What stands at a place, by its byte. No program in sight. Rows turned round in place: bytes. Rows of nodes turned round in place. A row of nodes cloned and turned round: mirror.turned at nodes. Trees turned round, in plain words. No program in sight. The contract of mirror.Tree. The contract of the reference's Tree of chapter 18.
-/
import Derived.Deep.RegionWith
import Derived.Deep.QuietTactic
import Derived.BigQuiet
import Derived.Shelf.RegionOpenPlain
import Derived.BigRegion
import Derived.Test.YtffkppoidollnaaGreatDoorQZ03
import Derived.Test.YtffkppoidollnaaGreatDoorQRefTwo
import Derived.Test.YtffkppoidollnaaGreatDoorQSpans
import Derived.Test.YtffkppoidollnaaGreatDoorQZ01
import Derived.Test.YtffkppoidollnaaGreatDoorQZ02
import Derived.Test.YtffkppoidollnaaGreatDoorQEscCl
namespace Go.Proofs.YtffkppoidollnaaGreatDoor
open Go.RowKit
set_option linter.unusedSimpArgs false
set_option linter.unusedVariables false
set_option maxRecDepth 100000

set_option maxHeartbeats 2000000 in
theorem behind_no1 (x1 y1 x2 y2 : Int) (f1 l1 f2 l2 : Nat → Bool) (h2 : Bool) (w : World) :
    Calls Tryz.prog 131 #[.agg #[.bool true, .int .i64 x1, .int .i64 y1, .int .u64 ((word (f1) 0 : Nat) : Int), .int .u64 ((word (f1) 1 : Nat) : Int), .int .u64 ((word (f1) 2 : Nat) : Int), .int .u64 ((word (f1) 3 : Nat) : Int), .int .u64 ((word (l1) 0 : Nat) : Int), .int .u64 ((word (l1) 1 : Nat) : Int), .int .u64 ((word (l1) 2 : Nat) : Int), .int .u64 ((word (l1) 3 : Nat) : Int)], .agg #[.bool h2, .int .i64 x2, .int .i64 y2, .int .u64 ((word (f2) 0 : Nat) : Int), .int .u64 ((word (f2) 1 : Nat) : Int), .int .u64 ((word (f2) 2 : Nat) : Int), .int .u64 ((word (f2) 3 : Nat) : Int), .int .u64 ((word (l2) 0 : Nat) : Int), .int .u64 ((word (l2) 1 : Nat) : Int), .int .u64 ((word (l2) 2 : Nat) : Int), .int .u64 ((word (l2) 3 : Nat) : Int)]] w fun e w' => e = .returned (sumV (behindF ⟨true, x1, y1, f1, l1⟩ ⟨h2, x2, y2, f2, l2⟩)) ∧ Below w.heap.size w w' := by
  have HV := Lib.hid (show behindF ⟨true, x1, y1, f1, l1⟩ ⟨h2, x2, y2, f2, l2⟩ = nothingF by unfold behindF; rw [if_pos (by simp)])
  have hb : Below w.heap.size w (((w.alloc (.cells #[.bool true, .int .i64 x1, .int .i64 y1, .int .u64 ((word (f1) 0 : Nat) : Int), .int .u64 ((word (f1) 1 : Nat) : Int), .int .u64 ((word (f1) 2 : Nat) : Int), .int .u64 ((word (f1) 3 : Nat) : Int), .int .u64 ((word (l1) 0 : Nat) : Int), .int .u64 ((word (l1) 1 : Nat) : Int), .int .u64 ((word (l1) 2 : Nat) : Int), .int .u64 ((word (l1) 3 : Nat) : Int)] 81)).alloc (.cells #[.bool h2, .int .i64 x2, .int .i64 y2, .int .u64 ((word (f2) 0 : Nat) : Int), .int .u64 ((word (f2) 1 : Nat) : Int), .int .u64 ((word (f2) 2 : Nat) : Int), .int .u64 ((word (f2) 3 : Nat) : Int), .int .u64 ((word (l2) 0 : Nat) : Int), .int .u64 ((word (l2) 1 : Nat) : Int), .int .u64 ((word (l2) 2 : Nat) : Int), .int .u64 ((word (l2) 3 : Nat) : Int)] 81)).alloc (.cells #[.bool false, .int .i64 0, .int .i64 0, .int .u64 0, .int .u64 0, .int .u64 0, .int .u64 0, .int .u64 0, .int .u64 0, .int .u64 0, .int .u64 0] 81)) := (((Below.refl _ _).alloc (Nat.le_refl _) _).alloc (by simp) _).alloc (by simp; omega) _
  have HB := Lib.hid hb
  have hXA := ((Blk.new w 81 #[.bool true, .int .i64 x1, .int .i64 y1, .int .u64 ((word (f1) 0 : Nat) : Int), .int .u64 ((word (f1) 1 : Nat) : Int), .int .u64 ((word (f1) 2 : Nat) : Int), .int .u64 ((word (f1) 3 : Nat) : Int), .int .u64 ((word (l1) 0 : Nat) : Int), .int .u64 ((word (l1) 1 : Nat) : Int), .int .u64 ((word (l1) 2 : Nat) : Int), .int .u64 ((word (l1) 3 : Nat) : Int)]).alloc (.cells #[.bool h2, .int .i64 x2, .int .i64 y2, .int .u64 ((word (f2) 0 : Nat) : Int), .int .u64 ((word (f2) 1 : Nat) : Int), .int .u64 ((word (f2) 2 : Nat) : Int), .int .u64 ((word (f2) 3 : Nat) : Int), .int .u64 ((word (l2) 0 : Nat) : Int), .int .u64 ((word (l2) 1 : Nat) : Int), .int .u64 ((word (l2) 2 : Nat) : Int), .int .u64 ((word (l2) 3 : Nat) : Int)] 81)).alloc (.cells #[.bool false, .int .i64 0, .int .i64 0, .int .u64 0, .int .u64 0, .int .u64 0, .int .u64 0, .int .u64 0, .int .u64 0, .int .u64 0, .int .u64 0] 81)
  have hXB := (show Blk ((w.alloc (.cells #[.bool true, .int .i64 x1, .int .i64 y1, .int .u64 ((word (f1) 0 : Nat) : Int), .int .u64 ((word (f1) 1 : Nat) : Int), .int .u64 ((word (f1) 2 : Nat) : Int), .int .u64 ((word (f1) 3 : Nat) : Int), .int .u64 ((word (l1) 0 : Nat) : Int), .int .u64 ((word (l1) 1 : Nat) : Int), .int .u64 ((word (l1) 2 : Nat) : Int), .int .u64 ((word (l1) 3 : Nat) : Int)] 81)).alloc (.cells #[.bool h2, .int .i64 x2, .int .i64 y2, .int .u64 ((word (f2) 0 : Nat) : Int), .int .u64 ((word (f2) 1 : Nat) : Int), .int .u64 ((word (f2) 2 : Nat) : Int), .int .u64 ((word (f2) 3 : Nat) : Int), .int .u64 ((word (l2) 0 : Nat) : Int), .int .u64 ((word (l2) 1 : Nat) : Int), .int .u64 ((word (l2) 2 : Nat) : Int), .int .u64 ((word (l2) 3 : Nat) : Int)] 81)) (w.heap.size + 1) 81 #[.bool h2, .int .i64 x2, .int .i64 y2, .int .u64 ((word (f2) 0 : Nat) : Int), .int .u64 ((word (f2) 1 : Nat) : Int), .int .u64 ((word (f2) 2 : Nat) : Int), .int .u64 ((word (f2) 3 : Nat) : Int), .int .u64 ((word (l2) 0 : Nat) : Int), .int .u64 ((word (l2) 1 : Nat) : Int), .int .u64 ((word (l2) 2 : Nat) : Int), .int .u64 ((word (l2) 3 : Nat) : Int)] from Blk.new_at (by simp)).alloc (.cells #[.bool false, .int .i64 0, .int .i64 0, .int .u64 0, .int .u64 0, .int .u64 0, .int .u64 0, .int .u64 0, .int .u64 0, .int .u64 0, .int .u64 0] 81)
  have HXR := Lib.hid (show Blk (((w.alloc (.cells #[.bool true, .int .i64 x1, .int .i64 y1, .int .u64 ((word (f1) 0 : Nat) : Int), .int .u64 ((word (f1) 1 : Nat) : Int), .int .u64 ((word (f1) 2 : Nat) : Int), .int .u64 ((word (f1) 3 : Nat) : Int), .int .u64 ((word (l1) 0 : Nat) : Int), .int .u64 ((word (l1) 1 : Nat) : Int), .int .u64 ((word (l1) 2 : Nat) : Int), .int .u64 ((word (l1) 3 : Nat) : Int)] 81)).alloc (.cells #[.bool h2, .int .i64 x2, .int .i64 y2, .int .u64 ((word (f2) 0 : Nat) : Int), .int .u64 ((word (f2) 1 : Nat) : Int), .int .u64 ((word (f2) 2 : Nat) : Int), .int .u64 ((word (f2) 3 : Nat) : Int), .int .u64 ((word (l2) 0 : Nat) : Int), .int .u64 ((word (l2) 1 : Nat) : Int), .int .u64 ((word (l2) 2 : Nat) : Int), .int .u64 ((word (l2) 3 : Nat) : Int)] 81)).alloc (.cells #[.bool false, .int .i64 0, .int .i64 0, .int .u64 0, .int .u64 0, .int .u64 0, .int .u64 0, .int .u64 0, .int .u64 0, .int .u64 0, .int .u64 0] 81)) (w.heap.size + 1 + 1) 81 #[.bool false, .int .i64 0, .int .i64 0, .int .u64 0, .int .u64 0, .int .u64 0, .int .u64 0, .int .u64 0, .int .u64 0, .int .u64 0, .int .u64 0] from Blk.new_at (by simp))
  clear hb
  go_enter Tryz.func131, Tryz.ntmps131
  go_upto_region 1 with fail
  generalize (((w.alloc (.cells #[.bool true, .int .i64 x1, .int .i64 y1, .int .u64 ((word (f1) 0 : Nat) : Int), .int .u64 ((word (f1) 1 : Nat) : Int), .int .u64 ((word (f1) 2 : Nat) : Int), .int .u64 ((word (f1) 3 : Nat) : Int), .int .u64 ((word (l1) 0 : Nat) : Int), .int .u64 ((word (l1) 1 : Nat) : Int), .int .u64 ((word (l1) 2 : Nat) : Int), .int .u64 ((word (l1) 3 : Nat) : Int)] 81)).alloc (.cells #[.bool h2, .int .i64 x2, .int .i64 y2, .int .u64 ((word (f2) 0 : Nat) : Int), .int .u64 ((word (f2) 1 : Nat) : Int), .int .u64 ((word (f2) 2 : Nat) : Int), .int .u64 ((word (f2) 3 : Nat) : Int), .int .u64 ((word (l2) 0 : Nat) : Int), .int .u64 ((word (l2) 1 : Nat) : Int), .int .u64 ((word (l2) 2 : Nat) : Int), .int .u64 ((word (l2) 3 : Nat) : Int)] 81)).alloc (.cells #[.bool false, .int .i64 0, .int .i64 0, .int .u64 0, .int .u64 0, .int .u64 0, .int .u64 0, .int .u64 0, .int .u64 0, .int .u64 0, .int .u64 0] 81)) = w2 at *
  have a0 := (hXA).cell 0
  have a1 := (hXA).cell 1
  have a2 := (hXA).cell 2
  have a3 := (hXA).cell 3
  have a4 := (hXA).cell 4
  have a5 := (hXA).cell 5
  have a6 := (hXA).cell 6
  have a7 := (hXA).cell 7
  have a8 := (hXA).cell 8
  have a9 := (hXA).cell 9
  have a10 := (hXA).cell 10
  have hla := (hXA).lt
  simp only [List.getElem?_toArray, List.getElem?_cons_zero, List.getElem?_cons_succ] at a0 a1 a2 a3 a4 a5 a6 a7 a8 a9 a10
  have b0 := (hXB).cell 0
  have b1 := (hXB).cell 1
  have b2 := (hXB).cell 2
  have b3 := (hXB).cell 3
  have b4 := (hXB).cell 4
  have b5 := (hXB).cell 5
  have b6 := (hXB).cell 6
  have b7 := (hXB).cell 7
  have b8 := (hXB).cell 8
  have b9 := (hXB).cell 9
  have b10 := (hXB).cell 10
  have hlb := (hXB).lt
  simp only [List.getElem?_toArray, List.getElem?_cons_zero, List.getElem?_cons_succ] at b0 b1 b2 b3 b4 b5 b6 b7 b8 b9 b10
  clear hXA hXB
  go_wp2_with fail
  refine (nothing_go _).mono ?_
  rintro e w3 ⟨rfl, hb3⟩
  have hR := HXR.out.below hb3 HXR.out.lt
  have HB3 := Lib.hid (HB.out.trans (hb3.mono HB.out.size))
  have HR := Lib.hid hR
  have r0 := (hR).cell 0
  have r1 := (hR).cell 1
  have r2 := (hR).cell 2
  have r3 := (hR).cell 3
  have r4 := (hR).cell 4
  have r5 := (hR).cell 5
  have r6 := (hR).cell 6
  have r7 := (hR).cell 7
  have r8 := (hR).cell 8
  have r9 := (hR).cell 9
  have r10 := (hR).cell 10
  have q0 := (hR).frozen 0
  have q1 := (hR).frozen 1
  have q2 := (hR).frozen 2
  have q3 := (hR).frozen 3
  have q4 := (hR).frozen 4
  have q5 := (hR).frozen 5
  have q6 := (hR).frozen 6
  have q7 := (hR).frozen 7
  have q8 := (hR).frozen 8
  have q9 := (hR).frozen 9
  have q10 := (hR).frozen 10
  have hlr := (hR).lt
  simp only [List.getElem?_toArray, List.getElem?_cons_zero, List.getElem?_cons_succ] at r0 r1 r2 r3 r4 r5 r6 r7 r8 r9 r10
  clear hR hb3
  rw [nothing_val]
  dsimp only
  go_wp2
  refine bodyPost_ret (ret_sum Tryz.results131 rfl (Blk.store11 HR.out)) rfl ⟨by rw [HV.out, nothing_val], below_set11 HB3.out (by omega)⟩
set_option maxHeartbeats 2000000 in
theorem behind_no2 (x1 y1 x2 y2 : Int) (f1 l1 f2 l2 : Nat → Bool) (w : World) :
    Calls Tryz.prog 131 #[.agg #[.bool false, .int .i64 x1, .int .i64 y1, .int .u64 ((word (f1) 0 : Nat) : Int), .int .u64 ((word (f1) 1 : Nat) : Int), .int .u64 ((word (f1) 2 : Nat) : Int), .int .u64 ((word (f1) 3 : Nat) : Int), .int .u64 ((word (l1) 0 : Nat) : Int), .int .u64 ((word (l1) 1 : Nat) : Int), .int .u64 ((word (l1) 2 : Nat) : Int), .int .u64 ((word (l1) 3 : Nat) : Int)], .agg #[.bool true, .int .i64 x2, .int .i64 y2, .int .u64 ((word (f2) 0 : Nat) : Int), .int .u64 ((word (f2) 1 : Nat) : Int), .int .u64 ((word (f2) 2 : Nat) : Int), .int .u64 ((word (f2) 3 : Nat) : Int), .int .u64 ((word (l2) 0 : Nat) : Int), .int .u64 ((word (l2) 1 : Nat) : Int), .int .u64 ((word (l2) 2 : Nat) : Int), .int .u64 ((word (l2) 3 : Nat) : Int)]] w fun e w' => e = .returned (sumV (behindF ⟨false, x1, y1, f1, l1⟩ ⟨true, x2, y2, f2, l2⟩)) ∧ Below w.heap.size w w' := by
  have HV := Lib.hid (show behindF ⟨false, x1, y1, f1, l1⟩ ⟨true, x2, y2, f2, l2⟩ = nothingF by unfold behindF; rw [if_pos (by simp)])
  have hb : Below w.heap.size w (((w.alloc (.cells #[.bool false, .int .i64 x1, .int .i64 y1, .int .u64 ((word (f1) 0 : Nat) : Int), .int .u64 ((word (f1) 1 : Nat) : Int), .int .u64 ((word (f1) 2 : Nat) : Int), .int .u64 ((word (f1) 3 : Nat) : Int), .int .u64 ((word (l1) 0 : Nat) : Int), .int .u64 ((word (l1) 1 : Nat) : Int), .int .u64 ((word (l1) 2 : Nat) : Int), .int .u64 ((word (l1) 3 : Nat) : Int)] 81)).alloc (.cells #[.bool true, .int .i64 x2, .int .i64 y2, .int .u64 ((word (f2) 0 : Nat) : Int), .int .u64 ((word (f2) 1 : Nat) : Int), .int .u64 ((word (f2) 2 : Nat) : Int), .int .u64 ((word (f2) 3 : Nat) : Int), .int .u64 ((word (l2) 0 : Nat) : Int), .int .u64 ((word (l2) 1 : Nat) : Int), .int .u64 ((word (l2) 2 : Nat) : Int), .int .u64 ((word (l2) 3 : Nat) : Int)] 81)).alloc (.cells #[.bool false, .int .i64 0, .int .i64 0, .int .u64 0, .int .u64 0, .int .u64 0, .int .u64 0, .int .u64 0, .int .u64 0, .int .u64 0, .int .u64 0] 81)) := (((Below.refl _ _).alloc (Nat.le_refl _) _).alloc (by simp) _).alloc (by simp; omega) _
  have HB := Lib.hid hb
  have hXA := ((Blk.new w 81 #[.bool false, .int .i64 x1, .int .i64 y1, .int .u64 ((word (f1) 0 : Nat) : Int), .int .u64 ((word (f1) 1 : Nat) : Int), .int .u64 ((word (f1) 2 : Nat) : Int), .int .u64 ((word (f1) 3 : Nat) : Int), .int .u64 ((word (l1) 0 : Nat) : Int), .int .u64 ((word (l1) 1 : Nat) : Int), .int .u64 ((word (l1) 2 : Nat) : Int), .int .u64 ((word (l1) 3 : Nat) : Int)]).alloc (.cells #[.bool true, .int .i64 x2, .int .i64 y2, .int .u64 ((word (f2) 0 : Nat) : Int), .int .u64 ((word (f2) 1 : Nat) : Int), .int .u64 ((word (f2) 2 : Nat) : Int), .int .u64 ((word (f2) 3 : Nat) : Int), .int .u64 ((word (l2) 0 : Nat) : Int), .int .u64 ((word (l2) 1 : Nat) : Int), .int .u64 ((word (l2) 2 : Nat) : Int), .int .u64 ((word (l2) 3 : Nat) : Int)] 81)).alloc (.cells #[.bool false, .int .i64 0, .int .i64 0, .int .u64 0, .int .u64 0, .int .u64 0, .int .u64 0, .int .u64 0, .int .u64 0, .int .u64 0, .int .u64 0] 81)
  have hXB := (show Blk ((w.alloc (.cells #[.bool false, .int .i64 x1, .int .i64 y1, .int .u64 ((word (f1) 0 : Nat) : Int), .int .u64 ((word (f1) 1 : Nat) : Int), .int .u64 ((word (f1) 2 : Nat) : Int), .int .u64 ((word (f1) 3 : Nat) : Int), .int .u64 ((word (l1) 0 : Nat) : Int), .int .u64 ((word (l1) 1 : Nat) : Int), .int .u64 ((word (l1) 2 : Nat) : Int), .int .u64 ((word (l1) 3 : Nat) : Int)] 81)).alloc (.cells #[.bool true, .int .i64 x2, .int .i64 y2, .int .u64 ((word (f2) 0 : Nat) : Int), .int .u64 ((word (f2) 1 : Nat) : Int), .int .u64 ((word (f2) 2 : Nat) : Int), .int .u64 ((word (f2) 3 : Nat) : Int), .int .u64 ((word (l2) 0 : Nat) : Int), .int .u64 ((word (l2) 1 : Nat) : Int), .int .u64 ((word (l2) 2 : Nat) : Int), .int .u64 ((word (l2) 3 : Nat) : Int)] 81)) (w.heap.size + 1) 81 #[.bool true, .int .i64 x2, .int .i64 y2, .int .u64 ((word (f2) 0 : Nat) : Int), .int .u64 ((word (f2) 1 : Nat) : Int), .int .u64 ((word (f2) 2 : Nat) : Int), .int .u64 ((word (f2) 3 : Nat) : Int), .int .u64 ((word (l2) 0 : Nat) : Int), .int .u64 ((word (l2) 1 : Nat) : Int), .int .u64 ((word (l2) 2 : Nat) : Int), .int .u64 ((word (l2) 3 : Nat) : Int)] from Blk.new_at (by simp)).alloc (.cells #[.bool false, .int .i64 0, .int .i64 0, .int .u64 0, .int .u64 0, .int .u64 0, .int .u64 0, .int .u64 0, .int .u64 0, .int .u64 0, .int .u64 0] 81)
  have HXR := Lib.hid (show Blk (((w.alloc (.cells #[.bool false, .int .i64 x1, .int .i64 y1, .int .u64 ((word (f1) 0 : Nat) : Int), .int .u64 ((word (f1) 1 : Nat) : Int), .int .u64 ((word (f1) 2 : Nat) : Int), .int .u64 ((word (f1) 3 : Nat) : Int), .int .u64 ((word (l1) 0 : Nat) : Int), .int .u64 ((word (l1) 1 : Nat) : Int), .int .u64 ((word (l1) 2 : Nat) : Int), .int .u64 ((word (l1) 3 : Nat) : Int)] 81)).alloc (.cells #[.bool true, .int .i64 x2, .int .i64 y2, .int .u64 ((word (f2) 0 : Nat) : Int), .int .u64 ((word (f2) 1 : Nat) : Int), .int .u64 ((word (f2) 2 : Nat) : Int), .int .u64 ((word (f2) 3 : Nat) : Int), .int .u64 ((word (l2) 0 : Nat) : Int), .int .u64 ((word (l2) 1 : Nat) : Int), .int .u64 ((word (l2) 2 : Nat) : Int), .int .u64 ((word (l2) 3 : Nat) : Int)] 81)).alloc (.cells #[.bool false, .int .i64 0, .int .i64 0, .int .u64 0, .int .u64 0, .int .u64 0, .int .u64 0, .int .u64 0, .int .u64 0, .int .u64 0, .int .u64 0] 81)) (w.heap.size + 1 + 1) 81 #[.bool false, .int .i64 0, .int .i64 0, .int .u64 0, .int .u64 0, .int .u64 0, .int .u64 0, .int .u64 0, .int .u64 0, .int .u64 0, .int .u64 0] from Blk.new_at (by simp))
  clear hb
  go_enter Tryz.func131, Tryz.ntmps131
  go_upto_region 1 with fail
  generalize (((w.alloc (.cells #[.bool false, .int .i64 x1, .int .i64 y1, .int .u64 ((word (f1) 0 : Nat) : Int), .int .u64 ((word (f1) 1 : Nat) : Int), .int .u64 ((word (f1) 2 : Nat) : Int), .int .u64 ((word (f1) 3 : Nat) : Int), .int .u64 ((word (l1) 0 : Nat) : Int), .int .u64 ((word (l1) 1 : Nat) : Int), .int .u64 ((word (l1) 2 : Nat) : Int), .int .u64 ((word (l1) 3 : Nat) : Int)] 81)).alloc (.cells #[.bool true, .int .i64 x2, .int .i64 y2, .int .u64 ((word (f2) 0 : Nat) : Int), .int .u64 ((word (f2) 1 : Nat) : Int), .int .u64 ((word (f2) 2 : Nat) : Int), .int .u64 ((word (f2) 3 : Nat) : Int), .int .u64 ((word (l2) 0 : Nat) : Int), .int .u64 ((word (l2) 1 : Nat) : Int), .int .u64 ((word (l2) 2 : Nat) : Int), .int .u64 ((word (l2) 3 : Nat) : Int)] 81)).alloc (.cells #[.bool false, .int .i64 0, .int .i64 0, .int .u64 0, .int .u64 0, .int .u64 0, .int .u64 0, .int .u64 0, .int .u64 0, .int .u64 0, .int .u64 0] 81)) = w2 at *
  have a0 := (hXA).cell 0
  have a1 := (hXA).cell 1
  have a2 := (hXA).cell 2
  have a3 := (hXA).cell 3
  have a4 := (hXA).cell 4
  have a5 := (hXA).cell 5
  have a6 := (hXA).cell 6
  have a7 := (hXA).cell 7
  have a8 := (hXA).cell 8
  have a9 := (hXA).cell 9
  have a10 := (hXA).cell 10
  have hla := (hXA).lt
  simp only [List.getElem?_toArray, List.getElem?_cons_zero, List.getElem?_cons_succ] at a0 a1 a2 a3 a4 a5 a6 a7 a8 a9 a10
  have b0 := (hXB).cell 0
  have b1 := (hXB).cell 1
  have b2 := (hXB).cell 2
  have b3 := (hXB).cell 3
  have b4 := (hXB).cell 4
  have b5 := (hXB).cell 5
  have b6 := (hXB).cell 6
  have b7 := (hXB).cell 7
  have b8 := (hXB).cell 8
  have b9 := (hXB).cell 9
  have b10 := (hXB).cell 10
  have hlb := (hXB).lt
  simp only [List.getElem?_toArray, List.getElem?_cons_zero, List.getElem?_cons_succ] at b0 b1 b2 b3 b4 b5 b6 b7 b8 b9 b10
  clear hXA hXB
  go_wp2_with fail
  refine (nothing_go _).mono ?_
  rintro e w3 ⟨rfl, hb3⟩
  have hR := HXR.out.below hb3 HXR.out.lt
  have HB3 := Lib.hid (HB.out.trans (hb3.mono HB.out.size))
  have HR := Lib.hid hR
  have r0 := (hR).cell 0
  have r1 := (hR).cell 1
  have r2 := (hR).cell 2
  have r3 := (hR).cell 3
  have r4 := (hR).cell 4
  have r5 := (hR).cell 5
  have r6 := (hR).cell 6
  have r7 := (hR).cell 7
  have r8 := (hR).cell 8
  have r9 := (hR).cell 9
  have r10 := (hR).cell 10
  have q0 := (hR).frozen 0
  have q1 := (hR).frozen 1
  have q2 := (hR).frozen 2
  have q3 := (hR).frozen 3
  have q4 := (hR).frozen 4
  have q5 := (hR).frozen 5
  have q6 := (hR).frozen 6
  have q7 := (hR).frozen 7
  have q8 := (hR).frozen 8
  have q9 := (hR).frozen 9
  have q10 := (hR).frozen 10
  have hlr := (hR).lt
  simp only [List.getElem?_toArray, List.getElem?_cons_zero, List.getElem?_cons_succ] at r0 r1 r2 r3 r4 r5 r6 r7 r8 r9 r10
  clear hR hb3
  rw [nothing_val]
  dsimp only
  go_wp2
  refine bodyPost_ret (ret_sum Tryz.results131 rfl (Blk.store11 HR.out)) rfl ⟨by rw [HV.out, nothing_val], below_set11 HB3.out (by omega)⟩
theorem fbehind_go (a b : SumS) (w : World) (ha : SumOk a) (hb : SumOk b) :
    Calls Tryz.prog 131 #[sumV a, sumV b] w fun e w' => e = .returned (sumV (behindF a b)) ∧ Below w.heap.size w w' := by
  obtain ⟨h1, x1, y1, f1, l1⟩ := a
  obtain ⟨h2, x2, y2, f2, l2⟩ := b
  cases h1 with
  | true => exact behind_no1 x1 y1 x2 y2 f1 l1 f2 l2 h2 w
  | false =>
    cases h2 with
    | true => exact behind_no2 x1 y1 x2 y2 f1 l1 f2 l2 w
    | false => exact behind_words x1 y1 x2 y2 f1 l1 f2 l2 w ha hb
set_option maxHeartbeats 2000000 in
theorem either_no1 (x1 y1 x2 y2 : Int) (f1 l1 f2 l2 : Nat → Bool) (h2 : Bool) (w : World) :
    Calls Tryz.prog 132 #[.agg #[.bool true, .int .i64 x1, .int .i64 y1, .int .u64 ((word (f1) 0 : Nat) : Int), .int .u64 ((word (f1) 1 : Nat) : Int), .int .u64 ((word (f1) 2 : Nat) : Int), .int .u64 ((word (f1) 3 : Nat) : Int), .int .u64 ((word (l1) 0 : Nat) : Int), .int .u64 ((word (l1) 1 : Nat) : Int), .int .u64 ((word (l1) 2 : Nat) : Int), .int .u64 ((word (l1) 3 : Nat) : Int)], .agg #[.bool h2, .int .i64 x2, .int .i64 y2, .int .u64 ((word (f2) 0 : Nat) : Int), .int .u64 ((word (f2) 1 : Nat) : Int), .int .u64 ((word (f2) 2 : Nat) : Int), .int .u64 ((word (f2) 3 : Nat) : Int), .int .u64 ((word (l2) 0 : Nat) : Int), .int .u64 ((word (l2) 1 : Nat) : Int), .int .u64 ((word (l2) 2 : Nat) : Int), .int .u64 ((word (l2) 3 : Nat) : Int)]] w fun e w' => e = .returned (sumV (eitherF ⟨true, x1, y1, f1, l1⟩ ⟨h2, x2, y2, f2, l2⟩)) ∧ Below w.heap.size w w' := by
  have HV := Lib.hid (show eitherF ⟨true, x1, y1, f1, l1⟩ ⟨h2, x2, y2, f2, l2⟩ = ⟨h2, x2, y2, f2, l2⟩ by unfold eitherF; rw [if_pos rfl])
  have hb : Below w.heap.size w (((w.alloc (.cells #[.bool true, .int .i64 x1, .int .i64 y1, .int .u64 ((word (f1) 0 : Nat) : Int), .int .u64 ((word (f1) 1 : Nat) : Int), .int .u64 ((word (f1) 2 : Nat) : Int), .int .u64 ((word (f1) 3 : Nat) : Int), .int .u64 ((word (l1) 0 : Nat) : Int), .int .u64 ((word (l1) 1 : Nat) : Int), .int .u64 ((word (l1) 2 : Nat) : Int), .int .u64 ((word (l1) 3 : Nat) : Int)] 81)).alloc (.cells #[.bool h2, .int .i64 x2, .int .i64 y2, .int .u64 ((word (f2) 0 : Nat) : Int), .int .u64 ((word (f2) 1 : Nat) : Int), .int .u64 ((word (f2) 2 : Nat) : Int), .int .u64 ((word (f2) 3 : Nat) : Int), .int .u64 ((word (l2) 0 : Nat) : Int), .int .u64 ((word (l2) 1 : Nat) : Int), .int .u64 ((word (l2) 2 : Nat) : Int), .int .u64 ((word (l2) 3 : Nat) : Int)] 81)).alloc (.cells #[.bool false, .int .i64 0, .int .i64 0, .int .u64 0, .int .u64 0, .int .u64 0, .int .u64 0, .int .u64 0, .int .u64 0, .int .u64 0, .int .u64 0] 81)) := (((Below.refl _ _).alloc (Nat.le_refl _) _).alloc (by simp) _).alloc (by simp; omega) _
  have HB := Lib.hid hb
  have hXA := ((Blk.new w 81 #[.bool true, .int .i64 x1, .int .i64 y1, .int .u64 ((word (f1) 0 : Nat) : Int), .int .u64 ((word (f1) 1 : Nat) : Int), .int .u64 ((word (f1) 2 : Nat) : Int), .int .u64 ((word (f1) 3 : Nat) : Int), .int .u64 ((word (l1) 0 : Nat) : Int), .int .u64 ((word (l1) 1 : Nat) : Int), .int .u64 ((word (l1) 2 : Nat) : Int), .int .u64 ((word (l1) 3 : Nat) : Int)]).alloc (.cells #[.bool h2, .int .i64 x2, .int .i64 y2, .int .u64 ((word (f2) 0 : Nat) : Int), .int .u64 ((word (f2) 1 : Nat) : Int), .int .u64 ((word (f2) 2 : Nat) : Int), .int .u64 ((word (f2) 3 : Nat) : Int), .int .u64 ((word (l2) 0 : Nat) : Int), .int .u64 ((word (l2) 1 : Nat) : Int), .int .u64 ((word (l2) 2 : Nat) : Int), .int .u64 ((word (l2) 3 : Nat) : Int)] 81)).alloc (.cells #[.bool false, .int .i64 0, .int .i64 0, .int .u64 0, .int .u64 0, .int .u64 0, .int .u64 0, .int .u64 0, .int .u64 0, .int .u64 0, .int .u64 0] 81)
  have hXB := (show Blk ((w.alloc (.cells #[.bool true, .int .i64 x1, .int .i64 y1, .int .u64 ((word (f1) 0 : Nat) : Int), .int .u64 ((word (f1) 1 : Nat) : Int), .int .u64 ((word (f1) 2 : Nat) : Int), .int .u64 ((word (f1) 3 : Nat) : Int), .int .u64 ((word (l1) 0 : Nat) : Int), .int .u64 ((word (l1) 1 : Nat) : Int), .int .u64 ((word (l1) 2 : Nat) : Int), .int .u64 ((word (l1) 3 : Nat) : Int)] 81)).alloc (.cells #[.bool h2, .int .i64 x2, .int .i64 y2, .int .u64 ((word (f2) 0 : Nat) : Int), .int .u64 ((word (f2) 1 : Nat) : Int), .int .u64 ((word (f2) 2 : Nat) : Int), .int .u64 ((word (f2) 3 : Nat) : Int), .int .u64 ((word (l2) 0 : Nat) : Int), .int .u64 ((word (l2) 1 : Nat) : Int), .int .u64 ((word (l2) 2 : Nat) : Int), .int .u64 ((word (l2) 3 : Nat) : Int)] 81)) (w.heap.size + 1) 81 #[.bool h2, .int .i64 x2, .int .i64 y2, .int .u64 ((word (f2) 0 : Nat) : Int), .int .u64 ((word (f2) 1 : Nat) : Int), .int .u64 ((word (f2) 2 : Nat) : Int), .int .u64 ((word (f2) 3 : Nat) : Int), .int .u64 ((word (l2) 0 : Nat) : Int), .int .u64 ((word (l2) 1 : Nat) : Int), .int .u64 ((word (l2) 2 : Nat) : Int), .int .u64 ((word (l2) 3 : Nat) : Int)] from Blk.new_at (by simp)).alloc (.cells #[.bool false, .int .i64 0, .int .i64 0, .int .u64 0, .int .u64 0, .int .u64 0, .int .u64 0, .int .u64 0, .int .u64 0, .int .u64 0, .int .u64 0] 81)
  have HXR := Lib.hid (show Blk (((w.alloc (.cells #[.bool true, .int .i64 x1, .int .i64 y1, .int .u64 ((word (f1) 0 : Nat) : Int), .int .u64 ((word (f1) 1 : Nat) : Int), .int .u64 ((word (f1) 2 : Nat) : Int), .int .u64 ((word (f1) 3 : Nat) : Int), .int .u64 ((word (l1) 0 : Nat) : Int), .int .u64 ((word (l1) 1 : Nat) : Int), .int .u64 ((word (l1) 2 : Nat) : Int), .int .u64 ((word (l1) 3 : Nat) : Int)] 81)).alloc (.cells #[.bool h2, .int .i64 x2, .int .i64 y2, .int .u64 ((word (f2) 0 : Nat) : Int), .int .u64 ((word (f2) 1 : Nat) : Int), .int .u64 ((word (f2) 2 : Nat) : Int), .int .u64 ((word (f2) 3 : Nat) : Int), .int .u64 ((word (l2) 0 : Nat) : Int), .int .u64 ((word (l2) 1 : Nat) : Int), .int .u64 ((word (l2) 2 : Nat) : Int), .int .u64 ((word (l2) 3 : Nat) : Int)] 81)).alloc (.cells #[.bool false, .int .i64 0, .int .i64 0, .int .u64 0, .int .u64 0, .int .u64 0, .int .u64 0, .int .u64 0, .int .u64 0, .int .u64 0, .int .u64 0] 81)) (w.heap.size + 1 + 1) 81 #[.bool false, .int .i64 0, .int .i64 0, .int .u64 0, .int .u64 0, .int .u64 0, .int .u64 0, .int .u64 0, .int .u64 0, .int .u64 0, .int .u64 0] from Blk.new_at (by simp))
  clear hb
  go_enter Tryz.func132, Tryz.ntmps132
  go_upto_region 1 with fail
  generalize (((w.alloc (.cells #[.bool true, .int .i64 x1, .int .i64 y1, .int .u64 ((word (f1) 0 : Nat) : Int), .int .u64 ((word (f1) 1 : Nat) : Int), .int .u64 ((word (f1) 2 : Nat) : Int), .int .u64 ((word (f1) 3 : Nat) : Int), .int .u64 ((word (l1) 0 : Nat) : Int), .int .u64 ((word (l1) 1 : Nat) : Int), .int .u64 ((word (l1) 2 : Nat) : Int), .int .u64 ((word (l1) 3 : Nat) : Int)] 81)).alloc (.cells #[.bool h2, .int .i64 x2, .int .i64 y2, .int .u64 ((word (f2) 0 : Nat) : Int), .int .u64 ((word (f2) 1 : Nat) : Int), .int .u64 ((word (f2) 2 : Nat) : Int), .int .u64 ((word (f2) 3 : Nat) : Int), .int .u64 ((word (l2) 0 : Nat) : Int), .int .u64 ((word (l2) 1 : Nat) : Int), .int .u64 ((word (l2) 2 : Nat) : Int), .int .u64 ((word (l2) 3 : Nat) : Int)] 81)).alloc (.cells #[.bool false, .int .i64 0, .int .i64 0, .int .u64 0, .int .u64 0, .int .u64 0, .int .u64 0, .int .u64 0, .int .u64 0, .int .u64 0, .int .u64 0] 81)) = w2 at *
  have a0 := (hXA).cell 0
  have a1 := (hXA).cell 1
  have a2 := (hXA).cell 2
  have a3 := (hXA).cell 3
  have a4 := (hXA).cell 4
  have a5 := (hXA).cell 5
  have a6 := (hXA).cell 6
  have a7 := (hXA).cell 7
  have a8 := (hXA).cell 8
  have a9 := (hXA).cell 9
  have a10 := (hXA).cell 10
  have hla := (hXA).lt
  simp only [List.getElem?_toArray, List.getElem?_cons_zero, List.getElem?_cons_succ] at a0 a1 a2 a3 a4 a5 a6 a7 a8 a9 a10
  have b0 := (hXB).cell 0
  have b1 := (hXB).cell 1
  have b2 := (hXB).cell 2
  have b3 := (hXB).cell 3
  have b4 := (hXB).cell 4
  have b5 := (hXB).cell 5
  have b6 := (hXB).cell 6
  have b7 := (hXB).cell 7
  have b8 := (hXB).cell 8
  have b9 := (hXB).cell 9
  have b10 := (hXB).cell 10
  have hlb := (hXB).lt
  simp only [List.getElem?_toArray, List.getElem?_cons_zero, List.getElem?_cons_succ] at b0 b1 b2 b3 b4 b5 b6 b7 b8 b9 b10
  clear hXA hXB
  have hR := HXR.out
  have r0 := (hR).cell 0
  have r1 := (hR).cell 1
  have r2 := (hR).cell 2
  have r3 := (hR).cell 3
  have r4 := (hR).cell 4
  have r5 := (hR).cell 5
  have r6 := (hR).cell 6
  have r7 := (hR).cell 7
  have r8 := (hR).cell 8
  have r9 := (hR).cell 9
  have r10 := (hR).cell 10
  have q0 := (hR).frozen 0
  have q1 := (hR).frozen 1
  have q2 := (hR).frozen 2
  have q3 := (hR).frozen 3
  have q4 := (hR).frozen 4
  have q5 := (hR).frozen 5
  have q6 := (hR).frozen 6
  have q7 := (hR).frozen 7
  have q8 := (hR).frozen 8
  have q9 := (hR).frozen 9
  have q10 := (hR).frozen 10
  have hlr := (hR).lt
  simp only [List.getElem?_toArray, List.getElem?_cons_zero, List.getElem?_cons_succ] at r0 r1 r2 r3 r4 r5 r6 r7 r8 r9 r10
  clear hR
  go_wp2
  refine bodyPost_ret (ret_sum Tryz.results132 rfl (Blk.store11 HXR.out)) rfl ⟨by rw [HV.out]; rfl, below_set11 HB.out (by omega)⟩
set_option maxHeartbeats 2000000 in
theorem either_no2 (x1 y1 x2 y2 : Int) (f1 l1 f2 l2 : Nat → Bool) (w : World) :
    Calls Tryz.prog 132 #[.agg #[.bool false, .int .i64 x1, .int .i64 y1, .int .u64 ((word (f1) 0 : Nat) : Int), .int .u64 ((word (f1) 1 : Nat) : Int), .int .u64 ((word (f1) 2 : Nat) : Int), .int .u64 ((word (f1) 3 : Nat) : Int), .int .u64 ((word (l1) 0 : Nat) : Int), .int .u64 ((word (l1) 1 : Nat) : Int), .int .u64 ((word (l1) 2 : Nat) : Int), .int .u64 ((word (l1) 3 : Nat) : Int)], .agg #[.bool true, .int .i64 x2, .int .i64 y2, .int .u64 ((word (f2) 0 : Nat) : Int), .int .u64 ((word (f2) 1 : Nat) : Int), .int .u64 ((word (f2) 2 : Nat) : Int), .int .u64 ((word (f2) 3 : Nat) : Int), .int .u64 ((word (l2) 0 : Nat) : Int), .int .u64 ((word (l2) 1 : Nat) : Int), .int .u64 ((word (l2) 2 : Nat) : Int), .int .u64 ((word (l2) 3 : Nat) : Int)]] w fun e w' => e = .returned (sumV (eitherF ⟨false, x1, y1, f1, l1⟩ ⟨true, x2, y2, f2, l2⟩)) ∧ Below w.heap.size w w' := by
  have HV := Lib.hid (show eitherF ⟨false, x1, y1, f1, l1⟩ ⟨true, x2, y2, f2, l2⟩ = ⟨false, x1, y1, f1, l1⟩ by unfold eitherF; rw [if_neg (by simp), if_pos rfl])
  have hb : Below w.heap.size w (((w.alloc (.cells #[.bool false, .int .i64 x1, .int .i64 y1, .int .u64 ((word (f1) 0 : Nat) : Int), .int .u64 ((word (f1) 1 : Nat) : Int), .int .u64 ((word (f1) 2 : Nat) : Int), .int .u64 ((word (f1) 3 : Nat) : Int), .int .u64 ((word (l1) 0 : Nat) : Int), .int .u64 ((word (l1) 1 : Nat) : Int), .int .u64 ((word (l1) 2 : Nat) : Int), .int .u64 ((word (l1) 3 : Nat) : Int)] 81)).alloc (.cells #[.bool true, .int .i64 x2, .int .i64 y2, .int .u64 ((word (f2) 0 : Nat) : Int), .int .u64 ((word (f2) 1 : Nat) : Int), .int .u64 ((word (f2) 2 : Nat) : Int), .int .u64 ((word (f2) 3 : Nat) : Int), .int .u64 ((word (l2) 0 : Nat) : Int), .int .u64 ((word (l2) 1 : Nat) : Int), .int .u64 ((word (l2) 2 : Nat) : Int), .int .u64 ((word (l2) 3 : Nat) : Int)] 81)).alloc (.cells #[.bool false, .int .i64 0, .int .i64 0, .int .u64 0, .int .u64 0, .int .u64 0, .int .u64 0, .int .u64 0, .int .u64 0, .int .u64 0, .int .u64 0] 81)) := (((Below.refl _ _).alloc (Nat.le_refl _) _).alloc (by simp) _).alloc (by simp; omega) _
  have HB := Lib.hid hb
  have hXA := ((Blk.new w 81 #[.bool false, .int .i64 x1, .int .i64 y1, .int .u64 ((word (f1) 0 : Nat) : Int), .int .u64 ((word (f1) 1 : Nat) : Int), .int .u64 ((word (f1) 2 : Nat) : Int), .int .u64 ((word (f1) 3 : Nat) : Int), .int .u64 ((word (l1) 0 : Nat) : Int), .int .u64 ((word (l1) 1 : Nat) : Int), .int .u64 ((word (l1) 2 : Nat) : Int), .int .u64 ((word (l1) 3 : Nat) : Int)]).alloc (.cells #[.bool true, .int .i64 x2, .int .i64 y2, .int .u64 ((word (f2) 0 : Nat) : Int), .int .u64 ((word (f2) 1 : Nat) : Int), .int .u64 ((word (f2) 2 : Nat) : Int), .int .u64 ((word (f2) 3 : Nat) : Int), .int .u64 ((word (l2) 0 : Nat) : Int), .int .u64 ((word (l2) 1 : Nat) : Int), .int .u64 ((word (l2) 2 : Nat) : Int), .int .u64 ((word (l2) 3 : Nat) : Int)] 81)).alloc (.cells #[.bool false, .int .i64 0, .int .i64 0, .int .u64 0, .int .u64 0, .int .u64 0, .int .u64 0, .int .u64 0, .int .u64 0, .int .u64 0, .int .u64 0] 81)
  have hXB := (show Blk ((w.alloc (.cells #[.bool false, .int .i64 x1, .int .i64 y1, .int .u64 ((word (f1) 0 : Nat) : Int), .int .u64 ((word (f1) 1 : Nat) : Int), .int .u64 ((word (f1) 2 : Nat) : Int), .int .u64 ((word (f1) 3 : Nat) : Int), .int .u64 ((word (l1) 0 : Nat) : Int), .int .u64 ((word (l1) 1 : Nat) : Int), .int .u64 ((word (l1) 2 : Nat) : Int), .int .u64 ((word (l1) 3 : Nat) : Int)] 81)).alloc (.cells #[.bool true, .int .i64 x2, .int .i64 y2, .int .u64 ((word (f2) 0 : Nat) : Int), .int .u64 ((word (f2) 1 : Nat) : Int), .int .u64 ((word (f2) 2 : Nat) : Int), .int .u64 ((word (f2) 3 : Nat) : Int), .int .u64 ((word (l2) 0 : Nat) : Int), .int .u64 ((word (l2) 1 : Nat) : Int), .int .u64 ((word (l2) 2 : Nat) : Int), .int .u64 ((word (l2) 3 : Nat) : Int)] 81)) (w.heap.size + 1) 81 #[.bool true, .int .i64 x2, .int .i64 y2, .int .u64 ((word (f2) 0 : Nat) : Int), .int .u64 ((word (f2) 1 : Nat) : Int), .int .u64 ((word (f2) 2 : Nat) : Int), .int .u64 ((word (f2) 3 : Nat) : Int), .int .u64 ((word (l2) 0 : Nat) : Int), .int .u64 ((word (l2) 1 : Nat) : Int), .int .u64 ((word (l2) 2 : Nat) : Int), .int .u64 ((word (l2) 3 : Nat) : Int)] from Blk.new_at (by simp)).alloc (.cells #[.bool false, .int .i64 0, .int .i64 0, .int .u64 0, .int .u64 0, .int .u64 0, .int .u64 0, .int .u64 0, .int .u64 0, .int .u64 0, .int .u64 0] 81)
  have HXR := Lib.hid (show Blk (((w.alloc (.cells #[.bool false, .int .i64 x1, .int .i64 y1, .int .u64 ((word (f1) 0 : Nat) : Int), .int .u64 ((word (f1) 1 : Nat) : Int), .int .u64 ((word (f1) 2 : Nat) : Int), .int .u64 ((word (f1) 3 : Nat) : Int), .int .u64 ((word (l1) 0 : Nat) : Int), .int .u64 ((word (l1) 1 : Nat) : Int), .int .u64 ((word (l1) 2 : Nat) : Int), .int .u64 ((word (l1) 3 : Nat) : Int)] 81)).alloc (.cells #[.bool true, .int .i64 x2, .int .i64 y2, .int .u64 ((word (f2) 0 : Nat) : Int), .int .u64 ((word (f2) 1 : Nat) : Int), .int .u64 ((word (f2) 2 : Nat) : Int), .int .u64 ((word (f2) 3 : Nat) : Int), .int .u64 ((word (l2) 0 : Nat) : Int), .int .u64 ((word (l2) 1 : Nat) : Int), .int .u64 ((word (l2) 2 : Nat) : Int), .int .u64 ((word (l2) 3 : Nat) : Int)] 81)).alloc (.cells #[.bool false, .int .i64 0, .int .i64 0, .int .u64 0, .int .u64 0, .int .u64 0, .int .u64 0, .int .u64 0, .int .u64 0, .int .u64 0, .int .u64 0] 81)) (w.heap.size + 1 + 1) 81 #[.bool false, .int .i64 0, .int .i64 0, .int .u64 0, .int .u64 0, .int .u64 0, .int .u64 0, .int .u64 0, .int .u64 0, .int .u64 0, .int .u64 0] from Blk.new_at (by simp))
  clear hb
  go_enter Tryz.func132, Tryz.ntmps132
  go_upto_region 1 with fail
  generalize (((w.alloc (.cells #[.bool false, .int .i64 x1, .int .i64 y1, .int .u64 ((word (f1) 0 : Nat) : Int), .int .u64 ((word (f1) 1 : Nat) : Int), .int .u64 ((word (f1) 2 : Nat) : Int), .int .u64 ((word (f1) 3 : Nat) : Int), .int .u64 ((word (l1) 0 : Nat) : Int), .int .u64 ((word (l1) 1 : Nat) : Int), .int .u64 ((word (l1) 2 : Nat) : Int), .int .u64 ((word (l1) 3 : Nat) : Int)] 81)).alloc (.cells #[.bool true, .int .i64 x2, .int .i64 y2, .int .u64 ((word (f2) 0 : Nat) : Int), .int .u64 ((word (f2) 1 : Nat) : Int), .int .u64 ((word (f2) 2 : Nat) : Int), .int .u64 ((word (f2) 3 : Nat) : Int), .int .u64 ((word (l2) 0 : Nat) : Int), .int .u64 ((word (l2) 1 : Nat) : Int), .int .u64 ((word (l2) 2 : Nat) : Int), .int .u64 ((word (l2) 3 : Nat) : Int)] 81)).alloc (.cells #[.bool false, .int .i64 0, .int .i64 0, .int .u64 0, .int .u64 0, .int .u64 0, .int .u64 0, .int .u64 0, .int .u64 0, .int .u64 0, .int .u64 0] 81)) = w2 at *
  have a0 := (hXA).cell 0
  have a1 := (hXA).cell 1
  have a2 := (hXA).cell 2
  have a3 := (hXA).cell 3
  have a4 := (hXA).cell 4
  have a5 := (hXA).cell 5
  have a6 := (hXA).cell 6
  have a7 := (hXA).cell 7
  have a8 := (hXA).cell 8
  have a9 := (hXA).cell 9
  have a10 := (hXA).cell 10
  have hla := (hXA).lt
  simp only [List.getElem?_toArray, List.getElem?_cons_zero, List.getElem?_cons_succ] at a0 a1 a2 a3 a4 a5 a6 a7 a8 a9 a10
  have b0 := (hXB).cell 0
  have b1 := (hXB).cell 1
  have b2 := (hXB).cell 2
  have b3 := (hXB).cell 3
  have b4 := (hXB).cell 4
  have b5 := (hXB).cell 5
  have b6 := (hXB).cell 6
  have b7 := (hXB).cell 7
  have b8 := (hXB).cell 8
  have b9 := (hXB).cell 9
  have b10 := (hXB).cell 10
  have hlb := (hXB).lt
  simp only [List.getElem?_toArray, List.getElem?_cons_zero, List.getElem?_cons_succ] at b0 b1 b2 b3 b4 b5 b6 b7 b8 b9 b10
  clear hXA hXB
  have hR := HXR.out
  have r0 := (hR).cell 0
  have r1 := (hR).cell 1
  have r2 := (hR).cell 2
  have r3 := (hR).cell 3
  have r4 := (hR).cell 4
  have r5 := (hR).cell 5
  have r6 := (hR).cell 6
  have r7 := (hR).cell 7
  have r8 := (hR).cell 8
  have r9 := (hR).cell 9
  have r10 := (hR).cell 10
  have q0 := (hR).frozen 0
  have q1 := (hR).frozen 1
  have q2 := (hR).frozen 2
  have q3 := (hR).frozen 3
  have q4 := (hR).frozen 4
  have q5 := (hR).frozen 5
  have q6 := (hR).frozen 6
  have q7 := (hR).frozen 7
  have q8 := (hR).frozen 8
  have q9 := (hR).frozen 9
  have q10 := (hR).frozen 10
  have hlr := (hR).lt
  simp only [List.getElem?_toArray, List.getElem?_cons_zero, List.getElem?_cons_succ] at r0 r1 r2 r3 r4 r5 r6 r7 r8 r9 r10
  clear hR
  go_wp2
  refine bodyPost_ret (ret_sum Tryz.results132 rfl (Blk.store11 HXR.out)) rfl ⟨by rw [HV.out]; rfl, below_set11 HB.out (by omega)⟩
theorem feither_go (a b : SumS) (w : World) :
    Calls Tryz.prog 132 #[sumV a, sumV b] w fun e w' => e = .returned (sumV (eitherF a b)) ∧ Below w.heap.size w w' := by
  obtain ⟨h1, x1, y1, f1, l1⟩ := a
  obtain ⟨h2, x2, y2, f2, l2⟩ := b
  cases h1 with
  | true => exact either_no1 x1 y1 x2 y2 f1 l1 f2 l2 h2 w
  | false =>
    cases h2 with
    | true => exact either_no2 x1 y1 x2 y2 f1 l1 f2 l2 w
    | false => exact either_words x1 y1 x2 y2 f1 l1 f2 l2 w
set_option maxHeartbeats 2000000 in
theorem rep_nil1 (h1 : Bool) (x1 y1 : Int) (f1 l1 : Nat → Bool) (lo hi : Int) (w : World) (hh : hi = 0) :
    Calls Tryz.prog 133 #[.agg #[.bool h1, .int .i64 x1, .int .i64 y1, .int .u64 ((word (f1) 0 : Nat) : Int), .int .u64 ((word (f1) 1 : Nat) : Int), .int .u64 ((word (f1) 2 : Nat) : Int), .int .u64 ((word (f1) 3 : Nat) : Int), .int .u64 ((word (l1) 0 : Nat) : Int), .int .u64 ((word (l1) 1 : Nat) : Int), .int .u64 ((word (l1) 2 : Nat) : Int), .int .u64 ((word (l1) 3 : Nat) : Int)], .int .i64 lo, .int .i64 hi] w fun e w' => e = .returned (sumV (repeatedF ⟨h1, x1, y1, f1, l1⟩ lo hi)) ∧ Below w.heap.size w w' := by
  have HV := Lib.hid (show repeatedF ⟨h1, x1, y1, f1, l1⟩ lo hi = fnilF by unfold repeatedF; rw [if_pos (.inl hh)])
  have e1 : (hi == 0) = true := by rw [hh]; rfl
  clear hh
  have hb : Below w.heap.size w ((w.alloc (.cells #[.bool h1, .int .i64 x1, .int .i64 y1, .int .u64 ((word (f1) 0 : Nat) : Int), .int .u64 ((word (f1) 1 : Nat) : Int), .int .u64 ((word (f1) 2 : Nat) : Int), .int .u64 ((word (f1) 3 : Nat) : Int), .int .u64 ((word (l1) 0 : Nat) : Int), .int .u64 ((word (l1) 1 : Nat) : Int), .int .u64 ((word (l1) 2 : Nat) : Int), .int .u64 ((word (l1) 3 : Nat) : Int)] 81)).alloc (.cells #[.bool false, .int .i64 0, .int .i64 0, .int .u64 0, .int .u64 0, .int .u64 0, .int .u64 0, .int .u64 0, .int .u64 0, .int .u64 0, .int .u64 0] 81)) := ((Below.refl _ _).alloc (Nat.le_refl _) _).alloc (by simp) _
  have HB := Lib.hid hb
  have hXA := (Blk.new w 81 #[.bool h1, .int .i64 x1, .int .i64 y1, .int .u64 ((word (f1) 0 : Nat) : Int), .int .u64 ((word (f1) 1 : Nat) : Int), .int .u64 ((word (f1) 2 : Nat) : Int), .int .u64 ((word (f1) 3 : Nat) : Int), .int .u64 ((word (l1) 0 : Nat) : Int), .int .u64 ((word (l1) 1 : Nat) : Int), .int .u64 ((word (l1) 2 : Nat) : Int), .int .u64 ((word (l1) 3 : Nat) : Int)]).alloc (.cells #[.bool false, .int .i64 0, .int .i64 0, .int .u64 0, .int .u64 0, .int .u64 0, .int .u64 0, .int .u64 0, .int .u64 0, .int .u64 0, .int .u64 0] 81)
  have HXA := Lib.hid hXA
  have HXR := Lib.hid (show Blk ((w.alloc (.cells #[.bool h1, .int .i64 x1, .int .i64 y1, .int .u64 ((word (f1) 0 : Nat) : Int), .int .u64 ((word (f1) 1 : Nat) : Int), .int .u64 ((word (f1) 2 : Nat) : Int), .int .u64 ((word (f1) 3 : Nat) : Int), .int .u64 ((word (l1) 0 : Nat) : Int), .int .u64 ((word (l1) 1 : Nat) : Int), .int .u64 ((word (l1) 2 : Nat) : Int), .int .u64 ((word (l1) 3 : Nat) : Int)] 81)).alloc (.cells #[.bool false, .int .i64 0, .int .i64 0, .int .u64 0, .int .u64 0, .int .u64 0, .int .u64 0, .int .u64 0, .int .u64 0, .int .u64 0, .int .u64 0] 81)) (w.heap.size + 1) 81 #[.bool false, .int .i64 0, .int .i64 0, .int .u64 0, .int .u64 0, .int .u64 0, .int .u64 0, .int .u64 0, .int .u64 0, .int .u64 0, .int .u64 0] from Blk.new_at (by simp))
  clear hb
  go_enter Tryz.func133, Tryz.ntmps133
  go_upto_region 1 with fail
  generalize ((w.alloc (.cells #[.bool h1, .int .i64 x1, .int .i64 y1, .int .u64 ((word (f1) 0 : Nat) : Int), .int .u64 ((word (f1) 1 : Nat) : Int), .int .u64 ((word (f1) 2 : Nat) : Int), .int .u64 ((word (f1) 3 : Nat) : Int), .int .u64 ((word (l1) 0 : Nat) : Int), .int .u64 ((word (l1) 1 : Nat) : Int), .int .u64 ((word (l1) 2 : Nat) : Int), .int .u64 ((word (l1) 3 : Nat) : Int)] 81)).alloc (.cells #[.bool false, .int .i64 0, .int .i64 0, .int .u64 0, .int .u64 0, .int .u64 0, .int .u64 0, .int .u64 0, .int .u64 0, .int .u64 0, .int .u64 0] 81)) = w2 at *
  have a0 := (hXA).cell 0
  have a1 := (hXA).cell 1
  have a2 := (hXA).cell 2
  have a3 := (hXA).cell 3
  have a4 := (hXA).cell 4
  have a5 := (hXA).cell 5
  have a6 := (hXA).cell 6
  have a7 := (hXA).cell 7
  have a8 := (hXA).cell 8
  have a9 := (hXA).cell 9
  have a10 := (hXA).cell 10
  have hla := (hXA).lt
  simp only [List.getElem?_toArray, List.getElem?_cons_zero, List.getElem?_cons_succ] at a0 a1 a2 a3 a4 a5 a6 a7 a8 a9 a10
  clear hXA
  have hR := HXR.out
  have r0 := (hR).cell 0
  have r1 := (hR).cell 1
  have r2 := (hR).cell 2
  have r3 := (hR).cell 3
  have r4 := (hR).cell 4
  have r5 := (hR).cell 5
  have r6 := (hR).cell 6
  have r7 := (hR).cell 7
  have r8 := (hR).cell 8
  have r9 := (hR).cell 9
  have r10 := (hR).cell 10
  have q0 := (hR).frozen 0
  have q1 := (hR).frozen 1
  have q2 := (hR).frozen 2
  have q3 := (hR).frozen 3
  have q4 := (hR).frozen 4
  have q5 := (hR).frozen 5
  have q6 := (hR).frozen 6
  have q7 := (hR).frozen 7
  have q8 := (hR).frozen 8
  have q9 := (hR).frozen 9
  have q10 := (hR).frozen 10
  have hlr := (hR).lt
  simp only [List.getElem?_toArray, List.getElem?_cons_zero, List.getElem?_cons_succ] at r0 r1 r2 r3 r4 r5 r6 r7 r8 r9 r10
  clear hR
  go_wp2
  refine bodyPost_ret (ret_sum Tryz.results133 rfl (Blk.store11 HXR.out)) rfl ⟨by rw [HV.out, fnil_val], below_set11 HB.out (by omega)⟩
set_option maxHeartbeats 2000000 in
theorem rep_nil2 (x1 y1 : Int) (f1 l1 : Nat → Bool) (lo hi : Int) (w : World) (hh : hi ≠ 0) (h0 : lo = 0) :
    Calls Tryz.prog 133 #[.agg #[.bool true, .int .i64 x1, .int .i64 y1, .int .u64 ((word (f1) 0 : Nat) : Int), .int .u64 ((word (f1) 1 : Nat) : Int), .int .u64 ((word (f1) 2 : Nat) : Int), .int .u64 ((word (f1) 3 : Nat) : Int), .int .u64 ((word (l1) 0 : Nat) : Int), .int .u64 ((word (l1) 1 : Nat) : Int), .int .u64 ((word (l1) 2 : Nat) : Int), .int .u64 ((word (l1) 3 : Nat) : Int)], .int .i64 lo, .int .i64 hi] w fun e w' => e = .returned (sumV (repeatedF ⟨true, x1, y1, f1, l1⟩ lo hi)) ∧ Below w.heap.size w w' := by
  have HV := Lib.hid (show repeatedF ⟨true, x1, y1, f1, l1⟩ lo hi = fnilF by unfold repeatedF; rw [if_pos (.inr ⟨rfl, h0⟩)])
  have e1 : (hi == 0) = false := by rw [beq_eq_false_iff_ne]; exact hh
  have e2 : (lo == 0) = true := by rw [h0]; rfl
  clear hh h0
  have hb : Below w.heap.size w ((w.alloc (.cells #[.bool true, .int .i64 x1, .int .i64 y1, .int .u64 ((word (f1) 0 : Nat) : Int), .int .u64 ((word (f1) 1 : Nat) : Int), .int .u64 ((word (f1) 2 : Nat) : Int), .int .u64 ((word (f1) 3 : Nat) : Int), .int .u64 ((word (l1) 0 : Nat) : Int), .int .u64 ((word (l1) 1 : Nat) : Int), .int .u64 ((word (l1) 2 : Nat) : Int), .int .u64 ((word (l1) 3 : Nat) : Int)] 81)).alloc (.cells #[.bool false, .int .i64 0, .int .i64 0, .int .u64 0, .int .u64 0, .int .u64 0, .int .u64 0, .int .u64 0, .int .u64 0, .int .u64 0, .int .u64 0] 81)) := ((Below.refl _ _).alloc (Nat.le_refl _) _).alloc (by simp) _
  have HB := Lib.hid hb
  have hXA := (Blk.new w 81 #[.bool true, .int .i64 x1, .int .i64 y1, .int .u64 ((word (f1) 0 : Nat) : Int), .int .u64 ((word (f1) 1 : Nat) : Int), .int .u64 ((word (f1) 2 : Nat) : Int), .int .u64 ((word (f1) 3 : Nat) : Int), .int .u64 ((word (l1) 0 : Nat) : Int), .int .u64 ((word (l1) 1 : Nat) : Int), .int .u64 ((word (l1) 2 : Nat) : Int), .int .u64 ((word (l1) 3 : Nat) : Int)]).alloc (.cells #[.bool false, .int .i64 0, .int .i64 0, .int .u64 0, .int .u64 0, .int .u64 0, .int .u64 0, .int .u64 0, .int .u64 0, .int .u64 0, .int .u64 0] 81)
  have HXA := Lib.hid hXA
  have HXR := Lib.hid (show Blk ((w.alloc (.cells #[.bool true, .int .i64 x1, .int .i64 y1, .int .u64 ((word (f1) 0 : Nat) : Int), .int .u64 ((word (f1) 1 : Nat) : Int), .int .u64 ((word (f1) 2 : Nat) : Int), .int .u64 ((word (f1) 3 : Nat) : Int), .int .u64 ((word (l1) 0 : Nat) : Int), .int .u64 ((word (l1) 1 : Nat) : Int), .int .u64 ((word (l1) 2 : Nat) : Int), .int .u64 ((word (l1) 3 : Nat) : Int)] 81)).alloc (.cells #[.bool false, .int .i64 0, .int .i64 0, .int .u64 0, .int .u64 0, .int .u64 0, .int .u64 0, .int .u64 0, .int .u64 0, .int .u64 0, .int .u64 0] 81)) (w.heap.size + 1) 81 #[.bool false, .int .i64 0, .int .i64 0, .int .u64 0, .int .u64 0, .int .u64 0, .int .u64 0, .int .u64 0, .int .u64 0, .int .u64 0, .int .u64 0] from Blk.new_at (by simp))
  clear hb
  go_enter Tryz.func133, Tryz.ntmps133
  go_upto_region 1 with fail
  generalize ((w.alloc (.cells #[.bool true, .int .i64 x1, .int .i64 y1, .int .u64 ((word (f1) 0 : Nat) : Int), .int .u64 ((word (f1) 1 : Nat) : Int), .int .u64 ((word (f1) 2 : Nat) : Int), .int .u64 ((word (f1) 3 : Nat) : Int), .int .u64 ((word (l1) 0 : Nat) : Int), .int .u64 ((word (l1) 1 : Nat) : Int), .int .u64 ((word (l1) 2 : Nat) : Int), .int .u64 ((word (l1) 3 : Nat) : Int)] 81)).alloc (.cells #[.bool false, .int .i64 0, .int .i64 0, .int .u64 0, .int .u64 0, .int .u64 0, .int .u64 0, .int .u64 0, .int .u64 0, .int .u64 0, .int .u64 0] 81)) = w2 at *
  have a0 := (hXA).cell 0
  have a1 := (hXA).cell 1
  have a2 := (hXA).cell 2
  have a3 := (hXA).cell 3
  have a4 := (hXA).cell 4
  have a5 := (hXA).cell 5
  have a6 := (hXA).cell 6
  have a7 := (hXA).cell 7
  have a8 := (hXA).cell 8
  have a9 := (hXA).cell 9
  have a10 := (hXA).cell 10
  have hla := (hXA).lt
  simp only [List.getElem?_toArray, List.getElem?_cons_zero, List.getElem?_cons_succ] at a0 a1 a2 a3 a4 a5 a6 a7 a8 a9 a10
  clear hXA
  have hR := HXR.out
  have r0 := (hR).cell 0
  have r1 := (hR).cell 1
  have r2 := (hR).cell 2
  have r3 := (hR).cell 3
  have r4 := (hR).cell 4
  have r5 := (hR).cell 5
  have r6 := (hR).cell 6
  have r7 := (hR).cell 7
  have r8 := (hR).cell 8
  have r9 := (hR).cell 9
  have r10 := (hR).cell 10
  have q0 := (hR).frozen 0
  have q1 := (hR).frozen 1
  have q2 := (hR).frozen 2
  have q3 := (hR).frozen 3
  have q4 := (hR).frozen 4
  have q5 := (hR).frozen 5
  have q6 := (hR).frozen 6
  have q7 := (hR).frozen 7
  have q8 := (hR).frozen 8
  have q9 := (hR).frozen 9
  have q10 := (hR).frozen 10
  have hlr := (hR).lt
  simp only [List.getElem?_toArray, List.getElem?_cons_zero, List.getElem?_cons_succ] at r0 r1 r2 r3 r4 r5 r6 r7 r8 r9 r10
  clear hR
  go_wp2
  refine bodyPost_ret (ret_sum Tryz.results133 rfl (Blk.store11 HXR.out)) rfl ⟨by rw [HV.out, fnil_val], below_set11 HB.out (by omega)⟩
set_option maxHeartbeats 2000000 in
theorem rep_no (x1 y1 : Int) (f1 l1 : Nat → Bool) (lo hi : Int) (w : World) (hh : hi ≠ 0) (h0 : lo ≠ 0) :
    Calls Tryz.prog 133 #[.agg #[.bool true, .int .i64 x1, .int .i64 y1, .int .u64 ((word (f1) 0 : Nat) : Int), .int .u64 ((word (f1) 1 : Nat) : Int), .int .u64 ((word (f1) 2 : Nat) : Int), .int .u64 ((word (f1) 3 : Nat) : Int), .int .u64 ((word (l1) 0 : Nat) : Int), .int .u64 ((word (l1) 1 : Nat) : Int), .int .u64 ((word (l1) 2 : Nat) : Int), .int .u64 ((word (l1) 3 : Nat) : Int)], .int .i64 lo, .int .i64 hi] w fun e w' => e = .returned (sumV (repeatedF ⟨true, x1, y1, f1, l1⟩ lo hi)) ∧ Below w.heap.size w w' := by
  have HV := Lib.hid (show repeatedF ⟨true, x1, y1, f1, l1⟩ lo hi = nothingF by unfold repeatedF; rw [if_neg (by simp [hh, h0]), if_pos rfl])
  have e1 : (hi == 0) = false := by rw [beq_eq_false_iff_ne]; exact hh
  have e2 : (lo == 0) = false := by rw [beq_eq_false_iff_ne]; exact h0
  clear hh h0
  have hb : Below w.heap.size w ((w.alloc (.cells #[.bool true, .int .i64 x1, .int .i64 y1, .int .u64 ((word (f1) 0 : Nat) : Int), .int .u64 ((word (f1) 1 : Nat) : Int), .int .u64 ((word (f1) 2 : Nat) : Int), .int .u64 ((word (f1) 3 : Nat) : Int), .int .u64 ((word (l1) 0 : Nat) : Int), .int .u64 ((word (l1) 1 : Nat) : Int), .int .u64 ((word (l1) 2 : Nat) : Int), .int .u64 ((word (l1) 3 : Nat) : Int)] 81)).alloc (.cells #[.bool false, .int .i64 0, .int .i64 0, .int .u64 0, .int .u64 0, .int .u64 0, .int .u64 0, .int .u64 0, .int .u64 0, .int .u64 0, .int .u64 0] 81)) := ((Below.refl _ _).alloc (Nat.le_refl _) _).alloc (by simp) _
  have HB := Lib.hid hb
  have hXA := (Blk.new w 81 #[.bool true, .int .i64 x1, .int .i64 y1, .int .u64 ((word (f1) 0 : Nat) : Int), .int .u64 ((word (f1) 1 : Nat) : Int), .int .u64 ((word (f1) 2 : Nat) : Int), .int .u64 ((word (f1) 3 : Nat) : Int), .int .u64 ((word (l1) 0 : Nat) : Int), .int .u64 ((word (l1) 1 : Nat) : Int), .int .u64 ((word (l1) 2 : Nat) : Int), .int .u64 ((word (l1) 3 : Nat) : Int)]).alloc (.cells #[.bool false, .int .i64 0, .int .i64 0, .int .u64 0, .int .u64 0, .int .u64 0, .int .u64 0, .int .u64 0, .int .u64 0, .int .u64 0, .int .u64 0] 81)
  have HXA := Lib.hid hXA
  have HXR := Lib.hid (show Blk ((w.alloc (.cells #[.bool true, .int .i64 x1, .int .i64 y1, .int .u64 ((word (f1) 0 : Nat) : Int), .int .u64 ((word (f1) 1 : Nat) : Int), .int .u64 ((word (f1) 2 : Nat) : Int), .int .u64 ((word (f1) 3 : Nat) : Int), .int .u64 ((word (l1) 0 : Nat) : Int), .int .u64 ((word (l1) 1 : Nat) : Int), .int .u64 ((word (l1) 2 : Nat) : Int), .int .u64 ((word (l1) 3 : Nat) : Int)] 81)).alloc (.cells #[.bool false, .int .i64 0, .int .i64 0, .int .u64 0, .int .u64 0, .int .u64 0, .int .u64 0, .int .u64 0, .int .u64 0, .int .u64 0, .int .u64 0] 81)) (w.heap.size + 1) 81 #[.bool false, .int .i64 0, .int .i64 0, .int .u64 0, .int .u64 0, .int .u64 0, .int .u64 0, .int .u64 0, .int .u64 0, .int .u64 0, .int .u64 0] from Blk.new_at (by simp))
  clear hb
  go_enter Tryz.func133, Tryz.ntmps133
  go_upto_region 1 with fail
  generalize ((w.alloc (.cells #[.bool true, .int .i64 x1, .int .i64 y1, .int .u64 ((word (f1) 0 : Nat) : Int), .int .u64 ((word (f1) 1 : Nat) : Int), .int .u64 ((word (f1) 2 : Nat) : Int), .int .u64 ((word (f1) 3 : Nat) : Int), .int .u64 ((word (l1) 0 : Nat) : Int), .int .u64 ((word (l1) 1 : Nat) : Int), .int .u64 ((word (l1) 2 : Nat) : Int), .int .u64 ((word (l1) 3 : Nat) : Int)] 81)).alloc (.cells #[.bool false, .int .i64 0, .int .i64 0, .int .u64 0, .int .u64 0, .int .u64 0, .int .u64 0, .int .u64 0, .int .u64 0, .int .u64 0, .int .u64 0] 81)) = w2 at *
  have a0 := (hXA).cell 0
  have a1 := (hXA).cell 1
  have a2 := (hXA).cell 2
  have a3 := (hXA).cell 3
  have a4 := (hXA).cell 4
  have a5 := (hXA).cell 5
  have a6 := (hXA).cell 6
  have a7 := (hXA).cell 7
  have a8 := (hXA).cell 8
  have a9 := (hXA).cell 9
  have a10 := (hXA).cell 10
  have hla := (hXA).lt
  simp only [List.getElem?_toArray, List.getElem?_cons_zero, List.getElem?_cons_succ] at a0 a1 a2 a3 a4 a5 a6 a7 a8 a9 a10
  clear hXA
  go_wp2_with fail
  refine (nothing_go _).mono ?_
  rintro e w3 ⟨rfl, hb3⟩
  have hR := HXR.out.below hb3 HXR.out.lt
  have HB3 := Lib.hid (HB.out.trans (hb3.mono HB.out.size))
  have HR := Lib.hid hR
  have r0 := (hR).cell 0
  have r1 := (hR).cell 1
  have r2 := (hR).cell 2
  have r3 := (hR).cell 3
  have r4 := (hR).cell 4
  have r5 := (hR).cell 5
  have r6 := (hR).cell 6
  have r7 := (hR).cell 7
  have r8 := (hR).cell 8
  have r9 := (hR).cell 9
  have r10 := (hR).cell 10
  have q0 := (hR).frozen 0
  have q1 := (hR).frozen 1
  have q2 := (hR).frozen 2
  have q3 := (hR).frozen 3
  have q4 := (hR).frozen 4
  have q5 := (hR).frozen 5
  have q6 := (hR).frozen 6
  have q7 := (hR).frozen 7
  have q8 := (hR).frozen 8
  have q9 := (hR).frozen 9
  have q10 := (hR).frozen 10
  have hlr := (hR).lt
  simp only [List.getElem?_toArray, List.getElem?_cons_zero, List.getElem?_cons_succ] at r0 r1 r2 r3 r4 r5 r6 r7 r8 r9 r10
  clear hR hb3
  rw [nothing_val]
  dsimp only
  go_wp2
  refine bodyPost_ret (ret_sum Tryz.results133 rfl (Blk.store11 HR.out)) rfl ⟨by rw [HV.out, nothing_val], below_set11 HB3.out (by omega)⟩
set_option maxHeartbeats 4000000 in
theorem rep_yes (x1 y1 : Int) (f1 l1 : Nat → Bool) (lo hi : Int) (w : World) (hh : hi ≠ 0) (ha : SumOk ⟨false, x1, y1, f1, l1⟩) (h0 : 0 ≤ lo ∧ lo ≤ endF) (h1 : 0 ≤ hi ∧ hi ≤ endF) :
    Calls Tryz.prog 133 #[.agg #[.bool false, .int .i64 x1, .int .i64 y1, .int .u64 ((word (f1) 0 : Nat) : Int), .int .u64 ((word (f1) 1 : Nat) : Int), .int .u64 ((word (f1) 2 : Nat) : Int), .int .u64 ((word (f1) 3 : Nat) : Int), .int .u64 ((word (l1) 0 : Nat) : Int), .int .u64 ((word (l1) 1 : Nat) : Int), .int .u64 ((word (l1) 2 : Nat) : Int), .int .u64 ((word (l1) 3 : Nat) : Int)], .int .i64 lo, .int .i64 hi] w fun e w' => e = .returned (sumV (repeatedF ⟨false, x1, y1, f1, l1⟩ lo hi)) ∧ Below w.heap.size w w' := by
  have HV := Lib.hid (show repeatedF ⟨false, x1, y1, f1, l1⟩ lo hi = ⟨false, timF lo x1, timF hi y1, f1, l1⟩ by unfold repeatedF; rw [if_neg (by simp [hh]), if_neg (by simp)])
  have e1 : (hi == 0) = false := by rw [beq_eq_false_iff_ne]; exact hh
  have p1 := ha.short rfl
  have p2 := ha.long rfl
  have te : topI ≤ endF := by decide
  dsimp only at p1 p2
  have hx : 0 ≤ x1 ∧ x1 ≤ endF := by omega
  have hy : 0 ≤ y1 ∧ y1 ≤ endF := by omega
  clear hh p1 p2 te ha
  have hb : Below w.heap.size w ((w.alloc (.cells #[.bool false, .int .i64 x1, .int .i64 y1, .int .u64 ((word (f1) 0 : Nat) : Int), .int .u64 ((word (f1) 1 : Nat) : Int), .int .u64 ((word (f1) 2 : Nat) : Int), .int .u64 ((word (f1) 3 : Nat) : Int), .int .u64 ((word (l1) 0 : Nat) : Int), .int .u64 ((word (l1) 1 : Nat) : Int), .int .u64 ((word (l1) 2 : Nat) : Int), .int .u64 ((word (l1) 3 : Nat) : Int)] 81)).alloc (.cells #[.bool false, .int .i64 0, .int .i64 0, .int .u64 0, .int .u64 0, .int .u64 0, .int .u64 0, .int .u64 0, .int .u64 0, .int .u64 0, .int .u64 0] 81)) := ((Below.refl _ _).alloc (Nat.le_refl _) _).alloc (by simp) _
  have HB := Lib.hid hb
  have hXA := (Blk.new w 81 #[.bool false, .int .i64 x1, .int .i64 y1, .int .u64 ((word (f1) 0 : Nat) : Int), .int .u64 ((word (f1) 1 : Nat) : Int), .int .u64 ((word (f1) 2 : Nat) : Int), .int .u64 ((word (f1) 3 : Nat) : Int), .int .u64 ((word (l1) 0 : Nat) : Int), .int .u64 ((word (l1) 1 : Nat) : Int), .int .u64 ((word (l1) 2 : Nat) : Int), .int .u64 ((word (l1) 3 : Nat) : Int)]).alloc (.cells #[.bool false, .int .i64 0, .int .i64 0, .int .u64 0, .int .u64 0, .int .u64 0, .int .u64 0, .int .u64 0, .int .u64 0, .int .u64 0, .int .u64 0] 81)
  have HXA := Lib.hid hXA
  have HXR := Lib.hid (show Blk ((w.alloc (.cells #[.bool false, .int .i64 x1, .int .i64 y1, .int .u64 ((word (f1) 0 : Nat) : Int), .int .u64 ((word (f1) 1 : Nat) : Int), .int .u64 ((word (f1) 2 : Nat) : Int), .int .u64 ((word (f1) 3 : Nat) : Int), .int .u64 ((word (l1) 0 : Nat) : Int), .int .u64 ((word (l1) 1 : Nat) : Int), .int .u64 ((word (l1) 2 : Nat) : Int), .int .u64 ((word (l1) 3 : Nat) : Int)] 81)).alloc (.cells #[.bool false, .int .i64 0, .int .i64 0, .int .u64 0, .int .u64 0, .int .u64 0, .int .u64 0, .int .u64 0, .int .u64 0, .int .u64 0, .int .u64 0] 81)) (w.heap.size + 1) 81 #[.bool false, .int .i64 0, .int .i64 0, .int .u64 0, .int .u64 0, .int .u64 0, .int .u64 0, .int .u64 0, .int .u64 0, .int .u64 0, .int .u64 0] from Blk.new_at (by simp))
  clear hb
  go_enter Tryz.func133, Tryz.ntmps133
  go_upto_region 1 with fail
  generalize ((w.alloc (.cells #[.bool false, .int .i64 x1, .int .i64 y1, .int .u64 ((word (f1) 0 : Nat) : Int), .int .u64 ((word (f1) 1 : Nat) : Int), .int .u64 ((word (f1) 2 : Nat) : Int), .int .u64 ((word (f1) 3 : Nat) : Int), .int .u64 ((word (l1) 0 : Nat) : Int), .int .u64 ((word (l1) 1 : Nat) : Int), .int .u64 ((word (l1) 2 : Nat) : Int), .int .u64 ((word (l1) 3 : Nat) : Int)] 81)).alloc (.cells #[.bool false, .int .i64 0, .int .i64 0, .int .u64 0, .int .u64 0, .int .u64 0, .int .u64 0, .int .u64 0, .int .u64 0, .int .u64 0, .int .u64 0] 81)) = w2 at *
  have a0 := (hXA).cell 0
  have a1 := (hXA).cell 1
  have a2 := (hXA).cell 2
  have a3 := (hXA).cell 3
  have a4 := (hXA).cell 4
  have a5 := (hXA).cell 5
  have a6 := (hXA).cell 6
  have a7 := (hXA).cell 7
  have a8 := (hXA).cell 8
  have a9 := (hXA).cell 9
  have a10 := (hXA).cell 10
  have hla := (hXA).lt
  simp only [List.getElem?_toArray, List.getElem?_cons_zero, List.getElem?_cons_succ] at a0 a1 a2 a3 a4 a5 a6 a7 a8 a9 a10
  clear hXA
  go_wp2_with fail
  refine (ftimes_go _ _ _ h0 hx).mono ?_
  rintro e w3 ⟨rfl, hb3⟩
  have hA3 := HXA.out.below hb3 HXA.out.lt
  have HA4 := Lib.hid (hA3.set_ 1 (.int .i64 (timF lo x1)))
  have HR4 := Lib.hid ((HXR.out.below hb3 HXR.out.lt).far (p := ⟨w.heap.size, 1, none⟩) (by show w.heap.size + 1 ≠ w.heap.size; omega) (.int .i64 (timF lo x1)))
  have HB4 := Lib.hid ((HB.out.trans (hb3.mono HB.out.size)).setCell (p := ⟨w.heap.size, 1, none⟩) (Nat.le_refl _) (.int .i64 (timF lo x1)))
  clear a0 a1 a2 a3 a4 a5 a6 a7 a8 a9 a10
  have c0 := (hA3).cell 0
  have c1 := (hA3).cell 1
  have c2 := (hA3).cell 2
  have c3 := (hA3).cell 3
  have c4 := (hA3).cell 4
  have c5 := (hA3).cell 5
  have c6 := (hA3).cell 6
  have c7 := (hA3).cell 7
  have c8 := (hA3).cell 8
  have c9 := (hA3).cell 9
  have c10 := (hA3).cell 10
  have d0 := (hA3).frozen 0
  have d1 := (hA3).frozen 1
  have d2 := (hA3).frozen 2
  have d3 := (hA3).frozen 3
  have d4 := (hA3).frozen 4
  have d5 := (hA3).frozen 5
  have d6 := (hA3).frozen 6
  have d7 := (hA3).frozen 7
  have d8 := (hA3).frozen 8
  have d9 := (hA3).frozen 9
  have d10 := (hA3).frozen 10
  have hlc := (hA3).lt
  simp only [List.getElem?_toArray, List.getElem?_cons_zero, List.getElem?_cons_succ] at c0 c1 c2 c3 c4 c5 c6 c7 c8 c9 c10
  clear hA3 hb3 HXA HXR HB hla
  dsimp only
  go_upto_region 6 with fail
  clear c0 c1 c2 c3 c4 c5 c6 c7 c8 c9 c10
  clear d0 d1 d2 d3 d4 d5 d6 d7 d8 d9 d10
  clear hlc
  generalize w3.setCell ⟨w.heap.size, 1, none⟩ (.int .i64 (timF lo x1)) = w4 at *
  have a2 := HA4.out.cell 2
  have hla := HA4.out.lt
  simp only [List.setIfInBounds_toArray, List.set_cons_succ, List.set_cons_zero, List.getElem?_toArray, List.getElem?_cons_zero, List.getElem?_cons_succ] at a2
  go_wp2_with fail
  refine (ftimes_go _ _ _ h1 hy).mono ?_
  rintro e w5 ⟨rfl, hb5⟩
  have hA5 := HA4.out.below hb5 HA4.out.lt
  have HA6 := Lib.hid (hA5.set_ 2 (.int .i64 (timF hi y1)))
  have HR6 := Lib.hid ((HR4.out.below hb5 HR4.out.lt).far (p := ⟨w.heap.size, 2, none⟩) (by show w.heap.size + 1 ≠ w.heap.size; omega) (.int .i64 (timF hi y1)))
  have HB6 := Lib.hid ((HB4.out.trans (hb5.mono HB4.out.size)).setCell (p := ⟨w.heap.size, 2, none⟩) (Nat.le_refl _) (.int .i64 (timF hi y1)))
  have c2 := hA5.cell 2
  have d2 := hA5.frozen 2
  have hlc := hA5.lt
  simp only [List.setIfInBounds_toArray, List.set_cons_succ, List.set_cons_zero, List.getElem?_toArray, List.getElem?_cons_zero, List.getElem?_cons_succ] at c2
  clear hA5 hb5 a2 hla HA4 HR4 HB4
  dsimp only
  go_upto_region 7 with fail
  clear c2 d2 hlc
  generalize w5.setCell ⟨w.heap.size, 2, none⟩ (.int .i64 (timF hi y1)) = w6 at *
  have hA6 := HA6.out
  simp only [List.setIfInBounds_toArray, List.set_cons_succ, List.set_cons_zero] at hA6
  have a0 := (hA6).cell 0
  have a1 := (hA6).cell 1
  have a2 := (hA6).cell 2
  have a3 := (hA6).cell 3
  have a4 := (hA6).cell 4
  have a5 := (hA6).cell 5
  have a6 := (hA6).cell 6
  have a7 := (hA6).cell 7
  have a8 := (hA6).cell 8
  have a9 := (hA6).cell 9
  have a10 := (hA6).cell 10
  have hla := (hA6).lt
  simp only [List.getElem?_toArray, List.getElem?_cons_zero, List.getElem?_cons_succ] at a0 a1 a2 a3 a4 a5 a6 a7 a8 a9 a10
  have r0 := (HR6.out).cell 0
  have r1 := (HR6.out).cell 1
  have r2 := (HR6.out).cell 2
  have r3 := (HR6.out).cell 3
  have r4 := (HR6.out).cell 4
  have r5 := (HR6.out).cell 5
  have r6 := (HR6.out).cell 6
  have r7 := (HR6.out).cell 7
  have r8 := (HR6.out).cell 8
  have r9 := (HR6.out).cell 9
  have r10 := (HR6.out).cell 10
  have q0 := (HR6.out).frozen 0
  have q1 := (HR6.out).frozen 1
  have q2 := (HR6.out).frozen 2
  have q3 := (HR6.out).frozen 3
  have q4 := (HR6.out).frozen 4
  have q5 := (HR6.out).frozen 5
  have q6 := (HR6.out).frozen 6
  have q7 := (HR6.out).frozen 7
  have q8 := (HR6.out).frozen 8
  have q9 := (HR6.out).frozen 9
  have q10 := (HR6.out).frozen 10
  have hlr := (HR6.out).lt
  simp only [List.getElem?_toArray, List.getElem?_cons_zero, List.getElem?_cons_succ] at r0 r1 r2 r3 r4 r5 r6 r7 r8 r9 r10
  clear hA6
  go_wp2
  refine bodyPost_ret (ret_sum Tryz.results133 rfl (Blk.store11 HR6.out)) rfl ⟨by rw [HV.out]; rfl, below_set11 HB6.out (by omega)⟩
theorem frepeated_go (a : SumS) (lo hi : Int) (w : World) (ha : SumOk a) (h0 : 0 ≤ lo ∧ lo ≤ endF) (h1 : 0 ≤ hi ∧ hi ≤ endF) :
    Calls Tryz.prog 133 #[sumV a, .int .i64 lo, .int .i64 hi] w fun e w' => e = .returned (sumV (repeatedF a lo hi)) ∧ Below w.heap.size w w' := by
  obtain ⟨hl, x1, y1, f1, l1⟩ := a
  by_cases hh : hi = 0
  · exact rep_nil1 hl x1 y1 f1 l1 lo hi w hh
  cases hl with
  | false => exact rep_yes x1 y1 f1 l1 lo hi w hh ha h0 h1
  | true =>
    by_cases hz : lo = 0
    · exact rep_nil2 x1 y1 f1 l1 lo hi w hh hz
    · exact rep_no x1 y1 f1 l1 lo hi w hh hz
end Go.Proofs.YtffkppoidollnaaGreatDoor
namespace Go.Proofs.YtffkppoidollnaaGreatDoor
open Go.RowKit
set_option linter.unusedSimpArgs false
set_option linter.unusedVariables false
set_option maxRecDepth 100000

theorem far11 {W : World} {g b : Nat} {t : TypeId} {cs : Array Value} {v0 v1 v2 v3 v4 v5 v6 v7 v8 v9 v10 : Value} (h : Blk W b t cs) (hg : b ≠ g) : Blk (((((((((((W.setCell ⟨g, 0, none⟩ v0).setCell ⟨g, 1, none⟩ v1).setCell ⟨g, 2, none⟩ v2).setCell ⟨g, 3, none⟩ v3).setCell ⟨g, 4, none⟩ v4).setCell ⟨g, 5, none⟩ v5).setCell ⟨g, 6, none⟩ v6).setCell ⟨g, 7, none⟩ v7).setCell ⟨g, 8, none⟩ v8).setCell ⟨g, 9, none⟩ v9).setCell ⟨g, 10, none⟩ v10) b t cs :=
  ((((((((((h.far (p := ⟨g, 0, none⟩) hg v0).far (p := ⟨g, 1, none⟩) hg v1).far (p := ⟨g, 2, none⟩) hg v2).far (p := ⟨g, 3, none⟩) hg v3).far (p := ⟨g, 4, none⟩) hg v4).far (p := ⟨g, 5, none⟩) hg v5).far (p := ⟨g, 6, none⟩) hg v6).far (p := ⟨g, 7, none⟩) hg v7).far (p := ⟨g, 8, none⟩) hg v8).far (p := ⟨g, 9, none⟩) hg v9).far (p := ⟨g, 10, none⟩) hg v10
theorem sums_get {F : Trees} {k : Nat} {z : Nd} (h : F.list[k]? = some z) : F.sums[k]? = some z.sum := by rw [F.sums_list, List.getElem?_map, h]; rfl
theorem sums_len (F : Trees) : F.sums.length = F.len := by rw [F.sums_list, List.length_map, F.len_list]
set_option maxHeartbeats 8000000 in
theorem ffold_go (g : FuncId) (f : SumS → SumS → SumS) (F : Trees) (P : Nat → Prop) (B : Option Addr) (cap : Nat) (s0 : SumS) (w : World) (h0 : SumOk s0) (hl : F.len ≤ 140737488355328) (ht : TreesAt w P F B)
    (hf : ∀ a b w', SumOk a → SumOk b → Calls Tryz.prog g #[sumV a, sumV b] w' fun e w'' => e = .returned (sumV (f a b)) ∧ Below w'.heap.size w' w'') (hk : ∀ a b, SumOk a → SumOk b → SumOk (f a b))
    (hG : ∀ (i : Nat) (z : Nd) (C : Option Addr) (capc : Nat) (w' : World), F.list[i]? = some z → TreesAt w' P z.kids C → Calls Tryz.prog 97 #[ndV z C capc] w' fun e w'' => e = .returned (sumV z.sum) ∧ Below w'.heap.size w' w'')
    (hs : ∀ s ∈ F.sums, SumOk s) (henter : ∀ args w, (callFunc g args).run Tryz.prog w = .ok (.enter g args) w) :
    Calls Tryz.prog 130 #[sumV s0, .func (.func g) #[] #[], .slice B F.len cap] w fun e w' => e = .returned (sumV (F.sums.foldl f s0)) ∧ Below w.heap.size w w' := by
  have HT := Lib.hid ht
  have HG := Lib.hid hG
  have HF := Lib.hid hf
  have HK := Lib.hid hk
  have HS := Lib.hid hs
  have hb1 : Below w.heap.size w ((w.alloc (.cells (sumA s0) 81)).alloc (.cells #[.bool false, .int .i64 0, .int .i64 0, .int .u64 0, .int .u64 0, .int .u64 0, .int .u64 0, .int .u64 0, .int .u64 0, .int .u64 0, .int .u64 0] 81)) := ((Below.refl _ _).alloc (Nat.le_refl _) _).alloc (by simp) _
  have HI := Lib.hid (show Blk ((w.alloc (.cells (sumA s0) 81)).alloc (.cells #[.bool false, .int .i64 0, .int .i64 0, .int .u64 0, .int .u64 0, .int .u64 0, .int .u64 0, .int .u64 0, .int .u64 0, .int .u64 0, .int .u64 0] 81)) w.heap.size 81 (sumA s0) ∧ Blk ((w.alloc (.cells (sumA s0) 81)).alloc (.cells #[.bool false, .int .i64 0, .int .i64 0, .int .u64 0, .int .u64 0, .int .u64 0, .int .u64 0, .int .u64 0, .int .u64 0, .int .u64 0, .int .u64 0] 81)) (w.heap.size + 1) 81 #[.bool false, .int .i64 0, .int .i64 0, .int .u64 0, .int .u64 0, .int .u64 0, .int .u64 0, .int .u64 0, .int .u64 0, .int .u64 0, .int .u64 0] ∧ Below w.heap.size w ((w.alloc (.cells (sumA s0) 81)).alloc (.cells #[.bool false, .int .i64 0, .int .i64 0, .int .u64 0, .int .u64 0, .int .u64 0, .int .u64 0, .int .u64 0, .int .u64 0, .int .u64 0, .int .u64 0] 81)) ∧ SumOk s0 from
    ⟨(Blk.new w 81 (sumA s0)).alloc _, Blk.new_at (by simp), hb1, h0⟩)
  clear ht hG hf hk hs h0 hb1
  unfold sumV
  unfold sumA at *
  go_enter Tryz.func130, Tryz.ntmps130
  go_wp2
  go_loopw [8, 11] (fun pv i wr => ∃ (k : Nat) (s : SumS), i = .int .i64 (k : Int) ∧ k ≤ F.len ∧ Hid ((F.sums.take k).foldl f s0 = s) ∧ Hid (Blk wr w.heap.size 81 #[.bool s.hollow, .int .i64 s.short, .int .i64 s.long, .int .u64 ((word (s.first) 0 : Nat) : Int), .int .u64 ((word (s.first) 1 : Nat) : Int), .int .u64 ((word (s.first) 2 : Nat) : Int), .int .u64 ((word (s.first) 3 : Nat) : Int), .int .u64 ((word (s.last) 0 : Nat) : Int), .int .u64 ((word (s.last) 1 : Nat) : Int), .int .u64 ((word (s.last) 2 : Nat) : Int), .int .u64 ((word (s.last) 3 : Nat) : Int)] ∧ Blk wr (w.heap.size + 1) 81 #[.bool false, .int .i64 0, .int .i64 0, .int .u64 0, .int .u64 0, .int .u64 0, .int .u64 0, .int .u64 0, .int .u64 0, .int .u64 0, .int .u64 0] ∧ Below w.heap.size w wr ∧ SumOk s)) (fun _ i _ => F.len - (intOf i).toNat)
  case atStart => exact ⟨0, s0, rfl, Nat.zero_le _, Lib.hid rfl, HI⟩
  case round =>
    clear HI
    obtain ⟨k, s, rfl, hk, HE, HR⟩ := hrel
    by_cases hlt : k < F.len
    · obtain ⟨z, hz⟩ : ∃ z, F.list[k]? = some z := ⟨_, List.getElem?_eq_getElem (by rw [Trees.len_list]; exact hlt)⟩
      obtain ⟨b, o, C, capc, rfl, _, _, ⟨c0, c1, c2, c3, c4, c5, c6, c7⟩, hkz⟩ := (HT.out.below HR.out.2.2.1).get hz
      have hdl : (k : Int) < (F.len : Int) := by omega
      have hbA : Below wr.heap.size wr (wr.alloc (.cells #[.int .i64 z.kind, .int .u64 ((word (z.set.testBit) 0 : Nat) : Int), .int .u64 ((word (z.set.testBit) 1 : Nat) : Int), .int .u64 ((word (z.set.testBit) 2 : Nat) : Int), .int .u64 ((word (z.set.testBit) 3 : Nat) : Int), .slice C z.kids.len capc, .int .i64 z.lo, .int .i64 z.hi] 39)) := (Below.refl _ _).alloc (Nat.le_refl _) _
      have HZ := Lib.hid hz
      have HO := Lib.hid (HS.out z.sum (List.mem_of_getElem? (sums_get hz)))
      have HE2 := Lib.hid (show (F.sums.take (k + 1)).foldl f s0 = f s z.sum by rw [List.take_add_one, sums_get hz, List.foldl_append, HE.out]; rfl)
      have HKZ := Lib.hid (hkz.below hbA)
      have HN := Lib.hid (Blk.new wr 39 #[.int .i64 z.kind, .int .u64 ((word (z.set.testBit) 0 : Nat) : Int), .int .u64 ((word (z.set.testBit) 1 : Nat) : Int), .int .u64 ((word (z.set.testBit) 2 : Nat) : Int), .int .u64 ((word (z.set.testBit) 3 : Nat) : Int), .slice C z.kids.len capc, .int .i64 z.lo, .int .i64 z.hi])
      have HX := Lib.hid (HR.out.1.below hbA HR.out.1.lt)
      have HY := Lib.hid (HR.out.2.1.below hbA HR.out.2.1.lt)
      have HB := Lib.hid (HR.out.2.2.1.trans (hbA.mono HR.out.2.2.1.size))
      have HSk := Lib.hid HR.out.2.2.2
      have hwr : w.heap.size + 1 < wr.heap.size := HR.out.2.1.lt
      clear hz hkz hbA HR
      go_upto_region 4 with fail
      clear c0 c1 c2 c3 c4 c5 c6 c7
      generalize wr.alloc (.cells #[.int .i64 z.kind, .int .u64 ((word (z.set.testBit) 0 : Nat) : Int), .int .u64 ((word (z.set.testBit) 1 : Nat) : Int), .int .u64 ((word (z.set.testBit) 2 : Nat) : Int), .int .u64 ((word (z.set.testBit) 3 : Nat) : Int), .slice C z.kids.len capc, .int .i64 z.lo, .int .i64 z.hi] 39) = w2 at *
      generalize wr.heap.size = gn at *
      have n0 := (HN.out).cell 0
      have n1 := (HN.out).cell 1
      have n2 := (HN.out).cell 2
      have n3 := (HN.out).cell 3
      have n4 := (HN.out).cell 4
      have n5 := (HN.out).cell 5
      have n6 := (HN.out).cell 6
      have n7 := (HN.out).cell 7
      have hln := (HN.out).lt
      simp only [List.getElem?_toArray, List.getElem?_cons_zero, List.getElem?_cons_succ] at n0 n1 n2 n3 n4 n5 n6 n7
      have x0 := (HX.out).cell 0
      have x1 := (HX.out).cell 1
      have x2 := (HX.out).cell 2
      have x3 := (HX.out).cell 3
      have x4 := (HX.out).cell 4
      have x5 := (HX.out).cell 5
      have x6 := (HX.out).cell 6
      have x7 := (HX.out).cell 7
      have x8 := (HX.out).cell 8
      have x9 := (HX.out).cell 9
      have x10 := (HX.out).cell 10
      have hlx := (HX.out).lt
      simp only [List.getElem?_toArray, List.getElem?_cons_zero, List.getElem?_cons_succ] at x0 x1 x2 x3 x4 x5 x6 x7 x8 x9 x10
      have hKl : ∀ b', b' = gn → b' < w2.heap.size := fun b' h => by rw [h]; exact hln
      refine wp_region_held_drew (S := fun w' => ∀ b' o', b' = gn → w'.cell? ⟨b', o', none⟩ = w2.cell? ⟨b', o', none⟩) (by kernel_rfl) (KeepP.start (fun b' => b' = gn) w2) (fun hHeld => ?_)
      refine wpAnyH_take (i := 0) (oi := _) (v := ?_) rfl (by kernel_rfl) (by kernel_rfl) (by kernel_rfl) (fun _ _ _ h => h) (Or.inl ⟨by kernel_rfl, ?_⟩) (by assumption) ?_
      rotate_left
      · intro w hSw
        try dsimp only at hSw
        go_simp
        try (with_reducible rfl)
      try simp only [Act.put, List.getElem_toArray, List.getElem_cons_zero, List.getElem_cons_succ, List.setIfInBounds_toArray, List.set_cons_zero, List.set_cons_succ]
      refine wpAnyH_take (i := 2) (oi := _) (v := ?_) rfl (by kernel_rfl) (by kernel_rfl) (by kernel_rfl) (fun _ _ _ h => h) (Or.inl ⟨by kernel_rfl, ?_⟩) (by assumption) ?_
      rotate_left
      · intro w hSw
        try dsimp only at hSw
        go_simp
        try (with_reducible rfl)
      try simp only [Act.put, List.getElem_toArray, List.getElem_cons_zero, List.getElem_cons_succ, List.setIfInBounds_toArray, List.set_cons_zero, List.set_cons_succ]
      refine wpAnyH_ready (rs := [1, 3]) (by kernel_rfl) (by simp) ?_
      refine AllReadyH.cons (o := _) rfl (fun K hK => ?_) (AllReadyH.cons (o := _) rfl (fun K hK => ?_) AllReadyH.nil)
      · skip
        go_simp
        refine hK.out _ _ hHeld (fun _ => ?_)
        clear hK K
        try simp only [Act.put, List.getElem_toArray, List.getElem_cons_zero, List.getElem_cons_succ, List.setIfInBounds_toArray, List.set_cons_zero, List.set_cons_succ]
        refine wpAnyH_ready (rs := [3]) (by kernel_rfl) (by simp) ?_
        refine AllReadyH.cons (o := _) rfl (fun K hK => ?_) AllReadyH.nil
        go_simp
        go_at_call 97
        have HI3 := HG.out k z C capc w2.drew HZ.out (HKZ.out.below (Below.refl _ _).drew)
        unfold ndV sumV sumA at HI3
        refine HI3.mono ?_
        rintro e w3 ⟨rfl, hb3'⟩
        have hb3 : Below w2.heap.size w2 w3 := (Below.refl _ _).drew.trans hb3'
        have hk3 := KeepP.below (KeepP.start (fun b' => b' = gn) w2) hb3' hKl
        refine hK.out _ _ hk3 (fun _ => ?_)
        clear hK K HI3 hHeld hb3'
        try simp only [Act.put, List.getElem_toArray, List.getElem_cons_zero, List.getElem_cons_succ, List.setIfInBounds_toArray, List.set_cons_zero, List.set_cons_succ]
        clear n0 n1 n2 n3 n4 n5 n6 n7
        clear x0 x1 x2 x3 x4 x5 x6 x7 x8 x9 x10
        have HF2 := Lib.hid (HF.out s z.sum w3 HSk.out HO.out)
        have hOk := HK.out s z.sum HSk.out HO.out
        have HE3 := Lib.hid HE2.out
        generalize f s z.sum = r at *
        unfold sumV sumA at HF2
        refine wpAnyH_ready (rs := [4]) (by kernel_rfl) (by simp) ?_
        refine AllReadyH.cons (o := _) rfl (fun K hK => ?_) AllReadyH.nil
        go_simp
        refine HF2.out.mono ?_
        rintro e w4 ⟨rfl, hb4⟩
        have hk4 := KeepP.below hk3 hb4 (fun b' h => Nat.lt_of_lt_of_le (hKl b' h) hb3.size)
        refine hK.out _ _ hk4 (fun _ => ?_)
        clear hK K
        try simp only [Act.put, List.getElem_toArray, List.getElem_cons_zero, List.getElem_cons_succ, List.setIfInBounds_toArray, List.set_cons_zero, List.set_cons_succ]
        have HX4 := Lib.hid ((HX.out.below hb3 HX.out.lt).below hb4 (Nat.lt_of_lt_of_le HX.out.lt hb3.size))
        have HY4 := Lib.hid ((HY.out.below hb3 HY.out.lt).below hb4 (Nat.lt_of_lt_of_le HY.out.lt hb3.size))
        have HB4 := Lib.hid ((HB.out.trans (hb3.mono HB.out.size)).trans (hb4.mono (by have := HB.out.size; have := hb3.size; omega)))
        have x0 := (HX4.out).cell 0
        have x1 := (HX4.out).cell 1
        have x2 := (HX4.out).cell 2
        have x3 := (HX4.out).cell 3
        have x4 := (HX4.out).cell 4
        have x5 := (HX4.out).cell 5
        have x6 := (HX4.out).cell 6
        have x7 := (HX4.out).cell 7
        have x8 := (HX4.out).cell 8
        have x9 := (HX4.out).cell 9
        have x10 := (HX4.out).cell 10
        have q0 := (HX4.out).frozen 0
        have q1 := (HX4.out).frozen 1
        have q2 := (HX4.out).frozen 2
        have q3 := (HX4.out).frozen 3
        have q4 := (HX4.out).frozen 4
        have q5 := (HX4.out).frozen 5
        have q6 := (HX4.out).frozen 6
        have q7 := (HX4.out).frozen 7
        have q8 := (HX4.out).frozen 8
        have q9 := (HX4.out).frozen 9
        have q10 := (HX4.out).frozen 10
        have hlx := (HX4.out).lt
        simp only [List.getElem?_toArray, List.getElem?_cons_zero, List.getElem?_cons_succ] at x0 x1 x2 x3 x4 x5 x6 x7 x8 x9 x10
        refine wpAnyH_ready (rs := [5]) (by kernel_rfl) (by simp) ?_
        refine AllReadyH.cons (o := _) rfl (fun K hK => ?_) AllReadyH.nil
        go_simp
        refine hK.out _ _ (KeepP.set11 hk4 (fun b' h e => by omega)) (fun _ => ?_)
        clear hK K
        try simp only [Act.put, List.getElem_toArray, List.getElem_cons_zero, List.getElem_cons_succ, List.setIfInBounds_toArray, List.set_cons_zero, List.set_cons_succ]
        refine wpAnyH_done (by kernel_rfl) ?_ _
        have HRR := Lib.hid (show _ ∧ _ ∧ _ ∧ _ from ⟨Blk.store11 (v0 := .bool r.hollow) (v1 := .int .i64 r.short) (v2 := .int .i64 r.long) (v3 := .int .u64 ((word r.first 0 : Nat) : Int)) (v4 := .int .u64 ((word r.first 1 : Nat) : Int)) (v5 := .int .u64 ((word r.first 2 : Nat) : Int)) (v6 := .int .u64 ((word r.first 3 : Nat) : Int)) (v7 := .int .u64 ((word r.last 0 : Nat) : Int)) (v8 := .int .u64 ((word r.last 1 : Nat) : Int)) (v9 := .int .u64 ((word r.last 2 : Nat) : Int)) (v10 := .int .u64 ((word r.last 3 : Nat) : Int)) HX4.out, far11 (v0 := .bool r.hollow) (v1 := .int .i64 r.short) (v2 := .int .i64 r.long) (v3 := .int .u64 ((word r.first 0 : Nat) : Int)) (v4 := .int .u64 ((word r.first 1 : Nat) : Int)) (v5 := .int .u64 ((word r.first 2 : Nat) : Int)) (v6 := .int .u64 ((word r.first 3 : Nat) : Int)) (v7 := .int .u64 ((word r.last 0 : Nat) : Int)) (v8 := .int .u64 ((word r.last 1 : Nat) : Int)) (v9 := .int .u64 ((word r.last 2 : Nat) : Int)) (v10 := .int .u64 ((word r.last 3 : Nat) : Int)) (g := w.heap.size) HY4.out (by omega), below_set11 (g := w.heap.size) (v0 := .bool r.hollow) (v1 := .int .i64 r.short) (v2 := .int .i64 r.long) (v3 := .int .u64 ((word r.first 0 : Nat) : Int)) (v4 := .int .u64 ((word r.first 1 : Nat) : Int)) (v5 := .int .u64 ((word r.first 2 : Nat) : Int)) (v6 := .int .u64 ((word r.first 3 : Nat) : Int)) (v7 := .int .u64 ((word r.last 0 : Nat) : Int)) (v8 := .int .u64 ((word r.last 1 : Nat) : Int)) (v9 := .int .u64 ((word r.last 2 : Nat) : Int)) (v10 := .int .u64 ((word r.last 3 : Nat) : Int)) HB4.out (Nat.le_refl _), hOk⟩)
        clear HX4 HY4 HB4 hb3 hb4 HF2 hk4 hk3 HX HY HN HKZ hOk HE2 HO HSk HZ HB
        clear x0 x1 x2 x3 x4 x5 x6 x7 x8 x9 x10
        clear q0 q1 q2 q3 q4 q5 q6 q7 q8 q9 q10
        go_wp2
        go_light
        go_roundw
        case rel => exact ⟨k + 1, r, by go_num, by omega, HE3, HRR⟩
        case measure => simp [intOf]; omega
      · skip
        go_simp
        go_at_call 97
        have HI3 := HG.out k z C capc w2.drew HZ.out (HKZ.out.below (Below.refl _ _).drew)
        unfold ndV sumV sumA at HI3
        refine HI3.mono ?_
        rintro e w3 ⟨rfl, hb3'⟩
        have hb3 : Below w2.heap.size w2 w3 := (Below.refl _ _).drew.trans hb3'
        have hk3 := KeepP.below (KeepP.start (fun b' => b' = gn) w2) hb3' hKl
        refine hK.out _ _ hk3 (fun _ => ?_)
        clear hK K HI3 hHeld hb3'
        try simp only [Act.put, List.getElem_toArray, List.getElem_cons_zero, List.getElem_cons_succ, List.setIfInBounds_toArray, List.set_cons_zero, List.set_cons_succ]
        clear n0 n1 n2 n3 n4 n5 n6 n7
        clear x0 x1 x2 x3 x4 x5 x6 x7 x8 x9 x10
        have y0 := (HX.out.below hb3 HX.out.lt).cell 0
        have y1 := (HX.out.below hb3 HX.out.lt).cell 1
        have y2 := (HX.out.below hb3 HX.out.lt).cell 2
        have y3 := (HX.out.below hb3 HX.out.lt).cell 3
        have y4 := (HX.out.below hb3 HX.out.lt).cell 4
        have y5 := (HX.out.below hb3 HX.out.lt).cell 5
        have y6 := (HX.out.below hb3 HX.out.lt).cell 6
        have y7 := (HX.out.below hb3 HX.out.lt).cell 7
        have y8 := (HX.out.below hb3 HX.out.lt).cell 8
        have y9 := (HX.out.below hb3 HX.out.lt).cell 9
        have y10 := (HX.out.below hb3 HX.out.lt).cell 10
        have hly := (HX.out.below hb3 HX.out.lt).lt
        simp only [List.getElem?_toArray, List.getElem?_cons_zero, List.getElem?_cons_succ] at y0 y1 y2 y3 y4 y5 y6 y7 y8 y9 y10
        refine wpAnyH_ready (rs := [1]) (by kernel_rfl) (by simp) ?_
        refine AllReadyH.cons (o := _) rfl (fun K hK => ?_) AllReadyH.nil
        go_simp
        refine hK.out _ _ (by assumption) (fun _ => ?_)
        clear hK K
        try simp only [Act.put, List.getElem_toArray, List.getElem_cons_zero, List.getElem_cons_succ, List.setIfInBounds_toArray, List.set_cons_zero, List.set_cons_succ]
        clear y0 y1 y2 y3 y4 y5 y6 y7 y8 y9 y10
        clear hly
        have HF2 := Lib.hid (HF.out s z.sum w3 HSk.out HO.out)
        have hOk := HK.out s z.sum HSk.out HO.out
        have HE3 := Lib.hid HE2.out
        generalize f s z.sum = r at *
        unfold sumV sumA at HF2
        refine wpAnyH_ready (rs := [4]) (by kernel_rfl) (by simp) ?_
        refine AllReadyH.cons (o := _) rfl (fun K hK => ?_) AllReadyH.nil
        go_simp
        refine HF2.out.mono ?_
        rintro e w4 ⟨rfl, hb4⟩
        have hk4 := KeepP.below hk3 hb4 (fun b' h => Nat.lt_of_lt_of_le (hKl b' h) hb3.size)
        refine hK.out _ _ hk4 (fun _ => ?_)
        clear hK K
        try simp only [Act.put, List.getElem_toArray, List.getElem_cons_zero, List.getElem_cons_succ, List.setIfInBounds_toArray, List.set_cons_zero, List.set_cons_succ]
        have HX4 := Lib.hid ((HX.out.below hb3 HX.out.lt).below hb4 (Nat.lt_of_lt_of_le HX.out.lt hb3.size))
        have HY4 := Lib.hid ((HY.out.below hb3 HY.out.lt).below hb4 (Nat.lt_of_lt_of_le HY.out.lt hb3.size))
        have HB4 := Lib.hid ((HB.out.trans (hb3.mono HB.out.size)).trans (hb4.mono (by have := HB.out.size; have := hb3.size; omega)))
        have x0 := (HX4.out).cell 0
        have x1 := (HX4.out).cell 1
        have x2 := (HX4.out).cell 2
        have x3 := (HX4.out).cell 3
        have x4 := (HX4.out).cell 4
        have x5 := (HX4.out).cell 5
        have x6 := (HX4.out).cell 6
        have x7 := (HX4.out).cell 7
        have x8 := (HX4.out).cell 8
        have x9 := (HX4.out).cell 9
        have x10 := (HX4.out).cell 10
        have q0 := (HX4.out).frozen 0
        have q1 := (HX4.out).frozen 1
        have q2 := (HX4.out).frozen 2
        have q3 := (HX4.out).frozen 3
        have q4 := (HX4.out).frozen 4
        have q5 := (HX4.out).frozen 5
        have q6 := (HX4.out).frozen 6
        have q7 := (HX4.out).frozen 7
        have q8 := (HX4.out).frozen 8
        have q9 := (HX4.out).frozen 9
        have q10 := (HX4.out).frozen 10
        have hlx := (HX4.out).lt
        simp only [List.getElem?_toArray, List.getElem?_cons_zero, List.getElem?_cons_succ] at x0 x1 x2 x3 x4 x5 x6 x7 x8 x9 x10
        refine wpAnyH_ready (rs := [5]) (by kernel_rfl) (by simp) ?_
        refine AllReadyH.cons (o := _) rfl (fun K hK => ?_) AllReadyH.nil
        go_simp
        refine hK.out _ _ (KeepP.set11 hk4 (fun b' h e => by omega)) (fun _ => ?_)
        clear hK K
        try simp only [Act.put, List.getElem_toArray, List.getElem_cons_zero, List.getElem_cons_succ, List.setIfInBounds_toArray, List.set_cons_zero, List.set_cons_succ]
        refine wpAnyH_done (by kernel_rfl) ?_ _
        have HRR := Lib.hid (show _ ∧ _ ∧ _ ∧ _ from ⟨Blk.store11 (v0 := .bool r.hollow) (v1 := .int .i64 r.short) (v2 := .int .i64 r.long) (v3 := .int .u64 ((word r.first 0 : Nat) : Int)) (v4 := .int .u64 ((word r.first 1 : Nat) : Int)) (v5 := .int .u64 ((word r.first 2 : Nat) : Int)) (v6 := .int .u64 ((word r.first 3 : Nat) : Int)) (v7 := .int .u64 ((word r.last 0 : Nat) : Int)) (v8 := .int .u64 ((word r.last 1 : Nat) : Int)) (v9 := .int .u64 ((word r.last 2 : Nat) : Int)) (v10 := .int .u64 ((word r.last 3 : Nat) : Int)) HX4.out, far11 (v0 := .bool r.hollow) (v1 := .int .i64 r.short) (v2 := .int .i64 r.long) (v3 := .int .u64 ((word r.first 0 : Nat) : Int)) (v4 := .int .u64 ((word r.first 1 : Nat) : Int)) (v5 := .int .u64 ((word r.first 2 : Nat) : Int)) (v6 := .int .u64 ((word r.first 3 : Nat) : Int)) (v7 := .int .u64 ((word r.last 0 : Nat) : Int)) (v8 := .int .u64 ((word r.last 1 : Nat) : Int)) (v9 := .int .u64 ((word r.last 2 : Nat) : Int)) (v10 := .int .u64 ((word r.last 3 : Nat) : Int)) (g := w.heap.size) HY4.out (by omega), below_set11 (g := w.heap.size) (v0 := .bool r.hollow) (v1 := .int .i64 r.short) (v2 := .int .i64 r.long) (v3 := .int .u64 ((word r.first 0 : Nat) : Int)) (v4 := .int .u64 ((word r.first 1 : Nat) : Int)) (v5 := .int .u64 ((word r.first 2 : Nat) : Int)) (v6 := .int .u64 ((word r.first 3 : Nat) : Int)) (v7 := .int .u64 ((word r.last 0 : Nat) : Int)) (v8 := .int .u64 ((word r.last 1 : Nat) : Int)) (v9 := .int .u64 ((word r.last 2 : Nat) : Int)) (v10 := .int .u64 ((word r.last 3 : Nat) : Int)) HB4.out (Nat.le_refl _), hOk⟩)
        clear HX4 HY4 HB4 hb3 hb4 HF2 hk4 hk3 HX HY HN HKZ hOk HE2 HO HSk HZ HB
        clear x0 x1 x2 x3 x4 x5 x6 x7 x8 x9 x10
        clear q0 q1 q2 q3 q4 q5 q6 q7 q8 q9 q10
        go_wp2
        go_light
        go_roundw
        case rel => exact ⟨k + 1, r, by go_num, by omega, HE3, HRR⟩
        case measure => simp [intOf]; omega
    · obtain rfl : k = F.len := by omega
      have hdl : ¬ ((F.len : Int) < (F.len : Int)) := by omega
      have HV := Lib.hid (show F.sums.foldl f s0 = s by rw [← HE.out, ← sums_len, List.take_length])
      have x0 := (HR.out.1).cell 0
      have x1 := (HR.out.1).cell 1
      have x2 := (HR.out.1).cell 2
      have x3 := (HR.out.1).cell 3
      have x4 := (HR.out.1).cell 4
      have x5 := (HR.out.1).cell 5
      have x6 := (HR.out.1).cell 6
      have x7 := (HR.out.1).cell 7
      have x8 := (HR.out.1).cell 8
      have x9 := (HR.out.1).cell 9
      have x10 := (HR.out.1).cell 10
      have hlx := (HR.out.1).lt
      simp only [List.getElem?_toArray, List.getElem?_cons_zero, List.getElem?_cons_succ] at x0 x1 x2 x3 x4 x5 x6 x7 x8 x9 x10
      have r0 := (HR.out.2.1).cell 0
      have r1 := (HR.out.2.1).cell 1
      have r2 := (HR.out.2.1).cell 2
      have r3 := (HR.out.2.1).cell 3
      have r4 := (HR.out.2.1).cell 4
      have r5 := (HR.out.2.1).cell 5
      have r6 := (HR.out.2.1).cell 6
      have r7 := (HR.out.2.1).cell 7
      have r8 := (HR.out.2.1).cell 8
      have r9 := (HR.out.2.1).cell 9
      have r10 := (HR.out.2.1).cell 10
      have q0 := (HR.out.2.1).frozen 0
      have q1 := (HR.out.2.1).frozen 1
      have q2 := (HR.out.2.1).frozen 2
      have q3 := (HR.out.2.1).frozen 3
      have q4 := (HR.out.2.1).frozen 4
      have q5 := (HR.out.2.1).frozen 5
      have q6 := (HR.out.2.1).frozen 6
      have q7 := (HR.out.2.1).frozen 7
      have q8 := (HR.out.2.1).frozen 8
      have q9 := (HR.out.2.1).frozen 9
      have q10 := (HR.out.2.1).frozen 10
      have hlr := (HR.out.2.1).lt
      simp only [List.getElem?_toArray, List.getElem?_cons_zero, List.getElem?_cons_succ] at r0 r1 r2 r3 r4 r5 r6 r7 r8 r9 r10
      go_wp2
      refine bodyPost_ret (ret_sum Tryz.results130 rfl (Blk.store11 HR.out.2.1)) rfl ⟨by rw [HV.out], below_set11 HR.out.2.2.1 (by omega)⟩
end Go.Proofs.YtffkppoidollnaaGreatDoor
namespace Go.Proofs.YtffkppoidollnaaGreatDoor
open Go.RowKit
set_option linter.unusedSimpArgs false
set_option linter.unusedVariables false

end Go.Proofs.YtffkppoidollnaaGreatDoor
namespace Go.Proofs.YtffkppoidollnaaGreatDoor
open Go.RowKit Go.Shelf
attribute [local go_sem] Oper.semAt_some
set_option linter.unusedSimpArgs false
set_option linter.unusedVariables false
set_option maxRecDepth 100000

theorem one_new (W : World) (v : Value) (t : TypeId) : (W.alloc (.cells #[v] t)).cell? ⟨W.heap.size, 0, none⟩ = some v ∧ (W.alloc (.cells #[v] t)).frozen? ⟨W.heap.size, 0, none⟩ = false :=
  ⟨(Blk.new W t #[v]).cell 0, (Blk.new W t #[v]).frozen 0⟩
theorem one_later {W : World} {a : Addr} {v : Value} (o : Obj) (h : W.cell? a = some v ∧ W.frozen? a = false) : (W.alloc o).cell? a = some v ∧ (W.alloc o).frozen? a = false :=
  ⟨cell_kept h.1 (World.grownBy_alloc W o none) (fun r e => by cases e), (frozen_kept h.1 (World.grownBy_alloc W o none) (fun r e => by cases e)).trans h.2⟩
set_option maxHeartbeats 2000000 in
theorem least_in (n : Nat) (hn : 3 ≤ n) (p : Nat → Bool) (c : Nat) (hp : elems p 256 = [c]) (w : World) (hT : TabAt 1 Lib.deBruijn64tab w) (hw0 : 1 < w.heap.size) :
    CallsIn Fence.wide n Tryz.prog 99 #[.agg #[.int .u64 ((word (p) 0 : Nat) : Int), .int .u64 ((word (p) 1 : Nat) : Int), .int .u64 ((word (p) 2 : Nat) : Int), .int .u64 ((word (p) 3 : Nat) : Int)]] w fun e W' => e = .returned (.int .i64 (c : Int)) ∧ Below w.heap.size w W' := by
  have h1 : 1 ≤ n := by omega
  have hc256 : c < 256 := elems_lt (m := 256) (p := p) (by rw [hp]; simp)
  refine callsIn_of_wp_marks Tryz.func99 rfl trivial ?_ rfl
  simp only [Tryz.ntmps99, List.size_toArray, List.length_cons, List.length_nil, Nat.reduceAdd, Nat.reduceSub, Array.replicate_succ, Array.replicate_zero, List.push_toArray, List.append_toArray, List.nil_append, List.cons_append]
  gi_wp2_with (refine ⟨trivial, ?_⟩; gi_at_call 136; refine (callsIn_wide.2 (each_go p _)).mono ?_; rintro e w' ⟨rfl, rfl⟩)
  have c1 := one_new (w.alloc (.cells #[.int .u64 ((word (p) 0 : Nat) : Int), .int .u64 ((word (p) 1 : Nat) : Int), .int .u64 ((word (p) 2 : Nat) : Int), .int .u64 ((word (p) 3 : Nat) : Int)] 36)) (.int .i64 0) 3
  simp only [World.size_alloc] at c1
  have hB0 : Below w.heap.size w (((w.alloc (.cells #[.int .u64 ((word (p) 0 : Nat) : Int), .int .u64 ((word (p) 1 : Nat) : Int), .int .u64 ((word (p) 2 : Nat) : Int), .int .u64 ((word (p) 3 : Nat) : Int)] 36)).alloc (.cells #[.int .i64 0] 3)).alloc (.cells #[.int .u64 ((word (p) 0 : Nat) : Int), .int .u64 ((word (p) 1 : Nat) : Int), .int .u64 ((word (p) 2 : Nat) : Int), .int .u64 ((word (p) 3 : Nat) : Int)] 36)) := (((Below.refl _ w).alloc (Nat.le_refl _) _).alloc (by simp) _).alloc (by simp; omega) _
  have bS : Blk (((w.alloc (.cells #[.int .u64 ((word (p) 0 : Nat) : Int), .int .u64 ((word (p) 1 : Nat) : Int), .int .u64 ((word (p) 2 : Nat) : Int), .int .u64 ((word (p) 3 : Nat) : Int)] 36)).alloc (.cells #[.int .i64 0] 3)).alloc (.cells #[.int .u64 ((word (p) 0 : Nat) : Int), .int .u64 ((word (p) 1 : Nat) : Int), .int .u64 ((word (p) 2 : Nat) : Int), .int .u64 ((word (p) 3 : Nat) : Int)] 36)) (w.heap.size + 1 + 1) 36 #[.int .u64 ((word (p) 0 : Nat) : Int), .int .u64 ((word (p) 1 : Nat) : Int), .int .u64 ((word (p) 2 : Nat) : Int), .int .u64 ((word (p) 3 : Nat) : Int)] := Blk.new_at (by simp)
  refine wpIn_rangeFunc_ownG rfl h1 (gf := 169) (lb := #[.pointer (some ⟨w.heap.size + 1 + 1, 0, none⟩)]) rfl trivial (enters_of Tryz.func169 (by kernel_rfl) rfl)
    (each_stops (n - 1) (by omega) p (w.heap.size + 1 + 1) w.heap.size _ hw0 (by simp) bS (TabAt.below hB0 hw0 hT)) belowK_t (belowK_b (by simp; omega)) (Below.refl _ _) (fun _ => rfl)
    (fun pre W => (pre = [] ∧ W.cell? ⟨w.heap.size + 1, 0, none⟩ = some (.int .i64 0) ∧ W.frozen? ⟨w.heap.size + 1, 0, none⟩ = false) ∧ Below w.heap.size w W)
    (fun k pre W => (∃ x, k = .ret ∧ pre = [x] ∧ W.cell? ⟨w.heap.size + 1, 0, none⟩ = some (.int .i64 ((x % 256 : Nat) : Int))) ∧ Below w.heap.size w W)
    (OwnFrom.and (Own.from (fun s A B row hs hg hr => ⟨hs.1, cell_kept hs.2.1 hg hr, (frozen_kept hs.2.1 hg hr).trans hs.2.2⟩) _) (ownFrom_below (Nat.le_refl _) (by simp; omega)))
    (fun c => OwnFrom.and (Own.from (fun s A B row hs hg hr => by obtain ⟨x, h1, h2, h3⟩ := hs; exact ⟨x, h1, h2, cell_kept h3 hg hr⟩) _) (ownFrom_below (Nat.le_refl _) (by simp; omega)))
    ⟨⟨rfl, one_later _ c1⟩, hB0⟩
    (fun x => { tmps := #[.agg #[.int .u64 ((word (p) 0 : Nat) : Int), .int .u64 ((word (p) 1 : Nat) : Int), .int .u64 ((word (p) 2 : Nat) : Int), .int .u64 ((word (p) 3 : Nat) : Int)], .pointer (some ⟨w.heap.size, 0, none⟩), .pointer (some ⟨w.heap.size + 1, 0, none⟩), .int .u8 ((x % 256 : Nat) : Int), .agg #[.int .u64 ((word (p) 0 : Nat) : Int), .int .u64 ((word (p) 1 : Nat) : Int), .int .u64 ((word (p) 2 : Nat) : Int), .int .u64 ((word (p) 3 : Nat) : Int)], .func (.func 169) #[] #[.pointer (some ⟨w.heap.size + 1 + 1, 0, none⟩)], .int .u8 ((x % 256 : Nat) : Int), undef, undef], defers := [] }) ?assign ?body ?done ?stop
  case assign =>
    intro l x W K hK
    unfold byteArg
    gi_wp2
    exact hK
  case body =>
    rintro l pre x W ⟨⟨rfl, hcr, hfr⟩, hB⟩ _
    have hx : x % 256 < 256 := Nat.mod_lt _ (by decide)
    generalize hxc : x % 256 = c' at *
    gi_wp2
    exact ⟨(KeepsOthers.setCell _ _ _).from _, ⟨x, rfl, rfl, by rw [hxc]; exact World.cell?_setCell_same' _ _ _ (by rw [hcr]; rfl)⟩, hB.setCell (p := ⟨w.heap.size + 1, 0, none⟩) (by simp) _⟩
  case done =>
    rintro D ys W hD rfl ⟨⟨hne, _, _⟩, hB⟩ hK
    rw [hp] at hne
    cases hne
  case stop =>
    rintro D k pre W hD ⟨m, hm, hpre⟩ ⟨⟨x, rfl, rfl, hcr⟩, hB⟩ hK
    have hxc : x = c := by
      have h2 : x ∈ elems p 256 := by
        have : x ∈ elems p m := by rw [← hpre]; simp
        unfold elems at this ⊢
        simp at this ⊢
        exact ⟨by omega, this.2⟩
      rw [hp] at h2
      simpa using h2
    subst hxc
    rw [Nat.mod_eq_of_lt hc256] at hcr
    gi_wp2
    refine ⟨by simp, .inl ⟨_, _, rfl, run_takeDeferred hK, ?_⟩⟩
    have hc5 := cell_kept hcr (grownBy_putObj' _ D (.deferred none)) (fun r e => by cases e; exact ⟨_, hK, rfl⟩)
    refine ⟨.int .i64 (x : Int), ?_, rfl, hB.trans (belowK_b (w := w) (Nat.le_refl _) W D _ _ (by simp at hD; omega) hK rfl rfl)⟩
    simp [results, Tryz.f99, go_sem, hc5]

/-- sets.Least of a set of one byte. -/
theorem least_go (p : Nat → Bool) (c : Nat) (hp : elems p 256 = [c]) (w : World) (hT : TabAt 1 Lib.deBruijn64tab w) (hw0 : 1 < w.heap.size) :
    Calls Tryz.prog 99 #[.agg #[.int .u64 ((word (p) 0 : Nat) : Int), .int .u64 ((word (p) 1 : Nat) : Int), .int .u64 ((word (p) 2 : Nat) : Int), .int .u64 ((word (p) 3 : Nat) : Int)]] w fun e W' => e = .returned (.int .i64 (c : Int)) ∧ Below w.heap.size w W' :=
  callsIn_wide.1 (least_in 3 (Nat.le_refl _) p c hp w hT hw0)

end Go.Proofs.YtffkppoidollnaaGreatDoor
namespace Go.Proofs.YtffkppoidollnaaGreatDoor
open Go.RowKit
set_option linter.unusedSimpArgs false
set_option linter.unusedVariables false
set_option maxRecDepth 100000

end Go.Proofs.YtffkppoidollnaaGreatDoor
namespace Go.Proofs.YtffkppoidollnaaGreatDoor
open Go.RowKit
set_option linter.unusedSimpArgs false
set_option linter.unusedVariables false
set_option maxRecDepth 100000

/-- A row of lexemes that may be read. -/
def LexRow (w : World) (v : Value) (L : List Lex) : Prop :=
  ∃ A cap, v = .slice A L.length cap ∧ ∀ k x, L[k]? = some x → ∃ g, A = some ⟨g, 0, none⟩ ∧
    w.cell? ⟨g, k * 8, none⟩ = some (.int .i64 x.kind) ∧ w.cell? ⟨g, k * 8 + 1, none⟩ = some (.int .i64 x.place) ∧
    w.cell? ⟨g, k * 8 + 2, none⟩ = some (.int .u64 ((word x.set 0 : Nat) : Int)) ∧ w.cell? ⟨g, k * 8 + 2 + 1, none⟩ = some (.int .u64 ((word x.set 1 : Nat) : Int)) ∧ w.cell? ⟨g, k * 8 + 2 + 2, none⟩ = some (.int .u64 ((word x.set 2 : Nat) : Int)) ∧ w.cell? ⟨g, k * 8 + 2 + 3, none⟩ = some (.int .u64 ((word x.set 3 : Nat) : Int)) ∧
    w.cell? ⟨g, k * 8 + 6, none⟩ = some (.int .i64 x.lo) ∧ w.cell? ⟨g, k * 8 + 7, none⟩ = some (.int .i64 x.hi)

theorem lexCells_at : ∀ (L : List Lex) (k : Nat) (x : Lex), L[k]? = some x → ∀ j, j < 8 → (lexCells L)[k * 8 + j]? = (lexCell x)[j]?
  | [], k, x, h, j, hj => by simp at h
  | y :: L, 0, x, h, j, hj => by
    have e : y = x := by simpa using h
    subst e
    have e2 : lexCells (y :: L) = lexCell y ++ lexCells L := by simp [lexCells]
    rw [e2, Nat.zero_mul, Nat.zero_add, List.getElem?_append_left (by simpa [lexCell] using hj)]
  | y :: L, k + 1, x, h, j, hj => by
    have e2 : lexCells (y :: L) = lexCell y ++ lexCells L := by simp [lexCells]
    have hl : (lexCell y).length = 8 := by simp [lexCell]
    rw [e2, List.getElem?_append_right (by omega), hl, show (k + 1) * 8 + j - 8 = k * 8 + j by omega]
    exact lexCells_at L k x (by simpa using h) j hj

theorem lexRow_of {w : World} {base : Nat} {v : Value} {L : List Lex} (h : w.ownsRow base 116 8 v L.length (lexCells L)) : LexRow w v L := by
  obtain ⟨A, cap, hv⟩ := own_slice h
  refine ⟨A, cap, hv, fun k x hx => ?_⟩
  have hpos : 0 < L.length := by
    have := (List.getElem?_eq_some_iff.mp hx).1
    omega
  obtain ⟨g, cap', hv', hbase, hg⟩ := own_form h hpos
  have hA : A = some ⟨g, 0, none⟩ := by rw [hv] at hv'; exact (Value.slice.inj hv').1
  have hc := h.cells (g := g) (by rw [hv']; rfl)
  have hat : ∀ j u, j < 8 → (lexCell x)[j]? = some u → w.cell? ⟨g, k * 8 + j, none⟩ = some u := fun j u hj hu => by
    have := hc (k * 8 + j) u ((lexCells_at L k x hx j hj).trans hu)
    have e : (⟨g, 0, none⟩ : Addr).add (k * 8 + j) = ⟨g, k * 8 + j, none⟩ := by
      rcases Nat.eq_zero_or_pos (k * 8 + j) with hz | hz
      · rw [hz]; rfl
      · have h1 : ¬ (k * 8 = 0 ∧ j = 0) := by omega
        simp [Addr.add, h1]
    exact e ▸ this
  exact ⟨g, hA, hat 0 _ (by decide) rfl, hat 1 _ (by decide) rfl, hat 2 _ (by decide) rfl, hat 3 _ (by decide) rfl, hat 4 _ (by decide) rfl, hat 5 _ (by decide) rfl, hat 6 _ (by decide) rfl, hat 7 _ (by decide) rfl⟩

end Go.Proofs.YtffkppoidollnaaGreatDoor
namespace Go.Proofs.YtffkppoidollnaaGreatDoor
open Go.RowKit
set_option linter.unusedSimpArgs false
set_option linter.unusedVariables false
set_option maxRecDepth 100000

theorem rnum_new (w : World) (g a b : Nat) (hg : g = w.heap.size) (ha : a ≤ topN) (hb : b ≤ topN) :
    Calls Tryz.prog 63 #[.int .i64 1099511627776, .slice (some ⟨g, 0, none⟩) 2 2] (w.alloc (.cells #[.int .i64 (a : Int), .int .i64 (b : Int)] 3)) fun e w' => e = .returned (.int .i64 ((min topN (a + b) : Nat) : Int)) ∧ Below w.heap.size w w' :=
  (radd_go (some ⟨g, 0, none⟩) 2 [a, b] _ (nums2 (Blk.new_at hg)) (le2 ha hb) (by simp)).mono fun e w' ⟨he, hb⟩ => ⟨by rw [he]; simp, hb ▸ (Below.refl _ _).alloc (Nat.le_refl _) _⟩
theorem rmul_new (w : World) (g a b : Nat) (hg : g = w.heap.size) (ha : a ≤ topN) (hb : b ≤ topN) :
    Calls Tryz.prog 64 #[.int .i64 1099511627776, .slice (some ⟨g, 0, none⟩) 2 2] (w.alloc (.cells #[.int .i64 (a : Int), .int .i64 (b : Int)] 3)) fun e w' => e = .returned (.int .i64 ((min topN (a * b) : Nat) : Int)) ∧ Below w.heap.size w w' :=
  (rmul_go (some ⟨g, 0, none⟩) 2 a b _ (nums2 (Blk.new_at hg)) ha hb).mono fun e w' ⟨he, hb⟩ => ⟨he, hb ▸ (Below.refl _ _).alloc (Nat.le_refl _) _⟩
end Go.Proofs.YtffkppoidollnaaGreatDoor
namespace Go.Proofs.YtffkppoidollnaaGreatDoor
open Go.RowKit
set_option linter.unusedSimpArgs false
set_option linter.unusedVariables false
set_option maxRecDepth 100000

/-- What is wrong with lexemes ahead of all reading. -/
def readyS (L : List Lex) : Int × Int := if L.all rightS = false then (6, 0) else if h : 1024 < L.length then (4, (L[1024]).place) else (0, 0)
theorem readyS_bad {L : List Lex} {k : Nat} {x : Lex} (h : L[k]? = some x) (hx : rightS x = false) : readyS L = (6, 0) := by
  refine if_pos ?_
  cases ha : L.all rightS
  · rfl
  · have := List.all_eq_true.1 ha x (List.mem_of_getElem? h)
    rw [hx] at this
    cases this
theorem all_right {L : List Lex} (h : ∀ (k : Nat) x, L[k]? = some x → rightS x = true) : L.all rightS = true := List.all_eq_true.2 fun x hx => by
  obtain ⟨k, hk, rfl⟩ := List.mem_iff_getElem.1 hx
  exact h k _ (List.getElem?_eq_getElem hk)
theorem readyS_ok {L : List Lex} (h : L.all rightS = true) (hl : L.length ≤ 1024) : readyS L = (0, 0) := by
  unfold readyS
  rw [if_neg (by rw [h]; decide), dif_neg (by omega)]
theorem readyS_long {L : List Lex} {x : Lex} (h : L.all rightS = true) (hx : L[1024]? = some x) : readyS L = (4, x.place) := by
  obtain ⟨hl, rfl⟩ := List.getElem?_eq_some_iff.1 hx
  unfold readyS
  rw [if_neg (by rw [h]; decide), dif_pos hl]

theorem ret_badv {fn : Func} {t : Tmp} (h : fn.results = #[.cell t 60]) {tmps : Array Value} {w : World} {g : Nat} {a b : Value} (hp : tmps.getD t undef = .pointer (some ⟨g, 0, none⟩)) (hb : Blk w g 60 #[a, b]) :
    (results fn tmps).run Tryz.prog w = .ok (.agg #[a, b]) w :=
  results_cell_row h tmps w g _ _ _ _ hp hb Tryz.underlying60 rfl (by kernel_rfl)
set_option maxHeartbeats 2000000 in
theorem ready_go (A : Option Addr) (cap : Nat) (L : List Lex) (w : World) (hA : LexsAt w w.heap.size A L) (hlen : L.length ≤ 140737488355328) :
    Calls Tryz.prog 119 #[.slice A L.length cap] w fun e w' => e = .returned (.agg #[.int .i64 (readyS L).1, .int .i64 (readyS L).2]) ∧ Below w.heap.size w w' := by
  have HA := Lib.hid hA
  have hb0 : Below w.heap.size w (w.alloc (.cells #[.int .i64 0, .int .i64 0] 60)) := (Below.refl _ _).alloc (Nat.le_refl _) _
  have HB0 := Lib.hid hb0
  have HZ0 := Lib.hid (Blk.new w 60 #[.int .i64 0, .int .i64 0])
  clear hA hb0
  go_enter Tryz.func119, Tryz.ntmps119
  go_wp2
  go_loopw [7] (fun i wr => ∃ k : Nat, i = .int .i64 (k : Int) ∧ k ≤ L.length ∧ Hid (Below w.heap.size w wr) ∧ Hid (Blk wr w.heap.size 60 #[.int .i64 0, .int .i64 0]) ∧ Hid (∀ j x, j < k → L[j]? = some x → rightS x = true)) (fun i _ => L.length - (intOf i).toNat)
  case atStart => exact ⟨0, rfl, Nat.zero_le _, HB0, HZ0, Lib.hid (fun j x hj => by omega)⟩
  case round =>
    clear HB0 HZ0
    obtain ⟨k, rfl, hk, HB, HZ, HR⟩ := hrel
    by_cases hlt : k < L.length
    · obtain ⟨x, hx⟩ : ∃ x, L[k]? = some x := ⟨_, List.getElem?_eq_getElem hlt⟩
      obtain ⟨b, o, rfl, hbl, hc⟩ := HA.out (by omega)
      have hbl' : b < wr.heap.size := Nat.lt_of_lt_of_le hbl HB.out.size
      obtain ⟨c0, c1, c2, c3, c4, c5, c6, c7⟩ := ((HA.out.below HB.out) (by omega)).elim fun b' h => h.elim fun o' h => by
        obtain ⟨e, _, h⟩ := h
        obtain ⟨rfl, rfl⟩ : b = b' ∧ o = o' := by simpa using e
        exact h k x hx
      clear hc
      have Hx := Lib.hid hx
      have hdl : (k : Int) < (L.length : Int) := by omega
      have HZx := Lib.hid (HZ.out.alloc (.cells #[.int .i64 x.kind, .int .i64 x.place, .int .u64 ((word (x.set) 0 : Nat) : Int), .int .u64 ((word (x.set) 1 : Nat) : Int), .int .u64 ((word (x.set) 2 : Nat) : Int), .int .u64 ((word (x.set) 3 : Nat) : Int), .int .i64 x.lo, .int .i64 x.hi] 116))
      have HBx := Lib.hid (HB.out.alloc HB.out.size (.cells #[.int .i64 x.kind, .int .i64 x.place, .int .u64 ((word (x.set) 0 : Nat) : Int), .int .u64 ((word (x.set) 1 : Nat) : Int), .int .u64 ((word (x.set) 2 : Nat) : Int), .int .u64 ((word (x.set) 3 : Nat) : Int), .int .i64 x.lo, .int .i64 x.hi] 116))
      clear hx
      go_wp2_with fail
      refine (right_go _ _ _ _ _ _ _ _ _).mono ?_
      rintro e w1 ⟨rfl, hb1⟩
      have HZ1 := Lib.hid (HZx.out.below hb1 HZx.out.lt)
      have HB1 := Lib.hid (HBx.out.trans (hb1.mono HBx.out.size))
      obtain ⟨b0, b1, f0, f1⟩ := HZ1.out.c2
      clear hb1 c0 c1 c2 c3 c4 c5 c6 c7
      cases hr : rightS x
      · have hr' := hr
        unfold rightS at hr'
        rw [hr']
        have HV := Lib.hid (readyS_bad Hx.out hr)
        clear hr hr'
        go_wp2
        go_light
        rw [HV.out]
        exact bodyPost_ret (ret_badv Tryz.results119 rfl HZ1.out.set2) rfl ⟨rfl, below_set2 HB1.out (Nat.le_refl _) _ _⟩
      · have hr' := hr
        unfold rightS at hr'
        rw [hr']
        have Hr := Lib.hid hr
        clear hr hr'
        go_wp2
        go_roundw
        case rel => exact ⟨k + 1, by go_num, by omega, HB1, HZ1, Lib.hid (fun j y hj hy => by
          rcases Nat.lt_or_ge j k with h | h
          · exact HR.out j y h hy
          · obtain rfl : j = k := by omega
            have := Hx.out.symm.trans hy
            obtain rfl : x = y := by simpa using this
            exact Hr.out)⟩
        case measure => simp [intOf]; omega
    · have hdl : ¬ (k : Int) < (L.length : Int) := by omega
      have Hall := Lib.hid (all_right (L := L) (fun j x hx => HR.out j x (by have := (List.getElem?_eq_some_iff.1 hx).1; omega) hx))
      obtain ⟨b0, b1, f0, f1⟩ := HZ.out.c2
      by_cases h1024 : L.length ≤ 1024
      · have HV := Lib.hid (readyS_ok Hall.out h1024)
        have hd : ¬ (1024 : Int) < (L.length : Int) := by omega
        clear h1024
        go_wp2
        go_light
        rw [HV.out]
        exact bodyPost_ret (ret_badv Tryz.results119 rfl HZ.out.set2) rfl ⟨rfl, below_set2 HB.out (Nat.le_refl _) _ _⟩
      · obtain ⟨x, hx⟩ : ∃ x, L[1024]? = some x := ⟨_, List.getElem?_eq_getElem (by omega)⟩
        have HV := Lib.hid (readyS_long Hall.out hx)
        have hd : (1024 : Int) < (L.length : Int) := by omega
        obtain ⟨b, o, rfl, hbl, hc⟩ := HA.out (by omega)
        obtain ⟨_, c1, _⟩ := ((HA.out.below HB.out) (by omega)).elim fun b' h => h.elim fun o' h => by
          obtain ⟨e, _, h⟩ := h
          obtain ⟨rfl, rfl⟩ : b = b' ∧ o = o' := by simpa using e
          exact h 1024 x hx
        have c1' : wr.cell? ⟨b, o + 8193, none⟩ = some (.int .i64 x.place) := c1
        clear h1024 hc hx c1
        go_wp2
        go_light
        rw [HV.out]
        exact bodyPost_ret (ret_badv Tryz.results119 rfl HZ.out.set2) rfl ⟨rfl, below_set2 HB.out (Nat.le_refl _) _ _⟩

end Go.Proofs.YtffkppoidollnaaGreatDoor
namespace Go.Proofs.YtffkppoidollnaaGreatDoor
open Go.RowKit
set_option linter.unusedSimpArgs false
set_option linter.unusedVariables false
set_option maxRecDepth 100000

theorem ret_tree {fn : Func} {t2 t3 : Tmp} (h : fn.results = #[.cell t2 39, .cell t3 60]) {tmps : Array Value} {w : World} {g g' : Nat} {a0 a1 a2 a3 a4 a5 a6 a7 x y : Value}
    (hp : tmps.getD t2 undef = .pointer (some ⟨g, 0, none⟩)) (hp' : tmps.getD t3 undef = .pointer (some ⟨g', 0, none⟩)) (hb : Blk w g 39 #[a0, a1, a2, a3, a4, a5, a6, a7]) (hb' : Blk w g' 60 #[x, y]) :
    (results fn tmps).run Tryz.prog w = .ok (.tuple #[.agg #[a0, a1, a2, a3, a4, a5, a6, a7], .agg #[x, y]]) w := by
  have h1 := run_loadVar_row (P := Tryz.prog) w g 39 39 #[a0, a1, a2, a3, a4, a5, a6, a7] (0, 0) _ hb Tryz.underlying39 rfl (by kernel_rfl)
  have h2 := run_loadVar_row (P := Tryz.prog) w g' 60 60 #[x, y] (0, 0) _ hb' Tryz.underlying60 rfl (by kernel_rfl)
  simp only [results, h]
  simp only [Array.getD_eq_getD_getElem?] at hp hp'
  simp [Sem.run_bind, hp, hp', asAddr, h1, h2, Result.andThen]
/-- A tree, or what is wrong. -/
def TreeOut (r : Except Wrong Nd) (w : World) (e : Ending) (w' : World) : Prop :=
  match r with
  | .ok x => ∃ B cap, e = .returned (.tuple #[ndV x B cap, .agg #[.int .i64 0, .int .i64 0]]) ∧ Below w.heap.size w w' ∧ x.kids.len ≤ cap ∧ TreesAt w' (fun b => w.heap.size ≤ b) x.kids B
  | .error (k, q) => e = .returned (.tuple #[zeroN, .agg #[.int .i64 k, .int .i64 q]]) ∧ Below w.heap.size w w'
theorem lexemesS_bad {L : List Lex} (h : (readyS L).1 ≠ 0) : lexemesS L = .error (readyS L) := by
  unfold readyS at h ⊢
  unfold lexemesS
  by_cases h1 : L.all rightS = false
  · rw [if_pos h1, if_pos h1]
  · rw [if_neg h1, if_neg h1]
    by_cases h2 : 1024 < L.length
    · rw [dif_pos h2, dif_pos h2]
    · rw [if_neg h1, dif_neg h2] at h
      exact absurd rfl h
theorem readyS_zero {L : List Lex} (h : (readyS L).1 = 0) : readyS L = (0, 0) ∧ L.all rightS = true ∧ L.length ≤ 1024 := by
  unfold readyS at h ⊢
  by_cases h1 : L.all rightS = false
  · rw [if_pos h1] at h; cases h
  · by_cases h2 : 1024 < L.length
    · rw [if_neg h1, dif_pos h2] at h; cases h
    · rw [if_neg h1, dif_neg h2]
      exact ⟨rfl, by simpa using h1, by omega⟩
theorem lexemesS_ok {L : List Lex} (h : L.all rightS = true) (hl : L.length ≤ 1024) : lexemesS L = match altG (3 * L.length + 3) [] [] L with
    | .error e => .error e
    | .ok (x, _) => .ok x := by
  unfold lexemesS
  rw [if_neg (by rw [h]; decide), dif_neg (by omega)]
  rfl

set_option maxHeartbeats 4000000 in
theorem lexemes_go (A : Option Addr) (cap : Nat) (L : List Lex) (w : World) (hA : LexsAt w w.heap.size A L) (hlen : L.length ≤ 140737488355328) (hcap : L.length ≤ cap) :
    Calls Tryz.prog 90 #[.slice A L.length cap] w (TreeOut (lexemesS L) w) := by
  have hmf : ∀ (fn : Fn) (first cap : Array Value) (w : World), (Instr.makeFunc fn first cap).run Tryz.prog w = .ok (.func fn first cap) w := fun _ _ _ _ => rfl
  have hb2 : Below w.heap.size w ((w.alloc (.cells #[.int .i64 0, .int .u64 0, .int .u64 0, .int .u64 0, .int .u64 0, .slice none 0 0, .int .i64 0, .int .i64 0] 39)).alloc (.cells #[.int .i64 0, .int .i64 0] 60)) := ((Below.refl _ _).alloc (Nat.le_refl _) _).alloc (by simp) _
  have HB2 := Lib.hid hb2
  have HG2 := Lib.hid (show Blk ((w.alloc (.cells #[.int .i64 0, .int .u64 0, .int .u64 0, .int .u64 0, .int .u64 0, .slice none 0 0, .int .i64 0, .int .i64 0] 39)).alloc (.cells #[.int .i64 0, .int .i64 0] 60)) w.heap.size 39 _ from (Blk.new w 39 #[.int .i64 0, .int .u64 0, .int .u64 0, .int .u64 0, .int .u64 0, .slice none 0 0, .int .i64 0, .int .i64 0]).alloc _)
  have HH2 := Lib.hid (show Blk ((w.alloc (.cells #[.int .i64 0, .int .u64 0, .int .u64 0, .int .u64 0, .int .u64 0, .slice none 0 0, .int .i64 0, .int .i64 0] 39)).alloc (.cells #[.int .i64 0, .int .i64 0] 60)) (w.heap.size + 1) 60 #[.int .i64 0, .int .i64 0] from Blk.new_at (by simp))
  have HA := Lib.hid hA
  have hz2 : ((w.alloc (.cells #[.int .i64 0, .int .u64 0, .int .u64 0, .int .u64 0, .int .u64 0, .slice none 0 0, .int .i64 0, .int .i64 0] 39)).alloc (.cells #[.int .i64 0, .int .i64 0] 60)).heap.size = w.heap.size + 2 := by simp
  have HRd := Lib.hid (ready_go A cap L _ ((hA.below hb2).more (by omega)) hlen)
  clear hb2 hA hz2
  go_enter_defers Tryz.func90, Tryz.ntmps90
  go_wp2_with fail
  refine HRd.out.mono ?_
  rintro e w3 ⟨rfl, hb3⟩
  have HB3 := Lib.hid (HB2.out.trans (hb3.mono HB2.out.size))
  have hG3 := HG2.out.below hb3 HG2.out.lt
  have hH3 := HH2.out.below hb3 HH2.out.lt
  have HG3 := Lib.hid hG3
  have HH3 := Lib.hid hH3
  have hne1 : w.heap.size ≠ w3.heap.size := by have := hG3.lt; omega
  have hne2 : w.heap.size + 1 ≠ w3.heap.size := by have := hH3.lt; omega
  have hlt1 : w.heap.size < w3.heap.size := hG3.lt
  have hlt2 : w.heap.size + 1 < w3.heap.size := hH3.lt
  by_cases h0 : (readyS L).1 = 0
  · obtain ⟨h1, h2, h3⟩ := readyS_zero h0
    have HV := Lib.hid (lexemesS_ok h2 h3)
    rw [h1]
    have hb5 : Below w3.heap.size w3 ((w3.alloc (.cells #[.int .i64 0, .int .i64 0] 60)).alloc (.cells #[.slice A L.length cap, .slice none 0 0] 146)) := ((Below.refl _ _).alloc (Nat.le_refl _) _).alloc (by simp) _
    have hP5 : PAt ((w3.alloc (.cells #[.int .i64 0, .int .i64 0] 60)).alloc (.cells #[.slice A L.length cap, .slice none 0 0] 146)) (w3.heap.size + 1) (.slice none 0 0) L 0 :=
      ⟨A, cap, [], Blk.new_at (by simp), hcap, (HA.out.below (HB3.out.trans (hb5.mono HB3.out.size))).more (by omega), World.ownsRow_nil _ _ _ _⟩
    have HC := Lib.hid ((reads_go (3 * L.length + 3)).1 (w3.heap.size + 1) [] L _ (.slice none 0 0) hP5 (by omega) (by decide) (by omega))
    have HB5 := Lib.hid (HB3.out.trans (hb5.mono HB3.out.size))
    have HG5 := Lib.hid (hG3.below hb5 hlt1)
    have HH5 := Lib.hid (hH3.below hb5 hlt2)
    clear hb3 hG3 hH3 HRd HB2 HG2 HH2 h0 h1 h2 hb5 hP5 HG3 HH3
    go_wp2_with fail
    refine HC.out.mono ?_
    cases hx : altG (3 * L.length + 3) [] [] L with
    | error x =>
      obtain ⟨k, q⟩ := x
      rw [hx] at HV
      rintro e w6 ⟨rfl, hb6⟩
      have HV := Lib.hid (show lexemesS L = .error (k, q) from HV.out)
      have HB6 := Lib.hid (HB5.out.trans (hb6.mono (by omega)))
      have hG6 := HG5.out.below hb6 (by omega)
      have hH6 := HH5.out.below hb6 (by omega)
      dsimp only
      refine leaves_cons (f := 120) (args := #[.pointer (some ⟨w.heap.size, 0, none⟩), .pointer (some ⟨w.heap.size + 1, 0, none⟩)]) (by simp) (by simp [go_sem]) ?_
      refine (catch_bad w.heap.size (w.heap.size + 1) k q [] w6 hG6 hH6 (by omega)).mono ?_
      rintro e u' w7 ⟨rfl, rfl, hG7, hH7, hb7⟩
      dsimp only
      change Leaves Tryz.prog _ _ _ [] FrameMode.returning w7
      rw [HV.out]
      exact ⟨_, ret_tree Tryz.results90 rfl rfl hG7 hH7, rfl, HB6.out.trans (hb7 w.heap.size (Nat.le_refl _) (by omega))⟩
    | ok x =>
      obtain ⟨x, R⟩ := x
      rw [hx] at HV
      rintro e w6 ⟨v6, B, cap6, rfl, hP6, hS6, hc6, ht6⟩
      have HV := Lib.hid (show lexemesS L = .ok x from HV.out)
      have HB6 := Lib.hid (HB5.out.trans (hS6.1.mono (by omega)))
      have hG6 := HG5.out.below hS6.1 (by omega)
      have hH6 := HH5.out.below hS6.1 (by omega)
      have HT6 := Lib.hid (ht6.weak (Q := fun b => w3.heap.size + 2 ≤ b) (fun b hb _ => by have := hb.1; simp at this; omega))
      have y0 : w6.cell? ⟨w.heap.size, 0, none⟩ = some (.int .i64 0) := hG6.cell 0
      have y1 : w6.cell? ⟨w.heap.size, 1, none⟩ = some (.int .u64 0) := hG6.cell 1
      have y2 : w6.cell? ⟨w.heap.size, 2, none⟩ = some (.int .u64 0) := hG6.cell 2
      have y3 : w6.cell? ⟨w.heap.size, 3, none⟩ = some (.int .u64 0) := hG6.cell 3
      have y4 : w6.cell? ⟨w.heap.size, 4, none⟩ = some (.int .u64 0) := hG6.cell 4
      have y5 : w6.cell? ⟨w.heap.size, 5, none⟩ = some (.slice none 0 0) := hG6.cell 5
      have y6 : w6.cell? ⟨w.heap.size, 6, none⟩ = some (.int .i64 0) := hG6.cell 6
      have y7 : w6.cell? ⟨w.heap.size, 7, none⟩ = some (.int .i64 0) := hG6.cell 7
      have z0 := hG6.frozen 0
      have z1 := hG6.frozen 1
      have z2 := hG6.frozen 2
      have z3 := hG6.frozen 3
      have z4 := hG6.frozen 4
      have z5 := hG6.frozen 5
      have z6 := hG6.frozen 6
      have z7 := hG6.frozen 7
      obtain ⟨b0, b1, f0, f1⟩ := hH6.c2
      have HG6 := Lib.hid hG6
      have HH6 := Lib.hid hH6
      have hsz : w.heap.size + 1 ≤ w3.heap.size + 2 := by omega
      clear hP6 hS6 ht6 hG6 hH6 HC hx
      unfold ndV
      dsimp only
      go_wp2
      go_light
      have hg1 := only_put8 w6 w.heap.size (.int .i64 x.kind) (.int .u64 ((word x.set.testBit 0 : Nat) : Int)) (.int .u64 ((word x.set.testBit 1 : Nat) : Int)) (.int .u64 ((word x.set.testBit 2 : Nat) : Int)) (.int .u64 ((word x.set.testBit 3 : Nat) : Int)) (.slice B x.kids.len cap6) (.int .i64 x.lo) (.int .i64 x.hi)
      have ht7 := TreesAt.keep (Q := fun b => w3.heap.size + 2 ≤ b) (fun b o (hb : w3.heap.size + 2 ≤ b) hl => World.cell?_of_block (hg1.block b hl (by simp; omega))) (fun b hb _ => hb) HT6.out
      refine leaves_cons (f := 120) (args := #[.pointer (some ⟨w.heap.size, 0, none⟩), .pointer (some ⟨w.heap.size + 1, 0, none⟩)]) (by simp) (by simp [go_sem]) ?_
      refine (catch_idle w.heap.size (w.heap.size + 1) _).mono ?_
      rintro e u' w7 ⟨rfl, rfl, hw7⟩
      dsimp only
      change Leaves Tryz.prog _ _ _ [] FrameMode.returning w7
      rw [HV.out]
      have hg2 := only_set (only_set (only_refl ((((((((w6.setCell ⟨w.heap.size, 0, none⟩ (.int .i64 x.kind)).setCell ⟨w.heap.size, 1, none⟩ (.int .u64 ((word x.set.testBit 0 : Nat) : Int))).setCell ⟨w.heap.size, 2, none⟩ (.int .u64 ((word x.set.testBit 1 : Nat) : Int))).setCell ⟨w.heap.size, 3, none⟩ (.int .u64 ((word x.set.testBit 2 : Nat) : Int))).setCell ⟨w.heap.size, 4, none⟩ (.int .u64 ((word x.set.testBit 3 : Nat) : Int))).setCell ⟨w.heap.size, 5, none⟩ (.slice B x.kids.len cap6)).setCell ⟨w.heap.size, 6, none⟩ (.int .i64 x.lo)).setCell ⟨w.heap.size, 7, none⟩ (.int .i64 x.hi)) (some (w.heap.size + 1))) 0 (.int .i64 0)) 1 (.int .i64 0)
      have ht8 := TreesAt.keep (Q := fun b => w.heap.size ≤ b) (fun b o (hb : w3.heap.size + 2 ≤ b) hl => World.cell?_of_block (hg2.block b hl (by simp; omega))) (fun b (hb : w3.heap.size + 2 ≤ b) _ => by omega) ht7
      have hG7 := (HG6.out.put8 (.int .i64 x.kind) (.int .u64 ((word x.set.testBit 0 : Nat) : Int)) (.int .u64 ((word x.set.testBit 1 : Nat) : Int)) (.int .u64 ((word x.set.testBit 2 : Nat) : Int)) (.int .u64 ((word x.set.testBit 3 : Nat) : Int)) (.slice B x.kids.len cap6) (.int .i64 x.lo) (.int .i64 x.hi)).far2 (g' := w.heap.size + 1) (by omega) (.int .i64 0) (.int .i64 0)
      have hH7 := (HH6.out.past8 (g' := w.heap.size) (by omega) (.int .i64 x.kind) (.int .u64 ((word x.set.testBit 0 : Nat) : Int)) (.int .u64 ((word x.set.testBit 1 : Nat) : Int)) (.int .u64 ((word x.set.testBit 2 : Nat) : Int)) (.int .u64 ((word x.set.testBit 3 : Nat) : Int)) (.slice B x.kids.len cap6) (.int .i64 x.lo) (.int .i64 x.hi)).set2 (a' := .int .i64 0) (b' := .int .i64 0)
      have hb7 := below_set2 (below_put8 HB6.out (Nat.le_refl _) (.int .i64 x.kind) (.int .u64 ((word x.set.testBit 0 : Nat) : Int)) (.int .u64 ((word x.set.testBit 1 : Nat) : Int)) (.int .u64 ((word x.set.testBit 2 : Nat) : Int)) (.int .u64 ((word x.set.testBit 3 : Nat) : Int)) (.slice B x.kids.len cap6) (.int .i64 x.lo) (.int .i64 x.hi)) (Nat.le_succ w.heap.size) (.int .i64 0) (.int .i64 0)
      rw [← hw7] at ht8 hG7 hH7 hb7
      exact ⟨_, ret_tree Tryz.results90 rfl rfl hG7 hH7, B, cap6, rfl, hb7, hc6, ht8⟩
  · have hd : ((readyS L).1 != 0) = true := by simpa using h0
    have HV := Lib.hid (lexemesS_bad h0)
    have y0 : w3.cell? ⟨w.heap.size, 0, none⟩ = some (.int .i64 0) := hG3.cell 0
    have y1 : w3.cell? ⟨w.heap.size, 1, none⟩ = some (.int .u64 0) := hG3.cell 1
    have y2 : w3.cell? ⟨w.heap.size, 2, none⟩ = some (.int .u64 0) := hG3.cell 2
    have y3 : w3.cell? ⟨w.heap.size, 3, none⟩ = some (.int .u64 0) := hG3.cell 3
    have y4 : w3.cell? ⟨w.heap.size, 4, none⟩ = some (.int .u64 0) := hG3.cell 4
    have y5 : w3.cell? ⟨w.heap.size, 5, none⟩ = some (.slice none 0 0) := hG3.cell 5
    have y6 : w3.cell? ⟨w.heap.size, 6, none⟩ = some (.int .i64 0) := hG3.cell 6
    have y7 : w3.cell? ⟨w.heap.size, 7, none⟩ = some (.int .i64 0) := hG3.cell 7
    have z0 := hG3.frozen 0
    have z1 := hG3.frozen 1
    have z2 := hG3.frozen 2
    have z3 := hG3.frozen 3
    have z4 := hG3.frozen 4
    have z5 := hG3.frozen 5
    have z6 := hG3.frozen 6
    have z7 := hG3.frozen 7
    obtain ⟨b0, b1, f0, f1⟩ := hH3.c2
    clear hb3 hG3 hH3 HRd HB2 HG2 HH2 h0
    generalize readyS L = kq at *
    obtain ⟨k, q⟩ := kq
    dsimp only at hd ⊢
    go_wp2
    go_region
    all_goals go_wp2
    all_goals go_light
    rw [HV.out]
    exact ⟨_, ret_tree Tryz.results90 rfl rfl (((HG3.out.put8 _ _ _ _ _ _ _ _).far2 (by omega) _ _).alloc _).drew (((HH3.out.past8 (by omega) _ _ _ _ _ _ _ _).set2).alloc _).drew, rfl, ((below_set2 (below_put8 HB3.out (Nat.le_refl _) _ _ _ _ _ _ _ _) (by omega) _ _).alloc (by have := HB3.out.size; simpa [World.setCell] using this) _).drew⟩

end Go.Proofs.YtffkppoidollnaaGreatDoor
namespace Go.Proofs.YtffkppoidollnaaGreatDoor
open Go.RowKit
set_option linter.unusedSimpArgs false
set_option linter.unusedVariables false
set_option maxRecDepth 100000

theorem word_noSet (i : Nat) : word noSet i = 0 := word_none i
theorem put_no (S b o len cap : Nat) (i : Int) (v : Value) (k q : Int) (N : Nat) (L : List Lex) (kind place lo hi next : Int) (W : World) (hS : Spl W S b o len cap i v k q) (hrow : W.ownsRow N 116 8 v L.length (lexCells L)) (hN : N ≤ S) (hL : L.length ≤ 100000) :
    Calls Tryz.prog 194 #[.pointer (some ⟨S, 0, none⟩), .agg #[.int .i64 kind, .int .i64 place, .int .u64 0, .int .u64 0, .int .u64 0, .int .u64 0, .int .i64 lo, .int .i64 hi], .int .i64 next] W (Took S b o len cap N L ⟨kind, i, noSet, lo, hi⟩ next k q W) := by
  have h := put_go S b o len cap i v k q N L ⟨kind, place, noSet, lo, hi⟩ next W hS hrow hN hL
  simp only [word_noSet] at h
  exact h

/-- The world is as it was, but for some draws. -/
def Quiet (v : Value) (W : World) (e : Ending) (W' : World) : Prop := e = .returned v ∧ ∃ n, W' = W.drewN n

set_option maxHeartbeats 2000000 in
theorem sign_no (S b o cap : Nat) (bs : List Nat) (i : Nat) (v : Value) (N : Nat) (W : World) (hS : Spl W S b o bs.length cap i v 0 0) (hA : BytesAt W N (some ⟨b, o, none⟩) bs) (h0 : i < bs.length) (hk : signKind (byteAt bs i) = 0) :
    Calls Tryz.prog 155 #[.pointer (some ⟨S, 0, none⟩)] W (Quiet (.bool false) W) := by
  obtain ⟨s0, s1, s2, s3, s4, f0, f1, f2, f3, f4⟩ := hS.cells
  have hcell := bytesAt_cells hA i h0
  have hl := hA.2.1
  have hc256 := byteAt_lt hA.1 i

  generalize byteAt bs i = c at *
  have hne : c ≠ 40 ∧ c ≠ 41 ∧ c ≠ 124 ∧ c ≠ 42 ∧ c ≠ 43 ∧ c ≠ 63 := by
    unfold signKind at hk
    refine ⟨?_, ?_, ?_, ?_, ?_, ?_⟩ <;> (rintro rfl; revert hk; decide)
  obtain ⟨a1, a2, a3, a4, a5, a6⟩ := hne
  have b1 : ((c : Int) == 40) = false := by simp; omega
  have b2 : ((c : Int) == 41) = false := by simp; omega
  have b3 : ((c : Int) == 124) = false := by simp; omega
  have b4 : ((c : Int) == 42) = false := by simp; omega
  have b5 : ((c : Int) == 43) = false := by simp; omega
  have b6 : ((c : Int) == 63) = false := by simp; omega
  clear hS hA hk a1 a2 a3 a4 a5 a6
  go_enter Tryz.func155, Tryz.ntmps155
  go_wp2
  go_quiet (fail)
  go_wp2
  go_light
  go_ret
  exact ⟨rfl, _, rfl⟩

set_option maxHeartbeats 4000000 in
theorem sign_yes (S b o cap : Nat) (bs : List Nat) (i : Nat) (v : Value) (N : Nat) (L : List Lex) (W : World) (hS : Spl W S b o bs.length cap i v 0 0) (hrow : W.ownsRow N 116 8 v L.length (lexCells L)) (hN : N ≤ S) (hL : L.length ≤ 100000) (hA : BytesAt W N (some ⟨b, o, none⟩) bs) (h0 : i < bs.length) (hk : signKind (byteAt bs i) ≠ 0) :
    Calls Tryz.prog 155 #[.pointer (some ⟨S, 0, none⟩)] W fun e W' => e = .returned (.bool true) ∧ Below N W W' ∧ ∃ v', Spl W' S b o bs.length cap ((i : Int) + 1) v' 0 0 ∧ W'.ownsRow N 116 8 v' (L.length + 1) (lexCells (L ++ [⟨signKind (byteAt bs i), i, noSet, 0, 0⟩])) := by
  obtain ⟨s0, s1, s2, s3, s4, f0, f1, f2, f3, f4⟩ := hS.cells
  have hcell := bytesAt_cells hA i h0
  have hl := hA.2.1
  have hc256 := byteAt_lt hA.1 i

  have hlt := Blk.lt hS
  have hi2 : i < 140737488355328 := by omega
  have hcs : byteAt bs i = 40 ∨ byteAt bs i = 41 ∨ byteAt bs i = 124 ∨ byteAt bs i = 42 ∨ byteAt bs i = 43 ∨ byteAt bs i = 63 := by
    unfold signKind at hk
    by_cases a1 : byteAt bs i = 40
    · omega
    by_cases a2 : byteAt bs i = 41
    · omega
    by_cases a3 : byteAt bs i = 124
    · omega
    by_cases a4 : byteAt bs i = 42
    · omega
    by_cases a5 : byteAt bs i = 43
    · omega
    by_cases a6 : byteAt bs i = 63
    · omega
    rw [if_neg a1, if_neg a2, if_neg a3, if_neg a4, if_neg a5, if_neg a6] at hk
    exact absurd rfl hk
  have hP := fun (kd : Int) (n : Nat) => put_no S b o bs.length cap i v 0 0 N L kd 0 0 0 ((i : Int) + 1) (W.drewN n) hS hrow hN hL
  have HP := Lib.hid hP
  clear hS hA hk hP hrow
  rcases hcs with hc | hc | hc | hc | hc | hc
  · rw [hc] at hcell
    have HK := Lib.hid (show signKind (byteAt bs i) = 2 by rw [hc]; rfl)
    clear hc hc256
    go_enter Tryz.func155, Tryz.ntmps155
    go_wp2
    go_quiet (fail)
    go_wp2_with fail
    refine (HP.out 2 _).mono ?_
    rintro e w4 ⟨rfl, hb4, hv4⟩
    have HV := Lib.hid hv4
    have HB4 := Lib.hid hb4
    clear hv4 hb4
    go_wp2
    go_light
    go_ret
    exact ⟨rfl, (bel_drewN (Below.refl N W) _).trans HB4.out, by rw [HK.out]; exact HV.out⟩
  · rw [hc] at hcell
    have HK := Lib.hid (show signKind (byteAt bs i) = 3 by rw [hc]; rfl)
    clear hc hc256
    go_enter Tryz.func155, Tryz.ntmps155
    go_wp2
    go_quiet (fail)
    go_wp2_with fail
    refine (HP.out 3 _).mono ?_
    rintro e w4 ⟨rfl, hb4, hv4⟩
    have HV := Lib.hid hv4
    have HB4 := Lib.hid hb4
    clear hv4 hb4
    go_wp2
    go_light
    go_ret
    exact ⟨rfl, (bel_drewN (Below.refl N W) _).trans HB4.out, by rw [HK.out]; exact HV.out⟩
  · rw [hc] at hcell
    have HK := Lib.hid (show signKind (byteAt bs i) = 4 by rw [hc]; rfl)
    clear hc hc256
    go_enter Tryz.func155, Tryz.ntmps155
    go_wp2
    go_quiet (fail)
    go_wp2_with fail
    refine (HP.out 4 _).mono ?_
    rintro e w4 ⟨rfl, hb4, hv4⟩
    have HV := Lib.hid hv4
    have HB4 := Lib.hid hb4
    clear hv4 hb4
    go_wp2
    go_light
    go_ret
    exact ⟨rfl, (bel_drewN (Below.refl N W) _).trans HB4.out, by rw [HK.out]; exact HV.out⟩
  · rw [hc] at hcell
    have HK := Lib.hid (show signKind (byteAt bs i) = 5 by rw [hc]; rfl)
    clear hc hc256
    go_enter Tryz.func155, Tryz.ntmps155
    go_wp2
    go_quiet (fail)
    go_wp2_with fail
    refine (HP.out 5 _).mono ?_
    rintro e w4 ⟨rfl, hb4, hv4⟩
    have HV := Lib.hid hv4
    have HB4 := Lib.hid hb4
    clear hv4 hb4
    go_wp2
    go_light
    go_ret
    exact ⟨rfl, (bel_drewN (Below.refl N W) _).trans HB4.out, by rw [HK.out]; exact HV.out⟩
  · rw [hc] at hcell
    have HK := Lib.hid (show signKind (byteAt bs i) = 6 by rw [hc]; rfl)
    clear hc hc256
    go_enter Tryz.func155, Tryz.ntmps155
    go_wp2
    go_quiet (fail)
    go_wp2_with fail
    refine (HP.out 6 _).mono ?_
    rintro e w4 ⟨rfl, hb4, hv4⟩
    have HV := Lib.hid hv4
    have HB4 := Lib.hid hb4
    clear hv4 hb4
    go_wp2
    go_light
    go_ret
    exact ⟨rfl, (bel_drewN (Below.refl N W) _).trans HB4.out, by rw [HK.out]; exact HV.out⟩
  · rw [hc] at hcell
    have HK := Lib.hid (show signKind (byteAt bs i) = 7 by rw [hc]; rfl)
    clear hc hc256
    go_enter Tryz.func155, Tryz.ntmps155
    go_wp2
    go_quiet (fail)
    go_wp2_with fail
    refine (HP.out 7 _).mono ?_
    rintro e w4 ⟨rfl, hb4, hv4⟩
    have HV := Lib.hid hv4
    have HB4 := Lib.hid hb4
    clear hv4 hb4
    go_wp2
    go_light
    go_ret
    exact ⟨rfl, (bel_drewN (Below.refl N W) _).trans HB4.out, by rw [HK.out]; exact HV.out⟩

end Go.Proofs.YtffkppoidollnaaGreatDoor
namespace Go.Proofs.YtffkppoidollnaaGreatDoor
open Go.RowKit
set_option linter.unusedSimpArgs false
set_option linter.unusedVariables false
set_option maxRecDepth 100000

/-- What rep has about it: the box of the splitter, the box of the place. -/
structure Ctx (N S T I b o cap : Nat) (bs : List Nat) (i : Nat) (v : Value) (L : List Lex) (W0 : World) (j : Nat) (W : World) : Prop where
  hT : W.cell? ⟨T, 0, none⟩ = some (.pointer (some ⟨S, 0, none⟩))
  hI : Blk W I 3 #[.int .i64 (j : Int)]
  hS : Spl W S b o bs.length cap i v 0 0
  hrow : W.ownsRow N 116 8 v L.length (lexCells L)
  hA : BytesAt W N (some ⟨b, o, none⟩) bs
  hB : Below N W0 W
  hNS : N ≤ S
  hNI : N ≤ I
  hTI : T ≠ I
  hSI : S ≠ I
  hcap : bs.length ≤ cap

section
variable {N S T I b o cap : Nat} {bs : List Nat} {i : Nat} {v : Value} {L : List Lex} {W0 : World} {j : Nat} {W W' : World}
theorem Ctx.drewN (h : Ctx N S T I b o cap bs i v L W0 j W) (n : Nat) : Ctx N S T I b o cap bs i v L W0 j (W.drewN n) :=
  ⟨h.hT, h.hI, h.hS, h.hrow, h.hA, bel_drewN h.hB n, h.hNS, h.hNI, h.hTI, h.hSI, h.hcap⟩
theorem Ctx.below (h : Ctx N S T I b o cap bs i v L W0 j W) (hb : Below W.heap.size W W') : Ctx N S T I b o cap bs i v L W0 j W' :=
  ⟨(hb.cell (p := ⟨T, 0, none⟩) (World.block_lt_of_cell? W _ h.hT)).trans h.hT, h.hI.below hb h.hI.lt, Blk.below h.hS hb (Blk.lt h.hS), own_below h.hrow hb, h.hA.below (hb.mono (Nat.le_of_lt (Nat.lt_of_le_of_lt h.hNS (Blk.lt h.hS)))),
    h.hB.trans (hb.mono (Nat.le_of_lt (Nat.lt_of_le_of_lt h.hNS (Blk.lt h.hS)))), h.hNS, h.hNI, h.hTI, h.hSI, h.hcap⟩
theorem Ctx.set_ (h : Ctx N S T I b o cap bs i v L W0 j W) (m : Nat) : Ctx N S T I b o cap bs i v L W0 m (W.setCell ⟨I, 0, none⟩ (.int .i64 (m : Int))) :=
  ⟨(World.cell?_setCell_other W _ _ _ (fun e => h.hTI (by simpa using (congrArg Addr.block e).symm))).trans h.hT, h.hI.set_ 0 _, Blk.far h.hS (p := ⟨I, 0, none⟩) h.hSI _, own_set h.hrow (blk_not_row h.hI (by decide) h.hrow),
    h.hA.below ((Below.refl N W).setCell (p := ⟨I, 0, none⟩) h.hNI _), h.hB.setCell (p := ⟨I, 0, none⟩) h.hNI _, h.hNS, h.hNI, h.hTI, h.hSI, h.hcap⟩
theorem Ctx.facts (h : Ctx N S T I b o cap bs i v L W0 j W) : W.cell? ⟨T, 0, none⟩ = some (.pointer (some ⟨S, 0, none⟩)) ∧ W.cell? ⟨I, 0, none⟩ = some (.int .i64 (j : Int)) ∧ W.cell? ⟨S, 0, none⟩ = some (.slice (some ⟨b, o, none⟩) bs.length cap) ∧ W.frozen? ⟨I, 0, none⟩ = false ∧
    T < W.heap.size ∧ I < W.heap.size ∧ S < W.heap.size ∧ N ≤ W.heap.size :=
  ⟨h.hT, h.hI.cell 0, (Spl.cells h.hS).1, h.hI.frozen 0, World.block_lt_of_cell? W _ h.hT, h.hI.lt, Blk.lt h.hS, Nat.le_of_lt (Nat.lt_of_le_of_lt h.hNS (Blk.lt h.hS))⟩
end

/-- A call that gives v, and keeps what rep has about it, the place at j. -/
def Kept (N S T I b o cap : Nat) (bs : List Nat) (i : Nat) (u : Value) (L : List Lex) (W0 : World) (j : Nat) (v : Value) (e : Ending) (W' : World) : Prop := e = .returned v ∧ Ctx N S T I b o cap bs i u L W0 j W'

set_option maxHeartbeats 2000000 in
theorem here_yes {N S T I b o cap : Nat} {bs : List Nat} {i : Nat} {v : Value} {L : List Lex} {W0 : World} {j : Nat} {W : World} (h : Ctx N S T I b o cap bs i v L W0 j W) (c : Nat) (hj : j < bs.length) :
    Calls Tryz.prog 193 #[.int .u8 (c : Int), .pointer (some ⟨I, 0, none⟩), .pointer (some ⟨T, 0, none⟩)] W (Kept N S T I b o cap bs i v L W0 j (.bool (hasAt bs j c))) := by
  obtain ⟨c0, c1, c2, f1, l0, l1, l2, _⟩ := h.facts
  have hcell := bytesAt_cells h.hA j hj
  have hl := h.hA.2.1
  have HK := Lib.hid h
  have Hh := Lib.hid (hasAt_in c hj)
  clear h
  generalize byteAt bs j = d at *
  have hd : decide (j < bs.length) = true := by simp; omega
  have hd2 : (j : Int) < (bs.length : Int) := by omega
  go_enter Tryz.func193, Tryz.ntmps193
  go_wp2
  go_quiet (fail)
  go_wp2
  go_light
  go_ret
  refine ⟨ret_b ?_, HK.out.drewN _⟩
  rw [Hh.out]
  rw [Bool.eq_iff_iff]
  simp
  omega
set_option maxHeartbeats 2000000 in
theorem here_end {N S T I b o cap : Nat} {bs : List Nat} {i : Nat} {v : Value} {L : List Lex} {W0 : World} {j : Nat} {W : World} (h : Ctx N S T I b o cap bs i v L W0 j W) (c : Nat) (hj : bs.length ≤ j) :
    Calls Tryz.prog 193 #[.int .u8 (c : Int), .pointer (some ⟨I, 0, none⟩), .pointer (some ⟨T, 0, none⟩)] W (Kept N S T I b o cap bs i v L W0 j (.bool (hasAt bs j c))) := by
  obtain ⟨c0, c1, c2, f1, l0, l1, l2, _⟩ := h.facts
  have hl := h.hA.2.1
  have HK := Lib.hid h
  have Hh := Lib.hid (hasAt_out (bs := bs) (i := (j : Int)) c (by omega))
  clear h
  have hd : decide (j < bs.length) = false := by simp; omega
  go_enter Tryz.func193, Tryz.ntmps193
  go_wp2
  go_quiet (fail)
  go_wp2
  go_light
  go_ret
  exact ⟨ret_b (by rw [Hh.out]), HK.out.drewN _⟩
theorem sphere_go {N S T I b o cap : Nat} {bs : List Nat} {i : Nat} {v : Value} {L : List Lex} {W0 : World} {j : Nat} {W : World} (h : Ctx N S T I b o cap bs i v L W0 j W) (c : Nat) :
    Calls Tryz.prog 193 #[.int .u8 (c : Int), .pointer (some ⟨I, 0, none⟩), .pointer (some ⟨T, 0, none⟩)] W (Kept N S T I b o cap bs i v L W0 j (.bool (hasAt bs j c))) := by
  rcases Nat.lt_or_ge j bs.length with hj | hj
  · exact here_yes h c hj
  · exact here_end h c hj

set_option maxHeartbeats 2000000 in
theorem num_yes {N S T I b o cap : Nat} {bs : List Nat} {i : Nat} {v : Value} {L : List Lex} {W0 : World} {j : Nat} {W : World} (h : Ctx N S T I b o cap bs i v L W0 j W) (hj : j ≤ bs.length) {n m : Nat} (ht : takeS bs j = some (n, m)) :
    Calls Tryz.prog 191 #[.pointer (some ⟨T, 0, none⟩), .pointer (some ⟨I, 0, none⟩)] W (Kept N S T I b o cap bs i v L W0 m (.tuple #[.int .i64 (n : Int), .bool true])) := by
  have Hv := Lib.hid (show takeVal bs j = .tuple #[.int .i64 (n : Int), .int .i64 (m : Int), .int .i64 0] by unfold takeVal; rw [ht])
  clear ht
  obtain ⟨c0, c1, c2, f1, l0, l1, l2, l3⟩ := h.facts
  have hl := h.hA.2.1
  have HK := Lib.hid h
  have HE := Lib.hid (fun w hA => take_at b o cap bs j w hA h.hcap hj)
  clear h
  go_enter Tryz.func191, Tryz.ntmps191
  go_wp2_with fail
  go_region_held3 (fun w' => (∀ b o, b < W.heap.size → w'.cell? ⟨b, o, none⟩ = W.cell? ⟨b, o, none⟩) ∧ Since W.heap.size W w') (first | (with_reducible exact HK2.out) | (with_reducible exact since_start (Nat.le_refl _)))
    (first | (go_at_call 192; refine (HE.out _ (bytes_since (by assumption) HK.out.hA l3)).mono ?_; rintro e w' ⟨rfl, hb'⟩; rw [Hv.out]; have hK := since_step (by assumption) hb'; have HK2 := Lib.hid hK; clear hK))
  have HC := Lib.hid (HK.out.below HK2.out.2.1)
  obtain ⟨k0, k1, k2, g1, _, _, _, _⟩ := HC.out.facts

  go_wp2
  go_light
  go_ret2
  exact ⟨rfl, HC.out.set_ m⟩
set_option maxHeartbeats 2000000 in
theorem num_no {N S T I b o cap : Nat} {bs : List Nat} {i : Nat} {v : Value} {L : List Lex} {W0 : World} {j : Nat} {W : World} (h : Ctx N S T I b o cap bs i v L W0 j W) (hj : j ≤ bs.length) (ht : takeS bs j = none) :
    Calls Tryz.prog 191 #[.pointer (some ⟨T, 0, none⟩), .pointer (some ⟨I, 0, none⟩)] W (Kept N S T I b o cap bs i v L W0 j (.tuple #[.int .i64 0, .bool false])) := by
  have Hv := Lib.hid (show takeVal bs j = .tuple #[.int .i64 0, .int .i64 0, .int .i64 (takeErr bs j)] by unfold takeVal; rw [ht])
  have hk := takeErr_pos bs j
  generalize takeErr bs j = k at *
  have hk0 : (k != 0) = true := by rw [bne_iff_ne]; omega
  clear ht hk
  obtain ⟨c0, c1, c2, f1, l0, l1, l2, l3⟩ := h.facts
  have hl := h.hA.2.1
  have HK := Lib.hid h
  have HE := Lib.hid (fun w hA => take_at b o cap bs j w hA h.hcap hj)
  clear h
  go_enter Tryz.func191, Tryz.ntmps191
  go_wp2_with fail
  go_region_held3 (fun w' => (∀ b o, b < W.heap.size → w'.cell? ⟨b, o, none⟩ = W.cell? ⟨b, o, none⟩) ∧ Since W.heap.size W w') (first | (with_reducible exact HK2.out) | (with_reducible exact since_start (Nat.le_refl _)))
    (first | (go_at_call 192; refine (HE.out _ (bytes_since (by assumption) HK.out.hA l3)).mono ?_; rintro e w' ⟨rfl, hb'⟩; rw [Hv.out]; have hK := since_step (by assumption) hb'; have HK2 := Lib.hid hK; clear hK))
  have HC := Lib.hid (HK.out.below HK2.out.2.1)
  obtain ⟨k0, k1, k2, g1, _, _, _, _⟩ := HC.out.facts

  go_wp2
  go_light
  go_ret2
  exact ⟨rfl, HC.out⟩

end Go.Proofs.YtffkppoidollnaaGreatDoor
namespace Go.Proofs.YtffkppoidollnaaGreatDoor
set_option linter.unusedSimpArgs false
set_option linter.unusedVariables false

theorem lexS_dot {bs : List Nat} {i : Nat} (h : byteAt bs i = 46) : lexS bs i = .ok (⟨1, i, dotSet, 0, 0⟩, i + 1) := by
  unfold lexS; rw [if_pos h]
theorem lexS_esc {bs : List Nat} {i c j : Nat} (h : byteAt bs i = 92) (he : escS bs i = some (c, j)) : lexS bs i = .ok (⟨1, i, among [c] 1, 0, 0⟩, j) := by
  unfold lexS; rw [if_neg (by omega), if_pos h, he]
theorem lexS_esc_no {bs : List Nat} {i : Nat} (h : byteAt bs i = 92) (he : escS bs i = none) : lexS bs i = .error (14, i) := by
  unfold lexS; rw [if_neg (by omega), if_pos h, he]
theorem lexS_class {bs : List Nat} {i : Nat} {p : Nat → Bool} {j : Nat} (h : byteAt bs i = 91) (he : readS bs i = .ok (p, j)) : lexS bs i = .ok (⟨1, i, p, 0, 0⟩, j) := by
  unfold lexS; rw [if_neg (by omega), if_neg (by omega), if_pos h, he]
theorem lexS_class_no {bs : List Nat} {i : Nat} {e : Wrong} (h : byteAt bs i = 91) (he : readS bs i = .error e) : lexS bs i = .error e := by
  unfold lexS; rw [if_neg (by omega), if_neg (by omega), if_pos h, he]
theorem lexS_rep {bs : List Nat} {i : Nat} (h : byteAt bs i = 123) : lexS bs i = repS bs i := by
  unfold lexS; rw [if_neg (by omega), if_neg (by omega), if_neg (by omega), if_pos h]
theorem lexS_form {bs : List Nat} {i : Nat} (h : byteAt bs i = 93 ∨ byteAt bs i = 125 ∨ byteAt bs i = 10) : lexS bs i = .error (3, i) := by
  unfold lexS; rw [if_neg (by omega), if_neg (by omega), if_neg (by omega), if_neg (by omega), if_pos h]
/-- A byte that next leaves to sign. -/
def Common (c : Nat) : Prop := c ≠ 46 ∧ c ≠ 92 ∧ c ≠ 91 ∧ c ≠ 123 ∧ c ≠ 93 ∧ c ≠ 125 ∧ c ≠ 10
theorem lexS_sign {bs : List Nat} {i : Nat} (h : Common (byteAt bs i)) (hk : signKind (byteAt bs i) ≠ 0) : lexS bs i = .ok (⟨signKind (byteAt bs i), i, noSet, 0, 0⟩, i + 1) := by
  obtain ⟨h1, h2, h3, h4, h5, h6, h7⟩ := h
  unfold lexS; rw [if_neg h1, if_neg h2, if_neg h3, if_neg h4, if_neg (by omega), if_pos hk]
theorem lexS_own {bs : List Nat} {i : Nat} (h : Common (byteAt bs i)) (hk : signKind (byteAt bs i) = 0) : lexS bs i = .ok (⟨1, i, among [byteAt bs i] 1, 0, 0⟩, i + 1) := by
  obtain ⟨h1, h2, h3, h4, h5, h6, h7⟩ := h
  unfold lexS; rw [if_neg h1, if_neg h2, if_neg h3, if_neg h4, if_neg (by omega), if_neg (by omega)]

end Go.Proofs.YtffkppoidollnaaGreatDoor
namespace Go.Proofs.YtffkppoidollnaaGreatDoor
open Go.RowKit
set_option linter.unusedSimpArgs false
set_option linter.unusedVariables false
set_option maxRecDepth 100000

/-- What stands at a place when i rounds have turned a list from its two ends. -/
def revAt {α : Type} (l : List α) (i p : Nat) : Option α := if p < i ∨ l.length - i ≤ p then l[l.length - 1 - p]? else l[p]?
/-- A row of bytes in a block of its own, some rounds turned. -/
def RevB (w0 : World) (g : Nat) (bs : List Nat) (i : Nat) (w : World) : Prop :=
  ∃ cur : Array Value, Blk w g 5 cur ∧ bs.length ≤ cur.size ∧ (∀ p, p < bs.length → cur[p]? = (revAt bs i p).map fun n : Nat => Value.int .u8 (n : Int)) ∧ w0.grownBy w (some g)
theorem RevB.drew {w0 w : World} {g i : Nat} {bs : List Nat} (h : RevB w0 g bs i w) : RevB w0 g bs i w.drew := by
  obtain ⟨cur, h1, h2, h3, h4⟩ := h
  exact ⟨cur, h1.drew, h2, h3, ⟨h4.os, h4.tape, h4.output, h4.size, h4.block⟩⟩
end Go.Proofs.YtffkppoidollnaaGreatDoor
namespace Go.Proofs.YtffkppoidollnaaGreatDoor
open Go.RowKit
set_option linter.unusedSimpArgs false
set_option linter.unusedVariables false
set_option maxRecDepth 100000

/-- A row of nodes' cells in a block, some rounds turned. -/
def RevN (w0 : World) (g : Nat) (gs : List (Nd × Option Addr × Nat)) (i : Nat) (w : World) : Prop :=
  ∃ cur : Array Value, Blk w g 39 cur ∧ gs.length * 8 ≤ cur.size ∧ (∀ p a, p < gs.length → revAt gs i p = some a → ∀ j, j < 8 → cur[p * 8 + j]? = (ndCell a.1 a.2.1 a.2.2)[j]?) ∧ w0.grownBy w (some g)
theorem RevN.drew {w0 w : World} {g i : Nat} {gs : List (Nd × Option Addr × Nat)} (h : RevN w0 g gs i w) : RevN w0 g gs i w.drew := by
  obtain ⟨cur, h1, h2, h3, h4⟩ := h
  exact ⟨cur, h1.drew, h2, h3, ⟨h4.os, h4.tape, h4.output, h4.size, h4.block⟩⟩
end Go.Proofs.YtffkppoidollnaaGreatDoor
namespace Go.Proofs.YtffkppoidollnaaGreatDoor
open Go.RowKit
set_option linter.unusedSimpArgs false
set_option linter.unusedVariables false
set_option maxRecDepth 100000

theorem addr_plusR (b o j : Nat) : (⟨b, o, none⟩ : Addr).add j = ⟨b, o + j, none⟩ := by unfold Addr.add; split <;> simp_all
end Go.Proofs.YtffkppoidollnaaGreatDoor
namespace Go.Proofs.YtffkppoidollnaaGreatDoor
open Go.RowKit
set_option linter.unusedSimpArgs false
set_option linter.unusedVariables false
set_option maxRecDepth 100000

end Go.Proofs.YtffkppoidollnaaGreatDoor
namespace Go.Proofs.YtffkppoidollnaaGreatDoor
open Go.RowKit
set_option linter.unusedSimpArgs false
set_option linter.unusedVariables false
set_option maxRecDepth 100000

end Go.Proofs.YtffkppoidollnaaGreatDoor
namespace Go.Proofs.YtffkppoidollnaaGreatDoor
open Go.RowKit
set_option linter.unusedSimpArgs false
set_option linter.unusedVariables false
set_option maxRecDepth 100000

end Go.Proofs.YtffkppoidollnaaGreatDoor
