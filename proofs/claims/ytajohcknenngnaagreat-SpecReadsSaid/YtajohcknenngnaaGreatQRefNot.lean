/-
  The contract of the reference's Not.
-/
import Derived.Test.YtajohcknenngnaaGreatQRefTwo
namespace Go.Proofs.YtajohcknenngnaaGreat
open Go.RowKit
set_option linter.unusedSimpArgs false
set_option linter.unusedVariables false

theorem two_not (p : Nat → Bool) (i : Nat) (h : i < 4) : word (two 2 (between 0 255) p) i = word (fun c => !p c) i := by
  apply word_congr
  intro j hj
  simp [two, between]
  omega

set_option maxRecDepth 100000 in
set_option maxHeartbeats 800000 in
theorem rnot_any (p : Nat → Bool) (w : World) :
    Calls Tryz.prog 125 #[.agg #[.int .u64 ((word (p) 0 : Nat) : Int), .int .u64 ((word (p) 1 : Nat) : Int), .int .u64 ((word (p) 2 : Nat) : Int), .int .u64 ((word (p) 3 : Nat) : Int)]] w fun e w' => e = .returned (.agg #[.int .u64 ((word (fun c => !p c) 0 : Nat) : Int), .int .u64 ((word (fun c => !p c) 1 : Nat) : Int), .int .u64 ((word (fun c => !p c) 2 : Nat) : Int), .int .u64 ((word (fun c => !p c) 3 : Nat) : Int)]) ∧ Below w.heap.size w w' := by
  go_enter Tryz.func125, Tryz.ntmps125
  go_wp2_with fail
  have B0 : Hid (Blk ((w.alloc (.cells #[.int .u64 ((word (p) 0 : Nat) : Int), .int .u64 ((word (p) 1 : Nat) : Int), .int .u64 ((word (p) 2 : Nat) : Int), .int .u64 ((word (p) 3 : Nat) : Int)] 37)).alloc (.cells #[.int .u64 0, .int .u64 0, .int .u64 0, .int .u64 0] 37)).drew w.heap.size 37 #[.int .u64 ((word (p) 0 : Nat) : Int), .int .u64 ((word (p) 1 : Nat) : Int), .int .u64 ((word (p) 2 : Nat) : Int), .int .u64 ((word (p) 3 : Nat) : Int)]) := (Blk.new _ _ _).alloc _
  have B1 : Hid (Blk ((w.alloc (.cells #[.int .u64 ((word (p) 0 : Nat) : Int), .int .u64 ((word (p) 1 : Nat) : Int), .int .u64 ((word (p) 2 : Nat) : Int), .int .u64 ((word (p) 3 : Nat) : Int)] 37)).alloc (.cells #[.int .u64 0, .int .u64 0, .int .u64 0, .int .u64 0] 37)).drew (w.heap.size + 1) 37 #[.int .u64 0, .int .u64 0, .int .u64 0, .int .u64 0]) := Blk.new_at (by simp)
  go_region_with (first
    | (go_at_call 133; refine (rspan_any 0 255 _ (by omega) (by omega) (by omega) (by omega)).mono ?_; rintro e w1 ⟨rfl, hb1⟩; obtain ⟨p0, p1, p2, p3, _, _, _, _⟩ := (B0.out.below hb1 B0.out.lt).c4)
    | (go_at_call 132; refine (rtwo_any _ _ _ _ (by omega)).mono ?_; rintro e w2 ⟨rfl, hb2⟩; obtain ⟨r0, r1, r2, r3, f0, f1, f2, f3⟩ := (B1.out.below (hb1.trans (hb2.mono hb1.size)) B1.out.lt).c4))
  all_goals go_wp2
  all_goals go_light
  all_goals refine bodyPost_ret (ret_set Tryz.results125 rfl (B1.out.below (hb1.trans (hb2.mono hb1.size)) B1.out.lt).set4) rfl ⟨?_, ?_⟩
  all_goals first
    | (rw [two_not p 0 (by decide), two_not p 1 (by decide), two_not p 2 (by decide), two_not p 3 (by decide)]; done)
    | (refine Below.trans (b := ((w.alloc (.cells #[.int .u64 ((word (p) 0 : Nat) : Int), .int .u64 ((word (p) 1 : Nat) : Int), .int .u64 ((word (p) 2 : Nat) : Int), .int .u64 ((word (p) 3 : Nat) : Int)] 37)).alloc (.cells #[.int .u64 0, .int .u64 0, .int .u64 0, .int .u64 0] 37)).drew) ?_ ?_
       · exact (((Below.refl _ _).alloc (Nat.le_refl _) _).alloc (by simp) _).drew
       · repeat (first | exact (hb1.trans (hb2.mono hb1.size)).mono (by simp <;> omega) | refine Below.setCell ?_ (by dsimp only; omega) _))

end Go.Proofs.YtajohcknenngnaaGreat
