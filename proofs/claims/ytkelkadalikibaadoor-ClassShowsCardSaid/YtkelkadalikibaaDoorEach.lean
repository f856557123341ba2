/-
  The contract of the iterator of sets.each: the members of a set in order.
-/
import Derived.RangeFuncNested
import Derived.RangeFuncBound
import Derived.RangeFuncCalls
import Derived.RangeFuncLeaves
import Derived.Shelf.Abstract
import Derived.Shelf.RegionOpen
import Derived.WalkKit
import Derived.OwnWalkIn
import Derived.TacticsInMore
import Derived.LoopNIn
import Derived.LoopIn
import Derived.Test.YtkelkadalikibaaDoorTz
import Derived.Test.YtkelkadalikibaaDoorElems
namespace Go.Proofs.YtkelkadalikibaaDoor
open Go.RowKit Go.Shelf
set_option linter.unusedSimpArgs false
set_option linter.unusedVariables false
set_option maxRecDepth 100000
attribute [local go_sem] Oper.semAt_some

theorem index_at (p : Nat → Bool) (i : Nat) (hi : i < 4) (w : World) : (Instr.index 25 (.agg #[.int .u64 ((word (p) 0 : Nat) : Int), .int .u64 ((word (p) 1 : Nat) : Int), .int .u64 ((word (p) 2 : Nat) : Int), .int .u64 ((word (p) 3 : Nat) : Int)]) (.int .i64 (i : Int))).run Tryd.prog w = .ok (.int .u64 ((word p i : Nat) : Int)) w := by
  rcases i with _ | _ | _ | _ | i
  · exact index0 ..
  · exact index1 ..
  · exact index2 ..
  · exact index3 ..
  · omega

/-- The arguments of a round. -/
def byteArg (x : Nat) : Array Value := #[.int .u8 ((x % 256 : Nat) : Int)]

set_option maxHeartbeats 2000000 in
theorem each1_in (n : Nat) (hn : 1 ≤ n) (p : Nat → Bool) (l Bs n₀ : Nat) (hBs : 0 < n₀) (J Jx : List Nat → World → Prop)
    (hY : ∀ pre x W, J pre W → pre.length < 256 → YieldAt Fence.wide (n - 1) Tryd.prog l (byteArg x) W fun e W' =>
      (e = .returned (.bool true) ∧ J (pre ++ [x]) W' ∧ Below n₀ W W') ∨ (e = .returned (.bool false) ∧ Jx (pre ++ [x]) W'))
    (W : World) (hs : Blk W Bs 25 #[.int .u64 ((word (p) 0 : Nat) : Int), .int .u64 ((word (p) 1 : Nat) : Int), .int .u64 ((word (p) 2 : Nat) : Int), .int .u64 ((word (p) 3 : Nat) : Int)]) (hT : TabAt 0 Lib.deBruijn64tab W) (h0 : J [] W) :
    CallsIn Fence.wide n Tryd.prog 83 #[.func (.yield l) #[] #[], .pointer (some ⟨Bs, 0, none⟩)] W fun e W' => (∃ v, e = .returned v) ∧
      ((∃ ys, ys = elems p 256 ∧ J ys W') ∨ (∃ pre, (∃ k, k ≤ 256 ∧ pre = elems p k) ∧ Jx pre W')) := by
  refine callsIn_of_wp Tryd.func83 rfl trivial ?_ rfl
  simp only [Tryd.ntmps83, List.size_toArray, List.length_cons, List.length_nil, Nat.reduceAdd, Nat.reduceSub, Array.replicate_succ, Array.replicate_zero, List.push_toArray, List.append_toArray, List.nil_append, List.cons_append]
  obtain ⟨s0, s1, s2, s3, f0, f1, f2, f3⟩ := hs.c4
  gi_wp2
  gi_loopw [6] (fun v wr => ∃ i : Nat, i ≤ 4 ∧ v = .int .i64 (i : Int) ∧ J (elems p (64 * i)) wr ∧ Below n₀ W wr)
    (fun v _ => 4 - (intOf v).toNat)
  case atStart => exact ⟨0, by omega, rfl, h0, Below.refl _ _⟩
  case round =>
    obtain ⟨i, hi, rfl, hJ, hB⟩ := hrel
    by_cases hlt : i < 4
    · have hix := index_at p i hlt
      gi_wp2
      have hd : decide ((i : Int) < 4) = true := by simp; omega
      rw [hd]
      gi_loopw [4] (fun v w2 => ∃ m : Nat, m ≤ 64 * i + 64 ∧ 64 * i ≤ m ∧ v = .int .u64 ((word (fun c => p c && decide (m ≤ c)) i : Nat) : Int) ∧ J (elems p m) w2 ∧ Below n₀ W w2)
        (fun v _ => (intOf v).toNat)
      case atStart => exact ⟨64 * i, by omega, Nat.le_refl _, by rw [word_start], hJ, hB⟩
      case round =>
        obtain ⟨m, hm1, hm2, rfl, hJ2, hB2⟩ := hrel
        by_cases hz : word (fun c => p c && decide (m ≤ c)) i = 0
        · have hend := elems_end p i m hm1 hm2 hz
          rw [hz]
          gi_wp2
          exact ⟨⟨i + 1, by omega, by simp, by rw [hend]; exact hJ2, hB2⟩, by simp [intOf]; omega⟩
        · obtain ⟨hk, hmk, hel, hand, hless⟩ := elems_next p i m hm1 hm2 hz
          have hx := word_lt (fun c => p c && decide (m ≤ c)) i
          generalize hwx : word (fun c => p c && decide (m ≤ c)) i = x at *
          have hx0 : ((x : Int) == 0) = false := by simp; omega
          have hTx : TabAt 0 Lib.deBruijn64tab _ := fun j hj => (hB2.cell (p := ⟨0, j, none⟩) (by show 0 < n₀; omega)).trans (hT j hj)
          have htz := tz_go x hx hz _ hTx
          generalize Lib.ctz 64 x = k at *
          obtain ⟨fn, tmps, assign, body, hy, hR⟩ := hY _ (64 * i + k) _ hJ2 (by have := elems_len p m; omega)
          unfold byteArg at hy
          have ev : (((64 * i + k) % 256 : Nat) : Int) = (i : Int) * 64 + (k : Int) := by omega
          rw [ev] at hy
          have esub : IntKind.u64.wrap ((x : Int) - 1) = ((x - 1 : Nat) : Int) := by rw [IntKind.wrap_u64]; omega
          have eand : bits .and .u64 (x : Int) ((x - 1 : Nat) : Int) = ((word (fun c => p c && decide (64 * i + k + 1 ≤ c)) i : Nat) : Int) := by
            rw [← hand]; exact u64_and_nat x (x - 1) hx (by omega)
          clear hwx
          gi_wp2_with (refine ⟨trivial, ?_⟩; gi_at_call 84; refine (callsIn_wide.2 htz).mono ?_; rintro e w' ⟨rfl, rfl⟩)
          refine hR.mono ?_
          rintro e W3 (⟨rfl, hJ3, hk3⟩ | ⟨rfl, hJx3⟩)
          · gi_wp2
            go_roundw
            case rel => exact ⟨64 * i + k + 1, by omega, by omega, rfl, by rw [hel]; exact hJ3, hB2.trans hk3⟩
            case measure => simp [intOf]; omega
          · gi_wp2
            refine bodyPost_ret (results_none rfl _ _ _) rfl ?_
            exact ⟨⟨_, rfl⟩, .inr ⟨_, ⟨64 * i + k + 1, by omega, hel.symm⟩, hJx3⟩⟩
    · obtain rfl : i = 4 := by omega
      gi_wp2
      go_end0
      exact ⟨⟨_, rfl⟩, .inl ⟨_, rfl, hJ⟩⟩

/-- sets.each: the set is boxed; the function value holds the box. -/
theorem each_go (p : Nat → Bool) (w : World) :
    Calls Tryd.prog 60 #[.agg #[.int .u64 ((word (p) 0 : Nat) : Int), .int .u64 ((word (p) 1 : Nat) : Int), .int .u64 ((word (p) 2 : Nat) : Int), .int .u64 ((word (p) 3 : Nat) : Int)]] w fun e w' => e = .returned (.func (.func 83) #[] #[.pointer (some ⟨w.heap.size, 0, none⟩)]) ∧ w' = w.alloc (.cells #[.int .u64 ((word (p) 0 : Nat) : Int), .int .u64 ((word (p) 1 : Nat) : Int), .int .u64 ((word (p) 2 : Nat) : Int), .int .u64 ((word (p) 3 : Nat) : Int)] 25) := by
  go_enter Tryd.func60, Tryd.ntmps60
  go_wp2
  go_light
  go_ret
  exact ⟨rfl, rfl⟩

theorem TabAt.below {n₀ : Nat} {A B : World} (h : Below n₀ A B) (h0 : 0 < n₀) (hT : TabAt 0 Lib.deBruijn64tab A) : TabAt 0 Lib.deBruijn64tab B :=
  fun j hj => (h.cell (p := ⟨0, j, none⟩) h0).trans (hT j hj)

/-- What sets.each hands back hands out the members in order. -/
theorem each_stops (n : Nat) (hn : 1 ≤ n) (p : Nat → Bool) (Bs n₀ : Nat) (w : World) (hBs : 0 < n₀) (hBw : Bs < w.heap.size) (hs : Blk w Bs 25 #[.int .u64 ((word (p) 0 : Nat) : Int), .int .u64 ((word (p) 1 : Nat) : Int), .int .u64 ((word (p) 2 : Nat) : Int), .int .u64 ((word (p) 3 : Nat) : Int)]) (hT : TabAt 0 Lib.deBruijn64tab w) :
    SeqStopsK Fence.wide n Tryd.prog 83 #[.pointer (some ⟨Bs, 0, none⟩)] byteArg (Below n₀) (fun ys => ys = elems p 256) (fun pre => ∃ k, k ≤ 256 ∧ pre = elems p k) 256 w := fun l J Jx W hW _ _ hY h0 =>
  each1_in n hn p l Bs n₀ hBs J Jx hY W (hs.below hW hBw) (TabAt.below hW (by omega) hT) h0

end Go.Proofs.YtkelkadalikibaaDoor
