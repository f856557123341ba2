/- Texts of the claim. -/
import Derived.RangeFuncNested
import Derived.RangeFuncBound
import Derived.RangeFuncCalls
import Derived.RangeFuncLeaves
import Derived.Shelf.Abstract
import Derived.Shelf.RegionOpen
import Derived.WalkKit
import Derived.OwnWalkIn
import Derived.TacticsInMore
import Derived.LoopNIn
import Derived.LoopIn
import Derived.Test.YtofbfafnpdaejaaGreatDoorKZ01
import Derived.Test.YtofbfafnpdaejaaGreatDoorKMatA
namespace Go.Proofs.YtofbfafnpdaejaaGreatDoor
open Go.RowKit Go.Shelf
set_option linter.unusedSimpArgs false
set_option linter.unusedVariables false
set_option maxRecDepth 100000
set_option maxHeartbeats 8000000
attribute [local go_sem] Oper.semAt_some
theorem index_pl (p : Nat → Bool) (i : Nat) (hi : i < 5) (w : World) : (Instr.index 69 (.agg #[.int .u64 (word p 0), .int .u64 (word p 1), .int .u64 (word p 2), .int .u64 (word p 3), .int .u64 (word p 4)]) (.int .i64 (i : Int))).run Tryz.prog w = .ok (.int .u64 ((word p i : Nat) : Int)) w := by
 rcases i with _ | _ | _ | _ | _ | i
 ·exact index5_0 ..
 ·exact index5_1 ..
 ·exact index5_2 ..
 ·exact index5_3 ..
 ·exact index5_4 ..
 ·omega
def placeArg (x : Nat) : Array Value := #[.int .i64 (x : Int)]
theorem pall1_in (n : Nat) (hn : 1 ≤ n) (p : Nat → Bool) (l Bs n₀ : Nat) (hBs : 0 < n₀) (J Jx : List Nat → World → Prop)
  (hY : ∀ pre x W, J pre W → pre.length < 320 → p x = true → YieldAt Fence.wide (n - 1) Tryz.prog l (placeArg x) W fun e W' =>
   (e = .returned (.bool true) ∧ J (pre ++ [x]) W' ∧ Below n₀ W W') ∨ (e = .returned (.bool false) ∧ Jx (pre ++ [x]) W'))
  (W : World) (hs : Blk W Bs 69 #[.int .u64 (word p 0), .int .u64 (word p 1), .int .u64 (word p 2), .int .u64 (word p 3), .int .u64 (word p 4)]) (hT : TabAt 0 Lib.deBruijn64tab W) (h0 : J [] W) :
  CallsIn Fence.wide n Tryz.prog 173 #[.func (.yield l) #[] #[], .pointer (some ⟨Bs, 0, none⟩)] W fun e W' => (∃ v, e = .returned v) ∧
   ((∃ ys, ys = elems p 320 ∧ J ys W') ∨ (∃ pre, (∃ k, k ≤ 320 ∧ pre = elems p k) ∧ Jx pre W')) := by
 refine callsIn_of_wp Tryz.func173 rfl trivial ?_ rfl
 simp only [Tryz.ntmps173, List.size_toArray, List.length_cons, List.length_nil, Nat.reduceAdd, Nat.reduceSub, Array.replicate_succ, Array.replicate_zero, List.push_toArray, List.append_toArray, List.nil_append, List.cons_append]
 have s0 := hs.cell 0
 have s1 := hs.cell 1
 have s2 := hs.cell 2
 have s3 := hs.cell 3
 have s4 := hs.cell 4
 simp only [List.getElem?_toArray, List.getElem?_cons_zero, List.getElem?_cons_succ] at s0 s1 s2 s3 s4
 gi_wp2
 gi_loopw [6] (fun v wr => ∃ i : Nat, i ≤ 5 ∧ v = .int .i64 (i : Int) ∧ J (elems p (64 * i)) wr ∧ Below n₀ W wr)
  (fun v _ => 5 - (intOf v).toNat)
 case atStart => exact ⟨0, by omega, rfl, h0, Below.refl _ _⟩
 case round =>
  obtain ⟨i, hi, rfl, hJ, hB⟩ := hrel
  by_cases hlt : i < 5
  ·have hix := index_pl p i hlt
   gi_wp2
   have hd : decide ((i : Int) < 5) = true := by simp; omega
   rw [hd]
   gi_loopw [4] (fun v w2 => ∃ m : Nat, m ≤ 64 * i + 64 ∧ 64 * i ≤ m ∧ v = .int .u64 ((word (fun c => p c && decide (m ≤ c)) i : Nat) : Int) ∧ J (elems p m) w2 ∧ Below n₀ W w2)
    (fun v _ => (intOf v).toNat)
   case atStart => exact ⟨64 * i, by omega, Nat.le_refl _, by rw [word_start], hJ, hB⟩
   case round =>
    obtain ⟨m, hm1, hm2, rfl, hJ2, hB2⟩ := hrel
    by_cases hz : word (fun c => p c && decide (m ≤ c)) i = 0
    ·have hend := elems_end p i m hm1 hm2 hz
     rw [hz]
     gi_wp2
     exact ⟨⟨i + 1, by omega, by simp, by rw [hend]; exact hJ2, hB2⟩, by simp [intOf]; omega⟩
    ·obtain ⟨hk, hmk, hel, hand, hless⟩ := elems_next p i m hm1 hm2 hz
     have hx := word_lt (fun c => p c && decide (m ≤ c)) i
     generalize hwx : word (fun c => p c && decide (m ≤ c)) i = x at *
     have hx0 : ((x : Int) == 0) = false := by simp; omega
     have hTx : TabAt 0 Lib.deBruijn64tab _ := fun j hj => (hB2.cell (p := ⟨0, j, none⟩) (by show 0 < n₀; omega)).trans (hT j hj)
     have htz := tz_go x hx hz _ hTx
     generalize Lib.ctz 64 x = k at *
     obtain ⟨fn, tmps, assign, body, hy, hR⟩ := hY _ (64 * i + k) _ hJ2 (by have := elems_len p m; omega) (by
      have h9 : 64 * i + k ∈ elems p (64 * i + k + 1) := by rw [hel]; simp
      unfold elems at h9
      exact (List.mem_filter.1 h9).2)
     unfold placeArg at hy
     have ev : ((64 * i + k : Nat) : Int) = (i : Int) * 64 + (k : Int) := by omega
     rw [ev] at hy
     have esub : IntKind.u64.wrap ((x : Int) - 1) = ((x - 1 : Nat) : Int) := by rw [IntKind.wrap_u64]; omega
     have eand : bits .and .u64 (x : Int) ((x - 1 : Nat) : Int) = ((word (fun c => p c && decide (64 * i + k + 1 ≤ c)) i : Nat) : Int) := by
      rw [← hand]; exact u64_and_nat x (x - 1) hx (by omega)
     clear hwx
     gi_wp2_with (refine ⟨trivial, ?_⟩; gi_at_call 174; refine (callsIn_wide.2 htz).mono ?_; rintro e w' ⟨rfl, rfl⟩)
     refine hR.mono ?_
     rintro e W3 (⟨rfl, hJ3, hk3⟩ | ⟨rfl, hJx3⟩)
     ·gi_wp2
      go_roundw
      case rel => exact ⟨64 * i + k + 1, by omega, by omega, rfl, by rw [hel]; exact hJ3, hB2.trans hk3⟩
      case measure => simp [intOf]; omega
     ·gi_wp2
      refine bodyPost_ret (results_none rfl _ _ _) rfl ?_
      exact ⟨⟨_, rfl⟩, .inr ⟨_, ⟨64 * i + k + 1, by omega, hel.symm⟩, hJx3⟩⟩
  ·obtain rfl : i = 5 := by omega
   gi_wp2
   go_end0
   exact ⟨⟨_, rfl⟩, .inl ⟨_, rfl, hJ⟩⟩
theorem pall_go (p : Nat → Bool) (w : World) :
  Calls Tryz.prog 150 #[.agg #[.int .u64 (word p 0), .int .u64 (word p 1), .int .u64 (word p 2), .int .u64 (word p 3), .int .u64 (word p 4)]] w fun e w' => e = .returned (.func (.func 173) #[] #[.pointer (some ⟨w.heap.size, 0, none⟩)]) ∧ w' = w.alloc (.cells #[.int .u64 (word p 0), .int .u64 (word p 1), .int .u64 (word p 2), .int .u64 (word p 3), .int .u64 (word p 4)] 69) := by
 go_enter Tryz.func150, Tryz.ntmps150
 go_wp2
 go_light
 go_ret
 exact ⟨rfl, rfl⟩
theorem pall_sub (n : Nat) (hn : 1 ≤ n) (p : Nat → Bool) (m : Nat) (hm : ∀ c, p c = true → c ≤ m) (Bs n₀ : Nat) (w : World) (hBs : 0 < n₀) (hBw : Bs < w.heap.size) (hs : Blk w Bs 69 #[.int .u64 (word p 0), .int .u64 (word p 1), .int .u64 (word p 2), .int .u64 (word p 3), .int .u64 (word p 4)]) (hT : TabAt 0 Lib.deBruijn64tab w) :
  SeqStopsK Fence.wide n Tryz.prog 173 #[.pointer (some ⟨Bs, 0, none⟩)] (fun x : {c : Nat // c ≤ m} => placeArg x.1) (Below n₀) (fun ys => ys.map (·.1) = elems p 320) (fun pre => ∃ k, k ≤ 320 ∧ pre.map (·.1) = elems p k) 320 w := fun l J Jx W hW _ _ hY h0 => by
 refine (pall1_in n hn p l Bs n₀ hBs (fun pre W => ∃ q : List {c : Nat // c ≤ m}, q.map (·.1) = pre ∧ J q W) (fun pre W => ∃ q : List {c : Nat // c ≤ m}, q.map (·.1) = pre ∧ Jx q W) (fun pre x W1 hJ hl hpx => by
  obtain ⟨q, rfl, hJ⟩ := hJ
  refine (hY q ⟨x, hm x hpx⟩ W1 hJ (by simpa using hl)).mono fun e W' h => ?_
  rcases h with ⟨h1, h2, h3⟩ | ⟨h1, h2⟩
  ·exact .inl ⟨h1, ⟨_, by simp, h2⟩, h3⟩
  ·exact .inr ⟨h1, _, by simp, h2⟩) W (hs.below hW hBw) (TabAt.below hW (World.block_lt_of_cell? w _ (hT 0 (by decide))) hT) ⟨[], rfl, h0⟩).mono ?_
 rintro e W' ⟨h1, h2⟩
 refine ⟨h1, ?_⟩
 rcases h2 with ⟨ys, h3, q, h4, h5⟩ | ⟨pre, h3, q, h4, h5⟩
 ·exact .inl ⟨q, h4.trans h3, h5⟩
 ·obtain ⟨k, h6, h7⟩ := h3
  exact .inr ⟨q, ⟨k, h6, h4.trans h7⟩, h5⟩
end Go.Proofs.YtofbfafnpdaejaaGreatDoor
