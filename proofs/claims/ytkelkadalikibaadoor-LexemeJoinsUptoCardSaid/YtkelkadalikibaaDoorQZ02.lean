/-
  The members of a set in order; the lowest bit of a word, and the word without it. No program in sight. The contract of the iterator of sets.each: the members of a set in order. The reference's Bytes: the members of a set in order, in a slice of its own. The contract of the reference's Not. The splitter in memory; the contracts of put, set, fail and dot. May a lexeme be? The contracts of lexeme.Right and of its reference. How many bits of a number of 64 bits are set: the sum in parallel, byte by byte. No program in sight.
-/
import Derived.Lib.TrailingZeros
import Derived.RangeFuncNested
import Derived.RangeFuncBound
import Derived.RangeFuncCalls
import Derived.RangeFuncLeaves
import Derived.Shelf.Abstract
import Derived.Shelf.RegionOpen
import Derived.WalkKit
import Derived.OwnWalkIn
import Derived.TacticsInMore
import Derived.LoopNIn
import Derived.LoopIn
import Derived.Maps.AppendAt
import Derived.OwnWalk
import Derived.Lib.Hide
import Derived.Deep.AppendLies
import Derived.Deep.RegionLaw
import Derived.Deep.RegionHeld3
import Derived.RegionTactic
import Derived.BigRegion
import Derived.Test.YtkelkadalikibaaDoorQZ01
import Derived.Test.YtkelkadalikibaaDoorQRefTwo
namespace Go.Proofs.YtkelkadalikibaaDoor
set_option linter.unusedSimpArgs false
set_option linter.unusedVariables false

/-- The members below m, in order. -/
def elems (p : Nat → Bool) (m : Nat) : List Nat := (List.range m).filter p
theorem elems_succ (p : Nat → Bool) (m : Nat) : elems p (m + 1) = elems p m ++ (if p m then [m] else []) := by
  unfold elems
  rw [List.range_succ, List.filter_append]
  by_cases h : p m <;> simp [h]
theorem elems_skip (p : Nat → Bool) (m : Nat) : ∀ d, (∀ c, m ≤ c → c < m + d → p c = false) → elems p (m + d) = elems p m
  | 0, _ => rfl
  | d + 1, h => by rw [← Nat.add_assoc, elems_succ, elems_skip p m d (fun c h1 h2 => h c h1 (by omega)), h (m + d) (by omega) (by omega)]; simp
theorem elems_skip' (p : Nat → Bool) {m m' : Nat} (hm : m ≤ m') (h : ∀ c, m ≤ c → c < m' → p c = false) : elems p m' = elems p m := by
  obtain ⟨d, rfl⟩ : ∃ d, m' = m + d := ⟨m' - m, by omega⟩
  exact elems_skip p m d h
theorem elems_len (p : Nat → Bool) (m : Nat) : (elems p m).length ≤ m := by
  unfold elems; exact Nat.le_trans (List.length_filter_le _ _) (by simp)
theorem elems_lt {p : Nat → Bool} {m c : Nat} (h : c ∈ elems p m) : c < m := by
  unfold elems at h; simp at h; exact h.1

theorem low_bits (x : Nat) (hx : x < 2 ^ 64) (h0 : x ≠ 0) : Lib.ctz 64 x < 64 ∧ x.testBit (Lib.ctz 64 x) = true ∧ (∀ j, j < Lib.ctz 64 x → x.testBit j = false) ∧
    ∀ j, (x &&& (x - 1)).testBit j = (x.testBit j && decide (Lib.ctz 64 x < j)) := by
  unfold Lib.ctz
  rw [if_neg h0]
  obtain ⟨m, hm, hk⟩ := Lib.ctzFrom_spec 64 x (by omega) hx
  generalize Lib.ctzFrom 64 x = k at *
  have e1 : ∀ j, x.testBit j = if j < k then false else (2 * m + 1).testBit (j - k) := by
    intro j
    rw [hm]
    have h := Nat.testBit_two_pow_mul_add (2 * m + 1) (b := 0) (i := k) (Nat.two_pow_pos k) j
    rw [Nat.add_zero] at h
    rw [h, Nat.zero_testBit]
  have e2 : ∀ j, (x - 1).testBit j = if j < k then true else (2 * m).testBit (j - k) := by
    intro j
    have hp := Nat.two_pow_pos k
    have e : x - 1 = 2 ^ k * (2 * m) + (2 ^ k - 1) := by rw [hm, Nat.mul_add, Nat.mul_one]; omega
    rw [e, Nat.testBit_two_pow_mul_add (2 * m) (by omega) j]
    by_cases hj : j < k
    · rw [if_pos hj, if_pos hj, Nat.testBit_two_pow_sub_one]; simp [hj]
    · rw [if_neg hj, if_neg hj]
  refine ⟨hk, ?_, ?_, ?_⟩
  · rw [e1, if_neg (Nat.lt_irrefl k), Nat.sub_self, Nat.testBit_zero]; simp
  · intro j hj; rw [e1, if_pos hj]
  · intro j
    rw [Nat.testBit_and, e1, e2]
    by_cases hj : j < k
    · simp [hj]
    · rw [if_neg hj, if_neg hj]
      by_cases he : j = k
      · subst he; simp
      · obtain ⟨d, rfl⟩ : ∃ d, j = k + (d + 1) := ⟨j - k - 1, by omega⟩
        have e3 : k + (d + 1) - k = d + 1 := by omega
        rw [e3, Nat.testBit_succ, Nat.testBit_succ, show (2 * m + 1) / 2 = m by omega, show 2 * m / 2 = m by omega]
        simp

/-- The lowest member in a word that is not 0. -/
theorem word_low (q : Nat → Bool) (i : Nat) (h0 : word q i ≠ 0) : Lib.ctz 64 (word q i) < 64 ∧ q (64 * i + Lib.ctz 64 (word q i)) = true ∧
    (∀ j, j < Lib.ctz 64 (word q i) → q (64 * i + j) = false) ∧
    word q i &&& (word q i - 1) = word (fun c => q c && decide (64 * i + Lib.ctz 64 (word q i) + 1 ≤ c)) i ∧
    word q i &&& (word q i - 1) < word q i := by
  have hx := word_lt q i
  obtain ⟨h1, h2, h3, h4⟩ := low_bits (word q i) hx h0
  refine ⟨h1, ?_, ?_, ?_, ?_⟩
  · rw [testBit_word] at h2; simp at h2; exact h2.2
  · intro j hj
    have h := h3 j hj
    rw [testBit_word] at h
    have : j < 64 := by omega
    simpa [this] using h
  · apply Nat.eq_of_testBit_eq
    intro j
    rw [h4, testBit_word, testBit_word, Bool.and_assoc]
    congr 2
    rw [decide_eq_decide]
    omega
  · have : word q i &&& (word q i - 1) ≤ word q i - 1 := Nat.and_le_right
    omega
theorem word_zero (q : Nat → Bool) (i : Nat) (h0 : word q i = 0) : ∀ j, j < 64 → q (64 * i + j) = false := by
  intro j hj
  have h := testBit_word q i j
  rw [h0, Nat.zero_testBit] at h
  simpa [hj] using h.symm

/-- From the members below m to the members below the next one and that one. -/
theorem elems_next (p : Nat → Bool) (i m : Nat) (hm : m ≤ 64 * i + 64) (hm1 : 64 * i ≤ m) (h0 : word (fun c => p c && decide (m ≤ c)) i ≠ 0) :
    let k := Lib.ctz 64 (word (fun c => p c && decide (m ≤ c)) i)
    k < 64 ∧ m ≤ 64 * i + k ∧ elems p (64 * i + k + 1) = elems p m ++ [64 * i + k] ∧
    word (fun c => p c && decide (m ≤ c)) i &&& (word (fun c => p c && decide (m ≤ c)) i - 1) = word (fun c => p c && decide (64 * i + k + 1 ≤ c)) i ∧
    word (fun c => p c && decide (64 * i + k + 1 ≤ c)) i < word (fun c => p c && decide (m ≤ c)) i := by
  intro k
  obtain ⟨h1, h2, h3, h4, h5⟩ := word_low _ i h0
  change k < 64 at h1
  change (p (64 * i + k) && decide (m ≤ 64 * i + k)) = true at h2
  change ∀ j, j < k → (p (64 * i + j) && decide (m ≤ 64 * i + j)) = false at h3
  simp at h2
  have e : word (fun c => p c && decide (m ≤ c)) i &&& (word (fun c => p c && decide (m ≤ c)) i - 1) = word (fun c => p c && decide (64 * i + k + 1 ≤ c)) i := by
    rw [h4]
    apply congrArg (fun f => word f i)
    funext c
    by_cases hc : 64 * i + k + 1 ≤ c
    · have : m ≤ c := by omega
      have hc' : 64 * i + Lib.ctz 64 (word (fun c => p c && decide (m ≤ c)) i) + 1 ≤ c := hc
      simp [this, hc, hc']
    · simp only [hc, decide_false, Bool.and_false]
      have : ¬ (64 * i + Lib.ctz 64 (word (fun c => p c && decide (m ≤ c)) i) + 1 ≤ c) := hc
      simp [this]
  refine ⟨h1, h2.2, ?_, e, e ▸ h5⟩
  rw [elems_succ, h2.1, if_pos rfl, elems_skip' p h2.2 ?_]
  intro c hc1 hc2
  have h := h3 (c - 64 * i) (by omega)
  rw [show 64 * i + (c - 64 * i) = c by omega] at h
  simpa [hc1] using h
theorem elems_end (p : Nat → Bool) (i m : Nat) (hm : m ≤ 64 * i + 64) (hm1 : 64 * i ≤ m) (h0 : word (fun c => p c && decide (m ≤ c)) i = 0) : elems p (64 * (i + 1)) = elems p m := by
  refine elems_skip' p (by omega) ?_
  intro c hc1 hc2
  have h := word_zero _ i h0 (c - 64 * i) (by omega)
  rw [show 64 * i + (c - 64 * i) = c by omega] at h
  simpa [hc1] using h
theorem word_start (p : Nat → Bool) (i : Nat) : word (fun c => p c && decide (64 * i ≤ c)) i = word p i := by
  apply Nat.eq_of_testBit_eq
  intro j
  rw [testBit_word, testBit_word]
  simp

end Go.Proofs.YtkelkadalikibaaDoor
namespace Go.Proofs.YtkelkadalikibaaDoor
open Go.RowKit Go.Shelf
set_option linter.unusedSimpArgs false
set_option linter.unusedVariables false
set_option maxRecDepth 100000
attribute [local go_sem] Oper.semAt_some

theorem index_at (p : Nat → Bool) (i : Nat) (hi : i < 4) (w : World) : (Instr.index 25 (.agg #[.int .u64 ((word (p) 0 : Nat) : Int), .int .u64 ((word (p) 1 : Nat) : Int), .int .u64 ((word (p) 2 : Nat) : Int), .int .u64 ((word (p) 3 : Nat) : Int)]) (.int .i64 (i : Int))).run Tryd.prog w = .ok (.int .u64 ((word p i : Nat) : Int)) w := by
  rcases i with _ | _ | _ | _ | i
  · exact index0 ..
  · exact index1 ..
  · exact index2 ..
  · exact index3 ..
  · omega

/-- The arguments of a round. -/
def byteArg (x : Nat) : Array Value := #[.int .u8 ((x % 256 : Nat) : Int)]

set_option maxHeartbeats 2000000 in
theorem each1_in (n : Nat) (hn : 1 ≤ n) (p : Nat → Bool) (l Bs n₀ : Nat) (hBs : 0 < n₀) (J Jx : List Nat → World → Prop)
    (hY : ∀ pre x W, J pre W → pre.length < 256 → YieldAt Fence.wide (n - 1) Tryd.prog l (byteArg x) W fun e W' =>
      (e = .returned (.bool true) ∧ J (pre ++ [x]) W' ∧ Below n₀ W W') ∨ (e = .returned (.bool false) ∧ Jx (pre ++ [x]) W'))
    (W : World) (hs : Blk W Bs 25 #[.int .u64 ((word (p) 0 : Nat) : Int), .int .u64 ((word (p) 1 : Nat) : Int), .int .u64 ((word (p) 2 : Nat) : Int), .int .u64 ((word (p) 3 : Nat) : Int)]) (hT : TabAt 0 Lib.deBruijn64tab W) (h0 : J [] W) :
    CallsIn Fence.wide n Tryd.prog 83 #[.func (.yield l) #[] #[], .pointer (some ⟨Bs, 0, none⟩)] W fun e W' => (∃ v, e = .returned v) ∧
      ((∃ ys, ys = elems p 256 ∧ J ys W') ∨ (∃ pre, (∃ k, k ≤ 256 ∧ pre = elems p k) ∧ Jx pre W')) := by
  refine callsIn_of_wp Tryd.func83 rfl trivial ?_ rfl
  simp only [Tryd.ntmps83, List.size_toArray, List.length_cons, List.length_nil, Nat.reduceAdd, Nat.reduceSub, Array.replicate_succ, Array.replicate_zero, List.push_toArray, List.append_toArray, List.nil_append, List.cons_append]
  obtain ⟨s0, s1, s2, s3, f0, f1, f2, f3⟩ := hs.c4
  gi_wp2
  gi_loopw [6] (fun v wr => ∃ i : Nat, i ≤ 4 ∧ v = .int .i64 (i : Int) ∧ J (elems p (64 * i)) wr ∧ Below n₀ W wr)
    (fun v _ => 4 - (intOf v).toNat)
  case atStart => exact ⟨0, by omega, rfl, h0, Below.refl _ _⟩
  case round =>
    obtain ⟨i, hi, rfl, hJ, hB⟩ := hrel
    by_cases hlt : i < 4
    · have hix := index_at p i hlt
      gi_wp2
      have hd : decide ((i : Int) < 4) = true := by simp; omega
      rw [hd]
      gi_loopw [4] (fun v w2 => ∃ m : Nat, m ≤ 64 * i + 64 ∧ 64 * i ≤ m ∧ v = .int .u64 ((word (fun c => p c && decide (m ≤ c)) i : Nat) : Int) ∧ J (elems p m) w2 ∧ Below n₀ W w2)
        (fun v _ => (intOf v).toNat)
      case atStart => exact ⟨64 * i, by omega, Nat.le_refl _, by rw [word_start], hJ, hB⟩
      case round =>
        obtain ⟨m, hm1, hm2, rfl, hJ2, hB2⟩ := hrel
        by_cases hz : word (fun c => p c && decide (m ≤ c)) i = 0
        · have hend := elems_end p i m hm1 hm2 hz
          rw [hz]
          gi_wp2
          exact ⟨⟨i + 1, by omega, by simp, by rw [hend]; exact hJ2, hB2⟩, by simp [intOf]; omega⟩
        · obtain ⟨hk, hmk, hel, hand, hless⟩ := elems_next p i m hm1 hm2 hz
          have hx := word_lt (fun c => p c && decide (m ≤ c)) i
          generalize hwx : word (fun c => p c && decide (m ≤ c)) i = x at *
          have hx0 : ((x : Int) == 0) = false := by simp; omega
          have hTx : TabAt 0 Lib.deBruijn64tab _ := fun j hj => (hB2.cell (p := ⟨0, j, none⟩) (by show 0 < n₀; omega)).trans (hT j hj)
          have htz := tz_go x hx hz _ hTx
          generalize Lib.ctz 64 x = k at *
          obtain ⟨fn, tmps, assign, body, hy, hR⟩ := hY _ (64 * i + k) _ hJ2 (by have := elems_len p m; omega)
          unfold byteArg at hy
          have ev : (((64 * i + k) % 256 : Nat) : Int) = (i : Int) * 64 + (k : Int) := by omega
          rw [ev] at hy
          have esub : IntKind.u64.wrap ((x : Int) - 1) = ((x - 1 : Nat) : Int) := by rw [IntKind.wrap_u64]; omega
          have eand : bits .and .u64 (x : Int) ((x - 1 : Nat) : Int) = ((word (fun c => p c && decide (64 * i + k + 1 ≤ c)) i : Nat) : Int) := by
            rw [← hand]; exact u64_and_nat x (x - 1) hx (by omega)
          clear hwx
          gi_wp2_with (refine ⟨trivial, ?_⟩; gi_at_call 84; refine (callsIn_wide.2 htz).mono ?_; rintro e w' ⟨rfl, rfl⟩)
          refine hR.mono ?_
          rintro e W3 (⟨rfl, hJ3, hk3⟩ | ⟨rfl, hJx3⟩)
          · gi_wp2
            go_roundw
            case rel => exact ⟨64 * i + k + 1, by omega, by omega, rfl, by rw [hel]; exact hJ3, hB2.trans hk3⟩
            case measure => simp [intOf]; omega
          · gi_wp2
            refine bodyPost_ret (results_none rfl _ _ _) rfl ?_
            exact ⟨⟨_, rfl⟩, .inr ⟨_, ⟨64 * i + k + 1, by omega, hel.symm⟩, hJx3⟩⟩
    · obtain rfl : i = 4 := by omega
      gi_wp2
      go_end0
      exact ⟨⟨_, rfl⟩, .inl ⟨_, rfl, hJ⟩⟩

/-- sets.each: the set is boxed; the function value holds the box. -/
theorem each_go (p : Nat → Bool) (w : World) :
    Calls Tryd.prog 60 #[.agg #[.int .u64 ((word (p) 0 : Nat) : Int), .int .u64 ((word (p) 1 : Nat) : Int), .int .u64 ((word (p) 2 : Nat) : Int), .int .u64 ((word (p) 3 : Nat) : Int)]] w fun e w' => e = .returned (.func (.func 83) #[] #[.pointer (some ⟨w.heap.size, 0, none⟩)]) ∧ w' = w.alloc (.cells #[.int .u64 ((word (p) 0 : Nat) : Int), .int .u64 ((word (p) 1 : Nat) : Int), .int .u64 ((word (p) 2 : Nat) : Int), .int .u64 ((word (p) 3 : Nat) : Int)] 25) := by
  go_enter Tryd.func60, Tryd.ntmps60
  go_wp2
  go_light
  go_ret
  exact ⟨rfl, rfl⟩

theorem TabAt.below {n₀ : Nat} {A B : World} (h : Below n₀ A B) (h0 : 0 < n₀) (hT : TabAt 0 Lib.deBruijn64tab A) : TabAt 0 Lib.deBruijn64tab B :=
  fun j hj => (h.cell (p := ⟨0, j, none⟩) h0).trans (hT j hj)

/-- What sets.each hands back hands out the members in order. -/
theorem each_stops (n : Nat) (hn : 1 ≤ n) (p : Nat → Bool) (Bs n₀ : Nat) (w : World) (hBs : 0 < n₀) (hBw : Bs < w.heap.size) (hs : Blk w Bs 25 #[.int .u64 ((word (p) 0 : Nat) : Int), .int .u64 ((word (p) 1 : Nat) : Int), .int .u64 ((word (p) 2 : Nat) : Int), .int .u64 ((word (p) 3 : Nat) : Int)]) (hT : TabAt 0 Lib.deBruijn64tab w) :
    SeqStopsK Fence.wide n Tryd.prog 83 #[.pointer (some ⟨Bs, 0, none⟩)] byteArg (Below n₀) (fun ys => ys = elems p 256) (fun pre => ∃ k, k ≤ 256 ∧ pre = elems p k) 256 w := fun l J Jx W hW _ _ hY h0 =>
  each1_in n hn p l Bs n₀ hBs J Jx hY W (hs.below hW hBw) (TabAt.below hW (by omega) hT) h0

end Go.Proofs.YtkelkadalikibaaDoor
namespace Go.Proofs.YtkelkadalikibaaDoor
open Go.RowKit
set_option linter.unusedSimpArgs false
set_option linter.unusedVariables false
set_option maxRecDepth 100000

def byteCells (l : List Nat) : List Value := l.map fun c : Nat => .int .u8 (c : Int)
theorem info5 : (Tryd.prog.info? 5).map (fun i => (i.zero, i.size, i.bytes)) = some (some (.int .u8 0), 1, 1) := by kernel_rfl


set_option maxHeartbeats 1000000 in
theorem rbytes_go (p : Nat → Bool) (w : World) :
    Calls Tryd.prog 40 #[.agg #[.int .u64 ((word (p) 0 : Nat) : Int), .int .u64 ((word (p) 1 : Nat) : Int), .int .u64 ((word (p) 2 : Nat) : Int), .int .u64 ((word (p) 3 : Nat) : Int)]] w fun e W' => ∃ v, e = .returned v ∧ W'.ownsRow w.heap.size 5 1 v (elems p 256).length (byteCells (elems p 256)) ∧ Below w.heap.size w W' := by
  obtain ⟨i0, hi, hz0, hz1, hz2⟩ := info_parts info5
  go_enter Tryd.func40, Tryd.ntmps40
  go_wp2
  go_loopw [3, 4] (fun v3 v4 wr => ∃ c : Nat, v4 = .int .i64 (c : Int) ∧ c ≤ 256 ∧ wr.ownsRow w.heap.size 5 1 v3 (elems p c).length (byteCells (elems p c)) ∧ Blk wr w.heap.size 25 #[.int .u64 ((word (p) 0 : Nat) : Int), .int .u64 ((word (p) 1 : Nat) : Int), .int .u64 ((word (p) 2 : Nat) : Int), .int .u64 ((word (p) 3 : Nat) : Int)] ∧ Below w.heap.size w wr) (fun _ v4 _ => 256 - (intOf v4).toNat)
  case atStart =>
    refine ⟨0, rfl, by omega, ?_, (Blk.new _ _ _).alloc _, ((Below.refl _ _).alloc (Nat.le_refl _) _).alloc (by simp) _⟩
    have h := World.ownsRow_made (base := w.heap.size) (size := 1) (e := 5) (w.alloc (.cells #[.int .u64 ((word (p) 0 : Nat) : Int), .int .u64 ((word (p) 1 : Nat) : Int), .int .u64 ((word (p) 2 : Nat) : Int), .int .u64 ((word (p) 3 : Nat) : Int)] 25)) #[] 0 (by simp) (by decide) rfl
    rw [World.size_alloc] at h
    exact h
  case round =>
    obtain ⟨c, rfl, hc, hrow, hs, hb⟩ := hrel
    by_cases hlt : c < 256
    · obtain ⟨s0, s1, s2, s3, f0, f1, f2, f3⟩ := hs.c4
      have hnb := blk_not_row hs (by decide) hrow
      have hown := hrow.lt
      have hlen := elems_len p c
      have hel := elems_succ p c
      have hb1m : (elems p c).length + 1 ≤ maxLen := Nat.le_trans (by omega) (show 1000 ≤ maxLen by decide)
      have hb2m : ((elems p c).length + 1) * 1 ≤ 140737488355328 := by omega
      cases hx : p c
      · rw [hx] at hel
        have hx' : p (c : Int).toNat = false := by simpa using hx
        have Hs := Lib.hid hs
        have Hel := Lib.hid hel
        have Hown := Lib.hid hown
        have Hrow := Lib.hid hrow
        clear hs hel hnb hown hrow
        go_wp2_with fail
        refine (rhas_any _ _ _ (by omega) (by omega)).mono ?_
        rintro e w1 ⟨rfl, hb1⟩
        go_wp2
        go_light
        go_roundw
        case rel => exact ⟨c + 1, by go_num, by omega, by rw [Hel.out]; simpa using ownsRow_below Hrow.out hb1 (fun k e => (Hown.out k e).2), Hs.out.below hb1 Hs.out.lt, hb.trans (hb1.mono hb.size)⟩
        case measure => simp [intOf]; omega
      · rw [hx] at hel
        have hx' : p (c : Int).toNat = true := by simpa using hx
        have Hs := Lib.hid hs
        have Hel := Lib.hid hel
        have Hown := Lib.hid hown
        have Hrow := Lib.hid hrow
        have Hnb := Lib.hid hnb
        clear hs hel hnb hown hrow
        go_wp2_with fail
        refine (rhas_any _ _ _ (by omega) (by omega)).mono ?_
        rintro e w1 ⟨rfl, hb1⟩
        have Hr1 := Lib.hid (ownsRow_below Hrow.out hb1 (fun k e => (Hown.out k e).2))
        have hbase := (hb.trans (hb1.mono hb.size)).size
        go_wp2_with (at_builtin; refine wpList_append_own_at _ rfl _ _ 22 rfl w.heap.size 5 i0 (.int .u8 0) 1 1 Tryd.underlying22 hi hz0 hz1 hz2 rfl (by decide) _ _ _ rfl (Hr1.out.alloc _) ⟨w1.heap.size, 0, none⟩ 1 1 [.int .u8 (c : Int)] rfl rfl (cell_one_new _ _ _) (by simp [Value.oneCell']) hb1m hb2m (Nat.le_trans hbase (by simp)) ?_; intro v' w2 hown' hgrow _ _)
        go_light
        go_roundw
        case rel => exact ⟨c + 1, by go_num, by omega, by rw [Hel.out]; simpa [byteCells] using hown', ((Hs.out.below hb1 Hs.out.lt).alloc _).grown hgrow Hnb.out, ((hb.trans (hb1.mono hb.size)).alloc hbase _).grown hgrow (Nat.le_trans hbase (by simp)) (fun k e => (Hown.out k e).1)⟩
        case measure => simp [intOf]; omega
    · have he : c = 256 := by omega
      subst he
      have Hrow := Lib.hid hrow
      clear hrow hs
      go_wp2
      go_light
      go_ret
      exact ⟨_, rfl, Hrow.out, hb⟩

end Go.Proofs.YtkelkadalikibaaDoor
namespace Go.Proofs.YtkelkadalikibaaDoor
open Go.RowKit
set_option linter.unusedSimpArgs false
set_option linter.unusedVariables false

theorem two_not (p : Nat → Bool) (i : Nat) (h : i < 4) : word (two 2 (between 0 255) p) i = word (fun c => !p c) i := by
  apply word_congr
  intro j hj
  simp [two, between]
  omega

set_option maxRecDepth 100000 in
set_option maxHeartbeats 800000 in
theorem rnot_any (p : Nat → Bool) (w : World) :
    Calls Tryd.prog 37 #[.agg #[.int .u64 ((word (p) 0 : Nat) : Int), .int .u64 ((word (p) 1 : Nat) : Int), .int .u64 ((word (p) 2 : Nat) : Int), .int .u64 ((word (p) 3 : Nat) : Int)]] w fun e w' => e = .returned (.agg #[.int .u64 ((word (fun c => !p c) 0 : Nat) : Int), .int .u64 ((word (fun c => !p c) 1 : Nat) : Int), .int .u64 ((word (fun c => !p c) 2 : Nat) : Int), .int .u64 ((word (fun c => !p c) 3 : Nat) : Int)]) ∧ Below w.heap.size w w' := by
  go_enter Tryd.func37, Tryd.ntmps37
  go_wp2_with fail
  have B0 : Hid (Blk ((w.alloc (.cells #[.int .u64 ((word (p) 0 : Nat) : Int), .int .u64 ((word (p) 1 : Nat) : Int), .int .u64 ((word (p) 2 : Nat) : Int), .int .u64 ((word (p) 3 : Nat) : Int)] 25)).alloc (.cells #[.int .u64 0, .int .u64 0, .int .u64 0, .int .u64 0] 25)).drew w.heap.size 25 #[.int .u64 ((word (p) 0 : Nat) : Int), .int .u64 ((word (p) 1 : Nat) : Int), .int .u64 ((word (p) 2 : Nat) : Int), .int .u64 ((word (p) 3 : Nat) : Int)]) := (Blk.new _ _ _).alloc _
  have B1 : Hid (Blk ((w.alloc (.cells #[.int .u64 ((word (p) 0 : Nat) : Int), .int .u64 ((word (p) 1 : Nat) : Int), .int .u64 ((word (p) 2 : Nat) : Int), .int .u64 ((word (p) 3 : Nat) : Int)] 25)).alloc (.cells #[.int .u64 0, .int .u64 0, .int .u64 0, .int .u64 0] 25)).drew (w.heap.size + 1) 25 #[.int .u64 0, .int .u64 0, .int .u64 0, .int .u64 0]) := Blk.new_at (by simp)
  go_region_with (first
    | (go_at_call 36; refine (rspan_any 0 255 _ (by omega) (by omega) (by omega) (by omega)).mono ?_; rintro e w1 ⟨rfl, hb1⟩; obtain ⟨p0, p1, p2, p3, _, _, _, _⟩ := (B0.out.below hb1 B0.out.lt).c4)
    | (go_at_call 35; refine (rtwo_any _ _ _ _ (by omega)).mono ?_; rintro e w2 ⟨rfl, hb2⟩; obtain ⟨r0, r1, r2, r3, f0, f1, f2, f3⟩ := (B1.out.below (hb1.trans (hb2.mono hb1.size)) B1.out.lt).c4))
  all_goals go_wp2
  all_goals go_light
  all_goals refine bodyPost_ret (ret_set Tryd.results37 rfl (B1.out.below (hb1.trans (hb2.mono hb1.size)) B1.out.lt).set4) rfl ⟨?_, ?_⟩
  all_goals first
    | (rw [two_not p 0 (by decide), two_not p 1 (by decide), two_not p 2 (by decide), two_not p 3 (by decide)]; done)
    | (refine Below.trans (b := ((w.alloc (.cells #[.int .u64 ((word (p) 0 : Nat) : Int), .int .u64 ((word (p) 1 : Nat) : Int), .int .u64 ((word (p) 2 : Nat) : Int), .int .u64 ((word (p) 3 : Nat) : Int)] 25)).alloc (.cells #[.int .u64 0, .int .u64 0, .int .u64 0, .int .u64 0] 25)).drew) ?_ ?_
       · exact (((Below.refl _ _).alloc (Nat.le_refl _) _).alloc (by simp) _).drew
       · repeat (first | exact (hb1.trans (hb2.mono hb1.size)).mono (by simp <;> omega) | refine Below.setCell ?_ (by dsimp only; omega) _))

end Go.Proofs.YtkelkadalikibaaDoor
namespace Go.Proofs.YtkelkadalikibaaDoor
open Go.RowKit
set_option linter.unusedSimpArgs false
set_option linter.unusedVariables false
set_option maxRecDepth 100000

/-- The cells of a lexeme. -/
def lexCell (x : Lex) : List Value := [.int .i64 x.kind, .int .i64 x.place, .int .u64 ((word x.set 0 : Nat) : Int), .int .u64 ((word x.set 1 : Nat) : Int), .int .u64 ((word x.set 2 : Nat) : Int), .int .u64 ((word x.set 3 : Nat) : Int), .int .i64 x.lo, .int .i64 x.hi]
def lexCells (l : List Lex) : List Value := l.flatMap lexCell
theorem lexCells_snoc (l : List Lex) (x : Lex) : lexCells (l ++ [x]) = lexCells l ++ lexCell x := by simp [lexCells]
/-- The splitter's block. -/
def Spl (W : World) (S : Nat) (b o len cap : Nat) (i : Int) (v : Value) (k q : Int) : Prop := Blk W S 77 #[.slice (some ⟨b, o, none⟩) len cap, .int .i64 i, v, .int .i64 k, .int .i64 q]
theorem Spl.cells {W : World} {S b o len cap : Nat} {i k q : Int} {v : Value} (h : Spl W S b o len cap i v k q) :
    W.cell? ⟨S, 0, none⟩ = some (.slice (some ⟨b, o, none⟩) len cap) ∧ W.cell? ⟨S, 1, none⟩ = some (.int .i64 i) ∧ W.cell? ⟨S, 2, none⟩ = some v ∧ W.cell? ⟨S, 3, none⟩ = some (.int .i64 k) ∧ W.cell? ⟨S, 4, none⟩ = some (.int .i64 q) ∧
    W.frozen? ⟨S, 0, none⟩ = false ∧ W.frozen? ⟨S, 1, none⟩ = false ∧ W.frozen? ⟨S, 2, none⟩ = false ∧ W.frozen? ⟨S, 3, none⟩ = false ∧ W.frozen? ⟨S, 4, none⟩ = false :=
  ⟨Blk.cell h 0, Blk.cell h 1, Blk.cell h 2, Blk.cell h 3, Blk.cell h 4, Blk.frozen h 0, Blk.frozen h 1, Blk.frozen h 2, Blk.frozen h 3, Blk.frozen h 4⟩

theorem info_lex : (Tryd.prog.info? 46).map (fun i => (i.zero, i.size, i.bytes)) = some (some (.agg #[.int .i64 0, .int .i64 0, .int .u64 0, .int .u64 0, .int .u64 0, .int .u64 0, .int .i64 0, .int .i64 0]), 8, 64) := by kernel_rfl

set_option maxHeartbeats 2000000 in
theorem put_go (S b o len cap : Nat) (i : Int) (v : Value) (k q : Int) (N : Nat) (L : List Lex) (x : Lex) (next : Int) (W : World) (hS : Spl W S b o len cap i v k q) (hrow : W.ownsRow N 46 8 v L.length (lexCells L)) (hN : N ≤ S) (hL : L.length ≤ 100000) :
    Calls Tryd.prog 90 #[.pointer (some ⟨S, 0, none⟩), .agg #[.int .i64 x.kind, .int .i64 x.place, .int .u64 ((word x.set 0 : Nat) : Int), .int .u64 ((word x.set 1 : Nat) : Int), .int .u64 ((word x.set 2 : Nat) : Int), .int .u64 ((word x.set 3 : Nat) : Int), .int .i64 x.lo, .int .i64 x.hi], .int .i64 next] W fun e W' =>
      e = .returned (.tuple #[]) ∧ Below N W W' ∧ ∃ v', Spl W' S b o len cap next v' k q ∧ W'.ownsRow N 46 8 v' (L.length + 1) (lexCells (L ++ [{ x with place := i }])) := by
  obtain ⟨i0, hi, hz0, hz1, hz2⟩ := info_parts info_lex
  obtain ⟨s0, s1, s2, s3, s4, f0, f1, f2, f3, f4⟩ := hS.cells
  have hlt := Blk.lt hS
  have HS := Lib.hid hS
  have Hrow := Lib.hid hrow
  clear hS hrow
  go_enter Tryd.func90, Tryd.ntmps90
  go_wp2
  have HX := Lib.hid ((Below.refl N W).alloc (by omega) (.cells #[.int .i64 x.kind, .int .i64 i, .int .u64 ((word x.set 0 : Nat) : Int), .int .u64 ((word x.set 1 : Nat) : Int), .int .u64 ((word x.set 2 : Nat) : Int), .int .u64 ((word x.set 3 : Nat) : Int), .int .i64 x.lo, .int .i64 x.hi] 46))
  have hSx := Blk.alloc HS.out (.cells #[.int .i64 x.kind, .int .i64 i, .int .u64 ((word x.set 0 : Nat) : Int), .int .u64 ((word x.set 1 : Nat) : Int), .int .u64 ((word x.set 2 : Nat) : Int), .int .u64 ((word x.set 3 : Nat) : Int), .int .i64 x.lo, .int .i64 x.hi] 46)
  have hrx := Hrow.out.alloc (.cells #[.int .i64 x.kind, .int .i64 i, .int .u64 ((word x.set 0 : Nat) : Int), .int .u64 ((word x.set 1 : Nat) : Int), .int .u64 ((word x.set 2 : Nat) : Int), .int .u64 ((word x.set 3 : Nat) : Int), .int .i64 x.lo, .int .i64 x.hi] 46)
  have hbx := Blk.new W 46 #[.int .i64 x.kind, .int .i64 i, .int .u64 ((word x.set 0 : Nat) : Int), .int .u64 ((word x.set 1 : Nat) : Int), .int .u64 ((word x.set 2 : Nat) : Int), .int .u64 ((word x.set 3 : Nat) : Int), .int .i64 x.lo, .int .i64 x.hi]
  have hzx : (W.alloc (.cells #[.int .i64 x.kind, .int .i64 i, .int .u64 ((word x.set 0 : Nat) : Int), .int .u64 ((word x.set 1 : Nat) : Int), .int .u64 ((word x.set 2 : Nat) : Int), .int .u64 ((word x.set 3 : Nat) : Int), .int .i64 x.lo, .int .i64 x.hi] 46)).heap.size = W.heap.size + 1 := by simp
  generalize W.alloc (.cells #[.int .i64 x.kind, .int .i64 i, .int .u64 ((word x.set 0 : Nat) : Int), .int .u64 ((word x.set 1 : Nat) : Int), .int .u64 ((word x.set 2 : Nat) : Int), .int .u64 ((word x.set 3 : Nat) : Int), .int .i64 x.lo, .int .i64 x.hi] 46) = wx at *
  obtain ⟨s0, s1, s2, s3, s4, f0, f1, f2, f3, f4⟩ := Spl.cells hSx
  have x0 := hbx.cell 0
  have x1 := hbx.cell 1
  have x2 := hbx.cell 2
  have x3 := hbx.cell 3
  have x4 := hbx.cell 4
  have x5 := hbx.cell 5
  have x6 := hbx.cell 6
  have x7 := hbx.cell 7
  have hNx : N ≤ wx.heap.size := by omega
  have hSl : S < wx.heap.size := by omega
  have Hrx := Lib.hid hrx
  have HSx := Lib.hid hSx
  have Hzx := Lib.hid hzx
  have hneS := blk_not_row hSx (by decide) hrx
  have HneS := Lib.hid hneS
  have h63 : L.length + 1 ≤ maxLen := Nat.le_trans (by omega) (show 200000 ≤ maxLen by decide)
  have hby : (L.length + 1) * 64 ≤ 140737488355328 := by omega
  clear hrx hSx hbx hneS hzx
  go_region_law ((refine step_append_lies _ (by rfl) _ _ _ (by rfl) N 46 i0 _ 8 64 Tryd.underlying40 hi hz0 hz1 hz2 rfl (by decide) v L.length (lexCells L) (by rfl) ((Hrx.out.alloc _).drew) ⟨wx.heap.size, 0, none⟩ 1 1 (lexCell { x with place := i }) (by rfl) (by rfl) (World.news_of_block (cs := #[.int .i64 x.kind, .int .i64 i, .int .u64 ((word x.set 0 : Nat) : Int), .int .u64 ((word x.set 1 : Nat) : Int), .int .u64 ((word x.set 2 : Nat) : Int), .int .u64 ((word x.set 3 : Nat) : Int), .int .i64 x.lo, .int .i64 x.hi]) (t := 46) (fr := (0, 0)) (heap_alloc_new wx _)) (by simp [lexCell, Value.oneCell']) (by decide) h63 hby (by simp; omega) (wx.heap.size + 1) (by simp) ?_; intro gg cap' w1 hown1 hgrow hat hlt1; have hS1 := Blk.grown (Blk.drew (Blk.alloc HSx.out _)) hgrow HneS.out; have c2 := hS1.cell 2; have g2 := hS1.frozen 2; have c1 := hS1.cell 1; have g1 := hS1.frozen 1; have HS1 := Lib.hid hS1; have Hgrow := Lib.hid hgrow; have Hown1 := Lib.hid hown1; have Hat := Lib.hid hat; clear hS1 hgrow hown1 hat))
  all_goals go_wp2
  all_goals go_light
  all_goals go_end0
  all_goals
    have hneg : some S ≠ (Value.slice (some ⟨gg, 0, none⟩) (L.length + 1) cap').ownBlock := by
      intro e
      have e' : S = gg := by simpa [Value.ownBlock] using e
      rcases Hat.out with h | h
      · exact HneS.out (e' ▸ h.symm)
      · omega
    have hB := below_grown ((HX.out.alloc hNx (.cells #[.int .i64 x.kind, .int .i64 i, .int .u64 ((word x.set 0 : Nat) : Int), .int .u64 ((word x.set 1 : Nat) : Int), .int .u64 ((word x.set 2 : Nat) : Int), .int .u64 ((word x.set 3 : Nat) : Int), .int .i64 x.lo, .int .i64 x.hi] 46)).drew) Hgrow.out ((Hrx.out.alloc _).drew) (Nat.le_refl _) (by simp; omega)
    refine ⟨rfl, (hB.setCell (p := ⟨S, 2, none⟩) hN _).setCell (p := ⟨S, 1, none⟩) hN _, _, (HS1.out.set_ 2 _).set_ 1 _, ?_⟩
    rw [lexCells_snoc]
    exact own_set (own_set Hown1.out hneg) hneg

end Go.Proofs.YtkelkadalikibaaDoor
namespace Go.Proofs.YtkelkadalikibaaDoor
open Go.RowKit
set_option linter.unusedSimpArgs false
set_option linter.unusedVariables false
set_option maxRecDepth 100000

/-- May a repetition be? -/
def repV (lo hi : Int) : Bool := decide (0 ≤ lo) && decide (lo ≤ 1000) && (decide (hi = -1) || decide (lo ≤ hi) && decide (hi ≤ 1000))
/-- May a lexeme be? Of its kind, its place, the words of its set, and how often. -/
def rightV (k pl a b c d lo hi : Int) : Bool :=
  decide (0 ≤ pl) && (decide (k = 1) || (a == 0 && b == 0 && c == 0 && d == 0)) && (if k = 8 then repV lo hi else decide (lo = 0) && decide (hi = 0) && decide (1 ≤ k) && decide (k < 8))
@[inline] def lexAgg (k pl a b c d lo hi : Int) : Value := .agg #[.int .i64 k, .int .i64 pl, .int .u64 a, .int .u64 b, .int .u64 c, .int .u64 d, .int .i64 lo, .int .i64 hi]
theorem by_val {f : FuncId} {args : Array Value} {w : World} {v v' : Bool} (h : v = v') (hc : Calls Tryd.prog f args w fun e w' => e = .returned (.bool v') ∧ Below w.heap.size w w') : Calls Tryd.prog f args w fun e w' => e = .returned (.bool v) ∧ Below w.heap.size w w' := by
  subst h; exact hc

set_option maxHeartbeats 2000000 in
theorem right_one (pl a b c d lo hi : Int) (w : World) (k : Int) (hk : k = 1) (hpl : 0 ≤ pl) :
    Calls Tryd.prog 23 #[.agg #[.int .i64 k, .int .i64 pl, .int .u64 a, .int .u64 b, .int .u64 c, .int .u64 d, .int .i64 lo, .int .i64 hi]] w fun e w' => e = .returned (.bool (rightV k pl a b c d lo hi)) ∧ Below w.heap.size w w' := by
  subst hk
  have p0 : ¬ pl < 0 := by omega
  by_cases h1 : lo = 0
  · subst h1
    by_cases h2 : hi = 0
    · subst h2
      refine by_val (v' := true) (by simp [rightV, *]; try omega) ?_
      go_enter Tryd.func23, Tryd.ntmps23
      go_wp2
      go_light
      go_ret
      exact ⟨rfl, (Below.refl w.heap.size w).alloc (Nat.le_refl _) _⟩
    · have b2 : (hi == 0) = false := by simpa using h2
      refine by_val (v' := false) (by simp [rightV, *]; try omega) ?_
      go_enter Tryd.func23, Tryd.ntmps23
      go_wp2
      go_light
      go_ret
      exact ⟨rfl, (Below.refl w.heap.size w).alloc (Nat.le_refl _) _⟩
  · have b1 : (lo == 0) = false := by simpa using h1
    refine by_val (v' := false) (by simp [rightV, *]; try omega) ?_
    go_enter Tryd.func23, Tryd.ntmps23
    go_wp2
    go_light
    go_ret
    exact ⟨rfl, (Below.refl w.heap.size w).alloc (Nat.le_refl _) _⟩


set_option maxHeartbeats 4000000 in
theorem right_rep (pl a b c d lo hi : Int) (w : World) (k : Int) (hk : k = 8) (hpl : 0 ≤ pl) (ha : a = 0) (hb : b = 0) (hc : c = 0) (hd : d = 0) :
    Calls Tryd.prog 23 #[.agg #[.int .i64 k, .int .i64 pl, .int .u64 a, .int .u64 b, .int .u64 c, .int .u64 d, .int .i64 lo, .int .i64 hi]] w fun e w' => e = .returned (.bool (rightV k pl a b c d lo hi)) ∧ Below w.heap.size w w' := by
  subst hk ha hb hc hd
  have p0 : ¬ pl < 0 := by omega
  by_cases h1 : ¬ 0 ≤ lo
  · have b1 : ¬ 0 ≤ lo := h1
    refine by_val (v' := false) (by simp [rightV, repV, *]; try omega) ?_
    go_enter Tryd.func23, Tryd.ntmps23
    go_wp2
    go_light
    go_ret
    exact ⟨rfl, (Below.refl w.heap.size w).alloc (Nat.le_refl _) _⟩

  have h1' : 0 ≤ lo := by omega
  by_cases h2 : ¬ lo ≤ 1000
  · have b1 : ¬ lo ≤ 1000 := h2
    refine by_val (v' := false) (by simp [rightV, repV, *]; try omega) ?_
    go_enter Tryd.func23, Tryd.ntmps23
    go_wp2
    go_light
    go_ret
    exact ⟨rfl, (Below.refl w.heap.size w).alloc (Nat.le_refl _) _⟩

  have h2' : lo ≤ 1000 := by omega
  by_cases h3 : hi = -1
  · subst h3
    refine by_val (v' := true) (by simp [rightV, repV, *]; try omega) ?_
    go_enter Tryd.func23, Tryd.ntmps23
    go_wp2
    go_light
    go_ret
    exact ⟨rfl, (Below.refl w.heap.size w).alloc (Nat.le_refl _) _⟩

  have b3 : (hi == -1) = false := by simpa using h3
  by_cases h4 : ¬ lo ≤ hi
  · have b1 : ¬ lo ≤ hi := h4
    refine by_val (v' := false) (by simp [rightV, repV, *]; try omega) ?_
    go_enter Tryd.func23, Tryd.ntmps23
    go_wp2
    go_light
    go_ret
    exact ⟨rfl, (Below.refl w.heap.size w).alloc (Nat.le_refl _) _⟩

  have h4' : lo ≤ hi := by omega
  by_cases h5 : hi ≤ 1000
  · have b1 : hi ≤ 1000 := h5
    refine by_val (v' := true) (by simp [rightV, repV, *]; try omega) ?_
    go_enter Tryd.func23, Tryd.ntmps23
    go_wp2
    go_light
    go_ret
    exact ⟨rfl, (Below.refl w.heap.size w).alloc (Nat.le_refl _) _⟩

  · have b1 : ¬ hi ≤ 1000 := h5
    refine by_val (v' := false) (by simp [rightV, repV, *]; try omega) ?_
    go_enter Tryd.func23, Tryd.ntmps23
    go_wp2
    go_light
    go_ret
    exact ⟨rfl, (Below.refl w.heap.size w).alloc (Nat.le_refl _) _⟩


set_option maxHeartbeats 4000000 in
theorem right_sign (pl a b c d lo hi : Int) (w : World) (k : Int) (hk : k ≠ 1) (hk8 : k ≠ 8) (hpl : 0 ≤ pl) (ha : a = 0) (hb : b = 0) (hc : c = 0) (hd : d = 0) :
    Calls Tryd.prog 23 #[.agg #[.int .i64 k, .int .i64 pl, .int .u64 a, .int .u64 b, .int .u64 c, .int .u64 d, .int .i64 lo, .int .i64 hi]] w fun e w' => e = .returned (.bool (rightV k pl a b c d lo hi)) ∧ Below w.heap.size w w' := by
  subst ha hb hc hd
  have p0 : ¬ pl < 0 := by omega
  have c1 : (k != 1) = true := by simpa using hk
  have c8 : (k == 8) = false := by simpa using hk8
  by_cases h1 : ¬ lo = 0
  · have b1 : (lo == 0) = false := by simpa using h1
    refine by_val (v' := false) (by simp [rightV, *]; try omega) ?_
    go_enter Tryd.func23, Tryd.ntmps23
    go_wp2
    go_light
    go_ret
    exact ⟨rfl, (Below.refl w.heap.size w).alloc (Nat.le_refl _) _⟩

  obtain rfl : lo = 0 := by omega
  by_cases h2 : ¬ hi = 0
  · have b1 : (hi == 0) = false := by simpa using h2
    refine by_val (v' := false) (by simp [rightV, *]; try omega) ?_
    go_enter Tryd.func23, Tryd.ntmps23
    go_wp2
    go_light
    go_ret
    exact ⟨rfl, (Below.refl w.heap.size w).alloc (Nat.le_refl _) _⟩

  obtain rfl : hi = 0 := by omega
  by_cases h3 : ¬ 1 ≤ k
  · have b1 : ¬ 1 ≤ k := h3
    refine by_val (v' := false) (by simp [rightV, *]; try omega) ?_
    go_enter Tryd.func23, Tryd.ntmps23
    go_wp2
    go_light
    go_ret
    exact ⟨rfl, (Below.refl w.heap.size w).alloc (Nat.le_refl _) _⟩

  have h3' : 1 ≤ k := by omega
  by_cases h4 : k < 8
  · have b1 : k < 8 := h4
    refine by_val (v' := true) (by simp [rightV, *]; try omega) ?_
    go_enter Tryd.func23, Tryd.ntmps23
    go_wp2
    go_light
    go_ret
    exact ⟨rfl, (Below.refl w.heap.size w).alloc (Nat.le_refl _) _⟩

  · have b1 : ¬ k < 8 := h4
    refine by_val (v' := false) (by simp [rightV, *]; try omega) ?_
    go_enter Tryd.func23, Tryd.ntmps23
    go_wp2
    go_light
    go_ret
    exact ⟨rfl, (Below.refl w.heap.size w).alloc (Nat.le_refl _) _⟩


set_option maxHeartbeats 2000000 in
theorem right_go (k pl a b c d lo hi : Int) (w : World) :
    Calls Tryd.prog 23 #[.agg #[.int .i64 k, .int .i64 pl, .int .u64 a, .int .u64 b, .int .u64 c, .int .u64 d, .int .i64 lo, .int .i64 hi]] w fun e w' => e = .returned (.bool (rightV k pl a b c d lo hi)) ∧ Below w.heap.size w w' := by
  by_cases hp : pl < 0
  · have p0 : pl < 0 := hp
    refine by_val (v' := false) (by simp [rightV, *]; try omega) ?_
    go_enter Tryd.func23, Tryd.ntmps23
    go_wp2
    go_light
    go_ret
    exact ⟨rfl, (Below.refl w.heap.size w).alloc (Nat.le_refl _) _⟩

  by_cases hk : k = 1
  · exact right_one pl a b c d lo hi w k hk (by omega)
  by_cases hz : a = 0 ∧ b = 0 ∧ c = 0 ∧ d = 0
  · obtain ⟨ha, hb, hc, hd⟩ := hz
    by_cases hk8 : k = 8
    · exact right_rep pl a b c d lo hi w k hk8 (by omega) ha hb hc hd
    · exact right_sign pl a b c d lo hi w k hk hk8 (by omega) ha hb hc hd
  · have z : (a == 0 && b == 0 && c == 0 && d == 0) = false := by simpa using hz
    have z2 : ((a == 0 && b == 0 && c == 0 && d == 0) : Bool) = true → False := by rw [z]; decide
    have p0 : ¬ pl < 0 := by omega
    have c1 : (k != 1) = true := by simpa using hk
    refine by_val (v' := false) (by unfold rightV; rw [z]; simp [hk]) ?_
    go_enter Tryd.func23, Tryd.ntmps23
    go_wp2
    go_light
    go_ret
    exact ⟨rfl, (Below.refl w.heap.size w).alloc (Nat.le_refl _) _⟩
set_option maxHeartbeats 2000000 in
theorem rright_one (pl a b c d lo hi : Int) (w : World) (k : Int) (hk : k = 1) (hpl : 0 ≤ pl) :
    Calls Tryd.prog 24 #[.agg #[.int .i64 k, .int .i64 pl, .int .u64 a, .int .u64 b, .int .u64 c, .int .u64 d, .int .i64 lo, .int .i64 hi]] w fun e w' => e = .returned (.bool (rightV k pl a b c d lo hi)) ∧ Below w.heap.size w w' := by
  subst hk
  have p0 : ¬ pl < 0 := by omega
  by_cases h1 : lo = 0
  · subst h1
    by_cases h2 : hi = 0
    · subst h2
      refine by_val (v' := true) (by simp [rightV, *]; try omega) ?_
      go_enter Tryd.func24, Tryd.ntmps24
      go_wp2
      go_light
      go_ret
      exact ⟨rfl, (Below.refl w.heap.size w).alloc (Nat.le_refl _) _⟩
    · have b2 : (hi == 0) = false := by simpa using h2
      refine by_val (v' := false) (by simp [rightV, *]; try omega) ?_
      go_enter Tryd.func24, Tryd.ntmps24
      go_wp2
      go_light
      go_ret
      exact ⟨rfl, (Below.refl w.heap.size w).alloc (Nat.le_refl _) _⟩
  · have b1 : (lo == 0) = false := by simpa using h1
    refine by_val (v' := false) (by simp [rightV, *]; try omega) ?_
    go_enter Tryd.func24, Tryd.ntmps24
    go_wp2
    go_light
    go_ret
    exact ⟨rfl, (Below.refl w.heap.size w).alloc (Nat.le_refl _) _⟩


set_option maxHeartbeats 4000000 in
theorem rright_rep (pl a b c d lo hi : Int) (w : World) (k : Int) (hk : k = 8) (hpl : 0 ≤ pl) (ha : a = 0) (hb : b = 0) (hc : c = 0) (hd : d = 0) :
    Calls Tryd.prog 24 #[.agg #[.int .i64 k, .int .i64 pl, .int .u64 a, .int .u64 b, .int .u64 c, .int .u64 d, .int .i64 lo, .int .i64 hi]] w fun e w' => e = .returned (.bool (rightV k pl a b c d lo hi)) ∧ Below w.heap.size w w' := by
  subst hk ha hb hc hd
  have p0 : ¬ pl < 0 := by omega
  by_cases h1 : ¬ 0 ≤ lo
  · have b1 : ¬ 0 ≤ lo := h1
    refine by_val (v' := false) (by simp [rightV, repV, *]; try omega) ?_
    go_enter Tryd.func24, Tryd.ntmps24
    go_wp2
    go_light
    go_ret
    exact ⟨rfl, (Below.refl w.heap.size w).alloc (Nat.le_refl _) _⟩

  have h1' : 0 ≤ lo := by omega
  by_cases h2 : ¬ lo ≤ 1000
  · have b1 : ¬ lo ≤ 1000 := h2
    refine by_val (v' := false) (by simp [rightV, repV, *]; try omega) ?_
    go_enter Tryd.func24, Tryd.ntmps24
    go_wp2
    go_light
    go_ret
    exact ⟨rfl, (Below.refl w.heap.size w).alloc (Nat.le_refl _) _⟩

  have h2' : lo ≤ 1000 := by omega
  by_cases h3 : hi = -1
  · subst h3
    refine by_val (v' := true) (by simp [rightV, repV, *]; try omega) ?_
    go_enter Tryd.func24, Tryd.ntmps24
    go_wp2
    go_light
    go_ret
    exact ⟨rfl, (Below.refl w.heap.size w).alloc (Nat.le_refl _) _⟩

  have b3 : (hi == -1) = false := by simpa using h3
  by_cases h4 : ¬ lo ≤ hi
  · have b1 : ¬ lo ≤ hi := h4
    refine by_val (v' := false) (by simp [rightV, repV, *]; try omega) ?_
    go_enter Tryd.func24, Tryd.ntmps24
    go_wp2
    go_light
    go_ret
    exact ⟨rfl, (Below.refl w.heap.size w).alloc (Nat.le_refl _) _⟩

  have h4' : lo ≤ hi := by omega
  by_cases h5 : hi ≤ 1000
  · have b1 : hi ≤ 1000 := h5
    refine by_val (v' := true) (by simp [rightV, repV, *]; try omega) ?_
    go_enter Tryd.func24, Tryd.ntmps24
    go_wp2
    go_light
    go_ret
    exact ⟨rfl, (Below.refl w.heap.size w).alloc (Nat.le_refl _) _⟩

  · have b1 : ¬ hi ≤ 1000 := h5
    refine by_val (v' := false) (by simp [rightV, repV, *]; try omega) ?_
    go_enter Tryd.func24, Tryd.ntmps24
    go_wp2
    go_light
    go_ret
    exact ⟨rfl, (Below.refl w.heap.size w).alloc (Nat.le_refl _) _⟩


set_option maxHeartbeats 4000000 in
theorem rright_sign (pl a b c d lo hi : Int) (w : World) (k : Int) (hk : k ≠ 1) (hk8 : k ≠ 8) (hpl : 0 ≤ pl) (ha : a = 0) (hb : b = 0) (hc : c = 0) (hd : d = 0) :
    Calls Tryd.prog 24 #[.agg #[.int .i64 k, .int .i64 pl, .int .u64 a, .int .u64 b, .int .u64 c, .int .u64 d, .int .i64 lo, .int .i64 hi]] w fun e w' => e = .returned (.bool (rightV k pl a b c d lo hi)) ∧ Below w.heap.size w w' := by
  subst ha hb hc hd
  have p0 : ¬ pl < 0 := by omega
  have c1 : (k != 1) = true := by simpa using hk
  have c8 : (k == 8) = false := by simpa using hk8
  have c8' : (k != 8) = true := by simpa using hk8
  by_cases h3 : k < 1
  · have b1 : k < 1 := h3
    refine by_val (v' := false) (by simp [rightV, *]; try omega) ?_
    go_enter Tryd.func24, Tryd.ntmps24
    go_wp2
    go_light
    go_ret
    exact ⟨rfl, (Below.refl w.heap.size w).alloc (Nat.le_refl _) _⟩

  by_cases h4 : 8 < k
  · have b1 : 8 < k := h4
    have b2 : ¬ k < 1 := h3
    refine by_val (v' := false) (by simp [rightV, *]; try omega) ?_
    go_enter Tryd.func24, Tryd.ntmps24
    go_wp2
    go_light
    go_ret
    exact ⟨rfl, (Below.refl w.heap.size w).alloc (Nat.le_refl _) _⟩

  have b3 : ¬ k < 1 := h3
  have b4 : ¬ 8 < k := h4
  by_cases h1 : ¬ lo = 0
  · have b1 : (lo == 0) = false := by simpa using h1
    refine by_val (v' := false) (by simp [rightV, *]; try omega) ?_
    go_enter Tryd.func24, Tryd.ntmps24
    go_wp2
    go_light
    go_ret
    exact ⟨rfl, (Below.refl w.heap.size w).alloc (Nat.le_refl _) _⟩

  obtain rfl : lo = 0 := by omega
  by_cases h2 : ¬ hi = 0
  · have b1 : (hi == 0) = false := by simpa using h2
    refine by_val (v' := false) (by simp [rightV, *]; try omega) ?_
    go_enter Tryd.func24, Tryd.ntmps24
    go_wp2
    go_light
    go_ret
    exact ⟨rfl, (Below.refl w.heap.size w).alloc (Nat.le_refl _) _⟩

  obtain rfl : hi = 0 := by omega
  all_goals
    refine by_val (v' := true) (by simp [rightV, *]; try omega) ?_
    go_enter Tryd.func24, Tryd.ntmps24
    go_wp2
    go_light
    go_ret
    exact ⟨rfl, (Below.refl w.heap.size w).alloc (Nat.le_refl _) _⟩


set_option maxHeartbeats 2000000 in
theorem rright_go (k pl a b c d lo hi : Int) (w : World) :
    Calls Tryd.prog 24 #[.agg #[.int .i64 k, .int .i64 pl, .int .u64 a, .int .u64 b, .int .u64 c, .int .u64 d, .int .i64 lo, .int .i64 hi]] w fun e w' => e = .returned (.bool (rightV k pl a b c d lo hi)) ∧ Below w.heap.size w w' := by
  by_cases hp : pl < 0
  · have p0 : pl < 0 := hp
    refine by_val (v' := false) (by simp [rightV, *]; try omega) ?_
    go_enter Tryd.func24, Tryd.ntmps24
    go_wp2
    go_light
    go_ret
    exact ⟨rfl, (Below.refl w.heap.size w).alloc (Nat.le_refl _) _⟩

  by_cases hk : k = 1
  · exact rright_one pl a b c d lo hi w k hk (by omega)
  by_cases hz : a = 0 ∧ b = 0 ∧ c = 0 ∧ d = 0
  · obtain ⟨ha, hb, hc, hd⟩ := hz
    by_cases hk8 : k = 8
    · exact rright_rep pl a b c d lo hi w k hk8 (by omega) ha hb hc hd
    · exact rright_sign pl a b c d lo hi w k hk hk8 (by omega) ha hb hc hd
  · have z : (a == 0 && b == 0 && c == 0 && d == 0) = false := by simpa using hz
    have z2 : ((a == 0 && b == 0 && c == 0 && d == 0) : Bool) = true → False := by rw [z]; decide
    have p0 : ¬ pl < 0 := by omega
    have c1 : (k != 1) = true := by simpa using hk
    refine by_val (v' := false) (by unfold rightV; rw [z]; simp [hk]) ?_
    by_cases h3 : k < 1
    · go_enter Tryd.func24, Tryd.ntmps24
      go_wp2
      go_light
      go_ret
      exact ⟨rfl, (Below.refl w.heap.size w).alloc (Nat.le_refl _) _⟩
    by_cases h4 : 8 < k
    · go_enter Tryd.func24, Tryd.ntmps24
      go_wp2
      go_light
      go_ret
      exact ⟨rfl, (Below.refl w.heap.size w).alloc (Nat.le_refl _) _⟩
    go_enter Tryd.func24, Tryd.ntmps24
    go_wp2
    go_light
    go_ret
    exact ⟨rfl, (Below.refl w.heap.size w).alloc (Nat.le_refl _) _⟩

end Go.Proofs.YtkelkadalikibaaDoor
namespace Go.Proofs.YtkelkadalikibaaDoor
set_option linter.unusedSimpArgs false
set_option linter.unusedVariables false

theorem testBit_split (a b j : Nat) (ha : a < 256) : (a + 256 * b).testBit j = if j < 8 then a.testBit j else b.testBit (j - 8) := by
  rw [Nat.add_comm, show (256 : Nat) = 2 ^ 8 from rfl]
  exact Nat.testBit_two_pow_mul_add b ha j

theorem land_split (x m n : Nat) (hm : m < 256) : x &&& (m + 256 * n) = ((x % 256) &&& m) + 256 * ((x / 256) &&& n) := by
  apply Nat.eq_of_testBit_eq
  intro j
  have h1 : (x % 256) &&& m < 256 := Nat.and_lt_two_pow (n := 8) _ hm
  rw [testBit_split _ _ _ h1, Nat.testBit_and, testBit_split _ _ _ hm]
  by_cases hj : j < 8
  · rw [if_pos hj, if_pos hj, Nat.testBit_and, show (256 : Nat) = 2 ^ 8 from rfl, Nat.testBit_mod_two_pow]
    simp [hj]
  · rw [if_neg hj, if_neg hj, Nat.testBit_and, show (256 : Nat) = 2 ^ 8 from rfl, Nat.testBit_div_two_pow]
    congr 2
    omega

def mask (m : Nat) : Nat → Nat
  | 0 => 0
  | n + 1 => m + 256 * mask m n

def s1 (n x : Nat) : Nat := ((x / 2) &&& mask 0x55 n) + (x &&& mask 0x55 n)
def s2 (n x : Nat) : Nat := ((x / 4) &&& mask 0x33 n) + (x &&& mask 0x33 n)
def s3 (n x : Nat) : Nat := (x / 16 + x) &&& mask 0x0f n
def f1 (b : Nat) : Nat := ((b / 2) &&& 0x55) + (b &&& 0x55)
def f2 (b : Nat) : Nat := ((b / 4) &&& 0x33) + (b &&& 0x33)
def f3 (b : Nat) : Nat := (b / 16 + b) &&& 0x0f

theorem cross1 : ∀ y : Fin 512, (y.val / 2) &&& 0x55 = (y.val % 256 / 2) &&& 0x55 := by decide +kernel
theorem cross2 : ∀ y : Fin 1024, (y.val / 4) &&& 0x33 = (y.val % 256 / 4) &&& 0x33 := by decide +kernel

theorem s1_step (n x : Nat) : s1 (n + 1) x = f1 (x % 256) + 256 * s1 n (x / 256) := by
  unfold s1 f1
  rw [show mask 0x55 (n + 1) = 0x55 + 256 * mask 0x55 n from rfl, land_split _ _ _ (by decide), land_split _ _ _ (by decide)]
  have h := cross1 ⟨x % 512, Nat.mod_lt _ (by decide)⟩
  dsimp only at h
  rw [show x / 2 % 256 = x % 512 / 2 by omega, h, show x % 512 % 256 = x % 256 by omega, show x / 2 / 256 = x / 256 / 2 by omega]
  omega
theorem s2_step (n x : Nat) : s2 (n + 1) x = f2 (x % 256) + 256 * s2 n (x / 256) := by
  unfold s2 f2
  rw [show mask 0x33 (n + 1) = 0x33 + 256 * mask 0x33 n from rfl, land_split _ _ _ (by decide), land_split _ _ _ (by decide)]
  have h := cross2 ⟨x % 1024, Nat.mod_lt _ (by decide)⟩
  dsimp only at h
  rw [show x / 4 % 256 = x % 1024 / 4 by omega, h, show x % 1024 % 256 = x % 256 by omega, show x / 4 / 256 = x / 256 / 4 by omega]
  omega
theorem cross3 : ∀ y : Fin 69, ∀ t : Fin 5, (y.val / 16 + y.val + 16 * t.val) &&& 0x0f = (y.val / 16 + y.val) &&& 0x0f := by decide +kernel
theorem s3_step (n x : Nat) (h1 : x % 256 < 69) (h2 : x / 256 % 16 < 5) : s3 (n + 1) x = f3 (x % 256) + 256 * s3 n (x / 256) := by
  unfold s3 f3
  rw [show mask 0x0f (n + 1) = 0x0f + 256 * mask 0x0f n from rfl, land_split _ _ _ (by decide)]
  have h := cross3 ⟨x % 256, h1⟩ ⟨x / 256 % 16, h2⟩
  dsimp only at h
  rw [show (x / 16 + x) % 256 = x % 256 / 16 + x % 256 + 16 * (x / 256 % 16) by omega, h, show (x / 16 + x) / 256 = x / 256 / 16 + x / 256 by omega]

theorem f1_lt : ∀ b : Fin 256, f1 b.val < 256 := by decide +kernel
theorem f2f1_lt : ∀ b : Fin 256, f2 (f1 b.val) < 69 ∧ f2 (f1 b.val) % 16 < 5 := by decide +kernel
/-- How many bits of a byte are set. -/
def pop (b : Nat) : Nat := f3 (f2 (f1 b))
theorem pop_le : ∀ b : Fin 256, pop b.val ≤ 8 := by decide +kernel

/-- The three steps together: the bytes' counts side by side. -/
def cnts : Nat → Nat → Nat
  | 0, _ => 0
  | n + 1, x => pop (x % 256) + 256 * cnts n (x / 256)

theorem s123 : ∀ (n x : Nat), s3 n (s2 n (s1 n x)) = cnts n x ∧ (0 < n → s2 n (s1 n x) % 16 < 5)
  | 0, x => by simp [s3, s2, s1, mask, cnts]
  | n + 1, x => by
    obtain ⟨ih, ihn⟩ := s123 n (x / 256)
    have hb : x % 256 < 256 := Nat.mod_lt _ (by decide)
    have a1 := f1_lt ⟨x % 256, hb⟩
    have a2 := f2f1_lt ⟨x % 256, hb⟩
    dsimp only at a1 a2
    have e2 : s2 (n + 1) (s1 (n + 1) x) = f2 (f1 (x % 256)) + 256 * s2 n (s1 n (x / 256)) := by
      rw [s2_step, s1_step, show (f1 (x % 256) + 256 * s1 n (x / 256)) % 256 = f1 (x % 256) by omega, show (f1 (x % 256) + 256 * s1 n (x / 256)) / 256 = s1 n (x / 256) by omega]
    refine ⟨?_, fun _ => by rw [e2]; omega⟩
    have hz : s2 n (s1 n (x / 256)) % 16 < 5 := by
      rcases Nat.eq_zero_or_pos n with h0 | h0
      · subst h0; simp [s2, s1, mask]
      · exact ihn h0
    rw [e2, s3_step _ _ (by omega) (by rw [show (f2 (f1 (x % 256)) + 256 * s2 n (s1 n (x / 256))) / 256 = s2 n (s1 n (x / 256)) by omega]; exact hz),
      show (f2 (f1 (x % 256)) + 256 * s2 n (s1 n (x / 256))) % 256 = f2 (f1 (x % 256)) by omega, show (f2 (f1 (x % 256)) + 256 * s2 n (s1 n (x / 256))) / 256 = s2 n (s1 n (x / 256)) by omega, ih]
    rfl

/-- How many of the first n say yes. -/
def cnt (p : Nat → Bool) : Nat → Nat
  | 0 => 0
  | n + 1 => cnt p n + (p n).toNat
theorem cnt_le (p : Nat → Bool) : ∀ n, cnt p n ≤ n
  | 0 => Nat.le_refl _
  | n + 1 => by have := cnt_le p n; have : (p n).toNat ≤ 1 := by cases p n <;> decide
                unfold cnt; omega
theorem cnt_congr {p q : Nat → Bool} : ∀ n, (∀ k, k < n → p k = q k) → cnt p n = cnt q n
  | 0, _ => rfl
  | n + 1, h => by unfold cnt; rw [cnt_congr n (fun k hk => h k (by omega)), h n (by omega)]
theorem cnt_add (p : Nat → Bool) (m : Nat) : ∀ n, cnt p (m + n) = cnt p m + cnt (fun k => p (m + k)) n
  | 0 => by simp [cnt]
  | n + 1 => by rw [← Nat.add_assoc]; show cnt p (m + n) + (p (m + n)).toNat = cnt p m + (cnt (fun k => p (m + k)) n + (p (m + n)).toNat); rw [cnt_add p m n]; omega
theorem pop_cnt : ∀ b : Fin 256, pop b.val = cnt b.val.testBit 8 := by decide +kernel

/-- The sum of the counts of n bytes. -/
def sums : Nat → Nat → Nat
  | 0, _ => 0
  | n + 1, x => pop (x % 256) + sums n (x / 256)
theorem sums_cnt : ∀ (n x : Nat), sums n x = cnt x.testBit (8 * n)
  | 0, x => rfl
  | n + 1, x => by
    unfold sums
    rw [sums_cnt n, pop_cnt ⟨x % 256, Nat.mod_lt _ (by decide)⟩, show 8 * (n + 1) = 8 + 8 * n by omega, cnt_add]
    dsimp only
    congr 1
    · apply cnt_congr
      intro k hk
      rw [show (256 : Nat) = 2 ^ 8 from rfl, Nat.testBit_mod_two_pow]
      simp [hk]
    · apply cnt_congr
      intro k _
      rw [show (256 : Nat) = 2 ^ 8 from rfl, Nat.testBit_div_two_pow, Nat.add_comm]

/-- The last three steps: the bytes' counts summed up in the lowest byte. -/
def fold3 (z : Nat) : Nat := let u := z + z / 256; let v := u + u / 65536; (v + v / 4294967296) % 128
theorem d1 {a b : Nat} (h : a < 256) : (a + 256 * b) / 256 = b := by omega
theorem m1 (a b : Nat) : (a + 256 * b) % 128 = a % 128 := by omega
theorem a1 (a b c d : Nat) : (a + 256 * b) + (c + 256 * d) = (a + c) + 256 * (b + d) := by omega
theorem a0 (a b c : Nat) : (a + 256 * b) + c = (a + c) + 256 * b := by omega
theorem fold3_eq (c0 c1 c2 c3 c4 c5 c6 c7 : Nat) (h0 : c0 ≤ 8) (h1 : c1 ≤ 8) (h2 : c2 ≤ 8) (h3 : c3 ≤ 8) (h4 : c4 ≤ 8) (h5 : c5 ≤ 8) (h6 : c6 ≤ 8) (h7 : c7 ≤ 8) :
    fold3 (c0 + 256 * (c1 + 256 * (c2 + 256 * (c3 + 256 * (c4 + 256 * (c5 + 256 * (c6 + 256 * c7))))))) = c0 + c1 + (c2 + c3) + (c4 + c5 + (c6 + c7)) := by
  unfold fold3
  dsimp only
  rw [d1 (show c0 < 256 by omega)]
  have e2 : c0 + 256 * (c1 + 256 * (c2 + 256 * (c3 + 256 * (c4 + 256 * (c5 + 256 * (c6 + 256 * c7)))))) + (c1 + 256 * (c2 + 256 * (c3 + 256 * (c4 + 256 * (c5 + 256 * (c6 + 256 * c7)))))) =
      (c0 + c1) + 256 * ((c1 + c2) + 256 * ((c2 + c3) + 256 * ((c3 + c4) + 256 * ((c4 + c5) + 256 * ((c5 + c6) + 256 * ((c6 + c7) + 256 * c7)))))) := by
    simp only [Nat.mul_add]; clear h0 h1 h2 h3 h4 h5 h6 h7; omega
  rw [e2, show (65536 : Nat) = 256 * 256 from rfl, ← Nat.div_div_eq_div_mul, d1 (show c0 + c1 < 256 by omega), d1 (show c1 + c2 < 256 by omega)]
  have e3 : (c0 + c1) + 256 * ((c1 + c2) + 256 * ((c2 + c3) + 256 * ((c3 + c4) + 256 * ((c4 + c5) + 256 * ((c5 + c6) + 256 * ((c6 + c7) + 256 * c7)))))) + ((c2 + c3) + 256 * ((c3 + c4) + 256 * ((c4 + c5) + 256 * ((c5 + c6) + 256 * ((c6 + c7) + 256 * c7))))) =
      (c0 + c1 + (c2 + c3)) + 256 * ((c1 + c2 + (c3 + c4)) + 256 * ((c2 + c3 + (c4 + c5)) + 256 * ((c3 + c4 + (c5 + c6)) + 256 * ((c4 + c5 + (c6 + c7)) + 256 * ((c5 + c6 + c7) + 256 * ((c6 + c7) + 256 * c7)))))) := by
    simp only [Nat.mul_add]; clear h0 h1 h2 h3 h4 h5 h6 h7; omega
  rw [e3, show (4294967296 : Nat) = 256 * 256 * 256 * 256 from rfl, ← Nat.div_div_eq_div_mul, ← Nat.div_div_eq_div_mul, ← Nat.div_div_eq_div_mul,
    d1 (show c0 + c1 + (c2 + c3) < 256 by omega), d1 (show c1 + c2 + (c3 + c4) < 256 by omega), d1 (show c2 + c3 + (c4 + c5) < 256 by omega), d1 (show c3 + c4 + (c5 + c6) < 256 by omega)]
  rw [a1, m1]
  omega
theorem fold3_cnts (x : Nat) : fold3 (cnts 8 x) = sums 8 x := by
  have h : ∀ y, pop (y % 256) ≤ 8 := fun y => pop_le ⟨y % 256, Nat.mod_lt _ (by decide)⟩
  have e := fold3_eq _ _ _ _ _ _ _ _ (h x) (h (x / 256)) (h (x / 256 / 256)) (h (x / 256 / 256 / 256)) (h (x / 256 / 256 / 256 / 256)) (h (x / 256 / 256 / 256 / 256 / 256)) (h (x / 256 / 256 / 256 / 256 / 256 / 256)) (h (x / 256 / 256 / 256 / 256 / 256 / 256 / 256))
  simp only [cnts, sums, Nat.mul_zero, Nat.add_zero]
  rw [e]
  simp only [Nat.add_assoc]

end Go.Proofs.YtkelkadalikibaaDoor
