/-
  The members of a set in order; the lowest bit of a word, and the word without it. No program in sight. The contract of the iterator of sets.each: the members of a set in order. The reference's Bytes: the members of a set in order, in a slice of its own. The contract of the reference's Not.
-/
import Derived.Lib.TrailingZeros
import Derived.RangeFuncNested
import Derived.RangeFuncBound
import Derived.RangeFuncCalls
import Derived.RangeFuncLeaves
import Derived.Shelf.Abstract
import Derived.Shelf.RegionOpen
import Derived.WalkKit
import Derived.OwnWalkIn
import Derived.TacticsInMore
import Derived.LoopNIn
import Derived.LoopIn
import Derived.Maps.AppendAt
import Derived.OwnWalk
import Derived.Lib.Hide
import Derived.Test.YtkelkadalikibaaDoorQZ01
import Derived.Test.YtkelkadalikibaaDoorQRefTwo
namespace Go.Proofs.YtkelkadalikibaaDoor
set_option linter.unusedSimpArgs false
set_option linter.unusedVariables false

/-- The members below m, in order. -/
def elems (p : Nat → Bool) (m : Nat) : List Nat := (List.range m).filter p
theorem elems_succ (p : Nat → Bool) (m : Nat) : elems p (m + 1) = elems p m ++ (if p m then [m] else []) := by
  unfold elems
  rw [List.range_succ, List.filter_append]
  by_cases h : p m <;> simp [h]
theorem elems_skip (p : Nat → Bool) (m : Nat) : ∀ d, (∀ c, m ≤ c → c < m + d → p c = false) → elems p (m + d) = elems p m
  | 0, _ => rfl
  | d + 1, h => by rw [← Nat.add_assoc, elems_succ, elems_skip p m d (fun c h1 h2 => h c h1 (by omega)), h (m + d) (by omega) (by omega)]; simp
theorem elems_skip' (p : Nat → Bool) {m m' : Nat} (hm : m ≤ m') (h : ∀ c, m ≤ c → c < m' → p c = false) : elems p m' = elems p m := by
  obtain ⟨d, rfl⟩ : ∃ d, m' = m + d := ⟨m' - m, by omega⟩
  exact elems_skip p m d h
theorem elems_len (p : Nat → Bool) (m : Nat) : (elems p m).length ≤ m := by
  unfold elems; exact Nat.le_trans (List.length_filter_le _ _) (by simp)
theorem elems_lt {p : Nat → Bool} {m c : Nat} (h : c ∈ elems p m) : c < m := by
  unfold elems at h; simp at h; exact h.1

theorem low_bits (x : Nat) (hx : x < 2 ^ 64) (h0 : x ≠ 0) : Lib.ctz 64 x < 64 ∧ x.testBit (Lib.ctz 64 x) = true ∧ (∀ j, j < Lib.ctz 64 x → x.testBit j = false) ∧
    ∀ j, (x &&& (x - 1)).testBit j = (x.testBit j && decide (Lib.ctz 64 x < j)) := by
  unfold Lib.ctz
  rw [if_neg h0]
  obtain ⟨m, hm, hk⟩ := Lib.ctzFrom_spec 64 x (by omega) hx
  generalize Lib.ctzFrom 64 x = k at *
  have e1 : ∀ j, x.testBit j = if j < k then false else (2 * m + 1).testBit (j - k) := by
    intro j
    rw [hm]
    have h := Nat.testBit_two_pow_mul_add (2 * m + 1) (b := 0) (i := k) (Nat.two_pow_pos k) j
    rw [Nat.add_zero] at h
    rw [h, Nat.zero_testBit]
  have e2 : ∀ j, (x - 1).testBit j = if j < k then true else (2 * m).testBit (j - k) := by
    intro j
    have hp := Nat.two_pow_pos k
    have e : x - 1 = 2 ^ k * (2 * m) + (2 ^ k - 1) := by rw [hm, Nat.mul_add, Nat.mul_one]; omega
    rw [e, Nat.testBit_two_pow_mul_add (2 * m) (by omega) j]
    by_cases hj : j < k
    · rw [if_pos hj, if_pos hj, Nat.testBit_two_pow_sub_one]; simp [hj]
    · rw [if_neg hj, if_neg hj]
  refine ⟨hk, ?_, ?_, ?_⟩
  · rw [e1, if_neg (Nat.lt_irrefl k), Nat.sub_self, Nat.testBit_zero]; simp
  · intro j hj; rw [e1, if_pos hj]
  · intro j
    rw [Nat.testBit_and, e1, e2]
    by_cases hj : j < k
    · simp [hj]
    · rw [if_neg hj, if_neg hj]
      by_cases he : j = k
      · subst he; simp
      · obtain ⟨d, rfl⟩ : ∃ d, j = k + (d + 1) := ⟨j - k - 1, by omega⟩
        have e3 : k + (d + 1) - k = d + 1 := by omega
        rw [e3, Nat.testBit_succ, Nat.testBit_succ, show (2 * m + 1) / 2 = m by omega, show 2 * m / 2 = m by omega]
        simp

/-- The lowest member in a word that is not 0. -/
theorem word_low (q : Nat → Bool) (i : Nat) (h0 : word q i ≠ 0) : Lib.ctz 64 (word q i) < 64 ∧ q (64 * i + Lib.ctz 64 (word q i)) = true ∧
    (∀ j, j < Lib.ctz 64 (word q i) → q (64 * i + j) = false) ∧
    word q i &&& (word q i - 1) = word (fun c => q c && decide (64 * i + Lib.ctz 64 (word q i) + 1 ≤ c)) i ∧
    word q i &&& (word q i - 1) < word q i := by
  have hx := word_lt q i
  obtain ⟨h1, h2, h3, h4⟩ := low_bits (word q i) hx h0
  refine ⟨h1, ?_, ?_, ?_, ?_⟩
  · rw [testBit_word] at h2; simp at h2; exact h2.2
  · intro j hj
    have h := h3 j hj
    rw [testBit_word] at h
    have : j < 64 := by omega
    simpa [this] using h
  · apply Nat.eq_of_testBit_eq
    intro j
    rw [h4, testBit_word, testBit_word, Bool.and_assoc]
    congr 2
    rw [decide_eq_decide]
    omega
  · have : word q i &&& (word q i - 1) ≤ word q i - 1 := Nat.and_le_right
    omega
theorem word_zero (q : Nat → Bool) (i : Nat) (h0 : word q i = 0) : ∀ j, j < 64 → q (64 * i + j) = false := by
  intro j hj
  have h := testBit_word q i j
  rw [h0, Nat.zero_testBit] at h
  simpa [hj] using h.symm

/-- From the members below m to the members below the next one and that one. -/
theorem elems_next (p : Nat → Bool) (i m : Nat) (hm : m ≤ 64 * i + 64) (hm1 : 64 * i ≤ m) (h0 : word (fun c => p c && decide (m ≤ c)) i ≠ 0) :
    let k := Lib.ctz 64 (word (fun c => p c && decide (m ≤ c)) i)
    k < 64 ∧ m ≤ 64 * i + k ∧ elems p (64 * i + k + 1) = elems p m ++ [64 * i + k] ∧
    word (fun c => p c && decide (m ≤ c)) i &&& (word (fun c => p c && decide (m ≤ c)) i - 1) = word (fun c => p c && decide (64 * i + k + 1 ≤ c)) i ∧
    word (fun c => p c && decide (64 * i + k + 1 ≤ c)) i < word (fun c => p c && decide (m ≤ c)) i := by
  intro k
  obtain ⟨h1, h2, h3, h4, h5⟩ := word_low _ i h0
  change k < 64 at h1
  change (p (64 * i + k) && decide (m ≤ 64 * i + k)) = true at h2
  change ∀ j, j < k → (p (64 * i + j) && decide (m ≤ 64 * i + j)) = false at h3
  simp at h2
  have e : word (fun c => p c && decide (m ≤ c)) i &&& (word (fun c => p c && decide (m ≤ c)) i - 1) = word (fun c => p c && decide (64 * i + k + 1 ≤ c)) i := by
    rw [h4]
    apply congrArg (fun f => word f i)
    funext c
    by_cases hc : 64 * i + k + 1 ≤ c
    · have : m ≤ c := by omega
      have hc' : 64 * i + Lib.ctz 64 (word (fun c => p c && decide (m ≤ c)) i) + 1 ≤ c := hc
      simp [this, hc, hc']
    · simp only [hc, decide_false, Bool.and_false]
      have : ¬ (64 * i + Lib.ctz 64 (word (fun c => p c && decide (m ≤ c)) i) + 1 ≤ c) := hc
      simp [this]
  refine ⟨h1, h2.2, ?_, e, e ▸ h5⟩
  rw [elems_succ, h2.1, if_pos rfl, elems_skip' p h2.2 ?_]
  intro c hc1 hc2
  have h := h3 (c - 64 * i) (by omega)
  rw [show 64 * i + (c - 64 * i) = c by omega] at h
  simpa [hc1] using h
theorem elems_end (p : Nat → Bool) (i m : Nat) (hm : m ≤ 64 * i + 64) (hm1 : 64 * i ≤ m) (h0 : word (fun c => p c && decide (m ≤ c)) i = 0) : elems p (64 * (i + 1)) = elems p m := by
  refine elems_skip' p (by omega) ?_
  intro c hc1 hc2
  have h := word_zero _ i h0 (c - 64 * i) (by omega)
  rw [show 64 * i + (c - 64 * i) = c by omega] at h
  simpa [hc1] using h
theorem word_start (p : Nat → Bool) (i : Nat) : word (fun c => p c && decide (64 * i ≤ c)) i = word p i := by
  apply Nat.eq_of_testBit_eq
  intro j
  rw [testBit_word, testBit_word]
  simp

end Go.Proofs.YtkelkadalikibaaDoor
namespace Go.Proofs.YtkelkadalikibaaDoor
open Go.RowKit Go.Shelf
set_option linter.unusedSimpArgs false
set_option linter.unusedVariables false
set_option maxRecDepth 100000
attribute [local go_sem] Oper.semAt_some

theorem index_at (p : Nat → Bool) (i : Nat) (hi : i < 4) (w : World) : (Instr.index 25 (.agg #[.int .u64 ((word (p) 0 : Nat) : Int), .int .u64 ((word (p) 1 : Nat) : Int), .int .u64 ((word (p) 2 : Nat) : Int), .int .u64 ((word (p) 3 : Nat) : Int)]) (.int .i64 (i : Int))).run Tryd.prog w = .ok (.int .u64 ((word p i : Nat) : Int)) w := by
  rcases i with _ | _ | _ | _ | i
  · exact index0 ..
  · exact index1 ..
  · exact index2 ..
  · exact index3 ..
  · omega

/-- The arguments of a round. -/
def byteArg (x : Nat) : Array Value := #[.int .u8 ((x % 256 : Nat) : Int)]

set_option maxHeartbeats 2000000 in
theorem each1_in (n : Nat) (hn : 1 ≤ n) (p : Nat → Bool) (l Bs n₀ : Nat) (hBs : 0 < n₀) (J Jx : List Nat → World → Prop)
    (hY : ∀ pre x W, J pre W → pre.length < 256 → YieldAt Fence.wide (n - 1) Tryd.prog l (byteArg x) W fun e W' =>
      (e = .returned (.bool true) ∧ J (pre ++ [x]) W' ∧ Below n₀ W W') ∨ (e = .returned (.bool false) ∧ Jx (pre ++ [x]) W'))
    (W : World) (hs : Blk W Bs 25 #[.int .u64 ((word (p) 0 : Nat) : Int), .int .u64 ((word (p) 1 : Nat) : Int), .int .u64 ((word (p) 2 : Nat) : Int), .int .u64 ((word (p) 3 : Nat) : Int)]) (hT : TabAt 0 Lib.deBruijn64tab W) (h0 : J [] W) :
    CallsIn Fence.wide n Tryd.prog 83 #[.func (.yield l) #[] #[], .pointer (some ⟨Bs, 0, none⟩)] W fun e W' => (∃ v, e = .returned v) ∧
      ((∃ ys, ys = elems p 256 ∧ J ys W') ∨ (∃ pre, (∃ k, k ≤ 256 ∧ pre = elems p k) ∧ Jx pre W')) := by
  refine callsIn_of_wp Tryd.func83 rfl trivial ?_ rfl
  simp only [Tryd.ntmps83, List.size_toArray, List.length_cons, List.length_nil, Nat.reduceAdd, Nat.reduceSub, Array.replicate_succ, Array.replicate_zero, List.push_toArray, List.append_toArray, List.nil_append, List.cons_append]
  obtain ⟨s0, s1, s2, s3, f0, f1, f2, f3⟩ := hs.c4
  gi_wp2
  gi_loopw [6] (fun v wr => ∃ i : Nat, i ≤ 4 ∧ v = .int .i64 (i : Int) ∧ J (elems p (64 * i)) wr ∧ Below n₀ W wr)
    (fun v _ => 4 - (intOf v).toNat)
  case atStart => exact ⟨0, by omega, rfl, h0, Below.refl _ _⟩
  case round =>
    obtain ⟨i, hi, rfl, hJ, hB⟩ := hrel
    by_cases hlt : i < 4
    · have hix := index_at p i hlt
      gi_wp2
      have hd : decide ((i : Int) < 4) = true := by simp; omega
      rw [hd]
      gi_loopw [4] (fun v w2 => ∃ m : Nat, m ≤ 64 * i + 64 ∧ 64 * i ≤ m ∧ v = .int .u64 ((word (fun c => p c && decide (m ≤ c)) i : Nat) : Int) ∧ J (elems p m) w2 ∧ Below n₀ W w2)
        (fun v _ => (intOf v).toNat)
      case atStart => exact ⟨64 * i, by omega, Nat.le_refl _, by rw [word_start], hJ, hB⟩
      case round =>
        obtain ⟨m, hm1, hm2, rfl, hJ2, hB2⟩ := hrel
        by_cases hz : word (fun c => p c && decide (m ≤ c)) i = 0
        · have hend := elems_end p i m hm1 hm2 hz
          rw [hz]
          gi_wp2
          exact ⟨⟨i + 1, by omega, by simp, by rw [hend]; exact hJ2, hB2⟩, by simp [intOf]; omega⟩
        · obtain ⟨hk, hmk, hel, hand, hless⟩ := elems_next p i m hm1 hm2 hz
          have hx := word_lt (fun c => p c && decide (m ≤ c)) i
          generalize hwx : word (fun c => p c && decide (m ≤ c)) i = x at *
          have hx0 : ((x : Int) == 0) = false := by simp; omega
          have hTx : TabAt 0 Lib.deBruijn64tab _ := fun j hj => (hB2.cell (p := ⟨0, j, none⟩) (by show 0 < n₀; omega)).trans (hT j hj)
          have htz := tz_go x hx hz _ hTx
          generalize Lib.ctz 64 x = k at *
          obtain ⟨fn, tmps, assign, body, hy, hR⟩ := hY _ (64 * i + k) _ hJ2 (by have := elems_len p m; omega)
          unfold byteArg at hy
          have ev : (((64 * i + k) % 256 : Nat) : Int) = (i : Int) * 64 + (k : Int) := by omega
          rw [ev] at hy
          have esub : IntKind.u64.wrap ((x : Int) - 1) = ((x - 1 : Nat) : Int) := by rw [IntKind.wrap_u64]; omega
          have eand : bits .and .u64 (x : Int) ((x - 1 : Nat) : Int) = ((word (fun c => p c && decide (64 * i + k + 1 ≤ c)) i : Nat) : Int) := by
            rw [← hand]; exact u64_and_nat x (x - 1) hx (by omega)
          clear hwx
          gi_wp2_with (refine ⟨trivial, ?_⟩; gi_at_call 84; refine (callsIn_wide.2 htz).mono ?_; rintro e w' ⟨rfl, rfl⟩)
          refine hR.mono ?_
          rintro e W3 (⟨rfl, hJ3, hk3⟩ | ⟨rfl, hJx3⟩)
          · gi_wp2
            go_roundw
            case rel => exact ⟨64 * i + k + 1, by omega, by omega, rfl, by rw [hel]; exact hJ3, hB2.trans hk3⟩
            case measure => simp [intOf]; omega
          · gi_wp2
            refine bodyPost_ret (results_none rfl _ _ _) rfl ?_
            exact ⟨⟨_, rfl⟩, .inr ⟨_, ⟨64 * i + k + 1, by omega, hel.symm⟩, hJx3⟩⟩
    · obtain rfl : i = 4 := by omega
      gi_wp2
      go_end0
      exact ⟨⟨_, rfl⟩, .inl ⟨_, rfl, hJ⟩⟩

/-- sets.each: the set is boxed; the function value holds the box. -/
theorem each_go (p : Nat → Bool) (w : World) :
    Calls Tryd.prog 60 #[.agg #[.int .u64 ((word (p) 0 : Nat) : Int), .int .u64 ((word (p) 1 : Nat) : Int), .int .u64 ((word (p) 2 : Nat) : Int), .int .u64 ((word (p) 3 : Nat) : Int)]] w fun e w' => e = .returned (.func (.func 83) #[] #[.pointer (some ⟨w.heap.size, 0, none⟩)]) ∧ w' = w.alloc (.cells #[.int .u64 ((word (p) 0 : Nat) : Int), .int .u64 ((word (p) 1 : Nat) : Int), .int .u64 ((word (p) 2 : Nat) : Int), .int .u64 ((word (p) 3 : Nat) : Int)] 25) := by
  go_enter Tryd.func60, Tryd.ntmps60
  go_wp2
  go_light
  go_ret
  exact ⟨rfl, rfl⟩

theorem TabAt.below {n₀ : Nat} {A B : World} (h : Below n₀ A B) (h0 : 0 < n₀) (hT : TabAt 0 Lib.deBruijn64tab A) : TabAt 0 Lib.deBruijn64tab B :=
  fun j hj => (h.cell (p := ⟨0, j, none⟩) h0).trans (hT j hj)

/-- What sets.each hands back hands out the members in order. -/
theorem each_stops (n : Nat) (hn : 1 ≤ n) (p : Nat → Bool) (Bs n₀ : Nat) (w : World) (hBs : 0 < n₀) (hBw : Bs < w.heap.size) (hs : Blk w Bs 25 #[.int .u64 ((word (p) 0 : Nat) : Int), .int .u64 ((word (p) 1 : Nat) : Int), .int .u64 ((word (p) 2 : Nat) : Int), .int .u64 ((word (p) 3 : Nat) : Int)]) (hT : TabAt 0 Lib.deBruijn64tab w) :
    SeqStopsK Fence.wide n Tryd.prog 83 #[.pointer (some ⟨Bs, 0, none⟩)] byteArg (Below n₀) (fun ys => ys = elems p 256) (fun pre => ∃ k, k ≤ 256 ∧ pre = elems p k) 256 w := fun l J Jx W hW _ _ hY h0 =>
  each1_in n hn p l Bs n₀ hBs J Jx hY W (hs.below hW hBw) (TabAt.below hW (by omega) hT) h0

end Go.Proofs.YtkelkadalikibaaDoor
namespace Go.Proofs.YtkelkadalikibaaDoor
open Go.RowKit
set_option linter.unusedSimpArgs false
set_option linter.unusedVariables false
set_option maxRecDepth 100000

def byteCells (l : List Nat) : List Value := l.map fun c : Nat => .int .u8 (c : Int)
theorem info5 : (Tryd.prog.info? 5).map (fun i => (i.zero, i.size, i.bytes)) = some (some (.int .u8 0), 1, 1) := by kernel_rfl


set_option maxHeartbeats 1000000 in
theorem rbytes_go (p : Nat → Bool) (w : World) :
    Calls Tryd.prog 40 #[.agg #[.int .u64 ((word (p) 0 : Nat) : Int), .int .u64 ((word (p) 1 : Nat) : Int), .int .u64 ((word (p) 2 : Nat) : Int), .int .u64 ((word (p) 3 : Nat) : Int)]] w fun e W' => ∃ v, e = .returned v ∧ W'.ownsRow w.heap.size 5 1 v (elems p 256).length (byteCells (elems p 256)) ∧ Below w.heap.size w W' := by
  obtain ⟨i0, hi, hz0, hz1, hz2⟩ := info_parts info5
  go_enter Tryd.func40, Tryd.ntmps40
  go_wp2
  go_loopw [3, 4] (fun v3 v4 wr => ∃ c : Nat, v4 = .int .i64 (c : Int) ∧ c ≤ 256 ∧ wr.ownsRow w.heap.size 5 1 v3 (elems p c).length (byteCells (elems p c)) ∧ Blk wr w.heap.size 25 #[.int .u64 ((word (p) 0 : Nat) : Int), .int .u64 ((word (p) 1 : Nat) : Int), .int .u64 ((word (p) 2 : Nat) : Int), .int .u64 ((word (p) 3 : Nat) : Int)] ∧ Below w.heap.size w wr) (fun _ v4 _ => 256 - (intOf v4).toNat)
  case atStart =>
    refine ⟨0, rfl, by omega, ?_, (Blk.new _ _ _).alloc _, ((Below.refl _ _).alloc (Nat.le_refl _) _).alloc (by simp) _⟩
    have h := World.ownsRow_made (base := w.heap.size) (size := 1) (e := 5) (w.alloc (.cells #[.int .u64 ((word (p) 0 : Nat) : Int), .int .u64 ((word (p) 1 : Nat) : Int), .int .u64 ((word (p) 2 : Nat) : Int), .int .u64 ((word (p) 3 : Nat) : Int)] 25)) #[] 0 (by simp) (by decide) rfl
    rw [World.size_alloc] at h
    exact h
  case round =>
    obtain ⟨c, rfl, hc, hrow, hs, hb⟩ := hrel
    by_cases hlt : c < 256
    · obtain ⟨s0, s1, s2, s3, f0, f1, f2, f3⟩ := hs.c4
      have hnb := blk_not_row hs (by decide) hrow
      have hown := hrow.lt
      have hlen := elems_len p c
      have hel := elems_succ p c
      have hb1m : (elems p c).length + 1 ≤ maxLen := Nat.le_trans (by omega) (show 1000 ≤ maxLen by decide)
      have hb2m : ((elems p c).length + 1) * 1 ≤ 140737488355328 := by omega
      cases hx : p c
      · rw [hx] at hel
        have hx' : p (c : Int).toNat = false := by simpa using hx
        have Hs := Lib.hid hs
        have Hel := Lib.hid hel
        have Hown := Lib.hid hown
        have Hrow := Lib.hid hrow
        clear hs hel hnb hown hrow
        go_wp2_with fail
        refine (rhas_any _ _ _ (by omega) (by omega)).mono ?_
        rintro e w1 ⟨rfl, hb1⟩
        go_wp2
        go_light
        go_roundw
        case rel => exact ⟨c + 1, by go_num, by omega, by rw [Hel.out]; simpa using ownsRow_below Hrow.out hb1 (fun k e => (Hown.out k e).2), Hs.out.below hb1 Hs.out.lt, hb.trans (hb1.mono hb.size)⟩
        case measure => simp [intOf]; omega
      · rw [hx] at hel
        have hx' : p (c : Int).toNat = true := by simpa using hx
        have Hs := Lib.hid hs
        have Hel := Lib.hid hel
        have Hown := Lib.hid hown
        have Hrow := Lib.hid hrow
        have Hnb := Lib.hid hnb
        clear hs hel hnb hown hrow
        go_wp2_with fail
        refine (rhas_any _ _ _ (by omega) (by omega)).mono ?_
        rintro e w1 ⟨rfl, hb1⟩
        have Hr1 := Lib.hid (ownsRow_below Hrow.out hb1 (fun k e => (Hown.out k e).2))
        have hbase := (hb.trans (hb1.mono hb.size)).size
        go_wp2_with (at_builtin; refine wpList_append_own_at _ rfl _ _ 22 rfl w.heap.size 5 i0 (.int .u8 0) 1 1 Tryd.underlying22 hi hz0 hz1 hz2 rfl (by decide) _ _ _ rfl (Hr1.out.alloc _) ⟨w1.heap.size, 0, none⟩ 1 1 [.int .u8 (c : Int)] rfl rfl (cell_one_new _ _ _) (by simp [Value.oneCell']) hb1m hb2m (Nat.le_trans hbase (by simp)) ?_; intro v' w2 hown' hgrow _ _)
        go_light
        go_roundw
        case rel => exact ⟨c + 1, by go_num, by omega, by rw [Hel.out]; simpa [byteCells] using hown', ((Hs.out.below hb1 Hs.out.lt).alloc _).grown hgrow Hnb.out, ((hb.trans (hb1.mono hb.size)).alloc hbase _).grown hgrow (Nat.le_trans hbase (by simp)) (fun k e => (Hown.out k e).1)⟩
        case measure => simp [intOf]; omega
    · have he : c = 256 := by omega
      subst he
      have Hrow := Lib.hid hrow
      clear hrow hs
      go_wp2
      go_light
      go_ret
      exact ⟨_, rfl, Hrow.out, hb⟩

end Go.Proofs.YtkelkadalikibaaDoor
namespace Go.Proofs.YtkelkadalikibaaDoor
open Go.RowKit
set_option linter.unusedSimpArgs false
set_option linter.unusedVariables false

theorem two_not (p : Nat → Bool) (i : Nat) (h : i < 4) : word (two 2 (between 0 255) p) i = word (fun c => !p c) i := by
  apply word_congr
  intro j hj
  simp [two, between]
  omega

set_option maxRecDepth 100000 in
set_option maxHeartbeats 800000 in
theorem rnot_any (p : Nat → Bool) (w : World) :
    Calls Tryd.prog 37 #[.agg #[.int .u64 ((word (p) 0 : Nat) : Int), .int .u64 ((word (p) 1 : Nat) : Int), .int .u64 ((word (p) 2 : Nat) : Int), .int .u64 ((word (p) 3 : Nat) : Int)]] w fun e w' => e = .returned (.agg #[.int .u64 ((word (fun c => !p c) 0 : Nat) : Int), .int .u64 ((word (fun c => !p c) 1 : Nat) : Int), .int .u64 ((word (fun c => !p c) 2 : Nat) : Int), .int .u64 ((word (fun c => !p c) 3 : Nat) : Int)]) ∧ Below w.heap.size w w' := by
  go_enter Tryd.func37, Tryd.ntmps37
  go_wp2_with fail
  have B0 : Hid (Blk ((w.alloc (.cells #[.int .u64 ((word (p) 0 : Nat) : Int), .int .u64 ((word (p) 1 : Nat) : Int), .int .u64 ((word (p) 2 : Nat) : Int), .int .u64 ((word (p) 3 : Nat) : Int)] 25)).alloc (.cells #[.int .u64 0, .int .u64 0, .int .u64 0, .int .u64 0] 25)).drew w.heap.size 25 #[.int .u64 ((word (p) 0 : Nat) : Int), .int .u64 ((word (p) 1 : Nat) : Int), .int .u64 ((word (p) 2 : Nat) : Int), .int .u64 ((word (p) 3 : Nat) : Int)]) := (Blk.new _ _ _).alloc _
  have B1 : Hid (Blk ((w.alloc (.cells #[.int .u64 ((word (p) 0 : Nat) : Int), .int .u64 ((word (p) 1 : Nat) : Int), .int .u64 ((word (p) 2 : Nat) : Int), .int .u64 ((word (p) 3 : Nat) : Int)] 25)).alloc (.cells #[.int .u64 0, .int .u64 0, .int .u64 0, .int .u64 0] 25)).drew (w.heap.size + 1) 25 #[.int .u64 0, .int .u64 0, .int .u64 0, .int .u64 0]) := Blk.new_at (by simp)
  go_region_with (first
    | (go_at_call 36; refine (rspan_any 0 255 _ (by omega) (by omega) (by omega) (by omega)).mono ?_; rintro e w1 ⟨rfl, hb1⟩; obtain ⟨p0, p1, p2, p3, _, _, _, _⟩ := (B0.out.below hb1 B0.out.lt).c4)
    | (go_at_call 35; refine (rtwo_any _ _ _ _ (by omega)).mono ?_; rintro e w2 ⟨rfl, hb2⟩; obtain ⟨r0, r1, r2, r3, f0, f1, f2, f3⟩ := (B1.out.below (hb1.trans (hb2.mono hb1.size)) B1.out.lt).c4))
  all_goals go_wp2
  all_goals go_light
  all_goals refine bodyPost_ret (ret_set Tryd.results37 rfl (B1.out.below (hb1.trans (hb2.mono hb1.size)) B1.out.lt).set4) rfl ⟨?_, ?_⟩
  all_goals first
    | (rw [two_not p 0 (by decide), two_not p 1 (by decide), two_not p 2 (by decide), two_not p 3 (by decide)]; done)
    | (refine Below.trans (b := ((w.alloc (.cells #[.int .u64 ((word (p) 0 : Nat) : Int), .int .u64 ((word (p) 1 : Nat) : Int), .int .u64 ((word (p) 2 : Nat) : Int), .int .u64 ((word (p) 3 : Nat) : Int)] 25)).alloc (.cells #[.int .u64 0, .int .u64 0, .int .u64 0, .int .u64 0] 25)).drew) ?_ ?_
       · exact (((Below.refl _ _).alloc (Nat.le_refl _) _).alloc (by simp) _).drew
       · repeat (first | exact (hb1.trans (hb2.mono hb1.size)).mono (by simp <;> omega) | refine Below.setCell ?_ (by dsimp only; omega) _))

end Go.Proofs.YtkelkadalikibaaDoor
