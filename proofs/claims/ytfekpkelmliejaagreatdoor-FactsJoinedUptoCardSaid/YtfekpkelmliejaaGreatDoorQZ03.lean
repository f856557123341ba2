/-
  The contracts of bits.OnesCount64 and sets.Count. Sums and products that stop at a top: num.Add, num.Mul (of two) and the reference's, at the top 2^40. tree.walk and tree.nodes: the iterator over the nodes of a tree that may be, each ahead of its kids. tree.walk and tree.nodes at any tree: the iterator over the nodes, each ahead of its kids. tree.Right: a tree that may be. tree.Right at any tree. How many states trees take: the plain number, and the contracts of nfa.sum, nfa.times, nfa.Weight, nfa.Size. What can be told of the words of a tree, in plain words. No program in sight. The program's small functions of chapter 10: lengths, and what is nothing. What is known of trees, as the reference reckons it: part by part. No program in sight. The machine of trees in plain words, and what a tree adds to a machine. What is said of the machine of trees, in plain words: its shape. A machine in memory: its rows, the program's layer, and what laying may change. Cells of some blocks that stand through a drawn region. facts.behind: two, one behind the other. facts.either, facts.behind and facts.repeated. The digits of a number of 1000 at most: the contracts of num.Show and of its reference. The reference's Spans: the pieces of a set, in a slice of its own. Its invariant: ahead of c, what is out and what is open make the pieces of the members below c. The contracts of reference 02's Of, and of reference 05's Dot. A row of lexemes, off what a call owns; and what the three texts of knows split into. The reference's Weight and Size of chapter 16, and the program's Size. Trees turned round, in plain words. No program in sight.
-/
import Derived.Lib.Hide
import Derived.Deep.Light
import Derived.RangeFuncNested
import Derived.RangeFuncBound
import Derived.RangeFuncCalls
import Derived.RangeFuncLeaves
import Derived.Shelf.Abstract
import Derived.Shelf.RegionOpen
import Derived.WalkKit
import Derived.OwnWalkIn
import Derived.TacticsInMore
import Derived.LoopNIn
import Derived.LoopIn
import Derived.RangeFuncBox
import Derived.Maps.AppendAt
import Derived.Deep.AppendLies
import Derived.Deep.RegionLaw
import Derived.Deep.RegionHeld3
import Derived.RegionTactic
import Derived.BigRegion
import Derived.Deep.Cut
import Derived.OwnWalk
import Derived.Deep.RegionWith
import Derived.Test.YtfekpkelmliejaaGreatDoorQZ01
import Derived.Test.YtfekpkelmliejaaGreatDoorQZ02
namespace Go.Proofs.YtfekpkelmliejaaGreatDoor
open Go.RowKit
set_option linter.unusedSimpArgs false
set_option linter.unusedVariables false
set_option maxRecDepth 100000

theorem and64 (a M : Nat) (ha : a < 18446744073709551616) (hM : M < 18446744073709551616) : bits .and .u64 (a : Int) (M : Int) = ((a &&& M : Nat) : Int) := u64_and_nat a M ha hM
theorem wrapN (a : Nat) (h : a < 18446744073709551616) : IntKind.u64.wrap (a : Int) = (a : Int) := by rw [IntKind.wrap_u64]; omega
theorem i64_and127 (a : Nat) (ha : a < 9223372036854775808) : bits .and .i64 (a : Int) 127 = ((a % 128 : Nat) : Int) := by
  have hx : a &&& 127 = a % 128 := Nat.and_two_pow_sub_one_eq_mod a 7
  show IntKind.i64.wrap ((BitVec.ofInt 64 (a : Int) &&& BitVec.ofInt 64 (127 : Int)).toNat : Int) = _
  have e1 : (BitVec.ofInt 64 (a : Int)).toNat = a := by rw [BitVec.ofInt_natCast, BitVec.toNat_ofNat]; exact Nat.mod_eq_of_lt (by omega)
  have e2 : (BitVec.ofInt 64 (127 : Int)).toNat = 127 := by decide
  rw [BitVec.toNat_and, e1, e2, hx, IntKind.wrap_i64]
  omega
theorem mask55 : mask 0x55 8 = 6148914691236517205 := by decide
theorem mask33 : mask 0x33 8 = 3689348814741910323 := by decide
theorem mask0f : mask 0x0f 8 = 1085102592571150095 := by decide
theorem st1 (x : Nat) (hx : x < 18446744073709551616) : IntKind.u64.wrap (bits .and .u64 ((x : Int) / 2) 6148914691236517205 + bits .and .u64 (x : Int) 6148914691236517205) = ((s1 8 x : Nat) : Int) ∧ s1 8 x < 18446744073709551616 := by
  have e : ((x : Int) / 2) = ((x / 2 : Nat) : Int) := by omega
  have h1 : (x / 2) &&& 6148914691236517205 ≤ 6148914691236517205 := Nat.and_le_right
  have h2 : x &&& 6148914691236517205 ≤ 6148914691236517205 := Nat.and_le_right
  have b1 := and64 (x / 2) 6148914691236517205 (by omega) (by decide)
  have b2 := and64 x 6148914691236517205 hx (by decide)
  rw [show (((6148914691236517205 : Nat)) : Int) = 6148914691236517205 from rfl] at b1 b2
  unfold s1
  rw [mask55, e, b1, b2, ← Int.natCast_add]
  exact ⟨wrapN _ (by omega), by omega⟩
theorem st2 (x : Nat) (hx : x < 18446744073709551616) : IntKind.u64.wrap (bits .and .u64 ((x : Int) / 4) 3689348814741910323 + bits .and .u64 (x : Int) 3689348814741910323) = ((s2 8 x : Nat) : Int) ∧ s2 8 x ≤ 7378697629483820646 := by
  have e : ((x : Int) / 4) = ((x / 4 : Nat) : Int) := by omega
  have h1 : (x / 4) &&& 3689348814741910323 ≤ 3689348814741910323 := Nat.and_le_right
  have h2 : x &&& 3689348814741910323 ≤ 3689348814741910323 := Nat.and_le_right
  have b1 := and64 (x / 4) 3689348814741910323 (by omega) (by decide)
  have b2 := and64 x 3689348814741910323 hx (by decide)
  rw [show (((3689348814741910323 : Nat)) : Int) = 3689348814741910323 from rfl] at b1 b2
  unfold s2
  rw [mask33, e, b1, b2, ← Int.natCast_add]
  exact ⟨wrapN _ (by omega), by omega⟩
theorem st3 (x : Nat) (hx : x ≤ 7378697629483820646) : bits .and .u64 (IntKind.u64.wrap ((x : Int) / 16 + (x : Int))) 1085102592571150095 = ((s3 8 x : Nat) : Int) ∧ s3 8 x ≤ 1085102592571150095 := by
  have e : ((x : Int) / 16 + (x : Int)) = ((x / 16 + x : Nat) : Int) := by omega
  have b1 := and64 (x / 16 + x) 1085102592571150095 (by omega) (by decide)
  rw [show (((1085102592571150095 : Nat)) : Int) = 1085102592571150095 from rfl] at b1
  unfold s3
  rw [mask0f, e, wrapN _ (by omega), b1]
  exact ⟨rfl, Nat.and_le_right⟩

set_option maxHeartbeats 1000000 in
theorem ones_go (x : Nat) (w : World) (hx : x < 18446744073709551616) :
    Calls Tryz.prog 143 #[.int .u64 (x : Int)] w fun e w' => e = .returned (.int .i64 ((cnt x.testBit 64 : Nat) : Int)) ∧ w = w' := by
  go_enter Tryz.func143, Tryz.ntmps143
  go_wp2
  go_light
  go_ret
  refine ⟨ret_i ?_, rfl⟩
  obtain ⟨e1, l1⟩ := st1 x hx
  obtain ⟨e2, l2⟩ := st2 (s1 8 x) l1
  obtain ⟨e3, l3⟩ := st3 (s2 8 (s1 8 x)) l2
  have ef : fold3 (s3 8 (s2 8 (s1 8 x))) = cnt x.testBit 64 := by rw [(s123 8 x).1, fold3_cnts, sums_cnt]
  rw [e1, e2, e3]
  generalize s3 8 (s2 8 (s1 8 x)) = z at *
  rw [← ef]
  unfold fold3
  dsimp only
  clear e1 e2 e3 l1 l2 ef
  have q1 : ((z : Int) + (z : Int) / 256) = ((z + z / 256 : Nat) : Int) := by omega
  rw [q1, wrapN _ (by omega)]
  generalize hu : z + z / 256 = u
  have lu : u ≤ 2170205185142300190 := by omega
  have q2 : ((u : Int) + (u : Int) / 65536) = ((u + u / 65536 : Nat) : Int) := by omega
  rw [q2, wrapN _ (by omega)]
  generalize hv : u + u / 65536 = v
  have lv : v ≤ 2180205185142300190 := by omega
  have q3 : ((v : Int) + (v : Int) / 4294967296) = ((v + v / 4294967296 : Nat) : Int) := by omega
  rw [q3, wrapN _ (by omega), show wrap64 ((v + v / 4294967296 : Nat) : Int) = ((v + v / 4294967296 : Nat) : Int) by unfold wrap64; omega]
  exact i64_and127 _ (by omega)

theorem cnt_word (p : Nat → Bool) (i : Nat) : cnt (word p i).testBit 64 = cnt (fun k => p (64 * i + k)) 64 :=
  cnt_congr 64 fun k hk => by rw [testBit_word]; simp [hk]
theorem cnt_words (p : Nat → Bool) : cnt (word p 0).testBit 64 + cnt (word p 1).testBit 64 + cnt (word p 2).testBit 64 + cnt (word p 3).testBit 64 = cnt p 256 := by
  rw [cnt_word, cnt_word, cnt_word, cnt_word, show 256 = 64 + (64 + (64 + 64)) from rfl, cnt_add, cnt_add, cnt_add]
  simp only [Nat.mul_zero, Nat.zero_add, ← Nat.add_assoc, Nat.mul_one, show 64 * 2 = 64 + 64 from rfl, show 64 * 3 = 64 + 64 + 64 from rfl]

set_option maxHeartbeats 1000000 in
theorem count_go (p : Nat → Bool) (w : World) :
    Calls Tryz.prog 102 #[.agg #[.int .u64 ((word (p) 0 : Nat) : Int), .int .u64 ((word (p) 1 : Nat) : Int), .int .u64 ((word (p) 2 : Nat) : Int), .int .u64 ((word (p) 3 : Nat) : Int)]] w fun e w' => e = .returned (.int .i64 ((cnt p 256 : Nat) : Int)) ∧ Below w.heap.size w w' := by
  go_enter Tryz.func102, Tryz.ntmps102
  go_wp2
  refine wp_loop_rounds 5 ?_
  rw [rounds_succ]
  go_wp2_with (go_at_call 143; refine (ones_go _ _ (word_lt _ _)).mono ?_; rintro e w2 ⟨rfl, rfl⟩)
  rw [rounds_succ]
  go_wp2_with (go_at_call 143; refine (ones_go _ _ (word_lt _ _)).mono ?_; rintro e w2 ⟨rfl, rfl⟩)
  rw [rounds_succ]
  go_wp2_with (go_at_call 143; refine (ones_go _ _ (word_lt _ _)).mono ?_; rintro e w2 ⟨rfl, rfl⟩)
  rw [rounds_succ]
  go_wp2_with (go_at_call 143; refine (ones_go _ _ (word_lt _ _)).mono ?_; rintro e w2 ⟨rfl, rfl⟩)
  rw [rounds_succ]
  go_wp2
  go_light
  go_ret
  refine ⟨ret_i ?_, (Below.refl _ _).alloc (Nat.le_refl _) _⟩
  have e := cnt_words p
  have l0 := cnt_le (word p 0).testBit 64
  have l1 := cnt_le (word p 1).testBit 64
  have l2 := cnt_le (word p 2).testBit 64
  have l3 := cnt_le (word p 3).testBit 64
  rw [← e]
  unfold wrap64
  omega

end Go.Proofs.YtfekpkelmliejaaGreatDoor
namespace Go.Proofs.YtfekpkelmliejaaGreatDoor
open Go.RowKit
set_option linter.unusedSimpArgs false
set_option linter.unusedVariables false
set_option maxRecDepth 100000

def topN : Nat := 1099511627776
/-- At A stand numbers. -/
def NumsAt (w : World) (A : Option Addr) (xs : List Nat) : Prop := ∀ i, i < xs.length → ∃ b o, A = some ⟨b, o, none⟩ ∧ w.cell? ⟨b, o + i, none⟩ = some (.int .i64 ((xs.getD i 0 : Nat) : Int))
theorem NumsAt.below {w w' : World} {A : Option Addr} {xs : List Nat} (h : NumsAt w A xs) (hb : Below w.heap.size w w') : NumsAt w' A xs := fun i hi => by
  obtain ⟨b, o, hA, hc⟩ := h i hi
  exact ⟨b, o, hA, (hb.cell (p := ⟨b, _, none⟩) (World.block_lt_of_cell? w _ hc)).trans hc⟩
theorem take_sum (xs : List Nat) (k : Nat) (h : k < xs.length) : (xs.take (k + 1)).sum = (xs.take k).sum + xs.getD k 0 := by
  rw [List.take_succ_eq_append_getElem h, List.sum_append]
  simp [List.getD, h]

theorem add1_go (a b g : Nat) (w : World) (ha : a ≤ topN) (hb : b ≤ topN) (hg : w.cell? ⟨g, 0, none⟩ = some (.int .i64 1099511627776)) :
    Calls Tryz.prog 205 #[.int .i64 (a : Int), .int .i64 (b : Int), .pointer (some ⟨g, 0, none⟩)] w fun e w' => e = .returned (.int .i64 ((min topN (a + b) : Nat) : Int)) ∧ w = w' := by
  unfold topN at *
  rcases Nat.lt_or_ge 1099511627776 (a + b) with h | h
  · have h1 : (1099511627776 : Int) - a < b := by omega
    go_enter Tryz.func205, Tryz.ntmps205
    go_wp2
    go_ret
    exact ⟨ret_i (by omega), rfl⟩
  · have h1 : ¬ (1099511627776 : Int) - a < b := by omega
    go_enter Tryz.func205, Tryz.ntmps205
    go_wp2
    go_ret
    exact ⟨ret_i (by omega), rfl⟩
set_option maxHeartbeats 1000000 in
theorem foldadd_go (A : Option Addr) (cap g : Nat) (xs : List Nat) (w : World) (hA : NumsAt w A xs) (hx : ∀ x ∈ xs, x ≤ topN) (hl : xs.length ≤ 100000) (hg : w.cell? ⟨g, 0, none⟩ = some (.int .i64 1099511627776)) :
    Calls Tryz.prog 204 #[.int .i64 0, .slice A xs.length cap, .func (.func 205) #[] #[.pointer (some ⟨g, 0, none⟩)]] w fun e w' => e = .returned (.int .i64 ((min topN xs.sum : Nat) : Int)) ∧ w = w' := by
  have HA := Lib.hid hA
  have HX := Lib.hid hx
  have HG := Lib.hid hg
  clear hA hx hg
  go_enter Tryz.func204, Tryz.ntmps204
  go_wp2
  go_loop [7, 13] (fun v i => ∃ k : Nat, k ≤ xs.length ∧ i = .int .i64 (k : Int) ∧ v = .int .i64 ((min topN (xs.take k).sum : Nat) : Int)) (fun _ i => xs.length - (intOf i).toNat)
  case atStart => exact ⟨0, Nat.zero_le _, rfl, by simp⟩
  case round =>
    obtain ⟨k, hk, rfl, rfl⟩ := hrel
    by_cases hlt : k < xs.length
    · obtain ⟨b, o, rfl, hc⟩ := HA.out k hlt
      have hts := take_sum xs k hlt
      have hxk : xs.getD k 0 ≤ topN := HX.out _ (by simp [List.getD, hlt])
      have HC := Lib.hid (add1_go (min topN (xs.take k).sum) (xs.getD k 0) g w (Nat.min_le_left _ _) hxk HG.out)
      have HR := Lib.hid (show min topN (min topN (xs.take k).sum + xs.getD k 0) = min topN (xs.take (k + 1)).sum by rw [hts]; omega)
      clear hts
      generalize xs.getD k 0 = x at *
      generalize min topN (xs.take k).sum = v at *
      have hx0 : ¬ ((x : Int) < 0) := by omega
      go_wp2_with fail
      refine HC.out.mono ?_
      rintro e w' ⟨rfl, rfl⟩
      rw [HR.out]
      dsimp only
      go_wp2
      go_round
      case rel => exact ⟨k + 1, by omega, by go_num, rfl⟩
      case measure => simp [intOf]; omega
    · obtain rfl : k = xs.length := by omega
      go_wp2
      go_ret
      exact ⟨rfl, rfl⟩
/-- num.Add at the top. -/
theorem nadd_go (A : Option Addr) (cap : Nat) (xs : List Nat) (w : World) (hA : NumsAt w A xs) (hx : ∀ x ∈ xs, x ≤ topN) (hl : xs.length ≤ 100000) :
    Calls Tryz.prog 160 #[.int .i64 1099511627776, .slice A xs.length cap] w fun e w' => e = .returned (.int .i64 ((min topN xs.sum : Nat) : Int)) ∧ Below w.heap.size w w' := by
  have hb1 : Below w.heap.size w (w.alloc (.cells #[.int .i64 1099511627776] 3)) := (Below.refl _ _).alloc (Nat.le_refl _) _
  have HC := Lib.hid (foldadd_go A cap w.heap.size xs _ (hA.below hb1) hx hl ((Blk.new w 3 #[.int .i64 1099511627776]).cell 0))
  have HB := Lib.hid hb1
  clear hA hx hb1
  go_enter Tryz.func160, Tryz.ntmps160
  go_wp2_with fail
  refine HC.out.mono ?_
  rintro e w' ⟨rfl, rfl⟩
  dsimp only
  go_wp2
  go_ret
  exact ⟨rfl, HB.out⟩
theorem div_lt (x y : Nat) (hy : 0 < y) : (1099511627776 : Int) / (y : Int) < (x : Int) ↔ 1099511627776 < x * y := by
  have e : (1099511627776 : Int) / (y : Int) = ((1099511627776 / y : Nat) : Int) := rfl
  rw [e, Int.ofNat_lt, Nat.div_lt_iff_lt_mul hy]
set_option maxHeartbeats 1000000 in
theorem mul1_ok (a b be g : Nat) (w : World) (ha : a ≤ topN) (hb : b ≤ topN) (hab : a * b ≤ topN) (hbe : w.cell? ⟨be, 0, none⟩ = some (.bool false)) (hg : w.cell? ⟨g, 0, none⟩ = some (.int .i64 1099511627776)) :
    Calls Tryz.prog 261 #[.int .i64 (a : Int), .int .i64 (b : Int), .pointer (some ⟨be, 0, none⟩), .pointer (some ⟨g, 0, none⟩)] w fun e w' => e = .returned (.int .i64 ((a * b : Nat) : Int)) ∧ w = w' := by
  unfold topN at *
  rcases Nat.eq_zero_or_pos a with rfl | h0
  · rw [Nat.zero_mul]
    go_enter Tryz.func261, Tryz.ntmps261
    go_wp2
    go_ret
    exact ⟨rfl, rfl⟩
  rcases Nat.eq_zero_or_pos b with rfl | h1
  · rw [Nat.mul_zero]
    have hz : ((a : Int) == 0) = false := by rw [beq_eq_false_iff_ne]; omega
    go_enter Tryz.func261, Tryz.ntmps261
    go_wp2
    go_ret
    exact ⟨rfl, rfl⟩
  have hz : ((a : Int) == 0) = false := by rw [beq_eq_false_iff_ne]; omega
  have hz2 : ((b : Int) == 0) = false := by rw [beq_eq_false_iff_ne]; omega
  have hd : ¬ ((1099511627776 : Int) / (b : Int) < (a : Int)) := by rw [div_lt a b h1]; omega
  have HM := Lib.hid (show ((a * b : Nat) : Int) = (a : Int) * (b : Int) by simp)
  have hm1 : (a : Int) * (b : Int) ≤ 1099511627776 := by rw [← HM.out]; omega
  have hm0 : 0 ≤ (a : Int) * (b : Int) := by rw [← HM.out]; omega
  have hw : IntKind.i64.wrap ((a : Int) * (b : Int)) = (a : Int) * (b : Int) := by rw [IntKind.wrap_i64]; omega
  clear hab
  go_enter Tryz.func261, Tryz.ntmps261
  go_wp2
  go_ret
  exact ⟨ret_i HM.out.symm, rfl⟩
set_option maxHeartbeats 1000000 in
theorem mul1_big (a b be g : Nat) (w : World) (ha : a ≤ topN) (hb : b ≤ topN) (hab : topN < a * b) (hbe : w.cell? ⟨be, 0, none⟩ = some (.bool false)) (hfe : w.frozen? ⟨be, 0, none⟩ = false) (hg : w.cell? ⟨g, 0, none⟩ = some (.int .i64 1099511627776)) :
    Calls Tryz.prog 261 #[.int .i64 (a : Int), .int .i64 (b : Int), .pointer (some ⟨be, 0, none⟩), .pointer (some ⟨g, 0, none⟩)] w fun e w' => e = .returned (.int .i64 (a : Int)) ∧ w.setCell ⟨be, 0, none⟩ (.bool true) = w' := by
  unfold topN at *
  have h0 : 0 < a := by
    rcases Nat.eq_zero_or_pos a with rfl | h
    · simp at hab
    · exact h
  have h1 : 0 < b := by
    rcases Nat.eq_zero_or_pos b with rfl | h
    · simp at hab
    · exact h
  have hz : ((a : Int) == 0) = false := by rw [beq_eq_false_iff_ne]; omega
  have hz2 : ((b : Int) == 0) = false := by rw [beq_eq_false_iff_ne]; omega
  have hd : (1099511627776 : Int) / (b : Int) < (a : Int) := by rw [div_lt a b h1]; omega
  clear hab
  go_enter Tryz.func261, Tryz.ntmps261
  go_wp2
  go_ret
  exact ⟨rfl, rfl⟩
set_option maxHeartbeats 2000000 in
theorem foldmul_go (A : Option Addr) (cap be g x y : Nat) (w : World) (hA : NumsAt w A [x, y]) (hx : x ≤ topN) (hy : y ≤ topN) (hbe : w.cell? ⟨be, 0, none⟩ = some (.bool false)) (hfe : w.frozen? ⟨be, 0, none⟩ = false) (hg : w.cell? ⟨g, 0, none⟩ = some (.int .i64 1099511627776)) :
    Calls Tryz.prog 204 #[.int .i64 1, .slice A 2 cap, .func (.func 261) #[] #[.pointer (some ⟨be, 0, none⟩), .pointer (some ⟨g, 0, none⟩)]] w fun e w' =>
      (x * y ≤ topN ∧ e = .returned (.int .i64 ((x * y : Nat) : Int)) ∧ w = w') ∨ (topN < x * y ∧ e = .returned (.int .i64 (x : Int)) ∧ w.setCell ⟨be, 0, none⟩ (.bool true) = w') := by
  obtain ⟨b, o, rfl, c0⟩ := hA 0 (by simp)
  obtain ⟨_, _, e0, c1⟩ := hA 1 (by simp)
  cases e0
  have c0 : w.cell? ⟨b, o, none⟩ = some (.int .i64 (x : Int)) := c0
  have c1 : w.cell? ⟨b, o + 1, none⟩ = some (.int .i64 (y : Int)) := c1
  have H1 := Lib.hid (mul1_ok 1 x be g w (by decide) hx (by omega) hbe hg)
  rw [Nat.one_mul] at H1
  have hx0 : ¬ ((x : Int) < 0) := by omega
  have hy0 : ¬ ((y : Int) < 0) := by omega
  rcases Nat.lt_or_ge topN (x * y) with h | h
  · have H2 := Lib.hid (mul1_big x y be g w hx hy h hbe hfe hg)
    have HH := Lib.hid h
    clear hA h hbe hfe hg
    go_enter Tryz.func204, Tryz.ntmps204
    go_wp2
    refine wp_loop_rounds 3 ?_
    rw [rounds_succ]
    go_wp2_with fail
    refine H1.out.mono ?_
    rintro e w' ⟨rfl, rfl⟩
    dsimp only
    go_wp2
    rw [rounds_succ]
    go_wp2_with fail
    refine H2.out.mono ?_
    rintro e w' ⟨rfl, rfl⟩
    dsimp only
    go_wp2
    rw [rounds_succ]
    go_wp2
    go_ret
    exact .inr ⟨HH.out, rfl, rfl⟩
  · have H2 := Lib.hid (mul1_ok x y be g w hx hy h hbe hg)
    have HH := Lib.hid h
    clear hA h hbe hfe hg
    go_enter Tryz.func204, Tryz.ntmps204
    go_wp2
    refine wp_loop_rounds 3 ?_
    rw [rounds_succ]
    go_wp2_with fail
    refine H1.out.mono ?_
    rintro e w' ⟨rfl, rfl⟩
    dsimp only
    go_wp2
    rw [rounds_succ]
    go_wp2_with fail
    refine H2.out.mono ?_
    rintro e w' ⟨rfl, rfl⟩
    dsimp only
    go_wp2
    rw [rounds_succ]
    go_wp2
    go_ret
    exact .inl ⟨HH.out, rfl, rfl⟩

set_option maxHeartbeats 1000000 in
/-- num.Mul of two at the top. -/
theorem nmul_go (A : Option Addr) (cap x y : Nat) (w : World) (hA : NumsAt w A [x, y]) (hx : x ≤ topN) (hy : y ≤ topN) :
    Calls Tryz.prog 235 #[.int .i64 1099511627776, .slice A 2 cap] w fun e w' => e = .returned (.int .i64 ((min topN (x * y) : Nat) : Int)) ∧ Below w.heap.size w w' := by
  have hb2 : Below w.heap.size w ((w.alloc (.cells #[.int .i64 1099511627776] 3)).alloc (.cells #[.bool false] 4)) := ((Below.refl _ _).alloc (Nat.le_refl _) _).alloc (by simp) _
  have hg2 : Blk ((w.alloc (.cells #[.int .i64 1099511627776] 3)).alloc (.cells #[.bool false] 4)) w.heap.size 3 #[.int .i64 1099511627776] := (Blk.new _ _ _).alloc _
  have he2 : Blk ((w.alloc (.cells #[.int .i64 1099511627776] 3)).alloc (.cells #[.bool false] 4)) (w.heap.size + 1) 4 #[.bool false] := Blk.new_at (by simp)
  have HC := Lib.hid (foldmul_go A cap (w.heap.size + 1) w.heap.size x y _ (hA.below hb2) hx hy (he2.cell 0) (he2.frozen 0) (hg2.cell 0))
  have HX := Lib.hid (show _ ∧ _ ∧ _ from ⟨hb2, hg2, he2⟩)
  have Hxy := Lib.hid (show x ≤ topN from hx)
  clear hA hx hy hb2 hg2 he2
  go_enter Tryz.func235, Tryz.ntmps235
  go_wp2_with fail
  refine HC.out.mono ?_
  rintro e w' (⟨h, rfl, rfl⟩ | ⟨h, rfl, rfl⟩)
  · have hxy := h
    obtain ⟨z, hzd⟩ : ∃ z, x * y = z := ⟨_, rfl⟩
    have HV := Lib.hid (show min topN (x * y) = z by omega)
    rw [hzd] at hxy ⊢
    unfold topN at hxy
    clear h hzd
    dsimp only
    have hg := HX.out.2.1.cell 0
    have he := HX.out.2.2.cell 0
    rcases Nat.eq_zero_or_pos z with rfl | hz
    · go_wp2
      go_ret
      exact ⟨ret_i (by rw [HV.out]; rfl), HX.out.1⟩
    · have hz1 : ((z : Int) != 0) = true := by rw [bne_iff_ne]; omega
      go_wp2
      go_ret
      exact ⟨ret_i (by rw [HV.out]), HX.out.1⟩
  · have HV := Lib.hid (show min topN (x * y) = topN by omega)
    have hx0 : 0 < x := by
      rcases Nat.eq_zero_or_pos x with rfl | h0
      · rw [Nat.zero_mul] at h; exact absurd h (by decide)
      · exact h0
    have hz1 : ((x : Int) != 0) = true := by rw [bne_iff_ne]; omega
    clear h
    have hg := (HX.out.2.1.far (p := ⟨w.heap.size + 1, 0, none⟩) (by simp) (.bool true)).cell 0
    have he := (HX.out.2.2.set_ 0 (.bool true)).cell 0
    dsimp only
    go_wp2
    go_ret
    exact ⟨ret_i (by rw [HV.out]; rfl), ((Below.refl _ _).alloc (Nat.le_refl _) _).alloc (by simp) _⟩
end Go.Proofs.YtfekpkelmliejaaGreatDoor
namespace Go.Proofs.YtfekpkelmliejaaGreatDoor
open Go.RowKit Go.Shelf
set_option linter.unusedSimpArgs false
set_option linter.unusedVariables false
set_option maxRecDepth 100000
attribute [local go_sem] Oper.semAt_some

/-! Where no depth is asked the figures are all one (turned from the worked proof of a recursive iterator). -/
theorem room_of_none {F : Fence} (hd : F.depth = none) (k : Nat) : F.room k := fun d h => by rw [hd] at h; cases h
theorem roundIn_any {F : Fence} (hd : F.depth = none) {m m' : Nat} {P : Program} {l : Nat} {f : FuncId} {tmps : Array Value} {assign body : Code} {w : World} {R : Ending → World → Prop}
    (h : RoundIn F m P l f tmps assign body w R) : RoundIn F m' P l f tmps assign body w R := ⟨h.1, fun c cs _ => h.2 c cs (room_of_none hd _)⟩
theorem yieldAt_any {F : Fence} (hd : F.depth = none) {m : Nat} (m' : Nat) {P : Program} {l : Nat} {args : Array Value} {W : World} {R : Ending → World → Prop} (h : YieldAt F m P l args W R) : YieldAt F m' P l args W R := by
  obtain ⟨fn, tmps, assign, body, hy, hR⟩ := h
  exact ⟨fn, tmps, assign, body, hy, roundIn_any hd hR⟩

/-- A node that may be, with the slice of its kids. -/
abbrev Item := { q : Nd × Option Addr × Nat // Alone q.1 }
/-- All cells but those of one block lie as they lay. -/
def Kc (Bn : Nat) (A B : World) : Prop := A.heap.size ≤ B.heap.size ∧ ∀ (p : Addr) (v : Value), p.block ≠ Bn → A.cell? p = some v → B.cell? p = some v
theorem Kc.refl (Bn : Nat) (A : World) : Kc Bn A A := ⟨Nat.le_refl _, fun _ _ _ h => h⟩
theorem Kc.trans {Bn : Nat} {A B C : World} (h : Kc Bn A B) (k : Kc Bn B C) : Kc Bn A C := ⟨Nat.le_trans h.1 k.1, fun p v hp hc => k.2 p v hp (h.2 p v hp hc)⟩
theorem Kc.below {Bn : Nat} {A B : World} (h : Below A.heap.size A B) : Kc Bn A B := ⟨h.size, fun p v _ hc => (h.cell (World.block_lt_of_cell? A _ hc)).trans hc⟩
theorem Kc.trees {Bn : Nat} {w w' : World} (hk : Kc Bn w w') {P : Nat → Prop} (hP : ∀ b, P b → b ≠ Bn) : ∀ {F : Trees} {A : Option Addr}, TreesAt w P F A → TreesAt w' P F A
  | .nil, _, _ => trivial
  | .cons k s ks lo hi r, A, ⟨b, o, B, cap, hA, hb, hc, ⟨n0, n1, n2, n3, n4, n5, n6, n7⟩, h1, h2⟩ =>
    ⟨b, o, B, cap, hA, hb, hc, ⟨hk.2 _ _ (hP b hb) n0, hk.2 _ _ (hP b hb) n1, hk.2 _ _ (hP b hb) n2, hk.2 _ _ (hP b hb) n3, hk.2 _ _ (hP b hb) n4, hk.2 _ _ (hP b hb) n5, hk.2 _ _ (hP b hb) n6, hk.2 _ _ (hP b hb) n7⟩, Kc.trees hk hP h1, Kc.trees hk hP h2⟩

theorem Sound.get : ∀ {F : Trees} {i : Nat} {z : Nd}, Sound F → F.list[i]? = some z → SoundN z
  | .nil, i, z, _, h => by simp [Trees.list] at h
  | .cons k s ks lo hi r, 0, z, hs, h => by
    simp [Trees.list] at h
    subst h
    exact ⟨hs.1, hs.2.1⟩
  | .cons k s ks lo hi r, i + 1, z, hs, h => Sound.get hs.2.2 (by simpa [Trees.list] using h)
/-- How many nodes the first k trees have. -/
def Trees.first : Trees → Nat → Nat
  | .nil, _ => 0
  | .cons _ _ _ _ _ _, 0 => 0
  | .cons _ _ ks _ _ r, k + 1 => 1 + ks.size + r.first k
section
variable {l Bn N : Nat} {P : Nat → Prop} {J Jx : List Item → World → Prop}
end

set_option maxHeartbeats 1000000 in
/-- tree.nodes: the tree is boxed; the function value holds the box. -/
theorem nodes_go (x : Nd) (B : Option Addr) (cap : Nat) (w : World) :
    Calls Tryz.prog 87 #[ndV x B cap] w fun e w' => e = .returned (.func (.func 128) #[] #[.pointer (some ⟨w.heap.size, 0, none⟩)]) ∧ w' = w.alloc (.cells (ndA x B cap) 28) := by
  unfold ndV
  go_enter Tryz.func87, Tryz.ntmps87
  go_wp2
  go_light
  go_ret
  exact ⟨rfl, rfl⟩
end Go.Proofs.YtfekpkelmliejaaGreatDoor
namespace Go.Proofs.YtfekpkelmliejaaGreatDoor
open Go.RowKit Go.Shelf
set_option linter.unusedSimpArgs false
set_option linter.unusedVariables false
set_option maxRecDepth 100000
attribute [local go_sem] Oper.semAt_some

/-- A node, with the slice of its kids. -/
abbrev ItemX := Nd × Option Addr × Nat
def itemX (q : ItemX) : Array Value := #[ndV q.1 q.2.1 q.2.2]
/-- All nodes, each ahead of its kids. -/
def Trees.nodes : Trees → List Nd
  | .nil => []
  | .cons k s ks lo hi r => ⟨k, s, ks, lo, hi⟩ :: (ks.nodes ++ r.nodes)
def Nd.nodes (x : Nd) : List Nd := x :: x.kids.nodes
theorem Trees.nodes_len : ∀ F : Trees, F.nodes.length = F.size
  | .nil => rfl
  | .cons k s ks lo hi r => by
    have h1 := Trees.nodes_len ks
    have h2 := Trees.nodes_len r
    simp [Trees.nodes, Trees.size, h1, h2]
    omega
theorem Nd.nodes_len (x : Nd) : x.nodes.length = x.size := by
  unfold Nd.nodes Nd.size
  rw [List.length_cons, Trees.nodes_len]
  omega
/-- The nodes of the first trees. -/
def Trees.upto : Trees → Nat → List Nd
  | .nil, _ => []
  | .cons _ _ _ _ _ _, 0 => []
  | .cons k s ks lo hi r, i + 1 => ⟨k, s, ks, lo, hi⟩ :: (ks.nodes ++ r.upto i)
theorem Trees.upto_zero (F : Trees) : F.upto 0 = [] := by cases F <;> rfl
theorem Trees.upto_succ : ∀ {F : Trees} {i : Nat} {z : Nd}, F.list[i]? = some z → F.upto (i + 1) = F.upto i ++ z.nodes
  | .nil, i, z, h => by simp [Trees.list] at h
  | .cons k s ks lo hi r, 0, z, h => by
    simp [Trees.list] at h
    subst h
    simp [Trees.upto, Trees.upto_zero, Nd.nodes]
  | .cons k s ks lo hi r, i + 1, z, h => by
    have := Trees.upto_succ (F := r) (i := i) (by simpa [Trees.list] using h)
    simp only [Trees.upto] at this ⊢
    rw [this]
    simp
theorem Trees.upto_prefix : ∀ (F : Trees) (i : Nat), F.upto i <+: F.nodes
  | .nil, i => List.prefix_refl _
  | .cons k s ks lo hi r, 0 => List.nil_prefix
  | .cons k s ks lo hi r, i + 1 => by
    have := Trees.upto_prefix r i
    obtain ⟨t, ht⟩ := this
    exact ⟨t, by simp [Trees.upto, Trees.nodes, ← ht]⟩
theorem Trees.upto_all : ∀ (F : Trees), F.upto F.len = F.nodes
  | .nil => rfl
  | .cons k s ks lo hi r => by
    have := Trees.upto_all r
    simp [Trees.upto, Trees.nodes, Trees.len, this]

section
variable {l Bn N : Nat} {P : Nat → Prop} {J Jx : List ItemX → World → Prop}
def WalkX (l Bn N : Nat) (P : Nat → Prop) (J Jx : List ItemX → World → Prop) (n : Nat) : Prop := ∀ (m : Nat) (x : Nd) (B : Option Addr) (cap : Nat) (pre : List ItemX) (W : World), x.size ≤ n → Bn < W.heap.size → TreesAt W P x.kids B → J pre W → pre.length + x.size ≤ N →
  CallsIn Fence.wide m Tryz.prog 129 #[ndV x B cap, .func (.yield l) #[] #[]] W fun e W' =>
    (e = .returned (.bool true) ∧ (∃ ys : List ItemX, ys.map (·.1) = pre.map (·.1) ++ x.nodes ∧ J ys W') ∧ Kc Bn W W') ∨ (e = .returned (.bool false) ∧ ∃ q : List ItemX, q.map (·.1) <+: pre.map (·.1) ++ x.nodes ∧ Jx q W')
set_option maxHeartbeats 2000000 in
theorem walkx_step (hP : ∀ b, P b → b ≠ Bn) (hN : N ≤ 4611686018427387903) (hJ : ∀ s W o, J s W → J s (World.alloc W o))
    (hY : ∀ m pre (x : ItemX) W, J pre W → pre.length < N → YieldAt Fence.wide m Tryz.prog l (itemX x) W fun e W' =>
      (e = .returned (.bool true) ∧ J (pre ++ [x]) W' ∧ Kc Bn W W') ∨ (e = .returned (.bool false) ∧ Jx (pre ++ [x]) W'))
    {n : Nat} (ih : WalkX l Bn N P J Jx n) : WalkX l Bn N P J Jx (n + 1) := by
  intro m x B cap pre W hsz hBn ht h0 hlen
  have hx1 : 1 ≤ x.size := by unfold Nd.size; omega
  have hxs : x.size = 1 + x.kids.size := rfl
  have hk0 := Trees.len_size x.kids
  have hlk : x.kids.len ≤ 4611686018427387903 := by omega
  have HA := Lib.hid (show Kc Bn W (W.alloc (.cells (ndA x B cap) 28)) from Kc.below ((Below.refl _ _).alloc (Nat.le_refl _) _))
  have HK := Lib.hid (Blk.new W 28 (ndA x B cap))
  obtain ⟨fn, tmps, assign, body, hy, hR⟩ := hY (m - 1) pre (x, B, cap) (W.alloc (.cells (ndA x B cap) 28)) (hJ _ _ _ h0) (by omega)
  have HR := Lib.hid hR
  have HT := Lib.hid ht
  have hne : W.heap.size ≠ Bn := by omega
  clear hR ht
  unfold itemX at hy
  dsimp only at hy
  unfold ndV ndA at hy
  unfold ndV
  refine callsIn_of_wp Tryz.func129 rfl trivial ?_ rfl
  simp only [Tryz.ntmps129, List.size_toArray, List.length_cons, List.length_nil, Nat.reduceAdd, Nat.reduceSub, Array.replicate_succ, Array.replicate_zero, List.push_toArray, List.append_toArray, List.nil_append, List.cons_append]
  have hdd : ∀ k : Nat, (Fence.wide.depth.isSome = true → 1 ≤ k) := fun k h => by cases h
  gi_wp2
  refine ⟨hdd _, HR.out.mono ?_⟩
  rintro e W3 (⟨rfl, hJ3, hk3⟩ | ⟨rfl, hJx3⟩)
  · have hK3 := HA.out.trans hk3
    have c5 : W3.cell? ⟨W.heap.size, 5, none⟩ = some (.slice B x.kids.len cap) := hk3.2 ⟨W.heap.size, 5, none⟩ _ hne (HK.out.cell 5)
    have HJ3 := Lib.hid hJ3
    have HK3 := Lib.hid hK3
    clear hJ3 hk3 hK3 HR hy HA HK
    gi_wp2
    gi_loopw [14] (fun v wr => ∃ k : Nat, v = .int .i64 (k : Int) ∧ k ≤ x.kids.len ∧ Hid ((∃ ys : List ItemX, ys.map (·.1) = pre.map (·.1) ++ x :: x.kids.upto k ∧ J ys wr) ∧ Kc Bn W wr)) (fun v _ => x.kids.len - (intOf v).toNat)
    case atStart => exact ⟨0, rfl, Nat.zero_le _, Lib.hid ⟨⟨_, by rw [Trees.upto_zero]; simp, HJ3.out⟩, HK3.out⟩⟩
    case round =>
      obtain ⟨k, rfl, hk, HI⟩ := hrel
      clear HJ3 HK3
      by_cases hlt : k < x.kids.len
      · obtain ⟨z, hz⟩ : ∃ z, x.kids.list[k]? = some z := ⟨_, List.getElem?_eq_getElem (by rw [Trees.len_list]; exact hlt)⟩
        have hzs := Trees.size_get x.kids k z hz
        obtain ⟨⟨ys, hys, hJy⟩, hKy⟩ := HI.out
        obtain ⟨b, o, C, capc, rfl, _, _, ⟨c0, c1, c2, c3, c4, c5, c6, c7⟩, hkz⟩ := (Kc.trees hKy hP HT.out).get hz
        have hf1 := Trees.upto_succ hz
        have hf2 := (Trees.upto_prefix x.kids (k + 1)).length_le
        rw [Trees.nodes_len, hf1, List.length_append, Nd.nodes_len] at hf2
        have hyl := congrArg List.length hys
        simp only [List.length_map, List.length_append, List.length_cons] at hyl
        have hdl : (k : Int) < (x.kids.len : Int) := by omega
        have hkA : Kc Bn wr (wr.alloc (.cells (ndA z C capc) 28)) := Kc.below ((Below.refl _ _).alloc (Nat.le_refl _) _)
        have HC := Lib.hid (ih (m - 1) z C capc ys (wr.alloc (.cells (ndA z C capc) 28)) (by omega) (by have := hKy.1; simp; omega) (Kc.trees hkA hP hkz) (hJ _ _ _ hJy) (by omega))
        have HKy := Lib.hid (hKy.trans hkA)
        have HF := Lib.hid (show ys.map (·.1) ++ z.nodes = pre.map (·.1) ++ x :: x.kids.upto (k + 1) by rw [hys, hf1]; simp)
        clear hyl
        clear hz hzs hys hJy hKy hkz hf1 hf2 hkA HI
        unfold ndV at HC
        gi_wp2
        refine ⟨trivial, hdd _, HC.out.mono ?_⟩
        clear HC
        rintro e W4 (⟨rfl, ⟨ys4, hl4, hJ4⟩, hk4⟩ | ⟨rfl, q, hqp, hq⟩)
        · have HI4 := Lib.hid (show (∃ ys : List ItemX, ys.map (·.1) = pre.map (·.1) ++ x :: x.kids.upto (k + 1) ∧ J ys W4) ∧ Kc Bn W W4 from ⟨⟨ys4, hl4.trans HF.out, hJ4⟩, HKy.out.trans hk4⟩)
          clear hl4 hJ4 hk4 HF HKy c0 c1 c2 c3 c4 c5 c6 c7
          dsimp only
          gi_wp2
          go_roundw
          case rel => exact ⟨k + 1, by go_num, by omega, HI4⟩
          case measure => simp [intOf]; omega
        · have HQ := Lib.hid (show q.map (·.1) <+: pre.map (·.1) ++ x.nodes ∧ Jx q W4 from ⟨by
            rw [HF.out] at hqp
            exact hqp.trans (by unfold Nd.nodes; exact (List.prefix_append_right_inj _).2 (List.cons_prefix_cons.2 ⟨rfl, Trees.upto_prefix _ _⟩)), hq⟩)
          clear hq hqp HF HKy c0 c1 c2 c3 c4 c5 c6 c7
          dsimp only
          gi_wp2
          go_ret
          exact .inr ⟨rfl, q, HQ.out⟩
      · have hdl : ¬ (k : Int) < (x.kids.len : Int) := by omega
        obtain rfl : k = x.kids.len := by omega
        obtain ⟨⟨ys, hys, hJy⟩, hKy⟩ := HI.out
        have HY := Lib.hid (show (∃ ys : List ItemX, ys.map (·.1) = pre.map (·.1) ++ x.nodes ∧ J ys wr) ∧ Kc Bn W wr from ⟨⟨ys, by rw [hys, Trees.upto_all]; rfl, hJy⟩, hKy⟩)
        clear hys hJy hKy HI
        gi_wp2
        go_ret
        exact .inl ⟨rfl, HY.out.1, HY.out.2⟩
  · gi_wp2
    go_ret
    exact .inr ⟨rfl, _, by unfold Nd.nodes; simp, hJx3⟩
theorem walkx_all (hP : ∀ b, P b → b ≠ Bn) (hN : N ≤ 4611686018427387903) (hJ : ∀ s W o, J s W → J s (World.alloc W o))
    (hY : ∀ m pre (x : ItemX) W, J pre W → pre.length < N → YieldAt Fence.wide m Tryz.prog l (itemX x) W fun e W' =>
      (e = .returned (.bool true) ∧ J (pre ++ [x]) W' ∧ Kc Bn W W') ∨ (e = .returned (.bool false) ∧ Jx (pre ++ [x]) W')) : ∀ n, WalkX l Bn N P J Jx n
  | 0 => fun m x B cap pre W h => by unfold Nd.size at h; omega
  | n + 1 => walkx_step hP hN hJ hY (walkx_all hP hN hJ hY n)
end

set_option maxHeartbeats 1000000 in
theorem nodesx1_in (n : Nat) (x : Nd) (B : Option Addr) (cap : Nat) (l Bs Bn : Nat) (P : Nat → Prop) (hP : ∀ b, P b → b ≠ Bn) (hsz : x.size ≤ 4611686018427387903) (J Jx : List ItemX → World → Prop) (hJ : ∀ s W o, J s W → J s (World.alloc W o))
    (hY : ∀ pre (y : ItemX) W, J pre W → pre.length < x.size → YieldAt Fence.wide (n - 1) Tryz.prog l (itemX y) W fun e W' =>
      (e = .returned (.bool true) ∧ J (pre ++ [y]) W' ∧ Kc Bn W W') ∨ (e = .returned (.bool false) ∧ Jx (pre ++ [y]) W'))
    (W : World) (hb : Blk W Bs 28 (ndA x B cap)) (hBn : Bn < W.heap.size) (ht : TreesAt W P x.kids B) (h0 : J [] W) :
    CallsIn Fence.wide n Tryz.prog 128 #[.func (.yield l) #[] #[], .pointer (some ⟨Bs, 0, none⟩)] W fun e W' => (∃ v, e = .returned v) ∧
      ((∃ ys : List ItemX, ys.map (·.1) = x.nodes ∧ J ys W') ∨ (∃ pre : List ItemX, pre.map (·.1) <+: x.nodes ∧ Jx pre W')) := by
  have HC := Lib.hid (walkx_all (N := x.size) hP hsz hJ (fun m pre x W hj hl => yieldAt_any rfl m (hY pre x W hj hl)) x.size (n - 1) x B cap [] W (Nat.le_refl _) hBn ht h0 (by simp))
  have c0 : W.cell? ⟨Bs, 0, none⟩ = some (.int .i64 x.kind) := hb.cell 0
  have c1 : W.cell? ⟨Bs, 1, none⟩ = some (.int .u64 ((word x.set.testBit 0 : Nat) : Int)) := hb.cell 1
  have c2 : W.cell? ⟨Bs, 2, none⟩ = some (.int .u64 ((word x.set.testBit 1 : Nat) : Int)) := hb.cell 2
  have c3 : W.cell? ⟨Bs, 3, none⟩ = some (.int .u64 ((word x.set.testBit 2 : Nat) : Int)) := hb.cell 3
  have c4 : W.cell? ⟨Bs, 4, none⟩ = some (.int .u64 ((word x.set.testBit 3 : Nat) : Int)) := hb.cell 4
  have c5 : W.cell? ⟨Bs, 5, none⟩ = some (.slice B x.kids.len cap) := hb.cell 5
  have c6 : W.cell? ⟨Bs, 6, none⟩ = some (.int .i64 x.lo) := hb.cell 6
  have c7 : W.cell? ⟨Bs, 7, none⟩ = some (.int .i64 x.hi) := hb.cell 7
  have hdd : ∀ k : Nat, (Fence.wide.depth.isSome = true → 1 ≤ k) := fun k h => by cases h
  clear hb ht h0 hY hsz
  refine callsIn_of_wp Tryz.func128 rfl trivial ?_ rfl
  simp only [Tryz.ntmps128, List.size_toArray, List.length_cons, List.length_nil, Nat.reduceAdd, Nat.reduceSub, Array.replicate_succ, Array.replicate_zero, List.push_toArray, List.append_toArray, List.nil_append, List.cons_append]
  gi_wp2
  refine ⟨trivial, hdd _, HC.out.mono ?_⟩
  rintro e W1 (⟨rfl, ⟨ys, hys, hJ1⟩, _⟩ | ⟨rfl, q, hqp, hq⟩)
  · dsimp only
    gi_wp2
    go_end0
    exact ⟨⟨_, rfl⟩, .inl ⟨ys, by simpa using hys, hJ1⟩⟩
  · dsimp only
    gi_wp2
    go_end0
    exact ⟨⟨_, rfl⟩, .inr ⟨q, by simpa using hqp, hq⟩⟩
/-- What tree.nodes hands back hands out all nodes, each ahead of its kids. -/
theorem nodesx_stops (n : Nat) (x : Nd) (B : Option Addr) (cap : Nat) (Bs Bn : Nat) (P : Nat → Prop) (w : World) (hP : ∀ b, P b → b ≠ Bn) (hsz : x.size ≤ 4611686018427387903) (hb : Blk w Bs 28 (ndA x B cap)) (hBn : Bn < w.heap.size) (ht : TreesAt w P x.kids B) :
    SeqStopsK Fence.wide n Tryz.prog 128 #[.pointer (some ⟨Bs, 0, none⟩)] itemX (Kc Bn) (fun ys => ys.map (·.1) = x.nodes) (fun pre => pre.map (·.1) <+: x.nodes) x.size w := fun l J Jx W hW hJ _ hY h0 =>
  nodesx1_in n x B cap l Bs Bn P hP hsz J Jx (fun s W o h => hJ s W _ none h (World.grownBy_alloc W o none) (fun r e => by cases e)) hY W (hb.below hW hb.lt) (by have := hW.size; omega) (ht.below hW) h0

end Go.Proofs.YtfekpkelmliejaaGreatDoor
namespace Go.Proofs.YtfekpkelmliejaaGreatDoor
open Go.RowKit Go.Shelf
set_option linter.unusedSimpArgs false
set_option linter.unusedVariables false
set_option maxRecDepth 100000
attribute [local go_sem] Oper.semAt_some

theorem Kc.put {Bn : Nat} (W : World) (l : Nat) (o o' : Obj) (h : W.heap[l]? = some o) (hc : o.isCells = false) : Kc Bn W (W.putObj l o') :=
  ⟨(grownBy_putObj' W l o').size, fun p v _ hv => cell_kept hv (grownBy_putObj' W l o') (fun r e => by cases e; exact ⟨o, h, hc⟩)⟩
theorem Kc.setCell {Bn : Nat} (W : World) (v : Value) : Kc Bn W (W.setCell ⟨Bn, 0, none⟩ v) :=
  ⟨by simp, fun p u hp hu => (World.cell?_of_block (Below.heap_setCell W ⟨Bn, 0, none⟩ v p.block hp)).trans hu⟩
theorem keepsFrom_below {B : Nat} {W W' : World} (h : Below W.heap.size W W') : KeepsFrom B W W' :=
  ⟨h.size, fun k o _ hk _ => (h.block k (Array.getElem?_eq_some_iff.1 hk).1).trans hk⟩

theorem ret_boolc {fn : Func} {t : Tmp} (h : fn.results = #[.cell t 4]) {tmps : Array Value} {w : World} {g : Nat} {b : Bool}
    (hp : tmps.getD t undef = .pointer (some ⟨g, 0, none⟩)) (hc : w.cell? ⟨g, 0, none⟩ = some (.bool b)) :
    (results fn tmps).run Tryz.prog w = .ok (.bool b) w := by
  have hp' : tmps[t]?.getD undef = .pointer (some ⟨g, 0, none⟩) := by simpa using hp
  simp [results, h, hp', asAddr, go_sem, hc]
end Go.Proofs.YtfekpkelmliejaaGreatDoor
namespace Go.Proofs.YtfekpkelmliejaaGreatDoor
open Go.RowKit Go.Shelf
set_option linter.unusedSimpArgs false
set_option linter.unusedVariables false
set_option maxRecDepth 100000
attribute [local go_sem] Oper.semAt_some

/-- May a node be, without its kids? -/
def aloneN (y : Nd) : Bool := aloneV y.kind (word y.set.testBit 0 : Nat) (word y.set.testBit 1 : Nat) (word y.set.testBit 2 : Nat) (word y.set.testBit 3 : Nat) y.kids.len y.lo y.hi
/-- May a tree be? -/
def rightT (x : Nd) : Bool := decide (x.nodes.length ≤ 4096) && x.nodes.all aloneN
theorem aloneN_go (y : Nd) (B : Option Addr) (cap : Nat) (w : World) :
    Calls Tryz.prog 88 #[ndV y B cap] w fun e w' => e = .returned (.bool (aloneN y)) ∧ Below w.heap.size w w' :=
  alone_any _ _ _ _ _ _ _ B _ cap w
theorem rightT_yes {x : Nd} {ys : List ItemX} (h : ys.map (·.1) = x.nodes) (h1 : ys.length ≤ 4096) (h2 : ∀ q ∈ ys, aloneN q.1 = true) : rightT x = true := by
  unfold rightT
  rw [← h, Bool.and_eq_true, decide_eq_true_eq, List.all_eq_true]
  refine ⟨by simpa using h1, fun y hy => ?_⟩
  obtain ⟨q, hq, rfl⟩ := List.mem_map.1 hy
  exact h2 q hq
theorem rightT_no {x : Nd} {ys : List ItemX} (h : ys.map (·.1) <+: x.nodes) (h1 : 4096 < ys.length ∨ ∃ q ∈ ys, aloneN q.1 = false) : rightT x = false := by
  unfold rightT
  rcases h1 with h1 | ⟨q, hq, hf⟩
  · have := h.length_le
    rw [List.length_map] at this
    rw [Bool.and_eq_false_iff]
    exact .inl (by rw [decide_eq_false_iff_not]; omega)
  · rw [Bool.and_eq_false_iff]
    refine .inr ?_
    cases ha : x.nodes.all aloneN
    · rfl
    · have := List.all_eq_true.1 ha q.1 (h.subset (List.mem_map.2 ⟨q, hq, rfl⟩))
      rw [hf] at this
      cases this

set_option maxHeartbeats 4000000 in
theorem trightx_in (n : Nat) (hn : 3 ≤ n) (x : Nd) (B : Option Addr) (cap : Nat) (w : World) (hsz : x.size ≤ 4611686018427387903) (ht : TreesAt w (fun b => b < w.heap.size) x.kids B) :
    CallsIn Fence.wide n Tryz.prog 43 #[ndV x B cap] w fun e w' => e = .returned (.bool (rightT x)) ∧ Below w.heap.size w w' := by
  have h1 : 1 ≤ n := by omega
  unfold ndV
  refine callsIn_of_wp_marks Tryz.func43 rfl trivial ?_ rfl
  simp only [Tryz.ntmps43, List.size_toArray, List.length_cons, List.length_nil, Nat.reduceAdd, Nat.reduceSub, Array.replicate_succ, Array.replicate_zero, List.push_toArray, List.append_toArray, List.nil_append, List.cons_append]
  gi_wp2_with (refine ⟨trivial, ?_⟩; gi_at_call 87; refine (callsIn_wide.2 (nodes_go x B cap _)).mono ?_; rintro e w' ⟨rfl, rfl⟩)
  have bR := ((Boxed.new (w.alloc (.cells (ndA x B cap) 28)) 4 (.bool false)).alloc (.cells #[.int .i64 0] 3)).alloc (.cells (ndA x B cap) 28)
  have bN := (Boxed.new ((w.alloc (.cells (ndA x B cap) 28)).alloc (.cells #[.bool false] 4)) 3 (.int .i64 0)).alloc (.cells (ndA x B cap) 28)
  have bS := Blk.new (((w.alloc (.cells (ndA x B cap) 28)).alloc (.cells #[.bool false] 4)).alloc (.cells #[.int .i64 0] 3)) 28 (ndA x B cap)
  simp only [World.size_alloc] at bR bN bS
  have hB0 : Below w.heap.size w ((((w.alloc (.cells (ndA x B cap) 28)).alloc (.cells #[.bool false] 4)).alloc (.cells #[.int .i64 0] 3)).alloc (.cells (ndA x B cap) 28)) := ((((Below.refl _ w).alloc (Nat.le_refl _) _).alloc (by simp) _).alloc (by simp; omega) _).alloc (by simp; omega) _
  have hsz0 : ((((w.alloc (.cells (ndA x B cap) 28)).alloc (.cells #[.bool false] 4)).alloc (.cells #[.int .i64 0] 3)).alloc (.cells (ndA x B cap) 28)).heap.size = w.heap.size + 4 := by simp
  unfold ndA at bR bN hB0 hsz0
  unfold ndA
  obtain ⟨W0, hW0⟩ : ∃ W0, ((((w.alloc (.cells #[.int .i64 x.kind, .int .u64 ((word x.set.testBit 0 : Nat) : Int), .int .u64 ((word x.set.testBit 1 : Nat) : Int), .int .u64 ((word x.set.testBit 2 : Nat) : Int), .int .u64 ((word x.set.testBit 3 : Nat) : Int), .slice B x.kids.len cap, .int .i64 x.lo, .int .i64 x.hi] 28)).alloc (.cells #[.bool false] 4)).alloc (.cells #[.int .i64 0] 3)).alloc (.cells #[.int .i64 x.kind, .int .u64 ((word x.set.testBit 0 : Nat) : Int), .int .u64 ((word x.set.testBit 1 : Nat) : Int), .int .u64 ((word x.set.testBit 2 : Nat) : Int), .int .u64 ((word x.set.testBit 3 : Nat) : Int), .slice B x.kids.len cap, .int .i64 x.lo, .int .i64 x.hi] 28)) = W0 := ⟨_, rfl⟩
  have bS : Blk W0 (w.heap.size + 1 + 1 + 1) 28 (ndA x B cap) := by rw [← hW0]; exact bS
  rw [hW0] at bR bN hB0 hsz0 ⊢
  clear hW0
  refine wpIn_rangeFunc_ownH rfl h1 (gf := 128) (lb := #[.pointer (some ⟨w.heap.size + 1 + 1 + 1, 0, none⟩)]) rfl trivial (enters_of Tryz.func128 (by kernel_rfl) rfl)
    (nodesx_stops (n - 1) x B cap (w.heap.size + 1 + 1 + 1) (w.heap.size + 1 + 1) (fun b => b < w.heap.size) W0 (fun b hb => by omega) hsz bS (by omega) (ht.below hB0)) (fun h k => h.trans k) (fun W l o o' _ ho hc _ => Kc.put W l o o' ho hc) (Below.refl _ _) (fun _ => rfl)
    (fun pre W => ((Boxed W (w.heap.size + 1 + 1) 3 (.int .i64 ((pre.length : Nat) : Int)) ∧ Boxed W (w.heap.size + 1) 4 (.bool false)) ∧ (pre.length ≤ 4096 ∧ ∀ q ∈ pre, aloneN q.1 = true)) ∧ Below w.heap.size w W)
    (fun c pre W => c = .ret ∧ ((Boxed W (w.heap.size + 1) 4 (.bool false) ∧ (4096 < pre.length ∨ ∃ q ∈ pre, aloneN q.1 = false)) ∧ Below w.heap.size w W))
    (OwnFrom.and (OwnFrom.and (OwnFrom.and (Own.from (boxed_own _ _ _) _) (Own.from (boxed_own _ _ _) _)) (ownFrom_pure _ _)) (ownFrom_below (Nat.le_refl _) (by omega)))
    (fun c => OwnFrom.and (ownFrom_pure _ (fun _ => c = .ret)) (OwnFrom.and (OwnFrom.and (Own.from (boxed_own _ _ _) _) (ownFrom_pure _ _)) (ownFrom_below (Nat.le_refl _) (by omega))))
    ⟨⟨⟨bN, bR⟩, Nat.zero_le _, fun q hq => by cases hq⟩, hB0⟩
    (fun (q : ItemX) a' W => ∃ Bx, w.heap.size + 1 + 1 < Bx ∧ Blk W Bx 28 (ndA q.1 q.2.1 q.2.2) ∧ a' = { tmps := #[ndV x B cap, .pointer (some ⟨w.heap.size, 0, none⟩), .pointer (some ⟨w.heap.size + 1, 0, none⟩), .pointer (some ⟨w.heap.size + 1 + 1, 0, none⟩), .pointer (some ⟨Bx, 0, none⟩), ndV x B cap, .func (.func 128) #[] #[.pointer (some ⟨w.heap.size + 1 + 1 + 1, 0, none⟩)], ndV q.1 q.2.1 q.2.2, undef, undef, undef, undef, undef, undef, undef, undef, undef], defers := [] })
    (fun q a' _ X Y row hs hg hr => by
      obtain ⟨Bx, h1, h2, h3⟩ := hs
      exact ⟨Bx, h1, h2.grown hg (fun e => by
        obtain ⟨o, ho, hc⟩ := (hr _ e.symm).2
        rw [show X.heap[Bx]? = _ from h2] at ho
        cases ho
        cases hc), h3⟩)
    ?assign ?body ?done ?stop
  case assign =>
    rintro l pre q W K ⟨⟨⟨bN1, bR1⟩, hp1⟩, hB1⟩ hK
    unfold itemX ndV
    gi_wp2
    exact hK _ _ ((KeepsOthers.alloc _ _).from _) (Kc.below ((Below.refl _ W).alloc (Nat.le_refl _) _)) ⟨⟨⟨bN1.alloc _, bR1.alloc _⟩, hp1⟩, hB1.alloc hB1.size _⟩ ⟨W.heap.size, bN1.lt, Blk.new W 28 _, rfl⟩
  case body =>
    rintro l pre q a' W hl _ ⟨⟨⟨bN1, bR1⟩, hpl, hpa⟩, hB1⟩ ⟨Bx, hBx, bX, rfl⟩ hlt
    have cN := bN1.cell
    have fN := bN1.frozen
    have cR := bR1.cell
    have fR := bR1.frozen
    have HPA := Lib.hid hpa
    have x0 : W.cell? ⟨Bx, 0, none⟩ = some (.int .i64 q.1.kind) := bX.cell 0
    have x1 : W.cell? ⟨Bx, 1, none⟩ = some (.int .u64 ((word q.1.set.testBit 0 : Nat) : Int)) := bX.cell 1
    have x2 : W.cell? ⟨Bx, 2, none⟩ = some (.int .u64 ((word q.1.set.testBit 1 : Nat) : Int)) := bX.cell 2
    have x3 : W.cell? ⟨Bx, 3, none⟩ = some (.int .u64 ((word q.1.set.testBit 2 : Nat) : Int)) := bX.cell 3
    have x4 : W.cell? ⟨Bx, 4, none⟩ = some (.int .u64 ((word q.1.set.testBit 3 : Nat) : Int)) := bX.cell 4
    have x5 : W.cell? ⟨Bx, 5, none⟩ = some (.slice q.2.1 q.1.kids.len q.2.2) := bX.cell 5
    have x6 : W.cell? ⟨Bx, 6, none⟩ = some (.int .i64 q.1.lo) := bX.cell 6
    have x7 : W.cell? ⟨Bx, 7, none⟩ = some (.int .i64 q.1.hi) := bX.cell 7
    have hn1 : IntKind.i64.wrap (((pre.length : Nat) : Int) + 1) = (((pre ++ [q]).length : Nat) : Int) := by
      rw [IntKind.wrap_i64, List.length_append, List.length_singleton]; omega
    have hA := Lib.hid (aloneN_go q.1 q.2.1 q.2.2 (W.setCell ⟨w.heap.size + 1 + 1, 0, none⟩ (.int .i64 (((pre ++ [q]).length : Nat) : Int))))
    have hb1 : Below w.heap.size w (W.setCell ⟨w.heap.size + 1 + 1, 0, none⟩ (.int .i64 (((pre ++ [q]).length : Nat) : Int))) := hB1.setCell (p := ⟨w.heap.size + 1 + 1, 0, none⟩) (by simp; omega) _
    have hN1 := bN1.set (.int .i64 (((pre ++ [q]).length : Nat) : Int))
    have hR1 := bR1.other (B' := w.heap.size + 1 + 1) (by omega) (.int .i64 (((pre ++ [q]).length : Nat) : Int))
    have hk1 := Kc.setCell (Bn := w.heap.size + 1 + 1) W (.int .i64 (((pre ++ [q]).length : Nat) : Int))
    have hf1 := (KeepsOthers.setCell W ⟨w.heap.size + 1 + 1, 0, none⟩ (.int .i64 (((pre ++ [q]).length : Nat) : Int))).from W0.heap.size
    have hdd : ∀ k : Nat, (Fence.wide.depth.isSome = true → 1 ≤ k) := fun k h => by cases h
    have HX := Lib.hid (show _ ∧ _ ∧ _ ∧ _ ∧ _ from ⟨hb1, hN1, hR1, hk1, hf1⟩)
    clear hb1 hN1 hR1 hk1 hf1 bN1 bR1 hB1 bX bN bR bS hB0 ht hsz hpa
    have HM := Lib.hid (show (((pre ++ [q]).length : Nat) : Int) = (pre.length : Int) + 1 by simp)
    have hM1 : (((pre ++ [q]).length : Nat) : Int) = (pre.length : Int) + 1 := HM.out
    generalize hM : (((pre ++ [q]).length : Nat) : Int) = M at *
    have HMq := Lib.hid hM
    unfold ndV at hA
    unfold ndV
    rcases Nat.lt_or_ge pre.length 4096 with hc | hc
    · have hle : M ≤ 4096 := by omega
      clear hM hM1
      cases hv : aloneN q.1
      all_goals
        rw [hv] at hA
        have HV := Lib.hid hv
        clear hv
        gi_wp2
        refine ⟨trivial, hdd _, (CallsIn.inRound l (callsIn_wide.2 hA.out)).mono ?_⟩
        rintro e W3 ⟨rfl, hb3⟩
        have HZ := Lib.hid (show KeepsFrom W0.heap.size W W3 ∧ Kc (w.heap.size + 1 + 1) W W3 ∧ (Boxed W3 (w.heap.size + 1 + 1) 3 (.int .i64 M) ∧ Boxed W3 (w.heap.size + 1) 4 (.bool false)) ∧ Below w.heap.size w W3 from by
          obtain ⟨hb1, hN1, hR1, hk1, hf1⟩ := HX.out
          exact ⟨hf1.trans (keepsFrom_below hb3), hk1.trans (Kc.below hb3), ⟨(hb3.block _ hN1.lt).trans hN1, (hb3.block _ hR1.lt).trans hR1⟩, hb1.trans (hb3.mono hb1.size)⟩)
        have cR3 := HZ.out.2.2.1.2.cell
        have fR3 := HZ.out.2.2.1.2.frozen
        clear HX hb3 hA cR fR
        dsimp only
        gi_wp2
      · exact ⟨HZ.out.1.trans ((KeepsOthers.setCell _ _ _).from _), rfl, ⟨HZ.out.2.2.1.2.set _, .inr ⟨q, by simp, HV.out⟩⟩, HZ.out.2.2.2.setCell (p := ⟨w.heap.size + 1, 0, none⟩) (by simp) _⟩
      · refine ⟨HZ.out.1, HZ.out.2.1, ⟨⟨by rw [HMq.out]; exact HZ.out.2.2.1.1, HZ.out.2.2.1.2⟩, by simp; omega, fun r hr => ?_⟩, HZ.out.2.2.2⟩
        rcases List.mem_append.1 hr with hr | hr
        · exact HPA.out r hr
        · rw [List.mem_singleton.1 hr]; exact HV.out
    · have hgt : decide ((4096 : Int) < M) = true := (by rw [decide_eq_true_eq]; omega)
      have hgl : 4096 < (pre ++ [q]).length := by simp; omega
      clear hM hM1 hA
      gi_wp2
      refine ⟨trivial, ?_⟩
      gi_wp2
      obtain ⟨hb1, hN1, hR1, hk1, hf1⟩ := HX.out
      exact ⟨hf1.trans ((KeepsOthers.setCell _ _ _).from _), rfl, ⟨hR1.set _, .inl hgl⟩, hb1.setCell (p := ⟨w.heap.size + 1, 0, none⟩) (by simp) _⟩
  case done =>
    rintro D ys W hD hys ⟨⟨⟨bN1, bR1⟩, hpl, hpa⟩, hB1⟩ hK
    have HRT := Lib.hid (rightT_yes hys hpl hpa)
    have cR := bR1.cell
    have fR := bR1.frozen
    gi_wp2
    have hK2 := (KeepsOthers.setCell W ⟨w.heap.size + 1, 0, none⟩ (.bool true)).same D _ hK rfl
    refine ⟨by simp, .inl ⟨_, _, rfl, run_takeDeferred hK2, ?_⟩⟩
    have hc : ((W.setCell ⟨w.heap.size + 1, 0, none⟩ (.bool true)).putObj D (.deferred none)).cell? ⟨w.heap.size + 1, 0, none⟩ = some (.bool true) := cell_kept (bR1.set _).cell (grownBy_putObj' _ D (.deferred none)) (fun r e => by cases e; exact ⟨_, hK2, rfl⟩)
    exact ⟨_, ret_boolc rfl rfl hc, by rw [HRT.out], (hB1.setCell (p := ⟨w.heap.size + 1, 0, none⟩) (by simp) _).trans (belowK_b (w := w) (Nat.le_refl _) _ D _ _ (by omega) hK2 rfl rfl)⟩
  case stop =>
    rintro D c pre W hD hsp ⟨rfl, ⟨bR1, hbad⟩, hB1⟩ hK
    have HRT := Lib.hid (rightT_no hsp hbad)
    gi_wp2
    refine ⟨by simp, .inl ⟨_, _, rfl, run_takeDeferred hK, ?_⟩⟩
    have hc : (W.putObj D (.deferred none)).cell? ⟨w.heap.size + 1, 0, none⟩ = some (.bool false) := cell_kept bR1.cell (grownBy_putObj' _ D (.deferred none)) (fun r e => by cases e; exact ⟨_, hK, rfl⟩)
    exact ⟨_, ret_boolc rfl rfl hc, by rw [HRT.out], hB1.trans (belowK_b (w := w) (Nat.le_refl _) _ D _ _ (by omega) hK rfl rfl)⟩
/-- tree.Right at any tree. -/
theorem tright_any (x : Nd) (B : Option Addr) (cap : Nat) (w : World) (hsz : x.size ≤ 4611686018427387903) (ht : TreesAt w (fun b => b < w.heap.size) x.kids B) :
    Calls Tryz.prog 43 #[ndV x B cap] w fun e w' => e = .returned (.bool (rightT x)) ∧ Below w.heap.size w w' :=
  callsIn_wide.1 (trightx_in 3 (Nat.le_refl _) x B cap w hsz ht)
end Go.Proofs.YtfekpkelmliejaaGreatDoor
namespace Go.Proofs.YtfekpkelmliejaaGreatDoor
open Go.RowKit
set_option linter.unusedSimpArgs false
set_option linter.unusedVariables false
set_option maxRecDepth 100000

/-- What a node that says so often takes, its kid taking n. -/
def timesW (lo hi : Int) (n : Nat) : Nat :=
  if n = 0 then 0
  else if hi < 0 then min topN (min topN (lo.toNat * n) + n + 1)
  else if lo < hi then min topN (min topN (lo.toNat * n) + min topN ((hi - lo).toNat * n) + 1)
  else min topN (lo.toNat * n)
/-- What a node takes, its kids taking n together. -/
def wgtK (k lo hi : Int) (n : Nat) : Nat := if k = 2 ∨ k = 4 then n else if k = 9 then timesW lo hi n else min topN (n + 1)
/-- What trees take together. -/
def Trees.wsum : Trees → Nat
  | .nil => 0
  | .cons k _ ks lo hi r => wgtK k lo hi (min topN ks.wsum) + r.wsum
theorem nodes_kid : ∀ {F : Trees} {i : Nat} {z : Nd}, F.list[i]? = some z → ∀ y ∈ z.nodes, y ∈ F.nodes
  | .nil, i, z, h => by simp [Trees.list] at h
  | .cons k s ks lo hi r, 0, z, h => by
    simp [Trees.list] at h
    subst h
    intro y hy
    unfold Nd.nodes at hy
    rcases List.mem_cons.1 hy with rfl | hy
    · simp [Trees.nodes]
    · simp [Trees.nodes, hy]
  | .cons k s ks lo hi r, i + 1, z, h => by
    intro y hy
    have := nodes_kid (F := r) (i := i) (by simpa [Trees.list] using h) y hy
    simp [Trees.nodes, this]
theorem nums2 {w : World} {g : Nat} {a b : Nat} (h : Blk w g 3 #[.int .i64 (a : Int), .int .i64 (b : Int)]) : NumsAt w (some ⟨g, 0, none⟩) [a, b] := fun i hi => by
  refine ⟨g, 0, rfl, ?_⟩
  match i, hi with
  | 0, _ => exact h.cell 0
  | 1, _ => exact h.cell 1
theorem le2 {a b : Nat} (ha : a ≤ topN) (hb : b ≤ topN) : ∀ x ∈ [a, b], x ≤ topN := by
  intro x hx
  simp at hx
  rcases hx with rfl | rfl <;> assumption
theorem mul2_new (w : World) (g a b : Nat) (hg : g = w.heap.size) (ha : a ≤ topN) (hb : b ≤ topN) :
    Calls Tryz.prog 235 #[.int .i64 1099511627776, .slice (some ⟨g, 0, none⟩) 2 2] (w.alloc (.cells #[.int .i64 (a : Int), .int .i64 (b : Int)] 3)) fun e w' => e = .returned (.int .i64 ((min topN (a * b) : Nat) : Int)) ∧ Below w.heap.size w w' :=
  (nmul_go (some ⟨g, 0, none⟩) 2 a b _ (nums2 (Blk.new_at hg)) ha hb).mono fun e w' ⟨he, hb⟩ => ⟨he, ((Below.refl _ _).alloc (Nat.le_refl _) _).trans (hb.mono (by simp))⟩
theorem add2_new (w : World) (g a b : Nat) (hg : g = w.heap.size) (ha : a ≤ topN) (hb : b ≤ topN) :
    Calls Tryz.prog 160 #[.int .i64 1099511627776, .slice (some ⟨g, 0, none⟩) 2 2] (w.alloc (.cells #[.int .i64 (a : Int), .int .i64 (b : Int)] 3)) fun e w' => e = .returned (.int .i64 ((min topN (a + b) : Nat) : Int)) ∧ Below w.heap.size w w' :=
  (nadd_go (some ⟨g, 0, none⟩) 2 [a, b] _ (nums2 (Blk.new_at hg)) (le2 ha hb) (by simp)).mono fun e w' ⟨he, hb⟩ => ⟨by rw [he]; simp, ((Below.refl _ _).alloc (Nat.le_refl _) _).trans (hb.mono (by simp))⟩
theorem self_nodes (x : Nd) : x ∈ x.nodes := by simp [Nd.nodes]
theorem kid_nodes {x z : Nd} {i : Nat} (h : x.kids.list[i]? = some z) : ∀ y ∈ z.nodes, y ∈ x.nodes := fun y hy => by
  unfold Nd.nodes
  exact List.mem_cons_of_mem _ (nodes_kid h y hy)
end Go.Proofs.YtfekpkelmliejaaGreatDoor
namespace Go.Proofs.YtfekpkelmliejaaGreatDoor
open Go.RowKit
set_option linter.unusedSimpArgs false
set_option linter.unusedVariables false
set_option maxRecDepth 100000

/-- All that is known of a tree that may be. -/
structure SumS where
  hollow : Bool
  short : Int
  long : Int
  first : Nat → Bool
  last : Nat → Bool
def noB (_ : Nat) : Bool := false
/-- What is known of the empty word. -/
def fnilF : SumS := ⟨false, 0, 0, noB, noB⟩
/-- What is known of what says no word. -/
def nothingF : SumS := ⟨true, -1, -1, noB, noB⟩
def SumS.null (s : SumS) : Bool := !s.hollow && decide (s.short = 0)
/-- Beyond all lengths. -/
def endF : Int := 1099511627777
def topI : Int := 1099511627776
def addF (a b : Int) : Int := if a = endF ∨ b = endF then endF else min topI (a + b)
def timF (n a : Int) : Int := if n = 0 ∨ a = 0 then 0 else if a = endF ∨ n = endF then endF else min topI (n * a)
def orB (p q : Nat → Bool) (c : Nat) : Bool := p c || q c
def behindF (a b : SumS) : SumS :=
  if a.hollow = true ∨ b.hollow = true then nothingF
  else ⟨false, addF a.short b.short, addF a.long b.long, if a.null = true then orB a.first b.first else a.first, if b.null = true then orB a.last b.last else b.last⟩
def eitherF (a b : SumS) : SumS :=
  if a.hollow = true then b else if b.hollow = true then a
  else ⟨false, min a.short b.short, max a.long b.long, orB a.first b.first, orB a.last b.last⟩
def repeatedF (a : SumS) (lo hi : Int) : SumS :=
  if hi = 0 ∨ (a.hollow = true ∧ lo = 0) then fnilF else if a.hollow = true then nothingF else ⟨a.hollow, timF lo a.short, timF hi a.long, a.first, a.last⟩
def hiF (hi : Int) : Int := if hi < 0 then endF else hi
def isNoSet (s : Nat) : Bool := decide (word s.testBit 0 = 0) && (decide (word s.testBit 1 = 0) && (decide (word s.testBit 2 = 0) && decide (word s.testBit 3 = 0)))
def ofF (k : Int) (s : Nat) (lo hi : Int) (ks : List SumS) : SumS :=
  if k = 2 then fnilF
  else if k = 3 then (if isNoSet s = true then nothingF else ⟨false, 1, 1, s.testBit, s.testBit⟩)
  else if k = 4 then ks.foldl behindF fnilF
  else if k = 5 then ks.foldl eitherF nothingF
  else if k = 6 then repeatedF (ks.headD nothingF) 0 endF
  else if k = 7 then repeatedF (ks.headD nothingF) 1 endF
  else if k = 8 then repeatedF (ks.headD nothingF) 0 1
  else if k = 9 then repeatedF (ks.headD nothingF) lo (hiF hi)
  else nothingF
def Trees.sums : Trees → List SumS
  | .nil => []
  | .cons k s ks lo hi r => ofF k s lo hi ks.sums :: r.sums
/-- What is known of a tree. -/
def Nd.sum (x : Nd) : SumS := ofF x.kind x.set x.lo x.hi x.kids.sums
theorem Trees.sums_list : ∀ F : Trees, F.sums = F.list.map Nd.sum
  | .nil => rfl
  | .cons k s ks lo hi r => by rw [Trees.sums, Trees.list, List.map_cons, Trees.sums_list r]; rfl
theorem Trees.sums_head {F : Trees} {z : Nd} (h : F.list[0]? = some z) : F.sums.headD nothingF = z.sum := by
  rw [F.sums_list]
  cases hl : F.list with
  | nil => rw [hl] at h; simp at h
  | cons a l => rw [hl] at h; simp at h; subst h; rfl

/-! Lengths stay below the end. -/
structure SumOk (s : SumS) : Prop where
  short : s.hollow = false → 0 ≤ s.short ∧ s.short ≤ topI
  long : s.hollow = false → s.short ≤ s.long ∧ s.long ≤ endF
  none : s.hollow = true → s = nothingF
theorem ok_nil : SumOk fnilF := ⟨fun _ => by decide, fun _ => by decide, fun h => absurd h (by decide)⟩
theorem ok_nothing : SumOk nothingF := ⟨fun h => absurd h (by decide), fun h => absurd h (by decide), fun _ => rfl⟩
theorem addF_le {a b : Int} (ha : 0 ≤ a) (hb : 0 ≤ b) : 0 ≤ addF a b ∧ addF a b ≤ endF := by
  unfold addF topI endF
  split <;> omega
theorem addF_low {a b : Int} (ha : 0 ≤ a) (hb : 0 ≤ b) (ha2 : a ≤ topI) (hb2 : b ≤ topI) : addF a b ≤ topI := by
  unfold addF topI endF at *
  rw [if_neg (by omega)]
  omega
theorem addF_mono {a b c d : Int} (ha : 0 ≤ a) (hb : 0 ≤ b) (h1 : a ≤ c) (h2 : b ≤ d) (hc : c ≤ endF) (hd : d ≤ endF) : addF a b ≤ addF c d := by
  unfold addF topI endF at *
  split <;> split <;> omega
theorem timF_le {n a : Int} (hn : 0 ≤ n) (ha : 0 ≤ a) : 0 ≤ timF n a ∧ timF n a ≤ endF := by
  unfold timF
  have := Int.mul_nonneg hn ha
  split
  · exact ⟨Int.le_refl _, by decide⟩
  split
  · exact ⟨by decide, Int.le_refl _⟩
  · unfold topI endF
    omega
theorem timF_low {n a : Int} (hn : 0 ≤ n) (ha : 0 ≤ a) (hn2 : n ≤ topI) (ha2 : a ≤ topI) : timF n a ≤ topI := by
  unfold timF
  have := Int.mul_nonneg hn ha
  split
  · decide
  rw [if_neg (by unfold topI endF at *; omega)]
  unfold topI
  omega
theorem timF_mono {n a m b : Int} (hn : 0 ≤ n) (ha : 0 ≤ a) (h1 : n ≤ m) (h2 : a ≤ b) (hm : m ≤ endF) (hb : b ≤ endF) (hn2 : n ≤ topI) (ha2 : a ≤ topI) : timF n a ≤ timF m b := by
  by_cases h0 : n = 0 ∨ a = 0
  · rw [show timF n a = 0 by unfold timF; rw [if_pos h0]]
    exact (timF_le (by omega) (by omega)).1
  by_cases he : b = endF ∨ m = endF
  · have : timF m b = endF := by unfold timF; rw [if_neg (by omega), if_pos he]
    rw [this]
    exact (timF_le hn ha).2
  · have h3 : n * a ≤ m * b := Int.mul_le_mul h1 h2 ha (by omega)
    unfold timF
    rw [if_neg h0, if_neg (by unfold topI endF at *; omega), if_neg (by omega), if_neg he]
    omega
theorem ok_behind {a b : SumS} (ha : SumOk a) (hb : SumOk b) : SumOk (behindF a b) := by
  unfold behindF
  split
  · exact ok_nothing
  · rename_i h
    have h1 : a.hollow = false := by cases hh : a.hollow <;> simp [hh] at h ⊢
    have h2 : b.hollow = false := by cases hh : b.hollow <;> simp [hh] at h ⊢
    have a1 := ha.short h1
    have a2 := ha.long h1
    have b1 := hb.short h2
    have b2 := hb.long h2
    refine ⟨fun _ => ⟨(addF_le a1.1 b1.1).1, addF_low a1.1 b1.1 a1.2 b1.2⟩, fun _ => ⟨addF_mono a1.1 b1.1 a2.1 b2.1 a2.2 b2.2, (addF_le (by omega) (by omega)).2⟩, fun h => by cases h⟩
theorem ok_either {a b : SumS} (ha : SumOk a) (hb : SumOk b) : SumOk (eitherF a b) := by
  unfold eitherF
  split
  · exact hb
  split
  · exact ha
  · rename_i h1 h2
    have h1 : a.hollow = false := by simpa using h1
    have h2 : b.hollow = false := by simpa using h2
    have a1 := ha.short h1
    have a2 := ha.long h1
    have b1 := hb.short h2
    have b2 := hb.long h2
    exact ⟨fun _ => by dsimp only; omega, fun _ => by dsimp only; omega, fun h => by cases h⟩
theorem ok_repeated {a : SumS} (ha : SumOk a) {lo hi : Int} (h0 : 0 ≤ lo) (h1 : lo ≤ hi) (h2 : hi ≤ endF) (h3 : lo ≤ topI) : SumOk (repeatedF a lo hi) := by
  unfold repeatedF
  split
  · exact ok_nil
  split
  · exact ok_nothing
  · rename_i _ h
    have h : a.hollow = false := by simpa using h
    have a1 := ha.short h
    have a2 := ha.long h
    exact ⟨fun _ => ⟨(timF_le h0 a1.1).1, timF_low h0 a1.1 h3 a1.2⟩, fun _ => ⟨timF_mono h0 a1.1 h1 a2.1 h2 a2.2 h3 a1.2, (timF_le (by omega) (by omega)).2⟩, fun hh => by rw [h] at hh; cases hh⟩
theorem ok_fold {f : SumS → SumS → SumS} (hf : ∀ a b, SumOk a → SumOk b → SumOk (f a b)) : ∀ (l : List SumS) (a : SumS), SumOk a → (∀ s ∈ l, SumOk s) → SumOk (l.foldl f a)
  | [], a, ha, _ => ha
  | s :: l, a, ha, h => ok_fold hf l _ (hf a s ha (h s (by simp))) (fun t ht => h t (by simp [ht]))
theorem ok_head {l : List SumS} (h : ∀ s ∈ l, SumOk s) : SumOk (l.headD nothingF) := by
  cases l with
  | nil => exact ok_nothing
  | cons a l => exact h a (by simp)
theorem hiF_ok {lo hi : Int} (h0 : 0 ≤ lo) (h1 : lo ≤ 1000) (h2 : hi = -1 ∨ lo ≤ hi) (h3 : hi ≤ 1000) : lo ≤ hiF hi ∧ hiF hi ≤ endF ∧ lo ≤ topI := by
  unfold hiF endF topI
  split <;> omega
theorem ok_of {k : Int} {s : Nat} {lo hi : Int} {ks : List SumS} (h9 : k = 9 → 0 ≤ lo ∧ lo ≤ 1000 ∧ (hi = -1 ∨ lo ≤ hi) ∧ hi ≤ 1000) (h : ∀ s ∈ ks, SumOk s) : SumOk (ofF k s lo hi ks) := by
  have hh := ok_head h
  unfold ofF
  split
  · exact ok_nil
  split
  · split
    · exact ok_nothing
    · exact ⟨fun _ => by show (0 : Int) ≤ 1 ∧ (1 : Int) ≤ topI; decide, fun _ => by show (1 : Int) ≤ 1 ∧ (1 : Int) ≤ endF; decide, fun h => by cases h⟩
  split
  · exact ok_fold (fun a b => ok_behind) _ _ ok_nil h
  split
  · exact ok_fold (fun a b => ok_either) _ _ ok_nothing h
  split
  · exact ok_repeated hh (by decide) (by decide) (by decide) (by decide)
  split
  · exact ok_repeated hh (by decide) (by decide) (by decide) (by decide)
  split
  · exact ok_repeated hh (by decide) (by decide) (by decide) (by decide)
  split
  · rename_i hk
    obtain ⟨a, b, c, d⟩ := h9 hk
    obtain ⟨e, f, g⟩ := hiF_ok a b c d
    exact ok_repeated hh a e f g
  · exact ok_nothing
theorem nine_of {y : Nd} (h : aloneN y = true) : y.kind = 9 → 0 ≤ y.lo ∧ y.lo ≤ 1000 ∧ (y.hi = -1 ∨ y.lo ≤ y.hi) ∧ y.hi ≤ 1000 := fun h9 => by
  unfold aloneN aloneV at h
  rw [if_neg (by omega)] at h
  by_cases hz : ((word y.set.testBit 0 : Nat) : Int) ≠ 0 ∨ ((word y.set.testBit 1 : Nat) : Int) ≠ 0 ∨ ((word y.set.testBit 2 : Nat) : Int) ≠ 0 ∨ ((word y.set.testBit 3 : Nat) : Int) ≠ 0
  · rw [if_pos hz] at h; cases h
  · rw [if_neg hz, if_pos h9] at h
    unfold timesB at h
    simp at h
    omega
theorem ok_sums : ∀ (F : Trees), (∀ y ∈ F.nodes, aloneN y = true) → ∀ s ∈ F.sums, SumOk s
  | .nil, _, s, hs => by cases hs
  | .cons k st ks lo hi r, h, s, hs => by
    rw [Trees.sums] at hs
    rcases List.mem_cons.1 hs with rfl | hs
    · exact ok_of (nine_of (y := ⟨k, st, ks, lo, hi⟩) (h _ (by simp [Trees.nodes]))) (ok_sums ks (fun y hy => h y (by simp [Trees.nodes, hy])))
    · exact ok_sums r (fun y hy => h y (by simp [Trees.nodes, hy])) s hs
theorem ok_sum {x : Nd} (h : ∀ y ∈ x.nodes, aloneN y = true) : SumOk x.sum :=
  ok_of (nine_of (h x (by simp [Nd.nodes]))) (ok_sums x.kids (fun y hy => h y (by simp [Nd.nodes, hy])))
end Go.Proofs.YtfekpkelmliejaaGreatDoor
namespace Go.Proofs.YtfekpkelmliejaaGreatDoor
open Go.RowKit
set_option linter.unusedSimpArgs false
set_option linter.unusedVariables false
set_option maxRecDepth 100000

theorem Blk.c8r {w : World} {g : Nat} {t : TypeId} {a0 a1 a2 a3 a4 a5 a6 a7 : Value} (h : Blk w g t #[a0, a1, a2, a3, a4, a5, a6, a7]) : w.cell? ⟨g, 0, none⟩ = some a0 ∧ w.cell? ⟨g, 1, none⟩ = some a1 ∧ w.cell? ⟨g, 2, none⟩ = some a2 ∧ w.cell? ⟨g, 3, none⟩ = some a3 ∧ w.cell? ⟨g, 4, none⟩ = some a4 ∧ w.cell? ⟨g, 5, none⟩ = some a5 ∧ w.cell? ⟨g, 6, none⟩ = some a6 ∧ w.cell? ⟨g, 7, none⟩ = some a7 := ⟨h.cell 0, h.cell 1, h.cell 2, h.cell 3, h.cell 4, h.cell 5, h.cell 6, h.cell 7⟩
theorem Blk.c11r {w : World} {g : Nat} {t : TypeId} {a0 a1 a2 a3 a4 a5 a6 a7 a8 a9 a10 : Value} (h : Blk w g t #[a0, a1, a2, a3, a4, a5, a6, a7, a8, a9, a10]) : w.cell? ⟨g, 0, none⟩ = some a0 ∧ w.cell? ⟨g, 1, none⟩ = some a1 ∧ w.cell? ⟨g, 2, none⟩ = some a2 ∧ w.cell? ⟨g, 3, none⟩ = some a3 ∧ w.cell? ⟨g, 4, none⟩ = some a4 ∧ w.cell? ⟨g, 5, none⟩ = some a5 ∧ w.cell? ⟨g, 6, none⟩ = some a6 ∧ w.cell? ⟨g, 7, none⟩ = some a7 ∧ w.cell? ⟨g, 8, none⟩ = some a8 ∧ w.cell? ⟨g, 9, none⟩ = some a9 ∧ w.cell? ⟨g, 10, none⟩ = some a10 := ⟨h.cell 0, h.cell 1, h.cell 2, h.cell 3, h.cell 4, h.cell 5, h.cell 6, h.cell 7, h.cell 8, h.cell 9, h.cell 10⟩
theorem Blk.f11r {w : World} {g : Nat} {t : TypeId} {a0 a1 a2 a3 a4 a5 a6 a7 a8 a9 a10 : Value} (h : Blk w g t #[a0, a1, a2, a3, a4, a5, a6, a7, a8, a9, a10]) : w.frozen? ⟨g, 0, none⟩ = false ∧ w.frozen? ⟨g, 1, none⟩ = false ∧ w.frozen? ⟨g, 2, none⟩ = false ∧ w.frozen? ⟨g, 3, none⟩ = false ∧ w.frozen? ⟨g, 4, none⟩ = false ∧ w.frozen? ⟨g, 5, none⟩ = false ∧ w.frozen? ⟨g, 6, none⟩ = false ∧ w.frozen? ⟨g, 7, none⟩ = false ∧ w.frozen? ⟨g, 8, none⟩ = false ∧ w.frozen? ⟨g, 9, none⟩ = false ∧ w.frozen? ⟨g, 10, none⟩ = false := ⟨h.frozen 0, h.frozen 1, h.frozen 2, h.frozen 3, h.frozen 4, h.frozen 5, h.frozen 6, h.frozen 7, h.frozen 8, h.frozen 9, h.frozen 10⟩

/-- What is known, as the program has it. -/
@[inline] def sumA (s : SumS) : Array Value := #[.bool s.hollow, .int .i64 s.short, .int .i64 s.long, .int .u64 ((word (s.first) 0 : Nat) : Int), .int .u64 ((word (s.first) 1 : Nat) : Int), .int .u64 ((word (s.first) 2 : Nat) : Int), .int .u64 ((word (s.first) 3 : Nat) : Int), .int .u64 ((word (s.last) 0 : Nat) : Int), .int .u64 ((word (s.last) 1 : Nat) : Int), .int .u64 ((word (s.last) 2 : Nat) : Int), .int .u64 ((word (s.last) 3 : Nat) : Int)]
@[inline] def sumV (s : SumS) : Value := .agg (sumA s)
theorem addF_nat (m n : Nat) (hm : (m : Int) ≠ endF) (hn : (n : Int) ≠ endF) : addF m n = ((min topN (m + n) : Nat) : Int) := by
  unfold addF topI
  rw [if_neg (by omega)]
  unfold topN
  omega
theorem timF_nat (m n : Nat) (h0 : m ≠ 0) (h1 : n ≠ 0) (hm : (m : Int) ≠ endF) (hn : (n : Int) ≠ endF) : timF m n = ((min topN (m * n) : Nat) : Int) := by
  unfold timF topI
  rw [if_neg (by omega), if_neg (by omega)]
  have : ((m * n : Nat) : Int) = (m : Int) * n := by rw [Int.natCast_mul]
  unfold topN
  omega
theorem addF_end0 {a b : Int} (h : a = endF ∨ b = endF) : addF a b = endF := by unfold addF; rw [if_pos h]
theorem fadd_go (a b : Int) (w : World) (ha : 0 ≤ a ∧ a ≤ endF) (hb : 0 ≤ b ∧ b ≤ endF) :
    Calls Tryz.prog 196 #[.int .i64 a, .int .i64 b] w fun e w' => e = .returned (.int .i64 (addF a b)) ∧ Below w.heap.size w w' := by
  by_cases h1 : a = endF
  · have HV := Lib.hid (addF_end0 (a := a) (b := b) (.inl h1))
    have e1 : (a == 1099511627777) = true := by rw [h1]; rfl
    clear h1 ha hb
    go_enter Tryz.func196, Tryz.ntmps196
    go_wp2
    go_light
    go_ret
    exact ⟨ret_i (by rw [HV.out]; rfl), Below.refl _ _⟩
  have e1 : (a == 1099511627777) = false := by rw [beq_eq_false_iff_ne]; exact h1
  by_cases h2 : b = endF
  · have HV := Lib.hid (addF_end0 (a := a) (b := b) (.inr h2))
    have e2 : (b == 1099511627777) = true := by rw [h2]; rfl
    clear h1 h2 ha hb
    go_enter Tryz.func196, Tryz.ntmps196
    go_wp2
    go_light
    go_ret
    exact ⟨ret_i (by rw [HV.out]; rfl), Below.refl _ _⟩
  have e2 : (b == 1099511627777) = false := by rw [beq_eq_false_iff_ne]; exact h2
  obtain ⟨m, rfl⟩ := Int.eq_ofNat_of_zero_le ha.1
  obtain ⟨n, rfl⟩ := Int.eq_ofNat_of_zero_le hb.1
  have hm : m ≤ topN := by unfold endF at *; unfold topN; omega
  have hn : n ≤ topN := by unfold endF at *; unfold topN; omega
  have HV := Lib.hid (addF_nat m n h1 h2)
  have HA := Lib.hid (fun (W : World) (g : Nat) (hg : g = W.heap.size) => add2_new W g m n hg hm hn)
  clear h1 h2 ha hb hm hn
  go_enter Tryz.func196, Tryz.ntmps196
  go_wp2_with fail
  refine (HA.out _ _ (by simp)).mono ?_
  rintro e w2 ⟨rfl, hb2⟩
  have HB := Lib.hid hb2
  clear hb2 HA
  dsimp only
  go_wp2
  go_light
  go_ret
  exact ⟨ret_i (by rw [HV.out]), HB.out⟩
theorem ftimes_go (a b : Int) (w : World) (ha : 0 ≤ a ∧ a ≤ endF) (hb : 0 ≤ b ∧ b ≤ endF) :
    Calls Tryz.prog 197 #[.int .i64 a, .int .i64 b] w fun e w' => e = .returned (.int .i64 (timF a b)) ∧ Below w.heap.size w w' := by
  by_cases z1 : a = 0
  · have HV := Lib.hid (show timF a b = 0 by unfold timF; rw [if_pos (.inl z1)])
    have e1 : (a == 0) = true := by rw [z1]; rfl
    clear z1 ha hb
    go_enter Tryz.func197, Tryz.ntmps197
    go_wp2
    go_light
    go_ret
    exact ⟨ret_i (by rw [HV.out]), Below.refl _ _⟩
  have e1 : (a == 0) = false := by rw [beq_eq_false_iff_ne]; exact z1
  by_cases z2 : b = 0
  · have HV := Lib.hid (show timF a b = 0 by unfold timF; rw [if_pos (.inr z2)])
    have e2 : (b == 0) = true := by rw [z2]; rfl
    clear z1 z2 ha hb
    go_enter Tryz.func197, Tryz.ntmps197
    go_wp2
    go_light
    go_ret
    exact ⟨ret_i (by rw [HV.out]), Below.refl _ _⟩
  have e2 : (b == 0) = false := by rw [beq_eq_false_iff_ne]; exact z2
  by_cases h2 : b = endF
  · have HV := Lib.hid (show timF a b = endF by unfold timF; rw [if_neg (by omega), if_pos (.inl h2)])
    have e3 : (b == 1099511627777) = true := by rw [h2]; rfl
    clear z1 z2 h2 ha hb
    go_enter Tryz.func197, Tryz.ntmps197
    go_wp2
    go_light
    go_ret
    exact ⟨ret_i (by rw [HV.out]; rfl), Below.refl _ _⟩
  have e3 : (b == 1099511627777) = false := by rw [beq_eq_false_iff_ne]; exact h2
  by_cases h1 : a = endF
  · have HV := Lib.hid (show timF a b = endF by unfold timF; rw [if_neg (by omega), if_pos (.inr h1)])
    have e4 : (a == 1099511627777) = true := by rw [h1]; rfl
    clear z1 z2 h1 h2 ha hb
    go_enter Tryz.func197, Tryz.ntmps197
    go_wp2
    go_light
    go_ret
    exact ⟨ret_i (by rw [HV.out]; rfl), Below.refl _ _⟩
  have e4 : (a == 1099511627777) = false := by rw [beq_eq_false_iff_ne]; exact h1
  obtain ⟨m, rfl⟩ := Int.eq_ofNat_of_zero_le ha.1
  obtain ⟨n, rfl⟩ := Int.eq_ofNat_of_zero_le hb.1
  have hm : m ≤ topN := by unfold endF at *; unfold topN; omega
  have hn : n ≤ topN := by unfold endF at *; unfold topN; omega
  have HV := Lib.hid (timF_nat m n (by omega) (by omega) h1 h2)
  have HA := Lib.hid (fun (W : World) (g : Nat) (hg : g = W.heap.size) => mul2_new W g m n hg hm hn)
  clear h1 h2 ha hb hm hn z1 z2
  go_enter Tryz.func197, Tryz.ntmps197
  go_wp2_with fail
  refine (HA.out _ _ (by simp)).mono ?_
  rintro e w2 ⟨rfl, hb2⟩
  have HB := Lib.hid hb2
  clear hb2 HA
  dsimp only
  go_wp2
  go_light
  go_ret
  exact ⟨ret_i (by rw [HV.out]), HB.out⟩
theorem ret_sum {fn : Func} {t : Tmp} (h : fn.results = #[.cell t 85]) {tmps : Array Value} {w : World} {g : Nat} {a0 a1 a2 a3 a4 a5 a6 a7 a8 a9 a10 : Value} (hp : tmps.getD t undef = .pointer (some ⟨g, 0, none⟩)) (hb : Blk w g 85 #[a0, a1, a2, a3, a4, a5, a6, a7, a8, a9, a10]) :
    (results fn tmps).run Tryz.prog w = .ok (.agg #[a0, a1, a2, a3, a4, a5, a6, a7, a8, a9, a10]) w :=
  results_cell_row h tmps w g _ _ _ _ hp hb Tryz.underlying85 rfl (by kernel_rfl)
theorem noB_word (i : Nat) (hi : i < 4) : word noB i = 0 := word_empty i hi
theorem nothing_val : sumV nothingF = .agg #[.bool true, .int .i64 (-1), .int .i64 (-1), .int .u64 0, .int .u64 0, .int .u64 0, .int .u64 0, .int .u64 0, .int .u64 0, .int .u64 0, .int .u64 0] := by
  unfold sumV sumA nothingF
  rw [noB_word 0 (by decide), noB_word 1 (by decide), noB_word 2 (by decide), noB_word 3 (by decide)]
  rfl
theorem fnil_val : sumV fnilF = .agg #[.bool false, .int .i64 0, .int .i64 0, .int .u64 0, .int .u64 0, .int .u64 0, .int .u64 0, .int .u64 0, .int .u64 0, .int .u64 0, .int .u64 0] := by
  unfold sumV sumA fnilF
  rw [noB_word 0 (by decide), noB_word 1 (by decide), noB_word 2 (by decide), noB_word 3 (by decide)]
  rfl
theorem nothing_go (w : World) :
    Calls Tryz.prog 147 #[] w fun e w' => e = .returned (sumV nothingF) ∧ Below w.heap.size w w' := by
  have HV := Lib.hid nothing_val
  have HB := Lib.hid ((Below.refl w.heap.size w).alloc (Nat.le_refl _) (.cells #[.bool true, .int .i64 (-1), .int .i64 (-1), .int .u64 0, .int .u64 0, .int .u64 0, .int .u64 0, .int .u64 0, .int .u64 0, .int .u64 0, .int .u64 0] 85))
  go_enter Tryz.func147, Tryz.ntmps147
  go_wp2
  refine bodyPost_ret (ret_sum Tryz.results147 rfl (Blk.new _ _ _)) rfl ⟨by rw [HV.out], HB.out⟩
theorem null_go (s : SumS) (w : World) :
    Calls Tryz.prog 89 #[sumV s] w fun e w' => e = .returned (.bool s.null) ∧ Below w.heap.size w w' := by
  obtain ⟨h, a, b, f, l⟩ := s
  unfold sumV sumA
  dsimp only
  have hX := Blk.new w 85 #[.bool h, .int .i64 a, .int .i64 b, .int .u64 ((word (f) 0 : Nat) : Int), .int .u64 ((word (f) 1 : Nat) : Int), .int .u64 ((word (f) 2 : Nat) : Int), .int .u64 ((word (f) 3 : Nat) : Int), .int .u64 ((word (l) 0 : Nat) : Int), .int .u64 ((word (l) 1 : Nat) : Int), .int .u64 ((word (l) 2 : Nat) : Int), .int .u64 ((word (l) 3 : Nat) : Int)]
  have HB := Lib.hid ((Below.refl w.heap.size w).alloc (Nat.le_refl _) (.cells #[.bool h, .int .i64 a, .int .i64 b, .int .u64 ((word (f) 0 : Nat) : Int), .int .u64 ((word (f) 1 : Nat) : Int), .int .u64 ((word (f) 2 : Nat) : Int), .int .u64 ((word (f) 3 : Nat) : Int), .int .u64 ((word (l) 0 : Nat) : Int), .int .u64 ((word (l) 1 : Nat) : Int), .int .u64 ((word (l) 2 : Nat) : Int), .int .u64 ((word (l) 3 : Nat) : Int)] 85))
  have x0 := hX.cell 0
  have x1 := hX.cell 1
  simp only [List.getElem?_toArray, List.getElem?_cons_zero, List.getElem?_cons_succ] at x0 x1
  cases h with
  | true =>
    have HV := Lib.hid (show SumS.null ⟨true, a, b, f, l⟩ = false from rfl)
    clear hX
    go_enter Tryz.func89, Tryz.ntmps89
    go_wp2
    go_light
    go_ret
    exact ⟨ret_b (by rw [HV.out]), HB.out⟩
  | false =>
    have HV := Lib.hid (show SumS.null ⟨false, a, b, f, l⟩ = (a == 0) by unfold SumS.null; simp; rfl)
    clear hX
    go_enter Tryz.func89, Tryz.ntmps89
    go_wp2
    go_light
    go_ret
    exact ⟨ret_b (by rw [HV.out]), HB.out⟩
end Go.Proofs.YtfekpkelmliejaaGreatDoor
namespace Go.Proofs.YtfekpkelmliejaaGreatDoor
open Go.RowKit
set_option linter.unusedSimpArgs false
set_option linter.unusedVariables false
set_option maxRecDepth 100000

theorem take_snocS {α : Type} {l : List α} {k : Nat} {s : α} (h : l[k]? = some s) : l.take (k + 1) = l.take k ++ [s] := by rw [List.take_add_one, h]; rfl
theorem behind_hollow (a b : SumS) : (behindF a b).hollow = (a.hollow || b.hollow) := by
  unfold behindF
  cases ha : a.hollow <;> cases hb : b.hollow <;> simp [ha, hb, nothingF]
theorem either_hollow (a b : SumS) : (eitherF a b).hollow = (a.hollow && b.hollow) := by
  unfold eitherF
  cases ha : a.hollow <;> cases hb : b.hollow <;> simp [ha, hb]
theorem behind_full {a b : SumS} (ha : a.hollow = false) (hb : b.hollow = false) : behindF a b = ⟨false, addF a.short b.short, addF a.long b.long, if a.null = true then orB a.first b.first else a.first, if b.null = true then orB a.last b.last else b.last⟩ := by
  unfold behindF
  rw [if_neg (by simp [ha, hb])]
theorem either_full {a b : SumS} (ha : a.hollow = false) (hb : b.hollow = false) : eitherF a b = ⟨false, min a.short b.short, max a.long b.long, orB a.first b.first, orB a.last b.last⟩ := by
  unfold eitherF
  rw [if_neg (by simp [ha]), if_neg (by simp [hb])]
theorem either_left {a b : SumS} (ha : a.hollow = true) : eitherF a b = b := by unfold eitherF; rw [if_pos ha]
theorem either_right {a b : SumS} (ha : a.hollow = false) (hb : b.hollow = true) : eitherF a b = a := by unfold eitherF; rw [if_neg (by simp [ha]), if_pos hb]
/-! Without an end. -/
/-! Edges. -/
theorem orB_no (p : Nat → Bool) : orB p noB = p := by funext c; simp [orB, noB]
theorem no_orB (p : Nat → Bool) : orB noB p = p := by funext c; simp [orB, noB]
theorem behind_null {a b : SumS} (ha : a.hollow = false) (hb : b.hollow = false) (oa : SumOk a) (ob : SumOk b) : (behindF a b).null = (a.null && b.null) := by
  have a1 := oa.short ha
  have b1 := ob.short hb
  rw [behind_full ha hb]
  unfold SumS.null
  simp only [ha, hb, Bool.not_false, Bool.true_and]
  rw [Bool.eq_iff_iff]
  simp only [Bool.and_eq_true, decide_eq_true_eq]
  unfold addF topI endF at *
  split <;> omega
theorem edge_none {s : SumS} (o : SumOk s) (h : s.hollow = true) : s.first = noB ∧ s.last = noB := by rw [o.none h]; exact ⟨rfl, rfl⟩
theorem either_first {a b : SumS} (oa : SumOk a) (ob : SumOk b) : (eitherF a b).first = orB a.first b.first ∧ (eitherF a b).last = orB a.last b.last := by
  cases ha : a.hollow with
  | true => rw [either_left ha, (edge_none oa ha).1, (edge_none oa ha).2, no_orB, no_orB]; exact ⟨rfl, rfl⟩
  | false =>
    cases hb : b.hollow with
    | true => rw [either_right ha hb, (edge_none ob hb).1, (edge_none ob hb).2, orB_no, orB_no]; exact ⟨rfl, rfl⟩
    | false => rw [either_full ha hb]; exact ⟨rfl, rfl⟩
end Go.Proofs.YtfekpkelmliejaaGreatDoor
namespace Go.Proofs.YtfekpkelmliejaaGreatDoor
open Go.RowKit
set_option linter.unusedSimpArgs false
set_option linter.unusedVariables false
set_option maxRecDepth 100000

/-- A machine: its states' labels, its links, its edges (from, set, to). -/
structure MachS where
  accept : List Nat
  links : List (Nat × Nat)
  edges : List (Nat × Nat × Nat)
def MachS.states (m : MachS) : Nat := m.accept.length
def MachS.state (m : MachS) (label : Nat) : MachS := ⟨m.accept ++ [label], m.links, m.edges⟩
def MachS.link (m : MachS) (a b : Nat) : MachS := ⟨m.accept, m.links ++ [(a, b)], m.edges⟩
def MachS.edge (m : MachS) (a s b : Nat) : MachS := ⟨m.accept, m.links, m.edges ++ [(a, s, b)]⟩
/-- How a tree is laid: the machine, and the end. -/
abbrev LayF := MachS → Nat → MachS × Nat
def noF : LayF := fun m i => (m, i)
def catF : List LayF → LayF
  | [], m, i => (m, i)
  | f :: l, m, i => catF l (f m i).1 (f m i).2
def altF : List LayF → MachS → Nat → MachS × List Nat
  | [], m, _ => (m, [])
  | f :: l, m, i => ((altF l (f m i).1 i).1, (f m i).2 :: (altF l (f m i).1 i).2)
def linksF (t : Nat) : List Nat → MachS → MachS
  | [], m => m
  | e :: l, m => linksF t l (m.link e t)
def barF (fs : List LayF) : LayF := fun m i => (linksF (altF fs m i).1.states (altF fs m i).2 ((altF fs m i).1.state 0), (altF fs m i).1.states)
def loopF (plus : Bool) (f : LayF) : LayF := fun m i =>
  ((f ((m.state 0).link i m.states) m.states).1.link (f ((m.state 0).link i m.states) m.states).2 m.states, if plus = true then (f ((m.state 0).link i m.states) m.states).2 else m.states)
def optF (f : LayF) : LayF := fun m i => ((((f m i).1.state 0).link (f m i).2 (f m i).1.states).link i (f m i).1.states, (f m i).1.states)
def timesF (f : LayF) : Nat → LayF
  | 0, m, i => (m, i)
  | k + 1, m, i => timesF f k (f m i).1 (f m i).2
def optsF (f : LayF) (t : Nat) : Nat → LayF
  | 0, m, i => (m, i)
  | k + 1, m, i => optsF f t k (f (m.link i t) i).1 (f (m.link i t) i).2
/-- A tree so often, to an end of its own. -/
def upF (f : LayF) (k : Nat) : LayF := fun m i => ((optsF f m.states k (m.state 0) i).1.link (optsF f m.states k (m.state 0) i).2 m.states, m.states)
def repF (n : Nat) (lo hi : Int) (f : LayF) : LayF := fun m i =>
  if n = 0 then (m, i)
  else if hi < 0 then loopF false f (timesF f lo.toNat m i).1 (timesF f lo.toNat m i).2
  else if hi = lo then timesF f lo.toNat m i
  else upF f (hi - lo).toNat (timesF f lo.toNat m i).1 (timesF f lo.toNat m i).2
def setF (s : Nat) : LayF := fun m i => ((m.state 0).edge i s m.states, m.states)
def nilF : LayF := fun m _ => (m.state 0, m.states)
/-- How a node is laid, its kids being laid so; n: what the first one takes. -/
def layK (k : Int) (s : Nat) (lo hi : Int) (fs : List LayF) (n : Nat) : LayF :=
  if k = 2 then noF
  else if k = 3 then setF s
  else if k = 4 then catF fs
  else if k = 5 then barF fs
  else if k = 6 then loopF false (fs.headD noF)
  else if k = 7 then loopF true (fs.headD noF)
  else if k = 8 then optF (fs.headD noF)
  else if k = 9 then repF n lo hi (fs.headD noF)
  else nilF
def Trees.headW : Trees → Nat
  | .nil => 0
  | .cons k _ ks lo hi _ => wgtK k lo hi (min topN ks.wsum)
def Trees.lays : Trees → List LayF
  | .nil => []
  | .cons k s ks lo hi r => layK k s lo hi ks.lays ks.headW :: r.lays
def Nd.lay (x : Nd) : LayF := layK x.kind x.set x.lo x.hi x.kids.lays x.kids.headW
/-! What is added. -/
theorem repl_add (n k : Nat) : List.replicate (n + k) 0 = List.replicate n 0 ++ List.replicate k (0 : Nat) := by
  induction n with
  | zero => simp
  | succ n ih => rw [Nat.succ_add, List.replicate_succ, List.replicate_succ, ih]; rfl
def NewS (m : MachS) (i n a : Nat) : Prop := a = i ∨ m.states ≤ a ∧ a < m.states + n
/-- From a place of a machine on, n states were added, none labelled, and c links and edges at most, to new states, from new ones or that place. -/
def Adds (m : MachS) (i n c : Nat) (m' : MachS) (e : Nat) : Prop :=
  ∃ L E, m' = ⟨m.accept ++ List.replicate n 0, m.links ++ L, m.edges ++ E⟩ ∧ (∀ p ∈ L, NewS m i n p.1 ∧ m.states ≤ p.2 ∧ p.2 < m.states + n) ∧
    (∀ p ∈ E, NewS m i n p.1 ∧ m.states ≤ p.2.2 ∧ p.2.2 < m.states + n) ∧ NewS m i n e ∧ L.length + E.length ≤ c
theorem Adds.states {m m' : MachS} {i n c e : Nat} (h : Adds m i n c m' e) : m'.states = m.states + n := by
  obtain ⟨L, E, rfl, _⟩ := h
  simp [MachS.states]
theorem Adds.new {m m' : MachS} {i n c e : Nat} (h : Adds m i n c m' e) : NewS m i n e := by
  obtain ⟨L, E, _, _, _, h, _⟩ := h
  exact h
theorem Adds.more {m m' : MachS} {i n c c' e : Nat} (h : Adds m i n c m' e) (hc : c ≤ c') : Adds m i n c' m' e := by
  obtain ⟨L, E, h0, h1, h2, h3, h4⟩ := h
  exact ⟨L, E, h0, h1, h2, h3, by omega⟩
theorem Adds.zero (m : MachS) (i : Nat) : Adds m i 0 0 m i := ⟨[], [], by simp, by simp, by simp, .inl rfl, by simp⟩
theorem Adds.then {m m1 m2 : MachS} {i n c e1 j n' c' e2 : Nat} (h : Adds m i n c m1 e1) (h' : Adds m1 j n' c' m2 e2) (hj : NewS m i n j) : Adds m i (n + n') (c + c') m2 e2 := by
  have hs := h.states
  obtain ⟨L, E, rfl, h1, h2, h3, h4⟩ := h
  obtain ⟨L', E', rfl, g1, g2, g3, g4⟩ := h'
  unfold NewS at *
  refine ⟨L ++ L', E ++ E', ?_, ?_, ?_, ?_, ?_⟩
  · simp only [repl_add, List.append_assoc]
  · intro p hp
    rcases List.mem_append.1 hp with hp | hp
    · have := h1 p hp; unfold NewS; omega
    · have := g1 p hp; unfold NewS; omega
  · intro p hp
    rcases List.mem_append.1 hp with hp | hp
    · have := h2 p hp; unfold NewS; omega
    · have := g2 p hp; unfold NewS; omega
  · unfold NewS; omega
  · simp; omega
theorem Adds.state {m m' : MachS} {i n c e : Nat} (h : Adds m i n c m' e) : Adds m i (n + 1) c (m'.state 0) m'.states := by
  have hs := h.states
  obtain ⟨L, E, h0, h1, h2, h3, h4⟩ := h
  refine ⟨L, E, ?_, fun p hp => ?_, fun p hp => ?_, ?_, h4⟩
  · rw [h0]
    simp only [MachS.state, repl_add, List.append_assoc]
    rfl
  · have := h1 p hp; unfold NewS at *; omega
  · have := h2 p hp; unfold NewS at *; omega
  · unfold NewS; omega
theorem Adds.link {m m' : MachS} {i n c e a b : Nat} (h : Adds m i n c m' e) (ha : NewS m i n a) (hb : m.states ≤ b) (hb2 : b < m.states + n) : Adds m i n (c + 1) (m'.link a b) e := by
  obtain ⟨L, E, rfl, h1, h2, h3, h4⟩ := h
  refine ⟨L ++ [(a, b)], E, by simp [MachS.link], fun p hp => ?_, h2, h3, by simp; omega⟩
  rcases List.mem_append.1 hp with hp | hp
  · exact h1 p hp
  · rw [List.mem_singleton.1 hp]; exact ⟨ha, hb, hb2⟩
theorem Adds.edge {m m' : MachS} {i n c e a s b : Nat} (h : Adds m i n c m' e) (ha : NewS m i n a) (hb : m.states ≤ b) (hb2 : b < m.states + n) : Adds m i n (c + 1) (m'.edge a s b) e := by
  obtain ⟨L, E, rfl, h1, h2, h3, h4⟩ := h
  refine ⟨L, E ++ [(a, s, b)], by simp [MachS.edge], h1, fun p hp => ?_, h3, by simp; omega⟩
  rcases List.mem_append.1 hp with hp | hp
  · exact h2 p hp
  · rw [List.mem_singleton.1 hp]; exact ⟨ha, hb, hb2⟩
/-- A way to lay that adds so much. -/
def AddsF (f : LayF) (n c : Nat) : Prop := ∀ m i, Adds m i n c (f m i).1 (f m i).2
/-! What nodes take, never stopped. -/
/-! A node that may be, by its kind. -/
theorem aloneN_kids {y : Nd} (h : aloneN y = true) : (6 ≤ y.kind → y.kind ≤ 9 → y.kids.len = 1) ∧ (y.kind = 9 → 0 ≤ y.lo ∧ (y.hi = -1 ∨ y.lo ≤ y.hi)) ∧ (y.kind < 4 → y.kids.len = 0) ∧ 1 ≤ y.kind ∧ y.kind ≤ 9 := by
  unfold aloneN aloneV at h
  by_cases h3 : y.kind = 3
  · rw [if_pos h3] at h
    simp at h
    omega
  rw [if_neg h3] at h
  split at h
  · cases h
  by_cases h9 : y.kind = 9
  · rw [if_pos h9] at h
    unfold timesB at h
    simp at h
    omega
  · rw [if_neg h9] at h
    by_cases k1 : y.kind = 1 ∨ y.kind = 2 ∨ y.kind = 3
    · have e : arityS y.kind = 0 := by unfold arityS; rw [if_pos k1]
      rw [e] at h
      simp at h
      omega
    by_cases k2 : y.kind = 4 ∨ y.kind = 5
    · have e : arityS y.kind = 2 := by unfold arityS; rw [if_neg k1, if_pos k2]
      rw [e] at h
      simp at h
      omega
    by_cases k3 : 6 ≤ y.kind ∧ y.kind ≤ 9
    · have e : arityS y.kind = 1 := by unfold arityS; rw [if_neg k1, if_neg k2, if_pos k3]
      rw [e] at h
      simp at h
      omega
    · have e : arityS y.kind = -1 := by unfold arityS; rw [if_neg k1, if_neg k2, if_neg k3]
      rw [e] at h
      simp at h
/-! All trees. -/
end Go.Proofs.YtfekpkelmliejaaGreatDoor
namespace Go.Proofs.YtfekpkelmliejaaGreatDoor
open Go.RowKit
set_option linter.unusedSimpArgs false
set_option linter.unusedVariables false
set_option maxRecDepth 100000

end Go.Proofs.YtfekpkelmliejaaGreatDoor
namespace Go.Proofs.YtfekpkelmliejaaGreatDoor
open Go.RowKit
set_option linter.unusedSimpArgs false
set_option linter.unusedVariables false
set_option maxRecDepth 100000

def linkCell (p : Nat × Nat) : List Value := [.int .i64 (p.1 : Int), .int .i64 (p.2 : Int)]
def edgeCell (p : Nat × Nat × Nat) : List Value := [.int .i64 (p.1 : Int), .int .u64 ((word p.2.1.testBit 0 : Nat) : Int), .int .u64 ((word p.2.1.testBit 1 : Nat) : Int), .int .u64 ((word p.2.1.testBit 2 : Nat) : Int), .int .u64 ((word p.2.1.testBit 3 : Nat) : Int), .int .i64 (p.2.2 : Int)]
def accCell (a : Nat) : List Value := [.int .i64 (a : Int)]
def linkCells (l : List (Nat × Nat)) : List Value := l.flatMap linkCell
def edgeCells (l : List (Nat × Nat × Nat)) : List Value := l.flatMap edgeCell
def accCells (l : List Nat) : List Value := l.flatMap accCell
/-- The three rows of a machine, all owned. -/
structure RowsM (w : World) (base : Nat) (m : MachS) (L E A : Value) : Prop where
  l : w.ownsRow base 98 2 L m.links.length (linkCells m.links)
  e : w.ownsRow base 100 6 E m.edges.length (edgeCells m.edges)
  a : w.ownsRow base 3 1 A m.accept.length (accCells m.accept)
/-- The blocks of three rows are of S. -/
structure In3 (S : Nat → Prop) (L E A : Value) : Prop where
  l : ∀ b, L.ownBlock = some b → S b
  e : ∀ b, E.ownBlock = some b → S b
  a : ∀ b, A.ownBlock = some b → S b
theorem ownsRow_block {W W' : World} {base size k : Nat} {e : TypeId} {v : Value} {xs : List Value} (hr : W.ownsRow base e size v k xs) (hb : ∀ k, v.ownBlock = some k → W'.heap[k]? = W.heap[k]?) : W'.ownsRow base e size v k xs := by
  refine ⟨hr.1, ?_⟩
  rcases hr.2 with h | ⟨g, cap, cur, rfl, h1, h2, h3⟩
  · exact .inl h
  · exact .inr ⟨g, cap, cur, rfl, h1, (hb g rfl).trans h2, h3⟩
theorem RowsM.keep {w w' : World} {base : Nat} {m : MachS} {L E A : Value} {S : Nat → Prop} (h : RowsM w base m L E A) (hi : In3 S L E A) (hk : ∀ b, S b → w'.heap[b]? = w.heap[b]?) : RowsM w' base m L E A :=
  ⟨ownsRow_block h.l (fun k e => hk k (hi.l k e)), ownsRow_block h.e (fun k e => hk k (hi.e k e)), ownsRow_block h.a (fun k e => hk k (hi.a k e))⟩
theorem RowsM.lt {w : World} {base : Nat} {m : MachS} {L E A : Value} (h : RowsM w base m L E A) : ∀ b, (L.ownBlock = some b ∨ E.ownBlock = some b ∨ A.ownBlock = some b) → base ≤ b ∧ b < w.heap.size := by
  rintro b (hb | hb | hb)
  · exact h.l.lt b hb
  · exact h.e.lt b hb
  · exact h.a.lt b hb

/-- The program's layer: a machine whose blocks are of S. -/
def LayAt (w : World) (base g : Nat) (S : Nat → Prop) (m : MachS) : Prop :=
  (∀ b, S b → base ≤ b ∧ b < w.heap.size) ∧ S g ∧ ∃ L E A, Blk w g 152 #[.int .i64 (m.states : Int), .int .i64 0, L, E, A] ∧ RowsM w base m L E A ∧ In3 S L E A
theorem LayAt.keep {w w' : World} {base g : Nat} {S : Nat → Prop} {m : MachS} (h : LayAt w base g S m) (hs : w.heap.size ≤ w'.heap.size) (hk : ∀ b, S b → w'.heap[b]? = w.heap[b]?) : LayAt w' base g S m := by
  obtain ⟨h0, hg, L, E, A, h1, h2, h3⟩ := h
  exact ⟨fun b hb => ⟨(h0 b hb).1, by have := (h0 b hb).2; omega⟩, hg, L, E, A, (hk g hg).trans h1, h2.keep h3 hk, h3⟩
theorem LayAt.alloc {w : World} {base g : Nat} {S : Nat → Prop} {m : MachS} (h : LayAt w base g S m) (o : Obj) : LayAt (w.alloc o) base g S m :=
  h.keep (by simp) (fun b hb => Below.heap_alloc w o b (h.1 b hb).2)
theorem LayAt.drew {w : World} {base g : Nat} {S : Nat → Prop} {m : MachS} (h : LayAt w base g S m) : LayAt w.drew base g S m := h.keep (Nat.le_refl _) (fun _ _ => rfl)
theorem LayAt.drewN {w : World} {base g : Nat} {S : Nat → Prop} {m : MachS} (h : LayAt w base g S m) (n : Nat) : LayAt (w.drewN n) base g S m := h.keep (Nat.le_refl _) (fun _ _ => rfl)
theorem LayAt.set {w : World} {base g : Nat} {S : Nat → Prop} {m : MachS} (h : LayAt w base g S m) {p : Addr} (hp : ¬ S p.block) (u : Value) : LayAt (w.setCell p u) base g S m :=
  h.keep (by simp [World.setCell]) (fun b hb => Below.heap_setCell w p u b (fun e => hp (e ▸ hb)))
theorem LayAt.lt {w : World} {base g : Nat} {S : Nat → Prop} {m : MachS} (h : LayAt w base g S m) : ∀ b, S b → b < w.heap.size := fun b hb => (h.1 b hb).2
theorem LayAt.not {w : World} {base g : Nat} {S : Nat → Prop} {m : MachS} (h : LayAt w base g S m) {b : Nat} (hb : w.heap.size ≤ b) : ¬ S b := fun h' => by have := h.lt b h'; omega

/-- What became of the world: blocks below base and those not of S stand; new blocks of S' are new. -/
structure Moves (base : Nat) (S : Nat → Prop) (w : World) (S' : Nat → Prop) (w' : World) : Prop where
  below : Below base w w'
  size : w.heap.size ≤ w'.heap.size
  kept : ∀ b, b < w.heap.size → ¬ S b → w'.heap[b]? = w.heap[b]?
  fresh : ∀ b, S' b → S b ∨ w.heap.size ≤ b
theorem Moves.refl (base : Nat) (S : Nat → Prop) (w : World) : Moves base S w S w := ⟨Below.refl _ _, Nat.le_refl _, fun _ _ _ => rfl, fun b hb => .inl hb⟩
theorem Moves.trans {base : Nat} {S S1 S2 : Nat → Prop} {w w1 w2 : World} (h : Moves base S w S1 w1) (h' : Moves base S1 w1 S2 w2) : Moves base S w S2 w2 :=
  ⟨h.below.trans h'.below, Nat.le_trans h.size h'.size, fun b hb hn => by
    have hn1 : ¬ S1 b := fun hb1 => by
      rcases h.fresh b hb1 with h2 | h2
      · exact hn h2
      · omega
    exact (h'.kept b (by have := h.size; omega) hn1).trans (h.kept b hb hn), fun b hb => by
    rcases h'.fresh b hb with h2 | h2
    · exact h.fresh b h2
    · right; have := h.size; omega⟩
theorem Moves.alloc {base : Nat} {S S1 : Nat → Prop} {w w1 : World} (h : Moves base S w S1 w1) (hb : base ≤ w.heap.size) (o : Obj) : Moves base S w S1 (w1.alloc o) :=
  ⟨h.below.alloc (by have := h.size; omega) o, by have := h.size; simp; omega, fun b hb hn => (Below.heap_alloc w1 o b (by have := h.size; omega)).trans (h.kept b hb hn), h.fresh⟩
theorem Moves.drew {base : Nat} {S S1 : Nat → Prop} {w w1 : World} (h : Moves base S w S1 w1) : Moves base S w S1 w1.drew := ⟨h.below.drew, h.size, h.kept, h.fresh⟩
theorem Moves.drewN {base : Nat} {S S1 : Nat → Prop} {w w1 : World} (h : Moves base S w S1 w1) (n : Nat) : Moves base S w S1 (w1.drewN n) := ⟨bel_drewN h.below n, h.size, h.kept, h.fresh⟩
/-- A store to a block of one's own. -/
theorem Moves.set {base : Nat} {S S1 : Nat → Prop} {w w1 : World} (h : Moves base S w S1 w1) {p : Addr} (hp : w.heap.size ≤ p.block) (hb : base ≤ w.heap.size) (u : Value) : Moves base S w S1 (w1.setCell p u) :=
  ⟨h.below.setCell (by omega) u, by have := h.size; simpa [World.setCell] using this, fun b hb hn => (Below.heap_setCell w1 p u b (by omega)).trans (h.kept b hb hn), h.fresh⟩
theorem Blk.moves {base : Nat} {S S1 : Nat → Prop} {w w1 : World} {b : Nat} {t : TypeId} {cs : Array Value} (h : Blk w b t cs) (hm : Moves base S w S1 w1) (hn : ¬ S b) : Blk w1 b t cs := (hm.kept b h.lt hn).trans h
theorem Moves.notIn {base : Nat} {S S1 : Nat → Prop} {w w1 : World} (h : Moves base S w S1 w1) {b : Nat} (hb : b < w.heap.size) (hn : ¬ S b) : ¬ S1 b := fun h1 => by
  rcases h.fresh b h1 with h2 | h2
  · exact hn h2
  · omega
/-- What a call keeps of everything below the heap's end, as far as laying goes. -/
theorem Moves.of_below {base : Nat} {S : Nat → Prop} {w w' : World} (h : Below w.heap.size w w') (hb : base ≤ w.heap.size) : Moves base S w S w' :=
  ⟨h.mono hb, h.size, fun b hb _ => h.block b hb, fun b hb => .inl hb⟩
theorem LayAt.below {w w' : World} {base g : Nat} {S : Nat → Prop} {m : MachS} (h : LayAt w base g S m) (hb : Below w.heap.size w w') : LayAt w' base g S m :=
  h.keep hb.size (fun b hs => hb.block b (h.lt b hs))
/-- Trees that stand below base stay. -/
theorem TreesAt.moves {base : Nat} {S S1 : Nat → Prop} {w w1 : World} {F : Trees} {B : Option Addr} (h : TreesAt w (fun b => b < base) F B) (hm : Moves base S w S1 w1) : TreesAt w1 (fun b => b < base) F B :=
  h.keep (fun b o hb _ => hm.below.cell (p := ⟨b, o, none⟩) hb) (fun b hb _ => hb)
end Go.Proofs.YtfekpkelmliejaaGreatDoor
namespace Go.Proofs.YtfekpkelmliejaaGreatDoor
open Go.RowKit
set_option linter.unusedSimpArgs false
set_option linter.unusedVariables false
set_option maxRecDepth 100000

/-- The cells of blocks of P are as they were. -/
def KeepP (P : Nat → Prop) (w1 w2 : World) : Prop := ∀ b' o', P b' → w2.cell? ⟨b', o', none⟩ = w1.cell? ⟨b', o', none⟩
theorem cell_heap {w w' : World} {b o : Nat} (h : w'.heap[b]? = w.heap[b]?) : w'.cell? ⟨b, o, none⟩ = w.cell? ⟨b, o, none⟩ := by
  simp only [World.cell?, h]
theorem KeepP.refl (P : Nat → Prop) (w : World) : KeepP P w w := fun _ _ _ => rfl
theorem KeepP.start (P : Nat → Prop) (w : World) : KeepP P w w.drew := fun _ _ _ => rfl
theorem KeepP.drew {P : Nat → Prop} {w1 w2 : World} (h : KeepP P w1 w2) : KeepP P w1 w2.drew := h
theorem KeepP.by {P : Nat → Prop} {w1 w2 w3 : World} (h : KeepP P w1 w2) (hk : ∀ b, P b → w3.heap[b]? = w2.heap[b]?) : KeepP P w1 w3 := fun b' o' h' => (cell_heap (hk b' h')).trans (h b' o' h')
theorem KeepP.alloc {P : Nat → Prop} {w1 w2 : World} (h : KeepP P w1 w2) (hP : ∀ b, P b → b < w2.heap.size) (o : Obj) : KeepP P w1 (w2.alloc o) := h.by fun b hb => Below.heap_alloc w2 o b (hP b hb)
theorem KeepP.below {P : Nat → Prop} {w1 w2 w3 : World} (h : KeepP P w1 w2) (hB : Below w2.heap.size w2 w3) (hP : ∀ b, P b → b < w2.heap.size) : KeepP P w1 w3 := h.by fun b hb => hB.block b (hP b hb)
theorem KeepP.moves {P : Nat → Prop} {base : Nat} {S S2 : Nat → Prop} {w1 w2 w3 : World} (h : KeepP P w1 w2) (hv : Moves base S w2 S2 w3) (hP : ∀ b, P b → b < w2.heap.size ∧ ¬ S b) : KeepP P w1 w3 := h.by fun b hb => hv.kept b (hP b hb).1 (hP b hb).2
theorem KeepP.grown {P : Nat → Prop} {w1 w2 w3 : World} {row : Option Nat} (h : KeepP P w1 w2) (hg : w2.grownBy w3 row) (hP : ∀ b, P b → b < w2.heap.size ∧ some b ≠ row) : KeepP P w1 w3 := h.by fun b hb => hg.block b (hP b hb).1 (hP b hb).2
theorem KeepP.set {P : Nat → Prop} {w1 w2 : World} (h : KeepP P w1 w2) {p : Addr} (hP : ∀ b, P b → b ≠ p.block) (u : Value) : KeepP P w1 (w2.setCell p u) := h.by fun b hb => Below.heap_setCell w2 p u b (hP b hb)
theorem two_of {Q : Nat → Prop} {p q : Nat} (hp : Q p) (hq : Q q) : ∀ b, b = p ∨ b = q → Q b := by
  rintro b (rfl | rfl)
  · exact hp
  · exact hq
end Go.Proofs.YtfekpkelmliejaaGreatDoor
namespace Go.Proofs.YtfekpkelmliejaaGreatDoor
open Go.RowKit
set_option linter.unusedSimpArgs false
set_option linter.unusedVariables false
set_option maxRecDepth 100000

theorem Blk.store11 {W : World} {g : Nat} {t : TypeId} {c0 c1 c2 c3 c4 c5 c6 c7 c8 c9 c10 v0 v1 v2 v3 v4 v5 v6 v7 v8 v9 v10 : Value} (h : Blk W g t #[c0, c1, c2, c3, c4, c5, c6, c7, c8, c9, c10]) : Blk (((((((((((W.setCell ⟨g, 0, none⟩ v0).setCell ⟨g, 1, none⟩ v1).setCell ⟨g, 2, none⟩ v2).setCell ⟨g, 3, none⟩ v3).setCell ⟨g, 4, none⟩ v4).setCell ⟨g, 5, none⟩ v5).setCell ⟨g, 6, none⟩ v6).setCell ⟨g, 7, none⟩ v7).setCell ⟨g, 8, none⟩ v8).setCell ⟨g, 9, none⟩ v9).setCell ⟨g, 10, none⟩ v10) g t #[v0, v1, v2, v3, v4, v5, v6, v7, v8, v9, v10] := by
  unfold Blk at h ⊢
  simp [World.setCell, Array.getElem?_modify, h]
theorem below_set11 {W a : World} {B g : Nat} {v0 v1 v2 v3 v4 v5 v6 v7 v8 v9 v10 : Value} (h : Below B a W) (hg : B ≤ g) : Below B a (((((((((((W.setCell ⟨g, 0, none⟩ v0).setCell ⟨g, 1, none⟩ v1).setCell ⟨g, 2, none⟩ v2).setCell ⟨g, 3, none⟩ v3).setCell ⟨g, 4, none⟩ v4).setCell ⟨g, 5, none⟩ v5).setCell ⟨g, 6, none⟩ v6).setCell ⟨g, 7, none⟩ v7).setCell ⟨g, 8, none⟩ v8).setCell ⟨g, 9, none⟩ v9).setCell ⟨g, 10, none⟩ v10) :=
  ((((((((((h.setCell (p := ⟨g, 0, none⟩) hg v0).setCell (p := ⟨g, 1, none⟩) hg v1).setCell (p := ⟨g, 2, none⟩) hg v2).setCell (p := ⟨g, 3, none⟩) hg v3).setCell (p := ⟨g, 4, none⟩) hg v4).setCell (p := ⟨g, 5, none⟩) hg v5).setCell (p := ⟨g, 6, none⟩) hg v6).setCell (p := ⟨g, 7, none⟩) hg v7).setCell (p := ⟨g, 8, none⟩) hg v8).setCell (p := ⟨g, 9, none⟩) hg v9).setCell (p := ⟨g, 10, none⟩) hg v10
theorem KeepP.set11 {P : Nat → Prop} {a W : World} {g : Nat} {v0 v1 v2 v3 v4 v5 v6 v7 v8 v9 v10 : Value} (h : KeepP P a W) (hg : ∀ b, P b → b ≠ g) : KeepP P a (((((((((((W.setCell ⟨g, 0, none⟩ v0).setCell ⟨g, 1, none⟩ v1).setCell ⟨g, 2, none⟩ v2).setCell ⟨g, 3, none⟩ v3).setCell ⟨g, 4, none⟩ v4).setCell ⟨g, 5, none⟩ v5).setCell ⟨g, 6, none⟩ v6).setCell ⟨g, 7, none⟩ v7).setCell ⟨g, 8, none⟩ v8).setCell ⟨g, 9, none⟩ v9).setCell ⟨g, 10, none⟩ v10) :=
  ((((((((((h.set (p := ⟨g, 0, none⟩) hg v0).set (p := ⟨g, 1, none⟩) hg v1).set (p := ⟨g, 2, none⟩) hg v2).set (p := ⟨g, 3, none⟩) hg v3).set (p := ⟨g, 4, none⟩) hg v4).set (p := ⟨g, 5, none⟩) hg v5).set (p := ⟨g, 6, none⟩) hg v6).set (p := ⟨g, 7, none⟩) hg v7).set (p := ⟨g, 8, none⟩) hg v8).set (p := ⟨g, 9, none⟩) hg v9).set (p := ⟨g, 10, none⟩) hg v10
theorem anyOf_two (p q : Nat → Bool) : anyOf [p, q] 2 = orB p q := by funext c; simp [anyOf, orB]
theorem union2_new (p q : Nat → Bool) (w : World) (g : Nat) (hg : g = w.heap.size) :
    Calls Tryz.prog 46 #[.slice (some ⟨g, 0, none⟩) 2 2] (w.alloc (.cells #[.int .u64 ((word (p) 0 : Nat) : Int), .int .u64 ((word (p) 1 : Nat) : Int), .int .u64 ((word (p) 2 : Nat) : Int), .int .u64 ((word (p) 3 : Nat) : Int), .int .u64 ((word (q) 0 : Nat) : Int), .int .u64 ((word (q) 1 : Nat) : Int), .int .u64 ((word (q) 2 : Nat) : Int), .int .u64 ((word (q) 3 : Nat) : Int)] 25)) fun e w' => e = .returned (.agg #[.int .u64 ((word (orB p q) 0 : Nat) : Int), .int .u64 ((word (orB p q) 1 : Nat) : Int), .int .u64 ((word (orB p q) 2 : Nat) : Int), .int .u64 ((word (orB p q) 3 : Nat) : Int)]) ∧ Below w.heap.size w w' := by
  subst hg
  have hB := Blk.new w 25 #[.int .u64 ((word (p) 0 : Nat) : Int), .int .u64 ((word (p) 1 : Nat) : Int), .int .u64 ((word (p) 2 : Nat) : Int), .int .u64 ((word (p) 3 : Nat) : Int), .int .u64 ((word (q) 0 : Nat) : Int), .int .u64 ((word (q) 1 : Nat) : Int), .int .u64 ((word (q) 2 : Nat) : Int), .int .u64 ((word (q) 3 : Nat) : Int)]
  have h := union_any (some ⟨w.heap.size, 0, none⟩) [p, q] 2 (w.alloc (.cells #[.int .u64 ((word (p) 0 : Nat) : Int), .int .u64 ((word (p) 1 : Nat) : Int), .int .u64 ((word (p) 2 : Nat) : Int), .int .u64 ((word (p) 3 : Nat) : Int), .int .u64 ((word (q) 0 : Nat) : Int), .int .u64 ((word (q) 1 : Nat) : Int), .int .u64 ((word (q) 2 : Nat) : Int), .int .u64 ((word (q) 3 : Nat) : Int)] 25)) (fun _ => ⟨w.heap.size, 0, rfl, by simp, fun i r hr => by
    match i, hr with
    | 0, hr => cases hr; exact ⟨hB.cell 0, hB.cell 1, hB.cell 2, hB.cell 3⟩
    | 1, hr => cases hr; exact ⟨hB.cell 4, hB.cell 5, hB.cell 6, hB.cell 7⟩
    | (n + 2), hr => simp at hr⟩) (by simp)
  have e : anyOf [p, q] [p, q].length = orB p q := anyOf_two p q
  rw [e] at h
  exact h.mono fun e w' ⟨he, hb⟩ => ⟨he, ((Below.refl _ _).alloc (Nat.le_refl _) _).trans (hb.mono (by simp))⟩
/-- Where behind stands: the boxes of both, of the result, and of what is put together. -/
structure BehSt (w : World) (A B C : Array Value) (h : Nat) (wx : World) : Prop where
  a : Blk wx w.heap.size 85 A
  b : Blk wx (w.heap.size + 1) 85 B
  r : Blk wx (w.heap.size + 1 + 1) 85 #[.bool false, .int .i64 0, .int .i64 0, .int .u64 0, .int .u64 0, .int .u64 0, .int .u64 0, .int .u64 0, .int .u64 0, .int .u64 0, .int .u64 0]
  c : Blk wx h 85 C
  bel : Below w.heap.size w wx
  lt : w.heap.size + 1 + 1 < h
theorem BehSt.below {w wx w' : World} {A B C : Array Value} {h : Nat} (H : BehSt w A B C h wx) (hb : Below wx.heap.size wx w') : BehSt w A B C h w' :=
  ⟨H.a.below hb H.a.lt, H.b.below hb H.b.lt, H.r.below hb H.r.lt, H.c.below hb H.c.lt, H.bel.trans (hb.mono H.bel.size), H.lt⟩
theorem BehSt.store {w wx : World} {A B C : Array Value} {h : Nat} (H : BehSt w A B C h wx) (i : Nat) (u : Value) : BehSt w A B (C.setIfInBounds i u) h (wx.setCell ⟨h, i, none⟩ u) :=
  ⟨H.a.far (p := ⟨h, i, none⟩) (by have := H.lt; show w.heap.size ≠ h; omega) u, H.b.far (p := ⟨h, i, none⟩) (by have := H.lt; show w.heap.size + 1 ≠ h; omega) u, H.r.far (p := ⟨h, i, none⟩) (by have := H.lt; show w.heap.size + 1 + 1 ≠ h; omega) u, H.c.set_ i u, H.bel.setCell (p := ⟨h, i, none⟩) (by have := H.lt; show w.heap.size ≤ h; omega) u, H.lt⟩
theorem BehSt.first {w wx : World} {A B : Array Value} {h : Nat} {p q r : Value} {f l : Nat → Bool} (H : BehSt w A B #[p, q, r, .int .u64 ((word (f) 0 : Nat) : Int), .int .u64 ((word (f) 1 : Nat) : Int), .int .u64 ((word (f) 2 : Nat) : Int), .int .u64 ((word (f) 3 : Nat) : Int), .int .u64 ((word (l) 0 : Nat) : Int), .int .u64 ((word (l) 1 : Nat) : Int), .int .u64 ((word (l) 2 : Nat) : Int), .int .u64 ((word (l) 3 : Nat) : Int)] h wx) (g : Nat → Bool) : BehSt w A B #[p, q, r, .int .u64 ((word (g) 0 : Nat) : Int), .int .u64 ((word (g) 1 : Nat) : Int), .int .u64 ((word (g) 2 : Nat) : Int), .int .u64 ((word (g) 3 : Nat) : Int), .int .u64 ((word (l) 0 : Nat) : Int), .int .u64 ((word (l) 1 : Nat) : Int), .int .u64 ((word (l) 2 : Nat) : Int), .int .u64 ((word (l) 3 : Nat) : Int)] h ((((wx.setCell ⟨h, 3, none⟩ (.int .u64 ((word g 0 : Nat) : Int))).setCell ⟨h, 4, none⟩ (.int .u64 ((word g 1 : Nat) : Int))).setCell ⟨h, 5, none⟩ (.int .u64 ((word g 2 : Nat) : Int))).setCell ⟨h, 6, none⟩ (.int .u64 ((word g 3 : Nat) : Int))) :=
  (((H.store 3 (.int .u64 ((word g 0 : Nat) : Int))).store 4 (.int .u64 ((word g 1 : Nat) : Int))).store 5 (.int .u64 ((word g 2 : Nat) : Int))).store 6 (.int .u64 ((word g 3 : Nat) : Int))
theorem BehSt.last {w wx : World} {A B : Array Value} {h : Nat} {p q r : Value} {f l : Nat → Bool} (H : BehSt w A B #[p, q, r, .int .u64 ((word (f) 0 : Nat) : Int), .int .u64 ((word (f) 1 : Nat) : Int), .int .u64 ((word (f) 2 : Nat) : Int), .int .u64 ((word (f) 3 : Nat) : Int), .int .u64 ((word (l) 0 : Nat) : Int), .int .u64 ((word (l) 1 : Nat) : Int), .int .u64 ((word (l) 2 : Nat) : Int), .int .u64 ((word (l) 3 : Nat) : Int)] h wx) (g : Nat → Bool) : BehSt w A B #[p, q, r, .int .u64 ((word (f) 0 : Nat) : Int), .int .u64 ((word (f) 1 : Nat) : Int), .int .u64 ((word (f) 2 : Nat) : Int), .int .u64 ((word (f) 3 : Nat) : Int), .int .u64 ((word (g) 0 : Nat) : Int), .int .u64 ((word (g) 1 : Nat) : Int), .int .u64 ((word (g) 2 : Nat) : Int), .int .u64 ((word (g) 3 : Nat) : Int)] h ((((wx.setCell ⟨h, 7, none⟩ (.int .u64 ((word g 0 : Nat) : Int))).setCell ⟨h, 8, none⟩ (.int .u64 ((word g 1 : Nat) : Int))).setCell ⟨h, 9, none⟩ (.int .u64 ((word g 2 : Nat) : Int))).setCell ⟨h, 10, none⟩ (.int .u64 ((word g 3 : Nat) : Int))) :=
  (((H.store 7 (.int .u64 ((word g 0 : Nat) : Int))).store 8 (.int .u64 ((word g 1 : Nat) : Int))).store 9 (.int .u64 ((word g 2 : Nat) : Int))).store 10 (.int .u64 ((word g 3 : Nat) : Int))
/-- Both say words: lengths and bytes. -/
def BehindAt (x1 y1 x2 y2 : Int) (f1 l2 : Nat → Bool) (w2 : World) (u : Value) (wx : World) : Prop := ∃ h, u = .pointer (some ⟨h, 0, none⟩) ∧ Blk wx h 85 #[.bool false, .int .i64 (addF x1 x2), .int .i64 (addF y1 y2), .int .u64 ((word (f1) 0 : Nat) : Int), .int .u64 ((word (f1) 1 : Nat) : Int), .int .u64 ((word (f1) 2 : Nat) : Int), .int .u64 ((word (f1) 3 : Nat) : Int), .int .u64 ((word (l2) 0 : Nat) : Int), .int .u64 ((word (l2) 1 : Nat) : Int), .int .u64 ((word (l2) 2 : Nat) : Int), .int .u64 ((word (l2) 3 : Nat) : Int)] ∧ Below w2.heap.size w2 wx ∧ w2.heap.size ≤ h
set_option maxHeartbeats 8000000 in
theorem behind_words (x1 y1 x2 y2 : Int) (f1 l1 f2 l2 : Nat → Bool) (w : World) (hs1 : SumOk ⟨false, x1, y1, f1, l1⟩) (hs2 : SumOk ⟨false, x2, y2, f2, l2⟩) :
    Calls Tryz.prog 149 #[.agg #[.bool false, .int .i64 x1, .int .i64 y1, .int .u64 ((word (f1) 0 : Nat) : Int), .int .u64 ((word (f1) 1 : Nat) : Int), .int .u64 ((word (f1) 2 : Nat) : Int), .int .u64 ((word (f1) 3 : Nat) : Int), .int .u64 ((word (l1) 0 : Nat) : Int), .int .u64 ((word (l1) 1 : Nat) : Int), .int .u64 ((word (l1) 2 : Nat) : Int), .int .u64 ((word (l1) 3 : Nat) : Int)], .agg #[.bool false, .int .i64 x2, .int .i64 y2, .int .u64 ((word (f2) 0 : Nat) : Int), .int .u64 ((word (f2) 1 : Nat) : Int), .int .u64 ((word (f2) 2 : Nat) : Int), .int .u64 ((word (f2) 3 : Nat) : Int), .int .u64 ((word (l2) 0 : Nat) : Int), .int .u64 ((word (l2) 1 : Nat) : Int), .int .u64 ((word (l2) 2 : Nat) : Int), .int .u64 ((word (l2) 3 : Nat) : Int)]] w fun e w' => e = .returned (sumV (behindF ⟨false, x1, y1, f1, l1⟩ ⟨false, x2, y2, f2, l2⟩)) ∧ Below w.heap.size w w' := by
  have p1 := hs1.short rfl
  have p2 := hs1.long rfl
  have p3 := hs2.short rfl
  have p4 := hs2.long rfl
  dsimp only at p1 p2 p3 p4
  have te : topI ≤ endF := by decide
  have ha1 : 0 ≤ x1 ∧ x1 ≤ endF := by omega
  have hb1 : 0 ≤ x2 ∧ x2 ≤ endF := by omega
  have ha2 : 0 ≤ y1 ∧ y1 ≤ endF := by omega
  have hb2 : 0 ≤ y2 ∧ y2 ≤ endF := by omega
  have HA1 := Lib.hid ha1
  have HB1' := Lib.hid hb1
  have hb : Below w.heap.size w (((w.alloc (.cells #[.bool false, .int .i64 x1, .int .i64 y1, .int .u64 ((word (f1) 0 : Nat) : Int), .int .u64 ((word (f1) 1 : Nat) : Int), .int .u64 ((word (f1) 2 : Nat) : Int), .int .u64 ((word (f1) 3 : Nat) : Int), .int .u64 ((word (l1) 0 : Nat) : Int), .int .u64 ((word (l1) 1 : Nat) : Int), .int .u64 ((word (l1) 2 : Nat) : Int), .int .u64 ((word (l1) 3 : Nat) : Int)] 85)).alloc (.cells #[.bool false, .int .i64 x2, .int .i64 y2, .int .u64 ((word (f2) 0 : Nat) : Int), .int .u64 ((word (f2) 1 : Nat) : Int), .int .u64 ((word (f2) 2 : Nat) : Int), .int .u64 ((word (f2) 3 : Nat) : Int), .int .u64 ((word (l2) 0 : Nat) : Int), .int .u64 ((word (l2) 1 : Nat) : Int), .int .u64 ((word (l2) 2 : Nat) : Int), .int .u64 ((word (l2) 3 : Nat) : Int)] 85)).alloc (.cells #[.bool false, .int .i64 0, .int .i64 0, .int .u64 0, .int .u64 0, .int .u64 0, .int .u64 0, .int .u64 0, .int .u64 0, .int .u64 0, .int .u64 0] 85)) := (((Below.refl _ _).alloc (Nat.le_refl _) _).alloc (by simp) _).alloc (by simp; omega) _
  have HB := Lib.hid hb
  have HXA := Lib.hid (((Blk.new w 85 #[.bool false, .int .i64 x1, .int .i64 y1, .int .u64 ((word (f1) 0 : Nat) : Int), .int .u64 ((word (f1) 1 : Nat) : Int), .int .u64 ((word (f1) 2 : Nat) : Int), .int .u64 ((word (f1) 3 : Nat) : Int), .int .u64 ((word (l1) 0 : Nat) : Int), .int .u64 ((word (l1) 1 : Nat) : Int), .int .u64 ((word (l1) 2 : Nat) : Int), .int .u64 ((word (l1) 3 : Nat) : Int)]).alloc (.cells #[.bool false, .int .i64 x2, .int .i64 y2, .int .u64 ((word (f2) 0 : Nat) : Int), .int .u64 ((word (f2) 1 : Nat) : Int), .int .u64 ((word (f2) 2 : Nat) : Int), .int .u64 ((word (f2) 3 : Nat) : Int), .int .u64 ((word (l2) 0 : Nat) : Int), .int .u64 ((word (l2) 1 : Nat) : Int), .int .u64 ((word (l2) 2 : Nat) : Int), .int .u64 ((word (l2) 3 : Nat) : Int)] 85)).alloc (.cells #[.bool false, .int .i64 0, .int .i64 0, .int .u64 0, .int .u64 0, .int .u64 0, .int .u64 0, .int .u64 0, .int .u64 0, .int .u64 0, .int .u64 0] 85))
  have HXB := Lib.hid ((show Blk ((w.alloc (.cells #[.bool false, .int .i64 x1, .int .i64 y1, .int .u64 ((word (f1) 0 : Nat) : Int), .int .u64 ((word (f1) 1 : Nat) : Int), .int .u64 ((word (f1) 2 : Nat) : Int), .int .u64 ((word (f1) 3 : Nat) : Int), .int .u64 ((word (l1) 0 : Nat) : Int), .int .u64 ((word (l1) 1 : Nat) : Int), .int .u64 ((word (l1) 2 : Nat) : Int), .int .u64 ((word (l1) 3 : Nat) : Int)] 85)).alloc (.cells #[.bool false, .int .i64 x2, .int .i64 y2, .int .u64 ((word (f2) 0 : Nat) : Int), .int .u64 ((word (f2) 1 : Nat) : Int), .int .u64 ((word (f2) 2 : Nat) : Int), .int .u64 ((word (f2) 3 : Nat) : Int), .int .u64 ((word (l2) 0 : Nat) : Int), .int .u64 ((word (l2) 1 : Nat) : Int), .int .u64 ((word (l2) 2 : Nat) : Int), .int .u64 ((word (l2) 3 : Nat) : Int)] 85)) (w.heap.size + 1) 85 #[.bool false, .int .i64 x2, .int .i64 y2, .int .u64 ((word (f2) 0 : Nat) : Int), .int .u64 ((word (f2) 1 : Nat) : Int), .int .u64 ((word (f2) 2 : Nat) : Int), .int .u64 ((word (f2) 3 : Nat) : Int), .int .u64 ((word (l2) 0 : Nat) : Int), .int .u64 ((word (l2) 1 : Nat) : Int), .int .u64 ((word (l2) 2 : Nat) : Int), .int .u64 ((word (l2) 3 : Nat) : Int)] from Blk.new_at (by simp)).alloc (.cells #[.bool false, .int .i64 0, .int .i64 0, .int .u64 0, .int .u64 0, .int .u64 0, .int .u64 0, .int .u64 0, .int .u64 0, .int .u64 0, .int .u64 0] 85))
  have HXR := Lib.hid (show Blk (((w.alloc (.cells #[.bool false, .int .i64 x1, .int .i64 y1, .int .u64 ((word (f1) 0 : Nat) : Int), .int .u64 ((word (f1) 1 : Nat) : Int), .int .u64 ((word (f1) 2 : Nat) : Int), .int .u64 ((word (f1) 3 : Nat) : Int), .int .u64 ((word (l1) 0 : Nat) : Int), .int .u64 ((word (l1) 1 : Nat) : Int), .int .u64 ((word (l1) 2 : Nat) : Int), .int .u64 ((word (l1) 3 : Nat) : Int)] 85)).alloc (.cells #[.bool false, .int .i64 x2, .int .i64 y2, .int .u64 ((word (f2) 0 : Nat) : Int), .int .u64 ((word (f2) 1 : Nat) : Int), .int .u64 ((word (f2) 2 : Nat) : Int), .int .u64 ((word (f2) 3 : Nat) : Int), .int .u64 ((word (l2) 0 : Nat) : Int), .int .u64 ((word (l2) 1 : Nat) : Int), .int .u64 ((word (l2) 2 : Nat) : Int), .int .u64 ((word (l2) 3 : Nat) : Int)] 85)).alloc (.cells #[.bool false, .int .i64 0, .int .i64 0, .int .u64 0, .int .u64 0, .int .u64 0, .int .u64 0, .int .u64 0, .int .u64 0, .int .u64 0, .int .u64 0] 85)) (w.heap.size + 1 + 1) 85 #[.bool false, .int .i64 0, .int .i64 0, .int .u64 0, .int .u64 0, .int .u64 0, .int .u64 0, .int .u64 0, .int .u64 0, .int .u64 0, .int .u64 0] from Blk.new_at (by simp))
  have HV := Lib.hid (behind_full (a := ⟨false, x1, y1, f1, l1⟩) (b := ⟨false, x2, y2, f2, l2⟩) rfl rfl)
  clear hb p1 p2 p3 p4 te hs1 hs2
  go_enter Tryz.func149, Tryz.ntmps149
  go_upto_region 3 with fail
  generalize (((w.alloc (.cells #[.bool false, .int .i64 x1, .int .i64 y1, .int .u64 ((word (f1) 0 : Nat) : Int), .int .u64 ((word (f1) 1 : Nat) : Int), .int .u64 ((word (f1) 2 : Nat) : Int), .int .u64 ((word (f1) 3 : Nat) : Int), .int .u64 ((word (l1) 0 : Nat) : Int), .int .u64 ((word (l1) 1 : Nat) : Int), .int .u64 ((word (l1) 2 : Nat) : Int), .int .u64 ((word (l1) 3 : Nat) : Int)] 85)).alloc (.cells #[.bool false, .int .i64 x2, .int .i64 y2, .int .u64 ((word (f2) 0 : Nat) : Int), .int .u64 ((word (f2) 1 : Nat) : Int), .int .u64 ((word (f2) 2 : Nat) : Int), .int .u64 ((word (f2) 3 : Nat) : Int), .int .u64 ((word (l2) 0 : Nat) : Int), .int .u64 ((word (l2) 1 : Nat) : Int), .int .u64 ((word (l2) 2 : Nat) : Int), .int .u64 ((word (l2) 3 : Nat) : Int)] 85)).alloc (.cells #[.bool false, .int .i64 0, .int .i64 0, .int .u64 0, .int .u64 0, .int .u64 0, .int .u64 0, .int .u64 0, .int .u64 0, .int .u64 0, .int .u64 0] 85)) = w2 at *
  have a1 := HXA.out.cell 1
  have a2 := HXA.out.cell 2
  have a3 := HXA.out.cell 3
  have a4 := HXA.out.cell 4
  have a5 := HXA.out.cell 5
  have a6 := HXA.out.cell 6
  have b1 := HXB.out.cell 1
  have b2 := HXB.out.cell 2
  have b7 := HXB.out.cell 7
  have b8 := HXB.out.cell 8
  have b9 := HXB.out.cell 9
  have b10 := HXB.out.cell 10
  have hla := HXA.out.lt
  have hlb := HXB.out.lt
  simp only [List.getElem?_toArray, List.getElem?_cons_zero, List.getElem?_cons_succ] at a1 a2 a3 a4 a5 a6 b1 b2 b7 b8 b9 b10
  go_cut [5] from 6 (fun u5 wx => BehindAt x1 y1 x2 y2 f1 l2 w2 u5 wx)
  case first =>
    have hKl := two_of (Q := fun b => b < w2.heap.size) hla hlb
    have HB0 := Lib.hid ((Below.refl w2.heap.size w2).drew)
    have hk0 : KeepP (fun b' => b' = w.heap.size ∨ b' = w.heap.size + 1) w2 w2.drew := KeepP.start (fun b' => b' = w.heap.size ∨ b' = w.heap.size + 1) w2
    have hKs0 := fun b (hb : (fun b' => b' = w.heap.size ∨ b' = w.heap.size + 1) b) => hKl b hb
    refine wp_region_held_drew (S := fun w' => ∀ b' o', b' = w.heap.size ∨ b' = w.heap.size + 1 → w'.cell? ⟨b', o', none⟩ = w2.cell? ⟨b', o', none⟩) (by kernel_rfl) (KeepP.start (fun b' => b' = w.heap.size ∨ b' = w.heap.size + 1) w2) (fun hHeld => ?_)
    refine wpAnyH_take (i := 0) (oi := _) (v := ?_) rfl (by kernel_rfl) (by kernel_rfl) (by kernel_rfl) (fun _ _ _ h => h) (Or.inl ⟨by kernel_rfl, ?_⟩) (by assumption) ?_
    rotate_left
    · intro w hSw
      try dsimp only at hSw
      go_simp
      try (with_reducible rfl)
    try simp only [Act.put, List.getElem_toArray, List.getElem_cons_zero, List.getElem_cons_succ, List.setIfInBounds_toArray, List.set_cons_zero, List.set_cons_succ]
    refine wpAnyH_take (i := 1) (oi := _) (v := ?_) rfl (by kernel_rfl) (by kernel_rfl) (by kernel_rfl) (fun _ _ _ h => h) (Or.inl ⟨by kernel_rfl, ?_⟩) (by assumption) ?_
    rotate_left
    · intro w hSw
      try dsimp only at hSw
      go_simp
      try (with_reducible rfl)
    try simp only [Act.put, List.getElem_toArray, List.getElem_cons_zero, List.getElem_cons_succ, List.setIfInBounds_toArray, List.set_cons_zero, List.set_cons_succ]
    refine wpAnyH_take (i := 2) (oi := _) (v := ?_) rfl (by kernel_rfl) (by kernel_rfl) (by kernel_rfl) (fun _ _ _ h => h) (Or.inl ⟨by kernel_rfl, ?_⟩) (by assumption) ?_
    rotate_left
    · intro w hSw
      try dsimp only at hSw
      go_simp
      try (with_reducible rfl)
    try simp only [Act.put, List.getElem_toArray, List.getElem_cons_zero, List.getElem_cons_succ, List.setIfInBounds_toArray, List.set_cons_zero, List.set_cons_succ]
    refine wpAnyH_take (i := 3) (oi := _) (v := ?_) rfl (by kernel_rfl) (by kernel_rfl) (by kernel_rfl) (fun _ _ _ h => h) (Or.inl ⟨by kernel_rfl, ?_⟩) (by assumption) ?_
    rotate_left
    · intro w hSw
      try dsimp only at hSw
      go_simp
      try (with_reducible rfl)
    try simp only [Act.put, List.getElem_toArray, List.getElem_cons_zero, List.getElem_cons_succ, List.setIfInBounds_toArray, List.set_cons_zero, List.set_cons_succ]
    refine wpAnyH_take (i := 5) (oi := _) (v := ?_) rfl (by kernel_rfl) (by kernel_rfl) (by kernel_rfl) (fun _ _ _ h => h) (Or.inl ⟨by kernel_rfl, ?_⟩) (by assumption) ?_
    rotate_left
    · intro w hSw
      try dsimp only at hSw
      go_simp
      try (with_reducible rfl)
    try simp only [Act.put, List.getElem_toArray, List.getElem_cons_zero, List.getElem_cons_succ, List.setIfInBounds_toArray, List.set_cons_zero, List.set_cons_succ]
    refine wpAnyH_take (i := 6) (oi := _) (v := ?_) rfl (by kernel_rfl) (by kernel_rfl) (by kernel_rfl) (fun _ _ _ h => h) (Or.inl ⟨by kernel_rfl, ?_⟩) (by assumption) ?_
    rotate_left
    · intro w hSw
      try dsimp only at hSw
      go_simp
      try (with_reducible rfl)
    try simp only [Act.put, List.getElem_toArray, List.getElem_cons_zero, List.getElem_cons_succ, List.setIfInBounds_toArray, List.set_cons_zero, List.set_cons_succ]
    refine wpAnyH_take (i := 7) (oi := _) (v := ?_) rfl (by kernel_rfl) (by kernel_rfl) (by kernel_rfl) (fun _ _ _ h => h) (Or.inl ⟨by kernel_rfl, ?_⟩) (by assumption) ?_
    rotate_left
    · intro w hSw
      try dsimp only at hSw
      go_simp
      try (with_reducible rfl)
    try simp only [Act.put, List.getElem_toArray, List.getElem_cons_zero, List.getElem_cons_succ, List.setIfInBounds_toArray, List.set_cons_zero, List.set_cons_succ]
    refine wpAnyH_take (i := 8) (oi := _) (v := ?_) rfl (by kernel_rfl) (by kernel_rfl) (by kernel_rfl) (fun _ _ _ h => h) (Or.inl ⟨by kernel_rfl, ?_⟩) (by assumption) ?_
    rotate_left
    · intro w hSw
      try dsimp only at hSw
      go_simp
      try (with_reducible rfl)
    try simp only [Act.put, List.getElem_toArray, List.getElem_cons_zero, List.getElem_cons_succ, List.setIfInBounds_toArray, List.set_cons_zero, List.set_cons_succ]
    refine wpAnyH_take (i := 10) (oi := _) (v := ?_) rfl (by kernel_rfl) (by kernel_rfl) (by kernel_rfl) (fun _ _ _ h => h) (Or.inl ⟨by kernel_rfl, ?_⟩) (by assumption) ?_
    rotate_left
    · intro w hSw
      try dsimp only at hSw
      go_simp
      try (with_reducible rfl)
    try simp only [Act.put, List.getElem_toArray, List.getElem_cons_zero, List.getElem_cons_succ, List.setIfInBounds_toArray, List.set_cons_zero, List.set_cons_succ]
    refine wpAnyH_take (i := 11) (oi := _) (v := ?_) rfl (by kernel_rfl) (by kernel_rfl) (by kernel_rfl) (fun _ _ _ h => h) (Or.inl ⟨by kernel_rfl, ?_⟩) (by assumption) ?_
    rotate_left
    · intro w hSw
      try dsimp only at hSw
      go_simp
      try (with_reducible rfl)
    try simp only [Act.put, List.getElem_toArray, List.getElem_cons_zero, List.getElem_cons_succ, List.setIfInBounds_toArray, List.set_cons_zero, List.set_cons_succ]
    refine wpAnyH_take (i := 12) (oi := _) (v := ?_) rfl (by kernel_rfl) (by kernel_rfl) (by kernel_rfl) (fun _ _ _ h => h) (Or.inl ⟨by kernel_rfl, ?_⟩) (by assumption) ?_
    rotate_left
    · intro w hSw
      try dsimp only at hSw
      go_simp
      try (with_reducible rfl)
    try simp only [Act.put, List.getElem_toArray, List.getElem_cons_zero, List.getElem_cons_succ, List.setIfInBounds_toArray, List.set_cons_zero, List.set_cons_succ]
    refine wpAnyH_take (i := 13) (oi := _) (v := ?_) rfl (by kernel_rfl) (by kernel_rfl) (by kernel_rfl) (fun _ _ _ h => h) (Or.inl ⟨by kernel_rfl, ?_⟩) (by assumption) ?_
    rotate_left
    · intro w hSw
      try dsimp only at hSw
      go_simp
      try (with_reducible rfl)
    try simp only [Act.put, List.getElem_toArray, List.getElem_cons_zero, List.getElem_cons_succ, List.setIfInBounds_toArray, List.set_cons_zero, List.set_cons_succ]
    clear a1 a2 a3 a4 a5 a6 b1 b2 b7 b8 b9 b10
    refine wpAnyH_ready (rs := [4, 15]) (by kernel_rfl) (by simp) ?_
    refine AllReadyH.cons (o := _) rfl (fun K hK => ?_) (AllReadyH.cons (o := _) rfl (fun K hK => ?_) AllReadyH.nil)
    · skip
      go_simp
      go_at_call 196
      refine (fadd_go _ _ _ ha1 hb1).mono ?_
      rintro e v1 ⟨rfl, hbc⟩
      have HB1 := Lib.hid (HB0.out.trans (hbc.mono HB0.out.size))
      have hKs1 := fun b (hb : (fun b' => b' = w.heap.size ∨ b' = w.heap.size + 1) b) => Nat.lt_of_lt_of_le (hKl b hb) HB1.out.size
      have hk1 := KeepP.below hk0 hbc hKs0
      clear hbc
      refine hK.out _ _ hk1 (fun _ => ?_)
      clear hK K
      try simp only [Act.put, List.getElem_toArray, List.getElem_cons_zero, List.getElem_cons_succ, List.setIfInBounds_toArray, List.set_cons_zero, List.set_cons_succ]
      refine wpAnyH_ready (rs := [9, 15]) (by kernel_rfl) (by simp) ?_
      refine AllReadyH.cons (o := _) rfl (fun K hK => ?_) (AllReadyH.cons (o := _) rfl (fun K hK => ?_) AllReadyH.nil)
      · skip
        go_simp
        go_at_call 196
        refine (fadd_go _ _ _ ha2 hb2).mono ?_
        rintro e v2 ⟨rfl, hbc⟩
        have HB2 := Lib.hid (HB1.out.trans (hbc.mono HB1.out.size))
        have hKs2 := fun b (hb : (fun b' => b' = w.heap.size ∨ b' = w.heap.size + 1) b) => Nat.lt_of_lt_of_le (hKl b hb) HB2.out.size
        have hk2 := KeepP.below hk1 hbc hKs1
        clear hbc
        refine hK.out _ _ hk2 (fun _ => ?_)
        clear hK K
        try simp only [Act.put, List.getElem_toArray, List.getElem_cons_zero, List.getElem_cons_succ, List.setIfInBounds_toArray, List.set_cons_zero, List.set_cons_succ]
        refine wpAnyH_take (i := 14) (oi := _) (v := ?_) rfl (by kernel_rfl) (by kernel_rfl) (by kernel_rfl) (fun _ _ _ h => h) (Or.inl ⟨by kernel_rfl, ?_⟩) (by assumption) ?_
        rotate_left
        · intro w hSw
          try dsimp only at hSw
          go_simp
          try (with_reducible rfl)
        try simp only [Act.put, List.getElem_toArray, List.getElem_cons_zero, List.getElem_cons_succ, List.setIfInBounds_toArray, List.set_cons_zero, List.set_cons_succ]
        refine wpAnyH_ready (rs := [15]) (by kernel_rfl) (by simp) ?_
        refine AllReadyH.cons (o := _) rfl (fun K hK => ?_) AllReadyH.nil
        go_simp
        have HB3 := Lib.hid (HB2.out.alloc HB2.out.size (.cells #[.bool false, .int .i64 0, .int .i64 0, .int .u64 0, .int .u64 0, .int .u64 0, .int .u64 0, .int .u64 0, .int .u64 0, .int .u64 0, .int .u64 0] 85))
        have hKs3 := fun b (hb : (fun b' => b' = w.heap.size ∨ b' = w.heap.size + 1) b) => Nat.lt_of_lt_of_le (hKl b hb) HB3.out.size
        have hk3 := KeepP.alloc hk2 hKs2 (.cells #[.bool false, .int .i64 0, .int .i64 0, .int .u64 0, .int .u64 0, .int .u64 0, .int .u64 0, .int .u64 0, .int .u64 0, .int .u64 0, .int .u64 0] 85)
        have HX3 := Lib.hid (show Blk ((v2).alloc (.cells #[.bool false, .int .i64 0, .int .i64 0, .int .u64 0, .int .u64 0, .int .u64 0, .int .u64 0, .int .u64 0, .int .u64 0, .int .u64 0, .int .u64 0] 85)) v2.heap.size 85 #[.bool false, .int .i64 0, .int .i64 0, .int .u64 0, .int .u64 0, .int .u64 0, .int .u64 0, .int .u64 0, .int .u64 0, .int .u64 0, .int .u64 0] from Blk.new (v2) 85 #[.bool false, .int .i64 0, .int .i64 0, .int .u64 0, .int .u64 0, .int .u64 0, .int .u64 0, .int .u64 0, .int .u64 0, .int .u64 0, .int .u64 0])
        refine hK.out _ _ hk3 (fun _ => ?_)
        clear hK K
        try simp only [Act.put, List.getElem_toArray, List.getElem_cons_zero, List.getElem_cons_succ, List.setIfInBounds_toArray, List.set_cons_zero, List.set_cons_succ]
        refine wpAnyH_ready (rs := [16]) (by kernel_rfl) (by simp) ?_
        refine AllReadyH.cons (o := _) rfl (fun K hK => ?_) AllReadyH.nil
        go_simp
        refine hK.out _ _ (KeepP.alloc hk2 (hKs2) _) (fun _ => ?_)
        clear hK K
        try simp only [Act.put, List.getElem_toArray, List.getElem_cons_zero, List.getElem_cons_succ, List.setIfInBounds_toArray, List.set_cons_zero, List.set_cons_succ]
        refine wpAnyH_done (by kernel_rfl) ?_ _
        go_wp2_with fail
        go_meet
        exact ⟨v2.heap.size, rfl, Blk.new _ _ _, HB2.out.alloc HB2.out.size _, HB2.out.size⟩
      · skip
        go_simp
        have HB2 := Lib.hid (HB1.out.alloc HB1.out.size (.cells #[.bool false, .int .i64 0, .int .i64 0, .int .u64 0, .int .u64 0, .int .u64 0, .int .u64 0, .int .u64 0, .int .u64 0, .int .u64 0, .int .u64 0] 85))
        have hKs2 := fun b (hb : (fun b' => b' = w.heap.size ∨ b' = w.heap.size + 1) b) => Nat.lt_of_lt_of_le (hKl b hb) HB2.out.size
        have hk2 := KeepP.alloc hk1 hKs1 (.cells #[.bool false, .int .i64 0, .int .i64 0, .int .u64 0, .int .u64 0, .int .u64 0, .int .u64 0, .int .u64 0, .int .u64 0, .int .u64 0, .int .u64 0] 85)
        have HX2 := Lib.hid (show Blk ((v1).alloc (.cells #[.bool false, .int .i64 0, .int .i64 0, .int .u64 0, .int .u64 0, .int .u64 0, .int .u64 0, .int .u64 0, .int .u64 0, .int .u64 0, .int .u64 0] 85)) v1.heap.size 85 #[.bool false, .int .i64 0, .int .i64 0, .int .u64 0, .int .u64 0, .int .u64 0, .int .u64 0, .int .u64 0, .int .u64 0, .int .u64 0, .int .u64 0] from Blk.new (v1) 85 #[.bool false, .int .i64 0, .int .i64 0, .int .u64 0, .int .u64 0, .int .u64 0, .int .u64 0, .int .u64 0, .int .u64 0, .int .u64 0, .int .u64 0])
        refine hK.out _ _ hk2 (fun _ => ?_)
        clear hK K
        try simp only [Act.put, List.getElem_toArray, List.getElem_cons_zero, List.getElem_cons_succ, List.setIfInBounds_toArray, List.set_cons_zero, List.set_cons_succ]
        refine wpAnyH_ready (rs := [9]) (by kernel_rfl) (by simp) ?_
        refine AllReadyH.cons (o := _) rfl (fun K hK => ?_) AllReadyH.nil
        go_simp
        go_at_call 196
        refine (fadd_go _ _ _ ha2 hb2).mono ?_
        rintro e v3 ⟨rfl, hbc⟩
        have HB3 := Lib.hid (HB2.out.trans (hbc.mono HB2.out.size))
        have hKs3 := fun b (hb : (fun b' => b' = w.heap.size ∨ b' = w.heap.size + 1) b) => Nat.lt_of_lt_of_le (hKl b hb) HB3.out.size
        have hk3 := KeepP.below hk2 hbc hKs2
        have HX3 := Lib.hid (HX2.out.below hbc HX2.out.lt)
        clear hbc
        refine hK.out _ _ hk3 (fun _ => ?_)
        clear hK K
        try simp only [Act.put, List.getElem_toArray, List.getElem_cons_zero, List.getElem_cons_succ, List.setIfInBounds_toArray, List.set_cons_zero, List.set_cons_succ]
        refine wpAnyH_take (i := 14) (oi := _) (v := ?_) rfl (by kernel_rfl) (by kernel_rfl) (by kernel_rfl) (fun _ _ _ h => h) (Or.inl ⟨by kernel_rfl, ?_⟩) (by assumption) ?_
        rotate_left
        · intro w hSw
          try dsimp only at hSw
          go_simp
          try (with_reducible rfl)
        try simp only [Act.put, List.getElem_toArray, List.getElem_cons_zero, List.getElem_cons_succ, List.setIfInBounds_toArray, List.set_cons_zero, List.set_cons_succ]
        obtain ⟨e0, e1, e2, e3, e4, e5, e6, e7, e8, e9, e10⟩ := (HX3.out).c11r
        obtain ⟨f0, f1, f2, f3, f4, f5, f6, f7, f8, f9, f10⟩ := (HX3.out).f11r
        refine wpAnyH_ready (rs := [16]) (by kernel_rfl) (by simp) ?_
        refine AllReadyH.cons (o := _) rfl (fun K hK => ?_) AllReadyH.nil
        go_simp
        have hge : w2.heap.size ≤ v1.heap.size := HB1.out.size
        refine hK.out _ _ (KeepP.set11 hk3 (fun b hb e => absurd (hKl b hb) (by rw [e]; exact Nat.not_lt.2 hge))) (fun _ => ?_)
        clear hK K
        try simp only [Act.put, List.getElem_toArray, List.getElem_cons_zero, List.getElem_cons_succ, List.setIfInBounds_toArray, List.set_cons_zero, List.set_cons_succ]
        refine wpAnyH_done (by kernel_rfl) ?_ _
        go_wp2_with fail
        go_meet
        exact ⟨v1.heap.size, rfl, Blk.store11 HX3.out, below_set11 HB3.out hge, hge⟩
    · skip
      go_simp
      have HB1 := Lib.hid (HB0.out.alloc HB0.out.size (.cells #[.bool false, .int .i64 0, .int .i64 0, .int .u64 0, .int .u64 0, .int .u64 0, .int .u64 0, .int .u64 0, .int .u64 0, .int .u64 0, .int .u64 0] 85))
      have hKs1 := fun b (hb : (fun b' => b' = w.heap.size ∨ b' = w.heap.size + 1) b) => Nat.lt_of_lt_of_le (hKl b hb) HB1.out.size
      have hk1 := KeepP.alloc hk0 hKs0 (.cells #[.bool false, .int .i64 0, .int .i64 0, .int .u64 0, .int .u64 0, .int .u64 0, .int .u64 0, .int .u64 0, .int .u64 0, .int .u64 0, .int .u64 0] 85)
      have HX1 := Lib.hid (show Blk ((w2.drew).alloc (.cells #[.bool false, .int .i64 0, .int .i64 0, .int .u64 0, .int .u64 0, .int .u64 0, .int .u64 0, .int .u64 0, .int .u64 0, .int .u64 0, .int .u64 0] 85)) w2.heap.size 85 #[.bool false, .int .i64 0, .int .i64 0, .int .u64 0, .int .u64 0, .int .u64 0, .int .u64 0, .int .u64 0, .int .u64 0, .int .u64 0, .int .u64 0] from Blk.new (w2.drew) 85 #[.bool false, .int .i64 0, .int .i64 0, .int .u64 0, .int .u64 0, .int .u64 0, .int .u64 0, .int .u64 0, .int .u64 0, .int .u64 0, .int .u64 0])
      refine hK.out _ _ hk1 (fun _ => ?_)
      clear hK K
      try simp only [Act.put, List.getElem_toArray, List.getElem_cons_zero, List.getElem_cons_succ, List.setIfInBounds_toArray, List.set_cons_zero, List.set_cons_succ]
      refine wpAnyH_ready (rs := [4]) (by kernel_rfl) (by simp) ?_
      refine AllReadyH.cons (o := _) rfl (fun K hK => ?_) AllReadyH.nil
      go_simp
      go_at_call 196
      refine (fadd_go _ _ _ ha1 hb1).mono ?_
      rintro e v2 ⟨rfl, hbc⟩
      have HB2 := Lib.hid (HB1.out.trans (hbc.mono HB1.out.size))
      have hKs2 := fun b (hb : (fun b' => b' = w.heap.size ∨ b' = w.heap.size + 1) b) => Nat.lt_of_lt_of_le (hKl b hb) HB2.out.size
      have hk2 := KeepP.below hk1 hbc hKs1
      have HX2 := Lib.hid (HX1.out.below hbc HX1.out.lt)
      clear hbc
      refine hK.out _ _ hk2 (fun _ => ?_)
      clear hK K
      try simp only [Act.put, List.getElem_toArray, List.getElem_cons_zero, List.getElem_cons_succ, List.setIfInBounds_toArray, List.set_cons_zero, List.set_cons_succ]
      refine wpAnyH_ready (rs := [9]) (by kernel_rfl) (by simp) ?_
      refine AllReadyH.cons (o := _) rfl (fun K hK => ?_) AllReadyH.nil
      go_simp
      go_at_call 196
      refine (fadd_go _ _ _ ha2 hb2).mono ?_
      rintro e v3 ⟨rfl, hbc⟩
      have HB3 := Lib.hid (HB2.out.trans (hbc.mono HB2.out.size))
      have hKs3 := fun b (hb : (fun b' => b' = w.heap.size ∨ b' = w.heap.size + 1) b) => Nat.lt_of_lt_of_le (hKl b hb) HB3.out.size
      have hk3 := KeepP.below hk2 hbc hKs2
      have HX3 := Lib.hid (HX2.out.below hbc HX2.out.lt)
      clear hbc
      refine hK.out _ _ hk3 (fun _ => ?_)
      clear hK K
      try simp only [Act.put, List.getElem_toArray, List.getElem_cons_zero, List.getElem_cons_succ, List.setIfInBounds_toArray, List.set_cons_zero, List.set_cons_succ]
      refine wpAnyH_take (i := 14) (oi := _) (v := ?_) rfl (by kernel_rfl) (by kernel_rfl) (by kernel_rfl) (fun _ _ _ h => h) (Or.inl ⟨by kernel_rfl, ?_⟩) (by assumption) ?_
      rotate_left
      · intro w hSw
        try dsimp only at hSw
        go_simp
        try (with_reducible rfl)
      try simp only [Act.put, List.getElem_toArray, List.getElem_cons_zero, List.getElem_cons_succ, List.setIfInBounds_toArray, List.set_cons_zero, List.set_cons_succ]
      obtain ⟨e0, e1, e2, e3, e4, e5, e6, e7, e8, e9, e10⟩ := (HX3.out).c11r
      obtain ⟨f0, f1, f2, f3, f4, f5, f6, f7, f8, f9, f10⟩ := (HX3.out).f11r
      refine wpAnyH_ready (rs := [16]) (by kernel_rfl) (by simp) ?_
      refine AllReadyH.cons (o := _) rfl (fun K hK => ?_) AllReadyH.nil
      go_simp
      have hge : w2.heap.size ≤ w2.heap.size := HB0.out.size
      refine hK.out _ _ (KeepP.set11 hk3 (fun b hb e => absurd (hKl b hb) (by rw [e]; exact Nat.not_lt.2 hge))) (fun _ => ?_)
      clear hK K
      try simp only [Act.put, List.getElem_toArray, List.getElem_cons_zero, List.getElem_cons_succ, List.setIfInBounds_toArray, List.set_cons_zero, List.set_cons_succ]
      refine wpAnyH_done (by kernel_rfl) ?_ _
      go_wp2_with fail
      go_meet
      exact ⟨w2.heap.size, rfl, Blk.store11 HX3.out, below_set11 HB3.out hge, hge⟩
  case rest =>
    obtain ⟨h, rfl, hc0, hb0, hge⟩ := hcut
    have HS0 := Lib.hid (show BehSt w #[.bool false, .int .i64 x1, .int .i64 y1, .int .u64 ((word (f1) 0 : Nat) : Int), .int .u64 ((word (f1) 1 : Nat) : Int), .int .u64 ((word (f1) 2 : Nat) : Int), .int .u64 ((word (f1) 3 : Nat) : Int), .int .u64 ((word (l1) 0 : Nat) : Int), .int .u64 ((word (l1) 1 : Nat) : Int), .int .u64 ((word (l1) 2 : Nat) : Int), .int .u64 ((word (l1) 3 : Nat) : Int)] #[.bool false, .int .i64 x2, .int .i64 y2, .int .u64 ((word (f2) 0 : Nat) : Int), .int .u64 ((word (f2) 1 : Nat) : Int), .int .u64 ((word (f2) 2 : Nat) : Int), .int .u64 ((word (f2) 3 : Nat) : Int), .int .u64 ((word (l2) 0 : Nat) : Int), .int .u64 ((word (l2) 1 : Nat) : Int), .int .u64 ((word (l2) 2 : Nat) : Int), .int .u64 ((word (l2) 3 : Nat) : Int)] #[.bool false, .int .i64 (addF x1 x2), .int .i64 (addF y1 y2), .int .u64 ((word (f1) 0 : Nat) : Int), .int .u64 ((word (f1) 1 : Nat) : Int), .int .u64 ((word (f1) 2 : Nat) : Int), .int .u64 ((word (f1) 3 : Nat) : Int), .int .u64 ((word (l2) 0 : Nat) : Int), .int .u64 ((word (l2) 1 : Nat) : Int), .int .u64 ((word (l2) 2 : Nat) : Int), .int .u64 ((word (l2) 3 : Nat) : Int)] h wc from
      ⟨HXA.out.below hb0 hla, HXB.out.below hb0 hlb, HXR.out.below hb0 HXR.out.lt, hc0, HB.out.trans (hb0.mono HB.out.size), Nat.lt_of_lt_of_le HXR.out.lt hge⟩)
    clear hc0 hb0 hge HXA HXB HXR HB a1 a2 a3 a4 a5 a6 b1 b2 b7 b8 b9 b10 hla hlb ha1 ha2 hb1 hb2 HA1 HB1'
    generalize hF : addF x1 x2 = sx at *
    generalize hG : addF y1 y2 = sy at *
    have HF := Lib.hid hF
    have HG := Lib.hid hG
    clear hF hG
    obtain ⟨a0, a1, a2, a3, a4, a5, a6, a7, a8, a9, a10⟩ := ((HS0.out.a)).c11r
    have hla := (HS0.out.a).lt
    have HN := Lib.hid (null_go ⟨false, x1, y1, f1, l1⟩ wc)
    unfold sumV sumA at HN
    dsimp only at HN
    go_wp2_with fail
    refine HN.out.mono ?_
    rintro e w3 ⟨rfl, hb3⟩
    have HS3 := Lib.hid (HS0.out.below hb3)
    clear a0 a1 a2 a3 a4 a5 a6 a7 a8 a9 a10
    clear hb3 HS0 HN hla
    cases hn1 : SumS.null ⟨false, x1, y1, f1, l1⟩ with
    | false =>
      have HV1 := Lib.hid hn1
      clear hn1
      dsimp only
      obtain ⟨b0, b1, b2, b3, b4, b5, b6, b7, b8, b9, b10⟩ := ((HS3.out.b)).c11r
      have hlb := (HS3.out.b).lt

      have HN2 := Lib.hid (fun W => null_go ⟨false, x2, y2, f2, l2⟩ W)
      unfold sumV sumA at HN2
      dsimp only at HN2
      go_wp2_with fail
      refine (HN2.out _).mono ?_
      rintro e w7 ⟨rfl, hb7⟩
      have HS7 := Lib.hid (HS3.out.below hb7)
      clear b0 b1 b2 b3 b4 b5 b6 b7 b8 b9 b10

      clear hb7 HS3 HN2 hlb
      cases hn2 : SumS.null ⟨false, x2, y2, f2, l2⟩ with
      | false =>
        have HV2 := Lib.hid hn2
        clear hn2
        dsimp only
        obtain ⟨c0, c1, c2, c3, c4, c5, c6, c7, c8, c9, c10⟩ := ((HS7.out.c)).c11r
        have f0 := (HS7.out.c).frozen 0
        have f1 := (HS7.out.c).frozen 1
        have f2 := (HS7.out.c).frozen 2
        have f3 := (HS7.out.c).frozen 3
        have f4 := (HS7.out.c).frozen 4
        have f5 := (HS7.out.c).frozen 5
        have f6 := (HS7.out.c).frozen 6
        have f7 := (HS7.out.c).frozen 7
        have f8 := (HS7.out.c).frozen 8
        have f9 := (HS7.out.c).frozen 9
        have f10 := (HS7.out.c).frozen 10
        have hlc := (HS7.out.c).lt

        have hr := HS7.out.r
        obtain ⟨r0, r1, r2, r3, r4, r5, r6, r7, r8, r9, r10⟩ := (hr).c11r
        obtain ⟨q0, q1, q2, q3, q4, q5, q6, q7, q8, q9, q10⟩ := (hr).f11r
        have hlr := hr.lt
        clear hr
        go_wp2
        refine bodyPost_ret (ret_sum Tryz.results149 rfl (Blk.store11 HS7.out.r)) rfl ⟨?_, below_set11 HS7.out.bel (by omega)⟩
        rw [HV.out]
        simp only [HV1.out, HV2.out, HF.out, HG.out]
        rfl
      | true =>
        have HV2 := Lib.hid hn2
        clear hn2
        obtain ⟨a0, a1, a2, a3, a4, a5, a6, a7, a8, a9, a10⟩ := ((HS7.out.a)).c11r
        have hla := (HS7.out.a).lt
        obtain ⟨b0, b1, b2, b3, b4, b5, b6, b7, b8, b9, b10⟩ := ((HS7.out.b)).c11r
        have hlb := (HS7.out.b).lt
        dsimp only
        go_wp2_with fail
        refine (union2_new l1 l2 _ _ rfl).mono ?_
        rintro e w8 ⟨rfl, hb8⟩
        have HS8 := Lib.hid (HS7.out.below hb8)
        have HS9 := Lib.hid (HS8.out.last (orB l1 l2))
        clear a0 a1 a2 a3 a4 a5 a6 a7 a8 a9 a10
        clear b0 b1 b2 b3 b4 b5 b6 b7 b8 b9 b10
        obtain ⟨c0, c1, c2, c3, c4, c5, c6, c7, c8, c9, c10⟩ := ((HS8.out.c)).c11r
        have f0 := (HS8.out.c).frozen 0
        have f1 := (HS8.out.c).frozen 1
        have f2 := (HS8.out.c).frozen 2
        have f3 := (HS8.out.c).frozen 3
        have f4 := (HS8.out.c).frozen 4
        have f5 := (HS8.out.c).frozen 5
        have f6 := (HS8.out.c).frozen 6
        have f7 := (HS8.out.c).frozen 7
        have f8 := (HS8.out.c).frozen 8
        have f9 := (HS8.out.c).frozen 9
        have f10 := (HS8.out.c).frozen 10
        have hlc := (HS8.out.c).lt
        clear hb8 HS7 hla hlb
        dsimp only
        go_upto_region 8 with fail
        clear c0 c1 c2 c3 c4 c5 c6 c7 c8 c9 c10
        clear f0 f1 f2 f3 f4 f5 f6 f7 f8 f9 f10
        generalize ((((w8.setCell ⟨h, 7, none⟩ (.int .u64 ((word (orB l1 l2) 0 : Nat) : Int))).setCell ⟨h, 8, none⟩ (.int .u64 ((word (orB l1 l2) 1 : Nat) : Int))).setCell ⟨h, 9, none⟩ (.int .u64 ((word (orB l1 l2) 2 : Nat) : Int))).setCell ⟨h, 10, none⟩ (.int .u64 ((word (orB l1 l2) 3 : Nat) : Int))) = w9 at *
        clear HS8 hlc
        obtain ⟨c0, c1, c2, c3, c4, c5, c6, c7, c8, c9, c10⟩ := ((HS9.out.c)).c11r
        have f0 := (HS9.out.c).frozen 0
        have f1 := (HS9.out.c).frozen 1
        have f2 := (HS9.out.c).frozen 2
        have f3 := (HS9.out.c).frozen 3
        have f4 := (HS9.out.c).frozen 4
        have f5 := (HS9.out.c).frozen 5
        have f6 := (HS9.out.c).frozen 6
        have f7 := (HS9.out.c).frozen 7
        have f8 := (HS9.out.c).frozen 8
        have f9 := (HS9.out.c).frozen 9
        have f10 := (HS9.out.c).frozen 10
        have hlc := (HS9.out.c).lt

        have hr := HS9.out.r
        obtain ⟨r0, r1, r2, r3, r4, r5, r6, r7, r8, r9, r10⟩ := (hr).c11r
        obtain ⟨q0, q1, q2, q3, q4, q5, q6, q7, q8, q9, q10⟩ := (hr).f11r
        have hlr := hr.lt
        clear hr
        go_wp2
        refine bodyPost_ret (ret_sum Tryz.results149 rfl (Blk.store11 HS9.out.r)) rfl ⟨?_, below_set11 HS9.out.bel (by omega)⟩
        rw [HV.out]
        simp only [HV1.out, HV2.out, HF.out, HG.out]
        rfl
    | true =>
      have HV1 := Lib.hid hn1
      clear hn1
      obtain ⟨a0, a1, a2, a3, a4, a5, a6, a7, a8, a9, a10⟩ := ((HS3.out.a)).c11r
      have hla := (HS3.out.a).lt
      obtain ⟨b0, b1, b2, b3, b4, b5, b6, b7, b8, b9, b10⟩ := ((HS3.out.b)).c11r
      have hlb := (HS3.out.b).lt
      dsimp only
      go_wp2_with fail
      refine (union2_new f1 f2 _ _ rfl).mono ?_
      rintro e w4 ⟨rfl, hb4⟩
      have HS4 := Lib.hid (HS3.out.below hb4)
      have HS5 := Lib.hid (HS4.out.first (orB f1 f2))
      clear a0 a1 a2 a3 a4 a5 a6 a7 a8 a9 a10
      clear b0 b1 b2 b3 b4 b5 b6 b7 b8 b9 b10
      obtain ⟨c0, c1, c2, c3, c4, c5, c6, c7, c8, c9, c10⟩ := ((HS4.out.c)).c11r
      have f0 := (HS4.out.c).frozen 0
      have f1 := (HS4.out.c).frozen 1
      have f2 := (HS4.out.c).frozen 2
      have f3 := (HS4.out.c).frozen 3
      have f4 := (HS4.out.c).frozen 4
      have f5 := (HS4.out.c).frozen 5
      have f6 := (HS4.out.c).frozen 6
      have f7 := (HS4.out.c).frozen 7
      have f8 := (HS4.out.c).frozen 8
      have f9 := (HS4.out.c).frozen 9
      have f10 := (HS4.out.c).frozen 10
      have hlc := (HS4.out.c).lt
      clear hb4 HS3 hla hlb
      dsimp only
      go_upto_region 6 with fail
      clear c0 c1 c2 c3 c4 c5 c6 c7 c8 c9 c10
      clear f0 f1 f2 f3 f4 f5 f6 f7 f8 f9 f10
      generalize ((((w4.setCell ⟨h, 3, none⟩ (.int .u64 ((word (orB f1 f2) 0 : Nat) : Int))).setCell ⟨h, 4, none⟩ (.int .u64 ((word (orB f1 f2) 1 : Nat) : Int))).setCell ⟨h, 5, none⟩ (.int .u64 ((word (orB f1 f2) 2 : Nat) : Int))).setCell ⟨h, 6, none⟩ (.int .u64 ((word (orB f1 f2) 3 : Nat) : Int))) = w5 at *
      clear HS4 hlc
      obtain ⟨b0, b1, b2, b3, b4, b5, b6, b7, b8, b9, b10⟩ := ((HS5.out.b)).c11r
      have hlb := (HS5.out.b).lt

      have HN2 := Lib.hid (fun W => null_go ⟨false, x2, y2, f2, l2⟩ W)
      unfold sumV sumA at HN2
      dsimp only at HN2
      go_wp2_with fail
      refine (HN2.out _).mono ?_
      rintro e w7 ⟨rfl, hb7⟩
      have HS7 := Lib.hid (HS5.out.below hb7)
      clear b0 b1 b2 b3 b4 b5 b6 b7 b8 b9 b10

      clear hb7 HS5 HN2 hlb
      cases hn2 : SumS.null ⟨false, x2, y2, f2, l2⟩ with
      | false =>
        have HV2 := Lib.hid hn2
        clear hn2
        dsimp only
        obtain ⟨c0, c1, c2, c3, c4, c5, c6, c7, c8, c9, c10⟩ := ((HS7.out.c)).c11r
        have f0 := (HS7.out.c).frozen 0
        have f1 := (HS7.out.c).frozen 1
        have f2 := (HS7.out.c).frozen 2
        have f3 := (HS7.out.c).frozen 3
        have f4 := (HS7.out.c).frozen 4
        have f5 := (HS7.out.c).frozen 5
        have f6 := (HS7.out.c).frozen 6
        have f7 := (HS7.out.c).frozen 7
        have f8 := (HS7.out.c).frozen 8
        have f9 := (HS7.out.c).frozen 9
        have f10 := (HS7.out.c).frozen 10
        have hlc := (HS7.out.c).lt

        have hr := HS7.out.r
        obtain ⟨r0, r1, r2, r3, r4, r5, r6, r7, r8, r9, r10⟩ := (hr).c11r
        obtain ⟨q0, q1, q2, q3, q4, q5, q6, q7, q8, q9, q10⟩ := (hr).f11r
        have hlr := hr.lt
        clear hr
        go_wp2
        refine bodyPost_ret (ret_sum Tryz.results149 rfl (Blk.store11 HS7.out.r)) rfl ⟨?_, below_set11 HS7.out.bel (by omega)⟩
        rw [HV.out]
        simp only [HV1.out, HV2.out, HF.out, HG.out]
        rfl
      | true =>
        have HV2 := Lib.hid hn2
        clear hn2
        obtain ⟨a0, a1, a2, a3, a4, a5, a6, a7, a8, a9, a10⟩ := ((HS7.out.a)).c11r
        have hla := (HS7.out.a).lt
        obtain ⟨b0, b1, b2, b3, b4, b5, b6, b7, b8, b9, b10⟩ := ((HS7.out.b)).c11r
        have hlb := (HS7.out.b).lt
        dsimp only
        go_wp2_with fail
        refine (union2_new l1 l2 _ _ rfl).mono ?_
        rintro e w8 ⟨rfl, hb8⟩
        have HS8 := Lib.hid (HS7.out.below hb8)
        have HS9 := Lib.hid (HS8.out.last (orB l1 l2))
        clear a0 a1 a2 a3 a4 a5 a6 a7 a8 a9 a10
        clear b0 b1 b2 b3 b4 b5 b6 b7 b8 b9 b10
        obtain ⟨c0, c1, c2, c3, c4, c5, c6, c7, c8, c9, c10⟩ := ((HS8.out.c)).c11r
        have f0 := (HS8.out.c).frozen 0
        have f1 := (HS8.out.c).frozen 1
        have f2 := (HS8.out.c).frozen 2
        have f3 := (HS8.out.c).frozen 3
        have f4 := (HS8.out.c).frozen 4
        have f5 := (HS8.out.c).frozen 5
        have f6 := (HS8.out.c).frozen 6
        have f7 := (HS8.out.c).frozen 7
        have f8 := (HS8.out.c).frozen 8
        have f9 := (HS8.out.c).frozen 9
        have f10 := (HS8.out.c).frozen 10
        have hlc := (HS8.out.c).lt
        clear hb8 HS7 hla hlb
        dsimp only
        go_upto_region 8 with fail
        clear c0 c1 c2 c3 c4 c5 c6 c7 c8 c9 c10
        clear f0 f1 f2 f3 f4 f5 f6 f7 f8 f9 f10
        generalize ((((w8.setCell ⟨h, 7, none⟩ (.int .u64 ((word (orB l1 l2) 0 : Nat) : Int))).setCell ⟨h, 8, none⟩ (.int .u64 ((word (orB l1 l2) 1 : Nat) : Int))).setCell ⟨h, 9, none⟩ (.int .u64 ((word (orB l1 l2) 2 : Nat) : Int))).setCell ⟨h, 10, none⟩ (.int .u64 ((word (orB l1 l2) 3 : Nat) : Int))) = w9 at *
        clear HS8 hlc
        obtain ⟨c0, c1, c2, c3, c4, c5, c6, c7, c8, c9, c10⟩ := ((HS9.out.c)).c11r
        have f0 := (HS9.out.c).frozen 0
        have f1 := (HS9.out.c).frozen 1
        have f2 := (HS9.out.c).frozen 2
        have f3 := (HS9.out.c).frozen 3
        have f4 := (HS9.out.c).frozen 4
        have f5 := (HS9.out.c).frozen 5
        have f6 := (HS9.out.c).frozen 6
        have f7 := (HS9.out.c).frozen 7
        have f8 := (HS9.out.c).frozen 8
        have f9 := (HS9.out.c).frozen 9
        have f10 := (HS9.out.c).frozen 10
        have hlc := (HS9.out.c).lt

        have hr := HS9.out.r
        obtain ⟨r0, r1, r2, r3, r4, r5, r6, r7, r8, r9, r10⟩ := (hr).c11r
        obtain ⟨q0, q1, q2, q3, q4, q5, q6, q7, q8, q9, q10⟩ := (hr).f11r
        have hlr := hr.lt
        clear hr
        go_wp2
        refine bodyPost_ret (ret_sum Tryz.results149 rfl (Blk.store11 HS9.out.r)) rfl ⟨?_, below_set11 HS9.out.bel (by omega)⟩
        rw [HV.out]
        simp only [HV1.out, HV2.out, HF.out, HG.out]
        rfl
end Go.Proofs.YtfekpkelmliejaaGreatDoor
namespace Go.Proofs.YtfekpkelmliejaaGreatDoor
open Go.RowKit
set_option linter.unusedSimpArgs false
set_option linter.unusedVariables false
set_option maxRecDepth 100000


theorem union2_at (p q : Nat → Bool) (w : World) (g : Nat) (hB : Blk w g 25 #[.int .u64 ((word (p) 0 : Nat) : Int), .int .u64 ((word (p) 1 : Nat) : Int), .int .u64 ((word (p) 2 : Nat) : Int), .int .u64 ((word (p) 3 : Nat) : Int), .int .u64 ((word (q) 0 : Nat) : Int), .int .u64 ((word (q) 1 : Nat) : Int), .int .u64 ((word (q) 2 : Nat) : Int), .int .u64 ((word (q) 3 : Nat) : Int)]) :
    Calls Tryz.prog 46 #[.slice (some ⟨g, 0, none⟩) 2 2] w fun e w' => e = .returned (.agg #[.int .u64 ((word (orB p q) 0 : Nat) : Int), .int .u64 ((word (orB p q) 1 : Nat) : Int), .int .u64 ((word (orB p q) 2 : Nat) : Int), .int .u64 ((word (orB p q) 3 : Nat) : Int)]) ∧ Below w.heap.size w w' := by
  have h := union_any (some ⟨g, 0, none⟩) [p, q] 2 w (fun _ => ⟨g, 0, rfl, hB.lt, fun i r hr => by
    match i, hr with
    | 0, hr => cases hr; exact ⟨hB.cell 0, hB.cell 1, hB.cell 2, hB.cell 3⟩
    | 1, hr => cases hr; exact ⟨hB.cell 4, hB.cell 5, hB.cell 6, hB.cell 7⟩
    | (n + 2), hr => simp at hr⟩) (by simp)
  have e : anyOf [p, q] [p, q].length = orB p q := anyOf_two p q
  rw [e] at h
  exact h
set_option maxHeartbeats 8000000 in
theorem either_words (x1 y1 x2 y2 : Int) (f1 l1 f2 l2 : Nat → Bool) (w : World) :
    Calls Tryz.prog 150 #[.agg #[.bool false, .int .i64 x1, .int .i64 y1, .int .u64 ((word (f1) 0 : Nat) : Int), .int .u64 ((word (f1) 1 : Nat) : Int), .int .u64 ((word (f1) 2 : Nat) : Int), .int .u64 ((word (f1) 3 : Nat) : Int), .int .u64 ((word (l1) 0 : Nat) : Int), .int .u64 ((word (l1) 1 : Nat) : Int), .int .u64 ((word (l1) 2 : Nat) : Int), .int .u64 ((word (l1) 3 : Nat) : Int)], .agg #[.bool false, .int .i64 x2, .int .i64 y2, .int .u64 ((word (f2) 0 : Nat) : Int), .int .u64 ((word (f2) 1 : Nat) : Int), .int .u64 ((word (f2) 2 : Nat) : Int), .int .u64 ((word (f2) 3 : Nat) : Int), .int .u64 ((word (l2) 0 : Nat) : Int), .int .u64 ((word (l2) 1 : Nat) : Int), .int .u64 ((word (l2) 2 : Nat) : Int), .int .u64 ((word (l2) 3 : Nat) : Int)]] w fun e w' => e = .returned (sumV (eitherF ⟨false, x1, y1, f1, l1⟩ ⟨false, x2, y2, f2, l2⟩)) ∧ Below w.heap.size w w' := by
  have hb : Below w.heap.size w (((w.alloc (.cells #[.bool false, .int .i64 x1, .int .i64 y1, .int .u64 ((word (f1) 0 : Nat) : Int), .int .u64 ((word (f1) 1 : Nat) : Int), .int .u64 ((word (f1) 2 : Nat) : Int), .int .u64 ((word (f1) 3 : Nat) : Int), .int .u64 ((word (l1) 0 : Nat) : Int), .int .u64 ((word (l1) 1 : Nat) : Int), .int .u64 ((word (l1) 2 : Nat) : Int), .int .u64 ((word (l1) 3 : Nat) : Int)] 85)).alloc (.cells #[.bool false, .int .i64 x2, .int .i64 y2, .int .u64 ((word (f2) 0 : Nat) : Int), .int .u64 ((word (f2) 1 : Nat) : Int), .int .u64 ((word (f2) 2 : Nat) : Int), .int .u64 ((word (f2) 3 : Nat) : Int), .int .u64 ((word (l2) 0 : Nat) : Int), .int .u64 ((word (l2) 1 : Nat) : Int), .int .u64 ((word (l2) 2 : Nat) : Int), .int .u64 ((word (l2) 3 : Nat) : Int)] 85)).alloc (.cells #[.bool false, .int .i64 0, .int .i64 0, .int .u64 0, .int .u64 0, .int .u64 0, .int .u64 0, .int .u64 0, .int .u64 0, .int .u64 0, .int .u64 0] 85)) := (((Below.refl _ _).alloc (Nat.le_refl _) _).alloc (by simp) _).alloc (by simp; omega) _
  have HB := Lib.hid hb
  have HXA := Lib.hid (((Blk.new w 85 #[.bool false, .int .i64 x1, .int .i64 y1, .int .u64 ((word (f1) 0 : Nat) : Int), .int .u64 ((word (f1) 1 : Nat) : Int), .int .u64 ((word (f1) 2 : Nat) : Int), .int .u64 ((word (f1) 3 : Nat) : Int), .int .u64 ((word (l1) 0 : Nat) : Int), .int .u64 ((word (l1) 1 : Nat) : Int), .int .u64 ((word (l1) 2 : Nat) : Int), .int .u64 ((word (l1) 3 : Nat) : Int)]).alloc (.cells #[.bool false, .int .i64 x2, .int .i64 y2, .int .u64 ((word (f2) 0 : Nat) : Int), .int .u64 ((word (f2) 1 : Nat) : Int), .int .u64 ((word (f2) 2 : Nat) : Int), .int .u64 ((word (f2) 3 : Nat) : Int), .int .u64 ((word (l2) 0 : Nat) : Int), .int .u64 ((word (l2) 1 : Nat) : Int), .int .u64 ((word (l2) 2 : Nat) : Int), .int .u64 ((word (l2) 3 : Nat) : Int)] 85)).alloc (.cells #[.bool false, .int .i64 0, .int .i64 0, .int .u64 0, .int .u64 0, .int .u64 0, .int .u64 0, .int .u64 0, .int .u64 0, .int .u64 0, .int .u64 0] 85))
  have HXB := Lib.hid ((show Blk ((w.alloc (.cells #[.bool false, .int .i64 x1, .int .i64 y1, .int .u64 ((word (f1) 0 : Nat) : Int), .int .u64 ((word (f1) 1 : Nat) : Int), .int .u64 ((word (f1) 2 : Nat) : Int), .int .u64 ((word (f1) 3 : Nat) : Int), .int .u64 ((word (l1) 0 : Nat) : Int), .int .u64 ((word (l1) 1 : Nat) : Int), .int .u64 ((word (l1) 2 : Nat) : Int), .int .u64 ((word (l1) 3 : Nat) : Int)] 85)).alloc (.cells #[.bool false, .int .i64 x2, .int .i64 y2, .int .u64 ((word (f2) 0 : Nat) : Int), .int .u64 ((word (f2) 1 : Nat) : Int), .int .u64 ((word (f2) 2 : Nat) : Int), .int .u64 ((word (f2) 3 : Nat) : Int), .int .u64 ((word (l2) 0 : Nat) : Int), .int .u64 ((word (l2) 1 : Nat) : Int), .int .u64 ((word (l2) 2 : Nat) : Int), .int .u64 ((word (l2) 3 : Nat) : Int)] 85)) (w.heap.size + 1) 85 #[.bool false, .int .i64 x2, .int .i64 y2, .int .u64 ((word (f2) 0 : Nat) : Int), .int .u64 ((word (f2) 1 : Nat) : Int), .int .u64 ((word (f2) 2 : Nat) : Int), .int .u64 ((word (f2) 3 : Nat) : Int), .int .u64 ((word (l2) 0 : Nat) : Int), .int .u64 ((word (l2) 1 : Nat) : Int), .int .u64 ((word (l2) 2 : Nat) : Int), .int .u64 ((word (l2) 3 : Nat) : Int)] from Blk.new_at (by simp)).alloc (.cells #[.bool false, .int .i64 0, .int .i64 0, .int .u64 0, .int .u64 0, .int .u64 0, .int .u64 0, .int .u64 0, .int .u64 0, .int .u64 0, .int .u64 0] 85))
  have HXR := Lib.hid (show Blk (((w.alloc (.cells #[.bool false, .int .i64 x1, .int .i64 y1, .int .u64 ((word (f1) 0 : Nat) : Int), .int .u64 ((word (f1) 1 : Nat) : Int), .int .u64 ((word (f1) 2 : Nat) : Int), .int .u64 ((word (f1) 3 : Nat) : Int), .int .u64 ((word (l1) 0 : Nat) : Int), .int .u64 ((word (l1) 1 : Nat) : Int), .int .u64 ((word (l1) 2 : Nat) : Int), .int .u64 ((word (l1) 3 : Nat) : Int)] 85)).alloc (.cells #[.bool false, .int .i64 x2, .int .i64 y2, .int .u64 ((word (f2) 0 : Nat) : Int), .int .u64 ((word (f2) 1 : Nat) : Int), .int .u64 ((word (f2) 2 : Nat) : Int), .int .u64 ((word (f2) 3 : Nat) : Int), .int .u64 ((word (l2) 0 : Nat) : Int), .int .u64 ((word (l2) 1 : Nat) : Int), .int .u64 ((word (l2) 2 : Nat) : Int), .int .u64 ((word (l2) 3 : Nat) : Int)] 85)).alloc (.cells #[.bool false, .int .i64 0, .int .i64 0, .int .u64 0, .int .u64 0, .int .u64 0, .int .u64 0, .int .u64 0, .int .u64 0, .int .u64 0, .int .u64 0] 85)) (w.heap.size + 1 + 1) 85 #[.bool false, .int .i64 0, .int .i64 0, .int .u64 0, .int .u64 0, .int .u64 0, .int .u64 0, .int .u64 0, .int .u64 0, .int .u64 0, .int .u64 0] from Blk.new_at (by simp))
  have HV := Lib.hid (either_full (a := ⟨false, x1, y1, f1, l1⟩) (b := ⟨false, x2, y2, f2, l2⟩) rfl rfl)
  clear hb
  go_enter Tryz.func150, Tryz.ntmps150
  go_upto_region 5 with fail
  generalize (((w.alloc (.cells #[.bool false, .int .i64 x1, .int .i64 y1, .int .u64 ((word (f1) 0 : Nat) : Int), .int .u64 ((word (f1) 1 : Nat) : Int), .int .u64 ((word (f1) 2 : Nat) : Int), .int .u64 ((word (f1) 3 : Nat) : Int), .int .u64 ((word (l1) 0 : Nat) : Int), .int .u64 ((word (l1) 1 : Nat) : Int), .int .u64 ((word (l1) 2 : Nat) : Int), .int .u64 ((word (l1) 3 : Nat) : Int)] 85)).alloc (.cells #[.bool false, .int .i64 x2, .int .i64 y2, .int .u64 ((word (f2) 0 : Nat) : Int), .int .u64 ((word (f2) 1 : Nat) : Int), .int .u64 ((word (f2) 2 : Nat) : Int), .int .u64 ((word (f2) 3 : Nat) : Int), .int .u64 ((word (l2) 0 : Nat) : Int), .int .u64 ((word (l2) 1 : Nat) : Int), .int .u64 ((word (l2) 2 : Nat) : Int), .int .u64 ((word (l2) 3 : Nat) : Int)] 85)).alloc (.cells #[.bool false, .int .i64 0, .int .i64 0, .int .u64 0, .int .u64 0, .int .u64 0, .int .u64 0, .int .u64 0, .int .u64 0, .int .u64 0, .int .u64 0] 85)) = w2 at *
  have a1 := HXA.out.cell 1
  have a2 := HXA.out.cell 2
  have a3 := HXA.out.cell 3
  have a4 := HXA.out.cell 4
  have a5 := HXA.out.cell 5
  have a6 := HXA.out.cell 6
  have a7 := HXA.out.cell 7
  have a8 := HXA.out.cell 8
  have a9 := HXA.out.cell 9
  have a10 := HXA.out.cell 10
  have b1 := HXB.out.cell 1
  have b2 := HXB.out.cell 2
  have b3 := HXB.out.cell 3
  have b4 := HXB.out.cell 4
  have b5 := HXB.out.cell 5
  have b6 := HXB.out.cell 6
  have b7 := HXB.out.cell 7
  have b8 := HXB.out.cell 8
  have b9 := HXB.out.cell 9
  have b10 := HXB.out.cell 10
  have hla := HXA.out.lt
  have hlb := HXB.out.lt
  simp only [List.getElem?_toArray, List.getElem?_cons_zero, List.getElem?_cons_succ] at a1 b1 a2 b2 a3 b3 a4 b4 a5 b5 a6 b6 a7 b7 a8 b8 a9 b9 a10 b10
  have hKl := two_of (Q := fun b => b < w2.heap.size) hla hlb
  have HB0 := Lib.hid ((Below.refl w2.heap.size w2).drew)
  have hk0 : KeepP (fun b' => b' = w.heap.size ∨ b' = w.heap.size + 1) w2 w2.drew := KeepP.start (fun b' => b' = w.heap.size ∨ b' = w.heap.size + 1) w2
  have hKs0 := fun b (hb : (fun b' => b' = w.heap.size ∨ b' = w.heap.size + 1) b) => hKl b hb
  refine wp_region_held_drew (S := fun w' => ∀ b' o', b' = w.heap.size ∨ b' = w.heap.size + 1 → w'.cell? ⟨b', o', none⟩ = w2.cell? ⟨b', o', none⟩) (by kernel_rfl) (KeepP.start (fun b' => b' = w.heap.size ∨ b' = w.heap.size + 1) w2) (fun hHeld => ?_)
  refine wpAnyH_take (i := 0) (oi := _) (v := ?_) rfl (by kernel_rfl) (by kernel_rfl) (by kernel_rfl) (fun _ _ _ h => h) (Or.inl ⟨by kernel_rfl, ?_⟩) (by assumption) ?_
  rotate_left
  · intro w hSw
    try dsimp only at hSw
    go_simp
    try (with_reducible rfl)
  try simp only [Act.put, List.getElem_toArray, List.getElem_cons_zero, List.getElem_cons_succ, List.setIfInBounds_toArray, List.set_cons_zero, List.set_cons_succ]
  refine wpAnyH_take (i := 1) (oi := _) (v := ?_) rfl (by kernel_rfl) (by kernel_rfl) (by kernel_rfl) (fun _ _ _ h => h) (Or.inl ⟨by kernel_rfl, ?_⟩) (by assumption) ?_
  rotate_left
  · intro w hSw
    try dsimp only at hSw
    go_simp
    try (with_reducible rfl)
  try simp only [Act.put, List.getElem_toArray, List.getElem_cons_zero, List.getElem_cons_succ, List.setIfInBounds_toArray, List.set_cons_zero, List.set_cons_succ]
  refine wpAnyH_take (i := 2) (oi := _) (v := ?_) rfl (by kernel_rfl) (by kernel_rfl) (by kernel_rfl) (fun _ _ _ h => h) (Or.inl ⟨by kernel_rfl, ?_⟩) (by assumption) ?_
  rotate_left
  · intro w hSw
    try dsimp only at hSw
    go_simp
    try (with_reducible rfl)
  try simp only [Act.put, List.getElem_toArray, List.getElem_cons_zero, List.getElem_cons_succ, List.setIfInBounds_toArray, List.set_cons_zero, List.set_cons_succ]
  refine wpAnyH_take (i := 3) (oi := _) (v := ?_) rfl (by kernel_rfl) (by kernel_rfl) (by kernel_rfl) (fun _ _ _ h => h) (Or.inl ⟨by kernel_rfl, ?_⟩) (by assumption) ?_
  rotate_left
  · intro w hSw
    try dsimp only at hSw
    go_simp
    try (with_reducible rfl)
  try simp only [Act.put, List.getElem_toArray, List.getElem_cons_zero, List.getElem_cons_succ, List.setIfInBounds_toArray, List.set_cons_zero, List.set_cons_succ]
  refine wpAnyH_take (i := 4) (oi := _) (v := ?_) rfl (by kernel_rfl) (by kernel_rfl) (by kernel_rfl) (fun _ _ _ h => h) (Or.inl ⟨by kernel_rfl, ?_⟩) (by assumption) ?_
  rotate_left
  · intro w hSw
    try dsimp only at hSw
    go_simp
    try (with_reducible rfl)
  try simp only [Act.put, List.getElem_toArray, List.getElem_cons_zero, List.getElem_cons_succ, List.setIfInBounds_toArray, List.set_cons_zero, List.set_cons_succ]
  refine wpAnyH_take (i := 5) (oi := _) (v := ?_) rfl (by kernel_rfl) (by kernel_rfl) (by kernel_rfl) (fun _ _ _ h => h) (Or.inl ⟨by kernel_rfl, ?_⟩) (by assumption) ?_
  rotate_left
  · intro w hSw
    try dsimp only at hSw
    go_simp
    try (with_reducible rfl)
  try simp only [Act.put, List.getElem_toArray, List.getElem_cons_zero, List.getElem_cons_succ, List.setIfInBounds_toArray, List.set_cons_zero, List.set_cons_succ]
  refine wpAnyH_take (i := 6) (oi := _) (v := ?_) rfl (by kernel_rfl) (by kernel_rfl) (by kernel_rfl) (fun _ _ _ h => h) (Or.inl ⟨by kernel_rfl, ?_⟩) (by assumption) ?_
  rotate_left
  · intro w hSw
    try dsimp only at hSw
    go_simp
    try (with_reducible rfl)
  try simp only [Act.put, List.getElem_toArray, List.getElem_cons_zero, List.getElem_cons_succ, List.setIfInBounds_toArray, List.set_cons_zero, List.set_cons_succ]
  refine wpAnyH_take (i := 7) (oi := _) (v := ?_) rfl (by kernel_rfl) (by kernel_rfl) (by kernel_rfl) (fun _ _ _ h => h) (Or.inl ⟨by kernel_rfl, ?_⟩) (by assumption) ?_
  rotate_left
  · intro w hSw
    try dsimp only at hSw
    go_simp
    try (with_reducible rfl)
  try simp only [Act.put, List.getElem_toArray, List.getElem_cons_zero, List.getElem_cons_succ, List.setIfInBounds_toArray, List.set_cons_zero, List.set_cons_succ]
  refine wpAnyH_take (i := 8) (oi := _) (v := ?_) rfl (by kernel_rfl) (by kernel_rfl) (by kernel_rfl) (fun _ _ _ h => h) (Or.inl ⟨by kernel_rfl, ?_⟩) (by assumption) ?_
  rotate_left
  · intro w hSw
    try dsimp only at hSw
    go_simp
    try (with_reducible rfl)
  try simp only [Act.put, List.getElem_toArray, List.getElem_cons_zero, List.getElem_cons_succ, List.setIfInBounds_toArray, List.set_cons_zero, List.set_cons_succ]
  refine wpAnyH_take (i := 9) (oi := _) (v := ?_) rfl (by kernel_rfl) (by kernel_rfl) (by kernel_rfl) (fun _ _ _ h => h) (Or.inl ⟨by kernel_rfl, ?_⟩) (by assumption) ?_
  rotate_left
  · intro w hSw
    try dsimp only at hSw
    go_simp
    try (with_reducible rfl)
  try simp only [Act.put, List.getElem_toArray, List.getElem_cons_zero, List.getElem_cons_succ, List.setIfInBounds_toArray, List.set_cons_zero, List.set_cons_succ]
  refine wpAnyH_take (i := 10) (oi := _) (v := ?_) rfl (by kernel_rfl) (by kernel_rfl) (by kernel_rfl) (fun _ _ _ h => h) (Or.inl ⟨by kernel_rfl, ?_⟩) (by assumption) ?_
  rotate_left
  · intro w hSw
    try dsimp only at hSw
    go_simp
    try (with_reducible rfl)
  try simp only [Act.put, List.getElem_toArray, List.getElem_cons_zero, List.getElem_cons_succ, List.setIfInBounds_toArray, List.set_cons_zero, List.set_cons_succ]
  refine wpAnyH_take (i := 11) (oi := _) (v := ?_) rfl (by kernel_rfl) (by kernel_rfl) (by kernel_rfl) (fun _ _ _ h => h) (Or.inl ⟨by kernel_rfl, ?_⟩) (by assumption) ?_
  rotate_left
  · intro w hSw
    try dsimp only at hSw
    go_simp
    try (with_reducible rfl)
  try simp only [Act.put, List.getElem_toArray, List.getElem_cons_zero, List.getElem_cons_succ, List.setIfInBounds_toArray, List.set_cons_zero, List.set_cons_succ]
  refine wpAnyH_take (i := 12) (oi := _) (v := ?_) rfl (by kernel_rfl) (by kernel_rfl) (by kernel_rfl) (fun _ _ _ h => h) (Or.inl ⟨by kernel_rfl, ?_⟩) (by assumption) ?_
  rotate_left
  · intro w hSw
    try dsimp only at hSw
    go_simp
    try (with_reducible rfl)
  try simp only [Act.put, List.getElem_toArray, List.getElem_cons_zero, List.getElem_cons_succ, List.setIfInBounds_toArray, List.set_cons_zero, List.set_cons_succ]
  refine wpAnyH_take (i := 13) (oi := _) (v := ?_) rfl (by kernel_rfl) (by kernel_rfl) (by kernel_rfl) (fun _ _ _ h => h) (Or.inl ⟨by kernel_rfl, ?_⟩) (by assumption) ?_
  rotate_left
  · intro w hSw
    try dsimp only at hSw
    go_simp
    try (with_reducible rfl)
  try simp only [Act.put, List.getElem_toArray, List.getElem_cons_zero, List.getElem_cons_succ, List.setIfInBounds_toArray, List.set_cons_zero, List.set_cons_succ]
  refine wpAnyH_take (i := 16) (oi := _) (v := ?_) rfl (by kernel_rfl) (by kernel_rfl) (by kernel_rfl) (fun _ _ _ h => h) (Or.inl ⟨by kernel_rfl, ?_⟩) (by assumption) ?_
  rotate_left
  · intro w hSw
    try dsimp only at hSw
    go_simp
    try (with_reducible rfl)
  try simp only [Act.put, List.getElem_toArray, List.getElem_cons_zero, List.getElem_cons_succ, List.setIfInBounds_toArray, List.set_cons_zero, List.set_cons_succ]
  refine wpAnyH_take (i := 17) (oi := _) (v := ?_) rfl (by kernel_rfl) (by kernel_rfl) (by kernel_rfl) (fun _ _ _ h => h) (Or.inl ⟨by kernel_rfl, ?_⟩) (by assumption) ?_
  rotate_left
  · intro w hSw
    try dsimp only at hSw
    go_simp
    try (with_reducible rfl)
  try simp only [Act.put, List.getElem_toArray, List.getElem_cons_zero, List.getElem_cons_succ, List.setIfInBounds_toArray, List.set_cons_zero, List.set_cons_succ]
  refine wpAnyH_take (i := 18) (oi := _) (v := ?_) rfl (by kernel_rfl) (by kernel_rfl) (by kernel_rfl) (fun _ _ _ h => h) (Or.inl ⟨by kernel_rfl, ?_⟩) (by assumption) ?_
  rotate_left
  · intro w hSw
    try dsimp only at hSw
    go_simp
    try (with_reducible rfl)
  try simp only [Act.put, List.getElem_toArray, List.getElem_cons_zero, List.getElem_cons_succ, List.setIfInBounds_toArray, List.set_cons_zero, List.set_cons_succ]
  refine wpAnyH_take (i := 19) (oi := _) (v := ?_) rfl (by kernel_rfl) (by kernel_rfl) (by kernel_rfl) (fun _ _ _ h => h) (Or.inl ⟨by kernel_rfl, ?_⟩) (by assumption) ?_
  rotate_left
  · intro w hSw
    try dsimp only at hSw
    go_simp
    try (with_reducible rfl)
  try simp only [Act.put, List.getElem_toArray, List.getElem_cons_zero, List.getElem_cons_succ, List.setIfInBounds_toArray, List.set_cons_zero, List.set_cons_succ]
  clear a1 b1 a2 b2 a3 b3 a4 b4 a5 b5 a6 b6 a7 b7 a8 b8 a9 b9 a10 b10
  generalize hmn : (if x2 < x1 then x2 else x1) = mn at *
  generalize hmx : (if y1 < y2 then y2 else y1) = mx at *
  have HMN := Lib.hid (show min x1 x2 = mn by rw [← hmn]; split <;> omega)
  have HMX := Lib.hid (show max y1 y2 = mx by rw [← hmx]; split <;> omega)
  clear hmn hmx
  refine wpAnyH_ready (rs := [14, 20]) (by kernel_rfl) (by simp) ?_
  refine AllReadyH.cons (o := _) rfl (fun K hK => ?_) (AllReadyH.cons (o := _) rfl (fun K hK => ?_) AllReadyH.nil)
  · skip
    go_simp
    have HB1 := Lib.hid (HB0.out.alloc HB0.out.size (.cells #[.int .u64 ((word (f1) 0 : Nat) : Int), .int .u64 ((word (f1) 1 : Nat) : Int), .int .u64 ((word (f1) 2 : Nat) : Int), .int .u64 ((word (f1) 3 : Nat) : Int), .int .u64 ((word (f2) 0 : Nat) : Int), .int .u64 ((word (f2) 1 : Nat) : Int), .int .u64 ((word (f2) 2 : Nat) : Int), .int .u64 ((word (f2) 3 : Nat) : Int)] 25))
    have hKs1 := fun b (hb : (fun b' => b' = w.heap.size ∨ b' = w.heap.size + 1) b) => Nat.lt_of_lt_of_le (hKl b hb) HB1.out.size
    have hk1 := KeepP.alloc hk0 hKs0 (.cells #[.int .u64 ((word (f1) 0 : Nat) : Int), .int .u64 ((word (f1) 1 : Nat) : Int), .int .u64 ((word (f1) 2 : Nat) : Int), .int .u64 ((word (f1) 3 : Nat) : Int), .int .u64 ((word (f2) 0 : Nat) : Int), .int .u64 ((word (f2) 1 : Nat) : Int), .int .u64 ((word (f2) 2 : Nat) : Int), .int .u64 ((word (f2) 3 : Nat) : Int)] 25)
    have HS14_1 := Lib.hid (show Blk ((w2.drew).alloc (.cells #[.int .u64 ((word (f1) 0 : Nat) : Int), .int .u64 ((word (f1) 1 : Nat) : Int), .int .u64 ((word (f1) 2 : Nat) : Int), .int .u64 ((word (f1) 3 : Nat) : Int), .int .u64 ((word (f2) 0 : Nat) : Int), .int .u64 ((word (f2) 1 : Nat) : Int), .int .u64 ((word (f2) 2 : Nat) : Int), .int .u64 ((word (f2) 3 : Nat) : Int)] 25)) w2.heap.size 25 #[.int .u64 ((word (f1) 0 : Nat) : Int), .int .u64 ((word (f1) 1 : Nat) : Int), .int .u64 ((word (f1) 2 : Nat) : Int), .int .u64 ((word (f1) 3 : Nat) : Int), .int .u64 ((word (f2) 0 : Nat) : Int), .int .u64 ((word (f2) 1 : Nat) : Int), .int .u64 ((word (f2) 2 : Nat) : Int), .int .u64 ((word (f2) 3 : Nat) : Int)] from Blk.new_at (by simp))
    refine hK.out _ _ hk1 (fun _ => ?_)
    clear hK K
    try simp only [Act.put, List.getElem_toArray, List.getElem_cons_zero, List.getElem_cons_succ, List.setIfInBounds_toArray, List.set_cons_zero, List.set_cons_succ]
    refine wpAnyH_ready (rs := [15, 20]) (by kernel_rfl) (by simp) ?_
    refine AllReadyH.cons (o := _) rfl (fun K hK => ?_) (AllReadyH.cons (o := _) rfl (fun K hK => ?_) AllReadyH.nil)
    · skip
      go_simp
      go_at_call 46
      refine (union2_at f1 f2 _ _ HS14_1.out).mono ?_
      rintro e v2 ⟨rfl, hbc⟩
      have HB2 := Lib.hid (HB1.out.trans (hbc.mono HB1.out.size))
      have hKs2 := fun b (hb : (fun b' => b' = w.heap.size ∨ b' = w.heap.size + 1) b) => Nat.lt_of_lt_of_le (hKl b hb) HB2.out.size
      have hk2 := KeepP.below hk1 hbc hKs1
      have HS14_2 := Lib.hid (HS14_1.out.below hbc HS14_1.out.lt)
      clear hbc
      refine hK.out _ _ hk2 (fun _ => ?_)
      clear hK K
      try simp only [Act.put, List.getElem_toArray, List.getElem_cons_zero, List.getElem_cons_succ, List.setIfInBounds_toArray, List.set_cons_zero, List.set_cons_succ]
      refine wpAnyH_ready (rs := [20]) (by kernel_rfl) (by simp) ?_
      refine AllReadyH.cons (o := _) rfl (fun K hK => ?_) AllReadyH.nil
      go_simp
      have HB3 := Lib.hid (HB2.out.alloc HB2.out.size (.cells #[.int .u64 ((word (l1) 0 : Nat) : Int), .int .u64 ((word (l1) 1 : Nat) : Int), .int .u64 ((word (l1) 2 : Nat) : Int), .int .u64 ((word (l1) 3 : Nat) : Int), .int .u64 ((word (l2) 0 : Nat) : Int), .int .u64 ((word (l2) 1 : Nat) : Int), .int .u64 ((word (l2) 2 : Nat) : Int), .int .u64 ((word (l2) 3 : Nat) : Int)] 25))
      have hKs3 := fun b (hb : (fun b' => b' = w.heap.size ∨ b' = w.heap.size + 1) b) => Nat.lt_of_lt_of_le (hKl b hb) HB3.out.size
      have hk3 := KeepP.alloc hk2 hKs2 (.cells #[.int .u64 ((word (l1) 0 : Nat) : Int), .int .u64 ((word (l1) 1 : Nat) : Int), .int .u64 ((word (l1) 2 : Nat) : Int), .int .u64 ((word (l1) 3 : Nat) : Int), .int .u64 ((word (l2) 0 : Nat) : Int), .int .u64 ((word (l2) 1 : Nat) : Int), .int .u64 ((word (l2) 2 : Nat) : Int), .int .u64 ((word (l2) 3 : Nat) : Int)] 25)
      have HS14_3 := Lib.hid (HS14_2.out.alloc (.cells #[.int .u64 ((word (l1) 0 : Nat) : Int), .int .u64 ((word (l1) 1 : Nat) : Int), .int .u64 ((word (l1) 2 : Nat) : Int), .int .u64 ((word (l1) 3 : Nat) : Int), .int .u64 ((word (l2) 0 : Nat) : Int), .int .u64 ((word (l2) 1 : Nat) : Int), .int .u64 ((word (l2) 2 : Nat) : Int), .int .u64 ((word (l2) 3 : Nat) : Int)] 25))
      have HS20_3 := Lib.hid (show Blk ((v2).alloc (.cells #[.int .u64 ((word (l1) 0 : Nat) : Int), .int .u64 ((word (l1) 1 : Nat) : Int), .int .u64 ((word (l1) 2 : Nat) : Int), .int .u64 ((word (l1) 3 : Nat) : Int), .int .u64 ((word (l2) 0 : Nat) : Int), .int .u64 ((word (l2) 1 : Nat) : Int), .int .u64 ((word (l2) 2 : Nat) : Int), .int .u64 ((word (l2) 3 : Nat) : Int)] 25)) v2.heap.size 25 #[.int .u64 ((word (l1) 0 : Nat) : Int), .int .u64 ((word (l1) 1 : Nat) : Int), .int .u64 ((word (l1) 2 : Nat) : Int), .int .u64 ((word (l1) 3 : Nat) : Int), .int .u64 ((word (l2) 0 : Nat) : Int), .int .u64 ((word (l2) 1 : Nat) : Int), .int .u64 ((word (l2) 2 : Nat) : Int), .int .u64 ((word (l2) 3 : Nat) : Int)] from Blk.new_at (by simp))
      refine hK.out _ _ hk3 (fun _ => ?_)
      clear hK K
      try simp only [Act.put, List.getElem_toArray, List.getElem_cons_zero, List.getElem_cons_succ, List.setIfInBounds_toArray, List.set_cons_zero, List.set_cons_succ]
      refine wpAnyH_ready (rs := [21]) (by kernel_rfl) (by simp) ?_
      refine AllReadyH.cons (o := _) rfl (fun K hK => ?_) AllReadyH.nil
      go_simp
      go_at_call 46
      refine (union2_at l1 l2 _ _ HS20_3.out).mono ?_
      rintro e v4 ⟨rfl, hbc⟩
      have HB4 := Lib.hid (HB3.out.trans (hbc.mono HB3.out.size))
      have hKs4 := fun b (hb : (fun b' => b' = w.heap.size ∨ b' = w.heap.size + 1) b) => Nat.lt_of_lt_of_le (hKl b hb) HB4.out.size
      have hk4 := KeepP.below hk3 hbc hKs3
      have HS14_4 := Lib.hid (HS14_3.out.below hbc HS14_3.out.lt)
      have HS20_4 := Lib.hid (HS20_3.out.below hbc HS20_3.out.lt)
      clear hbc
      refine hK.out _ _ hk4 (fun _ => ?_)
      clear hK K
      try simp only [Act.put, List.getElem_toArray, List.getElem_cons_zero, List.getElem_cons_succ, List.setIfInBounds_toArray, List.set_cons_zero, List.set_cons_succ]
      refine wpAnyH_take (i := 22) (oi := _) (v := ?_) rfl (by kernel_rfl) (by kernel_rfl) (by kernel_rfl) (fun _ _ _ h => h) (Or.inl ⟨by kernel_rfl, ?_⟩) (by assumption) ?_
      rotate_left
      · intro w hSw
        try dsimp only at hSw
        go_simp
        try (with_reducible rfl)
      try simp only [Act.put, List.getElem_toArray, List.getElem_cons_zero, List.getElem_cons_succ, List.setIfInBounds_toArray, List.set_cons_zero, List.set_cons_succ]
      have HR2 := Lib.hid (HXR.out.below HB4.out HXR.out.lt)
      have e0 := HR2.out.cell 0
      have e1 := HR2.out.cell 1
      have e2 := HR2.out.cell 2
      have e3 := HR2.out.cell 3
      have e4 := HR2.out.cell 4
      have e5 := HR2.out.cell 5
      have e6 := HR2.out.cell 6
      have e7 := HR2.out.cell 7
      have e8 := HR2.out.cell 8
      have e9 := HR2.out.cell 9
      have e10 := HR2.out.cell 10
      have q0 := HR2.out.frozen 0
      have q1 := HR2.out.frozen 1
      have q2 := HR2.out.frozen 2
      have q3 := HR2.out.frozen 3
      have q4 := HR2.out.frozen 4
      have q5 := HR2.out.frozen 5
      have q6 := HR2.out.frozen 6
      have q7 := HR2.out.frozen 7
      have q8 := HR2.out.frozen 8
      have q9 := HR2.out.frozen 9
      have q10 := HR2.out.frozen 10
      have hlr := HR2.out.lt
      simp only [List.getElem?_toArray, List.getElem?_cons_zero, List.getElem?_cons_succ] at e0 e1 e2 e3 e4 e5 e6 e7 e8 e9 e10
      refine wpAnyH_ready (rs := [23]) (by kernel_rfl) (by simp) ?_
      refine AllReadyH.cons (o := _) rfl (fun K hK => ?_) AllReadyH.nil
      go_simp
      refine hK.out _ _ (KeepP.set11 hk4 (fun b hb e => by rcases hb with h | h <;> omega)) (fun _ => ?_)
      clear hK K
      try simp only [Act.put, List.getElem_toArray, List.getElem_cons_zero, List.getElem_cons_succ, List.setIfInBounds_toArray, List.set_cons_zero, List.set_cons_succ]
      refine wpAnyH_done (by kernel_rfl) ?_ _
      go_wp2
      refine bodyPost_ret (ret_sum Tryz.results150 rfl (Blk.store11 HR2.out)) rfl ⟨by rw [HV.out, HMN.out, HMX.out]; rfl, below_set11 (HB.out.trans (HB4.out.mono HB.out.size)) (by omega)⟩
    · skip
      go_simp
      have HB2 := Lib.hid (HB1.out.alloc HB1.out.size (.cells #[.int .u64 ((word (l1) 0 : Nat) : Int), .int .u64 ((word (l1) 1 : Nat) : Int), .int .u64 ((word (l1) 2 : Nat) : Int), .int .u64 ((word (l1) 3 : Nat) : Int), .int .u64 ((word (l2) 0 : Nat) : Int), .int .u64 ((word (l2) 1 : Nat) : Int), .int .u64 ((word (l2) 2 : Nat) : Int), .int .u64 ((word (l2) 3 : Nat) : Int)] 25))
      have hKs2 := fun b (hb : (fun b' => b' = w.heap.size ∨ b' = w.heap.size + 1) b) => Nat.lt_of_lt_of_le (hKl b hb) HB2.out.size
      have hk2 := KeepP.alloc hk1 hKs1 (.cells #[.int .u64 ((word (l1) 0 : Nat) : Int), .int .u64 ((word (l1) 1 : Nat) : Int), .int .u64 ((word (l1) 2 : Nat) : Int), .int .u64 ((word (l1) 3 : Nat) : Int), .int .u64 ((word (l2) 0 : Nat) : Int), .int .u64 ((word (l2) 1 : Nat) : Int), .int .u64 ((word (l2) 2 : Nat) : Int), .int .u64 ((word (l2) 3 : Nat) : Int)] 25)
      have HS14_2 := Lib.hid (HS14_1.out.alloc (.cells #[.int .u64 ((word (l1) 0 : Nat) : Int), .int .u64 ((word (l1) 1 : Nat) : Int), .int .u64 ((word (l1) 2 : Nat) : Int), .int .u64 ((word (l1) 3 : Nat) : Int), .int .u64 ((word (l2) 0 : Nat) : Int), .int .u64 ((word (l2) 1 : Nat) : Int), .int .u64 ((word (l2) 2 : Nat) : Int), .int .u64 ((word (l2) 3 : Nat) : Int)] 25))
      have HS20_2 := Lib.hid (show Blk (((w2.drew).alloc (.cells #[.int .u64 ((word (f1) 0 : Nat) : Int), .int .u64 ((word (f1) 1 : Nat) : Int), .int .u64 ((word (f1) 2 : Nat) : Int), .int .u64 ((word (f1) 3 : Nat) : Int), .int .u64 ((word (f2) 0 : Nat) : Int), .int .u64 ((word (f2) 1 : Nat) : Int), .int .u64 ((word (f2) 2 : Nat) : Int), .int .u64 ((word (f2) 3 : Nat) : Int)] 25)).alloc (.cells #[.int .u64 ((word (l1) 0 : Nat) : Int), .int .u64 ((word (l1) 1 : Nat) : Int), .int .u64 ((word (l1) 2 : Nat) : Int), .int .u64 ((word (l1) 3 : Nat) : Int), .int .u64 ((word (l2) 0 : Nat) : Int), .int .u64 ((word (l2) 1 : Nat) : Int), .int .u64 ((word (l2) 2 : Nat) : Int), .int .u64 ((word (l2) 3 : Nat) : Int)] 25)) (w2.heap.size + 1) 25 #[.int .u64 ((word (l1) 0 : Nat) : Int), .int .u64 ((word (l1) 1 : Nat) : Int), .int .u64 ((word (l1) 2 : Nat) : Int), .int .u64 ((word (l1) 3 : Nat) : Int), .int .u64 ((word (l2) 0 : Nat) : Int), .int .u64 ((word (l2) 1 : Nat) : Int), .int .u64 ((word (l2) 2 : Nat) : Int), .int .u64 ((word (l2) 3 : Nat) : Int)] from Blk.new_at (by simp))
      refine hK.out _ _ hk2 (fun _ => ?_)
      clear hK K
      try simp only [Act.put, List.getElem_toArray, List.getElem_cons_zero, List.getElem_cons_succ, List.setIfInBounds_toArray, List.set_cons_zero, List.set_cons_succ]
      refine wpAnyH_ready (rs := [15]) (by kernel_rfl) (by simp) ?_
      refine AllReadyH.cons (o := _) rfl (fun K hK => ?_) AllReadyH.nil
      go_simp
      go_at_call 46
      refine (union2_at f1 f2 _ _ HS14_2.out).mono ?_
      rintro e v3 ⟨rfl, hbc⟩
      have HB3 := Lib.hid (HB2.out.trans (hbc.mono HB2.out.size))
      have hKs3 := fun b (hb : (fun b' => b' = w.heap.size ∨ b' = w.heap.size + 1) b) => Nat.lt_of_lt_of_le (hKl b hb) HB3.out.size
      have hk3 := KeepP.below hk2 hbc hKs2
      have HS14_3 := Lib.hid (HS14_2.out.below hbc HS14_2.out.lt)
      have HS20_3 := Lib.hid (HS20_2.out.below hbc HS20_2.out.lt)
      clear hbc
      refine hK.out _ _ hk3 (fun _ => ?_)
      clear hK K
      try simp only [Act.put, List.getElem_toArray, List.getElem_cons_zero, List.getElem_cons_succ, List.setIfInBounds_toArray, List.set_cons_zero, List.set_cons_succ]
      refine wpAnyH_ready (rs := [21]) (by kernel_rfl) (by simp) ?_
      refine AllReadyH.cons (o := _) rfl (fun K hK => ?_) AllReadyH.nil
      go_simp
      go_at_call 46
      refine (union2_at l1 l2 _ _ HS20_3.out).mono ?_
      rintro e v4 ⟨rfl, hbc⟩
      have HB4 := Lib.hid (HB3.out.trans (hbc.mono HB3.out.size))
      have hKs4 := fun b (hb : (fun b' => b' = w.heap.size ∨ b' = w.heap.size + 1) b) => Nat.lt_of_lt_of_le (hKl b hb) HB4.out.size
      have hk4 := KeepP.below hk3 hbc hKs3
      have HS14_4 := Lib.hid (HS14_3.out.below hbc HS14_3.out.lt)
      have HS20_4 := Lib.hid (HS20_3.out.below hbc HS20_3.out.lt)
      clear hbc
      refine hK.out _ _ hk4 (fun _ => ?_)
      clear hK K
      try simp only [Act.put, List.getElem_toArray, List.getElem_cons_zero, List.getElem_cons_succ, List.setIfInBounds_toArray, List.set_cons_zero, List.set_cons_succ]
      refine wpAnyH_take (i := 22) (oi := _) (v := ?_) rfl (by kernel_rfl) (by kernel_rfl) (by kernel_rfl) (fun _ _ _ h => h) (Or.inl ⟨by kernel_rfl, ?_⟩) (by assumption) ?_
      rotate_left
      · intro w hSw
        try dsimp only at hSw
        go_simp
        try (with_reducible rfl)
      try simp only [Act.put, List.getElem_toArray, List.getElem_cons_zero, List.getElem_cons_succ, List.setIfInBounds_toArray, List.set_cons_zero, List.set_cons_succ]
      have HR2 := Lib.hid (HXR.out.below HB4.out HXR.out.lt)
      have e0 := HR2.out.cell 0
      have e1 := HR2.out.cell 1
      have e2 := HR2.out.cell 2
      have e3 := HR2.out.cell 3
      have e4 := HR2.out.cell 4
      have e5 := HR2.out.cell 5
      have e6 := HR2.out.cell 6
      have e7 := HR2.out.cell 7
      have e8 := HR2.out.cell 8
      have e9 := HR2.out.cell 9
      have e10 := HR2.out.cell 10
      have q0 := HR2.out.frozen 0
      have q1 := HR2.out.frozen 1
      have q2 := HR2.out.frozen 2
      have q3 := HR2.out.frozen 3
      have q4 := HR2.out.frozen 4
      have q5 := HR2.out.frozen 5
      have q6 := HR2.out.frozen 6
      have q7 := HR2.out.frozen 7
      have q8 := HR2.out.frozen 8
      have q9 := HR2.out.frozen 9
      have q10 := HR2.out.frozen 10
      have hlr := HR2.out.lt
      simp only [List.getElem?_toArray, List.getElem?_cons_zero, List.getElem?_cons_succ] at e0 e1 e2 e3 e4 e5 e6 e7 e8 e9 e10
      refine wpAnyH_ready (rs := [23]) (by kernel_rfl) (by simp) ?_
      refine AllReadyH.cons (o := _) rfl (fun K hK => ?_) AllReadyH.nil
      go_simp
      refine hK.out _ _ (KeepP.set11 hk4 (fun b hb e => by rcases hb with h | h <;> omega)) (fun _ => ?_)
      clear hK K
      try simp only [Act.put, List.getElem_toArray, List.getElem_cons_zero, List.getElem_cons_succ, List.setIfInBounds_toArray, List.set_cons_zero, List.set_cons_succ]
      refine wpAnyH_done (by kernel_rfl) ?_ _
      go_wp2
      refine bodyPost_ret (ret_sum Tryz.results150 rfl (Blk.store11 HR2.out)) rfl ⟨by rw [HV.out, HMN.out, HMX.out]; rfl, below_set11 (HB.out.trans (HB4.out.mono HB.out.size)) (by omega)⟩
  · skip
    go_simp
    have HB1 := Lib.hid (HB0.out.alloc HB0.out.size (.cells #[.int .u64 ((word (l1) 0 : Nat) : Int), .int .u64 ((word (l1) 1 : Nat) : Int), .int .u64 ((word (l1) 2 : Nat) : Int), .int .u64 ((word (l1) 3 : Nat) : Int), .int .u64 ((word (l2) 0 : Nat) : Int), .int .u64 ((word (l2) 1 : Nat) : Int), .int .u64 ((word (l2) 2 : Nat) : Int), .int .u64 ((word (l2) 3 : Nat) : Int)] 25))
    have hKs1 := fun b (hb : (fun b' => b' = w.heap.size ∨ b' = w.heap.size + 1) b) => Nat.lt_of_lt_of_le (hKl b hb) HB1.out.size
    have hk1 := KeepP.alloc hk0 hKs0 (.cells #[.int .u64 ((word (l1) 0 : Nat) : Int), .int .u64 ((word (l1) 1 : Nat) : Int), .int .u64 ((word (l1) 2 : Nat) : Int), .int .u64 ((word (l1) 3 : Nat) : Int), .int .u64 ((word (l2) 0 : Nat) : Int), .int .u64 ((word (l2) 1 : Nat) : Int), .int .u64 ((word (l2) 2 : Nat) : Int), .int .u64 ((word (l2) 3 : Nat) : Int)] 25)
    have HS20_1 := Lib.hid (show Blk ((w2.drew).alloc (.cells #[.int .u64 ((word (l1) 0 : Nat) : Int), .int .u64 ((word (l1) 1 : Nat) : Int), .int .u64 ((word (l1) 2 : Nat) : Int), .int .u64 ((word (l1) 3 : Nat) : Int), .int .u64 ((word (l2) 0 : Nat) : Int), .int .u64 ((word (l2) 1 : Nat) : Int), .int .u64 ((word (l2) 2 : Nat) : Int), .int .u64 ((word (l2) 3 : Nat) : Int)] 25)) w2.heap.size 25 #[.int .u64 ((word (l1) 0 : Nat) : Int), .int .u64 ((word (l1) 1 : Nat) : Int), .int .u64 ((word (l1) 2 : Nat) : Int), .int .u64 ((word (l1) 3 : Nat) : Int), .int .u64 ((word (l2) 0 : Nat) : Int), .int .u64 ((word (l2) 1 : Nat) : Int), .int .u64 ((word (l2) 2 : Nat) : Int), .int .u64 ((word (l2) 3 : Nat) : Int)] from Blk.new_at (by simp))
    refine hK.out _ _ hk1 (fun _ => ?_)
    clear hK K
    try simp only [Act.put, List.getElem_toArray, List.getElem_cons_zero, List.getElem_cons_succ, List.setIfInBounds_toArray, List.set_cons_zero, List.set_cons_succ]
    refine wpAnyH_ready (rs := [14]) (by kernel_rfl) (by simp) ?_
    refine AllReadyH.cons (o := _) rfl (fun K hK => ?_) AllReadyH.nil
    go_simp
    have HB2 := Lib.hid (HB1.out.alloc HB1.out.size (.cells #[.int .u64 ((word (f1) 0 : Nat) : Int), .int .u64 ((word (f1) 1 : Nat) : Int), .int .u64 ((word (f1) 2 : Nat) : Int), .int .u64 ((word (f1) 3 : Nat) : Int), .int .u64 ((word (f2) 0 : Nat) : Int), .int .u64 ((word (f2) 1 : Nat) : Int), .int .u64 ((word (f2) 2 : Nat) : Int), .int .u64 ((word (f2) 3 : Nat) : Int)] 25))
    have hKs2 := fun b (hb : (fun b' => b' = w.heap.size ∨ b' = w.heap.size + 1) b) => Nat.lt_of_lt_of_le (hKl b hb) HB2.out.size
    have hk2 := KeepP.alloc hk1 hKs1 (.cells #[.int .u64 ((word (f1) 0 : Nat) : Int), .int .u64 ((word (f1) 1 : Nat) : Int), .int .u64 ((word (f1) 2 : Nat) : Int), .int .u64 ((word (f1) 3 : Nat) : Int), .int .u64 ((word (f2) 0 : Nat) : Int), .int .u64 ((word (f2) 1 : Nat) : Int), .int .u64 ((word (f2) 2 : Nat) : Int), .int .u64 ((word (f2) 3 : Nat) : Int)] 25)
    have HS20_2 := Lib.hid (HS20_1.out.alloc (.cells #[.int .u64 ((word (f1) 0 : Nat) : Int), .int .u64 ((word (f1) 1 : Nat) : Int), .int .u64 ((word (f1) 2 : Nat) : Int), .int .u64 ((word (f1) 3 : Nat) : Int), .int .u64 ((word (f2) 0 : Nat) : Int), .int .u64 ((word (f2) 1 : Nat) : Int), .int .u64 ((word (f2) 2 : Nat) : Int), .int .u64 ((word (f2) 3 : Nat) : Int)] 25))
    have HS14_2 := Lib.hid (show Blk (((w2.drew).alloc (.cells #[.int .u64 ((word (l1) 0 : Nat) : Int), .int .u64 ((word (l1) 1 : Nat) : Int), .int .u64 ((word (l1) 2 : Nat) : Int), .int .u64 ((word (l1) 3 : Nat) : Int), .int .u64 ((word (l2) 0 : Nat) : Int), .int .u64 ((word (l2) 1 : Nat) : Int), .int .u64 ((word (l2) 2 : Nat) : Int), .int .u64 ((word (l2) 3 : Nat) : Int)] 25)).alloc (.cells #[.int .u64 ((word (f1) 0 : Nat) : Int), .int .u64 ((word (f1) 1 : Nat) : Int), .int .u64 ((word (f1) 2 : Nat) : Int), .int .u64 ((word (f1) 3 : Nat) : Int), .int .u64 ((word (f2) 0 : Nat) : Int), .int .u64 ((word (f2) 1 : Nat) : Int), .int .u64 ((word (f2) 2 : Nat) : Int), .int .u64 ((word (f2) 3 : Nat) : Int)] 25)) (w2.heap.size + 1) 25 #[.int .u64 ((word (f1) 0 : Nat) : Int), .int .u64 ((word (f1) 1 : Nat) : Int), .int .u64 ((word (f1) 2 : Nat) : Int), .int .u64 ((word (f1) 3 : Nat) : Int), .int .u64 ((word (f2) 0 : Nat) : Int), .int .u64 ((word (f2) 1 : Nat) : Int), .int .u64 ((word (f2) 2 : Nat) : Int), .int .u64 ((word (f2) 3 : Nat) : Int)] from Blk.new_at (by simp))
    refine hK.out _ _ hk2 (fun _ => ?_)
    clear hK K
    try simp only [Act.put, List.getElem_toArray, List.getElem_cons_zero, List.getElem_cons_succ, List.setIfInBounds_toArray, List.set_cons_zero, List.set_cons_succ]
    refine wpAnyH_ready (rs := [15]) (by kernel_rfl) (by simp) ?_
    refine AllReadyH.cons (o := _) rfl (fun K hK => ?_) AllReadyH.nil
    go_simp
    go_at_call 46
    refine (union2_at f1 f2 _ _ HS14_2.out).mono ?_
    rintro e v3 ⟨rfl, hbc⟩
    have HB3 := Lib.hid (HB2.out.trans (hbc.mono HB2.out.size))
    have hKs3 := fun b (hb : (fun b' => b' = w.heap.size ∨ b' = w.heap.size + 1) b) => Nat.lt_of_lt_of_le (hKl b hb) HB3.out.size
    have hk3 := KeepP.below hk2 hbc hKs2
    have HS20_3 := Lib.hid (HS20_2.out.below hbc HS20_2.out.lt)
    have HS14_3 := Lib.hid (HS14_2.out.below hbc HS14_2.out.lt)
    clear hbc
    refine hK.out _ _ hk3 (fun _ => ?_)
    clear hK K
    try simp only [Act.put, List.getElem_toArray, List.getElem_cons_zero, List.getElem_cons_succ, List.setIfInBounds_toArray, List.set_cons_zero, List.set_cons_succ]
    refine wpAnyH_ready (rs := [21]) (by kernel_rfl) (by simp) ?_
    refine AllReadyH.cons (o := _) rfl (fun K hK => ?_) AllReadyH.nil
    go_simp
    go_at_call 46
    refine (union2_at l1 l2 _ _ HS20_3.out).mono ?_
    rintro e v4 ⟨rfl, hbc⟩
    have HB4 := Lib.hid (HB3.out.trans (hbc.mono HB3.out.size))
    have hKs4 := fun b (hb : (fun b' => b' = w.heap.size ∨ b' = w.heap.size + 1) b) => Nat.lt_of_lt_of_le (hKl b hb) HB4.out.size
    have hk4 := KeepP.below hk3 hbc hKs3
    have HS20_4 := Lib.hid (HS20_3.out.below hbc HS20_3.out.lt)
    have HS14_4 := Lib.hid (HS14_3.out.below hbc HS14_3.out.lt)
    clear hbc
    refine hK.out _ _ hk4 (fun _ => ?_)
    clear hK K
    try simp only [Act.put, List.getElem_toArray, List.getElem_cons_zero, List.getElem_cons_succ, List.setIfInBounds_toArray, List.set_cons_zero, List.set_cons_succ]
    refine wpAnyH_take (i := 22) (oi := _) (v := ?_) rfl (by kernel_rfl) (by kernel_rfl) (by kernel_rfl) (fun _ _ _ h => h) (Or.inl ⟨by kernel_rfl, ?_⟩) (by assumption) ?_
    rotate_left
    · intro w hSw
      try dsimp only at hSw
      go_simp
      try (with_reducible rfl)
    try simp only [Act.put, List.getElem_toArray, List.getElem_cons_zero, List.getElem_cons_succ, List.setIfInBounds_toArray, List.set_cons_zero, List.set_cons_succ]
    have HR2 := Lib.hid (HXR.out.below HB4.out HXR.out.lt)
    have e0 := HR2.out.cell 0
    have e1 := HR2.out.cell 1
    have e2 := HR2.out.cell 2
    have e3 := HR2.out.cell 3
    have e4 := HR2.out.cell 4
    have e5 := HR2.out.cell 5
    have e6 := HR2.out.cell 6
    have e7 := HR2.out.cell 7
    have e8 := HR2.out.cell 8
    have e9 := HR2.out.cell 9
    have e10 := HR2.out.cell 10
    have q0 := HR2.out.frozen 0
    have q1 := HR2.out.frozen 1
    have q2 := HR2.out.frozen 2
    have q3 := HR2.out.frozen 3
    have q4 := HR2.out.frozen 4
    have q5 := HR2.out.frozen 5
    have q6 := HR2.out.frozen 6
    have q7 := HR2.out.frozen 7
    have q8 := HR2.out.frozen 8
    have q9 := HR2.out.frozen 9
    have q10 := HR2.out.frozen 10
    have hlr := HR2.out.lt
    simp only [List.getElem?_toArray, List.getElem?_cons_zero, List.getElem?_cons_succ] at e0 e1 e2 e3 e4 e5 e6 e7 e8 e9 e10
    refine wpAnyH_ready (rs := [23]) (by kernel_rfl) (by simp) ?_
    refine AllReadyH.cons (o := _) rfl (fun K hK => ?_) AllReadyH.nil
    go_simp
    refine hK.out _ _ (KeepP.set11 hk4 (fun b hb e => by rcases hb with h | h <;> omega)) (fun _ => ?_)
    clear hK K
    try simp only [Act.put, List.getElem_toArray, List.getElem_cons_zero, List.getElem_cons_succ, List.setIfInBounds_toArray, List.set_cons_zero, List.set_cons_succ]
    refine wpAnyH_done (by kernel_rfl) ?_ _
    go_wp2
    refine bodyPost_ret (ret_sum Tryz.results150 rfl (Blk.store11 HR2.out)) rfl ⟨by rw [HV.out, HMN.out, HMX.out]; rfl, below_set11 (HB.out.trans (HB4.out.mono HB.out.size)) (by omega)⟩
end Go.Proofs.YtfekpkelmliejaaGreatDoor
namespace Go.Proofs.YtfekpkelmliejaaGreatDoor
open Go.RowKit
set_option linter.unusedSimpArgs false
set_option linter.unusedVariables false
set_option maxRecDepth 100000

theorem str_block (w : World) (C : Array Value) (t : TypeId) (o : Nat) (ns : List Nat) (h : ∀ j u, (ns.map (fun n : Nat => Value.int .u8 (n : Int)))[j]? = some u → C[o + j]? = some u) :
    (convert 30 9 (.slice (some ⟨w.heap.size, o, none⟩) ns.length ns.length)).run Tryz.prog (w.alloc (.cells C t)) = .ok (.string (strOf ns)) (w.alloc (.cells C t)) :=
  run_str _ ⟨w.heap.size, o, none⟩ ns.length ns (fun j u hu => by
    have hb := Blk.new w t C
    have e : (⟨w.heap.size, o, none⟩ : Addr).add j = ⟨w.heap.size, o + j, none⟩ := by
      unfold Addr.add
      split
      · next hz => subst hz; rfl
      · rfl
    rw [e, hb.cell]
    exact h j u hu)

@[go_sem] theorem run_str1i (w : World) (c : Nat) : (convert 30 9 (.slice (some ⟨w.heap.size, 0, none⟩) 1 1)).run Tryz.prog (w.alloc (.cells #[.int .u8 (48 + (c : Int))] 5)) =
    .ok (.string (strOf [48 + c])) (w.alloc (.cells #[.int .u8 (48 + (c : Int))] 5)) :=
  str_block w _ _ 0 [48 + c] (fun j u hu => by
    match j, hu with
    | 0, hu => simpa using hu
    | j + 1, hu => simp at hu)
end Go.Proofs.YtfekpkelmliejaaGreatDoor
namespace Go.Proofs.YtfekpkelmliejaaGreatDoor
set_option linter.unusedSimpArgs false
set_option linter.unusedVariables false
open Go.RowKit

end Go.Proofs.YtfekpkelmliejaaGreatDoor
namespace Go.Proofs.YtfekpkelmliejaaGreatDoor
open Go.RowKit
set_option linter.unusedSimpArgs false
set_option linter.unusedVariables false
set_option maxRecDepth 100000

end Go.Proofs.YtfekpkelmliejaaGreatDoor
namespace Go.Proofs.YtfekpkelmliejaaGreatDoor
open Go.RowKit
set_option linter.unusedSimpArgs false
set_option linter.unusedVariables false
set_option maxRecDepth 100000

/-- A row of lexemes that may be read. -/
def LexRow (w : World) (v : Value) (L : List Lex) : Prop :=
  ∃ A cap, v = .slice A L.length cap ∧ ∀ k x, L[k]? = some x → ∃ g, A = some ⟨g, 0, none⟩ ∧
    w.cell? ⟨g, k * 8, none⟩ = some (.int .i64 x.kind) ∧ w.cell? ⟨g, k * 8 + 1, none⟩ = some (.int .i64 x.place) ∧
    w.cell? ⟨g, k * 8 + 2, none⟩ = some (.int .u64 ((word x.set 0 : Nat) : Int)) ∧ w.cell? ⟨g, k * 8 + 2 + 1, none⟩ = some (.int .u64 ((word x.set 1 : Nat) : Int)) ∧ w.cell? ⟨g, k * 8 + 2 + 2, none⟩ = some (.int .u64 ((word x.set 2 : Nat) : Int)) ∧ w.cell? ⟨g, k * 8 + 2 + 3, none⟩ = some (.int .u64 ((word x.set 3 : Nat) : Int)) ∧
    w.cell? ⟨g, k * 8 + 6, none⟩ = some (.int .i64 x.lo) ∧ w.cell? ⟨g, k * 8 + 7, none⟩ = some (.int .i64 x.hi)

theorem lexCells_at : ∀ (L : List Lex) (k : Nat) (x : Lex), L[k]? = some x → ∀ j, j < 8 → (lexCells L)[k * 8 + j]? = (lexCell x)[j]?
  | [], k, x, h, j, hj => by simp at h
  | y :: L, 0, x, h, j, hj => by
    have e : y = x := by simpa using h
    subst e
    have e2 : lexCells (y :: L) = lexCell y ++ lexCells L := by simp [lexCells]
    rw [e2, Nat.zero_mul, Nat.zero_add, List.getElem?_append_left (by simpa [lexCell] using hj)]
  | y :: L, k + 1, x, h, j, hj => by
    have e2 : lexCells (y :: L) = lexCell y ++ lexCells L := by simp [lexCells]
    have hl : (lexCell y).length = 8 := by simp [lexCell]
    rw [e2, List.getElem?_append_right (by omega), hl, show (k + 1) * 8 + j - 8 = k * 8 + j by omega]
    exact lexCells_at L k x (by simpa using h) j hj

theorem lexRow_of {w : World} {base : Nat} {v : Value} {L : List Lex} (h : w.ownsRow base 139 8 v L.length (lexCells L)) : LexRow w v L := by
  obtain ⟨A, cap, hv⟩ := own_slice h
  refine ⟨A, cap, hv, fun k x hx => ?_⟩
  have hpos : 0 < L.length := by
    have := (List.getElem?_eq_some_iff.mp hx).1
    omega
  obtain ⟨g, cap', hv', hbase, hg⟩ := own_form h hpos
  have hA : A = some ⟨g, 0, none⟩ := by rw [hv] at hv'; exact (Value.slice.inj hv').1
  have hc := h.cells (g := g) (by rw [hv']; rfl)
  have hat : ∀ j u, j < 8 → (lexCell x)[j]? = some u → w.cell? ⟨g, k * 8 + j, none⟩ = some u := fun j u hj hu => by
    have := hc (k * 8 + j) u ((lexCells_at L k x hx j hj).trans hu)
    have e : (⟨g, 0, none⟩ : Addr).add (k * 8 + j) = ⟨g, k * 8 + j, none⟩ := by
      rcases Nat.eq_zero_or_pos (k * 8 + j) with hz | hz
      · rw [hz]; rfl
      · have h1 : ¬ (k * 8 = 0 ∧ j = 0) := by omega
        simp [Addr.add, h1]
    exact e ▸ this
  exact ⟨g, hA, hat 0 _ (by decide) rfl, hat 1 _ (by decide) rfl, hat 2 _ (by decide) rfl, hat 3 _ (by decide) rfl, hat 4 _ (by decide) rfl, hat 5 _ (by decide) rfl, hat 6 _ (by decide) rfl, hat 7 _ (by decide) rfl⟩

end Go.Proofs.YtfekpkelmliejaaGreatDoor
namespace Go.Proofs.YtfekpkelmliejaaGreatDoor
open Go.RowKit
set_option linter.unusedSimpArgs false
set_option linter.unusedVariables false
set_option maxRecDepth 100000

end Go.Proofs.YtfekpkelmliejaaGreatDoor
namespace Go.Proofs.YtfekpkelmliejaaGreatDoor
open Go.RowKit
set_option linter.unusedSimpArgs false
set_option linter.unusedVariables false
set_option maxRecDepth 100000

end Go.Proofs.YtfekpkelmliejaaGreatDoor
