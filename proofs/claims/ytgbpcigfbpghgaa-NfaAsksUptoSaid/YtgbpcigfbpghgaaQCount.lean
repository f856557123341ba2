/-
  The contracts of bits.OnesCount64 and sets.Count.
-/
import Derived.Test.YtgbpcigfbpghgaaQZ01
import Derived.Test.YtgbpcigfbpghgaaQPop
namespace Go.Proofs.Ytgbpcigfbpghgaa
open Go.RowKit
set_option linter.unusedSimpArgs false
set_option linter.unusedVariables false
set_option maxRecDepth 100000

theorem and64 (a M : Nat) (ha : a < 18446744073709551616) (hM : M < 18446744073709551616) : bits .and .u64 (a : Int) (M : Int) = ((a &&& M : Nat) : Int) := u64_and_nat a M ha hM
theorem wrapN (a : Nat) (h : a < 18446744073709551616) : IntKind.u64.wrap (a : Int) = (a : Int) := by rw [IntKind.wrap_u64]; omega
theorem i64_and127 (a : Nat) (ha : a < 9223372036854775808) : bits .and .i64 (a : Int) 127 = ((a % 128 : Nat) : Int) := by
  have hx : a &&& 127 = a % 128 := Nat.and_two_pow_sub_one_eq_mod a 7
  show IntKind.i64.wrap ((BitVec.ofInt 64 (a : Int) &&& BitVec.ofInt 64 (127 : Int)).toNat : Int) = _
  have e1 : (BitVec.ofInt 64 (a : Int)).toNat = a := by rw [BitVec.ofInt_natCast, BitVec.toNat_ofNat]; exact Nat.mod_eq_of_lt (by omega)
  have e2 : (BitVec.ofInt 64 (127 : Int)).toNat = 127 := by decide
  rw [BitVec.toNat_and, e1, e2, hx, IntKind.wrap_i64]
  omega
theorem mask55 : mask 0x55 8 = 6148914691236517205 := by decide
theorem mask33 : mask 0x33 8 = 3689348814741910323 := by decide
theorem mask0f : mask 0x0f 8 = 1085102592571150095 := by decide
theorem st1 (x : Nat) (hx : x < 18446744073709551616) : IntKind.u64.wrap (bits .and .u64 ((x : Int) / 2) 6148914691236517205 + bits .and .u64 (x : Int) 6148914691236517205) = ((s1 8 x : Nat) : Int) ∧ s1 8 x < 18446744073709551616 := by
  have e : ((x : Int) / 2) = ((x / 2 : Nat) : Int) := by omega
  have h1 : (x / 2) &&& 6148914691236517205 ≤ 6148914691236517205 := Nat.and_le_right
  have h2 : x &&& 6148914691236517205 ≤ 6148914691236517205 := Nat.and_le_right
  have b1 := and64 (x / 2) 6148914691236517205 (by omega) (by decide)
  have b2 := and64 x 6148914691236517205 hx (by decide)
  rw [show (((6148914691236517205 : Nat)) : Int) = 6148914691236517205 from rfl] at b1 b2
  unfold s1
  rw [mask55, e, b1, b2, ← Int.natCast_add]
  exact ⟨wrapN _ (by omega), by omega⟩
theorem st2 (x : Nat) (hx : x < 18446744073709551616) : IntKind.u64.wrap (bits .and .u64 ((x : Int) / 4) 3689348814741910323 + bits .and .u64 (x : Int) 3689348814741910323) = ((s2 8 x : Nat) : Int) ∧ s2 8 x ≤ 7378697629483820646 := by
  have e : ((x : Int) / 4) = ((x / 4 : Nat) : Int) := by omega
  have h1 : (x / 4) &&& 3689348814741910323 ≤ 3689348814741910323 := Nat.and_le_right
  have h2 : x &&& 3689348814741910323 ≤ 3689348814741910323 := Nat.and_le_right
  have b1 := and64 (x / 4) 3689348814741910323 (by omega) (by decide)
  have b2 := and64 x 3689348814741910323 hx (by decide)
  rw [show (((3689348814741910323 : Nat)) : Int) = 3689348814741910323 from rfl] at b1 b2
  unfold s2
  rw [mask33, e, b1, b2, ← Int.natCast_add]
  exact ⟨wrapN _ (by omega), by omega⟩
theorem st3 (x : Nat) (hx : x ≤ 7378697629483820646) : bits .and .u64 (IntKind.u64.wrap ((x : Int) / 16 + (x : Int))) 1085102592571150095 = ((s3 8 x : Nat) : Int) ∧ s3 8 x ≤ 1085102592571150095 := by
  have e : ((x : Int) / 16 + (x : Int)) = ((x / 16 + x : Nat) : Int) := by omega
  have b1 := and64 (x / 16 + x) 1085102592571150095 (by omega) (by decide)
  rw [show (((1085102592571150095 : Nat)) : Int) = 1085102592571150095 from rfl] at b1
  unfold s3
  rw [mask0f, e, wrapN _ (by omega), b1]
  exact ⟨rfl, Nat.and_le_right⟩

set_option maxHeartbeats 1000000 in
theorem ones_go (x : Nat) (w : World) (hx : x < 18446744073709551616) :
    Calls Try.prog 73 #[.int .u64 (x : Int)] w fun e w' => e = .returned (.int .i64 ((cnt x.testBit 64 : Nat) : Int)) ∧ w = w' := by
  go_enter Try.func73, Try.ntmps73
  go_wp2
  go_light
  go_ret
  refine ⟨ret_i ?_, rfl⟩
  obtain ⟨e1, l1⟩ := st1 x hx
  obtain ⟨e2, l2⟩ := st2 (s1 8 x) l1
  obtain ⟨e3, l3⟩ := st3 (s2 8 (s1 8 x)) l2
  have ef : fold3 (s3 8 (s2 8 (s1 8 x))) = cnt x.testBit 64 := by rw [(s123 8 x).1, fold3_cnts, sums_cnt]
  rw [e1, e2, e3]
  generalize s3 8 (s2 8 (s1 8 x)) = z at *
  rw [← ef]
  unfold fold3
  dsimp only
  clear e1 e2 e3 l1 l2 ef
  have q1 : ((z : Int) + (z : Int) / 256) = ((z + z / 256 : Nat) : Int) := by omega
  rw [q1, wrapN _ (by omega)]
  generalize hu : z + z / 256 = u
  have lu : u ≤ 2170205185142300190 := by omega
  have q2 : ((u : Int) + (u : Int) / 65536) = ((u + u / 65536 : Nat) : Int) := by omega
  rw [q2, wrapN _ (by omega)]
  generalize hv : u + u / 65536 = v
  have lv : v ≤ 2180205185142300190 := by omega
  have q3 : ((v : Int) + (v : Int) / 4294967296) = ((v + v / 4294967296 : Nat) : Int) := by omega
  rw [q3, wrapN _ (by omega), show wrap64 ((v + v / 4294967296 : Nat) : Int) = ((v + v / 4294967296 : Nat) : Int) by unfold wrap64; omega]
  exact i64_and127 _ (by omega)

theorem cnt_word (p : Nat → Bool) (i : Nat) : cnt (word p i).testBit 64 = cnt (fun k => p (64 * i + k)) 64 :=
  cnt_congr 64 fun k hk => by rw [testBit_word]; simp [hk]
theorem cnt_words (p : Nat → Bool) : cnt (word p 0).testBit 64 + cnt (word p 1).testBit 64 + cnt (word p 2).testBit 64 + cnt (word p 3).testBit 64 = cnt p 256 := by
  rw [cnt_word, cnt_word, cnt_word, cnt_word, show 256 = 64 + (64 + (64 + 64)) from rfl, cnt_add, cnt_add, cnt_add]
  simp only [Nat.mul_zero, Nat.zero_add, ← Nat.add_assoc, Nat.mul_one, show 64 * 2 = 64 + 64 from rfl, show 64 * 3 = 64 + 64 + 64 from rfl]

set_option maxHeartbeats 1000000 in
theorem count_go (p : Nat → Bool) (w : World) :
    Calls Try.prog 54 #[.agg #[.int .u64 ((word (p) 0 : Nat) : Int), .int .u64 ((word (p) 1 : Nat) : Int), .int .u64 ((word (p) 2 : Nat) : Int), .int .u64 ((word (p) 3 : Nat) : Int)]] w fun e w' => e = .returned (.int .i64 ((cnt p 256 : Nat) : Int)) ∧ Below w.heap.size w w' := by
  go_enter Try.func54, Try.ntmps54
  go_wp2
  refine wp_loop_rounds 5 ?_
  rw [rounds_succ]
  go_wp2_with (go_at_call 73; refine (ones_go _ _ (word_lt _ _)).mono ?_; rintro e w2 ⟨rfl, rfl⟩)
  rw [rounds_succ]
  go_wp2_with (go_at_call 73; refine (ones_go _ _ (word_lt _ _)).mono ?_; rintro e w2 ⟨rfl, rfl⟩)
  rw [rounds_succ]
  go_wp2_with (go_at_call 73; refine (ones_go _ _ (word_lt _ _)).mono ?_; rintro e w2 ⟨rfl, rfl⟩)
  rw [rounds_succ]
  go_wp2_with (go_at_call 73; refine (ones_go _ _ (word_lt _ _)).mono ?_; rintro e w2 ⟨rfl, rfl⟩)
  rw [rounds_succ]
  go_wp2
  go_light
  go_ret
  refine ⟨ret_i ?_, (Below.refl _ _).alloc (Nat.le_refl _) _⟩
  have e := cnt_words p
  have l0 := cnt_le (word p 0).testBit 64
  have l1 := cnt_le (word p 1).testBit 64
  have l2 := cnt_le (word p 2).testBit 64
  have l3 := cnt_le (word p 3).testBit 64
  rw [← e]
  unfold wrap64
  omega

end Go.Proofs.Ytgbpcigfbpghgaa
