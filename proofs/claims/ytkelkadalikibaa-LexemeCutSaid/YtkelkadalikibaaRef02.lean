/-
  The contracts of the reference's sets.
-/
import Derived.Test.YtkelkadalikibaaUnion
namespace Go.Proofs.Ytkelkadalikibaa
open Go.RowKit
set_option linter.unusedSimpArgs false
set_option linter.unusedVariables false

theorem and1 (x : Nat) (hx : x < 18446744073709551616) (b : Bool) (hb : x % 2 = b.toNat) : (bits .and .u64 (x : Int) 1 == 1) = b := by
  rw [and_one_u64 _ (by omega) (by omega)]
  cases b
  · have h : ((x : Int) % 2) = 0 := by simp at hb; omega
    rw [h]; rfl
  · have h : ((x : Int) % 2) = 1 := by simp at hb; omega
    rw [h]; rfl
theorem has_bit (p : Nat → Bool) (c : Int) (i : Nat) (h0 : 0 ≤ c) (hi : c / 64 = (i : Int)) :
    (bits .and .u64 (((word p i : Nat) : Int) / 2 ^ (c % 64).toNat) 1 == 1) = p c.toNat := by
  obtain ⟨n, rfl⟩ := Int.eq_ofNat_of_zero_le h0
  have e1 : (((n : Int) % 64).toNat) = n % 64 := by omega
  have e2 : i = n / 64 := by omega
  have hl : word p (n / 64) / 2 ^ (n % 64) < 18446744073709551616 := Nat.lt_of_le_of_lt (Nat.div_le_self _ _) (word_lt p _)
  rw [e1, e2, show (((word p (n / 64) : Nat) : Int) / 2 ^ (n % 64)) = ((word p (n / 64) / 2 ^ (n % 64) : Nat) : Int) by simp, Int.toNat_natCast]
  exact and1 _ hl _ (word_bit p n)

theorem with_or (p : Nat → Bool) (c : Int) (i : Nat) (h0 : 0 ≤ c) (hi : c / 64 = (i : Int)) :
    bits .or .u64 ((word p i : Nat) : Int) (IntKind.u64.wrap (2 ^ (c % 64).toNat)) = ((word (withB p c.toNat) i : Nat) : Int) := by
  obtain ⟨n, rfl⟩ := Int.eq_ofNat_of_zero_le h0
  have e1 : (((n : Int) % 64).toNat) = n % 64 := by omega
  have e2 : i = n / 64 := by omega
  have h1 : 2 ^ (n % 64) < 2 ^ 64 := Nat.pow_lt_pow_right (by decide) (Nat.mod_lt _ (by decide))
  rw [e1, e2, Int.toNat_natCast, ← word_with, IntKind.wrap_u64]
  have e : (2 : Int) ^ (n % 64) % 18446744073709551616 = ((2 ^ (n % 64) : Nat) : Int) := by
    have e0 : (2 : Int) ^ (n % 64) = ((2 ^ (n % 64) : Nat) : Int) := by simp
    rw [e0]
    generalize 2 ^ (n % 64) = k at *
    simp at h1
    omega
  rw [e]
  exact u64_or_nat _ _ (word_lt p _) h1

theorem with_other (p : Nat → Bool) (c : Int) (i j : Nat) (h0 : 0 ≤ c) (hi : c / 64 = (i : Int)) (hj : j ≠ i) : word (withB p c.toNat) j = word p j :=
  word_with_other p c.toNat j (by omega)

set_option maxRecDepth 100000 in
set_option maxHeartbeats 800000 in
theorem rhas_any (p : Nat → Bool) (c : Int) (w : World) (h0 : 0 ≤ c) (h1 : c < 256) :
    Calls Try.prog 99 #[.agg #[.int .u64 ((word (p) 0 : Nat) : Int), .int .u64 ((word (p) 1 : Nat) : Int), .int .u64 ((word (p) 2 : Nat) : Int), .int .u64 ((word (p) 3 : Nat) : Int)], .int .i64 c] w fun e w' => e = .returned (.bool (p c.toNat)) ∧ Below w.heap.size w w' := by
  obtain hq | hq | hq | hq : c / 64 = 0 ∨ c / 64 = 1 ∨ c / 64 = 2 ∨ c / 64 = 3 := by omega
  · go_enter Try.func99, Try.ntmps99
    go_wp2
    go_light
    go_ret
    exact ⟨ret_b (has_bit p c 0 h0 hq), (Below.refl _ _).alloc (Nat.le_refl _) _⟩
  · go_enter Try.func99, Try.ntmps99
    go_wp2
    go_light
    go_ret
    exact ⟨ret_b (has_bit p c 1 h0 hq), (Below.refl _ _).alloc (Nat.le_refl _) _⟩
  · go_enter Try.func99, Try.ntmps99
    go_wp2
    go_light
    go_ret
    exact ⟨ret_b (has_bit p c 2 h0 hq), (Below.refl _ _).alloc (Nat.le_refl _) _⟩
  · go_enter Try.func99, Try.ntmps99
    go_wp2
    go_light
    go_ret
    exact ⟨ret_b (has_bit p c 3 h0 hq), (Below.refl _ _).alloc (Nat.le_refl _) _⟩

set_option maxRecDepth 100000 in
set_option maxHeartbeats 800000 in
theorem rwith_any (p : Nat → Bool) (c : Int) (w : World) (h0 : 0 ≤ c) (h1 : c < 256) :
    Calls Try.prog 80 #[.agg #[.int .u64 ((word (p) 0 : Nat) : Int), .int .u64 ((word (p) 1 : Nat) : Int), .int .u64 ((word (p) 2 : Nat) : Int), .int .u64 ((word (p) 3 : Nat) : Int)], .int .i64 c] w fun e w' => e = .returned (.agg #[.int .u64 ((word (withB p c.toNat) 0 : Nat) : Int), .int .u64 ((word (withB p c.toNat) 1 : Nat) : Int), .int .u64 ((word (withB p c.toNat) 2 : Nat) : Int), .int .u64 ((word (withB p c.toNat) 3 : Nat) : Int)]) ∧ Below w.heap.size w w' := by
  obtain hq | hq | hq | hq : c / 64 = 0 ∨ c / 64 = 1 ∨ c / 64 = 2 ∨ c / 64 = 3 := by omega
  · go_enter Try.func80, Try.ntmps80
    go_wp2
    go_light
    refine bodyPost_ret (ret_set Try.results80 rfl (Blk.new_at (by simp))) rfl ⟨?_, ((Below.refl _ _).alloc (Nat.le_refl _) _).alloc (by simp) _⟩
    rw [with_or p c 0 h0 hq, with_other p c 0 1 h0 hq (by decide), with_other p c 0 2 h0 hq (by decide), with_other p c 0 3 h0 hq (by decide)]
  · go_enter Try.func80, Try.ntmps80
    go_wp2
    go_light
    refine bodyPost_ret (ret_set Try.results80 rfl (Blk.new_at (by simp))) rfl ⟨?_, ((Below.refl _ _).alloc (Nat.le_refl _) _).alloc (by simp) _⟩
    rw [with_or p c 1 h0 hq, with_other p c 1 0 h0 hq (by decide), with_other p c 1 2 h0 hq (by decide), with_other p c 1 3 h0 hq (by decide)]
  · go_enter Try.func80, Try.ntmps80
    go_wp2
    go_light
    refine bodyPost_ret (ret_set Try.results80 rfl (Blk.new_at (by simp))) rfl ⟨?_, ((Below.refl _ _).alloc (Nat.le_refl _) _).alloc (by simp) _⟩
    rw [with_or p c 2 h0 hq, with_other p c 2 0 h0 hq (by decide), with_other p c 2 1 h0 hq (by decide), with_other p c 2 3 h0 hq (by decide)]
  · go_enter Try.func80, Try.ntmps80
    go_wp2
    go_light
    refine bodyPost_ret (ret_set Try.results80 rfl (Blk.new_at (by simp))) rfl ⟨?_, ((Below.refl _ _).alloc (Nat.le_refl _) _).alloc (by simp) _⟩
    rw [with_or p c 3 h0 hq, with_other p c 3 0 h0 hq (by decide), with_other p c 3 1 h0 hq (by decide), with_other p c 3 2 h0 hq (by decide)]

theorem between_low {lo hi c : Nat} (h1 : lo ≤ c) (h2 : c ≤ hi) : between lo hi c = true := by simp [between, h1, h2]

set_option maxRecDepth 100000 in
set_option maxHeartbeats 800000 in
theorem rspan_any (lo hi : Int) (w : World) (h0 : 0 ≤ lo) (h1 : hi < 256) (h2 : lo < 256) (h3 : 0 ≤ hi) :
    Calls Try.prog 83 #[.int .i64 lo, .int .i64 hi] w fun e w' => e = .returned (.agg #[.int .u64 ((word (between lo.toNat hi.toNat) 0 : Nat) : Int), .int .u64 ((word (between lo.toNat hi.toNat) 1 : Nat) : Int), .int .u64 ((word (between lo.toNat hi.toNat) 2 : Nat) : Int), .int .u64 ((word (between lo.toNat hi.toNat) 3 : Nat) : Int)]) ∧ Below w.heap.size w w' := by
  go_enter Try.func83, Try.ntmps83
  go_wp2
  go_loopw [6] (fun i wr => ∃ (c : Int), i = .int .i64 c ∧ lo ≤ c ∧ (c ≤ hi ∨ c = lo ∨ c = hi + 1) ∧ Blk wr (w.heap.size + 1) 35 #[.int .u64 ((word (upto (between lo.toNat hi.toNat) c.toNat) 0 : Nat) : Int), .int .u64 ((word (upto (between lo.toNat hi.toNat) c.toNat) 1 : Nat) : Int), .int .u64 ((word (upto (between lo.toNat hi.toNat) c.toNat) 2 : Nat) : Int), .int .u64 ((word (upto (between lo.toNat hi.toNat) c.toNat) 3 : Nat) : Int)] ∧
      Blk wr w.heap.size 35 #[.int .u64 0, .int .u64 0, .int .u64 0, .int .u64 0] ∧ Below w.heap.size w wr) (fun i _ => (hi + 1 - intOf i).toNat)
  case atStart =>
    refine ⟨lo, rfl, Int.le_refl _, .inr (.inl rfl), ?_, ?_, ?_⟩
    · rw [show upto (between lo.toNat hi.toNat) lo.toNat = fun _ => false by funext k; simp [upto, between]; omega]
      simp only [word_none]; exact Blk.new_at (by simp)
    · exact (Blk.new _ _ _).alloc _
    · exact ((Below.refl _ _).alloc (Nat.le_refl _) _).alloc (by simp) _
  case round =>
    obtain ⟨c, rfl, hc0, hc1, hs, hr, hb⟩ := hrel
    by_cases hlt : c ≤ hi
    · have hz := hs.lt
      obtain ⟨s0, s1, s2, s3, f0, f1, f2, f3⟩ := hs.c4
      have Hs := Lib.hid hs
      have Hr := Lib.hid hr
      clear hs hr hc1
      go_wp2_with (go_at_call 80; refine (rwith_any _ _ _ (by omega) (by omega)).mono ?_; rintro e w1 ⟨rfl, hb1⟩; obtain ⟨t0, t1, t2, t3, g0, g1, g2, g3⟩ := (Hs.out.below hb1 Hs.out.lt).c4)
      go_light
      go_roundw
      case rel =>
        refine ⟨c + 1, by go_num, by omega, by omega, ?_, ?_, ?_⟩
        · rw [show (c + 1).toNat = c.toNat + 1 by omega, upto_yes (between_low (by omega) (by omega))]
          exact (Hs.out.below hb1 Hs.out.lt).set4
        · exact ((((Hr.out.below hb1 Hr.out.lt).far (by simp) _).far (by simp) _).far (by simp) _).far (by simp) _
        · repeat (first | exact hb.trans (hb1.mono hb.size) | refine Below.setCell ?_ (by simp) _)
      case measure => simp [intOf]; omega
    · have hz := hs.lt
      obtain ⟨s0, s1, s2, s3, f0, f1, f2, f3⟩ := hs.c4
      obtain ⟨r0, r1, r2, r3, g0, g1, g2, g3⟩ := hr.c4
      have Hr := Lib.hid hr
      have Hc := Lib.hid hc1
      clear hr hs hc1
      go_wp2
      go_light
      refine bodyPost_ret (ret_set Try.results83 rfl Hr.out.set4) rfl ⟨?_, ?_⟩
      · have := Hc.out
        have e : upto (between lo.toNat hi.toNat) c.toNat = between lo.toNat hi.toNat := by
          funext k; unfold upto between
          by_cases hk : lo.toNat ≤ k ∧ k ≤ hi.toNat
          · simp [hk.1, hk.2]; omega
          · rw [Bool.eq_iff_iff]; simp; omega
        rw [e]
      · repeat (first | exact hb | refine Below.setCell ?_ (by simp) _)

end Go.Proofs.Ytkelkadalikibaa
