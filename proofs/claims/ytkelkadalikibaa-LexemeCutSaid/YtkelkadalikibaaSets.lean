/-
  The contracts of package sets: what each function gives, for every set that is known by its bytes.
-/
import Derived.Test.YtkelkadalikibaaMem
import Derived.Test.YtkelkadalikibaaRows
import Derived.WalkKit
import Derived.WalkSpells
import Derived.WalkLawsBesides
import Derived.Outline
import Derived.Deep.Light
namespace Go.Proofs.Ytkelkadalikibaa
open Go.RowKit
set_option linter.unusedSimpArgs false
set_option linter.unusedVariables false

/-- The result that lies in a block of four words. -/
theorem ret_set {fn : Func} {t : Tmp} (h : fn.results = #[.cell t 35]) {tmps : Array Value} {w : World} {g : Nat} {a b c d : Value} (hp : tmps.getD t undef = .pointer (some ⟨g, 0, none⟩)) (hb : Blk w g 35 #[a, b, c, d]) :
    (results fn tmps).run Try.prog w = .ok (.agg #[a, b, c, d]) w :=
  results_cell_row h tmps w g _ _ _ _ hp hb Try.underlying35 rfl (by kernel_rfl)

theorem wrap_below {n : Nat} (h : n < 64) : IntKind.u64.wrap (IntKind.u64.wrap (2 ^ n) - 1) = ((2 ^ n - 1 : Nat) : Int) := by
  have h1 : 2 ^ n < 2 ^ 64 := Nat.pow_lt_pow_right (by decide) h
  have h2 : 0 < 2 ^ n := Nat.two_pow_pos n
  rw [IntKind.wrap_u64, IntKind.wrap_u64]
  have e : (2 : Int) ^ n = ((2 ^ n : Nat) : Int) := by simp
  rw [e]
  generalize 2 ^ n = k at *
  simp at h1
  omega

set_option maxHeartbeats 400000 in
theorem below_any (n : Int) (w : World) (h0 : 0 ≤ n) (h1 : n ≤ 256) :
    Calls Try.prog 116 #[.int .i64 n] w fun e w' => e = .returned (.int .u64 ((2 ^ (min n.toNat 64) - 1 : Nat) : Int)) ∧ w = w' := by
  go_enter Try.func116, Try.ntmps116
  go_wp2
  · have h : 64 ≤ n := by assumption
    go_ret
    rw [Nat.min_eq_right (by omega)]
    exact ⟨rfl, rfl⟩
  · have h : n < 64 := by assumption
    go_ret
    rw [Nat.min_eq_left (by omega), wrap_below (by omega)]
    exact ⟨rfl, rfl⟩

@[go_sem] theorem index0 (a b c d : Value) (w : World) : (Instr.index 35 (.agg #[a, b, c, d]) (.int .i64 0)).run Try.prog w = .ok a w := by kernel_rfl
@[go_sem] theorem index1 (a b c d : Value) (w : World) : (Instr.index 35 (.agg #[a, b, c, d]) (.int .i64 1)).run Try.prog w = .ok b w := by kernel_rfl
@[go_sem] theorem index2 (a b c d : Value) (w : World) : (Instr.index 35 (.agg #[a, b, c, d]) (.int .i64 2)).run Try.prog w = .ok c w := by kernel_rfl
@[go_sem] theorem index3 (a b c d : Value) (w : World) : (Instr.index 35 (.agg #[a, b, c, d]) (.int .i64 3)).run Try.prog w = .ok d w := by kernel_rfl

theorem u64_xor_word (p : Nat → Bool) (i : Nat) : bits .xor .u64 IntKind.u64.max ((word p i : Nat) : Int) = ((word (fun c => !p c) i : Nat) : Int) := by
  rw [← xor_all]
  exact u64_xor_nat 18446744073709551615 _ (by decide) (word_lt p i)
theorem u64_or_word (p q : Nat → Bool) (i : Nat) : bits .or .u64 ((word p i : Nat) : Int) ((word q i : Nat) : Int) = ((word (fun c => p c || q c) i : Nat) : Int) := by
  rw [← word_or]
  exact u64_or_nat _ _ (word_lt p i) (word_lt q i)

set_option maxRecDepth 100000 in
set_option maxHeartbeats 400000 in
theorem not_any (p : Nat → Bool) (w : World)  :
    Calls Try.prog 74 #[.agg #[.int .u64 ((word (p) 0 : Nat) : Int), .int .u64 ((word (p) 1 : Nat) : Int), .int .u64 ((word (p) 2 : Nat) : Int), .int .u64 ((word (p) 3 : Nat) : Int)]] w fun e w' => e = .returned (.agg #[.int .u64 ((word (fun c => !p c) 0 : Nat) : Int), .int .u64 ((word (fun c => !p c) 1 : Nat) : Int), .int .u64 ((word (fun c => !p c) 2 : Nat) : Int), .int .u64 ((word (fun c => !p c) 3 : Nat) : Int)]) ∧ Below w.heap.size w w' := by
  go_enter Try.func74, Try.ntmps74
  go_wp2
  refine wp_loop_rounds 5 ?_
  rw [rounds_succ]
  go_wp2
  rw [rounds_succ]
  go_wp2
  rw [rounds_succ]
  go_wp2
  rw [rounds_succ]
  go_wp2
  rw [rounds_succ]
  go_wp2
  refine bodyPost_ret (v := .agg #[.int .u64 ((word (fun c => !p c) 0 : Nat) : Int), .int .u64 ((word (fun c => !p c) 1 : Nat) : Int), .int .u64 ((word (fun c => !p c) 2 : Nat) : Int), .int .u64 ((word (fun c => !p c) 3 : Nat) : Int)]) (by simp [results, Try.results74, go_sem, u64_xor_word]) rfl ⟨rfl, ?_⟩
  repeat (first | exact Below.refl _ _ | refine Below.setCell ?_ (by simp) _ | refine Below.alloc ?_ (by simp; try omega) _)

theorem andNot_span (lo hi i T F : Nat) (hT : min T 64 = min (hi + 1 - 64 * i) 64) (hF : F = lo - 64 * i) (hlt : lo - 64 * i < min (hi + 1 - 64 * i) 64) :
    bits .andNot .u64 ((2 ^ (min T 64) - 1 : Nat) : Int) ((2 ^ (min F 64) - 1 : Nat) : Int) = ((word (between lo hi) i : Nat) : Int) := by
  rw [← word_between lo hi i _ _ rfl rfl hlt, hT, hF, Nat.min_eq_left (a := lo - 64 * i) (by omega)]
  have h1 : 2 ^ (min (hi + 1 - 64 * i) 64) ≤ 2 ^ 64 := Nat.pow_le_pow_right (by decide) (by omega)
  have h2 : 2 ^ (lo - 64 * i) ≤ 2 ^ 64 := Nat.pow_le_pow_right (by decide) (by omega)
  have h3 : 0 < 2 ^ (lo - 64 * i) := Nat.two_pow_pos _
  have h4 : 0 < 2 ^ (min (hi + 1 - 64 * i) 64) := Nat.two_pow_pos _
  exact u64_andNot_nat _ _ (by omega) (by omega)

set_option maxRecDepth 100000 in
set_option maxHeartbeats 800000 in
theorem span_any (lo hi : Nat) (w : World) (h0 : lo < 256) (h1 : hi < 256) :
    Calls Try.prog 113 #[.int .u8 (lo : Int), .int .u8 (hi : Int)] w fun e w' => e = .returned (.agg #[.int .u64 ((word (between lo hi) 0 : Nat) : Int), .int .u64 ((word (between lo hi) 1 : Nat) : Int), .int .u64 ((word (between lo hi) 2 : Nat) : Int), .int .u64 ((word (between lo hi) 3 : Nat) : Int)]) ∧ Below w.heap.size w w' := by
  by_cases hgt : hi < lo
  · go_enter Try.func113, Try.ntmps113
    go_wp2
    refine bodyPost_ret (v := .agg #[.int .u64 ((word (between lo hi) 0 : Nat) : Int), .int .u64 ((word (between lo hi) 1 : Nat) : Int), .int .u64 ((word (between lo hi) 2 : Nat) : Int), .int .u64 ((word (between lo hi) 3 : Nat) : Int)]) ?_ rfl ⟨rfl, ?_⟩
    · rw [word_between_none _ _ 0 (by omega), word_between_none _ _ 1 (by omega), word_between_none _ _ 2 (by omega), word_between_none _ _ 3 (by omega)]
      simp [results, Try.results113, go_sem]
    · exact ((Below.refl _ _).alloc (Nat.le_refl _) _).alloc (by simp) _
  · go_enter Try.func113, Try.ntmps113
    go_wp2
    go_loopw [13] (fun i wr => ∃ (k : Int) (a b c d : Nat), i = .int .i64 k ∧ wr = (w.alloc (.cells #[.int .u64 0, .int .u64 0, .int .u64 0, .int .u64 0] 35)).alloc (.cells #[.int .u64 a, .int .u64 b, .int .u64 c, .int .u64 d] 35) ∧
        0 ≤ k ∧ k ≤ 4 ∧ Hid (a = part (between lo hi) k 0 ∧ b = part (between lo hi) k 1 ∧ c = part (between lo hi) k 2 ∧ d = part (between lo hi) k 3)) (fun i _ => 4 - (intOf i).toNat)
    case atStart => exact ⟨0, 0, 0, 0, 0, rfl, rfl, by omega, by omega, rfl, rfl, rfl, rfl⟩
    case round =>
      obtain ⟨k, a, b, c, d, rfl, rfl, hk0, hk4, H⟩ := hrel
      obtain hk | hk | hk | hk | hk : k = 0 ∨ k = 1 ∨ k = 2 ∨ k = 3 ∨ k = 4 := by omega
      · subst hk
        go_wp2_with (go_at_call 116; refine (below_any _ _ (by omega) (by omega)).mono ?_; rintro e w' ⟨rfl, rfl⟩)
        all_goals go_light
        all_goals obtain ⟨rfl, rfl, rfl, rfl⟩ := H.out
        all_goals go_roundw
        all_goals try case measure => simp [intOf]
        all_goals first
          | exact ⟨1, part (between lo hi) 1 0, part (between lo hi) 1 1, part (between lo hi) 1 2, part (between lo hi) 1 3, rfl, by rw [andNot_span lo hi 0 _ _ (by omega) (by omega) (by omega)]; rfl, by omega, by omega, rfl, rfl, rfl, rfl⟩
          | exact ⟨1, part (between lo hi) 0 0, part (between lo hi) 0 1, part (between lo hi) 0 2, part (between lo hi) 0 3, rfl, rfl, by omega, by omega, ⟨by simp [part, word_between_none lo hi 0 (by omega)], by simp [part, word_between_none lo hi 0 (by omega)], by simp [part, word_between_none lo hi 0 (by omega)], by simp [part, word_between_none lo hi 0 (by omega)]⟩⟩
      · subst hk
        go_wp2_with (go_at_call 116; refine (below_any _ _ (by omega) (by omega)).mono ?_; rintro e w' ⟨rfl, rfl⟩)
        all_goals go_light
        all_goals obtain ⟨rfl, rfl, rfl, rfl⟩ := H.out
        all_goals go_roundw
        all_goals try case measure => simp [intOf]
        all_goals first
          | exact ⟨2, part (between lo hi) 2 0, part (between lo hi) 2 1, part (between lo hi) 2 2, part (between lo hi) 2 3, rfl, by rw [andNot_span lo hi 1 _ _ (by omega) (by omega) (by omega)]; rfl, by omega, by omega, rfl, rfl, rfl, rfl⟩
          | exact ⟨2, part (between lo hi) 1 0, part (between lo hi) 1 1, part (between lo hi) 1 2, part (between lo hi) 1 3, rfl, rfl, by omega, by omega, ⟨by simp [part, word_between_none lo hi 1 (by omega)], by simp [part, word_between_none lo hi 1 (by omega)], by simp [part, word_between_none lo hi 1 (by omega)], by simp [part, word_between_none lo hi 1 (by omega)]⟩⟩
      · subst hk
        go_wp2_with (go_at_call 116; refine (below_any _ _ (by omega) (by omega)).mono ?_; rintro e w' ⟨rfl, rfl⟩)
        all_goals go_light
        all_goals obtain ⟨rfl, rfl, rfl, rfl⟩ := H.out
        all_goals go_roundw
        all_goals try case measure => simp [intOf]
        all_goals first
          | exact ⟨3, part (between lo hi) 3 0, part (between lo hi) 3 1, part (between lo hi) 3 2, part (between lo hi) 3 3, rfl, by rw [andNot_span lo hi 2 _ _ (by omega) (by omega) (by omega)]; rfl, by omega, by omega, rfl, rfl, rfl, rfl⟩
          | exact ⟨3, part (between lo hi) 2 0, part (between lo hi) 2 1, part (between lo hi) 2 2, part (between lo hi) 2 3, rfl, rfl, by omega, by omega, ⟨by simp [part, word_between_none lo hi 2 (by omega)], by simp [part, word_between_none lo hi 2 (by omega)], by simp [part, word_between_none lo hi 2 (by omega)], by simp [part, word_between_none lo hi 2 (by omega)]⟩⟩
      · subst hk
        go_wp2_with (go_at_call 116; refine (below_any _ _ (by omega) (by omega)).mono ?_; rintro e w' ⟨rfl, rfl⟩)
        all_goals go_light
        all_goals obtain ⟨rfl, rfl, rfl, rfl⟩ := H.out
        all_goals go_roundw
        all_goals try case measure => simp [intOf]
        all_goals first
          | exact ⟨4, part (between lo hi) 4 0, part (between lo hi) 4 1, part (between lo hi) 4 2, part (between lo hi) 4 3, rfl, by rw [andNot_span lo hi 3 _ _ (by omega) (by omega) (by omega)]; rfl, by omega, by omega, rfl, rfl, rfl, rfl⟩
          | exact ⟨4, part (between lo hi) 3 0, part (between lo hi) 3 1, part (between lo hi) 3 2, part (between lo hi) 3 3, rfl, rfl, by omega, by omega, ⟨by simp [part, word_between_none lo hi 3 (by omega)], by simp [part, word_between_none lo hi 3 (by omega)], by simp [part, word_between_none lo hi 3 (by omega)], by simp [part, word_between_none lo hi 3 (by omega)]⟩⟩
      · subst hk
        go_wp2
        go_light
        obtain ⟨rfl, rfl, rfl, rfl⟩ := H.out
        refine bodyPost_ret (v := .agg #[.int .u64 ((word (between lo hi) 0 : Nat) : Int), .int .u64 ((word (between lo hi) 1 : Nat) : Int), .int .u64 ((word (between lo hi) 2 : Nat) : Int), .int .u64 ((word (between lo hi) 3 : Nat) : Int)]) (by simp [results, Try.results113, go_sem, part]) rfl ⟨rfl, ?_⟩
        repeat (first | exact Below.refl _ _ | refine Below.setCell ?_ (by simp) _ | refine Below.alloc ?_ (by simp; try omega) _)

end Go.Proofs.Ytkelkadalikibaa
