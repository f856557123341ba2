/-
  May a lexeme be? The contracts of lexeme.Right and of its reference.
-/
import Derived.Test.YtkelkadalikibaaDoorQPut
import Derived.Test.YtkelkadalikibaaDoorQEq
namespace Go.Proofs.YtkelkadalikibaaDoor
open Go.RowKit
set_option linter.unusedSimpArgs false
set_option linter.unusedVariables false
set_option maxRecDepth 100000

/-- May a repetition be? -/
def repV (lo hi : Int) : Bool := decide (0 ≤ lo) && decide (lo ≤ 1000) && (decide (hi = -1) || decide (lo ≤ hi) && decide (hi ≤ 1000))
/-- May a lexeme be? Of its kind, its place, the words of its set, and how often. -/
def rightV (k pl a b c d lo hi : Int) : Bool :=
  decide (0 ≤ pl) && (decide (k = 1) || (a == 0 && b == 0 && c == 0 && d == 0)) && (if k = 8 then repV lo hi else decide (lo = 0) && decide (hi = 0) && decide (1 ≤ k) && decide (k < 8))
@[inline] def lexAgg (k pl a b c d lo hi : Int) : Value := .agg #[.int .i64 k, .int .i64 pl, .int .u64 a, .int .u64 b, .int .u64 c, .int .u64 d, .int .i64 lo, .int .i64 hi]
theorem by_val {f : FuncId} {args : Array Value} {w : World} {v v' : Bool} (h : v = v') (hc : Calls Tryd.prog f args w fun e w' => e = .returned (.bool v') ∧ Below w.heap.size w w') : Calls Tryd.prog f args w fun e w' => e = .returned (.bool v) ∧ Below w.heap.size w w' := by
  subst h; exact hc

set_option maxHeartbeats 2000000 in
theorem right_one (pl a b c d lo hi : Int) (w : World) (k : Int) (hk : k = 1) (hpl : 0 ≤ pl) :
    Calls Tryd.prog 23 #[.agg #[.int .i64 k, .int .i64 pl, .int .u64 a, .int .u64 b, .int .u64 c, .int .u64 d, .int .i64 lo, .int .i64 hi]] w fun e w' => e = .returned (.bool (rightV k pl a b c d lo hi)) ∧ Below w.heap.size w w' := by
  subst hk
  have p0 : ¬ pl < 0 := by omega
  by_cases h1 : lo = 0
  · subst h1
    by_cases h2 : hi = 0
    · subst h2
      refine by_val (v' := true) (by simp [rightV, *]; try omega) ?_
      go_enter Tryd.func23, Tryd.ntmps23
      go_wp2
      go_light
      go_ret
      exact ⟨rfl, (Below.refl w.heap.size w).alloc (Nat.le_refl _) _⟩
    · have b2 : (hi == 0) = false := by simpa using h2
      refine by_val (v' := false) (by simp [rightV, *]; try omega) ?_
      go_enter Tryd.func23, Tryd.ntmps23
      go_wp2
      go_light
      go_ret
      exact ⟨rfl, (Below.refl w.heap.size w).alloc (Nat.le_refl _) _⟩
  · have b1 : (lo == 0) = false := by simpa using h1
    refine by_val (v' := false) (by simp [rightV, *]; try omega) ?_
    go_enter Tryd.func23, Tryd.ntmps23
    go_wp2
    go_light
    go_ret
    exact ⟨rfl, (Below.refl w.heap.size w).alloc (Nat.le_refl _) _⟩


set_option maxHeartbeats 4000000 in
theorem right_rep (pl a b c d lo hi : Int) (w : World) (k : Int) (hk : k = 8) (hpl : 0 ≤ pl) (ha : a = 0) (hb : b = 0) (hc : c = 0) (hd : d = 0) :
    Calls Tryd.prog 23 #[.agg #[.int .i64 k, .int .i64 pl, .int .u64 a, .int .u64 b, .int .u64 c, .int .u64 d, .int .i64 lo, .int .i64 hi]] w fun e w' => e = .returned (.bool (rightV k pl a b c d lo hi)) ∧ Below w.heap.size w w' := by
  subst hk ha hb hc hd
  have p0 : ¬ pl < 0 := by omega
  by_cases h1 : ¬ 0 ≤ lo
  · have b1 : ¬ 0 ≤ lo := h1
    refine by_val (v' := false) (by simp [rightV, repV, *]; try omega) ?_
    go_enter Tryd.func23, Tryd.ntmps23
    go_wp2
    go_light
    go_ret
    exact ⟨rfl, (Below.refl w.heap.size w).alloc (Nat.le_refl _) _⟩

  have h1' : 0 ≤ lo := by omega
  by_cases h2 : ¬ lo ≤ 1000
  · have b1 : ¬ lo ≤ 1000 := h2
    refine by_val (v' := false) (by simp [rightV, repV, *]; try omega) ?_
    go_enter Tryd.func23, Tryd.ntmps23
    go_wp2
    go_light
    go_ret
    exact ⟨rfl, (Below.refl w.heap.size w).alloc (Nat.le_refl _) _⟩

  have h2' : lo ≤ 1000 := by omega
  by_cases h3 : hi = -1
  · subst h3
    refine by_val (v' := true) (by simp [rightV, repV, *]; try omega) ?_
    go_enter Tryd.func23, Tryd.ntmps23
    go_wp2
    go_light
    go_ret
    exact ⟨rfl, (Below.refl w.heap.size w).alloc (Nat.le_refl _) _⟩

  have b3 : (hi == -1) = false := by simpa using h3
  by_cases h4 : ¬ lo ≤ hi
  · have b1 : ¬ lo ≤ hi := h4
    refine by_val (v' := false) (by simp [rightV, repV, *]; try omega) ?_
    go_enter Tryd.func23, Tryd.ntmps23
    go_wp2
    go_light
    go_ret
    exact ⟨rfl, (Below.refl w.heap.size w).alloc (Nat.le_refl _) _⟩

  have h4' : lo ≤ hi := by omega
  by_cases h5 : hi ≤ 1000
  · have b1 : hi ≤ 1000 := h5
    refine by_val (v' := true) (by simp [rightV, repV, *]; try omega) ?_
    go_enter Tryd.func23, Tryd.ntmps23
    go_wp2
    go_light
    go_ret
    exact ⟨rfl, (Below.refl w.heap.size w).alloc (Nat.le_refl _) _⟩

  · have b1 : ¬ hi ≤ 1000 := h5
    refine by_val (v' := false) (by simp [rightV, repV, *]; try omega) ?_
    go_enter Tryd.func23, Tryd.ntmps23
    go_wp2
    go_light
    go_ret
    exact ⟨rfl, (Below.refl w.heap.size w).alloc (Nat.le_refl _) _⟩


set_option maxHeartbeats 4000000 in
theorem right_sign (pl a b c d lo hi : Int) (w : World) (k : Int) (hk : k ≠ 1) (hk8 : k ≠ 8) (hpl : 0 ≤ pl) (ha : a = 0) (hb : b = 0) (hc : c = 0) (hd : d = 0) :
    Calls Tryd.prog 23 #[.agg #[.int .i64 k, .int .i64 pl, .int .u64 a, .int .u64 b, .int .u64 c, .int .u64 d, .int .i64 lo, .int .i64 hi]] w fun e w' => e = .returned (.bool (rightV k pl a b c d lo hi)) ∧ Below w.heap.size w w' := by
  subst ha hb hc hd
  have p0 : ¬ pl < 0 := by omega
  have c1 : (k != 1) = true := by simpa using hk
  have c8 : (k == 8) = false := by simpa using hk8
  by_cases h1 : ¬ lo = 0
  · have b1 : (lo == 0) = false := by simpa using h1
    refine by_val (v' := false) (by simp [rightV, *]; try omega) ?_
    go_enter Tryd.func23, Tryd.ntmps23
    go_wp2
    go_light
    go_ret
    exact ⟨rfl, (Below.refl w.heap.size w).alloc (Nat.le_refl _) _⟩

  obtain rfl : lo = 0 := by omega
  by_cases h2 : ¬ hi = 0
  · have b1 : (hi == 0) = false := by simpa using h2
    refine by_val (v' := false) (by simp [rightV, *]; try omega) ?_
    go_enter Tryd.func23, Tryd.ntmps23
    go_wp2
    go_light
    go_ret
    exact ⟨rfl, (Below.refl w.heap.size w).alloc (Nat.le_refl _) _⟩

  obtain rfl : hi = 0 := by omega
  by_cases h3 : ¬ 1 ≤ k
  · have b1 : ¬ 1 ≤ k := h3
    refine by_val (v' := false) (by simp [rightV, *]; try omega) ?_
    go_enter Tryd.func23, Tryd.ntmps23
    go_wp2
    go_light
    go_ret
    exact ⟨rfl, (Below.refl w.heap.size w).alloc (Nat.le_refl _) _⟩

  have h3' : 1 ≤ k := by omega
  by_cases h4 : k < 8
  · have b1 : k < 8 := h4
    refine by_val (v' := true) (by simp [rightV, *]; try omega) ?_
    go_enter Tryd.func23, Tryd.ntmps23
    go_wp2
    go_light
    go_ret
    exact ⟨rfl, (Below.refl w.heap.size w).alloc (Nat.le_refl _) _⟩

  · have b1 : ¬ k < 8 := h4
    refine by_val (v' := false) (by simp [rightV, *]; try omega) ?_
    go_enter Tryd.func23, Tryd.ntmps23
    go_wp2
    go_light
    go_ret
    exact ⟨rfl, (Below.refl w.heap.size w).alloc (Nat.le_refl _) _⟩


set_option maxHeartbeats 2000000 in
theorem right_go (k pl a b c d lo hi : Int) (w : World) :
    Calls Tryd.prog 23 #[.agg #[.int .i64 k, .int .i64 pl, .int .u64 a, .int .u64 b, .int .u64 c, .int .u64 d, .int .i64 lo, .int .i64 hi]] w fun e w' => e = .returned (.bool (rightV k pl a b c d lo hi)) ∧ Below w.heap.size w w' := by
  by_cases hp : pl < 0
  · have p0 : pl < 0 := hp
    refine by_val (v' := false) (by simp [rightV, *]; try omega) ?_
    go_enter Tryd.func23, Tryd.ntmps23
    go_wp2
    go_light
    go_ret
    exact ⟨rfl, (Below.refl w.heap.size w).alloc (Nat.le_refl _) _⟩

  by_cases hk : k = 1
  · exact right_one pl a b c d lo hi w k hk (by omega)
  by_cases hz : a = 0 ∧ b = 0 ∧ c = 0 ∧ d = 0
  · obtain ⟨ha, hb, hc, hd⟩ := hz
    by_cases hk8 : k = 8
    · exact right_rep pl a b c d lo hi w k hk8 (by omega) ha hb hc hd
    · exact right_sign pl a b c d lo hi w k hk hk8 (by omega) ha hb hc hd
  · have z : (a == 0 && b == 0 && c == 0 && d == 0) = false := by simpa using hz
    have z2 : ((a == 0 && b == 0 && c == 0 && d == 0) : Bool) = true → False := by rw [z]; decide
    have p0 : ¬ pl < 0 := by omega
    have c1 : (k != 1) = true := by simpa using hk
    refine by_val (v' := false) (by unfold rightV; rw [z]; simp [hk]) ?_
    go_enter Tryd.func23, Tryd.ntmps23
    go_wp2
    go_light
    go_ret
    exact ⟨rfl, (Below.refl w.heap.size w).alloc (Nat.le_refl _) _⟩
set_option maxHeartbeats 2000000 in
theorem rright_one (pl a b c d lo hi : Int) (w : World) (k : Int) (hk : k = 1) (hpl : 0 ≤ pl) :
    Calls Tryd.prog 24 #[.agg #[.int .i64 k, .int .i64 pl, .int .u64 a, .int .u64 b, .int .u64 c, .int .u64 d, .int .i64 lo, .int .i64 hi]] w fun e w' => e = .returned (.bool (rightV k pl a b c d lo hi)) ∧ Below w.heap.size w w' := by
  subst hk
  have p0 : ¬ pl < 0 := by omega
  by_cases h1 : lo = 0
  · subst h1
    by_cases h2 : hi = 0
    · subst h2
      refine by_val (v' := true) (by simp [rightV, *]; try omega) ?_
      go_enter Tryd.func24, Tryd.ntmps24
      go_wp2
      go_light
      go_ret
      exact ⟨rfl, (Below.refl w.heap.size w).alloc (Nat.le_refl _) _⟩
    · have b2 : (hi == 0) = false := by simpa using h2
      refine by_val (v' := false) (by simp [rightV, *]; try omega) ?_
      go_enter Tryd.func24, Tryd.ntmps24
      go_wp2
      go_light
      go_ret
      exact ⟨rfl, (Below.refl w.heap.size w).alloc (Nat.le_refl _) _⟩
  · have b1 : (lo == 0) = false := by simpa using h1
    refine by_val (v' := false) (by simp [rightV, *]; try omega) ?_
    go_enter Tryd.func24, Tryd.ntmps24
    go_wp2
    go_light
    go_ret
    exact ⟨rfl, (Below.refl w.heap.size w).alloc (Nat.le_refl _) _⟩


set_option maxHeartbeats 4000000 in
theorem rright_rep (pl a b c d lo hi : Int) (w : World) (k : Int) (hk : k = 8) (hpl : 0 ≤ pl) (ha : a = 0) (hb : b = 0) (hc : c = 0) (hd : d = 0) :
    Calls Tryd.prog 24 #[.agg #[.int .i64 k, .int .i64 pl, .int .u64 a, .int .u64 b, .int .u64 c, .int .u64 d, .int .i64 lo, .int .i64 hi]] w fun e w' => e = .returned (.bool (rightV k pl a b c d lo hi)) ∧ Below w.heap.size w w' := by
  subst hk ha hb hc hd
  have p0 : ¬ pl < 0 := by omega
  by_cases h1 : ¬ 0 ≤ lo
  · have b1 : ¬ 0 ≤ lo := h1
    refine by_val (v' := false) (by simp [rightV, repV, *]; try omega) ?_
    go_enter Tryd.func24, Tryd.ntmps24
    go_wp2
    go_light
    go_ret
    exact ⟨rfl, (Below.refl w.heap.size w).alloc (Nat.le_refl _) _⟩

  have h1' : 0 ≤ lo := by omega
  by_cases h2 : ¬ lo ≤ 1000
  · have b1 : ¬ lo ≤ 1000 := h2
    refine by_val (v' := false) (by simp [rightV, repV, *]; try omega) ?_
    go_enter Tryd.func24, Tryd.ntmps24
    go_wp2
    go_light
    go_ret
    exact ⟨rfl, (Below.refl w.heap.size w).alloc (Nat.le_refl _) _⟩

  have h2' : lo ≤ 1000 := by omega
  by_cases h3 : hi = -1
  · subst h3
    refine by_val (v' := true) (by simp [rightV, repV, *]; try omega) ?_
    go_enter Tryd.func24, Tryd.ntmps24
    go_wp2
    go_light
    go_ret
    exact ⟨rfl, (Below.refl w.heap.size w).alloc (Nat.le_refl _) _⟩

  have b3 : (hi == -1) = false := by simpa using h3
  by_cases h4 : ¬ lo ≤ hi
  · have b1 : ¬ lo ≤ hi := h4
    refine by_val (v' := false) (by simp [rightV, repV, *]; try omega) ?_
    go_enter Tryd.func24, Tryd.ntmps24
    go_wp2
    go_light
    go_ret
    exact ⟨rfl, (Below.refl w.heap.size w).alloc (Nat.le_refl _) _⟩

  have h4' : lo ≤ hi := by omega
  by_cases h5 : hi ≤ 1000
  · have b1 : hi ≤ 1000 := h5
    refine by_val (v' := true) (by simp [rightV, repV, *]; try omega) ?_
    go_enter Tryd.func24, Tryd.ntmps24
    go_wp2
    go_light
    go_ret
    exact ⟨rfl, (Below.refl w.heap.size w).alloc (Nat.le_refl _) _⟩

  · have b1 : ¬ hi ≤ 1000 := h5
    refine by_val (v' := false) (by simp [rightV, repV, *]; try omega) ?_
    go_enter Tryd.func24, Tryd.ntmps24
    go_wp2
    go_light
    go_ret
    exact ⟨rfl, (Below.refl w.heap.size w).alloc (Nat.le_refl _) _⟩


set_option maxHeartbeats 4000000 in
theorem rright_sign (pl a b c d lo hi : Int) (w : World) (k : Int) (hk : k ≠ 1) (hk8 : k ≠ 8) (hpl : 0 ≤ pl) (ha : a = 0) (hb : b = 0) (hc : c = 0) (hd : d = 0) :
    Calls Tryd.prog 24 #[.agg #[.int .i64 k, .int .i64 pl, .int .u64 a, .int .u64 b, .int .u64 c, .int .u64 d, .int .i64 lo, .int .i64 hi]] w fun e w' => e = .returned (.bool (rightV k pl a b c d lo hi)) ∧ Below w.heap.size w w' := by
  subst ha hb hc hd
  have p0 : ¬ pl < 0 := by omega
  have c1 : (k != 1) = true := by simpa using hk
  have c8 : (k == 8) = false := by simpa using hk8
  have c8' : (k != 8) = true := by simpa using hk8
  by_cases h3 : k < 1
  · have b1 : k < 1 := h3
    refine by_val (v' := false) (by simp [rightV, *]; try omega) ?_
    go_enter Tryd.func24, Tryd.ntmps24
    go_wp2
    go_light
    go_ret
    exact ⟨rfl, (Below.refl w.heap.size w).alloc (Nat.le_refl _) _⟩

  by_cases h4 : 8 < k
  · have b1 : 8 < k := h4
    have b2 : ¬ k < 1 := h3
    refine by_val (v' := false) (by simp [rightV, *]; try omega) ?_
    go_enter Tryd.func24, Tryd.ntmps24
    go_wp2
    go_light
    go_ret
    exact ⟨rfl, (Below.refl w.heap.size w).alloc (Nat.le_refl _) _⟩

  have b3 : ¬ k < 1 := h3
  have b4 : ¬ 8 < k := h4
  by_cases h1 : ¬ lo = 0
  · have b1 : (lo == 0) = false := by simpa using h1
    refine by_val (v' := false) (by simp [rightV, *]; try omega) ?_
    go_enter Tryd.func24, Tryd.ntmps24
    go_wp2
    go_light
    go_ret
    exact ⟨rfl, (Below.refl w.heap.size w).alloc (Nat.le_refl _) _⟩

  obtain rfl : lo = 0 := by omega
  by_cases h2 : ¬ hi = 0
  · have b1 : (hi == 0) = false := by simpa using h2
    refine by_val (v' := false) (by simp [rightV, *]; try omega) ?_
    go_enter Tryd.func24, Tryd.ntmps24
    go_wp2
    go_light
    go_ret
    exact ⟨rfl, (Below.refl w.heap.size w).alloc (Nat.le_refl _) _⟩

  obtain rfl : hi = 0 := by omega
  all_goals
    refine by_val (v' := true) (by simp [rightV, *]; try omega) ?_
    go_enter Tryd.func24, Tryd.ntmps24
    go_wp2
    go_light
    go_ret
    exact ⟨rfl, (Below.refl w.heap.size w).alloc (Nat.le_refl _) _⟩


set_option maxHeartbeats 2000000 in
theorem rright_go (k pl a b c d lo hi : Int) (w : World) :
    Calls Tryd.prog 24 #[.agg #[.int .i64 k, .int .i64 pl, .int .u64 a, .int .u64 b, .int .u64 c, .int .u64 d, .int .i64 lo, .int .i64 hi]] w fun e w' => e = .returned (.bool (rightV k pl a b c d lo hi)) ∧ Below w.heap.size w w' := by
  by_cases hp : pl < 0
  · have p0 : pl < 0 := hp
    refine by_val (v' := false) (by simp [rightV, *]; try omega) ?_
    go_enter Tryd.func24, Tryd.ntmps24
    go_wp2
    go_light
    go_ret
    exact ⟨rfl, (Below.refl w.heap.size w).alloc (Nat.le_refl _) _⟩

  by_cases hk : k = 1
  · exact rright_one pl a b c d lo hi w k hk (by omega)
  by_cases hz : a = 0 ∧ b = 0 ∧ c = 0 ∧ d = 0
  · obtain ⟨ha, hb, hc, hd⟩ := hz
    by_cases hk8 : k = 8
    · exact rright_rep pl a b c d lo hi w k hk8 (by omega) ha hb hc hd
    · exact rright_sign pl a b c d lo hi w k hk hk8 (by omega) ha hb hc hd
  · have z : (a == 0 && b == 0 && c == 0 && d == 0) = false := by simpa using hz
    have z2 : ((a == 0 && b == 0 && c == 0 && d == 0) : Bool) = true → False := by rw [z]; decide
    have p0 : ¬ pl < 0 := by omega
    have c1 : (k != 1) = true := by simpa using hk
    refine by_val (v' := false) (by unfold rightV; rw [z]; simp [hk]) ?_
    by_cases h3 : k < 1
    · go_enter Tryd.func24, Tryd.ntmps24
      go_wp2
      go_light
      go_ret
      exact ⟨rfl, (Below.refl w.heap.size w).alloc (Nat.le_refl _) _⟩
    by_cases h4 : 8 < k
    · go_enter Tryd.func24, Tryd.ntmps24
      go_wp2
      go_light
      go_ret
      exact ⟨rfl, (Below.refl w.heap.size w).alloc (Nat.le_refl _) _⟩
    go_enter Tryd.func24, Tryd.ntmps24
    go_wp2
    go_light
    go_ret
    exact ⟨rfl, (Below.refl w.heap.size w).alloc (Nat.le_refl _) _⟩

end Go.Proofs.YtkelkadalikibaaDoor
