/-
  The text of a lexeme: the contracts of lexeme.text at any lexeme that may be.
-/
import Derived.Test.YtkelkadalikibaaDoorQTextGo
namespace Go.Proofs.YtkelkadalikibaaDoor
open Go.RowKit
set_option linter.unusedSimpArgs false
set_option linter.unusedVariables false
set_option maxRecDepth 100000

set_option maxHeartbeats 1000000 in
theorem text_rep (p : Nat → Bool) (pl lo hi : Int) (w : World) (h0 : 0 ≤ lo) (h1 : lo ≤ 1000) (h2 : hi = -1 ∨ lo ≤ hi ∧ hi ≤ 1000) :
    Calls Tryd.prog 50 #[.agg #[.int .i64 8, .int .i64 pl, .int .u64 ((word (p) 0 : Nat) : Int), .int .u64 ((word (p) 1 : Nat) : Int), .int .u64 ((word (p) 2 : Nat) : Int), .int .u64 ((word (p) 3 : Nat) : Int), .int .i64 lo, .int .i64 hi]] w fun e w' => e = .returned (.string (strOf (repT lo hi))) ∧ Below w.heap.size w w' := by
  have H := Lib.hid (fun w => rept_go lo hi w h0 h1 h2)
  clear h0 h1 h2
  go_enter Tryd.func50, Tryd.ntmps50
  go_wp2_with fail
  have HB0 := Lib.hid ((Below.refl w.heap.size w).alloc (Nat.le_refl _) (.cells #[.int .i64 8, .int .i64 pl, .int .u64 ((word (p) 0 : Nat) : Int), .int .u64 ((word (p) 1 : Nat) : Int), .int .u64 ((word (p) 2 : Nat) : Int), .int .u64 ((word (p) 3 : Nat) : Int), .int .i64 lo, .int .i64 hi] 46))
  refine (H.out _).mono ?_
  rintro e w1 ⟨rfl, hb1⟩
  have HB1 := Lib.hid (HB0.out.trans (hb1.mono HB0.out.size))
  clear hb1
  go_wp2
  go_light
  go_ret
  exact ⟨rfl, HB1.out⟩
set_option maxHeartbeats 1000000 in
theorem text_sign (p : Nat → Bool) (k pl lo hi : Int) (w : World) (h0 : 2 ≤ k) (h1 : k ≤ 7) :
    Calls Tryd.prog 50 #[.agg #[.int .i64 k, .int .i64 pl, .int .u64 ((word (p) 0 : Nat) : Int), .int .u64 ((word (p) 1 : Nat) : Int), .int .u64 ((word (p) 2 : Nat) : Int), .int .u64 ((word (p) 3 : Nat) : Int), .int .i64 lo, .int .i64 hi]] w fun e w' => e = .returned (.string (strOf (textS ⟨k, pl, p, lo, hi⟩))) ∧ Below w.heap.size w w' := by
  by_cases e2 : k = 2
  · subst e2
    go_enter Tryd.func50, Tryd.ntmps50
    go_wp2
    go_light
    go_ret
    exact ⟨rfl, (Below.refl w.heap.size w).alloc (Nat.le_refl _) _⟩

  by_cases e3 : k = 3
  · subst e3
    go_enter Tryd.func50, Tryd.ntmps50
    go_wp2
    go_light
    go_ret
    exact ⟨rfl, (Below.refl w.heap.size w).alloc (Nat.le_refl _) _⟩

  by_cases e4 : k = 4
  · subst e4
    go_enter Tryd.func50, Tryd.ntmps50
    go_wp2
    go_light
    go_ret
    exact ⟨rfl, (Below.refl w.heap.size w).alloc (Nat.le_refl _) _⟩

  by_cases e5 : k = 5
  · subst e5
    go_enter Tryd.func50, Tryd.ntmps50
    go_wp2
    go_light
    go_ret
    exact ⟨rfl, (Below.refl w.heap.size w).alloc (Nat.le_refl _) _⟩

  by_cases e6 : k = 6
  · subst e6
    go_enter Tryd.func50, Tryd.ntmps50
    go_wp2
    go_light
    go_ret
    exact ⟨rfl, (Below.refl w.heap.size w).alloc (Nat.le_refl _) _⟩

  by_cases e7 : k = 7
  · subst e7
    go_enter Tryd.func50, Tryd.ntmps50
    go_wp2
    go_light
    go_ret
    exact ⟨rfl, (Below.refl w.heap.size w).alloc (Nat.le_refl _) _⟩

  exact absurd h0 (by omega)

/-- A lexeme as a value. -/
def lexVal (x : Lex) : Value := .agg #[.int .i64 x.kind, .int .i64 x.place, .int .u64 ((word (x.set) 0 : Nat) : Int), .int .u64 ((word (x.set) 1 : Nat) : Int), .int .u64 ((word (x.set) 2 : Nat) : Int), .int .u64 ((word (x.set) 3 : Nat) : Int), .int .i64 x.lo, .int .i64 x.hi]
theorem text_go (x : Lex) (w : World) (hr : rightS x = true) (hT : TabAt 0 Lib.deBruijn64tab w) (hw0 : 0 < w.heap.size) :
    Calls Tryd.prog 50 #[lexVal x] w fun e w' => e = .returned (.string (strOf (textS x))) ∧ Below w.heap.size w w' := by
  obtain ⟨_, h | h | h⟩ := rightS_cases hr
  · obtain ⟨k, pl, p, lo, hi⟩ := x
    dsimp only at h
    obtain ⟨rfl, _, _⟩ := h
    exact text_set p pl lo hi w hT hw0
  · obtain ⟨k, pl, p, lo, hi⟩ := x
    dsimp only at h
    obtain ⟨rfl, h1, h2, h3, _⟩ := h
    exact text_rep p pl lo hi w h1 h2 h3
  · obtain ⟨k, pl, p, lo, hi⟩ := x
    dsimp only at h
    exact text_sign p k pl lo hi w h.1 h.2.1

end Go.Proofs.YtkelkadalikibaaDoor
