/-
  When rows of links, edges and labels are the same: slices.Equal.
-/
import Derived.Test.YtffkppoidollnaaGreatDoorQZ03
import Derived.Test.YtffkppoidollnaaGreatDoorQZ01
namespace Go.Proofs.YtffkppoidollnaaGreatDoor
open Go.RowKit
set_option linter.unusedSimpArgs false
set_option linter.unusedVariables false
set_option maxRecDepth 100000

@[go_sem] theorem eqSetIn (a b c d a' b' c' d' : Int) (w : World) : (Op.equalIn 9999 36 (.agg #[.int .u64 a, .int .u64 b, .int .u64 c, .int .u64 d]) (.agg #[.int .u64 a', .int .u64 b', .int .u64 c', .int .u64 d'])).run Tryz.prog w = .ok (a == a' && b == b' && c == c' && d == d') w := by
  have u3 := Tryz.underlying34
  have a3 := Tryz.isAgg34
  have z3 := Tryz.sizeOf34
  rw [show (9999 : Nat) = 9998 + 1 from rfl, Op.equalIn]
  simp only [Sem.run_bind, run_underlying Tryz.underlying36, Result.andThen_ok]
  simp only [Std.Legacy.Range.forIn_eq_forIn_range', Std.Legacy.Range.size, Nat.sub_zero, Nat.add_sub_cancel, Nat.div_one, List.range'_succ, List.range'_zero, List.forIn_cons, List.forIn_nil]
  go_simp
  by_cases h1 : a = a' <;> by_cases h2 : b = b' <;> by_cases h3 : c = c' <;> by_cases h4 : d = d' <;> simp [h1, h2, h3, h4]
/-- Rows that are the same, element by element. -/
def eqL {α : Type} (f : α → α → Bool) : List α → List α → Bool
  | [], [] => true
  | x :: l, y :: m => f x y && eqL f l m
  | _, _ => false
theorem eqL_len {α : Type} {f : α → α → Bool} : ∀ {l m : List α}, l.length ≠ m.length → eqL f l m = false
  | [], [], h => absurd rfl h
  | [], _ :: _, _ => rfl
  | _ :: _, [], _ => rfl
  | x :: l, y :: m, h => by
    have := eqL_len (f := f) (l := l) (m := m) (fun e => h (by simp [e]))
    simp [eqL, this]
theorem eqL_no {α : Type} {f : α → α → Bool} : ∀ {l m : List α} {k : Nat} {x y : α}, l[k]? = some x → m[k]? = some y → f x y = false → eqL f l m = false
  | [], _, k, x, y, h, _, _ => by simp at h
  | _ :: _, [], k, x, y, _, h, _ => by simp at h
  | a :: l, b :: m, 0, x, y, h, h2, hf => by
    simp at h h2
    subst h h2
    simp [eqL, hf]
  | a :: l, b :: m, k + 1, x, y, h, h2, hf => by
    have := eqL_no (f := f) (l := l) (m := m) (k := k) (by simpa using h) (by simpa using h2) hf
    simp [eqL, this]
theorem eqL_yes {α : Type} {f : α → α → Bool} : ∀ {l m : List α}, l.length = m.length → (∀ (k : Nat) (x y : α), k < l.length → l[k]? = some x → m[k]? = some y → f x y = true) → eqL f l m = true
  | [], [], _, _ => rfl
  | [], _ :: _, h, _ => by simp at h
  | _ :: _, [], h, _ => by simp at h
  | a :: l, b :: m, h, hf => by
    have h1 := hf 0 a b (by simp) rfl rfl
    have h2 := eqL_yes (f := f) (l := l) (m := m) (by simpa using h) (fun k x y hk hx hy => hf (k + 1) x y (by simp; omega) (by simpa using hx) (by simpa using hy))
    simp [eqL, h1, h2]
theorem eqL_self {α : Type} {f : α → α → Bool} (hf : ∀ x, f x x = true) (l : List α) : eqL f l l = true := eqL_yes rfl (fun k x y _ hx hy => by rw [hx] at hy; cases hy; exact hf x)
def intE (p q : Int) : Bool := decide (p = q)
def linkE (p q : Int × Int) : Bool := decide (p.1 = q.1) && decide (p.2 = q.2)
def edgeE (p q : Int × Nat × Int) : Bool := decide (p.1 = q.1) && (decide (((word p.2.1.testBit 0 : Nat) : Int) = ((word q.2.1.testBit 0 : Nat) : Int)) && (decide (((word p.2.1.testBit 1 : Nat) : Int) = ((word q.2.1.testBit 1 : Nat) : Int)) && (decide (((word p.2.1.testBit 2 : Nat) : Int) = ((word q.2.1.testBit 2 : Nat) : Int)) && (decide (((word p.2.1.testBit 3 : Nat) : Int) = ((word q.2.1.testBit 3 : Nat) : Int)) && decide (p.2.2 = q.2.2)))))
end Go.Proofs.YtffkppoidollnaaGreatDoor
