/-
  The contract of reference 05's sign.
-/
import Derived.Test.YtajohcknenngnaaGreatQZ01
namespace Go.Proofs.YtajohcknenngnaaGreat
open Go.RowKit
set_option linter.unusedSimpArgs false
set_option linter.unusedVariables false
set_option maxRecDepth 100000

set_option maxHeartbeats 4000000 in
theorem rsign_go (c : Nat) (w : World) (hc : c < 256) :
    Calls Tryz.prog 111 #[.int .u8 (c : Int)] w fun e w' => e = .returned (.int .i64 (signKind c)) ∧ w' = w := by
  by_cases h40 : c = 40
  · subst h40
    go_enter Tryz.func111, Tryz.ntmps111
    go_wp2
    refine wp_loop_rounds 7 ?_
    rw [rounds_succ]
    go_wp2
    go_light
    go_ret
    exact ⟨rfl, rfl⟩
  by_cases h41 : c = 41
  · subst h41
    go_enter Tryz.func111, Tryz.ntmps111
    go_wp2
    refine wp_loop_rounds 7 ?_
    rw [rounds_succ]
    go_wp2
    go_light
    rw [rounds_succ]
    go_wp2
    go_light
    go_ret
    exact ⟨rfl, rfl⟩
  by_cases h124 : c = 124
  · subst h124
    go_enter Tryz.func111, Tryz.ntmps111
    go_wp2
    refine wp_loop_rounds 7 ?_
    rw [rounds_succ]
    go_wp2
    go_light
    rw [rounds_succ]
    go_wp2
    go_light
    rw [rounds_succ]
    go_wp2
    go_light
    go_ret
    exact ⟨rfl, rfl⟩
  by_cases h42 : c = 42
  · subst h42
    go_enter Tryz.func111, Tryz.ntmps111
    go_wp2
    refine wp_loop_rounds 7 ?_
    rw [rounds_succ]
    go_wp2
    go_light
    rw [rounds_succ]
    go_wp2
    go_light
    rw [rounds_succ]
    go_wp2
    go_light
    rw [rounds_succ]
    go_wp2
    go_light
    go_ret
    exact ⟨rfl, rfl⟩
  by_cases h43 : c = 43
  · subst h43
    go_enter Tryz.func111, Tryz.ntmps111
    go_wp2
    refine wp_loop_rounds 7 ?_
    rw [rounds_succ]
    go_wp2
    go_light
    rw [rounds_succ]
    go_wp2
    go_light
    rw [rounds_succ]
    go_wp2
    go_light
    rw [rounds_succ]
    go_wp2
    go_light
    rw [rounds_succ]
    go_wp2
    go_light
    go_ret
    exact ⟨rfl, rfl⟩
  by_cases h63 : c = 63
  · subst h63
    go_enter Tryz.func111, Tryz.ntmps111
    go_wp2
    refine wp_loop_rounds 7 ?_
    rw [rounds_succ]
    go_wp2
    go_light
    rw [rounds_succ]
    go_wp2
    go_light
    rw [rounds_succ]
    go_wp2
    go_light
    rw [rounds_succ]
    go_wp2
    go_light
    rw [rounds_succ]
    go_wp2
    go_light
    rw [rounds_succ]
    go_wp2
    go_light
    go_ret
    exact ⟨rfl, rfl⟩
  have hk : signKind c = 0 := by unfold signKind; rw [if_neg h40, if_neg h41, if_neg h124, if_neg h42, if_neg h43, if_neg h63]
  rw [hk]
  have b1 : ((((⟨#[40, 41, 124, 42, 43, 63]⟩ : ByteArray)[0]'(by decide)).toNat : Int) == (c : Int)) = false := by show (((40 : Nat) : Int) == (c : Int)) = false; simp; omega
  have b2 : ((((⟨#[40, 41, 124, 42, 43, 63]⟩ : ByteArray)[1]'(by decide)).toNat : Int) == (c : Int)) = false := by show (((41 : Nat) : Int) == (c : Int)) = false; simp; omega
  have b3 : ((((⟨#[40, 41, 124, 42, 43, 63]⟩ : ByteArray)[2]'(by decide)).toNat : Int) == (c : Int)) = false := by show (((124 : Nat) : Int) == (c : Int)) = false; simp; omega
  have b4 : ((((⟨#[40, 41, 124, 42, 43, 63]⟩ : ByteArray)[3]'(by decide)).toNat : Int) == (c : Int)) = false := by show (((42 : Nat) : Int) == (c : Int)) = false; simp; omega
  have b5 : ((((⟨#[40, 41, 124, 42, 43, 63]⟩ : ByteArray)[4]'(by decide)).toNat : Int) == (c : Int)) = false := by show (((43 : Nat) : Int) == (c : Int)) = false; simp; omega
  have b6 : ((((⟨#[40, 41, 124, 42, 43, 63]⟩ : ByteArray)[5]'(by decide)).toNat : Int) == (c : Int)) = false := by show (((63 : Nat) : Int) == (c : Int)) = false; simp; omega
  clear hk h40 h41 h124 h42 h43 h63
  go_enter Tryz.func111, Tryz.ntmps111
  go_wp2
  refine wp_loop_rounds 7 ?_
  rw [rounds_succ]
  go_wp2
  rw [rounds_succ]
  go_wp2
  rw [rounds_succ]
  go_wp2
  rw [rounds_succ]
  go_wp2
  rw [rounds_succ]
  go_wp2
  rw [rounds_succ]
  go_wp2
  rw [rounds_succ]
  go_wp2
  go_light
  go_ret
  exact ⟨rfl, rfl⟩

end Go.Proofs.YtajohcknenngnaaGreat
