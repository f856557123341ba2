/- Texts of the claim. -/
import Derived.Test.YtofbfafnpdaejaaGreatDoorKZ06
import Derived.Test.YtofbfafnpdaejaaGreatDoorKZ01
namespace Go.Proofs.YtofbfafnpdaejaaGreatDoor
open Go.RowKit
set_option linter.unusedSimpArgs false
set_option linter.unusedVariables false
set_option maxRecDepth 100000
set_option maxHeartbeats 8000000
theorem low63M (n : Int) : bits .and .i64 n 63 = n % 64 := by
 have h63 : (BitVec.ofInt 64 63).toNat = 2 ^ 6 - 1 := by decide
 have key : (BitVec.ofInt 64 n &&& BitVec.ofInt 64 63).toNat = (n % ((2 ^ 64 : Nat) : Int)).toNat % 2 ^ 6 := by
  rw [BitVec.toNat_and, BitVec.toNat_ofInt, h63, Nat.and_two_pow_sub_one_eq_mod]
 show IntKind.i64.wrap ((BitVec.ofInt 64 n &&& BitVec.ofInt 64 63).toNat : Nat) = n % 64
 rw [key, IntKind.wrap_i64]
 omega
theorem set_grown (w : World) (g o : Nat) (v : Value) : w.grownBy (w.setCell ⟨g, o, none⟩ v) (some g) :=
 ⟨rfl, rfl, rfl, by simp [World.setCell], fun k _ hk => Below.heap_setCell _ _ _ _ (fun e => hk (by rw [e]))⟩
theorem grown_drew {w w' : World} {r : Option Nat} (h : w.grownBy w' r) : w.grownBy w'.drew r := ⟨h.os, h.tape, h.output, h.size, h.block⟩
theorem pput_go (g : Nat) (p : Nat → Bool) (i : Nat) (hi : i < 320) (w : World) (hG : Blk w g 69 #[.int .u64 (word p 0), .int .u64 (word p 1), .int .u64 (word p 2), .int .u64 (word p 3), .int .u64 (word p 4)]) :
  Calls Tryz.prog 185 #[.pointer (some ⟨g, 0, none⟩), .int .i64 (i : Int)] w fun e w' => e = .returned (.tuple #[]) ∧ Blk w' g 69 #[.int .u64 (word (withB p i) 0), .int .u64 (word (withB p i) 1), .int .u64 (word (withB p i) 2), .int .u64 (word (withB p i) 3), .int .u64 (word (withB p i) 4)] ∧ w.grownBy w' (some g) := by
 have h0 : (0 : Int) ≤ (i : Int) := by omega
 have hlg := hG.lt
 have h63 := low63M (i : Int)
 have hm0 : 0 ≤ (i : Int) % 64 := by omega
 have hm1 : (i : Int) % 64 < 64 := by omega
 obtain hq | hq | hq | hq | hq : (i : Int) / 64 = 0 ∨ (i : Int) / 64 = 1 ∨ (i : Int) / 64 = 2 ∨ (i : Int) / 64 = 3 ∨ (i : Int) / 64 = 4 := by omega
 ·have y := hG.cell 0
  have f := hG.frozen 0
  simp only [List.getElem?_toArray, List.getElem?_cons_zero, List.getElem?_cons_succ] at y
  have hB := with_or p (i : Int) 0 h0 hq
  rw [Int.toNat_natCast, show ((i : Int) % 64).toNat = i % 64 by omega] at hB
  have HE := Lib.hid (show Blk ((w.setCell ⟨g, 0, none⟩ (.int .u64 (word (withB p i) 0))).drew) g 69 #[.int .u64 (word (withB p i) 0), .int .u64 (word (withB p i) 1), .int .u64 (word (withB p i) 2), .int .u64 (word (withB p i) 3), .int .u64 (word (withB p i) 4)] from by
   have h := (hG.set_ 0 (.int .u64 (word (withB p i) 0))).drew
   rw [show word (withB p i) 1 = word p 1 from (by have := with_other p (i : Int) 0 1 h0 hq (by decide); rwa [Int.toNat_natCast] at this), show word (withB p i) 2 = word p 2 from (by have := with_other p (i : Int) 0 2 h0 hq (by decide); rwa [Int.toNat_natCast] at this), show word (withB p i) 3 = word p 3 from (by have := with_other p (i : Int) 0 3 h0 hq (by decide); rwa [Int.toNat_natCast] at this), show word (withB p i) 4 = word p 4 from (by have := with_other p (i : Int) 0 4 h0 hq (by decide); rwa [Int.toNat_natCast] at this)]
   exact h)
  clear hG
  go_enter Tryz.func185, Tryz.ntmps185
  go_wp2_with fail
  go_region
  clear y f hB
  go_end0
  exact ⟨rfl, HE.out, grown_drew (set_grown w g 0 _)⟩
 ·have y := hG.cell 1
  have f := hG.frozen 1
  simp only [List.getElem?_toArray, List.getElem?_cons_zero, List.getElem?_cons_succ] at y
  have hB := with_or p (i : Int) 1 h0 hq
  rw [Int.toNat_natCast, show ((i : Int) % 64).toNat = i % 64 by omega] at hB
  have HE := Lib.hid (show Blk ((w.setCell ⟨g, 1, none⟩ (.int .u64 (word (withB p i) 1))).drew) g 69 #[.int .u64 (word (withB p i) 0), .int .u64 (word (withB p i) 1), .int .u64 (word (withB p i) 2), .int .u64 (word (withB p i) 3), .int .u64 (word (withB p i) 4)] from by
   have h := (hG.set_ 1 (.int .u64 (word (withB p i) 1))).drew
   rw [show word (withB p i) 0 = word p 0 from (by have := with_other p (i : Int) 1 0 h0 hq (by decide); rwa [Int.toNat_natCast] at this), show word (withB p i) 2 = word p 2 from (by have := with_other p (i : Int) 1 2 h0 hq (by decide); rwa [Int.toNat_natCast] at this), show word (withB p i) 3 = word p 3 from (by have := with_other p (i : Int) 1 3 h0 hq (by decide); rwa [Int.toNat_natCast] at this), show word (withB p i) 4 = word p 4 from (by have := with_other p (i : Int) 1 4 h0 hq (by decide); rwa [Int.toNat_natCast] at this)]
   exact h)
  clear hG
  go_enter Tryz.func185, Tryz.ntmps185
  go_wp2_with fail
  go_region
  clear y f hB
  go_end0
  exact ⟨rfl, HE.out, grown_drew (set_grown w g 1 _)⟩
 ·have y := hG.cell 2
  have f := hG.frozen 2
  simp only [List.getElem?_toArray, List.getElem?_cons_zero, List.getElem?_cons_succ] at y
  have hB := with_or p (i : Int) 2 h0 hq
  rw [Int.toNat_natCast, show ((i : Int) % 64).toNat = i % 64 by omega] at hB
  have HE := Lib.hid (show Blk ((w.setCell ⟨g, 2, none⟩ (.int .u64 (word (withB p i) 2))).drew) g 69 #[.int .u64 (word (withB p i) 0), .int .u64 (word (withB p i) 1), .int .u64 (word (withB p i) 2), .int .u64 (word (withB p i) 3), .int .u64 (word (withB p i) 4)] from by
   have h := (hG.set_ 2 (.int .u64 (word (withB p i) 2))).drew
   rw [show word (withB p i) 0 = word p 0 from (by have := with_other p (i : Int) 2 0 h0 hq (by decide); rwa [Int.toNat_natCast] at this), show word (withB p i) 1 = word p 1 from (by have := with_other p (i : Int) 2 1 h0 hq (by decide); rwa [Int.toNat_natCast] at this), show word (withB p i) 3 = word p 3 from (by have := with_other p (i : Int) 2 3 h0 hq (by decide); rwa [Int.toNat_natCast] at this), show word (withB p i) 4 = word p 4 from (by have := with_other p (i : Int) 2 4 h0 hq (by decide); rwa [Int.toNat_natCast] at this)]
   exact h)
  clear hG
  go_enter Tryz.func185, Tryz.ntmps185
  go_wp2_with fail
  go_region
  clear y f hB
  go_end0
  exact ⟨rfl, HE.out, grown_drew (set_grown w g 2 _)⟩
 ·have y := hG.cell 3
  have f := hG.frozen 3
  simp only [List.getElem?_toArray, List.getElem?_cons_zero, List.getElem?_cons_succ] at y
  have hB := with_or p (i : Int) 3 h0 hq
  rw [Int.toNat_natCast, show ((i : Int) % 64).toNat = i % 64 by omega] at hB
  have HE := Lib.hid (show Blk ((w.setCell ⟨g, 3, none⟩ (.int .u64 (word (withB p i) 3))).drew) g 69 #[.int .u64 (word (withB p i) 0), .int .u64 (word (withB p i) 1), .int .u64 (word (withB p i) 2), .int .u64 (word (withB p i) 3), .int .u64 (word (withB p i) 4)] from by
   have h := (hG.set_ 3 (.int .u64 (word (withB p i) 3))).drew
   rw [show word (withB p i) 0 = word p 0 from (by have := with_other p (i : Int) 3 0 h0 hq (by decide); rwa [Int.toNat_natCast] at this), show word (withB p i) 1 = word p 1 from (by have := with_other p (i : Int) 3 1 h0 hq (by decide); rwa [Int.toNat_natCast] at this), show word (withB p i) 2 = word p 2 from (by have := with_other p (i : Int) 3 2 h0 hq (by decide); rwa [Int.toNat_natCast] at this), show word (withB p i) 4 = word p 4 from (by have := with_other p (i : Int) 3 4 h0 hq (by decide); rwa [Int.toNat_natCast] at this)]
   exact h)
  clear hG
  go_enter Tryz.func185, Tryz.ntmps185
  go_wp2_with fail
  go_region
  clear y f hB
  go_end0
  exact ⟨rfl, HE.out, grown_drew (set_grown w g 3 _)⟩
 ·have y := hG.cell 4
  have f := hG.frozen 4
  simp only [List.getElem?_toArray, List.getElem?_cons_zero, List.getElem?_cons_succ] at y
  have hB := with_or p (i : Int) 4 h0 hq
  rw [Int.toNat_natCast, show ((i : Int) % 64).toNat = i % 64 by omega] at hB
  have HE := Lib.hid (show Blk ((w.setCell ⟨g, 4, none⟩ (.int .u64 (word (withB p i) 4))).drew) g 69 #[.int .u64 (word (withB p i) 0), .int .u64 (word (withB p i) 1), .int .u64 (word (withB p i) 2), .int .u64 (word (withB p i) 3), .int .u64 (word (withB p i) 4)] from by
   have h := (hG.set_ 4 (.int .u64 (word (withB p i) 4))).drew
   rw [show word (withB p i) 0 = word p 0 from (by have := with_other p (i : Int) 4 0 h0 hq (by decide); rwa [Int.toNat_natCast] at this), show word (withB p i) 1 = word p 1 from (by have := with_other p (i : Int) 4 1 h0 hq (by decide); rwa [Int.toNat_natCast] at this), show word (withB p i) 2 = word p 2 from (by have := with_other p (i : Int) 4 2 h0 hq (by decide); rwa [Int.toNat_natCast] at this), show word (withB p i) 3 = word p 3 from (by have := with_other p (i : Int) 4 3 h0 hq (by decide); rwa [Int.toNat_natCast] at this)]
   exact h)
  clear hG
  go_enter Tryz.func185, Tryz.ntmps185
  go_wp2_with fail
  go_region
  clear y f hB
  go_end0
  exact ⟨rfl, HE.out, grown_drew (set_grown w g 4 _)⟩
theorem u64_but_nat (p q : Nat → Bool) (i : Nat) : bits .andNot .u64 ((word p i : Nat) : Int) ((word q i : Nat) : Int) = ((word (fun c => p c && !q c) i : Nat) : Int) := by
 have h := u64_andNot_nat (word p i) (word q i) (word_lt p i) (word_lt q i)
 rw [h, ← word_and, ← word_not]
 try rfl
theorem u64_with_nat (p q : Nat → Bool) (i : Nat) : bits .or .u64 ((word p i : Nat) : Int) ((word q i : Nat) : Int) = ((word (fun c => p c || q c) i : Nat) : Int) := by
 rw [u64_or_nat _ _ (word_lt p i) (word_lt q i), word_or]
theorem phas_go (p : Nat → Bool) (i : Nat) (hi : i < 320) (w : World) :
  Calls Tryz.prog 57 #[.agg #[.int .u64 (word p 0), .int .u64 (word p 1), .int .u64 (word p 2), .int .u64 (word p 3), .int .u64 (word p 4)], .int .i64 (i : Int)] w fun e w' => e = .returned (.bool (p i)) ∧ Below w.heap.size w w' := by
 have h0 : (0 : Int) ≤ (i : Int) := by omega
 have h63 := low63M (i : Int)
 have hm0 : 0 ≤ (i : Int) % 64 := by omega
 have hm1 : (i : Int) % 64 < 64 := by omega
 obtain hq | hq | hq | hq | hq : (i : Int) / 64 = 0 ∨ (i : Int) / 64 = 1 ∨ (i : Int) / 64 = 2 ∨ (i : Int) / 64 = 3 ∨ (i : Int) / 64 = 4 := by omega
 ·have hB := has_bit p (i : Int) 0 h0 hq
  rw [Int.toNat_natCast, show ((i : Int) % 64).toNat = i % 64 by omega] at hB
  go_enter Tryz.func57, Tryz.ntmps57
  go_wp2
  go_light
  go_ret
  exact ⟨rfl, (Below.refl _ _).alloc (Nat.le_refl _) _⟩
 ·have hB := has_bit p (i : Int) 1 h0 hq
  rw [Int.toNat_natCast, show ((i : Int) % 64).toNat = i % 64 by omega] at hB
  go_enter Tryz.func57, Tryz.ntmps57
  go_wp2
  go_light
  go_ret
  exact ⟨rfl, (Below.refl _ _).alloc (Nat.le_refl _) _⟩
 ·have hB := has_bit p (i : Int) 2 h0 hq
  rw [Int.toNat_natCast, show ((i : Int) % 64).toNat = i % 64 by omega] at hB
  go_enter Tryz.func57, Tryz.ntmps57
  go_wp2
  go_light
  go_ret
  exact ⟨rfl, (Below.refl _ _).alloc (Nat.le_refl _) _⟩
 ·have hB := has_bit p (i : Int) 3 h0 hq
  rw [Int.toNat_natCast, show ((i : Int) % 64).toNat = i % 64 by omega] at hB
  go_enter Tryz.func57, Tryz.ntmps57
  go_wp2
  go_light
  go_ret
  exact ⟨rfl, (Below.refl _ _).alloc (Nat.le_refl _) _⟩
 ·have hB := has_bit p (i : Int) 4 h0 hq
  rw [Int.toNat_natCast, show ((i : Int) % 64).toNat = i % 64 by omega] at hB
  go_enter Tryz.func57, Tryz.ntmps57
  go_wp2
  go_light
  go_ret
  exact ⟨rfl, (Below.refl _ _).alloc (Nat.le_refl _) _⟩
@[go_sem] theorem index5_0 (a b c d e : Value) (w : World) : (Instr.index 69 (.agg #[a, b, c, d, e]) (.int .i64 0)).run Tryz.prog w = .ok a w := by kernel_rfl
@[go_sem] theorem index5_1 (a b c d e : Value) (w : World) : (Instr.index 69 (.agg #[a, b, c, d, e]) (.int .i64 1)).run Tryz.prog w = .ok b w := by kernel_rfl
@[go_sem] theorem index5_2 (a b c d e : Value) (w : World) : (Instr.index 69 (.agg #[a, b, c, d, e]) (.int .i64 2)).run Tryz.prog w = .ok c w := by kernel_rfl
@[go_sem] theorem index5_3 (a b c d e : Value) (w : World) : (Instr.index 69 (.agg #[a, b, c, d, e]) (.int .i64 3)).run Tryz.prog w = .ok d w := by kernel_rfl
@[go_sem] theorem index5_4 (a b c d e : Value) (w : World) : (Instr.index 69 (.agg #[a, b, c, d, e]) (.int .i64 4)).run Tryz.prog w = .ok e w := by kernel_rfl
theorem ret_pl {fn : Func} {t2 : Tmp} (h : fn.results = #[.cell t2 69]) {tmps : Array Value} {w : World} {g : Nat} {a0 a1 a2 a3 a4 : Value}
  (hp : tmps.getD t2 undef = .pointer (some ⟨g, 0, none⟩)) (hb : Blk w g 69 #[a0, a1, a2, a3, a4]) :
  (results fn tmps).run Tryz.prog w = .ok (.agg #[a0, a1, a2, a3, a4]) w :=
 results_cell_row h tmps w g _ _ _ _ hp hb Tryz.underlying69 rfl (by kernel_rfl)
theorem Blk.set5w {w : World} {g : Nat} {t : TypeId} {a b c d e a' b' c' d' e' : Value} (h : Blk w g t #[a, b, c, d, e]) : Blk (((((w.setCell ⟨g, 0, none⟩ a').setCell ⟨g, 1, none⟩ b').setCell ⟨g, 2, none⟩ c').setCell ⟨g, 3, none⟩ d').setCell ⟨g, 4, none⟩ e') g t #[a', b', c', d', e'] :=
 ((((h.set_ 0 a').set_ 1 b').set_ 2 c').set_ 3 d').set_ 4 e'
theorem pwith_go (p q : Nat → Bool) (w : World) :
  Calls Tryz.prog 187 #[.agg #[.int .u64 (word p 0), .int .u64 (word p 1), .int .u64 (word p 2), .int .u64 (word p 3), .int .u64 (word p 4)], .agg #[.int .u64 (word q 0), .int .u64 (word q 1), .int .u64 (word q 2), .int .u64 (word q 3), .int .u64 (word q 4)]] w fun e w' => e = .returned (.agg #[.int .u64 (word (fun c => p c || q c) 0), .int .u64 (word (fun c => p c || q c) 1), .int .u64 (word (fun c => p c || q c) 2), .int .u64 (word (fun c => p c || q c) 3), .int .u64 (word (fun c => p c || q c) 4)]) ∧ Below w.heap.size w w' := by
 have o0 := u64_with_nat p q 0
 have o1 := u64_with_nat p q 1
 have o2 := u64_with_nat p q 2
 have o3 := u64_with_nat p q 3
 have o4 := u64_with_nat p q 4
 go_enter Tryz.func187, Tryz.ntmps187
 go_wp2
 refine wp_loop_rounds 6 ?_
 rw [rounds_succ]
 go_wp2
 rw [rounds_succ]
 go_wp2
 rw [rounds_succ]
 go_wp2
 rw [rounds_succ]
 go_wp2
 rw [rounds_succ]
 go_wp2
 rw [rounds_succ]
 go_wp2
 go_light
 refine bodyPost_ret (ret_pl Tryz.results187 rfl ?_) rfl ⟨rfl, ?_⟩
 ·exact Blk.new_at (by simp)
 ·exact (((Below.refl _ _).alloc (Nat.le_refl _) _).alloc (by simp) _).alloc (by simp; omega) _
theorem pbut_go (p q : Nat → Bool) (w : World) :
  Calls Tryz.prog 224 #[.agg #[.int .u64 (word p 0), .int .u64 (word p 1), .int .u64 (word p 2), .int .u64 (word p 3), .int .u64 (word p 4)], .agg #[.int .u64 (word q 0), .int .u64 (word q 1), .int .u64 (word q 2), .int .u64 (word q 3), .int .u64 (word q 4)]] w fun e w' => e = .returned (.agg #[.int .u64 (word (fun c => p c && !q c) 0), .int .u64 (word (fun c => p c && !q c) 1), .int .u64 (word (fun c => p c && !q c) 2), .int .u64 (word (fun c => p c && !q c) 3), .int .u64 (word (fun c => p c && !q c) 4)]) ∧ Below w.heap.size w w' := by
 have o0 := u64_but_nat p q 0
 have o1 := u64_but_nat p q 1
 have o2 := u64_but_nat p q 2
 have o3 := u64_but_nat p q 3
 have o4 := u64_but_nat p q 4
 go_enter Tryz.func224, Tryz.ntmps224
 go_wp2
 refine wp_loop_rounds 6 ?_
 rw [rounds_succ]
 go_wp2
 rw [rounds_succ]
 go_wp2
 rw [rounds_succ]
 go_wp2
 rw [rounds_succ]
 go_wp2
 rw [rounds_succ]
 go_wp2
 rw [rounds_succ]
 go_wp2
 go_light
 refine bodyPost_ret (ret_pl Tryz.results224 rfl ?_) rfl ⟨rfl, ?_⟩
 ·exact Blk.new_at (by simp)
 ·exact (((Below.refl _ _).alloc (Nat.le_refl _) _).alloc (by simp) _).alloc (by simp; omega) _
end Go.Proofs.YtofbfafnpdaejaaGreatDoor
