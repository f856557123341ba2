/- Texts of the claim. -/
import Derived.Test.YtfcblmbieiibmaaDoorKZ02
namespace Go.Proofs.YtfcblmbieiibmaaDoor
open Go.RowKit
set_option linter.unusedSimpArgs false
set_option linter.unusedVariables false
set_option maxRecDepth 100000
set_option maxHeartbeats 8000000
theorem one_low (k a b c d lo hi : Int) (B : Option Addr) (n cap : Nat) (w : World) (h : k < 1) : Calls Tryd.prog 39 #[.agg #[.int .i64 k, .int .u64 a, .int .u64 b, .int .u64 c, .int .u64 d, .slice B n cap, .int .i64 lo, .int .i64 hi]] w fun e w' => e = .returned (.bool false) ∧ Below w.heap.size w w' := by
 go_enter Tryd.func39, Tryd.ntmps39
 go_wp2
 all_goals go_light
 all_goals go_ret
 all_goals exact ⟨rfl, (Below.refl _ _).alloc (Nat.le_refl _) _⟩
theorem one_high (k a b c d lo hi : Int) (B : Option Addr) (n cap : Nat) (w : World) (h : 9 < k) : Calls Tryd.prog 39 #[.agg #[.int .i64 k, .int .u64 a, .int .u64 b, .int .u64 c, .int .u64 d, .slice B n cap, .int .i64 lo, .int .i64 hi]] w fun e w' => e = .returned (.bool false) ∧ Below w.heap.size w w' := by
 go_enter Tryd.func39, Tryd.ntmps39
 go_wp2
 all_goals go_light
 all_goals go_ret
 all_goals exact ⟨rfl, (Below.refl _ _).alloc (Nat.le_refl _) _⟩
theorem one_set1 (k a b c d lo hi : Int) (B : Option Addr) (n cap : Nat) (w : World) (h0 : 1 ≤ k) (h1 : k ≤ 9) (h3 : k ≠ 3) (ha : a ≠ 0) : Calls Tryd.prog 39 #[.agg #[.int .i64 k, .int .u64 a, .int .u64 b, .int .u64 c, .int .u64 d, .slice B n cap, .int .i64 lo, .int .i64 hi]] w fun e w' => e = .returned (.bool false) ∧ Below w.heap.size w w' := by
 have hk : (k != 3) = true := by rw [bne_iff_ne]; exact h3
 have hz : (a == 0) = false := by rw [beq_eq_false_iff_ne]; exact ha
 clear h3 ha
 go_enter Tryd.func39, Tryd.ntmps39
 go_wp2
 all_goals go_light
 all_goals go_ret
 all_goals exact ⟨rfl, (Below.refl _ _).alloc (Nat.le_refl _) _⟩
theorem one_set2 (k a b c d lo hi : Int) (B : Option Addr) (n cap : Nat) (w : World) (h0 : 1 ≤ k) (h1 : k ≤ 9) (h3 : k ≠ 3) (ha : a = 0) (hb : b ≠ 0) : Calls Tryd.prog 39 #[.agg #[.int .i64 k, .int .u64 a, .int .u64 b, .int .u64 c, .int .u64 d, .slice B n cap, .int .i64 lo, .int .i64 hi]] w fun e w' => e = .returned (.bool false) ∧ Below w.heap.size w w' := by
 subst ha
 have hk : (k != 3) = true := by rw [bne_iff_ne]; exact h3
 have hz : (b == 0) = false := by rw [beq_eq_false_iff_ne]; exact hb
 clear h3 hb
 go_enter Tryd.func39, Tryd.ntmps39
 go_wp2
 all_goals go_light
 all_goals go_ret
 all_goals exact ⟨rfl, (Below.refl _ _).alloc (Nat.le_refl _) _⟩
theorem one_set3 (k a b c d lo hi : Int) (B : Option Addr) (n cap : Nat) (w : World) (h0 : 1 ≤ k) (h1 : k ≤ 9) (h3 : k ≠ 3) (ha : a = 0) (hb : b = 0) (hc : c ≠ 0) : Calls Tryd.prog 39 #[.agg #[.int .i64 k, .int .u64 a, .int .u64 b, .int .u64 c, .int .u64 d, .slice B n cap, .int .i64 lo, .int .i64 hi]] w fun e w' => e = .returned (.bool false) ∧ Below w.heap.size w w' := by
 subst ha hb
 have hk : (k != 3) = true := by rw [bne_iff_ne]; exact h3
 have hz : (c == 0) = false := by rw [beq_eq_false_iff_ne]; exact hc
 clear h3 hc
 go_enter Tryd.func39, Tryd.ntmps39
 go_wp2
 all_goals go_light
 all_goals go_ret
 all_goals exact ⟨rfl, (Below.refl _ _).alloc (Nat.le_refl _) _⟩
theorem one_set4 (k a b c d lo hi : Int) (B : Option Addr) (n cap : Nat) (w : World) (h0 : 1 ≤ k) (h1 : k ≤ 9) (h3 : k ≠ 3) (ha : a = 0) (hb : b = 0) (hc : c = 0) (hd : d ≠ 0) : Calls Tryd.prog 39 #[.agg #[.int .i64 k, .int .u64 a, .int .u64 b, .int .u64 c, .int .u64 d, .slice B n cap, .int .i64 lo, .int .i64 hi]] w fun e w' => e = .returned (.bool false) ∧ Below w.heap.size w w' := by
 subst ha hb hc
 have hk : (k != 3) = true := by rw [bne_iff_ne]; exact h3
 have hz : (d == 0) = false := by rw [beq_eq_false_iff_ne]; exact hd
 clear h3 hd
 go_enter Tryd.func39, Tryd.ntmps39
 go_wp2
 all_goals go_light
 all_goals go_ret
 all_goals exact ⟨rfl, (Below.refl _ _).alloc (Nat.le_refl _) _⟩
theorem one_rep (lo hi : Int) (B : Option Addr) (n cap : Nat) (w : World) (hn : n ≤ 140737488355328) : Calls Tryd.prog 39 #[.agg #[.int .i64 9, .int .u64 0, .int .u64 0, .int .u64 0, .int .u64 0, .slice B n cap, .int .i64 lo, .int .i64 hi]] w fun e w' => e = .returned (.bool (timesB lo hi && decide (n = 1))) ∧ Below w.heap.size w w' := by
 go_enter Tryd.func39, Tryd.ntmps39
 go_wp2
 all_goals go_light
 all_goals go_ret
 all_goals refine ⟨ret_b ?_, (Below.refl _ _).alloc (Nat.le_refl _) _⟩
 all_goals (rw [Bool.eq_iff_iff]; simp [timesB]; try omega)
theorem one_num (k lo hi : Int) (B : Option Addr) (n cap : Nat) (w : World) (h0 : 1 ≤ k) (h9 : k ≤ 8) (hl : lo ≠ 0 ∨ hi ≠ 0) (hn : n ≤ 140737488355328) : Calls Tryd.prog 39 #[.agg #[.int .i64 k, .int .u64 0, .int .u64 0, .int .u64 0, .int .u64 0, .slice B n cap, .int .i64 lo, .int .i64 hi]] w fun e w' => e = .returned (.bool false) ∧ Below w.heap.size w w' := by
 have hk9 : (k == 9) = false := by rw [beq_eq_false_iff_ne]; omega
 by_cases hl0 : lo = 0
 ·have hh : (hi != 0) = true := by rw [bne_iff_ne]; omega
  subst hl0
  clear hl
  go_enter Tryd.func39, Tryd.ntmps39
  go_wp2
  all_goals go_light
  all_goals go_ret
  all_goals exact ⟨rfl, (Below.refl _ _).alloc (Nat.le_refl _) _⟩
 ·have hh : (lo != 0) = true := by rw [bne_iff_ne]; exact hl0
  clear hl hl0
  go_enter Tryd.func39, Tryd.ntmps39
  go_wp2
  all_goals go_light
  all_goals go_ret
  all_goals exact ⟨rfl, (Below.refl _ _).alloc (Nat.le_refl _) _⟩
theorem one_num3 (a b c d lo hi : Int) (B : Option Addr) (n cap : Nat) (w : World) (hl : lo ≠ 0 ∨ hi ≠ 0) (hn : n ≤ 140737488355328) : Calls Tryd.prog 39 #[.agg #[.int .i64 3, .int .u64 a, .int .u64 b, .int .u64 c, .int .u64 d, .slice B n cap, .int .i64 lo, .int .i64 hi]] w fun e w' => e = .returned (.bool false) ∧ Below w.heap.size w w' := by
 by_cases hl0 : lo = 0
 ·have hh : (hi != 0) = true := by rw [bne_iff_ne]; omega
  subst hl0
  clear hl
  go_enter Tryd.func39, Tryd.ntmps39
  go_wp2
  all_goals go_light
  all_goals go_ret
  all_goals exact ⟨rfl, (Below.refl _ _).alloc (Nat.le_refl _) _⟩
 ·have hh : (lo != 0) = true := by rw [bne_iff_ne]; exact hl0
  clear hl hl0
  go_enter Tryd.func39, Tryd.ntmps39
  go_wp2
  all_goals go_light
  all_goals go_ret
  all_goals exact ⟨rfl, (Below.refl _ _).alloc (Nat.le_refl _) _⟩
theorem one_three (a b c d : Int) (B : Option Addr) (n cap : Nat) (w : World) (hn : n ≤ 140737488355328) : Calls Tryd.prog 39 #[.agg #[.int .i64 3, .int .u64 a, .int .u64 b, .int .u64 c, .int .u64 d, .slice B n cap, .int .i64 0, .int .i64 0]] w fun e w' => e = .returned (.bool (decide (n = 0))) ∧ Below w.heap.size w w' := by
 go_enter Tryd.func39, Tryd.ntmps39
 go_wp2
 all_goals go_light
 all_goals go_ret
 all_goals refine ⟨ret_b ?_, (Below.refl _ _).alloc (Nat.le_refl _) _⟩
 all_goals (rw [Bool.eq_iff_iff]; simp [timesB]; try omega)
theorem onex_leaf (k : Int) (B : Option Addr) (n cap : Nat) (w : World) (h0 : 1 ≤ k) (h9 : k ≤ 2) (hn : n ≤ 140737488355328) : Calls Tryd.prog 39 #[.agg #[.int .i64 k, .int .u64 0, .int .u64 0, .int .u64 0, .int .u64 0, .slice B n cap, .int .i64 0, .int .i64 0]] w fun e w' => e = .returned (.bool (decide (n = 0))) ∧ Below w.heap.size w w' := by
 have hk9 : (k == 9) = false := by rw [beq_eq_false_iff_ne]; omega
 go_enter Tryd.func39, Tryd.ntmps39
 go_wp2
 all_goals go_light
 all_goals go_ret
 all_goals refine ⟨ret_b ?_, (Below.refl _ _).alloc (Nat.le_refl _) _⟩
 all_goals (rw [Bool.eq_iff_iff]; simp [timesB]; try omega)
theorem one_many (k : Int) (B : Option Addr) (n cap : Nat) (w : World) (h0 : 4 ≤ k) (h9 : k ≤ 5) (hn : n ≤ 140737488355328) : Calls Tryd.prog 39 #[.agg #[.int .i64 k, .int .u64 0, .int .u64 0, .int .u64 0, .int .u64 0, .slice B n cap, .int .i64 0, .int .i64 0]] w fun e w' => e = .returned (.bool (decide (2 ≤ n))) ∧ Below w.heap.size w w' := by
 have hk9 : (k == 9) = false := by rw [beq_eq_false_iff_ne]; omega
 go_enter Tryd.func39, Tryd.ntmps39
 go_wp2
 all_goals go_light
 all_goals go_ret
 all_goals refine ⟨ret_b ?_, (Below.refl _ _).alloc (Nat.le_refl _) _⟩
 all_goals (rw [Bool.eq_iff_iff]; simp [timesB]; try omega)
theorem one_over (k : Int) (B : Option Addr) (n cap : Nat) (w : World) (h0 : 6 ≤ k) (h9 : k ≤ 8) (hn : n ≤ 140737488355328) : Calls Tryd.prog 39 #[.agg #[.int .i64 k, .int .u64 0, .int .u64 0, .int .u64 0, .int .u64 0, .slice B n cap, .int .i64 0, .int .i64 0]] w fun e w' => e = .returned (.bool (decide (n = 1))) ∧ Below w.heap.size w w' := by
 have hk9 : (k == 9) = false := by rw [beq_eq_false_iff_ne]; omega
 go_enter Tryd.func39, Tryd.ntmps39
 go_wp2
 all_goals go_light
 all_goals go_ret
 all_goals refine ⟨ret_b ?_, (Below.refl _ _).alloc (Nat.le_refl _) _⟩
 all_goals (rw [Bool.eq_iff_iff]; simp [timesB]; try omega)
theorem arityS_out {k : Int} (h : k < 1 ∨ 9 < k) : arityS k = -1 := by
 unfold arityS
 rw [if_neg (by omega), if_neg (by omega), if_neg (by omega)]
theorem one_any (k a b c d lo hi : Int) (B : Option Addr) (n cap : Nat) (w : World) (hn : n ≤ 140737488355328) : Calls Tryd.prog 39 #[.agg #[.int .i64 k, .int .u64 a, .int .u64 b, .int .u64 c, .int .u64 d, .slice B n cap, .int .i64 lo, .int .i64 hi]] w fun e w' => e = .returned (.bool (aloneV k a b c d n lo hi)) ∧ Below w.heap.size w w' := by
 by_cases hout : k < 1 ∨ 9 < k
 ·have e : aloneV k a b c d n lo hi = false := by
   unfold aloneV
   rw [if_neg (by omega), arityS_out hout]
   split
   ·rfl
   ·rw [if_neg (by omega)]
    simp
  rw [e]
  rcases hout with h | h
  ·exact one_low k a b c d lo hi B n cap w h
  ·exact one_high k a b c d lo hi B n cap w h
 have h1 : 1 ≤ k := by omega
 have h9 : k ≤ 9 := by omega
 by_cases h3 : k = 3
 ·subst h3
  by_cases hl : lo = 0 ∧ hi = 0
  ·obtain ⟨rfl, rfl⟩ := hl
   have e : aloneV 3 a b c d n 0 0 = decide (n = 0) := by unfold aloneV; simp
   rw [e]
   exact one_three a b c d B n cap w hn
  ·have e : aloneV 3 a b c d n lo hi = false := by
    unfold aloneV
    rw [if_pos rfl]
    by_cases h : lo = 0
    ·have : hi ≠ 0 := fun h2 => hl ⟨h, h2⟩
     simp [this]
    ·simp [h]
   rw [e]
   exact one_num3 a b c d lo hi B n cap w (by omega) hn
 by_cases hs : a ≠ 0 ∨ b ≠ 0 ∨ c ≠ 0 ∨ d ≠ 0
 ·have e : aloneV k a b c d n lo hi = false := by unfold aloneV; rw [if_neg h3, if_pos hs]
  rw [e]
  by_cases ha : a = 0
  ·by_cases hb : b = 0
   ·by_cases hc : c = 0
    ·exact one_set4 k a b c d lo hi B n cap w h1 h9 h3 ha hb hc (by omega)
    ·exact one_set3 k a b c d lo hi B n cap w h1 h9 h3 ha hb hc
   ·exact one_set2 k a b c d lo hi B n cap w h1 h9 h3 ha hb
  ·exact one_set1 k a b c d lo hi B n cap w h1 h9 h3 ha
 obtain ⟨rfl, rfl, rfl, rfl⟩ : a = 0 ∧ b = 0 ∧ c = 0 ∧ d = 0 := by omega
 by_cases hk9 : k = 9
 ·subst hk9
  have e : aloneV 9 0 0 0 0 n lo hi = (timesB lo hi && decide (n = 1)) := by unfold aloneV; simp
  rw [e]
  exact one_rep lo hi B n cap w hn
 by_cases hl : lo = 0 ∧ hi = 0
 ·obtain ⟨rfl, rfl⟩ := hl
  have e0 : aloneV k 0 0 0 0 n 0 0 = (if arityS k = 0 then decide (n = 0) else if arityS k = 1 then decide (n = 1) else if arityS k = 2 then decide (2 ≤ n) else false) := by
   unfold aloneV
   rw [if_neg h3, if_neg (by omega), if_neg hk9]
   simp
  rw [e0]
  by_cases hk2 : k ≤ 2
  ·rw [if_pos (by unfold arityS; rw [if_pos (by omega)])]
   exact onex_leaf k B n cap w h1 hk2 hn
  by_cases hk5 : k ≤ 5
  ·have e : arityS k = 2 := by unfold arityS; rw [if_neg (by omega), if_pos (by omega)]
   rw [e, if_neg (by decide), if_neg (by decide), if_pos rfl]
   exact one_many k B n cap w (by omega) hk5 hn
  ·have e : arityS k = 1 := by unfold arityS; rw [if_neg (by omega), if_neg (by omega), if_pos (by omega)]
   rw [e, if_neg (by decide), if_pos rfl]
   exact one_over k B n cap w (by omega) (by omega) hn
 ·have e : aloneV k 0 0 0 0 n lo hi = false := by
   unfold aloneV
   rw [if_neg h3, if_neg (by omega), if_neg hk9]
   by_cases h : lo = 0
   ·have : hi ≠ 0 := fun h2 => hl ⟨h, h2⟩
    simp [this]
   ·simp [h]
  rw [e]
  exact one_num k lo hi B n cap w h1 (by omega) (by omega) hn
def RSizeC (n : Nat) : Prop := ∀ (x : Nd) (P : Nat → Prop) (B : Option Addr) (cap : Nat) (w : World), x.size ≤ n → x.size ≤ 140737488355328 → TreesAt w P x.kids B →
 Calls Tryd.prog 23 #[ndV x B cap] w fun e w' => e = .returned (.int .i64 ((x.size : Nat) : Int)) ∧ Below w.heap.size w w'
def Trees.sizeTo : Trees → Nat → Nat
 | .nil, _ => 0
 | .cons _ _ _ _ _ _, 0 => 0
 | .cons _ _ ks _ _ r, i + 1 => 1 + ks.size + r.sizeTo i
theorem Trees.sizeTo_zero (F : Trees) : F.sizeTo 0 = 0 := by cases F <;> rfl
theorem Trees.sizeTo_succ : ∀ {F : Trees} {i : Nat} {z : Nd}, F.list[i]? = some z → F.sizeTo (i + 1) = F.sizeTo i + z.size
 | .nil, i, z, h => by simp [Trees.list] at h
 | .cons k s ks lo hi r, 0, z, h => by
  simp [Trees.list] at h
  subst h
  simp [Trees.sizeTo, Trees.sizeTo_zero, Nd.size]
 | .cons k s ks lo hi r, i + 1, z, h => by
  have := Trees.sizeTo_succ (F := r) (i := i) (by simpa [Trees.list] using h)
  simp only [Trees.sizeTo] at this ⊢
  omega
theorem Trees.sizeTo_all : ∀ F : Trees, F.sizeTo F.len = F.size
 | .nil => rfl
 | .cons k s ks lo hi r => by
  have := Trees.sizeTo_all r
  simp [Trees.sizeTo, Trees.size, Trees.len, this]
theorem Trees.sizeTo_le : ∀ (F : Trees) (i : Nat), F.sizeTo i ≤ F.size
 | .nil, i => Nat.le_refl _
 | .cons k s ks lo hi r, 0 => Nat.zero_le _
 | .cons k s ks lo hi r, i + 1 => by
  have := Trees.sizeTo_le r i
  simp [Trees.sizeTo, Trees.size]
  omega
theorem rsize_step {n : Nat} (ih : RSizeC n) : RSizeC (n + 1) := by
 intro x P B cap w hsz hlen ht
 have H0 := Lib.hid (show Blk (w.alloc (.cells (ndA x B cap) 28)) w.heap.size 28 (ndA x B cap) ∧ Below w.heap.size w (w.alloc (.cells (ndA x B cap) 28)) from ⟨Blk.new _ _ _, (Below.refl _ _).alloc (Nat.le_refl _) _⟩)
 have HT := Lib.hid ht
 have hlk : x.kids.len ≤ 140737488355328 := by have := Trees.len_size x.kids; unfold Nd.size at hlen; omega
 have hks : x.kids.size + 1 = x.size := by unfold Nd.size; omega
 clear ht
 unfold ndV
 go_enter Tryd.func23, Tryd.ntmps23
 go_wp2
 go_loopw [3, 4] (fun v i wr => ∃ k : Nat, i = .int .i64 (k : Int) ∧ k ≤ x.kids.len ∧ v = .int .i64 ((1 + x.kids.sizeTo k : Nat) : Int) ∧ Hid (Blk wr w.heap.size 28 (ndA x B cap) ∧ Below w.heap.size w wr)) (fun _ i _ => x.kids.len - (intOf i).toNat)
 case atStart => exact ⟨0, rfl, Nat.zero_le _, by rw [Trees.sizeTo_zero]; rfl, H0⟩
 case round =>
  clear H0
  obtain ⟨k, rfl, hk, rfl, HH⟩ := hrel
  have hX := HH.out.1
  have y0 : wr.cell? ⟨w.heap.size, 0, none⟩ = some (.int .i64 x.kind) := hX.cell 0
  have y1 : wr.cell? ⟨w.heap.size, 1, none⟩ = some (.int .u64 (word x.set.testBit 0)) := hX.cell 1
  have y2 : wr.cell? ⟨w.heap.size, 2, none⟩ = some (.int .u64 (word x.set.testBit 1)) := hX.cell 2
  have y3 : wr.cell? ⟨w.heap.size, 3, none⟩ = some (.int .u64 (word x.set.testBit 2)) := hX.cell 3
  have y4 : wr.cell? ⟨w.heap.size, 4, none⟩ = some (.int .u64 (word x.set.testBit 3)) := hX.cell 4
  have y5 : wr.cell? ⟨w.heap.size, 5, none⟩ = some (.slice B x.kids.len cap) := hX.cell 5
  have y6 : wr.cell? ⟨w.heap.size, 6, none⟩ = some (.int .i64 x.lo) := hX.cell 6
  have y7 : wr.cell? ⟨w.heap.size, 7, none⟩ = some (.int .i64 x.hi) := hX.cell 7
  have hle := Trees.sizeTo_le x.kids k
  by_cases hlt : k < x.kids.len
  ·obtain ⟨z, hz⟩ : ∃ z, x.kids.list[k]? = some z := ⟨_, List.getElem?_eq_getElem (by rw [Trees.len_list]; exact hlt)⟩
   have hzs := Trees.size_get x.kids k z hz
   have hst := Trees.sizeTo_succ hz
   have hle2 := Trees.sizeTo_le x.kids (k + 1)
   obtain ⟨b, o, C, capc, rfl, _, _, ⟨c0, c1, c2, c3, c4, c5, c6, c7⟩, hkz⟩ := (HT.out.below HH.out.2).get hz
   have hdl : (k : Int) < (x.kids.len : Int) := by omega
   have hzz : z.size ≤ 140737488355328 := by omega
   have HI := Lib.hid (ih z P C capc wr (by omega) hzz hkz)
   have HS := Lib.hid (show 1 + x.kids.sizeTo (k + 1) = 1 + x.kids.sizeTo k + z.size by omega)
   have hsm : 1 + x.kids.sizeTo k + z.size ≤ 140737488355328 := by omega
   clear hz hzs hkz hX hst hle2 hle
   generalize x.kids.sizeTo k = sk at *
   unfold ndV at HI
   go_wp2_with fail
   refine HI.out.mono ?_
   rintro e w3 ⟨rfl, hb3⟩
   have HH3 := Lib.hid (show _ ∧ _ from ⟨HH.out.1.below hb3 HH.out.1.lt, HH.out.2.trans (hb3.mono HH.out.2.size)⟩)
   clear hb3 HI y0 y1 y2 y3 y4 y5 y6 y7 c0 c1 c2 c3 c4 c5 c6 c7
   dsimp only
   go_wp2
   go_roundw
   case rel => exact ⟨k + 1, by go_num, by omega, congrArg _ (by rw [HS.out]; omega), HH3⟩
   case measure => simp [intOf]; omega
  ·obtain rfl : k = x.kids.len := by omega
   have hdl : ¬ ((x.kids.len : Int) < (x.kids.len : Int)) := by omega
   have HV := Lib.hid (show 1 + x.kids.sizeTo x.kids.len = x.size by rw [Trees.sizeTo_all]; rfl)
   clear hX hle
   go_wp2
   go_light
   go_ret
   exact ⟨ret_i (by have := HV.out; omega), HH.out.2⟩
theorem rsize_go (x : Nd) (P : Nat → Prop) (B : Option Addr) (cap : Nat) (w : World) (hlen : x.size ≤ 140737488355328) (ht : TreesAt w P x.kids B) :
  Calls Tryd.prog 23 #[ndV x B cap] w fun e w' => e = .returned (.int .i64 ((x.size : Nat) : Int)) ∧ Below w.heap.size w w' := by
 have h : ∀ n, RSizeC n := by
  intro n
  induction n with
  | zero => exact fun x _ _ _ _ h => by unfold Nd.size at h; omega
  | succ n ih => exact rsize_step ih
 exact h x.size x P B cap w (Nat.le_refl _) hlen ht
def RAllC (n : Nat) : Prop := ∀ (x : Nd) (P : Nat → Prop) (B : Option Addr) (cap : Nat) (w : World), x.size ≤ n → x.size ≤ 140737488355328 → TreesAt w P x.kids B →
 Calls Tryd.prog 26 #[ndV x B cap] w fun e w' => e = .returned (.bool (x.nodes.all aloneN)) ∧ Below w.heap.size w w'
theorem rall_step {n : Nat} (ih : RAllC n) : RAllC (n + 1) := by
 intro x P B cap w hsz hlen ht
 have H0 := Lib.hid (show Blk (w.alloc (.cells (ndA x B cap) 28)) w.heap.size 28 (ndA x B cap) ∧ Below w.heap.size w (w.alloc (.cells (ndA x B cap) 28)) from ⟨Blk.new _ _ _, (Below.refl _ _).alloc (Nat.le_refl _) _⟩)
 have HT := Lib.hid ht
 have hlk : x.kids.len ≤ 140737488355328 := by have := Trees.len_size x.kids; unfold Nd.size at hlen; omega
 have hks : x.kids.size + 1 = x.size := by unfold Nd.size; omega
 clear ht
 unfold ndV
 go_enter Tryd.func26, Tryd.ntmps26
 go_wp2
 go_loopw [3] (fun i wr => ∃ k : Nat, i = .int .i64 (k : Int) ∧ k ≤ x.kids.len ∧ Hid ((x.kids.upto k).all aloneN = true ∧ Blk wr w.heap.size 28 (ndA x B cap) ∧ Below w.heap.size w wr)) (fun i _ => x.kids.len - (intOf i).toNat)
 case atStart => exact ⟨0, rfl, Nat.zero_le _, Lib.hid ⟨by rw [Trees.upto_zero]; rfl, H0.out⟩⟩
 case round =>
  clear H0
  obtain ⟨k, rfl, hk, HH⟩ := hrel
  have hX := HH.out.2.1
  have y0 : wr.cell? ⟨w.heap.size, 0, none⟩ = some (.int .i64 x.kind) := hX.cell 0
  have y1 : wr.cell? ⟨w.heap.size, 1, none⟩ = some (.int .u64 (word x.set.testBit 0)) := hX.cell 1
  have y2 : wr.cell? ⟨w.heap.size, 2, none⟩ = some (.int .u64 (word x.set.testBit 1)) := hX.cell 2
  have y3 : wr.cell? ⟨w.heap.size, 3, none⟩ = some (.int .u64 (word x.set.testBit 2)) := hX.cell 3
  have y4 : wr.cell? ⟨w.heap.size, 4, none⟩ = some (.int .u64 (word x.set.testBit 3)) := hX.cell 4
  have y5 : wr.cell? ⟨w.heap.size, 5, none⟩ = some (.slice B x.kids.len cap) := hX.cell 5
  have y6 : wr.cell? ⟨w.heap.size, 6, none⟩ = some (.int .i64 x.lo) := hX.cell 6
  have y7 : wr.cell? ⟨w.heap.size, 7, none⟩ = some (.int .i64 x.hi) := hX.cell 7
  by_cases hlt : k < x.kids.len
  ·obtain ⟨z, hz⟩ : ∃ z, x.kids.list[k]? = some z := ⟨_, List.getElem?_eq_getElem (by rw [Trees.len_list]; exact hlt)⟩
   have hzs := Trees.size_get x.kids k z hz
   have hup := Trees.upto_succ hz
   have hpre := Trees.upto_prefix x.kids (k + 1)
   obtain ⟨b, o, C, capc, rfl, _, _, ⟨c0, c1, c2, c3, c4, c5, c6, c7⟩, hkz⟩ := (HT.out.below HH.out.2.2).get hz
   have hdl : (k : Int) < (x.kids.len : Int) := by omega
   have HI := Lib.hid (ih z P C capc wr (by omega) (by omega) hkz)
   unfold ndV at HI
   cases hv : z.nodes.all aloneN
   ·have HV := Lib.hid (show x.nodes.all aloneN = false from by
     cases hx : x.nodes.all aloneN
     ·rfl
     ·have h1 : x.kids.nodes.all aloneN = true := by
       unfold Nd.nodes at hx
       rw [List.all_cons, Bool.and_eq_true] at hx
       exact hx.2
      have h2 := List.all_eq_true.1 h1
      have h3 : z.nodes.all aloneN = true := List.all_eq_true.2 (fun y hy => h2 y (hpre.subset (by rw [hup]; exact List.mem_append_right _ hy)))
      rw [hv] at h3
      cases h3)
    rw [hv] at HI
    clear hz hzs hkz hX hup hpre hv
    go_wp2_with fail
    refine HI.out.mono ?_
    rintro e w3 ⟨rfl, hb3⟩
    have HB3 := Lib.hid (HH.out.2.2.trans (hb3.mono HH.out.2.2.size))
    clear hb3 HI y0 y1 y2 y3 y4 y5 y6 y7 c0 c1 c2 c3 c4 c5 c6 c7
    dsimp only
    go_wp2
    go_light
    go_ret
    exact ⟨ret_b HV.out.symm, HB3.out⟩
   ·have HV := Lib.hid (show (x.kids.upto (k + 1)).all aloneN = true by rw [hup, List.all_append, HH.out.1, hv]; rfl)
    rw [hv] at HI
    clear hz hzs hkz hX hup hpre hv
    go_wp2_with fail
    refine HI.out.mono ?_
    rintro e w3 ⟨rfl, hb3⟩
    have HH3 := Lib.hid (show _ ∧ _ ∧ _ from ⟨HV.out, HH.out.2.1.below hb3 HH.out.2.1.lt, HH.out.2.2.trans (hb3.mono HH.out.2.2.size)⟩)
    clear hb3 HI y0 y1 y2 y3 y4 y5 y6 y7 c0 c1 c2 c3 c4 c5 c6 c7
    dsimp only
    go_wp2
    go_roundw
    case rel => exact ⟨k + 1, by go_num, by omega, HH3⟩
    case measure => simp [intOf]; omega
  ·obtain rfl : k = x.kids.len := by omega
   have hdl : ¬ ((x.kids.len : Int) < (x.kids.len : Int)) := by omega
   have HV := Lib.hid (show x.nodes.all aloneN = aloneN x from by
    have h := HH.out.1
    rw [Trees.upto_all] at h
    unfold Nd.nodes
    rw [List.all_cons, h, Bool.and_true])
   have HC := Lib.hid (one_any x.kind (word x.set.testBit 0 : Nat) (word x.set.testBit 1 : Nat) (word x.set.testBit 2 : Nat) (word x.set.testBit 3 : Nat) x.lo x.hi B x.kids.len cap wr hlk)
   clear hX
   go_wp2_with fail
   refine HC.out.mono ?_
   rintro e w3 ⟨rfl, hb3⟩
   have HB3 := Lib.hid (HH.out.2.2.trans (hb3.mono HH.out.2.2.size))
   clear hb3 HC y0 y1 y2 y3 y4 y5 y6 y7
   dsimp only
   go_wp2
   go_light
   go_ret
   exact ⟨ret_b (by rw [HV.out]; rfl), HB3.out⟩
theorem rall_go (x : Nd) (P : Nat → Prop) (B : Option Addr) (cap : Nat) (w : World) (hlen : x.size ≤ 140737488355328) (ht : TreesAt w P x.kids B) :
  Calls Tryd.prog 26 #[ndV x B cap] w fun e w' => e = .returned (.bool (x.nodes.all aloneN)) ∧ Below w.heap.size w w' := by
 have h : ∀ n, RAllC n := by
  intro n
  induction n with
  | zero => exact fun x _ _ _ _ h => by unfold Nd.size at h; omega
  | succ n ih => exact rall_step ih
 exact h x.size x P B cap w (Nat.le_refl _) hlen ht
theorem rright_any (x : Nd) (P : Nat → Prop) (B : Option Addr) (cap : Nat) (w : World) (hlen : x.size ≤ 140737488355328) (ht : TreesAt w P x.kids B) :
  Calls Tryd.prog 7 #[ndV x B cap] w fun e w' => e = .returned (.bool (rightT x)) ∧ Below w.heap.size w w' := by
 have hb1 : Below w.heap.size w (w.alloc (.cells (ndA x B cap) 28)) := (Below.refl _ _).alloc (Nat.le_refl _) _
 have hx1 := Blk.new w 28 (ndA x B cap)
 have HS := Lib.hid (rsize_go x P B cap _ hlen (ht.below hb1))
 have HA := Lib.hid (fun w2 (hb : Below (w.alloc (.cells (ndA x B cap) 28)).heap.size (w.alloc (.cells (ndA x B cap) 28)) w2) => rall_go x P B cap w2 hlen ((ht.below hb1).below hb))
 have HX := Lib.hid (show _ ∧ _ from ⟨hb1, hx1⟩)
 have hR : rightT x = (decide (x.size ≤ 4096) && x.nodes.all aloneN) := by unfold rightT; rw [Nd.nodes_len]
 clear ht hb1 hx1
 unfold ndV at *
 unfold ndA at *
 by_cases h4 : x.size ≤ 4096
 ·have HV := Lib.hid (show rightT x = x.nodes.all aloneN by rw [hR, decide_eq_true h4, Bool.true_and])
  clear hR
  go_enter Tryd.func7, Tryd.ntmps7
  go_wp2_with fail
  refine HS.out.mono ?_
  rintro e w2 ⟨rfl, hb2⟩
  have hX := HX.out.2.below hb2 HX.out.2.lt
  have y0 : w2.cell? ⟨w.heap.size, 0, none⟩ = some (.int .i64 x.kind) := hX.cell 0
  have y1 : w2.cell? ⟨w.heap.size, 1, none⟩ = some (.int .u64 (word x.set.testBit 0)) := hX.cell 1
  have y2 : w2.cell? ⟨w.heap.size, 2, none⟩ = some (.int .u64 (word x.set.testBit 1)) := hX.cell 2
  have y3 : w2.cell? ⟨w.heap.size, 3, none⟩ = some (.int .u64 (word x.set.testBit 2)) := hX.cell 3
  have y4 : w2.cell? ⟨w.heap.size, 4, none⟩ = some (.int .u64 (word x.set.testBit 3)) := hX.cell 4
  have y5 : w2.cell? ⟨w.heap.size, 5, none⟩ = some (.slice B x.kids.len cap) := hX.cell 5
  have y6 : w2.cell? ⟨w.heap.size, 6, none⟩ = some (.int .i64 x.lo) := hX.cell 6
  have y7 : w2.cell? ⟨w.heap.size, 7, none⟩ = some (.int .i64 x.hi) := hX.cell 7
  have HB2 := Lib.hid (HX.out.1.trans (hb2.mono HX.out.1.size))
  have HI := Lib.hid (HA.out w2 hb2)
  clear hb2 HS HA hX
  dsimp only
  go_wp2_with fail
  refine HI.out.mono ?_
  rintro e w3 ⟨rfl, hb3⟩
  have HB3 := Lib.hid (HB2.out.trans (hb3.mono HB2.out.size))
  clear hb3 HI y0 y1 y2 y3 y4 y5 y6 y7
  dsimp only
  go_wp2
  go_light
  go_ret
  exact ⟨ret_b HV.out.symm, HB3.out⟩
 ·have HV := Lib.hid (show rightT x = false by rw [hR, decide_eq_false h4, Bool.false_and])
  have h4' : 4096 < x.size := by omega
  clear hR h4
  go_enter Tryd.func7, Tryd.ntmps7
  go_wp2_with fail
  refine HS.out.mono ?_
  rintro e w2 ⟨rfl, hb2⟩
  have HB2 := Lib.hid (HX.out.1.trans (hb2.mono HX.out.1.size))
  clear hb2 HS HA
  dsimp only
  go_wp2
  go_light
  go_ret
  exact ⟨ret_b HV.out.symm, HB2.out⟩
end Go.Proofs.YtfcblmbieiibmaaDoor
