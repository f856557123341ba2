/-
  tree.alone: a node that may be.
-/
import Derived.Test.YtgbpcigfbpghgaaQZ02
import Derived.Test.YtgbpcigfbpghgaaQSoundS
namespace Go.Proofs.Ytgbpcigfbpghgaa
open Go.RowKit
set_option linter.unusedSimpArgs false
set_option linter.unusedVariables false
set_option maxRecDepth 100000

theorem times_any (lo : Int) (w : World) (h0 : 0 ≤ lo) (h1 : lo ≤ 1000) :
    Calls Try.prog 80 #[.int .i64 lo, .int .i64 (-1)] w fun e w' => e = .returned (.bool true) ∧ Below w.heap.size w w' := by
  go_enter Try.func80, Try.ntmps80
  go_wp2
  go_light
  go_ret
  exact ⟨rfl, Below.refl _ _⟩
theorem times_two (lo hi : Int) (w : World) (h0 : 0 ≤ lo) (h1 : lo ≤ 1000) (h2 : lo ≤ hi) (h3 : hi ≤ 1000) :
    Calls Try.prog 80 #[.int .i64 lo, .int .i64 hi] w fun e w' => e = .returned (.bool true) ∧ Below w.heap.size w w' := by
  have hm : (hi == -1) = false := by simp; omega
  go_enter Try.func80, Try.ntmps80
  go_wp2
  go_light
  go_ret
  exact ⟨rfl, Below.refl _ _⟩
theorem arity2 (w : World) : Calls Try.prog 81 #[.int .i64 2] w fun e w' => e = .returned (.int .i64 0) ∧ Below w.heap.size w w' := by
  go_enter Try.func81, Try.ntmps81
  go_wp2
  go_light
  go_ret
  exact ⟨rfl, (Below.refl _ _).alloc (Nat.le_refl _) _⟩
theorem arity3 (w : World) : Calls Try.prog 81 #[.int .i64 3] w fun e w' => e = .returned (.int .i64 0) ∧ Below w.heap.size w w' := by
  go_enter Try.func81, Try.ntmps81
  go_wp2
  go_light
  go_ret
  exact ⟨rfl, (Below.refl _ _).alloc (Nat.le_refl _) _⟩
theorem arity4 (w : World) : Calls Try.prog 81 #[.int .i64 4] w fun e w' => e = .returned (.int .i64 2) ∧ Below w.heap.size w w' := by
  go_enter Try.func81, Try.ntmps81
  go_wp2
  go_light
  go_ret
  exact ⟨rfl, (Below.refl _ _).alloc (Nat.le_refl _) _⟩
theorem arity5 (w : World) : Calls Try.prog 81 #[.int .i64 5] w fun e w' => e = .returned (.int .i64 2) ∧ Below w.heap.size w w' := by
  go_enter Try.func81, Try.ntmps81
  go_wp2
  go_light
  go_ret
  exact ⟨rfl, (Below.refl _ _).alloc (Nat.le_refl _) _⟩
theorem arity6 (w : World) : Calls Try.prog 81 #[.int .i64 6] w fun e w' => e = .returned (.int .i64 1) ∧ Below w.heap.size w w' := by
  go_enter Try.func81, Try.ntmps81
  go_wp2
  go_light
  go_ret
  exact ⟨rfl, (Below.refl _ _).alloc (Nat.le_refl _) _⟩
theorem arity7 (w : World) : Calls Try.prog 81 #[.int .i64 7] w fun e w' => e = .returned (.int .i64 1) ∧ Below w.heap.size w w' := by
  go_enter Try.func81, Try.ntmps81
  go_wp2
  go_light
  go_ret
  exact ⟨rfl, (Below.refl _ _).alloc (Nat.le_refl _) _⟩
theorem arity8 (w : World) : Calls Try.prog 81 #[.int .i64 8] w fun e w' => e = .returned (.int .i64 1) ∧ Below w.heap.size w w' := by
  go_enter Try.func81, Try.ntmps81
  go_wp2
  go_light
  go_ret
  exact ⟨rfl, (Below.refl _ _).alloc (Nat.le_refl _) _⟩
theorem arity9 (w : World) : Calls Try.prog 81 #[.int .i64 9] w fun e w' => e = .returned (.int .i64 1) ∧ Below w.heap.size w w' := by
  go_enter Try.func81, Try.ntmps81
  go_wp2
  go_light
  go_ret
  exact ⟨rfl, (Below.refl _ _).alloc (Nat.le_refl _) _⟩

theorem alone2 (B : Option Addr) (cap : Nat) (w : World)  : Calls Try.prog 62 #[.agg #[.int .i64 2, .int .u64 0, .int .u64 0, .int .u64 0, .int .u64 0, .slice B 0 cap, .int .i64 0, .int .i64 0]] w fun e w' => e = .returned (.bool true) ∧ Below w.heap.size w w' := by
  skip
  have hb1 : Below w.heap.size w (w.alloc (.cells #[.int .i64 2, .int .u64 0, .int .u64 0, .int .u64 0, .int .u64 0, .slice B 0 cap, .int .i64 0, .int .i64 0] 37)) := (Below.refl _ _).alloc (Nat.le_refl _) _
  have HB := Lib.hid hb1
  have HK := Lib.hid (Blk.new w 37 #[.int .i64 2, .int .u64 0, .int .u64 0, .int .u64 0, .int .u64 0, .slice B 0 cap, .int .i64 0, .int .i64 0])
  have HR := Lib.hid (arity2 (w.alloc (.cells #[.int .i64 2, .int .u64 0, .int .u64 0, .int .u64 0, .int .u64 0, .slice B 0 cap, .int .i64 0, .int .i64 0] 37)))
  clear hb1
  go_enter Try.func62, Try.ntmps62
  go_wp2_with fail
  refine HR.out.mono ?_
  rintro e w2 ⟨rfl, hb2⟩
  have HB2 := Lib.hid (HB.out.trans (hb2.mono HB.out.size))
  have c5 := (HK.out.below hb2 (by simp)).cell 5
  have c5 : w2.cell? ⟨w.heap.size, 5, none⟩ = some (.slice B 0 cap) := c5
  clear hb2 HB HR HK
  dsimp only
  go_wp2
  go_light
  go_ret
  exact ⟨rfl, HB2.out⟩
theorem alone3 (B : Option Addr) (cap : Nat) (a b c d : Int) (w : World)  : Calls Try.prog 62 #[.agg #[.int .i64 3, .int .u64 a, .int .u64 b, .int .u64 c, .int .u64 d, .slice B 0 cap, .int .i64 0, .int .i64 0]] w fun e w' => e = .returned (.bool true) ∧ Below w.heap.size w w' := by
  skip
  have hb1 : Below w.heap.size w (w.alloc (.cells #[.int .i64 3, .int .u64 a, .int .u64 b, .int .u64 c, .int .u64 d, .slice B 0 cap, .int .i64 0, .int .i64 0] 37)) := (Below.refl _ _).alloc (Nat.le_refl _) _
  have HB := Lib.hid hb1
  have HK := Lib.hid (Blk.new w 37 #[.int .i64 3, .int .u64 a, .int .u64 b, .int .u64 c, .int .u64 d, .slice B 0 cap, .int .i64 0, .int .i64 0])
  have HR := Lib.hid (arity3 (w.alloc (.cells #[.int .i64 3, .int .u64 a, .int .u64 b, .int .u64 c, .int .u64 d, .slice B 0 cap, .int .i64 0, .int .i64 0] 37)))
  clear hb1
  go_enter Try.func62, Try.ntmps62
  go_wp2_with fail
  refine HR.out.mono ?_
  rintro e w2 ⟨rfl, hb2⟩
  have HB2 := Lib.hid (HB.out.trans (hb2.mono HB.out.size))
  have c5 := (HK.out.below hb2 (by simp)).cell 5
  have c5 : w2.cell? ⟨w.heap.size, 5, none⟩ = some (.slice B 0 cap) := c5
  clear hb2 HB HR HK
  dsimp only
  go_wp2
  go_light
  go_ret
  exact ⟨rfl, HB2.out⟩
theorem alone4 (B : Option Addr) (cap : Nat) (n : Nat) (w : World) (hn : 2 ≤ n) : Calls Try.prog 62 #[.agg #[.int .i64 4, .int .u64 0, .int .u64 0, .int .u64 0, .int .u64 0, .slice B n cap, .int .i64 0, .int .i64 0]] w fun e w' => e = .returned (.bool true) ∧ Below w.heap.size w w' := by
  have hge : (2 : Int) ≤ (n : Int) := by omega
  have hb1 : Below w.heap.size w (w.alloc (.cells #[.int .i64 4, .int .u64 0, .int .u64 0, .int .u64 0, .int .u64 0, .slice B n cap, .int .i64 0, .int .i64 0] 37)) := (Below.refl _ _).alloc (Nat.le_refl _) _
  have HB := Lib.hid hb1
  have HK := Lib.hid (Blk.new w 37 #[.int .i64 4, .int .u64 0, .int .u64 0, .int .u64 0, .int .u64 0, .slice B n cap, .int .i64 0, .int .i64 0])
  have HR := Lib.hid (arity4 (w.alloc (.cells #[.int .i64 4, .int .u64 0, .int .u64 0, .int .u64 0, .int .u64 0, .slice B n cap, .int .i64 0, .int .i64 0] 37)))
  clear hb1
  go_enter Try.func62, Try.ntmps62
  go_wp2_with fail
  refine HR.out.mono ?_
  rintro e w2 ⟨rfl, hb2⟩
  have HB2 := Lib.hid (HB.out.trans (hb2.mono HB.out.size))
  have c5 := (HK.out.below hb2 (by simp)).cell 5
  have c5 : w2.cell? ⟨w.heap.size, 5, none⟩ = some (.slice B n cap) := c5
  clear hb2 HB HR HK
  dsimp only
  go_wp2
  go_light
  go_ret
  exact ⟨rfl, HB2.out⟩
theorem alone5 (B : Option Addr) (cap : Nat) (n : Nat) (w : World) (hn : 2 ≤ n) : Calls Try.prog 62 #[.agg #[.int .i64 5, .int .u64 0, .int .u64 0, .int .u64 0, .int .u64 0, .slice B n cap, .int .i64 0, .int .i64 0]] w fun e w' => e = .returned (.bool true) ∧ Below w.heap.size w w' := by
  have hge : (2 : Int) ≤ (n : Int) := by omega
  have hb1 : Below w.heap.size w (w.alloc (.cells #[.int .i64 5, .int .u64 0, .int .u64 0, .int .u64 0, .int .u64 0, .slice B n cap, .int .i64 0, .int .i64 0] 37)) := (Below.refl _ _).alloc (Nat.le_refl _) _
  have HB := Lib.hid hb1
  have HK := Lib.hid (Blk.new w 37 #[.int .i64 5, .int .u64 0, .int .u64 0, .int .u64 0, .int .u64 0, .slice B n cap, .int .i64 0, .int .i64 0])
  have HR := Lib.hid (arity5 (w.alloc (.cells #[.int .i64 5, .int .u64 0, .int .u64 0, .int .u64 0, .int .u64 0, .slice B n cap, .int .i64 0, .int .i64 0] 37)))
  clear hb1
  go_enter Try.func62, Try.ntmps62
  go_wp2_with fail
  refine HR.out.mono ?_
  rintro e w2 ⟨rfl, hb2⟩
  have HB2 := Lib.hid (HB.out.trans (hb2.mono HB.out.size))
  have c5 := (HK.out.below hb2 (by simp)).cell 5
  have c5 : w2.cell? ⟨w.heap.size, 5, none⟩ = some (.slice B n cap) := c5
  clear hb2 HB HR HK
  dsimp only
  go_wp2
  go_light
  go_ret
  exact ⟨rfl, HB2.out⟩
theorem alone6 (B : Option Addr) (cap : Nat) (w : World)  : Calls Try.prog 62 #[.agg #[.int .i64 6, .int .u64 0, .int .u64 0, .int .u64 0, .int .u64 0, .slice B 1 cap, .int .i64 0, .int .i64 0]] w fun e w' => e = .returned (.bool true) ∧ Below w.heap.size w w' := by
  skip
  have hb1 : Below w.heap.size w (w.alloc (.cells #[.int .i64 6, .int .u64 0, .int .u64 0, .int .u64 0, .int .u64 0, .slice B 1 cap, .int .i64 0, .int .i64 0] 37)) := (Below.refl _ _).alloc (Nat.le_refl _) _
  have HB := Lib.hid hb1
  have HK := Lib.hid (Blk.new w 37 #[.int .i64 6, .int .u64 0, .int .u64 0, .int .u64 0, .int .u64 0, .slice B 1 cap, .int .i64 0, .int .i64 0])
  have HR := Lib.hid (arity6 (w.alloc (.cells #[.int .i64 6, .int .u64 0, .int .u64 0, .int .u64 0, .int .u64 0, .slice B 1 cap, .int .i64 0, .int .i64 0] 37)))
  clear hb1
  go_enter Try.func62, Try.ntmps62
  go_wp2_with fail
  refine HR.out.mono ?_
  rintro e w2 ⟨rfl, hb2⟩
  have HB2 := Lib.hid (HB.out.trans (hb2.mono HB.out.size))
  have c5 := (HK.out.below hb2 (by simp)).cell 5
  have c5 : w2.cell? ⟨w.heap.size, 5, none⟩ = some (.slice B 1 cap) := c5
  clear hb2 HB HR HK
  dsimp only
  go_wp2
  go_light
  go_ret
  exact ⟨rfl, HB2.out⟩
theorem alone7 (B : Option Addr) (cap : Nat) (w : World)  : Calls Try.prog 62 #[.agg #[.int .i64 7, .int .u64 0, .int .u64 0, .int .u64 0, .int .u64 0, .slice B 1 cap, .int .i64 0, .int .i64 0]] w fun e w' => e = .returned (.bool true) ∧ Below w.heap.size w w' := by
  skip
  have hb1 : Below w.heap.size w (w.alloc (.cells #[.int .i64 7, .int .u64 0, .int .u64 0, .int .u64 0, .int .u64 0, .slice B 1 cap, .int .i64 0, .int .i64 0] 37)) := (Below.refl _ _).alloc (Nat.le_refl _) _
  have HB := Lib.hid hb1
  have HK := Lib.hid (Blk.new w 37 #[.int .i64 7, .int .u64 0, .int .u64 0, .int .u64 0, .int .u64 0, .slice B 1 cap, .int .i64 0, .int .i64 0])
  have HR := Lib.hid (arity7 (w.alloc (.cells #[.int .i64 7, .int .u64 0, .int .u64 0, .int .u64 0, .int .u64 0, .slice B 1 cap, .int .i64 0, .int .i64 0] 37)))
  clear hb1
  go_enter Try.func62, Try.ntmps62
  go_wp2_with fail
  refine HR.out.mono ?_
  rintro e w2 ⟨rfl, hb2⟩
  have HB2 := Lib.hid (HB.out.trans (hb2.mono HB.out.size))
  have c5 := (HK.out.below hb2 (by simp)).cell 5
  have c5 : w2.cell? ⟨w.heap.size, 5, none⟩ = some (.slice B 1 cap) := c5
  clear hb2 HB HR HK
  dsimp only
  go_wp2
  go_light
  go_ret
  exact ⟨rfl, HB2.out⟩
theorem alone8 (B : Option Addr) (cap : Nat) (w : World)  : Calls Try.prog 62 #[.agg #[.int .i64 8, .int .u64 0, .int .u64 0, .int .u64 0, .int .u64 0, .slice B 1 cap, .int .i64 0, .int .i64 0]] w fun e w' => e = .returned (.bool true) ∧ Below w.heap.size w w' := by
  skip
  have hb1 : Below w.heap.size w (w.alloc (.cells #[.int .i64 8, .int .u64 0, .int .u64 0, .int .u64 0, .int .u64 0, .slice B 1 cap, .int .i64 0, .int .i64 0] 37)) := (Below.refl _ _).alloc (Nat.le_refl _) _
  have HB := Lib.hid hb1
  have HK := Lib.hid (Blk.new w 37 #[.int .i64 8, .int .u64 0, .int .u64 0, .int .u64 0, .int .u64 0, .slice B 1 cap, .int .i64 0, .int .i64 0])
  have HR := Lib.hid (arity8 (w.alloc (.cells #[.int .i64 8, .int .u64 0, .int .u64 0, .int .u64 0, .int .u64 0, .slice B 1 cap, .int .i64 0, .int .i64 0] 37)))
  clear hb1
  go_enter Try.func62, Try.ntmps62
  go_wp2_with fail
  refine HR.out.mono ?_
  rintro e w2 ⟨rfl, hb2⟩
  have HB2 := Lib.hid (HB.out.trans (hb2.mono HB.out.size))
  have c5 := (HK.out.below hb2 (by simp)).cell 5
  have c5 : w2.cell? ⟨w.heap.size, 5, none⟩ = some (.slice B 1 cap) := c5
  clear hb2 HB HR HK
  dsimp only
  go_wp2
  go_light
  go_ret
  exact ⟨rfl, HB2.out⟩
theorem times_go (lo hi : Int) (w : World) (h0 : 0 ≤ lo) (h1 : lo ≤ 1000) (h : hi = -1 ∨ lo ≤ hi ∧ hi ≤ 1000) :
    Calls Try.prog 80 #[.int .i64 lo, .int .i64 hi] w fun e w' => e = .returned (.bool true) ∧ Below w.heap.size w w' := by
  rcases h with rfl | ⟨h2, h3⟩
  · exact times_any lo w h0 h1
  · exact times_two lo hi w h0 h1 h2 h3
theorem alone9 (B : Option Addr) (cap : Nat) (lo hi : Int) (w : World) (h0 : 0 ≤ lo) (h1 : lo ≤ 1000) (h : hi = -1 ∨ lo ≤ hi ∧ hi ≤ 1000) :
    Calls Try.prog 62 #[.agg #[.int .i64 9, .int .u64 0, .int .u64 0, .int .u64 0, .int .u64 0, .slice B 1 cap, .int .i64 lo, .int .i64 hi]] w fun e w' => e = .returned (.bool true) ∧ Below w.heap.size w w' := by
  have hb1 : Below w.heap.size w (w.alloc (.cells #[.int .i64 9, .int .u64 0, .int .u64 0, .int .u64 0, .int .u64 0, .slice B 1 cap, .int .i64 lo, .int .i64 hi] 37)) := (Below.refl _ _).alloc (Nat.le_refl _) _
  have HB := Lib.hid hb1
  have HK := Lib.hid (Blk.new w 37 #[.int .i64 9, .int .u64 0, .int .u64 0, .int .u64 0, .int .u64 0, .slice B 1 cap, .int .i64 lo, .int .i64 hi])
  have HT := Lib.hid (times_go lo hi (w.alloc (.cells #[.int .i64 9, .int .u64 0, .int .u64 0, .int .u64 0, .int .u64 0, .slice B 1 cap, .int .i64 lo, .int .i64 hi] 37)) h0 h1 h)
  clear hb1 h0 h1 h
  go_enter Try.func62, Try.ntmps62
  go_wp2_with fail
  refine HT.out.mono ?_
  rintro e w2 ⟨rfl, hb2⟩
  have HB2 := Lib.hid (HB.out.trans (hb2.mono HB.out.size))
  have HK2 := Lib.hid (HK.out.below hb2 (by simp))
  have c0 : w2.cell? ⟨w.heap.size, 0, none⟩ = some (.int .i64 9) := HK2.out.cell 0
  clear hb2 HB HK HT
  dsimp only
  go_wp2_with fail
  refine (arity9 _).mono ?_
  rintro e w3 ⟨rfl, hb3⟩
  have c5 : w3.cell? ⟨w.heap.size, 5, none⟩ = some (.slice B 1 cap) := (HK2.out.below hb3 HK2.out.lt).cell 5
  have HB3 := Lib.hid (HB2.out.trans (hb3.mono HB2.out.size))
  clear hb3 HB2 HK2 c0
  dsimp only
  go_wp2
  go_light
  go_ret
  exact ⟨rfl, HB3.out⟩
/-- A node that may be. -/
theorem alone_go (x : Nd) (B : Option Addr) (cap : Nat) (w : World) (h : Alone x) :
    Calls Try.prog 62 #[ndV x B cap] w fun e w' => e = .returned (.bool true) ∧ Below w.heap.size w w' := by
  obtain ⟨k, s, ks, lo, hi⟩ := x
  rcases h with ⟨h1, h2, h3, h4⟩ | ⟨h0, ⟨h1, h2, h3, h4⟩ | ⟨h1, h2, h3, h4⟩ | ⟨h1, h2, h3, h4⟩ | ⟨h1, h2, h3, h4, h5⟩⟩
  · simp only at h1 h2 h3 h4
    subst h1 h3 h4
    unfold ndV
    dsimp only
    rw [h2]
    exact alone3 B cap _ _ _ _ w
  · simp only at h0 h1 h2 h3 h4
    subst h0 h1 h3 h4
    rw [ndV_plain, h2]
    exact alone2 B cap w
  · simp only at h0 h1 h2 h3 h4
    subst h0 h3 h4
    rw [ndV_plain]
    rcases h1 with rfl | rfl
    · exact alone4 B cap _ w h2
    · exact alone5 B cap _ w h2
  · simp only at h0 h1 h2 h3 h4
    subst h0 h3 h4
    rw [ndV_plain, h2]
    rcases h1 with rfl | rfl | rfl
    · exact alone6 B cap w
    · exact alone7 B cap w
    · exact alone8 B cap w
  · simp only at h0 h1 h2 h3 h4 h5
    subst h0 h1
    rw [ndV_plain, h2]
    exact alone9 B cap lo hi w h3 h4 h5

end Go.Proofs.Ytgbpcigfbpghgaa
