/-
  When rows of links, edges and labels are the same: slices.Equal. When two machines are the same: nfa.Same, and the reference's Same of chapter 16. The contract of the reference's Same of chapter 16 at any two machines. The contract of the reference's Right of chapter 16 at any machine.
-/
import Derived.Test.YtgbpcigfbpghgaaQNfaN
import Derived.Test.YtgbpcigfbpghgaaQZ01
namespace Go.Proofs.Ytgbpcigfbpghgaa
open Go.RowKit
set_option linter.unusedSimpArgs false
set_option linter.unusedVariables false
set_option maxRecDepth 100000

@[go_sem] theorem eqSetIn (a b c d a' b' c' d' : Int) (w : World) : (Op.equalIn 9999 34 (.agg #[.int .u64 a, .int .u64 b, .int .u64 c, .int .u64 d]) (.agg #[.int .u64 a', .int .u64 b', .int .u64 c', .int .u64 d'])).run Try.prog w = .ok (a == a' && b == b' && c == c' && d == d') w := by
  have u3 := Try.underlying32
  have a3 := Try.isAgg32
  have z3 := Try.sizeOf32
  rw [show (9999 : Nat) = 9998 + 1 from rfl, Op.equalIn]
  simp only [Sem.run_bind, run_underlying Try.underlying34, Result.andThen_ok]
  simp only [Std.Legacy.Range.forIn_eq_forIn_range', Std.Legacy.Range.size, Nat.sub_zero, Nat.add_sub_cancel, Nat.div_one, List.range'_succ, List.range'_zero, List.forIn_cons, List.forIn_nil]
  go_simp
  by_cases h1 : a = a' <;> by_cases h2 : b = b' <;> by_cases h3 : c = c' <;> by_cases h4 : d = d' <;> simp [h1, h2, h3, h4]
/-- Rows that are the same, element by element. -/
def eqL {α : Type} (f : α → α → Bool) : List α → List α → Bool
  | [], [] => true
  | x :: l, y :: m => f x y && eqL f l m
  | _, _ => false
theorem eqL_len {α : Type} {f : α → α → Bool} : ∀ {l m : List α}, l.length ≠ m.length → eqL f l m = false
  | [], [], h => absurd rfl h
  | [], _ :: _, _ => rfl
  | _ :: _, [], _ => rfl
  | x :: l, y :: m, h => by
    have := eqL_len (f := f) (l := l) (m := m) (fun e => h (by simp [e]))
    simp [eqL, this]
theorem eqL_no {α : Type} {f : α → α → Bool} : ∀ {l m : List α} {k : Nat} {x y : α}, l[k]? = some x → m[k]? = some y → f x y = false → eqL f l m = false
  | [], _, k, x, y, h, _, _ => by simp at h
  | _ :: _, [], k, x, y, _, h, _ => by simp at h
  | a :: l, b :: m, 0, x, y, h, h2, hf => by
    simp at h h2
    subst h h2
    simp [eqL, hf]
  | a :: l, b :: m, k + 1, x, y, h, h2, hf => by
    have := eqL_no (f := f) (l := l) (m := m) (k := k) (by simpa using h) (by simpa using h2) hf
    simp [eqL, this]
theorem eqL_yes {α : Type} {f : α → α → Bool} : ∀ {l m : List α}, l.length = m.length → (∀ (k : Nat) (x y : α), k < l.length → l[k]? = some x → m[k]? = some y → f x y = true) → eqL f l m = true
  | [], [], _, _ => rfl
  | [], _ :: _, h, _ => by simp at h
  | _ :: _, [], h, _ => by simp at h
  | a :: l, b :: m, h, hf => by
    have h1 := hf 0 a b (by simp) rfl rfl
    have h2 := eqL_yes (f := f) (l := l) (m := m) (by simpa using h) (fun k x y hk hx hy => hf (k + 1) x y (by simp; omega) (by simpa using hx) (by simpa using hy))
    simp [eqL, h1, h2]
theorem eqL_self {α : Type} {f : α → α → Bool} (hf : ∀ x, f x x = true) (l : List α) : eqL f l l = true := eqL_yes rfl (fun k x y _ hx hy => by rw [hx] at hy; cases hy; exact hf x)
def intE (p q : Int) : Bool := decide (p = q)
def linkE (p q : Int × Int) : Bool := decide (p.1 = q.1) && decide (p.2 = q.2)
def edgeE (p q : Int × Nat × Int) : Bool := decide (p.1 = q.1) && (decide (((word p.2.1.testBit 0 : Nat) : Int) = ((word q.2.1.testBit 0 : Nat) : Int)) && (decide (((word p.2.1.testBit 1 : Nat) : Int) = ((word q.2.1.testBit 1 : Nat) : Int)) && (decide (((word p.2.1.testBit 2 : Nat) : Int) = ((word q.2.1.testBit 2 : Nat) : Int)) && (decide (((word p.2.1.testBit 3 : Nat) : Int) = ((word q.2.1.testBit 3 : Nat) : Int)) && decide (p.2.2 = q.2.2)))))
set_option maxHeartbeats 4000000 in
theorem eqlink_go (A A' : Option Addr) (cap cap' : Nat) (L M : List (Int × Int)) (w : World) (hl : L.length ≤ 140737488355328) (hm : M.length ≤ 140737488355328) (hA : LinksAt w A L) (hA' : LinksAt w A' M) :
    Calls Try.prog 45 #[.slice A L.length cap, .slice A' M.length cap'] w fun e w' => e = .returned (.bool (eqL linkE L M)) ∧ Below w.heap.size w w' := by
  have HA := Lib.hid hA
  have HA' := Lib.hid hA'
  clear hA hA'
  by_cases hlen : L.length = M.length
  · have hn : ((L.length : Int) != (M.length : Int)) = false := by simp [hlen]
    have HL := Lib.hid hlen
    clear hlen
    go_enter Try.func45, Try.ntmps45
    go_wp2
    go_loopw [13] (fun i wr => ∃ k : Nat, i = .int .i64 (k : Int) ∧ k ≤ L.length ∧ Hid (∀ j x y, j < k → L[j]? = some x → M[j]? = some y → linkE x y = true) ∧ Hid (Below w.heap.size w wr)) (fun i _ => L.length - (intOf i).toNat)
    case atStart => exact ⟨0, rfl, Nat.zero_le _, Lib.hid (fun j x y hj => by omega), Lib.hid (Below.refl _ _)⟩
    case round =>
      clear hn
      obtain ⟨k, rfl, hk, HE, HB⟩ := hrel
      by_cases hlt : k < L.length
      · obtain ⟨p, hp⟩ : ∃ p, L[k]? = some p := ⟨_, List.getElem?_eq_getElem hlt⟩
        have hlt2 : k < M.length := by rw [← HL.out]; exact hlt
        obtain ⟨q, hq⟩ : ∃ q, M[k]? = some q := ⟨_, List.getElem?_eq_getElem hlt2⟩
        obtain ⟨b, o, rfl, c0, c1⟩ := (HA.out.below HB.out) k p hp
        obtain ⟨b', o', rfl, d0, d1⟩ := (HA'.out.below HB.out) k q hq
        have hdl : (k : Int) < (L.length : Int) := by omega
        have hdl2 : (k : Int) < (M.length : Int) := by omega
        have hb := World.block_lt_of_cell? wr _ c0
        have hb' := World.block_lt_of_cell? wr _ d0
        have HP := Lib.hid (show _ ∧ _ from ⟨hp, hq⟩)
        clear hp hq
        obtain ⟨a0, ha0⟩ : ∃ a : Int, a = p.1 := ⟨_, rfl⟩
        obtain ⟨b0, hb0⟩ : ∃ b : Int, b = q.1 := ⟨_, rfl⟩
        rw [← ha0] at c0
        rw [← hb0] at d0
        have HA0 := Lib.hid ha0
        have HB0 := Lib.hid hb0
        clear ha0 hb0
        obtain ⟨a1, ha1⟩ : ∃ a : Int, a = p.2 := ⟨_, rfl⟩
        obtain ⟨b1, hb1⟩ : ∃ b : Int, b = q.2 := ⟨_, rfl⟩
        rw [← ha1] at c1
        rw [← hb1] at d1
        have HA1 := Lib.hid ha1
        have HB1 := Lib.hid hb1
        clear ha1 hb1
        by_cases h0 : a0 = b0
        · subst h0
          have e0 : (a0 != a0) = false := by simp
          have f0 : (a0 == a0) = true := by simp
          by_cases h1 : a1 = b1
          · subst h1
            have e1 : (a1 != a1) = false := by simp
            have f1 : (a1 == a1) = true := by simp
            have HF := Lib.hid (show linkE p q = true by unfold linkE; rw [← HA0.out, ← HB0.out, ← HA1.out, ← HB1.out]; simp)
            go_wp2
            go_quiet (fail)
            go_wp2
            go_roundw
            case rel => exact ⟨k + 1, by go_num, by omega, Lib.hid (fun j x y hj hx hy => by
              rcases Nat.lt_or_ge j k with h | h
              · exact HE.out j x y h hx hy
              · obtain rfl : j = k := by omega
                rw [HP.out.1] at hx
                rw [HP.out.2] at hy
                cases hx
                cases hy
                exact HF.out), Lib.hid (bel_drewN HB.out _)⟩
            case measure => simp [intOf]; omega
          · have e1 : (a1 != b1) = true := by rw [bne_iff_ne]; exact h1
            have f1 : (a1 == b1) = false := by rw [beq_eq_false_iff_ne]; exact h1
            have HF := Lib.hid (show linkE p q = false by unfold linkE; rw [← HA0.out, ← HB0.out, ← HA1.out, ← HB1.out]; simp [h1])
            have hkeep1 := h1
            go_wp2
            go_quiet (fail)
            go_wp2
            go_light
            go_ret
            exact ⟨by rw [eqL_no HP.out.1 HP.out.2 HF.out]; rfl, bel_drewN HB.out _⟩
        · have e0 : (a0 != b0) = true := by rw [bne_iff_ne]; exact h0
          have f0 : (a0 == b0) = false := by rw [beq_eq_false_iff_ne]; exact h0
          have HF := Lib.hid (show linkE p q = false by unfold linkE; rw [← HA0.out, ← HB0.out, ← HA1.out, ← HB1.out]; simp [h0])
          have hkeep0 := h0
          go_wp2
          go_quiet (fail)
          go_wp2
          go_light
          go_ret
          exact ⟨by rw [eqL_no HP.out.1 HP.out.2 HF.out]; rfl, bel_drewN HB.out _⟩
      · obtain rfl : k = L.length := by omega
        have hdl : ¬ ((L.length : Int) < (L.length : Int)) := by omega
        go_wp2
        go_light
        go_ret
        exact ⟨by rw [eqL_yes HL.out HE.out]; rfl, HB.out⟩
  · have hn : ((L.length : Int) != (M.length : Int)) = true := by rw [bne_iff_ne]; omega
    have HF := Lib.hid (eqL_len (f := linkE) hlen)
    clear hlen
    go_enter Try.func45, Try.ntmps45
    go_wp2
    go_light
    go_ret
    exact ⟨by rw [HF.out]; rfl, Below.refl _ _⟩
set_option maxHeartbeats 4000000 in
theorem eqedge_go (A A' : Option Addr) (cap cap' : Nat) (L M : List (Int × Nat × Int)) (w : World) (hl : L.length ≤ 140737488355328) (hm : M.length ≤ 140737488355328) (hA : EdgesAt w A L) (hA' : EdgesAt w A' M) :
    Calls Try.prog 46 #[.slice A L.length cap, .slice A' M.length cap'] w fun e w' => e = .returned (.bool (eqL edgeE L M)) ∧ Below w.heap.size w w' := by
  have HA := Lib.hid hA
  have HA' := Lib.hid hA'
  clear hA hA'
  by_cases hlen : L.length = M.length
  · have hn : ((L.length : Int) != (M.length : Int)) = false := by simp [hlen]
    have HL := Lib.hid hlen
    clear hlen
    go_enter Try.func46, Try.ntmps46
    go_wp2
    go_loopw [13] (fun i wr => ∃ k : Nat, i = .int .i64 (k : Int) ∧ k ≤ L.length ∧ Hid (∀ j x y, j < k → L[j]? = some x → M[j]? = some y → edgeE x y = true) ∧ Hid (Below w.heap.size w wr)) (fun i _ => L.length - (intOf i).toNat)
    case atStart => exact ⟨0, rfl, Nat.zero_le _, Lib.hid (fun j x y hj => by omega), Lib.hid (Below.refl _ _)⟩
    case round =>
      clear hn
      obtain ⟨k, rfl, hk, HE, HB⟩ := hrel
      by_cases hlt : k < L.length
      · obtain ⟨p, hp⟩ : ∃ p, L[k]? = some p := ⟨_, List.getElem?_eq_getElem hlt⟩
        have hlt2 : k < M.length := by rw [← HL.out]; exact hlt
        obtain ⟨q, hq⟩ : ∃ q, M[k]? = some q := ⟨_, List.getElem?_eq_getElem hlt2⟩
        obtain ⟨b, o, rfl, c0, c1, c2, c3, c4, c5⟩ := (HA.out.below HB.out) k p hp
        obtain ⟨b', o', rfl, d0, d1, d2, d3, d4, d5⟩ := (HA'.out.below HB.out) k q hq
        have hdl : (k : Int) < (L.length : Int) := by omega
        have hdl2 : (k : Int) < (M.length : Int) := by omega
        have hb := World.block_lt_of_cell? wr _ c0
        have hb' := World.block_lt_of_cell? wr _ d0
        have HP := Lib.hid (show _ ∧ _ from ⟨hp, hq⟩)
        clear hp hq
        obtain ⟨a0, ha0⟩ : ∃ a : Int, a = p.1 := ⟨_, rfl⟩
        obtain ⟨b0, hb0⟩ : ∃ b : Int, b = q.1 := ⟨_, rfl⟩
        rw [← ha0] at c0
        rw [← hb0] at d0
        have HA0 := Lib.hid ha0
        have HB0 := Lib.hid hb0
        clear ha0 hb0
        obtain ⟨a1, ha1⟩ : ∃ a : Int, a = ((word p.2.1.testBit 0 : Nat) : Int) := ⟨_, rfl⟩
        obtain ⟨b1, hb1⟩ : ∃ b : Int, b = ((word q.2.1.testBit 0 : Nat) : Int) := ⟨_, rfl⟩
        rw [← ha1] at c1
        rw [← hb1] at d1
        have HA1 := Lib.hid ha1
        have HB1 := Lib.hid hb1
        clear ha1 hb1
        obtain ⟨a2, ha2⟩ : ∃ a : Int, a = ((word p.2.1.testBit 1 : Nat) : Int) := ⟨_, rfl⟩
        obtain ⟨b2, hb2⟩ : ∃ b : Int, b = ((word q.2.1.testBit 1 : Nat) : Int) := ⟨_, rfl⟩
        rw [← ha2] at c2
        rw [← hb2] at d2
        have HA2 := Lib.hid ha2
        have HB2 := Lib.hid hb2
        clear ha2 hb2
        obtain ⟨a3, ha3⟩ : ∃ a : Int, a = ((word p.2.1.testBit 2 : Nat) : Int) := ⟨_, rfl⟩
        obtain ⟨b3, hb3⟩ : ∃ b : Int, b = ((word q.2.1.testBit 2 : Nat) : Int) := ⟨_, rfl⟩
        rw [← ha3] at c3
        rw [← hb3] at d3
        have HA3 := Lib.hid ha3
        have HB3 := Lib.hid hb3
        clear ha3 hb3
        obtain ⟨a4, ha4⟩ : ∃ a : Int, a = ((word p.2.1.testBit 3 : Nat) : Int) := ⟨_, rfl⟩
        obtain ⟨b4, hb4⟩ : ∃ b : Int, b = ((word q.2.1.testBit 3 : Nat) : Int) := ⟨_, rfl⟩
        rw [← ha4] at c4
        rw [← hb4] at d4
        have HA4 := Lib.hid ha4
        have HB4 := Lib.hid hb4
        clear ha4 hb4
        obtain ⟨a5, ha5⟩ : ∃ a : Int, a = p.2.2 := ⟨_, rfl⟩
        obtain ⟨b5, hb5⟩ : ∃ b : Int, b = q.2.2 := ⟨_, rfl⟩
        rw [← ha5] at c5
        rw [← hb5] at d5
        have HA5 := Lib.hid ha5
        have HB5 := Lib.hid hb5
        clear ha5 hb5
        by_cases h0 : a0 = b0
        · subst h0
          have e0 : (a0 != a0) = false := by simp
          have f0 : (a0 == a0) = true := by simp
          by_cases h1 : a1 = b1
          · subst h1
            have e1 : (a1 != a1) = false := by simp
            have f1 : (a1 == a1) = true := by simp
            by_cases h2 : a2 = b2
            · subst h2
              have e2 : (a2 != a2) = false := by simp
              have f2 : (a2 == a2) = true := by simp
              by_cases h3 : a3 = b3
              · subst h3
                have e3 : (a3 != a3) = false := by simp
                have f3 : (a3 == a3) = true := by simp
                by_cases h4 : a4 = b4
                · subst h4
                  have e4 : (a4 != a4) = false := by simp
                  have f4 : (a4 == a4) = true := by simp
                  by_cases h5 : a5 = b5
                  · subst h5
                    have e5 : (a5 != a5) = false := by simp
                    have f5 : (a5 == a5) = true := by simp
                    have HF := Lib.hid (show edgeE p q = true by unfold edgeE; rw [← HA0.out, ← HB0.out, ← HA1.out, ← HB1.out, ← HA2.out, ← HB2.out, ← HA3.out, ← HB3.out, ← HA4.out, ← HB4.out, ← HA5.out, ← HB5.out]; simp)
                    go_wp2
                    go_quiet (fail)
                    go_wp2
                    go_roundw
                    case rel => exact ⟨k + 1, by go_num, by omega, Lib.hid (fun j x y hj hx hy => by
                      rcases Nat.lt_or_ge j k with h | h
                      · exact HE.out j x y h hx hy
                      · obtain rfl : j = k := by omega
                        rw [HP.out.1] at hx
                        rw [HP.out.2] at hy
                        cases hx
                        cases hy
                        exact HF.out), Lib.hid (bel_drewN HB.out _)⟩
                    case measure => simp [intOf]; omega
                  · have e5 : (a5 != b5) = true := by rw [bne_iff_ne]; exact h5
                    have f5 : (a5 == b5) = false := by rw [beq_eq_false_iff_ne]; exact h5
                    have HF := Lib.hid (show edgeE p q = false by unfold edgeE; rw [← HA0.out, ← HB0.out, ← HA1.out, ← HB1.out, ← HA2.out, ← HB2.out, ← HA3.out, ← HB3.out, ← HA4.out, ← HB4.out, ← HA5.out, ← HB5.out]; simp [h5])
                    have hkeep5 := h5
                    go_wp2
                    go_quiet (fail)
                    go_wp2
                    go_light
                    go_ret
                    exact ⟨by rw [eqL_no HP.out.1 HP.out.2 HF.out]; rfl, bel_drewN HB.out _⟩
                · have e4 : (a4 != b4) = true := by rw [bne_iff_ne]; exact h4
                  have f4 : (a4 == b4) = false := by rw [beq_eq_false_iff_ne]; exact h4
                  have HF := Lib.hid (show edgeE p q = false by unfold edgeE; rw [← HA0.out, ← HB0.out, ← HA1.out, ← HB1.out, ← HA2.out, ← HB2.out, ← HA3.out, ← HB3.out, ← HA4.out, ← HB4.out, ← HA5.out, ← HB5.out]; simp [h4])
                  have hkeep4 := h4
                  go_wp2
                  go_quiet (fail)
                  go_wp2
                  go_light
                  go_ret
                  exact ⟨by rw [eqL_no HP.out.1 HP.out.2 HF.out]; rfl, bel_drewN HB.out _⟩
              · have e3 : (a3 != b3) = true := by rw [bne_iff_ne]; exact h3
                have f3 : (a3 == b3) = false := by rw [beq_eq_false_iff_ne]; exact h3
                have HF := Lib.hid (show edgeE p q = false by unfold edgeE; rw [← HA0.out, ← HB0.out, ← HA1.out, ← HB1.out, ← HA2.out, ← HB2.out, ← HA3.out, ← HB3.out, ← HA4.out, ← HB4.out, ← HA5.out, ← HB5.out]; simp [h3])
                have hkeep3 := h3
                go_wp2
                go_quiet (fail)
                go_wp2
                go_light
                go_ret
                exact ⟨by rw [eqL_no HP.out.1 HP.out.2 HF.out]; rfl, bel_drewN HB.out _⟩
            · have e2 : (a2 != b2) = true := by rw [bne_iff_ne]; exact h2
              have f2 : (a2 == b2) = false := by rw [beq_eq_false_iff_ne]; exact h2
              have HF := Lib.hid (show edgeE p q = false by unfold edgeE; rw [← HA0.out, ← HB0.out, ← HA1.out, ← HB1.out, ← HA2.out, ← HB2.out, ← HA3.out, ← HB3.out, ← HA4.out, ← HB4.out, ← HA5.out, ← HB5.out]; simp [h2])
              have hkeep2 := h2
              go_wp2
              go_quiet (fail)
              go_wp2
              go_light
              go_ret
              exact ⟨by rw [eqL_no HP.out.1 HP.out.2 HF.out]; rfl, bel_drewN HB.out _⟩
          · have e1 : (a1 != b1) = true := by rw [bne_iff_ne]; exact h1
            have f1 : (a1 == b1) = false := by rw [beq_eq_false_iff_ne]; exact h1
            have HF := Lib.hid (show edgeE p q = false by unfold edgeE; rw [← HA0.out, ← HB0.out, ← HA1.out, ← HB1.out, ← HA2.out, ← HB2.out, ← HA3.out, ← HB3.out, ← HA4.out, ← HB4.out, ← HA5.out, ← HB5.out]; simp [h1])
            have hkeep1 := h1
            go_wp2
            go_quiet (fail)
            go_wp2
            go_light
            go_ret
            exact ⟨by rw [eqL_no HP.out.1 HP.out.2 HF.out]; rfl, bel_drewN HB.out _⟩
        · have e0 : (a0 != b0) = true := by rw [bne_iff_ne]; exact h0
          have f0 : (a0 == b0) = false := by rw [beq_eq_false_iff_ne]; exact h0
          have HF := Lib.hid (show edgeE p q = false by unfold edgeE; rw [← HA0.out, ← HB0.out, ← HA1.out, ← HB1.out, ← HA2.out, ← HB2.out, ← HA3.out, ← HB3.out, ← HA4.out, ← HB4.out, ← HA5.out, ← HB5.out]; simp [h0])
          have hkeep0 := h0
          go_wp2
          go_quiet (fail)
          go_wp2
          go_light
          go_ret
          exact ⟨by rw [eqL_no HP.out.1 HP.out.2 HF.out]; rfl, bel_drewN HB.out _⟩
      · obtain rfl : k = L.length := by omega
        have hdl : ¬ ((L.length : Int) < (L.length : Int)) := by omega
        go_wp2
        go_light
        go_ret
        exact ⟨by rw [eqL_yes HL.out HE.out]; rfl, HB.out⟩
  · have hn : ((L.length : Int) != (M.length : Int)) = true := by rw [bne_iff_ne]; omega
    have HF := Lib.hid (eqL_len (f := edgeE) hlen)
    clear hlen
    go_enter Try.func46, Try.ntmps46
    go_wp2
    go_light
    go_ret
    exact ⟨by rw [HF.out]; rfl, Below.refl _ _⟩
set_option maxHeartbeats 4000000 in
theorem eqint_go (A A' : Option Addr) (cap cap' : Nat) (L M : List Int) (w : World) (hl : L.length ≤ 140737488355328) (hm : M.length ≤ 140737488355328) (hA : IntsAt w A L) (hA' : IntsAt w A' M) :
    Calls Try.prog 47 #[.slice A L.length cap, .slice A' M.length cap'] w fun e w' => e = .returned (.bool (eqL intE L M)) ∧ Below w.heap.size w w' := by
  have HA := Lib.hid hA
  have HA' := Lib.hid hA'
  clear hA hA'
  by_cases hlen : L.length = M.length
  · have hn : ((L.length : Int) != (M.length : Int)) = false := by simp [hlen]
    have HL := Lib.hid hlen
    clear hlen
    go_enter Try.func47, Try.ntmps47
    go_wp2
    go_loopw [13] (fun i wr => ∃ k : Nat, i = .int .i64 (k : Int) ∧ k ≤ L.length ∧ Hid (∀ j x y, j < k → L[j]? = some x → M[j]? = some y → intE x y = true) ∧ Hid (Below w.heap.size w wr)) (fun i _ => L.length - (intOf i).toNat)
    case atStart => exact ⟨0, rfl, Nat.zero_le _, Lib.hid (fun j x y hj => by omega), Lib.hid (Below.refl _ _)⟩
    case round =>
      clear hn
      obtain ⟨k, rfl, hk, HE, HB⟩ := hrel
      by_cases hlt : k < L.length
      · obtain ⟨p, hp⟩ : ∃ p, L[k]? = some p := ⟨_, List.getElem?_eq_getElem hlt⟩
        have hlt2 : k < M.length := by rw [← HL.out]; exact hlt
        obtain ⟨q, hq⟩ : ∃ q, M[k]? = some q := ⟨_, List.getElem?_eq_getElem hlt2⟩
        obtain ⟨b, o, rfl, c0⟩ := (HA.out.below HB.out) k p hp
        obtain ⟨b', o', rfl, d0⟩ := (HA'.out.below HB.out) k q hq
        have hdl : (k : Int) < (L.length : Int) := by omega
        have hdl2 : (k : Int) < (M.length : Int) := by omega
        have hb := World.block_lt_of_cell? wr _ c0
        have hb' := World.block_lt_of_cell? wr _ d0
        have HP := Lib.hid (show _ ∧ _ from ⟨hp, hq⟩)
        clear hp hq
        obtain ⟨a0, ha0⟩ : ∃ a : Int, a = p := ⟨_, rfl⟩
        obtain ⟨b0, hb0⟩ : ∃ b : Int, b = q := ⟨_, rfl⟩
        rw [← ha0] at c0
        rw [← hb0] at d0
        have HA0 := Lib.hid ha0
        have HB0 := Lib.hid hb0
        clear ha0 hb0
        by_cases h0 : a0 = b0
        · subst h0
          have e0 : (a0 != a0) = false := by simp
          have f0 : (a0 == a0) = true := by simp
          have HF := Lib.hid (show intE p q = true by unfold intE; rw [← HA0.out, ← HB0.out]; simp)
          go_wp2
          go_quiet (fail)
          go_wp2
          go_roundw
          case rel => exact ⟨k + 1, by go_num, by omega, Lib.hid (fun j x y hj hx hy => by
            rcases Nat.lt_or_ge j k with h | h
            · exact HE.out j x y h hx hy
            · obtain rfl : j = k := by omega
              rw [HP.out.1] at hx
              rw [HP.out.2] at hy
              cases hx
              cases hy
              exact HF.out), Lib.hid (bel_drewN HB.out _)⟩
          case measure => simp [intOf]; omega
        · have e0 : (a0 != b0) = true := by rw [bne_iff_ne]; exact h0
          have f0 : (a0 == b0) = false := by rw [beq_eq_false_iff_ne]; exact h0
          have HF := Lib.hid (show intE p q = false by unfold intE; rw [← HA0.out, ← HB0.out]; simp [h0])
          have hkeep0 := h0
          go_wp2
          go_quiet (fail)
          go_wp2
          go_light
          go_ret
          exact ⟨by rw [eqL_no HP.out.1 HP.out.2 HF.out]; rfl, bel_drewN HB.out _⟩
      · obtain rfl : k = L.length := by omega
        have hdl : ¬ ((L.length : Int) < (L.length : Int)) := by omega
        go_wp2
        go_light
        go_ret
        exact ⟨by rw [eqL_yes HL.out HE.out]; rfl, HB.out⟩
  · have hn : ((L.length : Int) != (M.length : Int)) = true := by rw [bne_iff_ne]; omega
    have HF := Lib.hid (eqL_len (f := intE) hlen)
    clear hlen
    go_enter Try.func47, Try.ntmps47
    go_wp2
    go_light
    go_ret
    exact ⟨by rw [HF.out]; rfl, Below.refl _ _⟩
end Go.Proofs.Ytgbpcigfbpghgaa
namespace Go.Proofs.Ytgbpcigfbpghgaa
open Go.RowKit
set_option linter.unusedSimpArgs false
set_option linter.unusedVariables false
set_option maxRecDepth 100000

/-- Are two machines the same? -/
def sameN (a b : NfaV) : Bool := decide (a.states = b.states) && (decide (a.start = b.start) && (eqL linkE a.links b.links && (eqL edgeE a.edges b.edges && eqL intE a.accept b.accept)))
theorem linkE_self (p : Int × Int) : linkE p p = true := by simp [linkE]
theorem edgeE_self (p : Int × Nat × Int) : edgeE p p = true := by simp [edgeE]
theorem intE_self (p : Int) : intE p p = true := by simp [intE]
theorem sameN_self (a : NfaV) : sameN a a = true := by simp [sameN, eqL_self linkE_self, eqL_self edgeE_self, eqL_self intE_self]
set_option maxHeartbeats 4000000 in
theorem nsame16_go (N M : NfaV) (A1 : Option Addr) (k1 : Nat) (A2 : Option Addr) (k2 : Nat) (A3 : Option Addr) (k3 : Nat) (B1 : Option Addr) (j1 : Nat) (B2 : Option Addr) (j2 : Nat) (B3 : Option Addr) (j3 : Nat) (w : World) (hN : NfaAt w N A1 A2 A3) (hM : NfaAt w M B1 B2 B3) : Calls Try.prog 20 #[.agg (nfA N A1 k1 A2 k2 A3 k3), .agg (nfA M B1 j1 B2 j2 B3 j3)] w fun e w' => e = .returned (.bool (sameN N M)) ∧ Below w.heap.size w w' := by
  have hb2 : Below w.heap.size w ((w.alloc (.cells #[.int .i64 N.states, .int .i64 N.start, .slice A1 N.links.length k1, .slice A2 N.edges.length k2, .slice A3 N.accept.length k3] 50)).alloc (.cells #[.int .i64 M.states, .int .i64 M.start, .slice B1 M.links.length j1, .slice B2 M.edges.length j2, .slice B3 M.accept.length j3] 50)) := ((Below.refl _ _).alloc (Nat.le_refl _) _).alloc (by simp) _
  have HB2 := Lib.hid hb2
  have HX := Lib.hid ((Blk.new w 50 #[.int .i64 N.states, .int .i64 N.start, .slice A1 N.links.length k1, .slice A2 N.edges.length k2, .slice A3 N.accept.length k3]).alloc (.cells #[.int .i64 M.states, .int .i64 M.start, .slice B1 M.links.length j1, .slice B2 M.edges.length j2, .slice B3 M.accept.length j3] 50))
  have HY := Lib.hid (show Blk ((w.alloc (.cells #[.int .i64 N.states, .int .i64 N.start, .slice A1 N.links.length k1, .slice A2 N.edges.length k2, .slice A3 N.accept.length k3] 50)).alloc (.cells #[.int .i64 M.states, .int .i64 M.start, .slice B1 M.links.length j1, .slice B2 M.edges.length j2, .slice B3 M.accept.length j3] 50)) (w.heap.size + 1) 50 #[.int .i64 M.states, .int .i64 M.start, .slice B1 M.links.length j1, .slice B2 M.edges.length j2, .slice B3 M.accept.length j3] from Blk.new_at (by simp))
  have HN := Lib.hid (hN.below hb2)
  have HM := Lib.hid (hM.below hb2)
  clear hb2 hN hM
  unfold nfA at *

  have hll := HN.out.ll
  have hel := HN.out.el
  have hal := HN.out.al
  have hll2 := HM.out.ll
  have hel2 := HM.out.el
  have hal2 := HM.out.al
  by_cases hs : N.states = M.states
  · have es : (N.states == M.states) = true := by rw [beq_iff_eq]; exact hs
    by_cases ht : N.start = M.start
    · have et : (N.start == M.start) = true := by rw [beq_iff_eq]; exact ht
      have HV := Lib.hid (show sameN N M = (eqL linkE N.links M.links && (eqL edgeE N.edges M.edges && eqL intE N.accept M.accept)) by unfold sameN; rw [decide_eq_true hs, decide_eq_true ht]; rfl)
      have H1 := Lib.hid (eqlink_go A1 B1 k1 j1 N.links M.links ((w.alloc (.cells #[.int .i64 N.states, .int .i64 N.start, .slice A1 N.links.length k1, .slice A2 N.edges.length k2, .slice A3 N.accept.length k3] 50)).alloc (.cells #[.int .i64 M.states, .int .i64 M.start, .slice B1 M.links.length j1, .slice B2 M.edges.length j2, .slice B3 M.accept.length j3] 50)) hll hll2 HN.out.l HM.out.l)
      clear hs ht
      cases h1 : eqL linkE N.links M.links with
      | false =>
        rw [h1] at H1 HV
        clear h1
        go_enter Try.func20, Try.ntmps20
        go_wp2_with fail
        refine H1.out.mono ?_
        rintro e w3 ⟨rfl, hb3⟩
        have HB3 := Lib.hid (HB2.out.trans (hb3.mono HB2.out.size))
        clear hb3 H1
        dsimp only
        go_wp2
        go_light
        go_ret
        exact ⟨by rw [HV.out]; rfl, HB3.out⟩
      | true =>
        rw [h1] at H1 HV
        clear h1
        cases h2 : eqL edgeE N.edges M.edges with
        | false =>
          rw [h2] at HV
          have H2C := Lib.hid h2
          clear h2
          go_enter Try.func20, Try.ntmps20
          go_wp2_with fail
          refine H1.out.mono ?_
          rintro e w3 ⟨rfl, hb3⟩
          have hX3 := HX.out.below hb3 HX.out.lt
          have hY3 := HY.out.below hb3 HY.out.lt
          have x3 := hX3.cell 3
          have y3 := hY3.cell 3
          have lx := hX3.lt
          have ly := hY3.lt
          have hq := eqedge_go A2 B2 k2 j2 N.edges M.edges w3 hel hel2 (HN.out.e.below hb3) (HM.out.e.below hb3)
          rw [H2C.out] at hq
          have H2 := Lib.hid hq
          have HB3 := Lib.hid (HB2.out.trans (hb3.mono HB2.out.size))
          clear hb3 H1 hX3 hY3 hq
          dsimp only
          go_wp2_with fail
          refine H2.out.mono ?_
          rintro e w4 ⟨rfl, hb4⟩
          have HB4 := Lib.hid (HB3.out.trans (hb4.mono HB3.out.size))
          clear hb4 H2 x3 y3
          dsimp only
          go_wp2
          go_light
          go_ret
          exact ⟨by rw [HV.out]; rfl, HB4.out⟩
        | true =>
          rw [h2] at HV
          have H2C := Lib.hid h2
          clear h2
          go_enter Try.func20, Try.ntmps20
          go_wp2_with fail
          refine H1.out.mono ?_
          rintro e w3 ⟨rfl, hb3⟩
          have hX3 := HX.out.below hb3 HX.out.lt
          have hY3 := HY.out.below hb3 HY.out.lt
          have x3 := hX3.cell 3
          have y3 := hY3.cell 3
          have lx := hX3.lt
          have ly := hY3.lt
          have hq := eqedge_go A2 B2 k2 j2 N.edges M.edges w3 hel hel2 (HN.out.e.below hb3) (HM.out.e.below hb3)
          rw [H2C.out] at hq
          have H2 := Lib.hid hq
          have HB3 := Lib.hid (HB2.out.trans (hb3.mono HB2.out.size))
          have HX3 := Lib.hid hX3
          have HY3 := Lib.hid hY3
          have HN3 := Lib.hid (HN.out.a.below hb3)
          have HM3 := Lib.hid (HM.out.a.below hb3)
          clear hb3 H1 hX3 hY3 hq
          dsimp only
          go_wp2_with fail
          refine H2.out.mono ?_
          rintro e w4 ⟨rfl, hb4⟩
          have hX4 := HX3.out.below hb4 HX3.out.lt
          have hY4 := HY3.out.below hb4 HY3.out.lt
          have x4 := hX4.cell 4
          have y4 := hY4.cell 4
          have lx4 := hX4.lt
          have ly4 := hY4.lt
          have H3 := Lib.hid (eqint_go A3 B3 k3 j3 N.accept M.accept w4 hal hal2 (HN3.out.below hb4) (HM3.out.below hb4))
          have HB4 := Lib.hid (HB3.out.trans (hb4.mono HB3.out.size))
          clear hb4 H2 x3 y3 hX4 hY4
          dsimp only
          generalize eqL intE N.accept M.accept = r at *
          go_wp2_with fail
          refine H3.out.mono ?_
          rintro e w5 ⟨rfl, hb5⟩
          have HB5 := Lib.hid (HB4.out.trans (hb5.mono HB4.out.size))
          clear hb5 H3
          dsimp only
          go_wp2
          go_light
          go_ret
          exact ⟨by rw [HV.out]; rfl, HB5.out⟩
    · have et : (N.start == M.start) = false := by rw [beq_eq_false_iff_ne]; exact ht
      have HV := Lib.hid (show sameN N M = false by unfold sameN; rw [decide_eq_true hs, decide_eq_false ht]; rfl)
      clear hs ht
      go_enter Try.func20, Try.ntmps20
      go_wp2
      go_light
      go_ret
      exact ⟨by rw [HV.out]; rfl, HB2.out⟩
  · have es : (N.states == M.states) = false := by rw [beq_eq_false_iff_ne]; exact hs
    have HV := Lib.hid (show sameN N M = false by unfold sameN; rw [decide_eq_false hs]; rfl)
    clear hs
    go_enter Try.func20, Try.ntmps20
    go_wp2
    go_light
    go_ret
    exact ⟨by rw [HV.out]; rfl, HB2.out⟩
end Go.Proofs.Ytgbpcigfbpghgaa
namespace Go.Proofs.Ytgbpcigfbpghgaa
open Go.RowKit
set_option linter.unusedSimpArgs false
set_option linter.unusedVariables false
set_option maxRecDepth 100000

theorem sameN_rows {N M : NfaV} (hs : N.states = M.states) (ht : N.start = M.start) : sameN N M = (eqL linkE N.links M.links && (eqL edgeE N.edges M.edges && eqL intE N.accept M.accept)) := by
  unfold sameN
  rw [decide_eq_true hs, decide_eq_true ht]
  rfl
set_option maxHeartbeats 2000000 in
theorem rsame_head0 (N M : NfaV) (A1 : Option Addr) (k1 : Nat) (A2 : Option Addr) (k2 : Nat) (A3 : Option Addr) (k3 : Nat) (B1 : Option Addr) (j1 : Nat) (B2 : Option Addr) (j2 : Nat) (B3 : Option Addr) (j3 : Nat) (w : World) (hN : NfaAt w N A1 A2 A3) (hM : NfaAt w M B1 B2 B3) (hx : N.states ≠ M.states) : Calls Try.prog 21 #[.agg (nfA N A1 k1 A2 k2 A3 k3), .agg (nfA M B1 j1 B2 j2 B3 j3)] w fun e w' => e = .returned (.bool (sameN N M)) ∧ Below w.heap.size w w' := by
  have hb2 : Below w.heap.size w ((w.alloc (.cells #[.int .i64 N.states, .int .i64 N.start, .slice A1 N.links.length k1, .slice A2 N.edges.length k2, .slice A3 N.accept.length k3] 50)).alloc (.cells #[.int .i64 M.states, .int .i64 M.start, .slice B1 M.links.length j1, .slice B2 M.edges.length j2, .slice B3 M.accept.length j3] 50)) := ((Below.refl _ _).alloc (Nat.le_refl _) _).alloc (by simp) _
  have HB2 := Lib.hid hb2
  have HX := Lib.hid ((Blk.new w 50 #[.int .i64 N.states, .int .i64 N.start, .slice A1 N.links.length k1, .slice A2 N.edges.length k2, .slice A3 N.accept.length k3]).alloc (.cells #[.int .i64 M.states, .int .i64 M.start, .slice B1 M.links.length j1, .slice B2 M.edges.length j2, .slice B3 M.accept.length j3] 50))
  have HY := Lib.hid (show Blk ((w.alloc (.cells #[.int .i64 N.states, .int .i64 N.start, .slice A1 N.links.length k1, .slice A2 N.edges.length k2, .slice A3 N.accept.length k3] 50)).alloc (.cells #[.int .i64 M.states, .int .i64 M.start, .slice B1 M.links.length j1, .slice B2 M.edges.length j2, .slice B3 M.accept.length j3] 50)) (w.heap.size + 1) 50 #[.int .i64 M.states, .int .i64 M.start, .slice B1 M.links.length j1, .slice B2 M.edges.length j2, .slice B3 M.accept.length j3] from Blk.new_at (by simp))
  have HN := Lib.hid (hN.below hb2)
  have HM := Lib.hid (hM.below hb2)
  clear hb2 hN hM
  unfold nfA at *

  have HV := Lib.hid (show sameN N M = false by unfold sameN; rw [decide_eq_false hx]; rfl)
  have e0 : (N.states != M.states) = true := by rw [bne_iff_ne]; exact hx
  clear hx
  go_enter Try.func21, Try.ntmps21
  go_wp2
  go_light
  go_ret
  exact ⟨by rw [HV.out]; rfl, HB2.out⟩
set_option maxHeartbeats 2000000 in
theorem rsame_head1 (N M : NfaV) (A1 : Option Addr) (k1 : Nat) (A2 : Option Addr) (k2 : Nat) (A3 : Option Addr) (k3 : Nat) (B1 : Option Addr) (j1 : Nat) (B2 : Option Addr) (j2 : Nat) (B3 : Option Addr) (j3 : Nat) (w : World) (hN : NfaAt w N A1 A2 A3) (hM : NfaAt w M B1 B2 B3) (h0 : N.states = M.states) (hx : N.start ≠ M.start) : Calls Try.prog 21 #[.agg (nfA N A1 k1 A2 k2 A3 k3), .agg (nfA M B1 j1 B2 j2 B3 j3)] w fun e w' => e = .returned (.bool (sameN N M)) ∧ Below w.heap.size w w' := by
  have hb2 : Below w.heap.size w ((w.alloc (.cells #[.int .i64 N.states, .int .i64 N.start, .slice A1 N.links.length k1, .slice A2 N.edges.length k2, .slice A3 N.accept.length k3] 50)).alloc (.cells #[.int .i64 M.states, .int .i64 M.start, .slice B1 M.links.length j1, .slice B2 M.edges.length j2, .slice B3 M.accept.length j3] 50)) := ((Below.refl _ _).alloc (Nat.le_refl _) _).alloc (by simp) _
  have HB2 := Lib.hid hb2
  have HX := Lib.hid ((Blk.new w 50 #[.int .i64 N.states, .int .i64 N.start, .slice A1 N.links.length k1, .slice A2 N.edges.length k2, .slice A3 N.accept.length k3]).alloc (.cells #[.int .i64 M.states, .int .i64 M.start, .slice B1 M.links.length j1, .slice B2 M.edges.length j2, .slice B3 M.accept.length j3] 50))
  have HY := Lib.hid (show Blk ((w.alloc (.cells #[.int .i64 N.states, .int .i64 N.start, .slice A1 N.links.length k1, .slice A2 N.edges.length k2, .slice A3 N.accept.length k3] 50)).alloc (.cells #[.int .i64 M.states, .int .i64 M.start, .slice B1 M.links.length j1, .slice B2 M.edges.length j2, .slice B3 M.accept.length j3] 50)) (w.heap.size + 1) 50 #[.int .i64 M.states, .int .i64 M.start, .slice B1 M.links.length j1, .slice B2 M.edges.length j2, .slice B3 M.accept.length j3] from Blk.new_at (by simp))
  have HN := Lib.hid (hN.below hb2)
  have HM := Lib.hid (hM.below hb2)
  clear hb2 hN hM
  unfold nfA at *

  have HV := Lib.hid (show sameN N M = false by unfold sameN; rw [decide_eq_false hx]; simp)
  have e0 : (N.states != M.states) = false := by simp [h0]
  have e1 : (N.start != M.start) = true := by rw [bne_iff_ne]; exact hx
  clear hx h0
  go_enter Try.func21, Try.ntmps21
  go_wp2
  go_light
  go_ret
  exact ⟨by rw [HV.out]; rfl, HB2.out⟩
set_option maxHeartbeats 2000000 in
theorem rsame_head2 (N M : NfaV) (A1 : Option Addr) (k1 : Nat) (A2 : Option Addr) (k2 : Nat) (A3 : Option Addr) (k3 : Nat) (B1 : Option Addr) (j1 : Nat) (B2 : Option Addr) (j2 : Nat) (B3 : Option Addr) (j3 : Nat) (w : World) (hN : NfaAt w N A1 A2 A3) (hM : NfaAt w M B1 B2 B3) (h0 : N.states = M.states) (h1 : N.start = M.start) (hx : N.links.length ≠ M.links.length) : Calls Try.prog 21 #[.agg (nfA N A1 k1 A2 k2 A3 k3), .agg (nfA M B1 j1 B2 j2 B3 j3)] w fun e w' => e = .returned (.bool (sameN N M)) ∧ Below w.heap.size w w' := by
  have hb2 : Below w.heap.size w ((w.alloc (.cells #[.int .i64 N.states, .int .i64 N.start, .slice A1 N.links.length k1, .slice A2 N.edges.length k2, .slice A3 N.accept.length k3] 50)).alloc (.cells #[.int .i64 M.states, .int .i64 M.start, .slice B1 M.links.length j1, .slice B2 M.edges.length j2, .slice B3 M.accept.length j3] 50)) := ((Below.refl _ _).alloc (Nat.le_refl _) _).alloc (by simp) _
  have HB2 := Lib.hid hb2
  have HX := Lib.hid ((Blk.new w 50 #[.int .i64 N.states, .int .i64 N.start, .slice A1 N.links.length k1, .slice A2 N.edges.length k2, .slice A3 N.accept.length k3]).alloc (.cells #[.int .i64 M.states, .int .i64 M.start, .slice B1 M.links.length j1, .slice B2 M.edges.length j2, .slice B3 M.accept.length j3] 50))
  have HY := Lib.hid (show Blk ((w.alloc (.cells #[.int .i64 N.states, .int .i64 N.start, .slice A1 N.links.length k1, .slice A2 N.edges.length k2, .slice A3 N.accept.length k3] 50)).alloc (.cells #[.int .i64 M.states, .int .i64 M.start, .slice B1 M.links.length j1, .slice B2 M.edges.length j2, .slice B3 M.accept.length j3] 50)) (w.heap.size + 1) 50 #[.int .i64 M.states, .int .i64 M.start, .slice B1 M.links.length j1, .slice B2 M.edges.length j2, .slice B3 M.accept.length j3] from Blk.new_at (by simp))
  have HN := Lib.hid (hN.below hb2)
  have HM := Lib.hid (hM.below hb2)
  clear hb2 hN hM
  unfold nfA at *

  have HV := Lib.hid (show sameN N M = false by unfold sameN; rw [eqL_len (f := linkE) hx]; simp)
  have e0 : (N.states != M.states) = false := by simp [h0]
  have e1 : (N.start != M.start) = false := by simp [h1]
  have e2 : ((N.links.length : Int) != (M.links.length : Int)) = true := by rw [bne_iff_ne]; omega
  clear hx h0 h1
  go_enter Try.func21, Try.ntmps21
  go_wp2
  go_light
  go_ret
  exact ⟨by rw [HV.out]; rfl, HB2.out⟩
set_option maxHeartbeats 2000000 in
theorem rsame_head3 (N M : NfaV) (A1 : Option Addr) (k1 : Nat) (A2 : Option Addr) (k2 : Nat) (A3 : Option Addr) (k3 : Nat) (B1 : Option Addr) (j1 : Nat) (B2 : Option Addr) (j2 : Nat) (B3 : Option Addr) (j3 : Nat) (w : World) (hN : NfaAt w N A1 A2 A3) (hM : NfaAt w M B1 B2 B3) (h0 : N.states = M.states) (h1 : N.start = M.start) (h2 : N.links.length = M.links.length) (hx : N.edges.length ≠ M.edges.length) : Calls Try.prog 21 #[.agg (nfA N A1 k1 A2 k2 A3 k3), .agg (nfA M B1 j1 B2 j2 B3 j3)] w fun e w' => e = .returned (.bool (sameN N M)) ∧ Below w.heap.size w w' := by
  have hb2 : Below w.heap.size w ((w.alloc (.cells #[.int .i64 N.states, .int .i64 N.start, .slice A1 N.links.length k1, .slice A2 N.edges.length k2, .slice A3 N.accept.length k3] 50)).alloc (.cells #[.int .i64 M.states, .int .i64 M.start, .slice B1 M.links.length j1, .slice B2 M.edges.length j2, .slice B3 M.accept.length j3] 50)) := ((Below.refl _ _).alloc (Nat.le_refl _) _).alloc (by simp) _
  have HB2 := Lib.hid hb2
  have HX := Lib.hid ((Blk.new w 50 #[.int .i64 N.states, .int .i64 N.start, .slice A1 N.links.length k1, .slice A2 N.edges.length k2, .slice A3 N.accept.length k3]).alloc (.cells #[.int .i64 M.states, .int .i64 M.start, .slice B1 M.links.length j1, .slice B2 M.edges.length j2, .slice B3 M.accept.length j3] 50))
  have HY := Lib.hid (show Blk ((w.alloc (.cells #[.int .i64 N.states, .int .i64 N.start, .slice A1 N.links.length k1, .slice A2 N.edges.length k2, .slice A3 N.accept.length k3] 50)).alloc (.cells #[.int .i64 M.states, .int .i64 M.start, .slice B1 M.links.length j1, .slice B2 M.edges.length j2, .slice B3 M.accept.length j3] 50)) (w.heap.size + 1) 50 #[.int .i64 M.states, .int .i64 M.start, .slice B1 M.links.length j1, .slice B2 M.edges.length j2, .slice B3 M.accept.length j3] from Blk.new_at (by simp))
  have HN := Lib.hid (hN.below hb2)
  have HM := Lib.hid (hM.below hb2)
  clear hb2 hN hM
  unfold nfA at *

  have HV := Lib.hid (show sameN N M = false by unfold sameN; rw [eqL_len (f := edgeE) hx]; simp)
  have e0 : (N.states != M.states) = false := by simp [h0]
  have e1 : (N.start != M.start) = false := by simp [h1]
  have e2 : ((N.links.length : Int) != (M.links.length : Int)) = false := by simp [h2]
  have e3 : ((N.edges.length : Int) != (M.edges.length : Int)) = true := by rw [bne_iff_ne]; omega
  clear hx h0 h1 h2
  go_enter Try.func21, Try.ntmps21
  go_wp2
  go_light
  go_ret
  exact ⟨by rw [HV.out]; rfl, HB2.out⟩
set_option maxHeartbeats 2000000 in
theorem rsame_head4 (N M : NfaV) (A1 : Option Addr) (k1 : Nat) (A2 : Option Addr) (k2 : Nat) (A3 : Option Addr) (k3 : Nat) (B1 : Option Addr) (j1 : Nat) (B2 : Option Addr) (j2 : Nat) (B3 : Option Addr) (j3 : Nat) (w : World) (hN : NfaAt w N A1 A2 A3) (hM : NfaAt w M B1 B2 B3) (h0 : N.states = M.states) (h1 : N.start = M.start) (h2 : N.links.length = M.links.length) (h3 : N.edges.length = M.edges.length) (hx : N.accept.length ≠ M.accept.length) : Calls Try.prog 21 #[.agg (nfA N A1 k1 A2 k2 A3 k3), .agg (nfA M B1 j1 B2 j2 B3 j3)] w fun e w' => e = .returned (.bool (sameN N M)) ∧ Below w.heap.size w w' := by
  have hb2 : Below w.heap.size w ((w.alloc (.cells #[.int .i64 N.states, .int .i64 N.start, .slice A1 N.links.length k1, .slice A2 N.edges.length k2, .slice A3 N.accept.length k3] 50)).alloc (.cells #[.int .i64 M.states, .int .i64 M.start, .slice B1 M.links.length j1, .slice B2 M.edges.length j2, .slice B3 M.accept.length j3] 50)) := ((Below.refl _ _).alloc (Nat.le_refl _) _).alloc (by simp) _
  have HB2 := Lib.hid hb2
  have HX := Lib.hid ((Blk.new w 50 #[.int .i64 N.states, .int .i64 N.start, .slice A1 N.links.length k1, .slice A2 N.edges.length k2, .slice A3 N.accept.length k3]).alloc (.cells #[.int .i64 M.states, .int .i64 M.start, .slice B1 M.links.length j1, .slice B2 M.edges.length j2, .slice B3 M.accept.length j3] 50))
  have HY := Lib.hid (show Blk ((w.alloc (.cells #[.int .i64 N.states, .int .i64 N.start, .slice A1 N.links.length k1, .slice A2 N.edges.length k2, .slice A3 N.accept.length k3] 50)).alloc (.cells #[.int .i64 M.states, .int .i64 M.start, .slice B1 M.links.length j1, .slice B2 M.edges.length j2, .slice B3 M.accept.length j3] 50)) (w.heap.size + 1) 50 #[.int .i64 M.states, .int .i64 M.start, .slice B1 M.links.length j1, .slice B2 M.edges.length j2, .slice B3 M.accept.length j3] from Blk.new_at (by simp))
  have HN := Lib.hid (hN.below hb2)
  have HM := Lib.hid (hM.below hb2)
  clear hb2 hN hM
  unfold nfA at *

  have HV := Lib.hid (show sameN N M = false by unfold sameN; rw [eqL_len (f := intE) hx]; simp)
  have e0 : (N.states != M.states) = false := by simp [h0]
  have e1 : (N.start != M.start) = false := by simp [h1]
  have e2 : ((N.links.length : Int) != (M.links.length : Int)) = false := by simp [h2]
  have e3 : ((N.edges.length : Int) != (M.edges.length : Int)) = false := by simp [h3]
  have e4 : ((N.accept.length : Int) != (M.accept.length : Int)) = true := by rw [bne_iff_ne]; omega
  clear hx h0 h1 h2 h3
  go_enter Try.func21, Try.ntmps21
  go_wp2
  go_light
  go_ret
  exact ⟨by rw [HV.out]; rfl, HB2.out⟩
set_option maxHeartbeats 8000000 in
theorem rsame_rows (N M : NfaV) (A1 : Option Addr) (k1 : Nat) (A2 : Option Addr) (k2 : Nat) (A3 : Option Addr) (k3 : Nat) (B1 : Option Addr) (j1 : Nat) (B2 : Option Addr) (j2 : Nat) (B3 : Option Addr) (j3 : Nat) (w : World) (hN : NfaAt w N A1 A2 A3) (hM : NfaAt w M B1 B2 B3) (h0 : N.states = M.states) (h1 : N.start = M.start) (h2 : N.links.length = M.links.length) (h3 : N.edges.length = M.edges.length) (h4 : N.accept.length = M.accept.length) : Calls Try.prog 21 #[.agg (nfA N A1 k1 A2 k2 A3 k3), .agg (nfA M B1 j1 B2 j2 B3 j3)] w fun e w' => e = .returned (.bool (sameN N M)) ∧ Below w.heap.size w w' := by
  have hb2 : Below w.heap.size w ((w.alloc (.cells #[.int .i64 N.states, .int .i64 N.start, .slice A1 N.links.length k1, .slice A2 N.edges.length k2, .slice A3 N.accept.length k3] 50)).alloc (.cells #[.int .i64 M.states, .int .i64 M.start, .slice B1 M.links.length j1, .slice B2 M.edges.length j2, .slice B3 M.accept.length j3] 50)) := ((Below.refl _ _).alloc (Nat.le_refl _) _).alloc (by simp) _
  have HB2 := Lib.hid hb2
  have HX := Lib.hid ((Blk.new w 50 #[.int .i64 N.states, .int .i64 N.start, .slice A1 N.links.length k1, .slice A2 N.edges.length k2, .slice A3 N.accept.length k3]).alloc (.cells #[.int .i64 M.states, .int .i64 M.start, .slice B1 M.links.length j1, .slice B2 M.edges.length j2, .slice B3 M.accept.length j3] 50))
  have HY := Lib.hid (show Blk ((w.alloc (.cells #[.int .i64 N.states, .int .i64 N.start, .slice A1 N.links.length k1, .slice A2 N.edges.length k2, .slice A3 N.accept.length k3] 50)).alloc (.cells #[.int .i64 M.states, .int .i64 M.start, .slice B1 M.links.length j1, .slice B2 M.edges.length j2, .slice B3 M.accept.length j3] 50)) (w.heap.size + 1) 50 #[.int .i64 M.states, .int .i64 M.start, .slice B1 M.links.length j1, .slice B2 M.edges.length j2, .slice B3 M.accept.length j3] from Blk.new_at (by simp))
  have HN := Lib.hid (hN.below hb2)
  have HM := Lib.hid (hM.below hb2)
  clear hb2 hN hM
  unfold nfA at *

  have HV := Lib.hid (sameN_rows h0 h1)
  have e0 : (N.states != M.states) = false := by simp [h0]
  have e1 : (N.start != M.start) = false := by simp [h1]
  have e2 : ((N.links.length : Int) != (M.links.length : Int)) = false := by simp [h2]
  have e3 : ((N.edges.length : Int) != (M.edges.length : Int)) = false := by simp [h3]
  have e4 : ((N.accept.length : Int) != (M.accept.length : Int)) = false := by simp [h4]
  have HL0 := Lib.hid h2
  have HL1 := Lib.hid h3
  have HL2 := Lib.hid h4
  have hll := HN.out.ll
  have hel := HN.out.el
  have hal := HN.out.al
  clear h0 h1 h2 h3 h4
  go_enter Try.func21, Try.ntmps21
  go_wp2
  clear e0 e1 e2 e3 e4
  have HB := HB2
  clear HB2
  go_loopw [5] (fun i wr => ∃ k : Nat, i = .int .i64 (k : Int) ∧ k ≤ N.links.length ∧ Hid (∀ j x y, j < k → N.links[j]? = some x → M.links[j]? = some y → linkE x y = true) ∧ Hid (Below w.heap.size w wr) ∧ Hid (Blk wr w.heap.size 50 #[.int .i64 N.states, .int .i64 N.start, .slice A1 N.links.length k1, .slice A2 N.edges.length k2, .slice A3 N.accept.length k3]) ∧ Hid (Blk wr (w.heap.size + 1) 50 #[.int .i64 M.states, .int .i64 M.start, .slice B1 M.links.length j1, .slice B2 M.edges.length j2, .slice B3 M.accept.length j3]) ∧ Hid (NfaAt wr N A1 A2 A3) ∧ Hid (NfaAt wr M B1 B2 B3)) (fun i _ => N.links.length - (intOf i).toNat)
  case atStart => exact ⟨0, rfl, Nat.zero_le _, Lib.hid (fun j x y hj => by omega), HB, HX, HY, HN, HM⟩
  case round =>
    clear HB HX HY HN HM
    obtain ⟨k, rfl, hk, HE, HB, HX, HY, HN, HM⟩ := hrel
    have x2 := HX.out.cell 2
    have y2 := HY.out.cell 2
    have lx := HX.out.lt
    have ly := HY.out.lt
    by_cases hlt : k < N.links.length
    · obtain ⟨p, hp⟩ : ∃ p, N.links[k]? = some p := ⟨_, List.getElem?_eq_getElem hlt⟩
      have hlt2 : k < M.links.length := by rw [← HL0.out]; exact hlt
      obtain ⟨q, hq⟩ : ∃ q, M.links[k]? = some q := ⟨_, List.getElem?_eq_getElem hlt2⟩
      obtain ⟨b, o, hAb, c0, c1⟩ := HN.out.l k p hp
      obtain ⟨b', o', hBb, d0, d1⟩ := HM.out.l k q hq
      subst hAb
      subst hBb
      have hdl : (k : Int) < (N.links.length : Int) := by omega
      have hdl2 : (k : Int) < (M.links.length : Int) := by omega
      have hb := World.block_lt_of_cell? wr _ c0
      have hb' := World.block_lt_of_cell? wr _ d0
      have HP := Lib.hid (show _ ∧ _ from ⟨hp, hq⟩)
      clear hp hq
      obtain ⟨a0, ha0⟩ : ∃ a : Int, a = p.1 := ⟨_, rfl⟩
      obtain ⟨b0, hb0⟩ : ∃ b : Int, b = q.1 := ⟨_, rfl⟩
      rw [← ha0] at c0
      rw [← hb0] at d0
      have HA0 := Lib.hid ha0
      have HB0 := Lib.hid hb0
      clear ha0 hb0
      obtain ⟨a1, ha1⟩ : ∃ a : Int, a = p.2 := ⟨_, rfl⟩
      obtain ⟨b1, hb1⟩ : ∃ b : Int, b = q.2 := ⟨_, rfl⟩
      rw [← ha1] at c1
      rw [← hb1] at d1
      have HA1 := Lib.hid ha1
      have HB1 := Lib.hid hb1
      clear ha1 hb1
      by_cases h0 : a0 = b0
      · subst h0
        have e0 : (a0 != a0) = false := by simp
        have f0 : (a0 == a0) = true := by simp
        by_cases h1 : a1 = b1
        · subst h1
          have e1 : (a1 != a1) = false := by simp
          have f1 : (a1 == a1) = true := by simp
          have HF := Lib.hid (show linkE p q = true by unfold linkE; rw [← HA0.out, ← HB0.out, ← HA1.out, ← HB1.out]; simp)
          go_wp2
          go_quiet (fail)
          go_wp2
          go_roundw
          case rel => exact ⟨k + 1, by go_num, by omega, Lib.hid (fun j x y hj hx hy => by
            rcases Nat.lt_or_ge j k with h | h
            · exact HE.out j x y h hx hy
            · obtain rfl : j = k := by omega
              rw [HP.out.1] at hx
              rw [HP.out.2] at hy
              cases hx
              cases hy
              exact HF.out), Lib.hid (bel_drewN HB.out _), Lib.hid (HX.out.drewN _), Lib.hid (HY.out.drewN _), Lib.hid (HN.out.below (bel_drewN (Below.refl _ _) _)), Lib.hid (HM.out.below (bel_drewN (Below.refl _ _) _))⟩
          case measure => simp [intOf]; omega
        · have e1 : (a1 != b1) = true := by rw [bne_iff_ne]; exact h1
          have f1 : (a1 == b1) = false := by rw [beq_eq_false_iff_ne]; exact h1
          have HF := Lib.hid (show linkE p q = false by unfold linkE; rw [← HA0.out, ← HB0.out, ← HA1.out, ← HB1.out]; simp [h1])
          have hkeep1 := h1
          go_wp2
          go_quiet (fail)
          go_wp2
          go_light
          go_ret
          exact ⟨by rw [HV.out, eqL_no HP.out.1 HP.out.2 HF.out]; rfl, bel_drewN HB.out _⟩
      · have e0 : (a0 != b0) = true := by rw [bne_iff_ne]; exact h0
        have f0 : (a0 == b0) = false := by rw [beq_eq_false_iff_ne]; exact h0
        have HF := Lib.hid (show linkE p q = false by unfold linkE; rw [← HA0.out, ← HB0.out, ← HA1.out, ← HB1.out]; simp [h0])
        have hkeep0 := h0
        go_wp2
        go_quiet (fail)
        go_wp2
        go_light
        go_ret
        exact ⟨by rw [HV.out, eqL_no HP.out.1 HP.out.2 HF.out]; rfl, bel_drewN HB.out _⟩
    · obtain rfl : k = N.links.length := by omega
      have hdl : ¬ ((N.links.length : Int) < (N.links.length : Int)) := by omega
      have HE0 := Lib.hid (eqL_yes HL0.out HE.out)
      clear HE hlt hk
      go_wp2
      clear x2 y2 hdl lx ly
      go_loopw [6] (fun i wr => ∃ k : Nat, i = .int .i64 (k : Int) ∧ k ≤ N.edges.length ∧ Hid (∀ j x y, j < k → N.edges[j]? = some x → M.edges[j]? = some y → edgeE x y = true) ∧ Hid (Below w.heap.size w wr) ∧ Hid (Blk wr w.heap.size 50 #[.int .i64 N.states, .int .i64 N.start, .slice A1 N.links.length k1, .slice A2 N.edges.length k2, .slice A3 N.accept.length k3]) ∧ Hid (Blk wr (w.heap.size + 1) 50 #[.int .i64 M.states, .int .i64 M.start, .slice B1 M.links.length j1, .slice B2 M.edges.length j2, .slice B3 M.accept.length j3]) ∧ Hid (NfaAt wr N A1 A2 A3) ∧ Hid (NfaAt wr M B1 B2 B3)) (fun i _ => N.edges.length - (intOf i).toNat)
      case atStart => exact ⟨0, rfl, Nat.zero_le _, Lib.hid (fun j x y hj => by omega), HB, HX, HY, HN, HM⟩
      case round =>
        clear HB HX HY HN HM
        obtain ⟨k, rfl, hk, HE, HB, HX, HY, HN, HM⟩ := hrel
        have x3 := HX.out.cell 3
        have y3 := HY.out.cell 3
        have lx := HX.out.lt
        have ly := HY.out.lt
        by_cases hlt : k < N.edges.length
        · obtain ⟨p, hp⟩ : ∃ p, N.edges[k]? = some p := ⟨_, List.getElem?_eq_getElem hlt⟩
          have hlt2 : k < M.edges.length := by rw [← HL1.out]; exact hlt
          obtain ⟨q, hq⟩ : ∃ q, M.edges[k]? = some q := ⟨_, List.getElem?_eq_getElem hlt2⟩
          obtain ⟨b, o, hAb, c0, c1, c2, c3, c4, c5⟩ := HN.out.e k p hp
          obtain ⟨b', o', hBb, d0, d1, d2, d3, d4, d5⟩ := HM.out.e k q hq
          subst hAb
          subst hBb
          have hdl : (k : Int) < (N.edges.length : Int) := by omega
          have hdl2 : (k : Int) < (M.edges.length : Int) := by omega
          have hb := World.block_lt_of_cell? wr _ c0
          have hb' := World.block_lt_of_cell? wr _ d0
          have HP := Lib.hid (show _ ∧ _ from ⟨hp, hq⟩)
          clear hp hq
          obtain ⟨a0, ha0⟩ : ∃ a : Int, a = p.1 := ⟨_, rfl⟩
          obtain ⟨b0, hb0⟩ : ∃ b : Int, b = q.1 := ⟨_, rfl⟩
          rw [← ha0] at c0
          rw [← hb0] at d0
          have HA0 := Lib.hid ha0
          have HB0 := Lib.hid hb0
          clear ha0 hb0
          obtain ⟨a1, ha1⟩ : ∃ a : Int, a = ((word p.2.1.testBit 0 : Nat) : Int) := ⟨_, rfl⟩
          obtain ⟨b1, hb1⟩ : ∃ b : Int, b = ((word q.2.1.testBit 0 : Nat) : Int) := ⟨_, rfl⟩
          rw [← ha1] at c1
          rw [← hb1] at d1
          have HA1 := Lib.hid ha1
          have HB1 := Lib.hid hb1
          clear ha1 hb1
          obtain ⟨a2, ha2⟩ : ∃ a : Int, a = ((word p.2.1.testBit 1 : Nat) : Int) := ⟨_, rfl⟩
          obtain ⟨b2, hb2⟩ : ∃ b : Int, b = ((word q.2.1.testBit 1 : Nat) : Int) := ⟨_, rfl⟩
          rw [← ha2] at c2
          rw [← hb2] at d2
          have HA2 := Lib.hid ha2
          have HB2 := Lib.hid hb2
          clear ha2 hb2
          obtain ⟨a3, ha3⟩ : ∃ a : Int, a = ((word p.2.1.testBit 2 : Nat) : Int) := ⟨_, rfl⟩
          obtain ⟨b3, hb3⟩ : ∃ b : Int, b = ((word q.2.1.testBit 2 : Nat) : Int) := ⟨_, rfl⟩
          rw [← ha3] at c3
          rw [← hb3] at d3
          have HA3 := Lib.hid ha3
          have HB3 := Lib.hid hb3
          clear ha3 hb3
          obtain ⟨a4, ha4⟩ : ∃ a : Int, a = ((word p.2.1.testBit 3 : Nat) : Int) := ⟨_, rfl⟩
          obtain ⟨b4, hb4⟩ : ∃ b : Int, b = ((word q.2.1.testBit 3 : Nat) : Int) := ⟨_, rfl⟩
          rw [← ha4] at c4
          rw [← hb4] at d4
          have HA4 := Lib.hid ha4
          have HB4 := Lib.hid hb4
          clear ha4 hb4
          obtain ⟨a5, ha5⟩ : ∃ a : Int, a = p.2.2 := ⟨_, rfl⟩
          obtain ⟨b5, hb5⟩ : ∃ b : Int, b = q.2.2 := ⟨_, rfl⟩
          rw [← ha5] at c5
          rw [← hb5] at d5
          have HA5 := Lib.hid ha5
          have HB5 := Lib.hid hb5
          clear ha5 hb5
          by_cases h0 : a0 = b0
          · subst h0
            have e0 : (a0 != a0) = false := by simp
            have f0 : (a0 == a0) = true := by simp
            by_cases h1 : a1 = b1
            · subst h1
              have e1 : (a1 != a1) = false := by simp
              have f1 : (a1 == a1) = true := by simp
              by_cases h2 : a2 = b2
              · subst h2
                have e2 : (a2 != a2) = false := by simp
                have f2 : (a2 == a2) = true := by simp
                by_cases h3 : a3 = b3
                · subst h3
                  have e3 : (a3 != a3) = false := by simp
                  have f3 : (a3 == a3) = true := by simp
                  by_cases h4 : a4 = b4
                  · subst h4
                    have e4 : (a4 != a4) = false := by simp
                    have f4 : (a4 == a4) = true := by simp
                    by_cases h5 : a5 = b5
                    · subst h5
                      have e5 : (a5 != a5) = false := by simp
                      have f5 : (a5 == a5) = true := by simp
                      have HF := Lib.hid (show edgeE p q = true by unfold edgeE; rw [← HA0.out, ← HB0.out, ← HA1.out, ← HB1.out, ← HA2.out, ← HB2.out, ← HA3.out, ← HB3.out, ← HA4.out, ← HB4.out, ← HA5.out, ← HB5.out]; simp)
                      go_wp2
                      go_quiet (fail)
                      go_wp2
                      go_roundw
                      case rel => exact ⟨k + 1, by go_num, by omega, Lib.hid (fun j x y hj hx hy => by
                        rcases Nat.lt_or_ge j k with h | h
                        · exact HE.out j x y h hx hy
                        · obtain rfl : j = k := by omega
                          rw [HP.out.1] at hx
                          rw [HP.out.2] at hy
                          cases hx
                          cases hy
                          exact HF.out), Lib.hid (bel_drewN HB.out _), Lib.hid (HX.out.drewN _), Lib.hid (HY.out.drewN _), Lib.hid (HN.out.below (bel_drewN (Below.refl _ _) _)), Lib.hid (HM.out.below (bel_drewN (Below.refl _ _) _))⟩
                      case measure => simp [intOf]; omega
                    · have e5 : (a5 != b5) = true := by rw [bne_iff_ne]; exact h5
                      have f5 : (a5 == b5) = false := by rw [beq_eq_false_iff_ne]; exact h5
                      have HF := Lib.hid (show edgeE p q = false by unfold edgeE; rw [← HA0.out, ← HB0.out, ← HA1.out, ← HB1.out, ← HA2.out, ← HB2.out, ← HA3.out, ← HB3.out, ← HA4.out, ← HB4.out, ← HA5.out, ← HB5.out]; simp [h5])
                      have hkeep5 := h5
                      go_wp2
                      go_quiet (fail)
                      go_wp2
                      go_light
                      go_ret
                      exact ⟨by rw [HV.out, HE0.out, eqL_no HP.out.1 HP.out.2 HF.out]; rfl, bel_drewN HB.out _⟩
                  · have e4 : (a4 != b4) = true := by rw [bne_iff_ne]; exact h4
                    have f4 : (a4 == b4) = false := by rw [beq_eq_false_iff_ne]; exact h4
                    have HF := Lib.hid (show edgeE p q = false by unfold edgeE; rw [← HA0.out, ← HB0.out, ← HA1.out, ← HB1.out, ← HA2.out, ← HB2.out, ← HA3.out, ← HB3.out, ← HA4.out, ← HB4.out, ← HA5.out, ← HB5.out]; simp [h4])
                    have hkeep4 := h4
                    go_wp2
                    go_quiet (fail)
                    go_wp2
                    go_light
                    go_ret
                    exact ⟨by rw [HV.out, HE0.out, eqL_no HP.out.1 HP.out.2 HF.out]; rfl, bel_drewN HB.out _⟩
                · have e3 : (a3 != b3) = true := by rw [bne_iff_ne]; exact h3
                  have f3 : (a3 == b3) = false := by rw [beq_eq_false_iff_ne]; exact h3
                  have HF := Lib.hid (show edgeE p q = false by unfold edgeE; rw [← HA0.out, ← HB0.out, ← HA1.out, ← HB1.out, ← HA2.out, ← HB2.out, ← HA3.out, ← HB3.out, ← HA4.out, ← HB4.out, ← HA5.out, ← HB5.out]; simp [h3])
                  have hkeep3 := h3
                  go_wp2
                  go_quiet (fail)
                  go_wp2
                  go_light
                  go_ret
                  exact ⟨by rw [HV.out, HE0.out, eqL_no HP.out.1 HP.out.2 HF.out]; rfl, bel_drewN HB.out _⟩
              · have e2 : (a2 != b2) = true := by rw [bne_iff_ne]; exact h2
                have f2 : (a2 == b2) = false := by rw [beq_eq_false_iff_ne]; exact h2
                have HF := Lib.hid (show edgeE p q = false by unfold edgeE; rw [← HA0.out, ← HB0.out, ← HA1.out, ← HB1.out, ← HA2.out, ← HB2.out, ← HA3.out, ← HB3.out, ← HA4.out, ← HB4.out, ← HA5.out, ← HB5.out]; simp [h2])
                have hkeep2 := h2
                go_wp2
                go_quiet (fail)
                go_wp2
                go_light
                go_ret
                exact ⟨by rw [HV.out, HE0.out, eqL_no HP.out.1 HP.out.2 HF.out]; rfl, bel_drewN HB.out _⟩
            · have e1 : (a1 != b1) = true := by rw [bne_iff_ne]; exact h1
              have f1 : (a1 == b1) = false := by rw [beq_eq_false_iff_ne]; exact h1
              have HF := Lib.hid (show edgeE p q = false by unfold edgeE; rw [← HA0.out, ← HB0.out, ← HA1.out, ← HB1.out, ← HA2.out, ← HB2.out, ← HA3.out, ← HB3.out, ← HA4.out, ← HB4.out, ← HA5.out, ← HB5.out]; simp [h1])
              have hkeep1 := h1
              go_wp2
              go_quiet (fail)
              go_wp2
              go_light
              go_ret
              exact ⟨by rw [HV.out, HE0.out, eqL_no HP.out.1 HP.out.2 HF.out]; rfl, bel_drewN HB.out _⟩
          · have e0 : (a0 != b0) = true := by rw [bne_iff_ne]; exact h0
            have f0 : (a0 == b0) = false := by rw [beq_eq_false_iff_ne]; exact h0
            have HF := Lib.hid (show edgeE p q = false by unfold edgeE; rw [← HA0.out, ← HB0.out, ← HA1.out, ← HB1.out, ← HA2.out, ← HB2.out, ← HA3.out, ← HB3.out, ← HA4.out, ← HB4.out, ← HA5.out, ← HB5.out]; simp [h0])
            have hkeep0 := h0
            go_wp2
            go_quiet (fail)
            go_wp2
            go_light
            go_ret
            exact ⟨by rw [HV.out, HE0.out, eqL_no HP.out.1 HP.out.2 HF.out]; rfl, bel_drewN HB.out _⟩
        · obtain rfl : k = N.edges.length := by omega
          have hdl : ¬ ((N.edges.length : Int) < (N.edges.length : Int)) := by omega
          have HE1 := Lib.hid (eqL_yes HL1.out HE.out)
          clear HE hlt hk
          go_wp2
          clear x3 y3 hdl lx ly
          go_loopw [7] (fun i wr => ∃ k : Nat, i = .int .i64 (k : Int) ∧ k ≤ N.accept.length ∧ Hid (∀ j x y, j < k → N.accept[j]? = some x → M.accept[j]? = some y → intE x y = true) ∧ Hid (Below w.heap.size w wr) ∧ Hid (Blk wr w.heap.size 50 #[.int .i64 N.states, .int .i64 N.start, .slice A1 N.links.length k1, .slice A2 N.edges.length k2, .slice A3 N.accept.length k3]) ∧ Hid (Blk wr (w.heap.size + 1) 50 #[.int .i64 M.states, .int .i64 M.start, .slice B1 M.links.length j1, .slice B2 M.edges.length j2, .slice B3 M.accept.length j3]) ∧ Hid (NfaAt wr N A1 A2 A3) ∧ Hid (NfaAt wr M B1 B2 B3)) (fun i _ => N.accept.length - (intOf i).toNat)
          case atStart => exact ⟨0, rfl, Nat.zero_le _, Lib.hid (fun j x y hj => by omega), HB, HX, HY, HN, HM⟩
          case round =>
            clear HB HX HY HN HM
            obtain ⟨k, rfl, hk, HE, HB, HX, HY, HN, HM⟩ := hrel
            have x4 := HX.out.cell 4
            have y4 := HY.out.cell 4
            have lx := HX.out.lt
            have ly := HY.out.lt
            by_cases hlt : k < N.accept.length
            · obtain ⟨p, hp⟩ : ∃ p, N.accept[k]? = some p := ⟨_, List.getElem?_eq_getElem hlt⟩
              have hlt2 : k < M.accept.length := by rw [← HL2.out]; exact hlt
              obtain ⟨q, hq⟩ : ∃ q, M.accept[k]? = some q := ⟨_, List.getElem?_eq_getElem hlt2⟩
              obtain ⟨b, o, hAb, c0⟩ := HN.out.a k p hp
              obtain ⟨b', o', hBb, d0⟩ := HM.out.a k q hq
              subst hAb
              subst hBb
              have hdl : (k : Int) < (N.accept.length : Int) := by omega
              have hdl2 : (k : Int) < (M.accept.length : Int) := by omega
              have hb := World.block_lt_of_cell? wr _ c0
              have hb' := World.block_lt_of_cell? wr _ d0
              have HP := Lib.hid (show _ ∧ _ from ⟨hp, hq⟩)
              clear hp hq
              obtain ⟨a0, ha0⟩ : ∃ a : Int, a = p := ⟨_, rfl⟩
              obtain ⟨b0, hb0⟩ : ∃ b : Int, b = q := ⟨_, rfl⟩
              rw [← ha0] at c0
              rw [← hb0] at d0
              have HA0 := Lib.hid ha0
              have HB0 := Lib.hid hb0
              clear ha0 hb0
              by_cases h0 : a0 = b0
              · subst h0
                have e0 : (a0 != a0) = false := by simp
                have f0 : (a0 == a0) = true := by simp
                have HF := Lib.hid (show intE p q = true by unfold intE; rw [← HA0.out, ← HB0.out]; simp)
                go_wp2
                go_quiet (fail)
                go_wp2
                go_roundw
                case rel => exact ⟨k + 1, by go_num, by omega, Lib.hid (fun j x y hj hx hy => by
                  rcases Nat.lt_or_ge j k with h | h
                  · exact HE.out j x y h hx hy
                  · obtain rfl : j = k := by omega
                    rw [HP.out.1] at hx
                    rw [HP.out.2] at hy
                    cases hx
                    cases hy
                    exact HF.out), Lib.hid (bel_drewN HB.out _), Lib.hid (HX.out.drewN _), Lib.hid (HY.out.drewN _), Lib.hid (HN.out.below (bel_drewN (Below.refl _ _) _)), Lib.hid (HM.out.below (bel_drewN (Below.refl _ _) _))⟩
                case measure => simp [intOf]; omega
              · have e0 : (a0 != b0) = true := by rw [bne_iff_ne]; exact h0
                have f0 : (a0 == b0) = false := by rw [beq_eq_false_iff_ne]; exact h0
                have HF := Lib.hid (show intE p q = false by unfold intE; rw [← HA0.out, ← HB0.out]; simp [h0])
                have hkeep0 := h0
                go_wp2
                go_quiet (fail)
                go_wp2
                go_light
                go_ret
                exact ⟨by rw [HV.out, HE0.out, HE1.out, eqL_no HP.out.1 HP.out.2 HF.out]; rfl, bel_drewN HB.out _⟩
            · obtain rfl : k = N.accept.length := by omega
              have hdl : ¬ ((N.accept.length : Int) < (N.accept.length : Int)) := by omega
              have HE2 := Lib.hid (eqL_yes HL2.out HE.out)
              clear HE hlt hk
              go_wp2
              go_light
              go_ret
              exact ⟨by rw [HV.out, HE0.out, HE1.out, HE2.out]; rfl, HB.out⟩
theorem rsame16_go (N M : NfaV) (A1 : Option Addr) (k1 : Nat) (A2 : Option Addr) (k2 : Nat) (A3 : Option Addr) (k3 : Nat) (B1 : Option Addr) (j1 : Nat) (B2 : Option Addr) (j2 : Nat) (B3 : Option Addr) (j3 : Nat) (w : World) (hN : NfaAt w N A1 A2 A3) (hM : NfaAt w M B1 B2 B3) : Calls Try.prog 21 #[.agg (nfA N A1 k1 A2 k2 A3 k3), .agg (nfA M B1 j1 B2 j2 B3 j3)] w fun e w' => e = .returned (.bool (sameN N M)) ∧ Below w.heap.size w w' := by
  by_cases h0 : N.states = M.states
  rotate_left
  · exact rsame_head0 N M A1 k1 A2 k2 A3 k3 B1 j1 B2 j2 B3 j3 w hN hM h0
  by_cases h1 : N.start = M.start
  rotate_left
  · exact rsame_head1 N M A1 k1 A2 k2 A3 k3 B1 j1 B2 j2 B3 j3 w hN hM h0 h1
  by_cases h2 : N.links.length = M.links.length
  rotate_left
  · exact rsame_head2 N M A1 k1 A2 k2 A3 k3 B1 j1 B2 j2 B3 j3 w hN hM h0 h1 h2
  by_cases h3 : N.edges.length = M.edges.length
  rotate_left
  · exact rsame_head3 N M A1 k1 A2 k2 A3 k3 B1 j1 B2 j2 B3 j3 w hN hM h0 h1 h2 h3
  by_cases h4 : N.accept.length = M.accept.length
  rotate_left
  · exact rsame_head4 N M A1 k1 A2 k2 A3 k3 B1 j1 B2 j2 B3 j3 w hN hM h0 h1 h2 h3 h4
  exact rsame_rows N M A1 k1 A2 k2 A3 k3 B1 j1 B2 j2 B3 j3 w hN hM h0 h1 h2 h3 h4
end Go.Proofs.Ytgbpcigfbpghgaa
namespace Go.Proofs.Ytgbpcigfbpghgaa
open Go.RowKit
set_option linter.unusedSimpArgs false
set_option linter.unusedVariables false
set_option maxRecDepth 100000

theorem rr_few (N : NfaV) (A1 : Option Addr) (k1 : Nat) (A2 : Option Addr) (k2 : Nat) (A3 : Option Addr) (k3 : Nat) (w : World) (hN : NfaAt w N A1 A2 A3) (h : N.states < 1) : Calls Try.prog 19 #[.agg (nfA N A1 k1 A2 k2 A3 k3)] w fun e w' => e = .returned (.bool (rightN N)) ∧ Below w.heap.size w w' := by
  have hb1 : Below w.heap.size w (w.alloc (.cells #[.int .i64 N.states, .int .i64 N.start, .slice A1 N.links.length k1, .slice A2 N.edges.length k2, .slice A3 N.accept.length k3] 50)) := (Below.refl _ _).alloc (Nat.le_refl _) _
  have HB := Lib.hid hb1
  have HX := Lib.hid (Blk.new w 50 #[.int .i64 N.states, .int .i64 N.start, .slice A1 N.links.length k1, .slice A2 N.edges.length k2, .slice A3 N.accept.length k3])
  have HN := Lib.hid (hN.below hb1)
  clear hb1 hN
  unfold nfA at *

  have HV := Lib.hid (rightN_head (N := N) (fun ⟨_, b, _⟩ => by have := isB_iff.1 b; omega))
  go_enter Try.func19, Try.ntmps19
  go_wp2

  go_light
  go_ret
  exact ⟨by rw [HV.out]; rfl, HB.out⟩

theorem rr_big (N : NfaV) (A1 : Option Addr) (k1 : Nat) (A2 : Option Addr) (k2 : Nat) (A3 : Option Addr) (k3 : Nat) (w : World) (hN : NfaAt w N A1 A2 A3) (h : 65536 < N.states) : Calls Try.prog 19 #[.agg (nfA N A1 k1 A2 k2 A3 k3)] w fun e w' => e = .returned (.bool (rightN N)) ∧ Below w.heap.size w w' := by
  have hb1 : Below w.heap.size w (w.alloc (.cells #[.int .i64 N.states, .int .i64 N.start, .slice A1 N.links.length k1, .slice A2 N.edges.length k2, .slice A3 N.accept.length k3] 50)) := (Below.refl _ _).alloc (Nat.le_refl _) _
  have HB := Lib.hid hb1
  have HX := Lib.hid (Blk.new w 50 #[.int .i64 N.states, .int .i64 N.start, .slice A1 N.links.length k1, .slice A2 N.edges.length k2, .slice A3 N.accept.length k3])
  have HN := Lib.hid (hN.below hb1)
  clear hb1 hN
  unfold nfA at *

  have HV := Lib.hid (rightN_head (N := N) (fun ⟨a, _, _⟩ => by omega))
  have d1 : decide (N.states < 1) = false := decide_eq_false (by omega)
  go_enter Try.func19, Try.ntmps19
  go_wp2

  go_light
  go_ret
  exact ⟨by rw [HV.out]; rfl, HB.out⟩

theorem rr_low (N : NfaV) (A1 : Option Addr) (k1 : Nat) (A2 : Option Addr) (k2 : Nat) (A3 : Option Addr) (k3 : Nat) (w : World) (hN : NfaAt w N A1 A2 A3) (h1 : 1 ≤ N.states) (h2 : N.states ≤ 65536) (h : N.start < 0) : Calls Try.prog 19 #[.agg (nfA N A1 k1 A2 k2 A3 k3)] w fun e w' => e = .returned (.bool (rightN N)) ∧ Below w.heap.size w w' := by
  have hb1 : Below w.heap.size w (w.alloc (.cells #[.int .i64 N.states, .int .i64 N.start, .slice A1 N.links.length k1, .slice A2 N.edges.length k2, .slice A3 N.accept.length k3] 50)) := (Below.refl _ _).alloc (Nat.le_refl _) _
  have HB := Lib.hid hb1
  have HX := Lib.hid (Blk.new w 50 #[.int .i64 N.states, .int .i64 N.start, .slice A1 N.links.length k1, .slice A2 N.edges.length k2, .slice A3 N.accept.length k3])
  have HN := Lib.hid (hN.below hb1)
  clear hb1 hN
  unfold nfA at *

  have HV := Lib.hid (rightN_head (N := N) (fun ⟨_, b, _⟩ => by have := isB_iff.1 b; omega))
  have d1 : decide (N.states < 1) = false := decide_eq_false (by omega)
  have d2 : decide (65536 < N.states) = false := decide_eq_false (by omega)
  go_enter Try.func19, Try.ntmps19
  go_wp2

  go_light
  go_ret
  exact ⟨by rw [HV.out]; rfl, HB.out⟩

theorem rr_high (N : NfaV) (A1 : Option Addr) (k1 : Nat) (A2 : Option Addr) (k2 : Nat) (A3 : Option Addr) (k3 : Nat) (w : World) (hN : NfaAt w N A1 A2 A3) (h1 : 1 ≤ N.states) (h2 : N.states ≤ 65536) (h3 : 0 ≤ N.start) (h : N.states ≤ N.start) : Calls Try.prog 19 #[.agg (nfA N A1 k1 A2 k2 A3 k3)] w fun e w' => e = .returned (.bool (rightN N)) ∧ Below w.heap.size w w' := by
  have hb1 : Below w.heap.size w (w.alloc (.cells #[.int .i64 N.states, .int .i64 N.start, .slice A1 N.links.length k1, .slice A2 N.edges.length k2, .slice A3 N.accept.length k3] 50)) := (Below.refl _ _).alloc (Nat.le_refl _) _
  have HB := Lib.hid hb1
  have HX := Lib.hid (Blk.new w 50 #[.int .i64 N.states, .int .i64 N.start, .slice A1 N.links.length k1, .slice A2 N.edges.length k2, .slice A3 N.accept.length k3])
  have HN := Lib.hid (hN.below hb1)
  clear hb1 hN
  unfold nfA at *

  have HV := Lib.hid (rightN_head (N := N) (fun ⟨_, b, _⟩ => by have := isB_iff.1 b; omega))
  have d1 : decide (N.states < 1) = false := decide_eq_false (by omega)
  have d2 : decide (65536 < N.states) = false := decide_eq_false (by omega)
  have d3 : decide (N.start < 0) = false := decide_eq_false (by omega)
  go_enter Try.func19, Try.ntmps19
  go_wp2

  go_light
  go_ret
  exact ⟨by rw [HV.out]; rfl, HB.out⟩

theorem rr_len (N : NfaV) (A1 : Option Addr) (k1 : Nat) (A2 : Option Addr) (k2 : Nat) (A3 : Option Addr) (k3 : Nat) (w : World) (hN : NfaAt w N A1 A2 A3) (h1 : 1 ≤ N.states) (h2 : N.states ≤ 65536) (h3 : 0 ≤ N.start) (h4 : N.start < N.states) (h : (N.accept.length : Int) ≠ N.states) : Calls Try.prog 19 #[.agg (nfA N A1 k1 A2 k2 A3 k3)] w fun e w' => e = .returned (.bool (rightN N)) ∧ Below w.heap.size w w' := by
  have hb1 : Below w.heap.size w (w.alloc (.cells #[.int .i64 N.states, .int .i64 N.start, .slice A1 N.links.length k1, .slice A2 N.edges.length k2, .slice A3 N.accept.length k3] 50)) := (Below.refl _ _).alloc (Nat.le_refl _) _
  have HB := Lib.hid hb1
  have HX := Lib.hid (Blk.new w 50 #[.int .i64 N.states, .int .i64 N.start, .slice A1 N.links.length k1, .slice A2 N.edges.length k2, .slice A3 N.accept.length k3])
  have HN := Lib.hid (hN.below hb1)
  clear hb1 hN
  unfold nfA at *

  have HV := Lib.hid (rightN_head (N := N) (fun ⟨_, _, b⟩ => h b))
  have d1 : decide (N.states < 1) = false := decide_eq_false (by omega)
  have d2 : decide (65536 < N.states) = false := decide_eq_false (by omega)
  have d3 : decide (N.start < 0) = false := decide_eq_false (by omega)
  have d4 : decide (N.states ≤ N.start) = false := decide_eq_false (by omega)
  have d5 : ((N.accept.length : Int) != N.states) = true := by rw [bne_iff_ne]; exact h
  clear h
  go_enter Try.func19, Try.ntmps19
  go_wp2

  go_light
  go_ret
  exact ⟨by rw [HV.out]; rfl, HB.out⟩

set_option maxHeartbeats 8000000 in
theorem rr_rows (N : NfaV) (A1 : Option Addr) (k1 : Nat) (A2 : Option Addr) (k2 : Nat) (A3 : Option Addr) (k3 : Nat) (w : World) (hN : NfaAt w N A1 A2 A3) (h1 : 1 ≤ N.states) (h2 : N.states ≤ 65536) (h3 : 0 ≤ N.start) (h4 : N.start < N.states) (h : (N.accept.length : Int) = N.states) : Calls Try.prog 19 #[.agg (nfA N A1 k1 A2 k2 A3 k3)] w fun e w' => e = .returned (.bool (rightN N)) ∧ Below w.heap.size w w' := by
  have hb1 : Below w.heap.size w (w.alloc (.cells #[.int .i64 N.states, .int .i64 N.start, .slice A1 N.links.length k1, .slice A2 N.edges.length k2, .slice A3 N.accept.length k3] 50)) := (Below.refl _ _).alloc (Nat.le_refl _) _
  have HB := Lib.hid hb1
  have HX := Lib.hid (Blk.new w 50 #[.int .i64 N.states, .int .i64 N.start, .slice A1 N.links.length k1, .slice A2 N.edges.length k2, .slice A3 N.accept.length k3])
  have HN := Lib.hid (hN.below hb1)
  clear hb1 hN
  unfold nfA at *

  have HV := Lib.hid (rightN_tail h2 (isB_iff.2 ⟨h3, h4⟩) h)
  have d1 : decide (N.states < 1) = false := decide_eq_false (by omega)
  have d2 : decide (65536 < N.states) = false := decide_eq_false (by omega)
  have d3 : decide (N.start < 0) = false := decide_eq_false (by omega)
  have d4 : decide (N.states ≤ N.start) = false := decide_eq_false (by omega)
  have d5 : ((N.accept.length : Int) != N.states) = false := by rw [bne_eq_false_iff_eq]; exact h
  have hll := HN.out.ll
  have hel := HN.out.el
  have hal := HN.out.al
  clear h
  go_enter Try.func19, Try.ntmps19
  go_wp2

  clear d1 d2 d3 d4 d5
  go_loopw [3] (fun i' wr => ∃ k : Nat, i' = .int .i64 (k : Int) ∧ k ≤ N.links.length ∧ Hid (∀ j z, j < k → N.links[j]? = some z → linkB N.states z = true) ∧ Hid (Below w.heap.size w wr) ∧ Hid (Blk wr w.heap.size 50 #[.int .i64 N.states, .int .i64 N.start, .slice A1 N.links.length k1, .slice A2 N.edges.length k2, .slice A3 N.accept.length k3]) ∧ Hid (NfaAt wr N A1 A2 A3)) (fun i' _ => N.links.length - (intOf i').toNat)
  case atStart => exact ⟨0, rfl, Nat.zero_le _, Lib.hid (fun j z hj => by omega), HB, HX, HN⟩
  case round =>
    clear HB HX HN
    obtain ⟨k, rfl, hk, HR, HB, HX, HN⟩ := hrel
    have hlx := HX.out.lt
    have x2 := HX.out.cell 2
    have x0 := HX.out.cell 0
    by_cases hlt : k < N.links.length
    · obtain ⟨p, hp⟩ : ∃ p, N.links[k]? = some p := ⟨_, List.getElem?_eq_getElem hlt⟩
      obtain ⟨b, o, rfl, c0, c1⟩ := HN.out.l k p hp
      have hdl : (k : Int) < (N.links.length : Int) := by omega
      have hblk := World.block_lt_of_cell? wr _ c0
      have hbA : Below wr.heap.size wr (wr.alloc (.cells #[.int .i64 p.1, .int .i64 p.2] 55)) := (Below.refl _ _).alloc (Nat.le_refl _) _
      have HXA := Lib.hid (HX.out.alloc (.cells #[.int .i64 p.1, .int .i64 p.2] 55))
      have HNA := Lib.hid (HN.out.below hbA)
      have HBA := Lib.hid (HB.out.trans (hbA.mono HB.out.size))
      have HP := Lib.hid hp
      clear hp hbA
      rcases Int.lt_or_le p.1 0 with hv1 | hv1
      · have HI := Lib.hid (isB_no.2 (.inl hv1) : isB N.states p.1 = false)
        have HF := Lib.hid (all_no HP.out (show linkB N.states p = false by unfold linkB; rw [HI.out]; rfl))
        go_wp2
        go_light
        go_ret
        exact ⟨by rw [HV.out, HF.out]; simp, HBA.out⟩
      have d1 : decide (p.1 < 0) = false := decide_eq_false (by omega)
      rcases Int.lt_or_le p.1 N.states with hv2 | hv2
      rotate_left
      · have HI := Lib.hid (isB_no.2 (.inr hv2) : isB N.states p.1 = false)
        have HF := Lib.hid (all_no HP.out (show linkB N.states p = false by unfold linkB; rw [HI.out]; rfl))
        go_wp2
        go_light
        go_ret
        exact ⟨by rw [HV.out, HF.out]; simp, HBA.out⟩
      have HI1 := Lib.hid (isB_iff.2 ⟨hv1, hv2⟩ : isB N.states p.1 = true)
      have d2 : decide (N.states ≤ p.1) = false := decide_eq_false (by omega)
      rcases Int.lt_or_le p.2 0 with hv3 | hv3
      · have HI := Lib.hid (isB_no.2 (.inl hv3) : isB N.states p.2 = false)
        have HF := Lib.hid (all_no HP.out (show linkB N.states p = false by unfold linkB; rw [HI.out, Bool.and_false]))
        go_wp2
        go_light
        go_ret
        exact ⟨by rw [HV.out, HF.out]; simp, HBA.out⟩
      have d3 : decide (p.2 < 0) = false := decide_eq_false (by omega)
      rcases Int.lt_or_le p.2 N.states with hv4 | hv4
      rotate_left
      · have HI := Lib.hid (isB_no.2 (.inr hv4) : isB N.states p.2 = false)
        have HF := Lib.hid (all_no HP.out (show linkB N.states p = false by unfold linkB; rw [HI.out, Bool.and_false]))
        go_wp2
        go_light
        go_ret
        exact ⟨by rw [HV.out, HF.out]; simp, HBA.out⟩
      have HI2 := Lib.hid (isB_iff.2 ⟨hv3, hv4⟩ : isB N.states p.2 = true)
      have d4 : decide (N.states ≤ p.2) = false := decide_eq_false (by omega)
      have HF := Lib.hid (show linkB N.states p = true by unfold linkB; rw [HI1.out, HI2.out]; rfl)
      go_wp2
      go_roundw
      case rel => exact ⟨k + 1, by go_num, by omega, Lib.hid (fun j y hj hy => by
        rcases Nat.lt_or_ge j k with h | h
        · exact HR.out j y h hy
        · obtain rfl : j = k := by omega
          rw [HP.out] at hy
          cases hy
          exact HF.out), HBA, HXA, HNA⟩
      case measure => simp [intOf]; omega
    · obtain rfl : k = N.links.length := by omega
      have hdl : ¬ ((N.links.length : Int) < (N.links.length : Int)) := by omega
      have HLL := Lib.hid (all_yes (f := linkB N.states) HR.out)
      clear HR hlt hk
      go_wp2
      clear x2 x0 hdl hlx
      go_loopw [5] (fun i' wr => ∃ k : Nat, i' = .int .i64 (k : Int) ∧ k ≤ N.edges.length ∧ Hid (∀ j z, j < k → N.edges[j]? = some z → edgeB N.states z = true) ∧ Hid (Below w.heap.size w wr) ∧ Hid (Blk wr w.heap.size 50 #[.int .i64 N.states, .int .i64 N.start, .slice A1 N.links.length k1, .slice A2 N.edges.length k2, .slice A3 N.accept.length k3]) ∧ Hid (NfaAt wr N A1 A2 A3)) (fun i' _ => N.edges.length - (intOf i').toNat)
      case atStart => exact ⟨0, rfl, Nat.zero_le _, Lib.hid (fun j z hj => by omega), HB, HX, HN⟩
      case round =>
        clear HB HX HN
        obtain ⟨k, rfl, hk, HR, HB, HX, HN⟩ := hrel
        have hlx := HX.out.lt
        have x3 := HX.out.cell 3
        have x0 := HX.out.cell 0
        by_cases hlt : k < N.edges.length
        · obtain ⟨p, hp⟩ : ∃ p, N.edges[k]? = some p := ⟨_, List.getElem?_eq_getElem hlt⟩
          obtain ⟨b, o, rfl, c0, c1, c2, c3, c4, c5⟩ := HN.out.e k p hp
          have hdl : (k : Int) < (N.edges.length : Int) := by omega
          have hblk := World.block_lt_of_cell? wr _ c0
          have hbA : Below wr.heap.size wr (wr.alloc (.cells #[.int .i64 p.1, .int .u64 ((word (p.2.1.testBit) 0 : Nat) : Int), .int .u64 ((word (p.2.1.testBit) 1 : Nat) : Int), .int .u64 ((word (p.2.1.testBit) 2 : Nat) : Int), .int .u64 ((word (p.2.1.testBit) 3 : Nat) : Int), .int .i64 p.2.2] 57)) := (Below.refl _ _).alloc (Nat.le_refl _) _
          have HXA := Lib.hid (HX.out.alloc (.cells #[.int .i64 p.1, .int .u64 ((word (p.2.1.testBit) 0 : Nat) : Int), .int .u64 ((word (p.2.1.testBit) 1 : Nat) : Int), .int .u64 ((word (p.2.1.testBit) 2 : Nat) : Int), .int .u64 ((word (p.2.1.testBit) 3 : Nat) : Int), .int .i64 p.2.2] 57))
          have HNA := Lib.hid (HN.out.below hbA)
          have HBA := Lib.hid (HB.out.trans (hbA.mono HB.out.size))
          have HP := Lib.hid hp
          clear hp hbA
          rcases Int.lt_or_le p.1 0 with hv1 | hv1
          · have HI := Lib.hid (isB_no.2 (.inl hv1) : isB N.states p.1 = false)
            have HF := Lib.hid (all_no HP.out (show edgeB N.states p = false by unfold edgeB; rw [HI.out]; rfl))
            go_wp2
            go_light
            go_ret
            exact ⟨by rw [HV.out, HF.out]; simp, HBA.out⟩
          have d1 : decide (p.1 < 0) = false := decide_eq_false (by omega)
          rcases Int.lt_or_le p.1 N.states with hv2 | hv2
          rotate_left
          · have HI := Lib.hid (isB_no.2 (.inr hv2) : isB N.states p.1 = false)
            have HF := Lib.hid (all_no HP.out (show edgeB N.states p = false by unfold edgeB; rw [HI.out]; rfl))
            go_wp2
            go_light
            go_ret
            exact ⟨by rw [HV.out, HF.out]; simp, HBA.out⟩
          have HI1 := Lib.hid (isB_iff.2 ⟨hv1, hv2⟩ : isB N.states p.1 = true)
          have d2 : decide (N.states ≤ p.1) = false := decide_eq_false (by omega)
          rcases Int.lt_or_le p.2.2 0 with hv3 | hv3
          · have HI := Lib.hid (isB_no.2 (.inl hv3) : isB N.states p.2.2 = false)
            have HF := Lib.hid (all_no HP.out (show edgeB N.states p = false by unfold edgeB; rw [HI.out, Bool.and_false]))
            go_wp2
            go_light
            go_ret
            exact ⟨by rw [HV.out, HF.out]; simp, HBA.out⟩
          have d3 : decide (p.2.2 < 0) = false := decide_eq_false (by omega)
          rcases Int.lt_or_le p.2.2 N.states with hv4 | hv4
          rotate_left
          · have HI := Lib.hid (isB_no.2 (.inr hv4) : isB N.states p.2.2 = false)
            have HF := Lib.hid (all_no HP.out (show edgeB N.states p = false by unfold edgeB; rw [HI.out, Bool.and_false]))
            go_wp2
            go_light
            go_ret
            exact ⟨by rw [HV.out, HF.out]; simp, HBA.out⟩
          have HI2 := Lib.hid (isB_iff.2 ⟨hv3, hv4⟩ : isB N.states p.2.2 = true)
          have d4 : decide (N.states ≤ p.2.2) = false := decide_eq_false (by omega)
          have HF := Lib.hid (show edgeB N.states p = true by unfold edgeB; rw [HI1.out, HI2.out]; rfl)
          go_wp2
          go_roundw
          case rel => exact ⟨k + 1, by go_num, by omega, Lib.hid (fun j y hj hy => by
            rcases Nat.lt_or_ge j k with h | h
            · exact HR.out j y h hy
            · obtain rfl : j = k := by omega
              rw [HP.out] at hy
              cases hy
              exact HF.out), HBA, HXA, HNA⟩
          case measure => simp [intOf]; omega
        · obtain rfl : k = N.edges.length := by omega
          have hdl : ¬ ((N.edges.length : Int) < (N.edges.length : Int)) := by omega
          have HEE := Lib.hid (all_yes (f := edgeB N.states) HR.out)
          clear HR hlt hk
          go_wp2
          clear x3 x0 hdl hlx
          go_loopw [7] (fun i' wr => ∃ k : Nat, i' = .int .i64 (k : Int) ∧ k ≤ N.accept.length ∧ Hid (∀ j z, j < k → N.accept[j]? = some z → accB z = true) ∧ Hid (Below w.heap.size w wr) ∧ Hid (Blk wr w.heap.size 50 #[.int .i64 N.states, .int .i64 N.start, .slice A1 N.links.length k1, .slice A2 N.edges.length k2, .slice A3 N.accept.length k3]) ∧ Hid (NfaAt wr N A1 A2 A3)) (fun i' _ => N.accept.length - (intOf i').toNat)
          case atStart => exact ⟨0, rfl, Nat.zero_le _, Lib.hid (fun j z hj => by omega), HB, HX, HN⟩
          case round =>
            clear HB HX HN
            obtain ⟨k, rfl, hk, HR, HB, HX, HN⟩ := hrel
            have hlx := HX.out.lt
            have x4 := HX.out.cell 4
            by_cases hlt : k < N.accept.length
            · obtain ⟨a, ha⟩ : ∃ a, N.accept[k]? = some a := ⟨_, List.getElem?_eq_getElem hlt⟩
              obtain ⟨b, o, rfl, c0⟩ := HN.out.a k a ha
              have hdl : (k : Int) < (N.accept.length : Int) := by omega
              have hblk := World.block_lt_of_cell? wr _ c0
              have HP := Lib.hid ha
              clear ha
              rcases Int.lt_or_le a 0 with hv1 | hv1
              · have HF := Lib.hid (all_no HP.out (accB_no.2 (.inl hv1)))
                go_wp2
                go_light
                go_ret
                exact ⟨by rw [HV.out, HF.out]; simp, HB.out⟩
              have d1 : decide (a < 0) = false := decide_eq_false (by omega)
              rcases Int.lt_or_le 64 a with hv2 | hv2
              · have HF := Lib.hid (all_no HP.out (accB_no.2 (.inr hv2)))
                go_wp2
                go_light
                go_ret
                exact ⟨by rw [HV.out, HF.out]; simp, HB.out⟩
              have d2 : decide (64 < a) = false := decide_eq_false (by omega)
              have HF := Lib.hid (show accB a = true by unfold accB; rw [decide_eq_true hv1, decide_eq_true hv2]; rfl)
              go_wp2
              go_roundw
              case rel => exact ⟨k + 1, by go_num, by omega, Lib.hid (fun j y hj hy => by
                rcases Nat.lt_or_ge j k with h | h
                · exact HR.out j y h hy
                · obtain rfl : j = k := by omega
                  rw [HP.out] at hy
                  cases hy
                  exact HF.out), HB, HX, HN⟩
              case measure => simp [intOf]; omega
            · obtain rfl : k = N.accept.length := by omega
              have hdl : ¬ ((N.accept.length : Int) < (N.accept.length : Int)) := by omega
              have HAA := Lib.hid (all_yes (f := accB) HR.out)
              clear HR hlt hk
              go_wp2
              go_light
              go_ret
              exact ⟨by rw [HV.out, HLL.out, HEE.out, HAA.out]; rfl, HB.out⟩
/-- The reference's Right of chapter 16. -/
theorem rright16_go (N : NfaV) (A1 : Option Addr) (k1 : Nat) (A2 : Option Addr) (k2 : Nat) (A3 : Option Addr) (k3 : Nat) (w : World) (hN : NfaAt w N A1 A2 A3) : Calls Try.prog 19 #[.agg (nfA N A1 k1 A2 k2 A3 k3)] w fun e w' => e = .returned (.bool (rightN N)) ∧ Below w.heap.size w w' := by
  rcases Int.lt_or_le N.states 1 with h | h1
  · exact rr_few N A1 k1 A2 k2 A3 k3 w hN h
  rcases Int.lt_or_le 65536 N.states with h | h2
  · exact rr_big N A1 k1 A2 k2 A3 k3 w hN h
  rcases Int.lt_or_le N.start 0 with h | h3
  · exact rr_low N A1 k1 A2 k2 A3 k3 w hN h1 h2 h
  rcases Int.lt_or_le N.start N.states with h4 | h
  rotate_left
  · exact rr_high N A1 k1 A2 k2 A3 k3 w hN h1 h2 h3 h
  by_cases h : (N.accept.length : Int) = N.states
  · exact rr_rows N A1 k1 A2 k2 A3 k3 w hN h1 h2 h3 h4 h
  · exact rr_len N A1 k1 A2 k2 A3 k3 w hN h1 h2 h3 h4 h
end Go.Proofs.Ytgbpcigfbpghgaa
