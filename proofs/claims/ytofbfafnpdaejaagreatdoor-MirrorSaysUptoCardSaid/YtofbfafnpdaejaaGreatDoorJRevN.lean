/- Texts of the claim. -/
import Derived.Test.YtofbfafnpdaejaaGreatDoorJRevB
import Derived.Test.YtofbfafnpdaejaaGreatDoorJZ01
namespace Go.Proofs.YtofbfafnpdaejaaGreatDoor
open Go.RowKit
set_option linter.unusedSimpArgs false
set_option linter.unusedVariables false
set_option maxRecDepth 100000
set_option maxHeartbeats 8000000
def arr8 (cur : Array Value) (o : Nat) (a0 a1 a2 a3 a4 a5 a6 a7 : Value) : Array Value :=
 (((((((cur.setIfInBounds o a0).setIfInBounds (o + 1) a1).setIfInBounds (o + 2) a2).setIfInBounds (o + 3) a3).setIfInBounds (o + 4) a4).setIfInBounds (o + 5) a5).setIfInBounds (o + 6) a6).setIfInBounds (o + 7) a7
theorem arr8_size (cur : Array Value) (o : Nat) (a0 a1 a2 a3 a4 a5 a6 a7 : Value) : (arr8 cur o a0 a1 a2 a3 a4 a5 a6 a7).size = cur.size := by simp [arr8]
theorem arr8_out (cur : Array Value) (o : Nat) (a0 a1 a2 a3 a4 a5 a6 a7 : Value) {k : Nat} (hk : k < o ∨ o + 8 ≤ k) : (arr8 cur o a0 a1 a2 a3 a4 a5 a6 a7)[k]? = cur[k]? := by
 unfold arr8
 simp only [Array.getElem?_setIfInBounds]
 rw [if_neg (by omega), if_neg (by omega), if_neg (by omega), if_neg (by omega), if_neg (by omega), if_neg (by omega), if_neg (by omega), if_neg (by omega)]
theorem arr8_in (cur : Array Value) (o : Nat) (a0 a1 a2 a3 a4 a5 a6 a7 : Value) (h : o + 8 ≤ cur.size) {j : Nat} (hj : j < 8) : (arr8 cur o a0 a1 a2 a3 a4 a5 a6 a7)[o + j]? = [a0, a1, a2, a3, a4, a5, a6, a7][j]? := by
 unfold arr8
 simp only [Array.getElem?_setIfInBounds, Array.size_setIfInBounds]
 match j, hj with
 | 0, _ => simp; omega
 | 1, _ => simp; omega
 | 2, _ => simp; omega
 | 3, _ => simp; omega
 | 4, _ => simp; omega
 | 5, _ => simp; omega
 | 6, _ => simp; omega
 | 7, _ => simp; omega
def put8W (w : World) (g o : Nat) (a0 a1 a2 a3 a4 a5 a6 a7 : Value) : World :=
 (((((((w.setCell ⟨g, o, none⟩ a0).setCell ⟨g, o + 1, none⟩ a1).setCell ⟨g, o + 2, none⟩ a2).setCell ⟨g, o + 3, none⟩ a3).setCell ⟨g, o + 4, none⟩ a4).setCell ⟨g, o + 5, none⟩ a5).setCell ⟨g, o + 6, none⟩ a6).setCell ⟨g, o + 7, none⟩ a7
theorem Blk.put8W {w : World} {g : Nat} {t : TypeId} {cur : Array Value} (h : Blk w g t cur) (o : Nat) (a0 a1 a2 a3 a4 a5 a6 a7 : Value) : Blk (put8W w g o a0 a1 a2 a3 a4 a5 a6 a7) g t (arr8 cur o a0 a1 a2 a3 a4 a5 a6 a7) :=
 (((((((h.set_ o a0).set_ (o + 1) a1).set_ (o + 2) a2).set_ (o + 3) a3).set_ (o + 4) a4).set_ (o + 5) a5).set_ (o + 6) a6).set_ (o + 7) a7
theorem only_put8W {w0 w : World} {g : Nat} (h : w0.grownBy w (some g)) (o : Nat) (a0 a1 a2 a3 a4 a5 a6 a7 : Value) : w0.grownBy (put8W w g o a0 a1 a2 a3 a4 a5 a6 a7) (some g) :=
 only_set (only_set (only_set (only_set (only_set (only_set (only_set (only_set h o a0) (o + 1) a1) (o + 2) a2) (o + 3) a3) (o + 4) a4) (o + 5) a5) (o + 6) a6) (o + 7) a7
def RevN (w0 : World) (g : Nat) (gs : List (Nd × Option Addr × Nat)) (i : Nat) (w : World) : Prop :=
 ∃ cur : Array Value, Blk w g 28 cur ∧ gs.length * 8 ≤ cur.size ∧ (∀ p a, p < gs.length → revAt gs i p = some a → ∀ j, j < 8 → cur[p * 8 + j]? = (ndCell a.1 a.2.1 a.2.2)[j]?) ∧ w0.grownBy w (some g)
theorem RevN.drew {w0 w : World} {g i : Nat} {gs : List (Nd × Option Addr × Nat)} (h : RevN w0 g gs i w) : RevN w0 g gs i w.drew := by
 obtain ⟨cur, h1, h2, h3, h4⟩ := h
 exact ⟨cur, h1.drew, h2, h3, ⟨h4.os, h4.tape, h4.output, h4.size, h4.block⟩⟩
theorem RevN.swap {w0 w : World} {g i : Nat} {gs : List (Nd × Option Addr × Nat)} {x y : Nd} {A B : Option Addr} {ca cb : Nat} (h : RevN w0 g gs i w) (hi : i < gs.length - 1 - i) (ha : gs[i]? = some (x, A, ca)) (hb : gs[gs.length - 1 - i]? = some (y, B, cb)) :
  RevN w0 g gs (i + 1) (put8W (put8W w g (i * 8) (.int .i64 y.kind) (.int .u64 (word y.set.testBit 0)) (.int .u64 (word y.set.testBit 1)) (.int .u64 (word y.set.testBit 2)) (.int .u64 (word y.set.testBit 3)) (.slice B y.kids.len cb) (.int .i64 y.lo) (.int .i64 y.hi)) g ((gs.length - 1 - i) * 8) (.int .i64 x.kind) (.int .u64 (word x.set.testBit 0)) (.int .u64 (word x.set.testBit 1)) (.int .u64 (word x.set.testBit 2)) (.int .u64 (word x.set.testBit 3)) (.slice A x.kids.len ca) (.int .i64 x.lo) (.int .i64 x.hi)) := by
 obtain ⟨cur, h1, h2, h3, h4⟩ := h
 refine ⟨_, (h1.put8W (i * 8) (.int .i64 y.kind) (.int .u64 (word y.set.testBit 0)) (.int .u64 (word y.set.testBit 1)) (.int .u64 (word y.set.testBit 2)) (.int .u64 (word y.set.testBit 3)) (.slice B y.kids.len cb) (.int .i64 y.lo) (.int .i64 y.hi)).put8W ((gs.length - 1 - i) * 8) (.int .i64 x.kind) (.int .u64 (word x.set.testBit 0)) (.int .u64 (word x.set.testBit 1)) (.int .u64 (word x.set.testBit 2)) (.int .u64 (word x.set.testBit 3)) (.slice A x.kids.len ca) (.int .i64 x.lo) (.int .i64 x.hi), by rw [arr8_size, arr8_size]; exact h2, fun p a hp hr j hj => ?_, only_put8W (only_put8W h4 _ _ _ _ _ _ _ _ _) _ _ _ _ _ _ _ _ _⟩
 rw [revAt_step gs hi hp] at hr
 by_cases hpi : p = i
 ·subst hpi
  rw [if_pos rfl, hb] at hr
  cases hr
  rw [arr8_out _ _ _ _ _ _ _ _ _ _ (by omega), arr8_in _ _ _ _ _ _ _ _ _ _ (by omega) hj]
  rfl
 ·rw [if_neg hpi] at hr
  by_cases hpj : p = gs.length - 1 - i
  ·rw [if_pos hpj, ha] at hr
   cases hr
   rw [hpj, arr8_in _ _ _ _ _ _ _ _ _ _ (by rw [arr8_size]; omega) hj]
   rfl
  ·rw [if_neg hpj] at hr
   rw [arr8_out _ _ _ _ _ _ _ _ _ _ (by omega), arr8_out _ _ _ _ _ _ _ _ _ _ (by omega)]
   exact h3 p a hp hr j hj
theorem revn_go (g cap : Nat) (gs : List (Nd × Option Addr × Nat)) (w : World) (h : RevN w g gs 0 w) (hl : gs.length ≤ 140737488355328) :
  Calls Tryz.prog 110 #[.slice (some ⟨g, 0, none⟩) gs.length cap] w fun e w' => e = .returned (.tuple #[]) ∧ ∃ i, RevN w g gs i w' ∧ ¬ i < gs.length - 1 - i := by
 have H0 := Lib.hid h
 clear h
 go_enter Tryz.func110, Tryz.ntmps110
 go_wp2
 go_loopw [2, 3] (fun a b wr => ∃ i : Nat, a = .int .i64 (i : Int) ∧ b = .int .i64 ((gs.length : Int) - 1 - i) ∧ i ≤ gs.length ∧ Hid (RevN w g gs i wr)) (fun a _ _ => gs.length - (intOf a).toNat)
 case atStart => exact ⟨0, rfl, by simp, by omega, H0⟩
 case round =>
  clear H0
  obtain ⟨i, rfl, rfl, hi, HR⟩ := hrel
  by_cases hlt : i < gs.length - 1 - i
  ·have hdl : (i : Int) < (gs.length : Int) - 1 - i := by omega
   obtain ⟨⟨x, A, ca⟩, ha⟩ : ∃ a, gs[i]? = some a := ⟨_, List.getElem?_eq_getElem (by omega)⟩
   obtain ⟨⟨y, B, cb⟩, hb⟩ : ∃ b, gs[gs.length - 1 - i]? = some b := ⟨_, List.getElem?_eq_getElem (by omega)⟩
   have HSW := Lib.hid (HR.out.swap hlt ha hb).drew
   obtain ⟨cur, h1, h2, h3, h4⟩ := HR.out
   have hA := h3 i _ (by omega) ((revAt_left gs hlt).trans ha)
   have hBb := h3 (gs.length - 1 - i) _ (by omega) ((revAt_right gs hlt).trans hb)
   have HLT := Lib.hid hlt
   obtain ⟨j, hj⟩ : ∃ j, j = gs.length - 1 - i := ⟨_, rfl⟩
   rw [← hj] at hBb HSW
   have pi0 : wr.cell? ⟨g, i * 8, none⟩ = some (.int .i64 x.kind) := (h1.cell (i * 8)).trans (by rw [← Nat.add_zero (i * 8), hA 0 (by decide)]; rfl)
   have pi1 : wr.cell? ⟨g, i * 8 + 1, none⟩ = some (.int .u64 (word x.set.testBit 0)) := (h1.cell (i * 8 + 1)).trans (by rw [hA 1 (by decide)]; rfl)
   have pi2 : wr.cell? ⟨g, i * 8 + 2, none⟩ = some (.int .u64 (word x.set.testBit 1)) := (h1.cell (i * 8 + 2)).trans (by rw [hA 2 (by decide)]; rfl)
   have pi3 : wr.cell? ⟨g, i * 8 + 3, none⟩ = some (.int .u64 (word x.set.testBit 2)) := (h1.cell (i * 8 + 3)).trans (by rw [hA 3 (by decide)]; rfl)
   have pi4 : wr.cell? ⟨g, i * 8 + 4, none⟩ = some (.int .u64 (word x.set.testBit 3)) := (h1.cell (i * 8 + 4)).trans (by rw [hA 4 (by decide)]; rfl)
   have pi5 : wr.cell? ⟨g, i * 8 + 5, none⟩ = some (.slice A x.kids.len ca) := (h1.cell (i * 8 + 5)).trans (by rw [hA 5 (by decide)]; rfl)
   have pi6 : wr.cell? ⟨g, i * 8 + 6, none⟩ = some (.int .i64 x.lo) := (h1.cell (i * 8 + 6)).trans (by rw [hA 6 (by decide)]; rfl)
   have pi7 : wr.cell? ⟨g, i * 8 + 7, none⟩ = some (.int .i64 x.hi) := (h1.cell (i * 8 + 7)).trans (by rw [hA 7 (by decide)]; rfl)
   have pf0 := h1.frozen (i * 8)
   have pf1 := h1.frozen (i * 8 + 1)
   have pf2 := h1.frozen (i * 8 + 2)
   have pf3 := h1.frozen (i * 8 + 3)
   have pf4 := h1.frozen (i * 8 + 4)
   have pf5 := h1.frozen (i * 8 + 5)
   have pf6 := h1.frozen (i * 8 + 6)
   have pf7 := h1.frozen (i * 8 + 7)
   have qi0 : wr.cell? ⟨g, j * 8, none⟩ = some (.int .i64 y.kind) := (h1.cell (j * 8)).trans (by rw [← Nat.add_zero (j * 8), hBb 0 (by decide)]; rfl)
   have qi1 : wr.cell? ⟨g, j * 8 + 1, none⟩ = some (.int .u64 (word y.set.testBit 0)) := (h1.cell (j * 8 + 1)).trans (by rw [hBb 1 (by decide)]; rfl)
   have qi2 : wr.cell? ⟨g, j * 8 + 2, none⟩ = some (.int .u64 (word y.set.testBit 1)) := (h1.cell (j * 8 + 2)).trans (by rw [hBb 2 (by decide)]; rfl)
   have qi3 : wr.cell? ⟨g, j * 8 + 3, none⟩ = some (.int .u64 (word y.set.testBit 2)) := (h1.cell (j * 8 + 3)).trans (by rw [hBb 3 (by decide)]; rfl)
   have qi4 : wr.cell? ⟨g, j * 8 + 4, none⟩ = some (.int .u64 (word y.set.testBit 3)) := (h1.cell (j * 8 + 4)).trans (by rw [hBb 4 (by decide)]; rfl)
   have qi5 : wr.cell? ⟨g, j * 8 + 5, none⟩ = some (.slice B y.kids.len cb) := (h1.cell (j * 8 + 5)).trans (by rw [hBb 5 (by decide)]; rfl)
   have qi6 : wr.cell? ⟨g, j * 8 + 6, none⟩ = some (.int .i64 y.lo) := (h1.cell (j * 8 + 6)).trans (by rw [hBb 6 (by decide)]; rfl)
   have qi7 : wr.cell? ⟨g, j * 8 + 7, none⟩ = some (.int .i64 y.hi) := (h1.cell (j * 8 + 7)).trans (by rw [hBb 7 (by decide)]; rfl)
   have qf0 := h1.frozen (j * 8)
   have qf1 := h1.frozen (j * 8 + 1)
   have qf2 := h1.frozen (j * 8 + 2)
   have qf3 := h1.frozen (j * 8 + 3)
   have qf4 := h1.frozen (j * 8 + 4)
   have qf5 := h1.frozen (j * 8 + 5)
   have qf6 := h1.frozen (j * 8 + 6)
   have qf7 := h1.frozen (j * 8 + 7)
   have hlg := h1.lt
   have hjn : (gs.length : Int) - 1 - i = (j : Int) := by omega
   have hij : i < j := by omega
   have hil : i < gs.length := by omega
   have mixed : Tryz.prog.follows .mixedOrders = true := by kernel_rfl
   have hjl : j < gs.length := by omega
   rw [hjn] at *
   have HJ := Lib.hid hj
   unfold put8W at HSW
   clear h1 h2 h3 h4 ha hb hj hjn hA hBb HR
   go_wp2_with fail
   go_region_o
   go_wp2
   go_roundw
   case rel => exact ⟨i + 1, by go_num, by congr 1; have := HJ.out; omega, by omega, HSW⟩
   case measure => simp [intOf]; omega
  ·have hdl : ¬ (i : Int) < (gs.length : Int) - 1 - i := by omega
   have HLT := Lib.hid hlt
   go_wp2
   go_light
   go_end0
   exact ⟨rfl, i, HR.out, by have := HLT.out; omega⟩
end Go.Proofs.YtofbfafnpdaejaaGreatDoor
