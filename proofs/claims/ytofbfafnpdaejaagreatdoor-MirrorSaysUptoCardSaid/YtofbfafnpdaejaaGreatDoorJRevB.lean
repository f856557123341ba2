/- Texts of the claim. -/
import Derived.Shelf.RegionOpenPlain
import Derived.BigRegion
import Derived.Test.YtofbfafnpdaejaaGreatDoorJZ03
import Derived.Test.YtofbfafnpdaejaaGreatDoorJZ01
namespace Go.Proofs.YtofbfafnpdaejaaGreatDoor
open Go.RowKit
set_option linter.unusedSimpArgs false
set_option linter.unusedVariables false
set_option maxRecDepth 100000
set_option maxHeartbeats 8000000
def revAt {α : Type} (l : List α) (i p : Nat) : Option α := if p < i ∨ l.length - i ≤ p then l[l.length - 1 - p]? else l[p]?
theorem revAt_zero {α : Type} (l : List α) {p : Nat} (hp : p < l.length) : revAt l 0 p = l[p]? := by
 unfold revAt
 rw [if_neg (by omega)]
theorem revAt_done {α : Type} (l : List α) {i p : Nat} (hp : p < l.length) (hi : ¬ i < l.length - 1 - i) : revAt l i p = l.reverse[p]? := by
 unfold revAt
 rw [List.getElem?_reverse hp]
 split
 ·rfl
 ·have : p = l.length - 1 - p := by omega
  rw [← this]
theorem revAt_step {α : Type} (l : List α) {i p : Nat} (hi : i < l.length - 1 - i) (hp : p < l.length) : revAt l (i + 1) p = if p = i then l[l.length - 1 - i]? else if p = l.length - 1 - i then l[i]? else revAt l i p := by
 unfold revAt
 by_cases h1 : p = i
 ·subst h1
  rw [if_pos (by omega), if_pos rfl]
 ·rw [if_neg h1]
  by_cases h2 : p = l.length - 1 - i
  ·rw [if_pos (by omega), if_pos h2, h2]
   congr 1
   omega
  ·rw [if_neg h2]
   by_cases h3 : p < i ∨ l.length - i ≤ p
   ·rw [if_pos (by omega), if_pos h3]
   ·rw [if_neg (by omega), if_neg h3]
theorem revAt_left {α : Type} (l : List α) {i : Nat} (hi : i < l.length - 1 - i) : revAt l i i = l[i]? := by
 unfold revAt
 rw [if_neg (by omega)]
theorem revAt_right {α : Type} (l : List α) {i : Nat} (hi : i < l.length - 1 - i) : revAt l i (l.length - 1 - i) = l[l.length - 1 - i]? := by
 unfold revAt
 rw [if_neg (by omega)]
def RevB (w0 : World) (g : Nat) (bs : List Nat) (i : Nat) (w : World) : Prop :=
 ∃ cur : Array Value, Blk w g 5 cur ∧ bs.length ≤ cur.size ∧ (∀ p, p < bs.length → cur[p]? = (revAt bs i p).map fun n : Nat => Value.int .u8 (n : Int)) ∧ w0.grownBy w (some g)
theorem RevB.swap {w0 w : World} {g i a b : Nat} {bs : List Nat} (h : RevB w0 g bs i w) (hi : i < bs.length - 1 - i) (ha : bs[i]? = some a) (hb : bs[bs.length - 1 - i]? = some b) :
  RevB w0 g bs (i + 1) ((w.setCell ⟨g, i, none⟩ (.int .u8 (b : Int))).setCell ⟨g, bs.length - 1 - i, none⟩ (.int .u8 (a : Int))) := by
 obtain ⟨cur, h1, h2, h3, h4⟩ := h
 refine ⟨_, (h1.set_ i _).set_ (bs.length - 1 - i) _, by simpa using h2, fun p hp => ?_, only_set (only_set h4 i _) _ _⟩
 rw [revAt_step bs hi hp, Array.getElem?_setIfInBounds, Array.getElem?_setIfInBounds]
 by_cases hpi : p = i
 ·subst hpi
  rw [if_neg (by omega), if_pos rfl, if_pos rfl, hb]
  simp
  omega
 ·by_cases hpj : p = bs.length - 1 - i
  ·subst hpj
   rw [if_pos rfl, if_neg hpi, if_pos rfl, ha]
   simp
   omega
  ·rw [if_neg (by omega), if_neg (by omega), if_neg hpi, if_neg hpj]
   exact h3 p hp
theorem RevB.drew {w0 w : World} {g i : Nat} {bs : List Nat} (h : RevB w0 g bs i w) : RevB w0 g bs i w.drew := by
 obtain ⟨cur, h1, h2, h3, h4⟩ := h
 exact ⟨cur, h1.drew, h2, h3, ⟨h4.os, h4.tape, h4.output, h4.size, h4.block⟩⟩
theorem revb_go (g cap : Nat) (bs : List Nat) (w : World) (h : RevB w g bs 0 w) (hl : bs.length ≤ 140737488355328) :
  Calls Tryz.prog 115 #[.slice (some ⟨g, 0, none⟩) bs.length cap] w fun e w' => e = .returned (.tuple #[]) ∧ ∃ i, RevB w g bs i w' ∧ ¬ i < bs.length - 1 - i := by
 have H0 := Lib.hid h
 clear h
 go_enter Tryz.func115, Tryz.ntmps115
 go_wp2
 go_loopw [2, 3] (fun a b wr => ∃ i : Nat, a = .int .i64 (i : Int) ∧ b = .int .i64 ((bs.length : Int) - 1 - i) ∧ i ≤ bs.length ∧ Hid (RevB w g bs i wr)) (fun a _ _ => bs.length - (intOf a).toNat)
 case atStart => exact ⟨0, rfl, by simp, by omega, H0⟩
 case round =>
  clear H0
  obtain ⟨i, rfl, rfl, hi, HR⟩ := hrel
  by_cases hlt : i < bs.length - 1 - i
  ·have hdl : (i : Int) < (bs.length : Int) - 1 - i := by omega
   obtain ⟨a, ha⟩ : ∃ a, bs[i]? = some a := ⟨_, List.getElem?_eq_getElem (by omega)⟩
   obtain ⟨b, hb⟩ : ∃ b, bs[bs.length - 1 - i]? = some b := ⟨_, List.getElem?_eq_getElem (by omega)⟩
   have HSW := Lib.hid (HR.out.swap hlt ha hb).drew
   obtain ⟨cur, h1, h2, h3, h4⟩ := HR.out
   have ci : wr.cell? ⟨g, i, none⟩ = some (.int .u8 (a : Int)) := (h1.cell i).trans (by rw [h3 i (by omega), revAt_left bs hlt, ha]; rfl)
   have cj : wr.cell? ⟨g, bs.length - 1 - i, none⟩ = some (.int .u8 (b : Int)) := (h1.cell (bs.length - 1 - i)).trans (by rw [h3 _ (by omega), revAt_right bs hlt, hb]; rfl)
   have fi := h1.frozen i
   have fj := h1.frozen (bs.length - 1 - i)
   have hlg := h1.lt
   have HLT := Lib.hid hlt
   obtain ⟨j, hj⟩ : ∃ j, j = bs.length - 1 - i := ⟨_, rfl⟩
   have hjn : (bs.length : Int) - 1 - i = (j : Int) := by omega
   have hij : i < j := by omega
   have hil : i < bs.length := by omega
   have mixed : Tryz.prog.follows .mixedOrders = true := by kernel_rfl
   have hjl : j < bs.length := by omega
   rw [← hj] at cj fj HSW
   rw [hjn] at *
   have HJ := Lib.hid hj
   clear h1 h2 h3 h4 ha hb hj hjn
   go_wp2_with fail
   go_region_o
   go_wp2
   go_roundw
   case rel => exact ⟨i + 1, by go_num, by congr 1; have := HJ.out; omega, by omega, HSW⟩
   case measure => simp [intOf]; omega
  ·have hdl : ¬ (i : Int) < (bs.length : Int) - 1 - i := by omega
   have HLT := Lib.hid hlt
   go_wp2
   go_light
   go_end0
   exact ⟨rfl, i, HR.out, by have := HLT.out; omega⟩
end Go.Proofs.YtofbfafnpdaejaaGreatDoor
