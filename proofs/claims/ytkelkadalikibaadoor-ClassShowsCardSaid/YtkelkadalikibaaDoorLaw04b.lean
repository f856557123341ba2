/-
  The walk of ClassShows: class.Show and the reference's Show, class.Char and the reference's Char say the same.
-/
import Derived.Test.YtkelkadalikibaaDoorKnows
import Derived.Deep.RegionHeld3
namespace Go.Proofs.YtkelkadalikibaaDoor
open Go.RowKit Go.Shelf
set_option linter.unusedSimpArgs false
set_option linter.unusedVariables false
set_option maxRecDepth 100000

/-- Below n nothing has turned since w0. -/
def Since (n : Nat) (w0 w : World) : Prop := Below n w0 w ∧ n ≤ w0.heap.size
theorem Since.cells {n : Nat} {w0 w : World} (h : Since n w0 w) : ∀ b o, b < n → w.cell? ⟨b, o, none⟩ = w0.cell? ⟨b, o, none⟩ := (bcell h.1).1
theorem since_step {n : Nat} {w0 w w' : World} (h : (∀ b o, b < n → w.cell? ⟨b, o, none⟩ = w0.cell? ⟨b, o, none⟩) ∧ Since n w0 w) (hb : Below w.heap.size w w') : (∀ b o, b < n → w'.cell? ⟨b, o, none⟩ = w0.cell? ⟨b, o, none⟩) ∧ Since n w0 w' := by
  have h2 : Since n w0 w' := ⟨h.2.1.trans (hb.mono (Nat.le_trans h.2.2 h.2.1.size)), h.2.2⟩
  exact ⟨h2.cells, h2⟩
theorem since_alloc {n : Nat} {w0 w : World} (h : (∀ b o, b < n → w.cell? ⟨b, o, none⟩ = w0.cell? ⟨b, o, none⟩) ∧ Since n w0 w) (o : Obj) : (∀ b i, b < n → (w.alloc o).cell? ⟨b, i, none⟩ = w0.cell? ⟨b, i, none⟩) ∧ Since n w0 (w.alloc o) := since_step h ((Below.refl _ _).alloc (Nat.le_refl _) o)
theorem since_start {n : Nat} {w0 : World} (h : n ≤ w0.heap.size) : (∀ b o, b < n → w0.drew.cell? ⟨b, o, none⟩ = w0.cell? ⟨b, o, none⟩) ∧ Since n w0 w0.drew := by
  have h2 : Since n w0 w0.drew := ⟨(Below.refl _ _).drew, h⟩
  exact ⟨h2.cells, h2⟩

theorem show_since {p : Nat → Bool} {n : Nat} {w0 w : World} (h : (∀ b o, b < n → w.cell? ⟨b, o, none⟩ = w0.cell? ⟨b, o, none⟩) ∧ Since n w0 w) (hT : TabAt 0 Lib.deBruijn64tab w0) (hn : 0 < n) :
    Calls Tryd.prog 12 #[.agg #[.int .u64 ((word (p) 0 : Nat) : Int), .int .u64 ((word (p) 1 : Nat) : Int), .int .u64 ((word (p) 2 : Nat) : Int), .int .u64 ((word (p) 3 : Nat) : Int)]] w fun e W' => e = .returned (.string (strOf (showS p))) ∧ Below w.heap.size w W' :=
  show_go p w (TabAt.below h.2.1 hn hT) (by have := h.2.1.size; have := h.2.2; omega)
theorem knows_since {n : Nat} {w0 w : World} (h : (∀ b o, b < n → w.cell? ⟨b, o, none⟩ = w0.cell? ⟨b, o, none⟩) ∧ Since n w0 w) (hT : TabAt 0 Lib.deBruijn64tab w0) (hn : 0 < n) :
    Calls Tryd.prog 11 #[] w fun e W' => e = .returned (.bool true) ∧ Below w.heap.size w W' :=
  knows_go w (TabAt.below h.2.1 hn hT) (by have := h.2.1.size; have := h.2.2; omega)

set_option maxHeartbeats 2000000 in
theorem shows_go (p : Nat → Bool) (c : Int) (w : World) (h0 : 0 ≤ c) (h1 : c < 256) (hT : TabAt 0 Lib.deBruijn64tab w) (hw0 : 0 < w.heap.size) :
    Calls Tryd.prog 4 #[.agg #[.int .u64 ((word (p) 0 : Nat) : Int), .int .u64 ((word (p) 1 : Nat) : Int), .int .u64 ((word (p) 2 : Nat) : Int), .int .u64 ((word (p) 3 : Nat) : Int)], .int .u8 c] w fun e W' => e = .returned (.bool true) ∧ Below w.heap.size w W' := by
  have HT := Lib.hid hT
  clear hT
  go_enter Tryd.func4, Tryd.ntmps4
  go_wp2_with fail
  obtain ⟨s0, s1, s2, s3, f0, f1, f2, f3⟩ := (Blk.new w 25 #[.int .u64 ((word (p) 0 : Nat) : Int), .int .u64 ((word (p) 1 : Nat) : Int), .int .u64 ((word (p) 2 : Nat) : Int), .int .u64 ((word (p) 3 : Nat) : Int)]).c4
  have HB := Lib.hid ((Below.refl w.heap.size w).alloc (Nat.le_refl _) (.cells #[.int .u64 ((word (p) 0 : Nat) : Int), .int .u64 ((word (p) 1 : Nat) : Int), .int .u64 ((word (p) 2 : Nat) : Int), .int .u64 ((word (p) 3 : Nat) : Int)] 25))
  have hz : w.heap.size + 1 ≤ (w.alloc (.cells #[.int .u64 ((word (p) 0 : Nat) : Int), .int .u64 ((word (p) 1 : Nat) : Int), .int .u64 ((word (p) 2 : Nat) : Int), .int .u64 ((word (p) 3 : Nat) : Int)] 25)).heap.size := by simp
  generalize w.alloc (.cells #[.int .u64 ((word (p) 0 : Nat) : Int), .int .u64 ((word (p) 1 : Nat) : Int), .int .u64 ((word (p) 2 : Nat) : Int), .int .u64 ((word (p) 3 : Nat) : Int)] 25) = wx at *
  have HT' := Lib.hid (TabAt.below HB.out hw0 HT.out)
  go_region_held3 (fun w' => (∀ b o, b < w.heap.size + 1 → w'.cell? ⟨b, o, none⟩ = wx.cell? ⟨b, o, none⟩) ∧ Since (w.heap.size + 1) wx w') (first | exact since_start hz | exact since_step (by assumption) (by assumption))
    (first | (go_at_call 12; refine (show_since (by assumption) HT'.out (by omega)).mono ?_; rintro e w' ⟨rfl, hb'⟩) | (go_at_call 13; refine (rshow_go _ _).mono ?_; rintro e w' ⟨rfl, hb'⟩) | (go_at_call 14; refine (chr_go _ _ (by omega) (by omega)).mono ?_; rintro e w' ⟨rfl, hb'⟩) | (go_at_call 15; refine (rchr_go _ _ (by omega) (by omega)).mono ?_; rintro e w' ⟨rfl, hb'⟩) | (go_at_call 11; refine (knows_since (by assumption) HT'.out (by omega)).mono ?_; rintro e w' ⟨rfl, hb'⟩))
  rename_i hS
  have HB9 := Lib.hid (HB.out.trans (hS.2.1.mono (Nat.le_succ _)))
  clear hS
  go_wp2
  go_light
  go_ret
  exact ⟨rfl, HB9.out⟩

end Go.Proofs.YtkelkadalikibaaDoor
