/-
  The walks of ParseLexemes and ParseTexts.
-/
import Derived.Test.YtkelkadalikibaaQRText07
import Derived.Test.YtkelkadalikibaaQNSame
import Derived.Test.YtkelkadalikibaaQKnows07
import Derived.Test.YtkelkadalikibaaQParseSz
namespace Go.Proofs.Ytkelkadalikibaa
open Go.RowKit
set_option linter.unusedSimpArgs false
set_option linter.unusedVariables false
set_option maxRecDepth 100000

def zeroTree : Nd := ⟨0, 0, .nil, 0, 0⟩
theorem zeroN_nd : zeroN = ndV zeroTree none 0 := (ndV_plain 0 .nil 0 0 none 0).symm
/-- A tree and what is wrong, of whatever result. -/
theorem TreeOut.form {r : Except Wrong Nd} (hr : ∀ x, r = .ok x → x.size ≤ 2049) : ∃ (x : Nd) (k q : Int), x.size ≤ 2049 ∧ ∀ {w : World} {e : Ending} {w' : World}, TreeOut r w e w' → ∃ B cap, e = .returned (.tuple #[ndV x B cap, .agg #[.int .i64 k, .int .i64 q]]) ∧ Below w.heap.size w w' ∧ TreesAt w' (fun b => w.heap.size ≤ b) x.kids B := by
  cases r with
  | ok x => exact ⟨x, 0, 0, hr x rfl, fun h => by
      obtain ⟨B, cap, h1, h2, _, h4⟩ := h
      exact ⟨B, cap, h1, h2, h4⟩⟩
  | error x =>
    obtain ⟨k, q⟩ := x
    exact ⟨zeroTree, k, q, by decide, fun h => ⟨none, 0, by rw [← zeroN_nd]; exact h.1, h.2, trivial⟩⟩
/-- What a tree's reading gives, its parts named. -/
def Out07 (x : Nd) (k q : Int) (w : World) (e : Ending) (w' : World) : Prop := ∃ B cap, e = .returned (.tuple #[ndV x B cap, .agg #[.int .i64 k, .int .i64 q]]) ∧ Below w.heap.size w w' ∧ TreesAt w' (fun b => w.heap.size ≤ b) x.kids B

set_option maxHeartbeats 2000000 in
theorem parse_texts_go (A : Option Addr) (cap : Nat) (bs : List Nat) (w : World) (hA : BytesAt w w.heap.size A bs) (hcap : bs.length ≤ cap) :
    Calls Try.prog 6 #[.slice A bs.length cap] w fun e w' => e = .returned (.bool true) ∧ Below w.heap.size w w' := by
  obtain ⟨x, k, q, hsz, hform⟩ := TreeOut.form (r := parseS bs) (fun x h => parseS_size h)
  have HF1 := Lib.hid (Calls.mono (text_go07 A cap bs w hA hcap) (R' := Out07 x k q w) (fun e w' h => hform h))
  have HF2 := Lib.hid (fun w1 (hb : Below w.heap.size w w1) => Calls.mono (rtext_go07 A cap bs w1 ((hA.below hb).more hb.size) hcap) (R' := Out07 x k q w1) (fun e w' h => hform h))
  clear hform hA
  have hk : (k == k) = true := by simp
  have hq : (q == q) = true := by simp
  go_enter Try.func6, Try.ntmps6
  go_wp2_with fail
  refine HF1.out.mono ?_
  rintro e w1 ⟨B1, cap1, rfl, hb1, ht1⟩
  have hb2 : Below w1.heap.size w1 ((w1.alloc (.cells (ndA x B1 cap1) 42)).alloc (.cells #[.int .i64 k, .int .i64 q] 26)) := ((Below.refl _ _).alloc (Nat.le_refl _) _).alloc (by simp) _
  have HB2 := Lib.hid (hb1.trans (hb2.mono hb1.size))
  have HX2 := Lib.hid (show Blk ((w1.alloc (.cells (ndA x B1 cap1) 42)).alloc (.cells #[.int .i64 k, .int .i64 q] 26)) w1.heap.size 42 (ndA x B1 cap1) from (Blk.new _ _ _).alloc _)
  have HY2 := Lib.hid (show Blk ((w1.alloc (.cells (ndA x B1 cap1) 42)).alloc (.cells #[.int .i64 k, .int .i64 q] 26)) (w1.heap.size + 1) 26 #[.int .i64 k, .int .i64 q] from Blk.new_at (by simp))
  have HT2 := Lib.hid (ht1.below hb2)
  clear hb1 hb2 ht1 HF1
  unfold ndV
  dsimp only
  go_wp2_with fail
  refine (HF2.out _ HB2.out).mono ?_
  rintro e w3 ⟨B3, cap3, rfl, hb3, ht3⟩
  have hb4 : Below w3.heap.size w3 ((w3.alloc (.cells (ndA x B3 cap3) 42)).alloc (.cells #[.int .i64 k, .int .i64 q] 26)) := ((Below.refl _ _).alloc (Nat.le_refl _) _).alloc (by simp) _
  have hX3 := HX2.out.below hb3 HX2.out.lt
  have hY3 := HY2.out.below hb3 HY2.out.lt
  have hlx := hX3.lt
  have hly := hY3.lt
  have HB4 := Lib.hid ((HB2.out.trans (hb3.mono HB2.out.size)).trans (hb4.mono (by have := HB2.out.size; have := hb3.size; omega)))
  have HT4 := Lib.hid ((HT2.out.below hb3).below hb4)
  have HT4' := Lib.hid (ht3.below hb4)
  have x0 : w3.cell? ⟨w1.heap.size, 0, none⟩ = some (.int .i64 x.kind) := hX3.cell 0
  have x1 : w3.cell? ⟨w1.heap.size, 1, none⟩ = some (.int .u64 ((word x.set.testBit 0 : Nat) : Int)) := hX3.cell 1
  have x2 : w3.cell? ⟨w1.heap.size, 2, none⟩ = some (.int .u64 ((word x.set.testBit 1 : Nat) : Int)) := hX3.cell 2
  have x3 : w3.cell? ⟨w1.heap.size, 3, none⟩ = some (.int .u64 ((word x.set.testBit 2 : Nat) : Int)) := hX3.cell 3
  have x4 : w3.cell? ⟨w1.heap.size, 4, none⟩ = some (.int .u64 ((word x.set.testBit 3 : Nat) : Int)) := hX3.cell 4
  have x5 : w3.cell? ⟨w1.heap.size, 5, none⟩ = some (.slice B1 x.kids.len cap1) := hX3.cell 5
  have x6 : w3.cell? ⟨w1.heap.size, 6, none⟩ = some (.int .i64 x.lo) := hX3.cell 6
  have x7 : w3.cell? ⟨w1.heap.size, 7, none⟩ = some (.int .i64 x.hi) := hX3.cell 7
  obtain ⟨b0, b1, _, _⟩ := hY3.c2
  clear hb3 hb4 hX3 hY3 HX2 HY2 HT2 HB2 ht3 HF2
  unfold ndV
  dsimp only
  go_wp2_with fail
  refine (nsame_go x _ _ B1 B3 cap1 cap3 _ (by omega) HT4.out HT4'.out).mono ?_
  rintro e w5 ⟨rfl, hb5⟩
  have HB5 := Lib.hid (HB4.out.trans (hb5.mono HB4.out.size))
  clear hb5
  dsimp only
  go_wp2_with fail
  refine (knows07_go _).mono ?_
  rintro e w6 ⟨rfl, hb6⟩
  have HB6 := Lib.hid (HB5.out.trans (hb6.mono HB5.out.size))
  clear hb6
  dsimp only
  go_wp2
  go_light
  go_ret
  exact ⟨rfl, HB6.out⟩

set_option maxHeartbeats 2000000 in
theorem parse_lexemes_go (A : Option Addr) (cap : Nat) (L : List Lex) (w : World) (hA : LexsAt w w.heap.size A L) (hcap : L.length ≤ cap) (hlen : L.length ≤ 140737488355328) :
    Calls Try.prog 5 #[.slice A L.length cap] w fun e w' => e = .returned (.bool true) ∧ Below w.heap.size w w' := by
  obtain ⟨x, k, q, hsz, hform⟩ := TreeOut.form (r := lexemesS L) (fun x h => lexemesS_size h)
  have HF1 := Lib.hid (Calls.mono (lexemes_go A cap L w hA hlen hcap) (R' := Out07 x k q w) (fun e w' h => hform h))
  have HF2 := Lib.hid (fun w1 (hb : Below w.heap.size w w1) => Calls.mono (rlexemes_go A cap L w1 ((hA.below hb).more hb.size) hlen) (R' := Out07 x k q w1) (fun e w' h => hform h))
  clear hform hA
  have hk : (k == k) = true := by simp
  have hq : (q == q) = true := by simp
  go_enter Try.func5, Try.ntmps5
  go_wp2_with fail
  refine HF1.out.mono ?_
  rintro e w1 ⟨B1, cap1, rfl, hb1, ht1⟩
  have hb2 : Below w1.heap.size w1 ((w1.alloc (.cells (ndA x B1 cap1) 42)).alloc (.cells #[.int .i64 k, .int .i64 q] 26)) := ((Below.refl _ _).alloc (Nat.le_refl _) _).alloc (by simp) _
  have HB2 := Lib.hid (hb1.trans (hb2.mono hb1.size))
  have HX2 := Lib.hid (show Blk ((w1.alloc (.cells (ndA x B1 cap1) 42)).alloc (.cells #[.int .i64 k, .int .i64 q] 26)) w1.heap.size 42 (ndA x B1 cap1) from (Blk.new _ _ _).alloc _)
  have HY2 := Lib.hid (show Blk ((w1.alloc (.cells (ndA x B1 cap1) 42)).alloc (.cells #[.int .i64 k, .int .i64 q] 26)) (w1.heap.size + 1) 26 #[.int .i64 k, .int .i64 q] from Blk.new_at (by simp))
  have HT2 := Lib.hid (ht1.below hb2)
  clear hb1 hb2 ht1 HF1
  unfold ndV
  dsimp only
  go_wp2_with fail
  refine (HF2.out _ HB2.out).mono ?_
  rintro e w3 ⟨B3, cap3, rfl, hb3, ht3⟩
  have hb4 : Below w3.heap.size w3 ((w3.alloc (.cells (ndA x B3 cap3) 42)).alloc (.cells #[.int .i64 k, .int .i64 q] 26)) := ((Below.refl _ _).alloc (Nat.le_refl _) _).alloc (by simp) _
  have hX3 := HX2.out.below hb3 HX2.out.lt
  have hY3 := HY2.out.below hb3 HY2.out.lt
  have hlx := hX3.lt
  have hly := hY3.lt
  have HB4 := Lib.hid ((HB2.out.trans (hb3.mono HB2.out.size)).trans (hb4.mono (by have := HB2.out.size; have := hb3.size; omega)))
  have HT4 := Lib.hid ((HT2.out.below hb3).below hb4)
  have HT4' := Lib.hid (ht3.below hb4)
  have x0 : w3.cell? ⟨w1.heap.size, 0, none⟩ = some (.int .i64 x.kind) := hX3.cell 0
  have x1 : w3.cell? ⟨w1.heap.size, 1, none⟩ = some (.int .u64 ((word x.set.testBit 0 : Nat) : Int)) := hX3.cell 1
  have x2 : w3.cell? ⟨w1.heap.size, 2, none⟩ = some (.int .u64 ((word x.set.testBit 1 : Nat) : Int)) := hX3.cell 2
  have x3 : w3.cell? ⟨w1.heap.size, 3, none⟩ = some (.int .u64 ((word x.set.testBit 2 : Nat) : Int)) := hX3.cell 3
  have x4 : w3.cell? ⟨w1.heap.size, 4, none⟩ = some (.int .u64 ((word x.set.testBit 3 : Nat) : Int)) := hX3.cell 4
  have x5 : w3.cell? ⟨w1.heap.size, 5, none⟩ = some (.slice B1 x.kids.len cap1) := hX3.cell 5
  have x6 : w3.cell? ⟨w1.heap.size, 6, none⟩ = some (.int .i64 x.lo) := hX3.cell 6
  have x7 : w3.cell? ⟨w1.heap.size, 7, none⟩ = some (.int .i64 x.hi) := hX3.cell 7
  obtain ⟨b0, b1, _, _⟩ := hY3.c2
  clear hb3 hb4 hX3 hY3 HX2 HY2 HT2 HB2 ht3 HF2
  unfold ndV
  dsimp only
  go_wp2_with fail
  refine (nsame_go x _ _ B1 B3 cap1 cap3 _ (by omega) HT4.out HT4'.out).mono ?_
  rintro e w5 ⟨rfl, hb5⟩
  have HB5 := Lib.hid (HB4.out.trans (hb5.mono HB4.out.size))
  clear hb5
  dsimp only
  go_wp2_with fail
  refine (knows07_go _).mono ?_
  rintro e w6 ⟨rfl, hb6⟩
  have HB6 := Lib.hid (HB5.out.trans (hb6.mono HB5.out.size))
  clear hb6
  dsimp only
  go_wp2
  go_light
  go_ret
  exact ⟨rfl, HB6.out⟩


end Go.Proofs.Ytkelkadalikibaa
