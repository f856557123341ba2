/-
  The walk of LexemeSplits.
-/
import Derived.Test.YtkelkadalikibaaKnows05
import Derived.Test.YtkelkadalikibaaRSplit
namespace Go.Proofs.Ytkelkadalikibaa
open Go.RowKit
set_option linter.unusedSimpArgs false
set_option linter.unusedVariables false
set_option maxRecDepth 100000

theorem splitF_len {bs : List Nat} (hb : ∀ x ∈ bs, x < 256) : ∀ {f i : Nat} {L l : List Lex}, L.length ≤ i → i ≤ bs.length → splitF bs f i L = .ok l → l.length ≤ bs.length
  | 0, i, L, l, h1, h2, h => by cases h
  | f + 1, i, L, l, h1, h2, h => by
    rcases Nat.lt_or_ge i bs.length with hi | hi
    · cases hx : lexS bs i with
      | error e => rw [splitF_bad hi hx] at h; cases h
      | ok x =>
        obtain ⟨x, j⟩ := x
        have hj := lexS_some hb hi hx
        rw [splitF_ok hi hx] at h
        exact splitF_len hb (by simp; omega) hj.2 h
    · rw [splitF_end hi] at h
      cases h
      omega
theorem splitS_len {bs : List Nat} (hb : ∀ x ∈ bs, x < 256) {l : List Lex} (h : splitS bs = .ok l) : l.length ≤ 65536 := by
  rcases Nat.lt_or_ge 65536 bs.length with h1 | h1
  · rw [splitS_long h1] at h; cases h
  · rw [splitS_go h1] at h
    have := splitF_len hb (by simp) (Nat.zero_le _) h
    omega

set_option maxHeartbeats 400000 in
theorem splits_ok (A : Option Addr) (cap : Nat) (bs : List Nat) (w : World) (hA : BytesAt w w.heap.size A bs) (hcap : bs.length ≤ cap) {l : List Lex} (h : splitS bs = .ok l) :
    Calls Try.prog 3 #[.slice A bs.length cap] w fun e w' => e = .returned (.bool true) ∧ Below w.heap.size w w' := by
  have hlen := splitS_len hA.1 h
  have h1 := split_go A cap bs w hA hcap
  have h2 := fun w1 (hA1 : BytesAt w1 w1.heap.size A bs) => rsplit_go A cap bs w1 hA1 hcap
  rw [h] at h1 h2
  have H1 := Lib.hid h1
  have H2 := Lib.hid h2
  have HA := Lib.hid hA
  clear h h1 h2 hA
  go_enter Try.func3, Try.ntmps3
  go_wp2_with fail
  refine H1.out.mono ?_
  rintro e w1 ⟨v, rfl, hb1, hrow1⟩
  have HB1 := Lib.hid hb1
  have Hr1 := Lib.hid hrow1
  have HX := Lib.hid (Blk.new w1 26 #[.int .i64 0, .int .i64 0])
  have hbx := (Below.refl w1.heap.size w1).alloc (Nat.le_refl _) (.cells #[.int .i64 0, .int .i64 0] 26)
  have HBx := Lib.hid hbx
  have HA1 := Lib.hid ((HA.out.below (hb1.trans (hbx.mono hb1.size))).more (hb1.trans (hbx.mono hb1.size)).size)
  clear hb1 hrow1 hbx
  go_wp2_with fail
  refine (H2.out _ HA1.out).mono ?_
  rintro e w2 ⟨v', rfl, hb2, hrow2⟩
  have Hr2 := Lib.hid hrow2
  have HX2 := Lib.hid (HX.out.below hb2 HX.out.lt)
  have Hr12 := Lib.hid (own_below (Hr1.out.alloc _) hb2)
  have HB2 := Lib.hid (HB1.out.trans ((HBx.out.trans (hb2.mono HBx.out.size)).mono HB1.out.size))
  obtain ⟨e0, e1, y0, y1⟩ := HX2.out.c2
  have hl2 : w1.heap.size < w2.heap.size := HX2.out.lt
  have m1 : w1.heap.size ≠ w2.heap.size := Nat.ne_of_lt hl2
  clear hb2 hrow2
  go_wp2_with fail
  refine (same_go v v' l _ (lexRow_of (Hr12.out.alloc _)) (lexRow_of (Hr2.out.alloc _)) (by omega)).mono ?_
  rintro e w3 ⟨rfl, n, rfl⟩
  go_wp2_with fail
  refine (knows05_go _).mono ?_
  rintro e w4 ⟨rfl, hb4⟩
  have HB4 := Lib.hid hb4
  clear hb4
  go_wp2
  go_light
  go_ret
  exact ⟨rfl, (bel_drewN (below_more' HB2.out _) n).trans (HB4.out.mono (bel_drewN (below_more' HB2.out _) n).size)⟩
theorem lexRow_none (w : World) : LexRow w (.slice none 0 0) [] := ⟨none, 0, rfl, fun k x h => by simp at h⟩
set_option maxHeartbeats 400000 in
theorem splits_bad (A : Option Addr) (cap : Nat) (bs : List Nat) (w : World) (hA : BytesAt w w.heap.size A bs) (hcap : bs.length ≤ cap) {k q : Int} (h : splitS bs = .error (k, q)) :
    Calls Try.prog 3 #[.slice A bs.length cap] w fun e w' => e = .returned (.bool true) ∧ Below w.heap.size w w' := by
  have ek : (k == k) = true := by simp
  have eq : (q == q) = true := by simp
  have h1 := split_go A cap bs w hA hcap
  have h2 := fun w1 (hA1 : BytesAt w1 w1.heap.size A bs) => rsplit_go A cap bs w1 hA1 hcap
  rw [h] at h1 h2
  have H1 := Lib.hid h1
  have H2 := Lib.hid h2
  have HA := Lib.hid hA
  clear h h1 h2 hA
  go_enter Try.func3, Try.ntmps3
  go_wp2_with fail
  refine H1.out.mono ?_
  rintro e w1 ⟨rfl, hb1⟩
  have HB1 := Lib.hid hb1
  have HX := Lib.hid (Blk.new w1 26 #[.int .i64 k, .int .i64 q])
  have hbx := (Below.refl w1.heap.size w1).alloc (Nat.le_refl _) (.cells #[.int .i64 k, .int .i64 q] 26)
  have HBx := Lib.hid hbx
  have HA1 := Lib.hid ((HA.out.below (hb1.trans (hbx.mono hb1.size))).more (hb1.trans (hbx.mono hb1.size)).size)
  clear hb1 hbx
  go_wp2_with fail
  refine (H2.out _ HA1.out).mono ?_
  rintro e w2 ⟨rfl, hb2⟩
  have HX2 := Lib.hid (HX.out.below hb2 HX.out.lt)
  have HB2 := Lib.hid (HB1.out.trans ((HBx.out.trans (hb2.mono HBx.out.size)).mono HB1.out.size))
  obtain ⟨e0, e1, y0, y1⟩ := HX2.out.c2
  have hl2 : w1.heap.size < w2.heap.size := HX2.out.lt
  have m1 : w1.heap.size ≠ w2.heap.size := Nat.ne_of_lt hl2
  clear hb2
  go_wp2_with fail
  refine (same_go _ _ [] _ (lexRow_none _) (lexRow_none _) (by simp)).mono ?_
  rintro e w3 ⟨rfl, n, rfl⟩
  go_wp2_with fail
  refine (knows05_go _).mono ?_
  rintro e w4 ⟨rfl, hb4⟩
  have HB4 := Lib.hid hb4
  clear hb4
  go_wp2
  go_light
  go_ret
  exact ⟨rfl, (bel_drewN (below_more' HB2.out _) n).trans (HB4.out.mono (bel_drewN (below_more' HB2.out _) n).size)⟩

/-- What the law gives. -/
theorem splits_go (A : Option Addr) (cap : Nat) (bs : List Nat) (w : World) (hA : BytesAt w w.heap.size A bs) (hcap : bs.length ≤ cap) :
    Calls Try.prog 3 #[.slice A bs.length cap] w fun e w' => e = .returned (.bool true) ∧ Below w.heap.size w w' := by
  cases h : splitS bs with
  | ok l => exact splits_ok A cap bs w hA hcap h
  | error x =>
    obtain ⟨k, q⟩ := x
    exact splits_bad A cap bs w hA hcap h

end Go.Proofs.Ytkelkadalikibaa
