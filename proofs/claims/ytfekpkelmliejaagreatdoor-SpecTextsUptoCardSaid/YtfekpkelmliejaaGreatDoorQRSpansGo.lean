/- Texts of the claim. -/
import Derived.Test.YtfekpkelmliejaaGreatDoorQZ03
import Derived.Test.YtfekpkelmliejaaGreatDoorQZ02
namespace Go.Proofs.YtfekpkelmliejaaGreatDoor
open Go.RowKit
set_option linter.unusedSimpArgs false
set_option linter.unusedVariables false
set_option maxRecDepth 100000
set_option maxHeartbeats 8000000
theorem rspans_go (p : Nat → Bool) (w : World) :
  Calls Tryz.prog 270 #[.agg #[.int .u64 (word p 0), .int .u64 (word p 1), .int .u64 (word p 2), .int .u64 (word p 3)]] w fun e W' => ∃ v, e = .returned v ∧ W'.ownsRow w.heap.size 257 2 v (spans (elems p 256)).length (spanCells (spans (elems p 256))) ∧ Below w.heap.size w W' := by
 obtain ⟨i0, hi, hz0, hz1, hz2⟩ := info_parts info2b
 go_enter Tryz.func270, Tryz.ntmps270
 go_wp2
 go_loopw [3, 4, 5] (fun v3 v4 v5 wr => ∃ (c lo : Nat) (out : List (Nat × Nat)), v4 = .int .i64 (lo : Int) ∧ v5 = .int .i64 (c : Int) ∧ c ≤ 256 ∧ lo ≤ c ∧ Open p c out lo ∧ out.length ≤ c ∧ wr.ownsRow w.heap.size 257 2 v3 out.length (spanCells out) ∧ Blk wr w.heap.size 25 #[.int .u64 (word p 0), .int .u64 (word p 1), .int .u64 (word p 2), .int .u64 (word p 3)] ∧ Below w.heap.size w wr) (fun _ _ v5 _ => 256 - (intOf v5).toNat)
 case atStart =>
  refine ⟨0, 0, [], rfl, rfl, by omega, by omega, open_zero p 0, by simp, ?_, (Blk.new _ _ _).alloc _, ((Below.refl _ _).alloc (Nat.le_refl _) _).alloc (by simp) _⟩
  have h := World.ownsRow_made (base := w.heap.size) (size := 2) (e := 257) (w.alloc (.cells #[.int .u64 (word p 0), .int .u64 (word p 1), .int .u64 (word p 2), .int .u64 (word p 3)] 25)) #[] 0 (by simp) (by decide) rfl
  rw [World.size_alloc] at h
  exact h
 case round =>
  obtain ⟨c, lo, out, rfl, rfl, hc, hlo, hop, hol, hrow, hs, hb⟩ := hrel
  by_cases hlt : c < 256
  ·obtain ⟨s0, s1, s2, s3, f0, f1, f2, f3⟩ := hs.c4
   have hown := hrow.lt
   cases hx : p c
   ·have hnext := open_no p c hlt hx hop lo
    have Hs := Lib.hid hs
    have Hnext := Lib.hid hnext
    have Hown := Lib.hid hown
    have Hrow := Lib.hid hrow
    clear hs hown hrow hop hnext
    go_wp2_with fail
    refine (rhas_any _ _ _ (by omega) (by omega)).mono ?_
    rintro e w1 ⟨rfl, hb1⟩
    go_wp2
    go_light
    go_roundw
    case rel => exact ⟨c + 1, lo, out, rfl, by go_num, by omega, by omega, Hnext.out, by omega, ownsRow_below Hrow.out hb1 (fun k e => (Hown.out k e).2), Hs.out.below hb1 Hs.out.lt, hb.trans (hb1.mono hb.size)⟩
    case measure => simp [intOf]; omega
   ·have hb1m : out.length + 1 ≤ maxLen := Nat.le_trans (by omega) (show 1000 ≤ maxLen by decide)
    have hb2m : (out.length + 1) * 2 ≤ 140737488355328 := by omega
    have hl1 : (lo : Int) < 256 := by omega
    have hx' : p (c : Int).toNat = true := by simpa using hx
    have hA : c = 0 ∨ (0 < c ∧ p (c - 1) = false) ∨ (0 < c ∧ p (c - 1) = true) := by
     rcases Nat.eq_zero_or_pos c with h | h
     ·exact .inl h
     ·cases hq : p (c - 1)
      ·exact .inr (.inl ⟨h, rfl⟩)
      ·exact .inr (.inr ⟨h, rfl⟩)
    have hB : c = 255 ∨ (c < 255 ∧ p (c + 1) = false) ∨ (c < 255 ∧ p (c + 1) = true) := by
     by_cases h : c = 255
     ·exact .inl h
     ·cases hq : p (c + 1)
      ·exact .inr (.inl ⟨by omega, rfl⟩)
      ·exact .inr (.inr ⟨by omega, rfl⟩)
    have Hswr := Lib.hid hs
    have Hrwr := Lib.hid hrow
    have HBwr := Lib.hid hb
    have Hop := Lib.hid hop
    clear hs hown hrow hop hb
    rcases hA with hA | ⟨hA, hA'⟩ | ⟨hA, hA'⟩
    ·have bA : ((c : Int) == 0) = true := by simp; omega
     have Hyes := Lib.hid (open_yes p c hlt hx Hop.out c (by rw [if_pos (.inl hA)]))
     rcases hB with hB | ⟨hB, hB'⟩ | ⟨hB, hB'⟩
     ·omega
     ·have bB : ((c : Int) == 255) = false := by simp; omega
      have eB : p ((c : Int) + 1).toNat = false := by rw [show ((c : Int) + 1).toNat = c + 1 by omega]; exact hB'
      have Hnext := Lib.hid (open_close p c Hyes.out (.inr hB') c)
      have HB := Lib.hid eB
      clear hB' eB
      have Hc := Lib.hid hA
      clear hA
      go_wp2_with fail
      refine (rhas_any _ _ _ (by omega) (by omega)).mono ?_
      rintro e w1 ⟨rfl, hbw1⟩
      have Hrw1 := Lib.hid (own_below Hrwr.out hbw1)
      have Hsw1 := Lib.hid (Hswr.out.below hbw1 Hswr.out.lt)
      have HBw1 := Lib.hid (HBwr.out.trans (hbw1.mono HBwr.out.size))
      obtain ⟨s0, s1, s2, s3, f0, f1, f2, f3⟩ := Hsw1.out.c4
      clear hbw1
      go_wp2_with fail
      refine (rhas_any _ _ _ (by omega) (by omega)).mono ?_
      rintro e w3 ⟨rfl, hbw3⟩
      have Hrw3 := Lib.hid (own_below Hrw1.out hbw3)
      have Hsw3 := Lib.hid (Hsw1.out.below hbw3 Hsw1.out.lt)
      have HBw3 := Lib.hid (HBw1.out.trans (hbw3.mono HBw1.out.size))
      obtain ⟨s0, s1, s2, s3, f0, f1, f2, f3⟩ := Hsw3.out.c4
      clear hbw3
      rw [HB.out]
      have hbase := HBw3.out.size
      have Hnb := Lib.hid (blk_not_row Hsw3.out (by decide) Hrw3.out)
      go_wp2_with (at_builtin; refine wpList_append_own_at _ rfl _ _ 255 rfl w.heap.size 257 i0 (.agg #[.int .u8 0, .int .u8 0]) 2 2 Tryz.underlying255 hi hz0 hz1 hz2 rfl (by decide) _ _ _ rfl (Hrw3.out.alloc _) ⟨w3.heap.size, 0, none⟩ 1 1 [.int .u8 ((c : Nat) : Int), .int .u8 (c : Int)] rfl rfl (cell_two_new _ _ _ _) (by simp [Value.oneCell']) hb1m hb2m (Nat.le_trans hbase (by simp)) ?_; intro v' w9 hown' hgrow _ _)
      have Hown9 := Lib.hid hown'
      have Hgrow9 := Lib.hid hgrow
      clear hown' hgrow
      go_light
      go_roundw
      case rel => exact ⟨c + 1, c, out ++ [(c, c)], rfl, by go_num, by omega, by omega, Hnext.out, by simp; omega, by rw [spanCells_snoc]; simp only [List.length_append, List.length_singleton]; exact Hown9.out, (Hsw3.out.alloc _).grown Hgrow9.out Hnb.out, below_grown (HBw3.out.alloc hbase _) Hgrow9.out (Hrw3.out.alloc _) (Nat.le_refl _) (Nat.le_trans hbase (by simp))⟩
      case measure => simp [intOf]; omega
     ·have bB : ((c : Int) == 255) = false := by simp; omega
      have eB : p ((c : Int) + 1).toNat = true := by rw [show ((c : Int) + 1).toNat = c + 1 by omega]; exact hB'
      have Hnext := Lib.hid (open_keep p c hx Hyes.out hB hB')
      have HB := Lib.hid eB
      clear hB' eB
      have Hc := Lib.hid hA
      clear hA
      go_wp2_with fail
      refine (rhas_any _ _ _ (by omega) (by omega)).mono ?_
      rintro e w1 ⟨rfl, hbw1⟩
      have Hrw1 := Lib.hid (own_below Hrwr.out hbw1)
      have Hsw1 := Lib.hid (Hswr.out.below hbw1 Hswr.out.lt)
      have HBw1 := Lib.hid (HBwr.out.trans (hbw1.mono HBwr.out.size))
      obtain ⟨s0, s1, s2, s3, f0, f1, f2, f3⟩ := Hsw1.out.c4
      clear hbw1
      go_wp2_with fail
      refine (rhas_any _ _ _ (by omega) (by omega)).mono ?_
      rintro e w3 ⟨rfl, hbw3⟩
      have Hrw3 := Lib.hid (own_below Hrw1.out hbw3)
      have Hsw3 := Lib.hid (Hsw1.out.below hbw3 Hsw1.out.lt)
      have HBw3 := Lib.hid (HBw1.out.trans (hbw3.mono HBw1.out.size))
      obtain ⟨s0, s1, s2, s3, f0, f1, f2, f3⟩ := Hsw3.out.c4
      clear hbw3
      rw [HB.out]
      go_wp2
      go_light
      go_roundw
      case rel => exact ⟨c + 1, c, out, rfl, by go_num, by omega, by omega, Hnext.out, by omega, Hrw3.out, Hsw3.out, HBw3.out⟩
      case measure => simp [intOf]; omega
    ·have bA : ((c : Int) == 0) = false := by simp; omega
     have eA : p ((c : Int) - 1).toNat = false := by rw [show ((c : Int) - 1).toNat = c - 1 by omega]; exact hA'
     have Hyes := Lib.hid (open_yes p c hlt hx Hop.out c (by rw [if_pos (.inr hA')]))
     have HA := Lib.hid eA
     clear hA' eA
     rcases hB with hB | ⟨hB, hB'⟩ | ⟨hB, hB'⟩
     ·have bB : ((c : Int) == 255) = true := by simp; omega
      have Hnext := Lib.hid (open_close p c Hyes.out (.inl hB) c)
      have Hc := Lib.hid hB
      clear hB
      go_wp2_with fail
      refine (rhas_any _ _ _ (by omega) (by omega)).mono ?_
      rintro e w1 ⟨rfl, hbw1⟩
      have Hrw1 := Lib.hid (own_below Hrwr.out hbw1)
      have Hsw1 := Lib.hid (Hswr.out.below hbw1 Hswr.out.lt)
      have HBw1 := Lib.hid (HBwr.out.trans (hbw1.mono HBwr.out.size))
      obtain ⟨s0, s1, s2, s3, f0, f1, f2, f3⟩ := Hsw1.out.c4
      clear hbw1
      go_wp2_with fail
      refine (rhas_any _ _ _ (by omega) (by omega)).mono ?_
      rintro e w2 ⟨rfl, hbw2⟩
      have Hrw2 := Lib.hid (own_below Hrw1.out hbw2)
      have Hsw2 := Lib.hid (Hsw1.out.below hbw2 Hsw1.out.lt)
      have HBw2 := Lib.hid (HBw1.out.trans (hbw2.mono HBw1.out.size))
      obtain ⟨s0, s1, s2, s3, f0, f1, f2, f3⟩ := Hsw2.out.c4
      clear hbw2
      rw [HA.out]
      have hbase := HBw2.out.size
      have Hnb := Lib.hid (blk_not_row Hsw2.out (by decide) Hrw2.out)
      go_wp2_with (at_builtin; refine wpList_append_own_at _ rfl _ _ 255 rfl w.heap.size 257 i0 (.agg #[.int .u8 0, .int .u8 0]) 2 2 Tryz.underlying255 hi hz0 hz1 hz2 rfl (by decide) _ _ _ rfl (Hrw2.out.alloc _) ⟨w2.heap.size, 0, none⟩ 1 1 [.int .u8 ((c : Nat) : Int), .int .u8 (c : Int)] rfl rfl (cell_two_new _ _ _ _) (by simp [Value.oneCell']) hb1m hb2m (Nat.le_trans hbase (by simp)) ?_; intro v' w9 hown' hgrow _ _)
      have Hown9 := Lib.hid hown'
      have Hgrow9 := Lib.hid hgrow
      clear hown' hgrow
      go_light
      go_roundw
      case rel => exact ⟨c + 1, c, out ++ [(c, c)], rfl, by go_num, by omega, by omega, Hnext.out, by simp; omega, by rw [spanCells_snoc]; simp only [List.length_append, List.length_singleton]; exact Hown9.out, (Hsw2.out.alloc _).grown Hgrow9.out Hnb.out, below_grown (HBw2.out.alloc hbase _) Hgrow9.out (Hrw2.out.alloc _) (Nat.le_refl _) (Nat.le_trans hbase (by simp))⟩
      case measure => simp [intOf]; omega
     ·have bB : ((c : Int) == 255) = false := by simp; omega
      have eB : p ((c : Int) + 1).toNat = false := by rw [show ((c : Int) + 1).toNat = c + 1 by omega]; exact hB'
      have Hnext := Lib.hid (open_close p c Hyes.out (.inr hB') c)
      have HB := Lib.hid eB
      clear hB' eB
      go_wp2_with fail
      refine (rhas_any _ _ _ (by omega) (by omega)).mono ?_
      rintro e w1 ⟨rfl, hbw1⟩
      have Hrw1 := Lib.hid (own_below Hrwr.out hbw1)
      have Hsw1 := Lib.hid (Hswr.out.below hbw1 Hswr.out.lt)
      have HBw1 := Lib.hid (HBwr.out.trans (hbw1.mono HBwr.out.size))
      obtain ⟨s0, s1, s2, s3, f0, f1, f2, f3⟩ := Hsw1.out.c4
      clear hbw1
      go_wp2_with fail
      refine (rhas_any _ _ _ (by omega) (by omega)).mono ?_
      rintro e w2 ⟨rfl, hbw2⟩
      have Hrw2 := Lib.hid (own_below Hrw1.out hbw2)
      have Hsw2 := Lib.hid (Hsw1.out.below hbw2 Hsw1.out.lt)
      have HBw2 := Lib.hid (HBw1.out.trans (hbw2.mono HBw1.out.size))
      obtain ⟨s0, s1, s2, s3, f0, f1, f2, f3⟩ := Hsw2.out.c4
      clear hbw2
      rw [HA.out]
      go_wp2_with fail
      refine (rhas_any _ _ _ (by omega) (by omega)).mono ?_
      rintro e w3 ⟨rfl, hbw3⟩
      have Hrw3 := Lib.hid (own_below Hrw2.out hbw3)
      have Hsw3 := Lib.hid (Hsw2.out.below hbw3 Hsw2.out.lt)
      have HBw3 := Lib.hid (HBw2.out.trans (hbw3.mono HBw2.out.size))
      obtain ⟨s0, s1, s2, s3, f0, f1, f2, f3⟩ := Hsw3.out.c4
      clear hbw3
      rw [HB.out]
      have hbase := HBw3.out.size
      have Hnb := Lib.hid (blk_not_row Hsw3.out (by decide) Hrw3.out)
      go_wp2_with (at_builtin; refine wpList_append_own_at _ rfl _ _ 255 rfl w.heap.size 257 i0 (.agg #[.int .u8 0, .int .u8 0]) 2 2 Tryz.underlying255 hi hz0 hz1 hz2 rfl (by decide) _ _ _ rfl (Hrw3.out.alloc _) ⟨w3.heap.size, 0, none⟩ 1 1 [.int .u8 ((c : Nat) : Int), .int .u8 (c : Int)] rfl rfl (cell_two_new _ _ _ _) (by simp [Value.oneCell']) hb1m hb2m (Nat.le_trans hbase (by simp)) ?_; intro v' w9 hown' hgrow _ _)
      have Hown9 := Lib.hid hown'
      have Hgrow9 := Lib.hid hgrow
      clear hown' hgrow
      go_light
      go_roundw
      case rel => exact ⟨c + 1, c, out ++ [(c, c)], rfl, by go_num, by omega, by omega, Hnext.out, by simp; omega, by rw [spanCells_snoc]; simp only [List.length_append, List.length_singleton]; exact Hown9.out, (Hsw3.out.alloc _).grown Hgrow9.out Hnb.out, below_grown (HBw3.out.alloc hbase _) Hgrow9.out (Hrw3.out.alloc _) (Nat.le_refl _) (Nat.le_trans hbase (by simp))⟩
      case measure => simp [intOf]; omega
     ·have bB : ((c : Int) == 255) = false := by simp; omega
      have eB : p ((c : Int) + 1).toNat = true := by rw [show ((c : Int) + 1).toNat = c + 1 by omega]; exact hB'
      have Hnext := Lib.hid (open_keep p c hx Hyes.out hB hB')
      have HB := Lib.hid eB
      clear hB' eB
      go_wp2_with fail
      refine (rhas_any _ _ _ (by omega) (by omega)).mono ?_
      rintro e w1 ⟨rfl, hbw1⟩
      have Hrw1 := Lib.hid (own_below Hrwr.out hbw1)
      have Hsw1 := Lib.hid (Hswr.out.below hbw1 Hswr.out.lt)
      have HBw1 := Lib.hid (HBwr.out.trans (hbw1.mono HBwr.out.size))
      obtain ⟨s0, s1, s2, s3, f0, f1, f2, f3⟩ := Hsw1.out.c4
      clear hbw1
      go_wp2_with fail
      refine (rhas_any _ _ _ (by omega) (by omega)).mono ?_
      rintro e w2 ⟨rfl, hbw2⟩
      have Hrw2 := Lib.hid (own_below Hrw1.out hbw2)
      have Hsw2 := Lib.hid (Hsw1.out.below hbw2 Hsw1.out.lt)
      have HBw2 := Lib.hid (HBw1.out.trans (hbw2.mono HBw1.out.size))
      obtain ⟨s0, s1, s2, s3, f0, f1, f2, f3⟩ := Hsw2.out.c4
      clear hbw2
      rw [HA.out]
      go_wp2_with fail
      refine (rhas_any _ _ _ (by omega) (by omega)).mono ?_
      rintro e w3 ⟨rfl, hbw3⟩
      have Hrw3 := Lib.hid (own_below Hrw2.out hbw3)
      have Hsw3 := Lib.hid (Hsw2.out.below hbw3 Hsw2.out.lt)
      have HBw3 := Lib.hid (HBw2.out.trans (hbw3.mono HBw2.out.size))
      obtain ⟨s0, s1, s2, s3, f0, f1, f2, f3⟩ := Hsw3.out.c4
      clear hbw3
      rw [HB.out]
      go_wp2
      go_light
      go_roundw
      case rel => exact ⟨c + 1, c, out, rfl, by go_num, by omega, by omega, Hnext.out, by omega, Hrw3.out, Hsw3.out, HBw3.out⟩
      case measure => simp [intOf]; omega
    ·have bA : ((c : Int) == 0) = false := by simp; omega
     have eA : p ((c : Int) - 1).toNat = true := by rw [show ((c : Int) - 1).toNat = c - 1 by omega]; exact hA'
     have Hyes := Lib.hid (open_yes p c hlt hx Hop.out lo (by rw [if_neg (by rw [hA']; simp; omega)]))
     have HA := Lib.hid eA
     clear hA' eA
     rcases hB with hB | ⟨hB, hB'⟩ | ⟨hB, hB'⟩
     ·have bB : ((c : Int) == 255) = true := by simp; omega
      have Hnext := Lib.hid (open_close p c Hyes.out (.inl hB) lo)
      have Hc := Lib.hid hB
      clear hB
      go_wp2_with fail
      refine (rhas_any _ _ _ (by omega) (by omega)).mono ?_
      rintro e w1 ⟨rfl, hbw1⟩
      have Hrw1 := Lib.hid (own_below Hrwr.out hbw1)
      have Hsw1 := Lib.hid (Hswr.out.below hbw1 Hswr.out.lt)
      have HBw1 := Lib.hid (HBwr.out.trans (hbw1.mono HBwr.out.size))
      obtain ⟨s0, s1, s2, s3, f0, f1, f2, f3⟩ := Hsw1.out.c4
      clear hbw1
      go_wp2_with fail
      refine (rhas_any _ _ _ (by omega) (by omega)).mono ?_
      rintro e w2 ⟨rfl, hbw2⟩
      have Hrw2 := Lib.hid (own_below Hrw1.out hbw2)
      have Hsw2 := Lib.hid (Hsw1.out.below hbw2 Hsw1.out.lt)
      have HBw2 := Lib.hid (HBw1.out.trans (hbw2.mono HBw1.out.size))
      obtain ⟨s0, s1, s2, s3, f0, f1, f2, f3⟩ := Hsw2.out.c4
      clear hbw2
      rw [HA.out]
      have hbase := HBw2.out.size
      have Hnb := Lib.hid (blk_not_row Hsw2.out (by decide) Hrw2.out)
      go_wp2_with (at_builtin; refine wpList_append_own_at _ rfl _ _ 255 rfl w.heap.size 257 i0 (.agg #[.int .u8 0, .int .u8 0]) 2 2 Tryz.underlying255 hi hz0 hz1 hz2 rfl (by decide) _ _ _ rfl (Hrw2.out.alloc _) ⟨w2.heap.size, 0, none⟩ 1 1 [.int .u8 ((lo : Nat) : Int), .int .u8 (c : Int)] rfl rfl (cell_two_new _ _ _ _) (by simp [Value.oneCell']) hb1m hb2m (Nat.le_trans hbase (by simp)) ?_; intro v' w9 hown' hgrow _ _)
      have Hown9 := Lib.hid hown'
      have Hgrow9 := Lib.hid hgrow
      clear hown' hgrow
      go_light
      go_roundw
      case rel => exact ⟨c + 1, lo, out ++ [(lo, c)], rfl, by go_num, by omega, by omega, Hnext.out, by simp; omega, by rw [spanCells_snoc]; simp only [List.length_append, List.length_singleton]; exact Hown9.out, (Hsw2.out.alloc _).grown Hgrow9.out Hnb.out, below_grown (HBw2.out.alloc hbase _) Hgrow9.out (Hrw2.out.alloc _) (Nat.le_refl _) (Nat.le_trans hbase (by simp))⟩
      case measure => simp [intOf]; omega
     ·have bB : ((c : Int) == 255) = false := by simp; omega
      have eB : p ((c : Int) + 1).toNat = false := by rw [show ((c : Int) + 1).toNat = c + 1 by omega]; exact hB'
      have Hnext := Lib.hid (open_close p c Hyes.out (.inr hB') lo)
      have HB := Lib.hid eB
      clear hB' eB
      go_wp2_with fail
      refine (rhas_any _ _ _ (by omega) (by omega)).mono ?_
      rintro e w1 ⟨rfl, hbw1⟩
      have Hrw1 := Lib.hid (own_below Hrwr.out hbw1)
      have Hsw1 := Lib.hid (Hswr.out.below hbw1 Hswr.out.lt)
      have HBw1 := Lib.hid (HBwr.out.trans (hbw1.mono HBwr.out.size))
      obtain ⟨s0, s1, s2, s3, f0, f1, f2, f3⟩ := Hsw1.out.c4
      clear hbw1
      go_wp2_with fail
      refine (rhas_any _ _ _ (by omega) (by omega)).mono ?_
      rintro e w2 ⟨rfl, hbw2⟩
      have Hrw2 := Lib.hid (own_below Hrw1.out hbw2)
      have Hsw2 := Lib.hid (Hsw1.out.below hbw2 Hsw1.out.lt)
      have HBw2 := Lib.hid (HBw1.out.trans (hbw2.mono HBw1.out.size))
      obtain ⟨s0, s1, s2, s3, f0, f1, f2, f3⟩ := Hsw2.out.c4
      clear hbw2
      rw [HA.out]
      go_wp2_with fail
      refine (rhas_any _ _ _ (by omega) (by omega)).mono ?_
      rintro e w3 ⟨rfl, hbw3⟩
      have Hrw3 := Lib.hid (own_below Hrw2.out hbw3)
      have Hsw3 := Lib.hid (Hsw2.out.below hbw3 Hsw2.out.lt)
      have HBw3 := Lib.hid (HBw2.out.trans (hbw3.mono HBw2.out.size))
      obtain ⟨s0, s1, s2, s3, f0, f1, f2, f3⟩ := Hsw3.out.c4
      clear hbw3
      rw [HB.out]
      have hbase := HBw3.out.size
      have Hnb := Lib.hid (blk_not_row Hsw3.out (by decide) Hrw3.out)
      go_wp2_with (at_builtin; refine wpList_append_own_at _ rfl _ _ 255 rfl w.heap.size 257 i0 (.agg #[.int .u8 0, .int .u8 0]) 2 2 Tryz.underlying255 hi hz0 hz1 hz2 rfl (by decide) _ _ _ rfl (Hrw3.out.alloc _) ⟨w3.heap.size, 0, none⟩ 1 1 [.int .u8 ((lo : Nat) : Int), .int .u8 (c : Int)] rfl rfl (cell_two_new _ _ _ _) (by simp [Value.oneCell']) hb1m hb2m (Nat.le_trans hbase (by simp)) ?_; intro v' w9 hown' hgrow _ _)
      have Hown9 := Lib.hid hown'
      have Hgrow9 := Lib.hid hgrow
      clear hown' hgrow
      go_light
      go_roundw
      case rel => exact ⟨c + 1, lo, out ++ [(lo, c)], rfl, by go_num, by omega, by omega, Hnext.out, by simp; omega, by rw [spanCells_snoc]; simp only [List.length_append, List.length_singleton]; exact Hown9.out, (Hsw3.out.alloc _).grown Hgrow9.out Hnb.out, below_grown (HBw3.out.alloc hbase _) Hgrow9.out (Hrw3.out.alloc _) (Nat.le_refl _) (Nat.le_trans hbase (by simp))⟩
      case measure => simp [intOf]; omega
     ·have bB : ((c : Int) == 255) = false := by simp; omega
      have eB : p ((c : Int) + 1).toNat = true := by rw [show ((c : Int) + 1).toNat = c + 1 by omega]; exact hB'
      have Hnext := Lib.hid (open_keep p c hx Hyes.out hB hB')
      have HB := Lib.hid eB
      clear hB' eB
      go_wp2_with fail
      refine (rhas_any _ _ _ (by omega) (by omega)).mono ?_
      rintro e w1 ⟨rfl, hbw1⟩
      have Hrw1 := Lib.hid (own_below Hrwr.out hbw1)
      have Hsw1 := Lib.hid (Hswr.out.below hbw1 Hswr.out.lt)
      have HBw1 := Lib.hid (HBwr.out.trans (hbw1.mono HBwr.out.size))
      obtain ⟨s0, s1, s2, s3, f0, f1, f2, f3⟩ := Hsw1.out.c4
      clear hbw1
      go_wp2_with fail
      refine (rhas_any _ _ _ (by omega) (by omega)).mono ?_
      rintro e w2 ⟨rfl, hbw2⟩
      have Hrw2 := Lib.hid (own_below Hrw1.out hbw2)
      have Hsw2 := Lib.hid (Hsw1.out.below hbw2 Hsw1.out.lt)
      have HBw2 := Lib.hid (HBw1.out.trans (hbw2.mono HBw1.out.size))
      obtain ⟨s0, s1, s2, s3, f0, f1, f2, f3⟩ := Hsw2.out.c4
      clear hbw2
      rw [HA.out]
      go_wp2_with fail
      refine (rhas_any _ _ _ (by omega) (by omega)).mono ?_
      rintro e w3 ⟨rfl, hbw3⟩
      have Hrw3 := Lib.hid (own_below Hrw2.out hbw3)
      have Hsw3 := Lib.hid (Hsw2.out.below hbw3 Hsw2.out.lt)
      have HBw3 := Lib.hid (HBw2.out.trans (hbw3.mono HBw2.out.size))
      obtain ⟨s0, s1, s2, s3, f0, f1, f2, f3⟩ := Hsw3.out.c4
      clear hbw3
      rw [HB.out]
      go_wp2
      go_light
      go_roundw
      case rel => exact ⟨c + 1, lo, out, rfl, by go_num, by omega, by omega, Hnext.out, by omega, Hrw3.out, Hsw3.out, HBw3.out⟩
      case measure => simp [intOf]; omega
  ·have he : c = 256 := by omega
   subst he
   have hop' := open_end p hop
   rw [hop'] at hrow
   have Hrow := Lib.hid hrow
   clear hrow hs hop hop' hol
   go_wp2
   go_light
   go_ret
   exact ⟨_, rfl, Hrow.out, hb⟩
end Go.Proofs.YtfekpkelmliejaaGreatDoor
