/- Texts of the claim. -/
import Derived.Test.YtfekpkelmliejaaGreatDoorJNfaD
namespace Go.Proofs.YtfekpkelmliejaaGreatDoor
open Go.RowKit
set_option linter.unusedSimpArgs false
set_option linter.unusedVariables false
set_option maxRecDepth 100000
set_option maxHeartbeats 8000000
theorem timesF_snoc (f : LayF) : ∀ (k : Nat) (m : MachS) (i : Nat), timesF f (k + 1) m i = f (timesF f k m i).1 (timesF f k m i).2
 | 0, m, i => rfl
 | k + 1, m, i => timesF_snoc f k _ _
theorem timesF_part {f : LayF} (h : GrowsF f) (m : MachS) (i k : Nat) : ∀ d, ExtM (timesF f k m i).1 (timesF f (k + d) m i).1
 | 0 => ExtM.refl _
 | d + 1 => by
  have := timesF_part h m i k d
  rw [show k + (d + 1) = (k + d) + 1 by omega, timesF_snoc]
  exact this.trans (h _ _)
theorem optsF_snoc (f : LayF) (t : Nat) : ∀ (k : Nat) (m : MachS) (i : Nat), optsF f t (k + 1) m i = f ((optsF f t k m i).1.link (optsF f t k m i).2 t) (optsF f t k m i).2
 | 0, m, i => rfl
 | k + 1, m, i => optsF_snoc f t k _ _
theorem optsF_part {f : LayF} (h : GrowsF f) (t : Nat) (m : MachS) (i k : Nat) : ∀ d, ExtM (optsF f t k m i).1 (optsF f t (k + d) m i).1
 | 0 => ExtM.refl _
 | d + 1 => by
  have := optsF_part h t m i k d
  rw [show k + (d + 1) = (k + d) + 1 by omega, optsF_snoc]
  exact this.trans ((ExtM.link _ _ _).trans (h _ _))
theorem loopF_grows {f : LayF} (p : Bool) (h : GrowsF f) : GrowsF (loopF p f) := fun m i => (ExtM.state m 0).trans ((ExtM.link _ _ _).trans ((h _ _).trans (ExtM.link _ _ _)))
theorem upF_grows {f : LayF} (k : Nat) (h : GrowsF f) : GrowsF (upF f k) := fun m i => by
 have := optsF_part h m.states (m.state 0) i 0 k
 rw [Nat.zero_add] at this
 exact (ExtM.state m 0).trans (this.trans (ExtM.link _ _ _))
theorem word_zeroN (j : Nat) : word (Nat.testBit 0) j = 0 := by
 have : Nat.testBit 0 = fun _ => false := by funext i; simp
 rw [this, word_none]
theorem lrep_zero (x : Nd) (z : Nd) (hz : x.kids.list = [z]) (hlay : LayC z) (hgr : GrowsF z.lay) (hzs : z.size ≤ 140737488355328) (hzn : ∀ y ∈ z.nodes, numsOk y) (hk : x.kind = 9) (B : Option Addr) (cap i base g : Nat) (S : Nat → Prop) (m : MachS) (w : World) (ht : TreesAt w (fun b => b < base) x.kids B) (h : LayAt w base g S m) (hb : base ≤ w.heap.size) (h0 : z.wgt = 0) : Calls Tryz.prog 169 #[.pointer (some ⟨g, 0, none⟩), ndV x B cap, .int .i64 (i : Int)] w (LayOut base g S w (repF z.wgt x.lo x.hi z.lay m i)) := by
 have hn1 : x.kids.len = 1 := one_len hz
 have hX := Blk.new w 28 (ndA x B cap)
 have x5 : (w.alloc (.cells (ndA x B cap) 28)).cell? ⟨w.heap.size, 5, none⟩ = some (.slice B x.kids.len cap) := hX.cell 5
 have hT1 := ht.below ((Below.refl _ _).alloc (Nat.le_refl _) (.cells (ndA x B cap) 28))
 obtain ⟨b, o, C, capc, rfl, hbb, hnd, hkz⟩ := hT1.sole hz
 have hblk := World.block_lt_of_cell? _ _ hnd.1
 obtain ⟨c0, c1, c2, c3, c4, c5, c6, c7⟩ := hnd
 have hsz2 : ((w.alloc (.cells (ndA x (some ⟨b, o, none⟩) cap) 28)).alloc (.cells (ndA z C capc) 28)).heap.size = w.heap.size + 1 + 1 := by simp
 have HX := Lib.hid (show Blk ((w.alloc (.cells (ndA x (some ⟨b, o, none⟩) cap) 28)).alloc (.cells (ndA z C capc) 28)) w.heap.size 28 (ndA x (some ⟨b, o, none⟩) cap) ∧ ¬ S w.heap.size from ⟨hX.alloc _, h.not (Nat.le_refl _)⟩)
 have HZB := Lib.hid (show Blk ((w.alloc (.cells (ndA x (some ⟨b, o, none⟩) cap) 28)).alloc (.cells (ndA z C capc) 28)) (w.heap.size + 1) 28 (ndA z C capc) ∧ ¬ S (w.heap.size + 1) from ⟨Blk.new_at (by simp), h.not (by omega)⟩)
 have hb2 : Below (w.alloc (.cells (ndA x (some ⟨b, o, none⟩) cap) 28)).heap.size (w.alloc (.cells (ndA x (some ⟨b, o, none⟩) cap) 28)) ((w.alloc (.cells (ndA x (some ⟨b, o, none⟩) cap) 28)).alloc (.cells (ndA z C capc) 28)) := (Below.refl _ _).alloc (Nat.le_refl _) _
 have HT2 := Lib.hid (hT1.below hb2)
 have HK2 := Lib.hid (hkz.below hb2)
 have HL2 := Lib.hid (show LayAt ((w.alloc (.cells (ndA x (some ⟨b, o, none⟩) cap) 28)).alloc (.cells (ndA z C capc) 28)) base g S m ∧ Moves base S w S ((w.alloc (.cells (ndA x (some ⟨b, o, none⟩) cap) 28)).alloc (.cells (ndA z C capc) 28)) from ⟨(h.alloc _).alloc _, ((Moves.refl base S w).alloc hb _).alloc hb _⟩)
 have HW := Lib.hid (nwgt_go z (fun b => b < base) C capc ((w.alloc (.cells (ndA x (some ⟨b, o, none⟩) cap) 28)).alloc (.cells (ndA z C capc) 28)) hzs hzn (hkz.below hb2))
 have HB := Lib.hid hb
 have HLAY := Lib.hid hlay
 have HGR := Lib.hid hgr
 have HZ := Lib.hid hz
 clear hz ht h hlay hgr hzn hX hT1 hkz hb2
 unfold ndV at *
 unfold ndA at *
 rw [hk] at *
 rw [hn1] at *
 clear hk hn1
 have HV := Lib.hid (show repF z.wgt x.lo x.hi z.lay m i = (m, i) by unfold repF; rw [if_pos h0])
 rw [h0] at HW
 clear h0
 generalize z.wgt = n at *
 go_enter Tryz.func169, Tryz.ntmps169
 go_wp2_with fail
 refine HW.out.mono ?_
 rintro e w3 ⟨rfl, hb3⟩
 have HO := Lib.hid (show ∃ S', LayAt w3 base g S' m ∧ Moves base S w S' w3 from ⟨S, HL2.out.1.below hb3, HL2.out.2.trans (Moves.of_below hb3 (by have := HB.out; omega))⟩)
 clear hb3 HW
 dsimp only
 go_wp2
 go_light
 go_ret
 rw [HV.out]
 exact ⟨rfl, HO.out⟩
theorem lrep_same (x : Nd) (z : Nd) (hz : x.kids.list = [z]) (hlay : LayC z) (hgr : GrowsF z.lay) (hzs : z.size ≤ 140737488355328) (hzn : ∀ y ∈ z.nodes, numsOk y) (hk : x.kind = 9) (B : Option Addr) (cap i base g : Nat) (S : Nat → Prop) (m : MachS) (w : World) (ht : TreesAt w (fun b => b < base) x.kids B) (h : LayAt w base g S m) (hb : base ≤ w.heap.size) (h0 : z.wgt ≠ 0) (hlo : 0 ≤ x.lo) (hlo2 : x.lo ≤ 1000) (hh : x.hi = x.lo) (hf : FitsM (repF z.wgt x.lo x.hi z.lay m i).1) : Calls Tryz.prog 169 #[.pointer (some ⟨g, 0, none⟩), ndV x B cap, .int .i64 (i : Int)] w (LayOut base g S w (repF z.wgt x.lo x.hi z.lay m i)) := by
 obtain ⟨l, hl⟩ := Int.eq_ofNat_of_zero_le hlo
 have hltn : x.lo.toNat = l := by omega
 have hl1 : l ≤ 1000 := by omega
 have hV : repF z.wgt x.lo x.hi z.lay m i = timesF z.lay l m i := by unfold repF; rw [if_neg h0, if_neg (by omega), if_pos hh, hltn]
 have HFT := Lib.hid (show FitsM (timesF z.lay l m i).1 by rw [← hV]; exact hf)
 have HV := Lib.hid hV
 have HH := Lib.hid hh
 clear hV hf hltn hh hlo
 have hn1 : x.kids.len = 1 := one_len hz
 have hX := Blk.new w 28 (ndA x B cap)
 have x5 : (w.alloc (.cells (ndA x B cap) 28)).cell? ⟨w.heap.size, 5, none⟩ = some (.slice B x.kids.len cap) := hX.cell 5
 have hT1 := ht.below ((Below.refl _ _).alloc (Nat.le_refl _) (.cells (ndA x B cap) 28))
 obtain ⟨b, o, C, capc, rfl, hbb, hnd, hkz⟩ := hT1.sole hz
 have hblk := World.block_lt_of_cell? _ _ hnd.1
 obtain ⟨c0, c1, c2, c3, c4, c5, c6, c7⟩ := hnd
 have hsz2 : ((w.alloc (.cells (ndA x (some ⟨b, o, none⟩) cap) 28)).alloc (.cells (ndA z C capc) 28)).heap.size = w.heap.size + 1 + 1 := by simp
 have HX := Lib.hid (show Blk ((w.alloc (.cells (ndA x (some ⟨b, o, none⟩) cap) 28)).alloc (.cells (ndA z C capc) 28)) w.heap.size 28 (ndA x (some ⟨b, o, none⟩) cap) ∧ ¬ S w.heap.size from ⟨hX.alloc _, h.not (Nat.le_refl _)⟩)
 have HZB := Lib.hid (show Blk ((w.alloc (.cells (ndA x (some ⟨b, o, none⟩) cap) 28)).alloc (.cells (ndA z C capc) 28)) (w.heap.size + 1) 28 (ndA z C capc) ∧ ¬ S (w.heap.size + 1) from ⟨Blk.new_at (by simp), h.not (by omega)⟩)
 have hb2 : Below (w.alloc (.cells (ndA x (some ⟨b, o, none⟩) cap) 28)).heap.size (w.alloc (.cells (ndA x (some ⟨b, o, none⟩) cap) 28)) ((w.alloc (.cells (ndA x (some ⟨b, o, none⟩) cap) 28)).alloc (.cells (ndA z C capc) 28)) := (Below.refl _ _).alloc (Nat.le_refl _) _
 have HT2 := Lib.hid (hT1.below hb2)
 have HK2 := Lib.hid (hkz.below hb2)
 have HL2 := Lib.hid (show LayAt ((w.alloc (.cells (ndA x (some ⟨b, o, none⟩) cap) 28)).alloc (.cells (ndA z C capc) 28)) base g S m ∧ Moves base S w S ((w.alloc (.cells (ndA x (some ⟨b, o, none⟩) cap) 28)).alloc (.cells (ndA z C capc) 28)) from ⟨(h.alloc _).alloc _, ((Moves.refl base S w).alloc hb _).alloc hb _⟩)
 have HW := Lib.hid (nwgt_go z (fun b => b < base) C capc ((w.alloc (.cells (ndA x (some ⟨b, o, none⟩) cap) 28)).alloc (.cells (ndA z C capc) 28)) hzs hzn (hkz.below hb2))
 have HB := Lib.hid hb
 have HLAY := Lib.hid hlay
 have HGR := Lib.hid hgr
 have HZ := Lib.hid hz
 clear hz ht h hlay hgr hzn hX hT1 hkz hb2
 unfold ndV at *
 unfold ndA at *
 rw [hk] at *
 rw [hn1] at *
 clear hk hn1
 generalize z.wgt = n at *
 have hnz : ((n : Int) == 0) = false := by rw [beq_eq_false_iff_ne]; omega
 have y6 : ((w.alloc (.cells #[.int .i64 9, .int .u64 (word x.set.testBit 0), .int .u64 (word x.set.testBit 1), .int .u64 (word x.set.testBit 2), .int .u64 (word x.set.testBit 3), .slice (some ⟨b, o, none⟩) 1 cap, .int .i64 x.lo, .int .i64 x.hi] 28)).alloc (.cells #[.int .i64 z.kind, .int .u64 (word z.set.testBit 0), .int .u64 (word z.set.testBit 1), .int .u64 (word z.set.testBit 2), .int .u64 (word z.set.testBit 3), .slice C z.kids.len capc, .int .i64 z.lo, .int .i64 z.hi] 28)).cell? ⟨w.heap.size, 6, none⟩ = some (.int .i64 (l : Int)) := by rw [← hl]; exact HX.out.1.cell 6
 have HL := Lib.hid hl
 clear hl
 go_enter Tryz.func169, Tryz.ntmps169
 go_wp2_with fail
 refine HW.out.mono ?_
 rintro e w3 ⟨rfl, hb3⟩
 have hX3 := HX.out.1.below hb3 (by simp; omega)
 have x6 : w3.cell? ⟨w.heap.size, 6, none⟩ = some (.int .i64 (l : Int)) := by rw [← HL.out]; exact hX3.cell 6
 have hs3 : w.heap.size + 1 + 1 ≤ w3.heap.size := by have := hb3.size; omega
 have HM3 := Lib.hid (show ∃ S', LayAt w3 base g S' (timesF z.lay 0 m i).1 ∧ Moves base S ((w.alloc (.cells #[.int .i64 9, .int .u64 (word x.set.testBit 0), .int .u64 (word x.set.testBit 1), .int .u64 (word x.set.testBit 2), .int .u64 (word x.set.testBit 3), .slice (some ⟨b, o, none⟩) 1 cap, .int .i64 x.lo, .int .i64 x.hi] 28)).alloc (.cells #[.int .i64 z.kind, .int .u64 (word z.set.testBit 0), .int .u64 (word z.set.testBit 1), .int .u64 (word z.set.testBit 2), .int .u64 (word z.set.testBit 3), .slice C z.kids.len capc, .int .i64 z.lo, .int .i64 z.hi] 28)) S' w3 from ⟨S, HL2.out.1.below hb3, Moves.of_below hb3 (by have := HB.out; omega)⟩)
 clear hb3 HW hX3 c0 c1 c2 c3 c4 c5 c6 c7 x5 y6 hbb hblk
 dsimp only
 go_wp2
 go_loopw [2, 19] (fun v i' wr => ∃ k : Nat, i' = .int .i64 (k : Int) ∧ k ≤ l ∧ v = .int .i64 (((timesF z.lay k m i).2 : Nat) : Int) ∧ Hid (∃ S', LayAt wr base g S' (timesF z.lay k m i).1 ∧ Moves base S ((w.alloc (.cells #[.int .i64 9, .int .u64 (word x.set.testBit 0), .int .u64 (word x.set.testBit 1), .int .u64 (word x.set.testBit 2), .int .u64 (word x.set.testBit 3), .slice (some ⟨b, o, none⟩) 1 cap, .int .i64 x.lo, .int .i64 x.hi] 28)).alloc (.cells #[.int .i64 z.kind, .int .u64 (word z.set.testBit 0), .int .u64 (word z.set.testBit 1), .int .u64 (word z.set.testBit 2), .int .u64 (word z.set.testBit 3), .slice C z.kids.len capc, .int .i64 z.lo, .int .i64 z.hi] 28)) S' wr)) (fun _ i' _ => l - (intOf i').toNat)
 case atStart => exact ⟨0, rfl, Nat.zero_le _, rfl, HM3⟩
 case round =>
  clear HM3 hs3 x6
  obtain ⟨k, rfl, hk, rfl, HM⟩ := hrel
  obtain ⟨S1, hL1, hM1⟩ := HM.out
  have hZ1 := HZB.out.1.moves hM1 HZB.out.2
  have hX1 := HX.out.1.moves hM1 HX.out.2
  have hsr : w.heap.size + 1 + 1 ≤ wr.heap.size := by have := hM1.size; omega
  by_cases hlt : k < l
  ·have hdl : (k : Int) < (l : Int) := by omega
   have hfk : FitsM (z.lay (timesF z.lay k m i).1 (timesF z.lay k m i).2).1 := by
    have := HFT.out.of (timesF_part HGR.out m i (k + 1) (l - (k + 1)) |> fun h => by rw [show k + 1 + (l - (k + 1)) = l by omega] at h; exact h)
    rw [timesF_snoc] at this
    exact this
   have HI := Lib.hid (HLAY.out C capc (timesF z.lay k m i).2 base g S1 (timesF z.lay k m i).1 wr (HK2.out.moves hM1) hL1 (by have := HB.out; omega) hfk)
   have z0 : wr.cell? ⟨w.heap.size + 1, 0, none⟩ = some (.int .i64 z.kind) := hZ1.cell 0
   have z1 : wr.cell? ⟨w.heap.size + 1, 1, none⟩ = some (.int .u64 (word z.set.testBit 0)) := hZ1.cell 1
   have z2 : wr.cell? ⟨w.heap.size + 1, 2, none⟩ = some (.int .u64 (word z.set.testBit 1)) := hZ1.cell 2
   have z3 : wr.cell? ⟨w.heap.size + 1, 3, none⟩ = some (.int .u64 (word z.set.testBit 2)) := hZ1.cell 3
   have z4 : wr.cell? ⟨w.heap.size + 1, 4, none⟩ = some (.int .u64 (word z.set.testBit 3)) := hZ1.cell 4
   have z5 : wr.cell? ⟨w.heap.size + 1, 5, none⟩ = some (.slice C z.kids.len capc) := hZ1.cell 5
   have z6 : wr.cell? ⟨w.heap.size + 1, 6, none⟩ = some (.int .i64 z.lo) := hZ1.cell 6
   have z7 : wr.cell? ⟨w.heap.size + 1, 7, none⟩ = some (.int .i64 z.hi) := hZ1.cell 7
   have HM1 := Lib.hid hM1
   have HS := Lib.hid (timesF_snoc z.lay k m i)
   clear hM1 hL1 hZ1 hX1 hfk HM
   generalize (timesF z.lay k m i).2 = at1 at *
   generalize (timesF z.lay k m i).1 = mk1 at *
   unfold ndV at HI
   go_wp2_with fail
   refine HI.out.mono ?_
   rintro e w4 ⟨rfl, hlay⟩
   have HL4 := Lib.hid hlay
   clear hlay HI z0 z1 z2 z3 z4 z5 z6 z7
   dsimp only
   go_wp2
   go_roundw
   case rel =>
    refine ⟨k + 1, by go_num, by omega, by rw [HS.out], Lib.hid ?_⟩
    rw [HS.out]
    obtain ⟨S3, h1, h2⟩ := HL4.out
    exact ⟨S3, h1, HM1.out.trans h2⟩
   case measure => simp [intOf]; omega
  ·obtain rfl : k = l := by omega
   have hdl : ¬ ((k : Int) < (k : Int)) := by omega
   have x6 : wr.cell? ⟨w.heap.size, 6, none⟩ = some (.int .i64 (k : Int)) := by rw [← HL.out]; exact hX1.cell 6
   have x5 : wr.cell? ⟨w.heap.size, 5, none⟩ = some (.slice (some ⟨b, o, none⟩) 1 cap) := hX1.cell 5
   have x7 : wr.cell? ⟨w.heap.size, 7, none⟩ = some (.int .i64 x.hi) := hX1.cell 7
   have x7' : wr.cell? ⟨w.heap.size, 7, none⟩ = some (.int .i64 (k : Int)) := by rw [← HL.out, ← HH.out]; exact x7
   have HO := Lib.hid (show ∃ S', LayAt wr base g S' (timesF z.lay k m i).1 ∧ Moves base S w S' wr from ⟨S1, hL1, HL2.out.2.trans hM1⟩)
   have hkk : ((k : Int) == (k : Int)) = true := by simp
   clear x7 hM1 hL1 hZ1 hX1 HM
   go_wp2
   go_light
   go_ret
   rw [HV.out]
   exact ⟨rfl, HO.out⟩
theorem lrep_star (x : Nd) (z : Nd) (hz : x.kids.list = [z]) (hlay : LayC z) (hgr : GrowsF z.lay) (hzs : z.size ≤ 140737488355328) (hzn : ∀ y ∈ z.nodes, numsOk y) (hk : x.kind = 9) (B : Option Addr) (cap i base g : Nat) (S : Nat → Prop) (m : MachS) (w : World) (ht : TreesAt w (fun b => b < base) x.kids B) (h : LayAt w base g S m) (hb : base ≤ w.heap.size) (h0 : z.wgt ≠ 0) (hlo : 0 ≤ x.lo) (hlo2 : x.lo ≤ 1000) (hh : x.hi < 0) (hf : FitsM (repF z.wgt x.lo x.hi z.lay m i).1) : Calls Tryz.prog 169 #[.pointer (some ⟨g, 0, none⟩), ndV x B cap, .int .i64 (i : Int)] w (LayOut base g S w (repF z.wgt x.lo x.hi z.lay m i)) := by
 obtain ⟨l, hl⟩ := Int.eq_ofNat_of_zero_le hlo
 have hltn : x.lo.toNat = l := by omega
 have hl1 : l ≤ 1000 := by omega
 have hV : repF z.wgt x.lo x.hi z.lay m i = loopF false z.lay (timesF z.lay l m i).1 (timesF z.lay l m i).2 := by unfold repF; rw [if_neg h0, if_pos hh, hltn]
 have hfl : FitsM (loopF false z.lay (timesF z.lay l m i).1 (timesF z.lay l m i).2).1 := by rw [← hV]; exact hf
 have HFT := Lib.hid (hfl.of (loopF_grows false hgr _ _))
 have HFL := Lib.hid hfl
 have HV := Lib.hid hV
 clear hV hf hltn hlo hfl
 have HN1 := Lib.hid (one_len hz)
 have hn1 : x.kids.len = 1 := one_len hz
 have hX := Blk.new w 28 (ndA x B cap)
 have x5 : (w.alloc (.cells (ndA x B cap) 28)).cell? ⟨w.heap.size, 5, none⟩ = some (.slice B x.kids.len cap) := hX.cell 5
 have hT1 := ht.below ((Below.refl _ _).alloc (Nat.le_refl _) (.cells (ndA x B cap) 28))
 obtain ⟨b, o, C, capc, rfl, hbb, hnd, hkz⟩ := hT1.sole hz
 have hblk := World.block_lt_of_cell? _ _ hnd.1
 obtain ⟨c0, c1, c2, c3, c4, c5, c6, c7⟩ := hnd
 have hsz2 : ((w.alloc (.cells (ndA x (some ⟨b, o, none⟩) cap) 28)).alloc (.cells (ndA z C capc) 28)).heap.size = w.heap.size + 1 + 1 := by simp
 have HX := Lib.hid (show Blk ((w.alloc (.cells (ndA x (some ⟨b, o, none⟩) cap) 28)).alloc (.cells (ndA z C capc) 28)) w.heap.size 28 (ndA x (some ⟨b, o, none⟩) cap) ∧ ¬ S w.heap.size from ⟨hX.alloc _, h.not (Nat.le_refl _)⟩)
 have HZB := Lib.hid (show Blk ((w.alloc (.cells (ndA x (some ⟨b, o, none⟩) cap) 28)).alloc (.cells (ndA z C capc) 28)) (w.heap.size + 1) 28 (ndA z C capc) ∧ ¬ S (w.heap.size + 1) from ⟨Blk.new_at (by simp), h.not (by omega)⟩)
 have hb2 : Below (w.alloc (.cells (ndA x (some ⟨b, o, none⟩) cap) 28)).heap.size (w.alloc (.cells (ndA x (some ⟨b, o, none⟩) cap) 28)) ((w.alloc (.cells (ndA x (some ⟨b, o, none⟩) cap) 28)).alloc (.cells (ndA z C capc) 28)) := (Below.refl _ _).alloc (Nat.le_refl _) _
 have HT2 := Lib.hid (hT1.below hb2)
 have HK2 := Lib.hid (hkz.below hb2)
 have HL2 := Lib.hid (show LayAt ((w.alloc (.cells (ndA x (some ⟨b, o, none⟩) cap) 28)).alloc (.cells (ndA z C capc) 28)) base g S m ∧ Moves base S w S ((w.alloc (.cells (ndA x (some ⟨b, o, none⟩) cap) 28)).alloc (.cells (ndA z C capc) 28)) from ⟨(h.alloc _).alloc _, ((Moves.refl base S w).alloc hb _).alloc hb _⟩)
 have HW := Lib.hid (nwgt_go z (fun b => b < base) C capc ((w.alloc (.cells (ndA x (some ⟨b, o, none⟩) cap) 28)).alloc (.cells (ndA z C capc) 28)) hzs hzn (hkz.below hb2))
 have HB := Lib.hid hb
 have HLAY := Lib.hid hlay
 have HGR := Lib.hid hgr
 have HZ := Lib.hid hz
 clear hz ht h hlay hgr hzn hX hT1 hkz hb2
 unfold ndV at *
 unfold ndA at *
 rw [hk] at *
 rw [hn1] at *
 clear hk hn1
 generalize z.wgt = n at *
 have hnz : ((n : Int) == 0) = false := by rw [beq_eq_false_iff_ne]; omega
 have y6 : ((w.alloc (.cells #[.int .i64 9, .int .u64 (word x.set.testBit 0), .int .u64 (word x.set.testBit 1), .int .u64 (word x.set.testBit 2), .int .u64 (word x.set.testBit 3), .slice (some ⟨b, o, none⟩) 1 cap, .int .i64 x.lo, .int .i64 x.hi] 28)).alloc (.cells #[.int .i64 z.kind, .int .u64 (word z.set.testBit 0), .int .u64 (word z.set.testBit 1), .int .u64 (word z.set.testBit 2), .int .u64 (word z.set.testBit 3), .slice C z.kids.len capc, .int .i64 z.lo, .int .i64 z.hi] 28)).cell? ⟨w.heap.size, 6, none⟩ = some (.int .i64 (l : Int)) := by rw [← hl]; exact HX.out.1.cell 6
 have HL := Lib.hid hl
 clear hl
 go_enter Tryz.func169, Tryz.ntmps169
 go_wp2_with fail
 refine HW.out.mono ?_
 rintro e w3 ⟨rfl, hb3⟩
 have hX3 := HX.out.1.below hb3 (by simp; omega)
 have x6 : w3.cell? ⟨w.heap.size, 6, none⟩ = some (.int .i64 (l : Int)) := by rw [← HL.out]; exact hX3.cell 6
 have hs3 : w.heap.size + 1 + 1 ≤ w3.heap.size := by have := hb3.size; omega
 have HM3 := Lib.hid (show ∃ S', LayAt w3 base g S' (timesF z.lay 0 m i).1 ∧ Moves base S ((w.alloc (.cells #[.int .i64 9, .int .u64 (word x.set.testBit 0), .int .u64 (word x.set.testBit 1), .int .u64 (word x.set.testBit 2), .int .u64 (word x.set.testBit 3), .slice (some ⟨b, o, none⟩) 1 cap, .int .i64 x.lo, .int .i64 x.hi] 28)).alloc (.cells #[.int .i64 z.kind, .int .u64 (word z.set.testBit 0), .int .u64 (word z.set.testBit 1), .int .u64 (word z.set.testBit 2), .int .u64 (word z.set.testBit 3), .slice C z.kids.len capc, .int .i64 z.lo, .int .i64 z.hi] 28)) S' w3 from ⟨S, HL2.out.1.below hb3, Moves.of_below hb3 (by have := HB.out; omega)⟩)
 clear hb3 HW hX3 c0 c1 c2 c3 c4 c5 c6 c7 x5 y6 hbb hblk
 dsimp only
 go_wp2
 go_loopw [2, 19] (fun v i' wr => ∃ k : Nat, i' = .int .i64 (k : Int) ∧ k ≤ l ∧ v = .int .i64 (((timesF z.lay k m i).2 : Nat) : Int) ∧ Hid (∃ S', LayAt wr base g S' (timesF z.lay k m i).1 ∧ Moves base S ((w.alloc (.cells #[.int .i64 9, .int .u64 (word x.set.testBit 0), .int .u64 (word x.set.testBit 1), .int .u64 (word x.set.testBit 2), .int .u64 (word x.set.testBit 3), .slice (some ⟨b, o, none⟩) 1 cap, .int .i64 x.lo, .int .i64 x.hi] 28)).alloc (.cells #[.int .i64 z.kind, .int .u64 (word z.set.testBit 0), .int .u64 (word z.set.testBit 1), .int .u64 (word z.set.testBit 2), .int .u64 (word z.set.testBit 3), .slice C z.kids.len capc, .int .i64 z.lo, .int .i64 z.hi] 28)) S' wr)) (fun _ i' _ => l - (intOf i').toNat)
 case atStart => exact ⟨0, rfl, Nat.zero_le _, rfl, HM3⟩
 case round =>
  clear HM3 hs3 x6
  obtain ⟨k, rfl, hk, rfl, HM⟩ := hrel
  obtain ⟨S1, hL1, hM1⟩ := HM.out
  have hZ1 := HZB.out.1.moves hM1 HZB.out.2
  have hX1 := HX.out.1.moves hM1 HX.out.2
  have hsr : w.heap.size + 1 + 1 ≤ wr.heap.size := by have := hM1.size; omega
  by_cases hlt : k < l
  ·have hdl : (k : Int) < (l : Int) := by omega
   have hfk : FitsM (z.lay (timesF z.lay k m i).1 (timesF z.lay k m i).2).1 := by
    have := HFT.out.of (timesF_part HGR.out m i (k + 1) (l - (k + 1)) |> fun h => by rw [show k + 1 + (l - (k + 1)) = l by omega] at h; exact h)
    rw [timesF_snoc] at this
    exact this
   have HI := Lib.hid (HLAY.out C capc (timesF z.lay k m i).2 base g S1 (timesF z.lay k m i).1 wr (HK2.out.moves hM1) hL1 (by have := HB.out; omega) hfk)
   have z0 : wr.cell? ⟨w.heap.size + 1, 0, none⟩ = some (.int .i64 z.kind) := hZ1.cell 0
   have z1 : wr.cell? ⟨w.heap.size + 1, 1, none⟩ = some (.int .u64 (word z.set.testBit 0)) := hZ1.cell 1
   have z2 : wr.cell? ⟨w.heap.size + 1, 2, none⟩ = some (.int .u64 (word z.set.testBit 1)) := hZ1.cell 2
   have z3 : wr.cell? ⟨w.heap.size + 1, 3, none⟩ = some (.int .u64 (word z.set.testBit 2)) := hZ1.cell 3
   have z4 : wr.cell? ⟨w.heap.size + 1, 4, none⟩ = some (.int .u64 (word z.set.testBit 3)) := hZ1.cell 4
   have z5 : wr.cell? ⟨w.heap.size + 1, 5, none⟩ = some (.slice C z.kids.len capc) := hZ1.cell 5
   have z6 : wr.cell? ⟨w.heap.size + 1, 6, none⟩ = some (.int .i64 z.lo) := hZ1.cell 6
   have z7 : wr.cell? ⟨w.heap.size + 1, 7, none⟩ = some (.int .i64 z.hi) := hZ1.cell 7
   have HM1 := Lib.hid hM1
   have HS := Lib.hid (timesF_snoc z.lay k m i)
   clear hM1 hL1 hZ1 hX1 hfk HM
   generalize (timesF z.lay k m i).2 = at1 at *
   generalize (timesF z.lay k m i).1 = mk1 at *
   unfold ndV at HI
   go_wp2_with fail
   refine HI.out.mono ?_
   rintro e w4 ⟨rfl, hlay⟩
   have HL4 := Lib.hid hlay
   clear hlay HI z0 z1 z2 z3 z4 z5 z6 z7
   dsimp only
   go_wp2
   go_roundw
   case rel =>
    refine ⟨k + 1, by go_num, by omega, by rw [HS.out], Lib.hid ?_⟩
    rw [HS.out]
    obtain ⟨S3, h1, h2⟩ := HL4.out
    exact ⟨S3, h1, HM1.out.trans h2⟩
   case measure => simp [intOf]; omega
  ·obtain rfl : k = l := by omega
   have hdl : ¬ ((k : Int) < (k : Int)) := by omega
   have x6 : wr.cell? ⟨w.heap.size, 6, none⟩ = some (.int .i64 (k : Int)) := by rw [← HL.out]; exact hX1.cell 6
   have x5 : wr.cell? ⟨w.heap.size, 5, none⟩ = some (.slice (some ⟨b, o, none⟩) 1 cap) := hX1.cell 5
   have x7 : wr.cell? ⟨w.heap.size, 7, none⟩ = some (.int .i64 x.hi) := hX1.cell 7
   have hst := lloop_star ⟨6, 0, x.kids, 0, 0⟩ z HZ.out HLAY.out HGR.out rfl (some ⟨b, o, none⟩) cap (timesF z.lay k m i).2 base g S1 (timesF z.lay k m i).1 wr (HT2.out.moves hM1) hL1 (by have := HB.out; omega) HFL.out
   unfold ndV at hst
   simp only [word_zeroN] at hst
   rw [HN1.out] at hst
   have HST := Lib.hid hst
   have HM1 := Lib.hid (HL2.out.2.trans hM1)
   clear hM1 hL1 hZ1 hX1 HM hst
   generalize loopF false z.lay (timesF z.lay k m i).1 (timesF z.lay k m i).2 = r at *
   generalize (timesF z.lay k m i).2 = at1 at *
   generalize (timesF z.lay k m i).1 = mk1 at *
   go_wp2_with fail
   refine HST.out.mono ?_
   rintro e w4 ⟨rfl, hlay⟩
   have HO := Lib.hid hlay
   clear hlay HST
   dsimp only
   go_wp2
   go_light
   go_ret
   rw [HV.out]
   obtain ⟨S3, h1, h2⟩ := HO.out
   exact ⟨rfl, S3, h1, HM1.out.trans h2⟩
theorem lrep_up (x : Nd) (z : Nd) (hz : x.kids.list = [z]) (hlay : LayC z) (hgr : GrowsF z.lay) (hzs : z.size ≤ 140737488355328) (hzn : ∀ y ∈ z.nodes, numsOk y) (hk : x.kind = 9) (B : Option Addr) (cap i base g : Nat) (S : Nat → Prop) (m : MachS) (w : World) (ht : TreesAt w (fun b => b < base) x.kids B) (h : LayAt w base g S m) (hb : base ≤ w.heap.size) (h0 : z.wgt ≠ 0) (hlo : 0 ≤ x.lo) (hlo2 : x.lo ≤ 1000) (hh : x.lo < x.hi) (hh2 : x.hi ≤ 1000) (hf : FitsM (repF z.wgt x.lo x.hi z.lay m i).1) : Calls Tryz.prog 169 #[.pointer (some ⟨g, 0, none⟩), ndV x B cap, .int .i64 (i : Int)] w (LayOut base g S w (repF z.wgt x.lo x.hi z.lay m i)) := by
 obtain ⟨l, hl⟩ := Int.eq_ofNat_of_zero_le hlo
 have hltn : x.lo.toNat = l := by omega
 have hl1 : l ≤ 1000 := by omega
 obtain ⟨u, hu⟩ := Int.eq_ofNat_of_zero_le (show 0 ≤ x.hi by omega)
 have hlu : l < u := by omega
 obtain ⟨d, hd⟩ : ∃ d, u = l + d := ⟨u - l, by omega⟩
 have hdt : (x.hi - x.lo).toNat = d := by omega
 have hu1 : l + d ≤ 1000 := by omega
 have hV : repF z.wgt x.lo x.hi z.lay m i = upF z.lay d (timesF z.lay l m i).1 (timesF z.lay l m i).2 := by unfold repF; rw [if_neg h0, if_neg (by omega), if_neg (by omega), hltn, hdt]
 have hfl : FitsM (upF z.lay d (timesF z.lay l m i).1 (timesF z.lay l m i).2).1 := by rw [← hV]; exact hf
 have HFT := Lib.hid (hfl.of (upF_grows d hgr _ _))
 have HFL := Lib.hid hfl
 have HV := Lib.hid hV
 have HU := Lib.hid (show x.hi = ((l + d : Nat) : Int) by omega)
 have hd0 : 0 < d := by omega
 clear hV hf hltn hlo hlo2 hh hh2 hdt hfl hu hlu hd
 have hn1 : x.kids.len = 1 := one_len hz
 have hX := Blk.new w 28 (ndA x B cap)
 have x5 : (w.alloc (.cells (ndA x B cap) 28)).cell? ⟨w.heap.size, 5, none⟩ = some (.slice B x.kids.len cap) := hX.cell 5
 have hT1 := ht.below ((Below.refl _ _).alloc (Nat.le_refl _) (.cells (ndA x B cap) 28))
 obtain ⟨b, o, C, capc, rfl, hbb, hnd, hkz⟩ := hT1.sole hz
 have hblk := World.block_lt_of_cell? _ _ hnd.1
 obtain ⟨c0, c1, c2, c3, c4, c5, c6, c7⟩ := hnd
 have hsz2 : ((w.alloc (.cells (ndA x (some ⟨b, o, none⟩) cap) 28)).alloc (.cells (ndA z C capc) 28)).heap.size = w.heap.size + 1 + 1 := by simp
 have HX := Lib.hid (show Blk ((w.alloc (.cells (ndA x (some ⟨b, o, none⟩) cap) 28)).alloc (.cells (ndA z C capc) 28)) w.heap.size 28 (ndA x (some ⟨b, o, none⟩) cap) ∧ ¬ S w.heap.size from ⟨hX.alloc _, h.not (Nat.le_refl _)⟩)
 have HZB := Lib.hid (show Blk ((w.alloc (.cells (ndA x (some ⟨b, o, none⟩) cap) 28)).alloc (.cells (ndA z C capc) 28)) (w.heap.size + 1) 28 (ndA z C capc) ∧ ¬ S (w.heap.size + 1) from ⟨Blk.new_at (by simp), h.not (by omega)⟩)
 have hb2 : Below (w.alloc (.cells (ndA x (some ⟨b, o, none⟩) cap) 28)).heap.size (w.alloc (.cells (ndA x (some ⟨b, o, none⟩) cap) 28)) ((w.alloc (.cells (ndA x (some ⟨b, o, none⟩) cap) 28)).alloc (.cells (ndA z C capc) 28)) := (Below.refl _ _).alloc (Nat.le_refl _) _
 have HT2 := Lib.hid (hT1.below hb2)
 have HK2 := Lib.hid (hkz.below hb2)
 have HL2 := Lib.hid (show LayAt ((w.alloc (.cells (ndA x (some ⟨b, o, none⟩) cap) 28)).alloc (.cells (ndA z C capc) 28)) base g S m ∧ Moves base S w S ((w.alloc (.cells (ndA x (some ⟨b, o, none⟩) cap) 28)).alloc (.cells (ndA z C capc) 28)) from ⟨(h.alloc _).alloc _, ((Moves.refl base S w).alloc hb _).alloc hb _⟩)
 have HW := Lib.hid (nwgt_go z (fun b => b < base) C capc ((w.alloc (.cells (ndA x (some ⟨b, o, none⟩) cap) 28)).alloc (.cells (ndA z C capc) 28)) hzs hzn (hkz.below hb2))
 have HB := Lib.hid hb
 have HLAY := Lib.hid hlay
 have HGR := Lib.hid hgr
 have HZ := Lib.hid hz
 clear hz ht h hlay hgr hzn hX hT1 hkz hb2
 unfold ndV at *
 unfold ndA at *
 rw [hk] at *
 rw [hn1] at *
 clear hk hn1
 generalize z.wgt = n at *
 have hnz : ((n : Int) == 0) = false := by rw [beq_eq_false_iff_ne]; omega
 have y6 : ((w.alloc (.cells #[.int .i64 9, .int .u64 (word x.set.testBit 0), .int .u64 (word x.set.testBit 1), .int .u64 (word x.set.testBit 2), .int .u64 (word x.set.testBit 3), .slice (some ⟨b, o, none⟩) 1 cap, .int .i64 x.lo, .int .i64 x.hi] 28)).alloc (.cells #[.int .i64 z.kind, .int .u64 (word z.set.testBit 0), .int .u64 (word z.set.testBit 1), .int .u64 (word z.set.testBit 2), .int .u64 (word z.set.testBit 3), .slice C z.kids.len capc, .int .i64 z.lo, .int .i64 z.hi] 28)).cell? ⟨w.heap.size, 6, none⟩ = some (.int .i64 (l : Int)) := by rw [← hl]; exact HX.out.1.cell 6
 have HL := Lib.hid hl
 clear hl
 go_enter Tryz.func169, Tryz.ntmps169
 go_wp2_with fail
 refine HW.out.mono ?_
 rintro e w3 ⟨rfl, hb3⟩
 have hX3 := HX.out.1.below hb3 (by simp; omega)
 have x6 : w3.cell? ⟨w.heap.size, 6, none⟩ = some (.int .i64 (l : Int)) := by rw [← HL.out]; exact hX3.cell 6
 have hs3 : w.heap.size + 1 + 1 ≤ w3.heap.size := by have := hb3.size; omega
 have HM3 := Lib.hid (show ∃ S', LayAt w3 base g S' (timesF z.lay 0 m i).1 ∧ Moves base S ((w.alloc (.cells #[.int .i64 9, .int .u64 (word x.set.testBit 0), .int .u64 (word x.set.testBit 1), .int .u64 (word x.set.testBit 2), .int .u64 (word x.set.testBit 3), .slice (some ⟨b, o, none⟩) 1 cap, .int .i64 x.lo, .int .i64 x.hi] 28)).alloc (.cells #[.int .i64 z.kind, .int .u64 (word z.set.testBit 0), .int .u64 (word z.set.testBit 1), .int .u64 (word z.set.testBit 2), .int .u64 (word z.set.testBit 3), .slice C z.kids.len capc, .int .i64 z.lo, .int .i64 z.hi] 28)) S' w3 from ⟨S, HL2.out.1.below hb3, Moves.of_below hb3 (by have := HB.out; omega)⟩)
 clear hb3 HW hX3 c0 c1 c2 c3 c4 c5 c6 c7 x5 y6 hbb hblk
 dsimp only
 go_wp2
 go_loopw [2, 19] (fun v i' wr => ∃ k : Nat, i' = .int .i64 (k : Int) ∧ k ≤ l ∧ v = .int .i64 (((timesF z.lay k m i).2 : Nat) : Int) ∧ Hid (∃ S', LayAt wr base g S' (timesF z.lay k m i).1 ∧ Moves base S ((w.alloc (.cells #[.int .i64 9, .int .u64 (word x.set.testBit 0), .int .u64 (word x.set.testBit 1), .int .u64 (word x.set.testBit 2), .int .u64 (word x.set.testBit 3), .slice (some ⟨b, o, none⟩) 1 cap, .int .i64 x.lo, .int .i64 x.hi] 28)).alloc (.cells #[.int .i64 z.kind, .int .u64 (word z.set.testBit 0), .int .u64 (word z.set.testBit 1), .int .u64 (word z.set.testBit 2), .int .u64 (word z.set.testBit 3), .slice C z.kids.len capc, .int .i64 z.lo, .int .i64 z.hi] 28)) S' wr)) (fun _ i' _ => l - (intOf i').toNat)
 case atStart => exact ⟨0, rfl, Nat.zero_le _, rfl, HM3⟩
 case round =>
  clear HM3 hs3 x6
  obtain ⟨k, rfl, hk, rfl, HM⟩ := hrel
  obtain ⟨S1, hL1, hM1⟩ := HM.out
  have hZ1 := HZB.out.1.moves hM1 HZB.out.2
  have hX1 := HX.out.1.moves hM1 HX.out.2
  have hsr : w.heap.size + 1 + 1 ≤ wr.heap.size := by have := hM1.size; omega
  by_cases hlt : k < l
  ·have hdl : (k : Int) < (l : Int) := by omega
   have hfk : FitsM (z.lay (timesF z.lay k m i).1 (timesF z.lay k m i).2).1 := by
    have := HFT.out.of (timesF_part HGR.out m i (k + 1) (l - (k + 1)) |> fun h => by rw [show k + 1 + (l - (k + 1)) = l by omega] at h; exact h)
    rw [timesF_snoc] at this
    exact this
   have HI := Lib.hid (HLAY.out C capc (timesF z.lay k m i).2 base g S1 (timesF z.lay k m i).1 wr (HK2.out.moves hM1) hL1 (by have := HB.out; omega) hfk)
   have z0 : wr.cell? ⟨w.heap.size + 1, 0, none⟩ = some (.int .i64 z.kind) := hZ1.cell 0
   have z1 : wr.cell? ⟨w.heap.size + 1, 1, none⟩ = some (.int .u64 (word z.set.testBit 0)) := hZ1.cell 1
   have z2 : wr.cell? ⟨w.heap.size + 1, 2, none⟩ = some (.int .u64 (word z.set.testBit 1)) := hZ1.cell 2
   have z3 : wr.cell? ⟨w.heap.size + 1, 3, none⟩ = some (.int .u64 (word z.set.testBit 2)) := hZ1.cell 3
   have z4 : wr.cell? ⟨w.heap.size + 1, 4, none⟩ = some (.int .u64 (word z.set.testBit 3)) := hZ1.cell 4
   have z5 : wr.cell? ⟨w.heap.size + 1, 5, none⟩ = some (.slice C z.kids.len capc) := hZ1.cell 5
   have z6 : wr.cell? ⟨w.heap.size + 1, 6, none⟩ = some (.int .i64 z.lo) := hZ1.cell 6
   have z7 : wr.cell? ⟨w.heap.size + 1, 7, none⟩ = some (.int .i64 z.hi) := hZ1.cell 7
   have HM1 := Lib.hid hM1
   have HS := Lib.hid (timesF_snoc z.lay k m i)
   clear hM1 hL1 hZ1 hX1 hfk HM
   generalize (timesF z.lay k m i).2 = at1 at *
   generalize (timesF z.lay k m i).1 = mk1 at *
   unfold ndV at HI
   go_wp2_with fail
   refine HI.out.mono ?_
   rintro e w4 ⟨rfl, hlay⟩
   have HL4 := Lib.hid hlay
   clear hlay HI z0 z1 z2 z3 z4 z5 z6 z7
   dsimp only
   go_wp2
   go_roundw
   case rel =>
    refine ⟨k + 1, by go_num, by omega, by rw [HS.out], Lib.hid ?_⟩
    rw [HS.out]
    obtain ⟨S3, h1, h2⟩ := HL4.out
    exact ⟨S3, h1, HM1.out.trans h2⟩
   case measure => simp [intOf]; omega
  ·obtain rfl : k = l := by omega
   have hdl : ¬ ((k : Int) < (k : Int)) := by omega
   have x6 : wr.cell? ⟨w.heap.size, 6, none⟩ = some (.int .i64 (k : Int)) := by rw [← HL.out]; exact hX1.cell 6
   have x5 : wr.cell? ⟨w.heap.size, 5, none⟩ = some (.slice (some ⟨b, o, none⟩) 1 cap) := hX1.cell 5
   have x7 : wr.cell? ⟨w.heap.size, 7, none⟩ = some (.int .i64 x.hi) := hX1.cell 7
   have x7' : wr.cell? ⟨w.heap.size, 7, none⟩ = some (.int .i64 ((k + d : Nat) : Int)) := by rw [← HU.out]; exact x7
   have hnn : ¬ (((k + d : Nat) : Int) < 0) := by omega
   have hne : (((k + d : Nat) : Int) == (k : Int)) = false := by rw [beq_eq_false_iff_ne]; omega
   have HC := Lib.hid (lstate_go base g S1 _ 0 wr hL1 (by have := HB.out; omega) HFT.out.1)
   have HM1 := Lib.hid hM1
   have HUP := Lib.hid (show upF z.lay d (timesF z.lay k m i).1 (timesF z.lay k m i).2 = ((optsF z.lay (timesF z.lay k m i).1.states d ((timesF z.lay k m i).1.state 0) (timesF z.lay k m i).2).1.link (optsF z.lay (timesF z.lay k m i).1.states d ((timesF z.lay k m i).1.state 0) (timesF z.lay k m i).2).2 (timesF z.lay k m i).1.states, (timesF z.lay k m i).1.states) from rfl)
   have HFO := Lib.hid (show FitsM (optsF z.lay (timesF z.lay k m i).1.states d ((timesF z.lay k m i).1.state 0) (timesF z.lay k m i).2).1 from HFL.out.of (ExtM.link _ _ _))
   clear x7 hM1 hL1 hZ1 hX1 HM HFT HFL
   generalize (timesF z.lay k m i).2 = at1 at *
   generalize (timesF z.lay k m i).1 = mk1 at *
   go_wp2_with fail
   refine HC.out.mono ?_
   rintro e w4 ⟨rfl, S4, hL4, hM4⟩
   have hM4' := HM1.out.trans hM4
   have hX4 := HX.out.1.moves hM4' HX.out.2
   have v6 : w4.cell? ⟨w.heap.size, 6, none⟩ = some (.int .i64 (k : Int)) := by rw [← HL.out]; exact hX4.cell 6
   have v7 : w4.cell? ⟨w.heap.size, 7, none⟩ = some (.int .i64 ((k + d : Nat) : Int)) := by rw [← HU.out]; exact hX4.cell 7
   have hs4 : w.heap.size < w4.heap.size := hX4.lt
   have hsub : IntKind.i64.wrap (((k + d : Nat) : Int) - (k : Int)) = (d : Int) := by rw [IntKind.wrap_i64]; omega
   have hM4 := Lib.hid (show ∃ S', LayAt w4 base g S' (optsF z.lay mk1.states 0 (mk1.state 0) at1).1 ∧ Moves base S ((w.alloc (.cells #[.int .i64 9, .int .u64 (word x.set.testBit 0), .int .u64 (word x.set.testBit 1), .int .u64 (word x.set.testBit 2), .int .u64 (word x.set.testBit 3), .slice (some ⟨b, o, none⟩) 1 cap, .int .i64 x.lo, .int .i64 x.hi] 28)).alloc (.cells #[.int .i64 z.kind, .int .u64 (word z.set.testBit 0), .int .u64 (word z.set.testBit 1), .int .u64 (word z.set.testBit 2), .int .u64 (word z.set.testBit 3), .slice C z.kids.len capc, .int .i64 z.lo, .int .i64 z.hi] 28)) S' w4 from ⟨S4, hL4, hM4'⟩)
   clear hL4 hM4' hX4 HC HM1 x6 x7' x5 hnn hne
   dsimp only
   go_wp2
   have HL2' := HL2.out.2
   have HL2b := Lib.hid HL2'
   clear HL2' HL2
   go_loopw [2, 50] (fun v i' wr2 => ∃ j : Nat, i' = .int .i64 (j : Int) ∧ j ≤ d ∧ v = .int .i64 (((optsF z.lay mk1.states j (mk1.state 0) at1).2 : Nat) : Int) ∧ Hid (∃ S', LayAt wr2 base g S' (optsF z.lay mk1.states j (mk1.state 0) at1).1 ∧ Moves base S ((w.alloc (.cells #[.int .i64 9, .int .u64 (word x.set.testBit 0), .int .u64 (word x.set.testBit 1), .int .u64 (word x.set.testBit 2), .int .u64 (word x.set.testBit 3), .slice (some ⟨b, o, none⟩) 1 cap, .int .i64 x.lo, .int .i64 x.hi] 28)).alloc (.cells #[.int .i64 z.kind, .int .u64 (word z.set.testBit 0), .int .u64 (word z.set.testBit 1), .int .u64 (word z.set.testBit 2), .int .u64 (word z.set.testBit 3), .slice C z.kids.len capc, .int .i64 z.lo, .int .i64 z.hi] 28)) S' wr2)) (fun _ i' _ => d - (intOf i').toNat)
   case atStart => exact ⟨0, rfl, Nat.zero_le _, rfl, hM4⟩
   case round =>
    clear hM4 v6 v7 hs4 hsub hdl hlt
    obtain ⟨j, rfl, hj, rfl, HM⟩ := hrel
    obtain ⟨S5, hL5, hM5⟩ := HM.out
    have hs5 : w.heap.size + 1 + 1 ≤ wr.heap.size := by have := hM5.size; omega
    have hpart := optsF_part HGR.out mk1.states (mk1.state 0) at1
    by_cases hlt2 : j < d
    ·have hdl : (j : Int) < (d : Int) := by omega
     have hsn := optsF_snoc z.lay mk1.states j (mk1.state 0) at1
     have hfk : FitsM (z.lay ((optsF z.lay mk1.states j (mk1.state 0) at1).1.link (optsF z.lay mk1.states j (mk1.state 0) at1).2 mk1.states) (optsF z.lay mk1.states j (mk1.state 0) at1).2).1 := by
      have := HFO.out.of (by have h := hpart (j + 1) (d - (j + 1)); rw [show j + 1 + (d - (j + 1)) = d by omega] at h; exact h)
      rw [hsn] at this
      exact this
     have hfl := (hfk.of (HGR.out _ _)).of (ExtM.link _ _ _)
     have HC := Lib.hid (llink_go base g S5 _ (optsF z.lay mk1.states j (mk1.state 0) at1).2 mk1.states wr hL5 (by have := HB.out; omega) hfl.2.1)
     have HM5 := Lib.hid hM5
     have HFK := Lib.hid hfk
     have HSN := Lib.hid hsn
     clear hsn hfk hfl hM5 hL5 hpart HM
     generalize (optsF z.lay mk1.states j (mk1.state 0) at1).2 = at2 at *
     generalize (optsF z.lay mk1.states j (mk1.state 0) at1).1 = mk2 at *
     go_wp2_with fail
     refine HC.out.mono ?_
     rintro e w6 ⟨rfl, S6, hL6, hM6⟩
     have hM6' := HM5.out.trans hM6
     have hZ6 := HZB.out.1.moves hM6' HZB.out.2
     have HI := Lib.hid (HLAY.out C capc at2 base g S6 (mk2.link at2 mk1.states) w6 (HK2.out.moves hM6') hL6 (by have := HB.out; have := hM6'.size; omega) HFK.out)
     have hs6 : w.heap.size + 1 < w6.heap.size := hZ6.lt
     have z0 : w6.cell? ⟨w.heap.size + 1, 0, none⟩ = some (.int .i64 z.kind) := hZ6.cell 0
     have z1 : w6.cell? ⟨w.heap.size + 1, 1, none⟩ = some (.int .u64 (word z.set.testBit 0)) := hZ6.cell 1
     have z2 : w6.cell? ⟨w.heap.size + 1, 2, none⟩ = some (.int .u64 (word z.set.testBit 1)) := hZ6.cell 2
     have z3 : w6.cell? ⟨w.heap.size + 1, 3, none⟩ = some (.int .u64 (word z.set.testBit 2)) := hZ6.cell 3
     have z4 : w6.cell? ⟨w.heap.size + 1, 4, none⟩ = some (.int .u64 (word z.set.testBit 3)) := hZ6.cell 4
     have z5 : w6.cell? ⟨w.heap.size + 1, 5, none⟩ = some (.slice C z.kids.len capc) := hZ6.cell 5
     have z6 : w6.cell? ⟨w.heap.size + 1, 6, none⟩ = some (.int .i64 z.lo) := hZ6.cell 6
     have z7 : w6.cell? ⟨w.heap.size + 1, 7, none⟩ = some (.int .i64 z.hi) := hZ6.cell 7
     have HM6 := Lib.hid hM6'
     clear hM6 hM6' hZ6 hL6 HM5 HC
     unfold ndV at HI
     dsimp only
     go_wp2_with fail
     refine HI.out.mono ?_
     rintro e w7 ⟨rfl, hlay⟩
     have HL7 := Lib.hid hlay
     clear hlay HI z0 z1 z2 z3 z4 z5 z6 z7
     dsimp only
     go_wp2
     go_roundw
     case rel =>
      refine ⟨j + 1, by go_num, by omega, by rw [HSN.out], Lib.hid ?_⟩
      rw [HSN.out]
      obtain ⟨S7, h1, h2⟩ := HL7.out
      exact ⟨S7, h1, HM6.out.trans h2⟩
     case measure => simp [intOf]; omega
    ·obtain rfl : j = d := by omega
     have hdl : ¬ ((j : Int) < (j : Int)) := by omega
     have HC := Lib.hid (llink_go base g S5 _ (optsF z.lay mk1.states j (mk1.state 0) at1).2 mk1.states wr hL5 (by have := HB.out; omega) HFO.out.2.1)
     have HM5 := Lib.hid hM5
     clear hM5 hL5 hpart HM
     generalize (optsF z.lay mk1.states j (mk1.state 0) at1).2 = at2 at *
     generalize (optsF z.lay mk1.states j (mk1.state 0) at1).1 = mk2 at *
     go_wp2_with fail
     refine HC.out.mono ?_
     rintro e w6 ⟨rfl, S6, hL6, hM6⟩
     have HO := Lib.hid (show ∃ S', LayAt w6 base g S' (mk2.link at2 mk1.states) ∧ Moves base S w S' w6 from ⟨S6, hL6, HL2b.out.trans (HM5.out.trans hM6)⟩)
     clear hM6 hL6 HM5 HC
     dsimp only
     go_wp2
     go_light
     go_ret
     rw [HV.out, HUP.out]
     exact ⟨rfl, HO.out⟩
end Go.Proofs.YtfekpkelmliejaaGreatDoor
