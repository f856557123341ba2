/- Texts of the claim. -/
import Derived.Test.YtofbfafnpdaejaaGreatDoorJSimX
import Derived.Test.YtofbfafnpdaejaaGreatDoorJSimKn
import Derived.Test.YtofbfafnpdaejaaGreatDoorJZ03
import Derived.Test.YtofbfafnpdaejaaGreatDoorJSimFr
set_option linter.all false
set_option maxRecDepth 100000
set_option maxHeartbeats 8000000
namespace Go.Proofs.YtofbfafnpdaejaaGreatDoor
open Go.RowKit
noncomputable def ofY (x : Nd) : Nd := if rightT x = true then x.sim else ⟨0, 0, .nil, 0, 0⟩
def ofC (x : Nd) : Int := if rightT x = true then 0 else 6
theorem zero_val : (Value.agg #[.int .i64 0, .int .u64 0, .int .u64 0, .int .u64 0, .int .u64 0, .slice none 0 0, .int .i64 0, .int .i64 0]) = ndV ⟨0, 0, .nil, 0, 0⟩ none 0 := by
 simp only [ndV, word_zero]
 rfl
theorem ofout_one {x : Nd} {w : World} {e : Ending} {w' : World} (h : OfOut x w e w') : ∃ B' cap', e = .returned (.tuple #[ndV (ofY x) B' cap', .int .i64 (ofC x)]) ∧ Below w.heap.size w w' ∧ (ofY x).kids.len ≤ cap' ∧ TreesAt w' (fun b => b < w'.heap.size) (ofY x).kids B' := by
 obtain ⟨hb, ⟨hr, rfl⟩ | ⟨hr, B', cap', rfl, hc, ht⟩⟩ := h
 ·unfold ofY ofC
  rw [hr, if_neg (by decide), if_neg (by decide), zero_val]
  exact ⟨none, 0, rfl, hb, Nat.le_refl _, trivial⟩
 ·unfold ofY ofC
  rw [if_pos hr, if_pos hr]
  exact ⟨B', cap', rfl, hb, hc, ht⟩
theorem ofoutD_one {P : Nat → Prop} {x : Nd} {w : World} {e : Ending} {w' : World} (h : OfOutD P x w e w') : ∃ B' cap', e = .returned (.tuple #[ndV (ofY x) B' cap', .int .i64 (ofC x)]) ∧ Below w.heap.size w w' ∧ (ofY x).kids.len ≤ cap' ∧ TreesAt w' (fun b => P b ∨ w.heap.size ≤ b) (ofY x).kids B' := by
 obtain ⟨hb, ⟨hr, rfl⟩ | ⟨hr, B', cap', rfl, hc, ht⟩⟩ := h
 ·unfold ofY ofC
  rw [hr, if_neg (by decide), if_neg (by decide), zero_val]
  exact ⟨none, 0, rfl, hb, Nat.le_refl _, trivial⟩
 ·unfold ofY ofC
  rw [if_pos hr, if_pos hr]
  exact ⟨B', cap', rfl, hb, hc, ht⟩
theorem ofY_size {x : Nd} (hf : FitT x) : (ofY x).size ≤ 4096 := by
 unfold ofY
 cases hr : rightT x with
 | false => rw [if_neg (by decide)]; exact (by decide : (1 : Nat) ≤ 4096)
 | true =>
  rw [if_pos rfl]
  exact Nat.le_trans (sim_size (right_oks hr hf)) (right_few hr)
theorem simpleOf_go (x : Nd) (B : Option Addr) (cap : Nat) (w : World) (hs : x.size ≤ 140737488355328) (hf : FitT x) (hc : x.kids.len ≤ cap) (ht : TreesAt w (fun b => b < w.heap.size) x.kids B) (hT : TabAt 0 Lib.deBruijn64tab w) (hw0 : 0 < w.heap.size) :
  Calls Tryz.prog 5 #[ndV x B cap] w fun e w' => e = .returned (.bool true) ∧ Below w.heap.size w w' := by
 have hb1 : Below w.heap.size w (w.alloc (.cells (ndA x B cap) 28)) := (Below.refl _ _).alloc (Nat.le_refl _) _
 have HB1 := Lib.hid hb1
 have HX1 := Lib.hid (Blk.new w 28 (ndA x B cap))
 have ht1 := (ht.below hb1)
 have hI := sOf_go x B cap _ (by omega) hf hc (ht1.keep (fun _ _ _ _ => rfl) (fun b _ h => h))
 have HI := Lib.hid hI
 have HTB := Lib.hid hT
 have HT1 := Lib.hid ht1
 have HSZ := Lib.hid (ofY_size hf)
 clear ht hb1 ht1 hI hT
 unfold ndV at HI ⊢
 unfold ndA at HI HX1 HB1 HT1
 obtain ⟨x0, x1, x2, x3, x4, x5, x6, x7, xl⟩ := (HX1.out).c8n
 go_enter Tryz.func5, Tryz.ntmps5
 go_upto_region 1 with fail
 generalize (w.alloc (.cells #[.int .i64 x.kind, .int .u64 (word x.set.testBit 0), .int .u64 (word x.set.testBit 1), .int .u64 (word x.set.testBit 2), .int .u64 (word x.set.testBit 3), .slice B x.kids.len cap, .int .i64 x.lo, .int .i64 x.hi] 28)) = w1 at *
 go_wp2_with fail
 refine HI.out.mono ?_
 rintro e w2 hq
 obtain ⟨B2, c2, rfl, hb2, hc2, ht2⟩ := ofout_one hq
 have hb3 : Below w2.heap.size w2 (w2.alloc (.cells (ndA (ofY x) B2 c2) 28)) := (Below.refl _ _).alloc (Nat.le_refl _) _
 have HY3 := Lib.hid (Blk.new w2 28 (ndA (ofY x) B2 c2))
 have HB3 := Lib.hid ((HB1.out.trans (hb2.mono HB1.out.size)).trans (hb3.mono (Nat.le_trans HB1.out.size hb2.size)))
 have HX3 := Lib.hid ((HX1.out.below hb2 HX1.out.lt).below hb3 (Nat.lt_of_lt_of_le HX1.out.lt hb2.size))
 have HT3 := Lib.hid ((HT1.out.below hb2).below hb3)
 have HU3 := Lib.hid (ht2.below hb3)
 have hd := (rOf_go x _ B cap _ hs hf hc (fun b h => Nat.lt_of_lt_of_le h HB3.out.size) HT3.out).mono (fun e w' h => ofoutD_one h)
 have HD := Lib.hid hd
 clear hd hb2 hb3 ht2 HI HX1 HB1 HT1 hq x0 x1 x2 x3 x4 x5 x6 x7 xl
 generalize ofY x = y at *
 generalize ofC x = k at *
 unfold ndV at HD ⊢
 unfold ndA at HX3 HY3 HB3 HU3 HT3 HD
 dsimp only
 obtain ⟨x0, x1, x2, x3, x4, x5, x6, x7, xl⟩ := (HX3.out).c8n
 go_upto_region 2 with fail
 generalize (w2.alloc (.cells #[.int .i64 y.kind, .int .u64 (word y.set.testBit 0), .int .u64 (word y.set.testBit 1), .int .u64 (word y.set.testBit 2), .int .u64 (word y.set.testBit 3), .slice B2 y.kids.len c2, .int .i64 y.lo, .int .i64 y.hi] 28)) = w3 at *
 go_wp2_with fail
 refine HD.out.mono ?_
 rintro e w4 ⟨B4, c4, rfl, hb4, hc4, ht4⟩
 have hb5 : Below w4.heap.size w4 (w4.alloc (.cells (ndA y B4 c4) 28)) := (Below.refl _ _).alloc (Nat.le_refl _) _
 have HZ5 := Lib.hid (Blk.new w4 28 (ndA y B4 c4))
 have HB5 := Lib.hid ((HB3.out.trans (hb4.mono HB3.out.size)).trans (hb5.mono (Nat.le_trans HB3.out.size hb4.size)))
 have HY5 := Lib.hid ((HY3.out.below hb4 HY3.out.lt).below hb5 (Nat.lt_of_lt_of_le HY3.out.lt hb4.size))
 have hS := nsame_go y _ _ B2 B4 c2 c4 (w4.alloc (.cells (ndA y B4 c4) 28)) (by have := HSZ.out; omega) ((HU3.out.below hb4).below hb5) (ht4.below hb5)
 have HS := Lib.hid hS
 clear hS hb4 hb5 ht4 HD HX3 HY3 HB3 HU3 HT3 x0 x1 x2 x3 x4 x5 x6 x7 xl
 unfold ndV at HS
 unfold ndA at HY5 HZ5 HB5 HS
 dsimp only
 go_upto_region 3 with fail
 generalize (w4.alloc (.cells #[.int .i64 y.kind, .int .u64 (word y.set.testBit 0), .int .u64 (word y.set.testBit 1), .int .u64 (word y.set.testBit 2), .int .u64 (word y.set.testBit 3), .slice B4 y.kids.len c4, .int .i64 y.lo, .int .i64 y.hi] 28)) = w5 at *
 obtain ⟨y0, y1, y2, y3, y4, y5, y6, y7, yl⟩ := (HY5.out).c8n
 obtain ⟨z0, z1, z2, z3, z4, z5, z6, z7, zl⟩ := (HZ5.out).c8n
 have hkk : (k == k) = true := by simp
 go_wp2_with fail
 refine HS.out.mono ?_
 rintro e w6 ⟨rfl, hb6⟩
 have HB6 := Lib.hid (HB5.out.trans (hb6.mono HB5.out.size))
 have HK := Lib.hid (knows12_go w6 (TabAt.below HB6.out hw0 HTB.out) (Nat.lt_of_lt_of_le hw0 HB6.out.size))
 clear hb6 HS HB5 HY5 HZ5 y0 y1 y2 y3 y4 y5 y6 y7 yl z0 z1 z2 z3 z4 z5 z6 z7 zl
 dsimp only
 go_wp2_with fail
 refine HK.out.mono ?_
 rintro e w7 ⟨rfl, hb7⟩
 have HB7 := Lib.hid (HB6.out.trans (hb7.mono HB6.out.size))
 clear hb7
 dsimp only
 go_wp2
 go_light
 go_ret
 exact ⟨rfl, HB7.out⟩
theorem simpleOf_law (x : Nd) (B : Option Addr) (cap : Nat) (w : World) (hs : x.size ≤ 140737488355328) (hc : x.kids.len ≤ cap) (ht : TreesAt w (fun b => b < w.heap.size) x.kids B) (hT : TabAt 0 Lib.deBruijn64tab w) (hw0 : 0 < w.heap.size) :
  Calls Tryz.prog 5 #[ndV x B cap] w fun e w' => e = .returned (.bool true) ∧ Below w.heap.size w w' := by
 rw [← ndV_cut x B cap]
 exact simpleOf_go x.cut B cap w (by rw [x.size_cut]; exact hs) x.fit_cut (by show x.kids.cut.len ≤ cap; rw [Trees.len_cut]; exact hc) ht.cut hT hw0
end Go.Proofs.YtofbfafnpdaejaaGreatDoor
