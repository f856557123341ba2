/- Texts of the claim. -/
import Derived.Test.YtfekpkelmliejaaGreatDoorJZ03
namespace Go.Proofs.YtfekpkelmliejaaGreatDoor
open Go.RowKit
set_option linter.unusedSimpArgs false
set_option linter.unusedVariables false
set_option maxRecDepth 100000
set_option maxHeartbeats 8000000
theorem TreesAt.sole {w : World} {P : Nat → Prop} {F : Trees} {B : Option Addr} {z : Nd} (h : TreesAt w P F B) (hz : F.list = [z]) : ∃ b o C capc, B = some ⟨b, o, none⟩ ∧ P b ∧ NdAt w b o z.kind z.set z.kids.len z.lo z.hi C capc ∧ TreesAt w P z.kids C := by
 obtain ⟨b, o, C, capc, hB, hb, _, hn, ht⟩ := h.get (i := 0) (x := z) (by rw [hz]; rfl)
 exact ⟨b, o, C, capc, hB, hb, by simpa using hn, ht⟩
theorem one_len {F : Trees} {z : Nd} (hz : F.list = [z]) : F.len = 1 := by rw [← Trees.len_list, hz]; rfl
theorem lloop_star (x : Nd) (z : Nd) (hz : x.kids.list = [z]) (hlay : LayC z) (hgr : GrowsF z.lay) (hk : x.kind = 6) (B : Option Addr) (cap i base g : Nat) (S : Nat → Prop) (m : MachS) (w : World) (ht : TreesAt w (fun b => b < base) x.kids B) (h : LayAt w base g S m) (hb : base ≤ w.heap.size) (hf : FitsM (loopF false z.lay m i).1) :
  Calls Tryz.prog 167 #[.pointer (some ⟨g, 0, none⟩), ndV x B cap, .int .i64 (i : Int)] w (LayOut base g S w (loopF false z.lay m i)) := by
 have hn1 : x.kids.len = 1 := one_len hz
 have e0 : ExtM (z.lay ((m.state 0).link i m.states) m.states).1 (loopF false z.lay m i).1 := ExtM.link _ _ _
 have e1 : ExtM ((m.state 0).link i m.states) (z.lay ((m.state 0).link i m.states) m.states).1 := hgr _ _
 have e2 := ExtM.link (m.state 0) i m.states
 have e3 := ExtM.state m 0
 have HF := Lib.hid (show FitsM m ∧ FitsM (m.state 0) ∧ FitsM ((m.state 0).link i m.states) ∧ FitsM (z.lay ((m.state 0).link i m.states) m.states).1 from ⟨hf.of (e3.trans (e2.trans (e1.trans e0))), hf.of (e2.trans (e1.trans e0)), hf.of (e1.trans e0), hf.of e0⟩)
 have HC := Lib.hid (lstate_go base g S m 0 _ (h.alloc (.cells (ndA x B cap) 28)) (by simp; omega) HF.out.1.1)
 have HX := Lib.hid (show Blk _ w.heap.size 28 (ndA x B cap) ∧ ¬ S w.heap.size from ⟨Blk.new w 28 (ndA x B cap), h.not (Nat.le_refl _)⟩)
 have HT := Lib.hid (ht.below ((Below.refl _ _).alloc (Nat.le_refl _) (.cells (ndA x B cap) 28)))
 have hszw : w.heap.size < (w.alloc (.cells (ndA x B cap) 28)).heap.size := by simp
 have HB := Lib.hid hb
 have HLAY := Lib.hid hlay
 have HZ := Lib.hid hz
 clear hz hf ht h hgr hlay e0 e1 e2 e3
 unfold ndV
 unfold ndA at *
 rw [hk] at *
 clear hk
 rw [hn1] at *
 clear hn1
 go_enter Tryz.func167, Tryz.ntmps167
 go_wp2_with fail
 refine HC.out.mono ?_
 rintro e w2 ⟨rfl, S2, hL2, hM2⟩
 have hs2 := hM2.size
 have HC3 := Lib.hid (llink_go base g S2 (m.state 0) i m.states w2 hL2 (by omega) HF.out.2.1.2.1)
 have HM2 := Lib.hid hM2
 clear hL2 hM2 HC
 dsimp only
 go_wp2_with fail
 refine HC3.out.mono ?_
 rintro e w3 ⟨rfl, S3, hL3, hM3⟩
 have hM3' := HM2.out.trans hM3
 have hX3 := HX.out.1.moves hM3' HX.out.2
 have x5 : w3.cell? ⟨w.heap.size, 5, none⟩ = some (.slice B 1 cap) := hX3.cell 5
 obtain ⟨b, o, C, capc, rfl, hbb, hnd, hkz⟩ := (HT.out.moves hM3').sole HZ.out
 have hblk := World.block_lt_of_cell? w3 _ hnd.1
 obtain ⟨c0, c1, c2, c3, c4, c5, c6, c7⟩ := hnd
 have hs3 := hM3'.size
 have HI := Lib.hid (HLAY.out C capc m.states base g S3 ((m.state 0).link i m.states) w3 hkz hL3 (by omega) HF.out.2.2.2)
 have HM3 := Lib.hid hM3'
 clear hM3 hM3' hX3 hkz HC3 hL3 HM2
 dsimp only
 unfold ndV at HI
 go_wp2_with fail
 refine HI.out.mono ?_
 rintro e w4 ⟨rfl, S4, hL4, hM4⟩
 have hs4 := hM4.size
 have HC5 := Lib.hid (llink_go base g S4 _ (z.lay ((m.state 0).link i m.states) m.states).2 m.states w4 hL4 (by omega) HF.out.2.2.2.2.1)
 have HM4 := Lib.hid (HM3.out.trans hM4)
 clear hM4 hL4 HI HM3 c0 c1 c2 c3 c4 c5 c6 c7 x5 hbb hblk
 dsimp only
 go_wp2_with fail
 refine HC5.out.mono ?_
 rintro e w5 ⟨rfl, S5, hL5, hM5⟩
 have hM5' := HM4.out.trans hM5
 have hX5 := HX.out.1.moves hM5' HX.out.2
 have x0 : w5.cell? ⟨w.heap.size, 0, none⟩ = some (.int .i64 6) := hX5.cell 0
 have hs5 := hX5.lt
 have HOUT := Lib.hid (show ∃ S', LayAt w5 base g S' _ ∧ Moves base S w S' w5 from ⟨S5, hL5, ((Moves.refl base S w).alloc HB.out _).trans hM5'⟩)
 clear hM5 hM5' hX5 hL5 HM4 HC5
 dsimp only
 go_wp2
 go_light
 go_ret
 exact ⟨rfl, HOUT.out⟩
theorem lloop_plus (x : Nd) (z : Nd) (hz : x.kids.list = [z]) (hlay : LayC z) (hgr : GrowsF z.lay) (hk : x.kind = 7) (B : Option Addr) (cap i base g : Nat) (S : Nat → Prop) (m : MachS) (w : World) (ht : TreesAt w (fun b => b < base) x.kids B) (h : LayAt w base g S m) (hb : base ≤ w.heap.size) (hf : FitsM (loopF true z.lay m i).1) :
  Calls Tryz.prog 167 #[.pointer (some ⟨g, 0, none⟩), ndV x B cap, .int .i64 (i : Int)] w (LayOut base g S w (loopF true z.lay m i)) := by
 have hn1 : x.kids.len = 1 := one_len hz
 have e0 : ExtM (z.lay ((m.state 0).link i m.states) m.states).1 (loopF true z.lay m i).1 := ExtM.link _ _ _
 have e1 : ExtM ((m.state 0).link i m.states) (z.lay ((m.state 0).link i m.states) m.states).1 := hgr _ _
 have e2 := ExtM.link (m.state 0) i m.states
 have e3 := ExtM.state m 0
 have HF := Lib.hid (show FitsM m ∧ FitsM (m.state 0) ∧ FitsM ((m.state 0).link i m.states) ∧ FitsM (z.lay ((m.state 0).link i m.states) m.states).1 from ⟨hf.of (e3.trans (e2.trans (e1.trans e0))), hf.of (e2.trans (e1.trans e0)), hf.of (e1.trans e0), hf.of e0⟩)
 have HC := Lib.hid (lstate_go base g S m 0 _ (h.alloc (.cells (ndA x B cap) 28)) (by simp; omega) HF.out.1.1)
 have HX := Lib.hid (show Blk _ w.heap.size 28 (ndA x B cap) ∧ ¬ S w.heap.size from ⟨Blk.new w 28 (ndA x B cap), h.not (Nat.le_refl _)⟩)
 have HT := Lib.hid (ht.below ((Below.refl _ _).alloc (Nat.le_refl _) (.cells (ndA x B cap) 28)))
 have hszw : w.heap.size < (w.alloc (.cells (ndA x B cap) 28)).heap.size := by simp
 have HB := Lib.hid hb
 have HLAY := Lib.hid hlay
 have HZ := Lib.hid hz
 clear hz hf ht h hgr hlay e0 e1 e2 e3
 unfold ndV
 unfold ndA at *
 rw [hk] at *
 clear hk
 rw [hn1] at *
 clear hn1
 go_enter Tryz.func167, Tryz.ntmps167
 go_wp2_with fail
 refine HC.out.mono ?_
 rintro e w2 ⟨rfl, S2, hL2, hM2⟩
 have hs2 := hM2.size
 have HC3 := Lib.hid (llink_go base g S2 (m.state 0) i m.states w2 hL2 (by omega) HF.out.2.1.2.1)
 have HM2 := Lib.hid hM2
 clear hL2 hM2 HC
 dsimp only
 go_wp2_with fail
 refine HC3.out.mono ?_
 rintro e w3 ⟨rfl, S3, hL3, hM3⟩
 have hM3' := HM2.out.trans hM3
 have hX3 := HX.out.1.moves hM3' HX.out.2
 have x5 : w3.cell? ⟨w.heap.size, 5, none⟩ = some (.slice B 1 cap) := hX3.cell 5
 obtain ⟨b, o, C, capc, rfl, hbb, hnd, hkz⟩ := (HT.out.moves hM3').sole HZ.out
 have hblk := World.block_lt_of_cell? w3 _ hnd.1
 obtain ⟨c0, c1, c2, c3, c4, c5, c6, c7⟩ := hnd
 have hs3 := hM3'.size
 have HI := Lib.hid (HLAY.out C capc m.states base g S3 ((m.state 0).link i m.states) w3 hkz hL3 (by omega) HF.out.2.2.2)
 have HM3 := Lib.hid hM3'
 clear hM3 hM3' hX3 hkz HC3 hL3 HM2
 dsimp only
 unfold ndV at HI
 go_wp2_with fail
 refine HI.out.mono ?_
 rintro e w4 ⟨rfl, S4, hL4, hM4⟩
 have hs4 := hM4.size
 have HC5 := Lib.hid (llink_go base g S4 _ (z.lay ((m.state 0).link i m.states) m.states).2 m.states w4 hL4 (by omega) HF.out.2.2.2.2.1)
 have HM4 := Lib.hid (HM3.out.trans hM4)
 clear hM4 hL4 HI HM3 c0 c1 c2 c3 c4 c5 c6 c7 x5 hbb hblk
 dsimp only
 go_wp2_with fail
 refine HC5.out.mono ?_
 rintro e w5 ⟨rfl, S5, hL5, hM5⟩
 have hM5' := HM4.out.trans hM5
 have hX5 := HX.out.1.moves hM5' HX.out.2
 have x0 : w5.cell? ⟨w.heap.size, 0, none⟩ = some (.int .i64 7) := hX5.cell 0
 have hs5 := hX5.lt
 have HOUT := Lib.hid (show ∃ S', LayAt w5 base g S' _ ∧ Moves base S w S' w5 from ⟨S5, hL5, ((Moves.refl base S w).alloc HB.out _).trans hM5'⟩)
 clear hM5 hM5' hX5 hL5 HM4 HC5
 dsimp only
 go_wp2
 go_light
 go_ret
 exact ⟨rfl, HOUT.out⟩
theorem lopt_go (x : Nd) (z : Nd) (hz : x.kids.list = [z]) (hlay : LayC z) (hgr : GrowsF z.lay) (hk : x.kind = 8) (B : Option Addr) (cap i base g : Nat) (S : Nat → Prop) (m : MachS) (w : World) (ht : TreesAt w (fun b => b < base) x.kids B) (h : LayAt w base g S m) (hb : base ≤ w.heap.size) (hf : FitsM (optF z.lay m i).1) :
  Calls Tryz.prog 168 #[.pointer (some ⟨g, 0, none⟩), ndV x B cap, .int .i64 (i : Int)] w (LayOut base g S w (optF z.lay m i)) := by
 have hn1 : x.kids.len = 1 := one_len hz
 have e0 : ExtM ((((z.lay m i).1.state 0)).link (z.lay m i).2 (z.lay m i).1.states) (optF z.lay m i).1 := ExtM.link _ _ _
 have e1 := ExtM.link ((z.lay m i).1.state 0) (z.lay m i).2 (z.lay m i).1.states
 have e2 := ExtM.state (z.lay m i).1 0
 have HF := Lib.hid (show FitsM (z.lay m i).1 ∧ FitsM ((z.lay m i).1.state 0) ∧ FitsM ((((z.lay m i).1.state 0)).link (z.lay m i).2 (z.lay m i).1.states) from ⟨hf.of (e2.trans (e1.trans e0)), hf.of (e1.trans e0), hf.of e0⟩)
 have hX := Blk.new w 28 (ndA x B cap)
 have x5 : (w.alloc (.cells (ndA x B cap) 28)).cell? ⟨w.heap.size, 5, none⟩ = some (.slice B x.kids.len cap) := hX.cell 5
 obtain ⟨b, o, C, capc, rfl, hbb, hnd, hkz⟩ := (ht.below ((Below.refl _ _).alloc (Nat.le_refl _) (.cells (ndA x B cap) 28))).sole hz
 have hszw : w.heap.size < (w.alloc (.cells (ndA x (some ⟨b, o, none⟩) cap) 28)).heap.size := by simp
 have hblk := World.block_lt_of_cell? _ _ hnd.1
 obtain ⟨c0, c1, c2, c3, c4, c5, c6, c7⟩ := hnd
 have HI := Lib.hid (hlay C capc i base g S m _ hkz (h.alloc _) (by simp; omega) HF.out.1)
 have HB := Lib.hid hb
 clear hz hf ht h hlay hgr e0 e1 e2 hX hkz
 unfold ndV at *
 unfold ndA at *
 rw [hk] at *
 clear hk
 rw [hn1] at *
 clear hn1
 go_enter Tryz.func168, Tryz.ntmps168
 go_wp2_with fail
 refine HI.out.mono ?_
 rintro e w2 ⟨rfl, S2, hL2, hM2⟩
 have hs2 := hM2.size
 have HC := Lib.hid (lstate_go base g S2 _ 0 w2 hL2 (by omega) HF.out.1.1)
 have HM2 := Lib.hid hM2
 clear hL2 hM2 HI c0 c1 c2 c3 c4 c5 c6 c7 x5 hbb hblk
 dsimp only
 go_wp2_with fail
 refine HC.out.mono ?_
 rintro e w3 ⟨rfl, S3, hL3, hM3⟩
 have hM3' := HM2.out.trans hM3
 have hs3 := hM3'.size
 have HC3 := Lib.hid (llink_go base g S3 _ (z.lay m i).2 (z.lay m i).1.states w3 hL3 (by omega) HF.out.2.1.2.1)
 have HM3 := Lib.hid hM3'
 clear hL3 hM3 hM3' HC HM2
 dsimp only
 go_wp2_with fail
 refine HC3.out.mono ?_
 rintro e w4 ⟨rfl, S4, hL4, hM4⟩
 have hM4' := HM3.out.trans hM4
 have hs4 := hM4'.size
 have HC4 := Lib.hid (llink_go base g S4 _ i (z.lay m i).1.states w4 hL4 (by omega) HF.out.2.2.2.1)
 have HM4 := Lib.hid hM4'
 clear hL4 hM4 hM4' HC3 HM3
 dsimp only
 go_wp2_with fail
 refine HC4.out.mono ?_
 rintro e w5 ⟨rfl, S5, hL5, hM5⟩
 have hM5' := HM4.out.trans hM5
 have HOUT := Lib.hid (show ∃ S', LayAt w5 base g S' _ ∧ Moves base S w S' w5 from ⟨S5, hL5, ((Moves.refl base S w).alloc HB.out _).trans hM5'⟩)
 clear hM5 hM5' hL5 HM4 HC4
 dsimp only
 go_wp2
 go_light
 go_ret
 exact ⟨rfl, HOUT.out⟩
end Go.Proofs.YtfekpkelmliejaaGreatDoor
