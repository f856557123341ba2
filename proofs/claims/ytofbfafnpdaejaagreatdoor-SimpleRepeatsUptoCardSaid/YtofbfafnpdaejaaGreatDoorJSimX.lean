/- Texts of the claim. -/
import Derived.Test.YtofbfafnpdaejaaGreatDoorJSimV
import Derived.Test.YtofbfafnpdaejaaGreatDoorJSimG
import Derived.Test.YtofbfafnpdaejaaGreatDoorJZ04
set_option linter.all false
set_option maxRecDepth 100000
set_option maxHeartbeats 8000000
namespace Go.Proofs.YtofbfafnpdaejaaGreatDoor
open Go.RowKit
def OfOutD (P : Nat → Prop) (x : Nd) (w : World) (e : Ending) (w' : World) : Prop := Below w.heap.size w w' ∧
  ((rightT x = false ∧ e = .returned (.tuple #[.agg #[.int .i64 0, .int .u64 0, .int .u64 0, .int .u64 0, .int .u64 0, .slice none 0 0, .int .i64 0, .int .i64 0], .int .i64 6])) ∨
   (rightT x = true ∧ ∃ B' cap', e = .returned (.tuple #[ndV x.sim B' cap', .int .i64 0]) ∧ x.sim.kids.len ≤ cap' ∧ TreesAt w' (fun b => P b ∨ w.heap.size ≤ b) x.sim.kids B'))
theorem zero_put1 {w w2 : World} {ob : Obj} (hZ : Blk w2 (w.heap.size + 1) 28 #[.int .i64 0, .int .u64 0, .int .u64 0, .int .u64 0, .int .u64 0, .slice none 0 0, .int .i64 0, .int .i64 0]) (hB : Below (w.heap.size + 1) (w.alloc ob) w2) {w' : World}
  (hw' : w' = ((((((((w2.setCell ⟨w.heap.size + 1, 0, none⟩ (.int .i64 (⟨0, 0, .nil, 0, 0⟩ : Nd).kind)).setCell ⟨w.heap.size + 1, 1, none⟩ (.int .u64 ((word (0 : Nat).testBit 0 : Nat) : Int))).setCell ⟨w.heap.size + 1, 2, none⟩ (.int .u64 ((word (0 : Nat).testBit 1 : Nat) : Int))).setCell ⟨w.heap.size + 1, 3, none⟩ (.int .u64 ((word (0 : Nat).testBit 2 : Nat) : Int))).setCell ⟨w.heap.size + 1, 4, none⟩ (.int .u64 ((word (0 : Nat).testBit 3 : Nat) : Int))).setCell ⟨w.heap.size + 1, 5, none⟩ (.slice none 0 0)).setCell ⟨w.heap.size + 1, 6, none⟩ (.int .i64 0)).setCell ⟨w.heap.size + 1, 7, none⟩ (.int .i64 0))) :
  Blk w' (w.heap.size + 1) 28 (ndA ⟨0, 0, .nil, 0, 0⟩ none 0) ∧ Below w.heap.size w w' := by
 have hsz : (w.alloc ob).heap.size = w.heap.size + 1 := by simp
 have h := flat_put (w := w.alloc ob) (w2 := w2) (x := ⟨0, 0, .nil, 0, 0⟩) (B := none) (cap := 0) (P := fun _ => True) (by rw [hsz]; exact hZ) (by rw [hsz]; exact hB) trivial (w' := w') (by rw [hsz]; exact hw')
 rw [hsz] at h
 exact ⟨h.1, ((Below.refl w.heap.size w).alloc (Nat.le_refl _) ob).trans (h.2.1.mono (by omega))⟩
theorem rOf_no (x : Nd) (P : Nat → Prop) (B : Option Addr) (cap : Nat) (w : World) (hs : x.size ≤ 140737488355328) (hf : FitT x) (hc : x.kids.len ≤ cap) (hP : ∀ b, P b → b < w.heap.size) (ht : TreesAt w P x.kids B) (hr : rightT x = false) : Calls Tryz.prog 24 #[ndV x B cap] w (OfOutD P x w) := by
 obtain ⟨hb2, HB2, HX2, HZ2, HW2⟩ := two_hid w x B cap
 have HB12 := Lib.hid (two_made w x B cap).2.2.2.2.2
 have htw := (ht.below hb2)
 have HR := Lib.hid (rright_any x P B cap (W2n w x B cap) hs htw)
 have HTW := Lib.hid htw
 clear ht hb2 htw HB2
 have HRR := Lib.hid hr
 rw [hr] at HR
 clear hr hf
 unfold ndV at *
 unfold ndA at *
 obtain ⟨x0, x1, x2, x3, x4, x5, x6, x7, hl2⟩ := (HX2.out).c8n
 go_enter Tryz.func24, Tryz.ntmps24
 go_upto_region 1 with fail
 rw [← W2n_lit w x B cap]
 generalize W2n w x B cap = w2 at *
 go_wp2_with fail
 refine HR.out.mono ?_
 rintro e w3 ⟨rfl, hb3⟩
 have HX3 := Lib.hid (HX2.out.below hb3 HX2.out.lt)
 have HZ3 := Lib.hid (HZ2.out.below hb3 HZ2.out.lt)
 have hw2 := HW2.out
 have HB3 := Lib.hid (HB12.out.trans (hb3.mono (by omega)))
 have HT3 := Lib.hid (HTW.out.below hb3)
 have hw3 : w.heap.size + 2 ≤ w3.heap.size := Nat.le_trans HW2.out hb3.size
 clear hb3 HR HTW x0 x1 x2 x3 x4 x5 x6 x7 hl2 HX2 HZ2 HB12
 obtain ⟨x0, x1, x2, x3, x4, x5, x6, x7, hl2⟩ := (HX3.out).c8n
 obtain ⟨y0, y1, y2, y3, y4, y5, y6, y7, g0, g1, g2, g3, g4, g5, g6, g7⟩ := HZ3.out.z16
 dsimp only
 go_wp2
 go_light
 have hF := zero_put1 HZ3.out HB3.out (by simp only [word_zero]; rfl)
 refine bodyPost_ret (ret_nodeE Tryz.results24 rfl rfl hF.1) rfl ⟨hF.2, .inl ⟨HRR.out, rfl⟩⟩
theorem rOf_yes (x : Nd) (P : Nat → Prop) (B : Option Addr) (cap : Nat) (w : World) (hs : x.size ≤ 140737488355328) (hf : FitT x) (hc : x.kids.len ≤ cap) (hP : ∀ b, P b → b < w.heap.size) (ht : TreesAt w P x.kids B) (hr : rightT x = true) : Calls Tryz.prog 24 #[ndV x B cap] w (OfOutD P x w) := by
 have hok := right_oks hr hf
 have HOK := Lib.hid hok
 have HSS := Lib.hid (sim_sg hok).1
 have hsz := right_few hr
 obtain ⟨hb2, HB2, HX2, HZ2, HW2⟩ := two_hid w x B cap
 have HB12 := Lib.hid (two_made w x B cap).2.2.2.2.2
 have htw := (ht.below hb2)
 have HR := Lib.hid (rright_any x P B cap (W2n w x B cap) hs htw)
 have HTW := Lib.hid htw
 clear ht hb2 htw HB2
 have HRR := Lib.hid hr
 rw [hr] at HR
 clear hr hf hok
 unfold ndV at *
 unfold ndA at *
 obtain ⟨x0, x1, x2, x3, x4, x5, x6, x7, hl2⟩ := (HX2.out).c8n
 go_enter Tryz.func24, Tryz.ntmps24
 go_upto_region 1 with fail
 rw [← W2n_lit w x B cap]
 generalize W2n w x B cap = w2 at *
 go_wp2_with fail
 refine HR.out.mono ?_
 rintro e w3 ⟨rfl, hb3⟩
 have HX3 := Lib.hid (HX2.out.below hb3 HX2.out.lt)
 have HZ3 := Lib.hid (HZ2.out.below hb3 HZ2.out.lt)
 have hw2 := HW2.out
 have HB3 := Lib.hid (HB12.out.trans (hb3.mono (by omega)))
 have HT3 := Lib.hid (HTW.out.below hb3)
 have hw3 : w.heap.size + 2 ≤ w3.heap.size := Nat.le_trans HW2.out hb3.size
 clear hb3 HR HTW x0 x1 x2 x3 x4 x5 x6 x7 hl2 HX2 HZ2 HB12
 obtain ⟨x0, x1, x2, x3, x4, x5, x6, x7, hl2⟩ := (HX3.out).c8n
 have HI := Lib.hid (rof_go x P B cap w3 (by omega) HOK.out hc (fun b h => by have := hP b h; omega) HT3.out)
 unfold ndV at HI
 dsimp only
 generalize hy : x.sim = y at *
 have HY := Lib.hid hy
 clear hy
 go_wp2_with fail
 refine HI.out.mono ?_
 rintro e w9 ⟨B9, c9, rfl, hb9, hc9, ht9⟩
 have hZ9 := HZ3.out.below hb9 HZ3.out.lt
 have HB9 := Lib.hid (HB3.out.trans (hb9.mono (by omega)))
 have HZ9 := Lib.hid hZ9
 have HT9 := Lib.hid (ht9.weak (Q := fun b => P b ∨ w.heap.size + 1 ≤ b) (fun b hb _ => hb.imp id (fun h => by omega)))
 obtain ⟨y0, y1, y2, y3, y4, y5, y6, y7, g0, g1, g2, g3, g4, g5, g6, g7⟩ := hZ9.z16
 clear hZ9 ht9 hb9 HI HZ3 HB3 HX3 x0 x1 x2 x3 x4 x5 x6 x7 hl2 HT3
 unfold ndV
 dsimp only
 go_wp2
 go_light
 have hF := old_put1 (x := y) (B := B9) (cap := c9) HSS.out HZ9.out HB9.out hP (fun b h => h) HT9.out rfl
 refine bodyPost_ret (ret_nodeE Tryz.results24 rfl rfl hF.1) rfl ⟨hF.2.1, .inr ⟨HRR.out, ?_⟩⟩
 rw [HY.out]
 exact ⟨B9, c9, rfl, hc9, hF.2.2⟩
theorem rOf_go (x : Nd) (P : Nat → Prop) (B : Option Addr) (cap : Nat) (w : World) (hs : x.size ≤ 140737488355328) (hf : FitT x) (hc : x.kids.len ≤ cap) (hP : ∀ b, P b → b < w.heap.size) (ht : TreesAt w P x.kids B) : Calls Tryz.prog 24 #[ndV x B cap] w (OfOutD P x w) := by
 cases hr : rightT x with
 | false => exact rOf_no x P B cap w hs hf hc hP ht hr
 | true => exact rOf_yes x P B cap w hs hf hc hP ht hr
end Go.Proofs.YtofbfafnpdaejaaGreatDoor
