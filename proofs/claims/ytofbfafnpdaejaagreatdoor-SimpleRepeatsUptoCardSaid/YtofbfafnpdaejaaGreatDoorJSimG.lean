/- Texts of the claim. -/
import Derived.Test.YtofbfafnpdaejaaGreatDoorJSimF
set_option linter.all false
set_option maxRecDepth 100000
set_option maxHeartbeats 8000000
namespace Go.Proofs.YtofbfafnpdaejaaGreatDoor
open Go.RowKit
theorem ret_nodeE {fn : Func} {t2 t3 : Tmp} (h : fn.results = #[.cell t2 28, .tmp t3]) {tmps : Array Value} {w : World} {g : Nat} {a0 a1 a2 a3 a4 a5 a6 a7 c : Value}
  (hp : tmps.getD t2 undef = .pointer (some ⟨g, 0, none⟩)) (hc : tmps.getD t3 undef = c) (hb : Blk w g 28 #[a0, a1, a2, a3, a4, a5, a6, a7]) :
  (results fn tmps).run Tryz.prog w = .ok (.tuple #[.agg #[a0, a1, a2, a3, a4, a5, a6, a7], c]) w := by
 have h1 := run_loadVar_row (P := Tryz.prog) w g 28 28 #[a0, a1, a2, a3, a4, a5, a6, a7] (0, 0) _ hb Tryz.underlying28 rfl (by kernel_rfl)
 simp only [results, h]
 simp only [Array.getD_eq_getD_getElem?] at hp hc
 simp [Sem.run_bind, hp, hc, asAddr, h1, Result.andThen]
def OfOut (x : Nd) (w : World) (e : Ending) (w' : World) : Prop := Below w.heap.size w w' ∧
  ((rightT x = false ∧ e = .returned (.tuple #[.agg #[.int .i64 0, .int .u64 0, .int .u64 0, .int .u64 0, .int .u64 0, .slice none 0 0, .int .i64 0, .int .i64 0], .int .i64 6])) ∨
   (rightT x = true ∧ ∃ B' cap', e = .returned (.tuple #[ndV x.sim B' cap', .int .i64 0]) ∧ x.sim.kids.len ≤ cap' ∧ TreesAt w' (fun b => b < w'.heap.size) x.sim.kids B'))
theorem right_oks {x : Nd} (hr : rightT x = true) (hf : FitT x) : ∀ y ∈ x.nodes, OkN y := fun y hy => by
 unfold rightT at hr
 rw [Bool.and_eq_true] at hr
 exact ok_of_alone (List.all_eq_true.1 hr.2 y hy) (hf y hy)
theorem right_few {x : Nd} (hr : rightT x = true) : x.size ≤ 4096 := by
 unfold rightT at hr
 rw [Bool.and_eq_true, decide_eq_true_eq] at hr
 have : x.nodes.length = x.size := by unfold Nd.nodes Nd.size; rw [List.length_cons, Trees.nodes_len]; omega
 omega
theorem sOf_no (x : Nd) (B : Option Addr) (cap : Nat) (w : World) (hs : x.size ≤ 4611686018427387903) (hf : FitT x) (hc : x.kids.len ≤ cap) (ht : TreesAt w (fun b => b < w.heap.size) x.kids B) (hr : rightT x = false) : Calls Tryz.prog 23 #[ndV x B cap] w (OfOut x w) := by
 obtain ⟨hb2, HB2, HX2, HZ2, HW2⟩ := two_hid w x B cap
 have htw := (ht.below hb2).keep (Q := fun b => b < (W2n w x B cap).heap.size) (fun _ _ _ _ => rfl) (fun b _ h => h)
 have HR := Lib.hid (tright_any x B cap (W2n w x B cap) hs htw)
 have HTW := Lib.hid htw
 clear ht hb2 htw
 have HRR := Lib.hid hr
 rw [hr] at HR
 clear hr hf
 unfold ndV at *
 unfold ndA at *
 obtain ⟨x0, x1, x2, x3, x4, x5, x6, x7, hl2⟩ := (HX2.out).c8n
 go_enter Tryz.func23, Tryz.ntmps23
 go_upto_region 1 with fail
 rw [← W2n_lit w x B cap]
 generalize W2n w x B cap = w2 at *
 go_wp2_with fail
 refine HR.out.mono ?_
 rintro e w3 ⟨rfl, hb3⟩
 have HX3 := Lib.hid (HX2.out.below hb3 HX2.out.lt)
 have HZ3 := Lib.hid (HZ2.out.below hb3 HZ2.out.lt)
 have HB3 := Lib.hid (HB2.out.trans (hb3.mono HB2.out.size))
 have HT3 := Lib.hid (HTW.out.below hb3)
 have hw3 : w.heap.size + 2 ≤ w3.heap.size := Nat.le_trans HW2.out hb3.size
 clear hb3 HR HTW x0 x1 x2 x3 x4 x5 x6 x7 hl2 HX2 HZ2 HB2
 obtain ⟨x0, x1, x2, x3, x4, x5, x6, x7, hl2⟩ := (HX3.out).c8n
 obtain ⟨y0, y1, y2, y3, y4, y5, y6, y7, g0, g1, g2, g3, g4, g5, g6, g7⟩ := HZ3.out.z16
 dsimp only
 go_wp2
 go_light
 have hF := put_next (x := ⟨0, 0, .nil, 0, 0⟩) (B := none) (cap := 0) HZ3.out HB3.out (by trivial) (by simp only [word_zero]; rfl)
 refine bodyPost_ret (ret_nodeE Tryz.results23 rfl rfl hF.1) rfl ⟨hF.2.1, .inl ⟨HRR.out, ?_⟩⟩
 simp only [word_zero]
 rfl
theorem sOf_yes (x : Nd) (B : Option Addr) (cap : Nat) (w : World) (hs : x.size ≤ 4611686018427387903) (hf : FitT x) (hc : x.kids.len ≤ cap) (ht : TreesAt w (fun b => b < w.heap.size) x.kids B) (hr : rightT x = true) : Calls Tryz.prog 23 #[ndV x B cap] w (OfOut x w) := by
 have HOK := Lib.hid (right_oks hr hf)
 have hsz := right_few hr
 obtain ⟨hb2, HB2, HX2, HZ2, HW2⟩ := two_hid w x B cap
 have htw := (ht.below hb2).keep (Q := fun b => b < (W2n w x B cap).heap.size) (fun _ _ _ _ => rfl) (fun b _ h => h)
 have HR := Lib.hid (tright_any x B cap (W2n w x B cap) hs htw)
 have HTW := Lib.hid htw
 clear ht hb2 htw
 have HRR := Lib.hid hr
 rw [hr] at HR
 clear hr hf
 unfold ndV at *
 unfold ndA at *
 obtain ⟨x0, x1, x2, x3, x4, x5, x6, x7, hl2⟩ := (HX2.out).c8n
 go_enter Tryz.func23, Tryz.ntmps23
 go_upto_region 1 with fail
 rw [← W2n_lit w x B cap]
 generalize W2n w x B cap = w2 at *
 go_wp2_with fail
 refine HR.out.mono ?_
 rintro e w3 ⟨rfl, hb3⟩
 have HX3 := Lib.hid (HX2.out.below hb3 HX2.out.lt)
 have HZ3 := Lib.hid (HZ2.out.below hb3 HZ2.out.lt)
 have HB3 := Lib.hid (HB2.out.trans (hb3.mono HB2.out.size))
 have HT3 := Lib.hid (HTW.out.below hb3)
 have hw3 : w.heap.size + 2 ≤ w3.heap.size := Nat.le_trans HW2.out hb3.size
 clear hb3 HR HTW x0 x1 x2 x3 x4 x5 x6 x7 hl2 HX2 HZ2 HB2
 obtain ⟨x0, x1, x2, x3, x4, x5, x6, x7, hl2⟩ := (HX3.out).c8n
 have HI := Lib.hid (sof_go x _ B cap w3 (by omega) HOK.out hc HT3.out)
 unfold ndV at HI
 dsimp only
 generalize hy : x.sim = y at *
 have HY := Lib.hid hy
 clear hy
 go_wp2_with fail
 refine HI.out.mono ?_
 rintro e w9 ⟨B9, c9, rfl, hb9, hc9, ht9⟩
 have hZ9 := HZ3.out.below hb9 HZ3.out.lt
 have HB9 := Lib.hid (HB3.out.trans (hb9.mono HB3.out.size))
 have HZ9 := Lib.hid hZ9
 have HT9 := Lib.hid (ht9.weak (Q := fun b => w.heap.size + 2 ≤ b) (fun b hb _ => by omega))
 obtain ⟨y0, y1, y2, y3, y4, y5, y6, y7, g0, g1, g2, g3, g4, g5, g6, g7⟩ := hZ9.z16
 clear hZ9 ht9 hb9 HI HZ3 HB3 HX3 x0 x1 x2 x3 x4 x5 x6 x7 hl2 HT3
 unfold ndV
 dsimp only
 go_wp2
 go_light
 have hF := put_next (x := y) (B := B9) (cap := c9) HZ9.out HB9.out HT9.out rfl
 refine bodyPost_ret (ret_nodeE Tryz.results23 rfl rfl hF.1) rfl ⟨hF.2.1, .inr ⟨HRR.out, ?_⟩⟩
 rw [HY.out]
 exact ⟨B9, c9, rfl, hc9, hF.2.2.keep (fun _ _ _ _ => rfl) (fun b _ h => h)⟩
theorem sOf_go (x : Nd) (B : Option Addr) (cap : Nat) (w : World) (hs : x.size ≤ 4611686018427387903) (hf : FitT x) (hc : x.kids.len ≤ cap) (ht : TreesAt w (fun b => b < w.heap.size) x.kids B) : Calls Tryz.prog 23 #[ndV x B cap] w (OfOut x w) := by
 cases hr : rightT x with
 | false => exact sOf_no x B cap w hs hf hc ht hr
 | true => exact sOf_yes x B cap w hs hf hc ht hr
end Go.Proofs.YtofbfafnpdaejaaGreatDoor
