/- Texts of the claim. -/
import Derived.Test.YtofbfafnpdaejaaGreatDoorJZ03
set_option linter.all false
set_option maxRecDepth 100000
set_option maxHeartbeats 8000000
namespace Go.Proofs.YtofbfafnpdaejaaGreatDoor
open Go.RowKit
def overT (k : Int) (x : Nd) (lo hi : Int) : Nd := ⟨k, 0, Trees.of [x], lo, hi⟩
theorem tover_put {w w3 : World} {k : Int} {x : Nd} {B' : Option Addr} {c' : Nat} (hZ : Blk w3 (w.heap.size + 1) 28 #[.int .i64 0, .int .u64 0, .int .u64 0, .int .u64 0, .int .u64 0, .slice none 0 0, .int .i64 0, .int .i64 0]) (hB : Below w.heap.size w w3) (hc : x.kids.len ≤ c') (ht : TreesAt w3 (fun b => w.heap.size + 2 ≤ b) x.kids B') {w' : World}
  (hw' : w' = (((((((((w3.setCell ⟨w.heap.size + 1, 0, none⟩ (.int .i64 k)).setCell ⟨w.heap.size + 1, 1, none⟩ (.int .u64 0)).setCell ⟨w.heap.size + 1, 2, none⟩ (.int .u64 0)).setCell ⟨w.heap.size + 1, 3, none⟩ (.int .u64 0)).setCell ⟨w.heap.size + 1, 4, none⟩ (.int .u64 0)).setCell ⟨w.heap.size + 1, 5, none⟩ (.slice (some ⟨w3.heap.size, 0, none⟩) 1 1)).setCell ⟨w.heap.size + 1, 6, none⟩ (.int .i64 0)).setCell ⟨w.heap.size + 1, 7, none⟩ (.int .i64 0)).alloc (.cells (ndCell x B' c').toArray 28))) :
  Blk w' (w.heap.size + 1) 28 (ndA (overT k x 0 0) (some ⟨w3.heap.size, 0, none⟩) 1) ∧ Below w.heap.size w w' ∧ TreesAt w' (fun b => w.heap.size ≤ b) (overT k x 0 0).kids (some ⟨w3.heap.size, 0, none⟩) := by
 have hsz := hB.size
 have hlt := hZ.lt
 generalize hS : ((((((((w3.setCell ⟨w.heap.size + 1, 0, none⟩ (.int .i64 k)).setCell ⟨w.heap.size + 1, 1, none⟩ (.int .u64 0)).setCell ⟨w.heap.size + 1, 2, none⟩ (.int .u64 0)).setCell ⟨w.heap.size + 1, 3, none⟩ (.int .u64 0)).setCell ⟨w.heap.size + 1, 4, none⟩ (.int .u64 0)).setCell ⟨w.heap.size + 1, 5, none⟩ (.slice (some ⟨w3.heap.size, 0, none⟩) 1 1)).setCell ⟨w.heap.size + 1, 6, none⟩ (.int .i64 0)).setCell ⟨w.heap.size + 1, 7, none⟩ (.int .i64 0)) = S at hw'
 have hg : w3.grownBy S (some (w.heap.size + 1)) := by rw [← hS]; exact only_put8 _ _ _ _ _ _ _ _ _ _
 have hs3 : S.heap.size = w3.heap.size := by rw [← hS]; simp [World.setCell]
 have hSb : Blk S (w.heap.size + 1) 28 #[.int .i64 k, .int .u64 0, .int .u64 0, .int .u64 0, .int .u64 0, .slice (some ⟨w3.heap.size, 0, none⟩) 1 1, .int .i64 0, .int .i64 0] := by rw [← hS]; exact hZ.put8 _ _ _ _ _ _ _ _
 have hBS : Below w.heap.size w S := by rw [← hS]; exact below_put8 hB (by omega) _ _ _ _ _ _ _ _
 have hN : Blk w' w3.heap.size 28 (ndCell x B' c').toArray := by rw [hw', ← hs3]; exact Blk.new S _ _
 have hal : Below S.heap.size S w' := by rw [hw']; exact (Below.refl _ _).alloc (Nat.le_refl _) _
 refine ⟨?_, hBS.trans (hal.mono (by omega)), w3.heap.size, 0, B', c', rfl, by omega, hc, ⟨hN.cell 0, hN.cell 1, hN.cell 2, hN.cell 3, hN.cell 4, hN.cell 5, hN.cell 6, hN.cell 7⟩, ?_, trivial⟩
 ·have := hSb.below hal hSb.lt
  unfold ndA overT
  simp only [word_zero]
  exact this
 ·refine ht.keep (fun b o hb hl => (hal.cell (p := ⟨b, o, none⟩) (by show b < _; omega)).trans (World.cell?_of_block (hg.block b hl (fun e => by have := Option.some.inj e; omega)))) (fun b hb _ => by omega)
theorem tover_go (k : Int) (x : Nd) (P : Nat → Prop) (B : Option Addr) (cap : Nat) (w : World) (hlen : x.size ≤ 100000000) (ht : TreesAt w P x.kids B) :
  Calls Tryz.prog 139 #[.int .i64 k, ndV x B cap] w fun e w' => ∃ B' cap', e = .returned (ndV (overT k x 0 0) B' cap') ∧ Below w.heap.size w w' ∧ (overT k x 0 0).kids.len ≤ cap' ∧ TreesAt w' (fun b => w.heap.size ≤ b) (overT k x 0 0).kids B' := by
 have hb2 : Below w.heap.size w ((w.alloc (.cells (ndA x B cap) 28)).alloc (.cells #[.int .i64 0, .int .u64 0, .int .u64 0, .int .u64 0, .int .u64 0, .slice none 0 0, .int .i64 0, .int .i64 0] 28)) := ((Below.refl _ _).alloc (Nat.le_refl _) _).alloc (by simp) _
 have HI := Lib.hid (copy_go x P B cap _ hlen (ht.below hb2))
 have HB2 := Lib.hid hb2
 have hX := (show Blk ((w.alloc (.cells (ndA x B cap) 28)).alloc (.cells #[.int .i64 0, .int .u64 0, .int .u64 0, .int .u64 0, .int .u64 0, .slice none 0 0, .int .i64 0, .int .i64 0] 28)) w.heap.size 28 (ndA x B cap) from (Blk.new _ _ _).alloc _)
 have HZ2 := Lib.hid (show Blk ((w.alloc (.cells (ndA x B cap) 28)).alloc (.cells #[.int .i64 0, .int .u64 0, .int .u64 0, .int .u64 0, .int .u64 0, .slice none 0 0, .int .i64 0, .int .i64 0] 28)) (w.heap.size + 1) 28 #[.int .i64 0, .int .u64 0, .int .u64 0, .int .u64 0, .int .u64 0, .slice none 0 0, .int .i64 0, .int .i64 0] from Blk.new_at (by simp))
 clear ht hb2 hlen
 unfold ndV
 unfold ndV ndA at HI
 unfold ndA at HB2 HZ2 hX
 clear hX
 go_enter Tryz.func139, Tryz.ntmps139
 go_wp2_with fail
 refine HI.out.mono ?_
 rintro e w3 ⟨B3, cap3, rfl, hb3, hc3, ht3⟩
 have hZ3 := HZ2.out.below hb3 HZ2.out.lt
 have HB3 := Lib.hid (HB2.out.trans (hb3.mono HB2.out.size))
 have HZ3 := Lib.hid hZ3
 have HC3 := Lib.hid hc3
 have HT3 := Lib.hid (ht3.weak (Q := fun b => w.heap.size + 2 ≤ b) (fun b hb _ => by simpa using hb))
 have y0 : w3.cell? ⟨w.heap.size + 1, 0, none⟩ = some (.int .i64 0) := hZ3.cell 0
 have y1 : w3.cell? ⟨w.heap.size + 1, 1, none⟩ = some (.int .u64 0) := hZ3.cell 1
 have y2 : w3.cell? ⟨w.heap.size + 1, 2, none⟩ = some (.int .u64 0) := hZ3.cell 2
 have y3 : w3.cell? ⟨w.heap.size + 1, 3, none⟩ = some (.int .u64 0) := hZ3.cell 3
 have y4 : w3.cell? ⟨w.heap.size + 1, 4, none⟩ = some (.int .u64 0) := hZ3.cell 4
 have y5 : w3.cell? ⟨w.heap.size + 1, 5, none⟩ = some (.slice none 0 0) := hZ3.cell 5
 have y6 : w3.cell? ⟨w.heap.size + 1, 6, none⟩ = some (.int .i64 0) := hZ3.cell 6
 have y7 : w3.cell? ⟨w.heap.size + 1, 7, none⟩ = some (.int .i64 0) := hZ3.cell 7
 have g0 := hZ3.frozen 0
 have g1 := hZ3.frozen 1
 have g2 := hZ3.frozen 2
 have g3 := hZ3.frozen 3
 have g4 := hZ3.frozen 4
 have g5 := hZ3.frozen 5
 have g6 := hZ3.frozen 6
 have g7 := hZ3.frozen 7
 have lz := hZ3.lt
 clear hZ3 ht3 hb3 hc3 HI HZ2 HB2
 dsimp only
 go_wp2
 go_light
 have hF := tover_put (k := k) HZ3.out HB3.out HC3.out HT3.out rfl
 exact bodyPost_ret (ret_node Tryz.results139 rfl hF.1) rfl ⟨some ⟨w3.heap.size, 0, none⟩, 1, rfl, hF.2.1, Nat.le_refl _, hF.2.2⟩
theorem tstar_go (x : Nd) (P : Nat → Prop) (B : Option Addr) (cap : Nat) (w : World) (hlen : x.size ≤ 100000000) (ht : TreesAt w P x.kids B) :
  Calls Tryz.prog 91 #[ndV x B cap] w fun e w' => ∃ B' cap', e = .returned (ndV (overT 6 x 0 0) B' cap') ∧ Below w.heap.size w w' ∧ (overT 6 x 0 0).kids.len ≤ cap' ∧ TreesAt w' (fun b => w.heap.size ≤ b) (overT 6 x 0 0).kids B' := by
 have hb2 : Below w.heap.size w ((w.alloc (.cells (ndA x B cap) 28)).alloc (.cells #[.int .i64 0, .int .u64 0, .int .u64 0, .int .u64 0, .int .u64 0, .slice none 0 0, .int .i64 0, .int .i64 0] 28)) := ((Below.refl _ _).alloc (Nat.le_refl _) _).alloc (by simp) _
 have HI := Lib.hid (tover_go 6 x P B cap _ hlen (ht.below hb2))
 have HB2 := Lib.hid hb2
 have HZ2 := Lib.hid (show Blk ((w.alloc (.cells (ndA x B cap) 28)).alloc (.cells #[.int .i64 0, .int .u64 0, .int .u64 0, .int .u64 0, .int .u64 0, .slice none 0 0, .int .i64 0, .int .i64 0] 28)) (w.heap.size + 1) 28 #[.int .i64 0, .int .u64 0, .int .u64 0, .int .u64 0, .int .u64 0, .slice none 0 0, .int .i64 0, .int .i64 0] from Blk.new_at (by simp))
 clear ht hb2 hlen
 unfold ndV
 unfold ndV ndA at HI
 unfold ndA at HB2 HZ2
 go_enter Tryz.func91, Tryz.ntmps91
 go_wp2_with fail
 refine HI.out.mono ?_
 rintro e w3 ⟨B3, cap3, rfl, hb3, hc3, ht3⟩
 have hZ3 := HZ2.out.below hb3 HZ2.out.lt
 have HB3 := Lib.hid (HB2.out.trans (hb3.mono HB2.out.size))
 have HZ3 := Lib.hid hZ3
 have HC3 := Lib.hid hc3
 have HT3 := Lib.hid (ht3.weak (Q := fun b => w.heap.size + 2 ≤ b) (fun b hb _ => by simpa using hb))
 have y0 : w3.cell? ⟨w.heap.size + 1, 0, none⟩ = some (.int .i64 0) := hZ3.cell 0
 have y1 : w3.cell? ⟨w.heap.size + 1, 1, none⟩ = some (.int .u64 0) := hZ3.cell 1
 have y2 : w3.cell? ⟨w.heap.size + 1, 2, none⟩ = some (.int .u64 0) := hZ3.cell 2
 have y3 : w3.cell? ⟨w.heap.size + 1, 3, none⟩ = some (.int .u64 0) := hZ3.cell 3
 have y4 : w3.cell? ⟨w.heap.size + 1, 4, none⟩ = some (.int .u64 0) := hZ3.cell 4
 have y5 : w3.cell? ⟨w.heap.size + 1, 5, none⟩ = some (.slice none 0 0) := hZ3.cell 5
 have y6 : w3.cell? ⟨w.heap.size + 1, 6, none⟩ = some (.int .i64 0) := hZ3.cell 6
 have y7 : w3.cell? ⟨w.heap.size + 1, 7, none⟩ = some (.int .i64 0) := hZ3.cell 7
 have g0 := hZ3.frozen 0
 have g1 := hZ3.frozen 1
 have g2 := hZ3.frozen 2
 have g3 := hZ3.frozen 3
 have g4 := hZ3.frozen 4
 have g5 := hZ3.frozen 5
 have g6 := hZ3.frozen 6
 have g7 := hZ3.frozen 7
 have lz := hZ3.lt
 clear hZ3 ht3 hb3 hc3 HI HZ2 HB2
 dsimp only
 go_wp2
 go_light
 have hF := put_next (x := overT 6 x 0 0) (B := B3) (cap := cap3) HZ3.out HB3.out HT3.out rfl
 exact bodyPost_ret (ret_node Tryz.results91 rfl hF.1) rfl ⟨B3, cap3, rfl, hF.2.1, HC3.out, hF.2.2⟩
theorem tplus_go (x : Nd) (P : Nat → Prop) (B : Option Addr) (cap : Nat) (w : World) (hlen : x.size ≤ 100000000) (ht : TreesAt w P x.kids B) :
  Calls Tryz.prog 93 #[ndV x B cap] w fun e w' => ∃ B' cap', e = .returned (ndV (overT 7 x 0 0) B' cap') ∧ Below w.heap.size w w' ∧ (overT 7 x 0 0).kids.len ≤ cap' ∧ TreesAt w' (fun b => w.heap.size ≤ b) (overT 7 x 0 0).kids B' := by
 have hb2 : Below w.heap.size w ((w.alloc (.cells (ndA x B cap) 28)).alloc (.cells #[.int .i64 0, .int .u64 0, .int .u64 0, .int .u64 0, .int .u64 0, .slice none 0 0, .int .i64 0, .int .i64 0] 28)) := ((Below.refl _ _).alloc (Nat.le_refl _) _).alloc (by simp) _
 have HI := Lib.hid (tover_go 7 x P B cap _ hlen (ht.below hb2))
 have HB2 := Lib.hid hb2
 have HZ2 := Lib.hid (show Blk ((w.alloc (.cells (ndA x B cap) 28)).alloc (.cells #[.int .i64 0, .int .u64 0, .int .u64 0, .int .u64 0, .int .u64 0, .slice none 0 0, .int .i64 0, .int .i64 0] 28)) (w.heap.size + 1) 28 #[.int .i64 0, .int .u64 0, .int .u64 0, .int .u64 0, .int .u64 0, .slice none 0 0, .int .i64 0, .int .i64 0] from Blk.new_at (by simp))
 clear ht hb2 hlen
 unfold ndV
 unfold ndV ndA at HI
 unfold ndA at HB2 HZ2
 go_enter Tryz.func93, Tryz.ntmps93
 go_wp2_with fail
 refine HI.out.mono ?_
 rintro e w3 ⟨B3, cap3, rfl, hb3, hc3, ht3⟩
 have hZ3 := HZ2.out.below hb3 HZ2.out.lt
 have HB3 := Lib.hid (HB2.out.trans (hb3.mono HB2.out.size))
 have HZ3 := Lib.hid hZ3
 have HC3 := Lib.hid hc3
 have HT3 := Lib.hid (ht3.weak (Q := fun b => w.heap.size + 2 ≤ b) (fun b hb _ => by simpa using hb))
 have y0 : w3.cell? ⟨w.heap.size + 1, 0, none⟩ = some (.int .i64 0) := hZ3.cell 0
 have y1 : w3.cell? ⟨w.heap.size + 1, 1, none⟩ = some (.int .u64 0) := hZ3.cell 1
 have y2 : w3.cell? ⟨w.heap.size + 1, 2, none⟩ = some (.int .u64 0) := hZ3.cell 2
 have y3 : w3.cell? ⟨w.heap.size + 1, 3, none⟩ = some (.int .u64 0) := hZ3.cell 3
 have y4 : w3.cell? ⟨w.heap.size + 1, 4, none⟩ = some (.int .u64 0) := hZ3.cell 4
 have y5 : w3.cell? ⟨w.heap.size + 1, 5, none⟩ = some (.slice none 0 0) := hZ3.cell 5
 have y6 : w3.cell? ⟨w.heap.size + 1, 6, none⟩ = some (.int .i64 0) := hZ3.cell 6
 have y7 : w3.cell? ⟨w.heap.size + 1, 7, none⟩ = some (.int .i64 0) := hZ3.cell 7
 have g0 := hZ3.frozen 0
 have g1 := hZ3.frozen 1
 have g2 := hZ3.frozen 2
 have g3 := hZ3.frozen 3
 have g4 := hZ3.frozen 4
 have g5 := hZ3.frozen 5
 have g6 := hZ3.frozen 6
 have g7 := hZ3.frozen 7
 have lz := hZ3.lt
 clear hZ3 ht3 hb3 hc3 HI HZ2 HB2
 dsimp only
 go_wp2
 go_light
 have hF := put_next (x := overT 7 x 0 0) (B := B3) (cap := cap3) HZ3.out HB3.out HT3.out rfl
 exact bodyPost_ret (ret_node Tryz.results93 rfl hF.1) rfl ⟨B3, cap3, rfl, hF.2.1, HC3.out, hF.2.2⟩
theorem topt_go (x : Nd) (P : Nat → Prop) (B : Option Addr) (cap : Nat) (w : World) (hlen : x.size ≤ 100000000) (ht : TreesAt w P x.kids B) :
  Calls Tryz.prog 94 #[ndV x B cap] w fun e w' => ∃ B' cap', e = .returned (ndV (overT 8 x 0 0) B' cap') ∧ Below w.heap.size w w' ∧ (overT 8 x 0 0).kids.len ≤ cap' ∧ TreesAt w' (fun b => w.heap.size ≤ b) (overT 8 x 0 0).kids B' := by
 have hb2 : Below w.heap.size w ((w.alloc (.cells (ndA x B cap) 28)).alloc (.cells #[.int .i64 0, .int .u64 0, .int .u64 0, .int .u64 0, .int .u64 0, .slice none 0 0, .int .i64 0, .int .i64 0] 28)) := ((Below.refl _ _).alloc (Nat.le_refl _) _).alloc (by simp) _
 have HI := Lib.hid (tover_go 8 x P B cap _ hlen (ht.below hb2))
 have HB2 := Lib.hid hb2
 have HZ2 := Lib.hid (show Blk ((w.alloc (.cells (ndA x B cap) 28)).alloc (.cells #[.int .i64 0, .int .u64 0, .int .u64 0, .int .u64 0, .int .u64 0, .slice none 0 0, .int .i64 0, .int .i64 0] 28)) (w.heap.size + 1) 28 #[.int .i64 0, .int .u64 0, .int .u64 0, .int .u64 0, .int .u64 0, .slice none 0 0, .int .i64 0, .int .i64 0] from Blk.new_at (by simp))
 clear ht hb2 hlen
 unfold ndV
 unfold ndV ndA at HI
 unfold ndA at HB2 HZ2
 go_enter Tryz.func94, Tryz.ntmps94
 go_wp2_with fail
 refine HI.out.mono ?_
 rintro e w3 ⟨B3, cap3, rfl, hb3, hc3, ht3⟩
 have hZ3 := HZ2.out.below hb3 HZ2.out.lt
 have HB3 := Lib.hid (HB2.out.trans (hb3.mono HB2.out.size))
 have HZ3 := Lib.hid hZ3
 have HC3 := Lib.hid hc3
 have HT3 := Lib.hid (ht3.weak (Q := fun b => w.heap.size + 2 ≤ b) (fun b hb _ => by simpa using hb))
 have y0 : w3.cell? ⟨w.heap.size + 1, 0, none⟩ = some (.int .i64 0) := hZ3.cell 0
 have y1 : w3.cell? ⟨w.heap.size + 1, 1, none⟩ = some (.int .u64 0) := hZ3.cell 1
 have y2 : w3.cell? ⟨w.heap.size + 1, 2, none⟩ = some (.int .u64 0) := hZ3.cell 2
 have y3 : w3.cell? ⟨w.heap.size + 1, 3, none⟩ = some (.int .u64 0) := hZ3.cell 3
 have y4 : w3.cell? ⟨w.heap.size + 1, 4, none⟩ = some (.int .u64 0) := hZ3.cell 4
 have y5 : w3.cell? ⟨w.heap.size + 1, 5, none⟩ = some (.slice none 0 0) := hZ3.cell 5
 have y6 : w3.cell? ⟨w.heap.size + 1, 6, none⟩ = some (.int .i64 0) := hZ3.cell 6
 have y7 : w3.cell? ⟨w.heap.size + 1, 7, none⟩ = some (.int .i64 0) := hZ3.cell 7
 have g0 := hZ3.frozen 0
 have g1 := hZ3.frozen 1
 have g2 := hZ3.frozen 2
 have g3 := hZ3.frozen 3
 have g4 := hZ3.frozen 4
 have g5 := hZ3.frozen 5
 have g6 := hZ3.frozen 6
 have g7 := hZ3.frozen 7
 have lz := hZ3.lt
 clear hZ3 ht3 hb3 hc3 HI HZ2 HB2
 dsimp only
 go_wp2
 go_light
 have hF := put_next (x := overT 8 x 0 0) (B := B3) (cap := cap3) HZ3.out HB3.out HT3.out rfl
 exact bodyPost_ret (ret_node Tryz.results94 rfl hF.1) rfl ⟨B3, cap3, rfl, hF.2.1, HC3.out, hF.2.2⟩
theorem trep_go (lo hi : Int) (x : Nd) (P : Nat → Prop) (B : Option Addr) (cap : Nat) (w : World) (hlen : x.size ≤ 100000000) (ht : TreesAt w P x.kids B) :
  Calls Tryz.prog 95 #[ndV x B cap, .int .i64 lo, .int .i64 hi] w fun e w' => ∃ B' cap', e = .returned (ndV (overT 9 x lo hi) B' cap') ∧ Below w.heap.size w w' ∧ (overT 9 x lo hi).kids.len ≤ cap' ∧ TreesAt w' (fun b => w.heap.size ≤ b) (overT 9 x lo hi).kids B' := by
 have hb2 : Below w.heap.size w ((w.alloc (.cells (ndA x B cap) 28)).alloc (.cells #[.int .i64 0, .int .u64 0, .int .u64 0, .int .u64 0, .int .u64 0, .slice none 0 0, .int .i64 0, .int .i64 0] 28)) := ((Below.refl _ _).alloc (Nat.le_refl _) _).alloc (by simp) _
 have HI := Lib.hid (tover_go 9 x P B cap _ hlen (ht.below hb2))
 have HB2 := Lib.hid hb2
 have HZ2 := Lib.hid (show Blk ((w.alloc (.cells (ndA x B cap) 28)).alloc (.cells #[.int .i64 0, .int .u64 0, .int .u64 0, .int .u64 0, .int .u64 0, .slice none 0 0, .int .i64 0, .int .i64 0] 28)) (w.heap.size + 1) 28 #[.int .i64 0, .int .u64 0, .int .u64 0, .int .u64 0, .int .u64 0, .slice none 0 0, .int .i64 0, .int .i64 0] from Blk.new_at (by simp))
 clear ht hb2 hlen
 unfold ndV
 unfold ndV ndA at HI
 unfold ndA at HB2 HZ2
 go_enter Tryz.func95, Tryz.ntmps95
 go_wp2_with fail
 refine HI.out.mono ?_
 rintro e w3 ⟨B3, cap3, rfl, hb3, hc3, ht3⟩
 have hZ3 := HZ2.out.below hb3 HZ2.out.lt
 have HB3 := Lib.hid (HB2.out.trans (hb3.mono HB2.out.size))
 have HZ3 := Lib.hid hZ3
 have HC3 := Lib.hid hc3
 have HT3 := Lib.hid (ht3.weak (Q := fun b => w.heap.size + 2 ≤ b) (fun b hb _ => by simpa using hb))
 have y0 : w3.cell? ⟨w.heap.size + 1, 0, none⟩ = some (.int .i64 0) := hZ3.cell 0
 have y1 : w3.cell? ⟨w.heap.size + 1, 1, none⟩ = some (.int .u64 0) := hZ3.cell 1
 have y2 : w3.cell? ⟨w.heap.size + 1, 2, none⟩ = some (.int .u64 0) := hZ3.cell 2
 have y3 : w3.cell? ⟨w.heap.size + 1, 3, none⟩ = some (.int .u64 0) := hZ3.cell 3
 have y4 : w3.cell? ⟨w.heap.size + 1, 4, none⟩ = some (.int .u64 0) := hZ3.cell 4
 have y5 : w3.cell? ⟨w.heap.size + 1, 5, none⟩ = some (.slice none 0 0) := hZ3.cell 5
 have y6 : w3.cell? ⟨w.heap.size + 1, 6, none⟩ = some (.int .i64 0) := hZ3.cell 6
 have y7 : w3.cell? ⟨w.heap.size + 1, 7, none⟩ = some (.int .i64 0) := hZ3.cell 7
 have g0 := hZ3.frozen 0
 have g1 := hZ3.frozen 1
 have g2 := hZ3.frozen 2
 have g3 := hZ3.frozen 3
 have g4 := hZ3.frozen 4
 have g5 := hZ3.frozen 5
 have g6 := hZ3.frozen 6
 have g7 := hZ3.frozen 7
 have lz := hZ3.lt
 clear hZ3 ht3 hb3 hc3 HI HZ2 HB2
 dsimp only
 go_wp2
 have hF := put_next (x := overT 9 x lo hi) (B := B3) (cap := cap3) HZ3.out HB3.out HT3.out rfl
 have hal := fun (S : World) (o : Obj) => (show Below S.heap.size S (S.alloc o) from (Below.refl _ _).alloc (Nat.le_refl _) _)
 exact bodyPost_ret (ret_node Tryz.results95 rfl (Blk.alloc hF.1 _)) rfl ⟨B3, cap3, rfl, hF.2.1.trans ((hal _ _).mono hF.2.1.size), HC3.out, (hF.2.2.below (hal _ _)).weak (fun b h _ => h)⟩
end Go.Proofs.YtofbfafnpdaejaaGreatDoor
