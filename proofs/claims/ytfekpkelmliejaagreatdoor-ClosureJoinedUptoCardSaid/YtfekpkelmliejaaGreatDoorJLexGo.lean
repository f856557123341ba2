/- Texts of the claim. -/
import Derived.Test.YtfekpkelmliejaaGreatDoorJReady
namespace Go.Proofs.YtfekpkelmliejaaGreatDoor
open Go.RowKit
set_option linter.unusedSimpArgs false
set_option linter.unusedVariables false
set_option maxRecDepth 100000
set_option maxHeartbeats 8000000
theorem ret_tree {fn : Func} {t2 t3 : Tmp} (h : fn.results = #[.cell t2 28, .cell t3 75]) {tmps : Array Value} {w : World} {g g' : Nat} {a0 a1 a2 a3 a4 a5 a6 a7 x y : Value}
  (hp : tmps.getD t2 undef = .pointer (some ⟨g, 0, none⟩)) (hp' : tmps.getD t3 undef = .pointer (some ⟨g', 0, none⟩)) (hb : Blk w g 28 #[a0, a1, a2, a3, a4, a5, a6, a7]) (hb' : Blk w g' 75 #[x, y]) :
  (results fn tmps).run Tryz.prog w = .ok (.tuple #[.agg #[a0, a1, a2, a3, a4, a5, a6, a7], .agg #[x, y]]) w := by
 have h1 := run_loadVar_row (P := Tryz.prog) w g 28 28 #[a0, a1, a2, a3, a4, a5, a6, a7] (0, 0) _ hb Tryz.underlying28 rfl (by kernel_rfl)
 have h2 := run_loadVar_row (P := Tryz.prog) w g' 75 75 #[x, y] (0, 0) _ hb' Tryz.underlying75 rfl (by kernel_rfl)
 simp only [results, h]
 simp only [Array.getD_eq_getD_getElem?] at hp hp'
 simp [Sem.run_bind, hp, hp', asAddr, h1, h2, Result.andThen]
def TreeOut (r : Except Wrong Nd) (w : World) (e : Ending) (w' : World) : Prop :=
 match r with
 | .ok x => ∃ B cap, e = .returned (.tuple #[ndV x B cap, .agg #[.int .i64 0, .int .i64 0]]) ∧ Below w.heap.size w w' ∧ x.kids.len ≤ cap ∧ TreesAt w' (fun b => w.heap.size ≤ b) x.kids B
 | .error (k, q) => e = .returned (.tuple #[zeroN, .agg #[.int .i64 k, .int .i64 q]]) ∧ Below w.heap.size w w'
theorem lexemesS_bad {L : List Lex} (h : (readyS L).1 ≠ 0) : lexemesS L = .error (readyS L) := by
 unfold readyS at h ⊢
 unfold lexemesS
 by_cases h1 : L.all rightS = false
 ·rw [if_pos h1, if_pos h1]
 ·rw [if_neg h1, if_neg h1]
  by_cases h2 : 1024 < L.length
  ·rw [dif_pos h2, dif_pos h2]
  ·rw [if_neg h1, dif_neg h2] at h
   exact absurd rfl h
theorem readyS_zero {L : List Lex} (h : (readyS L).1 = 0) : readyS L = (0, 0) ∧ L.all rightS = true ∧ L.length ≤ 1024 := by
 unfold readyS at h ⊢
 by_cases h1 : L.all rightS = false
 ·rw [if_pos h1] at h; cases h
 ·by_cases h2 : 1024 < L.length
  ·rw [if_neg h1, dif_pos h2] at h; cases h
  ·rw [if_neg h1, dif_neg h2]
   exact ⟨rfl, by simpa using h1, by omega⟩
theorem lexemesS_ok {L : List Lex} (h : L.all rightS = true) (hl : L.length ≤ 1024) : lexemesS L = match altG (3 * L.length + 3) [] [] L with
  | .error e => .error e
  | .ok (x, _) => .ok x := by
 unfold lexemesS
 rw [if_neg (by rw [h]; decide), dif_neg (by omega)]
 rfl
theorem lexemes_go (A : Option Addr) (cap : Nat) (L : List Lex) (w : World) (hA : LexsAt w w.heap.size A L) (hlen : L.length ≤ 140737488355328) (hcap : L.length ≤ cap) :
  Calls Tryz.prog 104 #[.slice A L.length cap] w (TreeOut (lexemesS L) w) := by
 have hmf : ∀ (fn : Fn) (first cap : Array Value) (w : World), (Instr.makeFunc fn first cap).run Tryz.prog w = .ok (.func fn first cap) w := fun _ _ _ _ => rfl
 have hb2 : Below w.heap.size w ((w.alloc (.cells #[.int .i64 0, .int .u64 0, .int .u64 0, .int .u64 0, .int .u64 0, .slice none 0 0, .int .i64 0, .int .i64 0] 28)).alloc (.cells #[.int .i64 0, .int .i64 0] 75)) := ((Below.refl _ _).alloc (Nat.le_refl _) _).alloc (by simp) _
 have HB2 := Lib.hid hb2
 have HG2 := Lib.hid (show Blk ((w.alloc (.cells #[.int .i64 0, .int .u64 0, .int .u64 0, .int .u64 0, .int .u64 0, .slice none 0 0, .int .i64 0, .int .i64 0] 28)).alloc (.cells #[.int .i64 0, .int .i64 0] 75)) w.heap.size 28 _ from (Blk.new w 28 #[.int .i64 0, .int .u64 0, .int .u64 0, .int .u64 0, .int .u64 0, .slice none 0 0, .int .i64 0, .int .i64 0]).alloc _)
 have HH2 := Lib.hid (show Blk ((w.alloc (.cells #[.int .i64 0, .int .u64 0, .int .u64 0, .int .u64 0, .int .u64 0, .slice none 0 0, .int .i64 0, .int .i64 0] 28)).alloc (.cells #[.int .i64 0, .int .i64 0] 75)) (w.heap.size + 1) 75 #[.int .i64 0, .int .i64 0] from Blk.new_at (by simp))
 have HA := Lib.hid hA
 have hz2 : ((w.alloc (.cells #[.int .i64 0, .int .u64 0, .int .u64 0, .int .u64 0, .int .u64 0, .slice none 0 0, .int .i64 0, .int .i64 0] 28)).alloc (.cells #[.int .i64 0, .int .i64 0] 75)).heap.size = w.heap.size + 2 := by simp
 have HRd := Lib.hid (ready_go A cap L _ ((hA.below hb2).more (by omega)) hlen)
 clear hb2 hA hz2
 go_enter_defers Tryz.func104, Tryz.ntmps104
 go_wp2_with fail
 refine HRd.out.mono ?_
 rintro e w3 ⟨rfl, hb3⟩
 have HB3 := Lib.hid (HB2.out.trans (hb3.mono HB2.out.size))
 have hG3 := HG2.out.below hb3 HG2.out.lt
 have hH3 := HH2.out.below hb3 HH2.out.lt
 have HG3 := Lib.hid hG3
 have HH3 := Lib.hid hH3
 have hne1 : w.heap.size ≠ w3.heap.size := by have := hG3.lt; omega
 have hne2 : w.heap.size + 1 ≠ w3.heap.size := by have := hH3.lt; omega
 have hlt1 : w.heap.size < w3.heap.size := hG3.lt
 have hlt2 : w.heap.size + 1 < w3.heap.size := hH3.lt
 by_cases h0 : (readyS L).1 = 0
 ·obtain ⟨h1, h2, h3⟩ := readyS_zero h0
  have HV := Lib.hid (lexemesS_ok h2 h3)
  rw [h1]
  have hb5 : Below w3.heap.size w3 ((w3.alloc (.cells #[.int .i64 0, .int .i64 0] 75)).alloc (.cells #[.slice A L.length cap, .slice none 0 0] 184)) := ((Below.refl _ _).alloc (Nat.le_refl _) _).alloc (by simp) _
  have hP5 : PAt ((w3.alloc (.cells #[.int .i64 0, .int .i64 0] 75)).alloc (.cells #[.slice A L.length cap, .slice none 0 0] 184)) (w3.heap.size + 1) (.slice none 0 0) L 0 :=
   ⟨A, cap, [], Blk.new_at (by simp), hcap, (HA.out.below (HB3.out.trans (hb5.mono HB3.out.size))).more (by omega), World.ownsRow_nil _ _ _ _⟩
  have HC := Lib.hid ((reads_go (3 * L.length + 3)).1 (w3.heap.size + 1) [] L _ (.slice none 0 0) hP5 (by omega) (by decide) (by omega))
  have HB5 := Lib.hid (HB3.out.trans (hb5.mono HB3.out.size))
  have HG5 := Lib.hid (hG3.below hb5 hlt1)
  have HH5 := Lib.hid (hH3.below hb5 hlt2)
  clear hb3 hG3 hH3 HRd HB2 HG2 HH2 h0 h1 h2 hb5 hP5 HG3 HH3
  go_wp2_with fail
  refine HC.out.mono ?_
  cases hx : altG (3 * L.length + 3) [] [] L with
  | error x =>
   obtain ⟨k, q⟩ := x
   rw [hx] at HV
   rintro e w6 ⟨rfl, hb6⟩
   have HV := Lib.hid (show lexemesS L = .error (k, q) from HV.out)
   have HB6 := Lib.hid (HB5.out.trans (hb6.mono (by omega)))
   have hG6 := HG5.out.below hb6 (by omega)
   have hH6 := HH5.out.below hb6 (by omega)
   dsimp only
   refine leaves_cons (f := 145) (args := #[.pointer (some ⟨w.heap.size, 0, none⟩), .pointer (some ⟨w.heap.size + 1, 0, none⟩)]) (by simp) (by simp [go_sem]) ?_
   refine (catch_bad w.heap.size (w.heap.size + 1) k q [] w6 hG6 hH6 (by omega)).mono ?_
   rintro e u' w7 ⟨rfl, rfl, hG7, hH7, hb7⟩
   dsimp only
   change Leaves Tryz.prog _ _ _ [] FrameMode.returning w7
   rw [HV.out]
   exact ⟨_, ret_tree Tryz.results104 rfl rfl hG7 hH7, rfl, HB6.out.trans (hb7 w.heap.size (Nat.le_refl _) (by omega))⟩
  | ok x =>
   obtain ⟨x, R⟩ := x
   rw [hx] at HV
   rintro e w6 ⟨v6, B, cap6, rfl, hP6, hS6, hc6, ht6⟩
   have HV := Lib.hid (show lexemesS L = .ok x from HV.out)
   have HB6 := Lib.hid (HB5.out.trans (hS6.1.mono (by omega)))
   have hG6 := HG5.out.below hS6.1 (by omega)
   have hH6 := HH5.out.below hS6.1 (by omega)
   have HT6 := Lib.hid (ht6.weak (Q := fun b => w3.heap.size + 2 ≤ b) (fun b hb _ => by have := hb.1; simp at this; omega))
   have y0 : w6.cell? ⟨w.heap.size, 0, none⟩ = some (.int .i64 0) := hG6.cell 0
   have y1 : w6.cell? ⟨w.heap.size, 1, none⟩ = some (.int .u64 0) := hG6.cell 1
   have y2 : w6.cell? ⟨w.heap.size, 2, none⟩ = some (.int .u64 0) := hG6.cell 2
   have y3 : w6.cell? ⟨w.heap.size, 3, none⟩ = some (.int .u64 0) := hG6.cell 3
   have y4 : w6.cell? ⟨w.heap.size, 4, none⟩ = some (.int .u64 0) := hG6.cell 4
   have y5 : w6.cell? ⟨w.heap.size, 5, none⟩ = some (.slice none 0 0) := hG6.cell 5
   have y6 : w6.cell? ⟨w.heap.size, 6, none⟩ = some (.int .i64 0) := hG6.cell 6
   have y7 : w6.cell? ⟨w.heap.size, 7, none⟩ = some (.int .i64 0) := hG6.cell 7
   have z0 := hG6.frozen 0
   have z1 := hG6.frozen 1
   have z2 := hG6.frozen 2
   have z3 := hG6.frozen 3
   have z4 := hG6.frozen 4
   have z5 := hG6.frozen 5
   have z6 := hG6.frozen 6
   have z7 := hG6.frozen 7
   obtain ⟨b0, b1, f0, f1⟩ := hH6.c2
   have HG6 := Lib.hid hG6
   have HH6 := Lib.hid hH6
   have hsz : w.heap.size + 1 ≤ w3.heap.size + 2 := by omega
   clear hP6 hS6 ht6 hG6 hH6 HC hx
   unfold ndV
   dsimp only
   go_wp2
   go_light
   have hg1 := only_put8 w6 w.heap.size (.int .i64 x.kind) (.int .u64 (word x.set.testBit 0)) (.int .u64 (word x.set.testBit 1)) (.int .u64 (word x.set.testBit 2)) (.int .u64 (word x.set.testBit 3)) (.slice B x.kids.len cap6) (.int .i64 x.lo) (.int .i64 x.hi)
   have ht7 := TreesAt.keep (Q := fun b => w3.heap.size + 2 ≤ b) (fun b o (hb : w3.heap.size + 2 ≤ b) hl => World.cell?_of_block (hg1.block b hl (by simp; omega))) (fun b hb _ => hb) HT6.out
   refine leaves_cons (f := 145) (args := #[.pointer (some ⟨w.heap.size, 0, none⟩), .pointer (some ⟨w.heap.size + 1, 0, none⟩)]) (by simp) (by simp [go_sem]) ?_
   refine (catch_idle w.heap.size (w.heap.size + 1) _).mono ?_
   rintro e u' w7 ⟨rfl, rfl, hw7⟩
   dsimp only
   change Leaves Tryz.prog _ _ _ [] FrameMode.returning w7
   rw [HV.out]
   have hg2 := only_set (only_set (only_refl ((((((((w6.setCell ⟨w.heap.size, 0, none⟩ (.int .i64 x.kind)).setCell ⟨w.heap.size, 1, none⟩ (.int .u64 (word x.set.testBit 0))).setCell ⟨w.heap.size, 2, none⟩ (.int .u64 (word x.set.testBit 1))).setCell ⟨w.heap.size, 3, none⟩ (.int .u64 (word x.set.testBit 2))).setCell ⟨w.heap.size, 4, none⟩ (.int .u64 (word x.set.testBit 3))).setCell ⟨w.heap.size, 5, none⟩ (.slice B x.kids.len cap6)).setCell ⟨w.heap.size, 6, none⟩ (.int .i64 x.lo)).setCell ⟨w.heap.size, 7, none⟩ (.int .i64 x.hi)) (some (w.heap.size + 1))) 0 (.int .i64 0)) 1 (.int .i64 0)
   have ht8 := TreesAt.keep (Q := fun b => w.heap.size ≤ b) (fun b o (hb : w3.heap.size + 2 ≤ b) hl => World.cell?_of_block (hg2.block b hl (by simp; omega))) (fun b (hb : w3.heap.size + 2 ≤ b) _ => by omega) ht7
   have hG7 := (HG6.out.put8 (.int .i64 x.kind) (.int .u64 (word x.set.testBit 0)) (.int .u64 (word x.set.testBit 1)) (.int .u64 (word x.set.testBit 2)) (.int .u64 (word x.set.testBit 3)) (.slice B x.kids.len cap6) (.int .i64 x.lo) (.int .i64 x.hi)).far2 (g' := w.heap.size + 1) (by omega) (.int .i64 0) (.int .i64 0)
   have hH7 := (HH6.out.past8 (g' := w.heap.size) (by omega) (.int .i64 x.kind) (.int .u64 (word x.set.testBit 0)) (.int .u64 (word x.set.testBit 1)) (.int .u64 (word x.set.testBit 2)) (.int .u64 (word x.set.testBit 3)) (.slice B x.kids.len cap6) (.int .i64 x.lo) (.int .i64 x.hi)).set2 (a' := .int .i64 0) (b' := .int .i64 0)
   have hb7 := below_set2 (below_put8 HB6.out (Nat.le_refl _) (.int .i64 x.kind) (.int .u64 (word x.set.testBit 0)) (.int .u64 (word x.set.testBit 1)) (.int .u64 (word x.set.testBit 2)) (.int .u64 (word x.set.testBit 3)) (.slice B x.kids.len cap6) (.int .i64 x.lo) (.int .i64 x.hi)) (Nat.le_succ w.heap.size) (.int .i64 0) (.int .i64 0)
   rw [← hw7] at ht8 hG7 hH7 hb7
   exact ⟨_, ret_tree Tryz.results104 rfl rfl hG7 hH7, B, cap6, rfl, hb7, hc6, ht8⟩
 ·have hd : ((readyS L).1 != 0) = true := by simpa using h0
  have HV := Lib.hid (lexemesS_bad h0)
  have y0 : w3.cell? ⟨w.heap.size, 0, none⟩ = some (.int .i64 0) := hG3.cell 0
  have y1 : w3.cell? ⟨w.heap.size, 1, none⟩ = some (.int .u64 0) := hG3.cell 1
  have y2 : w3.cell? ⟨w.heap.size, 2, none⟩ = some (.int .u64 0) := hG3.cell 2
  have y3 : w3.cell? ⟨w.heap.size, 3, none⟩ = some (.int .u64 0) := hG3.cell 3
  have y4 : w3.cell? ⟨w.heap.size, 4, none⟩ = some (.int .u64 0) := hG3.cell 4
  have y5 : w3.cell? ⟨w.heap.size, 5, none⟩ = some (.slice none 0 0) := hG3.cell 5
  have y6 : w3.cell? ⟨w.heap.size, 6, none⟩ = some (.int .i64 0) := hG3.cell 6
  have y7 : w3.cell? ⟨w.heap.size, 7, none⟩ = some (.int .i64 0) := hG3.cell 7
  have z0 := hG3.frozen 0
  have z1 := hG3.frozen 1
  have z2 := hG3.frozen 2
  have z3 := hG3.frozen 3
  have z4 := hG3.frozen 4
  have z5 := hG3.frozen 5
  have z6 := hG3.frozen 6
  have z7 := hG3.frozen 7
  obtain ⟨b0, b1, f0, f1⟩ := hH3.c2
  clear hb3 hG3 hH3 HRd HB2 HG2 HH2 h0
  generalize readyS L = kq at *
  obtain ⟨k, q⟩ := kq
  dsimp only at hd ⊢
  go_wp2
  go_region
  all_goals go_wp2
  all_goals go_light
  rw [HV.out]
  exact ⟨_, ret_tree Tryz.results104 rfl rfl (((HG3.out.put8 _ _ _ _ _ _ _ _).far2 (by omega) _ _).alloc _).drew (((HH3.out.past8 (by omega) _ _ _ _ _ _ _ _).set2).alloc _).drew, rfl, ((below_set2 (below_put8 HB3.out (Nat.le_refl _) _ _ _ _ _ _ _ _) (by omega) _ _).alloc (by have := HB3.out.size; simpa [World.setCell] using this) _).drew⟩
end Go.Proofs.YtfekpkelmliejaaGreatDoor
