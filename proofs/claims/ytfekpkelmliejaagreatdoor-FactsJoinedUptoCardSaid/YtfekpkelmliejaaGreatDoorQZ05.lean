/-
  The reference of chapter 10: Hollow. The reference of chapter 10: Shortest. The contract of parse.Lexemes. The contracts of the closures of the splitter's rep. Rows turned round in place: bytes. Rows of nodes turned round in place. A row of nodes cloned and turned round: mirror.turned at nodes. The contract of mirror.Tree. Words turned round: mirror.Word and the reference's Word. The contract of the reference's Same at two trees that are the same. Rows of lexemes appended to a row of one's own; the reference's lex and kid of chapter 08. The contracts of the layer's state and link, and of an edge laid. The contracts of the layer's plain, cat, loop and opt, their kids' being known.
-/
import Derived.Shelf.RegionOpenPlain
import Derived.BigRegion
import Derived.StillTailTactics
import Derived.Deep.Onto
import Derived.Test.YtfekpkelmliejaaGreatDoorQZ04
import Derived.Test.YtfekpkelmliejaaGreatDoorQZ03
import Derived.Test.YtfekpkelmliejaaGreatDoorQZ02
import Derived.Test.YtfekpkelmliejaaGreatDoorQEscCl
import Derived.Test.YtfekpkelmliejaaGreatDoorQZ01
namespace Go.Proofs.YtfekpkelmliejaaGreatDoor
open Go.RowKit
set_option linter.unusedSimpArgs false
set_option linter.unusedVariables false
set_option maxRecDepth 100000

end Go.Proofs.YtfekpkelmliejaaGreatDoor
namespace Go.Proofs.YtfekpkelmliejaaGreatDoor
open Go.RowKit
set_option linter.unusedSimpArgs false
set_option linter.unusedVariables false
set_option maxRecDepth 100000

end Go.Proofs.YtfekpkelmliejaaGreatDoor
namespace Go.Proofs.YtfekpkelmliejaaGreatDoor
open Go.RowKit
set_option linter.unusedSimpArgs false
set_option linter.unusedVariables false
set_option maxRecDepth 100000

theorem ret_tree {fn : Func} {t2 t3 : Tmp} (h : fn.results = #[.cell t2 28, .cell t3 75]) {tmps : Array Value} {w : World} {g g' : Nat} {a0 a1 a2 a3 a4 a5 a6 a7 x y : Value}
    (hp : tmps.getD t2 undef = .pointer (some ⟨g, 0, none⟩)) (hp' : tmps.getD t3 undef = .pointer (some ⟨g', 0, none⟩)) (hb : Blk w g 28 #[a0, a1, a2, a3, a4, a5, a6, a7]) (hb' : Blk w g' 75 #[x, y]) :
    (results fn tmps).run Tryz.prog w = .ok (.tuple #[.agg #[a0, a1, a2, a3, a4, a5, a6, a7], .agg #[x, y]]) w := by
  have h1 := run_loadVar_row (P := Tryz.prog) w g 28 28 #[a0, a1, a2, a3, a4, a5, a6, a7] (0, 0) _ hb Tryz.underlying28 rfl (by kernel_rfl)
  have h2 := run_loadVar_row (P := Tryz.prog) w g' 75 75 #[x, y] (0, 0) _ hb' Tryz.underlying75 rfl (by kernel_rfl)
  simp only [results, h]
  simp only [Array.getD_eq_getD_getElem?] at hp hp'
  simp [Sem.run_bind, hp, hp', asAddr, h1, h2, Result.andThen]
/-- A tree, or what is wrong. -/
def TreeOut (r : Except Wrong Nd) (w : World) (e : Ending) (w' : World) : Prop :=
  match r with
  | .ok x => ∃ B cap, e = .returned (.tuple #[ndV x B cap, .agg #[.int .i64 0, .int .i64 0]]) ∧ Below w.heap.size w w' ∧ x.kids.len ≤ cap ∧ TreesAt w' (fun b => w.heap.size ≤ b) x.kids B
  | .error (k, q) => e = .returned (.tuple #[zeroN, .agg #[.int .i64 k, .int .i64 q]]) ∧ Below w.heap.size w w'
theorem lexemesS_bad {L : List Lex} (h : (readyS L).1 ≠ 0) : lexemesS L = .error (readyS L) := by
  unfold readyS at h ⊢
  unfold lexemesS
  by_cases h1 : L.all rightS = false
  · rw [if_pos h1, if_pos h1]
  · rw [if_neg h1, if_neg h1]
    by_cases h2 : 1024 < L.length
    · rw [dif_pos h2, dif_pos h2]
    · rw [if_neg h1, dif_neg h2] at h
      exact absurd rfl h
theorem readyS_zero {L : List Lex} (h : (readyS L).1 = 0) : readyS L = (0, 0) ∧ L.all rightS = true ∧ L.length ≤ 1024 := by
  unfold readyS at h ⊢
  by_cases h1 : L.all rightS = false
  · rw [if_pos h1] at h; cases h
  · by_cases h2 : 1024 < L.length
    · rw [if_neg h1, dif_pos h2] at h; cases h
    · rw [if_neg h1, dif_neg h2]
      exact ⟨rfl, by simpa using h1, by omega⟩
theorem lexemesS_ok {L : List Lex} (h : L.all rightS = true) (hl : L.length ≤ 1024) : lexemesS L = match altG (3 * L.length + 3) [] [] L with
    | .error e => .error e
    | .ok (x, _) => .ok x := by
  unfold lexemesS
  rw [if_neg (by rw [h]; decide), dif_neg (by omega)]
  rfl

set_option maxHeartbeats 4000000 in
theorem lexemes_go (A : Option Addr) (cap : Nat) (L : List Lex) (w : World) (hA : LexsAt w w.heap.size A L) (hlen : L.length ≤ 140737488355328) (hcap : L.length ≤ cap) :
    Calls Tryz.prog 104 #[.slice A L.length cap] w (TreeOut (lexemesS L) w) := by
  have hmf : ∀ (fn : Fn) (first cap : Array Value) (w : World), (Instr.makeFunc fn first cap).run Tryz.prog w = .ok (.func fn first cap) w := fun _ _ _ _ => rfl
  have hb2 : Below w.heap.size w ((w.alloc (.cells #[.int .i64 0, .int .u64 0, .int .u64 0, .int .u64 0, .int .u64 0, .slice none 0 0, .int .i64 0, .int .i64 0] 28)).alloc (.cells #[.int .i64 0, .int .i64 0] 75)) := ((Below.refl _ _).alloc (Nat.le_refl _) _).alloc (by simp) _
  have HB2 := Lib.hid hb2
  have HG2 := Lib.hid (show Blk ((w.alloc (.cells #[.int .i64 0, .int .u64 0, .int .u64 0, .int .u64 0, .int .u64 0, .slice none 0 0, .int .i64 0, .int .i64 0] 28)).alloc (.cells #[.int .i64 0, .int .i64 0] 75)) w.heap.size 28 _ from (Blk.new w 28 #[.int .i64 0, .int .u64 0, .int .u64 0, .int .u64 0, .int .u64 0, .slice none 0 0, .int .i64 0, .int .i64 0]).alloc _)
  have HH2 := Lib.hid (show Blk ((w.alloc (.cells #[.int .i64 0, .int .u64 0, .int .u64 0, .int .u64 0, .int .u64 0, .slice none 0 0, .int .i64 0, .int .i64 0] 28)).alloc (.cells #[.int .i64 0, .int .i64 0] 75)) (w.heap.size + 1) 75 #[.int .i64 0, .int .i64 0] from Blk.new_at (by simp))
  have HA := Lib.hid hA
  have hz2 : ((w.alloc (.cells #[.int .i64 0, .int .u64 0, .int .u64 0, .int .u64 0, .int .u64 0, .slice none 0 0, .int .i64 0, .int .i64 0] 28)).alloc (.cells #[.int .i64 0, .int .i64 0] 75)).heap.size = w.heap.size + 2 := by simp
  have HRd := Lib.hid (ready_go A cap L _ ((hA.below hb2).more (by omega)) hlen)
  clear hb2 hA hz2
  go_enter_defers Tryz.func104, Tryz.ntmps104
  go_wp2_with fail
  refine HRd.out.mono ?_
  rintro e w3 ⟨rfl, hb3⟩
  have HB3 := Lib.hid (HB2.out.trans (hb3.mono HB2.out.size))
  have hG3 := HG2.out.below hb3 HG2.out.lt
  have hH3 := HH2.out.below hb3 HH2.out.lt
  have HG3 := Lib.hid hG3
  have HH3 := Lib.hid hH3
  have hne1 : w.heap.size ≠ w3.heap.size := by have := hG3.lt; omega
  have hne2 : w.heap.size + 1 ≠ w3.heap.size := by have := hH3.lt; omega
  have hlt1 : w.heap.size < w3.heap.size := hG3.lt
  have hlt2 : w.heap.size + 1 < w3.heap.size := hH3.lt
  by_cases h0 : (readyS L).1 = 0
  · obtain ⟨h1, h2, h3⟩ := readyS_zero h0
    have HV := Lib.hid (lexemesS_ok h2 h3)
    rw [h1]
    have hb5 : Below w3.heap.size w3 ((w3.alloc (.cells #[.int .i64 0, .int .i64 0] 75)).alloc (.cells #[.slice A L.length cap, .slice none 0 0] 184)) := ((Below.refl _ _).alloc (Nat.le_refl _) _).alloc (by simp) _
    have hP5 : PAt ((w3.alloc (.cells #[.int .i64 0, .int .i64 0] 75)).alloc (.cells #[.slice A L.length cap, .slice none 0 0] 184)) (w3.heap.size + 1) (.slice none 0 0) L 0 :=
      ⟨A, cap, [], Blk.new_at (by simp), hcap, (HA.out.below (HB3.out.trans (hb5.mono HB3.out.size))).more (by omega), World.ownsRow_nil _ _ _ _⟩
    have HC := Lib.hid ((reads_go (3 * L.length + 3)).1 (w3.heap.size + 1) [] L _ (.slice none 0 0) hP5 (by omega) (by decide) (by omega))
    have HB5 := Lib.hid (HB3.out.trans (hb5.mono HB3.out.size))
    have HG5 := Lib.hid (hG3.below hb5 hlt1)
    have HH5 := Lib.hid (hH3.below hb5 hlt2)
    clear hb3 hG3 hH3 HRd HB2 HG2 HH2 h0 h1 h2 hb5 hP5 HG3 HH3
    go_wp2_with fail
    refine HC.out.mono ?_
    cases hx : altG (3 * L.length + 3) [] [] L with
    | error x =>
      obtain ⟨k, q⟩ := x
      rw [hx] at HV
      rintro e w6 ⟨rfl, hb6⟩
      have HV := Lib.hid (show lexemesS L = .error (k, q) from HV.out)
      have HB6 := Lib.hid (HB5.out.trans (hb6.mono (by omega)))
      have hG6 := HG5.out.below hb6 (by omega)
      have hH6 := HH5.out.below hb6 (by omega)
      dsimp only
      refine leaves_cons (f := 145) (args := #[.pointer (some ⟨w.heap.size, 0, none⟩), .pointer (some ⟨w.heap.size + 1, 0, none⟩)]) (by simp) (by simp [go_sem]) ?_
      refine (catch_bad w.heap.size (w.heap.size + 1) k q [] w6 hG6 hH6 (by omega)).mono ?_
      rintro e u' w7 ⟨rfl, rfl, hG7, hH7, hb7⟩
      dsimp only
      change Leaves Tryz.prog _ _ _ [] FrameMode.returning w7
      rw [HV.out]
      exact ⟨_, ret_tree Tryz.results104 rfl rfl hG7 hH7, rfl, HB6.out.trans (hb7 w.heap.size (Nat.le_refl _) (by omega))⟩
    | ok x =>
      obtain ⟨x, R⟩ := x
      rw [hx] at HV
      rintro e w6 ⟨v6, B, cap6, rfl, hP6, hS6, hc6, ht6⟩
      have HV := Lib.hid (show lexemesS L = .ok x from HV.out)
      have HB6 := Lib.hid (HB5.out.trans (hS6.1.mono (by omega)))
      have hG6 := HG5.out.below hS6.1 (by omega)
      have hH6 := HH5.out.below hS6.1 (by omega)
      have HT6 := Lib.hid (ht6.weak (Q := fun b => w3.heap.size + 2 ≤ b) (fun b hb _ => by have := hb.1; simp at this; omega))
      have y0 : w6.cell? ⟨w.heap.size, 0, none⟩ = some (.int .i64 0) := hG6.cell 0
      have y1 : w6.cell? ⟨w.heap.size, 1, none⟩ = some (.int .u64 0) := hG6.cell 1
      have y2 : w6.cell? ⟨w.heap.size, 2, none⟩ = some (.int .u64 0) := hG6.cell 2
      have y3 : w6.cell? ⟨w.heap.size, 3, none⟩ = some (.int .u64 0) := hG6.cell 3
      have y4 : w6.cell? ⟨w.heap.size, 4, none⟩ = some (.int .u64 0) := hG6.cell 4
      have y5 : w6.cell? ⟨w.heap.size, 5, none⟩ = some (.slice none 0 0) := hG6.cell 5
      have y6 : w6.cell? ⟨w.heap.size, 6, none⟩ = some (.int .i64 0) := hG6.cell 6
      have y7 : w6.cell? ⟨w.heap.size, 7, none⟩ = some (.int .i64 0) := hG6.cell 7
      have z0 := hG6.frozen 0
      have z1 := hG6.frozen 1
      have z2 := hG6.frozen 2
      have z3 := hG6.frozen 3
      have z4 := hG6.frozen 4
      have z5 := hG6.frozen 5
      have z6 := hG6.frozen 6
      have z7 := hG6.frozen 7
      obtain ⟨b0, b1, f0, f1⟩ := hH6.c2
      have HG6 := Lib.hid hG6
      have HH6 := Lib.hid hH6
      have hsz : w.heap.size + 1 ≤ w3.heap.size + 2 := by omega
      clear hP6 hS6 ht6 hG6 hH6 HC hx
      unfold ndV
      dsimp only
      go_wp2
      go_light
      have hg1 := only_put8 w6 w.heap.size (.int .i64 x.kind) (.int .u64 ((word x.set.testBit 0 : Nat) : Int)) (.int .u64 ((word x.set.testBit 1 : Nat) : Int)) (.int .u64 ((word x.set.testBit 2 : Nat) : Int)) (.int .u64 ((word x.set.testBit 3 : Nat) : Int)) (.slice B x.kids.len cap6) (.int .i64 x.lo) (.int .i64 x.hi)
      have ht7 := TreesAt.keep (Q := fun b => w3.heap.size + 2 ≤ b) (fun b o (hb : w3.heap.size + 2 ≤ b) hl => World.cell?_of_block (hg1.block b hl (by simp; omega))) (fun b hb _ => hb) HT6.out
      refine leaves_cons (f := 145) (args := #[.pointer (some ⟨w.heap.size, 0, none⟩), .pointer (some ⟨w.heap.size + 1, 0, none⟩)]) (by simp) (by simp [go_sem]) ?_
      refine (catch_idle w.heap.size (w.heap.size + 1) _).mono ?_
      rintro e u' w7 ⟨rfl, rfl, hw7⟩
      dsimp only
      change Leaves Tryz.prog _ _ _ [] FrameMode.returning w7
      rw [HV.out]
      have hg2 := only_set (only_set (only_refl ((((((((w6.setCell ⟨w.heap.size, 0, none⟩ (.int .i64 x.kind)).setCell ⟨w.heap.size, 1, none⟩ (.int .u64 ((word x.set.testBit 0 : Nat) : Int))).setCell ⟨w.heap.size, 2, none⟩ (.int .u64 ((word x.set.testBit 1 : Nat) : Int))).setCell ⟨w.heap.size, 3, none⟩ (.int .u64 ((word x.set.testBit 2 : Nat) : Int))).setCell ⟨w.heap.size, 4, none⟩ (.int .u64 ((word x.set.testBit 3 : Nat) : Int))).setCell ⟨w.heap.size, 5, none⟩ (.slice B x.kids.len cap6)).setCell ⟨w.heap.size, 6, none⟩ (.int .i64 x.lo)).setCell ⟨w.heap.size, 7, none⟩ (.int .i64 x.hi)) (some (w.heap.size + 1))) 0 (.int .i64 0)) 1 (.int .i64 0)
      have ht8 := TreesAt.keep (Q := fun b => w.heap.size ≤ b) (fun b o (hb : w3.heap.size + 2 ≤ b) hl => World.cell?_of_block (hg2.block b hl (by simp; omega))) (fun b (hb : w3.heap.size + 2 ≤ b) _ => by omega) ht7
      have hG7 := (HG6.out.put8 (.int .i64 x.kind) (.int .u64 ((word x.set.testBit 0 : Nat) : Int)) (.int .u64 ((word x.set.testBit 1 : Nat) : Int)) (.int .u64 ((word x.set.testBit 2 : Nat) : Int)) (.int .u64 ((word x.set.testBit 3 : Nat) : Int)) (.slice B x.kids.len cap6) (.int .i64 x.lo) (.int .i64 x.hi)).far2 (g' := w.heap.size + 1) (by omega) (.int .i64 0) (.int .i64 0)
      have hH7 := (HH6.out.past8 (g' := w.heap.size) (by omega) (.int .i64 x.kind) (.int .u64 ((word x.set.testBit 0 : Nat) : Int)) (.int .u64 ((word x.set.testBit 1 : Nat) : Int)) (.int .u64 ((word x.set.testBit 2 : Nat) : Int)) (.int .u64 ((word x.set.testBit 3 : Nat) : Int)) (.slice B x.kids.len cap6) (.int .i64 x.lo) (.int .i64 x.hi)).set2 (a' := .int .i64 0) (b' := .int .i64 0)
      have hb7 := below_set2 (below_put8 HB6.out (Nat.le_refl _) (.int .i64 x.kind) (.int .u64 ((word x.set.testBit 0 : Nat) : Int)) (.int .u64 ((word x.set.testBit 1 : Nat) : Int)) (.int .u64 ((word x.set.testBit 2 : Nat) : Int)) (.int .u64 ((word x.set.testBit 3 : Nat) : Int)) (.slice B x.kids.len cap6) (.int .i64 x.lo) (.int .i64 x.hi)) (Nat.le_succ w.heap.size) (.int .i64 0) (.int .i64 0)
      rw [← hw7] at ht8 hG7 hH7 hb7
      exact ⟨_, ret_tree Tryz.results104 rfl rfl hG7 hH7, B, cap6, rfl, hb7, hc6, ht8⟩
  · have hd : ((readyS L).1 != 0) = true := by simpa using h0
    have HV := Lib.hid (lexemesS_bad h0)
    have y0 : w3.cell? ⟨w.heap.size, 0, none⟩ = some (.int .i64 0) := hG3.cell 0
    have y1 : w3.cell? ⟨w.heap.size, 1, none⟩ = some (.int .u64 0) := hG3.cell 1
    have y2 : w3.cell? ⟨w.heap.size, 2, none⟩ = some (.int .u64 0) := hG3.cell 2
    have y3 : w3.cell? ⟨w.heap.size, 3, none⟩ = some (.int .u64 0) := hG3.cell 3
    have y4 : w3.cell? ⟨w.heap.size, 4, none⟩ = some (.int .u64 0) := hG3.cell 4
    have y5 : w3.cell? ⟨w.heap.size, 5, none⟩ = some (.slice none 0 0) := hG3.cell 5
    have y6 : w3.cell? ⟨w.heap.size, 6, none⟩ = some (.int .i64 0) := hG3.cell 6
    have y7 : w3.cell? ⟨w.heap.size, 7, none⟩ = some (.int .i64 0) := hG3.cell 7
    have z0 := hG3.frozen 0
    have z1 := hG3.frozen 1
    have z2 := hG3.frozen 2
    have z3 := hG3.frozen 3
    have z4 := hG3.frozen 4
    have z5 := hG3.frozen 5
    have z6 := hG3.frozen 6
    have z7 := hG3.frozen 7
    obtain ⟨b0, b1, f0, f1⟩ := hH3.c2
    clear hb3 hG3 hH3 HRd HB2 HG2 HH2 h0
    generalize readyS L = kq at *
    obtain ⟨k, q⟩ := kq
    dsimp only at hd ⊢
    go_wp2
    go_region
    all_goals go_wp2
    all_goals go_light
    rw [HV.out]
    exact ⟨_, ret_tree Tryz.results104 rfl rfl (((HG3.out.put8 _ _ _ _ _ _ _ _).far2 (by omega) _ _).alloc _).drew (((HH3.out.past8 (by omega) _ _ _ _ _ _ _ _).set2).alloc _).drew, rfl, ((below_set2 (below_put8 HB3.out (Nat.le_refl _) _ _ _ _ _ _ _ _) (by omega) _ _).alloc (by have := HB3.out.size; simpa [World.setCell] using this) _).drew⟩

end Go.Proofs.YtfekpkelmliejaaGreatDoor
namespace Go.Proofs.YtfekpkelmliejaaGreatDoor
open Go.RowKit
set_option linter.unusedSimpArgs false
set_option linter.unusedVariables false
set_option maxRecDepth 100000

/-- What rep has about it: the box of the splitter, the box of the place. -/
structure Ctx (N S T I b o cap : Nat) (bs : List Nat) (i : Nat) (v : Value) (L : List Lex) (W0 : World) (j : Nat) (W : World) : Prop where
  hT : W.cell? ⟨T, 0, none⟩ = some (.pointer (some ⟨S, 0, none⟩))
  hI : Blk W I 3 #[.int .i64 (j : Int)]
  hS : Spl W S b o bs.length cap i v 0 0
  hrow : W.ownsRow N 139 8 v L.length (lexCells L)
  hA : BytesAt W N (some ⟨b, o, none⟩) bs
  hB : Below N W0 W
  hNS : N ≤ S
  hNI : N ≤ I
  hTI : T ≠ I
  hSI : S ≠ I
  hcap : bs.length ≤ cap

section
variable {N S T I b o cap : Nat} {bs : List Nat} {i : Nat} {v : Value} {L : List Lex} {W0 : World} {j : Nat} {W W' : World}
theorem Ctx.drewN (h : Ctx N S T I b o cap bs i v L W0 j W) (n : Nat) : Ctx N S T I b o cap bs i v L W0 j (W.drewN n) :=
  ⟨h.hT, h.hI, h.hS, h.hrow, h.hA, bel_drewN h.hB n, h.hNS, h.hNI, h.hTI, h.hSI, h.hcap⟩
theorem Ctx.below (h : Ctx N S T I b o cap bs i v L W0 j W) (hb : Below W.heap.size W W') : Ctx N S T I b o cap bs i v L W0 j W' :=
  ⟨(hb.cell (p := ⟨T, 0, none⟩) (World.block_lt_of_cell? W _ h.hT)).trans h.hT, h.hI.below hb h.hI.lt, Blk.below h.hS hb (Blk.lt h.hS), own_below h.hrow hb, h.hA.below (hb.mono (Nat.le_of_lt (Nat.lt_of_le_of_lt h.hNS (Blk.lt h.hS)))),
    h.hB.trans (hb.mono (Nat.le_of_lt (Nat.lt_of_le_of_lt h.hNS (Blk.lt h.hS)))), h.hNS, h.hNI, h.hTI, h.hSI, h.hcap⟩
theorem Ctx.set_ (h : Ctx N S T I b o cap bs i v L W0 j W) (m : Nat) : Ctx N S T I b o cap bs i v L W0 m (W.setCell ⟨I, 0, none⟩ (.int .i64 (m : Int))) :=
  ⟨(World.cell?_setCell_other W _ _ _ (fun e => h.hTI (by simpa using (congrArg Addr.block e).symm))).trans h.hT, h.hI.set_ 0 _, Blk.far h.hS (p := ⟨I, 0, none⟩) h.hSI _, own_set h.hrow (blk_not_row h.hI (by decide) h.hrow),
    h.hA.below ((Below.refl N W).setCell (p := ⟨I, 0, none⟩) h.hNI _), h.hB.setCell (p := ⟨I, 0, none⟩) h.hNI _, h.hNS, h.hNI, h.hTI, h.hSI, h.hcap⟩
theorem Ctx.facts (h : Ctx N S T I b o cap bs i v L W0 j W) : W.cell? ⟨T, 0, none⟩ = some (.pointer (some ⟨S, 0, none⟩)) ∧ W.cell? ⟨I, 0, none⟩ = some (.int .i64 (j : Int)) ∧ W.cell? ⟨S, 0, none⟩ = some (.slice (some ⟨b, o, none⟩) bs.length cap) ∧ W.frozen? ⟨I, 0, none⟩ = false ∧
    T < W.heap.size ∧ I < W.heap.size ∧ S < W.heap.size ∧ N ≤ W.heap.size :=
  ⟨h.hT, h.hI.cell 0, (Spl.cells h.hS).1, h.hI.frozen 0, World.block_lt_of_cell? W _ h.hT, h.hI.lt, Blk.lt h.hS, Nat.le_of_lt (Nat.lt_of_le_of_lt h.hNS (Blk.lt h.hS))⟩
end

/-- A call that gives v, and keeps what rep has about it, the place at j. -/
def Kept (N S T I b o cap : Nat) (bs : List Nat) (i : Nat) (u : Value) (L : List Lex) (W0 : World) (j : Nat) (v : Value) (e : Ending) (W' : World) : Prop := e = .returned v ∧ Ctx N S T I b o cap bs i u L W0 j W'

set_option maxHeartbeats 2000000 in
theorem here_yes {N S T I b o cap : Nat} {bs : List Nat} {i : Nat} {v : Value} {L : List Lex} {W0 : World} {j : Nat} {W : World} (h : Ctx N S T I b o cap bs i v L W0 j W) (c : Nat) (hj : j < bs.length) :
    Calls Tryz.prog 230 #[.int .u8 (c : Int), .pointer (some ⟨I, 0, none⟩), .pointer (some ⟨T, 0, none⟩)] W (Kept N S T I b o cap bs i v L W0 j (.bool (hasAt bs j c))) := by
  obtain ⟨c0, c1, c2, f1, l0, l1, l2, _⟩ := h.facts
  have hcell := bytesAt_cells h.hA j hj
  have hl := h.hA.2.1
  have HK := Lib.hid h
  have Hh := Lib.hid (hasAt_in c hj)
  clear h
  generalize byteAt bs j = d at *
  have hd : decide (j < bs.length) = true := by simp; omega
  have hd2 : (j : Int) < (bs.length : Int) := by omega
  go_enter Tryz.func230, Tryz.ntmps230
  go_wp2
  go_quiet (fail)
  go_wp2
  go_light
  go_ret
  refine ⟨ret_b ?_, HK.out.drewN _⟩
  rw [Hh.out]
  rw [Bool.eq_iff_iff]
  simp
  omega
set_option maxHeartbeats 2000000 in
theorem here_end {N S T I b o cap : Nat} {bs : List Nat} {i : Nat} {v : Value} {L : List Lex} {W0 : World} {j : Nat} {W : World} (h : Ctx N S T I b o cap bs i v L W0 j W) (c : Nat) (hj : bs.length ≤ j) :
    Calls Tryz.prog 230 #[.int .u8 (c : Int), .pointer (some ⟨I, 0, none⟩), .pointer (some ⟨T, 0, none⟩)] W (Kept N S T I b o cap bs i v L W0 j (.bool (hasAt bs j c))) := by
  obtain ⟨c0, c1, c2, f1, l0, l1, l2, _⟩ := h.facts
  have hl := h.hA.2.1
  have HK := Lib.hid h
  have Hh := Lib.hid (hasAt_out (bs := bs) (i := (j : Int)) c (by omega))
  clear h
  have hd : decide (j < bs.length) = false := by simp; omega
  go_enter Tryz.func230, Tryz.ntmps230
  go_wp2
  go_quiet (fail)
  go_wp2
  go_light
  go_ret
  exact ⟨ret_b (by rw [Hh.out]), HK.out.drewN _⟩
theorem sphere_go {N S T I b o cap : Nat} {bs : List Nat} {i : Nat} {v : Value} {L : List Lex} {W0 : World} {j : Nat} {W : World} (h : Ctx N S T I b o cap bs i v L W0 j W) (c : Nat) :
    Calls Tryz.prog 230 #[.int .u8 (c : Int), .pointer (some ⟨I, 0, none⟩), .pointer (some ⟨T, 0, none⟩)] W (Kept N S T I b o cap bs i v L W0 j (.bool (hasAt bs j c))) := by
  rcases Nat.lt_or_ge j bs.length with hj | hj
  · exact here_yes h c hj
  · exact here_end h c hj

set_option maxHeartbeats 2000000 in
theorem num_yes {N S T I b o cap : Nat} {bs : List Nat} {i : Nat} {v : Value} {L : List Lex} {W0 : World} {j : Nat} {W : World} (h : Ctx N S T I b o cap bs i v L W0 j W) (hj : j ≤ bs.length) {n m : Nat} (ht : takeS bs j = some (n, m)) :
    Calls Tryz.prog 228 #[.pointer (some ⟨T, 0, none⟩), .pointer (some ⟨I, 0, none⟩)] W (Kept N S T I b o cap bs i v L W0 m (.tuple #[.int .i64 (n : Int), .bool true])) := by
  have Hv := Lib.hid (show takeVal bs j = .tuple #[.int .i64 (n : Int), .int .i64 (m : Int), .int .i64 0] by unfold takeVal; rw [ht])
  clear ht
  obtain ⟨c0, c1, c2, f1, l0, l1, l2, l3⟩ := h.facts
  have hl := h.hA.2.1
  have HK := Lib.hid h
  have HE := Lib.hid (fun w hA => take_at b o cap bs j w hA h.hcap hj)
  clear h
  go_enter Tryz.func228, Tryz.ntmps228
  go_wp2_with fail
  go_region_held3 (fun w' => (∀ b o, b < W.heap.size → w'.cell? ⟨b, o, none⟩ = W.cell? ⟨b, o, none⟩) ∧ Since W.heap.size W w') (first | (with_reducible exact HK2.out) | (with_reducible exact since_start (Nat.le_refl _)))
    (first | (go_at_call 229; refine (HE.out _ (bytes_since (by assumption) HK.out.hA l3)).mono ?_; rintro e w' ⟨rfl, hb'⟩; rw [Hv.out]; have hK := since_step (by assumption) hb'; have HK2 := Lib.hid hK; clear hK))
  have HC := Lib.hid (HK.out.below HK2.out.2.1)
  obtain ⟨k0, k1, k2, g1, _, _, _, _⟩ := HC.out.facts

  go_wp2
  go_light
  go_ret2
  exact ⟨rfl, HC.out.set_ m⟩
set_option maxHeartbeats 2000000 in
theorem num_no {N S T I b o cap : Nat} {bs : List Nat} {i : Nat} {v : Value} {L : List Lex} {W0 : World} {j : Nat} {W : World} (h : Ctx N S T I b o cap bs i v L W0 j W) (hj : j ≤ bs.length) (ht : takeS bs j = none) :
    Calls Tryz.prog 228 #[.pointer (some ⟨T, 0, none⟩), .pointer (some ⟨I, 0, none⟩)] W (Kept N S T I b o cap bs i v L W0 j (.tuple #[.int .i64 0, .bool false])) := by
  have Hv := Lib.hid (show takeVal bs j = .tuple #[.int .i64 0, .int .i64 0, .int .i64 (takeErr bs j)] by unfold takeVal; rw [ht])
  have hk := takeErr_pos bs j
  generalize takeErr bs j = k at *
  have hk0 : (k != 0) = true := by rw [bne_iff_ne]; omega
  clear ht hk
  obtain ⟨c0, c1, c2, f1, l0, l1, l2, l3⟩ := h.facts
  have hl := h.hA.2.1
  have HK := Lib.hid h
  have HE := Lib.hid (fun w hA => take_at b o cap bs j w hA h.hcap hj)
  clear h
  go_enter Tryz.func228, Tryz.ntmps228
  go_wp2_with fail
  go_region_held3 (fun w' => (∀ b o, b < W.heap.size → w'.cell? ⟨b, o, none⟩ = W.cell? ⟨b, o, none⟩) ∧ Since W.heap.size W w') (first | (with_reducible exact HK2.out) | (with_reducible exact since_start (Nat.le_refl _)))
    (first | (go_at_call 229; refine (HE.out _ (bytes_since (by assumption) HK.out.hA l3)).mono ?_; rintro e w' ⟨rfl, hb'⟩; rw [Hv.out]; have hK := since_step (by assumption) hb'; have HK2 := Lib.hid hK; clear hK))
  have HC := Lib.hid (HK.out.below HK2.out.2.1)
  obtain ⟨k0, k1, k2, g1, _, _, _, _⟩ := HC.out.facts

  go_wp2
  go_light
  go_ret2
  exact ⟨rfl, HC.out⟩

end Go.Proofs.YtfekpkelmliejaaGreatDoor
namespace Go.Proofs.YtfekpkelmliejaaGreatDoor
open Go.RowKit
set_option linter.unusedSimpArgs false
set_option linter.unusedVariables false
set_option maxRecDepth 100000

/-- What stands at a place when i rounds have turned a list from its two ends. -/
def revAt {α : Type} (l : List α) (i p : Nat) : Option α := if p < i ∨ l.length - i ≤ p then l[l.length - 1 - p]? else l[p]?
/-- A row of bytes in a block of its own, some rounds turned. -/
def RevB (w0 : World) (g : Nat) (bs : List Nat) (i : Nat) (w : World) : Prop :=
  ∃ cur : Array Value, Blk w g 5 cur ∧ bs.length ≤ cur.size ∧ (∀ p, p < bs.length → cur[p]? = (revAt bs i p).map fun n : Nat => Value.int .u8 (n : Int)) ∧ w0.grownBy w (some g)
theorem RevB.drew {w0 w : World} {g i : Nat} {bs : List Nat} (h : RevB w0 g bs i w) : RevB w0 g bs i w.drew := by
  obtain ⟨cur, h1, h2, h3, h4⟩ := h
  exact ⟨cur, h1.drew, h2, h3, ⟨h4.os, h4.tape, h4.output, h4.size, h4.block⟩⟩
end Go.Proofs.YtfekpkelmliejaaGreatDoor
namespace Go.Proofs.YtfekpkelmliejaaGreatDoor
open Go.RowKit
set_option linter.unusedSimpArgs false
set_option linter.unusedVariables false
set_option maxRecDepth 100000

/-- A row of nodes' cells in a block, some rounds turned. -/
def RevN (w0 : World) (g : Nat) (gs : List (Nd × Option Addr × Nat)) (i : Nat) (w : World) : Prop :=
  ∃ cur : Array Value, Blk w g 28 cur ∧ gs.length * 8 ≤ cur.size ∧ (∀ p a, p < gs.length → revAt gs i p = some a → ∀ j, j < 8 → cur[p * 8 + j]? = (ndCell a.1 a.2.1 a.2.2)[j]?) ∧ w0.grownBy w (some g)
theorem RevN.drew {w0 w : World} {g i : Nat} {gs : List (Nd × Option Addr × Nat)} (h : RevN w0 g gs i w) : RevN w0 g gs i w.drew := by
  obtain ⟨cur, h1, h2, h3, h4⟩ := h
  exact ⟨cur, h1.drew, h2, h3, ⟨h4.os, h4.tape, h4.output, h4.size, h4.block⟩⟩
end Go.Proofs.YtfekpkelmliejaaGreatDoor
namespace Go.Proofs.YtfekpkelmliejaaGreatDoor
open Go.RowKit
set_option linter.unusedSimpArgs false
set_option linter.unusedVariables false
set_option maxRecDepth 100000

theorem addr_plusR (b o j : Nat) : (⟨b, o, none⟩ : Addr).add j = ⟨b, o + j, none⟩ := by unfold Addr.add; split <;> simp_all
end Go.Proofs.YtfekpkelmliejaaGreatDoor
namespace Go.Proofs.YtfekpkelmliejaaGreatDoor
open Go.RowKit
set_option linter.unusedSimpArgs false
set_option linter.unusedVariables false
set_option maxRecDepth 100000

end Go.Proofs.YtfekpkelmliejaaGreatDoor
namespace Go.Proofs.YtfekpkelmliejaaGreatDoor
open Go.RowKit
set_option linter.unusedSimpArgs false
set_option linter.unusedVariables false
set_option maxRecDepth 100000

end Go.Proofs.YtfekpkelmliejaaGreatDoor
namespace Go.Proofs.YtfekpkelmliejaaGreatDoor
open Go.RowKit
set_option linter.unusedSimpArgs false
set_option linter.unusedVariables false
set_option maxRecDepth 100000

end Go.Proofs.YtfekpkelmliejaaGreatDoor
namespace Go.Proofs.YtfekpkelmliejaaGreatDoor
open Go.RowKit
set_option linter.unusedSimpArgs false
set_option linter.unusedVariables false
set_option maxRecDepth 100000

end Go.Proofs.YtfekpkelmliejaaGreatDoor
namespace Go.Proofs.YtfekpkelmliejaaGreatDoor
open Go.RowKit
set_option linter.unusedSimpArgs false
set_option linter.unusedVariables false
set_option maxRecDepth 100000

/-- An append to a row of the machine. -/
theorem Moves.push {base : Nat} {S : Nat → Prop} {w wa w1 : World} {v : Value} {gg : Nat} (hS : ∀ b, S b → base ≤ b ∧ b < w.heap.size) (hb : base ≤ w.heap.size) (ha : Below w.heap.size w wa) (hgrow : wa.grownBy w1 v.ownBlock) (hv : ∀ b, v.ownBlock = some b → S b) (hat : v.ownBlock = some gg ∨ w.heap.size ≤ gg) :
    Moves base S w (fun b => S b ∨ b = gg) w1 := by
  have hsz := ha.size
  have hs2 : wa.heap.size ≤ w1.heap.size := hgrow.size
  refine ⟨(ha.mono hb).grown hgrow (by omega) (fun k hk => (hS k (hv k hk)).1), by omega, fun b hlt hn => ?_, fun b hb => ?_⟩
  · exact (hgrow.block b (by omega) (fun e => hn (hv b e.symm))).trans (ha.block b hlt)
  · rcases hb with h | rfl
    · exact .inl h
    · rcases hat with h | h
      · exact .inl (hv _ h)
      · exact .inr h
end Go.Proofs.YtfekpkelmliejaaGreatDoor
namespace Go.Proofs.YtfekpkelmliejaaGreatDoor
open Go.RowKit
set_option linter.unusedSimpArgs false
set_option linter.unusedVariables false
set_option maxRecDepth 100000

/-- What is laid fits. -/
def FitsM (m : MachS) : Prop := m.states ≤ 1000000000000 ∧ m.links.length ≤ 1000000000000 ∧ m.edges.length ≤ 1000000000000
def ExtM (m m' : MachS) : Prop := m.states ≤ m'.states ∧ m.links.length ≤ m'.links.length ∧ m.edges.length ≤ m'.edges.length
theorem FitsM.of {m m' : MachS} (h : FitsM m') (he : ExtM m m') : FitsM m := ⟨Nat.le_trans he.1 h.1, Nat.le_trans he.2.1 h.2.1, Nat.le_trans he.2.2 h.2.2⟩
theorem ExtM.refl (m : MachS) : ExtM m m := ⟨Nat.le_refl _, Nat.le_refl _, Nat.le_refl _⟩
theorem ExtM.trans {a b c : MachS} (h : ExtM a b) (h' : ExtM b c) : ExtM a c := ⟨Nat.le_trans h.1 h'.1, Nat.le_trans h.2.1 h'.2.1, Nat.le_trans h.2.2 h'.2.2⟩
theorem ExtM.state (m : MachS) (a : Nat) : ExtM m (m.state a) := ⟨by simp [MachS.states, MachS.state], Nat.le_refl _, Nat.le_refl _⟩
theorem ExtM.link (m : MachS) (a b : Nat) : ExtM m (m.link a b) := ⟨Nat.le_refl _, by simp [MachS.link], Nat.le_refl _⟩
theorem ExtM.edge (m : MachS) (a s b : Nat) : ExtM m (m.edge a s b) := ⟨Nat.le_refl _, Nat.le_refl _, by simp [MachS.edge]⟩
def GrowsF (f : LayF) : Prop := ∀ m i, ExtM m (f m i).1
theorem AddsF.grows {f : LayF} {n c : Nat} (h : AddsF f n c) : GrowsF f := fun m i => by
  obtain ⟨L, E, h0, _⟩ := h m i
  rw [h0]
  exact ⟨by simp [MachS.states], by simp, by simp⟩
/-- How a call of laying ends. -/
def LayOut (base g : Nat) (S : Nat → Prop) (w : World) (r : MachS × Nat) (e : Ending) (w' : World) : Prop :=
  e = .returned (.int .i64 (r.2 : Int)) ∧ ∃ S', LayAt w' base g S' r.1 ∧ Moves base S w S' w'
/-- The contract of laying a tree. -/
def LayC (x : Nd) : Prop := ∀ (B : Option Addr) (cap i base g : Nat) (S : Nat → Prop) (m : MachS) (w : World), TreesAt w (fun b => b < base) x.kids B → LayAt w base g S m → base ≤ w.heap.size → FitsM (x.lay m i).1 →
  Calls Tryz.prog 120 #[.pointer (some ⟨g, 0, none⟩), ndV x B cap, .int .i64 (i : Int)] w (LayOut base g S w (x.lay m i))
/-- What is known of a node's kids. -/
structure KidsC (F : Trees) : Prop where
  lay : ∀ z ∈ F.list, LayC z
  grows : ∀ f ∈ F.lays, GrowsF f
theorem KidsC.get {F : Trees} (h : KidsC F) {k : Nat} {z : Nd} (hz : F.list[k]? = some z) : LayC z := h.lay z (List.mem_of_getElem? hz)
/-! What has no kids. -/
end Go.Proofs.YtfekpkelmliejaaGreatDoor
