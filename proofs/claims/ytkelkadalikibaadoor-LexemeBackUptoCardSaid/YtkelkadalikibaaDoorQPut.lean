/-
  The splitter in memory; the contracts of put, set, fail and dot.
-/
import Derived.Maps.AppendAt
import Derived.Deep.AppendLies
import Derived.Deep.RegionLaw
import Derived.Deep.RegionHeld3
import Derived.RegionTactic
import Derived.BigRegion
import Derived.Test.YtkelkadalikibaaDoorQZ01
namespace Go.Proofs.YtkelkadalikibaaDoor
open Go.RowKit
set_option linter.unusedSimpArgs false
set_option linter.unusedVariables false
set_option maxRecDepth 100000

/-- The cells of a lexeme. -/
def lexCell (x : Lex) : List Value := [.int .i64 x.kind, .int .i64 x.place, .int .u64 ((word x.set 0 : Nat) : Int), .int .u64 ((word x.set 1 : Nat) : Int), .int .u64 ((word x.set 2 : Nat) : Int), .int .u64 ((word x.set 3 : Nat) : Int), .int .i64 x.lo, .int .i64 x.hi]
def lexCells (l : List Lex) : List Value := l.flatMap lexCell
theorem lexCells_snoc (l : List Lex) (x : Lex) : lexCells (l ++ [x]) = lexCells l ++ lexCell x := by simp [lexCells]
/-- The splitter's block. -/
def Spl (W : World) (S : Nat) (b o len cap : Nat) (i : Int) (v : Value) (k q : Int) : Prop := Blk W S 77 #[.slice (some ⟨b, o, none⟩) len cap, .int .i64 i, v, .int .i64 k, .int .i64 q]
theorem Spl.cells {W : World} {S b o len cap : Nat} {i k q : Int} {v : Value} (h : Spl W S b o len cap i v k q) :
    W.cell? ⟨S, 0, none⟩ = some (.slice (some ⟨b, o, none⟩) len cap) ∧ W.cell? ⟨S, 1, none⟩ = some (.int .i64 i) ∧ W.cell? ⟨S, 2, none⟩ = some v ∧ W.cell? ⟨S, 3, none⟩ = some (.int .i64 k) ∧ W.cell? ⟨S, 4, none⟩ = some (.int .i64 q) ∧
    W.frozen? ⟨S, 0, none⟩ = false ∧ W.frozen? ⟨S, 1, none⟩ = false ∧ W.frozen? ⟨S, 2, none⟩ = false ∧ W.frozen? ⟨S, 3, none⟩ = false ∧ W.frozen? ⟨S, 4, none⟩ = false :=
  ⟨Blk.cell h 0, Blk.cell h 1, Blk.cell h 2, Blk.cell h 3, Blk.cell h 4, Blk.frozen h 0, Blk.frozen h 1, Blk.frozen h 2, Blk.frozen h 3, Blk.frozen h 4⟩

theorem info_lex : (Tryd.prog.info? 46).map (fun i => (i.zero, i.size, i.bytes)) = some (some (.agg #[.int .i64 0, .int .i64 0, .int .u64 0, .int .u64 0, .int .u64 0, .int .u64 0, .int .i64 0, .int .i64 0]), 8, 64) := by kernel_rfl

set_option maxHeartbeats 2000000 in
theorem put_go (S b o len cap : Nat) (i : Int) (v : Value) (k q : Int) (N : Nat) (L : List Lex) (x : Lex) (next : Int) (W : World) (hS : Spl W S b o len cap i v k q) (hrow : W.ownsRow N 46 8 v L.length (lexCells L)) (hN : N ≤ S) (hL : L.length ≤ 100000) :
    Calls Tryd.prog 90 #[.pointer (some ⟨S, 0, none⟩), .agg #[.int .i64 x.kind, .int .i64 x.place, .int .u64 ((word x.set 0 : Nat) : Int), .int .u64 ((word x.set 1 : Nat) : Int), .int .u64 ((word x.set 2 : Nat) : Int), .int .u64 ((word x.set 3 : Nat) : Int), .int .i64 x.lo, .int .i64 x.hi], .int .i64 next] W fun e W' =>
      e = .returned (.tuple #[]) ∧ Below N W W' ∧ ∃ v', Spl W' S b o len cap next v' k q ∧ W'.ownsRow N 46 8 v' (L.length + 1) (lexCells (L ++ [{ x with place := i }])) := by
  obtain ⟨i0, hi, hz0, hz1, hz2⟩ := info_parts info_lex
  obtain ⟨s0, s1, s2, s3, s4, f0, f1, f2, f3, f4⟩ := hS.cells
  have hlt := Blk.lt hS
  have HS := Lib.hid hS
  have Hrow := Lib.hid hrow
  clear hS hrow
  go_enter Tryd.func90, Tryd.ntmps90
  go_wp2
  have HX := Lib.hid ((Below.refl N W).alloc (by omega) (.cells #[.int .i64 x.kind, .int .i64 i, .int .u64 ((word x.set 0 : Nat) : Int), .int .u64 ((word x.set 1 : Nat) : Int), .int .u64 ((word x.set 2 : Nat) : Int), .int .u64 ((word x.set 3 : Nat) : Int), .int .i64 x.lo, .int .i64 x.hi] 46))
  have hSx := Blk.alloc HS.out (.cells #[.int .i64 x.kind, .int .i64 i, .int .u64 ((word x.set 0 : Nat) : Int), .int .u64 ((word x.set 1 : Nat) : Int), .int .u64 ((word x.set 2 : Nat) : Int), .int .u64 ((word x.set 3 : Nat) : Int), .int .i64 x.lo, .int .i64 x.hi] 46)
  have hrx := Hrow.out.alloc (.cells #[.int .i64 x.kind, .int .i64 i, .int .u64 ((word x.set 0 : Nat) : Int), .int .u64 ((word x.set 1 : Nat) : Int), .int .u64 ((word x.set 2 : Nat) : Int), .int .u64 ((word x.set 3 : Nat) : Int), .int .i64 x.lo, .int .i64 x.hi] 46)
  have hbx := Blk.new W 46 #[.int .i64 x.kind, .int .i64 i, .int .u64 ((word x.set 0 : Nat) : Int), .int .u64 ((word x.set 1 : Nat) : Int), .int .u64 ((word x.set 2 : Nat) : Int), .int .u64 ((word x.set 3 : Nat) : Int), .int .i64 x.lo, .int .i64 x.hi]
  have hzx : (W.alloc (.cells #[.int .i64 x.kind, .int .i64 i, .int .u64 ((word x.set 0 : Nat) : Int), .int .u64 ((word x.set 1 : Nat) : Int), .int .u64 ((word x.set 2 : Nat) : Int), .int .u64 ((word x.set 3 : Nat) : Int), .int .i64 x.lo, .int .i64 x.hi] 46)).heap.size = W.heap.size + 1 := by simp
  generalize W.alloc (.cells #[.int .i64 x.kind, .int .i64 i, .int .u64 ((word x.set 0 : Nat) : Int), .int .u64 ((word x.set 1 : Nat) : Int), .int .u64 ((word x.set 2 : Nat) : Int), .int .u64 ((word x.set 3 : Nat) : Int), .int .i64 x.lo, .int .i64 x.hi] 46) = wx at *
  obtain ⟨s0, s1, s2, s3, s4, f0, f1, f2, f3, f4⟩ := Spl.cells hSx
  have x0 := hbx.cell 0
  have x1 := hbx.cell 1
  have x2 := hbx.cell 2
  have x3 := hbx.cell 3
  have x4 := hbx.cell 4
  have x5 := hbx.cell 5
  have x6 := hbx.cell 6
  have x7 := hbx.cell 7
  have hNx : N ≤ wx.heap.size := by omega
  have hSl : S < wx.heap.size := by omega
  have Hrx := Lib.hid hrx
  have HSx := Lib.hid hSx
  have Hzx := Lib.hid hzx
  have hneS := blk_not_row hSx (by decide) hrx
  have HneS := Lib.hid hneS
  have h63 : L.length + 1 ≤ maxLen := Nat.le_trans (by omega) (show 200000 ≤ maxLen by decide)
  have hby : (L.length + 1) * 64 ≤ 140737488355328 := by omega
  clear hrx hSx hbx hneS hzx
  go_region_law ((refine step_append_lies _ (by rfl) _ _ _ (by rfl) N 46 i0 _ 8 64 Tryd.underlying40 hi hz0 hz1 hz2 rfl (by decide) v L.length (lexCells L) (by rfl) ((Hrx.out.alloc _).drew) ⟨wx.heap.size, 0, none⟩ 1 1 (lexCell { x with place := i }) (by rfl) (by rfl) (World.news_of_block (cs := #[.int .i64 x.kind, .int .i64 i, .int .u64 ((word x.set 0 : Nat) : Int), .int .u64 ((word x.set 1 : Nat) : Int), .int .u64 ((word x.set 2 : Nat) : Int), .int .u64 ((word x.set 3 : Nat) : Int), .int .i64 x.lo, .int .i64 x.hi]) (t := 46) (fr := (0, 0)) (heap_alloc_new wx _)) (by simp [lexCell, Value.oneCell']) (by decide) h63 hby (by simp; omega) (wx.heap.size + 1) (by simp) ?_; intro gg cap' w1 hown1 hgrow hat hlt1; have hS1 := Blk.grown (Blk.drew (Blk.alloc HSx.out _)) hgrow HneS.out; have c2 := hS1.cell 2; have g2 := hS1.frozen 2; have c1 := hS1.cell 1; have g1 := hS1.frozen 1; have HS1 := Lib.hid hS1; have Hgrow := Lib.hid hgrow; have Hown1 := Lib.hid hown1; have Hat := Lib.hid hat; clear hS1 hgrow hown1 hat))
  all_goals go_wp2
  all_goals go_light
  all_goals go_end0
  all_goals
    have hneg : some S ≠ (Value.slice (some ⟨gg, 0, none⟩) (L.length + 1) cap').ownBlock := by
      intro e
      have e' : S = gg := by simpa [Value.ownBlock] using e
      rcases Hat.out with h | h
      · exact HneS.out (e' ▸ h.symm)
      · omega
    have hB := below_grown ((HX.out.alloc hNx (.cells #[.int .i64 x.kind, .int .i64 i, .int .u64 ((word x.set 0 : Nat) : Int), .int .u64 ((word x.set 1 : Nat) : Int), .int .u64 ((word x.set 2 : Nat) : Int), .int .u64 ((word x.set 3 : Nat) : Int), .int .i64 x.lo, .int .i64 x.hi] 46)).drew) Hgrow.out ((Hrx.out.alloc _).drew) (Nat.le_refl _) (by simp; omega)
    refine ⟨rfl, (hB.setCell (p := ⟨S, 2, none⟩) hN _).setCell (p := ⟨S, 1, none⟩) hN _, _, (HS1.out.set_ 2 _).set_ 1 _, ?_⟩
    rw [lexCells_snoc]
    exact own_set (own_set Hown1.out hneg) hneg

end Go.Proofs.YtkelkadalikibaaDoor
