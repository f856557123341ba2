/- Texts of the claim. -/
import Derived.RegionTactic
import Derived.BigRegion
import Derived.Deep.RegionWith
import Derived.StillTailTactics
import Derived.Test.YtofbfafnpdaejaaGreatDoorMEscapeX
set_option linter.all false
set_option maxRecDepth 100000
set_option maxHeartbeats 8000000
namespace Go.Proofs.YtofbfafnpdaejaaGreatDoor
open Go.RowKit
def escVal (bs : List Nat) (i : Int) : Value :=
 if hasAt bs i 92 = true then
  match escS bs i.toNat with
  | some (c, j) => .tuple #[.int .u8 (c : Int), .int .i64 (j : Int), .agg #[.int .i64 0, .int .i64 0]]
  | none => .tuple #[.int .u8 0, .int .i64 0, .agg #[.int .i64 14, .int .i64 i]]
 else .tuple #[.int .u8 0, .int .i64 0, .agg #[.int .i64 1, .int .i64 0]]
theorem escVal_no {bs : List Nat} {i : Int} (h : hasAt bs i 92 = false) : escVal bs i = .tuple #[.int .u8 0, .int .i64 0, .agg #[.int .i64 1, .int .i64 0]] := if_neg (by rw [h]; decide)
theorem escVal_some {bs : List Nat} {k : Nat} (h : hasAt bs (k : Int) 92 = true) {c j : Nat} (he : escS bs k = some (c, j)) : escVal bs (k : Int) = .tuple #[.int .u8 (c : Int), .int .i64 (j : Int), .agg #[.int .i64 0, .int .i64 0]] := by
 unfold escVal; rw [if_pos h, Int.toNat_natCast, he]
theorem escVal_none {bs : List Nat} {k : Nat} (h : hasAt bs (k : Int) 92 = true) (he : escS bs k = none) : escVal bs (k : Int) = .tuple #[.int .u8 0, .int .i64 0, .agg #[.int .i64 14, .int .i64 (k : Int)]] := by
 unfold escVal; rw [if_pos h, Int.toNat_natCast, he]
theorem ret_esc {fn : Func} {t4 t5 t6 : Tmp} (h : fn.results = #[.tmp t4, .tmp t5, .cell t6 77]) {tmps : Array Value} {w : World} {g' : Nat} {x y c i : Value}
  (hc : tmps.getD t4 undef = c) (hi : tmps.getD t5 undef = i) (hp' : tmps.getD t6 undef = .pointer (some ⟨g', 0, none⟩)) (hb' : Blk w g' 77 #[x, y]) :
  (results fn tmps).run Tryz.prog w = .ok (.tuple #[c, i, .agg #[x, y]]) w := by
 have h2 := run_loadVar_row (P := Tryz.prog) w g' 77 77 #[x, y] (0, 0) _ hb' Tryz.underlying77 rfl (by kernel_rfl)
 simp only [results, h]
 simp only [Array.getD_eq_getD_getElem?] at hc hi hp'
 simp [Sem.run_bind, hc, hi, hp', asAddr, h2, Result.andThen]
end Go.Proofs.YtofbfafnpdaejaaGreatDoor
