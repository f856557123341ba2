/- Texts of the claim. -/
import Derived.Deep.RegionWith
import Derived.Test.YtofbfafnpdaejaaGreatDoorMZ03
set_option linter.all false
set_option maxRecDepth 100000
set_option maxHeartbeats 8000000
namespace Go.Proofs.YtofbfafnpdaejaaGreatDoor
open Go.RowKit
theorem next1_go (T S b o len cap : Nat) (i : Nat) (v : Value) (N : Nat) (L : List Lex) (W : World) (hT : W.cell? ⟨T, 0, none⟩ = some (.pointer (some ⟨S, 0, none⟩))) (hS : Spl W S b o len cap i v 0 0) (hrow : W.ownsRow N 143 8 v L.length (lexCells L)) (hN : N ≤ S) (hL : L.length ≤ 100000) (hi : i ≤ 100000) :
  Calls Tryz.prog 193 #[.pointer (some ⟨T, 0, none⟩)] W (Took S b o len cap N L ⟨1, i, dotSet, 0, 0⟩ ((i : Int) + 1) 0 0 W) := by
 obtain ⟨s0, s1, s2, s3, s4, f0, f1, f2, f3, f4⟩ := hS.cells
 have hlt := Blk.lt hS
 have HS := Lib.hid hS
 have Hrow := Lib.hid hrow
 have hTl : T < W.heap.size := World.block_lt_of_cell? W _ hT
 clear hS hrow
 have hNW : N ≤ W.heap.size := by omega
 have ew : IntKind.i64.wrap ((i : Int) + 1) = (i : Int) + 1 := IntWalk.i64_in _ (by omega)
 go_enter Tryz.func193, Tryz.ntmps193
 go_region_with (first | (go_at_call 195; refine (dot_go _).mono ?_; rintro e w1 ⟨rfl, hb1⟩; have Hb1 := Lib.hid hb1; have u1 := (hb1.cell (p := ⟨T, 0, none⟩) hTl).trans hT; have HS1 := Lib.hid (Blk.below (w := W.drew) HS.out hb1 hlt); have HR1 := Lib.hid (own_below (w := W.drew) Hrow.out hb1); have u2 := (Spl.cells HS1.out).2.1; clear hb1) | (go_at_call 194; refine (set_go S b o len cap i v 0 0 N L dotSet _ _ HS1.out HR1.out hN hL).mono ?_; rintro e w2 ⟨rfl, hb2, hv2⟩; have HV2 := Lib.hid hv2; have HB2 := Lib.hid hb2; clear hv2 hb2))
 all_goals go_end0
 all_goals exact ⟨rfl, (((Below.refl N W).drew).trans (Hb1.out.mono hNW)).trans HB2.out, HV2.out⟩
end Go.Proofs.YtofbfafnpdaejaaGreatDoor
