/- Texts of the claim. -/
import Derived.Deep.RegionWith
import Derived.Test.YtofbfafnpdaejaaGreatDoorMZ03
set_option linter.all false
set_option maxRecDepth 100000
set_option maxHeartbeats 8000000
namespace Go.Proofs.YtofbfafnpdaejaaGreatDoor
open Go.RowKit
theorem next2_go (T S b o len cap : Nat) (i : Int) (v : Value) (N : Nat) (W : World) (hT : W.cell? ⟨T, 0, none⟩ = some (.pointer (some ⟨S, 0, none⟩))) (hS : Spl W S b o len cap i v 0 0) (hN : N ≤ S) :
  Calls Tryz.prog 196 #[.pointer (some ⟨T, 0, none⟩)] W fun e W' => e = .returned (.tuple #[]) ∧ Below N W W' ∧ Spl W' S b o len cap i v 3 i := by
 have Hf := Lib.hid (sfail_go S b o len cap i v 0 0 N 3 W hS hN)
 clear hS
 go_enter Tryz.func196, Tryz.ntmps196
 go_wp2_with fail
 refine Hf.out.mono ?_
 rintro e w1 ⟨rfl, hb1, hv⟩
 have HV := Lib.hid hv
 have HB1 := Lib.hid hb1
 clear hv hb1
 go_wp2
 go_end0
 exact ⟨rfl, HB1.out, HV.out⟩
theorem next3_go (T T1 S b o len cap : Nat) (i c : Nat) (v : Value) (N : Nat) (L : List Lex) (W : World) (hT : W.cell? ⟨T, 0, none⟩ = some (.pointer (some ⟨S, 0, none⟩))) (hC : W.cell? ⟨T1, 0, none⟩ = some (.int .u8 (c : Int))) (hS : Spl W S b o len cap i v 0 0) (hrow : W.ownsRow N 143 8 v L.length (lexCells L)) (hN : N ≤ S) (hL : L.length ≤ 100000) (hi : i ≤ 100000) (hc : c < 256) :
  Calls Tryz.prog 199 #[.pointer (some ⟨T, 0, none⟩), .pointer (some ⟨T1, 0, none⟩)] W (Took S b o len cap N L ⟨1, i, among [c] 1, 0, 0⟩ ((i : Int) + 1) 0 0 W) := by
 obtain ⟨s0, s1, s2, s3, s4, f0, f1, f2, f3, f4⟩ := hS.cells
 have hlt := Blk.lt hS
 have HS := Lib.hid hS
 have Hrow := Lib.hid hrow
 have hTl : T < W.heap.size := World.block_lt_of_cell? W _ hT
 have n1 := World.new_ne W _ hT
 have n2 := World.new_ne W _ hC
 have n3 := World.new_ne W _ s1
 clear hS hrow s0 s2 s3 s4 f0 f1 f2 f3 f4
 have hNW : N ≤ W.heap.size := by omega
 have hlt' : S < (W.alloc (.cells #[.int .u8 (c : Int)] 5)).heap.size := by simp; omega
 have hTl' : T < (W.alloc (.cells #[.int .u8 (c : Int)] 5)).heap.size := by simp; omega
 have hNW' : N ≤ (W.alloc (.cells #[.int .u8 (c : Int)] 5)).heap.size := by simp; omega
 have HX := Lib.hid ((((Below.refl N W).alloc hNW (.cells #[.int .u8 (c : Int)] 5))).drew)
 have HSX := Lib.hid (Blk.drew (Blk.alloc HS.out (.cells #[.int .u8 (c : Int)] 5)))
 have HRX : Hid (((W.alloc (.cells #[.int .u8 (c : Int)] 5)).drew).ownsRow N 143 8 v L.length (lexCells L)) := Hrow.out.alloc _
 have HTX : Hid (((W.alloc (.cells #[.int .u8 (c : Int)] 5)).drew).cell? ⟨T, 0, none⟩ = some (.pointer (some ⟨S, 0, none⟩))) := ((Below.refl W.heap.size W).alloc (Nat.le_refl _) (.cells #[.int .u8 (c : Int)] 5)).cell (p := ⟨T, 0, none⟩) hTl |>.trans hT
 have ew : IntKind.i64.wrap ((i : Int) + 1) = (i : Int) + 1 := IntWalk.i64_in _ (by omega)
 go_enter Tryz.func199, Tryz.ntmps199
 go_region_with (first | (go_at_call 200; refine (of_one c hc _ _ rfl).mono ?_; rintro e w1 ⟨rfl, hb1⟩; have Hb1 := Lib.hid hb1; have u1 := (hb1.cell (p := ⟨T, 0, none⟩) hTl').trans HTX.out; have HS1 := Lib.hid (Blk.below HSX.out hb1 hlt'); have HR1 := Lib.hid (own_below HRX.out hb1); have u2 := (Spl.cells HS1.out).2.1; clear hb1) | (go_at_call 194; refine (set_go S b o len cap i v 0 0 N L (among [c] 1) _ _ HS1.out HR1.out hN hL).mono ?_; rintro e w2 ⟨rfl, hb2, hv2⟩; have HV2 := Lib.hid hv2; have HB2 := Lib.hid hb2; clear hv2 hb2))
 all_goals go_end0
 all_goals exact ⟨rfl, (HX.out.trans (Hb1.out.mono hNW')).trans HB2.out, HV2.out⟩
end Go.Proofs.YtofbfafnpdaejaaGreatDoor
