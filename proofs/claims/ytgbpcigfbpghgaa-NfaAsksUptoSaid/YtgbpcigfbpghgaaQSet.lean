/-
  The contracts of the splitter's set and fail, of dot, and of what next makes of a byte.
-/
import Derived.Lib.SlBytesConst
import Derived.Test.YtgbpcigfbpghgaaQZ01
namespace Go.Proofs.Ytgbpcigfbpghgaa
open Go.RowKit
set_option linter.unusedSimpArgs false
set_option linter.unusedVariables false
set_option maxRecDepth 100000

/-- A lexeme more, and the place behind. -/
def Took (S b o len cap : Nat) (N : Nat) (L : List Lex) (x : Lex) (next k q : Int) (W : World) (e : Ending) (W' : World) : Prop :=
  e = .returned (.tuple #[]) ∧ Below N W W' ∧ ∃ v', Spl W' S b o len cap next v' k q ∧ W'.ownsRow N 97 8 v' (L.length + 1) (lexCells (L ++ [x]))

set_option maxHeartbeats 1000000 in
theorem set_go (S b o len cap : Nat) (i : Int) (v : Value) (k q : Int) (N : Nat) (L : List Lex) (p : Nat → Bool) (next : Int) (W : World) (hS : Spl W S b o len cap i v k q) (hrow : W.ownsRow N 97 8 v L.length (lexCells L)) (hN : N ≤ S) (hL : L.length ≤ 100000) :
    Calls Try.prog 92 #[.pointer (some ⟨S, 0, none⟩), .agg #[.int .u64 ((word (p) 0 : Nat) : Int), .int .u64 ((word (p) 1 : Nat) : Int), .int .u64 ((word (p) 2 : Nat) : Int), .int .u64 ((word (p) 3 : Nat) : Int)], .int .i64 next] W (Took S b o len cap N L ⟨1, i, p, 0, 0⟩ next k q W) := by
  have hlt := Blk.lt hS
  have hB := Lib.hid ((Below.refl N W).alloc (by omega) (.cells #[.int .u64 ((word (p) 0 : Nat) : Int), .int .u64 ((word (p) 1 : Nat) : Int), .int .u64 ((word (p) 2 : Nat) : Int), .int .u64 ((word (p) 3 : Nat) : Int)] 34))
  have Hp := Lib.hid (put_go S b o len cap i v k q N L ⟨1, 0, p, 0, 0⟩ next (W.alloc (.cells #[.int .u64 ((word (p) 0 : Nat) : Int), .int .u64 ((word (p) 1 : Nat) : Int), .int .u64 ((word (p) 2 : Nat) : Int), .int .u64 ((word (p) 3 : Nat) : Int)] 34)) (Blk.alloc hS _) (hrow.alloc _) hN hL)
  clear hS hrow
  go_enter Try.func92, Try.ntmps92
  go_wp2_with fail
  refine Hp.out.mono ?_
  rintro e w1 ⟨rfl, hb1, hv⟩
  have HV := Lib.hid hv
  have HB1 := Lib.hid hb1
  clear hv hb1
  go_wp2
  go_end0
  exact ⟨rfl, hB.out.trans HB1.out, HV.out⟩

theorem sfail_go (S b o len cap : Nat) (i : Int) (v : Value) (k q : Int) (N : Nat) (kind : Int) (W : World) (hS : Spl W S b o len cap i v k q) (hN : N ≤ S) :
    Calls Try.prog 95 #[.pointer (some ⟨S, 0, none⟩), .int .i64 kind] W fun e W' => e = .returned (.tuple #[]) ∧ Below N W W' ∧ Spl W' S b o len cap i v kind i := by
  obtain ⟨s0, s1, s2, s3, s4, f0, f1, f2, f3, f4⟩ := hS.cells
  have HS := Lib.hid hS
  clear hS
  go_enter Try.func95, Try.ntmps95
  go_wp2
  go_light
  go_end0
  exact ⟨rfl, ((Below.refl N W).setCell (p := ⟨S, 3, none⟩) hN _).setCell (p := ⟨S, 4, none⟩) hN _, (Blk.set_ HS.out 3 _).set_ 4 _⟩

set_option maxHeartbeats 1000000 in
theorem dot_go (w : World) :
    Calls Try.prog 93 #[] w fun e w' => e = .returned (.agg #[.int .u64 ((word (dotSet) 0 : Nat) : Int), .int .u64 ((word (dotSet) 1 : Nat) : Int), .int .u64 ((word (dotSet) 2 : Nat) : Int), .int .u64 ((word (dotSet) 3 : Nat) : Int)]) ∧ Below w.heap.size w w' := by
  have HB := Lib.hid (((Below.refl w.heap.size w).alloc (Nat.le_refl _) (.cells #[.int .u64 0, .int .u64 0, .int .u64 0, .int .u64 0] 34)).alloc (by simp) (.cells #[.int .u8 10] 5))
  have hz : Blk ((w.alloc (.cells #[.int .u64 0, .int .u64 0, .int .u64 0, .int .u64 0] 34)).alloc (.cells #[.int .u8 10] 5)) w.heap.size 34 #[.int .u64 0, .int .u64 0, .int .u64 0, .int .u64 0] := (Blk.new _ _ _).alloc _
  go_enter Try.func93, Try.ntmps93
  go_wp2_with fail
  refine (of_any _ [10] 1 _ (bytes_new _ _ [10] _ _ (by simp) rfl (by decide) (by decide))).mono ?_
  rintro e w1 ⟨rfl, hb1⟩
  have HB1 := Lib.hid (HB.out.trans (hb1.mono HB.out.size))
  have Hz1 := Lib.hid (hz.below hb1 hz.lt)
  clear hb1 hz
  go_wp2_with fail
  refine (not_any _ _).mono ?_
  rintro e w2 ⟨rfl, hb2⟩
  have HB2 := Lib.hid (HB1.out.trans (hb2.mono HB1.out.size))
  have Hz2 := Lib.hid (Hz1.out.below hb2 Hz1.out.lt)
  obtain ⟨z0, z1, z2, z3, g0, g1, g2, g3⟩ := Hz2.out.c4
  clear hb2
  go_wp2
  go_light
  refine bodyPost_ret (v := .agg #[.int .u64 ((word (dotSet) 0 : Nat) : Int), .int .u64 ((word (dotSet) 1 : Nat) : Int), .int .u64 ((word (dotSet) 2 : Nat) : Int), .int .u64 ((word (dotSet) 3 : Nat) : Int)]) (ret_set Try.results93 rfl Hz2.out.set4) rfl ⟨rfl, below_set4 HB2.out (Nat.le_refl _) _ _ _ _⟩

end Go.Proofs.Ytgbpcigfbpghgaa
