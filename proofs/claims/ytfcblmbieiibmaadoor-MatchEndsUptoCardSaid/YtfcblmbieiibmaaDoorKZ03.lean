/- Texts of the claim. -/
import Derived.Deep.RegionWith
import Derived.Lib.SlBytesConst
import Derived.Deep.RegionHeld3
import Derived.Test.YtfcblmbieiibmaaDoorRows
import Derived.WalkKit
import Derived.ProofKit
import Derived.OpenShut
import Derived.ShutString
import Derived.ChangeOld
import Derived.SizedLaws
import Derived.Shelf.Spec.TrailingZeros
import Derived.Deep.DeepHandedRow
import Derived.Lib.LaidTab
import Derived.RangeFuncNested
import Derived.RangeFuncBound
import Derived.RangeFuncCalls
import Derived.RangeFuncLeaves
import Derived.Shelf.Abstract
import Derived.Shelf.RegionOpen
import Derived.OwnWalkIn
import Derived.TacticsInMore
import Derived.LoopNIn
import Derived.LoopIn
import Derived.MapKept
import Derived.ChangeMaps5
import Derived.Maps.Keyed
import Derived.DeepKeys4
import Derived.RangeFuncBox
import Derived.Maps.AppendAt
import Derived.Maps.OwnIn
import Derived.Lib.Hide
import Derived.Stop.RegionWithIn
import Derived.Deep.AppendLies
import Derived.Deep.RegionLaw
import Derived.Deep.Onto
import Derived.RegionTactic
import Derived.BigRegion
import Derived.Test.YtfcblmbieiibmaaDoorKZ01
import Derived.Test.YtfcblmbieiibmaaDoorKZ02
import Derived.Test.YtfcblmbieiibmaaDoorKRShow
import Derived.Test.YtfcblmbieiibmaaDoorKSpans
import Derived.Test.YtfcblmbieiibmaaDoorKRefEsc
namespace Go.Proofs.YtfcblmbieiibmaaDoor
open Go.RowKit
set_option linter.unusedSimpArgs false
set_option linter.unusedVariables false
set_option maxRecDepth 100000
set_option maxHeartbeats 8000000
theorem and64 (a M : Nat) (ha : a < 18446744073709551616) (hM : M < 18446744073709551616) : bits .and .u64 (a : Int) (M : Int) = ((a &&& M : Nat) : Int) := u64_and_nat a M ha hM
theorem wrapN (a : Nat) (h : a < 18446744073709551616) : IntKind.u64.wrap (a : Int) = (a : Int) := by rw [IntKind.wrap_u64]; omega
theorem i64_and127 (a : Nat) (ha : a < 9223372036854775808) : bits .and .i64 (a : Int) 127 = ((a % 128 : Nat) : Int) := by
 have hx : a &&& 127 = a % 128 := Nat.and_two_pow_sub_one_eq_mod a 7
 show IntKind.i64.wrap ((BitVec.ofInt 64 (a : Int) &&& BitVec.ofInt 64 (127 : Int)).toNat : Int) = _
 have e1 : (BitVec.ofInt 64 (a : Int)).toNat = a := by rw [BitVec.ofInt_natCast, BitVec.toNat_ofNat]; exact Nat.mod_eq_of_lt (by omega)
 have e2 : (BitVec.ofInt 64 (127 : Int)).toNat = 127 := by decide
 rw [BitVec.toNat_and, e1, e2, hx, IntKind.wrap_i64]
 omega
theorem mask55 : mask 0x55 8 = 6148914691236517205 := by decide
theorem mask33 : mask 0x33 8 = 3689348814741910323 := by decide
theorem mask0f : mask 0x0f 8 = 1085102592571150095 := by decide
theorem st1 (x : Nat) (hx : x < 18446744073709551616) : IntKind.u64.wrap (bits .and .u64 ((x : Int) / 2) 6148914691236517205 + bits .and .u64 (x : Int) 6148914691236517205) = ((s1 8 x : Nat) : Int) ∧ s1 8 x < 18446744073709551616 := by
 have e : ((x : Int) / 2) = ((x / 2 : Nat) : Int) := by omega
 have h1 : (x / 2) &&& 6148914691236517205 ≤ 6148914691236517205 := Nat.and_le_right
 have h2 : x &&& 6148914691236517205 ≤ 6148914691236517205 := Nat.and_le_right
 have b1 := and64 (x / 2) 6148914691236517205 (by omega) (by decide)
 have b2 := and64 x 6148914691236517205 hx (by decide)
 rw [show (((6148914691236517205 : Nat)) : Int) = 6148914691236517205 from rfl] at b1 b2
 unfold s1
 rw [mask55, e, b1, b2, ← Int.natCast_add]
 exact ⟨wrapN _ (by omega), by omega⟩
theorem st2 (x : Nat) (hx : x < 18446744073709551616) : IntKind.u64.wrap (bits .and .u64 ((x : Int) / 4) 3689348814741910323 + bits .and .u64 (x : Int) 3689348814741910323) = ((s2 8 x : Nat) : Int) ∧ s2 8 x ≤ 7378697629483820646 := by
 have e : ((x : Int) / 4) = ((x / 4 : Nat) : Int) := by omega
 have h1 : (x / 4) &&& 3689348814741910323 ≤ 3689348814741910323 := Nat.and_le_right
 have h2 : x &&& 3689348814741910323 ≤ 3689348814741910323 := Nat.and_le_right
 have b1 := and64 (x / 4) 3689348814741910323 (by omega) (by decide)
 have b2 := and64 x 3689348814741910323 hx (by decide)
 rw [show (((3689348814741910323 : Nat)) : Int) = 3689348814741910323 from rfl] at b1 b2
 unfold s2
 rw [mask33, e, b1, b2, ← Int.natCast_add]
 exact ⟨wrapN _ (by omega), by omega⟩
theorem st3 (x : Nat) (hx : x ≤ 7378697629483820646) : bits .and .u64 (IntKind.u64.wrap ((x : Int) / 16 + (x : Int))) 1085102592571150095 = ((s3 8 x : Nat) : Int) ∧ s3 8 x ≤ 1085102592571150095 := by
 have e : ((x : Int) / 16 + (x : Int)) = ((x / 16 + x : Nat) : Int) := by omega
 have b1 := and64 (x / 16 + x) 1085102592571150095 (by omega) (by decide)
 rw [show (((1085102592571150095 : Nat)) : Int) = 1085102592571150095 from rfl] at b1
 unfold s3
 rw [mask0f, e, wrapN _ (by omega), b1]
 exact ⟨rfl, Nat.and_le_right⟩
theorem ones_go (x : Nat) (w : World) (hx : x < 18446744073709551616) :
  Calls Tryd.prog 57 #[.int .u64 (x : Int)] w fun e w' => e = .returned (.int .i64 ((cnt x.testBit 64 : Nat) : Int)) ∧ w = w' := by
 go_enter Tryd.func57, Tryd.ntmps57
 go_wp2
 go_light
 go_ret
 refine ⟨ret_i ?_, rfl⟩
 obtain ⟨e1, l1⟩ := st1 x hx
 obtain ⟨e2, l2⟩ := st2 (s1 8 x) l1
 obtain ⟨e3, l3⟩ := st3 (s2 8 (s1 8 x)) l2
 have ef : fold3 (s3 8 (s2 8 (s1 8 x))) = cnt x.testBit 64 := by rw [(s123 8 x).1, fold3_cnts, sums_cnt]
 rw [e1, e2, e3]
 generalize s3 8 (s2 8 (s1 8 x)) = z at *
 rw [← ef]
 unfold fold3
 dsimp only
 clear e1 e2 e3 l1 l2 ef
 have q1 : ((z : Int) + (z : Int) / 256) = ((z + z / 256 : Nat) : Int) := by omega
 rw [q1, wrapN _ (by omega)]
 generalize hu : z + z / 256 = u
 have lu : u ≤ 2170205185142300190 := by omega
 have q2 : ((u : Int) + (u : Int) / 65536) = ((u + u / 65536 : Nat) : Int) := by omega
 rw [q2, wrapN _ (by omega)]
 generalize hv : u + u / 65536 = v
 have lv : v ≤ 2180205185142300190 := by omega
 have q3 : ((v : Int) + (v : Int) / 4294967296) = ((v + v / 4294967296 : Nat) : Int) := by omega
 rw [q3, wrapN _ (by omega), show wrap64 ((v + v / 4294967296 : Nat) : Int) = ((v + v / 4294967296 : Nat) : Int) by unfold wrap64; omega]
 exact i64_and127 _ (by omega)
theorem cnt_word (p : Nat → Bool) (i : Nat) : cnt (word p i).testBit 64 = cnt (fun k => p (64 * i + k)) 64 :=
 cnt_congr 64 fun k hk => by rw [testBit_word]; simp [hk]
theorem cnt_words (p : Nat → Bool) : cnt (word p 0).testBit 64 + cnt (word p 1).testBit 64 + cnt (word p 2).testBit 64 + cnt (word p 3).testBit 64 = cnt p 256 := by
 rw [cnt_word, cnt_word, cnt_word, cnt_word, show 256 = 64 + (64 + (64 + 64)) from rfl, cnt_add, cnt_add, cnt_add]
 simp only [Nat.mul_zero, Nat.zero_add, ← Nat.add_assoc, Nat.mul_one, show 64 * 2 = 64 + 64 from rfl, show 64 * 3 = 64 + 64 + 64 from rfl]
theorem count_go (p : Nat → Bool) (w : World) :
  Calls Tryd.prog 41 #[.agg #[.int .u64 (word p 0), .int .u64 (word p 1), .int .u64 (word p 2), .int .u64 (word p 3)]] w fun e w' => e = .returned (.int .i64 ((cnt p 256 : Nat) : Int)) ∧ Below w.heap.size w w' := by
 go_enter Tryd.func41, Tryd.ntmps41
 go_wp2
 refine wp_loop_rounds 5 ?_
 rw [rounds_succ]
 go_wp2_with (go_at_call 57; refine (ones_go _ _ (word_lt _ _)).mono ?_; rintro e w2 ⟨rfl, rfl⟩)
 rw [rounds_succ]
 go_wp2_with (go_at_call 57; refine (ones_go _ _ (word_lt _ _)).mono ?_; rintro e w2 ⟨rfl, rfl⟩)
 rw [rounds_succ]
 go_wp2_with (go_at_call 57; refine (ones_go _ _ (word_lt _ _)).mono ?_; rintro e w2 ⟨rfl, rfl⟩)
 rw [rounds_succ]
 go_wp2_with (go_at_call 57; refine (ones_go _ _ (word_lt _ _)).mono ?_; rintro e w2 ⟨rfl, rfl⟩)
 rw [rounds_succ]
 go_wp2
 go_light
 go_ret
 refine ⟨ret_i ?_, (Below.refl _ _).alloc (Nat.le_refl _) _⟩
 have e := cnt_words p
 have l0 := cnt_le (word p 0).testBit 64
 have l1 := cnt_le (word p 1).testBit 64
 have l2 := cnt_le (word p 2).testBit 64
 have l3 := cnt_le (word p 3).testBit 64
 rw [← e]
 unfold wrap64
 omega
end Go.Proofs.YtfcblmbieiibmaaDoor
namespace Go.Proofs.YtfcblmbieiibmaaDoor
open Go.RowKit Go.Shelf
set_option maxHeartbeats 8000000
attribute [local go_sem] Oper.semAt_some
set_option linter.unusedSimpArgs false
set_option linter.unusedVariables false
set_option maxRecDepth 100000
end Go.Proofs.YtfcblmbieiibmaaDoor
namespace Go.Proofs.YtfcblmbieiibmaaDoor
open Go.RowKit
set_option linter.unusedSimpArgs false
set_option linter.unusedVariables false
set_option maxRecDepth 100000
set_option maxHeartbeats 8000000
def Took (S b o len cap : Nat) (N : Nat) (L : List Lex) (x : Lex) (next k q : Int) (W : World) (e : Ending) (W' : World) : Prop :=
 e = .returned (.tuple #[]) ∧ Below N W W' ∧ ∃ v', Spl W' S b o len cap next v' k q ∧ W'.ownsRow N 71 8 v' (L.length + 1) (lexCells (L ++ [x]))
theorem set_go (S b o len cap : Nat) (i : Int) (v : Value) (k q : Int) (N : Nat) (L : List Lex) (p : Nat → Bool) (next : Int) (W : World) (hS : Spl W S b o len cap i v k q) (hrow : W.ownsRow N 71 8 v L.length (lexCells L)) (hN : N ≤ S) (hL : L.length ≤ 100000) :
  Calls Tryd.prog 66 #[.pointer (some ⟨S, 0, none⟩), .agg #[.int .u64 (word p 0), .int .u64 (word p 1), .int .u64 (word p 2), .int .u64 (word p 3)], .int .i64 next] W (Took S b o len cap N L ⟨1, i, p, 0, 0⟩ next k q W) := by
 have hlt := Blk.lt hS
 have hB := Lib.hid ((Below.refl N W).alloc (by omega) (.cells #[.int .u64 (word p 0), .int .u64 (word p 1), .int .u64 (word p 2), .int .u64 (word p 3)] 25))
 have Hp := Lib.hid (put_go S b o len cap i v k q N L ⟨1, 0, p, 0, 0⟩ next (W.alloc (.cells #[.int .u64 (word p 0), .int .u64 (word p 1), .int .u64 (word p 2), .int .u64 (word p 3)] 25)) (Blk.alloc hS _) (hrow.alloc _) hN hL)
 clear hS hrow
 go_enter Tryd.func66, Tryd.ntmps66
 go_wp2_with fail
 refine Hp.out.mono ?_
 rintro e w1 ⟨rfl, hb1, hv⟩
 have HV := Lib.hid hv
 have HB1 := Lib.hid hb1
 clear hv hb1
 go_wp2
 go_end0
 exact ⟨rfl, hB.out.trans HB1.out, HV.out⟩
theorem sfail_go (S b o len cap : Nat) (i : Int) (v : Value) (k q : Int) (N : Nat) (kind : Int) (W : World) (hS : Spl W S b o len cap i v k q) (hN : N ≤ S) :
  Calls Tryd.prog 69 #[.pointer (some ⟨S, 0, none⟩), .int .i64 kind] W fun e W' => e = .returned (.tuple #[]) ∧ Below N W W' ∧ Spl W' S b o len cap i v kind i := by
 obtain ⟨s0, s1, s2, s3, s4, f0, f1, f2, f3, f4⟩ := hS.cells
 have HS := Lib.hid hS
 clear hS
 go_enter Tryd.func69, Tryd.ntmps69
 go_wp2
 go_light
 go_end0
 exact ⟨rfl, ((Below.refl N W).setCell (p := ⟨S, 3, none⟩) hN _).setCell (p := ⟨S, 4, none⟩) hN _, (Blk.set_ HS.out 3 _).set_ 4 _⟩
theorem dot_go (w : World) :
  Calls Tryd.prog 67 #[] w fun e w' => e = .returned (.agg #[.int .u64 (word dotSet 0), .int .u64 (word dotSet 1), .int .u64 (word dotSet 2), .int .u64 (word dotSet 3)]) ∧ Below w.heap.size w w' := by
 have HB := Lib.hid (((Below.refl w.heap.size w).alloc (Nat.le_refl _) (.cells #[.int .u64 0, .int .u64 0, .int .u64 0, .int .u64 0] 25)).alloc (by simp) (.cells #[.int .u8 10] 5))
 have hz : Blk ((w.alloc (.cells #[.int .u64 0, .int .u64 0, .int .u64 0, .int .u64 0] 25)).alloc (.cells #[.int .u8 10] 5)) w.heap.size 25 #[.int .u64 0, .int .u64 0, .int .u64 0, .int .u64 0] := (Blk.new _ _ _).alloc _
 go_enter Tryd.func67, Tryd.ntmps67
 go_wp2_with fail
 refine (of_any _ [10] 1 _ (bytes_new _ _ [10] _ _ (by simp) rfl (by decide) (by decide))).mono ?_
 rintro e w1 ⟨rfl, hb1⟩
 have HB1 := Lib.hid (HB.out.trans (hb1.mono HB.out.size))
 have Hz1 := Lib.hid (hz.below hb1 hz.lt)
 clear hb1 hz
 go_wp2_with fail
 refine (not_any _ _).mono ?_
 rintro e w2 ⟨rfl, hb2⟩
 have HB2 := Lib.hid (HB1.out.trans (hb2.mono HB1.out.size))
 have Hz2 := Lib.hid (Hz1.out.below hb2 Hz1.out.lt)
 obtain ⟨z0, z1, z2, z3, g0, g1, g2, g3⟩ := Hz2.out.c4
 clear hb2
 go_wp2
 go_light
 refine bodyPost_ret (v := .agg #[.int .u64 (word dotSet 0), .int .u64 (word dotSet 1), .int .u64 (word dotSet 2), .int .u64 (word dotSet 3)]) (ret_set Tryd.results67 rfl Hz2.out.set4) rfl ⟨rfl, below_set4 HB2.out (Nat.le_refl _) _ _ _ _⟩
def Since (n : Nat) (w0 w : World) : Prop := Below n w0 w ∧ n ≤ w0.heap.size
theorem Since.cells {n : Nat} {w0 w : World} (h : Since n w0 w) : ∀ b o, b < n → w.cell? ⟨b, o, none⟩ = w0.cell? ⟨b, o, none⟩ := (bcell h.1).1
theorem since_step {n : Nat} {w0 w w' : World} (h : (∀ b o, b < n → w.cell? ⟨b, o, none⟩ = w0.cell? ⟨b, o, none⟩) ∧ Since n w0 w) (hb : Below w.heap.size w w') : (∀ b o, b < n → w'.cell? ⟨b, o, none⟩ = w0.cell? ⟨b, o, none⟩) ∧ Since n w0 w' := by
 have h2 : Since n w0 w' := ⟨h.2.1.trans (hb.mono (Nat.le_trans h.2.2 h.2.1.size)), h.2.2⟩
 exact ⟨h2.cells, h2⟩
theorem since_alloc {n : Nat} {w0 w : World} (h : (∀ b o, b < n → w.cell? ⟨b, o, none⟩ = w0.cell? ⟨b, o, none⟩) ∧ Since n w0 w) (o : Obj) : (∀ b i, b < n → (w.alloc o).cell? ⟨b, i, none⟩ = w0.cell? ⟨b, i, none⟩) ∧ Since n w0 (w.alloc o) := since_step h ((Below.refl _ _).alloc (Nat.le_refl _) o)
theorem since_start {n : Nat} {w0 : World} (h : n ≤ w0.heap.size) : (∀ b o, b < n → w0.drew.cell? ⟨b, o, none⟩ = w0.cell? ⟨b, o, none⟩) ∧ Since n w0 w0.drew := by
 have h2 : Since n w0 w0.drew := ⟨(Below.refl _ _).drew, h⟩
 exact ⟨h2.cells, h2⟩
theorem since_set {n : Nat} {w0 w : World} (h : (∀ b o, b < n → w.cell? ⟨b, o, none⟩ = w0.cell? ⟨b, o, none⟩) ∧ Since n w0 w) {p : Addr} (hp : n ≤ p.block) (v : Value) : (∀ b i, b < n → (w.setCell p v).cell? ⟨b, i, none⟩ = w0.cell? ⟨b, i, none⟩) ∧ Since n w0 (w.setCell p v) := by
 have h2 : Since n w0 (w.setCell p v) := ⟨h.2.1.setCell hp v, h.2.2⟩
 exact ⟨h2.cells, h2⟩
theorem since_drew {n : Nat} {w0 w : World} (h : (∀ b o, b < n → w.cell? ⟨b, o, none⟩ = w0.cell? ⟨b, o, none⟩) ∧ Since n w0 w) : (∀ b i, b < n → (w.drew).cell? ⟨b, i, none⟩ = w0.cell? ⟨b, i, none⟩) ∧ Since n w0 w.drew := by
 have h2 : Since n w0 w.drew := ⟨h.2.1.drew, h.2.2⟩
 exact ⟨h2.cells, h2⟩
theorem since_refl {n : Nat} {w0 : World} (h : n ≤ w0.heap.size) : (∀ b o, b < n → w0.cell? ⟨b, o, none⟩ = w0.cell? ⟨b, o, none⟩) ∧ Since n w0 w0 := ⟨fun _ _ _ => rfl, Below.refl _ _, h⟩
theorem bytes_since {n N : Nat} {w0 w : World} {A : Option Addr} {bs : List Nat} (h : (∀ b o, b < n → w.cell? ⟨b, o, none⟩ = w0.cell? ⟨b, o, none⟩) ∧ Since n w0 w) (hA : BytesAt w0 N A bs) (hN : N ≤ n) : BytesAt w w.heap.size A bs :=
 (hA.below (h.2.1.mono hN)).more (Nat.le_trans hN (Nat.le_trans h.2.2 h.2.1.size))
def Laid2 (w : World) (A : Option Addr) (cap : Nat) (bs : List Nat) (i : Int) : World :=
 (w.alloc (.cells #[.int .i64 0, .int .i64 0] 47)).alloc (.cells #[.slice A bs.length cap, .int .i64 i, .int .i64 0, .int .i64 0, .int .i64 0] 135)
section
variable (w : World) (A : Option Addr) (cap : Nat) (bs : List Nat) (i : Int)
theorem Laid2.rd : Rd (Laid2 w A cap bs i) (w.heap.size + 1) A cap bs i 0 0 0 := Blk.new_at (by simp)
theorem Laid2.bad : Blk (Laid2 w A cap bs i) w.heap.size 47 #[.int .i64 0, .int .i64 0] := (Blk.new _ _ _).alloc _
theorem Laid2.below : Below w.heap.size w (Laid2 w A cap bs i) := ((Below.refl _ _).alloc (Nat.le_refl _) _).alloc (by simp) _
theorem Laid2.size : (Laid2 w A cap bs i).heap.size = w.heap.size + 1 + 1 := by simp [Laid2]
end
theorem esc_no (A : Option Addr) (cap : Nat) (bs : List Nat) (i : Int) (w : World) (hA : BytesAt w w.heap.size A bs) (h : hasAt bs i 92 = false) : Calls Tryd.prog 84 #[.slice A bs.length cap, .int .i64 i] w fun e w' => e = .returned (escVal bs i) ∧ Below w.heap.size w w' := by
 rw [escVal_no h]
 have HA := Lib.hid (hA.below (Laid2.below w A cap bs i))
 obtain ⟨b0, b1, x0, x1⟩ := (Laid2.bad w A cap bs i).c2
 have Hb := Lib.hid (Laid2.bad w A cap bs i)
 clear hA
 go_enter Tryd.func84, Tryd.ntmps84
 go_wp2_with fail
 refine (here_go (w.heap.size + 1) A cap bs _ _ _ _ 92 w.heap.size _ (Laid2.rd w A cap bs _) HA.out (by omega) (by omega)).mono ?_
 rintro e w1 ⟨rfl, n1, rfl⟩
 go_wp2
 go_light
 refine bodyPost_ret (ret_esc Tryd.results84 rfl rfl rfl (Hb.out.drewN n1).set2) rfl ⟨rfl, ?_⟩
 exact below_set2 (below_drewN (Laid2.below w A cap bs i) n1) (Nat.le_refl _) _ _
theorem esc_yes (A : Option Addr) (cap : Nat) (bs : List Nat) (i : Nat) (w : World) (hA : BytesAt w w.heap.size A bs) (h : hasAt bs (i : Int) 92 = true) (hi : i < bs.length) : Calls Tryd.prog 84 #[.slice A bs.length cap, .int .i64 (i : Int)] w fun e w' => e = .returned (escVal bs (i : Int)) ∧ Below w.heap.size w w' := by
 have HA := Lib.hid (hA.below (Laid2.below w A cap bs i))
 obtain ⟨b0, b1, x0, x1⟩ := (Laid2.bad w A cap bs i).c2
 have Hb := Lib.hid (Laid2.bad w A cap bs i)
 clear hA
 cases he : escS bs i with
 | none =>
  have HV := Lib.hid (escVal_none h he)
  have He := Lib.hid he
  clear he
  rw [HV.out]
  go_enter Tryd.func84, Tryd.ntmps84
  go_wp2_with fail
  refine (here_go (w.heap.size + 1) A cap bs _ _ _ _ 92 w.heap.size _ (Laid2.rd w A cap bs _) HA.out (by omega) (by omega)).mono ?_
  rintro e w1 ⟨rfl, n1, rfl⟩
  go_wp2_with (go_at_call 96; refine (escape_go (w.heap.size + 1) A cap bs i _ w.heap.size _ ((Laid2.rd w A cap bs _).drewN n1) (HA.out.drewN n1) (by omega) hi).mono ?_; rintro e w2 hp; unfold EscPost at hp; rw [He.out] at hp; obtain ⟨hg2, c', j', hc', rfl, hr2⟩ := hp; obtain ⟨c0, c1, c2, c3, c4, e1, e3, e4⟩ := hr2.cells; have hb2 := (Hb.out.drewN n1).grown hg2 (by simp); obtain ⟨r0, r1, r2, r3⟩ := hb2.c2; have Hb2 := Lib.hid hb2; have Hg2 := Lib.hid hg2; clear hb2 hg2 hr2)
  go_region
  all_goals go_wp2
  all_goals go_light
  refine bodyPost_ret (ret_esc Tryd.results84 rfl rfl rfl Hb2.out.set2.drew) rfl ⟨rfl, ?_⟩
  exact (below_set2 (below_only (below_drewN (Laid2.below w A cap bs i) n1) Hg2.out (by omega) (by simp [Laid2.size]; omega)) (Nat.le_refl _) _ _).drew
 | some x =>
  obtain ⟨c', j'⟩ := x
  have HV := Lib.hid (escVal_some h he)
  have He := Lib.hid he
  clear he
  rw [HV.out]
  go_enter Tryd.func84, Tryd.ntmps84
  go_wp2_with fail
  refine (here_go (w.heap.size + 1) A cap bs _ _ _ _ 92 w.heap.size _ (Laid2.rd w A cap bs _) HA.out (by omega) (by omega)).mono ?_
  rintro e w1 ⟨rfl, n1, rfl⟩
  go_wp2_with (go_at_call 96; refine (escape_go (w.heap.size + 1) A cap bs i _ w.heap.size _ ((Laid2.rd w A cap bs _).drewN n1) (HA.out.drewN n1) (by omega) hi).mono ?_; rintro e w2 hp; unfold EscPost at hp; rw [He.out] at hp; obtain ⟨hg2, rfl, hr2⟩ := hp; obtain ⟨c0, c1, c2, c3, c4, e1, e3, e4⟩ := hr2.cells; have hb2 := (Hb.out.drewN n1).grown hg2 (by simp); obtain ⟨r0, r1, r2, r3⟩ := hb2.c2; have Hb2 := Lib.hid hb2; have Hg2 := Lib.hid hg2; clear hb2 hg2 hr2)
  go_region
  all_goals go_wp2
  all_goals go_light
  refine bodyPost_ret (ret_esc Tryd.results84 rfl rfl rfl Hb2.out.set2.drew) rfl ⟨rfl, ?_⟩
  exact (below_set2 (below_only (below_drewN (Laid2.below w A cap bs i) n1) Hg2.out (by omega) (by simp [Laid2.size]; omega)) (Nat.le_refl _) _ _).drew
theorem esc_go (A : Option Addr) (cap : Nat) (bs : List Nat) (i : Int) (w : World) (hA : BytesAt w w.heap.size A bs) : Calls Tryd.prog 84 #[.slice A bs.length cap, .int .i64 i] w fun e w' => e = .returned (escVal bs i) ∧ Below w.heap.size w w' := by
 cases h : hasAt bs i 92 with
 | false => exact esc_no A cap bs i w hA h
 | true =>
  obtain ⟨i, rfl, hlt, _⟩ := hasAt_yes h
  exact esc_yes A cap bs i w hA h hlt
theorem Rd.alloc {w : World} {g : Nat} {A : Option Addr} {cap : Nat} {bs : List Nat} {i start kind place : Int} (h : Rd w g A cap bs i start kind place) (o : Obj) : Rd (w.alloc o) g A cap bs i start kind place := Blk.alloc h o
theorem Rd.below {w w' : World} {B g : Nat} {A : Option Addr} {cap : Nat} {bs : List Nat} {i start kind place : Int} (h : Rd w g A cap bs i start kind place) (hb : Below B w w') (hg : g < B) : Rd w' g A cap bs i start kind place := Blk.below h hb hg
theorem Rd.set4 {w : World} {g g' : Nat} {A : Option Addr} {cap : Nat} {bs : List Nat} {i start kind place : Int} (h : Rd w g A cap bs i start kind place) (hg : g ≠ g') (a b c d : Value) :
  Rd ((((w.setCell ⟨g', 0, none⟩ a).setCell ⟨g', 1, none⟩ b).setCell ⟨g', 2, none⟩ c).setCell ⟨g', 3, none⟩ d) g A cap bs i start kind place :=
 Blk.far (Blk.far (Blk.far (Blk.far h (by dsimp only; omega) _) (by dsimp only; omega) _) (by dsimp only; omega) _) (by dsimp only; omega) _
theorem only_set4 {a w : World} {g g' : Nat} (h : a.grownBy w (some g)) (hg : a.heap.size ≤ g') (x y z u : Value) :
  a.grownBy ((((w.setCell ⟨g', 0, none⟩ x).setCell ⟨g', 1, none⟩ y).setCell ⟨g', 2, none⟩ z).setCell ⟨g', 3, none⟩ u) (some g) :=
 only_set' (only_set' (only_set' (only_set' h hg _ _) hg _ _) hg _ _) hg _ _
def ItemPost (g : Nat) (A : Option Addr) (cap : Nat) (bs : List Nat) (i s : Nat) (w : World) (e : Ending) (w' : World) : Prop :=
 w.grownBy w' (some g) ∧
 match itemS bs s i with
 | .ok (lo, hi, j) => e = .returned (.agg #[.int .u64 (word (between lo hi) 0), .int .u64 (word (between lo hi) 1), .int .u64 (word (between lo hi) 2), .int .u64 (word (between lo hi) 3)]) ∧ Rd w' g A cap bs (j : Int) (s : Int) 0 0
 | .error (k, p) => k ≠ 0 ∧ ∃ (q : Nat → Bool) (j : Nat), e = .returned (.agg #[.int .u64 (word q 0), .int .u64 (word q 1), .int .u64 (word q 2), .int .u64 (word q 3)]) ∧ Rd w' g A cap bs (j : Int) (s : Int) k p
theorem ItemPost.yes {g : Nat} {A : Option Addr} {cap : Nat} {bs : List Nat} {i s : Nat} {w : World} {e : Ending} {w' : World} {lo hi j : Nat} (hg : w.grownBy w' (some g)) (hs : itemS bs s i = .ok (lo, hi, j))
  (he : e = .returned (.agg #[.int .u64 (word (between lo hi) 0), .int .u64 (word (between lo hi) 1), .int .u64 (word (between lo hi) 2), .int .u64 (word (between lo hi) 3)])) (hr : Rd w' g A cap bs (j : Int) (s : Int) 0 0) : ItemPost g A cap bs i s w e w' := by
 unfold ItemPost; rw [hs]; exact ⟨hg, he, hr⟩
theorem ItemPost.no {g : Nat} {A : Option Addr} {cap : Nat} {bs : List Nat} {i s : Nat} {w : World} {e : Ending} {w' : World} {k p : Int} (q : Nat → Bool) (j : Nat) (hg : w.grownBy w' (some g)) (hs : itemS bs s i = .error (k, p)) (hk : k ≠ 0)
  (he : e = .returned (.agg #[.int .u64 (word q 0), .int .u64 (word q 1), .int .u64 (word q 2), .int .u64 (word q 3)])) (hr : Rd w' g A cap bs (j : Int) (s : Int) k p) : ItemPost g A cap bs i s w e w' := by
 unfold ItemPost; rw [hs]; exact ⟨hg, hk, q, j, he, hr⟩
theorem item_bad1 (g : Nat) (A : Option Addr) (cap : Nat) (bs : List Nat) (i s : Nat) (B : Nat) (w : World) (hr : Rd w g A cap bs (i : Int) (s : Int) 0 0) (hA : BytesAt w B A bs) (hB : B ≤ g) (hi : i ≤ bs.length) (k p : Int) (he : charS bs s i = .error (k, p)) : Calls Tryd.prog 98 #[.pointer (some ⟨g, 0, none⟩)] w (ItemPost g A cap bs i s w) := by
 have hlt := hr.lt
 have hne : w.heap.size ≠ g := by omega
 obtain ⟨c0, c1, c2, c3, c4, f1, f3, f4⟩ := hr.cells
 have Hr := Lib.hid (hr.alloc (.cells #[.int .u64 0, .int .u64 0, .int .u64 0, .int .u64 0] 25))
 have HA : Hid (BytesAt (w.alloc (.cells #[.int .u64 0, .int .u64 0, .int .u64 0, .int .u64 0] 25)) B A bs) := hA.below ((Below.refl B w).alloc (by omega) _)
 have Hz : Hid (Blk (w.alloc (.cells #[.int .u64 0, .int .u64 0, .int .u64 0, .int .u64 0] 25)) w.heap.size 25 #[.int .u64 0, .int .u64 0, .int .u64 0, .int .u64 0]) := Blk.new _ _ _
 have Hg0 : Hid (w.grownBy (w.alloc (.cells #[.int .u64 0, .int .u64 0, .int .u64 0, .int .u64 0] 25)) (some g)) := only_alloc (only_refl _ _) _
 have Hl := Lib.hid hA.2.1
 have hl := hA.2.1
 clear hr hA
 have He := Lib.hid he
 have Hi : Hid (itemS bs s i = .error (k, p)) := by show itemS bs s i = _; unfold itemS; rw [he]
 clear he
 go_enter Tryd.func98, Tryd.ntmps98
 go_wp2_with fail
 with_reducible refine (char_go g A cap bs i s B _ Hr.out HA.out hB hi).mono ?_
 rintro e w1 hp
 unfold CharPost at hp
 rw [He.out] at hp
 obtain ⟨hg1, hk, c, j, hc, rfl, hr1⟩ := hp
 have hkb : (k == 0) = false := by simpa using hk
 obtain ⟨d0, d1, d2, d3, d4, e1, e3, e4⟩ := hr1.cells
 have Hr1 := Lib.hid hr1
 have Hg1 := Lib.hid hg1
 have hlt1 := hr1.lt
 have hsz : w.heap.size < w1.heap.size := by have := hg1.size; simp at this; omega
 clear hr1 hg1
 go_wp2_with (go_at_call 110; refine (span_any _ _ _ (by omega) (by omega)).mono ?_; rintro e w2 ⟨rfl, hb2⟩; obtain ⟨z0, z1, z2, z3, y0, y1, y2, y3⟩ := ((Hz.out.grown Hg1.out (by simpa using hne)).below hb2 hsz).c4)
 go_light
 refine bodyPost_ret (ret_set Tryd.results98 rfl ((Hz.out.grown Hg1.out (by simpa using hne)).below hb2 hsz).set4) rfl ?_
 exact ItemPost.no _ j (only_set4 (only_below (only_trans Hg0.out Hg1.out) hb2) (Nat.le_refl _) _ _ _ _) Hi.out hk rfl ((Hr1.out.below hb2 hlt1).set4 (by omega) _ _ _ _)
theorem item_one (g : Nat) (A : Option Addr) (cap : Nat) (bs : List Nat) (i s : Nat) (B : Nat) (w : World) (hr : Rd w g A cap bs (i : Int) (s : Int) 0 0) (hA : BytesAt w B A bs) (hB : B ≤ g) (hi : i ≤ bs.length) (lo j : Nat) (he : charS bs s i = .ok (lo, j)) (hlo : lo < 256) (hh : hasAt bs (j : Int) 45 = false) : Calls Tryd.prog 98 #[.pointer (some ⟨g, 0, none⟩)] w (ItemPost g A cap bs i s w) := by
 have hlt := hr.lt
 have hne : w.heap.size ≠ g := by omega
 obtain ⟨c0, c1, c2, c3, c4, f1, f3, f4⟩ := hr.cells
 have Hr := Lib.hid (hr.alloc (.cells #[.int .u64 0, .int .u64 0, .int .u64 0, .int .u64 0] 25))
 have HA : Hid (BytesAt (w.alloc (.cells #[.int .u64 0, .int .u64 0, .int .u64 0, .int .u64 0] 25)) B A bs) := hA.below ((Below.refl B w).alloc (by omega) _)
 have Hz : Hid (Blk (w.alloc (.cells #[.int .u64 0, .int .u64 0, .int .u64 0, .int .u64 0] 25)) w.heap.size 25 #[.int .u64 0, .int .u64 0, .int .u64 0, .int .u64 0]) := Blk.new _ _ _
 have Hg0 : Hid (w.grownBy (w.alloc (.cells #[.int .u64 0, .int .u64 0, .int .u64 0, .int .u64 0] 25)) (some g)) := only_alloc (only_refl _ _) _
 have Hl := Lib.hid hA.2.1
 have hl := hA.2.1
 clear hr hA
 have He := Lib.hid he
 have Hh := Lib.hid hh
 have Hi : Hid (itemS bs s i = .ok (lo, lo, j)) := by show itemS bs s i = _; unfold itemS; rw [he]; dsimp only; rw [hh]; rfl
 clear he hh
 go_enter Tryd.func98, Tryd.ntmps98
 go_wp2_with fail
 with_reducible refine (char_go g A cap bs i s B _ Hr.out HA.out hB hi).mono ?_
 rintro e w1 hp
 unfold CharPost at hp
 rw [He.out] at hp
 obtain ⟨hg1, rfl, hr1⟩ := hp
 obtain ⟨d0, d1, d2, d3, d4, e1, e3, e4⟩ := hr1.cells
 have Hr1 := Lib.hid hr1
 have Hg1 := Lib.hid hg1
 have HA1 := Lib.hid (HA.out.only hg1 hB Hr.out.lt)
 have Hz1 : Hid (Blk w1 w.heap.size 25 #[.int .u64 0, .int .u64 0, .int .u64 0, .int .u64 0]) := Hz.out.grown hg1 (by simpa using hne)
 have hlt1 := hr1.lt
 have hsz : w.heap.size < w1.heap.size := by have := hg1.size; simp at this; omega
 clear hr1 hg1
 go_wp2_with (first
  | (go_at_call 97; refine (take_no g A cap bs _ _ _ _ 45 B _ Hr1.out HA1.out (by omega) (by omega) Hh.out).mono ?_; rintro e w2 ⟨rfl, hr2, hg2⟩; have hlt2 := hr2.lt; have Hr2 := Lib.hid hr2; have Hg2 := Lib.hid hg2; clear hr2 hg2; have hsz2 : w.heap.size < w2.heap.size := Nat.lt_of_lt_of_le hsz Hg2.out.size; have Hz2 := Lib.hid (Hz1.out.grown Hg2.out (by simpa using hne)))
  | (go_at_call 110; refine (span_any _ _ _ (by omega) (by omega)).mono ?_; rintro e w3 ⟨rfl, hb3⟩; obtain ⟨z0, z1, z2, z3, y0, y1, y2, y3⟩ := (Hz2.out.below hb3 hsz2).c4))
 go_light
 refine bodyPost_ret (ret_set Tryd.results98 rfl (Hz2.out.below hb3 hsz2).set4) rfl ?_
 exact ItemPost.yes (only_set4 (only_below (only_trans (only_trans Hg0.out Hg1.out) Hg2.out) hb3) (Nat.le_refl _) _ _ _ _) Hi.out rfl ((Hr2.out.below hb3 hlt2).set4 (by omega) _ _ _ _)
theorem item_bad2 (g : Nat) (A : Option Addr) (cap : Nat) (bs : List Nat) (i s : Nat) (B : Nat) (w : World) (hr : Rd w g A cap bs (i : Int) (s : Int) 0 0) (hA : BytesAt w B A bs) (hB : B ≤ g) (hi : i ≤ bs.length) (lo j : Nat) (he : charS bs s i = .ok (lo, j)) (hlo : lo < 256) (hh : hasAt bs (j : Int) 45 = true) (hj : j < bs.length) (k p : Int) (hf : charS bs s (j + 1) = .error (k, p)) : Calls Tryd.prog 98 #[.pointer (some ⟨g, 0, none⟩)] w (ItemPost g A cap bs i s w) := by
 have hlt := hr.lt
 have hne : w.heap.size ≠ g := by omega
 obtain ⟨c0, c1, c2, c3, c4, f1, f3, f4⟩ := hr.cells
 have Hr := Lib.hid (hr.alloc (.cells #[.int .u64 0, .int .u64 0, .int .u64 0, .int .u64 0] 25))
 have HA : Hid (BytesAt (w.alloc (.cells #[.int .u64 0, .int .u64 0, .int .u64 0, .int .u64 0] 25)) B A bs) := hA.below ((Below.refl B w).alloc (by omega) _)
 have Hz : Hid (Blk (w.alloc (.cells #[.int .u64 0, .int .u64 0, .int .u64 0, .int .u64 0] 25)) w.heap.size 25 #[.int .u64 0, .int .u64 0, .int .u64 0, .int .u64 0]) := Blk.new _ _ _
 have Hg0 : Hid (w.grownBy (w.alloc (.cells #[.int .u64 0, .int .u64 0, .int .u64 0, .int .u64 0] 25)) (some g)) := only_alloc (only_refl _ _) _
 have Hl := Lib.hid hA.2.1
 have hl := hA.2.1
 clear hr hA
 have He := Lib.hid he
 have Hh := Lib.hid hh
 have Hf := Lib.hid hf
 have Hi : Hid (itemS bs s i = .error (k, p)) := by show itemS bs s i = _; unfold itemS; rw [he]; dsimp only; rw [hh, hf]; rfl
 clear he hh hf
 go_enter Tryd.func98, Tryd.ntmps98
 go_wp2_with fail
 with_reducible refine (char_go g A cap bs i s B _ Hr.out HA.out hB hi).mono ?_
 rintro e w1 hp
 unfold CharPost at hp
 rw [He.out] at hp
 obtain ⟨hg1, rfl, hr1⟩ := hp
 obtain ⟨d0, d1, d2, d3, d4, e1, e3, e4⟩ := hr1.cells
 have Hr1 := Lib.hid hr1
 have Hg1 := Lib.hid hg1
 have HA1 := Lib.hid (HA.out.only hg1 hB Hr.out.lt)
 have Hz1 : Hid (Blk w1 w.heap.size 25 #[.int .u64 0, .int .u64 0, .int .u64 0, .int .u64 0]) := Hz.out.grown hg1 (by simpa using hne)
 have hlt1 := hr1.lt
 have hsz : w.heap.size < w1.heap.size := by have := hg1.size; simp at this; omega
 clear hr1 hg1
 go_wp2_with fail
 refine (take_yes g A cap bs _ _ _ _ 45 B _ Hr1.out HA1.out (by omega) (by omega) Hh.out).mono ?_
 rintro e w2 ⟨rfl, hr2, hg2⟩
 have Hg2 := Lib.hid hg2
 have HA2 := Lib.hid (HA1.out.only hg2 hB hlt1)
 have hlt2 := hr2.lt
 have Hr2 : Hid (Rd w2 g A cap bs ((j + 1 : Nat) : Int) (s : Int) 0 0) := by show Rd _ _ _ _ _ _ _ _ _; rw [show ((j + 1 : Nat) : Int) = (j : Int) + 1 by omega]; exact hr2
 have Hz2 := Lib.hid (Hz1.out.grown hg2 (by simpa using hne))
 clear hr2 hg2
 go_wp2_with fail
 with_reducible refine (char_go g A cap bs (j + 1) s B _ Hr2.out HA2.out hB (by omega)).mono ?_
 rintro e w3 hp
 unfold CharPost at hp
 rw [Hf.out] at hp
 obtain ⟨hg3, hk, c, j', hc, rfl, hr3⟩ := hp
 have hkn : k ≠ 0 := hk
 have Hg3 := Lib.hid hg3
 have Hr3 := Lib.hid hr3
 have hlt3 := hr3.lt
 have Hz3 := Lib.hid (Hz2.out.grown hg3 (by simpa using hne))
 have hsz3 := Hz3.out.lt
 clear hr3 hg3
 by_cases hcl : c < lo
 ·go_wp2_with (first
   | (go_at_call 106; refine (fail1_go g A cap bs _ _ _ _ _ _ _ Hr3.out hkn).mono ?_; rintro e w4 ⟨rfl, hr4, hg4⟩; have Hr4 := Lib.hid hr4; have Hg4 := Lib.hid hg4; have hlt4 := hr4.lt; have Hz4 := Lib.hid (Hz3.out.grown hg4 (by simpa using hne)); have hsz4 := Hz4.out.lt; clear hr4 hg4)
   | (go_at_call 110; refine (span_any _ _ _ (by omega) (by omega)).mono ?_; rintro e w5 ⟨rfl, hb5⟩; obtain ⟨z0, z1, z2, z3, y0, y1, y2, y3⟩ := (Hz4.out.below hb5 hsz4).c4))
  go_light
  refine bodyPost_ret (ret_set Tryd.results98 rfl (Hz4.out.below hb5 hsz4).set4) rfl ?_
  exact ItemPost.no _ j' (only_set4 (only_below (only_trans (only_trans (only_trans (only_trans Hg0.out Hg1.out) Hg2.out) Hg3.out) Hg4.out) hb5) (Nat.le_refl _) _ _ _ _) Hi.out hkn rfl ((Hr4.out.below hb5 hlt4).set4 (by omega) _ _ _ _)
 ·go_wp2_with (go_at_call 110; refine (span_any _ _ _ (by omega) (by omega)).mono ?_; rintro e w5 ⟨rfl, hb5⟩; obtain ⟨z0, z1, z2, z3, y0, y1, y2, y3⟩ := (Hz3.out.below hb5 hsz3).c4)
  go_light
  refine bodyPost_ret (ret_set Tryd.results98 rfl (Hz3.out.below hb5 hsz3).set4) rfl ?_
  exact ItemPost.no _ j' (only_set4 (only_below (only_trans (only_trans (only_trans Hg0.out Hg1.out) Hg2.out) Hg3.out) hb5) (Nat.le_refl _) _ _ _ _) Hi.out hkn rfl ((Hr3.out.below hb5 hlt3).set4 (by omega) _ _ _ _)
theorem item_two (g : Nat) (A : Option Addr) (cap : Nat) (bs : List Nat) (i s : Nat) (B : Nat) (w : World) (hr : Rd w g A cap bs (i : Int) (s : Int) 0 0) (hA : BytesAt w B A bs) (hB : B ≤ g) (hi : i ≤ bs.length) (lo j : Nat) (he : charS bs s i = .ok (lo, j)) (hlo : lo < 256) (hh : hasAt bs (j : Int) 45 = true) (hj : j < bs.length) (hi' j' : Nat) (hf : charS bs s (j + 1) = .ok (hi', j')) (hhi : hi' < 256) : Calls Tryd.prog 98 #[.pointer (some ⟨g, 0, none⟩)] w (ItemPost g A cap bs i s w) := by
 have hlt := hr.lt
 have hne : w.heap.size ≠ g := by omega
 obtain ⟨c0, c1, c2, c3, c4, f1, f3, f4⟩ := hr.cells
 have Hr := Lib.hid (hr.alloc (.cells #[.int .u64 0, .int .u64 0, .int .u64 0, .int .u64 0] 25))
 have HA : Hid (BytesAt (w.alloc (.cells #[.int .u64 0, .int .u64 0, .int .u64 0, .int .u64 0] 25)) B A bs) := hA.below ((Below.refl B w).alloc (by omega) _)
 have Hz : Hid (Blk (w.alloc (.cells #[.int .u64 0, .int .u64 0, .int .u64 0, .int .u64 0] 25)) w.heap.size 25 #[.int .u64 0, .int .u64 0, .int .u64 0, .int .u64 0]) := Blk.new _ _ _
 have Hg0 : Hid (w.grownBy (w.alloc (.cells #[.int .u64 0, .int .u64 0, .int .u64 0, .int .u64 0] 25)) (some g)) := only_alloc (only_refl _ _) _
 have Hl := Lib.hid hA.2.1
 have hl := hA.2.1
 clear hr hA
 have He := Lib.hid he
 have Hh := Lib.hid hh
 have Hf := Lib.hid hf
 have Hi : Hid (itemS bs s i = if hi' < lo then .error (15, (i : Int)) else .ok (lo, hi', j')) := by show itemS bs s i = _; unfold itemS; rw [he]; dsimp only; rw [hh, hf]; rfl
 clear he hh hf
 go_enter Tryd.func98, Tryd.ntmps98
 go_wp2_with fail
 with_reducible refine (char_go g A cap bs i s B _ Hr.out HA.out hB hi).mono ?_
 rintro e w1 hp
 unfold CharPost at hp
 rw [He.out] at hp
 obtain ⟨hg1, rfl, hr1⟩ := hp
 obtain ⟨d0, d1, d2, d3, d4, e1, e3, e4⟩ := hr1.cells
 have Hr1 := Lib.hid hr1
 have Hg1 := Lib.hid hg1
 have HA1 := Lib.hid (HA.out.only hg1 hB Hr.out.lt)
 have Hz1 : Hid (Blk w1 w.heap.size 25 #[.int .u64 0, .int .u64 0, .int .u64 0, .int .u64 0]) := Hz.out.grown hg1 (by simpa using hne)
 have hlt1 := hr1.lt
 have hsz : w.heap.size < w1.heap.size := by have := hg1.size; simp at this; omega
 clear hr1 hg1
 go_wp2_with fail
 refine (take_yes g A cap bs _ _ _ _ 45 B _ Hr1.out HA1.out (by omega) (by omega) Hh.out).mono ?_
 rintro e w2 ⟨rfl, hr2, hg2⟩
 have Hg2 := Lib.hid hg2
 have HA2 := Lib.hid (HA1.out.only hg2 hB hlt1)
 have hlt2 := hr2.lt
 have Hr2 : Hid (Rd w2 g A cap bs ((j + 1 : Nat) : Int) (s : Int) 0 0) := by show Rd _ _ _ _ _ _ _ _ _; rw [show ((j + 1 : Nat) : Int) = (j : Int) + 1 by omega]; exact hr2
 have Hz2 := Lib.hid (Hz1.out.grown hg2 (by simpa using hne))
 clear hr2 hg2
 go_wp2_with fail
 with_reducible refine (char_go g A cap bs (j + 1) s B _ Hr2.out HA2.out hB (by omega)).mono ?_
 rintro e w3 hp
 unfold CharPost at hp
 rw [Hf.out] at hp
 obtain ⟨hg3, rfl, hr3⟩ := hp
 have Hg3 := Lib.hid hg3
 have Hr3 := Lib.hid hr3
 have hlt3 := hr3.lt
 have Hz3 := Lib.hid (Hz2.out.grown hg3 (by simpa using hne))
 have hsz3 := Hz3.out.lt
 clear hr3 hg3
 by_cases hcl : hi' < lo
 ·go_wp2_with (first
   | (go_at_call 106; refine (fail0_go g A cap bs _ _ _ _ _ _ Hr3.out).mono ?_; rintro e w4 ⟨rfl, hr4, hg4⟩; have Hr4 := Lib.hid hr4; have Hg4 := Lib.hid hg4; have hlt4 := hr4.lt; have Hz4 := Lib.hid (Hz3.out.grown hg4 (by simpa using hne)); have hsz4 := Hz4.out.lt; clear hr4 hg4)
   | (go_at_call 110; refine (span_any _ _ _ (by omega) (by omega)).mono ?_; rintro e w5 ⟨rfl, hb5⟩; obtain ⟨z0, z1, z2, z3, y0, y1, y2, y3⟩ := (Hz4.out.below hb5 hsz4).c4))
  go_light
  refine bodyPost_ret (ret_set Tryd.results98 rfl (Hz4.out.below hb5 hsz4).set4) rfl ?_
  exact ItemPost.no _ j' (only_set4 (only_below (only_trans (only_trans (only_trans (only_trans Hg0.out Hg1.out) Hg2.out) Hg3.out) Hg4.out) hb5) (Nat.le_refl _) _ _ _ _) (by rw [Hi.out, if_pos hcl]) (by decide) rfl ((Hr4.out.below hb5 hlt4).set4 (by omega) _ _ _ _)
 ·go_wp2_with (go_at_call 110; refine (span_any _ _ _ (by omega) (by omega)).mono ?_; rintro e w5 ⟨rfl, hb5⟩; obtain ⟨z0, z1, z2, z3, y0, y1, y2, y3⟩ := (Hz3.out.below hb5 hsz3).c4)
  go_light
  refine bodyPost_ret (ret_set Tryd.results98 rfl (Hz3.out.below hb5 hsz3).set4) rfl ?_
  exact ItemPost.yes (only_set4 (only_below (only_trans (only_trans (only_trans Hg0.out Hg1.out) Hg2.out) Hg3.out) hb5) (Nat.le_refl _) _ _ _ _) (by rw [Hi.out, if_neg hcl]) rfl ((Hr3.out.below hb5 hlt3).set4 (by omega) _ _ _ _)
theorem item_go (g : Nat) (A : Option Addr) (cap : Nat) (bs : List Nat) (i s : Nat) (B : Nat) (w : World) (hr : Rd w g A cap bs (i : Int) (s : Int) 0 0) (hA : BytesAt w B A bs) (hB : B ≤ g) (hi : i ≤ bs.length) : Calls Tryd.prog 98 #[.pointer (some ⟨g, 0, none⟩)] w (ItemPost g A cap bs i s w) := by
 cases he : charS bs s i with
 | error x => obtain ⟨k, p⟩ := x; exact item_bad1 g A cap bs i s B w hr hA hB hi k p he
 | ok x =>
  obtain ⟨lo, j⟩ := x
  obtain ⟨a1, a2, a3⟩ := charS_ok hA.1 he
  cases hh : hasAt bs (j : Int) 45 with
  | false => exact item_one g A cap bs i s B w hr hA hB hi lo j he a3 hh
  | true =>
   obtain ⟨j', e', hj, _⟩ := hasAt_yes hh
   obtain rfl : j = j' := by omega
   cases hf : charS bs s (j + 1) with
   | error y => obtain ⟨k, p⟩ := y; exact item_bad2 g A cap bs i s B w hr hA hB hi lo j he a3 hh hj k p hf
   | ok y =>
    obtain ⟨hi', j'⟩ := y
    exact item_two g A cap bs i s B w hr hA hB hi lo j he a3 hh hj hi' j' hf (charS_ok hA.1 hf).2.2
section
variable {w wr w2 w' : World} {acc : List Nd} {u : Value}
end
end Go.Proofs.YtfcblmbieiibmaaDoor
namespace Go.Proofs.YtfcblmbieiibmaaDoor
open Go.ChangeShapes Go.WideShapes Go.ChangeAt Go.RowKit
set_option linter.unusedSimpArgs false
set_option linter.unusedVariables false
set_option maxRecDepth 100000
set_option maxHeartbeats 8000000
theorem own_knob : ownKnob Tryd.prog.godebug = none := by kernel_rfl
theorem laid_out : laidOutB Tryd.prog = true := by kernel_rfl
theorem cellsByte : Tryd.prog.cellsOf 5 = 1 := by kernel_rfl
theorem bytesByte : Tryd.prog.bytesOf 5 = 1 := by kernel_rfl
theorem addr_add (b o j : Nat) : (⟨b, o, none⟩ : Addr).add j = ⟨b, o + j, none⟩ := by unfold Addr.add; split <;> simp_all
theorem u8_of_wf {n : Int} (h : (Lit.int .u8 n).wf = true) : 0 ≤ n ∧ n < 256 := by
 have hh : (decide (IntKind.min .u8 ≤ n) && decide (n ≤ IntKind.max .u8)) = true := h
 simp only [Bool.and_eq_true, decide_eq_true_eq] at hh
 obtain ⟨h1, h2⟩ := hh
 have e1 : IntKind.min .u8 = 0 := by decide
 have e2 : IntKind.max .u8 = 255 := by decide
 rw [e1] at h1
 rw [e2] at h2
 omega
theorem bytes_came {H : Type} {enc : TypeId × Value → H} {W : World} {A : Option Addr} {len cap : Nat} {d : DataW H} {p : List MemPlace} {ts : List TypeId} {ds : List (DataW H)} {j : Nat}
  (h : DataW.Trod enc Tryd.prog W 0 (fun _ => true) true 29 (.slice A len cap) d p)
  (hsz : (DataW.weightsEach Tryd.prog ts ds).all (· ≤ reachBytes) = true) (ht : ts[j]? = some 29) (hd : ds[j]? = some d) :
  ∃ bs : List Nat, bs.length = len ∧ BytesAt W W.heap.size A bs ∧ len ≤ cap := by
 obtain ⟨fuel, hf⟩ := h
 rcases open_ints Tryd.underlying29 Tryd.underlying5 cellsByte hf with ⟨hcs, _⟩ | ⟨x, l, c, zs, hcs, _, hl, hm, hz, hx, hcell, hwz⟩
 ·simp [Value.cells] at hcs
  obtain ⟨rfl, rfl, rfl⟩ := hcs
  exact ⟨[], rfl, ⟨by simp, by simp, by simp⟩, Nat.le_refl _⟩
 ·simp [Value.cells] at hcs
  obtain ⟨rfl, rfl, rfl⟩ := hcs
  simp only [if_true] at hz
  have hdx : d = .slice (lits .u8 (zs.take len)) (lits .u8 (zs.drop len)) := (Prod.mk.inj hx).1
  subst hdx
  have hs := sized_slice hsz ht hd Tryd.underlying29
  rw [bytesByte] at hs
  simp [lits] at hs
  have hr : reachBytes = 140737488351232 := by decide
  rw [hr] at hs
  have hlen : len ≤ 140737488351232 := by omega
  refine ⟨(zs.take len).map Int.toNat, by simp; omega, ⟨?_, by simp; omega, ?_⟩, hl⟩
  ·intro y hy
   obtain ⟨z, hz1, rfl⟩ := List.mem_map.1 hy
   have hw := hwz z (List.mem_of_mem_take hz1)
   have := u8_of_wf hw
   omega
  ·intro hpos
   have hpos' : 0 < len := by simp at hpos; omega
   obtain ⟨b, off, spot⟩ := x
   have h0 := hcell 0 (by omega)
   have hspot : spot = none := by simpa [Addr.add] using World.cell?_spot h0
   subst hspot
   refine ⟨b, off, rfl, by have := World.block_lt_of_cell? W _ h0; simpa [Addr.add] using this, ?_⟩
   intro i hi
   have hi' : i < len := by simp at hi; omega
   have hci := hcell i (by omega)
   rw [addr_add] at hci
   rw [hci]
   have hzi : i < zs.length := by omega
   have hw := hwz zs[i] (List.getElem_mem hzi)
   have h0' : 0 ≤ zs[i] := (u8_of_wf hw).1
   congr 2
   unfold byteAt
   simp [List.getD_eq_getElem?_getD, hi', hzi]
   omega
theorem u64_of_wf {n : Int} (h : (Lit.int .u64 n).wf = true) : 0 ≤ n ∧ n < 18446744073709551616 := by
 have hh : (decide (IntKind.min .u64 ≤ n) && decide (n ≤ IntKind.max .u64)) = true := h
 simp only [Bool.and_eq_true, decide_eq_true_eq] at hh
 obtain ⟨h1, h2⟩ := hh
 have e1 : IntKind.min .u64 = 0 := by decide
 have e2 : IntKind.max .u64 = 18446744073709551615 := by decide
 rw [e1] at h1
 rw [e2] at h2
 omega
theorem cellsWord : Tryd.prog.cellsOf 23 = 1 := by kernel_rfl
theorem cellsSet : Tryd.prog.cellsOf 25 = 4 := by kernel_rfl
theorem cellsInt : Tryd.prog.cellsOf 3 = 1 := by kernel_rfl
section
variable {H : Type} {enc : TypeId × Value → H} {W : World} {fuel : Nat} {cs : List Value} {y : DataW H × List MemPlace}
end
theorem cellsNode : Tryd.prog.cellsOf 28 = 8 := by kernel_rfl
theorem cellsNodes : Tryd.prog.cellsOf 26 = 1 := by kernel_rfl
theorem cellsTKind : Tryd.prog.cellsOf 22 = 1 := by kernel_rfl
theorem set_words {n0 n1 n2 n3 : Nat} (h0 : n0 < 18446744073709551616) (h1 : n1 < 18446744073709551616) (h2 : n2 < 18446744073709551616) (h3 : n3 < 18446744073709551616) :
  ∃ s : Nat, word s.testBit 0 = n0 ∧ word s.testBit 1 = n1 ∧ word s.testBit 2 = n2 ∧ word s.testBit 3 = n3 := by
 obtain ⟨k0, k1, k2, k3⟩ := word_bitsOf h0 h1 h2 h3
 have h : ∀ i, i < 4 → word (ofBits (bitsOf n0 n1 n2 n3) 256).testBit i = word (bitsOf n0 n1 n2 n3) i := fun i hi => word_congr (fun j hj => by rw [testBit_ofBits]; simp; omega)
 exact ⟨ofBits (bitsOf n0 n1 n2 n3) 256, by rw [h 0 (by decide), k0], by rw [h 1 (by decide), k1], by rw [h 2 (by decide), k2], by rw [h 3 (by decide), k3]⟩
theorem bulkAll_mem {H : Type} : ∀ {ds : List (DataW H)} {d : DataW H}, d ∈ ds → Rows.uptoBulk d ≤ Rows.uptoBulkAll ds
 | e :: r, d, h => by
  rcases List.mem_cons.1 h with rfl | h
  ·simp [Rows.uptoBulkAll]
  ·have := bulkAll_mem h
   simp [Rows.uptoBulkAll]
   omega
section
variable {H : Type} {enc : TypeId × Value → H} {W : World}
def CameF (enc : TypeId × Value → H) (W : World) (fuel : Nat) : Prop := ∀ (A : Option Addr) (len cap : Nat) (y : DataW H × List MemPlace),
 DataW.trod enc Tryd.prog W 0 (fun _ => true) true fuel 26 [.slice A len cap] = some y → ∃ F : Trees, F.len = len ∧ TreesAt W (fun b => b < W.heap.size) F A ∧ len ≤ cap ∧ F.size ≤ Rows.uptoBulk y.1
theorem node_came {fuel : Nat} {cs : List Value} {y : DataW H × List MemPlace} (ih : ∀ n, n < fuel → CameF enc W n) (h : DataW.trod enc Tryd.prog W 0 (fun _ => true) true fuel 28 cs = some y) :
  ∃ (x : Nd) (B : Option Addr) (cap : Nat), cs = ndCell x B cap ∧ x.kids.len ≤ cap ∧ TreesAt W (fun b => b < W.heap.size) x.kids B ∧ x.size ≤ Rows.uptoBulk y.1 := by
 obtain ⟨xs, n, hfn, hy, hl, hxl, hf⟩ := DataW.trod_struct Tryd.underlying28 h
 rw [cellsNode] at hl
 obtain ⟨v0, v1, v2, v3, v4, v5, v6, v7, rfl⟩ : ∃ v0 v1 v2 v3 v4 v5 v6 v7, cs = [v0, v1, v2, v3, v4, v5, v6, v7] := by
  match cs, hl with
  | [a, b, c, d, e, f, g, h], _ => exact ⟨a, b, c, d, e, f, g, h, rfl⟩
 have g0 : DataW.trod enc Tryd.prog W 0 (fun _ => true) true n 22 (([v0, v1, v2, v3, v4, v5, v6, v7].drop 0).take (Tryd.prog.cellsOf 22)) = xs[0]? := hf 0 _ rfl
 have g1 : DataW.trod enc Tryd.prog W 0 (fun _ => true) true n 25 (([v0, v1, v2, v3, v4, v5, v6, v7].drop 1).take (Tryd.prog.cellsOf 25)) = xs[1]? := hf 1 _ rfl
 have g2 : DataW.trod enc Tryd.prog W 0 (fun _ => true) true n 26 (([v0, v1, v2, v3, v4, v5, v6, v7].drop 5).take (Tryd.prog.cellsOf 26)) = xs[2]? := hf 2 _ rfl
 have g3 : DataW.trod enc Tryd.prog W 0 (fun _ => true) true n 3 (([v0, v1, v2, v3, v4, v5, v6, v7].drop 6).take (Tryd.prog.cellsOf 3)) = xs[3]? := hf 3 _ rfl
 have g4 : DataW.trod enc Tryd.prog W 0 (fun _ => true) true n 3 (([v0, v1, v2, v3, v4, v5, v6, v7].drop 7).take (Tryd.prog.cellsOf 3)) = xs[4]? := hf 4 _ rfl
 have hs : ∀ i, i < 5 → ∃ z, xs[i]? = some z := fun i hi => ⟨_, List.getElem?_eq_getElem (by rw [hxl]; exact hi)⟩
 obtain ⟨z0, e0⟩ := hs 0 (by decide)
 obtain ⟨z1, e1⟩ := hs 1 (by decide)
 obtain ⟨z2, e2⟩ := hs 2 (by decide)
 obtain ⟨z3, e3⟩ := hs 3 (by decide)
 obtain ⟨z4, e4⟩ := hs 4 (by decide)
 rw [e0] at g0
 rw [e1] at g1
 rw [e2] at g2
 rw [e3] at g3
 rw [e4] at g4
 rw [cellsTKind] at g0
 rw [cellsInt] at g3 g4
 rw [cellsNodes] at g2
 rw [cellsSet] at g1
 obtain ⟨a0, q0, _, _⟩ := DataW.trod_int Tryd.underlying22 g0
 obtain ⟨a3, q3, _, _⟩ := DataW.trod_int Tryd.underlying3 g3
 obtain ⟨a4, q4, _, _⟩ := DataW.trod_int Tryd.underlying3 g4
 obtain ⟨us, m, _, _, _, hul, hu⟩ := DataW.trod_array Tryd.underlying25 g1
 have ht : ∀ i, i < 4 → ∃ z, us[i]? = some z := fun i hi => ⟨_, List.getElem?_eq_getElem (by rw [hul]; exact hi)⟩
 have u0 := hu 0 (by decide)
 have u1 := hu 1 (by decide)
 have u2 := hu 2 (by decide)
 have u3 := hu 3 (by decide)
 obtain ⟨t0, f0⟩ := ht 0 (by decide)
 obtain ⟨t1, f1⟩ := ht 1 (by decide)
 obtain ⟨t2, f2⟩ := ht 2 (by decide)
 obtain ⟨t3, f3⟩ := ht 3 (by decide)
 rw [f0, cellsWord] at u0
 rw [f1, cellsWord] at u1
 rw [f2, cellsWord] at u2
 rw [f3, cellsWord] at u3
 obtain ⟨b0, r0, _, w0⟩ := DataW.trod_int Tryd.underlying23 u0
 obtain ⟨b1, r1, _, w1⟩ := DataW.trod_int Tryd.underlying23 u1
 obtain ⟨b2, r2, _, w2⟩ := DataW.trod_int Tryd.underlying23 u2
 obtain ⟨b3, r3, _, w3⟩ := DataW.trod_int Tryd.underlying23 u3
 have hv5 : ∃ A len cap, v5 = .slice A len cap := by
  rcases DataW.trod_slice Tryd.underlying26 g2 with ⟨hcs, _⟩ | ⟨a, l, c, _, _, _, _, hcs, _⟩
  ·simp at hcs; exact ⟨_, _, _, hcs⟩
  ·simp at hcs; exact ⟨_, _, _, hcs⟩
 obtain ⟨A, len, cap, rfl⟩ := hv5
 obtain ⟨F, hF1, hF2, hF3, hF4⟩ := ih n (by omega) A len cap z2 (by simpa using g2)
 simp at q0 q3 q4 r0 r1 r2 r3
 subst q0 q3 q4 r0 r1 r2 r3
 obtain ⟨s0, s0'⟩ := u64_of_wf w0
 obtain ⟨s1, s1'⟩ := u64_of_wf w1
 obtain ⟨s2, s2'⟩ := u64_of_wf w2
 obtain ⟨s3, s3'⟩ := u64_of_wf w3
 obtain ⟨n0, rfl⟩ := Int.eq_ofNat_of_zero_le s0
 obtain ⟨n1, rfl⟩ := Int.eq_ofNat_of_zero_le s1
 obtain ⟨n2, rfl⟩ := Int.eq_ofNat_of_zero_le s2
 obtain ⟨n3, rfl⟩ := Int.eq_ofNat_of_zero_le s3
 obtain ⟨s, k0, k1, k2, k3⟩ := set_words (n0 := n0) (n1 := n1) (n2 := n2) (n3 := n3) (by omega) (by omega) (by omega) (by omega)
 have hb : Rows.uptoBulk z2.1 ≤ Rows.uptoBulkAll (xs.map (·.1)) := bulkAll_mem (List.mem_map.2 ⟨z2, List.mem_of_getElem? e2, rfl⟩)
 refine ⟨⟨a0, s, F, a3, a4⟩, A, cap, by unfold ndCell; simp only; rw [k0, k1, k2, k3, hF1], by simpa only [hF1] using hF3, hF2, ?_⟩
 rw [hy]
 unfold Nd.size
 simp only [Rows.uptoBulk]
 omega
theorem bulk_sum {H : Type} : ∀ (es : List (DataW H)) (l : List Nat), es.length = l.length → (∀ (i : Nat) (d : DataW H) (k : Nat), es[i]? = some d → l[i]? = some k → k ≤ Rows.uptoBulk d) → l.sum ≤ Rows.uptoBulkAll es
 | [], [], _, _ => by simp
 | [], _ :: _, h, _ => by simp at h
 | _ :: _, [], h, _ => by simp at h
 | d :: es, k :: l, h, hk => by
  have h1 := bulk_sum es l (by simpa using h) (fun i d k h1 h2 => hk (i + 1) d k (by simpa using h1) (by simpa using h2))
  have h2 := hk 0 d k rfl rfl
  simp only [Rows.uptoBulkAll, List.sum_cons]
  omega
theorem size_sum (l : List Nd) : (Trees.of l).size = (l.map Nd.size).sum := by
 induction l with
 | nil => rfl
 | cons x l ih => rw [Trees.of, Trees.size, ih, List.map_cons, List.sum_cons]; rfl
theorem slice_came (fuel : Nat) (ih : ∀ n, n < fuel → CameF enc W n) : CameF enc W fuel := by
 intro A len cap y h
 rcases DataW.trod_slice Tryd.underlying26 h with ⟨hcs, hd⟩ | ⟨a, l, c, elems, rest, n, hfn, hcs, hd, hb, hlc, hm, hel, hc, _, _⟩
 ·simp at hcs
  obtain ⟨rfl, rfl, rfl⟩ := hcs
  exact ⟨.nil, rfl, trivial, Nat.le_refl _, Nat.zero_le _⟩
 ·simp at hcs
  obtain ⟨rfl, rfl, rfl⟩ := hcs
  rw [cellsNode] at hc
  have hx : ∀ i, i < len → ∃ (x : Nd) (B : Option Addr) (capx : Nat) (cs : List Value) (e : DataW H × List MemPlace), elems[i]? = some e ∧ W.cells? 0 (a.add (i * 8)) 8 = some cs ∧ cs = ndCell x B capx ∧ x.kids.len ≤ capx ∧ TreesAt W (fun b => b < W.heap.size) x.kids B ∧ x.size ≤ Rows.uptoBulk e.1 := by
   intro i hi
   have h1 := hc i hi
   rw [List.getElem?_eq_getElem (by omega)] at h1
   obtain ⟨cs, h2, h3⟩ := Option.bind_eq_some_iff.1 h1
   obtain ⟨x, B, capx, k1, k2, k3, k4⟩ := node_came (fun m hm => ih m (by omega)) h3
   exact ⟨x, B, capx, cs, _, List.getElem?_eq_getElem (by omega), h2, k1, k2, k3, k4⟩
  classical
  let f : Nat → Nd := fun i => if hi : i < len then Classical.choose (hx i hi) else ⟨0, 0, .nil, 0, 0⟩
  have hf2 : ∀ i (hi : i < len), f i = Classical.choose (hx i hi) := fun i hi => dif_pos hi
  have hspec : ∀ i (hi : i < len), ∃ (B : Option Addr) (capx : Nat) (cs : List Value) (e : DataW H × List MemPlace), elems[i]? = some e ∧ W.cells? 0 (a.add (i * 8)) 8 = some cs ∧ cs = ndCell (f i) B capx ∧ (f i).kids.len ≤ capx ∧ TreesAt W (fun b => b < W.heap.size) (f i).kids B ∧ (f i).size ≤ Rows.uptoBulk e.1 := fun i hi => by
   have := Classical.choose_spec (hx i hi)
   rw [← hf2 i hi] at this
   exact this
  have hget : ∀ i, i < len → ((List.range len).map f)[i]? = some (f i) := fun i hi => by rw [List.getElem?_map, List.getElem?_range hi]; rfl
  refine ⟨Trees.of ((List.range len).map f), by rw [Trees.len_of]; simp, ?_, hlc, ?_⟩
  ·rcases Nat.eq_zero_or_pos len with rfl | hpos
   ·exact TreesAt.nilAt (by rw [Trees.len_of]; simp)
   obtain ⟨bl, off, spot⟩ := a
   obtain ⟨B0, c0, cs0, z0, _, hcs0, hx0, _⟩ := hspec 0 hpos
   obtain ⟨_, _, hcell0⟩ := World.cells?_some hcs0
   have h00 := hcell0 0 (by decide)
   rw [hx0] at h00
   have hspot : spot = none := by
    have := World.cell?_spot (v := .int .i64 (f 0).kind) (by simpa [ndCell] using h00)
    simpa [Addr.add] using this
   subst hspot
   refine TreesAt.mk ?_ (fun i x hxi => ?_)
   ·have := World.block_lt_of_cell? W _ (u := .int .i64 (f 0).kind) (by simpa [ndCell] using h00)
    simpa [addr_add] using this
   ·rw [Trees.list_of] at hxi
    have hi : i < len := by
     have := (List.getElem?_eq_some_iff.mp hxi).1
     simpa using this
    rw [hget i hi] at hxi
    obtain rfl := Option.some.inj hxi
    obtain ⟨B, capx, cs, e, _, h1, h2, h3, h4, _⟩ := hspec i hi
    obtain ⟨_, _, h5⟩ := World.cells?_some h1
    rw [h2] at h5
    have g : ∀ j u, j < 8 → (ndCell (f i) B capx)[j]? = some u → W.cell? ⟨bl, off + i * 8 + j, none⟩ = some u := fun j u hj hu => by
     have := h5 j hj
     rw [addr_add, addr_add, hu] at this
     exact this
    exact ⟨B, capx, h3, ⟨g 0 _ (by decide) rfl, g 1 _ (by decide) rfl, g 2 _ (by decide) rfl, g 3 _ (by decide) rfl, g 4 _ (by decide) rfl, g 5 _ (by decide) rfl, g 6 _ (by decide) rfl, g 7 _ (by decide) rfl⟩, h4⟩
  ·rw [hd, size_sum]
   simp only [Rows.uptoBulk]
   have := bulk_sum (elems.map (·.1)) (((List.range len).map f).map Nd.size) (by simpa using hel) (fun i d k h1 h2 => by
    have hi : i < len := by
     have := (List.getElem?_eq_some_iff.mp h2).1
     simpa using this
    rw [List.getElem?_map, hget i hi] at h2
    obtain rfl := Option.some.inj h2
    obtain ⟨B, capx, cs, e, he, _, _, _, _, h6⟩ := hspec i hi
    rw [List.getElem?_map, he] at h1
    obtain rfl := Option.some.inj h1
    exact h6)
   omega
theorem came_all : ∀ fuel, CameF enc W fuel := fun fuel => by
 induction fuel using Nat.strongRecOn with
 | _ n ih => exact slice_came n ih
theorem tree_came {v : Value} {d : DataW H} {p : List MemPlace} (h : DataW.Trod enc Tryd.prog W 0 (fun _ => true) true 28 v d p) :
  ∃ (x : Nd) (B : Option Addr) (cap : Nat), v.cells.toList = ndCell x B cap ∧ x.kids.len ≤ cap ∧ TreesAt W (fun b => b < W.heap.size) x.kids B ∧ x.size ≤ Rows.uptoBulk d := by
 obtain ⟨fuel, hf⟩ := h
 exact node_came (fun n _ => came_all n) hf
end
section
variable {H : Type} {enc : TypeId × Value → H} {W : World} {fuel : Nat}
theorem slice_capfB {t e : TypeId} (hu : Tryd.prog.underlying t = some (.slice e)) {A : Option Addr} {len cap : Nat} {y : DataW H × List MemPlace} (h : DataW.trod enc Tryd.prog W 0 (fun _ => true) true fuel t [.slice A len cap] = some y) : len ≤ cap := by
 rcases DataW.trod_slice hu h with ⟨hcs, hd⟩ | ⟨a, l, c, elems, rest, m, _, hcs, hd, hb, hlc, hm, hel2, hc, _, _⟩
 ·simp at hcs
  omega
 ·simp at hcs
  omega
theorem slice_capB {t e : TypeId} (hu : Tryd.prog.underlying t = some (.slice e)) {A : Option Addr} {len cap : Nat} {d : DataW H} {p : List MemPlace} (h : DataW.Trod enc Tryd.prog W 0 (fun _ => true) true t (.slice A len cap) d p) : len ≤ cap := by
 obtain ⟨fuel, hf⟩ := h
 exact slice_capfB hu (show DataW.trod enc Tryd.prog W 0 (fun _ => true) true fuel t [.slice A len cap] = some (d, p) from hf)
theorem bytes_capB {A : Option Addr} {len cap : Nat} {d : DataW H} {p : List MemPlace} (h : DataW.Trod enc Tryd.prog W 0 (fun _ => true) true 29 (.slice A len cap) d p) : len ≤ cap := slice_capB Tryd.underlying29 h
end
end Go.Proofs.YtfcblmbieiibmaaDoor
namespace Go.Proofs.YtfcblmbieiibmaaDoor
open Go.ChangeShapes Go.WideShapes Go.ChangeAt Go.RowKit Go.Shelf
set_option linter.unusedSimpArgs false
set_option linter.unusedVariables false
set_option maxRecDepth 100000
set_option maxHeartbeats 8000000
theorem gTab : Tryd.prog.globalNamed "math/bits.deBruijn64tab" = some 0 := by kernel_rfl
theorem gTabType : (Tryd.prog.globals[0]?).map (·.type) = some 100 := by kernel_rfl
theorem cellsTab : Tryd.prog.cellsOf 100 = 64 := by kernel_rfl
theorem table_at {W : World} (h : laidMetH Tryd.prog [("math/bits.deBruijn64tab", Rows.laid_math_bits_deBruijn64tab)] W) : TabAt 0 Lib.deBruijn64tab W := by
 have ht : Lib.TabIs Tryd.prog W "math/bits.deBruijn64tab" .u8 (Lib.deBruijn64tab.map fun n : Nat => (n : Int)) :=
  Lib.tabIs_of_head (rest := []) gTab gTabType Tryd.underlying100 Tryd.underlying5 cellsByte cellsTab h
 intro j hj
 have hc := ht.cell gTab j (by simpa using hj)
 rw [hc]
 simp [List.getD_eq_getElem?_getD, hj]
noncomputable def tabWorld (os : Os) : World :=
 { World.holding Tryd.prog os ⟨#[], #[], []⟩ with heap := (World.holding Tryd.prog os ⟨#[], #[], []⟩).heap.modify 0 fun
   | .cells _ t frozen => .cells (Lib.deBruijn64tab.map fun n : Nat => Value.int .u8 (n : Int)).toArray t frozen
   | o => o }
theorem node_val {H : Type} {enc : TypeId × Value → H} {W : World} {base : Nat} {v : Value} {d : DataW H} {p : List MemPlace} (hv : Value.okWide Tryd.prog W .any base 28 v) (h : DataW.Trod enc Tryd.prog W 0 (fun _ => true) true 28 v d p) :
  ∃ (x : Nd) (B : Option Addr) (cap : Nat), v = ndV x B cap ∧ x.kids.len ≤ cap ∧ TreesAt W (fun b => b < W.heap.size) x.kids B ∧ x.size ≤ Rows.uptoBulk d := by
 obtain ⟨x, B, cap, hc, h1, h2, h3⟩ := tree_came h
 simp only [Value.okWide, Tryd.underlying28] at hv
 obtain ⟨cs, rfl, _, _⟩ := hv
 refine ⟨x, B, cap, ?_, h1, h2, h3⟩
 have : cs = (ndCell x B cap).toArray := by
  have hc' : cs.toList = ndCell x B cap := hc
  rw [← hc']
 rw [this]
 rfl
end Go.Proofs.YtfcblmbieiibmaaDoor
namespace Go.Proofs.YtfcblmbieiibmaaDoor
open Go.RowKit
set_option linter.unusedSimpArgs false
set_option linter.unusedVariables false
set_option maxRecDepth 100000
set_option maxHeartbeats 8000000
end Go.Proofs.YtfcblmbieiibmaaDoor
namespace Go.Proofs.YtfcblmbieiibmaaDoor
set_option linter.unusedSimpArgs false
set_option linter.unusedVariables false
set_option maxHeartbeats 8000000
theorem lexS_dot {bs : List Nat} {i : Nat} (h : byteAt bs i = 46) : lexS bs i = .ok (⟨1, i, dotSet, 0, 0⟩, i + 1) := by
 unfold lexS; rw [if_pos h]
theorem lexS_esc {bs : List Nat} {i c j : Nat} (h : byteAt bs i = 92) (he : escS bs i = some (c, j)) : lexS bs i = .ok (⟨1, i, among [c] 1, 0, 0⟩, j) := by
 unfold lexS; rw [if_neg (by omega), if_pos h, he]
theorem lexS_esc_no {bs : List Nat} {i : Nat} (h : byteAt bs i = 92) (he : escS bs i = none) : lexS bs i = .error (14, i) := by
 unfold lexS; rw [if_neg (by omega), if_pos h, he]
theorem lexS_class {bs : List Nat} {i : Nat} {p : Nat → Bool} {j : Nat} (h : byteAt bs i = 91) (he : readS bs i = .ok (p, j)) : lexS bs i = .ok (⟨1, i, p, 0, 0⟩, j) := by
 unfold lexS; rw [if_neg (by omega), if_neg (by omega), if_pos h, he]
theorem lexS_class_no {bs : List Nat} {i : Nat} {e : Wrong} (h : byteAt bs i = 91) (he : readS bs i = .error e) : lexS bs i = .error e := by
 unfold lexS; rw [if_neg (by omega), if_neg (by omega), if_pos h, he]
theorem lexS_rep {bs : List Nat} {i : Nat} (h : byteAt bs i = 123) : lexS bs i = repS bs i := by
 unfold lexS; rw [if_neg (by omega), if_neg (by omega), if_neg (by omega), if_pos h]
theorem lexS_form {bs : List Nat} {i : Nat} (h : byteAt bs i = 93 ∨ byteAt bs i = 125 ∨ byteAt bs i = 10) : lexS bs i = .error (3, i) := by
 unfold lexS; rw [if_neg (by omega), if_neg (by omega), if_neg (by omega), if_neg (by omega), if_pos h]
def Common (c : Nat) : Prop := c ≠ 46 ∧ c ≠ 92 ∧ c ≠ 91 ∧ c ≠ 123 ∧ c ≠ 93 ∧ c ≠ 125 ∧ c ≠ 10
theorem lexS_sign {bs : List Nat} {i : Nat} (h : Common (byteAt bs i)) (hk : signKind (byteAt bs i) ≠ 0) : lexS bs i = .ok (⟨signKind (byteAt bs i), i, noSet, 0, 0⟩, i + 1) := by
 obtain ⟨h1, h2, h3, h4, h5, h6, h7⟩ := h
 unfold lexS; rw [if_neg h1, if_neg h2, if_neg h3, if_neg h4, if_neg (by omega), if_pos hk]
theorem lexS_own {bs : List Nat} {i : Nat} (h : Common (byteAt bs i)) (hk : signKind (byteAt bs i) = 0) : lexS bs i = .ok (⟨1, i, among [byteAt bs i] 1, 0, 0⟩, i + 1) := by
 obtain ⟨h1, h2, h3, h4, h5, h6, h7⟩ := h
 unfold lexS; rw [if_neg h1, if_neg h2, if_neg h3, if_neg h4, if_neg (by omega), if_neg (by omega)]
end Go.Proofs.YtfcblmbieiibmaaDoor
namespace Go.Proofs.YtfcblmbieiibmaaDoor
open Go.RowKit
set_option linter.unusedSimpArgs false
set_option linter.unusedVariables false
set_option maxRecDepth 100000
set_option maxHeartbeats 8000000
def readyS (L : List Lex) : Int × Int := if L.all rightS = false then (6, 0) else if h : 1024 < L.length then (4, (L[1024]).place) else (0, 0)
theorem readyS_bad {L : List Lex} {k : Nat} {x : Lex} (h : L[k]? = some x) (hx : rightS x = false) : readyS L = (6, 0) := by
 refine if_pos ?_
 cases ha : L.all rightS
 ·rfl
 ·have := List.all_eq_true.1 ha x (List.mem_of_getElem? h)
  rw [hx] at this
  cases this
theorem all_right {L : List Lex} (h : ∀ (k : Nat) x, L[k]? = some x → rightS x = true) : L.all rightS = true := List.all_eq_true.2 fun x hx => by
 obtain ⟨k, hk, rfl⟩ := List.mem_iff_getElem.1 hx
 exact h k _ (List.getElem?_eq_getElem hk)
theorem readyS_ok {L : List Lex} (h : L.all rightS = true) (hl : L.length ≤ 1024) : readyS L = (0, 0) := by
 unfold readyS
 rw [if_neg (by rw [h]; decide), dif_neg (by omega)]
theorem readyS_long {L : List Lex} {x : Lex} (h : L.all rightS = true) (hx : L[1024]? = some x) : readyS L = (4, x.place) := by
 obtain ⟨hl, rfl⟩ := List.getElem?_eq_some_iff.1 hx
 unfold readyS
 rw [if_neg (by rw [h]; decide), dif_pos hl]
theorem ret_badv {fn : Func} {t : Tmp} (h : fn.results = #[.cell t 47]) {tmps : Array Value} {w : World} {g : Nat} {a b : Value} (hp : tmps.getD t undef = .pointer (some ⟨g, 0, none⟩)) (hb : Blk w g 47 #[a, b]) :
  (results fn tmps).run Tryd.prog w = .ok (.agg #[a, b]) w :=
 results_cell_row h tmps w g _ _ _ _ hp hb Tryd.underlying47 rfl (by kernel_rfl)
theorem ready_go (A : Option Addr) (cap : Nat) (L : List Lex) (w : World) (hA : LexsAt w w.heap.size A L) (hlen : L.length ≤ 140737488355328) :
  Calls Tryd.prog 58 #[.slice A L.length cap] w fun e w' => e = .returned (.agg #[.int .i64 (readyS L).1, .int .i64 (readyS L).2]) ∧ Below w.heap.size w w' := by
 have HA := Lib.hid hA
 have hb0 : Below w.heap.size w (w.alloc (.cells #[.int .i64 0, .int .i64 0] 47)) := (Below.refl _ _).alloc (Nat.le_refl _) _
 have HB0 := Lib.hid hb0
 have HZ0 := Lib.hid (Blk.new w 47 #[.int .i64 0, .int .i64 0])
 clear hA hb0
 go_enter Tryd.func58, Tryd.ntmps58
 go_wp2
 go_loopw [7] (fun i wr => ∃ k : Nat, i = .int .i64 (k : Int) ∧ k ≤ L.length ∧ Hid (Below w.heap.size w wr) ∧ Hid (Blk wr w.heap.size 47 #[.int .i64 0, .int .i64 0]) ∧ Hid (∀ j x, j < k → L[j]? = some x → rightS x = true)) (fun i _ => L.length - (intOf i).toNat)
 case atStart => exact ⟨0, rfl, Nat.zero_le _, HB0, HZ0, Lib.hid (fun j x hj => by omega)⟩
 case round =>
  clear HB0 HZ0
  obtain ⟨k, rfl, hk, HB, HZ, HR⟩ := hrel
  by_cases hlt : k < L.length
  ·obtain ⟨x, hx⟩ : ∃ x, L[k]? = some x := ⟨_, List.getElem?_eq_getElem hlt⟩
   obtain ⟨b, o, rfl, hbl, hc⟩ := HA.out (by omega)
   have hbl' : b < wr.heap.size := Nat.lt_of_lt_of_le hbl HB.out.size
   obtain ⟨c0, c1, c2, c3, c4, c5, c6, c7⟩ := ((HA.out.below HB.out) (by omega)).elim fun b' h => h.elim fun o' h => by
    obtain ⟨e, _, h⟩ := h
    obtain ⟨rfl, rfl⟩ : b = b' ∧ o = o' := by simpa using e
    exact h k x hx
   clear hc
   have Hx := Lib.hid hx
   have hdl : (k : Int) < (L.length : Int) := by omega
   have HZx := Lib.hid (HZ.out.alloc (.cells #[.int .i64 x.kind, .int .i64 x.place, .int .u64 (word x.set 0), .int .u64 (word x.set 1), .int .u64 (word x.set 2), .int .u64 (word x.set 3), .int .i64 x.lo, .int .i64 x.hi] 71))
   have HBx := Lib.hid (HB.out.alloc HB.out.size (.cells #[.int .i64 x.kind, .int .i64 x.place, .int .u64 (word x.set 0), .int .u64 (word x.set 1), .int .u64 (word x.set 2), .int .u64 (word x.set 3), .int .i64 x.lo, .int .i64 x.hi] 71))
   clear hx
   go_wp2_with fail
   refine (right_go _ _ _ _ _ _ _ _ _).mono ?_
   rintro e w1 ⟨rfl, hb1⟩
   have HZ1 := Lib.hid (HZx.out.below hb1 HZx.out.lt)
   have HB1 := Lib.hid (HBx.out.trans (hb1.mono HBx.out.size))
   obtain ⟨b0, b1, f0, f1⟩ := HZ1.out.c2
   clear hb1 c0 c1 c2 c3 c4 c5 c6 c7
   cases hr : rightS x
   ·have hr' := hr
    unfold rightS at hr'
    rw [hr']
    have HV := Lib.hid (readyS_bad Hx.out hr)
    clear hr hr'
    go_wp2
    go_light
    rw [HV.out]
    exact bodyPost_ret (ret_badv Tryd.results58 rfl HZ1.out.set2) rfl ⟨rfl, below_set2 HB1.out (Nat.le_refl _) _ _⟩
   ·have hr' := hr
    unfold rightS at hr'
    rw [hr']
    have Hr := Lib.hid hr
    clear hr hr'
    go_wp2
    go_roundw
    case rel => exact ⟨k + 1, by go_num, by omega, HB1, HZ1, Lib.hid (fun j y hj hy => by
     rcases Nat.lt_or_ge j k with h | h
     ·exact HR.out j y h hy
     ·obtain rfl : j = k := by omega
      have := Hx.out.symm.trans hy
      obtain rfl : x = y := by simpa using this
      exact Hr.out)⟩
    case measure => simp [intOf]; omega
  ·have hdl : ¬ (k : Int) < (L.length : Int) := by omega
   have Hall := Lib.hid (all_right (L := L) (fun j x hx => HR.out j x (by have := (List.getElem?_eq_some_iff.1 hx).1; omega) hx))
   obtain ⟨b0, b1, f0, f1⟩ := HZ.out.c2
   by_cases h1024 : L.length ≤ 1024
   ·have HV := Lib.hid (readyS_ok Hall.out h1024)
    have hd : ¬ (1024 : Int) < (L.length : Int) := by omega
    clear h1024
    go_wp2
    go_light
    rw [HV.out]
    exact bodyPost_ret (ret_badv Tryd.results58 rfl HZ.out.set2) rfl ⟨rfl, below_set2 HB.out (Nat.le_refl _) _ _⟩
   ·obtain ⟨x, hx⟩ : ∃ x, L[1024]? = some x := ⟨_, List.getElem?_eq_getElem (by omega)⟩
    have HV := Lib.hid (readyS_long Hall.out hx)
    have hd : (1024 : Int) < (L.length : Int) := by omega
    obtain ⟨b, o, rfl, hbl, hc⟩ := HA.out (by omega)
    obtain ⟨_, c1, _⟩ := ((HA.out.below HB.out) (by omega)).elim fun b' h => h.elim fun o' h => by
     obtain ⟨e, _, h⟩ := h
     obtain ⟨rfl, rfl⟩ : b = b' ∧ o = o' := by simpa using e
     exact h 1024 x hx
    have c1' : wr.cell? ⟨b, o + 8193, none⟩ = some (.int .i64 x.place) := c1
    clear h1024 hc hx c1
    go_wp2
    go_light
    rw [HV.out]
    exact bodyPost_ret (ret_badv Tryd.results58 rfl HZ.out.set2) rfl ⟨rfl, below_set2 HB.out (Nat.le_refl _) _ _⟩
theorem ret_tree {fn : Func} {t2 t3 : Tmp} (h : fn.results = #[.cell t2 28, .cell t3 47]) {tmps : Array Value} {w : World} {g g' : Nat} {a0 a1 a2 a3 a4 a5 a6 a7 x y : Value}
  (hp : tmps.getD t2 undef = .pointer (some ⟨g, 0, none⟩)) (hp' : tmps.getD t3 undef = .pointer (some ⟨g', 0, none⟩)) (hb : Blk w g 28 #[a0, a1, a2, a3, a4, a5, a6, a7]) (hb' : Blk w g' 47 #[x, y]) :
  (results fn tmps).run Tryd.prog w = .ok (.tuple #[.agg #[a0, a1, a2, a3, a4, a5, a6, a7], .agg #[x, y]]) w := by
 have h1 := run_loadVar_row (P := Tryd.prog) w g 28 28 #[a0, a1, a2, a3, a4, a5, a6, a7] (0, 0) _ hb Tryd.underlying28 rfl (by kernel_rfl)
 have h2 := run_loadVar_row (P := Tryd.prog) w g' 47 47 #[x, y] (0, 0) _ hb' Tryd.underlying47 rfl (by kernel_rfl)
 simp only [results, h]
 simp only [Array.getD_eq_getD_getElem?] at hp hp'
 simp [Sem.run_bind, hp, hp', asAddr, h1, h2, Result.andThen]
def TreeOut (r : Except Wrong Nd) (w : World) (e : Ending) (w' : World) : Prop :=
 match r with
 | .ok x => ∃ B cap, e = .returned (.tuple #[ndV x B cap, .agg #[.int .i64 0, .int .i64 0]]) ∧ Below w.heap.size w w' ∧ x.kids.len ≤ cap ∧ TreesAt w' (fun b => w.heap.size ≤ b) x.kids B
 | .error (k, q) => e = .returned (.tuple #[zeroN, .agg #[.int .i64 k, .int .i64 q]]) ∧ Below w.heap.size w w'
theorem lexemesS_bad {L : List Lex} (h : (readyS L).1 ≠ 0) : lexemesS L = .error (readyS L) := by
 unfold readyS at h ⊢
 unfold lexemesS
 by_cases h1 : L.all rightS = false
 ·rw [if_pos h1, if_pos h1]
 ·rw [if_neg h1, if_neg h1]
  by_cases h2 : 1024 < L.length
  ·rw [dif_pos h2, dif_pos h2]
  ·rw [if_neg h1, dif_neg h2] at h
   exact absurd rfl h
theorem readyS_zero {L : List Lex} (h : (readyS L).1 = 0) : readyS L = (0, 0) ∧ L.all rightS = true ∧ L.length ≤ 1024 := by
 unfold readyS at h ⊢
 by_cases h1 : L.all rightS = false
 ·rw [if_pos h1] at h; cases h
 ·by_cases h2 : 1024 < L.length
  ·rw [if_neg h1, dif_pos h2] at h; cases h
  ·rw [if_neg h1, dif_neg h2]
   exact ⟨rfl, by simpa using h1, by omega⟩
theorem lexemesS_ok {L : List Lex} (h : L.all rightS = true) (hl : L.length ≤ 1024) : lexemesS L = match altG (3 * L.length + 3) [] [] L with
  | .error e => .error e
  | .ok (x, _) => .ok x := by
 unfold lexemesS
 rw [if_neg (by rw [h]; decide), dif_neg (by omega)]
 rfl
theorem lexemes_go (A : Option Addr) (cap : Nat) (L : List Lex) (w : World) (hA : LexsAt w w.heap.size A L) (hlen : L.length ≤ 140737488355328) (hcap : L.length ≤ cap) :
  Calls Tryd.prog 43 #[.slice A L.length cap] w (TreeOut (lexemesS L) w) := by
 have hmf : ∀ (fn : Fn) (first cap : Array Value) (w : World), (Instr.makeFunc fn first cap).run Tryd.prog w = .ok (.func fn first cap) w := fun _ _ _ _ => rfl
 have hb2 : Below w.heap.size w ((w.alloc (.cells #[.int .i64 0, .int .u64 0, .int .u64 0, .int .u64 0, .int .u64 0, .slice none 0 0, .int .i64 0, .int .i64 0] 28)).alloc (.cells #[.int .i64 0, .int .i64 0] 47)) := ((Below.refl _ _).alloc (Nat.le_refl _) _).alloc (by simp) _
 have HB2 := Lib.hid hb2
 have HG2 := Lib.hid (show Blk ((w.alloc (.cells #[.int .i64 0, .int .u64 0, .int .u64 0, .int .u64 0, .int .u64 0, .slice none 0 0, .int .i64 0, .int .i64 0] 28)).alloc (.cells #[.int .i64 0, .int .i64 0] 47)) w.heap.size 28 _ from (Blk.new w 28 #[.int .i64 0, .int .u64 0, .int .u64 0, .int .u64 0, .int .u64 0, .slice none 0 0, .int .i64 0, .int .i64 0]).alloc _)
 have HH2 := Lib.hid (show Blk ((w.alloc (.cells #[.int .i64 0, .int .u64 0, .int .u64 0, .int .u64 0, .int .u64 0, .slice none 0 0, .int .i64 0, .int .i64 0] 28)).alloc (.cells #[.int .i64 0, .int .i64 0] 47)) (w.heap.size + 1) 47 #[.int .i64 0, .int .i64 0] from Blk.new_at (by simp))
 have HA := Lib.hid hA
 have hz2 : ((w.alloc (.cells #[.int .i64 0, .int .u64 0, .int .u64 0, .int .u64 0, .int .u64 0, .slice none 0 0, .int .i64 0, .int .i64 0] 28)).alloc (.cells #[.int .i64 0, .int .i64 0] 47)).heap.size = w.heap.size + 2 := by simp
 have HRd := Lib.hid (ready_go A cap L _ ((hA.below hb2).more (by omega)) hlen)
 clear hb2 hA hz2
 go_enter_defers Tryd.func43, Tryd.ntmps43
 go_wp2_with fail
 refine HRd.out.mono ?_
 rintro e w3 ⟨rfl, hb3⟩
 have HB3 := Lib.hid (HB2.out.trans (hb3.mono HB2.out.size))
 have hG3 := HG2.out.below hb3 HG2.out.lt
 have hH3 := HH2.out.below hb3 HH2.out.lt
 have HG3 := Lib.hid hG3
 have HH3 := Lib.hid hH3
 have hne1 : w.heap.size ≠ w3.heap.size := by have := hG3.lt; omega
 have hne2 : w.heap.size + 1 ≠ w3.heap.size := by have := hH3.lt; omega
 have hlt1 : w.heap.size < w3.heap.size := hG3.lt
 have hlt2 : w.heap.size + 1 < w3.heap.size := hH3.lt
 by_cases h0 : (readyS L).1 = 0
 ·obtain ⟨h1, h2, h3⟩ := readyS_zero h0
  have HV := Lib.hid (lexemesS_ok h2 h3)
  rw [h1]
  have hb5 : Below w3.heap.size w3 ((w3.alloc (.cells #[.int .i64 0, .int .i64 0] 47)).alloc (.cells #[.slice A L.length cap, .slice none 0 0] 92)) := ((Below.refl _ _).alloc (Nat.le_refl _) _).alloc (by simp) _
  have hP5 : PAt ((w3.alloc (.cells #[.int .i64 0, .int .i64 0] 47)).alloc (.cells #[.slice A L.length cap, .slice none 0 0] 92)) (w3.heap.size + 1) (.slice none 0 0) L 0 :=
   ⟨A, cap, [], Blk.new_at (by simp), hcap, (HA.out.below (HB3.out.trans (hb5.mono HB3.out.size))).more (by omega), World.ownsRow_nil _ _ _ _⟩
  have HC := Lib.hid ((reads_go (3 * L.length + 3)).1 (w3.heap.size + 1) [] L _ (.slice none 0 0) hP5 (by omega) (by decide) (by omega))
  have HB5 := Lib.hid (HB3.out.trans (hb5.mono HB3.out.size))
  have HG5 := Lib.hid (hG3.below hb5 hlt1)
  have HH5 := Lib.hid (hH3.below hb5 hlt2)
  clear hb3 hG3 hH3 HRd HB2 HG2 HH2 h0 h1 h2 hb5 hP5 HG3 HH3
  go_wp2_with fail
  refine HC.out.mono ?_
  cases hx : altG (3 * L.length + 3) [] [] L with
  | error x =>
   obtain ⟨k, q⟩ := x
   rw [hx] at HV
   rintro e w6 ⟨rfl, hb6⟩
   have HV := Lib.hid (show lexemesS L = .error (k, q) from HV.out)
   have HB6 := Lib.hid (HB5.out.trans (hb6.mono (by omega)))
   have hG6 := HG5.out.below hb6 (by omega)
   have hH6 := HH5.out.below hb6 (by omega)
   dsimp only
   refine leaves_cons (f := 59) (args := #[.pointer (some ⟨w.heap.size, 0, none⟩), .pointer (some ⟨w.heap.size + 1, 0, none⟩)]) (by simp) (by simp [go_sem]) ?_
   refine (catch_bad w.heap.size (w.heap.size + 1) k q [] w6 hG6 hH6 (by omega)).mono ?_
   rintro e u' w7 ⟨rfl, rfl, hG7, hH7, hb7⟩
   dsimp only
   change Leaves Tryd.prog _ _ _ [] FrameMode.returning w7
   rw [HV.out]
   exact ⟨_, ret_tree Tryd.results43 rfl rfl hG7 hH7, rfl, HB6.out.trans (hb7 w.heap.size (Nat.le_refl _) (by omega))⟩
  | ok x =>
   obtain ⟨x, R⟩ := x
   rw [hx] at HV
   rintro e w6 ⟨v6, B, cap6, rfl, hP6, hS6, hc6, ht6⟩
   have HV := Lib.hid (show lexemesS L = .ok x from HV.out)
   have HB6 := Lib.hid (HB5.out.trans (hS6.1.mono (by omega)))
   have hG6 := HG5.out.below hS6.1 (by omega)
   have hH6 := HH5.out.below hS6.1 (by omega)
   have HT6 := Lib.hid (ht6.weak (Q := fun b => w3.heap.size + 2 ≤ b) (fun b hb _ => by have := hb.1; simp at this; omega))
   have y0 : w6.cell? ⟨w.heap.size, 0, none⟩ = some (.int .i64 0) := hG6.cell 0
   have y1 : w6.cell? ⟨w.heap.size, 1, none⟩ = some (.int .u64 0) := hG6.cell 1
   have y2 : w6.cell? ⟨w.heap.size, 2, none⟩ = some (.int .u64 0) := hG6.cell 2
   have y3 : w6.cell? ⟨w.heap.size, 3, none⟩ = some (.int .u64 0) := hG6.cell 3
   have y4 : w6.cell? ⟨w.heap.size, 4, none⟩ = some (.int .u64 0) := hG6.cell 4
   have y5 : w6.cell? ⟨w.heap.size, 5, none⟩ = some (.slice none 0 0) := hG6.cell 5
   have y6 : w6.cell? ⟨w.heap.size, 6, none⟩ = some (.int .i64 0) := hG6.cell 6
   have y7 : w6.cell? ⟨w.heap.size, 7, none⟩ = some (.int .i64 0) := hG6.cell 7
   have z0 := hG6.frozen 0
   have z1 := hG6.frozen 1
   have z2 := hG6.frozen 2
   have z3 := hG6.frozen 3
   have z4 := hG6.frozen 4
   have z5 := hG6.frozen 5
   have z6 := hG6.frozen 6
   have z7 := hG6.frozen 7
   obtain ⟨b0, b1, f0, f1⟩ := hH6.c2
   have HG6 := Lib.hid hG6
   have HH6 := Lib.hid hH6
   have hsz : w.heap.size + 1 ≤ w3.heap.size + 2 := by omega
   clear hP6 hS6 ht6 hG6 hH6 HC hx
   unfold ndV
   dsimp only
   go_wp2
   go_light
   have hg1 := only_put8 w6 w.heap.size (.int .i64 x.kind) (.int .u64 (word x.set.testBit 0)) (.int .u64 (word x.set.testBit 1)) (.int .u64 (word x.set.testBit 2)) (.int .u64 (word x.set.testBit 3)) (.slice B x.kids.len cap6) (.int .i64 x.lo) (.int .i64 x.hi)
   have ht7 := TreesAt.keep (Q := fun b => w3.heap.size + 2 ≤ b) (fun b o (hb : w3.heap.size + 2 ≤ b) hl => World.cell?_of_block (hg1.block b hl (by simp; omega))) (fun b hb _ => hb) HT6.out
   refine leaves_cons (f := 59) (args := #[.pointer (some ⟨w.heap.size, 0, none⟩), .pointer (some ⟨w.heap.size + 1, 0, none⟩)]) (by simp) (by simp [go_sem]) ?_
   refine (catch_idle w.heap.size (w.heap.size + 1) _).mono ?_
   rintro e u' w7 ⟨rfl, rfl, hw7⟩
   dsimp only
   change Leaves Tryd.prog _ _ _ [] FrameMode.returning w7
   rw [HV.out]
   have hg2 := only_set (only_set (only_refl ((((((((w6.setCell ⟨w.heap.size, 0, none⟩ (.int .i64 x.kind)).setCell ⟨w.heap.size, 1, none⟩ (.int .u64 (word x.set.testBit 0))).setCell ⟨w.heap.size, 2, none⟩ (.int .u64 (word x.set.testBit 1))).setCell ⟨w.heap.size, 3, none⟩ (.int .u64 (word x.set.testBit 2))).setCell ⟨w.heap.size, 4, none⟩ (.int .u64 (word x.set.testBit 3))).setCell ⟨w.heap.size, 5, none⟩ (.slice B x.kids.len cap6)).setCell ⟨w.heap.size, 6, none⟩ (.int .i64 x.lo)).setCell ⟨w.heap.size, 7, none⟩ (.int .i64 x.hi)) (some (w.heap.size + 1))) 0 (.int .i64 0)) 1 (.int .i64 0)
   have ht8 := TreesAt.keep (Q := fun b => w.heap.size ≤ b) (fun b o (hb : w3.heap.size + 2 ≤ b) hl => World.cell?_of_block (hg2.block b hl (by simp; omega))) (fun b (hb : w3.heap.size + 2 ≤ b) _ => by omega) ht7
   have hG7 := (HG6.out.put8 (.int .i64 x.kind) (.int .u64 (word x.set.testBit 0)) (.int .u64 (word x.set.testBit 1)) (.int .u64 (word x.set.testBit 2)) (.int .u64 (word x.set.testBit 3)) (.slice B x.kids.len cap6) (.int .i64 x.lo) (.int .i64 x.hi)).far2 (g' := w.heap.size + 1) (by omega) (.int .i64 0) (.int .i64 0)
   have hH7 := (HH6.out.past8 (g' := w.heap.size) (by omega) (.int .i64 x.kind) (.int .u64 (word x.set.testBit 0)) (.int .u64 (word x.set.testBit 1)) (.int .u64 (word x.set.testBit 2)) (.int .u64 (word x.set.testBit 3)) (.slice B x.kids.len cap6) (.int .i64 x.lo) (.int .i64 x.hi)).set2 (a' := .int .i64 0) (b' := .int .i64 0)
   have hb7 := below_set2 (below_put8 HB6.out (Nat.le_refl _) (.int .i64 x.kind) (.int .u64 (word x.set.testBit 0)) (.int .u64 (word x.set.testBit 1)) (.int .u64 (word x.set.testBit 2)) (.int .u64 (word x.set.testBit 3)) (.slice B x.kids.len cap6) (.int .i64 x.lo) (.int .i64 x.hi)) (Nat.le_succ w.heap.size) (.int .i64 0) (.int .i64 0)
   rw [← hw7] at ht8 hG7 hH7 hb7
   exact ⟨_, ret_tree Tryd.results43 rfl rfl hG7 hH7, B, cap6, rfl, hb7, hc6, ht8⟩
 ·have hd : ((readyS L).1 != 0) = true := by simpa using h0
  have HV := Lib.hid (lexemesS_bad h0)
  have y0 : w3.cell? ⟨w.heap.size, 0, none⟩ = some (.int .i64 0) := hG3.cell 0
  have y1 : w3.cell? ⟨w.heap.size, 1, none⟩ = some (.int .u64 0) := hG3.cell 1
  have y2 : w3.cell? ⟨w.heap.size, 2, none⟩ = some (.int .u64 0) := hG3.cell 2
  have y3 : w3.cell? ⟨w.heap.size, 3, none⟩ = some (.int .u64 0) := hG3.cell 3
  have y4 : w3.cell? ⟨w.heap.size, 4, none⟩ = some (.int .u64 0) := hG3.cell 4
  have y5 : w3.cell? ⟨w.heap.size, 5, none⟩ = some (.slice none 0 0) := hG3.cell 5
  have y6 : w3.cell? ⟨w.heap.size, 6, none⟩ = some (.int .i64 0) := hG3.cell 6
  have y7 : w3.cell? ⟨w.heap.size, 7, none⟩ = some (.int .i64 0) := hG3.cell 7
  have z0 := hG3.frozen 0
  have z1 := hG3.frozen 1
  have z2 := hG3.frozen 2
  have z3 := hG3.frozen 3
  have z4 := hG3.frozen 4
  have z5 := hG3.frozen 5
  have z6 := hG3.frozen 6
  have z7 := hG3.frozen 7
  obtain ⟨b0, b1, f0, f1⟩ := hH3.c2
  clear hb3 hG3 hH3 HRd HB2 HG2 HH2 h0
  generalize readyS L = kq at *
  obtain ⟨k, q⟩ := kq
  dsimp only at hd ⊢
  go_wp2
  go_region
  all_goals go_wp2
  all_goals go_light
  rw [HV.out]
  exact ⟨_, ret_tree Tryd.results43 rfl rfl (((HG3.out.put8 _ _ _ _ _ _ _ _).far2 (by omega) _ _).alloc _).drew (((HH3.out.past8 (by omega) _ _ _ _ _ _ _ _).set2).alloc _).drew, rfl, ((below_set2 (below_put8 HB3.out (Nat.le_refl _) _ _ _ _ _ _ _ _) (by omega) _ _).alloc (by have := HB3.out.size; simpa [World.setCell] using this) _).drew⟩
end Go.Proofs.YtfcblmbieiibmaaDoor
namespace Go.Proofs.YtfcblmbieiibmaaDoor
set_option linter.unusedSimpArgs false
set_option linter.unusedVariables false
set_option maxRecDepth 100000
set_option maxHeartbeats 8000000
abbrev RelW := Nat → Nat → Prop
def noR : RelW := fun _ _ => False
def idR : RelW := fun i j => i = j
def setR (s : Nat) (w : List Nat) : RelW := fun i j => ∃ c, w[i]? = some c ∧ s.testBit c = true ∧ j = i + 1
def catR : List RelW → RelW
 | [] => idR
 | R :: l => fun i j => ∃ k, R i k ∧ catR l k j
def altR (l : List RelW) : RelW := fun i j => ∃ R ∈ l, R i j
def itR (R : RelW) : Nat → RelW
 | 0 => idR
 | k + 1 => fun i j => ∃ m, R i m ∧ itR R k m j
def starR (R : RelW) : RelW := fun i j => ∃ k, itR R k i j
def plusR (R : RelW) : RelW := fun i j => ∃ m, R i m ∧ starR R m j
def optR (R : RelW) : RelW := fun i j => i = j ∨ R i j
def repR (lo hi : Int) (R : RelW) : RelW := fun i j => ∃ k : Nat, lo ≤ (k : Int) ∧ (hi < 0 ∨ (k : Int) ≤ hi) ∧ itR R k i j
def saysK (k : Int) (s : Nat) (lo hi : Int) (w : List Nat) (Rs : List RelW) : RelW :=
 if k = 2 then idR
 else if k = 3 then setR s w
 else if k = 4 then catR Rs
 else if k = 5 then altR Rs
 else if k = 6 then starR (Rs.headD noR)
 else if k = 7 then plusR (Rs.headD noR)
 else if k = 8 then optR (Rs.headD noR)
 else if k = 9 then repR lo hi (Rs.headD noR)
 else noR
def Trees.rels (w : List Nat) : Trees → List RelW
 | .nil => []
 | .cons k s ks lo hi r => saysK k s lo hi w (ks.rels w) :: r.rels w
def Nd.rel (x : Nd) (w : List Nat) : RelW := saysK x.kind x.set x.lo x.hi w (x.kids.rels w)
theorem Trees.rels_list (w : List Nat) : ∀ F : Trees, F.rels w = F.list.map fun z => z.rel w
 | .nil => rfl
 | .cons k s ks lo hi r => by rw [Trees.rels, Trees.list, List.map_cons, Trees.rels_list w r]; rfl
theorem itR_add {R : RelW} : ∀ {a b : Nat} {i j : Nat}, itR R (a + b) i j ↔ ∃ m, itR R a i m ∧ itR R b m j
 | 0, b, i, j => by
  rw [Nat.zero_add]
  exact ⟨fun h => ⟨i, rfl, h⟩, fun ⟨m, h1, h2⟩ => by
   have h1 : i = m := h1
   rw [h1]
   exact h2⟩
 | a + 1, b, i, j => by
  rw [show a + 1 + b = (a + b) + 1 by omega]
  constructor
  ·rintro ⟨m, h1, h2⟩
   obtain ⟨m2, h3, h4⟩ := itR_add.1 h2
   exact ⟨m2, ⟨m, h1, h3⟩, h4⟩
  ·rintro ⟨m2, ⟨m, h1, h3⟩, h4⟩
   exact ⟨m, h1, itR_add.2 ⟨m2, h3, h4⟩⟩
theorem itR_one {R : RelW} {i j : Nat} : itR R 1 i j ↔ R i j := ⟨fun ⟨m, h1, h2⟩ => by
 have h2 : m = j := h2
 rw [← h2]
 exact h1, fun h => ⟨j, h, rfl⟩⟩
structure Like (ok : Nat → Prop) (f : Nat → Nat) (R R' : RelW) : Prop where
 fwd : ∀ i j, ok i → R' i j → ok j ∧ R (f i) (f j)
 bwd : ∀ i m, ok i → R (f i) m → (∃ j, ok j ∧ m = f j ∧ R' i j) ∨ ∀ j, ok j → ¬ m ≤ f j
 up : ∀ i j, R i j → i ≤ j
inductive AllL (ok : Nat → Prop) (f : Nat → Nat) : List RelW → List RelW → Prop
 | nil : AllL ok f [] []
 | cons {R R' : RelW} {l l' : List RelW} : Like ok f R R' → AllL ok f l l' → AllL ok f (R :: l) (R' :: l')
section
variable {ok : Nat → Prop} {f : Nat → Nat}
theorem like_no : Like ok f noR noR := ⟨fun _ _ _ h => h.elim, fun _ _ _ h => h.elim, fun _ _ h => h.elim⟩
theorem like_id : Like ok f idR idR := ⟨fun i j h e => by
 have e : i = j := e
 subst e
 exact ⟨h, rfl⟩, fun i m h e => .inl ⟨i, h, (show f i = m from e).symm, rfl⟩, fun i j e => Nat.le_of_eq e⟩
theorem Like.comp {R R' S S' : RelW} (h : Like ok f R R') (g : Like ok f S S') : Like ok f (fun i j => ∃ k, R i k ∧ S k j) (fun i j => ∃ k, R' i k ∧ S' k j) :=
 ⟨fun i j hi ⟨k, h1, h2⟩ => by
  obtain ⟨h3, h4⟩ := h.fwd i k hi h1
  obtain ⟨h5, h6⟩ := g.fwd k j h3 h2
  exact ⟨h5, f k, h4, h6⟩, fun i m hi ⟨k, h1, h2⟩ => by
  rcases h.bwd i k hi h1 with ⟨k', h3, rfl, h5⟩ | h3
  ·rcases g.bwd k' m h3 h2 with ⟨j, h6, h7, h8⟩ | h6
   ·exact .inl ⟨j, h6, h7, k', h5, h8⟩
   ·exact .inr h6
  ·exact .inr fun j hj hm => h3 j hj (Nat.le_trans (g.up k m h2) hm), fun i j ⟨k, h1, h2⟩ => Nat.le_trans (h.up i k h1) (g.up k j h2)⟩
theorem Like.or {R R' S S' : RelW} (h : Like ok f R R') (g : Like ok f S S') : Like ok f (fun i j => R i j ∨ S i j) (fun i j => R' i j ∨ S' i j) :=
 ⟨fun i j hi hh => hh.elim (fun h1 => (h.fwd i j hi h1).imp id .inl) (fun h1 => (g.fwd i j hi h1).imp id .inr), fun i m hi hh => by
  rcases hh with h1 | h1
  ·exact (h.bwd i m hi h1).imp (fun ⟨j, a, b, c⟩ => ⟨j, a, b, .inl c⟩) id
  ·exact (g.bwd i m hi h1).imp (fun ⟨j, a, b, c⟩ => ⟨j, a, b, .inr c⟩) id, fun i j hh => hh.elim (h.up i j) (g.up i j)⟩
theorem Like.it {R R' : RelW} (h : Like ok f R R') : ∀ k, Like ok f (itR R k) (itR R' k)
 | 0 => like_id
 | k + 1 => h.comp (h.it k)
theorem Like.ex {α : Type} {R R' : α → RelW} {p : α → Prop} (h : ∀ a, Like ok f (R a) (R' a)) : Like ok f (fun i j => ∃ a, p a ∧ R a i j) (fun i j => ∃ a, p a ∧ R' a i j) :=
 ⟨fun i j hi ⟨a, ha, h1⟩ => by
  obtain ⟨h2, h3⟩ := (h a).fwd i j hi h1
  exact ⟨h2, a, ha, h3⟩, fun i m hi ⟨a, ha, h1⟩ => ((h a).bwd i m hi h1).imp (fun ⟨j, x, y, z⟩ => ⟨j, x, y, a, ha, z⟩) id, fun i j ⟨a, _, h1⟩ => (h a).up i j h1⟩
theorem Like.star {R R' : RelW} (h : Like ok f R R') : Like ok f (starR R) (starR R') := by
 have := Like.ex (p := fun _ : Nat => True) (fun k => h.it k)
 unfold starR
 simpa using this
theorem Like.cats : ∀ {Rs Rs' : List RelW}, AllL ok f Rs Rs' → Like ok f (catR Rs) (catR Rs')
 | _, _, .nil => like_id
 | _, _, .cons h hs => h.comp (Like.cats hs)
theorem Like.alts : ∀ {Rs Rs' : List RelW}, AllL ok f Rs Rs' → Like ok f (altR Rs) (altR Rs')
 | _, _, .nil => ⟨fun _ _ _ ⟨_, h, _⟩ => by simp at h, fun _ _ _ ⟨_, h, _⟩ => by simp at h, fun _ _ ⟨_, h, _⟩ => by simp at h⟩
 | _, _, .cons h hs => by
  have h2 := h.or (Like.alts hs)
  have e : ∀ (R : RelW) (l : List RelW), altR (R :: l) = fun i j => R i j ∨ altR l i j := fun R l => by
   funext i j
   simp [altR]
  rw [e, e]
  exact h2
theorem Like.head {Rs Rs' : List RelW} (h : AllL ok f Rs Rs') : Like ok f (Rs.headD noR) (Rs'.headD noR) := by
 cases h with
 | nil => exact like_no
 | cons h _ => exact h
theorem Like.says {w w' : List Nat} (hset : ∀ s, Like ok f (setR s w) (setR s w')) (k : Int) (s : Nat) (lo hi : Int) {Rs Rs' : List RelW} (h : AllL ok f Rs Rs') : Like ok f (saysK k s lo hi w Rs) (saysK k s lo hi w' Rs') := by
 unfold saysK
 split
 ·exact like_id
 split
 ·exact hset s
 split
 ·exact Like.cats h
 split
 ·exact Like.alts h
 split
 ·exact (Like.head h).star
 split
 ·exact (Like.head h).comp (Like.head h).star
 split
 ·exact like_id.or (Like.head h)
 split
 ·have := Like.ex (p := fun k : Nat => lo ≤ (k : Int) ∧ (hi < 0 ∨ (k : Int) ≤ hi)) (fun k => (Like.head h).it k)
  unfold repR
  simpa [and_assoc] using this
 ·exact like_no
theorem Like.rels {w w' : List Nat} (hset : ∀ s, Like ok f (setR s w) (setR s w')) : ∀ F : Trees, AllL ok f (F.rels w) (F.rels w')
 | .nil => .nil
 | .cons k s ks lo hi r => .cons (Like.says hset k s lo hi (Like.rels hset ks)) (Like.rels hset r)
theorem Like.nd {w w' : List Nat} (hset : ∀ s, Like ok f (setR s w) (setR s w')) (x : Nd) : Like ok f (x.rel w) (x.rel w') := Like.says hset _ _ _ _ (Like.rels hset x.kids)
end
theorem set_self (w : List Nat) (s : Nat) : Like (fun i => i ≤ w.length) id (setR s w) (setR s w) :=
 ⟨fun i j hi ⟨c, h1, h2, h3⟩ => ⟨by have := (List.getElem?_eq_some_iff.1 h1).1; show j ≤ _; omega, c, h1, h2, h3⟩, fun i m hi ⟨c, h1, h2, h3⟩ => .inl ⟨m, by have := (List.getElem?_eq_some_iff.1 h1).1; have h4 : i < w.length := this; show m ≤ _; omega, rfl, c, h1, h2, h3⟩, fun i j ⟨_, _, _, h⟩ => by omega⟩
theorem rel_up (x : Nd) (w : List Nat) {i j : Nat} (h : x.rel w i j) : i ≤ j := (Like.nd (set_self w) x).up i j h
theorem rel_len (x : Nd) (w : List Nat) {i j : Nat} (hi : i ≤ w.length) (h : x.rel w i j) : j ≤ w.length := ((Like.nd (set_self w) x).fwd i j hi h).1
theorem it_less {R : RelW} (hR : ∀ i j, R i j → i ≤ j) : ∀ {k i j : Nat}, itR R k i j → j < i + k → ∃ k', k = k' + 1 ∧ itR R k' i j
 | 0, i, j, h, hl => by
  have h : i = j := h
  omega
 | k + 1, i, j, ⟨m, h1, h2⟩, hl => by
  have h3 := hR i m h1
  rcases Nat.lt_or_ge i m with h | h
  ·obtain ⟨k', rfl, h4⟩ := it_less hR h2 (by omega)
   exact ⟨k' + 1, rfl, m, h1, h4⟩
  ·obtain rfl : i = m := by omega
   exact ⟨k, rfl, h2⟩
theorem it_some {R : RelW} (hR : ∀ i j, R i j → i ≤ j) {n : Nat} : ∀ {k i j lo : Nat}, itR R k i j → j ≤ i + n → lo ≤ k → ∃ k', lo ≤ k' ∧ k' ≤ k ∧ k' ≤ lo + n ∧ itR R k' i j
 | 0, i, j, lo, h, _, hl => ⟨0, hl, Nat.le_refl _, by omega, h⟩
 | k + 1, i, j, lo, h, hn, hl => by
  rcases Nat.lt_or_ge (lo + n) (k + 1) with h1 | h1
  ·obtain ⟨k', e, h2⟩ := it_less hR h (by omega)
   obtain rfl : k = k' := by omega
   obtain ⟨k2, h3, h4, h5, h6⟩ := it_some (lo := lo) hR h2 hn (by omega)
   exact ⟨k2, h3, by omega, h5, h6⟩
  ·exact ⟨k + 1, hl, Nat.le_refl _, h1, h⟩
open Classical in
noncomputable def imgB (R : RelW) (p : Nat → Bool) : Nat → Bool := fun j => decide (∃ i, p i = true ∧ R i j)
open Classical in
theorem imgB_iff {R : RelW} {p : Nat → Bool} {j : Nat} : imgB R p j = true ↔ ∃ i, p i = true ∧ R i j := by
 unfold imgB
 rw [decide_eq_true_eq]
theorem setB_ext {p q : Nat → Bool} (h : ∀ c, p c = true ↔ q c = true) : p = q := by
 funext c
 cases hp : p c with
 | true => exact ((h c).1 hp).symm
 | false =>
  cases hq : q c with
  | false => rfl
  | true =>
   have := (h c).2 hq
   rw [hp] at this
   cases this
theorem imgB_comp (R S : RelW) (p : Nat → Bool) : imgB S (imgB R p) = imgB (fun i j => ∃ k, R i k ∧ S k j) p := setB_ext fun j => by
 rw [imgB_iff, imgB_iff]
 constructor
 ·rintro ⟨k, h1, h2⟩
  obtain ⟨i, h3, h4⟩ := imgB_iff.1 h1
  exact ⟨i, h3, k, h4, h2⟩
 ·rintro ⟨i, h3, k, h4, h2⟩
  exact ⟨k, imgB_iff.2 ⟨i, h3, h4⟩, h2⟩
theorem imgB_congr {R S : RelW} (h : ∀ i j, R i j ↔ S i j) (p : Nat → Bool) : imgB R p = imgB S p := setB_ext fun j => by
 rw [imgB_iff, imgB_iff]
 exact ⟨fun ⟨i, h1, h2⟩ => ⟨i, h1, (h i j).1 h2⟩, fun ⟨i, h1, h2⟩ => ⟨i, h1, (h i j).2 h2⟩⟩
theorem imgB_id (p : Nat → Bool) : imgB idR p = p := setB_ext fun j => by
 rw [imgB_iff]
 exact ⟨fun ⟨i, h1, h2⟩ => by have h2 : i = j := h2; rw [← h2]; exact h1, fun h => ⟨j, h, rfl⟩⟩
theorem imgB_next (R : RelW) (p : Nat → Bool) (k : Nat) : imgB R (imgB (itR R k) p) = imgB (itR R (k + 1)) p := by
 rw [imgB_comp]
 refine imgB_congr (fun i j => ?_) p
 rw [itR_add]
 exact ⟨fun ⟨m, h1, h2⟩ => ⟨m, h1, itR_one.2 h2⟩, fun ⟨m, h1, h2⟩ => ⟨m, h1, itR_one.1 h2⟩⟩
theorem imgB_fix {R : RelW} {p : Nat → Bool} {k : Nat} (h : imgB R (imgB (itR R k) p) = imgB (itR R k) p) : ∀ d, imgB (itR R (k + d)) p = imgB (itR R k) p
 | 0 => rfl
 | d + 1 => by
  rw [show k + (d + 1) = (k + d) + 1 by omega, ← imgB_next, imgB_fix h d, h]
theorem imgB_none {R : RelW} {p : Nat → Bool} (h : ∀ c, p c = false) (c : Nat) : imgB R p c = false := by
 cases h1 : imgB R p c with
 | false => rfl
 | true =>
  obtain ⟨i, h2, _⟩ := imgB_iff.1 h1
  rw [h] at h2
  cases h2
structure AgainB (R : RelW) (p0 p e : Nat → Bool) : Prop where
 start : ∀ c, p0 c = true → p c = true
 sound : ∀ c, p c = true → imgB (starR R) p0 c = true
 edge : ∀ c, e c = true → p c = true
 shut : ∀ i j, p i = true → e i = false → R i j → p j = true
theorem again_start (R : RelW) (p : Nat → Bool) : AgainB R p p p :=
 ⟨fun _ h => h, fun c h => imgB_iff.2 ⟨c, h, 0, rfl⟩, fun _ h => h, fun i j h1 h2 => by rw [h1] at h2; cases h2⟩
theorem AgainB.next {R : RelW} {p0 p e q : Nat → Bool} (h : AgainB R p0 p e) (hq : ∀ c, q c = true ↔ imgB R e c = true ∧ p c = false) : AgainB R p0 (fun c => p c || q c) q := by
 refine ⟨fun c hc => by simp [h.start c hc], fun c hc => ?_, fun c hc => by simp [hc], fun i j hp he hR => ?_⟩
 ·rw [Bool.or_eq_true] at hc
  rcases hc with hc | hc
  ·exact h.sound c hc
  ·obtain ⟨i, h1, h2⟩ := imgB_iff.1 ((hq c).1 hc).1
   obtain ⟨i0, h3, k, h4⟩ := imgB_iff.1 (h.sound i (h.edge i h1))
   exact imgB_iff.2 ⟨i0, h3, k + 1, itR_add.2 ⟨i, h4, itR_one.2 h2⟩⟩
 ·rw [Bool.or_eq_true] at hp ⊢
  rcases hp with hp | hp
  ·cases hei : e i with
   | false => exact .inl (h.shut i j hp hei hR)
   | true =>
    cases hpj : p j with
    | true => exact .inl rfl
    | false => exact .inr ((hq j).2 ⟨imgB_iff.2 ⟨i, hei, hR⟩, hpj⟩)
  ·rw [he] at hp
   cases hp
theorem AgainB.done {R : RelW} {p0 p e : Nat → Bool} (h : AgainB R p0 p e) (he : ∀ c, e c = false) : p = imgB (starR R) p0 := setB_ext fun c => ⟨h.sound c, fun hc => by
 obtain ⟨i, h1, k, h2⟩ := imgB_iff.1 hc
 have key : ∀ (k i : Nat), p i = true → itR R k i c → p c = true := by
  intro k
  induction k with
  | zero => exact fun i hp hk => by have hk : i = c := hk; rw [← hk]; exact hp
  | succ k ih =>
   rintro i hp ⟨m, h3, h4⟩
   exact ih m (h.shut i m hp (he i) h3) h4
 exact key k i (h.start i h1) h2⟩
def betweenR (R : RelW) (lo hi : Nat) : RelW := fun i j => ∃ k, lo ≤ k ∧ k ≤ hi ∧ itR R k i j
theorem between_one (R : RelW) (lo : Nat) (p : Nat → Bool) : imgB (betweenR R lo lo) p = imgB (itR R lo) p := imgB_congr (fun i j => ⟨fun ⟨k, h1, h2, h3⟩ => by
 obtain rfl : k = lo := by omega
 exact h3, fun h => ⟨lo, Nat.le_refl _, Nat.le_refl _, h⟩⟩) p
theorem between_more {R : RelW} {lo k : Nat} (hk : lo ≤ k) (p : Nat → Bool) : (fun c => imgB (betweenR R lo k) p c || imgB (itR R (k + 1)) p c) = imgB (betweenR R lo (k + 1)) p := setB_ext fun c => by
 rw [Bool.or_eq_true, imgB_iff, imgB_iff, imgB_iff]
 constructor
 ·rintro (⟨i, h1, m, h2, h3, h4⟩ | ⟨i, h1, h2⟩)
  ·exact ⟨i, h1, m, h2, by omega, h4⟩
  ·exact ⟨i, h1, k + 1, by omega, Nat.le_refl _, h2⟩
 ·rintro ⟨i, h1, m, h2, h3, h4⟩
  rcases Nat.lt_or_ge k m with h | h
  ·obtain rfl : m = k + 1 := by omega
   exact .inr ⟨i, h1, h4⟩
  ·exact .inl ⟨i, h1, m, h2, h, h4⟩
theorem between_fix {R : RelW} {lo k hi : Nat} (hk : lo ≤ k) (hh : k ≤ hi) {p : Nat → Bool} (h : imgB R (imgB (itR R k) p) = imgB (itR R k) p) : imgB (betweenR R lo k) p = imgB (betweenR R lo hi) p := setB_ext fun c => by
 rw [imgB_iff, imgB_iff]
 constructor
 ·rintro ⟨i, h1, m, h2, h3, h4⟩
  exact ⟨i, h1, m, h2, by omega, h4⟩
 ·rintro ⟨i, h1, m, h2, h3, h4⟩
  rcases Nat.lt_or_ge k m with hm | hm
  ·have h5 := imgB_fix h (m - k)
   rw [show k + (m - k) = m by omega] at h5
   have h6 : imgB (itR R m) p c = true := imgB_iff.2 ⟨i, h1, h4⟩
   rw [h5] at h6
   obtain ⟨i', h7, h8⟩ := imgB_iff.1 h6
   exact ⟨i', h7, k, hk, Nat.le_refl _, h8⟩
  ·exact ⟨i, h1, m, h2, hm, h4⟩
theorem rep_between (R : RelW) (lo hi : Nat) (i j : Nat) : repR (lo : Int) (hi : Int) R i j ↔ betweenR R lo hi i j :=
 ⟨fun ⟨k, h1, h2, h3⟩ => ⟨k, by omega, by omega, h3⟩, fun ⟨k, h1, h2, h3⟩ => ⟨k, by omega, .inr (by omega), h3⟩⟩
theorem rep_endless (R : RelW) (lo : Nat) (hi : Int) (hh : hi < 0) (i j : Nat) : repR (lo : Int) hi R i j ↔ ∃ m, itR R lo i m ∧ starR R m j := by
 constructor
 ·rintro ⟨k, h1, _, h3⟩
  obtain ⟨d, rfl⟩ : ∃ d, k = lo + d := ⟨k - lo, by omega⟩
  obtain ⟨m, h4, h5⟩ := itR_add.1 h3
  exact ⟨m, h4, d, h5⟩
 ·rintro ⟨m, h1, d, h2⟩
  exact ⟨lo + d, by omega, .inl hh, itR_add.2 ⟨m, h1, h2⟩⟩
theorem catR_snoc (R : RelW) : ∀ (Rs : List RelW) (i j : Nat), catR (Rs ++ [R]) i j ↔ ∃ m, catR Rs i m ∧ R m j
 | [], i, j => ⟨fun ⟨m, h1, h2⟩ => ⟨i, rfl, by have h2 : m = j := h2; rw [← h2]; exact h1⟩, fun ⟨m, h1, h2⟩ => ⟨j, by have h1 : i = m := h1; rw [h1]; exact h2, rfl⟩⟩
 | S :: Rs, i, j => by
  constructor
  ·rintro ⟨m, h1, h2⟩
   obtain ⟨m2, h3, h4⟩ := (catR_snoc R Rs m j).1 h2
   exact ⟨m2, ⟨m, h1, h3⟩, h4⟩
  ·rintro ⟨m2, ⟨m, h1, h3⟩, h4⟩
   exact ⟨m, h1, (catR_snoc R Rs m j).2 ⟨m2, h3, h4⟩⟩
theorem altR_snoc (R : RelW) (Rs : List RelW) (i j : Nat) : altR (Rs ++ [R]) i j ↔ altR Rs i j ∨ R i j := by
 unfold altR
 constructor
 ·rintro ⟨S, h1, h2⟩
  rcases List.mem_append.1 h1 with h | h
  ·exact .inl ⟨S, h, h2⟩
  ·rw [List.mem_singleton.1 h] at h2
   exact .inr h2
 ·rintro (⟨S, h1, h2⟩ | h)
  ·exact ⟨S, List.mem_append.2 (.inl h1), h2⟩
  ·exact ⟨R, by simp, h⟩
end Go.Proofs.YtfcblmbieiibmaaDoor
namespace Go.Proofs.YtfcblmbieiibmaaDoor
open Go.RowKit
set_option linter.unusedSimpArgs false
set_option linter.unusedVariables false
set_option maxRecDepth 100000
set_option maxHeartbeats 8000000
theorem low63M (n : Int) : bits .and .i64 n 63 = n % 64 := by
 have h63 : (BitVec.ofInt 64 63).toNat = 2 ^ 6 - 1 := by decide
 have key : (BitVec.ofInt 64 n &&& BitVec.ofInt 64 63).toNat = (n % ((2 ^ 64 : Nat) : Int)).toNat % 2 ^ 6 := by
  rw [BitVec.toNat_and, BitVec.toNat_ofInt, h63, Nat.and_two_pow_sub_one_eq_mod]
 show IntKind.i64.wrap ((BitVec.ofInt 64 n &&& BitVec.ofInt 64 63).toNat : Nat) = n % 64
 rw [key, IntKind.wrap_i64]
 omega
theorem set_grown (w : World) (g o : Nat) (v : Value) : w.grownBy (w.setCell ⟨g, o, none⟩ v) (some g) :=
 ⟨rfl, rfl, rfl, by simp [World.setCell], fun k _ hk => Below.heap_setCell _ _ _ _ (fun e => hk (by rw [e]))⟩
theorem grown_drew {w w' : World} {r : Option Nat} (h : w.grownBy w' r) : w.grownBy w'.drew r := ⟨h.os, h.tape, h.output, h.size, h.block⟩
theorem pput_go (g : Nat) (p : Nat → Bool) (i : Nat) (hi : i < 320) (w : World) (hG : Blk w g 51 #[.int .u64 (word p 0), .int .u64 (word p 1), .int .u64 (word p 2), .int .u64 (word p 3), .int .u64 (word p 4)]) :
  Calls Tryd.prog 78 #[.pointer (some ⟨g, 0, none⟩), .int .i64 (i : Int)] w fun e w' => e = .returned (.tuple #[]) ∧ Blk w' g 51 #[.int .u64 (word (withB p i) 0), .int .u64 (word (withB p i) 1), .int .u64 (word (withB p i) 2), .int .u64 (word (withB p i) 3), .int .u64 (word (withB p i) 4)] ∧ w.grownBy w' (some g) := by
 have h0 : (0 : Int) ≤ (i : Int) := by omega
 have hlg := hG.lt
 have h63 := low63M (i : Int)
 have hm0 : 0 ≤ (i : Int) % 64 := by omega
 have hm1 : (i : Int) % 64 < 64 := by omega
 obtain hq | hq | hq | hq | hq : (i : Int) / 64 = 0 ∨ (i : Int) / 64 = 1 ∨ (i : Int) / 64 = 2 ∨ (i : Int) / 64 = 3 ∨ (i : Int) / 64 = 4 := by omega
 ·have y := hG.cell 0
  have f := hG.frozen 0
  simp only [List.getElem?_toArray, List.getElem?_cons_zero, List.getElem?_cons_succ] at y
  have hB := with_or p (i : Int) 0 h0 hq
  rw [Int.toNat_natCast, show ((i : Int) % 64).toNat = i % 64 by omega] at hB
  have HE := Lib.hid (show Blk ((w.setCell ⟨g, 0, none⟩ (.int .u64 (word (withB p i) 0))).drew) g 51 #[.int .u64 (word (withB p i) 0), .int .u64 (word (withB p i) 1), .int .u64 (word (withB p i) 2), .int .u64 (word (withB p i) 3), .int .u64 (word (withB p i) 4)] from by
   have h := (hG.set_ 0 (.int .u64 (word (withB p i) 0))).drew
   rw [show word (withB p i) 1 = word p 1 from (by have := with_other p (i : Int) 0 1 h0 hq (by decide); rwa [Int.toNat_natCast] at this), show word (withB p i) 2 = word p 2 from (by have := with_other p (i : Int) 0 2 h0 hq (by decide); rwa [Int.toNat_natCast] at this), show word (withB p i) 3 = word p 3 from (by have := with_other p (i : Int) 0 3 h0 hq (by decide); rwa [Int.toNat_natCast] at this), show word (withB p i) 4 = word p 4 from (by have := with_other p (i : Int) 0 4 h0 hq (by decide); rwa [Int.toNat_natCast] at this)]
   exact h)
  clear hG
  go_enter Tryd.func78, Tryd.ntmps78
  go_wp2_with fail
  go_region
  clear y f hB
  go_end0
  exact ⟨rfl, HE.out, grown_drew (set_grown w g 0 _)⟩
 ·have y := hG.cell 1
  have f := hG.frozen 1
  simp only [List.getElem?_toArray, List.getElem?_cons_zero, List.getElem?_cons_succ] at y
  have hB := with_or p (i : Int) 1 h0 hq
  rw [Int.toNat_natCast, show ((i : Int) % 64).toNat = i % 64 by omega] at hB
  have HE := Lib.hid (show Blk ((w.setCell ⟨g, 1, none⟩ (.int .u64 (word (withB p i) 1))).drew) g 51 #[.int .u64 (word (withB p i) 0), .int .u64 (word (withB p i) 1), .int .u64 (word (withB p i) 2), .int .u64 (word (withB p i) 3), .int .u64 (word (withB p i) 4)] from by
   have h := (hG.set_ 1 (.int .u64 (word (withB p i) 1))).drew
   rw [show word (withB p i) 0 = word p 0 from (by have := with_other p (i : Int) 1 0 h0 hq (by decide); rwa [Int.toNat_natCast] at this), show word (withB p i) 2 = word p 2 from (by have := with_other p (i : Int) 1 2 h0 hq (by decide); rwa [Int.toNat_natCast] at this), show word (withB p i) 3 = word p 3 from (by have := with_other p (i : Int) 1 3 h0 hq (by decide); rwa [Int.toNat_natCast] at this), show word (withB p i) 4 = word p 4 from (by have := with_other p (i : Int) 1 4 h0 hq (by decide); rwa [Int.toNat_natCast] at this)]
   exact h)
  clear hG
  go_enter Tryd.func78, Tryd.ntmps78
  go_wp2_with fail
  go_region
  clear y f hB
  go_end0
  exact ⟨rfl, HE.out, grown_drew (set_grown w g 1 _)⟩
 ·have y := hG.cell 2
  have f := hG.frozen 2
  simp only [List.getElem?_toArray, List.getElem?_cons_zero, List.getElem?_cons_succ] at y
  have hB := with_or p (i : Int) 2 h0 hq
  rw [Int.toNat_natCast, show ((i : Int) % 64).toNat = i % 64 by omega] at hB
  have HE := Lib.hid (show Blk ((w.setCell ⟨g, 2, none⟩ (.int .u64 (word (withB p i) 2))).drew) g 51 #[.int .u64 (word (withB p i) 0), .int .u64 (word (withB p i) 1), .int .u64 (word (withB p i) 2), .int .u64 (word (withB p i) 3), .int .u64 (word (withB p i) 4)] from by
   have h := (hG.set_ 2 (.int .u64 (word (withB p i) 2))).drew
   rw [show word (withB p i) 0 = word p 0 from (by have := with_other p (i : Int) 2 0 h0 hq (by decide); rwa [Int.toNat_natCast] at this), show word (withB p i) 1 = word p 1 from (by have := with_other p (i : Int) 2 1 h0 hq (by decide); rwa [Int.toNat_natCast] at this), show word (withB p i) 3 = word p 3 from (by have := with_other p (i : Int) 2 3 h0 hq (by decide); rwa [Int.toNat_natCast] at this), show word (withB p i) 4 = word p 4 from (by have := with_other p (i : Int) 2 4 h0 hq (by decide); rwa [Int.toNat_natCast] at this)]
   exact h)
  clear hG
  go_enter Tryd.func78, Tryd.ntmps78
  go_wp2_with fail
  go_region
  clear y f hB
  go_end0
  exact ⟨rfl, HE.out, grown_drew (set_grown w g 2 _)⟩
 ·have y := hG.cell 3
  have f := hG.frozen 3
  simp only [List.getElem?_toArray, List.getElem?_cons_zero, List.getElem?_cons_succ] at y
  have hB := with_or p (i : Int) 3 h0 hq
  rw [Int.toNat_natCast, show ((i : Int) % 64).toNat = i % 64 by omega] at hB
  have HE := Lib.hid (show Blk ((w.setCell ⟨g, 3, none⟩ (.int .u64 (word (withB p i) 3))).drew) g 51 #[.int .u64 (word (withB p i) 0), .int .u64 (word (withB p i) 1), .int .u64 (word (withB p i) 2), .int .u64 (word (withB p i) 3), .int .u64 (word (withB p i) 4)] from by
   have h := (hG.set_ 3 (.int .u64 (word (withB p i) 3))).drew
   rw [show word (withB p i) 0 = word p 0 from (by have := with_other p (i : Int) 3 0 h0 hq (by decide); rwa [Int.toNat_natCast] at this), show word (withB p i) 1 = word p 1 from (by have := with_other p (i : Int) 3 1 h0 hq (by decide); rwa [Int.toNat_natCast] at this), show word (withB p i) 2 = word p 2 from (by have := with_other p (i : Int) 3 2 h0 hq (by decide); rwa [Int.toNat_natCast] at this), show word (withB p i) 4 = word p 4 from (by have := with_other p (i : Int) 3 4 h0 hq (by decide); rwa [Int.toNat_natCast] at this)]
   exact h)
  clear hG
  go_enter Tryd.func78, Tryd.ntmps78
  go_wp2_with fail
  go_region
  clear y f hB
  go_end0
  exact ⟨rfl, HE.out, grown_drew (set_grown w g 3 _)⟩
 ·have y := hG.cell 4
  have f := hG.frozen 4
  simp only [List.getElem?_toArray, List.getElem?_cons_zero, List.getElem?_cons_succ] at y
  have hB := with_or p (i : Int) 4 h0 hq
  rw [Int.toNat_natCast, show ((i : Int) % 64).toNat = i % 64 by omega] at hB
  have HE := Lib.hid (show Blk ((w.setCell ⟨g, 4, none⟩ (.int .u64 (word (withB p i) 4))).drew) g 51 #[.int .u64 (word (withB p i) 0), .int .u64 (word (withB p i) 1), .int .u64 (word (withB p i) 2), .int .u64 (word (withB p i) 3), .int .u64 (word (withB p i) 4)] from by
   have h := (hG.set_ 4 (.int .u64 (word (withB p i) 4))).drew
   rw [show word (withB p i) 0 = word p 0 from (by have := with_other p (i : Int) 4 0 h0 hq (by decide); rwa [Int.toNat_natCast] at this), show word (withB p i) 1 = word p 1 from (by have := with_other p (i : Int) 4 1 h0 hq (by decide); rwa [Int.toNat_natCast] at this), show word (withB p i) 2 = word p 2 from (by have := with_other p (i : Int) 4 2 h0 hq (by decide); rwa [Int.toNat_natCast] at this), show word (withB p i) 3 = word p 3 from (by have := with_other p (i : Int) 4 3 h0 hq (by decide); rwa [Int.toNat_natCast] at this)]
   exact h)
  clear hG
  go_enter Tryd.func78, Tryd.ntmps78
  go_wp2_with fail
  go_region
  clear y f hB
  go_end0
  exact ⟨rfl, HE.out, grown_drew (set_grown w g 4 _)⟩
theorem u64_but_nat (p q : Nat → Bool) (i : Nat) : bits .andNot .u64 ((word p i : Nat) : Int) ((word q i : Nat) : Int) = ((word (fun c => p c && !q c) i : Nat) : Int) := by
 have h := u64_andNot_nat (word p i) (word q i) (word_lt p i) (word_lt q i)
 rw [h, ← word_and, ← word_not]
 try rfl
theorem u64_with_nat (p q : Nat → Bool) (i : Nat) : bits .or .u64 ((word p i : Nat) : Int) ((word q i : Nat) : Int) = ((word (fun c => p c || q c) i : Nat) : Int) := by
 rw [u64_or_nat _ _ (word_lt p i) (word_lt q i), word_or]
theorem phas_go (p : Nat → Bool) (i : Nat) (hi : i < 320) (w : World) :
  Calls Tryd.prog 31 #[.agg #[.int .u64 (word p 0), .int .u64 (word p 1), .int .u64 (word p 2), .int .u64 (word p 3), .int .u64 (word p 4)], .int .i64 (i : Int)] w fun e w' => e = .returned (.bool (p i)) ∧ Below w.heap.size w w' := by
 have h0 : (0 : Int) ≤ (i : Int) := by omega
 have h63 := low63M (i : Int)
 have hm0 : 0 ≤ (i : Int) % 64 := by omega
 have hm1 : (i : Int) % 64 < 64 := by omega
 obtain hq | hq | hq | hq | hq : (i : Int) / 64 = 0 ∨ (i : Int) / 64 = 1 ∨ (i : Int) / 64 = 2 ∨ (i : Int) / 64 = 3 ∨ (i : Int) / 64 = 4 := by omega
 ·have hB := has_bit p (i : Int) 0 h0 hq
  rw [Int.toNat_natCast, show ((i : Int) % 64).toNat = i % 64 by omega] at hB
  go_enter Tryd.func31, Tryd.ntmps31
  go_wp2
  go_light
  go_ret
  exact ⟨rfl, (Below.refl _ _).alloc (Nat.le_refl _) _⟩
 ·have hB := has_bit p (i : Int) 1 h0 hq
  rw [Int.toNat_natCast, show ((i : Int) % 64).toNat = i % 64 by omega] at hB
  go_enter Tryd.func31, Tryd.ntmps31
  go_wp2
  go_light
  go_ret
  exact ⟨rfl, (Below.refl _ _).alloc (Nat.le_refl _) _⟩
 ·have hB := has_bit p (i : Int) 2 h0 hq
  rw [Int.toNat_natCast, show ((i : Int) % 64).toNat = i % 64 by omega] at hB
  go_enter Tryd.func31, Tryd.ntmps31
  go_wp2
  go_light
  go_ret
  exact ⟨rfl, (Below.refl _ _).alloc (Nat.le_refl _) _⟩
 ·have hB := has_bit p (i : Int) 3 h0 hq
  rw [Int.toNat_natCast, show ((i : Int) % 64).toNat = i % 64 by omega] at hB
  go_enter Tryd.func31, Tryd.ntmps31
  go_wp2
  go_light
  go_ret
  exact ⟨rfl, (Below.refl _ _).alloc (Nat.le_refl _) _⟩
 ·have hB := has_bit p (i : Int) 4 h0 hq
  rw [Int.toNat_natCast, show ((i : Int) % 64).toNat = i % 64 by omega] at hB
  go_enter Tryd.func31, Tryd.ntmps31
  go_wp2
  go_light
  go_ret
  exact ⟨rfl, (Below.refl _ _).alloc (Nat.le_refl _) _⟩
@[go_sem] theorem index5_0 (a b c d e : Value) (w : World) : (Instr.index 51 (.agg #[a, b, c, d, e]) (.int .i64 0)).run Tryd.prog w = .ok a w := by kernel_rfl
@[go_sem] theorem index5_1 (a b c d e : Value) (w : World) : (Instr.index 51 (.agg #[a, b, c, d, e]) (.int .i64 1)).run Tryd.prog w = .ok b w := by kernel_rfl
@[go_sem] theorem index5_2 (a b c d e : Value) (w : World) : (Instr.index 51 (.agg #[a, b, c, d, e]) (.int .i64 2)).run Tryd.prog w = .ok c w := by kernel_rfl
@[go_sem] theorem index5_3 (a b c d e : Value) (w : World) : (Instr.index 51 (.agg #[a, b, c, d, e]) (.int .i64 3)).run Tryd.prog w = .ok d w := by kernel_rfl
@[go_sem] theorem index5_4 (a b c d e : Value) (w : World) : (Instr.index 51 (.agg #[a, b, c, d, e]) (.int .i64 4)).run Tryd.prog w = .ok e w := by kernel_rfl
theorem ret_pl {fn : Func} {t2 : Tmp} (h : fn.results = #[.cell t2 51]) {tmps : Array Value} {w : World} {g : Nat} {a0 a1 a2 a3 a4 : Value}
  (hp : tmps.getD t2 undef = .pointer (some ⟨g, 0, none⟩)) (hb : Blk w g 51 #[a0, a1, a2, a3, a4]) :
  (results fn tmps).run Tryd.prog w = .ok (.agg #[a0, a1, a2, a3, a4]) w :=
 results_cell_row h tmps w g _ _ _ _ hp hb Tryd.underlying51 rfl (by kernel_rfl)
theorem Blk.set5w {w : World} {g : Nat} {t : TypeId} {a b c d e a' b' c' d' e' : Value} (h : Blk w g t #[a, b, c, d, e]) : Blk (((((w.setCell ⟨g, 0, none⟩ a').setCell ⟨g, 1, none⟩ b').setCell ⟨g, 2, none⟩ c').setCell ⟨g, 3, none⟩ d').setCell ⟨g, 4, none⟩ e') g t #[a', b', c', d', e'] :=
 ((((h.set_ 0 a').set_ 1 b').set_ 2 c').set_ 3 d').set_ 4 e'
theorem pwith_go (p q : Nat → Bool) (w : World) :
  Calls Tryd.prog 81 #[.agg #[.int .u64 (word p 0), .int .u64 (word p 1), .int .u64 (word p 2), .int .u64 (word p 3), .int .u64 (word p 4)], .agg #[.int .u64 (word q 0), .int .u64 (word q 1), .int .u64 (word q 2), .int .u64 (word q 3), .int .u64 (word q 4)]] w fun e w' => e = .returned (.agg #[.int .u64 (word (fun c => p c || q c) 0), .int .u64 (word (fun c => p c || q c) 1), .int .u64 (word (fun c => p c || q c) 2), .int .u64 (word (fun c => p c || q c) 3), .int .u64 (word (fun c => p c || q c) 4)]) ∧ Below w.heap.size w w' := by
 have o0 := u64_with_nat p q 0
 have o1 := u64_with_nat p q 1
 have o2 := u64_with_nat p q 2
 have o3 := u64_with_nat p q 3
 have o4 := u64_with_nat p q 4
 go_enter Tryd.func81, Tryd.ntmps81
 go_wp2
 refine wp_loop_rounds 6 ?_
 rw [rounds_succ]
 go_wp2
 rw [rounds_succ]
 go_wp2
 rw [rounds_succ]
 go_wp2
 rw [rounds_succ]
 go_wp2
 rw [rounds_succ]
 go_wp2
 rw [rounds_succ]
 go_wp2
 go_light
 refine bodyPost_ret (ret_pl Tryd.results81 rfl ?_) rfl ⟨rfl, ?_⟩
 ·exact Blk.new_at (by simp)
 ·exact (((Below.refl _ _).alloc (Nat.le_refl _) _).alloc (by simp) _).alloc (by simp; omega) _
theorem pbut_go (p q : Nat → Bool) (w : World) :
  Calls Tryd.prog 93 #[.agg #[.int .u64 (word p 0), .int .u64 (word p 1), .int .u64 (word p 2), .int .u64 (word p 3), .int .u64 (word p 4)], .agg #[.int .u64 (word q 0), .int .u64 (word q 1), .int .u64 (word q 2), .int .u64 (word q 3), .int .u64 (word q 4)]] w fun e w' => e = .returned (.agg #[.int .u64 (word (fun c => p c && !q c) 0), .int .u64 (word (fun c => p c && !q c) 1), .int .u64 (word (fun c => p c && !q c) 2), .int .u64 (word (fun c => p c && !q c) 3), .int .u64 (word (fun c => p c && !q c) 4)]) ∧ Below w.heap.size w w' := by
 have o0 := u64_but_nat p q 0
 have o1 := u64_but_nat p q 1
 have o2 := u64_but_nat p q 2
 have o3 := u64_but_nat p q 3
 have o4 := u64_but_nat p q 4
 go_enter Tryd.func93, Tryd.ntmps93
 go_wp2
 refine wp_loop_rounds 6 ?_
 rw [rounds_succ]
 go_wp2
 rw [rounds_succ]
 go_wp2
 rw [rounds_succ]
 go_wp2
 rw [rounds_succ]
 go_wp2
 rw [rounds_succ]
 go_wp2
 rw [rounds_succ]
 go_wp2
 go_light
 refine bodyPost_ret (ret_pl Tryd.results93 rfl ?_) rfl ⟨rfl, ?_⟩
 ·exact Blk.new_at (by simp)
 ·exact (((Below.refl _ _).alloc (Nat.le_refl _) _).alloc (by simp) _).alloc (by simp; omega) _
end Go.Proofs.YtfcblmbieiibmaaDoor
namespace Go.Proofs.YtfcblmbieiibmaaDoor
open Go.RowKit Go.Shelf
set_option linter.unusedSimpArgs false
set_option linter.unusedVariables false
set_option maxRecDepth 100000
set_option maxHeartbeats 8000000
attribute [local go_sem] Oper.semAt_some
theorem index_pl (p : Nat → Bool) (i : Nat) (hi : i < 5) (w : World) : (Instr.index 51 (.agg #[.int .u64 (word p 0), .int .u64 (word p 1), .int .u64 (word p 2), .int .u64 (word p 3), .int .u64 (word p 4)]) (.int .i64 (i : Int))).run Tryd.prog w = .ok (.int .u64 ((word p i : Nat) : Int)) w := by
 rcases i with _ | _ | _ | _ | _ | i
 ·exact index5_0 ..
 ·exact index5_1 ..
 ·exact index5_2 ..
 ·exact index5_3 ..
 ·exact index5_4 ..
 ·omega
def placeArg (x : Nat) : Array Value := #[.int .i64 (x : Int)]
theorem pall1_in (n : Nat) (hn : 1 ≤ n) (p : Nat → Bool) (l Bs n₀ : Nat) (hBs : 0 < n₀) (J Jx : List Nat → World → Prop)
  (hY : ∀ pre x W, J pre W → pre.length < 320 → p x = true → YieldAt Fence.wide (n - 1) Tryd.prog l (placeArg x) W fun e W' =>
   (e = .returned (.bool true) ∧ J (pre ++ [x]) W' ∧ Below n₀ W W') ∨ (e = .returned (.bool false) ∧ Jx (pre ++ [x]) W'))
  (W : World) (hs : Blk W Bs 51 #[.int .u64 (word p 0), .int .u64 (word p 1), .int .u64 (word p 2), .int .u64 (word p 3), .int .u64 (word p 4)]) (hT : TabAt 0 Lib.deBruijn64tab W) (h0 : J [] W) :
  CallsIn Fence.wide n Tryd.prog 46 #[.func (.yield l) #[] #[], .pointer (some ⟨Bs, 0, none⟩)] W fun e W' => (∃ v, e = .returned v) ∧
   ((∃ ys, ys = elems p 320 ∧ J ys W') ∨ (∃ pre, (∃ k, k ≤ 320 ∧ pre = elems p k) ∧ Jx pre W')) := by
 refine callsIn_of_wp Tryd.func46 rfl trivial ?_ rfl
 simp only [Tryd.ntmps46, List.size_toArray, List.length_cons, List.length_nil, Nat.reduceAdd, Nat.reduceSub, Array.replicate_succ, Array.replicate_zero, List.push_toArray, List.append_toArray, List.nil_append, List.cons_append]
 have s0 := hs.cell 0
 have s1 := hs.cell 1
 have s2 := hs.cell 2
 have s3 := hs.cell 3
 have s4 := hs.cell 4
 simp only [List.getElem?_toArray, List.getElem?_cons_zero, List.getElem?_cons_succ] at s0 s1 s2 s3 s4
 gi_wp2
 gi_loopw [6] (fun v wr => ∃ i : Nat, i ≤ 5 ∧ v = .int .i64 (i : Int) ∧ J (elems p (64 * i)) wr ∧ Below n₀ W wr)
  (fun v _ => 5 - (intOf v).toNat)
 case atStart => exact ⟨0, by omega, rfl, h0, Below.refl _ _⟩
 case round =>
  obtain ⟨i, hi, rfl, hJ, hB⟩ := hrel
  by_cases hlt : i < 5
  ·have hix := index_pl p i hlt
   gi_wp2
   have hd : decide ((i : Int) < 5) = true := by simp; omega
   rw [hd]
   gi_loopw [4] (fun v w2 => ∃ m : Nat, m ≤ 64 * i + 64 ∧ 64 * i ≤ m ∧ v = .int .u64 ((word (fun c => p c && decide (m ≤ c)) i : Nat) : Int) ∧ J (elems p m) w2 ∧ Below n₀ W w2)
    (fun v _ => (intOf v).toNat)
   case atStart => exact ⟨64 * i, by omega, Nat.le_refl _, by rw [word_start], hJ, hB⟩
   case round =>
    obtain ⟨m, hm1, hm2, rfl, hJ2, hB2⟩ := hrel
    by_cases hz : word (fun c => p c && decide (m ≤ c)) i = 0
    ·have hend := elems_end p i m hm1 hm2 hz
     rw [hz]
     gi_wp2
     exact ⟨⟨i + 1, by omega, by simp, by rw [hend]; exact hJ2, hB2⟩, by simp [intOf]; omega⟩
    ·obtain ⟨hk, hmk, hel, hand, hless⟩ := elems_next p i m hm1 hm2 hz
     have hx := word_lt (fun c => p c && decide (m ≤ c)) i
     generalize hwx : word (fun c => p c && decide (m ≤ c)) i = x at *
     have hx0 : ((x : Int) == 0) = false := by simp; omega
     have hTx : TabAt 0 Lib.deBruijn64tab _ := fun j hj => (hB2.cell (p := ⟨0, j, none⟩) (by show 0 < n₀; omega)).trans (hT j hj)
     have htz := tz_go x hx hz _ hTx
     generalize Lib.ctz 64 x = k at *
     obtain ⟨fn, tmps, assign, body, hy, hR⟩ := hY _ (64 * i + k) _ hJ2 (by have := elems_len p m; omega) (by
      have h9 : 64 * i + k ∈ elems p (64 * i + k + 1) := by rw [hel]; simp
      unfold elems at h9
      exact (List.mem_filter.1 h9).2)
     unfold placeArg at hy
     have ev : ((64 * i + k : Nat) : Int) = (i : Int) * 64 + (k : Int) := by omega
     rw [ev] at hy
     have esub : IntKind.u64.wrap ((x : Int) - 1) = ((x - 1 : Nat) : Int) := by rw [IntKind.wrap_u64]; omega
     have eand : bits .and .u64 (x : Int) ((x - 1 : Nat) : Int) = ((word (fun c => p c && decide (64 * i + k + 1 ≤ c)) i : Nat) : Int) := by
      rw [← hand]; exact u64_and_nat x (x - 1) hx (by omega)
     clear hwx
     gi_wp2_with (refine ⟨trivial, ?_⟩; gi_at_call 47; refine (callsIn_wide.2 htz).mono ?_; rintro e w' ⟨rfl, rfl⟩)
     refine hR.mono ?_
     rintro e W3 (⟨rfl, hJ3, hk3⟩ | ⟨rfl, hJx3⟩)
     ·gi_wp2
      go_roundw
      case rel => exact ⟨64 * i + k + 1, by omega, by omega, rfl, by rw [hel]; exact hJ3, hB2.trans hk3⟩
      case measure => simp [intOf]; omega
     ·gi_wp2
      refine bodyPost_ret (results_none rfl _ _ _) rfl ?_
      exact ⟨⟨_, rfl⟩, .inr ⟨_, ⟨64 * i + k + 1, by omega, hel.symm⟩, hJx3⟩⟩
  ·obtain rfl : i = 5 := by omega
   gi_wp2
   go_end0
   exact ⟨⟨_, rfl⟩, .inl ⟨_, rfl, hJ⟩⟩
theorem pall_go (p : Nat → Bool) (w : World) :
  Calls Tryd.prog 29 #[.agg #[.int .u64 (word p 0), .int .u64 (word p 1), .int .u64 (word p 2), .int .u64 (word p 3), .int .u64 (word p 4)]] w fun e w' => e = .returned (.func (.func 46) #[] #[.pointer (some ⟨w.heap.size, 0, none⟩)]) ∧ w' = w.alloc (.cells #[.int .u64 (word p 0), .int .u64 (word p 1), .int .u64 (word p 2), .int .u64 (word p 3), .int .u64 (word p 4)] 51) := by
 go_enter Tryd.func29, Tryd.ntmps29
 go_wp2
 go_light
 go_ret
 exact ⟨rfl, rfl⟩
theorem pall_stops (n : Nat) (hn : 1 ≤ n) (p : Nat → Bool) (Bs n₀ : Nat) (w : World) (hBs : 0 < n₀) (hBw : Bs < w.heap.size) (hs : Blk w Bs 51 #[.int .u64 (word p 0), .int .u64 (word p 1), .int .u64 (word p 2), .int .u64 (word p 3), .int .u64 (word p 4)]) (hT : TabAt 0 Lib.deBruijn64tab w) :
  SeqStopsK Fence.wide n Tryd.prog 46 #[.pointer (some ⟨Bs, 0, none⟩)] placeArg (Below n₀) (fun ys => ys = elems p 320) (fun pre => ∃ k, k ≤ 320 ∧ pre = elems p k) 320 w := fun l J Jx W hW _ _ hY h0 =>
 pall1_in n hn p l Bs n₀ hBs J Jx (fun pre x W h1 h2 _ => hY pre x W h1 h2) W (hs.below hW hBw) (TabAt.below hW (World.block_lt_of_cell? w _ (hT 0 (by decide))) hT) h0
theorem pall_sub (n : Nat) (hn : 1 ≤ n) (p : Nat → Bool) (m : Nat) (hm : ∀ c, p c = true → c ≤ m) (Bs n₀ : Nat) (w : World) (hBs : 0 < n₀) (hBw : Bs < w.heap.size) (hs : Blk w Bs 51 #[.int .u64 (word p 0), .int .u64 (word p 1), .int .u64 (word p 2), .int .u64 (word p 3), .int .u64 (word p 4)]) (hT : TabAt 0 Lib.deBruijn64tab w) :
  SeqStopsK Fence.wide n Tryd.prog 46 #[.pointer (some ⟨Bs, 0, none⟩)] (fun x : {c : Nat // c ≤ m} => placeArg x.1) (Below n₀) (fun ys => ys.map (·.1) = elems p 320) (fun pre => ∃ k, k ≤ 320 ∧ pre.map (·.1) = elems p k) 320 w := fun l J Jx W hW _ _ hY h0 => by
 refine (pall1_in n hn p l Bs n₀ hBs (fun pre W => ∃ q : List {c : Nat // c ≤ m}, q.map (·.1) = pre ∧ J q W) (fun pre W => ∃ q : List {c : Nat // c ≤ m}, q.map (·.1) = pre ∧ Jx q W) (fun pre x W1 hJ hl hpx => by
  obtain ⟨q, rfl, hJ⟩ := hJ
  refine (hY q ⟨x, hm x hpx⟩ W1 hJ (by simpa using hl)).mono fun e W' h => ?_
  rcases h with ⟨h1, h2, h3⟩ | ⟨h1, h2⟩
  ·exact .inl ⟨h1, ⟨_, by simp, h2⟩, h3⟩
  ·exact .inr ⟨h1, _, by simp, h2⟩) W (hs.below hW hBw) (TabAt.below hW (World.block_lt_of_cell? w _ (hT 0 (by decide))) hT) ⟨[], rfl, h0⟩).mono ?_
 rintro e W' ⟨h1, h2⟩
 refine ⟨h1, ?_⟩
 rcases h2 with ⟨ys, h3, q, h4, h5⟩ | ⟨pre, h3, q, h4, h5⟩
 ·exact .inl ⟨q, h4.trans h3, h5⟩
 ·obtain ⟨k, h6, h7⟩ := h3
  exact .inr ⟨q, ⟨k, h6, h4.trans h7⟩, h5⟩
end Go.Proofs.YtfcblmbieiibmaaDoor
namespace Go.Proofs.YtfcblmbieiibmaaDoor
open Go.RowKit Go.MapKept Go.ChangeMaps Go.Maps
set_option linter.unusedSimpArgs false
set_option linter.unusedVariables false
set_option maxRecDepth 100000
set_option maxHeartbeats 8000000
section
variable {κ : Type} {key : κ → Value} {ok : κ → Prop} {good : κ → Value → Prop} {w w1 : World} {b : Nat} {k t E : TypeId} {P : Program}
def MemoAt (key : κ → Value) (ok : κ → Prop) (good : κ → Value → Prop) (w : World) (b : Nat) : Prop :=
 ∃ es clock, w.heap[b]? = some (.map es clock) ∧ Stamped es clock ∧ ∀ x ∈ es.toList, ∃ q, ok q ∧ x.key = key q ∧ good q x.val
theorem MemoAt.lt (h : MemoAt key ok good w b) : b < w.heap.size := by
 obtain ⟨es, clock, hb, _⟩ := h
 exact (Array.getElem?_eq_some_iff.1 hb).1
theorem memo_made (w : World) : MemoAt key ok good (w.alloc (.map #[] 0)) w.heap.size := ⟨#[], 0, (heap_alloc w _).1, stamped_empty 0, by simp⟩
theorem MemoAt.stay (h : MemoAt key ok good w b) (hb : w1.heap[b]? = w.heap[b]?) : MemoAt key ok good w1 b := by
 obtain ⟨es, clock, h1, h2⟩ := h
 exact ⟨es, clock, hb.trans h1, h2⟩
theorem MemoAt.store (h : MemoAt key ok good w b) (K : Keyed P k) (ht : P.underlying t = some (.map k E)) (hk : ∀ q, ok q → ∃ l, keyOf P k (key q) = some l) {q : κ} (hq : ok q) {v : Value} (hv : good q v) :
  ∃ w2, (Instr.mapUpdate t (.map (some b)) (key q) v).run P w = .ok () w2 ∧ MemoAt key ok good w2 b ∧ w.grownBy w2 (some b) := by
 obtain ⟨es, clock, hb, h1, h2⟩ := h
 obtain ⟨l, hl⟩ := hk q hq
 have hg2 : ∀ es' clock', w.grownBy (setBlock w b (.map es' clock')) (some b) := fun es' clock' => ⟨rfl, rfl, rfl, by simp [setBlock], fun i _ hi => heap_setBlock_other hb _ (fun e1 => hi (by rw [e1]))⟩
 rcases K.find w hl es.toList (fun x hx => by
  obtain ⟨q', h3, h4, _⟩ := h2 x hx
  rw [h4]
  exact hk q' h3) with ⟨f1, f2⟩ | ⟨j, e0, f1, f2, f3⟩
 ·refine ⟨setBlock w b (.map (es.push ⟨key q, v, clock⟩) (clock + 1)), ?_, ⟨_, _, heap_setBlock_same hb _, stamped_push h1 f2, fun x hx => ?_⟩, hg2 _ _⟩
  ·simp [Instr.mapUpdate, run_underlying ht, MapKept.run_getObj_map hb, K.check w false hl, f1, MapKept.run_setObj_map _ hb, Result.andThen, setBlock]
  ·simp only [Array.toList_push, List.mem_append, List.mem_singleton] at hx
   rcases hx with hx | rfl
   ·exact h2 x hx
   ·exact ⟨q, hq, rfl, hv⟩
 ·have hj : es[j]? = some e0 := by simpa using f2
  have hkeyf : ∀ e', es[j]? = some e' → ({ e' with key := key q, val := v } : MapEntry).key = e'.key := fun e' he' => by rw [hj] at he'; cases he'; exact f3.symm
  have hlist : (es.modify j (fun e' => { e' with key := key q, val := v })).toList = es.toList.set j { e0 with key := key q, val := v } := by rw [Array.toList_modify, modify_eq_set _ _ _ _ f2]
  refine ⟨setBlock w b (.map (es.modify j (fun e' => { e' with key := key q, val := v })) clock), ?_, ⟨_, _, heap_setBlock_same hb _, stamped_modify h1 _ _ (fun _ _ => rfl) (fun e' _ he' => hkeyf e' he'), fun x hx => ?_⟩, hg2 _ _⟩
  ·simp [Instr.mapUpdate, run_underlying ht, MapKept.run_getObj_map hb, K.check w false hl, f1, hj, f3, K.stays w hl, MapKept.run_setObj_map _ hb, Result.andThen, setBlock]
  ·rw [hlist] at hx
   rcases List.mem_or_eq_of_mem_set hx with hx | rfl
   ·exact h2 x hx
   ·exact ⟨q, hq, rfl, hv⟩
end
end Go.Proofs.YtfcblmbieiibmaaDoor
namespace Go.Proofs.YtfcblmbieiibmaaDoor
open Go.RowKit Go.Maps
set_option linter.unusedSimpArgs false
set_option linter.unusedVariables false
set_option maxRecDepth 100000
set_option maxHeartbeats 8000000
def askV (q : Int × Int) : Value := .agg #[.int .i64 q.1, .int .i64 q.2]
theorem askV_inj (q q' : Int × Int) (h : askV q = askV q') : q = q' := by
 obtain ⟨a, b⟩ := q
 obtain ⟨c, d⟩ := q'
 unfold askV at h
 simp at h
 rw [h.1, h.2]
theorem laidOutM : laidOutB Tryd.prog = true := by kernel_rfl
theorem askRow : (95 : TypeId) < Tryd.prog.types.size := of_decide_eq_true (by kernel_rfl)
theorem askWide : (match Tryd.prog.underlying 95 with | some (.array _ _) | some (.struct _) => true | _ => false) = true := by rw [Tryd.underlying95]
theorem askKeyed : Keyed Tryd.prog 95 := Keyed.of_law (deep_law_laid laidOutM (m := 2) (by omega) askRow (by kernel_rfl) askWide)
theorem askSize : ∃ m, Tryd.prog.types.size = m + 1 := ⟨_, (Nat.sub_add_cancel (Nat.lt_of_le_of_lt (Nat.zero_le _) askRow)).symm⟩
def okA (q : Int × Int) : Prop := (Lit.int .i64 q.1).wf = true ∧ (Lit.int .i64 q.2).wf = true
theorem askCells : Tryd.prog.cellsOf 95 = 2 := by kernel_rfl
theorem intCells : Tryd.prog.cellsOf 3 = 1 := by kernel_rfl
theorem askType : Tryd.prog.keyType 95 = true := by kernel_rfl
theorem ask_lits (q : Int × Int) (h : okA q) (m : Nat) : Tryd.prog.keyLits (m + 1 + 1) 95 [.int .i64 q.1, .int .i64 q.2] = some [.int .i64 q.1, .int .i64 q.2] := by
 obtain ⟨wa, wb⟩ := h
 unfold Program.keyLits
 simp only [Tryd.underlying95]
 rw [if_pos (by rw [askCells]; exact ⟨rfl, by decide +kernel⟩)]
 simp [intCells, Program.keyLits, Tryd.underlying3, wa, wb]
theorem ask_key (q : Int × Int) (h : okA q) : ∃ l, keyOf Tryd.prog 95 (askV q) = some l := by
 obtain ⟨m, hm⟩ := askSize
 have h2 := ask_lits q h m
 unfold keyOf askV
 simp only [Tryd.underlying95]
 rw [if_pos (by simp [askType, Value.formed, Tryd.underlying95, askCells]), hm]
 simp only [Value.cells]
 rw [h2]
 exact ⟨_, rfl⟩
def kidNums : Nat → List Nd → List Int
 | _, [] => []
 | n, z :: l => (n : Int) :: kidNums (n + z.size) l
theorem kidNums_len : ∀ (n : Nat) (l : List Nd), (kidNums n l).length = l.length
 | _, [] => rfl
 | n, z :: l => by simp [kidNums, kidNums_len (n + z.size) l]
theorem nodes_cons (k : Int) (s : Nat) (ks : Trees) (lo hi : Int) (r : Trees) : (Trees.cons k s ks lo hi r).nodes = (⟨k, s, ks, lo, hi⟩ : Nd).nodes ++ r.nodes := by
 simp [Trees.nodes, Nd.nodes]
theorem forest_at : ∀ (F : Trees) (X : List Nd) (n : Nat), (∀ i y, F.nodes[i]? = some y → X[n + i]? = some y) → ∀ (i : Nat) (y : Nd), F.list[i]? = some y → ∃ m : Nat, (kidNums n F.list)[i]? = some (m : Int) ∧ X[m]? = some y ∧ ∀ j u, y.nodes[j]? = some u → X[m + j]? = some u
 | .nil, X, n, h, i, y, hi => by simp [Trees.list] at hi
 | .cons k s ks lo hi r, X, n, h, 0, y, hy => by
  simp [Trees.list] at hy
  subst hy
  refine ⟨n, by simp [Trees.list, kidNums], ?_, fun j u hu => ?_⟩
  ·have := h 0 ⟨k, s, ks, lo, hi⟩ (by simp [Trees.nodes])
   simpa using this
  ·refine h j u ?_
   rw [nodes_cons, List.getElem?_append_left (List.getElem?_eq_some_iff.1 hu).1]
   exact hu
 | .cons k s ks lo hi r, X, n, h, i + 1, y, hy => by
  have hl : (⟨k, s, ks, lo, hi⟩ : Nd).nodes.length = (⟨k, s, ks, lo, hi⟩ : Nd).size := Nd.nodes_len _
  obtain ⟨m, h1, h2⟩ := forest_at r X (n + (⟨k, s, ks, lo, hi⟩ : Nd).size) (fun j u hu => by
   have := h ((⟨k, s, ks, lo, hi⟩ : Nd).size + j) u (by
    rw [nodes_cons, List.getElem?_append_right (by omega), hl, Nat.add_sub_cancel_left]
    exact hu)
   rw [Nat.add_assoc]
   exact this) i y (by simpa [Trees.list] using hy)
  exact ⟨m, by simpa [Trees.list, kidNums] using h1, h2⟩
def Below1 (X : List Nd) (n : Nat) (z : Nd) : Prop := ∀ j u, z.nodes[j]? = some u → X[n + j]? = some u
theorem Below1.kid {X : List Nd} {n : Nat} {z : Nd} (h : Below1 X n z) {i : Nat} {y : Nd} (hy : z.kids.list[i]? = some y) : ∃ m : Nat, (kidNums (n + 1) z.kids.list)[i]? = some (m : Int) ∧ Below1 X m y := by
 obtain ⟨m, h1, _, h3⟩ := forest_at z.kids X (n + 1) (fun j u hu => by
  have := h (j + 1) u (by simpa [Nd.nodes] using hu)
  rw [show n + 1 + j = n + (j + 1) by omega]
  exact this) i y hy
 exact ⟨m, h1, h3⟩
theorem Below1.here {X : List Nd} {n : Nat} {z : Nd} (h : Below1 X n z) : X[n]? = some z := by
 have := h 0 z (by simp [Nd.nodes])
 simpa using this
def atB (i : Nat) : Nat → Bool := withB (fun _ => false) i
theorem atB_iff {i c : Nat} : atB i c = true ↔ c = i := by simp [atB, withB]
noncomputable def endsB (z : Nd) (bs : List Nat) (i : Nat) : Nat → Bool := imgB (z.rel bs) (atB i)
theorem endsB_iff {z : Nd} {bs : List Nat} {i j : Nat} : endsB z bs i j = true ↔ z.rel bs i j := by
 unfold endsB
 rw [imgB_iff]
 exact ⟨fun ⟨c, h1, h2⟩ => by rw [atB_iff.1 h1] at h2; exact h2, fun h => ⟨i, atB_iff.2 rfl, h⟩⟩
def goodM (x : Nd) (bs : List Nat) (q : Int × Int) (v : Value) : Prop := ∀ (k i : Nat) (z : Nd), q = ((k : Int), (i : Int)) → x.nodes[k]? = some z → v = .agg #[.int .u64 (word (endsB z bs i) 0), .int .u64 (word (endsB z bs i) 1), .int .u64 (word (endsB z bs i) 2), .int .u64 (word (endsB z bs i) 3), .int .u64 (word (endsB z bs i) 4)]
def PartAt (w : World) (b k : Nat) (z : Nd) : Prop := ∃ (B A : Option Addr) (n1 c1 c2 : Nat),
 w.cell? ⟨b, k * 9, none⟩ = some (.int .i64 z.kind) ∧ w.cell? ⟨b, k * 9 + 1, none⟩ = some (.int .u64 (word z.set.testBit 0)) ∧ w.cell? ⟨b, k * 9 + 2, none⟩ = some (.int .u64 (word z.set.testBit 1)) ∧
 w.cell? ⟨b, k * 9 + 3, none⟩ = some (.int .u64 (word z.set.testBit 2)) ∧ w.cell? ⟨b, k * 9 + 4, none⟩ = some (.int .u64 (word z.set.testBit 3)) ∧ w.cell? ⟨b, k * 9 + 5, none⟩ = some (.slice B n1 c1) ∧
 w.cell? ⟨b, k * 9 + 6, none⟩ = some (.int .i64 z.lo) ∧ w.cell? ⟨b, k * 9 + 7, none⟩ = some (.int .i64 z.hi) ∧ w.cell? ⟨b, k * 9 + 8, none⟩ = some (.slice A z.kids.len c2) ∧
 IntsAt w A (kidNums (k + 1) z.kids.list) ∧ z.kids.len ≤ c2
structure MatAt (w : World) (x : Nd) (bs : List Nat) (base gm b cp fm : Nat) (V : Option Addr) (cv : Nat) : Prop where
 box : Blk w gm 78 #[.slice (some ⟨b, 0, none⟩) x.size cp, .slice V bs.length cv, .map (some fm)]
 parts : ∀ k z, x.nodes[k]? = some z → PartAt w b k z
 cap : x.size ≤ cp
 word : BytesAt w base V bs
 len : bs.length ≤ 256
 wcap : bs.length ≤ cv
 memo : MemoAt askV okA (goodM x bs) w fm
 tab : TabAt 0 Lib.deBruijn64tab w
 tabl : 0 < base
 fml : base ≤ fm
 small : x.size ≤ 1000000
theorem ints_stayM {w w' : World} {A : Option Addr} {L : List Int} (h : IntsAt w A L) (hk : ∀ (j : Nat) (cs : Array Value) (t : TypeId) (fr : Nat × Nat), w.heap[j]? = some (Obj.cells cs t fr) → w'.heap[j]? = w.heap[j]?) : IntsAt w' A L := fun i a ha => by
 obtain ⟨b, o, e, hc⟩ := h i a ha
 refine ⟨b, o, e, ?_⟩
 cases hb : w.heap[b]? with
 | none => simp [World.cell?, hb] at hc
 | some ob =>
  cases ob with
  | cells cs t fr =>
   have := hk b cs t fr hb
   unfold World.cell? at hc ⊢
   dsimp only at hc ⊢
   rw [this]
   exact hc
  | _ => simp [World.cell?, hb] at hc
theorem cell_stay {w w' : World} (hk : ∀ (j : Nat) (cs : Array Value) (t : TypeId) (fr : Nat × Nat), w.heap[j]? = some (Obj.cells cs t fr) → w'.heap[j]? = w.heap[j]?) {b o : Nat} {v : Value} (h : w.cell? ⟨b, o, none⟩ = some v) : w'.cell? ⟨b, o, none⟩ = some v := by
 cases hb : w.heap[b]? with
 | none => simp [World.cell?, hb] at h
 | some ob =>
  cases ob with
  | cells cs t fr =>
   have := hk b cs t fr hb
   unfold World.cell? at h ⊢
   dsimp only at h ⊢
   rw [this]
   exact h
  | _ => simp [World.cell?, hb] at h
theorem MatAt.stay {w w' : World} {x : Nd} {bs : List Nat} {base gm b cp fm cv : Nat} {V : Option Addr} (h : MatAt w x bs base gm b cp fm V cv) (hk : ∀ (j : Nat) (cs : Array Value) (t : TypeId) (fr : Nat × Nat), w.heap[j]? = some (Obj.cells cs t fr) → w'.heap[j]? = w.heap[j]?) (hm : MemoAt askV okA (goodM x bs) w' fm) (hb : Below base w w') : MatAt w' x bs base gm b cp fm V cv := by
 refine ⟨(hk gm _ _ _ h.box).trans h.box, fun k z hz => ?_, h.cap, h.word.below hb, h.len, h.wcap, hm, TabAt.below hb h.tabl h.tab, h.tabl, h.fml, h.small⟩
 obtain ⟨B, A, n1, c1, c2, q0, q1, q2, q3, q4, q5, q6, q7, q8, q9, q10⟩ := h.parts k z hz
 exact ⟨B, A, n1, c1, c2, cell_stay hk q0, cell_stay hk q1, cell_stay hk q2, cell_stay hk q3, cell_stay hk q4, cell_stay hk q5, cell_stay hk q6, cell_stay hk q7, cell_stay hk q8, ints_stayM q9 hk, q10⟩
theorem MatAt.grown {w w' : World} {x : Nd} {bs : List Nat} {base gm b cp fm cv : Nat} {V : Option Addr} (h : MatAt w x bs base gm b cp fm V cv) (hg : w.grownBy w' (some fm)) (hm : MemoAt askV okA (goodM x bs) w' fm) : MatAt w' x bs base gm b cp fm V cv := by
 obtain ⟨es, clock, hf, _⟩ := h.memo
 refine h.stay (fun j cs t fr hj => hg.block j (Array.getElem?_eq_some_iff.1 hj).1 (fun e => ?_)) hm ((Below.refl base w).grown hg (by have := h.memo.lt; have := h.fml; omega) (fun k e => by cases e; exact h.fml))
 cases e
 rw [hf] at hj
 cases hj
theorem MatAt.below {w w' : World} {x : Nd} {bs : List Nat} {base gm b cp fm cv : Nat} {V : Option Addr} (h : MatAt w x bs base gm b cp fm V cv) (hb : Below w.heap.size w w') : MatAt w' x bs base gm b cp fm V cv :=
 h.stay (fun j cs t fr hj => hb.block j (Array.getElem?_eq_some_iff.1 hj).1) (h.memo.stay (hb.block fm h.memo.lt)) (hb.mono (by have := h.memo.lt; have := h.fml; omega))
theorem grown_trans {a b c : World} {r : Option Nat} (h : a.grownBy b r) (g : b.grownBy c r) : a.grownBy c r :=
 ⟨g.os.trans h.os, g.tape.trans h.tape, g.output.trans h.output, Nat.le_trans h.size g.size, fun k hk hne => (g.block k (Nat.lt_of_lt_of_le hk h.size) hne).trans (h.block k hk hne)⟩
theorem grown_below {a b : World} {r : Option Nat} (h : Below a.heap.size a b) : a.grownBy b r := ⟨h.os, h.tape, h.output, h.size, fun k hk _ => h.block k hk⟩
def EndsC (x : Nd) (bs : List Nat) (z : Nd) : Prop := ∀ (base gm b cp fm cv : Nat) (V : Option Addr) (w : World), MatAt w x bs base gm b cp fm V cv → ∀ (k i : Nat), Below1 x.nodes k z → i ≤ bs.length →
 Calls Tryd.prog 44 #[.pointer (some ⟨gm, 0, none⟩), .int .i64 (k : Int), .int .i64 (i : Int)] w fun e w' => e = .returned (.agg #[.int .u64 (word (endsB z bs i) 0), .int .u64 (word (endsB z bs i) 1), .int .u64 (word (endsB z bs i) 2), .int .u64 (word (endsB z bs i) 3), .int .u64 (word (endsB z bs i) 4)]) ∧ MatAt w' x bs base gm b cp fm V cv ∧ w.grownBy w' (some fm)
def EachC (x : Nd) (bs : List Nat) (z : Nd) : Prop := ∀ (base gm b cp fm cv : Nat) (V : Option Addr) (w : World), MatAt w x bs base gm b cp fm V cv → ∀ (k : Nat) (p : Nat → Bool), Below1 x.nodes k z → (∀ c, p c = true → c ≤ bs.length) →
 Calls Tryd.prog 80 #[.pointer (some ⟨gm, 0, none⟩), .int .i64 (k : Int), .agg #[.int .u64 (word p 0), .int .u64 (word p 1), .int .u64 (word p 2), .int .u64 (word p 3), .int .u64 (word p 4)]] w fun e w' => e = .returned (.agg #[.int .u64 ((word (imgB (z.rel bs) p) 0 : Nat) : Int), .int .u64 ((word (imgB (z.rel bs) p) 1 : Nat) : Int), .int .u64 ((word (imgB (z.rel bs) p) 2 : Nat) : Int), .int .u64 ((word (imgB (z.rel bs) p) 3 : Nat) : Int), .int .u64 ((word (imgB (z.rel bs) p) 4 : Nat) : Int)]) ∧ MatAt w' x bs base gm b cp fm V cv ∧ w.grownBy w' (some fm)
end Go.Proofs.YtfcblmbieiibmaaDoor
namespace Go.Proofs.YtfcblmbieiibmaaDoor
open Go.RowKit Go.Shelf
set_option linter.unusedSimpArgs false
set_option linter.unusedVariables false
set_option maxRecDepth 100000
set_option maxHeartbeats 8000000
attribute [local go_sem] Oper.semAt_some
noncomputable def soFar (R : RelW) (pre : List Nat) : Nat → Bool := imgB R (fun c => decide (c ∈ pre))
theorem soFar_nil (R : RelW) : soFar R [] = fun _ => false := by
 funext c
 exact imgB_none (fun c => by simp) c
theorem soFar_snoc (z : Nd) (bs : List Nat) (pre : List Nat) (i : Nat) : (fun c => soFar (z.rel bs) pre c || endsB z bs i c) = soFar (z.rel bs) (pre ++ [i]) := setB_ext fun c => by
 rw [Bool.or_eq_true, endsB_iff]
 unfold soFar
 rw [imgB_iff, imgB_iff]
 constructor
 ·rintro (⟨j, h1, h2⟩ | h)
  ·exact ⟨j, by simp at h1 ⊢; exact .inl h1, h2⟩
  ·exact ⟨i, by simp, h⟩
 ·rintro ⟨j, h1, h2⟩
  simp at h1
  rcases h1 with h1 | rfl
  ·exact .inl ⟨j, by simpa using h1, h2⟩
  ·exact .inr h2
theorem soFar_all (R : RelW) {p : Nat → Bool} {n : Nat} (hp : ∀ c, p c = true → c < n) : soFar R (elems p n) = imgB R p := by
 unfold soFar
 have : (fun c => decide (c ∈ elems p n)) = p := setB_ext fun c => by
  unfold elems
  simp
  exact hp c
 rw [this]
structure EachI (x : Nd) (bs : List Nat) (base gm b cp fm cv : Nat) (V : Option Addr) (k : Nat) (w W : World) (s : Nat → Bool) : Prop where
 mat : MatAt W x bs base gm b cp fm V cv
 grown : w.grownBy W (some fm)
 b3 : Blk W w.heap.size 93 #[.pointer (some ⟨gm, 0, none⟩)]
 b4 : Blk W (w.heap.size + 1) 3 #[.int .i64 (k : Int)]
 b6 : Blk W (w.heap.size + 3) 51 #[.int .u64 0, .int .u64 0, .int .u64 0, .int .u64 0, .int .u64 0]
 b7 : Blk W (w.heap.size + 4) 51 #[.int .u64 (word s 0), .int .u64 (word s 1), .int .u64 (word s 2), .int .u64 (word s 3), .int .u64 (word s 4)]
 lt : fm < w.heap.size
theorem EachI.turn {x : Nd} {bs : List Nat} {base gm b cp fm cv k B : Nat} {V : Option Addr} {w W W' : World} {s : Nat → Bool} (h : EachI x bs base gm b cp fm cv V k w W s) (hB : w.heap.size ≤ B) {row : Option Nat} (hg : W.grownBy W' row) (hr : ∀ r, row = some r → B ≤ r ∧ ∃ o : Obj, W.heap[r]? = some o ∧ o.isCells = false) : EachI x bs base gm b cp fm cv V k w W' s := by
 have hc : ∀ (j : Nat) (cs : Array Value) (t : TypeId) (fr : Nat × Nat), W.heap[j]? = some (Obj.cells cs t fr) → W'.heap[j]? = W.heap[j]? := fun j cs t fr hj => hg.block j (Array.getElem?_eq_some_iff.1 hj).1 (fun e => by
  obtain ⟨_, o, h1, h2⟩ := hr j e.symm
  rw [hj] at h1
  cases h1
  cases h2)
 have hlow : ∀ j, j < w.heap.size → some j ≠ row := fun j hj e => by
  have := (hr j e.symm).1
  omega
 have hsz := h.grown.size
 refine ⟨h.mat.stay hc (h.mat.memo.stay (hg.block fm h.mat.memo.lt (hlow fm h.lt))) ((Below.refl base W).grown hg (by have := h.mat.fml; have := h.lt; omega) (fun r e => by have := (hr r e).1; have := h.mat.fml; have := h.lt; omega)),
  ⟨hg.os.trans h.grown.os, hg.tape.trans h.grown.tape, hg.output.trans h.grown.output, Nat.le_trans hsz hg.size, fun j hj hne => (hg.block j (by omega) (hlow j hj)).trans (h.grown.block j hj hne)⟩,
  (hc _ _ _ _ h.b3).trans h.b3, (hc _ _ _ _ h.b4).trans h.b4, (hc _ _ _ _ h.b6).trans h.b6, (hc _ _ _ _ h.b7).trans h.b7, h.lt⟩
theorem Blk.c5w {w : World} {g : Nat} {t : TypeId} {a b c d e : Value} (h : Blk w g t #[a, b, c, d, e]) : w.cell? ⟨g, 0, none⟩ = some a ∧ w.cell? ⟨g, 1, none⟩ = some b ∧ w.cell? ⟨g, 2, none⟩ = some c ∧ w.cell? ⟨g, 3, none⟩ = some d ∧ w.cell? ⟨g, 4, none⟩ = some e := ⟨h.cell 0, h.cell 1, h.cell 2, h.cell 3, h.cell 4⟩
theorem Blk.f5w {w : World} {g : Nat} {t : TypeId} {a b c d e : Value} (h : Blk w g t #[a, b, c, d, e]) : w.frozen? ⟨g, 0, none⟩ = false ∧ w.frozen? ⟨g, 1, none⟩ = false ∧ w.frozen? ⟨g, 2, none⟩ = false ∧ w.frozen? ⟨g, 3, none⟩ = false ∧ w.frozen? ⟨g, 4, none⟩ = false := ⟨h.frozen 0, h.frozen 1, h.frozen 2, h.frozen 3, h.frozen 4⟩
theorem EachI.grow {x : Nd} {bs : List Nat} {base gm b cp fm cv k : Nat} {V : Option Addr} {w W W' : World} {s : Nat → Bool} (h : EachI x bs base gm b cp fm cv V k w W s) (hg : W.grownBy W' (some fm)) (hM : MatAt W' x bs base gm b cp fm V cv) : EachI x bs base gm b cp fm cv V k w W' s := by
 obtain ⟨es, clock, hf, _⟩ := h.mat.memo
 have hc : ∀ {j : Nat} {cs : Array Value} {t : TypeId}, Blk W j t cs → Blk W' j t cs := fun {j cs t} hj => (hg.block j hj.lt (fun e => by
  cases e
  have := (show W.heap[fm]? = _ from hj).symm.trans hf
  cases this)).trans hj
 exact ⟨hM, grown_trans h.grown hg, hc h.b3, hc h.b4, hc h.b6, hc h.b7, h.lt⟩
theorem EachI.low {x : Nd} {bs : List Nat} {base gm b cp fm cv k : Nat} {V : Option Addr} {w W W' : World} {s : Nat → Bool} (h : EachI x bs base gm b cp fm cv V k w W s) (hb : Below W.heap.size W W') : EachI x bs base gm b cp fm cv V k w W' s :=
 ⟨h.mat.below hb, grown_trans h.grown (grown_below hb), h.b3.below hb h.b3.lt, h.b4.below hb h.b4.lt, h.b6.below hb h.b6.lt, h.b7.below hb h.b7.lt, h.lt⟩
def stow5 (W : World) (g : Nat) (p : Nat → Bool) : World := (((((W.setCell ⟨g, 0, none⟩ (.int .u64 (word p 0))).setCell ⟨g, 1, none⟩ (.int .u64 (word p 1))).setCell ⟨g, 2, none⟩ (.int .u64 (word p 2))).setCell ⟨g, 3, none⟩ (.int .u64 (word p 3))).setCell ⟨g, 4, none⟩ (.int .u64 (word p 4)))
theorem Blk.put5 {w : World} {g : Nat} {t : TypeId} {a b c d e : Value} (h : Blk w g t #[a, b, c, d, e]) (p : Nat → Bool) : Blk (stow5 w g p) g t #[.int .u64 (word p 0), .int .u64 (word p 1), .int .u64 (word p 2), .int .u64 (word p 3), .int .u64 (word p 4)] := h.set5w
theorem grown5 (W : World) (g : Nat) (p : Nat → Bool) : W.grownBy (stow5 W g p) (some g) :=
 grown_trans (grown_trans (grown_trans (grown_trans (set_grown W g 0 _) (set_grown _ g 1 _)) (set_grown _ g 2 _)) (set_grown _ g 3 _)) (set_grown _ g 4 _)
theorem grown_over {w W W' : World} {f : Nat} {row : Option Nat} (h : w.grownBy W (some f)) (hg : W.grownBy W' row) (hr : ∀ r, row = some r → w.heap.size ≤ r) : w.grownBy W' (some f) :=
 ⟨hg.os.trans h.os, hg.tape.trans h.tape, hg.output.trans h.output, Nat.le_trans h.size hg.size, fun k hk hne => (hg.block k (Nat.lt_of_lt_of_le hk h.size) (fun e => by have := hr k e.symm; omega)).trans (h.block k hk hne)⟩
theorem MatAt.over {w W W' : World} {x : Nd} {bs : List Nat} {base gm b cp fm cv : Nat} {V : Option Addr} {row : Option Nat} (h : MatAt w x bs base gm b cp fm V cv) (hW : w.grownBy W (some fm)) (hm : MemoAt askV okA (goodM x bs) W fm) (hg : W.grownBy W' row) (hr : ∀ r, row = some r → w.heap.size ≤ r) : MatAt W' x bs base gm b cp fm V cv :=
 h.grown (grown_over hW hg hr) (hm.stay (hg.block fm hm.lt (fun e => by have := hr fm e.symm; have := h.memo.lt; omega)))
theorem EachI.put {x : Nd} {bs : List Nat} {base gm b cp fm cv k : Nat} {V : Option Addr} {w W : World} {s : Nat → Bool} (hM : MatAt w x bs base gm b cp fm V cv) (h : EachI x bs base gm b cp fm cv V k w W s) {g : Nat} (hg : g = w.heap.size + 4) (s' : Nat → Bool) : EachI x bs base gm b cp fm cv V k w (stow5 W g s') s' := by
 subst hg
 have h5 := grown5 W (w.heap.size + 4) s'
 have hr : ∀ r, some (w.heap.size + 4) = some r → w.heap.size ≤ r := fun r e => by cases e; omega
 exact ⟨hM.over h.grown h.mat.memo h5 hr, grown_over h.grown h5 hr, h.b3.grown h5 (by simp), h.b4.grown h5 (by simp), h.b6.grown h5 (by simp), h.b7.put5 s', h.lt⟩
theorem each_body {x z : Nd} {bs : List Nat} {base gm b cp fm cv k B g : Nat} {V : Option Addr} {w W W1 W2 : World} {pre : List Nat} {i : Nat} (hM : MatAt w x bs base gm b cp fm V cv) (hI : EachI x bs base gm b cp fm cv V k w W (soFar (z.rel bs) pre)) (g1 : W.drew.grownBy W1 (some fm)) (h1 : EachI x bs base gm b cp fm cv V k w W1 (soFar (z.rel bs) pre)) (b2 : Below W1.heap.size W1 W2) (h2 : EachI x bs base gm b cp fm cv V k w W2 (soFar (z.rel bs) pre)) (hB : w.heap.size + 4 < B) (hg : g = w.heap.size + 4) :
  KeepsFrom B W (stow5 W2 g (fun c => soFar (z.rel bs) pre c || endsB z bs i c)) ∧
  Below base W (stow5 W2 g (fun c => soFar (z.rel bs) pre c || endsB z bs i c)) ∧
  EachI x bs base gm b cp fm cv V k w (stow5 W2 g (fun c => soFar (z.rel bs) pre c || endsB z bs i c)) (soFar (z.rel bs) (pre ++ [i])) := by
 have hlt := h1.lt
 have hfl := hM.fml
 have g2 : W.grownBy W1 (some fm) := ⟨g1.os, g1.tape, g1.output, g1.size, g1.block⟩
 have s0 := hI.grown.size
 have s1 := h1.grown.size
 have s2 := h2.grown.size
 have g5 := grown5 W2 g (fun c => soFar (z.rel bs) pre c || endsB z bs i c)
 refine ⟨((KeepsFrom.of_grownBy g2 (fun j e => by cases e; omega)).trans (KeepsFrom.of_grownBy (grown_below (r := none) b2) (fun j e => by cases e))).trans (KeepsFrom.of_grownBy g5 (fun j e => by cases e; omega)), ?_, ?_⟩
 ·exact (((Below.refl base W).grown g2 (by omega) (fun k e => by cases e; exact hfl)).trans (b2.mono (by omega))).grown g5 (by omega) (fun k e => by cases e; omega)
 ·have := h2.put hM hg (fun c => soFar (z.rel bs) pre c || endsB z bs i c)
  rw [soFar_snoc] at this
  rw [soFar_snoc]
  exact this
theorem each_end {x : Nd} {bs : List Nat} {base gm b cp fm cv k D g : Nat} {V : Option Addr} {w W : World} {s : Nat → Bool} (hM : MatAt w x bs base gm b cp fm V cv) (hI : EachI x bs base gm b cp fm cv V k w W s) (hK : W.heap[D]? = some (Obj.deferred (some []))) (hD : w.heap.size + 6 ≤ D) (q : Nat → Bool) (hg : g = w.heap.size + 3) :
  (stow5 W g q).heap[D]? = some (Obj.deferred (some [])) ∧ Blk ((stow5 W g q).putObj D (.deferred none)) g 51 #[.int .u64 (word q 0), .int .u64 (word q 1), .int .u64 (word q 2), .int .u64 (word q 3), .int .u64 (word q 4)] ∧ MatAt ((stow5 W g q).putObj D (.deferred none)) x bs base gm b cp fm V cv ∧ w.grownBy ((stow5 W g q).putObj D (.deferred none)) (some fm) := by
 subst hg
 have g5 := grown5 W (w.heap.size + 3) q
 have hlt := hI.lt
 have h1 : (stow5 W (w.heap.size + 3) q).heap[D]? = some (Obj.deferred (some [])) := (g5.block D (Array.getElem?_eq_some_iff.1 hK).1 (by simp; omega)).trans hK
 have gp := grownBy_putObj' (stow5 W (w.heap.size + 3) q) D (.deferred none)
 have hr : ∀ r, some (w.heap.size + 3) = some r → w.heap.size ≤ r := fun r e => by cases e; omega
 have hr2 : ∀ r, some D = some r → w.heap.size ≤ r := fun r e => by cases e; omega
 have g6 := grown_over hI.grown g5 hr
 refine ⟨h1, (hI.b6.put5 q).grown gp (by simp; omega), ?_, grown_over g6 gp hr2⟩
 exact hM.over g6 (hI.mat.memo.stay (g5.block fm hI.mat.memo.lt (by simp; omega))) gp hr2
theorem each_in (n : Nat) (hn : 3 ≤ n) (x : Nd) (bs : List Nat) (z : Nd) (hE : EndsC x bs z) (base gm b cp fm cv : Nat) (V : Option Addr) (w : World) (hM : MatAt w x bs base gm b cp fm V cv) (k : Nat) (p : Nat → Bool) (hk : Below1 x.nodes k z) (hp : ∀ c, p c = true → c ≤ bs.length) :
  CallsIn Fence.wide n Tryd.prog 80 #[.pointer (some ⟨gm, 0, none⟩), .int .i64 (k : Int), .agg #[.int .u64 (word p 0), .int .u64 (word p 1), .int .u64 (word p 2), .int .u64 (word p 3), .int .u64 (word p 4)]] w fun e w' => e = .returned (.agg #[.int .u64 ((word (imgB (z.rel bs) p) 0 : Nat) : Int), .int .u64 ((word (imgB (z.rel bs) p) 1 : Nat) : Int), .int .u64 ((word (imgB (z.rel bs) p) 2 : Nat) : Int), .int .u64 ((word (imgB (z.rel bs) p) 3 : Nat) : Int), .int .u64 ((word (imgB (z.rel bs) p) 4 : Nat) : Int)]) ∧ MatAt w' x bs base gm b cp fm V cv ∧ w.grownBy w' (some fm) := by
 have h1 : 1 ≤ n := by omega
 have hlen := hM.len
 have hlm := hM.box.lt
 refine callsIn_of_wp_marks Tryd.func80 rfl trivial ?_ rfl
 simp only [Tryd.ntmps80, List.size_toArray, List.length_cons, List.length_nil, Nat.reduceAdd, Nat.reduceSub, Array.replicate_succ, Array.replicate_zero, List.push_toArray, List.append_toArray, List.nil_append, List.cons_append]
 gi_wp2_with (refine ⟨trivial, ?_⟩; gi_at_call 29; refine (callsIn_wide.2 (pall_go p _)).mono ?_; rintro e w' ⟨rfl, rfl⟩)
 obtain ⟨W0, hW0⟩ : ∃ W0, (((((w.alloc (.cells #[.pointer (some ⟨gm, 0, none⟩)] 93)).alloc (.cells #[.int .i64 (k : Int)] 3)).alloc (.cells #[.int .u64 (word p 0), .int .u64 (word p 1), .int .u64 (word p 2), .int .u64 (word p 3), .int .u64 (word p 4)] 51)).alloc (.cells #[.int .u64 0, .int .u64 0, .int .u64 0, .int .u64 0, .int .u64 0] 51)).alloc (.cells #[.int .u64 0, .int .u64 0, .int .u64 0, .int .u64 0, .int .u64 0] 51)).alloc (.cells #[.int .u64 (word p 0), .int .u64 (word p 1), .int .u64 (word p 2), .int .u64 (word p 3), .int .u64 (word p 4)] 51) = W0 := ⟨_, rfl⟩
 have hs0 : W0.heap.size = w.heap.size + 6 := by rw [← hW0]; simp
 have hb0 : Below w.heap.size w W0 := by
  rw [← hW0]
  exact ((((((Below.refl _ w).alloc (Nat.le_refl _) _).alloc (by simp) _).alloc (by simp; omega) _).alloc (by simp; omega) _).alloc (by simp; omega) _).alloc (by simp; omega) _
 have hP0 : Blk W0 (w.heap.size + 5) 51 #[.int .u64 (word p 0), .int .u64 (word p 1), .int .u64 (word p 2), .int .u64 (word p 3), .int .u64 (word p 4)] := by rw [← hW0]; exact Blk.new_at (by simp)
 have hI0 : EachI x bs base gm b cp fm cv V k w W0 (fun _ => false) := ⟨hM.below hb0, grown_below hb0, by rw [← hW0]; exact (((((Blk.new w _ _).alloc _).alloc _).alloc _).alloc _).alloc _, by rw [← hW0]; exact ((((Blk.new_at (by simp)).alloc _).alloc _).alloc _).alloc _, by rw [← hW0]; exact ((Blk.new_at (by simp)).alloc _).alloc _, by rw [← hW0]; simp only [word_none]; exact (Blk.new_at (by simp)).alloc _, hM.memo.lt⟩
 rw [hW0]
 refine wpIn_rangeFunc_ownG rfl h1 (gf := 46) (lb := #[.pointer (some ⟨w.heap.size + 5, 0, none⟩)]) rfl trivial (enters_of Tryd.func46 (by kernel_rfl) rfl)
  (pall_sub (n - 1) (by omega) p bs.length hp (w.heap.size + 5) base W0 hM.tabl (by omega) hP0 hI0.mat.tab) belowK_t (belowK_b (by have := hM.fml; have := hM.memo.lt; omega)) (Below.refl _ _) (fun _ => rfl)
  (fun pre W => EachI x bs base gm b cp fm cv V k w W (soFar (z.rel bs) (pre.map (fun q : {c : Nat // c ≤ bs.length} => q.1))))
  (fun _ _ _ => False)
  (fun (s : List {c : Nat // c ≤ bs.length}) W W' row h hg hr => EachI.turn h (B := W0.heap.size) (by omega) hg hr)
  (fun _ _ _ _ _ hs _ _ => hs)
  (by rw [List.map_nil, soFar_nil]; exact hI0)
  (fun i => { tmps := #[.pointer (some ⟨gm, 0, none⟩), .int .i64 (k : Int), .agg #[.int .u64 (word p 0), .int .u64 (word p 1), .int .u64 (word p 2), .int .u64 (word p 3), .int .u64 (word p 4)], .pointer (some ⟨w.heap.size, 0, none⟩), .pointer (some ⟨w.heap.size + 1, 0, none⟩), .pointer (some ⟨w.heap.size + 2, 0, none⟩), .pointer (some ⟨w.heap.size + 3, 0, none⟩), .pointer (some ⟨w.heap.size + 4, 0, none⟩), .int .i64 (i.1 : Int), .agg #[.int .u64 (word p 0), .int .u64 (word p 1), .int .u64 (word p 2), .int .u64 (word p 3), .int .u64 (word p 4)], .func (.func 46) #[] #[.pointer (some ⟨w.heap.size + 5, 0, none⟩)], .int .i64 (i.1 : Int), undef, undef, undef, undef, undef, undef, undef], defers := [] }) ?assign ?body ?done ?stop
 case assign =>
  intro l i W K hK
  unfold placeArg
  gi_wp2
  exact hK
 case body =>
  rintro l pre i W hI hlt
  have a3 := hI.b3.cell 0
  have a4 := hI.b4.cell 0
  have l3 := hI.b3.lt
  have l4 := hI.b4.lt
  have l7 := hI.b7.lt
  have a7 := hI.b7.c5w
  have f7 := hI.b7.f5w
  simp only [List.getElem?_toArray, List.getElem?_cons_zero] at a3 a4
  have HI := Lib.hid hI
  have HId := Lib.hid (EachI.low hI (W' := W.drew) ⟨rfl, rfl, rfl, Nat.le_refl _, fun _ _ => rfl⟩)
  have HEn := Lib.hid (hE base gm b cp fm cv V W.drew HId.out.mat k i.1 hk i.2)
  have hdd : ∀ k : Nat, (Fence.wide.depth.isSome = true → 1 ≤ k) := fun k h => by cases h
  obtain ⟨c0, c1, c2, c3, c4⟩ := a7
  obtain ⟨f0, f1, f2, f3, f4⟩ := f7
  clear hI
  gi_wp2
  gi_region_with (first
   | (refine ⟨trivial, hdd _, ?_⟩; gi_at_call 44; refine (CallsIn.inRound l (callsIn_wide.2 HEn.out)).mono ?_; rintro e W1 ⟨rfl, hM1, hg1⟩; have HI1 := Lib.hid (HId.out.grow hg1 hM1); have HG1 := Lib.hid hg1; clear hM1 hg1; obtain ⟨c0, c1, c2, c3, c4⟩ := HI1.out.b7.c5w; obtain ⟨f0, f1, f2, f3, f4⟩ := HI1.out.b7.f5w)
   | (refine ⟨trivial, hdd _, ?_⟩; gi_at_call 81; refine (CallsIn.inRound l (callsIn_wide.2 (pwith_go (soFar (z.rel bs) (pre.map (fun q : {c : Nat // c ≤ bs.length} => q.1))) (endsB z bs i.1) W1))).mono ?_; rintro e W2 ⟨rfl, hb2⟩; have HI2 := Lib.hid (HI1.out.low hb2); have HB2 := Lib.hid hb2; clear hb2; obtain ⟨c0, c1, c2, c3, c4⟩ := HI2.out.b7.c5w; obtain ⟨f0, f1, f2, f3, f4⟩ := HI2.out.b7.f5w; have l7 := HI2.out.b7.lt))
  all_goals gi_wp2
  all_goals refine (?_ : KeepsFrom W0.heap.size W _ ∧ Below base W _ ∧ EachI x bs base gm b cp fm cv V k w _ (soFar (z.rel bs) ((pre ++ [i]).map (fun q : {c : Nat // c ≤ bs.length} => q.1))))
  all_goals rw [List.map_append]
  all_goals exact each_body (i := i.1) hM HI.out HG1.out HI1.out HB2.out HI2.out (B := W0.heap.size) (by omega) rfl
 case done =>
  rintro D ys W hD hy hI hK
  have hsf : soFar (z.rel bs) (ys.map (fun q : {c : Nat // c ≤ bs.length} => q.1)) = imgB (z.rel bs) p := by
   rw [hy]
   exact soFar_all _ (fun c hc => by have := hp c hc; omega)
  rw [hsf] at hI
  have l6 := hI.b6.lt
  have l7 := hI.b7.lt
  obtain ⟨c0, c1, c2, c3, c4⟩ := hI.b7.c5w
  obtain ⟨d0, d1, d2, d3, d4⟩ := hI.b6.c5w
  obtain ⟨f0, f1, f2, f3, f4⟩ := hI.b6.f5w
  have HI := Lib.hid hI
  have HK := Lib.hid hK
  clear hI hK
  gi_wp2
  obtain ⟨e1, e2, e3, e4⟩ := each_end hM HI.out HK.out (g := w.heap.size + 1 + 1 + 1) (by omega) (imgB (z.rel bs) p) rfl
  refine ⟨by simp, .inl ⟨_, _, rfl, run_takeDeferred e1, ?_⟩⟩
  exact ⟨_, ret_pl Tryd.results80 rfl e2, rfl, e3, e4⟩
 case stop =>
  rintro D c pre W _ _ h _
  exact h.elim
theorem eachC_of {x : Nd} {bs : List Nat} {z : Nd} (hE : EndsC x bs z) : EachC x bs z := fun base gm b cp fm cv V w hM k p hk hp =>
 callsIn_wide.1 (each_in 3 (by omega) x bs z hE base gm b cp fm cv V w hM k p hk hp)
end Go.Proofs.YtfcblmbieiibmaaDoor
namespace Go.Proofs.YtfcblmbieiibmaaDoor
open Go.RowKit Go.Maps
set_option linter.unusedSimpArgs false
set_option linter.unusedVariables false
set_option maxRecDepth 100000
set_option maxHeartbeats 8000000
theorem rowB {W W' : World} {base size k : Nat} {e : TypeId} {v : Value} {xs : List Value} (hr : W.ownsRow base e size v k xs) (hb : ∀ k, v.ownBlock = some k → W'.heap[k]? = W.heap[k]?) : W'.ownsRow base e size v k xs := by
 refine ⟨hr.1, ?_⟩
 rcases hr.2 with h | ⟨g, cap, cur, rfl, h2, h3, h4⟩
 ·exact .inl h
 ·exact .inr ⟨g, cap, cur, rfl, h2, (hb g rfl).trans h3, h4⟩
theorem rowsApart {w : World} {b1 b2 s1 s2 k1 k2 : Nat} {e1 e2 : TypeId} {v1 v2 : Value} {x1 x2 : List Value} (h1 : w.ownsRow b1 e1 s1 v1 k1 x1) (h2 : w.ownsRow b2 e2 s2 v2 k2 x2) (he : e1 ≠ e2) {b : Nat} (hb : v1.ownBlock = some b) : v2.ownBlock ≠ some b := by
 intro hb2
 rcases h1.2 with ⟨rfl, _⟩ | ⟨g, cap, cur, rfl, _, hg, _⟩
 ·simp [Value.ownBlock] at hb
 rcases h2.2 with ⟨rfl, _⟩ | ⟨g', cap', cur', rfl, _, hg', _⟩
 ·simp [Value.ownBlock] at hb2
 obtain rfl : g = b := by simpa [Value.ownBlock] using hb
 obtain rfl : g' = g := by simpa [Value.ownBlock] using hb2
 rw [hg] at hg'
 simp at hg'
 exact he hg'.2
theorem row_form {w : World} {base e size n : Nat} {v : Value} {xs : List Value} (h : w.ownsRow base e size v n xs) : ∃ A c, v = .slice A n c ∧ n ≤ c := by
 rcases h.2 with ⟨rfl, rfl⟩ | ⟨g, cap, cur, rfl, _, _, hc, _⟩
 ·exact ⟨none, 0, rfl, Nat.le_refl _⟩
 ·exact ⟨_, cap, rfl, hc⟩
def pcell (z : Nd) (B : Option Addr) (n1 c1 : Nat) (A : Option Addr) (m c2 : Nat) : List Value :=
 [.int .i64 z.kind, .int .u64 (word z.set.testBit 0), .int .u64 (word z.set.testBit 1), .int .u64 (word z.set.testBit 2), .int .u64 (word z.set.testBit 3), .slice B n1 c1, .int .i64 z.lo, .int .i64 z.hi, .slice A m c2]
def PartsL (w : World) (base : Nat) (Q : Nat → Prop) : Nat → List Nd → List Value → Prop
 | _, [], xs => xs = []
 | n, z :: l, xs => ∃ B n1 c1 A c2 rest, xs = pcell z B n1 c1 A z.kids.len c2 ++ rest ∧ w.ownsRow base 3 1 (.slice A z.kids.len c2) z.kids.len (intsC (kidNums (n + 1) z.kids.list)) ∧ (∀ b, (Value.slice A z.kids.len c2).ownBlock = some b → Q b) ∧ PartsL w base Q (n + 1) l rest
theorem PartsL.keep {w w' : World} {base : Nat} {Q Q' : Nat → Prop} (hk : ∀ b cs, base ≤ b → b < w.heap.size → Q b → w.heap[b]? = some (.cells cs 3 (0, 0)) → w'.heap[b]? = w.heap[b]?) (hQ : ∀ b, b < w.heap.size → Q b → Q' b) : ∀ {n : Nat} {l : List Nd} {xs : List Value}, PartsL w base Q n l xs → PartsL w' base Q' n l xs
 | _, [], _, h => h
 | n, z :: l, xs, ⟨B, n1, c1, A, c2, rest, h1, h2, h3, h4⟩ => by
  refine ⟨B, n1, c1, A, c2, rest, h1, rowB h2 fun k hk' => ?_, fun b hb => hQ b (h2.lt b hb).2 (h3 b hb), h4.keep hk hQ⟩
  have hlt := h2.lt k hk'
  rcases h2.2 with ⟨e, _⟩ | ⟨g, cap, cur, e, _, hg, _⟩
  ·rw [e] at hk'
   simp [Value.ownBlock] at hk'
  ·rw [e] at hk'
   obtain rfl : g = k := by simpa [Value.ownBlock] using hk'
   exact hk g cur hlt.1 hlt.2 (h3 g (by rw [e]; rfl)) hg
theorem PartsL.app {w : World} {base : Nat} {Q : Nat → Prop} : ∀ {n : Nat} {l l' : List Nd} {xs ys : List Value}, PartsL w base Q n l xs → PartsL w base Q (n + l.length) l' ys → PartsL w base Q n (l ++ l') (xs ++ ys)
 | n, [], l', xs, ys, h, h' => by
  have : xs = [] := h
  subst this
  exact h'
 | n, z :: l, l', xs, ys, ⟨B, n1, c1, A, c2, rest, h1, h2, h3, h4⟩, h' => by
  refine ⟨B, n1, c1, A, c2, rest ++ ys, by rw [h1, List.append_assoc], h2, h3, h4.app ?_⟩
  rw [show n + 1 + l.length = n + (z :: l).length by simp; omega]
  exact h'
theorem PartsL.get {w : World} {base : Nat} {Q : Nat → Prop} : ∀ {n : Nat} {l : List Nd} {xs : List Value} {k : Nat} {z : Nd}, PartsL w base Q n l xs → l[k]? = some z →
  ∃ B n1 c1 A c2, (∀ j u, (pcell z B n1 c1 A z.kids.len c2)[j]? = some u → xs[k * 9 + j]? = some u) ∧ w.ownsRow base 3 1 (.slice A z.kids.len c2) z.kids.len (intsC (kidNums (n + k + 1) z.kids.list))
 | _, [], _, k, z, _, h => by simp at h
 | n, y :: l, xs, 0, z, ⟨B, n1, c1, A, c2, rest, h1, h2, h3, h4⟩, h => by
  simp at h
  subst h
  refine ⟨B, n1, c1, A, c2, fun j u hj => ?_, h2⟩
  rw [h1, List.getElem?_append_left (by simpa using (List.getElem?_eq_some_iff.1 hj).1)]
  simpa using hj
 | n, y :: l, xs, k + 1, z, ⟨B, n1, c1, A, c2, rest, h1, h2, h3, h4⟩, h => by
  obtain ⟨B', n1', c1', A', c2', g1, g2⟩ := h4.get (k := k) (by simpa using h)
  refine ⟨B', n1', c1', A', c2', fun j u hj => ?_, by rw [show n + (k + 1) + 1 = n + 1 + k + 1 by omega]; exact g2⟩
  have hp : (pcell y B n1 c1 A y.kids.len c2).length = 9 := rfl
  rw [h1, List.getElem?_append_right (by omega), hp, show (k + 1) * 9 + j - 9 = k * 9 + j by omega]
  exact g1 j u hj
def kidsTo (x : Nd) (j : Nat) : List Nd := (x.kids.list.take j).flatMap Nd.nodes
theorem nodes_flat : ∀ F : Trees, F.nodes = F.list.flatMap Nd.nodes
 | .nil => rfl
 | .cons k s ks lo hi r => by rw [nodes_cons, Trees.list, List.flatMap_cons, nodes_flat r]
theorem kidsTo_all (x : Nd) : kidsTo x x.kids.len = x.kids.nodes := by
 unfold kidsTo
 rw [← Trees.len_list, List.take_length, nodes_flat]
theorem kidsTo_next {x y : Nd} {j : Nat} (h : x.kids.list[j]? = some y) : kidsTo x (j + 1) = kidsTo x j ++ y.nodes := by
 unfold kidsTo
 rw [List.take_add_one, h]
 simp
theorem kidsTo_len (x : Nd) (j : Nat) : (kidsTo x j).length + 1 ≤ x.size := by
 have h1 : (x.kids.list.flatMap Nd.nodes).length + 1 = x.size := by
  rw [← nodes_flat, ← Nd.nodes_len]
  simp [Nd.nodes]
 have h2 : x.kids.list.flatMap Nd.nodes = kidsTo x j ++ (x.kids.list.drop j).flatMap Nd.nodes := by
  unfold kidsTo
  rw [← List.flatMap_append, List.take_append_drop]
 rw [h2, List.length_append] at h1
 omega
theorem kidNums_snoc (y : Nd) : ∀ (l : List Nd) (n : Nat), kidNums n (l ++ [y]) = kidNums n l ++ [((n + (l.flatMap Nd.nodes).length : Nat) : Int)]
 | [], n => by simp [kidNums]
 | z :: l, n => by
  rw [List.cons_append, kidNums, kidNums, kidNums_snoc y l, List.flatMap_cons, List.length_append, Nd.nodes_len, List.cons_append, Nat.add_assoc]
theorem kidNums_next {x y : Nd} {j n : Nat} (h : x.kids.list[j]? = some y) : kidNums n (x.kids.list.take (j + 1)) = kidNums n (x.kids.list.take j) ++ [((n + (kidsTo x j).length : Nat) : Int)] := by
 rw [List.take_add_one, h]
 exact kidNums_snoc y _ n
structure LayM (base gm : Nat) (w : World) (v : Value) (w' : World) (v' : Value) : Prop where
 below : Below base w w'
 kept : ∀ j, j < w.heap.size → j ≠ gm → v.ownBlock ≠ some j → w'.heap[j]? = w.heap[j]?
 lies : ∀ j, v'.ownBlock = some j → v.ownBlock = some j ∨ w.heap.size ≤ j
theorem LayM.trans {base gm : Nat} {w w1 w2 : World} {v v1 v2 : Value} (h : LayM base gm w v w1 v1) (g : LayM base gm w1 v1 w2 v2) : LayM base gm w v w2 v2 := by
 have hs := h.below.size
 refine ⟨h.below.trans g.below, fun j h1 h2 h3 => (g.kept j (by omega) h2 (fun e => ?_)).trans (h.kept j h1 h2 h3), fun j hj => ?_⟩
 ·rcases h.lies j e with e1 | e1
  ·exact h3 e1
  ·omega
 ·rcases g.lies j hj with e1 | e1
  ·exact h.lies j e1
  ·exact .inr (by omega)
theorem LayM.below1 {base gm : Nat} {w w1 w2 : World} {v v1 : Value} (h : LayM base gm w v w1 v1) (hb : base ≤ w1.heap.size) (g : Below w1.heap.size w1 w2) : LayM base gm w v w2 v1 :=
 h.trans ⟨g.mono hb, fun j h1 _ _ => g.block j h1, fun j e => .inl e⟩
def LayP (x : Nd) : Prop := ∀ (B : Option Addr) (cap base gm : Nat) (a d v : Value) (N : Nat) (xs : List Value) (w : World), TreesAt w (fun b => b < base) x.kids B → x.kids.len ≤ cap → Blk w gm 78 #[v, a, d] → w.ownsRow base 99 9 v N xs → base ≤ gm → base ≤ w.heap.size → N + x.size ≤ 1000000 →
 Calls Tryd.prog 45 #[.pointer (some ⟨gm, 0, none⟩), ndV x B cap] w fun e w' => e = .returned (.int .i64 (N : Int)) ∧ ∃ v' xs', Blk w' gm 78 #[v', a, d] ∧ w'.ownsRow base 99 9 v' (N + x.size) (xs ++ xs') ∧ PartsL w' base (fun b => w.heap.size ≤ b) N x.nodes xs' ∧ LayM base gm w v w' v'
theorem info_part : (Tryd.prog.info? 99).map (fun i => (i.zero, i.size, i.bytes)) = some (some (.agg #[.int .i64 0, .int .u64 0, .int .u64 0, .int .u64 0, .int .u64 0, .slice none 0 0, .int .i64 0, .int .i64 0, .slice none 0 0]), 9, 104) := by kernel_rfl
structure LayL (base gm : Nat) (a d : Value) (N : Nat) (xs : List Value) (x : Nd) (B : Option Addr) (cap : Nat) (w : World) (v : Value) (i j : Nat) (W : World) (kv v' : Value) (ys : List Value) : Prop where
 box : Blk W gm 78 #[v', a, d]
 row : W.ownsRow base 99 9 v' (N + 1 + (kidsTo x i).length) (xs ++ pcell x B x.kids.len cap none 0 0 ++ ys)
 parts : PartsL W base (fun b => w.heap.size ≤ b ∧ kv.ownBlock ≠ some b) (N + 1) (kidsTo x i) ys
 lay : LayM base gm w v W v'
 nums : W.ownsRow w.heap.size 3 1 kv j (intsC (kidNums (N + 1) (x.kids.list.take j)))
 here : Blk W w.heap.size 28 (ndA x B cap)
theorem lay_begin {base gm : Nat} {a d : Value} {N : Nat} {xs : List Value} {x : Nd} {B : Option Addr} {cap : Nat} {w : World} {v : Value} {W0 w1 : World} {o : Obj} {gg cap' : Nat} (hW0 : w.alloc (.cells (ndA x B cap) 28) = W0) (hbg : base ≤ gm) (hbw : base ≤ w.heap.size) (hgm : gm < w.heap.size) (hrow : w.ownsRow base 99 9 v N xs)
  (hown : w1.ownsRow base 99 9 (.slice (some ⟨gg, 0, none⟩) (N + 1) cap') (N + 1) (xs ++ pcell x B x.kids.len cap none 0 0)) (hgrow : (W0.alloc o).drew.grownBy w1 v.ownBlock) (hat : v.ownBlock = some gg ∨ gg = W0.heap.size + 1) (hbox : Blk w1 gm 78 #[v, a, d]) :
  LayL base gm a d N xs x B cap w v 0 0 (w1.setCell ⟨gm, 0, none⟩ (.slice (some ⟨gg, 0, none⟩) (N + 1) cap')) (.slice none 0 0) (.slice (some ⟨gg, 0, none⟩) (N + 1) cap') [] := by
 have hs0 : W0.heap.size = w.heap.size + 1 := by rw [← hW0]; simp
 have hne := blk_not_row hbox (by decide) hown
 have hsz : (W0.alloc o).drew.heap.size = w.heap.size + 2 := by rw [show (W0.alloc o).drew.heap.size = W0.heap.size + 1 by simp, hs0]
 have hkeep : ∀ j, j < w.heap.size → v.ownBlock ≠ some j → w1.heap[j]? = w.heap[j]? := fun j hj hn => by
  rw [hgrow.block j (by omega) (fun e => hn e.symm), ← hW0]
  exact (((Below.refl w.heap.size w).alloc (Nat.le_refl _) _).alloc (by simp) o).drew.block j hj
 have hb1 : Below base w w1 := by
  have h1 : Below base w (W0.alloc o).drew := by
   rw [← hW0]
   exact (((Below.refl base w).alloc hbw _).alloc (by simp; omega) o).drew
  exact h1.grown hgrow (by omega) (fun k hk => (hrow.lt k hk).1)
 have hvx : v.ownBlock ≠ some w.heap.size := fun e => by have := (hrow.lt _ e).2; omega
 have hX : Blk w1 w.heap.size 28 (ndA x B cap) := by
  have h1 : Blk W0 w.heap.size 28 (ndA x B cap) := by rw [← hW0]; exact Blk.new w _ _
  exact (Blk.alloc h1 o).drew.grown hgrow (fun e => hvx e.symm)
 refine ⟨hbox.set_ 0 _, ?_, rfl, ⟨hb1.setCell hbg _, fun j h1 h2 h3 => (Below.heap_setCell _ _ _ _ h2).trans (hkeep j h1 h3), fun j hj => ?_⟩, ⟨rfl, .inl ⟨rfl, rfl⟩⟩, (show (w1.setCell ⟨gm, 0, none⟩ _).heap[w.heap.size]? = _ from (Below.heap_setCell _ _ _ _ (by intro e; simp at e; omega)).trans hX)⟩
 ·have e : kidsTo x 0 = [] := by simp [kidsTo]
  rw [e, List.append_nil]
  exact own_set hown hne
 ·obtain rfl : gg = j := by simpa [Value.ownBlock] using hj
  rcases hat with h | h
  ·exact .inl h
  ·exact .inr (by omega)
theorem lay_called {base gm : Nat} {a d : Value} {N : Nat} {xs : List Value} {x : Nd} {B : Option Addr} {cap : Nat} {w : World} {v : Value} {W w' : World} {o : Obj} {kv v1 v2 : Value} {ys zs : List Value} {y : Nd} {j : Nat} (h : LayL base gm a d N xs x B cap w v j j W kv v1 ys) (hbw : base ≤ w.heap.size) (hgm : gm < w.heap.size) (hy : x.kids.list[j]? = some y)
  (hbox : Blk w' gm 78 #[v2, a, d]) (hown : w'.ownsRow base 99 9 v2 (N + 1 + (kidsTo x j).length + y.size) ((xs ++ pcell x B x.kids.len cap none 0 0 ++ ys) ++ zs))
  (hp : PartsL w' base (fun b => (W.alloc o).heap.size ≤ b) (N + 1 + (kidsTo x j).length) y.nodes zs) (hl : LayM base gm (W.alloc o) v1 w' v2) :
  LayL base gm a d N xs x B cap w v (j + 1) j w' kv v2 (ys ++ zs) := by
 have hsz := h.lay.below.size
 have hsa : (W.alloc o).heap.size = W.heap.size + 1 := by simp
 have hal : Below W.heap.size W (W.alloc o) := (Below.refl _ _).alloc (Nat.le_refl _) o
 have hkeep : ∀ b, b < W.heap.size → b ≠ gm → v1.ownBlock ≠ some b → w'.heap[b]? = W.heap[b]? := fun b h1 h2 h3 => (hl.kept b (by omega) h2 h3).trans (hal.block b h1)
 have hnk : ∀ b, kv.ownBlock = some b → b ≠ gm ∧ v1.ownBlock ≠ some b := fun b hb => ⟨fun e => by have := (h.nums.lt b hb).1; omega, rowsApart h.nums h.row (by decide) hb⟩
 refine ⟨hbox, ?_, ?_, (h.lay.below1 (by omega) hal).trans hl, rowB h.nums fun b hb => hkeep b (h.nums.lt b hb).2 (hnk b hb).1 (hnk b hb).2, (hkeep _ h.here.lt (by omega) (fun e => ?_)).trans h.here⟩
 ·rw [kidsTo_next hy, List.length_append, Nd.nodes_len, ← Nat.add_assoc, ← List.append_assoc]
  exact hown
 ·rw [kidsTo_next hy]
  refine PartsL.app (h.parts.keep (fun b cs h1 h2 h3 h4 => hkeep b h2 (fun e => ?_) (fun e => ?_)) (fun b _ hb => hb)) (hp.keep (fun _ _ _ _ _ _ => rfl) (fun b _ hb => ⟨by omega, fun e => by have := (h.nums.lt b e).2; omega⟩))
  ·subst e
   have := (show W.heap[b]? = _ from h.box).symm.trans h4
   simp at this
  ·rcases h.row.2 with ⟨e1, _⟩ | ⟨g, c, cur, e1, _, hg, _⟩
   ·rw [e1] at e
    simp [Value.ownBlock] at e
   ·rw [e1] at e
    obtain rfl : g = b := by simpa [Value.ownBlock] using e
    rw [h4] at hg
    simp at hg
 ·rcases h.row.2 with ⟨e1, _⟩ | ⟨g, c, cur, e1, _, hg, _⟩
  ·rw [e1] at e
   simp [Value.ownBlock] at e
  ·rw [e1] at e
   obtain rfl : g = w.heap.size := by simpa [Value.ownBlock] using e
   rw [show W.heap[w.heap.size]? = _ from h.here] at hg
   simp at hg
theorem lay_append {base gm : Nat} {a d : Value} {N : Nat} {xs : List Value} {x : Nd} {B : Option Addr} {cap : Nat} {w : World} {v : Value} {W w4 : World} {o : Obj} {kv v1 : Value} {ys : List Value} {y : Nd} {j gg cap' : Nat} (h : LayL base gm a d N xs x B cap w v (j + 1) j W kv v1 ys) (hbw : base ≤ w.heap.size) (hgm : gm < w.heap.size) (hy : x.kids.list[j]? = some y)
  (hown : w4.ownsRow w.heap.size 3 1 (.slice (some ⟨gg, 0, none⟩) (j + 1) cap') (j + 1) (intsC (kidNums (N + 1) (x.kids.list.take j)) ++ [.int .i64 ((N + 1 + (kidsTo x j).length : Nat) : Int)])) (hgrow : (W.alloc o).grownBy w4 kv.ownBlock) (hat : kv.ownBlock = some gg ∨ gg = W.heap.size + 1) :
  LayL base gm a d N xs x B cap w v (j + 1) (j + 1) w4 (.slice (some ⟨gg, 0, none⟩) (j + 1) cap') v1 ys := by
 have hsz := h.lay.below.size
 have hsa : (W.alloc o).heap.size = W.heap.size + 1 := by simp
 have hal : Below W.heap.size W (W.alloc o) := (Below.refl _ _).alloc (Nat.le_refl _) o
 have hkeep : ∀ b, b < W.heap.size → kv.ownBlock ≠ some b → w4.heap[b]? = W.heap[b]? := fun b h1 h2 => (hgrow.block b (by omega) (fun e => h2 e.symm)).trans (hal.block b h1)
 have hge : ∀ b, kv.ownBlock = some b → w.heap.size ≤ b := fun b hb => (h.nums.lt b hb).1
 have hnk : ∀ b, v1.ownBlock = some b → kv.ownBlock ≠ some b := fun b hb => rowsApart h.row h.nums (by decide) hb
 have hnX : kv.ownBlock ≠ some w.heap.size := fun e => by
  rcases h.nums.2 with ⟨e1, _⟩ | ⟨g, c, cur, e1, _, hg, _⟩
  ·rw [e1] at e
   simp [Value.ownBlock] at e
  ·rw [e1] at e
   obtain rfl : g = w.heap.size := by simpa [Value.ownBlock] using e
   rw [show W.heap[w.heap.size]? = _ from h.here] at hg
   simp at hg
 refine ⟨(hkeep gm (by omega) (fun e => by have := hge _ e; omega)).trans h.box, rowB h.row fun b hb => hkeep b (h.row.lt b hb).2 (hnk b hb), h.parts.keep (fun b cs h1 h2 h3 h4 => hkeep b h2 h3.2) (fun b h1 h2 => ⟨h2.1, fun e => ?_⟩), ?_, ?_, (hkeep _ h.here.lt hnX).trans h.here⟩
 ·refine ⟨(h.lay.below.trans (hal.mono (by omega))).grown hgrow (by omega) (fun k hk => by have := hge k hk; omega), fun b h1 h2 h3 => (hkeep b (by omega) (fun e => by have := hge b e; omega)).trans (h.lay.kept b h1 h2 h3), h.lay.lies⟩
 ·rw [kidNums_next hy]
  unfold intsC at hown ⊢
  rw [List.map_append]
  exact hown
 ·obtain rfl : gg = b := by simpa [Value.ownBlock] using e
  rcases hat with h3 | h3
  ·exact h2.2 h3
  ·omega
theorem lay_end {base gm : Nat} {a d : Value} {N : Nat} {xs : List Value} {x : Nd} {B : Option Addr} {cap : Nat} {w : World} {v : Value} {W : World} {A : Option Addr} {c2 c3 bp : Nat} {ys : List Value} (h : LayL base gm a d N xs x B cap w v x.kids.len x.kids.len W (.slice A x.kids.len c2) (.slice (some ⟨bp, 0, none⟩) (N + 1 + (kidsTo x x.kids.len).length) c3) ys) (hbw : base ≤ w.heap.size) (hgm : gm < w.heap.size) (hxl : xs.length = N * 9) (hsz : (kidsTo x x.kids.len).length + 1 = x.size) :
  Blk (W.setCell ⟨bp, N * 9 + 8, none⟩ (.slice A x.kids.len c2)) gm 78 #[.slice (some ⟨bp, 0, none⟩) (N + 1 + (kidsTo x x.kids.len).length) c3, a, d] ∧
  (W.setCell ⟨bp, N * 9 + 8, none⟩ (.slice A x.kids.len c2)).ownsRow base 99 9 (.slice (some ⟨bp, 0, none⟩) (N + 1 + (kidsTo x x.kids.len).length) c3) (N + x.size) (xs ++ (pcell x B x.kids.len cap A x.kids.len c2 ++ ys)) ∧
  PartsL (W.setCell ⟨bp, N * 9 + 8, none⟩ (.slice A x.kids.len c2)) base (fun b => w.heap.size ≤ b) N x.nodes (pcell x B x.kids.len cap A x.kids.len c2 ++ ys) ∧ LayM base gm w v (W.setCell ⟨bp, N * 9 + 8, none⟩ (.slice A x.kids.len c2)) (.slice (some ⟨bp, 0, none⟩) (N + 1 + (kidsTo x x.kids.len).length) c3) := by
 have hbp := h.row.lt bp rfl
 have hng : gm ≠ bp := fun e => by
  have := blk_not_row h.box (by decide) h.row
  rw [e] at this
  exact this rfl
 have hkeep : ∀ b, b ≠ bp → (W.setCell ⟨bp, N * 9 + 8, none⟩ (.slice A x.kids.len c2)).heap[b]? = W.heap[b]? := fun b hb => Below.heap_setCell _ _ _ _ hb
 have hnum : ∀ b, (Value.slice A x.kids.len c2).ownBlock = some b → b ≠ bp := fun b hb e => rowsApart h.nums h.row (by decide) hb (by rw [e]; rfl)
 refine ⟨(hkeep gm hng).trans h.box, ?_, ?_, ⟨h.lay.below.setCell hbp.1 _, fun j h1 h2 h3 => (hkeep j (fun e => ?_)).trans (h.lay.kept j h1 h2 h3), h.lay.lies⟩⟩
 ·have hst := (h.row.stored (N * 9 + 8) (.slice A x.kids.len c2)).1
  have he : (xs ++ pcell x B x.kids.len cap none 0 0 ++ ys).set (N * 9 + 8) (.slice A x.kids.len c2) = xs ++ (pcell x B x.kids.len cap A x.kids.len c2 ++ ys) := by
   rw [List.append_assoc, List.set_append_right _ _ (by omega), hxl, show N * 9 + 8 - N * 9 = 8 by omega]
   rfl
  rw [he] at hst
  rw [show N + x.size = N + 1 + (kidsTo x x.kids.len).length by omega]
  exact hst
 ·refine ⟨B, x.kids.len, cap, A, c2, ys, rfl, ?_, fun b hb => (h.nums.lt b hb).1, ?_⟩
  ·have hn := h.nums
   rw [← Trees.len_list, List.take_length, Trees.len_list] at hn
   exact rowB (hn.mono hbw) fun b hb => hkeep b (hnum b hb)
  ·rw [← kidsTo_all]
   refine h.parts.keep (fun b cs h1 h2 h3 h4 => hkeep b (fun e => ?_)) (fun b _ hb => hb.1)
   subst e
   rcases h.row.2 with ⟨e1, _⟩ | ⟨g, c, cur, e1, _, hg, _⟩
   ·cases e1
   ·simp at e1
    obtain ⟨rfl, _⟩ := e1
    rw [h4] at hg
    simp at hg
 ·subst e
  rcases h.lay.lies j rfl with h4 | h4
  ·exact h3 h4
  ·omega
theorem lay_step {x : Nd} (hK : ∀ y ∈ x.kids.list, LayP y) : LayP x := by
 intro B cap base gm a d v N xs w ht hcap hbox hrow hbg hbw hsz
 obtain ⟨i0, hi, hz0, hz1, hz2⟩ := info_parts info_part
 obtain ⟨j0, hj, hj0, hj1, hj2⟩ := info_parts info_intC
 obtain ⟨A0, c0, rfl, hc0⟩ := row_form hrow
 obtain ⟨W0, hW0⟩ : ∃ W0, w.alloc (.cells (ndA x B cap) 28) = W0 := ⟨_, rfl⟩
 have hal : Below w.heap.size w W0 := by rw [← hW0]; exact (Below.refl _ _).alloc (Nat.le_refl _) _
 have hs0 : W0.heap.size = w.heap.size + 1 := by rw [← hW0]; simp
 have hX : Blk W0 w.heap.size 28 (ndA x B cap) := by rw [← hW0]; exact Blk.new w _ _
 have hbox0 := hbox.below hal hbox.lt
 have hrow0 : W0.ownsRow base 99 9 (.slice A0 N c0) N xs := by rw [← hW0]; exact hrow.alloc _
 have hgm := hbox.lt
 have hneG := blk_not_row hbox0 (by decide) hrow0
 have hxl := hrow.1
 obtain ⟨x0, x1, x2, x3, x4, x5, x6, x7⟩ : _ ∧ _ ∧ _ ∧ _ ∧ _ ∧ _ ∧ _ ∧ _ := ⟨hX.cell 0, hX.cell 1, hX.cell 2, hX.cell 3, hX.cell 4, hX.cell 5, hX.cell 6, hX.cell 7⟩
 have g0 := hbox0.cell 0
 have f0 := hbox0.frozen 0
 unfold ndA at x0 x1 x2 x3 x4 x5 x6 x7 hW0
 simp only [List.getElem?_toArray, List.getElem?_cons_zero, List.getElem?_cons_succ] at x0 x1 x2 x3 x4 x5 x6 x7 g0
 have HX := Lib.hid hX
 have HG := Lib.hid hbox0
 have HR := Lib.hid hrow0
 have HNE := Lib.hid hneG
 have HT := Lib.hid ht
 have HK := Lib.hid hK
 have HB := Lib.hid (show base ≤ gm ∧ base ≤ w.heap.size ∧ gm < w.heap.size from ⟨hbg, hbw, hgm⟩)
 have HROW := Lib.hid hrow
 have HXL := Lib.hid hxl
 have HW0 := Lib.hid hW0
 have hlt0 : gm < W0.heap.size := by omega
 have hltx : w.heap.size < W0.heap.size := by omega
 have hb0 : base ≤ W0.heap.size := by omega
 have h63 : N + 1 ≤ maxLen := Nat.le_trans (by omega) (show 2000000 ≤ maxLen by decide)
 have hby : (N + 1) * 104 ≤ 140737488355328 := by unfold Nd.size at hsz; omega
 have HS0 := Lib.hid hs0
 clear hX hbox0 hrow0 hneG hK ht hrow hbox hal hxl hs0
 unfold ndV
 go_enter Tryd.func45, Tryd.ntmps45
 go_wp2
 go_region_law ((refine step_append_lies _ (by rfl) _ _ _ (by rfl) base 99 i0 _ 9 104 Tryd.underlying76 hi hz0 hz1 hz2 rfl (by decide) (.slice A0 N c0) N xs (by rfl) ((HR.out.alloc _).drew) ⟨W0.heap.size, 0, none⟩ 1 1 (pcell x B x.kids.len cap none 0 0) (by rfl) (by rfl) (World.news_of_block (cs := (pcell x B x.kids.len cap none 0 0).toArray) (t := 99) (fr := (0, 0)) (heap_alloc_new W0 _)) (by simp [pcell, Value.oneCell']) (by decide) h63 hby (by simp; omega) (W0.heap.size + 1) (by simp) ?_; intro gg cap' w3 hown1 hgrow hat hlt1; have hG1 := Blk.grown (Blk.drew (Blk.alloc HG.out _)) hgrow HNE.out; have c3 := hG1.cell 0; have d3 := hG1.frozen 0; have hg3 := hG1.lt; have HG1 := Lib.hid hG1; have Hgrow := Lib.hid hgrow; have Hown1 := Lib.hid hown1; have Hat := Lib.hid hat; clear hG1 hgrow hown1 hat))
 all_goals
  have H0 := Lib.hid (lay_begin (xs := xs) (x := x) (B := B) (cap := cap) HW0.out HB.out.1 HB.out.2.1 HB.out.2.2 HROW.out Hown1.out Hgrow.out Hat.out HG1.out)
  clear hW0 HW0 HX HG HR HNE HROW Hown1 Hgrow Hat HG1 c3 d3 hg3 hlt1 x0 x1 x2 x3 x4 x5 x6 x7 g0 f0 hlt0 hltx hb0 h63 hby HS0
  generalize hW1 : (w3.setCell { block := gm, off := 0 } (Value.slice (some { block := gg, off := 0 }) (N + 1) cap')) = W1 at *
  clear hW1
  have hX := H0.out.here
  have x5 := hX.cell 5
  unfold ndA at x5
  simp only [List.getElem?_toArray, List.getElem?_cons_zero, List.getElem?_cons_succ] at x5
  have lx := hX.lt
  clear hX
 all_goals go_wp2
 all_goals
  go_loopw [6, 28] (fun v i' wr => ∃ (j : Nat) (Av : Option Addr) (capv : Nat) (v' : Value) (ys : List Value), i' = .int .i64 (j : Int) ∧ v = .slice Av j capv ∧ j ≤ x.kids.len ∧ Hid (LayL base gm a d N xs x B cap w (.slice A0 N c0) j j wr (.slice Av j capv) v' ys)) (fun _ i' _ => x.kids.len - (intOf i').toNat)
  case atStart => exact ⟨0, none, 0, _, _, rfl, rfl, Nat.zero_le _, H0⟩
  case round =>
   clear H0 x5 lx
   obtain ⟨j, Av, capv, v', ys, rfl, rfl, hj', HL⟩ := hrel
   by_cases hlt : j < x.kids.len
   ·obtain ⟨y, hy⟩ : ∃ y, x.kids.list[j]? = some y := ⟨_, List.getElem?_eq_getElem (by rw [Trees.len_list]; exact hlt)⟩
    have HTw := (HT.out.keep (w' := wr) (Q := fun b => b < base) (fun b o h1 _ => HL.out.lay.below.cell (p := ⟨b, o, none⟩) h1) (fun b h1 _ => h1))
    obtain ⟨b, o, C, capc, rfl, hbb, hkl, ⟨q0, q1, q2, q3, q4, q5, q6, q7⟩, hkz⟩ := HTw.get hy
    have hwr := HL.out.lay.below.size
    have hbA : Below wr.heap.size wr (wr.alloc (.cells (ndA y C capc) 28)) := (Below.refl _ _).alloc (Nat.le_refl _) _
    have hks := kidsTo_len x (j + 1)
    rw [kidsTo_next hy, List.length_append, Nd.nodes_len] at hks
    have HI := Lib.hid (HK.out y (List.mem_of_getElem? hy) C capc base gm a d v' (N + 1 + (kidsTo x j).length) (xs ++ pcell x (some ⟨b, o, none⟩) x.kids.len cap none 0 0 ++ ys) (wr.alloc (.cells (ndA y C capc) 28)) (hkz.below hbA) hkl (HL.out.box.alloc _) (HL.out.row.alloc _) HB.out.1 (by have := HB.out.2.1; simp; omega) (by omega))
    have HY := Lib.hid hy
    have hdl : (j : Int) < (x.kids.len : Int) := by omega
    have hdc : (j : Int) < (cap : Int) := by omega
    have hblk := World.block_lt_of_cell? wr _ q0
    clear hy hkz hbA hks hwr HTw
    unfold ndV at HI
    unfold ndA at HI
    go_wp2_with fail
    refine HI.out.mono ?_
    rintro e w3 ⟨rfl, v2, zs, hbx, hrw, hps, hly⟩
    have HM3 := Lib.hid (lay_called HL.out HB.out.2.1 HB.out.2.2 HY.out hbx hrw hps hly)
    clear hbx hrw hps hly HI HL q0 q1 q2 q3 q4 q5 q6 q7 hblk hbb hkl
    have h63 : j + 1 ≤ maxLen := Nat.le_trans (show j + 1 ≤ 2000000 from by have := Trees.len_size x.kids; unfold Nd.size at hsz; omega) (by decide)
    have hby : (j + 1) * 8 ≤ 140737488355328 := by have := Trees.len_size x.kids; unfold Nd.size at hsz; omega
    have hw3 : w.heap.size ≤ w3.heap.size := HM3.out.lay.below.size
    dsimp only
    go_wp2_with (at_builtin; refine wpList_append_lies _ rfl _ _ 32 rfl w.heap.size 3 j0 _ 1 8 Tryd.underlying32 hj hj0 hj1 hj2 rfl (by decide) (.slice Av j capv) j (intsC (kidNums (N + 1) (x.kids.list.take j))) rfl (HM3.out.nums.alloc _) ⟨w3.heap.size, 0, none⟩ 1 1 [.int .i64 ((N + 1 + (kidsTo x j).length : Nat) : Int)] rfl rfl (World.news_of_block (cs := #[.int .i64 ((N + 1 + (kidsTo x j).length : Nat) : Int)]) (t := 3) (fr := (0, 0)) (heap_alloc_new w3 _)) (by simp [Value.oneCell']) (by decide) h63 hby (by simp; omega) (w3.heap.size + 1) (by simp) ?_; intro gg cap' w4 hown4 hgrow hat hlt1; have HN4 := Lib.hid (lay_append HM3.out HB.out.2.1 HB.out.2.2 HY.out hown4 hgrow hat); clear hgrow hown4 hat)
    go_roundw
    case rel => exact ⟨j + 1, _, _, _, _, by go_num, rfl, by omega, HN4⟩
    case measure => simp [intOf]; omega
   ·obtain rfl : j = x.kids.len := by omega
    have hdl : ¬ ((x.kids.len : Int) < (x.kids.len : Int)) := by omega
    have hks := kidsTo_all x
    have hsz1 : (kidsTo x x.kids.len).length + 1 = x.size := by rw [hks, ← Nd.nodes_len]; simp [Nd.nodes]
    obtain ⟨bp, c3, rfl, _, hbl⟩ := own_form HL.out.row (by omega)
    have hc3 : N + 1 + (kidsTo x x.kids.len).length ≤ c3 := by
     obtain ⟨A, c, e, h⟩ := row_form HL.out.row
     cases e
     exact h
    have g0 := HL.out.box.cell 0
    have lg := HL.out.box.lt
    simp only [List.getElem?_toArray, List.getElem?_cons_zero] at g0
    have fr := HL.out.row.frozenAt (N * 9 + 8)
    have c8 : wr.cell? ⟨bp, N * 9 + 8, none⟩ = some (.slice none 0 0) := by
     rw [HL.out.row.cellAt _ (by omega), List.append_assoc, List.getElem?_append_right (by have := HXL.out; omega), HXL.out, show N * 9 + 8 - N * 9 = 8 by omega]
     rfl
    have hd1 : (N : Int) < ((N + 1 + (kidsTo x x.kids.len).length : Nat) : Int) := by omega
    have hd2 : (N : Int) < (c3 : Int) := by omega
    have HE := Lib.hid (lay_end HL.out HB.out.2.1 HB.out.2.2 HXL.out hsz1)
    clear hks hsz1 HL
    go_wp2
    go_light
    go_ret
    exact ⟨rfl, _, HE.out.1, _, HE.out.2.1, HE.out.2.2.1, HE.out.2.2.2⟩
theorem lay11_all : ∀ (n : Nat) (x : Nd), x.size ≤ n → LayP x
 | 0, x, h => by unfold Nd.size at h; omega
 | n + 1, x, h => lay_step fun y hy => lay11_all n y (by
   obtain ⟨i, hi⟩ := List.mem_iff_getElem?.1 hy
   have := Trees.size_get x.kids i y hi
   unfold Nd.size at this h ⊢
   omega)
end Go.Proofs.YtfcblmbieiibmaaDoor
namespace Go.Proofs.YtfcblmbieiibmaaDoor
open Go.RowKit Go.Shelf Go.MapKept Go.ChangeMaps Go.Maps
set_option linter.unusedSimpArgs false
set_option linter.unusedVariables false
set_option maxRecDepth 100000
set_option maxHeartbeats 8000000
theorem keys_apart {α β : Type} {f : α → β} : ∀ {l : List α}, (l.map f).Nodup → ∀ {a b : α}, a ∈ l → b ∈ l → f a = f b → a = b
 | [], _, _, _, h, _, _ => by cases h
 | x :: l, hn, a, b, ha, hb, he => by
  rw [List.map_cons] at hn
  obtain ⟨h1, h2⟩ := List.nodup_cons.1 hn
  rcases List.mem_cons.1 ha with h3 | h3 <;> rcases List.mem_cons.1 hb with h4 | h4
  ·rw [h3, h4]
  ·exact absurd (by rw [← h3, he]; exact List.mem_map.2 ⟨b, h4, rfl⟩ : f x ∈ l.map f) h1
  ·exact absurd (by rw [← h4, ← he]; exact List.mem_map.2 ⟨a, h3, rfl⟩ : f x ∈ l.map f) h1
  ·exact keys_apart h2 h3 h4 he
section
variable {κ : Type} {key : κ → Value} {ok : κ → Prop} {good : κ → Value → Prop} {w w1 : World} {b : Nat} {k t E : TypeId} {P : Program}
theorem MemoAt.look2 (h : MemoAt key ok good w b) (K : Keyed P k) (ht : P.underlying t = some (.map k E)) {z : Value} (hz : ∀ w, (zeroValue E).run P w = .ok z w) (hk : ∀ q, ok q → ∃ l, keyOf P k (key q) = some l) (hinj : ∀ q q', key q = key q' → q = q') {q : κ} (hq : ok q) :
  (∀ w1 : World, w1.heap[b]? = w.heap[b]? → (Instr.lookup t (.map (some b)) (key q) true).run P w1 = .ok (.tuple #[z, .bool false]) w1) ∨ ∃ v, good q v ∧ ∀ w1 : World, w1.heap[b]? = w.heap[b]? → (Instr.lookup t (.map (some b)) (key q) true).run P w1 = .ok (.tuple #[v, .bool true]) w1 := by
 obtain ⟨es, clock, hb, h1, h2⟩ := h
 obtain ⟨l, hl⟩ := hk q hq
 have hks : ∀ e ∈ es.toList, ∃ l, keyOf P k e.key = some l := fun x hx => by
  obtain ⟨q', h3, h4, _⟩ := h2 x hx
  rw [h4]
  exact hk q' h3
 by_cases hx : ∃ e ∈ es.toList, e.key = key q
 ·obtain ⟨e, he, hek⟩ := hx
  refine .inr ⟨e.val, ?_, fun w1 hw => ?_⟩
  ·obtain ⟨q', h3, h4, h5⟩ := h2 e he
   rw [hinj q q' (hek.symm.trans h4)]
   exact h5
  ·rcases K.find w1 hl es.toList hks with ⟨f1, f2⟩ | ⟨j, e0, f1, f2, f3⟩
   ·exact absurd hek (f2 e he)
   ·obtain rfl : e0 = e := keys_apart h1.2.2 (List.mem_of_getElem? f2) he (f3.trans hek.symm)
    simp [Instr.lookup, run_underlying ht, MapKept.run_getObj_map (hw.trans hb), K.check w1 _ hl, f1, Result.andThen]
 ·refine .inl fun w1 hw => ?_
  rcases K.find w1 hl es.toList hks with ⟨f1, f2⟩ | ⟨j, e0, f1, f2, f3⟩
  ·simp [Instr.lookup, run_underlying ht, MapKept.run_getObj_map (hw.trans hb), K.check w1 _ hl, f1, hz w1, Result.andThen]
  ·exact absurd ⟨e0, List.mem_of_getElem? f2, f3⟩ hx
end
theorem zero_places (w : World) : (zeroValue 51).run Tryd.prog w = .ok (.agg #[.int .u64 0, .int .u64 0, .int .u64 0, .int .u64 0, .int .u64 0]) w := by kernel_rfl
theorem ask_ok {k i : Nat} (hk : k ≤ 1000000) (hi : i ≤ 256) : okA ((k : Int), (i : Int)) := by
 constructor <;> simp [Lit.wf, show IntKind.i64.min = -9223372036854775808 from by decide, show IntKind.i64.max = 9223372036854775807 from by decide] <;> omega
theorem memo_look {x z : Nd} {bs : List Nat} {w : World} {fm k i : Nat} (h : MemoAt askV okA (goodM x bs) w fm) (hk : k ≤ 1000000) (hi : i ≤ 256) (hz : x.nodes[k]? = some z) :
  (∀ w1 : World, w1.heap[fm]? = w.heap[fm]? → (Instr.lookup 75 (.map (some fm)) (.agg #[.int .i64 (k : Int), .int .i64 (i : Int)]) true).run Tryd.prog w1 = .ok (.tuple #[.agg #[.int .u64 0, .int .u64 0, .int .u64 0, .int .u64 0, .int .u64 0], .bool false]) w1) ∨
  ∀ w1 : World, w1.heap[fm]? = w.heap[fm]? → (Instr.lookup 75 (.map (some fm)) (.agg #[.int .i64 (k : Int), .int .i64 (i : Int)]) true).run Tryd.prog w1 = .ok (.tuple #[.agg #[.int .u64 (word (endsB z bs i) 0), .int .u64 (word (endsB z bs i) 1), .int .u64 (word (endsB z bs i) 2), .int .u64 (word (endsB z bs i) 3), .int .u64 (word (endsB z bs i) 4)], .bool true]) w1 := by
 rcases h.look2 askKeyed Tryd.underlying75 zero_places ask_key askV_inj (ask_ok hk hi) with h1 | ⟨v, h2, h3⟩
 ·exact .inl h1
 ·refine .inr ?_
  have := h2 k i z rfl hz
  rw [← this]
  exact h3
theorem memo_put {x z : Nd} {bs : List Nat} {w : World} {fm k i : Nat} (h : MemoAt askV okA (goodM x bs) w fm) (hk : k ≤ 1000000) (hi : i ≤ 256) (hz : x.nodes[k]? = some z) :
  ∃ w2, (Instr.mapUpdate 75 (.map (some fm)) (.agg #[.int .i64 (k : Int), .int .i64 (i : Int)]) (.agg #[.int .u64 (word (endsB z bs i) 0), .int .u64 (word (endsB z bs i) 1), .int .u64 (word (endsB z bs i) 2), .int .u64 (word (endsB z bs i) 3), .int .u64 (word (endsB z bs i) 4)])).run Tryd.prog w = .ok () w2 ∧ MemoAt askV okA (goodM x bs) w2 fm ∧ w.grownBy w2 (some fm) :=
 h.store askKeyed Tryd.underlying75 ask_key (ask_ok hk hi) (fun k' i' z' e hz' => by
  simp at e
  obtain ⟨e1, e2⟩ := e
  obtain rfl : k = k' := by omega
  obtain rfl : i = i' := by omega
  rw [hz] at hz'
  cases hz'
  rfl)
end Go.Proofs.YtfcblmbieiibmaaDoor
