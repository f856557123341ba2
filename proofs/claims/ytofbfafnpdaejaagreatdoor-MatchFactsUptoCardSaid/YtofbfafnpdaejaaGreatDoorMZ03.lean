/- Texts of the claim. -/
import Derived.Maps.AppendAt
import Derived.Deep.AppendLies
import Derived.Deep.RegionLaw
import Derived.Deep.RegionHeld3
import Derived.RegionTactic
import Derived.BigRegion
import Derived.Deep.RegionWith
import Derived.Lib.SlBytesConst
import Derived.Deep.Cut
import Derived.Deep.QuietTactic
import Derived.BigQuiet
import Derived.Shelf.RegionOpenPlain
import Derived.StillTailTactics
import Derived.Test.YtofbfafnpdaejaaGreatDoorMZ02
import Derived.Test.YtofbfafnpdaejaaGreatDoorMZ01
import Derived.Test.YtofbfafnpdaejaaGreatDoorMRefTwo
import Derived.Test.YtofbfafnpdaejaaGreatDoorMSpans
import Derived.Test.YtofbfafnpdaejaaGreatDoorMRefEsc
namespace Go.Proofs.YtofbfafnpdaejaaGreatDoor
open Go.RowKit
set_option linter.unusedSimpArgs false
set_option linter.unusedVariables false
set_option maxRecDepth 100000
set_option maxHeartbeats 8000000
def linkCell (p : Nat × Nat) : List Value := [.int .i64 (p.1 : Int), .int .i64 (p.2 : Int)]
def edgeCell (p : Nat × Nat × Nat) : List Value := [.int .i64 (p.1 : Int), .int .u64 (word p.2.1.testBit 0), .int .u64 (word p.2.1.testBit 1), .int .u64 (word p.2.1.testBit 2), .int .u64 (word p.2.1.testBit 3), .int .i64 (p.2.2 : Int)]
def accCell (a : Nat) : List Value := [.int .i64 (a : Int)]
def linkCells (l : List (Nat × Nat)) : List Value := l.flatMap linkCell
def edgeCells (l : List (Nat × Nat × Nat)) : List Value := l.flatMap edgeCell
def accCells (l : List Nat) : List Value := l.flatMap accCell
structure RowsM (w : World) (base : Nat) (m : MachS) (L E A : Value) : Prop where
 l : w.ownsRow base 85 2 L m.links.length (linkCells m.links)
 e : w.ownsRow base 89 6 E m.edges.length (edgeCells m.edges)
 a : w.ownsRow base 3 1 A m.accept.length (accCells m.accept)
structure In3 (S : Nat → Prop) (L E A : Value) : Prop where
 l : ∀ b, L.ownBlock = some b → S b
 e : ∀ b, E.ownBlock = some b → S b
 a : ∀ b, A.ownBlock = some b → S b
def LayAt (w : World) (base g : Nat) (S : Nat → Prop) (m : MachS) : Prop :=
 (∀ b, S b → base ≤ b ∧ b < w.heap.size) ∧ S g ∧ ∃ L E A, Blk w g 112 #[.int .i64 (m.states : Int), .int .i64 0, L, E, A] ∧ RowsM w base m L E A ∧ In3 S L E A
structure Moves (base : Nat) (S : Nat → Prop) (w : World) (S' : Nat → Prop) (w' : World) : Prop where
 below : Below base w w'
 size : w.heap.size ≤ w'.heap.size
 kept : ∀ b, b < w.heap.size → ¬ S b → w'.heap[b]? = w.heap[b]?
 fresh : ∀ b, S' b → S b ∨ w.heap.size ≤ b
def Ends (base g : Nat) (S : Nat → Prop) (w : World) (m : MachS) (v : Value) (es : List Nat) (wr : World) : Prop :=
 ∃ S', LayAt wr base g S' m ∧ Moves base S w S' wr ∧ wr.ownsRow w.heap.size 3 1 v es.length (accCells es) ∧ ∀ b, v.ownBlock = some b → ¬ S' b
structure NfaV where
 states : Int
 start : Int
 links : List (Int × Int)
 edges : List (Int × Nat × Int)
 accept : List Int
def IntsAt (w : World) (A : Option Addr) (L : List Int) : Prop := ∀ (i : Nat) (a : Int), L[i]? = some a → ∃ b o, A = some ⟨b, o, none⟩ ∧ w.cell? ⟨b, o + i, none⟩ = some (.int .i64 a)
theorem IntsAt.below {w w' : World} {A : Option Addr} {L : List Int} (h : IntsAt w A L) (hb : Below w.heap.size w w') : IntsAt w' A L := fun i p hp => by
 obtain ⟨b, o, hA, h0⟩ := h i p hp
 have hl : b < w.heap.size := World.block_lt_of_cell? w _ h0
 exact ⟨b, o, hA, (hb.cell (p := ⟨b, _, none⟩) hl).trans h0⟩
@[inline] def nfA (N : NfaV) (A1 : Option Addr) (k1 : Nat) (A2 : Option Addr) (k2 : Nat) (A3 : Option Addr) (k3 : Nat) : Array Value := #[.int .i64 N.states, .int .i64 N.start, .slice A1 N.links.length k1, .slice A2 N.edges.length k2, .slice A3 N.accept.length k3]
def intsC (l : List Int) : List Value := l.map (Value.int .i64)
theorem addr_plusC (b o j : Nat) : (⟨b, o, none⟩ : Addr).add j = ⟨b, o + j, none⟩ := by unfold Addr.add; split <;> simp_all
theorem own_intsC {w : World} {base n : Nat} {A : Option Addr} {k : Nat} {l : List Int} (h : w.ownsRow base 3 1 (.slice A n k) l.length (intsC l)) : IntsAt w A l := fun i a ha => by
 have hi := (List.getElem?_eq_some_iff.1 ha).1
 obtain ⟨g, c, e, _, _⟩ := own_form h (by omega)
 cases e
 have d0 := h.cells (g := g) rfl i (.int .i64 a) (by unfold intsC; rw [List.getElem?_map, ha]; rfl)
 rw [addr_plusC] at d0
 exact ⟨g, 0, rfl, d0⟩
theorem info_intC : (Tryz.prog.info? 3).map (fun i => (i.zero, i.size, i.bytes)) = some (some (.int .i64 0), 1, 8) := by kernel_rfl
end Go.Proofs.YtofbfafnpdaejaaGreatDoor
namespace Go.Proofs.YtofbfafnpdaejaaGreatDoor
set_option linter.unusedSimpArgs false
set_option linter.unusedVariables false
set_option maxHeartbeats 8000000
theorem testBit_split (a b j : Nat) (ha : a < 256) : (a + 256 * b).testBit j = if j < 8 then a.testBit j else b.testBit (j - 8) := by
 rw [Nat.add_comm, show (256 : Nat) = 2 ^ 8 from rfl]
 exact Nat.testBit_two_pow_mul_add b ha j
theorem land_split (x m n : Nat) (hm : m < 256) : x &&& (m + 256 * n) = ((x % 256) &&& m) + 256 * ((x / 256) &&& n) := by
 apply Nat.eq_of_testBit_eq
 intro j
 have h1 : (x % 256) &&& m < 256 := Nat.and_lt_two_pow (n := 8) _ hm
 rw [testBit_split _ _ _ h1, Nat.testBit_and, testBit_split _ _ _ hm]
 by_cases hj : j < 8
 ·rw [if_pos hj, if_pos hj, Nat.testBit_and, show (256 : Nat) = 2 ^ 8 from rfl, Nat.testBit_mod_two_pow]
  simp [hj]
 ·rw [if_neg hj, if_neg hj, Nat.testBit_and, show (256 : Nat) = 2 ^ 8 from rfl, Nat.testBit_div_two_pow]
  congr 2
  omega
def mask (m : Nat) : Nat → Nat
 | 0 => 0
 | n + 1 => m + 256 * mask m n
def s1 (n x : Nat) : Nat := ((x / 2) &&& mask 0x55 n) + (x &&& mask 0x55 n)
def s2 (n x : Nat) : Nat := ((x / 4) &&& mask 0x33 n) + (x &&& mask 0x33 n)
def s3 (n x : Nat) : Nat := (x / 16 + x) &&& mask 0x0f n
def f1 (b : Nat) : Nat := ((b / 2) &&& 0x55) + (b &&& 0x55)
def f2 (b : Nat) : Nat := ((b / 4) &&& 0x33) + (b &&& 0x33)
def f3 (b : Nat) : Nat := (b / 16 + b) &&& 0x0f
theorem cross1 : ∀ y : Fin 512, (y.val / 2) &&& 0x55 = (y.val % 256 / 2) &&& 0x55 := by decide +kernel
theorem cross2 : ∀ y : Fin 1024, (y.val / 4) &&& 0x33 = (y.val % 256 / 4) &&& 0x33 := by decide +kernel
theorem s1_step (n x : Nat) : s1 (n + 1) x = f1 (x % 256) + 256 * s1 n (x / 256) := by
 unfold s1 f1
 rw [show mask 0x55 (n + 1) = 0x55 + 256 * mask 0x55 n from rfl, land_split _ _ _ (by decide), land_split _ _ _ (by decide)]
 have h := cross1 ⟨x % 512, Nat.mod_lt _ (by decide)⟩
 dsimp only at h
 rw [show x / 2 % 256 = x % 512 / 2 by omega, h, show x % 512 % 256 = x % 256 by omega, show x / 2 / 256 = x / 256 / 2 by omega]
 omega
theorem s2_step (n x : Nat) : s2 (n + 1) x = f2 (x % 256) + 256 * s2 n (x / 256) := by
 unfold s2 f2
 rw [show mask 0x33 (n + 1) = 0x33 + 256 * mask 0x33 n from rfl, land_split _ _ _ (by decide), land_split _ _ _ (by decide)]
 have h := cross2 ⟨x % 1024, Nat.mod_lt _ (by decide)⟩
 dsimp only at h
 rw [show x / 4 % 256 = x % 1024 / 4 by omega, h, show x % 1024 % 256 = x % 256 by omega, show x / 4 / 256 = x / 256 / 4 by omega]
 omega
theorem cross3 : ∀ y : Fin 69, ∀ t : Fin 5, (y.val / 16 + y.val + 16 * t.val) &&& 0x0f = (y.val / 16 + y.val) &&& 0x0f := by decide +kernel
theorem s3_step (n x : Nat) (h1 : x % 256 < 69) (h2 : x / 256 % 16 < 5) : s3 (n + 1) x = f3 (x % 256) + 256 * s3 n (x / 256) := by
 unfold s3 f3
 rw [show mask 0x0f (n + 1) = 0x0f + 256 * mask 0x0f n from rfl, land_split _ _ _ (by decide)]
 have h := cross3 ⟨x % 256, h1⟩ ⟨x / 256 % 16, h2⟩
 dsimp only at h
 rw [show (x / 16 + x) % 256 = x % 256 / 16 + x % 256 + 16 * (x / 256 % 16) by omega, h, show (x / 16 + x) / 256 = x / 256 / 16 + x / 256 by omega]
theorem f1_lt : ∀ b : Fin 256, f1 b.val < 256 := by decide +kernel
theorem f2f1_lt : ∀ b : Fin 256, f2 (f1 b.val) < 69 ∧ f2 (f1 b.val) % 16 < 5 := by decide +kernel
def pop (b : Nat) : Nat := f3 (f2 (f1 b))
theorem pop_le : ∀ b : Fin 256, pop b.val ≤ 8 := by decide +kernel
def cnts : Nat → Nat → Nat
 | 0, _ => 0
 | n + 1, x => pop (x % 256) + 256 * cnts n (x / 256)
theorem s123 : ∀ (n x : Nat), s3 n (s2 n (s1 n x)) = cnts n x ∧ (0 < n → s2 n (s1 n x) % 16 < 5)
 | 0, x => by simp [s3, s2, s1, mask, cnts]
 | n + 1, x => by
  obtain ⟨ih, ihn⟩ := s123 n (x / 256)
  have hb : x % 256 < 256 := Nat.mod_lt _ (by decide)
  have a1 := f1_lt ⟨x % 256, hb⟩
  have a2 := f2f1_lt ⟨x % 256, hb⟩
  dsimp only at a1 a2
  have e2 : s2 (n + 1) (s1 (n + 1) x) = f2 (f1 (x % 256)) + 256 * s2 n (s1 n (x / 256)) := by
   rw [s2_step, s1_step, show (f1 (x % 256) + 256 * s1 n (x / 256)) % 256 = f1 (x % 256) by omega, show (f1 (x % 256) + 256 * s1 n (x / 256)) / 256 = s1 n (x / 256) by omega]
  refine ⟨?_, fun _ => by rw [e2]; omega⟩
  have hz : s2 n (s1 n (x / 256)) % 16 < 5 := by
   rcases Nat.eq_zero_or_pos n with h0 | h0
   ·subst h0; simp [s2, s1, mask]
   ·exact ihn h0
  rw [e2, s3_step _ _ (by omega) (by rw [show (f2 (f1 (x % 256)) + 256 * s2 n (s1 n (x / 256))) / 256 = s2 n (s1 n (x / 256)) by omega]; exact hz),
   show (f2 (f1 (x % 256)) + 256 * s2 n (s1 n (x / 256))) % 256 = f2 (f1 (x % 256)) by omega, show (f2 (f1 (x % 256)) + 256 * s2 n (s1 n (x / 256))) / 256 = s2 n (s1 n (x / 256)) by omega, ih]
  rfl
def cnt (p : Nat → Bool) : Nat → Nat
 | 0 => 0
 | n + 1 => cnt p n + (p n).toNat
theorem cnt_le (p : Nat → Bool) : ∀ n, cnt p n ≤ n
  | 0 => Nat.le_refl _
  | n + 1 => by have := cnt_le p n; have : (p n).toNat ≤ 1 := by cases p n <;> decide
                unfold cnt; omega
theorem cnt_congr {p q : Nat → Bool} : ∀ n, (∀ k, k < n → p k = q k) → cnt p n = cnt q n
 | 0, _ => rfl
 | n + 1, h => by unfold cnt; rw [cnt_congr n (fun k hk => h k (by omega)), h n (by omega)]
theorem cnt_add (p : Nat → Bool) (m : Nat) : ∀ n, cnt p (m + n) = cnt p m + cnt (fun k => p (m + k)) n
 | 0 => by simp [cnt]
 | n + 1 => by rw [← Nat.add_assoc]; show cnt p (m + n) + (p (m + n)).toNat = cnt p m + (cnt (fun k => p (m + k)) n + (p (m + n)).toNat); rw [cnt_add p m n]; omega
theorem pop_cnt : ∀ b : Fin 256, pop b.val = cnt b.val.testBit 8 := by decide +kernel
def sums : Nat → Nat → Nat
 | 0, _ => 0
 | n + 1, x => pop (x % 256) + sums n (x / 256)
theorem sums_cnt : ∀ (n x : Nat), sums n x = cnt x.testBit (8 * n)
 | 0, x => rfl
 | n + 1, x => by
  unfold sums
  rw [sums_cnt n, pop_cnt ⟨x % 256, Nat.mod_lt _ (by decide)⟩, show 8 * (n + 1) = 8 + 8 * n by omega, cnt_add]
  dsimp only
  congr 1
  ·apply cnt_congr
   intro k hk
   rw [show (256 : Nat) = 2 ^ 8 from rfl, Nat.testBit_mod_two_pow]
   simp [hk]
  ·apply cnt_congr
   intro k _
   rw [show (256 : Nat) = 2 ^ 8 from rfl, Nat.testBit_div_two_pow, Nat.add_comm]
def fold3 (z : Nat) : Nat := let u := z + z / 256; let v := u + u / 65536; (v + v / 4294967296) % 128
theorem d1 {a b : Nat} (h : a < 256) : (a + 256 * b) / 256 = b := by omega
theorem m1 (a b : Nat) : (a + 256 * b) % 128 = a % 128 := by omega
theorem a1 (a b c d : Nat) : (a + 256 * b) + (c + 256 * d) = (a + c) + 256 * (b + d) := by omega
theorem a0 (a b c : Nat) : (a + 256 * b) + c = (a + c) + 256 * b := by omega
theorem fold3_eq (c0 c1 c2 c3 c4 c5 c6 c7 : Nat) (h0 : c0 ≤ 8) (h1 : c1 ≤ 8) (h2 : c2 ≤ 8) (h3 : c3 ≤ 8) (h4 : c4 ≤ 8) (h5 : c5 ≤ 8) (h6 : c6 ≤ 8) (h7 : c7 ≤ 8) :
  fold3 (c0 + 256 * (c1 + 256 * (c2 + 256 * (c3 + 256 * (c4 + 256 * (c5 + 256 * (c6 + 256 * c7))))))) = c0 + c1 + (c2 + c3) + (c4 + c5 + (c6 + c7)) := by
 unfold fold3
 dsimp only
 rw [d1 (show c0 < 256 by omega)]
 have e2 : c0 + 256 * (c1 + 256 * (c2 + 256 * (c3 + 256 * (c4 + 256 * (c5 + 256 * (c6 + 256 * c7)))))) + (c1 + 256 * (c2 + 256 * (c3 + 256 * (c4 + 256 * (c5 + 256 * (c6 + 256 * c7)))))) =
   (c0 + c1) + 256 * ((c1 + c2) + 256 * ((c2 + c3) + 256 * ((c3 + c4) + 256 * ((c4 + c5) + 256 * ((c5 + c6) + 256 * ((c6 + c7) + 256 * c7)))))) := by
  simp only [Nat.mul_add]; clear h0 h1 h2 h3 h4 h5 h6 h7; omega
 rw [e2, show (65536 : Nat) = 256 * 256 from rfl, ← Nat.div_div_eq_div_mul, d1 (show c0 + c1 < 256 by omega), d1 (show c1 + c2 < 256 by omega)]
 have e3 : (c0 + c1) + 256 * ((c1 + c2) + 256 * ((c2 + c3) + 256 * ((c3 + c4) + 256 * ((c4 + c5) + 256 * ((c5 + c6) + 256 * ((c6 + c7) + 256 * c7)))))) + ((c2 + c3) + 256 * ((c3 + c4) + 256 * ((c4 + c5) + 256 * ((c5 + c6) + 256 * ((c6 + c7) + 256 * c7))))) =
   (c0 + c1 + (c2 + c3)) + 256 * ((c1 + c2 + (c3 + c4)) + 256 * ((c2 + c3 + (c4 + c5)) + 256 * ((c3 + c4 + (c5 + c6)) + 256 * ((c4 + c5 + (c6 + c7)) + 256 * ((c5 + c6 + c7) + 256 * ((c6 + c7) + 256 * c7)))))) := by
  simp only [Nat.mul_add]; clear h0 h1 h2 h3 h4 h5 h6 h7; omega
 rw [e3, show (4294967296 : Nat) = 256 * 256 * 256 * 256 from rfl, ← Nat.div_div_eq_div_mul, ← Nat.div_div_eq_div_mul, ← Nat.div_div_eq_div_mul,
  d1 (show c0 + c1 + (c2 + c3) < 256 by omega), d1 (show c1 + c2 + (c3 + c4) < 256 by omega), d1 (show c2 + c3 + (c4 + c5) < 256 by omega), d1 (show c3 + c4 + (c5 + c6) < 256 by omega)]
 rw [a1, m1]
 omega
theorem fold3_cnts (x : Nat) : fold3 (cnts 8 x) = sums 8 x := by
 have h : ∀ y, pop (y % 256) ≤ 8 := fun y => pop_le ⟨y % 256, Nat.mod_lt _ (by decide)⟩
 have e := fold3_eq _ _ _ _ _ _ _ _ (h x) (h (x / 256)) (h (x / 256 / 256)) (h (x / 256 / 256 / 256)) (h (x / 256 / 256 / 256 / 256)) (h (x / 256 / 256 / 256 / 256 / 256)) (h (x / 256 / 256 / 256 / 256 / 256 / 256)) (h (x / 256 / 256 / 256 / 256 / 256 / 256 / 256))
 simp only [cnts, sums, Nat.mul_zero, Nat.add_zero]
 rw [e]
 simp only [Nat.add_assoc]
end Go.Proofs.YtofbfafnpdaejaaGreatDoor
namespace Go.Proofs.YtofbfafnpdaejaaGreatDoor
open Go.RowKit
set_option linter.unusedSimpArgs false
set_option linter.unusedVariables false
set_option maxRecDepth 100000
set_option maxHeartbeats 8000000
theorem and64 (a M : Nat) (ha : a < 18446744073709551616) (hM : M < 18446744073709551616) : bits .and .u64 (a : Int) (M : Int) = ((a &&& M : Nat) : Int) := u64_and_nat a M ha hM
theorem wrapN (a : Nat) (h : a < 18446744073709551616) : IntKind.u64.wrap (a : Int) = (a : Int) := by rw [IntKind.wrap_u64]; omega
theorem i64_and127 (a : Nat) (ha : a < 9223372036854775808) : bits .and .i64 (a : Int) 127 = ((a % 128 : Nat) : Int) := by
 have hx : a &&& 127 = a % 128 := Nat.and_two_pow_sub_one_eq_mod a 7
 show IntKind.i64.wrap ((BitVec.ofInt 64 (a : Int) &&& BitVec.ofInt 64 (127 : Int)).toNat : Int) = _
 have e1 : (BitVec.ofInt 64 (a : Int)).toNat = a := by rw [BitVec.ofInt_natCast, BitVec.toNat_ofNat]; exact Nat.mod_eq_of_lt (by omega)
 have e2 : (BitVec.ofInt 64 (127 : Int)).toNat = 127 := by decide
 rw [BitVec.toNat_and, e1, e2, hx, IntKind.wrap_i64]
 omega
theorem mask55 : mask 0x55 8 = 6148914691236517205 := by decide
theorem mask33 : mask 0x33 8 = 3689348814741910323 := by decide
theorem mask0f : mask 0x0f 8 = 1085102592571150095 := by decide
theorem st1 (x : Nat) (hx : x < 18446744073709551616) : IntKind.u64.wrap (bits .and .u64 ((x : Int) / 2) 6148914691236517205 + bits .and .u64 (x : Int) 6148914691236517205) = ((s1 8 x : Nat) : Int) ∧ s1 8 x < 18446744073709551616 := by
 have e : ((x : Int) / 2) = ((x / 2 : Nat) : Int) := by omega
 have h1 : (x / 2) &&& 6148914691236517205 ≤ 6148914691236517205 := Nat.and_le_right
 have h2 : x &&& 6148914691236517205 ≤ 6148914691236517205 := Nat.and_le_right
 have b1 := and64 (x / 2) 6148914691236517205 (by omega) (by decide)
 have b2 := and64 x 6148914691236517205 hx (by decide)
 rw [show (((6148914691236517205 : Nat)) : Int) = 6148914691236517205 from rfl] at b1 b2
 unfold s1
 rw [mask55, e, b1, b2, ← Int.natCast_add]
 exact ⟨wrapN _ (by omega), by omega⟩
theorem st2 (x : Nat) (hx : x < 18446744073709551616) : IntKind.u64.wrap (bits .and .u64 ((x : Int) / 4) 3689348814741910323 + bits .and .u64 (x : Int) 3689348814741910323) = ((s2 8 x : Nat) : Int) ∧ s2 8 x ≤ 7378697629483820646 := by
 have e : ((x : Int) / 4) = ((x / 4 : Nat) : Int) := by omega
 have h1 : (x / 4) &&& 3689348814741910323 ≤ 3689348814741910323 := Nat.and_le_right
 have h2 : x &&& 3689348814741910323 ≤ 3689348814741910323 := Nat.and_le_right
 have b1 := and64 (x / 4) 3689348814741910323 (by omega) (by decide)
 have b2 := and64 x 3689348814741910323 hx (by decide)
 rw [show (((3689348814741910323 : Nat)) : Int) = 3689348814741910323 from rfl] at b1 b2
 unfold s2
 rw [mask33, e, b1, b2, ← Int.natCast_add]
 exact ⟨wrapN _ (by omega), by omega⟩
theorem st3 (x : Nat) (hx : x ≤ 7378697629483820646) : bits .and .u64 (IntKind.u64.wrap ((x : Int) / 16 + (x : Int))) 1085102592571150095 = ((s3 8 x : Nat) : Int) ∧ s3 8 x ≤ 1085102592571150095 := by
 have e : ((x : Int) / 16 + (x : Int)) = ((x / 16 + x : Nat) : Int) := by omega
 have b1 := and64 (x / 16 + x) 1085102592571150095 (by omega) (by decide)
 rw [show (((1085102592571150095 : Nat)) : Int) = 1085102592571150095 from rfl] at b1
 unfold s3
 rw [mask0f, e, wrapN _ (by omega), b1]
 exact ⟨rfl, Nat.and_le_right⟩
theorem ones_go (x : Nat) (w : World) (hx : x < 18446744073709551616) :
  Calls Tryz.prog 157 #[.int .u64 (x : Int)] w fun e w' => e = .returned (.int .i64 ((cnt x.testBit 64 : Nat) : Int)) ∧ w = w' := by
 go_enter Tryz.func157, Tryz.ntmps157
 go_wp2
 go_light
 go_ret
 refine ⟨ret_i ?_, rfl⟩
 obtain ⟨e1, l1⟩ := st1 x hx
 obtain ⟨e2, l2⟩ := st2 (s1 8 x) l1
 obtain ⟨e3, l3⟩ := st3 (s2 8 (s1 8 x)) l2
 have ef : fold3 (s3 8 (s2 8 (s1 8 x))) = cnt x.testBit 64 := by rw [(s123 8 x).1, fold3_cnts, sums_cnt]
 rw [e1, e2, e3]
 generalize s3 8 (s2 8 (s1 8 x)) = z at *
 rw [← ef]
 unfold fold3
 dsimp only
 clear e1 e2 e3 l1 l2 ef
 have q1 : ((z : Int) + (z : Int) / 256) = ((z + z / 256 : Nat) : Int) := by omega
 rw [q1, wrapN _ (by omega)]
 generalize hu : z + z / 256 = u
 have lu : u ≤ 2170205185142300190 := by omega
 have q2 : ((u : Int) + (u : Int) / 65536) = ((u + u / 65536 : Nat) : Int) := by omega
 rw [q2, wrapN _ (by omega)]
 generalize hv : u + u / 65536 = v
 have lv : v ≤ 2180205185142300190 := by omega
 have q3 : ((v : Int) + (v : Int) / 4294967296) = ((v + v / 4294967296 : Nat) : Int) := by omega
 rw [q3, wrapN _ (by omega), show wrap64 ((v + v / 4294967296 : Nat) : Int) = ((v + v / 4294967296 : Nat) : Int) by unfold wrap64; omega]
 exact i64_and127 _ (by omega)
theorem cnt_word (p : Nat → Bool) (i : Nat) : cnt (word p i).testBit 64 = cnt (fun k => p (64 * i + k)) 64 :=
 cnt_congr 64 fun k hk => by rw [testBit_word]; simp [hk]
theorem cnt_words (p : Nat → Bool) : cnt (word p 0).testBit 64 + cnt (word p 1).testBit 64 + cnt (word p 2).testBit 64 + cnt (word p 3).testBit 64 = cnt p 256 := by
 rw [cnt_word, cnt_word, cnt_word, cnt_word, show 256 = 64 + (64 + (64 + 64)) from rfl, cnt_add, cnt_add, cnt_add]
 simp only [Nat.mul_zero, Nat.zero_add, ← Nat.add_assoc, Nat.mul_one, show 64 * 2 = 64 + 64 from rfl, show 64 * 3 = 64 + 64 + 64 from rfl]
theorem count_go (p : Nat → Bool) (w : World) :
  Calls Tryz.prog 121 #[.agg #[.int .u64 (word p 0), .int .u64 (word p 1), .int .u64 (word p 2), .int .u64 (word p 3)]] w fun e w' => e = .returned (.int .i64 ((cnt p 256 : Nat) : Int)) ∧ Below w.heap.size w w' := by
 go_enter Tryz.func121, Tryz.ntmps121
 go_wp2
 refine wp_loop_rounds 5 ?_
 rw [rounds_succ]
 go_wp2_with (go_at_call 157; refine (ones_go _ _ (word_lt _ _)).mono ?_; rintro e w2 ⟨rfl, rfl⟩)
 rw [rounds_succ]
 go_wp2_with (go_at_call 157; refine (ones_go _ _ (word_lt _ _)).mono ?_; rintro e w2 ⟨rfl, rfl⟩)
 rw [rounds_succ]
 go_wp2_with (go_at_call 157; refine (ones_go _ _ (word_lt _ _)).mono ?_; rintro e w2 ⟨rfl, rfl⟩)
 rw [rounds_succ]
 go_wp2_with (go_at_call 157; refine (ones_go _ _ (word_lt _ _)).mono ?_; rintro e w2 ⟨rfl, rfl⟩)
 rw [rounds_succ]
 go_wp2
 go_light
 go_ret
 refine ⟨ret_i ?_, (Below.refl _ _).alloc (Nat.le_refl _) _⟩
 have e := cnt_words p
 have l0 := cnt_le (word p 0).testBit 64
 have l1 := cnt_le (word p 1).testBit 64
 have l2 := cnt_le (word p 2).testBit 64
 have l3 := cnt_le (word p 3).testBit 64
 rw [← e]
 unfold wrap64
 omega
end Go.Proofs.YtofbfafnpdaejaaGreatDoor
namespace Go.Proofs.YtofbfafnpdaejaaGreatDoor
open Go.RowKit Go.Shelf
set_option maxHeartbeats 8000000
attribute [local go_sem] Oper.semAt_some
set_option linter.unusedSimpArgs false
set_option linter.unusedVariables false
set_option maxRecDepth 100000
theorem one_new (W : World) (v : Value) (t : TypeId) : (W.alloc (.cells #[v] t)).cell? ⟨W.heap.size, 0, none⟩ = some v ∧ (W.alloc (.cells #[v] t)).frozen? ⟨W.heap.size, 0, none⟩ = false :=
 ⟨(Blk.new W t #[v]).cell 0, (Blk.new W t #[v]).frozen 0⟩
theorem one_later {W : World} {a : Addr} {v : Value} (o : Obj) (h : W.cell? a = some v ∧ W.frozen? a = false) : (W.alloc o).cell? a = some v ∧ (W.alloc o).frozen? a = false :=
 ⟨cell_kept h.1 (World.grownBy_alloc W o none) (fun r e => by cases e), (frozen_kept h.1 (World.grownBy_alloc W o none) (fun r e => by cases e)).trans h.2⟩
theorem elems_pre (p : Nat → Bool) {m M : Nat} (h : m ≤ M) : ∃ l, elems p M = elems p m ++ l := by
 obtain ⟨d, rfl⟩ : ∃ d, M = m + d := ⟨M - m, by omega⟩
 clear h
 induction d with
 | zero => exact ⟨[], by simp⟩
 | succ d ih =>
  obtain ⟨l, hl⟩ := ih
  exact ⟨l ++ (if p (m + d) then [m + d] else []), by rw [← Nat.add_assoc, elems_succ, hl, List.append_assoc]⟩
theorem leastl_in (n : Nat) (hn : 3 ≤ n) (p : Nat → Bool) (c : Nat) (l0 : List Nat) (hp : elems p 256 = c :: l0) (w : World) (hT : TabAt 0 Lib.deBruijn64tab w) (hw0 : 0 < w.heap.size) :
  CallsIn Fence.wide n Tryz.prog 152 #[.agg #[.int .u64 (word p 0), .int .u64 (word p 1), .int .u64 (word p 2), .int .u64 (word p 3)]] w fun e W' => e = .returned (.int .i64 (c : Int)) ∧ Below w.heap.size w W' := by
 have h1 : 1 ≤ n := by omega
 have hc256 : c < 256 := elems_lt (m := 256) (p := p) (by rw [hp]; simp)
 refine callsIn_of_wp_marks Tryz.func152 rfl trivial ?_ rfl
 simp only [Tryz.ntmps152, List.size_toArray, List.length_cons, List.length_nil, Nat.reduceAdd, Nat.reduceSub, Array.replicate_succ, Array.replicate_zero, List.push_toArray, List.append_toArray, List.nil_append, List.cons_append]
 gi_wp2_with (refine ⟨trivial, ?_⟩; gi_at_call 180; refine (callsIn_wide.2 (each_go p _)).mono ?_; rintro e w' ⟨rfl, rfl⟩)
 have c1 := one_new (w.alloc (.cells #[.int .u64 (word p 0), .int .u64 (word p 1), .int .u64 (word p 2), .int .u64 (word p 3)] 25)) (.int .i64 0) 3
 simp only [World.size_alloc] at c1
 have hB0 : Below w.heap.size w (((w.alloc (.cells #[.int .u64 (word p 0), .int .u64 (word p 1), .int .u64 (word p 2), .int .u64 (word p 3)] 25)).alloc (.cells #[.int .i64 0] 3)).alloc (.cells #[.int .u64 (word p 0), .int .u64 (word p 1), .int .u64 (word p 2), .int .u64 (word p 3)] 25)) := (((Below.refl _ w).alloc (Nat.le_refl _) _).alloc (by simp) _).alloc (by simp; omega) _
 have bS : Blk (((w.alloc (.cells #[.int .u64 (word p 0), .int .u64 (word p 1), .int .u64 (word p 2), .int .u64 (word p 3)] 25)).alloc (.cells #[.int .i64 0] 3)).alloc (.cells #[.int .u64 (word p 0), .int .u64 (word p 1), .int .u64 (word p 2), .int .u64 (word p 3)] 25)) (w.heap.size + 1 + 1) 25 #[.int .u64 (word p 0), .int .u64 (word p 1), .int .u64 (word p 2), .int .u64 (word p 3)] := Blk.new_at (by simp)
 refine wpIn_rangeFunc_ownG rfl h1 (gf := 218) (lb := #[.pointer (some ⟨w.heap.size + 1 + 1, 0, none⟩)]) rfl trivial (enters_of Tryz.func218 (by kernel_rfl) rfl)
  (each_stops (n - 1) (by omega) p (w.heap.size + 1 + 1) w.heap.size _ hw0 (by simp) bS (TabAt.below hB0 hw0 hT)) belowK_t (belowK_b (by simp; omega)) (Below.refl _ _) (fun _ => rfl)
  (fun pre W => (pre = [] ∧ W.cell? ⟨w.heap.size + 1, 0, none⟩ = some (.int .i64 0) ∧ W.frozen? ⟨w.heap.size + 1, 0, none⟩ = false) ∧ Below w.heap.size w W)
  (fun k pre W => (∃ x, k = .ret ∧ pre = [x] ∧ W.cell? ⟨w.heap.size + 1, 0, none⟩ = some (.int .i64 ((x % 256 : Nat) : Int))) ∧ Below w.heap.size w W)
  (OwnFrom.and (Own.from (fun s A B row hs hg hr => ⟨hs.1, cell_kept hs.2.1 hg hr, (frozen_kept hs.2.1 hg hr).trans hs.2.2⟩) _) (ownFrom_below (Nat.le_refl _) (by simp; omega)))
  (fun c => OwnFrom.and (Own.from (fun s A B row hs hg hr => by obtain ⟨x, h1, h2, h3⟩ := hs; exact ⟨x, h1, h2, cell_kept h3 hg hr⟩) _) (ownFrom_below (Nat.le_refl _) (by simp; omega)))
  ⟨⟨rfl, one_later _ c1⟩, hB0⟩
  (fun x => { tmps := #[.agg #[.int .u64 (word p 0), .int .u64 (word p 1), .int .u64 (word p 2), .int .u64 (word p 3)], .pointer (some ⟨w.heap.size, 0, none⟩), .pointer (some ⟨w.heap.size + 1, 0, none⟩), .int .u8 ((x % 256 : Nat) : Int), .agg #[.int .u64 (word p 0), .int .u64 (word p 1), .int .u64 (word p 2), .int .u64 (word p 3)], .func (.func 218) #[] #[.pointer (some ⟨w.heap.size + 1 + 1, 0, none⟩)], .int .u8 ((x % 256 : Nat) : Int), undef, undef], defers := [] }) ?assign ?body ?done ?stop
 case assign =>
  intro l x W K hK
  unfold byteArg
  gi_wp2
  exact hK
 case body =>
  rintro l pre x W ⟨⟨rfl, hcr, hfr⟩, hB⟩ _
  have hx : x % 256 < 256 := Nat.mod_lt _ (by decide)
  generalize hxc : x % 256 = c' at *
  gi_wp2
  exact ⟨(KeepsOthers.setCell _ _ _).from _, ⟨x, rfl, rfl, by rw [hxc]; exact World.cell?_setCell_same' _ _ _ (by rw [hcr]; rfl)⟩, hB.setCell (p := ⟨w.heap.size + 1, 0, none⟩) (by simp) _⟩
 case done =>
  rintro D ys W hD rfl ⟨⟨hne, _, _⟩, hB⟩ hK
  rw [hp] at hne
  cases hne
 case stop =>
  rintro D k pre W hD ⟨m, hm, hpre⟩ ⟨⟨x, rfl, rfl, hcr⟩, hB⟩ hK
  have hxc : x = c := by
   obtain ⟨l, hl⟩ := elems_pre p hm
   rw [← hpre, hp] at hl
   simpa using (List.cons.inj hl).1.symm
  subst hxc
  rw [Nat.mod_eq_of_lt hc256] at hcr
  gi_wp2
  refine ⟨by simp, .inl ⟨_, _, rfl, run_takeDeferred hK, ?_⟩⟩
  have hc5 := cell_kept hcr (grownBy_putObj' _ D (.deferred none)) (fun r e => by cases e; exact ⟨_, hK, rfl⟩)
  refine ⟨.int .i64 (x : Int), ?_, rfl, hB.trans (belowK_b (w := w) (Nat.le_refl _) W D _ _ (by simp at hD; omega) hK rfl rfl)⟩
  simp [results, Tryz.f152, go_sem, hc5]
theorem leastl_go (p : Nat → Bool) (c : Nat) (l0 : List Nat) (hp : elems p 256 = c :: l0) (w : World) (hT : TabAt 0 Lib.deBruijn64tab w) (hw0 : 0 < w.heap.size) :
  Calls Tryz.prog 152 #[.agg #[.int .u64 (word p 0), .int .u64 (word p 1), .int .u64 (word p 2), .int .u64 (word p 3)]] w fun e W' => e = .returned (.int .i64 (c : Int)) ∧ Below w.heap.size w W' :=
 callsIn_wide.1 (leastl_in 3 (Nat.le_refl _) p c l0 hp w hT hw0)
end Go.Proofs.YtofbfafnpdaejaaGreatDoor
namespace Go.Proofs.YtofbfafnpdaejaaGreatDoor
open Go.RowKit
set_option linter.unusedSimpArgs false
set_option linter.unusedVariables false
set_option maxRecDepth 100000
set_option maxHeartbeats 8000000
def Took (S b o len cap : Nat) (N : Nat) (L : List Lex) (x : Lex) (next k q : Int) (W : World) (e : Ending) (W' : World) : Prop :=
 e = .returned (.tuple #[]) ∧ Below N W W' ∧ ∃ v', Spl W' S b o len cap next v' k q ∧ W'.ownsRow N 143 8 v' (L.length + 1) (lexCells (L ++ [x]))
theorem set_go (S b o len cap : Nat) (i : Int) (v : Value) (k q : Int) (N : Nat) (L : List Lex) (p : Nat → Bool) (next : Int) (W : World) (hS : Spl W S b o len cap i v k q) (hrow : W.ownsRow N 143 8 v L.length (lexCells L)) (hN : N ≤ S) (hL : L.length ≤ 100000) :
  Calls Tryz.prog 194 #[.pointer (some ⟨S, 0, none⟩), .agg #[.int .u64 (word p 0), .int .u64 (word p 1), .int .u64 (word p 2), .int .u64 (word p 3)], .int .i64 next] W (Took S b o len cap N L ⟨1, i, p, 0, 0⟩ next k q W) := by
 have hlt := Blk.lt hS
 have hB := Lib.hid ((Below.refl N W).alloc (by omega) (.cells #[.int .u64 (word p 0), .int .u64 (word p 1), .int .u64 (word p 2), .int .u64 (word p 3)] 25))
 have Hp := Lib.hid (put_go S b o len cap i v k q N L ⟨1, 0, p, 0, 0⟩ next (W.alloc (.cells #[.int .u64 (word p 0), .int .u64 (word p 1), .int .u64 (word p 2), .int .u64 (word p 3)] 25)) (Blk.alloc hS _) (hrow.alloc _) hN hL)
 clear hS hrow
 go_enter Tryz.func194, Tryz.ntmps194
 go_wp2_with fail
 refine Hp.out.mono ?_
 rintro e w1 ⟨rfl, hb1, hv⟩
 have HV := Lib.hid hv
 have HB1 := Lib.hid hb1
 clear hv hb1
 go_wp2
 go_end0
 exact ⟨rfl, hB.out.trans HB1.out, HV.out⟩
theorem sfail_go (S b o len cap : Nat) (i : Int) (v : Value) (k q : Int) (N : Nat) (kind : Int) (W : World) (hS : Spl W S b o len cap i v k q) (hN : N ≤ S) :
  Calls Tryz.prog 197 #[.pointer (some ⟨S, 0, none⟩), .int .i64 kind] W fun e W' => e = .returned (.tuple #[]) ∧ Below N W W' ∧ Spl W' S b o len cap i v kind i := by
 obtain ⟨s0, s1, s2, s3, s4, f0, f1, f2, f3, f4⟩ := hS.cells
 have HS := Lib.hid hS
 clear hS
 go_enter Tryz.func197, Tryz.ntmps197
 go_wp2
 go_light
 go_end0
 exact ⟨rfl, ((Below.refl N W).setCell (p := ⟨S, 3, none⟩) hN _).setCell (p := ⟨S, 4, none⟩) hN _, (Blk.set_ HS.out 3 _).set_ 4 _⟩
theorem dot_go (w : World) :
  Calls Tryz.prog 195 #[] w fun e w' => e = .returned (.agg #[.int .u64 (word dotSet 0), .int .u64 (word dotSet 1), .int .u64 (word dotSet 2), .int .u64 (word dotSet 3)]) ∧ Below w.heap.size w w' := by
 have HB := Lib.hid (((Below.refl w.heap.size w).alloc (Nat.le_refl _) (.cells #[.int .u64 0, .int .u64 0, .int .u64 0, .int .u64 0] 25)).alloc (by simp) (.cells #[.int .u8 10] 5))
 have hz : Blk ((w.alloc (.cells #[.int .u64 0, .int .u64 0, .int .u64 0, .int .u64 0] 25)).alloc (.cells #[.int .u8 10] 5)) w.heap.size 25 #[.int .u64 0, .int .u64 0, .int .u64 0, .int .u64 0] := (Blk.new _ _ _).alloc _
 go_enter Tryz.func195, Tryz.ntmps195
 go_wp2_with fail
 refine (of_any _ [10] 1 _ (bytes_new _ _ [10] _ _ (by simp) rfl (by decide) (by decide))).mono ?_
 rintro e w1 ⟨rfl, hb1⟩
 have HB1 := Lib.hid (HB.out.trans (hb1.mono HB.out.size))
 have Hz1 := Lib.hid (hz.below hb1 hz.lt)
 clear hb1 hz
 go_wp2_with fail
 refine (not_any _ _).mono ?_
 rintro e w2 ⟨rfl, hb2⟩
 have HB2 := Lib.hid (HB1.out.trans (hb2.mono HB1.out.size))
 have Hz2 := Lib.hid (Hz1.out.below hb2 Hz1.out.lt)
 obtain ⟨z0, z1, z2, z3, g0, g1, g2, g3⟩ := Hz2.out.c4
 clear hb2
 go_wp2
 go_light
 refine bodyPost_ret (v := .agg #[.int .u64 (word dotSet 0), .int .u64 (word dotSet 1), .int .u64 (word dotSet 2), .int .u64 (word dotSet 3)]) (ret_set Tryz.results195 rfl Hz2.out.set4) rfl ⟨rfl, below_set4 HB2.out (Nat.le_refl _) _ _ _ _⟩
def LexRow (w : World) (v : Value) (L : List Lex) : Prop :=
 ∃ A cap, v = .slice A L.length cap ∧ ∀ k x, L[k]? = some x → ∃ g, A = some ⟨g, 0, none⟩ ∧
  w.cell? ⟨g, k * 8, none⟩ = some (.int .i64 x.kind) ∧ w.cell? ⟨g, k * 8 + 1, none⟩ = some (.int .i64 x.place) ∧
  w.cell? ⟨g, k * 8 + 2, none⟩ = some (.int .u64 (word x.set 0)) ∧ w.cell? ⟨g, k * 8 + 2 + 1, none⟩ = some (.int .u64 (word x.set 1)) ∧ w.cell? ⟨g, k * 8 + 2 + 2, none⟩ = some (.int .u64 (word x.set 2)) ∧ w.cell? ⟨g, k * 8 + 2 + 3, none⟩ = some (.int .u64 (word x.set 3)) ∧
  w.cell? ⟨g, k * 8 + 6, none⟩ = some (.int .i64 x.lo) ∧ w.cell? ⟨g, k * 8 + 7, none⟩ = some (.int .i64 x.hi)
theorem lexCells_at : ∀ (L : List Lex) (k : Nat) (x : Lex), L[k]? = some x → ∀ j, j < 8 → (lexCells L)[k * 8 + j]? = (lexCell x)[j]?
 | [], k, x, h, j, hj => by simp at h
 | y :: L, 0, x, h, j, hj => by
  have e : y = x := by simpa using h
  subst e
  have e2 : lexCells (y :: L) = lexCell y ++ lexCells L := by simp [lexCells]
  rw [e2, Nat.zero_mul, Nat.zero_add, List.getElem?_append_left (by simpa [lexCell] using hj)]
 | y :: L, k + 1, x, h, j, hj => by
  have e2 : lexCells (y :: L) = lexCell y ++ lexCells L := by simp [lexCells]
  have hl : (lexCell y).length = 8 := by simp [lexCell]
  rw [e2, List.getElem?_append_right (by omega), hl, show (k + 1) * 8 + j - 8 = k * 8 + j by omega]
  exact lexCells_at L k x (by simpa using h) j hj
theorem lexRow_of {w : World} {base : Nat} {v : Value} {L : List Lex} (h : w.ownsRow base 143 8 v L.length (lexCells L)) : LexRow w v L := by
 obtain ⟨A, cap, hv⟩ := own_slice h
 refine ⟨A, cap, hv, fun k x hx => ?_⟩
 have hpos : 0 < L.length := by
  have := (List.getElem?_eq_some_iff.mp hx).1
  omega
 obtain ⟨g, cap', hv', hbase, hg⟩ := own_form h hpos
 have hA : A = some ⟨g, 0, none⟩ := by rw [hv] at hv'; exact (Value.slice.inj hv').1
 have hc := h.cells (g := g) (by rw [hv']; rfl)
 have hat : ∀ j u, j < 8 → (lexCell x)[j]? = some u → w.cell? ⟨g, k * 8 + j, none⟩ = some u := fun j u hj hu => by
  have := hc (k * 8 + j) u ((lexCells_at L k x hx j hj).trans hu)
  have e : (⟨g, 0, none⟩ : Addr).add (k * 8 + j) = ⟨g, k * 8 + j, none⟩ := by
   rcases Nat.eq_zero_or_pos (k * 8 + j) with hz | hz
   ·rw [hz]; rfl
   ·have h1 : ¬ (k * 8 = 0 ∧ j = 0) := by omega
    simp [Addr.add, h1]
  exact e ▸ this
 exact ⟨g, hA, hat 0 _ (by decide) rfl, hat 1 _ (by decide) rfl, hat 2 _ (by decide) rfl, hat 3 _ (by decide) rfl, hat 4 _ (by decide) rfl, hat 5 _ (by decide) rfl, hat 6 _ (by decide) rfl, hat 7 _ (by decide) rfl⟩
def Since (n : Nat) (w0 w : World) : Prop := Below n w0 w ∧ n ≤ w0.heap.size
theorem Since.cells {n : Nat} {w0 w : World} (h : Since n w0 w) : ∀ b o, b < n → w.cell? ⟨b, o, none⟩ = w0.cell? ⟨b, o, none⟩ := (bcell h.1).1
theorem since_step {n : Nat} {w0 w w' : World} (h : (∀ b o, b < n → w.cell? ⟨b, o, none⟩ = w0.cell? ⟨b, o, none⟩) ∧ Since n w0 w) (hb : Below w.heap.size w w') : (∀ b o, b < n → w'.cell? ⟨b, o, none⟩ = w0.cell? ⟨b, o, none⟩) ∧ Since n w0 w' := by
 have h2 : Since n w0 w' := ⟨h.2.1.trans (hb.mono (Nat.le_trans h.2.2 h.2.1.size)), h.2.2⟩
 exact ⟨h2.cells, h2⟩
theorem since_alloc {n : Nat} {w0 w : World} (h : (∀ b o, b < n → w.cell? ⟨b, o, none⟩ = w0.cell? ⟨b, o, none⟩) ∧ Since n w0 w) (o : Obj) : (∀ b i, b < n → (w.alloc o).cell? ⟨b, i, none⟩ = w0.cell? ⟨b, i, none⟩) ∧ Since n w0 (w.alloc o) := since_step h ((Below.refl _ _).alloc (Nat.le_refl _) o)
theorem since_start {n : Nat} {w0 : World} (h : n ≤ w0.heap.size) : (∀ b o, b < n → w0.drew.cell? ⟨b, o, none⟩ = w0.cell? ⟨b, o, none⟩) ∧ Since n w0 w0.drew := by
 have h2 : Since n w0 w0.drew := ⟨(Below.refl _ _).drew, h⟩
 exact ⟨h2.cells, h2⟩
theorem since_set {n : Nat} {w0 w : World} (h : (∀ b o, b < n → w.cell? ⟨b, o, none⟩ = w0.cell? ⟨b, o, none⟩) ∧ Since n w0 w) {p : Addr} (hp : n ≤ p.block) (v : Value) : (∀ b i, b < n → (w.setCell p v).cell? ⟨b, i, none⟩ = w0.cell? ⟨b, i, none⟩) ∧ Since n w0 (w.setCell p v) := by
 have h2 : Since n w0 (w.setCell p v) := ⟨h.2.1.setCell hp v, h.2.2⟩
 exact ⟨h2.cells, h2⟩
theorem since_drew {n : Nat} {w0 w : World} (h : (∀ b o, b < n → w.cell? ⟨b, o, none⟩ = w0.cell? ⟨b, o, none⟩) ∧ Since n w0 w) : (∀ b i, b < n → (w.drew).cell? ⟨b, i, none⟩ = w0.cell? ⟨b, i, none⟩) ∧ Since n w0 w.drew := by
 have h2 : Since n w0 w.drew := ⟨h.2.1.drew, h.2.2⟩
 exact ⟨h2.cells, h2⟩
theorem since_refl {n : Nat} {w0 : World} (h : n ≤ w0.heap.size) : (∀ b o, b < n → w0.cell? ⟨b, o, none⟩ = w0.cell? ⟨b, o, none⟩) ∧ Since n w0 w0 := ⟨fun _ _ _ => rfl, Below.refl _ _, h⟩
theorem bytes_since {n N : Nat} {w0 w : World} {A : Option Addr} {bs : List Nat} (h : (∀ b o, b < n → w.cell? ⟨b, o, none⟩ = w0.cell? ⟨b, o, none⟩) ∧ Since n w0 w) (hA : BytesAt w0 N A bs) (hN : N ≤ n) : BytesAt w w.heap.size A bs :=
 (hA.below (h.2.1.mono hN)).more (Nat.le_trans hN (Nat.le_trans h.2.2 h.2.1.size))
def Laid2 (w : World) (A : Option Addr) (cap : Nat) (bs : List Nat) (i : Int) : World :=
 (w.alloc (.cells #[.int .i64 0, .int .i64 0] 77)).alloc (.cells #[.slice A bs.length cap, .int .i64 i, .int .i64 0, .int .i64 0, .int .i64 0] 259)
section
variable (w : World) (A : Option Addr) (cap : Nat) (bs : List Nat) (i : Int)
theorem Laid2.rd : Rd (Laid2 w A cap bs i) (w.heap.size + 1) A cap bs i 0 0 0 := Blk.new_at (by simp)
theorem Laid2.bad : Blk (Laid2 w A cap bs i) w.heap.size 77 #[.int .i64 0, .int .i64 0] := (Blk.new _ _ _).alloc _
theorem Laid2.below : Below w.heap.size w (Laid2 w A cap bs i) := ((Below.refl _ _).alloc (Nat.le_refl _) _).alloc (by simp) _
theorem Laid2.size : (Laid2 w A cap bs i).heap.size = w.heap.size + 1 + 1 := by simp [Laid2]
end
theorem esc_no (A : Option Addr) (cap : Nat) (bs : List Nat) (i : Int) (w : World) (hA : BytesAt w w.heap.size A bs) (h : hasAt bs i 92 = false) : Calls Tryz.prog 226 #[.slice A bs.length cap, .int .i64 i] w fun e w' => e = .returned (escVal bs i) ∧ Below w.heap.size w w' := by
 rw [escVal_no h]
 have HA := Lib.hid (hA.below (Laid2.below w A cap bs i))
 obtain ⟨b0, b1, x0, x1⟩ := (Laid2.bad w A cap bs i).c2
 have Hb := Lib.hid (Laid2.bad w A cap bs i)
 clear hA
 go_enter Tryz.func226, Tryz.ntmps226
 go_wp2_with fail
 refine (here_go (w.heap.size + 1) A cap bs _ _ _ _ 92 w.heap.size _ (Laid2.rd w A cap bs _) HA.out (by omega) (by omega)).mono ?_
 rintro e w1 ⟨rfl, n1, rfl⟩
 go_wp2
 go_light
 refine bodyPost_ret (ret_esc Tryz.results226 rfl rfl rfl (Hb.out.drewN n1).set2) rfl ⟨rfl, ?_⟩
 exact below_set2 (below_drewN (Laid2.below w A cap bs i) n1) (Nat.le_refl _) _ _
theorem esc_yes (A : Option Addr) (cap : Nat) (bs : List Nat) (i : Nat) (w : World) (hA : BytesAt w w.heap.size A bs) (h : hasAt bs (i : Int) 92 = true) (hi : i < bs.length) : Calls Tryz.prog 226 #[.slice A bs.length cap, .int .i64 (i : Int)] w fun e w' => e = .returned (escVal bs (i : Int)) ∧ Below w.heap.size w w' := by
 have HA := Lib.hid (hA.below (Laid2.below w A cap bs i))
 obtain ⟨b0, b1, x0, x1⟩ := (Laid2.bad w A cap bs i).c2
 have Hb := Lib.hid (Laid2.bad w A cap bs i)
 clear hA
 cases he : escS bs i with
 | none =>
  have HV := Lib.hid (escVal_none h he)
  have He := Lib.hid he
  clear he
  rw [HV.out]
  go_enter Tryz.func226, Tryz.ntmps226
  go_wp2_with fail
  refine (here_go (w.heap.size + 1) A cap bs _ _ _ _ 92 w.heap.size _ (Laid2.rd w A cap bs _) HA.out (by omega) (by omega)).mono ?_
  rintro e w1 ⟨rfl, n1, rfl⟩
  go_wp2_with (go_at_call 244; refine (escape_go (w.heap.size + 1) A cap bs i _ w.heap.size _ ((Laid2.rd w A cap bs _).drewN n1) (HA.out.drewN n1) (by omega) hi).mono ?_; rintro e w2 hp; unfold EscPost at hp; rw [He.out] at hp; obtain ⟨hg2, c', j', hc', rfl, hr2⟩ := hp; obtain ⟨c0, c1, c2, c3, c4, e1, e3, e4⟩ := hr2.cells; have hb2 := (Hb.out.drewN n1).grown hg2 (by simp); obtain ⟨r0, r1, r2, r3⟩ := hb2.c2; have Hb2 := Lib.hid hb2; have Hg2 := Lib.hid hg2; clear hb2 hg2 hr2)
  go_region
  all_goals go_wp2
  all_goals go_light
  refine bodyPost_ret (ret_esc Tryz.results226 rfl rfl rfl Hb2.out.set2.drew) rfl ⟨rfl, ?_⟩
  exact (below_set2 (below_only (below_drewN (Laid2.below w A cap bs i) n1) Hg2.out (by omega) (by simp [Laid2.size]; omega)) (Nat.le_refl _) _ _).drew
 | some x =>
  obtain ⟨c', j'⟩ := x
  have HV := Lib.hid (escVal_some h he)
  have He := Lib.hid he
  clear he
  rw [HV.out]
  go_enter Tryz.func226, Tryz.ntmps226
  go_wp2_with fail
  refine (here_go (w.heap.size + 1) A cap bs _ _ _ _ 92 w.heap.size _ (Laid2.rd w A cap bs _) HA.out (by omega) (by omega)).mono ?_
  rintro e w1 ⟨rfl, n1, rfl⟩
  go_wp2_with (go_at_call 244; refine (escape_go (w.heap.size + 1) A cap bs i _ w.heap.size _ ((Laid2.rd w A cap bs _).drewN n1) (HA.out.drewN n1) (by omega) hi).mono ?_; rintro e w2 hp; unfold EscPost at hp; rw [He.out] at hp; obtain ⟨hg2, rfl, hr2⟩ := hp; obtain ⟨c0, c1, c2, c3, c4, e1, e3, e4⟩ := hr2.cells; have hb2 := (Hb.out.drewN n1).grown hg2 (by simp); obtain ⟨r0, r1, r2, r3⟩ := hb2.c2; have Hb2 := Lib.hid hb2; have Hg2 := Lib.hid hg2; clear hb2 hg2 hr2)
  go_region
  all_goals go_wp2
  all_goals go_light
  refine bodyPost_ret (ret_esc Tryz.results226 rfl rfl rfl Hb2.out.set2.drew) rfl ⟨rfl, ?_⟩
  exact (below_set2 (below_only (below_drewN (Laid2.below w A cap bs i) n1) Hg2.out (by omega) (by simp [Laid2.size]; omega)) (Nat.le_refl _) _ _).drew
theorem esc_go (A : Option Addr) (cap : Nat) (bs : List Nat) (i : Int) (w : World) (hA : BytesAt w w.heap.size A bs) : Calls Tryz.prog 226 #[.slice A bs.length cap, .int .i64 i] w fun e w' => e = .returned (escVal bs i) ∧ Below w.heap.size w w' := by
 cases h : hasAt bs i 92 with
 | false => exact esc_no A cap bs i w hA h
 | true =>
  obtain ⟨i, rfl, hlt, _⟩ := hasAt_yes h
  exact esc_yes A cap bs i w hA h hlt
theorem Rd.alloc {w : World} {g : Nat} {A : Option Addr} {cap : Nat} {bs : List Nat} {i start kind place : Int} (h : Rd w g A cap bs i start kind place) (o : Obj) : Rd (w.alloc o) g A cap bs i start kind place := Blk.alloc h o
theorem Rd.below {w w' : World} {B g : Nat} {A : Option Addr} {cap : Nat} {bs : List Nat} {i start kind place : Int} (h : Rd w g A cap bs i start kind place) (hb : Below B w w') (hg : g < B) : Rd w' g A cap bs i start kind place := Blk.below h hb hg
theorem Rd.set4 {w : World} {g g' : Nat} {A : Option Addr} {cap : Nat} {bs : List Nat} {i start kind place : Int} (h : Rd w g A cap bs i start kind place) (hg : g ≠ g') (a b c d : Value) :
  Rd ((((w.setCell ⟨g', 0, none⟩ a).setCell ⟨g', 1, none⟩ b).setCell ⟨g', 2, none⟩ c).setCell ⟨g', 3, none⟩ d) g A cap bs i start kind place :=
 Blk.far (Blk.far (Blk.far (Blk.far h (by dsimp only; omega) _) (by dsimp only; omega) _) (by dsimp only; omega) _) (by dsimp only; omega) _
theorem only_set4 {a w : World} {g g' : Nat} (h : a.grownBy w (some g)) (hg : a.heap.size ≤ g') (x y z u : Value) :
  a.grownBy ((((w.setCell ⟨g', 0, none⟩ x).setCell ⟨g', 1, none⟩ y).setCell ⟨g', 2, none⟩ z).setCell ⟨g', 3, none⟩ u) (some g) :=
 only_set' (only_set' (only_set' (only_set' h hg _ _) hg _ _) hg _ _) hg _ _
def ItemPost (g : Nat) (A : Option Addr) (cap : Nat) (bs : List Nat) (i s : Nat) (w : World) (e : Ending) (w' : World) : Prop :=
 w.grownBy w' (some g) ∧
 match itemS bs s i with
 | .ok (lo, hi, j) => e = .returned (.agg #[.int .u64 (word (between lo hi) 0), .int .u64 (word (between lo hi) 1), .int .u64 (word (between lo hi) 2), .int .u64 (word (between lo hi) 3)]) ∧ Rd w' g A cap bs (j : Int) (s : Int) 0 0
 | .error (k, p) => k ≠ 0 ∧ ∃ (q : Nat → Bool) (j : Nat), e = .returned (.agg #[.int .u64 (word q 0), .int .u64 (word q 1), .int .u64 (word q 2), .int .u64 (word q 3)]) ∧ Rd w' g A cap bs (j : Int) (s : Int) k p
theorem ItemPost.yes {g : Nat} {A : Option Addr} {cap : Nat} {bs : List Nat} {i s : Nat} {w : World} {e : Ending} {w' : World} {lo hi j : Nat} (hg : w.grownBy w' (some g)) (hs : itemS bs s i = .ok (lo, hi, j))
  (he : e = .returned (.agg #[.int .u64 (word (between lo hi) 0), .int .u64 (word (between lo hi) 1), .int .u64 (word (between lo hi) 2), .int .u64 (word (between lo hi) 3)])) (hr : Rd w' g A cap bs (j : Int) (s : Int) 0 0) : ItemPost g A cap bs i s w e w' := by
 unfold ItemPost; rw [hs]; exact ⟨hg, he, hr⟩
theorem ItemPost.no {g : Nat} {A : Option Addr} {cap : Nat} {bs : List Nat} {i s : Nat} {w : World} {e : Ending} {w' : World} {k p : Int} (q : Nat → Bool) (j : Nat) (hg : w.grownBy w' (some g)) (hs : itemS bs s i = .error (k, p)) (hk : k ≠ 0)
  (he : e = .returned (.agg #[.int .u64 (word q 0), .int .u64 (word q 1), .int .u64 (word q 2), .int .u64 (word q 3)])) (hr : Rd w' g A cap bs (j : Int) (s : Int) k p) : ItemPost g A cap bs i s w e w' := by
 unfold ItemPost; rw [hs]; exact ⟨hg, hk, q, j, he, hr⟩
theorem item_bad1 (g : Nat) (A : Option Addr) (cap : Nat) (bs : List Nat) (i s : Nat) (B : Nat) (w : World) (hr : Rd w g A cap bs (i : Int) (s : Int) 0 0) (hA : BytesAt w B A bs) (hB : B ≤ g) (hi : i ≤ bs.length) (k p : Int) (he : charS bs s i = .error (k, p)) : Calls Tryz.prog 246 #[.pointer (some ⟨g, 0, none⟩)] w (ItemPost g A cap bs i s w) := by
 have hlt := hr.lt
 have hne : w.heap.size ≠ g := by omega
 obtain ⟨c0, c1, c2, c3, c4, f1, f3, f4⟩ := hr.cells
 have Hr := Lib.hid (hr.alloc (.cells #[.int .u64 0, .int .u64 0, .int .u64 0, .int .u64 0] 25))
 have HA : Hid (BytesAt (w.alloc (.cells #[.int .u64 0, .int .u64 0, .int .u64 0, .int .u64 0] 25)) B A bs) := hA.below ((Below.refl B w).alloc (by omega) _)
 have Hz : Hid (Blk (w.alloc (.cells #[.int .u64 0, .int .u64 0, .int .u64 0, .int .u64 0] 25)) w.heap.size 25 #[.int .u64 0, .int .u64 0, .int .u64 0, .int .u64 0]) := Blk.new _ _ _
 have Hg0 : Hid (w.grownBy (w.alloc (.cells #[.int .u64 0, .int .u64 0, .int .u64 0, .int .u64 0] 25)) (some g)) := only_alloc (only_refl _ _) _
 have Hl := Lib.hid hA.2.1
 have hl := hA.2.1
 clear hr hA
 have He := Lib.hid he
 have Hi : Hid (itemS bs s i = .error (k, p)) := by show itemS bs s i = _; unfold itemS; rw [he]
 clear he
 go_enter Tryz.func246, Tryz.ntmps246
 go_wp2_with fail
 with_reducible refine (char_go g A cap bs i s B _ Hr.out HA.out hB hi).mono ?_
 rintro e w1 hp
 unfold CharPost at hp
 rw [He.out] at hp
 obtain ⟨hg1, hk, c, j, hc, rfl, hr1⟩ := hp
 have hkb : (k == 0) = false := by simpa using hk
 obtain ⟨d0, d1, d2, d3, d4, e1, e3, e4⟩ := hr1.cells
 have Hr1 := Lib.hid hr1
 have Hg1 := Lib.hid hg1
 have hlt1 := hr1.lt
 have hsz : w.heap.size < w1.heap.size := by have := hg1.size; simp at this; omega
 clear hr1 hg1
 go_wp2_with (go_at_call 259; refine (span_any _ _ _ (by omega) (by omega)).mono ?_; rintro e w2 ⟨rfl, hb2⟩; obtain ⟨z0, z1, z2, z3, y0, y1, y2, y3⟩ := ((Hz.out.grown Hg1.out (by simpa using hne)).below hb2 hsz).c4)
 go_light
 refine bodyPost_ret (ret_set Tryz.results246 rfl ((Hz.out.grown Hg1.out (by simpa using hne)).below hb2 hsz).set4) rfl ?_
 exact ItemPost.no _ j (only_set4 (only_below (only_trans Hg0.out Hg1.out) hb2) (Nat.le_refl _) _ _ _ _) Hi.out hk rfl ((Hr1.out.below hb2 hlt1).set4 (by omega) _ _ _ _)
theorem item_one (g : Nat) (A : Option Addr) (cap : Nat) (bs : List Nat) (i s : Nat) (B : Nat) (w : World) (hr : Rd w g A cap bs (i : Int) (s : Int) 0 0) (hA : BytesAt w B A bs) (hB : B ≤ g) (hi : i ≤ bs.length) (lo j : Nat) (he : charS bs s i = .ok (lo, j)) (hlo : lo < 256) (hh : hasAt bs (j : Int) 45 = false) : Calls Tryz.prog 246 #[.pointer (some ⟨g, 0, none⟩)] w (ItemPost g A cap bs i s w) := by
 have hlt := hr.lt
 have hne : w.heap.size ≠ g := by omega
 obtain ⟨c0, c1, c2, c3, c4, f1, f3, f4⟩ := hr.cells
 have Hr := Lib.hid (hr.alloc (.cells #[.int .u64 0, .int .u64 0, .int .u64 0, .int .u64 0] 25))
 have HA : Hid (BytesAt (w.alloc (.cells #[.int .u64 0, .int .u64 0, .int .u64 0, .int .u64 0] 25)) B A bs) := hA.below ((Below.refl B w).alloc (by omega) _)
 have Hz : Hid (Blk (w.alloc (.cells #[.int .u64 0, .int .u64 0, .int .u64 0, .int .u64 0] 25)) w.heap.size 25 #[.int .u64 0, .int .u64 0, .int .u64 0, .int .u64 0]) := Blk.new _ _ _
 have Hg0 : Hid (w.grownBy (w.alloc (.cells #[.int .u64 0, .int .u64 0, .int .u64 0, .int .u64 0] 25)) (some g)) := only_alloc (only_refl _ _) _
 have Hl := Lib.hid hA.2.1
 have hl := hA.2.1
 clear hr hA
 have He := Lib.hid he
 have Hh := Lib.hid hh
 have Hi : Hid (itemS bs s i = .ok (lo, lo, j)) := by show itemS bs s i = _; unfold itemS; rw [he]; dsimp only; rw [hh]; rfl
 clear he hh
 go_enter Tryz.func246, Tryz.ntmps246
 go_wp2_with fail
 with_reducible refine (char_go g A cap bs i s B _ Hr.out HA.out hB hi).mono ?_
 rintro e w1 hp
 unfold CharPost at hp
 rw [He.out] at hp
 obtain ⟨hg1, rfl, hr1⟩ := hp
 obtain ⟨d0, d1, d2, d3, d4, e1, e3, e4⟩ := hr1.cells
 have Hr1 := Lib.hid hr1
 have Hg1 := Lib.hid hg1
 have HA1 := Lib.hid (HA.out.only hg1 hB Hr.out.lt)
 have Hz1 : Hid (Blk w1 w.heap.size 25 #[.int .u64 0, .int .u64 0, .int .u64 0, .int .u64 0]) := Hz.out.grown hg1 (by simpa using hne)
 have hlt1 := hr1.lt
 have hsz : w.heap.size < w1.heap.size := by have := hg1.size; simp at this; omega
 clear hr1 hg1
 go_wp2_with (first
  | (go_at_call 245; refine (take_no g A cap bs _ _ _ _ 45 B _ Hr1.out HA1.out (by omega) (by omega) Hh.out).mono ?_; rintro e w2 ⟨rfl, hr2, hg2⟩; have hlt2 := hr2.lt; have Hr2 := Lib.hid hr2; have Hg2 := Lib.hid hg2; clear hr2 hg2; have hsz2 : w.heap.size < w2.heap.size := Nat.lt_of_lt_of_le hsz Hg2.out.size; have Hz2 := Lib.hid (Hz1.out.grown Hg2.out (by simpa using hne)))
  | (go_at_call 259; refine (span_any _ _ _ (by omega) (by omega)).mono ?_; rintro e w3 ⟨rfl, hb3⟩; obtain ⟨z0, z1, z2, z3, y0, y1, y2, y3⟩ := (Hz2.out.below hb3 hsz2).c4))
 go_light
 refine bodyPost_ret (ret_set Tryz.results246 rfl (Hz2.out.below hb3 hsz2).set4) rfl ?_
 exact ItemPost.yes (only_set4 (only_below (only_trans (only_trans Hg0.out Hg1.out) Hg2.out) hb3) (Nat.le_refl _) _ _ _ _) Hi.out rfl ((Hr2.out.below hb3 hlt2).set4 (by omega) _ _ _ _)
theorem item_bad2 (g : Nat) (A : Option Addr) (cap : Nat) (bs : List Nat) (i s : Nat) (B : Nat) (w : World) (hr : Rd w g A cap bs (i : Int) (s : Int) 0 0) (hA : BytesAt w B A bs) (hB : B ≤ g) (hi : i ≤ bs.length) (lo j : Nat) (he : charS bs s i = .ok (lo, j)) (hlo : lo < 256) (hh : hasAt bs (j : Int) 45 = true) (hj : j < bs.length) (k p : Int) (hf : charS bs s (j + 1) = .error (k, p)) : Calls Tryz.prog 246 #[.pointer (some ⟨g, 0, none⟩)] w (ItemPost g A cap bs i s w) := by
 have hlt := hr.lt
 have hne : w.heap.size ≠ g := by omega
 obtain ⟨c0, c1, c2, c3, c4, f1, f3, f4⟩ := hr.cells
 have Hr := Lib.hid (hr.alloc (.cells #[.int .u64 0, .int .u64 0, .int .u64 0, .int .u64 0] 25))
 have HA : Hid (BytesAt (w.alloc (.cells #[.int .u64 0, .int .u64 0, .int .u64 0, .int .u64 0] 25)) B A bs) := hA.below ((Below.refl B w).alloc (by omega) _)
 have Hz : Hid (Blk (w.alloc (.cells #[.int .u64 0, .int .u64 0, .int .u64 0, .int .u64 0] 25)) w.heap.size 25 #[.int .u64 0, .int .u64 0, .int .u64 0, .int .u64 0]) := Blk.new _ _ _
 have Hg0 : Hid (w.grownBy (w.alloc (.cells #[.int .u64 0, .int .u64 0, .int .u64 0, .int .u64 0] 25)) (some g)) := only_alloc (only_refl _ _) _
 have Hl := Lib.hid hA.2.1
 have hl := hA.2.1
 clear hr hA
 have He := Lib.hid he
 have Hh := Lib.hid hh
 have Hf := Lib.hid hf
 have Hi : Hid (itemS bs s i = .error (k, p)) := by show itemS bs s i = _; unfold itemS; rw [he]; dsimp only; rw [hh, hf]; rfl
 clear he hh hf
 go_enter Tryz.func246, Tryz.ntmps246
 go_wp2_with fail
 with_reducible refine (char_go g A cap bs i s B _ Hr.out HA.out hB hi).mono ?_
 rintro e w1 hp
 unfold CharPost at hp
 rw [He.out] at hp
 obtain ⟨hg1, rfl, hr1⟩ := hp
 obtain ⟨d0, d1, d2, d3, d4, e1, e3, e4⟩ := hr1.cells
 have Hr1 := Lib.hid hr1
 have Hg1 := Lib.hid hg1
 have HA1 := Lib.hid (HA.out.only hg1 hB Hr.out.lt)
 have Hz1 : Hid (Blk w1 w.heap.size 25 #[.int .u64 0, .int .u64 0, .int .u64 0, .int .u64 0]) := Hz.out.grown hg1 (by simpa using hne)
 have hlt1 := hr1.lt
 have hsz : w.heap.size < w1.heap.size := by have := hg1.size; simp at this; omega
 clear hr1 hg1
 go_wp2_with fail
 refine (take_yes g A cap bs _ _ _ _ 45 B _ Hr1.out HA1.out (by omega) (by omega) Hh.out).mono ?_
 rintro e w2 ⟨rfl, hr2, hg2⟩
 have Hg2 := Lib.hid hg2
 have HA2 := Lib.hid (HA1.out.only hg2 hB hlt1)
 have hlt2 := hr2.lt
 have Hr2 : Hid (Rd w2 g A cap bs ((j + 1 : Nat) : Int) (s : Int) 0 0) := by show Rd _ _ _ _ _ _ _ _ _; rw [show ((j + 1 : Nat) : Int) = (j : Int) + 1 by omega]; exact hr2
 have Hz2 := Lib.hid (Hz1.out.grown hg2 (by simpa using hne))
 clear hr2 hg2
 go_wp2_with fail
 with_reducible refine (char_go g A cap bs (j + 1) s B _ Hr2.out HA2.out hB (by omega)).mono ?_
 rintro e w3 hp
 unfold CharPost at hp
 rw [Hf.out] at hp
 obtain ⟨hg3, hk, c, j', hc, rfl, hr3⟩ := hp
 have hkn : k ≠ 0 := hk
 have Hg3 := Lib.hid hg3
 have Hr3 := Lib.hid hr3
 have hlt3 := hr3.lt
 have Hz3 := Lib.hid (Hz2.out.grown hg3 (by simpa using hne))
 have hsz3 := Hz3.out.lt
 clear hr3 hg3
 by_cases hcl : c < lo
 ·go_wp2_with (first
   | (go_at_call 255; refine (fail1_go g A cap bs _ _ _ _ _ _ _ Hr3.out hkn).mono ?_; rintro e w4 ⟨rfl, hr4, hg4⟩; have Hr4 := Lib.hid hr4; have Hg4 := Lib.hid hg4; have hlt4 := hr4.lt; have Hz4 := Lib.hid (Hz3.out.grown hg4 (by simpa using hne)); have hsz4 := Hz4.out.lt; clear hr4 hg4)
   | (go_at_call 259; refine (span_any _ _ _ (by omega) (by omega)).mono ?_; rintro e w5 ⟨rfl, hb5⟩; obtain ⟨z0, z1, z2, z3, y0, y1, y2, y3⟩ := (Hz4.out.below hb5 hsz4).c4))
  go_light
  refine bodyPost_ret (ret_set Tryz.results246 rfl (Hz4.out.below hb5 hsz4).set4) rfl ?_
  exact ItemPost.no _ j' (only_set4 (only_below (only_trans (only_trans (only_trans (only_trans Hg0.out Hg1.out) Hg2.out) Hg3.out) Hg4.out) hb5) (Nat.le_refl _) _ _ _ _) Hi.out hkn rfl ((Hr4.out.below hb5 hlt4).set4 (by omega) _ _ _ _)
 ·go_wp2_with (go_at_call 259; refine (span_any _ _ _ (by omega) (by omega)).mono ?_; rintro e w5 ⟨rfl, hb5⟩; obtain ⟨z0, z1, z2, z3, y0, y1, y2, y3⟩ := (Hz3.out.below hb5 hsz3).c4)
  go_light
  refine bodyPost_ret (ret_set Tryz.results246 rfl (Hz3.out.below hb5 hsz3).set4) rfl ?_
  exact ItemPost.no _ j' (only_set4 (only_below (only_trans (only_trans (only_trans Hg0.out Hg1.out) Hg2.out) Hg3.out) hb5) (Nat.le_refl _) _ _ _ _) Hi.out hkn rfl ((Hr3.out.below hb5 hlt3).set4 (by omega) _ _ _ _)
theorem item_two (g : Nat) (A : Option Addr) (cap : Nat) (bs : List Nat) (i s : Nat) (B : Nat) (w : World) (hr : Rd w g A cap bs (i : Int) (s : Int) 0 0) (hA : BytesAt w B A bs) (hB : B ≤ g) (hi : i ≤ bs.length) (lo j : Nat) (he : charS bs s i = .ok (lo, j)) (hlo : lo < 256) (hh : hasAt bs (j : Int) 45 = true) (hj : j < bs.length) (hi' j' : Nat) (hf : charS bs s (j + 1) = .ok (hi', j')) (hhi : hi' < 256) : Calls Tryz.prog 246 #[.pointer (some ⟨g, 0, none⟩)] w (ItemPost g A cap bs i s w) := by
 have hlt := hr.lt
 have hne : w.heap.size ≠ g := by omega
 obtain ⟨c0, c1, c2, c3, c4, f1, f3, f4⟩ := hr.cells
 have Hr := Lib.hid (hr.alloc (.cells #[.int .u64 0, .int .u64 0, .int .u64 0, .int .u64 0] 25))
 have HA : Hid (BytesAt (w.alloc (.cells #[.int .u64 0, .int .u64 0, .int .u64 0, .int .u64 0] 25)) B A bs) := hA.below ((Below.refl B w).alloc (by omega) _)
 have Hz : Hid (Blk (w.alloc (.cells #[.int .u64 0, .int .u64 0, .int .u64 0, .int .u64 0] 25)) w.heap.size 25 #[.int .u64 0, .int .u64 0, .int .u64 0, .int .u64 0]) := Blk.new _ _ _
 have Hg0 : Hid (w.grownBy (w.alloc (.cells #[.int .u64 0, .int .u64 0, .int .u64 0, .int .u64 0] 25)) (some g)) := only_alloc (only_refl _ _) _
 have Hl := Lib.hid hA.2.1
 have hl := hA.2.1
 clear hr hA
 have He := Lib.hid he
 have Hh := Lib.hid hh
 have Hf := Lib.hid hf
 have Hi : Hid (itemS bs s i = if hi' < lo then .error (15, (i : Int)) else .ok (lo, hi', j')) := by show itemS bs s i = _; unfold itemS; rw [he]; dsimp only; rw [hh, hf]; rfl
 clear he hh hf
 go_enter Tryz.func246, Tryz.ntmps246
 go_wp2_with fail
 with_reducible refine (char_go g A cap bs i s B _ Hr.out HA.out hB hi).mono ?_
 rintro e w1 hp
 unfold CharPost at hp
 rw [He.out] at hp
 obtain ⟨hg1, rfl, hr1⟩ := hp
 obtain ⟨d0, d1, d2, d3, d4, e1, e3, e4⟩ := hr1.cells
 have Hr1 := Lib.hid hr1
 have Hg1 := Lib.hid hg1
 have HA1 := Lib.hid (HA.out.only hg1 hB Hr.out.lt)
 have Hz1 : Hid (Blk w1 w.heap.size 25 #[.int .u64 0, .int .u64 0, .int .u64 0, .int .u64 0]) := Hz.out.grown hg1 (by simpa using hne)
 have hlt1 := hr1.lt
 have hsz : w.heap.size < w1.heap.size := by have := hg1.size; simp at this; omega
 clear hr1 hg1
 go_wp2_with fail
 refine (take_yes g A cap bs _ _ _ _ 45 B _ Hr1.out HA1.out (by omega) (by omega) Hh.out).mono ?_
 rintro e w2 ⟨rfl, hr2, hg2⟩
 have Hg2 := Lib.hid hg2
 have HA2 := Lib.hid (HA1.out.only hg2 hB hlt1)
 have hlt2 := hr2.lt
 have Hr2 : Hid (Rd w2 g A cap bs ((j + 1 : Nat) : Int) (s : Int) 0 0) := by show Rd _ _ _ _ _ _ _ _ _; rw [show ((j + 1 : Nat) : Int) = (j : Int) + 1 by omega]; exact hr2
 have Hz2 := Lib.hid (Hz1.out.grown hg2 (by simpa using hne))
 clear hr2 hg2
 go_wp2_with fail
 with_reducible refine (char_go g A cap bs (j + 1) s B _ Hr2.out HA2.out hB (by omega)).mono ?_
 rintro e w3 hp
 unfold CharPost at hp
 rw [Hf.out] at hp
 obtain ⟨hg3, rfl, hr3⟩ := hp
 have Hg3 := Lib.hid hg3
 have Hr3 := Lib.hid hr3
 have hlt3 := hr3.lt
 have Hz3 := Lib.hid (Hz2.out.grown hg3 (by simpa using hne))
 have hsz3 := Hz3.out.lt
 clear hr3 hg3
 by_cases hcl : hi' < lo
 ·go_wp2_with (first
   | (go_at_call 255; refine (fail0_go g A cap bs _ _ _ _ _ _ Hr3.out).mono ?_; rintro e w4 ⟨rfl, hr4, hg4⟩; have Hr4 := Lib.hid hr4; have Hg4 := Lib.hid hg4; have hlt4 := hr4.lt; have Hz4 := Lib.hid (Hz3.out.grown hg4 (by simpa using hne)); have hsz4 := Hz4.out.lt; clear hr4 hg4)
   | (go_at_call 259; refine (span_any _ _ _ (by omega) (by omega)).mono ?_; rintro e w5 ⟨rfl, hb5⟩; obtain ⟨z0, z1, z2, z3, y0, y1, y2, y3⟩ := (Hz4.out.below hb5 hsz4).c4))
  go_light
  refine bodyPost_ret (ret_set Tryz.results246 rfl (Hz4.out.below hb5 hsz4).set4) rfl ?_
  exact ItemPost.no _ j' (only_set4 (only_below (only_trans (only_trans (only_trans (only_trans Hg0.out Hg1.out) Hg2.out) Hg3.out) Hg4.out) hb5) (Nat.le_refl _) _ _ _ _) (by rw [Hi.out, if_pos hcl]) (by decide) rfl ((Hr4.out.below hb5 hlt4).set4 (by omega) _ _ _ _)
 ·go_wp2_with (go_at_call 259; refine (span_any _ _ _ (by omega) (by omega)).mono ?_; rintro e w5 ⟨rfl, hb5⟩; obtain ⟨z0, z1, z2, z3, y0, y1, y2, y3⟩ := (Hz3.out.below hb5 hsz3).c4)
  go_light
  refine bodyPost_ret (ret_set Tryz.results246 rfl (Hz3.out.below hb5 hsz3).set4) rfl ?_
  exact ItemPost.yes (only_set4 (only_below (only_trans (only_trans (only_trans Hg0.out Hg1.out) Hg2.out) Hg3.out) hb5) (Nat.le_refl _) _ _ _ _) (by rw [Hi.out, if_neg hcl]) rfl ((Hr3.out.below hb5 hlt3).set4 (by omega) _ _ _ _)
theorem item_go (g : Nat) (A : Option Addr) (cap : Nat) (bs : List Nat) (i s : Nat) (B : Nat) (w : World) (hr : Rd w g A cap bs (i : Int) (s : Int) 0 0) (hA : BytesAt w B A bs) (hB : B ≤ g) (hi : i ≤ bs.length) : Calls Tryz.prog 246 #[.pointer (some ⟨g, 0, none⟩)] w (ItemPost g A cap bs i s w) := by
 cases he : charS bs s i with
 | error x => obtain ⟨k, p⟩ := x; exact item_bad1 g A cap bs i s B w hr hA hB hi k p he
 | ok x =>
  obtain ⟨lo, j⟩ := x
  obtain ⟨a1, a2, a3⟩ := charS_ok hA.1 he
  cases hh : hasAt bs (j : Int) 45 with
  | false => exact item_one g A cap bs i s B w hr hA hB hi lo j he a3 hh
  | true =>
   obtain ⟨j', e', hj, _⟩ := hasAt_yes hh
   obtain rfl : j = j' := by omega
   cases hf : charS bs s (j + 1) with
   | error y => obtain ⟨k, p⟩ := y; exact item_bad2 g A cap bs i s B w hr hA hB hi lo j he a3 hh hj k p hf
   | ok y =>
    obtain ⟨hi', j'⟩ := y
    exact item_two g A cap bs i s B w hr hA hB hi lo j he a3 hh hj hi' j' hf (charS_ok hA.1 hf).2.2
section
variable {w wr w2 w' : World} {acc : List Nd} {u : Value}
end
structure SumS where
 hollow : Bool
 short : Int
 long : Int
 first : Nat → Bool
 last : Nat → Bool
def noB (_ : Nat) : Bool := false
def fnilF : SumS := ⟨false, 0, 0, noB, noB⟩
def nothingF : SumS := ⟨true, -1, -1, noB, noB⟩
def SumS.null (s : SumS) : Bool := !s.hollow && decide (s.short = 0)
def endF : Int := 1099511627777
def topI : Int := 1099511627776
def addF (a b : Int) : Int := if a = endF ∨ b = endF then endF else min topI (a + b)
def timF (n a : Int) : Int := if n = 0 ∨ a = 0 then 0 else if a = endF ∨ n = endF then endF else min topI (n * a)
def orB (p q : Nat → Bool) (c : Nat) : Bool := p c || q c
def behindF (a b : SumS) : SumS :=
 if a.hollow = true ∨ b.hollow = true then nothingF
 else ⟨false, addF a.short b.short, addF a.long b.long, if a.null = true then orB a.first b.first else a.first, if b.null = true then orB a.last b.last else b.last⟩
def eitherF (a b : SumS) : SumS :=
 if a.hollow = true then b else if b.hollow = true then a
 else ⟨false, min a.short b.short, max a.long b.long, orB a.first b.first, orB a.last b.last⟩
def repeatedF (a : SumS) (lo hi : Int) : SumS :=
 if hi = 0 ∨ (a.hollow = true ∧ lo = 0) then fnilF else if a.hollow = true then nothingF else ⟨a.hollow, timF lo a.short, timF hi a.long, a.first, a.last⟩
def hiF (hi : Int) : Int := if hi < 0 then endF else hi
def isNoSet (s : Nat) : Bool := decide (word s.testBit 0 = 0) && (decide (word s.testBit 1 = 0) && (decide (word s.testBit 2 = 0) && decide (word s.testBit 3 = 0)))
def ofF (k : Int) (s : Nat) (lo hi : Int) (ks : List SumS) : SumS :=
 if k = 2 then fnilF
 else if k = 3 then (if isNoSet s = true then nothingF else ⟨false, 1, 1, s.testBit, s.testBit⟩)
 else if k = 4 then ks.foldl behindF fnilF
 else if k = 5 then ks.foldl eitherF nothingF
 else if k = 6 then repeatedF (ks.headD nothingF) 0 endF
 else if k = 7 then repeatedF (ks.headD nothingF) 1 endF
 else if k = 8 then repeatedF (ks.headD nothingF) 0 1
 else if k = 9 then repeatedF (ks.headD nothingF) lo (hiF hi)
 else nothingF
def Trees.sums : Trees → List SumS
 | .nil => []
 | .cons k s ks lo hi r => ofF k s lo hi ks.sums :: r.sums
def Nd.sum (x : Nd) : SumS := ofF x.kind x.set x.lo x.hi x.kids.sums
theorem Trees.sums_list : ∀ F : Trees, F.sums = F.list.map Nd.sum
 | .nil => rfl
 | .cons k s ks lo hi r => by rw [Trees.sums, Trees.list, List.map_cons, Trees.sums_list r]; rfl
theorem Trees.sums_head {F : Trees} {z : Nd} (h : F.list[0]? = some z) : F.sums.headD nothingF = z.sum := by
 rw [F.sums_list]
 cases hl : F.list with
 | nil => rw [hl] at h; simp at h
 | cons a l => rw [hl] at h; simp at h; subst h; rfl
structure SumOk (s : SumS) : Prop where
 short : s.hollow = false → 0 ≤ s.short ∧ s.short ≤ topI
 long : s.hollow = false → s.short ≤ s.long ∧ s.long ≤ endF
 none : s.hollow = true → s = nothingF
theorem ok_nil : SumOk fnilF := ⟨fun _ => by decide, fun _ => by decide, fun h => absurd h (by decide)⟩
theorem ok_nothing : SumOk nothingF := ⟨fun h => absurd h (by decide), fun h => absurd h (by decide), fun _ => rfl⟩
theorem addF_le {a b : Int} (ha : 0 ≤ a) (hb : 0 ≤ b) : 0 ≤ addF a b ∧ addF a b ≤ endF := by
 unfold addF topI endF
 split <;> omega
theorem addF_low {a b : Int} (ha : 0 ≤ a) (hb : 0 ≤ b) (ha2 : a ≤ topI) (hb2 : b ≤ topI) : addF a b ≤ topI := by
 unfold addF topI endF at *
 rw [if_neg (by omega)]
 omega
theorem addF_mono {a b c d : Int} (ha : 0 ≤ a) (hb : 0 ≤ b) (h1 : a ≤ c) (h2 : b ≤ d) (hc : c ≤ endF) (hd : d ≤ endF) : addF a b ≤ addF c d := by
 unfold addF topI endF at *
 split <;> split <;> omega
theorem timF_le {n a : Int} (hn : 0 ≤ n) (ha : 0 ≤ a) : 0 ≤ timF n a ∧ timF n a ≤ endF := by
 unfold timF
 have := Int.mul_nonneg hn ha
 split
 ·exact ⟨Int.le_refl _, by decide⟩
 split
 ·exact ⟨by decide, Int.le_refl _⟩
 ·unfold topI endF
  omega
theorem timF_low {n a : Int} (hn : 0 ≤ n) (ha : 0 ≤ a) (hn2 : n ≤ topI) (ha2 : a ≤ topI) : timF n a ≤ topI := by
 unfold timF
 have := Int.mul_nonneg hn ha
 split
 ·decide
 rw [if_neg (by unfold topI endF at *; omega)]
 unfold topI
 omega
theorem timF_mono {n a m b : Int} (hn : 0 ≤ n) (ha : 0 ≤ a) (h1 : n ≤ m) (h2 : a ≤ b) (hm : m ≤ endF) (hb : b ≤ endF) (hn2 : n ≤ topI) (ha2 : a ≤ topI) : timF n a ≤ timF m b := by
 by_cases h0 : n = 0 ∨ a = 0
 ·rw [show timF n a = 0 by unfold timF; rw [if_pos h0]]
  exact (timF_le (by omega) (by omega)).1
 by_cases he : b = endF ∨ m = endF
 ·have : timF m b = endF := by unfold timF; rw [if_neg (by omega), if_pos he]
  rw [this]
  exact (timF_le hn ha).2
 ·have h3 : n * a ≤ m * b := Int.mul_le_mul h1 h2 ha (by omega)
  unfold timF
  rw [if_neg h0, if_neg (by unfold topI endF at *; omega), if_neg (by omega), if_neg he]
  omega
theorem ok_behind {a b : SumS} (ha : SumOk a) (hb : SumOk b) : SumOk (behindF a b) := by
 unfold behindF
 split
 ·exact ok_nothing
 ·rename_i h
  have h1 : a.hollow = false := by cases hh : a.hollow <;> simp [hh] at h ⊢
  have h2 : b.hollow = false := by cases hh : b.hollow <;> simp [hh] at h ⊢
  have a1 := ha.short h1
  have a2 := ha.long h1
  have b1 := hb.short h2
  have b2 := hb.long h2
  refine ⟨fun _ => ⟨(addF_le a1.1 b1.1).1, addF_low a1.1 b1.1 a1.2 b1.2⟩, fun _ => ⟨addF_mono a1.1 b1.1 a2.1 b2.1 a2.2 b2.2, (addF_le (by omega) (by omega)).2⟩, fun h => by cases h⟩
theorem ok_either {a b : SumS} (ha : SumOk a) (hb : SumOk b) : SumOk (eitherF a b) := by
 unfold eitherF
 split
 ·exact hb
 split
 ·exact ha
 ·rename_i h1 h2
  have h1 : a.hollow = false := by simpa using h1
  have h2 : b.hollow = false := by simpa using h2
  have a1 := ha.short h1
  have a2 := ha.long h1
  have b1 := hb.short h2
  have b2 := hb.long h2
  exact ⟨fun _ => by dsimp only; omega, fun _ => by dsimp only; omega, fun h => by cases h⟩
theorem ok_repeated {a : SumS} (ha : SumOk a) {lo hi : Int} (h0 : 0 ≤ lo) (h1 : lo ≤ hi) (h2 : hi ≤ endF) (h3 : lo ≤ topI) : SumOk (repeatedF a lo hi) := by
 unfold repeatedF
 split
 ·exact ok_nil
 split
 ·exact ok_nothing
 ·rename_i _ h
  have h : a.hollow = false := by simpa using h
  have a1 := ha.short h
  have a2 := ha.long h
  exact ⟨fun _ => ⟨(timF_le h0 a1.1).1, timF_low h0 a1.1 h3 a1.2⟩, fun _ => ⟨timF_mono h0 a1.1 h1 a2.1 h2 a2.2 h3 a1.2, (timF_le (by omega) (by omega)).2⟩, fun hh => by rw [h] at hh; cases hh⟩
theorem ok_fold {f : SumS → SumS → SumS} (hf : ∀ a b, SumOk a → SumOk b → SumOk (f a b)) : ∀ (l : List SumS) (a : SumS), SumOk a → (∀ s ∈ l, SumOk s) → SumOk (l.foldl f a)
 | [], a, ha, _ => ha
 | s :: l, a, ha, h => ok_fold hf l _ (hf a s ha (h s (by simp))) (fun t ht => h t (by simp [ht]))
theorem ok_head {l : List SumS} (h : ∀ s ∈ l, SumOk s) : SumOk (l.headD nothingF) := by
 cases l with
 | nil => exact ok_nothing
 | cons a l => exact h a (by simp)
theorem hiF_ok {lo hi : Int} (h0 : 0 ≤ lo) (h1 : lo ≤ 1000) (h2 : hi = -1 ∨ lo ≤ hi) (h3 : hi ≤ 1000) : lo ≤ hiF hi ∧ hiF hi ≤ endF ∧ lo ≤ topI := by
 unfold hiF endF topI
 split <;> omega
theorem ok_of {k : Int} {s : Nat} {lo hi : Int} {ks : List SumS} (h9 : k = 9 → 0 ≤ lo ∧ lo ≤ 1000 ∧ (hi = -1 ∨ lo ≤ hi) ∧ hi ≤ 1000) (h : ∀ s ∈ ks, SumOk s) : SumOk (ofF k s lo hi ks) := by
 have hh := ok_head h
 unfold ofF
 split
 ·exact ok_nil
 split
 ·split
  ·exact ok_nothing
  ·exact ⟨fun _ => by show (0 : Int) ≤ 1 ∧ (1 : Int) ≤ topI; decide, fun _ => by show (1 : Int) ≤ 1 ∧ (1 : Int) ≤ endF; decide, fun h => by cases h⟩
 split
 ·exact ok_fold (fun a b => ok_behind) _ _ ok_nil h
 split
 ·exact ok_fold (fun a b => ok_either) _ _ ok_nothing h
 split
 ·exact ok_repeated hh (by decide) (by decide) (by decide) (by decide)
 split
 ·exact ok_repeated hh (by decide) (by decide) (by decide) (by decide)
 split
 ·exact ok_repeated hh (by decide) (by decide) (by decide) (by decide)
 split
 ·rename_i hk
  obtain ⟨a, b, c, d⟩ := h9 hk
  obtain ⟨e, f, g⟩ := hiF_ok a b c d
  exact ok_repeated hh a e f g
 ·exact ok_nothing
theorem nine_of {y : Nd} (h : aloneN y = true) : y.kind = 9 → 0 ≤ y.lo ∧ y.lo ≤ 1000 ∧ (y.hi = -1 ∨ y.lo ≤ y.hi) ∧ y.hi ≤ 1000 := fun h9 => by
 unfold aloneN aloneV at h
 rw [if_neg (by omega)] at h
 by_cases hz : ((word y.set.testBit 0 : Nat) : Int) ≠ 0 ∨ ((word y.set.testBit 1 : Nat) : Int) ≠ 0 ∨ ((word y.set.testBit 2 : Nat) : Int) ≠ 0 ∨ ((word y.set.testBit 3 : Nat) : Int) ≠ 0
 ·rw [if_pos hz] at h; cases h
 ·rw [if_neg hz, if_pos h9] at h
  unfold timesB at h
  simp at h
  omega
theorem ok_sums : ∀ (F : Trees), (∀ y ∈ F.nodes, aloneN y = true) → ∀ s ∈ F.sums, SumOk s
 | .nil, _, s, hs => by cases hs
 | .cons k st ks lo hi r, h, s, hs => by
  rw [Trees.sums] at hs
  rcases List.mem_cons.1 hs with rfl | hs
  ·exact ok_of (nine_of (y := ⟨k, st, ks, lo, hi⟩) (h _ (by simp [Trees.nodes]))) (ok_sums ks (fun y hy => h y (by simp [Trees.nodes, hy])))
  ·exact ok_sums r (fun y hy => h y (by simp [Trees.nodes, hy])) s hs
theorem ok_sum {x : Nd} (h : ∀ y ∈ x.nodes, aloneN y = true) : SumOk x.sum :=
 ok_of (nine_of (h x (by simp [Nd.nodes]))) (ok_sums x.kids (fun y hy => h y (by simp [Nd.nodes, hy])))
theorem Blk.c8r {w : World} {g : Nat} {t : TypeId} {a0 a1 a2 a3 a4 a5 a6 a7 : Value} (h : Blk w g t #[a0, a1, a2, a3, a4, a5, a6, a7]) : w.cell? ⟨g, 0, none⟩ = some a0 ∧ w.cell? ⟨g, 1, none⟩ = some a1 ∧ w.cell? ⟨g, 2, none⟩ = some a2 ∧ w.cell? ⟨g, 3, none⟩ = some a3 ∧ w.cell? ⟨g, 4, none⟩ = some a4 ∧ w.cell? ⟨g, 5, none⟩ = some a5 ∧ w.cell? ⟨g, 6, none⟩ = some a6 ∧ w.cell? ⟨g, 7, none⟩ = some a7 := ⟨h.cell 0, h.cell 1, h.cell 2, h.cell 3, h.cell 4, h.cell 5, h.cell 6, h.cell 7⟩
theorem Blk.c11r {w : World} {g : Nat} {t : TypeId} {a0 a1 a2 a3 a4 a5 a6 a7 a8 a9 a10 : Value} (h : Blk w g t #[a0, a1, a2, a3, a4, a5, a6, a7, a8, a9, a10]) : w.cell? ⟨g, 0, none⟩ = some a0 ∧ w.cell? ⟨g, 1, none⟩ = some a1 ∧ w.cell? ⟨g, 2, none⟩ = some a2 ∧ w.cell? ⟨g, 3, none⟩ = some a3 ∧ w.cell? ⟨g, 4, none⟩ = some a4 ∧ w.cell? ⟨g, 5, none⟩ = some a5 ∧ w.cell? ⟨g, 6, none⟩ = some a6 ∧ w.cell? ⟨g, 7, none⟩ = some a7 ∧ w.cell? ⟨g, 8, none⟩ = some a8 ∧ w.cell? ⟨g, 9, none⟩ = some a9 ∧ w.cell? ⟨g, 10, none⟩ = some a10 := ⟨h.cell 0, h.cell 1, h.cell 2, h.cell 3, h.cell 4, h.cell 5, h.cell 6, h.cell 7, h.cell 8, h.cell 9, h.cell 10⟩
theorem Blk.f11r {w : World} {g : Nat} {t : TypeId} {a0 a1 a2 a3 a4 a5 a6 a7 a8 a9 a10 : Value} (h : Blk w g t #[a0, a1, a2, a3, a4, a5, a6, a7, a8, a9, a10]) : w.frozen? ⟨g, 0, none⟩ = false ∧ w.frozen? ⟨g, 1, none⟩ = false ∧ w.frozen? ⟨g, 2, none⟩ = false ∧ w.frozen? ⟨g, 3, none⟩ = false ∧ w.frozen? ⟨g, 4, none⟩ = false ∧ w.frozen? ⟨g, 5, none⟩ = false ∧ w.frozen? ⟨g, 6, none⟩ = false ∧ w.frozen? ⟨g, 7, none⟩ = false ∧ w.frozen? ⟨g, 8, none⟩ = false ∧ w.frozen? ⟨g, 9, none⟩ = false ∧ w.frozen? ⟨g, 10, none⟩ = false := ⟨h.frozen 0, h.frozen 1, h.frozen 2, h.frozen 3, h.frozen 4, h.frozen 5, h.frozen 6, h.frozen 7, h.frozen 8, h.frozen 9, h.frozen 10⟩
@[inline] def sumA (s : SumS) : Array Value := #[.bool s.hollow, .int .i64 s.short, .int .i64 s.long, .int .u64 (word s.first 0), .int .u64 (word s.first 1), .int .u64 (word s.first 2), .int .u64 (word s.first 3), .int .u64 (word s.last 0), .int .u64 (word s.last 1), .int .u64 (word s.last 2), .int .u64 (word s.last 3)]
@[inline] def sumV (s : SumS) : Value := .agg (sumA s)
theorem addF_nat (m n : Nat) (hm : (m : Int) ≠ endF) (hn : (n : Int) ≠ endF) : addF m n = ((min topN (m + n) : Nat) : Int) := by
 unfold addF topI
 rw [if_neg (by omega)]
 unfold topN
 omega
theorem timF_nat (m n : Nat) (h0 : m ≠ 0) (h1 : n ≠ 0) (hm : (m : Int) ≠ endF) (hn : (n : Int) ≠ endF) : timF m n = ((min topN (m * n) : Nat) : Int) := by
 unfold timF topI
 rw [if_neg (by omega), if_neg (by omega)]
 have : ((m * n : Nat) : Int) = (m : Int) * n := by rw [Int.natCast_mul]
 unfold topN
 omega
theorem addF_end0 {a b : Int} (h : a = endF ∨ b = endF) : addF a b = endF := by unfold addF; rw [if_pos h]
theorem fadd_go (a b : Int) (w : World) (ha : 0 ≤ a ∧ a ≤ endF) (hb : 0 ≤ b ∧ b ≤ endF) :
  Calls Tryz.prog 216 #[.int .i64 a, .int .i64 b] w fun e w' => e = .returned (.int .i64 (addF a b)) ∧ Below w.heap.size w w' := by
 by_cases h1 : a = endF
 ·have HV := Lib.hid (addF_end0 (a := a) (b := b) (.inl h1))
  have e1 : (a == 1099511627777) = true := by rw [h1]; rfl
  clear h1 ha hb
  go_enter Tryz.func216, Tryz.ntmps216
  go_wp2
  go_light
  go_ret
  exact ⟨ret_i (by rw [HV.out]; rfl), Below.refl _ _⟩
 have e1 : (a == 1099511627777) = false := by rw [beq_eq_false_iff_ne]; exact h1
 by_cases h2 : b = endF
 ·have HV := Lib.hid (addF_end0 (a := a) (b := b) (.inr h2))
  have e2 : (b == 1099511627777) = true := by rw [h2]; rfl
  clear h1 h2 ha hb
  go_enter Tryz.func216, Tryz.ntmps216
  go_wp2
  go_light
  go_ret
  exact ⟨ret_i (by rw [HV.out]; rfl), Below.refl _ _⟩
 have e2 : (b == 1099511627777) = false := by rw [beq_eq_false_iff_ne]; exact h2
 obtain ⟨m, rfl⟩ := Int.eq_ofNat_of_zero_le ha.1
 obtain ⟨n, rfl⟩ := Int.eq_ofNat_of_zero_le hb.1
 have hm : m ≤ topN := by unfold endF at *; unfold topN; omega
 have hn : n ≤ topN := by unfold endF at *; unfold topN; omega
 have HV := Lib.hid (addF_nat m n h1 h2)
 have HA := Lib.hid (fun (W : World) (g : Nat) (hg : g = W.heap.size) => add2_new W g m n hg hm hn)
 clear h1 h2 ha hb hm hn
 go_enter Tryz.func216, Tryz.ntmps216
 go_wp2_with fail
 refine (HA.out _ _ (by simp)).mono ?_
 rintro e w2 ⟨rfl, hb2⟩
 have HB := Lib.hid hb2
 clear hb2 HA
 dsimp only
 go_wp2
 go_light
 go_ret
 exact ⟨ret_i (by rw [HV.out]), HB.out⟩
theorem ftimes_go (a b : Int) (w : World) (ha : 0 ≤ a ∧ a ≤ endF) (hb : 0 ≤ b ∧ b ≤ endF) :
  Calls Tryz.prog 217 #[.int .i64 a, .int .i64 b] w fun e w' => e = .returned (.int .i64 (timF a b)) ∧ Below w.heap.size w w' := by
 by_cases z1 : a = 0
 ·have HV := Lib.hid (show timF a b = 0 by unfold timF; rw [if_pos (.inl z1)])
  have e1 : (a == 0) = true := by rw [z1]; rfl
  clear z1 ha hb
  go_enter Tryz.func217, Tryz.ntmps217
  go_wp2
  go_light
  go_ret
  exact ⟨ret_i (by rw [HV.out]), Below.refl _ _⟩
 have e1 : (a == 0) = false := by rw [beq_eq_false_iff_ne]; exact z1
 by_cases z2 : b = 0
 ·have HV := Lib.hid (show timF a b = 0 by unfold timF; rw [if_pos (.inr z2)])
  have e2 : (b == 0) = true := by rw [z2]; rfl
  clear z1 z2 ha hb
  go_enter Tryz.func217, Tryz.ntmps217
  go_wp2
  go_light
  go_ret
  exact ⟨ret_i (by rw [HV.out]), Below.refl _ _⟩
 have e2 : (b == 0) = false := by rw [beq_eq_false_iff_ne]; exact z2
 by_cases h2 : b = endF
 ·have HV := Lib.hid (show timF a b = endF by unfold timF; rw [if_neg (by omega), if_pos (.inl h2)])
  have e3 : (b == 1099511627777) = true := by rw [h2]; rfl
  clear z1 z2 h2 ha hb
  go_enter Tryz.func217, Tryz.ntmps217
  go_wp2
  go_light
  go_ret
  exact ⟨ret_i (by rw [HV.out]; rfl), Below.refl _ _⟩
 have e3 : (b == 1099511627777) = false := by rw [beq_eq_false_iff_ne]; exact h2
 by_cases h1 : a = endF
 ·have HV := Lib.hid (show timF a b = endF by unfold timF; rw [if_neg (by omega), if_pos (.inr h1)])
  have e4 : (a == 1099511627777) = true := by rw [h1]; rfl
  clear z1 z2 h1 h2 ha hb
  go_enter Tryz.func217, Tryz.ntmps217
  go_wp2
  go_light
  go_ret
  exact ⟨ret_i (by rw [HV.out]; rfl), Below.refl _ _⟩
 have e4 : (a == 1099511627777) = false := by rw [beq_eq_false_iff_ne]; exact h1
 obtain ⟨m, rfl⟩ := Int.eq_ofNat_of_zero_le ha.1
 obtain ⟨n, rfl⟩ := Int.eq_ofNat_of_zero_le hb.1
 have hm : m ≤ topN := by unfold endF at *; unfold topN; omega
 have hn : n ≤ topN := by unfold endF at *; unfold topN; omega
 have HV := Lib.hid (timF_nat m n (by omega) (by omega) h1 h2)
 have HA := Lib.hid (fun (W : World) (g : Nat) (hg : g = W.heap.size) => mul2_new W g m n hg hm hn)
 clear h1 h2 ha hb hm hn z1 z2
 go_enter Tryz.func217, Tryz.ntmps217
 go_wp2_with fail
 refine (HA.out _ _ (by simp)).mono ?_
 rintro e w2 ⟨rfl, hb2⟩
 have HB := Lib.hid hb2
 clear hb2 HA
 dsimp only
 go_wp2
 go_light
 go_ret
 exact ⟨ret_i (by rw [HV.out]), HB.out⟩
theorem ret_sum {fn : Func} {t : Tmp} (h : fn.results = #[.cell t 121]) {tmps : Array Value} {w : World} {g : Nat} {a0 a1 a2 a3 a4 a5 a6 a7 a8 a9 a10 : Value} (hp : tmps.getD t undef = .pointer (some ⟨g, 0, none⟩)) (hb : Blk w g 121 #[a0, a1, a2, a3, a4, a5, a6, a7, a8, a9, a10]) :
  (results fn tmps).run Tryz.prog w = .ok (.agg #[a0, a1, a2, a3, a4, a5, a6, a7, a8, a9, a10]) w :=
 results_cell_row h tmps w g _ _ _ _ hp hb Tryz.underlying121 rfl (by kernel_rfl)
theorem noB_word (i : Nat) (hi : i < 4) : word noB i = 0 := word_empty i hi
theorem nothing_val : sumV nothingF = .agg #[.bool true, .int .i64 (-1), .int .i64 (-1), .int .u64 0, .int .u64 0, .int .u64 0, .int .u64 0, .int .u64 0, .int .u64 0, .int .u64 0, .int .u64 0] := by
 unfold sumV sumA nothingF
 rw [noB_word 0 (by decide), noB_word 1 (by decide), noB_word 2 (by decide), noB_word 3 (by decide)]
 rfl
theorem fnil_val : sumV fnilF = .agg #[.bool false, .int .i64 0, .int .i64 0, .int .u64 0, .int .u64 0, .int .u64 0, .int .u64 0, .int .u64 0, .int .u64 0, .int .u64 0, .int .u64 0] := by
 unfold sumV sumA fnilF
 rw [noB_word 0 (by decide), noB_word 1 (by decide), noB_word 2 (by decide), noB_word 3 (by decide)]
 rfl
theorem nothing_go (w : World) :
  Calls Tryz.prog 175 #[] w fun e w' => e = .returned (sumV nothingF) ∧ Below w.heap.size w w' := by
 have HV := Lib.hid nothing_val
 have HB := Lib.hid ((Below.refl w.heap.size w).alloc (Nat.le_refl _) (.cells #[.bool true, .int .i64 (-1), .int .i64 (-1), .int .u64 0, .int .u64 0, .int .u64 0, .int .u64 0, .int .u64 0, .int .u64 0, .int .u64 0, .int .u64 0] 121))
 go_enter Tryz.func175, Tryz.ntmps175
 go_wp2
 refine bodyPost_ret (ret_sum Tryz.results175 rfl (Blk.new _ _ _)) rfl ⟨by rw [HV.out], HB.out⟩
theorem null_go (s : SumS) (w : World) :
  Calls Tryz.prog 107 #[sumV s] w fun e w' => e = .returned (.bool s.null) ∧ Below w.heap.size w w' := by
 obtain ⟨h, a, b, f, l⟩ := s
 unfold sumV sumA
 dsimp only
 have hX := Blk.new w 121 #[.bool h, .int .i64 a, .int .i64 b, .int .u64 (word f 0), .int .u64 (word f 1), .int .u64 (word f 2), .int .u64 (word f 3), .int .u64 (word l 0), .int .u64 (word l 1), .int .u64 (word l 2), .int .u64 (word l 3)]
 have HB := Lib.hid ((Below.refl w.heap.size w).alloc (Nat.le_refl _) (.cells #[.bool h, .int .i64 a, .int .i64 b, .int .u64 (word f 0), .int .u64 (word f 1), .int .u64 (word f 2), .int .u64 (word f 3), .int .u64 (word l 0), .int .u64 (word l 1), .int .u64 (word l 2), .int .u64 (word l 3)] 121))
 have x0 := hX.cell 0
 have x1 := hX.cell 1
 simp only [List.getElem?_toArray, List.getElem?_cons_zero, List.getElem?_cons_succ] at x0 x1
 cases h with
 | true =>
  have HV := Lib.hid (show SumS.null ⟨true, a, b, f, l⟩ = false from rfl)
  clear hX
  go_enter Tryz.func107, Tryz.ntmps107
  go_wp2
  go_light
  go_ret
  exact ⟨ret_b (by rw [HV.out]), HB.out⟩
 | false =>
  have HV := Lib.hid (show SumS.null ⟨false, a, b, f, l⟩ = (a == 0) by unfold SumS.null; simp; rfl)
  clear hX
  go_enter Tryz.func107, Tryz.ntmps107
  go_wp2
  go_light
  go_ret
  exact ⟨ret_b (by rw [HV.out]), HB.out⟩
theorem take_snocS {α : Type} {l : List α} {k : Nat} {s : α} (h : l[k]? = some s) : l.take (k + 1) = l.take k ++ [s] := by rw [List.take_add_one, h]; rfl
theorem behind_full {a b : SumS} (ha : a.hollow = false) (hb : b.hollow = false) : behindF a b = ⟨false, addF a.short b.short, addF a.long b.long, if a.null = true then orB a.first b.first else a.first, if b.null = true then orB a.last b.last else b.last⟩ := by
 unfold behindF
 rw [if_neg (by simp [ha, hb])]
theorem either_full {a b : SumS} (ha : a.hollow = false) (hb : b.hollow = false) : eitherF a b = ⟨false, min a.short b.short, max a.long b.long, orB a.first b.first, orB a.last b.last⟩ := by
 unfold eitherF
 rw [if_neg (by simp [ha]), if_neg (by simp [hb])]
theorem either_left {a b : SumS} (ha : a.hollow = true) : eitherF a b = b := by unfold eitherF; rw [if_pos ha]
theorem either_right {a b : SumS} (ha : a.hollow = false) (hb : b.hollow = true) : eitherF a b = a := by unfold eitherF; rw [if_neg (by simp [ha]), if_pos hb]
theorem addF_end {a b : Int} (h : a = endF ∨ b = endF) : addF a b = endF := by unfold addF; rw [if_pos h]
theorem null_yes {s : SumS} (h : s.null = true) : s.hollow = false ∧ s.short = 0 := by unfold SumS.null at h; simpa using h
def KeepP (P : Nat → Prop) (w1 w2 : World) : Prop := ∀ b' o', P b' → w2.cell? ⟨b', o', none⟩ = w1.cell? ⟨b', o', none⟩
theorem cell_heap {w w' : World} {b o : Nat} (h : w'.heap[b]? = w.heap[b]?) : w'.cell? ⟨b, o, none⟩ = w.cell? ⟨b, o, none⟩ := by
 simp only [World.cell?, h]
theorem KeepP.start (P : Nat → Prop) (w : World) : KeepP P w w.drew := fun _ _ _ => rfl
theorem KeepP.by {P : Nat → Prop} {w1 w2 w3 : World} (h : KeepP P w1 w2) (hk : ∀ b, P b → w3.heap[b]? = w2.heap[b]?) : KeepP P w1 w3 := fun b' o' h' => (cell_heap (hk b' h')).trans (h b' o' h')
theorem KeepP.alloc {P : Nat → Prop} {w1 w2 : World} (h : KeepP P w1 w2) (hP : ∀ b, P b → b < w2.heap.size) (o : Obj) : KeepP P w1 (w2.alloc o) := h.by fun b hb => Below.heap_alloc w2 o b (hP b hb)
theorem KeepP.below {P : Nat → Prop} {w1 w2 w3 : World} (h : KeepP P w1 w2) (hB : Below w2.heap.size w2 w3) (hP : ∀ b, P b → b < w2.heap.size) : KeepP P w1 w3 := h.by fun b hb => hB.block b (hP b hb)
theorem KeepP.set {P : Nat → Prop} {w1 w2 : World} (h : KeepP P w1 w2) {p : Addr} (hP : ∀ b, P b → b ≠ p.block) (u : Value) : KeepP P w1 (w2.setCell p u) := h.by fun b hb => Below.heap_setCell w2 p u b (hP b hb)
theorem two_of {Q : Nat → Prop} {p q : Nat} (hp : Q p) (hq : Q q) : ∀ b, b = p ∨ b = q → Q b := by
 rintro b (rfl | rfl)
 ·exact hp
 ·exact hq
theorem Blk.store11 {W : World} {g : Nat} {t : TypeId} {c0 c1 c2 c3 c4 c5 c6 c7 c8 c9 c10 v0 v1 v2 v3 v4 v5 v6 v7 v8 v9 v10 : Value} (h : Blk W g t #[c0, c1, c2, c3, c4, c5, c6, c7, c8, c9, c10]) : Blk (((((((((((W.setCell ⟨g, 0, none⟩ v0).setCell ⟨g, 1, none⟩ v1).setCell ⟨g, 2, none⟩ v2).setCell ⟨g, 3, none⟩ v3).setCell ⟨g, 4, none⟩ v4).setCell ⟨g, 5, none⟩ v5).setCell ⟨g, 6, none⟩ v6).setCell ⟨g, 7, none⟩ v7).setCell ⟨g, 8, none⟩ v8).setCell ⟨g, 9, none⟩ v9).setCell ⟨g, 10, none⟩ v10) g t #[v0, v1, v2, v3, v4, v5, v6, v7, v8, v9, v10] := by
 unfold Blk at h ⊢
 simp [World.setCell, Array.getElem?_modify, h]
theorem below_set11 {W a : World} {B g : Nat} {v0 v1 v2 v3 v4 v5 v6 v7 v8 v9 v10 : Value} (h : Below B a W) (hg : B ≤ g) : Below B a (((((((((((W.setCell ⟨g, 0, none⟩ v0).setCell ⟨g, 1, none⟩ v1).setCell ⟨g, 2, none⟩ v2).setCell ⟨g, 3, none⟩ v3).setCell ⟨g, 4, none⟩ v4).setCell ⟨g, 5, none⟩ v5).setCell ⟨g, 6, none⟩ v6).setCell ⟨g, 7, none⟩ v7).setCell ⟨g, 8, none⟩ v8).setCell ⟨g, 9, none⟩ v9).setCell ⟨g, 10, none⟩ v10) :=
 ((((((((((h.setCell (p := ⟨g, 0, none⟩) hg v0).setCell (p := ⟨g, 1, none⟩) hg v1).setCell (p := ⟨g, 2, none⟩) hg v2).setCell (p := ⟨g, 3, none⟩) hg v3).setCell (p := ⟨g, 4, none⟩) hg v4).setCell (p := ⟨g, 5, none⟩) hg v5).setCell (p := ⟨g, 6, none⟩) hg v6).setCell (p := ⟨g, 7, none⟩) hg v7).setCell (p := ⟨g, 8, none⟩) hg v8).setCell (p := ⟨g, 9, none⟩) hg v9).setCell (p := ⟨g, 10, none⟩) hg v10
theorem KeepP.set11 {P : Nat → Prop} {a W : World} {g : Nat} {v0 v1 v2 v3 v4 v5 v6 v7 v8 v9 v10 : Value} (h : KeepP P a W) (hg : ∀ b, P b → b ≠ g) : KeepP P a (((((((((((W.setCell ⟨g, 0, none⟩ v0).setCell ⟨g, 1, none⟩ v1).setCell ⟨g, 2, none⟩ v2).setCell ⟨g, 3, none⟩ v3).setCell ⟨g, 4, none⟩ v4).setCell ⟨g, 5, none⟩ v5).setCell ⟨g, 6, none⟩ v6).setCell ⟨g, 7, none⟩ v7).setCell ⟨g, 8, none⟩ v8).setCell ⟨g, 9, none⟩ v9).setCell ⟨g, 10, none⟩ v10) :=
 ((((((((((h.set (p := ⟨g, 0, none⟩) hg v0).set (p := ⟨g, 1, none⟩) hg v1).set (p := ⟨g, 2, none⟩) hg v2).set (p := ⟨g, 3, none⟩) hg v3).set (p := ⟨g, 4, none⟩) hg v4).set (p := ⟨g, 5, none⟩) hg v5).set (p := ⟨g, 6, none⟩) hg v6).set (p := ⟨g, 7, none⟩) hg v7).set (p := ⟨g, 8, none⟩) hg v8).set (p := ⟨g, 9, none⟩) hg v9).set (p := ⟨g, 10, none⟩) hg v10
theorem anyOf_two (p q : Nat → Bool) : anyOf [p, q] 2 = orB p q := by funext c; simp [anyOf, orB]
theorem union2_new (p q : Nat → Bool) (w : World) (g : Nat) (hg : g = w.heap.size) :
  Calls Tryz.prog 83 #[.slice (some ⟨g, 0, none⟩) 2 2] (w.alloc (.cells #[.int .u64 (word p 0), .int .u64 (word p 1), .int .u64 (word p 2), .int .u64 (word p 3), .int .u64 (word q 0), .int .u64 (word q 1), .int .u64 (word q 2), .int .u64 (word q 3)] 25)) fun e w' => e = .returned (.agg #[.int .u64 (word (orB p q) 0), .int .u64 (word (orB p q) 1), .int .u64 (word (orB p q) 2), .int .u64 (word (orB p q) 3)]) ∧ Below w.heap.size w w' := by
 subst hg
 have hB := Blk.new w 25 #[.int .u64 (word p 0), .int .u64 (word p 1), .int .u64 (word p 2), .int .u64 (word p 3), .int .u64 (word q 0), .int .u64 (word q 1), .int .u64 (word q 2), .int .u64 (word q 3)]
 have h := union_any (some ⟨w.heap.size, 0, none⟩) [p, q] 2 (w.alloc (.cells #[.int .u64 (word p 0), .int .u64 (word p 1), .int .u64 (word p 2), .int .u64 (word p 3), .int .u64 (word q 0), .int .u64 (word q 1), .int .u64 (word q 2), .int .u64 (word q 3)] 25)) (fun _ => ⟨w.heap.size, 0, rfl, by simp, fun i r hr => by
  match i, hr with
  | 0, hr => cases hr; exact ⟨hB.cell 0, hB.cell 1, hB.cell 2, hB.cell 3⟩
  | 1, hr => cases hr; exact ⟨hB.cell 4, hB.cell 5, hB.cell 6, hB.cell 7⟩
  | (n + 2), hr => simp at hr⟩) (by simp)
 have e : anyOf [p, q] [p, q].length = orB p q := anyOf_two p q
 rw [e] at h
 exact h.mono fun e w' ⟨he, hb⟩ => ⟨he, ((Below.refl _ _).alloc (Nat.le_refl _) _).trans (hb.mono (by simp))⟩
structure BehSt (w : World) (A B C : Array Value) (h : Nat) (wx : World) : Prop where
 a : Blk wx w.heap.size 121 A
 b : Blk wx (w.heap.size + 1) 121 B
 r : Blk wx (w.heap.size + 1 + 1) 121 #[.bool false, .int .i64 0, .int .i64 0, .int .u64 0, .int .u64 0, .int .u64 0, .int .u64 0, .int .u64 0, .int .u64 0, .int .u64 0, .int .u64 0]
 c : Blk wx h 121 C
 bel : Below w.heap.size w wx
 lt : w.heap.size + 1 + 1 < h
theorem BehSt.below {w wx w' : World} {A B C : Array Value} {h : Nat} (H : BehSt w A B C h wx) (hb : Below wx.heap.size wx w') : BehSt w A B C h w' :=
 ⟨H.a.below hb H.a.lt, H.b.below hb H.b.lt, H.r.below hb H.r.lt, H.c.below hb H.c.lt, H.bel.trans (hb.mono H.bel.size), H.lt⟩
theorem BehSt.store {w wx : World} {A B C : Array Value} {h : Nat} (H : BehSt w A B C h wx) (i : Nat) (u : Value) : BehSt w A B (C.setIfInBounds i u) h (wx.setCell ⟨h, i, none⟩ u) :=
 ⟨H.a.far (p := ⟨h, i, none⟩) (by have := H.lt; show w.heap.size ≠ h; omega) u, H.b.far (p := ⟨h, i, none⟩) (by have := H.lt; show w.heap.size + 1 ≠ h; omega) u, H.r.far (p := ⟨h, i, none⟩) (by have := H.lt; show w.heap.size + 1 + 1 ≠ h; omega) u, H.c.set_ i u, H.bel.setCell (p := ⟨h, i, none⟩) (by have := H.lt; show w.heap.size ≤ h; omega) u, H.lt⟩
theorem BehSt.first {w wx : World} {A B : Array Value} {h : Nat} {p q r : Value} {f l : Nat → Bool} (H : BehSt w A B #[p, q, r, .int .u64 (word f 0), .int .u64 (word f 1), .int .u64 (word f 2), .int .u64 (word f 3), .int .u64 (word l 0), .int .u64 (word l 1), .int .u64 (word l 2), .int .u64 (word l 3)] h wx) (g : Nat → Bool) : BehSt w A B #[p, q, r, .int .u64 (word g 0), .int .u64 (word g 1), .int .u64 (word g 2), .int .u64 (word g 3), .int .u64 (word l 0), .int .u64 (word l 1), .int .u64 (word l 2), .int .u64 (word l 3)] h ((((wx.setCell ⟨h, 3, none⟩ (.int .u64 (word g 0))).setCell ⟨h, 4, none⟩ (.int .u64 (word g 1))).setCell ⟨h, 5, none⟩ (.int .u64 (word g 2))).setCell ⟨h, 6, none⟩ (.int .u64 (word g 3))) :=
 (((H.store 3 (.int .u64 (word g 0))).store 4 (.int .u64 (word g 1))).store 5 (.int .u64 (word g 2))).store 6 (.int .u64 (word g 3))
theorem BehSt.last {w wx : World} {A B : Array Value} {h : Nat} {p q r : Value} {f l : Nat → Bool} (H : BehSt w A B #[p, q, r, .int .u64 (word f 0), .int .u64 (word f 1), .int .u64 (word f 2), .int .u64 (word f 3), .int .u64 (word l 0), .int .u64 (word l 1), .int .u64 (word l 2), .int .u64 (word l 3)] h wx) (g : Nat → Bool) : BehSt w A B #[p, q, r, .int .u64 (word f 0), .int .u64 (word f 1), .int .u64 (word f 2), .int .u64 (word f 3), .int .u64 (word g 0), .int .u64 (word g 1), .int .u64 (word g 2), .int .u64 (word g 3)] h ((((wx.setCell ⟨h, 7, none⟩ (.int .u64 (word g 0))).setCell ⟨h, 8, none⟩ (.int .u64 (word g 1))).setCell ⟨h, 9, none⟩ (.int .u64 (word g 2))).setCell ⟨h, 10, none⟩ (.int .u64 (word g 3))) :=
 (((H.store 7 (.int .u64 (word g 0))).store 8 (.int .u64 (word g 1))).store 9 (.int .u64 (word g 2))).store 10 (.int .u64 (word g 3))
def BehindAt (x1 y1 x2 y2 : Int) (f1 l2 : Nat → Bool) (w2 : World) (u : Value) (wx : World) : Prop := ∃ h, u = .pointer (some ⟨h, 0, none⟩) ∧ Blk wx h 121 #[.bool false, .int .i64 (addF x1 x2), .int .i64 (addF y1 y2), .int .u64 (word f1 0), .int .u64 (word f1 1), .int .u64 (word f1 2), .int .u64 (word f1 3), .int .u64 (word l2 0), .int .u64 (word l2 1), .int .u64 (word l2 2), .int .u64 (word l2 3)] ∧ Below w2.heap.size w2 wx ∧ w2.heap.size ≤ h
theorem behind_words (x1 y1 x2 y2 : Int) (f1 l1 f2 l2 : Nat → Bool) (w : World) (hs1 : SumOk ⟨false, x1, y1, f1, l1⟩) (hs2 : SumOk ⟨false, x2, y2, f2, l2⟩) :
  Calls Tryz.prog 177 #[.agg #[.bool false, .int .i64 x1, .int .i64 y1, .int .u64 (word f1 0), .int .u64 (word f1 1), .int .u64 (word f1 2), .int .u64 (word f1 3), .int .u64 (word l1 0), .int .u64 (word l1 1), .int .u64 (word l1 2), .int .u64 (word l1 3)], .agg #[.bool false, .int .i64 x2, .int .i64 y2, .int .u64 (word f2 0), .int .u64 (word f2 1), .int .u64 (word f2 2), .int .u64 (word f2 3), .int .u64 (word l2 0), .int .u64 (word l2 1), .int .u64 (word l2 2), .int .u64 (word l2 3)]] w fun e w' => e = .returned (sumV (behindF ⟨false, x1, y1, f1, l1⟩ ⟨false, x2, y2, f2, l2⟩)) ∧ Below w.heap.size w w' := by
 have p1 := hs1.short rfl
 have p2 := hs1.long rfl
 have p3 := hs2.short rfl
 have p4 := hs2.long rfl
 dsimp only at p1 p2 p3 p4
 have te : topI ≤ endF := by decide
 have ha1 : 0 ≤ x1 ∧ x1 ≤ endF := by omega
 have hb1 : 0 ≤ x2 ∧ x2 ≤ endF := by omega
 have ha2 : 0 ≤ y1 ∧ y1 ≤ endF := by omega
 have hb2 : 0 ≤ y2 ∧ y2 ≤ endF := by omega
 have HA1 := Lib.hid ha1
 have HB1' := Lib.hid hb1
 have hb : Below w.heap.size w (((w.alloc (.cells #[.bool false, .int .i64 x1, .int .i64 y1, .int .u64 (word f1 0), .int .u64 (word f1 1), .int .u64 (word f1 2), .int .u64 (word f1 3), .int .u64 (word l1 0), .int .u64 (word l1 1), .int .u64 (word l1 2), .int .u64 (word l1 3)] 121)).alloc (.cells #[.bool false, .int .i64 x2, .int .i64 y2, .int .u64 (word f2 0), .int .u64 (word f2 1), .int .u64 (word f2 2), .int .u64 (word f2 3), .int .u64 (word l2 0), .int .u64 (word l2 1), .int .u64 (word l2 2), .int .u64 (word l2 3)] 121)).alloc (.cells #[.bool false, .int .i64 0, .int .i64 0, .int .u64 0, .int .u64 0, .int .u64 0, .int .u64 0, .int .u64 0, .int .u64 0, .int .u64 0, .int .u64 0] 121)) := (((Below.refl _ _).alloc (Nat.le_refl _) _).alloc (by simp) _).alloc (by simp; omega) _
 have HB := Lib.hid hb
 have HXA := Lib.hid (((Blk.new w 121 #[.bool false, .int .i64 x1, .int .i64 y1, .int .u64 (word f1 0), .int .u64 (word f1 1), .int .u64 (word f1 2), .int .u64 (word f1 3), .int .u64 (word l1 0), .int .u64 (word l1 1), .int .u64 (word l1 2), .int .u64 (word l1 3)]).alloc (.cells #[.bool false, .int .i64 x2, .int .i64 y2, .int .u64 (word f2 0), .int .u64 (word f2 1), .int .u64 (word f2 2), .int .u64 (word f2 3), .int .u64 (word l2 0), .int .u64 (word l2 1), .int .u64 (word l2 2), .int .u64 (word l2 3)] 121)).alloc (.cells #[.bool false, .int .i64 0, .int .i64 0, .int .u64 0, .int .u64 0, .int .u64 0, .int .u64 0, .int .u64 0, .int .u64 0, .int .u64 0, .int .u64 0] 121))
 have HXB := Lib.hid ((show Blk ((w.alloc (.cells #[.bool false, .int .i64 x1, .int .i64 y1, .int .u64 (word f1 0), .int .u64 (word f1 1), .int .u64 (word f1 2), .int .u64 (word f1 3), .int .u64 (word l1 0), .int .u64 (word l1 1), .int .u64 (word l1 2), .int .u64 (word l1 3)] 121)).alloc (.cells #[.bool false, .int .i64 x2, .int .i64 y2, .int .u64 (word f2 0), .int .u64 (word f2 1), .int .u64 (word f2 2), .int .u64 (word f2 3), .int .u64 (word l2 0), .int .u64 (word l2 1), .int .u64 (word l2 2), .int .u64 (word l2 3)] 121)) (w.heap.size + 1) 121 #[.bool false, .int .i64 x2, .int .i64 y2, .int .u64 (word f2 0), .int .u64 (word f2 1), .int .u64 (word f2 2), .int .u64 (word f2 3), .int .u64 (word l2 0), .int .u64 (word l2 1), .int .u64 (word l2 2), .int .u64 (word l2 3)] from Blk.new_at (by simp)).alloc (.cells #[.bool false, .int .i64 0, .int .i64 0, .int .u64 0, .int .u64 0, .int .u64 0, .int .u64 0, .int .u64 0, .int .u64 0, .int .u64 0, .int .u64 0] 121))
 have HXR := Lib.hid (show Blk (((w.alloc (.cells #[.bool false, .int .i64 x1, .int .i64 y1, .int .u64 (word f1 0), .int .u64 (word f1 1), .int .u64 (word f1 2), .int .u64 (word f1 3), .int .u64 (word l1 0), .int .u64 (word l1 1), .int .u64 (word l1 2), .int .u64 (word l1 3)] 121)).alloc (.cells #[.bool false, .int .i64 x2, .int .i64 y2, .int .u64 (word f2 0), .int .u64 (word f2 1), .int .u64 (word f2 2), .int .u64 (word f2 3), .int .u64 (word l2 0), .int .u64 (word l2 1), .int .u64 (word l2 2), .int .u64 (word l2 3)] 121)).alloc (.cells #[.bool false, .int .i64 0, .int .i64 0, .int .u64 0, .int .u64 0, .int .u64 0, .int .u64 0, .int .u64 0, .int .u64 0, .int .u64 0, .int .u64 0] 121)) (w.heap.size + 1 + 1) 121 #[.bool false, .int .i64 0, .int .i64 0, .int .u64 0, .int .u64 0, .int .u64 0, .int .u64 0, .int .u64 0, .int .u64 0, .int .u64 0, .int .u64 0] from Blk.new_at (by simp))
 have HV := Lib.hid (behind_full (a := ⟨false, x1, y1, f1, l1⟩) (b := ⟨false, x2, y2, f2, l2⟩) rfl rfl)
 clear hb p1 p2 p3 p4 te hs1 hs2
 go_enter Tryz.func177, Tryz.ntmps177
 go_upto_region 3 with fail
 generalize (((w.alloc (.cells #[.bool false, .int .i64 x1, .int .i64 y1, .int .u64 (word f1 0), .int .u64 (word f1 1), .int .u64 (word f1 2), .int .u64 (word f1 3), .int .u64 (word l1 0), .int .u64 (word l1 1), .int .u64 (word l1 2), .int .u64 (word l1 3)] 121)).alloc (.cells #[.bool false, .int .i64 x2, .int .i64 y2, .int .u64 (word f2 0), .int .u64 (word f2 1), .int .u64 (word f2 2), .int .u64 (word f2 3), .int .u64 (word l2 0), .int .u64 (word l2 1), .int .u64 (word l2 2), .int .u64 (word l2 3)] 121)).alloc (.cells #[.bool false, .int .i64 0, .int .i64 0, .int .u64 0, .int .u64 0, .int .u64 0, .int .u64 0, .int .u64 0, .int .u64 0, .int .u64 0, .int .u64 0] 121)) = w2 at *
 have a1 := HXA.out.cell 1
 have a2 := HXA.out.cell 2
 have a3 := HXA.out.cell 3
 have a4 := HXA.out.cell 4
 have a5 := HXA.out.cell 5
 have a6 := HXA.out.cell 6
 have b1 := HXB.out.cell 1
 have b2 := HXB.out.cell 2
 have b7 := HXB.out.cell 7
 have b8 := HXB.out.cell 8
 have b9 := HXB.out.cell 9
 have b10 := HXB.out.cell 10
 have hla := HXA.out.lt
 have hlb := HXB.out.lt
 simp only [List.getElem?_toArray, List.getElem?_cons_zero, List.getElem?_cons_succ] at a1 a2 a3 a4 a5 a6 b1 b2 b7 b8 b9 b10
 go_cut [5] from 6 (fun u5 wx => BehindAt x1 y1 x2 y2 f1 l2 w2 u5 wx)
 case first =>
  have hKl := two_of (Q := fun b => b < w2.heap.size) hla hlb
  have HB0 := Lib.hid ((Below.refl w2.heap.size w2).drew)
  have hk0 : KeepP (fun b' => b' = w.heap.size ∨ b' = w.heap.size + 1) w2 w2.drew := KeepP.start (fun b' => b' = w.heap.size ∨ b' = w.heap.size + 1) w2
  have hKs0 := fun b (hb : (fun b' => b' = w.heap.size ∨ b' = w.heap.size + 1) b) => hKl b hb
  refine wp_region_held_drew (S := fun w' => ∀ b' o', b' = w.heap.size ∨ b' = w.heap.size + 1 → w'.cell? ⟨b', o', none⟩ = w2.cell? ⟨b', o', none⟩) (by kernel_rfl) (KeepP.start (fun b' => b' = w.heap.size ∨ b' = w.heap.size + 1) w2) (fun hHeld => ?_)
  refine wpAnyH_take (i := 0) (oi := _) (v := ?_) rfl (by kernel_rfl) (by kernel_rfl) (by kernel_rfl) (fun _ _ _ h => h) (Or.inl ⟨by kernel_rfl, ?_⟩) (by assumption) ?_
  rotate_left
  ·intro w hSw
   try dsimp only at hSw
   go_simp
   try (with_reducible rfl)
  try simp only [Act.put, List.getElem_toArray, List.getElem_cons_zero, List.getElem_cons_succ, List.setIfInBounds_toArray, List.set_cons_zero, List.set_cons_succ]
  refine wpAnyH_take (i := 1) (oi := _) (v := ?_) rfl (by kernel_rfl) (by kernel_rfl) (by kernel_rfl) (fun _ _ _ h => h) (Or.inl ⟨by kernel_rfl, ?_⟩) (by assumption) ?_
  rotate_left
  ·intro w hSw
   try dsimp only at hSw
   go_simp
   try (with_reducible rfl)
  try simp only [Act.put, List.getElem_toArray, List.getElem_cons_zero, List.getElem_cons_succ, List.setIfInBounds_toArray, List.set_cons_zero, List.set_cons_succ]
  refine wpAnyH_take (i := 2) (oi := _) (v := ?_) rfl (by kernel_rfl) (by kernel_rfl) (by kernel_rfl) (fun _ _ _ h => h) (Or.inl ⟨by kernel_rfl, ?_⟩) (by assumption) ?_
  rotate_left
  ·intro w hSw
   try dsimp only at hSw
   go_simp
   try (with_reducible rfl)
  try simp only [Act.put, List.getElem_toArray, List.getElem_cons_zero, List.getElem_cons_succ, List.setIfInBounds_toArray, List.set_cons_zero, List.set_cons_succ]
  refine wpAnyH_take (i := 3) (oi := _) (v := ?_) rfl (by kernel_rfl) (by kernel_rfl) (by kernel_rfl) (fun _ _ _ h => h) (Or.inl ⟨by kernel_rfl, ?_⟩) (by assumption) ?_
  rotate_left
  ·intro w hSw
   try dsimp only at hSw
   go_simp
   try (with_reducible rfl)
  try simp only [Act.put, List.getElem_toArray, List.getElem_cons_zero, List.getElem_cons_succ, List.setIfInBounds_toArray, List.set_cons_zero, List.set_cons_succ]
  refine wpAnyH_take (i := 5) (oi := _) (v := ?_) rfl (by kernel_rfl) (by kernel_rfl) (by kernel_rfl) (fun _ _ _ h => h) (Or.inl ⟨by kernel_rfl, ?_⟩) (by assumption) ?_
  rotate_left
  ·intro w hSw
   try dsimp only at hSw
   go_simp
   try (with_reducible rfl)
  try simp only [Act.put, List.getElem_toArray, List.getElem_cons_zero, List.getElem_cons_succ, List.setIfInBounds_toArray, List.set_cons_zero, List.set_cons_succ]
  refine wpAnyH_take (i := 6) (oi := _) (v := ?_) rfl (by kernel_rfl) (by kernel_rfl) (by kernel_rfl) (fun _ _ _ h => h) (Or.inl ⟨by kernel_rfl, ?_⟩) (by assumption) ?_
  rotate_left
  ·intro w hSw
   try dsimp only at hSw
   go_simp
   try (with_reducible rfl)
  try simp only [Act.put, List.getElem_toArray, List.getElem_cons_zero, List.getElem_cons_succ, List.setIfInBounds_toArray, List.set_cons_zero, List.set_cons_succ]
  refine wpAnyH_take (i := 7) (oi := _) (v := ?_) rfl (by kernel_rfl) (by kernel_rfl) (by kernel_rfl) (fun _ _ _ h => h) (Or.inl ⟨by kernel_rfl, ?_⟩) (by assumption) ?_
  rotate_left
  ·intro w hSw
   try dsimp only at hSw
   go_simp
   try (with_reducible rfl)
  try simp only [Act.put, List.getElem_toArray, List.getElem_cons_zero, List.getElem_cons_succ, List.setIfInBounds_toArray, List.set_cons_zero, List.set_cons_succ]
  refine wpAnyH_take (i := 8) (oi := _) (v := ?_) rfl (by kernel_rfl) (by kernel_rfl) (by kernel_rfl) (fun _ _ _ h => h) (Or.inl ⟨by kernel_rfl, ?_⟩) (by assumption) ?_
  rotate_left
  ·intro w hSw
   try dsimp only at hSw
   go_simp
   try (with_reducible rfl)
  try simp only [Act.put, List.getElem_toArray, List.getElem_cons_zero, List.getElem_cons_succ, List.setIfInBounds_toArray, List.set_cons_zero, List.set_cons_succ]
  refine wpAnyH_take (i := 10) (oi := _) (v := ?_) rfl (by kernel_rfl) (by kernel_rfl) (by kernel_rfl) (fun _ _ _ h => h) (Or.inl ⟨by kernel_rfl, ?_⟩) (by assumption) ?_
  rotate_left
  ·intro w hSw
   try dsimp only at hSw
   go_simp
   try (with_reducible rfl)
  try simp only [Act.put, List.getElem_toArray, List.getElem_cons_zero, List.getElem_cons_succ, List.setIfInBounds_toArray, List.set_cons_zero, List.set_cons_succ]
  refine wpAnyH_take (i := 11) (oi := _) (v := ?_) rfl (by kernel_rfl) (by kernel_rfl) (by kernel_rfl) (fun _ _ _ h => h) (Or.inl ⟨by kernel_rfl, ?_⟩) (by assumption) ?_
  rotate_left
  ·intro w hSw
   try dsimp only at hSw
   go_simp
   try (with_reducible rfl)
  try simp only [Act.put, List.getElem_toArray, List.getElem_cons_zero, List.getElem_cons_succ, List.setIfInBounds_toArray, List.set_cons_zero, List.set_cons_succ]
  refine wpAnyH_take (i := 12) (oi := _) (v := ?_) rfl (by kernel_rfl) (by kernel_rfl) (by kernel_rfl) (fun _ _ _ h => h) (Or.inl ⟨by kernel_rfl, ?_⟩) (by assumption) ?_
  rotate_left
  ·intro w hSw
   try dsimp only at hSw
   go_simp
   try (with_reducible rfl)
  try simp only [Act.put, List.getElem_toArray, List.getElem_cons_zero, List.getElem_cons_succ, List.setIfInBounds_toArray, List.set_cons_zero, List.set_cons_succ]
  refine wpAnyH_take (i := 13) (oi := _) (v := ?_) rfl (by kernel_rfl) (by kernel_rfl) (by kernel_rfl) (fun _ _ _ h => h) (Or.inl ⟨by kernel_rfl, ?_⟩) (by assumption) ?_
  rotate_left
  ·intro w hSw
   try dsimp only at hSw
   go_simp
   try (with_reducible rfl)
  try simp only [Act.put, List.getElem_toArray, List.getElem_cons_zero, List.getElem_cons_succ, List.setIfInBounds_toArray, List.set_cons_zero, List.set_cons_succ]
  clear a1 a2 a3 a4 a5 a6 b1 b2 b7 b8 b9 b10
  refine wpAnyH_ready (rs := [4, 15]) (by kernel_rfl) (by simp) ?_
  refine AllReadyH.cons (o := _) rfl (fun K hK => ?_) (AllReadyH.cons (o := _) rfl (fun K hK => ?_) AllReadyH.nil)
  ·skip
   go_simp
   go_at_call 216
   refine (fadd_go _ _ _ ha1 hb1).mono ?_
   rintro e v1 ⟨rfl, hbc⟩
   have HB1 := Lib.hid (HB0.out.trans (hbc.mono HB0.out.size))
   have hKs1 := fun b (hb : (fun b' => b' = w.heap.size ∨ b' = w.heap.size + 1) b) => Nat.lt_of_lt_of_le (hKl b hb) HB1.out.size
   have hk1 := KeepP.below hk0 hbc hKs0
   clear hbc
   refine hK.out _ _ hk1 (fun _ => ?_)
   clear hK K
   try simp only [Act.put, List.getElem_toArray, List.getElem_cons_zero, List.getElem_cons_succ, List.setIfInBounds_toArray, List.set_cons_zero, List.set_cons_succ]
   refine wpAnyH_ready (rs := [9, 15]) (by kernel_rfl) (by simp) ?_
   refine AllReadyH.cons (o := _) rfl (fun K hK => ?_) (AllReadyH.cons (o := _) rfl (fun K hK => ?_) AllReadyH.nil)
   ·skip
    go_simp
    go_at_call 216
    refine (fadd_go _ _ _ ha2 hb2).mono ?_
    rintro e v2 ⟨rfl, hbc⟩
    have HB2 := Lib.hid (HB1.out.trans (hbc.mono HB1.out.size))
    have hKs2 := fun b (hb : (fun b' => b' = w.heap.size ∨ b' = w.heap.size + 1) b) => Nat.lt_of_lt_of_le (hKl b hb) HB2.out.size
    have hk2 := KeepP.below hk1 hbc hKs1
    clear hbc
    refine hK.out _ _ hk2 (fun _ => ?_)
    clear hK K
    try simp only [Act.put, List.getElem_toArray, List.getElem_cons_zero, List.getElem_cons_succ, List.setIfInBounds_toArray, List.set_cons_zero, List.set_cons_succ]
    refine wpAnyH_take (i := 14) (oi := _) (v := ?_) rfl (by kernel_rfl) (by kernel_rfl) (by kernel_rfl) (fun _ _ _ h => h) (Or.inl ⟨by kernel_rfl, ?_⟩) (by assumption) ?_
    rotate_left
    ·intro w hSw
     try dsimp only at hSw
     go_simp
     try (with_reducible rfl)
    try simp only [Act.put, List.getElem_toArray, List.getElem_cons_zero, List.getElem_cons_succ, List.setIfInBounds_toArray, List.set_cons_zero, List.set_cons_succ]
    refine wpAnyH_ready (rs := [15]) (by kernel_rfl) (by simp) ?_
    refine AllReadyH.cons (o := _) rfl (fun K hK => ?_) AllReadyH.nil
    go_simp
    have HB3 := Lib.hid (HB2.out.alloc HB2.out.size (.cells #[.bool false, .int .i64 0, .int .i64 0, .int .u64 0, .int .u64 0, .int .u64 0, .int .u64 0, .int .u64 0, .int .u64 0, .int .u64 0, .int .u64 0] 121))
    have hKs3 := fun b (hb : (fun b' => b' = w.heap.size ∨ b' = w.heap.size + 1) b) => Nat.lt_of_lt_of_le (hKl b hb) HB3.out.size
    have hk3 := KeepP.alloc hk2 hKs2 (.cells #[.bool false, .int .i64 0, .int .i64 0, .int .u64 0, .int .u64 0, .int .u64 0, .int .u64 0, .int .u64 0, .int .u64 0, .int .u64 0, .int .u64 0] 121)
    have HX3 := Lib.hid (show Blk ((v2).alloc (.cells #[.bool false, .int .i64 0, .int .i64 0, .int .u64 0, .int .u64 0, .int .u64 0, .int .u64 0, .int .u64 0, .int .u64 0, .int .u64 0, .int .u64 0] 121)) v2.heap.size 121 #[.bool false, .int .i64 0, .int .i64 0, .int .u64 0, .int .u64 0, .int .u64 0, .int .u64 0, .int .u64 0, .int .u64 0, .int .u64 0, .int .u64 0] from Blk.new (v2) 121 #[.bool false, .int .i64 0, .int .i64 0, .int .u64 0, .int .u64 0, .int .u64 0, .int .u64 0, .int .u64 0, .int .u64 0, .int .u64 0, .int .u64 0])
    refine hK.out _ _ hk3 (fun _ => ?_)
    clear hK K
    try simp only [Act.put, List.getElem_toArray, List.getElem_cons_zero, List.getElem_cons_succ, List.setIfInBounds_toArray, List.set_cons_zero, List.set_cons_succ]
    refine wpAnyH_ready (rs := [16]) (by kernel_rfl) (by simp) ?_
    refine AllReadyH.cons (o := _) rfl (fun K hK => ?_) AllReadyH.nil
    go_simp
    refine hK.out _ _ (KeepP.alloc hk2 (hKs2) _) (fun _ => ?_)
    clear hK K
    try simp only [Act.put, List.getElem_toArray, List.getElem_cons_zero, List.getElem_cons_succ, List.setIfInBounds_toArray, List.set_cons_zero, List.set_cons_succ]
    refine wpAnyH_done (by kernel_rfl) ?_ _
    go_wp2_with fail
    go_meet
    exact ⟨v2.heap.size, rfl, Blk.new _ _ _, HB2.out.alloc HB2.out.size _, HB2.out.size⟩
   ·skip
    go_simp
    have HB2 := Lib.hid (HB1.out.alloc HB1.out.size (.cells #[.bool false, .int .i64 0, .int .i64 0, .int .u64 0, .int .u64 0, .int .u64 0, .int .u64 0, .int .u64 0, .int .u64 0, .int .u64 0, .int .u64 0] 121))
    have hKs2 := fun b (hb : (fun b' => b' = w.heap.size ∨ b' = w.heap.size + 1) b) => Nat.lt_of_lt_of_le (hKl b hb) HB2.out.size
    have hk2 := KeepP.alloc hk1 hKs1 (.cells #[.bool false, .int .i64 0, .int .i64 0, .int .u64 0, .int .u64 0, .int .u64 0, .int .u64 0, .int .u64 0, .int .u64 0, .int .u64 0, .int .u64 0] 121)
    have HX2 := Lib.hid (show Blk ((v1).alloc (.cells #[.bool false, .int .i64 0, .int .i64 0, .int .u64 0, .int .u64 0, .int .u64 0, .int .u64 0, .int .u64 0, .int .u64 0, .int .u64 0, .int .u64 0] 121)) v1.heap.size 121 #[.bool false, .int .i64 0, .int .i64 0, .int .u64 0, .int .u64 0, .int .u64 0, .int .u64 0, .int .u64 0, .int .u64 0, .int .u64 0, .int .u64 0] from Blk.new (v1) 121 #[.bool false, .int .i64 0, .int .i64 0, .int .u64 0, .int .u64 0, .int .u64 0, .int .u64 0, .int .u64 0, .int .u64 0, .int .u64 0, .int .u64 0])
    refine hK.out _ _ hk2 (fun _ => ?_)
    clear hK K
    try simp only [Act.put, List.getElem_toArray, List.getElem_cons_zero, List.getElem_cons_succ, List.setIfInBounds_toArray, List.set_cons_zero, List.set_cons_succ]
    refine wpAnyH_ready (rs := [9]) (by kernel_rfl) (by simp) ?_
    refine AllReadyH.cons (o := _) rfl (fun K hK => ?_) AllReadyH.nil
    go_simp
    go_at_call 216
    refine (fadd_go _ _ _ ha2 hb2).mono ?_
    rintro e v3 ⟨rfl, hbc⟩
    have HB3 := Lib.hid (HB2.out.trans (hbc.mono HB2.out.size))
    have hKs3 := fun b (hb : (fun b' => b' = w.heap.size ∨ b' = w.heap.size + 1) b) => Nat.lt_of_lt_of_le (hKl b hb) HB3.out.size
    have hk3 := KeepP.below hk2 hbc hKs2
    have HX3 := Lib.hid (HX2.out.below hbc HX2.out.lt)
    clear hbc
    refine hK.out _ _ hk3 (fun _ => ?_)
    clear hK K
    try simp only [Act.put, List.getElem_toArray, List.getElem_cons_zero, List.getElem_cons_succ, List.setIfInBounds_toArray, List.set_cons_zero, List.set_cons_succ]
    refine wpAnyH_take (i := 14) (oi := _) (v := ?_) rfl (by kernel_rfl) (by kernel_rfl) (by kernel_rfl) (fun _ _ _ h => h) (Or.inl ⟨by kernel_rfl, ?_⟩) (by assumption) ?_
    rotate_left
    ·intro w hSw
     try dsimp only at hSw
     go_simp
     try (with_reducible rfl)
    try simp only [Act.put, List.getElem_toArray, List.getElem_cons_zero, List.getElem_cons_succ, List.setIfInBounds_toArray, List.set_cons_zero, List.set_cons_succ]
    obtain ⟨e0, e1, e2, e3, e4, e5, e6, e7, e8, e9, e10⟩ := (HX3.out).c11r
    obtain ⟨f0, f1, f2, f3, f4, f5, f6, f7, f8, f9, f10⟩ := (HX3.out).f11r
    refine wpAnyH_ready (rs := [16]) (by kernel_rfl) (by simp) ?_
    refine AllReadyH.cons (o := _) rfl (fun K hK => ?_) AllReadyH.nil
    go_simp
    have hge : w2.heap.size ≤ v1.heap.size := HB1.out.size
    refine hK.out _ _ (KeepP.set11 hk3 (fun b hb e => absurd (hKl b hb) (by rw [e]; exact Nat.not_lt.2 hge))) (fun _ => ?_)
    clear hK K
    try simp only [Act.put, List.getElem_toArray, List.getElem_cons_zero, List.getElem_cons_succ, List.setIfInBounds_toArray, List.set_cons_zero, List.set_cons_succ]
    refine wpAnyH_done (by kernel_rfl) ?_ _
    go_wp2_with fail
    go_meet
    exact ⟨v1.heap.size, rfl, Blk.store11 HX3.out, below_set11 HB3.out hge, hge⟩
  ·skip
   go_simp
   have HB1 := Lib.hid (HB0.out.alloc HB0.out.size (.cells #[.bool false, .int .i64 0, .int .i64 0, .int .u64 0, .int .u64 0, .int .u64 0, .int .u64 0, .int .u64 0, .int .u64 0, .int .u64 0, .int .u64 0] 121))
   have hKs1 := fun b (hb : (fun b' => b' = w.heap.size ∨ b' = w.heap.size + 1) b) => Nat.lt_of_lt_of_le (hKl b hb) HB1.out.size
   have hk1 := KeepP.alloc hk0 hKs0 (.cells #[.bool false, .int .i64 0, .int .i64 0, .int .u64 0, .int .u64 0, .int .u64 0, .int .u64 0, .int .u64 0, .int .u64 0, .int .u64 0, .int .u64 0] 121)
   have HX1 := Lib.hid (show Blk ((w2.drew).alloc (.cells #[.bool false, .int .i64 0, .int .i64 0, .int .u64 0, .int .u64 0, .int .u64 0, .int .u64 0, .int .u64 0, .int .u64 0, .int .u64 0, .int .u64 0] 121)) w2.heap.size 121 #[.bool false, .int .i64 0, .int .i64 0, .int .u64 0, .int .u64 0, .int .u64 0, .int .u64 0, .int .u64 0, .int .u64 0, .int .u64 0, .int .u64 0] from Blk.new (w2.drew) 121 #[.bool false, .int .i64 0, .int .i64 0, .int .u64 0, .int .u64 0, .int .u64 0, .int .u64 0, .int .u64 0, .int .u64 0, .int .u64 0, .int .u64 0])
   refine hK.out _ _ hk1 (fun _ => ?_)
   clear hK K
   try simp only [Act.put, List.getElem_toArray, List.getElem_cons_zero, List.getElem_cons_succ, List.setIfInBounds_toArray, List.set_cons_zero, List.set_cons_succ]
   refine wpAnyH_ready (rs := [4]) (by kernel_rfl) (by simp) ?_
   refine AllReadyH.cons (o := _) rfl (fun K hK => ?_) AllReadyH.nil
   go_simp
   go_at_call 216
   refine (fadd_go _ _ _ ha1 hb1).mono ?_
   rintro e v2 ⟨rfl, hbc⟩
   have HB2 := Lib.hid (HB1.out.trans (hbc.mono HB1.out.size))
   have hKs2 := fun b (hb : (fun b' => b' = w.heap.size ∨ b' = w.heap.size + 1) b) => Nat.lt_of_lt_of_le (hKl b hb) HB2.out.size
   have hk2 := KeepP.below hk1 hbc hKs1
   have HX2 := Lib.hid (HX1.out.below hbc HX1.out.lt)
   clear hbc
   refine hK.out _ _ hk2 (fun _ => ?_)
   clear hK K
   try simp only [Act.put, List.getElem_toArray, List.getElem_cons_zero, List.getElem_cons_succ, List.setIfInBounds_toArray, List.set_cons_zero, List.set_cons_succ]
   refine wpAnyH_ready (rs := [9]) (by kernel_rfl) (by simp) ?_
   refine AllReadyH.cons (o := _) rfl (fun K hK => ?_) AllReadyH.nil
   go_simp
   go_at_call 216
   refine (fadd_go _ _ _ ha2 hb2).mono ?_
   rintro e v3 ⟨rfl, hbc⟩
   have HB3 := Lib.hid (HB2.out.trans (hbc.mono HB2.out.size))
   have hKs3 := fun b (hb : (fun b' => b' = w.heap.size ∨ b' = w.heap.size + 1) b) => Nat.lt_of_lt_of_le (hKl b hb) HB3.out.size
   have hk3 := KeepP.below hk2 hbc hKs2
   have HX3 := Lib.hid (HX2.out.below hbc HX2.out.lt)
   clear hbc
   refine hK.out _ _ hk3 (fun _ => ?_)
   clear hK K
   try simp only [Act.put, List.getElem_toArray, List.getElem_cons_zero, List.getElem_cons_succ, List.setIfInBounds_toArray, List.set_cons_zero, List.set_cons_succ]
   refine wpAnyH_take (i := 14) (oi := _) (v := ?_) rfl (by kernel_rfl) (by kernel_rfl) (by kernel_rfl) (fun _ _ _ h => h) (Or.inl ⟨by kernel_rfl, ?_⟩) (by assumption) ?_
   rotate_left
   ·intro w hSw
    try dsimp only at hSw
    go_simp
    try (with_reducible rfl)
   try simp only [Act.put, List.getElem_toArray, List.getElem_cons_zero, List.getElem_cons_succ, List.setIfInBounds_toArray, List.set_cons_zero, List.set_cons_succ]
   obtain ⟨e0, e1, e2, e3, e4, e5, e6, e7, e8, e9, e10⟩ := (HX3.out).c11r
   obtain ⟨f0, f1, f2, f3, f4, f5, f6, f7, f8, f9, f10⟩ := (HX3.out).f11r
   refine wpAnyH_ready (rs := [16]) (by kernel_rfl) (by simp) ?_
   refine AllReadyH.cons (o := _) rfl (fun K hK => ?_) AllReadyH.nil
   go_simp
   have hge : w2.heap.size ≤ w2.heap.size := HB0.out.size
   refine hK.out _ _ (KeepP.set11 hk3 (fun b hb e => absurd (hKl b hb) (by rw [e]; exact Nat.not_lt.2 hge))) (fun _ => ?_)
   clear hK K
   try simp only [Act.put, List.getElem_toArray, List.getElem_cons_zero, List.getElem_cons_succ, List.setIfInBounds_toArray, List.set_cons_zero, List.set_cons_succ]
   refine wpAnyH_done (by kernel_rfl) ?_ _
   go_wp2_with fail
   go_meet
   exact ⟨w2.heap.size, rfl, Blk.store11 HX3.out, below_set11 HB3.out hge, hge⟩
 case rest =>
  obtain ⟨h, rfl, hc0, hb0, hge⟩ := hcut
  have HS0 := Lib.hid (show BehSt w #[.bool false, .int .i64 x1, .int .i64 y1, .int .u64 (word f1 0), .int .u64 (word f1 1), .int .u64 (word f1 2), .int .u64 (word f1 3), .int .u64 (word l1 0), .int .u64 (word l1 1), .int .u64 (word l1 2), .int .u64 (word l1 3)] #[.bool false, .int .i64 x2, .int .i64 y2, .int .u64 (word f2 0), .int .u64 (word f2 1), .int .u64 (word f2 2), .int .u64 (word f2 3), .int .u64 (word l2 0), .int .u64 (word l2 1), .int .u64 (word l2 2), .int .u64 (word l2 3)] #[.bool false, .int .i64 (addF x1 x2), .int .i64 (addF y1 y2), .int .u64 (word f1 0), .int .u64 (word f1 1), .int .u64 (word f1 2), .int .u64 (word f1 3), .int .u64 (word l2 0), .int .u64 (word l2 1), .int .u64 (word l2 2), .int .u64 (word l2 3)] h wc from
   ⟨HXA.out.below hb0 hla, HXB.out.below hb0 hlb, HXR.out.below hb0 HXR.out.lt, hc0, HB.out.trans (hb0.mono HB.out.size), Nat.lt_of_lt_of_le HXR.out.lt hge⟩)
  clear hc0 hb0 hge HXA HXB HXR HB a1 a2 a3 a4 a5 a6 b1 b2 b7 b8 b9 b10 hla hlb ha1 ha2 hb1 hb2 HA1 HB1'
  generalize hF : addF x1 x2 = sx at *
  generalize hG : addF y1 y2 = sy at *
  have HF := Lib.hid hF
  have HG := Lib.hid hG
  clear hF hG
  obtain ⟨a0, a1, a2, a3, a4, a5, a6, a7, a8, a9, a10⟩ := ((HS0.out.a)).c11r
  have hla := (HS0.out.a).lt
  have HN := Lib.hid (null_go ⟨false, x1, y1, f1, l1⟩ wc)
  unfold sumV sumA at HN
  dsimp only at HN
  go_wp2_with fail
  refine HN.out.mono ?_
  rintro e w3 ⟨rfl, hb3⟩
  have HS3 := Lib.hid (HS0.out.below hb3)
  clear a0 a1 a2 a3 a4 a5 a6 a7 a8 a9 a10
  clear hb3 HS0 HN hla
  cases hn1 : SumS.null ⟨false, x1, y1, f1, l1⟩ with
  | false =>
   have HV1 := Lib.hid hn1
   clear hn1
   dsimp only
   obtain ⟨b0, b1, b2, b3, b4, b5, b6, b7, b8, b9, b10⟩ := ((HS3.out.b)).c11r
   have hlb := (HS3.out.b).lt
   have HN2 := Lib.hid (fun W => null_go ⟨false, x2, y2, f2, l2⟩ W)
   unfold sumV sumA at HN2
   dsimp only at HN2
   go_wp2_with fail
   refine (HN2.out _).mono ?_
   rintro e w7 ⟨rfl, hb7⟩
   have HS7 := Lib.hid (HS3.out.below hb7)
   clear b0 b1 b2 b3 b4 b5 b6 b7 b8 b9 b10
   clear hb7 HS3 HN2 hlb
   cases hn2 : SumS.null ⟨false, x2, y2, f2, l2⟩ with
   | false =>
    have HV2 := Lib.hid hn2
    clear hn2
    dsimp only
    obtain ⟨c0, c1, c2, c3, c4, c5, c6, c7, c8, c9, c10⟩ := ((HS7.out.c)).c11r
    have f0 := (HS7.out.c).frozen 0
    have f1 := (HS7.out.c).frozen 1
    have f2 := (HS7.out.c).frozen 2
    have f3 := (HS7.out.c).frozen 3
    have f4 := (HS7.out.c).frozen 4
    have f5 := (HS7.out.c).frozen 5
    have f6 := (HS7.out.c).frozen 6
    have f7 := (HS7.out.c).frozen 7
    have f8 := (HS7.out.c).frozen 8
    have f9 := (HS7.out.c).frozen 9
    have f10 := (HS7.out.c).frozen 10
    have hlc := (HS7.out.c).lt
    have hr := HS7.out.r
    obtain ⟨r0, r1, r2, r3, r4, r5, r6, r7, r8, r9, r10⟩ := (hr).c11r
    obtain ⟨q0, q1, q2, q3, q4, q5, q6, q7, q8, q9, q10⟩ := (hr).f11r
    have hlr := hr.lt
    clear hr
    go_wp2
    refine bodyPost_ret (ret_sum Tryz.results177 rfl (Blk.store11 HS7.out.r)) rfl ⟨?_, below_set11 HS7.out.bel (by omega)⟩
    rw [HV.out]
    simp only [HV1.out, HV2.out, HF.out, HG.out]
    rfl
   | true =>
    have HV2 := Lib.hid hn2
    clear hn2
    obtain ⟨a0, a1, a2, a3, a4, a5, a6, a7, a8, a9, a10⟩ := ((HS7.out.a)).c11r
    have hla := (HS7.out.a).lt
    obtain ⟨b0, b1, b2, b3, b4, b5, b6, b7, b8, b9, b10⟩ := ((HS7.out.b)).c11r
    have hlb := (HS7.out.b).lt
    dsimp only
    go_wp2_with fail
    refine (union2_new l1 l2 _ _ rfl).mono ?_
    rintro e w8 ⟨rfl, hb8⟩
    have HS8 := Lib.hid (HS7.out.below hb8)
    have HS9 := Lib.hid (HS8.out.last (orB l1 l2))
    clear a0 a1 a2 a3 a4 a5 a6 a7 a8 a9 a10
    clear b0 b1 b2 b3 b4 b5 b6 b7 b8 b9 b10
    obtain ⟨c0, c1, c2, c3, c4, c5, c6, c7, c8, c9, c10⟩ := ((HS8.out.c)).c11r
    have f0 := (HS8.out.c).frozen 0
    have f1 := (HS8.out.c).frozen 1
    have f2 := (HS8.out.c).frozen 2
    have f3 := (HS8.out.c).frozen 3
    have f4 := (HS8.out.c).frozen 4
    have f5 := (HS8.out.c).frozen 5
    have f6 := (HS8.out.c).frozen 6
    have f7 := (HS8.out.c).frozen 7
    have f8 := (HS8.out.c).frozen 8
    have f9 := (HS8.out.c).frozen 9
    have f10 := (HS8.out.c).frozen 10
    have hlc := (HS8.out.c).lt
    clear hb8 HS7 hla hlb
    dsimp only
    go_upto_region 8 with fail
    clear c0 c1 c2 c3 c4 c5 c6 c7 c8 c9 c10
    clear f0 f1 f2 f3 f4 f5 f6 f7 f8 f9 f10
    generalize ((((w8.setCell ⟨h, 7, none⟩ (.int .u64 (word (orB l1 l2) 0))).setCell ⟨h, 8, none⟩ (.int .u64 (word (orB l1 l2) 1))).setCell ⟨h, 9, none⟩ (.int .u64 (word (orB l1 l2) 2))).setCell ⟨h, 10, none⟩ (.int .u64 (word (orB l1 l2) 3))) = w9 at *
    clear HS8 hlc
    obtain ⟨c0, c1, c2, c3, c4, c5, c6, c7, c8, c9, c10⟩ := ((HS9.out.c)).c11r
    have f0 := (HS9.out.c).frozen 0
    have f1 := (HS9.out.c).frozen 1
    have f2 := (HS9.out.c).frozen 2
    have f3 := (HS9.out.c).frozen 3
    have f4 := (HS9.out.c).frozen 4
    have f5 := (HS9.out.c).frozen 5
    have f6 := (HS9.out.c).frozen 6
    have f7 := (HS9.out.c).frozen 7
    have f8 := (HS9.out.c).frozen 8
    have f9 := (HS9.out.c).frozen 9
    have f10 := (HS9.out.c).frozen 10
    have hlc := (HS9.out.c).lt
    have hr := HS9.out.r
    obtain ⟨r0, r1, r2, r3, r4, r5, r6, r7, r8, r9, r10⟩ := (hr).c11r
    obtain ⟨q0, q1, q2, q3, q4, q5, q6, q7, q8, q9, q10⟩ := (hr).f11r
    have hlr := hr.lt
    clear hr
    go_wp2
    refine bodyPost_ret (ret_sum Tryz.results177 rfl (Blk.store11 HS9.out.r)) rfl ⟨?_, below_set11 HS9.out.bel (by omega)⟩
    rw [HV.out]
    simp only [HV1.out, HV2.out, HF.out, HG.out]
    rfl
  | true =>
   have HV1 := Lib.hid hn1
   clear hn1
   obtain ⟨a0, a1, a2, a3, a4, a5, a6, a7, a8, a9, a10⟩ := ((HS3.out.a)).c11r
   have hla := (HS3.out.a).lt
   obtain ⟨b0, b1, b2, b3, b4, b5, b6, b7, b8, b9, b10⟩ := ((HS3.out.b)).c11r
   have hlb := (HS3.out.b).lt
   dsimp only
   go_wp2_with fail
   refine (union2_new f1 f2 _ _ rfl).mono ?_
   rintro e w4 ⟨rfl, hb4⟩
   have HS4 := Lib.hid (HS3.out.below hb4)
   have HS5 := Lib.hid (HS4.out.first (orB f1 f2))
   clear a0 a1 a2 a3 a4 a5 a6 a7 a8 a9 a10
   clear b0 b1 b2 b3 b4 b5 b6 b7 b8 b9 b10
   obtain ⟨c0, c1, c2, c3, c4, c5, c6, c7, c8, c9, c10⟩ := ((HS4.out.c)).c11r
   have f0 := (HS4.out.c).frozen 0
   have f1 := (HS4.out.c).frozen 1
   have f2 := (HS4.out.c).frozen 2
   have f3 := (HS4.out.c).frozen 3
   have f4 := (HS4.out.c).frozen 4
   have f5 := (HS4.out.c).frozen 5
   have f6 := (HS4.out.c).frozen 6
   have f7 := (HS4.out.c).frozen 7
   have f8 := (HS4.out.c).frozen 8
   have f9 := (HS4.out.c).frozen 9
   have f10 := (HS4.out.c).frozen 10
   have hlc := (HS4.out.c).lt
   clear hb4 HS3 hla hlb
   dsimp only
   go_upto_region 6 with fail
   clear c0 c1 c2 c3 c4 c5 c6 c7 c8 c9 c10
   clear f0 f1 f2 f3 f4 f5 f6 f7 f8 f9 f10
   generalize ((((w4.setCell ⟨h, 3, none⟩ (.int .u64 (word (orB f1 f2) 0))).setCell ⟨h, 4, none⟩ (.int .u64 (word (orB f1 f2) 1))).setCell ⟨h, 5, none⟩ (.int .u64 (word (orB f1 f2) 2))).setCell ⟨h, 6, none⟩ (.int .u64 (word (orB f1 f2) 3))) = w5 at *
   clear HS4 hlc
   obtain ⟨b0, b1, b2, b3, b4, b5, b6, b7, b8, b9, b10⟩ := ((HS5.out.b)).c11r
   have hlb := (HS5.out.b).lt
   have HN2 := Lib.hid (fun W => null_go ⟨false, x2, y2, f2, l2⟩ W)
   unfold sumV sumA at HN2
   dsimp only at HN2
   go_wp2_with fail
   refine (HN2.out _).mono ?_
   rintro e w7 ⟨rfl, hb7⟩
   have HS7 := Lib.hid (HS5.out.below hb7)
   clear b0 b1 b2 b3 b4 b5 b6 b7 b8 b9 b10
   clear hb7 HS5 HN2 hlb
   cases hn2 : SumS.null ⟨false, x2, y2, f2, l2⟩ with
   | false =>
    have HV2 := Lib.hid hn2
    clear hn2
    dsimp only
    obtain ⟨c0, c1, c2, c3, c4, c5, c6, c7, c8, c9, c10⟩ := ((HS7.out.c)).c11r
    have f0 := (HS7.out.c).frozen 0
    have f1 := (HS7.out.c).frozen 1
    have f2 := (HS7.out.c).frozen 2
    have f3 := (HS7.out.c).frozen 3
    have f4 := (HS7.out.c).frozen 4
    have f5 := (HS7.out.c).frozen 5
    have f6 := (HS7.out.c).frozen 6
    have f7 := (HS7.out.c).frozen 7
    have f8 := (HS7.out.c).frozen 8
    have f9 := (HS7.out.c).frozen 9
    have f10 := (HS7.out.c).frozen 10
    have hlc := (HS7.out.c).lt
    have hr := HS7.out.r
    obtain ⟨r0, r1, r2, r3, r4, r5, r6, r7, r8, r9, r10⟩ := (hr).c11r
    obtain ⟨q0, q1, q2, q3, q4, q5, q6, q7, q8, q9, q10⟩ := (hr).f11r
    have hlr := hr.lt
    clear hr
    go_wp2
    refine bodyPost_ret (ret_sum Tryz.results177 rfl (Blk.store11 HS7.out.r)) rfl ⟨?_, below_set11 HS7.out.bel (by omega)⟩
    rw [HV.out]
    simp only [HV1.out, HV2.out, HF.out, HG.out]
    rfl
   | true =>
    have HV2 := Lib.hid hn2
    clear hn2
    obtain ⟨a0, a1, a2, a3, a4, a5, a6, a7, a8, a9, a10⟩ := ((HS7.out.a)).c11r
    have hla := (HS7.out.a).lt
    obtain ⟨b0, b1, b2, b3, b4, b5, b6, b7, b8, b9, b10⟩ := ((HS7.out.b)).c11r
    have hlb := (HS7.out.b).lt
    dsimp only
    go_wp2_with fail
    refine (union2_new l1 l2 _ _ rfl).mono ?_
    rintro e w8 ⟨rfl, hb8⟩
    have HS8 := Lib.hid (HS7.out.below hb8)
    have HS9 := Lib.hid (HS8.out.last (orB l1 l2))
    clear a0 a1 a2 a3 a4 a5 a6 a7 a8 a9 a10
    clear b0 b1 b2 b3 b4 b5 b6 b7 b8 b9 b10
    obtain ⟨c0, c1, c2, c3, c4, c5, c6, c7, c8, c9, c10⟩ := ((HS8.out.c)).c11r
    have f0 := (HS8.out.c).frozen 0
    have f1 := (HS8.out.c).frozen 1
    have f2 := (HS8.out.c).frozen 2
    have f3 := (HS8.out.c).frozen 3
    have f4 := (HS8.out.c).frozen 4
    have f5 := (HS8.out.c).frozen 5
    have f6 := (HS8.out.c).frozen 6
    have f7 := (HS8.out.c).frozen 7
    have f8 := (HS8.out.c).frozen 8
    have f9 := (HS8.out.c).frozen 9
    have f10 := (HS8.out.c).frozen 10
    have hlc := (HS8.out.c).lt
    clear hb8 HS7 hla hlb
    dsimp only
    go_upto_region 8 with fail
    clear c0 c1 c2 c3 c4 c5 c6 c7 c8 c9 c10
    clear f0 f1 f2 f3 f4 f5 f6 f7 f8 f9 f10
    generalize ((((w8.setCell ⟨h, 7, none⟩ (.int .u64 (word (orB l1 l2) 0))).setCell ⟨h, 8, none⟩ (.int .u64 (word (orB l1 l2) 1))).setCell ⟨h, 9, none⟩ (.int .u64 (word (orB l1 l2) 2))).setCell ⟨h, 10, none⟩ (.int .u64 (word (orB l1 l2) 3))) = w9 at *
    clear HS8 hlc
    obtain ⟨c0, c1, c2, c3, c4, c5, c6, c7, c8, c9, c10⟩ := ((HS9.out.c)).c11r
    have f0 := (HS9.out.c).frozen 0
    have f1 := (HS9.out.c).frozen 1
    have f2 := (HS9.out.c).frozen 2
    have f3 := (HS9.out.c).frozen 3
    have f4 := (HS9.out.c).frozen 4
    have f5 := (HS9.out.c).frozen 5
    have f6 := (HS9.out.c).frozen 6
    have f7 := (HS9.out.c).frozen 7
    have f8 := (HS9.out.c).frozen 8
    have f9 := (HS9.out.c).frozen 9
    have f10 := (HS9.out.c).frozen 10
    have hlc := (HS9.out.c).lt
    have hr := HS9.out.r
    obtain ⟨r0, r1, r2, r3, r4, r5, r6, r7, r8, r9, r10⟩ := (hr).c11r
    obtain ⟨q0, q1, q2, q3, q4, q5, q6, q7, q8, q9, q10⟩ := (hr).f11r
    have hlr := hr.lt
    clear hr
    go_wp2
    refine bodyPost_ret (ret_sum Tryz.results177 rfl (Blk.store11 HS9.out.r)) rfl ⟨?_, below_set11 HS9.out.bel (by omega)⟩
    rw [HV.out]
    simp only [HV1.out, HV2.out, HF.out, HG.out]
    rfl
theorem union2_at (p q : Nat → Bool) (w : World) (g : Nat) (hB : Blk w g 25 #[.int .u64 (word p 0), .int .u64 (word p 1), .int .u64 (word p 2), .int .u64 (word p 3), .int .u64 (word q 0), .int .u64 (word q 1), .int .u64 (word q 2), .int .u64 (word q 3)]) :
  Calls Tryz.prog 83 #[.slice (some ⟨g, 0, none⟩) 2 2] w fun e w' => e = .returned (.agg #[.int .u64 (word (orB p q) 0), .int .u64 (word (orB p q) 1), .int .u64 (word (orB p q) 2), .int .u64 (word (orB p q) 3)]) ∧ Below w.heap.size w w' := by
 have h := union_any (some ⟨g, 0, none⟩) [p, q] 2 w (fun _ => ⟨g, 0, rfl, hB.lt, fun i r hr => by
  match i, hr with
  | 0, hr => cases hr; exact ⟨hB.cell 0, hB.cell 1, hB.cell 2, hB.cell 3⟩
  | 1, hr => cases hr; exact ⟨hB.cell 4, hB.cell 5, hB.cell 6, hB.cell 7⟩
  | (n + 2), hr => simp at hr⟩) (by simp)
 have e : anyOf [p, q] [p, q].length = orB p q := anyOf_two p q
 rw [e] at h
 exact h
theorem either_words (x1 y1 x2 y2 : Int) (f1 l1 f2 l2 : Nat → Bool) (w : World) :
  Calls Tryz.prog 178 #[.agg #[.bool false, .int .i64 x1, .int .i64 y1, .int .u64 (word f1 0), .int .u64 (word f1 1), .int .u64 (word f1 2), .int .u64 (word f1 3), .int .u64 (word l1 0), .int .u64 (word l1 1), .int .u64 (word l1 2), .int .u64 (word l1 3)], .agg #[.bool false, .int .i64 x2, .int .i64 y2, .int .u64 (word f2 0), .int .u64 (word f2 1), .int .u64 (word f2 2), .int .u64 (word f2 3), .int .u64 (word l2 0), .int .u64 (word l2 1), .int .u64 (word l2 2), .int .u64 (word l2 3)]] w fun e w' => e = .returned (sumV (eitherF ⟨false, x1, y1, f1, l1⟩ ⟨false, x2, y2, f2, l2⟩)) ∧ Below w.heap.size w w' := by
 have hb : Below w.heap.size w (((w.alloc (.cells #[.bool false, .int .i64 x1, .int .i64 y1, .int .u64 (word f1 0), .int .u64 (word f1 1), .int .u64 (word f1 2), .int .u64 (word f1 3), .int .u64 (word l1 0), .int .u64 (word l1 1), .int .u64 (word l1 2), .int .u64 (word l1 3)] 121)).alloc (.cells #[.bool false, .int .i64 x2, .int .i64 y2, .int .u64 (word f2 0), .int .u64 (word f2 1), .int .u64 (word f2 2), .int .u64 (word f2 3), .int .u64 (word l2 0), .int .u64 (word l2 1), .int .u64 (word l2 2), .int .u64 (word l2 3)] 121)).alloc (.cells #[.bool false, .int .i64 0, .int .i64 0, .int .u64 0, .int .u64 0, .int .u64 0, .int .u64 0, .int .u64 0, .int .u64 0, .int .u64 0, .int .u64 0] 121)) := (((Below.refl _ _).alloc (Nat.le_refl _) _).alloc (by simp) _).alloc (by simp; omega) _
 have HB := Lib.hid hb
 have HXA := Lib.hid (((Blk.new w 121 #[.bool false, .int .i64 x1, .int .i64 y1, .int .u64 (word f1 0), .int .u64 (word f1 1), .int .u64 (word f1 2), .int .u64 (word f1 3), .int .u64 (word l1 0), .int .u64 (word l1 1), .int .u64 (word l1 2), .int .u64 (word l1 3)]).alloc (.cells #[.bool false, .int .i64 x2, .int .i64 y2, .int .u64 (word f2 0), .int .u64 (word f2 1), .int .u64 (word f2 2), .int .u64 (word f2 3), .int .u64 (word l2 0), .int .u64 (word l2 1), .int .u64 (word l2 2), .int .u64 (word l2 3)] 121)).alloc (.cells #[.bool false, .int .i64 0, .int .i64 0, .int .u64 0, .int .u64 0, .int .u64 0, .int .u64 0, .int .u64 0, .int .u64 0, .int .u64 0, .int .u64 0] 121))
 have HXB := Lib.hid ((show Blk ((w.alloc (.cells #[.bool false, .int .i64 x1, .int .i64 y1, .int .u64 (word f1 0), .int .u64 (word f1 1), .int .u64 (word f1 2), .int .u64 (word f1 3), .int .u64 (word l1 0), .int .u64 (word l1 1), .int .u64 (word l1 2), .int .u64 (word l1 3)] 121)).alloc (.cells #[.bool false, .int .i64 x2, .int .i64 y2, .int .u64 (word f2 0), .int .u64 (word f2 1), .int .u64 (word f2 2), .int .u64 (word f2 3), .int .u64 (word l2 0), .int .u64 (word l2 1), .int .u64 (word l2 2), .int .u64 (word l2 3)] 121)) (w.heap.size + 1) 121 #[.bool false, .int .i64 x2, .int .i64 y2, .int .u64 (word f2 0), .int .u64 (word f2 1), .int .u64 (word f2 2), .int .u64 (word f2 3), .int .u64 (word l2 0), .int .u64 (word l2 1), .int .u64 (word l2 2), .int .u64 (word l2 3)] from Blk.new_at (by simp)).alloc (.cells #[.bool false, .int .i64 0, .int .i64 0, .int .u64 0, .int .u64 0, .int .u64 0, .int .u64 0, .int .u64 0, .int .u64 0, .int .u64 0, .int .u64 0] 121))
 have HXR := Lib.hid (show Blk (((w.alloc (.cells #[.bool false, .int .i64 x1, .int .i64 y1, .int .u64 (word f1 0), .int .u64 (word f1 1), .int .u64 (word f1 2), .int .u64 (word f1 3), .int .u64 (word l1 0), .int .u64 (word l1 1), .int .u64 (word l1 2), .int .u64 (word l1 3)] 121)).alloc (.cells #[.bool false, .int .i64 x2, .int .i64 y2, .int .u64 (word f2 0), .int .u64 (word f2 1), .int .u64 (word f2 2), .int .u64 (word f2 3), .int .u64 (word l2 0), .int .u64 (word l2 1), .int .u64 (word l2 2), .int .u64 (word l2 3)] 121)).alloc (.cells #[.bool false, .int .i64 0, .int .i64 0, .int .u64 0, .int .u64 0, .int .u64 0, .int .u64 0, .int .u64 0, .int .u64 0, .int .u64 0, .int .u64 0] 121)) (w.heap.size + 1 + 1) 121 #[.bool false, .int .i64 0, .int .i64 0, .int .u64 0, .int .u64 0, .int .u64 0, .int .u64 0, .int .u64 0, .int .u64 0, .int .u64 0, .int .u64 0] from Blk.new_at (by simp))
 have HV := Lib.hid (either_full (a := ⟨false, x1, y1, f1, l1⟩) (b := ⟨false, x2, y2, f2, l2⟩) rfl rfl)
 clear hb
 go_enter Tryz.func178, Tryz.ntmps178
 go_upto_region 5 with fail
 generalize (((w.alloc (.cells #[.bool false, .int .i64 x1, .int .i64 y1, .int .u64 (word f1 0), .int .u64 (word f1 1), .int .u64 (word f1 2), .int .u64 (word f1 3), .int .u64 (word l1 0), .int .u64 (word l1 1), .int .u64 (word l1 2), .int .u64 (word l1 3)] 121)).alloc (.cells #[.bool false, .int .i64 x2, .int .i64 y2, .int .u64 (word f2 0), .int .u64 (word f2 1), .int .u64 (word f2 2), .int .u64 (word f2 3), .int .u64 (word l2 0), .int .u64 (word l2 1), .int .u64 (word l2 2), .int .u64 (word l2 3)] 121)).alloc (.cells #[.bool false, .int .i64 0, .int .i64 0, .int .u64 0, .int .u64 0, .int .u64 0, .int .u64 0, .int .u64 0, .int .u64 0, .int .u64 0, .int .u64 0] 121)) = w2 at *
 have a1 := HXA.out.cell 1
 have a2 := HXA.out.cell 2
 have a3 := HXA.out.cell 3
 have a4 := HXA.out.cell 4
 have a5 := HXA.out.cell 5
 have a6 := HXA.out.cell 6
 have a7 := HXA.out.cell 7
 have a8 := HXA.out.cell 8
 have a9 := HXA.out.cell 9
 have a10 := HXA.out.cell 10
 have b1 := HXB.out.cell 1
 have b2 := HXB.out.cell 2
 have b3 := HXB.out.cell 3
 have b4 := HXB.out.cell 4
 have b5 := HXB.out.cell 5
 have b6 := HXB.out.cell 6
 have b7 := HXB.out.cell 7
 have b8 := HXB.out.cell 8
 have b9 := HXB.out.cell 9
 have b10 := HXB.out.cell 10
 have hla := HXA.out.lt
 have hlb := HXB.out.lt
 simp only [List.getElem?_toArray, List.getElem?_cons_zero, List.getElem?_cons_succ] at a1 b1 a2 b2 a3 b3 a4 b4 a5 b5 a6 b6 a7 b7 a8 b8 a9 b9 a10 b10
 have hKl := two_of (Q := fun b => b < w2.heap.size) hla hlb
 have HB0 := Lib.hid ((Below.refl w2.heap.size w2).drew)
 have hk0 : KeepP (fun b' => b' = w.heap.size ∨ b' = w.heap.size + 1) w2 w2.drew := KeepP.start (fun b' => b' = w.heap.size ∨ b' = w.heap.size + 1) w2
 have hKs0 := fun b (hb : (fun b' => b' = w.heap.size ∨ b' = w.heap.size + 1) b) => hKl b hb
 refine wp_region_held_drew (S := fun w' => ∀ b' o', b' = w.heap.size ∨ b' = w.heap.size + 1 → w'.cell? ⟨b', o', none⟩ = w2.cell? ⟨b', o', none⟩) (by kernel_rfl) (KeepP.start (fun b' => b' = w.heap.size ∨ b' = w.heap.size + 1) w2) (fun hHeld => ?_)
 refine wpAnyH_take (i := 0) (oi := _) (v := ?_) rfl (by kernel_rfl) (by kernel_rfl) (by kernel_rfl) (fun _ _ _ h => h) (Or.inl ⟨by kernel_rfl, ?_⟩) (by assumption) ?_
 rotate_left
 ·intro w hSw
  try dsimp only at hSw
  go_simp
  try (with_reducible rfl)
 try simp only [Act.put, List.getElem_toArray, List.getElem_cons_zero, List.getElem_cons_succ, List.setIfInBounds_toArray, List.set_cons_zero, List.set_cons_succ]
 refine wpAnyH_take (i := 1) (oi := _) (v := ?_) rfl (by kernel_rfl) (by kernel_rfl) (by kernel_rfl) (fun _ _ _ h => h) (Or.inl ⟨by kernel_rfl, ?_⟩) (by assumption) ?_
 rotate_left
 ·intro w hSw
  try dsimp only at hSw
  go_simp
  try (with_reducible rfl)
 try simp only [Act.put, List.getElem_toArray, List.getElem_cons_zero, List.getElem_cons_succ, List.setIfInBounds_toArray, List.set_cons_zero, List.set_cons_succ]
 refine wpAnyH_take (i := 2) (oi := _) (v := ?_) rfl (by kernel_rfl) (by kernel_rfl) (by kernel_rfl) (fun _ _ _ h => h) (Or.inl ⟨by kernel_rfl, ?_⟩) (by assumption) ?_
 rotate_left
 ·intro w hSw
  try dsimp only at hSw
  go_simp
  try (with_reducible rfl)
 try simp only [Act.put, List.getElem_toArray, List.getElem_cons_zero, List.getElem_cons_succ, List.setIfInBounds_toArray, List.set_cons_zero, List.set_cons_succ]
 refine wpAnyH_take (i := 3) (oi := _) (v := ?_) rfl (by kernel_rfl) (by kernel_rfl) (by kernel_rfl) (fun _ _ _ h => h) (Or.inl ⟨by kernel_rfl, ?_⟩) (by assumption) ?_
 rotate_left
 ·intro w hSw
  try dsimp only at hSw
  go_simp
  try (with_reducible rfl)
 try simp only [Act.put, List.getElem_toArray, List.getElem_cons_zero, List.getElem_cons_succ, List.setIfInBounds_toArray, List.set_cons_zero, List.set_cons_succ]
 refine wpAnyH_take (i := 4) (oi := _) (v := ?_) rfl (by kernel_rfl) (by kernel_rfl) (by kernel_rfl) (fun _ _ _ h => h) (Or.inl ⟨by kernel_rfl, ?_⟩) (by assumption) ?_
 rotate_left
 ·intro w hSw
  try dsimp only at hSw
  go_simp
  try (with_reducible rfl)
 try simp only [Act.put, List.getElem_toArray, List.getElem_cons_zero, List.getElem_cons_succ, List.setIfInBounds_toArray, List.set_cons_zero, List.set_cons_succ]
 refine wpAnyH_take (i := 5) (oi := _) (v := ?_) rfl (by kernel_rfl) (by kernel_rfl) (by kernel_rfl) (fun _ _ _ h => h) (Or.inl ⟨by kernel_rfl, ?_⟩) (by assumption) ?_
 rotate_left
 ·intro w hSw
  try dsimp only at hSw
  go_simp
  try (with_reducible rfl)
 try simp only [Act.put, List.getElem_toArray, List.getElem_cons_zero, List.getElem_cons_succ, List.setIfInBounds_toArray, List.set_cons_zero, List.set_cons_succ]
 refine wpAnyH_take (i := 6) (oi := _) (v := ?_) rfl (by kernel_rfl) (by kernel_rfl) (by kernel_rfl) (fun _ _ _ h => h) (Or.inl ⟨by kernel_rfl, ?_⟩) (by assumption) ?_
 rotate_left
 ·intro w hSw
  try dsimp only at hSw
  go_simp
  try (with_reducible rfl)
 try simp only [Act.put, List.getElem_toArray, List.getElem_cons_zero, List.getElem_cons_succ, List.setIfInBounds_toArray, List.set_cons_zero, List.set_cons_succ]
 refine wpAnyH_take (i := 7) (oi := _) (v := ?_) rfl (by kernel_rfl) (by kernel_rfl) (by kernel_rfl) (fun _ _ _ h => h) (Or.inl ⟨by kernel_rfl, ?_⟩) (by assumption) ?_
 rotate_left
 ·intro w hSw
  try dsimp only at hSw
  go_simp
  try (with_reducible rfl)
 try simp only [Act.put, List.getElem_toArray, List.getElem_cons_zero, List.getElem_cons_succ, List.setIfInBounds_toArray, List.set_cons_zero, List.set_cons_succ]
 refine wpAnyH_take (i := 8) (oi := _) (v := ?_) rfl (by kernel_rfl) (by kernel_rfl) (by kernel_rfl) (fun _ _ _ h => h) (Or.inl ⟨by kernel_rfl, ?_⟩) (by assumption) ?_
 rotate_left
 ·intro w hSw
  try dsimp only at hSw
  go_simp
  try (with_reducible rfl)
 try simp only [Act.put, List.getElem_toArray, List.getElem_cons_zero, List.getElem_cons_succ, List.setIfInBounds_toArray, List.set_cons_zero, List.set_cons_succ]
 refine wpAnyH_take (i := 9) (oi := _) (v := ?_) rfl (by kernel_rfl) (by kernel_rfl) (by kernel_rfl) (fun _ _ _ h => h) (Or.inl ⟨by kernel_rfl, ?_⟩) (by assumption) ?_
 rotate_left
 ·intro w hSw
  try dsimp only at hSw
  go_simp
  try (with_reducible rfl)
 try simp only [Act.put, List.getElem_toArray, List.getElem_cons_zero, List.getElem_cons_succ, List.setIfInBounds_toArray, List.set_cons_zero, List.set_cons_succ]
 refine wpAnyH_take (i := 10) (oi := _) (v := ?_) rfl (by kernel_rfl) (by kernel_rfl) (by kernel_rfl) (fun _ _ _ h => h) (Or.inl ⟨by kernel_rfl, ?_⟩) (by assumption) ?_
 rotate_left
 ·intro w hSw
  try dsimp only at hSw
  go_simp
  try (with_reducible rfl)
 try simp only [Act.put, List.getElem_toArray, List.getElem_cons_zero, List.getElem_cons_succ, List.setIfInBounds_toArray, List.set_cons_zero, List.set_cons_succ]
 refine wpAnyH_take (i := 11) (oi := _) (v := ?_) rfl (by kernel_rfl) (by kernel_rfl) (by kernel_rfl) (fun _ _ _ h => h) (Or.inl ⟨by kernel_rfl, ?_⟩) (by assumption) ?_
 rotate_left
 ·intro w hSw
  try dsimp only at hSw
  go_simp
  try (with_reducible rfl)
 try simp only [Act.put, List.getElem_toArray, List.getElem_cons_zero, List.getElem_cons_succ, List.setIfInBounds_toArray, List.set_cons_zero, List.set_cons_succ]
 refine wpAnyH_take (i := 12) (oi := _) (v := ?_) rfl (by kernel_rfl) (by kernel_rfl) (by kernel_rfl) (fun _ _ _ h => h) (Or.inl ⟨by kernel_rfl, ?_⟩) (by assumption) ?_
 rotate_left
 ·intro w hSw
  try dsimp only at hSw
  go_simp
  try (with_reducible rfl)
 try simp only [Act.put, List.getElem_toArray, List.getElem_cons_zero, List.getElem_cons_succ, List.setIfInBounds_toArray, List.set_cons_zero, List.set_cons_succ]
 refine wpAnyH_take (i := 13) (oi := _) (v := ?_) rfl (by kernel_rfl) (by kernel_rfl) (by kernel_rfl) (fun _ _ _ h => h) (Or.inl ⟨by kernel_rfl, ?_⟩) (by assumption) ?_
 rotate_left
 ·intro w hSw
  try dsimp only at hSw
  go_simp
  try (with_reducible rfl)
 try simp only [Act.put, List.getElem_toArray, List.getElem_cons_zero, List.getElem_cons_succ, List.setIfInBounds_toArray, List.set_cons_zero, List.set_cons_succ]
 refine wpAnyH_take (i := 16) (oi := _) (v := ?_) rfl (by kernel_rfl) (by kernel_rfl) (by kernel_rfl) (fun _ _ _ h => h) (Or.inl ⟨by kernel_rfl, ?_⟩) (by assumption) ?_
 rotate_left
 ·intro w hSw
  try dsimp only at hSw
  go_simp
  try (with_reducible rfl)
 try simp only [Act.put, List.getElem_toArray, List.getElem_cons_zero, List.getElem_cons_succ, List.setIfInBounds_toArray, List.set_cons_zero, List.set_cons_succ]
 refine wpAnyH_take (i := 17) (oi := _) (v := ?_) rfl (by kernel_rfl) (by kernel_rfl) (by kernel_rfl) (fun _ _ _ h => h) (Or.inl ⟨by kernel_rfl, ?_⟩) (by assumption) ?_
 rotate_left
 ·intro w hSw
  try dsimp only at hSw
  go_simp
  try (with_reducible rfl)
 try simp only [Act.put, List.getElem_toArray, List.getElem_cons_zero, List.getElem_cons_succ, List.setIfInBounds_toArray, List.set_cons_zero, List.set_cons_succ]
 refine wpAnyH_take (i := 18) (oi := _) (v := ?_) rfl (by kernel_rfl) (by kernel_rfl) (by kernel_rfl) (fun _ _ _ h => h) (Or.inl ⟨by kernel_rfl, ?_⟩) (by assumption) ?_
 rotate_left
 ·intro w hSw
  try dsimp only at hSw
  go_simp
  try (with_reducible rfl)
 try simp only [Act.put, List.getElem_toArray, List.getElem_cons_zero, List.getElem_cons_succ, List.setIfInBounds_toArray, List.set_cons_zero, List.set_cons_succ]
 refine wpAnyH_take (i := 19) (oi := _) (v := ?_) rfl (by kernel_rfl) (by kernel_rfl) (by kernel_rfl) (fun _ _ _ h => h) (Or.inl ⟨by kernel_rfl, ?_⟩) (by assumption) ?_
 rotate_left
 ·intro w hSw
  try dsimp only at hSw
  go_simp
  try (with_reducible rfl)
 try simp only [Act.put, List.getElem_toArray, List.getElem_cons_zero, List.getElem_cons_succ, List.setIfInBounds_toArray, List.set_cons_zero, List.set_cons_succ]
 clear a1 b1 a2 b2 a3 b3 a4 b4 a5 b5 a6 b6 a7 b7 a8 b8 a9 b9 a10 b10
 generalize hmn : (if x2 < x1 then x2 else x1) = mn at *
 generalize hmx : (if y1 < y2 then y2 else y1) = mx at *
 have HMN := Lib.hid (show min x1 x2 = mn by rw [← hmn]; split <;> omega)
 have HMX := Lib.hid (show max y1 y2 = mx by rw [← hmx]; split <;> omega)
 clear hmn hmx
 refine wpAnyH_ready (rs := [14, 20]) (by kernel_rfl) (by simp) ?_
 refine AllReadyH.cons (o := _) rfl (fun K hK => ?_) (AllReadyH.cons (o := _) rfl (fun K hK => ?_) AllReadyH.nil)
 ·skip
  go_simp
  have HB1 := Lib.hid (HB0.out.alloc HB0.out.size (.cells #[.int .u64 (word f1 0), .int .u64 (word f1 1), .int .u64 (word f1 2), .int .u64 (word f1 3), .int .u64 (word f2 0), .int .u64 (word f2 1), .int .u64 (word f2 2), .int .u64 (word f2 3)] 25))
  have hKs1 := fun b (hb : (fun b' => b' = w.heap.size ∨ b' = w.heap.size + 1) b) => Nat.lt_of_lt_of_le (hKl b hb) HB1.out.size
  have hk1 := KeepP.alloc hk0 hKs0 (.cells #[.int .u64 (word f1 0), .int .u64 (word f1 1), .int .u64 (word f1 2), .int .u64 (word f1 3), .int .u64 (word f2 0), .int .u64 (word f2 1), .int .u64 (word f2 2), .int .u64 (word f2 3)] 25)
  have HS14_1 := Lib.hid (show Blk ((w2.drew).alloc (.cells #[.int .u64 (word f1 0), .int .u64 (word f1 1), .int .u64 (word f1 2), .int .u64 (word f1 3), .int .u64 (word f2 0), .int .u64 (word f2 1), .int .u64 (word f2 2), .int .u64 (word f2 3)] 25)) w2.heap.size 25 #[.int .u64 (word f1 0), .int .u64 (word f1 1), .int .u64 (word f1 2), .int .u64 (word f1 3), .int .u64 (word f2 0), .int .u64 (word f2 1), .int .u64 (word f2 2), .int .u64 (word f2 3)] from Blk.new_at (by simp))
  refine hK.out _ _ hk1 (fun _ => ?_)
  clear hK K
  try simp only [Act.put, List.getElem_toArray, List.getElem_cons_zero, List.getElem_cons_succ, List.setIfInBounds_toArray, List.set_cons_zero, List.set_cons_succ]
  refine wpAnyH_ready (rs := [15, 20]) (by kernel_rfl) (by simp) ?_
  refine AllReadyH.cons (o := _) rfl (fun K hK => ?_) (AllReadyH.cons (o := _) rfl (fun K hK => ?_) AllReadyH.nil)
  ·skip
   go_simp
   go_at_call 83
   refine (union2_at f1 f2 _ _ HS14_1.out).mono ?_
   rintro e v2 ⟨rfl, hbc⟩
   have HB2 := Lib.hid (HB1.out.trans (hbc.mono HB1.out.size))
   have hKs2 := fun b (hb : (fun b' => b' = w.heap.size ∨ b' = w.heap.size + 1) b) => Nat.lt_of_lt_of_le (hKl b hb) HB2.out.size
   have hk2 := KeepP.below hk1 hbc hKs1
   have HS14_2 := Lib.hid (HS14_1.out.below hbc HS14_1.out.lt)
   clear hbc
   refine hK.out _ _ hk2 (fun _ => ?_)
   clear hK K
   try simp only [Act.put, List.getElem_toArray, List.getElem_cons_zero, List.getElem_cons_succ, List.setIfInBounds_toArray, List.set_cons_zero, List.set_cons_succ]
   refine wpAnyH_ready (rs := [20]) (by kernel_rfl) (by simp) ?_
   refine AllReadyH.cons (o := _) rfl (fun K hK => ?_) AllReadyH.nil
   go_simp
   have HB3 := Lib.hid (HB2.out.alloc HB2.out.size (.cells #[.int .u64 (word l1 0), .int .u64 (word l1 1), .int .u64 (word l1 2), .int .u64 (word l1 3), .int .u64 (word l2 0), .int .u64 (word l2 1), .int .u64 (word l2 2), .int .u64 (word l2 3)] 25))
   have hKs3 := fun b (hb : (fun b' => b' = w.heap.size ∨ b' = w.heap.size + 1) b) => Nat.lt_of_lt_of_le (hKl b hb) HB3.out.size
   have hk3 := KeepP.alloc hk2 hKs2 (.cells #[.int .u64 (word l1 0), .int .u64 (word l1 1), .int .u64 (word l1 2), .int .u64 (word l1 3), .int .u64 (word l2 0), .int .u64 (word l2 1), .int .u64 (word l2 2), .int .u64 (word l2 3)] 25)
   have HS14_3 := Lib.hid (HS14_2.out.alloc (.cells #[.int .u64 (word l1 0), .int .u64 (word l1 1), .int .u64 (word l1 2), .int .u64 (word l1 3), .int .u64 (word l2 0), .int .u64 (word l2 1), .int .u64 (word l2 2), .int .u64 (word l2 3)] 25))
   have HS20_3 := Lib.hid (show Blk ((v2).alloc (.cells #[.int .u64 (word l1 0), .int .u64 (word l1 1), .int .u64 (word l1 2), .int .u64 (word l1 3), .int .u64 (word l2 0), .int .u64 (word l2 1), .int .u64 (word l2 2), .int .u64 (word l2 3)] 25)) v2.heap.size 25 #[.int .u64 (word l1 0), .int .u64 (word l1 1), .int .u64 (word l1 2), .int .u64 (word l1 3), .int .u64 (word l2 0), .int .u64 (word l2 1), .int .u64 (word l2 2), .int .u64 (word l2 3)] from Blk.new_at (by simp))
   refine hK.out _ _ hk3 (fun _ => ?_)
   clear hK K
   try simp only [Act.put, List.getElem_toArray, List.getElem_cons_zero, List.getElem_cons_succ, List.setIfInBounds_toArray, List.set_cons_zero, List.set_cons_succ]
   refine wpAnyH_ready (rs := [21]) (by kernel_rfl) (by simp) ?_
   refine AllReadyH.cons (o := _) rfl (fun K hK => ?_) AllReadyH.nil
   go_simp
   go_at_call 83
   refine (union2_at l1 l2 _ _ HS20_3.out).mono ?_
   rintro e v4 ⟨rfl, hbc⟩
   have HB4 := Lib.hid (HB3.out.trans (hbc.mono HB3.out.size))
   have hKs4 := fun b (hb : (fun b' => b' = w.heap.size ∨ b' = w.heap.size + 1) b) => Nat.lt_of_lt_of_le (hKl b hb) HB4.out.size
   have hk4 := KeepP.below hk3 hbc hKs3
   have HS14_4 := Lib.hid (HS14_3.out.below hbc HS14_3.out.lt)
   have HS20_4 := Lib.hid (HS20_3.out.below hbc HS20_3.out.lt)
   clear hbc
   refine hK.out _ _ hk4 (fun _ => ?_)
   clear hK K
   try simp only [Act.put, List.getElem_toArray, List.getElem_cons_zero, List.getElem_cons_succ, List.setIfInBounds_toArray, List.set_cons_zero, List.set_cons_succ]
   refine wpAnyH_take (i := 22) (oi := _) (v := ?_) rfl (by kernel_rfl) (by kernel_rfl) (by kernel_rfl) (fun _ _ _ h => h) (Or.inl ⟨by kernel_rfl, ?_⟩) (by assumption) ?_
   rotate_left
   ·intro w hSw
    try dsimp only at hSw
    go_simp
    try (with_reducible rfl)
   try simp only [Act.put, List.getElem_toArray, List.getElem_cons_zero, List.getElem_cons_succ, List.setIfInBounds_toArray, List.set_cons_zero, List.set_cons_succ]
   have HR2 := Lib.hid (HXR.out.below HB4.out HXR.out.lt)
   have e0 := HR2.out.cell 0
   have e1 := HR2.out.cell 1
   have e2 := HR2.out.cell 2
   have e3 := HR2.out.cell 3
   have e4 := HR2.out.cell 4
   have e5 := HR2.out.cell 5
   have e6 := HR2.out.cell 6
   have e7 := HR2.out.cell 7
   have e8 := HR2.out.cell 8
   have e9 := HR2.out.cell 9
   have e10 := HR2.out.cell 10
   have q0 := HR2.out.frozen 0
   have q1 := HR2.out.frozen 1
   have q2 := HR2.out.frozen 2
   have q3 := HR2.out.frozen 3
   have q4 := HR2.out.frozen 4
   have q5 := HR2.out.frozen 5
   have q6 := HR2.out.frozen 6
   have q7 := HR2.out.frozen 7
   have q8 := HR2.out.frozen 8
   have q9 := HR2.out.frozen 9
   have q10 := HR2.out.frozen 10
   have hlr := HR2.out.lt
   simp only [List.getElem?_toArray, List.getElem?_cons_zero, List.getElem?_cons_succ] at e0 e1 e2 e3 e4 e5 e6 e7 e8 e9 e10
   refine wpAnyH_ready (rs := [23]) (by kernel_rfl) (by simp) ?_
   refine AllReadyH.cons (o := _) rfl (fun K hK => ?_) AllReadyH.nil
   go_simp
   refine hK.out _ _ (KeepP.set11 hk4 (fun b hb e => by rcases hb with h | h <;> omega)) (fun _ => ?_)
   clear hK K
   try simp only [Act.put, List.getElem_toArray, List.getElem_cons_zero, List.getElem_cons_succ, List.setIfInBounds_toArray, List.set_cons_zero, List.set_cons_succ]
   refine wpAnyH_done (by kernel_rfl) ?_ _
   go_wp2
   refine bodyPost_ret (ret_sum Tryz.results178 rfl (Blk.store11 HR2.out)) rfl ⟨by rw [HV.out, HMN.out, HMX.out]; rfl, below_set11 (HB.out.trans (HB4.out.mono HB.out.size)) (by omega)⟩
  ·skip
   go_simp
   have HB2 := Lib.hid (HB1.out.alloc HB1.out.size (.cells #[.int .u64 (word l1 0), .int .u64 (word l1 1), .int .u64 (word l1 2), .int .u64 (word l1 3), .int .u64 (word l2 0), .int .u64 (word l2 1), .int .u64 (word l2 2), .int .u64 (word l2 3)] 25))
   have hKs2 := fun b (hb : (fun b' => b' = w.heap.size ∨ b' = w.heap.size + 1) b) => Nat.lt_of_lt_of_le (hKl b hb) HB2.out.size
   have hk2 := KeepP.alloc hk1 hKs1 (.cells #[.int .u64 (word l1 0), .int .u64 (word l1 1), .int .u64 (word l1 2), .int .u64 (word l1 3), .int .u64 (word l2 0), .int .u64 (word l2 1), .int .u64 (word l2 2), .int .u64 (word l2 3)] 25)
   have HS14_2 := Lib.hid (HS14_1.out.alloc (.cells #[.int .u64 (word l1 0), .int .u64 (word l1 1), .int .u64 (word l1 2), .int .u64 (word l1 3), .int .u64 (word l2 0), .int .u64 (word l2 1), .int .u64 (word l2 2), .int .u64 (word l2 3)] 25))
   have HS20_2 := Lib.hid (show Blk (((w2.drew).alloc (.cells #[.int .u64 (word f1 0), .int .u64 (word f1 1), .int .u64 (word f1 2), .int .u64 (word f1 3), .int .u64 (word f2 0), .int .u64 (word f2 1), .int .u64 (word f2 2), .int .u64 (word f2 3)] 25)).alloc (.cells #[.int .u64 (word l1 0), .int .u64 (word l1 1), .int .u64 (word l1 2), .int .u64 (word l1 3), .int .u64 (word l2 0), .int .u64 (word l2 1), .int .u64 (word l2 2), .int .u64 (word l2 3)] 25)) (w2.heap.size + 1) 25 #[.int .u64 (word l1 0), .int .u64 (word l1 1), .int .u64 (word l1 2), .int .u64 (word l1 3), .int .u64 (word l2 0), .int .u64 (word l2 1), .int .u64 (word l2 2), .int .u64 (word l2 3)] from Blk.new_at (by simp))
   refine hK.out _ _ hk2 (fun _ => ?_)
   clear hK K
   try simp only [Act.put, List.getElem_toArray, List.getElem_cons_zero, List.getElem_cons_succ, List.setIfInBounds_toArray, List.set_cons_zero, List.set_cons_succ]
   refine wpAnyH_ready (rs := [15]) (by kernel_rfl) (by simp) ?_
   refine AllReadyH.cons (o := _) rfl (fun K hK => ?_) AllReadyH.nil
   go_simp
   go_at_call 83
   refine (union2_at f1 f2 _ _ HS14_2.out).mono ?_
   rintro e v3 ⟨rfl, hbc⟩
   have HB3 := Lib.hid (HB2.out.trans (hbc.mono HB2.out.size))
   have hKs3 := fun b (hb : (fun b' => b' = w.heap.size ∨ b' = w.heap.size + 1) b) => Nat.lt_of_lt_of_le (hKl b hb) HB3.out.size
   have hk3 := KeepP.below hk2 hbc hKs2
   have HS14_3 := Lib.hid (HS14_2.out.below hbc HS14_2.out.lt)
   have HS20_3 := Lib.hid (HS20_2.out.below hbc HS20_2.out.lt)
   clear hbc
   refine hK.out _ _ hk3 (fun _ => ?_)
   clear hK K
   try simp only [Act.put, List.getElem_toArray, List.getElem_cons_zero, List.getElem_cons_succ, List.setIfInBounds_toArray, List.set_cons_zero, List.set_cons_succ]
   refine wpAnyH_ready (rs := [21]) (by kernel_rfl) (by simp) ?_
   refine AllReadyH.cons (o := _) rfl (fun K hK => ?_) AllReadyH.nil
   go_simp
   go_at_call 83
   refine (union2_at l1 l2 _ _ HS20_3.out).mono ?_
   rintro e v4 ⟨rfl, hbc⟩
   have HB4 := Lib.hid (HB3.out.trans (hbc.mono HB3.out.size))
   have hKs4 := fun b (hb : (fun b' => b' = w.heap.size ∨ b' = w.heap.size + 1) b) => Nat.lt_of_lt_of_le (hKl b hb) HB4.out.size
   have hk4 := KeepP.below hk3 hbc hKs3
   have HS14_4 := Lib.hid (HS14_3.out.below hbc HS14_3.out.lt)
   have HS20_4 := Lib.hid (HS20_3.out.below hbc HS20_3.out.lt)
   clear hbc
   refine hK.out _ _ hk4 (fun _ => ?_)
   clear hK K
   try simp only [Act.put, List.getElem_toArray, List.getElem_cons_zero, List.getElem_cons_succ, List.setIfInBounds_toArray, List.set_cons_zero, List.set_cons_succ]
   refine wpAnyH_take (i := 22) (oi := _) (v := ?_) rfl (by kernel_rfl) (by kernel_rfl) (by kernel_rfl) (fun _ _ _ h => h) (Or.inl ⟨by kernel_rfl, ?_⟩) (by assumption) ?_
   rotate_left
   ·intro w hSw
    try dsimp only at hSw
    go_simp
    try (with_reducible rfl)
   try simp only [Act.put, List.getElem_toArray, List.getElem_cons_zero, List.getElem_cons_succ, List.setIfInBounds_toArray, List.set_cons_zero, List.set_cons_succ]
   have HR2 := Lib.hid (HXR.out.below HB4.out HXR.out.lt)
   have e0 := HR2.out.cell 0
   have e1 := HR2.out.cell 1
   have e2 := HR2.out.cell 2
   have e3 := HR2.out.cell 3
   have e4 := HR2.out.cell 4
   have e5 := HR2.out.cell 5
   have e6 := HR2.out.cell 6
   have e7 := HR2.out.cell 7
   have e8 := HR2.out.cell 8
   have e9 := HR2.out.cell 9
   have e10 := HR2.out.cell 10
   have q0 := HR2.out.frozen 0
   have q1 := HR2.out.frozen 1
   have q2 := HR2.out.frozen 2
   have q3 := HR2.out.frozen 3
   have q4 := HR2.out.frozen 4
   have q5 := HR2.out.frozen 5
   have q6 := HR2.out.frozen 6
   have q7 := HR2.out.frozen 7
   have q8 := HR2.out.frozen 8
   have q9 := HR2.out.frozen 9
   have q10 := HR2.out.frozen 10
   have hlr := HR2.out.lt
   simp only [List.getElem?_toArray, List.getElem?_cons_zero, List.getElem?_cons_succ] at e0 e1 e2 e3 e4 e5 e6 e7 e8 e9 e10
   refine wpAnyH_ready (rs := [23]) (by kernel_rfl) (by simp) ?_
   refine AllReadyH.cons (o := _) rfl (fun K hK => ?_) AllReadyH.nil
   go_simp
   refine hK.out _ _ (KeepP.set11 hk4 (fun b hb e => by rcases hb with h | h <;> omega)) (fun _ => ?_)
   clear hK K
   try simp only [Act.put, List.getElem_toArray, List.getElem_cons_zero, List.getElem_cons_succ, List.setIfInBounds_toArray, List.set_cons_zero, List.set_cons_succ]
   refine wpAnyH_done (by kernel_rfl) ?_ _
   go_wp2
   refine bodyPost_ret (ret_sum Tryz.results178 rfl (Blk.store11 HR2.out)) rfl ⟨by rw [HV.out, HMN.out, HMX.out]; rfl, below_set11 (HB.out.trans (HB4.out.mono HB.out.size)) (by omega)⟩
 ·skip
  go_simp
  have HB1 := Lib.hid (HB0.out.alloc HB0.out.size (.cells #[.int .u64 (word l1 0), .int .u64 (word l1 1), .int .u64 (word l1 2), .int .u64 (word l1 3), .int .u64 (word l2 0), .int .u64 (word l2 1), .int .u64 (word l2 2), .int .u64 (word l2 3)] 25))
  have hKs1 := fun b (hb : (fun b' => b' = w.heap.size ∨ b' = w.heap.size + 1) b) => Nat.lt_of_lt_of_le (hKl b hb) HB1.out.size
  have hk1 := KeepP.alloc hk0 hKs0 (.cells #[.int .u64 (word l1 0), .int .u64 (word l1 1), .int .u64 (word l1 2), .int .u64 (word l1 3), .int .u64 (word l2 0), .int .u64 (word l2 1), .int .u64 (word l2 2), .int .u64 (word l2 3)] 25)
  have HS20_1 := Lib.hid (show Blk ((w2.drew).alloc (.cells #[.int .u64 (word l1 0), .int .u64 (word l1 1), .int .u64 (word l1 2), .int .u64 (word l1 3), .int .u64 (word l2 0), .int .u64 (word l2 1), .int .u64 (word l2 2), .int .u64 (word l2 3)] 25)) w2.heap.size 25 #[.int .u64 (word l1 0), .int .u64 (word l1 1), .int .u64 (word l1 2), .int .u64 (word l1 3), .int .u64 (word l2 0), .int .u64 (word l2 1), .int .u64 (word l2 2), .int .u64 (word l2 3)] from Blk.new_at (by simp))
  refine hK.out _ _ hk1 (fun _ => ?_)
  clear hK K
  try simp only [Act.put, List.getElem_toArray, List.getElem_cons_zero, List.getElem_cons_succ, List.setIfInBounds_toArray, List.set_cons_zero, List.set_cons_succ]
  refine wpAnyH_ready (rs := [14]) (by kernel_rfl) (by simp) ?_
  refine AllReadyH.cons (o := _) rfl (fun K hK => ?_) AllReadyH.nil
  go_simp
  have HB2 := Lib.hid (HB1.out.alloc HB1.out.size (.cells #[.int .u64 (word f1 0), .int .u64 (word f1 1), .int .u64 (word f1 2), .int .u64 (word f1 3), .int .u64 (word f2 0), .int .u64 (word f2 1), .int .u64 (word f2 2), .int .u64 (word f2 3)] 25))
  have hKs2 := fun b (hb : (fun b' => b' = w.heap.size ∨ b' = w.heap.size + 1) b) => Nat.lt_of_lt_of_le (hKl b hb) HB2.out.size
  have hk2 := KeepP.alloc hk1 hKs1 (.cells #[.int .u64 (word f1 0), .int .u64 (word f1 1), .int .u64 (word f1 2), .int .u64 (word f1 3), .int .u64 (word f2 0), .int .u64 (word f2 1), .int .u64 (word f2 2), .int .u64 (word f2 3)] 25)
  have HS20_2 := Lib.hid (HS20_1.out.alloc (.cells #[.int .u64 (word f1 0), .int .u64 (word f1 1), .int .u64 (word f1 2), .int .u64 (word f1 3), .int .u64 (word f2 0), .int .u64 (word f2 1), .int .u64 (word f2 2), .int .u64 (word f2 3)] 25))
  have HS14_2 := Lib.hid (show Blk (((w2.drew).alloc (.cells #[.int .u64 (word l1 0), .int .u64 (word l1 1), .int .u64 (word l1 2), .int .u64 (word l1 3), .int .u64 (word l2 0), .int .u64 (word l2 1), .int .u64 (word l2 2), .int .u64 (word l2 3)] 25)).alloc (.cells #[.int .u64 (word f1 0), .int .u64 (word f1 1), .int .u64 (word f1 2), .int .u64 (word f1 3), .int .u64 (word f2 0), .int .u64 (word f2 1), .int .u64 (word f2 2), .int .u64 (word f2 3)] 25)) (w2.heap.size + 1) 25 #[.int .u64 (word f1 0), .int .u64 (word f1 1), .int .u64 (word f1 2), .int .u64 (word f1 3), .int .u64 (word f2 0), .int .u64 (word f2 1), .int .u64 (word f2 2), .int .u64 (word f2 3)] from Blk.new_at (by simp))
  refine hK.out _ _ hk2 (fun _ => ?_)
  clear hK K
  try simp only [Act.put, List.getElem_toArray, List.getElem_cons_zero, List.getElem_cons_succ, List.setIfInBounds_toArray, List.set_cons_zero, List.set_cons_succ]
  refine wpAnyH_ready (rs := [15]) (by kernel_rfl) (by simp) ?_
  refine AllReadyH.cons (o := _) rfl (fun K hK => ?_) AllReadyH.nil
  go_simp
  go_at_call 83
  refine (union2_at f1 f2 _ _ HS14_2.out).mono ?_
  rintro e v3 ⟨rfl, hbc⟩
  have HB3 := Lib.hid (HB2.out.trans (hbc.mono HB2.out.size))
  have hKs3 := fun b (hb : (fun b' => b' = w.heap.size ∨ b' = w.heap.size + 1) b) => Nat.lt_of_lt_of_le (hKl b hb) HB3.out.size
  have hk3 := KeepP.below hk2 hbc hKs2
  have HS20_3 := Lib.hid (HS20_2.out.below hbc HS20_2.out.lt)
  have HS14_3 := Lib.hid (HS14_2.out.below hbc HS14_2.out.lt)
  clear hbc
  refine hK.out _ _ hk3 (fun _ => ?_)
  clear hK K
  try simp only [Act.put, List.getElem_toArray, List.getElem_cons_zero, List.getElem_cons_succ, List.setIfInBounds_toArray, List.set_cons_zero, List.set_cons_succ]
  refine wpAnyH_ready (rs := [21]) (by kernel_rfl) (by simp) ?_
  refine AllReadyH.cons (o := _) rfl (fun K hK => ?_) AllReadyH.nil
  go_simp
  go_at_call 83
  refine (union2_at l1 l2 _ _ HS20_3.out).mono ?_
  rintro e v4 ⟨rfl, hbc⟩
  have HB4 := Lib.hid (HB3.out.trans (hbc.mono HB3.out.size))
  have hKs4 := fun b (hb : (fun b' => b' = w.heap.size ∨ b' = w.heap.size + 1) b) => Nat.lt_of_lt_of_le (hKl b hb) HB4.out.size
  have hk4 := KeepP.below hk3 hbc hKs3
  have HS20_4 := Lib.hid (HS20_3.out.below hbc HS20_3.out.lt)
  have HS14_4 := Lib.hid (HS14_3.out.below hbc HS14_3.out.lt)
  clear hbc
  refine hK.out _ _ hk4 (fun _ => ?_)
  clear hK K
  try simp only [Act.put, List.getElem_toArray, List.getElem_cons_zero, List.getElem_cons_succ, List.setIfInBounds_toArray, List.set_cons_zero, List.set_cons_succ]
  refine wpAnyH_take (i := 22) (oi := _) (v := ?_) rfl (by kernel_rfl) (by kernel_rfl) (by kernel_rfl) (fun _ _ _ h => h) (Or.inl ⟨by kernel_rfl, ?_⟩) (by assumption) ?_
  rotate_left
  ·intro w hSw
   try dsimp only at hSw
   go_simp
   try (with_reducible rfl)
  try simp only [Act.put, List.getElem_toArray, List.getElem_cons_zero, List.getElem_cons_succ, List.setIfInBounds_toArray, List.set_cons_zero, List.set_cons_succ]
  have HR2 := Lib.hid (HXR.out.below HB4.out HXR.out.lt)
  have e0 := HR2.out.cell 0
  have e1 := HR2.out.cell 1
  have e2 := HR2.out.cell 2
  have e3 := HR2.out.cell 3
  have e4 := HR2.out.cell 4
  have e5 := HR2.out.cell 5
  have e6 := HR2.out.cell 6
  have e7 := HR2.out.cell 7
  have e8 := HR2.out.cell 8
  have e9 := HR2.out.cell 9
  have e10 := HR2.out.cell 10
  have q0 := HR2.out.frozen 0
  have q1 := HR2.out.frozen 1
  have q2 := HR2.out.frozen 2
  have q3 := HR2.out.frozen 3
  have q4 := HR2.out.frozen 4
  have q5 := HR2.out.frozen 5
  have q6 := HR2.out.frozen 6
  have q7 := HR2.out.frozen 7
  have q8 := HR2.out.frozen 8
  have q9 := HR2.out.frozen 9
  have q10 := HR2.out.frozen 10
  have hlr := HR2.out.lt
  simp only [List.getElem?_toArray, List.getElem?_cons_zero, List.getElem?_cons_succ] at e0 e1 e2 e3 e4 e5 e6 e7 e8 e9 e10
  refine wpAnyH_ready (rs := [23]) (by kernel_rfl) (by simp) ?_
  refine AllReadyH.cons (o := _) rfl (fun K hK => ?_) AllReadyH.nil
  go_simp
  refine hK.out _ _ (KeepP.set11 hk4 (fun b hb e => by rcases hb with h | h <;> omega)) (fun _ => ?_)
  clear hK K
  try simp only [Act.put, List.getElem_toArray, List.getElem_cons_zero, List.getElem_cons_succ, List.setIfInBounds_toArray, List.set_cons_zero, List.set_cons_succ]
  refine wpAnyH_done (by kernel_rfl) ?_ _
  go_wp2
  refine bodyPost_ret (ret_sum Tryz.results178 rfl (Blk.store11 HR2.out)) rfl ⟨by rw [HV.out, HMN.out, HMX.out]; rfl, below_set11 (HB.out.trans (HB4.out.mono HB.out.size)) (by omega)⟩
def readyS (L : List Lex) : Int × Int := if L.all rightS = false then (6, 0) else if h : 1024 < L.length then (4, (L[1024]).place) else (0, 0)
theorem readyS_bad {L : List Lex} {k : Nat} {x : Lex} (h : L[k]? = some x) (hx : rightS x = false) : readyS L = (6, 0) := by
 refine if_pos ?_
 cases ha : L.all rightS
 ·rfl
 ·have := List.all_eq_true.1 ha x (List.mem_of_getElem? h)
  rw [hx] at this
  cases this
theorem all_right {L : List Lex} (h : ∀ (k : Nat) x, L[k]? = some x → rightS x = true) : L.all rightS = true := List.all_eq_true.2 fun x hx => by
 obtain ⟨k, hk, rfl⟩ := List.mem_iff_getElem.1 hx
 exact h k _ (List.getElem?_eq_getElem hk)
theorem readyS_ok {L : List Lex} (h : L.all rightS = true) (hl : L.length ≤ 1024) : readyS L = (0, 0) := by
 unfold readyS
 rw [if_neg (by rw [h]; decide), dif_neg (by omega)]
theorem readyS_long {L : List Lex} {x : Lex} (h : L.all rightS = true) (hx : L[1024]? = some x) : readyS L = (4, x.place) := by
 obtain ⟨hl, rfl⟩ := List.getElem?_eq_some_iff.1 hx
 unfold readyS
 rw [if_neg (by rw [h]; decide), dif_pos hl]
theorem ret_badv {fn : Func} {t : Tmp} (h : fn.results = #[.cell t 77]) {tmps : Array Value} {w : World} {g : Nat} {a b : Value} (hp : tmps.getD t undef = .pointer (some ⟨g, 0, none⟩)) (hb : Blk w g 77 #[a, b]) :
  (results fn tmps).run Tryz.prog w = .ok (.agg #[a, b]) w :=
 results_cell_row h tmps w g _ _ _ _ hp hb Tryz.underlying77 rfl (by kernel_rfl)
theorem ready_go (A : Option Addr) (cap : Nat) (L : List Lex) (w : World) (hA : LexsAt w w.heap.size A L) (hlen : L.length ≤ 140737488355328) :
  Calls Tryz.prog 158 #[.slice A L.length cap] w fun e w' => e = .returned (.agg #[.int .i64 (readyS L).1, .int .i64 (readyS L).2]) ∧ Below w.heap.size w w' := by
 have HA := Lib.hid hA
 have hb0 : Below w.heap.size w (w.alloc (.cells #[.int .i64 0, .int .i64 0] 77)) := (Below.refl _ _).alloc (Nat.le_refl _) _
 have HB0 := Lib.hid hb0
 have HZ0 := Lib.hid (Blk.new w 77 #[.int .i64 0, .int .i64 0])
 clear hA hb0
 go_enter Tryz.func158, Tryz.ntmps158
 go_wp2
 go_loopw [7] (fun i wr => ∃ k : Nat, i = .int .i64 (k : Int) ∧ k ≤ L.length ∧ Hid (Below w.heap.size w wr) ∧ Hid (Blk wr w.heap.size 77 #[.int .i64 0, .int .i64 0]) ∧ Hid (∀ j x, j < k → L[j]? = some x → rightS x = true)) (fun i _ => L.length - (intOf i).toNat)
 case atStart => exact ⟨0, rfl, Nat.zero_le _, HB0, HZ0, Lib.hid (fun j x hj => by omega)⟩
 case round =>
  clear HB0 HZ0
  obtain ⟨k, rfl, hk, HB, HZ, HR⟩ := hrel
  by_cases hlt : k < L.length
  ·obtain ⟨x, hx⟩ : ∃ x, L[k]? = some x := ⟨_, List.getElem?_eq_getElem hlt⟩
   obtain ⟨b, o, rfl, hbl, hc⟩ := HA.out (by omega)
   have hbl' : b < wr.heap.size := Nat.lt_of_lt_of_le hbl HB.out.size
   obtain ⟨c0, c1, c2, c3, c4, c5, c6, c7⟩ := ((HA.out.below HB.out) (by omega)).elim fun b' h => h.elim fun o' h => by
    obtain ⟨e, _, h⟩ := h
    obtain ⟨rfl, rfl⟩ : b = b' ∧ o = o' := by simpa using e
    exact h k x hx
   clear hc
   have Hx := Lib.hid hx
   have hdl : (k : Int) < (L.length : Int) := by omega
   have HZx := Lib.hid (HZ.out.alloc (.cells #[.int .i64 x.kind, .int .i64 x.place, .int .u64 (word x.set 0), .int .u64 (word x.set 1), .int .u64 (word x.set 2), .int .u64 (word x.set 3), .int .i64 x.lo, .int .i64 x.hi] 143))
   have HBx := Lib.hid (HB.out.alloc HB.out.size (.cells #[.int .i64 x.kind, .int .i64 x.place, .int .u64 (word x.set 0), .int .u64 (word x.set 1), .int .u64 (word x.set 2), .int .u64 (word x.set 3), .int .i64 x.lo, .int .i64 x.hi] 143))
   clear hx
   go_wp2_with fail
   refine (right_go _ _ _ _ _ _ _ _ _).mono ?_
   rintro e w1 ⟨rfl, hb1⟩
   have HZ1 := Lib.hid (HZx.out.below hb1 HZx.out.lt)
   have HB1 := Lib.hid (HBx.out.trans (hb1.mono HBx.out.size))
   obtain ⟨b0, b1, f0, f1⟩ := HZ1.out.c2
   clear hb1 c0 c1 c2 c3 c4 c5 c6 c7
   cases hr : rightS x
   ·have hr' := hr
    unfold rightS at hr'
    rw [hr']
    have HV := Lib.hid (readyS_bad Hx.out hr)
    clear hr hr'
    go_wp2
    go_light
    rw [HV.out]
    exact bodyPost_ret (ret_badv Tryz.results158 rfl HZ1.out.set2) rfl ⟨rfl, below_set2 HB1.out (Nat.le_refl _) _ _⟩
   ·have hr' := hr
    unfold rightS at hr'
    rw [hr']
    have Hr := Lib.hid hr
    clear hr hr'
    go_wp2
    go_roundw
    case rel => exact ⟨k + 1, by go_num, by omega, HB1, HZ1, Lib.hid (fun j y hj hy => by
     rcases Nat.lt_or_ge j k with h | h
     ·exact HR.out j y h hy
     ·obtain rfl : j = k := by omega
      have := Hx.out.symm.trans hy
      obtain rfl : x = y := by simpa using this
      exact Hr.out)⟩
    case measure => simp [intOf]; omega
  ·have hdl : ¬ (k : Int) < (L.length : Int) := by omega
   have Hall := Lib.hid (all_right (L := L) (fun j x hx => HR.out j x (by have := (List.getElem?_eq_some_iff.1 hx).1; omega) hx))
   obtain ⟨b0, b1, f0, f1⟩ := HZ.out.c2
   by_cases h1024 : L.length ≤ 1024
   ·have HV := Lib.hid (readyS_ok Hall.out h1024)
    have hd : ¬ (1024 : Int) < (L.length : Int) := by omega
    clear h1024
    go_wp2
    go_light
    rw [HV.out]
    exact bodyPost_ret (ret_badv Tryz.results158 rfl HZ.out.set2) rfl ⟨rfl, below_set2 HB.out (Nat.le_refl _) _ _⟩
   ·obtain ⟨x, hx⟩ : ∃ x, L[1024]? = some x := ⟨_, List.getElem?_eq_getElem (by omega)⟩
    have HV := Lib.hid (readyS_long Hall.out hx)
    have hd : (1024 : Int) < (L.length : Int) := by omega
    obtain ⟨b, o, rfl, hbl, hc⟩ := HA.out (by omega)
    obtain ⟨_, c1, _⟩ := ((HA.out.below HB.out) (by omega)).elim fun b' h => h.elim fun o' h => by
     obtain ⟨e, _, h⟩ := h
     obtain ⟨rfl, rfl⟩ : b = b' ∧ o = o' := by simpa using e
     exact h 1024 x hx
    have c1' : wr.cell? ⟨b, o + 8193, none⟩ = some (.int .i64 x.place) := c1
    clear h1024 hc hx c1
    go_wp2
    go_light
    rw [HV.out]
    exact bodyPost_ret (ret_badv Tryz.results158 rfl HZ.out.set2) rfl ⟨rfl, below_set2 HB.out (Nat.le_refl _) _ _⟩
theorem word_noSet (i : Nat) : word noSet i = 0 := word_none i
theorem put_no (S b o len cap : Nat) (i : Int) (v : Value) (k q : Int) (N : Nat) (L : List Lex) (kind place lo hi next : Int) (W : World) (hS : Spl W S b o len cap i v k q) (hrow : W.ownsRow N 143 8 v L.length (lexCells L)) (hN : N ≤ S) (hL : L.length ≤ 100000) :
  Calls Tryz.prog 231 #[.pointer (some ⟨S, 0, none⟩), .agg #[.int .i64 kind, .int .i64 place, .int .u64 0, .int .u64 0, .int .u64 0, .int .u64 0, .int .i64 lo, .int .i64 hi], .int .i64 next] W (Took S b o len cap N L ⟨kind, i, noSet, lo, hi⟩ next k q W) := by
 have h := put_go S b o len cap i v k q N L ⟨kind, place, noSet, lo, hi⟩ next W hS hrow hN hL
 simp only [word_noSet] at h
 exact h
def Quiet (v : Value) (W : World) (e : Ending) (W' : World) : Prop := e = .returned v ∧ ∃ n, W' = W.drewN n
theorem sign_no (S b o cap : Nat) (bs : List Nat) (i : Nat) (v : Value) (N : Nat) (W : World) (hS : Spl W S b o bs.length cap i v 0 0) (hA : BytesAt W N (some ⟨b, o, none⟩) bs) (h0 : i < bs.length) (hk : signKind (byteAt bs i) = 0) :
  Calls Tryz.prog 198 #[.pointer (some ⟨S, 0, none⟩)] W (Quiet (.bool false) W) := by
 obtain ⟨s0, s1, s2, s3, s4, f0, f1, f2, f3, f4⟩ := hS.cells
 have hcell := bytesAt_cells hA i h0
 have hl := hA.2.1
 have hc256 := byteAt_lt hA.1 i
 generalize byteAt bs i = c at *
 have hne : c ≠ 40 ∧ c ≠ 41 ∧ c ≠ 124 ∧ c ≠ 42 ∧ c ≠ 43 ∧ c ≠ 63 := by
  unfold signKind at hk
  refine ⟨?_, ?_, ?_, ?_, ?_, ?_⟩ <;> (rintro rfl; revert hk; decide)
 obtain ⟨a1, a2, a3, a4, a5, a6⟩ := hne
 have b1 : ((c : Int) == 40) = false := by simp; omega
 have b2 : ((c : Int) == 41) = false := by simp; omega
 have b3 : ((c : Int) == 124) = false := by simp; omega
 have b4 : ((c : Int) == 42) = false := by simp; omega
 have b5 : ((c : Int) == 43) = false := by simp; omega
 have b6 : ((c : Int) == 63) = false := by simp; omega
 clear hS hA hk a1 a2 a3 a4 a5 a6
 go_enter Tryz.func198, Tryz.ntmps198
 go_wp2
 go_quiet (fail)
 go_wp2
 go_light
 go_ret
 exact ⟨rfl, _, rfl⟩
theorem sign_yes (S b o cap : Nat) (bs : List Nat) (i : Nat) (v : Value) (N : Nat) (L : List Lex) (W : World) (hS : Spl W S b o bs.length cap i v 0 0) (hrow : W.ownsRow N 143 8 v L.length (lexCells L)) (hN : N ≤ S) (hL : L.length ≤ 100000) (hA : BytesAt W N (some ⟨b, o, none⟩) bs) (h0 : i < bs.length) (hk : signKind (byteAt bs i) ≠ 0) :
  Calls Tryz.prog 198 #[.pointer (some ⟨S, 0, none⟩)] W fun e W' => e = .returned (.bool true) ∧ Below N W W' ∧ ∃ v', Spl W' S b o bs.length cap ((i : Int) + 1) v' 0 0 ∧ W'.ownsRow N 143 8 v' (L.length + 1) (lexCells (L ++ [⟨signKind (byteAt bs i), i, noSet, 0, 0⟩])) := by
 obtain ⟨s0, s1, s2, s3, s4, f0, f1, f2, f3, f4⟩ := hS.cells
 have hcell := bytesAt_cells hA i h0
 have hl := hA.2.1
 have hc256 := byteAt_lt hA.1 i
 have hlt := Blk.lt hS
 have hi2 : i < 140737488355328 := by omega
 have hcs : byteAt bs i = 40 ∨ byteAt bs i = 41 ∨ byteAt bs i = 124 ∨ byteAt bs i = 42 ∨ byteAt bs i = 43 ∨ byteAt bs i = 63 := by
  unfold signKind at hk
  by_cases a1 : byteAt bs i = 40
  ·omega
  by_cases a2 : byteAt bs i = 41
  ·omega
  by_cases a3 : byteAt bs i = 124
  ·omega
  by_cases a4 : byteAt bs i = 42
  ·omega
  by_cases a5 : byteAt bs i = 43
  ·omega
  by_cases a6 : byteAt bs i = 63
  ·omega
  rw [if_neg a1, if_neg a2, if_neg a3, if_neg a4, if_neg a5, if_neg a6] at hk
  exact absurd rfl hk
 have hP := fun (kd : Int) (n : Nat) => put_no S b o bs.length cap i v 0 0 N L kd 0 0 0 ((i : Int) + 1) (W.drewN n) hS hrow hN hL
 have HP := Lib.hid hP
 clear hS hA hk hP hrow
 rcases hcs with hc | hc | hc | hc | hc | hc
 ·rw [hc] at hcell
  have HK := Lib.hid (show signKind (byteAt bs i) = 2 by rw [hc]; rfl)
  clear hc hc256
  go_enter Tryz.func198, Tryz.ntmps198
  go_wp2
  go_quiet (fail)
  go_wp2_with fail
  refine (HP.out 2 _).mono ?_
  rintro e w4 ⟨rfl, hb4, hv4⟩
  have HV := Lib.hid hv4
  have HB4 := Lib.hid hb4
  clear hv4 hb4
  go_wp2
  go_light
  go_ret
  exact ⟨rfl, (bel_drewN (Below.refl N W) _).trans HB4.out, by rw [HK.out]; exact HV.out⟩
 ·rw [hc] at hcell
  have HK := Lib.hid (show signKind (byteAt bs i) = 3 by rw [hc]; rfl)
  clear hc hc256
  go_enter Tryz.func198, Tryz.ntmps198
  go_wp2
  go_quiet (fail)
  go_wp2_with fail
  refine (HP.out 3 _).mono ?_
  rintro e w4 ⟨rfl, hb4, hv4⟩
  have HV := Lib.hid hv4
  have HB4 := Lib.hid hb4
  clear hv4 hb4
  go_wp2
  go_light
  go_ret
  exact ⟨rfl, (bel_drewN (Below.refl N W) _).trans HB4.out, by rw [HK.out]; exact HV.out⟩
 ·rw [hc] at hcell
  have HK := Lib.hid (show signKind (byteAt bs i) = 4 by rw [hc]; rfl)
  clear hc hc256
  go_enter Tryz.func198, Tryz.ntmps198
  go_wp2
  go_quiet (fail)
  go_wp2_with fail
  refine (HP.out 4 _).mono ?_
  rintro e w4 ⟨rfl, hb4, hv4⟩
  have HV := Lib.hid hv4
  have HB4 := Lib.hid hb4
  clear hv4 hb4
  go_wp2
  go_light
  go_ret
  exact ⟨rfl, (bel_drewN (Below.refl N W) _).trans HB4.out, by rw [HK.out]; exact HV.out⟩
 ·rw [hc] at hcell
  have HK := Lib.hid (show signKind (byteAt bs i) = 5 by rw [hc]; rfl)
  clear hc hc256
  go_enter Tryz.func198, Tryz.ntmps198
  go_wp2
  go_quiet (fail)
  go_wp2_with fail
  refine (HP.out 5 _).mono ?_
  rintro e w4 ⟨rfl, hb4, hv4⟩
  have HV := Lib.hid hv4
  have HB4 := Lib.hid hb4
  clear hv4 hb4
  go_wp2
  go_light
  go_ret
  exact ⟨rfl, (bel_drewN (Below.refl N W) _).trans HB4.out, by rw [HK.out]; exact HV.out⟩
 ·rw [hc] at hcell
  have HK := Lib.hid (show signKind (byteAt bs i) = 6 by rw [hc]; rfl)
  clear hc hc256
  go_enter Tryz.func198, Tryz.ntmps198
  go_wp2
  go_quiet (fail)
  go_wp2_with fail
  refine (HP.out 6 _).mono ?_
  rintro e w4 ⟨rfl, hb4, hv4⟩
  have HV := Lib.hid hv4
  have HB4 := Lib.hid hb4
  clear hv4 hb4
  go_wp2
  go_light
  go_ret
  exact ⟨rfl, (bel_drewN (Below.refl N W) _).trans HB4.out, by rw [HK.out]; exact HV.out⟩
 ·rw [hc] at hcell
  have HK := Lib.hid (show signKind (byteAt bs i) = 7 by rw [hc]; rfl)
  clear hc hc256
  go_enter Tryz.func198, Tryz.ntmps198
  go_wp2
  go_quiet (fail)
  go_wp2_with fail
  refine (HP.out 7 _).mono ?_
  rintro e w4 ⟨rfl, hb4, hv4⟩
  have HV := Lib.hid hv4
  have HB4 := Lib.hid hb4
  clear hv4 hb4
  go_wp2
  go_light
  go_ret
  exact ⟨rfl, (bel_drewN (Below.refl N W) _).trans HB4.out, by rw [HK.out]; exact HV.out⟩
end Go.Proofs.YtofbfafnpdaejaaGreatDoor
namespace Go.Proofs.YtofbfafnpdaejaaGreatDoor
set_option linter.unusedSimpArgs false
set_option linter.unusedVariables false
set_option maxHeartbeats 8000000
theorem lexS_dot {bs : List Nat} {i : Nat} (h : byteAt bs i = 46) : lexS bs i = .ok (⟨1, i, dotSet, 0, 0⟩, i + 1) := by
 unfold lexS; rw [if_pos h]
theorem lexS_esc {bs : List Nat} {i c j : Nat} (h : byteAt bs i = 92) (he : escS bs i = some (c, j)) : lexS bs i = .ok (⟨1, i, among [c] 1, 0, 0⟩, j) := by
 unfold lexS; rw [if_neg (by omega), if_pos h, he]
theorem lexS_esc_no {bs : List Nat} {i : Nat} (h : byteAt bs i = 92) (he : escS bs i = none) : lexS bs i = .error (14, i) := by
 unfold lexS; rw [if_neg (by omega), if_pos h, he]
theorem lexS_class {bs : List Nat} {i : Nat} {p : Nat → Bool} {j : Nat} (h : byteAt bs i = 91) (he : readS bs i = .ok (p, j)) : lexS bs i = .ok (⟨1, i, p, 0, 0⟩, j) := by
 unfold lexS; rw [if_neg (by omega), if_neg (by omega), if_pos h, he]
theorem lexS_class_no {bs : List Nat} {i : Nat} {e : Wrong} (h : byteAt bs i = 91) (he : readS bs i = .error e) : lexS bs i = .error e := by
 unfold lexS; rw [if_neg (by omega), if_neg (by omega), if_pos h, he]
theorem lexS_rep {bs : List Nat} {i : Nat} (h : byteAt bs i = 123) : lexS bs i = repS bs i := by
 unfold lexS; rw [if_neg (by omega), if_neg (by omega), if_neg (by omega), if_pos h]
theorem lexS_form {bs : List Nat} {i : Nat} (h : byteAt bs i = 93 ∨ byteAt bs i = 125 ∨ byteAt bs i = 10) : lexS bs i = .error (3, i) := by
 unfold lexS; rw [if_neg (by omega), if_neg (by omega), if_neg (by omega), if_neg (by omega), if_pos h]
def Common (c : Nat) : Prop := c ≠ 46 ∧ c ≠ 92 ∧ c ≠ 91 ∧ c ≠ 123 ∧ c ≠ 93 ∧ c ≠ 125 ∧ c ≠ 10
theorem lexS_sign {bs : List Nat} {i : Nat} (h : Common (byteAt bs i)) (hk : signKind (byteAt bs i) ≠ 0) : lexS bs i = .ok (⟨signKind (byteAt bs i), i, noSet, 0, 0⟩, i + 1) := by
 obtain ⟨h1, h2, h3, h4, h5, h6, h7⟩ := h
 unfold lexS; rw [if_neg h1, if_neg h2, if_neg h3, if_neg h4, if_neg (by omega), if_pos hk]
theorem lexS_own {bs : List Nat} {i : Nat} (h : Common (byteAt bs i)) (hk : signKind (byteAt bs i) = 0) : lexS bs i = .ok (⟨1, i, among [byteAt bs i] 1, 0, 0⟩, i + 1) := by
 obtain ⟨h1, h2, h3, h4, h5, h6, h7⟩ := h
 unfold lexS; rw [if_neg h1, if_neg h2, if_neg h3, if_neg h4, if_neg (by omega), if_neg (by omega)]
end Go.Proofs.YtofbfafnpdaejaaGreatDoor
namespace Go.Proofs.YtofbfafnpdaejaaGreatDoor
open Go.RowKit
set_option linter.unusedSimpArgs false
set_option linter.unusedVariables false
set_option maxRecDepth 100000
set_option maxHeartbeats 8000000
theorem addr_plusR (b o j : Nat) : (⟨b, o, none⟩ : Addr).add j = ⟨b, o + j, none⟩ := by unfold Addr.add; split <;> simp_all
section
variable {w wr w2 w3 : World} {X : Nat} {z z' : Nd} {B B' : Option Addr} {cap cap' : Nat}
end
end Go.Proofs.YtofbfafnpdaejaaGreatDoor
