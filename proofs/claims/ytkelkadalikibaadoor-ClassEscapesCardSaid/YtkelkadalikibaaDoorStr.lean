/-
  Texts of bytes: what a byte is written as; the contracts of quote.Digit, quote.Plain, class.Char and their references.
-/
import Derived.Test.YtkelkadalikibaaDoorLeaf
import Derived.Test.YtkelkadalikibaaDoorRef02
import Derived.Laws.BytesString
import Derived.Laws.Concat
import Derived.OwnWalk
import Derived.Laws.AppendOwn
import Derived.Laws.MakeOwn
import Derived.RegionTactic
import Derived.BigRegion
import Derived.Deep.RegionWith
import Derived.IntWalk
namespace Go.Proofs.YtkelkadalikibaaDoor
open Go.RowKit
set_option linter.unusedSimpArgs false
set_option linter.unusedVariables false
set_option maxRecDepth 100000

/-- The string of some bytes. -/
def strOf (l : List Nat) : ByteArray := ByteArray.mk (l.map UInt8.ofNat).toArray
@[go_sem] theorem strOf_size (l : List Nat) : (strOf l).size = l.length := by simp [strOf, ByteArray.size]
theorem strOf_append (a b : List Nat) : strOf a ++ strOf b = strOf (a ++ b) := by
  unfold strOf; rw [ByteArray.mk_append_mk, List.map_append]

def hexd (n : Nat) : Nat := if n < 10 then 48 + n else 87 + n
def isPlain (c : Nat) : Bool := decide (33 ≤ c) && decide (c ≤ 126) && !(c == 92)
/-- A byte's part of a quoted text. -/
def oneS (c : Nat) : List Nat := if isPlain c = true then [c] else [92, 120, hexd (c / 16), hexd (c % 16)]
/-- A byte's text within a class. -/
def chrS (c : Nat) : List Nat := if c = 10 then [92, 110] else if c = 9 then [92, 116] else if c = 13 then [92, 114] else if isSpecial c = true then [92, c] else oneS c
theorem oneS_len (c : Nat) : (oneS c).length ≤ 4 := by unfold oneS; split <;> simp
theorem chrS_len (c : Nat) : (chrS c).length ≤ 4 := by unfold chrS; have := oneS_len c; split <;> (try split) <;> (try split) <;> (try split) <;> simp_all

theorem foldl_push (ns : List Nat) : ∀ acc : ByteArray, (ns.map (fun n : Nat => (n : Int))).foldl (fun r n => r.push (UInt8.ofNat n.toNat)) acc = acc ++ strOf ns := by
  induction ns with
  | nil => intro acc; apply ByteArray.ext; simp [strOf]
  | cons n ns ih =>
    intro acc
    rw [List.map_cons, List.foldl_cons, ih]
    apply ByteArray.ext
    simp [strOf, ByteArray.push]

theorem run_str (w : World) (a : Addr) (cap : Nat) (ns : List Nat) (h : ∀ j u, (ns.map (fun n : Nat => Value.int .u8 (n : Int)))[j]? = some u → w.cell? (a.add j) = some u) :
    (convert 22 9 (.slice (some a) ns.length cap)).run Tryd.prog w = .ok (.string (strOf ns)) w := by
  rw [run_convert_bytes_string w _ _ 5 (some a) _ _ Tryd.underlying22 Tryd.underlying5 Tryd.underlying9]
  have hl := run_loadCells_list (P := Tryd.prog) w a (ns.map (fun n : Nat => Value.int .u8 (n : Int))) h
  rw [List.length_map] at hl
  rw [run_bytesToString w a ns.length cap (ns.map (fun n : Nat => (n : Int))) (by rw [hl, List.map_map]; rfl), foldl_push]
  congr 2

theorem run_str4 (w : World) (a b c d : Nat) : (convert 22 9 (.slice (some ⟨w.heap.size, 0, none⟩) 4 4)).run Tryd.prog (w.alloc (.cells #[.int .u8 (a : Int), .int .u8 (b : Int), .int .u8 (c : Int), .int .u8 (d : Int)] 5)).drew =
    .ok (.string (strOf [a, b, c, d])) (w.alloc (.cells #[.int .u8 (a : Int), .int .u8 (b : Int), .int .u8 (c : Int), .int .u8 (d : Int)] 5)).drew :=
  run_str _ ⟨w.heap.size, 0, none⟩ 4 [a, b, c, d] (fun j u hu => by
    have hb := (Blk.new w 5 #[.int .u8 (a : Int), .int .u8 (b : Int), .int .u8 (c : Int), .int .u8 (d : Int)]).drew
    match j, hu with
    | 0, hu => simp at hu; subst hu; exact hb.cell 0
    | 1, hu => simp at hu; subst hu; exact hb.cell 1
    | 2, hu => simp at hu; subst hu; exact hb.cell 2
    | 3, hu => simp at hu; subst hu; exact hb.cell 3
    | j + 4, hu => simp at hu)
@[go_sem] theorem run_str4_92 (w : World) (c d : Nat) : (convert 22 9 (.slice (some ⟨w.heap.size, 0, none⟩) 4 4)).run Tryd.prog (w.alloc (.cells #[.int .u8 92, .int .u8 120, .int .u8 (c : Int), .int .u8 (d : Int)] 5)).drew =
    .ok (.string (strOf [92, 120, c, d])) (w.alloc (.cells #[.int .u8 92, .int .u8 120, .int .u8 (c : Int), .int .u8 (d : Int)] 5)).drew := run_str4 w 92 120 c d

theorem digit_go (n : Int) (w : World) (h0 : 0 ≤ n) (h1 : n < 16) :
    Calls Tryd.prog 63 #[.int .i64 n] w fun e w' => e = .returned (.int .u8 (hexd n.toNat : Nat)) ∧ w = w' := by
  obtain ⟨k, rfl⟩ := Int.eq_ofNat_of_zero_le h0
  have H : Hid (∀ k : Fin 16, ((sixteen[k.val]'(by show k.val < 16; exact k.2)).toNat : Int) = (hexd k.val : Nat)) := by show ∀ k : Fin 16, _; decide +kernel
  have hk : k < 16 := by omega
  go_enter Tryd.func63, Tryd.ntmps63
  go_wp2
  go_light
  go_ret
  exact ⟨ret_i (H.out ⟨k, hk⟩), rfl⟩

theorem plain_words : ∀ c : Fin 256, ((if c.val < 64 then 18446744065119617024 else if c.val < 128 then 9223372036586340351 else 0) / 2 ^ (c.val % 64)) % 2 = (isPlain c.val).toNat := by decide +kernel
theorem plain_bit (K n : Nat) (hn : n < 256) (hK : K = if n < 64 then 18446744065119617024 else if n < 128 then 9223372036586340351 else 0) : (bits .and .u64 ((K : Int) / 2 ^ (n % 64)) 1 == 1) = isPlain n := by
  have h := plain_words ⟨n, hn⟩
  dsimp only at h
  rw [← hK] at h
  have hK' : K < 18446744073709551616 := by rw [hK]; split <;> (try split) <;> decide
  rw [show ((K : Int) / 2 ^ (n % 64)) = ((K / 2 ^ (n % 64) : Nat) : Int) by simp]
  exact and1 _ (Nat.lt_of_le_of_lt (Nat.div_le_self _ _) hK') _ h

set_option maxHeartbeats 800000 in
theorem plain_go (c : Int) (w : World) (h0 : 0 ≤ c) (h1 : c < 256) :
    Calls Tryd.prog 62 #[.int .u8 c] w fun e w' => e = .returned (.bool (isPlain c.toNat)) ∧ Below w.heap.size w w' := by
  obtain ⟨n, rfl⟩ := Int.eq_ofNat_of_zero_le h0
  have hn : n < 256 := by omega
  obtain hq | hq | hq | hq : n / 64 = 0 ∨ n / 64 = 1 ∨ n / 64 = 2 ∨ n / 64 = 3 := by omega
  · go_enter Tryd.func62, Tryd.ntmps62
    go_wp2
    go_light
    go_ret
    refine ⟨ret_b ?_, (Below.refl _ _).alloc (Nat.le_refl _) _⟩
    rw [Int.toNat_natCast, ← plain_bit 18446744065119617024 n hn (by rw [if_pos (by omega)])]
    rfl
  · go_enter Tryd.func62, Tryd.ntmps62
    go_wp2
    go_light
    go_ret
    refine ⟨ret_b ?_, (Below.refl _ _).alloc (Nat.le_refl _) _⟩
    rw [Int.toNat_natCast, ← plain_bit 9223372036586340351 n hn (by rw [if_neg (by omega), if_pos (by omega)])]
    rfl
  · go_enter Tryd.func62, Tryd.ntmps62
    go_wp2
    go_light
    go_ret
    refine ⟨ret_b ?_, (Below.refl _ _).alloc (Nat.le_refl _) _⟩
    rw [Int.toNat_natCast, ← plain_bit 0 n hn (by rw [if_neg (by omega), if_neg (by omega)])]
    simp
  · go_enter Tryd.func62, Tryd.ntmps62
    go_wp2
    go_light
    go_ret
    refine ⟨ret_b ?_, (Below.refl _ _).alloc (Nat.le_refl _) _⟩
    rw [Int.toNat_natCast, ← plain_bit 0 n hn (by rw [if_neg (by omega), if_neg (by omega)])]
    simp

theorem rplain_go (c : Int) (w : World) (h0 : 0 ≤ c) (h1 : c < 256) :
    Calls Tryd.prog 64 #[.int .u8 c] w fun e w' => e = .returned (.bool (isPlain c.toNat)) ∧ w = w' := by
  obtain ⟨n, rfl⟩ := Int.eq_ofNat_of_zero_le h0
  go_enter Tryd.func64, Tryd.ntmps64
  go_wp2
  all_goals go_light
  all_goals go_ret
  all_goals refine ⟨ret_b ?_, rfl⟩
  all_goals (rw [Bool.eq_iff_iff]; simp [isPlain]; omega)

theorem digitOf (k : Nat) (h : k < sixteen.size) : ((sixteen[k]).toNat : Int) = (hexd k : Nat) := by
  have H : ∀ k : Fin 16, ((sixteen[k.val]'(by show k.val < 16; exact k.2)).toNat : Int) = (hexd k.val : Nat) := by decide +kernel
  exact H ⟨k, h⟩

set_option maxHeartbeats 800000 in
theorem one_go (c : Int) (w : World) (h0 : 0 ≤ c) (h1 : c < 256) :
    Calls Tryd.prog 45 #[.int .u8 c] w fun e w' => e = .returned (.string (strOf (oneS c.toNat))) ∧ Below w.heap.size w w' := by
  obtain ⟨n, rfl⟩ := Int.eq_ofNat_of_zero_le h0
  rw [Int.toNat_natCast]
  have hn : n < 256 := by omega
  cases hp : isPlain n
  · have HV : Hid (oneS n = [92, 120, hexd (n / 16), hexd (n % 16)]) := by show oneS n = _; unfold oneS; rw [hp]; rfl
    rw [HV.out]
    go_enter Tryd.func45, Tryd.ntmps45
    go_wp2_with (go_at_call 64; refine (rplain_go _ _ (by omega) (by omega)).mono ?_; rintro e w2 ⟨rfl, rfl⟩)
    have q0 : (0 : Int) ≤ (n : Int) / 16 := by omega
    have q1 : (n : Int) / 16 < 16 := by omega
    have q2 : (0 : Int) ≤ (n : Int) % 16 := by omega
    have q3 : (n : Int) % 16 < 16 := by omega
    have k1 : n / 16 < sixteen.size := by show n / 16 < 16; omega
    have k2 : n % 16 < sixteen.size := by show n % 16 < 16; omega
    have d1 : (sixteen[n / 16]).toNat = hexd (n / 16) := by have := digitOf _ k1; omega
    have d2 : (sixteen[n % 16]).toNat = hexd (n % 16) := by have := digitOf _ k2; omega
    have D1 := Lib.hid d1
    have D2 := Lib.hid d2
    clear d1 d2
    have w1 : IntKind.u8.wrap ((n : Int) / 16) = (n : Int) / 16 := IntWalk.u8_in _ (by omega)
    have t1 : ((n : Int) / 16).toNat = n / 16 := by omega
    have t2 : ((n : Int) % 16).toNat = n % 16 := by omega
    have m1 : (n : Int).tmod 16 = (n : Int) % 16 := Int.tmod_eq_emod_of_nonneg (by omega)
    have m2 : IntKind.u8.wrap ((n : Int) % 16) = (n : Int) % 16 := IntWalk.u8_in _ (by omega)
    go_region_with (fail)
    all_goals clear w1 m1 m2
    all_goals go_wp2
    all_goals go_light
    all_goals go_ret
    all_goals refine ⟨?_, ((Below.refl _ _).alloc (Nat.le_refl _) _).drew⟩
    all_goals
      show Ending.returned (.string (strOf [92, 120, (sixteen[n / 16]).toNat, (sixteen[n % 16]).toNat])) = _
      rw [D1.out, D2.out]
  · have HV : Hid (oneS n = [n]) := by show oneS n = _; unfold oneS; rw [hp]; rfl
    rw [HV.out]
    have hs : (convert 22 9 (.slice (some ⟨w.heap.size, 0, none⟩) 1 1)).run Tryd.prog (w.alloc (.cells #[.int .u8 (n : Int)] 5)) = .ok (.string (strOf [n])) (w.alloc (.cells #[.int .u8 (n : Int)] 5)) := run_str (w.alloc (.cells #[.int .u8 (n : Int)] 5)) ⟨w.heap.size, 0, none⟩ 1 [n] (by
      intro j u hu
      match j, hu with
      | 0, hu => simp at hu; subst hu; exact (Blk.new w _ #[.int .u8 (n : Int)]).cell 0
      | j + 1, hu => simp at hu)
    go_enter Tryd.func45, Tryd.ntmps45
    go_wp2_with (go_at_call 64; refine (rplain_go _ _ (by omega) (by omega)).mono ?_; rintro e w2 ⟨rfl, rfl⟩)
    go_light
    go_ret
    exact ⟨rfl, (Below.refl _ _).alloc (Nat.le_refl _) _⟩

end Go.Proofs.YtkelkadalikibaaDoor
