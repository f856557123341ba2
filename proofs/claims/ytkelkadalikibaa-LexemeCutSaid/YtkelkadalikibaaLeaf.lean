/-
  The contracts of the leaves of package class and quote, and of their references: questions on one byte, on one place.
-/
import Derived.Test.YtkelkadalikibaaSets
import Derived.Deep.QuietTactic
import Derived.BigQuiet
import Derived.Lib.Hide
namespace Go.Proofs.Ytkelkadalikibaa
open Go.RowKit
set_option linter.unusedSimpArgs false
set_option linter.unusedVariables false
set_option maxRecDepth 100000

theorem special_go (c : Int) (w : World) (h0 : 0 ≤ c) (h1 : c < 256) :
    Calls Try.prog 115 #[.int .u8 c] w fun e w' => e = .returned (.bool (isSpecial c.toNat)) ∧ w = w' := by
  obtain ⟨n, rfl⟩ := Int.eq_ofNat_of_zero_le h0
  go_enter Try.func115, Try.ntmps115
  go_wp2
  all_goals go_light
  all_goals go_ret
  all_goals refine ⟨ret_b ?_, rfl⟩
  all_goals simp at *
  all_goals simp [isSpecial]
  all_goals omega

theorem rspecial_go (c : Int) (w : World) (h0 : 0 ≤ c) (h1 : c < 256) :
    Calls Try.prog 98 #[.int .u8 c] w fun e w' => e = .returned (.bool (isSpecial c.toNat)) ∧ w = w' := by
  obtain ⟨n, rfl⟩ := Int.eq_ofNat_of_zero_le h0
  go_enter Try.func98, Try.ntmps98
  go_wp2
  all_goals go_light
  all_goals go_ret
  all_goals refine ⟨ret_b ?_, rfl⟩
  all_goals (rw [Bool.eq_iff_iff]; simp [isSpecial]; omega)

theorem or32 (n : Nat) (h : n < 256) : (97 ≤ (n ||| 32) ∧ (n ||| 32) ≤ 122) ↔ ((97 ≤ n ∧ n ≤ 122) ∨ (65 ≤ n ∧ n ≤ 90)) := by
  have H : ∀ c : Fin 256, (97 ≤ (c.val ||| 32) ∧ (c.val ||| 32) ≤ 122) ↔ ((97 ≤ c.val ∧ c.val ≤ 122) ∨ (65 ≤ c.val ∧ c.val ≤ 90)) := by decide +kernel
  exact H ⟨n, h⟩

theorem letter_go (c : Int) (w : World) (h0 : 0 ≤ c) (h1 : c < 256) :
    Calls Try.prog 111 #[.int .u8 c] w fun e w' => e = .returned (.bool (isWord c.toNat)) ∧ w = w' := by
  obtain ⟨n, rfl⟩ := Int.eq_ofNat_of_zero_le h0
  have hm := or32 n (by omega)
  have he : bits BinOp.or IntKind.u8 (n : Int) 32 = ((n ||| 32 : Nat) : Int) := u8_or_nat n 32 (by omega) (by decide)
  have Hm := Lib.hid hm
  have He := Lib.hid he
  clear hm he
  go_enter Try.func111, Try.ntmps111
  go_wp2
  all_goals go_light
  all_goals go_ret
  all_goals refine ⟨ret_b ?_, rfl⟩
  all_goals (rw [Bool.eq_iff_iff]; simp [isWord]; have h1 := Hm.out; have h2 := He.out; generalize bits BinOp.or IntKind.u8 (n : Int) 32 = m at *; generalize n ||| 32 = k at *; omega)

theorem word_go (c : Int) (w : World) (h0 : 0 ≤ c) (h1 : c < 256) :
    Calls Try.prog 79 #[.int .u8 c] w fun e w' => e = .returned (.bool (isWord c.toNat)) ∧ w = w' := by
  obtain ⟨n, rfl⟩ := Int.eq_ofNat_of_zero_le h0
  go_enter Try.func79, Try.ntmps79
  go_wp2
  all_goals go_light
  all_goals go_ret
  all_goals refine ⟨ret_b ?_, rfl⟩
  all_goals (rw [Bool.eq_iff_iff]; simp [isWord]; omega)

theorem value_go (c : Int) (w : World) (h0 : 0 ≤ c) (h1 : c < 256) :
    Calls Try.prog 110 #[.int .u8 c] w fun e w' => e = .returned (.int .i64 (digVal c.toNat)) ∧ w = w' := by
  obtain ⟨n, rfl⟩ := Int.eq_ofNat_of_zero_le h0
  go_enter Try.func110, Try.ntmps110
  go_wp2
  all_goals go_light
  all_goals go_ret
  all_goals refine ⟨ret_i ?_, rfl⟩
  all_goals (simp [digVal]; (try split) <;> (try split) <;> omega)

def sixteen : ByteArray := { data := #[48, 49, 50, 51, 52, 53, 54, 55, 56, 57, 97, 98, 99, 100, 101, 102] }
theorem digitAt (k : Nat) (h : k < sixteen.size) (n : Nat) (hn : n < 256) : (sixteen[k]).toNat = n ↔ digVal n = (k : Int) := by
  have H : ∀ (k : Fin 16) (n : Fin 256), (sixteen.data[k.val]?.getD 0).toNat = n.val ↔ digVal n.val = (k.val : Int) := by decide +kernel
  have e : sixteen[k] = sixteen.data[k]?.getD 0 := by
    have h' : k < sixteen.data.size := h
    rw [show sixteen[k] = sixteen.data[k] from rfl, Array.getElem?_eq_getElem h', Option.getD_some]
  rw [e]
  exact H ⟨k, h⟩ ⟨n, hn⟩

theorem rvalue_go (c : Int) (w : World) (h0 : 0 ≤ c) (h1 : c < 256) :
    Calls Try.prog 78 #[.int .u8 c] w fun e w' => e = .returned (.int .i64 (digVal c.toNat)) ∧ w = w' := by
  obtain ⟨n, rfl⟩ := Int.eq_ofNat_of_zero_le h0
  go_enter Try.func78, Try.ntmps78
  go_wp2
  go_loop [3] (fun i => ∃ k : Nat, i = .int .i64 k ∧ k ≤ 16 ∧ Hid (∀ j : Nat, j < k → digVal n ≠ (j : Int))) (fun i => 16 - (intOf i).toNat)
  case atStart => exact ⟨0, rfl, by omega, fun j hj => by omega⟩
  case round =>
    obtain ⟨k, rfl, hk, H⟩ := hrel
    by_cases hlt : k < 16
    · have hd := digitAt k (by show k < 16; omega) n (by omega)
      have Hd := Lib.hid hd
      clear hd
      go_wp2
      · have h : (((sixteen[k]'(by show k < 16; omega)).toNat : Int) == (n : Int)) = true := by assumption
        go_light
        go_ret
        refine ⟨ret_i ?_, rfl⟩
        exact (Hd.out.1 (by have := beq_iff_eq.1 h; omega)).symm
      · have h : (((sixteen[k]'(by show k < 16; omega)).toNat : Int) == (n : Int)) = false := by assumption
        go_light
        go_round
        case rel =>
          refine ⟨k + 1, by go_num, by omega, fun j hj => ?_⟩
          by_cases e : j = k
          · subst e
            intro hv
            have := Hd.out.2 hv
            rw [this] at h
            simp at h
          · exact H.out j (by omega)
        case measure => simp [intOf]; omega
    · go_wp2
      go_light
      go_ret
      refine ⟨ret_i ?_, rfl⟩
      have hb := digVal_bd n
      rcases Int.lt_or_le (digVal n) 0 with h | h
      · omega
      · exact absurd (Int.toNat_of_nonneg h).symm (H.out _ (by omega))

/-- A reader, as it lies in block g. -/
def Rd (w : World) (g : Nat) (A : Option Addr) (cap : Nat) (bs : List Nat) (i start kind place : Int) : Prop :=
  Blk w g 114 #[.slice A bs.length cap, .int .i64 i, .int .i64 start, .int .i64 kind, .int .i64 place]
theorem Rd.cells {w : World} {g : Nat} {A : Option Addr} {cap : Nat} {bs : List Nat} {i start kind place : Int} (h : Rd w g A cap bs i start kind place) :
    w.cell? ⟨g, 0, none⟩ = some (.slice A bs.length cap) ∧ w.cell? ⟨g, 1, none⟩ = some (.int .i64 i) ∧ w.cell? ⟨g, 2, none⟩ = some (.int .i64 start) ∧ w.cell? ⟨g, 3, none⟩ = some (.int .i64 kind) ∧ w.cell? ⟨g, 4, none⟩ = some (.int .i64 place) ∧
    w.frozen? ⟨g, 1, none⟩ = false ∧ w.frozen? ⟨g, 3, none⟩ = false ∧ w.frozen? ⟨g, 4, none⟩ = false :=
  ⟨Blk.cell h 0, Blk.cell h 1, Blk.cell h 2, Blk.cell h 3, Blk.cell h 4, Blk.frozen h 1, Blk.frozen h 3, Blk.frozen h 4⟩
theorem Rd.lt {w : World} {g : Nat} {A : Option Addr} {cap : Nat} {bs : List Nat} {i start kind place : Int} (h : Rd w g A cap bs i start kind place) : g < w.heap.size := Blk.lt h
theorem Rd.move {w : World} {g : Nat} {A : Option Addr} {cap : Nat} {bs : List Nat} {i start kind place : Int} (h : Rd w g A cap bs i start kind place) (j : Int) : Rd (w.setCell ⟨g, 1, none⟩ (.int .i64 j)) g A cap bs j start kind place := Blk.set_ h 1 _
theorem Rd.fail {w : World} {g : Nat} {A : Option Addr} {cap : Nat} {bs : List Nat} {i start kind place : Int} (h : Rd w g A cap bs i start kind place) (k p : Int) : Rd ((w.setCell ⟨g, 3, none⟩ (.int .i64 k)).setCell ⟨g, 4, none⟩ (.int .i64 p)) g A cap bs i start k p :=
  Blk.set_ (Blk.set_ h 3 _) 4 _
theorem Rd.drewN {w : World} {g : Nat} {A : Option Addr} {cap : Nat} {bs : List Nat} {i start kind place : Int} (h : Rd w g A cap bs i start kind place) (n : Nat) : Rd (w.drewN n) g A cap bs i start kind place := h
/-- The place of a reader, as it lies in block g: the bytes and where it stands. -/
theorem here_go (g : Nat) (A : Option Addr) (cap : Nat) (bs : List Nat) (i start kind place : Int) (c : Int) (B : Nat) (w : World) (hr : Rd w g A cap bs i start kind place)
    (hA : BytesAt w B A bs) (hc0 : 0 ≤ c) (hc1 : c < 256) :
    Calls Try.prog 91 #[.pointer (some ⟨g, 0, none⟩), .int .u8 c] w fun e w' => e = .returned (.bool (hasAt bs i c.toNat)) ∧ ∃ n, w' = w.drewN n := by
  obtain ⟨c, rfl⟩ := Int.eq_ofNat_of_zero_le hc0
  rw [Int.toNat_natCast]
  have hc : c < 256 := by omega
  obtain ⟨h0, h1, _, _, _, _, _, _⟩ := hr.cells
  clear hr
  obtain ⟨hb, hl, hA⟩ := hA
  by_cases hneg : i < 0
  · have hd : decide (0 ≤ i) = false := by simp; omega
    have H := Lib.hid (hasAt_neg (bs := bs) c hneg)
    clear hA
    go_enter Try.func91, Try.ntmps91
    go_wp2
    go_quiet (fail)
    go_wp2
    go_light
    go_ret
    exact ⟨ret_b H.out.symm, _, rfl⟩
  · by_cases hout : (bs.length : Int) ≤ i
    · have hd : decide (i < (bs.length : Int)) = false := by simp; omega
      have H := Lib.hid (hasAt_out (bs := bs) c hout)
      clear hA
      go_enter Try.func91, Try.ntmps91
      go_wp2
      go_quiet (fail)
      go_wp2
      go_light
      go_ret
      exact ⟨ret_b H.out.symm, _, rfl⟩
    · obtain ⟨k, rfl⟩ := Int.eq_ofNat_of_zero_le (show 0 ≤ i by omega)
      obtain ⟨b, o, rfl, hbB, hcell⟩ := hA (by omega)
      have hk := hcell k (by omega)
      have hlt := byteAt_lt hb k
      have hp : (0 : Int) ≤ (k : Int) := by omega
      have hq : (k : Int) < (bs.length : Int) := by omega
      have H := Lib.hid (hasAt_in (bs := bs) c (show k < bs.length by omega))
      clear hcell
      go_enter Try.func91, Try.ntmps91
      go_wp2
      go_quiet (fail)
      go_wp2
      go_light
      go_ret
      refine ⟨ret_b ?_, _, rfl⟩
      rw [H.out, Bool.eq_iff_iff]
      simp
      try omega

theorem only_refl (w : World) (r : Option Nat) : w.grownBy w r := ⟨rfl, rfl, rfl, Nat.le_refl _, fun _ _ _ => rfl⟩
theorem only_drewN {a w : World} {row : Option Nat} (h : a.grownBy w row) (n : Nat) : a.grownBy (w.drewN n) row := ⟨h.os, h.tape, h.output, h.size, h.block⟩
theorem only_drew {a w : World} {row : Option Nat} (h : a.grownBy w row) : a.grownBy w.drew row := ⟨h.os, h.tape, h.output, h.size, h.block⟩
theorem only_set {a w : World} {g : Nat} (h : a.grownBy w (some g)) (o : Nat) (u : Value) : a.grownBy (w.setCell ⟨g, o, none⟩ u) (some g) :=
  ⟨h.os, h.tape, h.output, by simpa [World.setCell] using h.size, fun i hi hne => (Below.heap_setCell w ⟨g, o, none⟩ u i (by rintro rfl; exact hne rfl)).trans (h.block i hi hne)⟩
theorem only_set' {a w : World} {g g' : Nat} (h : a.grownBy w (some g)) (hg : a.heap.size ≤ g') (o : Nat) (u : Value) : a.grownBy (w.setCell ⟨g', o, none⟩ u) (some g) :=
  ⟨h.os, h.tape, h.output, by simpa [World.setCell] using h.size, fun i hi hne => (Below.heap_setCell w ⟨g', o, none⟩ u i (by dsimp only; omega)).trans (h.block i hi hne)⟩
theorem only_alloc {a w : World} {row : Option Nat} (h : a.grownBy w row) (o : Obj) : a.grownBy (w.alloc o) row :=
  ⟨h.os, h.tape, h.output, Nat.le_trans h.size (by simp), fun i hi hne => (Below.heap_alloc w o i (Nat.lt_of_lt_of_le hi h.size)).trans (h.block i hi hne)⟩
theorem only_trans {a b c : World} {row : Option Nat} (h : a.grownBy b row) (k : b.grownBy c row) : a.grownBy c row :=
  ⟨k.os.trans h.os, k.tape.trans h.tape, k.output.trans h.output, Nat.le_trans h.size k.size, fun i hi hne => (k.block i (Nat.lt_of_lt_of_le hi h.size) hne).trans (h.block i hi hne)⟩
theorem only_below {a b c : World} {row : Option Nat} (h : a.grownBy b row) (k : Below b.heap.size b c) : a.grownBy c row :=
  ⟨k.os.trans h.os, k.tape.trans h.tape, k.output.trans h.output, Nat.le_trans h.size k.size, fun i hi hne => (k.block i (Nat.lt_of_lt_of_le hi h.size)).trans (h.block i hi hne)⟩

theorem take_go (g : Nat) (A : Option Addr) (cap : Nat) (bs : List Nat) (i start kind place : Int) (c : Int) (B : Nat) (w : World) (hr : Rd w g A cap bs i start kind place) (hA : BytesAt w B A bs) (hc0 : 0 ≤ c) (hc1 : c < 256) :
    Calls Try.prog 93 #[.pointer (some ⟨g, 0, none⟩), .int .u8 c] w fun e w' => e = .returned (.bool (hasAt bs i c.toNat)) ∧
      Rd w' g A cap bs (if hasAt bs i c.toNat = true then i + 1 else i) start kind place ∧ w.grownBy w' (some g) := by
  obtain ⟨c, rfl⟩ := Int.eq_ofNat_of_zero_le hc0
  rw [Int.toNat_natCast]
  obtain ⟨c0, c1, c2, c3, c4, f1, f3, f4⟩ := hr.cells
  have Hr := Lib.hid hr
  have HA := Lib.hid hA
  clear hr hA
  by_cases hh : hasAt bs i c = true
  · obtain ⟨k, hi, hk, hkc⟩ := hasAt_yes hh
    obtain rfl : i = (k : Int) := hi
    have hl := HA.out.2.1
    have Hh := Lib.hid hkc
    clear hkc
    go_enter Try.func93, Try.ntmps93
    go_wp2_with (go_at_call 91; refine (here_go g A cap bs (k : Int) _ _ _ c B _ Hr.out HA.out (by omega) (by omega)).mono ?_; rintro e w1 ⟨rfl, n1, rfl⟩)
    go_light
    go_ret
    exact ⟨rfl, (Hr.out.drewN n1).move _, only_set (only_drewN (only_refl _ _) _) _ _⟩
  · have hf : hasAt bs i c = false := by simpa using hh
    go_enter Try.func93, Try.ntmps93
    go_wp2_with (go_at_call 91; refine (here_go g A cap bs i _ _ _ c B _ Hr.out HA.out (by omega) (by omega)).mono ?_; rintro e w1 ⟨rfl, n1, rfl⟩)
    go_light
    go_ret
    exact ⟨rfl, Hr.out.drewN n1, only_drewN (only_refl _ _) _⟩

theorem left_go (g : Nat) (A : Option Addr) (cap : Nat) (bs : List Nat) (i start kind place : Int) (w : World) (hr : Rd w g A cap bs i start kind place) (hl : bs.length ≤ 140737488355328) (h0 : 0 ≤ i) (h1 : i ≤ (bs.length : Int)) :
    Calls Try.prog 108 #[.pointer (some ⟨g, 0, none⟩)] w fun e w' => e = .returned (.int .i64 ((bs.length : Int) - i)) ∧ ∃ n, w' = w.drewN n := by
  obtain ⟨c0, c1, c2, c3, c4, f1, f3, f4⟩ := hr.cells
  clear hr
  go_enter Try.func108, Try.ntmps108
  go_wp2
  go_quiet (fail)
  go_wp2
  go_light
  go_ret
  refine ⟨ret_i ?_, _, rfl⟩
  simp
  first | omega | (rw [IntKind.wrap_i64]; omega) | trace_state

theorem fail_go (g : Nat) (A : Option Addr) (cap : Nat) (bs : List Nat) (i start kind place k p : Int) (w : World) (hr : Rd w g A cap bs i start kind place) :
    Calls Try.prog 109 #[.pointer (some ⟨g, 0, none⟩), .int .i64 k, .int .i64 p] w fun e w' => e = .returned (.tuple #[]) ∧
      Rd w' g A cap bs i start (if kind = 0 then k else kind) (if kind = 0 then p else place) ∧ w.grownBy w' (some g) := by
  obtain ⟨c0, c1, c2, c3, c4, f1, f3, f4⟩ := hr.cells
  have Hr := Lib.hid hr
  clear hr
  by_cases hk : kind = 0
  · subst hk
    go_enter Try.func109, Try.ntmps109
    go_wp2
    go_light
    go_end0
    exact ⟨rfl, Hr.out.fail k p, only_set (only_set (only_refl _ _) _ _) _ _⟩
  · have hb : (kind == 0) = false := by simpa using hk
    go_enter Try.func109, Try.ntmps109
    go_wp2
    go_light
    go_end0
    exact ⟨rfl, Hr.out, only_refl _ _⟩

theorem take_yes (g : Nat) (A : Option Addr) (cap : Nat) (bs : List Nat) (i start kind place : Int) (c : Int) (B : Nat) (w : World) (hr : Rd w g A cap bs i start kind place) (hA : BytesAt w B A bs) (hc0 : 0 ≤ c) (hc1 : c < 256) (h : hasAt bs i c.toNat = true) :
    Calls Try.prog 93 #[.pointer (some ⟨g, 0, none⟩), .int .u8 c] w fun e w' => e = .returned (.bool true) ∧ Rd w' g A cap bs (i + 1) start kind place ∧ w.grownBy w' (some g) :=
  (take_go g A cap bs i start kind place c B w hr hA hc0 hc1).mono fun _ _ q => by simpa [h] using q
theorem take_no (g : Nat) (A : Option Addr) (cap : Nat) (bs : List Nat) (i start kind place : Int) (c : Int) (B : Nat) (w : World) (hr : Rd w g A cap bs i start kind place) (hA : BytesAt w B A bs) (hc0 : 0 ≤ c) (hc1 : c < 256) (h : hasAt bs i c.toNat = false) :
    Calls Try.prog 93 #[.pointer (some ⟨g, 0, none⟩), .int .u8 c] w fun e w' => e = .returned (.bool false) ∧ Rd w' g A cap bs i start kind place ∧ w.grownBy w' (some g) :=
  (take_go g A cap bs i start kind place c B w hr hA hc0 hc1).mono fun _ _ q => by simpa [h] using q

theorem fail0_go (g : Nat) (A : Option Addr) (cap : Nat) (bs : List Nat) (i start place k p : Int) (w : World) (hr : Rd w g A cap bs i start 0 place) :
    Calls Try.prog 109 #[.pointer (some ⟨g, 0, none⟩), .int .i64 k, .int .i64 p] w fun e w' => e = .returned (.tuple #[]) ∧ Rd w' g A cap bs i start k p ∧ w.grownBy w' (some g) :=
  (fail_go g A cap bs i start 0 place k p w hr).mono fun _ _ h => by simpa using h
theorem fail1_go (g : Nat) (A : Option Addr) (cap : Nat) (bs : List Nat) (i start kind place k p : Int) (w : World) (hr : Rd w g A cap bs i start kind place) (hk : kind ≠ 0) :
    Calls Try.prog 109 #[.pointer (some ⟨g, 0, none⟩), .int .i64 k, .int .i64 p] w fun e w' => e = .returned (.tuple #[]) ∧ Rd w' g A cap bs i start kind place ∧ w.grownBy w' (some g) :=
  (fail_go g A cap bs i start kind place k p w hr).mono fun _ _ h => by simpa [hk] using h

end Go.Proofs.Ytkelkadalikibaa
