/-
  The contracts of the reference's has, bad and Escape.
-/
import Derived.RegionTactic
import Derived.BigRegion
import Derived.Deep.RegionWith
import Derived.StillTailTactics
import Derived.Test.YtajohcknenngnaaGreatQEscapeX
namespace Go.Proofs.YtajohcknenngnaaGreat
open Go.RowKit
set_option linter.unusedSimpArgs false
set_option linter.unusedVariables false
set_option maxRecDepth 100000

theorem rhasb_go (A : Option Addr) (cap : Nat) (bs : List Nat) (i : Int) (c : Int) (B : Nat) (w : World) (hA : BytesAt w B A bs) (hc0 : 0 ≤ c) (hc1 : c < 256) :
    Calls Tryz.prog 126 #[.slice A bs.length cap, .int .i64 i, .int .u8 c] w fun e w' => e = .returned (.bool (hasAt bs i c.toNat)) ∧ w = w' := by
  obtain ⟨c, rfl⟩ := Int.eq_ofNat_of_zero_le hc0
  rw [Int.toNat_natCast]
  obtain ⟨hb, hl, hA⟩ := hA
  by_cases hneg : i < 0
  · have hd : decide (0 ≤ i) = false := by simp; omega
    have H := Lib.hid (hasAt_neg (bs := bs) c hneg)
    clear hA
    go_enter Tryz.func126, Tryz.ntmps126
    go_wp2
    go_light
    go_ret
    exact ⟨ret_b H.out.symm, rfl⟩
  · by_cases hout : (bs.length : Int) ≤ i
    · have hd : decide (i < (bs.length : Int)) = false := by simp; omega
      have H := Lib.hid (hasAt_out (bs := bs) c hout)
      clear hA
      go_enter Tryz.func126, Tryz.ntmps126
      go_wp2
      go_light
      go_ret
      exact ⟨ret_b H.out.symm, rfl⟩
    · obtain ⟨k, rfl⟩ := Int.eq_ofNat_of_zero_le (show 0 ≤ i by omega)
      obtain ⟨b, o, rfl, hbB, hcell⟩ := hA (by omega)
      have hk := hcell k (by omega)
      have hlt := byteAt_lt hb k
      have hp : (0 : Int) ≤ (k : Int) := by omega
      have hq : (k : Int) < (bs.length : Int) := by omega
      have H := Lib.hid (hasAt_in (bs := bs) c (show k < bs.length by omega))
      clear hcell
      go_enter Tryz.func126, Tryz.ntmps126
      go_wp2
      go_light
      go_ret
      refine ⟨ret_b ?_, rfl⟩
      rw [H.out, Bool.eq_iff_iff]
      simp
      try omega

theorem rhasb_is (A : Option Addr) (cap : Nat) (bs : List Nat) (i : Int) (c : Int) (v : Bool) (B : Nat) (w : World) (hA : BytesAt w B A bs) (hc0 : 0 ≤ c) (hc1 : c < 256) (h : hasAt bs i c.toNat = v) :
    Calls Tryz.prog 126 #[.slice A bs.length cap, .int .i64 i, .int .u8 c] w fun e w' => e = .returned (.bool v) ∧ w = w' :=
  (rhasb_go A cap bs i c B w hA hc0 hc1).mono fun _ _ q => by rw [h] at q; exact q

theorem ret_bad {fn : Func} {t : Tmp} (h : fn.results = #[.cell t 26]) {tmps : Array Value} {w : World} {g : Nat} {a b : Value} (hp : tmps.getD t undef = .pointer (some ⟨g, 0, none⟩)) (hb : Blk w g 26 #[a, b]) :
    (results fn tmps).run Tryz.prog w = .ok (.agg #[a, b]) w :=
  results_cell_row h tmps w g _ _ _ _ hp hb Tryz.underlying26 rfl (by kernel_rfl)

theorem bad_go (k p : Int) (w : World) :
    Calls Tryz.prog 127 #[.int .i64 k, .int .i64 p] w fun e w' => e = .returned (.agg #[.int .i64 k, .int .i64 p]) ∧ Below w.heap.size w w' := by
  go_enter Tryz.func127, Tryz.ntmps127
  go_wp2
  go_light
  exact bodyPost_ret (ret_bad Tryz.results127 rfl (Blk.new_at rfl)) rfl ⟨rfl, (Below.refl _ _).alloc (Nat.le_refl _) _⟩

/-- The three results of Escape. -/
def escVal (bs : List Nat) (i : Int) : Value :=
  if hasAt bs i 92 = true then
    match escS bs i.toNat with
    | some (c, j) => .tuple #[.int .u8 (c : Int), .int .i64 (j : Int), .agg #[.int .i64 0, .int .i64 0]]
    | none => .tuple #[.int .u8 0, .int .i64 0, .agg #[.int .i64 14, .int .i64 i]]
  else .tuple #[.int .u8 0, .int .i64 0, .agg #[.int .i64 1, .int .i64 0]]
theorem escVal_no {bs : List Nat} {i : Int} (h : hasAt bs i 92 = false) : escVal bs i = .tuple #[.int .u8 0, .int .i64 0, .agg #[.int .i64 1, .int .i64 0]] := if_neg (by rw [h]; decide)
theorem escVal_some {bs : List Nat} {k : Nat} (h : hasAt bs (k : Int) 92 = true) {c j : Nat} (he : escS bs k = some (c, j)) : escVal bs (k : Int) = .tuple #[.int .u8 (c : Int), .int .i64 (j : Int), .agg #[.int .i64 0, .int .i64 0]] := by
  unfold escVal; rw [if_pos h, Int.toNat_natCast, he]
theorem escVal_none {bs : List Nat} {k : Nat} (h : hasAt bs (k : Int) 92 = true) (he : escS bs k = none) : escVal bs (k : Int) = .tuple #[.int .u8 0, .int .i64 0, .agg #[.int .i64 14, .int .i64 (k : Int)]] := by
  unfold escVal; rw [if_pos h, Int.toNat_natCast, he]

theorem ret_esc {fn : Func} {t4 t5 t6 : Tmp} (h : fn.results = #[.tmp t4, .tmp t5, .cell t6 26]) {tmps : Array Value} {w : World} {g' : Nat} {x y c i : Value}
    (hc : tmps.getD t4 undef = c) (hi : tmps.getD t5 undef = i) (hp' : tmps.getD t6 undef = .pointer (some ⟨g', 0, none⟩)) (hb' : Blk w g' 26 #[x, y]) :
    (results fn tmps).run Tryz.prog w = .ok (.tuple #[c, i, .agg #[x, y]]) w := by
  have h2 := run_loadVar_row (P := Tryz.prog) w g' 26 26 #[x, y] (0, 0) _ hb' Tryz.underlying26 rfl (by kernel_rfl)
  simp only [results, h]
  simp only [Array.getD_eq_getD_getElem?] at hc hi hp'
  simp [Sem.run_bind, hc, hi, hp', asAddr, h2, Result.andThen]

set_option maxHeartbeats 1000000 in
theorem resc_no (A : Option Addr) (cap : Nat) (bs : List Nat) (i : Int) (w : World) (hA : BytesAt w w.heap.size A bs) (h : hasAt bs i 92 = false) : Calls Tryz.prog 107 #[.slice A bs.length cap, .int .i64 i] w fun e w' => e = .returned (escVal bs i) ∧ Below w.heap.size w w' := by
  rw [escVal_no h]
  have H := Lib.hid h
  have HA := Lib.hid (hA.below ((Below.refl w.heap.size w).alloc (Nat.le_refl _) (.cells #[.int .i64 0, .int .i64 0] 26)))
  clear h hA
  go_enter Tryz.func107, Tryz.ntmps107
  go_wp2_with fail
  refine (rhasb_is A cap bs _ 92 false w.heap.size _ HA.out (by omega) (by omega) H.out).mono ?_
  rintro e w2 ⟨rfl, rfl⟩
  go_wp2_with (go_at_call 127; refine (bad_go _ _ _).mono ?_; rintro e w1 ⟨rfl, hb1⟩; obtain ⟨b0, b1, x0, x1⟩ := ((Blk.new w 26 #[.int .i64 0, .int .i64 0]).below hb1 (by simp)).c2)
  go_light
  refine bodyPost_ret (ret_esc Tryz.results107 rfl rfl rfl ((Blk.new w 26 #[.int .i64 0, .int .i64 0]).below hb1 (by simp)).set2) rfl ⟨rfl, ?_⟩
  exact below_set2 (((Below.refl w.heap.size w).alloc (Nat.le_refl _) _).trans (hb1.mono (by simp))) (Nat.le_refl _) _ _


set_option maxHeartbeats 1000000 in
theorem resc_end (A : Option Addr) (cap : Nat) (bs : List Nat) (i : Nat) (w : World) (hA : BytesAt w w.heap.size A bs) (h : hasAt bs (i : Int) 92 = true) (hi : bs.length = i + 1) : Calls Tryz.prog 107 #[.slice A bs.length cap, .int .i64 (i : Int)] w fun e w' => e = .returned (escVal bs (i : Int)) ∧ Below w.heap.size w w' := by
  rw [escVal_none h (escS_end (by omega))]
  have H := Lib.hid h
  have HA := Lib.hid (hA.below ((Below.refl w.heap.size w).alloc (Nat.le_refl _) (.cells #[.int .i64 0, .int .i64 0] 26)))
  have hl := hA.2.1
  have h1 : hasAt bs ((i : Int) + 1) 110 = false := hasAt_out _ (by omega)
  have h2 : hasAt bs ((i : Int) + 1) 116 = false := hasAt_out _ (by omega)
  have h3 : hasAt bs ((i : Int) + 1) 114 = false := hasAt_out _ (by omega)
  have h4 : hasAt bs ((i : Int) + 1) 120 = false := hasAt_out _ (by omega)
  have hge : (bs.length : Int) ≤ (i : Int) + 1 := by omega
  have hib : i < bs.length := by omega
  clear h hA hi
  go_enter Tryz.func107, Tryz.ntmps107
  go_wp2_with fail
  refine (rhasb_is A cap bs _ 92 true w.heap.size _ HA.out (by omega) (by omega) H.out).mono ?_
  rintro e w2 ⟨rfl, rfl⟩
  go_wp2_with (first
    | (go_at_call 126; refine (rhasb_go A cap bs _ _ w.heap.size _ HA.out (by omega) (by omega)).mono ?_; rintro e w2 ⟨rfl, rfl⟩)
    | (go_at_call 127; refine (bad_go _ _ _).mono ?_; rintro e w1 ⟨rfl, hb1⟩; obtain ⟨b0, b1, x0, x1⟩ := ((Blk.new w 26 #[.int .i64 0, .int .i64 0]).below hb1 (by simp)).c2))
  go_light
  refine bodyPost_ret (ret_esc Tryz.results107 rfl rfl rfl ((Blk.new w 26 #[.int .i64 0, .int .i64 0]).below hb1 (by simp)).set2) rfl ⟨rfl, ?_⟩
  exact below_set2 (((Below.refl w.heap.size w).alloc (Nat.le_refl _) _).trans (hb1.mono (by simp))) (Nat.le_refl _) _ _

/-- The escapes of one letter. -/
theorem resc_letter (A : Option Addr) (cap : Nat) (bs : List Nat) (i : Nat) (w : World) (hA : BytesAt w w.heap.size A bs) (h : hasAt bs (i : Int) 92 = true) (hi : i + 1 < bs.length) (c : Nat) (hc : byteAt bs (i + 1) = c) (hv : c = 110 ∨ c = 116 ∨ c = 114) : Calls Tryz.prog 107 #[.slice A bs.length cap, .int .i64 (i : Int)] w fun e w' => e = .returned (escVal bs (i : Int)) ∧ Below w.heap.size w w' := by
  have hat : ∀ k, hasAt bs ((i : Int) + 1) k = (c == k) := fun k => by rw [show (i : Int) + 1 = ((i + 1 : Nat) : Int) by omega, hasAt_in k hi, hc]
  have HV : Hid (escVal bs (i : Int) = .tuple #[.int .u8 (if c = 110 then 10 else if c = 116 then 9 else 13), .int .i64 ((i : Int) + 2), .agg #[.int .i64 0, .int .i64 0]]) := by
    show escVal _ _ = _
    rcases hv with rfl | rfl | rfl
    · rw [escVal_some h (escS_n hi hc)]; rfl
    · rw [escVal_some h (escS_t hi hc)]; rfl
    · rw [escVal_some h (escS_r hi hc)]; rfl
  have H := Lib.hid h
  have HA := Lib.hid (hA.below ((Below.refl w.heap.size w).alloc (Nat.le_refl _) (.cells #[.int .i64 0, .int .i64 0] 26)))
  have hl := hA.2.1
  have h1 := hat 110
  have h2 := hat 116
  have h3 := hat 114
  clear h hA hat hc
  rw [HV.out]
  rcases hv with rfl | rfl | rfl
  all_goals
    go_enter Tryz.func107, Tryz.ntmps107
    go_wp2_with fail
    refine (rhasb_is A cap bs _ 92 true w.heap.size _ HA.out (by omega) (by omega) H.out).mono ?_
    rintro e w2 ⟨rfl, rfl⟩
    go_wp2_with (go_at_call 126; refine (rhasb_go A cap bs _ _ w.heap.size _ HA.out (by omega) (by omega)).mono ?_; rintro e w2 ⟨rfl, rfl⟩)
    go_light
    refine bodyPost_ret (ret_esc Tryz.results107 rfl rfl rfl (Blk.new w 26 #[.int .i64 0, .int .i64 0])) rfl ⟨rfl, ?_⟩
    exact (Below.refl w.heap.size w).alloc (Nat.le_refl _) _

theorem rvalue_c (c : Nat) (w : World) (h1 : c < 256) : Calls Tryz.prog 128 #[.int .u8 (c : Int)] w fun e w' => e = .returned (.int .i64 (digVal c)) ∧ w = w' :=
  (rvalue_go c w (by omega) (by omega)).mono fun _ _ q => by rw [Int.toNat_natCast] at q; exact q

set_option maxHeartbeats 1000000 in
theorem resc_self (A : Option Addr) (cap : Nat) (bs : List Nat) (i : Nat) (w : World) (hA : BytesAt w w.heap.size A bs) (h : hasAt bs (i : Int) 92 = true) (hi : i + 1 < bs.length) (c : Nat) (hc : byteAt bs (i + 1) = c) (n1 : c ≠ 110) (n2 : c ≠ 116) (n3 : c ≠ 114) (n4 : c ≠ 120) (h5 : 33 ≤ c) (h6 : c ≤ 126) (h7 : isWord c = false) : Calls Tryz.prog 107 #[.slice A bs.length cap, .int .i64 (i : Int)] w fun e w' => e = .returned (escVal bs (i : Int)) ∧ Below w.heap.size w w' := by
  have HV : Hid (escVal bs (i : Int) = .tuple #[.int .u8 (c : Int), .int .i64 ((i : Int) + 2), .agg #[.int .i64 0, .int .i64 0]]) := by
    show escVal _ _ = _
    rw [escVal_some h (escS_self hi (by omega) (by omega) (by omega) (by omega) (by omega) (by omega) (by rw [hc]; exact h7)), hc]; rfl
  have H := Lib.hid h
  have HA := Lib.hid (hA.below ((Below.refl w.heap.size w).alloc (Nat.le_refl _) (.cells #[.int .i64 0, .int .i64 0] 26)))
  have hl := hA.2.1
  have hat : ∀ k, hasAt bs ((i : Int) + 1) k = (c == k) := fun k => by rw [show (i : Int) + 1 = ((i + 1 : Nat) : Int) by omega, hasAt_in k hi, hc]
  have h1 : hasAt bs ((i : Int) + 1) 110 = false := by rw [hat]; simp; omega
  have h2 : hasAt bs ((i : Int) + 1) 116 = false := by rw [hat]; simp; omega
  have h3 : hasAt bs ((i : Int) + 1) 114 = false := by rw [hat]; simp; omega
  have h4 : hasAt bs ((i : Int) + 1) 120 = false := by rw [hat]; simp; omega
  have hp0 : (0 : Int) ≤ (i : Int) + 1 := by omega
  have hp1 : (i : Int) + 1 < (bs.length : Int) := by omega
  have hbt := byteAt_lt hA.1 (i + 1)
  obtain ⟨b, o, rfl, hbB, hcell⟩ := hA.2.2 (by omega)
  have hx := hcell (i + 1) (by omega)
  rw [hc] at hx hbt
  have Hc := Lib.hid hc
  clear h hA hat hc hcell n1 n2 n3 n4
  rw [HV.out]
  go_enter Tryz.func107, Tryz.ntmps107
  go_wp2_with fail
  refine (rhasb_is (some ⟨b, o, none⟩) cap bs _ 92 true w.heap.size _ HA.out (by omega) (by omega) H.out).mono ?_
  rintro e w2 ⟨rfl, rfl⟩
  go_wp2_with (first
    | (go_at_call 126; refine (rhasb_go (some ⟨b, o, none⟩) cap bs _ _ w.heap.size _ HA.out (by omega) (by omega)).mono ?_; rintro e w2 ⟨rfl, rfl⟩)
    | (go_at_call 129; refine (word_go _ _ (by omega) (by omega)).mono ?_; rintro e w2 ⟨rfl, rfl⟩))
  go_light
  refine bodyPost_ret (ret_esc Tryz.results107 rfl rfl rfl (Blk.new w 26 #[.int .i64 0, .int .i64 0])) rfl ⟨rfl, ?_⟩
  exact (Below.refl w.heap.size w).alloc (Nat.le_refl _) _

set_option maxHeartbeats 2000000 in
theorem resc_bad (A : Option Addr) (cap : Nat) (bs : List Nat) (i : Nat) (w : World) (hA : BytesAt w w.heap.size A bs) (h : hasAt bs (i : Int) 92 = true) (hi : i + 1 < bs.length) (c : Nat) (hc : byteAt bs (i + 1) = c) (n1 : c ≠ 110) (n2 : c ≠ 116) (n3 : c ≠ 114) (n4 : c ≠ 120) (h5 : c < 33 ∨ 126 < c ∨ isWord c = true) : Calls Tryz.prog 107 #[.slice A bs.length cap, .int .i64 (i : Int)] w fun e w' => e = .returned (escVal bs (i : Int)) ∧ Below w.heap.size w w' := by
  rw [escVal_none h (escS_bad hi (by omega) (by omega) (by omega) (by omega) (by rw [hc]; exact h5))]
  have H := Lib.hid h
  have HA := Lib.hid (hA.below ((Below.refl w.heap.size w).alloc (Nat.le_refl _) (.cells #[.int .i64 0, .int .i64 0] 26)))
  have hl := hA.2.1
  have hat : ∀ k, hasAt bs ((i : Int) + 1) k = (c == k) := fun k => by rw [show (i : Int) + 1 = ((i + 1 : Nat) : Int) by omega, hasAt_in k hi, hc]
  have h1 : hasAt bs ((i : Int) + 1) 110 = false := by rw [hat]; simp; omega
  have h2 : hasAt bs ((i : Int) + 1) 116 = false := by rw [hat]; simp; omega
  have h3 : hasAt bs ((i : Int) + 1) 114 = false := by rw [hat]; simp; omega
  have h4 : hasAt bs ((i : Int) + 1) 120 = false := by rw [hat]; simp; omega
  have hp0 : (0 : Int) ≤ (i : Int) + 1 := by omega
  have hp1 : (i : Int) + 1 < (bs.length : Int) := by omega
  have hbt := byteAt_lt hA.1 (i + 1)
  obtain ⟨b, o, rfl, hbB, hcell⟩ := hA.2.2 (by omega)
  have hx := hcell (i + 1) (by omega)
  rw [hc] at hx hbt
  have Hc := Lib.hid hc
  clear h hA hat hc hcell n1 n2 n3 n4
  by_cases h6 : c < 33
  · clear h5
    go_enter Tryz.func107, Tryz.ntmps107
    go_wp2_with fail
    refine (rhasb_is (some ⟨b, o, none⟩) cap bs _ 92 true w.heap.size _ HA.out (by omega) (by omega) H.out).mono ?_
    rintro e w2 ⟨rfl, rfl⟩
    go_wp2_with (first
      | (go_at_call 126; refine (rhasb_go (some ⟨b, o, none⟩) cap bs _ _ w.heap.size _ HA.out (by omega) (by omega)).mono ?_; rintro e w2 ⟨rfl, rfl⟩)
      | (go_at_call 129; refine (word_go _ _ (by omega) (by omega)).mono ?_; rintro e w2 ⟨rfl, rfl⟩)
      | (go_at_call 127; refine (bad_go _ _ _).mono ?_; rintro e w1 ⟨rfl, hb1⟩; obtain ⟨b0, b1, x0, x1⟩ := ((Blk.new w 26 #[.int .i64 0, .int .i64 0]).below hb1 (by simp)).c2))
    go_light
    refine bodyPost_ret (ret_esc Tryz.results107 rfl rfl rfl ((Blk.new w 26 #[.int .i64 0, .int .i64 0]).below hb1 (by simp)).set2) rfl ⟨rfl, ?_⟩
    exact below_set2 (((Below.refl w.heap.size w).alloc (Nat.le_refl _) _).trans (hb1.mono (by simp))) (Nat.le_refl _) _ _
  · by_cases h7 : 126 < c
    · clear h5
      go_enter Tryz.func107, Tryz.ntmps107
      go_wp2_with fail
      refine (rhasb_is (some ⟨b, o, none⟩) cap bs _ 92 true w.heap.size _ HA.out (by omega) (by omega) H.out).mono ?_
      rintro e w2 ⟨rfl, rfl⟩
      go_wp2_with (first
        | (go_at_call 126; refine (rhasb_go (some ⟨b, o, none⟩) cap bs _ _ w.heap.size _ HA.out (by omega) (by omega)).mono ?_; rintro e w2 ⟨rfl, rfl⟩)
        | (go_at_call 129; refine (word_go _ _ (by omega) (by omega)).mono ?_; rintro e w2 ⟨rfl, rfl⟩)
        | (go_at_call 127; refine (bad_go _ _ _).mono ?_; rintro e w1 ⟨rfl, hb1⟩; obtain ⟨b0, b1, x0, x1⟩ := ((Blk.new w 26 #[.int .i64 0, .int .i64 0]).below hb1 (by simp)).c2))
      go_light
      refine bodyPost_ret (ret_esc Tryz.results107 rfl rfl rfl ((Blk.new w 26 #[.int .i64 0, .int .i64 0]).below hb1 (by simp)).set2) rfl ⟨rfl, ?_⟩
      exact below_set2 (((Below.refl w.heap.size w).alloc (Nat.le_refl _) _).trans (hb1.mono (by simp))) (Nat.le_refl _) _ _
    · have h8 : isWord c = true := by rcases h5 with h | h | h; omega; omega; exact h
      clear h5
      go_enter Tryz.func107, Tryz.ntmps107
      go_wp2_with fail
      refine (rhasb_is (some ⟨b, o, none⟩) cap bs _ 92 true w.heap.size _ HA.out (by omega) (by omega) H.out).mono ?_
      rintro e w2 ⟨rfl, rfl⟩
      go_wp2_with (first
        | (go_at_call 126; refine (rhasb_go (some ⟨b, o, none⟩) cap bs _ _ w.heap.size _ HA.out (by omega) (by omega)).mono ?_; rintro e w2 ⟨rfl, rfl⟩)
        | (go_at_call 129; refine (word_go _ _ (by omega) (by omega)).mono ?_; rintro e w2 ⟨rfl, rfl⟩)
        | (go_at_call 127; refine (bad_go _ _ _).mono ?_; rintro e w1 ⟨rfl, hb1⟩; obtain ⟨b0, b1, x0, x1⟩ := ((Blk.new w 26 #[.int .i64 0, .int .i64 0]).below hb1 (by simp)).c2))
      go_light
      refine bodyPost_ret (ret_esc Tryz.results107 rfl rfl rfl ((Blk.new w 26 #[.int .i64 0, .int .i64 0]).below hb1 (by simp)).set2) rfl ⟨rfl, ?_⟩
      exact below_set2 (((Below.refl w.heap.size w).alloc (Nat.le_refl _) _).trans (hb1.mono (by simp))) (Nat.le_refl _) _ _

end Go.Proofs.YtajohcknenngnaaGreat
