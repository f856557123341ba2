/-
  The contract of the reference's Escape: a backslash, an x and two bytes; and all cases together.
-/
import Derived.Test.YtajohcknenngnaaGreatQRefEsc
namespace Go.Proofs.YtajohcknenngnaaGreat
open Go.RowKit
set_option linter.unusedSimpArgs false
set_option linter.unusedVariables false
set_option maxRecDepth 100000

set_option maxHeartbeats 1000000 in
theorem resc_xend (A : Option Addr) (cap : Nat) (bs : List Nat) (i : Nat) (w : World) (hA : BytesAt w w.heap.size A bs) (h : hasAt bs (i : Int) 92 = true) (hi : i + 1 < bs.length) (hc : byteAt bs (i + 1) = 120) (h2 : bs.length ≤ i + 3) : Calls Tryz.prog 107 #[.slice A bs.length cap, .int .i64 (i : Int)] w fun e w' => e = .returned (escVal bs (i : Int)) ∧ Below w.heap.size w w' := by
  rw [escVal_none h (escS_xend hi hc h2)]
  have H := Lib.hid h
  have HA := Lib.hid (hA.below ((Below.refl w.heap.size w).alloc (Nat.le_refl _) (.cells #[.int .i64 0, .int .i64 0] 26)))
  have hl := hA.2.1
  have hat : ∀ k, hasAt bs ((i : Int) + 1) k = ((120 : Nat) == k) := fun k => by rw [show (i : Int) + 1 = ((i + 1 : Nat) : Int) by omega, hasAt_in k hi, hc]
  have h1 : hasAt bs ((i : Int) + 1) 110 = false := by rw [hat]; rfl
  have h2 : hasAt bs ((i : Int) + 1) 116 = false := by rw [hat]; rfl
  have h3 : hasAt bs ((i : Int) + 1) 114 = false := by rw [hat]; rfl
  have h4 : hasAt bs ((i : Int) + 1) 120 = true := by rw [hat]; rfl
  have hge : (bs.length : Int) ≤ (i : Int) + 3 := by omega
  clear h hA hat hc
  go_enter Tryz.func107, Tryz.ntmps107
  go_wp2_with fail
  refine (rhasb_is A cap bs _ 92 true w.heap.size _ HA.out (by omega) (by omega) H.out).mono ?_
  rintro e w2 ⟨rfl, rfl⟩
  go_wp2_with (first
    | (go_at_call 126; refine (rhasb_go A cap bs _ _ w.heap.size _ HA.out (by omega) (by omega)).mono ?_; rintro e w2 ⟨rfl, rfl⟩)
    | (go_at_call 127; refine (bad_go _ _ _).mono ?_; rintro e w1 ⟨rfl, hb1⟩; obtain ⟨b0, b1, x0, x1⟩ := ((Blk.new w 26 #[.int .i64 0, .int .i64 0]).below hb1 (by simp)).c2))
  go_light
  refine bodyPost_ret (ret_esc Tryz.results107 rfl rfl rfl ((Blk.new w 26 #[.int .i64 0, .int .i64 0]).below hb1 (by simp)).set2) rfl ⟨rfl, ?_⟩
  exact below_set2 (((Below.refl w.heap.size w).alloc (Nat.le_refl _) _).trans (hb1.mono (by simp))) (Nat.le_refl _) _ _


set_option maxHeartbeats 2000000 in
theorem resc_xbad (A : Option Addr) (cap : Nat) (bs : List Nat) (i : Nat) (w : World) (hA : BytesAt w w.heap.size A bs) (h : hasAt bs (i : Int) 92 = true) (hi : i + 1 < bs.length) (hc : byteAt bs (i + 1) = 120) (hj : i + 3 < bs.length) (c2 c3 : Nat) (hc2 : byteAt bs (i + 2) = c2) (hc3 : byteAt bs (i + 3) = c3) (hd : digVal c2 < 0 ∨ digVal c3 < 0) : Calls Tryz.prog 107 #[.slice A bs.length cap, .int .i64 (i : Int)] w fun e w' => e = .returned (escVal bs (i : Int)) ∧ Below w.heap.size w w' := by
  rw [escVal_none h (escS_xbad hi hc hj (by rw [hc2, hc3]; exact hd))]
  have H := Lib.hid h
  have HA := Lib.hid (hA.below ((Below.refl w.heap.size w).alloc (Nat.le_refl _) (.cells #[.int .i64 0, .int .i64 0] 26)))
  have hl := hA.2.1
  have hat : ∀ k, hasAt bs ((i : Int) + 1) k = ((120 : Nat) == k) := fun k => by rw [show (i : Int) + 1 = ((i + 1 : Nat) : Int) by omega, hasAt_in k hi, hc]
  have h1 : hasAt bs ((i : Int) + 1) 110 = false := by rw [hat]; rfl
  have h2 : hasAt bs ((i : Int) + 1) 116 = false := by rw [hat]; rfl
  have h3 : hasAt bs ((i : Int) + 1) 114 = false := by rw [hat]; rfl
  have h4 : hasAt bs ((i : Int) + 1) 120 = true := by rw [hat]; rfl
  obtain ⟨b, o, rfl, hbB, hcell⟩ := hA.2.2 (by omega)
  have hx2 := hcell (i + 2) (by omega)
  have hx3 := hcell (i + 3) (by omega)
  have hb2 := byteAt_lt hA.1 (i + 2)
  have hb3 := byteAt_lt hA.1 (i + 3)
  have Hc2 := Lib.hid hc2
  have Hc3 := Lib.hid hc3
  rw [hc2] at hx2 hb2
  rw [hc3] at hx3 hb3
  have hd2 := digVal_bd c2
  have hd3 := digVal_bd c3
  have hp0 : (0 : Int) ≤ (i : Int) + 2 := by omega
  have hp1 : (i : Int) + 2 < (bs.length : Int) := by omega
  have hp2 : (0 : Int) ≤ (i : Int) + 3 := by omega
  have hp3 : (i : Int) + 3 < (bs.length : Int) := by omega
  clear h hA hat hc hcell hc2 hc3
  by_cases h6 : digVal c2 < 0
  · clear hd
    go_enter Tryz.func107, Tryz.ntmps107
    go_wp2_with fail
    refine (rhasb_is (some ⟨b, o, none⟩) cap bs _ 92 true w.heap.size _ HA.out (by omega) (by omega) H.out).mono ?_
    rintro e w2 ⟨rfl, rfl⟩
    go_wp2_with (first
      | (go_at_call 126; refine (rhasb_go (some ⟨b, o, none⟩) cap bs _ _ w.heap.size _ HA.out (by omega) (by omega)).mono ?_; rintro e w2 ⟨rfl, rfl⟩)
      | (go_at_call 128; refine (rvalue_c _ _ (by omega)).mono ?_; rintro e w2 ⟨rfl, rfl⟩)
      | (go_at_call 127; refine (bad_go _ _ _).mono ?_; rintro e w1 ⟨rfl, hb1⟩; obtain ⟨b0, b1, x0, x1⟩ := ((Blk.new w 26 #[.int .i64 0, .int .i64 0]).below hb1 (by simp)).c2))
    go_light
    refine bodyPost_ret (ret_esc Tryz.results107 rfl rfl rfl ((Blk.new w 26 #[.int .i64 0, .int .i64 0]).below hb1 (by simp)).set2) rfl ⟨rfl, ?_⟩
    exact below_set2 (((Below.refl w.heap.size w).alloc (Nat.le_refl _) _).trans (hb1.mono (by simp))) (Nat.le_refl _) _ _
  · have h7 : digVal c3 < 0 := by rcases hd with h | h; exact absurd h h6; exact h
    clear hd
    go_enter Tryz.func107, Tryz.ntmps107
    go_wp2_with fail
    refine (rhasb_is (some ⟨b, o, none⟩) cap bs _ 92 true w.heap.size _ HA.out (by omega) (by omega) H.out).mono ?_
    rintro e w2 ⟨rfl, rfl⟩
    go_wp2_with (first
      | (go_at_call 126; refine (rhasb_go (some ⟨b, o, none⟩) cap bs _ _ w.heap.size _ HA.out (by omega) (by omega)).mono ?_; rintro e w2 ⟨rfl, rfl⟩)
      | (go_at_call 128; refine (rvalue_c _ _ (by omega)).mono ?_; rintro e w2 ⟨rfl, rfl⟩)
      | (go_at_call 127; refine (bad_go _ _ _).mono ?_; rintro e w1 ⟨rfl, hb1⟩; obtain ⟨b0, b1, x0, x1⟩ := ((Blk.new w 26 #[.int .i64 0, .int .i64 0]).below hb1 (by simp)).c2))
    go_light
    refine bodyPost_ret (ret_esc Tryz.results107 rfl rfl rfl ((Blk.new w 26 #[.int .i64 0, .int .i64 0]).below hb1 (by simp)).set2) rfl ⟨rfl, ?_⟩
    exact below_set2 (((Below.refl w.heap.size w).alloc (Nat.le_refl _) _).trans (hb1.mono (by simp))) (Nat.le_refl _) _ _

set_option maxHeartbeats 2000000 in
theorem resc_x (A : Option Addr) (cap : Nat) (bs : List Nat) (i : Nat) (w : World) (hA : BytesAt w w.heap.size A bs) (h : hasAt bs (i : Int) 92 = true) (hi : i + 1 < bs.length) (hc : byteAt bs (i + 1) = 120) (hj : i + 3 < bs.length) (c2 c3 : Nat) (hc2 : byteAt bs (i + 2) = c2) (hc3 : byteAt bs (i + 3) = c3) (hd2' : 0 ≤ digVal c2) (hd3' : 0 ≤ digVal c3) : Calls Tryz.prog 107 #[.slice A bs.length cap, .int .i64 (i : Int)] w fun e w' => e = .returned (escVal bs (i : Int)) ∧ Below w.heap.size w w' := by
  have HV : Hid (escVal bs (i : Int) = .tuple #[.int .u8 (16 * digVal c2 + digVal c3), .int .i64 ((i : Int) + 4), .agg #[.int .i64 0, .int .i64 0]]) := by
    show escVal _ _ = _
    rw [escVal_some h (escS_x hi hc hj (by rw [hc2]; exact hd2') (by rw [hc3]; exact hd3')), hc2, hc3]
    rw [Int.toNat_of_nonneg (by omega)]; rfl
  have H := Lib.hid h
  have HA := Lib.hid (hA.below ((Below.refl w.heap.size w).alloc (Nat.le_refl _) (.cells #[.int .i64 0, .int .i64 0] 26)))
  have hl := hA.2.1
  have hat : ∀ k, hasAt bs ((i : Int) + 1) k = ((120 : Nat) == k) := fun k => by rw [show (i : Int) + 1 = ((i + 1 : Nat) : Int) by omega, hasAt_in k hi, hc]
  have h1 : hasAt bs ((i : Int) + 1) 110 = false := by rw [hat]; rfl
  have h2 : hasAt bs ((i : Int) + 1) 116 = false := by rw [hat]; rfl
  have h3 : hasAt bs ((i : Int) + 1) 114 = false := by rw [hat]; rfl
  have h4 : hasAt bs ((i : Int) + 1) 120 = true := by rw [hat]; rfl
  obtain ⟨b, o, rfl, hbB, hcell⟩ := hA.2.2 (by omega)
  have hx2 := hcell (i + 2) (by omega)
  have hx3 := hcell (i + 3) (by omega)
  have hb2 := byteAt_lt hA.1 (i + 2)
  have hb3 := byteAt_lt hA.1 (i + 3)
  have Hc2 := Lib.hid hc2
  have Hc3 := Lib.hid hc3
  rw [hc2] at hx2 hb2
  rw [hc3] at hx3 hb3
  have hd2 := digVal_bd c2
  have hd3 := digVal_bd c3
  have hp0 : (0 : Int) ≤ (i : Int) + 2 := by omega
  have hp1 : (i : Int) + 2 < (bs.length : Int) := by omega
  have hp2 : (0 : Int) ≤ (i : Int) + 3 := by omega
  have hp3 : (i : Int) + 3 < (bs.length : Int) := by omega
  have Hval : Hid (IntKind.u8.wrap (IntKind.i64.wrap (IntKind.i64.wrap (16 * digVal c2) + digVal c3)) = 16 * digVal c2 + digVal c3) := by
    show _ = _
    rw [IntWalk.i64_in (16 * digVal c2) (by omega), IntWalk.i64_in _ (by omega), IntKind.wrap_u8]; omega
  have Hnext : Hid (IntKind.i64.wrap ((i : Int) + 4) = (i : Int) + 4) := IntWalk.i64_in _ (by omega)
  clear h hA hat hc hcell hc2 hc3
  rw [HV.out]
  go_enter Tryz.func107, Tryz.ntmps107
  go_wp2_with fail
  refine (rhasb_is (some ⟨b, o, none⟩) cap bs _ 92 true w.heap.size _ HA.out (by omega) (by omega) H.out).mono ?_
  rintro e w2 ⟨rfl, rfl⟩
  go_wp2_with (first
    | (go_at_call 126; refine (rhasb_go (some ⟨b, o, none⟩) cap bs _ _ w.heap.size _ HA.out (by omega) (by omega)).mono ?_; rintro e w2 ⟨rfl, rfl⟩)
    | (go_at_call 128; refine (rvalue_c _ _ (by omega)).mono ?_; rintro e w2 ⟨rfl, rfl⟩))
  have w2 : IntKind.i64.wrap ((i : Int) + 2) = (i : Int) + 2 := IntWalk.i64_in _ (by omega)
  have w3 : IntKind.i64.wrap ((i : Int) + 3) = (i : Int) + 3 := IntWalk.i64_in _ (by omega)
  have t2 : ((i : Int) + 2).toNat = i + 2 := by omega
  have t3 : ((i : Int) + 3).toNat = i + 3 := by omega
  go_region_with (go_at_call 128; refine (rvalue_c _ _ (by omega)).mono ?_; rintro e w2 ⟨rfl, rfl⟩)
  all_goals clear w2 w3 t2 t3
  all_goals go_wp2
  all_goals go_light
  all_goals refine bodyPost_ret (ret_esc Tryz.results107 rfl rfl rfl (Blk.new w 26 #[.int .i64 0, .int .i64 0]).drew) rfl ⟨?_, ((Below.refl w.heap.size w).alloc (Nat.le_refl _) _).drew⟩
  all_goals
    show Ending.returned (.tuple #[.int .u8 (IntKind.u8.wrap (IntKind.i64.wrap (IntKind.i64.wrap (16 * digVal c2) + digVal c3))), .int .i64 (IntKind.i64.wrap ((i : Int) + 4)), .agg #[.int .i64 0, .int .i64 0]]) = _
    rw [Hval.out, Hnext.out]

theorem resc_go (A : Option Addr) (cap : Nat) (bs : List Nat) (i : Int) (w : World) (hA : BytesAt w w.heap.size A bs) : Calls Tryz.prog 107 #[.slice A bs.length cap, .int .i64 i] w fun e w' => e = .returned (escVal bs i) ∧ Below w.heap.size w w' := by
  cases h : hasAt bs i 92 with
  | false => exact resc_no A cap bs i w hA h
  | true =>
    obtain ⟨i, rfl, hlt, _⟩ := hasAt_yes h
    by_cases h1 : bs.length = i + 1
    · exact resc_end A cap bs i w hA h h1
    have hi : i + 1 < bs.length := by omega
    by_cases h2 : byteAt bs (i + 1) = 110
    · exact resc_letter A cap bs i w hA h hi _ h2 (by omega)
    by_cases h3 : byteAt bs (i + 1) = 116
    · exact resc_letter A cap bs i w hA h hi _ h3 (by omega)
    by_cases h4 : byteAt bs (i + 1) = 114
    · exact resc_letter A cap bs i w hA h hi _ h4 (by omega)
    by_cases h5 : byteAt bs (i + 1) = 120
    · by_cases h6 : bs.length ≤ i + 3
      · exact resc_xend A cap bs i w hA h hi h5 h6
      · by_cases h7 : digVal (byteAt bs (i + 2)) < 0 ∨ digVal (byteAt bs (i + 3)) < 0
        · exact resc_xbad A cap bs i w hA h hi h5 (by omega) _ _ rfl rfl h7
        · exact resc_x A cap bs i w hA h hi h5 (by omega) _ _ rfl rfl (by omega) (by omega)
    by_cases h6 : byteAt bs (i + 1) < 33 ∨ 126 < byteAt bs (i + 1) ∨ isWord (byteAt bs (i + 1)) = true
    · exact resc_bad A cap bs i w hA h hi _ rfl h2 h3 h4 h5 h6
    · exact resc_self A cap bs i w hA h hi _ rfl h2 h3 h4 h5 (by omega) (by omega) (by
        cases hw : isWord (byteAt bs (i + 1))
        · rfl
        · exact absurd (.inr (.inr hw)) h6)

end Go.Proofs.YtajohcknenngnaaGreat
