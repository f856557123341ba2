/- Texts of the claim. -/
import Derived.Test.YtofbfafnpdaejaaGreatDoorMEscape
set_option linter.all false
set_option maxRecDepth 100000
set_option maxHeartbeats 8000000
namespace Go.Proofs.YtofbfafnpdaejaaGreatDoor
open Go.RowKit
theorem escape_x (g : Nat) (A : Option Addr) (cap : Nat) (bs : List Nat) (i : Nat) (start : Int) (B : Nat) (w : World) (hr : Rd w g A cap bs (i : Int) start 0 0) (hA : BytesAt w B A bs) (hB : B ≤ g) (h : i + 3 < bs.length) (hk : byteAt bs (i + 1) = 120) (c2' c3' : Nat) (hc2 : byteAt bs (i + 2) = c2') (hc3 : byteAt bs (i + 3) = c3') (h2 : 0 ≤ digVal c2') (h3 : 0 ≤ digVal c3') : Calls Tryz.prog 244 #[.pointer (some ⟨g, 0, none⟩)] w (EscPost g A cap bs i start w) := by
 obtain ⟨c0, c1, c2, c3, c4, f1, f3, f4⟩ := hr.cells
 have Hr := Lib.hid hr
 have HA := Lib.hid hA
 have Hl := Lib.hid hA.2.1
 have hl := hA.2.1
 have hi : i + 1 < bs.length := by omega
 have hz : ((bs.length : Int) - ((i : Int) + 1) == 0) = false := by simp; omega
 have hp0 : (0 : Int) ≤ (i : Int) + 1 := by omega
 have hp1 : (i : Int) + 1 < (bs.length : Int) := by omega
 have hbt := byteAt_lt hA.1 (i + 1)
 obtain ⟨b, o, rfl, hbB, hcell⟩ := hA.2.2 (by omega)
 have hx := hcell (i + 1) (by omega)
 have hbg : b ≠ g := by omega
 rw [hk] at hx hbt
 have Hk := Lib.hid hk
 have hz2 : ¬ (bs.length : Int) - ((i : Int) + 1 + 1) < 2 := by omega
 have hx2 := hcell (i + 1 + 1) (by omega)
 have hx3 := hcell (i + 1 + 1 + 1) (by omega)
 have hb2 := byteAt_lt hA.1 (i + 2)
 have hb3 := byteAt_lt hA.1 (i + 3)
 rw [show i + 1 + 1 + 1 = i + 3 by omega, hc3] at hx3
 rw [show i + 1 + 1 = i + 2 by omega, hc2] at hx2
 rw [hc2] at hb2
 rw [hc3] at hb3
 have Hc2 := Lib.hid hc2
 have Hc3 := Lib.hid hc3
 have hp2 : (0 : Int) ≤ (i : Int) + 1 + 1 := by omega
 have hp3 : (i : Int) + 1 + 1 < (bs.length : Int) := by omega
 have hp4 : (0 : Int) ≤ (i : Int) + 1 + 1 + 1 := by omega
 have hp5 : (i : Int) + 1 + 1 + 1 < (bs.length : Int) := by omega
 have hd2 := digVal_bd c2'
 have hd3 := digVal_bd c3'
 clear hr hA hcell hk hc2 hc3
 go_enter Tryz.func244, Tryz.ntmps244
 go_wp2_with fail
 with_reducible refine (left_go g (some ⟨b, o, none⟩) cap bs _ start 0 0 _ (Hr.out.move _) Hl.out (by omega) (by omega)).mono ?_
 rintro e w1 ⟨rfl, n1, rfl⟩
 go_wp2
 go_quiet (fail)
 go_wp2_with fail
 with_reducible refine (left_go g (some ⟨b, o, none⟩) cap bs _ start 0 0 _ (((Hr.out.move _).drewN _).move _) Hl.out (by omega) (by omega)).mono ?_
 rintro e w3 ⟨rfl, n3, rfl⟩
 go_wp2_with fail
 go_quiet ((go_at_call 256; exact quiet_add_left (value_go _ _ (by omega) (by omega))))
 go_wp2
 go_light
 go_ret
 refine EscPost.yes (only_set (only_drewN (only_set (only_drewN (only_set (only_refl _ _) _ _) _) _ _) _) _ _) (escS_x (by omega) Hk.out h (by rw [Hc2.out]; exact h2) (by rw [Hc3.out]; exact h3)) ?_ ?_
 ·rw [Hc2.out, Hc3.out]
  exact ret_i (by simp; omega)
 ·rw [show ((i + 4 : Nat) : Int) = (i : Int) + 1 + 1 + 2 by omega]; exact (((((Hr.out.move _).drewN _).move _).drewN _).move _)
theorem escape_xbad (g : Nat) (A : Option Addr) (cap : Nat) (bs : List Nat) (i : Nat) (start : Int) (B : Nat) (w : World) (hr : Rd w g A cap bs (i : Int) start 0 0) (hA : BytesAt w B A bs) (hB : B ≤ g) (h : i + 3 < bs.length) (hk : byteAt bs (i + 1) = 120) (c2' c3' : Nat) (hc2 : byteAt bs (i + 2) = c2') (hc3 : byteAt bs (i + 3) = c3') (h2 : Hid (digVal c2' < 0 ∨ digVal c3' < 0)) : Calls Tryz.prog 244 #[.pointer (some ⟨g, 0, none⟩)] w (EscPost g A cap bs i start w) := by
 obtain ⟨c0, c1, c2, c3, c4, f1, f3, f4⟩ := hr.cells
 have Hr := Lib.hid hr
 have HA := Lib.hid hA
 have Hl := Lib.hid hA.2.1
 have hl := hA.2.1
 have hi : i + 1 < bs.length := by omega
 have hz : ((bs.length : Int) - ((i : Int) + 1) == 0) = false := by simp; omega
 have hp0 : (0 : Int) ≤ (i : Int) + 1 := by omega
 have hp1 : (i : Int) + 1 < (bs.length : Int) := by omega
 have hbt := byteAt_lt hA.1 (i + 1)
 obtain ⟨b, o, rfl, hbB, hcell⟩ := hA.2.2 (by omega)
 have hx := hcell (i + 1) (by omega)
 have hbg : b ≠ g := by omega
 rw [hk] at hx hbt
 have Hk := Lib.hid hk
 have hz2 : ¬ (bs.length : Int) - ((i : Int) + 1 + 1) < 2 := by omega
 have hx2 := hcell (i + 1 + 1) (by omega)
 have hx3 := hcell (i + 1 + 1 + 1) (by omega)
 have hb2 := byteAt_lt hA.1 (i + 2)
 have hb3 := byteAt_lt hA.1 (i + 3)
 rw [show i + 1 + 1 + 1 = i + 3 by omega, hc3] at hx3
 rw [show i + 1 + 1 = i + 2 by omega, hc2] at hx2
 rw [hc2] at hb2
 rw [hc3] at hb3
 have Hc2 := Lib.hid hc2
 have Hc3 := Lib.hid hc3
 have hp2 : (0 : Int) ≤ (i : Int) + 1 + 1 := by omega
 have hp3 : (i : Int) + 1 + 1 < (bs.length : Int) := by omega
 have hp4 : (0 : Int) ≤ (i : Int) + 1 + 1 + 1 := by omega
 have hp5 : (i : Int) + 1 + 1 + 1 < (bs.length : Int) := by omega
 have hd2 := digVal_bd c2'
 have hd3 := digVal_bd c3'
 clear hr hA hcell hk hc2 hc3
 by_cases h4 : digVal c2' < 0
 ·have hd4 : decide (0 ≤ digVal c2') = false := by simp; omega
  go_enter Tryz.func244, Tryz.ntmps244
  go_wp2_with fail
  with_reducible refine (left_go g (some ⟨b, o, none⟩) cap bs _ start 0 0 _ (Hr.out.move _) Hl.out (by omega) (by omega)).mono ?_
  rintro e w1 ⟨rfl, n1, rfl⟩
  go_wp2
  go_quiet (fail)
  go_wp2_with fail
  with_reducible refine (left_go g (some ⟨b, o, none⟩) cap bs _ start 0 0 _ (((Hr.out.move _).drewN _).move _) Hl.out (by omega) (by omega)).mono ?_
  rintro e w3 ⟨rfl, n3, rfl⟩
  go_wp2_with fail
  go_quiet ((go_at_call 256; exact quiet_add_left (value_go _ _ (by omega) (by omega))))
  go_wp2_with (first
   | (go_at_call 257; refine (letter_go _ _ (by omega) (by omega)).mono ?_; rintro e w2 ⟨rfl, rfl⟩)
   | (go_at_call 255; refine (fail0_go g (some ⟨b, o, none⟩) cap bs _ start 0 _ _ _ (((((Hr.out.move _).drewN _).move _).drewN _).move _)).mono ?_; rintro e w2 ⟨rfl, hr2, hg2⟩))
  go_light
  go_ret
  exact EscPost.no 120 (i + 4) (only_trans (only_set (only_drewN (only_set (only_drewN (only_set (only_refl _ _) _ _) _) _ _) _) _ _) hg2) (escS_xbad (by omega) Hk.out h (by rw [Hc2.out, Hc3.out]; exact h2.out)) (by decide) rfl (by
    rw [show ((i + 4 : Nat) : Int) = (i : Int) + 1 + 1 + 2 by omega]; exact hr2)
 ·have h5 : digVal c3' < 0 := by rcases h2.out with h | h; exact absurd h h4; exact h
  have hd4 : decide (0 ≤ digVal c3') = false := by simp; omega
  go_enter Tryz.func244, Tryz.ntmps244
  go_wp2_with fail
  with_reducible refine (left_go g (some ⟨b, o, none⟩) cap bs _ start 0 0 _ (Hr.out.move _) Hl.out (by omega) (by omega)).mono ?_
  rintro e w1 ⟨rfl, n1, rfl⟩
  go_wp2
  go_quiet (fail)
  go_wp2_with fail
  with_reducible refine (left_go g (some ⟨b, o, none⟩) cap bs _ start 0 0 _ (((Hr.out.move _).drewN _).move _) Hl.out (by omega) (by omega)).mono ?_
  rintro e w3 ⟨rfl, n3, rfl⟩
  go_wp2_with fail
  go_quiet ((go_at_call 256; exact quiet_add_left (value_go _ _ (by omega) (by omega))))
  go_wp2_with (first
   | (go_at_call 257; refine (letter_go _ _ (by omega) (by omega)).mono ?_; rintro e w2 ⟨rfl, rfl⟩)
   | (go_at_call 255; refine (fail0_go g (some ⟨b, o, none⟩) cap bs _ start 0 _ _ _ (((((Hr.out.move _).drewN _).move _).drewN _).move _)).mono ?_; rintro e w2 ⟨rfl, hr2, hg2⟩))
  go_light
  go_ret
  exact EscPost.no 120 (i + 4) (only_trans (only_set (only_drewN (only_set (only_drewN (only_set (only_refl _ _) _ _) _) _ _) _) _ _) hg2) (escS_xbad (by omega) Hk.out h (by rw [Hc2.out, Hc3.out]; exact h2.out)) (by decide) rfl (by
    rw [show ((i + 4 : Nat) : Int) = (i : Int) + 1 + 1 + 2 by omega]; exact hr2)
theorem escape_go (g : Nat) (A : Option Addr) (cap : Nat) (bs : List Nat) (i : Nat) (start : Int) (B : Nat) (w : World) (hr : Rd w g A cap bs (i : Int) start 0 0) (hA : BytesAt w B A bs) (hB : B ≤ g) (hi : i < bs.length) : Calls Tryz.prog 244 #[.pointer (some ⟨g, 0, none⟩)] w (EscPost g A cap bs i start w) := by
 by_cases h1 : bs.length = i + 1
 ·exact escape_end g A cap bs i start B w hr hA hB h1
 have h : i + 1 < bs.length := by omega
 by_cases h2 : byteAt bs (i + 1) = 110
 ·exact escape_letter g A cap bs i start B w hr hA hB h 110 10 h2 (by omega)
 by_cases h3 : byteAt bs (i + 1) = 116
 ·exact escape_letter g A cap bs i start B w hr hA hB h 116 9 h3 (by omega)
 by_cases h4 : byteAt bs (i + 1) = 114
 ·exact escape_letter g A cap bs i start B w hr hA hB h 114 13 h4 (by omega)
 by_cases h5 : byteAt bs (i + 1) = 120
 ·by_cases h6 : bs.length ≤ i + 3
  ·exact escape_xend g A cap bs i start B w hr hA hB h h5 h6
  ·by_cases h7 : digVal (byteAt bs (i + 2)) < 0 ∨ digVal (byteAt bs (i + 3)) < 0
   ·exact escape_xbad g A cap bs i start B w hr hA hB (by omega) h5 _ _ rfl rfl h7
   ·exact escape_x g A cap bs i start B w hr hA hB (by omega) h5 _ _ rfl rfl (by omega) (by omega)
 by_cases h6 : byteAt bs (i + 1) < 33 ∨ 126 < byteAt bs (i + 1) ∨ isWord (byteAt bs (i + 1)) = true
 ·exact escape_bad g A cap bs i start B w hr hA hB h _ rfl h2 h3 h4 h5 h6
 ·exact escape_self g A cap bs i start B w hr hA hB h _ rfl h2 h3 h4 h5 (by omega) (by omega) (by
   cases hw : isWord (byteAt bs (i + 1))
   ·rfl
   ·exact absurd (.inr (.inr hw)) h6)
end Go.Proofs.YtofbfafnpdaejaaGreatDoor
