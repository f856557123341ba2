/- Texts of the claim. -/
import Derived.Test.YtofbfafnpdaejaaGreatDoorMZ01
set_option linter.all false
set_option maxRecDepth 100000
set_option maxHeartbeats 8000000
namespace Go.Proofs.YtofbfafnpdaejaaGreatDoor
open Go.RowKit
theorem quiet_add_left {P : Program} {f : FuncId} {args : Array Value} {w : World} {a n : Nat} {v : Value}
  (h : Calls P f args (w.drewN (a + n)) fun e w' => e = .returned v ∧ w.drewN (a + n) = w') :
  Calls P f args (w.drewN (a + n)) fun e w'' => e = .returned v ∧ ∃ m, w'' = w.drewN (a + m) :=
 h.mono fun _ _ ⟨he, hm⟩ => ⟨he, n, hm.symm⟩
def EscPost (g : Nat) (A : Option Addr) (cap : Nat) (bs : List Nat) (i : Nat) (start : Int) (w : World) (e : Ending) (w' : World) : Prop :=
 w.grownBy w' (some g) ∧
 match escS bs i with
 | some (c, j) => e = .returned (.int .u8 (c : Int)) ∧ Rd w' g A cap bs (j : Int) start 0 0
 | none => ∃ c j : Nat, c < 256 ∧ e = .returned (.int .u8 (c : Int)) ∧ Rd w' g A cap bs (j : Int) start 14 (i : Int)
theorem EscPost.yes {g : Nat} {A : Option Addr} {cap : Nat} {bs : List Nat} {i : Nat} {start : Int} {w : World} {e : Ending} {w' : World} {c j : Nat} (hg : w.grownBy w' (some g)) (hs : escS bs i = some (c, j))
  (he : e = .returned (.int .u8 (c : Int))) (hr : Rd w' g A cap bs (j : Int) start 0 0) : EscPost g A cap bs i start w e w' := by
 unfold EscPost; rw [hs]; exact ⟨hg, he, hr⟩
theorem EscPost.no {g : Nat} {A : Option Addr} {cap : Nat} {bs : List Nat} {i : Nat} {start : Int} {w : World} {e : Ending} {w' : World} (c j : Nat) (hg : w.grownBy w' (some g)) (hs : escS bs i = none)
  (hc : c < 256) (he : e = .returned (.int .u8 (c : Int))) (hr : Rd w' g A cap bs (j : Int) start 14 (i : Int)) : EscPost g A cap bs i start w e w' := by
 unfold EscPost; rw [hs]; exact ⟨hg, c, j, hc, he, hr⟩
theorem escape_end (g : Nat) (A : Option Addr) (cap : Nat) (bs : List Nat) (i : Nat) (start : Int) (B : Nat) (w : World) (hr : Rd w g A cap bs (i : Int) start 0 0) (hA : BytesAt w B A bs) (hB : B ≤ g) (h : bs.length = i + 1) : Calls Tryz.prog 244 #[.pointer (some ⟨g, 0, none⟩)] w (EscPost g A cap bs i start w) := by
 obtain ⟨c0, c1, c2, c3, c4, f1, f3, f4⟩ := hr.cells
 have Hr := Lib.hid hr
 have HA := Lib.hid hA
 have Hl := Lib.hid hA.2.1
 have hl := hA.2.1
 have Hh := Lib.hid h
 have hz : ((bs.length : Int) - ((i : Int) + 1) == 0) = true := by simp; omega
 have hi : i < bs.length := by omega
 clear hr hA h
 go_enter Tryz.func244, Tryz.ntmps244
 go_wp2_with fail
 with_reducible refine (left_go g A cap bs _ start 0 0 _ (Hr.out.move _) Hl.out (by omega) (by omega)).mono ?_
 rintro e w1 ⟨rfl, n1, rfl⟩
 go_wp2_with (go_at_call 255; refine (fail0_go g A cap bs _ start 0 _ _ _ ((Hr.out.move _).drewN n1)).mono ?_; rintro e w2 ⟨rfl, hr2, hg2⟩)
 go_light
 go_ret
 exact EscPost.no 0 (i + 1) (only_trans (only_drewN (only_set (only_refl _ _) _ _) _) hg2) (escS_end (by have := Hh.out; omega)) (by decide) rfl (by simpa using hr2)
theorem escape_letter (g : Nat) (A : Option Addr) (cap : Nat) (bs : List Nat) (i : Nat) (start : Int) (B : Nat) (w : World) (hr : Rd w g A cap bs (i : Int) start 0 0) (hA : BytesAt w B A bs) (hB : B ≤ g) (h : i + 1 < bs.length) (k v : Nat) (hk : byteAt bs (i + 1) = k) (hv : k = 110 ∧ v = 10 ∨ k = 116 ∧ v = 9 ∨ k = 114 ∧ v = 13) : Calls Tryz.prog 244 #[.pointer (some ⟨g, 0, none⟩)] w (EscPost g A cap bs i start w) := by
 obtain ⟨c0, c1, c2, c3, c4, f1, f3, f4⟩ := hr.cells
 have Hr := Lib.hid hr
 have HA := Lib.hid hA
 have Hl := Lib.hid hA.2.1
 have hl := hA.2.1
 have hi : i + 1 < bs.length := by omega
 have hz : ((bs.length : Int) - ((i : Int) + 1) == 0) = false := by simp; omega
 have hp0 : (0 : Int) ≤ (i : Int) + 1 := by omega
 have hp1 : (i : Int) + 1 < (bs.length : Int) := by omega
 have hbt := byteAt_lt hA.1 (i + 1)
 obtain ⟨b, o, rfl, hbB, hcell⟩ := hA.2.2 (by omega)
 have hx := hcell (i + 1) (by omega)
 have hbg : b ≠ g := by omega
 clear hr hA hcell
 rw [hk] at hx hbt
 have Hk := Lib.hid hk
 clear hk
 rcases hv with ⟨rfl, rfl⟩ | ⟨rfl, rfl⟩ | ⟨rfl, rfl⟩
 all_goals
  go_enter Tryz.func244, Tryz.ntmps244
  go_wp2_with fail
  with_reducible refine (left_go g (some ⟨b, o, none⟩) cap bs _ start 0 0 _ (Hr.out.move _) Hl.out (by omega) (by omega)).mono ?_
  rintro e w1 ⟨rfl, n1, rfl⟩
  go_wp2
  go_quiet (fail)
  go_wp2
  go_light
  go_ret
  exact EscPost.yes (only_set (only_drewN (only_set (only_refl _ _) _ _) _) _ _) (by first | exact escS_n (by omega) Hk.out | exact escS_t (by omega) Hk.out | exact escS_r (by omega) Hk.out) rfl (by
   rw [show ((i + 2 : Nat) : Int) = (i : Int) + 1 + 1 by omega]; exact (((Hr.out.move _).drewN _).move _))
theorem escape_self (g : Nat) (A : Option Addr) (cap : Nat) (bs : List Nat) (i : Nat) (start : Int) (B : Nat) (w : World) (hr : Rd w g A cap bs (i : Int) start 0 0) (hA : BytesAt w B A bs) (hB : B ≤ g) (h : i + 1 < bs.length) (c : Nat) (hk : byteAt bs (i + 1) = c) (h1 : c ≠ 110) (h2 : c ≠ 116) (h3 : c ≠ 114) (h4 : c ≠ 120) (h5 : 33 ≤ c) (h6 : c ≤ 126) (h7 : isWord c = false) : Calls Tryz.prog 244 #[.pointer (some ⟨g, 0, none⟩)] w (EscPost g A cap bs i start w) := by
 obtain ⟨c0, c1, c2, c3, c4, f1, f3, f4⟩ := hr.cells
 have Hr := Lib.hid hr
 have HA := Lib.hid hA
 have Hl := Lib.hid hA.2.1
 have hl := hA.2.1
 have hi : i + 1 < bs.length := by omega
 have hz : ((bs.length : Int) - ((i : Int) + 1) == 0) = false := by simp; omega
 have hp0 : (0 : Int) ≤ (i : Int) + 1 := by omega
 have hp1 : (i : Int) + 1 < (bs.length : Int) := by omega
 have hbt := byteAt_lt hA.1 (i + 1)
 obtain ⟨b, o, rfl, hbB, hcell⟩ := hA.2.2 (by omega)
 have hx := hcell (i + 1) (by omega)
 have hbg : b ≠ g := by omega
 clear hr hA hcell
 rw [hk] at hx hbt
 have Hk := Lib.hid hk
 have H1 := Lib.hid h1
 have H2 := Lib.hid h2
 have H3 := Lib.hid h3
 have H4 := Lib.hid h4
 have e1 : ((c : Int) == 110) = false := by simp; omega
 have e2 : ((c : Int) == 116) = false := by simp; omega
 have e3 : ((c : Int) == 114) = false := by simp; omega
 have e4 : ((c : Int) == 120) = false := by simp; omega
 clear hk h1 h2 h3 h4
 go_enter Tryz.func244, Tryz.ntmps244
 go_wp2_with fail
 with_reducible refine (left_go g (some ⟨b, o, none⟩) cap bs _ start 0 0 _ (Hr.out.move _) Hl.out (by omega) (by omega)).mono ?_
 rintro e w1 ⟨rfl, n1, rfl⟩
 go_wp2
 go_quiet (fail)
 go_wp2_with (go_at_call 257; refine (letter_go _ _ (by omega) (by omega)).mono ?_; rintro e w2 ⟨rfl, rfl⟩)
 go_light
 go_ret
 exact EscPost.yes (only_set (only_drewN (only_set (only_refl _ _) _ _) _) _ _) (by rw [escS_self (by omega) (by rw [Hk.out]; exact H1.out) (by rw [Hk.out]; exact H2.out) (by rw [Hk.out]; exact H3.out) (by rw [Hk.out]; exact H4.out) (by rw [Hk.out]; exact h5) (by rw [Hk.out]; exact h6) (by rw [Hk.out]; exact h7), Hk.out]) rfl (by
   rw [show ((i + 2 : Nat) : Int) = (i : Int) + 1 + 1 by omega]; exact (((Hr.out.move _).drewN _).move _))
theorem escape_bad (g : Nat) (A : Option Addr) (cap : Nat) (bs : List Nat) (i : Nat) (start : Int) (B : Nat) (w : World) (hr : Rd w g A cap bs (i : Int) start 0 0) (hA : BytesAt w B A bs) (hB : B ≤ g) (h : i + 1 < bs.length) (c : Nat) (hk : byteAt bs (i + 1) = c) (h1 : c ≠ 110) (h2 : c ≠ 116) (h3 : c ≠ 114) (h4 : c ≠ 120) (h5 : c < 33 ∨ 126 < c ∨ isWord c = true) : Calls Tryz.prog 244 #[.pointer (some ⟨g, 0, none⟩)] w (EscPost g A cap bs i start w) := by
 obtain ⟨c0, c1, c2, c3, c4, f1, f3, f4⟩ := hr.cells
 have Hr := Lib.hid hr
 have HA := Lib.hid hA
 have Hl := Lib.hid hA.2.1
 have hl := hA.2.1
 have hi : i + 1 < bs.length := by omega
 have hz : ((bs.length : Int) - ((i : Int) + 1) == 0) = false := by simp; omega
 have hp0 : (0 : Int) ≤ (i : Int) + 1 := by omega
 have hp1 : (i : Int) + 1 < (bs.length : Int) := by omega
 have hbt := byteAt_lt hA.1 (i + 1)
 obtain ⟨b, o, rfl, hbB, hcell⟩ := hA.2.2 (by omega)
 have hx := hcell (i + 1) (by omega)
 have hbg : b ≠ g := by omega
 clear hr hA hcell
 rw [hk] at hx hbt
 have Hk := Lib.hid hk
 have H1 := Lib.hid h1
 have H2 := Lib.hid h2
 have H3 := Lib.hid h3
 have H4 := Lib.hid h4
 have e1 : ((c : Int) == 110) = false := by simp; omega
 have e2 : ((c : Int) == 116) = false := by simp; omega
 have e3 : ((c : Int) == 114) = false := by simp; omega
 have e4 : ((c : Int) == 120) = false := by simp; omega
 clear hk h1 h2 h3 h4
 by_cases h6 : c < 33
 ·clear h5
  go_enter Tryz.func244, Tryz.ntmps244
  go_wp2_with fail
  with_reducible refine (left_go g (some ⟨b, o, none⟩) cap bs _ start 0 0 _ (Hr.out.move _) Hl.out (by omega) (by omega)).mono ?_
  rintro e w1 ⟨rfl, n1, rfl⟩
  go_wp2
  go_quiet (fail)
  go_wp2_with (first
  | (go_at_call 257; refine (letter_go _ _ (by omega) (by omega)).mono ?_; rintro e w2 ⟨rfl, rfl⟩)
  | (go_at_call 255; refine (fail0_go g (some ⟨b, o, none⟩) cap bs _ start 0 _ _ _ (((Hr.out.move _).drewN _).move _)).mono ?_; rintro e w2 ⟨rfl, hr2, hg2⟩))
  go_light
  go_ret
  exact EscPost.no c (i + 2) (only_trans (only_set (only_drewN (only_set (only_refl _ _) _ _) _) _ _) hg2) (escS_bad (by omega) (by rw [Hk.out]; exact H1.out) (by rw [Hk.out]; exact H2.out) (by rw [Hk.out]; exact H3.out) (by rw [Hk.out]; exact H4.out) (by rw [Hk.out]; exact .inl h6)) (by omega) rfl (by
    rw [show ((i + 2 : Nat) : Int) = (i : Int) + 1 + 1 by omega]; exact hr2)
 ·by_cases h7 : 126 < c
  ·clear h5
   go_enter Tryz.func244, Tryz.ntmps244
   go_wp2_with fail
   with_reducible refine (left_go g (some ⟨b, o, none⟩) cap bs _ start 0 0 _ (Hr.out.move _) Hl.out (by omega) (by omega)).mono ?_
   rintro e w1 ⟨rfl, n1, rfl⟩
   go_wp2
   go_quiet (fail)
   go_wp2_with (first
  | (go_at_call 257; refine (letter_go _ _ (by omega) (by omega)).mono ?_; rintro e w2 ⟨rfl, rfl⟩)
  | (go_at_call 255; refine (fail0_go g (some ⟨b, o, none⟩) cap bs _ start 0 _ _ _ (((Hr.out.move _).drewN _).move _)).mono ?_; rintro e w2 ⟨rfl, hr2, hg2⟩))
   go_light
   go_ret
   exact EscPost.no c (i + 2) (only_trans (only_set (only_drewN (only_set (only_refl _ _) _ _) _) _ _) hg2) (escS_bad (by omega) (by rw [Hk.out]; exact H1.out) (by rw [Hk.out]; exact H2.out) (by rw [Hk.out]; exact H3.out) (by rw [Hk.out]; exact H4.out) (by rw [Hk.out]; exact .inr (.inl h7))) (by omega) rfl (by
     rw [show ((i + 2 : Nat) : Int) = (i : Int) + 1 + 1 by omega]; exact hr2)
  ·have h8 : isWord c = true := by rcases h5 with h | h | h; omega; omega; exact h
   clear h5
   go_enter Tryz.func244, Tryz.ntmps244
   go_wp2_with fail
   with_reducible refine (left_go g (some ⟨b, o, none⟩) cap bs _ start 0 0 _ (Hr.out.move _) Hl.out (by omega) (by omega)).mono ?_
   rintro e w1 ⟨rfl, n1, rfl⟩
   go_wp2
   go_quiet (fail)
   go_wp2_with (first
  | (go_at_call 257; refine (letter_go _ _ (by omega) (by omega)).mono ?_; rintro e w2 ⟨rfl, rfl⟩)
  | (go_at_call 255; refine (fail0_go g (some ⟨b, o, none⟩) cap bs _ start 0 _ _ _ (((Hr.out.move _).drewN _).move _)).mono ?_; rintro e w2 ⟨rfl, hr2, hg2⟩))
   go_light
   go_ret
   exact EscPost.no c (i + 2) (only_trans (only_set (only_drewN (only_set (only_refl _ _) _ _) _) _ _) hg2) (escS_bad (by omega) (by rw [Hk.out]; exact H1.out) (by rw [Hk.out]; exact H2.out) (by rw [Hk.out]; exact H3.out) (by rw [Hk.out]; exact H4.out) (by rw [Hk.out]; exact .inr (.inr h8))) (by omega) rfl (by
     rw [show ((i + 2 : Nat) : Int) = (i : Int) + 1 + 1 by omega]; exact hr2)
theorem escape_xend (g : Nat) (A : Option Addr) (cap : Nat) (bs : List Nat) (i : Nat) (start : Int) (B : Nat) (w : World) (hr : Rd w g A cap bs (i : Int) start 0 0) (hA : BytesAt w B A bs) (hB : B ≤ g) (h : i + 1 < bs.length) (hk : byteAt bs (i + 1) = 120) (h2 : bs.length ≤ i + 3) : Calls Tryz.prog 244 #[.pointer (some ⟨g, 0, none⟩)] w (EscPost g A cap bs i start w) := by
 obtain ⟨c0, c1, c2, c3, c4, f1, f3, f4⟩ := hr.cells
 have Hr := Lib.hid hr
 have HA := Lib.hid hA
 have Hl := Lib.hid hA.2.1
 have hl := hA.2.1
 have hi : i + 1 < bs.length := by omega
 have hz : ((bs.length : Int) - ((i : Int) + 1) == 0) = false := by simp; omega
 have hp0 : (0 : Int) ≤ (i : Int) + 1 := by omega
 have hp1 : (i : Int) + 1 < (bs.length : Int) := by omega
 have hbt := byteAt_lt hA.1 (i + 1)
 obtain ⟨b, o, rfl, hbB, hcell⟩ := hA.2.2 (by omega)
 have hx := hcell (i + 1) (by omega)
 have hbg : b ≠ g := by omega
 clear hr hA hcell
 rw [hk] at hx hbt
 have Hk := Lib.hid hk
 have hz2 : (bs.length : Int) - ((i : Int) + 1 + 1) < 2 := by omega
 clear hk
 go_enter Tryz.func244, Tryz.ntmps244
 go_wp2_with fail
 with_reducible refine (left_go g (some ⟨b, o, none⟩) cap bs _ start 0 0 _ (Hr.out.move _) Hl.out (by omega) (by omega)).mono ?_
 rintro e w1 ⟨rfl, n1, rfl⟩
 go_wp2
 go_quiet (fail)
 go_wp2_with (first
  | (go_at_call 254; refine (left_go g (some ⟨b, o, none⟩) cap bs _ start 0 0 _ (((Hr.out.move _).drewN _).move _) Hl.out (by omega) (by omega)).mono ?_; rintro e w3 ⟨rfl, n3, rfl⟩)
  | (go_at_call 257; refine (letter_go _ _ (by omega) (by omega)).mono ?_; rintro e w2 ⟨rfl, rfl⟩)
  | (go_at_call 255; refine (fail0_go g (some ⟨b, o, none⟩) cap bs _ start 0 _ _ _ ((((Hr.out.move _).drewN _).move _).drewN _)).mono ?_; rintro e w2 ⟨rfl, hr2, hg2⟩))
 go_light
 go_ret
 exact EscPost.no 120 (i + 2) (only_trans (only_drewN (only_set (only_drewN (only_set (only_refl _ _) _ _) _) _ _) _) hg2) (escS_xend (by omega) Hk.out h2) (by decide) rfl (by
   rw [show ((i + 2 : Nat) : Int) = (i : Int) + 1 + 1 by omega]; exact hr2)
end Go.Proofs.YtofbfafnpdaejaaGreatDoor
