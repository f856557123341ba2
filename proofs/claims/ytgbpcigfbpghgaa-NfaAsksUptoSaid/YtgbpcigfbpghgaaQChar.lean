/-
  The contract of the program's reader of chars.
-/
import Derived.Test.YtgbpcigfbpghgaaQEscapeX
namespace Go.Proofs.Ytgbpcigfbpghgaa
open Go.RowKit
set_option linter.unusedSimpArgs false
set_option linter.unusedVariables false
set_option maxRecDepth 100000

theorem special_is (c : Nat) (v : Bool) (w : World) (h1 : c < 256) (h : isSpecial c = v) :
    Calls Try.prog 133 #[.int .u8 (c : Int)] w fun e w' => e = .returned (.bool v) ∧ w = w' :=
  (special_go c w (by omega) (by omega)).mono fun _ _ q => by rw [Int.toNat_natCast, h] at q; exact q

/-- What the reader of a char leaves behind. -/
def CharPost (g : Nat) (A : Option Addr) (cap : Nat) (bs : List Nat) (i s : Nat) (w : World) (e : Ending) (w' : World) : Prop :=
  w.grownBy w' (some g) ∧
  match charS bs s i with
  | .ok (c, j) => e = .returned (.int .u8 (c : Int)) ∧ Rd w' g A cap bs (j : Int) (s : Int) 0 0
  | .error (k, p) => k ≠ 0 ∧ ∃ c j : Nat, c < 256 ∧ e = .returned (.int .u8 (c : Int)) ∧ Rd w' g A cap bs (j : Int) (s : Int) k p
theorem CharPost.yes {g : Nat} {A : Option Addr} {cap : Nat} {bs : List Nat} {i s : Nat} {w : World} {e : Ending} {w' : World} {c j : Nat} (hg : w.grownBy w' (some g)) (hs : charS bs s i = .ok (c, j))
    (he : e = .returned (.int .u8 (c : Int))) (hr : Rd w' g A cap bs (j : Int) (s : Int) 0 0) : CharPost g A cap bs i s w e w' := by
  unfold CharPost; rw [hs]; exact ⟨hg, he, hr⟩
theorem CharPost.no {g : Nat} {A : Option Addr} {cap : Nat} {bs : List Nat} {i s : Nat} {w : World} {e : Ending} {w' : World} {k p : Int} (c j : Nat) (hg : w.grownBy w' (some g)) (hs : charS bs s i = .error (k, p)) (hk : k ≠ 0)
    (hc : c < 256) (he : e = .returned (.int .u8 (c : Int))) (hr : Rd w' g A cap bs (j : Int) (s : Int) k p) : CharPost g A cap bs i s w e w' := by
  unfold CharPost; rw [hs]; exact ⟨hg, hk, c, j, hc, he, hr⟩

set_option maxHeartbeats 2000000 in
theorem char_end (g : Nat) (A : Option Addr) (cap : Nat) (bs : List Nat) (i s : Nat) (B : Nat) (w : World) (hr : Rd w g A cap bs (i : Int) (s : Int) 0 0) (hA : BytesAt w B A bs) (hB : B ≤ g) (h : bs.length = i) : Calls Try.prog 130 #[.pointer (some ⟨g, 0, none⟩)] w (CharPost g A cap bs i s w) := by
  obtain ⟨c0, c1, c2, c3, c4, f1, f3, f4⟩ := hr.cells
  have Hr := Lib.hid hr
  have HA := Lib.hid hA
  have Hl := Lib.hid hA.2.1
  have hl := hA.2.1
  have Hh := Lib.hid h
  have hz : ((bs.length : Int) - (i : Int) == 0) = true := by simp; omega
  have hi : i ≤ bs.length := by omega
  clear hr hA h
  go_enter Try.func130, Try.ntmps130
  go_wp2_with fail
  with_reducible refine (left_go g A cap bs _ _ 0 0 _ Hr.out Hl.out (by omega) (by omega)).mono ?_
  rintro e w1 ⟨rfl, n1, rfl⟩
  go_wp2_with (go_at_call 127; refine (fail0_go g A cap bs _ _ 0 _ _ _ (Hr.out.drewN n1)).mono ?_; rintro e w2 ⟨rfl, hr2, hg2⟩)
  go_light
  go_ret
  exact CharPost.no 0 i (only_trans (only_drewN (only_refl _ _) _) hg2) (charS_end (by have := Hh.out; omega)) (by decide) (by decide) rfl hr2

set_option maxHeartbeats 2000000 in
theorem char_esc (g : Nat) (A : Option Addr) (cap : Nat) (bs : List Nat) (i s : Nat) (B : Nat) (w : World) (hr : Rd w g A cap bs (i : Int) (s : Int) 0 0) (hA : BytesAt w B A bs) (hB : B ≤ g) (h : i < bs.length) (hc : byteAt bs i = 92) : Calls Try.prog 130 #[.pointer (some ⟨g, 0, none⟩)] w (CharPost g A cap bs i s w) := by
  obtain ⟨c0, c1, c2, c3, c4, f1, f3, f4⟩ := hr.cells
  have Hr := Lib.hid hr
  have HA := Lib.hid hA
  have Hl := Lib.hid hA.2.1
  have hl := hA.2.1
  have hz : ((bs.length : Int) - (i : Int) == 0) = false := by simp; omega
  have hp0 : (0 : Int) ≤ (i : Int) := by omega
  have hp1 : (i : Int) < (bs.length : Int) := by omega
  have hbt := byteAt_lt hA.1 i
  have hat := hasAt_in (bs := bs) 92 h
  obtain ⟨b, o, rfl, hbB, hcell⟩ := hA.2.2 (by omega)
  have hx := hcell i (by omega)
  have hbg : b ≠ g := by omega
  obtain ⟨c, hk⟩ : ∃ c, byteAt bs i = c := ⟨_, rfl⟩
  rw [hk] at hx hbt hat
  have Hk := Lib.hid hk
  have hb : hasAt bs (i : Int) 92 = true := by rw [hat]; simp; omega
  have Hc := Lib.hid hc
  clear hr hA hcell hk hat hc
  cases he : escS bs i with
  | none =>
    have He := Lib.hid he
    clear he
    go_enter Try.func130, Try.ntmps130
    go_wp2_with fail
    with_reducible refine (left_go g (some ⟨b, o, none⟩) cap bs _ _ 0 0 _ Hr.out Hl.out (by omega) (by omega)).mono ?_
    rintro e w1 ⟨rfl, n1, rfl⟩
    go_wp2_with fail
    with_reducible refine (here_go g (some ⟨b, o, none⟩) cap bs (i : Int) _ _ _ _ B _ (Hr.out.drewN n1) (HA.out.drewN n1) (by omega) (by omega)).mono ?_
    rintro e w2 ⟨rfl, n2, rfl⟩
    go_wp2_with (go_at_call 117; refine (escape_go g (some ⟨b, o, none⟩) cap bs i _ B _ (Hr.out.drewN (n1 + n2)) (HA.out.drewN (n1 + n2)) hB h).mono ?_; rintro e w3 hp; unfold EscPost at hp; rw [He.out] at hp; obtain ⟨hg3, c', j', hc', rfl, hr3⟩ := hp)
    go_light
    go_ret
    exact CharPost.no c' j' (only_trans (only_drewN (only_refl _ _) _) hg3) (charS_bad h Hc.out He.out) (by decide) hc' rfl hr3
  | some x =>
    obtain ⟨c', j'⟩ := x
    have He := Lib.hid he
    clear he
    go_enter Try.func130, Try.ntmps130
    go_wp2_with fail
    with_reducible refine (left_go g (some ⟨b, o, none⟩) cap bs _ _ 0 0 _ Hr.out Hl.out (by omega) (by omega)).mono ?_
    rintro e w1 ⟨rfl, n1, rfl⟩
    go_wp2_with fail
    with_reducible refine (here_go g (some ⟨b, o, none⟩) cap bs (i : Int) _ _ _ _ B _ (Hr.out.drewN n1) (HA.out.drewN n1) (by omega) (by omega)).mono ?_
    rintro e w2 ⟨rfl, n2, rfl⟩
    go_wp2_with (go_at_call 117; refine (escape_go g (some ⟨b, o, none⟩) cap bs i _ B _ (Hr.out.drewN (n1 + n2)) (HA.out.drewN (n1 + n2)) hB h).mono ?_; rintro e w3 hp; unfold EscPost at hp; rw [He.out] at hp; obtain ⟨hg3, rfl, hr3⟩ := hp)
    go_light
    go_ret
    exact CharPost.yes (only_trans (only_drewN (only_refl _ _) _) hg3) (charS_esc h Hc.out He.out) rfl hr3

set_option maxHeartbeats 2000000 in
theorem char_special (g : Nat) (A : Option Addr) (cap : Nat) (bs : List Nat) (i s : Nat) (B : Nat) (w : World) (hr : Rd w g A cap bs (i : Int) (s : Int) 0 0) (hA : BytesAt w B A bs) (hB : B ≤ g) (h : i < bs.length) (hc : byteAt bs i ≠ 92) (hs : isSpecial (byteAt bs i) = true) : Calls Try.prog 130 #[.pointer (some ⟨g, 0, none⟩)] w (CharPost g A cap bs i s w) := by
  obtain ⟨c0, c1, c2, c3, c4, f1, f3, f4⟩ := hr.cells
  have Hr := Lib.hid hr
  have HA := Lib.hid hA
  have Hl := Lib.hid hA.2.1
  have hl := hA.2.1
  have hz : ((bs.length : Int) - (i : Int) == 0) = false := by simp; omega
  have hp0 : (0 : Int) ≤ (i : Int) := by omega
  have hp1 : (i : Int) < (bs.length : Int) := by omega
  have hbt := byteAt_lt hA.1 i
  have hat := hasAt_in (bs := bs) 92 h
  obtain ⟨b, o, rfl, hbB, hcell⟩ := hA.2.2 (by omega)
  have hx := hcell i (by omega)
  have hbg : b ≠ g := by omega
  obtain ⟨c, hk⟩ : ∃ c, byteAt bs i = c := ⟨_, rfl⟩
  rw [hk] at hx hbt hat
  have Hk := Lib.hid hk
  rw [hk] at hs
  have hb : hasAt bs (i : Int) 92 = false := by rw [hat]; simp; omega
  have Hc := Lib.hid hc
  clear hr hA hcell hk hat hc
  go_enter Try.func130, Try.ntmps130
  go_wp2_with fail
  with_reducible refine (left_go g (some ⟨b, o, none⟩) cap bs _ _ 0 0 _ Hr.out Hl.out (by omega) (by omega)).mono ?_
  rintro e w1 ⟨rfl, n1, rfl⟩
  go_wp2_with fail
  with_reducible refine (here_go g (some ⟨b, o, none⟩) cap bs (i : Int) _ _ _ _ B _ (Hr.out.drewN n1) (HA.out.drewN n1) (by omega) (by omega)).mono ?_
  rintro e w2 ⟨rfl, n2, rfl⟩
  go_wp2
  go_quiet ((go_at_call 133; exact quiet_add_left (special_is c true _ hbt hs)))
  go_wp2_with (go_at_call 127; refine (fail0_go g (some ⟨b, o, none⟩) cap bs _ _ 0 _ _ _ (Hr.out.drewN _)).mono ?_; rintro e w2 ⟨rfl, hr2, hg2⟩)
  go_light
  go_ret
  exact CharPost.no 0 i (only_trans (only_drewN (only_refl _ _) _) hg2) (charS_special h Hc.out (by rw [Hk.out]; exact hs)) (by decide) (by decide) rfl hr2

set_option maxHeartbeats 2000000 in
theorem char_self (g : Nat) (A : Option Addr) (cap : Nat) (bs : List Nat) (i s : Nat) (B : Nat) (w : World) (hr : Rd w g A cap bs (i : Int) (s : Int) 0 0) (hA : BytesAt w B A bs) (hB : B ≤ g) (h : i < bs.length) (hc : byteAt bs i ≠ 92) (hs : isSpecial (byteAt bs i) = false) : Calls Try.prog 130 #[.pointer (some ⟨g, 0, none⟩)] w (CharPost g A cap bs i s w) := by
  obtain ⟨c0, c1, c2, c3, c4, f1, f3, f4⟩ := hr.cells
  have Hr := Lib.hid hr
  have HA := Lib.hid hA
  have Hl := Lib.hid hA.2.1
  have hl := hA.2.1
  have hz : ((bs.length : Int) - (i : Int) == 0) = false := by simp; omega
  have hp0 : (0 : Int) ≤ (i : Int) := by omega
  have hp1 : (i : Int) < (bs.length : Int) := by omega
  have hbt := byteAt_lt hA.1 i
  have hat := hasAt_in (bs := bs) 92 h
  obtain ⟨b, o, rfl, hbB, hcell⟩ := hA.2.2 (by omega)
  have hx := hcell i (by omega)
  have hbg : b ≠ g := by omega
  obtain ⟨c, hk⟩ : ∃ c, byteAt bs i = c := ⟨_, rfl⟩
  rw [hk] at hx hbt hat
  have Hk := Lib.hid hk
  rw [hk] at hs
  have hb : hasAt bs (i : Int) 92 = false := by rw [hat]; simp; omega
  have Hc := Lib.hid hc
  clear hr hA hcell hk hat hc
  go_enter Try.func130, Try.ntmps130
  go_wp2_with fail
  with_reducible refine (left_go g (some ⟨b, o, none⟩) cap bs _ _ 0 0 _ Hr.out Hl.out (by omega) (by omega)).mono ?_
  rintro e w1 ⟨rfl, n1, rfl⟩
  go_wp2_with fail
  with_reducible refine (here_go g (some ⟨b, o, none⟩) cap bs (i : Int) _ _ _ _ B _ (Hr.out.drewN n1) (HA.out.drewN n1) (by omega) (by omega)).mono ?_
  rintro e w2 ⟨rfl, n2, rfl⟩
  go_wp2
  go_quiet ((go_at_call 133; exact quiet_add_left (special_is c false _ hbt hs)))
  go_wp2_with fail
  go_quiet (fail)
  go_wp2
  go_light
  go_ret
  exact CharPost.yes (only_drewN (only_set (only_drewN (only_refl _ _) _) _ _) _) (charS_self h Hc.out (by rw [Hk.out]; exact hs)) (by rw [Hk.out]; rfl) ((Hr.out.drewN _).move _)

theorem char_go (g : Nat) (A : Option Addr) (cap : Nat) (bs : List Nat) (i s : Nat) (B : Nat) (w : World) (hr : Rd w g A cap bs (i : Int) (s : Int) 0 0) (hA : BytesAt w B A bs) (hB : B ≤ g) (hi : i ≤ bs.length) : Calls Try.prog 130 #[.pointer (some ⟨g, 0, none⟩)] w (CharPost g A cap bs i s w) := by
  by_cases h0 : bs.length = i
  · exact char_end g A cap bs i s B w hr hA hB h0
  by_cases h1 : byteAt bs i = 92
  · exact char_esc g A cap bs i s B w hr hA hB (by omega) h1
  cases h2 : isSpecial (byteAt bs i)
  · exact char_self g A cap bs i s B w hr hA hB (by omega) h1 h2
  · exact char_special g A cap bs i s B w hr hA hB (by omega) h1 h2

end Go.Proofs.Ytgbpcigfbpghgaa
