/- Texts of the claim. -/
import Derived.Deep.QuietTactic
import Derived.BigQuiet
import Derived.Test.YtofbfafnpdaejaaGreatDoorLZ03
namespace Go.Proofs.YtofbfafnpdaejaaGreatDoor
open Go.RowKit
set_option linter.unusedSimpArgs false
set_option linter.unusedVariables false
set_option maxRecDepth 100000
set_option maxHeartbeats 8000000
theorem word_noSet (i : Nat) : word noSet i = 0 := word_none i
theorem put_no (S b o len cap : Nat) (i : Int) (v : Value) (k q : Int) (N : Nat) (L : List Lex) (kind place lo hi next : Int) (W : World) (hS : Spl W S b o len cap i v k q) (hrow : W.ownsRow N 143 8 v L.length (lexCells L)) (hN : N ≤ S) (hL : L.length ≤ 100000) :
  Calls Tryz.prog 231 #[.pointer (some ⟨S, 0, none⟩), .agg #[.int .i64 kind, .int .i64 place, .int .u64 0, .int .u64 0, .int .u64 0, .int .u64 0, .int .i64 lo, .int .i64 hi], .int .i64 next] W (Took S b o len cap N L ⟨kind, i, noSet, lo, hi⟩ next k q W) := by
 have h := put_go S b o len cap i v k q N L ⟨kind, place, noSet, lo, hi⟩ next W hS hrow hN hL
 simp only [word_noSet] at h
 exact h
def Quiet (v : Value) (W : World) (e : Ending) (W' : World) : Prop := e = .returned v ∧ ∃ n, W' = W.drewN n
theorem sign_no (S b o cap : Nat) (bs : List Nat) (i : Nat) (v : Value) (N : Nat) (W : World) (hS : Spl W S b o bs.length cap i v 0 0) (hA : BytesAt W N (some ⟨b, o, none⟩) bs) (h0 : i < bs.length) (hk : signKind (byteAt bs i) = 0) :
  Calls Tryz.prog 198 #[.pointer (some ⟨S, 0, none⟩)] W (Quiet (.bool false) W) := by
 obtain ⟨s0, s1, s2, s3, s4, f0, f1, f2, f3, f4⟩ := hS.cells
 have hcell := bytesAt_cells hA i h0
 have hl := hA.2.1
 have hc256 := byteAt_lt hA.1 i
 generalize byteAt bs i = c at *
 have hne : c ≠ 40 ∧ c ≠ 41 ∧ c ≠ 124 ∧ c ≠ 42 ∧ c ≠ 43 ∧ c ≠ 63 := by
  unfold signKind at hk
  refine ⟨?_, ?_, ?_, ?_, ?_, ?_⟩ <;> (rintro rfl; revert hk; decide)
 obtain ⟨a1, a2, a3, a4, a5, a6⟩ := hne
 have b1 : ((c : Int) == 40) = false := by simp; omega
 have b2 : ((c : Int) == 41) = false := by simp; omega
 have b3 : ((c : Int) == 124) = false := by simp; omega
 have b4 : ((c : Int) == 42) = false := by simp; omega
 have b5 : ((c : Int) == 43) = false := by simp; omega
 have b6 : ((c : Int) == 63) = false := by simp; omega
 clear hS hA hk a1 a2 a3 a4 a5 a6
 go_enter Tryz.func198, Tryz.ntmps198
 go_wp2
 go_quiet (fail)
 go_wp2
 go_light
 go_ret
 exact ⟨rfl, _, rfl⟩
theorem sign_yes (S b o cap : Nat) (bs : List Nat) (i : Nat) (v : Value) (N : Nat) (L : List Lex) (W : World) (hS : Spl W S b o bs.length cap i v 0 0) (hrow : W.ownsRow N 143 8 v L.length (lexCells L)) (hN : N ≤ S) (hL : L.length ≤ 100000) (hA : BytesAt W N (some ⟨b, o, none⟩) bs) (h0 : i < bs.length) (hk : signKind (byteAt bs i) ≠ 0) :
  Calls Tryz.prog 198 #[.pointer (some ⟨S, 0, none⟩)] W fun e W' => e = .returned (.bool true) ∧ Below N W W' ∧ ∃ v', Spl W' S b o bs.length cap ((i : Int) + 1) v' 0 0 ∧ W'.ownsRow N 143 8 v' (L.length + 1) (lexCells (L ++ [⟨signKind (byteAt bs i), i, noSet, 0, 0⟩])) := by
 obtain ⟨s0, s1, s2, s3, s4, f0, f1, f2, f3, f4⟩ := hS.cells
 have hcell := bytesAt_cells hA i h0
 have hl := hA.2.1
 have hc256 := byteAt_lt hA.1 i
 have hlt := Blk.lt hS
 have hi2 : i < 140737488355328 := by omega
 have hcs : byteAt bs i = 40 ∨ byteAt bs i = 41 ∨ byteAt bs i = 124 ∨ byteAt bs i = 42 ∨ byteAt bs i = 43 ∨ byteAt bs i = 63 := by
  unfold signKind at hk
  by_cases a1 : byteAt bs i = 40
  ·omega
  by_cases a2 : byteAt bs i = 41
  ·omega
  by_cases a3 : byteAt bs i = 124
  ·omega
  by_cases a4 : byteAt bs i = 42
  ·omega
  by_cases a5 : byteAt bs i = 43
  ·omega
  by_cases a6 : byteAt bs i = 63
  ·omega
  rw [if_neg a1, if_neg a2, if_neg a3, if_neg a4, if_neg a5, if_neg a6] at hk
  exact absurd rfl hk
 have hP := fun (kd : Int) (n : Nat) => put_no S b o bs.length cap i v 0 0 N L kd 0 0 0 ((i : Int) + 1) (W.drewN n) hS hrow hN hL
 have HP := Lib.hid hP
 clear hS hA hk hP hrow
 rcases hcs with hc | hc | hc | hc | hc | hc
 ·rw [hc] at hcell
  have HK := Lib.hid (show signKind (byteAt bs i) = 2 by rw [hc]; rfl)
  clear hc hc256
  go_enter Tryz.func198, Tryz.ntmps198
  go_wp2
  go_quiet (fail)
  go_wp2_with fail
  refine (HP.out 2 _).mono ?_
  rintro e w4 ⟨rfl, hb4, hv4⟩
  have HV := Lib.hid hv4
  have HB4 := Lib.hid hb4
  clear hv4 hb4
  go_wp2
  go_light
  go_ret
  exact ⟨rfl, (bel_drewN (Below.refl N W) _).trans HB4.out, by rw [HK.out]; exact HV.out⟩
 ·rw [hc] at hcell
  have HK := Lib.hid (show signKind (byteAt bs i) = 3 by rw [hc]; rfl)
  clear hc hc256
  go_enter Tryz.func198, Tryz.ntmps198
  go_wp2
  go_quiet (fail)
  go_wp2_with fail
  refine (HP.out 3 _).mono ?_
  rintro e w4 ⟨rfl, hb4, hv4⟩
  have HV := Lib.hid hv4
  have HB4 := Lib.hid hb4
  clear hv4 hb4
  go_wp2
  go_light
  go_ret
  exact ⟨rfl, (bel_drewN (Below.refl N W) _).trans HB4.out, by rw [HK.out]; exact HV.out⟩
 ·rw [hc] at hcell
  have HK := Lib.hid (show signKind (byteAt bs i) = 4 by rw [hc]; rfl)
  clear hc hc256
  go_enter Tryz.func198, Tryz.ntmps198
  go_wp2
  go_quiet (fail)
  go_wp2_with fail
  refine (HP.out 4 _).mono ?_
  rintro e w4 ⟨rfl, hb4, hv4⟩
  have HV := Lib.hid hv4
  have HB4 := Lib.hid hb4
  clear hv4 hb4
  go_wp2
  go_light
  go_ret
  exact ⟨rfl, (bel_drewN (Below.refl N W) _).trans HB4.out, by rw [HK.out]; exact HV.out⟩
 ·rw [hc] at hcell
  have HK := Lib.hid (show signKind (byteAt bs i) = 5 by rw [hc]; rfl)
  clear hc hc256
  go_enter Tryz.func198, Tryz.ntmps198
  go_wp2
  go_quiet (fail)
  go_wp2_with fail
  refine (HP.out 5 _).mono ?_
  rintro e w4 ⟨rfl, hb4, hv4⟩
  have HV := Lib.hid hv4
  have HB4 := Lib.hid hb4
  clear hv4 hb4
  go_wp2
  go_light
  go_ret
  exact ⟨rfl, (bel_drewN (Below.refl N W) _).trans HB4.out, by rw [HK.out]; exact HV.out⟩
 ·rw [hc] at hcell
  have HK := Lib.hid (show signKind (byteAt bs i) = 6 by rw [hc]; rfl)
  clear hc hc256
  go_enter Tryz.func198, Tryz.ntmps198
  go_wp2
  go_quiet (fail)
  go_wp2_with fail
  refine (HP.out 6 _).mono ?_
  rintro e w4 ⟨rfl, hb4, hv4⟩
  have HV := Lib.hid hv4
  have HB4 := Lib.hid hb4
  clear hv4 hb4
  go_wp2
  go_light
  go_ret
  exact ⟨rfl, (bel_drewN (Below.refl N W) _).trans HB4.out, by rw [HK.out]; exact HV.out⟩
 ·rw [hc] at hcell
  have HK := Lib.hid (show signKind (byteAt bs i) = 7 by rw [hc]; rfl)
  clear hc hc256
  go_enter Tryz.func198, Tryz.ntmps198
  go_wp2
  go_quiet (fail)
  go_wp2_with fail
  refine (HP.out 7 _).mono ?_
  rintro e w4 ⟨rfl, hb4, hv4⟩
  have HV := Lib.hid hv4
  have HB4 := Lib.hid hb4
  clear hv4 hb4
  go_wp2
  go_light
  go_ret
  exact ⟨rfl, (bel_drewN (Below.refl N W) _).trans HB4.out, by rw [HK.out]; exact HV.out⟩
end Go.Proofs.YtofbfafnpdaejaaGreatDoor
