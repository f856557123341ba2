/- Texts of the claim. -/
import Derived.Test.YtfekpkelmliejaaGreatDoorQZ01
import Derived.Test.YtfekpkelmliejaaGreatDoorQPieces
import Derived.Test.YtfekpkelmliejaaGreatDoorQZ03
namespace Go.Proofs.YtfekpkelmliejaaGreatDoor
open Go.RowKit
set_option linter.unusedSimpArgs false
set_option linter.unusedVariables false
set_option maxRecDepth 100000
set_option maxHeartbeats 8000000
theorem cuts_text_len (p : Nat → Bool) : (piecesS (cutsOf p)).length ≤ 2304 := by
 have h1 := piecesS_len (cutsOf p)
 have h2 := cuts_len p
 omega
theorem str_turned {p : Nat → Bool} (h : isTurned p = true) : ((⟨#[91, 94]⟩ : ByteArray) ++ strOf (piecesS (cutsOf (fun c => !p c)))) ++ ⟨#[93]⟩ = strOf (showS p) := by
 rw [showS_turned h, show (⟨#[91, 94]⟩ : ByteArray) = strOf [91, 94] from rfl, show (⟨#[93]⟩ : ByteArray) = strOf [93] from rfl, strOf_append, strOf_append, List.append_assoc]
theorem str_plain {p : Nat → Bool} (h : isTurned p = false) : ((⟨#[91]⟩ : ByteArray) ++ strOf (piecesS (cutsOf p))) ++ ⟨#[93]⟩ = strOf (showS p) := by
 rw [showS_plain h, show (⟨#[91]⟩ : ByteArray) = strOf [91] from rfl, show (⟨#[93]⟩ : ByteArray) = strOf [93] from rfl, strOf_append, strOf_append, List.append_assoc]
theorem turned_cases (p : Nat → Bool) : ((elems p 256).length = 0 ∧ isTurned p = true) ∨ (0 < (elems p 256).length ∧ 128 < (elems p 256).length ∧ (elems p 256).length < 256 ∧ isTurned p = true) ∨
  (0 < (elems p 256).length ∧ (elems p 256).length ≤ 128 ∧ isTurned p = false) ∨ (0 < (elems p 256).length ∧ 128 < (elems p 256).length ∧ 256 ≤ (elems p 256).length ∧ isTurned p = false) := by
 unfold isTurned
 generalize (elems p 256).length = n
 by_cases e0 : n = 0
 ·exact .inl ⟨e0, by simp [e0]⟩
 by_cases e1 : n ≤ 128
 ·exact .inr (.inr (.inl ⟨by omega, e1, by simp; omega⟩))
 by_cases e2 : n < 256
 ·exact .inr (.inl ⟨by omega, by omega, e2, by simp; omega⟩)
 ·exact .inr (.inr (.inr ⟨by omega, by omega, by omega, by simp; omega⟩))
theorem rshow_go (p : Nat → Bool) (w : World) :
  Calls Tryz.prog 219 #[.agg #[.int .u64 (word p 0), .int .u64 (word p 1), .int .u64 (word p 2), .int .u64 (word p 3)]] w fun e W' => e = .returned (.string (strOf (showS p))) ∧ Below w.heap.size w W' := by
 rcases turned_cases p with ⟨h0, ht⟩ | ⟨h0, h1, h2, ht⟩ | ⟨h0, h1, ht⟩ | ⟨h0, h1, h2, ht⟩
 ·have Ht := Lib.hid ht
  have Hn := Lib.hid h0
  clear ht h0
  go_enter Tryz.func219, Tryz.ntmps219
  go_wp2_with fail
  refine (rbytes_go p _).mono ?_
  rintro e w1 ⟨v, rfl, hrow, hb1⟩
  obtain ⟨A, cap, rfl⟩ := own_slice hrow
  have HB1 := Lib.hid (((Below.refl w.heap.size w).alloc (Nat.le_refl _) _).trans (hb1.mono (by simp)))
  have hs1 : Blk w1 w.heap.size 25 #[.int .u64 (word p 0), .int .u64 (word p 1), .int .u64 (word p 2), .int .u64 (word p 3)] := (Blk.new w 25 #[.int .u64 (word p 0), .int .u64 (word p 1), .int .u64 (word p 2), .int .u64 (word p 3)]).below hb1 (by simp)
  obtain ⟨s0, s1, s2, s3, f0, f1, f2, f3⟩ := hs1.c4
  have hl := elems_len p 256
  clear hrow hb1 hs1
  have H1 := Lib.hid (cuts_text_len p)
  have H2 := Lib.hid (cuts_text_len (fun c => !p c))
  generalize (elems p 256).length = n at *
  have h0 : n = 0 := Hn.out; subst h0
  go_wp2_with fail
  refine (rnot_any p _).mono ?_
  rintro e w2 ⟨rfl, hb2⟩
  have HB2 := Lib.hid (HB1.out.trans (hb2.mono HB1.out.size))
  clear hb2
  go_wp2_with fail
  refine (pieces_go (fun c => !p c) _).mono ?_
  rintro e w3 ⟨rfl, hb3⟩
  have HB3 := Lib.hid (HB2.out.trans (hb3.mono HB2.out.size))
  have h2 := H2.out
  clear hb3
  go_wp2
  go_light
  go_ret
  exact ⟨ret_s (str_turned Ht.out), HB3.out⟩
 ·have Ht := Lib.hid ht
  clear ht
  go_enter Tryz.func219, Tryz.ntmps219
  go_wp2_with fail
  refine (rbytes_go p _).mono ?_
  rintro e w1 ⟨v, rfl, hrow, hb1⟩
  obtain ⟨A, cap, rfl⟩ := own_slice hrow
  have HB1 := Lib.hid (((Below.refl w.heap.size w).alloc (Nat.le_refl _) _).trans (hb1.mono (by simp)))
  have hs1 : Blk w1 w.heap.size 25 #[.int .u64 (word p 0), .int .u64 (word p 1), .int .u64 (word p 2), .int .u64 (word p 3)] := (Blk.new w 25 #[.int .u64 (word p 0), .int .u64 (word p 1), .int .u64 (word p 2), .int .u64 (word p 3)]).below hb1 (by simp)
  obtain ⟨s0, s1, s2, s3, f0, f1, f2, f3⟩ := hs1.c4
  have hl := elems_len p 256
  clear hrow hb1 hs1
  have H1 := Lib.hid (cuts_text_len p)
  have H2 := Lib.hid (cuts_text_len (fun c => !p c))
  generalize (elems p 256).length = n at *
  have b0 : ((n : Int) == 0) = false := by simp; omega
  go_wp2_with fail
  refine (rnot_any p _).mono ?_
  rintro e w2 ⟨rfl, hb2⟩
  have HB2 := Lib.hid (HB1.out.trans (hb2.mono HB1.out.size))
  clear hb2
  go_wp2_with fail
  refine (pieces_go (fun c => !p c) _).mono ?_
  rintro e w3 ⟨rfl, hb3⟩
  have HB3 := Lib.hid (HB2.out.trans (hb3.mono HB2.out.size))
  have h2 := H2.out
  clear hb3
  go_wp2
  go_light
  go_ret
  exact ⟨ret_s (str_turned Ht.out), HB3.out⟩
 ·have Ht := Lib.hid ht
  clear ht
  go_enter Tryz.func219, Tryz.ntmps219
  go_wp2_with fail
  refine (rbytes_go p _).mono ?_
  rintro e w1 ⟨v, rfl, hrow, hb1⟩
  obtain ⟨A, cap, rfl⟩ := own_slice hrow
  have HB1 := Lib.hid (((Below.refl w.heap.size w).alloc (Nat.le_refl _) _).trans (hb1.mono (by simp)))
  have hs1 : Blk w1 w.heap.size 25 #[.int .u64 (word p 0), .int .u64 (word p 1), .int .u64 (word p 2), .int .u64 (word p 3)] := (Blk.new w 25 #[.int .u64 (word p 0), .int .u64 (word p 1), .int .u64 (word p 2), .int .u64 (word p 3)]).below hb1 (by simp)
  obtain ⟨s0, s1, s2, s3, f0, f1, f2, f3⟩ := hs1.c4
  have hl := elems_len p 256
  clear hrow hb1 hs1
  have H1 := Lib.hid (cuts_text_len p)
  have H2 := Lib.hid (cuts_text_len (fun c => !p c))
  generalize (elems p 256).length = n at *
  have b0 : ((n : Int) == 0) = false := by simp; omega
  go_wp2_with fail
  refine (pieces_go p _).mono ?_
  rintro e w3 ⟨rfl, hb3⟩
  have HB3 := Lib.hid (HB1.out.trans (hb3.mono HB1.out.size))
  have h2 := H1.out
  clear hb3
  go_wp2
  go_light
  go_ret
  exact ⟨ret_s (str_plain Ht.out), HB3.out⟩
 ·have Ht := Lib.hid ht
  clear ht
  go_enter Tryz.func219, Tryz.ntmps219
  go_wp2_with fail
  refine (rbytes_go p _).mono ?_
  rintro e w1 ⟨v, rfl, hrow, hb1⟩
  obtain ⟨A, cap, rfl⟩ := own_slice hrow
  have HB1 := Lib.hid (((Below.refl w.heap.size w).alloc (Nat.le_refl _) _).trans (hb1.mono (by simp)))
  have hs1 : Blk w1 w.heap.size 25 #[.int .u64 (word p 0), .int .u64 (word p 1), .int .u64 (word p 2), .int .u64 (word p 3)] := (Blk.new w 25 #[.int .u64 (word p 0), .int .u64 (word p 1), .int .u64 (word p 2), .int .u64 (word p 3)]).below hb1 (by simp)
  obtain ⟨s0, s1, s2, s3, f0, f1, f2, f3⟩ := hs1.c4
  have hl := elems_len p 256
  clear hrow hb1 hs1
  have H1 := Lib.hid (cuts_text_len p)
  have H2 := Lib.hid (cuts_text_len (fun c => !p c))
  generalize (elems p 256).length = n at *
  have b0 : ((n : Int) == 0) = false := by simp; omega
  go_wp2_with fail
  refine (pieces_go p _).mono ?_
  rintro e w3 ⟨rfl, hb3⟩
  have HB3 := Lib.hid (HB1.out.trans (hb3.mono HB1.out.size))
  have h2 := H1.out
  clear hb3
  go_wp2
  go_light
  go_ret
  exact ⟨ret_s (str_plain Ht.out), HB3.out⟩
end Go.Proofs.YtfekpkelmliejaaGreatDoor
