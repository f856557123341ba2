/-
  The contracts of reference 02's Of, and of reference 05's Dot.
-/
import Derived.Deep.RegionWith
import Derived.Test.YtajohcknenngnaaGreatQZ01
import Derived.Test.YtajohcknenngnaaGreatQRefNot
namespace Go.Proofs.YtajohcknenngnaaGreat
open Go.RowKit
set_option linter.unusedSimpArgs false
set_option linter.unusedVariables false
set_option maxRecDepth 100000

theorem rwith_nat (p : Nat → Bool) (c : Nat) (w : World) (h1 : c < 256) :
    Calls Tryz.prog 130 #[.agg #[.int .u64 ((word (p) 0 : Nat) : Int), .int .u64 ((word (p) 1 : Nat) : Int), .int .u64 ((word (p) 2 : Nat) : Int), .int .u64 ((word (p) 3 : Nat) : Int)], .int .i64 (c : Int)] w fun e w' => e = .returned (.agg #[.int .u64 ((word (withB p c) 0 : Nat) : Int), .int .u64 ((word (withB p c) 1 : Nat) : Int), .int .u64 ((word (withB p c) 2 : Nat) : Int), .int .u64 ((word (withB p c) 3 : Nat) : Int)]) ∧ Below w.heap.size w w' := rwith_any p (c : Int) w (by omega) (by omega)

set_option maxHeartbeats 4000000 in
theorem rof_any (A : Option Addr) (bs : List Nat) (cap : Nat) (w : World) (hA : BytesAt w w.heap.size A bs) :
    Calls Tryz.prog 108 #[.slice A bs.length cap] w fun e w' => e = .returned (.agg #[.int .u64 ((word (among bs bs.length) 0 : Nat) : Int), .int .u64 ((word (among bs bs.length) 1 : Nat) : Int), .int .u64 ((word (among bs bs.length) 2 : Nat) : Int), .int .u64 ((word (among bs bs.length) 3 : Nat) : Int)]) ∧ Below w.heap.size w w' := by
  have hn : bs.length ≤ 9223372036854775807 := by have := hA.2.1; omega
  have HA := Lib.hid hA
  clear hA
  go_enter Tryz.func108, Tryz.ntmps108
  go_wp2
  go_loopw [4] (fun i wr => ∃ (k : Nat), i = .int .i64 k ∧ k ≤ bs.length ∧ Blk wr (w.heap.size + 1) 37 #[.int .u64 ((word (among bs k) 0 : Nat) : Int), .int .u64 ((word (among bs k) 1 : Nat) : Int), .int .u64 ((word (among bs k) 2 : Nat) : Int), .int .u64 ((word (among bs k) 3 : Nat) : Int)] ∧ Blk wr w.heap.size 37 #[.int .u64 0, .int .u64 0, .int .u64 0, .int .u64 0] ∧ Below w.heap.size w wr) (fun i _ => bs.length - (intOf i).toNat)
  case atStart =>
    refine ⟨0, rfl, Nat.zero_le _, ?_, ?_, ?_⟩
    · rw [among_zero]; simp only [word_none]; exact Blk.new_at (by simp)
    · exact (Blk.new _ _ _).alloc _
    · exact ((Below.refl _ _).alloc (Nat.le_refl _) _).alloc (by simp) _
  case round =>
    obtain ⟨k, rfl, hk, hs, hr, hb⟩ := hrel
    by_cases hlt : k < bs.length
    · obtain ⟨b, o, rfl, hbb, hc⟩ := HA.out.2.2 (by omega)
      have hz := hs.lt
      have hcell : wr.cell? ⟨b, o + k, none⟩ = some (.int .u8 ((byteAt bs k : Nat) : Int)) := (hb.cell (p := ⟨b, _, none⟩) hbb).trans (hc k hlt)
      obtain ⟨s0, s1, s2, s3, f0, f1, f2, f3⟩ := hs.c4
      have Hm := Lib.hid (among_succ hlt)
      have hlo := byteAt_lt HA.out.1 k
      have Hs := Lib.hid hs
      have Hr := Lib.hid hr
      have HB := Lib.hid hb
      clear hc hs hr hb
      generalize byteAt bs k = c at *
      have hdl : (k : Int) < (bs.length : Int) := by omega
      have hrs : w.heap.size < wr.heap.size := by omega
      have W1 : IntKind.i64.wrap (c : Int) = (c : Int) := IntWalk.i64_in _ (by omega)
      go_wp2
      go_region_with (go_at_call 130; refine (rwith_nat (among bs k) c _ hlo).mono ?_; rintro e w1 ⟨rfl, hb1⟩; have hs1 := Blk.below (w := wr.drew) Hs.out hb1 hz; have hr1 := Blk.below (w := wr.drew) Hr.out hb1 hrs; have Hr1 := Lib.hid hr1; have HS1 := Lib.hid hs1; have HB1 := Lib.hid (HB.out.drew.trans (hb1.mono HB.out.drew.size)); obtain ⟨u0, u1, u2, u3, g0, g1, g2, g3⟩ := hs1.c4; clear hs1 hr1 hb1)
      all_goals go_wp2
      all_goals go_light
      all_goals go_roundw
      all_goals first
        | exact ⟨k + 1, by go_num, by omega, by rw [Hm.out]; exact HS1.out.set4, Hr1.out.far4 (by omega) _ _ _ _, below_set4 HB1.out (by omega) _ _ _ _⟩
        | (simp [intOf]; omega)
    · have hz := hs.lt
      have he : bs.length = k := by omega
      obtain ⟨s0, s1, s2, s3, f0, f1, f2, f3⟩ := hs.c4
      obtain ⟨r0, r1, r2, r3, g0, g1, g2, g3⟩ := hr.c4
      have Hr := Lib.hid hr
      have He := Lib.hid he
      clear hr hs he
      go_wp2
      go_light
      refine bodyPost_ret (v := .agg #[.int .u64 ((word (among bs k) 0 : Nat) : Int), .int .u64 ((word (among bs k) 1 : Nat) : Int), .int .u64 ((word (among bs k) 2 : Nat) : Int), .int .u64 ((word (among bs k) 3 : Nat) : Int)]) (ret_set Tryz.results108 rfl Hr.out.set4) rfl ⟨by rw [He.out], ?_⟩
      repeat (first | exact hb | refine Below.setCell ?_ (by simp) _ | refine Below.alloc ?_ (by simp; omega) _)

set_option maxHeartbeats 1000000 in
theorem rdot_go (w : World) :
    Calls Tryz.prog 106 #[] w fun e w' => e = .returned (.agg #[.int .u64 ((word (dotSet) 0 : Nat) : Int), .int .u64 ((word (dotSet) 1 : Nat) : Int), .int .u64 ((word (dotSet) 2 : Nat) : Int), .int .u64 ((word (dotSet) 3 : Nat) : Int)]) ∧ Below w.heap.size w w' := by
  have HB := Lib.hid (((Below.refl w.heap.size w).alloc (Nat.le_refl _) (.cells #[.int .u64 0, .int .u64 0, .int .u64 0, .int .u64 0] 37)).alloc (by simp) (.cells #[.int .u8 10] 5))
  have hz : Blk ((w.alloc (.cells #[.int .u64 0, .int .u64 0, .int .u64 0, .int .u64 0] 37)).alloc (.cells #[.int .u8 10] 5)) w.heap.size 37 #[.int .u64 0, .int .u64 0, .int .u64 0, .int .u64 0] := (Blk.new _ _ _).alloc _
  go_enter Tryz.func106, Tryz.ntmps106
  go_wp2_with fail
  refine (rof_any _ [10] 1 _ (bytes_new _ _ [10] _ _ (by simp) rfl (by decide) (by decide))).mono ?_
  rintro e w1 ⟨rfl, hb1⟩
  have HB1 := Lib.hid (HB.out.trans (hb1.mono HB.out.size))
  have Hz1 := Lib.hid (hz.below hb1 hz.lt)
  clear hb1 hz
  go_wp2_with fail
  refine (rnot_any _ _).mono ?_
  rintro e w2 ⟨rfl, hb2⟩
  have HB2 := Lib.hid (HB1.out.trans (hb2.mono HB1.out.size))
  have Hz2 := Lib.hid (Hz1.out.below hb2 Hz1.out.lt)
  obtain ⟨z0, z1, z2, z3, g0, g1, g2, g3⟩ := Hz2.out.c4
  clear hb2
  go_wp2
  go_light
  refine bodyPost_ret (v := .agg #[.int .u64 ((word (dotSet) 0 : Nat) : Int), .int .u64 ((word (dotSet) 1 : Nat) : Int), .int .u64 ((word (dotSet) 2 : Nat) : Int), .int .u64 ((word (dotSet) 3 : Nat) : Int)]) (ret_set Tryz.results106 rfl Hz2.out.set4) rfl ⟨rfl, below_set4 HB2.out (Nat.le_refl _) _ _ _ _⟩

end Go.Proofs.YtajohcknenngnaaGreat
