/- Texts of the claim. -/
import Derived.Deep.RegionHeld3
import Derived.Deep.RegionWith
import Derived.StillTailTactics
import Derived.Test.YtofbfafnpdaejaaGreatDoorJZ01
set_option linter.all false
set_option maxHeartbeats 8000000
namespace Go.Proofs.YtofbfafnpdaejaaGreatDoor
open Go.RowKit
def two (what : Int) (p q : Nat → Bool) (k : Nat) : Bool := if what = 0 then p k || q k else if what = 1 then p k && q k else if what = 2 then p k && !q k else false
set_option maxRecDepth 100000 in
theorem rtwo_any (p q : Nat → Bool) (what : Int) (w : World) (h0 : what = 0 ∨ what = 1 ∨ what = 2) :
  Calls Tryz.prog 86 #[.agg #[.int .u64 (word p 0), .int .u64 (word p 1), .int .u64 (word p 2), .int .u64 (word p 3)], .agg #[.int .u64 (word q 0), .int .u64 (word q 1), .int .u64 (word q 2), .int .u64 (word q 3)], .int .i64 what] w fun e w' => e = .returned (.agg #[.int .u64 (word (two what p q) 0), .int .u64 (word (two what p q) 1), .int .u64 (word (two what p q) 2), .int .u64 (word (two what p q) 3)]) ∧ Below w.heap.size w w' := by
 rcases h0 with rfl | rfl | rfl
 ·go_enter Tryz.func86, Tryz.ntmps86
  go_wp2
  go_loopw [8] (fun i wr => ∃ (c : Int), i = .int .i64 c ∧ 0 ≤ c ∧ c ≤ 256 ∧ Blk wr (w.heap.size + 3) 25 #[.int .u64 ((word (upto (two 0 p q) c.toNat) 0 : Nat) : Int), .int .u64 ((word (upto (two 0 p q) c.toNat) 1 : Nat) : Int), .int .u64 ((word (upto (two 0 p q) c.toNat) 2 : Nat) : Int), .int .u64 ((word (upto (two 0 p q) c.toNat) 3 : Nat) : Int)] ∧
    Blk wr w.heap.size 25 #[.int .u64 (word p 0), .int .u64 (word p 1), .int .u64 (word p 2), .int .u64 (word p 3)] ∧ Blk wr (w.heap.size + 1) 25 #[.int .u64 (word q 0), .int .u64 (word q 1), .int .u64 (word q 2), .int .u64 (word q 3)] ∧
    Blk wr (w.heap.size + 2) 25 #[.int .u64 0, .int .u64 0, .int .u64 0, .int .u64 0] ∧ Below w.heap.size w wr) (fun i _ => (256 - intOf i).toNat)
  case atStart =>
   refine ⟨0, rfl, by omega, by omega, ?_, ?_, ?_, ?_, ?_⟩
   ·rw [show (0 : Int).toNat = 0 from rfl, upto_zero]
    simp only [word_none]; exact Blk.new_at (by simp)
   ·exact (((Blk.new _ _ _).alloc _).alloc _).alloc _
   ·exact ((Blk.new_at (by simp)).alloc _).alloc _
   ·exact (Blk.new_at (by simp)).alloc _
   ·repeat (first | exact Below.refl _ _ | refine Below.alloc ?_ (by simp; try omega) _)
  case round =>
   obtain ⟨c, rfl, hc0, hc1, hs, hp, hq, hr, hb⟩ := hrel
   have hz := hs.lt
   obtain ⟨s0, s1, s2, s3, f0, f1, f2, f3⟩ := hs.c4
   obtain ⟨p0, p1, p2, p3, _, _, _, _⟩ := hp.c4
   obtain ⟨q0, q1, q2, q3, _, _, _, _⟩ := hq.c4
   obtain ⟨r0, r1, r2, r3, g0, g1, g2, g3⟩ := hr.c4
   have Hs := Lib.hid hs
   have Hr := Lib.hid hr
   have Hp := Lib.hid hp
   have Hq := Lib.hid hq
   clear hs hr hp hq
   by_cases hlt : c < 256
   ·have Ht : Hid (two 0 p q c.toNat = two 0 p q c.toNat) := rfl
    cases hx : p c.toNat <;> cases hy : q c.toNat <;> (have Hx := Lib.hid hx; have Hy := Lib.hid hy)
    all_goals
     go_wp2_with fail
     with_reducible refine (rhas_any _ _ _ (by omega) (by omega)).mono ?_
     rintro e w1 ⟨rfl, hb1⟩
     obtain ⟨q0', q1', q2', q3', _, _, _, _⟩ := (Hq.out.below hb1 Hq.out.lt).c4
     go_wp2_with fail
     with_reducible refine (rhas_any _ _ _ (by omega) (by omega)).mono ?_
     rintro e w2 ⟨rfl, hb2'⟩
     have hb2 := hb1.trans (hb2'.mono hb1.size)
     obtain ⟨s0', s1', s2', s3', f0', f1', f2', f3'⟩ := (Hs.out.below hb2 Hs.out.lt).c4
     go_wp2_with (go_at_call 138; refine (rwith_any _ _ _ (by omega) (by omega)).mono ?_; rintro e w3 ⟨rfl, hb3'⟩; have hb3 := hb2.trans (hb3'.mono hb2.size); obtain ⟨t0, t1, t2, t3, g0, g1, g2, g3⟩ := (Hs.out.below hb3 Hs.out.lt).c4)
     go_light
     go_roundw
     case rel =>
      refine ⟨c + 1, by go_num, by omega, by omega, ?_, ?_, ?_, ?_, ?_⟩
      ·rw [show (c + 1).toNat = c.toNat + 1 by omega]
       first
        | (rw [upto_yes (by simp [two, Hx.out, Hy.out])]; exact (Hs.out.below hb3 Hs.out.lt).set4)
        | (rw [upto_no (by simp [two, Hx.out, Hy.out])]; exact (Hs.out.below hb2 Hs.out.lt))
      ·first
        | exact (((((Hp.out.below hb3 Hp.out.lt).far (by dsimp only; omega) _).far (by dsimp only; omega) _).far (by dsimp only; omega) _).far (by dsimp only; omega) _)
        | exact Hp.out.below hb2 Hp.out.lt
      ·first
        | exact (((((Hq.out.below hb3 Hq.out.lt).far (by dsimp only; omega) _).far (by dsimp only; omega) _).far (by dsimp only; omega) _).far (by dsimp only; omega) _)
        | exact Hq.out.below hb2 Hq.out.lt
      ·first
        | exact (((((Hr.out.below hb3 Hr.out.lt).far (by dsimp only; omega) _).far (by dsimp only; omega) _).far (by dsimp only; omega) _).far (by dsimp only; omega) _)
        | exact Hr.out.below hb2 Hr.out.lt
      ·repeat (first | exact hb.trans (hb3.mono hb.size) | exact hb.trans (hb2.mono hb.size) | refine Below.setCell ?_ (by dsimp only; omega) _)
     case measure => simp [intOf]; omega
   ·have He : Hid (c = 256) := by show c = 256; omega
    go_wp2
    go_light
    refine bodyPost_ret (ret_set Tryz.results86 rfl Hr.out.set4) rfl ⟨?_, ?_⟩
    ·rw [He.out, show (256 : Int).toNat = 256 from rfl, word_upto _ 0 (by decide), word_upto _ 1 (by decide), word_upto _ 2 (by decide), word_upto _ 3 (by decide)]
    ·repeat (first | exact hb | refine Below.setCell ?_ (by dsimp only; omega) _)
 ·go_enter Tryz.func86, Tryz.ntmps86
  go_wp2
  go_loopw [8] (fun i wr => ∃ (c : Int), i = .int .i64 c ∧ 0 ≤ c ∧ c ≤ 256 ∧ Blk wr (w.heap.size + 3) 25 #[.int .u64 ((word (upto (two 1 p q) c.toNat) 0 : Nat) : Int), .int .u64 ((word (upto (two 1 p q) c.toNat) 1 : Nat) : Int), .int .u64 ((word (upto (two 1 p q) c.toNat) 2 : Nat) : Int), .int .u64 ((word (upto (two 1 p q) c.toNat) 3 : Nat) : Int)] ∧
    Blk wr w.heap.size 25 #[.int .u64 (word p 0), .int .u64 (word p 1), .int .u64 (word p 2), .int .u64 (word p 3)] ∧ Blk wr (w.heap.size + 1) 25 #[.int .u64 (word q 0), .int .u64 (word q 1), .int .u64 (word q 2), .int .u64 (word q 3)] ∧
    Blk wr (w.heap.size + 2) 25 #[.int .u64 0, .int .u64 0, .int .u64 0, .int .u64 0] ∧ Below w.heap.size w wr) (fun i _ => (256 - intOf i).toNat)
  case atStart =>
   refine ⟨0, rfl, by omega, by omega, ?_, ?_, ?_, ?_, ?_⟩
   ·rw [show (0 : Int).toNat = 0 from rfl, upto_zero]
    simp only [word_none]; exact Blk.new_at (by simp)
   ·exact (((Blk.new _ _ _).alloc _).alloc _).alloc _
   ·exact ((Blk.new_at (by simp)).alloc _).alloc _
   ·exact (Blk.new_at (by simp)).alloc _
   ·repeat (first | exact Below.refl _ _ | refine Below.alloc ?_ (by simp; try omega) _)
  case round =>
   obtain ⟨c, rfl, hc0, hc1, hs, hp, hq, hr, hb⟩ := hrel
   have hz := hs.lt
   obtain ⟨s0, s1, s2, s3, f0, f1, f2, f3⟩ := hs.c4
   obtain ⟨p0, p1, p2, p3, _, _, _, _⟩ := hp.c4
   obtain ⟨q0, q1, q2, q3, _, _, _, _⟩ := hq.c4
   obtain ⟨r0, r1, r2, r3, g0, g1, g2, g3⟩ := hr.c4
   have Hs := Lib.hid hs
   have Hr := Lib.hid hr
   have Hp := Lib.hid hp
   have Hq := Lib.hid hq
   clear hs hr hp hq
   by_cases hlt : c < 256
   ·have Ht : Hid (two 1 p q c.toNat = two 1 p q c.toNat) := rfl
    cases hx : p c.toNat <;> cases hy : q c.toNat <;> (have Hx := Lib.hid hx; have Hy := Lib.hid hy)
    all_goals
     go_wp2_with fail
     with_reducible refine (rhas_any _ _ _ (by omega) (by omega)).mono ?_
     rintro e w1 ⟨rfl, hb1⟩
     obtain ⟨q0', q1', q2', q3', _, _, _, _⟩ := (Hq.out.below hb1 Hq.out.lt).c4
     go_wp2_with fail
     with_reducible refine (rhas_any _ _ _ (by omega) (by omega)).mono ?_
     rintro e w2 ⟨rfl, hb2'⟩
     have hb2 := hb1.trans (hb2'.mono hb1.size)
     obtain ⟨s0', s1', s2', s3', f0', f1', f2', f3'⟩ := (Hs.out.below hb2 Hs.out.lt).c4
     go_wp2_with (go_at_call 138; refine (rwith_any _ _ _ (by omega) (by omega)).mono ?_; rintro e w3 ⟨rfl, hb3'⟩; have hb3 := hb2.trans (hb3'.mono hb2.size); obtain ⟨t0, t1, t2, t3, g0, g1, g2, g3⟩ := (Hs.out.below hb3 Hs.out.lt).c4)
     go_light
     go_roundw
     case rel =>
      refine ⟨c + 1, by go_num, by omega, by omega, ?_, ?_, ?_, ?_, ?_⟩
      ·rw [show (c + 1).toNat = c.toNat + 1 by omega]
       first
        | (rw [upto_yes (by simp [two, Hx.out, Hy.out])]; exact (Hs.out.below hb3 Hs.out.lt).set4)
        | (rw [upto_no (by simp [two, Hx.out, Hy.out])]; exact (Hs.out.below hb2 Hs.out.lt))
      ·first
        | exact (((((Hp.out.below hb3 Hp.out.lt).far (by dsimp only; omega) _).far (by dsimp only; omega) _).far (by dsimp only; omega) _).far (by dsimp only; omega) _)
        | exact Hp.out.below hb2 Hp.out.lt
      ·first
        | exact (((((Hq.out.below hb3 Hq.out.lt).far (by dsimp only; omega) _).far (by dsimp only; omega) _).far (by dsimp only; omega) _).far (by dsimp only; omega) _)
        | exact Hq.out.below hb2 Hq.out.lt
      ·first
        | exact (((((Hr.out.below hb3 Hr.out.lt).far (by dsimp only; omega) _).far (by dsimp only; omega) _).far (by dsimp only; omega) _).far (by dsimp only; omega) _)
        | exact Hr.out.below hb2 Hr.out.lt
      ·repeat (first | exact hb.trans (hb3.mono hb.size) | exact hb.trans (hb2.mono hb.size) | refine Below.setCell ?_ (by dsimp only; omega) _)
     case measure => simp [intOf]; omega
   ·have He : Hid (c = 256) := by show c = 256; omega
    go_wp2
    go_light
    refine bodyPost_ret (ret_set Tryz.results86 rfl Hr.out.set4) rfl ⟨?_, ?_⟩
    ·rw [He.out, show (256 : Int).toNat = 256 from rfl, word_upto _ 0 (by decide), word_upto _ 1 (by decide), word_upto _ 2 (by decide), word_upto _ 3 (by decide)]
    ·repeat (first | exact hb | refine Below.setCell ?_ (by dsimp only; omega) _)
 ·go_enter Tryz.func86, Tryz.ntmps86
  go_wp2
  go_loopw [8] (fun i wr => ∃ (c : Int), i = .int .i64 c ∧ 0 ≤ c ∧ c ≤ 256 ∧ Blk wr (w.heap.size + 3) 25 #[.int .u64 ((word (upto (two 2 p q) c.toNat) 0 : Nat) : Int), .int .u64 ((word (upto (two 2 p q) c.toNat) 1 : Nat) : Int), .int .u64 ((word (upto (two 2 p q) c.toNat) 2 : Nat) : Int), .int .u64 ((word (upto (two 2 p q) c.toNat) 3 : Nat) : Int)] ∧
    Blk wr w.heap.size 25 #[.int .u64 (word p 0), .int .u64 (word p 1), .int .u64 (word p 2), .int .u64 (word p 3)] ∧ Blk wr (w.heap.size + 1) 25 #[.int .u64 (word q 0), .int .u64 (word q 1), .int .u64 (word q 2), .int .u64 (word q 3)] ∧
    Blk wr (w.heap.size + 2) 25 #[.int .u64 0, .int .u64 0, .int .u64 0, .int .u64 0] ∧ Below w.heap.size w wr) (fun i _ => (256 - intOf i).toNat)
  case atStart =>
   refine ⟨0, rfl, by omega, by omega, ?_, ?_, ?_, ?_, ?_⟩
   ·rw [show (0 : Int).toNat = 0 from rfl, upto_zero]
    simp only [word_none]; exact Blk.new_at (by simp)
   ·exact (((Blk.new _ _ _).alloc _).alloc _).alloc _
   ·exact ((Blk.new_at (by simp)).alloc _).alloc _
   ·exact (Blk.new_at (by simp)).alloc _
   ·repeat (first | exact Below.refl _ _ | refine Below.alloc ?_ (by simp; try omega) _)
  case round =>
   obtain ⟨c, rfl, hc0, hc1, hs, hp, hq, hr, hb⟩ := hrel
   have hz := hs.lt
   obtain ⟨s0, s1, s2, s3, f0, f1, f2, f3⟩ := hs.c4
   obtain ⟨p0, p1, p2, p3, _, _, _, _⟩ := hp.c4
   obtain ⟨q0, q1, q2, q3, _, _, _, _⟩ := hq.c4
   obtain ⟨r0, r1, r2, r3, g0, g1, g2, g3⟩ := hr.c4
   have Hs := Lib.hid hs
   have Hr := Lib.hid hr
   have Hp := Lib.hid hp
   have Hq := Lib.hid hq
   clear hs hr hp hq
   by_cases hlt : c < 256
   ·have Ht : Hid (two 2 p q c.toNat = two 2 p q c.toNat) := rfl
    cases hx : p c.toNat <;> cases hy : q c.toNat <;> (have Hx := Lib.hid hx; have Hy := Lib.hid hy)
    all_goals
     go_wp2_with fail
     with_reducible refine (rhas_any _ _ _ (by omega) (by omega)).mono ?_
     rintro e w1 ⟨rfl, hb1⟩
     obtain ⟨q0', q1', q2', q3', _, _, _, _⟩ := (Hq.out.below hb1 Hq.out.lt).c4
     go_wp2_with fail
     with_reducible refine (rhas_any _ _ _ (by omega) (by omega)).mono ?_
     rintro e w2 ⟨rfl, hb2'⟩
     have hb2 := hb1.trans (hb2'.mono hb1.size)
     obtain ⟨s0', s1', s2', s3', f0', f1', f2', f3'⟩ := (Hs.out.below hb2 Hs.out.lt).c4
     go_wp2_with (go_at_call 138; refine (rwith_any _ _ _ (by omega) (by omega)).mono ?_; rintro e w3 ⟨rfl, hb3'⟩; have hb3 := hb2.trans (hb3'.mono hb2.size); obtain ⟨t0, t1, t2, t3, g0, g1, g2, g3⟩ := (Hs.out.below hb3 Hs.out.lt).c4)
     go_light
     go_roundw
     case rel =>
      refine ⟨c + 1, by go_num, by omega, by omega, ?_, ?_, ?_, ?_, ?_⟩
      ·rw [show (c + 1).toNat = c.toNat + 1 by omega]
       first
        | (rw [upto_yes (by simp [two, Hx.out, Hy.out])]; exact (Hs.out.below hb3 Hs.out.lt).set4)
        | (rw [upto_no (by simp [two, Hx.out, Hy.out])]; exact (Hs.out.below hb2 Hs.out.lt))
      ·first
        | exact (((((Hp.out.below hb3 Hp.out.lt).far (by dsimp only; omega) _).far (by dsimp only; omega) _).far (by dsimp only; omega) _).far (by dsimp only; omega) _)
        | exact Hp.out.below hb2 Hp.out.lt
      ·first
        | exact (((((Hq.out.below hb3 Hq.out.lt).far (by dsimp only; omega) _).far (by dsimp only; omega) _).far (by dsimp only; omega) _).far (by dsimp only; omega) _)
        | exact Hq.out.below hb2 Hq.out.lt
      ·first
        | exact (((((Hr.out.below hb3 Hr.out.lt).far (by dsimp only; omega) _).far (by dsimp only; omega) _).far (by dsimp only; omega) _).far (by dsimp only; omega) _)
        | exact Hr.out.below hb2 Hr.out.lt
      ·repeat (first | exact hb.trans (hb3.mono hb.size) | exact hb.trans (hb2.mono hb.size) | refine Below.setCell ?_ (by dsimp only; omega) _)
     case measure => simp [intOf]; omega
   ·have He : Hid (c = 256) := by show c = 256; omega
    go_wp2
    go_light
    refine bodyPost_ret (ret_set Tryz.results86 rfl Hr.out.set4) rfl ⟨?_, ?_⟩
    ·rw [He.out, show (256 : Int).toNat = 256 from rfl, word_upto _ 0 (by decide), word_upto _ 1 (by decide), word_upto _ 2 (by decide), word_upto _ 3 (by decide)]
    ·repeat (first | exact hb | refine Below.setCell ?_ (by dsimp only; omega) _)
end Go.Proofs.YtofbfafnpdaejaaGreatDoor
