/-
  The walk of SpecParts.
-/
import Derived.Laws.AppendOwnNone
import Derived.Deep.AppendSrc
import Derived.Deep.DeepCutAuto
import Derived.Test.YtgbpcigfbpghgaaQSpecSame
import Derived.Test.YtgbpcigfbpghgaaQPartsS
import Derived.Test.YtgbpcigfbpghgaaQKnows09
import Derived.Test.YtgbpcigfbpghgaaQPartsA
import Derived.Test.YtgbpcigfbpghgaaQZ01
import Derived.Test.YtgbpcigfbpghgaaQSince
namespace Go.Proofs.Ytgbpcigfbpghgaa
open Go.RowKit
set_option linter.unusedSimpArgs false
set_option linter.unusedVariables false
set_option maxRecDepth 100000

set_option maxHeartbeats 4000000 in
theorem sp_bad1 (A : Option Addr) (cap : Nat) (a : List Nat) (A' : Option Addr) (cap' : Nat) (b : List Nat) (w : World) {l m : List RuleS} {k1 q1 k2 q2 : Int} (hk : (k1 != 0) = true)
    (HF1 : Hid (Calls Try.prog 7 #[.slice A a.length cap] w (Out09 l k1 q1 w))) (HF2 : Hid (∀ w1, Below w.heap.size w w1 → Calls Try.prog 7 #[.slice A' b.length cap'] w1 (Out09 m k2 q2 w1))) :
    Calls Try.prog 3 #[.slice A a.length cap, .slice A' b.length cap'] w fun e w' => e = .returned (.bool true) ∧ Below w.heap.size w w' := by
  go_enter Try.func3, Try.ntmps3
  go_wp2_with fail
  refine HF1.out.mono ?_
  rintro e w1 ⟨A1, cap1, rfl, hb1, ht1⟩
  have hb2 : Below w1.heap.size w1 (w1.alloc (.cells #[.int .i64 k1, .int .i64 q1] 26)) := (Below.refl _ _).alloc (Nat.le_refl _) _
  have HB2 := Lib.hid (hb1.trans (hb2.mono hb1.size))
  have HX2 := Lib.hid (Blk.new w1 26 #[.int .i64 k1, .int .i64 q1])
  have HT2 := Lib.hid (ht1.below hb2)
  clear hb1 hb2 ht1 HF1
  dsimp only
  go_wp2_with fail
  refine (HF2.out _ HB2.out).mono ?_
  rintro e w3 ⟨A3, cap3, rfl, hb3, ht3⟩
  have hb4 : Below w3.heap.size w3 (w3.alloc (.cells #[.int .i64 k2, .int .i64 q2] 26)) := (Below.refl _ _).alloc (Nat.le_refl _) _
  have hX3 := HX2.out.below hb3 HX2.out.lt
  have hlx := hX3.lt
  have HX4 := Lib.hid (hX3.below hb4 hX3.lt)
  have HY4 := Lib.hid (Blk.new w3 26 #[.int .i64 k2, .int .i64 q2])
  have HB4 := Lib.hid ((HB2.out.trans (hb3.mono HB2.out.size)).trans (hb4.mono (by have := HB2.out.size; have := hb3.size; omega)))
  have HT4 := Lib.hid ((HT2.out.below hb3).below hb4)
  have HT4' := Lib.hid (ht3.below hb4)
  obtain ⟨x0, x1, _, _⟩ := hX3.c2
  clear hb3 hb4 hX3 HX2 HT2 HB2 ht3 HF2
  dsimp only

  go_wp2_with fail
  refine (knows09_go _).mono ?_
  rintro e w9 ⟨rfl, hb9⟩
  have HB9 := Lib.hid (HB4.out.trans (hb9.mono HB4.out.size))
  clear hb9
  dsimp only
  go_wp2
  go_light
  go_ret
  exact ⟨rfl, HB9.out⟩

set_option maxHeartbeats 4000000 in
theorem sp_bad2 (A : Option Addr) (cap : Nat) (a : List Nat) (A' : Option Addr) (cap' : Nat) (b : List Nat) (w : World) {l m : List RuleS} {q1 k2 q2 : Int} (hk : (k2 != 0) = true)
    (HF1 : Hid (Calls Try.prog 7 #[.slice A a.length cap] w (Out09 l 0 q1 w))) (HF2 : Hid (∀ w1, Below w.heap.size w w1 → Calls Try.prog 7 #[.slice A' b.length cap'] w1 (Out09 m k2 q2 w1))) :
    Calls Try.prog 3 #[.slice A a.length cap, .slice A' b.length cap'] w fun e w' => e = .returned (.bool true) ∧ Below w.heap.size w w' := by
  go_enter Try.func3, Try.ntmps3
  go_wp2_with fail
  refine HF1.out.mono ?_
  rintro e w1 ⟨A1, cap1, rfl, hb1, ht1⟩
  have hb2 : Below w1.heap.size w1 (w1.alloc (.cells #[.int .i64 0, .int .i64 q1] 26)) := (Below.refl _ _).alloc (Nat.le_refl _) _
  have HB2 := Lib.hid (hb1.trans (hb2.mono hb1.size))
  have HX2 := Lib.hid (Blk.new w1 26 #[.int .i64 0, .int .i64 q1])
  have HT2 := Lib.hid (ht1.below hb2)
  clear hb1 hb2 ht1 HF1
  dsimp only
  go_wp2_with fail
  refine (HF2.out _ HB2.out).mono ?_
  rintro e w3 ⟨A3, cap3, rfl, hb3, ht3⟩
  have hb4 : Below w3.heap.size w3 (w3.alloc (.cells #[.int .i64 k2, .int .i64 q2] 26)) := (Below.refl _ _).alloc (Nat.le_refl _) _
  have hX3 := HX2.out.below hb3 HX2.out.lt
  have hlx := hX3.lt
  have HX4 := Lib.hid (hX3.below hb4 hX3.lt)
  have HY4 := Lib.hid (Blk.new w3 26 #[.int .i64 k2, .int .i64 q2])
  have HB4 := Lib.hid ((HB2.out.trans (hb3.mono HB2.out.size)).trans (hb4.mono (by have := HB2.out.size; have := hb3.size; omega)))
  have HT4 := Lib.hid ((HT2.out.below hb3).below hb4)
  have HT4' := Lib.hid (ht3.below hb4)
  obtain ⟨x0, x1, _, _⟩ := hX3.c2
  clear hb3 hb4 hX3 HX2 HT2 HB2 ht3 HF2
  dsimp only

  go_wp2_with fail
  refine (knows09_go _).mono ?_
  rintro e w9 ⟨rfl, hb9⟩
  have HB9 := Lib.hid (HB4.out.trans (hb9.mono HB4.out.size))
  clear hb9
  dsimp only
  go_wp2
  go_light
  go_ret
  exact ⟨rfl, HB9.out⟩

set_option maxHeartbeats 4000000 in
theorem sp_many (A : Option Addr) (cap : Nat) (a : List Nat) (A' : Option Addr) (cap' : Nat) (b : List Nat) (w : World) {l m : List RuleS} {q1 q2 : Int} (hl : l.length ≤ 64) (hm : m.length ≤ 64) (hlm : 64 < l.length + m.length)
    (HF1 : Hid (Calls Try.prog 7 #[.slice A a.length cap] w (Out09 l 0 q1 w))) (HF2 : Hid (∀ w1, Below w.heap.size w w1 → Calls Try.prog 7 #[.slice A' b.length cap'] w1 (Out09 m 0 q2 w1))) :
    Calls Try.prog 3 #[.slice A a.length cap, .slice A' b.length cap'] w fun e w' => e = .returned (.bool true) ∧ Below w.heap.size w w' := by
  have hsum : IntKind.i64.wrap ((l.length : Int) + (m.length : Int)) = (l.length : Int) + (m.length : Int) := IntWalk.i64_in _ (by omega)
  have hgt : (64 : Int) < (l.length : Int) + (m.length : Int) := by omega
  go_enter Try.func3, Try.ntmps3
  go_wp2_with fail
  refine HF1.out.mono ?_
  rintro e w1 ⟨A1, cap1, rfl, hb1, ht1⟩
  have hb2 : Below w1.heap.size w1 (w1.alloc (.cells #[.int .i64 0, .int .i64 q1] 26)) := (Below.refl _ _).alloc (Nat.le_refl _) _
  have HB2 := Lib.hid (hb1.trans (hb2.mono hb1.size))
  have HX2 := Lib.hid (Blk.new w1 26 #[.int .i64 0, .int .i64 q1])
  have HT2 := Lib.hid (ht1.below hb2)
  clear hb1 hb2 ht1 HF1
  dsimp only
  go_wp2_with fail
  refine (HF2.out _ HB2.out).mono ?_
  rintro e w3 ⟨A3, cap3, rfl, hb3, ht3⟩
  have hb4 : Below w3.heap.size w3 (w3.alloc (.cells #[.int .i64 0, .int .i64 q2] 26)) := (Below.refl _ _).alloc (Nat.le_refl _) _
  have hX3 := HX2.out.below hb3 HX2.out.lt
  have hlx := hX3.lt
  have HX4 := Lib.hid (hX3.below hb4 hX3.lt)
  have HY4 := Lib.hid (Blk.new w3 26 #[.int .i64 0, .int .i64 q2])
  have HB4 := Lib.hid ((HB2.out.trans (hb3.mono HB2.out.size)).trans (hb4.mono (by have := HB2.out.size; have := hb3.size; omega)))
  have HT4 := Lib.hid ((HT2.out.below hb3).below hb4)
  have HT4' := Lib.hid (ht3.below hb4)
  obtain ⟨x0, x1, _, _⟩ := hX3.c2
  clear hb3 hb4 hX3 HX2 HT2 HB2 ht3 HF2
  dsimp only

  go_wp2_with fail
  refine (knows09_go _).mono ?_
  rintro e w9 ⟨rfl, hb9⟩
  have HB9 := Lib.hid (HB4.out.trans (hb9.mono HB4.out.size))
  clear hb9
  dsimp only
  go_wp2
  go_light
  go_ret
  exact ⟨rfl, HB9.out⟩

set_option maxHeartbeats 4000000 in
theorem sp_long (A : Option Addr) (cap : Nat) (a : List Nat) (A' : Option Addr) (cap' : Nat) (b : List Nat) (w : World) {l m : List RuleS} {q1 q2 : Int} (hl : l.length ≤ 64) (hm : m.length ≤ 64) (hlm : l.length + m.length ≤ 64) (ha : a.length ≤ 65536) (hb : b.length ≤ 65536) (hab : 65536 ≤ a.length + b.length)
    (HF1 : Hid (Calls Try.prog 7 #[.slice A a.length cap] w (Out09 l 0 q1 w))) (HF2 : Hid (∀ w1, Below w.heap.size w w1 → Calls Try.prog 7 #[.slice A' b.length cap'] w1 (Out09 m 0 q2 w1))) :
    Calls Try.prog 3 #[.slice A a.length cap, .slice A' b.length cap'] w fun e w' => e = .returned (.bool true) ∧ Below w.heap.size w w' := by
  have hsum : IntKind.i64.wrap ((l.length : Int) + (m.length : Int)) = (l.length : Int) + (m.length : Int) := IntWalk.i64_in _ (by omega)
  have hle : ¬ (64 : Int) < (l.length : Int) + (m.length : Int) := by omega
  have hsum2 : IntKind.i64.wrap ((a.length : Int) + (b.length : Int)) = (a.length : Int) + (b.length : Int) := IntWalk.i64_in _ (by omega)
  have hge : (65536 : Int) ≤ (a.length : Int) + (b.length : Int) := by omega
  go_enter Try.func3, Try.ntmps3
  go_wp2_with fail
  refine HF1.out.mono ?_
  rintro e w1 ⟨A1, cap1, rfl, hb1, ht1⟩
  have hb2 : Below w1.heap.size w1 (w1.alloc (.cells #[.int .i64 0, .int .i64 q1] 26)) := (Below.refl _ _).alloc (Nat.le_refl _) _
  have HB2 := Lib.hid (hb1.trans (hb2.mono hb1.size))
  have HX2 := Lib.hid (Blk.new w1 26 #[.int .i64 0, .int .i64 q1])
  have HT2 := Lib.hid (ht1.below hb2)
  clear hb1 hb2 ht1 HF1
  dsimp only
  go_wp2_with fail
  refine (HF2.out _ HB2.out).mono ?_
  rintro e w3 ⟨A3, cap3, rfl, hb3, ht3⟩
  have hb4 : Below w3.heap.size w3 (w3.alloc (.cells #[.int .i64 0, .int .i64 q2] 26)) := (Below.refl _ _).alloc (Nat.le_refl _) _
  have hX3 := HX2.out.below hb3 HX2.out.lt
  have hlx := hX3.lt
  have HX4 := Lib.hid (hX3.below hb4 hX3.lt)
  have HY4 := Lib.hid (Blk.new w3 26 #[.int .i64 0, .int .i64 q2])
  have HB4 := Lib.hid ((HB2.out.trans (hb3.mono HB2.out.size)).trans (hb4.mono (by have := HB2.out.size; have := hb3.size; omega)))
  have HT4 := Lib.hid ((HT2.out.below hb3).below hb4)
  have HT4' := Lib.hid (ht3.below hb4)
  obtain ⟨x0, x1, _, _⟩ := hX3.c2
  clear hb3 hb4 hX3 HX2 HT2 HB2 ht3 HF2
  dsimp only

  go_wp2_with fail
  refine (knows09_go _).mono ?_
  rintro e w9 ⟨rfl, hb9⟩
  have HB9 := Lib.hid (HB4.out.trans (hb9.mono HB4.out.size))
  clear hb9
  dsimp only
  go_wp2
  go_light
  go_ret
  exact ⟨rfl, HB9.out⟩

set_option maxHeartbeats 4000000 in
theorem sp_twice (A : Option Addr) (cap : Nat) (a : List Nat) (A' : Option Addr) (cap' : Nat) (b : List Nat) (w : World) {l m u : List RuleS} {q1 q2 q3 : Int} (hl : l.length ≤ 64) (hm : m.length ≤ 64) (hlm : l.length + m.length ≤ 64) (ha : a.length ≤ 65536) (hb : b.length ≤ 65536) (hab : a.length + b.length < 65536)
    (HA1 : Hid (BytesAt w w.heap.size A a)) (HA2 : Hid (BytesAt w w.heap.size A' b)) (hl256 : ∀ r ∈ l, ∀ c ∈ r.name, c < 256) (hm256 : ∀ r ∈ m, ∀ c ∈ r.name, c < 256)
    (HD : Hid (∃ r ∈ m, called l r.name = true)) (hq3 : (a.length : Int) < q3)
    (HF1 : Hid (Calls Try.prog 7 #[.slice A a.length cap] w (Out09 l 0 q1 w))) (HF2 : Hid (∀ w1, Below w.heap.size w w1 → Calls Try.prog 7 #[.slice A' b.length cap'] w1 (Out09 m 0 q2 w1)))
    (HF3 : Hid (∀ w2 C c, BytesAt w2 w2.heap.size C (a ++ 10 :: b) → (a ++ 10 :: b).length ≤ c → Calls Try.prog 7 #[.slice C (a ++ 10 :: b).length c] w2 (Out09 u 8 q3 w2))) :
    Calls Try.prog 3 #[.slice A a.length cap, .slice A' b.length cap'] w fun e w' => e = .returned (.bool true) ∧ Below w.heap.size w w' := by
  have HL := Lib.hid hl256
  have HM := Lib.hid hm256
  have HQ3 := Lib.hid hq3
  clear hl256 hm256 hq3
  have hsum : IntKind.i64.wrap ((l.length : Int) + (m.length : Int)) = (l.length : Int) + (m.length : Int) := IntWalk.i64_in _ (by omega)
  have hle : ¬ (64 : Int) < (l.length : Int) + (m.length : Int) := by omega
  have hsum2 : IntKind.i64.wrap ((a.length : Int) + (b.length : Int)) = (a.length : Int) + (b.length : Int) := IntWalk.i64_in _ (by omega)
  have hlt6 : decide ((65536 : Int) ≤ (a.length : Int) + (b.length : Int)) = false := decide_eq_false (by omega)
  clear hab
  go_enter Try.func3, Try.ntmps3
  go_wp2_with fail
  refine HF1.out.mono ?_
  rintro e w1 ⟨A1, cap1, rfl, hb1, ht1⟩
  have hb2 : Below w1.heap.size w1 (w1.alloc (.cells #[.int .i64 0, .int .i64 q1] 26)) := (Below.refl _ _).alloc (Nat.le_refl _) _
  have HB2 := Lib.hid (hb1.trans (hb2.mono hb1.size))
  have HX2 := Lib.hid (Blk.new w1 26 #[.int .i64 0, .int .i64 q1])
  have HT2 := Lib.hid (ht1.below hb2)
  clear hb1 hb2 ht1 HF1
  dsimp only
  go_wp2_with fail
  refine (HF2.out _ HB2.out).mono ?_
  rintro e w3 ⟨A3, cap3, rfl, hb3, ht3⟩
  have hb4 : Below w3.heap.size w3 (w3.alloc (.cells #[.int .i64 0, .int .i64 q2] 26)) := (Below.refl _ _).alloc (Nat.le_refl _) _
  have hX3 := HX2.out.below hb3 HX2.out.lt
  have hlx := hX3.lt
  have HX4 := Lib.hid (hX3.below hb4 hX3.lt)
  have HY4 := Lib.hid (Blk.new w3 26 #[.int .i64 0, .int .i64 q2])
  have HB4 := Lib.hid ((HB2.out.trans (hb3.mono HB2.out.size)).trans (hb4.mono (by have := HB2.out.size; have := hb3.size; omega)))
  have HT4 := Lib.hid ((HT2.out.below hb3).below hb4)
  have HT4' := Lib.hid (ht3.below hb4)
  obtain ⟨x0, x1, _, _⟩ := hX3.c2
  clear hb3 hb4 hX3 HX2 HT2 HB2 ht3 HF2
  dsimp only

  go_upto_region 5 with fail
  clear x0 x1
  have hlxw : w1.heap.size < (w3.alloc (.cells #[.int .i64 0, .int .i64 q2] 26)).heap.size := by simp; omega
  have hly : w3.heap.size < (w3.alloc (.cells #[.int .i64 0, .int .i64 q2] 26)).heap.size := by simp
  have hw31 : w1.heap.size < w3.heap.size := hlx
  generalize hW4 : w3.alloc (.cells #[.int .i64 0, .int .i64 q2] 26) = W4 at *
  clear hW4
  have hcv1 := bytes_strN cap (HA1.out.below HB4.out)
  have hcv2 := bytes_strN cap' (HA2.out.below HB4.out)
  obtain ⟨C5, W5, k5, hA5, hb5, hC5⟩ := conv_text W4 (a ++ 10 :: b) (bothN_lt HA1.out.1 HA2.out.1) (by simp; omega)
  rw [bothN_str] at k5
  have HG5 := Lib.hid (HF3.out W5 _ C5 hA5 hC5)
  have HX5 := Lib.hid (HX4.out.below (hb5.mono (Nat.le_refl _)) hlxw)
  have HT5 := Lib.hid (HT4.out.below hb5)
  have HT5' := Lib.hid (HT4'.out.below hb5)
  have HB5 := Lib.hid (HB4.out.trans (hb5.mono HB4.out.size))
  have hl5 : W4.heap.size ≤ W5.heap.size := hb5.size
  generalize (a ++ 10 :: b).length = m3 at *
  clear hA5 hb5 hC5 HF3 HX4 HY4 HT4 HT4' HB4
  go_wp2_with fail
  clear hcv1 hcv2 k5
  refine HG5.out.mono ?_
  rintro e w6 ⟨A6, cap6, rfl, hb6, ht6⟩
  have hb7 : Below w6.heap.size w6 (w6.alloc (.cells #[.int .i64 8, .int .i64 q3] 26)) := (Below.refl _ _).alloc (Nat.le_refl _) _
  have hb67 := hb6.trans (hb7.mono hb6.size)
  have HZ7 := Lib.hid (Blk.new w6 26 #[.int .i64 8, .int .i64 q3])
  have HT7 := Lib.hid (HT5.out.below hb67)
  have HT7' := Lib.hid (HT5'.out.below hb67)
  have HU7 := Lib.hid (ht6.below hb7)
  have HB7 := Lib.hid (HB5.out.trans (hb67.mono HB5.out.size))
  clear hb6 hb7 hb67 ht6 HG5 HX5 HT5 HT5' HB5 hlxw hly hl5
  dsimp only

  go_upto_region 6 with fail
  generalize hW7 : w6.alloc (.cells #[.int .i64 8, .int .i64 q3] 26) = W7 at *
  clear hW7
  have hlz := HZ7.out.lt
  go_wp2
  go_loopw [11] (fun i wr => wr = W7 ∧ ∃ k : Nat, k ≤ m.length ∧ Hid (∀ j r, j < k → m[j]? = some r → called l r.name = false) ∧ i = .int .i64 (k : Int)) (fun i _ => m.length - (intOf i).toNat)
  case atStart => exact ⟨rfl, 0, Nat.zero_le _, Lib.hid (fun j r h => by omega), rfl⟩
  case round =>
    obtain ⟨rfl, k, hk, HK, rfl⟩ := hrel
    by_cases hlt : k < m.length
    · obtain ⟨r, hr⟩ : ∃ r, m[k]? = some r := ⟨_, List.getElem?_eq_getElem hlt⟩
      obtain ⟨g, o, B, capb, rfl, _, _, hc, _⟩ := HT7'.out k r hr
      have HR := Lib.hid hr
      have HC := Lib.hid (rhas_go A1 cap1 l r.name _ wr HT7.out (by omega) HL.out (HM.out r (List.mem_of_getElem? hr)))
      have hbl := World.block_lt_of_cell? wr _ hc
      have hdl : (k : Int) < (m.length : Int) := by omega
      clear hr
      cases hcl : called l r.name with
      | true =>
        rw [hcl] at HC
        have HCL := Lib.hid hcl
        clear hcl
        go_wp2_with fail
        refine HC.out.mono ?_
        rintro e w8 ⟨rfl, rfl⟩
        clear HC
        obtain ⟨z0, z1, _, _⟩ := HZ7.out.c2
        have hgt8 : decide ((a.length : Int) < q3) = true := decide_eq_true HQ3.out
        dsimp only
        go_wp2_with fail
        refine (knows09_go _).mono ?_
        rintro e w9 ⟨rfl, hb9⟩
        have HB9 := Lib.hid (HB7.out.trans (hb9.mono HB7.out.size))
        clear hb9
        dsimp only
        go_wp2
        go_light
        go_ret
        exact ⟨rfl, HB9.out⟩
      | false =>
        rw [hcl] at HC
        have HK2 := Lib.hid (show ∀ j r, j < k + 1 → m[j]? = some r → called l r.name = false from fun j r' hj hr' => by
          rcases Nat.lt_or_ge j k with h | h
          · exact HK.out j r' h hr'
          · obtain rfl : j = k := by omega
            rw [HR.out] at hr'
            cases hr'
            exact hcl)
        clear hcl
        go_wp2_with fail
        refine HC.out.mono ?_
        rintro e w8 ⟨rfl, rfl⟩
        clear HC hc
        dsimp only
        go_wp2
        go_roundw
        case rel => exact ⟨trivial, k + 1, by omega, HK2, by go_num⟩
        case measure => simp [intOf]; omega
    · have hdl : ¬ (k : Int) < (m.length : Int) := by omega
      obtain ⟨r, hr, hcl⟩ := HD.out
      obtain ⟨j, hj⟩ := List.getElem?_of_mem hr
      have hjl : j < m.length := by
        rcases Nat.lt_or_ge j m.length with h | h
        · exact h
        · rw [List.getElem?_eq_none h] at hj; cases hj
      have := HK.out j r (by omega) hj
      rw [hcl] at this
      cases this

set_option maxHeartbeats 4000000 in
theorem sp_none (A : Option Addr) (cap : Nat) (a : List Nat) (A' : Option Addr) (cap' : Nat) (b : List Nat) (w : World) {l m u : List RuleS} {q1 q2 q3 : Int} (hl : l.length ≤ 64) (hm : m.length ≤ 64) (hlm : l.length + m.length ≤ 64) (ha : a.length ≤ 65536) (hb : b.length ≤ 65536) (hab : a.length + b.length < 65536)
    (HA1 : Hid (BytesAt w w.heap.size A a)) (HA2 : Hid (BytesAt w w.heap.size A' b)) (hl256 : ∀ r ∈ l, ∀ c ∈ r.name, c < 256) (hm256 : ∀ r ∈ m, ∀ c ∈ r.name, c < 256) (HU : Hid (u = l ++ m)) (HSZ : Hid (∀ r ∈ l ++ m, r.body.size ≤ 2049))
    (HD : Hid (∀ r ∈ m, called l r.name = false))
    (HF1 : Hid (Calls Try.prog 7 #[.slice A a.length cap] w (Out09 l 0 q1 w))) (HF2 : Hid (∀ w1, Below w.heap.size w w1 → Calls Try.prog 7 #[.slice A' b.length cap'] w1 (Out09 m 0 q2 w1)))
    (HF3 : Hid (∀ w2 C c, BytesAt w2 w2.heap.size C (a ++ 10 :: b) → (a ++ 10 :: b).length ≤ c → Calls Try.prog 7 #[.slice C (a ++ 10 :: b).length c] w2 (Out09 u 0 q3 w2))) :
    Calls Try.prog 3 #[.slice A a.length cap, .slice A' b.length cap'] w fun e w' => e = .returned (.bool true) ∧ Below w.heap.size w w' := by
  have HL := Lib.hid hl256
  have HM := Lib.hid hm256
  clear hl256 hm256
  have hsum : IntKind.i64.wrap ((l.length : Int) + (m.length : Int)) = (l.length : Int) + (m.length : Int) := IntWalk.i64_in _ (by omega)
  have hle : ¬ (64 : Int) < (l.length : Int) + (m.length : Int) := by omega
  have hsum2 : IntKind.i64.wrap ((a.length : Int) + (b.length : Int)) = (a.length : Int) + (b.length : Int) := IntWalk.i64_in _ (by omega)
  have hlt6 : decide ((65536 : Int) ≤ (a.length : Int) + (b.length : Int)) = false := decide_eq_false (by omega)
  clear hab
  go_enter Try.func3, Try.ntmps3
  go_wp2_with fail
  refine HF1.out.mono ?_
  rintro e w1 ⟨A1, cap1, rfl, hb1, ht1⟩
  have hb2 : Below w1.heap.size w1 (w1.alloc (.cells #[.int .i64 0, .int .i64 q1] 26)) := (Below.refl _ _).alloc (Nat.le_refl _) _
  have HB2 := Lib.hid (hb1.trans (hb2.mono hb1.size))
  have HX2 := Lib.hid (Blk.new w1 26 #[.int .i64 0, .int .i64 q1])
  have HT2 := Lib.hid (ht1.below hb2)
  clear hb1 hb2 ht1 HF1
  dsimp only
  go_wp2_with fail
  refine (HF2.out _ HB2.out).mono ?_
  rintro e w3 ⟨A3, cap3, rfl, hb3, ht3⟩
  have hb4 : Below w3.heap.size w3 (w3.alloc (.cells #[.int .i64 0, .int .i64 q2] 26)) := (Below.refl _ _).alloc (Nat.le_refl _) _
  have hX3 := HX2.out.below hb3 HX2.out.lt
  have hlx := hX3.lt
  have HX4 := Lib.hid (hX3.below hb4 hX3.lt)
  have HY4 := Lib.hid (Blk.new w3 26 #[.int .i64 0, .int .i64 q2])
  have HB4 := Lib.hid ((HB2.out.trans (hb3.mono HB2.out.size)).trans (hb4.mono (by have := HB2.out.size; have := hb3.size; omega)))
  have HT4 := Lib.hid ((HT2.out.below hb3).below hb4)
  have HT4' := Lib.hid (ht3.below hb4)
  obtain ⟨x0, x1, _, _⟩ := hX3.c2
  clear hb3 hb4 hX3 HX2 HT2 HB2 ht3 HF2
  dsimp only

  go_upto_region 5 with fail
  clear x0 x1
  have hlxw : w1.heap.size < (w3.alloc (.cells #[.int .i64 0, .int .i64 q2] 26)).heap.size := by simp; omega
  have hly : w3.heap.size < (w3.alloc (.cells #[.int .i64 0, .int .i64 q2] 26)).heap.size := by simp
  have hw31 : w1.heap.size < w3.heap.size := hlx
  generalize hW4 : w3.alloc (.cells #[.int .i64 0, .int .i64 q2] 26) = W4 at *
  clear hW4
  have hcv1 := bytes_strN cap (HA1.out.below HB4.out)
  have hcv2 := bytes_strN cap' (HA2.out.below HB4.out)
  obtain ⟨C5, W5, k5, hA5, hb5, hC5⟩ := conv_text W4 (a ++ 10 :: b) (bothN_lt HA1.out.1 HA2.out.1) (by simp; omega)
  rw [bothN_str] at k5
  have HG5 := Lib.hid (HF3.out W5 _ C5 hA5 hC5)
  have HX5 := Lib.hid (HX4.out.below (hb5.mono (Nat.le_refl _)) hlxw)
  have HT5 := Lib.hid (HT4.out.below hb5)
  have HT5' := Lib.hid (HT4'.out.below hb5)
  have HB5 := Lib.hid (HB4.out.trans (hb5.mono HB4.out.size))
  have hl5 : W4.heap.size ≤ W5.heap.size := hb5.size
  generalize (a ++ 10 :: b).length = m3 at *
  clear hA5 hb5 hC5 HF3 HX4 HY4 HT4 HT4' HB4
  go_wp2_with fail
  clear hcv1 hcv2 k5
  refine HG5.out.mono ?_
  rintro e w6 ⟨A6, cap6, rfl, hb6, ht6⟩
  have hb7 : Below w6.heap.size w6 (w6.alloc (.cells #[.int .i64 0, .int .i64 q3] 26)) := (Below.refl _ _).alloc (Nat.le_refl _) _
  have hb67 := hb6.trans (hb7.mono hb6.size)
  have HZ7 := Lib.hid (Blk.new w6 26 #[.int .i64 0, .int .i64 q3])
  have HT7 := Lib.hid (HT5.out.below hb67)
  have HT7' := Lib.hid (HT5'.out.below hb67)
  have HU7 := Lib.hid (ht6.below hb7)
  have HB7 := Lib.hid (HB5.out.trans (hb67.mono HB5.out.size))
  clear hb6 hb7 hb67 ht6 HG5 HX5 HT5 HT5' HB5 hlxw hly hl5
  dsimp only

  go_upto_region 6 with fail
  generalize hW7 : w6.alloc (.cells #[.int .i64 0, .int .i64 q3] 26) = W7 at *
  clear hW7
  have hlz := HZ7.out.lt
  go_wp2
  go_loopw [11] (fun i wr => wr = W7 ∧ ∃ k : Nat, k ≤ m.length ∧ Hid (∀ j r, j < k → m[j]? = some r → called l r.name = false) ∧ i = .int .i64 (k : Int)) (fun i _ => m.length - (intOf i).toNat)
  case atStart => exact ⟨rfl, 0, Nat.zero_le _, Lib.hid (fun j r h => by omega), rfl⟩
  case round =>
    obtain ⟨rfl, k, hk, HK, rfl⟩ := hrel
    by_cases hlt : k < m.length
    · obtain ⟨r, hr⟩ : ∃ r, m[k]? = some r := ⟨_, List.getElem?_eq_getElem hlt⟩
      obtain ⟨g, o, B, capb, rfl, _, _, hc, _⟩ := HT7'.out k r hr
      have HR := Lib.hid hr
      have HC := Lib.hid (rhas_go A1 cap1 l r.name _ wr HT7.out (by omega) HL.out (HM.out r (List.mem_of_getElem? hr)))
      have hbl := World.block_lt_of_cell? wr _ hc
      have hdl : (k : Int) < (m.length : Int) := by omega
      clear hr
      cases hcl : called l r.name with
      | true =>
        rw [hcl] at HC
        have HCL := Lib.hid hcl
        clear hcl
        go_wp2_with fail
        refine HC.out.mono ?_
        rintro e w8 ⟨rfl, rfl⟩
        clear HC
        exact absurd (HD.out r (List.mem_of_getElem? HR.out)) (by rw [HCL.out]; decide)
      | false =>
        rw [hcl] at HC
        have HK2 := Lib.hid (show ∀ j r, j < k + 1 → m[j]? = some r → called l r.name = false from fun j r' hj hr' => by
          rcases Nat.lt_or_ge j k with h | h
          · exact HK.out j r' h hr'
          · obtain rfl : j = k := by omega
            rw [HR.out] at hr'
            cases hr'
            exact hcl)
        clear hcl
        go_wp2_with fail
        refine HC.out.mono ?_
        rintro e w8 ⟨rfl, rfl⟩
        clear HC hc
        dsimp only
        go_wp2
        go_roundw
        case rel => exact ⟨trivial, k + 1, by omega, HK2, by go_num⟩
        case measure => simp [intOf]; omega
    · have hdl : ¬ (k : Int) < (m.length : Int) := by omega
      clear HK HD
      obtain ⟨z0, z1, _, _⟩ := HZ7.out.c2
      obtain ⟨v1, wa, v2, wb, k1, k2, hbb, A9, cap9, hv2, hR9⟩ := append_both wr A1 A3 cap1 cap3 l m HT7.out HT7'.out (by omega)
      rw [← HU.out] at hv2 hR9
      subst hv2
      have hsame := sspsame_go A6 A9 cap6 cap9 u _ _ wb (HU7.out.below hbb) hR9 (by rw [HU.out, List.length_append]; omega) (fun r hr => by have := HSZ.out r (by rw [← HU.out]; exact hr); omega)
      have HSM := Lib.hid hsame
      have HBB := Lib.hid (HB7.out.trans (hbb.mono HB7.out.size))
      have K1 := Lib.hid k1
      have K2 := Lib.hid k2
      clear k1 k2 hbb hR9 hsame HZ7 HT7 HT7' HU7 hlz
      go_wp2_with (at_builtin; first | (refine wpList_append_byw (by rfl) _ _ _ _ rfl _ _ _ _ rfl rfl K1.out ?_) | (refine wpList_append_byw (by rfl) _ _ _ _ rfl _ _ _ _ rfl rfl K2.out ?_))
      refine HSM.out.mono ?_
      rintro e w9 ⟨rfl, hb9⟩
      have HB9 := Lib.hid (HBB.out.trans (hb9.mono HBB.out.size))
      clear hb9 HSM
      dsimp only
      go_wp2_with fail
      refine (knows09_go _).mono ?_
      rintro e w10 ⟨rfl, hb10⟩
      have HB10 := Lib.hid (HB9.out.trans (hb10.mono HB9.out.size))
      clear hb10
      dsimp only
      go_wp2
      go_light
      go_ret
      exact ⟨rfl, HB10.out⟩

end Go.Proofs.Ytgbpcigfbpghgaa
