/-
  The contract of the reference's Read.
-/
import Derived.Test.YtajohcknenngnaaGreatQRefChar
import Derived.Test.YtajohcknenngnaaGreatQRefNot
import Derived.Test.YtajohcknenngnaaGreatQRead
namespace Go.Proofs.YtajohcknenngnaaGreat
open Go.RowKit
set_option linter.unusedSimpArgs false
set_option linter.unusedVariables false
set_option maxRecDepth 100000

/-- The two blocks that a call of Read lays first. -/
def Laid3 (w : World) : World := (w.alloc (.cells #[.int .u64 0, .int .u64 0, .int .u64 0, .int .u64 0] 37)).alloc (.cells #[.int .i64 0, .int .i64 0] 26)
theorem Laid3.set (w : World) : Blk (Laid3 w) w.heap.size 37 #[.int .u64 0, .int .u64 0, .int .u64 0, .int .u64 0] := (Blk.new _ _ _).alloc _
theorem Laid3.bad (w : World) : Blk (Laid3 w) (w.heap.size + 1) 26 #[.int .i64 0, .int .i64 0] := Blk.new_at (by simp)
theorem Laid3.below (w : World) : Below w.heap.size w (Laid3 w) := ((Below.refl _ _).alloc (Nat.le_refl _) _).alloc (by simp) _
theorem Laid3.size (w : World) : (Laid3 w).heap.size = w.heap.size + 1 + 1 := by simp [Laid3]

set_option maxHeartbeats 1000000 in
theorem rread_no (A : Option Addr) (cap : Nat) (bs : List Nat) (i : Int) (w : World) (hA : BytesAt w w.heap.size A bs) (h : hasAt bs i 91 = false) : Calls Tryz.prog 109 #[.slice A bs.length cap, .int .i64 i] w fun e w' => e = .returned (classVal (readS bs i)) ∧ Below w.heap.size w w' := by
  rw [readS_no h]
  have HA := Lib.hid (hA.below (Laid3.below w))
  have H := Lib.hid h
  have Hz := Lib.hid (Laid3.set w)
  have Hb := Lib.hid (Laid3.bad w)
  obtain ⟨z0, z1, z2, z3, y0, y1, y2, y3⟩ := Hz.out.c4
  obtain ⟨b0, b1, x0, x1⟩ := Hb.out.c2
  clear hA h
  go_enter Tryz.func109, Tryz.ntmps109
  go_wp2_with fail
  refine (rhasb_is A cap bs _ 91 false w.heap.size _ HA.out (by omega) (by omega) H.out).mono ?_
  rintro e w1 ⟨rfl, rfl⟩
  go_wp2_with (go_at_call 127; refine (bad_go _ _ _).mono ?_; rintro e w1 ⟨rfl, hb1⟩; have hs1 := (Laid3.set w).below hb1 (by rw [Laid3.size]; omega); have hd1 := (Laid3.bad w).below hb1 (by rw [Laid3.size]; omega); obtain ⟨q0, q1, q2, q3, q4, q5, q6, q7⟩ := hs1.c4; obtain ⟨r0, r1, r2, r3⟩ := hd1.c2; have Hs1 := Lib.hid hs1; have Hd1 := Lib.hid hd1; clear hs1 hd1)
  go_light
  refine bodyPost_ret (ret_read Tryz.results109 rfl rfl rfl (Hs1.out.set4.far2 (by omega) _ _) (Hd1.out.far4 (by omega) _ _ _ _).set2) rfl ⟨rfl, ?_⟩
  exact below_set2 (below_set4 ((Laid3.below w).trans (hb1.mono (by rw [Laid3.size]; omega))) (Nat.le_refl _) _ _ _ _) (by omega) _ _

/-- What a round may come to. -/
def RStep (bs : List Nat) (s j : Nat) (r : Except Wrong (Nat × Nat × Nat)) : Prop :=
  (∃ k p, k ≠ 0 ∧ charS bs s j = .error (k, p) ∧ r = .error (k, p)) ∨
  ∃ lo n, charS bs s j = .ok (lo, n) ∧ j < n ∧ n ≤ bs.length ∧ lo < 256 ∧
    (hasAt bs (n : Int) 45 = false ∧ r = .ok (lo, lo, n) ∨
     hasAt bs (n : Int) 45 = true ∧ n < bs.length ∧
       ((∃ k p, k ≠ 0 ∧ charS bs s (n + 1) = .error (k, p) ∧ r = .error (k, p)) ∨
        ∃ hi m, charS bs s (n + 1) = .ok (hi, m) ∧ n + 1 < m ∧ m ≤ bs.length ∧ hi < 256 ∧ (hi < lo ∧ r = .error (15, (j : Int)) ∨ ¬ hi < lo ∧ r = .ok (lo, hi, m))))
theorem charS_kind {bs : List Nat} {s i : Nat} {k p : Int} (h : charS bs s i = .error (k, p)) : k ≠ 0 := by
  unfold charS at h
  by_cases h0 : bs.length ≤ i
  · rw [if_pos h0] at h; simp at h; omega
  rw [if_neg h0] at h
  by_cases h1 : byteAt bs i = 92
  · rw [if_pos h1] at h
    cases he : escS bs i with
    | none => rw [he] at h; simp at h; omega
    | some x => rw [he] at h; simp at h
  rw [if_neg h1] at h
  by_cases h2 : isSpecial (byteAt bs i) = true
  · rw [if_pos h2] at h; simp at h; omega
  · rw [if_neg h2] at h; simp at h
theorem rstep {bs : List Nat} (hb : ∀ x ∈ bs, x < 256) (s j : Nat) : RStep bs s j (itemS bs s j) := by
  unfold itemS
  cases hc : charS bs s j with
  | error x => obtain ⟨k, p⟩ := x; exact .inl ⟨k, p, charS_kind hc, hc, rfl⟩
  | ok x =>
    obtain ⟨lo, n⟩ := x
    obtain ⟨a1, a2, a3⟩ := charS_ok hb hc
    refine .inr ⟨lo, n, hc, a1, a2, a3, ?_⟩
    dsimp only
    cases hh : hasAt bs (n : Int) 45 with
    | false => exact .inl ⟨rfl, rfl⟩
    | true =>
      obtain ⟨n', e', hn, _⟩ := hasAt_yes hh
      refine .inr ⟨rfl, by omega, ?_⟩
      rw [if_pos rfl]
      cases hf : charS bs s (n + 1) with
      | error y => obtain ⟨k, p⟩ := y; exact .inl ⟨k, p, charS_kind hf, rfl, rfl⟩
      | ok y =>
        obtain ⟨hi, m⟩ := y
        obtain ⟨b1, b2, b3⟩ := charS_ok hb hf
        refine .inr ⟨hi, m, rfl, b1, b2, b3, ?_⟩
        dsimp only
        by_cases hlt : hi < lo
        · exact .inl ⟨hlt, if_pos hlt⟩
        · exact .inr ⟨hlt, if_neg hlt⟩

theorem two_or (p q : Nat → Bool) : two 0 p q = fun c => p c || q c := by funext c; simp [two]

set_option maxHeartbeats 4000000 in
theorem rread_plain (A : Option Addr) (cap : Nat) (bs : List Nat) (i : Nat) (w : World) (hA : BytesAt w w.heap.size A bs) (hh : hasAt bs (i : Int) 91 = true) (ht : hasAt bs ((i : Int) + 1) 94 = false) : Calls Tryz.prog 109 #[.slice A bs.length cap, .int .i64 (i : Int)] w fun e w' => e = .returned (classVal (readS bs (i : Int))) ∧ Below w.heap.size w w' := by
  obtain ⟨FIN, hfin⟩ : ∃ r, itemsS bs i (bs.length + 1) (i + 1) (fun _ => false) = r := ⟨_, rfl⟩
  have Hfin := Lib.hid hfin
  have HV : Hid (classVal (readS bs i) = classVal FIN) := by
    show classVal _ = _
    rw [readS_plain hh ht, hfin]
  have hi : i + 1 ≤ bs.length := by obtain ⟨k, h1, h2, _⟩ := hasAt_yes hh; omega
  have hl := hA.2.1
  have hq : w.heap.size + 1 < (Laid3 w).heap.size := by rw [Laid3.size]; omega
  have Hh := Lib.hid hh
  have HAb := Lib.hid hA
  have HA0 := Lib.hid (hA.below (Laid3.below w))
  clear hh hA hfin
  go_enter Tryz.func109, Tryz.ntmps109
  go_wp2_with fail
  refine (rhasb_is A cap bs _ 91 true w.heap.size _ HA0.out (by omega) (by omega) Hh.out).mono ?_
  rintro e w1 ⟨rfl, rfl⟩
  go_wp2_with (go_at_call 126; refine (rhasb_go A cap bs _ _ w.heap.size _ HA0.out (by omega) (by omega)).mono ?_; rintro e w2 ⟨rfl, rfl⟩)
  clear ht
  go_loopg [7, 10] (bs.length + 2) (fun gk v7 v10 wr => ∃ (p : Nat → Bool) (j m : Nat), v7 = .int .i64 (j : Int) ∧ v10 = .int .i64 (m : Int) ∧ j ≤ bs.length ∧ m ≤ j ∧ bs.length + 1 ≤ gk + j ∧ Hid (Blk wr (Laid3 w).heap.size 37 #[.int .u64 ((word (p) 0 : Nat) : Int), .int .u64 ((word (p) 1 : Nat) : Int), .int .u64 ((word (p) 2 : Nat) : Int), .int .u64 ((word (p) 3 : Nat) : Int)]) ∧ Hid (Blk wr w.heap.size 37 #[.int .u64 0, .int .u64 0, .int .u64 0, .int .u64 0]) ∧
      Hid (Blk wr (w.heap.size + 1) 26 #[.int .i64 0, .int .i64 0]) ∧ Hid (Below w.heap.size w wr) ∧
      Hid (∃ f, bs.length < f + j ∧ FIN = if m = 0 then itemsS bs i f j p else restS bs i f j p))
  case atStart =>
    refine ⟨fun _ => false, i + 1, 0, by go_num, rfl, hi, by omega, by omega, ?_, (Laid3.set w).alloc _, (Laid3.bad w).alloc _, (Laid3.below w).alloc (by rw [Laid3.size]; omega) _, bs.length + 1, by omega, ?_⟩
    · show Blk _ _ _ _
      simp only [word_none]; exact Blk.new_at rfl
    · rw [if_pos rfl, Hfin.out]
  case round =>
    obtain ⟨p, j, m, rfl, rfl, hj, hm, hg, Hs, Hz, Hb, HB, HF⟩ := hrel
    obtain ⟨s0, s1, s2, s3, f0, f1, f2, f3⟩ := Hs.out.c4
    obtain ⟨z0, z1, z2, z3, y0, y1, y2, y3⟩ := Hz.out.c4
    obtain ⟨b0, b1, x0, x1⟩ := Hb.out.c2
    have hlts := Hs.out.lt
    have HA := Lib.hid (HAb.out.below HB.out)
    by_cases hend : m ≠ 0 ∧ hasAt bs (j : Int) 93 = true
    · obtain ⟨hm0, hc⟩ := hend
      have hmb : ((m : Int) == 0) = false := by simp; omega
      have HV2 : Hid (classVal (readS bs i) = .tuple #[.agg #[.int .u64 ((word (p) 0 : Nat) : Int), .int .u64 ((word (p) 1 : Nat) : Int), .int .u64 ((word (p) 2 : Nat) : Int), .int .u64 ((word (p) 3 : Nat) : Int)], .int .i64 ((j : Int) + 1), .agg #[.int .i64 0, .int .i64 0]]) := by
        obtain ⟨f, hf, hFF⟩ := HF.out
        rw [if_neg hm0, restS_end hc] at hFF
        show classVal _ = _
        rw [HV.out, hFF]
        rfl
      clear hm0
      go_wp2_with (go_at_call 126; refine (rhasb_go A cap bs _ _ w.heap.size _ HA.out (by omega) (by omega)).mono ?_; rintro e w2 ⟨rfl, rfl⟩)
      go_light
      rw [HV2.out] at *
      refine bodyPost_ret (ret_read Tryz.results109 rfl rfl rfl (Hz.out.set4.far2 (by omega) _ _) (Hb.out.far4 (by omega) _ _ _ _).set2) rfl ⟨rfl, ?_⟩
      exact below_set2 (below_set4 HB.out (Nat.le_refl _) _ _ _ _) (by omega) _ _
    · have HF2 : Hid (∃ f, bs.length < f + 1 + j ∧ FIN = itemsS bs i (f + 1) j p) := by
        obtain ⟨f, hf, hFF⟩ := HF.out
        refine ⟨f - 1, by omega, ?_⟩
        rw [show f - 1 + 1 = f by omega]
        by_cases hm0 : m = 0
        · rw [if_pos hm0] at hFF; exact hFF
        · rw [if_neg hm0] at hFF
          rw [hFF, restS_go (by cases hx : hasAt bs (j : Int) 93; rfl; exact absurd ⟨hm0, hx⟩ hend)]
      have Hcond : Hid (((m : Int) == 0) = true ∨ ((m : Int) == 0) = false ∧ hasAt bs (j : Int) 93 = false) := by
        by_cases hm0 : m = 0
        · exact .inl (by subst hm0; rfl)
        · exact .inr ⟨by simp; omega, by cases hx : hasAt bs (j : Int) 93; rfl; exact absurd ⟨hm0, hx⟩ hend⟩
      clear hend HF
      have hst := rstep HA.out.1 i j
      rcases Hcond.out with hmb | ⟨hmb, hcb⟩
      · rcases hst with ⟨k, q, hk, hc1, hr⟩ | ⟨lo, n, hc1, hjn, hnl, hlo, hst⟩
        · have HV2 : Hid (classVal (readS bs i) = .tuple #[.agg #[.int .u64 0, .int .u64 0, .int .u64 0, .int .u64 0], .int .i64 0, .agg #[.int .i64 k, .int .i64 q]]) := by
            obtain ⟨f, hf, hFF⟩ := HF2.out
            show classVal _ = _
            rw [HV.out, hFF, itemsS_bad hr]
            rfl
          have hkn : (k != 0) = true := by simpa using hk
          have Hc1 := Lib.hid hc1
          clear hc1 hr
          go_wp2_with (go_at_call 126; refine (rhasb_go A cap bs _ _ w.heap.size _ HA.out (by omega) (by omega)).mono ?_; rintro e w2 ⟨rfl, rfl⟩)
          with_reducible refine (rchar_go A cap bs j i wr ((HA.out).more (by omega)) hj).mono ?_
          rintro e w1 ⟨rfl, hb1⟩
          rw [Hc1.out]
          dsimp only [charVal]
          have Hs1 := Lib.hid (Hs.out.below hb1 Hs.out.lt); have Hz1 := Lib.hid (Hz.out.below hb1 Hz.out.lt); have Hb1 := Lib.hid (Hb.out.below hb1 Hb.out.lt); have HB1 := Lib.hid (HB.out.trans (hb1.mono (Nat.le_of_lt Hz.out.lt))); have HA1 := Lib.hid (HAb.out.below HB1.out); have hlts1 := Hs1.out.lt; have hltz1 := Hz1.out.lt; have hltb1 := Hb1.out.lt; obtain ⟨s01, s11, s21, s31, s41, s51, s61, s71⟩ := Hs1.out.c4; obtain ⟨z01, z11, z21, z31, y01, y11, y21, y31⟩ := Hz1.out.c4; obtain ⟨b01, b11, x01, x11⟩ := Hb1.out.c2
          go_wp2
          go_region
          all_goals go_wp2
          all_goals go_light
          all_goals rw [HV2.out] at *
          refine bodyPost_ret (ret_read Tryz.results109 rfl rfl rfl (((Hz1.out.set4.far2 (by omega) _ _)).alloc _).drew ((((Hb1.out.far4 (by omega) _ _ _ _).set2)).alloc _).drew) rfl ⟨rfl, ?_⟩
          exact ((below_set2 (below_set4 HB1.out (Nat.le_refl _) _ _ _ _) (by omega) _ _).alloc (by simp [World.setCell]; omega) _).drew
        · rcases hst with ⟨hh, hr⟩ | ⟨hh, hnl', hst⟩
          · have Hr := Lib.hid hr
            have Hc1 := Lib.hid hc1
            clear hc1 hr
            go_wp2_with (go_at_call 126; refine (rhasb_go A cap bs _ _ w.heap.size _ HA.out (by omega) (by omega)).mono ?_; rintro e w2 ⟨rfl, rfl⟩)
            with_reducible refine (rchar_go A cap bs j i wr ((HA.out).more (by omega)) hj).mono ?_
            rintro e w1 ⟨rfl, hb1⟩
            rw [Hc1.out]
            dsimp only [charVal]
            have Hs1 := Lib.hid (Hs.out.below hb1 Hs.out.lt); have Hz1 := Lib.hid (Hz.out.below hb1 Hz.out.lt); have Hb1 := Lib.hid (Hb.out.below hb1 Hb.out.lt); have HB1 := Lib.hid (HB.out.trans (hb1.mono (Nat.le_of_lt Hz.out.lt))); have HA1 := Lib.hid (HAb.out.below HB1.out); have hlts1 := Hs1.out.lt; have hltz1 := Hz1.out.lt; have hltb1 := Hb1.out.lt; obtain ⟨s01, s11, s21, s31, s41, s51, s61, s71⟩ := Hs1.out.c4; obtain ⟨z01, z11, z21, z31, y01, y11, y21, y31⟩ := Hz1.out.c4; obtain ⟨b01, b11, x01, x11⟩ := Hb1.out.c2
            have Hs2 := Lib.hid (Hs1.out.alloc (.cells #[.int .i64 0, .int .i64 0] 26)); have Hz2 := Lib.hid (Hz1.out.alloc (.cells #[.int .i64 0, .int .i64 0] 26)); have Hb2 := Lib.hid (Hb1.out.alloc (.cells #[.int .i64 0, .int .i64 0] 26)); have HB2 := Lib.hid (HB1.out.alloc (by omega) (.cells #[.int .i64 0, .int .i64 0] 26)); have HA2 := Lib.hid (HAb.out.below HB2.out); have hlts2 := Hs2.out.lt
            go_wp2_with (go_at_call 126; refine (rhasb_go A cap bs _ _ w.heap.size _ HA2.out (by omega) (by omega)).mono ?_; rintro e w2 ⟨rfl, rfl⟩)
            go_wp2_with fail
            have wl1 : IntKind.i64.wrap (lo : Int) = (lo : Int) := IntWalk.i64_in _ (by omega)
            have wl2 : IntKind.i64.wrap (lo : Int) = (lo : Int) := IntWalk.i64_in _ (by omega)
            go_region_with (first
              | (go_at_call 133; refine (rspan_any _ _ _ (by omega) (by omega) (by omega) (by omega)).mono ?_; rintro e w5 ⟨rfl, hb5⟩; have Hs5 := Lib.hid (Hs2.out.drew.below hb5 (by simpa using hlts2)); obtain ⟨t0, t1, t2, t3, t4, t5, t6, t7⟩ := Hs5.out.c4)
              | (go_at_call 132; refine (rtwo_any _ _ _ _ (by omega)).mono ?_; rintro e w6 ⟨rfl, hb6⟩; have hb56 := hb5.trans (hb6.mono hb5.size); have Hs6 := Lib.hid (Hs2.out.drew.below hb56 (by simpa using hlts2)); obtain ⟨v0, v1, v2, v3, v4, v5, v6, v7⟩ := Hs6.out.c4))
            all_goals clear wl1 wl2
            all_goals go_wp2
            all_goals go_light
            all_goals go_roundg (gk - 1)
            all_goals try case measure => omega
            all_goals
              refine ⟨two 0 p (between lo lo), n, m + 1, by go_num, by go_num, by omega, by omega, by omega, Hs6.out.set4, ?_, ?_, ?_, ?_⟩
              · exact (Hz2.out.drew.below hb56 (by simpa using Hz2.out.lt)).far4 (by omega) _ _ _ _
              · exact (Hb2.out.drew.below hb56 (by simpa using Hb2.out.lt)).far4 (by omega) _ _ _ _
              · exact below_set4 (HB2.out.drew.trans (hb56.mono (by simp; omega))) (by omega) _ _ _ _
              · obtain ⟨f, hf, hFF⟩ := HF2.out
                refine ⟨f, by omega, ?_⟩
                rw [if_neg (by omega), hFF, itemsS_ok Hr.out, two_or]
          · have hd45 := hh
            rcases hst with ⟨k, q, hk, hc2, hr⟩ | ⟨hi', n2, hc2, hnm, hml, hhi, hst⟩
            · have HV2 : Hid (classVal (readS bs i) = .tuple #[.agg #[.int .u64 0, .int .u64 0, .int .u64 0, .int .u64 0], .int .i64 0, .agg #[.int .i64 k, .int .i64 q]]) := by
                obtain ⟨f, hf, hFF⟩ := HF2.out
                show classVal _ = _
                rw [HV.out, hFF, itemsS_bad hr]
                rfl
              have hkn : (k != 0) = true := by simpa using hk
              have Hc1 := Lib.hid hc1
              have Hc2 := Lib.hid hc2
              clear hc1 hc2 hr
              go_wp2_with (go_at_call 126; refine (rhasb_go A cap bs _ _ w.heap.size _ HA.out (by omega) (by omega)).mono ?_; rintro e w2 ⟨rfl, rfl⟩)
              with_reducible refine (rchar_go A cap bs j i wr ((HA.out).more (by omega)) hj).mono ?_
              rintro e w1 ⟨rfl, hb1⟩
              rw [Hc1.out]
              dsimp only [charVal]
              have Hs1 := Lib.hid (Hs.out.below hb1 Hs.out.lt); have Hz1 := Lib.hid (Hz.out.below hb1 Hz.out.lt); have Hb1 := Lib.hid (Hb.out.below hb1 Hb.out.lt); have HB1 := Lib.hid (HB.out.trans (hb1.mono (Nat.le_of_lt Hz.out.lt))); have HA1 := Lib.hid (HAb.out.below HB1.out); have hlts1 := Hs1.out.lt; have hltz1 := Hz1.out.lt; have hltb1 := Hb1.out.lt; obtain ⟨s01, s11, s21, s31, s41, s51, s61, s71⟩ := Hs1.out.c4; obtain ⟨z01, z11, z21, z31, y01, y11, y21, y31⟩ := Hz1.out.c4; obtain ⟨b01, b11, x01, x11⟩ := Hb1.out.c2
              have Hs2 := Lib.hid (Hs1.out.alloc (.cells #[.int .i64 0, .int .i64 0] 26)); have Hz2 := Lib.hid (Hz1.out.alloc (.cells #[.int .i64 0, .int .i64 0] 26)); have Hb2 := Lib.hid (Hb1.out.alloc (.cells #[.int .i64 0, .int .i64 0] 26)); have HB2 := Lib.hid (HB1.out.alloc (by omega) (.cells #[.int .i64 0, .int .i64 0] 26)); have HA2 := Lib.hid (HAb.out.below HB2.out); have hlts2 := Hs2.out.lt
              go_wp2_with (go_at_call 126; refine (rhasb_go A cap bs _ _ w.heap.size _ HA2.out (by omega) (by omega)).mono ?_; rintro e w2 ⟨rfl, rfl⟩)
              rw [show ((n : Int) + 1) = ((n + 1 : Nat) : Int) by omega]
              with_reducible refine (rchar_go A cap bs (n + 1) i _ ((HA2.out).more (Nat.le_of_lt Hz2.out.lt)) (by omega)).mono ?_
              rintro e w3 ⟨rfl, hb3⟩
              rw [Hc2.out]
              dsimp only [charVal]
              have Hs3 := Lib.hid (Hs2.out.below hb3 Hs2.out.lt); have Hz3 := Lib.hid (Hz2.out.below hb3 Hz2.out.lt); have Hb3 := Lib.hid (Hb2.out.below hb3 Hb2.out.lt); have HB3 := Lib.hid (HB2.out.trans (hb3.mono (Nat.le_of_lt Hz2.out.lt))); have HA3 := Lib.hid (HAb.out.below HB3.out); have hlts3 := Hs3.out.lt; have hltz3 := Hz3.out.lt; have hltb3 := Hb3.out.lt; obtain ⟨s03, s13, s23, s33, s43, s53, s63, s73⟩ := Hs3.out.c4; obtain ⟨z03, z13, z23, z33, y03, y13, y23, y33⟩ := Hz3.out.c4; obtain ⟨b03, b13, x03, x13⟩ := Hb3.out.c2
              go_wp2
              go_region
              all_goals go_wp2
              all_goals go_light
              all_goals rw [HV2.out] at *
              refine bodyPost_ret (ret_read Tryz.results109 rfl rfl rfl (((Hz3.out.set4.far2 (by omega) _ _)).alloc _).drew ((((Hb3.out.far4 (by omega) _ _ _ _).set2)).alloc _).drew) rfl ⟨rfl, ?_⟩
              exact ((below_set2 (below_set4 HB3.out (Nat.le_refl _) _ _ _ _) (by omega) _ _).alloc (by simp [World.setCell]; omega) _).drew
            · rcases hst with ⟨hlt, hr⟩ | ⟨hlt, hr⟩
              · have HV2 : Hid (classVal (readS bs i) = .tuple #[.agg #[.int .u64 0, .int .u64 0, .int .u64 0, .int .u64 0], .int .i64 0, .agg #[.int .i64 15, .int .i64 (j : Int)]]) := by
                  obtain ⟨f, hf, hFF⟩ := HF2.out
                  show classVal _ = _
                  rw [HV.out, hFF, itemsS_bad hr]
                  rfl
                have Hc1 := Lib.hid hc1
                have Hc2 := Lib.hid hc2
                clear hc1 hc2 hr
                go_wp2_with (go_at_call 126; refine (rhasb_go A cap bs _ _ w.heap.size _ HA.out (by omega) (by omega)).mono ?_; rintro e w2 ⟨rfl, rfl⟩)
                with_reducible refine (rchar_go A cap bs j i wr ((HA.out).more (by omega)) hj).mono ?_
                rintro e w1 ⟨rfl, hb1⟩
                rw [Hc1.out]
                dsimp only [charVal]
                have Hs1 := Lib.hid (Hs.out.below hb1 Hs.out.lt); have Hz1 := Lib.hid (Hz.out.below hb1 Hz.out.lt); have Hb1 := Lib.hid (Hb.out.below hb1 Hb.out.lt); have HB1 := Lib.hid (HB.out.trans (hb1.mono (Nat.le_of_lt Hz.out.lt))); have HA1 := Lib.hid (HAb.out.below HB1.out); have hlts1 := Hs1.out.lt; have hltz1 := Hz1.out.lt; have hltb1 := Hb1.out.lt; obtain ⟨s01, s11, s21, s31, s41, s51, s61, s71⟩ := Hs1.out.c4; obtain ⟨z01, z11, z21, z31, y01, y11, y21, y31⟩ := Hz1.out.c4; obtain ⟨b01, b11, x01, x11⟩ := Hb1.out.c2
                have Hs2 := Lib.hid (Hs1.out.alloc (.cells #[.int .i64 0, .int .i64 0] 26)); have Hz2 := Lib.hid (Hz1.out.alloc (.cells #[.int .i64 0, .int .i64 0] 26)); have Hb2 := Lib.hid (Hb1.out.alloc (.cells #[.int .i64 0, .int .i64 0] 26)); have HB2 := Lib.hid (HB1.out.alloc (by omega) (.cells #[.int .i64 0, .int .i64 0] 26)); have HA2 := Lib.hid (HAb.out.below HB2.out); have hlts2 := Hs2.out.lt
                go_wp2_with (go_at_call 126; refine (rhasb_go A cap bs _ _ w.heap.size _ HA2.out (by omega) (by omega)).mono ?_; rintro e w2 ⟨rfl, rfl⟩)
                rw [show ((n : Int) + 1) = ((n + 1 : Nat) : Int) by omega]
                with_reducible refine (rchar_go A cap bs (n + 1) i _ ((HA2.out).more (Nat.le_of_lt Hz2.out.lt)) (by omega)).mono ?_
                rintro e w3 ⟨rfl, hb3⟩
                rw [Hc2.out]
                dsimp only [charVal]
                have Hs3 := Lib.hid (Hs2.out.below hb3 Hs2.out.lt); have Hz3 := Lib.hid (Hz2.out.below hb3 Hz2.out.lt); have Hb3 := Lib.hid (Hb2.out.below hb3 Hb2.out.lt); have HB3 := Lib.hid (HB2.out.trans (hb3.mono (Nat.le_of_lt Hz2.out.lt))); have HA3 := Lib.hid (HAb.out.below HB3.out); have hlts3 := Hs3.out.lt; have hltz3 := Hz3.out.lt; have hltb3 := Hb3.out.lt; obtain ⟨s03, s13, s23, s33, s43, s53, s63, s73⟩ := Hs3.out.c4; obtain ⟨z03, z13, z23, z33, y03, y13, y23, y33⟩ := Hz3.out.c4; obtain ⟨b03, b13, x03, x13⟩ := Hb3.out.c2
                have Hs4 := Lib.hid (Hs3.out.alloc (.cells #[.int .i64 0, .int .i64 0] 26)); have Hz4 := Lib.hid (Hz3.out.alloc (.cells #[.int .i64 0, .int .i64 0] 26)); have Hb4 := Lib.hid (Hb3.out.alloc (.cells #[.int .i64 0, .int .i64 0] 26)); have HB4 := Lib.hid (HB3.out.alloc (by omega) (.cells #[.int .i64 0, .int .i64 0] 26)); have HA4 := Lib.hid (HAb.out.below HB4.out); have hlts4 := Hs4.out.lt
                go_wp2_with (go_at_call 127; refine (bad_go _ _ _).mono ?_; rintro e w5 ⟨rfl, hb5⟩; have Hz5 := Lib.hid (Hz4.out.below hb5 Hz4.out.lt); have Hb5 := Lib.hid (Hb4.out.below hb5 Hb4.out.lt); obtain ⟨z05, z15, z25, z35, y05, y15, y25, y35⟩ := Hz5.out.c4; obtain ⟨b05, b15, x05, x15⟩ := Hb5.out.c2)
                go_light
                rw [HV2.out] at *
                refine bodyPost_ret (ret_read Tryz.results109 rfl rfl rfl (Hz5.out.set4.far2 (by omega) _ _) ((Hb5.out.far4 (by omega) _ _ _ _).set2)) rfl ⟨rfl, ?_⟩
                exact below_set2 (below_set4 (HB4.out.trans (hb5.mono (by simp; omega))) (Nat.le_refl _) _ _ _ _) (by omega) _ _
              · have Hr := Lib.hid hr
                have Hc1 := Lib.hid hc1
                have Hc2 := Lib.hid hc2
                clear hc1 hc2 hr
                go_wp2_with (go_at_call 126; refine (rhasb_go A cap bs _ _ w.heap.size _ HA.out (by omega) (by omega)).mono ?_; rintro e w2 ⟨rfl, rfl⟩)
                with_reducible refine (rchar_go A cap bs j i wr ((HA.out).more (by omega)) hj).mono ?_
                rintro e w1 ⟨rfl, hb1⟩
                rw [Hc1.out]
                dsimp only [charVal]
                have Hs1 := Lib.hid (Hs.out.below hb1 Hs.out.lt); have Hz1 := Lib.hid (Hz.out.below hb1 Hz.out.lt); have Hb1 := Lib.hid (Hb.out.below hb1 Hb.out.lt); have HB1 := Lib.hid (HB.out.trans (hb1.mono (Nat.le_of_lt Hz.out.lt))); have HA1 := Lib.hid (HAb.out.below HB1.out); have hlts1 := Hs1.out.lt; have hltz1 := Hz1.out.lt; have hltb1 := Hb1.out.lt; obtain ⟨s01, s11, s21, s31, s41, s51, s61, s71⟩ := Hs1.out.c4; obtain ⟨z01, z11, z21, z31, y01, y11, y21, y31⟩ := Hz1.out.c4; obtain ⟨b01, b11, x01, x11⟩ := Hb1.out.c2
                have Hs2 := Lib.hid (Hs1.out.alloc (.cells #[.int .i64 0, .int .i64 0] 26)); have Hz2 := Lib.hid (Hz1.out.alloc (.cells #[.int .i64 0, .int .i64 0] 26)); have Hb2 := Lib.hid (Hb1.out.alloc (.cells #[.int .i64 0, .int .i64 0] 26)); have HB2 := Lib.hid (HB1.out.alloc (by omega) (.cells #[.int .i64 0, .int .i64 0] 26)); have HA2 := Lib.hid (HAb.out.below HB2.out); have hlts2 := Hs2.out.lt
                go_wp2_with (go_at_call 126; refine (rhasb_go A cap bs _ _ w.heap.size _ HA2.out (by omega) (by omega)).mono ?_; rintro e w2 ⟨rfl, rfl⟩)
                rw [show ((n : Int) + 1) = ((n + 1 : Nat) : Int) by omega]
                with_reducible refine (rchar_go A cap bs (n + 1) i _ ((HA2.out).more (Nat.le_of_lt Hz2.out.lt)) (by omega)).mono ?_
                rintro e w3 ⟨rfl, hb3⟩
                rw [Hc2.out]
                dsimp only [charVal]
                have Hs3 := Lib.hid (Hs2.out.below hb3 Hs2.out.lt); have Hz3 := Lib.hid (Hz2.out.below hb3 Hz2.out.lt); have Hb3 := Lib.hid (Hb2.out.below hb3 Hb2.out.lt); have HB3 := Lib.hid (HB2.out.trans (hb3.mono (Nat.le_of_lt Hz2.out.lt))); have HA3 := Lib.hid (HAb.out.below HB3.out); have hlts3 := Hs3.out.lt; have hltz3 := Hz3.out.lt; have hltb3 := Hb3.out.lt; obtain ⟨s03, s13, s23, s33, s43, s53, s63, s73⟩ := Hs3.out.c4; obtain ⟨z03, z13, z23, z33, y03, y13, y23, y33⟩ := Hz3.out.c4; obtain ⟨b03, b13, x03, x13⟩ := Hb3.out.c2
                have Hs4 := Lib.hid (Hs3.out.alloc (.cells #[.int .i64 0, .int .i64 0] 26)); have Hz4 := Lib.hid (Hz3.out.alloc (.cells #[.int .i64 0, .int .i64 0] 26)); have Hb4 := Lib.hid (Hb3.out.alloc (.cells #[.int .i64 0, .int .i64 0] 26)); have HB4 := Lib.hid (HB3.out.alloc (by omega) (.cells #[.int .i64 0, .int .i64 0] 26)); have HA4 := Lib.hid (HAb.out.below HB4.out); have hlts4 := Hs4.out.lt
                go_wp2_with fail
                have wl1 : IntKind.i64.wrap (lo : Int) = (lo : Int) := IntWalk.i64_in _ (by omega)
                have wl2 : IntKind.i64.wrap (hi' : Int) = (hi' : Int) := IntWalk.i64_in _ (by omega)
                go_region_with (first
                  | (go_at_call 133; refine (rspan_any _ _ _ (by omega) (by omega) (by omega) (by omega)).mono ?_; rintro e w5 ⟨rfl, hb5⟩; have Hs5 := Lib.hid (Hs4.out.drew.below hb5 (by simpa using hlts4)); obtain ⟨t0, t1, t2, t3, t4, t5, t6, t7⟩ := Hs5.out.c4)
                  | (go_at_call 132; refine (rtwo_any _ _ _ _ (by omega)).mono ?_; rintro e w6 ⟨rfl, hb6⟩; have hb56 := hb5.trans (hb6.mono hb5.size); have Hs6 := Lib.hid (Hs4.out.drew.below hb56 (by simpa using hlts4)); obtain ⟨v0, v1, v2, v3, v4, v5, v6, v7⟩ := Hs6.out.c4))
                all_goals clear wl1 wl2
                all_goals go_wp2
                all_goals go_light
                all_goals go_roundg (gk - 1)
                all_goals try case measure => omega
                all_goals
                  refine ⟨two 0 p (between lo hi'), n2, m + 1, by go_num, by go_num, by omega, by omega, by omega, Hs6.out.set4, ?_, ?_, ?_, ?_⟩
                  · exact (Hz4.out.drew.below hb56 (by simpa using Hz4.out.lt)).far4 (by omega) _ _ _ _
                  · exact (Hb4.out.drew.below hb56 (by simpa using Hb4.out.lt)).far4 (by omega) _ _ _ _
                  · exact below_set4 (HB4.out.drew.trans (hb56.mono (by simp; omega))) (by omega) _ _ _ _
                  · obtain ⟨f, hf, hFF⟩ := HF2.out
                    refine ⟨f, by omega, ?_⟩
                    rw [if_neg (by omega), hFF, itemsS_ok Hr.out, two_or]
      · rcases hst with ⟨k, q, hk, hc1, hr⟩ | ⟨lo, n, hc1, hjn, hnl, hlo, hst⟩
        · have HV2 : Hid (classVal (readS bs i) = .tuple #[.agg #[.int .u64 0, .int .u64 0, .int .u64 0, .int .u64 0], .int .i64 0, .agg #[.int .i64 k, .int .i64 q]]) := by
            obtain ⟨f, hf, hFF⟩ := HF2.out
            show classVal _ = _
            rw [HV.out, hFF, itemsS_bad hr]
            rfl
          have hkn : (k != 0) = true := by simpa using hk
          have Hc1 := Lib.hid hc1
          clear hc1 hr
          go_wp2_with (go_at_call 126; refine (rhasb_go A cap bs _ _ w.heap.size _ HA.out (by omega) (by omega)).mono ?_; rintro e w2 ⟨rfl, rfl⟩)
          with_reducible refine (rchar_go A cap bs j i wr ((HA.out).more (by omega)) hj).mono ?_
          rintro e w1 ⟨rfl, hb1⟩
          rw [Hc1.out]
          dsimp only [charVal]
          have Hs1 := Lib.hid (Hs.out.below hb1 Hs.out.lt); have Hz1 := Lib.hid (Hz.out.below hb1 Hz.out.lt); have Hb1 := Lib.hid (Hb.out.below hb1 Hb.out.lt); have HB1 := Lib.hid (HB.out.trans (hb1.mono (Nat.le_of_lt Hz.out.lt))); have HA1 := Lib.hid (HAb.out.below HB1.out); have hlts1 := Hs1.out.lt; have hltz1 := Hz1.out.lt; have hltb1 := Hb1.out.lt; obtain ⟨s01, s11, s21, s31, s41, s51, s61, s71⟩ := Hs1.out.c4; obtain ⟨z01, z11, z21, z31, y01, y11, y21, y31⟩ := Hz1.out.c4; obtain ⟨b01, b11, x01, x11⟩ := Hb1.out.c2
          go_wp2
          go_region
          all_goals go_wp2
          all_goals go_light
          all_goals rw [HV2.out] at *
          refine bodyPost_ret (ret_read Tryz.results109 rfl rfl rfl (((Hz1.out.set4.far2 (by omega) _ _)).alloc _).drew ((((Hb1.out.far4 (by omega) _ _ _ _).set2)).alloc _).drew) rfl ⟨rfl, ?_⟩
          exact ((below_set2 (below_set4 HB1.out (Nat.le_refl _) _ _ _ _) (by omega) _ _).alloc (by simp [World.setCell]; omega) _).drew
        · rcases hst with ⟨hh, hr⟩ | ⟨hh, hnl', hst⟩
          · have Hr := Lib.hid hr
            have Hc1 := Lib.hid hc1
            clear hc1 hr
            go_wp2_with (go_at_call 126; refine (rhasb_go A cap bs _ _ w.heap.size _ HA.out (by omega) (by omega)).mono ?_; rintro e w2 ⟨rfl, rfl⟩)
            with_reducible refine (rchar_go A cap bs j i wr ((HA.out).more (by omega)) hj).mono ?_
            rintro e w1 ⟨rfl, hb1⟩
            rw [Hc1.out]
            dsimp only [charVal]
            have Hs1 := Lib.hid (Hs.out.below hb1 Hs.out.lt); have Hz1 := Lib.hid (Hz.out.below hb1 Hz.out.lt); have Hb1 := Lib.hid (Hb.out.below hb1 Hb.out.lt); have HB1 := Lib.hid (HB.out.trans (hb1.mono (Nat.le_of_lt Hz.out.lt))); have HA1 := Lib.hid (HAb.out.below HB1.out); have hlts1 := Hs1.out.lt; have hltz1 := Hz1.out.lt; have hltb1 := Hb1.out.lt; obtain ⟨s01, s11, s21, s31, s41, s51, s61, s71⟩ := Hs1.out.c4; obtain ⟨z01, z11, z21, z31, y01, y11, y21, y31⟩ := Hz1.out.c4; obtain ⟨b01, b11, x01, x11⟩ := Hb1.out.c2
            have Hs2 := Lib.hid (Hs1.out.alloc (.cells #[.int .i64 0, .int .i64 0] 26)); have Hz2 := Lib.hid (Hz1.out.alloc (.cells #[.int .i64 0, .int .i64 0] 26)); have Hb2 := Lib.hid (Hb1.out.alloc (.cells #[.int .i64 0, .int .i64 0] 26)); have HB2 := Lib.hid (HB1.out.alloc (by omega) (.cells #[.int .i64 0, .int .i64 0] 26)); have HA2 := Lib.hid (HAb.out.below HB2.out); have hlts2 := Hs2.out.lt
            go_wp2_with (go_at_call 126; refine (rhasb_go A cap bs _ _ w.heap.size _ HA2.out (by omega) (by omega)).mono ?_; rintro e w2 ⟨rfl, rfl⟩)
            go_wp2_with fail
            have wl1 : IntKind.i64.wrap (lo : Int) = (lo : Int) := IntWalk.i64_in _ (by omega)
            have wl2 : IntKind.i64.wrap (lo : Int) = (lo : Int) := IntWalk.i64_in _ (by omega)
            go_region_with (first
              | (go_at_call 133; refine (rspan_any _ _ _ (by omega) (by omega) (by omega) (by omega)).mono ?_; rintro e w5 ⟨rfl, hb5⟩; have Hs5 := Lib.hid (Hs2.out.drew.below hb5 (by simpa using hlts2)); obtain ⟨t0, t1, t2, t3, t4, t5, t6, t7⟩ := Hs5.out.c4)
              | (go_at_call 132; refine (rtwo_any _ _ _ _ (by omega)).mono ?_; rintro e w6 ⟨rfl, hb6⟩; have hb56 := hb5.trans (hb6.mono hb5.size); have Hs6 := Lib.hid (Hs2.out.drew.below hb56 (by simpa using hlts2)); obtain ⟨v0, v1, v2, v3, v4, v5, v6, v7⟩ := Hs6.out.c4))
            all_goals clear wl1 wl2
            all_goals go_wp2
            all_goals go_light
            all_goals go_roundg (gk - 1)
            all_goals try case measure => omega
            all_goals
              refine ⟨two 0 p (between lo lo), n, m + 1, by go_num, by go_num, by omega, by omega, by omega, Hs6.out.set4, ?_, ?_, ?_, ?_⟩
              · exact (Hz2.out.drew.below hb56 (by simpa using Hz2.out.lt)).far4 (by omega) _ _ _ _
              · exact (Hb2.out.drew.below hb56 (by simpa using Hb2.out.lt)).far4 (by omega) _ _ _ _
              · exact below_set4 (HB2.out.drew.trans (hb56.mono (by simp; omega))) (by omega) _ _ _ _
              · obtain ⟨f, hf, hFF⟩ := HF2.out
                refine ⟨f, by omega, ?_⟩
                rw [if_neg (by omega), hFF, itemsS_ok Hr.out, two_or]
          · have hd45 := hh
            rcases hst with ⟨k, q, hk, hc2, hr⟩ | ⟨hi', n2, hc2, hnm, hml, hhi, hst⟩
            · have HV2 : Hid (classVal (readS bs i) = .tuple #[.agg #[.int .u64 0, .int .u64 0, .int .u64 0, .int .u64 0], .int .i64 0, .agg #[.int .i64 k, .int .i64 q]]) := by
                obtain ⟨f, hf, hFF⟩ := HF2.out
                show classVal _ = _
                rw [HV.out, hFF, itemsS_bad hr]
                rfl
              have hkn : (k != 0) = true := by simpa using hk
              have Hc1 := Lib.hid hc1
              have Hc2 := Lib.hid hc2
              clear hc1 hc2 hr
              go_wp2_with (go_at_call 126; refine (rhasb_go A cap bs _ _ w.heap.size _ HA.out (by omega) (by omega)).mono ?_; rintro e w2 ⟨rfl, rfl⟩)
              with_reducible refine (rchar_go A cap bs j i wr ((HA.out).more (by omega)) hj).mono ?_
              rintro e w1 ⟨rfl, hb1⟩
              rw [Hc1.out]
              dsimp only [charVal]
              have Hs1 := Lib.hid (Hs.out.below hb1 Hs.out.lt); have Hz1 := Lib.hid (Hz.out.below hb1 Hz.out.lt); have Hb1 := Lib.hid (Hb.out.below hb1 Hb.out.lt); have HB1 := Lib.hid (HB.out.trans (hb1.mono (Nat.le_of_lt Hz.out.lt))); have HA1 := Lib.hid (HAb.out.below HB1.out); have hlts1 := Hs1.out.lt; have hltz1 := Hz1.out.lt; have hltb1 := Hb1.out.lt; obtain ⟨s01, s11, s21, s31, s41, s51, s61, s71⟩ := Hs1.out.c4; obtain ⟨z01, z11, z21, z31, y01, y11, y21, y31⟩ := Hz1.out.c4; obtain ⟨b01, b11, x01, x11⟩ := Hb1.out.c2
              have Hs2 := Lib.hid (Hs1.out.alloc (.cells #[.int .i64 0, .int .i64 0] 26)); have Hz2 := Lib.hid (Hz1.out.alloc (.cells #[.int .i64 0, .int .i64 0] 26)); have Hb2 := Lib.hid (Hb1.out.alloc (.cells #[.int .i64 0, .int .i64 0] 26)); have HB2 := Lib.hid (HB1.out.alloc (by omega) (.cells #[.int .i64 0, .int .i64 0] 26)); have HA2 := Lib.hid (HAb.out.below HB2.out); have hlts2 := Hs2.out.lt
              go_wp2_with (go_at_call 126; refine (rhasb_go A cap bs _ _ w.heap.size _ HA2.out (by omega) (by omega)).mono ?_; rintro e w2 ⟨rfl, rfl⟩)
              rw [show ((n : Int) + 1) = ((n + 1 : Nat) : Int) by omega]
              with_reducible refine (rchar_go A cap bs (n + 1) i _ ((HA2.out).more (Nat.le_of_lt Hz2.out.lt)) (by omega)).mono ?_
              rintro e w3 ⟨rfl, hb3⟩
              rw [Hc2.out]
              dsimp only [charVal]
              have Hs3 := Lib.hid (Hs2.out.below hb3 Hs2.out.lt); have Hz3 := Lib.hid (Hz2.out.below hb3 Hz2.out.lt); have Hb3 := Lib.hid (Hb2.out.below hb3 Hb2.out.lt); have HB3 := Lib.hid (HB2.out.trans (hb3.mono (Nat.le_of_lt Hz2.out.lt))); have HA3 := Lib.hid (HAb.out.below HB3.out); have hlts3 := Hs3.out.lt; have hltz3 := Hz3.out.lt; have hltb3 := Hb3.out.lt; obtain ⟨s03, s13, s23, s33, s43, s53, s63, s73⟩ := Hs3.out.c4; obtain ⟨z03, z13, z23, z33, y03, y13, y23, y33⟩ := Hz3.out.c4; obtain ⟨b03, b13, x03, x13⟩ := Hb3.out.c2
              go_wp2
              go_region
              all_goals go_wp2
              all_goals go_light
              all_goals rw [HV2.out] at *
              refine bodyPost_ret (ret_read Tryz.results109 rfl rfl rfl (((Hz3.out.set4.far2 (by omega) _ _)).alloc _).drew ((((Hb3.out.far4 (by omega) _ _ _ _).set2)).alloc _).drew) rfl ⟨rfl, ?_⟩
              exact ((below_set2 (below_set4 HB3.out (Nat.le_refl _) _ _ _ _) (by omega) _ _).alloc (by simp [World.setCell]; omega) _).drew
            · rcases hst with ⟨hlt, hr⟩ | ⟨hlt, hr⟩
              · have HV2 : Hid (classVal (readS bs i) = .tuple #[.agg #[.int .u64 0, .int .u64 0, .int .u64 0, .int .u64 0], .int .i64 0, .agg #[.int .i64 15, .int .i64 (j : Int)]]) := by
                  obtain ⟨f, hf, hFF⟩ := HF2.out
                  show classVal _ = _
                  rw [HV.out, hFF, itemsS_bad hr]
                  rfl
                have Hc1 := Lib.hid hc1
                have Hc2 := Lib.hid hc2
                clear hc1 hc2 hr
                go_wp2_with (go_at_call 126; refine (rhasb_go A cap bs _ _ w.heap.size _ HA.out (by omega) (by omega)).mono ?_; rintro e w2 ⟨rfl, rfl⟩)
                with_reducible refine (rchar_go A cap bs j i wr ((HA.out).more (by omega)) hj).mono ?_
                rintro e w1 ⟨rfl, hb1⟩
                rw [Hc1.out]
                dsimp only [charVal]
                have Hs1 := Lib.hid (Hs.out.below hb1 Hs.out.lt); have Hz1 := Lib.hid (Hz.out.below hb1 Hz.out.lt); have Hb1 := Lib.hid (Hb.out.below hb1 Hb.out.lt); have HB1 := Lib.hid (HB.out.trans (hb1.mono (Nat.le_of_lt Hz.out.lt))); have HA1 := Lib.hid (HAb.out.below HB1.out); have hlts1 := Hs1.out.lt; have hltz1 := Hz1.out.lt; have hltb1 := Hb1.out.lt; obtain ⟨s01, s11, s21, s31, s41, s51, s61, s71⟩ := Hs1.out.c4; obtain ⟨z01, z11, z21, z31, y01, y11, y21, y31⟩ := Hz1.out.c4; obtain ⟨b01, b11, x01, x11⟩ := Hb1.out.c2
                have Hs2 := Lib.hid (Hs1.out.alloc (.cells #[.int .i64 0, .int .i64 0] 26)); have Hz2 := Lib.hid (Hz1.out.alloc (.cells #[.int .i64 0, .int .i64 0] 26)); have Hb2 := Lib.hid (Hb1.out.alloc (.cells #[.int .i64 0, .int .i64 0] 26)); have HB2 := Lib.hid (HB1.out.alloc (by omega) (.cells #[.int .i64 0, .int .i64 0] 26)); have HA2 := Lib.hid (HAb.out.below HB2.out); have hlts2 := Hs2.out.lt
                go_wp2_with (go_at_call 126; refine (rhasb_go A cap bs _ _ w.heap.size _ HA2.out (by omega) (by omega)).mono ?_; rintro e w2 ⟨rfl, rfl⟩)
                rw [show ((n : Int) + 1) = ((n + 1 : Nat) : Int) by omega]
                with_reducible refine (rchar_go A cap bs (n + 1) i _ ((HA2.out).more (Nat.le_of_lt Hz2.out.lt)) (by omega)).mono ?_
                rintro e w3 ⟨rfl, hb3⟩
                rw [Hc2.out]
                dsimp only [charVal]
                have Hs3 := Lib.hid (Hs2.out.below hb3 Hs2.out.lt); have Hz3 := Lib.hid (Hz2.out.below hb3 Hz2.out.lt); have Hb3 := Lib.hid (Hb2.out.below hb3 Hb2.out.lt); have HB3 := Lib.hid (HB2.out.trans (hb3.mono (Nat.le_of_lt Hz2.out.lt))); have HA3 := Lib.hid (HAb.out.below HB3.out); have hlts3 := Hs3.out.lt; have hltz3 := Hz3.out.lt; have hltb3 := Hb3.out.lt; obtain ⟨s03, s13, s23, s33, s43, s53, s63, s73⟩ := Hs3.out.c4; obtain ⟨z03, z13, z23, z33, y03, y13, y23, y33⟩ := Hz3.out.c4; obtain ⟨b03, b13, x03, x13⟩ := Hb3.out.c2
                have Hs4 := Lib.hid (Hs3.out.alloc (.cells #[.int .i64 0, .int .i64 0] 26)); have Hz4 := Lib.hid (Hz3.out.alloc (.cells #[.int .i64 0, .int .i64 0] 26)); have Hb4 := Lib.hid (Hb3.out.alloc (.cells #[.int .i64 0, .int .i64 0] 26)); have HB4 := Lib.hid (HB3.out.alloc (by omega) (.cells #[.int .i64 0, .int .i64 0] 26)); have HA4 := Lib.hid (HAb.out.below HB4.out); have hlts4 := Hs4.out.lt
                go_wp2_with (go_at_call 127; refine (bad_go _ _ _).mono ?_; rintro e w5 ⟨rfl, hb5⟩; have Hz5 := Lib.hid (Hz4.out.below hb5 Hz4.out.lt); have Hb5 := Lib.hid (Hb4.out.below hb5 Hb4.out.lt); obtain ⟨z05, z15, z25, z35, y05, y15, y25, y35⟩ := Hz5.out.c4; obtain ⟨b05, b15, x05, x15⟩ := Hb5.out.c2)
                go_light
                rw [HV2.out] at *
                refine bodyPost_ret (ret_read Tryz.results109 rfl rfl rfl (Hz5.out.set4.far2 (by omega) _ _) ((Hb5.out.far4 (by omega) _ _ _ _).set2)) rfl ⟨rfl, ?_⟩
                exact below_set2 (below_set4 (HB4.out.trans (hb5.mono (by simp; omega))) (Nat.le_refl _) _ _ _ _) (by omega) _ _
              · have Hr := Lib.hid hr
                have Hc1 := Lib.hid hc1
                have Hc2 := Lib.hid hc2
                clear hc1 hc2 hr
                go_wp2_with (go_at_call 126; refine (rhasb_go A cap bs _ _ w.heap.size _ HA.out (by omega) (by omega)).mono ?_; rintro e w2 ⟨rfl, rfl⟩)
                with_reducible refine (rchar_go A cap bs j i wr ((HA.out).more (by omega)) hj).mono ?_
                rintro e w1 ⟨rfl, hb1⟩
                rw [Hc1.out]
                dsimp only [charVal]
                have Hs1 := Lib.hid (Hs.out.below hb1 Hs.out.lt); have Hz1 := Lib.hid (Hz.out.below hb1 Hz.out.lt); have Hb1 := Lib.hid (Hb.out.below hb1 Hb.out.lt); have HB1 := Lib.hid (HB.out.trans (hb1.mono (Nat.le_of_lt Hz.out.lt))); have HA1 := Lib.hid (HAb.out.below HB1.out); have hlts1 := Hs1.out.lt; have hltz1 := Hz1.out.lt; have hltb1 := Hb1.out.lt; obtain ⟨s01, s11, s21, s31, s41, s51, s61, s71⟩ := Hs1.out.c4; obtain ⟨z01, z11, z21, z31, y01, y11, y21, y31⟩ := Hz1.out.c4; obtain ⟨b01, b11, x01, x11⟩ := Hb1.out.c2
                have Hs2 := Lib.hid (Hs1.out.alloc (.cells #[.int .i64 0, .int .i64 0] 26)); have Hz2 := Lib.hid (Hz1.out.alloc (.cells #[.int .i64 0, .int .i64 0] 26)); have Hb2 := Lib.hid (Hb1.out.alloc (.cells #[.int .i64 0, .int .i64 0] 26)); have HB2 := Lib.hid (HB1.out.alloc (by omega) (.cells #[.int .i64 0, .int .i64 0] 26)); have HA2 := Lib.hid (HAb.out.below HB2.out); have hlts2 := Hs2.out.lt
                go_wp2_with (go_at_call 126; refine (rhasb_go A cap bs _ _ w.heap.size _ HA2.out (by omega) (by omega)).mono ?_; rintro e w2 ⟨rfl, rfl⟩)
                rw [show ((n : Int) + 1) = ((n + 1 : Nat) : Int) by omega]
                with_reducible refine (rchar_go A cap bs (n + 1) i _ ((HA2.out).more (Nat.le_of_lt Hz2.out.lt)) (by omega)).mono ?_
                rintro e w3 ⟨rfl, hb3⟩
                rw [Hc2.out]
                dsimp only [charVal]
                have Hs3 := Lib.hid (Hs2.out.below hb3 Hs2.out.lt); have Hz3 := Lib.hid (Hz2.out.below hb3 Hz2.out.lt); have Hb3 := Lib.hid (Hb2.out.below hb3 Hb2.out.lt); have HB3 := Lib.hid (HB2.out.trans (hb3.mono (Nat.le_of_lt Hz2.out.lt))); have HA3 := Lib.hid (HAb.out.below HB3.out); have hlts3 := Hs3.out.lt; have hltz3 := Hz3.out.lt; have hltb3 := Hb3.out.lt; obtain ⟨s03, s13, s23, s33, s43, s53, s63, s73⟩ := Hs3.out.c4; obtain ⟨z03, z13, z23, z33, y03, y13, y23, y33⟩ := Hz3.out.c4; obtain ⟨b03, b13, x03, x13⟩ := Hb3.out.c2
                have Hs4 := Lib.hid (Hs3.out.alloc (.cells #[.int .i64 0, .int .i64 0] 26)); have Hz4 := Lib.hid (Hz3.out.alloc (.cells #[.int .i64 0, .int .i64 0] 26)); have Hb4 := Lib.hid (Hb3.out.alloc (.cells #[.int .i64 0, .int .i64 0] 26)); have HB4 := Lib.hid (HB3.out.alloc (by omega) (.cells #[.int .i64 0, .int .i64 0] 26)); have HA4 := Lib.hid (HAb.out.below HB4.out); have hlts4 := Hs4.out.lt
                go_wp2_with fail
                have wl1 : IntKind.i64.wrap (lo : Int) = (lo : Int) := IntWalk.i64_in _ (by omega)
                have wl2 : IntKind.i64.wrap (hi' : Int) = (hi' : Int) := IntWalk.i64_in _ (by omega)
                go_region_with (first
                  | (go_at_call 133; refine (rspan_any _ _ _ (by omega) (by omega) (by omega) (by omega)).mono ?_; rintro e w5 ⟨rfl, hb5⟩; have Hs5 := Lib.hid (Hs4.out.drew.below hb5 (by simpa using hlts4)); obtain ⟨t0, t1, t2, t3, t4, t5, t6, t7⟩ := Hs5.out.c4)
                  | (go_at_call 132; refine (rtwo_any _ _ _ _ (by omega)).mono ?_; rintro e w6 ⟨rfl, hb6⟩; have hb56 := hb5.trans (hb6.mono hb5.size); have Hs6 := Lib.hid (Hs4.out.drew.below hb56 (by simpa using hlts4)); obtain ⟨v0, v1, v2, v3, v4, v5, v6, v7⟩ := Hs6.out.c4))
                all_goals clear wl1 wl2
                all_goals go_wp2
                all_goals go_light
                all_goals go_roundg (gk - 1)
                all_goals try case measure => omega
                all_goals
                  refine ⟨two 0 p (between lo hi'), n2, m + 1, by go_num, by go_num, by omega, by omega, by omega, Hs6.out.set4, ?_, ?_, ?_, ?_⟩
                  · exact (Hz4.out.drew.below hb56 (by simpa using Hz4.out.lt)).far4 (by omega) _ _ _ _
                  · exact (Hb4.out.drew.below hb56 (by simpa using Hb4.out.lt)).far4 (by omega) _ _ _ _
                  · exact below_set4 (HB4.out.drew.trans (hb56.mono (by simp; omega))) (by omega) _ _ _ _
                  · obtain ⟨f, hf, hFF⟩ := HF2.out
                    refine ⟨f, by omega, ?_⟩
                    rw [if_neg (by omega), hFF, itemsS_ok Hr.out, two_or]


set_option maxHeartbeats 4000000 in
theorem rread_turned (A : Option Addr) (cap : Nat) (bs : List Nat) (i : Nat) (w : World) (hA : BytesAt w w.heap.size A bs) (hh : hasAt bs (i : Int) 91 = true) (ht : hasAt bs ((i : Int) + 1) 94 = true) : Calls Tryz.prog 109 #[.slice A bs.length cap, .int .i64 (i : Int)] w fun e w' => e = .returned (classVal (readS bs (i : Int))) ∧ Below w.heap.size w w' := by
  obtain ⟨FIN, hfin⟩ : ∃ r, itemsS bs i (bs.length + 1) (i + 2) (fun _ => false) = r := ⟨_, rfl⟩
  have Hfin := Lib.hid hfin
  have HV : Hid (classVal (readS bs i) = classVal (turnS FIN)) := by
    show classVal _ = _
    rw [readS_turned hh ht, hfin]
  have hi : i + 2 ≤ bs.length := by obtain ⟨k, h1, h2, _⟩ := hasAt_yes ht; omega
  have hl := hA.2.1
  have hq : w.heap.size + 1 < (Laid3 w).heap.size := by rw [Laid3.size]; omega
  have Hh := Lib.hid hh
  have HAb := Lib.hid hA
  have HA0 := Lib.hid (hA.below (Laid3.below w))
  clear hh hA hfin
  go_enter Tryz.func109, Tryz.ntmps109
  go_wp2_with fail
  refine (rhasb_is A cap bs _ 91 true w.heap.size _ HA0.out (by omega) (by omega) Hh.out).mono ?_
  rintro e w1 ⟨rfl, rfl⟩
  go_wp2_with (go_at_call 126; refine (rhasb_go A cap bs _ _ w.heap.size _ HA0.out (by omega) (by omega)).mono ?_; rintro e w2 ⟨rfl, rfl⟩)
  clear ht
  go_loopg [7, 10] (bs.length + 2) (fun gk v7 v10 wr => ∃ (p : Nat → Bool) (j m : Nat), v7 = .int .i64 (j : Int) ∧ v10 = .int .i64 (m : Int) ∧ j ≤ bs.length ∧ m ≤ j ∧ bs.length + 1 ≤ gk + j ∧ Hid (Blk wr (Laid3 w).heap.size 37 #[.int .u64 ((word (p) 0 : Nat) : Int), .int .u64 ((word (p) 1 : Nat) : Int), .int .u64 ((word (p) 2 : Nat) : Int), .int .u64 ((word (p) 3 : Nat) : Int)]) ∧ Hid (Blk wr w.heap.size 37 #[.int .u64 0, .int .u64 0, .int .u64 0, .int .u64 0]) ∧
      Hid (Blk wr (w.heap.size + 1) 26 #[.int .i64 0, .int .i64 0]) ∧ Hid (Below w.heap.size w wr) ∧
      Hid (∃ f, bs.length < f + j ∧ FIN = if m = 0 then itemsS bs i f j p else restS bs i f j p))
  case atStart =>
    refine ⟨fun _ => false, i + 2, 0, by go_num, rfl, hi, by omega, by omega, ?_, (Laid3.set w).alloc _, (Laid3.bad w).alloc _, (Laid3.below w).alloc (by rw [Laid3.size]; omega) _, bs.length + 1, by omega, ?_⟩
    · show Blk _ _ _ _
      simp only [word_none]; exact Blk.new_at rfl
    · rw [if_pos rfl, Hfin.out]
  case round =>
    obtain ⟨p, j, m, rfl, rfl, hj, hm, hg, Hs, Hz, Hb, HB, HF⟩ := hrel
    obtain ⟨s0, s1, s2, s3, f0, f1, f2, f3⟩ := Hs.out.c4
    obtain ⟨z0, z1, z2, z3, y0, y1, y2, y3⟩ := Hz.out.c4
    obtain ⟨b0, b1, x0, x1⟩ := Hb.out.c2
    have hlts := Hs.out.lt
    have HA := Lib.hid (HAb.out.below HB.out)
    by_cases hend : m ≠ 0 ∧ hasAt bs (j : Int) 93 = true
    · obtain ⟨hm0, hc⟩ := hend
      have hmb : ((m : Int) == 0) = false := by simp; omega
      have HV2 : Hid (classVal (readS bs i) = .tuple #[.agg #[.int .u64 ((word (fun c => !p c) 0 : Nat) : Int), .int .u64 ((word (fun c => !p c) 1 : Nat) : Int), .int .u64 ((word (fun c => !p c) 2 : Nat) : Int), .int .u64 ((word (fun c => !p c) 3 : Nat) : Int)], .int .i64 ((j : Int) + 1), .agg #[.int .i64 0, .int .i64 0]]) := by
        obtain ⟨f, hf, hFF⟩ := HF.out
        rw [if_neg hm0, restS_end hc] at hFF
        show classVal _ = _
        rw [HV.out, hFF]
        rfl
      clear hm0
      go_wp2_with (first
        | (go_at_call 126; refine (rhasb_go A cap bs _ _ w.heap.size _ HA.out (by omega) (by omega)).mono ?_; rintro e w2 ⟨rfl, rfl⟩)
        | (go_at_call 125; refine (rnot_any p _).mono ?_; rintro e w5 ⟨rfl, hb5⟩; have Hs5 := Lib.hid (Hs.out.below hb5 hlts); have Hz5 := Lib.hid (Hz.out.below hb5 Hz.out.lt); have Hb5 := Lib.hid (Hb.out.below hb5 Hb.out.lt); obtain ⟨z05, z15, z25, z35, y05, y15, y25, y35⟩ := Hz5.out.c4; obtain ⟨s05, s15, s25, s35, f05, f15, f25, f35⟩ := Hs5.out.c4; obtain ⟨b05, b15, x05, x15⟩ := Hb5.out.c2))
      go_light
      rw [HV2.out] at *
      refine bodyPost_ret (ret_read Tryz.results109 rfl rfl rfl (((Hz5.out.far4 (by omega) _ _ _ _).set4).far2 (by omega) _ _) (((Hb5.out.far4 (by omega) _ _ _ _).far4 (by omega) _ _ _ _).set2)) rfl ⟨rfl, ?_⟩
      exact below_set2 (below_set4 (below_set4 (HB.out.trans (hb5.mono (Nat.le_of_lt Hz.out.lt))) (by omega) _ _ _ _) (Nat.le_refl _) _ _ _ _) (by omega) _ _
    · have HF2 : Hid (∃ f, bs.length < f + 1 + j ∧ FIN = itemsS bs i (f + 1) j p) := by
        obtain ⟨f, hf, hFF⟩ := HF.out
        refine ⟨f - 1, by omega, ?_⟩
        rw [show f - 1 + 1 = f by omega]
        by_cases hm0 : m = 0
        · rw [if_pos hm0] at hFF; exact hFF
        · rw [if_neg hm0] at hFF
          rw [hFF, restS_go (by cases hx : hasAt bs (j : Int) 93; rfl; exact absurd ⟨hm0, hx⟩ hend)]
      have Hcond : Hid (((m : Int) == 0) = true ∨ ((m : Int) == 0) = false ∧ hasAt bs (j : Int) 93 = false) := by
        by_cases hm0 : m = 0
        · exact .inl (by subst hm0; rfl)
        · exact .inr ⟨by simp; omega, by cases hx : hasAt bs (j : Int) 93; rfl; exact absurd ⟨hm0, hx⟩ hend⟩
      clear hend HF
      have hst := rstep HA.out.1 i j
      rcases Hcond.out with hmb | ⟨hmb, hcb⟩
      · rcases hst with ⟨k, q, hk, hc1, hr⟩ | ⟨lo, n, hc1, hjn, hnl, hlo, hst⟩
        · have HV2 : Hid (classVal (readS bs i) = .tuple #[.agg #[.int .u64 0, .int .u64 0, .int .u64 0, .int .u64 0], .int .i64 0, .agg #[.int .i64 k, .int .i64 q]]) := by
            obtain ⟨f, hf, hFF⟩ := HF2.out
            show classVal _ = _
            rw [HV.out, hFF, itemsS_bad hr]
            rfl
          have hkn : (k != 0) = true := by simpa using hk
          have Hc1 := Lib.hid hc1
          clear hc1 hr
          go_wp2_with (go_at_call 126; refine (rhasb_go A cap bs _ _ w.heap.size _ HA.out (by omega) (by omega)).mono ?_; rintro e w2 ⟨rfl, rfl⟩)
          with_reducible refine (rchar_go A cap bs j i wr ((HA.out).more (by omega)) hj).mono ?_
          rintro e w1 ⟨rfl, hb1⟩
          rw [Hc1.out]
          dsimp only [charVal]
          have Hs1 := Lib.hid (Hs.out.below hb1 Hs.out.lt); have Hz1 := Lib.hid (Hz.out.below hb1 Hz.out.lt); have Hb1 := Lib.hid (Hb.out.below hb1 Hb.out.lt); have HB1 := Lib.hid (HB.out.trans (hb1.mono (Nat.le_of_lt Hz.out.lt))); have HA1 := Lib.hid (HAb.out.below HB1.out); have hlts1 := Hs1.out.lt; have hltz1 := Hz1.out.lt; have hltb1 := Hb1.out.lt; obtain ⟨s01, s11, s21, s31, s41, s51, s61, s71⟩ := Hs1.out.c4; obtain ⟨z01, z11, z21, z31, y01, y11, y21, y31⟩ := Hz1.out.c4; obtain ⟨b01, b11, x01, x11⟩ := Hb1.out.c2
          go_wp2
          go_region
          all_goals go_wp2
          all_goals go_light
          all_goals rw [HV2.out] at *
          refine bodyPost_ret (ret_read Tryz.results109 rfl rfl rfl (((Hz1.out.set4.far2 (by omega) _ _)).alloc _).drew ((((Hb1.out.far4 (by omega) _ _ _ _).set2)).alloc _).drew) rfl ⟨rfl, ?_⟩
          exact ((below_set2 (below_set4 HB1.out (Nat.le_refl _) _ _ _ _) (by omega) _ _).alloc (by simp [World.setCell]; omega) _).drew
        · rcases hst with ⟨hh, hr⟩ | ⟨hh, hnl', hst⟩
          · have Hr := Lib.hid hr
            have Hc1 := Lib.hid hc1
            clear hc1 hr
            go_wp2_with (go_at_call 126; refine (rhasb_go A cap bs _ _ w.heap.size _ HA.out (by omega) (by omega)).mono ?_; rintro e w2 ⟨rfl, rfl⟩)
            with_reducible refine (rchar_go A cap bs j i wr ((HA.out).more (by omega)) hj).mono ?_
            rintro e w1 ⟨rfl, hb1⟩
            rw [Hc1.out]
            dsimp only [charVal]
            have Hs1 := Lib.hid (Hs.out.below hb1 Hs.out.lt); have Hz1 := Lib.hid (Hz.out.below hb1 Hz.out.lt); have Hb1 := Lib.hid (Hb.out.below hb1 Hb.out.lt); have HB1 := Lib.hid (HB.out.trans (hb1.mono (Nat.le_of_lt Hz.out.lt))); have HA1 := Lib.hid (HAb.out.below HB1.out); have hlts1 := Hs1.out.lt; have hltz1 := Hz1.out.lt; have hltb1 := Hb1.out.lt; obtain ⟨s01, s11, s21, s31, s41, s51, s61, s71⟩ := Hs1.out.c4; obtain ⟨z01, z11, z21, z31, y01, y11, y21, y31⟩ := Hz1.out.c4; obtain ⟨b01, b11, x01, x11⟩ := Hb1.out.c2
            have Hs2 := Lib.hid (Hs1.out.alloc (.cells #[.int .i64 0, .int .i64 0] 26)); have Hz2 := Lib.hid (Hz1.out.alloc (.cells #[.int .i64 0, .int .i64 0] 26)); have Hb2 := Lib.hid (Hb1.out.alloc (.cells #[.int .i64 0, .int .i64 0] 26)); have HB2 := Lib.hid (HB1.out.alloc (by omega) (.cells #[.int .i64 0, .int .i64 0] 26)); have HA2 := Lib.hid (HAb.out.below HB2.out); have hlts2 := Hs2.out.lt
            go_wp2_with (go_at_call 126; refine (rhasb_go A cap bs _ _ w.heap.size _ HA2.out (by omega) (by omega)).mono ?_; rintro e w2 ⟨rfl, rfl⟩)
            go_wp2_with fail
            have wl1 : IntKind.i64.wrap (lo : Int) = (lo : Int) := IntWalk.i64_in _ (by omega)
            have wl2 : IntKind.i64.wrap (lo : Int) = (lo : Int) := IntWalk.i64_in _ (by omega)
            go_region_with (first
              | (go_at_call 133; refine (rspan_any _ _ _ (by omega) (by omega) (by omega) (by omega)).mono ?_; rintro e w5 ⟨rfl, hb5⟩; have Hs5 := Lib.hid (Hs2.out.drew.below hb5 (by simpa using hlts2)); obtain ⟨t0, t1, t2, t3, t4, t5, t6, t7⟩ := Hs5.out.c4)
              | (go_at_call 132; refine (rtwo_any _ _ _ _ (by omega)).mono ?_; rintro e w6 ⟨rfl, hb6⟩; have hb56 := hb5.trans (hb6.mono hb5.size); have Hs6 := Lib.hid (Hs2.out.drew.below hb56 (by simpa using hlts2)); obtain ⟨v0, v1, v2, v3, v4, v5, v6, v7⟩ := Hs6.out.c4))
            all_goals clear wl1 wl2
            all_goals go_wp2
            all_goals go_light
            all_goals go_roundg (gk - 1)
            all_goals try case measure => omega
            all_goals
              refine ⟨two 0 p (between lo lo), n, m + 1, by go_num, by go_num, by omega, by omega, by omega, Hs6.out.set4, ?_, ?_, ?_, ?_⟩
              · exact (Hz2.out.drew.below hb56 (by simpa using Hz2.out.lt)).far4 (by omega) _ _ _ _
              · exact (Hb2.out.drew.below hb56 (by simpa using Hb2.out.lt)).far4 (by omega) _ _ _ _
              · exact below_set4 (HB2.out.drew.trans (hb56.mono (by simp; omega))) (by omega) _ _ _ _
              · obtain ⟨f, hf, hFF⟩ := HF2.out
                refine ⟨f, by omega, ?_⟩
                rw [if_neg (by omega), hFF, itemsS_ok Hr.out, two_or]
          · have hd45 := hh
            rcases hst with ⟨k, q, hk, hc2, hr⟩ | ⟨hi', n2, hc2, hnm, hml, hhi, hst⟩
            · have HV2 : Hid (classVal (readS bs i) = .tuple #[.agg #[.int .u64 0, .int .u64 0, .int .u64 0, .int .u64 0], .int .i64 0, .agg #[.int .i64 k, .int .i64 q]]) := by
                obtain ⟨f, hf, hFF⟩ := HF2.out
                show classVal _ = _
                rw [HV.out, hFF, itemsS_bad hr]
                rfl
              have hkn : (k != 0) = true := by simpa using hk
              have Hc1 := Lib.hid hc1
              have Hc2 := Lib.hid hc2
              clear hc1 hc2 hr
              go_wp2_with (go_at_call 126; refine (rhasb_go A cap bs _ _ w.heap.size _ HA.out (by omega) (by omega)).mono ?_; rintro e w2 ⟨rfl, rfl⟩)
              with_reducible refine (rchar_go A cap bs j i wr ((HA.out).more (by omega)) hj).mono ?_
              rintro e w1 ⟨rfl, hb1⟩
              rw [Hc1.out]
              dsimp only [charVal]
              have Hs1 := Lib.hid (Hs.out.below hb1 Hs.out.lt); have Hz1 := Lib.hid (Hz.out.below hb1 Hz.out.lt); have Hb1 := Lib.hid (Hb.out.below hb1 Hb.out.lt); have HB1 := Lib.hid (HB.out.trans (hb1.mono (Nat.le_of_lt Hz.out.lt))); have HA1 := Lib.hid (HAb.out.below HB1.out); have hlts1 := Hs1.out.lt; have hltz1 := Hz1.out.lt; have hltb1 := Hb1.out.lt; obtain ⟨s01, s11, s21, s31, s41, s51, s61, s71⟩ := Hs1.out.c4; obtain ⟨z01, z11, z21, z31, y01, y11, y21, y31⟩ := Hz1.out.c4; obtain ⟨b01, b11, x01, x11⟩ := Hb1.out.c2
              have Hs2 := Lib.hid (Hs1.out.alloc (.cells #[.int .i64 0, .int .i64 0] 26)); have Hz2 := Lib.hid (Hz1.out.alloc (.cells #[.int .i64 0, .int .i64 0] 26)); have Hb2 := Lib.hid (Hb1.out.alloc (.cells #[.int .i64 0, .int .i64 0] 26)); have HB2 := Lib.hid (HB1.out.alloc (by omega) (.cells #[.int .i64 0, .int .i64 0] 26)); have HA2 := Lib.hid (HAb.out.below HB2.out); have hlts2 := Hs2.out.lt
              go_wp2_with (go_at_call 126; refine (rhasb_go A cap bs _ _ w.heap.size _ HA2.out (by omega) (by omega)).mono ?_; rintro e w2 ⟨rfl, rfl⟩)
              rw [show ((n : Int) + 1) = ((n + 1 : Nat) : Int) by omega]
              with_reducible refine (rchar_go A cap bs (n + 1) i _ ((HA2.out).more (Nat.le_of_lt Hz2.out.lt)) (by omega)).mono ?_
              rintro e w3 ⟨rfl, hb3⟩
              rw [Hc2.out]
              dsimp only [charVal]
              have Hs3 := Lib.hid (Hs2.out.below hb3 Hs2.out.lt); have Hz3 := Lib.hid (Hz2.out.below hb3 Hz2.out.lt); have Hb3 := Lib.hid (Hb2.out.below hb3 Hb2.out.lt); have HB3 := Lib.hid (HB2.out.trans (hb3.mono (Nat.le_of_lt Hz2.out.lt))); have HA3 := Lib.hid (HAb.out.below HB3.out); have hlts3 := Hs3.out.lt; have hltz3 := Hz3.out.lt; have hltb3 := Hb3.out.lt; obtain ⟨s03, s13, s23, s33, s43, s53, s63, s73⟩ := Hs3.out.c4; obtain ⟨z03, z13, z23, z33, y03, y13, y23, y33⟩ := Hz3.out.c4; obtain ⟨b03, b13, x03, x13⟩ := Hb3.out.c2
              go_wp2
              go_region
              all_goals go_wp2
              all_goals go_light
              all_goals rw [HV2.out] at *
              refine bodyPost_ret (ret_read Tryz.results109 rfl rfl rfl (((Hz3.out.set4.far2 (by omega) _ _)).alloc _).drew ((((Hb3.out.far4 (by omega) _ _ _ _).set2)).alloc _).drew) rfl ⟨rfl, ?_⟩
              exact ((below_set2 (below_set4 HB3.out (Nat.le_refl _) _ _ _ _) (by omega) _ _).alloc (by simp [World.setCell]; omega) _).drew
            · rcases hst with ⟨hlt, hr⟩ | ⟨hlt, hr⟩
              · have HV2 : Hid (classVal (readS bs i) = .tuple #[.agg #[.int .u64 0, .int .u64 0, .int .u64 0, .int .u64 0], .int .i64 0, .agg #[.int .i64 15, .int .i64 (j : Int)]]) := by
                  obtain ⟨f, hf, hFF⟩ := HF2.out
                  show classVal _ = _
                  rw [HV.out, hFF, itemsS_bad hr]
                  rfl
                have Hc1 := Lib.hid hc1
                have Hc2 := Lib.hid hc2
                clear hc1 hc2 hr
                go_wp2_with (go_at_call 126; refine (rhasb_go A cap bs _ _ w.heap.size _ HA.out (by omega) (by omega)).mono ?_; rintro e w2 ⟨rfl, rfl⟩)
                with_reducible refine (rchar_go A cap bs j i wr ((HA.out).more (by omega)) hj).mono ?_
                rintro e w1 ⟨rfl, hb1⟩
                rw [Hc1.out]
                dsimp only [charVal]
                have Hs1 := Lib.hid (Hs.out.below hb1 Hs.out.lt); have Hz1 := Lib.hid (Hz.out.below hb1 Hz.out.lt); have Hb1 := Lib.hid (Hb.out.below hb1 Hb.out.lt); have HB1 := Lib.hid (HB.out.trans (hb1.mono (Nat.le_of_lt Hz.out.lt))); have HA1 := Lib.hid (HAb.out.below HB1.out); have hlts1 := Hs1.out.lt; have hltz1 := Hz1.out.lt; have hltb1 := Hb1.out.lt; obtain ⟨s01, s11, s21, s31, s41, s51, s61, s71⟩ := Hs1.out.c4; obtain ⟨z01, z11, z21, z31, y01, y11, y21, y31⟩ := Hz1.out.c4; obtain ⟨b01, b11, x01, x11⟩ := Hb1.out.c2
                have Hs2 := Lib.hid (Hs1.out.alloc (.cells #[.int .i64 0, .int .i64 0] 26)); have Hz2 := Lib.hid (Hz1.out.alloc (.cells #[.int .i64 0, .int .i64 0] 26)); have Hb2 := Lib.hid (Hb1.out.alloc (.cells #[.int .i64 0, .int .i64 0] 26)); have HB2 := Lib.hid (HB1.out.alloc (by omega) (.cells #[.int .i64 0, .int .i64 0] 26)); have HA2 := Lib.hid (HAb.out.below HB2.out); have hlts2 := Hs2.out.lt
                go_wp2_with (go_at_call 126; refine (rhasb_go A cap bs _ _ w.heap.size _ HA2.out (by omega) (by omega)).mono ?_; rintro e w2 ⟨rfl, rfl⟩)
                rw [show ((n : Int) + 1) = ((n + 1 : Nat) : Int) by omega]
                with_reducible refine (rchar_go A cap bs (n + 1) i _ ((HA2.out).more (Nat.le_of_lt Hz2.out.lt)) (by omega)).mono ?_
                rintro e w3 ⟨rfl, hb3⟩
                rw [Hc2.out]
                dsimp only [charVal]
                have Hs3 := Lib.hid (Hs2.out.below hb3 Hs2.out.lt); have Hz3 := Lib.hid (Hz2.out.below hb3 Hz2.out.lt); have Hb3 := Lib.hid (Hb2.out.below hb3 Hb2.out.lt); have HB3 := Lib.hid (HB2.out.trans (hb3.mono (Nat.le_of_lt Hz2.out.lt))); have HA3 := Lib.hid (HAb.out.below HB3.out); have hlts3 := Hs3.out.lt; have hltz3 := Hz3.out.lt; have hltb3 := Hb3.out.lt; obtain ⟨s03, s13, s23, s33, s43, s53, s63, s73⟩ := Hs3.out.c4; obtain ⟨z03, z13, z23, z33, y03, y13, y23, y33⟩ := Hz3.out.c4; obtain ⟨b03, b13, x03, x13⟩ := Hb3.out.c2
                have Hs4 := Lib.hid (Hs3.out.alloc (.cells #[.int .i64 0, .int .i64 0] 26)); have Hz4 := Lib.hid (Hz3.out.alloc (.cells #[.int .i64 0, .int .i64 0] 26)); have Hb4 := Lib.hid (Hb3.out.alloc (.cells #[.int .i64 0, .int .i64 0] 26)); have HB4 := Lib.hid (HB3.out.alloc (by omega) (.cells #[.int .i64 0, .int .i64 0] 26)); have HA4 := Lib.hid (HAb.out.below HB4.out); have hlts4 := Hs4.out.lt
                go_wp2_with (go_at_call 127; refine (bad_go _ _ _).mono ?_; rintro e w5 ⟨rfl, hb5⟩; have Hz5 := Lib.hid (Hz4.out.below hb5 Hz4.out.lt); have Hb5 := Lib.hid (Hb4.out.below hb5 Hb4.out.lt); obtain ⟨z05, z15, z25, z35, y05, y15, y25, y35⟩ := Hz5.out.c4; obtain ⟨b05, b15, x05, x15⟩ := Hb5.out.c2)
                go_light
                rw [HV2.out] at *
                refine bodyPost_ret (ret_read Tryz.results109 rfl rfl rfl (Hz5.out.set4.far2 (by omega) _ _) ((Hb5.out.far4 (by omega) _ _ _ _).set2)) rfl ⟨rfl, ?_⟩
                exact below_set2 (below_set4 (HB4.out.trans (hb5.mono (by simp; omega))) (Nat.le_refl _) _ _ _ _) (by omega) _ _
              · have Hr := Lib.hid hr
                have Hc1 := Lib.hid hc1
                have Hc2 := Lib.hid hc2
                clear hc1 hc2 hr
                go_wp2_with (go_at_call 126; refine (rhasb_go A cap bs _ _ w.heap.size _ HA.out (by omega) (by omega)).mono ?_; rintro e w2 ⟨rfl, rfl⟩)
                with_reducible refine (rchar_go A cap bs j i wr ((HA.out).more (by omega)) hj).mono ?_
                rintro e w1 ⟨rfl, hb1⟩
                rw [Hc1.out]
                dsimp only [charVal]
                have Hs1 := Lib.hid (Hs.out.below hb1 Hs.out.lt); have Hz1 := Lib.hid (Hz.out.below hb1 Hz.out.lt); have Hb1 := Lib.hid (Hb.out.below hb1 Hb.out.lt); have HB1 := Lib.hid (HB.out.trans (hb1.mono (Nat.le_of_lt Hz.out.lt))); have HA1 := Lib.hid (HAb.out.below HB1.out); have hlts1 := Hs1.out.lt; have hltz1 := Hz1.out.lt; have hltb1 := Hb1.out.lt; obtain ⟨s01, s11, s21, s31, s41, s51, s61, s71⟩ := Hs1.out.c4; obtain ⟨z01, z11, z21, z31, y01, y11, y21, y31⟩ := Hz1.out.c4; obtain ⟨b01, b11, x01, x11⟩ := Hb1.out.c2
                have Hs2 := Lib.hid (Hs1.out.alloc (.cells #[.int .i64 0, .int .i64 0] 26)); have Hz2 := Lib.hid (Hz1.out.alloc (.cells #[.int .i64 0, .int .i64 0] 26)); have Hb2 := Lib.hid (Hb1.out.alloc (.cells #[.int .i64 0, .int .i64 0] 26)); have HB2 := Lib.hid (HB1.out.alloc (by omega) (.cells #[.int .i64 0, .int .i64 0] 26)); have HA2 := Lib.hid (HAb.out.below HB2.out); have hlts2 := Hs2.out.lt
                go_wp2_with (go_at_call 126; refine (rhasb_go A cap bs _ _ w.heap.size _ HA2.out (by omega) (by omega)).mono ?_; rintro e w2 ⟨rfl, rfl⟩)
                rw [show ((n : Int) + 1) = ((n + 1 : Nat) : Int) by omega]
                with_reducible refine (rchar_go A cap bs (n + 1) i _ ((HA2.out).more (Nat.le_of_lt Hz2.out.lt)) (by omega)).mono ?_
                rintro e w3 ⟨rfl, hb3⟩
                rw [Hc2.out]
                dsimp only [charVal]
                have Hs3 := Lib.hid (Hs2.out.below hb3 Hs2.out.lt); have Hz3 := Lib.hid (Hz2.out.below hb3 Hz2.out.lt); have Hb3 := Lib.hid (Hb2.out.below hb3 Hb2.out.lt); have HB3 := Lib.hid (HB2.out.trans (hb3.mono (Nat.le_of_lt Hz2.out.lt))); have HA3 := Lib.hid (HAb.out.below HB3.out); have hlts3 := Hs3.out.lt; have hltz3 := Hz3.out.lt; have hltb3 := Hb3.out.lt; obtain ⟨s03, s13, s23, s33, s43, s53, s63, s73⟩ := Hs3.out.c4; obtain ⟨z03, z13, z23, z33, y03, y13, y23, y33⟩ := Hz3.out.c4; obtain ⟨b03, b13, x03, x13⟩ := Hb3.out.c2
                have Hs4 := Lib.hid (Hs3.out.alloc (.cells #[.int .i64 0, .int .i64 0] 26)); have Hz4 := Lib.hid (Hz3.out.alloc (.cells #[.int .i64 0, .int .i64 0] 26)); have Hb4 := Lib.hid (Hb3.out.alloc (.cells #[.int .i64 0, .int .i64 0] 26)); have HB4 := Lib.hid (HB3.out.alloc (by omega) (.cells #[.int .i64 0, .int .i64 0] 26)); have HA4 := Lib.hid (HAb.out.below HB4.out); have hlts4 := Hs4.out.lt
                go_wp2_with fail
                have wl1 : IntKind.i64.wrap (lo : Int) = (lo : Int) := IntWalk.i64_in _ (by omega)
                have wl2 : IntKind.i64.wrap (hi' : Int) = (hi' : Int) := IntWalk.i64_in _ (by omega)
                go_region_with (first
                  | (go_at_call 133; refine (rspan_any _ _ _ (by omega) (by omega) (by omega) (by omega)).mono ?_; rintro e w5 ⟨rfl, hb5⟩; have Hs5 := Lib.hid (Hs4.out.drew.below hb5 (by simpa using hlts4)); obtain ⟨t0, t1, t2, t3, t4, t5, t6, t7⟩ := Hs5.out.c4)
                  | (go_at_call 132; refine (rtwo_any _ _ _ _ (by omega)).mono ?_; rintro e w6 ⟨rfl, hb6⟩; have hb56 := hb5.trans (hb6.mono hb5.size); have Hs6 := Lib.hid (Hs4.out.drew.below hb56 (by simpa using hlts4)); obtain ⟨v0, v1, v2, v3, v4, v5, v6, v7⟩ := Hs6.out.c4))
                all_goals clear wl1 wl2
                all_goals go_wp2
                all_goals go_light
                all_goals go_roundg (gk - 1)
                all_goals try case measure => omega
                all_goals
                  refine ⟨two 0 p (between lo hi'), n2, m + 1, by go_num, by go_num, by omega, by omega, by omega, Hs6.out.set4, ?_, ?_, ?_, ?_⟩
                  · exact (Hz4.out.drew.below hb56 (by simpa using Hz4.out.lt)).far4 (by omega) _ _ _ _
                  · exact (Hb4.out.drew.below hb56 (by simpa using Hb4.out.lt)).far4 (by omega) _ _ _ _
                  · exact below_set4 (HB4.out.drew.trans (hb56.mono (by simp; omega))) (by omega) _ _ _ _
                  · obtain ⟨f, hf, hFF⟩ := HF2.out
                    refine ⟨f, by omega, ?_⟩
                    rw [if_neg (by omega), hFF, itemsS_ok Hr.out, two_or]
      · rcases hst with ⟨k, q, hk, hc1, hr⟩ | ⟨lo, n, hc1, hjn, hnl, hlo, hst⟩
        · have HV2 : Hid (classVal (readS bs i) = .tuple #[.agg #[.int .u64 0, .int .u64 0, .int .u64 0, .int .u64 0], .int .i64 0, .agg #[.int .i64 k, .int .i64 q]]) := by
            obtain ⟨f, hf, hFF⟩ := HF2.out
            show classVal _ = _
            rw [HV.out, hFF, itemsS_bad hr]
            rfl
          have hkn : (k != 0) = true := by simpa using hk
          have Hc1 := Lib.hid hc1
          clear hc1 hr
          go_wp2_with (go_at_call 126; refine (rhasb_go A cap bs _ _ w.heap.size _ HA.out (by omega) (by omega)).mono ?_; rintro e w2 ⟨rfl, rfl⟩)
          with_reducible refine (rchar_go A cap bs j i wr ((HA.out).more (by omega)) hj).mono ?_
          rintro e w1 ⟨rfl, hb1⟩
          rw [Hc1.out]
          dsimp only [charVal]
          have Hs1 := Lib.hid (Hs.out.below hb1 Hs.out.lt); have Hz1 := Lib.hid (Hz.out.below hb1 Hz.out.lt); have Hb1 := Lib.hid (Hb.out.below hb1 Hb.out.lt); have HB1 := Lib.hid (HB.out.trans (hb1.mono (Nat.le_of_lt Hz.out.lt))); have HA1 := Lib.hid (HAb.out.below HB1.out); have hlts1 := Hs1.out.lt; have hltz1 := Hz1.out.lt; have hltb1 := Hb1.out.lt; obtain ⟨s01, s11, s21, s31, s41, s51, s61, s71⟩ := Hs1.out.c4; obtain ⟨z01, z11, z21, z31, y01, y11, y21, y31⟩ := Hz1.out.c4; obtain ⟨b01, b11, x01, x11⟩ := Hb1.out.c2
          go_wp2
          go_region
          all_goals go_wp2
          all_goals go_light
          all_goals rw [HV2.out] at *
          refine bodyPost_ret (ret_read Tryz.results109 rfl rfl rfl (((Hz1.out.set4.far2 (by omega) _ _)).alloc _).drew ((((Hb1.out.far4 (by omega) _ _ _ _).set2)).alloc _).drew) rfl ⟨rfl, ?_⟩
          exact ((below_set2 (below_set4 HB1.out (Nat.le_refl _) _ _ _ _) (by omega) _ _).alloc (by simp [World.setCell]; omega) _).drew
        · rcases hst with ⟨hh, hr⟩ | ⟨hh, hnl', hst⟩
          · have Hr := Lib.hid hr
            have Hc1 := Lib.hid hc1
            clear hc1 hr
            go_wp2_with (go_at_call 126; refine (rhasb_go A cap bs _ _ w.heap.size _ HA.out (by omega) (by omega)).mono ?_; rintro e w2 ⟨rfl, rfl⟩)
            with_reducible refine (rchar_go A cap bs j i wr ((HA.out).more (by omega)) hj).mono ?_
            rintro e w1 ⟨rfl, hb1⟩
            rw [Hc1.out]
            dsimp only [charVal]
            have Hs1 := Lib.hid (Hs.out.below hb1 Hs.out.lt); have Hz1 := Lib.hid (Hz.out.below hb1 Hz.out.lt); have Hb1 := Lib.hid (Hb.out.below hb1 Hb.out.lt); have HB1 := Lib.hid (HB.out.trans (hb1.mono (Nat.le_of_lt Hz.out.lt))); have HA1 := Lib.hid (HAb.out.below HB1.out); have hlts1 := Hs1.out.lt; have hltz1 := Hz1.out.lt; have hltb1 := Hb1.out.lt; obtain ⟨s01, s11, s21, s31, s41, s51, s61, s71⟩ := Hs1.out.c4; obtain ⟨z01, z11, z21, z31, y01, y11, y21, y31⟩ := Hz1.out.c4; obtain ⟨b01, b11, x01, x11⟩ := Hb1.out.c2
            have Hs2 := Lib.hid (Hs1.out.alloc (.cells #[.int .i64 0, .int .i64 0] 26)); have Hz2 := Lib.hid (Hz1.out.alloc (.cells #[.int .i64 0, .int .i64 0] 26)); have Hb2 := Lib.hid (Hb1.out.alloc (.cells #[.int .i64 0, .int .i64 0] 26)); have HB2 := Lib.hid (HB1.out.alloc (by omega) (.cells #[.int .i64 0, .int .i64 0] 26)); have HA2 := Lib.hid (HAb.out.below HB2.out); have hlts2 := Hs2.out.lt
            go_wp2_with (go_at_call 126; refine (rhasb_go A cap bs _ _ w.heap.size _ HA2.out (by omega) (by omega)).mono ?_; rintro e w2 ⟨rfl, rfl⟩)
            go_wp2_with fail
            have wl1 : IntKind.i64.wrap (lo : Int) = (lo : Int) := IntWalk.i64_in _ (by omega)
            have wl2 : IntKind.i64.wrap (lo : Int) = (lo : Int) := IntWalk.i64_in _ (by omega)
            go_region_with (first
              | (go_at_call 133; refine (rspan_any _ _ _ (by omega) (by omega) (by omega) (by omega)).mono ?_; rintro e w5 ⟨rfl, hb5⟩; have Hs5 := Lib.hid (Hs2.out.drew.below hb5 (by simpa using hlts2)); obtain ⟨t0, t1, t2, t3, t4, t5, t6, t7⟩ := Hs5.out.c4)
              | (go_at_call 132; refine (rtwo_any _ _ _ _ (by omega)).mono ?_; rintro e w6 ⟨rfl, hb6⟩; have hb56 := hb5.trans (hb6.mono hb5.size); have Hs6 := Lib.hid (Hs2.out.drew.below hb56 (by simpa using hlts2)); obtain ⟨v0, v1, v2, v3, v4, v5, v6, v7⟩ := Hs6.out.c4))
            all_goals clear wl1 wl2
            all_goals go_wp2
            all_goals go_light
            all_goals go_roundg (gk - 1)
            all_goals try case measure => omega
            all_goals
              refine ⟨two 0 p (between lo lo), n, m + 1, by go_num, by go_num, by omega, by omega, by omega, Hs6.out.set4, ?_, ?_, ?_, ?_⟩
              · exact (Hz2.out.drew.below hb56 (by simpa using Hz2.out.lt)).far4 (by omega) _ _ _ _
              · exact (Hb2.out.drew.below hb56 (by simpa using Hb2.out.lt)).far4 (by omega) _ _ _ _
              · exact below_set4 (HB2.out.drew.trans (hb56.mono (by simp; omega))) (by omega) _ _ _ _
              · obtain ⟨f, hf, hFF⟩ := HF2.out
                refine ⟨f, by omega, ?_⟩
                rw [if_neg (by omega), hFF, itemsS_ok Hr.out, two_or]
          · have hd45 := hh
            rcases hst with ⟨k, q, hk, hc2, hr⟩ | ⟨hi', n2, hc2, hnm, hml, hhi, hst⟩
            · have HV2 : Hid (classVal (readS bs i) = .tuple #[.agg #[.int .u64 0, .int .u64 0, .int .u64 0, .int .u64 0], .int .i64 0, .agg #[.int .i64 k, .int .i64 q]]) := by
                obtain ⟨f, hf, hFF⟩ := HF2.out
                show classVal _ = _
                rw [HV.out, hFF, itemsS_bad hr]
                rfl
              have hkn : (k != 0) = true := by simpa using hk
              have Hc1 := Lib.hid hc1
              have Hc2 := Lib.hid hc2
              clear hc1 hc2 hr
              go_wp2_with (go_at_call 126; refine (rhasb_go A cap bs _ _ w.heap.size _ HA.out (by omega) (by omega)).mono ?_; rintro e w2 ⟨rfl, rfl⟩)
              with_reducible refine (rchar_go A cap bs j i wr ((HA.out).more (by omega)) hj).mono ?_
              rintro e w1 ⟨rfl, hb1⟩
              rw [Hc1.out]
              dsimp only [charVal]
              have Hs1 := Lib.hid (Hs.out.below hb1 Hs.out.lt); have Hz1 := Lib.hid (Hz.out.below hb1 Hz.out.lt); have Hb1 := Lib.hid (Hb.out.below hb1 Hb.out.lt); have HB1 := Lib.hid (HB.out.trans (hb1.mono (Nat.le_of_lt Hz.out.lt))); have HA1 := Lib.hid (HAb.out.below HB1.out); have hlts1 := Hs1.out.lt; have hltz1 := Hz1.out.lt; have hltb1 := Hb1.out.lt; obtain ⟨s01, s11, s21, s31, s41, s51, s61, s71⟩ := Hs1.out.c4; obtain ⟨z01, z11, z21, z31, y01, y11, y21, y31⟩ := Hz1.out.c4; obtain ⟨b01, b11, x01, x11⟩ := Hb1.out.c2
              have Hs2 := Lib.hid (Hs1.out.alloc (.cells #[.int .i64 0, .int .i64 0] 26)); have Hz2 := Lib.hid (Hz1.out.alloc (.cells #[.int .i64 0, .int .i64 0] 26)); have Hb2 := Lib.hid (Hb1.out.alloc (.cells #[.int .i64 0, .int .i64 0] 26)); have HB2 := Lib.hid (HB1.out.alloc (by omega) (.cells #[.int .i64 0, .int .i64 0] 26)); have HA2 := Lib.hid (HAb.out.below HB2.out); have hlts2 := Hs2.out.lt
              go_wp2_with (go_at_call 126; refine (rhasb_go A cap bs _ _ w.heap.size _ HA2.out (by omega) (by omega)).mono ?_; rintro e w2 ⟨rfl, rfl⟩)
              rw [show ((n : Int) + 1) = ((n + 1 : Nat) : Int) by omega]
              with_reducible refine (rchar_go A cap bs (n + 1) i _ ((HA2.out).more (Nat.le_of_lt Hz2.out.lt)) (by omega)).mono ?_
              rintro e w3 ⟨rfl, hb3⟩
              rw [Hc2.out]
              dsimp only [charVal]
              have Hs3 := Lib.hid (Hs2.out.below hb3 Hs2.out.lt); have Hz3 := Lib.hid (Hz2.out.below hb3 Hz2.out.lt); have Hb3 := Lib.hid (Hb2.out.below hb3 Hb2.out.lt); have HB3 := Lib.hid (HB2.out.trans (hb3.mono (Nat.le_of_lt Hz2.out.lt))); have HA3 := Lib.hid (HAb.out.below HB3.out); have hlts3 := Hs3.out.lt; have hltz3 := Hz3.out.lt; have hltb3 := Hb3.out.lt; obtain ⟨s03, s13, s23, s33, s43, s53, s63, s73⟩ := Hs3.out.c4; obtain ⟨z03, z13, z23, z33, y03, y13, y23, y33⟩ := Hz3.out.c4; obtain ⟨b03, b13, x03, x13⟩ := Hb3.out.c2
              go_wp2
              go_region
              all_goals go_wp2
              all_goals go_light
              all_goals rw [HV2.out] at *
              refine bodyPost_ret (ret_read Tryz.results109 rfl rfl rfl (((Hz3.out.set4.far2 (by omega) _ _)).alloc _).drew ((((Hb3.out.far4 (by omega) _ _ _ _).set2)).alloc _).drew) rfl ⟨rfl, ?_⟩
              exact ((below_set2 (below_set4 HB3.out (Nat.le_refl _) _ _ _ _) (by omega) _ _).alloc (by simp [World.setCell]; omega) _).drew
            · rcases hst with ⟨hlt, hr⟩ | ⟨hlt, hr⟩
              · have HV2 : Hid (classVal (readS bs i) = .tuple #[.agg #[.int .u64 0, .int .u64 0, .int .u64 0, .int .u64 0], .int .i64 0, .agg #[.int .i64 15, .int .i64 (j : Int)]]) := by
                  obtain ⟨f, hf, hFF⟩ := HF2.out
                  show classVal _ = _
                  rw [HV.out, hFF, itemsS_bad hr]
                  rfl
                have Hc1 := Lib.hid hc1
                have Hc2 := Lib.hid hc2
                clear hc1 hc2 hr
                go_wp2_with (go_at_call 126; refine (rhasb_go A cap bs _ _ w.heap.size _ HA.out (by omega) (by omega)).mono ?_; rintro e w2 ⟨rfl, rfl⟩)
                with_reducible refine (rchar_go A cap bs j i wr ((HA.out).more (by omega)) hj).mono ?_
                rintro e w1 ⟨rfl, hb1⟩
                rw [Hc1.out]
                dsimp only [charVal]
                have Hs1 := Lib.hid (Hs.out.below hb1 Hs.out.lt); have Hz1 := Lib.hid (Hz.out.below hb1 Hz.out.lt); have Hb1 := Lib.hid (Hb.out.below hb1 Hb.out.lt); have HB1 := Lib.hid (HB.out.trans (hb1.mono (Nat.le_of_lt Hz.out.lt))); have HA1 := Lib.hid (HAb.out.below HB1.out); have hlts1 := Hs1.out.lt; have hltz1 := Hz1.out.lt; have hltb1 := Hb1.out.lt; obtain ⟨s01, s11, s21, s31, s41, s51, s61, s71⟩ := Hs1.out.c4; obtain ⟨z01, z11, z21, z31, y01, y11, y21, y31⟩ := Hz1.out.c4; obtain ⟨b01, b11, x01, x11⟩ := Hb1.out.c2
                have Hs2 := Lib.hid (Hs1.out.alloc (.cells #[.int .i64 0, .int .i64 0] 26)); have Hz2 := Lib.hid (Hz1.out.alloc (.cells #[.int .i64 0, .int .i64 0] 26)); have Hb2 := Lib.hid (Hb1.out.alloc (.cells #[.int .i64 0, .int .i64 0] 26)); have HB2 := Lib.hid (HB1.out.alloc (by omega) (.cells #[.int .i64 0, .int .i64 0] 26)); have HA2 := Lib.hid (HAb.out.below HB2.out); have hlts2 := Hs2.out.lt
                go_wp2_with (go_at_call 126; refine (rhasb_go A cap bs _ _ w.heap.size _ HA2.out (by omega) (by omega)).mono ?_; rintro e w2 ⟨rfl, rfl⟩)
                rw [show ((n : Int) + 1) = ((n + 1 : Nat) : Int) by omega]
                with_reducible refine (rchar_go A cap bs (n + 1) i _ ((HA2.out).more (Nat.le_of_lt Hz2.out.lt)) (by omega)).mono ?_
                rintro e w3 ⟨rfl, hb3⟩
                rw [Hc2.out]
                dsimp only [charVal]
                have Hs3 := Lib.hid (Hs2.out.below hb3 Hs2.out.lt); have Hz3 := Lib.hid (Hz2.out.below hb3 Hz2.out.lt); have Hb3 := Lib.hid (Hb2.out.below hb3 Hb2.out.lt); have HB3 := Lib.hid (HB2.out.trans (hb3.mono (Nat.le_of_lt Hz2.out.lt))); have HA3 := Lib.hid (HAb.out.below HB3.out); have hlts3 := Hs3.out.lt; have hltz3 := Hz3.out.lt; have hltb3 := Hb3.out.lt; obtain ⟨s03, s13, s23, s33, s43, s53, s63, s73⟩ := Hs3.out.c4; obtain ⟨z03, z13, z23, z33, y03, y13, y23, y33⟩ := Hz3.out.c4; obtain ⟨b03, b13, x03, x13⟩ := Hb3.out.c2
                have Hs4 := Lib.hid (Hs3.out.alloc (.cells #[.int .i64 0, .int .i64 0] 26)); have Hz4 := Lib.hid (Hz3.out.alloc (.cells #[.int .i64 0, .int .i64 0] 26)); have Hb4 := Lib.hid (Hb3.out.alloc (.cells #[.int .i64 0, .int .i64 0] 26)); have HB4 := Lib.hid (HB3.out.alloc (by omega) (.cells #[.int .i64 0, .int .i64 0] 26)); have HA4 := Lib.hid (HAb.out.below HB4.out); have hlts4 := Hs4.out.lt
                go_wp2_with (go_at_call 127; refine (bad_go _ _ _).mono ?_; rintro e w5 ⟨rfl, hb5⟩; have Hz5 := Lib.hid (Hz4.out.below hb5 Hz4.out.lt); have Hb5 := Lib.hid (Hb4.out.below hb5 Hb4.out.lt); obtain ⟨z05, z15, z25, z35, y05, y15, y25, y35⟩ := Hz5.out.c4; obtain ⟨b05, b15, x05, x15⟩ := Hb5.out.c2)
                go_light
                rw [HV2.out] at *
                refine bodyPost_ret (ret_read Tryz.results109 rfl rfl rfl (Hz5.out.set4.far2 (by omega) _ _) ((Hb5.out.far4 (by omega) _ _ _ _).set2)) rfl ⟨rfl, ?_⟩
                exact below_set2 (below_set4 (HB4.out.trans (hb5.mono (by simp; omega))) (Nat.le_refl _) _ _ _ _) (by omega) _ _
              · have Hr := Lib.hid hr
                have Hc1 := Lib.hid hc1
                have Hc2 := Lib.hid hc2
                clear hc1 hc2 hr
                go_wp2_with (go_at_call 126; refine (rhasb_go A cap bs _ _ w.heap.size _ HA.out (by omega) (by omega)).mono ?_; rintro e w2 ⟨rfl, rfl⟩)
                with_reducible refine (rchar_go A cap bs j i wr ((HA.out).more (by omega)) hj).mono ?_
                rintro e w1 ⟨rfl, hb1⟩
                rw [Hc1.out]
                dsimp only [charVal]
                have Hs1 := Lib.hid (Hs.out.below hb1 Hs.out.lt); have Hz1 := Lib.hid (Hz.out.below hb1 Hz.out.lt); have Hb1 := Lib.hid (Hb.out.below hb1 Hb.out.lt); have HB1 := Lib.hid (HB.out.trans (hb1.mono (Nat.le_of_lt Hz.out.lt))); have HA1 := Lib.hid (HAb.out.below HB1.out); have hlts1 := Hs1.out.lt; have hltz1 := Hz1.out.lt; have hltb1 := Hb1.out.lt; obtain ⟨s01, s11, s21, s31, s41, s51, s61, s71⟩ := Hs1.out.c4; obtain ⟨z01, z11, z21, z31, y01, y11, y21, y31⟩ := Hz1.out.c4; obtain ⟨b01, b11, x01, x11⟩ := Hb1.out.c2
                have Hs2 := Lib.hid (Hs1.out.alloc (.cells #[.int .i64 0, .int .i64 0] 26)); have Hz2 := Lib.hid (Hz1.out.alloc (.cells #[.int .i64 0, .int .i64 0] 26)); have Hb2 := Lib.hid (Hb1.out.alloc (.cells #[.int .i64 0, .int .i64 0] 26)); have HB2 := Lib.hid (HB1.out.alloc (by omega) (.cells #[.int .i64 0, .int .i64 0] 26)); have HA2 := Lib.hid (HAb.out.below HB2.out); have hlts2 := Hs2.out.lt
                go_wp2_with (go_at_call 126; refine (rhasb_go A cap bs _ _ w.heap.size _ HA2.out (by omega) (by omega)).mono ?_; rintro e w2 ⟨rfl, rfl⟩)
                rw [show ((n : Int) + 1) = ((n + 1 : Nat) : Int) by omega]
                with_reducible refine (rchar_go A cap bs (n + 1) i _ ((HA2.out).more (Nat.le_of_lt Hz2.out.lt)) (by omega)).mono ?_
                rintro e w3 ⟨rfl, hb3⟩
                rw [Hc2.out]
                dsimp only [charVal]
                have Hs3 := Lib.hid (Hs2.out.below hb3 Hs2.out.lt); have Hz3 := Lib.hid (Hz2.out.below hb3 Hz2.out.lt); have Hb3 := Lib.hid (Hb2.out.below hb3 Hb2.out.lt); have HB3 := Lib.hid (HB2.out.trans (hb3.mono (Nat.le_of_lt Hz2.out.lt))); have HA3 := Lib.hid (HAb.out.below HB3.out); have hlts3 := Hs3.out.lt; have hltz3 := Hz3.out.lt; have hltb3 := Hb3.out.lt; obtain ⟨s03, s13, s23, s33, s43, s53, s63, s73⟩ := Hs3.out.c4; obtain ⟨z03, z13, z23, z33, y03, y13, y23, y33⟩ := Hz3.out.c4; obtain ⟨b03, b13, x03, x13⟩ := Hb3.out.c2
                have Hs4 := Lib.hid (Hs3.out.alloc (.cells #[.int .i64 0, .int .i64 0] 26)); have Hz4 := Lib.hid (Hz3.out.alloc (.cells #[.int .i64 0, .int .i64 0] 26)); have Hb4 := Lib.hid (Hb3.out.alloc (.cells #[.int .i64 0, .int .i64 0] 26)); have HB4 := Lib.hid (HB3.out.alloc (by omega) (.cells #[.int .i64 0, .int .i64 0] 26)); have HA4 := Lib.hid (HAb.out.below HB4.out); have hlts4 := Hs4.out.lt
                go_wp2_with fail
                have wl1 : IntKind.i64.wrap (lo : Int) = (lo : Int) := IntWalk.i64_in _ (by omega)
                have wl2 : IntKind.i64.wrap (hi' : Int) = (hi' : Int) := IntWalk.i64_in _ (by omega)
                go_region_with (first
                  | (go_at_call 133; refine (rspan_any _ _ _ (by omega) (by omega) (by omega) (by omega)).mono ?_; rintro e w5 ⟨rfl, hb5⟩; have Hs5 := Lib.hid (Hs4.out.drew.below hb5 (by simpa using hlts4)); obtain ⟨t0, t1, t2, t3, t4, t5, t6, t7⟩ := Hs5.out.c4)
                  | (go_at_call 132; refine (rtwo_any _ _ _ _ (by omega)).mono ?_; rintro e w6 ⟨rfl, hb6⟩; have hb56 := hb5.trans (hb6.mono hb5.size); have Hs6 := Lib.hid (Hs4.out.drew.below hb56 (by simpa using hlts4)); obtain ⟨v0, v1, v2, v3, v4, v5, v6, v7⟩ := Hs6.out.c4))
                all_goals clear wl1 wl2
                all_goals go_wp2
                all_goals go_light
                all_goals go_roundg (gk - 1)
                all_goals try case measure => omega
                all_goals
                  refine ⟨two 0 p (between lo hi'), n2, m + 1, by go_num, by go_num, by omega, by omega, by omega, Hs6.out.set4, ?_, ?_, ?_, ?_⟩
                  · exact (Hz4.out.drew.below hb56 (by simpa using Hz4.out.lt)).far4 (by omega) _ _ _ _
                  · exact (Hb4.out.drew.below hb56 (by simpa using Hb4.out.lt)).far4 (by omega) _ _ _ _
                  · exact below_set4 (HB4.out.drew.trans (hb56.mono (by simp; omega))) (by omega) _ _ _ _
                  · obtain ⟨f, hf, hFF⟩ := HF2.out
                    refine ⟨f, by omega, ?_⟩
                    rw [if_neg (by omega), hFF, itemsS_ok Hr.out, two_or]


theorem rread_go (A : Option Addr) (cap : Nat) (bs : List Nat) (i : Int) (w : World) (hA : BytesAt w w.heap.size A bs) : Calls Tryz.prog 109 #[.slice A bs.length cap, .int .i64 i] w fun e w' => e = .returned (classVal (readS bs i)) ∧ Below w.heap.size w w' := by
  cases hh : hasAt bs i 91 with
  | false => exact rread_no A cap bs i w hA hh
  | true =>
    obtain ⟨k, rfl, _, _⟩ := hasAt_yes hh
    cases ht : hasAt bs ((k : Int) + 1) 94 with
    | false => exact rread_plain A cap bs k w hA hh ht
    | true => exact rread_turned A cap bs k w hA hh ht

end Go.Proofs.YtajohcknenngnaaGreat
