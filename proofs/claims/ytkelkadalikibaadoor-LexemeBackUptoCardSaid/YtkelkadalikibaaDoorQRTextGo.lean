/-
  The text of a lexeme: the contract of the reference's text at any lexeme that may be.
-/
import Derived.Test.YtkelkadalikibaaDoorQTextGo2
namespace Go.Proofs.YtkelkadalikibaaDoor
open Go.RowKit
set_option linter.unusedSimpArgs false
set_option linter.unusedVariables false
set_option maxRecDepth 100000

set_option maxHeartbeats 2000000 in
theorem rtext_set (p : Nat → Bool) (pl lo hi : Int) (w : World) :
    Calls Tryd.prog 51 #[.agg #[.int .i64 1, .int .i64 pl, .int .u64 ((word (p) 0 : Nat) : Int), .int .u64 ((word (p) 1 : Nat) : Int), .int .u64 ((word (p) 2 : Nat) : Int), .int .u64 ((word (p) 3 : Nat) : Int), .int .i64 lo, .int .i64 hi]] w fun e w' => e = .returned (.string (strOf (setT p))) ∧ Below w.heap.size w w' := by
  have HB0 := Lib.hid ((Below.refl w.heap.size w).alloc (Nat.le_refl _) (.cells #[.int .i64 1, .int .i64 pl, .int .u64 ((word (p) 0 : Nat) : Int), .int .u64 ((word (p) 1 : Nat) : Int), .int .u64 ((word (p) 2 : Nat) : Int), .int .u64 ((word (p) 3 : Nat) : Int), .int .i64 lo, .int .i64 hi] 46))
  have HX0 := Lib.hid (Blk.new w 46 #[.int .i64 1, .int .i64 pl, .int .u64 ((word (p) 0 : Nat) : Int), .int .u64 ((word (p) 1 : Nat) : Int), .int .u64 ((word (p) 2 : Nat) : Int), .int .u64 ((word (p) 3 : Nat) : Int), .int .i64 lo, .int .i64 hi])
  have hel := elems_len p 256
  by_cases h1 : (elems p 256).length = 1
  · obtain ⟨c, hc⟩ := List.length_eq_one_iff.1 h1
    have hc256 : c < 256 := elems_lt (m := 256) (p := p) (by rw [hc]; simp)
    have HV : Hid (setT p = litS c) := Lib.hid (by unfold setT; rw [if_pos h1, hc]; rfl)
    have HC := Lib.hid hc
    rw [HV.out]
    clear hc h1 hel
    go_enter Tryd.func51, Tryd.ntmps51
    go_wp2_with fail
    refine (rbytes_go p _).mono ?_
    rintro e w1 ⟨v, rfl, hrow, hb1⟩
    have HB1 := Lib.hid (HB0.out.trans (hb1.mono HB0.out.size))
    have hx1 := HX0.out.below hb1 HX0.out.lt
    have HX1 := Lib.hid hx1
    have s2 := hx1.cell 2
    have s3 := hx1.cell 3
    have s4 := hx1.cell 4
    have s5 := hx1.cell 5
    have Hrow := Lib.hid hrow
    clear hb1 hx1 hrow
    simp at s2 s3 s4 s5
    have hrow := Hrow.out
    rw [HC.out] at hrow
    obtain ⟨g, cap, hv, hg, _⟩ := own_form hrow (Nat.zero_lt_succ 0)
    have hcell := hrow.cells (g := g) (by rw [hv]; rfl) 0 (.int .u8 (c : Int)) rfl
    have hcell' : w1.cell? ⟨g, 0, none⟩ = some (.int .u8 (c : Int)) := hcell
    subst hv
    clear hrow hcell
    go_wp2_with fail
    refine (rlit_go c _ hc256).mono ?_
    rintro e w3 ⟨rfl, hb3⟩
    have HB3 := Lib.hid (HB1.out.trans (hb3.mono HB1.out.size))
    clear hb3
    go_wp2
    go_light
    go_ret
    exact ⟨rfl, HB3.out⟩
  · cases hd : sameSet p dotSet
    · have HV : Hid (setT p = showS p) := Lib.hid (by unfold setT; rw [if_neg h1, hd]; rfl)
      unfold sameSet at hd
      rw [HV.out]
      have hn1 : (((elems p 256).length : Int) == 1) = false := by simp; omega
      go_enter Tryd.func51, Tryd.ntmps51
      go_wp2_with fail
      refine (rbytes_go p _).mono ?_
      rintro e w1 ⟨v, rfl, hrow, hb1⟩
      have HB1 := Lib.hid (HB0.out.trans (hb1.mono HB0.out.size))
      have hx1 := HX0.out.below hb1 HX0.out.lt
      have HX1 := Lib.hid hx1
      have s2 := hx1.cell 2
      have s3 := hx1.cell 3
      have s4 := hx1.cell 4
      have s5 := hx1.cell 5
      have Hrow := Lib.hid hrow
      clear hb1 hx1 hrow
      simp at s2 s3 s4 s5
      obtain ⟨A, cap, rfl⟩ := own_slice Hrow.out
      clear Hrow
      generalize (elems p 256).length = N at *
      go_wp2
      go_region_with (go_at_call 71; refine (rdot_go _).mono ?_; rintro e w2 ⟨rfl, hb2⟩; obtain ⟨t2, t3, t4, t5⟩ := lexset_below HX1.out.drew hb2; have HB2 := Lib.hid (HB1.out.drew.trans (hb2.mono HB1.out.size)); clear hb2)
      all_goals go_wp2_with (go_at_call 13; refine (rshow_go p _).mono ?_; rintro e w3 ⟨rfl, hb3⟩)
      all_goals go_light
      all_goals go_ret
      all_goals exact ⟨rfl, HB2.out.trans (hb3.mono HB2.out.size)⟩
    · have HV : Hid (setT p = [46]) := Lib.hid (by unfold setT; rw [if_neg h1, if_pos hd])
      unfold sameSet at hd
      rw [HV.out]
      have hn1 : (((elems p 256).length : Int) == 1) = false := by simp; omega
      go_enter Tryd.func51, Tryd.ntmps51
      go_wp2_with fail
      refine (rbytes_go p _).mono ?_
      rintro e w1 ⟨v, rfl, hrow, hb1⟩
      have HB1 := Lib.hid (HB0.out.trans (hb1.mono HB0.out.size))
      have hx1 := HX0.out.below hb1 HX0.out.lt
      have HX1 := Lib.hid hx1
      have s2 := hx1.cell 2
      have s3 := hx1.cell 3
      have s4 := hx1.cell 4
      have s5 := hx1.cell 5
      have Hrow := Lib.hid hrow
      clear hb1 hx1 hrow
      simp at s2 s3 s4 s5
      obtain ⟨A, cap, rfl⟩ := own_slice Hrow.out
      clear Hrow
      generalize (elems p 256).length = N at *
      go_wp2
      go_region_with (go_at_call 71; refine (rdot_go _).mono ?_; rintro e w2 ⟨rfl, hb2⟩; obtain ⟨t2, t3, t4, t5⟩ := lexset_below HX1.out.drew hb2; have HB2 := Lib.hid (HB1.out.drew.trans (hb2.mono HB1.out.size)); clear hb2)
      all_goals go_wp2
      all_goals go_light
      all_goals go_ret
      all_goals exact ⟨rfl, HB2.out⟩

theorem lexlohi_below {w w' : World} {g : Nat} {t : TypeId} {a b c d e f u v : Value} (h : Blk w g t #[a, b, c, d, e, f, u, v]) (hb : Below w.heap.size w w') :
    w'.cell? ⟨g, 6, none⟩ = some u ∧ w'.cell? ⟨g, 7, none⟩ = some v :=
  have h := h.below hb h.lt
  ⟨h.cell 6, h.cell 7⟩
theorem str_open2 (a : List Nat) : ((⟨#[123]⟩ : ByteArray) ++ strOf a) ++ ⟨#[44, 125]⟩ = strOf ([123] ++ (a ++ ([44] ++ [125]))) := by
  show (strOf [123] ++ strOf a) ++ strOf [44, 125] = _
  simp only [strOf_append, List.append_assoc]
  try rfl
theorem str_tworep2 (a b : List Nat) : ((((⟨#[123]⟩ : ByteArray) ++ strOf a) ++ ⟨#[44]⟩) ++ strOf b) ++ ⟨#[125]⟩ = strOf ([123] ++ (a ++ (([44] ++ b) ++ [125]))) := by
  show (((strOf [123] ++ strOf a) ++ strOf [44]) ++ strOf b) ++ strOf [125] = _
  simp only [strOf_append, List.append_assoc]
set_option maxHeartbeats 1000000 in
theorem rtext_rep (p : Nat → Bool) (pl lo hi : Int) (w : World) (h0 : 0 ≤ lo) (h1 : lo ≤ 1000) (h2 : hi = -1 ∨ lo ≤ hi ∧ hi ≤ 1000) :
    Calls Tryd.prog 51 #[.agg #[.int .i64 8, .int .i64 pl, .int .u64 ((word (p) 0 : Nat) : Int), .int .u64 ((word (p) 1 : Nat) : Int), .int .u64 ((word (p) 2 : Nat) : Int), .int .u64 ((word (p) 3 : Nat) : Int), .int .i64 lo, .int .i64 hi]] w fun e w' => e = .returned (.string (strOf (repT lo hi))) ∧ Below w.heap.size w w' := by
  have HB0 := Lib.hid ((Below.refl w.heap.size w).alloc (Nat.le_refl _) (.cells #[.int .i64 8, .int .i64 pl, .int .u64 ((word (p) 0 : Nat) : Int), .int .u64 ((word (p) 1 : Nat) : Int), .int .u64 ((word (p) 2 : Nat) : Int), .int .u64 ((word (p) 3 : Nat) : Int), .int .i64 lo, .int .i64 hi] 46))
  have HX0 := Lib.hid (Blk.new w 46 #[.int .i64 8, .int .i64 pl, .int .u64 ((word (p) 0 : Nat) : Int), .int .u64 ((word (p) 1 : Nat) : Int), .int .u64 ((word (p) 2 : Nat) : Int), .int .u64 ((word (p) 3 : Nat) : Int), .int .i64 lo, .int .i64 hi])
  obtain ⟨n, rfl⟩ := Int.eq_ofNat_of_zero_le h0
  have H1 := Lib.hid (fun w => rshown_go n w (by omega))
  have l1 := decS_len n
  by_cases hh : hi < 0
  · have HV := Lib.hid ((str_open2 (decS n)).trans (congrArg strOf (repT_open n hi hh).symm))
    obtain rfl : hi = -1 := by omega
    clear h0 h1 h2 hh
    go_enter Tryd.func51, Tryd.ntmps51
    go_wp2_with fail
    refine (H1.out _).mono ?_
    rintro e w1 ⟨rfl, hb1⟩
    obtain ⟨t6, t7⟩ := lexlohi_below HX0.out hb1
    have HB1 := Lib.hid (HB0.out.trans (hb1.mono HB0.out.size))
    clear hb1
    go_wp2
    go_light
    go_ret
    exact ⟨by rw [← HV.out]; rfl, HB1.out⟩
  obtain ⟨m, rfl⟩ := Int.eq_ofNat_of_zero_le (show 0 ≤ hi by omega)
  have H2 := Lib.hid (fun w => rshown_go m w (by omega))
  have l2 := decS_len m
  have hm1 : ((m : Int) == -1) = false := by simp <;> omega
  by_cases hlt : (n : Int) < (m : Int)
  · have HV := Lib.hid ((str_tworep2 (decS n) (decS m)).trans (congrArg strOf (repT_two n m hh hlt).symm))
    have hne : ((m : Int) != (n : Int)) = true := by simp <;> omega
    clear h0 h1 h2 hh
    go_enter Tryd.func51, Tryd.ntmps51
    go_wp2_with fail
    refine (H1.out _).mono ?_
    rintro e w1 ⟨rfl, hb1⟩
    obtain ⟨t6, t7⟩ := lexlohi_below HX0.out hb1
    have HB1 := Lib.hid (HB0.out.trans (hb1.mono HB0.out.size))
    clear hb1
    go_wp2_with fail
    refine (H2.out _).mono ?_
    rintro e w2 ⟨rfl, hb2⟩
    have HB2 := Lib.hid (HB1.out.trans (hb2.mono HB1.out.size))
    clear hb2
    go_wp2
    go_light
    go_ret
    exact ⟨by rw [← HV.out]; rfl, HB2.out⟩
  · have HV := Lib.hid ((str_onerep (decS n)).trans (congrArg strOf (repT_one n m hh hlt).symm))
    obtain rfl : n = m := by omega
    have hne : ((n : Int) != (n : Int)) = false := by simp
    clear h0 h1 h2 hh
    go_enter Tryd.func51, Tryd.ntmps51
    go_wp2_with fail
    refine (H1.out _).mono ?_
    rintro e w1 ⟨rfl, hb1⟩
    obtain ⟨t6, t7⟩ := lexlohi_below HX0.out hb1
    have HB1 := Lib.hid (HB0.out.trans (hb1.mono HB0.out.size))
    clear hb1
    go_wp2
    go_light
    go_ret
    exact ⟨by rw [← HV.out]; rfl, HB1.out⟩
@[go_sem] theorem run_str1_next (w : World) (o : Obj) (c : Nat) : (convert 22 9 (.slice (some ⟨w.heap.size + 1, 0, none⟩) 1 1)).run Tryd.prog ((w.alloc o).alloc (.cells #[.int .u8 (c : Int)] 5)) =
    .ok (.string (strOf [c])) ((w.alloc o).alloc (.cells #[.int .u8 (c : Int)] 5)) := by
  have h := run_str1 (w.alloc o) c
  rw [World.size_alloc] at h
  exact h
set_option maxHeartbeats 1000000 in
theorem rtext_sign (p : Nat → Bool) (k pl lo hi : Int) (w : World) (h0 : 2 ≤ k) (h1 : k ≤ 7) :
    Calls Tryd.prog 51 #[.agg #[.int .i64 k, .int .i64 pl, .int .u64 ((word (p) 0 : Nat) : Int), .int .u64 ((word (p) 1 : Nat) : Int), .int .u64 ((word (p) 2 : Nat) : Int), .int .u64 ((word (p) 3 : Nat) : Int), .int .i64 lo, .int .i64 hi]] w fun e w' => e = .returned (.string (strOf (textS ⟨k, pl, p, lo, hi⟩))) ∧ Below w.heap.size w w' := by
  by_cases e2 : k = 2
  · subst e2
    go_enter Tryd.func51, Tryd.ntmps51
    go_wp2
    go_light
    go_ret
    exact ⟨rfl, ((Below.refl w.heap.size w).alloc (Nat.le_refl _) _).alloc (by simp) _⟩

  by_cases e3 : k = 3
  · subst e3
    go_enter Tryd.func51, Tryd.ntmps51
    go_wp2
    go_light
    go_ret
    exact ⟨rfl, ((Below.refl w.heap.size w).alloc (Nat.le_refl _) _).alloc (by simp) _⟩

  by_cases e4 : k = 4
  · subst e4
    go_enter Tryd.func51, Tryd.ntmps51
    go_wp2
    go_light
    go_ret
    exact ⟨rfl, ((Below.refl w.heap.size w).alloc (Nat.le_refl _) _).alloc (by simp) _⟩

  by_cases e5 : k = 5
  · subst e5
    go_enter Tryd.func51, Tryd.ntmps51
    go_wp2
    go_light
    go_ret
    exact ⟨rfl, ((Below.refl w.heap.size w).alloc (Nat.le_refl _) _).alloc (by simp) _⟩

  by_cases e6 : k = 6
  · subst e6
    go_enter Tryd.func51, Tryd.ntmps51
    go_wp2
    go_light
    go_ret
    exact ⟨rfl, ((Below.refl w.heap.size w).alloc (Nat.le_refl _) _).alloc (by simp) _⟩

  by_cases e7 : k = 7
  · subst e7
    go_enter Tryd.func51, Tryd.ntmps51
    go_wp2
    go_light
    go_ret
    exact ⟨rfl, ((Below.refl w.heap.size w).alloc (Nat.le_refl _) _).alloc (by simp) _⟩

  exact absurd h0 (by omega)

theorem rtext_go (x : Lex) (w : World) (hr : rightS x = true) :
    Calls Tryd.prog 51 #[lexVal x] w fun e w' => e = .returned (.string (strOf (textS x))) ∧ Below w.heap.size w w' := by
  obtain ⟨_, h | h | h⟩ := rightS_cases hr
  · obtain ⟨k, pl, p, lo, hi⟩ := x
    dsimp only at h
    obtain ⟨rfl, _, _⟩ := h
    exact rtext_set p pl lo hi w
  · obtain ⟨k, pl, p, lo, hi⟩ := x
    dsimp only at h
    obtain ⟨rfl, h1, h2, h3, _⟩ := h
    exact rtext_rep p pl lo hi w h1 h2 h3
  · obtain ⟨k, pl, p, lo, hi⟩ := x
    dsimp only at h
    exact rtext_sign p k pl lo hi w h.1 h.2.1

end Go.Proofs.YtkelkadalikibaaDoor
