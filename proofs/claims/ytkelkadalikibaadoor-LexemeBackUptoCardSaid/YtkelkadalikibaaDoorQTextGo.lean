/-
  The text of a lexeme: the contracts of lexeme.rep, lexeme.text and of the reference's text.
-/
import Derived.Test.YtkelkadalikibaaDoorQTexts
import Derived.Test.YtkelkadalikibaaDoorQLeast
import Derived.Test.YtkelkadalikibaaDoorQShow
import Derived.Test.YtkelkadalikibaaDoorQROf
import Derived.Test.YtkelkadalikibaaDoorQSet
namespace Go.Proofs.YtkelkadalikibaaDoor
open Go.RowKit
set_option linter.unusedSimpArgs false
set_option linter.unusedVariables false
set_option maxRecDepth 100000

theorem str_open (a : List Nat) : (((⟨#[123]⟩ : ByteArray) ++ strOf a) ++ ⟨#[44]⟩) ++ ⟨#[125]⟩ = strOf ([123] ++ (a ++ ([44] ++ [125]))) := by
  show ((strOf [123] ++ strOf a) ++ strOf [44]) ++ strOf [125] = _
  simp only [strOf_append, List.append_assoc]
theorem str_onerep (a : List Nat) : ((⟨#[123]⟩ : ByteArray) ++ strOf a) ++ ⟨#[125]⟩ = strOf ([123] ++ (a ++ [125])) := by
  show (strOf [123] ++ strOf a) ++ strOf [125] = _
  simp only [strOf_append, List.append_assoc]
theorem str_tworep (a b : List Nat) : (((⟨#[123]⟩ : ByteArray) ++ strOf a) ++ ((⟨#[44]⟩ : ByteArray) ++ strOf b)) ++ ⟨#[125]⟩ = strOf ([123] ++ (a ++ (([44] ++ b) ++ [125]))) := by
  show ((strOf [123] ++ strOf a) ++ (strOf [44] ++ strOf b)) ++ strOf [125] = _
  simp only [strOf_append, List.append_assoc]

set_option maxHeartbeats 1000000 in
theorem rept_go (lo hi : Int) (w : World) (h0 : 0 ≤ lo) (h1 : lo ≤ 1000) (h2 : hi = -1 ∨ lo ≤ hi ∧ hi ≤ 1000) :
    Calls Tryd.prog 70 #[.int .i64 lo, .int .i64 hi] w fun e w' => e = .returned (.string (strOf (repT lo hi))) ∧ Below w.heap.size w w' := by
  obtain ⟨n, rfl⟩ := Int.eq_ofNat_of_zero_le h0
  have H1 := Lib.hid (fun w => shown_go n w (by omega))
  have l1 := decS_len n
  by_cases hh : hi < 0
  · have HV := Lib.hid ((str_open (decS n)).trans (congrArg strOf (repT_open n hi hh).symm))
    go_enter Tryd.func70, Tryd.ntmps70
    go_wp2_with fail
    refine (H1.out _).mono ?_
    rintro e w1 ⟨rfl, hb1⟩
    go_wp2
    go_light
    go_ret
    exact ⟨by rw [← HV.out]; rfl, hb1⟩
  obtain ⟨m, rfl⟩ := Int.eq_ofNat_of_zero_le (show 0 ≤ hi by omega)
  have H2 := Lib.hid (fun w => shown_go m w (by omega))
  have l2 := decS_len m
  by_cases hlt : (n : Int) < (m : Int)
  · have HV := Lib.hid ((str_tworep (decS n) (decS m)).trans (congrArg strOf (repT_two n m hh hlt).symm))
    go_enter Tryd.func70, Tryd.ntmps70
    go_wp2_with fail
    refine (H1.out _).mono ?_
    rintro e w1 ⟨rfl, hb1⟩
    have HB1 := Lib.hid hb1
    clear hb1
    go_wp2_with fail
    refine (H2.out _).mono ?_
    rintro e w2 ⟨rfl, hb2⟩
    have HB2 := Lib.hid (HB1.out.trans (hb2.mono HB1.out.size))
    clear hb2
    go_wp2
    go_light
    go_ret
    exact ⟨by rw [← HV.out]; rfl, HB2.out⟩
  · have HV := Lib.hid ((str_onerep (decS n)).trans (congrArg strOf (repT_one n m hh hlt).symm))
    go_enter Tryd.func70, Tryd.ntmps70
    go_wp2_with fail
    refine (H1.out _).mono ?_
    rintro e w1 ⟨rfl, hb1⟩
    go_wp2
    go_light
    go_ret
    exact ⟨by rw [← HV.out]; rfl, hb1⟩


theorem lexset_below {w w' : World} {g : Nat} {t : TypeId} {a b c d e f u v : Value} (h : Blk w g t #[a, b, c, d, e, f, u, v]) (hb : Below w.heap.size w w') :
    w'.cell? ⟨g, 2, none⟩ = some c ∧ w'.cell? ⟨g, 2 + 1, none⟩ = some d ∧ w'.cell? ⟨g, 2 + 2, none⟩ = some e ∧ w'.cell? ⟨g, 2 + 3, none⟩ = some f :=
  have h := h.below hb h.lt
  ⟨h.cell 2, h.cell 3, h.cell 4, h.cell 5⟩
set_option maxHeartbeats 2000000 in
theorem text_set (p : Nat → Bool) (pl lo hi : Int) (w : World) (hT : TabAt 0 Lib.deBruijn64tab w) (hw0 : 0 < w.heap.size) :
    Calls Tryd.prog 50 #[.agg #[.int .i64 1, .int .i64 pl, .int .u64 ((word (p) 0 : Nat) : Int), .int .u64 ((word (p) 1 : Nat) : Int), .int .u64 ((word (p) 2 : Nat) : Int), .int .u64 ((word (p) 3 : Nat) : Int), .int .i64 lo, .int .i64 hi]] w fun e w' => e = .returned (.string (strOf (setT p))) ∧ Below w.heap.size w w' := by
  have hb0 := (Below.refl w.heap.size w).alloc (Nat.le_refl _) (.cells #[.int .i64 1, .int .i64 pl, .int .u64 ((word (p) 0 : Nat) : Int), .int .u64 ((word (p) 1 : Nat) : Int), .int .u64 ((word (p) 2 : Nat) : Int), .int .u64 ((word (p) 3 : Nat) : Int), .int .i64 lo, .int .i64 hi] 46)
  have hx0 := Blk.new w 46 #[.int .i64 1, .int .i64 pl, .int .u64 ((word (p) 0 : Nat) : Int), .int .u64 ((word (p) 1 : Nat) : Int), .int .u64 ((word (p) 2 : Nat) : Int), .int .u64 ((word (p) 3 : Nat) : Int), .int .i64 lo, .int .i64 hi]
  have HT := Lib.hid hT
  have HB0 := Lib.hid hb0
  have HX0 := Lib.hid hx0
  clear hb0 hx0 hT
  have hcn := cnt_elems p 256
  by_cases h1 : (elems p 256).length = 1
  · obtain ⟨c, hc⟩ := List.length_eq_one_iff.1 h1
    have hc256 : c < 256 := elems_lt (m := 256) (p := p) (by rw [hc]; simp)
    have HV : Hid (setT p = litS c) := Lib.hid (by unfold setT; rw [if_pos h1, hc]; rfl)
    have HN : Hid (((cnt p 256 : Nat) : Int) = 1) := Lib.hid (by omega)
    have HL := Lib.hid (fun w => least_go p c hc w)
    rw [HV.out]
    clear hc h1 hcn
    go_enter Tryd.func50, Tryd.ntmps50
    go_wp2_with fail
    refine (count_go p _).mono ?_
    rintro e w1 ⟨rfl, hb1⟩
    rw [HN.out]
    have HB1 := Lib.hid (HB0.out.trans (hb1.mono HB0.out.size))
    have hx1 := HX0.out.below hb1 HX0.out.lt
    have HX1 := Lib.hid hx1
    have s2 := hx1.cell 2
    have s3 := hx1.cell 3
    have s4 := hx1.cell 4
    have s5 := hx1.cell 5
    clear hb1 hx1
    simp at s2 s3 s4 s5
    go_wp2_with fail
    refine (HL.out _ (TabAt.below HB1.out hw0 HT.out) (Nat.lt_of_lt_of_le hw0 HB1.out.size)).mono ?_
    rintro e w2 ⟨rfl, hb2⟩
    have HB2 := Lib.hid (HB1.out.trans (hb2.mono HB1.out.size))
    clear hb2
    go_wp2_with fail
    refine (lit_go c _ hc256).mono ?_
    rintro e w3 ⟨rfl, hb3⟩
    have HB3 := Lib.hid (HB2.out.trans (hb3.mono HB2.out.size))
    clear hb3
    go_wp2
    go_light
    go_ret
    exact ⟨rfl, HB3.out⟩
  · have HN : Hid ((((cnt p 256 : Nat) : Int) == 1) = false) := Lib.hid (by simp; omega)
    have hn256 : cnt p 256 ≤ 256 := by rw [hcn]; exact elems_len p 256
    cases hd : sameSet p dotSet
    · have HV : Hid (setT p = showS p) := Lib.hid (by unfold setT; rw [if_neg h1, hd]; rfl)
      unfold sameSet at hd
      rw [HV.out]
      clear h1 hcn
      go_enter Tryd.func50, Tryd.ntmps50
      go_wp2_with fail
      refine (count_go p _).mono ?_
      rintro e w1 ⟨rfl, hb1⟩
      have hn := HN.out
      generalize ((cnt p 256 : Nat) : Int) = N at *
      have HB1 := Lib.hid (HB0.out.trans (hb1.mono HB0.out.size))
      have hx1 := HX0.out.below hb1 HX0.out.lt
      have HX1 := Lib.hid hx1
      have s2 := hx1.cell 2
      have s3 := hx1.cell 3
      have s4 := hx1.cell 4
      have s5 := hx1.cell 5
      clear hb1 hx1
      simp at s2 s3 s4 s5
      go_wp2
      go_region_with (go_at_call 69; refine (dot_go _).mono ?_; rintro e w2 ⟨rfl, hb2⟩; obtain ⟨t2, t3, t4, t5⟩ := lexset_below HX1.out.drew hb2; have HB2 := Lib.hid (HB1.out.drew.trans (hb2.mono HB1.out.size)); clear hb2)
      all_goals go_wp2_with (go_at_call 12; refine (show_go p _ (TabAt.below HB2.out hw0 HT.out) (Nat.lt_of_lt_of_le hw0 HB2.out.size)).mono ?_; rintro e w3 ⟨rfl, hb3⟩)
      all_goals go_light
      all_goals go_ret
      all_goals exact ⟨rfl, HB2.out.trans (hb3.mono HB2.out.size)⟩
    · have HV : Hid (setT p = [46]) := Lib.hid (by unfold setT; rw [if_neg h1, if_pos hd])
      unfold sameSet at hd
      rw [HV.out]
      clear h1 hcn
      go_enter Tryd.func50, Tryd.ntmps50
      go_wp2_with fail
      refine (count_go p _).mono ?_
      rintro e w1 ⟨rfl, hb1⟩
      have hn := HN.out
      generalize ((cnt p 256 : Nat) : Int) = N at *
      have HB1 := Lib.hid (HB0.out.trans (hb1.mono HB0.out.size))
      have hx1 := HX0.out.below hb1 HX0.out.lt
      have HX1 := Lib.hid hx1
      have s2 := hx1.cell 2
      have s3 := hx1.cell 3
      have s4 := hx1.cell 4
      have s5 := hx1.cell 5
      clear hb1 hx1
      simp at s2 s3 s4 s5
      go_wp2
      go_region_with (go_at_call 69; refine (dot_go _).mono ?_; rintro e w2 ⟨rfl, hb2⟩; obtain ⟨t2, t3, t4, t5⟩ := lexset_below HX1.out.drew hb2; have HB2 := Lib.hid (HB1.out.drew.trans (hb2.mono HB1.out.size)); clear hb2)
      all_goals go_wp2
      all_goals go_light
      all_goals go_ret
      all_goals exact ⟨rfl, HB2.out⟩

end Go.Proofs.YtkelkadalikibaaDoor
