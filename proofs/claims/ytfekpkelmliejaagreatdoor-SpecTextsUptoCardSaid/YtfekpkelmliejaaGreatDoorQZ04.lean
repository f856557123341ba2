/- Texts of the claim. -/
import Derived.Lib.AppendStr
import Derived.Deep.Onto
import Derived.StillTailTactics
import Derived.Test.YtfekpkelmliejaaGreatDoorQZ03
import Derived.Test.YtfekpkelmliejaaGreatDoorQRShow
import Derived.Test.YtfekpkelmliejaaGreatDoorQZ01
import Derived.Test.YtfekpkelmliejaaGreatDoorQShow
import Derived.Test.YtfekpkelmliejaaGreatDoorQSame
import Derived.Test.YtfekpkelmliejaaGreatDoorQZ02
import Derived.Test.YtfekpkelmliejaaGreatDoorQEscCl
namespace Go.Proofs.YtfekpkelmliejaaGreatDoor
open Go.RowKit
set_option linter.unusedSimpArgs false
set_option linter.unusedVariables false
set_option maxRecDepth 100000
set_option maxHeartbeats 8000000
def repT (lo hi : Int) : List Nat := [123] ++ (decS lo.toNat ++ ((if hi < 0 then [44] else if lo < hi then 44 :: decS hi.toNat else []) ++ [125]))
theorem repT_open (lo hi : Int) (h : hi < 0) : repT lo hi = [123] ++ (decS lo.toNat ++ ([44] ++ [125])) := by unfold repT; rw [if_pos h]
theorem repT_two (lo hi : Int) (h : ¬ hi < 0) (h2 : lo < hi) : repT lo hi = [123] ++ (decS lo.toNat ++ (([44] ++ decS hi.toNat) ++ [125])) := by unfold repT; rw [if_neg h, if_pos h2]; rfl
theorem repT_one (lo hi : Int) (h : ¬ hi < 0) (h2 : ¬ lo < hi) : repT lo hi = [123] ++ (decS lo.toNat ++ [125]) := by unfold repT; rw [if_neg h, if_neg h2]; rfl
theorem repT_len (lo hi : Int) : (repT lo hi).length ≤ 11 := by
 unfold repT
 have := decS_len lo.toNat
 have := decS_len hi.toNat
 split
 ·simp; omega
 ·split <;> simp <;> omega
def sameSet (p q : Nat → Bool) : Bool := ((word p 0 : Nat) : Int) == ((word q 0 : Nat) : Int) && ((word p 1 : Nat) : Int) == ((word q 1 : Nat) : Int) && ((word p 2 : Nat) : Int) == ((word q 2 : Nat) : Int) && ((word p 3 : Nat) : Int) == ((word q 3 : Nat) : Int)
def setT (p : Nat → Bool) : List Nat := if (elems p 256).length = 1 then litS ((elems p 256).headD 0) else if sameSet p dotSet = true then [46] else showS p
def textS (x : Lex) : List Nat :=
 if x.kind = 1 then setT x.set else if x.kind = 8 then repT x.lo x.hi
 else if x.kind = 2 then [40] else if x.kind = 3 then [41] else if x.kind = 4 then [124] else if x.kind = 5 then [42] else if x.kind = 6 then [43] else [63]
theorem setT_len (p : Nat → Bool) : (setT p).length ≤ 2400 := by
 unfold setT
 split
 ·have := litS_len ((elems p 256).headD 0); omega
 ·split
  ·simp
  ·exact showS_len p
theorem textS_len (x : Lex) : (textS x).length ≤ 2400 := by
 unfold textS
 split
 ·exact setT_len _
 ·split
  ·have := repT_len x.lo x.hi; omega
  ·repeat' split
   all_goals simp
theorem litS_bytes (c : Nat) (hc : c < 256) : ∀ x ∈ litS c, x < 256 := by
 intro x hx
 unfold litS at hx
 split at hx
 ·simp at hx; omega
 ·split at hx
  ·simp at hx; omega
  ·exact (chr_head c hc).2.2.2.2 x hx
theorem decS_bytes (n : Nat) (h : n < 10000) : ∀ x ∈ decS n, 48 ≤ x ∧ x ≤ 57 := by
 intro x hx
 unfold decS at hx
 split at hx
 ·simp at hx; omega
 ·split at hx
  ·simp at hx; omega
  ·split at hx
   ·simp at hx; omega
   ·simp at hx; omega
theorem str_open (a : List Nat) : (((⟨#[123]⟩ : ByteArray) ++ strOf a) ++ ⟨#[44]⟩) ++ ⟨#[125]⟩ = strOf ([123] ++ (a ++ ([44] ++ [125]))) := by
 show ((strOf [123] ++ strOf a) ++ strOf [44]) ++ strOf [125] = _
 simp only [strOf_append, List.append_assoc]
theorem str_onerep (a : List Nat) : ((⟨#[123]⟩ : ByteArray) ++ strOf a) ++ ⟨#[125]⟩ = strOf ([123] ++ (a ++ [125])) := by
 show (strOf [123] ++ strOf a) ++ strOf [125] = _
 simp only [strOf_append, List.append_assoc]
theorem str_tworep (a b : List Nat) : (((⟨#[123]⟩ : ByteArray) ++ strOf a) ++ ((⟨#[44]⟩ : ByteArray) ++ strOf b)) ++ ⟨#[125]⟩ = strOf ([123] ++ (a ++ (([44] ++ b) ++ [125]))) := by
 show ((strOf [123] ++ strOf a) ++ (strOf [44] ++ strOf b)) ++ strOf [125] = _
 simp only [strOf_append, List.append_assoc]
theorem rept_go (lo hi : Int) (w : World) (h0 : 0 ≤ lo) (h1 : lo ≤ 1000) (h2 : hi = -1 ∨ lo ≤ hi ∧ hi ≤ 1000) :
  Calls Tryz.prog 212 #[.int .i64 lo, .int .i64 hi] w fun e w' => e = .returned (.string (strOf (repT lo hi))) ∧ Below w.heap.size w w' := by
 obtain ⟨n, rfl⟩ := Int.eq_ofNat_of_zero_le h0
 have H1 := Lib.hid (fun w => shown_go n w (by omega))
 have l1 := decS_len n
 by_cases hh : hi < 0
 ·have HV := Lib.hid ((str_open (decS n)).trans (congrArg strOf (repT_open n hi hh).symm))
  go_enter Tryz.func212, Tryz.ntmps212
  go_wp2_with fail
  refine (H1.out _).mono ?_
  rintro e w1 ⟨rfl, hb1⟩
  go_wp2
  go_light
  go_ret
  exact ⟨by rw [← HV.out]; rfl, hb1⟩
 obtain ⟨m, rfl⟩ := Int.eq_ofNat_of_zero_le (show 0 ≤ hi by omega)
 have H2 := Lib.hid (fun w => shown_go m w (by omega))
 have l2 := decS_len m
 by_cases hlt : (n : Int) < (m : Int)
 ·have HV := Lib.hid ((str_tworep (decS n) (decS m)).trans (congrArg strOf (repT_two n m hh hlt).symm))
  go_enter Tryz.func212, Tryz.ntmps212
  go_wp2_with fail
  refine (H1.out _).mono ?_
  rintro e w1 ⟨rfl, hb1⟩
  have HB1 := Lib.hid hb1
  clear hb1
  go_wp2_with fail
  refine (H2.out _).mono ?_
  rintro e w2 ⟨rfl, hb2⟩
  have HB2 := Lib.hid (HB1.out.trans (hb2.mono HB1.out.size))
  clear hb2
  go_wp2
  go_light
  go_ret
  exact ⟨by rw [← HV.out]; rfl, HB2.out⟩
 ·have HV := Lib.hid ((str_onerep (decS n)).trans (congrArg strOf (repT_one n m hh hlt).symm))
  go_enter Tryz.func212, Tryz.ntmps212
  go_wp2_with fail
  refine (H1.out _).mono ?_
  rintro e w1 ⟨rfl, hb1⟩
  go_wp2
  go_light
  go_ret
  exact ⟨by rw [← HV.out]; rfl, hb1⟩
theorem lexset_below {w w' : World} {g : Nat} {t : TypeId} {a b c d e f u v : Value} (h : Blk w g t #[a, b, c, d, e, f, u, v]) (hb : Below w.heap.size w w') :
  w'.cell? ⟨g, 2, none⟩ = some c ∧ w'.cell? ⟨g, 2 + 1, none⟩ = some d ∧ w'.cell? ⟨g, 2 + 2, none⟩ = some e ∧ w'.cell? ⟨g, 2 + 3, none⟩ = some f :=
 have h := h.below hb h.lt
 ⟨h.cell 2, h.cell 3, h.cell 4, h.cell 5⟩
theorem text_setJ (p : Nat → Bool) (pl lo hi : Int) (w : World) (hT : TabAt 1 Lib.deBruijn64tab w) (hw0 : 1 < w.heap.size) :
  Calls Tryz.prog 175 #[.agg #[.int .i64 1, .int .i64 pl, .int .u64 (word p 0), .int .u64 (word p 1), .int .u64 (word p 2), .int .u64 (word p 3), .int .i64 lo, .int .i64 hi]] w fun e w' => e = .returned (.string (strOf (setT p))) ∧ Below w.heap.size w w' := by
 have hb0 := (Below.refl w.heap.size w).alloc (Nat.le_refl _) (.cells #[.int .i64 1, .int .i64 pl, .int .u64 (word p 0), .int .u64 (word p 1), .int .u64 (word p 2), .int .u64 (word p 3), .int .i64 lo, .int .i64 hi] 139)
 have hx0 := Blk.new w 139 #[.int .i64 1, .int .i64 pl, .int .u64 (word p 0), .int .u64 (word p 1), .int .u64 (word p 2), .int .u64 (word p 3), .int .i64 lo, .int .i64 hi]
 have HT := Lib.hid hT
 have HB0 := Lib.hid hb0
 have HX0 := Lib.hid hx0
 clear hb0 hx0 hT
 have hcn := cnt_elems p 256
 by_cases h1 : (elems p 256).length = 1
 ·obtain ⟨c, hc⟩ := List.length_eq_one_iff.1 h1
  have hc256 : c < 256 := elems_lt (m := 256) (p := p) (by rw [hc]; simp)
  have HV : Hid (setT p = litS c) := Lib.hid (by unfold setT; rw [if_pos h1, hc]; rfl)
  have HN : Hid (((cnt p 256 : Nat) : Int) = 1) := Lib.hid (by omega)
  have HL := Lib.hid (fun w => least_go p c hc w)
  rw [HV.out]
  clear hc h1 hcn
  go_enter Tryz.func175, Tryz.ntmps175
  go_wp2_with fail
  refine (count_go p _).mono ?_
  rintro e w1 ⟨rfl, hb1⟩
  rw [HN.out]
  have HB1 := Lib.hid (HB0.out.trans (hb1.mono HB0.out.size))
  have hx1 := HX0.out.below hb1 HX0.out.lt
  have HX1 := Lib.hid hx1
  have s2 := hx1.cell 2
  have s3 := hx1.cell 3
  have s4 := hx1.cell 4
  have s5 := hx1.cell 5
  clear hb1 hx1
  simp at s2 s3 s4 s5
  go_wp2_with fail
  refine (HL.out _ (TabAt.below HB1.out hw0 HT.out) (Nat.lt_of_lt_of_le hw0 HB1.out.size)).mono ?_
  rintro e w2 ⟨rfl, hb2⟩
  have HB2 := Lib.hid (HB1.out.trans (hb2.mono HB1.out.size))
  clear hb2
  go_wp2_with fail
  refine (lit_go c _ hc256).mono ?_
  rintro e w3 ⟨rfl, hb3⟩
  have HB3 := Lib.hid (HB2.out.trans (hb3.mono HB2.out.size))
  clear hb3
  go_wp2
  go_light
  go_ret
  exact ⟨rfl, HB3.out⟩
 ·have HN : Hid ((((cnt p 256 : Nat) : Int) == 1) = false) := Lib.hid (by simp; omega)
  have hn256 : cnt p 256 ≤ 256 := by rw [hcn]; exact elems_len p 256
  cases hd : sameSet p dotSet
  ·have HV : Hid (setT p = showS p) := Lib.hid (by unfold setT; rw [if_neg h1, hd]; rfl)
   unfold sameSet at hd
   rw [HV.out]
   clear h1 hcn
   go_enter Tryz.func175, Tryz.ntmps175
   go_wp2_with fail
   refine (count_go p _).mono ?_
   rintro e w1 ⟨rfl, hb1⟩
   have hn := HN.out
   generalize ((cnt p 256 : Nat) : Int) = N at *
   have HB1 := Lib.hid (HB0.out.trans (hb1.mono HB0.out.size))
   have hx1 := HX0.out.below hb1 HX0.out.lt
   have HX1 := Lib.hid hx1
   have s2 := hx1.cell 2
   have s3 := hx1.cell 3
   have s4 := hx1.cell 4
   have s5 := hx1.cell 5
   clear hb1 hx1
   simp at s2 s3 s4 s5
   go_wp2
   go_region_with (go_at_call 187; refine (dot_go _).mono ?_; rintro e w2 ⟨rfl, hb2⟩; obtain ⟨t2, t3, t4, t5⟩ := lexset_below HX1.out.drew hb2; have HB2 := Lib.hid (HB1.out.drew.trans (hb2.mono HB1.out.size)); clear hb2)
   all_goals go_wp2_with (go_at_call 211; refine (show_go p _ (TabAt.below HB2.out hw0 HT.out) (Nat.lt_of_lt_of_le hw0 HB2.out.size)).mono ?_; rintro e w3 ⟨rfl, hb3⟩)
   all_goals go_light
   all_goals go_ret
   all_goals exact ⟨rfl, HB2.out.trans (hb3.mono HB2.out.size)⟩
  ·have HV : Hid (setT p = [46]) := Lib.hid (by unfold setT; rw [if_neg h1, if_pos hd])
   unfold sameSet at hd
   rw [HV.out]
   clear h1 hcn
   go_enter Tryz.func175, Tryz.ntmps175
   go_wp2_with fail
   refine (count_go p _).mono ?_
   rintro e w1 ⟨rfl, hb1⟩
   have hn := HN.out
   generalize ((cnt p 256 : Nat) : Int) = N at *
   have HB1 := Lib.hid (HB0.out.trans (hb1.mono HB0.out.size))
   have hx1 := HX0.out.below hb1 HX0.out.lt
   have HX1 := Lib.hid hx1
   have s2 := hx1.cell 2
   have s3 := hx1.cell 3
   have s4 := hx1.cell 4
   have s5 := hx1.cell 5
   clear hb1 hx1
   simp at s2 s3 s4 s5
   go_wp2
   go_region_with (go_at_call 187; refine (dot_go _).mono ?_; rintro e w2 ⟨rfl, hb2⟩; obtain ⟨t2, t3, t4, t5⟩ := lexset_below HX1.out.drew hb2; have HB2 := Lib.hid (HB1.out.drew.trans (hb2.mono HB1.out.size)); clear hb2)
   all_goals go_wp2
   all_goals go_light
   all_goals go_ret
   all_goals exact ⟨rfl, HB2.out⟩
theorem text_rep (p : Nat → Bool) (pl lo hi : Int) (w : World) (h0 : 0 ≤ lo) (h1 : lo ≤ 1000) (h2 : hi = -1 ∨ lo ≤ hi ∧ hi ≤ 1000) :
  Calls Tryz.prog 175 #[.agg #[.int .i64 8, .int .i64 pl, .int .u64 (word p 0), .int .u64 (word p 1), .int .u64 (word p 2), .int .u64 (word p 3), .int .i64 lo, .int .i64 hi]] w fun e w' => e = .returned (.string (strOf (repT lo hi))) ∧ Below w.heap.size w w' := by
 have H := Lib.hid (fun w => rept_go lo hi w h0 h1 h2)
 clear h0 h1 h2
 go_enter Tryz.func175, Tryz.ntmps175
 go_wp2_with fail
 have HB0 := Lib.hid ((Below.refl w.heap.size w).alloc (Nat.le_refl _) (.cells #[.int .i64 8, .int .i64 pl, .int .u64 (word p 0), .int .u64 (word p 1), .int .u64 (word p 2), .int .u64 (word p 3), .int .i64 lo, .int .i64 hi] 139))
 refine (H.out _).mono ?_
 rintro e w1 ⟨rfl, hb1⟩
 have HB1 := Lib.hid (HB0.out.trans (hb1.mono HB0.out.size))
 clear hb1
 go_wp2
 go_light
 go_ret
 exact ⟨rfl, HB1.out⟩
theorem text_signJ (p : Nat → Bool) (k pl lo hi : Int) (w : World) (h0 : 2 ≤ k) (h1 : k ≤ 7) :
  Calls Tryz.prog 175 #[.agg #[.int .i64 k, .int .i64 pl, .int .u64 (word p 0), .int .u64 (word p 1), .int .u64 (word p 2), .int .u64 (word p 3), .int .i64 lo, .int .i64 hi]] w fun e w' => e = .returned (.string (strOf (textS ⟨k, pl, p, lo, hi⟩))) ∧ Below w.heap.size w w' := by
 by_cases e2 : k = 2
 ·subst e2
  go_enter Tryz.func175, Tryz.ntmps175
  go_wp2
  go_light
  go_ret
  exact ⟨rfl, (Below.refl w.heap.size w).alloc (Nat.le_refl _) _⟩
 by_cases e3 : k = 3
 ·subst e3
  go_enter Tryz.func175, Tryz.ntmps175
  go_wp2
  go_light
  go_ret
  exact ⟨rfl, (Below.refl w.heap.size w).alloc (Nat.le_refl _) _⟩
 by_cases e4 : k = 4
 ·subst e4
  go_enter Tryz.func175, Tryz.ntmps175
  go_wp2
  go_light
  go_ret
  exact ⟨rfl, (Below.refl w.heap.size w).alloc (Nat.le_refl _) _⟩
 by_cases e5 : k = 5
 ·subst e5
  go_enter Tryz.func175, Tryz.ntmps175
  go_wp2
  go_light
  go_ret
  exact ⟨rfl, (Below.refl w.heap.size w).alloc (Nat.le_refl _) _⟩
 by_cases e6 : k = 6
 ·subst e6
  go_enter Tryz.func175, Tryz.ntmps175
  go_wp2
  go_light
  go_ret
  exact ⟨rfl, (Below.refl w.heap.size w).alloc (Nat.le_refl _) _⟩
 by_cases e7 : k = 7
 ·subst e7
  go_enter Tryz.func175, Tryz.ntmps175
  go_wp2
  go_light
  go_ret
  exact ⟨rfl, (Below.refl w.heap.size w).alloc (Nat.le_refl _) _⟩
 exact absurd h0 (by omega)
def lexValJ (x : Lex) : Value := .agg #[.int .i64 x.kind, .int .i64 x.place, .int .u64 (word x.set 0), .int .u64 (word x.set 1), .int .u64 (word x.set 2), .int .u64 (word x.set 3), .int .i64 x.lo, .int .i64 x.hi]
theorem text_go (x : Lex) (w : World) (hr : rightS x = true) (hT : TabAt 1 Lib.deBruijn64tab w) (hw0 : 1 < w.heap.size) :
  Calls Tryz.prog 175 #[lexValJ x] w fun e w' => e = .returned (.string (strOf (textS x))) ∧ Below w.heap.size w w' := by
 obtain ⟨_, h | h | h⟩ := rightS_cases hr
 ·obtain ⟨k, pl, p, lo, hi⟩ := x
  dsimp only at h
  obtain ⟨rfl, _, _⟩ := h
  exact text_setJ p pl lo hi w hT hw0
 ·obtain ⟨k, pl, p, lo, hi⟩ := x
  dsimp only at h
  obtain ⟨rfl, h1, h2, h3, _⟩ := h
  exact text_rep p pl lo hi w h1 h2 h3
 ·obtain ⟨k, pl, p, lo, hi⟩ := x
  dsimp only at h
  exact text_signJ p k pl lo hi w h.1 h.2.1
theorem rtext_set (p : Nat → Bool) (pl lo hi : Int) (w : World) :
  Calls Tryz.prog 179 #[.agg #[.int .i64 1, .int .i64 pl, .int .u64 (word p 0), .int .u64 (word p 1), .int .u64 (word p 2), .int .u64 (word p 3), .int .i64 lo, .int .i64 hi]] w fun e w' => e = .returned (.string (strOf (setT p))) ∧ Below w.heap.size w w' := by
 have HB0 := Lib.hid ((Below.refl w.heap.size w).alloc (Nat.le_refl _) (.cells #[.int .i64 1, .int .i64 pl, .int .u64 (word p 0), .int .u64 (word p 1), .int .u64 (word p 2), .int .u64 (word p 3), .int .i64 lo, .int .i64 hi] 139))
 have HX0 := Lib.hid (Blk.new w 139 #[.int .i64 1, .int .i64 pl, .int .u64 (word p 0), .int .u64 (word p 1), .int .u64 (word p 2), .int .u64 (word p 3), .int .i64 lo, .int .i64 hi])
 have hel := elems_len p 256
 by_cases h1 : (elems p 256).length = 1
 ·obtain ⟨c, hc⟩ := List.length_eq_one_iff.1 h1
  have hc256 : c < 256 := elems_lt (m := 256) (p := p) (by rw [hc]; simp)
  have HV : Hid (setT p = litS c) := Lib.hid (by unfold setT; rw [if_pos h1, hc]; rfl)
  have HC := Lib.hid hc
  rw [HV.out]
  clear hc h1 hel
  go_enter Tryz.func179, Tryz.ntmps179
  go_wp2_with fail
  refine (rbytes_go p _).mono ?_
  rintro e w1 ⟨v, rfl, hrow, hb1⟩
  have HB1 := Lib.hid (HB0.out.trans (hb1.mono HB0.out.size))
  have hx1 := HX0.out.below hb1 HX0.out.lt
  have HX1 := Lib.hid hx1
  have s2 := hx1.cell 2
  have s3 := hx1.cell 3
  have s4 := hx1.cell 4
  have s5 := hx1.cell 5
  have Hrow := Lib.hid hrow
  clear hb1 hx1 hrow
  simp at s2 s3 s4 s5
  have hrow := Hrow.out
  rw [HC.out] at hrow
  obtain ⟨g, cap, hv, hg, _⟩ := own_form hrow (Nat.zero_lt_succ 0)
  have hcell := hrow.cells (g := g) (by rw [hv]; rfl) 0 (.int .u8 (c : Int)) rfl
  have hcell' : w1.cell? ⟨g, 0, none⟩ = some (.int .u8 (c : Int)) := hcell
  subst hv
  clear hrow hcell
  go_wp2_with fail
  refine (rlit_go c _ hc256).mono ?_
  rintro e w3 ⟨rfl, hb3⟩
  have HB3 := Lib.hid (HB1.out.trans (hb3.mono HB1.out.size))
  clear hb3
  go_wp2
  go_light
  go_ret
  exact ⟨rfl, HB3.out⟩
 ·cases hd : sameSet p dotSet
  ·have HV : Hid (setT p = showS p) := Lib.hid (by unfold setT; rw [if_neg h1, hd]; rfl)
   unfold sameSet at hd
   rw [HV.out]
   have hn1 : (((elems p 256).length : Int) == 1) = false := by simp; omega
   go_enter Tryz.func179, Tryz.ntmps179
   go_wp2_with fail
   refine (rbytes_go p _).mono ?_
   rintro e w1 ⟨v, rfl, hrow, hb1⟩
   have HB1 := Lib.hid (HB0.out.trans (hb1.mono HB0.out.size))
   have hx1 := HX0.out.below hb1 HX0.out.lt
   have HX1 := Lib.hid hx1
   have s2 := hx1.cell 2
   have s3 := hx1.cell 3
   have s4 := hx1.cell 4
   have s5 := hx1.cell 5
   have Hrow := Lib.hid hrow
   clear hb1 hx1 hrow
   simp at s2 s3 s4 s5
   obtain ⟨A, cap, rfl⟩ := own_slice Hrow.out
   clear Hrow
   generalize (elems p 256).length = N at *
   go_wp2
   go_region_with (go_at_call 218; refine (rdot_go _).mono ?_; rintro e w2 ⟨rfl, hb2⟩; obtain ⟨t2, t3, t4, t5⟩ := lexset_below HX1.out.drew hb2; have HB2 := Lib.hid (HB1.out.drew.trans (hb2.mono HB1.out.size)); clear hb2)
   all_goals go_wp2_with (go_at_call 219; refine (rshow_go p _).mono ?_; rintro e w3 ⟨rfl, hb3⟩)
   all_goals go_light
   all_goals go_ret
   all_goals exact ⟨rfl, HB2.out.trans (hb3.mono HB2.out.size)⟩
  ·have HV : Hid (setT p = [46]) := Lib.hid (by unfold setT; rw [if_neg h1, if_pos hd])
   unfold sameSet at hd
   rw [HV.out]
   have hn1 : (((elems p 256).length : Int) == 1) = false := by simp; omega
   go_enter Tryz.func179, Tryz.ntmps179
   go_wp2_with fail
   refine (rbytes_go p _).mono ?_
   rintro e w1 ⟨v, rfl, hrow, hb1⟩
   have HB1 := Lib.hid (HB0.out.trans (hb1.mono HB0.out.size))
   have hx1 := HX0.out.below hb1 HX0.out.lt
   have HX1 := Lib.hid hx1
   have s2 := hx1.cell 2
   have s3 := hx1.cell 3
   have s4 := hx1.cell 4
   have s5 := hx1.cell 5
   have Hrow := Lib.hid hrow
   clear hb1 hx1 hrow
   simp at s2 s3 s4 s5
   obtain ⟨A, cap, rfl⟩ := own_slice Hrow.out
   clear Hrow
   generalize (elems p 256).length = N at *
   go_wp2
   go_region_with (go_at_call 218; refine (rdot_go _).mono ?_; rintro e w2 ⟨rfl, hb2⟩; obtain ⟨t2, t3, t4, t5⟩ := lexset_below HX1.out.drew hb2; have HB2 := Lib.hid (HB1.out.drew.trans (hb2.mono HB1.out.size)); clear hb2)
   all_goals go_wp2
   all_goals go_light
   all_goals go_ret
   all_goals exact ⟨rfl, HB2.out⟩
theorem lexlohi_below {w w' : World} {g : Nat} {t : TypeId} {a b c d e f u v : Value} (h : Blk w g t #[a, b, c, d, e, f, u, v]) (hb : Below w.heap.size w w') :
  w'.cell? ⟨g, 6, none⟩ = some u ∧ w'.cell? ⟨g, 7, none⟩ = some v :=
 have h := h.below hb h.lt
 ⟨h.cell 6, h.cell 7⟩
theorem str_open2 (a : List Nat) : ((⟨#[123]⟩ : ByteArray) ++ strOf a) ++ ⟨#[44, 125]⟩ = strOf ([123] ++ (a ++ ([44] ++ [125]))) := by
 show (strOf [123] ++ strOf a) ++ strOf [44, 125] = _
 simp only [strOf_append, List.append_assoc]
 try rfl
theorem str_tworep2 (a b : List Nat) : ((((⟨#[123]⟩ : ByteArray) ++ strOf a) ++ ⟨#[44]⟩) ++ strOf b) ++ ⟨#[125]⟩ = strOf ([123] ++ (a ++ (([44] ++ b) ++ [125]))) := by
 show (((strOf [123] ++ strOf a) ++ strOf [44]) ++ strOf b) ++ strOf [125] = _
 simp only [strOf_append, List.append_assoc]
theorem rtext_rep (p : Nat → Bool) (pl lo hi : Int) (w : World) (h0 : 0 ≤ lo) (h1 : lo ≤ 1000) (h2 : hi = -1 ∨ lo ≤ hi ∧ hi ≤ 1000) :
  Calls Tryz.prog 179 #[.agg #[.int .i64 8, .int .i64 pl, .int .u64 (word p 0), .int .u64 (word p 1), .int .u64 (word p 2), .int .u64 (word p 3), .int .i64 lo, .int .i64 hi]] w fun e w' => e = .returned (.string (strOf (repT lo hi))) ∧ Below w.heap.size w w' := by
 have HB0 := Lib.hid ((Below.refl w.heap.size w).alloc (Nat.le_refl _) (.cells #[.int .i64 8, .int .i64 pl, .int .u64 (word p 0), .int .u64 (word p 1), .int .u64 (word p 2), .int .u64 (word p 3), .int .i64 lo, .int .i64 hi] 139))
 have HX0 := Lib.hid (Blk.new w 139 #[.int .i64 8, .int .i64 pl, .int .u64 (word p 0), .int .u64 (word p 1), .int .u64 (word p 2), .int .u64 (word p 3), .int .i64 lo, .int .i64 hi])
 obtain ⟨n, rfl⟩ := Int.eq_ofNat_of_zero_le h0
 have H1 := Lib.hid (fun w => rshown_go n w (by omega))
 have l1 := decS_len n
 by_cases hh : hi < 0
 ·have HV := Lib.hid ((str_open2 (decS n)).trans (congrArg strOf (repT_open n hi hh).symm))
  obtain rfl : hi = -1 := by omega
  clear h0 h1 h2 hh
  go_enter Tryz.func179, Tryz.ntmps179
  go_wp2_with fail
  refine (H1.out _).mono ?_
  rintro e w1 ⟨rfl, hb1⟩
  obtain ⟨t6, t7⟩ := lexlohi_below HX0.out hb1
  have HB1 := Lib.hid (HB0.out.trans (hb1.mono HB0.out.size))
  clear hb1
  go_wp2
  go_light
  go_ret
  exact ⟨by rw [← HV.out]; rfl, HB1.out⟩
 obtain ⟨m, rfl⟩ := Int.eq_ofNat_of_zero_le (show 0 ≤ hi by omega)
 have H2 := Lib.hid (fun w => rshown_go m w (by omega))
 have l2 := decS_len m
 have hm1 : ((m : Int) == -1) = false := by simp <;> omega
 by_cases hlt : (n : Int) < (m : Int)
 ·have HV := Lib.hid ((str_tworep2 (decS n) (decS m)).trans (congrArg strOf (repT_two n m hh hlt).symm))
  have hne : ((m : Int) != (n : Int)) = true := by simp <;> omega
  clear h0 h1 h2 hh
  go_enter Tryz.func179, Tryz.ntmps179
  go_wp2_with fail
  refine (H1.out _).mono ?_
  rintro e w1 ⟨rfl, hb1⟩
  obtain ⟨t6, t7⟩ := lexlohi_below HX0.out hb1
  have HB1 := Lib.hid (HB0.out.trans (hb1.mono HB0.out.size))
  clear hb1
  go_wp2_with fail
  refine (H2.out _).mono ?_
  rintro e w2 ⟨rfl, hb2⟩
  have HB2 := Lib.hid (HB1.out.trans (hb2.mono HB1.out.size))
  clear hb2
  go_wp2
  go_light
  go_ret
  exact ⟨by rw [← HV.out]; rfl, HB2.out⟩
 ·have HV := Lib.hid ((str_onerep (decS n)).trans (congrArg strOf (repT_one n m hh hlt).symm))
  obtain rfl : n = m := by omega
  have hne : ((n : Int) != (n : Int)) = false := by simp
  clear h0 h1 h2 hh
  go_enter Tryz.func179, Tryz.ntmps179
  go_wp2_with fail
  refine (H1.out _).mono ?_
  rintro e w1 ⟨rfl, hb1⟩
  obtain ⟨t6, t7⟩ := lexlohi_below HX0.out hb1
  have HB1 := Lib.hid (HB0.out.trans (hb1.mono HB0.out.size))
  clear hb1
  go_wp2
  go_light
  go_ret
  exact ⟨by rw [← HV.out]; rfl, HB1.out⟩
@[go_sem] theorem run_str1_next (w : World) (o : Obj) (c : Nat) : (convert 30 9 (.slice (some ⟨w.heap.size + 1, 0, none⟩) 1 1)).run Tryz.prog ((w.alloc o).alloc (.cells #[.int .u8 (c : Int)] 5)) =
  .ok (.string (strOf [c])) ((w.alloc o).alloc (.cells #[.int .u8 (c : Int)] 5)) := by
 have h := run_str1 (w.alloc o) c
 rw [World.size_alloc] at h
 exact h
theorem rtext_sign (p : Nat → Bool) (k pl lo hi : Int) (w : World) (h0 : 2 ≤ k) (h1 : k ≤ 7) :
  Calls Tryz.prog 179 #[.agg #[.int .i64 k, .int .i64 pl, .int .u64 (word p 0), .int .u64 (word p 1), .int .u64 (word p 2), .int .u64 (word p 3), .int .i64 lo, .int .i64 hi]] w fun e w' => e = .returned (.string (strOf (textS ⟨k, pl, p, lo, hi⟩))) ∧ Below w.heap.size w w' := by
 by_cases e2 : k = 2
 ·subst e2
  go_enter Tryz.func179, Tryz.ntmps179
  go_wp2
  go_light
  go_ret
  exact ⟨rfl, ((Below.refl w.heap.size w).alloc (Nat.le_refl _) _).alloc (by simp) _⟩
 by_cases e3 : k = 3
 ·subst e3
  go_enter Tryz.func179, Tryz.ntmps179
  go_wp2
  go_light
  go_ret
  exact ⟨rfl, ((Below.refl w.heap.size w).alloc (Nat.le_refl _) _).alloc (by simp) _⟩
 by_cases e4 : k = 4
 ·subst e4
  go_enter Tryz.func179, Tryz.ntmps179
  go_wp2
  go_light
  go_ret
  exact ⟨rfl, ((Below.refl w.heap.size w).alloc (Nat.le_refl _) _).alloc (by simp) _⟩
 by_cases e5 : k = 5
 ·subst e5
  go_enter Tryz.func179, Tryz.ntmps179
  go_wp2
  go_light
  go_ret
  exact ⟨rfl, ((Below.refl w.heap.size w).alloc (Nat.le_refl _) _).alloc (by simp) _⟩
 by_cases e6 : k = 6
 ·subst e6
  go_enter Tryz.func179, Tryz.ntmps179
  go_wp2
  go_light
  go_ret
  exact ⟨rfl, ((Below.refl w.heap.size w).alloc (Nat.le_refl _) _).alloc (by simp) _⟩
 by_cases e7 : k = 7
 ·subst e7
  go_enter Tryz.func179, Tryz.ntmps179
  go_wp2
  go_light
  go_ret
  exact ⟨rfl, ((Below.refl w.heap.size w).alloc (Nat.le_refl _) _).alloc (by simp) _⟩
 exact absurd h0 (by omega)
theorem rtext_go (x : Lex) (w : World) (hr : rightS x = true) :
  Calls Tryz.prog 179 #[lexValJ x] w fun e w' => e = .returned (.string (strOf (textS x))) ∧ Below w.heap.size w w' := by
 obtain ⟨_, h | h | h⟩ := rightS_cases hr
 ·obtain ⟨k, pl, p, lo, hi⟩ := x
  dsimp only at h
  obtain ⟨rfl, _, _⟩ := h
  exact rtext_set p pl lo hi w
 ·obtain ⟨k, pl, p, lo, hi⟩ := x
  dsimp only at h
  obtain ⟨rfl, h1, h2, h3, _⟩ := h
  exact rtext_rep p pl lo hi w h1 h2 h3
 ·obtain ⟨k, pl, p, lo, hi⟩ := x
  dsimp only at h
  exact rtext_sign p k pl lo hi w h.1 h.2.1
def joinS (L : List Lex) : List Nat := L.flatMap textS
theorem joinS_len : ∀ (L : List Lex), (joinS L).length ≤ L.length * 2400
 | [] => by simp [joinS]
 | x :: L => by
  have h1 := textS_len x
  have h2 := joinS_len L
  unfold joinS at h2 ⊢
  rw [List.flatMap_cons, List.length_append, List.length_cons]
  omega
theorem joinS_take {L : List Lex} {k : Nat} {x : Lex} (h : L[k]? = some x) : joinS (L.take (k + 1)) = joinS (L.take k) ++ textS x := by
 unfold joinS
 rw [List.take_add_one, h]
 simp
def joinV (L : List Lex) : Value := if L.all rightS = true then .tuple #[.string (strOf (joinS L)), .int .i64 0] else .tuple #[.string ⟨#[]⟩, .int .i64 6]
theorem joinV_bad {L : List Lex} {k : Nat} {x : Lex} (h : L[k]? = some x) (hx : rightS x = false) : joinV L = .tuple #[.string ⟨#[]⟩, .int .i64 6] := by
 refine if_neg fun ha => ?_
 have := List.all_eq_true.1 ha x (List.mem_of_getElem? h)
 rw [hx] at this
 cases this
theorem joinV_ok {L : List Lex} (h : ∀ (k : Nat) x, L[k]? = some x → rightS x = true) : joinV L = .tuple #[.string (strOf (joinS L)), .int .i64 0] := by
 refine if_pos (List.all_eq_true.2 fun x hx => ?_)
 obtain ⟨k, hk, rfl⟩ := List.mem_iff_getElem.1 hx
 exact h k _ (List.getElem?_eq_getElem hk)
theorem showS_bytes' (p : Nat → Bool) : ∀ x ∈ showS p, x < 256 := by
 have hp : ∀ l : List (Nat × Nat), (∀ x ∈ l, x.1 ≤ x.2 ∧ x.2 < 256) → ∀ y ∈ piecesS l, y < 256 := by
  intro l
  induction l with
  | nil => intro _ y hy; simp [piecesS] at hy
  | cons x l ih =>
   intro hl y hy
   have hx := hl x (by simp)
   rw [piecesS_cons] at hy
   rcases List.mem_append.1 hy with hy | hy
   ·unfold pieceS at hy
    rcases List.mem_append.1 hy with hy | hy
    ·exact (chr_head x.1 (by omega)).2.2.2.2 y hy
    ·rcases List.mem_append.1 hy with hy | hy
     ·split at hy
      ·simp at hy; omega
      ·simp at hy
     ·split at hy
      ·exact (chr_head x.2 hx.2).2.2.2.2 y hy
      ·simp at hy
   ·exact ih (fun z hz => hl z (by simp [hz])) y hy
 intro x hx
 unfold showS at hx
 split at hx
 ·simp only [List.mem_append, List.mem_cons, List.not_mem_nil, or_false] at hx
  rcases hx with (h | h) | h | h
  ·omega
  ·omega
  ·exact hp _ (cutsOf_in _) x h
  ·omega
 ·simp only [List.mem_append, List.mem_cons, List.not_mem_nil, or_false] at hx
  rcases hx with h | h | h
  ·omega
  ·exact hp _ (cutsOf_in _) x h
  ·omega
theorem setT_bytes (p : Nat → Bool) : ∀ x ∈ setT p, x < 256 := by
 unfold setT
 split
 ·rename_i h
  obtain ⟨c, hc⟩ := List.length_eq_one_iff.1 h
  rw [hc]
  exact litS_bytes c (elems_lt (m := 256) (p := p) (by rw [hc]; simp))
 ·split
  ·simp
  ·exact showS_bytes' p
theorem repT_bytes {lo hi : Int} (h1 : lo ≤ 1000) (h2 : hi ≤ 1000) : ∀ x ∈ repT lo hi, x < 256 := by
 intro x hx
 unfold repT at hx
 have d1 := decS_bytes lo.toNat (by omega)
 have d2 := decS_bytes hi.toNat (by omega)
 simp only [List.mem_append, List.mem_cons, List.not_mem_nil, or_false] at hx
 rcases hx with h | h | h | h
 ·omega
 ·have := d1 x h; omega
 ·split at h
  ·simp at h; omega
  ·split at h
   ·rcases List.mem_cons.1 h with h | h
    ·omega
    ·have := d2 x h; omega
   ·cases h
 ·omega
theorem textS_bytes {x : Lex} (h : rightS x = true) : ∀ y ∈ textS x, y < 256 := by
 obtain ⟨_, h | h | h⟩ := rightS_cases h
 ·unfold textS
  rw [if_pos h.1]
  exact setT_bytes _
 ·unfold textS
  rw [if_neg (by omega), if_pos h.1]
  exact repT_bytes (by omega) (by omega)
 ·unfold textS
  rw [if_neg (by omega), if_neg (by omega)]
  repeat' split
  all_goals simp
theorem joinS_bytes {L : List Lex} (h : ∀ (k : Nat) x, L[k]? = some x → rightS x = true) : ∀ y ∈ joinS L, y < 256 := by
 intro y hy
 obtain ⟨x, hx, hy⟩ := List.mem_flatMap.1 hy
 obtain ⟨k, hk, rfl⟩ := List.mem_iff_getElem.1 hx
 exact textS_bytes (h k _ (List.getElem?_eq_getElem hk)) y hy
theorem strCells_of (t : List Nat) (h : ∀ x ∈ t, x < 256) : Lib.strCells (strOf t) = t.map (fun c : Nat => Value.int .u8 (c : Int)) := by
 unfold Lib.strCells strOf
 simp only [List.map_map]
 apply List.map_congr_left
 intro x hx
 have := h x hx
 simp
 omega
theorem own_text {w : World} {base : Nat} {v : Value} {ns : List Nat} (h : w.ownsRow base 5 1 v ns.length (ns.map (fun n : Nat => Value.int .u8 (n : Int)))) :
  (convert 30 9 v).run Tryz.prog w = .ok (.string (strOf ns)) w := by
 rcases h.2 with ⟨rfl, h0⟩ | ⟨g, cap, cur, hv, hb, hh, _⟩
 ·have : ns = [] := List.length_eq_zero_iff.1 h0
  subst this
  rw [run_convert_bytes_string w _ _ 5 none _ _ Tryz.underlying30 Tryz.underlying5 Tryz.underlying9]
  rfl
 ·subst hv
  exact run_str w ⟨g, 0, none⟩ cap ns (h.cells (g := g) rfl)
def lexK (k : Int) : Lex := ⟨k, 0, noSet, 0, 0⟩
def brS (p k : Int) : Bool := decide (k = 5) || (decide (p ≠ 5) && (decide (k = 4) || decide (k = 2)))
def kidS (p : Int) (q : Int × List Lex) : List Lex := if brS p q.1 = true then lexK 2 :: (q.2 ++ [lexK 3]) else q.2
def barsS (l : List (List Lex)) : List Lex := (l.flatMap fun x => lexK 4 :: x).drop 1
theorem barsS_snoc (l : List (List Lex)) (x : List Lex) : barsS (l ++ [x]) = if l.length = 0 then x else barsS l ++ lexK 4 :: x := by
 unfold barsS
 cases l with
 | nil => simp
 | cons y l => simp
def writeK (k : Int) (s : Nat) (lo hi : Int) (ks : List (Int × List Lex)) : List Lex :=
 if k = 1 ∨ k = 3 then [⟨1, 0, s.testBit, 0, 0⟩]
 else if k = 4 then (ks.map (kidS 4)).flatten
 else if k = 5 then barsS (ks.map (kidS 5))
 else if 6 ≤ k ∧ k ≤ 8 then kidS k (ks.headD (0, [])) ++ [lexK (k - 1)]
 else if k = 9 then kidS k (ks.headD (0, [])) ++ [⟨8, 0, noSet, lo, hi⟩]
 else []
def Trees.writes : Trees → List (Int × List Lex)
 | .nil => []
 | .cons k s ks lo hi r => (k, writeK k s lo hi ks.writes) :: r.writes
def Nd.write (x : Nd) : List Lex := writeK x.kind x.set x.lo x.hi x.kids.writes
theorem Trees.writes_list : ∀ F : Trees, F.writes = F.list.map (fun z => (z.kind, z.write))
 | .nil => rfl
 | .cons k s ks lo hi r => by rw [Trees.writes, Trees.list, List.map_cons, Trees.writes_list r]; rfl
theorem Trees.writes_len (F : Trees) : F.writes.length = F.len := by rw [F.writes_list, List.length_map, F.len_list]
theorem Trees.writes_get {F : Trees} {i : Nat} {z : Nd} (h : F.list[i]? = some z) : F.writes[i]? = some (z.kind, z.write) := by
 rw [F.writes_list, List.getElem?_map, h]; rfl
theorem Trees.writes_head {F : Trees} {z : Nd} (h : F.list[0]? = some z) : F.writes.headD (0, []) = (z.kind, z.write) := by
 have := Trees.writes_get h
 cases hw : F.writes with
 | nil => rw [hw] at this; simp at this
 | cons a l => rw [hw] at this; simpa using this
theorem Nd.write_leaf {x : Nd} (h : x.kind = 1 ∨ x.kind = 3) : x.write = [⟨1, 0, x.set.testBit, 0, 0⟩] := by unfold Nd.write writeK; rw [if_pos h]
theorem Nd.write_cat {x : Nd} (h : x.kind = 4) : x.write = (x.kids.writes.map (kidS 4)).flatten := by unfold Nd.write writeK; rw [if_neg (by omega), if_pos h]
theorem Nd.write_alt {x : Nd} (h : x.kind = 5) : x.write = barsS (x.kids.writes.map (kidS 5)) := by unfold Nd.write writeK; rw [if_neg (by omega), if_neg (by omega), if_pos h]
theorem Nd.write_post {x : Nd} (h : 6 ≤ x.kind ∧ x.kind ≤ 8) : x.write = kidS x.kind (x.kids.writes.headD (0, [])) ++ [lexK (x.kind - 1)] := by unfold Nd.write writeK; rw [if_neg (by omega), if_neg (by omega), if_neg (by omega), if_pos h]
theorem Nd.write_rep {x : Nd} (h : x.kind = 9) : x.write = kidS 9 (x.kids.writes.headD (0, [])) ++ [⟨8, 0, noSet, x.lo, x.hi⟩] := by unfold Nd.write writeK; rw [if_neg (by omega), if_neg (by omega), if_neg (by omega), if_neg (by omega), if_pos h, h]
theorem Nd.write_empty {x : Nd} (h : x.kind = 2) : x.write = [] := by unfold Nd.write writeK; rw [if_neg (by omega), if_neg (by omega), if_neg (by omega), if_neg (by omega), if_neg (by omega)]
theorem kidS_len (p : Int) (q : Int × List Lex) : (kidS p q).length ≤ q.2.length + 2 := by
 unfold kidS
 split
 ·simp
 ·omega
def costW (l : List (Int × List Lex)) : Nat := (l.map fun q => q.2.length + 3).sum
theorem costW_flat (p : Int) : ∀ l : List (Int × List Lex), ((l.map (kidS p)).flatten).length ≤ costW l
 | [] => by simp
 | q :: l => by
  have h1 := costW_flat p l
  have h2 := kidS_len p q
  unfold costW at *
  simp only [List.map_cons, List.flatten_cons, List.length_append, List.sum_cons]
  omega
theorem costW_bars (p : Int) : ∀ l : List (Int × List Lex), ((l.map (kidS p)).flatMap fun x => lexK 4 :: x).length ≤ costW l
 | [] => by simp
 | q :: l => by
  have h1 := costW_bars p l
  have h2 := kidS_len p q
  unfold costW at *
  simp only [List.map_cons, List.flatMap_cons, List.length_append, List.sum_cons, List.length_cons]
  omega
theorem costW_head (p : Int) (l : List (Int × List Lex)) : (kidS p (l.headD (0, []))).length ≤ costW l + 2 := by
 cases l with
 | nil => exact Nat.le_trans (kidS_len _ _) (by simp [costW])
 | cons q l =>
  have := kidS_len p q
  unfold costW
  simp only [List.headD_cons, List.map_cons, List.sum_cons]
  omega
theorem writeK_len (k : Int) (s : Nat) (lo hi : Int) (ks : List (Int × List Lex)) : (writeK k s lo hi ks).length ≤ costW ks + 3 := by
 unfold writeK
 have h1 := costW_flat 4 ks
 have h2 := costW_bars 5 ks
 have h3 := costW_head k ks
 unfold barsS
 repeat' split
 all_goals (try simp only [List.length_append, List.length_cons, List.length_nil, List.length_drop])
 all_goals omega
theorem Trees.cost_le : ∀ F : Trees, costW F.writes ≤ 6 * F.size
 | .nil => by simp [Trees.writes, costW]
 | .cons k s ks lo hi r => by
  have h1 := Trees.cost_le ks
  have h2 := Trees.cost_le r
  have h3 := writeK_len k s lo hi ks.writes
  have e : costW (Trees.cons k s ks lo hi r).writes = (writeK k s lo hi ks.writes).length + 3 + costW r.writes := by simp [costW, Trees.writes]
  rw [e, Trees.size]
  omega
theorem Nd.write_len (x : Nd) : x.write.length ≤ 6 * x.size := by
 have h1 := writeK_len x.kind x.set x.lo x.hi x.kids.writes
 have h2 := x.kids.cost_le
 unfold Nd.write Nd.size
 omega
theorem lexK_right {k : Int} (h : 2 ≤ k ∧ k ≤ 7) : rightS (lexK k) = true := by
 have e0 := word_empty 0 (by decide)
 have e1 := word_empty 1 (by decide)
 have e2 := word_empty 2 (by decide)
 have e3 := word_empty 3 (by decide)
 have h1 : ¬ k = 8 := by omega
 have h2 : ¬ k = 1 := by omega
 unfold rightS rightV lexK
 simp [e0, e1, e2, e3, h1, h2]
 omega
theorem kidS_right {p : Int} {q : Int × List Lex} (h : ∀ y ∈ q.2, rightS y = true) : ∀ y ∈ kidS p q, rightS y = true := by
 intro y hy
 unfold kidS at hy
 split at hy
 ·rcases List.mem_cons.1 hy with rfl | hy
  ·exact lexK_right (by decide)
  ·rcases List.mem_append.1 hy with hy | hy
   ·exact h y hy
   ·rw [List.mem_singleton.1 hy]; exact lexK_right (by decide)
 ·exact h y hy
theorem writeK_right {k : Int} {s : Nat} {lo hi : Int} {ks : List (Int × List Lex)} (h9 : k = 9 → 0 ≤ lo ∧ lo ≤ 1000 ∧ (hi = -1 ∨ lo ≤ hi) ∧ hi ≤ 1000) (h : ∀ q ∈ ks, ∀ y ∈ q.2, rightS y = true) : ∀ y ∈ writeK k s lo hi ks, rightS y = true := by
 have hh : ∀ y ∈ kidS k (ks.headD (0, [])), rightS y = true := by
  refine kidS_right ?_
  cases ks with
  | nil => intro y hy; simp at hy
  | cons q l => exact h q (by simp)
 intro y hy
 unfold writeK at hy
 split at hy
 ·rw [List.mem_singleton.1 hy]; exact right_set 0 _
 split at hy
 ·obtain ⟨l, hl, hy⟩ := List.mem_flatten.1 hy
  obtain ⟨q, hq, rfl⟩ := List.mem_map.1 hl
  exact kidS_right (h q hq) y hy
 split at hy
 ·obtain ⟨l, hl, hy⟩ := List.mem_flatMap.1 (List.mem_of_mem_drop hy)
  obtain ⟨q, hq, rfl⟩ := List.mem_map.1 hl
  rcases List.mem_cons.1 hy with rfl | hy
  ·exact lexK_right (by decide)
  ·exact kidS_right (h q hq) y hy
 split at hy
 ·rcases List.mem_append.1 hy with hy | hy
  ·exact hh y hy
  ·rw [List.mem_singleton.1 hy]; exact lexK_right (by omega)
 split at hy
 ·rename_i hk9
  rcases List.mem_append.1 hy with hy | hy
  ·exact hh y hy
  ·rw [List.mem_singleton.1 hy]
   have := h9 hk9
   have e := right_rep_of 0 lo.toNat hi (by omega) (by omega)
   rw [Int.toNat_of_nonneg this.1] at e
   exact e
 ·cases hy
theorem alone_nine {y : Nd} (h : aloneN y = true) : y.kind = 9 → 0 ≤ y.lo ∧ y.lo ≤ 1000 ∧ (y.hi = -1 ∨ y.lo ≤ y.hi) ∧ y.hi ≤ 1000 := fun h9 => by
 have h1 := numsOk_of h h9
 have h2 := (aloneN_kids h).2.1 h9
 omega
theorem writes_right : ∀ (F : Trees), Okays F → ∀ q ∈ F.writes, ∀ y ∈ q.2, rightS y = true
 | .nil, _, q, hq => by cases hq
 | .cons k s ks lo hi r, ho, q, hq => by
  rw [Trees.writes] at hq
  rcases List.mem_cons.1 hq with rfl | hq
  ·exact writeK_right (alone_nine (y := ⟨k, s, ks, lo, hi⟩) (ho _ (by simp [Trees.nodes]))) (writes_right ks (fun y hy => ho y (by simp [Trees.nodes, hy])))
  ·exact writes_right r (fun y hy => ho y (by simp [Trees.nodes, hy])) q hq
theorem okays_kids {x : Nd} (h : rightT x = true) : aloneN x = true ∧ Okays x.kids := by
 unfold rightT at h
 rw [Bool.and_eq_true] at h
 have := List.all_eq_true.1 h.2
 exact ⟨this x (by simp [Nd.nodes]), fun y hy => this y (by simp [Nd.nodes, hy])⟩
theorem write_right {x : Nd} (h : rightT x = true) : x.write.all rightS = true := by
 obtain ⟨h1, h2⟩ := okays_kids h
 exact List.all_eq_true.2 (writeK_right (alone_nine h1) (writes_right _ h2))
def lexsS (x : Nd) : Except Int (List Lex) := if rightT x = false then .error 6 else match lexemesS x.write with
 | .error _ => .error 4
 | .ok _ => .ok x.write
def showT (x : Nd) : Except Int (List Nat) := match lexsS x with
 | .error e => .error e
 | .ok L => if 65536 < (joinS L).length then .error 4 else .ok (joinS L)
theorem alone_more {y : Nd} (h : aloneN y = true) : (y.kind ≠ 9 → y.lo = 0 ∧ y.hi = 0) ∧ (y.kind = 4 ∨ y.kind = 5 → 2 ≤ y.kids.len) := by
 unfold aloneN aloneV at h
 by_cases h3 : y.kind = 3
 ·rw [if_pos h3] at h
  simp at h
  omega
 rw [if_neg h3] at h
 split at h
 ·cases h
 by_cases h9 : y.kind = 9
 ·omega
 ·rw [if_neg h9] at h
  simp only [Bool.and_eq_true, decide_eq_true_eq] at h
  refine ⟨fun _ => ⟨h.1, h.2.1⟩, fun hk => ?_⟩
  have e : arityS y.kind = 2 := by unfold arityS; rw [if_neg (by omega), if_pos hk]
  rw [e] at h
  simpa using h.2.2
theorem one_kid {x : Nd} (h : x.kids.len = 1) : ∃ z, x.kids.list = [z] ∧ x.kids.list[0]? = some z := by
 have : x.kids.list.length = 1 := by rw [Trees.len_list]; exact h
 obtain ⟨z, hz⟩ := List.length_eq_one_iff.1 this
 exact ⟨z, hz, by rw [hz]; rfl⟩
theorem ret_tree {fn : Func} {t2 t3 : Tmp} (h : fn.results = #[.cell t2 28, .cell t3 75]) {tmps : Array Value} {w : World} {g g' : Nat} {a0 a1 a2 a3 a4 a5 a6 a7 x y : Value}
  (hp : tmps.getD t2 undef = .pointer (some ⟨g, 0, none⟩)) (hp' : tmps.getD t3 undef = .pointer (some ⟨g', 0, none⟩)) (hb : Blk w g 28 #[a0, a1, a2, a3, a4, a5, a6, a7]) (hb' : Blk w g' 75 #[x, y]) :
  (results fn tmps).run Tryz.prog w = .ok (.tuple #[.agg #[a0, a1, a2, a3, a4, a5, a6, a7], .agg #[x, y]]) w := by
 have h1 := run_loadVar_row (P := Tryz.prog) w g 28 28 #[a0, a1, a2, a3, a4, a5, a6, a7] (0, 0) _ hb Tryz.underlying28 rfl (by kernel_rfl)
 have h2 := run_loadVar_row (P := Tryz.prog) w g' 75 75 #[x, y] (0, 0) _ hb' Tryz.underlying75 rfl (by kernel_rfl)
 simp only [results, h]
 simp only [Array.getD_eq_getD_getElem?] at hp hp'
 simp [Sem.run_bind, hp, hp', asAddr, h1, h2, Result.andThen]
def TreeOut (r : Except Wrong Nd) (w : World) (e : Ending) (w' : World) : Prop :=
 match r with
 | .ok x => ∃ B cap, e = .returned (.tuple #[ndV x B cap, .agg #[.int .i64 0, .int .i64 0]]) ∧ Below w.heap.size w w' ∧ x.kids.len ≤ cap ∧ TreesAt w' (fun b => w.heap.size ≤ b) x.kids B
 | .error (k, q) => e = .returned (.tuple #[zeroN, .agg #[.int .i64 k, .int .i64 q]]) ∧ Below w.heap.size w w'
theorem lexemesS_bad {L : List Lex} (h : (readyS L).1 ≠ 0) : lexemesS L = .error (readyS L) := by
 unfold readyS at h ⊢
 unfold lexemesS
 by_cases h1 : L.all rightS = false
 ·rw [if_pos h1, if_pos h1]
 ·rw [if_neg h1, if_neg h1]
  by_cases h2 : 1024 < L.length
  ·rw [dif_pos h2, dif_pos h2]
  ·rw [if_neg h1, dif_neg h2] at h
   exact absurd rfl h
theorem readyS_zero {L : List Lex} (h : (readyS L).1 = 0) : readyS L = (0, 0) ∧ L.all rightS = true ∧ L.length ≤ 1024 := by
 unfold readyS at h ⊢
 by_cases h1 : L.all rightS = false
 ·rw [if_pos h1] at h; cases h
 ·by_cases h2 : 1024 < L.length
  ·rw [if_neg h1, dif_pos h2] at h; cases h
  ·rw [if_neg h1, dif_neg h2]
   exact ⟨rfl, by simpa using h1, by omega⟩
theorem lexemesS_ok {L : List Lex} (h : L.all rightS = true) (hl : L.length ≤ 1024) : lexemesS L = match altG (3 * L.length + 3) [] [] L with
  | .error e => .error e
  | .ok (x, _) => .ok x := by
 unfold lexemesS
 rw [if_neg (by rw [h]; decide), dif_neg (by omega)]
 rfl
theorem lexemes_go (A : Option Addr) (cap : Nat) (L : List Lex) (w : World) (hA : LexsAt w w.heap.size A L) (hlen : L.length ≤ 140737488355328) (hcap : L.length ≤ cap) :
  Calls Tryz.prog 104 #[.slice A L.length cap] w (TreeOut (lexemesS L) w) := by
 have hmf : ∀ (fn : Fn) (first cap : Array Value) (w : World), (Instr.makeFunc fn first cap).run Tryz.prog w = .ok (.func fn first cap) w := fun _ _ _ _ => rfl
 have hb2 : Below w.heap.size w ((w.alloc (.cells #[.int .i64 0, .int .u64 0, .int .u64 0, .int .u64 0, .int .u64 0, .slice none 0 0, .int .i64 0, .int .i64 0] 28)).alloc (.cells #[.int .i64 0, .int .i64 0] 75)) := ((Below.refl _ _).alloc (Nat.le_refl _) _).alloc (by simp) _
 have HB2 := Lib.hid hb2
 have HG2 := Lib.hid (show Blk ((w.alloc (.cells #[.int .i64 0, .int .u64 0, .int .u64 0, .int .u64 0, .int .u64 0, .slice none 0 0, .int .i64 0, .int .i64 0] 28)).alloc (.cells #[.int .i64 0, .int .i64 0] 75)) w.heap.size 28 _ from (Blk.new w 28 #[.int .i64 0, .int .u64 0, .int .u64 0, .int .u64 0, .int .u64 0, .slice none 0 0, .int .i64 0, .int .i64 0]).alloc _)
 have HH2 := Lib.hid (show Blk ((w.alloc (.cells #[.int .i64 0, .int .u64 0, .int .u64 0, .int .u64 0, .int .u64 0, .slice none 0 0, .int .i64 0, .int .i64 0] 28)).alloc (.cells #[.int .i64 0, .int .i64 0] 75)) (w.heap.size + 1) 75 #[.int .i64 0, .int .i64 0] from Blk.new_at (by simp))
 have HA := Lib.hid hA
 have hz2 : ((w.alloc (.cells #[.int .i64 0, .int .u64 0, .int .u64 0, .int .u64 0, .int .u64 0, .slice none 0 0, .int .i64 0, .int .i64 0] 28)).alloc (.cells #[.int .i64 0, .int .i64 0] 75)).heap.size = w.heap.size + 2 := by simp
 have HRd := Lib.hid (ready_go A cap L _ ((hA.below hb2).more (by omega)) hlen)
 clear hb2 hA hz2
 go_enter_defers Tryz.func104, Tryz.ntmps104
 go_wp2_with fail
 refine HRd.out.mono ?_
 rintro e w3 ⟨rfl, hb3⟩
 have HB3 := Lib.hid (HB2.out.trans (hb3.mono HB2.out.size))
 have hG3 := HG2.out.below hb3 HG2.out.lt
 have hH3 := HH2.out.below hb3 HH2.out.lt
 have HG3 := Lib.hid hG3
 have HH3 := Lib.hid hH3
 have hne1 : w.heap.size ≠ w3.heap.size := by have := hG3.lt; omega
 have hne2 : w.heap.size + 1 ≠ w3.heap.size := by have := hH3.lt; omega
 have hlt1 : w.heap.size < w3.heap.size := hG3.lt
 have hlt2 : w.heap.size + 1 < w3.heap.size := hH3.lt
 by_cases h0 : (readyS L).1 = 0
 ·obtain ⟨h1, h2, h3⟩ := readyS_zero h0
  have HV := Lib.hid (lexemesS_ok h2 h3)
  rw [h1]
  have hb5 : Below w3.heap.size w3 ((w3.alloc (.cells #[.int .i64 0, .int .i64 0] 75)).alloc (.cells #[.slice A L.length cap, .slice none 0 0] 184)) := ((Below.refl _ _).alloc (Nat.le_refl _) _).alloc (by simp) _
  have hP5 : PAt ((w3.alloc (.cells #[.int .i64 0, .int .i64 0] 75)).alloc (.cells #[.slice A L.length cap, .slice none 0 0] 184)) (w3.heap.size + 1) (.slice none 0 0) L 0 :=
   ⟨A, cap, [], Blk.new_at (by simp), hcap, (HA.out.below (HB3.out.trans (hb5.mono HB3.out.size))).more (by omega), World.ownsRow_nil _ _ _ _⟩
  have HC := Lib.hid ((reads_go (3 * L.length + 3)).1 (w3.heap.size + 1) [] L _ (.slice none 0 0) hP5 (by omega) (by decide) (by omega))
  have HB5 := Lib.hid (HB3.out.trans (hb5.mono HB3.out.size))
  have HG5 := Lib.hid (hG3.below hb5 hlt1)
  have HH5 := Lib.hid (hH3.below hb5 hlt2)
  clear hb3 hG3 hH3 HRd HB2 HG2 HH2 h0 h1 h2 hb5 hP5 HG3 HH3
  go_wp2_with fail
  refine HC.out.mono ?_
  cases hx : altG (3 * L.length + 3) [] [] L with
  | error x =>
   obtain ⟨k, q⟩ := x
   rw [hx] at HV
   rintro e w6 ⟨rfl, hb6⟩
   have HV := Lib.hid (show lexemesS L = .error (k, q) from HV.out)
   have HB6 := Lib.hid (HB5.out.trans (hb6.mono (by omega)))
   have hG6 := HG5.out.below hb6 (by omega)
   have hH6 := HH5.out.below hb6 (by omega)
   dsimp only
   refine leaves_cons (f := 145) (args := #[.pointer (some ⟨w.heap.size, 0, none⟩), .pointer (some ⟨w.heap.size + 1, 0, none⟩)]) (by simp) (by simp [go_sem]) ?_
   refine (catch_bad w.heap.size (w.heap.size + 1) k q [] w6 hG6 hH6 (by omega)).mono ?_
   rintro e u' w7 ⟨rfl, rfl, hG7, hH7, hb7⟩
   dsimp only
   change Leaves Tryz.prog _ _ _ [] FrameMode.returning w7
   rw [HV.out]
   exact ⟨_, ret_tree Tryz.results104 rfl rfl hG7 hH7, rfl, HB6.out.trans (hb7 w.heap.size (Nat.le_refl _) (by omega))⟩
  | ok x =>
   obtain ⟨x, R⟩ := x
   rw [hx] at HV
   rintro e w6 ⟨v6, B, cap6, rfl, hP6, hS6, hc6, ht6⟩
   have HV := Lib.hid (show lexemesS L = .ok x from HV.out)
   have HB6 := Lib.hid (HB5.out.trans (hS6.1.mono (by omega)))
   have hG6 := HG5.out.below hS6.1 (by omega)
   have hH6 := HH5.out.below hS6.1 (by omega)
   have HT6 := Lib.hid (ht6.weak (Q := fun b => w3.heap.size + 2 ≤ b) (fun b hb _ => by have := hb.1; simp at this; omega))
   have y0 : w6.cell? ⟨w.heap.size, 0, none⟩ = some (.int .i64 0) := hG6.cell 0
   have y1 : w6.cell? ⟨w.heap.size, 1, none⟩ = some (.int .u64 0) := hG6.cell 1
   have y2 : w6.cell? ⟨w.heap.size, 2, none⟩ = some (.int .u64 0) := hG6.cell 2
   have y3 : w6.cell? ⟨w.heap.size, 3, none⟩ = some (.int .u64 0) := hG6.cell 3
   have y4 : w6.cell? ⟨w.heap.size, 4, none⟩ = some (.int .u64 0) := hG6.cell 4
   have y5 : w6.cell? ⟨w.heap.size, 5, none⟩ = some (.slice none 0 0) := hG6.cell 5
   have y6 : w6.cell? ⟨w.heap.size, 6, none⟩ = some (.int .i64 0) := hG6.cell 6
   have y7 : w6.cell? ⟨w.heap.size, 7, none⟩ = some (.int .i64 0) := hG6.cell 7
   have z0 := hG6.frozen 0
   have z1 := hG6.frozen 1
   have z2 := hG6.frozen 2
   have z3 := hG6.frozen 3
   have z4 := hG6.frozen 4
   have z5 := hG6.frozen 5
   have z6 := hG6.frozen 6
   have z7 := hG6.frozen 7
   obtain ⟨b0, b1, f0, f1⟩ := hH6.c2
   have HG6 := Lib.hid hG6
   have HH6 := Lib.hid hH6
   have hsz : w.heap.size + 1 ≤ w3.heap.size + 2 := by omega
   clear hP6 hS6 ht6 hG6 hH6 HC hx
   unfold ndV
   dsimp only
   go_wp2
   go_light
   have hg1 := only_put8 w6 w.heap.size (.int .i64 x.kind) (.int .u64 (word x.set.testBit 0)) (.int .u64 (word x.set.testBit 1)) (.int .u64 (word x.set.testBit 2)) (.int .u64 (word x.set.testBit 3)) (.slice B x.kids.len cap6) (.int .i64 x.lo) (.int .i64 x.hi)
   have ht7 := TreesAt.keep (Q := fun b => w3.heap.size + 2 ≤ b) (fun b o (hb : w3.heap.size + 2 ≤ b) hl => World.cell?_of_block (hg1.block b hl (by simp; omega))) (fun b hb _ => hb) HT6.out
   refine leaves_cons (f := 145) (args := #[.pointer (some ⟨w.heap.size, 0, none⟩), .pointer (some ⟨w.heap.size + 1, 0, none⟩)]) (by simp) (by simp [go_sem]) ?_
   refine (catch_idle w.heap.size (w.heap.size + 1) _).mono ?_
   rintro e u' w7 ⟨rfl, rfl, hw7⟩
   dsimp only
   change Leaves Tryz.prog _ _ _ [] FrameMode.returning w7
   rw [HV.out]
   have hg2 := only_set (only_set (only_refl ((((((((w6.setCell ⟨w.heap.size, 0, none⟩ (.int .i64 x.kind)).setCell ⟨w.heap.size, 1, none⟩ (.int .u64 (word x.set.testBit 0))).setCell ⟨w.heap.size, 2, none⟩ (.int .u64 (word x.set.testBit 1))).setCell ⟨w.heap.size, 3, none⟩ (.int .u64 (word x.set.testBit 2))).setCell ⟨w.heap.size, 4, none⟩ (.int .u64 (word x.set.testBit 3))).setCell ⟨w.heap.size, 5, none⟩ (.slice B x.kids.len cap6)).setCell ⟨w.heap.size, 6, none⟩ (.int .i64 x.lo)).setCell ⟨w.heap.size, 7, none⟩ (.int .i64 x.hi)) (some (w.heap.size + 1))) 0 (.int .i64 0)) 1 (.int .i64 0)
   have ht8 := TreesAt.keep (Q := fun b => w.heap.size ≤ b) (fun b o (hb : w3.heap.size + 2 ≤ b) hl => World.cell?_of_block (hg2.block b hl (by simp; omega))) (fun b (hb : w3.heap.size + 2 ≤ b) _ => by omega) ht7
   have hG7 := (HG6.out.put8 (.int .i64 x.kind) (.int .u64 (word x.set.testBit 0)) (.int .u64 (word x.set.testBit 1)) (.int .u64 (word x.set.testBit 2)) (.int .u64 (word x.set.testBit 3)) (.slice B x.kids.len cap6) (.int .i64 x.lo) (.int .i64 x.hi)).far2 (g' := w.heap.size + 1) (by omega) (.int .i64 0) (.int .i64 0)
   have hH7 := (HH6.out.past8 (g' := w.heap.size) (by omega) (.int .i64 x.kind) (.int .u64 (word x.set.testBit 0)) (.int .u64 (word x.set.testBit 1)) (.int .u64 (word x.set.testBit 2)) (.int .u64 (word x.set.testBit 3)) (.slice B x.kids.len cap6) (.int .i64 x.lo) (.int .i64 x.hi)).set2 (a' := .int .i64 0) (b' := .int .i64 0)
   have hb7 := below_set2 (below_put8 HB6.out (Nat.le_refl _) (.int .i64 x.kind) (.int .u64 (word x.set.testBit 0)) (.int .u64 (word x.set.testBit 1)) (.int .u64 (word x.set.testBit 2)) (.int .u64 (word x.set.testBit 3)) (.slice B x.kids.len cap6) (.int .i64 x.lo) (.int .i64 x.hi)) (Nat.le_succ w.heap.size) (.int .i64 0) (.int .i64 0)
   rw [← hw7] at ht8 hG7 hH7 hb7
   exact ⟨_, ret_tree Tryz.results104 rfl rfl hG7 hH7, B, cap6, rfl, hb7, hc6, ht8⟩
 ·have hd : ((readyS L).1 != 0) = true := by simpa using h0
  have HV := Lib.hid (lexemesS_bad h0)
  have y0 : w3.cell? ⟨w.heap.size, 0, none⟩ = some (.int .i64 0) := hG3.cell 0
  have y1 : w3.cell? ⟨w.heap.size, 1, none⟩ = some (.int .u64 0) := hG3.cell 1
  have y2 : w3.cell? ⟨w.heap.size, 2, none⟩ = some (.int .u64 0) := hG3.cell 2
  have y3 : w3.cell? ⟨w.heap.size, 3, none⟩ = some (.int .u64 0) := hG3.cell 3
  have y4 : w3.cell? ⟨w.heap.size, 4, none⟩ = some (.int .u64 0) := hG3.cell 4
  have y5 : w3.cell? ⟨w.heap.size, 5, none⟩ = some (.slice none 0 0) := hG3.cell 5
  have y6 : w3.cell? ⟨w.heap.size, 6, none⟩ = some (.int .i64 0) := hG3.cell 6
  have y7 : w3.cell? ⟨w.heap.size, 7, none⟩ = some (.int .i64 0) := hG3.cell 7
  have z0 := hG3.frozen 0
  have z1 := hG3.frozen 1
  have z2 := hG3.frozen 2
  have z3 := hG3.frozen 3
  have z4 := hG3.frozen 4
  have z5 := hG3.frozen 5
  have z6 := hG3.frozen 6
  have z7 := hG3.frozen 7
  obtain ⟨b0, b1, f0, f1⟩ := hH3.c2
  clear hb3 hG3 hH3 HRd HB2 HG2 HH2 h0
  generalize readyS L = kq at *
  obtain ⟨k, q⟩ := kq
  dsimp only at hd ⊢
  go_wp2
  go_region
  all_goals go_wp2
  all_goals go_light
  rw [HV.out]
  exact ⟨_, ret_tree Tryz.results104 rfl rfl (((HG3.out.put8 _ _ _ _ _ _ _ _).far2 (by omega) _ _).alloc _).drew (((HH3.out.past8 (by omega) _ _ _ _ _ _ _ _).set2).alloc _).drew, rfl, ((below_set2 (below_put8 HB3.out (Nat.le_refl _) _ _ _ _ _ _ _ _) (by omega) _ _).alloc (by have := HB3.out.size; simpa [World.setCell] using this) _).drew⟩
structure Ctx (N S T I b o cap : Nat) (bs : List Nat) (i : Nat) (v : Value) (L : List Lex) (W0 : World) (j : Nat) (W : World) : Prop where
 hT : W.cell? ⟨T, 0, none⟩ = some (.pointer (some ⟨S, 0, none⟩))
 hI : Blk W I 3 #[.int .i64 (j : Int)]
 hS : Spl W S b o bs.length cap i v 0 0
 hrow : W.ownsRow N 139 8 v L.length (lexCells L)
 hA : BytesAt W N (some ⟨b, o, none⟩) bs
 hB : Below N W0 W
 hNS : N ≤ S
 hNI : N ≤ I
 hTI : T ≠ I
 hSI : S ≠ I
 hcap : bs.length ≤ cap
section
variable {N S T I b o cap : Nat} {bs : List Nat} {i : Nat} {v : Value} {L : List Lex} {W0 : World} {j : Nat} {W W' : World}
theorem Ctx.drewN (h : Ctx N S T I b o cap bs i v L W0 j W) (n : Nat) : Ctx N S T I b o cap bs i v L W0 j (W.drewN n) :=
 ⟨h.hT, h.hI, h.hS, h.hrow, h.hA, bel_drewN h.hB n, h.hNS, h.hNI, h.hTI, h.hSI, h.hcap⟩
theorem Ctx.below (h : Ctx N S T I b o cap bs i v L W0 j W) (hb : Below W.heap.size W W') : Ctx N S T I b o cap bs i v L W0 j W' :=
  ⟨(hb.cell (p := ⟨T, 0, none⟩) (World.block_lt_of_cell? W _ h.hT)).trans h.hT, h.hI.below hb h.hI.lt, Blk.below h.hS hb (Blk.lt h.hS), own_below h.hrow hb, h.hA.below (hb.mono (Nat.le_of_lt (Nat.lt_of_le_of_lt h.hNS (Blk.lt h.hS)))),
    h.hB.trans (hb.mono (Nat.le_of_lt (Nat.lt_of_le_of_lt h.hNS (Blk.lt h.hS)))), h.hNS, h.hNI, h.hTI, h.hSI, h.hcap⟩
theorem Ctx.set_ (h : Ctx N S T I b o cap bs i v L W0 j W) (m : Nat) : Ctx N S T I b o cap bs i v L W0 m (W.setCell ⟨I, 0, none⟩ (.int .i64 (m : Int))) :=
  ⟨(World.cell?_setCell_other W _ _ _ (fun e => h.hTI (by simpa using (congrArg Addr.block e).symm))).trans h.hT, h.hI.set_ 0 _, Blk.far h.hS (p := ⟨I, 0, none⟩) h.hSI _, own_set h.hrow (blk_not_row h.hI (by decide) h.hrow),
    h.hA.below ((Below.refl N W).setCell (p := ⟨I, 0, none⟩) h.hNI _), h.hB.setCell (p := ⟨I, 0, none⟩) h.hNI _, h.hNS, h.hNI, h.hTI, h.hSI, h.hcap⟩
theorem Ctx.facts (h : Ctx N S T I b o cap bs i v L W0 j W) : W.cell? ⟨T, 0, none⟩ = some (.pointer (some ⟨S, 0, none⟩)) ∧ W.cell? ⟨I, 0, none⟩ = some (.int .i64 (j : Int)) ∧ W.cell? ⟨S, 0, none⟩ = some (.slice (some ⟨b, o, none⟩) bs.length cap) ∧ W.frozen? ⟨I, 0, none⟩ = false ∧
  T < W.heap.size ∧ I < W.heap.size ∧ S < W.heap.size ∧ N ≤ W.heap.size :=
 ⟨h.hT, h.hI.cell 0, (Spl.cells h.hS).1, h.hI.frozen 0, World.block_lt_of_cell? W _ h.hT, h.hI.lt, Blk.lt h.hS, Nat.le_of_lt (Nat.lt_of_le_of_lt h.hNS (Blk.lt h.hS))⟩
end
def Kept (N S T I b o cap : Nat) (bs : List Nat) (i : Nat) (u : Value) (L : List Lex) (W0 : World) (j : Nat) (v : Value) (e : Ending) (W' : World) : Prop := e = .returned v ∧ Ctx N S T I b o cap bs i u L W0 j W'
theorem here_yes {N S T I b o cap : Nat} {bs : List Nat} {i : Nat} {v : Value} {L : List Lex} {W0 : World} {j : Nat} {W : World} (h : Ctx N S T I b o cap bs i v L W0 j W) (c : Nat) (hj : j < bs.length) :
  Calls Tryz.prog 230 #[.int .u8 (c : Int), .pointer (some ⟨I, 0, none⟩), .pointer (some ⟨T, 0, none⟩)] W (Kept N S T I b o cap bs i v L W0 j (.bool (hasAt bs j c))) := by
 obtain ⟨c0, c1, c2, f1, l0, l1, l2, _⟩ := h.facts
 have hcell := bytesAt_cells h.hA j hj
 have hl := h.hA.2.1
 have HK := Lib.hid h
 have Hh := Lib.hid (hasAt_in c hj)
 clear h
 generalize byteAt bs j = d at *
 have hd : decide (j < bs.length) = true := by simp; omega
 have hd2 : (j : Int) < (bs.length : Int) := by omega
 go_enter Tryz.func230, Tryz.ntmps230
 go_wp2
 go_quiet (fail)
 go_wp2
 go_light
 go_ret
 refine ⟨ret_b ?_, HK.out.drewN _⟩
 rw [Hh.out]
 rw [Bool.eq_iff_iff]
 simp
 omega
theorem here_end {N S T I b o cap : Nat} {bs : List Nat} {i : Nat} {v : Value} {L : List Lex} {W0 : World} {j : Nat} {W : World} (h : Ctx N S T I b o cap bs i v L W0 j W) (c : Nat) (hj : bs.length ≤ j) :
  Calls Tryz.prog 230 #[.int .u8 (c : Int), .pointer (some ⟨I, 0, none⟩), .pointer (some ⟨T, 0, none⟩)] W (Kept N S T I b o cap bs i v L W0 j (.bool (hasAt bs j c))) := by
 obtain ⟨c0, c1, c2, f1, l0, l1, l2, _⟩ := h.facts
 have hl := h.hA.2.1
 have HK := Lib.hid h
 have Hh := Lib.hid (hasAt_out (bs := bs) (i := (j : Int)) c (by omega))
 clear h
 have hd : decide (j < bs.length) = false := by simp; omega
 go_enter Tryz.func230, Tryz.ntmps230
 go_wp2
 go_quiet (fail)
 go_wp2
 go_light
 go_ret
 exact ⟨ret_b (by rw [Hh.out]), HK.out.drewN _⟩
theorem sphere_go {N S T I b o cap : Nat} {bs : List Nat} {i : Nat} {v : Value} {L : List Lex} {W0 : World} {j : Nat} {W : World} (h : Ctx N S T I b o cap bs i v L W0 j W) (c : Nat) :
  Calls Tryz.prog 230 #[.int .u8 (c : Int), .pointer (some ⟨I, 0, none⟩), .pointer (some ⟨T, 0, none⟩)] W (Kept N S T I b o cap bs i v L W0 j (.bool (hasAt bs j c))) := by
 rcases Nat.lt_or_ge j bs.length with hj | hj
 ·exact here_yes h c hj
 ·exact here_end h c hj
theorem num_yes {N S T I b o cap : Nat} {bs : List Nat} {i : Nat} {v : Value} {L : List Lex} {W0 : World} {j : Nat} {W : World} (h : Ctx N S T I b o cap bs i v L W0 j W) (hj : j ≤ bs.length) {n m : Nat} (ht : takeS bs j = some (n, m)) :
  Calls Tryz.prog 228 #[.pointer (some ⟨T, 0, none⟩), .pointer (some ⟨I, 0, none⟩)] W (Kept N S T I b o cap bs i v L W0 m (.tuple #[.int .i64 (n : Int), .bool true])) := by
 have Hv := Lib.hid (show takeVal bs j = .tuple #[.int .i64 (n : Int), .int .i64 (m : Int), .int .i64 0] by unfold takeVal; rw [ht])
 clear ht
 obtain ⟨c0, c1, c2, f1, l0, l1, l2, l3⟩ := h.facts
 have hl := h.hA.2.1
 have HK := Lib.hid h
 have HE := Lib.hid (fun w hA => take_at b o cap bs j w hA h.hcap hj)
 clear h
 go_enter Tryz.func228, Tryz.ntmps228
 go_wp2_with fail
 go_region_held3 (fun w' => (∀ b o, b < W.heap.size → w'.cell? ⟨b, o, none⟩ = W.cell? ⟨b, o, none⟩) ∧ Since W.heap.size W w') (first | (with_reducible exact HK2.out) | (with_reducible exact since_start (Nat.le_refl _)))
  (first | (go_at_call 229; refine (HE.out _ (bytes_since (by assumption) HK.out.hA l3)).mono ?_; rintro e w' ⟨rfl, hb'⟩; rw [Hv.out]; have hK := since_step (by assumption) hb'; have HK2 := Lib.hid hK; clear hK))
 have HC := Lib.hid (HK.out.below HK2.out.2.1)
 obtain ⟨k0, k1, k2, g1, _, _, _, _⟩ := HC.out.facts
 go_wp2
 go_light
 go_ret2
 exact ⟨rfl, HC.out.set_ m⟩
theorem num_no {N S T I b o cap : Nat} {bs : List Nat} {i : Nat} {v : Value} {L : List Lex} {W0 : World} {j : Nat} {W : World} (h : Ctx N S T I b o cap bs i v L W0 j W) (hj : j ≤ bs.length) (ht : takeS bs j = none) :
  Calls Tryz.prog 228 #[.pointer (some ⟨T, 0, none⟩), .pointer (some ⟨I, 0, none⟩)] W (Kept N S T I b o cap bs i v L W0 j (.tuple #[.int .i64 0, .bool false])) := by
 have Hv := Lib.hid (show takeVal bs j = .tuple #[.int .i64 0, .int .i64 0, .int .i64 (takeErr bs j)] by unfold takeVal; rw [ht])
 have hk := takeErr_pos bs j
 generalize takeErr bs j = k at *
 have hk0 : (k != 0) = true := by rw [bne_iff_ne]; omega
 clear ht hk
 obtain ⟨c0, c1, c2, f1, l0, l1, l2, l3⟩ := h.facts
 have hl := h.hA.2.1
 have HK := Lib.hid h
 have HE := Lib.hid (fun w hA => take_at b o cap bs j w hA h.hcap hj)
 clear h
 go_enter Tryz.func228, Tryz.ntmps228
 go_wp2_with fail
 go_region_held3 (fun w' => (∀ b o, b < W.heap.size → w'.cell? ⟨b, o, none⟩ = W.cell? ⟨b, o, none⟩) ∧ Since W.heap.size W w') (first | (with_reducible exact HK2.out) | (with_reducible exact since_start (Nat.le_refl _)))
  (first | (go_at_call 229; refine (HE.out _ (bytes_since (by assumption) HK.out.hA l3)).mono ?_; rintro e w' ⟨rfl, hb'⟩; rw [Hv.out]; have hK := since_step (by assumption) hb'; have HK2 := Lib.hid hK; clear hK))
 have HC := Lib.hid (HK.out.below HK2.out.2.1)
 obtain ⟨k0, k1, k2, g1, _, _, _, _⟩ := HC.out.facts
 go_wp2
 go_light
 go_ret2
 exact ⟨rfl, HC.out⟩
theorem lexCells_len (L : List Lex) : (lexCells L).length = L.length * 8 := by
 induction L with
 | nil => rfl
 | cons x L ih =>
  have e : lexCells (x :: L) = lexCell x ++ lexCells L := by simp [lexCells]
  rw [e, List.length_append, ih, List.length_cons]
  have : (lexCell x).length = 8 := rfl
  omega
theorem lexCells_one (L : List Lex) : ∀ u ∈ lexCells L, u.oneCell' = true := by
 intro u hu
 obtain ⟨x, _, hx⟩ := List.mem_flatMap.1 hu
 simp only [lexCell, List.mem_cons, List.not_mem_nil, or_false] at hx
 rcases hx with rfl | rfl | rfl | rfl | rfl | rfl | rfl | rfl <;> rfl
theorem lexCells_app (L M : List Lex) : lexCells (L ++ M) = lexCells L ++ lexCells M := by simp [lexCells]
theorem append_lexs (w : World) (base base2 : Nat) (v v2 : Value) (L M : List Lex) (hown : w.ownsRow base 139 8 v L.length (lexCells L)) (h2 : w.ownsRow base2 139 8 v2 M.length (lexCells M)) (hs : L.length + M.length ≤ 100000000) (hbase : base ≤ w.heap.size) :
  ∃ v' w', (Builtin.append_ #[134, 134] 134 #[v, v2]).run Tryz.prog w = .ok v' w' ∧ w'.ownsRow base 139 8 v' (L ++ M).length (lexCells (L ++ M)) ∧ w.grownBy w' v.ownBlock := by
 obtain ⟨i0, hir, hz0, hz1, hz2⟩ := info_parts info_lex
 have h63 : L.length + M.length ≤ maxLen := Nat.le_trans hs (by decide)
 have hby : (L.length + M.length) * 64 ≤ 140737488355328 := by omega
 rw [List.length_append, lexCells_app]
 have h2' := h2
 rcases h2.2 with ⟨rfl, h0⟩ | ⟨g2, cap2, cur2, rfl, _⟩
 ·have : M = [] := List.length_eq_zero_iff.1 h0
  subst this
  refine ⟨v, w, ?_, by simpa [lexCells] using hown, ⟨rfl, rfl, rfl, Nat.le_refl _, fun _ _ _ => rfl⟩⟩
  rcases hown.2 with ⟨rfl, h1⟩ | ⟨g, cap, cur, rfl, _, _, hnc, _⟩
  ·have : L = [] := List.length_eq_zero_iff.1 h1
   subst this
   simp [Builtin.append_, run_underlying Tryz.underlying134, sizeOf, typeInfo, hir, Builtin.lenOf, Builtin.firstCells]
  ·simp [Builtin.append_, run_underlying Tryz.underlying134, sizeOf, typeInfo, hir, Builtin.lenOf, Builtin.firstCells, hnc, storeCells]
 ·obtain ⟨v', w', h1, h3, h4, _⟩ := run_append_own_at (P := Tryz.prog) w base 134 134 139 i0 _ 8 64 Tryz.underlying134 hir hz0 hz1 hz2 rfl (by decide) v L.length (lexCells L) hown ⟨g2, 0, none⟩ M.length cap2 (lexCells M) (lexCells_len M) (fun j u h => h2'.cells (g := g2) rfl j u h) (lexCells_one M) h63 hby hbase
  exact ⟨v', w', h1, h3, h4⟩
def RowOut (L : List Lex) (w : World) (e : Ending) (w' : World) : Prop := ∃ v, e = .returned v ∧ Below w.heap.size w w' ∧ w'.ownsRow w.heap.size 139 8 v L.length (lexCells L)
theorem wp_append_by {o : Oper} {a : Act} {w : World} {K : Act → World → Prop} {Q : Exit → Act → World → Prop} (sl x : Operand) (t u : TypeId)
  (ho : o.op = .call { callee := .builtin .append, args := #[sl, x], argTypes := #[t, u] }) (v1 v2 v' : Value) (w' : World) (hs : a.eval sl = v1) (hx : a.eval x = v2)
  (hr : (Builtin.append_ #[t, u] o.type #[v1, v2]).run Tryz.prog w = .ok v' w')
  (h : K (a.put o.dst v') w') : o.wp Tryz.prog a w K Q := by
 unfold Oper.wp execOp
 simp only [ho, resolve, invoke, builtin, Sem.run_bind, Sem.run_pure, Result.andThen_ok, List.map_toArray, List.map_cons, List.map_nil, hs, hx, hr]
 exact h
theorem grown_since {w w1 w2 : World} {v : Value} {n : Nat} {xs : List Value} (h : Below w.heap.size w w1) (hown : w1.ownsRow w.heap.size 139 8 v n xs) (hg : w1.grownBy w2 v.ownBlock) : Below w.heap.size w w2 :=
 below_grown h hg hown (Nat.le_refl _) h.size
theorem row_new (w : World) (x : Lex) : (w.alloc (.cells (lexCell x).toArray 139)).ownsRow w.heap.size 139 8 (.slice (some ⟨w.heap.size, 0, none⟩) 1 1) [x].length (lexCells [x]) := by
 have e : lexCells [x] = lexCell x := by simp [lexCells]
 rw [e]
 exact ⟨rfl, .inr ⟨w.heap.size, 1, (lexCell x).toArray, rfl, Nat.le_refl _, heap_alloc_new w _, Nat.le_refl _, (by decide), rfl, rfl⟩⟩
theorem lex_go (k : Int) (w : World) : Calls Tryz.prog 241 #[.int .i64 k] w (RowOut [lexK k] w) := by
 have HR := Lib.hid (row_new w (lexK k))
 have HB := Lib.hid ((Below.refl w.heap.size w).alloc (Nat.le_refl _) (.cells (lexCell (lexK k)).toArray 139))
 go_enter Tryz.func241, Tryz.ntmps241
 go_wp2
 go_light
 go_ret
 exact ⟨_, rfl, HB.out, HR.out⟩
def RWriteC (x : Nd) : Prop := ∀ (P : Nat → Prop) (B : Option Addr) (cap : Nat) (w : World), TreesAt w P x.kids B → x.write.length ≤ 40000000 →
 Calls Tryz.prog 176 #[ndV x B cap] w (RowOut x.write w)
theorem rkid_a (p : Int) (z : Nd) (C : Option Addr) (cap : Nat) (P : Nat → Prop) (w : World) (ht : TreesAt w P z.kids C) (hW : RWriteC z) (hl : z.write.length ≤ 40000000) (hk : z.kind = 5) : Calls Tryz.prog 213 #[ndV z C cap, .int .i64 p] w (RowOut (lexK 2 :: (z.write ++ [lexK 3])) w) := by
 have HI := Lib.hid (hW P C cap (w.alloc (.cells #[.int .i64 z.kind, .int .u64 (word z.set.testBit 0), .int .u64 (word z.set.testBit 1), .int .u64 (word z.set.testBit 2), .int .u64 (word z.set.testBit 3), .slice C z.kids.len cap, .int .i64 z.lo, .int .i64 z.hi] 28)) (ht.below ((Below.refl _ _).alloc (Nat.le_refl _) _)) hl)
 have HX := Lib.hid (Blk.new w 28 #[.int .i64 z.kind, .int .u64 (word z.set.testBit 0), .int .u64 (word z.set.testBit 1), .int .u64 (word z.set.testBit 2), .int .u64 (word z.set.testBit 3), .slice C z.kids.len cap, .int .i64 z.lo, .int .i64 z.hi])
 have HB := Lib.hid ((Below.refl w.heap.size w).alloc (Nat.le_refl _) (.cells #[.int .i64 z.kind, .int .u64 (word z.set.testBit 0), .int .u64 (word z.set.testBit 1), .int .u64 (word z.set.testBit 2), .int .u64 (word z.set.testBit 3), .slice C z.kids.len cap, .int .i64 z.lo, .int .i64 z.hi] 28))
 unfold ndV at HI ⊢
 clear ht hW
 rw [hk] at *
 go_enter Tryz.func213, Tryz.ntmps213
 go_wp2_with fail
 refine HI.out.mono ?_
 rintro e w2 ⟨v2, rfl, hb2, ho2⟩
 have hX := HX.out.below hb2 HX.out.lt
 have n0 := hX.cell 0
 have hlx := hX.lt
 simp only [List.getElem?_toArray, List.getElem?_cons_zero, List.getElem?_cons_succ] at n0
 have HB2 := Lib.hid (HB.out.trans (hb2.mono HB.out.size))
 have HO2 := Lib.hid (ho2.mono (base' := w.heap.size) (by simp))
 clear hb2 ho2 HI HX HB hX
 dsimp only
 have HL := Lib.hid (lex_go 2 w2)
 go_wp2_with fail
 refine HL.out.mono ?_
 rintro e w3 ⟨v3, rfl, hb3, ho3⟩
 have HB3 := Lib.hid (HB2.out.trans (hb3.mono HB2.out.size))
 have HO3 := Lib.hid (ho3.mono (base' := w.heap.size) HB2.out.size)
 have HO2' := Lib.hid (own_below HO2.out hb3)
 obtain ⟨v4, w4, hr4, ho4, hg4⟩ := append_lexs w3 w.heap.size w.heap.size v3 v2 [lexK 2] z.write HO3.out HO2'.out (by simp; omega) HB3.out.size
 have HR4 := Lib.hid hr4
 have HO4 := Lib.hid ho4
 have HB4 := Lib.hid (grown_since HB3.out HO3.out hg4)
 have HL5 := Lib.hid (show w4.heap.size + 1 = (w4.alloc (.cells (lexCell (lexK 3)).toArray 139)).heap.size by simp)
 obtain ⟨v6, w6, hr6, ho6, hg6⟩ := append_lexs (w4.alloc (.cells (lexCell (lexK 3)).toArray 139)) w.heap.size w4.heap.size v4 (.slice (some ⟨w4.heap.size, 0, none⟩) 1 1) ([lexK 2] ++ z.write) [lexK 3] (HO4.out.alloc _) (row_new w4 (lexK 3)) (by simp; omega) (by rw [World.size_alloc]; have := HB4.out.size; omega)
 have HR6 := Lib.hid hr6
 have HQ6 := Lib.hid (show _ ∧ _ from ⟨ho6, grown_since (HB4.out.alloc HB4.out.size _) (HO4.out.alloc _) hg6⟩)
 clear hb3 ho3 hr4 ho4 hg4 hr6 ho6 hg6 HL n0 hlx
 dsimp only
 go_wp2_with (at_builtin; first | (refine wpList_append_by (by rfl) _ _ _ _ rfl _ _ _ _ rfl rfl HR4.out ?_) | (refine wpList_append_by (by rfl) _ _ _ _ rfl _ _ _ _ rfl rfl HR6.out ?_))
 go_light
 go_ret
 have e6 : (lexK 2 :: (z.write ++ [lexK 3])) = [lexK 2] ++ z.write ++ [lexK 3] := by simp
 rw [e6]
 exact ⟨_, rfl, HQ6.out.2, HQ6.out.1⟩
theorem rkid_b (p : Int) (z : Nd) (C : Option Addr) (cap : Nat) (P : Nat → Prop) (w : World) (ht : TreesAt w P z.kids C) (hW : RWriteC z) (hl : z.write.length ≤ 40000000) (hk : z.kind = 4) (hp : (p != 5) = true) : Calls Tryz.prog 213 #[ndV z C cap, .int .i64 p] w (RowOut (lexK 2 :: (z.write ++ [lexK 3])) w) := by
 have HI := Lib.hid (hW P C cap (w.alloc (.cells #[.int .i64 z.kind, .int .u64 (word z.set.testBit 0), .int .u64 (word z.set.testBit 1), .int .u64 (word z.set.testBit 2), .int .u64 (word z.set.testBit 3), .slice C z.kids.len cap, .int .i64 z.lo, .int .i64 z.hi] 28)) (ht.below ((Below.refl _ _).alloc (Nat.le_refl _) _)) hl)
 have HX := Lib.hid (Blk.new w 28 #[.int .i64 z.kind, .int .u64 (word z.set.testBit 0), .int .u64 (word z.set.testBit 1), .int .u64 (word z.set.testBit 2), .int .u64 (word z.set.testBit 3), .slice C z.kids.len cap, .int .i64 z.lo, .int .i64 z.hi])
 have HB := Lib.hid ((Below.refl w.heap.size w).alloc (Nat.le_refl _) (.cells #[.int .i64 z.kind, .int .u64 (word z.set.testBit 0), .int .u64 (word z.set.testBit 1), .int .u64 (word z.set.testBit 2), .int .u64 (word z.set.testBit 3), .slice C z.kids.len cap, .int .i64 z.lo, .int .i64 z.hi] 28))
 unfold ndV at HI ⊢
 clear ht hW
 rw [hk] at *
 go_enter Tryz.func213, Tryz.ntmps213
 go_wp2_with fail
 refine HI.out.mono ?_
 rintro e w2 ⟨v2, rfl, hb2, ho2⟩
 have hX := HX.out.below hb2 HX.out.lt
 have n0 := hX.cell 0
 have hlx := hX.lt
 simp only [List.getElem?_toArray, List.getElem?_cons_zero, List.getElem?_cons_succ] at n0
 have HB2 := Lib.hid (HB.out.trans (hb2.mono HB.out.size))
 have HO2 := Lib.hid (ho2.mono (base' := w.heap.size) (by simp))
 clear hb2 ho2 HI HX HB hX
 dsimp only
 have HL := Lib.hid (lex_go 2 w2)
 go_wp2_with fail
 refine HL.out.mono ?_
 rintro e w3 ⟨v3, rfl, hb3, ho3⟩
 have HB3 := Lib.hid (HB2.out.trans (hb3.mono HB2.out.size))
 have HO3 := Lib.hid (ho3.mono (base' := w.heap.size) HB2.out.size)
 have HO2' := Lib.hid (own_below HO2.out hb3)
 obtain ⟨v4, w4, hr4, ho4, hg4⟩ := append_lexs w3 w.heap.size w.heap.size v3 v2 [lexK 2] z.write HO3.out HO2'.out (by simp; omega) HB3.out.size
 have HR4 := Lib.hid hr4
 have HO4 := Lib.hid ho4
 have HB4 := Lib.hid (grown_since HB3.out HO3.out hg4)
 have HL5 := Lib.hid (show w4.heap.size + 1 = (w4.alloc (.cells (lexCell (lexK 3)).toArray 139)).heap.size by simp)
 obtain ⟨v6, w6, hr6, ho6, hg6⟩ := append_lexs (w4.alloc (.cells (lexCell (lexK 3)).toArray 139)) w.heap.size w4.heap.size v4 (.slice (some ⟨w4.heap.size, 0, none⟩) 1 1) ([lexK 2] ++ z.write) [lexK 3] (HO4.out.alloc _) (row_new w4 (lexK 3)) (by simp; omega) (by rw [World.size_alloc]; have := HB4.out.size; omega)
 have HR6 := Lib.hid hr6
 have HQ6 := Lib.hid (show _ ∧ _ from ⟨ho6, grown_since (HB4.out.alloc HB4.out.size _) (HO4.out.alloc _) hg6⟩)
 clear hb3 ho3 hr4 ho4 hg4 hr6 ho6 hg6 HL n0 hlx
 dsimp only
 go_wp2_with (at_builtin; first | (refine wpList_append_by (by rfl) _ _ _ _ rfl _ _ _ _ rfl rfl HR4.out ?_) | (refine wpList_append_by (by rfl) _ _ _ _ rfl _ _ _ _ rfl rfl HR6.out ?_))
 go_light
 go_ret
 have e6 : (lexK 2 :: (z.write ++ [lexK 3])) = [lexK 2] ++ z.write ++ [lexK 3] := by simp
 rw [e6]
 exact ⟨_, rfl, HQ6.out.2, HQ6.out.1⟩
theorem rkid_c (p : Int) (z : Nd) (C : Option Addr) (cap : Nat) (P : Nat → Prop) (w : World) (ht : TreesAt w P z.kids C) (hW : RWriteC z) (hl : z.write.length ≤ 40000000) (hk : z.kind = 2) (hp : (p != 5) = true) : Calls Tryz.prog 213 #[ndV z C cap, .int .i64 p] w (RowOut (lexK 2 :: (z.write ++ [lexK 3])) w) := by
 have HI := Lib.hid (hW P C cap (w.alloc (.cells #[.int .i64 z.kind, .int .u64 (word z.set.testBit 0), .int .u64 (word z.set.testBit 1), .int .u64 (word z.set.testBit 2), .int .u64 (word z.set.testBit 3), .slice C z.kids.len cap, .int .i64 z.lo, .int .i64 z.hi] 28)) (ht.below ((Below.refl _ _).alloc (Nat.le_refl _) _)) hl)
 have HX := Lib.hid (Blk.new w 28 #[.int .i64 z.kind, .int .u64 (word z.set.testBit 0), .int .u64 (word z.set.testBit 1), .int .u64 (word z.set.testBit 2), .int .u64 (word z.set.testBit 3), .slice C z.kids.len cap, .int .i64 z.lo, .int .i64 z.hi])
 have HB := Lib.hid ((Below.refl w.heap.size w).alloc (Nat.le_refl _) (.cells #[.int .i64 z.kind, .int .u64 (word z.set.testBit 0), .int .u64 (word z.set.testBit 1), .int .u64 (word z.set.testBit 2), .int .u64 (word z.set.testBit 3), .slice C z.kids.len cap, .int .i64 z.lo, .int .i64 z.hi] 28))
 unfold ndV at HI ⊢
 clear ht hW
 rw [hk] at *
 go_enter Tryz.func213, Tryz.ntmps213
 go_wp2_with fail
 refine HI.out.mono ?_
 rintro e w2 ⟨v2, rfl, hb2, ho2⟩
 have hX := HX.out.below hb2 HX.out.lt
 have n0 := hX.cell 0
 have hlx := hX.lt
 simp only [List.getElem?_toArray, List.getElem?_cons_zero, List.getElem?_cons_succ] at n0
 have HB2 := Lib.hid (HB.out.trans (hb2.mono HB.out.size))
 have HO2 := Lib.hid (ho2.mono (base' := w.heap.size) (by simp))
 clear hb2 ho2 HI HX HB hX
 dsimp only
 have HL := Lib.hid (lex_go 2 w2)
 go_wp2_with fail
 refine HL.out.mono ?_
 rintro e w3 ⟨v3, rfl, hb3, ho3⟩
 have HB3 := Lib.hid (HB2.out.trans (hb3.mono HB2.out.size))
 have HO3 := Lib.hid (ho3.mono (base' := w.heap.size) HB2.out.size)
 have HO2' := Lib.hid (own_below HO2.out hb3)
 obtain ⟨v4, w4, hr4, ho4, hg4⟩ := append_lexs w3 w.heap.size w.heap.size v3 v2 [lexK 2] z.write HO3.out HO2'.out (by simp; omega) HB3.out.size
 have HR4 := Lib.hid hr4
 have HO4 := Lib.hid ho4
 have HB4 := Lib.hid (grown_since HB3.out HO3.out hg4)
 have HL5 := Lib.hid (show w4.heap.size + 1 = (w4.alloc (.cells (lexCell (lexK 3)).toArray 139)).heap.size by simp)
 obtain ⟨v6, w6, hr6, ho6, hg6⟩ := append_lexs (w4.alloc (.cells (lexCell (lexK 3)).toArray 139)) w.heap.size w4.heap.size v4 (.slice (some ⟨w4.heap.size, 0, none⟩) 1 1) ([lexK 2] ++ z.write) [lexK 3] (HO4.out.alloc _) (row_new w4 (lexK 3)) (by simp; omega) (by rw [World.size_alloc]; have := HB4.out.size; omega)
 have HR6 := Lib.hid hr6
 have HQ6 := Lib.hid (show _ ∧ _ from ⟨ho6, grown_since (HB4.out.alloc HB4.out.size _) (HO4.out.alloc _) hg6⟩)
 clear hb3 ho3 hr4 ho4 hg4 hr6 ho6 hg6 HL n0 hlx
 dsimp only
 go_wp2_with (at_builtin; first | (refine wpList_append_by (by rfl) _ _ _ _ rfl _ _ _ _ rfl rfl HR4.out ?_) | (refine wpList_append_by (by rfl) _ _ _ _ rfl _ _ _ _ rfl rfl HR6.out ?_))
 go_light
 go_ret
 have e6 : (lexK 2 :: (z.write ++ [lexK 3])) = [lexK 2] ++ z.write ++ [lexK 3] := by simp
 rw [e6]
 exact ⟨_, rfl, HQ6.out.2, HQ6.out.1⟩
theorem rkid_d (p : Int) (z : Nd) (C : Option Addr) (cap : Nat) (P : Nat → Prop) (w : World) (ht : TreesAt w P z.kids C) (hW : RWriteC z) (hl : z.write.length ≤ 40000000) (hk : (z.kind == 5) = false) (hp : (p != 5) = false) : Calls Tryz.prog 213 #[ndV z C cap, .int .i64 p] w (RowOut z.write w) := by
 have HI := Lib.hid (hW P C cap (w.alloc (.cells #[.int .i64 z.kind, .int .u64 (word z.set.testBit 0), .int .u64 (word z.set.testBit 1), .int .u64 (word z.set.testBit 2), .int .u64 (word z.set.testBit 3), .slice C z.kids.len cap, .int .i64 z.lo, .int .i64 z.hi] 28)) (ht.below ((Below.refl _ _).alloc (Nat.le_refl _) _)) hl)
 have HX := Lib.hid (Blk.new w 28 #[.int .i64 z.kind, .int .u64 (word z.set.testBit 0), .int .u64 (word z.set.testBit 1), .int .u64 (word z.set.testBit 2), .int .u64 (word z.set.testBit 3), .slice C z.kids.len cap, .int .i64 z.lo, .int .i64 z.hi])
 have HB := Lib.hid ((Below.refl w.heap.size w).alloc (Nat.le_refl _) (.cells #[.int .i64 z.kind, .int .u64 (word z.set.testBit 0), .int .u64 (word z.set.testBit 1), .int .u64 (word z.set.testBit 2), .int .u64 (word z.set.testBit 3), .slice C z.kids.len cap, .int .i64 z.lo, .int .i64 z.hi] 28))
 unfold ndV at HI ⊢
 clear ht hW
 skip
 go_enter Tryz.func213, Tryz.ntmps213
 go_wp2_with fail
 refine HI.out.mono ?_
 rintro e w2 ⟨v2, rfl, hb2, ho2⟩
 have hX := HX.out.below hb2 HX.out.lt
 have n0 := hX.cell 0
 have hlx := hX.lt
 simp only [List.getElem?_toArray, List.getElem?_cons_zero, List.getElem?_cons_succ] at n0
 have HB2 := Lib.hid (HB.out.trans (hb2.mono HB.out.size))
 have HO2 := Lib.hid (ho2.mono (base' := w.heap.size) (by simp))
 clear hb2 ho2 HI HX HB hX
 dsimp only
 go_wp2
 go_light
 go_ret
 exact ⟨_, rfl, HB2.out, HO2.out⟩
theorem rkid_e (p : Int) (z : Nd) (C : Option Addr) (cap : Nat) (P : Nat → Prop) (w : World) (ht : TreesAt w P z.kids C) (hW : RWriteC z) (hl : z.write.length ≤ 40000000) (hk : (z.kind == 5) = false) (hk4 : (z.kind == 4) = false) (hk2 : (z.kind == 2) = false) (hp : (p != 5) = true) : Calls Tryz.prog 213 #[ndV z C cap, .int .i64 p] w (RowOut z.write w) := by
 have HI := Lib.hid (hW P C cap (w.alloc (.cells #[.int .i64 z.kind, .int .u64 (word z.set.testBit 0), .int .u64 (word z.set.testBit 1), .int .u64 (word z.set.testBit 2), .int .u64 (word z.set.testBit 3), .slice C z.kids.len cap, .int .i64 z.lo, .int .i64 z.hi] 28)) (ht.below ((Below.refl _ _).alloc (Nat.le_refl _) _)) hl)
 have HX := Lib.hid (Blk.new w 28 #[.int .i64 z.kind, .int .u64 (word z.set.testBit 0), .int .u64 (word z.set.testBit 1), .int .u64 (word z.set.testBit 2), .int .u64 (word z.set.testBit 3), .slice C z.kids.len cap, .int .i64 z.lo, .int .i64 z.hi])
 have HB := Lib.hid ((Below.refl w.heap.size w).alloc (Nat.le_refl _) (.cells #[.int .i64 z.kind, .int .u64 (word z.set.testBit 0), .int .u64 (word z.set.testBit 1), .int .u64 (word z.set.testBit 2), .int .u64 (word z.set.testBit 3), .slice C z.kids.len cap, .int .i64 z.lo, .int .i64 z.hi] 28))
 unfold ndV at HI ⊢
 clear ht hW
 skip
 go_enter Tryz.func213, Tryz.ntmps213
 go_wp2_with fail
 refine HI.out.mono ?_
 rintro e w2 ⟨v2, rfl, hb2, ho2⟩
 have hX := HX.out.below hb2 HX.out.lt
 have n0 := hX.cell 0
 have hlx := hX.lt
 simp only [List.getElem?_toArray, List.getElem?_cons_zero, List.getElem?_cons_succ] at n0
 have HB2 := Lib.hid (HB.out.trans (hb2.mono HB.out.size))
 have HO2 := Lib.hid (ho2.mono (base' := w.heap.size) (by simp))
 clear hb2 ho2 HI HX HB hX
 dsimp only
 go_wp2
 go_light
 go_ret
 exact ⟨_, rfl, HB2.out, HO2.out⟩
theorem beqF {a b : Int} (h : a ≠ b) : (a == b) = false := by simpa using h
theorem bneT {a b : Int} (h : a ≠ b) : (a != b) = true := by simpa using h
theorem rkid_go (p : Int) (z : Nd) (C : Option Addr) (cap : Nat) (P : Nat → Prop) (w : World) (ht : TreesAt w P z.kids C) (hW : RWriteC z) (hl : z.write.length ≤ 40000000) : Calls Tryz.prog 213 #[ndV z C cap, .int .i64 p] w (RowOut (kidS p (z.kind, z.write)) w) := by
 unfold kidS brS
 by_cases h5 : z.kind = 5
 ·rw [if_pos (by simp [h5])]
  exact rkid_a p z C cap P w ht hW hl h5
 by_cases hp : p = 5
 ·rw [if_neg (by simp [h5, hp])]
  exact rkid_d p z C cap P w ht hW hl (beqF h5) (by simp [hp])
 by_cases h4 : z.kind = 4
 ·rw [if_pos (by simp [h4, hp])]
  exact rkid_b p z C cap P w ht hW hl h4 (bneT hp)
 by_cases h2 : z.kind = 2
 ·rw [if_pos (by simp [h2, hp])]
  exact rkid_c p z C cap P w ht hW hl h2 (bneT hp)
 ·rw [if_neg (by simp [h5, h4, h2])]
  exact rkid_e p z C cap P w ht hW hl (beqF h5) (beqF h4) (beqF h2) (bneT hp)
theorem Moves.setS {base : Nat} {S S1 : Nat → Prop} {w w1 : World} (h : Moves base S w S1 w1) {p : Addr} (hp : S p.block) (hb : base ≤ p.block) (u : Value) : Moves base S w S1 (w1.setCell p u) :=
 ⟨h.below.setCell hb u, by have := h.size; simpa [World.setCell] using this, fun b hlt hn => (Below.heap_setCell w1 p u b (fun e => hn (e ▸ hp))).trans (h.kept b hlt hn), h.fresh⟩
theorem Moves.push {base : Nat} {S : Nat → Prop} {w wa w1 : World} {v : Value} {gg : Nat} (hS : ∀ b, S b → base ≤ b ∧ b < w.heap.size) (hb : base ≤ w.heap.size) (ha : Below w.heap.size w wa) (hgrow : wa.grownBy w1 v.ownBlock) (hv : ∀ b, v.ownBlock = some b → S b) (hat : v.ownBlock = some gg ∨ w.heap.size ≤ gg) :
  Moves base S w (fun b => S b ∨ b = gg) w1 := by
 have hsz := ha.size
 have hs2 : wa.heap.size ≤ w1.heap.size := hgrow.size
 refine ⟨(ha.mono hb).grown hgrow (by omega) (fun k hk => (hS k (hv k hk)).1), by omega, fun b hlt hn => ?_, fun b hb => ?_⟩
 ·exact (hgrow.block b (by omega) (fun e => hn (hv b e.symm))).trans (ha.block b hlt)
 ·rcases hb with h | rfl
  ·exact .inl h
  ·rcases hat with h | h
   ·exact .inl (hv _ h)
   ·exact .inr h
theorem take_snocF {α : Type} {l : List α} {k : Nat} {x : α} (h : l[k]? = some x) : l.take (k + 1) = l.take k ++ [x] := by
 obtain ⟨hk, rfl⟩ := List.getElem?_eq_some_iff.1 h
 rw [List.take_succ_eq_append_getElem hk]
def WrAt (w : World) (base g : Nat) (S : Nat → Prop) (L : List Lex) : Prop :=
 (∀ b, S b → base ≤ b ∧ b < w.heap.size) ∧ S g ∧ ∃ v, Blk w g 208 #[v] ∧ w.ownsRow base 139 8 v L.length (lexCells L) ∧ ∀ b, v.ownBlock = some b → S b
theorem WrAt.keep {w w' : World} {base g : Nat} {S : Nat → Prop} {L : List Lex} (h : WrAt w base g S L) (hs : w.heap.size ≤ w'.heap.size) (hk : ∀ b, S b → w'.heap[b]? = w.heap[b]?) : WrAt w' base g S L := by
 obtain ⟨h0, hg, v, h1, h2, h3⟩ := h
 exact ⟨fun b hb => ⟨(h0 b hb).1, by have := (h0 b hb).2; omega⟩, hg, v, (hk g hg).trans h1, ownsRow_block h2 (fun k e => hk k (h3 k e)), h3⟩
theorem WrAt.lt {w : World} {base g : Nat} {S : Nat → Prop} {L : List Lex} (h : WrAt w base g S L) : ∀ b, S b → b < w.heap.size := fun b hb => (h.1 b hb).2
theorem WrAt.alloc {w : World} {base g : Nat} {S : Nat → Prop} {L : List Lex} (h : WrAt w base g S L) (o : Obj) : WrAt (w.alloc o) base g S L :=
 h.keep (by simp) (fun b hb => Below.heap_alloc w o b (h.lt b hb))
theorem WrAt.below {w w' : World} {base g : Nat} {S : Nat → Prop} {L : List Lex} (h : WrAt w base g S L) (hb : Below w.heap.size w w') : WrAt w' base g S L :=
 h.keep hb.size (fun b hs => hb.block b (h.lt b hs))
theorem WrAt.not {w : World} {base g : Nat} {S : Nat → Prop} {L : List Lex} (h : WrAt w base g S L) {b : Nat} (hb : w.heap.size ≤ b) : ¬ S b := fun h' => by have := h.lt b h'; omega
def WrOut (base g : Nat) (S : Nat → Prop) (w : World) (L : List Lex) (e : Ending) (w' : World) : Prop :=
 e = .returned (.tuple #[]) ∧ ∃ S', WrAt w' base g S' L ∧ Moves base S w S' w'
theorem wr_push {base g gg cap : Nat} {S : Nat → Prop} {L : List Lex} {x : Lex} {w wa w1 : World} {v : Value} {z : Nat} (hH : (∀ b, S b → base ≤ b ∧ b < w.heap.size) ∧ S g ∧ ∀ b, v.ownBlock = some b → S b) (hb : base ≤ w.heap.size) (hG1 : Blk w1 g 208 #[v])
  (ha : Below w.heap.size w wa) (hgrow : wa.grownBy w1 v.ownBlock) (hown : w1.ownsRow base 139 8 (.slice (some ⟨gg, 0, none⟩) (L.length + 1) cap) (L.length + 1) (lexCells L ++ lexCell x)) (hat : v.ownBlock = some gg ∨ gg = z) (hz : w.heap.size ≤ z) :
  ∃ S', WrAt (w1.setCell ⟨g, 0, none⟩ (.slice (some ⟨gg, 0, none⟩) (L.length + 1) cap)) base g S' (L ++ [x]) ∧ Moves base S w S' (w1.setCell ⟨g, 0, none⟩ (.slice (some ⟨gg, 0, none⟩) (L.length + 1) cap)) := by
 obtain ⟨h0, hg, h3⟩ := hH
 have hne := blk_not_row hG1 (by decide) hown
 have hlg := hown.lt gg rfl
 have hM : Moves base S w (fun b => S b ∨ b = gg) w1 := Moves.push h0 hb ha hgrow h3 (by rcases hat with h | h; exact .inl h; exact .inr (by omega))
 have hsz : w.heap.size ≤ w1.heap.size := hM.size
 refine ⟨fun b => S b ∨ b = gg, ⟨fun b hb => ?_, .inl hg, .slice (some ⟨gg, 0, none⟩) (L.length + 1) cap, hG1.set_ 0 _, ?_, fun b h => .inr (by simpa [Value.ownBlock] using h.symm)⟩, hM.setS (p := ⟨g, 0, none⟩) hg (h0 g hg).1 _⟩
 ·simp only [World.setCell, Array.size_modify]
  rcases hb with h | rfl
  ·exact ⟨(h0 b h).1, by have := (h0 b h).2; omega⟩
  ·exact hlg
 ·rw [List.length_append, lexCells_snoc]
  exact own_set hown hne
theorem lexCell_sign (k : Int) : lexCell (lexK k) = [.int .i64 k, .int .i64 0, .int .u64 0, .int .u64 0, .int .u64 0, .int .u64 0, .int .i64 0, .int .i64 0] := rfl
theorem wput_go (base g : Nat) (S : Nat → Prop) (L : List Lex) (k : Int) (w : World) (h : WrAt w base g S L) (hb : base ≤ w.heap.size) (hf : L.length ≤ 100000000) :
  Calls Tryz.prog 209 #[.pointer (some ⟨g, 0, none⟩), .int .i64 k] w (WrOut base g S w (L ++ [lexK k])) := by
 obtain ⟨i0, hi, hz0, hz1, hz2⟩ := info_parts info_lex
 obtain ⟨h0, hg, v, hG, hR, h3⟩ := h
 have s0 := hG.cell 0
 have f0 := hG.frozen 0
 have hlt := Blk.lt hG
 have HG := Lib.hid hG
 have HR := Lib.hid hR
 have HH := Lib.hid (show _ ∧ _ ∧ _ from ⟨h0, hg, h3⟩)
 have hneG := blk_not_row hG (by decide) hR
 have HneG := Lib.hid hneG
 have h63 : L.length + 1 ≤ maxLen := Nat.le_trans (by omega) (show 2000000000000 ≤ maxLen by decide)
 have hby : (L.length + 1) * 64 ≤ 140737488355328 := by omega
 have HS := Lib.hid (lexCell_sign k)
 clear hG hR hneG h0 h3
 go_enter Tryz.func209, Tryz.ntmps209
 go_wp2_with (at_builtin; refine wpList_append_lies _ rfl _ _ 134 rfl base 139 i0 _ 8 64 Tryz.underlying134 hi hz0 hz1 hz2 rfl (by decide) v L.length (lexCells L) rfl (HR.out.alloc _) ⟨w.heap.size, 0, none⟩ 1 1 [.int .i64 k, .int .i64 0, .int .u64 0, .int .u64 0, .int .u64 0, .int .u64 0, .int .i64 0, .int .i64 0] rfl rfl (World.news_of_block (cs := #[.int .i64 k, .int .i64 0, .int .u64 0, .int .u64 0, .int .u64 0, .int .u64 0, .int .i64 0, .int .i64 0]) (t := 139) (fr := (0, 0)) (heap_alloc_new w _)) (by simp [Value.oneCell']) (by decide) h63 hby (by simp; omega) (w.heap.size + 1) (by simp) ?_; intro gg cap' w1 hown1 hgrow hat hlt1; have hG1 := Blk.grown (Blk.alloc HG.out _) hgrow HneG.out; have c0 := hG1.cell 0; have d0 := hG1.frozen 0; have HG1 := Lib.hid hG1; have Hgrow := Lib.hid hgrow; have Hown1 := Lib.hid hown1; have Hat := Lib.hid hat; clear hG1 hgrow hown1 hat)
 go_light
 go_end0
 rw [← HS.out] at Hown1
 exact ⟨rfl, wr_push HH.out hb HG1.out ((Below.refl _ _).alloc (Nat.le_refl _) _) Hgrow.out Hown1.out Hat.out (by omega)⟩
def levelS (k : Int) : Int := if k = 5 then 1 else if k = 4 then 2 else if k = 2 then 0 else 3
theorem level1 (s : Nat) (n : Nat) (lo hi : Int) (B : Option Addr) (cap : Nat) (w : World) :
  Calls Tryz.prog 208 #[.agg #[.int .i64 1, .int .u64 (word s.testBit 0), .int .u64 (word s.testBit 1), .int .u64 (word s.testBit 2), .int .u64 (word s.testBit 3), .slice B n cap, .int .i64 lo, .int .i64 hi]] w fun e w' => e = .returned (.int .i64 3) ∧ Below w.heap.size w w' := by
 have HB := Lib.hid (((Below.refl w.heap.size w).alloc (Nat.le_refl _) (.cells #[.int .i64 1, .int .u64 (word s.testBit 0), .int .u64 (word s.testBit 1), .int .u64 (word s.testBit 2), .int .u64 (word s.testBit 3), .slice B n cap, .int .i64 lo, .int .i64 hi] 28)).alloc (by simp) (.cells #[.int .i64 0, .int .i64 3, .int .i64 0, .int .i64 3, .int .i64 2, .int .i64 1, .int .i64 3, .int .i64 3, .int .i64 3, .int .i64 3] 206))
 go_enter Tryz.func208, Tryz.ntmps208
 go_wp2
 go_light
 go_ret
 exact ⟨rfl, HB.out⟩
theorem level2 (s : Nat) (n : Nat) (lo hi : Int) (B : Option Addr) (cap : Nat) (w : World) :
  Calls Tryz.prog 208 #[.agg #[.int .i64 2, .int .u64 (word s.testBit 0), .int .u64 (word s.testBit 1), .int .u64 (word s.testBit 2), .int .u64 (word s.testBit 3), .slice B n cap, .int .i64 lo, .int .i64 hi]] w fun e w' => e = .returned (.int .i64 0) ∧ Below w.heap.size w w' := by
 have HB := Lib.hid (((Below.refl w.heap.size w).alloc (Nat.le_refl _) (.cells #[.int .i64 2, .int .u64 (word s.testBit 0), .int .u64 (word s.testBit 1), .int .u64 (word s.testBit 2), .int .u64 (word s.testBit 3), .slice B n cap, .int .i64 lo, .int .i64 hi] 28)).alloc (by simp) (.cells #[.int .i64 0, .int .i64 3, .int .i64 0, .int .i64 3, .int .i64 2, .int .i64 1, .int .i64 3, .int .i64 3, .int .i64 3, .int .i64 3] 206))
 go_enter Tryz.func208, Tryz.ntmps208
 go_wp2
 go_light
 go_ret
 exact ⟨rfl, HB.out⟩
theorem level3 (s : Nat) (n : Nat) (lo hi : Int) (B : Option Addr) (cap : Nat) (w : World) :
  Calls Tryz.prog 208 #[.agg #[.int .i64 3, .int .u64 (word s.testBit 0), .int .u64 (word s.testBit 1), .int .u64 (word s.testBit 2), .int .u64 (word s.testBit 3), .slice B n cap, .int .i64 lo, .int .i64 hi]] w fun e w' => e = .returned (.int .i64 3) ∧ Below w.heap.size w w' := by
 have HB := Lib.hid (((Below.refl w.heap.size w).alloc (Nat.le_refl _) (.cells #[.int .i64 3, .int .u64 (word s.testBit 0), .int .u64 (word s.testBit 1), .int .u64 (word s.testBit 2), .int .u64 (word s.testBit 3), .slice B n cap, .int .i64 lo, .int .i64 hi] 28)).alloc (by simp) (.cells #[.int .i64 0, .int .i64 3, .int .i64 0, .int .i64 3, .int .i64 2, .int .i64 1, .int .i64 3, .int .i64 3, .int .i64 3, .int .i64 3] 206))
 go_enter Tryz.func208, Tryz.ntmps208
 go_wp2
 go_light
 go_ret
 exact ⟨rfl, HB.out⟩
theorem level4 (s : Nat) (n : Nat) (lo hi : Int) (B : Option Addr) (cap : Nat) (w : World) :
  Calls Tryz.prog 208 #[.agg #[.int .i64 4, .int .u64 (word s.testBit 0), .int .u64 (word s.testBit 1), .int .u64 (word s.testBit 2), .int .u64 (word s.testBit 3), .slice B n cap, .int .i64 lo, .int .i64 hi]] w fun e w' => e = .returned (.int .i64 2) ∧ Below w.heap.size w w' := by
 have HB := Lib.hid (((Below.refl w.heap.size w).alloc (Nat.le_refl _) (.cells #[.int .i64 4, .int .u64 (word s.testBit 0), .int .u64 (word s.testBit 1), .int .u64 (word s.testBit 2), .int .u64 (word s.testBit 3), .slice B n cap, .int .i64 lo, .int .i64 hi] 28)).alloc (by simp) (.cells #[.int .i64 0, .int .i64 3, .int .i64 0, .int .i64 3, .int .i64 2, .int .i64 1, .int .i64 3, .int .i64 3, .int .i64 3, .int .i64 3] 206))
 go_enter Tryz.func208, Tryz.ntmps208
 go_wp2
 go_light
 go_ret
 exact ⟨rfl, HB.out⟩
theorem level5 (s : Nat) (n : Nat) (lo hi : Int) (B : Option Addr) (cap : Nat) (w : World) :
  Calls Tryz.prog 208 #[.agg #[.int .i64 5, .int .u64 (word s.testBit 0), .int .u64 (word s.testBit 1), .int .u64 (word s.testBit 2), .int .u64 (word s.testBit 3), .slice B n cap, .int .i64 lo, .int .i64 hi]] w fun e w' => e = .returned (.int .i64 1) ∧ Below w.heap.size w w' := by
 have HB := Lib.hid (((Below.refl w.heap.size w).alloc (Nat.le_refl _) (.cells #[.int .i64 5, .int .u64 (word s.testBit 0), .int .u64 (word s.testBit 1), .int .u64 (word s.testBit 2), .int .u64 (word s.testBit 3), .slice B n cap, .int .i64 lo, .int .i64 hi] 28)).alloc (by simp) (.cells #[.int .i64 0, .int .i64 3, .int .i64 0, .int .i64 3, .int .i64 2, .int .i64 1, .int .i64 3, .int .i64 3, .int .i64 3, .int .i64 3] 206))
 go_enter Tryz.func208, Tryz.ntmps208
 go_wp2
 go_light
 go_ret
 exact ⟨rfl, HB.out⟩
theorem level6 (s : Nat) (n : Nat) (lo hi : Int) (B : Option Addr) (cap : Nat) (w : World) :
  Calls Tryz.prog 208 #[.agg #[.int .i64 6, .int .u64 (word s.testBit 0), .int .u64 (word s.testBit 1), .int .u64 (word s.testBit 2), .int .u64 (word s.testBit 3), .slice B n cap, .int .i64 lo, .int .i64 hi]] w fun e w' => e = .returned (.int .i64 3) ∧ Below w.heap.size w w' := by
 have HB := Lib.hid (((Below.refl w.heap.size w).alloc (Nat.le_refl _) (.cells #[.int .i64 6, .int .u64 (word s.testBit 0), .int .u64 (word s.testBit 1), .int .u64 (word s.testBit 2), .int .u64 (word s.testBit 3), .slice B n cap, .int .i64 lo, .int .i64 hi] 28)).alloc (by simp) (.cells #[.int .i64 0, .int .i64 3, .int .i64 0, .int .i64 3, .int .i64 2, .int .i64 1, .int .i64 3, .int .i64 3, .int .i64 3, .int .i64 3] 206))
 go_enter Tryz.func208, Tryz.ntmps208
 go_wp2
 go_light
 go_ret
 exact ⟨rfl, HB.out⟩
theorem level7 (s : Nat) (n : Nat) (lo hi : Int) (B : Option Addr) (cap : Nat) (w : World) :
  Calls Tryz.prog 208 #[.agg #[.int .i64 7, .int .u64 (word s.testBit 0), .int .u64 (word s.testBit 1), .int .u64 (word s.testBit 2), .int .u64 (word s.testBit 3), .slice B n cap, .int .i64 lo, .int .i64 hi]] w fun e w' => e = .returned (.int .i64 3) ∧ Below w.heap.size w w' := by
 have HB := Lib.hid (((Below.refl w.heap.size w).alloc (Nat.le_refl _) (.cells #[.int .i64 7, .int .u64 (word s.testBit 0), .int .u64 (word s.testBit 1), .int .u64 (word s.testBit 2), .int .u64 (word s.testBit 3), .slice B n cap, .int .i64 lo, .int .i64 hi] 28)).alloc (by simp) (.cells #[.int .i64 0, .int .i64 3, .int .i64 0, .int .i64 3, .int .i64 2, .int .i64 1, .int .i64 3, .int .i64 3, .int .i64 3, .int .i64 3] 206))
 go_enter Tryz.func208, Tryz.ntmps208
 go_wp2
 go_light
 go_ret
 exact ⟨rfl, HB.out⟩
theorem level8 (s : Nat) (n : Nat) (lo hi : Int) (B : Option Addr) (cap : Nat) (w : World) :
  Calls Tryz.prog 208 #[.agg #[.int .i64 8, .int .u64 (word s.testBit 0), .int .u64 (word s.testBit 1), .int .u64 (word s.testBit 2), .int .u64 (word s.testBit 3), .slice B n cap, .int .i64 lo, .int .i64 hi]] w fun e w' => e = .returned (.int .i64 3) ∧ Below w.heap.size w w' := by
 have HB := Lib.hid (((Below.refl w.heap.size w).alloc (Nat.le_refl _) (.cells #[.int .i64 8, .int .u64 (word s.testBit 0), .int .u64 (word s.testBit 1), .int .u64 (word s.testBit 2), .int .u64 (word s.testBit 3), .slice B n cap, .int .i64 lo, .int .i64 hi] 28)).alloc (by simp) (.cells #[.int .i64 0, .int .i64 3, .int .i64 0, .int .i64 3, .int .i64 2, .int .i64 1, .int .i64 3, .int .i64 3, .int .i64 3, .int .i64 3] 206))
 go_enter Tryz.func208, Tryz.ntmps208
 go_wp2
 go_light
 go_ret
 exact ⟨rfl, HB.out⟩
theorem level9 (s : Nat) (n : Nat) (lo hi : Int) (B : Option Addr) (cap : Nat) (w : World) :
  Calls Tryz.prog 208 #[.agg #[.int .i64 9, .int .u64 (word s.testBit 0), .int .u64 (word s.testBit 1), .int .u64 (word s.testBit 2), .int .u64 (word s.testBit 3), .slice B n cap, .int .i64 lo, .int .i64 hi]] w fun e w' => e = .returned (.int .i64 3) ∧ Below w.heap.size w w' := by
 have HB := Lib.hid (((Below.refl w.heap.size w).alloc (Nat.le_refl _) (.cells #[.int .i64 9, .int .u64 (word s.testBit 0), .int .u64 (word s.testBit 1), .int .u64 (word s.testBit 2), .int .u64 (word s.testBit 3), .slice B n cap, .int .i64 lo, .int .i64 hi] 28)).alloc (by simp) (.cells #[.int .i64 0, .int .i64 3, .int .i64 0, .int .i64 3, .int .i64 2, .int .i64 1, .int .i64 3, .int .i64 3, .int .i64 3, .int .i64 3] 206))
 go_enter Tryz.func208, Tryz.ntmps208
 go_wp2
 go_light
 go_ret
 exact ⟨rfl, HB.out⟩
theorem level_go (z : Nd) (B : Option Addr) (cap : Nat) (w : World) (h1 : 1 ≤ z.kind) (h9 : z.kind ≤ 9) :
  Calls Tryz.prog 208 #[ndV z B cap] w fun e w' => e = .returned (.int .i64 (levelS z.kind)) ∧ Below w.heap.size w w' := by
 unfold ndV
 rcases (show z.kind = 1 ∨ z.kind = 2 ∨ z.kind = 3 ∨ z.kind = 4 ∨ z.kind = 5 ∨ z.kind = 6 ∨ z.kind = 7 ∨ z.kind = 8 ∨ z.kind = 9 by omega) with h | h | h | h | h | h | h | h | h <;> rw [h]
 ·exact level1 _ _ _ _ _ _ w
 ·exact level2 _ _ _ _ _ _ w
 ·exact level3 _ _ _ _ _ _ w
 ·exact level4 _ _ _ _ _ _ w
 ·exact level5 _ _ _ _ _ _ w
 ·exact level6 _ _ _ _ _ _ w
 ·exact level7 _ _ _ _ _ _ w
 ·exact level8 _ _ _ _ _ _ w
 ·exact level9 _ _ _ _ _ _ w
def WriteC (x : Nd) : Prop := ∀ (B : Option Addr) (cap base g : Nat) (S : Nat → Prop) (L : List Lex) (w : World), TreesAt w (fun b => ¬ S b) x.kids B → WrAt w base g S L → base ≤ w.heap.size → L.length + x.write.length ≤ 90000000 →
 Calls Tryz.prog 173 #[.pointer (some ⟨g, 0, none⟩), ndV x B cap] w (WrOut base g S w (L ++ x.write))
theorem cell_blk {w w' : World} {b o : Nat} (h : w'.heap[b]? = w.heap[b]?) : w'.cell? ⟨b, o, none⟩ = w.cell? ⟨b, o, none⟩ := by
 simp only [World.cell?, h]
theorem TreesAt.movesW {base : Nat} {S S1 : Nat → Prop} {w w1 : World} {F : Trees} {B : Option Addr} (h : TreesAt w (fun b => ¬ S b) F B) (hm : Moves base S w S1 w1) : TreesAt w1 (fun b => ¬ S1 b) F B :=
 h.keep (fun b o hb hl => cell_blk (hm.kept b hl hb)) (fun b hb hl => hm.notIn hl hb)
structure KFr (w : World) (base g pb : Nat) (S : Nat → Prop) (nd : Array Value) (S1 : Nat → Prop) (L : List Lex) (w1 : World) : Prop where
 x : Blk w1 w.heap.size 28 nd
 p : w1.cell? ⟨pb, 0, none⟩ = some (.pointer (some ⟨g, 0, none⟩))
 wr : WrAt w1 base g S1 L
 mvs : Moves base S w S1 w1
 nx : ¬ S1 w.heap.size
 np : ¬ S1 pb
 hb : base ≤ w.heap.size
 hpl : pb < w.heap.size
theorem KFr.start {w : World} {base g pb : Nat} {S : Nat → Prop} {L : List Lex} (nd : Array Value) (h : WrAt w base g S L) (hb : base ≤ w.heap.size) (hp : w.cell? ⟨pb, 0, none⟩ = some (.pointer (some ⟨g, 0, none⟩))) (hnp : ¬ S pb) : KFr w base g pb S nd S L (w.alloc (.cells nd 28)) :=
 have hl := World.block_lt_of_cell? w _ hp
 ⟨Blk.new w _ _, (cell_blk (Below.heap_alloc w _ pb hl)).trans hp, h.alloc _, (Moves.refl base S w).alloc hb _, h.not (Nat.le_refl _), hnp, hb, hl⟩
theorem KFr.go {w w1 : World} {base g pb : Nat} {S S1 : Nat → Prop} {L : List Lex} {nd : Array Value} (h : KFr w base g pb S nd S1 L w1) {w2 : World} {S2 : Nat → Prop} {L2 : List Lex} (hm : WrAt w2 base g S2 L2) (hv : Moves base S1 w1 S2 w2) : KFr w base g pb S nd S2 L2 w2 :=
 have hl : pb < w1.heap.size := World.block_lt_of_cell? w1 _ h.p
 ⟨h.x.moves hv h.nx, (cell_blk (hv.kept pb hl h.np)).trans h.p, hm, h.mvs.trans hv, hv.notIn h.x.lt h.nx, hv.notIn hl h.np, h.hb, h.hpl⟩
theorem KFr.below {w w1 : World} {base g pb : Nat} {S S1 : Nat → Prop} {L : List Lex} {nd : Array Value} (h : KFr w base g pb S nd S1 L w1) {w2 : World} (hB : Below w1.heap.size w1 w2) : KFr w base g pb S nd S1 L w2 :=
 h.go (h.wr.below hB) (Moves.of_below hB (by have := h.mvs.size; have := h.hb; omega))
theorem KFr.size {w w1 : World} {base g pb : Nat} {S S1 : Nat → Prop} {L : List Lex} {nd : Array Value} (h : KFr w base g pb S nd S1 L w1) : base ≤ w1.heap.size := by
 have := h.mvs.size; have := h.hb; omega
theorem kid_openA (z : Nd) (C : Option Addr) (cap : Nat) (least : Int) (base g pb : Nat) (S : Nat → Prop) (L : List Lex) (w : World) (ht : TreesAt w (fun b => ¬ S b) z.kids C) (h : WrAt w base g S L) (hb : base ≤ w.heap.size) (hp : w.cell? ⟨pb, 0, none⟩ = some (.pointer (some ⟨g, 0, none⟩))) (hnp : ¬ S pb) (hk1 : 1 ≤ z.kind) (hk9 : z.kind ≤ 9) (hW : WriteC z) (hl : L.length + z.write.length + 2 ≤ 90000000) (h1 : levelS z.kind < least) (h2 : 2 < least) : Calls Tryz.prog 207 #[ndV z C cap, .int .i64 least, .pointer (some ⟨pb, 0, none⟩)] w (WrOut base g S w (L ++ (lexK 2 :: (z.write ++ [lexK 3])))) := by
 have hF1 := KFr.start #[.int .i64 z.kind, .int .u64 (word z.set.testBit 0), .int .u64 (word z.set.testBit 1), .int .u64 (word z.set.testBit 2), .int .u64 (word z.set.testBit 3), .slice C z.kids.len cap, .int .i64 z.lo, .int .i64 z.hi] h hb hp hnp
 have HL1 := Lib.hid (level_go z C cap (w.alloc (.cells #[.int .i64 z.kind, .int .u64 (word z.set.testBit 0), .int .u64 (word z.set.testBit 1), .int .u64 (word z.set.testBit 2), .int .u64 (word z.set.testBit 3), .slice C z.kids.len cap, .int .i64 z.lo, .int .i64 z.hi] 28)) hk1 hk9)
 have HLV := Lib.hid (fun (w' : World) => level_go z C cap w' hk1 hk9)
 have HF1 := Lib.hid hF1
 have HT := Lib.hid ht
 have HW := Lib.hid hW
 unfold ndV at HL1 HLV ⊢
 generalize levelS z.kind = lv at *
 clear hF1 ht hW h hp hnp hk1 hk9
 go_enter Tryz.func207, Tryz.ntmps207
 go_wp2_with fail
 refine HL1.out.mono ?_
 rintro e w2 ⟨rfl, hb2⟩
 have hF2 := HF1.out.below hb2
 have n0 := (hF2).x.cell 0
 have n1 := (hF2).x.cell 1
 have n2 := (hF2).x.cell 2
 have n3 := (hF2).x.cell 3
 have n4 := (hF2).x.cell 4
 have n5 := (hF2).x.cell 5
 have n6 := (hF2).x.cell 6
 have n7 := (hF2).x.cell 7
 have p0 := (hF2).p
 have hlx := (hF2).x.lt
 simp only [List.getElem?_toArray, List.getElem?_cons_zero, List.getElem?_cons_succ] at n0 n1 n2 n3 n4 n5 n6 n7
 have HF2 := Lib.hid hF2
 clear hF2 HF1 HL1 hb2
 dsimp only
 have HP := Lib.hid (wput_go base g S L 2 w2 (HF2).out.wr (HF2).out.size (by omega))
 go_wp2_with fail
 refine HP.out.mono ?_
 rintro e w4 ⟨rfl, S4, hm4, hv4⟩
 have hF4 := (HF2).out.go hm4 hv4
 clear n0 n1 n2 n3 n4 n5 n6 n7 p0 hlx
 have n0 := (hF4).x.cell 0
 have n1 := (hF4).x.cell 1
 have n2 := (hF4).x.cell 2
 have n3 := (hF4).x.cell 3
 have n4 := (hF4).x.cell 4
 have n5 := (hF4).x.cell 5
 have n6 := (hF4).x.cell 6
 have n7 := (hF4).x.cell 7
 have p0 := (hF4).p
 have hlx := (hF4).x.lt
 simp only [List.getElem?_toArray, List.getElem?_cons_zero, List.getElem?_cons_succ] at n0 n1 n2 n3 n4 n5 n6 n7
 have HF4 := Lib.hid hF4
 clear hF4 hm4 hv4 HP HF2
 dsimp only
 have HI := Lib.hid (HW.out C cap base g S4 (L ++ [lexK 2]) w4 (HT.out.movesW (HF4).out.mvs) (HF4).out.wr (HF4).out.size (by (try simp only [List.length_append, List.length_cons, List.length_nil]); omega))
 unfold ndV at HI
 go_wp2_with fail
 refine HI.out.mono ?_
 rintro e w5 ⟨rfl, S5, hm5, hv5⟩
 have hF5 := (HF4).out.go hm5 hv5
 clear n0 n1 n2 n3 n4 n5 n6 n7 p0 hlx
 have n0 := (hF5).x.cell 0
 have n1 := (hF5).x.cell 1
 have n2 := (hF5).x.cell 2
 have n3 := (hF5).x.cell 3
 have n4 := (hF5).x.cell 4
 have n5 := (hF5).x.cell 5
 have n6 := (hF5).x.cell 6
 have n7 := (hF5).x.cell 7
 have p0 := (hF5).p
 have hlx := (hF5).x.lt
 simp only [List.getElem?_toArray, List.getElem?_cons_zero, List.getElem?_cons_succ] at n0 n1 n2 n3 n4 n5 n6 n7
 have HF5 := Lib.hid hF5
 clear hF5 hm5 hv5 HI
 dsimp only
 have HP := Lib.hid (wput_go base g S5 (L ++ [lexK 2] ++ z.write) 3 w5 HF5.out.wr HF5.out.size (by (try simp only [List.length_append, List.length_cons, List.length_nil]); omega))
 go_wp2_with fail
 refine HP.out.mono ?_
 rintro e w6 ⟨rfl, S6, hm6, hv6⟩
 have HF6 := Lib.hid (HF5.out.go hm6 hv6)
 clear n0 n1 n2 n3 n4 n5 n6 n7 p0 hlx
 clear hm6 hv6 HP HF5
 dsimp only
 go_wp2
 go_light
 go_end0
 have e6 : L ++ (lexK 2 :: (z.write ++ [lexK 3])) = L ++ [lexK 2] ++ z.write ++ [lexK 3] := by simp
 rw [e6]
 exact ⟨rfl, S6, HF6.out.wr, HF6.out.mvs⟩
theorem kid_openB (z : Nd) (C : Option Addr) (cap : Nat) (least : Int) (base g pb : Nat) (S : Nat → Prop) (L : List Lex) (w : World) (ht : TreesAt w (fun b => ¬ S b) z.kids C) (h : WrAt w base g S L) (hb : base ≤ w.heap.size) (hp : w.cell? ⟨pb, 0, none⟩ = some (.pointer (some ⟨g, 0, none⟩))) (hnp : ¬ S pb) (hk1 : 1 ≤ z.kind) (hk9 : z.kind ≤ 9) (hW : WriteC z) (hl : L.length + z.write.length + 2 ≤ 90000000) (h1 : levelS z.kind < least) (h2 : ¬ 2 < least) (h3 : 0 < levelS z.kind) : Calls Tryz.prog 207 #[ndV z C cap, .int .i64 least, .pointer (some ⟨pb, 0, none⟩)] w (WrOut base g S w (L ++ (lexK 2 :: (z.write ++ [lexK 3])))) := by
 have hF1 := KFr.start #[.int .i64 z.kind, .int .u64 (word z.set.testBit 0), .int .u64 (word z.set.testBit 1), .int .u64 (word z.set.testBit 2), .int .u64 (word z.set.testBit 3), .slice C z.kids.len cap, .int .i64 z.lo, .int .i64 z.hi] h hb hp hnp
 have HL1 := Lib.hid (level_go z C cap (w.alloc (.cells #[.int .i64 z.kind, .int .u64 (word z.set.testBit 0), .int .u64 (word z.set.testBit 1), .int .u64 (word z.set.testBit 2), .int .u64 (word z.set.testBit 3), .slice C z.kids.len cap, .int .i64 z.lo, .int .i64 z.hi] 28)) hk1 hk9)
 have HLV := Lib.hid (fun (w' : World) => level_go z C cap w' hk1 hk9)
 have HF1 := Lib.hid hF1
 have HT := Lib.hid ht
 have HW := Lib.hid hW
 unfold ndV at HL1 HLV ⊢
 generalize levelS z.kind = lv at *
 clear hF1 ht hW h hp hnp hk1 hk9
 go_enter Tryz.func207, Tryz.ntmps207
 go_wp2_with fail
 refine HL1.out.mono ?_
 rintro e w2 ⟨rfl, hb2⟩
 have hF2 := HF1.out.below hb2
 have n0 := (hF2).x.cell 0
 have n1 := (hF2).x.cell 1
 have n2 := (hF2).x.cell 2
 have n3 := (hF2).x.cell 3
 have n4 := (hF2).x.cell 4
 have n5 := (hF2).x.cell 5
 have n6 := (hF2).x.cell 6
 have n7 := (hF2).x.cell 7
 have p0 := (hF2).p
 have hlx := (hF2).x.lt
 simp only [List.getElem?_toArray, List.getElem?_cons_zero, List.getElem?_cons_succ] at n0 n1 n2 n3 n4 n5 n6 n7
 have HF2 := Lib.hid hF2
 clear hF2 HF1 HL1 hb2
 dsimp only
 go_wp2_with fail
 refine (HLV.out _).mono ?_
 rintro e w3 ⟨rfl, hb3⟩
 have hF3 := HF2.out.below hb3
 clear n0 n1 n2 n3 n4 n5 n6 n7 p0 hlx
 have n0 := (hF3).x.cell 0
 have n1 := (hF3).x.cell 1
 have n2 := (hF3).x.cell 2
 have n3 := (hF3).x.cell 3
 have n4 := (hF3).x.cell 4
 have n5 := (hF3).x.cell 5
 have n6 := (hF3).x.cell 6
 have n7 := (hF3).x.cell 7
 have p0 := (hF3).p
 have hlx := (hF3).x.lt
 simp only [List.getElem?_toArray, List.getElem?_cons_zero, List.getElem?_cons_succ] at n0 n1 n2 n3 n4 n5 n6 n7
 have HF3 := Lib.hid hF3
 clear hF3 hb3 HF2
 dsimp only
 have HP := Lib.hid (wput_go base g S L 2 w3 (HF3).out.wr (HF3).out.size (by omega))
 go_wp2_with fail
 refine HP.out.mono ?_
 rintro e w4 ⟨rfl, S4, hm4, hv4⟩
 have hF4 := (HF3).out.go hm4 hv4
 clear n0 n1 n2 n3 n4 n5 n6 n7 p0 hlx
 have n0 := (hF4).x.cell 0
 have n1 := (hF4).x.cell 1
 have n2 := (hF4).x.cell 2
 have n3 := (hF4).x.cell 3
 have n4 := (hF4).x.cell 4
 have n5 := (hF4).x.cell 5
 have n6 := (hF4).x.cell 6
 have n7 := (hF4).x.cell 7
 have p0 := (hF4).p
 have hlx := (hF4).x.lt
 simp only [List.getElem?_toArray, List.getElem?_cons_zero, List.getElem?_cons_succ] at n0 n1 n2 n3 n4 n5 n6 n7
 have HF4 := Lib.hid hF4
 clear hF4 hm4 hv4 HP HF3
 dsimp only
 have HI := Lib.hid (HW.out C cap base g S4 (L ++ [lexK 2]) w4 (HT.out.movesW (HF4).out.mvs) (HF4).out.wr (HF4).out.size (by (try simp only [List.length_append, List.length_cons, List.length_nil]); omega))
 unfold ndV at HI
 go_wp2_with fail
 refine HI.out.mono ?_
 rintro e w5 ⟨rfl, S5, hm5, hv5⟩
 have hF5 := (HF4).out.go hm5 hv5
 clear n0 n1 n2 n3 n4 n5 n6 n7 p0 hlx
 have n0 := (hF5).x.cell 0
 have n1 := (hF5).x.cell 1
 have n2 := (hF5).x.cell 2
 have n3 := (hF5).x.cell 3
 have n4 := (hF5).x.cell 4
 have n5 := (hF5).x.cell 5
 have n6 := (hF5).x.cell 6
 have n7 := (hF5).x.cell 7
 have p0 := (hF5).p
 have hlx := (hF5).x.lt
 simp only [List.getElem?_toArray, List.getElem?_cons_zero, List.getElem?_cons_succ] at n0 n1 n2 n3 n4 n5 n6 n7
 have HF5 := Lib.hid hF5
 clear hF5 hm5 hv5 HI
 dsimp only
 have HP := Lib.hid (wput_go base g S5 (L ++ [lexK 2] ++ z.write) 3 w5 HF5.out.wr HF5.out.size (by (try simp only [List.length_append, List.length_cons, List.length_nil]); omega))
 go_wp2_with fail
 refine HP.out.mono ?_
 rintro e w6 ⟨rfl, S6, hm6, hv6⟩
 have HF6 := Lib.hid (HF5.out.go hm6 hv6)
 clear n0 n1 n2 n3 n4 n5 n6 n7 p0 hlx
 clear hm6 hv6 HP HF5
 dsimp only
 go_wp2
 go_light
 go_end0
 have e6 : L ++ (lexK 2 :: (z.write ++ [lexK 3])) = L ++ [lexK 2] ++ z.write ++ [lexK 3] := by simp
 rw [e6]
 exact ⟨rfl, S6, HF6.out.wr, HF6.out.mvs⟩
theorem kid_plainC (z : Nd) (C : Option Addr) (cap : Nat) (least : Int) (base g pb : Nat) (S : Nat → Prop) (L : List Lex) (w : World) (ht : TreesAt w (fun b => ¬ S b) z.kids C) (h : WrAt w base g S L) (hb : base ≤ w.heap.size) (hp : w.cell? ⟨pb, 0, none⟩ = some (.pointer (some ⟨g, 0, none⟩))) (hnp : ¬ S pb) (hk1 : 1 ≤ z.kind) (hk9 : z.kind ≤ 9) (hW : WriteC z) (hl : L.length + z.write.length ≤ 90000000) (h1 : ¬ levelS z.kind < least) : Calls Tryz.prog 207 #[ndV z C cap, .int .i64 least, .pointer (some ⟨pb, 0, none⟩)] w (WrOut base g S w (L ++ z.write)) := by
 have hF1 := KFr.start #[.int .i64 z.kind, .int .u64 (word z.set.testBit 0), .int .u64 (word z.set.testBit 1), .int .u64 (word z.set.testBit 2), .int .u64 (word z.set.testBit 3), .slice C z.kids.len cap, .int .i64 z.lo, .int .i64 z.hi] h hb hp hnp
 have HL1 := Lib.hid (level_go z C cap (w.alloc (.cells #[.int .i64 z.kind, .int .u64 (word z.set.testBit 0), .int .u64 (word z.set.testBit 1), .int .u64 (word z.set.testBit 2), .int .u64 (word z.set.testBit 3), .slice C z.kids.len cap, .int .i64 z.lo, .int .i64 z.hi] 28)) hk1 hk9)
 have HLV := Lib.hid (fun (w' : World) => level_go z C cap w' hk1 hk9)
 have HF1 := Lib.hid hF1
 have HT := Lib.hid ht
 have HW := Lib.hid hW
 unfold ndV at HL1 HLV ⊢
 generalize levelS z.kind = lv at *
 clear hF1 ht hW h hp hnp hk1 hk9
 go_enter Tryz.func207, Tryz.ntmps207
 go_wp2_with fail
 refine HL1.out.mono ?_
 rintro e w2 ⟨rfl, hb2⟩
 have hF2 := HF1.out.below hb2
 have n0 := (hF2).x.cell 0
 have n1 := (hF2).x.cell 1
 have n2 := (hF2).x.cell 2
 have n3 := (hF2).x.cell 3
 have n4 := (hF2).x.cell 4
 have n5 := (hF2).x.cell 5
 have n6 := (hF2).x.cell 6
 have n7 := (hF2).x.cell 7
 have p0 := (hF2).p
 have hlx := (hF2).x.lt
 simp only [List.getElem?_toArray, List.getElem?_cons_zero, List.getElem?_cons_succ] at n0 n1 n2 n3 n4 n5 n6 n7
 have HF2 := Lib.hid hF2
 clear hF2 HF1 HL1 hb2
 dsimp only
 have HI := Lib.hid (HW.out C cap base g S L w2 (HT.out.movesW (HF2).out.mvs) (HF2).out.wr (HF2).out.size (by (try simp only [List.length_append, List.length_cons, List.length_nil]); omega))
 unfold ndV at HI
 go_wp2_with fail
 refine HI.out.mono ?_
 rintro e w5 ⟨rfl, S5, hm5, hv5⟩
 have hF5 := (HF2).out.go hm5 hv5
 clear n0 n1 n2 n3 n4 n5 n6 n7 p0 hlx
 have n0 := (hF5).x.cell 0
 have n1 := (hF5).x.cell 1
 have n2 := (hF5).x.cell 2
 have n3 := (hF5).x.cell 3
 have n4 := (hF5).x.cell 4
 have n5 := (hF5).x.cell 5
 have n6 := (hF5).x.cell 6
 have n7 := (hF5).x.cell 7
 have p0 := (hF5).p
 have hlx := (hF5).x.lt
 simp only [List.getElem?_toArray, List.getElem?_cons_zero, List.getElem?_cons_succ] at n0 n1 n2 n3 n4 n5 n6 n7
 have HF5 := Lib.hid hF5
 clear hF5 hm5 hv5 HI
 dsimp only
 go_wp2
 go_light
 go_end0
 exact ⟨rfl, S5, HF5.out.wr, HF5.out.mvs⟩
theorem kid_plainD (z : Nd) (C : Option Addr) (cap : Nat) (least : Int) (base g pb : Nat) (S : Nat → Prop) (L : List Lex) (w : World) (ht : TreesAt w (fun b => ¬ S b) z.kids C) (h : WrAt w base g S L) (hb : base ≤ w.heap.size) (hp : w.cell? ⟨pb, 0, none⟩ = some (.pointer (some ⟨g, 0, none⟩))) (hnp : ¬ S pb) (hk1 : 1 ≤ z.kind) (hk9 : z.kind ≤ 9) (hW : WriteC z) (hl : L.length + z.write.length ≤ 90000000) (h1 : levelS z.kind < least) (h2 : ¬ 2 < least) (h3 : ¬ 0 < levelS z.kind) : Calls Tryz.prog 207 #[ndV z C cap, .int .i64 least, .pointer (some ⟨pb, 0, none⟩)] w (WrOut base g S w (L ++ z.write)) := by
 have hF1 := KFr.start #[.int .i64 z.kind, .int .u64 (word z.set.testBit 0), .int .u64 (word z.set.testBit 1), .int .u64 (word z.set.testBit 2), .int .u64 (word z.set.testBit 3), .slice C z.kids.len cap, .int .i64 z.lo, .int .i64 z.hi] h hb hp hnp
 have HL1 := Lib.hid (level_go z C cap (w.alloc (.cells #[.int .i64 z.kind, .int .u64 (word z.set.testBit 0), .int .u64 (word z.set.testBit 1), .int .u64 (word z.set.testBit 2), .int .u64 (word z.set.testBit 3), .slice C z.kids.len cap, .int .i64 z.lo, .int .i64 z.hi] 28)) hk1 hk9)
 have HLV := Lib.hid (fun (w' : World) => level_go z C cap w' hk1 hk9)
 have HF1 := Lib.hid hF1
 have HT := Lib.hid ht
 have HW := Lib.hid hW
 unfold ndV at HL1 HLV ⊢
 generalize levelS z.kind = lv at *
 clear hF1 ht hW h hp hnp hk1 hk9
 go_enter Tryz.func207, Tryz.ntmps207
 go_wp2_with fail
 refine HL1.out.mono ?_
 rintro e w2 ⟨rfl, hb2⟩
 have hF2 := HF1.out.below hb2
 have n0 := (hF2).x.cell 0
 have n1 := (hF2).x.cell 1
 have n2 := (hF2).x.cell 2
 have n3 := (hF2).x.cell 3
 have n4 := (hF2).x.cell 4
 have n5 := (hF2).x.cell 5
 have n6 := (hF2).x.cell 6
 have n7 := (hF2).x.cell 7
 have p0 := (hF2).p
 have hlx := (hF2).x.lt
 simp only [List.getElem?_toArray, List.getElem?_cons_zero, List.getElem?_cons_succ] at n0 n1 n2 n3 n4 n5 n6 n7
 have HF2 := Lib.hid hF2
 clear hF2 HF1 HL1 hb2
 dsimp only
 go_wp2_with fail
 refine (HLV.out _).mono ?_
 rintro e w3 ⟨rfl, hb3⟩
 have hF3 := HF2.out.below hb3
 clear n0 n1 n2 n3 n4 n5 n6 n7 p0 hlx
 have n0 := (hF3).x.cell 0
 have n1 := (hF3).x.cell 1
 have n2 := (hF3).x.cell 2
 have n3 := (hF3).x.cell 3
 have n4 := (hF3).x.cell 4
 have n5 := (hF3).x.cell 5
 have n6 := (hF3).x.cell 6
 have n7 := (hF3).x.cell 7
 have p0 := (hF3).p
 have hlx := (hF3).x.lt
 simp only [List.getElem?_toArray, List.getElem?_cons_zero, List.getElem?_cons_succ] at n0 n1 n2 n3 n4 n5 n6 n7
 have HF3 := Lib.hid hF3
 clear hF3 hb3 HF2
 dsimp only
 have HI := Lib.hid (HW.out C cap base g S L w3 (HT.out.movesW (HF3).out.mvs) (HF3).out.wr (HF3).out.size (by (try simp only [List.length_append, List.length_cons, List.length_nil]); omega))
 unfold ndV at HI
 go_wp2_with fail
 refine HI.out.mono ?_
 rintro e w5 ⟨rfl, S5, hm5, hv5⟩
 have hF5 := (HF3).out.go hm5 hv5
 clear n0 n1 n2 n3 n4 n5 n6 n7 p0 hlx
 have n0 := (hF5).x.cell 0
 have n1 := (hF5).x.cell 1
 have n2 := (hF5).x.cell 2
 have n3 := (hF5).x.cell 3
 have n4 := (hF5).x.cell 4
 have n5 := (hF5).x.cell 5
 have n6 := (hF5).x.cell 6
 have n7 := (hF5).x.cell 7
 have p0 := (hF5).p
 have hlx := (hF5).x.lt
 simp only [List.getElem?_toArray, List.getElem?_cons_zero, List.getElem?_cons_succ] at n0 n1 n2 n3 n4 n5 n6 n7
 have HF5 := Lib.hid hF5
 clear hF5 hm5 hv5 HI
 dsimp only
 go_wp2
 go_light
 go_end0
 exact ⟨rfl, S5, HF5.out.wr, HF5.out.mvs⟩
def leastS (p : Int) : Int := if p = 5 then 2 else 3
theorem kid_go (p : Int) (z : Nd) (C : Option Addr) (cap : Nat) (least : Int) (base g pb : Nat) (S : Nat → Prop) (L : List Lex) (w : World) (ht : TreesAt w (fun b => ¬ S b) z.kids C) (h : WrAt w base g S L) (hb : base ≤ w.heap.size) (hp : w.cell? ⟨pb, 0, none⟩ = some (.pointer (some ⟨g, 0, none⟩))) (hnp : ¬ S pb) (hk1 : 1 ≤ z.kind) (hk9 : z.kind ≤ 9) (hW : WriteC z) (hl : L.length + (kidS p (z.kind, z.write)).length ≤ 90000000) (hle : least = leastS p) : Calls Tryz.prog 207 #[ndV z C cap, .int .i64 least, .pointer (some ⟨pb, 0, none⟩)] w (WrOut base g S w (L ++ kidS p (z.kind, z.write))) := by
 have hlv : levelS z.kind = 0 ∧ z.kind = 2 ∨ levelS z.kind = 1 ∧ z.kind = 5 ∨ levelS z.kind = 2 ∧ z.kind = 4 ∨ levelS z.kind = 3 ∧ z.kind ≠ 2 ∧ z.kind ≠ 4 ∧ z.kind ≠ 5 := by
  unfold levelS
  repeat' split
  all_goals omega
 unfold leastS at hle
 unfold kidS at hl ⊢
 cases hb' : brS p z.kind with
 | true =>
  rw [if_pos rfl]
  rw [if_pos (show brS p (z.kind, z.write).1 = true from hb')] at hl
  simp only [List.length_cons, List.length_append, List.length_nil] at hl
  have hbr : z.kind = 5 ∨ p ≠ 5 ∧ (z.kind = 4 ∨ z.kind = 2) := by unfold brS at hb'; simpa using hb'
  split at hle
  ·exact kid_openB z C cap least base g pb S L w ht h hb hp hnp hk1 hk9 hW (by omega) (by omega) (by omega) (by omega)
  ·exact kid_openA z C cap least base g pb S L w ht h hb hp hnp hk1 hk9 hW (by omega) (by omega) (by omega)
 | false =>
  rw [if_neg (by decide)]
  rw [if_neg (show ¬ brS p (z.kind, z.write).1 = true from by rw [show brS p (z.kind, z.write).1 = false from hb']; decide)] at hl
  have hbr : z.kind ≠ 5 ∧ (p = 5 ∨ z.kind ≠ 4 ∧ z.kind ≠ 2) := by
   unfold brS at hb'
   simp at hb'
   refine ⟨hb'.1, ?_⟩
   by_cases hp5 : p = 5
   ·exact .inl hp5
   ·exact .inr (hb'.2 hp5)
  by_cases hlt : levelS z.kind < least
  ·split at hle
   ·exact kid_plainD z C cap least base g pb S L w ht h hb hp hnp hk1 hk9 hW hl hlt (by omega) (by omega)
   ·exact absurd hlt (by omega)
  ·exact kid_plainC z C cap least base g pb S L w ht h hb hp hnp hk1 hk9 hW hl hlt
def RGives (x : Nd) (j : Nat) (w : World) (e : Ending) (w' : World) : Prop :=
 ∃ B cap, e = .returned (.tuple #[ndV x B cap, .int .i64 (j : Int)]) ∧ Below w.heap.size w w' ∧ x.kids.len ≤ cap ∧ TreesAt w' (fun b => w.heap.size ≤ b) x.kids B
def Holds (w : World) (X : Nat) (z : Nd) (B : Option Addr) (cap : Nat) (wr : World) : Prop :=
 Blk wr X 28 (ndA z B cap) ∧ Blk wr w.heap.size 28 #[.int .i64 0, .int .u64 0, .int .u64 0, .int .u64 0, .int .u64 0, .slice none 0 0, .int .i64 0, .int .i64 0] ∧ Below w.heap.size w wr ∧ z.kids.len ≤ cap ∧ TreesAt wr (fun b => w.heap.size + 1 ≤ b ∧ b ≠ X) z.kids B ∧ w.heap.size < X
section
variable {w wr w2 w3 : World} {X : Nat} {z z' : Nd} {B B' : Option Addr} {cap cap' : Nat}
theorem Holds.below (h : Holds w X z B cap wr) (hb : Below wr.heap.size wr w2) : Holds w X z B cap w2 :=
 ⟨h.1.below hb h.1.lt, h.2.1.below hb h.2.1.lt, h.2.2.1.trans (hb.mono h.2.2.1.size), h.2.2.2.1, h.2.2.2.2.1.below hb, h.2.2.2.2.2⟩
theorem Holds.next (h : Holds w X z B cap wr) (hb : Below wr.heap.size wr w2) (hc : z'.kids.len ≤ cap') (ht : TreesAt w2 (fun b => w.heap.size + 1 ≤ b ∧ b ≠ X) z'.kids B')
  (hw : w3 = ((((((((w2.setCell ⟨X, 0, none⟩ (.int .i64 z'.kind)).setCell ⟨X, 1, none⟩ (.int .u64 (word z'.set.testBit 0))).setCell ⟨X, 2, none⟩ (.int .u64 (word z'.set.testBit 1))).setCell ⟨X, 3, none⟩ (.int .u64 (word z'.set.testBit 2))).setCell ⟨X, 4, none⟩ (.int .u64 (word z'.set.testBit 3))).setCell ⟨X, 5, none⟩ (.slice B' z'.kids.len cap')).setCell ⟨X, 6, none⟩ (.int .i64 z'.lo)).setCell ⟨X, 7, none⟩ (.int .i64 z'.hi))) :
  Holds w X z' B' cap' w3 := by
 have hg : w2.grownBy w3 (some X) := by rw [hw]; exact only_put8 _ _ _ _ _ _ _ _ _ _
 have h2 := h.below hb
 have hX := h.2.2.2.2.2
 refine ⟨by rw [hw]; exact h2.1.put8 _ _ _ _ _ _ _ _, h2.2.1.grown hg (fun e => by have := Option.some.inj e; omega), by rw [hw]; exact below_put8 h2.2.2.1 (Nat.le_of_lt hX) _ _ _ _ _ _ _ _, hc, ht.keep (fun b o hb hl => World.cell?_of_block (hg.block b hl (fun e => hb.2 (Option.some.inj e)))) (fun b hb _ => hb), hX⟩
theorem Holds.drew (h : Holds w X z B cap wr) : Holds w X z B cap wr.drew := ⟨h.1, h.2.1, h.2.2.1.drew, h.2.2.2.1, h.2.2.2.2.1.drew, h.2.2.2.2.2⟩
end
def InPiece (w : World) (X : Nat) (L : List Lex) (r : Nd × List Lex) (i : Value) (wr : World) : Prop :=
 ∃ j : Nat, ∃ z B cap, i = .int .i64 (j : Int) ∧ j ≤ L.length ∧ postsG z (L.drop j) = r ∧ Holds w X z B cap wr
theorem drop_cons {L : List Lex} {k : Nat} {x : Lex} (h : L[k]? = some x) : L.drop k = x :: L.drop (k + 1) := by
 obtain ⟨hlt, e⟩ := List.getElem?_eq_some_iff.1 h
 rw [List.drop_eq_getElem_cons hlt, e]
theorem LexsAt.at' {w : World} {B : Nat} {A : Option Addr} {L : List Lex} (h : LexsAt w B A L) {k : Nat} {x : Lex} (hx : L[k]? = some x) : ∃ b o, A = some ⟨b, o, none⟩ ∧ b < B ∧
  (w.cell? ⟨b, o + k * 8, none⟩ = some (.int .i64 x.kind) ∧ w.cell? ⟨b, o + k * 8 + 1, none⟩ = some (.int .i64 x.place) ∧
  w.cell? ⟨b, o + k * 8 + 2, none⟩ = some (.int .u64 (word x.set 0)) ∧ w.cell? ⟨b, o + k * 8 + 3, none⟩ = some (.int .u64 (word x.set 1)) ∧ w.cell? ⟨b, o + k * 8 + 4, none⟩ = some (.int .u64 (word x.set 2)) ∧ w.cell? ⟨b, o + k * 8 + 5, none⟩ = some (.int .u64 (word x.set 3)) ∧
  w.cell? ⟨b, o + k * 8 + 6, none⟩ = some (.int .i64 x.lo) ∧ w.cell? ⟨b, o + k * 8 + 7, none⟩ = some (.int .i64 x.hi)) := by
 obtain ⟨b, o, ha, hl, hc⟩ := h (by have := (List.getElem?_eq_some_iff.1 hx).1; omega)
 exact ⟨b, o, ha, hl, hc k x hx⟩
def Rd07 (L : List Lex) (r : Nd × List Lex) (w : World) : Ending → World → Prop := RGives r.1 (L.length - r.2.length) w
theorem Holds.done {w wr w' : World} {X : Nat} {z : Nd} {B : Option Addr} {cap : Nat} (h : Holds w X z B cap wr)
  (hw : w' = ((((((((wr.setCell ⟨w.heap.size, 0, none⟩ (.int .i64 z.kind)).setCell ⟨w.heap.size, 1, none⟩ (.int .u64 (word z.set.testBit 0))).setCell ⟨w.heap.size, 2, none⟩ (.int .u64 (word z.set.testBit 1))).setCell ⟨w.heap.size, 3, none⟩ (.int .u64 (word z.set.testBit 2))).setCell ⟨w.heap.size, 4, none⟩ (.int .u64 (word z.set.testBit 3))).setCell ⟨w.heap.size, 5, none⟩ (.slice B z.kids.len cap)).setCell ⟨w.heap.size, 6, none⟩ (.int .i64 z.lo)).setCell ⟨w.heap.size, 7, none⟩ (.int .i64 z.hi))) :
  Blk w' w.heap.size 28 (ndA z B cap) ∧ Below w.heap.size w w' ∧ TreesAt w' (fun b => w.heap.size ≤ b) z.kids B := by
 have hg : wr.grownBy w' (some w.heap.size) := by rw [hw]; exact only_put8 _ _ _ _ _ _ _ _ _ _
 refine ⟨by rw [hw]; exact h.2.1.put8 _ _ _ _ _ _ _ _, by rw [hw]; exact below_put8 h.2.2.1 (Nat.le_refl _) _ _ _ _ _ _ _ _, h.2.2.2.2.1.keep (fun b o hb hl => World.cell?_of_block (hg.block b hl (fun e => by have := Option.some.inj e; have := hb.1; omega))) (fun b hb _ => by have := hb.1; omega)⟩
theorem Holds.one {w wr : World} {X : Nat} {z : Nd} {B : Option Addr} {cap : Nat} (h : Holds w X z B cap wr) : TreesAt (wr.alloc (.cells (ndA z B cap) 28)) (fun b => w.heap.size + 1 ≤ b ∧ b ≠ X) (Trees.of [z]) (some ⟨wr.heap.size, 0, none⟩) := by
 have h1 := h.2.1.lt
 have h2 := h.1.lt
 exact TreesAt.one (Blk.new _ _ _) h.2.2.2.1 (h.2.2.2.2.1.below ((Below.refl _ _).alloc (Nat.le_refl _) _)) ⟨by omega, by omega⟩
theorem piece_set (A : Option Addr) (cap0 : Nat) (L : List Lex) (i : Nat) (x : Lex) (w : World) (hx : L[i]? = some x) (h1 : x.kind = 1) (hA : LexsAt w w.heap.size A L) (hlen : L.length ≤ 100000) :
  Calls Tryz.prog 264 #[.slice A L.length cap0, .int .i64 (i : Int)] w (Rd07 L (postsG (leafN (maskOf x.set)) (L.drop (i + 1))) w) := by
 generalize hr : postsG (leafN (maskOf x.set)) (L.drop (i + 1)) = r
 have Hr := Lib.hid hr
 clear hr
 have hlt := (List.getElem?_eq_some_iff.1 hx).1
 obtain ⟨b, o, rfl, hbl, hc⟩ := hA.at' hx
 have hdi : (i : Int) < (L.length : Int) := by omega
 have hb1 : Below w.heap.size w (w.alloc (.cells #[.int .i64 0, .int .u64 0, .int .u64 0, .int .u64 0, .int .u64 0, .slice none 0 0, .int .i64 0, .int .i64 0] 28)) := (Below.refl _ _).alloc (Nat.le_refl _) _
 have HA := Lib.hid hA
 obtain ⟨c0, _, c2, c3, c4, c5, _⟩ := hc
 rw [h1] at c0
 have c3' : w.cell? ⟨b, o + i * 8 + 2 + 1, none⟩ = some (.int .u64 (word x.set 1)) := c3
 have c4' : w.cell? ⟨b, o + i * 8 + 2 + 2, none⟩ = some (.int .u64 (word x.set 2)) := c4
 have c5' : w.cell? ⟨b, o + i * 8 + 2 + 3, none⟩ = some (.int .u64 (word x.set 3)) := c5
 have HZ := Lib.hid (Blk.new w 28 #[.int .i64 0, .int .u64 0, .int .u64 0, .int .u64 0, .int .u64 0, .slice none 0 0, .int .i64 0, .int .i64 0])
 have HB := Lib.hid hb1
 have Hx := Lib.hid hx
 clear hA hb1 c3 c4 c5 hx h1
 go_enter Tryz.func264, Tryz.ntmps264
 go_wp2_with fail
 refine (nbytes_any x.set _).mono ?_
 rintro e w2 ⟨rfl, hb2⟩
 have hc0 := (hb2.cell (p := ⟨b, o + i * 8, none⟩) (by simp; omega)).trans ((HB.out.cell (p := ⟨b, o + i * 8, none⟩) hbl).trans c0)
 have hw2 : w.heap.size < w2.heap.size := by have := hb2.size; simp at this; omega
 have hbl2 : b < w2.heap.size := by omega
 have H0 : Hid (InPiece w w2.heap.size L r (.int .i64 ((i : Int) + 1)) (w2.alloc (.cells (ndA (leafN (maskOf x.set)) none 0) 28))) :=
  Lib.hid ⟨i + 1, leafN (maskOf x.set), none, 0, by go_num, by omega, Hr.out, Blk.new _ _ _, (HZ.out.below hb2 HZ.out.lt).alloc _, (HB.out.trans (hb2.mono HB.out.size)).alloc (by omega) _, Nat.le_refl _, trivial, hw2⟩
 clear hb2 HZ HB c0 c2 c3' c4' c5'
 have hv3 : ndV (leafN (maskOf x.set)) none 0 = .agg #[.int .i64 3, .int .u64 ((word ((maskOf x.set).testBit) 0 : Nat) : Int), .int .u64 ((word ((maskOf x.set).testBit) 1 : Nat) : Int), .int .u64 ((word ((maskOf x.set).testBit) 2 : Nat) : Int), .int .u64 ((word ((maskOf x.set).testBit) 3 : Nat) : Int), .slice none 0 0, .int .i64 0, .int .i64 0] := rfl
 rw [hv3]
 clear hv3
 dsimp only
 go_wp2
 go_loopw [7] (fun i wr => InPiece w w2.heap.size L r i wr) (fun i _ => L.length - (intOf i).toNat)
 case atStart => exact H0.out
 case round =>
  clear H0 hc0
  generalize hX : w2.heap.size = X at *
  clear hX
  obtain ⟨j, z, B, cap, rfl, hj, hz, hH⟩ := hrel
  have HH := Lib.hid hH
  have hzl := hH.2.1.lt
  have hXl := hH.1.lt
  have hwX := hH.2.2.2.2.2
  have x0 : wr.cell? ⟨X, 0, none⟩ = some (.int .i64 z.kind) := hH.1.cell 0
  have x1 : wr.cell? ⟨X, 1, none⟩ = some (.int .u64 (word z.set.testBit 0)) := hH.1.cell 1
  have x2 : wr.cell? ⟨X, 2, none⟩ = some (.int .u64 (word z.set.testBit 1)) := hH.1.cell 2
  have x3 : wr.cell? ⟨X, 3, none⟩ = some (.int .u64 (word z.set.testBit 2)) := hH.1.cell 3
  have x4 : wr.cell? ⟨X, 4, none⟩ = some (.int .u64 (word z.set.testBit 3)) := hH.1.cell 4
  have x5 : wr.cell? ⟨X, 5, none⟩ = some (.slice B z.kids.len cap) := hH.1.cell 5
  have x6 : wr.cell? ⟨X, 6, none⟩ = some (.int .i64 z.lo) := hH.1.cell 6
  have x7 : wr.cell? ⟨X, 7, none⟩ = some (.int .i64 z.hi) := hH.1.cell 7
  have f0 := hH.1.frozen 0
  have f1 := hH.1.frozen 1
  have f2 := hH.1.frozen 2
  have f3 := hH.1.frozen 3
  have f4 := hH.1.frozen 4
  have f5 := hH.1.frozen 5
  have f6 := hH.1.frozen 6
  have f7 := hH.1.frozen 7
  have y0 : wr.cell? ⟨w.heap.size, 0, none⟩ = some (.int .i64 0) := hH.2.1.cell 0
  have y1 : wr.cell? ⟨w.heap.size, 1, none⟩ = some (.int .u64 0) := hH.2.1.cell 1
  have y2 : wr.cell? ⟨w.heap.size, 2, none⟩ = some (.int .u64 0) := hH.2.1.cell 2
  have y3 : wr.cell? ⟨w.heap.size, 3, none⟩ = some (.int .u64 0) := hH.2.1.cell 3
  have y4 : wr.cell? ⟨w.heap.size, 4, none⟩ = some (.int .u64 0) := hH.2.1.cell 4
  have y5 : wr.cell? ⟨w.heap.size, 5, none⟩ = some (.slice none 0 0) := hH.2.1.cell 5
  have y6 : wr.cell? ⟨w.heap.size, 6, none⟩ = some (.int .i64 0) := hH.2.1.cell 6
  have y7 : wr.cell? ⟨w.heap.size, 7, none⟩ = some (.int .i64 0) := hH.2.1.cell 7
  have g0 := hH.2.1.frozen 0
  have g1 := hH.2.1.frozen 1
  have g2 := hH.2.1.frozen 2
  have g3 := hH.2.1.frozen 3
  have g4 := hH.2.1.frozen 4
  have g5 := hH.2.1.frozen 5
  have g6 := hH.2.1.frozen 6
  have g7 := hH.2.1.frozen 7
  by_cases hlt : j < L.length
  ·obtain ⟨y, hy⟩ : ∃ y, L[j]? = some y := ⟨_, List.getElem?_eq_getElem hlt⟩
   obtain ⟨b', o', hbo, hbl', c0, _, _, _, _, _, c6, c7⟩ := ((HA.out.below hH.2.2.1).more hH.2.2.1.size).at' hy
   obtain ⟨rfl, rfl⟩ : b = b' ∧ o = o' := by simpa using hbo
   have hdl : (j : Int) < (L.length : Int) := by omega
   clear hbo
   rw [drop_cons hy] at hz
   clear hH hy
   by_cases hpost : isPost y.kind = true
   ·have hk5 := (isPost_iff _).1 hpost
    have HR := Lib.hid ((postsG_go hpost).symm.trans hz)
    have hk : y.kind = 5 ∨ y.kind = 6 ∨ y.kind = 7 ∨ y.kind = 8 := by omega
    clear hpost hz g0 g1 g2 g3 g4 g5 g6 g7 y0 y1 y2 y3 y4 y5 y6 y7 hk5
    rcases hk with hk | hk | hk | hk
    ·have HZ := Lib.hid (show postsG ⟨6, 0, Trees.of [z], 0, 0⟩ (L.drop (j + 1)) = r by rw [← HR.out]; unfold postN; rw [if_neg (by omega), hk]; rfl)
     have HO := Lib.hid (nof_go 6 _ (some ⟨wr.heap.size, 0, none⟩) 1 [z] _ (by simp) (by simp) HH.out.one)
     rw [hk] at c0
     go_wp2_with fail
     refine HO.out.mono ?_
     rintro e w2 ⟨B2, cap2, rfl, hb2, hc2, ht2⟩
     have hb2' := ((Below.refl wr.heap.size wr).alloc (Nat.le_refl _) (.cells (ndA z B cap) 28)).trans (hb2.mono (by simp))
     have hH2 := HH.out.below hb2'
     have x0 : w2.cell? ⟨X, 0, none⟩ = some (.int .i64 z.kind) := hH2.1.cell 0
     have x1 : w2.cell? ⟨X, 1, none⟩ = some (.int .u64 (word z.set.testBit 0)) := hH2.1.cell 1
     have x2 : w2.cell? ⟨X, 2, none⟩ = some (.int .u64 (word z.set.testBit 1)) := hH2.1.cell 2
     have x3 : w2.cell? ⟨X, 3, none⟩ = some (.int .u64 (word z.set.testBit 2)) := hH2.1.cell 3
     have x4 : w2.cell? ⟨X, 4, none⟩ = some (.int .u64 (word z.set.testBit 3)) := hH2.1.cell 4
     have x5 : w2.cell? ⟨X, 5, none⟩ = some (.slice B z.kids.len cap) := hH2.1.cell 5
     have x6 : w2.cell? ⟨X, 6, none⟩ = some (.int .i64 z.lo) := hH2.1.cell 6
     have x7 : w2.cell? ⟨X, 7, none⟩ = some (.int .i64 z.hi) := hH2.1.cell 7
     have f0 := hH2.1.frozen 0
     have f1 := hH2.1.frozen 1
     have f2 := hH2.1.frozen 2
     have f3 := hH2.1.frozen 3
     have f4 := hH2.1.frozen 4
     have f5 := hH2.1.frozen 5
     have f6 := hH2.1.frozen 6
     have f7 := hH2.1.frozen 7
     have HT2 := Lib.hid (ht2.weak (Q := fun b => w.heap.size + 1 ≤ b ∧ b ≠ X) (fun b hb _ => by rcases hb with h | h; exact h; simp at h; omega))
     have HB2 := Lib.hid hb2'
     clear hb2 hb2' hH2 ht2 HO
     rw [ndV_plain]
     dsimp only
     go_wp2
     go_light
     go_roundw
     case rel => exact ⟨j + 1, _, B2, cap2, by go_num, by omega, HZ.out, HH.out.next (z' := ⟨6, 0, Trees.of [z], 0, 0⟩) HB2.out hc2 HT2.out (by simp only [word_zero]; rfl)⟩
     case measure => simp [intOf]; omega
    ·have HZ := Lib.hid (show postsG ⟨7, 0, Trees.of [z], 0, 0⟩ (L.drop (j + 1)) = r by rw [← HR.out]; unfold postN; rw [if_neg (by omega), hk]; rfl)
     have HO := Lib.hid (nof_go 7 _ (some ⟨wr.heap.size, 0, none⟩) 1 [z] _ (by simp) (by simp) HH.out.one)
     rw [hk] at c0
     go_wp2_with fail
     refine HO.out.mono ?_
     rintro e w2 ⟨B2, cap2, rfl, hb2, hc2, ht2⟩
     have hb2' := ((Below.refl wr.heap.size wr).alloc (Nat.le_refl _) (.cells (ndA z B cap) 28)).trans (hb2.mono (by simp))
     have hH2 := HH.out.below hb2'
     have x0 : w2.cell? ⟨X, 0, none⟩ = some (.int .i64 z.kind) := hH2.1.cell 0
     have x1 : w2.cell? ⟨X, 1, none⟩ = some (.int .u64 (word z.set.testBit 0)) := hH2.1.cell 1
     have x2 : w2.cell? ⟨X, 2, none⟩ = some (.int .u64 (word z.set.testBit 1)) := hH2.1.cell 2
     have x3 : w2.cell? ⟨X, 3, none⟩ = some (.int .u64 (word z.set.testBit 2)) := hH2.1.cell 3
     have x4 : w2.cell? ⟨X, 4, none⟩ = some (.int .u64 (word z.set.testBit 3)) := hH2.1.cell 4
     have x5 : w2.cell? ⟨X, 5, none⟩ = some (.slice B z.kids.len cap) := hH2.1.cell 5
     have x6 : w2.cell? ⟨X, 6, none⟩ = some (.int .i64 z.lo) := hH2.1.cell 6
     have x7 : w2.cell? ⟨X, 7, none⟩ = some (.int .i64 z.hi) := hH2.1.cell 7
     have f0 := hH2.1.frozen 0
     have f1 := hH2.1.frozen 1
     have f2 := hH2.1.frozen 2
     have f3 := hH2.1.frozen 3
     have f4 := hH2.1.frozen 4
     have f5 := hH2.1.frozen 5
     have f6 := hH2.1.frozen 6
     have f7 := hH2.1.frozen 7
     have HT2 := Lib.hid (ht2.weak (Q := fun b => w.heap.size + 1 ≤ b ∧ b ≠ X) (fun b hb _ => by rcases hb with h | h; exact h; simp at h; omega))
     have HB2 := Lib.hid hb2'
     clear hb2 hb2' hH2 ht2 HO
     rw [ndV_plain]
     dsimp only
     go_wp2
     go_light
     go_roundw
     case rel => exact ⟨j + 1, _, B2, cap2, by go_num, by omega, HZ.out, HH.out.next (z' := ⟨7, 0, Trees.of [z], 0, 0⟩) HB2.out hc2 HT2.out (by simp only [word_zero]; rfl)⟩
     case measure => simp [intOf]; omega
    ·have HZ := Lib.hid (show postsG ⟨8, 0, Trees.of [z], 0, 0⟩ (L.drop (j + 1)) = r by rw [← HR.out]; unfold postN; rw [if_neg (by omega), hk]; rfl)
     have HO := Lib.hid (nof_go 8 _ (some ⟨wr.heap.size, 0, none⟩) 1 [z] _ (by simp) (by simp) HH.out.one)
     rw [hk] at c0
     go_wp2_with fail
     refine HO.out.mono ?_
     rintro e w2 ⟨B2, cap2, rfl, hb2, hc2, ht2⟩
     have hb2' := ((Below.refl wr.heap.size wr).alloc (Nat.le_refl _) (.cells (ndA z B cap) 28)).trans (hb2.mono (by simp))
     have hH2 := HH.out.below hb2'
     have x0 : w2.cell? ⟨X, 0, none⟩ = some (.int .i64 z.kind) := hH2.1.cell 0
     have x1 : w2.cell? ⟨X, 1, none⟩ = some (.int .u64 (word z.set.testBit 0)) := hH2.1.cell 1
     have x2 : w2.cell? ⟨X, 2, none⟩ = some (.int .u64 (word z.set.testBit 1)) := hH2.1.cell 2
     have x3 : w2.cell? ⟨X, 3, none⟩ = some (.int .u64 (word z.set.testBit 2)) := hH2.1.cell 3
     have x4 : w2.cell? ⟨X, 4, none⟩ = some (.int .u64 (word z.set.testBit 3)) := hH2.1.cell 4
     have x5 : w2.cell? ⟨X, 5, none⟩ = some (.slice B z.kids.len cap) := hH2.1.cell 5
     have x6 : w2.cell? ⟨X, 6, none⟩ = some (.int .i64 z.lo) := hH2.1.cell 6
     have x7 : w2.cell? ⟨X, 7, none⟩ = some (.int .i64 z.hi) := hH2.1.cell 7
     have f0 := hH2.1.frozen 0
     have f1 := hH2.1.frozen 1
     have f2 := hH2.1.frozen 2
     have f3 := hH2.1.frozen 3
     have f4 := hH2.1.frozen 4
     have f5 := hH2.1.frozen 5
     have f6 := hH2.1.frozen 6
     have f7 := hH2.1.frozen 7
     have HT2 := Lib.hid (ht2.weak (Q := fun b => w.heap.size + 1 ≤ b ∧ b ≠ X) (fun b hb _ => by rcases hb with h | h; exact h; simp at h; omega))
     have HB2 := Lib.hid hb2'
     clear hb2 hb2' hH2 ht2 HO
     rw [ndV_plain]
     dsimp only
     go_wp2
     go_light
     go_roundw
     case rel => exact ⟨j + 1, _, B2, cap2, by go_num, by omega, HZ.out, HH.out.next (z' := ⟨8, 0, Trees.of [z], 0, 0⟩) HB2.out hc2 HT2.out (by simp only [word_zero]; rfl)⟩
     case measure => simp [intOf]; omega
    ·have HZ := Lib.hid (show postsG ⟨9, 0, Trees.of [z], y.lo, y.hi⟩ (L.drop (j + 1)) = r by rw [← HR.out]; unfold postN; rw [if_pos hk])
     rw [hk] at c0
     obtain ⟨W1, hW1⟩ : ∃ W1, wr.alloc (.cells #[.int .i64 z.kind, .int .u64 (word z.set.testBit 0), .int .u64 (word z.set.testBit 1), .int .u64 (word z.set.testBit 2), .int .u64 (word z.set.testBit 3), .slice B z.kids.len cap, .int .i64 z.lo, .int .i64 z.hi] 28) = W1 := ⟨_, rfl⟩
     have hb1 : Below wr.heap.size wr W1 := by rw [← hW1]; exact (Below.refl wr.heap.size wr).alloc (Nat.le_refl _) _
     have hH1 := HH.out.below hb1
     have HO := Lib.hid (nrep_go (fun b => w.heap.size + 1 ≤ b ∧ b ≠ X) z B cap y.lo y.hi W1.drew hH1.2.2.2.1 hH1.drew.2.2.2.2.1)
     have c6 := (hb1.cell (p := ⟨b, o + j * 8 + 6, none⟩) hbl').trans c6
     have c7 := (hb1.cell (p := ⟨b, o + j * 8 + 7, none⟩) hbl').trans c7
     have c0 := (hb1.cell (p := ⟨b, o + j * 8, none⟩) hbl').trans c0
     have HW1 := Lib.hid hW1
     have HH1 := Lib.hid hH1
     have HB1 := Lib.hid hb1
     go_wp2
     clear hW1 hb1 x0 x1 x2 x3 x4 x5 x6 x7 f0 f1 f2 f3 f4 f5 f6 f7 c0
     have x0 : W1.cell? ⟨X, 0, none⟩ = some (.int .i64 z.kind) := hH1.1.cell 0
     have x1 : W1.cell? ⟨X, 1, none⟩ = some (.int .u64 (word z.set.testBit 0)) := hH1.1.cell 1
     have x2 : W1.cell? ⟨X, 2, none⟩ = some (.int .u64 (word z.set.testBit 1)) := hH1.1.cell 2
     have x3 : W1.cell? ⟨X, 3, none⟩ = some (.int .u64 (word z.set.testBit 2)) := hH1.1.cell 3
     have x4 : W1.cell? ⟨X, 4, none⟩ = some (.int .u64 (word z.set.testBit 3)) := hH1.1.cell 4
     have x5 : W1.cell? ⟨X, 5, none⟩ = some (.slice B z.kids.len cap) := hH1.1.cell 5
     have x6 : W1.cell? ⟨X, 6, none⟩ = some (.int .i64 z.lo) := hH1.1.cell 6
     have x7 : W1.cell? ⟨X, 7, none⟩ = some (.int .i64 z.hi) := hH1.1.cell 7
     have f0 := hH1.1.frozen 0
     have f1 := hH1.1.frozen 1
     have f2 := hH1.1.frozen 2
     have f3 := hH1.1.frozen 3
     have f4 := hH1.1.frozen 4
     have f5 := hH1.1.frozen 5
     have f6 := hH1.1.frozen 6
     have f7 := hH1.1.frozen 7
     clear hH1
     go_still_tail 11, (by kernel_rfl)
     change wpList _ _ _ _ _ W1.drew
     clear c0 c6 c7
     go_wp2_with fail
     refine HO.out.mono ?_
     rintro e w3 ⟨B2, cap2, rfl, hb2, hc2, ht2⟩
     have hb2' := ((HB1.out.drew).trans (hb2.mono (by have := HB1.out.size; exact this)))
     have hH2 := HH.out.below hb2'
     have hX1 := HH1.out.1.lt
     clear x0 x1 x2 x3 x4 x5 x6 x7 f0 f1 f2 f3 f4 f5 f6 f7
     have x0 : w3.cell? ⟨X, 0, none⟩ = some (.int .i64 z.kind) := hH2.1.cell 0
     have x1 : w3.cell? ⟨X, 1, none⟩ = some (.int .u64 (word z.set.testBit 0)) := hH2.1.cell 1
     have x2 : w3.cell? ⟨X, 2, none⟩ = some (.int .u64 (word z.set.testBit 1)) := hH2.1.cell 2
     have x3 : w3.cell? ⟨X, 3, none⟩ = some (.int .u64 (word z.set.testBit 2)) := hH2.1.cell 3
     have x4 : w3.cell? ⟨X, 4, none⟩ = some (.int .u64 (word z.set.testBit 3)) := hH2.1.cell 4
     have x5 : w3.cell? ⟨X, 5, none⟩ = some (.slice B z.kids.len cap) := hH2.1.cell 5
     have x6 : w3.cell? ⟨X, 6, none⟩ = some (.int .i64 z.lo) := hH2.1.cell 6
     have x7 : w3.cell? ⟨X, 7, none⟩ = some (.int .i64 z.hi) := hH2.1.cell 7
     have f0 := hH2.1.frozen 0
     have f1 := hH2.1.frozen 1
     have f2 := hH2.1.frozen 2
     have f3 := hH2.1.frozen 3
     have f4 := hH2.1.frozen 4
     have f5 := hH2.1.frozen 5
     have f6 := hH2.1.frozen 6
     have f7 := hH2.1.frozen 7
     have HT2 := Lib.hid (ht2.weak (Q := fun b => w.heap.size + 1 ≤ b ∧ b ≠ X) (fun b hb _ => by rcases hb with h | h; exact h; exact ⟨by have := HB1.out.size; have : W1.heap.size ≤ b := h; omega, by have : W1.heap.size ≤ b := h; omega⟩))
     have HB2 := Lib.hid hb2'
     clear hb2 hb2' hH2 ht2 HO
     have hv9 : ndV ⟨9, 0, Trees.of [z], y.lo, y.hi⟩ B2 cap2 = .agg #[.int .i64 9, .int .u64 0, .int .u64 0, .int .u64 0, .int .u64 0, .slice B2 (Trees.of [z]).len cap2, .int .i64 y.lo, .int .i64 y.hi] := ndV_plain _ _ _ _ _ _
     rw [hv9]
     clear hv9
     dsimp only
     go_wp2
     go_light
     go_roundw
     case rel => exact ⟨j + 1, _, B2, cap2, by go_num, by omega, HZ.out, HH.out.next (z' := ⟨9, 0, Trees.of [z], y.lo, y.hi⟩) HB2.out hc2 HT2.out (by simp only [word_zero]; rfl)⟩
     case measure => simp [intOf]; omega
   ·have hk5 : ¬ (5 ≤ y.kind ∧ y.kind ≤ 8) := fun h => hpost ((isPost_iff _).2 h)
    have k5 : (y.kind == 5) = false := by simp; omega
    have k6 : (y.kind == 6) = false := by simp; omega
    have k7 : (y.kind == 7) = false := by simp; omega
    have k8 : (y.kind == 8) = false := by simp; omega
    have HR := Lib.hid ((postsG_stop (by simpa using hpost)).symm.trans hz)
    have hjl : L.length - (y :: L.drop (j + 1)).length = j := by simp; omega
    have Hjl := Lib.hid hjl
    clear hz hpost hk5 hjl
    go_wp2
    go_light
    have hF := HH.out.done rfl
    rw [← HR.out]
    exact bodyPost_ret (ret_atom Tryz.results264 rfl rfl (Blk.alloc hF.1 _)) rfl ⟨B, cap, by show _ = Ending.returned (.tuple #[_, .int .i64 ((L.length - (y :: L.drop (j + 1)).length : Nat) : Int)]); rw [Hjl.out]; rfl, hF.2.1.alloc hF.2.1.size _, HH.out.2.2.2.1, hF.2.2.below ((Below.refl _ _).alloc (Nat.le_refl _) _)⟩
  ·have hdr : L.drop j = [] := List.drop_eq_nil_of_le (by omega)
   rw [hdr] at hz
   have HR := Lib.hid hz
   have Hjl := Lib.hid (show L.length - ([] : List Lex).length = j by simp; omega)
   have hdl : ¬ (j : Int) < (L.length : Int) := by omega
   clear hz hH hdr
   go_wp2
   go_light
   have hF := HH.out.done rfl
   rw [← HR.out]
   exact bodyPost_ret (ret_atom Tryz.results264 rfl rfl hF.1) rfl ⟨B, cap, by show _ = Ending.returned (.tuple #[_, .int .i64 ((L.length - ([] : List Lex).length : Nat) : Int)]); rw [Hjl.out]; rfl, hF.2.1, HH.out.2.2.2.1, hF.2.2⟩
theorem piece_open (A : Option Addr) (cap0 : Nat) (L : List Lex) (i j0 : Nat) (y0 : Lex) (x : Nd) (w : World) (hx : L[i]? = some y0) (h2 : y0.kind = 2) (hA : LexsAt w w.heap.size A L) (hlen : L.length ≤ 100000) (hj0 : j0 + 1 ≤ L.length)
  (halt : ∀ w1, LexsAt w1 w1.heap.size A L → Calls Tryz.prog 215 #[.slice A L.length cap0, .int .i64 ((i : Int) + 1)] w1 (RGives x j0 w1)) :
  Calls Tryz.prog 264 #[.slice A L.length cap0, .int .i64 (i : Int)] w (Rd07 L (postsG x (L.drop (j0 + 1))) w) := by
 generalize hr : postsG x (L.drop (j0 + 1)) = r
 have Hr := Lib.hid hr
 clear hr
 have hlt := (List.getElem?_eq_some_iff.1 hx).1
 obtain ⟨b, o, rfl, hbl, hc⟩ := hA.at' hx
 have hdi : (i : Int) < (L.length : Int) := by omega
 have hb1 : Below w.heap.size w (w.alloc (.cells #[.int .i64 0, .int .u64 0, .int .u64 0, .int .u64 0, .int .u64 0, .slice none 0 0, .int .i64 0, .int .i64 0] 28)) := (Below.refl _ _).alloc (Nat.le_refl _) _
 have HA := Lib.hid hA
 obtain ⟨c0, _, c2, c3, c4, c5, _⟩ := hc
 rw [h2] at c0
 have c3' : w.cell? ⟨b, o + i * 8 + 2 + 1, none⟩ = some (.int .u64 (word y0.set 1)) := c3
 have c4' : w.cell? ⟨b, o + i * 8 + 2 + 2, none⟩ = some (.int .u64 (word y0.set 2)) := c4
 have c5' : w.cell? ⟨b, o + i * 8 + 2 + 3, none⟩ = some (.int .u64 (word y0.set 3)) := c5
 have HZ := Lib.hid (Blk.new w 28 #[.int .i64 0, .int .u64 0, .int .u64 0, .int .u64 0, .int .u64 0, .slice none 0 0, .int .i64 0, .int .i64 0])
 have HB := Lib.hid hb1
 have Halt := Lib.hid halt
 clear hA hb1 c3 c4 c5 hx h2 halt
 go_enter Tryz.func264, Tryz.ntmps264
 go_wp2_with fail
 refine (nbytes_any y0.set _).mono ?_
 rintro e w2 ⟨rfl, hb2⟩
 have hc0 := (hb2.cell (p := ⟨b, o + i * 8, none⟩) (by simp; omega)).trans ((HB.out.cell (p := ⟨b, o + i * 8, none⟩) hbl).trans c0)
 have hw2 : w.heap.size < w2.heap.size := by have := hb2.size; simp at this; omega
 have hbl2 : b < w2.heap.size := by omega
 have hH3 : Holds w w2.heap.size (leafN (maskOf y0.set)) none 0 (w2.alloc (.cells (ndA (leafN (maskOf y0.set)) none 0) 28)) :=
  ⟨Blk.new _ _ _, (HZ.out.below hb2 HZ.out.lt).alloc _, (HB.out.trans (hb2.mono HB.out.size)).alloc (by omega) _, Nat.le_refl _, trivial, hw2⟩
 have HH3 := Lib.hid hH3
 have HL3 := Lib.hid ((HA.out.below hH3.2.2.1).more hH3.2.2.1.size)
 clear hb2 HZ HB c0 c2 c3' c4' c5' hH3
 have hv3 : ndV (leafN (maskOf y0.set)) none 0 = .agg #[.int .i64 3, .int .u64 ((word ((maskOf y0.set).testBit) 0 : Nat) : Int), .int .u64 ((word ((maskOf y0.set).testBit) 1 : Nat) : Int), .int .u64 ((word ((maskOf y0.set).testBit) 2 : Nat) : Int), .int .u64 ((word ((maskOf y0.set).testBit) 3 : Nat) : Int), .slice none 0 0, .int .i64 0, .int .i64 0] := rfl
 rw [hv3]
 clear hv3
 dsimp only
 go_wp2_with fail
 refine (Halt.out _ HL3.out).mono ?_
 rintro e w4 ⟨B4, cap4, rfl, hb4, hc4, ht4⟩
 have hH4 := HH3.out.below hb4
 have hX3 := HH3.out.1.lt
 have hZ3 := HH3.out.2.1.lt
 have x0 : w4.cell? ⟨w2.heap.size, 0, none⟩ = some (.int .i64 3) := hH4.1.cell 0
 have x1 : w4.cell? ⟨w2.heap.size, 1, none⟩ = some (.int .u64 ((word (maskOf y0.set).testBit 0 : Nat) : Int)) := hH4.1.cell 1
 have x2 : w4.cell? ⟨w2.heap.size, 2, none⟩ = some (.int .u64 ((word (maskOf y0.set).testBit 1 : Nat) : Int)) := hH4.1.cell 2
 have x3 : w4.cell? ⟨w2.heap.size, 3, none⟩ = some (.int .u64 ((word (maskOf y0.set).testBit 2 : Nat) : Int)) := hH4.1.cell 3
 have x4 : w4.cell? ⟨w2.heap.size, 4, none⟩ = some (.int .u64 ((word (maskOf y0.set).testBit 3 : Nat) : Int)) := hH4.1.cell 4
 have x5 : w4.cell? ⟨w2.heap.size, 5, none⟩ = some (.slice none 0 0) := hH4.1.cell 5
 have x6 : w4.cell? ⟨w2.heap.size, 6, none⟩ = some (.int .i64 0) := hH4.1.cell 6
 have x7 : w4.cell? ⟨w2.heap.size, 7, none⟩ = some (.int .i64 0) := hH4.1.cell 7
 have f0 := hH4.1.frozen 0
 have f1 := hH4.1.frozen 1
 have f2 := hH4.1.frozen 2
 have f3 := hH4.1.frozen 3
 have f4 := hH4.1.frozen 4
 have f5 := hH4.1.frozen 5
 have f6 := hH4.1.frozen 6
 have f7 := hH4.1.frozen 7
 have HT4 := Lib.hid (ht4.weak (Q := fun b => w.heap.size + 1 ≤ b ∧ b ≠ w2.heap.size) (fun b hb _ => ⟨by omega, by omega⟩))
 have HB4 := Lib.hid hb4
 clear hb4 ht4 hH4 HL3 Halt
 unfold ndV
 dsimp only
 go_wp2
 have H0 : Hid (InPiece w w2.heap.size L r (.int .i64 ((j0 : Int) + 1)) ((((((((w4.setCell ⟨w2.heap.size, 0, none⟩ (.int .i64 x.kind)).setCell ⟨w2.heap.size, 1, none⟩ (.int .u64 (word x.set.testBit 0))).setCell ⟨w2.heap.size, 2, none⟩ (.int .u64 (word x.set.testBit 1))).setCell ⟨w2.heap.size, 3, none⟩ (.int .u64 (word x.set.testBit 2))).setCell ⟨w2.heap.size, 4, none⟩ (.int .u64 (word x.set.testBit 3))).setCell ⟨w2.heap.size, 5, none⟩ (.slice B4 x.kids.len cap4)).setCell ⟨w2.heap.size, 6, none⟩ (.int .i64 x.lo)).setCell ⟨w2.heap.size, 7, none⟩ (.int .i64 x.hi))) :=
  Lib.hid ⟨j0 + 1, x, B4, cap4, by go_num, hj0, Hr.out, HH3.out.next HB4.out hc4 HT4.out rfl⟩
 clear x0 x1 x2 x3 x4 x5 x6 x7 f0 f1 f2 f3 f4 f5 f6 f7 HH3 HT4 HB4 hX3 hZ3
 go_loopw [7] (fun i wr => InPiece w w2.heap.size L r i wr) (fun i _ => L.length - (intOf i).toNat)
 case atStart => exact H0.out
 case round =>
  clear H0 hc0
  generalize hX : w2.heap.size = X at *
  clear hX
  obtain ⟨j, z, B, cap, rfl, hj, hz, hH⟩ := hrel
  have HH := Lib.hid hH
  have hzl := hH.2.1.lt
  have hXl := hH.1.lt
  have hwX := hH.2.2.2.2.2
  have x0 : wr.cell? ⟨X, 0, none⟩ = some (.int .i64 z.kind) := hH.1.cell 0
  have x1 : wr.cell? ⟨X, 1, none⟩ = some (.int .u64 (word z.set.testBit 0)) := hH.1.cell 1
  have x2 : wr.cell? ⟨X, 2, none⟩ = some (.int .u64 (word z.set.testBit 1)) := hH.1.cell 2
  have x3 : wr.cell? ⟨X, 3, none⟩ = some (.int .u64 (word z.set.testBit 2)) := hH.1.cell 3
  have x4 : wr.cell? ⟨X, 4, none⟩ = some (.int .u64 (word z.set.testBit 3)) := hH.1.cell 4
  have x5 : wr.cell? ⟨X, 5, none⟩ = some (.slice B z.kids.len cap) := hH.1.cell 5
  have x6 : wr.cell? ⟨X, 6, none⟩ = some (.int .i64 z.lo) := hH.1.cell 6
  have x7 : wr.cell? ⟨X, 7, none⟩ = some (.int .i64 z.hi) := hH.1.cell 7
  have f0 := hH.1.frozen 0
  have f1 := hH.1.frozen 1
  have f2 := hH.1.frozen 2
  have f3 := hH.1.frozen 3
  have f4 := hH.1.frozen 4
  have f5 := hH.1.frozen 5
  have f6 := hH.1.frozen 6
  have f7 := hH.1.frozen 7
  have y0 : wr.cell? ⟨w.heap.size, 0, none⟩ = some (.int .i64 0) := hH.2.1.cell 0
  have y1 : wr.cell? ⟨w.heap.size, 1, none⟩ = some (.int .u64 0) := hH.2.1.cell 1
  have y2 : wr.cell? ⟨w.heap.size, 2, none⟩ = some (.int .u64 0) := hH.2.1.cell 2
  have y3 : wr.cell? ⟨w.heap.size, 3, none⟩ = some (.int .u64 0) := hH.2.1.cell 3
  have y4 : wr.cell? ⟨w.heap.size, 4, none⟩ = some (.int .u64 0) := hH.2.1.cell 4
  have y5 : wr.cell? ⟨w.heap.size, 5, none⟩ = some (.slice none 0 0) := hH.2.1.cell 5
  have y6 : wr.cell? ⟨w.heap.size, 6, none⟩ = some (.int .i64 0) := hH.2.1.cell 6
  have y7 : wr.cell? ⟨w.heap.size, 7, none⟩ = some (.int .i64 0) := hH.2.1.cell 7
  have g0 := hH.2.1.frozen 0
  have g1 := hH.2.1.frozen 1
  have g2 := hH.2.1.frozen 2
  have g3 := hH.2.1.frozen 3
  have g4 := hH.2.1.frozen 4
  have g5 := hH.2.1.frozen 5
  have g6 := hH.2.1.frozen 6
  have g7 := hH.2.1.frozen 7
  by_cases hlt : j < L.length
  ·obtain ⟨y, hy⟩ : ∃ y, L[j]? = some y := ⟨_, List.getElem?_eq_getElem hlt⟩
   obtain ⟨b', o', hbo, hbl', c0, _, _, _, _, _, c6, c7⟩ := ((HA.out.below hH.2.2.1).more hH.2.2.1.size).at' hy
   obtain ⟨rfl, rfl⟩ : b = b' ∧ o = o' := by simpa using hbo
   have hdl : (j : Int) < (L.length : Int) := by omega
   clear hbo
   rw [drop_cons hy] at hz
   clear hH hy
   by_cases hpost : isPost y.kind = true
   ·have hk5 := (isPost_iff _).1 hpost
    have HR := Lib.hid ((postsG_go hpost).symm.trans hz)
    have hk : y.kind = 5 ∨ y.kind = 6 ∨ y.kind = 7 ∨ y.kind = 8 := by omega
    clear hpost hz g0 g1 g2 g3 g4 g5 g6 g7 y0 y1 y2 y3 y4 y5 y6 y7 hk5
    rcases hk with hk | hk | hk | hk
    ·have HZ := Lib.hid (show postsG ⟨6, 0, Trees.of [z], 0, 0⟩ (L.drop (j + 1)) = r by rw [← HR.out]; unfold postN; rw [if_neg (by omega), hk]; rfl)
     have HO := Lib.hid (nof_go 6 _ (some ⟨wr.heap.size, 0, none⟩) 1 [z] _ (by simp) (by simp) HH.out.one)
     rw [hk] at c0
     go_wp2_with fail
     refine HO.out.mono ?_
     rintro e w2 ⟨B2, cap2, rfl, hb2, hc2, ht2⟩
     have hb2' := ((Below.refl wr.heap.size wr).alloc (Nat.le_refl _) (.cells (ndA z B cap) 28)).trans (hb2.mono (by simp))
     have hH2 := HH.out.below hb2'
     have x0 : w2.cell? ⟨X, 0, none⟩ = some (.int .i64 z.kind) := hH2.1.cell 0
     have x1 : w2.cell? ⟨X, 1, none⟩ = some (.int .u64 (word z.set.testBit 0)) := hH2.1.cell 1
     have x2 : w2.cell? ⟨X, 2, none⟩ = some (.int .u64 (word z.set.testBit 1)) := hH2.1.cell 2
     have x3 : w2.cell? ⟨X, 3, none⟩ = some (.int .u64 (word z.set.testBit 2)) := hH2.1.cell 3
     have x4 : w2.cell? ⟨X, 4, none⟩ = some (.int .u64 (word z.set.testBit 3)) := hH2.1.cell 4
     have x5 : w2.cell? ⟨X, 5, none⟩ = some (.slice B z.kids.len cap) := hH2.1.cell 5
     have x6 : w2.cell? ⟨X, 6, none⟩ = some (.int .i64 z.lo) := hH2.1.cell 6
     have x7 : w2.cell? ⟨X, 7, none⟩ = some (.int .i64 z.hi) := hH2.1.cell 7
     have f0 := hH2.1.frozen 0
     have f1 := hH2.1.frozen 1
     have f2 := hH2.1.frozen 2
     have f3 := hH2.1.frozen 3
     have f4 := hH2.1.frozen 4
     have f5 := hH2.1.frozen 5
     have f6 := hH2.1.frozen 6
     have f7 := hH2.1.frozen 7
     have HT2 := Lib.hid (ht2.weak (Q := fun b => w.heap.size + 1 ≤ b ∧ b ≠ X) (fun b hb _ => by rcases hb with h | h; exact h; simp at h; omega))
     have HB2 := Lib.hid hb2'
     clear hb2 hb2' hH2 ht2 HO
     rw [ndV_plain]
     dsimp only
     go_wp2
     go_light
     go_roundw
     case rel => exact ⟨j + 1, _, B2, cap2, by go_num, by omega, HZ.out, HH.out.next (z' := ⟨6, 0, Trees.of [z], 0, 0⟩) HB2.out hc2 HT2.out (by simp only [word_zero]; rfl)⟩
     case measure => simp [intOf]; omega
    ·have HZ := Lib.hid (show postsG ⟨7, 0, Trees.of [z], 0, 0⟩ (L.drop (j + 1)) = r by rw [← HR.out]; unfold postN; rw [if_neg (by omega), hk]; rfl)
     have HO := Lib.hid (nof_go 7 _ (some ⟨wr.heap.size, 0, none⟩) 1 [z] _ (by simp) (by simp) HH.out.one)
     rw [hk] at c0
     go_wp2_with fail
     refine HO.out.mono ?_
     rintro e w2 ⟨B2, cap2, rfl, hb2, hc2, ht2⟩
     have hb2' := ((Below.refl wr.heap.size wr).alloc (Nat.le_refl _) (.cells (ndA z B cap) 28)).trans (hb2.mono (by simp))
     have hH2 := HH.out.below hb2'
     have x0 : w2.cell? ⟨X, 0, none⟩ = some (.int .i64 z.kind) := hH2.1.cell 0
     have x1 : w2.cell? ⟨X, 1, none⟩ = some (.int .u64 (word z.set.testBit 0)) := hH2.1.cell 1
     have x2 : w2.cell? ⟨X, 2, none⟩ = some (.int .u64 (word z.set.testBit 1)) := hH2.1.cell 2
     have x3 : w2.cell? ⟨X, 3, none⟩ = some (.int .u64 (word z.set.testBit 2)) := hH2.1.cell 3
     have x4 : w2.cell? ⟨X, 4, none⟩ = some (.int .u64 (word z.set.testBit 3)) := hH2.1.cell 4
     have x5 : w2.cell? ⟨X, 5, none⟩ = some (.slice B z.kids.len cap) := hH2.1.cell 5
     have x6 : w2.cell? ⟨X, 6, none⟩ = some (.int .i64 z.lo) := hH2.1.cell 6
     have x7 : w2.cell? ⟨X, 7, none⟩ = some (.int .i64 z.hi) := hH2.1.cell 7
     have f0 := hH2.1.frozen 0
     have f1 := hH2.1.frozen 1
     have f2 := hH2.1.frozen 2
     have f3 := hH2.1.frozen 3
     have f4 := hH2.1.frozen 4
     have f5 := hH2.1.frozen 5
     have f6 := hH2.1.frozen 6
     have f7 := hH2.1.frozen 7
     have HT2 := Lib.hid (ht2.weak (Q := fun b => w.heap.size + 1 ≤ b ∧ b ≠ X) (fun b hb _ => by rcases hb with h | h; exact h; simp at h; omega))
     have HB2 := Lib.hid hb2'
     clear hb2 hb2' hH2 ht2 HO
     rw [ndV_plain]
     dsimp only
     go_wp2
     go_light
     go_roundw
     case rel => exact ⟨j + 1, _, B2, cap2, by go_num, by omega, HZ.out, HH.out.next (z' := ⟨7, 0, Trees.of [z], 0, 0⟩) HB2.out hc2 HT2.out (by simp only [word_zero]; rfl)⟩
     case measure => simp [intOf]; omega
    ·have HZ := Lib.hid (show postsG ⟨8, 0, Trees.of [z], 0, 0⟩ (L.drop (j + 1)) = r by rw [← HR.out]; unfold postN; rw [if_neg (by omega), hk]; rfl)
     have HO := Lib.hid (nof_go 8 _ (some ⟨wr.heap.size, 0, none⟩) 1 [z] _ (by simp) (by simp) HH.out.one)
     rw [hk] at c0
     go_wp2_with fail
     refine HO.out.mono ?_
     rintro e w2 ⟨B2, cap2, rfl, hb2, hc2, ht2⟩
     have hb2' := ((Below.refl wr.heap.size wr).alloc (Nat.le_refl _) (.cells (ndA z B cap) 28)).trans (hb2.mono (by simp))
     have hH2 := HH.out.below hb2'
     have x0 : w2.cell? ⟨X, 0, none⟩ = some (.int .i64 z.kind) := hH2.1.cell 0
     have x1 : w2.cell? ⟨X, 1, none⟩ = some (.int .u64 (word z.set.testBit 0)) := hH2.1.cell 1
     have x2 : w2.cell? ⟨X, 2, none⟩ = some (.int .u64 (word z.set.testBit 1)) := hH2.1.cell 2
     have x3 : w2.cell? ⟨X, 3, none⟩ = some (.int .u64 (word z.set.testBit 2)) := hH2.1.cell 3
     have x4 : w2.cell? ⟨X, 4, none⟩ = some (.int .u64 (word z.set.testBit 3)) := hH2.1.cell 4
     have x5 : w2.cell? ⟨X, 5, none⟩ = some (.slice B z.kids.len cap) := hH2.1.cell 5
     have x6 : w2.cell? ⟨X, 6, none⟩ = some (.int .i64 z.lo) := hH2.1.cell 6
     have x7 : w2.cell? ⟨X, 7, none⟩ = some (.int .i64 z.hi) := hH2.1.cell 7
     have f0 := hH2.1.frozen 0
     have f1 := hH2.1.frozen 1
     have f2 := hH2.1.frozen 2
     have f3 := hH2.1.frozen 3
     have f4 := hH2.1.frozen 4
     have f5 := hH2.1.frozen 5
     have f6 := hH2.1.frozen 6
     have f7 := hH2.1.frozen 7
     have HT2 := Lib.hid (ht2.weak (Q := fun b => w.heap.size + 1 ≤ b ∧ b ≠ X) (fun b hb _ => by rcases hb with h | h; exact h; simp at h; omega))
     have HB2 := Lib.hid hb2'
     clear hb2 hb2' hH2 ht2 HO
     rw [ndV_plain]
     dsimp only
     go_wp2
     go_light
     go_roundw
     case rel => exact ⟨j + 1, _, B2, cap2, by go_num, by omega, HZ.out, HH.out.next (z' := ⟨8, 0, Trees.of [z], 0, 0⟩) HB2.out hc2 HT2.out (by simp only [word_zero]; rfl)⟩
     case measure => simp [intOf]; omega
    ·have HZ := Lib.hid (show postsG ⟨9, 0, Trees.of [z], y.lo, y.hi⟩ (L.drop (j + 1)) = r by rw [← HR.out]; unfold postN; rw [if_pos hk])
     rw [hk] at c0
     obtain ⟨W1, hW1⟩ : ∃ W1, wr.alloc (.cells #[.int .i64 z.kind, .int .u64 (word z.set.testBit 0), .int .u64 (word z.set.testBit 1), .int .u64 (word z.set.testBit 2), .int .u64 (word z.set.testBit 3), .slice B z.kids.len cap, .int .i64 z.lo, .int .i64 z.hi] 28) = W1 := ⟨_, rfl⟩
     have hb1 : Below wr.heap.size wr W1 := by rw [← hW1]; exact (Below.refl wr.heap.size wr).alloc (Nat.le_refl _) _
     have hH1 := HH.out.below hb1
     have HO := Lib.hid (nrep_go (fun b => w.heap.size + 1 ≤ b ∧ b ≠ X) z B cap y.lo y.hi W1.drew hH1.2.2.2.1 hH1.drew.2.2.2.2.1)
     have c6 := (hb1.cell (p := ⟨b, o + j * 8 + 6, none⟩) hbl').trans c6
     have c7 := (hb1.cell (p := ⟨b, o + j * 8 + 7, none⟩) hbl').trans c7
     have c0 := (hb1.cell (p := ⟨b, o + j * 8, none⟩) hbl').trans c0
     have HW1 := Lib.hid hW1
     have HH1 := Lib.hid hH1
     have HB1 := Lib.hid hb1
     go_wp2
     clear hW1 hb1 x0 x1 x2 x3 x4 x5 x6 x7 f0 f1 f2 f3 f4 f5 f6 f7 c0
     have x0 : W1.cell? ⟨X, 0, none⟩ = some (.int .i64 z.kind) := hH1.1.cell 0
     have x1 : W1.cell? ⟨X, 1, none⟩ = some (.int .u64 (word z.set.testBit 0)) := hH1.1.cell 1
     have x2 : W1.cell? ⟨X, 2, none⟩ = some (.int .u64 (word z.set.testBit 1)) := hH1.1.cell 2
     have x3 : W1.cell? ⟨X, 3, none⟩ = some (.int .u64 (word z.set.testBit 2)) := hH1.1.cell 3
     have x4 : W1.cell? ⟨X, 4, none⟩ = some (.int .u64 (word z.set.testBit 3)) := hH1.1.cell 4
     have x5 : W1.cell? ⟨X, 5, none⟩ = some (.slice B z.kids.len cap) := hH1.1.cell 5
     have x6 : W1.cell? ⟨X, 6, none⟩ = some (.int .i64 z.lo) := hH1.1.cell 6
     have x7 : W1.cell? ⟨X, 7, none⟩ = some (.int .i64 z.hi) := hH1.1.cell 7
     have f0 := hH1.1.frozen 0
     have f1 := hH1.1.frozen 1
     have f2 := hH1.1.frozen 2
     have f3 := hH1.1.frozen 3
     have f4 := hH1.1.frozen 4
     have f5 := hH1.1.frozen 5
     have f6 := hH1.1.frozen 6
     have f7 := hH1.1.frozen 7
     clear hH1
     go_still_tail 11, (by kernel_rfl)
     change wpList _ _ _ _ _ W1.drew
     clear c0 c6 c7
     go_wp2_with fail
     refine HO.out.mono ?_
     rintro e w3 ⟨B2, cap2, rfl, hb2, hc2, ht2⟩
     have hb2' := ((HB1.out.drew).trans (hb2.mono (by have := HB1.out.size; exact this)))
     have hH2 := HH.out.below hb2'
     have hX1 := HH1.out.1.lt
     clear x0 x1 x2 x3 x4 x5 x6 x7 f0 f1 f2 f3 f4 f5 f6 f7
     have x0 : w3.cell? ⟨X, 0, none⟩ = some (.int .i64 z.kind) := hH2.1.cell 0
     have x1 : w3.cell? ⟨X, 1, none⟩ = some (.int .u64 (word z.set.testBit 0)) := hH2.1.cell 1
     have x2 : w3.cell? ⟨X, 2, none⟩ = some (.int .u64 (word z.set.testBit 1)) := hH2.1.cell 2
     have x3 : w3.cell? ⟨X, 3, none⟩ = some (.int .u64 (word z.set.testBit 2)) := hH2.1.cell 3
     have x4 : w3.cell? ⟨X, 4, none⟩ = some (.int .u64 (word z.set.testBit 3)) := hH2.1.cell 4
     have x5 : w3.cell? ⟨X, 5, none⟩ = some (.slice B z.kids.len cap) := hH2.1.cell 5
     have x6 : w3.cell? ⟨X, 6, none⟩ = some (.int .i64 z.lo) := hH2.1.cell 6
     have x7 : w3.cell? ⟨X, 7, none⟩ = some (.int .i64 z.hi) := hH2.1.cell 7
     have f0 := hH2.1.frozen 0
     have f1 := hH2.1.frozen 1
     have f2 := hH2.1.frozen 2
     have f3 := hH2.1.frozen 3
     have f4 := hH2.1.frozen 4
     have f5 := hH2.1.frozen 5
     have f6 := hH2.1.frozen 6
     have f7 := hH2.1.frozen 7
     have HT2 := Lib.hid (ht2.weak (Q := fun b => w.heap.size + 1 ≤ b ∧ b ≠ X) (fun b hb _ => by rcases hb with h | h; exact h; exact ⟨by have := HB1.out.size; have : W1.heap.size ≤ b := h; omega, by have : W1.heap.size ≤ b := h; omega⟩))
     have HB2 := Lib.hid hb2'
     clear hb2 hb2' hH2 ht2 HO
     have hv9 : ndV ⟨9, 0, Trees.of [z], y.lo, y.hi⟩ B2 cap2 = .agg #[.int .i64 9, .int .u64 0, .int .u64 0, .int .u64 0, .int .u64 0, .slice B2 (Trees.of [z]).len cap2, .int .i64 y.lo, .int .i64 y.hi] := ndV_plain _ _ _ _ _ _
     rw [hv9]
     clear hv9
     dsimp only
     go_wp2
     go_light
     go_roundw
     case rel => exact ⟨j + 1, _, B2, cap2, by go_num, by omega, HZ.out, HH.out.next (z' := ⟨9, 0, Trees.of [z], y.lo, y.hi⟩) HB2.out hc2 HT2.out (by simp only [word_zero]; rfl)⟩
     case measure => simp [intOf]; omega
   ·have hk5 : ¬ (5 ≤ y.kind ∧ y.kind ≤ 8) := fun h => hpost ((isPost_iff _).2 h)
    have k5 : (y.kind == 5) = false := by simp; omega
    have k6 : (y.kind == 6) = false := by simp; omega
    have k7 : (y.kind == 7) = false := by simp; omega
    have k8 : (y.kind == 8) = false := by simp; omega
    have HR := Lib.hid ((postsG_stop (by simpa using hpost)).symm.trans hz)
    have hjl : L.length - (y :: L.drop (j + 1)).length = j := by simp; omega
    have Hjl := Lib.hid hjl
    clear hz hpost hk5 hjl
    go_wp2
    go_light
    have hF := HH.out.done rfl
    rw [← HR.out]
    exact bodyPost_ret (ret_atom Tryz.results264 rfl rfl (Blk.alloc hF.1 _)) rfl ⟨B, cap, by show _ = Ending.returned (.tuple #[_, .int .i64 ((L.length - (y :: L.drop (j + 1)).length : Nat) : Int)]); rw [Hjl.out]; rfl, hF.2.1.alloc hF.2.1.size _, HH.out.2.2.2.1, hF.2.2.below ((Below.refl _ _).alloc (Nat.le_refl _) _)⟩
  ·have hdr : L.drop j = [] := List.drop_eq_nil_of_le (by omega)
   rw [hdr] at hz
   have HR := Lib.hid hz
   have Hjl := Lib.hid (show L.length - ([] : List Lex).length = j by simp; omega)
   have hdl : ¬ (j : Int) < (L.length : Int) := by omega
   clear hz hH hdr
   go_wp2
   go_light
   have hF := HH.out.done rfl
   rw [← HR.out]
   exact bodyPost_ret (ret_atom Tryz.results264 rfl rfl hF.1) rfl ⟨B, cap, by show _ = Ending.returned (.tuple #[_, .int .i64 ((L.length - ([] : List Lex).length : Nat) : Int)]); rw [Hjl.out]; rfl, hF.2.1, HH.out.2.2.2.1, hF.2.2⟩
theorem suf_drop {L R : List Lex} {i : Nat} (h : R <:+ L.drop i) (hi : i ≤ L.length) : R = L.drop (L.length - R.length) ∧ i ≤ L.length - R.length ∧ L.length - R.length ≤ L.length := by
 have h2 : R <:+ L := h.trans (List.drop_suffix i L)
 have hl := h.length_le
 simp at hl
 exact ⟨List.suffix_iff_eq_drop.1 h2, by omega, by omega⟩
theorem atomG_some {k : Nat} {op : List Int} {M R : List Lex} {x : Nd} (h : atomG k op M = .ok (some x, R)) : ∃ y M', M = y :: M' ∧ (y.kind = 1 ∧ x = leafN (maskOf y.set) ∧ R = M' ∨ y.kind = 2 ∧ ∃ n c, k = n + 1 ∧ altG n (y.place :: op) [] M' = .ok (x, c :: R)) := by
 cases k with
 | zero => rw [atomG] at h; cases h
 | succ n =>
  cases M with
  | nil => rw [atomG_nil] at h; cases h
  | cons y M' =>
   refine ⟨y, M', rfl, ?_⟩
   by_cases h1 : y.kind = 1
   ·rw [atomG_set h1] at h
    cases h
    exact .inl ⟨h1, rfl, rfl⟩
   by_cases h2 : y.kind = 2
   ·rw [atomG, if_neg h1, if_pos h2] at h
    split at h
    ·cases h
    split at h
    ·cases h
    ·rename_i x' R' hx
     split at h
     ·cases h
     ·rename_i c R''
      split at h
      ·cases h
       exact .inr ⟨h2, n, c, rfl, hx⟩
      ·cases h
   rw [atomG, if_neg h1, if_neg h2] at h
   split at h
   ·cases h
   split at h <;> cases h
theorem atomG_none {k : Nat} {op : List Int} {M R : List Lex} (h : atomG k op M = .ok (none, R)) : R = M ∧ ∀ y M', M = y :: M' → y.kind ≠ 1 ∧ y.kind ≠ 2 := by
 cases k with
 | zero => rw [atomG] at h; cases h
 | succ n =>
  cases M with
  | nil => rw [atomG_nil] at h; cases h; exact ⟨rfl, fun y M' e => by cases e⟩
  | cons y M' =>
   by_cases h1 : y.kind = 1
   ·rw [atomG_set h1] at h; cases h
   by_cases h2 : y.kind = 2
   ·rw [atomG, if_neg h1, if_pos h2] at h
    split at h
    ·cases h
    split at h
    ·cases h
    ·split at h
     ·cases h
     ·split at h <;> cases h
   rw [atomG, if_neg h1, if_neg h2] at h
   split at h
   ·cases h
   split at h
   ·cases h
   ·cases h
    exact ⟨rfl, fun z M'' e => by cases e; exact ⟨h1, h2⟩⟩
def RAltC (n : Nat) : Prop := ∀ (op : List Int) (i : Nat) (x : Nd) (R : List Lex) (A : Option Addr) (cap : Nat) (L : List Lex) (w : World), altG n op [] (L.drop i) = .ok (x, R) → LexsAt w w.heap.size A L → i ≤ L.length → L.length ≤ 90000 →
 Calls Tryz.prog 215 #[.slice A L.length cap, .int .i64 (i : Int)] w (RGives x (L.length - R.length) w)
def RPartC (n : Nat) : Prop := ∀ (op : List Int) (i : Nat) (ps : List Nd) (R : List Lex) (A : Option Addr) (cap : Nat) (L : List Lex) (w : World), piecesG n op [] (L.drop i) = .ok (ps, R) → LexsAt w w.heap.size A L → i ≤ L.length → L.length ≤ 90000 →
 Calls Tryz.prog 242 #[.slice A L.length cap, .int .i64 (i : Int)] w (RGives (partN ps) (L.length - R.length) w)
def RPieceC (n : Nat) : Prop := ∀ (op : List Int) (i : Nat) (x : Nd) (R : List Lex) (A : Option Addr) (cap : Nat) (L : List Lex) (w : World), atomG n op (L.drop i) = .ok (some x, R) → LexsAt w w.heap.size A L → L.length ≤ 90000 →
 Calls Tryz.prog 264 #[.slice A L.length cap, .int .i64 (i : Int)] w (RGives (postsG x R).1 (L.length - (postsG x R).2.length) w)
theorem rpiece_step {n : Nat} (hA : ∀ k, k < n → RAltC k) : RPieceC n := by
 intro op i x R A cap L w h hL hlen
 obtain ⟨y, M', hM, hk⟩ := atomG_some h
 have hlt : i < L.length := by
  rcases Nat.lt_or_ge i L.length with h1 | h1
  ·exact h1
  ·rw [List.drop_eq_nil_of_le h1] at hM; cases hM
 obtain ⟨y', hy⟩ : ∃ y, L[i]? = some y := ⟨_, List.getElem?_eq_getElem hlt⟩
 rw [drop_cons hy] at hM
 obtain ⟨rfl, rfl⟩ := List.cons.inj hM
 rcases hk with ⟨h1, rfl, rfl⟩ | ⟨h2, k, c, rfl, hx⟩
 ·exact piece_set A cap L i y' w hy h1 hL (by omega)
 ·have hs := (readG_suf k).1 _ _ _ _ _ hx
  obtain ⟨hd, hj1, hj2⟩ := suf_drop hs (by omega)
  have hl : (c :: R).length = R.length + 1 := rfl
  have hRl := hs.length_le
  simp at hRl
  have hR : R = L.drop (L.length - (c :: R).length + 1) := by
   have h3 : (c :: R).drop 1 = (L.drop (L.length - (c :: R).length)).drop 1 := by rw [← hd]
   rw [List.drop_drop] at h3
   exact h3
  have hp := piece_open A cap L i (L.length - (c :: R).length) y' x w hy h2 hL (by omega) (by omega) (fun w1 hL1 => by
   have := hA k (by omega) _ (i + 1) x (c :: R) A cap L w1 hx hL1 (by omega) hlen
   exact this)
  rw [← hR] at hp
  exact hp
def RRow (w : World) (acc : List Nd) (u : Value) (wr : World) : Prop :=
 (∃ cs, wr.ownsRow (w.heap.size + 1) 28 8 u acc.length cs ∧ CellsAre wr (fun b => w.heap.size + 1 ≤ b ∧ some b ≠ u.ownBlock) acc cs) ∧ Blk wr w.heap.size 28 #[.int .i64 0, .int .u64 0, .int .u64 0, .int .u64 0, .int .u64 0, .slice none 0 0, .int .i64 0, .int .i64 0] ∧ Below w.heap.size w wr
section
variable {w wr w2 w' : World} {acc : List Nd} {u : Value}
theorem RRow.own (h : RRow w acc u wr) : ∀ g, u.ownBlock = some g → w.heap.size + 1 ≤ g ∧ g < wr.heap.size := by
 obtain ⟨⟨cs, hr, _⟩, _⟩ := h
 exact hr.lt
theorem RRow.below (h : RRow w acc u wr) (hb : Below wr.heap.size wr w2) : RRow w acc u w2 := by
 obtain ⟨⟨cs, hr, hc⟩, h2, h3⟩ := h
 exact ⟨⟨cs, own_below hr hb, hc.below hb⟩, h2.below hb h2.lt, h3.trans (hb.mono h3.size)⟩
theorem RRow.append {z : Nd} {B : Option Addr} {cap gg capg : Nat} {o : Obj} {cs : List Value} (h : RRow w acc u wr)
  (hz : TreesAt wr (fun b => w.heap.size + 1 ≤ b ∧ some b ≠ u.ownBlock) z.kids B) (hcz : z.kids.len ≤ cap) (hcs : CellsAre wr (fun b => w.heap.size + 1 ≤ b ∧ some b ≠ u.ownBlock) acc cs)
  (hown : w'.ownsRow (w.heap.size + 1) 28 8 (.slice (some ⟨gg, 0, none⟩) (acc.length + 1) capg) (acc.length + 1) (cs ++ ndCell z B cap)) (hgrow : (wr.alloc o).grownBy w' u.ownBlock) (hat : u.ownBlock = some gg ∨ gg = wr.heap.size + 1) :
  RRow w (acc ++ [z]) (.slice (some ⟨gg, 0, none⟩) (acc.length + 1) capg) w' := by
 have hl := h.own
 obtain ⟨_, h2, h3⟩ := h
 have hb : Below wr.heap.size wr (wr.alloc o) := (Below.refl _ _).alloc (Nat.le_refl _) o
 have hk : ∀ b i, (w.heap.size + 1 ≤ b ∧ some b ≠ u.ownBlock) → b < wr.heap.size → w'.cell? ⟨b, i, none⟩ = wr.cell? ⟨b, i, none⟩ := fun b i hb2 hbl =>
  (World.cell?_of_block (hgrow.block b (by simp; omega) hb2.2)).trans (hb.cell (p := ⟨b, i, none⟩) hbl)
 have hq : ∀ b, (w.heap.size + 1 ≤ b ∧ some b ≠ u.ownBlock) → b < wr.heap.size → w.heap.size + 1 ≤ b ∧ some b ≠ (Value.slice (some ⟨gg, 0, none⟩) (acc.length + 1) capg).ownBlock := fun b hb2 hbl => ⟨hb2.1, fun e => by
  have e' : b = gg := by simpa [Value.ownBlock] using e
  rcases hat with hh | hh
  ·exact hb2.2 (by rw [e', hh])
  ·omega⟩
 refine ⟨⟨cs ++ ndCell z B cap, by simpa using hown, CellsAre.snoc hcz (hz.keep hk hq) (hcs.keep hk hq)⟩, (h2.below hb h2.lt).grown hgrow (fun e => by have := (hl _ e.symm).1; omega),
  (h3.trans (hb.mono h3.size)).grown hgrow (by have := h3.size; simp; omega) (fun k e => by have := (hl k e).1; omega)⟩
theorem RRow.trees (h : RRow w acc u wr) : ∃ A cap, u = .slice A acc.length cap ∧ acc.length ≤ cap ∧ TreesAt wr (fun b => w.heap.size + 1 ≤ b) (Trees.of acc) A := by
 have hl := h.own
 obtain ⟨⟨cs, hr, hc⟩, _⟩ := h
 exact trees_of hr (hc.keep (fun _ _ _ _ => rfl) (fun b hb _ => hb.1)) (fun g e => (hl g e).1)
end
theorem rrow_start (w : World) : RRow w [] (.slice (some ⟨w.heap.size + 1, 0, none⟩) 0 0) ((w.alloc (.cells #[.int .i64 0, .int .u64 0, .int .u64 0, .int .u64 0, .int .u64 0, .slice none 0 0, .int .i64 0, .int .i64 0] 28)).alloc (.cells #[] 28)) := by
 refine ⟨⟨[], ?_, rfl⟩, (Blk.new _ _ _).alloc _, ((Below.refl _ _).alloc (Nat.le_refl _) _).alloc (by simp) _⟩
 have h := World.ownsRow_made (base := w.heap.size + 1) (size := 8) (e := 28) (w.alloc (.cells #[.int .i64 0, .int .u64 0, .int .u64 0, .int .u64 0, .int .u64 0, .slice none 0 0, .int .i64 0, .int .i64 0] 28)) #[] 0 (by simp) (by decide) rfl
 rw [World.size_alloc] at h
 exact h
def badOf : Option Wrong → Int × Int
 | none => (0, 0)
 | some x => x
def ints (l : List Int) : List Value := l.map (Value.int .i64)
def InWrong (L : List Lex) (w : World) (v p i : Value) (wr : World) : Prop :=
 ∃ (k : Nat) (op : List Int) (b : Bool), i = .int .i64 (k : Int) ∧ p = .bool b ∧ k ≤ L.length ∧ op.length ≤ 64 ∧ wrongS op b (L.drop k) = wrongS [] false L ∧ wr.ownsRow (w.heap.size + 1) 3 1 v op.length (ints op.reverse) ∧ Blk wr w.heap.size 75 #[.int .i64 0, .int .i64 0] ∧ Below w.heap.size w wr
theorem row_top {w : World} {base g cap : Nat} {x : Int} {op : List Int} (h : w.ownsRow base 3 1 (.slice (some ⟨g, 0, none⟩) (op.length + 1) cap) (op.length + 1) (ints (x :: op).reverse)) : w.cell? ⟨g, op.length, none⟩ = some (.int .i64 x) := by
 have hc := h.cells (g := g) rfl op.length (.int .i64 x) (by simp [ints])
 have e : (⟨g, 0, none⟩ : Addr).add op.length = ⟨g, op.length, none⟩ := by
  rcases Nat.eq_zero_or_pos op.length with hz | hz
  ·rw [hz]; rfl
  ·have h1 : ¬ op.length = 0 := by omega
   simp [Addr.add, h1]
 exact e ▸ hc
theorem row_pop {w : World} {base g cap : Nat} {x : Int} {op : List Int} (h : w.ownsRow base 3 1 (.slice (some ⟨g, 0, none⟩) (op.length + 1) cap) (op.length + 1) (ints (x :: op).reverse)) : w.ownsRow base 3 1 (.slice (some ⟨g, 0, none⟩) op.length cap) op.length (ints op.reverse) := by
 have e : ints (x :: op).reverse = ints op.reverse ++ [.int .i64 x] := by simp [ints]
 rw [e] at h
 exact ownsRow_pop (by simp [ints]) h
theorem own_form_cap {w : World} {base size n : Nat} {e : TypeId} {v : Value} {xs : List Value} (h : w.ownsRow base e size v n xs) (hn : 0 < n) : ∃ g cap, v = .slice (some ⟨g, 0, none⟩) n cap ∧ base ≤ g ∧ g < w.heap.size ∧ n ≤ cap := by
 rcases h.2 with ⟨_, h0⟩ | ⟨g, c, cur, hv, hb, hh, hc, _⟩
 ·omega
 ·exact ⟨g, c, hv, hb, (Array.getElem?_eq_some_iff.1 hh).1, hc⟩
theorem wrong_go (A : Option Addr) (cap : Nat) (L : List Lex) (w : World) (hA : LexsAt w w.heap.size A L) (hlen : L.length ≤ 100000) :
    Calls Tryz.prog 214 #[.slice A L.length cap] w fun e w' => e = .returned (.agg #[.int .i64 (badOf (wrongS [] false L)).1, .int .i64 (badOf (wrongS [] false L)).2]) ∧ Below w.heap.size w w' := by
  obtain ⟨i0, hi, hz0, hz1, hz2⟩ := info_parts info_int
  have HA := Lib.hid hA
  have h0 : InWrong L w (.slice (some ⟨w.heap.size + 1, 0, none⟩) 0 0) (.bool false) (.int .i64 0) ((w.alloc (.cells #[.int .i64 0, .int .i64 0] 75)).alloc (.cells #[] 3)) := by
    refine ⟨0, [], false, rfl, rfl, Nat.zero_le _, by simp, rfl, ?_, (Blk.new _ _ _).alloc _, ((Below.refl _ _).alloc (Nat.le_refl _) _).alloc (by simp) _⟩
    have h := World.ownsRow_made (base := w.heap.size + 1) (size := 1) (e := 3) (w.alloc (.cells #[.int .i64 0, .int .i64 0] 75)) #[] 0 (by simp) (by decide) rfl
    rw [World.size_alloc] at h
    exact h
  have H0 := Lib.hid h0
  clear hA h0
  go_enter Tryz.func214, Tryz.ntmps214
  go_wp2
  go_loopw [3, 4, 5] (fun v p i wr => InWrong L w v p i wr) (fun _ _ i _ => L.length - (intOf i).toNat)
  case atStart => exact H0.out
  case round =>
    clear H0
    obtain ⟨k, op, b, rfl, rfl, hk, ho, hW, hrow, hZ, hB⟩ := hrel
    have HZ := Lib.hid hZ
    have HB := Lib.hid hB
    have Hrow := Lib.hid hrow
    obtain ⟨b0, b1, f0, f1⟩ := hZ.c2
    have hsz := hB.size
    have hzl := hZ.lt
    clear hZ hB hrow
    by_cases hlt : k < L.length
    · obtain ⟨x, hx⟩ : ∃ x, L[k]? = some x := ⟨_, List.getElem?_eq_getElem hlt⟩
      have hdr : L.drop k = x :: L.drop (k + 1) := by
        rw [List.drop_eq_getElem_cons hlt]
        obtain ⟨_, e⟩ := List.getElem?_eq_some_iff.1 hx
        rw [e]
      rw [hdr] at hW
      have HW := Lib.hid hW
      obtain ⟨ba, o, rfl, hbl, hc⟩ := HA.out (by omega)
      obtain ⟨c0, c1, _⟩ := ((HA.out.below HB.out) (by omega)).elim fun b' h => h.elim fun o' h => by
        obtain ⟨e, _, h⟩ := h
        obtain ⟨rfl, rfl⟩ : ba = b' ∧ o = o' := by simpa using e
        exact h k x hx
      have hdl : (k : Int) < (L.length : Int) := by omega
      obtain ⟨Av, cv, hu⟩ := own_slice Hrow.out
      subst hu
      clear hc hx hdr hW
      by_cases k1 : x.kind = 1
      · have HV := Lib.hid (show wrongS op true (L.drop (k + 1)) = wrongS [] false L by rw [← HW.out]; conv => rhs; unfold wrongS
                                                                                        rw [if_pos k1])
        rw [k1] at c0
        clear k1
        go_wp2
        go_light
        go_roundw
        case rel => exact ⟨k + 1, op, true, by go_num, rfl, by omega, ho, HV.out, Hrow.out, HZ.out, HB.out⟩
        case measure => simp [intOf]; omega
      by_cases k2 : x.kind = 2
      · rw [k2] at c0
        by_cases h64 : 64 ≤ op.length
        · have HV := Lib.hid (show wrongS [] false L = some (17, x.place) by
            rw [← HW.out]; unfold wrongS; rw [if_neg k1, if_pos k2, if_pos h64])
          have hd : (64 : Int) ≤ (op.length : Int) := by omega
          clear k1 k2 h64
          go_wp2
          go_light
          rw [HV.out]
          exact bodyPost_ret (ret_badv Tryz.results214 rfl HZ.out.set2) rfl ⟨rfl, below_set2 HB.out (Nat.le_refl _) _ _⟩
        · have HV := Lib.hid (show wrongS (x.place :: op) false (L.drop (k + 1)) = wrongS [] false L by
            rw [← HW.out]; conv => rhs; unfold wrongS
            rw [if_neg k1, if_pos k2, if_neg h64])
          have hd : ¬ (64 : Int) ≤ (op.length : Int) := by omega
          have h63 : op.length + 1 ≤ maxLen := Nat.le_trans (by omega) (show 200000 ≤ maxLen by decide)
          have hby : (op.length + 1) * 8 ≤ 140737488355328 := by omega
          have Hne := Lib.hid (blk_not_row HZ.out (by decide) Hrow.out)
          clear k1 k2
          go_wp2_with (at_builtin; refine wpList_append_lies _ rfl _ _ 41 rfl (w.heap.size + 1) 3 i0 _ 1 8 Tryz.underlying41 hi hz0 hz1 hz2 rfl (by decide) _ _ _ rfl (Hrow.out.alloc _) ⟨wr.heap.size, 0, none⟩ 1 1 [.int .i64 x.place] rfl rfl (cell_one_new _ _ _) (by simp [Value.oneCell']) (by decide) h63 hby (by simp; omega) (wr.heap.size + 1) (by simp) ?_; intro g3 cap3 w3 hown3 hgrow3 hat3 hg3; have HO3 := Lib.hid hown3; have HZ3 := Lib.hid ((HZ.out.alloc (.cells #[.int .i64 x.place] 3)).grown hgrow3 Hne.out); have HB3 := Lib.hid (below_grown (HB.out.alloc HB.out.size _) hgrow3 (Hrow.out.alloc _) (by omega) (by simp; omega)); clear hown3 hgrow3 hat3)
          go_light
          go_roundw
          case rel => exact ⟨k + 1, x.place :: op, false, by go_num, rfl, by omega, by simp; omega, HV.out, by simpa [ints] using HO3.out, HZ3.out, HB3.out⟩
          case measure => simp [intOf]; omega
      by_cases k3 : x.kind = 3
      · rw [k3] at c0
        cases op with
        | nil =>
          have HV := Lib.hid (show wrongS [] false L = some (12, x.place) by
            rw [← HW.out]; unfold wrongS; rw [if_neg k1, if_neg k2, if_pos k3])
          clear k1 k2 k3
          go_wp2
          go_light
          rw [HV.out]
          exact bodyPost_ret (ret_badv Tryz.results214 rfl HZ.out.set2) rfl ⟨rfl, below_set2 HB.out (Nat.le_refl _) _ _⟩
        | cons y op =>
          have HV := Lib.hid (show wrongS op true (L.drop (k + 1)) = wrongS [] false L by
            rw [← HW.out]; conv => rhs; unfold wrongS
            rw [if_neg k1, if_neg k2, if_pos k3])
          obtain ⟨g, cg, hv, _, hgl, hcg⟩ := own_form_cap Hrow.out (by simp)
          obtain ⟨rfl, _, rfl⟩ := Value.slice.inj hv
          have HP := Lib.hid (row_pop Hrow.out)
          simp only [List.length_cons] at hcg ho
          have hd : (((op.length : Int) + 1) == 0) = false := by rw [beq_eq_false_iff_ne]; omega
          have hj : IntKind.i64.wrap ((op.length : Int) + 1 - 1) = (op.length : Int) := by rw [Int.add_sub_cancel]; exact IntWalk.i64_in _ (by omega)
          have hj0 : (0 : Int) ≤ (op.length : Int) := by omega
          have hj1 : (op.length : Int) ≤ (cv : Int) := by omega
          clear k1 k2 k3 hv
          go_wp2
          go_light
          go_roundw
          case rel => exact ⟨k + 1, op, true, by go_num, rfl, by omega, by omega, HV.out, HP.out, HZ.out, HB.out⟩
          case measure => simp [intOf]; omega
      have e1 : (x.kind == 1) = false := by simp; exact k1
      have e2 : (x.kind == 2) = false := by simp; exact k2
      have e3 : (x.kind == 3) = false := by simp; exact k3
      by_cases k4 : x.kind = 4
      · have HV := Lib.hid (show wrongS op false (L.drop (k + 1)) = wrongS [] false L by
          rw [← HW.out]; conv => rhs; unfold wrongS
          rw [if_neg k1, if_neg k2, if_neg k3, if_pos k4])
        rw [k4] at c0
        clear k1 k2 k3 k4 e1 e2 e3
        go_wp2
        go_light
        go_roundw
        case rel => exact ⟨k + 1, op, false, by go_num, rfl, by omega, ho, HV.out, Hrow.out, HZ.out, HB.out⟩
        case measure => simp [intOf]; omega
      have e4 : (x.kind == 4) = false := by simp; exact k4
      cases b
      · have HV := Lib.hid (show wrongS [] false L = some (5, x.place) by
          rw [← HW.out]; unfold wrongS; rw [if_neg k1, if_neg k2, if_neg k3, if_neg k4, if_pos rfl])
        clear k1 k2 k3 k4
        go_wp2
        go_light
        rw [HV.out]
        exact bodyPost_ret (ret_badv Tryz.results214 rfl HZ.out.set2) rfl ⟨rfl, below_set2 HB.out (Nat.le_refl _) _ _⟩
      · have HV := Lib.hid (show wrongS op true (L.drop (k + 1)) = wrongS [] false L by
          rw [← HW.out]; conv => rhs; unfold wrongS
          rw [if_neg k1, if_neg k2, if_neg k3, if_neg k4, if_neg (by decide)])
        clear k1 k2 k3 k4
        go_wp2
        go_light
        go_roundw
        case rel => exact ⟨k + 1, op, true, by go_num, rfl, by omega, ho, HV.out, Hrow.out, HZ.out, HB.out⟩
        case measure => simp [intOf]; omega
    · have hdr : L.drop k = [] := List.drop_eq_nil_of_le (by omega)
      rw [hdr] at hW
      have HW := Lib.hid hW
      have hdl : ¬ (k : Int) < (L.length : Int) := by omega
      clear hW hdr
      cases op with
      | nil =>
        have HV := Lib.hid (show wrongS [] false L = none by rw [← HW.out]; rfl)
        obtain ⟨Av, cv, hu⟩ := own_slice Hrow.out
        subst hu
        go_wp2
        go_light
        rw [HV.out]
        exact bodyPost_ret (ret_badv Tryz.results214 rfl HZ.out.set2) rfl ⟨rfl, below_set2 HB.out (Nat.le_refl _) _ _⟩
      | cons y op =>
        have HV := Lib.hid (show wrongS [] false L = some (11, y) by rw [← HW.out]; rfl)
        obtain ⟨g, cg, hv, _, hgl, hcg⟩ := own_form_cap Hrow.out (by simp)
        subst hv
        have ct := row_top Hrow.out
        simp only [List.length_cons] at hcg ho
        have hd : (0 : Int) < (op.length : Int) + 1 := by omega
        have hj : IntKind.i64.wrap ((op.length : Int) + 1 - 1) = (op.length : Int) := by rw [Int.add_sub_cancel]; exact IntWalk.i64_in _ (by omega)
        have hj0 : (0 : Int) ≤ (op.length : Int) := by omega
        have hj1 : (op.length : Int) < (op.length : Int) + 1 := by omega
        go_wp2
        go_light
        rw [HV.out]
        exact bodyPost_ret (ret_badv Tryz.results214 rfl HZ.out.set2) rfl ⟨rfl, below_set2 HB.out (Nat.le_refl _) _ _⟩
theorem val_str {a b : ByteArray} (h : a = b) : Value.string a = .string b := by rw [h]
theorem LexsAt.at {w : World} {B b o : Nat} {L : List Lex} (h : LexsAt w B (some ⟨b, o, none⟩) L) {k : Nat} {x : Lex} (hx : L[k]? = some x) :
  w.cell? ⟨b, o + k * 8, none⟩ = some (.int .i64 x.kind) ∧ w.cell? ⟨b, o + k * 8 + 1, none⟩ = some (.int .i64 x.place) ∧
  w.cell? ⟨b, o + k * 8 + 2, none⟩ = some (.int .u64 (word x.set 0)) ∧ w.cell? ⟨b, o + k * 8 + 3, none⟩ = some (.int .u64 (word x.set 1)) ∧ w.cell? ⟨b, o + k * 8 + 4, none⟩ = some (.int .u64 (word x.set 2)) ∧ w.cell? ⟨b, o + k * 8 + 5, none⟩ = some (.int .u64 (word x.set 3)) ∧
  w.cell? ⟨b, o + k * 8 + 6, none⟩ = some (.int .i64 x.lo) ∧ w.cell? ⟨b, o + k * 8 + 7, none⟩ = some (.int .i64 x.hi) := by
 obtain ⟨b', o', e, _, hc⟩ := h (by have := (List.getElem?_eq_some_iff.mp hx).1; omega)
 obtain ⟨rfl, rfl⟩ : b = b' ∧ o = o' := by simpa using e
 exact hc k x hx
theorem LexsAt.form {w : World} {B : Nat} {A : Option Addr} {L : List Lex} (h : LexsAt w B A L) (hn : 0 < L.length) : ∃ b o, A = some ⟨b, o, none⟩ ∧ b < B := by
 obtain ⟨b, o, e, h, _⟩ := h hn
 exact ⟨b, o, e, h⟩
theorem rjoin_go (A : Option Addr) (cap : Nat) (L : List Lex) (w : World) (hA : LexsAt w w.heap.size A L) (hlen : L.length ≤ 1048576) :
  Calls Tryz.prog 135 #[.slice A L.length cap] w fun e w' => e = .returned (joinV L) ∧ Below w.heap.size w w' := by
 have HA := Lib.hid hA
 clear hA
 go_enter Tryz.func135, Tryz.ntmps135
 go_wp2
 go_loopw [4, 5] (fun v i wr => ∃ k : Nat, i = .int .i64 (k : Int) ∧ k ≤ L.length ∧ v = .string (strOf (joinS (L.take k))) ∧ Hid (Below w.heap.size w wr) ∧ Hid (∀ (j : Nat) x, j < k → L[j]? = some x → rightS x = true)) (fun _ i _ => L.length - (intOf i).toNat)
 case atStart => exact ⟨0, rfl, Nat.zero_le _, rfl, Lib.hid (Below.refl _ _), Lib.hid (fun j x hj => by omega)⟩
 case round =>
  obtain ⟨k, rfl, hk, rfl, HB, HR⟩ := hrel
  by_cases hlt : k < L.length
  ·obtain ⟨x, hx⟩ : ∃ x, L[k]? = some x := ⟨_, List.getElem?_eq_getElem hlt⟩
   obtain ⟨b, o, rfl, hbl⟩ := HA.out.form (by omega)
   have HAr := Lib.hid (HA.out.below HB.out)
   obtain ⟨c0, c1, c2, c3, c4, c5, c6, c7⟩ := HAr.out.at hx
   have Hx := Lib.hid hx
   have hdl : (k : Int) < (L.length : Int) := by omega
   clear hx
   go_wp2_with fail
   refine (rright_go _ _ _ _ _ _ _ _ _).mono ?_
   rintro e w1 ⟨rfl, hb1⟩
   have HB1 := Lib.hid (HB.out.trans (hb1.mono HB.out.size))
   clear hb1 c0 c1 c2 c3 c4 c5 c6 c7
   cases hr : rightS x
   ·have hr' := hr
    unfold rightS at hr'
    rw [hr']
    have HV := Lib.hid (joinV_bad Hx.out hr)
    clear hr hr'
    go_wp2
    go_light
    go_ret2
    exact ⟨by rw [HV.out]; rfl, HB1.out⟩
   ·have hr' := hr
    unfold rightS at hr'
    rw [hr']
    have Hr := Lib.hid hr
    clear hr hr'
    have HA1 := Lib.hid (HA.out.below HB1.out)
    obtain ⟨c0, c1, c2, c3, c4, c5, c6, c7⟩ := HA1.out.at Hx.out
    have l1 := joinS_len (L.take k)
    have l2 : (L.take k).length ≤ 1048576 := by rw [List.length_take]; omega
    have l3 := textS_len x
    go_wp2_with fail
    refine (rtext_go x _ Hr.out).mono ?_
    rintro e w2 ⟨rfl, hb2⟩
    have HB2 := Lib.hid (HB1.out.trans (hb2.mono HB1.out.size))
    have Hj := Lib.hid (joinS_take Hx.out)
    clear hb2 c0 c1 c2 c3 c4 c5 c6 c7
    go_wp2
    go_light
    go_roundw
    case rel => exact ⟨k + 1, by go_num, by omega, val_str (by rw [Hj.out, strOf_append]), HB2, Lib.hid (fun j y hj hy => by
     rcases Nat.lt_or_ge j k with h | h
     ·exact HR.out j y h hy
     ·obtain rfl : j = k := by omega
      rw [Hx.out] at hy
      cases hy
      exact Hr.out)⟩
    case measure => simp [intOf]; omega
  ·have hdl : ¬ (k : Int) < (L.length : Int) := by omega
   obtain rfl : k = L.length := by omega
   have HV := Lib.hid (joinV_ok (fun j x hx => HR.out j x (List.getElem?_eq_some_iff.mp hx).1 hx))
   have HT := Lib.hid (List.take_length (l := L))
   go_wp2
   go_light
   go_ret2
   exact ⟨by rw [HV.out]; rfl, HB.out⟩
end Go.Proofs.YtfekpkelmliejaaGreatDoor
