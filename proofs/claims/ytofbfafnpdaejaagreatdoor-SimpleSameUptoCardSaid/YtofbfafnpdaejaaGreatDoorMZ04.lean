/- Texts of the claim. -/
import Derived.Lib.AppendStr
import Derived.RangeFuncNested
import Derived.RangeFuncBound
import Derived.RangeFuncCalls
import Derived.RangeFuncLeaves
import Derived.Shelf.Abstract
import Derived.Shelf.RegionOpen
import Derived.WalkKit
import Derived.OwnWalkIn
import Derived.TacticsInMore
import Derived.LoopNIn
import Derived.LoopIn
import Derived.DeepKeys4
import Derived.RangeFuncBox
import Derived.Maps.AppendAt
import Derived.Maps.OwnIn
import Derived.Lib.Hide
import Derived.Stop.RegionWithIn
import Derived.Deep.AppendLies
import Derived.Deep.RegionLaw
import Derived.Deep.RegionHeld3
import Derived.Deep.Onto
import Derived.RegionTactic
import Derived.BigRegion
import Derived.StillTailTactics
import Derived.Test.YtofbfafnpdaejaaGreatDoorMZ02
import Derived.Test.YtofbfafnpdaejaaGreatDoorMZ03
import Derived.Test.YtofbfafnpdaejaaGreatDoorMRShow
import Derived.Test.YtofbfafnpdaejaaGreatDoorMZ01
import Derived.Test.YtofbfafnpdaejaaGreatDoorMShow
import Derived.Test.YtofbfafnpdaejaaGreatDoorMSame
set_option linter.all false
set_option maxRecDepth 100000
set_option maxHeartbeats 8000000
namespace Go.Proofs.YtofbfafnpdaejaaGreatDoor
section
open Go.RowKit
def repT (lo hi : Int) : List Nat := [123] ++ (decS lo.toNat ++ ((if hi < 0 then [44] else if lo < hi then 44 :: decS hi.toNat else []) ++ [125]))
theorem repT_open (lo hi : Int) (h : hi < 0) : repT lo hi = [123] ++ (decS lo.toNat ++ ([44] ++ [125])) := by unfold repT; rw [if_pos h]
theorem repT_two (lo hi : Int) (h : ¬ hi < 0) (h2 : lo < hi) : repT lo hi = [123] ++ (decS lo.toNat ++ (([44] ++ decS hi.toNat) ++ [125])) := by unfold repT; rw [if_neg h, if_pos h2]; rfl
theorem repT_one (lo hi : Int) (h : ¬ hi < 0) (h2 : ¬ lo < hi) : repT lo hi = [123] ++ (decS lo.toNat ++ [125]) := by unfold repT; rw [if_neg h, if_neg h2]; rfl
theorem repT_len (lo hi : Int) : (repT lo hi).length ≤ 11 := by
 unfold repT
 have := decS_len lo.toNat
 have := decS_len hi.toNat
 split
 ·simp; omega
 ·split <;> simp <;> omega
def sameSet (p q : Nat → Bool) : Bool := ((word p 0 : Nat) : Int) == ((word q 0 : Nat) : Int) && ((word p 1 : Nat) : Int) == ((word q 1 : Nat) : Int) && ((word p 2 : Nat) : Int) == ((word q 2 : Nat) : Int) && ((word p 3 : Nat) : Int) == ((word q 3 : Nat) : Int)
def setT (p : Nat → Bool) : List Nat := if (elems p 256).length = 1 then litS ((elems p 256).headD 0) else if sameSet p dotSet = true then [46] else showS p
def textS (x : Lex) : List Nat :=
 if x.kind = 1 then setT x.set else if x.kind = 8 then repT x.lo x.hi
 else if x.kind = 2 then [40] else if x.kind = 3 then [41] else if x.kind = 4 then [124] else if x.kind = 5 then [42] else if x.kind = 6 then [43] else [63]
theorem setT_len (p : Nat → Bool) : (setT p).length ≤ 2400 := by
 unfold setT
 split
 ·have := litS_len ((elems p 256).headD 0); omega
 ·split
  ·simp
  ·exact showS_len p
theorem textS_len (x : Lex) : (textS x).length ≤ 2400 := by
 unfold textS
 split
 ·exact setT_len _
 ·split
  ·have := repT_len x.lo x.hi; omega
  ·repeat' split
   all_goals simp
theorem litS_bytes (c : Nat) (hc : c < 256) : ∀ x ∈ litS c, x < 256 := by
 intro x hx
 unfold litS at hx
 split at hx
 ·simp at hx; omega
 ·split at hx
  ·simp at hx; omega
  ·exact (chr_head c hc).2.2.2.2 x hx
theorem decS_bytes (n : Nat) (h : n < 10000) : ∀ x ∈ decS n, 48 ≤ x ∧ x ≤ 57 := by
 intro x hx
 unfold decS at hx
 split at hx
 ·simp at hx; omega
 ·split at hx
  ·simp at hx; omega
  ·split at hx
   ·simp at hx; omega
   ·simp at hx; omega
theorem str_open (a : List Nat) : (((⟨#[123]⟩ : ByteArray) ++ strOf a) ++ ⟨#[44]⟩) ++ ⟨#[125]⟩ = strOf ([123] ++ (a ++ ([44] ++ [125]))) := by
 show ((strOf [123] ++ strOf a) ++ strOf [44]) ++ strOf [125] = _
 simp only [strOf_append, List.append_assoc]
theorem str_onerep (a : List Nat) : ((⟨#[123]⟩ : ByteArray) ++ strOf a) ++ ⟨#[125]⟩ = strOf ([123] ++ (a ++ [125])) := by
 show (strOf [123] ++ strOf a) ++ strOf [125] = _
 simp only [strOf_append, List.append_assoc]
theorem str_tworep (a b : List Nat) : (((⟨#[123]⟩ : ByteArray) ++ strOf a) ++ ((⟨#[44]⟩ : ByteArray) ++ strOf b)) ++ ⟨#[125]⟩ = strOf ([123] ++ (a ++ (([44] ++ b) ++ [125]))) := by
 show ((strOf [123] ++ strOf a) ++ (strOf [44] ++ strOf b)) ++ strOf [125] = _
 simp only [strOf_append, List.append_assoc]
theorem rept_go (lo hi : Int) (w : World) (h0 : 0 ≤ lo) (h1 : lo ≤ 1000) (h2 : hi = -1 ∨ lo ≤ hi ∧ hi ≤ 1000) :
  Calls Tryz.prog 210 #[.int .i64 lo, .int .i64 hi] w fun e w' => e = .returned (.string (strOf (repT lo hi))) ∧ Below w.heap.size w w' := by
 obtain ⟨n, rfl⟩ := Int.eq_ofNat_of_zero_le h0
 have H1 := Lib.hid (fun w => shown_go n w (by omega))
 have l1 := decS_len n
 by_cases hh : hi < 0
 ·have HV := Lib.hid ((str_open (decS n)).trans (congrArg strOf (repT_open n hi hh).symm))
  go_enter Tryz.func210, Tryz.ntmps210
  go_wp2_with fail
  refine (H1.out _).mono ?_
  rintro e w1 ⟨rfl, hb1⟩
  go_wp2
  go_light
  go_ret
  exact ⟨by rw [← HV.out]; rfl, hb1⟩
 obtain ⟨m, rfl⟩ := Int.eq_ofNat_of_zero_le (show 0 ≤ hi by omega)
 have H2 := Lib.hid (fun w => shown_go m w (by omega))
 have l2 := decS_len m
 by_cases hlt : (n : Int) < (m : Int)
 ·have HV := Lib.hid ((str_tworep (decS n) (decS m)).trans (congrArg strOf (repT_two n m hh hlt).symm))
  go_enter Tryz.func210, Tryz.ntmps210
  go_wp2_with fail
  refine (H1.out _).mono ?_
  rintro e w1 ⟨rfl, hb1⟩
  have HB1 := Lib.hid hb1
  clear hb1
  go_wp2_with fail
  refine (H2.out _).mono ?_
  rintro e w2 ⟨rfl, hb2⟩
  have HB2 := Lib.hid (HB1.out.trans (hb2.mono HB1.out.size))
  clear hb2
  go_wp2
  go_light
  go_ret
  exact ⟨by rw [← HV.out]; rfl, HB2.out⟩
 ·have HV := Lib.hid ((str_onerep (decS n)).trans (congrArg strOf (repT_one n m hh hlt).symm))
  go_enter Tryz.func210, Tryz.ntmps210
  go_wp2_with fail
  refine (H1.out _).mono ?_
  rintro e w1 ⟨rfl, hb1⟩
  go_wp2
  go_light
  go_ret
  exact ⟨by rw [← HV.out]; rfl, hb1⟩
theorem lexset_below {w w' : World} {g : Nat} {t : TypeId} {a b c d e f u v : Value} (h : Blk w g t #[a, b, c, d, e, f, u, v]) (hb : Below w.heap.size w w') :
  w'.cell? ⟨g, 2, none⟩ = some c ∧ w'.cell? ⟨g, 2 + 1, none⟩ = some d ∧ w'.cell? ⟨g, 2 + 2, none⟩ = some e ∧ w'.cell? ⟨g, 2 + 3, none⟩ = some f :=
 have h := h.below hb h.lt
 ⟨h.cell 2, h.cell 3, h.cell 4, h.cell 5⟩
theorem text_setJ (p : Nat → Bool) (pl lo hi : Int) (w : World) (hT : TabAt 0 Lib.deBruijn64tab w) (hw0 : 0 < w.heap.size) :
  Calls Tryz.prog 163 #[.agg #[.int .i64 1, .int .i64 pl, .int .u64 (word p 0), .int .u64 (word p 1), .int .u64 (word p 2), .int .u64 (word p 3), .int .i64 lo, .int .i64 hi]] w fun e w' => e = .returned (.string (strOf (setT p))) ∧ Below w.heap.size w w' := by
 have hb0 := (Below.refl w.heap.size w).alloc (Nat.le_refl _) (.cells #[.int .i64 1, .int .i64 pl, .int .u64 (word p 0), .int .u64 (word p 1), .int .u64 (word p 2), .int .u64 (word p 3), .int .i64 lo, .int .i64 hi] 143)
 have hx0 := Blk.new w 143 #[.int .i64 1, .int .i64 pl, .int .u64 (word p 0), .int .u64 (word p 1), .int .u64 (word p 2), .int .u64 (word p 3), .int .i64 lo, .int .i64 hi]
 have HT := Lib.hid hT
 have HB0 := Lib.hid hb0
 have HX0 := Lib.hid hx0
 clear hb0 hx0 hT
 have hcn := cnt_elems p 256
 by_cases h1 : (elems p 256).length = 1
 ·obtain ⟨c, hc⟩ := List.length_eq_one_iff.1 h1
  have hc256 : c < 256 := elems_lt (m := 256) (p := p) (by rw [hc]; simp)
  have HV : Hid (setT p = litS c) := Lib.hid (by unfold setT; rw [if_pos h1, hc]; rfl)
  have HN : Hid (((cnt p 256 : Nat) : Int) = 1) := Lib.hid (by omega)
  have HL := Lib.hid (fun w => least_go p c hc w)
  rw [HV.out]
  clear hc h1 hcn
  go_enter Tryz.func163, Tryz.ntmps163
  go_wp2_with fail
  refine (count_go p _).mono ?_
  rintro e w1 ⟨rfl, hb1⟩
  rw [HN.out]
  have HB1 := Lib.hid (HB0.out.trans (hb1.mono HB0.out.size))
  have hx1 := HX0.out.below hb1 HX0.out.lt
  have HX1 := Lib.hid hx1
  have s2 := hx1.cell 2
  have s3 := hx1.cell 3
  have s4 := hx1.cell 4
  have s5 := hx1.cell 5
  clear hb1 hx1
  simp at s2 s3 s4 s5
  go_wp2_with fail
  refine (HL.out _ (TabAt.below HB1.out hw0 HT.out) (Nat.lt_of_lt_of_le hw0 HB1.out.size)).mono ?_
  rintro e w2 ⟨rfl, hb2⟩
  have HB2 := Lib.hid (HB1.out.trans (hb2.mono HB1.out.size))
  clear hb2
  go_wp2_with fail
  refine (lit_go c _ hc256).mono ?_
  rintro e w3 ⟨rfl, hb3⟩
  have HB3 := Lib.hid (HB2.out.trans (hb3.mono HB2.out.size))
  clear hb3
  go_wp2
  go_light
  go_ret
  exact ⟨rfl, HB3.out⟩
 ·have HN : Hid ((((cnt p 256 : Nat) : Int) == 1) = false) := Lib.hid (by simp; omega)
  have hn256 : cnt p 256 ≤ 256 := by rw [hcn]; exact elems_len p 256
  cases hd : sameSet p dotSet
  ·have HV : Hid (setT p = showS p) := Lib.hid (by unfold setT; rw [if_neg h1, hd]; rfl)
   unfold sameSet at hd
   rw [HV.out]
   clear h1 hcn
   go_enter Tryz.func163, Tryz.ntmps163
   go_wp2_with fail
   refine (count_go p _).mono ?_
   rintro e w1 ⟨rfl, hb1⟩
   have hn := HN.out
   generalize ((cnt p 256 : Nat) : Int) = N at *
   have HB1 := Lib.hid (HB0.out.trans (hb1.mono HB0.out.size))
   have hx1 := HX0.out.below hb1 HX0.out.lt
   have HX1 := Lib.hid hx1
   have s2 := hx1.cell 2
   have s3 := hx1.cell 3
   have s4 := hx1.cell 4
   have s5 := hx1.cell 5
   clear hb1 hx1
   simp at s2 s3 s4 s5
   go_wp2
   go_region_with (go_at_call 195; refine (dot_go _).mono ?_; rintro e w2 ⟨rfl, hb2⟩; obtain ⟨t2, t3, t4, t5⟩ := lexset_below HX1.out.drew hb2; have HB2 := Lib.hid (HB1.out.drew.trans (hb2.mono HB1.out.size)); clear hb2)
   all_goals go_wp2_with (go_at_call 209; refine (show_go p _ (TabAt.below HB2.out hw0 HT.out) (Nat.lt_of_lt_of_le hw0 HB2.out.size)).mono ?_; rintro e w3 ⟨rfl, hb3⟩)
   all_goals go_light
   all_goals go_ret
   all_goals exact ⟨rfl, HB2.out.trans (hb3.mono HB2.out.size)⟩
  ·have HV : Hid (setT p = [46]) := Lib.hid (by unfold setT; rw [if_neg h1, if_pos hd])
   unfold sameSet at hd
   rw [HV.out]
   clear h1 hcn
   go_enter Tryz.func163, Tryz.ntmps163
   go_wp2_with fail
   refine (count_go p _).mono ?_
   rintro e w1 ⟨rfl, hb1⟩
   have hn := HN.out
   generalize ((cnt p 256 : Nat) : Int) = N at *
   have HB1 := Lib.hid (HB0.out.trans (hb1.mono HB0.out.size))
   have hx1 := HX0.out.below hb1 HX0.out.lt
   have HX1 := Lib.hid hx1
   have s2 := hx1.cell 2
   have s3 := hx1.cell 3
   have s4 := hx1.cell 4
   have s5 := hx1.cell 5
   clear hb1 hx1
   simp at s2 s3 s4 s5
   go_wp2
   go_region_with (go_at_call 195; refine (dot_go _).mono ?_; rintro e w2 ⟨rfl, hb2⟩; obtain ⟨t2, t3, t4, t5⟩ := lexset_below HX1.out.drew hb2; have HB2 := Lib.hid (HB1.out.drew.trans (hb2.mono HB1.out.size)); clear hb2)
   all_goals go_wp2
   all_goals go_light
   all_goals go_ret
   all_goals exact ⟨rfl, HB2.out⟩
theorem text_rep (p : Nat → Bool) (pl lo hi : Int) (w : World) (h0 : 0 ≤ lo) (h1 : lo ≤ 1000) (h2 : hi = -1 ∨ lo ≤ hi ∧ hi ≤ 1000) :
  Calls Tryz.prog 163 #[.agg #[.int .i64 8, .int .i64 pl, .int .u64 (word p 0), .int .u64 (word p 1), .int .u64 (word p 2), .int .u64 (word p 3), .int .i64 lo, .int .i64 hi]] w fun e w' => e = .returned (.string (strOf (repT lo hi))) ∧ Below w.heap.size w w' := by
 have H := Lib.hid (fun w => rept_go lo hi w h0 h1 h2)
 clear h0 h1 h2
 go_enter Tryz.func163, Tryz.ntmps163
 go_wp2_with fail
 have HB0 := Lib.hid ((Below.refl w.heap.size w).alloc (Nat.le_refl _) (.cells #[.int .i64 8, .int .i64 pl, .int .u64 (word p 0), .int .u64 (word p 1), .int .u64 (word p 2), .int .u64 (word p 3), .int .i64 lo, .int .i64 hi] 143))
 refine (H.out _).mono ?_
 rintro e w1 ⟨rfl, hb1⟩
 have HB1 := Lib.hid (HB0.out.trans (hb1.mono HB0.out.size))
 clear hb1
 go_wp2
 go_light
 go_ret
 exact ⟨rfl, HB1.out⟩
theorem text_signJ (p : Nat → Bool) (k pl lo hi : Int) (w : World) (h0 : 2 ≤ k) (h1 : k ≤ 7) :
  Calls Tryz.prog 163 #[.agg #[.int .i64 k, .int .i64 pl, .int .u64 (word p 0), .int .u64 (word p 1), .int .u64 (word p 2), .int .u64 (word p 3), .int .i64 lo, .int .i64 hi]] w fun e w' => e = .returned (.string (strOf (textS ⟨k, pl, p, lo, hi⟩))) ∧ Below w.heap.size w w' := by
 by_cases e2 : k = 2
 ·subst e2
  go_enter Tryz.func163, Tryz.ntmps163
  go_wp2
  go_light
  go_ret
  exact ⟨rfl, (Below.refl w.heap.size w).alloc (Nat.le_refl _) _⟩
 by_cases e3 : k = 3
 ·subst e3
  go_enter Tryz.func163, Tryz.ntmps163
  go_wp2
  go_light
  go_ret
  exact ⟨rfl, (Below.refl w.heap.size w).alloc (Nat.le_refl _) _⟩
 by_cases e4 : k = 4
 ·subst e4
  go_enter Tryz.func163, Tryz.ntmps163
  go_wp2
  go_light
  go_ret
  exact ⟨rfl, (Below.refl w.heap.size w).alloc (Nat.le_refl _) _⟩
 by_cases e5 : k = 5
 ·subst e5
  go_enter Tryz.func163, Tryz.ntmps163
  go_wp2
  go_light
  go_ret
  exact ⟨rfl, (Below.refl w.heap.size w).alloc (Nat.le_refl _) _⟩
 by_cases e6 : k = 6
 ·subst e6
  go_enter Tryz.func163, Tryz.ntmps163
  go_wp2
  go_light
  go_ret
  exact ⟨rfl, (Below.refl w.heap.size w).alloc (Nat.le_refl _) _⟩
 by_cases e7 : k = 7
 ·subst e7
  go_enter Tryz.func163, Tryz.ntmps163
  go_wp2
  go_light
  go_ret
  exact ⟨rfl, (Below.refl w.heap.size w).alloc (Nat.le_refl _) _⟩
 exact absurd h0 (by omega)
def lexValJ (x : Lex) : Value := .agg #[.int .i64 x.kind, .int .i64 x.place, .int .u64 (word x.set 0), .int .u64 (word x.set 1), .int .u64 (word x.set 2), .int .u64 (word x.set 3), .int .i64 x.lo, .int .i64 x.hi]
theorem text_go (x : Lex) (w : World) (hr : rightS x = true) (hT : TabAt 0 Lib.deBruijn64tab w) (hw0 : 0 < w.heap.size) :
  Calls Tryz.prog 163 #[lexValJ x] w fun e w' => e = .returned (.string (strOf (textS x))) ∧ Below w.heap.size w w' := by
 obtain ⟨_, h | h | h⟩ := rightS_cases hr
 ·obtain ⟨k, pl, p, lo, hi⟩ := x
  dsimp only at h
  obtain ⟨rfl, _, _⟩ := h
  exact text_setJ p pl lo hi w hT hw0
 ·obtain ⟨k, pl, p, lo, hi⟩ := x
  dsimp only at h
  obtain ⟨rfl, h1, h2, h3, _⟩ := h
  exact text_rep p pl lo hi w h1 h2 h3
 ·obtain ⟨k, pl, p, lo, hi⟩ := x
  dsimp only at h
  exact text_signJ p k pl lo hi w h.1 h.2.1
@[go_sem] theorem run_str1_next (w : World) (o : Obj) (c : Nat) : (convert 29 9 (.slice (some ⟨w.heap.size + 1, 0, none⟩) 1 1)).run Tryz.prog ((w.alloc o).alloc (.cells #[.int .u8 (c : Int)] 5)) =
  .ok (.string (strOf [c])) ((w.alloc o).alloc (.cells #[.int .u8 (c : Int)] 5)) := by
 have h := run_str1 (w.alloc o) c
 rw [World.size_alloc] at h
 exact h
def joinS (L : List Lex) : List Nat := L.flatMap textS
theorem joinS_len : ∀ (L : List Lex), (joinS L).length ≤ L.length * 2400
 | [] => by simp [joinS]
 | x :: L => by
  have h1 := textS_len x
  have h2 := joinS_len L
  unfold joinS at h2 ⊢
  rw [List.flatMap_cons, List.length_append, List.length_cons]
  omega
theorem joinS_take {L : List Lex} {k : Nat} {x : Lex} (h : L[k]? = some x) : joinS (L.take (k + 1)) = joinS (L.take k) ++ textS x := by
 unfold joinS
 rw [List.take_add_one, h]
 simp
def joinV (L : List Lex) : Value := if L.all rightS = true then .tuple #[.string (strOf (joinS L)), .int .i64 0] else .tuple #[.string ⟨#[]⟩, .int .i64 6]
theorem joinV_bad {L : List Lex} {k : Nat} {x : Lex} (h : L[k]? = some x) (hx : rightS x = false) : joinV L = .tuple #[.string ⟨#[]⟩, .int .i64 6] := by
 refine if_neg fun ha => ?_
 have := List.all_eq_true.1 ha x (List.mem_of_getElem? h)
 rw [hx] at this
 cases this
theorem joinV_ok {L : List Lex} (h : ∀ (k : Nat) x, L[k]? = some x → rightS x = true) : joinV L = .tuple #[.string (strOf (joinS L)), .int .i64 0] := by
 refine if_pos (List.all_eq_true.2 fun x hx => ?_)
 obtain ⟨k, hk, rfl⟩ := List.mem_iff_getElem.1 hx
 exact h k _ (List.getElem?_eq_getElem hk)
theorem showS_bytes' (p : Nat → Bool) : ∀ x ∈ showS p, x < 256 := by
 have hp : ∀ l : List (Nat × Nat), (∀ x ∈ l, x.1 ≤ x.2 ∧ x.2 < 256) → ∀ y ∈ piecesS l, y < 256 := by
  intro l
  induction l with
  | nil => intro _ y hy; simp [piecesS] at hy
  | cons x l ih =>
   intro hl y hy
   have hx := hl x (by simp)
   rw [piecesS_cons] at hy
   rcases List.mem_append.1 hy with hy | hy
   ·unfold pieceS at hy
    rcases List.mem_append.1 hy with hy | hy
    ·exact (chr_head x.1 (by omega)).2.2.2.2 y hy
    ·rcases List.mem_append.1 hy with hy | hy
     ·split at hy
      ·simp at hy; omega
      ·simp at hy
     ·split at hy
      ·exact (chr_head x.2 hx.2).2.2.2.2 y hy
      ·simp at hy
   ·exact ih (fun z hz => hl z (by simp [hz])) y hy
 intro x hx
 unfold showS at hx
 split at hx
 ·simp only [List.mem_append, List.mem_cons, List.not_mem_nil, or_false] at hx
  rcases hx with (h | h) | h | h
  ·omega
  ·omega
  ·exact hp _ (cutsOf_in _) x h
  ·omega
 ·simp only [List.mem_append, List.mem_cons, List.not_mem_nil, or_false] at hx
  rcases hx with h | h | h
  ·omega
  ·exact hp _ (cutsOf_in _) x h
  ·omega
theorem setT_bytes (p : Nat → Bool) : ∀ x ∈ setT p, x < 256 := by
 unfold setT
 split
 ·rename_i h
  obtain ⟨c, hc⟩ := List.length_eq_one_iff.1 h
  rw [hc]
  exact litS_bytes c (elems_lt (m := 256) (p := p) (by rw [hc]; simp))
 ·split
  ·simp
  ·exact showS_bytes' p
theorem repT_bytes {lo hi : Int} (h1 : lo ≤ 1000) (h2 : hi ≤ 1000) : ∀ x ∈ repT lo hi, x < 256 := by
 intro x hx
 unfold repT at hx
 have d1 := decS_bytes lo.toNat (by omega)
 have d2 := decS_bytes hi.toNat (by omega)
 simp only [List.mem_append, List.mem_cons, List.not_mem_nil, or_false] at hx
 rcases hx with h | h | h | h
 ·omega
 ·have := d1 x h; omega
 ·split at h
  ·simp at h; omega
  ·split at h
   ·rcases List.mem_cons.1 h with h | h
    ·omega
    ·have := d2 x h; omega
   ·cases h
 ·omega
theorem textS_bytes {x : Lex} (h : rightS x = true) : ∀ y ∈ textS x, y < 256 := by
 obtain ⟨_, h | h | h⟩ := rightS_cases h
 ·unfold textS
  rw [if_pos h.1]
  exact setT_bytes _
 ·unfold textS
  rw [if_neg (by omega), if_pos h.1]
  exact repT_bytes (by omega) (by omega)
 ·unfold textS
  rw [if_neg (by omega), if_neg (by omega)]
  repeat' split
  all_goals simp
theorem strCells_of (t : List Nat) (h : ∀ x ∈ t, x < 256) : Lib.strCells (strOf t) = t.map (fun c : Nat => Value.int .u8 (c : Int)) := by
 unfold Lib.strCells strOf
 simp only [List.map_map]
 apply List.map_congr_left
 intro x hx
 have := h x hx
 simp
 omega
theorem own_text {w : World} {base : Nat} {v : Value} {ns : List Nat} (h : w.ownsRow base 5 1 v ns.length (ns.map (fun n : Nat => Value.int .u8 (n : Int)))) :
  (convert 29 9 v).run Tryz.prog w = .ok (.string (strOf ns)) w := by
 rcases h.2 with ⟨rfl, h0⟩ | ⟨g, cap, cur, hv, hb, hh, _⟩
 ·have : ns = [] := List.length_eq_zero_iff.1 h0
  subst this
  rw [run_convert_bytes_string w _ _ 5 none _ _ Tryz.underlying29 Tryz.underlying5 Tryz.underlying9]
  rfl
 ·subst hv
  exact run_str w ⟨g, 0, none⟩ cap ns (h.cells (g := g) rfl)
end
section
end
section
open Go.RowKit
theorem join_go (A : Option Addr) (cap : Nat) (L : List Lex) (w : World) (hA : LexsAt w w.heap.size A L) (hlen : L.length ≤ 1048576) (hT : TabAt 0 Lib.deBruijn64tab w) (hw0 : 0 < w.heap.size) :
  Calls Tryz.prog 125 #[.slice A L.length cap] w fun e w' => e = .returned (joinV L) ∧ Below w.heap.size w w' := by
 obtain ⟨i0, hi, hz0, hz1, hz2⟩ := info_parts byte_info
 have HA := Lib.hid hA
 have HT := Lib.hid hT
 clear hA hT
 go_enter Tryz.func125, Tryz.ntmps125
 go_wp2
 go_loopw [4, 9] (fun v i wr => ∃ k : Nat, i = .int .i64 (k : Int) ∧ k ≤ L.length ∧ Hid (wr.ownsRow w.heap.size 5 1 v (joinS (L.take k)).length ((joinS (L.take k)).map (fun n : Nat => Value.int .u8 (n : Int)))) ∧ Hid (Below w.heap.size w wr) ∧ Hid (∀ (j : Nat) x, j < k → L[j]? = some x → rightS x = true)) (fun _ i _ => L.length - (intOf i).toNat)
 case atStart => exact ⟨0, rfl, Nat.zero_le _, Lib.hid (World.ownsRow_nil _ _ _ _), Lib.hid (Below.refl _ _), Lib.hid (fun j x hj => by omega)⟩
 case round =>
  obtain ⟨k, rfl, hk, Hown, HB, HR⟩ := hrel
  by_cases hlt : k < L.length
  ·obtain ⟨x, hx⟩ : ∃ x, L[k]? = some x := ⟨_, List.getElem?_eq_getElem hlt⟩
   obtain ⟨b, o, rfl, hbl, hc⟩ := HA.out (by omega)
   have hbl' : b < wr.heap.size := Nat.lt_of_lt_of_le hbl HB.out.size
   obtain ⟨c0, c1, c2, c3, c4, c5, c6, c7⟩ := ((HA.out.below HB.out) (by omega)).elim fun b' h => h.elim fun o' h => by
    obtain ⟨e, _, h⟩ := h
    obtain ⟨rfl, rfl⟩ : b = b' ∧ o = o' := by simpa using e
    exact h k x hx
   clear hc
   have Hx := Lib.hid hx
   have hdl : (k : Int) < (L.length : Int) := by omega
   have Hbx := Lib.hid (Blk.new wr 143 #[.int .i64 x.kind, .int .i64 x.place, .int .u64 (word x.set 0), .int .u64 (word x.set 1), .int .u64 (word x.set 2), .int .u64 (word x.set 3), .int .i64 x.lo, .int .i64 x.hi])
   have HBx := Lib.hid (HB.out.alloc HB.out.size (.cells #[.int .i64 x.kind, .int .i64 x.place, .int .u64 (word x.set 0), .int .u64 (word x.set 1), .int .u64 (word x.set 2), .int .u64 (word x.set 3), .int .i64 x.lo, .int .i64 x.hi] 143))
   have Hownx := Lib.hid (Hown.out.alloc (.cells #[.int .i64 x.kind, .int .i64 x.place, .int .u64 (word x.set 0), .int .u64 (word x.set 1), .int .u64 (word x.set 2), .int .u64 (word x.set 3), .int .i64 x.lo, .int .i64 x.hi] 143))
   go_wp2_with fail
   refine (right_go _ _ _ _ _ _ _ _ _).mono ?_
   rintro e w1 ⟨rfl, hb1⟩
   change Hid _ at Hx
   have Hb1 := Lib.hid (Hbx.out.below hb1 Hbx.out.lt)
   have HB1 := Lib.hid (HBx.out.trans (hb1.mono HBx.out.size))
   have Hown1 := Lib.hid (own_below Hownx.out hb1)
   clear hb1 c0 c1 c2 c3 c4 c5 c6 c7
   cases hr : rightS x
   ·have hr' := hr
    unfold rightS at hr'
    rw [hr']
    have HV := Lib.hid (joinV_bad Hx.out hr)
    clear hr hr'
    go_wp2
    go_light
    go_ret2
    exact ⟨by rw [HV.out]; rfl, HB1.out⟩
   ·have hr' := hr
    unfold rightS at hr'
    rw [hr']
    have Hr := Lib.hid hr
    clear hr hr'
    have s0 := Hb1.out.cell 0
    have s1 := Hb1.out.cell 1
    have s2 := Hb1.out.cell 2
    have s3 := Hb1.out.cell 3
    have s4 := Hb1.out.cell 4
    have s5 := Hb1.out.cell 5
    have s6 := Hb1.out.cell 6
    have s7 := Hb1.out.cell 7
    simp at s0 s1 s2 s3 s4 s5 s6 s7
    go_wp2_with fail
    refine (text_go x _ Hr.out (TabAt.below HB1.out hw0 HT.out) (Nat.lt_of_lt_of_le hw0 HB1.out.size)).mono ?_
    rintro e w2 ⟨rfl, hb2⟩
    have HB2 := Lib.hid (HB1.out.trans (hb2.mono HB1.out.size))
    have Hown2 := Lib.hid (own_below Hown1.out hb2)
    clear hb2 s0 s1 s2 s3 s4 s5 s6 s7
    have l1 := joinS_len (L.take k)
    have l2 : (L.take k).length ≤ 1048576 := by rw [List.length_take]; omega
    have l3 := textS_len x
    have Hj := Lib.hid (joinS_take Hx.out)
    have Hs := Lib.hid (strCells_of (textS x) (textS_bytes Hr.out))
    have m1 : (joinS (L.take k)).length + (strOf (textS x)).size ≤ maxLen := by rw [strOf_size]; exact Nat.le_trans (by omega) (show 140737488355328 ≤ maxLen by decide)
    have m2 : (joinS (L.take k)).length + (strOf (textS x)).size ≤ 140737488355328 := by rw [strOf_size]; omega
    go_wp2_with (at_builtin; refine Lib.wpList_append_own_string _ rfl _ _ _ _ rfl w.heap.size 5 i0 Tryz.underlying29 Tryz.underlying9 hi hz0 hz1 hz2 _ _ _ rfl Hown2.out _ rfl m1 m2 HB2.out.size ?_; intro v' w3 hown3 hg3 _)
    have Hown3 : Hid (w3.ownsRow w.heap.size 5 1 v' (joinS (L.take (k + 1))).length ((joinS (L.take (k + 1))).map (fun n : Nat => Value.int .u8 (n : Int)))) := Lib.hid (by
     rw [Hs.out, strOf_size] at hown3
     rw [Hj.out, List.length_append, List.map_append]
     exact hown3)
    have HB3 := Lib.hid (below_grown HB2.out hg3 Hown2.out (Nat.le_refl _) HB2.out.size)
    clear hown3 hg3
    go_light
    go_roundw
    case rel => exact ⟨k + 1, by go_num, by omega, Hown3, HB3, Lib.hid (fun j y hj hy => by
     rcases Nat.lt_or_ge j k with h | h
     ·exact HR.out j y h hy
     ·obtain rfl : j = k := by omega
      rw [Hx.out] at hy
      cases hy
      exact Hr.out)⟩
    case measure => simp [intOf]; omega
  ·have hdl : ¬ (k : Int) < (L.length : Int) := by omega
   obtain rfl : k = L.length := by omega
   have HV := Lib.hid (joinV_ok (fun j x hx => HR.out j x (List.getElem?_eq_some_iff.mp hx).1 hx))
   have hown := Hown.out
   rw [List.take_length] at hown
   have hs := own_text hown
   clear hown
   go_wp2
   go_light
   go_ret2
   exact ⟨by rw [HV.out]; rfl, HB.out⟩
theorem low63M (n : Int) : bits .and .i64 n 63 = n % 64 := by
 have h63 : (BitVec.ofInt 64 63).toNat = 2 ^ 6 - 1 := by decide
 have key : (BitVec.ofInt 64 n &&& BitVec.ofInt 64 63).toNat = (n % ((2 ^ 64 : Nat) : Int)).toNat % 2 ^ 6 := by
  rw [BitVec.toNat_and, BitVec.toNat_ofInt, h63, Nat.and_two_pow_sub_one_eq_mod]
 show IntKind.i64.wrap ((BitVec.ofInt 64 n &&& BitVec.ofInt 64 63).toNat : Nat) = n % 64
 rw [key, IntKind.wrap_i64]
 omega
theorem set_grown (w : World) (g o : Nat) (v : Value) : w.grownBy (w.setCell ⟨g, o, none⟩ v) (some g) :=
 ⟨rfl, rfl, rfl, by simp [World.setCell], fun k _ hk => Below.heap_setCell _ _ _ _ (fun e => hk (by rw [e]))⟩
theorem grown_drew {w w' : World} {r : Option Nat} (h : w.grownBy w' r) : w.grownBy w'.drew r := ⟨h.os, h.tape, h.output, h.size, h.block⟩
theorem pput_go (g : Nat) (p : Nat → Bool) (i : Nat) (hi : i < 320) (w : World) (hG : Blk w g 69 #[.int .u64 (word p 0), .int .u64 (word p 1), .int .u64 (word p 2), .int .u64 (word p 3), .int .u64 (word p 4)]) :
  Calls Tryz.prog 185 #[.pointer (some ⟨g, 0, none⟩), .int .i64 (i : Int)] w fun e w' => e = .returned (.tuple #[]) ∧ Blk w' g 69 #[.int .u64 (word (withB p i) 0), .int .u64 (word (withB p i) 1), .int .u64 (word (withB p i) 2), .int .u64 (word (withB p i) 3), .int .u64 (word (withB p i) 4)] ∧ w.grownBy w' (some g) := by
 have h0 : (0 : Int) ≤ (i : Int) := by omega
 have hlg := hG.lt
 have h63 := low63M (i : Int)
 have hm0 : 0 ≤ (i : Int) % 64 := by omega
 have hm1 : (i : Int) % 64 < 64 := by omega
 obtain hq | hq | hq | hq | hq : (i : Int) / 64 = 0 ∨ (i : Int) / 64 = 1 ∨ (i : Int) / 64 = 2 ∨ (i : Int) / 64 = 3 ∨ (i : Int) / 64 = 4 := by omega
 ·have y := hG.cell 0
  have f := hG.frozen 0
  simp only [List.getElem?_toArray, List.getElem?_cons_zero, List.getElem?_cons_succ] at y
  have hB := with_or p (i : Int) 0 h0 hq
  rw [Int.toNat_natCast, show ((i : Int) % 64).toNat = i % 64 by omega] at hB
  have HE := Lib.hid (show Blk ((w.setCell ⟨g, 0, none⟩ (.int .u64 (word (withB p i) 0))).drew) g 69 #[.int .u64 (word (withB p i) 0), .int .u64 (word (withB p i) 1), .int .u64 (word (withB p i) 2), .int .u64 (word (withB p i) 3), .int .u64 (word (withB p i) 4)] from by
   have h := (hG.set_ 0 (.int .u64 (word (withB p i) 0))).drew
   rw [show word (withB p i) 1 = word p 1 from (by have := with_other p (i : Int) 0 1 h0 hq (by decide); rwa [Int.toNat_natCast] at this), show word (withB p i) 2 = word p 2 from (by have := with_other p (i : Int) 0 2 h0 hq (by decide); rwa [Int.toNat_natCast] at this), show word (withB p i) 3 = word p 3 from (by have := with_other p (i : Int) 0 3 h0 hq (by decide); rwa [Int.toNat_natCast] at this), show word (withB p i) 4 = word p 4 from (by have := with_other p (i : Int) 0 4 h0 hq (by decide); rwa [Int.toNat_natCast] at this)]
   exact h)
  clear hG
  go_enter Tryz.func185, Tryz.ntmps185
  go_wp2_with fail
  go_region
  clear y f hB
  go_end0
  exact ⟨rfl, HE.out, grown_drew (set_grown w g 0 _)⟩
 ·have y := hG.cell 1
  have f := hG.frozen 1
  simp only [List.getElem?_toArray, List.getElem?_cons_zero, List.getElem?_cons_succ] at y
  have hB := with_or p (i : Int) 1 h0 hq
  rw [Int.toNat_natCast, show ((i : Int) % 64).toNat = i % 64 by omega] at hB
  have HE := Lib.hid (show Blk ((w.setCell ⟨g, 1, none⟩ (.int .u64 (word (withB p i) 1))).drew) g 69 #[.int .u64 (word (withB p i) 0), .int .u64 (word (withB p i) 1), .int .u64 (word (withB p i) 2), .int .u64 (word (withB p i) 3), .int .u64 (word (withB p i) 4)] from by
   have h := (hG.set_ 1 (.int .u64 (word (withB p i) 1))).drew
   rw [show word (withB p i) 0 = word p 0 from (by have := with_other p (i : Int) 1 0 h0 hq (by decide); rwa [Int.toNat_natCast] at this), show word (withB p i) 2 = word p 2 from (by have := with_other p (i : Int) 1 2 h0 hq (by decide); rwa [Int.toNat_natCast] at this), show word (withB p i) 3 = word p 3 from (by have := with_other p (i : Int) 1 3 h0 hq (by decide); rwa [Int.toNat_natCast] at this), show word (withB p i) 4 = word p 4 from (by have := with_other p (i : Int) 1 4 h0 hq (by decide); rwa [Int.toNat_natCast] at this)]
   exact h)
  clear hG
  go_enter Tryz.func185, Tryz.ntmps185
  go_wp2_with fail
  go_region
  clear y f hB
  go_end0
  exact ⟨rfl, HE.out, grown_drew (set_grown w g 1 _)⟩
 ·have y := hG.cell 2
  have f := hG.frozen 2
  simp only [List.getElem?_toArray, List.getElem?_cons_zero, List.getElem?_cons_succ] at y
  have hB := with_or p (i : Int) 2 h0 hq
  rw [Int.toNat_natCast, show ((i : Int) % 64).toNat = i % 64 by omega] at hB
  have HE := Lib.hid (show Blk ((w.setCell ⟨g, 2, none⟩ (.int .u64 (word (withB p i) 2))).drew) g 69 #[.int .u64 (word (withB p i) 0), .int .u64 (word (withB p i) 1), .int .u64 (word (withB p i) 2), .int .u64 (word (withB p i) 3), .int .u64 (word (withB p i) 4)] from by
   have h := (hG.set_ 2 (.int .u64 (word (withB p i) 2))).drew
   rw [show word (withB p i) 0 = word p 0 from (by have := with_other p (i : Int) 2 0 h0 hq (by decide); rwa [Int.toNat_natCast] at this), show word (withB p i) 1 = word p 1 from (by have := with_other p (i : Int) 2 1 h0 hq (by decide); rwa [Int.toNat_natCast] at this), show word (withB p i) 3 = word p 3 from (by have := with_other p (i : Int) 2 3 h0 hq (by decide); rwa [Int.toNat_natCast] at this), show word (withB p i) 4 = word p 4 from (by have := with_other p (i : Int) 2 4 h0 hq (by decide); rwa [Int.toNat_natCast] at this)]
   exact h)
  clear hG
  go_enter Tryz.func185, Tryz.ntmps185
  go_wp2_with fail
  go_region
  clear y f hB
  go_end0
  exact ⟨rfl, HE.out, grown_drew (set_grown w g 2 _)⟩
 ·have y := hG.cell 3
  have f := hG.frozen 3
  simp only [List.getElem?_toArray, List.getElem?_cons_zero, List.getElem?_cons_succ] at y
  have hB := with_or p (i : Int) 3 h0 hq
  rw [Int.toNat_natCast, show ((i : Int) % 64).toNat = i % 64 by omega] at hB
  have HE := Lib.hid (show Blk ((w.setCell ⟨g, 3, none⟩ (.int .u64 (word (withB p i) 3))).drew) g 69 #[.int .u64 (word (withB p i) 0), .int .u64 (word (withB p i) 1), .int .u64 (word (withB p i) 2), .int .u64 (word (withB p i) 3), .int .u64 (word (withB p i) 4)] from by
   have h := (hG.set_ 3 (.int .u64 (word (withB p i) 3))).drew
   rw [show word (withB p i) 0 = word p 0 from (by have := with_other p (i : Int) 3 0 h0 hq (by decide); rwa [Int.toNat_natCast] at this), show word (withB p i) 1 = word p 1 from (by have := with_other p (i : Int) 3 1 h0 hq (by decide); rwa [Int.toNat_natCast] at this), show word (withB p i) 2 = word p 2 from (by have := with_other p (i : Int) 3 2 h0 hq (by decide); rwa [Int.toNat_natCast] at this), show word (withB p i) 4 = word p 4 from (by have := with_other p (i : Int) 3 4 h0 hq (by decide); rwa [Int.toNat_natCast] at this)]
   exact h)
  clear hG
  go_enter Tryz.func185, Tryz.ntmps185
  go_wp2_with fail
  go_region
  clear y f hB
  go_end0
  exact ⟨rfl, HE.out, grown_drew (set_grown w g 3 _)⟩
 ·have y := hG.cell 4
  have f := hG.frozen 4
  simp only [List.getElem?_toArray, List.getElem?_cons_zero, List.getElem?_cons_succ] at y
  have hB := with_or p (i : Int) 4 h0 hq
  rw [Int.toNat_natCast, show ((i : Int) % 64).toNat = i % 64 by omega] at hB
  have HE := Lib.hid (show Blk ((w.setCell ⟨g, 4, none⟩ (.int .u64 (word (withB p i) 4))).drew) g 69 #[.int .u64 (word (withB p i) 0), .int .u64 (word (withB p i) 1), .int .u64 (word (withB p i) 2), .int .u64 (word (withB p i) 3), .int .u64 (word (withB p i) 4)] from by
   have h := (hG.set_ 4 (.int .u64 (word (withB p i) 4))).drew
   rw [show word (withB p i) 0 = word p 0 from (by have := with_other p (i : Int) 4 0 h0 hq (by decide); rwa [Int.toNat_natCast] at this), show word (withB p i) 1 = word p 1 from (by have := with_other p (i : Int) 4 1 h0 hq (by decide); rwa [Int.toNat_natCast] at this), show word (withB p i) 2 = word p 2 from (by have := with_other p (i : Int) 4 2 h0 hq (by decide); rwa [Int.toNat_natCast] at this), show word (withB p i) 3 = word p 3 from (by have := with_other p (i : Int) 4 3 h0 hq (by decide); rwa [Int.toNat_natCast] at this)]
   exact h)
  clear hG
  go_enter Tryz.func185, Tryz.ntmps185
  go_wp2_with fail
  go_region
  clear y f hB
  go_end0
  exact ⟨rfl, HE.out, grown_drew (set_grown w g 4 _)⟩
theorem u64_but_nat (p q : Nat → Bool) (i : Nat) : bits .andNot .u64 ((word p i : Nat) : Int) ((word q i : Nat) : Int) = ((word (fun c => p c && !q c) i : Nat) : Int) := by
 have h := u64_andNot_nat (word p i) (word q i) (word_lt p i) (word_lt q i)
 rw [h, ← word_and, ← word_not]
 try rfl
theorem u64_with_nat (p q : Nat → Bool) (i : Nat) : bits .or .u64 ((word p i : Nat) : Int) ((word q i : Nat) : Int) = ((word (fun c => p c || q c) i : Nat) : Int) := by
 rw [u64_or_nat _ _ (word_lt p i) (word_lt q i), word_or]
theorem phas_go (p : Nat → Bool) (i : Nat) (hi : i < 320) (w : World) :
  Calls Tryz.prog 57 #[.agg #[.int .u64 (word p 0), .int .u64 (word p 1), .int .u64 (word p 2), .int .u64 (word p 3), .int .u64 (word p 4)], .int .i64 (i : Int)] w fun e w' => e = .returned (.bool (p i)) ∧ Below w.heap.size w w' := by
 have h0 : (0 : Int) ≤ (i : Int) := by omega
 have h63 := low63M (i : Int)
 have hm0 : 0 ≤ (i : Int) % 64 := by omega
 have hm1 : (i : Int) % 64 < 64 := by omega
 obtain hq | hq | hq | hq | hq : (i : Int) / 64 = 0 ∨ (i : Int) / 64 = 1 ∨ (i : Int) / 64 = 2 ∨ (i : Int) / 64 = 3 ∨ (i : Int) / 64 = 4 := by omega
 ·have hB := has_bit p (i : Int) 0 h0 hq
  rw [Int.toNat_natCast, show ((i : Int) % 64).toNat = i % 64 by omega] at hB
  go_enter Tryz.func57, Tryz.ntmps57
  go_wp2
  go_light
  go_ret
  exact ⟨rfl, (Below.refl _ _).alloc (Nat.le_refl _) _⟩
 ·have hB := has_bit p (i : Int) 1 h0 hq
  rw [Int.toNat_natCast, show ((i : Int) % 64).toNat = i % 64 by omega] at hB
  go_enter Tryz.func57, Tryz.ntmps57
  go_wp2
  go_light
  go_ret
  exact ⟨rfl, (Below.refl _ _).alloc (Nat.le_refl _) _⟩
 ·have hB := has_bit p (i : Int) 2 h0 hq
  rw [Int.toNat_natCast, show ((i : Int) % 64).toNat = i % 64 by omega] at hB
  go_enter Tryz.func57, Tryz.ntmps57
  go_wp2
  go_light
  go_ret
  exact ⟨rfl, (Below.refl _ _).alloc (Nat.le_refl _) _⟩
 ·have hB := has_bit p (i : Int) 3 h0 hq
  rw [Int.toNat_natCast, show ((i : Int) % 64).toNat = i % 64 by omega] at hB
  go_enter Tryz.func57, Tryz.ntmps57
  go_wp2
  go_light
  go_ret
  exact ⟨rfl, (Below.refl _ _).alloc (Nat.le_refl _) _⟩
 ·have hB := has_bit p (i : Int) 4 h0 hq
  rw [Int.toNat_natCast, show ((i : Int) % 64).toNat = i % 64 by omega] at hB
  go_enter Tryz.func57, Tryz.ntmps57
  go_wp2
  go_light
  go_ret
  exact ⟨rfl, (Below.refl _ _).alloc (Nat.le_refl _) _⟩
@[go_sem] theorem index5_0 (a b c d e : Value) (w : World) : (Instr.index 69 (.agg #[a, b, c, d, e]) (.int .i64 0)).run Tryz.prog w = .ok a w := by kernel_rfl
@[go_sem] theorem index5_1 (a b c d e : Value) (w : World) : (Instr.index 69 (.agg #[a, b, c, d, e]) (.int .i64 1)).run Tryz.prog w = .ok b w := by kernel_rfl
@[go_sem] theorem index5_2 (a b c d e : Value) (w : World) : (Instr.index 69 (.agg #[a, b, c, d, e]) (.int .i64 2)).run Tryz.prog w = .ok c w := by kernel_rfl
@[go_sem] theorem index5_3 (a b c d e : Value) (w : World) : (Instr.index 69 (.agg #[a, b, c, d, e]) (.int .i64 3)).run Tryz.prog w = .ok d w := by kernel_rfl
@[go_sem] theorem index5_4 (a b c d e : Value) (w : World) : (Instr.index 69 (.agg #[a, b, c, d, e]) (.int .i64 4)).run Tryz.prog w = .ok e w := by kernel_rfl
theorem ret_pl {fn : Func} {t2 : Tmp} (h : fn.results = #[.cell t2 69]) {tmps : Array Value} {w : World} {g : Nat} {a0 a1 a2 a3 a4 : Value}
  (hp : tmps.getD t2 undef = .pointer (some ⟨g, 0, none⟩)) (hb : Blk w g 69 #[a0, a1, a2, a3, a4]) :
  (results fn tmps).run Tryz.prog w = .ok (.agg #[a0, a1, a2, a3, a4]) w :=
 results_cell_row h tmps w g _ _ _ _ hp hb Tryz.underlying69 rfl (by kernel_rfl)
theorem Blk.set5w {w : World} {g : Nat} {t : TypeId} {a b c d e a' b' c' d' e' : Value} (h : Blk w g t #[a, b, c, d, e]) : Blk (((((w.setCell ⟨g, 0, none⟩ a').setCell ⟨g, 1, none⟩ b').setCell ⟨g, 2, none⟩ c').setCell ⟨g, 3, none⟩ d').setCell ⟨g, 4, none⟩ e') g t #[a', b', c', d', e'] :=
 ((((h.set_ 0 a').set_ 1 b').set_ 2 c').set_ 3 d').set_ 4 e'
theorem pwith_go (p q : Nat → Bool) (w : World) :
  Calls Tryz.prog 187 #[.agg #[.int .u64 (word p 0), .int .u64 (word p 1), .int .u64 (word p 2), .int .u64 (word p 3), .int .u64 (word p 4)], .agg #[.int .u64 (word q 0), .int .u64 (word q 1), .int .u64 (word q 2), .int .u64 (word q 3), .int .u64 (word q 4)]] w fun e w' => e = .returned (.agg #[.int .u64 (word (fun c => p c || q c) 0), .int .u64 (word (fun c => p c || q c) 1), .int .u64 (word (fun c => p c || q c) 2), .int .u64 (word (fun c => p c || q c) 3), .int .u64 (word (fun c => p c || q c) 4)]) ∧ Below w.heap.size w w' := by
 have o0 := u64_with_nat p q 0
 have o1 := u64_with_nat p q 1
 have o2 := u64_with_nat p q 2
 have o3 := u64_with_nat p q 3
 have o4 := u64_with_nat p q 4
 go_enter Tryz.func187, Tryz.ntmps187
 go_wp2
 refine wp_loop_rounds 6 ?_
 rw [rounds_succ]
 go_wp2
 rw [rounds_succ]
 go_wp2
 rw [rounds_succ]
 go_wp2
 rw [rounds_succ]
 go_wp2
 rw [rounds_succ]
 go_wp2
 rw [rounds_succ]
 go_wp2
 go_light
 refine bodyPost_ret (ret_pl Tryz.results187 rfl ?_) rfl ⟨rfl, ?_⟩
 ·exact Blk.new_at (by simp)
 ·exact (((Below.refl _ _).alloc (Nat.le_refl _) _).alloc (by simp) _).alloc (by simp; omega) _
theorem pbut_go (p q : Nat → Bool) (w : World) :
  Calls Tryz.prog 224 #[.agg #[.int .u64 (word p 0), .int .u64 (word p 1), .int .u64 (word p 2), .int .u64 (word p 3), .int .u64 (word p 4)], .agg #[.int .u64 (word q 0), .int .u64 (word q 1), .int .u64 (word q 2), .int .u64 (word q 3), .int .u64 (word q 4)]] w fun e w' => e = .returned (.agg #[.int .u64 (word (fun c => p c && !q c) 0), .int .u64 (word (fun c => p c && !q c) 1), .int .u64 (word (fun c => p c && !q c) 2), .int .u64 (word (fun c => p c && !q c) 3), .int .u64 (word (fun c => p c && !q c) 4)]) ∧ Below w.heap.size w w' := by
 have o0 := u64_but_nat p q 0
 have o1 := u64_but_nat p q 1
 have o2 := u64_but_nat p q 2
 have o3 := u64_but_nat p q 3
 have o4 := u64_but_nat p q 4
 go_enter Tryz.func224, Tryz.ntmps224
 go_wp2
 refine wp_loop_rounds 6 ?_
 rw [rounds_succ]
 go_wp2
 rw [rounds_succ]
 go_wp2
 rw [rounds_succ]
 go_wp2
 rw [rounds_succ]
 go_wp2
 rw [rounds_succ]
 go_wp2
 rw [rounds_succ]
 go_wp2
 go_light
 refine bodyPost_ret (ret_pl Tryz.results224 rfl ?_) rfl ⟨rfl, ?_⟩
 ·exact Blk.new_at (by simp)
 ·exact (((Below.refl _ _).alloc (Nat.le_refl _) _).alloc (by simp) _).alloc (by simp; omega) _
end
section
open Go.RowKit Go.Shelf
attribute [local go_sem] Oper.semAt_some
theorem index_pl (p : Nat → Bool) (i : Nat) (hi : i < 5) (w : World) : (Instr.index 69 (.agg #[.int .u64 (word p 0), .int .u64 (word p 1), .int .u64 (word p 2), .int .u64 (word p 3), .int .u64 (word p 4)]) (.int .i64 (i : Int))).run Tryz.prog w = .ok (.int .u64 ((word p i : Nat) : Int)) w := by
 rcases i with _ | _ | _ | _ | _ | i
 ·exact index5_0 ..
 ·exact index5_1 ..
 ·exact index5_2 ..
 ·exact index5_3 ..
 ·exact index5_4 ..
 ·omega
def placeArg (x : Nat) : Array Value := #[.int .i64 (x : Int)]
theorem pall1_in (n : Nat) (hn : 1 ≤ n) (p : Nat → Bool) (l Bs n₀ : Nat) (hBs : 0 < n₀) (J Jx : List Nat → World → Prop)
  (hY : ∀ pre x W, J pre W → pre.length < 320 → p x = true → YieldAt Fence.wide (n - 1) Tryz.prog l (placeArg x) W fun e W' =>
   (e = .returned (.bool true) ∧ J (pre ++ [x]) W' ∧ Below n₀ W W') ∨ (e = .returned (.bool false) ∧ Jx (pre ++ [x]) W'))
  (W : World) (hs : Blk W Bs 69 #[.int .u64 (word p 0), .int .u64 (word p 1), .int .u64 (word p 2), .int .u64 (word p 3), .int .u64 (word p 4)]) (hT : TabAt 0 Lib.deBruijn64tab W) (h0 : J [] W) :
  CallsIn Fence.wide n Tryz.prog 173 #[.func (.yield l) #[] #[], .pointer (some ⟨Bs, 0, none⟩)] W fun e W' => (∃ v, e = .returned v) ∧
   ((∃ ys, ys = elems p 320 ∧ J ys W') ∨ (∃ pre, (∃ k, k ≤ 320 ∧ pre = elems p k) ∧ Jx pre W')) := by
 refine callsIn_of_wp Tryz.func173 rfl trivial ?_ rfl
 simp only [Tryz.ntmps173, List.size_toArray, List.length_cons, List.length_nil, Nat.reduceAdd, Nat.reduceSub, Array.replicate_succ, Array.replicate_zero, List.push_toArray, List.append_toArray, List.nil_append, List.cons_append]
 have s0 := hs.cell 0
 have s1 := hs.cell 1
 have s2 := hs.cell 2
 have s3 := hs.cell 3
 have s4 := hs.cell 4
 simp only [List.getElem?_toArray, List.getElem?_cons_zero, List.getElem?_cons_succ] at s0 s1 s2 s3 s4
 gi_wp2
 gi_loopw [6] (fun v wr => ∃ i : Nat, i ≤ 5 ∧ v = .int .i64 (i : Int) ∧ J (elems p (64 * i)) wr ∧ Below n₀ W wr)
  (fun v _ => 5 - (intOf v).toNat)
 case atStart => exact ⟨0, by omega, rfl, h0, Below.refl _ _⟩
 case round =>
  obtain ⟨i, hi, rfl, hJ, hB⟩ := hrel
  by_cases hlt : i < 5
  ·have hix := index_pl p i hlt
   gi_wp2
   have hd : decide ((i : Int) < 5) = true := by simp; omega
   rw [hd]
   gi_loopw [4] (fun v w2 => ∃ m : Nat, m ≤ 64 * i + 64 ∧ 64 * i ≤ m ∧ v = .int .u64 ((word (fun c => p c && decide (m ≤ c)) i : Nat) : Int) ∧ J (elems p m) w2 ∧ Below n₀ W w2)
    (fun v _ => (intOf v).toNat)
   case atStart => exact ⟨64 * i, by omega, Nat.le_refl _, by rw [word_start], hJ, hB⟩
   case round =>
    obtain ⟨m, hm1, hm2, rfl, hJ2, hB2⟩ := hrel
    by_cases hz : word (fun c => p c && decide (m ≤ c)) i = 0
    ·have hend := elems_end p i m hm1 hm2 hz
     rw [hz]
     gi_wp2
     exact ⟨⟨i + 1, by omega, by simp, by rw [hend]; exact hJ2, hB2⟩, by simp [intOf]; omega⟩
    ·obtain ⟨hk, hmk, hel, hand, hless⟩ := elems_next p i m hm1 hm2 hz
     have hx := word_lt (fun c => p c && decide (m ≤ c)) i
     generalize hwx : word (fun c => p c && decide (m ≤ c)) i = x at *
     have hx0 : ((x : Int) == 0) = false := by simp; omega
     have hTx : TabAt 0 Lib.deBruijn64tab _ := fun j hj => (hB2.cell (p := ⟨0, j, none⟩) (by show 0 < n₀; omega)).trans (hT j hj)
     have htz := tz_go x hx hz _ hTx
     generalize Lib.ctz 64 x = k at *
     obtain ⟨fn, tmps, assign, body, hy, hR⟩ := hY _ (64 * i + k) _ hJ2 (by have := elems_len p m; omega) (by
      have h9 : 64 * i + k ∈ elems p (64 * i + k + 1) := by rw [hel]; simp
      unfold elems at h9
      exact (List.mem_filter.1 h9).2)
     unfold placeArg at hy
     have ev : ((64 * i + k : Nat) : Int) = (i : Int) * 64 + (k : Int) := by omega
     rw [ev] at hy
     have esub : IntKind.u64.wrap ((x : Int) - 1) = ((x - 1 : Nat) : Int) := by rw [IntKind.wrap_u64]; omega
     have eand : bits .and .u64 (x : Int) ((x - 1 : Nat) : Int) = ((word (fun c => p c && decide (64 * i + k + 1 ≤ c)) i : Nat) : Int) := by
      rw [← hand]; exact u64_and_nat x (x - 1) hx (by omega)
     clear hwx
     gi_wp2_with (refine ⟨trivial, ?_⟩; gi_at_call 174; refine (callsIn_wide.2 htz).mono ?_; rintro e w' ⟨rfl, rfl⟩)
     refine hR.mono ?_
     rintro e W3 (⟨rfl, hJ3, hk3⟩ | ⟨rfl, hJx3⟩)
     ·gi_wp2
      go_roundw
      case rel => exact ⟨64 * i + k + 1, by omega, by omega, rfl, by rw [hel]; exact hJ3, hB2.trans hk3⟩
      case measure => simp [intOf]; omega
     ·gi_wp2
      refine bodyPost_ret (results_none rfl _ _ _) rfl ?_
      exact ⟨⟨_, rfl⟩, .inr ⟨_, ⟨64 * i + k + 1, by omega, hel.symm⟩, hJx3⟩⟩
  ·obtain rfl : i = 5 := by omega
   gi_wp2
   go_end0
   exact ⟨⟨_, rfl⟩, .inl ⟨_, rfl, hJ⟩⟩
theorem pall_go (p : Nat → Bool) (w : World) :
  Calls Tryz.prog 150 #[.agg #[.int .u64 (word p 0), .int .u64 (word p 1), .int .u64 (word p 2), .int .u64 (word p 3), .int .u64 (word p 4)]] w fun e w' => e = .returned (.func (.func 173) #[] #[.pointer (some ⟨w.heap.size, 0, none⟩)]) ∧ w' = w.alloc (.cells #[.int .u64 (word p 0), .int .u64 (word p 1), .int .u64 (word p 2), .int .u64 (word p 3), .int .u64 (word p 4)] 69) := by
 go_enter Tryz.func150, Tryz.ntmps150
 go_wp2
 go_light
 go_ret
 exact ⟨rfl, rfl⟩
theorem pall_sub (n : Nat) (hn : 1 ≤ n) (p : Nat → Bool) (m : Nat) (hm : ∀ c, p c = true → c ≤ m) (Bs n₀ : Nat) (w : World) (hBs : 0 < n₀) (hBw : Bs < w.heap.size) (hs : Blk w Bs 69 #[.int .u64 (word p 0), .int .u64 (word p 1), .int .u64 (word p 2), .int .u64 (word p 3), .int .u64 (word p 4)]) (hT : TabAt 0 Lib.deBruijn64tab w) :
  SeqStopsK Fence.wide n Tryz.prog 173 #[.pointer (some ⟨Bs, 0, none⟩)] (fun x : {c : Nat // c ≤ m} => placeArg x.1) (Below n₀) (fun ys => ys.map (·.1) = elems p 320) (fun pre => ∃ k, k ≤ 320 ∧ pre.map (·.1) = elems p k) 320 w := fun l J Jx W hW _ _ hY h0 => by
 refine (pall1_in n hn p l Bs n₀ hBs (fun pre W => ∃ q : List {c : Nat // c ≤ m}, q.map (·.1) = pre ∧ J q W) (fun pre W => ∃ q : List {c : Nat // c ≤ m}, q.map (·.1) = pre ∧ Jx q W) (fun pre x W1 hJ hl hpx => by
  obtain ⟨q, rfl, hJ⟩ := hJ
  refine (hY q ⟨x, hm x hpx⟩ W1 hJ (by simpa using hl)).mono fun e W' h => ?_
  rcases h with ⟨h1, h2, h3⟩ | ⟨h1, h2⟩
  ·exact .inl ⟨h1, ⟨_, by simp, h2⟩, h3⟩
  ·exact .inr ⟨h1, _, by simp, h2⟩) W (hs.below hW hBw) (TabAt.below hW (World.block_lt_of_cell? w _ (hT 0 (by decide))) hT) ⟨[], rfl, h0⟩).mono ?_
 rintro e W' ⟨h1, h2⟩
 refine ⟨h1, ?_⟩
 rcases h2 with ⟨ys, h3, q, h4, h5⟩ | ⟨pre, h3, q, h4, h5⟩
 ·exact .inl ⟨q, h4.trans h3, h5⟩
 ·obtain ⟨k, h6, h7⟩ := h3
  exact .inr ⟨q, ⟨k, h6, h4.trans h7⟩, h5⟩
end
section
open Go.RowKit Go.Maps
def askV (q : Int × Int) : Value := .agg #[.int .i64 q.1, .int .i64 q.2]
theorem askV_inj (q q' : Int × Int) (h : askV q = askV q') : q = q' := by
 obtain ⟨a, b⟩ := q
 obtain ⟨c, d⟩ := q'
 unfold askV at h
 simp at h
 rw [h.1, h.2]
theorem laidOutM : laidOutB Tryz.prog = true := by kernel_rfl
theorem askRow : (168 : TypeId) < Tryz.prog.types.size := of_decide_eq_true (by kernel_rfl)
theorem askWide : (match Tryz.prog.underlying 168 with | some (.array _ _) | some (.struct _) => true | _ => false) = true := by rw [Tryz.underlying168]
theorem askKeyed : Keyed Tryz.prog 168 := Keyed.of_law (deep_law_laid laidOutM (m := 2) (by omega) askRow (by kernel_rfl) askWide)
theorem askSize : ∃ m, Tryz.prog.types.size = m + 1 := ⟨_, (Nat.sub_add_cancel (Nat.lt_of_le_of_lt (Nat.zero_le _) askRow)).symm⟩
def okA (q : Int × Int) : Prop := (Lit.int .i64 q.1).wf = true ∧ (Lit.int .i64 q.2).wf = true
theorem askCells : Tryz.prog.cellsOf 168 = 2 := by kernel_rfl
theorem intCells : Tryz.prog.cellsOf 3 = 1 := by kernel_rfl
theorem askType : Tryz.prog.keyType 168 = true := by kernel_rfl
theorem ask_lits (q : Int × Int) (h : okA q) (m : Nat) : Tryz.prog.keyLits (m + 1 + 1) 168 [.int .i64 q.1, .int .i64 q.2] = some [.int .i64 q.1, .int .i64 q.2] := by
 obtain ⟨wa, wb⟩ := h
 unfold Program.keyLits
 simp only [Tryz.underlying168]
 rw [if_pos (by rw [askCells]; exact ⟨rfl, by decide +kernel⟩)]
 simp [intCells, Program.keyLits, Tryz.underlying3, wa, wb]
theorem ask_key (q : Int × Int) (h : okA q) : ∃ l, keyOf Tryz.prog 168 (askV q) = some l := by
 obtain ⟨m, hm⟩ := askSize
 have h2 := ask_lits q h m
 unfold keyOf askV
 simp only [Tryz.underlying168]
 rw [if_pos (by simp [askType, Value.formed, Tryz.underlying168, askCells]), hm]
 simp only [Value.cells]
 rw [h2]
 exact ⟨_, rfl⟩
def kidNums : Nat → List Nd → List Int
 | _, [] => []
 | n, z :: l => (n : Int) :: kidNums (n + z.size) l
theorem kidNums_len : ∀ (n : Nat) (l : List Nd), (kidNums n l).length = l.length
 | _, [] => rfl
 | n, z :: l => by simp [kidNums, kidNums_len (n + z.size) l]
theorem nodes_cons (k : Int) (s : Nat) (ks : Trees) (lo hi : Int) (r : Trees) : (Trees.cons k s ks lo hi r).nodes = (⟨k, s, ks, lo, hi⟩ : Nd).nodes ++ r.nodes := by
 simp [Trees.nodes, Nd.nodes]
theorem forest_at : ∀ (F : Trees) (X : List Nd) (n : Nat), (∀ i y, F.nodes[i]? = some y → X[n + i]? = some y) → ∀ (i : Nat) (y : Nd), F.list[i]? = some y → ∃ m : Nat, (kidNums n F.list)[i]? = some (m : Int) ∧ X[m]? = some y ∧ ∀ j u, y.nodes[j]? = some u → X[m + j]? = some u
 | .nil, X, n, h, i, y, hi => by simp [Trees.list] at hi
 | .cons k s ks lo hi r, X, n, h, 0, y, hy => by
  simp [Trees.list] at hy
  subst hy
  refine ⟨n, by simp [Trees.list, kidNums], ?_, fun j u hu => ?_⟩
  ·have := h 0 ⟨k, s, ks, lo, hi⟩ (by simp [Trees.nodes])
   simpa using this
  ·refine h j u ?_
   rw [nodes_cons, List.getElem?_append_left (List.getElem?_eq_some_iff.1 hu).1]
   exact hu
 | .cons k s ks lo hi r, X, n, h, i + 1, y, hy => by
  have hl : (⟨k, s, ks, lo, hi⟩ : Nd).nodes.length = (⟨k, s, ks, lo, hi⟩ : Nd).size := Nd.nodes_len _
  obtain ⟨m, h1, h2⟩ := forest_at r X (n + (⟨k, s, ks, lo, hi⟩ : Nd).size) (fun j u hu => by
   have := h ((⟨k, s, ks, lo, hi⟩ : Nd).size + j) u (by
    rw [nodes_cons, List.getElem?_append_right (by omega), hl, Nat.add_sub_cancel_left]
    exact hu)
   rw [Nat.add_assoc]
   exact this) i y (by simpa [Trees.list] using hy)
  exact ⟨m, by simpa [Trees.list, kidNums] using h1, h2⟩
def Below1 (X : List Nd) (n : Nat) (z : Nd) : Prop := ∀ j u, z.nodes[j]? = some u → X[n + j]? = some u
theorem Below1.kid {X : List Nd} {n : Nat} {z : Nd} (h : Below1 X n z) {i : Nat} {y : Nd} (hy : z.kids.list[i]? = some y) : ∃ m : Nat, (kidNums (n + 1) z.kids.list)[i]? = some (m : Int) ∧ Below1 X m y := by
 obtain ⟨m, h1, _, h3⟩ := forest_at z.kids X (n + 1) (fun j u hu => by
  have := h (j + 1) u (by simpa [Nd.nodes] using hu)
  rw [show n + 1 + j = n + (j + 1) by omega]
  exact this) i y hy
 exact ⟨m, h1, h3⟩
theorem Below1.here {X : List Nd} {n : Nat} {z : Nd} (h : Below1 X n z) : X[n]? = some z := by
 have := h 0 z (by simp [Nd.nodes])
 simpa using this
def atB (i : Nat) : Nat → Bool := withB (fun _ => false) i
theorem atB_iff {i c : Nat} : atB i c = true ↔ c = i := by simp [atB, withB]
noncomputable def endsB (z : Nd) (bs : List Nat) (i : Nat) : Nat → Bool := imgB (z.rel bs) (atB i)
theorem endsB_iff {z : Nd} {bs : List Nat} {i j : Nat} : endsB z bs i j = true ↔ z.rel bs i j := by
 unfold endsB
 rw [imgB_iff]
 exact ⟨fun ⟨c, h1, h2⟩ => by rw [atB_iff.1 h1] at h2; exact h2, fun h => ⟨i, atB_iff.2 rfl, h⟩⟩
def goodM (x : Nd) (bs : List Nat) (q : Int × Int) (v : Value) : Prop := ∀ (k i : Nat) (z : Nd), q = ((k : Int), (i : Int)) → x.nodes[k]? = some z → v = .agg #[.int .u64 (word (endsB z bs i) 0), .int .u64 (word (endsB z bs i) 1), .int .u64 (word (endsB z bs i) 2), .int .u64 (word (endsB z bs i) 3), .int .u64 (word (endsB z bs i) 4)]
def PartAt (w : World) (b k : Nat) (z : Nd) : Prop := ∃ (B A : Option Addr) (n1 c1 c2 : Nat),
 w.cell? ⟨b, k * 9, none⟩ = some (.int .i64 z.kind) ∧ w.cell? ⟨b, k * 9 + 1, none⟩ = some (.int .u64 (word z.set.testBit 0)) ∧ w.cell? ⟨b, k * 9 + 2, none⟩ = some (.int .u64 (word z.set.testBit 1)) ∧
 w.cell? ⟨b, k * 9 + 3, none⟩ = some (.int .u64 (word z.set.testBit 2)) ∧ w.cell? ⟨b, k * 9 + 4, none⟩ = some (.int .u64 (word z.set.testBit 3)) ∧ w.cell? ⟨b, k * 9 + 5, none⟩ = some (.slice B n1 c1) ∧
 w.cell? ⟨b, k * 9 + 6, none⟩ = some (.int .i64 z.lo) ∧ w.cell? ⟨b, k * 9 + 7, none⟩ = some (.int .i64 z.hi) ∧ w.cell? ⟨b, k * 9 + 8, none⟩ = some (.slice A z.kids.len c2) ∧
 IntsAt w A (kidNums (k + 1) z.kids.list) ∧ z.kids.len ≤ c2
structure MatAt (w : World) (x : Nd) (bs : List Nat) (base gm b cp fm : Nat) (V : Option Addr) (cv : Nat) : Prop where
 box : Blk w gm 132 #[.slice (some ⟨b, 0, none⟩) x.size cp, .slice V bs.length cv, .map (some fm)]
 parts : ∀ k z, x.nodes[k]? = some z → PartAt w b k z
 cap : x.size ≤ cp
 word : BytesAt w base V bs
 len : bs.length ≤ 256
 memo : MemoAt askV okA (goodM x bs) w fm
 tab : TabAt 0 Lib.deBruijn64tab w
 tabl : 0 < base
 fml : base ≤ fm
 small : x.size ≤ 1000000
theorem ints_stayM {w w' : World} {A : Option Addr} {L : List Int} (h : IntsAt w A L) (hk : ∀ (j : Nat) (cs : Array Value) (t : TypeId) (fr : Nat × Nat), w.heap[j]? = some (Obj.cells cs t fr) → w'.heap[j]? = w.heap[j]?) : IntsAt w' A L := fun i a ha => by
 obtain ⟨b, o, e, hc⟩ := h i a ha
 refine ⟨b, o, e, ?_⟩
 cases hb : w.heap[b]? with
 | none => simp [World.cell?, hb] at hc
 | some ob =>
  cases ob with
  | cells cs t fr =>
   have := hk b cs t fr hb
   unfold World.cell? at hc ⊢
   dsimp only at hc ⊢
   rw [this]
   exact hc
  | _ => simp [World.cell?, hb] at hc
theorem cell_stay {w w' : World} (hk : ∀ (j : Nat) (cs : Array Value) (t : TypeId) (fr : Nat × Nat), w.heap[j]? = some (Obj.cells cs t fr) → w'.heap[j]? = w.heap[j]?) {b o : Nat} {v : Value} (h : w.cell? ⟨b, o, none⟩ = some v) : w'.cell? ⟨b, o, none⟩ = some v := by
 cases hb : w.heap[b]? with
 | none => simp [World.cell?, hb] at h
 | some ob =>
  cases ob with
  | cells cs t fr =>
   have := hk b cs t fr hb
   unfold World.cell? at h ⊢
   dsimp only at h ⊢
   rw [this]
   exact h
  | _ => simp [World.cell?, hb] at h
theorem MatAt.stay {w w' : World} {x : Nd} {bs : List Nat} {base gm b cp fm cv : Nat} {V : Option Addr} (h : MatAt w x bs base gm b cp fm V cv) (hk : ∀ (j : Nat) (cs : Array Value) (t : TypeId) (fr : Nat × Nat), w.heap[j]? = some (Obj.cells cs t fr) → w'.heap[j]? = w.heap[j]?) (hm : MemoAt askV okA (goodM x bs) w' fm) (hb : Below base w w') : MatAt w' x bs base gm b cp fm V cv := by
 refine ⟨(hk gm _ _ _ h.box).trans h.box, fun k z hz => ?_, h.cap, h.word.below hb, h.len, hm, TabAt.below hb h.tabl h.tab, h.tabl, h.fml, h.small⟩
 obtain ⟨B, A, n1, c1, c2, q0, q1, q2, q3, q4, q5, q6, q7, q8, q9, q10⟩ := h.parts k z hz
 exact ⟨B, A, n1, c1, c2, cell_stay hk q0, cell_stay hk q1, cell_stay hk q2, cell_stay hk q3, cell_stay hk q4, cell_stay hk q5, cell_stay hk q6, cell_stay hk q7, cell_stay hk q8, ints_stayM q9 hk, q10⟩
theorem MatAt.grown {w w' : World} {x : Nd} {bs : List Nat} {base gm b cp fm cv : Nat} {V : Option Addr} (h : MatAt w x bs base gm b cp fm V cv) (hg : w.grownBy w' (some fm)) (hm : MemoAt askV okA (goodM x bs) w' fm) : MatAt w' x bs base gm b cp fm V cv := by
 obtain ⟨es, clock, hf, _⟩ := h.memo
 refine h.stay (fun j cs t fr hj => hg.block j (Array.getElem?_eq_some_iff.1 hj).1 (fun e => ?_)) hm ((Below.refl base w).grown hg (by have := h.memo.lt; have := h.fml; omega) (fun k e => by cases e; exact h.fml))
 cases e
 rw [hf] at hj
 cases hj
theorem MatAt.below {w w' : World} {x : Nd} {bs : List Nat} {base gm b cp fm cv : Nat} {V : Option Addr} (h : MatAt w x bs base gm b cp fm V cv) (hb : Below w.heap.size w w') : MatAt w' x bs base gm b cp fm V cv :=
 h.stay (fun j cs t fr hj => hb.block j (Array.getElem?_eq_some_iff.1 hj).1) (h.memo.stay (hb.block fm h.memo.lt)) (hb.mono (by have := h.memo.lt; have := h.fml; omega))
theorem grown_trans {a b c : World} {r : Option Nat} (h : a.grownBy b r) (g : b.grownBy c r) : a.grownBy c r :=
 ⟨g.os.trans h.os, g.tape.trans h.tape, g.output.trans h.output, Nat.le_trans h.size g.size, fun k hk hne => (g.block k (Nat.lt_of_lt_of_le hk h.size) hne).trans (h.block k hk hne)⟩
theorem grown_below {a b : World} {r : Option Nat} (h : Below a.heap.size a b) : a.grownBy b r := ⟨h.os, h.tape, h.output, h.size, fun k hk _ => h.block k hk⟩
def EndsC (x : Nd) (bs : List Nat) (z : Nd) : Prop := ∀ (base gm b cp fm cv : Nat) (V : Option Addr) (w : World), MatAt w x bs base gm b cp fm V cv → ∀ (k i : Nat), Below1 x.nodes k z → i ≤ bs.length →
 Calls Tryz.prog 112 #[.pointer (some ⟨gm, 0, none⟩), .int .i64 (k : Int), .int .i64 (i : Int)] w fun e w' => e = .returned (.agg #[.int .u64 (word (endsB z bs i) 0), .int .u64 (word (endsB z bs i) 1), .int .u64 (word (endsB z bs i) 2), .int .u64 (word (endsB z bs i) 3), .int .u64 (word (endsB z bs i) 4)]) ∧ MatAt w' x bs base gm b cp fm V cv ∧ w.grownBy w' (some fm)
def EachC (x : Nd) (bs : List Nat) (z : Nd) : Prop := ∀ (base gm b cp fm cv : Nat) (V : Option Addr) (w : World), MatAt w x bs base gm b cp fm V cv → ∀ (k : Nat) (p : Nat → Bool), Below1 x.nodes k z → (∀ c, p c = true → c ≤ bs.length) →
 Calls Tryz.prog 186 #[.pointer (some ⟨gm, 0, none⟩), .int .i64 (k : Int), .agg #[.int .u64 (word p 0), .int .u64 (word p 1), .int .u64 (word p 2), .int .u64 (word p 3), .int .u64 (word p 4)]] w fun e w' => e = .returned (.agg #[.int .u64 ((word (imgB (z.rel bs) p) 0 : Nat) : Int), .int .u64 ((word (imgB (z.rel bs) p) 1 : Nat) : Int), .int .u64 ((word (imgB (z.rel bs) p) 2 : Nat) : Int), .int .u64 ((word (imgB (z.rel bs) p) 3 : Nat) : Int), .int .u64 ((word (imgB (z.rel bs) p) 4 : Nat) : Int)]) ∧ MatAt w' x bs base gm b cp fm V cv ∧ w.grownBy w' (some fm)
end
section
open Go.RowKit Go.Shelf
attribute [local go_sem] Oper.semAt_some
noncomputable def soFar (R : RelW) (pre : List Nat) : Nat → Bool := imgB R (fun c => decide (c ∈ pre))
theorem soFar_nil (R : RelW) : soFar R [] = fun _ => false := by
 funext c
 exact imgB_none (fun c => by simp) c
theorem soFar_snoc (z : Nd) (bs : List Nat) (pre : List Nat) (i : Nat) : (fun c => soFar (z.rel bs) pre c || endsB z bs i c) = soFar (z.rel bs) (pre ++ [i]) := setB_ext fun c => by
 rw [Bool.or_eq_true, endsB_iff]
 unfold soFar
 rw [imgB_iff, imgB_iff]
 constructor
 ·rintro (⟨j, h1, h2⟩ | h)
  ·exact ⟨j, by simp at h1 ⊢; exact .inl h1, h2⟩
  ·exact ⟨i, by simp, h⟩
 ·rintro ⟨j, h1, h2⟩
  simp at h1
  rcases h1 with h1 | rfl
  ·exact .inl ⟨j, by simpa using h1, h2⟩
  ·exact .inr h2
theorem soFar_all (R : RelW) {p : Nat → Bool} {n : Nat} (hp : ∀ c, p c = true → c < n) : soFar R (elems p n) = imgB R p := by
 unfold soFar
 have : (fun c => decide (c ∈ elems p n)) = p := setB_ext fun c => by
  unfold elems
  simp
  exact hp c
 rw [this]
structure EachI (x : Nd) (bs : List Nat) (base gm b cp fm cv : Nat) (V : Option Addr) (k : Nat) (w W : World) (s : Nat → Bool) : Prop where
 mat : MatAt W x bs base gm b cp fm V cv
 grown : w.grownBy W (some fm)
 b3 : Blk W w.heap.size 166 #[.pointer (some ⟨gm, 0, none⟩)]
 b4 : Blk W (w.heap.size + 1) 3 #[.int .i64 (k : Int)]
 b6 : Blk W (w.heap.size + 3) 69 #[.int .u64 0, .int .u64 0, .int .u64 0, .int .u64 0, .int .u64 0]
 b7 : Blk W (w.heap.size + 4) 69 #[.int .u64 (word s 0), .int .u64 (word s 1), .int .u64 (word s 2), .int .u64 (word s 3), .int .u64 (word s 4)]
 lt : fm < w.heap.size
theorem EachI.turn {x : Nd} {bs : List Nat} {base gm b cp fm cv k B : Nat} {V : Option Addr} {w W W' : World} {s : Nat → Bool} (h : EachI x bs base gm b cp fm cv V k w W s) (hB : w.heap.size ≤ B) {row : Option Nat} (hg : W.grownBy W' row) (hr : ∀ r, row = some r → B ≤ r ∧ ∃ o : Obj, W.heap[r]? = some o ∧ o.isCells = false) : EachI x bs base gm b cp fm cv V k w W' s := by
 have hc : ∀ (j : Nat) (cs : Array Value) (t : TypeId) (fr : Nat × Nat), W.heap[j]? = some (Obj.cells cs t fr) → W'.heap[j]? = W.heap[j]? := fun j cs t fr hj => hg.block j (Array.getElem?_eq_some_iff.1 hj).1 (fun e => by
  obtain ⟨_, o, h1, h2⟩ := hr j e.symm
  rw [hj] at h1
  cases h1
  cases h2)
 have hlow : ∀ j, j < w.heap.size → some j ≠ row := fun j hj e => by
  have := (hr j e.symm).1
  omega
 have hsz := h.grown.size
 refine ⟨h.mat.stay hc (h.mat.memo.stay (hg.block fm h.mat.memo.lt (hlow fm h.lt))) ((Below.refl base W).grown hg (by have := h.mat.fml; have := h.lt; omega) (fun r e => by have := (hr r e).1; have := h.mat.fml; have := h.lt; omega)),
  ⟨hg.os.trans h.grown.os, hg.tape.trans h.grown.tape, hg.output.trans h.grown.output, Nat.le_trans hsz hg.size, fun j hj hne => (hg.block j (by omega) (hlow j hj)).trans (h.grown.block j hj hne)⟩,
  (hc _ _ _ _ h.b3).trans h.b3, (hc _ _ _ _ h.b4).trans h.b4, (hc _ _ _ _ h.b6).trans h.b6, (hc _ _ _ _ h.b7).trans h.b7, h.lt⟩
theorem Blk.c5w {w : World} {g : Nat} {t : TypeId} {a b c d e : Value} (h : Blk w g t #[a, b, c, d, e]) : w.cell? ⟨g, 0, none⟩ = some a ∧ w.cell? ⟨g, 1, none⟩ = some b ∧ w.cell? ⟨g, 2, none⟩ = some c ∧ w.cell? ⟨g, 3, none⟩ = some d ∧ w.cell? ⟨g, 4, none⟩ = some e := ⟨h.cell 0, h.cell 1, h.cell 2, h.cell 3, h.cell 4⟩
theorem Blk.f5w {w : World} {g : Nat} {t : TypeId} {a b c d e : Value} (h : Blk w g t #[a, b, c, d, e]) : w.frozen? ⟨g, 0, none⟩ = false ∧ w.frozen? ⟨g, 1, none⟩ = false ∧ w.frozen? ⟨g, 2, none⟩ = false ∧ w.frozen? ⟨g, 3, none⟩ = false ∧ w.frozen? ⟨g, 4, none⟩ = false := ⟨h.frozen 0, h.frozen 1, h.frozen 2, h.frozen 3, h.frozen 4⟩
theorem EachI.grow {x : Nd} {bs : List Nat} {base gm b cp fm cv k : Nat} {V : Option Addr} {w W W' : World} {s : Nat → Bool} (h : EachI x bs base gm b cp fm cv V k w W s) (hg : W.grownBy W' (some fm)) (hM : MatAt W' x bs base gm b cp fm V cv) : EachI x bs base gm b cp fm cv V k w W' s := by
 obtain ⟨es, clock, hf, _⟩ := h.mat.memo
 have hc : ∀ {j : Nat} {cs : Array Value} {t : TypeId}, Blk W j t cs → Blk W' j t cs := fun {j cs t} hj => (hg.block j hj.lt (fun e => by
  cases e
  have := (show W.heap[fm]? = _ from hj).symm.trans hf
  cases this)).trans hj
 exact ⟨hM, grown_trans h.grown hg, hc h.b3, hc h.b4, hc h.b6, hc h.b7, h.lt⟩
theorem EachI.low {x : Nd} {bs : List Nat} {base gm b cp fm cv k : Nat} {V : Option Addr} {w W W' : World} {s : Nat → Bool} (h : EachI x bs base gm b cp fm cv V k w W s) (hb : Below W.heap.size W W') : EachI x bs base gm b cp fm cv V k w W' s :=
 ⟨h.mat.below hb, grown_trans h.grown (grown_below hb), h.b3.below hb h.b3.lt, h.b4.below hb h.b4.lt, h.b6.below hb h.b6.lt, h.b7.below hb h.b7.lt, h.lt⟩
def stow5 (W : World) (g : Nat) (p : Nat → Bool) : World := (((((W.setCell ⟨g, 0, none⟩ (.int .u64 (word p 0))).setCell ⟨g, 1, none⟩ (.int .u64 (word p 1))).setCell ⟨g, 2, none⟩ (.int .u64 (word p 2))).setCell ⟨g, 3, none⟩ (.int .u64 (word p 3))).setCell ⟨g, 4, none⟩ (.int .u64 (word p 4)))
theorem Blk.put5 {w : World} {g : Nat} {t : TypeId} {a b c d e : Value} (h : Blk w g t #[a, b, c, d, e]) (p : Nat → Bool) : Blk (stow5 w g p) g t #[.int .u64 (word p 0), .int .u64 (word p 1), .int .u64 (word p 2), .int .u64 (word p 3), .int .u64 (word p 4)] := h.set5w
theorem grown5 (W : World) (g : Nat) (p : Nat → Bool) : W.grownBy (stow5 W g p) (some g) :=
 grown_trans (grown_trans (grown_trans (grown_trans (set_grown W g 0 _) (set_grown _ g 1 _)) (set_grown _ g 2 _)) (set_grown _ g 3 _)) (set_grown _ g 4 _)
theorem grown_over {w W W' : World} {f : Nat} {row : Option Nat} (h : w.grownBy W (some f)) (hg : W.grownBy W' row) (hr : ∀ r, row = some r → w.heap.size ≤ r) : w.grownBy W' (some f) :=
 ⟨hg.os.trans h.os, hg.tape.trans h.tape, hg.output.trans h.output, Nat.le_trans h.size hg.size, fun k hk hne => (hg.block k (Nat.lt_of_lt_of_le hk h.size) (fun e => by have := hr k e.symm; omega)).trans (h.block k hk hne)⟩
theorem MatAt.over {w W W' : World} {x : Nd} {bs : List Nat} {base gm b cp fm cv : Nat} {V : Option Addr} {row : Option Nat} (h : MatAt w x bs base gm b cp fm V cv) (hW : w.grownBy W (some fm)) (hm : MemoAt askV okA (goodM x bs) W fm) (hg : W.grownBy W' row) (hr : ∀ r, row = some r → w.heap.size ≤ r) : MatAt W' x bs base gm b cp fm V cv :=
 h.grown (grown_over hW hg hr) (hm.stay (hg.block fm hm.lt (fun e => by have := hr fm e.symm; have := h.memo.lt; omega)))
theorem EachI.put {x : Nd} {bs : List Nat} {base gm b cp fm cv k : Nat} {V : Option Addr} {w W : World} {s : Nat → Bool} (hM : MatAt w x bs base gm b cp fm V cv) (h : EachI x bs base gm b cp fm cv V k w W s) {g : Nat} (hg : g = w.heap.size + 4) (s' : Nat → Bool) : EachI x bs base gm b cp fm cv V k w (stow5 W g s') s' := by
 subst hg
 have h5 := grown5 W (w.heap.size + 4) s'
 have hr : ∀ r, some (w.heap.size + 4) = some r → w.heap.size ≤ r := fun r e => by cases e; omega
 exact ⟨hM.over h.grown h.mat.memo h5 hr, grown_over h.grown h5 hr, h.b3.grown h5 (by simp), h.b4.grown h5 (by simp), h.b6.grown h5 (by simp), h.b7.put5 s', h.lt⟩
theorem each_body {x z : Nd} {bs : List Nat} {base gm b cp fm cv k B g : Nat} {V : Option Addr} {w W W1 W2 : World} {pre : List Nat} {i : Nat} (hM : MatAt w x bs base gm b cp fm V cv) (hI : EachI x bs base gm b cp fm cv V k w W (soFar (z.rel bs) pre)) (g1 : W.drew.grownBy W1 (some fm)) (h1 : EachI x bs base gm b cp fm cv V k w W1 (soFar (z.rel bs) pre)) (b2 : Below W1.heap.size W1 W2) (h2 : EachI x bs base gm b cp fm cv V k w W2 (soFar (z.rel bs) pre)) (hB : w.heap.size + 4 < B) (hg : g = w.heap.size + 4) :
  KeepsFrom B W (stow5 W2 g (fun c => soFar (z.rel bs) pre c || endsB z bs i c)) ∧
  Below base W (stow5 W2 g (fun c => soFar (z.rel bs) pre c || endsB z bs i c)) ∧
  EachI x bs base gm b cp fm cv V k w (stow5 W2 g (fun c => soFar (z.rel bs) pre c || endsB z bs i c)) (soFar (z.rel bs) (pre ++ [i])) := by
 have hlt := h1.lt
 have hfl := hM.fml
 have g2 : W.grownBy W1 (some fm) := ⟨g1.os, g1.tape, g1.output, g1.size, g1.block⟩
 have s0 := hI.grown.size
 have s1 := h1.grown.size
 have s2 := h2.grown.size
 have g5 := grown5 W2 g (fun c => soFar (z.rel bs) pre c || endsB z bs i c)
 refine ⟨((KeepsFrom.of_grownBy g2 (fun j e => by cases e; omega)).trans (KeepsFrom.of_grownBy (grown_below (r := none) b2) (fun j e => by cases e))).trans (KeepsFrom.of_grownBy g5 (fun j e => by cases e; omega)), ?_, ?_⟩
 ·exact (((Below.refl base W).grown g2 (by omega) (fun k e => by cases e; exact hfl)).trans (b2.mono (by omega))).grown g5 (by omega) (fun k e => by cases e; omega)
 ·have := h2.put hM hg (fun c => soFar (z.rel bs) pre c || endsB z bs i c)
  rw [soFar_snoc] at this
  rw [soFar_snoc]
  exact this
theorem each_end {x : Nd} {bs : List Nat} {base gm b cp fm cv k D g : Nat} {V : Option Addr} {w W : World} {s : Nat → Bool} (hM : MatAt w x bs base gm b cp fm V cv) (hI : EachI x bs base gm b cp fm cv V k w W s) (hK : W.heap[D]? = some (Obj.deferred (some []))) (hD : w.heap.size + 6 ≤ D) (q : Nat → Bool) (hg : g = w.heap.size + 3) :
  (stow5 W g q).heap[D]? = some (Obj.deferred (some [])) ∧ Blk ((stow5 W g q).putObj D (.deferred none)) g 69 #[.int .u64 (word q 0), .int .u64 (word q 1), .int .u64 (word q 2), .int .u64 (word q 3), .int .u64 (word q 4)] ∧ MatAt ((stow5 W g q).putObj D (.deferred none)) x bs base gm b cp fm V cv ∧ w.grownBy ((stow5 W g q).putObj D (.deferred none)) (some fm) := by
 subst hg
 have g5 := grown5 W (w.heap.size + 3) q
 have hlt := hI.lt
 have h1 : (stow5 W (w.heap.size + 3) q).heap[D]? = some (Obj.deferred (some [])) := (g5.block D (Array.getElem?_eq_some_iff.1 hK).1 (by simp; omega)).trans hK
 have gp := grownBy_putObj' (stow5 W (w.heap.size + 3) q) D (.deferred none)
 have hr : ∀ r, some (w.heap.size + 3) = some r → w.heap.size ≤ r := fun r e => by cases e; omega
 have hr2 : ∀ r, some D = some r → w.heap.size ≤ r := fun r e => by cases e; omega
 have g6 := grown_over hI.grown g5 hr
 refine ⟨h1, (hI.b6.put5 q).grown gp (by simp; omega), ?_, grown_over g6 gp hr2⟩
 exact hM.over g6 (hI.mat.memo.stay (g5.block fm hI.mat.memo.lt (by simp; omega))) gp hr2
theorem each_in (n : Nat) (hn : 3 ≤ n) (x : Nd) (bs : List Nat) (z : Nd) (hE : EndsC x bs z) (base gm b cp fm cv : Nat) (V : Option Addr) (w : World) (hM : MatAt w x bs base gm b cp fm V cv) (k : Nat) (p : Nat → Bool) (hk : Below1 x.nodes k z) (hp : ∀ c, p c = true → c ≤ bs.length) :
  CallsIn Fence.wide n Tryz.prog 186 #[.pointer (some ⟨gm, 0, none⟩), .int .i64 (k : Int), .agg #[.int .u64 (word p 0), .int .u64 (word p 1), .int .u64 (word p 2), .int .u64 (word p 3), .int .u64 (word p 4)]] w fun e w' => e = .returned (.agg #[.int .u64 ((word (imgB (z.rel bs) p) 0 : Nat) : Int), .int .u64 ((word (imgB (z.rel bs) p) 1 : Nat) : Int), .int .u64 ((word (imgB (z.rel bs) p) 2 : Nat) : Int), .int .u64 ((word (imgB (z.rel bs) p) 3 : Nat) : Int), .int .u64 ((word (imgB (z.rel bs) p) 4 : Nat) : Int)]) ∧ MatAt w' x bs base gm b cp fm V cv ∧ w.grownBy w' (some fm) := by
 have h1 : 1 ≤ n := by omega
 have hlen := hM.len
 have hlm := hM.box.lt
 refine callsIn_of_wp_marks Tryz.func186 rfl trivial ?_ rfl
 simp only [Tryz.ntmps186, List.size_toArray, List.length_cons, List.length_nil, Nat.reduceAdd, Nat.reduceSub, Array.replicate_succ, Array.replicate_zero, List.push_toArray, List.append_toArray, List.nil_append, List.cons_append]
 gi_wp2_with (refine ⟨trivial, ?_⟩; gi_at_call 150; refine (callsIn_wide.2 (pall_go p _)).mono ?_; rintro e w' ⟨rfl, rfl⟩)
 obtain ⟨W0, hW0⟩ : ∃ W0, (((((w.alloc (.cells #[.pointer (some ⟨gm, 0, none⟩)] 166)).alloc (.cells #[.int .i64 (k : Int)] 3)).alloc (.cells #[.int .u64 (word p 0), .int .u64 (word p 1), .int .u64 (word p 2), .int .u64 (word p 3), .int .u64 (word p 4)] 69)).alloc (.cells #[.int .u64 0, .int .u64 0, .int .u64 0, .int .u64 0, .int .u64 0] 69)).alloc (.cells #[.int .u64 0, .int .u64 0, .int .u64 0, .int .u64 0, .int .u64 0] 69)).alloc (.cells #[.int .u64 (word p 0), .int .u64 (word p 1), .int .u64 (word p 2), .int .u64 (word p 3), .int .u64 (word p 4)] 69) = W0 := ⟨_, rfl⟩
 have hs0 : W0.heap.size = w.heap.size + 6 := by rw [← hW0]; simp
 have hb0 : Below w.heap.size w W0 := by
  rw [← hW0]
  exact ((((((Below.refl _ w).alloc (Nat.le_refl _) _).alloc (by simp) _).alloc (by simp; omega) _).alloc (by simp; omega) _).alloc (by simp; omega) _).alloc (by simp; omega) _
 have hP0 : Blk W0 (w.heap.size + 5) 69 #[.int .u64 (word p 0), .int .u64 (word p 1), .int .u64 (word p 2), .int .u64 (word p 3), .int .u64 (word p 4)] := by rw [← hW0]; exact Blk.new_at (by simp)
 have hI0 : EachI x bs base gm b cp fm cv V k w W0 (fun _ => false) := ⟨hM.below hb0, grown_below hb0, by rw [← hW0]; exact (((((Blk.new w _ _).alloc _).alloc _).alloc _).alloc _).alloc _, by rw [← hW0]; exact ((((Blk.new_at (by simp)).alloc _).alloc _).alloc _).alloc _, by rw [← hW0]; exact ((Blk.new_at (by simp)).alloc _).alloc _, by rw [← hW0]; simp only [word_none]; exact (Blk.new_at (by simp)).alloc _, hM.memo.lt⟩
 rw [hW0]
 refine wpIn_rangeFunc_ownG rfl h1 (gf := 173) (lb := #[.pointer (some ⟨w.heap.size + 5, 0, none⟩)]) rfl trivial (enters_of Tryz.func173 (by kernel_rfl) rfl)
  (pall_sub (n - 1) (by omega) p bs.length hp (w.heap.size + 5) base W0 hM.tabl (by omega) hP0 hI0.mat.tab) belowK_t (belowK_b (by have := hM.fml; have := hM.memo.lt; omega)) (Below.refl _ _) (fun _ => rfl)
  (fun pre W => EachI x bs base gm b cp fm cv V k w W (soFar (z.rel bs) (pre.map (fun q : {c : Nat // c ≤ bs.length} => q.1))))
  (fun _ _ _ => False)
  (fun (s : List {c : Nat // c ≤ bs.length}) W W' row h hg hr => EachI.turn h (B := W0.heap.size) (by omega) hg hr)
  (fun _ _ _ _ _ hs _ _ => hs)
  (by rw [List.map_nil, soFar_nil]; exact hI0)
  (fun i => { tmps := #[.pointer (some ⟨gm, 0, none⟩), .int .i64 (k : Int), .agg #[.int .u64 (word p 0), .int .u64 (word p 1), .int .u64 (word p 2), .int .u64 (word p 3), .int .u64 (word p 4)], .pointer (some ⟨w.heap.size, 0, none⟩), .pointer (some ⟨w.heap.size + 1, 0, none⟩), .pointer (some ⟨w.heap.size + 2, 0, none⟩), .pointer (some ⟨w.heap.size + 3, 0, none⟩), .pointer (some ⟨w.heap.size + 4, 0, none⟩), .int .i64 (i.1 : Int), .agg #[.int .u64 (word p 0), .int .u64 (word p 1), .int .u64 (word p 2), .int .u64 (word p 3), .int .u64 (word p 4)], .func (.func 173) #[] #[.pointer (some ⟨w.heap.size + 5, 0, none⟩)], .int .i64 (i.1 : Int), undef, undef, undef, undef, undef, undef, undef], defers := [] }) ?assign ?body ?done ?stop
 case assign =>
  intro l i W K hK
  unfold placeArg
  gi_wp2
  exact hK
 case body =>
  rintro l pre i W hI hlt
  have a3 := hI.b3.cell 0
  have a4 := hI.b4.cell 0
  have l3 := hI.b3.lt
  have l4 := hI.b4.lt
  have l7 := hI.b7.lt
  have a7 := hI.b7.c5w
  have f7 := hI.b7.f5w
  simp only [List.getElem?_toArray, List.getElem?_cons_zero] at a3 a4
  have HI := Lib.hid hI
  have HId := Lib.hid (EachI.low hI (W' := W.drew) ⟨rfl, rfl, rfl, Nat.le_refl _, fun _ _ => rfl⟩)
  have HEn := Lib.hid (hE base gm b cp fm cv V W.drew HId.out.mat k i.1 hk i.2)
  have hdd : ∀ k : Nat, (Fence.wide.depth.isSome = true → 1 ≤ k) := fun k h => by cases h
  obtain ⟨c0, c1, c2, c3, c4⟩ := a7
  obtain ⟨f0, f1, f2, f3, f4⟩ := f7
  clear hI
  gi_wp2
  gi_region_with (first
   | (refine ⟨trivial, hdd _, ?_⟩; gi_at_call 112; refine (CallsIn.inRound l (callsIn_wide.2 HEn.out)).mono ?_; rintro e W1 ⟨rfl, hM1, hg1⟩; have HI1 := Lib.hid (HId.out.grow hg1 hM1); have HG1 := Lib.hid hg1; clear hM1 hg1; obtain ⟨c0, c1, c2, c3, c4⟩ := HI1.out.b7.c5w; obtain ⟨f0, f1, f2, f3, f4⟩ := HI1.out.b7.f5w)
   | (refine ⟨trivial, hdd _, ?_⟩; gi_at_call 187; refine (CallsIn.inRound l (callsIn_wide.2 (pwith_go (soFar (z.rel bs) (pre.map (fun q : {c : Nat // c ≤ bs.length} => q.1))) (endsB z bs i.1) W1))).mono ?_; rintro e W2 ⟨rfl, hb2⟩; have HI2 := Lib.hid (HI1.out.low hb2); have HB2 := Lib.hid hb2; clear hb2; obtain ⟨c0, c1, c2, c3, c4⟩ := HI2.out.b7.c5w; obtain ⟨f0, f1, f2, f3, f4⟩ := HI2.out.b7.f5w; have l7 := HI2.out.b7.lt))
  all_goals gi_wp2
  all_goals refine (?_ : KeepsFrom W0.heap.size W _ ∧ Below base W _ ∧ EachI x bs base gm b cp fm cv V k w _ (soFar (z.rel bs) ((pre ++ [i]).map (fun q : {c : Nat // c ≤ bs.length} => q.1))))
  all_goals rw [List.map_append]
  all_goals exact each_body (i := i.1) hM HI.out HG1.out HI1.out HB2.out HI2.out (B := W0.heap.size) (by omega) rfl
 case done =>
  rintro D ys W hD hy hI hK
  have hsf : soFar (z.rel bs) (ys.map (fun q : {c : Nat // c ≤ bs.length} => q.1)) = imgB (z.rel bs) p := by
   rw [hy]
   exact soFar_all _ (fun c hc => by have := hp c hc; omega)
  rw [hsf] at hI
  have l6 := hI.b6.lt
  have l7 := hI.b7.lt
  obtain ⟨c0, c1, c2, c3, c4⟩ := hI.b7.c5w
  obtain ⟨d0, d1, d2, d3, d4⟩ := hI.b6.c5w
  obtain ⟨f0, f1, f2, f3, f4⟩ := hI.b6.f5w
  have HI := Lib.hid hI
  have HK := Lib.hid hK
  clear hI hK
  gi_wp2
  obtain ⟨e1, e2, e3, e4⟩ := each_end hM HI.out HK.out (g := w.heap.size + 1 + 1 + 1) (by omega) (imgB (z.rel bs) p) rfl
  refine ⟨by simp, .inl ⟨_, _, rfl, run_takeDeferred e1, ?_⟩⟩
  exact ⟨_, ret_pl Tryz.results186 rfl e2, rfl, e3, e4⟩
 case stop =>
  rintro D c pre W _ _ h _
  exact h.elim
theorem eachC_of {x : Nd} {bs : List Nat} {z : Nd} (hE : EndsC x bs z) : EachC x bs z := fun base gm b cp fm cv V w hM k p hk hp =>
 callsIn_wide.1 (each_in 3 (by omega) x bs z hE base gm b cp fm cv V w hM k p hk hp)
end
section
open Go.RowKit Go.Maps
theorem rowB {W W' : World} {base size k : Nat} {e : TypeId} {v : Value} {xs : List Value} (hr : W.ownsRow base e size v k xs) (hb : ∀ k, v.ownBlock = some k → W'.heap[k]? = W.heap[k]?) : W'.ownsRow base e size v k xs := by
 refine ⟨hr.1, ?_⟩
 rcases hr.2 with h | ⟨g, cap, cur, rfl, h2, h3, h4⟩
 ·exact .inl h
 ·exact .inr ⟨g, cap, cur, rfl, h2, (hb g rfl).trans h3, h4⟩
theorem rowsApart {w : World} {b1 b2 s1 s2 k1 k2 : Nat} {e1 e2 : TypeId} {v1 v2 : Value} {x1 x2 : List Value} (h1 : w.ownsRow b1 e1 s1 v1 k1 x1) (h2 : w.ownsRow b2 e2 s2 v2 k2 x2) (he : e1 ≠ e2) {b : Nat} (hb : v1.ownBlock = some b) : v2.ownBlock ≠ some b := by
 intro hb2
 rcases h1.2 with ⟨rfl, _⟩ | ⟨g, cap, cur, rfl, _, hg, _⟩
 ·simp [Value.ownBlock] at hb
 rcases h2.2 with ⟨rfl, _⟩ | ⟨g', cap', cur', rfl, _, hg', _⟩
 ·simp [Value.ownBlock] at hb2
 obtain rfl : g = b := by simpa [Value.ownBlock] using hb
 obtain rfl : g' = g := by simpa [Value.ownBlock] using hb2
 rw [hg] at hg'
 simp at hg'
 exact he hg'.2
theorem row_form {w : World} {base e size n : Nat} {v : Value} {xs : List Value} (h : w.ownsRow base e size v n xs) : ∃ A c, v = .slice A n c ∧ n ≤ c := by
 rcases h.2 with ⟨rfl, rfl⟩ | ⟨g, cap, cur, rfl, _, _, hc, _⟩
 ·exact ⟨none, 0, rfl, Nat.le_refl _⟩
 ·exact ⟨_, cap, rfl, hc⟩
def pcell (z : Nd) (B : Option Addr) (n1 c1 : Nat) (A : Option Addr) (m c2 : Nat) : List Value :=
 [.int .i64 z.kind, .int .u64 (word z.set.testBit 0), .int .u64 (word z.set.testBit 1), .int .u64 (word z.set.testBit 2), .int .u64 (word z.set.testBit 3), .slice B n1 c1, .int .i64 z.lo, .int .i64 z.hi, .slice A m c2]
def PartsL (w : World) (base : Nat) (Q : Nat → Prop) : Nat → List Nd → List Value → Prop
 | _, [], xs => xs = []
 | n, z :: l, xs => ∃ B n1 c1 A c2 rest, xs = pcell z B n1 c1 A z.kids.len c2 ++ rest ∧ w.ownsRow base 3 1 (.slice A z.kids.len c2) z.kids.len (intsC (kidNums (n + 1) z.kids.list)) ∧ (∀ b, (Value.slice A z.kids.len c2).ownBlock = some b → Q b) ∧ PartsL w base Q (n + 1) l rest
theorem PartsL.keep {w w' : World} {base : Nat} {Q Q' : Nat → Prop} (hk : ∀ b cs, base ≤ b → b < w.heap.size → Q b → w.heap[b]? = some (.cells cs 3 (0, 0)) → w'.heap[b]? = w.heap[b]?) (hQ : ∀ b, b < w.heap.size → Q b → Q' b) : ∀ {n : Nat} {l : List Nd} {xs : List Value}, PartsL w base Q n l xs → PartsL w' base Q' n l xs
 | _, [], _, h => h
 | n, z :: l, xs, ⟨B, n1, c1, A, c2, rest, h1, h2, h3, h4⟩ => by
  refine ⟨B, n1, c1, A, c2, rest, h1, rowB h2 fun k hk' => ?_, fun b hb => hQ b (h2.lt b hb).2 (h3 b hb), h4.keep hk hQ⟩
  have hlt := h2.lt k hk'
  rcases h2.2 with ⟨e, _⟩ | ⟨g, cap, cur, e, _, hg, _⟩
  ·rw [e] at hk'
   simp [Value.ownBlock] at hk'
  ·rw [e] at hk'
   obtain rfl : g = k := by simpa [Value.ownBlock] using hk'
   exact hk g cur hlt.1 hlt.2 (h3 g (by rw [e]; rfl)) hg
theorem PartsL.app {w : World} {base : Nat} {Q : Nat → Prop} : ∀ {n : Nat} {l l' : List Nd} {xs ys : List Value}, PartsL w base Q n l xs → PartsL w base Q (n + l.length) l' ys → PartsL w base Q n (l ++ l') (xs ++ ys)
 | n, [], l', xs, ys, h, h' => by
  have : xs = [] := h
  subst this
  exact h'
 | n, z :: l, l', xs, ys, ⟨B, n1, c1, A, c2, rest, h1, h2, h3, h4⟩, h' => by
  refine ⟨B, n1, c1, A, c2, rest ++ ys, by rw [h1, List.append_assoc], h2, h3, h4.app ?_⟩
  rw [show n + 1 + l.length = n + (z :: l).length by simp; omega]
  exact h'
theorem PartsL.get {w : World} {base : Nat} {Q : Nat → Prop} : ∀ {n : Nat} {l : List Nd} {xs : List Value} {k : Nat} {z : Nd}, PartsL w base Q n l xs → l[k]? = some z →
  ∃ B n1 c1 A c2, (∀ j u, (pcell z B n1 c1 A z.kids.len c2)[j]? = some u → xs[k * 9 + j]? = some u) ∧ w.ownsRow base 3 1 (.slice A z.kids.len c2) z.kids.len (intsC (kidNums (n + k + 1) z.kids.list))
 | _, [], _, k, z, _, h => by simp at h
 | n, y :: l, xs, 0, z, ⟨B, n1, c1, A, c2, rest, h1, h2, h3, h4⟩, h => by
  simp at h
  subst h
  refine ⟨B, n1, c1, A, c2, fun j u hj => ?_, h2⟩
  rw [h1, List.getElem?_append_left (by simpa using (List.getElem?_eq_some_iff.1 hj).1)]
  simpa using hj
 | n, y :: l, xs, k + 1, z, ⟨B, n1, c1, A, c2, rest, h1, h2, h3, h4⟩, h => by
  obtain ⟨B', n1', c1', A', c2', g1, g2⟩ := h4.get (k := k) (by simpa using h)
  refine ⟨B', n1', c1', A', c2', fun j u hj => ?_, by rw [show n + (k + 1) + 1 = n + 1 + k + 1 by omega]; exact g2⟩
  have hp : (pcell y B n1 c1 A y.kids.len c2).length = 9 := rfl
  rw [h1, List.getElem?_append_right (by omega), hp, show (k + 1) * 9 + j - 9 = k * 9 + j by omega]
  exact g1 j u hj
def kidsTo (x : Nd) (j : Nat) : List Nd := (x.kids.list.take j).flatMap Nd.nodes
theorem nodes_flat : ∀ F : Trees, F.nodes = F.list.flatMap Nd.nodes
 | .nil => rfl
 | .cons k s ks lo hi r => by rw [nodes_cons, Trees.list, List.flatMap_cons, nodes_flat r]
theorem kidsTo_all (x : Nd) : kidsTo x x.kids.len = x.kids.nodes := by
 unfold kidsTo
 rw [← Trees.len_list, List.take_length, nodes_flat]
theorem kidsTo_next {x y : Nd} {j : Nat} (h : x.kids.list[j]? = some y) : kidsTo x (j + 1) = kidsTo x j ++ y.nodes := by
 unfold kidsTo
 rw [List.take_add_one, h]
 simp
theorem kidsTo_len (x : Nd) (j : Nat) : (kidsTo x j).length + 1 ≤ x.size := by
 have h1 : (x.kids.list.flatMap Nd.nodes).length + 1 = x.size := by
  rw [← nodes_flat, ← Nd.nodes_len]
  simp [Nd.nodes]
 have h2 : x.kids.list.flatMap Nd.nodes = kidsTo x j ++ (x.kids.list.drop j).flatMap Nd.nodes := by
  unfold kidsTo
  rw [← List.flatMap_append, List.take_append_drop]
 rw [h2, List.length_append] at h1
 omega
theorem kidNums_snoc (y : Nd) : ∀ (l : List Nd) (n : Nat), kidNums n (l ++ [y]) = kidNums n l ++ [((n + (l.flatMap Nd.nodes).length : Nat) : Int)]
 | [], n => by simp [kidNums]
 | z :: l, n => by
  rw [List.cons_append, kidNums, kidNums, kidNums_snoc y l, List.flatMap_cons, List.length_append, Nd.nodes_len, List.cons_append, Nat.add_assoc]
theorem kidNums_next {x y : Nd} {j n : Nat} (h : x.kids.list[j]? = some y) : kidNums n (x.kids.list.take (j + 1)) = kidNums n (x.kids.list.take j) ++ [((n + (kidsTo x j).length : Nat) : Int)] := by
 rw [List.take_add_one, h]
 exact kidNums_snoc y _ n
structure LayM (base gm : Nat) (w : World) (v : Value) (w' : World) (v' : Value) : Prop where
 below : Below base w w'
 kept : ∀ j, j < w.heap.size → j ≠ gm → v.ownBlock ≠ some j → w'.heap[j]? = w.heap[j]?
 lies : ∀ j, v'.ownBlock = some j → v.ownBlock = some j ∨ w.heap.size ≤ j
theorem LayM.trans {base gm : Nat} {w w1 w2 : World} {v v1 v2 : Value} (h : LayM base gm w v w1 v1) (g : LayM base gm w1 v1 w2 v2) : LayM base gm w v w2 v2 := by
 have hs := h.below.size
 refine ⟨h.below.trans g.below, fun j h1 h2 h3 => (g.kept j (by omega) h2 (fun e => ?_)).trans (h.kept j h1 h2 h3), fun j hj => ?_⟩
 ·rcases h.lies j e with e1 | e1
  ·exact h3 e1
  ·omega
 ·rcases g.lies j hj with e1 | e1
  ·exact h.lies j e1
  ·exact .inr (by omega)
theorem LayM.below1 {base gm : Nat} {w w1 w2 : World} {v v1 : Value} (h : LayM base gm w v w1 v1) (hb : base ≤ w1.heap.size) (g : Below w1.heap.size w1 w2) : LayM base gm w v w2 v1 :=
 h.trans ⟨g.mono hb, fun j h1 _ _ => g.block j h1, fun j e => .inl e⟩
def LayP (x : Nd) : Prop := ∀ (B : Option Addr) (cap base gm : Nat) (a d v : Value) (N : Nat) (xs : List Value) (w : World), TreesAt w (fun b => b < base) x.kids B → x.kids.len ≤ cap → Blk w gm 132 #[v, a, d] → w.ownsRow base 172 9 v N xs → base ≤ gm → base ≤ w.heap.size → N + x.size ≤ 1000000 →
 Calls Tryz.prog 113 #[.pointer (some ⟨gm, 0, none⟩), ndV x B cap] w fun e w' => e = .returned (.int .i64 (N : Int)) ∧ ∃ v' xs', Blk w' gm 132 #[v', a, d] ∧ w'.ownsRow base 172 9 v' (N + x.size) (xs ++ xs') ∧ PartsL w' base (fun b => w.heap.size ≤ b) N x.nodes xs' ∧ LayM base gm w v w' v'
theorem info_part : (Tryz.prog.info? 172).map (fun i => (i.zero, i.size, i.bytes)) = some (some (.agg #[.int .i64 0, .int .u64 0, .int .u64 0, .int .u64 0, .int .u64 0, .slice none 0 0, .int .i64 0, .int .i64 0, .slice none 0 0]), 9, 104) := by kernel_rfl
structure LayL (base gm : Nat) (a d : Value) (N : Nat) (xs : List Value) (x : Nd) (B : Option Addr) (cap : Nat) (w : World) (v : Value) (i j : Nat) (W : World) (kv v' : Value) (ys : List Value) : Prop where
 box : Blk W gm 132 #[v', a, d]
 row : W.ownsRow base 172 9 v' (N + 1 + (kidsTo x i).length) (xs ++ pcell x B x.kids.len cap none 0 0 ++ ys)
 parts : PartsL W base (fun b => w.heap.size ≤ b ∧ kv.ownBlock ≠ some b) (N + 1) (kidsTo x i) ys
 lay : LayM base gm w v W v'
 nums : W.ownsRow w.heap.size 3 1 kv j (intsC (kidNums (N + 1) (x.kids.list.take j)))
 here : Blk W w.heap.size 28 (ndA x B cap)
theorem lay_begin {base gm : Nat} {a d : Value} {N : Nat} {xs : List Value} {x : Nd} {B : Option Addr} {cap : Nat} {w : World} {v : Value} {W0 w1 : World} {o : Obj} {gg cap' : Nat} (hW0 : w.alloc (.cells (ndA x B cap) 28) = W0) (hbg : base ≤ gm) (hbw : base ≤ w.heap.size) (hgm : gm < w.heap.size) (hrow : w.ownsRow base 172 9 v N xs)
  (hown : w1.ownsRow base 172 9 (.slice (some ⟨gg, 0, none⟩) (N + 1) cap') (N + 1) (xs ++ pcell x B x.kids.len cap none 0 0)) (hgrow : (W0.alloc o).drew.grownBy w1 v.ownBlock) (hat : v.ownBlock = some gg ∨ gg = W0.heap.size + 1) (hbox : Blk w1 gm 132 #[v, a, d]) :
  LayL base gm a d N xs x B cap w v 0 0 (w1.setCell ⟨gm, 0, none⟩ (.slice (some ⟨gg, 0, none⟩) (N + 1) cap')) (.slice none 0 0) (.slice (some ⟨gg, 0, none⟩) (N + 1) cap') [] := by
 have hs0 : W0.heap.size = w.heap.size + 1 := by rw [← hW0]; simp
 have hne := blk_not_row hbox (by decide) hown
 have hsz : (W0.alloc o).drew.heap.size = w.heap.size + 2 := by rw [show (W0.alloc o).drew.heap.size = W0.heap.size + 1 by simp, hs0]
 have hkeep : ∀ j, j < w.heap.size → v.ownBlock ≠ some j → w1.heap[j]? = w.heap[j]? := fun j hj hn => by
  rw [hgrow.block j (by omega) (fun e => hn e.symm), ← hW0]
  exact (((Below.refl w.heap.size w).alloc (Nat.le_refl _) _).alloc (by simp) o).drew.block j hj
 have hb1 : Below base w w1 := by
  have h1 : Below base w (W0.alloc o).drew := by
   rw [← hW0]
   exact (((Below.refl base w).alloc hbw _).alloc (by simp; omega) o).drew
  exact h1.grown hgrow (by omega) (fun k hk => (hrow.lt k hk).1)
 have hvx : v.ownBlock ≠ some w.heap.size := fun e => by have := (hrow.lt _ e).2; omega
 have hX : Blk w1 w.heap.size 28 (ndA x B cap) := by
  have h1 : Blk W0 w.heap.size 28 (ndA x B cap) := by rw [← hW0]; exact Blk.new w _ _
  exact (Blk.alloc h1 o).drew.grown hgrow (fun e => hvx e.symm)
 refine ⟨hbox.set_ 0 _, ?_, rfl, ⟨hb1.setCell hbg _, fun j h1 h2 h3 => (Below.heap_setCell _ _ _ _ h2).trans (hkeep j h1 h3), fun j hj => ?_⟩, ⟨rfl, .inl ⟨rfl, rfl⟩⟩, (show (w1.setCell ⟨gm, 0, none⟩ _).heap[w.heap.size]? = _ from (Below.heap_setCell _ _ _ _ (by intro e; simp at e; omega)).trans hX)⟩
 ·have e : kidsTo x 0 = [] := by simp [kidsTo]
  rw [e, List.append_nil]
  exact own_set hown hne
 ·obtain rfl : gg = j := by simpa [Value.ownBlock] using hj
  rcases hat with h | h
  ·exact .inl h
  ·exact .inr (by omega)
theorem lay_called {base gm : Nat} {a d : Value} {N : Nat} {xs : List Value} {x : Nd} {B : Option Addr} {cap : Nat} {w : World} {v : Value} {W w' : World} {o : Obj} {kv v1 v2 : Value} {ys zs : List Value} {y : Nd} {j : Nat} (h : LayL base gm a d N xs x B cap w v j j W kv v1 ys) (hbw : base ≤ w.heap.size) (hgm : gm < w.heap.size) (hy : x.kids.list[j]? = some y)
  (hbox : Blk w' gm 132 #[v2, a, d]) (hown : w'.ownsRow base 172 9 v2 (N + 1 + (kidsTo x j).length + y.size) ((xs ++ pcell x B x.kids.len cap none 0 0 ++ ys) ++ zs))
  (hp : PartsL w' base (fun b => (W.alloc o).heap.size ≤ b) (N + 1 + (kidsTo x j).length) y.nodes zs) (hl : LayM base gm (W.alloc o) v1 w' v2) :
  LayL base gm a d N xs x B cap w v (j + 1) j w' kv v2 (ys ++ zs) := by
 have hsz := h.lay.below.size
 have hsa : (W.alloc o).heap.size = W.heap.size + 1 := by simp
 have hal : Below W.heap.size W (W.alloc o) := (Below.refl _ _).alloc (Nat.le_refl _) o
 have hkeep : ∀ b, b < W.heap.size → b ≠ gm → v1.ownBlock ≠ some b → w'.heap[b]? = W.heap[b]? := fun b h1 h2 h3 => (hl.kept b (by omega) h2 h3).trans (hal.block b h1)
 have hnk : ∀ b, kv.ownBlock = some b → b ≠ gm ∧ v1.ownBlock ≠ some b := fun b hb => ⟨fun e => by have := (h.nums.lt b hb).1; omega, rowsApart h.nums h.row (by decide) hb⟩
 refine ⟨hbox, ?_, ?_, (h.lay.below1 (by omega) hal).trans hl, rowB h.nums fun b hb => hkeep b (h.nums.lt b hb).2 (hnk b hb).1 (hnk b hb).2, (hkeep _ h.here.lt (by omega) (fun e => ?_)).trans h.here⟩
 ·rw [kidsTo_next hy, List.length_append, Nd.nodes_len, ← Nat.add_assoc, ← List.append_assoc]
  exact hown
 ·rw [kidsTo_next hy]
  refine PartsL.app (h.parts.keep (fun b cs h1 h2 h3 h4 => hkeep b h2 (fun e => ?_) (fun e => ?_)) (fun b _ hb => hb)) (hp.keep (fun _ _ _ _ _ _ => rfl) (fun b _ hb => ⟨by omega, fun e => by have := (h.nums.lt b e).2; omega⟩))
  ·subst e
   have := (show W.heap[b]? = _ from h.box).symm.trans h4
   simp at this
  ·rcases h.row.2 with ⟨e1, _⟩ | ⟨g, c, cur, e1, _, hg, _⟩
   ·rw [e1] at e
    simp [Value.ownBlock] at e
   ·rw [e1] at e
    obtain rfl : g = b := by simpa [Value.ownBlock] using e
    rw [h4] at hg
    simp at hg
 ·rcases h.row.2 with ⟨e1, _⟩ | ⟨g, c, cur, e1, _, hg, _⟩
  ·rw [e1] at e
   simp [Value.ownBlock] at e
  ·rw [e1] at e
   obtain rfl : g = w.heap.size := by simpa [Value.ownBlock] using e
   rw [show W.heap[w.heap.size]? = _ from h.here] at hg
   simp at hg
theorem lay_append {base gm : Nat} {a d : Value} {N : Nat} {xs : List Value} {x : Nd} {B : Option Addr} {cap : Nat} {w : World} {v : Value} {W w4 : World} {o : Obj} {kv v1 : Value} {ys : List Value} {y : Nd} {j gg cap' : Nat} (h : LayL base gm a d N xs x B cap w v (j + 1) j W kv v1 ys) (hbw : base ≤ w.heap.size) (hgm : gm < w.heap.size) (hy : x.kids.list[j]? = some y)
  (hown : w4.ownsRow w.heap.size 3 1 (.slice (some ⟨gg, 0, none⟩) (j + 1) cap') (j + 1) (intsC (kidNums (N + 1) (x.kids.list.take j)) ++ [.int .i64 ((N + 1 + (kidsTo x j).length : Nat) : Int)])) (hgrow : (W.alloc o).grownBy w4 kv.ownBlock) (hat : kv.ownBlock = some gg ∨ gg = W.heap.size + 1) :
  LayL base gm a d N xs x B cap w v (j + 1) (j + 1) w4 (.slice (some ⟨gg, 0, none⟩) (j + 1) cap') v1 ys := by
 have hsz := h.lay.below.size
 have hsa : (W.alloc o).heap.size = W.heap.size + 1 := by simp
 have hal : Below W.heap.size W (W.alloc o) := (Below.refl _ _).alloc (Nat.le_refl _) o
 have hkeep : ∀ b, b < W.heap.size → kv.ownBlock ≠ some b → w4.heap[b]? = W.heap[b]? := fun b h1 h2 => (hgrow.block b (by omega) (fun e => h2 e.symm)).trans (hal.block b h1)
 have hge : ∀ b, kv.ownBlock = some b → w.heap.size ≤ b := fun b hb => (h.nums.lt b hb).1
 have hnk : ∀ b, v1.ownBlock = some b → kv.ownBlock ≠ some b := fun b hb => rowsApart h.row h.nums (by decide) hb
 have hnX : kv.ownBlock ≠ some w.heap.size := fun e => by
  rcases h.nums.2 with ⟨e1, _⟩ | ⟨g, c, cur, e1, _, hg, _⟩
  ·rw [e1] at e
   simp [Value.ownBlock] at e
  ·rw [e1] at e
   obtain rfl : g = w.heap.size := by simpa [Value.ownBlock] using e
   rw [show W.heap[w.heap.size]? = _ from h.here] at hg
   simp at hg
 refine ⟨(hkeep gm (by omega) (fun e => by have := hge _ e; omega)).trans h.box, rowB h.row fun b hb => hkeep b (h.row.lt b hb).2 (hnk b hb), h.parts.keep (fun b cs h1 h2 h3 h4 => hkeep b h2 h3.2) (fun b h1 h2 => ⟨h2.1, fun e => ?_⟩), ?_, ?_, (hkeep _ h.here.lt hnX).trans h.here⟩
 ·refine ⟨(h.lay.below.trans (hal.mono (by omega))).grown hgrow (by omega) (fun k hk => by have := hge k hk; omega), fun b h1 h2 h3 => (hkeep b (by omega) (fun e => by have := hge b e; omega)).trans (h.lay.kept b h1 h2 h3), h.lay.lies⟩
 ·rw [kidNums_next hy]
  unfold intsC at hown ⊢
  rw [List.map_append]
  exact hown
 ·obtain rfl : gg = b := by simpa [Value.ownBlock] using e
  rcases hat with h3 | h3
  ·exact h2.2 h3
  ·omega
theorem lay_end {base gm : Nat} {a d : Value} {N : Nat} {xs : List Value} {x : Nd} {B : Option Addr} {cap : Nat} {w : World} {v : Value} {W : World} {A : Option Addr} {c2 c3 bp : Nat} {ys : List Value} (h : LayL base gm a d N xs x B cap w v x.kids.len x.kids.len W (.slice A x.kids.len c2) (.slice (some ⟨bp, 0, none⟩) (N + 1 + (kidsTo x x.kids.len).length) c3) ys) (hbw : base ≤ w.heap.size) (hgm : gm < w.heap.size) (hxl : xs.length = N * 9) (hsz : (kidsTo x x.kids.len).length + 1 = x.size) :
  Blk (W.setCell ⟨bp, N * 9 + 8, none⟩ (.slice A x.kids.len c2)) gm 132 #[.slice (some ⟨bp, 0, none⟩) (N + 1 + (kidsTo x x.kids.len).length) c3, a, d] ∧
  (W.setCell ⟨bp, N * 9 + 8, none⟩ (.slice A x.kids.len c2)).ownsRow base 172 9 (.slice (some ⟨bp, 0, none⟩) (N + 1 + (kidsTo x x.kids.len).length) c3) (N + x.size) (xs ++ (pcell x B x.kids.len cap A x.kids.len c2 ++ ys)) ∧
  PartsL (W.setCell ⟨bp, N * 9 + 8, none⟩ (.slice A x.kids.len c2)) base (fun b => w.heap.size ≤ b) N x.nodes (pcell x B x.kids.len cap A x.kids.len c2 ++ ys) ∧ LayM base gm w v (W.setCell ⟨bp, N * 9 + 8, none⟩ (.slice A x.kids.len c2)) (.slice (some ⟨bp, 0, none⟩) (N + 1 + (kidsTo x x.kids.len).length) c3) := by
 have hbp := h.row.lt bp rfl
 have hng : gm ≠ bp := fun e => by
  have := blk_not_row h.box (by decide) h.row
  rw [e] at this
  exact this rfl
 have hkeep : ∀ b, b ≠ bp → (W.setCell ⟨bp, N * 9 + 8, none⟩ (.slice A x.kids.len c2)).heap[b]? = W.heap[b]? := fun b hb => Below.heap_setCell _ _ _ _ hb
 have hnum : ∀ b, (Value.slice A x.kids.len c2).ownBlock = some b → b ≠ bp := fun b hb e => rowsApart h.nums h.row (by decide) hb (by rw [e]; rfl)
 refine ⟨(hkeep gm hng).trans h.box, ?_, ?_, ⟨h.lay.below.setCell hbp.1 _, fun j h1 h2 h3 => (hkeep j (fun e => ?_)).trans (h.lay.kept j h1 h2 h3), h.lay.lies⟩⟩
 ·have hst := (h.row.stored (N * 9 + 8) (.slice A x.kids.len c2)).1
  have he : (xs ++ pcell x B x.kids.len cap none 0 0 ++ ys).set (N * 9 + 8) (.slice A x.kids.len c2) = xs ++ (pcell x B x.kids.len cap A x.kids.len c2 ++ ys) := by
   rw [List.append_assoc, List.set_append_right _ _ (by omega), hxl, show N * 9 + 8 - N * 9 = 8 by omega]
   rfl
  rw [he] at hst
  rw [show N + x.size = N + 1 + (kidsTo x x.kids.len).length by omega]
  exact hst
 ·refine ⟨B, x.kids.len, cap, A, c2, ys, rfl, ?_, fun b hb => (h.nums.lt b hb).1, ?_⟩
  ·have hn := h.nums
   rw [← Trees.len_list, List.take_length, Trees.len_list] at hn
   exact rowB (hn.mono hbw) fun b hb => hkeep b (hnum b hb)
  ·rw [← kidsTo_all]
   refine h.parts.keep (fun b cs h1 h2 h3 h4 => hkeep b (fun e => ?_)) (fun b _ hb => hb.1)
   subst e
   rcases h.row.2 with ⟨e1, _⟩ | ⟨g, c, cur, e1, _, hg, _⟩
   ·cases e1
   ·simp at e1
    obtain ⟨rfl, _⟩ := e1
    rw [h4] at hg
    simp at hg
 ·subst e
  rcases h.lay.lies j rfl with h4 | h4
  ·exact h3 h4
  ·omega
theorem lay_step {x : Nd} (hK : ∀ y ∈ x.kids.list, LayP y) : LayP x := by
 intro B cap base gm a d v N xs w ht hcap hbox hrow hbg hbw hsz
 obtain ⟨i0, hi, hz0, hz1, hz2⟩ := info_parts info_part
 obtain ⟨j0, hj, hj0, hj1, hj2⟩ := info_parts info_intC
 obtain ⟨A0, c0, rfl, hc0⟩ := row_form hrow
 obtain ⟨W0, hW0⟩ : ∃ W0, w.alloc (.cells (ndA x B cap) 28) = W0 := ⟨_, rfl⟩
 have hal : Below w.heap.size w W0 := by rw [← hW0]; exact (Below.refl _ _).alloc (Nat.le_refl _) _
 have hs0 : W0.heap.size = w.heap.size + 1 := by rw [← hW0]; simp
 have hX : Blk W0 w.heap.size 28 (ndA x B cap) := by rw [← hW0]; exact Blk.new w _ _
 have hbox0 := hbox.below hal hbox.lt
 have hrow0 : W0.ownsRow base 172 9 (.slice A0 N c0) N xs := by rw [← hW0]; exact hrow.alloc _
 have hgm := hbox.lt
 have hneG := blk_not_row hbox0 (by decide) hrow0
 have hxl := hrow.1
 obtain ⟨x0, x1, x2, x3, x4, x5, x6, x7⟩ : _ ∧ _ ∧ _ ∧ _ ∧ _ ∧ _ ∧ _ ∧ _ := ⟨hX.cell 0, hX.cell 1, hX.cell 2, hX.cell 3, hX.cell 4, hX.cell 5, hX.cell 6, hX.cell 7⟩
 have g0 := hbox0.cell 0
 have f0 := hbox0.frozen 0
 unfold ndA at x0 x1 x2 x3 x4 x5 x6 x7 hW0
 simp only [List.getElem?_toArray, List.getElem?_cons_zero, List.getElem?_cons_succ] at x0 x1 x2 x3 x4 x5 x6 x7 g0
 have HX := Lib.hid hX
 have HG := Lib.hid hbox0
 have HR := Lib.hid hrow0
 have HNE := Lib.hid hneG
 have HT := Lib.hid ht
 have HK := Lib.hid hK
 have HB := Lib.hid (show base ≤ gm ∧ base ≤ w.heap.size ∧ gm < w.heap.size from ⟨hbg, hbw, hgm⟩)
 have HROW := Lib.hid hrow
 have HXL := Lib.hid hxl
 have HW0 := Lib.hid hW0
 have hlt0 : gm < W0.heap.size := by omega
 have hltx : w.heap.size < W0.heap.size := by omega
 have hb0 : base ≤ W0.heap.size := by omega
 have h63 : N + 1 ≤ maxLen := Nat.le_trans (by omega) (show 2000000 ≤ maxLen by decide)
 have hby : (N + 1) * 104 ≤ 140737488355328 := by unfold Nd.size at hsz; omega
 have HS0 := Lib.hid hs0
 clear hX hbox0 hrow0 hneG hK ht hrow hbox hal hxl hs0
 unfold ndV
 go_enter Tryz.func113, Tryz.ntmps113
 go_wp2
 go_region_law ((refine step_append_lies _ (by rfl) _ _ _ (by rfl) base 172 i0 _ 9 104 Tryz.underlying130 hi hz0 hz1 hz2 rfl (by decide) (.slice A0 N c0) N xs (by rfl) ((HR.out.alloc _).drew) ⟨W0.heap.size, 0, none⟩ 1 1 (pcell x B x.kids.len cap none 0 0) (by rfl) (by rfl) (World.news_of_block (cs := (pcell x B x.kids.len cap none 0 0).toArray) (t := 172) (fr := (0, 0)) (heap_alloc_new W0 _)) (by simp [pcell, Value.oneCell']) (by decide) h63 hby (by simp; omega) (W0.heap.size + 1) (by simp) ?_; intro gg cap' w3 hown1 hgrow hat hlt1; have hG1 := Blk.grown (Blk.drew (Blk.alloc HG.out _)) hgrow HNE.out; have c3 := hG1.cell 0; have d3 := hG1.frozen 0; have hg3 := hG1.lt; have HG1 := Lib.hid hG1; have Hgrow := Lib.hid hgrow; have Hown1 := Lib.hid hown1; have Hat := Lib.hid hat; clear hG1 hgrow hown1 hat))
 all_goals
  have H0 := Lib.hid (lay_begin (xs := xs) (x := x) (B := B) (cap := cap) HW0.out HB.out.1 HB.out.2.1 HB.out.2.2 HROW.out Hown1.out Hgrow.out Hat.out HG1.out)
  clear hW0 HW0 HX HG HR HNE HROW Hown1 Hgrow Hat HG1 c3 d3 hg3 hlt1 x0 x1 x2 x3 x4 x5 x6 x7 g0 f0 hlt0 hltx hb0 h63 hby HS0
  generalize hW1 : (w3.setCell { block := gm, off := 0 } (Value.slice (some { block := gg, off := 0 }) (N + 1) cap')) = W1 at *
  clear hW1
  have hX := H0.out.here
  have x5 := hX.cell 5
  unfold ndA at x5
  simp only [List.getElem?_toArray, List.getElem?_cons_zero, List.getElem?_cons_succ] at x5
  have lx := hX.lt
  clear hX
 all_goals go_wp2
 all_goals
  go_loopw [6, 28] (fun v i' wr => ∃ (j : Nat) (Av : Option Addr) (capv : Nat) (v' : Value) (ys : List Value), i' = .int .i64 (j : Int) ∧ v = .slice Av j capv ∧ j ≤ x.kids.len ∧ Hid (LayL base gm a d N xs x B cap w (.slice A0 N c0) j j wr (.slice Av j capv) v' ys)) (fun _ i' _ => x.kids.len - (intOf i').toNat)
  case atStart => exact ⟨0, none, 0, _, _, rfl, rfl, Nat.zero_le _, H0⟩
  case round =>
   clear H0 x5 lx
   obtain ⟨j, Av, capv, v', ys, rfl, rfl, hj', HL⟩ := hrel
   by_cases hlt : j < x.kids.len
   ·obtain ⟨y, hy⟩ : ∃ y, x.kids.list[j]? = some y := ⟨_, List.getElem?_eq_getElem (by rw [Trees.len_list]; exact hlt)⟩
    have HTw := (HT.out.keep (w' := wr) (Q := fun b => b < base) (fun b o h1 _ => HL.out.lay.below.cell (p := ⟨b, o, none⟩) h1) (fun b h1 _ => h1))
    obtain ⟨b, o, C, capc, rfl, hbb, hkl, ⟨q0, q1, q2, q3, q4, q5, q6, q7⟩, hkz⟩ := HTw.get hy
    have hwr := HL.out.lay.below.size
    have hbA : Below wr.heap.size wr (wr.alloc (.cells (ndA y C capc) 28)) := (Below.refl _ _).alloc (Nat.le_refl _) _
    have hks := kidsTo_len x (j + 1)
    rw [kidsTo_next hy, List.length_append, Nd.nodes_len] at hks
    have HI := Lib.hid (HK.out y (List.mem_of_getElem? hy) C capc base gm a d v' (N + 1 + (kidsTo x j).length) (xs ++ pcell x (some ⟨b, o, none⟩) x.kids.len cap none 0 0 ++ ys) (wr.alloc (.cells (ndA y C capc) 28)) (hkz.below hbA) hkl (HL.out.box.alloc _) (HL.out.row.alloc _) HB.out.1 (by have := HB.out.2.1; simp; omega) (by omega))
    have HY := Lib.hid hy
    have hdl : (j : Int) < (x.kids.len : Int) := by omega
    have hdc : (j : Int) < (cap : Int) := by omega
    have hblk := World.block_lt_of_cell? wr _ q0
    clear hy hkz hbA hks hwr HTw
    unfold ndV at HI
    unfold ndA at HI
    go_wp2_with fail
    refine HI.out.mono ?_
    rintro e w3 ⟨rfl, v2, zs, hbx, hrw, hps, hly⟩
    have HM3 := Lib.hid (lay_called HL.out HB.out.2.1 HB.out.2.2 HY.out hbx hrw hps hly)
    clear hbx hrw hps hly HI HL q0 q1 q2 q3 q4 q5 q6 q7 hblk hbb hkl
    have h63 : j + 1 ≤ maxLen := Nat.le_trans (show j + 1 ≤ 2000000 from by have := Trees.len_size x.kids; unfold Nd.size at hsz; omega) (by decide)
    have hby : (j + 1) * 8 ≤ 140737488355328 := by have := Trees.len_size x.kids; unfold Nd.size at hsz; omega
    have hw3 : w.heap.size ≤ w3.heap.size := HM3.out.lay.below.size
    dsimp only
    go_wp2_with (at_builtin; refine wpList_append_lies _ rfl _ _ 38 rfl w.heap.size 3 j0 _ 1 8 Tryz.underlying38 hj hj0 hj1 hj2 rfl (by decide) (.slice Av j capv) j (intsC (kidNums (N + 1) (x.kids.list.take j))) rfl (HM3.out.nums.alloc _) ⟨w3.heap.size, 0, none⟩ 1 1 [.int .i64 ((N + 1 + (kidsTo x j).length : Nat) : Int)] rfl rfl (World.news_of_block (cs := #[.int .i64 ((N + 1 + (kidsTo x j).length : Nat) : Int)]) (t := 3) (fr := (0, 0)) (heap_alloc_new w3 _)) (by simp [Value.oneCell']) (by decide) h63 hby (by simp; omega) (w3.heap.size + 1) (by simp) ?_; intro gg cap' w4 hown4 hgrow hat hlt1; have HN4 := Lib.hid (lay_append HM3.out HB.out.2.1 HB.out.2.2 HY.out hown4 hgrow hat); clear hgrow hown4 hat)
    go_roundw
    case rel => exact ⟨j + 1, _, _, _, _, by go_num, rfl, by omega, HN4⟩
    case measure => simp [intOf]; omega
   ·obtain rfl : j = x.kids.len := by omega
    have hdl : ¬ ((x.kids.len : Int) < (x.kids.len : Int)) := by omega
    have hks := kidsTo_all x
    have hsz1 : (kidsTo x x.kids.len).length + 1 = x.size := by rw [hks, ← Nd.nodes_len]; simp [Nd.nodes]
    obtain ⟨bp, c3, rfl, _, hbl⟩ := own_form HL.out.row (by omega)
    have hc3 : N + 1 + (kidsTo x x.kids.len).length ≤ c3 := by
     obtain ⟨A, c, e, h⟩ := row_form HL.out.row
     cases e
     exact h
    have g0 := HL.out.box.cell 0
    have lg := HL.out.box.lt
    simp only [List.getElem?_toArray, List.getElem?_cons_zero] at g0
    have fr := HL.out.row.frozenAt (N * 9 + 8)
    have c8 : wr.cell? ⟨bp, N * 9 + 8, none⟩ = some (.slice none 0 0) := by
     rw [HL.out.row.cellAt _ (by omega), List.append_assoc, List.getElem?_append_right (by have := HXL.out; omega), HXL.out, show N * 9 + 8 - N * 9 = 8 by omega]
     rfl
    have hd1 : (N : Int) < ((N + 1 + (kidsTo x x.kids.len).length : Nat) : Int) := by omega
    have hd2 : (N : Int) < (c3 : Int) := by omega
    have HE := Lib.hid (lay_end HL.out HB.out.2.1 HB.out.2.2 HXL.out hsz1)
    clear hks hsz1 HL
    go_wp2
    go_light
    go_ret
    exact ⟨rfl, _, HE.out.1, _, HE.out.2.1, HE.out.2.2.1, HE.out.2.2.2⟩
theorem lay11_all : ∀ (n : Nat) (x : Nd), x.size ≤ n → LayP x
 | 0, x, h => by unfold Nd.size at h; omega
 | n + 1, x, h => lay_step fun y hy => lay11_all n y (by
   obtain ⟨i, hi⟩ := List.mem_iff_getElem?.1 hy
   have := Trees.size_get x.kids i y hi
   unfold Nd.size at this h ⊢
   omega)
end
section
open Go.RowKit Go.Shelf Go.MapKept Go.ChangeMaps Go.Maps
theorem keys_apart {α β : Type} {f : α → β} : ∀ {l : List α}, (l.map f).Nodup → ∀ {a b : α}, a ∈ l → b ∈ l → f a = f b → a = b
 | [], _, _, _, h, _, _ => by cases h
 | x :: l, hn, a, b, ha, hb, he => by
  rw [List.map_cons] at hn
  obtain ⟨h1, h2⟩ := List.nodup_cons.1 hn
  rcases List.mem_cons.1 ha with h3 | h3 <;> rcases List.mem_cons.1 hb with h4 | h4
  ·rw [h3, h4]
  ·exact absurd (by rw [← h3, he]; exact List.mem_map.2 ⟨b, h4, rfl⟩ : f x ∈ l.map f) h1
  ·exact absurd (by rw [← h4, ← he]; exact List.mem_map.2 ⟨a, h3, rfl⟩ : f x ∈ l.map f) h1
  ·exact keys_apart h2 h3 h4 he
section
variable {κ : Type} {key : κ → Value} {ok : κ → Prop} {good : κ → Value → Prop} {w w1 : World} {b : Nat} {k t E : TypeId} {P : Program}
theorem MemoAt.look2 (h : MemoAt key ok good w b) (K : Keyed P k) (ht : P.underlying t = some (.map k E)) {z : Value} (hz : ∀ w, (zeroValue E).run P w = .ok z w) (hk : ∀ q, ok q → ∃ l, keyOf P k (key q) = some l) (hinj : ∀ q q', key q = key q' → q = q') {q : κ} (hq : ok q) :
  (∀ w1 : World, w1.heap[b]? = w.heap[b]? → (Instr.lookup t (.map (some b)) (key q) true).run P w1 = .ok (.tuple #[z, .bool false]) w1) ∨ ∃ v, good q v ∧ ∀ w1 : World, w1.heap[b]? = w.heap[b]? → (Instr.lookup t (.map (some b)) (key q) true).run P w1 = .ok (.tuple #[v, .bool true]) w1 := by
 obtain ⟨es, clock, hb, h1, h2⟩ := h
 obtain ⟨l, hl⟩ := hk q hq
 have hks : ∀ e ∈ es.toList, ∃ l, keyOf P k e.key = some l := fun x hx => by
  obtain ⟨q', h3, h4, _⟩ := h2 x hx
  rw [h4]
  exact hk q' h3
 by_cases hx : ∃ e ∈ es.toList, e.key = key q
 ·obtain ⟨e, he, hek⟩ := hx
  refine .inr ⟨e.val, ?_, fun w1 hw => ?_⟩
  ·obtain ⟨q', h3, h4, h5⟩ := h2 e he
   rw [hinj q q' (hek.symm.trans h4)]
   exact h5
  ·rcases K.find w1 hl es.toList hks with ⟨f1, f2⟩ | ⟨j, e0, f1, f2, f3⟩
   ·exact absurd hek (f2 e he)
   ·obtain rfl : e0 = e := keys_apart h1.2.2 (List.mem_of_getElem? f2) he (f3.trans hek.symm)
    simp [Instr.lookup, run_underlying ht, MapKept.run_getObj_map (hw.trans hb), K.check w1 _ hl, f1, Result.andThen]
 ·refine .inl fun w1 hw => ?_
  rcases K.find w1 hl es.toList hks with ⟨f1, f2⟩ | ⟨j, e0, f1, f2, f3⟩
  ·simp [Instr.lookup, run_underlying ht, MapKept.run_getObj_map (hw.trans hb), K.check w1 _ hl, f1, hz w1, Result.andThen]
  ·exact absurd ⟨e0, List.mem_of_getElem? f2, f3⟩ hx
end
theorem zero_places (w : World) : (zeroValue 69).run Tryz.prog w = .ok (.agg #[.int .u64 0, .int .u64 0, .int .u64 0, .int .u64 0, .int .u64 0]) w := by kernel_rfl
theorem ask_ok {k i : Nat} (hk : k ≤ 1000000) (hi : i ≤ 256) : okA ((k : Int), (i : Int)) := by
 constructor <;> simp [Lit.wf, show IntKind.i64.min = -9223372036854775808 from by decide, show IntKind.i64.max = 9223372036854775807 from by decide] <;> omega
theorem memo_look {x z : Nd} {bs : List Nat} {w : World} {fm k i : Nat} (h : MemoAt askV okA (goodM x bs) w fm) (hk : k ≤ 1000000) (hi : i ≤ 256) (hz : x.nodes[k]? = some z) :
  (∀ w1 : World, w1.heap[fm]? = w.heap[fm]? → (Instr.lookup 129 (.map (some fm)) (.agg #[.int .i64 (k : Int), .int .i64 (i : Int)]) true).run Tryz.prog w1 = .ok (.tuple #[.agg #[.int .u64 0, .int .u64 0, .int .u64 0, .int .u64 0, .int .u64 0], .bool false]) w1) ∨
  ∀ w1 : World, w1.heap[fm]? = w.heap[fm]? → (Instr.lookup 129 (.map (some fm)) (.agg #[.int .i64 (k : Int), .int .i64 (i : Int)]) true).run Tryz.prog w1 = .ok (.tuple #[.agg #[.int .u64 (word (endsB z bs i) 0), .int .u64 (word (endsB z bs i) 1), .int .u64 (word (endsB z bs i) 2), .int .u64 (word (endsB z bs i) 3), .int .u64 (word (endsB z bs i) 4)], .bool true]) w1 := by
 rcases h.look2 askKeyed Tryz.underlying129 zero_places ask_key askV_inj (ask_ok hk hi) with h1 | ⟨v, h2, h3⟩
 ·exact .inl h1
 ·refine .inr ?_
  have := h2 k i z rfl hz
  rw [← this]
  exact h3
theorem memo_put {x z : Nd} {bs : List Nat} {w : World} {fm k i : Nat} (h : MemoAt askV okA (goodM x bs) w fm) (hk : k ≤ 1000000) (hi : i ≤ 256) (hz : x.nodes[k]? = some z) :
  ∃ w2, (Instr.mapUpdate 129 (.map (some fm)) (.agg #[.int .i64 (k : Int), .int .i64 (i : Int)]) (.agg #[.int .u64 (word (endsB z bs i) 0), .int .u64 (word (endsB z bs i) 1), .int .u64 (word (endsB z bs i) 2), .int .u64 (word (endsB z bs i) 3), .int .u64 (word (endsB z bs i) 4)])).run Tryz.prog w = .ok () w2 ∧ MemoAt askV okA (goodM x bs) w2 fm ∧ w.grownBy w2 (some fm) :=
 h.store askKeyed Tryz.underlying129 ask_key (ask_ok hk hi) (fun k' i' z' e hz' => by
  simp at e
  obtain ⟨e1, e2⟩ := e
  obtain rfl : k = k' := by omega
  obtain rfl : i = i' := by omega
  rw [hz] at hz'
  cases hz'
  rfl)
end
section
open Go.RowKit
theorem eqPl5 (a b c d e a' b' c' d' e' : Int) (w : World) : (Op.equalIn 10000 69 (.agg #[.int .u64 a, .int .u64 b, .int .u64 c, .int .u64 d, .int .u64 e]) (.agg #[.int .u64 a', .int .u64 b', .int .u64 c', .int .u64 d', .int .u64 e'])).run Tryz.prog w = .ok (a == a' && b == b' && c == c' && d == d' && e == e') w := by
 have u3 := Tryz.underlying23
 have a3 := Tryz.isAgg23
 have z3 := Tryz.sizeOf23
 rw [show (10000 : Nat) = 9999 + 1 from rfl, Op.equalIn]
 simp only [Sem.run_bind, run_underlying Tryz.underlying69, Result.andThen_ok]
 simp only [Std.Legacy.Range.forIn_eq_forIn_range', Std.Legacy.Range.size, Nat.sub_zero, Nat.add_sub_cancel, Nat.div_one, List.range'_succ, List.range'_zero, List.forIn_cons, List.forIn_nil]
 go_simp
 by_cases h1 : a = a' <;> by_cases h2 : b = b' <;> by_cases h3 : c = c' <;> by_cases h4 : d = d' <;> by_cases h5 : e = e' <;> simp [h1, h2, h3, h4, h5]
def sameB (p q : Nat → Bool) : Bool := word p 0 == word q 0 && word p 1 == word q 1 && word p 2 == word q 2 && word p 3 == word q 3 && word p 4 == word q 4
theorem sameB_words {p q : Nat → Bool} : sameB p q = true ↔ ∀ i, i < 5 → word p i = word q i := by
 unfold sameB
 simp only [Bool.and_eq_true, beq_iff_eq]
 constructor
 ·rintro ⟨⟨⟨⟨h0, h1⟩, h2⟩, h3⟩, h4⟩ i hi
  rcases i with _ | _ | _ | _ | _ | i <;> first | omega | assumption
 ·intro h
  exact ⟨⟨⟨⟨h 0 (by omega), h 1 (by omega)⟩, h 2 (by omega)⟩, h 3 (by omega)⟩, h 4 (by omega)⟩
theorem sameB_iff {p q : Nat → Bool} (hp : ∀ c, p c = true → c < 320) (hq : ∀ c, q c = true → c < 320) : sameB p q = true ↔ p = q := by
 rw [sameB_words]
 constructor
 ·intro h
  funext c
  rcases Nat.lt_or_ge c 320 with hc | hc
  ·have h1 := h (c / 64) (by omega)
   have h2 := congrArg (fun n => n.testBit (c % 64)) h1
   simp only [testBit_word] at h2
   have h3 : 64 * (c / 64) + c % 64 = c := by omega
   rw [h3] at h2
   have h4 : decide (c % 64 < 64) = true := by simp; omega
   rw [h4] at h2
   simpa using h2
  ·have h1 : p c = false := by
    cases h : p c with
    | false => rfl
    | true => have := hp c h; omega
   have h2 : q c = false := by
    cases h : q c with
    | false => rfl
    | true => have := hq c h; omega
   rw [h1, h2]
 ·rintro rfl i _
  rfl
@[go_sem] theorem eqPl (p q : Nat → Bool) (w : World) : (Op.equalIn 10000 69 (.agg #[.int .u64 (word p 0), .int .u64 (word p 1), .int .u64 (word p 2), .int .u64 (word p 3), .int .u64 (word p 4)]) (.agg #[.int .u64 (word q 0), .int .u64 (word q 1), .int .u64 (word q 2), .int .u64 (word q 3), .int .u64 (word q 4)])).run Tryz.prog w = .ok (sameB p q) w := by
 rw [eqPl5]
 congr 1
 unfold sameB
 rw [Bool.eq_iff_iff]
 simp only [Bool.and_eq_true, beq_iff_eq]
 omega
@[go_sem] theorem eqPl0 (p : Nat → Bool) (w : World) : (Op.equalIn 10000 69 (.agg #[.int .u64 (word p 0), .int .u64 (word p 1), .int .u64 (word p 2), .int .u64 (word p 3), .int .u64 (word p 4)]) (.agg #[.int .u64 0, .int .u64 0, .int .u64 0, .int .u64 0, .int .u64 0])).run Tryz.prog w = .ok (sameB p (fun _ => false)) w := by
 have := eqPl p (fun _ => false) w
 simp only [word_none] at this
 exact this
structure MW (x : Nd) (bs : List Nat) (base gm b cp fm cv : Nat) (V : Option Addr) (w W : World) : Prop where
 mat : MatAt W x bs base gm b cp fm V cv
 grown : w.grownBy W (some fm)
theorem MW.refl {x : Nd} {bs : List Nat} {base gm b cp fm cv : Nat} {V : Option Addr} {w : World} (h : MatAt w x bs base gm b cp fm V cv) : MW x bs base gm b cp fm cv V w w := ⟨h, World.grownBy.refl _ _⟩
theorem MW.call {x : Nd} {bs : List Nat} {base gm b cp fm cv : Nat} {V : Option Addr} {w W W' : World} (h : MW x bs base gm b cp fm cv V w W) (hm : MatAt W' x bs base gm b cp fm V cv) (hg : W.grownBy W' (some fm)) : MW x bs base gm b cp fm cv V w W' := ⟨hm, grown_trans h.grown hg⟩
theorem MW.step {x : Nd} {bs : List Nat} {base gm b cp fm cv : Nat} {V : Option Addr} {w W W' : World} {row : Option Nat} (hM : MatAt w x bs base gm b cp fm V cv) (h : MW x bs base gm b cp fm cv V w W) (hg : W.grownBy W' row) (hr : ∀ r, row = some r → w.heap.size ≤ r) : MW x bs base gm b cp fm cv V w W' :=
 ⟨hM.over h.grown h.mat.memo hg hr, grown_over h.grown hg hr⟩
theorem MW.below {x : Nd} {bs : List Nat} {base gm b cp fm cv : Nat} {V : Option Addr} {w W W' : World} (h : MW x bs base gm b cp fm cv V w W) (hb : Below W.heap.size W W') : MW x bs base gm b cp fm cv V w W' := ⟨h.mat.below hb, grown_trans h.grown (grown_below hb)⟩
theorem MW.alloc {x : Nd} {bs : List Nat} {base gm b cp fm cv : Nat} {V : Option Addr} {w W : World} (h : MW x bs base gm b cp fm cv V w W) (o : Obj) : MW x bs base gm b cp fm cv V w (W.alloc o) := h.below ((Below.refl _ _).alloc (Nat.le_refl _) _)
theorem MW.stow {x : Nd} {bs : List Nat} {base gm b cp fm cv g : Nat} {V : Option Addr} {w W : World} (hM : MatAt w x bs base gm b cp fm V cv) (h : MW x bs base gm b cp fm cv V w W) (hg : w.heap.size ≤ g) (p : Nat → Bool) : MW x bs base gm b cp fm cv V w (stow5 W g p) := h.step hM (grown5 W g p) (fun r e => by cases e; exact hg)
theorem MW.drew {x : Nd} {bs : List Nat} {base gm b cp fm cv : Nat} {V : Option Addr} {w W : World} (h : MW x bs base gm b cp fm cv V w W) : MW x bs base gm b cp fm cv V w W.drew := h.below ⟨rfl, rfl, rfl, Nat.le_refl _, fun _ _ => rfl⟩
theorem Blk.past {W W' : World} {g fm : Nat} {t : TypeId} {cs : Array Value} (h : Blk W g t cs) (hg : W.grownBy W' (some fm)) (hf : fm < g) : Blk W' g t cs := h.grown hg (by simp; omega)
theorem img_len {z : Nd} {bs : List Nat} {p : Nat → Bool} (hp : ∀ c, p c = true → c ≤ bs.length) : ∀ c, imgB (z.rel bs) p c = true → c ≤ bs.length := fun c h => by
 obtain ⟨i, h1, h2⟩ := imgB_iff.1 h
 exact rel_len z bs (hp i h1) h2
theorem img_it {z : Nd} {bs : List Nat} {p : Nat → Bool} (hp : ∀ c, p c = true → c ≤ bs.length) : ∀ m c, imgB (itR (z.rel bs) m) p c = true → c ≤ bs.length
 | 0, c, h => by
  obtain ⟨i, h1, h2⟩ := imgB_iff.1 h
  have h2 : i = c := h2
  rw [← h2]
  exact hp i h1
 | m + 1, c, h => by
  rw [← imgB_next] at h
  exact img_len (img_it hp m) c h
theorem img_it0 (R : RelW) (p : Nat → Bool) : imgB (itR R 0) p = p := imgB_id p
theorem just_go {x : Nd} {bs : List Nat} {z : Nd} (hE : EachC x bs z) {base gm b cp fm cv : Nat} {V : Option Addr} (w : World) (hM : MatAt w x bs base gm b cp fm V cv) (k : Nat) (p : Nat → Bool) (m : Nat) (hm : m ≤ 1000000000000) (hk : Below1 x.nodes k z) (hp : ∀ c, p c = true → c ≤ bs.length) :
  Calls Tryz.prog 225 #[.pointer (some ⟨gm, 0, none⟩), .int .i64 (k : Int), .agg #[.int .u64 (word p 0), .int .u64 (word p 1), .int .u64 (word p 2), .int .u64 (word p 3), .int .u64 (word p 4)], .int .i64 (m : Int)] w fun e w' => e = .returned (.agg #[.int .u64 ((word (imgB (itR (z.rel bs) m) p) 0 : Nat) : Int), .int .u64 ((word (imgB (itR (z.rel bs) m) p) 1 : Nat) : Int), .int .u64 ((word (imgB (itR (z.rel bs) m) p) 2 : Nat) : Int), .int .u64 ((word (imgB (itR (z.rel bs) m) p) 3 : Nat) : Int), .int .u64 ((word (imgB (itR (z.rel bs) m) p) 4 : Nat) : Int)]) ∧ MatAt w' x bs base gm b cp fm V cv ∧ w.grownBy w' (some fm) := by
 obtain ⟨W0, hW0⟩ : ∃ W0, (w.alloc (.cells #[.int .u64 (word p 0), .int .u64 (word p 1), .int .u64 (word p 2), .int .u64 (word p 3), .int .u64 (word p 4)] 69)).alloc (.cells #[.int .u64 0, .int .u64 0, .int .u64 0, .int .u64 0, .int .u64 0] 69) = W0 := ⟨_, rfl⟩
 have HM := Lib.hid hM
 have hlt := hM.memo.lt
 have HW0 := Lib.hid (show MW x bs base gm b cp fm cv V w W0 from by rw [← hW0]; exact ((MW.refl hM).alloc _).alloc _)
 have HB0 := Lib.hid (show Blk W0 w.heap.size 69 #[.int .u64 (word p 0), .int .u64 (word p 1), .int .u64 (word p 2), .int .u64 (word p 3), .int .u64 (word p 4)] from by rw [← hW0]; exact (Blk.new _ _ _).alloc _)
 have HR0 := Lib.hid (show Blk W0 (w.heap.size + 1) 69 #[.int .u64 0, .int .u64 0, .int .u64 0, .int .u64 0, .int .u64 0] from by rw [← hW0]; exact Blk.new_at (by simp))
 have HE := Lib.hid hE
 have HKB := Lib.hid hk
 have HP := Lib.hid hp
 have HLN := Lib.hid hM.len
 clear hM hE hk hp
 go_enter Tryz.func225, Tryz.ntmps225
 go_wp2
 clear hW0
 go_loopw [3] (fun v wr => ∃ j : Nat, v = .int .i64 (j : Int) ∧ j ≤ m ∧ Hid (MW x bs base gm b cp fm cv V w wr) ∧ Hid (Blk wr w.heap.size 69 #[.int .u64 ((word (imgB (itR (z.rel bs) (m - j)) p) 0 : Nat) : Int), .int .u64 ((word (imgB (itR (z.rel bs) (m - j)) p) 1 : Nat) : Int), .int .u64 ((word (imgB (itR (z.rel bs) (m - j)) p) 2 : Nat) : Int), .int .u64 ((word (imgB (itR (z.rel bs) (m - j)) p) 3 : Nat) : Int), .int .u64 ((word (imgB (itR (z.rel bs) (m - j)) p) 4 : Nat) : Int)]) ∧ Hid (Blk wr (w.heap.size + 1) 69 #[.int .u64 0, .int .u64 0, .int .u64 0, .int .u64 0, .int .u64 0])) (fun v _ => (intOf v).toNat)
 case atStart => exact ⟨m, rfl, Nat.le_refl _, HW0, by rw [Nat.sub_self, img_it0]; exact HB0, HR0⟩
 case round =>
  clear HW0 HB0 HR0
  obtain ⟨j, rfl, hj, HW, HB, HR⟩ := hrel
  obtain ⟨c0, c1, c2, c3, c4⟩ := HB.out.c5w
  have lb := HB.out.lt
  have lr := HR.out.lt
  by_cases h0 : j = 0
  ·subst h0
   obtain ⟨d0, d1, d2, d3, d4⟩ := HR.out.c5w
   obtain ⟨f0, f1, f2, f3, f4⟩ := HR.out.f5w
   go_wp2
   rw [Nat.sub_zero] at HB
   refine bodyPost_ret (ret_pl Tryz.results225 rfl (HR.out.put5 (imgB (itR (z.rel bs) m) p))) rfl ?_
   have hF := HW.out.stow HM.out (g := w.heap.size + 1) (by omega) (imgB (itR (z.rel bs) m) p)
   exact ⟨rfl, hF.mat, hF.grown⟩
  ·have hgt : decide ((j : Int) > 0) = true := by simp; omega
   have HC := Lib.hid (HE.out base gm b cp fm cv V wr HW.out.mat k (imgB (itR (z.rel bs) (m - j)) p) HKB.out (img_it HP.out _))
   rw [imgB_next] at HC
   go_wp2_with fail
   refine HC.out.mono ?_
   rintro e w4 ⟨rfl, hm4, hg4⟩
   have HW4 := Lib.hid (HW.out.call hm4 hg4)
   have HB4 := Lib.hid (HB.out.past hg4 hlt)
   have HR4 := Lib.hid (HR.out.past hg4 (by omega))
   clear hm4 hg4 HC HW HB HR c0 c1 c2 c3 c4 lb lr
   obtain ⟨c0, c1, c2, c3, c4⟩ := HB4.out.c5w
   obtain ⟨f0, f1, f2, f3, f4⟩ := HB4.out.f5w
   have lb := HB4.out.lt
   have lr := HR4.out.lt
   have hne : w.heap.size ≠ w4.heap.size := by omega
   dsimp only
   have hpb := Lib.hid (img_it (z := z) HP.out (m - j))
   have hpb1 := Lib.hid (img_it (z := z) HP.out (m - j + 1))
   cases hsm : sameB (imgB (itR (z.rel bs) (m - j + 1)) p) (imgB (itR (z.rel bs) (m - j)) p) with
   | true =>
    have HQ := Lib.hid ((sameB_iff (fun c hc => by have := hpb1.out c hc; have := HLN.out; omega) (fun c hc => by have := hpb.out c hc; have := HLN.out; omega)).1 hsm)
    obtain ⟨d0, d1, d2, d3, d4⟩ := HR4.out.c5w
    obtain ⟨e0, e1, e2, e3, e4⟩ := HR4.out.f5w
    go_wp2
    have hfin : imgB (itR (z.rel bs) (m - j)) p = imgB (itR (z.rel bs) m) p := by
     have h5 := imgB_fix (by rw [imgB_next]; exact HQ.out) j
     rw [show m - j + j = m by omega] at h5
     exact h5.symm
    refine bodyPost_ret (ret_pl Tryz.results225 rfl ((HR4.out.put5 (imgB (itR (z.rel bs) (m - j)) p)).alloc _)) rfl ?_
    have hF := (HW4.out.stow HM.out (g := w.heap.size + 1) (by omega) (imgB (itR (z.rel bs) (m - j)) p)).alloc (.cells #[.int .u64 ((word (imgB (itR (z.rel bs) (m - j + 1)) p) 0 : Nat) : Int), .int .u64 ((word (imgB (itR (z.rel bs) (m - j + 1)) p) 1 : Nat) : Int), .int .u64 ((word (imgB (itR (z.rel bs) (m - j + 1)) p) 2 : Nat) : Int), .int .u64 ((word (imgB (itR (z.rel bs) (m - j + 1)) p) 3 : Nat) : Int), .int .u64 ((word (imgB (itR (z.rel bs) (m - j + 1)) p) 4 : Nat) : Int)] 69)
    exact ⟨by rw [hfin], hF.mat, hF.grown⟩
   | false =>
    have hwj : IntKind.i64.wrap ((j : Int) - 1) = (j : Int) - 1 := by rw [IntKind.wrap_i64]; omega
    go_wp2
    refine ⟨⟨j - 1, by rw [show ((j - 1 : Nat) : Int) = (j : Int) - 1 by omega], by omega, ?_, ?_, ?_⟩, ?_⟩
    ·exact Lib.hid ((HW4.out.stow HM.out (g := w.heap.size) (by omega) (imgB (itR (z.rel bs) (m - j + 1)) p)).alloc _)
    ·rw [show m - (j - 1) = m - j + 1 by omega]
     exact Lib.hid ((HB4.out.put5 (imgB (itR (z.rel bs) (m - j + 1)) p)).alloc _)
    ·exact Lib.hid ((HR4.out.grown (grown5 w4 w.heap.size (imgB (itR (z.rel bs) (m - j + 1)) p)) (by simp)).alloc _)
    ·simp [intOf]; omega
def readP (w : World) (g : Nat) : Nat → Bool := fun c => (intOf ((w.cell? ⟨g, c / 64, none⟩).getD undef)).toNat.testBit (c % 64)
theorem readP_blk {w : World} {g : Nat} {t : TypeId} {q : Nat → Bool} (h : Blk w g t #[.int .u64 (word q 0), .int .u64 (word q 1), .int .u64 (word q 2), .int .u64 (word q 3), .int .u64 (word q 4)]) {c : Nat} (hc : c < 320) : readP w g c = q c := by
 obtain ⟨c0, c1, c2, c3, c4⟩ := h.c5w
 have key : w.cell? ⟨g, c / 64, none⟩ = some (.int .u64 ((word q (c / 64) : Nat) : Int)) := by
  rcases hd : c / 64 with _ | _ | _ | _ | _ | d
  ·exact c0
  ·exact c1
  ·exact c2
  ·exact c3
  ·exact c4
  ·omega
 unfold readP
 rw [key]
 have h4 : decide (c % 64 < 64) = true := by simp; omega
 show (((word q (c / 64) : Nat) : Int)).toNat.testBit (c % 64) = q c
 rw [Int.toNat_natCast, testBit_word, h4, Bool.true_and, show 64 * (c / 64) + c % 64 = c by omega]
def gapsB (q : Nat → Bool) : Nat := (List.range 320).countP (fun c => !q c)
theorem countP_le2 {f g : Nat → Bool} : ∀ {l : List Nat}, (∀ c ∈ l, f c = true → g c = true) → l.countP f ≤ l.countP g
 | [], _ => Nat.le_refl _
 | a :: l, h => by
  have h1 := countP_le2 (f := f) (g := g) (l := l) (fun c hc => h c (by simp [hc]))
  have h2 := h a (by simp)
  rw [List.countP_cons, List.countP_cons]
  cases hf : f a with
  | false => simp; omega
  | true => rw [h2 hf]; simp; omega
theorem countP_lt2 {f g : Nat → Bool} : ∀ {l : List Nat}, (∀ c ∈ l, f c = true → g c = true) → (∃ c ∈ l, f c = false ∧ g c = true) → l.countP f < l.countP g
 | [], _, ⟨c, h, _⟩ => by simp at h
 | a :: l, h, ⟨c, hc, h3, h4⟩ => by
  have h2 := h a (by simp)
  rw [List.countP_cons, List.countP_cons]
  rcases List.mem_cons.1 hc with rfl | hc
  ·have h1 := countP_le2 (f := f) (g := g) (l := l) (fun c hc => h c (by simp [hc]))
   rw [h3, h4]
   simp
   omega
  ·have h1 := countP_lt2 (f := f) (g := g) (l := l) (fun c hc => h c (by simp [hc])) ⟨c, hc, h3, h4⟩
   cases hf : f a with
   | false => simp; omega
   | true => rw [h2 hf]; simp; omega
theorem gaps_congr {p q : Nat → Bool} (h : ∀ c, c < 320 → p c = q c) : gapsB p = gapsB q := by
 unfold gapsB
 exact List.countP_congr (fun c hc => by rw [h c (by simpa using hc)])
theorem gaps_less {p e : Nat → Bool} {c : Nat} (hc : c < 320) (he : e c = true) (hp : p c = false) : gapsB (fun c => p c || e c) < gapsB p :=
 countP_lt2 (fun d _ h => by cases hd : p d <;> simp_all) ⟨c, by simpa using hc, by simp [he], by simp [hp]⟩
def togo (p e : Nat → Bool) : Nat := 2 * gapsB p + (if (List.range 320).any e then 1 else 0)
theorem togo_congr {p q e f : Nat → Bool} (h : ∀ c, c < 320 → p c = q c) (g : ∀ c, c < 320 → e c = f c) : togo p e = togo q f := by
 unfold togo
 rw [gaps_congr h]
 have : (List.range 320).any e = (List.range 320).any f := by
  rw [Bool.eq_iff_iff, List.any_eq_true, List.any_eq_true]
  exact ⟨fun ⟨c, h1, h2⟩ => ⟨c, h1, by rw [← g c (by simpa using h1)]; exact h2⟩, fun ⟨c, h1, h2⟩ => ⟨c, h1, by rw [g c (by simpa using h1)]; exact h2⟩⟩
 rw [this]
theorem togo_less {p e q : Nat → Bool} (he : ∃ c, c < 320 ∧ e c = true) (hq : ∀ c, q c = true → p c = false) : togo (fun c => p c || q c) q < togo p e := by
 obtain ⟨d, hd1, hd2⟩ := he
 have h1 : (List.range 320).any e = true := List.any_eq_true.2 ⟨d, by simpa using hd1, hd2⟩
 unfold togo
 rw [h1]
 cases h2 : (List.range 320).any q with
 | true =>
  obtain ⟨c, h3, h4⟩ := List.any_eq_true.1 h2
  have := gaps_less (p := p) (by simpa using h3) h4 (hq c h4)
  simp
  omega
 | false =>
  have h5 : gapsB (fun c => p c || q c) = gapsB p := gaps_congr fun c hc => by
   cases h6 : q c with
   | false => simp
   | true =>
    have : (List.range 320).any q = true := List.any_eq_true.2 ⟨c, by simpa using hc, h6⟩
    rw [h2] at this
    cases this
  rw [h5]
  simp
def blockOf : Value → Nat
 | .pointer (some a) => a.block
 | _ => 0
structure AgainI (x : Nd) (bs : List Nat) (base gm b cp fm cv : Nat) (V : Option Addr) (z : Nd) (p : Nat → Bool) (w W : World) (g : Nat) (q e : Nat → Bool) : Prop where
 mw : MW x bs base gm b cp fm cv V w W
 bg : Blk W g 69 #[.int .u64 (word e 0), .int .u64 (word e 1), .int .u64 (word e 2), .int .u64 (word e 3), .int .u64 (word e 4)]
 bq : Blk W w.heap.size 69 #[.int .u64 (word q 0), .int .u64 (word q 1), .int .u64 (word q 2), .int .u64 (word q 3), .int .u64 (word q 4)]
 br : Blk W (w.heap.size + 1) 69 #[.int .u64 0, .int .u64 0, .int .u64 0, .int .u64 0, .int .u64 0]
 far : w.heap.size + 2 ≤ g
 ag : AgainB (z.rel bs) p q e
 lt : fm < w.heap.size
theorem img_star {z : Nd} {bs : List Nat} {p : Nat → Bool} (hp : ∀ c, p c = true → c ≤ bs.length) (c : Nat) (h : imgB (starR (z.rel bs)) p c = true) : c ≤ bs.length := by
 obtain ⟨i, h1, m, h2⟩ := imgB_iff.1 h
 exact img_it hp m c (imgB_iff.2 ⟨i, h1, h2⟩)
theorem again_go {x : Nd} {bs : List Nat} {z : Nd} (hE : EachC x bs z) {base gm b cp fm cv : Nat} {V : Option Addr} (w : World) (hM : MatAt w x bs base gm b cp fm V cv) (k : Nat) (p : Nat → Bool) (hk : Below1 x.nodes k z) (hp : ∀ c, p c = true → c ≤ bs.length) :
  Calls Tryz.prog 188 #[.pointer (some ⟨gm, 0, none⟩), .int .i64 (k : Int), .agg #[.int .u64 (word p 0), .int .u64 (word p 1), .int .u64 (word p 2), .int .u64 (word p 3), .int .u64 (word p 4)]] w fun e w' => e = .returned (.agg #[.int .u64 ((word (imgB (starR (z.rel bs)) p) 0 : Nat) : Int), .int .u64 ((word (imgB (starR (z.rel bs)) p) 1 : Nat) : Int), .int .u64 ((word (imgB (starR (z.rel bs)) p) 2 : Nat) : Int), .int .u64 ((word (imgB (starR (z.rel bs)) p) 3 : Nat) : Int), .int .u64 ((word (imgB (starR (z.rel bs)) p) 4 : Nat) : Int)]) ∧ MatAt w' x bs base gm b cp fm V cv ∧ w.grownBy w' (some fm) := by
 obtain ⟨W0, hW0⟩ : ∃ W0, ((w.alloc (.cells #[.int .u64 (word p 0), .int .u64 (word p 1), .int .u64 (word p 2), .int .u64 (word p 3), .int .u64 (word p 4)] 69)).alloc (.cells #[.int .u64 0, .int .u64 0, .int .u64 0, .int .u64 0, .int .u64 0] 69)).alloc (.cells #[.int .u64 (word p 0), .int .u64 (word p 1), .int .u64 (word p 2), .int .u64 (word p 3), .int .u64 (word p 4)] 69) = W0 := ⟨_, rfl⟩
 have HM := Lib.hid hM
 have hlt := hM.memo.lt
 have HW0 := Lib.hid (show MW x bs base gm b cp fm cv V w W0 from by rw [← hW0]; exact (((MW.refl hM).alloc _).alloc _).alloc _)
 have HB0 := Lib.hid (show Blk W0 w.heap.size 69 #[.int .u64 (word p 0), .int .u64 (word p 1), .int .u64 (word p 2), .int .u64 (word p 3), .int .u64 (word p 4)] from by rw [← hW0]; exact ((Blk.new _ _ _).alloc _).alloc _)
 have HR0 := Lib.hid (show Blk W0 (w.heap.size + 1) 69 #[.int .u64 0, .int .u64 0, .int .u64 0, .int .u64 0, .int .u64 0] from by rw [← hW0]; exact (Blk.new_at (by simp)).alloc _)
 have HG0 := Lib.hid (show Blk W0 (w.heap.size + 2) 69 #[.int .u64 (word p 0), .int .u64 (word p 1), .int .u64 (word p 2), .int .u64 (word p 3), .int .u64 (word p 4)] from by rw [← hW0]; exact Blk.new_at (by simp))
 have HE := Lib.hid hE
 have HKB := Lib.hid hk
 have HP := Lib.hid hp
 have HLN := Lib.hid hM.len
 clear hM hE hk hp
 go_enter Tryz.func188, Tryz.ntmps188
 go_wp2
 go_loopw [7] (fun v wr => ∃ (g : Nat) (q e : Nat → Bool), v = .pointer (some ⟨g, 0, none⟩) ∧ Hid (AgainI x bs base gm b cp fm cv V z p w wr g q e)) (fun v wr => togo (readP wr w.heap.size) (readP wr (blockOf v)))
 case atStart => exact ⟨w.heap.size + 2, p, p, rfl, Lib.hid ⟨HW0.out, HG0.out, HB0.out, HR0.out, Nat.le_refl _, again_start _ _, hlt⟩⟩
 case round =>
  clear HW0 HB0 HR0 HG0
  obtain ⟨g, q, e, rfl, HI⟩ := hrel
  obtain ⟨c0, c1, c2, c3, c4⟩ := HI.out.bg.c5w
  obtain ⟨d0, d1, d2, d3, d4⟩ := HI.out.bq.c5w
  have lb := HI.out.bq.lt
  have lr := HI.out.br.lt
  have lg := HI.out.bg.lt
  have hq := Lib.hid (show ∀ c, q c = true → c ≤ bs.length from fun c hc => img_star HP.out c (HI.out.ag.sound c hc))
  have he := Lib.hid (show ∀ c, e c = true → c ≤ bs.length from fun c hc => hq.out c (HI.out.ag.edge c hc))
  cases hsm : sameB e (fun _ => false) with
  | true =>
   have HQ := Lib.hid ((sameB_iff (fun c hc => by have := he.out c hc; have := HLN.out; omega) (fun c hc => by cases hc)).1 hsm)
   obtain ⟨r0, r1, r2, r3, r4⟩ := HI.out.br.c5w
   obtain ⟨e0, e1, e2, e3, e4⟩ := HI.out.br.f5w
   go_wp2
   have hfin := HI.out.ag.done (fun c => by rw [HQ.out])
   refine bodyPost_ret (ret_pl Tryz.results188 rfl (HI.out.br.put5 q)) rfl ?_
   have hF := HI.out.mw.stow HM.out (g := w.heap.size + 1) (by omega) q
   exact ⟨by rw [hfin], hF.mat, hF.grown⟩
  | false =>
   have hne : ∃ c, c < 320 ∧ e c = true := by
    by_cases h : ∃ c, e c = true
    ·obtain ⟨c, hc⟩ := h
     exact ⟨c, by have := he.out c hc; have := HLN.out; omega, hc⟩
    ·have h1 : e = fun _ => false := funext fun c => by
      cases h2 : e c with
      | false => rfl
      | true => exact absurd ⟨c, h2⟩ h
     rw [h1] at hsm
     have h3 : sameB (fun _ => false) (fun _ => false) = true := sameB_words.2 fun i _ => rfl
     rw [h3] at hsm
     cases hsm
   have HNE := Lib.hid hne
   clear hne
   go_wp2
   have HWd := Lib.hid HI.out.mw.drew
   have hgf := HI.out.far
   go_region_with (first
    | (go_at_call 186; refine (HE.out base gm b cp fm cv V _ HWd.out.mat k e HKB.out he.out).mono ?_; rintro _ w4 ⟨rfl, hm4, hg4⟩; have HW4 := Lib.hid (HWd.out.call hm4 hg4); have HG4 := Lib.hid (Blk.past (W := wr.drew) HI.out.bg hg4 (by omega)); have HQ4 := Lib.hid (Blk.past (W := wr.drew) HI.out.bq hg4 (by omega)); have HR4 := Lib.hid (Blk.past (W := wr.drew) HI.out.br hg4 (by omega)); clear hm4 hg4; obtain ⟨d0, d1, d2, d3, d4⟩ := HQ4.out.c5w)
    | (go_at_call 224; refine (pbut_go _ _ _).mono ?_; rintro _ w5 ⟨rfl, hb5⟩; have HW5 := Lib.hid (HW4.out.below hb5); have HG5 := Lib.hid (HG4.out.below hb5 HG4.out.lt); have HQ5 := Lib.hid (HQ4.out.below hb5 HQ4.out.lt); have HR5 := Lib.hid (HR4.out.below hb5 HR4.out.lt); clear hb5; obtain ⟨c0, c1, c2, c3, c4⟩ := HG5.out.c5w; obtain ⟨f0, f1, f2, f3, f4⟩ := HG5.out.f5w))
   all_goals
    obtain ⟨e2, he2, HN⟩ : ∃ e2, (fun c => imgB (z.rel bs) e c && !q c) = e2 ∧ Hid (∀ c, e2 c = true ↔ imgB (z.rel bs) e c = true ∧ q c = false) := ⟨_, rfl, Lib.hid (fun c => by simp)⟩
    rw [he2]
    have HW6 := Lib.hid (HW5.out.stow HM.out (g := g) (by omega) e2)
    have HG6 := Lib.hid (HG5.out.put5 e2)
    have HQ6 := Lib.hid (HQ5.out.grown (grown5 w5 g e2) (by simp; omega))
    have HR6 := Lib.hid (HR5.out.grown (grown5 w5 g e2) (by simp; omega))
    obtain ⟨W6, hW6⟩ : ∃ W6, stow5 w5 g e2 = W6 := ⟨_, rfl⟩
    rw [hW6] at HW6 HG6 HQ6 HR6
    unfold stow5 at hW6
    rw [hW6]
    clear he2 hW6 HW5 HG5 HQ5 HR5 HW4 HG4 HQ4 HR4 HWd c0 c1 c2 c3 c4 d0 d1 d2 d3 d4 f0 f1 f2 f3 f4 lb lr lg hW0 W0
    obtain ⟨c0, c1, c2, c3, c4⟩ := HG6.out.c5w
    obtain ⟨d0, d1, d2, d3, d4⟩ := HQ6.out.c5w
    go_wp2_with fail
    refine (pwith_go q e2 W6).mono ?_
    rintro _ W7 ⟨rfl, hb7⟩
    have HW7 := Lib.hid (HW6.out.below hb7)
    have HG7 := Lib.hid (HG6.out.below hb7 HG6.out.lt)
    have HQ7 := Lib.hid (HQ6.out.below hb7 HQ6.out.lt)
    have HR7 := Lib.hid (HR6.out.below hb7 HR6.out.lt)
    clear hb7 HW6 HG6 HQ6 HR6 c0 c1 c2 c3 c4 d0 d1 d2 d3 d4
    obtain ⟨c0, c1, c2, c3, c4⟩ := HG7.out.c5w
    obtain ⟨d0, d1, d2, d3, d4⟩ := HQ7.out.c5w
    obtain ⟨f0, f1, f2, f3, f4⟩ := HQ7.out.f5w
    have lg := HG7.out.lt
    have lq := HQ7.out.lt
    have lr := HR7.out.lt
    have hgq : g ≠ w.heap.size := by omega
    dsimp only
    go_wp2
    have hA : AgainI x bs base gm b cp fm cv V z p w ((stow5 W7 w.heap.size (fun c => q c || e2 c)).alloc (.cells #[.int .u64 (word e2 0), .int .u64 (word e2 1), .int .u64 (word e2 2), .int .u64 (word e2 3), .int .u64 (word e2 4)] 69)) W7.heap.size (fun c => q c || e2 c) e2 :=
     ⟨(HW7.out.stow HM.out (g := w.heap.size) (Nat.le_refl _) _).alloc _, Blk.new_at (by simp [stow5]), (HQ7.out.put5 _).alloc _, (HR7.out.grown (grown5 W7 w.heap.size (fun c => q c || e2 c)) (by simp)).alloc _, by omega, HI.out.ag.next HN.out, hlt⟩
    refine ⟨⟨_, fun c => q c || e2 c, e2, rfl, Lib.hid hA⟩, ?_⟩
    have m1 := togo_congr (fun c hc => readP_blk hA.bq hc) (fun c hc => readP_blk hA.bg hc)
    have m2 := togo_congr (fun c hc => readP_blk HI.out.bq hc) (fun c hc => readP_blk HI.out.bg hc)
    exact Nat.lt_of_lt_of_eq (Nat.lt_of_le_of_lt (Nat.le_of_eq m1) (togo_less HNE.out (fun c hc => ((HN.out c).1 hc).2))) m2.symm
structure TimesI (x : Nd) (bs : List Nat) (base gm b cp fm cv : Nat) (V : Option Addr) (w W : World) (a : Nat) (q s : Nat → Bool) : Prop where
 mw : MW x bs base gm b cp fm cv V w W
 bq : Blk W w.heap.size 69 #[.int .u64 (word q 0), .int .u64 (word q 1), .int .u64 (word q 2), .int .u64 (word q 3), .int .u64 (word q 4)]
 br : Blk W (w.heap.size + 1) 69 #[.int .u64 0, .int .u64 0, .int .u64 0, .int .u64 0, .int .u64 0]
 ba : Blk W a 69 #[.int .u64 (word s 0), .int .u64 (word s 1), .int .u64 (word s 2), .int .u64 (word s 3), .int .u64 (word s 4)]
 far : w.heap.size + 2 ≤ a
 lt : fm < w.heap.size
theorem TimesI.call {x : Nd} {bs : List Nat} {base gm b cp fm cv a : Nat} {V : Option Addr} {w W W' : World} {q s : Nat → Bool} (h : TimesI x bs base gm b cp fm cv V w W a q s) (hm : MatAt W' x bs base gm b cp fm V cv) (hg : W.grownBy W' (some fm)) : TimesI x bs base gm b cp fm cv V w W' a q s :=
 ⟨h.mw.call hm hg, h.bq.past hg h.lt, h.br.past hg (by have := h.lt; omega), h.ba.past hg (by have := h.lt; have := h.far; omega), h.far, h.lt⟩
theorem TimesI.below {x : Nd} {bs : List Nat} {base gm b cp fm cv a : Nat} {V : Option Addr} {w W W' : World} {q s : Nat → Bool} (h : TimesI x bs base gm b cp fm cv V w W a q s) (hb : Below W.heap.size W W') : TimesI x bs base gm b cp fm cv V w W' a q s :=
 ⟨h.mw.below hb, h.bq.below hb h.bq.lt, h.br.below hb h.br.lt, h.ba.below hb h.ba.lt, h.far, h.lt⟩
theorem TimesI.alloc {x : Nd} {bs : List Nat} {base gm b cp fm cv a : Nat} {V : Option Addr} {w W : World} {q s : Nat → Bool} (h : TimesI x bs base gm b cp fm cv V w W a q s) (o : Obj) : TimesI x bs base gm b cp fm cv V w (W.alloc o) a q s := h.below ((Below.refl _ _).alloc (Nat.le_refl _) _)
theorem TimesI.putq {x : Nd} {bs : List Nat} {base gm b cp fm cv a : Nat} {V : Option Addr} {w W : World} {q s : Nat → Bool} (hM : MatAt w x bs base gm b cp fm V cv) (h : TimesI x bs base gm b cp fm cv V w W a q s) (q' : Nat → Bool) : TimesI x bs base gm b cp fm cv V w (stow5 W w.heap.size q') a q' s :=
 have g5 := grown5 W w.heap.size q'
 have := h.far
 ⟨h.mw.stow hM (Nat.le_refl _) q', h.bq.put5 q', h.br.grown g5 (by simp), h.ba.grown g5 (by simp; omega), h.far, h.lt⟩
theorem TimesI.puts {x : Nd} {bs : List Nat} {base gm b cp fm cv a : Nat} {V : Option Addr} {w W : World} {q s : Nat → Bool} (hM : MatAt w x bs base gm b cp fm V cv) (h : TimesI x bs base gm b cp fm cv V w W a q s) (s' : Nat → Bool) : TimesI x bs base gm b cp fm cv V w (stow5 W a s') a q s' :=
 have g5 := grown5 W a s'
 have := h.far
 ⟨h.mw.stow hM (by omega) s', h.bq.grown g5 (by simp; omega), h.br.grown g5 (by simp; omega), h.ba.put5 s', h.far, h.lt⟩
theorem times11_go {x : Nd} {bs : List Nat} {z : Nd} (hE : EachC x bs z) {base gm b cp fm cv : Nat} {V : Option Addr} (w : World) (hM : MatAt w x bs base gm b cp fm V cv) (k : Nat) (p : Nat → Bool) (lo : Nat) (hi : Int) (hlo : lo ≤ 1000000) (hhi : hi ≤ 1000000) (hh : hi < 0 ∨ (lo : Int) ≤ hi) (hmn : -9000000000000000000 ≤ hi) (hk : Below1 x.nodes k z) (hp : ∀ c, p c = true → c ≤ bs.length) :
  Calls Tryz.prog 189 #[.pointer (some ⟨gm, 0, none⟩), .int .i64 (k : Int), .agg #[.int .u64 (word p 0), .int .u64 (word p 1), .int .u64 (word p 2), .int .u64 (word p 3), .int .u64 (word p 4)], .int .i64 (lo : Int), .int .i64 hi] w fun e w' => e = .returned (.agg #[.int .u64 ((word (imgB (repR (lo : Int) hi (z.rel bs)) p) 0 : Nat) : Int), .int .u64 ((word (imgB (repR (lo : Int) hi (z.rel bs)) p) 1 : Nat) : Int), .int .u64 ((word (imgB (repR (lo : Int) hi (z.rel bs)) p) 2 : Nat) : Int), .int .u64 ((word (imgB (repR (lo : Int) hi (z.rel bs)) p) 3 : Nat) : Int), .int .u64 ((word (imgB (repR (lo : Int) hi (z.rel bs)) p) 4 : Nat) : Int)]) ∧ MatAt w' x bs base gm b cp fm V cv ∧ w.grownBy w' (some fm) := by
 obtain ⟨W0, hW0⟩ : ∃ W0, (w.alloc (.cells #[.int .u64 (word p 0), .int .u64 (word p 1), .int .u64 (word p 2), .int .u64 (word p 3), .int .u64 (word p 4)] 69)).alloc (.cells #[.int .u64 0, .int .u64 0, .int .u64 0, .int .u64 0, .int .u64 0] 69) = W0 := ⟨_, rfl⟩
 have HM := Lib.hid hM
 have hlt := hM.memo.lt
 have HW0 := Lib.hid (show MW x bs base gm b cp fm cv V w W0 from by rw [← hW0]; exact ((MW.refl hM).alloc _).alloc _)
 have HB0 := Lib.hid (show Blk W0 w.heap.size 69 #[.int .u64 (word p 0), .int .u64 (word p 1), .int .u64 (word p 2), .int .u64 (word p 3), .int .u64 (word p 4)] from by rw [← hW0]; exact (Blk.new _ _ _).alloc _)
 have HR0 := Lib.hid (show Blk W0 (w.heap.size + 1) 69 #[.int .u64 0, .int .u64 0, .int .u64 0, .int .u64 0, .int .u64 0] from by rw [← hW0]; exact Blk.new_at (by simp))
 have HE := Lib.hid hE
 have HKB := Lib.hid hk
 have HP := Lib.hid hp
 have HLN := Lib.hid hM.len
 have HJ := Lib.hid (just_go hE W0 HW0.out.mat k p lo (by omega) hk hp)
 obtain ⟨c0, c1, c2, c3, c4⟩ := HB0.out.c5w
 have lb := HB0.out.lt
 clear hM hE hk hp
 go_enter Tryz.func189, Tryz.ntmps189
 go_wp2_with fail
 refine HJ.out.mono ?_
 rintro e W1 ⟨rfl, hm1, hg1⟩
 have HW1 := Lib.hid (HW0.out.call hm1 hg1)
 have HB1 := Lib.hid (HB0.out.past hg1 hlt)
 have HR1 := Lib.hid (HR0.out.past hg1 (by omega))
 clear hm1 hg1 HJ HW0 HB0 HR0 hW0 c0 c1 c2 c3 c4
 have hp1 := Lib.hid (img_it (z := z) HP.out lo)
 obtain ⟨c0, c1, c2, c3, c4⟩ := HB1.out.c5w
 obtain ⟨f0, f1, f2, f3, f4⟩ := HB1.out.f5w
 dsimp only
 by_cases hneg : hi < 0
 ·have hd : decide (hi < 0) = true := by simpa using hneg
  have HRe := Lib.hid (show imgB (repR (lo : Int) hi (z.rel bs)) p = imgB (starR (z.rel bs)) (imgB (itR (z.rel bs) lo) p) from by
   rw [imgB_comp]
   exact imgB_congr (rep_endless (z.rel bs) lo hi hneg) p)
  have HF := Lib.hid (HW1.out.stow HM.out (g := w.heap.size) (Nat.le_refl _) (imgB (itR (z.rel bs) lo) p))
  have HBF := Lib.hid (HB1.out.put5 (imgB (itR (z.rel bs) lo) p))
  have HRF := Lib.hid (HR1.out.grown (grown5 W1 w.heap.size (imgB (itR (z.rel bs) lo) p)) (by simp))
  go_wp2_with fail
  refine (again_go HE.out (stow5 W1 w.heap.size (imgB (itR (z.rel bs) lo) p)) HF.out.mat k _ HKB.out hp1.out).mono ?_
  rintro e W2 ⟨rfl, hm2, hg2⟩
  have HW2 := Lib.hid (HF.out.call hm2 hg2)
  have HR2 := Lib.hid (HRF.out.past hg2 (by omega))
  clear hm2 hg2 HF HBF HRF HW1 HB1 HR1 c0 c1 c2 c3 c4 f0 f1 f2 f3 f4
  obtain ⟨c0, c1, c2, c3, c4⟩ := HR2.out.c5w
  obtain ⟨f0, f1, f2, f3, f4⟩ := HR2.out.f5w
  dsimp only
  generalize hq : imgB (starR (z.rel bs)) (imgB (itR (z.rel bs) lo) p) = q at *
  go_wp2
  refine bodyPost_ret (ret_pl Tryz.results189 rfl (HR2.out.put5 q)) rfl ?_
  have hF := HW2.out.stow HM.out (g := w.heap.size + 1) (by omega) q
  exact ⟨by rw [HRe.out], hF.mat, hF.grown⟩
 ·have hd : decide (hi < 0) = false := by simpa using hneg
  obtain ⟨h, rfl⟩ : ∃ h : Nat, hi = (h : Int) := ⟨hi.toNat, by omega⟩
  have hlh : lo ≤ h := by omega
  have hh6 : h ≤ 1000000 := by omega
  have HRe := Lib.hid (show imgB (repR (lo : Int) (h : Int) (z.rel bs)) p = imgB (betweenR (z.rel bs) lo h) p from imgB_congr (rep_between (z.rel bs) lo h) p)
  obtain ⟨W2, hW2⟩ : ∃ W2, (stow5 W1 w.heap.size (imgB (itR (z.rel bs) lo) p)).alloc (.cells #[.int .u64 ((word (imgB (itR (z.rel bs) lo) p) 0 : Nat) : Int), .int .u64 ((word (imgB (itR (z.rel bs) lo) p) 1 : Nat) : Int), .int .u64 ((word (imgB (itR (z.rel bs) lo) p) 2 : Nat) : Int), .int .u64 ((word (imgB (itR (z.rel bs) lo) p) 3 : Nat) : Int), .int .u64 ((word (imgB (itR (z.rel bs) lo) p) 4 : Nat) : Int)] 69) = W2 := ⟨_, rfl⟩
  have hsz : (stow5 W1 w.heap.size (imgB (itR (z.rel bs) lo) p)).heap.size = W1.heap.size := by simp [stow5]
  have hlw : w.heap.size + 2 ≤ W1.heap.size := by have := HR1.out.lt; omega
  have HT0 := Lib.hid (show TimesI x bs base gm b cp fm cv V w W2 W1.heap.size (imgB (itR (z.rel bs) lo) p) (imgB (betweenR (z.rel bs) lo lo) p) from by
   rw [← hW2, between_one]
   exact ⟨(HW1.out.stow HM.out (g := w.heap.size) (Nat.le_refl _) _).alloc _, (HB1.out.put5 _).alloc _, (HR1.out.grown (grown5 W1 w.heap.size _) (by simp)).alloc _, Blk.new_at hsz.symm, hlw, hlt⟩)
  unfold stow5 at hW2
  clear hsz hneg HW1 HB1 HR1 hh hhi hmn
  go_wp2
  generalize W1.heap.size = a at *
  go_loopw [12] (fun v wr => ∃ j : Nat, v = .int .i64 (j : Int) ∧ lo ≤ j ∧ j ≤ h ∧ Hid (TimesI x bs base gm b cp fm cv V w wr a (imgB (itR (z.rel bs) j) p) (imgB (betweenR (z.rel bs) lo j) p))) (fun v _ => h - (intOf v).toNat)
  case atStart => exact ⟨lo, rfl, Nat.le_refl _, hlh, HT0⟩
  case round =>
   clear HT0
   obtain ⟨j, rfl, hj1, hj2, HT⟩ := hrel
   obtain ⟨d0, d1, d2, d3, d4⟩ := HT.out.bq.c5w
   obtain ⟨a0, a1, a2, a3, a4⟩ := HT.out.ba.c5w
   have lb2 := HT.out.bq.lt
   have la := HT.out.ba.lt
   have lr := HT.out.br.lt
   have hfar := HT.out.far
   have hpj := Lib.hid (img_it (z := z) HP.out j)
   have hpj1 := Lib.hid (img_it (z := z) HP.out (j + 1))
   by_cases hjh : j = h
   ·subst hjh
    obtain ⟨r0, r1, r2, r3, r4⟩ := HT.out.br.c5w
    obtain ⟨e0, e1, e2, e3, e4⟩ := HT.out.br.f5w
    go_wp2
    refine bodyPost_ret (ret_pl Tryz.results189 rfl (HT.out.br.put5 (imgB (betweenR (z.rel bs) lo j) p))) rfl ?_
    have hF := HT.out.mw.stow HM.out (g := w.heap.size + 1) (by omega) (imgB (betweenR (z.rel bs) lo j) p)
    exact ⟨by rw [HRe.out], hF.mat, hF.grown⟩
   ·have hdl : (j : Int) < (h : Int) := by omega
    cases hsm : sameB (imgB (itR (z.rel bs) j) p) (fun _ => false) with
    | true =>
     have HFX := Lib.hid (show imgB (betweenR (z.rel bs) lo j) p = imgB (betweenR (z.rel bs) lo h) p from by
      have h1 := (sameB_iff (fun c hc => by have := hpj.out c hc; have := HLN.out; omega) (fun c hc => by cases hc)).1 hsm
      exact between_fix hj1 hj2 (by rw [h1]; exact funext (imgB_none (fun _ => rfl))))
     obtain ⟨r0, r1, r2, r3, r4⟩ := HT.out.br.c5w
     obtain ⟨e0, e1, e2, e3, e4⟩ := HT.out.br.f5w
     go_wp2
     refine bodyPost_ret (ret_pl Tryz.results189 rfl (HT.out.br.put5 (imgB (betweenR (z.rel bs) lo j) p))) rfl ?_
     have hF := HT.out.mw.stow HM.out (g := w.heap.size + 1) (by omega) (imgB (betweenR (z.rel bs) lo j) p)
     exact ⟨by rw [HRe.out, ← HFX.out], hF.mat, hF.grown⟩
    | false =>
     have HC := Lib.hid (HE.out base gm b cp fm cv V wr HT.out.mw.mat k (imgB (itR (z.rel bs) j) p) HKB.out hpj.out)
     rw [imgB_next] at HC
     go_wp2_with fail
     refine HC.out.mono ?_
     rintro e w4 ⟨rfl, hm4, hg4⟩
     have HT4 := Lib.hid (HT.out.call hm4 hg4)
     clear hm4 hg4 HC HT d0 d1 d2 d3 d4 a0 a1 a2 a3 a4 lb2 la lr hsm
     obtain ⟨d0, d1, d2, d3, d4⟩ := HT4.out.bq.c5w
     obtain ⟨a0, a1, a2, a3, a4⟩ := HT4.out.ba.c5w
     have lb2 := HT4.out.bq.lt
     have la := HT4.out.ba.lt
     have lr := HT4.out.br.lt
     have hne1 : w.heap.size ≠ w4.heap.size := by omega
     have hne2 : a ≠ w4.heap.size := by omega
     dsimp only
     cases hsm : sameB (imgB (itR (z.rel bs) (j + 1)) p) (imgB (itR (z.rel bs) j) p) with
     | true =>
      have HFX := Lib.hid (show imgB (betweenR (z.rel bs) lo j) p = imgB (betweenR (z.rel bs) lo h) p from by
       have h1 := (sameB_iff (fun c hc => by have := hpj1.out c hc; have := HLN.out; omega) (fun c hc => by have := hpj.out c hc; have := HLN.out; omega)).1 hsm
       exact between_fix hj1 hj2 (by rw [imgB_next]; exact h1))
      obtain ⟨r0, r1, r2, r3, r4⟩ := HT4.out.br.c5w
      obtain ⟨e0, e1, e2, e3, e4⟩ := HT4.out.br.f5w
      go_wp2
      refine bodyPost_ret (ret_pl Tryz.results189 rfl ((HT4.out.br.put5 (imgB (betweenR (z.rel bs) lo j) p)).alloc _)) rfl ?_
      have hF := (HT4.out.mw.stow HM.out (g := w.heap.size + 1) (by omega) (imgB (betweenR (z.rel bs) lo j) p)).alloc (.cells #[.int .u64 ((word (imgB (itR (z.rel bs) (j + 1)) p) 0 : Nat) : Int), .int .u64 ((word (imgB (itR (z.rel bs) (j + 1)) p) 1 : Nat) : Int), .int .u64 ((word (imgB (itR (z.rel bs) (j + 1)) p) 2 : Nat) : Int), .int .u64 ((word (imgB (itR (z.rel bs) (j + 1)) p) 3 : Nat) : Int), .int .u64 ((word (imgB (itR (z.rel bs) (j + 1)) p) 4 : Nat) : Int)] 69)
      exact ⟨by rw [HRe.out, ← HFX.out], hF.mat, hF.grown⟩
     | false =>
      obtain ⟨f0, f1, f2, f3, f4⟩ := HT4.out.bq.f5w
      obtain ⟨W5, hW5⟩ : ∃ W5, (stow5 w4 w.heap.size (imgB (itR (z.rel bs) (j + 1)) p)).alloc (.cells #[.int .u64 ((word (imgB (itR (z.rel bs) (j + 1)) p) 0 : Nat) : Int), .int .u64 ((word (imgB (itR (z.rel bs) (j + 1)) p) 1 : Nat) : Int), .int .u64 ((word (imgB (itR (z.rel bs) (j + 1)) p) 2 : Nat) : Int), .int .u64 ((word (imgB (itR (z.rel bs) (j + 1)) p) 3 : Nat) : Int), .int .u64 ((word (imgB (itR (z.rel bs) (j + 1)) p) 4 : Nat) : Int)] 69) = W5 := ⟨_, rfl⟩
      have HT5 := Lib.hid (show TimesI x bs base gm b cp fm cv V w W5 a (imgB (itR (z.rel bs) (j + 1)) p) (imgB (betweenR (z.rel bs) lo j) p) from by
       rw [← hW5]
       exact (HT4.out.putq HM.out _).alloc _)
      unfold stow5 at hW5
      obtain ⟨b0, b1, b2, b3, b4⟩ := HT5.out.bq.c5w
      obtain ⟨g0, g1, g2, g3, g4⟩ := HT5.out.ba.c5w
      go_wp2_with fail
      refine (pwith_go (imgB (betweenR (z.rel bs) lo j) p) (imgB (itR (z.rel bs) (j + 1)) p) _).mono ?_
      rintro _ W6 ⟨rfl, hb6⟩
      have HT6 := Lib.hid (HT5.out.below hb6)
      rw [between_more hj1]
      clear hb6 HT5 HT4 hW5 b0 b1 b2 b3 b4 g0 g1 g2 g3 g4 d0 d1 d2 d3 d4 a0 a1 a2 a3 a4 f0 f1 f2 f3 f4 lb2 la lr hsm
      obtain ⟨g0, g1, g2, g3, g4⟩ := HT6.out.ba.c5w
      obtain ⟨f0, f1, f2, f3, f4⟩ := HT6.out.ba.f5w
      have la := HT6.out.ba.lt
      have hwj : IntKind.i64.wrap ((j : Int) + 1) = (j : Int) + 1 := by rw [IntKind.wrap_i64]; omega
      dsimp only
      go_wp2
      refine ⟨⟨j + 1, by rw [show ((j + 1 : Nat) : Int) = (j : Int) + 1 by omega], by omega, by omega, ?_⟩, ?_⟩
      ·exact Lib.hid (HT6.out.puts HM.out (imgB (betweenR (z.rel bs) lo (j + 1)) p))
      ·simp [intOf]; omega
theorem shas11_go (p : Nat → Bool) (c : Nat) (w : World) (h1 : c < 256) :
  Calls Tryz.prog 50 #[.agg #[.int .u64 (word p 0), .int .u64 (word p 1), .int .u64 (word p 2), .int .u64 (word p 3)], .int .u8 (c : Int)] w fun e w' => e = .returned (.bool (p c)) ∧ Below w.heap.size w w' := by
 have h63 : bits .and .u8 (c : Int) 63 = ((c : Int) % 64) := by
  have h63 : (BitVec.ofInt 8 63).toNat = 2 ^ 6 - 1 := by decide
  have key : (BitVec.ofInt 8 (c : Int) &&& BitVec.ofInt 8 63).toNat = ((c : Int) % ((2 ^ 8 : Nat) : Int)).toNat % 2 ^ 6 := by
   rw [BitVec.toNat_and, BitVec.toNat_ofInt, h63, Nat.and_two_pow_sub_one_eq_mod]
  show IntKind.u8.wrap ((BitVec.ofInt 8 (c : Int) &&& BitVec.ofInt 8 63).toNat : Nat) = (c : Int) % 64
  rw [key, IntKind.wrap_u8]
  omega
 have hm0 : 0 ≤ (c : Int) % 64 := by omega
 have hm1 : (c : Int) % 64 < 64 := by omega
 have h0 : (0 : Int) ≤ (c : Int) := by omega
 obtain hq | hq | hq | hq : (c : Int) / 64 = 0 ∨ (c : Int) / 64 = 1 ∨ (c : Int) / 64 = 2 ∨ (c : Int) / 64 = 3 := by omega
 ·have hB := has_bit p (c : Int) 0 h0 hq
  rw [Int.toNat_natCast] at hB
  go_enter Tryz.func50, Tryz.ntmps50
  go_wp2
  go_light
  go_ret
  exact ⟨ret_b hB, (Below.refl _ _).alloc (Nat.le_refl _) _⟩
 ·have hB := has_bit p (c : Int) 1 h0 hq
  rw [Int.toNat_natCast] at hB
  go_enter Tryz.func50, Tryz.ntmps50
  go_wp2
  go_light
  go_ret
  exact ⟨ret_b hB, (Below.refl _ _).alloc (Nat.le_refl _) _⟩
 ·have hB := has_bit p (c : Int) 2 h0 hq
  rw [Int.toNat_natCast] at hB
  go_enter Tryz.func50, Tryz.ntmps50
  go_wp2
  go_light
  go_ret
  exact ⟨ret_b hB, (Below.refl _ _).alloc (Nat.le_refl _) _⟩
 ·have hB := has_bit p (c : Int) 3 h0 hq
  rw [Int.toNat_natCast] at hB
  go_enter Tryz.func50, Tryz.ntmps50
  go_wp2
  go_light
  go_ret
  exact ⟨ret_b hB, (Below.refl _ _).alloc (Nat.le_refl _) _⟩
def LookC (x : Nd) (bs : List Nat) (z : Nd) : Prop := ∀ (base gm b cp fm cv : Nat) (V : Option Addr) (w : World), MatAt w x bs base gm b cp fm V cv → ∀ (k i : Nat) (B A : Option Addr) (n1 c1 c2 : Nat), Below1 x.nodes k z → i ≤ bs.length → IntsAt w A (kidNums (k + 1) z.kids.list) → z.kids.len ≤ c2 →
 Calls Tryz.prog 155 #[.pointer (some ⟨gm, 0, none⟩), .agg #[.int .i64 (z.kind), .int .u64 (word z.set.testBit 0), .int .u64 (word z.set.testBit 1), .int .u64 (word z.set.testBit 2), .int .u64 (word z.set.testBit 3), .slice B n1 c1, .int .i64 z.lo, .int .i64 z.hi, .slice A (z.kids.len) c2], .int .i64 (i : Int)] w fun e w' => e = .returned (.agg #[.int .u64 (word (endsB z bs i) 0), .int .u64 (word (endsB z bs i) 1), .int .u64 (word (endsB z bs i) 2), .int .u64 (word (endsB z bs i) 3), .int .u64 (word (endsB z bs i) 4)]) ∧ MatAt w' x bs base gm b cp fm V cv ∧ w.grownBy w' (some fm)
structure LookI (x : Nd) (bs : List Nat) (base gm b cp fm cv : Nat) (V : Option Addr) (w W : World) (cs : Array Value) (q : Nat → Bool) : Prop where
 mw : MW x bs base gm b cp fm cv V w W
 bx : Blk W w.heap.size 172 cs
 br : Blk W (w.heap.size + 1) 69 #[.int .u64 0, .int .u64 0, .int .u64 0, .int .u64 0, .int .u64 0]
 bp : Blk W (w.heap.size + 2) 69 #[.int .u64 (word q 0), .int .u64 (word q 1), .int .u64 (word q 2), .int .u64 (word q 3), .int .u64 (word q 4)]
 lt : fm < w.heap.size
theorem LookI.call {x : Nd} {bs : List Nat} {base gm b cp fm cv : Nat} {V : Option Addr} {w W W' : World} {cs : Array Value} {q : Nat → Bool} (h : LookI x bs base gm b cp fm cv V w W cs q) (hm : MatAt W' x bs base gm b cp fm V cv) (hg : W.grownBy W' (some fm)) : LookI x bs base gm b cp fm cv V w W' cs q :=
 ⟨h.mw.call hm hg, h.bx.past hg h.lt, h.br.past hg (by have := h.lt; omega), h.bp.past hg (by have := h.lt; omega), h.lt⟩
theorem LookI.below {x : Nd} {bs : List Nat} {base gm b cp fm cv : Nat} {V : Option Addr} {w W W' : World} {cs : Array Value} {q : Nat → Bool} (h : LookI x bs base gm b cp fm cv V w W cs q) (hb : Below W.heap.size W W') : LookI x bs base gm b cp fm cv V w W' cs q :=
 ⟨h.mw.below hb, h.bx.below hb h.bx.lt, h.br.below hb h.br.lt, h.bp.below hb h.bp.lt, h.lt⟩
theorem LookI.drew {x : Nd} {bs : List Nat} {base gm b cp fm cv : Nat} {V : Option Addr} {w W : World} {cs : Array Value} {q : Nat → Bool} (h : LookI x bs base gm b cp fm cv V w W cs q) : LookI x bs base gm b cp fm cv V w W.drew cs q := h.below ⟨rfl, rfl, rfl, Nat.le_refl _, fun _ _ => rfl⟩
theorem LookI.put {x : Nd} {bs : List Nat} {base gm b cp fm cv : Nat} {V : Option Addr} {w W W' : World} {cs : Array Value} {q q' : Nat → Bool} (hM : MatAt w x bs base gm b cp fm V cv) (h : LookI x bs base gm b cp fm cv V w W cs q) (hg : W.grownBy W' (some (w.heap.size + 2))) (hq : Blk W' (w.heap.size + 2) 69 #[.int .u64 (word q' 0), .int .u64 (word q' 1), .int .u64 (word q' 2), .int .u64 (word q' 3), .int .u64 (word q' 4)]) : LookI x bs base gm b cp fm cv V w W' cs q' :=
 ⟨h.mw.step hM hg (fun r e => by cases e; omega), h.bx.grown hg (by simp), h.br.grown hg (by simp), hq, h.lt⟩
theorem LookI.stow {x : Nd} {bs : List Nat} {base gm b cp fm cv : Nat} {V : Option Addr} {w W : World} {cs : Array Value} {q : Nat → Bool} (hM : MatAt w x bs base gm b cp fm V cv) (h : LookI x bs base gm b cp fm cv V w W cs q) (q' : Nat → Bool) : LookI x bs base gm b cp fm cv V w (stow5 W (w.heap.size + 2) q') cs q' :=
 h.put hM (grown5 W _ q') (h.bp.put5 q')
theorem look_made {x : Nd} {bs : List Nat} {base gm b cp fm cv : Nat} {V : Option Addr} {w W0 : World} {cs : Array Value} (hM : MatAt w x bs base gm b cp fm V cv) (h : ((w.alloc (.cells cs 172)).alloc (.cells #[.int .u64 0, .int .u64 0, .int .u64 0, .int .u64 0, .int .u64 0] 69)).alloc (.cells #[.int .u64 0, .int .u64 0, .int .u64 0, .int .u64 0, .int .u64 0] 69) = W0) : LookI x bs base gm b cp fm cv V w W0 cs (fun _ => false) := by
 rw [← h]
 refine ⟨(((MW.refl hM).alloc _).alloc _).alloc _, ((Blk.new w _ _).alloc _).alloc _, (Blk.new_at (by simp)).alloc _, ?_, hM.memo.lt⟩
 simp only [word_none]
 exact Blk.new_at (by simp)
theorem look_done {x z : Nd} {bs : List Nat} {base gm b cp fm cv : Nat} {V : Option Addr} {w W : World} {cs : Array Value} {q : Nat → Bool} {i : Nat} (hM : MatAt w x bs base gm b cp fm V cv) (h : LookI x bs base gm b cp fm cv V w W cs q) (s : Nat → Bool) (hs : endsB z bs i = s) :
  Blk (stow5 W (w.heap.size + 1) s) (w.heap.size + 1) 69 #[.int .u64 (word s 0), .int .u64 (word s 1), .int .u64 (word s 2), .int .u64 (word s 3), .int .u64 (word s 4)] ∧ (Ending.returned (.agg #[.int .u64 (word s 0), .int .u64 (word s 1), .int .u64 (word s 2), .int .u64 (word s 3), .int .u64 (word s 4)]) = .returned (.agg #[.int .u64 (word (endsB z bs i) 0), .int .u64 (word (endsB z bs i) 1), .int .u64 (word (endsB z bs i) 2), .int .u64 (word (endsB z bs i) 3), .int .u64 (word (endsB z bs i) 4)]) ∧ MatAt (stow5 W (w.heap.size + 1) s) x bs base gm b cp fm V cv ∧ w.grownBy (stow5 W (w.heap.size + 1) s) (some fm)) := by
 have := h.mw.stow hM (g := w.heap.size + 1) (by omega) s
 exact ⟨h.br.put5 s, by rw [hs], this.mat, this.grown⟩
theorem ends_empty {z : Nd} (hk : z.kind = 2) (bs : List Nat) (i : Nat) : endsB z bs i = atB i := by
 have : z.rel bs = idR := by unfold Nd.rel saysK; rw [hk, if_pos rfl]
 unfold endsB
 rw [this, imgB_id]
theorem ends_nothing {z : Nd} (hk : z.kind = 1) (bs : List Nat) (i : Nat) : endsB z bs i = fun _ => false := by
 have : z.rel bs = noR := by unfold Nd.rel saysK; rw [hk]; simp
 refine setB_ext fun c => ?_
 rw [endsB_iff, this]
 simp [noR]
theorem rel_set {z : Nd} (hk : z.kind = 3) (bs : List Nat) : z.rel bs = setR z.set bs := by unfold Nd.rel saysK; rw [hk]; simp
theorem ends_yes {z : Nd} (hk : z.kind = 3) {bs : List Nat} {i : Nat} {c : Nat} (hc : bs[i]? = some c) (h : z.set.testBit c = true) : endsB z bs i = atB (i + 1) := by
 refine setB_ext fun j => ?_
 rw [endsB_iff, rel_set hk, atB_iff]
 exact ⟨fun ⟨_, _, _, h4⟩ => h4, fun h4 => ⟨c, hc, h, h4⟩⟩
theorem ends_no {z : Nd} (hk : z.kind = 3) {bs : List Nat} {i : Nat} (h : ∀ c, bs[i]? = some c → z.set.testBit c = false) : endsB z bs i = fun _ => false := by
 refine setB_ext fun j => ?_
 rw [endsB_iff, rel_set hk]
 refine ⟨fun ⟨c, h1, h2, _⟩ => ?_, fun h => by cases h⟩
 rw [h c h1] at h2
 cases h2
theorem look_empty {x z : Nd} {bs : List Nat} (hk : z.kind = 2) : LookC x bs z := by
 intro base gm b cp fm cv V w hM k i B A n1 c1 c2 hkb hi hints hc2
 rw [hk]
 obtain ⟨W0, hW0⟩ : ∃ W0, ((w.alloc (.cells #[.int .i64 (2), .int .u64 (word z.set.testBit 0), .int .u64 (word z.set.testBit 1), .int .u64 (word z.set.testBit 2), .int .u64 (word z.set.testBit 3), .slice B n1 c1, .int .i64 z.lo, .int .i64 z.hi, .slice A (z.kids.len) c2] 172)).alloc (.cells #[.int .u64 0, .int .u64 0, .int .u64 0, .int .u64 0, .int .u64 0] 69)).alloc (.cells #[.int .u64 0, .int .u64 0, .int .u64 0, .int .u64 0, .int .u64 0] 69) = W0 := ⟨_, rfl⟩
 have HM := Lib.hid hM
 have hlen := hM.len
 have H0 := Lib.hid (look_made hM hW0)
 obtain ⟨k0, k1, k2, k3, k4, k5, k6, k7, k8⟩ : _ ∧ _ ∧ _ ∧ _ ∧ _ ∧ _ ∧ _ ∧ _ ∧ _ := ⟨H0.out.bx.cell 0, H0.out.bx.cell 1, H0.out.bx.cell 2, H0.out.bx.cell 3, H0.out.bx.cell 4, H0.out.bx.cell 5, H0.out.bx.cell 6, H0.out.bx.cell 7, H0.out.bx.cell 8⟩
 simp only [List.getElem?_toArray, List.getElem?_cons_zero, List.getElem?_cons_succ] at k0 k1 k2 k3 k4 k5 k6 k7 k8
 obtain ⟨p0, p1, p2, p3, p4⟩ := H0.out.bp.c5w
 simp only [word_none] at p0 p1 p2 p3 p4
 have HKB := Lib.hid hkb
 have HIN := Lib.hid hints
 have lx := H0.out.bx.lt
 have lp := H0.out.bp.lt
 have lr := H0.out.br.lt
 clear hM hkb hints
 go_enter Tryz.func155, Tryz.ntmps155
 go_wp2_with fail
 refine (pput_go (w.heap.size + 2) (fun _ => false) i (by omega) W0 H0.out.bp).mono ?_
 rintro _ W1 ⟨rfl, hb1, hg1⟩
 have H1 := Lib.hid (H0.out.put HM.out hg1 (show Blk W1 (w.heap.size + 2) _ #[.int .u64 (word (atB i) 0), .int .u64 (word (atB i) 1), .int .u64 (word (atB i) 2), .int .u64 (word (atB i) 3), .int .u64 (word (atB i) 4)] from hb1))
 clear hb1 hg1 p0 p1 p2 p3 p4 H0 hW0 k0 k1 k2 k3 k4 k5 k6 k7 k8
 obtain ⟨p0, p1, p2, p3, p4⟩ := H1.out.bp.c5w
 obtain ⟨r0, r1, r2, r3, r4⟩ := H1.out.br.c5w
 obtain ⟨f0, f1, f2, f3, f4⟩ := H1.out.br.f5w
 dsimp only
 go_wp2
 obtain ⟨e1, e2⟩ := look_done HM.out H1.out (atB i) (ends_empty hk bs i)
 exact bodyPost_ret (ret_pl Tryz.results155 rfl e1) rfl e2
theorem look_nothing {x z : Nd} {bs : List Nat} (hk : z.kind = 1) : LookC x bs z := by
 intro base gm b cp fm cv V w hM k i B A n1 c1 c2 hkb hi hints hc2
 rw [hk]
 obtain ⟨W0, hW0⟩ : ∃ W0, ((w.alloc (.cells #[.int .i64 (1), .int .u64 (word z.set.testBit 0), .int .u64 (word z.set.testBit 1), .int .u64 (word z.set.testBit 2), .int .u64 (word z.set.testBit 3), .slice B n1 c1, .int .i64 z.lo, .int .i64 z.hi, .slice A (z.kids.len) c2] 172)).alloc (.cells #[.int .u64 0, .int .u64 0, .int .u64 0, .int .u64 0, .int .u64 0] 69)).alloc (.cells #[.int .u64 0, .int .u64 0, .int .u64 0, .int .u64 0, .int .u64 0] 69) = W0 := ⟨_, rfl⟩
 have HM := Lib.hid hM
 have hlen := hM.len
 have H0 := Lib.hid (look_made hM hW0)
 obtain ⟨k0, k1, k2, k3, k4, k5, k6, k7, k8⟩ : _ ∧ _ ∧ _ ∧ _ ∧ _ ∧ _ ∧ _ ∧ _ ∧ _ := ⟨H0.out.bx.cell 0, H0.out.bx.cell 1, H0.out.bx.cell 2, H0.out.bx.cell 3, H0.out.bx.cell 4, H0.out.bx.cell 5, H0.out.bx.cell 6, H0.out.bx.cell 7, H0.out.bx.cell 8⟩
 simp only [List.getElem?_toArray, List.getElem?_cons_zero, List.getElem?_cons_succ] at k0 k1 k2 k3 k4 k5 k6 k7 k8
 obtain ⟨p0, p1, p2, p3, p4⟩ := H0.out.bp.c5w
 simp only [word_none] at p0 p1 p2 p3 p4
 have HKB := Lib.hid hkb
 have HIN := Lib.hid hints
 have lx := H0.out.bx.lt
 have lp := H0.out.bp.lt
 have lr := H0.out.br.lt
 clear hM hkb hints
 go_enter Tryz.func155, Tryz.ntmps155
 obtain ⟨r0, r1, r2, r3, r4⟩ := H0.out.br.c5w
 obtain ⟨f0, f1, f2, f3, f4⟩ := H0.out.br.f5w
 go_wp2
 obtain ⟨e1, e2⟩ := look_done HM.out H0.out (fun _ => false) (ends_nothing hk bs i)
 simp only [word_none] at e1 e2
 have hst : stow5 W0 (w.heap.size + 1) (fun _ => false) = ((((W0.setCell ⟨w.heap.size + 1, 0, none⟩ (.int .u64 0)).setCell ⟨w.heap.size + 1, 1, none⟩ (.int .u64 0)).setCell ⟨w.heap.size + 1, 2, none⟩ (.int .u64 0)).setCell ⟨w.heap.size + 1, 3, none⟩ (.int .u64 0)).setCell ⟨w.heap.size + 1, 4, none⟩ (.int .u64 0) := by
  unfold stow5
  simp only [word_none]
  rfl
 rw [hst] at e1 e2
 exact bodyPost_ret (ret_pl Tryz.results155 rfl e1) rfl e2
end
section
open Go.RowKit Go.Maps
structure EndI (x : Nd) (bs : List Nat) (base gm b cp fm cv : Nat) (V : Option Addr) (k i : Nat) (w W : World) : Prop where
 mw : MW x bs base gm b cp fm cv V w W
 br : Blk W w.heap.size 69 #[.int .u64 0, .int .u64 0, .int .u64 0, .int .u64 0, .int .u64 0]
 bq : Blk W (w.heap.size + 1) 168 #[.int .i64 (k : Int), .int .i64 (i : Int)]
 lt : fm < w.heap.size
theorem EndI.call {x : Nd} {bs : List Nat} {base gm b cp fm cv k i : Nat} {V : Option Addr} {w W W' : World} (h : EndI x bs base gm b cp fm cv V k i w W) (hm : MatAt W' x bs base gm b cp fm V cv) (hg : W.grownBy W' (some fm)) : EndI x bs base gm b cp fm cv V k i w W' :=
 ⟨h.mw.call hm hg, h.br.past hg h.lt, h.bq.past hg (by have := h.lt; omega), h.lt⟩
theorem EndI.below {x : Nd} {bs : List Nat} {base gm b cp fm cv k i : Nat} {V : Option Addr} {w W W' : World} (h : EndI x bs base gm b cp fm cv V k i w W) (hb : Below W.heap.size W W') : EndI x bs base gm b cp fm cv V k i w W' :=
 ⟨h.mw.below hb, h.br.below hb h.br.lt, h.bq.below hb h.bq.lt, h.lt⟩
theorem end_made {x : Nd} {bs : List Nat} {base gm b cp fm cv k i : Nat} {V : Option Addr} {w W0 : World} (hM : MatAt w x bs base gm b cp fm V cv) (h : (w.alloc (.cells #[.int .u64 0, .int .u64 0, .int .u64 0, .int .u64 0, .int .u64 0] 69)).alloc (.cells #[.int .i64 (k : Int), .int .i64 (i : Int)] 168) = W0) : EndI x bs base gm b cp fm cv V k i w W0 := by
 rw [← h]
 exact ⟨((MW.refl hM).alloc _).alloc _, (Blk.new w _ _).alloc _, Blk.new_at (by simp), hM.memo.lt⟩
theorem end_done {x z : Nd} {bs : List Nat} {base gm b cp fm cv k i : Nat} {V : Option Addr} {w W : World} (hM : MatAt w x bs base gm b cp fm V cv) (h : EndI x bs base gm b cp fm cv V k i w W) (s : Nat → Bool) (hs : endsB z bs i = s) :
  Blk (stow5 W w.heap.size s) w.heap.size 69 #[.int .u64 (word s 0), .int .u64 (word s 1), .int .u64 (word s 2), .int .u64 (word s 3), .int .u64 (word s 4)] ∧ (Ending.returned (.agg #[.int .u64 (word s 0), .int .u64 (word s 1), .int .u64 (word s 2), .int .u64 (word s 3), .int .u64 (word s 4)]) = .returned (.agg #[.int .u64 (word (endsB z bs i) 0), .int .u64 (word (endsB z bs i) 1), .int .u64 (word (endsB z bs i) 2), .int .u64 (word (endsB z bs i) 3), .int .u64 (word (endsB z bs i) 4)]) ∧ MatAt (stow5 W w.heap.size s) x bs base gm b cp fm V cv ∧ w.grownBy (stow5 W w.heap.size s) (some fm)) := by
 have := h.mw.stow hM (g := w.heap.size) (Nat.le_refl _) s
 exact ⟨h.br.put5 s, by rw [hs], this.mat, this.grown⟩
theorem ends_of {x z : Nd} {bs : List Nat} (hL : LookC x bs z) : EndsC x bs z := by
 intro base gm b cp fm cv V w hM k i hkb hi
 have hlen := hM.len
 have hx := hkb.here
 have hk : k < x.size := by have := (List.getElem?_eq_some_iff.1 hx).1; rw [Nd.nodes_len] at this; exact this
 have hsm := hM.small
 have hcap := hM.cap
 obtain ⟨W0, hW0⟩ : ∃ W0, (w.alloc (.cells #[.int .u64 0, .int .u64 0, .int .u64 0, .int .u64 0, .int .u64 0] 69)).alloc (.cells #[.int .i64 (k : Int), .int .i64 (i : Int)] 168) = W0 := ⟨_, rfl⟩
 have H0 := Lib.hid (end_made hM hW0)
 have HM := Lib.hid hM
 have HKB := Lib.hid hkb
 have HL := Lib.hid hL
 have HX := Lib.hid hx
 obtain ⟨q0, q1⟩ : _ ∧ _ := ⟨H0.out.bq.cell 0, H0.out.bq.cell 1⟩
 obtain ⟨m0, m2⟩ : _ ∧ _ := ⟨H0.out.mw.mat.box.cell 0, H0.out.mw.mat.box.cell 2⟩
 simp only [List.getElem?_toArray, List.getElem?_cons_zero, List.getElem?_cons_succ] at q0 q1 m0 m2
 have lr := H0.out.br.lt
 have lq := H0.out.bq.lt
 have lg := H0.out.mw.mat.box.lt
 obtain ⟨r0, r1, r2, r3, r4⟩ := H0.out.br.c5w
 obtain ⟨f0, f1, f2, f3, f4⟩ := H0.out.br.f5w
 have hb1 : W0.heap[fm]? = W0.heap[fm]? := rfl
 rcases memo_look (z := z) H0.out.mw.mat.memo (k := k) (i := i) (by omega) (by omega) HX.out with hl | hl
 ·have hl0 := hl W0.drew rfl
  have hl1 := hl (W0.alloc (.cells #[.int .u64 0, .int .u64 0, .int .u64 0, .int .u64 0, .int .u64 0] 69)).drew (((Below.refl W0.heap.size W0).alloc (Nat.le_refl _) _).block fm H0.out.mw.mat.memo.lt)
  clear hl hM hkb hL hx hb1
  go_enter Tryz.func112, Tryz.ntmps112
  go_wp2
  go_region
  all_goals
   have H1 := Lib.hid (H0.out.below (show Below W0.heap.size W0 (W0.alloc (.cells #[.int .u64 0, .int .u64 0, .int .u64 0, .int .u64 0, .int .u64 0] 69)).drew from ((Below.refl _ _).alloc (Nat.le_refl _) _).drew))
   clear hl0 hl1 q0 q1 m0 m2 r0 r1 r2 r3 r4 f0 f1 f2 f3 f4 lr lq lg hW0
   generalize (W0.alloc (.cells #[.int .u64 0, .int .u64 0, .int .u64 0, .int .u64 0, .int .u64 0] 69)).drew = W1 at H1 ⊢
   clear H0
   obtain ⟨B, A, n1, c1, c2, k0, k1, k2, k3, k4, k5, k6, k7, k8, k9, k10⟩ := H1.out.mw.mat.parts k z HX.out
   have m0 := H1.out.mw.mat.box.cell 0
   simp only [List.getElem?_toArray, List.getElem?_cons_zero, List.getElem?_cons_succ] at m0
   have lg := H1.out.mw.mat.box.lt
   have HC := Lib.hid (HL.out base gm b cp fm cv V W1 H1.out.mw.mat k i B A n1 c1 c2 HKB.out hi k9 k10)
   have hd1 : (k : Int) < (x.size : Int) := by omega
   have hd2 : (k : Int) < (cp : Int) := by omega
   clear k9 k10
  all_goals go_wp2_with fail
  all_goals
   refine HC.out.mono ?_
   rintro _ W4 ⟨rfl, hm4, hg4⟩
   have H4 := Lib.hid (H1.out.call hm4 hg4)
   clear hm4 hg4 HC H1 k0 k1 k2 k3 k4 k5 k6 k7 k8 m0 lg hd1 hd2
   dsimp only
  all_goals go_upto_region 6 with fail
  all_goals
   have H5 := Lib.hid (H4.out.below ((Below.refl _ _).alloc (Nat.le_refl _) (.cells #[.int .u64 (word (endsB z bs i) 0), .int .u64 (word (endsB z bs i) 1), .int .u64 (word (endsB z bs i) 2), .int .u64 (word (endsB z bs i) 3), .int .u64 (word (endsB z bs i) 4)] 69)))
   have hb5 := Blk.new W4 69 #[.int .u64 (word (endsB z bs i) 0), .int .u64 (word (endsB z bs i) 1), .int .u64 (word (endsB z bs i) 2), .int .u64 (word (endsB z bs i) 3), .int .u64 (word (endsB z bs i) 4)]
   generalize hW5 : W4.alloc (.cells #[.int .u64 (word (endsB z bs i) 0), .int .u64 (word (endsB z bs i) 1), .int .u64 (word (endsB z bs i) 2), .int .u64 (word (endsB z bs i) 3), .int .u64 (word (endsB z bs i) 4)] 69) = W5 at *
   generalize hg5 : W4.heap.size = g5 at *
   have H5d := Lib.hid (H5.out.below (Below.refl _ _).drew)
   obtain ⟨W6, hr6, hm6, hg6⟩ := memo_put (z := z) (x := x) (bs := bs) H5d.out.mw.mat.memo (k := k) (i := i) (by omega) (by omega) HX.out
   obtain ⟨q0, q1⟩ : _ ∧ _ := ⟨H5d.out.bq.cell 0, H5d.out.bq.cell 1⟩
   have m2 := H5d.out.mw.mat.box.cell 2
   obtain ⟨p0, p1, p2, p3, p4⟩ := hb5.drew.c5w
   simp only [List.getElem?_toArray, List.getElem?_cons_zero, List.getElem?_cons_succ] at q0 q1 m2
   have lg := H5d.out.mw.mat.box.lt
   have lq := H5d.out.bq.lt
   have H6 := Lib.hid (H5d.out.call (H5d.out.mw.mat.grown hg6 hm6) hg6)
   have hlf : fm < g5 := by have := H4.out.lt; have := H4.out.br.lt; omega
   have hb6 := hb5.drew.past hg6 hlf
   obtain ⟨s0, s1, s2, s3, s4⟩ := hb6.c5w
   obtain ⟨r0, r1, r2, r3, r4⟩ := H6.out.br.c5w
   obtain ⟨f0, f1, f2, f3, f4⟩ := H6.out.br.f5w
   have lr := H6.out.br.lt
   have hE := end_done HM.out H6.out (endsB z bs i) rfl
   have HE := Lib.hid hE
   clear hE hm6 hg6 hb6 hb5 hlf hW5
  all_goals go_region
  all_goals go_wp2
  all_goals exact bodyPost_ret (ret_pl Tryz.results112 rfl HE.out.1) rfl ⟨rfl, HE.out.2.2⟩
 ·have hl0 := hl W0.drew rfl
  have hl1 := hl (W0.alloc (.cells #[.int .u64 0, .int .u64 0, .int .u64 0, .int .u64 0, .int .u64 0] 69)).drew (((Below.refl W0.heap.size W0).alloc (Nat.le_refl _) _).block fm H0.out.mw.mat.memo.lt)
  obtain ⟨e1, e2, e3, e4⟩ := end_done HM.out H0.out (endsB z bs i) rfl
  have HB := Lib.hid (show Below (stow5 W0 w.heap.size (endsB z bs i)).heap.size (stow5 W0 w.heap.size (endsB z bs i)) ((stow5 W0 w.heap.size (endsB z bs i)).alloc (.cells #[.int .u64 (word (endsB z bs i) 0), .int .u64 (word (endsB z bs i) 1), .int .u64 (word (endsB z bs i) 2), .int .u64 (word (endsB z bs i) 3), .int .u64 (word (endsB z bs i) 4)] 69)).drew from ((Below.refl _ _).alloc (Nat.le_refl _) _).drew)
  have hE : Blk ((stow5 W0 w.heap.size (endsB z bs i)).alloc (.cells #[.int .u64 (word (endsB z bs i) 0), .int .u64 (word (endsB z bs i) 1), .int .u64 (word (endsB z bs i) 2), .int .u64 (word (endsB z bs i) 3), .int .u64 (word (endsB z bs i) 4)] 69)).drew w.heap.size 69 #[.int .u64 (word (endsB z bs i) 0), .int .u64 (word (endsB z bs i) 1), .int .u64 (word (endsB z bs i) 2), .int .u64 (word (endsB z bs i) 3), .int .u64 (word (endsB z bs i) 4)] ∧ MatAt ((stow5 W0 w.heap.size (endsB z bs i)).alloc (.cells #[.int .u64 (word (endsB z bs i) 0), .int .u64 (word (endsB z bs i) 1), .int .u64 (word (endsB z bs i) 2), .int .u64 (word (endsB z bs i) 3), .int .u64 (word (endsB z bs i) 4)] 69)).drew x bs base gm b cp fm V cv ∧ w.grownBy ((stow5 W0 w.heap.size (endsB z bs i)).alloc (.cells #[.int .u64 (word (endsB z bs i) 0), .int .u64 (word (endsB z bs i) 1), .int .u64 (word (endsB z bs i) 2), .int .u64 (word (endsB z bs i) 3), .int .u64 (word (endsB z bs i) 4)] 69)).drew (some fm) := ⟨(Blk.alloc e1 _).drew, e3.below HB.out, grown_trans e4 (grown_below HB.out)⟩
  have HE := Lib.hid hE
  clear hl hM hkb hL hx hb1 hE e1 e2 e3 e4 HB
  go_enter Tryz.func112, Tryz.ntmps112
  go_wp2
  go_region
  all_goals go_wp2
  all_goals exact bodyPost_ret (ret_pl Tryz.results112 rfl HE.out.1) rfl ⟨rfl, HE.out.2⟩
end
section
open Go.RowKit
theorem stow_none (W : World) (g : Nat) : stow5 W g (fun _ => false) = ((((W.setCell ⟨g, 0, none⟩ (.int .u64 0)).setCell ⟨g, 1, none⟩ (.int .u64 0)).setCell ⟨g, 2, none⟩ (.int .u64 0)).setCell ⟨g, 3, none⟩ (.int .u64 0)).setCell ⟨g, 4, none⟩ (.int .u64 0) := by
 unfold stow5
 simp only [word_none]
 rfl
theorem look_zero {x z : Nd} {bs : List Nat} {base gm b cp fm cv : Nat} {V : Option Addr} {w W : World} {cs : Array Value} {q : Nat → Bool} {i : Nat} (hM : MatAt w x bs base gm b cp fm V cv) (h : LookI x bs base gm b cp fm cv V w W cs q) (hs : endsB z bs i = fun _ => false) :
  Blk (((((W.setCell ⟨w.heap.size + 1, 0, none⟩ (.int .u64 0)).setCell ⟨w.heap.size + 1, 1, none⟩ (.int .u64 0)).setCell ⟨w.heap.size + 1, 2, none⟩ (.int .u64 0)).setCell ⟨w.heap.size + 1, 3, none⟩ (.int .u64 0)).setCell ⟨w.heap.size + 1, 4, none⟩ (.int .u64 0)) (w.heap.size + 1) 69 #[.int .u64 0, .int .u64 0, .int .u64 0, .int .u64 0, .int .u64 0] ∧ (Ending.returned (.agg #[.int .u64 0, .int .u64 0, .int .u64 0, .int .u64 0, .int .u64 0]) = .returned (.agg #[.int .u64 (word (endsB z bs i) 0), .int .u64 (word (endsB z bs i) 1), .int .u64 (word (endsB z bs i) 2), .int .u64 (word (endsB z bs i) 3), .int .u64 (word (endsB z bs i) 4)]) ∧ MatAt (((((W.setCell ⟨w.heap.size + 1, 0, none⟩ (.int .u64 0)).setCell ⟨w.heap.size + 1, 1, none⟩ (.int .u64 0)).setCell ⟨w.heap.size + 1, 2, none⟩ (.int .u64 0)).setCell ⟨w.heap.size + 1, 3, none⟩ (.int .u64 0)).setCell ⟨w.heap.size + 1, 4, none⟩ (.int .u64 0)) x bs base gm b cp fm V cv ∧ w.grownBy (((((W.setCell ⟨w.heap.size + 1, 0, none⟩ (.int .u64 0)).setCell ⟨w.heap.size + 1, 1, none⟩ (.int .u64 0)).setCell ⟨w.heap.size + 1, 2, none⟩ (.int .u64 0)).setCell ⟨w.heap.size + 1, 3, none⟩ (.int .u64 0)).setCell ⟨w.heap.size + 1, 4, none⟩ (.int .u64 0)) (some fm)) := by
 obtain ⟨e1, e2⟩ := look_done (z := z) (i := i) hM h (fun _ => false) hs
 rw [stow_none] at e1 e2
 simp only [word_none] at e1 e2
 exact ⟨e1, e2⟩
theorem look_set {x z : Nd} {bs : List Nat} (hk : z.kind = 3) : LookC x bs z := by
 intro base gm b cp fm cv V w hM k i B A n1 c1 c2 hkb hi hints hc2
 rw [hk]
 obtain ⟨W0, hW0⟩ : ∃ W0, ((w.alloc (.cells #[.int .i64 (3), .int .u64 (word z.set.testBit 0), .int .u64 (word z.set.testBit 1), .int .u64 (word z.set.testBit 2), .int .u64 (word z.set.testBit 3), .slice B n1 c1, .int .i64 z.lo, .int .i64 z.hi, .slice A (z.kids.len) c2] 172)).alloc (.cells #[.int .u64 0, .int .u64 0, .int .u64 0, .int .u64 0, .int .u64 0] 69)).alloc (.cells #[.int .u64 0, .int .u64 0, .int .u64 0, .int .u64 0, .int .u64 0] 69) = W0 := ⟨_, rfl⟩
 have HM := Lib.hid hM
 have hlen := hM.len
 have H0 := Lib.hid (look_made hM hW0)
 obtain ⟨k0, k1, k2, k3, k4, k5, k6, k7, k8⟩ : _ ∧ _ ∧ _ ∧ _ ∧ _ ∧ _ ∧ _ ∧ _ ∧ _ := ⟨H0.out.bx.cell 0, H0.out.bx.cell 1, H0.out.bx.cell 2, H0.out.bx.cell 3, H0.out.bx.cell 4, H0.out.bx.cell 5, H0.out.bx.cell 6, H0.out.bx.cell 7, H0.out.bx.cell 8⟩
 simp only [List.getElem?_toArray, List.getElem?_cons_zero, List.getElem?_cons_succ] at k0 k1 k2 k3 k4 k5 k6 k7 k8
 obtain ⟨p0, p1, p2, p3, p4⟩ := H0.out.bp.c5w
 simp only [word_none] at p0 p1 p2 p3 p4
 have HKB := Lib.hid hkb
 have HIN := Lib.hid hints
 have lx := H0.out.bx.lt
 have lp := H0.out.bp.lt
 have lr := H0.out.br.lt
 clear hM hkb hints
 go_enter Tryz.func155, Tryz.ntmps155
 have g1 := H0.out.mw.mat.box.cell 1
 simp only [List.getElem?_toArray, List.getElem?_cons_zero, List.getElem?_cons_succ] at g1
 have lg := H0.out.mw.mat.box.lt
 have HD := Lib.hid H0.out.drew
 by_cases hil : i < bs.length
 ·obtain ⟨c, hc⟩ : ∃ c, bs[i]? = some c := ⟨_, List.getElem?_eq_getElem hil⟩
  obtain ⟨hb256, _, hbw⟩ := H0.out.mw.mat.word
  obtain ⟨b', o', rfl, _, hbc⟩ := hbw (by omega)
  have hcell := hbc i hil
  have hbi : byteAt bs i = c := by unfold byteAt; simp [hc]
  have hc256 := hb256 c (List.mem_of_getElem? hc)
  rw [hbi] at hcell
  have lbw : b' < W0.heap.size := World.block_lt_of_cell? W0 _ hcell
  clear hb256 hbw hbc hbi
  have HC := Lib.hid hc
  have hd : decide ((i : Int) < (bs.length : Int)) = true := by simp; omega
  have hd1 : (i : Int) < (bs.length : Int) := by omega
  have HS := Lib.hid (shas11_go z.set.testBit c W0.drew hc256)
  clear hc
  go_wp2
  go_region_held3 (fun w' => (∀ b o, b < W0.heap.size → w'.cell? ⟨b, o, none⟩ = W0.cell? ⟨b, o, none⟩) ∧ Since W0.heap.size W0 w') (first | exact since_start (Nat.le_refl _) | exact since_step (by assumption) (by assumption))
   (first | (go_at_call 50; refine (shas11_go z.set.testBit c _ hc256).mono ?_; rintro _ w' ⟨rfl, hb'⟩))
  rename_i hS
  have H1 := Lib.hid (H0.out.below hS.2.1)
  clear hS p0 p1 p2 p3 p4 H0 hW0 k0 k1 k2 k3 k4 k5 k6 k7 k8 HD lx lp lr hcell lbw g1 lg
  cases hm : z.set.testBit c with
  | true =>
   have HE := Lib.hid (ends_yes hk HC.out hm)
   have hwi : IntKind.i64.wrap ((i : Int) + 1) = ((i + 1 : Nat) : Int) := by rw [IntKind.wrap_i64]; omega
   have H1p := Lib.hid (pput_go (w.heap.size + 2) (fun _ => false) (i + 1) (by omega) w' H1.out.bp)
   try simp only [hm]
   rw [show ((i + 1 : Nat) : Int) = (i : Int) + 1 by omega] at H1p hwi
   go_wp2_with fail
   refine H1p.out.mono ?_
   rintro _ W2 ⟨rfl, hb2, hg2⟩
   have H2 := Lib.hid (H1.out.put HM.out hg2 (show Blk W2 (w.heap.size + 2) _ #[.int .u64 ((word (atB (i + 1)) 0 : Nat) : Int), .int .u64 ((word (atB (i + 1)) 1 : Nat) : Int), .int .u64 ((word (atB (i + 1)) 2 : Nat) : Int), .int .u64 ((word (atB (i + 1)) 3 : Nat) : Int), .int .u64 ((word (atB (i + 1)) 4 : Nat) : Int)] from hb2))
   clear hb2 hg2 H1p H1
   obtain ⟨p0, p1, p2, p3, p4⟩ := H2.out.bp.c5w
   obtain ⟨r0, r1, r2, r3, r4⟩ := H2.out.br.c5w
   obtain ⟨f0, f1, f2, f3, f4⟩ := H2.out.br.f5w
   dsimp only
   go_wp2
   obtain ⟨e1, e2⟩ := look_done HM.out H2.out (atB (i + 1)) HE.out
   exact bodyPost_ret (ret_pl Tryz.results155 rfl e1) rfl e2
  | false =>
   have HE := Lib.hid (ends_no hk (bs := bs) (i := i) (fun c' h => by rw [HC.out] at h; cases h; exact hm))
   obtain ⟨p0, p1, p2, p3, p4⟩ := H1.out.bp.c5w
   simp only [word_none] at p0 p1 p2 p3 p4
   obtain ⟨r0, r1, r2, r3, r4⟩ := H1.out.br.c5w
   obtain ⟨f0, f1, f2, f3, f4⟩ := H1.out.br.f5w
   try simp only [hm]
   go_wp2
   obtain ⟨e1, e2⟩ := look_zero HM.out H1.out HE.out
   exact bodyPost_ret (ret_pl Tryz.results155 rfl e1) rfl e2
 ·have hd : decide ((i : Int) < (bs.length : Int)) = false := by simp; omega
  have HE := Lib.hid (ends_no hk (bs := bs) (i := i) (fun c h => absurd (List.getElem?_eq_some_iff.1 h).1 hil))
  obtain ⟨r0, r1, r2, r3, r4⟩ := H0.out.br.c5w
  obtain ⟨f0, f1, f2, f3, f4⟩ := H0.out.br.f5w
  go_wp2
  go_region
  all_goals go_wp2
  obtain ⟨e1, e2, e3, e4⟩ := look_zero HM.out H0.out HE.out
  exact bodyPost_ret (ret_pl Tryz.results155 rfl e1.drew) rfl ⟨e2, e3.below ⟨rfl, rfl, rfl, Nat.le_refl _, fun _ _ => rfl⟩, grown_drew e4⟩
end
section
end
section
open Go.RowKit
end
section
theorem nrmH {α : Type} : type_of% (@List.getElem_toArray α) ∧ type_of% (@List.getElem_cons_zero α) ∧ type_of% (@List.getElem_cons_succ α) ∧ type_of% (@List.setIfInBounds_toArray α) ∧ type_of% (@List.set_cons_zero α) ∧ type_of% (@List.set_cons_succ α) :=
 ⟨List.getElem_toArray, List.getElem_cons_zero, List.getElem_cons_succ, List.setIfInBounds_toArray, List.set_cons_zero, List.set_cons_succ⟩
theorem getH {α : Type} : type_of% (@List.getElem?_toArray α) ∧ type_of% (@List.getElem?_cons_zero α) ∧ type_of% (@List.getElem?_cons_succ α) :=
 ⟨List.getElem?_toArray, List.getElem?_cons_zero, List.getElem?_cons_succ⟩
end
section
open Go.RowKit
section
variable {w wr w2 w3 : World} {X : Nat} {z z' : Nd} {B B' : Option Addr} {cap cap' : Nat}
end
section
variable {w wr w2 w' : World} {acc : List Nd} {u : Value}
end
def ints (l : List Int) : List Value := l.map (Value.int .i64)
end
end Go.Proofs.YtofbfafnpdaejaaGreatDoor
