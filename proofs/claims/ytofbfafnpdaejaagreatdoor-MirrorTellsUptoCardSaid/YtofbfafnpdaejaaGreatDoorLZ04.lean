/- Texts of the claim. -/
import Derived.Lib.AppendStr
import Derived.BigQuiet
import Derived.RangeFuncBox
import Derived.Maps.AppendAt
import Derived.Maps.OwnIn
import Derived.Lib.Hide
import Derived.MapKept
import Derived.ChangeMaps5
import Derived.ArgAppend
import Derived.Shelf.RegionOpenPlain
import Derived.BigRegion
import Derived.Test.YtofbfafnpdaejaaGreatDoorLZ02
import Derived.Test.YtofbfafnpdaejaaGreatDoorLZ03
import Derived.Test.YtofbfafnpdaejaaGreatDoorLRShow
import Derived.Test.YtofbfafnpdaejaaGreatDoorLZ01
import Derived.Test.YtofbfafnpdaejaaGreatDoorLShow
import Derived.Test.YtofbfafnpdaejaaGreatDoorLSame
import Derived.Test.YtofbfafnpdaejaaGreatDoorLSpans
namespace Go.Proofs.YtofbfafnpdaejaaGreatDoor
open Go.RowKit
set_option linter.unusedSimpArgs false
set_option linter.unusedVariables false
set_option maxRecDepth 100000
set_option maxHeartbeats 8000000
def repT (lo hi : Int) : List Nat := [123] ++ (decS lo.toNat ++ ((if hi < 0 then [44] else if lo < hi then 44 :: decS hi.toNat else []) ++ [125]))
theorem repT_open (lo hi : Int) (h : hi < 0) : repT lo hi = [123] ++ (decS lo.toNat ++ ([44] ++ [125])) := by unfold repT; rw [if_pos h]
theorem repT_two (lo hi : Int) (h : ¬ hi < 0) (h2 : lo < hi) : repT lo hi = [123] ++ (decS lo.toNat ++ (([44] ++ decS hi.toNat) ++ [125])) := by unfold repT; rw [if_neg h, if_pos h2]; rfl
theorem repT_one (lo hi : Int) (h : ¬ hi < 0) (h2 : ¬ lo < hi) : repT lo hi = [123] ++ (decS lo.toNat ++ [125]) := by unfold repT; rw [if_neg h, if_neg h2]; rfl
theorem repT_len (lo hi : Int) : (repT lo hi).length ≤ 11 := by
 unfold repT
 have := decS_len lo.toNat
 have := decS_len hi.toNat
 split
 ·simp; omega
 ·split <;> simp <;> omega
def sameSet (p q : Nat → Bool) : Bool := ((word p 0 : Nat) : Int) == ((word q 0 : Nat) : Int) && ((word p 1 : Nat) : Int) == ((word q 1 : Nat) : Int) && ((word p 2 : Nat) : Int) == ((word q 2 : Nat) : Int) && ((word p 3 : Nat) : Int) == ((word q 3 : Nat) : Int)
def setT (p : Nat → Bool) : List Nat := if (elems p 256).length = 1 then litS ((elems p 256).headD 0) else if sameSet p dotSet = true then [46] else showS p
def textS (x : Lex) : List Nat :=
 if x.kind = 1 then setT x.set else if x.kind = 8 then repT x.lo x.hi
 else if x.kind = 2 then [40] else if x.kind = 3 then [41] else if x.kind = 4 then [124] else if x.kind = 5 then [42] else if x.kind = 6 then [43] else [63]
theorem setT_len (p : Nat → Bool) : (setT p).length ≤ 2400 := by
 unfold setT
 split
 ·have := litS_len ((elems p 256).headD 0); omega
 ·split
  ·simp
  ·exact showS_len p
theorem textS_len (x : Lex) : (textS x).length ≤ 2400 := by
 unfold textS
 split
 ·exact setT_len _
 ·split
  ·have := repT_len x.lo x.hi; omega
  ·repeat' split
   all_goals simp
theorem litS_bytes (c : Nat) (hc : c < 256) : ∀ x ∈ litS c, x < 256 := by
 intro x hx
 unfold litS at hx
 split at hx
 ·simp at hx; omega
 ·split at hx
  ·simp at hx; omega
  ·exact (chr_head c hc).2.2.2.2 x hx
theorem decS_bytes (n : Nat) (h : n < 10000) : ∀ x ∈ decS n, 48 ≤ x ∧ x ≤ 57 := by
 intro x hx
 unfold decS at hx
 split at hx
 ·simp at hx; omega
 ·split at hx
  ·simp at hx; omega
  ·split at hx
   ·simp at hx; omega
   ·simp at hx; omega
theorem str_open (a : List Nat) : (((⟨#[123]⟩ : ByteArray) ++ strOf a) ++ ⟨#[44]⟩) ++ ⟨#[125]⟩ = strOf ([123] ++ (a ++ ([44] ++ [125]))) := by
 show ((strOf [123] ++ strOf a) ++ strOf [44]) ++ strOf [125] = _
 simp only [strOf_append, List.append_assoc]
theorem str_onerep (a : List Nat) : ((⟨#[123]⟩ : ByteArray) ++ strOf a) ++ ⟨#[125]⟩ = strOf ([123] ++ (a ++ [125])) := by
 show (strOf [123] ++ strOf a) ++ strOf [125] = _
 simp only [strOf_append, List.append_assoc]
theorem str_tworep (a b : List Nat) : (((⟨#[123]⟩ : ByteArray) ++ strOf a) ++ ((⟨#[44]⟩ : ByteArray) ++ strOf b)) ++ ⟨#[125]⟩ = strOf ([123] ++ (a ++ (([44] ++ b) ++ [125]))) := by
 show ((strOf [123] ++ strOf a) ++ (strOf [44] ++ strOf b)) ++ strOf [125] = _
 simp only [strOf_append, List.append_assoc]
theorem rept_go (lo hi : Int) (w : World) (h0 : 0 ≤ lo) (h1 : lo ≤ 1000) (h2 : hi = -1 ∨ lo ≤ hi ∧ hi ≤ 1000) :
  Calls Tryz.prog 210 #[.int .i64 lo, .int .i64 hi] w fun e w' => e = .returned (.string (strOf (repT lo hi))) ∧ Below w.heap.size w w' := by
 obtain ⟨n, rfl⟩ := Int.eq_ofNat_of_zero_le h0
 have H1 := Lib.hid (fun w => shown_go n w (by omega))
 have l1 := decS_len n
 by_cases hh : hi < 0
 ·have HV := Lib.hid ((str_open (decS n)).trans (congrArg strOf (repT_open n hi hh).symm))
  go_enter Tryz.func210, Tryz.ntmps210
  go_wp2_with fail
  refine (H1.out _).mono ?_
  rintro e w1 ⟨rfl, hb1⟩
  go_wp2
  go_light
  go_ret
  exact ⟨by rw [← HV.out]; rfl, hb1⟩
 obtain ⟨m, rfl⟩ := Int.eq_ofNat_of_zero_le (show 0 ≤ hi by omega)
 have H2 := Lib.hid (fun w => shown_go m w (by omega))
 have l2 := decS_len m
 by_cases hlt : (n : Int) < (m : Int)
 ·have HV := Lib.hid ((str_tworep (decS n) (decS m)).trans (congrArg strOf (repT_two n m hh hlt).symm))
  go_enter Tryz.func210, Tryz.ntmps210
  go_wp2_with fail
  refine (H1.out _).mono ?_
  rintro e w1 ⟨rfl, hb1⟩
  have HB1 := Lib.hid hb1
  clear hb1
  go_wp2_with fail
  refine (H2.out _).mono ?_
  rintro e w2 ⟨rfl, hb2⟩
  have HB2 := Lib.hid (HB1.out.trans (hb2.mono HB1.out.size))
  clear hb2
  go_wp2
  go_light
  go_ret
  exact ⟨by rw [← HV.out]; rfl, HB2.out⟩
 ·have HV := Lib.hid ((str_onerep (decS n)).trans (congrArg strOf (repT_one n m hh hlt).symm))
  go_enter Tryz.func210, Tryz.ntmps210
  go_wp2_with fail
  refine (H1.out _).mono ?_
  rintro e w1 ⟨rfl, hb1⟩
  go_wp2
  go_light
  go_ret
  exact ⟨by rw [← HV.out]; rfl, hb1⟩
theorem lexset_below {w w' : World} {g : Nat} {t : TypeId} {a b c d e f u v : Value} (h : Blk w g t #[a, b, c, d, e, f, u, v]) (hb : Below w.heap.size w w') :
  w'.cell? ⟨g, 2, none⟩ = some c ∧ w'.cell? ⟨g, 2 + 1, none⟩ = some d ∧ w'.cell? ⟨g, 2 + 2, none⟩ = some e ∧ w'.cell? ⟨g, 2 + 3, none⟩ = some f :=
 have h := h.below hb h.lt
 ⟨h.cell 2, h.cell 3, h.cell 4, h.cell 5⟩
theorem text_setJ (p : Nat → Bool) (pl lo hi : Int) (w : World) (hT : TabAt 0 Lib.deBruijn64tab w) (hw0 : 0 < w.heap.size) :
  Calls Tryz.prog 163 #[.agg #[.int .i64 1, .int .i64 pl, .int .u64 (word p 0), .int .u64 (word p 1), .int .u64 (word p 2), .int .u64 (word p 3), .int .i64 lo, .int .i64 hi]] w fun e w' => e = .returned (.string (strOf (setT p))) ∧ Below w.heap.size w w' := by
 have hb0 := (Below.refl w.heap.size w).alloc (Nat.le_refl _) (.cells #[.int .i64 1, .int .i64 pl, .int .u64 (word p 0), .int .u64 (word p 1), .int .u64 (word p 2), .int .u64 (word p 3), .int .i64 lo, .int .i64 hi] 143)
 have hx0 := Blk.new w 143 #[.int .i64 1, .int .i64 pl, .int .u64 (word p 0), .int .u64 (word p 1), .int .u64 (word p 2), .int .u64 (word p 3), .int .i64 lo, .int .i64 hi]
 have HT := Lib.hid hT
 have HB0 := Lib.hid hb0
 have HX0 := Lib.hid hx0
 clear hb0 hx0 hT
 have hcn := cnt_elems p 256
 by_cases h1 : (elems p 256).length = 1
 ·obtain ⟨c, hc⟩ := List.length_eq_one_iff.1 h1
  have hc256 : c < 256 := elems_lt (m := 256) (p := p) (by rw [hc]; simp)
  have HV : Hid (setT p = litS c) := Lib.hid (by unfold setT; rw [if_pos h1, hc]; rfl)
  have HN : Hid (((cnt p 256 : Nat) : Int) = 1) := Lib.hid (by omega)
  have HL := Lib.hid (fun w => least_go p c hc w)
  rw [HV.out]
  clear hc h1 hcn
  go_enter Tryz.func163, Tryz.ntmps163
  go_wp2_with fail
  refine (count_go p _).mono ?_
  rintro e w1 ⟨rfl, hb1⟩
  rw [HN.out]
  have HB1 := Lib.hid (HB0.out.trans (hb1.mono HB0.out.size))
  have hx1 := HX0.out.below hb1 HX0.out.lt
  have HX1 := Lib.hid hx1
  have s2 := hx1.cell 2
  have s3 := hx1.cell 3
  have s4 := hx1.cell 4
  have s5 := hx1.cell 5
  clear hb1 hx1
  simp at s2 s3 s4 s5
  go_wp2_with fail
  refine (HL.out _ (TabAt.below HB1.out hw0 HT.out) (Nat.lt_of_lt_of_le hw0 HB1.out.size)).mono ?_
  rintro e w2 ⟨rfl, hb2⟩
  have HB2 := Lib.hid (HB1.out.trans (hb2.mono HB1.out.size))
  clear hb2
  go_wp2_with fail
  refine (lit_go c _ hc256).mono ?_
  rintro e w3 ⟨rfl, hb3⟩
  have HB3 := Lib.hid (HB2.out.trans (hb3.mono HB2.out.size))
  clear hb3
  go_wp2
  go_light
  go_ret
  exact ⟨rfl, HB3.out⟩
 ·have HN : Hid ((((cnt p 256 : Nat) : Int) == 1) = false) := Lib.hid (by simp; omega)
  have hn256 : cnt p 256 ≤ 256 := by rw [hcn]; exact elems_len p 256
  cases hd : sameSet p dotSet
  ·have HV : Hid (setT p = showS p) := Lib.hid (by unfold setT; rw [if_neg h1, hd]; rfl)
   unfold sameSet at hd
   rw [HV.out]
   clear h1 hcn
   go_enter Tryz.func163, Tryz.ntmps163
   go_wp2_with fail
   refine (count_go p _).mono ?_
   rintro e w1 ⟨rfl, hb1⟩
   have hn := HN.out
   generalize ((cnt p 256 : Nat) : Int) = N at *
   have HB1 := Lib.hid (HB0.out.trans (hb1.mono HB0.out.size))
   have hx1 := HX0.out.below hb1 HX0.out.lt
   have HX1 := Lib.hid hx1
   have s2 := hx1.cell 2
   have s3 := hx1.cell 3
   have s4 := hx1.cell 4
   have s5 := hx1.cell 5
   clear hb1 hx1
   simp at s2 s3 s4 s5
   go_wp2
   go_region_with (go_at_call 195; refine (dot_go _).mono ?_; rintro e w2 ⟨rfl, hb2⟩; obtain ⟨t2, t3, t4, t5⟩ := lexset_below HX1.out.drew hb2; have HB2 := Lib.hid (HB1.out.drew.trans (hb2.mono HB1.out.size)); clear hb2)
   all_goals go_wp2_with (go_at_call 209; refine (show_go p _ (TabAt.below HB2.out hw0 HT.out) (Nat.lt_of_lt_of_le hw0 HB2.out.size)).mono ?_; rintro e w3 ⟨rfl, hb3⟩)
   all_goals go_light
   all_goals go_ret
   all_goals exact ⟨rfl, HB2.out.trans (hb3.mono HB2.out.size)⟩
  ·have HV : Hid (setT p = [46]) := Lib.hid (by unfold setT; rw [if_neg h1, if_pos hd])
   unfold sameSet at hd
   rw [HV.out]
   clear h1 hcn
   go_enter Tryz.func163, Tryz.ntmps163
   go_wp2_with fail
   refine (count_go p _).mono ?_
   rintro e w1 ⟨rfl, hb1⟩
   have hn := HN.out
   generalize ((cnt p 256 : Nat) : Int) = N at *
   have HB1 := Lib.hid (HB0.out.trans (hb1.mono HB0.out.size))
   have hx1 := HX0.out.below hb1 HX0.out.lt
   have HX1 := Lib.hid hx1
   have s2 := hx1.cell 2
   have s3 := hx1.cell 3
   have s4 := hx1.cell 4
   have s5 := hx1.cell 5
   clear hb1 hx1
   simp at s2 s3 s4 s5
   go_wp2
   go_region_with (go_at_call 195; refine (dot_go _).mono ?_; rintro e w2 ⟨rfl, hb2⟩; obtain ⟨t2, t3, t4, t5⟩ := lexset_below HX1.out.drew hb2; have HB2 := Lib.hid (HB1.out.drew.trans (hb2.mono HB1.out.size)); clear hb2)
   all_goals go_wp2
   all_goals go_light
   all_goals go_ret
   all_goals exact ⟨rfl, HB2.out⟩
theorem text_rep (p : Nat → Bool) (pl lo hi : Int) (w : World) (h0 : 0 ≤ lo) (h1 : lo ≤ 1000) (h2 : hi = -1 ∨ lo ≤ hi ∧ hi ≤ 1000) :
  Calls Tryz.prog 163 #[.agg #[.int .i64 8, .int .i64 pl, .int .u64 (word p 0), .int .u64 (word p 1), .int .u64 (word p 2), .int .u64 (word p 3), .int .i64 lo, .int .i64 hi]] w fun e w' => e = .returned (.string (strOf (repT lo hi))) ∧ Below w.heap.size w w' := by
 have H := Lib.hid (fun w => rept_go lo hi w h0 h1 h2)
 clear h0 h1 h2
 go_enter Tryz.func163, Tryz.ntmps163
 go_wp2_with fail
 have HB0 := Lib.hid ((Below.refl w.heap.size w).alloc (Nat.le_refl _) (.cells #[.int .i64 8, .int .i64 pl, .int .u64 (word p 0), .int .u64 (word p 1), .int .u64 (word p 2), .int .u64 (word p 3), .int .i64 lo, .int .i64 hi] 143))
 refine (H.out _).mono ?_
 rintro e w1 ⟨rfl, hb1⟩
 have HB1 := Lib.hid (HB0.out.trans (hb1.mono HB0.out.size))
 clear hb1
 go_wp2
 go_light
 go_ret
 exact ⟨rfl, HB1.out⟩
theorem text_signJ (p : Nat → Bool) (k pl lo hi : Int) (w : World) (h0 : 2 ≤ k) (h1 : k ≤ 7) :
  Calls Tryz.prog 163 #[.agg #[.int .i64 k, .int .i64 pl, .int .u64 (word p 0), .int .u64 (word p 1), .int .u64 (word p 2), .int .u64 (word p 3), .int .i64 lo, .int .i64 hi]] w fun e w' => e = .returned (.string (strOf (textS ⟨k, pl, p, lo, hi⟩))) ∧ Below w.heap.size w w' := by
 by_cases e2 : k = 2
 ·subst e2
  go_enter Tryz.func163, Tryz.ntmps163
  go_wp2
  go_light
  go_ret
  exact ⟨rfl, (Below.refl w.heap.size w).alloc (Nat.le_refl _) _⟩
 by_cases e3 : k = 3
 ·subst e3
  go_enter Tryz.func163, Tryz.ntmps163
  go_wp2
  go_light
  go_ret
  exact ⟨rfl, (Below.refl w.heap.size w).alloc (Nat.le_refl _) _⟩
 by_cases e4 : k = 4
 ·subst e4
  go_enter Tryz.func163, Tryz.ntmps163
  go_wp2
  go_light
  go_ret
  exact ⟨rfl, (Below.refl w.heap.size w).alloc (Nat.le_refl _) _⟩
 by_cases e5 : k = 5
 ·subst e5
  go_enter Tryz.func163, Tryz.ntmps163
  go_wp2
  go_light
  go_ret
  exact ⟨rfl, (Below.refl w.heap.size w).alloc (Nat.le_refl _) _⟩
 by_cases e6 : k = 6
 ·subst e6
  go_enter Tryz.func163, Tryz.ntmps163
  go_wp2
  go_light
  go_ret
  exact ⟨rfl, (Below.refl w.heap.size w).alloc (Nat.le_refl _) _⟩
 by_cases e7 : k = 7
 ·subst e7
  go_enter Tryz.func163, Tryz.ntmps163
  go_wp2
  go_light
  go_ret
  exact ⟨rfl, (Below.refl w.heap.size w).alloc (Nat.le_refl _) _⟩
 exact absurd h0 (by omega)
def lexValJ (x : Lex) : Value := .agg #[.int .i64 x.kind, .int .i64 x.place, .int .u64 (word x.set 0), .int .u64 (word x.set 1), .int .u64 (word x.set 2), .int .u64 (word x.set 3), .int .i64 x.lo, .int .i64 x.hi]
theorem text_go (x : Lex) (w : World) (hr : rightS x = true) (hT : TabAt 0 Lib.deBruijn64tab w) (hw0 : 0 < w.heap.size) :
  Calls Tryz.prog 163 #[lexValJ x] w fun e w' => e = .returned (.string (strOf (textS x))) ∧ Below w.heap.size w w' := by
 obtain ⟨_, h | h | h⟩ := rightS_cases hr
 ·obtain ⟨k, pl, p, lo, hi⟩ := x
  dsimp only at h
  obtain ⟨rfl, _, _⟩ := h
  exact text_setJ p pl lo hi w hT hw0
 ·obtain ⟨k, pl, p, lo, hi⟩ := x
  dsimp only at h
  obtain ⟨rfl, h1, h2, h3, _⟩ := h
  exact text_rep p pl lo hi w h1 h2 h3
 ·obtain ⟨k, pl, p, lo, hi⟩ := x
  dsimp only at h
  exact text_signJ p k pl lo hi w h.1 h.2.1
@[go_sem] theorem run_str1_next (w : World) (o : Obj) (c : Nat) : (convert 29 9 (.slice (some ⟨w.heap.size + 1, 0, none⟩) 1 1)).run Tryz.prog ((w.alloc o).alloc (.cells #[.int .u8 (c : Int)] 5)) =
  .ok (.string (strOf [c])) ((w.alloc o).alloc (.cells #[.int .u8 (c : Int)] 5)) := by
 have h := run_str1 (w.alloc o) c
 rw [World.size_alloc] at h
 exact h
def joinS (L : List Lex) : List Nat := L.flatMap textS
theorem joinS_len : ∀ (L : List Lex), (joinS L).length ≤ L.length * 2400
 | [] => by simp [joinS]
 | x :: L => by
  have h1 := textS_len x
  have h2 := joinS_len L
  unfold joinS at h2 ⊢
  rw [List.flatMap_cons, List.length_append, List.length_cons]
  omega
theorem joinS_take {L : List Lex} {k : Nat} {x : Lex} (h : L[k]? = some x) : joinS (L.take (k + 1)) = joinS (L.take k) ++ textS x := by
 unfold joinS
 rw [List.take_add_one, h]
 simp
def joinV (L : List Lex) : Value := if L.all rightS = true then .tuple #[.string (strOf (joinS L)), .int .i64 0] else .tuple #[.string ⟨#[]⟩, .int .i64 6]
theorem joinV_bad {L : List Lex} {k : Nat} {x : Lex} (h : L[k]? = some x) (hx : rightS x = false) : joinV L = .tuple #[.string ⟨#[]⟩, .int .i64 6] := by
 refine if_neg fun ha => ?_
 have := List.all_eq_true.1 ha x (List.mem_of_getElem? h)
 rw [hx] at this
 cases this
theorem joinV_ok {L : List Lex} (h : ∀ (k : Nat) x, L[k]? = some x → rightS x = true) : joinV L = .tuple #[.string (strOf (joinS L)), .int .i64 0] := by
 refine if_pos (List.all_eq_true.2 fun x hx => ?_)
 obtain ⟨k, hk, rfl⟩ := List.mem_iff_getElem.1 hx
 exact h k _ (List.getElem?_eq_getElem hk)
theorem showS_bytes' (p : Nat → Bool) : ∀ x ∈ showS p, x < 256 := by
 have hp : ∀ l : List (Nat × Nat), (∀ x ∈ l, x.1 ≤ x.2 ∧ x.2 < 256) → ∀ y ∈ piecesS l, y < 256 := by
  intro l
  induction l with
  | nil => intro _ y hy; simp [piecesS] at hy
  | cons x l ih =>
   intro hl y hy
   have hx := hl x (by simp)
   rw [piecesS_cons] at hy
   rcases List.mem_append.1 hy with hy | hy
   ·unfold pieceS at hy
    rcases List.mem_append.1 hy with hy | hy
    ·exact (chr_head x.1 (by omega)).2.2.2.2 y hy
    ·rcases List.mem_append.1 hy with hy | hy
     ·split at hy
      ·simp at hy; omega
      ·simp at hy
     ·split at hy
      ·exact (chr_head x.2 hx.2).2.2.2.2 y hy
      ·simp at hy
   ·exact ih (fun z hz => hl z (by simp [hz])) y hy
 intro x hx
 unfold showS at hx
 split at hx
 ·simp only [List.mem_append, List.mem_cons, List.not_mem_nil, or_false] at hx
  rcases hx with (h | h) | h | h
  ·omega
  ·omega
  ·exact hp _ (cutsOf_in _) x h
  ·omega
 ·simp only [List.mem_append, List.mem_cons, List.not_mem_nil, or_false] at hx
  rcases hx with h | h | h
  ·omega
  ·exact hp _ (cutsOf_in _) x h
  ·omega
theorem setT_bytes (p : Nat → Bool) : ∀ x ∈ setT p, x < 256 := by
 unfold setT
 split
 ·rename_i h
  obtain ⟨c, hc⟩ := List.length_eq_one_iff.1 h
  rw [hc]
  exact litS_bytes c (elems_lt (m := 256) (p := p) (by rw [hc]; simp))
 ·split
  ·simp
  ·exact showS_bytes' p
theorem repT_bytes {lo hi : Int} (h1 : lo ≤ 1000) (h2 : hi ≤ 1000) : ∀ x ∈ repT lo hi, x < 256 := by
 intro x hx
 unfold repT at hx
 have d1 := decS_bytes lo.toNat (by omega)
 have d2 := decS_bytes hi.toNat (by omega)
 simp only [List.mem_append, List.mem_cons, List.not_mem_nil, or_false] at hx
 rcases hx with h | h | h | h
 ·omega
 ·have := d1 x h; omega
 ·split at h
  ·simp at h; omega
  ·split at h
   ·rcases List.mem_cons.1 h with h | h
    ·omega
    ·have := d2 x h; omega
   ·cases h
 ·omega
theorem textS_bytes {x : Lex} (h : rightS x = true) : ∀ y ∈ textS x, y < 256 := by
 obtain ⟨_, h | h | h⟩ := rightS_cases h
 ·unfold textS
  rw [if_pos h.1]
  exact setT_bytes _
 ·unfold textS
  rw [if_neg (by omega), if_pos h.1]
  exact repT_bytes (by omega) (by omega)
 ·unfold textS
  rw [if_neg (by omega), if_neg (by omega)]
  repeat' split
  all_goals simp
theorem strCells_of (t : List Nat) (h : ∀ x ∈ t, x < 256) : Lib.strCells (strOf t) = t.map (fun c : Nat => Value.int .u8 (c : Int)) := by
 unfold Lib.strCells strOf
 simp only [List.map_map]
 apply List.map_congr_left
 intro x hx
 have := h x hx
 simp
 omega
theorem own_text {w : World} {base : Nat} {v : Value} {ns : List Nat} (h : w.ownsRow base 5 1 v ns.length (ns.map (fun n : Nat => Value.int .u8 (n : Int)))) :
  (convert 29 9 v).run Tryz.prog w = .ok (.string (strOf ns)) w := by
 rcases h.2 with ⟨rfl, h0⟩ | ⟨g, cap, cur, hv, hb, hh, _⟩
 ·have : ns = [] := List.length_eq_zero_iff.1 h0
  subst this
  rw [run_convert_bytes_string w _ _ 5 none _ _ Tryz.underlying29 Tryz.underlying5 Tryz.underlying9]
  rfl
 ·subst hv
  exact run_str w ⟨g, 0, none⟩ cap ns (h.cells (g := g) rfl)
theorem one_int (w : World) (a : Int) : IntsAt (w.alloc (.cells #[.int .i64 a] 3)) (some ⟨w.heap.size, 0, none⟩) [a] := fun i x hx => by
 cases i with
 | zero =>
  have : a = x := by simpa using hx
  subst this
  exact ⟨_, _, rfl, (Blk.new w 3 #[.int .i64 a]).cell 0⟩
 | succ i => simp at hx
theorem ints_made (w : World) : (w.alloc (.cells #[] 3)).ownsRow w.heap.size 3 1 (.slice (some ⟨w.heap.size, 0, none⟩) 0 0) ([] : List Int).length (intsC []) :=
 ⟨rfl, .inr ⟨w.heap.size, 0, #[], rfl, Nat.le_refl _, heap_alloc_new w _, Nat.le_refl _, Nat.zero_le _, rfl, rfl⟩⟩
theorem own_form_capC {w : World} {base size n : Nat} {e : TypeId} {v : Value} {xs : List Value} (h : w.ownsRow base e size v n xs) (hn : 0 < n) : ∃ g cap, v = .slice (some ⟨g, 0, none⟩) n cap ∧ base ≤ g ∧ g < w.heap.size ∧ n ≤ cap := by
 rcases h.2 with ⟨_, h0⟩ | ⟨g, c, cur, hv, hb, hh, hc, _⟩
 ·omega
 ·exact ⟨g, c, hv, hb, (Array.getElem?_eq_some_iff.1 hh).1, hc⟩
theorem push_own_int (w : World) (base : Nat) (v : Value) (acc : List Int) (hown : w.ownsRow base 3 1 v acc.length (intsC acc)) (a : Int) (hs : acc.length + 1 ≤ 10000000000000) (hbase : base ≤ w.heap.size) :
  ∃ v' w', (Builtin.append_ #[38, 38] 38 #[v, .slice (some ⟨w.heap.size, 0, none⟩) 1 1]).run Tryz.prog (w.alloc (.cells #[.int .i64 a] 3)) = .ok v' w' ∧ w'.ownsRow base 3 1 v' (acc ++ [a]).length (intsC (acc ++ [a])) ∧ ∀ B a0, Below B a0 w → B ≤ base → Below B a0 w' := by
 have ho : (w.alloc (.cells #[.int .i64 a] 3)).ownsRow base 3 1 v acc.length (intsC acc) := hown.alloc _
 obtain ⟨v', w', h1, h2, h3⟩ := append_own_ints (w.alloc (.cells #[.int .i64 a] 3)) base v acc ho 1 (one_int w a) (by simpa using hs) (by simp; omega) 38 38 Tryz.underlying38
 exact ⟨v', w', h1, h2, fun B a0 hb hle => below_grown (hb.alloc (by omega) (.cells #[.int .i64 a] 3)) h3 ho hle (by simp; omega)⟩
theorem int_sizeC (w : World) : (sizeOf 3).run Tryz.prog w = .ok 1 w := by kernel_rfl
end Go.Proofs.YtofbfafnpdaejaaGreatDoor
namespace Go.Proofs.YtofbfafnpdaejaaGreatDoor
set_option linter.unusedSimpArgs false
set_option linter.unusedVariables false
set_option maxRecDepth 100000
set_option maxHeartbeats 8000000
def Rises (L : List Int) : Prop := L.Pairwise (· < ·)
theorem rises_len {L : List Int} {S : Nat} (h : Rises L) (hb : ∀ x ∈ L, 0 ≤ x ∧ x < S) : L.length ≤ S := by
 have key : ∀ (L : List Int) (lo : Int), 0 ≤ lo → lo ≤ S → Rises L → (∀ x ∈ L, lo ≤ x ∧ x < S) → (L.length : Int) ≤ S - lo := by
  intro L
  induction L with
  | nil => intro lo h0 h1 _ _; simp; omega
  | cons a L ih =>
   intro lo h0 h1 hr hb
   obtain ⟨h2, h3⟩ := List.pairwise_cons.1 hr
   have ha := hb a (by simp)
   have := ih (a + 1) (by omega) (by omega) h3 (fun x hx => ⟨by have := h2 x hx; omega, (hb x (by simp [hx])).2⟩)
   simp only [List.length_cons]
   omega
 have := key L 0 (Int.le_refl _) (by omega) h hb
 omega
inductive Leads (K : List (Int × Int)) (P : Int → Prop) : Int → Prop
 | here {s : Int} : P s → Leads K P s
 | link {a b : Int} : Leads K P a → (a, b) ∈ K → Leads K P b
def IsClos (K : List (Int × Int)) (S : Int) (l R : List Int) : Prop := Rises R ∧ ∀ x, x ∈ R ↔ Leads K (fun s => s ∈ l ∧ 0 ≤ s ∧ s < S) x
end Go.Proofs.YtofbfafnpdaejaaGreatDoor
namespace Go.Proofs.YtofbfafnpdaejaaGreatDoor
open Go.RowKit
set_option linter.unusedSimpArgs false
set_option linter.unusedVariables false
set_option maxRecDepth 100000
set_option maxHeartbeats 8000000
def lenV : Value → Nat
 | .slice _ n _ => n
 | _ => 0
theorem rightN_states {N : NfaV} (h : rightN N = true) : 0 < N.states ∧ N.states ≤ 65536 := by
 by_cases h2 : N.states ≤ 65536 ∧ isB N.states N.start = true ∧ (N.accept.length : Int) = N.states
 ·obtain ⟨a, b, c⟩ := h2
  have := isB_iff.1 b
  omega
 ·rw [rightN_head h2] at h
  cases h
theorem rightN_links {N : NfaV} (h : rightN N = true) {p : Int × Int} (hp : p ∈ N.links) : (0 ≤ p.1 ∧ p.1 < N.states) ∧ 0 ≤ p.2 ∧ p.2 < N.states := by
 unfold rightN at h
 simp only [Bool.and_eq_true] at h
 have := List.all_eq_true.1 h.2.2.2.1 p hp
 unfold linkB at this
 rw [Bool.and_eq_true, isB_iff, isB_iff] at this
 exact this
theorem Blk.c5 {w : World} {g : Nat} {t : TypeId} {a b c d e : Value} (h : Blk w g t #[a, b, c, d, e]) : w.cell? ⟨g, 0, none⟩ = some a ∧ w.cell? ⟨g, 1, none⟩ = some b ∧ w.cell? ⟨g, 2, none⟩ = some c ∧ w.cell? ⟨g, 3, none⟩ = some d ∧ w.cell? ⟨g, 4, none⟩ = some e := ⟨h.cell 0, h.cell 1, h.cell 2, h.cell 3, h.cell 4⟩
def StepTo (N : NfaV) (l : List Int) (b : Nat) (s : Int) : Prop := ∃ p ∈ N.edges, p.1 ∈ l ∧ p.2.1.testBit b = true ∧ p.2.2 = s
def IsStep (N : NfaV) (l : List Int) (b : Nat) (R : List Int) : Prop := ∃ O, (∀ s, s ∈ O ↔ StepTo N l b s) ∧ IsClos N.links N.states O R
inductive RunOf (N : NfaV) : List Nat → List Int → Prop
 | nil {R : List Int} : IsClos N.links N.states [N.start] R → RunOf N [] R
 | snoc {v : List Nat} {b : Nat} {L R : List Int} : RunOf N v L → IsStep N L b R → RunOf N (v ++ [b]) R
theorem run_last {N : NfaV} : ∀ {u : List Nat} {R : List Int}, RunOf N u R → (u = [] ∧ IsClos N.links N.states [N.start] R) ∨ ∃ v b L, u = v ++ [b] ∧ RunOf N v L ∧ IsStep N L b R
 | _, _, .nil h => .inl ⟨rfl, h⟩
 | _, _, .snoc h h2 => .inr ⟨_, _, _, rfl, h, h2⟩
theorem isclos_len {N : NfaV} {l R : List Int} (hR : rightN N = true) (h : IsClos N.links N.states l R) : R.length ≤ 65536 := by
 have h1 := rightN_states hR
 have h2 : ∀ x, Leads N.links (fun s => s ∈ l ∧ 0 ≤ s ∧ s < N.states) x → 0 ≤ x ∧ x < N.states := fun x hx => by
  induction hx with
  | here hs => exact hs.2
  | link _ hk _ => exact (rightN_links hR hk).2
 have := rises_len (S := N.states.toNat) h.1 (fun x hx => by have := h2 x ((h.2 x).1 hx); omega)
 omega
theorem runof_len {N : NfaV} {u : List Nat} {R : List Int} (hR : rightN N = true) (h : RunOf N u R) : R.length ≤ 65536 := by
 rcases run_last h with ⟨_, h1⟩ | ⟨_, _, _, _, _, O, _, h1⟩
 ·exact isclos_len hR h1
 ·exact isclos_len hR h1
def LabelOf (N : NfaV) (l : List Int) (x : Int) : Prop := x ≠ 0 ∧ ∃ m : Nat, (m : Int) ∈ l ∧ N.accept[m]? = some x
def IsLabels (N : NfaV) (l R : List Int) : Prop := Rises R ∧ ∀ x, x ∈ R ↔ LabelOf N l x
theorem rightN_accept {N : NfaV} (h : rightN N = true) : (N.accept.length : Int) = N.states ∧ ∀ x ∈ N.accept, 0 ≤ x ∧ x ≤ 64 := by
 by_cases h2 : N.states ≤ 65536 ∧ isB N.states N.start = true ∧ (N.accept.length : Int) = N.states
 ·refine ⟨h2.2.2, fun x hx => ?_⟩
  unfold rightN at h
  simp only [Bool.and_eq_true] at h
  have := List.all_eq_true.1 h.2.2.2.2.2 x hx
  unfold accB at this
  rw [Bool.and_eq_true, decide_eq_true_eq, decide_eq_true_eq] at this
  exact this
 ·rw [rightN_head h2] at h
  cases h
def TellOf (N : NfaV) (u : List Nat) (x : Int) : Prop := ∃ L R, RunOf N u L ∧ IsLabels N L R ∧ x = R.headD 0
theorem labels_len {N : NfaV} {l R : List Int} (hR : rightN N = true) (h : IsLabels N l R) : R.length ≤ 65 := rises_len h.1 (fun x hx => by
 obtain ⟨_, m, _, h2⟩ := (h.2 x).1 hx
 have := (rightN_accept hR).2 x (List.mem_of_getElem? h2)
 omega)
def wordsU (p : Nat → Bool) (n : Nat) : Array Value := ((List.range n).map fun i => Value.int .u64 ((word p i : Nat) : Int)).toArray
theorem wordsU_get (p : Nat → Bool) {n i : Nat} (h : i < n) : (wordsU p n)[i]? = some (.int .u64 ((word p i : Nat) : Int)) := by
 unfold wordsU
 rw [List.getElem?_toArray, List.getElem?_map, List.getElem?_range h]
 rfl
structure BitsAt (w : World) (g h : Nat) (S : Nat) (p : Nat → Bool) : Prop where
 box : Blk w g 226 #[.int .i64 (S : Int), .slice (some ⟨h, 0, none⟩) ((S + 63) / 64) ((S + 63) / 64)]
 row : Blk w h 23 (wordsU p ((S + 63) / 64))
 ne : g ≠ h
theorem BitsAt.below {B : Nat} {w w' : World} {g h S : Nat} {p : Nat → Bool} (hA : BitsAt w g h S p) (hb : Below B w w') (hg : g < B) (hh : h < B) : BitsAt w' g h S p := ⟨hA.box.below hb hg, hA.row.below hb hh, hA.ne⟩
theorem low63 (n : Int) : bits .and .i64 n 63 = n % 64 := by
 have h63 : (BitVec.ofInt 64 63).toNat = 2 ^ 6 - 1 := by decide
 have key : (BitVec.ofInt 64 n &&& BitVec.ofInt 64 63).toNat = (n % ((2 ^ 64 : Nat) : Int)).toNat % 2 ^ 6 := by
  rw [BitVec.toNat_and, BitVec.toNat_ofInt, h63, Nat.and_two_pow_sub_one_eq_mod]
 show IntKind.i64.wrap ((BitVec.ofInt 64 n &&& BitVec.ofInt 64 63).toNat : Nat) = n % 64
 rw [key, IntKind.wrap_i64]
 omega
def fitB (S : Nat) (c : Int) : Bool := decide (0 ≤ c) && decide (c < (S : Int))
theorem fits_go (S : Nat) (c : Int) (w : World) : Calls Tryz.prog 211 #[.int .i64 (S : Int), .int .i64 c] w fun e w' => e = .returned (.bool (fitB S c)) ∧ w = w' := by
 by_cases h0 : 0 ≤ c
 ·have HV := Lib.hid (show fitB S c = decide (c < (S : Int)) by unfold fitB; rw [decide_eq_true h0]; rfl)
  go_enter Tryz.func211, Tryz.ntmps211
  go_wp2
  go_light
  go_ret
  exact ⟨ret_b HV.out.symm, rfl⟩
 ·have HV := Lib.hid (show fitB S c = false by unfold fitB; rw [decide_eq_false h0]; rfl)
  have d0 : decide (0 ≤ c) = false := decide_eq_false h0
  go_enter Tryz.func211, Tryz.ntmps211
  go_wp2
  go_light
  go_ret
  exact ⟨ret_b HV.out.symm, rfl⟩
def hasB (S : Nat) (p : Nat → Bool) (c : Int) : Bool := fitB S c && p c.toNat
theorem bhas_go (g h S : Nat) (p : Nat → Bool) (c : Int) (w : World) (hA : BitsAt w g h S p) (hS : S ≤ 1048576) : Calls Tryz.prog 212 #[.pointer (some ⟨g, 0, none⟩), .int .i64 c] w fun e w' => e = .returned (.bool (hasB S p c)) ∧ w = w' := by
 have HF := Lib.hid (fits_go S c w)
 have x0 := hA.box.cell 0
 have x1 := hA.box.cell 1
 have hlx := hA.box.lt
 simp only [List.getElem?_toArray, List.getElem?_cons_zero, List.getElem?_cons_succ] at x0 x1
 cases hf : fitB S c with
 | false =>
  have HV := Lib.hid (show hasB S p c = false by unfold hasB; rw [hf]; rfl)
  rw [hf] at HF
  go_enter Tryz.func212, Tryz.ntmps212
  go_wp2_with fail
  refine HF.out.mono ?_
  rintro e w1 ⟨rfl, rfl⟩
  dsimp only
  go_wp2
  go_light
  go_ret
  exact ⟨ret_b HV.out.symm, rfl⟩
 | true =>
  have HV := Lib.hid (show hasB S p c = p c.toNat by unfold hasB; rw [hf]; rfl)
  rw [hf] at HF
  unfold fitB at hf
  rw [Bool.and_eq_true, decide_eq_true_eq, decide_eq_true_eq] at hf
  obtain ⟨h0, h1⟩ := hf
  obtain ⟨i, hi⟩ : ∃ i : Nat, c / 64 = (i : Int) := ⟨(c / 64).toNat, by omega⟩
  have hin : i < (S + 63) / 64 := by omega
  have y0 := hA.row.cell i
  rw [wordsU_get p hin] at y0
  have hB := has_bit p c i h0 hi
  have hil : (i : Int) < (((S + 63) / 64 : Nat) : Int) := by omega
  have hly := hA.row.lt
  have h63 := low63 c
  have hm0 : 0 ≤ c % 64 := by omega
  have hm1 : c % 64 < 64 := by omega
  generalize (S + 63) / 64 = nw at *
  go_enter Tryz.func212, Tryz.ntmps212
  go_wp2_with fail
  refine HF.out.mono ?_
  rintro e w1 ⟨rfl, rfl⟩
  dsimp only
  go_wp2
  go_light
  go_ret
  exact ⟨ret_b HV.out.symm, rfl⟩
structure Moved1 (h : Nat) (w w' : World) : Prop where
 size : w'.heap.size = w.heap.size
 blk : ∀ {b : Nat} {t : TypeId} {cs : Array Value}, b ≠ h → Blk w b t cs → Blk w' b t cs
 below : ∀ {B : Nat} {a : World}, Below B a w → B ≤ h → Below B a w'
theorem Moved1.refl (h : Nat) (w : World) : Moved1 h w w := ⟨rfl, fun _ hb => hb, fun hb _ => hb⟩
theorem wordsU_set (p : Nat → Bool) {n i : Nat} (c : Int) (h0 : 0 ≤ c) (hi : c / 64 = (i : Int)) (hin : i < n) : (wordsU p n).setIfInBounds i (.int .u64 ((word (withB p c.toNat) i : Nat) : Int)) = wordsU (withB p c.toNat) n := by
 have e : ∀ j : Nat, ((wordsU p n).setIfInBounds i (.int .u64 ((word (withB p c.toNat) i : Nat) : Int)))[j]? = (wordsU (withB p c.toNat) n)[j]? := fun j => by
  rcases Nat.lt_or_ge j n with hj | hj
  ·rw [wordsU_get _ hj, Array.getElem?_setIfInBounds]
   by_cases hij : i = j
   ·subst hij
    rw [if_pos rfl, if_pos (by simpa [wordsU] using hj)]
   ·rw [if_neg hij, wordsU_get _ hj, with_other p c i j h0 hi (fun e => hij e.symm)]
  ·rw [Array.getElem?_eq_none (by simpa [wordsU] using hj), Array.getElem?_eq_none (by simpa [wordsU] using hj)]
 exact Array.ext_getElem? e
def newB (S : Nat) (p : Nat → Bool) (c : Int) : Bool := fitB S c && !p c.toNat
def putB (S : Nat) (p : Nat → Bool) (c : Int) : Nat → Bool := if newB S p c = true then withB p c.toNat else p
theorem bput_go (g h S : Nat) (p : Nat → Bool) (c : Int) (w : World) (hA : BitsAt w g h S p) (hS : S ≤ 1048576) : Calls Tryz.prog 167 #[.pointer (some ⟨g, 0, none⟩), .int .i64 c] w fun e w' => e = .returned (.bool (newB S p c)) ∧ BitsAt w' g h S (putB S p c) ∧ Moved1 h w w' := by
 have HF := Lib.hid (fits_go S c w)
 have HH := Lib.hid (bhas_go g h S p c w hA hS)
 have x0 := hA.box.cell 0
 have x1 := hA.box.cell 1
 have hlx := hA.box.lt
 simp only [List.getElem?_toArray, List.getElem?_cons_zero, List.getElem?_cons_succ] at x0 x1
 cases hf : fitB S c with
 | false =>
  have hn : newB S p c = false := by unfold newB; rw [hf]; rfl
  have HV := Lib.hid hn
  have HP := Lib.hid (show putB S p c = p by unfold putB; rw [hn]; rfl)
  rw [hf] at HF
  have HA := Lib.hid hA
  clear hn hA
  go_enter Tryz.func167, Tryz.ntmps167
  go_wp2_with fail
  refine HF.out.mono ?_
  rintro e w1 ⟨rfl, rfl⟩
  dsimp only
  go_wp2
  go_light
  go_ret
  exact ⟨ret_b HV.out.symm, by rw [HP.out]; exact HA.out, Moved1.refl _ _⟩
 | true =>
  rw [hf] at HF
  cases hp : p c.toNat with
  | true =>
   have hn : newB S p c = false := by unfold newB; rw [hf, hp]; rfl
   have HV := Lib.hid hn
   have HP := Lib.hid (show putB S p c = p by unfold putB; rw [hn]; rfl)
   have hb : hasB S p c = true := by unfold hasB; rw [hf, hp]; rfl
   rw [hb] at HH
   have HA := Lib.hid hA
   clear hn hA hb
   go_enter Tryz.func167, Tryz.ntmps167
   go_wp2_with fail
   refine HF.out.mono ?_
   rintro e w1 ⟨rfl, rfl⟩
   dsimp only
   go_wp2_with fail
   refine HH.out.mono ?_
   rintro e w1 ⟨rfl, rfl⟩
   dsimp only
   go_wp2
   go_light
   go_ret
   exact ⟨ret_b HV.out.symm, by rw [HP.out]; exact HA.out, Moved1.refl _ _⟩
  | false =>
   have hn : newB S p c = true := by unfold newB; rw [hf, hp]; rfl
   have HV := Lib.hid hn
   have HP := Lib.hid (show putB S p c = withB p c.toNat by unfold putB; rw [hn]; rfl)
   have hb : hasB S p c = false := by unfold hasB; rw [hf, hp]; rfl
   rw [hb] at HH
   unfold fitB at hf
   rw [Bool.and_eq_true, decide_eq_true_eq, decide_eq_true_eq] at hf
   obtain ⟨h0, h1⟩ := hf
   obtain ⟨i, hi⟩ : ∃ i : Nat, c / 64 = (i : Int) := ⟨(c / 64).toNat, by omega⟩
   have hin : i < (S + 63) / 64 := by omega
   have y0 := hA.row.cell i
   have f0 := hA.row.frozen i
   rw [wordsU_get p hin] at y0
   have hB := with_or p c i h0 hi
   have hil : (i : Int) < (((S + 63) / 64 : Nat) : Int) := by omega
   have hly := hA.row.lt
   have h63 := low63 c
   have hm0 : 0 ≤ c % 64 := by omega
   have hm1 : c % 64 < 64 := by omega
   have HA := Lib.hid hA
   have HS := Lib.hid (wordsU_set p (n := (S + 63) / 64) c h0 hi hin)
   have HI := Lib.hid hin
   clear hn hA hb hin
   generalize hnw : (S + 63) / 64 = nw at *
   have HNW := Lib.hid hnw
   clear hnw
   go_enter Tryz.func167, Tryz.ntmps167
   go_wp2_with fail
   refine HF.out.mono ?_
   rintro e w1 ⟨rfl, rfl⟩
   dsimp only
   go_wp2_with fail
   refine HH.out.mono ?_
   rintro e w1 ⟨rfl, rfl⟩
   dsimp only
   go_wp2_with fail
   go_region
   clear x0 x1 y0 f0 hB
   go_wp2
   go_light
   go_ret
   refine ⟨ret_b HV.out.symm, ⟨(HA.out.box.far (p := ⟨h, i, none⟩) HA.out.ne _).drew, ?_, HA.out.ne⟩, ⟨by simp, fun hb hk => (hk.far (p := ⟨h, i, none⟩) hb _).drew, fun hb hle => (hb.setCell (p := ⟨h, i, none⟩) hle _).drew⟩⟩
   have hr := HA.out.row
   rw [HNW.out] at hr ⊢
   rw [HP.out, ← HS.out]
   exact (hr.set_ i _).drew
theorem info_wordC : (Tryz.prog.info? 23).map (fun i => (i.zero, i.size, i.bytes)) = some (some (.int .u64 0), 1, 8) := by kernel_rfl
theorem words_none (n : Nat) : madeCells (Value.int .u64 0).cells (n * 1) = wordsU (fun _ => false) n := by
 refine Array.ext_getElem? fun i => ?_
 rcases Nat.lt_or_ge i n with h | h
 ·rw [wordsU_get _ h, word_none i]
  unfold madeCells
  rw [Array.getElem?_map, Array.getElem?_range, if_pos (by omega)]
  simp [Value.cells, Nat.mod_one]
 ·rw [Array.getElem?_eq_none (by rw [size_madeCells]; omega), Array.getElem?_eq_none (by simpa [wordsU] using h)]
theorem bnew_go (S : Nat) (w : World) (hS : S ≤ 1048576) : Calls Tryz.prog 165 #[.int .i64 (S : Int)] w fun e w' => ∃ g h, e = .returned (.tuple #[.pointer (some ⟨g, 0, none⟩), .int .i64 0]) ∧ BitsAt w' g h S (fun _ => false) ∧ Below w.heap.size w w' ∧ w.heap.size ≤ g ∧ w.heap.size ≤ h := by
 have d0 : decide ((S : Int) < 0) = false := decide_eq_false (by omega)
 have d1 : decide ((1048576 : Int) < (S : Int)) = false := decide_eq_false (by omega)
 obtain ⟨i0, hi0, hz0, hz1, hz2⟩ := info_parts info_wordC
 obtain ⟨n, hn⟩ : ∃ n : Nat, n = (S + 63) / 64 := ⟨_, rfl⟩
 have hq : ((S : Int) + 63) / 64 = (n : Int) := by omega
 have hmk : ∀ W : World, (Instr.makeSlice 224 (.int .i64 (n : Int)) (.int .i64 (n : Int))).run Tryz.prog W = .ok (.slice (some ⟨W.heap.size, 0, none⟩) n n) (W.alloc (.cells (wordsU (fun _ => false) n) 23)) := fun W => by
  have h := run_make (P := Tryz.prog) (w := W) 224 23 i0 _ Tryz.underlying224 hi0 hz0 .i64 .i64 (n : Int) (n : Int) (by omega) (by omega) (by rw [hz2]; omega) (by omega)
  rw [hz1] at h
  rw [← words_none]
  simpa using h
 have HN := Lib.hid hn
 clear hn hz0 hz1 hz2 hi0
 go_enter Tryz.func165, Tryz.ntmps165
 go_wp2
 go_light
 go_ret2
 refine ⟨w.heap.size + 1, w.heap.size, rfl, ⟨?_, ?_, by omega⟩, ((Below.refl _ _).alloc (Nat.le_refl _) _).alloc (by simp) _, by omega, Nat.le_refl _⟩
 ·rw [← HN.out]
  exact Blk.new_at (by simp)
 ·rw [← HN.out]
  exact (Blk.new _ _ _).alloc _
end Go.Proofs.YtofbfafnpdaejaaGreatDoor
namespace Go.Proofs.YtofbfafnpdaejaaGreatDoor
open Go.RowKit Go.Maps
set_option linter.unusedSimpArgs false
set_option linter.unusedVariables false
set_option maxRecDepth 100000
set_option maxHeartbeats 8000000
def linksOf (N : NfaV) (s : Int) : List Int := (N.links.filter fun p => decide (p.1 = s)).map (·.2)
def edgesOf (N : NfaV) (s : Int) : List (Int × Nat × Int) := N.edges.filter fun p => decide (p.1 = s)
structure WorkAt (w : World) (g lm em : Nat) (N : NfaV) (A3 : Option Addr) (k3 : Nat) : Prop where
 box : Blk w g 94 #[.int .i64 N.states, .int .i64 N.start, .map (some lm), .map (some em), .slice A3 N.accept.length k3]
 acc : IntsAt w A3 N.accept
 room : N.accept.length ≤ k3
 ll : N.links.length ≤ 9000000
 el : N.edges.length ≤ 9000000
 tab : TabAt 0 Lib.deBruijn64tab w
 tabl : 0 < w.heap.size
 links : ∀ s : Int, ∃ A c, (∀ w', Below w.heap.size w w' → (Instr.lookup 91 (.map (some lm)) (.int .i64 s) false).run Tryz.prog w' = .ok (.slice A (linksOf N s).length c) w') ∧ IntsAt w A (linksOf N s) ∧ (linksOf N s).length ≤ c
 edges : ∀ s : Int, ∃ A c, (∀ w', Below w.heap.size w w' → (Instr.lookup 92 (.map (some em)) (.int .i64 s) false).run Tryz.prog w' = .ok (.slice A (edgesOf N s).length c) w') ∧ EdgesAt w A (edgesOf N s) ∧ (edgesOf N s).length ≤ c
theorem WorkAt.below {w w' : World} {g lm em : Nat} {N : NfaV} {A3 : Option Addr} {k3 : Nat} (h : WorkAt w g lm em N A3 k3) (hb : Below w.heap.size w w') : WorkAt w' g lm em N A3 k3 :=
 ⟨h.box.below hb h.box.lt, h.acc.below hb, h.room, h.ll, h.el, TabAt.below hb h.tabl h.tab, Nat.lt_of_lt_of_le h.tabl hb.size, fun s => by
  obtain ⟨A, c, h1, h2, h3⟩ := h.links s
  exact ⟨A, c, fun w2 hw => h1 w2 (hb.trans (hw.mono hb.size)), h2.below hb, h3⟩, fun s => by
  obtain ⟨A, c, h1, h2, h3⟩ := h.edges s
  exact ⟨A, c, fun w2 hw => h1 w2 (hb.trans (hw.mono hb.size)), h2.below hb, h3⟩⟩
theorem linksOf_mem {N : NfaV} {a b : Int} : b ∈ linksOf N a ↔ (a, b) ∈ N.links := by
 unfold linksOf
 rw [List.mem_map]
 constructor
 ·rintro ⟨⟨x, y⟩, h, rfl⟩
  obtain ⟨h1, h2⟩ := List.mem_filter.1 h
  have h3 : x = a := of_decide_eq_true h2
  subst h3
  exact h1
 ·exact fun h => ⟨(a, b), List.mem_filter.2 ⟨h, decide_eq_true rfl⟩, rfl⟩
theorem edgesOf_mem {N : NfaV} {a : Int} {p : Int × Nat × Int} : p ∈ edgesOf N a ↔ p ∈ N.edges ∧ p.1 = a := by
 unfold edgesOf
 rw [List.mem_filter, decide_eq_true_eq]
theorem mis_go (g lm em : Nat) (N : NfaV) (A3 : Option Addr) (k3 : Nat) (s : Int) (w : World) (hA : WorkAt w g lm em N A3 k3) :
  Calls Tryz.prog 69 #[.pointer (some ⟨g, 0, none⟩), .int .i64 s] w fun e w' => e = .returned (.bool (isB N.states s)) ∧ w = w' := by
 have x0 := hA.box.cell 0
 have hlx := hA.box.lt
 simp only [List.getElem?_toArray, List.getElem?_cons_zero] at x0
 by_cases h0 : 0 ≤ s
 ·have HV := Lib.hid (show isB N.states s = decide (s < N.states) by unfold isB; rw [decide_eq_true h0]; rfl)
  go_enter Tryz.func69, Tryz.ntmps69
  go_wp2
  go_light
  go_ret
  exact ⟨ret_b HV.out.symm, rfl⟩
 ·have HV := Lib.hid (show isB N.states s = false by unfold isB; rw [decide_eq_false h0]; rfl)
  have d0 : decide (0 ≤ s) = false := decide_eq_false h0
  go_enter Tryz.func69, Tryz.ntmps69
  go_wp2
  go_light
  go_ret
  exact ⟨ret_b HV.out.symm, rfl⟩
def boolsU (q : Nat → Bool) (n : Nat) : Array Value := ((List.range n).map fun i => Value.bool (q i)).toArray
theorem boolsU_get (q : Nat → Bool) {n i : Nat} (h : i < n) : (boolsU q n)[i]? = some (.bool (q i)) := by
 unfold boolsU
 rw [List.getElem?_toArray, List.getElem?_map, List.getElem?_range h]
 rfl
theorem boolsU_set (q : Nat → Bool) (n i : Nat) : (boolsU q n).setIfInBounds i (.bool true) = boolsU (fun j => q j || j == i) n := by
 refine Array.ext_getElem? fun j => ?_
 rcases Nat.lt_or_ge j n with hj | hj
 ·rw [boolsU_get _ hj, Array.getElem?_setIfInBounds]
  by_cases hij : i = j
  ·subst hij
   rw [if_pos rfl, if_pos (by simpa [boolsU] using hj)]
   simp
  ·rw [if_neg hij, boolsU_get _ hj]
   have : (j == i) = false := by simpa using fun e => hij e.symm
   rw [this, Bool.or_false]
 ·rw [Array.getElem?_eq_none (by simpa [boolsU] using hj), Array.getElem?_eq_none (by simpa [boolsU] using hj)]
theorem bool_sizeC (w : World) : (sizeOf 4).run Tryz.prog w = .ok 1 w := by kernel_rfl
theorem index_bool (bq : Array Value) {k : Nat} {c : Bool} (h : bq[k]? = some (.bool c)) (hk : k < 65) (W : World) : (Instr.index 95 (.agg bq) (.int .i64 (k : Int))).run Tryz.prog W = .ok (.bool c) W := by
 have hd : (k : Int) < 65 := by omega
 have hc : bq[k]?.getD undef = .bool c := by rw [h]; rfl
 have u := Tryz.underlying95
 have ub := Tryz.underlying4
 simp [Instr.index, run_underlying u, asIntOf, hd, bool_sizeC, go_sem, part, run_underlying ub, h]
 intro h2
 omega
theorem mlabels_go (g lm em : Nat) (N : NfaV) (A3 : Option Addr) (k3 : Nat) (w : World) (hA : WorkAt w g lm em N A3 k3) (hR : rightN N = true) (A : Option Addr) (cap : Nat) (l : List Int) (hl : IntsAt w A l) (hlen : l.length ≤ 100000000) (hcap : l.length ≤ cap) :
  Calls Tryz.prog 20 #[.pointer (some ⟨g, 0, none⟩), .slice A l.length cap] w fun e w' => ∃ R A' c, IsLabels N l R ∧ e = .returned (.slice A' R.length c) ∧ Below w.heap.size w w' ∧ IntsAt w' A' R ∧ R.length ≤ c := by
 have HA := Lib.hid hA
 have HL := Lib.hid hl
 have HRt := Lib.hid hR
 clear hA hl hR
 go_enter Tryz.func20, Tryz.ntmps20
 go_upto_region 4 with fail
 have hz : Tryz.zeroCells95 = boolsU (fun _ => false) 65 := by kernel_rfl
 rw [hz]
 have HQ := Lib.hid (Blk.new w 95 (boolsU (fun _ => false) 65))
 have HB0 := Lib.hid ((Below.refl w.heap.size w).alloc (Nat.le_refl _) (.cells (boolsU (fun _ => false) 65) 95))
 clear hz
 generalize hg : w.heap.size = gs at *
 generalize w.alloc (.cells (boolsU (fun _ => false) 65) 95) = w1 at *
 go_wp2
 go_loopw [15] (fun i wr => ∃ (k : Nat) (q : Nat → Bool), i = .int .i64 (k : Int) ∧ k ≤ l.length ∧ Hid (∀ x : Nat, q x = true ↔ ∃ (j m : Nat), j < k ∧ l[j]? = some (m : Int) ∧ N.accept[m]? = some (x : Int)) ∧ Hid (Blk wr gs 95 (boolsU q 65)) ∧ Hid (Below gs w wr)) (fun i _ => l.length - (intOf i).toNat)
 case atStart => exact ⟨0, fun _ => false, rfl, Nat.zero_le _, Lib.hid (fun x => ⟨fun h => (by cases h), fun ⟨j, m, h, _⟩ => (by omega)⟩), HQ, HB0⟩
 case round =>
  clear HQ HB0
  obtain ⟨k, q, rfl, hk, HK, HQ, HW⟩ := hrel
  have hWw : Below w.heap.size w wr := by rw [hg]; exact HW.out
  have hA2 := HA.out.below hWw
  have HI := hA2
  have HA2 := Lib.hid hA2
  have hacc := rightN_accept HRt.out
  have hst := rightN_states HRt.out
  have hgl := HQ.out.lt
  have hgs : g ≠ gs := by have := HA.out.box.lt; omega
  by_cases hlt : k < l.length
  ·obtain ⟨s, hs⟩ : ∃ s, l[k]? = some s := ⟨_, List.getElem?_eq_getElem hlt⟩
   obtain ⟨b, o, rfl, hc⟩ := (HL.out.below hWw) k s hs
   have hdl : (k : Int) < (l.length : Int) := by omega
   have hdc : (k : Int) < (cap : Int) := by omega
   have HS := Lib.hid hs
   have HM := Lib.hid (mis_go g lm em N A3 k3 s wr hA2)
   clear hs hA2 HI hWw
   cases hb : isB N.states s with
   | false =>
    rw [hb] at HM
    have HN := Lib.hid (isB_no.1 hb)
    clear hb
    go_wp2_with fail
    refine HM.out.mono ?_
    rintro e w4 ⟨rfl, rfl⟩
    dsimp only
    go_wp2
    go_roundw
    case rel => exact ⟨k + 1, q, by go_num, by omega, Lib.hid (fun x => (HK.out x).trans ⟨fun ⟨j, m, h1, h2⟩ => ⟨j, m, by omega, h2⟩, fun ⟨j, m, h1, h2, h3⟩ => by
     rcases Nat.lt_or_ge j k with h | h
     ·exact ⟨j, m, h, h2, h3⟩
     ·obtain rfl : j = k := by omega
      rw [HS.out] at h2
      have h4 : s = (m : Int) := Option.some.inj h2
      have h5 := (List.getElem?_eq_some_iff.1 h3).1
      have := HN.out
      omega⟩), HQ, HW⟩
    case measure => simp [intOf]; omega
   | true =>
    rw [hb] at HM
    obtain ⟨h0, h1⟩ := isB_iff.1 hb
    obtain ⟨m, rfl⟩ := Int.eq_ofNat_of_zero_le h0
    clear hb
    obtain ⟨a, ha⟩ : ∃ a, N.accept[m]? = some a := ⟨_, List.getElem?_eq_getElem (by omega)⟩
    obtain ⟨ha0, ha1⟩ := hacc.2 a (List.mem_of_getElem? ha)
    obtain ⟨x, rfl⟩ := Int.eq_ofNat_of_zero_le ha0
    obtain ⟨b3, o3, rfl, hc3⟩ := HA2.out.acc m _ ha
    have hroom := HA2.out.room
    have hml : (m : Int) < (N.accept.length : Int) := by omega
    have hmk : (m : Int) < (k3 : Int) := by omega
    have hx65 : (x : Int) < 65 := by omega
    have x4 := HA2.out.box.cell 4
    simp only [List.getElem?_toArray, List.getElem?_cons_zero, List.getElem?_cons_succ] at x4
    have hlx := HA2.out.box.lt
    have q0 := HQ.out.cell x
    have f0 := HQ.out.frozen x
    rw [boolsU_get q (by omega)] at q0
    have HAx := Lib.hid ha
    clear ha
    go_wp2_with fail
    refine HM.out.mono ?_
    rintro e w4 ⟨rfl, rfl⟩
    dsimp only
    go_wp2
    go_light
    have HQ2 := Lib.hid (HQ.out.set_ x (.bool true))
    rw [boolsU_set] at HQ2
    refine ⟨⟨k + 1, fun j => q j || j == x, by go_num, by omega, Lib.hid (fun y => ?_), HQ2, Lib.hid (HW.out.setCell (p := ⟨gs, x, none⟩) (Nat.le_refl _) _)⟩, by simp [intOf]; omega⟩
    rw [Bool.or_eq_true, HK.out y]
    constructor
    ·rintro (⟨j, m', h1, h2⟩ | h)
     ·exact ⟨j, m', by omega, h2⟩
     ·have e : y = x := by simpa using h
      subst e
      exact ⟨k, m, by omega, HS.out, HAx.out⟩
    ·rintro ⟨j, m', h1, h2, h3⟩
     rcases Nat.lt_or_ge j k with h | h
     ·exact .inl ⟨j, m', h, h2, h3⟩
     ·obtain rfl : j = k := by omega
      rw [HS.out] at h2
      have h4 : (m : Int) = (m' : Int) := Option.some.inj h2
      obtain rfl : m = m' := by omega
      rw [HAx.out] at h3
      have h5 : (x : Int) = (y : Int) := Option.some.inj h3
      exact .inr (by simp; omega)
  ·have hdl : ¬ (k : Int) < (l.length : Int) := by omega
   obtain rfl : k = l.length := by omega
   have HF := Lib.hid (show ∀ x : Nat, (q x = true ∧ x ≠ 0) ↔ LabelOf N l (x : Int) from fun x => ⟨fun ⟨h1, h2⟩ => by
    obtain ⟨j, m, _, h3, h4⟩ := (HK.out x).1 h1
    exact ⟨by omega, m, List.mem_of_getElem? h3, h4⟩, fun ⟨h1, m, h2, h3⟩ => by
    obtain ⟨j, hj, e⟩ := List.mem_iff_getElem.1 h2
    exact ⟨(HK.out x).2 ⟨j, m, hj, by rw [List.getElem?_eq_getElem hj, e], h3⟩, by omega⟩⟩)
   have hi65 : (Tryz.prog.info? 95).map (·.size) = some (boolsU q 65).size := by kernel_rfl
   clear HK HI hWw hA2 HA2
   have hbk := fun i (hi : i < 65) => boolsU_get q hi
   generalize boolsU q 65 = bq at *
   have HQ2 := HQ
   clear HQ
   go_wp2_with (refine wpList_load_row rfl _ _ rfl gs rfl _ _ (0, 0) _ HQ2.out Tryz.underlying95 rfl hi65 ?_)
   go_loopw [8, 32] (fun u i wq => ∃ (k : Nat) (R : List Int), i = .int .i64 (k : Int) ∧ k ≤ 65 ∧ R.length ≤ k ∧ Hid (∀ x, x ∈ R ↔ ∃ n : Nat, x = (n : Int) ∧ n < k ∧ q n = true ∧ n ≠ 0) ∧ Hid (Rises R) ∧ Hid (wq.ownsRow gs 3 1 u R.length (intsC R)) ∧ Hid (Below gs w wq)) (fun _ i _ => 65 - (intOf i).toNat)
   case atStart => exact ⟨0, [], rfl, Nat.zero_le _, Nat.le_refl _, Lib.hid (fun x => ⟨fun h => (by simp at h), fun ⟨n, _, h, _⟩ => (by omega)⟩), Lib.hid List.Pairwise.nil, Lib.hid (World.ownsRow_nil _ _ _ _), HW⟩
   case round =>
    obtain ⟨k, R, rfl, hk, hRk, HK, HO, HR, HW⟩ := hrel
    by_cases hlt : k < 65
    ·have hdl : (k : Int) < 65 := by omega
     have hbs : gs ≤ wr.heap.size := by have := HW.out.size; omega
     cases hqk : q k with
     | true =>
      have hix := index_bool bq (hbk k hlt) hlt
      rw [hqk] at hix
      have HY := Lib.hid hqk
      clear hqk
      by_cases hk0 : k = 0
      ·subst hk0
       have hix0 : ∀ W : World, (Instr.index 95 (.agg bq) (.int .i64 0)).run Tryz.prog W = .ok (.bool true) W := hix
       clear hix
       go_wp2
       go_roundw
       case rel => exact ⟨1, R, by go_num, by omega, by omega, Lib.hid (fun x => (HK.out x).trans ⟨fun ⟨n, e, h1, h2⟩ => (by omega), fun ⟨n, e, h1, h2, h3⟩ => (by omega)⟩), HO, HR, HW⟩
       case measure => simp [intOf]
      ·have hkp : (0 : Int) < (k : Int) := by omega
       obtain ⟨v1, w2, hr1, ho1, hb1⟩ := push_own_int wr gs _ R HR.out (k : Int) (by omega) hbs
       have HR1 := Lib.hid hr1
       have HO1 := Lib.hid ho1
       have HW1 := Lib.hid (hb1 gs w HW.out (Nat.le_refl _))
       have HOr := Lib.hid (show Rises (R ++ [(k : Int)]) from List.pairwise_append.2 ⟨HO.out, List.pairwise_cons.2 ⟨fun x h => (by cases h), List.Pairwise.nil⟩, fun x hx y hy => by
        obtain ⟨n, rfl, h1, _⟩ := (HK.out x).1 hx
        rw [List.mem_singleton.1 hy]
        omega⟩)
       have HK1 := Lib.hid (show ∀ x, x ∈ R ++ [(k : Int)] ↔ ∃ n : Nat, x = (n : Int) ∧ n < k + 1 ∧ q n = true ∧ n ≠ 0 from fun x => by
        rw [List.mem_append, HK.out x, List.mem_singleton]
        constructor
        ·rintro (⟨n, e, h1, h2⟩ | rfl)
         ·exact ⟨n, e, by omega, h2⟩
         ·exact ⟨k, rfl, by omega, HY.out, hk0⟩
        ·rintro ⟨n, e, h1, h2, h3⟩
         rcases Nat.lt_or_ge n k with h | h
         ·exact .inl ⟨n, e, h, h2, h3⟩
         ·obtain rfl : n = k := by omega
          exact .inr e)
       have hRl : (R ++ [(k : Int)]).length ≤ k + 1 := by simp; omega
       clear hr1 ho1 hb1 HR HW HK HO
       go_wp2_with (at_builtin; refine wpList_append_by rfl _ _ 38 38 rfl _ _ _ _ rfl rfl HR1.out ?_)
       go_light
       go_roundw
       case rel => exact ⟨k + 1, _, by go_num, by omega, hRl, HK1, HOr, HO1, HW1⟩
       case measure => simp [intOf]; omega
     | false =>
      have hix := index_bool bq (hbk k hlt) hlt
      rw [hqk] at hix
      have HY := Lib.hid hqk
      clear hqk
      go_wp2
      go_roundw
      case rel => exact ⟨k + 1, R, by go_num, by omega, by omega, Lib.hid (fun x => (HK.out x).trans ⟨fun ⟨n, e, h1, h2⟩ => ⟨n, e, by omega, h2⟩, fun ⟨n, e, h1, h2, h3⟩ => by
       rcases Nat.lt_or_ge n k with h | h
       ·exact ⟨n, e, h, h2, h3⟩
       ·obtain rfl : n = k := by omega
        rw [HY.out] at h2
        cases h2⟩), HO, HR, HW⟩
      case measure => simp [intOf]; omega
    ·have hdl : ¬ (k : Int) < 65 := by omega
     obtain rfl : k = 65 := by omega
     have HFin := Lib.hid (show IsLabels N l R from ⟨HO.out, fun x => (HK.out x).trans ⟨fun ⟨n, e, h1, h2, h3⟩ => by
      rw [e]
      exact (HF.out n).1 ⟨h2, h3⟩, fun h => by
      obtain ⟨h1, m, h2, h3⟩ := h
      have h4 := (rightN_accept HRt.out).2 x (List.mem_of_getElem? h3)
      obtain ⟨n, rfl⟩ := Int.eq_ofNat_of_zero_le h4.1
      obtain ⟨h5, h6⟩ := (HF.out n).2 ⟨h1, m, h2, h3⟩
      exact ⟨n, rfl, by omega, h5, h6⟩⟩⟩)
     have HRC := Lib.hid (show ∃ A' c, u8 = .slice A' R.length c ∧ IntsAt wr A' R ∧ R.length ≤ c from by
      obtain ⟨A', c, e⟩ := own_slice HR.out
      refine ⟨A', c, e, ?_, ?_⟩
      ·have h1 := HR.out
       rw [e] at h1
       exact own_intsC h1
      ·rcases Nat.eq_zero_or_pos R.length with h | h
       ·omega
       ·obtain ⟨_, c2, e2, _, _, h3⟩ := own_form_capC HR.out h
        rw [e] at e2
        cases e2
        exact h3)
     obtain ⟨A', c, rfl, hi, hc⟩ := HRC.out
     have HI := Lib.hid hi
     clear HRC hi HR
     go_wp2
     go_light
     go_ret
     exact ⟨R, HFin.out, A', c, rfl, HW.out, HI.out, hc⟩
def ListV (P : List Int → Prop) (w : World) (e : Ending) (w' : World) : Prop := ∃ R A c, P R ∧ e = .returned (.slice A R.length c) ∧ Below w.heap.size w w' ∧ IntsAt w' A R ∧ R.length ≤ c
def ClosC (N : NfaV) : Prop := ∀ (g lm em : Nat) (A3 : Option Addr) (k3 : Nat) (w : World), WorkAt w g lm em N A3 k3 → ∀ (A : Option Addr) (cap : Nat) (l : List Int), IntsAt w A l → l.length ≤ 10000000000000 → l.length ≤ cap →
 Calls Tryz.prog 129 #[.pointer (some ⟨g, 0, none⟩), .slice A l.length cap] w (ListV (IsClos N.links N.states l) w)
theorem mstart_go (g lm em : Nat) (N : NfaV) (hC : ClosC N) (A3 : Option Addr) (k3 : Nat) (w : World) (hA : WorkAt w g lm em N A3 k3) :
  Calls Tryz.prog 70 #[.pointer (some ⟨g, 0, none⟩)] w (ListV (IsClos N.links N.states [N.start]) w) := by
 have x1 := hA.box.cell 1
 have hlx := hA.box.lt
 simp only [List.getElem?_toArray, List.getElem?_cons_zero, List.getElem?_cons_succ] at x1
 have hb1 : Below w.heap.size w (w.alloc (.cells #[.int .i64 N.start] 3)) := (Below.refl _ _).alloc (Nat.le_refl _) _
 have HC := Lib.hid (hC g lm em A3 k3 _ (hA.below hb1) (some ⟨w.heap.size, 0, none⟩) 1 [N.start] (one_int w N.start) (by simp) (by simp))
 have HB := Lib.hid hb1
 clear hA hb1 hC
 go_enter Tryz.func70, Tryz.ntmps70
 go_wp2_with fail
 refine HC.out.mono ?_
 rintro e w2 ⟨R, A, c, hr, rfl, hb2, hi, hc⟩
 have HF := Lib.hid (show _ ∧ _ ∧ _ ∧ _ from ⟨hr, HB.out.trans (hb2.mono HB.out.size), hi, hc⟩)
 clear hr hb2 hi hc HC HB x1
 dsimp only
 go_wp2
 go_light
 go_ret
 exact ⟨R, A, c, HF.out.1, rfl, HF.out.2.1, HF.out.2.2.1, HF.out.2.2.2⟩
def StepC (N : NfaV) : Prop := ∀ (g lm em : Nat) (A3 : Option Addr) (k3 : Nat) (w : World), WorkAt w g lm em N A3 k3 → ∀ (A : Option Addr) (cap : Nat) (l : List Int) (b : Nat), IntsAt w A l → l.length ≤ 1048576 → l.length ≤ cap → b < 256 →
 Calls Tryz.prog 71 #[.pointer (some ⟨g, 0, none⟩), .slice A l.length cap, .int .u8 (b : Int)] w (ListV (IsStep N l b) w)
theorem mrun_go (g lm em : Nat) (N : NfaV) (hC : ClosC N) (hS : StepC N) (hR : rightN N = true) (A3 : Option Addr) (k3 : Nat) (w : World) (hA : WorkAt w g lm em N A3 k3) (A : Option Addr) (cap : Nat) (bs : List Nat) (hb : BytesAt w w.heap.size A bs) (hcap : bs.length ≤ cap) :
  Calls Tryz.prog 21 #[.pointer (some ⟨g, 0, none⟩), .slice A bs.length cap] w (ListV (RunOf N bs) w) := by
 have HC := Lib.hid (mstart_go g lm em N hC A3 k3 w hA)
 have HA := Lib.hid hA
 have HY := Lib.hid hb
 have HSt := Lib.hid hS
 have HRt := Lib.hid hR
 have h140 := hb.2.1
 clear hA hb hC hS hR
 go_enter Tryz.func21, Tryz.ntmps21
 go_wp2_with fail
 refine HC.out.mono ?_
 rintro e w2 ⟨R0, A0, c0, hr, rfl, hb2, hi, hc⟩
 have HR0 := Lib.hid (RunOf.nil hr)
 have HB0 := Lib.hid hb2
 have HI0 := Lib.hid hi
 clear hr hb2 hi HC
 dsimp only
 go_wp2
 go_loopw [5, 12] (fun u i wr => ∃ (k : Nat) (L : List Int) (A' : Option Addr) (c : Nat), i = .int .i64 (k : Int) ∧ u = .slice A' L.length c ∧ L.length ≤ c ∧ k ≤ bs.length ∧ Hid (RunOf N (bs.take k) L) ∧ Hid (IntsAt wr A' L) ∧ Hid (Below w.heap.size w wr)) (fun _ i _ => bs.length - (intOf i).toNat)
 case atStart => exact ⟨0, R0, A0, c0, rfl, rfl, hc, Nat.zero_le _, HR0, HI0, HB0⟩
 case round =>
  clear HR0 HI0 HB0
  obtain ⟨k, L, A', c', rfl, rfl, hLc, hk, HL, HI, HW⟩ := hrel
  have hL64 := runof_len HRt.out HL.out
  by_cases hlt : k < bs.length
  ·obtain ⟨c, hcx⟩ : ∃ c, bs[k]? = some c := ⟨_, List.getElem?_eq_getElem hlt⟩
   have hY2 := HY.out.below HW.out
   obtain ⟨b, o, rfl, hbl, hcell⟩ := hY2.2.2 (by omega)
   have hck := hcell k hlt
   have hbk : byteAt bs k = c := by unfold byteAt; rw [List.getD_eq_getElem?_getD, hcx]; rfl
   rw [hbk] at hck
   have hc256 := HY.out.1 c (List.mem_of_getElem? hcx)
   have hdl : (k : Int) < (bs.length : Int) := by omega
   have hdc : (k : Int) < (cap : Int) := by omega
   have HTk := Lib.hid (show bs.take (k + 1) = bs.take k ++ [c] by rw [List.take_add_one, hcx]; rfl)
   have HS1 := Lib.hid (HSt.out g lm em A3 k3 wr (HA.out.below HW.out) A' c' L c HI.out (by omega) hLc hc256)
   clear hY2 hcell hbk hcx
   go_wp2_with fail
   refine HS1.out.mono ?_
   rintro e w4 ⟨R, A4, c4, hst, rfl, hb4, hi4, hc4⟩
   have HL4 := Lib.hid (RunOf.snoc HL.out hst)
   have HI4 := Lib.hid hi4
   have HW4 := Lib.hid (HW.out.trans (hb4.mono HW.out.size))
   clear hst hi4 hb4 HL HI HW HS1 hck
   dsimp only
   go_wp2
   go_light
   go_roundw
   case rel => exact ⟨k + 1, R, A4, c4, by go_num, rfl, hc4, by omega, by rw [HTk.out]; exact HL4, HI4, HW4⟩
   case measure => simp [intOf]; omega
  ·have hdl : ¬ (k : Int) < (bs.length : Int) := by omega
   obtain rfl : k = bs.length := by omega
   rw [List.take_length] at HL
   go_wp2
   go_light
   go_ret
   exact ⟨L, A', c', HL.out, rfl, HW.out, HI.out, hLc⟩
theorem mtell_go (g lm em : Nat) (N : NfaV) (hC : ClosC N) (hS : StepC N) (hR : rightN N = true) (A3 : Option Addr) (k3 : Nat) (w : World) (hA : WorkAt w g lm em N A3 k3) (A : Option Addr) (cap : Nat) (bs : List Nat) (hb : BytesAt w w.heap.size A bs) (hcap : bs.length ≤ cap) :
  Calls Tryz.prog 22 #[.pointer (some ⟨g, 0, none⟩), .slice A bs.length cap] w fun e w' => ∃ x, TellOf N bs x ∧ e = .returned (.int .i64 x) ∧ Below w.heap.size w w' := by
 have HC := Lib.hid (mrun_go g lm em N hC hS hR A3 k3 w hA A cap bs hb hcap)
 have HA := Lib.hid hA
 have HRt := Lib.hid hR
 clear hA hb hC hS hR
 go_enter Tryz.func22, Tryz.ntmps22
 go_wp2_with fail
 refine HC.out.mono ?_
 rintro e w2 ⟨L, A2, c2, hr, rfl, hb2, hi, hc⟩
 have hL64 := runof_len HRt.out hr
 have HM := Lib.hid (mlabels_go g lm em N A3 k3 w2 (HA.out.below hb2) HRt.out A2 c2 L hi (by omega) hc)
 have HB2 := Lib.hid hb2
 have HRu := Lib.hid hr
 clear hr hb2 hi HC
 dsimp only
 go_wp2_with fail
 refine HM.out.mono ?_
 rintro e w5 ⟨R, A5, c5, hlab, rfl, hb5, hi5, hc5⟩
 have hR65 := labels_len HRt.out hlab
 have HT := Lib.hid (show TellOf N bs (R.headD 0) from ⟨L, R, HRu.out, hlab, rfl⟩)
 have HZ := Lib.hid (HB2.out.trans (hb5.mono HB2.out.size))
 have HI5 := Lib.hid hi5
 clear hlab hi5 hb5 HM
 dsimp only
 cases R with
 | nil =>
  go_wp2
  go_light
  go_ret
  exact ⟨0, HT.out, rfl, HZ.out⟩
 | cons x R =>
  obtain ⟨b, o, rfl, hc0⟩ := HI5.out 0 x rfl
  have hne : (((x :: R).length : Int) == 0) = false := by rw [beq_eq_false_iff_ne]; simp only [List.length_cons]; omega
  rw [Nat.add_zero] at hc0
  have hpos : (0 : Int) < ((x :: R).length : Int) := by simp only [List.length_cons]; omega
  generalize (x :: R).length = n5 at *
  have hnk : (0 : Int) < (c5 : Int) := by omega
  go_wp2
  go_light
  go_ret
  exact ⟨x, HT.out, rfl, HZ.out⟩
theorem low63b (n : Nat) (h : n < 256) : bits .and .u8 (n : Int) 63 = ((n : Int) % 64) := by
 have h63 : (BitVec.ofInt 8 63).toNat = 2 ^ 6 - 1 := by decide
 have key : (BitVec.ofInt 8 (n : Int) &&& BitVec.ofInt 8 63).toNat = ((n : Int) % ((2 ^ 8 : Nat) : Int)).toNat % 2 ^ 6 := by
  rw [BitVec.toNat_and, BitVec.toNat_ofInt, h63, Nat.and_two_pow_sub_one_eq_mod]
 show IntKind.u8.wrap ((BitVec.ofInt 8 (n : Int) &&& BitVec.ofInt 8 63).toNat : Nat) = (n : Int) % 64
 rw [key, IntKind.wrap_u8]
 omega
theorem shas_any (p : Nat → Bool) (c : Nat) (w : World) (h1 : c < 256) :
  Calls Tryz.prog 50 #[.agg #[.int .u64 (word p 0), .int .u64 (word p 1), .int .u64 (word p 2), .int .u64 (word p 3)], .int .u8 (c : Int)] w fun e w' => e = .returned (.bool (p c)) ∧ Below w.heap.size w w' := by
 have h63 := low63b c h1
 have hm0 : 0 ≤ (c : Int) % 64 := by omega
 have hm1 : (c : Int) % 64 < 64 := by omega
 have h0 : (0 : Int) ≤ (c : Int) := by omega
 obtain hq | hq | hq | hq : (c : Int) / 64 = 0 ∨ (c : Int) / 64 = 1 ∨ (c : Int) / 64 = 2 ∨ (c : Int) / 64 = 3 := by omega
 ·have hB := has_bit p (c : Int) 0 h0 hq
  rw [Int.toNat_natCast] at hB
  go_enter Tryz.func50, Tryz.ntmps50
  go_wp2
  go_light
  go_ret
  exact ⟨ret_b hB, (Below.refl _ _).alloc (Nat.le_refl _) _⟩
 ·have hB := has_bit p (c : Int) 1 h0 hq
  rw [Int.toNat_natCast] at hB
  go_enter Tryz.func50, Tryz.ntmps50
  go_wp2
  go_light
  go_ret
  exact ⟨ret_b hB, (Below.refl _ _).alloc (Nat.le_refl _) _⟩
 ·have hB := has_bit p (c : Int) 2 h0 hq
  rw [Int.toNat_natCast] at hB
  go_enter Tryz.func50, Tryz.ntmps50
  go_wp2
  go_light
  go_ret
  exact ⟨ret_b hB, (Below.refl _ _).alloc (Nat.le_refl _) _⟩
 ·have hB := has_bit p (c : Int) 3 h0 hq
  rw [Int.toNat_natCast] at hB
  go_enter Tryz.func50, Tryz.ntmps50
  go_wp2
  go_light
  go_ret
  exact ⟨ret_b hB, (Below.refl _ _).alloc (Nat.le_refl _) _⟩
def capK (k : Nat) : Nat := k * 9000000
theorem capK_succ (k : Nat) : capK (k + 1) = capK k + 9000000 := Nat.succ_mul k 9000000
theorem capK_le {k : Nat} (h : k ≤ 1048576) : capK k ≤ 9500000000000 := by unfold capK; omega
theorem own_list {w : World} {base : Nat} {v : Value} {R : List Int} (h : w.ownsRow base 3 1 v R.length (intsC R)) : ∃ A c, v = .slice A R.length c ∧ IntsAt w A R ∧ R.length ≤ c := by
 obtain ⟨A', c, e⟩ := own_slice h
 refine ⟨A', c, e, ?_, ?_⟩
 ·rw [e] at h
  exact own_intsC h
 ·rcases Nat.eq_zero_or_pos R.length with h0 | h0
  ·omega
  ·obtain ⟨_, c2, e2, _, _, h3⟩ := own_form_capC h h0
   rw [e] at e2
   cases e2
   exact h3
theorem step_more {N : NfaV} {l : List Int} {b k : Nat} {s : Int} {O T : List Int} (hs : l[k]? = some s)
  (hO : ∀ t, t ∈ O ↔ ∃ (j : Nat) (f : Int) (p : Int × Nat × Int), j < k ∧ l[j]? = some f ∧ p ∈ N.edges ∧ p.1 = f ∧ p.2.1.testBit b = true ∧ p.2.2 = t)
  (hT : ∀ t, t ∈ T ↔ t ∈ O ∨ ∃ (m : Nat) (p : Int × Nat × Int), m < (edgesOf N s).length ∧ (edgesOf N s)[m]? = some p ∧ p.2.1.testBit b = true ∧ p.2.2 = t) :
  ∀ t, t ∈ T ↔ ∃ (j : Nat) (f : Int) (p : Int × Nat × Int), j < k + 1 ∧ l[j]? = some f ∧ p ∈ N.edges ∧ p.1 = f ∧ p.2.1.testBit b = true ∧ p.2.2 = t := by
 intro t
 rw [hT t, hO t]
 constructor
 ·rintro (⟨j, f, p, h1, h2⟩ | ⟨m, p, _, h2, h3⟩)
  ·exact ⟨j, f, p, by omega, h2⟩
  ·have h4 := edgesOf_mem.1 (List.mem_of_getElem? h2)
   exact ⟨k, s, p, by omega, hs, h4.1, h4.2, h3⟩
 ·rintro ⟨j, f, p, h1, h2, h3, h4, h5⟩
  rcases Nat.lt_or_ge j k with h | h
  ·exact .inl ⟨j, f, p, h, h2, h3, h4, h5⟩
  ·obtain rfl : j = k := by omega
   rw [hs] at h2
   cases h2
   obtain ⟨m, hm, e⟩ := List.mem_iff_getElem.1 (edgesOf_mem.2 ⟨h3, h4⟩)
   exact .inr ⟨m, p, hm, by rw [List.getElem?_eq_getElem hm, e], h5⟩
theorem mstep_go {N : NfaV} (hC : ClosC N) : StepC N := by
 intro g lm em A3 k3 w hA A cap l b hl hlen hcap hb
 have HA := Lib.hid hA
 have HL := Lib.hid hl
 have HC := Lib.hid hC
 clear hA hl hC
 go_enter Tryz.func71, Tryz.ntmps71
 go_wp2
 go_loopw [7, 16] (fun u i wr => ∃ (k : Nat) (O : List Int), i = .int .i64 (k : Int) ∧ k ≤ l.length ∧ Hid (∀ s, s ∈ O ↔ ∃ (j : Nat) (f : Int) (p : Int × Nat × Int), j < k ∧ l[j]? = some f ∧ p ∈ N.edges ∧ p.1 = f ∧ p.2.1.testBit b = true ∧ p.2.2 = s) ∧ O.length ≤ capK k ∧ Hid (wr.ownsRow w.heap.size 3 1 u O.length (intsC O)) ∧ Hid (Below w.heap.size w wr)) (fun _ i _ => l.length - (intOf i).toNat)
 case atStart => exact ⟨0, [], rfl, Nat.zero_le _, Lib.hid (fun s => ⟨fun h => (by simp at h), fun ⟨j, _, _, h, _⟩ => (by omega)⟩), Nat.zero_le _, Lib.hid (World.ownsRow_nil _ _ _ _), Lib.hid (Below.refl _ _)⟩
 case round =>
  obtain ⟨k, O, rfl, hk, HK, hOl, HR, HW⟩ := hrel
  by_cases hlt : k < l.length
  ·obtain ⟨s, hs⟩ : ∃ s, l[k]? = some s := ⟨_, List.getElem?_eq_getElem hlt⟩
   obtain ⟨b0, o0, rfl, hc⟩ := (HL.out.below HW.out) k s hs
   have hdl : (k : Int) < (l.length : Int) := by omega
   have hdc : (k : Int) < (cap : Int) := by omega
   have HA2 := Lib.hid (HA.out.below HW.out)
   obtain ⟨A4, c4, hlk0, hE, hEc⟩ := HA.out.edges s
   have hlk := hlk0 wr HW.out
   have HE := Lib.hid hE
   have HS := Lib.hid hs
   have x3 := HA2.out.box.cell 3
   simp only [List.getElem?_toArray, List.getElem?_cons_zero, List.getElem?_cons_succ] at x3
   have hlx := HA2.out.box.lt
   have hel : (edgesOf N s).length ≤ 9000000 := Nat.le_trans (List.length_filter_le _ _) HA2.out.el
   have HR0 := HR
   have HW0 := HW
   have hOl0 := hOl
   clear hs hE hlk0
   go_wp2
   go_loopw [7, 27] (fun u i wq => ∃ (j : Nat) (T : List Int), i = .int .i64 (j : Int) ∧ j ≤ (edgesOf N s).length ∧ Hid (∀ t, t ∈ T ↔ t ∈ O ∨ ∃ (m : Nat) (p : Int × Nat × Int), m < j ∧ (edgesOf N s)[m]? = some p ∧ p.2.1.testBit b = true ∧ p.2.2 = t) ∧ T.length ≤ capK k + j ∧ Hid (wq.ownsRow w.heap.size 3 1 u T.length (intsC T)) ∧ Hid (Below w.heap.size w wq)) (fun _ i _ => (edgesOf N s).length - (intOf i).toNat)
   case atStart => exact ⟨0, O, rfl, Nat.zero_le _, Lib.hid (fun t => ⟨.inl, fun h => h.elim id (fun ⟨m, _, h1, _⟩ => (by omega))⟩), by omega, HR, HW⟩
   case round =>
    clear HR HW
    obtain ⟨j, T, rfl, hj, HT, hTl, HR, HW⟩ := hrel
    have hbd := capK_le (Nat.le_trans hk hlen)
    by_cases hjl : j < (edgesOf N s).length
    ·obtain ⟨⟨f, z, t⟩, hp⟩ : ∃ p, (edgesOf N s)[j]? = some p := ⟨_, List.getElem?_eq_getElem hjl⟩
     obtain ⟨c1, o1, rfl, e0, e1, e2, e3, e4, e5⟩ := (HE.out.below HW.out) j (f, z, t) hp
     have hdj : (j : Int) < ((edgesOf N s).length : Int) := by omega
     have hdk : (j : Int) < (c4 : Int) := by omega
     have HP := Lib.hid hp
     clear hp
     dsimp only at e0 e1 e2 e3 e4 e5
     have hbs := HW.out.size
     have HH := Lib.hid (fun W : World => shas_any z.testBit b W hb)
     have hx1 : Below w.heap.size w (wr.alloc (.cells #[.int .i64 f, .int .u64 (word z.testBit 0), .int .u64 (word z.testBit 1), .int .u64 (word z.testBit 2), .int .u64 (word z.testBit 3), .int .i64 t] 89)) := HW.out.alloc hbs _
     have HX := Lib.hid (Blk.new wr 89 #[.int .i64 f, .int .u64 (word z.testBit 0), .int .u64 (word z.testBit 1), .int .u64 (word z.testBit 2), .int .u64 (word z.testBit 3), .int .i64 t])
     have HRx := Lib.hid (show (wr.alloc (.cells #[.int .i64 f, .int .u64 (word z.testBit 0), .int .u64 (word z.testBit 1), .int .u64 (word z.testBit 2), .int .u64 (word z.testBit 3), .int .i64 t] 89)).ownsRow w.heap.size 3 1 u7 T.length (intsC T) from HR.out.alloc _)
     have HX1 := Lib.hid hx1
     have hgx : wr.heap.size = wr.heap.size := rfl
     clear hx1 hc hlk x3
     cases hz : z.testBit b with
     | false =>
      have HZ := Lib.hid hz
      rw [hz] at HH
      clear hz
      go_wp2_with fail
      refine (HH.out _).mono ?_
      rintro e w4 ⟨rfl, hb4⟩
      have HR4 := Lib.hid (own_below HRx.out hb4)
      have HW4 := Lib.hid (HX1.out.trans (hb4.mono HX1.out.size))
      clear hb4 HX HX1 HRx HR HW e0 e1 e2 e3 e4 e5
      dsimp only
      go_wp2
      go_roundw
      case rel => exact ⟨j + 1, T, by go_num, by omega, Lib.hid (fun s' => (HT.out s').trans ⟨fun h => h.elim .inl (fun ⟨m, p, h1, h2⟩ => .inr ⟨m, p, by omega, h2⟩), fun h => h.elim .inl (fun ⟨m, p, h1, h2, h3, h4⟩ => by
       rcases Nat.lt_or_ge m j with h | h
       ·exact .inr ⟨m, p, h, h2, h3, h4⟩
       ·obtain rfl : m = j := by omega
        rw [HP.out] at h2
        cases h2
        have h6 : z.testBit b = true := h3
        rw [HZ.out] at h6
        cases h6)⟩), by omega, HR4, HW4⟩
      case measure => simp [intOf]; omega
     | true =>
      have HZ := Lib.hid hz
      rw [hz] at HH
      clear hz
      go_wp2_with fail
      refine (HH.out _).mono ?_
      rintro e w4 ⟨rfl, hb4⟩
      have hx4 := HX.out.below hb4 HX.out.lt
      have y5 := hx4.cell 5
      have hly := hx4.lt
      simp only [List.getElem?_toArray, List.getElem?_cons_zero, List.getElem?_cons_succ] at y5
      have hr4 := own_below HRx.out hb4
      have hw4 := HX1.out.trans (hb4.mono HX1.out.size)
      obtain ⟨v1, w5, hr5, ho5, hb5⟩ := push_own_int w4 w.heap.size _ T hr4 t (by omega) hw4.size
      have HR5 := Lib.hid hr5
      have HO5 := Lib.hid ho5
      have HW5 := Lib.hid (hb5 w.heap.size w hw4 (Nat.le_refl _))
      clear hb4 HX HX1 HRx HR HW e0 e1 e2 e3 e4 e5 hx4 hr4 hw4 hr5 ho5 hb5
      dsimp only
      go_wp2_with (at_builtin; refine wpList_append_by rfl _ _ 38 38 rfl _ _ _ _ rfl rfl HR5.out ?_)
      go_light
      go_roundw
      case rel => exact ⟨j + 1, T ++ [t], by go_num, by omega, Lib.hid (fun s' => by
       rw [List.mem_append, HT.out s', List.mem_singleton]
       constructor
       ·rintro ((h | ⟨m, p, h1, h2⟩) | rfl)
        ·exact .inl h
        ·exact .inr ⟨m, p, by omega, h2⟩
        ·exact .inr ⟨j, _, by omega, HP.out, HZ.out, rfl⟩
       ·rintro (h | ⟨m, p, h1, h2, h3, h4⟩)
        ·exact .inl (.inl h)
        ·rcases Nat.lt_or_ge m j with h | h
         ·exact .inl (.inr ⟨m, p, h, h2, h3, h4⟩)
         ·obtain rfl : m = j := by omega
          rw [HP.out] at h2
          cases h2
          exact .inr h4.symm), by simp; omega, HO5, HW5⟩
      case measure => simp [intOf]; omega
    ·have hjl2 : ¬ (j : Int) < ((edgesOf N s).length : Int) := by omega
     obtain rfl : j = (edgesOf N s).length := by omega
     have hcs := capK_succ k
     have HK2 := Lib.hid (step_more HS.out HK.out HT.out)
     go_wp2
     go_roundw
     case rel => exact ⟨k + 1, T, by go_num, by omega, HK2, by omega, HR, HW⟩
     case measure => simp [intOf]; omega
  ·have hdl : ¬ (k : Int) < (l.length : Int) := by omega
   obtain rfl : k = l.length := by omega
   have HF := Lib.hid (show ∀ s, s ∈ O ↔ StepTo N l b s from fun s => (HK.out s).trans ⟨fun ⟨j, f, p, h1, h2, h3, h4, h5, h6⟩ => ⟨p, h3, by rw [h4]; exact List.mem_of_getElem? h2, h5, h6⟩, fun ⟨p, h1, h2, h3, h4⟩ => by
    obtain ⟨j, hj, e⟩ := List.mem_iff_getElem.1 h2
    exact ⟨j, p.1, p, hj, by rw [List.getElem?_eq_getElem hj, e], h1, rfl, h3, h4⟩⟩)
   obtain ⟨A5, c5, rfl, hi, hc⟩ := own_list HR.out
   have HC1 := Lib.hid (HC.out g lm em A3 k3 wr (HA.out.below HW.out) A5 c5 O hi (by have := capK_le hlen; omega) hc)
   go_wp2_with fail
   refine HC1.out.mono ?_
   rintro e w5 ⟨R, A6, c6, hcl, rfl, hb5, hi5, hc5⟩
   have HZ := Lib.hid (show _ ∧ _ ∧ _ ∧ _ from ⟨hcl, HW.out.trans (hb5.mono HW.out.size), hi5, hc5⟩)
   clear hcl hb5 hi5 hc5 HC1 HR HW hi hc
   dsimp only
   go_wp2
   go_light
   go_ret
   exact ⟨R, A6, c6, ⟨O, HF.out, HZ.out.1⟩, rfl, HZ.out.2.1, HZ.out.2.2.1, HZ.out.2.2.2⟩
end Go.Proofs.YtofbfafnpdaejaaGreatDoor
namespace Go.Proofs.YtofbfafnpdaejaaGreatDoor
set_option linter.unusedSimpArgs false
set_option linter.unusedVariables false
set_option maxRecDepth 100000
set_option maxHeartbeats 8000000
structure WayC (N : NfaV) (l : List Int) (p : Nat → Bool) (ws : List Int) : Prop where
 within : ∀ c, p c = true → (c : Int) < N.states
 sound : ∀ c, p c = true → Leads N.links (fun s => s ∈ l ∧ 0 ≤ s ∧ s < N.states) (c : Int)
 seen : ∀ s ∈ ws, 0 ≤ s ∧ p s.toNat = true
def Shut (N : NfaV) (p : Nat → Bool) (ws : List Int) (x : Int) (k : Nat) : Prop :=
 ∀ a b : Int, (a, b) ∈ N.links → 0 ≤ a → p a.toNat = true → a ∉ ws → a ≠ x ∨ (∃ j, j < k ∧ (linksOf N x)[j]? = some b) → p b.toNat = true
theorem fitB_iff {S : Nat} {c : Int} : fitB S c = true ↔ 0 ≤ c ∧ c < (S : Int) := by
 unfold fitB
 rw [Bool.and_eq_true, decide_eq_true_eq, decide_eq_true_eq]
theorem newB_iff {S : Nat} {p : Nat → Bool} {c : Int} : newB S p c = true ↔ (0 ≤ c ∧ c < (S : Int)) ∧ p c.toNat = false := by
 unfold newB
 rw [Bool.and_eq_true, fitB_iff]
 simp
theorem withB_iff {p : Nat → Bool} {m c : Nat} : withB p m c = true ↔ p c = true ∨ c = m := by
 unfold withB
 simp
def waitB (S : Nat) (p : Nat → Bool) (ws : List Int) (c : Int) : List Int := if newB S p c = true then ws ++ [c] else ws
theorem putB_iff {S : Nat} {p : Nat → Bool} {c : Int} {m : Nat} : putB S p c m = true ↔ p m = true ∨ ((0 ≤ c ∧ c < (S : Int)) ∧ (m : Int) = c) := by
 unfold putB
 cases h : newB S p c with
 | true =>
  obtain ⟨h1, h2⟩ := newB_iff.1 h
  rw [if_pos rfl, withB_iff]
  constructor
  ·rintro (h3 | h3)
   ·exact .inl h3
   ·exact .inr ⟨h1, by omega⟩
  ·rintro (h3 | ⟨_, h3⟩)
   ·exact .inl h3
   ·exact .inr (by omega)
 | false =>
  rw [if_neg (by decide)]
  constructor
  ·exact .inl
  ·rintro (h3 | ⟨h1, h3⟩)
   ·exact h3
   ·cases hp : p m with
    | true => rfl
    | false =>
     have : newB S p c = true := newB_iff.2 ⟨h1, by rw [← h3]; simpa using hp⟩
     rw [h] at this
     cases this
theorem mem_waitB {S : Nat} {p : Nat → Bool} {ws : List Int} {c s : Int} : s ∈ waitB S p ws c ↔ s ∈ ws ∨ (newB S p c = true ∧ s = c) := by
 unfold waitB
 split
 ·rename_i h
  simp [h]
 ·rename_i h
  simp [h]
theorem WayC.put {N : NfaV} {l : List Int} {p : Nat → Bool} {ws : List Int} (h : WayC N l p ws) {S : Nat} (hS : N.states = (S : Int)) {c : Int} (hc : 0 ≤ c → c < N.states → Leads N.links (fun s => s ∈ l ∧ 0 ≤ s ∧ s < N.states) c) : WayC N l (putB S p c) (waitB S p ws c) := by
 refine ⟨fun m hm => ?_, fun m hm => ?_, fun s hs => ?_⟩
 ·rcases putB_iff.1 hm with h1 | ⟨h1, h2⟩
  ·exact h.within m h1
  ·omega
 ·rcases putB_iff.1 hm with h1 | ⟨h1, h2⟩
  ·exact h.sound m h1
  ·rw [h2]
   exact hc h1.1 (by omega)
 ·rcases mem_waitB.1 hs with h1 | ⟨h1, rfl⟩
  ·exact ⟨(h.seen s h1).1, putB_iff.2 (.inl (h.seen s h1).2)⟩
  ·obtain ⟨h2, h3⟩ := newB_iff.1 h1
   exact ⟨h2.1, putB_iff.2 (.inr ⟨h2, by omega⟩)⟩
theorem Shut.put {N : NfaV} {p : Nat → Bool} {ws : List Int} {x : Int} {k : Nat} (h : Shut N p ws x k) (S : Nat) (c : Int) : Shut N (putB S p c) (waitB S p ws c) x k := by
 intro a b hab h0 hp hw hx
 refine putB_iff.2 (.inl ?_)
 rcases putB_iff.1 hp with h1 | ⟨h1, h2⟩
 ·exact h a b hab h0 h1 (fun e => hw (mem_waitB.2 (.inl e))) hx
 ·cases hn : newB S p c with
  | true => exact absurd (mem_waitB.2 (.inr ⟨hn, by omega⟩)) hw
  | false =>
   have h3 : p a.toNat = true := by
    cases h4 : p a.toNat with
    | true => rfl
    | false =>
     have : newB S p c = true := newB_iff.2 ⟨h1, by rw [show c.toNat = a.toNat by omega]; simpa using h4⟩
     rw [hn] at this
     cases this
   exact h a b hab h0 h3 (fun e => hw (mem_waitB.2 (.inl e))) hx
theorem Shut.more {N : NfaV} {p : Nat → Bool} {ws : List Int} {x : Int} {k : Nat} (h : Shut N p ws x k) {b : Int} (hb : (linksOf N x)[k]? = some b) (hp : p b.toNat = true) : Shut N p ws x (k + 1) := by
 intro a c hac h0 hpa hw hx
 rcases hx with hx | ⟨j, hj, hc⟩
 ·exact h a c hac h0 hpa hw (.inl hx)
 ·rcases Nat.lt_or_ge j k with hlt | hge
  ·exact h a c hac h0 hpa hw (.inr ⟨j, hlt, hc⟩)
  ·obtain rfl : j = k := by omega
   rw [hb] at hc
   cases hc
   exact hp
theorem Shut.all {N : NfaV} {p : Nat → Bool} {ws : List Int} {x : Int} {k : Nat} (h : Shut N p ws x k) (hk : (linksOf N x).length ≤ k) (y : Int) : Shut N p ws y 0 := by
 intro a b hab h0 hpa hw _
 by_cases hax : a = x
 ·subst hax
  obtain ⟨j, hj, e⟩ := List.mem_iff_getElem.1 (linksOf_mem.2 hab)
  exact h a b hab h0 hpa hw (.inr ⟨j, by omega, by rw [List.getElem?_eq_getElem hj, e]⟩)
 ·exact h a b hab h0 hpa hw (.inl hax)
theorem Shut.take {N : NfaV} {p : Nat → Bool} {ws : List Int} {x y : Int} (h : Shut N p (ws ++ [x]) y 0) (hy : y = -1) : Shut N p ws x 0 := by
 intro a b hab h0 hpa hw hx
 refine h a b hab h0 hpa (fun e => ?_) (.inl (by omega))
 rcases List.mem_append.1 e with e | e
 ·exact hw e
 ·have e := List.mem_singleton.1 e
  rcases hx with hx | ⟨j, hj, _⟩
  ·exact hx e
  ·omega
theorem WayC.take {N : NfaV} {l : List Int} {p : Nat → Bool} {ws : List Int} {x : Int} (h : WayC N l p (ws ++ [x])) : WayC N l p ws := ⟨h.within, h.sound, fun s hs => h.seen s (List.mem_append.2 (.inl hs))⟩
def seenL (p : Nat → Bool) (S : Nat) : List Int := (elems p S).map fun c : Nat => (c : Int)
theorem seenL_mem {p : Nat → Bool} {S : Nat} {x : Int} : x ∈ seenL p S ↔ ∃ c : Nat, c < S ∧ p c = true ∧ x = (c : Int) := by
 unfold seenL elems
 rw [List.mem_map]
 constructor
 ·rintro ⟨c, h, rfl⟩
  obtain ⟨h1, h2⟩ := List.mem_filter.1 h
  exact ⟨c, List.mem_range.1 h1, h2, rfl⟩
 ·rintro ⟨c, h1, h2, rfl⟩
  exact ⟨c, List.mem_filter.2 ⟨List.mem_range.2 h1, h2⟩, rfl⟩
theorem seenL_rises (p : Nat → Bool) (S : Nat) : Rises (seenL p S) := by
 unfold seenL elems Rises
 rw [List.pairwise_map]
 refine List.Pairwise.imp (fun h => ?_) (List.Pairwise.filter p List.pairwise_lt_range)
 omega
theorem WayC.clos {N : NfaV} {l : List Int} {p : Nat → Bool} (h : WayC N l p []) {S m : Nat} (hS : N.states = (S : Int)) (hm : S ≤ m) (hl : ∀ s ∈ l, 0 ≤ s → s < N.states → p s.toNat = true) (hs : Shut N p [] (-1) 0) (hR : rightN N = true) : IsClos N.links N.states l (seenL p m) :=
 ⟨seenL_rises p m, fun x => ⟨fun hx => by
  obtain ⟨c, _, h2, rfl⟩ := seenL_mem.1 hx
  exact h.sound c h2, fun hx => by
  have key : 0 ≤ x ∧ p x.toNat = true := by
   induction hx with
   | here hs => exact ⟨hs.2.1, hl _ hs.1 hs.2.1 hs.2.2⟩
   | @link a b _ hk ih => exact ⟨(rightN_links hR hk).2.1, hs a b hk ih.1 ih.2 (by simp) (.inl (by have := ih.1; omega))⟩
  have h1 := h.within x.toNat key.2
  exact seenL_mem.2 ⟨x.toNat, by omega, key.2, by omega⟩⟩⟩
def cntB (p : Nat → Bool) (S : Nat) : Nat := (List.range S).countP p
theorem cntB_le (p : Nat → Bool) (S : Nat) : cntB p S ≤ S := by
 unfold cntB
 have := List.countP_le_length (p := p) (l := List.range S)
 simpa using this
theorem cntB_ext {p q : Nat → Bool} {S : Nat} (h : ∀ c, c < S → p c = q c) : cntB p S = cntB q S := by
 unfold cntB
 refine List.countP_congr fun c hc => ?_
 rw [h c (List.mem_range.1 hc)]
theorem cntB_with {p : Nat → Bool} {m : Nat} (hp : p m = false) : ∀ {S : Nat}, m < S → cntB (withB p m) S = cntB p S + 1 := by
 intro S
 induction S with
 | zero => intro h; omega
 | succ S ih =>
  intro h
  unfold cntB at *
  rw [List.range_succ, List.countP_append, List.countP_append]
  by_cases hm : m = S
  ·subst hm
   have e1 : (List.range m).countP (withB p m) = (List.range m).countP p := List.countP_congr fun c hc => by
    have := List.mem_range.1 hc
    rw [withB_iff]
    constructor
    ·rintro (h | h)
     ·exact h
     ·omega
    ·exact .inl
   have e2 : withB p m m = true := withB_iff.2 (.inr rfl)
   rw [e1]
   simp [e2, hp]
  ·have e1 := ih (by omega)
   have e2 : withB p m S = p S := by
    cases h1 : p S with
    | true => exact withB_iff.2 (.inl h1)
    | false =>
     cases h2 : withB p m S with
     | false => rfl
     | true =>
      rcases withB_iff.1 h2 with h3 | h3
      ·rw [h1] at h3; cases h3
      ·omega
   rw [e1]
   simp [e2]
   omega
def leftB (p : Nat → Bool) (S n : Nat) : Nat := 2 * (S - cntB p S) + n
theorem leftB_put {S : Nat} {p : Nat → Bool} {ws : List Int} {c : Int} : leftB (putB S p c) S (waitB S p ws c).length ≤ leftB p S ws.length := by
 unfold leftB putB waitB
 cases h : newB S p c with
 | true =>
  obtain ⟨h1, h2⟩ := newB_iff.1 h
  have h3 := cntB_with (S := S) h2 (by omega)
  have h4 := cntB_le (withB p c.toNat) S
  rw [if_pos rfl, if_pos rfl, h3]
  rw [h3] at h4
  simp only [List.length_append, List.length_singleton]
  omega
 | false =>
  rw [if_neg (by decide), if_neg (by decide)]
  exact Nat.le_refl _
end Go.Proofs.YtofbfafnpdaejaaGreatDoor
namespace Go.Proofs.YtofbfafnpdaejaaGreatDoor
open Go.RowKit Go.Shelf
set_option linter.unusedSimpArgs false
set_option linter.unusedVariables false
set_option maxRecDepth 100000
set_option maxHeartbeats 8000000
attribute [local go_sem] Oper.semAt_some
def intArg (x : Nat) : Array Value := #[.int .i64 (x : Int)]
theorem beach1_in (n : Nat) (hn : 1 ≤ n) (p : Nat → Bool) (S g h : Nat) (hS : S ≤ 1048576) (l Bs n₀ : Nat) (hBs : 0 < n₀) (hg : g < n₀) (hh : h < n₀) (J Jx : List Nat → World → Prop)
  (hY : ∀ pre x W, J pre W → pre.length < 1048640 → YieldAt Fence.wide (n - 1) Tryz.prog l (intArg x) W fun e W' =>
   (e = .returned (.bool true) ∧ J (pre ++ [x]) W' ∧ Below n₀ W W') ∨ (e = .returned (.bool false) ∧ Jx (pre ++ [x]) W'))
  (W : World) (hs : Blk W Bs 186 #[.pointer (some ⟨g, 0, none⟩)]) (hA : BitsAt W g h S p) (hT : TabAt 0 Lib.deBruijn64tab W) (h0 : J [] W) :
  CallsIn Fence.wide n Tryz.prog 239 #[.func (.yield l) #[] #[], .pointer (some ⟨Bs, 0, none⟩)] W fun e W' => (∃ v, e = .returned v) ∧
   ((∃ ys, ys = elems p (64 * ((S + 63) / 64)) ∧ J ys W') ∨ (∃ pre, (∃ k, k ≤ 64 * ((S + 63) / 64) ∧ pre = elems p k) ∧ Jx pre W')) := by
 refine callsIn_of_wp Tryz.func239 rfl trivial ?_ rfl
 simp only [Tryz.ntmps239, List.size_toArray, List.length_cons, List.length_nil, Nat.reduceAdd, Nat.reduceSub, Array.replicate_succ, Array.replicate_zero, List.push_toArray, List.append_toArray, List.nil_append, List.cons_append]
 have s0 := hs.cell 0
 have x1 := hA.box.cell 1
 have hlx := hA.box.lt
 simp only [List.getElem?_toArray, List.getElem?_cons_zero, List.getElem?_cons_succ] at s0 x1
 have hnw : (S + 63) / 64 ≤ 16385 := by omega
 generalize hnwe : (S + 63) / 64 = nw at *
 have HNW := Lib.hid hnwe
 have HA := Lib.hid hA
 clear hnwe hA
 gi_wp2
 gi_loopw [12] (fun v wr => ∃ i : Nat, i ≤ nw ∧ v = .int .i64 (i : Int) ∧ J (elems p (64 * i)) wr ∧ Below n₀ W wr)
  (fun v _ => nw - (intOf v).toNat)
 case atStart => exact ⟨0, by omega, rfl, h0, Below.refl _ _⟩
 case round =>
  obtain ⟨i, hi, rfl, hJ, hB⟩ := hrel
  by_cases hlt : i < nw
  ·have y0 := (HA.out.row.below hB hh).cell i
   rw [wordsU_get p (by rw [HNW.out]; exact hlt)] at y0
   have hd : (i : Int) < (nw : Int) := by omega
   gi_wp2
   try rw [decide_eq_true hd]
   gi_loopw [4] (fun v w2 => ∃ m : Nat, m ≤ 64 * i + 64 ∧ 64 * i ≤ m ∧ v = .int .u64 ((word (fun c => p c && decide (m ≤ c)) i : Nat) : Int) ∧ J (elems p m) w2 ∧ Below n₀ W w2)
    (fun v _ => (intOf v).toNat)
   case atStart => exact ⟨64 * i, by omega, Nat.le_refl _, by rw [word_start], hJ, hB⟩
   case round =>
    obtain ⟨m, hm1, hm2, rfl, hJ2, hB2⟩ := hrel
    by_cases hz : word (fun c => p c && decide (m ≤ c)) i = 0
    ·have hend := elems_end p i m hm1 hm2 hz
     rw [hz]
     gi_wp2
     exact ⟨⟨i + 1, by omega, by simp, by rw [hend]; exact hJ2, hB2⟩, by simp [intOf]; omega⟩
    ·obtain ⟨hk, hmk, hel, hand, hless⟩ := elems_next p i m hm1 hm2 hz
     have hx := word_lt (fun c => p c && decide (m ≤ c)) i
     generalize hwx : word (fun c => p c && decide (m ≤ c)) i = x at *
     have hx0 : ((x : Int) == 0) = false := by simp; omega
     have hTx : TabAt 0 Lib.deBruijn64tab _ := fun j hj => (hB2.cell (p := ⟨0, j, none⟩) (by show 0 < n₀; omega)).trans (hT j hj)
     have htz := tz_go x hx hz _ hTx
     generalize Lib.ctz 64 x = k at *
     obtain ⟨fn, tmps, assign, body, hy, hR⟩ := hY _ (64 * i + k) _ hJ2 (by have := elems_len p m; omega)
     unfold intArg at hy
     have ev : ((64 * i + k : Nat) : Int) = (i : Int) * 64 + (k : Int) := by omega
     rw [ev] at hy
     have esub : IntKind.u64.wrap ((x : Int) - 1) = ((x - 1 : Nat) : Int) := by rw [IntKind.wrap_u64]; omega
     have eand : bits .and .u64 (x : Int) ((x - 1 : Nat) : Int) = ((word (fun c => p c && decide (64 * i + k + 1 ≤ c)) i : Nat) : Int) := by
      rw [← hand]; exact u64_and_nat x (x - 1) hx (by omega)
     clear hwx
     gi_wp2_with (refine ⟨trivial, ?_⟩; gi_at_call 174; refine (callsIn_wide.2 htz).mono ?_; rintro e w' ⟨rfl, rfl⟩)
     refine hR.mono ?_
     rintro e W3 (⟨rfl, hJ3, hk3⟩ | ⟨rfl, hJx3⟩)
     ·gi_wp2
      go_roundw
      case rel => exact ⟨64 * i + k + 1, by omega, by omega, rfl, by rw [hel]; exact hJ3, hB2.trans hk3⟩
      case measure => simp [intOf]; omega
     ·gi_wp2
      refine bodyPost_ret (results_none rfl _ _ _) rfl ?_
      exact ⟨⟨_, rfl⟩, .inr ⟨_, ⟨64 * i + k + 1, by omega, hel.symm⟩, hJx3⟩⟩
  ·obtain rfl : i = nw := by omega
   gi_wp2
   go_end0
   exact ⟨⟨_, rfl⟩, .inl ⟨_, rfl, hJ⟩⟩
theorem beach_go (g : Nat) (w : World) :
  Calls Tryz.prog 214 #[.pointer (some ⟨g, 0, none⟩)] w fun e w' => e = .returned (.func (.func 239) #[] #[.pointer (some ⟨w.heap.size, 0, none⟩)]) ∧ w' = w.alloc (.cells #[.pointer (some ⟨g, 0, none⟩)] 186) := by
 go_enter Tryz.func214, Tryz.ntmps214
 go_wp2
 go_light
 go_ret
 exact ⟨rfl, rfl⟩
theorem BitsAt.lts {w : World} {g h S : Nat} {p : Nat → Bool} (hA : BitsAt w g h S p) : g < w.heap.size ∧ h < w.heap.size := ⟨hA.box.lt, hA.row.lt⟩
theorem beach_stops (n : Nat) (hn : 1 ≤ n) (p : Nat → Bool) (S g h : Nat) (hS : S ≤ 1048576) (Bs n₀ : Nat) (w : World) (hBs : 0 < n₀) (hg : g < n₀) (hh : h < n₀) (hs : Blk w Bs 186 #[.pointer (some ⟨g, 0, none⟩)]) (hA : BitsAt w g h S p) (hT : TabAt 0 Lib.deBruijn64tab w) :
  SeqStopsK Fence.wide n Tryz.prog 239 #[.pointer (some ⟨Bs, 0, none⟩)] intArg (Below n₀) (fun ys => ys = elems p (64 * ((S + 63) / 64))) (fun pre => ∃ k, k ≤ 64 * ((S + 63) / 64) ∧ pre = elems p k) 1048640 w := fun l J Jx W hW _ _ hY h0 =>
 beach1_in n hn p S g h hS l Bs n₀ hBs hg hh J Jx hY W (hs.below hW hs.lt) (hA.below hW hA.lts.1 hA.lts.2) (TabAt.below hW (World.block_lt_of_cell? w _ (hT 0 (by decide))) hT) h0
def natV (x : Nat) : Value := .int .i64 (x : Int)
theorem bappend_in (n : Nat) (hn : 3 ≤ n) (p : Nat → Bool) (S g h : Nat) (hS : S ≤ 1048576) (Bs : Nat) (w : World) (hs : Blk w Bs 186 #[.pointer (some ⟨g, 0, none⟩)]) (hA : BitsAt w g h S p) (hT : TabAt 0 Lib.deBruijn64tab w) (hw0 : 0 < w.heap.size) :
  CallsIn Fence.wide n Tryz.prog 238 #[.slice none 0 0, .func (.func 239) #[] #[.pointer (some ⟨Bs, 0, none⟩)]] w fun e W' => ∃ v, e = .returned v ∧ W'.ownsRow w.heap.size 3 1 v (elems p (64 * ((S + 63) / 64))).length ((elems p (64 * ((S + 63) / 64))).map natV) ∧ Below w.heap.size w W' := by
 have h1 : 1 ≤ n := by omega
 obtain ⟨i0, hi, hz0, hz1, hz2⟩ := info_parts info_intC
 refine callsIn_of_wp_marks Tryz.func238 rfl trivial ?_ rfl
 simp only [Tryz.ntmps238, List.size_toArray, List.length_cons, List.length_nil, Nat.reduceAdd, Nat.reduceSub, Array.replicate_succ, Array.replicate_zero, List.push_toArray, List.append_toArray, List.nil_append, List.cons_append]
 gi_wp2
 have bO := Boxed.new w 38 (.slice none 0 0)
 have hB0 : Below w.heap.size w (w.alloc (.cells #[.slice none 0 0] 38)) := (Below.refl _ w).alloc (Nat.le_refl _) _
 refine wpIn_rangeFunc_ownG rfl h1 (gf := 239) (lb := #[.pointer (some ⟨Bs, 0, none⟩)]) rfl trivial (enters_of Tryz.func239 (by kernel_rfl) rfl)
  (beach_stops (n - 1) (by omega) p S g h hS Bs w.heap.size _ hw0 hA.lts.1 hA.lts.2 (hs.below hB0 hs.lt) (hA.below hB0 hA.lts.1 hA.lts.2) (TabAt.below hB0 hw0 hT)) belowK_t (belowK_b (by simp)) (Below.refl _ _) (fun _ => rfl)
  (fun pre W => (∃ v, Boxed W w.heap.size 38 v ∧ W.ownsRow w.heap.size 3 1 v pre.length (pre.map natV) ∧ (v = .slice none 0 0 ↔ pre = [])) ∧ Below w.heap.size w W)
  (fun _ _ _ => False)
  (OwnFrom.and (Own.from (holdsRow_own w.heap.size w.heap.size 38 3 1 (fun pre : List Nat => pre.length) (fun pre => pre.map natV) (fun pre v => v = .slice none 0 0 ↔ pre = [])) _) (ownFrom_below (Nat.le_refl _) (by simp)))
  (fun _ _ _ _ _ hs _ _ => hs)
  ⟨⟨_, bO, World.ownsRow_nil _ _ _ _, by simp⟩, hB0⟩
  (fun x => { tmps := #[.slice none 0 0, .func (.func 239) #[] #[.pointer (some ⟨Bs, 0, none⟩)], .pointer (some ⟨w.heap.size, 0, none⟩), undef, .slice none 0 0, .int .i64 (x : Int), .func (.func 239) #[] #[.pointer (some ⟨Bs, 0, none⟩)], .int .i64 (x : Int), undef, undef, undef, undef, undef], defers := [] }) ?assign ?body ?done ?stop
 case assign =>
  intro l x W K hK
  unfold intArg
  gi_wp2
  exact hK
 case body =>
  rintro l pre x W ⟨⟨v, hv, hrow, hnil⟩, hB⟩ hlt
  have hc := hv.cell
  have hf := hv.frozen
  have hlt' : pre.length < 1048640 := hlt
  have hb1 : pre.length + 1 ≤ maxLen := Nat.le_trans (by omega) (show 2000000 ≤ maxLen by decide)
  have hb2 : (pre.length + 1) * 8 ≤ 140737488355328 := by omega
  gi_wp2_with (gi_at_builtin; refine wpListIn_append_own _ rfl _ _ 38 rfl w.heap.size 3 i0 (.int .i64 0) 1 8 Tryz.underlying38 hi hz0 hz1 hz2 rfl (by decide) _ _ _ rfl (hrow.alloc _) ⟨W.heap.size, 0, none⟩ 1 1 [.int .i64 (x : Int)] rfl rfl (cell_one_new _ _ _) (by simp [Value.oneCell']) hb1 hb2 (Nat.le_trans hB.size (by simp)) ?_; intro v' w1 hown' hgrow _; obtain ⟨g', cap', rfl⟩ := ownsRow_succ hown'; obtain ⟨hv1, hv2, hr2, hk2, hb2⟩ := hv.appended (by decide) hrow hB.size (by omega) hown' hgrow; have hc1 := hv1.cell; have hf1 := hv1.frozen)
  exact ⟨hk2.from _, hb2, ⟨_, hv2, by rw [List.length_append, List.map_append]; exact hr2, by simp⟩, hB.trans hb2⟩
 case done =>
  rintro D ys W hD rfl ⟨⟨v, hv, hrow, hnil⟩, hB⟩ hK
  have hc := hv.cell
  gi_wp2
  refine ⟨by simp, .inl ⟨_, _, rfl, run_takeDeferred hK, ?_⟩⟩
  exact ⟨_, results_tmp rfl _ _ _, v, rfl, ownsRow_putObj hrow _ hK rfl, hB.trans (belowK_b (w := w) (Nat.le_refl _) W D _ _ (by simp at hD; omega) hK rfl rfl)⟩
 case stop =>
  rintro D c pre W _ _ h _
  exact h.elim
theorem bcollect_in (n : Nat) (hn : 4 ≤ n) (p : Nat → Bool) (S g h : Nat) (hS : S ≤ 1048576) (Bs : Nat) (w : World) (hs : Blk w Bs 186 #[.pointer (some ⟨g, 0, none⟩)]) (hA : BitsAt w g h S p) (hT : TabAt 0 Lib.deBruijn64tab w) (hw0 : 0 < w.heap.size) :
  CallsIn Fence.wide n Tryz.prog 213 #[.func (.func 239) #[] #[.pointer (some ⟨Bs, 0, none⟩)]] w fun e W' => ∃ v, e = .returned v ∧ W'.ownsRow w.heap.size 3 1 v (elems p (64 * ((S + 63) / 64))).length ((elems p (64 * ((S + 63) / 64))).map natV) ∧ Below w.heap.size w W' := by
 have h1 : 1 ≤ n := by omega
 refine callsIn_of_wp Tryz.func213 rfl trivial ?_ rfl
 simp only [Tryz.ntmps213, List.size_toArray, List.length_cons, List.length_nil, Nat.reduceAdd, Nat.reduceSub, Array.replicate_succ, Array.replicate_zero, List.push_toArray, List.append_toArray, List.nil_append, List.cons_append]
 gi_wp2_with (refine ⟨trivial, ?_⟩; gi_at_call 238; refine (bappend_in (n - 1) (by omega) p S g h hS Bs _ hs hA hT hw0).mono ?_; rintro e w' ⟨v, rfl, hrow, hb⟩)
 go_ret
 exact ⟨v, rfl, hrow, hb⟩
theorem elems_more {p : Nat → Bool} {S m : Nat} (hm : S ≤ m) (hp : ∀ c, p c = true → c < S) : elems p m = elems p S := by
 refine elems_skip' p hm fun c h1 _ => ?_
 cases h : p c with
 | false => rfl
 | true => have := hp c h; omega
theorem ball_go (p : Nat → Bool) (S g h : Nat) (hS : S ≤ 1048576) (hp : ∀ c, p c = true → c < S) (w : World) (hA : BitsAt w g h S p) (hT : TabAt 0 Lib.deBruijn64tab w) (hw0 : 0 < w.heap.size) :
  Calls Tryz.prog 168 #[.pointer (some ⟨g, 0, none⟩)] w (ListV (fun L => L = seenL p S) w) := by
 have HE := Lib.hid (beach_go g w)
 have hb0 : Below w.heap.size w (w.alloc (.cells #[.pointer (some ⟨g, 0, none⟩)] 186)) := (Below.refl _ w).alloc (Nat.le_refl _) _
 have HC := Lib.hid (callsIn_wide.1 (bcollect_in 4 (Nat.le_refl _) p S g h hS w.heap.size _ (Blk.new _ _ _) (hA.below hb0 hA.lts.1 hA.lts.2) (TabAt.below hb0 hw0 hT) (by first | omega | (simp; done) | (simp; omega))))
 have HB := Lib.hid hb0
 have HP := Lib.hid hp
 clear hb0 hA hT hp
 go_enter Tryz.func168, Tryz.ntmps168
 go_wp2_with fail
 refine HE.out.mono ?_
 rintro e w1 ⟨rfl, rfl⟩
 dsimp only
 go_wp2_with fail
 refine HC.out.mono ?_
 rintro e w2 ⟨v, rfl, hrow, hb⟩
 rw [elems_more (by omega) HP.out] at hrow
 have hrow2 : w2.ownsRow (w.alloc (.cells #[.pointer (some ⟨g, 0, none⟩)] 186)).heap.size 3 1 v (seenL p S).length (intsC (seenL p S)) := by
  unfold seenL intsC
  rw [List.length_map, List.map_map]
  exact hrow
 obtain ⟨A, c, rfl⟩ := own_slice hrow2
 have HR := Lib.hid hrow2
 have HB2 := Lib.hid (HB.out.trans (hb.mono (by simp)))
 clear hrow hrow2 hb HC HE
 dsimp only
 go_wp2
 go_light
 go_ret
 refine ⟨_, A, c, rfl, rfl, HB2.out, own_intsC HR.out, ?_⟩
 rcases Nat.eq_zero_or_pos (seenL p S).length with h | h
 ·omega
 ·obtain ⟨_, c2, e2, _, _, h3⟩ := own_form_capC HR.out h
  cases e2
  exact h3
end Go.Proofs.YtofbfafnpdaejaaGreatDoor
namespace Go.Proofs.YtofbfafnpdaejaaGreatDoor
open Go.RowKit Go.MapKept Go.ChangeMaps
set_option linter.unusedSimpArgs false
set_option linter.unusedVariables false
set_option maxRecDepth 100000
set_option maxHeartbeats 8000000
section
variable {α : Type} {enc : α → List Value} {w w1 w2 : World} {base sz b : Nat} {e k t E : TypeId} {f : Int → List α}
def GrpAt (enc : α → List Value) (w : World) (base : Nat) (e : TypeId) (sz b : Nat) (f : Int → List α) : Prop :=
 ∃ es clock, w.heap[b]? = some (.map es clock) ∧ Stamped es clock ∧ b < base ∧
  (∀ x ∈ es.toList, ∃ s : Int, x.key = .int .i64 s ∧ w.ownsRow base e sz x.val (f s).length ((f s).flatMap enc)) ∧
  (∀ s : Int, f s ≠ [] → ∃ x ∈ es.toList, x.key = .int .i64 s) ∧
  (∀ x ∈ es.toList, ∀ y ∈ es.toList, x.key ≠ y.key → x.val.ownBlock = none ∨ x.val.ownBlock ≠ y.val.ownBlock)
theorem GrpAt.lt (h : GrpAt enc w base e sz b f) : b < w.heap.size := by
 obtain ⟨es, clock, hb, _⟩ := h
 exact (Array.getElem?_eq_some_iff.1 hb).1
theorem GrpAt.stay (h : GrpAt enc w base e sz b f) (hs : ∀ j o, w.heap[j]? = some o → j = b ∨ (∃ cur, o = .cells cur e (0, 0)) → w1.heap[j]? = some o) : GrpAt enc w1 base e sz b f := by
 obtain ⟨es, clock, hb, h1, h2, h3, h4, h5⟩ := h
 refine ⟨es, clock, hs b _ hb (.inl rfl), h1, h2, fun x hx => ?_, h4, h5⟩
 obtain ⟨s, e1, hr⟩ := h3 x hx
 refine ⟨s, e1, ownsRow_block hr fun j hj => ?_⟩
 rcases hr.2 with ⟨e2, _⟩ | ⟨g, cap, cur, e2, _, hg, _⟩
 ·rw [e2] at hj
  simp [Value.ownBlock] at hj
 ·rw [e2] at hj
  obtain rfl : g = j := by simpa [Value.ownBlock] using hj
  rw [hg]
  exact hs g _ hg (.inr ⟨cur, rfl⟩)
theorem GrpAt.below (h : GrpAt enc w base e sz b f) (hb : Below w.heap.size w w1) : GrpAt enc w1 base e sz b f :=
 h.stay fun j o hj _ => (hb.block j (Array.getElem?_eq_some_iff.1 hj).1).trans hj
variable {P : Program}
theorem GrpAt.look (h : GrpAt enc w base e sz b f) (ht : P.underlying t = some (.map k E)) (hk : P.underlying k = some (.int .i64)) (hz : ∀ W, (zeroValue E).run P W = .ok (.slice none 0 0) W) (s : Int) :
  ∃ v, (∀ W, W.heap[b]? = w.heap[b]? → (Instr.lookup t (.map (some b)) (.int .i64 s) false).run P W = .ok v W) ∧ w.ownsRow base e sz v (f s).length ((f s).flatMap enc) ∧
   ∀ es clock, w.heap[b]? = some (.map es clock) → ∀ x ∈ es.toList, x.key ≠ .int .i64 s → x.val.ownBlock = none ∨ x.val.ownBlock ≠ v.ownBlock := by
 obtain ⟨es, clock, hb, h1, h2, h3, h4, h5⟩ := h
 have hks : ∀ x ∈ es.toList, IsKey (.int .i64) x.key := fun x hx => by
  obtain ⟨s', e1, _⟩ := h3 x hx
  rw [e1]
  rfl
 have hkey : IsKey (.int .i64) (.int .i64 s) := rfl
 rcases findNow_spec hkey es.toList 0 hks with ⟨q1, q2⟩ | ⟨j, e0, q1, q2, q3⟩
 ·have hf : f s = [] := by
   cases hfs : f s with
   | nil => rfl
   | cons a l =>
    obtain ⟨x, hx, e1⟩ := h4 s (by rw [hfs]; simp)
    exact absurd e1 (q2 x hx)
  refine ⟨.slice none 0 0, ?_, ?_, fun es' clock' hb' x hx hne => by
   cases hx' : x.val.ownBlock with
   | none => exact .inl rfl
   | some g => exact .inr (by simp [Value.ownBlock])⟩
  ·intro W hW
   have hb := hW.trans hb
   simp [Instr.lookup, run_underlying ht, MapKept.run_getObj_map hb, run_checkKey hk hkey, run_findKey hk q1, hz, Result.andThen]
  ·rw [hf]
   exact World.ownsRow_nil _ _ _ _
 ·have hm := List.mem_of_getElem? q2
  obtain ⟨s', e1, hr⟩ := h3 e0 hm
  rw [q3] at e1
  obtain rfl : s = s' := by injection e1
  refine ⟨e0.val, ?_, hr, fun es' clock' hb' x hx hne => ?_⟩
  ·intro W hW
   have hb := hW.trans hb
   simp [Instr.lookup, run_underlying ht, MapKept.run_getObj_map hb, run_checkKey hk hkey, run_findKey hk q1, Result.andThen]
  ·rw [hb] at hb'
   cases hb'
   exact h5 x hx e0 hm (by rw [q3]; exact hne)
theorem GrpAt.store (h : GrpAt enc w base e sz b f) (ht : P.underlying t = some (.map k E)) (hk : P.underlying k = some (.int .i64)) (s : Int) {v v' : Value} {n : Nat} {xs : List Value} {a : α} (hv : w.ownsRow base e sz v n xs)
  (hap : ∀ es clock, w.heap[b]? = some (.map es clock) → ∀ x ∈ es.toList, x.key ≠ .int .i64 s → x.val.ownBlock = none ∨ x.val.ownBlock ≠ v.ownBlock)
  (hg : ∀ j, j < w.heap.size → some j ≠ v.ownBlock → w1.heap[j]? = w.heap[j]?) (hown : w1.ownsRow base e sz v' (f s ++ [a]).length ((f s ++ [a]).flatMap enc)) (hloc : v'.ownBlock = v.ownBlock ∨ ∃ g, v'.ownBlock = some g ∧ w.heap.size ≤ g) :
  ∃ w2, (Instr.mapUpdate t (.map (some b)) (.int .i64 s) v').run P w1 = .ok () w2 ∧ GrpAt enc w2 base e sz b (fun x => if x = s then f s ++ [a] else f x) ∧ w1.grownBy w2 (some b) := by
 obtain ⟨es, clock, hb, h1, h2, h3, h4, h5⟩ := h
 have hblt : b < w.heap.size := (Array.getElem?_eq_some_iff.1 hb).1
 have hvb : some b ≠ v.ownBlock := fun e1 => by
  have := (hv.lt b e1.symm).1
  omega
 have hb1 : w1.heap[b]? = some (.map es clock) := (hg b hblt hvb).trans hb
 have hks : ∀ x ∈ es.toList, IsKey (.int .i64) x.key := fun x hx => by
  obtain ⟨s', e1, _⟩ := h3 x hx
  rw [e1]
  rfl
 have hkey : IsKey (.int .i64) (.int .i64 s) := rfl
 have key : ∃ es' clock', (Instr.mapUpdate t (.map (some b)) (.int .i64 s) v').run P w1 = .ok () (setBlock w1 b (.map es' clock')) ∧ Stamped es' clock' ∧
   (∀ x ∈ es'.toList, (x ∈ es.toList ∧ x.key ≠ .int .i64 s) ∨ (x.key = .int .i64 s ∧ x.val = v')) ∧ (∃ x ∈ es'.toList, x.key = .int .i64 s) ∧ (∀ x ∈ es.toList, ∃ y ∈ es'.toList, y.key = x.key) := by
  rcases findNow_spec hkey es.toList 0 hks with ⟨q1, q2⟩ | ⟨j, e0, q1, q2, q3⟩
  ·refine ⟨es.push ⟨.int .i64 s, v', clock⟩, clock + 1, ?_, stamped_push h1 q2, fun x hx => ?_, ⟨⟨.int .i64 s, v', clock⟩, by simp, rfl⟩, fun x hx => ⟨x, by simp only [Array.toList_push, List.mem_append]; exact .inl hx, rfl⟩⟩
   ·simp [Instr.mapUpdate, run_underlying ht, MapKept.run_getObj_map hb1, run_checkKey hk hkey, run_findKey hk q1, MapKept.run_setObj_map _ hb1, Result.andThen, setBlock]
   ·simp only [Array.toList_push, List.mem_append, List.mem_singleton] at hx
    rcases hx with hx | rfl
    ·exact .inl ⟨hx, q2 x hx⟩
    ·exact .inr ⟨rfl, rfl⟩
  ·have hj : es[j]? = some e0 := by simpa using q2
   have hkeyf : ∀ e', es[j]? = some e' → ({ e' with key := .int .i64 s, val := v' } : MapEntry).key = e'.key := fun e' he' => by rw [hj] at he'; cases he'; exact q3.symm
   have hlist : (es.modify j (fun e' => { e' with key := .int .i64 s, val := v' })).toList = es.toList.set j { e0 with key := .int .i64 s, val := v' } := by rw [Array.toList_modify, modify_eq_set _ _ _ _ q2]
   refine ⟨es.modify j (fun e' => { e' with key := .int .i64 s, val := v' }), clock, ?_, stamped_modify h1 _ _ (fun _ _ => rfl) (fun e' _ he' => hkeyf e' he'), fun x hx => ?_, ?_, fun x hx => ?_⟩
   ·simp [Instr.mapUpdate, run_underlying ht, MapKept.run_getObj_map hb1, run_checkKey hk hkey, run_findKey hk q1, hj, q3, run_keyThatStays hkey, MapKept.run_setObj_map _ hb1, Result.andThen, setBlock]
   ·rw [hlist] at hx
    obtain ⟨i, hi, ex⟩ := List.getElem_of_mem hx
    rw [List.getElem_set] at ex
    split at ex
    ·rw [← ex]
     exact .inr ⟨rfl, rfl⟩
    ·rename_i hne
     have hi' : i < es.toList.length := by simpa using hi
     refine .inl ⟨ex ▸ List.getElem_mem hi', fun e1 => hne ?_⟩
     have hnd := h1.2.2
     have hjl := (List.getElem?_eq_some_iff.1 q2).1
     have e2 : (es.toList.map (·.key))[j]? = (es.toList.map (·.key))[i]? := by
      rw [List.getElem?_map, List.getElem?_map, q2, List.getElem?_eq_getElem hi', ex]
      simp [q3, e1]
     exact (List.getElem?_inj (by simpa using hjl) hnd).1 e2
   ·rw [hlist]
    refine ⟨{ e0 with key := .int .i64 s, val := v' }, List.mem_iff_getElem?.2 ⟨j, ?_⟩, rfl⟩
    rw [List.getElem?_set_self (List.getElem?_eq_some_iff.1 q2).1]
   ·have hm : x.key ∈ (es.modify j (fun e' => { e' with key := .int .i64 s, val := v' })).toList.map (·.key) := by
     rw [modify_keys j _ hkeyf]
     exact List.mem_map.2 ⟨x, hx, rfl⟩
    obtain ⟨y, hy, e1⟩ := List.mem_map.1 hm
    exact ⟨y, hy, e1⟩
 obtain ⟨es', clock', hrun, hst, hwho, hhas, hold⟩ := key
 have hg2 : w1.grownBy (setBlock w1 b (.map es' clock')) (some b) := ⟨rfl, rfl, rfl, by simp [setBlock], fun i _ hi => heap_setBlock_other hb1 _ (fun e1 => hi (by rw [e1]))⟩
 have own_ne : ∀ {u : Value} {m : Nat} {ys : List Value}, w1.ownsRow base e sz u m ys → u.ownBlock = none ∨ u.ownBlock ≠ some b := fun {u m ys} ho => by
  cases hu : u.ownBlock with
  | none => exact .inl rfl
  | some g =>
   refine .inr fun e1 => ?_
   have := (ho.lt g hu).1
   cases e1
   omega
 have hstay : ∀ x ∈ es.toList, x.key ≠ .int .i64 s → ∃ s' : Int, x.key = .int .i64 s' ∧ (setBlock w1 b (.map es' clock')).ownsRow base e sz x.val (f s').length ((f s').flatMap enc) := fun x hx hne => by
  obtain ⟨s', e1, hr⟩ := h3 x hx
  have h6 : w1.ownsRow base e sz x.val (f s').length ((f s').flatMap enc) := ownsRow_block hr fun j hj => hg j (hr.lt j hj).2 (fun e2 => by
   rcases hap es clock hb x hx hne with h7 | h7
   ·rw [h7] at hj; cases hj
   ·exact h7 (hj.trans e2))
  exact ⟨s', e1, h6.kept hg2 (own_ne h6)⟩
 have hfar : ∀ x ∈ es.toList, x.key ≠ .int .i64 s → x.val.ownBlock = none ∨ x.val.ownBlock ≠ v'.ownBlock := fun x hx hne => by
  rcases hloc with h7 | ⟨g, h7, h8⟩
  ·rw [h7]
   exact hap es clock hb x hx hne
  ·cases hx' : x.val.ownBlock with
   | none => exact .inl rfl
   | some gx =>
    obtain ⟨s', e1, hr⟩ := h3 x hx
    have := (hr.lt gx hx').2
    refine .inr fun e2 => ?_
    rw [h7] at e2
    cases e2
    omega
 refine ⟨_, hrun, ⟨es', clock', heap_setBlock_same hb1 _, hst, h2, fun x hx => ?_, fun s' hs' => ?_, fun x hx y hy hne => ?_⟩, hg2⟩
 ·rcases hwho x hx with ⟨h6, h7⟩ | ⟨h6, h7⟩
  ·obtain ⟨s', e1, h8⟩ := hstay x h6 h7
   refine ⟨s', e1, ?_⟩
   have : s' ≠ s := fun e2 => h7 (by rw [e1, e2])
   simp only [if_neg this]
   exact h8
  ·refine ⟨s, h6, ?_⟩
   simp only [if_pos]
   rw [h7]
   exact hown.kept hg2 (own_ne hown)
 ·by_cases hs : s' = s
  ·subst hs
   exact hhas
  ·simp only [if_neg hs] at hs'
   obtain ⟨x, hx, e1⟩ := h4 s' hs'
   obtain ⟨y, hy, e2⟩ := hold x hx
   exact ⟨y, hy, e2.trans e1⟩
 ·rcases hwho x hx with ⟨h6, h7⟩ | ⟨h6, h7⟩
  ·rcases hwho y hy with ⟨h8, h9⟩ | ⟨h8, h9⟩
   ·exact h5 x h6 y h8 hne
   ·rw [h9]
    exact hfar x h6 h7
  ·rcases hwho y hy with ⟨h8, h9⟩ | ⟨h8, h9⟩
   ·rw [h7]
    rcases hfar y h8 h9 with h10 | h10
    ·cases hv' : v'.ownBlock with
     | none => exact .inl rfl
     | some g => exact .inr (by rw [h10]; simp)
    ·exact .inr (fun e1 => h10 e1.symm)
   ·exact absurd (h6.trans h8.symm) hne
theorem GrpAt.step (h : GrpAt enc w base e sz b f) (ht : P.underlying t = some (.map k E)) (hk : P.underlying k = some (.int .i64)) (hz : ∀ W, (zeroValue E).run P W = .ok (.slice none 0 0) W) (hE : P.underlying E = some (.slice e))
  (i : TypeInfo) (z : Value) (bytes : Nat) (hi : P.info? e = some i) (hiz : i.zero = some z) (hi1 : i.size = sz) (hi2 : i.bytes = bytes) (hi3 : z.cells.size = sz) (hsz : 0 < sz)
  (s : Int) (a : α) (cs : Array Value) (hcs : cs.toList = enc a) (hlen : (enc a).length = sz) (hone : ∀ u ∈ enc a, u.oneCell' = true) (h63 : (f s).length + 1 ≤ maxLen) (hby : ((f s).length + 1) * bytes ≤ 140737488355328) (hbase : base ≤ w.heap.size) :
  ∃ v v' w1 w2, (∀ W, W.heap[b]? = w.heap[b]? → (Instr.lookup t (.map (some b)) (.int .i64 s) false).run P W = .ok v W) ∧
   (Builtin.append_ #[E, E] E #[v, .slice (some ⟨w.heap.size, 0, none⟩) 1 1]).run P ((w.alloc (.cells cs e)).drew) = .ok v' w1 ∧
   (Instr.mapUpdate t (.map (some b)) (.int .i64 s) v').run P w1 = .ok () w2 ∧
   GrpAt enc w2 base e sz b (fun x => if x = s then f s ++ [a] else f x) ∧
   (∀ j, j < w.heap.size → j ≠ b → (j < base ∨ (∀ cur, w.heap[j]? ≠ some (.cells cur e (0, 0))) ∨ some j ≠ v.ownBlock) → w1.heap[j]? = w.heap[j]? ∧ w2.heap[j]? = w.heap[j]?) ∧
   (∀ B a0, Below B a0 w → B ≤ base → B ≤ b → Below B a0 w2) ∧ w.heap.size ≤ w2.heap.size := by
 obtain ⟨v, hlk, hrow, hap⟩ := h.look ht hk hz s
 have hb0 : Below w.heap.size w (w.alloc (.cells cs e)).drew := ((Below.refl _ _).alloc (Nat.le_refl _) _).drew
 have hnews : ∀ j u, (enc a)[j]? = some u → (w.alloc (.cells cs e)).drew.cell? ((⟨w.heap.size, 0, none⟩ : Addr).add j) = some u := fun j u hj => by
  have h1 := ((Blk.new w e cs).drew).cell j
  rw [addr_plusC, Nat.zero_add, h1, ← Array.getElem?_toList, hcs, hj]
 obtain ⟨v', w1, hr1, ho1, hg1, _, hl1⟩ := run_append_own_at (P := P) ((w.alloc (.cells cs e)).drew) base E E e i z sz bytes hE hi hiz hi1 hi2 hi3 hsz v (f s).length _ ((hrow.alloc _).drew) ⟨w.heap.size, 0, none⟩ 1 1 (enc a) (by rw [hlen, Nat.one_mul]) hnews hone h63 hby (by simp; omega)
 have hkeep : ∀ j, j < w.heap.size → some j ≠ v.ownBlock → w1.heap[j]? = w.heap[j]? := fun j hj hne => (hg1.block j (by simp; omega) hne).trans (hb0.block j hj)
 have hown : w1.ownsRow base e sz v' (f s ++ [a]).length ((f s ++ [a]).flatMap enc) := by
  rw [List.length_append, List.flatMap_append]
  simpa using ho1
 obtain ⟨w2, hr2, hG2, hg2⟩ := h.store ht hk s hrow hap hkeep hown (hl1.imp id fun e1 => ⟨_, e1, by simp⟩)
 refine ⟨v, v', w1, w2, hlk, hr1, hr2, hG2, fun j hj hjb ho => ?_, fun B a0 hB h1 h2 => ?_, ?_⟩
 ·have hne : some j ≠ v.ownBlock := fun e1 => by
   rcases hrow.2 with ⟨rfl, _⟩ | ⟨g, cap, cur, rfl, hbg, hh, _⟩
   ·simp [Value.ownBlock] at e1
   ·have e2 : j = g := by simpa [Value.ownBlock] using e1
    subst e2
    rcases ho with ho | ho | ho
    ·omega
    ·exact ho cur hh
    ·exact ho rfl
  have h1 := hkeep j hj hne
  exact ⟨h1, (hg2.block j (by have := hg1.size; simp at this; omega) (fun e1 => hjb (by simpa using e1))).trans h1⟩
 ·have hB0 : Below B a0 ((w.alloc (.cells cs e)).drew) := (hB.alloc (by omega) _).drew
  have hB1 := below_grown hB0 hg1 ((hrow.alloc (.cells cs e)).drew) h1 (by simp; omega)
  exact hB1.grown hg2 (by have := hg1.size; simp at this; omega) (fun k e1 => by cases e1; exact h2)
 ·have h1 := hg1.size
  have h2 := hg2.size
  simp at h1
  omega
end
end Go.Proofs.YtofbfafnpdaejaaGreatDoor
namespace Go.Proofs.YtofbfafnpdaejaaGreatDoor
open Go.RowKit Go.Maps
set_option linter.unusedSimpArgs false
set_option linter.unusedVariables false
set_option maxRecDepth 100000
set_option maxHeartbeats 8000000
def lkF (L : List (Int × Int)) (s : Int) : List Int := (L.filter fun p => decide (p.1 = s)).map (·.2)
def edF (L : List (Int × Nat × Int)) (s : Int) : List (Int × Nat × Int) := L.filter fun p => decide (p.1 = s)
theorem lkF_snoc (L : List (Int × Int)) (p : Int × Int) : (fun x => if x = p.1 then lkF L p.1 ++ [p.2] else lkF L x) = lkF (L ++ [p]) := by
 funext x
 unfold lkF
 rw [List.filter_append, List.map_append]
 by_cases h : x = p.1
 ·subst h
  simp
 ·have h2 : ¬ p.1 = x := fun e => h e.symm
  simp [h, h2]
theorem edF_snoc (L : List (Int × Nat × Int)) (p : Int × Nat × Int) : (fun x => if x = p.1 then edF L p.1 ++ [p] else edF L x) = edF (L ++ [p]) := by
 funext x
 unfold edF
 rw [List.filter_append]
 by_cases h : x = p.1
 ·subst h
  simp
 ·have h2 : ¬ p.1 = x := fun e => h e.symm
  simp [h, h2]
theorem lkF_len (L : List (Int × Int)) (s : Int) : (lkF L s).length ≤ L.length := by unfold lkF; rw [List.length_map]; exact List.length_filter_le _ _
theorem edF_len (L : List (Int × Nat × Int)) (s : Int) : (edF L s).length ≤ L.length := by unfold edF; exact List.length_filter_le _ _
def inI (a : Int) : List Value := [.int .i64 a]
theorem inI_flat (l : List Int) : l.flatMap inI = intsC l := by
 induction l with
 | nil => rfl
 | cons a l ih => rw [List.flatMap_cons, ih]; rfl
def edI (p : Int × Nat × Int) : List Value := [.int .i64 p.1, .int .u64 (word p.2.1.testBit 0), .int .u64 (word p.2.1.testBit 1), .int .u64 (word p.2.1.testBit 2), .int .u64 (word p.2.1.testBit 3), .int .i64 p.2.2]
theorem edI_get : ∀ (l : List (Int × Nat × Int)) (k : Nat) (p : Int × Nat × Int), l[k]? = some p → ∀ j, j < 6 → (l.flatMap edI)[k * 6 + j]? = (edI p)[j]?
 | [], k, p, h, _, _ => by simp at h
 | x :: l, 0, p, h, j, hj => by
  simp at h
  subst h
  rw [List.flatMap_cons, Nat.zero_mul, Nat.zero_add, List.getElem?_append_left (by simpa [edI] using hj)]
 | x :: l, k + 1, p, h, j, hj => by
  have h1 := edI_get l k p (by simpa using h) j hj
  have hl : (edI x).length = 6 := rfl
  rw [List.flatMap_cons, List.getElem?_append_right (by omega), hl, show (k + 1) * 6 + j - 6 = k * 6 + j by omega]
  exact h1
theorem own_edI {w : World} {base n : Nat} {A : Option Addr} {k : Nat} {l : List (Int × Nat × Int)} (h : w.ownsRow base 89 6 (.slice A n k) l.length (l.flatMap edI)) : EdgesAt w A l := fun i q hq => by
 have hi := (List.getElem?_eq_some_iff.1 hq).1
 obtain ⟨g, c, e, _, _⟩ := own_form h (by omega)
 cases e
 have hc := edI_get l i q hq
 have d : ∀ j u, j < 6 → (edI q)[j]? = some u → w.cell? ⟨g, 0 + i * 6 + j, none⟩ = some u := fun j u hj hu => by
  have := h.cells (g := g) rfl _ _ ((hc j hj).trans hu)
  rw [addr_plusC, Nat.zero_add] at this
  rw [Nat.zero_add]
  exact this
 exact ⟨g, 0, rfl, d 0 _ (by decide) rfl, d 1 _ (by decide) rfl, d 2 _ (by decide) rfl, d 3 _ (by decide) rfl, d 4 _ (by decide) rfl, d 5 _ (by decide) rfl⟩
theorem own_len_cap {w : World} {base size : Nat} {e : TypeId} {v : Value} {n : Nat} {xs : List Value} (h : w.ownsRow base e size v n xs) : ∃ A c, v = .slice A n c ∧ n ≤ c := by
 rcases h.2 with ⟨rfl, h0⟩ | ⟨g, c, cur, hv, _, _, hc, _⟩
 ·exact ⟨none, 0, by rw [h0], by omega⟩
 ·exact ⟨_, c, hv, hc⟩
theorem zero_ints (w : World) : (zeroValue 38).run Tryz.prog w = .ok (.slice none 0 0) w := by kernel_rfl
theorem zero_edges (w : World) : (zeroValue 37).run Tryz.prog w = .ok (.slice none 0 0) w := by kernel_rfl
theorem step_appendC {ops : Array Oper} {o : Oper} {a : Act} {w : World} {K : Act → World → Prop} {Q : Exit → Act → World → Prop} {E : Prop} (hgd : o.guard = none) (sl x : Operand) (t u : TypeId)
  (ho : o.op = .call { callee := .builtin .append, args := #[sl, x], argTypes := #[t, u] }) (v1 v2 v' : Value) (w' : World) (hs : a.eval sl = v1) (hx : a.eval x = v2)
  (hr : (Builtin.append_ #[t, u] o.type #[v1, v2]).run Tryz.prog w = .ok v' w')
  (h : K (a.put o.dst v') w') : if Region.wanted o (yielded ops a.tmps) = true then Oper.wp Tryz.prog o a w K Q else E := by
 have hw : Region.wanted o (yielded ops a.tmps) = true := by simp [Region.wanted, hgd]
 rw [if_pos hw]
 unfold Oper.wp execOp
 simp only [ho, resolve, invoke, builtin, Sem.run_bind, Sem.run_pure, Result.andThen_ok, List.map_toArray, List.map_cons, List.map_nil, hs, hx, hr]
 exact h
theorem step_mapC {ops : Array Oper} {o : Oper} {a : Act} {w : World} {K : Act → World → Prop} {Q : Exit → Act → World → Prop} {E : Prop} (hgd : o.guard = none) (m x v : Operand) (t : TypeId)
  (ho : o.op = .mapUpdate t m x v) (vm vk vv : Value) (w' : World) (hm : a.eval m = vm) (hx : a.eval x = vk) (hv : a.eval v = vv)
  (hr : (Instr.mapUpdate t vm vk vv).run Tryz.prog w = .ok () w')
  (h : K (a.put o.dst undef) w') : if Region.wanted o (yielded ops a.tmps) = true then Oper.wp Tryz.prog o a w K Q else E := by
 have hw : Region.wanted o (yielded ops a.tmps) = true := by simp [Region.wanted, hgd]
 rw [if_pos hw]
 unfold Oper.wp
 simp [execOp, ho, hm, hx, hv, hr, Result.andThen]
 exact h
structure Lp1 (w2 wc : World) (N : NfaV) (lm n : Nat) (wr : World) : Prop where
 grp : GrpAt inI wr wc.heap.size 3 1 lm (lkF (N.links.take n))
 kept : ∀ j, j < wc.heap.size → j ≠ lm → wr.heap[j]? = wc.heap[j]?
 bel : Below w2.heap.size w2 wr
 sz : wc.heap.size ≤ wr.heap.size
structure Lp2 (w2 wc : World) (N : NfaV) (lm em n : Nat) (wr : World) : Prop where
 lgrp : GrpAt inI wr wc.heap.size 3 1 lm (lkF N.links)
 grp : GrpAt edI wr wc.heap.size 89 6 em (edF (N.edges.take n))
 kept : ∀ j, j < wc.heap.size → j ≠ lm → j ≠ em → wr.heap[j]? = wc.heap[j]?
 bel : Below w2.heap.size w2 wr
 sz : wc.heap.size ≤ wr.heap.size
end Go.Proofs.YtofbfafnpdaejaaGreatDoor
namespace Go.Proofs.YtofbfafnpdaejaaGreatDoor
open Go.RowKit
set_option linter.unusedSimpArgs false
set_option linter.unusedVariables false
set_option maxRecDepth 100000
set_option maxHeartbeats 8000000
def WaitV (w : World) (base : Nat) (v : Value) (ws : List Int) : Prop :=
 w.ownsRow base 3 1 v ws.length (intsC ws) ∨ ∃ b cur, v = .slice (some ⟨b, 0, none⟩) ws.length ws.length ∧ IntsAt w (some ⟨b, 0, none⟩) ws ∧ base ≤ b ∧ Blk w b 3 cur
theorem WaitV.slice {w : World} {base : Nat} {v : Value} {ws : List Int} (h : WaitV w base v ws) : ∃ A c, v = .slice A ws.length c ∧ IntsAt w A ws ∧ ws.length ≤ c := by
 rcases h with h | ⟨b, cur, rfl, hi, _, _⟩
 ·obtain ⟨A, c, rfl⟩ := own_slice h
  refine ⟨A, c, rfl, own_intsC h, ?_⟩
  rcases Nat.eq_zero_or_pos ws.length with h0 | h0
  ·omega
  ·obtain ⟨_, c2, e2, _, _, h3⟩ := own_form_capC h h0
   cases e2
   exact h3
 ·exact ⟨_, _, rfl, hi, Nat.le_refl _⟩
theorem WaitV.moved {w w' : World} {base : Nat} {v : Value} {ws : List Int} (h : WaitV w base v ws) (hm : ∀ b cs, Blk w b 3 cs → Blk w' b 3 cs) : WaitV w' base v ws := by
 rcases h with h | ⟨b, cur, rfl, hi, hb, hk⟩
 ·refine .inl (ownsRow_block h fun j hj => ?_)
  rcases h.2 with ⟨rfl, _⟩ | ⟨g, cap, cur, rfl, _, hg, _⟩
  ·simp [Value.ownBlock] at hj
  ·obtain rfl : g = j := by simpa [Value.ownBlock] using hj
   rw [hg]
   exact hm g cur hg
 ·refine .inr ⟨b, cur, rfl, fun i a ha => ?_, hb, hm b cur hk⟩
  obtain ⟨b', o', e, hc⟩ := hi i a ha
  cases e
  refine ⟨b, 0, rfl, ?_⟩
  have h1 := hk.cell (0 + i)
  have h2 := (hm b cur hk).cell (0 + i)
  rw [h2, ← h1]
  exact hc
theorem WaitV.push {w : World} {base : Nat} {v : Value} {ws : List Int} (h : WaitV w base v ws) (a : Int) (hs : ws.length + 1 ≤ 10000000000000) (hbase : base ≤ w.heap.size) :
  ∃ v' w', (Builtin.append_ #[38, 38] 38 #[v, .slice (some ⟨w.heap.size, 0, none⟩) 1 1]).run Tryz.prog (w.alloc (.cells #[.int .i64 a] 3)) = .ok v' w' ∧ w'.ownsRow base 3 1 v' (ws ++ [a]).length (intsC (ws ++ [a])) ∧
   (∀ b t cs, t ≠ 3 → Blk w b t cs → Blk w' b t cs) ∧ ∀ B a0, Below B a0 w → B ≤ base → Below B a0 w' := by
 rcases h with h | ⟨b, cur, rfl, hi, hb, hk⟩
 ·have ho : (w.alloc (.cells #[.int .i64 a] 3)).ownsRow base 3 1 v ws.length (intsC ws) := h.alloc _
  obtain ⟨v', w', h1, h2, h3⟩ := append_own_ints (w.alloc (.cells #[.int .i64 a] 3)) base v ws ho 1 (one_int w a) (by simpa using hs) (by simp; omega) 38 38 Tryz.underlying38
  refine ⟨v', w', h1, h2, fun b t cs ht hb => Blk.grown (hb.alloc _) h3 (blk_not_row hb ht h), fun B a0 hb hle => below_grown (hb.alloc (by have := hb.size; omega) (.cells #[.int .i64 a] 3)) h3 ho hle (by simp; omega)⟩
 ·obtain ⟨i0, hi0, hz0, hz1, hz2⟩ := info_parts info_intC
  have hold : ∀ j u, (intsC ws)[j]? = some u → (w.alloc (.cells #[.int .i64 a] 3)).cell? ((⟨b, 0, none⟩ : Addr).add j) = some u := fun j u hj => by
   unfold intsC at hj
   rw [List.getElem?_map] at hj
   cases hx : ws[j]? with
   | none => rw [hx] at hj; cases hj
   | some x =>
    rw [hx] at hj
    obtain ⟨b', o', e, h0⟩ := hi j x hx
    cases e
    rw [addr_plusC, ((Below.refl w.heap.size w).alloc (Nat.le_refl _) (.cells #[.int .i64 a] 3)).cell (p := ⟨b, 0 + j, none⟩) hk.lt, h0]
    exact hj
  obtain ⟨v', w', h1, h2, h3⟩ := run_append_arg_grows (P := Tryz.prog) (w.alloc (.cells #[.int .i64 a] 3)) 38 38 3 i0 _ 1 8 Tryz.underlying38 hi0 hz0 hz1 hz2 rfl (by decide) ⟨b, 0, none⟩ ws.length ws.length (intsC ws) (by simp [intsC]) hold ⟨w.heap.size, 0, none⟩ 1 1 [.int .i64 a] rfl (cell_one_new _ _ _) (by omega) (Nat.le_trans hs (by decide)) (by omega)
  have hb0 : Below w.heap.size w (w.alloc (.cells #[.int .i64 a] 3)) := (Below.refl _ _).alloc (Nat.le_refl _) _
  have key : ∀ j, j < w.heap.size → w'.heap[j]? = w.heap[j]? := fun j hj => (h3.block j (by simp; omega) (by simp)).trans (hb0.block j hj)
  refine ⟨v', w', h1, ?_, fun c t cs _ hc => (key c hc.lt).trans hc, fun B a0 hB hle => (hB.alloc (by have := hB.size; omega) (.cells #[.int .i64 a] 3)).grown h3 (by simp; omega) (fun k e => by cases e)⟩
  rw [List.length_append, intsC_snoc]
  refine ⟨h2.1, ?_⟩
  rcases h2.2 with h4 | ⟨g, c, cur', e, h5, h6⟩
  ·exact .inl h4
  ·exact .inr ⟨g, c, cur', e, Nat.le_trans (by simp; omega) h5, h6⟩
structure PutAt (w : World) (base g h bt bw S : Nat) (p : Nat → Bool) (ws : List Int) : Prop where
 set : BitsAt w g h S p
 there : Blk w bt 186 #[.pointer (some ⟨g, 0, none⟩)]
 waits : ∃ v, Blk w bw 38 #[v] ∧ WaitV w base v ws
 bg : base ≤ g
 bh : base ≤ h
 bbt : base ≤ bt
 bbw : base ≤ bw
theorem blk_apart {w : World} {a b : Nat} {t u : TypeId} {cs ds : Array Value} (h : Blk w a t cs) (h2 : Blk w b u ds) (ht : t ≠ u) : a ≠ b := fun e => by
 subst e
 have := (show w.heap[a]? = _ from h).symm.trans h2
 simp at this
 exact ht this.2
theorem cput_go (base g h bt bw S : Nat) (p : Nat → Bool) (ws : List Int) (c : Int) (w : World) (hA : PutAt w base g h bt bw S p ws) (hS : S ≤ 1048576) (hws : ws.length + 1 ≤ 10000000000000) (hbase : base ≤ w.heap.size) :
  Calls Tryz.prog 166 #[.int .i64 c, .pointer (some ⟨bt, 0, none⟩), .pointer (some ⟨bw, 0, none⟩)] w fun e w' => e = .returned (.tuple #[]) ∧ PutAt w' base g h bt bw S (putB S p c) (waitB S p ws c) ∧ ∀ B a, Below B a w → B ≤ base → Below B a w' := by
 have HP := Lib.hid (bput_go g h S p c w hA.set hS)
 have hth := blk_apart hA.there hA.set.row (by decide)
 obtain ⟨v, hv, hW⟩ := hA.waits
 have hwh := blk_apart hv hA.set.row (by decide)
 have hwt := blk_apart hv hA.there (by decide)
 have hwg := blk_apart hv hA.set.box (by decide)
 have x0 := hA.there.cell 0
 have hlx := hA.there.lt
 simp only [List.getElem?_toArray, List.getElem?_cons_zero] at x0
 have HA := Lib.hid hA
 have HV := Lib.hid hv
 have HW := Lib.hid hW
 clear hA hv hW
 cases hn : newB S p c with
 | false =>
  rw [hn] at HP
  have HE := Lib.hid (show waitB S p ws c = ws by unfold waitB; rw [hn]; rfl)
  clear hn
  go_enter Tryz.func166, Tryz.ntmps166
  go_wp2_with fail
  refine HP.out.mono ?_
  rintro e w1 ⟨rfl, hB, hM⟩
  have HB := Lib.hid hB
  have HM := Lib.hid hM
  clear hB hM HP x0
  dsimp only
  go_wp2
  go_end0
  refine ⟨rfl, ⟨HB.out, HM.out.blk hth HA.out.there, ⟨v, HM.out.blk hwh HV.out, ?_⟩, HA.out.bg, HA.out.bh, HA.out.bbt, HA.out.bbw⟩, fun B a hb hle => HM.out.below hb (Nat.le_trans hle HA.out.bh)⟩
  rw [HE.out]
  exact HW.out.moved fun b cs hb => HM.out.blk (blk_apart hb HA.out.set.row (by decide)) hb
 | true =>
  rw [hn] at HP
  have HE := Lib.hid (show waitB S p ws c = ws ++ [c] by unfold waitB; rw [hn]; rfl)
  clear hn
  go_enter Tryz.func166, Tryz.ntmps166
  go_wp2_with fail
  refine HP.out.mono ?_
  rintro e w1 ⟨rfl, hB, hM⟩
  have hsz := hM.size
  have hv1 := hM.blk hwh HV.out
  have hW1 := HW.out.moved fun b cs hb => hM.blk (blk_apart hb HA.out.set.row (by decide)) hb
  obtain ⟨v', w2, hr, ho, hk, hbl⟩ := hW1.push c hws (by omega)
  obtain ⟨A', c', rfl⟩ := own_slice ho
  have hv2 := hk _ _ _ (by decide) hv1
  have hlv1 := hv1.lt
  have y1 := hv1.cell 0
  have y2 := hv2.cell 0
  have f2 := hv2.frozen 0
  simp only [List.getElem?_toArray, List.getElem?_cons_zero] at y1 y2
  obtain ⟨A0, c0, rfl, _, _⟩ := hW1.slice
  have HR := Lib.hid hr
  have HO := Lib.hid ho
  have HK := Lib.hid (show BitsAt w2 g h S (putB S p c) ∧ Blk w2 bt 186 #[.pointer (some ⟨g, 0, none⟩)] from ⟨⟨hk _ _ _ (by decide) hB.box, hk _ _ _ (by decide) hB.row, hB.ne⟩, hk _ _ _ (by decide) (hM.blk hth HA.out.there)⟩)
  have HBl := Lib.hid (show ∀ B a, Below B a w → B ≤ base → Below B a w2 from fun B a hb hle => hbl B a (hM.below hb (Nat.le_trans hle HA.out.bh)) hle)
  have HV2 := Lib.hid hv2
  clear hB hM HP x0 hr ho hk hbl hv1 hW1 hv2 hsz hbase
  dsimp only
  go_wp2_with (at_builtin; refine wpList_append_by rfl _ _ 38 38 rfl _ _ _ _ rfl rfl HR.out ?_)
  go_end0
  have hne := blk_not_row HV2.out (by decide) HO.out
  refine ⟨rfl, ⟨⟨HK.out.1.box.far (p := ⟨bw, 0, none⟩) (fun e => hwg e.symm) _, HK.out.1.row.far (p := ⟨bw, 0, none⟩) (fun e => hwh e.symm) _, HK.out.1.ne⟩, HK.out.2.far (p := ⟨bw, 0, none⟩) (fun e => hwt e.symm) _, ⟨_, HV2.out.set_ 0 _, .inl ?_⟩, HA.out.bg, HA.out.bh, HA.out.bbt, HA.out.bbw⟩, fun B a hb hle => (HBl.out B a hb hle).setCell (p := ⟨bw, 0, none⟩) (Nat.le_trans hle HA.out.bbw) _⟩
  rw [HE.out]
  simpa using own_set HO.out hne
end Go.Proofs.YtofbfafnpdaejaaGreatDoor
namespace Go.Proofs.YtofbfafnpdaejaaGreatDoor
open Go.RowKit Go.Maps
set_option linter.unusedSimpArgs false
set_option linter.unusedVariables false
set_option maxRecDepth 100000
set_option maxHeartbeats 8000000
def bitOf (w : World) (h c : Nat) : Bool := match w.cell? ⟨h, c / 64, none⟩ with
 | some (.int _ v) => v.toNat.testBit (c % 64)
 | _ => false
def lenAt (w : World) (bw : Nat) : Nat := match w.cell? ⟨bw, 0, none⟩ with
 | some v => lenV v
 | _ => 0
def leftW (w : World) (h bw S : Nat) : Nat := leftB (bitOf w h) S (lenAt w bw)
theorem PutAt.left {w : World} {base g h bt bw S : Nat} {p : Nat → Bool} {ws : List Int} (hA : PutAt w base g h bt bw S p ws) : leftW w h bw S = leftB p S ws.length := by
 have e1 : lenAt w bw = ws.length := by
  obtain ⟨v, hv, hW⟩ := hA.waits
  obtain ⟨A, c, rfl, _, _⟩ := hW.slice
  unfold lenAt
  have := hv.cell 0
  simp only [List.getElem?_toArray, List.getElem?_cons_zero] at this
  rw [this]
  rfl
 have e2 : cntB (bitOf w h) S = cntB p S := cntB_ext fun c hc => by
  unfold bitOf
  have := hA.set.row.cell (c / 64)
  rw [wordsU_get p (show c / 64 < (S + 63) / 64 by omega)] at this
  rw [this]
  show (((word p (c / 64) : Nat) : Int).toNat).testBit (c % 64) = p c
  rw [Int.toNat_natCast, testBit_word]
  have h1 : c % 64 < 64 := Nat.mod_lt _ (by decide)
  have h2 : 64 * (c / 64) + c % 64 = c := Nat.div_add_mod c 64
  rw [h2]
  simp [h1]
 unfold leftW leftB
 rw [e1, e2]
theorem waitB_len {S : Nat} {p : Nat → Bool} {ws : List Int} {c : Int} (h : ws.length ≤ cntB p S) : (waitB S p ws c).length ≤ cntB (putB S p c) S := by
 unfold putB waitB
 cases hn : newB S p c with
 | true =>
  obtain ⟨h1, h2⟩ := newB_iff.1 hn
  have h3 := cntB_with (S := S) h2 (by omega)
  rw [if_pos rfl, if_pos rfl, h3]
  simp only [List.length_append, List.length_singleton]
  omega
 | false =>
  rw [if_neg (by decide), if_neg (by decide)]
  exact h
theorem slice_cut (b : Nat) {n L cap : Nat} (hn : n ≤ cap) (W : World) : (Instr.slice 38 (.slice (some ⟨b, 0, none⟩) L cap) none (some (.int .i64 (n : Int))) (some (.int .i64 (n : Int)))).run Tryz.prog W = .ok (.slice (some ⟨b, 0, none⟩) n n) W := by
 have ht : Tryz.prog.underlying 38 = some (.slice (Tryz.prog.elem 38)) := by kernel_rfl
 have he : Tryz.prog.elem 38 = 3 := by kernel_rfl
 rw [run_slice_hm W 38 _ _ _ ht .i64 .i64 _ _ (by omega) (by omega) (by omega), he, int_sizeC]
 by_cases h0 : n = 0
 ·simp [Result.andThen, sliced, h0]
 ·simp [Result.andThen, sliced, h0, addr_plusC]
theorem WaitV.cut {w : World} {base : Nat} {v : Value} {ws : List Int} {s : Int} (h : WaitV w base v (ws ++ [s])) :
  ∃ b cap, v = .slice (some ⟨b, 0, none⟩) (ws.length + 1) cap ∧ ws.length + 1 ≤ cap ∧ w.cell? ⟨b, ws.length, none⟩ = some (.int .i64 s) ∧ WaitV w base (.slice (some ⟨b, 0, none⟩) ws.length ws.length) ws := by
 have key : ∃ b cap cur, v = .slice (some ⟨b, 0, none⟩) (ws.length + 1) cap ∧ ws.length + 1 ≤ cap ∧ base ≤ b ∧ Blk w b 3 cur ∧ IntsAt w (some ⟨b, 0, none⟩) (ws ++ [s]) := by
  rcases h with h | ⟨b, cur, rfl, hi, hb, hk⟩
  ·have hi := h
   rcases h.2 with ⟨_, h0⟩ | ⟨g, cap, cur, rfl, hg, hh, hc, _⟩
   ·simp at h0
   ·refine ⟨g, cap, cur, by simp, by simpa using hc, hg, hh, own_intsC hi⟩
  ·exact ⟨b, ws.length + 1, cur, by simp, Nat.le_refl _, hb, hk, hi⟩
 obtain ⟨b, cap, cur, rfl, hc, hb, hk, hi⟩ := key
 refine ⟨b, cap, rfl, hc, ?_, .inr ⟨b, cur, rfl, fun i a ha => hi i a ?_, hb, hk⟩⟩
 ·obtain ⟨b', o', e, h0⟩ := hi ws.length s (by simp)
  cases e
  simpa using h0
 ·rw [List.getElem?_append_left (List.getElem?_eq_some_iff.1 ha).1]
  exact ha
structure PutInv (w0 : World) (N : NfaV) (l : List Int) (g h bt bw S : Nat) (p : Nat → Bool) (ws : List Int) (x : Int) (k : Nat) (wr : World) : Prop where
 put : PutAt wr w0.heap.size g h bt bw S p ws
 way : WayC N l p ws
 shut : Shut N p ws x k
 len : ws.length ≤ cntB p S
 below : Below w0.heap.size w0 wr
theorem PutInv.step {w0 wr w' : World} {N : NfaV} {l : List Int} {g h bt bw S : Nat} {p : Nat → Bool} {ws : List Int} {x : Int} {k : Nat} (hI : PutInv w0 N l g h bt bw S p ws x k wr) (hS : N.states = (S : Int)) {c : Int} (hc : 0 ≤ c → c < N.states → Leads N.links (fun s => s ∈ l ∧ 0 ≤ s ∧ s < N.states) c)
  (hP : PutAt w' w0.heap.size g h bt bw S (putB S p c) (waitB S p ws c)) (hB : ∀ B a, Below B a wr → B ≤ w0.heap.size → Below B a w') : PutInv w0 N l g h bt bw S (putB S p c) (waitB S p ws c) x k w' :=
 ⟨hP, hI.way.put hS hc, hI.shut.put S c, waitB_len hI.len, hB _ _ hI.below (Nat.le_refl _)⟩
theorem mclos_go {N : NfaV} (hR : rightN N = true) : ClosC N := by
 intro g lm em A3 k3 w hA A cap l hl hlen hcap
 obtain ⟨S, hSe⟩ : ∃ S : Nat, N.states = (S : Int) := ⟨N.states.toNat, by have := rightN_states hR; omega⟩
 have hS0 := rightN_states hR
 have hS : S ≤ 1048576 := by omega
 have x0 := hA.box.cell 0
 have hlx := hA.box.lt
 simp only [List.getElem?_toArray, List.getElem?_cons_zero] at x0
 rw [hSe] at x0
 have HNew := Lib.hid (bnew_go S w hS)
 have HA := Lib.hid hA
 have HL := Lib.hid hl
 have HRt := Lib.hid hR
 have HSe := Lib.hid hSe
 clear hA hl hR hSe hS0
 go_enter Tryz.func129, Tryz.ntmps129
 go_wp2_with fail
 refine HNew.out.mono ?_
 rintro e w1 ⟨gs, hs, rfl, hB, hb1, hgs, hhs⟩
 have hs1 := hb1.size
 have hbA : Below w.heap.size w (w1.alloc (.cells #[.pointer (some ⟨gs, 0, none⟩)] 186)) := hb1.alloc hs1 _
 have hbB : Below w.heap.size w ((w1.alloc (.cells #[.pointer (some ⟨gs, 0, none⟩)] 186)).alloc (.cells #[.slice none 0 0] 38)) := hbA.alloc (by simp; omega) _
 have HI0 := Lib.hid (show PutInv w N l gs hs w1.heap.size (w1.heap.size + 1) S (fun _ => false) [] (-1) 0 ((w1.alloc (.cells #[.pointer (some ⟨gs, 0, none⟩)] 186)).alloc (.cells #[.slice none 0 0] 38)) from
  ⟨⟨⟨(hB.box.alloc _).alloc _, (hB.row.alloc _).alloc _, hB.ne⟩, (Blk.new _ _ _).alloc _, ⟨_, Blk.new_at (by simp), .inl (World.ownsRow_nil _ _ _ _)⟩, hgs, hhs, hs1, by omega⟩, ⟨fun c h => (by cases h), fun c h => (by cases h), fun s h => (by simp at h)⟩, fun a b _ _ h => (by cases h), Nat.zero_le _, hbB⟩)
 clear HNew hB hb1 hgs hhs hbA hbB x0 hs1
 dsimp only
 generalize hbt : w1.heap.size = bt at *
 go_wp2_with fail
 generalize (w1.alloc (.cells #[.pointer (some ⟨gs, 0, none⟩)] 186)).alloc (.cells #[.slice none 0 0] 38) = w2 at *
 clear hbt w1
 go_loopw [28] (fun i wr => ∃ (k : Nat) (p : Nat → Bool) (ws : List Int), i = .int .i64 (k : Int) ∧ k ≤ l.length ∧ Hid (PutInv w N l gs hs bt (bt + 1) S p ws (-1) 0 wr) ∧ Hid (∀ (j : Nat) s, j < k → l[j]? = some s → 0 ≤ s → s < N.states → p s.toNat = true)) (fun i _ => l.length - (intOf i).toNat)
 case atStart => exact ⟨0, fun _ => false, [], rfl, Nat.zero_le _, HI0, Lib.hid (fun j s h => by omega)⟩
 case round =>
  clear HI0
  obtain ⟨k, p, ws, rfl, hk, HI, HK⟩ := hrel
  have hwl : ws.length + 1 ≤ 10000000000000 := by have := HI.out.len; have := cntB_le p S; omega
  by_cases hlt : k < l.length
  ·obtain ⟨s, hs'⟩ : ∃ s, l[k]? = some s := ⟨_, List.getElem?_eq_getElem hlt⟩
   obtain ⟨b0, o0, rfl, hc⟩ := (HL.out.below HI.out.below) k s hs'
   have hdl : (k : Int) < (l.length : Int) := by omega
   have hdc : (k : Int) < (cap : Int) := by omega
   have HS := Lib.hid hs'
   have HP := Lib.hid (cput_go w.heap.size gs hs bt (bt + 1) S p ws s wr HI.out.put hS hwl HI.out.below.size)
   clear hs'
   go_wp2_with fail
   refine HP.out.mono ?_
   rintro e w4 ⟨rfl, hp4, hb4⟩
   have HI4 := Lib.hid (HI.out.step HSe.out (c := s) (fun h0 h1 => .here ⟨List.mem_of_getElem? HS.out, h0, h1⟩) hp4 hb4)
   have HK4 := Lib.hid (show ∀ (j : Nat) s', j < k + 1 → l[j]? = some s' → 0 ≤ s' → s' < N.states → putB S p s s'.toNat = true from fun j s' hj hs' h0 h1 => by
    rcases Nat.lt_or_ge j k with h | h
    ·exact putB_iff.2 (.inl (HK.out j s' h hs' h0 h1))
    ·obtain rfl : j = k := by omega
     rw [HS.out] at hs'
     cases hs'
     have := HSe.out
     exact putB_iff.2 (.inr ⟨by omega, by omega⟩))
   clear HP hp4 hb4 HI HK hc
   dsimp only
   go_wp2
   go_roundw
   case rel => exact ⟨k + 1, _, _, by go_num, by omega, HI4, HK4⟩
   case measure => simp [intOf]; omega
  ·have hdl : ¬ (k : Int) < (l.length : Int) := by omega
   obtain rfl : k = l.length := by omega
   have HIn := Lib.hid (show ∀ s ∈ l, 0 ≤ s → s < N.states → p s.toNat = true from fun s hs' h0 h1 => by
    obtain ⟨j, hj, rfl⟩ := List.mem_iff_getElem.1 hs'
    exact HK.out j _ hj (List.getElem?_eq_getElem hj) h0 h1)
   clear HK
   go_wp2
   go_loopw [11] (fun i wr => ∃ (p : Nat → Bool) (ws : List Int), Hid (PutInv w N l gs hs bt (bt + 1) S p ws (-1) 0 wr) ∧ Hid (∀ s ∈ l, 0 ≤ s → s < N.states → p s.toNat = true)) (fun _ wr => leftW wr hs (bt + 1) S)
   case atStart => exact ⟨p, ws, HI, HIn⟩
   case round =>
    clear HI HIn hwl
    obtain ⟨p, ws, HI, HIn⟩ := hrel
    have hws := HI.out.len
    have hpS := cntB_le p S
    rcases List.eq_nil_or_concat ws with hw0 | ⟨ws0, s, hw0⟩
    ·subst hw0
     obtain ⟨v, hv, hW⟩ := HI.out.put.waits
     obtain ⟨A7, c7, rfl, _, _⟩ := hW.slice
     have y0 := hv.cell 0
     have hly := hv.lt
     simp only [List.getElem?_toArray, List.getElem?_cons_zero, List.length_nil] at y0
     have z0 := HI.out.put.there.cell 0
     have hlz := HI.out.put.there.lt
     simp only [List.getElem?_toArray, List.getElem?_cons_zero] at z0
     have HAll := Lib.hid (ball_go p S gs hs hS (fun c h => by have := HI.out.way.within c h; have := HSe.out; omega) wr HI.out.put.set (HA.out.below HI.out.below).tab (HA.out.below HI.out.below).tabl)
     clear hv hW
     go_wp2_with fail
     refine HAll.out.mono ?_
     rintro e w5 ⟨R, A6, c6, rfl, rfl, hb5, hi5, hc5⟩
     have HZ := Lib.hid (show _ ∧ _ ∧ _ ∧ _ from ⟨HI.out.way.clos HSe.out (Nat.le_refl _) HIn.out HI.out.shut HRt.out, HI.out.below.trans (hb5.mono HI.out.below.size), hi5, hc5⟩)
     clear HAll hb5 hi5 hc5 y0 z0 HI HIn
     dsimp only
     go_wp2
     go_light
     go_ret
     exact ⟨_, A6, c6, HZ.out.1, rfl, HZ.out.2.1, HZ.out.2.2.1, HZ.out.2.2.2⟩
    ·rw [List.concat_eq_append] at hw0
     subst hw0
     have hws' : ws0.length + 1 ≤ cntB p S := by simpa using hws
     obtain ⟨v, hv, hW⟩ := HI.out.put.waits
     obtain ⟨b1, c1, rfl, hc1, hcell, hcut⟩ := hW.cut
     have y0 := hv.cell 0
     have f0 := hv.frozen 0
     have hly := hv.lt
     simp only [List.getElem?_toArray, List.getElem?_cons_zero] at y0
     have hsc := slice_cut b1 (n := ws0.length) (L := ws0.length + 1) (cap := c1) (by omega)
     have hbw := HI.out.put.bbw
     have HIs := Lib.hid (show PutInv w N l gs hs bt (bt + 1) S p ws0 s 0 (wr.setCell ⟨bt + 1, 0, none⟩ (.slice (some ⟨b1, 0, none⟩) ws0.length ws0.length)) from
      ⟨⟨⟨HI.out.put.set.box.far (p := ⟨bt + 1, 0, none⟩) (fun e => blk_apart hv HI.out.put.set.box (by decide) e.symm) _, HI.out.put.set.row.far (p := ⟨bt + 1, 0, none⟩) (fun e => blk_apart hv HI.out.put.set.row (by decide) e.symm) _, HI.out.put.set.ne⟩, HI.out.put.there.far (p := ⟨bt + 1, 0, none⟩) (fun e => blk_apart hv HI.out.put.there (by decide) e.symm) _, ⟨_, hv.set_ 0 _, hcut.moved fun b cs hb => hb.far (p := ⟨bt + 1, 0, none⟩) (blk_apart hb hv (by decide)) _⟩, HI.out.put.bg, HI.out.put.bh, HI.out.put.bbt, hbw⟩, HI.out.way.take, HI.out.shut.take rfl, by omega, HI.out.below.setCell (p := ⟨bt + 1, 0, none⟩) hbw _⟩)
     have hps := HI.out.way.seen s (by simp)
     have HPs := Lib.hid hps
     obtain ⟨A5, c5, hlk0, hLi, hLc⟩ := HA.out.links s
     have hlk := hlk0 _ HIs.out.below
     have x2 := (HA.out.below HIs.out.below).box.cell 2
     have x2r := (HA.out.below HI.out.below).box.cell 2
     have hlg := (HA.out.below HI.out.below).box.lt
     simp only [List.getElem?_toArray, List.getElem?_cons_zero, List.getElem?_cons_succ] at x2 x2r
     have hgb : g ≠ bt + 1 := by omega
     have hleft := HI.out.put.left
     rw [List.length_append, List.length_singleton] at hleft
     have HLf := Lib.hid (show leftB p S ws0.length < leftW wr hs (bt + 1) S by rw [hleft]; unfold leftB; omega)
     have HLi := Lib.hid hLi
     have hll : (linksOf N s).length ≤ 9000000 := by unfold linksOf; rw [List.length_map]; exact Nat.le_trans (List.length_filter_le _ _) HA.out.ll
     have hposn : (0 : Int) < (ws0.length : Int) + 1 := by omega
     have hcc : (ws0.length : Int) < (c1 : Int) := by omega
     clear hv hW hcut hbw hws hps hlk0 hLi hleft HI
     go_wp2_with fail
     clear hlk x2 x2r y0 f0 hcell hsc hlg
     generalize hLm : leftW wr hs (bt + 1) S = Lm at *
     generalize wr.setCell ⟨bt + 1, 0, none⟩ (.slice (some ⟨b1, 0, none⟩) ws0.length ws0.length) = wS at *
     generalize hp0 : leftB p S ws0.length = L0 at *
     have hL0 : leftB p S ws0.length ≤ L0 := by omega
     have HLm := Lib.hid hLm
     clear hp0 hLm hly
     go_loopw [57] (fun i wq => ∃ (j : Nat) (p : Nat → Bool) (ws : List Int), i = .int .i64 (j : Int) ∧ j ≤ (linksOf N s).length ∧ Hid (PutInv w N l gs hs bt (bt + 1) S p ws s j wq) ∧ Hid (∀ s ∈ l, 0 ≤ s → s < N.states → p s.toNat = true) ∧ Hid (0 ≤ s ∧ p s.toNat = true) ∧ Hid (leftB p S ws.length ≤ L0)) (fun i _ => (linksOf N s).length - (intOf i).toNat)
     case atStart => exact ⟨0, p, ws0, rfl, Nat.zero_le _, HIs, HIn, HPs, Lib.hid hL0⟩
     case round =>
      clear HIs HIn HPs hL0 hpS hws'
      obtain ⟨j, p, ws, rfl, hj, HI, HIn, HPs, HL0⟩ := hrel
      have hwl : ws.length + 1 ≤ 10000000000000 := by have := HI.out.len; have := cntB_le p S; omega
      by_cases hjl : j < (linksOf N s).length
      ·obtain ⟨t, ht⟩ : ∃ t, (linksOf N s)[j]? = some t := ⟨_, List.getElem?_eq_getElem hjl⟩
       obtain ⟨b3, o3, rfl, hc3⟩ := (HLi.out.below HI.out.below) j t ht
       have hdl : (j : Int) < ((linksOf N s).length : Int) := by omega
       have hdc : (j : Int) < (c5 : Int) := by omega
       have HT := Lib.hid ht
       have HM := Lib.hid (linksOf_mem.1 (List.mem_of_getElem? ht))
       have HP := Lib.hid (cput_go w.heap.size gs hs bt (bt + 1) S p ws t _ HI.out.put hS hwl HI.out.below.size)
       clear ht
       go_wp2_with fail
       refine HP.out.mono ?_
       rintro e w4 ⟨rfl, hp4, hb4⟩
       have hrl := rightN_links HRt.out HM.out
       have hI4 := HI.out.step HSe.out (c := t) (fun h0 h1 => .link (by have h5 := HI.out.way.sound s.toNat HPs.out.2; rw [show ((s.toNat : Nat) : Int) = s by have := HPs.out.1; omega] at h5; exact h5) HM.out) hp4 hb4
       have HI4 := Lib.hid (show PutInv w N l gs hs bt (bt + 1) S (putB S p t) (waitB S p ws t) s (j + 1) w4 from ⟨hI4.put, hI4.way, hI4.shut.more HT.out (putB_iff.2 (.inr ⟨by have := HSe.out; omega, by omega⟩)), hI4.len, hI4.below⟩)
       have HIn4 := Lib.hid (show ∀ s ∈ l, 0 ≤ s → s < N.states → putB S p t s.toNat = true from fun s' h1 h2 h3 => putB_iff.2 (.inl (HIn.out s' h1 h2 h3)))
       have HPs4 := Lib.hid (show 0 ≤ s ∧ putB S p t s.toNat = true from ⟨HPs.out.1, putB_iff.2 (.inl HPs.out.2)⟩)
       have HL4 := Lib.hid (Nat.le_trans (leftB_put (S := S) (p := p) (ws := ws) (c := t)) HL0.out)
       clear HP hp4 hb4 HI HIn HPs HL0 hc3 hI4 hrl
       dsimp only
       go_wp2
       go_roundw
       case rel => exact ⟨j + 1, _, _, by go_num, by omega, HI4, HIn4, HPs4, HL4⟩
       case measure => simp [intOf]; omega
      ·have hdl : ¬ (j : Int) < ((linksOf N s).length : Int) := by omega
       obtain rfl : j = (linksOf N s).length := by omega
       have HI4 := Lib.hid (show PutInv w N l gs hs bt (bt + 1) S p ws (-1) 0 _ from ⟨HI.out.put, HI.out.way, HI.out.shut.all (Nat.le_refl _) (-1), HI.out.len, HI.out.below⟩)
       have HLx := Lib.hid (show leftW _ hs (bt + 1) S < Lm from by rw [HI.out.put.left]; have := HL0.out; have := HLf.out; omega)
       go_wp2
       go_roundw
       case rel => exact ⟨p, ws, HI4, HIn⟩
       case measure =>
        rw [HLm.out]
        exact HLx.out
end Go.Proofs.YtofbfafnpdaejaaGreatDoor
namespace Go.Proofs.YtofbfafnpdaejaaGreatDoor
open Go.RowKit
set_option linter.unusedSimpArgs false
set_option linter.unusedVariables false
set_option maxRecDepth 100000
set_option maxHeartbeats 8000000
theorem join_go (A : Option Addr) (cap : Nat) (L : List Lex) (w : World) (hA : LexsAt w w.heap.size A L) (hlen : L.length ≤ 1048576) (hT : TabAt 0 Lib.deBruijn64tab w) (hw0 : 0 < w.heap.size) :
  Calls Tryz.prog 125 #[.slice A L.length cap] w fun e w' => e = .returned (joinV L) ∧ Below w.heap.size w w' := by
 obtain ⟨i0, hi, hz0, hz1, hz2⟩ := info_parts byte_info
 have HA := Lib.hid hA
 have HT := Lib.hid hT
 clear hA hT
 go_enter Tryz.func125, Tryz.ntmps125
 go_wp2
 go_loopw [4, 9] (fun v i wr => ∃ k : Nat, i = .int .i64 (k : Int) ∧ k ≤ L.length ∧ Hid (wr.ownsRow w.heap.size 5 1 v (joinS (L.take k)).length ((joinS (L.take k)).map (fun n : Nat => Value.int .u8 (n : Int)))) ∧ Hid (Below w.heap.size w wr) ∧ Hid (∀ (j : Nat) x, j < k → L[j]? = some x → rightS x = true)) (fun _ i _ => L.length - (intOf i).toNat)
 case atStart => exact ⟨0, rfl, Nat.zero_le _, Lib.hid (World.ownsRow_nil _ _ _ _), Lib.hid (Below.refl _ _), Lib.hid (fun j x hj => by omega)⟩
 case round =>
  obtain ⟨k, rfl, hk, Hown, HB, HR⟩ := hrel
  by_cases hlt : k < L.length
  ·obtain ⟨x, hx⟩ : ∃ x, L[k]? = some x := ⟨_, List.getElem?_eq_getElem hlt⟩
   obtain ⟨b, o, rfl, hbl, hc⟩ := HA.out (by omega)
   have hbl' : b < wr.heap.size := Nat.lt_of_lt_of_le hbl HB.out.size
   obtain ⟨c0, c1, c2, c3, c4, c5, c6, c7⟩ := ((HA.out.below HB.out) (by omega)).elim fun b' h => h.elim fun o' h => by
    obtain ⟨e, _, h⟩ := h
    obtain ⟨rfl, rfl⟩ : b = b' ∧ o = o' := by simpa using e
    exact h k x hx
   clear hc
   have Hx := Lib.hid hx
   have hdl : (k : Int) < (L.length : Int) := by omega
   have Hbx := Lib.hid (Blk.new wr 143 #[.int .i64 x.kind, .int .i64 x.place, .int .u64 (word x.set 0), .int .u64 (word x.set 1), .int .u64 (word x.set 2), .int .u64 (word x.set 3), .int .i64 x.lo, .int .i64 x.hi])
   have HBx := Lib.hid (HB.out.alloc HB.out.size (.cells #[.int .i64 x.kind, .int .i64 x.place, .int .u64 (word x.set 0), .int .u64 (word x.set 1), .int .u64 (word x.set 2), .int .u64 (word x.set 3), .int .i64 x.lo, .int .i64 x.hi] 143))
   have Hownx := Lib.hid (Hown.out.alloc (.cells #[.int .i64 x.kind, .int .i64 x.place, .int .u64 (word x.set 0), .int .u64 (word x.set 1), .int .u64 (word x.set 2), .int .u64 (word x.set 3), .int .i64 x.lo, .int .i64 x.hi] 143))
   go_wp2_with fail
   refine (right_go _ _ _ _ _ _ _ _ _).mono ?_
   rintro e w1 ⟨rfl, hb1⟩
   change Hid _ at Hx
   have Hb1 := Lib.hid (Hbx.out.below hb1 Hbx.out.lt)
   have HB1 := Lib.hid (HBx.out.trans (hb1.mono HBx.out.size))
   have Hown1 := Lib.hid (own_below Hownx.out hb1)
   clear hb1 c0 c1 c2 c3 c4 c5 c6 c7
   cases hr : rightS x
   ·have hr' := hr
    unfold rightS at hr'
    rw [hr']
    have HV := Lib.hid (joinV_bad Hx.out hr)
    clear hr hr'
    go_wp2
    go_light
    go_ret2
    exact ⟨by rw [HV.out]; rfl, HB1.out⟩
   ·have hr' := hr
    unfold rightS at hr'
    rw [hr']
    have Hr := Lib.hid hr
    clear hr hr'
    have s0 := Hb1.out.cell 0
    have s1 := Hb1.out.cell 1
    have s2 := Hb1.out.cell 2
    have s3 := Hb1.out.cell 3
    have s4 := Hb1.out.cell 4
    have s5 := Hb1.out.cell 5
    have s6 := Hb1.out.cell 6
    have s7 := Hb1.out.cell 7
    simp at s0 s1 s2 s3 s4 s5 s6 s7
    go_wp2_with fail
    refine (text_go x _ Hr.out (TabAt.below HB1.out hw0 HT.out) (Nat.lt_of_lt_of_le hw0 HB1.out.size)).mono ?_
    rintro e w2 ⟨rfl, hb2⟩
    have HB2 := Lib.hid (HB1.out.trans (hb2.mono HB1.out.size))
    have Hown2 := Lib.hid (own_below Hown1.out hb2)
    clear hb2 s0 s1 s2 s3 s4 s5 s6 s7
    have l1 := joinS_len (L.take k)
    have l2 : (L.take k).length ≤ 1048576 := by rw [List.length_take]; omega
    have l3 := textS_len x
    have Hj := Lib.hid (joinS_take Hx.out)
    have Hs := Lib.hid (strCells_of (textS x) (textS_bytes Hr.out))
    have m1 : (joinS (L.take k)).length + (strOf (textS x)).size ≤ maxLen := by rw [strOf_size]; exact Nat.le_trans (by omega) (show 140737488355328 ≤ maxLen by decide)
    have m2 : (joinS (L.take k)).length + (strOf (textS x)).size ≤ 140737488355328 := by rw [strOf_size]; omega
    go_wp2_with (at_builtin; refine Lib.wpList_append_own_string _ rfl _ _ _ _ rfl w.heap.size 5 i0 Tryz.underlying29 Tryz.underlying9 hi hz0 hz1 hz2 _ _ _ rfl Hown2.out _ rfl m1 m2 HB2.out.size ?_; intro v' w3 hown3 hg3 _)
    have Hown3 : Hid (w3.ownsRow w.heap.size 5 1 v' (joinS (L.take (k + 1))).length ((joinS (L.take (k + 1))).map (fun n : Nat => Value.int .u8 (n : Int)))) := Lib.hid (by
     rw [Hs.out, strOf_size] at hown3
     rw [Hj.out, List.length_append, List.map_append]
     exact hown3)
    have HB3 := Lib.hid (below_grown HB2.out hg3 Hown2.out (Nat.le_refl _) HB2.out.size)
    clear hown3 hg3
    go_light
    go_roundw
    case rel => exact ⟨k + 1, by go_num, by omega, Hown3, HB3, Lib.hid (fun j y hj hy => by
     rcases Nat.lt_or_ge j k with h | h
     ·exact HR.out j y h hy
     ·obtain rfl : j = k := by omega
      rw [Hx.out] at hy
      cases hy
      exact Hr.out)⟩
    case measure => simp [intOf]; omega
  ·have hdl : ¬ (k : Int) < (L.length : Int) := by omega
   obtain rfl : k = L.length := by omega
   have HV := Lib.hid (joinV_ok (fun j x hx => HR.out j x (List.getElem?_eq_some_iff.mp hx).1 hx))
   have hown := Hown.out
   rw [List.take_length] at hown
   have hs := own_text hown
   clear hown
   go_wp2
   go_light
   go_ret2
   exact ⟨by rw [HV.out]; rfl, HB.out⟩
def linkI (p : Int × Int) : List Value := [.int .i64 p.1, .int .i64 p.2]
def linksI (l : List (Int × Int)) : List Value := l.flatMap linkI
def edgeI (p : Int × Nat × Int) : List Value := [.int .i64 p.1, .int .u64 (word p.2.1.testBit 0), .int .u64 (word p.2.1.testBit 1), .int .u64 (word p.2.1.testBit 2), .int .u64 (word p.2.1.testBit 3), .int .i64 p.2.2]
def edgesI (l : List (Int × Nat × Int)) : List Value := l.flatMap edgeI
def flipL (p : Int × Int) : Int × Int := (p.2, p.1)
def flipE (p : Int × Nat × Int) : Int × Nat × Int := (p.2.2, p.2.1, p.1)
theorem eachlink_go (L : List (Int × Int)) (A : Option Addr) (cap : Nat) (w : World) (hl : L.length ≤ 2000000) (hA : LinksAt w A L) :
  Calls Tryz.prog 64 #[.slice A L.length cap, .func (.func 65) #[] #[]] w fun e w' => ∃ u, e = .returned u ∧ w'.ownsRow w.heap.size 85 2 u L.length (linksI (L.map flipL)) ∧ Below w.heap.size w w' := by
 obtain ⟨i0, hi0, hz0, hz1, hz2⟩ := info_parts info_linkN
 have HA := Lib.hid hA
 clear hA
 go_enter Tryz.func64, Tryz.ntmps64
 go_wp2
 go_loopw [5, 10] (fun u i wr => ∃ k : Nat, i = .int .i64 (k : Int) ∧ k ≤ L.length ∧ Hid (wr.ownsRow w.heap.size 85 2 u k (linksI ((L.take k).map flipL)) ∧ Below w.heap.size w wr)) (fun _ i _ => L.length - (intOf i).toNat)
 case atStart => exact ⟨0, rfl, Nat.zero_le _, Lib.hid ⟨World.ownsRow_nil _ _ _ _, Below.refl _ _⟩⟩
 case round =>
  obtain ⟨k, rfl, hk, HR⟩ := hrel
  by_cases hlt : k < L.length
  ·obtain ⟨p, hz⟩ : ∃ p, L[k]? = some p := ⟨_, List.getElem?_eq_getElem hlt⟩
   have HTk := Lib.hid (show linksI ((L.take (k + 1)).map flipL) = linksI ((L.take k).map flipL) ++ linkI (flipL p) by rw [List.take_add_one, hz]; simp [linksI])
   generalize linksI ((L.take k).map flipL) = xs at *
   obtain ⟨b, o, rfl, c0, c1⟩ := (HA.out.below HR.out.2) k p hz
   obtain ⟨x, y⟩ := p
   have hdl : (k : Int) < (L.length : Int) := by omega
   have hb2 : Below wr.heap.size wr (wr.alloc (.cells #[.int .i64 x, .int .i64 y] 85)) := (Below.refl _ _).alloc (Nat.le_refl _) _
   have HI := Lib.hid (fliplink_go x y (wr.alloc (.cells #[.int .i64 x, .int .i64 y] 85)))
   have HR2 := Lib.hid (own_below HR.out.1 hb2)
   have HB2 := Lib.hid (HR.out.2.trans (hb2.mono HR.out.2.size))
   clear hz hb2 HR
   go_wp2_with fail
   refine HI.out.mono ?_
   rintro e w3 ⟨rfl, hb3⟩
   have HR3 := Lib.hid (own_below HR2.out hb3)
   have HB3 := Lib.hid (HB2.out.trans (hb3.mono HB2.out.size))
   have hle := HB3.out.size
   have h63 : k + 1 ≤ maxLen := Nat.le_trans (by omega) (show 2000001 ≤ maxLen by decide)
   have hby : (k + 1) * 16 ≤ 140737488355328 := by omega
   clear hb3 HI HR2 HB2
   dsimp only
   go_wp2_with (at_builtin; refine wpList_append_lies _ rfl _ _ 36 rfl w.heap.size 85 i0 _ 2 16 Tryz.underlying36 hi0 hz0 hz1 hz2 rfl (by decide) u5 k xs rfl (HR3.out.alloc _) ⟨w3.heap.size, 0, none⟩ 1 1 [.int .i64 y, .int .i64 x] rfl rfl (World.news_of_block (Blk.new_at (cs := #[.int .i64 y, .int .i64 x]) (t := 85) (by simp))) (by simp [Value.oneCell']) (by decide) h63 hby (by simp; omega) (w3.heap.size + 1) (by simp) ?_; intro gg capg w5 hown5 hgrow5 hat5 hg5; have HA6 := Lib.hid (And.intro hown5 ((HB3.out.alloc hle _).grown hgrow5 (by simp; omega) (fun j e => (HR3.out.lt j e).1))); clear hown5 hgrow5 hat5)
   go_light
   go_roundw
   case rel => exact ⟨k + 1, by go_num, by omega, Lib.hid (by rw [HTk.out]; exact HA6.out)⟩
   case measure => simp [intOf]; omega
  ·obtain rfl : k = L.length := by omega
   have hdl : ¬ ((L.length : Int) < (L.length : Int)) := by omega
   go_wp2
   go_light
   go_ret
   exact ⟨_, rfl, by have h := HR.out.1; rw [List.take_length] at h; exact h, HR.out.2⟩
theorem eachedge_go (L : List (Int × Nat × Int)) (A : Option Addr) (cap : Nat) (w : World) (hl : L.length ≤ 2000000) (hA : EdgesAt w A L) :
  Calls Tryz.prog 66 #[.slice A L.length cap, .func (.func 67) #[] #[]] w fun e w' => ∃ u, e = .returned u ∧ w'.ownsRow w.heap.size 89 6 u L.length (edgesI (L.map flipE)) ∧ Below w.heap.size w w' := by
 obtain ⟨i0, hi0, hz0, hz1, hz2⟩ := info_parts info_edgeN
 have HA := Lib.hid hA
 clear hA
 go_enter Tryz.func66, Tryz.ntmps66
 go_wp2
 go_loopw [5, 10] (fun u i wr => ∃ k : Nat, i = .int .i64 (k : Int) ∧ k ≤ L.length ∧ Hid (wr.ownsRow w.heap.size 89 6 u k (edgesI ((L.take k).map flipE)) ∧ Below w.heap.size w wr)) (fun _ i _ => L.length - (intOf i).toNat)
 case atStart => exact ⟨0, rfl, Nat.zero_le _, Lib.hid ⟨World.ownsRow_nil _ _ _ _, Below.refl _ _⟩⟩
 case round =>
  obtain ⟨k, rfl, hk, HR⟩ := hrel
  by_cases hlt : k < L.length
  ·obtain ⟨p, hz⟩ : ∃ p, L[k]? = some p := ⟨_, List.getElem?_eq_getElem hlt⟩
   have HTk := Lib.hid (show edgesI ((L.take (k + 1)).map flipE) = edgesI ((L.take k).map flipE) ++ edgeI (flipE p) by rw [List.take_add_one, hz]; simp [edgesI])
   generalize edgesI ((L.take k).map flipE) = xs at *
   obtain ⟨b, o, rfl, c0, c1, c2, c3, c4, c5⟩ := (HA.out.below HR.out.2) k p hz
   obtain ⟨x, s, y⟩ := p
   have hdl : (k : Int) < (L.length : Int) := by omega
   have hb2 : Below wr.heap.size wr (wr.alloc (.cells #[.int .i64 x, .int .u64 (word s.testBit 0), .int .u64 (word s.testBit 1), .int .u64 (word s.testBit 2), .int .u64 (word s.testBit 3), .int .i64 y] 89)) := (Below.refl _ _).alloc (Nat.le_refl _) _
   have HI := Lib.hid (flipedge_go x y ((word s.testBit 0 : Nat) : Int) ((word s.testBit 1 : Nat) : Int) ((word s.testBit 2 : Nat) : Int) ((word s.testBit 3 : Nat) : Int) (wr.alloc (.cells #[.int .i64 x, .int .u64 (word s.testBit 0), .int .u64 (word s.testBit 1), .int .u64 (word s.testBit 2), .int .u64 (word s.testBit 3), .int .i64 y] 89)))
   have HR2 := Lib.hid (own_below HR.out.1 hb2)
   have HB2 := Lib.hid (HR.out.2.trans (hb2.mono HR.out.2.size))
   clear hz hb2 HR
   go_wp2_with fail
   refine HI.out.mono ?_
   rintro e w3 ⟨rfl, hb3⟩
   have HR3 := Lib.hid (own_below HR2.out hb3)
   have HB3 := Lib.hid (HB2.out.trans (hb3.mono HB2.out.size))
   have hle := HB3.out.size
   have h63 : k + 1 ≤ maxLen := Nat.le_trans (by omega) (show 2000001 ≤ maxLen by decide)
   have hby : (k + 1) * 48 ≤ 140737488355328 := by omega
   clear hb3 HI HR2 HB2
   dsimp only
   go_wp2_with (at_builtin; refine wpList_append_lies _ rfl _ _ 37 rfl w.heap.size 89 i0 _ 6 48 Tryz.underlying37 hi0 hz0 hz1 hz2 rfl (by decide) u5 k xs rfl (HR3.out.alloc _) ⟨w3.heap.size, 0, none⟩ 1 1 [.int .i64 y, .int .u64 (word s.testBit 0), .int .u64 (word s.testBit 1), .int .u64 (word s.testBit 2), .int .u64 (word s.testBit 3), .int .i64 x] rfl rfl (World.news_of_block (Blk.new_at (cs := #[.int .i64 y, .int .u64 (word s.testBit 0), .int .u64 (word s.testBit 1), .int .u64 (word s.testBit 2), .int .u64 (word s.testBit 3), .int .i64 x]) (t := 89) (by simp))) (by simp [Value.oneCell']) (by decide) h63 hby (by simp; omega) (w3.heap.size + 1) (by simp) ?_; intro gg capg w5 hown5 hgrow5 hat5 hg5; have HA6 := Lib.hid (And.intro hown5 ((HB3.out.alloc hle _).grown hgrow5 (by simp; omega) (fun j e => (HR3.out.lt j e).1))); clear hown5 hgrow5 hat5)
   go_light
   go_roundw
   case rel => exact ⟨k + 1, by go_num, by omega, Lib.hid (by rw [HTk.out]; exact HA6.out)⟩
   case measure => simp [intOf]; omega
  ·obtain rfl : k = L.length := by omega
   have hdl : ¬ ((L.length : Int) < (L.length : Int)) := by omega
   go_wp2
   go_light
   go_ret
   exact ⟨_, rfl, by have h := HR.out.1; rw [List.take_length] at h; exact h, HR.out.2⟩
theorem ret_nfa18 {fn : Func} {t2 t3 : Tmp} (h : fn.results = #[.cell t2 40, .tmp t3]) {tmps : Array Value} {w : World} {g : Nat} {a0 a1 a2 a3 a4 c : Value}
  (hp : tmps.getD t2 undef = .pointer (some ⟨g, 0, none⟩)) (hc : tmps.getD t3 undef = c) (hb : Blk w g 40 #[a0, a1, a2, a3, a4]) :
  (results fn tmps).run Tryz.prog w = .ok (.tuple #[.agg #[a0, a1, a2, a3, a4], c]) w := by
 have h1 := run_loadVar_row (P := Tryz.prog) w g 40 40 #[a0, a1, a2, a3, a4] (0, 0) _ hb Tryz.underlying40 rfl (by kernel_rfl)
 simp only [results, h]
 simp only [Array.getD_eq_getD_getElem?] at hp hc
 simp [Sem.run_bind, hp, hc, asAddr, h1, Result.andThen]
def mirErr (N : NfaV) (label : Int) : Option Int := if rightN N = false then some 6 else if N.states = 65536 then some 7 else if label < 1 ∨ 64 < label then some 2 else none
def markTo (N : NfaV) (label : Int) (k : Nat) : List (Int × Int) := ((List.range k).filter fun s => N.accept[s]? == some label).map fun (s : Nat) => (N.states, (s : Int))
def mirV (N : NfaV) (label : Int) : NfaV := ⟨N.states + 1, N.states, N.links.map flipL ++ markTo N label N.accept.length, N.edges.map flipE, (List.replicate (N.states.toNat + 1) 0).set N.start.toNat 1⟩
@[inline] def noNfa : Value := .agg #[.int .i64 0, .int .i64 0, .slice none 0 0, .slice none 0 0, .slice none 0 0]
theorem mir_no (N : NfaV) (A1 : Option Addr) (k1 : Nat) (A2 : Option Addr) (k2 : Nat) (A3 : Option Addr) (k3 : Nat) (label : Int) (w : World) (hN : NfaAt w N A1 A2 A3) (k : Int) (hk : mirErr N label = some k) :
  Calls Tryz.prog 17 #[.agg (nfA N A1 k1 A2 k2 A3 k3), .int .i64 label] w fun e w' => e = .returned (.tuple #[noNfa, .int .i64 k]) ∧ Below w.heap.size w w' := by
 have hb2 : Below w.heap.size w ((w.alloc (.cells (nfA N A1 k1 A2 k2 A3 k3) 40)).alloc (.cells #[.int .i64 0, .int .i64 0, .slice none 0 0, .slice none 0 0, .slice none 0 0] 40)) := ((Below.refl _ _).alloc (Nat.le_refl _) _).alloc (by simp) _
 have HB2 := Lib.hid hb2
 have HX2 := Lib.hid (show Blk ((w.alloc (.cells (nfA N A1 k1 A2 k2 A3 k3) 40)).alloc (.cells #[.int .i64 0, .int .i64 0, .slice none 0 0, .slice none 0 0, .slice none 0 0] 40)) w.heap.size 40 (nfA N A1 k1 A2 k2 A3 k3) from (Blk.new _ _ _).alloc _)
 have HZ2 := Lib.hid (show Blk ((w.alloc (.cells (nfA N A1 k1 A2 k2 A3 k3) 40)).alloc (.cells #[.int .i64 0, .int .i64 0, .slice none 0 0, .slice none 0 0, .slice none 0 0] 40)) (w.heap.size + 1) 40 #[.int .i64 0, .int .i64 0, .slice none 0 0, .slice none 0 0, .slice none 0 0] from Blk.new_at (by simp))
 have HR := Lib.hid (nright_go N A1 k1 A2 k2 A3 k3 _ (hN.below hb2))
 clear hb2 hN
 unfold nfA at *
 go_enter Tryz.func17, Tryz.ntmps17
 go_upto_region 1 with fail
 generalize ((w.alloc (.cells #[.int .i64 N.states, .int .i64 N.start, .slice A1 N.links.length k1, .slice A2 N.edges.length k2, .slice A3 N.accept.length k3] 40)).alloc (.cells #[.int .i64 0, .int .i64 0, .slice none 0 0, .slice none 0 0, .slice none 0 0] 40)) = w2 at *
 have hX := HX2.out
 have x0 := hX.cell 0
 have x1 := hX.cell 1
 have x2 := hX.cell 2
 have x3 := hX.cell 3
 have x4 := hX.cell 4
 have hlx := hX.lt
 clear hX
 simp only [List.getElem?_toArray, List.getElem?_cons_zero, List.getElem?_cons_succ] at x0 x1 x2 x3 x4
 go_wp2_with fail
 refine HR.out.mono ?_
 rintro e w3 ⟨rfl, hb3⟩
 have hX3 := HX2.out.below hb3 HX2.out.lt
 have y0 := hX3.cell 0
 have hZ3 := HZ2.out.below hb3 HZ2.out.lt
 have HB3 := Lib.hid (HB2.out.trans (hb3.mono HB2.out.size))
 have hlz := hZ3.lt
 have f0 := hZ3.frozen 0
 have f1 := hZ3.frozen 1
 have f2 := hZ3.frozen 2
 have f3 := hZ3.frozen 3
 have f4 := hZ3.frozen 4
 have z0 := hZ3.cell 0
 have z1 := hZ3.cell 1
 have z2 := hZ3.cell 2
 have z3 := hZ3.cell 3
 have z4 := hZ3.cell 4
 simp only [List.getElem?_toArray, List.getElem?_cons_zero, List.getElem?_cons_succ] at y0 z0 z1 z2 z3 z4
 have HZ3 := Lib.hid hZ3
 clear hX3 hb3 hZ3 x0 x1 x2 x3 x4
 by_cases hr : rightN N = false
 ·have HK := Lib.hid (show k = 6 by unfold mirErr at hk; rw [if_pos hr] at hk; exact (Option.some.inj hk).symm)
  rw [hr]
  dsimp only
  clear hk
  go_wp2
  have hX5 := ((((HZ3.out.set_ 0 (.int .i64 0)).set_ 1 (.int .i64 0)).set_ 2 (.slice none 0 0)).set_ 3 (.slice none 0 0)).set_ 4 (.slice none 0 0)
  refine bodyPost_ret (ret_nfa18 Tryz.results17 rfl rfl hX5) rfl ⟨by rw [HK.out]; rfl, ?_⟩
  exact ((((HB3.out.setCell (p := ⟨w.heap.size + 1, 0, none⟩) (Nat.le_succ _) _).setCell (p := ⟨w.heap.size + 1, 1, none⟩) (Nat.le_succ _) _).setCell (p := ⟨w.heap.size + 1, 2, none⟩) (Nat.le_succ _) _).setCell (p := ⟨w.heap.size + 1, 3, none⟩) (Nat.le_succ _) _).setCell (p := ⟨w.heap.size + 1, 4, none⟩) (Nat.le_succ _) _
 have hr1 : rightN N = true := by simpa using hr
 rw [hr1]
 by_cases h7 : N.states = 65536
 ·have HK := Lib.hid (show k = 7 by unfold mirErr at hk; rw [if_neg hr, if_pos h7] at hk; exact (Option.some.inj hk).symm)
  rw [h7] at y0
  dsimp only
  clear hk hr h7
  go_wp2
  have hX5 := ((((HZ3.out.set_ 0 (.int .i64 0)).set_ 1 (.int .i64 0)).set_ 2 (.slice none 0 0)).set_ 3 (.slice none 0 0)).set_ 4 (.slice none 0 0)
  refine bodyPost_ret (ret_nfa18 Tryz.results17 rfl rfl hX5) rfl ⟨by rw [HK.out]; rfl, ?_⟩
  exact ((((HB3.out.setCell (p := ⟨w.heap.size + 1, 0, none⟩) (Nat.le_succ _) _).setCell (p := ⟨w.heap.size + 1, 1, none⟩) (Nat.le_succ _) _).setCell (p := ⟨w.heap.size + 1, 2, none⟩) (Nat.le_succ _) _).setCell (p := ⟨w.heap.size + 1, 3, none⟩) (Nat.le_succ _) _).setCell (p := ⟨w.heap.size + 1, 4, none⟩) (Nat.le_succ _) _
 have HK := Lib.hid (show k = 2 ∧ (label < 1 ∨ 64 < label) by
  unfold mirErr at hk
  rw [if_neg hr, if_neg h7] at hk
  by_cases h : label < 1 ∨ 64 < label
  ·rw [if_pos h] at hk; exact ⟨(Option.some.inj hk).symm, h⟩
  ·rw [if_neg h] at hk; cases hk)
 have h7' : (N.states == 65536) = false := by simpa using h7
 clear hk hr
 obtain ⟨hk2, hlab⟩ := HK.out
 clear HK
 have HK := Lib.hid hk2
 clear hk2
 by_cases h1 : label < 1
 ·dsimp only
  clear hlab
  go_wp2
  have hX5 := ((((HZ3.out.set_ 0 (.int .i64 0)).set_ 1 (.int .i64 0)).set_ 2 (.slice none 0 0)).set_ 3 (.slice none 0 0)).set_ 4 (.slice none 0 0)
  refine bodyPost_ret (ret_nfa18 Tryz.results17 rfl rfl hX5) rfl ⟨by rw [HK.out]; rfl, ?_⟩
  exact ((((HB3.out.setCell (p := ⟨w.heap.size + 1, 0, none⟩) (Nat.le_succ _) _).setCell (p := ⟨w.heap.size + 1, 1, none⟩) (Nat.le_succ _) _).setCell (p := ⟨w.heap.size + 1, 2, none⟩) (Nat.le_succ _) _).setCell (p := ⟨w.heap.size + 1, 3, none⟩) (Nat.le_succ _) _).setCell (p := ⟨w.heap.size + 1, 4, none⟩) (Nat.le_succ _) _
 ·have h64 : 64 < label := by omega
  clear hlab
  dsimp only
  go_wp2
  have hX5 := ((((HZ3.out.set_ 0 (.int .i64 0)).set_ 1 (.int .i64 0)).set_ 2 (.slice none 0 0)).set_ 3 (.slice none 0 0)).set_ 4 (.slice none 0 0)
  refine bodyPost_ret (ret_nfa18 Tryz.results17 rfl rfl hX5) rfl ⟨by rw [HK.out]; rfl, ?_⟩
  exact ((((HB3.out.setCell (p := ⟨w.heap.size + 1, 0, none⟩) (Nat.le_succ _) _).setCell (p := ⟨w.heap.size + 1, 1, none⟩) (Nat.le_succ _) _).setCell (p := ⟨w.heap.size + 1, 2, none⟩) (Nat.le_succ _) _).setCell (p := ⟨w.heap.size + 1, 3, none⟩) (Nat.le_succ _) _).setCell (p := ⟨w.heap.size + 1, 4, none⟩) (Nat.le_succ _) _
theorem linksI_snoc (l : List (Int × Int)) (p : Int × Int) : linksI (l ++ [p]) = linksI l ++ linkI p := by simp [linksI]
def intsI (l : List Int) : List Value := l.map (Value.int .i64)
theorem linksI_get : ∀ (l : List (Int × Int)) (k : Nat) (p : Int × Int), l[k]? = some p → (linksI l)[k * 2]? = some (.int .i64 p.1) ∧ (linksI l)[k * 2 + 1]? = some (.int .i64 p.2)
 | [], k, p, h => by simp at h
 | x :: l, 0, p, h => by simp at h; subst h; exact ⟨rfl, rfl⟩
 | x :: l, k + 1, p, h => by
  obtain ⟨h1, h2⟩ := linksI_get l k p (by simpa using h)
  have e : linksI (x :: l) = linkI x ++ linksI l := by simp [linksI]
  have hl : (linkI x).length = 2 := rfl
  rw [e]
  refine ⟨?_, ?_⟩
  ·rw [List.getElem?_append_right (by omega), hl, show (k + 1) * 2 - 2 = k * 2 by omega]; exact h1
  ·rw [List.getElem?_append_right (by omega), hl, show (k + 1) * 2 + 1 - 2 = k * 2 + 1 by omega]; exact h2
theorem edgesI_get : ∀ (l : List (Int × Nat × Int)) (k : Nat) (p : Int × Nat × Int), l[k]? = some p → ∀ j, j < 6 → (edgesI l)[k * 6 + j]? = (edgeI p)[j]?
 | [], k, p, h, _, _ => by simp at h
 | x :: l, 0, p, h, j, hj => by
  simp at h
  subst h
  have e : edgesI (x :: l) = edgeI x ++ edgesI l := by simp [edgesI]
  rw [e, Nat.zero_mul, Nat.zero_add, List.getElem?_append_left (by simpa [edgeI] using hj)]
 | x :: l, k + 1, p, h, j, hj => by
  have h1 := edgesI_get l k p (by simpa using h) j hj
  have e : edgesI (x :: l) = edgeI x ++ edgesI l := by simp [edgesI]
  have hl : (edgeI x).length = 6 := rfl
  rw [e, List.getElem?_append_right (by omega), hl, show (k + 1) * 6 + j - 6 = k * 6 + j by omega]
  exact h1
theorem own_linksAt {w : World} {base n : Nat} {A : Option Addr} {k : Nat} {l : List (Int × Int)} (h : w.ownsRow base 85 2 (.slice A n k) l.length (linksI l)) : LinksAt w A l := fun i p hp => by
 have hi := (List.getElem?_eq_some_iff.1 hp).1
 obtain ⟨g, c, e, _, _⟩ := own_form h (by omega)
 cases e
 obtain ⟨c0, c1⟩ := linksI_get l i p hp
 have d0 := h.cells (g := g) rfl _ _ c0
 have d1 := h.cells (g := g) rfl _ _ c1
 rw [addr_plusE] at d0 d1
 exact ⟨g, 0, rfl, by rw [Nat.zero_add]; exact d0, by rw [Nat.zero_add]; exact d1⟩
theorem own_edgesAt {w : World} {base n : Nat} {A : Option Addr} {k : Nat} {l : List (Int × Nat × Int)} (h : w.ownsRow base 89 6 (.slice A n k) l.length (edgesI l)) : EdgesAt w A l := fun i q hq => by
 have hi := (List.getElem?_eq_some_iff.1 hq).1
 obtain ⟨g, c, e, _, _⟩ := own_form h (by omega)
 cases e
 have hc := edgesI_get l i q hq
 have d : ∀ j u, j < 6 → (edgeI q)[j]? = some u → w.cell? ⟨g, 0 + i * 6 + j, none⟩ = some u := fun j u hj hu => by
  have := h.cells (g := g) rfl _ _ ((hc j hj).trans hu)
  rw [addr_plusE] at this
  rw [Nat.zero_add]
  exact this
 exact ⟨g, 0, rfl, d 0 _ (by decide) rfl, d 1 _ (by decide) rfl, d 2 _ (by decide) rfl, d 3 _ (by decide) rfl, d 4 _ (by decide) rfl, d 5 _ (by decide) rfl⟩
theorem own_base {w : World} {b0 base n size : Nat} {e : TypeId} {v : Value} {xs : List Value} (h : w.ownsRow base e size v n xs) (hb : b0 ≤ base) : w.ownsRow b0 e size v n xs := by
 refine ⟨h.1, ?_⟩
 rcases h.2 with h1 | ⟨g, cap, cur, hv, h1, h2⟩
 ·exact .inl h1
 ·exact .inr ⟨g, cap, cur, hv, by omega, h2⟩
structure MW (w0 w : World) (gx gz gm base : Nat) (X Z : Array Value) (n1 n : Int) (Lk : List (Int × Int)) (Ed : List (Int × Nat × Int)) (u v a : Value) : Prop where
 x : Blk w gx 40 X
 z : Blk w gz 40 Z
 m : Blk w gm 40 #[.int .i64 n1, .int .i64 n, u, v, a]
 l : w.ownsRow base 85 2 u Lk.length (linksI Lk)
 e : w.ownsRow base 89 6 v Ed.length (edgesI Ed)
 b : Below w0.heap.size w0 w
 lo : w0.heap.size ≤ gz ∧ w0.heap.size ≤ gm ∧ w0.heap.size ≤ base
 ne : gx ≠ gm ∧ gz ≠ gm
 sz : base ≤ w.heap.size
section
variable {w0 w wa w1 : World} {gx gz gm base gg cap : Nat} {X Z : Array Value} {n1 n : Int} {Lk : List (Int × Int)} {Ed : List (Int × Nat × Int)} {u v a : Value}
theorem grown_blk {t : TypeId} {cs : Array Value} {b : Nat} {r : Option Nat} (h : Blk w b t cs) (ha : Below w.heap.size w wa) (hg : wa.grownBy w1 r) (hr : some b ≠ r) : Blk w1 b t cs := (h.below ha h.lt).grown hg hr
theorem grown_row {base' size k : Nat} {e : TypeId} {v : Value} {xs : List Value} {r : Option Nat} (hr : w.ownsRow base' e size v k xs) (ha : Below w.heap.size w wa) (hg : wa.grownBy w1 r) (hne : ∀ k, v.ownBlock = some k → r ≠ some k) : w1.ownsRow base' e size v k xs :=
 ownsRow_block hr (fun k hk => (hg.block k (by have := (hr.lt k hk).2; have := ha.size; omega) (fun e => hne k hk e.symm)).trans (ha.block k (hr.lt k hk).2))
theorem MW.link (h : MW w0 w gx gz gm base X Z n1 n Lk Ed u v a) {p : Int × Int} (ha : Below w.heap.size w wa) (hg : wa.grownBy w1 u.ownBlock)
  (hown : w1.ownsRow base 85 2 (.slice (some ⟨gg, 0, none⟩) (Lk.length + 1) cap) (Lk.length + 1) (linksI Lk ++ linkI p)) :
  MW w0 (w1.setCell ⟨gm, 2, none⟩ (.slice (some ⟨gg, 0, none⟩) (Lk.length + 1) cap)) gx gz gm base X Z n1 n (Lk ++ [p]) Ed (.slice (some ⟨gg, 0, none⟩) (Lk.length + 1) cap) v a := by
 have hM := grown_blk h.m ha hg (blk_not_row h.m (by decide) h.l)
 refine ⟨(grown_blk h.x ha hg (blk_not_row h.x (by decide) h.l)).far (p := ⟨gm, 2, none⟩) h.ne.1 _, (grown_blk h.z ha hg (blk_not_row h.z (by decide) h.l)).far (p := ⟨gm, 2, none⟩) h.ne.2 _, hM.set_ 2 _, ?_, own_set (grown_row h.e ha hg (fun k hk => rows_apart h.e h.l (by decide) hk)) (blk_not_row hM (by decide) (grown_row h.e ha hg (fun k hk => rows_apart h.e h.l (by decide) hk))), ?_, h.lo, h.ne, by have := h.sz; have := ha.size; have := hg.size; simp [World.setCell]; omega⟩
 ·rw [linksI_snoc, List.length_append]
  exact own_set hown (blk_not_row hM (by decide) hown)
 ·refine Below.setCell (Below.grown (h.b.trans (ha.mono h.b.size)) hg (by have := h.b.size; have := ha.size; omega) (fun k hk => Nat.le_trans h.lo.2.2 (h.l.lt k hk).1)) (p := ⟨gm, 2, none⟩) h.lo.2.1 _
end
theorem blk_intsAt {w : World} {g : Nat} {cs : Array Value} {l : List Int} (h : Blk w g 3 cs) (hc : cs.toList = intsI l) : IntsAt w (some ⟨g, 0, none⟩) l := fun i a ha => by
 refine ⟨g, 0, rfl, ?_⟩
 have := h.cell (0 + i)
 rw [this, Nat.zero_add, ← Array.getElem?_toList, hc]
 unfold intsI
 rw [List.getElem?_map, ha]
 rfl
theorem made_set (n k : Nat) : ((madeCells #[.int .i64 0] n).setIfInBounds k (.int .i64 1)).toList = intsI ((List.replicate n 0).set k 1) := by
 rw [Array.toList_setIfInBounds, toList_madeCells_one]
 unfold intsI
 rw [List.map_set, List.map_replicate]
theorem markTo_succ {N : NfaV} {label : Int} {k : Nat} {c : Int} (hc : N.accept[k]? = some c) : markTo N label (k + 1) = markTo N label k ++ if c = label then [(N.states, (k : Int))] else [] := by
 unfold markTo
 rw [List.range_succ, List.filter_append, List.map_append]
 congr 1
 by_cases h : c = label
 ·subst h
  rw [if_pos rfl, List.filter_cons, hc]
  simp
 ·rw [if_neg h, List.filter_cons, hc]
  have : ((some c == some label) : Bool) = false := by simpa using h
  rw [this]
  simp
theorem markTo_len (N : NfaV) (label : Int) (k : Nat) : (markTo N label k).length ≤ k := by
 unfold markTo
 rw [List.length_map]
 exact Nat.le_trans (List.length_filter_le _ _) (by simp)
def revAt {α : Type} (l : List α) (i p : Nat) : Option α := if p < i ∨ l.length - i ≤ p then l[l.length - 1 - p]? else l[p]?
theorem revAt_zero {α : Type} (l : List α) {p : Nat} (hp : p < l.length) : revAt l 0 p = l[p]? := by
 unfold revAt
 rw [if_neg (by omega)]
theorem revAt_done {α : Type} (l : List α) {i p : Nat} (hp : p < l.length) (hi : ¬ i < l.length - 1 - i) : revAt l i p = l.reverse[p]? := by
 unfold revAt
 rw [List.getElem?_reverse hp]
 split
 ·rfl
 ·have : p = l.length - 1 - p := by omega
  rw [← this]
theorem revAt_step {α : Type} (l : List α) {i p : Nat} (hi : i < l.length - 1 - i) (hp : p < l.length) : revAt l (i + 1) p = if p = i then l[l.length - 1 - i]? else if p = l.length - 1 - i then l[i]? else revAt l i p := by
 unfold revAt
 by_cases h1 : p = i
 ·subst h1
  rw [if_pos (by omega), if_pos rfl]
 ·rw [if_neg h1]
  by_cases h2 : p = l.length - 1 - i
  ·rw [if_pos (by omega), if_pos h2, h2]
   congr 1
   omega
  ·rw [if_neg h2]
   by_cases h3 : p < i ∨ l.length - i ≤ p
   ·rw [if_pos (by omega), if_pos h3]
   ·rw [if_neg (by omega), if_neg h3]
theorem revAt_left {α : Type} (l : List α) {i : Nat} (hi : i < l.length - 1 - i) : revAt l i i = l[i]? := by
 unfold revAt
 rw [if_neg (by omega)]
theorem revAt_right {α : Type} (l : List α) {i : Nat} (hi : i < l.length - 1 - i) : revAt l i (l.length - 1 - i) = l[l.length - 1 - i]? := by
 unfold revAt
 rw [if_neg (by omega)]
def RevB (w0 : World) (g : Nat) (bs : List Nat) (i : Nat) (w : World) : Prop :=
 ∃ cur : Array Value, Blk w g 5 cur ∧ bs.length ≤ cur.size ∧ (∀ p, p < bs.length → cur[p]? = (revAt bs i p).map fun n : Nat => Value.int .u8 (n : Int)) ∧ w0.grownBy w (some g)
theorem RevB.swap {w0 w : World} {g i a b : Nat} {bs : List Nat} (h : RevB w0 g bs i w) (hi : i < bs.length - 1 - i) (ha : bs[i]? = some a) (hb : bs[bs.length - 1 - i]? = some b) :
  RevB w0 g bs (i + 1) ((w.setCell ⟨g, i, none⟩ (.int .u8 (b : Int))).setCell ⟨g, bs.length - 1 - i, none⟩ (.int .u8 (a : Int))) := by
 obtain ⟨cur, h1, h2, h3, h4⟩ := h
 refine ⟨_, (h1.set_ i _).set_ (bs.length - 1 - i) _, by simpa using h2, fun p hp => ?_, only_set (only_set h4 i _) _ _⟩
 rw [revAt_step bs hi hp, Array.getElem?_setIfInBounds, Array.getElem?_setIfInBounds]
 by_cases hpi : p = i
 ·subst hpi
  rw [if_neg (by omega), if_pos rfl, if_pos rfl, hb]
  simp
  omega
 ·by_cases hpj : p = bs.length - 1 - i
  ·subst hpj
   rw [if_pos rfl, if_neg hpi, if_pos rfl, ha]
   simp
   omega
  ·rw [if_neg (by omega), if_neg (by omega), if_neg hpi, if_neg hpj]
   exact h3 p hp
theorem RevB.drew {w0 w : World} {g i : Nat} {bs : List Nat} (h : RevB w0 g bs i w) : RevB w0 g bs i w.drew := by
 obtain ⟨cur, h1, h2, h3, h4⟩ := h
 exact ⟨cur, h1.drew, h2, h3, ⟨h4.os, h4.tape, h4.output, h4.size, h4.block⟩⟩
theorem revb_go (g cap : Nat) (bs : List Nat) (w : World) (h : RevB w g bs 0 w) (hl : bs.length ≤ 140737488355328) :
  Calls Tryz.prog 115 #[.slice (some ⟨g, 0, none⟩) bs.length cap] w fun e w' => e = .returned (.tuple #[]) ∧ ∃ i, RevB w g bs i w' ∧ ¬ i < bs.length - 1 - i := by
 have H0 := Lib.hid h
 clear h
 go_enter Tryz.func115, Tryz.ntmps115
 go_wp2
 go_loopw [2, 3] (fun a b wr => ∃ i : Nat, a = .int .i64 (i : Int) ∧ b = .int .i64 ((bs.length : Int) - 1 - i) ∧ i ≤ bs.length ∧ Hid (RevB w g bs i wr)) (fun a _ _ => bs.length - (intOf a).toNat)
 case atStart => exact ⟨0, rfl, by simp, by omega, H0⟩
 case round =>
  clear H0
  obtain ⟨i, rfl, rfl, hi, HR⟩ := hrel
  by_cases hlt : i < bs.length - 1 - i
  ·have hdl : (i : Int) < (bs.length : Int) - 1 - i := by omega
   obtain ⟨a, ha⟩ : ∃ a, bs[i]? = some a := ⟨_, List.getElem?_eq_getElem (by omega)⟩
   obtain ⟨b, hb⟩ : ∃ b, bs[bs.length - 1 - i]? = some b := ⟨_, List.getElem?_eq_getElem (by omega)⟩
   have HSW := Lib.hid (HR.out.swap hlt ha hb).drew
   obtain ⟨cur, h1, h2, h3, h4⟩ := HR.out
   have ci : wr.cell? ⟨g, i, none⟩ = some (.int .u8 (a : Int)) := (h1.cell i).trans (by rw [h3 i (by omega), revAt_left bs hlt, ha]; rfl)
   have cj : wr.cell? ⟨g, bs.length - 1 - i, none⟩ = some (.int .u8 (b : Int)) := (h1.cell (bs.length - 1 - i)).trans (by rw [h3 _ (by omega), revAt_right bs hlt, hb]; rfl)
   have fi := h1.frozen i
   have fj := h1.frozen (bs.length - 1 - i)
   have hlg := h1.lt
   have HLT := Lib.hid hlt
   obtain ⟨j, hj⟩ : ∃ j, j = bs.length - 1 - i := ⟨_, rfl⟩
   have hjn : (bs.length : Int) - 1 - i = (j : Int) := by omega
   have hij : i < j := by omega
   have hil : i < bs.length := by omega
   have mixed : Tryz.prog.follows .mixedOrders = true := by kernel_rfl
   have hjl : j < bs.length := by omega
   rw [← hj] at cj fj HSW
   rw [hjn] at *
   have HJ := Lib.hid hj
   clear h1 h2 h3 h4 ha hb hj hjn
   go_wp2_with fail
   go_region_o
   go_wp2
   go_roundw
   case rel => exact ⟨i + 1, by go_num, by congr 1; have := HJ.out; omega, by omega, HSW⟩
   case measure => simp [intOf]; omega
  ·have hdl : ¬ (i : Int) < (bs.length : Int) - 1 - i := by omega
   have HLT := Lib.hid hlt
   go_wp2
   go_light
   go_end0
   exact ⟨rfl, i, HR.out, by have := HLT.out; omega⟩
end Go.Proofs.YtofbfafnpdaejaaGreatDoor
