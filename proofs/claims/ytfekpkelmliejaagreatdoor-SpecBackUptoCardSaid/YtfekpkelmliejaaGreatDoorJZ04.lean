/- Texts of the claim. -/
import Derived.Lib.AppendStr
import Derived.Deep.Onto
import Derived.Shelf.Spec.TrailingZeros
import Derived.Deep.DeepHandedRow
import Derived.Lib.LaidTab
import Derived.Test.YtfekpkelmliejaaGreatDoorJZ02
import Derived.Test.YtfekpkelmliejaaGreatDoorJZ03
import Derived.Test.YtfekpkelmliejaaGreatDoorJRShow
import Derived.Test.YtfekpkelmliejaaGreatDoorJZ01
import Derived.Test.YtfekpkelmliejaaGreatDoorJShow
import Derived.Test.YtfekpkelmliejaaGreatDoorJSame
import Derived.Test.YtfekpkelmliejaaGreatDoorJEscCl
namespace Go.Proofs.YtfekpkelmliejaaGreatDoor
open Go.RowKit
set_option linter.unusedSimpArgs false
set_option linter.unusedVariables false
set_option maxRecDepth 100000
set_option maxHeartbeats 8000000
def repT (lo hi : Int) : List Nat := [123] ++ (decS lo.toNat ++ ((if hi < 0 then [44] else if lo < hi then 44 :: decS hi.toNat else []) ++ [125]))
theorem repT_open (lo hi : Int) (h : hi < 0) : repT lo hi = [123] ++ (decS lo.toNat ++ ([44] ++ [125])) := by unfold repT; rw [if_pos h]
theorem repT_two (lo hi : Int) (h : ¬ hi < 0) (h2 : lo < hi) : repT lo hi = [123] ++ (decS lo.toNat ++ (([44] ++ decS hi.toNat) ++ [125])) := by unfold repT; rw [if_neg h, if_pos h2]; rfl
theorem repT_one (lo hi : Int) (h : ¬ hi < 0) (h2 : ¬ lo < hi) : repT lo hi = [123] ++ (decS lo.toNat ++ [125]) := by unfold repT; rw [if_neg h, if_neg h2]; rfl
theorem repT_len (lo hi : Int) : (repT lo hi).length ≤ 11 := by
 unfold repT
 have := decS_len lo.toNat
 have := decS_len hi.toNat
 split
 ·simp; omega
 ·split <;> simp <;> omega
def sameSet (p q : Nat → Bool) : Bool := ((word p 0 : Nat) : Int) == ((word q 0 : Nat) : Int) && ((word p 1 : Nat) : Int) == ((word q 1 : Nat) : Int) && ((word p 2 : Nat) : Int) == ((word q 2 : Nat) : Int) && ((word p 3 : Nat) : Int) == ((word q 3 : Nat) : Int)
def setT (p : Nat → Bool) : List Nat := if (elems p 256).length = 1 then litS ((elems p 256).headD 0) else if sameSet p dotSet = true then [46] else showS p
def textS (x : Lex) : List Nat :=
 if x.kind = 1 then setT x.set else if x.kind = 8 then repT x.lo x.hi
 else if x.kind = 2 then [40] else if x.kind = 3 then [41] else if x.kind = 4 then [124] else if x.kind = 5 then [42] else if x.kind = 6 then [43] else [63]
theorem setT_len (p : Nat → Bool) : (setT p).length ≤ 2400 := by
 unfold setT
 split
 ·have := litS_len ((elems p 256).headD 0); omega
 ·split
  ·simp
  ·exact showS_len p
theorem textS_len (x : Lex) : (textS x).length ≤ 2400 := by
 unfold textS
 split
 ·exact setT_len _
 ·split
  ·have := repT_len x.lo x.hi; omega
  ·repeat' split
   all_goals simp
theorem litS_bytes (c : Nat) (hc : c < 256) : ∀ x ∈ litS c, x < 256 := by
 intro x hx
 unfold litS at hx
 split at hx
 ·simp at hx; omega
 ·split at hx
  ·simp at hx; omega
  ·exact (chr_head c hc).2.2.2.2 x hx
theorem decS_bytes (n : Nat) (h : n < 10000) : ∀ x ∈ decS n, 48 ≤ x ∧ x ≤ 57 := by
 intro x hx
 unfold decS at hx
 split at hx
 ·simp at hx; omega
 ·split at hx
  ·simp at hx; omega
  ·split at hx
   ·simp at hx; omega
   ·simp at hx; omega
theorem str_open (a : List Nat) : (((⟨#[123]⟩ : ByteArray) ++ strOf a) ++ ⟨#[44]⟩) ++ ⟨#[125]⟩ = strOf ([123] ++ (a ++ ([44] ++ [125]))) := by
 show ((strOf [123] ++ strOf a) ++ strOf [44]) ++ strOf [125] = _
 simp only [strOf_append, List.append_assoc]
theorem str_onerep (a : List Nat) : ((⟨#[123]⟩ : ByteArray) ++ strOf a) ++ ⟨#[125]⟩ = strOf ([123] ++ (a ++ [125])) := by
 show (strOf [123] ++ strOf a) ++ strOf [125] = _
 simp only [strOf_append, List.append_assoc]
theorem str_tworep (a b : List Nat) : (((⟨#[123]⟩ : ByteArray) ++ strOf a) ++ ((⟨#[44]⟩ : ByteArray) ++ strOf b)) ++ ⟨#[125]⟩ = strOf ([123] ++ (a ++ (([44] ++ b) ++ [125]))) := by
 show ((strOf [123] ++ strOf a) ++ (strOf [44] ++ strOf b)) ++ strOf [125] = _
 simp only [strOf_append, List.append_assoc]
theorem rept_go (lo hi : Int) (w : World) (h0 : 0 ≤ lo) (h1 : lo ≤ 1000) (h2 : hi = -1 ∨ lo ≤ hi ∧ hi ≤ 1000) :
  Calls Tryz.prog 212 #[.int .i64 lo, .int .i64 hi] w fun e w' => e = .returned (.string (strOf (repT lo hi))) ∧ Below w.heap.size w w' := by
 obtain ⟨n, rfl⟩ := Int.eq_ofNat_of_zero_le h0
 have H1 := Lib.hid (fun w => shown_go n w (by omega))
 have l1 := decS_len n
 by_cases hh : hi < 0
 ·have HV := Lib.hid ((str_open (decS n)).trans (congrArg strOf (repT_open n hi hh).symm))
  go_enter Tryz.func212, Tryz.ntmps212
  go_wp2_with fail
  refine (H1.out _).mono ?_
  rintro e w1 ⟨rfl, hb1⟩
  go_wp2
  go_light
  go_ret
  exact ⟨by rw [← HV.out]; rfl, hb1⟩
 obtain ⟨m, rfl⟩ := Int.eq_ofNat_of_zero_le (show 0 ≤ hi by omega)
 have H2 := Lib.hid (fun w => shown_go m w (by omega))
 have l2 := decS_len m
 by_cases hlt : (n : Int) < (m : Int)
 ·have HV := Lib.hid ((str_tworep (decS n) (decS m)).trans (congrArg strOf (repT_two n m hh hlt).symm))
  go_enter Tryz.func212, Tryz.ntmps212
  go_wp2_with fail
  refine (H1.out _).mono ?_
  rintro e w1 ⟨rfl, hb1⟩
  have HB1 := Lib.hid hb1
  clear hb1
  go_wp2_with fail
  refine (H2.out _).mono ?_
  rintro e w2 ⟨rfl, hb2⟩
  have HB2 := Lib.hid (HB1.out.trans (hb2.mono HB1.out.size))
  clear hb2
  go_wp2
  go_light
  go_ret
  exact ⟨by rw [← HV.out]; rfl, HB2.out⟩
 ·have HV := Lib.hid ((str_onerep (decS n)).trans (congrArg strOf (repT_one n m hh hlt).symm))
  go_enter Tryz.func212, Tryz.ntmps212
  go_wp2_with fail
  refine (H1.out _).mono ?_
  rintro e w1 ⟨rfl, hb1⟩
  go_wp2
  go_light
  go_ret
  exact ⟨by rw [← HV.out]; rfl, hb1⟩
theorem lexset_below {w w' : World} {g : Nat} {t : TypeId} {a b c d e f u v : Value} (h : Blk w g t #[a, b, c, d, e, f, u, v]) (hb : Below w.heap.size w w') :
  w'.cell? ⟨g, 2, none⟩ = some c ∧ w'.cell? ⟨g, 2 + 1, none⟩ = some d ∧ w'.cell? ⟨g, 2 + 2, none⟩ = some e ∧ w'.cell? ⟨g, 2 + 3, none⟩ = some f :=
 have h := h.below hb h.lt
 ⟨h.cell 2, h.cell 3, h.cell 4, h.cell 5⟩
theorem text_setJ (p : Nat → Bool) (pl lo hi : Int) (w : World) (hT : TabAt 1 Lib.deBruijn64tab w) (hw0 : 1 < w.heap.size) :
  Calls Tryz.prog 175 #[.agg #[.int .i64 1, .int .i64 pl, .int .u64 (word p 0), .int .u64 (word p 1), .int .u64 (word p 2), .int .u64 (word p 3), .int .i64 lo, .int .i64 hi]] w fun e w' => e = .returned (.string (strOf (setT p))) ∧ Below w.heap.size w w' := by
 have hb0 := (Below.refl w.heap.size w).alloc (Nat.le_refl _) (.cells #[.int .i64 1, .int .i64 pl, .int .u64 (word p 0), .int .u64 (word p 1), .int .u64 (word p 2), .int .u64 (word p 3), .int .i64 lo, .int .i64 hi] 139)
 have hx0 := Blk.new w 139 #[.int .i64 1, .int .i64 pl, .int .u64 (word p 0), .int .u64 (word p 1), .int .u64 (word p 2), .int .u64 (word p 3), .int .i64 lo, .int .i64 hi]
 have HT := Lib.hid hT
 have HB0 := Lib.hid hb0
 have HX0 := Lib.hid hx0
 clear hb0 hx0 hT
 have hcn := cnt_elems p 256
 by_cases h1 : (elems p 256).length = 1
 ·obtain ⟨c, hc⟩ := List.length_eq_one_iff.1 h1
  have hc256 : c < 256 := elems_lt (m := 256) (p := p) (by rw [hc]; simp)
  have HV : Hid (setT p = litS c) := Lib.hid (by unfold setT; rw [if_pos h1, hc]; rfl)
  have HN : Hid (((cnt p 256 : Nat) : Int) = 1) := Lib.hid (by omega)
  have HL := Lib.hid (fun w => least_go p c hc w)
  rw [HV.out]
  clear hc h1 hcn
  go_enter Tryz.func175, Tryz.ntmps175
  go_wp2_with fail
  refine (count_go p _).mono ?_
  rintro e w1 ⟨rfl, hb1⟩
  rw [HN.out]
  have HB1 := Lib.hid (HB0.out.trans (hb1.mono HB0.out.size))
  have hx1 := HX0.out.below hb1 HX0.out.lt
  have HX1 := Lib.hid hx1
  have s2 := hx1.cell 2
  have s3 := hx1.cell 3
  have s4 := hx1.cell 4
  have s5 := hx1.cell 5
  clear hb1 hx1
  simp at s2 s3 s4 s5
  go_wp2_with fail
  refine (HL.out _ (TabAt.below HB1.out hw0 HT.out) (Nat.lt_of_lt_of_le hw0 HB1.out.size)).mono ?_
  rintro e w2 ⟨rfl, hb2⟩
  have HB2 := Lib.hid (HB1.out.trans (hb2.mono HB1.out.size))
  clear hb2
  go_wp2_with fail
  refine (lit_go c _ hc256).mono ?_
  rintro e w3 ⟨rfl, hb3⟩
  have HB3 := Lib.hid (HB2.out.trans (hb3.mono HB2.out.size))
  clear hb3
  go_wp2
  go_light
  go_ret
  exact ⟨rfl, HB3.out⟩
 ·have HN : Hid ((((cnt p 256 : Nat) : Int) == 1) = false) := Lib.hid (by simp; omega)
  have hn256 : cnt p 256 ≤ 256 := by rw [hcn]; exact elems_len p 256
  cases hd : sameSet p dotSet
  ·have HV : Hid (setT p = showS p) := Lib.hid (by unfold setT; rw [if_neg h1, hd]; rfl)
   unfold sameSet at hd
   rw [HV.out]
   clear h1 hcn
   go_enter Tryz.func175, Tryz.ntmps175
   go_wp2_with fail
   refine (count_go p _).mono ?_
   rintro e w1 ⟨rfl, hb1⟩
   have hn := HN.out
   generalize ((cnt p 256 : Nat) : Int) = N at *
   have HB1 := Lib.hid (HB0.out.trans (hb1.mono HB0.out.size))
   have hx1 := HX0.out.below hb1 HX0.out.lt
   have HX1 := Lib.hid hx1
   have s2 := hx1.cell 2
   have s3 := hx1.cell 3
   have s4 := hx1.cell 4
   have s5 := hx1.cell 5
   clear hb1 hx1
   simp at s2 s3 s4 s5
   go_wp2
   go_region_with (go_at_call 187; refine (dot_go _).mono ?_; rintro e w2 ⟨rfl, hb2⟩; obtain ⟨t2, t3, t4, t5⟩ := lexset_below HX1.out.drew hb2; have HB2 := Lib.hid (HB1.out.drew.trans (hb2.mono HB1.out.size)); clear hb2)
   all_goals go_wp2_with (go_at_call 211; refine (show_go p _ (TabAt.below HB2.out hw0 HT.out) (Nat.lt_of_lt_of_le hw0 HB2.out.size)).mono ?_; rintro e w3 ⟨rfl, hb3⟩)
   all_goals go_light
   all_goals go_ret
   all_goals exact ⟨rfl, HB2.out.trans (hb3.mono HB2.out.size)⟩
  ·have HV : Hid (setT p = [46]) := Lib.hid (by unfold setT; rw [if_neg h1, if_pos hd])
   unfold sameSet at hd
   rw [HV.out]
   clear h1 hcn
   go_enter Tryz.func175, Tryz.ntmps175
   go_wp2_with fail
   refine (count_go p _).mono ?_
   rintro e w1 ⟨rfl, hb1⟩
   have hn := HN.out
   generalize ((cnt p 256 : Nat) : Int) = N at *
   have HB1 := Lib.hid (HB0.out.trans (hb1.mono HB0.out.size))
   have hx1 := HX0.out.below hb1 HX0.out.lt
   have HX1 := Lib.hid hx1
   have s2 := hx1.cell 2
   have s3 := hx1.cell 3
   have s4 := hx1.cell 4
   have s5 := hx1.cell 5
   clear hb1 hx1
   simp at s2 s3 s4 s5
   go_wp2
   go_region_with (go_at_call 187; refine (dot_go _).mono ?_; rintro e w2 ⟨rfl, hb2⟩; obtain ⟨t2, t3, t4, t5⟩ := lexset_below HX1.out.drew hb2; have HB2 := Lib.hid (HB1.out.drew.trans (hb2.mono HB1.out.size)); clear hb2)
   all_goals go_wp2
   all_goals go_light
   all_goals go_ret
   all_goals exact ⟨rfl, HB2.out⟩
theorem text_rep (p : Nat → Bool) (pl lo hi : Int) (w : World) (h0 : 0 ≤ lo) (h1 : lo ≤ 1000) (h2 : hi = -1 ∨ lo ≤ hi ∧ hi ≤ 1000) :
  Calls Tryz.prog 175 #[.agg #[.int .i64 8, .int .i64 pl, .int .u64 (word p 0), .int .u64 (word p 1), .int .u64 (word p 2), .int .u64 (word p 3), .int .i64 lo, .int .i64 hi]] w fun e w' => e = .returned (.string (strOf (repT lo hi))) ∧ Below w.heap.size w w' := by
 have H := Lib.hid (fun w => rept_go lo hi w h0 h1 h2)
 clear h0 h1 h2
 go_enter Tryz.func175, Tryz.ntmps175
 go_wp2_with fail
 have HB0 := Lib.hid ((Below.refl w.heap.size w).alloc (Nat.le_refl _) (.cells #[.int .i64 8, .int .i64 pl, .int .u64 (word p 0), .int .u64 (word p 1), .int .u64 (word p 2), .int .u64 (word p 3), .int .i64 lo, .int .i64 hi] 139))
 refine (H.out _).mono ?_
 rintro e w1 ⟨rfl, hb1⟩
 have HB1 := Lib.hid (HB0.out.trans (hb1.mono HB0.out.size))
 clear hb1
 go_wp2
 go_light
 go_ret
 exact ⟨rfl, HB1.out⟩
theorem text_signJ (p : Nat → Bool) (k pl lo hi : Int) (w : World) (h0 : 2 ≤ k) (h1 : k ≤ 7) :
  Calls Tryz.prog 175 #[.agg #[.int .i64 k, .int .i64 pl, .int .u64 (word p 0), .int .u64 (word p 1), .int .u64 (word p 2), .int .u64 (word p 3), .int .i64 lo, .int .i64 hi]] w fun e w' => e = .returned (.string (strOf (textS ⟨k, pl, p, lo, hi⟩))) ∧ Below w.heap.size w w' := by
 by_cases e2 : k = 2
 ·subst e2
  go_enter Tryz.func175, Tryz.ntmps175
  go_wp2
  go_light
  go_ret
  exact ⟨rfl, (Below.refl w.heap.size w).alloc (Nat.le_refl _) _⟩
 by_cases e3 : k = 3
 ·subst e3
  go_enter Tryz.func175, Tryz.ntmps175
  go_wp2
  go_light
  go_ret
  exact ⟨rfl, (Below.refl w.heap.size w).alloc (Nat.le_refl _) _⟩
 by_cases e4 : k = 4
 ·subst e4
  go_enter Tryz.func175, Tryz.ntmps175
  go_wp2
  go_light
  go_ret
  exact ⟨rfl, (Below.refl w.heap.size w).alloc (Nat.le_refl _) _⟩
 by_cases e5 : k = 5
 ·subst e5
  go_enter Tryz.func175, Tryz.ntmps175
  go_wp2
  go_light
  go_ret
  exact ⟨rfl, (Below.refl w.heap.size w).alloc (Nat.le_refl _) _⟩
 by_cases e6 : k = 6
 ·subst e6
  go_enter Tryz.func175, Tryz.ntmps175
  go_wp2
  go_light
  go_ret
  exact ⟨rfl, (Below.refl w.heap.size w).alloc (Nat.le_refl _) _⟩
 by_cases e7 : k = 7
 ·subst e7
  go_enter Tryz.func175, Tryz.ntmps175
  go_wp2
  go_light
  go_ret
  exact ⟨rfl, (Below.refl w.heap.size w).alloc (Nat.le_refl _) _⟩
 exact absurd h0 (by omega)
def lexValJ (x : Lex) : Value := .agg #[.int .i64 x.kind, .int .i64 x.place, .int .u64 (word x.set 0), .int .u64 (word x.set 1), .int .u64 (word x.set 2), .int .u64 (word x.set 3), .int .i64 x.lo, .int .i64 x.hi]
theorem text_go (x : Lex) (w : World) (hr : rightS x = true) (hT : TabAt 1 Lib.deBruijn64tab w) (hw0 : 1 < w.heap.size) :
  Calls Tryz.prog 175 #[lexValJ x] w fun e w' => e = .returned (.string (strOf (textS x))) ∧ Below w.heap.size w w' := by
 obtain ⟨_, h | h | h⟩ := rightS_cases hr
 ·obtain ⟨k, pl, p, lo, hi⟩ := x
  dsimp only at h
  obtain ⟨rfl, _, _⟩ := h
  exact text_setJ p pl lo hi w hT hw0
 ·obtain ⟨k, pl, p, lo, hi⟩ := x
  dsimp only at h
  obtain ⟨rfl, h1, h2, h3, _⟩ := h
  exact text_rep p pl lo hi w h1 h2 h3
 ·obtain ⟨k, pl, p, lo, hi⟩ := x
  dsimp only at h
  exact text_signJ p k pl lo hi w h.1 h.2.1
@[go_sem] theorem run_str1_next (w : World) (o : Obj) (c : Nat) : (convert 30 9 (.slice (some ⟨w.heap.size + 1, 0, none⟩) 1 1)).run Tryz.prog ((w.alloc o).alloc (.cells #[.int .u8 (c : Int)] 5)) =
  .ok (.string (strOf [c])) ((w.alloc o).alloc (.cells #[.int .u8 (c : Int)] 5)) := by
 have h := run_str1 (w.alloc o) c
 rw [World.size_alloc] at h
 exact h
def joinS (L : List Lex) : List Nat := L.flatMap textS
theorem joinS_len : ∀ (L : List Lex), (joinS L).length ≤ L.length * 2400
 | [] => by simp [joinS]
 | x :: L => by
  have h1 := textS_len x
  have h2 := joinS_len L
  unfold joinS at h2 ⊢
  rw [List.flatMap_cons, List.length_append, List.length_cons]
  omega
theorem joinS_take {L : List Lex} {k : Nat} {x : Lex} (h : L[k]? = some x) : joinS (L.take (k + 1)) = joinS (L.take k) ++ textS x := by
 unfold joinS
 rw [List.take_add_one, h]
 simp
def joinV (L : List Lex) : Value := if L.all rightS = true then .tuple #[.string (strOf (joinS L)), .int .i64 0] else .tuple #[.string ⟨#[]⟩, .int .i64 6]
theorem joinV_bad {L : List Lex} {k : Nat} {x : Lex} (h : L[k]? = some x) (hx : rightS x = false) : joinV L = .tuple #[.string ⟨#[]⟩, .int .i64 6] := by
 refine if_neg fun ha => ?_
 have := List.all_eq_true.1 ha x (List.mem_of_getElem? h)
 rw [hx] at this
 cases this
theorem joinV_ok {L : List Lex} (h : ∀ (k : Nat) x, L[k]? = some x → rightS x = true) : joinV L = .tuple #[.string (strOf (joinS L)), .int .i64 0] := by
 refine if_pos (List.all_eq_true.2 fun x hx => ?_)
 obtain ⟨k, hk, rfl⟩ := List.mem_iff_getElem.1 hx
 exact h k _ (List.getElem?_eq_getElem hk)
theorem showS_bytes' (p : Nat → Bool) : ∀ x ∈ showS p, x < 256 := by
 have hp : ∀ l : List (Nat × Nat), (∀ x ∈ l, x.1 ≤ x.2 ∧ x.2 < 256) → ∀ y ∈ piecesS l, y < 256 := by
  intro l
  induction l with
  | nil => intro _ y hy; simp [piecesS] at hy
  | cons x l ih =>
   intro hl y hy
   have hx := hl x (by simp)
   rw [piecesS_cons] at hy
   rcases List.mem_append.1 hy with hy | hy
   ·unfold pieceS at hy
    rcases List.mem_append.1 hy with hy | hy
    ·exact (chr_head x.1 (by omega)).2.2.2.2 y hy
    ·rcases List.mem_append.1 hy with hy | hy
     ·split at hy
      ·simp at hy; omega
      ·simp at hy
     ·split at hy
      ·exact (chr_head x.2 hx.2).2.2.2.2 y hy
      ·simp at hy
   ·exact ih (fun z hz => hl z (by simp [hz])) y hy
 intro x hx
 unfold showS at hx
 split at hx
 ·simp only [List.mem_append, List.mem_cons, List.not_mem_nil, or_false] at hx
  rcases hx with (h | h) | h | h
  ·omega
  ·omega
  ·exact hp _ (cutsOf_in _) x h
  ·omega
 ·simp only [List.mem_append, List.mem_cons, List.not_mem_nil, or_false] at hx
  rcases hx with h | h | h
  ·omega
  ·exact hp _ (cutsOf_in _) x h
  ·omega
theorem setT_bytes (p : Nat → Bool) : ∀ x ∈ setT p, x < 256 := by
 unfold setT
 split
 ·rename_i h
  obtain ⟨c, hc⟩ := List.length_eq_one_iff.1 h
  rw [hc]
  exact litS_bytes c (elems_lt (m := 256) (p := p) (by rw [hc]; simp))
 ·split
  ·simp
  ·exact showS_bytes' p
theorem repT_bytes {lo hi : Int} (h1 : lo ≤ 1000) (h2 : hi ≤ 1000) : ∀ x ∈ repT lo hi, x < 256 := by
 intro x hx
 unfold repT at hx
 have d1 := decS_bytes lo.toNat (by omega)
 have d2 := decS_bytes hi.toNat (by omega)
 simp only [List.mem_append, List.mem_cons, List.not_mem_nil, or_false] at hx
 rcases hx with h | h | h | h
 ·omega
 ·have := d1 x h; omega
 ·split at h
  ·simp at h; omega
  ·split at h
   ·rcases List.mem_cons.1 h with h | h
    ·omega
    ·have := d2 x h; omega
   ·cases h
 ·omega
theorem textS_bytes {x : Lex} (h : rightS x = true) : ∀ y ∈ textS x, y < 256 := by
 obtain ⟨_, h | h | h⟩ := rightS_cases h
 ·unfold textS
  rw [if_pos h.1]
  exact setT_bytes _
 ·unfold textS
  rw [if_neg (by omega), if_pos h.1]
  exact repT_bytes (by omega) (by omega)
 ·unfold textS
  rw [if_neg (by omega), if_neg (by omega)]
  repeat' split
  all_goals simp
theorem joinS_bytes {L : List Lex} (h : ∀ (k : Nat) x, L[k]? = some x → rightS x = true) : ∀ y ∈ joinS L, y < 256 := by
 intro y hy
 obtain ⟨x, hx, hy⟩ := List.mem_flatMap.1 hy
 obtain ⟨k, hk, rfl⟩ := List.mem_iff_getElem.1 hx
 exact textS_bytes (h k _ (List.getElem?_eq_getElem hk)) y hy
theorem strCells_of (t : List Nat) (h : ∀ x ∈ t, x < 256) : Lib.strCells (strOf t) = t.map (fun c : Nat => Value.int .u8 (c : Int)) := by
 unfold Lib.strCells strOf
 simp only [List.map_map]
 apply List.map_congr_left
 intro x hx
 have := h x hx
 simp
 omega
theorem own_text {w : World} {base : Nat} {v : Value} {ns : List Nat} (h : w.ownsRow base 5 1 v ns.length (ns.map (fun n : Nat => Value.int .u8 (n : Int)))) :
  (convert 30 9 v).run Tryz.prog w = .ok (.string (strOf ns)) w := by
 rcases h.2 with ⟨rfl, h0⟩ | ⟨g, cap, cur, hv, hb, hh, _⟩
 ·have : ns = [] := List.length_eq_zero_iff.1 h0
  subst this
  rw [run_convert_bytes_string w _ _ 5 none _ _ Tryz.underlying30 Tryz.underlying5 Tryz.underlying9]
  rfl
 ·subst hv
  exact run_str w ⟨g, 0, none⟩ cap ns (h.cells (g := g) rfl)
end Go.Proofs.YtfekpkelmliejaaGreatDoor
namespace Go.Proofs.YtfekpkelmliejaaGreatDoor
set_option linter.unusedSimpArgs false
set_option linter.unusedVariables false
set_option maxRecDepth 100000
set_option maxHeartbeats 8000000
def likeW (x y : Lex) : Prop := x.kind = y.kind ∧ (∀ i, i < 4 → word x.set i = word y.set i) ∧ x.lo = y.lo ∧ x.hi = y.hi
theorem word_as {p q : Nat → Bool} (h : ∀ c, c < 256 → p c = q c) (i : Nat) (hi : i < 4) : word p i = word q i := word_congr (fun j hj => h (64 * i + j) (by omega))
theorem lit_back : ∀ c : Fin 256, (byteAt (litS c.val) 0 = 92 ∧ escS (litS c.val) 0 = some (c.val, (litS c.val).length)) ∨
  (litS c.val = [c.val] ∧ c.val ≠ 46 ∧ c.val ≠ 92 ∧ c.val ≠ 91 ∧ c.val ≠ 123 ∧ ¬ (c.val = 93 ∨ c.val = 125 ∨ c.val = 10) ∧ signKind c.val = 0) := by decide +kernel
theorem lex_lit (c : Nat) (hc : c < 256) : lexS (litS c) 0 = .ok (⟨1, 0, among [c] 1, 0, 0⟩, (litS c).length) := by
 rcases lit_back ⟨c, hc⟩ with ⟨h1, h2⟩ | ⟨h1, h2, h3, h4, h5, h6, h7⟩
 ·dsimp only at h1 h2
  unfold lexS
  rw [h1, if_neg (by decide), if_pos rfl, h2]
  rfl
 ·dsimp only at h1 h2 h3 h4 h5 h6 h7
  rw [h1]
  have e : byteAt [c] 0 = c := rfl
  unfold lexS
  rw [e, if_neg h2, if_neg h3, if_neg h4, if_neg h5, if_neg h6, if_neg (by rw [h7]; simp)]
  rfl
theorem elems_mem {p : Nat → Bool} {k : Nat} (hk : k < 256) : k ∈ elems p 256 ↔ p k = true := by
 unfold elems
 simp [hk]
theorem set_back (p : Nat → Bool) : ∃ y, lexS (setT p) 0 = .ok (y, (setT p).length) ∧ y.kind = 1 ∧ (∀ i, i < 4 → word y.set i = word p i) ∧ y.lo = 0 ∧ y.hi = 0 := by
 by_cases h1 : (elems p 256).length = 1
 ·obtain ⟨c, hc⟩ := List.length_eq_one_iff.1 h1
  have hc256 : c < 256 := elems_lt (m := 256) (p := p) (by rw [hc]; simp)
  have e : setT p = litS c := by unfold setT; rw [if_pos h1, hc]; rfl
  rw [e]
  refine ⟨_, lex_lit c hc256, rfl, word_as (fun k hk => ?_), rfl, rfl⟩
  have h2 := elems_mem (p := p) hk
  rw [hc] at h2
  show among [c] 1 k = p k
  rw [among_one]
  simp at h2
  cases hp : p k
  ·rw [hp] at h2; simp at h2; simpa using h2
  ·rw [hp] at h2; simp at h2; simpa using h2
 cases hd : sameSet p dotSet
 ·have e : setT p = showS p := by unfold setT; rw [if_neg h1, hd]; rfl
  rw [e]
  obtain ⟨p', h2, h3⟩ := read_show p []
  rw [List.append_nil] at h2
  have h0 : byteAt (showS p) 0 = 91 := by unfold showS; split <;> rfl
  refine ⟨⟨1, 0, p', 0, 0⟩, ?_, rfl, word_as h3, rfl, rfl⟩
  unfold lexS
  rw [h0, if_neg (by decide), if_neg (by decide), if_pos rfl]
  rw [show ((0 : Nat) : Int) = 0 from rfl, h2]
 ·have e : setT p = [46] := by unfold setT; rw [if_neg h1, if_pos hd]
  rw [e]
  refine ⟨⟨1, 0, dotSet, 0, 0⟩, rfl, rfl, ?_, rfl, rfl⟩
  unfold sameSet at hd
  simp only [Bool.and_eq_true, beq_iff_eq] at hd
  intro i hi
  show word dotSet i = word p i
  match i, hi with
  | 0, _ => exact Int.ofNat.inj (hd.1.1.1.symm)
  | 1, _ => exact Int.ofNat.inj (hd.1.1.2.symm)
  | 2, _ => exact Int.ofNat.inj (hd.1.2.symm)
  | 3, _ => exact Int.ofNat.inj (hd.2.symm)
theorem dec_back : ∀ n : Fin 1001, badForm (decS n.val) = false ∧ decVal (decS n.val) = n.val := by decide +kernel
theorem take_dec {bs : List Nat} (pre post : List Nat) (n c i : Nat) (hb : bs = pre ++ (decS n ++ c :: post)) (hi : i = pre.length) (hn : n ≤ 1000) (hc : isDig c = false) : takeS bs i = some (n, i + (decS n).length) := by
 subst hb hi
 have hd : digs (pre ++ (decS n ++ c :: post)) pre.length = decS n := by
  unfold digs
  rw [List.drop_left]
  exact takeWhile_eq _ _ _ (fun x hx => (isDig_iff x).2 (decS_bytes n (by omega) x hx)) hc
 have h := dec_back ⟨n, by omega⟩
 dsimp only at h
 obtain ⟨h1, h2⟩ := h
 have := takeS_ok (bs := pre ++ (decS n ++ c :: post)) (i := pre.length) (by rw [hd]; exact h1) (by rw [hd, h2]; exact hn)
 rw [hd, h2] at this
 exact this
theorem has_here {bs : List Nat} (pre post : List Nat) (c d j : Nat) (hb : bs = pre ++ c :: post) (hj : j = pre.length) : hasAt bs (j : Int) d = (c == d) := by
 subst hb hj
 rw [hasAt_add]
 simp [byteAt_cons]
theorem has_next {bs : List Nat} (pre post : List Nat) (c d j : Nat) (hb : bs = pre ++ c :: post) (hj : j + 1 = pre.length) : hasAt bs ((j : Int) + 1) d = (c == d) := by
 rw [show (j : Int) + 1 = ((j + 1 : Nat) : Int) by omega]
 exact has_here pre post c d (j + 1) hb hj
theorem repS_open {bs : List Nat} {i lo j : Nat} (ht : takeS bs (i + 1) = some (lo, j)) (h1 : hasAt bs (j : Int) 44 = true) (h2 : hasAt bs ((j : Int) + 1) 125 = true) : repS bs i = .ok (⟨8, i, noSet, lo, -1⟩, j + 2) := by
 unfold repS
 rw [ht]
 dsimp only
 rw [if_pos h1, if_pos h2]
theorem repS_one {bs : List Nat} {i lo j : Nat} (ht : takeS bs (i + 1) = some (lo, j)) (h1 : hasAt bs (j : Int) 44 = false) (h2 : hasAt bs (j : Int) 125 = true) : repS bs i = .ok (⟨8, i, noSet, lo, lo⟩, j + 1) := by
 unfold repS
 rw [ht]
 dsimp only
 rw [if_neg (by rw [h1]; decide), if_pos h2]
theorem repS_two {bs : List Nat} {i lo j hi k : Nat} (ht : takeS bs (i + 1) = some (lo, j)) (h1 : hasAt bs (j : Int) 44 = true) (h2 : hasAt bs ((j : Int) + 1) 125 = false) (ht2 : takeS bs (j + 1) = some (hi, k)) (h3 : hasAt bs (k : Int) 125 = true) (hlt : ¬ hi < lo) :
  repS bs i = .ok (⟨8, i, noSet, lo, hi⟩, k + 1) := by
 unfold repS
 rw [ht]
 dsimp only
 rw [if_pos h1, if_neg (by rw [h2]; decide), ht2]
 dsimp only
 rw [if_pos h3, if_neg hlt]
theorem lexS_repB {bs : List Nat} {i : Nat} (h : byteAt bs i = 123) : lexS bs i = repS bs i := by
 unfold lexS
 rw [h, if_neg (by decide), if_neg (by decide), if_neg (by decide), if_pos rfl]
theorem decS_cons (n : Nat) : ∃ c tl, decS n = c :: tl := by
 cases hx : decS n with
 | nil => unfold decS at hx; split at hx <;> (try split at hx) <;> (try split at hx) <;> cases hx
 | cons c tl => exact ⟨c, tl, rfl⟩
theorem lex_rep (lo hi : Nat) (h : Int) (hlo : lo ≤ 1000) (hh : h = -1 ∨ h = (hi : Int) ∧ lo ≤ hi ∧ hi ≤ 1000) : lexS (repT lo h) 0 = .ok (⟨8, 0, noSet, lo, h⟩, (repT lo h).length) := by
 rcases hh with rfl | ⟨rfl, h1, h2⟩
 ·have e : repT lo (-1) = [123] ++ (decS lo ++ 44 :: [125]) := by rw [repT_open _ _ (by decide)]; rfl
  rw [e, lexS_repB rfl, repS_open (take_dec [123] [125] lo 44 (0 + 1) rfl rfl hlo (by decide)) ((has_here ([123] ++ decS lo) [125] 44 44 _ (by simp) (by simp; omega)).trans (by decide)) ((has_next ([123] ++ decS lo ++ [44]) [] 125 125 _ (by simp) (by simp; omega)).trans (by decide))]
  simp
  omega
 ·by_cases hlt : lo < hi
  ·have e : repT lo (hi : Int) = [123] ++ (decS lo ++ 44 :: (decS hi ++ 125 :: [])) := by rw [repT_two _ _ (by omega) (by omega)]; simp
   obtain ⟨c, tl, hct⟩ := decS_cons hi
   have hcd := decS_bytes hi (by omega) c (by rw [hct]; simp)
   rw [e, lexS_repB rfl, repS_two (take_dec [123] (decS hi ++ 125 :: []) lo 44 (0 + 1) rfl rfl hlo (by decide)) ((has_here ([123] ++ decS lo) (decS hi ++ 125 :: []) 44 44 _ (by simp) (by simp; omega)).trans (by decide))
    ((has_next ([123] ++ decS lo ++ [44]) (tl ++ 125 :: []) c 125 _ (by rw [hct]; simp) (by simp; omega)).trans (by simp; omega))
    (take_dec ([123] ++ decS lo ++ [44]) [] hi 125 _ (by simp) (by simp; omega) h2 (by decide))
    ((has_here ([123] ++ decS lo ++ [44] ++ decS hi) [] 125 125 _ (by simp) (by simp; omega)).trans (by decide)) (by omega)]
   simp
   omega
  ·obtain rfl : lo = hi := by omega
   have e : repT lo (lo : Int) = [123] ++ (decS lo ++ 125 :: []) := by rw [repT_one _ _ (by omega) (by omega)]; rfl
   rw [e, lexS_repB rfl, repS_one (take_dec [123] [] lo 125 (0 + 1) rfl rfl hlo (by decide)) ((has_here ([123] ++ decS lo) [] 125 44 _ (by simp) (by simp; omega)).trans (by decide)) ((has_here ([123] ++ decS lo) [] 125 125 _ (by simp) (by simp; omega)).trans (by decide))]
   simp
   omega
theorem text_back (x : Lex) (h : rightS x = true) : ∃ y, lexS (textS x) 0 = .ok (y, (textS x).length) ∧ likeW y x := by
 obtain ⟨_, h | h | h⟩ := rightS_cases h
 ·have e : textS x = setT x.set := if_pos h.1
  obtain ⟨y, h1, h2, h3, h4, h5⟩ := set_back x.set
  rw [e]
  exact ⟨y, h1, h2.trans h.1.symm, h3, h4.trans h.2.1.symm, h5.trans h.2.2.symm⟩
 ·have e : textS x = repT x.lo x.hi := by unfold textS; rw [if_neg (by omega), if_pos h.1]
  rw [e]
  obtain ⟨n, hn⟩ := Int.eq_ofNat_of_zero_le h.2.1
  have := lex_rep n x.hi.toNat x.hi (by omega) (by omega)
  rw [hn]
  exact ⟨_, this, h.1.symm, fun i hi => by rw [h.2.2.2.2 i hi]; exact word_empty i hi, hn.symm, rfl⟩
 ·obtain ⟨h1, h2, h3, h4, h5⟩ := h
  have hk : x.kind = 2 ∨ x.kind = 3 ∨ x.kind = 4 ∨ x.kind = 5 ∨ x.kind = 6 ∨ x.kind = 7 := by omega
  have hw : ∀ i, i < 4 → word noSet i = word x.set i := fun i hi => by rw [h5 i hi]; exact word_empty i hi
  unfold textS
  rcases hk with hk | hk | hk | hk | hk | hk
  all_goals
   rw [hk]
   exact ⟨_, rfl, hk.symm, hw, h3.symm, h4.symm⟩
theorem part_in (pre t post : List Nat) : Part (pre ++ (t ++ post)) t 0 pre.length 0 t.length := fun m _ hm => by
 refine ⟨by simp; omega, by omega, ?_⟩
 rw [Nat.add_comm m, byteAt_add, Nat.add_zero]
 unfold byteAt
 rw [List.getD_eq_getElem?_getD, List.getElem?_append_left hm, List.getD_eq_getElem?_getD]
theorem likeW_move {x y : Lex} (h : likeW x y) (p q : Nat) : likeW (x.move p q) y := ⟨h.1, h.2.1, h.2.2.1, h.2.2.2⟩
theorem join_back : ∀ (L : List Lex) (pre : List Nat), (∀ x ∈ L, rightS x = true) → ∃ M : List Lex, Seg (pre ++ joinS L) pre.length M (pre.length + (joinS L).length) ∧ M.length = L.length ∧ ∀ (k : Nat) y x, M[k]? = some y → L[k]? = some x → likeW y x
 | [], pre, _ => ⟨[], by show pre.length = pre.length + 0; omega, rfl, fun k y x h _ => by simp at h⟩
 | x :: L, pre, h => by
  have hx := h x (by simp)
  obtain ⟨y, h1, h2⟩ := text_back x hx
  have hb := textS_bytes hx
  have hpos : 0 < (textS x).length := by
   rcases Nat.eq_zero_or_pos (textS x).length with h0 | h0
   ·have e : textS x = [] := List.length_eq_zero_iff.1 h0
    rw [e] at h1
    cases h1
   ·exact h0
  obtain ⟨M, m1, m2, m3⟩ := join_back L (pre ++ textS x) (fun z hz => h z (by simp [hz]))
  have e : joinS (x :: L) = textS x ++ joinS L := by simp [joinS]
  have hl := lexS_move (cs := pre ++ (textS x ++ joinS L)) (bs := textS x) hb (p := 0) (q := pre.length) (i := 0) (j := (textS x).length) (by omega) h1 (part_in pre (textS x) (joinS L))
  rw [Nat.zero_add] at hl
  rw [List.append_assoc, List.length_append] at m1
  rw [e]
  refine ⟨y.move 0 pre.length :: M, ⟨by simp; omega, (textS x).length + pre.length, hl, ?_⟩, by simp [m2], ?_⟩
  ·rw [List.length_append, show (textS x).length + pre.length = pre.length + (textS x).length by omega, ← Nat.add_assoc]
   exact m1
  ·intro k z u hz hu
   match k, hz, hu with
   | 0, hz, hu =>
    simp at hz hu
    rw [← hz, ← hu]
    exact likeW_move h2 _ _
   | k + 1, hz, hu => exact m3 k z u (by simpa using hz) (by simpa using hu)
theorem splitS_back {L : List Lex} (h : ∀ x ∈ L, rightS x = true) (hb : ∀ y ∈ joinS L, y < 256) (hl : (joinS L).length ≤ 65536) :
  ∃ M : List Lex, splitS (joinS L) = .ok M ∧ M.length = L.length ∧ ∀ (k : Nat) y x, M[k]? = some y → L[k]? = some x → likeW y x := by
 obtain ⟨M, h1, h2, h3⟩ := join_back L [] h
 refine ⟨M, (splitS_seg hb).2 ⟨hl, ?_⟩, h2, h3⟩
 have e : ([] : List Nat).length + (joinS L).length = (joinS L).length := Nat.zero_add _
 rw [e] at h1
 exact h1
end Go.Proofs.YtfekpkelmliejaaGreatDoor
namespace Go.Proofs.YtfekpkelmliejaaGreatDoor
open Go.RowKit
set_option linter.unusedSimpArgs false
set_option linter.unusedVariables false
set_option maxRecDepth 100000
set_option maxHeartbeats 8000000
def lexK (k : Int) : Lex := ⟨k, 0, noSet, 0, 0⟩
def brS (p k : Int) : Bool := decide (k = 5) || (decide (p ≠ 5) && (decide (k = 4) || decide (k = 2)))
def kidS (p : Int) (q : Int × List Lex) : List Lex := if brS p q.1 = true then lexK 2 :: (q.2 ++ [lexK 3]) else q.2
def barsS (l : List (List Lex)) : List Lex := (l.flatMap fun x => lexK 4 :: x).drop 1
theorem barsS_snoc (l : List (List Lex)) (x : List Lex) : barsS (l ++ [x]) = if l.length = 0 then x else barsS l ++ lexK 4 :: x := by
 unfold barsS
 cases l with
 | nil => simp
 | cons y l => simp
def writeK (k : Int) (s : Nat) (lo hi : Int) (ks : List (Int × List Lex)) : List Lex :=
 if k = 1 ∨ k = 3 then [⟨1, 0, s.testBit, 0, 0⟩]
 else if k = 4 then (ks.map (kidS 4)).flatten
 else if k = 5 then barsS (ks.map (kidS 5))
 else if 6 ≤ k ∧ k ≤ 8 then kidS k (ks.headD (0, [])) ++ [lexK (k - 1)]
 else if k = 9 then kidS k (ks.headD (0, [])) ++ [⟨8, 0, noSet, lo, hi⟩]
 else []
def Trees.writes : Trees → List (Int × List Lex)
 | .nil => []
 | .cons k s ks lo hi r => (k, writeK k s lo hi ks.writes) :: r.writes
def Nd.write (x : Nd) : List Lex := writeK x.kind x.set x.lo x.hi x.kids.writes
theorem Trees.writes_list : ∀ F : Trees, F.writes = F.list.map (fun z => (z.kind, z.write))
 | .nil => rfl
 | .cons k s ks lo hi r => by rw [Trees.writes, Trees.list, List.map_cons, Trees.writes_list r]; rfl
theorem Trees.writes_len (F : Trees) : F.writes.length = F.len := by rw [F.writes_list, List.length_map, F.len_list]
theorem Trees.writes_get {F : Trees} {i : Nat} {z : Nd} (h : F.list[i]? = some z) : F.writes[i]? = some (z.kind, z.write) := by
 rw [F.writes_list, List.getElem?_map, h]; rfl
theorem Trees.writes_head {F : Trees} {z : Nd} (h : F.list[0]? = some z) : F.writes.headD (0, []) = (z.kind, z.write) := by
 have := Trees.writes_get h
 cases hw : F.writes with
 | nil => rw [hw] at this; simp at this
 | cons a l => rw [hw] at this; simpa using this
theorem Nd.write_leaf {x : Nd} (h : x.kind = 1 ∨ x.kind = 3) : x.write = [⟨1, 0, x.set.testBit, 0, 0⟩] := by unfold Nd.write writeK; rw [if_pos h]
theorem Nd.write_cat {x : Nd} (h : x.kind = 4) : x.write = (x.kids.writes.map (kidS 4)).flatten := by unfold Nd.write writeK; rw [if_neg (by omega), if_pos h]
theorem Nd.write_alt {x : Nd} (h : x.kind = 5) : x.write = barsS (x.kids.writes.map (kidS 5)) := by unfold Nd.write writeK; rw [if_neg (by omega), if_neg (by omega), if_pos h]
theorem Nd.write_post {x : Nd} (h : 6 ≤ x.kind ∧ x.kind ≤ 8) : x.write = kidS x.kind (x.kids.writes.headD (0, [])) ++ [lexK (x.kind - 1)] := by unfold Nd.write writeK; rw [if_neg (by omega), if_neg (by omega), if_neg (by omega), if_pos h]
theorem Nd.write_rep {x : Nd} (h : x.kind = 9) : x.write = kidS 9 (x.kids.writes.headD (0, [])) ++ [⟨8, 0, noSet, x.lo, x.hi⟩] := by unfold Nd.write writeK; rw [if_neg (by omega), if_neg (by omega), if_neg (by omega), if_neg (by omega), if_pos h, h]
theorem Nd.write_empty {x : Nd} (h : x.kind = 2) : x.write = [] := by unfold Nd.write writeK; rw [if_neg (by omega), if_neg (by omega), if_neg (by omega), if_neg (by omega), if_neg (by omega)]
theorem kidS_len (p : Int) (q : Int × List Lex) : (kidS p q).length ≤ q.2.length + 2 := by
 unfold kidS
 split
 ·simp
 ·omega
def costW (l : List (Int × List Lex)) : Nat := (l.map fun q => q.2.length + 3).sum
theorem costW_flat (p : Int) : ∀ l : List (Int × List Lex), ((l.map (kidS p)).flatten).length ≤ costW l
 | [] => by simp
 | q :: l => by
  have h1 := costW_flat p l
  have h2 := kidS_len p q
  unfold costW at *
  simp only [List.map_cons, List.flatten_cons, List.length_append, List.sum_cons]
  omega
theorem costW_bars (p : Int) : ∀ l : List (Int × List Lex), ((l.map (kidS p)).flatMap fun x => lexK 4 :: x).length ≤ costW l
 | [] => by simp
 | q :: l => by
  have h1 := costW_bars p l
  have h2 := kidS_len p q
  unfold costW at *
  simp only [List.map_cons, List.flatMap_cons, List.length_append, List.sum_cons, List.length_cons]
  omega
theorem costW_head (p : Int) (l : List (Int × List Lex)) : (kidS p (l.headD (0, []))).length ≤ costW l + 2 := by
 cases l with
 | nil => exact Nat.le_trans (kidS_len _ _) (by simp [costW])
 | cons q l =>
  have := kidS_len p q
  unfold costW
  simp only [List.headD_cons, List.map_cons, List.sum_cons]
  omega
theorem writeK_len (k : Int) (s : Nat) (lo hi : Int) (ks : List (Int × List Lex)) : (writeK k s lo hi ks).length ≤ costW ks + 3 := by
 unfold writeK
 have h1 := costW_flat 4 ks
 have h2 := costW_bars 5 ks
 have h3 := costW_head k ks
 unfold barsS
 repeat' split
 all_goals (try simp only [List.length_append, List.length_cons, List.length_nil, List.length_drop])
 all_goals omega
theorem Trees.cost_le : ∀ F : Trees, costW F.writes ≤ 6 * F.size
 | .nil => by simp [Trees.writes, costW]
 | .cons k s ks lo hi r => by
  have h1 := Trees.cost_le ks
  have h2 := Trees.cost_le r
  have h3 := writeK_len k s lo hi ks.writes
  have e : costW (Trees.cons k s ks lo hi r).writes = (writeK k s lo hi ks.writes).length + 3 + costW r.writes := by simp [costW, Trees.writes]
  rw [e, Trees.size]
  omega
theorem Nd.write_len (x : Nd) : x.write.length ≤ 6 * x.size := by
 have h1 := writeK_len x.kind x.set x.lo x.hi x.kids.writes
 have h2 := x.kids.cost_le
 unfold Nd.write Nd.size
 omega
theorem lexK_right {k : Int} (h : 2 ≤ k ∧ k ≤ 7) : rightS (lexK k) = true := by
 have e0 := word_empty 0 (by decide)
 have e1 := word_empty 1 (by decide)
 have e2 := word_empty 2 (by decide)
 have e3 := word_empty 3 (by decide)
 have h1 : ¬ k = 8 := by omega
 have h2 : ¬ k = 1 := by omega
 unfold rightS rightV lexK
 simp [e0, e1, e2, e3, h1, h2]
 omega
theorem kidS_right {p : Int} {q : Int × List Lex} (h : ∀ y ∈ q.2, rightS y = true) : ∀ y ∈ kidS p q, rightS y = true := by
 intro y hy
 unfold kidS at hy
 split at hy
 ·rcases List.mem_cons.1 hy with rfl | hy
  ·exact lexK_right (by decide)
  ·rcases List.mem_append.1 hy with hy | hy
   ·exact h y hy
   ·rw [List.mem_singleton.1 hy]; exact lexK_right (by decide)
 ·exact h y hy
theorem writeK_right {k : Int} {s : Nat} {lo hi : Int} {ks : List (Int × List Lex)} (h9 : k = 9 → 0 ≤ lo ∧ lo ≤ 1000 ∧ (hi = -1 ∨ lo ≤ hi) ∧ hi ≤ 1000) (h : ∀ q ∈ ks, ∀ y ∈ q.2, rightS y = true) : ∀ y ∈ writeK k s lo hi ks, rightS y = true := by
 have hh : ∀ y ∈ kidS k (ks.headD (0, [])), rightS y = true := by
  refine kidS_right ?_
  cases ks with
  | nil => intro y hy; simp at hy
  | cons q l => exact h q (by simp)
 intro y hy
 unfold writeK at hy
 split at hy
 ·rw [List.mem_singleton.1 hy]; exact right_set 0 _
 split at hy
 ·obtain ⟨l, hl, hy⟩ := List.mem_flatten.1 hy
  obtain ⟨q, hq, rfl⟩ := List.mem_map.1 hl
  exact kidS_right (h q hq) y hy
 split at hy
 ·obtain ⟨l, hl, hy⟩ := List.mem_flatMap.1 (List.mem_of_mem_drop hy)
  obtain ⟨q, hq, rfl⟩ := List.mem_map.1 hl
  rcases List.mem_cons.1 hy with rfl | hy
  ·exact lexK_right (by decide)
  ·exact kidS_right (h q hq) y hy
 split at hy
 ·rcases List.mem_append.1 hy with hy | hy
  ·exact hh y hy
  ·rw [List.mem_singleton.1 hy]; exact lexK_right (by omega)
 split at hy
 ·rename_i hk9
  rcases List.mem_append.1 hy with hy | hy
  ·exact hh y hy
  ·rw [List.mem_singleton.1 hy]
   have := h9 hk9
   have e := right_rep_of 0 lo.toNat hi (by omega) (by omega)
   rw [Int.toNat_of_nonneg this.1] at e
   exact e
 ·cases hy
theorem alone_nine {y : Nd} (h : aloneN y = true) : y.kind = 9 → 0 ≤ y.lo ∧ y.lo ≤ 1000 ∧ (y.hi = -1 ∨ y.lo ≤ y.hi) ∧ y.hi ≤ 1000 := fun h9 => by
 have h1 := numsOk_of h h9
 have h2 := (aloneN_kids h).2.1 h9
 omega
theorem writes_right : ∀ (F : Trees), Okays F → ∀ q ∈ F.writes, ∀ y ∈ q.2, rightS y = true
 | .nil, _, q, hq => by cases hq
 | .cons k s ks lo hi r, ho, q, hq => by
  rw [Trees.writes] at hq
  rcases List.mem_cons.1 hq with rfl | hq
  ·exact writeK_right (alone_nine (y := ⟨k, s, ks, lo, hi⟩) (ho _ (by simp [Trees.nodes]))) (writes_right ks (fun y hy => ho y (by simp [Trees.nodes, hy])))
  ·exact writes_right r (fun y hy => ho y (by simp [Trees.nodes, hy])) q hq
theorem okays_kids {x : Nd} (h : rightT x = true) : aloneN x = true ∧ Okays x.kids := by
 unfold rightT at h
 rw [Bool.and_eq_true] at h
 have := List.all_eq_true.1 h.2
 exact ⟨this x (by simp [Nd.nodes]), fun y hy => this y (by simp [Nd.nodes, hy])⟩
theorem write_right {x : Nd} (h : rightT x = true) : x.write.all rightS = true := by
 obtain ⟨h1, h2⟩ := okays_kids h
 exact List.all_eq_true.2 (writeK_right (alone_nine h1) (writes_right _ h2))
def lexsS (x : Nd) : Except Int (List Lex) := if rightT x = false then .error 6 else match lexemesS x.write with
 | .error _ => .error 4
 | .ok _ => .ok x.write
def showT (x : Nd) : Except Int (List Nat) := match lexsS x with
 | .error e => .error e
 | .ok L => if 65536 < (joinS L).length then .error 4 else .ok (joinS L)
theorem mask_zero {s : Nat} (h : ∀ i, i < 4 → word s.testBit i = 0) : maskOf s.testBit = 0 := by
 refine Nat.eq_of_testBit_eq fun j => ?_
 unfold maskOf
 rw [testBit_ofBits, Nat.zero_testBit]
 by_cases hj : j < 256
 ·have h1 := testBit_word s.testBit (j / 64) (j % 64)
  rw [h _ (by omega), Nat.zero_testBit, show 64 * (j / 64) + j % 64 = j by omega] at h1
  have h2 : decide (j % 64 < 64) = true := by simp; omega
  rw [h2, Bool.true_and] at h1
  rw [← h1, Bool.and_false]
 ·simp [hj]
theorem alone_zero {y : Nd} (h : aloneN y = true) (h3 : y.kind ≠ 3) : maskOf y.set.testBit = 0 := by
 unfold aloneN aloneV at h
 rw [if_neg h3] at h
 split at h
 ·cases h
 ·rename_i hz
  refine mask_zero fun i hi => ?_
  match i, hi with
  | 0, _ => omega
  | 1, _ => omega
  | 2, _ => omega
  | 3, _ => omega
theorem alone_more {y : Nd} (h : aloneN y = true) : (y.kind ≠ 9 → y.lo = 0 ∧ y.hi = 0) ∧ (y.kind = 4 ∨ y.kind = 5 → 2 ≤ y.kids.len) := by
 unfold aloneN aloneV at h
 by_cases h3 : y.kind = 3
 ·rw [if_pos h3] at h
  simp at h
  omega
 rw [if_neg h3] at h
 split at h
 ·cases h
 by_cases h9 : y.kind = 9
 ·omega
 ·rw [if_neg h9] at h
  simp only [Bool.and_eq_true, decide_eq_true_eq] at h
  refine ⟨fun _ => ⟨h.1, h.2.1⟩, fun hk => ?_⟩
  have e : arityS y.kind = 2 := by unfold arityS; rw [if_neg (by omega), if_pos hk]
  rw [e] at h
  simpa using h.2.2
def saidK (k : Int) (s : Nat) (lo hi : Int) (l : List Nd) : Nd := if k = 1 then leafN 0 else ⟨k, maskOf s.testBit, Trees.of l, lo, hi⟩
def Trees.said : Trees → List Nd
 | .nil => []
 | .cons k s ks lo hi r => saidK k s lo hi ks.said :: r.said
def Nd.said (x : Nd) : Nd := saidK x.kind x.set x.lo x.hi x.kids.said
theorem Trees.said_list : ∀ F : Trees, F.said = F.list.map Nd.said
 | .nil => rfl
 | .cons k s ks lo hi r => by rw [Trees.said, Trees.list, List.map_cons, Trees.said_list r]; rfl
def HeadOk (l : List Lex) : Prop := ∃ y L, l = y :: L ∧ isPost y.kind = false
def StopL (R : List Lex) : Prop := R = [] ∨ ∃ c R', R = c :: R' ∧ (c.kind = 3 ∨ c.kind = 4)
def EndL (R : List Lex) : Prop := R = [] ∨ ∃ c R', R = c :: R' ∧ c.kind = 3
theorem EndL.stop {R : List Lex} (h : EndL R) : StopL R := by
 rcases h with h | ⟨c, R', h, hc⟩
 ·exact .inl h
 ·exact .inr ⟨c, R', h, .inl hc⟩
theorem postsG_endR {z : Nd} {R : List Lex} (h : R = [] ∨ ∃ y L, R = y :: L ∧ isPost y.kind = false) : postsG z R = (z, R) := by
 rcases h with rfl | ⟨y, L, rfl, hy⟩
 ·rfl
 ·unfold postsG
  rw [if_neg (by rw [hy]; decide)]
theorem StopL.noPost {R : List Lex} (h : StopL R) : R = [] ∨ ∃ y L, R = y :: L ∧ isPost y.kind = false := by
 rcases h with h | ⟨c, R', h, hc⟩
 ·exact .inl h
 ·refine .inr ⟨c, R', h, ?_⟩
  cases hp : isPost c.kind
  ·rfl
  ·have := (isPost_iff _).1 hp
   omega
def ReadsAtom (z : Nd) (l : List Lex) : Prop := ∀ n op R r, atomG n op (l ++ R) = .ok r → ∃ y T, r = (some y, T) ∧ postsG y T = postsG z.said R
def ReadsPart (z : Nd) (l : List Lex) : Prop := ∀ n op R ps T, StopL R → piecesG n op [] (l ++ R) = .ok (ps, T) → partN ps = z.said ∧ T = R
def ReadsAlt (z : Nd) : Prop := ∀ n op R r, EndL R → altG n op [] (z.write ++ R) = .ok r → r = (z.said, R)
theorem atomG_fuel0 (op : List Int) (L : List Lex) : atomG 0 op L = .error (0, 0) := by rw [atomG]
theorem piecesG_fuel0 (op : List Int) (acc : List Nd) (L : List Lex) : piecesG 0 op acc L = .error (0, 0) := by rw [piecesG]
theorem altG_fuel0 (op : List Int) (acc : List Nd) (L : List Lex) : altG 0 op acc L = .error (0, 0) := by rw [altG]
theorem pieces_stop {n : Nat} {op : List Int} {acc : List Nd} {R : List Lex} {ps : List Nd} {T : List Lex} (h : StopL R) (hp : piecesG n op acc R = .ok (ps, T)) : ps = acc ∧ T = R := by
 cases n with
 | zero => rw [piecesG_fuel0] at hp; cases hp
 | succ n =>
  cases ha : atomG n op R with
  | error e => rw [piecesG_bad ha] at hp; cases hp
  | ok r =>
   have hr : r = (none, R) := by
    cases n with
    | zero => rw [atomG_fuel0] at ha; cases ha
    | succ n =>
     rcases h with rfl | ⟨c, R', rfl, hc⟩
     ·rw [atomG_nil] at ha; cases ha; rfl
     ·have hnp : isPost c.kind = false := by
       cases hp : isPost c.kind
       ·rfl
       ·have := (isPost_iff _).1 hp; omega
      by_cases h4 : c.kind = 3 ∧ op.length = 0
      ·rw [atomG_lone h4.1 h4.2] at ha; cases ha
      ·rw [atomG_stop (by omega) (by omega) hnp h4] at ha; cases ha; rfl
   subst hr
   rw [piecesG_end ha] at hp
   cases hp
   exact ⟨rfl, rfl⟩
theorem pieces_atom {z : Nd} {l : List Lex} (h : ReadsAtom z l) {n : Nat} {op : List Int} {acc : List Nd} {R : List Lex} {r : List Nd × List Lex} (hR : R = [] ∨ ∃ y L, R = y :: L ∧ isPost y.kind = false) (hp : piecesG n op acc (l ++ R) = .ok r) : ∃ m, piecesG m op (acc ++ [z.said]) R = .ok r := by
 cases n with
 | zero => rw [piecesG_fuel0] at hp; cases hp
 | succ n =>
  cases ha : atomG n op (l ++ R) with
  | error e => rw [piecesG_bad ha] at hp; cases hp
  | ok q =>
   obtain ⟨y, T, rfl, hy⟩ := h n op R q ha
   rw [piecesG_go ha, hy, postsG_endR hR] at hp
   exact ⟨n, hp⟩
theorem part_atom {z : Nd} {l : List Lex} (h : ReadsAtom z l) : ReadsPart z l := fun n op R ps T hR hp => by
 obtain ⟨m, hm⟩ := pieces_atom h hR.noPost hp
 obtain ⟨rfl, rfl⟩ := pieces_stop hR hm
 exact ⟨rfl, rfl⟩
theorem alt_part {z : Nd} (h : ReadsPart z z.write) : ReadsAlt z := fun n op R r hR hp => by
 cases n with
 | zero => rw [altG_fuel0] at hp; cases hp
 | succ n =>
  cases ha : piecesG n op [] (z.write ++ R) with
  | error e => rw [altG_bad ha] at hp; cases hp
  | ok q =>
   obtain ⟨ps, T⟩ := q
   obtain ⟨h1, rfl⟩ := h n op R ps T hR.stop ha
   rw [altG_ok ha, h1] at hp
   rcases hR with rfl | ⟨c, R', rfl, hc⟩
   ·rw [tailG_nil] at hp; cases hp; rfl
   ·rw [tailG_stop (by omega)] at hp; cases hp; rfl
theorem atom_brackets {z : Nd} (h : ReadsAlt z) : ReadsAtom z (lexK 2 :: (z.write ++ [lexK 3])) := fun n op R r ha => by
 cases n with
 | zero => rw [atomG_fuel0] at ha; cases ha
 | succ n =>
  rw [List.cons_append, List.append_assoc] at ha
  by_cases hd : op.length = 64
  ·rw [atomG_deep rfl hd] at ha; cases ha
  cases hq : altG n ((lexK 2).place :: op) [] (z.write ++ ([lexK 3] ++ R)) with
  | error e => rw [atomG_in rfl hd hq] at ha; cases ha
  | ok q =>
   have := h n _ ([lexK 3] ++ R) q (.inr ⟨lexK 3, R, rfl, rfl⟩) hq
   subst this
   rw [atomG_close rfl hd hq rfl] at ha
   cases ha
   exact ⟨_, _, rfl, rfl⟩
theorem atom_postR {x z : Nd} {l : List Lex} {y : Lex} (h : ReadsAtom z l) (hy : isPost y.kind = true) (hx : x.said = postN y z.said) : ReadsAtom x (l ++ [y]) := fun n op R r ha => by
 rw [List.append_assoc] at ha
 obtain ⟨u, T, rfl, hu⟩ := h n op ([y] ++ R) r ha
 refine ⟨u, T, rfl, ?_⟩
 rw [hu, hx]
 show postsG z.said (y :: R) = _
 conv => lhs; unfold postsG
 rw [if_pos hy]
structure Reads (z : Nd) : Prop where
 alt : ReadsAlt z
 part : z.kind ≠ 5 → ReadsPart z z.write
 atom : z.kind ≠ 2 → z.kind ≠ 4 → z.kind ≠ 5 → ReadsAtom z z.write
 head : z.kind ≠ 2 → z.kind ≠ 4 → z.kind ≠ 5 → HeadOk z.write
theorem brS_no {p k : Int} (h : brS p k = false) : k ≠ 5 ∧ (p = 5 ∨ k ≠ 4 ∧ k ≠ 2) := by
 unfold brS at h
 simp at h
 refine ⟨h.1, ?_⟩
 by_cases hp : p = 5
 ·exact .inl hp
 ·exact .inr (h.2 hp)
theorem kid_atom {p : Int} {z : Nd} (hz : Reads z) (h : p ≠ 5 ∨ z.kind = 5) : ReadsAtom z (kidS p (z.kind, z.write)) ∧ HeadOk (kidS p (z.kind, z.write)) := by
 unfold kidS
 cases hb : brS p z.kind with
 | true => exact ⟨by rw [if_pos rfl]; exact atom_brackets hz.alt, by rw [if_pos rfl]; exact ⟨_, _, rfl, rfl⟩⟩
 | false =>
  have := brS_no hb
  rw [if_neg (by decide)]
  have h2 : z.kind ≠ 2 ∧ z.kind ≠ 4 ∧ z.kind ≠ 5 := by omega
  exact ⟨hz.atom h2.1 h2.2.1 h2.2.2, hz.head h2.1 h2.2.1 h2.2.2⟩
theorem kid_part {z : Nd} (hz : Reads z) : ReadsPart z (kidS 5 (z.kind, z.write)) := by
 by_cases h : z.kind = 5
 ·exact part_atom (kid_atom hz (.inr h)).1
 ·unfold kidS
  rw [if_neg (by simp only; unfold brS; simp [h])]
  exact hz.part h
theorem head_cons {l R : List Lex} (h : HeadOk l) : l ++ R = [] ∨ ∃ y L, l ++ R = y :: L ∧ isPost y.kind = false := by
 obtain ⟨y, L, rfl, hy⟩ := h
 exact .inr ⟨y, L ++ R, rfl, hy⟩
theorem cat_reads : ∀ (zs : List Nd), (∀ z ∈ zs, Reads z) → ∀ n op acc R ps T, StopL R → piecesG n op acc (((zs.map fun z => (z.kind, z.write)).map (kidS 4)).flatten ++ R) = .ok (ps, T) → ps = acc ++ zs.map Nd.said ∧ T = R
 | [], _, n, op, acc, R, ps, T, hR, hp => by
  obtain ⟨rfl, rfl⟩ := pieces_stop hR hp
  simp
 | z :: zs, h, n, op, acc, R, ps, T, hR, hp => by
  rw [List.map_cons, List.map_cons, List.flatten_cons, List.append_assoc] at hp
  have hnext : ((zs.map fun z => (z.kind, z.write)).map (kidS 4)).flatten ++ R = [] ∨ ∃ y L, ((zs.map fun z => (z.kind, z.write)).map (kidS 4)).flatten ++ R = y :: L ∧ isPost y.kind = false := by
   cases zs with
   | nil => exact hR.noPost
   | cons u us =>
    rw [List.map_cons, List.map_cons, List.flatten_cons, List.append_assoc]
    exact head_cons (kid_atom (p := 4) (h u (by simp)) (.inl (by decide))).2
  obtain ⟨m, hm⟩ := pieces_atom (kid_atom (p := 4) (h z (by simp)) (.inl (by decide))).1 hnext hp
  obtain ⟨h1, h2⟩ := cat_reads zs (fun y hy => h y (by simp [hy])) m op _ R ps T hR hm
  exact ⟨by rw [h1]; simp, h2⟩
theorem bars_reads : ∀ (zs : List Nd) (z : Nd), Reads z → (∀ y ∈ zs, Reads y) → ∀ n op acc R r, EndL R → altG n op acc (kidS 5 (z.kind, z.write) ++ ((((zs.map fun z => (z.kind, z.write)).map (kidS 5)).flatMap fun x => lexK 4 :: x) ++ R)) = .ok r → r = (flatN 5 (acc ++ (z :: zs).map Nd.said), R)
 | [], z, hz, _, n, op, acc, R, r, hR, hp => by
  cases n with
  | zero => rw [altG_fuel0] at hp; cases hp
  | succ n =>
   simp only [List.map_nil, List.flatMap_nil, List.nil_append] at hp
   cases ha : piecesG n op [] (kidS 5 (z.kind, z.write) ++ R) with
   | error e => rw [altG_bad ha] at hp; cases hp
   | ok q =>
    obtain ⟨ps, T⟩ := q
    obtain ⟨h1, rfl⟩ := kid_part hz n op R ps T hR.stop ha
    rw [altG_ok ha, h1] at hp
    rcases hR with rfl | ⟨c, R', rfl, hc⟩
    ·rw [tailG_nil] at hp; cases hp; rfl
    ·rw [tailG_stop (by omega)] at hp; cases hp; rfl
 | u :: us, z, hz, hus, n, op, acc, R, r, hR, hp => by
  cases n with
  | zero => rw [altG_fuel0] at hp; cases hp
  | succ n =>
   rw [List.map_cons, List.map_cons, List.flatMap_cons, List.append_assoc, List.cons_append] at hp
   generalize hW : kidS 5 (u.kind, u.write) ++ ((((us.map fun z => (z.kind, z.write)).map (kidS 5)).flatMap fun x => lexK 4 :: x) ++ R) = W at *
   cases ha : piecesG n op [] (kidS 5 (z.kind, z.write) ++ (lexK 4 :: W)) with
   | error e => rw [altG_bad ha] at hp; cases hp
   | ok q =>
    obtain ⟨ps, T⟩ := q
    obtain ⟨h1, rfl⟩ := kid_part hz n op (lexK 4 :: W) ps T (.inr ⟨_, _, rfl, .inr rfl⟩) ha
    rw [altG_ok ha, h1, tailG_bar rfl, ← hW] at hp
    have := bars_reads us u (hus u (by simp)) (fun y hy => hus y (by simp [hy])) n op _ R r hR hp
    rw [this]
    simp
theorem flatN_two (k : Int) {l : List Nd} (h : 2 ≤ l.length) : flatN k l = ⟨k, 0, Trees.of l, 0, 0⟩ := by
 match l, h with
 | a :: b :: l, _ => rfl
theorem partN_two {l : List Nd} (h : 2 ≤ l.length) : partN l = ⟨4, 0, Trees.of l, 0, 0⟩ := by
 match l, h with
 | a :: b :: l, _ => rfl
theorem nil_of_len {F : Trees} (h : F.len = 0) : F = .nil := by
 cases F with
 | nil => rfl
 | cons k s ks lo hi r => simp [Trees.len] at h
theorem said_two {x : Nd} (h : aloneN x = true) (hk : x.kind = 4 ∨ x.kind = 5) : x.said = ⟨x.kind, 0, Trees.of x.kids.said, 0, 0⟩ ∧ 2 ≤ x.kids.said.length := by
 have h1 := alone_more h
 have h2 := h1.1 (by omega)
 refine ⟨?_, by rw [Trees.said_list, List.length_map, Trees.len_list]; exact h1.2 hk⟩
 unfold Nd.said saidK
 rw [if_neg (by omega), alone_zero h (by omega), h2.1, h2.2]
theorem one_kid {x : Nd} (h : x.kids.len = 1) : ∃ z, x.kids.list = [z] ∧ x.kids.list[0]? = some z := by
 have : x.kids.list.length = 1 := by rw [Trees.len_list]; exact h
 obtain ⟨z, hz⟩ := List.length_eq_one_iff.1 this
 exact ⟨z, hz, by rw [hz]; rfl⟩
theorem reads_node (x : Nd) (ha : aloneN x = true) (hK : ∀ z ∈ x.kids.list, Reads z) : Reads x := by
 obtain ⟨a1, a9, a0, ak1, ak9⟩ := aloneN_kids ha
 have am := alone_more ha
 by_cases k13 : x.kind = 1 ∨ x.kind = 3
 ·have hw := Nd.write_leaf k13
  have hat : ReadsAtom x x.write := fun n op R r h => by
   rw [hw] at h
   cases n with
   | zero => rw [atomG_fuel0] at h; cases h
   | succ n =>
    rw [List.singleton_append, atomG_set rfl] at h
    cases h
    refine ⟨_, _, rfl, ?_⟩
    have hs : x.said = leafN (maskOf x.set.testBit) := by
     have hn := nil_of_len (a0 (by omega))
     have h2 := am.1 (by omega)
     unfold Nd.said saidK
     split
     ·rw [alone_zero ha (by omega)]
     ·rw [hn, h2.1, h2.2]
      unfold leafN
      rw [show x.kind = 3 by omega]
      rfl
    rw [hs]
  exact ⟨alt_part (part_atom hat), fun _ => part_atom hat, fun _ _ _ => hat, fun _ _ _ => ⟨_, _, hw, rfl⟩⟩
 by_cases k2 : x.kind = 2
 ·have hw := Nd.write_empty k2
  have hpa : ReadsPart x x.write := fun n op R ps T hR h => by
   rw [hw, List.nil_append] at h
   obtain ⟨rfl, rfl⟩ := pieces_stop hR h
   refine ⟨?_, rfl⟩
   have hn := nil_of_len (a0 (by omega))
   have h2 := am.1 (by omega)
   unfold Nd.said saidK
   rw [if_neg (by omega), alone_zero ha (by omega), hn, h2.1, h2.2, k2]
   rfl
  exact ⟨alt_part hpa, fun _ => hpa, fun h => absurd k2 h, fun h => absurd k2 h⟩
 by_cases k4 : x.kind = 4
 ·have hw := Nd.write_cat k4
  obtain ⟨hs, hl⟩ := said_two ha (.inl k4)
  have hpa : ReadsPart x x.write := fun n op R ps T hR h => by
   rw [hw, Trees.writes_list] at h
   obtain ⟨h1, rfl⟩ := cat_reads x.kids.list hK n op [] R ps T hR h
   refine ⟨?_, rfl⟩
   rw [List.nil_append, ← Trees.said_list] at h1
   rw [h1, hs, partN_two hl, k4]
  exact ⟨alt_part hpa, fun _ => hpa, fun _ h => absurd k4 h, fun _ h => absurd k4 h⟩
 by_cases k5 : x.kind = 5
 ·have hw := Nd.write_alt k5
  obtain ⟨hs, hl⟩ := said_two ha (.inr k5)
  have hpa : ReadsAlt x := fun n op R r hR h => by
   rw [hw, Trees.writes_list] at h
   cases hL : x.kids.list with
   | nil => rw [Trees.said_list, hL] at hl; simp at hl
   | cons z zs =>
    rw [hL] at h hK
    unfold barsS at h
    simp only [List.map_cons, List.flatMap_cons, List.cons_append, List.drop_succ_cons, List.drop_zero] at h
    rw [List.append_assoc] at h
    have := bars_reads zs z (hK z (by simp)) (fun y hy => hK y (by simp [hy])) n op [] R r hR h
    rw [this, List.nil_append, ← hL, ← Trees.said_list, hs, flatN_two 5 hl, k5]
  exact ⟨hpa, fun h => absurd k5 h, fun _ _ h => absurd k5 h, fun _ _ h => absurd k5 h⟩
 ·obtain ⟨z, hz1, hz⟩ := one_kid (a1 (by omega) ak9)
  have hrz := hK z (List.mem_of_getElem? hz)
  obtain ⟨hka, hkh⟩ := kid_atom (p := x.kind) hrz (.inl k5)
  have hsk : x.kids.said = [z.said] := by rw [Trees.said_list, hz1]; rfl
  have hs0 : x.said = ⟨x.kind, 0, Trees.of [z.said], x.lo, x.hi⟩ := by
   show saidK x.kind x.set x.lo x.hi x.kids.said = _
   unfold saidK
   rw [if_neg (by omega), alone_zero ha (by omega), hsk]
  have hhead : ∀ y, HeadOk (kidS x.kind (z.kind, z.write) ++ [y]) := fun y => by
   obtain ⟨u, L, e, hu⟩ := hkh
   exact ⟨u, L ++ [y], by rw [e]; rfl, hu⟩
  have hat : ReadsAtom x x.write ∧ HeadOk x.write := by
   by_cases k9 : x.kind = 9
   ·rw [Nd.write_rep k9, Trees.writes_head hz, ← k9]
    refine ⟨atom_postR hka rfl ?_, hhead _⟩
    rw [hs0, k9]
    rfl
   ·have hlh := am.1 k9
    rw [Nd.write_post (by omega), Trees.writes_head hz]
    refine ⟨atom_postR hka ?_ ?_, hhead _⟩
    ·rw [isPost_iff]
     show 5 ≤ x.kind - 1 ∧ x.kind - 1 ≤ 8
     omega
    ·rw [hs0, hlh.1, hlh.2]
     unfold postN
     rw [if_neg (show ¬ (lexK (x.kind - 1)).kind = 8 from by show ¬ x.kind - 1 = 8; omega)]
     show _ = Nd.mk (x.kind - 1 + 1) _ _ _ _
     rw [Int.sub_add_cancel]
  exact ⟨alt_part (part_atom hat.1), fun _ => part_atom hat.1, fun _ _ _ => hat.1, fun _ _ _ => hat.2⟩
theorem reads_all : ∀ (F : Trees), Okays F → ∀ z ∈ F.list, Reads z
 | .nil, _, z, hz => by cases hz
 | .cons k s ks lo hi r, ho, z, hz => by
  rw [Trees.list] at hz
  rcases List.mem_cons.1 hz with rfl | hz
  ·exact reads_node ⟨k, s, ks, lo, hi⟩ (ho _ (by simp [Trees.nodes])) (reads_all ks (fun y hy => ho y (by simp [Trees.nodes, hy])))
  ·exact reads_all r (fun y hy => ho y (by simp [Trees.nodes, hy])) z hz
theorem read_write {x z : Nd} (h : rightT x = true) (hr : lexemesS x.write = .ok z) : z = x.said := by
 obtain ⟨h1, h2⟩ := okays_kids h
 have hx := reads_node x h1 (reads_all _ h2)
 unfold lexemesS at hr
 split at hr
 ·cases hr
 split at hr
 ·cases hr
 split at hr
 ·cases hr
 ·rename_i u T ha
  cases hr
  have := hx.alt _ [] [] (z, T) (.inl rfl) (by rw [List.append_nil]; exact ha)
  exact (Prod.mk.inj this).1
def keyL (y : Lex) : Int × Nat × Int × Int := (y.kind, maskOf y.set, y.lo, y.hi)
theorem keyL_kind {y y' : Lex} (h : keyL y' = keyL y) : y'.kind = y.kind := congrArg Prod.fst h
theorem map_cons_key {y : Lex} {L L' : List Lex} (h : L'.map keyL = (y :: L).map keyL) : ∃ y' M, L' = y' :: M ∧ keyL y' = keyL y ∧ M.map keyL = L.map keyL := by
 cases L' with
 | nil => cases h
 | cons y' M =>
  simp only [List.map_cons, List.cons.injEq] at h
  exact ⟨y', M, rfl, h.1, h.2⟩
theorem postN_key {y y' : Lex} (h : keyL y' = keyL y) (x : Nd) : postN y' x = postN y x := by
 unfold keyL at h
 simp only [Prod.mk.injEq] at h
 unfold postN
 rw [h.1, h.2.2.1, h.2.2.2]
theorem postsG_key : ∀ (L L' : List Lex) (x : Nd), L'.map keyL = L.map keyL → (postsG x L').1 = (postsG x L).1 ∧ (postsG x L').2.map keyL = (postsG x L).2.map keyL
 | [], L', x, h => by
  have : L' = [] := by simpa using h
  subst this
  exact ⟨rfl, rfl⟩
 | y :: L, L', x, h => by
  obtain ⟨y', M, rfl, hy, hM⟩ := map_cons_key h
  unfold postsG
  rw [keyL_kind hy]
  split
  ·rw [postN_key hy]
   exact postsG_key L M _ hM
  ·exact ⟨rfl, h⟩
theorem readG_key (n : Nat) : (∀ op op' acc L L' x R, op'.length = op.length → L'.map keyL = L.map keyL → altG n op acc L = .ok (x, R) → ∃ R', R'.map keyL = R.map keyL ∧ altG n op' acc L' = .ok (x, R')) ∧
  (∀ op op' acc L L' ps R, op'.length = op.length → L'.map keyL = L.map keyL → piecesG n op acc L = .ok (ps, R) → ∃ R', R'.map keyL = R.map keyL ∧ piecesG n op' acc L' = .ok (ps, R')) ∧
  (∀ op op' L L' x R, op'.length = op.length → L'.map keyL = L.map keyL → atomG n op L = .ok (x, R) → ∃ R', R'.map keyL = R.map keyL ∧ atomG n op' L' = .ok (x, R')) := by
 induction n with
 | zero => exact ⟨fun _ _ _ _ _ _ _ _ _ h => (by rw [altG] at h; cases h), fun _ _ _ _ _ _ _ _ _ h => (by rw [piecesG] at h; cases h), fun _ _ _ _ _ _ _ _ h => (by rw [atomG] at h; cases h)⟩
 | succ n ih =>
  obtain ⟨ia, ip, it⟩ := ih
  refine ⟨fun op op' acc L L' x R ho hL h => ?_, fun op op' acc L L' ps R ho hL h => ?_, fun op op' L L' x R ho hL h => ?_⟩
  ·cases hp : piecesG n op [] L with
   | error e => rw [altG_bad hp] at h; cases h
   | ok r =>
    obtain ⟨ps, R1⟩ := r
    obtain ⟨R1', hR1, hp'⟩ := ip op op' [] L L' ps R1 ho hL hp
    rw [altG_ok hp] at h
    rw [altG_ok hp']
    cases R1 with
    | nil =>
     have : R1' = [] := by simpa using hR1
     subst this
     exact ⟨[], by rw [tailG_nil] at h; cases h; rfl, by rw [tailG_nil] at h ⊢; cases h; rfl⟩
    | cons c R' =>
     obtain ⟨c', M, rfl, hc, hM⟩ := map_cons_key hR1
     by_cases h4 : c.kind = 4
     ·rw [tailG_bar h4] at h
      rw [tailG_bar (by rw [keyL_kind hc]; exact h4)]
      exact ia op op' _ _ _ x R ho hM h
     ·rw [tailG_stop h4] at h
      rw [tailG_stop (by rw [keyL_kind hc]; exact h4)]
      cases h
      exact ⟨_, hR1, rfl⟩
  ·cases hp : atomG n op L with
   | error e => rw [piecesG_bad hp] at h; cases h
   | ok r =>
    obtain ⟨x, R1⟩ := r
    obtain ⟨R1', hR1, hp'⟩ := it op op' L L' x R1 ho hL hp
    cases x with
    | none =>
     rw [piecesG_end hp] at h
     rw [piecesG_end hp']
     cases h
     exact ⟨_, hR1, rfl⟩
    | some x =>
     rw [piecesG_go hp] at h
     rw [piecesG_go hp']
     obtain ⟨h1, h2⟩ := postsG_key R1 R1' x hR1
     rw [h1]
     exact ip op op' _ _ _ ps R ho h2 h
  ·cases L with
   | nil =>
    have : L' = [] := by simpa using hL
    subst this
    rw [atomG_nil] at h ⊢
    cases h
    exact ⟨[], rfl, rfl⟩
   | cons y L =>
    obtain ⟨y', M, rfl, hy, hM⟩ := map_cons_key hL
    have hk := keyL_kind hy
    by_cases k1 : y.kind = 1
    ·rw [atomG_set k1] at h
     rw [atomG_set (by omega)]
     cases h
     have : maskOf y'.set = maskOf y.set := by
      unfold keyL at hy
      simp only [Prod.mk.injEq] at hy
      exact hy.2.1
     exact ⟨M, hM, by rw [this]⟩
    by_cases k2 : y.kind = 2
    ·by_cases hd : op.length = 64
     ·rw [atomG_deep k2 hd] at h; cases h
     cases hq : altG n (y.place :: op) [] L with
     | error e => rw [atomG_in k2 hd hq] at h; cases h
     | ok q =>
      obtain ⟨u, T⟩ := q
      obtain ⟨T', hT, hq'⟩ := ia (y.place :: op) (y'.place :: op') [] L M u T (by simp [ho]) hM hq
      cases T with
      | nil => rw [atomG_open k2 hd hq (fun c R' e => by cases e)] at h; cases h
      | cons c T =>
       obtain ⟨c', T2, rfl, hc, hT2⟩ := map_cons_key hT
       by_cases h3 : c.kind = 3
       ·rw [atomG_close k2 hd hq h3] at h
        cases h
        exact ⟨T2, hT2, atomG_close (by omega) (by omega) hq' (by rw [keyL_kind hc]; exact h3)⟩
       ·rw [atomG_open k2 hd hq (fun c R' e => by cases e; exact h3)] at h; cases h
    cases hpo : isPost y.kind with
    | true => rw [atomG_post hpo] at h; cases h
    | false =>
     by_cases h4 : y.kind = 3 ∧ op.length = 0
     ·rw [atomG_lone h4.1 h4.2] at h; cases h
     ·rw [atomG_stop k1 k2 hpo h4] at h
      cases h
      exact ⟨_, hL, atomG_stop (by omega) (by omega) (by rw [hk]; exact hpo) (by omega)⟩
theorem lexemesS_key {L L' : List Lex} {x : Nd} (h : L'.map keyL = L.map keyL) (hr : L'.all rightS = true) (hx : lexemesS L = .ok x) : lexemesS L' = .ok x := by
 have hl : L'.length = L.length := by have := congrArg List.length h; simpa using this
 unfold lexemesS at hx
 split at hx
 ·cases hx
 split at hx
 ·cases hx
 rename_i h1 h2
 have hok : lexemesS L' = match altG (3 * L'.length + 3) [] [] L' with
   | .error e => .error e
   | .ok (x, _) => .ok x := by
  unfold lexemesS
  rw [if_neg (by rw [hr]; decide), dif_neg (by omega)]
  rfl
 rw [hok]
 split at hx
 ·cases hx
 ·rename_i u T ha
  cases hx
  obtain ⟨T', _, hT⟩ := (readG_key _).1 [] [] [] L L' x T rfl h ha
  rw [hl, hT]
structure Ctx (N S T I b o cap : Nat) (bs : List Nat) (i : Nat) (v : Value) (L : List Lex) (W0 : World) (j : Nat) (W : World) : Prop where
 hT : W.cell? ⟨T, 0, none⟩ = some (.pointer (some ⟨S, 0, none⟩))
 hI : Blk W I 3 #[.int .i64 (j : Int)]
 hS : Spl W S b o bs.length cap i v 0 0
 hrow : W.ownsRow N 139 8 v L.length (lexCells L)
 hA : BytesAt W N (some ⟨b, o, none⟩) bs
 hB : Below N W0 W
 hNS : N ≤ S
 hNI : N ≤ I
 hTI : T ≠ I
 hSI : S ≠ I
 hcap : bs.length ≤ cap
section
variable {N S T I b o cap : Nat} {bs : List Nat} {i : Nat} {v : Value} {L : List Lex} {W0 : World} {j : Nat} {W W' : World}
theorem Ctx.drewN (h : Ctx N S T I b o cap bs i v L W0 j W) (n : Nat) : Ctx N S T I b o cap bs i v L W0 j (W.drewN n) :=
 ⟨h.hT, h.hI, h.hS, h.hrow, h.hA, bel_drewN h.hB n, h.hNS, h.hNI, h.hTI, h.hSI, h.hcap⟩
theorem Ctx.below (h : Ctx N S T I b o cap bs i v L W0 j W) (hb : Below W.heap.size W W') : Ctx N S T I b o cap bs i v L W0 j W' :=
  ⟨(hb.cell (p := ⟨T, 0, none⟩) (World.block_lt_of_cell? W _ h.hT)).trans h.hT, h.hI.below hb h.hI.lt, Blk.below h.hS hb (Blk.lt h.hS), own_below h.hrow hb, h.hA.below (hb.mono (Nat.le_of_lt (Nat.lt_of_le_of_lt h.hNS (Blk.lt h.hS)))),
    h.hB.trans (hb.mono (Nat.le_of_lt (Nat.lt_of_le_of_lt h.hNS (Blk.lt h.hS)))), h.hNS, h.hNI, h.hTI, h.hSI, h.hcap⟩
theorem Ctx.set_ (h : Ctx N S T I b o cap bs i v L W0 j W) (m : Nat) : Ctx N S T I b o cap bs i v L W0 m (W.setCell ⟨I, 0, none⟩ (.int .i64 (m : Int))) :=
  ⟨(World.cell?_setCell_other W _ _ _ (fun e => h.hTI (by simpa using (congrArg Addr.block e).symm))).trans h.hT, h.hI.set_ 0 _, Blk.far h.hS (p := ⟨I, 0, none⟩) h.hSI _, own_set h.hrow (blk_not_row h.hI (by decide) h.hrow),
    h.hA.below ((Below.refl N W).setCell (p := ⟨I, 0, none⟩) h.hNI _), h.hB.setCell (p := ⟨I, 0, none⟩) h.hNI _, h.hNS, h.hNI, h.hTI, h.hSI, h.hcap⟩
theorem Ctx.facts (h : Ctx N S T I b o cap bs i v L W0 j W) : W.cell? ⟨T, 0, none⟩ = some (.pointer (some ⟨S, 0, none⟩)) ∧ W.cell? ⟨I, 0, none⟩ = some (.int .i64 (j : Int)) ∧ W.cell? ⟨S, 0, none⟩ = some (.slice (some ⟨b, o, none⟩) bs.length cap) ∧ W.frozen? ⟨I, 0, none⟩ = false ∧
  T < W.heap.size ∧ I < W.heap.size ∧ S < W.heap.size ∧ N ≤ W.heap.size :=
 ⟨h.hT, h.hI.cell 0, (Spl.cells h.hS).1, h.hI.frozen 0, World.block_lt_of_cell? W _ h.hT, h.hI.lt, Blk.lt h.hS, Nat.le_of_lt (Nat.lt_of_le_of_lt h.hNS (Blk.lt h.hS))⟩
end
def Kept (N S T I b o cap : Nat) (bs : List Nat) (i : Nat) (u : Value) (L : List Lex) (W0 : World) (j : Nat) (v : Value) (e : Ending) (W' : World) : Prop := e = .returned v ∧ Ctx N S T I b o cap bs i u L W0 j W'
theorem here_yes {N S T I b o cap : Nat} {bs : List Nat} {i : Nat} {v : Value} {L : List Lex} {W0 : World} {j : Nat} {W : World} (h : Ctx N S T I b o cap bs i v L W0 j W) (c : Nat) (hj : j < bs.length) :
  Calls Tryz.prog 230 #[.int .u8 (c : Int), .pointer (some ⟨I, 0, none⟩), .pointer (some ⟨T, 0, none⟩)] W (Kept N S T I b o cap bs i v L W0 j (.bool (hasAt bs j c))) := by
 obtain ⟨c0, c1, c2, f1, l0, l1, l2, _⟩ := h.facts
 have hcell := bytesAt_cells h.hA j hj
 have hl := h.hA.2.1
 have HK := Lib.hid h
 have Hh := Lib.hid (hasAt_in c hj)
 clear h
 generalize byteAt bs j = d at *
 have hd : decide (j < bs.length) = true := by simp; omega
 have hd2 : (j : Int) < (bs.length : Int) := by omega
 go_enter Tryz.func230, Tryz.ntmps230
 go_wp2
 go_quiet (fail)
 go_wp2
 go_light
 go_ret
 refine ⟨ret_b ?_, HK.out.drewN _⟩
 rw [Hh.out]
 rw [Bool.eq_iff_iff]
 simp
 omega
theorem here_end {N S T I b o cap : Nat} {bs : List Nat} {i : Nat} {v : Value} {L : List Lex} {W0 : World} {j : Nat} {W : World} (h : Ctx N S T I b o cap bs i v L W0 j W) (c : Nat) (hj : bs.length ≤ j) :
  Calls Tryz.prog 230 #[.int .u8 (c : Int), .pointer (some ⟨I, 0, none⟩), .pointer (some ⟨T, 0, none⟩)] W (Kept N S T I b o cap bs i v L W0 j (.bool (hasAt bs j c))) := by
 obtain ⟨c0, c1, c2, f1, l0, l1, l2, _⟩ := h.facts
 have hl := h.hA.2.1
 have HK := Lib.hid h
 have Hh := Lib.hid (hasAt_out (bs := bs) (i := (j : Int)) c (by omega))
 clear h
 have hd : decide (j < bs.length) = false := by simp; omega
 go_enter Tryz.func230, Tryz.ntmps230
 go_wp2
 go_quiet (fail)
 go_wp2
 go_light
 go_ret
 exact ⟨ret_b (by rw [Hh.out]), HK.out.drewN _⟩
theorem sphere_go {N S T I b o cap : Nat} {bs : List Nat} {i : Nat} {v : Value} {L : List Lex} {W0 : World} {j : Nat} {W : World} (h : Ctx N S T I b o cap bs i v L W0 j W) (c : Nat) :
  Calls Tryz.prog 230 #[.int .u8 (c : Int), .pointer (some ⟨I, 0, none⟩), .pointer (some ⟨T, 0, none⟩)] W (Kept N S T I b o cap bs i v L W0 j (.bool (hasAt bs j c))) := by
 rcases Nat.lt_or_ge j bs.length with hj | hj
 ·exact here_yes h c hj
 ·exact here_end h c hj
theorem num_yes {N S T I b o cap : Nat} {bs : List Nat} {i : Nat} {v : Value} {L : List Lex} {W0 : World} {j : Nat} {W : World} (h : Ctx N S T I b o cap bs i v L W0 j W) (hj : j ≤ bs.length) {n m : Nat} (ht : takeS bs j = some (n, m)) :
  Calls Tryz.prog 228 #[.pointer (some ⟨T, 0, none⟩), .pointer (some ⟨I, 0, none⟩)] W (Kept N S T I b o cap bs i v L W0 m (.tuple #[.int .i64 (n : Int), .bool true])) := by
 have Hv := Lib.hid (show takeVal bs j = .tuple #[.int .i64 (n : Int), .int .i64 (m : Int), .int .i64 0] by unfold takeVal; rw [ht])
 clear ht
 obtain ⟨c0, c1, c2, f1, l0, l1, l2, l3⟩ := h.facts
 have hl := h.hA.2.1
 have HK := Lib.hid h
 have HE := Lib.hid (fun w hA => take_at b o cap bs j w hA h.hcap hj)
 clear h
 go_enter Tryz.func228, Tryz.ntmps228
 go_wp2_with fail
 go_region_held3 (fun w' => (∀ b o, b < W.heap.size → w'.cell? ⟨b, o, none⟩ = W.cell? ⟨b, o, none⟩) ∧ Since W.heap.size W w') (first | (with_reducible exact HK2.out) | (with_reducible exact since_start (Nat.le_refl _)))
  (first | (go_at_call 229; refine (HE.out _ (bytes_since (by assumption) HK.out.hA l3)).mono ?_; rintro e w' ⟨rfl, hb'⟩; rw [Hv.out]; have hK := since_step (by assumption) hb'; have HK2 := Lib.hid hK; clear hK))
 have HC := Lib.hid (HK.out.below HK2.out.2.1)
 obtain ⟨k0, k1, k2, g1, _, _, _, _⟩ := HC.out.facts
 go_wp2
 go_light
 go_ret2
 exact ⟨rfl, HC.out.set_ m⟩
theorem num_no {N S T I b o cap : Nat} {bs : List Nat} {i : Nat} {v : Value} {L : List Lex} {W0 : World} {j : Nat} {W : World} (h : Ctx N S T I b o cap bs i v L W0 j W) (hj : j ≤ bs.length) (ht : takeS bs j = none) :
  Calls Tryz.prog 228 #[.pointer (some ⟨T, 0, none⟩), .pointer (some ⟨I, 0, none⟩)] W (Kept N S T I b o cap bs i v L W0 j (.tuple #[.int .i64 0, .bool false])) := by
 have Hv := Lib.hid (show takeVal bs j = .tuple #[.int .i64 0, .int .i64 0, .int .i64 (takeErr bs j)] by unfold takeVal; rw [ht])
 have hk := takeErr_pos bs j
 generalize takeErr bs j = k at *
 have hk0 : (k != 0) = true := by rw [bne_iff_ne]; omega
 clear ht hk
 obtain ⟨c0, c1, c2, f1, l0, l1, l2, l3⟩ := h.facts
 have hl := h.hA.2.1
 have HK := Lib.hid h
 have HE := Lib.hid (fun w hA => take_at b o cap bs j w hA h.hcap hj)
 clear h
 go_enter Tryz.func228, Tryz.ntmps228
 go_wp2_with fail
 go_region_held3 (fun w' => (∀ b o, b < W.heap.size → w'.cell? ⟨b, o, none⟩ = W.cell? ⟨b, o, none⟩) ∧ Since W.heap.size W w') (first | (with_reducible exact HK2.out) | (with_reducible exact since_start (Nat.le_refl _)))
  (first | (go_at_call 229; refine (HE.out _ (bytes_since (by assumption) HK.out.hA l3)).mono ?_; rintro e w' ⟨rfl, hb'⟩; rw [Hv.out]; have hK := since_step (by assumption) hb'; have HK2 := Lib.hid hK; clear hK))
 have HC := Lib.hid (HK.out.below HK2.out.2.1)
 obtain ⟨k0, k1, k2, g1, _, _, _, _⟩ := HC.out.facts
 go_wp2
 go_light
 go_ret2
 exact ⟨rfl, HC.out⟩
def WrAt (w : World) (base g : Nat) (S : Nat → Prop) (L : List Lex) : Prop :=
 (∀ b, S b → base ≤ b ∧ b < w.heap.size) ∧ S g ∧ ∃ v, Blk w g 208 #[v] ∧ w.ownsRow base 139 8 v L.length (lexCells L) ∧ ∀ b, v.ownBlock = some b → S b
theorem WrAt.keep {w w' : World} {base g : Nat} {S : Nat → Prop} {L : List Lex} (h : WrAt w base g S L) (hs : w.heap.size ≤ w'.heap.size) (hk : ∀ b, S b → w'.heap[b]? = w.heap[b]?) : WrAt w' base g S L := by
 obtain ⟨h0, hg, v, h1, h2, h3⟩ := h
 exact ⟨fun b hb => ⟨(h0 b hb).1, by have := (h0 b hb).2; omega⟩, hg, v, (hk g hg).trans h1, ownsRow_block h2 (fun k e => hk k (h3 k e)), h3⟩
theorem WrAt.lt {w : World} {base g : Nat} {S : Nat → Prop} {L : List Lex} (h : WrAt w base g S L) : ∀ b, S b → b < w.heap.size := fun b hb => (h.1 b hb).2
theorem WrAt.alloc {w : World} {base g : Nat} {S : Nat → Prop} {L : List Lex} (h : WrAt w base g S L) (o : Obj) : WrAt (w.alloc o) base g S L :=
 h.keep (by simp) (fun b hb => Below.heap_alloc w o b (h.lt b hb))
theorem WrAt.below {w w' : World} {base g : Nat} {S : Nat → Prop} {L : List Lex} (h : WrAt w base g S L) (hb : Below w.heap.size w w') : WrAt w' base g S L :=
 h.keep hb.size (fun b hs => hb.block b (h.lt b hs))
theorem WrAt.not {w : World} {base g : Nat} {S : Nat → Prop} {L : List Lex} (h : WrAt w base g S L) {b : Nat} (hb : w.heap.size ≤ b) : ¬ S b := fun h' => by have := h.lt b h'; omega
def WrOut (base g : Nat) (S : Nat → Prop) (w : World) (L : List Lex) (e : Ending) (w' : World) : Prop :=
 e = .returned (.tuple #[]) ∧ ∃ S', WrAt w' base g S' L ∧ Moves base S w S' w'
theorem wr_push {base g gg cap : Nat} {S : Nat → Prop} {L : List Lex} {x : Lex} {w wa w1 : World} {v : Value} {z : Nat} (hH : (∀ b, S b → base ≤ b ∧ b < w.heap.size) ∧ S g ∧ ∀ b, v.ownBlock = some b → S b) (hb : base ≤ w.heap.size) (hG1 : Blk w1 g 208 #[v])
  (ha : Below w.heap.size w wa) (hgrow : wa.grownBy w1 v.ownBlock) (hown : w1.ownsRow base 139 8 (.slice (some ⟨gg, 0, none⟩) (L.length + 1) cap) (L.length + 1) (lexCells L ++ lexCell x)) (hat : v.ownBlock = some gg ∨ gg = z) (hz : w.heap.size ≤ z) :
  ∃ S', WrAt (w1.setCell ⟨g, 0, none⟩ (.slice (some ⟨gg, 0, none⟩) (L.length + 1) cap)) base g S' (L ++ [x]) ∧ Moves base S w S' (w1.setCell ⟨g, 0, none⟩ (.slice (some ⟨gg, 0, none⟩) (L.length + 1) cap)) := by
 obtain ⟨h0, hg, h3⟩ := hH
 have hne := blk_not_row hG1 (by decide) hown
 have hlg := hown.lt gg rfl
 have hM : Moves base S w (fun b => S b ∨ b = gg) w1 := Moves.push h0 hb ha hgrow h3 (by rcases hat with h | h; exact .inl h; exact .inr (by omega))
 have hsz : w.heap.size ≤ w1.heap.size := hM.size
 refine ⟨fun b => S b ∨ b = gg, ⟨fun b hb => ?_, .inl hg, .slice (some ⟨gg, 0, none⟩) (L.length + 1) cap, hG1.set_ 0 _, ?_, fun b h => .inr (by simpa [Value.ownBlock] using h.symm)⟩, hM.setS (p := ⟨g, 0, none⟩) hg (h0 g hg).1 _⟩
 ·simp only [World.setCell, Array.size_modify]
  rcases hb with h | rfl
  ·exact ⟨(h0 b h).1, by have := (h0 b h).2; omega⟩
  ·exact hlg
 ·rw [List.length_append, lexCells_snoc]
  exact own_set hown hne
theorem lexCell_sign (k : Int) : lexCell (lexK k) = [.int .i64 k, .int .i64 0, .int .u64 0, .int .u64 0, .int .u64 0, .int .u64 0, .int .i64 0, .int .i64 0] := rfl
theorem wput_go (base g : Nat) (S : Nat → Prop) (L : List Lex) (k : Int) (w : World) (h : WrAt w base g S L) (hb : base ≤ w.heap.size) (hf : L.length ≤ 100000000) :
  Calls Tryz.prog 209 #[.pointer (some ⟨g, 0, none⟩), .int .i64 k] w (WrOut base g S w (L ++ [lexK k])) := by
 obtain ⟨i0, hi, hz0, hz1, hz2⟩ := info_parts info_lex
 obtain ⟨h0, hg, v, hG, hR, h3⟩ := h
 have s0 := hG.cell 0
 have f0 := hG.frozen 0
 have hlt := Blk.lt hG
 have HG := Lib.hid hG
 have HR := Lib.hid hR
 have HH := Lib.hid (show _ ∧ _ ∧ _ from ⟨h0, hg, h3⟩)
 have hneG := blk_not_row hG (by decide) hR
 have HneG := Lib.hid hneG
 have h63 : L.length + 1 ≤ maxLen := Nat.le_trans (by omega) (show 2000000000000 ≤ maxLen by decide)
 have hby : (L.length + 1) * 64 ≤ 140737488355328 := by omega
 have HS := Lib.hid (lexCell_sign k)
 clear hG hR hneG h0 h3
 go_enter Tryz.func209, Tryz.ntmps209
 go_wp2_with (at_builtin; refine wpList_append_lies _ rfl _ _ 134 rfl base 139 i0 _ 8 64 Tryz.underlying134 hi hz0 hz1 hz2 rfl (by decide) v L.length (lexCells L) rfl (HR.out.alloc _) ⟨w.heap.size, 0, none⟩ 1 1 [.int .i64 k, .int .i64 0, .int .u64 0, .int .u64 0, .int .u64 0, .int .u64 0, .int .i64 0, .int .i64 0] rfl rfl (World.news_of_block (cs := #[.int .i64 k, .int .i64 0, .int .u64 0, .int .u64 0, .int .u64 0, .int .u64 0, .int .i64 0, .int .i64 0]) (t := 139) (fr := (0, 0)) (heap_alloc_new w _)) (by simp [Value.oneCell']) (by decide) h63 hby (by simp; omega) (w.heap.size + 1) (by simp) ?_; intro gg cap' w1 hown1 hgrow hat hlt1; have hG1 := Blk.grown (Blk.alloc HG.out _) hgrow HneG.out; have c0 := hG1.cell 0; have d0 := hG1.frozen 0; have HG1 := Lib.hid hG1; have Hgrow := Lib.hid hgrow; have Hown1 := Lib.hid hown1; have Hat := Lib.hid hat; clear hG1 hgrow hown1 hat)
 go_light
 go_end0
 rw [← HS.out] at Hown1
 exact ⟨rfl, wr_push HH.out hb HG1.out ((Below.refl _ _).alloc (Nat.le_refl _) _) Hgrow.out Hown1.out Hat.out (by omega)⟩
def levelS (k : Int) : Int := if k = 5 then 1 else if k = 4 then 2 else if k = 2 then 0 else 3
theorem level1 (s : Nat) (n : Nat) (lo hi : Int) (B : Option Addr) (cap : Nat) (w : World) :
  Calls Tryz.prog 208 #[.agg #[.int .i64 1, .int .u64 (word s.testBit 0), .int .u64 (word s.testBit 1), .int .u64 (word s.testBit 2), .int .u64 (word s.testBit 3), .slice B n cap, .int .i64 lo, .int .i64 hi]] w fun e w' => e = .returned (.int .i64 3) ∧ Below w.heap.size w w' := by
 have HB := Lib.hid (((Below.refl w.heap.size w).alloc (Nat.le_refl _) (.cells #[.int .i64 1, .int .u64 (word s.testBit 0), .int .u64 (word s.testBit 1), .int .u64 (word s.testBit 2), .int .u64 (word s.testBit 3), .slice B n cap, .int .i64 lo, .int .i64 hi] 28)).alloc (by simp) (.cells #[.int .i64 0, .int .i64 3, .int .i64 0, .int .i64 3, .int .i64 2, .int .i64 1, .int .i64 3, .int .i64 3, .int .i64 3, .int .i64 3] 206))
 go_enter Tryz.func208, Tryz.ntmps208
 go_wp2
 go_light
 go_ret
 exact ⟨rfl, HB.out⟩
theorem level2 (s : Nat) (n : Nat) (lo hi : Int) (B : Option Addr) (cap : Nat) (w : World) :
  Calls Tryz.prog 208 #[.agg #[.int .i64 2, .int .u64 (word s.testBit 0), .int .u64 (word s.testBit 1), .int .u64 (word s.testBit 2), .int .u64 (word s.testBit 3), .slice B n cap, .int .i64 lo, .int .i64 hi]] w fun e w' => e = .returned (.int .i64 0) ∧ Below w.heap.size w w' := by
 have HB := Lib.hid (((Below.refl w.heap.size w).alloc (Nat.le_refl _) (.cells #[.int .i64 2, .int .u64 (word s.testBit 0), .int .u64 (word s.testBit 1), .int .u64 (word s.testBit 2), .int .u64 (word s.testBit 3), .slice B n cap, .int .i64 lo, .int .i64 hi] 28)).alloc (by simp) (.cells #[.int .i64 0, .int .i64 3, .int .i64 0, .int .i64 3, .int .i64 2, .int .i64 1, .int .i64 3, .int .i64 3, .int .i64 3, .int .i64 3] 206))
 go_enter Tryz.func208, Tryz.ntmps208
 go_wp2
 go_light
 go_ret
 exact ⟨rfl, HB.out⟩
theorem level3 (s : Nat) (n : Nat) (lo hi : Int) (B : Option Addr) (cap : Nat) (w : World) :
  Calls Tryz.prog 208 #[.agg #[.int .i64 3, .int .u64 (word s.testBit 0), .int .u64 (word s.testBit 1), .int .u64 (word s.testBit 2), .int .u64 (word s.testBit 3), .slice B n cap, .int .i64 lo, .int .i64 hi]] w fun e w' => e = .returned (.int .i64 3) ∧ Below w.heap.size w w' := by
 have HB := Lib.hid (((Below.refl w.heap.size w).alloc (Nat.le_refl _) (.cells #[.int .i64 3, .int .u64 (word s.testBit 0), .int .u64 (word s.testBit 1), .int .u64 (word s.testBit 2), .int .u64 (word s.testBit 3), .slice B n cap, .int .i64 lo, .int .i64 hi] 28)).alloc (by simp) (.cells #[.int .i64 0, .int .i64 3, .int .i64 0, .int .i64 3, .int .i64 2, .int .i64 1, .int .i64 3, .int .i64 3, .int .i64 3, .int .i64 3] 206))
 go_enter Tryz.func208, Tryz.ntmps208
 go_wp2
 go_light
 go_ret
 exact ⟨rfl, HB.out⟩
theorem level4 (s : Nat) (n : Nat) (lo hi : Int) (B : Option Addr) (cap : Nat) (w : World) :
  Calls Tryz.prog 208 #[.agg #[.int .i64 4, .int .u64 (word s.testBit 0), .int .u64 (word s.testBit 1), .int .u64 (word s.testBit 2), .int .u64 (word s.testBit 3), .slice B n cap, .int .i64 lo, .int .i64 hi]] w fun e w' => e = .returned (.int .i64 2) ∧ Below w.heap.size w w' := by
 have HB := Lib.hid (((Below.refl w.heap.size w).alloc (Nat.le_refl _) (.cells #[.int .i64 4, .int .u64 (word s.testBit 0), .int .u64 (word s.testBit 1), .int .u64 (word s.testBit 2), .int .u64 (word s.testBit 3), .slice B n cap, .int .i64 lo, .int .i64 hi] 28)).alloc (by simp) (.cells #[.int .i64 0, .int .i64 3, .int .i64 0, .int .i64 3, .int .i64 2, .int .i64 1, .int .i64 3, .int .i64 3, .int .i64 3, .int .i64 3] 206))
 go_enter Tryz.func208, Tryz.ntmps208
 go_wp2
 go_light
 go_ret
 exact ⟨rfl, HB.out⟩
theorem level5 (s : Nat) (n : Nat) (lo hi : Int) (B : Option Addr) (cap : Nat) (w : World) :
  Calls Tryz.prog 208 #[.agg #[.int .i64 5, .int .u64 (word s.testBit 0), .int .u64 (word s.testBit 1), .int .u64 (word s.testBit 2), .int .u64 (word s.testBit 3), .slice B n cap, .int .i64 lo, .int .i64 hi]] w fun e w' => e = .returned (.int .i64 1) ∧ Below w.heap.size w w' := by
 have HB := Lib.hid (((Below.refl w.heap.size w).alloc (Nat.le_refl _) (.cells #[.int .i64 5, .int .u64 (word s.testBit 0), .int .u64 (word s.testBit 1), .int .u64 (word s.testBit 2), .int .u64 (word s.testBit 3), .slice B n cap, .int .i64 lo, .int .i64 hi] 28)).alloc (by simp) (.cells #[.int .i64 0, .int .i64 3, .int .i64 0, .int .i64 3, .int .i64 2, .int .i64 1, .int .i64 3, .int .i64 3, .int .i64 3, .int .i64 3] 206))
 go_enter Tryz.func208, Tryz.ntmps208
 go_wp2
 go_light
 go_ret
 exact ⟨rfl, HB.out⟩
theorem level6 (s : Nat) (n : Nat) (lo hi : Int) (B : Option Addr) (cap : Nat) (w : World) :
  Calls Tryz.prog 208 #[.agg #[.int .i64 6, .int .u64 (word s.testBit 0), .int .u64 (word s.testBit 1), .int .u64 (word s.testBit 2), .int .u64 (word s.testBit 3), .slice B n cap, .int .i64 lo, .int .i64 hi]] w fun e w' => e = .returned (.int .i64 3) ∧ Below w.heap.size w w' := by
 have HB := Lib.hid (((Below.refl w.heap.size w).alloc (Nat.le_refl _) (.cells #[.int .i64 6, .int .u64 (word s.testBit 0), .int .u64 (word s.testBit 1), .int .u64 (word s.testBit 2), .int .u64 (word s.testBit 3), .slice B n cap, .int .i64 lo, .int .i64 hi] 28)).alloc (by simp) (.cells #[.int .i64 0, .int .i64 3, .int .i64 0, .int .i64 3, .int .i64 2, .int .i64 1, .int .i64 3, .int .i64 3, .int .i64 3, .int .i64 3] 206))
 go_enter Tryz.func208, Tryz.ntmps208
 go_wp2
 go_light
 go_ret
 exact ⟨rfl, HB.out⟩
theorem level7 (s : Nat) (n : Nat) (lo hi : Int) (B : Option Addr) (cap : Nat) (w : World) :
  Calls Tryz.prog 208 #[.agg #[.int .i64 7, .int .u64 (word s.testBit 0), .int .u64 (word s.testBit 1), .int .u64 (word s.testBit 2), .int .u64 (word s.testBit 3), .slice B n cap, .int .i64 lo, .int .i64 hi]] w fun e w' => e = .returned (.int .i64 3) ∧ Below w.heap.size w w' := by
 have HB := Lib.hid (((Below.refl w.heap.size w).alloc (Nat.le_refl _) (.cells #[.int .i64 7, .int .u64 (word s.testBit 0), .int .u64 (word s.testBit 1), .int .u64 (word s.testBit 2), .int .u64 (word s.testBit 3), .slice B n cap, .int .i64 lo, .int .i64 hi] 28)).alloc (by simp) (.cells #[.int .i64 0, .int .i64 3, .int .i64 0, .int .i64 3, .int .i64 2, .int .i64 1, .int .i64 3, .int .i64 3, .int .i64 3, .int .i64 3] 206))
 go_enter Tryz.func208, Tryz.ntmps208
 go_wp2
 go_light
 go_ret
 exact ⟨rfl, HB.out⟩
theorem level8 (s : Nat) (n : Nat) (lo hi : Int) (B : Option Addr) (cap : Nat) (w : World) :
  Calls Tryz.prog 208 #[.agg #[.int .i64 8, .int .u64 (word s.testBit 0), .int .u64 (word s.testBit 1), .int .u64 (word s.testBit 2), .int .u64 (word s.testBit 3), .slice B n cap, .int .i64 lo, .int .i64 hi]] w fun e w' => e = .returned (.int .i64 3) ∧ Below w.heap.size w w' := by
 have HB := Lib.hid (((Below.refl w.heap.size w).alloc (Nat.le_refl _) (.cells #[.int .i64 8, .int .u64 (word s.testBit 0), .int .u64 (word s.testBit 1), .int .u64 (word s.testBit 2), .int .u64 (word s.testBit 3), .slice B n cap, .int .i64 lo, .int .i64 hi] 28)).alloc (by simp) (.cells #[.int .i64 0, .int .i64 3, .int .i64 0, .int .i64 3, .int .i64 2, .int .i64 1, .int .i64 3, .int .i64 3, .int .i64 3, .int .i64 3] 206))
 go_enter Tryz.func208, Tryz.ntmps208
 go_wp2
 go_light
 go_ret
 exact ⟨rfl, HB.out⟩
theorem level9 (s : Nat) (n : Nat) (lo hi : Int) (B : Option Addr) (cap : Nat) (w : World) :
  Calls Tryz.prog 208 #[.agg #[.int .i64 9, .int .u64 (word s.testBit 0), .int .u64 (word s.testBit 1), .int .u64 (word s.testBit 2), .int .u64 (word s.testBit 3), .slice B n cap, .int .i64 lo, .int .i64 hi]] w fun e w' => e = .returned (.int .i64 3) ∧ Below w.heap.size w w' := by
 have HB := Lib.hid (((Below.refl w.heap.size w).alloc (Nat.le_refl _) (.cells #[.int .i64 9, .int .u64 (word s.testBit 0), .int .u64 (word s.testBit 1), .int .u64 (word s.testBit 2), .int .u64 (word s.testBit 3), .slice B n cap, .int .i64 lo, .int .i64 hi] 28)).alloc (by simp) (.cells #[.int .i64 0, .int .i64 3, .int .i64 0, .int .i64 3, .int .i64 2, .int .i64 1, .int .i64 3, .int .i64 3, .int .i64 3, .int .i64 3] 206))
 go_enter Tryz.func208, Tryz.ntmps208
 go_wp2
 go_light
 go_ret
 exact ⟨rfl, HB.out⟩
theorem level_go (z : Nd) (B : Option Addr) (cap : Nat) (w : World) (h1 : 1 ≤ z.kind) (h9 : z.kind ≤ 9) :
  Calls Tryz.prog 208 #[ndV z B cap] w fun e w' => e = .returned (.int .i64 (levelS z.kind)) ∧ Below w.heap.size w w' := by
 unfold ndV
 rcases (show z.kind = 1 ∨ z.kind = 2 ∨ z.kind = 3 ∨ z.kind = 4 ∨ z.kind = 5 ∨ z.kind = 6 ∨ z.kind = 7 ∨ z.kind = 8 ∨ z.kind = 9 by omega) with h | h | h | h | h | h | h | h | h <;> rw [h]
 ·exact level1 _ _ _ _ _ _ w
 ·exact level2 _ _ _ _ _ _ w
 ·exact level3 _ _ _ _ _ _ w
 ·exact level4 _ _ _ _ _ _ w
 ·exact level5 _ _ _ _ _ _ w
 ·exact level6 _ _ _ _ _ _ w
 ·exact level7 _ _ _ _ _ _ w
 ·exact level8 _ _ _ _ _ _ w
 ·exact level9 _ _ _ _ _ _ w
def WriteC (x : Nd) : Prop := ∀ (B : Option Addr) (cap base g : Nat) (S : Nat → Prop) (L : List Lex) (w : World), TreesAt w (fun b => ¬ S b) x.kids B → WrAt w base g S L → base ≤ w.heap.size → L.length + x.write.length ≤ 90000000 →
 Calls Tryz.prog 173 #[.pointer (some ⟨g, 0, none⟩), ndV x B cap] w (WrOut base g S w (L ++ x.write))
theorem cell_blk {w w' : World} {b o : Nat} (h : w'.heap[b]? = w.heap[b]?) : w'.cell? ⟨b, o, none⟩ = w.cell? ⟨b, o, none⟩ := by
 simp only [World.cell?, h]
theorem TreesAt.movesW {base : Nat} {S S1 : Nat → Prop} {w w1 : World} {F : Trees} {B : Option Addr} (h : TreesAt w (fun b => ¬ S b) F B) (hm : Moves base S w S1 w1) : TreesAt w1 (fun b => ¬ S1 b) F B :=
 h.keep (fun b o hb hl => cell_blk (hm.kept b hl hb)) (fun b hb hl => hm.notIn hl hb)
structure KFr (w : World) (base g pb : Nat) (S : Nat → Prop) (nd : Array Value) (S1 : Nat → Prop) (L : List Lex) (w1 : World) : Prop where
 x : Blk w1 w.heap.size 28 nd
 p : w1.cell? ⟨pb, 0, none⟩ = some (.pointer (some ⟨g, 0, none⟩))
 wr : WrAt w1 base g S1 L
 mvs : Moves base S w S1 w1
 nx : ¬ S1 w.heap.size
 np : ¬ S1 pb
 hb : base ≤ w.heap.size
 hpl : pb < w.heap.size
theorem KFr.start {w : World} {base g pb : Nat} {S : Nat → Prop} {L : List Lex} (nd : Array Value) (h : WrAt w base g S L) (hb : base ≤ w.heap.size) (hp : w.cell? ⟨pb, 0, none⟩ = some (.pointer (some ⟨g, 0, none⟩))) (hnp : ¬ S pb) : KFr w base g pb S nd S L (w.alloc (.cells nd 28)) :=
 have hl := World.block_lt_of_cell? w _ hp
 ⟨Blk.new w _ _, (cell_blk (Below.heap_alloc w _ pb hl)).trans hp, h.alloc _, (Moves.refl base S w).alloc hb _, h.not (Nat.le_refl _), hnp, hb, hl⟩
theorem KFr.go {w w1 : World} {base g pb : Nat} {S S1 : Nat → Prop} {L : List Lex} {nd : Array Value} (h : KFr w base g pb S nd S1 L w1) {w2 : World} {S2 : Nat → Prop} {L2 : List Lex} (hm : WrAt w2 base g S2 L2) (hv : Moves base S1 w1 S2 w2) : KFr w base g pb S nd S2 L2 w2 :=
 have hl : pb < w1.heap.size := World.block_lt_of_cell? w1 _ h.p
 ⟨h.x.moves hv h.nx, (cell_blk (hv.kept pb hl h.np)).trans h.p, hm, h.mvs.trans hv, hv.notIn h.x.lt h.nx, hv.notIn hl h.np, h.hb, h.hpl⟩
theorem KFr.below {w w1 : World} {base g pb : Nat} {S S1 : Nat → Prop} {L : List Lex} {nd : Array Value} (h : KFr w base g pb S nd S1 L w1) {w2 : World} (hB : Below w1.heap.size w1 w2) : KFr w base g pb S nd S1 L w2 :=
 h.go (h.wr.below hB) (Moves.of_below hB (by have := h.mvs.size; have := h.hb; omega))
theorem KFr.size {w w1 : World} {base g pb : Nat} {S S1 : Nat → Prop} {L : List Lex} {nd : Array Value} (h : KFr w base g pb S nd S1 L w1) : base ≤ w1.heap.size := by
 have := h.mvs.size; have := h.hb; omega
theorem kid_openA (z : Nd) (C : Option Addr) (cap : Nat) (least : Int) (base g pb : Nat) (S : Nat → Prop) (L : List Lex) (w : World) (ht : TreesAt w (fun b => ¬ S b) z.kids C) (h : WrAt w base g S L) (hb : base ≤ w.heap.size) (hp : w.cell? ⟨pb, 0, none⟩ = some (.pointer (some ⟨g, 0, none⟩))) (hnp : ¬ S pb) (hk1 : 1 ≤ z.kind) (hk9 : z.kind ≤ 9) (hW : WriteC z) (hl : L.length + z.write.length + 2 ≤ 90000000) (h1 : levelS z.kind < least) (h2 : 2 < least) : Calls Tryz.prog 207 #[ndV z C cap, .int .i64 least, .pointer (some ⟨pb, 0, none⟩)] w (WrOut base g S w (L ++ (lexK 2 :: (z.write ++ [lexK 3])))) := by
 have hF1 := KFr.start #[.int .i64 z.kind, .int .u64 (word z.set.testBit 0), .int .u64 (word z.set.testBit 1), .int .u64 (word z.set.testBit 2), .int .u64 (word z.set.testBit 3), .slice C z.kids.len cap, .int .i64 z.lo, .int .i64 z.hi] h hb hp hnp
 have HL1 := Lib.hid (level_go z C cap (w.alloc (.cells #[.int .i64 z.kind, .int .u64 (word z.set.testBit 0), .int .u64 (word z.set.testBit 1), .int .u64 (word z.set.testBit 2), .int .u64 (word z.set.testBit 3), .slice C z.kids.len cap, .int .i64 z.lo, .int .i64 z.hi] 28)) hk1 hk9)
 have HLV := Lib.hid (fun (w' : World) => level_go z C cap w' hk1 hk9)
 have HF1 := Lib.hid hF1
 have HT := Lib.hid ht
 have HW := Lib.hid hW
 unfold ndV at HL1 HLV ⊢
 generalize levelS z.kind = lv at *
 clear hF1 ht hW h hp hnp hk1 hk9
 go_enter Tryz.func207, Tryz.ntmps207
 go_wp2_with fail
 refine HL1.out.mono ?_
 rintro e w2 ⟨rfl, hb2⟩
 have hF2 := HF1.out.below hb2
 have n0 := (hF2).x.cell 0
 have n1 := (hF2).x.cell 1
 have n2 := (hF2).x.cell 2
 have n3 := (hF2).x.cell 3
 have n4 := (hF2).x.cell 4
 have n5 := (hF2).x.cell 5
 have n6 := (hF2).x.cell 6
 have n7 := (hF2).x.cell 7
 have p0 := (hF2).p
 have hlx := (hF2).x.lt
 simp only [List.getElem?_toArray, List.getElem?_cons_zero, List.getElem?_cons_succ] at n0 n1 n2 n3 n4 n5 n6 n7
 have HF2 := Lib.hid hF2
 clear hF2 HF1 HL1 hb2
 dsimp only
 have HP := Lib.hid (wput_go base g S L 2 w2 (HF2).out.wr (HF2).out.size (by omega))
 go_wp2_with fail
 refine HP.out.mono ?_
 rintro e w4 ⟨rfl, S4, hm4, hv4⟩
 have hF4 := (HF2).out.go hm4 hv4
 clear n0 n1 n2 n3 n4 n5 n6 n7 p0 hlx
 have n0 := (hF4).x.cell 0
 have n1 := (hF4).x.cell 1
 have n2 := (hF4).x.cell 2
 have n3 := (hF4).x.cell 3
 have n4 := (hF4).x.cell 4
 have n5 := (hF4).x.cell 5
 have n6 := (hF4).x.cell 6
 have n7 := (hF4).x.cell 7
 have p0 := (hF4).p
 have hlx := (hF4).x.lt
 simp only [List.getElem?_toArray, List.getElem?_cons_zero, List.getElem?_cons_succ] at n0 n1 n2 n3 n4 n5 n6 n7
 have HF4 := Lib.hid hF4
 clear hF4 hm4 hv4 HP HF2
 dsimp only
 have HI := Lib.hid (HW.out C cap base g S4 (L ++ [lexK 2]) w4 (HT.out.movesW (HF4).out.mvs) (HF4).out.wr (HF4).out.size (by (try simp only [List.length_append, List.length_cons, List.length_nil]); omega))
 unfold ndV at HI
 go_wp2_with fail
 refine HI.out.mono ?_
 rintro e w5 ⟨rfl, S5, hm5, hv5⟩
 have hF5 := (HF4).out.go hm5 hv5
 clear n0 n1 n2 n3 n4 n5 n6 n7 p0 hlx
 have n0 := (hF5).x.cell 0
 have n1 := (hF5).x.cell 1
 have n2 := (hF5).x.cell 2
 have n3 := (hF5).x.cell 3
 have n4 := (hF5).x.cell 4
 have n5 := (hF5).x.cell 5
 have n6 := (hF5).x.cell 6
 have n7 := (hF5).x.cell 7
 have p0 := (hF5).p
 have hlx := (hF5).x.lt
 simp only [List.getElem?_toArray, List.getElem?_cons_zero, List.getElem?_cons_succ] at n0 n1 n2 n3 n4 n5 n6 n7
 have HF5 := Lib.hid hF5
 clear hF5 hm5 hv5 HI
 dsimp only
 have HP := Lib.hid (wput_go base g S5 (L ++ [lexK 2] ++ z.write) 3 w5 HF5.out.wr HF5.out.size (by (try simp only [List.length_append, List.length_cons, List.length_nil]); omega))
 go_wp2_with fail
 refine HP.out.mono ?_
 rintro e w6 ⟨rfl, S6, hm6, hv6⟩
 have HF6 := Lib.hid (HF5.out.go hm6 hv6)
 clear n0 n1 n2 n3 n4 n5 n6 n7 p0 hlx
 clear hm6 hv6 HP HF5
 dsimp only
 go_wp2
 go_light
 go_end0
 have e6 : L ++ (lexK 2 :: (z.write ++ [lexK 3])) = L ++ [lexK 2] ++ z.write ++ [lexK 3] := by simp
 rw [e6]
 exact ⟨rfl, S6, HF6.out.wr, HF6.out.mvs⟩
theorem kid_openB (z : Nd) (C : Option Addr) (cap : Nat) (least : Int) (base g pb : Nat) (S : Nat → Prop) (L : List Lex) (w : World) (ht : TreesAt w (fun b => ¬ S b) z.kids C) (h : WrAt w base g S L) (hb : base ≤ w.heap.size) (hp : w.cell? ⟨pb, 0, none⟩ = some (.pointer (some ⟨g, 0, none⟩))) (hnp : ¬ S pb) (hk1 : 1 ≤ z.kind) (hk9 : z.kind ≤ 9) (hW : WriteC z) (hl : L.length + z.write.length + 2 ≤ 90000000) (h1 : levelS z.kind < least) (h2 : ¬ 2 < least) (h3 : 0 < levelS z.kind) : Calls Tryz.prog 207 #[ndV z C cap, .int .i64 least, .pointer (some ⟨pb, 0, none⟩)] w (WrOut base g S w (L ++ (lexK 2 :: (z.write ++ [lexK 3])))) := by
 have hF1 := KFr.start #[.int .i64 z.kind, .int .u64 (word z.set.testBit 0), .int .u64 (word z.set.testBit 1), .int .u64 (word z.set.testBit 2), .int .u64 (word z.set.testBit 3), .slice C z.kids.len cap, .int .i64 z.lo, .int .i64 z.hi] h hb hp hnp
 have HL1 := Lib.hid (level_go z C cap (w.alloc (.cells #[.int .i64 z.kind, .int .u64 (word z.set.testBit 0), .int .u64 (word z.set.testBit 1), .int .u64 (word z.set.testBit 2), .int .u64 (word z.set.testBit 3), .slice C z.kids.len cap, .int .i64 z.lo, .int .i64 z.hi] 28)) hk1 hk9)
 have HLV := Lib.hid (fun (w' : World) => level_go z C cap w' hk1 hk9)
 have HF1 := Lib.hid hF1
 have HT := Lib.hid ht
 have HW := Lib.hid hW
 unfold ndV at HL1 HLV ⊢
 generalize levelS z.kind = lv at *
 clear hF1 ht hW h hp hnp hk1 hk9
 go_enter Tryz.func207, Tryz.ntmps207
 go_wp2_with fail
 refine HL1.out.mono ?_
 rintro e w2 ⟨rfl, hb2⟩
 have hF2 := HF1.out.below hb2
 have n0 := (hF2).x.cell 0
 have n1 := (hF2).x.cell 1
 have n2 := (hF2).x.cell 2
 have n3 := (hF2).x.cell 3
 have n4 := (hF2).x.cell 4
 have n5 := (hF2).x.cell 5
 have n6 := (hF2).x.cell 6
 have n7 := (hF2).x.cell 7
 have p0 := (hF2).p
 have hlx := (hF2).x.lt
 simp only [List.getElem?_toArray, List.getElem?_cons_zero, List.getElem?_cons_succ] at n0 n1 n2 n3 n4 n5 n6 n7
 have HF2 := Lib.hid hF2
 clear hF2 HF1 HL1 hb2
 dsimp only
 go_wp2_with fail
 refine (HLV.out _).mono ?_
 rintro e w3 ⟨rfl, hb3⟩
 have hF3 := HF2.out.below hb3
 clear n0 n1 n2 n3 n4 n5 n6 n7 p0 hlx
 have n0 := (hF3).x.cell 0
 have n1 := (hF3).x.cell 1
 have n2 := (hF3).x.cell 2
 have n3 := (hF3).x.cell 3
 have n4 := (hF3).x.cell 4
 have n5 := (hF3).x.cell 5
 have n6 := (hF3).x.cell 6
 have n7 := (hF3).x.cell 7
 have p0 := (hF3).p
 have hlx := (hF3).x.lt
 simp only [List.getElem?_toArray, List.getElem?_cons_zero, List.getElem?_cons_succ] at n0 n1 n2 n3 n4 n5 n6 n7
 have HF3 := Lib.hid hF3
 clear hF3 hb3 HF2
 dsimp only
 have HP := Lib.hid (wput_go base g S L 2 w3 (HF3).out.wr (HF3).out.size (by omega))
 go_wp2_with fail
 refine HP.out.mono ?_
 rintro e w4 ⟨rfl, S4, hm4, hv4⟩
 have hF4 := (HF3).out.go hm4 hv4
 clear n0 n1 n2 n3 n4 n5 n6 n7 p0 hlx
 have n0 := (hF4).x.cell 0
 have n1 := (hF4).x.cell 1
 have n2 := (hF4).x.cell 2
 have n3 := (hF4).x.cell 3
 have n4 := (hF4).x.cell 4
 have n5 := (hF4).x.cell 5
 have n6 := (hF4).x.cell 6
 have n7 := (hF4).x.cell 7
 have p0 := (hF4).p
 have hlx := (hF4).x.lt
 simp only [List.getElem?_toArray, List.getElem?_cons_zero, List.getElem?_cons_succ] at n0 n1 n2 n3 n4 n5 n6 n7
 have HF4 := Lib.hid hF4
 clear hF4 hm4 hv4 HP HF3
 dsimp only
 have HI := Lib.hid (HW.out C cap base g S4 (L ++ [lexK 2]) w4 (HT.out.movesW (HF4).out.mvs) (HF4).out.wr (HF4).out.size (by (try simp only [List.length_append, List.length_cons, List.length_nil]); omega))
 unfold ndV at HI
 go_wp2_with fail
 refine HI.out.mono ?_
 rintro e w5 ⟨rfl, S5, hm5, hv5⟩
 have hF5 := (HF4).out.go hm5 hv5
 clear n0 n1 n2 n3 n4 n5 n6 n7 p0 hlx
 have n0 := (hF5).x.cell 0
 have n1 := (hF5).x.cell 1
 have n2 := (hF5).x.cell 2
 have n3 := (hF5).x.cell 3
 have n4 := (hF5).x.cell 4
 have n5 := (hF5).x.cell 5
 have n6 := (hF5).x.cell 6
 have n7 := (hF5).x.cell 7
 have p0 := (hF5).p
 have hlx := (hF5).x.lt
 simp only [List.getElem?_toArray, List.getElem?_cons_zero, List.getElem?_cons_succ] at n0 n1 n2 n3 n4 n5 n6 n7
 have HF5 := Lib.hid hF5
 clear hF5 hm5 hv5 HI
 dsimp only
 have HP := Lib.hid (wput_go base g S5 (L ++ [lexK 2] ++ z.write) 3 w5 HF5.out.wr HF5.out.size (by (try simp only [List.length_append, List.length_cons, List.length_nil]); omega))
 go_wp2_with fail
 refine HP.out.mono ?_
 rintro e w6 ⟨rfl, S6, hm6, hv6⟩
 have HF6 := Lib.hid (HF5.out.go hm6 hv6)
 clear n0 n1 n2 n3 n4 n5 n6 n7 p0 hlx
 clear hm6 hv6 HP HF5
 dsimp only
 go_wp2
 go_light
 go_end0
 have e6 : L ++ (lexK 2 :: (z.write ++ [lexK 3])) = L ++ [lexK 2] ++ z.write ++ [lexK 3] := by simp
 rw [e6]
 exact ⟨rfl, S6, HF6.out.wr, HF6.out.mvs⟩
theorem kid_plainC (z : Nd) (C : Option Addr) (cap : Nat) (least : Int) (base g pb : Nat) (S : Nat → Prop) (L : List Lex) (w : World) (ht : TreesAt w (fun b => ¬ S b) z.kids C) (h : WrAt w base g S L) (hb : base ≤ w.heap.size) (hp : w.cell? ⟨pb, 0, none⟩ = some (.pointer (some ⟨g, 0, none⟩))) (hnp : ¬ S pb) (hk1 : 1 ≤ z.kind) (hk9 : z.kind ≤ 9) (hW : WriteC z) (hl : L.length + z.write.length ≤ 90000000) (h1 : ¬ levelS z.kind < least) : Calls Tryz.prog 207 #[ndV z C cap, .int .i64 least, .pointer (some ⟨pb, 0, none⟩)] w (WrOut base g S w (L ++ z.write)) := by
 have hF1 := KFr.start #[.int .i64 z.kind, .int .u64 (word z.set.testBit 0), .int .u64 (word z.set.testBit 1), .int .u64 (word z.set.testBit 2), .int .u64 (word z.set.testBit 3), .slice C z.kids.len cap, .int .i64 z.lo, .int .i64 z.hi] h hb hp hnp
 have HL1 := Lib.hid (level_go z C cap (w.alloc (.cells #[.int .i64 z.kind, .int .u64 (word z.set.testBit 0), .int .u64 (word z.set.testBit 1), .int .u64 (word z.set.testBit 2), .int .u64 (word z.set.testBit 3), .slice C z.kids.len cap, .int .i64 z.lo, .int .i64 z.hi] 28)) hk1 hk9)
 have HLV := Lib.hid (fun (w' : World) => level_go z C cap w' hk1 hk9)
 have HF1 := Lib.hid hF1
 have HT := Lib.hid ht
 have HW := Lib.hid hW
 unfold ndV at HL1 HLV ⊢
 generalize levelS z.kind = lv at *
 clear hF1 ht hW h hp hnp hk1 hk9
 go_enter Tryz.func207, Tryz.ntmps207
 go_wp2_with fail
 refine HL1.out.mono ?_
 rintro e w2 ⟨rfl, hb2⟩
 have hF2 := HF1.out.below hb2
 have n0 := (hF2).x.cell 0
 have n1 := (hF2).x.cell 1
 have n2 := (hF2).x.cell 2
 have n3 := (hF2).x.cell 3
 have n4 := (hF2).x.cell 4
 have n5 := (hF2).x.cell 5
 have n6 := (hF2).x.cell 6
 have n7 := (hF2).x.cell 7
 have p0 := (hF2).p
 have hlx := (hF2).x.lt
 simp only [List.getElem?_toArray, List.getElem?_cons_zero, List.getElem?_cons_succ] at n0 n1 n2 n3 n4 n5 n6 n7
 have HF2 := Lib.hid hF2
 clear hF2 HF1 HL1 hb2
 dsimp only
 have HI := Lib.hid (HW.out C cap base g S L w2 (HT.out.movesW (HF2).out.mvs) (HF2).out.wr (HF2).out.size (by (try simp only [List.length_append, List.length_cons, List.length_nil]); omega))
 unfold ndV at HI
 go_wp2_with fail
 refine HI.out.mono ?_
 rintro e w5 ⟨rfl, S5, hm5, hv5⟩
 have hF5 := (HF2).out.go hm5 hv5
 clear n0 n1 n2 n3 n4 n5 n6 n7 p0 hlx
 have n0 := (hF5).x.cell 0
 have n1 := (hF5).x.cell 1
 have n2 := (hF5).x.cell 2
 have n3 := (hF5).x.cell 3
 have n4 := (hF5).x.cell 4
 have n5 := (hF5).x.cell 5
 have n6 := (hF5).x.cell 6
 have n7 := (hF5).x.cell 7
 have p0 := (hF5).p
 have hlx := (hF5).x.lt
 simp only [List.getElem?_toArray, List.getElem?_cons_zero, List.getElem?_cons_succ] at n0 n1 n2 n3 n4 n5 n6 n7
 have HF5 := Lib.hid hF5
 clear hF5 hm5 hv5 HI
 dsimp only
 go_wp2
 go_light
 go_end0
 exact ⟨rfl, S5, HF5.out.wr, HF5.out.mvs⟩
theorem kid_plainD (z : Nd) (C : Option Addr) (cap : Nat) (least : Int) (base g pb : Nat) (S : Nat → Prop) (L : List Lex) (w : World) (ht : TreesAt w (fun b => ¬ S b) z.kids C) (h : WrAt w base g S L) (hb : base ≤ w.heap.size) (hp : w.cell? ⟨pb, 0, none⟩ = some (.pointer (some ⟨g, 0, none⟩))) (hnp : ¬ S pb) (hk1 : 1 ≤ z.kind) (hk9 : z.kind ≤ 9) (hW : WriteC z) (hl : L.length + z.write.length ≤ 90000000) (h1 : levelS z.kind < least) (h2 : ¬ 2 < least) (h3 : ¬ 0 < levelS z.kind) : Calls Tryz.prog 207 #[ndV z C cap, .int .i64 least, .pointer (some ⟨pb, 0, none⟩)] w (WrOut base g S w (L ++ z.write)) := by
 have hF1 := KFr.start #[.int .i64 z.kind, .int .u64 (word z.set.testBit 0), .int .u64 (word z.set.testBit 1), .int .u64 (word z.set.testBit 2), .int .u64 (word z.set.testBit 3), .slice C z.kids.len cap, .int .i64 z.lo, .int .i64 z.hi] h hb hp hnp
 have HL1 := Lib.hid (level_go z C cap (w.alloc (.cells #[.int .i64 z.kind, .int .u64 (word z.set.testBit 0), .int .u64 (word z.set.testBit 1), .int .u64 (word z.set.testBit 2), .int .u64 (word z.set.testBit 3), .slice C z.kids.len cap, .int .i64 z.lo, .int .i64 z.hi] 28)) hk1 hk9)
 have HLV := Lib.hid (fun (w' : World) => level_go z C cap w' hk1 hk9)
 have HF1 := Lib.hid hF1
 have HT := Lib.hid ht
 have HW := Lib.hid hW
 unfold ndV at HL1 HLV ⊢
 generalize levelS z.kind = lv at *
 clear hF1 ht hW h hp hnp hk1 hk9
 go_enter Tryz.func207, Tryz.ntmps207
 go_wp2_with fail
 refine HL1.out.mono ?_
 rintro e w2 ⟨rfl, hb2⟩
 have hF2 := HF1.out.below hb2
 have n0 := (hF2).x.cell 0
 have n1 := (hF2).x.cell 1
 have n2 := (hF2).x.cell 2
 have n3 := (hF2).x.cell 3
 have n4 := (hF2).x.cell 4
 have n5 := (hF2).x.cell 5
 have n6 := (hF2).x.cell 6
 have n7 := (hF2).x.cell 7
 have p0 := (hF2).p
 have hlx := (hF2).x.lt
 simp only [List.getElem?_toArray, List.getElem?_cons_zero, List.getElem?_cons_succ] at n0 n1 n2 n3 n4 n5 n6 n7
 have HF2 := Lib.hid hF2
 clear hF2 HF1 HL1 hb2
 dsimp only
 go_wp2_with fail
 refine (HLV.out _).mono ?_
 rintro e w3 ⟨rfl, hb3⟩
 have hF3 := HF2.out.below hb3
 clear n0 n1 n2 n3 n4 n5 n6 n7 p0 hlx
 have n0 := (hF3).x.cell 0
 have n1 := (hF3).x.cell 1
 have n2 := (hF3).x.cell 2
 have n3 := (hF3).x.cell 3
 have n4 := (hF3).x.cell 4
 have n5 := (hF3).x.cell 5
 have n6 := (hF3).x.cell 6
 have n7 := (hF3).x.cell 7
 have p0 := (hF3).p
 have hlx := (hF3).x.lt
 simp only [List.getElem?_toArray, List.getElem?_cons_zero, List.getElem?_cons_succ] at n0 n1 n2 n3 n4 n5 n6 n7
 have HF3 := Lib.hid hF3
 clear hF3 hb3 HF2
 dsimp only
 have HI := Lib.hid (HW.out C cap base g S L w3 (HT.out.movesW (HF3).out.mvs) (HF3).out.wr (HF3).out.size (by (try simp only [List.length_append, List.length_cons, List.length_nil]); omega))
 unfold ndV at HI
 go_wp2_with fail
 refine HI.out.mono ?_
 rintro e w5 ⟨rfl, S5, hm5, hv5⟩
 have hF5 := (HF3).out.go hm5 hv5
 clear n0 n1 n2 n3 n4 n5 n6 n7 p0 hlx
 have n0 := (hF5).x.cell 0
 have n1 := (hF5).x.cell 1
 have n2 := (hF5).x.cell 2
 have n3 := (hF5).x.cell 3
 have n4 := (hF5).x.cell 4
 have n5 := (hF5).x.cell 5
 have n6 := (hF5).x.cell 6
 have n7 := (hF5).x.cell 7
 have p0 := (hF5).p
 have hlx := (hF5).x.lt
 simp only [List.getElem?_toArray, List.getElem?_cons_zero, List.getElem?_cons_succ] at n0 n1 n2 n3 n4 n5 n6 n7
 have HF5 := Lib.hid hF5
 clear hF5 hm5 hv5 HI
 dsimp only
 go_wp2
 go_light
 go_end0
 exact ⟨rfl, S5, HF5.out.wr, HF5.out.mvs⟩
def leastS (p : Int) : Int := if p = 5 then 2 else 3
theorem kid_go (p : Int) (z : Nd) (C : Option Addr) (cap : Nat) (least : Int) (base g pb : Nat) (S : Nat → Prop) (L : List Lex) (w : World) (ht : TreesAt w (fun b => ¬ S b) z.kids C) (h : WrAt w base g S L) (hb : base ≤ w.heap.size) (hp : w.cell? ⟨pb, 0, none⟩ = some (.pointer (some ⟨g, 0, none⟩))) (hnp : ¬ S pb) (hk1 : 1 ≤ z.kind) (hk9 : z.kind ≤ 9) (hW : WriteC z) (hl : L.length + (kidS p (z.kind, z.write)).length ≤ 90000000) (hle : least = leastS p) : Calls Tryz.prog 207 #[ndV z C cap, .int .i64 least, .pointer (some ⟨pb, 0, none⟩)] w (WrOut base g S w (L ++ kidS p (z.kind, z.write))) := by
 have hlv : levelS z.kind = 0 ∧ z.kind = 2 ∨ levelS z.kind = 1 ∧ z.kind = 5 ∨ levelS z.kind = 2 ∧ z.kind = 4 ∨ levelS z.kind = 3 ∧ z.kind ≠ 2 ∧ z.kind ≠ 4 ∧ z.kind ≠ 5 := by
  unfold levelS
  repeat' split
  all_goals omega
 unfold leastS at hle
 unfold kidS at hl ⊢
 cases hb' : brS p z.kind with
 | true =>
  rw [if_pos rfl]
  rw [if_pos (show brS p (z.kind, z.write).1 = true from hb')] at hl
  simp only [List.length_cons, List.length_append, List.length_nil] at hl
  have hbr : z.kind = 5 ∨ p ≠ 5 ∧ (z.kind = 4 ∨ z.kind = 2) := by unfold brS at hb'; simpa using hb'
  split at hle
  ·exact kid_openB z C cap least base g pb S L w ht h hb hp hnp hk1 hk9 hW (by omega) (by omega) (by omega) (by omega)
  ·exact kid_openA z C cap least base g pb S L w ht h hb hp hnp hk1 hk9 hW (by omega) (by omega) (by omega)
 | false =>
  rw [if_neg (by decide)]
  rw [if_neg (show ¬ brS p (z.kind, z.write).1 = true from by rw [show brS p (z.kind, z.write).1 = false from hb']; decide)] at hl
  have hbr : z.kind ≠ 5 ∧ (p = 5 ∨ z.kind ≠ 4 ∧ z.kind ≠ 2) := by
   unfold brS at hb'
   simp at hb'
   refine ⟨hb'.1, ?_⟩
   by_cases hp5 : p = 5
   ·exact .inl hp5
   ·exact .inr (hb'.2 hp5)
  by_cases hlt : levelS z.kind < least
  ·split at hle
   ·exact kid_plainD z C cap least base g pb S L w ht h hb hp hnp hk1 hk9 hW hl hlt (by omega) (by omega)
   ·exact absurd hlt (by omega)
  ·exact kid_plainC z C cap least base g pb S L w ht h hb hp hnp hk1 hk9 hW hl hlt
theorem join_go (A : Option Addr) (cap : Nat) (L : List Lex) (w : World) (hA : LexsAt w w.heap.size A L) (hlen : L.length ≤ 1048576) (hT : TabAt 1 Lib.deBruijn64tab w) (hw0 : 1 < w.heap.size) :
  Calls Tryz.prog 133 #[.slice A L.length cap] w fun e w' => e = .returned (joinV L) ∧ Below w.heap.size w w' := by
 obtain ⟨i0, hi, hz0, hz1, hz2⟩ := info_parts byte_info
 have HA := Lib.hid hA
 have HT := Lib.hid hT
 clear hA hT
 go_enter Tryz.func133, Tryz.ntmps133
 go_wp2
 go_loopw [4, 9] (fun v i wr => ∃ k : Nat, i = .int .i64 (k : Int) ∧ k ≤ L.length ∧ Hid (wr.ownsRow w.heap.size 5 1 v (joinS (L.take k)).length ((joinS (L.take k)).map (fun n : Nat => Value.int .u8 (n : Int)))) ∧ Hid (Below w.heap.size w wr) ∧ Hid (∀ (j : Nat) x, j < k → L[j]? = some x → rightS x = true)) (fun _ i _ => L.length - (intOf i).toNat)
 case atStart => exact ⟨0, rfl, Nat.zero_le _, Lib.hid (World.ownsRow_nil _ _ _ _), Lib.hid (Below.refl _ _), Lib.hid (fun j x hj => by omega)⟩
 case round =>
  obtain ⟨k, rfl, hk, Hown, HB, HR⟩ := hrel
  by_cases hlt : k < L.length
  ·obtain ⟨x, hx⟩ : ∃ x, L[k]? = some x := ⟨_, List.getElem?_eq_getElem hlt⟩
   obtain ⟨b, o, rfl, hbl, hc⟩ := HA.out (by omega)
   have hbl' : b < wr.heap.size := Nat.lt_of_lt_of_le hbl HB.out.size
   obtain ⟨c0, c1, c2, c3, c4, c5, c6, c7⟩ := ((HA.out.below HB.out) (by omega)).elim fun b' h => h.elim fun o' h => by
    obtain ⟨e, _, h⟩ := h
    obtain ⟨rfl, rfl⟩ : b = b' ∧ o = o' := by simpa using e
    exact h k x hx
   clear hc
   have Hx := Lib.hid hx
   have hdl : (k : Int) < (L.length : Int) := by omega
   have Hbx := Lib.hid (Blk.new wr 139 #[.int .i64 x.kind, .int .i64 x.place, .int .u64 (word x.set 0), .int .u64 (word x.set 1), .int .u64 (word x.set 2), .int .u64 (word x.set 3), .int .i64 x.lo, .int .i64 x.hi])
   have HBx := Lib.hid (HB.out.alloc HB.out.size (.cells #[.int .i64 x.kind, .int .i64 x.place, .int .u64 (word x.set 0), .int .u64 (word x.set 1), .int .u64 (word x.set 2), .int .u64 (word x.set 3), .int .i64 x.lo, .int .i64 x.hi] 139))
   have Hownx := Lib.hid (Hown.out.alloc (.cells #[.int .i64 x.kind, .int .i64 x.place, .int .u64 (word x.set 0), .int .u64 (word x.set 1), .int .u64 (word x.set 2), .int .u64 (word x.set 3), .int .i64 x.lo, .int .i64 x.hi] 139))
   go_wp2_with fail
   refine (right_go _ _ _ _ _ _ _ _ _).mono ?_
   rintro e w1 ⟨rfl, hb1⟩
   change Hid _ at Hx
   have Hb1 := Lib.hid (Hbx.out.below hb1 Hbx.out.lt)
   have HB1 := Lib.hid (HBx.out.trans (hb1.mono HBx.out.size))
   have Hown1 := Lib.hid (own_below Hownx.out hb1)
   clear hb1 c0 c1 c2 c3 c4 c5 c6 c7
   cases hr : rightS x
   ·have hr' := hr
    unfold rightS at hr'
    rw [hr']
    have HV := Lib.hid (joinV_bad Hx.out hr)
    clear hr hr'
    go_wp2
    go_light
    go_ret2
    exact ⟨by rw [HV.out]; rfl, HB1.out⟩
   ·have hr' := hr
    unfold rightS at hr'
    rw [hr']
    have Hr := Lib.hid hr
    clear hr hr'
    have s0 := Hb1.out.cell 0
    have s1 := Hb1.out.cell 1
    have s2 := Hb1.out.cell 2
    have s3 := Hb1.out.cell 3
    have s4 := Hb1.out.cell 4
    have s5 := Hb1.out.cell 5
    have s6 := Hb1.out.cell 6
    have s7 := Hb1.out.cell 7
    simp at s0 s1 s2 s3 s4 s5 s6 s7
    go_wp2_with fail
    refine (text_go x _ Hr.out (TabAt.below HB1.out hw0 HT.out) (Nat.lt_of_lt_of_le hw0 HB1.out.size)).mono ?_
    rintro e w2 ⟨rfl, hb2⟩
    have HB2 := Lib.hid (HB1.out.trans (hb2.mono HB1.out.size))
    have Hown2 := Lib.hid (own_below Hown1.out hb2)
    clear hb2 s0 s1 s2 s3 s4 s5 s6 s7
    have l1 := joinS_len (L.take k)
    have l2 : (L.take k).length ≤ 1048576 := by rw [List.length_take]; omega
    have l3 := textS_len x
    have Hj := Lib.hid (joinS_take Hx.out)
    have Hs := Lib.hid (strCells_of (textS x) (textS_bytes Hr.out))
    have m1 : (joinS (L.take k)).length + (strOf (textS x)).size ≤ maxLen := by rw [strOf_size]; exact Nat.le_trans (by omega) (show 140737488355328 ≤ maxLen by decide)
    have m2 : (joinS (L.take k)).length + (strOf (textS x)).size ≤ 140737488355328 := by rw [strOf_size]; omega
    go_wp2_with (at_builtin; refine Lib.wpList_append_own_string _ rfl _ _ _ _ rfl w.heap.size 5 i0 Tryz.underlying30 Tryz.underlying9 hi hz0 hz1 hz2 _ _ _ rfl Hown2.out _ rfl m1 m2 HB2.out.size ?_; intro v' w3 hown3 hg3 _)
    have Hown3 : Hid (w3.ownsRow w.heap.size 5 1 v' (joinS (L.take (k + 1))).length ((joinS (L.take (k + 1))).map (fun n : Nat => Value.int .u8 (n : Int)))) := Lib.hid (by
     rw [Hs.out, strOf_size] at hown3
     rw [Hj.out, List.length_append, List.map_append]
     exact hown3)
    have HB3 := Lib.hid (below_grown HB2.out hg3 Hown2.out (Nat.le_refl _) HB2.out.size)
    clear hown3 hg3
    go_light
    go_roundw
    case rel => exact ⟨k + 1, by go_num, by omega, Hown3, HB3, Lib.hid (fun j y hj hy => by
     rcases Nat.lt_or_ge j k with h | h
     ·exact HR.out j y h hy
     ·obtain rfl : j = k := by omega
      rw [Hx.out] at hy
      cases hy
      exact Hr.out)⟩
    case measure => simp [intOf]; omega
  ·have hdl : ¬ (k : Int) < (L.length : Int) := by omega
   obtain rfl : k = L.length := by omega
   have HV := Lib.hid (joinV_ok (fun j x hx => HR.out j x (List.getElem?_eq_some_iff.mp hx).1 hx))
   have hown := Hown.out
   rw [List.take_length] at hown
   have hs := own_text hown
   clear hown
   go_wp2
   go_light
   go_ret2
   exact ⟨by rw [HV.out]; rfl, HB.out⟩
end Go.Proofs.YtfekpkelmliejaaGreatDoor
namespace Go.Proofs.YtfekpkelmliejaaGreatDoor
open Go.ChangeShapes Go.WideShapes Go.ChangeAt Go.RowKit
set_option linter.unusedSimpArgs false
set_option linter.unusedVariables false
set_option maxRecDepth 100000
set_option maxHeartbeats 8000000
theorem cellsNode : Tryz.prog.cellsOf 28 = 8 := by kernel_rfl
theorem cellsNodes : Tryz.prog.cellsOf 26 = 1 := by kernel_rfl
theorem cellsTKind : Tryz.prog.cellsOf 22 = 1 := by kernel_rfl
theorem set_words {n0 n1 n2 n3 : Nat} (h0 : n0 < 18446744073709551616) (h1 : n1 < 18446744073709551616) (h2 : n2 < 18446744073709551616) (h3 : n3 < 18446744073709551616) :
  ∃ s : Nat, word s.testBit 0 = n0 ∧ word s.testBit 1 = n1 ∧ word s.testBit 2 = n2 ∧ word s.testBit 3 = n3 := by
 obtain ⟨k0, k1, k2, k3⟩ := word_bitsOf h0 h1 h2 h3
 have h : ∀ i, i < 4 → word (ofBits (bitsOf n0 n1 n2 n3) 256).testBit i = word (bitsOf n0 n1 n2 n3) i := fun i hi => word_congr (fun j hj => by rw [testBit_ofBits]; simp; omega)
 exact ⟨ofBits (bitsOf n0 n1 n2 n3) 256, by rw [h 0 (by decide), k0], by rw [h 1 (by decide), k1], by rw [h 2 (by decide), k2], by rw [h 3 (by decide), k3]⟩
theorem bulkAll_mem {H : Type} : ∀ {ds : List (DataW H)} {d : DataW H}, d ∈ ds → Rows.uptoBulk d ≤ Rows.uptoBulkAll ds
 | e :: r, d, h => by
  rcases List.mem_cons.1 h with rfl | h
  ·simp [Rows.uptoBulkAll]
  ·have := bulkAll_mem h
   simp [Rows.uptoBulkAll]
   omega
section
variable {H : Type} {enc : TypeId × Value → H} {W : World}
def CameF (enc : TypeId × Value → H) (W : World) (fuel : Nat) : Prop := ∀ (A : Option Addr) (len cap : Nat) (y : DataW H × List MemPlace),
 DataW.trod enc Tryz.prog W 0 (fun _ => true) true fuel 26 [.slice A len cap] = some y → ∃ F : Trees, F.len = len ∧ TreesAt W (fun b => b < W.heap.size) F A ∧ len ≤ cap ∧ F.size ≤ Rows.uptoBulk y.1
theorem node_came {fuel : Nat} {cs : List Value} {y : DataW H × List MemPlace} (ih : ∀ n, n < fuel → CameF enc W n) (h : DataW.trod enc Tryz.prog W 0 (fun _ => true) true fuel 28 cs = some y) :
  ∃ (x : Nd) (B : Option Addr) (cap : Nat), cs = ndCell x B cap ∧ x.kids.len ≤ cap ∧ TreesAt W (fun b => b < W.heap.size) x.kids B ∧ x.size ≤ Rows.uptoBulk y.1 := by
 obtain ⟨xs, n, hfn, hy, hl, hxl, hf⟩ := DataW.trod_struct Tryz.underlying28 h
 rw [cellsNode] at hl
 obtain ⟨v0, v1, v2, v3, v4, v5, v6, v7, rfl⟩ : ∃ v0 v1 v2 v3 v4 v5 v6 v7, cs = [v0, v1, v2, v3, v4, v5, v6, v7] := by
  match cs, hl with
  | [a, b, c, d, e, f, g, h], _ => exact ⟨a, b, c, d, e, f, g, h, rfl⟩
 have g0 : DataW.trod enc Tryz.prog W 0 (fun _ => true) true n 22 (([v0, v1, v2, v3, v4, v5, v6, v7].drop 0).take (Tryz.prog.cellsOf 22)) = xs[0]? := hf 0 _ rfl
 have g1 : DataW.trod enc Tryz.prog W 0 (fun _ => true) true n 25 (([v0, v1, v2, v3, v4, v5, v6, v7].drop 1).take (Tryz.prog.cellsOf 25)) = xs[1]? := hf 1 _ rfl
 have g2 : DataW.trod enc Tryz.prog W 0 (fun _ => true) true n 26 (([v0, v1, v2, v3, v4, v5, v6, v7].drop 5).take (Tryz.prog.cellsOf 26)) = xs[2]? := hf 2 _ rfl
 have g3 : DataW.trod enc Tryz.prog W 0 (fun _ => true) true n 3 (([v0, v1, v2, v3, v4, v5, v6, v7].drop 6).take (Tryz.prog.cellsOf 3)) = xs[3]? := hf 3 _ rfl
 have g4 : DataW.trod enc Tryz.prog W 0 (fun _ => true) true n 3 (([v0, v1, v2, v3, v4, v5, v6, v7].drop 7).take (Tryz.prog.cellsOf 3)) = xs[4]? := hf 4 _ rfl
 have hs : ∀ i, i < 5 → ∃ z, xs[i]? = some z := fun i hi => ⟨_, List.getElem?_eq_getElem (by rw [hxl]; exact hi)⟩
 obtain ⟨z0, e0⟩ := hs 0 (by decide)
 obtain ⟨z1, e1⟩ := hs 1 (by decide)
 obtain ⟨z2, e2⟩ := hs 2 (by decide)
 obtain ⟨z3, e3⟩ := hs 3 (by decide)
 obtain ⟨z4, e4⟩ := hs 4 (by decide)
 rw [e0] at g0
 rw [e1] at g1
 rw [e2] at g2
 rw [e3] at g3
 rw [e4] at g4
 rw [cellsTKind] at g0
 rw [cellsInt] at g3 g4
 rw [cellsNodes] at g2
 rw [cellsSet] at g1
 obtain ⟨a0, q0, _, _⟩ := DataW.trod_int Tryz.underlying22 g0
 obtain ⟨a3, q3, _, _⟩ := DataW.trod_int Tryz.underlying3 g3
 obtain ⟨a4, q4, _, _⟩ := DataW.trod_int Tryz.underlying3 g4
 obtain ⟨us, m, _, _, _, hul, hu⟩ := DataW.trod_array Tryz.underlying25 g1
 have ht : ∀ i, i < 4 → ∃ z, us[i]? = some z := fun i hi => ⟨_, List.getElem?_eq_getElem (by rw [hul]; exact hi)⟩
 have u0 := hu 0 (by decide)
 have u1 := hu 1 (by decide)
 have u2 := hu 2 (by decide)
 have u3 := hu 3 (by decide)
 obtain ⟨t0, f0⟩ := ht 0 (by decide)
 obtain ⟨t1, f1⟩ := ht 1 (by decide)
 obtain ⟨t2, f2⟩ := ht 2 (by decide)
 obtain ⟨t3, f3⟩ := ht 3 (by decide)
 rw [f0, cellsWord] at u0
 rw [f1, cellsWord] at u1
 rw [f2, cellsWord] at u2
 rw [f3, cellsWord] at u3
 obtain ⟨b0, r0, _, w0⟩ := DataW.trod_int Tryz.underlying23 u0
 obtain ⟨b1, r1, _, w1⟩ := DataW.trod_int Tryz.underlying23 u1
 obtain ⟨b2, r2, _, w2⟩ := DataW.trod_int Tryz.underlying23 u2
 obtain ⟨b3, r3, _, w3⟩ := DataW.trod_int Tryz.underlying23 u3
 have hv5 : ∃ A len cap, v5 = .slice A len cap := by
  rcases DataW.trod_slice Tryz.underlying26 g2 with ⟨hcs, _⟩ | ⟨a, l, c, _, _, _, _, hcs, _⟩
  ·simp at hcs; exact ⟨_, _, _, hcs⟩
  ·simp at hcs; exact ⟨_, _, _, hcs⟩
 obtain ⟨A, len, cap, rfl⟩ := hv5
 obtain ⟨F, hF1, hF2, hF3, hF4⟩ := ih n (by omega) A len cap z2 (by simpa using g2)
 simp at q0 q3 q4 r0 r1 r2 r3
 subst q0 q3 q4 r0 r1 r2 r3
 obtain ⟨s0, s0'⟩ := u64_of_wf w0
 obtain ⟨s1, s1'⟩ := u64_of_wf w1
 obtain ⟨s2, s2'⟩ := u64_of_wf w2
 obtain ⟨s3, s3'⟩ := u64_of_wf w3
 obtain ⟨n0, rfl⟩ := Int.eq_ofNat_of_zero_le s0
 obtain ⟨n1, rfl⟩ := Int.eq_ofNat_of_zero_le s1
 obtain ⟨n2, rfl⟩ := Int.eq_ofNat_of_zero_le s2
 obtain ⟨n3, rfl⟩ := Int.eq_ofNat_of_zero_le s3
 obtain ⟨s, k0, k1, k2, k3⟩ := set_words (n0 := n0) (n1 := n1) (n2 := n2) (n3 := n3) (by omega) (by omega) (by omega) (by omega)
 have hb : Rows.uptoBulk z2.1 ≤ Rows.uptoBulkAll (xs.map (·.1)) := bulkAll_mem (List.mem_map.2 ⟨z2, List.mem_of_getElem? e2, rfl⟩)
 refine ⟨⟨a0, s, F, a3, a4⟩, A, cap, by unfold ndCell; simp only; rw [k0, k1, k2, k3, hF1], by simpa only [hF1] using hF3, hF2, ?_⟩
 rw [hy]
 unfold Nd.size
 simp only [Rows.uptoBulk]
 omega
theorem bulk_sum {H : Type} : ∀ (es : List (DataW H)) (l : List Nat), es.length = l.length → (∀ (i : Nat) (d : DataW H) (k : Nat), es[i]? = some d → l[i]? = some k → k ≤ Rows.uptoBulk d) → l.sum ≤ Rows.uptoBulkAll es
 | [], [], _, _ => by simp
 | [], _ :: _, h, _ => by simp at h
 | _ :: _, [], h, _ => by simp at h
 | d :: es, k :: l, h, hk => by
  have h1 := bulk_sum es l (by simpa using h) (fun i d k h1 h2 => hk (i + 1) d k (by simpa using h1) (by simpa using h2))
  have h2 := hk 0 d k rfl rfl
  simp only [Rows.uptoBulkAll, List.sum_cons]
  omega
theorem size_sum (l : List Nd) : (Trees.of l).size = (l.map Nd.size).sum := by
 induction l with
 | nil => rfl
 | cons x l ih => rw [Trees.of, Trees.size, ih, List.map_cons, List.sum_cons]; rfl
theorem slice_came (fuel : Nat) (ih : ∀ n, n < fuel → CameF enc W n) : CameF enc W fuel := by
 intro A len cap y h
 rcases DataW.trod_slice Tryz.underlying26 h with ⟨hcs, hd⟩ | ⟨a, l, c, elems, rest, n, hfn, hcs, hd, hb, hlc, hm, hel, hc, _, _⟩
 ·simp at hcs
  obtain ⟨rfl, rfl, rfl⟩ := hcs
  exact ⟨.nil, rfl, trivial, Nat.le_refl _, Nat.zero_le _⟩
 ·simp at hcs
  obtain ⟨rfl, rfl, rfl⟩ := hcs
  rw [cellsNode] at hc
  have hx : ∀ i, i < len → ∃ (x : Nd) (B : Option Addr) (capx : Nat) (cs : List Value) (e : DataW H × List MemPlace), elems[i]? = some e ∧ W.cells? 0 (a.add (i * 8)) 8 = some cs ∧ cs = ndCell x B capx ∧ x.kids.len ≤ capx ∧ TreesAt W (fun b => b < W.heap.size) x.kids B ∧ x.size ≤ Rows.uptoBulk e.1 := by
   intro i hi
   have h1 := hc i hi
   rw [List.getElem?_eq_getElem (by omega)] at h1
   obtain ⟨cs, h2, h3⟩ := Option.bind_eq_some_iff.1 h1
   obtain ⟨x, B, capx, k1, k2, k3, k4⟩ := node_came (fun m hm => ih m (by omega)) h3
   exact ⟨x, B, capx, cs, _, List.getElem?_eq_getElem (by omega), h2, k1, k2, k3, k4⟩
  classical
  let f : Nat → Nd := fun i => if hi : i < len then Classical.choose (hx i hi) else ⟨0, 0, .nil, 0, 0⟩
  have hf2 : ∀ i (hi : i < len), f i = Classical.choose (hx i hi) := fun i hi => dif_pos hi
  have hspec : ∀ i (hi : i < len), ∃ (B : Option Addr) (capx : Nat) (cs : List Value) (e : DataW H × List MemPlace), elems[i]? = some e ∧ W.cells? 0 (a.add (i * 8)) 8 = some cs ∧ cs = ndCell (f i) B capx ∧ (f i).kids.len ≤ capx ∧ TreesAt W (fun b => b < W.heap.size) (f i).kids B ∧ (f i).size ≤ Rows.uptoBulk e.1 := fun i hi => by
   have := Classical.choose_spec (hx i hi)
   rw [← hf2 i hi] at this
   exact this
  have hget : ∀ i, i < len → ((List.range len).map f)[i]? = some (f i) := fun i hi => by rw [List.getElem?_map, List.getElem?_range hi]; rfl
  refine ⟨Trees.of ((List.range len).map f), by rw [Trees.len_of]; simp, ?_, hlc, ?_⟩
  ·rcases Nat.eq_zero_or_pos len with rfl | hpos
   ·exact TreesAt.nilAt (by rw [Trees.len_of]; simp)
   obtain ⟨bl, off, spot⟩ := a
   obtain ⟨B0, c0, cs0, z0, _, hcs0, hx0, _⟩ := hspec 0 hpos
   obtain ⟨_, _, hcell0⟩ := World.cells?_some hcs0
   have h00 := hcell0 0 (by decide)
   rw [hx0] at h00
   have hspot : spot = none := by
    have := World.cell?_spot (v := .int .i64 (f 0).kind) (by simpa [ndCell] using h00)
    simpa [Addr.add] using this
   subst hspot
   refine TreesAt.mk ?_ (fun i x hxi => ?_)
   ·have := World.block_lt_of_cell? W _ (u := .int .i64 (f 0).kind) (by simpa [ndCell] using h00)
    simpa [addr_add] using this
   ·rw [Trees.list_of] at hxi
    have hi : i < len := by
     have := (List.getElem?_eq_some_iff.mp hxi).1
     simpa using this
    rw [hget i hi] at hxi
    obtain rfl := Option.some.inj hxi
    obtain ⟨B, capx, cs, e, _, h1, h2, h3, h4, _⟩ := hspec i hi
    obtain ⟨_, _, h5⟩ := World.cells?_some h1
    rw [h2] at h5
    have g : ∀ j u, j < 8 → (ndCell (f i) B capx)[j]? = some u → W.cell? ⟨bl, off + i * 8 + j, none⟩ = some u := fun j u hj hu => by
     have := h5 j hj
     rw [addr_add, addr_add, hu] at this
     exact this
    exact ⟨B, capx, h3, ⟨g 0 _ (by decide) rfl, g 1 _ (by decide) rfl, g 2 _ (by decide) rfl, g 3 _ (by decide) rfl, g 4 _ (by decide) rfl, g 5 _ (by decide) rfl, g 6 _ (by decide) rfl, g 7 _ (by decide) rfl⟩, h4⟩
  ·rw [hd, size_sum]
   simp only [Rows.uptoBulk]
   have := bulk_sum (elems.map (·.1)) (((List.range len).map f).map Nd.size) (by simpa using hel) (fun i d k h1 h2 => by
    have hi : i < len := by
     have := (List.getElem?_eq_some_iff.mp h2).1
     simpa using this
    rw [List.getElem?_map, hget i hi] at h2
    obtain rfl := Option.some.inj h2
    obtain ⟨B, capx, cs, e, he, _, _, _, _, h6⟩ := hspec i hi
    rw [List.getElem?_map, he] at h1
    obtain rfl := Option.some.inj h1
    exact h6)
   omega
theorem came_all : ∀ fuel, CameF enc W fuel := fun fuel => by
 induction fuel using Nat.strongRecOn with
 | _ n ih => exact slice_came n ih
end
end Go.Proofs.YtfekpkelmliejaaGreatDoor
namespace Go.Proofs.YtfekpkelmliejaaGreatDoor
open Go.ChangeShapes Go.WideShapes Go.ChangeAt Go.RowKit Go.Shelf
set_option linter.unusedSimpArgs false
set_option linter.unusedVariables false
set_option maxRecDepth 100000
set_option maxHeartbeats 8000000
theorem gTab : Tryz.prog.globalNamed "math/bits.deBruijn64tab" = some 1 := by kernel_rfl
theorem gTabType : (Tryz.prog.globals[1]?).map (·.type) = some 230 := by kernel_rfl
theorem cellsTab : Tryz.prog.cellsOf 230 = 64 := by kernel_rfl
theorem table_at {W : World} (h : laidMetH Tryz.prog [("math/bits.deBruijn64tab", Rows.laid_math_bits_deBruijn64tab)] W) : TabAt 1 Lib.deBruijn64tab W := by
 have ht : Lib.TabIs Tryz.prog W "math/bits.deBruijn64tab" .u8 (Lib.deBruijn64tab.map fun n : Nat => (n : Int)) :=
  Lib.tabIs_of_head (rest := []) gTab gTabType Tryz.underlying230 Tryz.underlying5 cellsByte cellsTab h
 intro j hj
 have hc := ht.cell gTab j (by simpa using hj)
 rw [hc]
 simp [List.getD_eq_getElem?_getD, hj]
noncomputable def tabWorld (os : Os) : World :=
 { World.holding Tryz.prog os ⟨#[], #[], []⟩ with heap := (World.holding Tryz.prog os ⟨#[], #[], []⟩).heap.modify 1 fun
   | .cells _ t frozen => .cells (Lib.deBruijn64tab.map fun n : Nat => Value.int .u8 (n : Int)).toArray t frozen
   | o => o }
end Go.Proofs.YtfekpkelmliejaaGreatDoor
namespace Go.Proofs.YtfekpkelmliejaaGreatDoor
set_option linter.unusedSimpArgs false
set_option linter.unusedVariables false
set_option maxRecDepth 100000
set_option maxHeartbeats 8000000
def isNameA (c : Nat) : Bool := c == 95 || decide (97 ≤ c) && decide (c ≤ 122) || decide (65 ≤ c) && decide (c ≤ 90)
def isNameB (c : Nat) : Bool := isNameA c || isDig c
def runS : List Nat → Nat
 | [] => 0
 | c :: l => if isNameA c = true then (l.takeWhile isNameB).length + 1 else 0
theorem runS_nil : runS [] = 0 := rfl
theorem runS_cons (c : Nat) (l : List Nat) : runS (c :: l) = if isNameA c = true then (l.takeWhile isNameB).length + 1 else 0 := rfl
def nameAt (bs : List Nat) (i : Nat) : Bool := if i = 0 then isNameA (byteAt bs 0) else isNameB (byteAt bs i)
theorem runS_le (bs : List Nat) : runS bs ≤ bs.length := by
 cases bs with
 | nil => exact Nat.le_refl _
 | cons c l =>
  rw [runS_cons]
  split
  ·have := (List.takeWhile_prefix (p := isNameB) (l := l)).length_le
   simp
   omega
  ·simp
theorem runS_more {bs : List Nat} {i : Nat} (hi : i ≤ runS bs) (hl : i < bs.length) (h : nameAt bs i = true) : i + 1 ≤ runS bs := by
 cases bs with
 | nil => simp at hl
 | cons c l =>
  unfold nameAt at h
  rw [runS_cons] at hi ⊢
  cases i with
  | zero =>
   have h0 : isNameA c = true := by simpa [byteAt] using h
   rw [if_pos h0]
   omega
  | succ i =>
   by_cases h0 : isNameA c = true
   ·rw [if_pos h0] at hi ⊢
    have hl' : i < l.length := by simpa using hl
    have h1 : isNameB l[i] = true := by
     rw [if_neg (by omega)] at h
     rw [← byteAt_get (by simpa using hl)] at h
     simpa using h
    have := takeWhile_more l i (by omega) hl' h1
    omega
   ·rw [if_neg h0] at hi
    omega
theorem runS_stop {bs : List Nat} {i : Nat} (hi : i ≤ runS bs) (h : bs.length ≤ i ∨ nameAt bs i = false) : runS bs = i := by
 rcases h with h | h
 ·have := runS_le bs
  omega
 ·cases bs with
  | nil => rw [runS_nil] at hi ⊢; omega
  | cons c l =>
   unfold nameAt at h
   rw [runS_cons] at hi ⊢
   cases i with
   | zero =>
    have h0 : ¬ isNameA c = true := by simpa [byteAt] using h
    rw [if_neg h0]
   | succ i =>
    by_cases h0 : isNameA c = true
    ·rw [if_pos h0] at hi ⊢
     rcases Nat.lt_or_ge i l.length with hl' | hl'
     ·have h1 : isNameB l[i] = false := by
       rw [if_neg (by omega)] at h
       rw [← byteAt_get (show i + 1 < (c :: l).length by simpa using hl')] at h
       simpa using h
      rw [takeWhile_stop l i (by omega) hl' h1]
     ·have := (List.takeWhile_prefix (p := isNameB) (l := l)).length_le
      omega
    ·rw [if_neg h0] at hi
     omega
structure RuleS where
 name : List Nat
 body : Nd
def headS (rs : List RuleS) (line : List Nat) : Except Wrong (List Nat) :=
 if rs.length = 64 then .error (18, 0)
 else if runS line = 0 then .error (9, 0)
 else if 32 < runS line then .error (9, 32)
 else if runS line = line.length ∨ byteAt line (runS line) ≠ 58 then .error (10, (runS line : Nat))
 else if (rs.any fun r => decide (r.name = line.take (runS line))) = true then .error (8, 0)
 else .ok (line.take (runS line))
def lineS (rs : List RuleS) (line : List Nat) : Except Wrong RuleS :=
 match headS rs line with
 | .error e => .error e
 | .ok n => match parseS (line.drop (n.length + 1)) with
  | .error (k, q) => .error (k, q + n.length + 1)
  | .ok x => .ok ⟨n, x⟩
def lineAt (bs : List Nat) (i : Nat) : List Nat := (bs.drop i).takeWhile (fun c => !(c == 10))
def rulesF (bs : List Nat) : Nat → Nat → List RuleS → Except Wrong (List RuleS)
 | 0, _, _ => .error (0, 0)
 | f + 1, i, rs => if bs.length ≤ i then .ok rs
  else if lineAt bs i = [] ∨ byteAt bs i = 35 then rulesF bs f (i + (lineAt bs i).length + 1) rs
  else match lineS rs (lineAt bs i) with
   | .error (k, q) => .error (k, q + i)
   | .ok r => rulesF bs f (i + (lineAt bs i).length + 1) (rs ++ [r])
def rulesS (bs : List Nat) : Except Wrong (List RuleS) := if 65536 < bs.length then .error (4, 65536) else rulesF bs (bs.length + 1) 0 []
end Go.Proofs.YtfekpkelmliejaaGreatDoor
