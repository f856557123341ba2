/- Texts of the claim. -/
import Derived.Lib.AppendStr
import Derived.Deep.Onto
import Derived.Test.YtofbfafnpdaejaaGreatDoorJZ03
import Derived.Test.YtofbfafnpdaejaaGreatDoorJRShow
import Derived.Test.YtofbfafnpdaejaaGreatDoorJZ01
import Derived.Test.YtofbfafnpdaejaaGreatDoorJShow
import Derived.Test.YtofbfafnpdaejaaGreatDoorJZ02
import Derived.Test.YtofbfafnpdaejaaGreatDoorJSame
import Derived.Test.YtofbfafnpdaejaaGreatDoorJEscCl
set_option linter.all false
set_option maxRecDepth 100000
set_option maxHeartbeats 8000000
namespace Go.Proofs.YtofbfafnpdaejaaGreatDoor
section
open Go.RowKit
def repT (lo hi : Int) : List Nat := [123] ++ (decS lo.toNat ++ ((if hi < 0 then [44] else if lo < hi then 44 :: decS hi.toNat else []) ++ [125]))
theorem repT_open (lo hi : Int) (h : hi < 0) : repT lo hi = [123] ++ (decS lo.toNat ++ ([44] ++ [125])) := by unfold repT; rw [if_pos h]
theorem repT_two (lo hi : Int) (h : ¬ hi < 0) (h2 : lo < hi) : repT lo hi = [123] ++ (decS lo.toNat ++ (([44] ++ decS hi.toNat) ++ [125])) := by unfold repT; rw [if_neg h, if_pos h2]; rfl
theorem repT_one (lo hi : Int) (h : ¬ hi < 0) (h2 : ¬ lo < hi) : repT lo hi = [123] ++ (decS lo.toNat ++ [125]) := by unfold repT; rw [if_neg h, if_neg h2]; rfl
theorem repT_len (lo hi : Int) : (repT lo hi).length ≤ 11 := by
 unfold repT
 have := decS_len lo.toNat
 have := decS_len hi.toNat
 split
 ·simp; omega
 ·split <;> simp <;> omega
def sameSet (p q : Nat → Bool) : Bool := ((word p 0 : Nat) : Int) == ((word q 0 : Nat) : Int) && ((word p 1 : Nat) : Int) == ((word q 1 : Nat) : Int) && ((word p 2 : Nat) : Int) == ((word q 2 : Nat) : Int) && ((word p 3 : Nat) : Int) == ((word q 3 : Nat) : Int)
def setT (p : Nat → Bool) : List Nat := if (elems p 256).length = 1 then litS ((elems p 256).headD 0) else if sameSet p dotSet = true then [46] else showS p
def textS (x : Lex) : List Nat :=
 if x.kind = 1 then setT x.set else if x.kind = 8 then repT x.lo x.hi
 else if x.kind = 2 then [40] else if x.kind = 3 then [41] else if x.kind = 4 then [124] else if x.kind = 5 then [42] else if x.kind = 6 then [43] else [63]
theorem setT_len (p : Nat → Bool) : (setT p).length ≤ 2400 := by
 unfold setT
 split
 ·have := litS_len ((elems p 256).headD 0); omega
 ·split
  ·simp
  ·exact showS_len p
theorem textS_len (x : Lex) : (textS x).length ≤ 2400 := by
 unfold textS
 split
 ·exact setT_len _
 ·split
  ·have := repT_len x.lo x.hi; omega
  ·repeat' split
   all_goals simp
theorem litS_bytes (c : Nat) (hc : c < 256) : ∀ x ∈ litS c, x < 256 := by
 intro x hx
 unfold litS at hx
 split at hx
 ·simp at hx; omega
 ·split at hx
  ·simp at hx; omega
  ·exact (chr_head c hc).2.2.2.2 x hx
theorem decS_bytes (n : Nat) (h : n < 10000) : ∀ x ∈ decS n, 48 ≤ x ∧ x ≤ 57 := by
 intro x hx
 unfold decS at hx
 split at hx
 ·simp at hx; omega
 ·split at hx
  ·simp at hx; omega
  ·split at hx
   ·simp at hx; omega
   ·simp at hx; omega
theorem str_open (a : List Nat) : (((⟨#[123]⟩ : ByteArray) ++ strOf a) ++ ⟨#[44]⟩) ++ ⟨#[125]⟩ = strOf ([123] ++ (a ++ ([44] ++ [125]))) := by
 show ((strOf [123] ++ strOf a) ++ strOf [44]) ++ strOf [125] = _
 simp only [strOf_append, List.append_assoc]
theorem str_onerep (a : List Nat) : ((⟨#[123]⟩ : ByteArray) ++ strOf a) ++ ⟨#[125]⟩ = strOf ([123] ++ (a ++ [125])) := by
 show (strOf [123] ++ strOf a) ++ strOf [125] = _
 simp only [strOf_append, List.append_assoc]
theorem str_tworep (a b : List Nat) : (((⟨#[123]⟩ : ByteArray) ++ strOf a) ++ ((⟨#[44]⟩ : ByteArray) ++ strOf b)) ++ ⟨#[125]⟩ = strOf ([123] ++ (a ++ (([44] ++ b) ++ [125]))) := by
 show ((strOf [123] ++ strOf a) ++ (strOf [44] ++ strOf b)) ++ strOf [125] = _
 simp only [strOf_append, List.append_assoc]
theorem rept_go (lo hi : Int) (w : World) (h0 : 0 ≤ lo) (h1 : lo ≤ 1000) (h2 : hi = -1 ∨ lo ≤ hi ∧ hi ≤ 1000) :
  Calls Tryz.prog 210 #[.int .i64 lo, .int .i64 hi] w fun e w' => e = .returned (.string (strOf (repT lo hi))) ∧ Below w.heap.size w w' := by
 obtain ⟨n, rfl⟩ := Int.eq_ofNat_of_zero_le h0
 have H1 := Lib.hid (fun w => shown_go n w (by omega))
 have l1 := decS_len n
 by_cases hh : hi < 0
 ·have HV := Lib.hid ((str_open (decS n)).trans (congrArg strOf (repT_open n hi hh).symm))
  go_enter Tryz.func210, Tryz.ntmps210
  go_wp2_with fail
  refine (H1.out _).mono ?_
  rintro e w1 ⟨rfl, hb1⟩
  go_wp2
  go_light
  go_ret
  exact ⟨by rw [← HV.out]; rfl, hb1⟩
 obtain ⟨m, rfl⟩ := Int.eq_ofNat_of_zero_le (show 0 ≤ hi by omega)
 have H2 := Lib.hid (fun w => shown_go m w (by omega))
 have l2 := decS_len m
 by_cases hlt : (n : Int) < (m : Int)
 ·have HV := Lib.hid ((str_tworep (decS n) (decS m)).trans (congrArg strOf (repT_two n m hh hlt).symm))
  go_enter Tryz.func210, Tryz.ntmps210
  go_wp2_with fail
  refine (H1.out _).mono ?_
  rintro e w1 ⟨rfl, hb1⟩
  have HB1 := Lib.hid hb1
  clear hb1
  go_wp2_with fail
  refine (H2.out _).mono ?_
  rintro e w2 ⟨rfl, hb2⟩
  have HB2 := Lib.hid (HB1.out.trans (hb2.mono HB1.out.size))
  clear hb2
  go_wp2
  go_light
  go_ret
  exact ⟨by rw [← HV.out]; rfl, HB2.out⟩
 ·have HV := Lib.hid ((str_onerep (decS n)).trans (congrArg strOf (repT_one n m hh hlt).symm))
  go_enter Tryz.func210, Tryz.ntmps210
  go_wp2_with fail
  refine (H1.out _).mono ?_
  rintro e w1 ⟨rfl, hb1⟩
  go_wp2
  go_light
  go_ret
  exact ⟨by rw [← HV.out]; rfl, hb1⟩
theorem lexset_below {w w' : World} {g : Nat} {t : TypeId} {a b c d e f u v : Value} (h : Blk w g t #[a, b, c, d, e, f, u, v]) (hb : Below w.heap.size w w') :
  w'.cell? ⟨g, 2, none⟩ = some c ∧ w'.cell? ⟨g, 2 + 1, none⟩ = some d ∧ w'.cell? ⟨g, 2 + 2, none⟩ = some e ∧ w'.cell? ⟨g, 2 + 3, none⟩ = some f :=
 have h := h.below hb h.lt
 ⟨h.cell 2, h.cell 3, h.cell 4, h.cell 5⟩
theorem text_setJ (p : Nat → Bool) (pl lo hi : Int) (w : World) (hT : TabAt 0 Lib.deBruijn64tab w) (hw0 : 0 < w.heap.size) :
  Calls Tryz.prog 163 #[.agg #[.int .i64 1, .int .i64 pl, .int .u64 (word p 0), .int .u64 (word p 1), .int .u64 (word p 2), .int .u64 (word p 3), .int .i64 lo, .int .i64 hi]] w fun e w' => e = .returned (.string (strOf (setT p))) ∧ Below w.heap.size w w' := by
 have hb0 := (Below.refl w.heap.size w).alloc (Nat.le_refl _) (.cells #[.int .i64 1, .int .i64 pl, .int .u64 (word p 0), .int .u64 (word p 1), .int .u64 (word p 2), .int .u64 (word p 3), .int .i64 lo, .int .i64 hi] 143)
 have hx0 := Blk.new w 143 #[.int .i64 1, .int .i64 pl, .int .u64 (word p 0), .int .u64 (word p 1), .int .u64 (word p 2), .int .u64 (word p 3), .int .i64 lo, .int .i64 hi]
 have HT := Lib.hid hT
 have HB0 := Lib.hid hb0
 have HX0 := Lib.hid hx0
 clear hb0 hx0 hT
 have hcn := cnt_elems p 256
 by_cases h1 : (elems p 256).length = 1
 ·obtain ⟨c, hc⟩ := List.length_eq_one_iff.1 h1
  have hc256 : c < 256 := elems_lt (m := 256) (p := p) (by rw [hc]; simp)
  have HV : Hid (setT p = litS c) := Lib.hid (by unfold setT; rw [if_pos h1, hc]; rfl)
  have HN : Hid (((cnt p 256 : Nat) : Int) = 1) := Lib.hid (by omega)
  have HL := Lib.hid (fun w => least_go p c hc w)
  rw [HV.out]
  clear hc h1 hcn
  go_enter Tryz.func163, Tryz.ntmps163
  go_wp2_with fail
  refine (count_go p _).mono ?_
  rintro e w1 ⟨rfl, hb1⟩
  rw [HN.out]
  have HB1 := Lib.hid (HB0.out.trans (hb1.mono HB0.out.size))
  have hx1 := HX0.out.below hb1 HX0.out.lt
  have HX1 := Lib.hid hx1
  have s2 := hx1.cell 2
  have s3 := hx1.cell 3
  have s4 := hx1.cell 4
  have s5 := hx1.cell 5
  clear hb1 hx1
  simp at s2 s3 s4 s5
  go_wp2_with fail
  refine (HL.out _ (TabAt.below HB1.out hw0 HT.out) (Nat.lt_of_lt_of_le hw0 HB1.out.size)).mono ?_
  rintro e w2 ⟨rfl, hb2⟩
  have HB2 := Lib.hid (HB1.out.trans (hb2.mono HB1.out.size))
  clear hb2
  go_wp2_with fail
  refine (lit_go c _ hc256).mono ?_
  rintro e w3 ⟨rfl, hb3⟩
  have HB3 := Lib.hid (HB2.out.trans (hb3.mono HB2.out.size))
  clear hb3
  go_wp2
  go_light
  go_ret
  exact ⟨rfl, HB3.out⟩
 ·have HN : Hid ((((cnt p 256 : Nat) : Int) == 1) = false) := Lib.hid (by simp; omega)
  have hn256 : cnt p 256 ≤ 256 := by rw [hcn]; exact elems_len p 256
  cases hd : sameSet p dotSet
  ·have HV : Hid (setT p = showS p) := Lib.hid (by unfold setT; rw [if_neg h1, hd]; rfl)
   unfold sameSet at hd
   rw [HV.out]
   clear h1 hcn
   go_enter Tryz.func163, Tryz.ntmps163
   go_wp2_with fail
   refine (count_go p _).mono ?_
   rintro e w1 ⟨rfl, hb1⟩
   have hn := HN.out
   generalize ((cnt p 256 : Nat) : Int) = N at *
   have HB1 := Lib.hid (HB0.out.trans (hb1.mono HB0.out.size))
   have hx1 := HX0.out.below hb1 HX0.out.lt
   have HX1 := Lib.hid hx1
   have s2 := hx1.cell 2
   have s3 := hx1.cell 3
   have s4 := hx1.cell 4
   have s5 := hx1.cell 5
   clear hb1 hx1
   simp at s2 s3 s4 s5
   go_wp2
   go_region_with (go_at_call 195; refine (dot_go _).mono ?_; rintro e w2 ⟨rfl, hb2⟩; obtain ⟨t2, t3, t4, t5⟩ := lexset_below HX1.out.drew hb2; have HB2 := Lib.hid (HB1.out.drew.trans (hb2.mono HB1.out.size)); clear hb2)
   all_goals go_wp2_with (go_at_call 209; refine (show_go p _ (TabAt.below HB2.out hw0 HT.out) (Nat.lt_of_lt_of_le hw0 HB2.out.size)).mono ?_; rintro e w3 ⟨rfl, hb3⟩)
   all_goals go_light
   all_goals go_ret
   all_goals exact ⟨rfl, HB2.out.trans (hb3.mono HB2.out.size)⟩
  ·have HV : Hid (setT p = [46]) := Lib.hid (by unfold setT; rw [if_neg h1, if_pos hd])
   unfold sameSet at hd
   rw [HV.out]
   clear h1 hcn
   go_enter Tryz.func163, Tryz.ntmps163
   go_wp2_with fail
   refine (count_go p _).mono ?_
   rintro e w1 ⟨rfl, hb1⟩
   have hn := HN.out
   generalize ((cnt p 256 : Nat) : Int) = N at *
   have HB1 := Lib.hid (HB0.out.trans (hb1.mono HB0.out.size))
   have hx1 := HX0.out.below hb1 HX0.out.lt
   have HX1 := Lib.hid hx1
   have s2 := hx1.cell 2
   have s3 := hx1.cell 3
   have s4 := hx1.cell 4
   have s5 := hx1.cell 5
   clear hb1 hx1
   simp at s2 s3 s4 s5
   go_wp2
   go_region_with (go_at_call 195; refine (dot_go _).mono ?_; rintro e w2 ⟨rfl, hb2⟩; obtain ⟨t2, t3, t4, t5⟩ := lexset_below HX1.out.drew hb2; have HB2 := Lib.hid (HB1.out.drew.trans (hb2.mono HB1.out.size)); clear hb2)
   all_goals go_wp2
   all_goals go_light
   all_goals go_ret
   all_goals exact ⟨rfl, HB2.out⟩
theorem text_rep (p : Nat → Bool) (pl lo hi : Int) (w : World) (h0 : 0 ≤ lo) (h1 : lo ≤ 1000) (h2 : hi = -1 ∨ lo ≤ hi ∧ hi ≤ 1000) :
  Calls Tryz.prog 163 #[.agg #[.int .i64 8, .int .i64 pl, .int .u64 (word p 0), .int .u64 (word p 1), .int .u64 (word p 2), .int .u64 (word p 3), .int .i64 lo, .int .i64 hi]] w fun e w' => e = .returned (.string (strOf (repT lo hi))) ∧ Below w.heap.size w w' := by
 have H := Lib.hid (fun w => rept_go lo hi w h0 h1 h2)
 clear h0 h1 h2
 go_enter Tryz.func163, Tryz.ntmps163
 go_wp2_with fail
 have HB0 := Lib.hid ((Below.refl w.heap.size w).alloc (Nat.le_refl _) (.cells #[.int .i64 8, .int .i64 pl, .int .u64 (word p 0), .int .u64 (word p 1), .int .u64 (word p 2), .int .u64 (word p 3), .int .i64 lo, .int .i64 hi] 143))
 refine (H.out _).mono ?_
 rintro e w1 ⟨rfl, hb1⟩
 have HB1 := Lib.hid (HB0.out.trans (hb1.mono HB0.out.size))
 clear hb1
 go_wp2
 go_light
 go_ret
 exact ⟨rfl, HB1.out⟩
theorem text_signJ (p : Nat → Bool) (k pl lo hi : Int) (w : World) (h0 : 2 ≤ k) (h1 : k ≤ 7) :
  Calls Tryz.prog 163 #[.agg #[.int .i64 k, .int .i64 pl, .int .u64 (word p 0), .int .u64 (word p 1), .int .u64 (word p 2), .int .u64 (word p 3), .int .i64 lo, .int .i64 hi]] w fun e w' => e = .returned (.string (strOf (textS ⟨k, pl, p, lo, hi⟩))) ∧ Below w.heap.size w w' := by
 by_cases e2 : k = 2
 ·subst e2
  go_enter Tryz.func163, Tryz.ntmps163
  go_wp2
  go_light
  go_ret
  exact ⟨rfl, (Below.refl w.heap.size w).alloc (Nat.le_refl _) _⟩
 by_cases e3 : k = 3
 ·subst e3
  go_enter Tryz.func163, Tryz.ntmps163
  go_wp2
  go_light
  go_ret
  exact ⟨rfl, (Below.refl w.heap.size w).alloc (Nat.le_refl _) _⟩
 by_cases e4 : k = 4
 ·subst e4
  go_enter Tryz.func163, Tryz.ntmps163
  go_wp2
  go_light
  go_ret
  exact ⟨rfl, (Below.refl w.heap.size w).alloc (Nat.le_refl _) _⟩
 by_cases e5 : k = 5
 ·subst e5
  go_enter Tryz.func163, Tryz.ntmps163
  go_wp2
  go_light
  go_ret
  exact ⟨rfl, (Below.refl w.heap.size w).alloc (Nat.le_refl _) _⟩
 by_cases e6 : k = 6
 ·subst e6
  go_enter Tryz.func163, Tryz.ntmps163
  go_wp2
  go_light
  go_ret
  exact ⟨rfl, (Below.refl w.heap.size w).alloc (Nat.le_refl _) _⟩
 by_cases e7 : k = 7
 ·subst e7
  go_enter Tryz.func163, Tryz.ntmps163
  go_wp2
  go_light
  go_ret
  exact ⟨rfl, (Below.refl w.heap.size w).alloc (Nat.le_refl _) _⟩
 exact absurd h0 (by omega)
def lexValJ (x : Lex) : Value := .agg #[.int .i64 x.kind, .int .i64 x.place, .int .u64 (word x.set 0), .int .u64 (word x.set 1), .int .u64 (word x.set 2), .int .u64 (word x.set 3), .int .i64 x.lo, .int .i64 x.hi]
theorem text_go (x : Lex) (w : World) (hr : rightS x = true) (hT : TabAt 0 Lib.deBruijn64tab w) (hw0 : 0 < w.heap.size) :
  Calls Tryz.prog 163 #[lexValJ x] w fun e w' => e = .returned (.string (strOf (textS x))) ∧ Below w.heap.size w w' := by
 obtain ⟨_, h | h | h⟩ := rightS_cases hr
 ·obtain ⟨k, pl, p, lo, hi⟩ := x
  dsimp only at h
  obtain ⟨rfl, _, _⟩ := h
  exact text_setJ p pl lo hi w hT hw0
 ·obtain ⟨k, pl, p, lo, hi⟩ := x
  dsimp only at h
  obtain ⟨rfl, h1, h2, h3, _⟩ := h
  exact text_rep p pl lo hi w h1 h2 h3
 ·obtain ⟨k, pl, p, lo, hi⟩ := x
  dsimp only at h
  exact text_signJ p k pl lo hi w h.1 h.2.1
@[go_sem] theorem run_str1_next (w : World) (o : Obj) (c : Nat) : (convert 29 9 (.slice (some ⟨w.heap.size + 1, 0, none⟩) 1 1)).run Tryz.prog ((w.alloc o).alloc (.cells #[.int .u8 (c : Int)] 5)) =
  .ok (.string (strOf [c])) ((w.alloc o).alloc (.cells #[.int .u8 (c : Int)] 5)) := by
 have h := run_str1 (w.alloc o) c
 rw [World.size_alloc] at h
 exact h
def joinS (L : List Lex) : List Nat := L.flatMap textS
theorem joinS_len : ∀ (L : List Lex), (joinS L).length ≤ L.length * 2400
 | [] => by simp [joinS]
 | x :: L => by
  have h1 := textS_len x
  have h2 := joinS_len L
  unfold joinS at h2 ⊢
  rw [List.flatMap_cons, List.length_append, List.length_cons]
  omega
theorem joinS_take {L : List Lex} {k : Nat} {x : Lex} (h : L[k]? = some x) : joinS (L.take (k + 1)) = joinS (L.take k) ++ textS x := by
 unfold joinS
 rw [List.take_add_one, h]
 simp
def joinV (L : List Lex) : Value := if L.all rightS = true then .tuple #[.string (strOf (joinS L)), .int .i64 0] else .tuple #[.string ⟨#[]⟩, .int .i64 6]
theorem joinV_bad {L : List Lex} {k : Nat} {x : Lex} (h : L[k]? = some x) (hx : rightS x = false) : joinV L = .tuple #[.string ⟨#[]⟩, .int .i64 6] := by
 refine if_neg fun ha => ?_
 have := List.all_eq_true.1 ha x (List.mem_of_getElem? h)
 rw [hx] at this
 cases this
theorem joinV_ok {L : List Lex} (h : ∀ (k : Nat) x, L[k]? = some x → rightS x = true) : joinV L = .tuple #[.string (strOf (joinS L)), .int .i64 0] := by
 refine if_pos (List.all_eq_true.2 fun x hx => ?_)
 obtain ⟨k, hk, rfl⟩ := List.mem_iff_getElem.1 hx
 exact h k _ (List.getElem?_eq_getElem hk)
theorem showS_bytes' (p : Nat → Bool) : ∀ x ∈ showS p, x < 256 := by
 have hp : ∀ l : List (Nat × Nat), (∀ x ∈ l, x.1 ≤ x.2 ∧ x.2 < 256) → ∀ y ∈ piecesS l, y < 256 := by
  intro l
  induction l with
  | nil => intro _ y hy; simp [piecesS] at hy
  | cons x l ih =>
   intro hl y hy
   have hx := hl x (by simp)
   rw [piecesS_cons] at hy
   rcases List.mem_append.1 hy with hy | hy
   ·unfold pieceS at hy
    rcases List.mem_append.1 hy with hy | hy
    ·exact (chr_head x.1 (by omega)).2.2.2.2 y hy
    ·rcases List.mem_append.1 hy with hy | hy
     ·split at hy
      ·simp at hy; omega
      ·simp at hy
     ·split at hy
      ·exact (chr_head x.2 hx.2).2.2.2.2 y hy
      ·simp at hy
   ·exact ih (fun z hz => hl z (by simp [hz])) y hy
 intro x hx
 unfold showS at hx
 split at hx
 ·simp only [List.mem_append, List.mem_cons, List.not_mem_nil, or_false] at hx
  rcases hx with (h | h) | h | h
  ·omega
  ·omega
  ·exact hp _ (cutsOf_in _) x h
  ·omega
 ·simp only [List.mem_append, List.mem_cons, List.not_mem_nil, or_false] at hx
  rcases hx with h | h | h
  ·omega
  ·exact hp _ (cutsOf_in _) x h
  ·omega
theorem setT_bytes (p : Nat → Bool) : ∀ x ∈ setT p, x < 256 := by
 unfold setT
 split
 ·rename_i h
  obtain ⟨c, hc⟩ := List.length_eq_one_iff.1 h
  rw [hc]
  exact litS_bytes c (elems_lt (m := 256) (p := p) (by rw [hc]; simp))
 ·split
  ·simp
  ·exact showS_bytes' p
theorem repT_bytes {lo hi : Int} (h1 : lo ≤ 1000) (h2 : hi ≤ 1000) : ∀ x ∈ repT lo hi, x < 256 := by
 intro x hx
 unfold repT at hx
 have d1 := decS_bytes lo.toNat (by omega)
 have d2 := decS_bytes hi.toNat (by omega)
 simp only [List.mem_append, List.mem_cons, List.not_mem_nil, or_false] at hx
 rcases hx with h | h | h | h
 ·omega
 ·have := d1 x h; omega
 ·split at h
  ·simp at h; omega
  ·split at h
   ·rcases List.mem_cons.1 h with h | h
    ·omega
    ·have := d2 x h; omega
   ·cases h
 ·omega
theorem textS_bytes {x : Lex} (h : rightS x = true) : ∀ y ∈ textS x, y < 256 := by
 obtain ⟨_, h | h | h⟩ := rightS_cases h
 ·unfold textS
  rw [if_pos h.1]
  exact setT_bytes _
 ·unfold textS
  rw [if_neg (by omega), if_pos h.1]
  exact repT_bytes (by omega) (by omega)
 ·unfold textS
  rw [if_neg (by omega), if_neg (by omega)]
  repeat' split
  all_goals simp
theorem strCells_of (t : List Nat) (h : ∀ x ∈ t, x < 256) : Lib.strCells (strOf t) = t.map (fun c : Nat => Value.int .u8 (c : Int)) := by
 unfold Lib.strCells strOf
 simp only [List.map_map]
 apply List.map_congr_left
 intro x hx
 have := h x hx
 simp
 omega
theorem own_text {w : World} {base : Nat} {v : Value} {ns : List Nat} (h : w.ownsRow base 5 1 v ns.length (ns.map (fun n : Nat => Value.int .u8 (n : Int)))) :
  (convert 29 9 v).run Tryz.prog w = .ok (.string (strOf ns)) w := by
 rcases h.2 with ⟨rfl, h0⟩ | ⟨g, cap, cur, hv, hb, hh, _⟩
 ·have : ns = [] := List.length_eq_zero_iff.1 h0
  subst this
  rw [run_convert_bytes_string w _ _ 5 none _ _ Tryz.underlying29 Tryz.underlying5 Tryz.underlying9]
  rfl
 ·subst hv
  exact run_str w ⟨g, 0, none⟩ cap ns (h.cells (g := g) rfl)
theorem join_go (A : Option Addr) (cap : Nat) (L : List Lex) (w : World) (hA : LexsAt w w.heap.size A L) (hlen : L.length ≤ 1048576) (hT : TabAt 0 Lib.deBruijn64tab w) (hw0 : 0 < w.heap.size) :
  Calls Tryz.prog 125 #[.slice A L.length cap] w fun e w' => e = .returned (joinV L) ∧ Below w.heap.size w w' := by
 obtain ⟨i0, hi, hz0, hz1, hz2⟩ := info_parts byte_info
 have HA := Lib.hid hA
 have HT := Lib.hid hT
 clear hA hT
 go_enter Tryz.func125, Tryz.ntmps125
 go_wp2
 go_loopw [4, 9] (fun v i wr => ∃ k : Nat, i = .int .i64 (k : Int) ∧ k ≤ L.length ∧ Hid (wr.ownsRow w.heap.size 5 1 v (joinS (L.take k)).length ((joinS (L.take k)).map (fun n : Nat => Value.int .u8 (n : Int)))) ∧ Hid (Below w.heap.size w wr) ∧ Hid (∀ (j : Nat) x, j < k → L[j]? = some x → rightS x = true)) (fun _ i _ => L.length - (intOf i).toNat)
 case atStart => exact ⟨0, rfl, Nat.zero_le _, Lib.hid (World.ownsRow_nil _ _ _ _), Lib.hid (Below.refl _ _), Lib.hid (fun j x hj => by omega)⟩
 case round =>
  obtain ⟨k, rfl, hk, Hown, HB, HR⟩ := hrel
  by_cases hlt : k < L.length
  ·obtain ⟨x, hx⟩ : ∃ x, L[k]? = some x := ⟨_, List.getElem?_eq_getElem hlt⟩
   obtain ⟨b, o, rfl, hbl, hc⟩ := HA.out (by omega)
   have hbl' : b < wr.heap.size := Nat.lt_of_lt_of_le hbl HB.out.size
   obtain ⟨c0, c1, c2, c3, c4, c5, c6, c7⟩ := ((HA.out.below HB.out) (by omega)).elim fun b' h => h.elim fun o' h => by
    obtain ⟨e, _, h⟩ := h
    obtain ⟨rfl, rfl⟩ : b = b' ∧ o = o' := by simpa using e
    exact h k x hx
   clear hc
   have Hx := Lib.hid hx
   have hdl : (k : Int) < (L.length : Int) := by omega
   have Hbx := Lib.hid (Blk.new wr 143 #[.int .i64 x.kind, .int .i64 x.place, .int .u64 (word x.set 0), .int .u64 (word x.set 1), .int .u64 (word x.set 2), .int .u64 (word x.set 3), .int .i64 x.lo, .int .i64 x.hi])
   have HBx := Lib.hid (HB.out.alloc HB.out.size (.cells #[.int .i64 x.kind, .int .i64 x.place, .int .u64 (word x.set 0), .int .u64 (word x.set 1), .int .u64 (word x.set 2), .int .u64 (word x.set 3), .int .i64 x.lo, .int .i64 x.hi] 143))
   have Hownx := Lib.hid (Hown.out.alloc (.cells #[.int .i64 x.kind, .int .i64 x.place, .int .u64 (word x.set 0), .int .u64 (word x.set 1), .int .u64 (word x.set 2), .int .u64 (word x.set 3), .int .i64 x.lo, .int .i64 x.hi] 143))
   go_wp2_with fail
   refine (right_go _ _ _ _ _ _ _ _ _).mono ?_
   rintro e w1 ⟨rfl, hb1⟩
   change Hid _ at Hx
   have Hb1 := Lib.hid (Hbx.out.below hb1 Hbx.out.lt)
   have HB1 := Lib.hid (HBx.out.trans (hb1.mono HBx.out.size))
   have Hown1 := Lib.hid (own_below Hownx.out hb1)
   clear hb1 c0 c1 c2 c3 c4 c5 c6 c7
   cases hr : rightS x
   ·have hr' := hr
    unfold rightS at hr'
    rw [hr']
    have HV := Lib.hid (joinV_bad Hx.out hr)
    clear hr hr'
    go_wp2
    go_light
    go_ret2
    exact ⟨by rw [HV.out]; rfl, HB1.out⟩
   ·have hr' := hr
    unfold rightS at hr'
    rw [hr']
    have Hr := Lib.hid hr
    clear hr hr'
    have s0 := Hb1.out.cell 0
    have s1 := Hb1.out.cell 1
    have s2 := Hb1.out.cell 2
    have s3 := Hb1.out.cell 3
    have s4 := Hb1.out.cell 4
    have s5 := Hb1.out.cell 5
    have s6 := Hb1.out.cell 6
    have s7 := Hb1.out.cell 7
    simp at s0 s1 s2 s3 s4 s5 s6 s7
    go_wp2_with fail
    refine (text_go x _ Hr.out (TabAt.below HB1.out hw0 HT.out) (Nat.lt_of_lt_of_le hw0 HB1.out.size)).mono ?_
    rintro e w2 ⟨rfl, hb2⟩
    have HB2 := Lib.hid (HB1.out.trans (hb2.mono HB1.out.size))
    have Hown2 := Lib.hid (own_below Hown1.out hb2)
    clear hb2 s0 s1 s2 s3 s4 s5 s6 s7
    have l1 := joinS_len (L.take k)
    have l2 : (L.take k).length ≤ 1048576 := by rw [List.length_take]; omega
    have l3 := textS_len x
    have Hj := Lib.hid (joinS_take Hx.out)
    have Hs := Lib.hid (strCells_of (textS x) (textS_bytes Hr.out))
    have m1 : (joinS (L.take k)).length + (strOf (textS x)).size ≤ maxLen := by rw [strOf_size]; exact Nat.le_trans (by omega) (show 140737488355328 ≤ maxLen by decide)
    have m2 : (joinS (L.take k)).length + (strOf (textS x)).size ≤ 140737488355328 := by rw [strOf_size]; omega
    go_wp2_with (at_builtin; refine Lib.wpList_append_own_string _ rfl _ _ _ _ rfl w.heap.size 5 i0 Tryz.underlying29 Tryz.underlying9 hi hz0 hz1 hz2 _ _ _ rfl Hown2.out _ rfl m1 m2 HB2.out.size ?_; intro v' w3 hown3 hg3 _)
    have Hown3 : Hid (w3.ownsRow w.heap.size 5 1 v' (joinS (L.take (k + 1))).length ((joinS (L.take (k + 1))).map (fun n : Nat => Value.int .u8 (n : Int)))) := Lib.hid (by
     rw [Hs.out, strOf_size] at hown3
     rw [Hj.out, List.length_append, List.map_append]
     exact hown3)
    have HB3 := Lib.hid (below_grown HB2.out hg3 Hown2.out (Nat.le_refl _) HB2.out.size)
    clear hown3 hg3
    go_light
    go_roundw
    case rel => exact ⟨k + 1, by go_num, by omega, Hown3, HB3, Lib.hid (fun j y hj hy => by
     rcases Nat.lt_or_ge j k with h | h
     ·exact HR.out j y h hy
     ·obtain rfl : j = k := by omega
      rw [Hx.out] at hy
      cases hy
      exact Hr.out)⟩
    case measure => simp [intOf]; omega
  ·have hdl : ¬ (k : Int) < (L.length : Int) := by omega
   obtain rfl : k = L.length := by omega
   have HV := Lib.hid (joinV_ok (fun j x hx => HR.out j x (List.getElem?_eq_some_iff.mp hx).1 hx))
   have hown := Hown.out
   rw [List.take_length] at hown
   have hs := own_text hown
   clear hown
   go_wp2
   go_light
   go_ret2
   exact ⟨by rw [HV.out]; rfl, HB.out⟩
structure Ctx (N S T I b o cap : Nat) (bs : List Nat) (i : Nat) (v : Value) (L : List Lex) (W0 : World) (j : Nat) (W : World) : Prop where
 hT : W.cell? ⟨T, 0, none⟩ = some (.pointer (some ⟨S, 0, none⟩))
 hI : Blk W I 3 #[.int .i64 (j : Int)]
 hS : Spl W S b o bs.length cap i v 0 0
 hrow : W.ownsRow N 143 8 v L.length (lexCells L)
 hA : BytesAt W N (some ⟨b, o, none⟩) bs
 hB : Below N W0 W
 hNS : N ≤ S
 hNI : N ≤ I
 hTI : T ≠ I
 hSI : S ≠ I
 hcap : bs.length ≤ cap
section
variable {N S T I b o cap : Nat} {bs : List Nat} {i : Nat} {v : Value} {L : List Lex} {W0 : World} {j : Nat} {W W' : World}
theorem Ctx.drewN (h : Ctx N S T I b o cap bs i v L W0 j W) (n : Nat) : Ctx N S T I b o cap bs i v L W0 j (W.drewN n) :=
 ⟨h.hT, h.hI, h.hS, h.hrow, h.hA, bel_drewN h.hB n, h.hNS, h.hNI, h.hTI, h.hSI, h.hcap⟩
theorem Ctx.below (h : Ctx N S T I b o cap bs i v L W0 j W) (hb : Below W.heap.size W W') : Ctx N S T I b o cap bs i v L W0 j W' :=
  ⟨(hb.cell (p := ⟨T, 0, none⟩) (World.block_lt_of_cell? W _ h.hT)).trans h.hT, h.hI.below hb h.hI.lt, Blk.below h.hS hb (Blk.lt h.hS), own_below h.hrow hb, h.hA.below (hb.mono (Nat.le_of_lt (Nat.lt_of_le_of_lt h.hNS (Blk.lt h.hS)))),
    h.hB.trans (hb.mono (Nat.le_of_lt (Nat.lt_of_le_of_lt h.hNS (Blk.lt h.hS)))), h.hNS, h.hNI, h.hTI, h.hSI, h.hcap⟩
theorem Ctx.set_ (h : Ctx N S T I b o cap bs i v L W0 j W) (m : Nat) : Ctx N S T I b o cap bs i v L W0 m (W.setCell ⟨I, 0, none⟩ (.int .i64 (m : Int))) :=
  ⟨(World.cell?_setCell_other W _ _ _ (fun e => h.hTI (by simpa using (congrArg Addr.block e).symm))).trans h.hT, h.hI.set_ 0 _, Blk.far h.hS (p := ⟨I, 0, none⟩) h.hSI _, own_set h.hrow (blk_not_row h.hI (by decide) h.hrow),
    h.hA.below ((Below.refl N W).setCell (p := ⟨I, 0, none⟩) h.hNI _), h.hB.setCell (p := ⟨I, 0, none⟩) h.hNI _, h.hNS, h.hNI, h.hTI, h.hSI, h.hcap⟩
theorem Ctx.facts (h : Ctx N S T I b o cap bs i v L W0 j W) : W.cell? ⟨T, 0, none⟩ = some (.pointer (some ⟨S, 0, none⟩)) ∧ W.cell? ⟨I, 0, none⟩ = some (.int .i64 (j : Int)) ∧ W.cell? ⟨S, 0, none⟩ = some (.slice (some ⟨b, o, none⟩) bs.length cap) ∧ W.frozen? ⟨I, 0, none⟩ = false ∧
  T < W.heap.size ∧ I < W.heap.size ∧ S < W.heap.size ∧ N ≤ W.heap.size :=
 ⟨h.hT, h.hI.cell 0, (Spl.cells h.hS).1, h.hI.frozen 0, World.block_lt_of_cell? W _ h.hT, h.hI.lt, Blk.lt h.hS, Nat.le_of_lt (Nat.lt_of_le_of_lt h.hNS (Blk.lt h.hS))⟩
end
def Kept (N S T I b o cap : Nat) (bs : List Nat) (i : Nat) (u : Value) (L : List Lex) (W0 : World) (j : Nat) (v : Value) (e : Ending) (W' : World) : Prop := e = .returned v ∧ Ctx N S T I b o cap bs i u L W0 j W'
theorem here_yes {N S T I b o cap : Nat} {bs : List Nat} {i : Nat} {v : Value} {L : List Lex} {W0 : World} {j : Nat} {W : World} (h : Ctx N S T I b o cap bs i v L W0 j W) (c : Nat) (hj : j < bs.length) :
  Calls Tryz.prog 230 #[.int .u8 (c : Int), .pointer (some ⟨I, 0, none⟩), .pointer (some ⟨T, 0, none⟩)] W (Kept N S T I b o cap bs i v L W0 j (.bool (hasAt bs j c))) := by
 obtain ⟨c0, c1, c2, f1, l0, l1, l2, _⟩ := h.facts
 have hcell := bytesAt_cells h.hA j hj
 have hl := h.hA.2.1
 have HK := Lib.hid h
 have Hh := Lib.hid (hasAt_in c hj)
 clear h
 generalize byteAt bs j = d at *
 have hd : decide (j < bs.length) = true := by simp; omega
 have hd2 : (j : Int) < (bs.length : Int) := by omega
 go_enter Tryz.func230, Tryz.ntmps230
 go_wp2
 go_quiet (fail)
 go_wp2
 go_light
 go_ret
 refine ⟨ret_b ?_, HK.out.drewN _⟩
 rw [Hh.out]
 rw [Bool.eq_iff_iff]
 simp
 omega
theorem here_end {N S T I b o cap : Nat} {bs : List Nat} {i : Nat} {v : Value} {L : List Lex} {W0 : World} {j : Nat} {W : World} (h : Ctx N S T I b o cap bs i v L W0 j W) (c : Nat) (hj : bs.length ≤ j) :
  Calls Tryz.prog 230 #[.int .u8 (c : Int), .pointer (some ⟨I, 0, none⟩), .pointer (some ⟨T, 0, none⟩)] W (Kept N S T I b o cap bs i v L W0 j (.bool (hasAt bs j c))) := by
 obtain ⟨c0, c1, c2, f1, l0, l1, l2, _⟩ := h.facts
 have hl := h.hA.2.1
 have HK := Lib.hid h
 have Hh := Lib.hid (hasAt_out (bs := bs) (i := (j : Int)) c (by omega))
 clear h
 have hd : decide (j < bs.length) = false := by simp; omega
 go_enter Tryz.func230, Tryz.ntmps230
 go_wp2
 go_quiet (fail)
 go_wp2
 go_light
 go_ret
 exact ⟨ret_b (by rw [Hh.out]), HK.out.drewN _⟩
theorem sphere_go {N S T I b o cap : Nat} {bs : List Nat} {i : Nat} {v : Value} {L : List Lex} {W0 : World} {j : Nat} {W : World} (h : Ctx N S T I b o cap bs i v L W0 j W) (c : Nat) :
  Calls Tryz.prog 230 #[.int .u8 (c : Int), .pointer (some ⟨I, 0, none⟩), .pointer (some ⟨T, 0, none⟩)] W (Kept N S T I b o cap bs i v L W0 j (.bool (hasAt bs j c))) := by
 rcases Nat.lt_or_ge j bs.length with hj | hj
 ·exact here_yes h c hj
 ·exact here_end h c hj
theorem num_yes {N S T I b o cap : Nat} {bs : List Nat} {i : Nat} {v : Value} {L : List Lex} {W0 : World} {j : Nat} {W : World} (h : Ctx N S T I b o cap bs i v L W0 j W) (hj : j ≤ bs.length) {n m : Nat} (ht : takeS bs j = some (n, m)) :
  Calls Tryz.prog 228 #[.pointer (some ⟨T, 0, none⟩), .pointer (some ⟨I, 0, none⟩)] W (Kept N S T I b o cap bs i v L W0 m (.tuple #[.int .i64 (n : Int), .bool true])) := by
 have Hv := Lib.hid (show takeVal bs j = .tuple #[.int .i64 (n : Int), .int .i64 (m : Int), .int .i64 0] by unfold takeVal; rw [ht])
 clear ht
 obtain ⟨c0, c1, c2, f1, l0, l1, l2, l3⟩ := h.facts
 have hl := h.hA.2.1
 have HK := Lib.hid h
 have HE := Lib.hid (fun w hA => take_at b o cap bs j w hA h.hcap hj)
 clear h
 go_enter Tryz.func228, Tryz.ntmps228
 go_wp2_with fail
 go_region_held3 (fun w' => (∀ b o, b < W.heap.size → w'.cell? ⟨b, o, none⟩ = W.cell? ⟨b, o, none⟩) ∧ Since W.heap.size W w') (first | (with_reducible exact HK2.out) | (with_reducible exact since_start (Nat.le_refl _)))
  (first | (go_at_call 229; refine (HE.out _ (bytes_since (by assumption) HK.out.hA l3)).mono ?_; rintro e w' ⟨rfl, hb'⟩; rw [Hv.out]; have hK := since_step (by assumption) hb'; have HK2 := Lib.hid hK; clear hK))
 have HC := Lib.hid (HK.out.below HK2.out.2.1)
 obtain ⟨k0, k1, k2, g1, _, _, _, _⟩ := HC.out.facts
 go_wp2
 go_light
 go_ret2
 exact ⟨rfl, HC.out.set_ m⟩
theorem num_no {N S T I b o cap : Nat} {bs : List Nat} {i : Nat} {v : Value} {L : List Lex} {W0 : World} {j : Nat} {W : World} (h : Ctx N S T I b o cap bs i v L W0 j W) (hj : j ≤ bs.length) (ht : takeS bs j = none) :
  Calls Tryz.prog 228 #[.pointer (some ⟨T, 0, none⟩), .pointer (some ⟨I, 0, none⟩)] W (Kept N S T I b o cap bs i v L W0 j (.tuple #[.int .i64 0, .bool false])) := by
 have Hv := Lib.hid (show takeVal bs j = .tuple #[.int .i64 0, .int .i64 0, .int .i64 (takeErr bs j)] by unfold takeVal; rw [ht])
 have hk := takeErr_pos bs j
 generalize takeErr bs j = k at *
 have hk0 : (k != 0) = true := by rw [bne_iff_ne]; omega
 clear ht hk
 obtain ⟨c0, c1, c2, f1, l0, l1, l2, l3⟩ := h.facts
 have hl := h.hA.2.1
 have HK := Lib.hid h
 have HE := Lib.hid (fun w hA => take_at b o cap bs j w hA h.hcap hj)
 clear h
 go_enter Tryz.func228, Tryz.ntmps228
 go_wp2_with fail
 go_region_held3 (fun w' => (∀ b o, b < W.heap.size → w'.cell? ⟨b, o, none⟩ = W.cell? ⟨b, o, none⟩) ∧ Since W.heap.size W w') (first | (with_reducible exact HK2.out) | (with_reducible exact since_start (Nat.le_refl _)))
  (first | (go_at_call 229; refine (HE.out _ (bytes_since (by assumption) HK.out.hA l3)).mono ?_; rintro e w' ⟨rfl, hb'⟩; rw [Hv.out]; have hK := since_step (by assumption) hb'; have HK2 := Lib.hid hK; clear hK))
 have HC := Lib.hid (HK.out.below HK2.out.2.1)
 obtain ⟨k0, k1, k2, g1, _, _, _, _⟩ := HC.out.facts
 go_wp2
 go_light
 go_ret2
 exact ⟨rfl, HC.out⟩
theorem one_low (k a b c d lo hi : Int) (B : Option Addr) (n cap : Nat) (w : World) (h : k < 1) : Calls Tryz.prog 169 #[.agg #[.int .i64 k, .int .u64 a, .int .u64 b, .int .u64 c, .int .u64 d, .slice B n cap, .int .i64 lo, .int .i64 hi]] w fun e w' => e = .returned (.bool false) ∧ Below w.heap.size w w' := by
 go_enter Tryz.func169, Tryz.ntmps169
 go_wp2
 all_goals go_light
 all_goals go_ret
 all_goals exact ⟨rfl, (Below.refl _ _).alloc (Nat.le_refl _) _⟩
theorem one_high (k a b c d lo hi : Int) (B : Option Addr) (n cap : Nat) (w : World) (h : 9 < k) : Calls Tryz.prog 169 #[.agg #[.int .i64 k, .int .u64 a, .int .u64 b, .int .u64 c, .int .u64 d, .slice B n cap, .int .i64 lo, .int .i64 hi]] w fun e w' => e = .returned (.bool false) ∧ Below w.heap.size w w' := by
 go_enter Tryz.func169, Tryz.ntmps169
 go_wp2
 all_goals go_light
 all_goals go_ret
 all_goals exact ⟨rfl, (Below.refl _ _).alloc (Nat.le_refl _) _⟩
theorem one_set1 (k a b c d lo hi : Int) (B : Option Addr) (n cap : Nat) (w : World) (h0 : 1 ≤ k) (h1 : k ≤ 9) (h3 : k ≠ 3) (ha : a ≠ 0) : Calls Tryz.prog 169 #[.agg #[.int .i64 k, .int .u64 a, .int .u64 b, .int .u64 c, .int .u64 d, .slice B n cap, .int .i64 lo, .int .i64 hi]] w fun e w' => e = .returned (.bool false) ∧ Below w.heap.size w w' := by
 have hk : (k != 3) = true := by rw [bne_iff_ne]; exact h3
 have hz : (a == 0) = false := by rw [beq_eq_false_iff_ne]; exact ha
 clear h3 ha
 go_enter Tryz.func169, Tryz.ntmps169
 go_wp2
 all_goals go_light
 all_goals go_ret
 all_goals exact ⟨rfl, (Below.refl _ _).alloc (Nat.le_refl _) _⟩
theorem one_set2 (k a b c d lo hi : Int) (B : Option Addr) (n cap : Nat) (w : World) (h0 : 1 ≤ k) (h1 : k ≤ 9) (h3 : k ≠ 3) (ha : a = 0) (hb : b ≠ 0) : Calls Tryz.prog 169 #[.agg #[.int .i64 k, .int .u64 a, .int .u64 b, .int .u64 c, .int .u64 d, .slice B n cap, .int .i64 lo, .int .i64 hi]] w fun e w' => e = .returned (.bool false) ∧ Below w.heap.size w w' := by
 subst ha
 have hk : (k != 3) = true := by rw [bne_iff_ne]; exact h3
 have hz : (b == 0) = false := by rw [beq_eq_false_iff_ne]; exact hb
 clear h3 hb
 go_enter Tryz.func169, Tryz.ntmps169
 go_wp2
 all_goals go_light
 all_goals go_ret
 all_goals exact ⟨rfl, (Below.refl _ _).alloc (Nat.le_refl _) _⟩
theorem one_set3 (k a b c d lo hi : Int) (B : Option Addr) (n cap : Nat) (w : World) (h0 : 1 ≤ k) (h1 : k ≤ 9) (h3 : k ≠ 3) (ha : a = 0) (hb : b = 0) (hc : c ≠ 0) : Calls Tryz.prog 169 #[.agg #[.int .i64 k, .int .u64 a, .int .u64 b, .int .u64 c, .int .u64 d, .slice B n cap, .int .i64 lo, .int .i64 hi]] w fun e w' => e = .returned (.bool false) ∧ Below w.heap.size w w' := by
 subst ha hb
 have hk : (k != 3) = true := by rw [bne_iff_ne]; exact h3
 have hz : (c == 0) = false := by rw [beq_eq_false_iff_ne]; exact hc
 clear h3 hc
 go_enter Tryz.func169, Tryz.ntmps169
 go_wp2
 all_goals go_light
 all_goals go_ret
 all_goals exact ⟨rfl, (Below.refl _ _).alloc (Nat.le_refl _) _⟩
theorem one_set4 (k a b c d lo hi : Int) (B : Option Addr) (n cap : Nat) (w : World) (h0 : 1 ≤ k) (h1 : k ≤ 9) (h3 : k ≠ 3) (ha : a = 0) (hb : b = 0) (hc : c = 0) (hd : d ≠ 0) : Calls Tryz.prog 169 #[.agg #[.int .i64 k, .int .u64 a, .int .u64 b, .int .u64 c, .int .u64 d, .slice B n cap, .int .i64 lo, .int .i64 hi]] w fun e w' => e = .returned (.bool false) ∧ Below w.heap.size w w' := by
 subst ha hb hc
 have hk : (k != 3) = true := by rw [bne_iff_ne]; exact h3
 have hz : (d == 0) = false := by rw [beq_eq_false_iff_ne]; exact hd
 clear h3 hd
 go_enter Tryz.func169, Tryz.ntmps169
 go_wp2
 all_goals go_light
 all_goals go_ret
 all_goals exact ⟨rfl, (Below.refl _ _).alloc (Nat.le_refl _) _⟩
theorem one_rep (lo hi : Int) (B : Option Addr) (n cap : Nat) (w : World) (hn : n ≤ 140737488355328) : Calls Tryz.prog 169 #[.agg #[.int .i64 9, .int .u64 0, .int .u64 0, .int .u64 0, .int .u64 0, .slice B n cap, .int .i64 lo, .int .i64 hi]] w fun e w' => e = .returned (.bool (timesB lo hi && decide (n = 1))) ∧ Below w.heap.size w w' := by
 go_enter Tryz.func169, Tryz.ntmps169
 go_wp2
 all_goals go_light
 all_goals go_ret
 all_goals refine ⟨ret_b ?_, (Below.refl _ _).alloc (Nat.le_refl _) _⟩
 all_goals (rw [Bool.eq_iff_iff]; simp [timesB]; try omega)
theorem one_num (k lo hi : Int) (B : Option Addr) (n cap : Nat) (w : World) (h0 : 1 ≤ k) (h9 : k ≤ 8) (hl : lo ≠ 0 ∨ hi ≠ 0) (hn : n ≤ 140737488355328) : Calls Tryz.prog 169 #[.agg #[.int .i64 k, .int .u64 0, .int .u64 0, .int .u64 0, .int .u64 0, .slice B n cap, .int .i64 lo, .int .i64 hi]] w fun e w' => e = .returned (.bool false) ∧ Below w.heap.size w w' := by
 have hk9 : (k == 9) = false := by rw [beq_eq_false_iff_ne]; omega
 by_cases hl0 : lo = 0
 ·have hh : (hi != 0) = true := by rw [bne_iff_ne]; omega
  subst hl0
  clear hl
  go_enter Tryz.func169, Tryz.ntmps169
  go_wp2
  all_goals go_light
  all_goals go_ret
  all_goals exact ⟨rfl, (Below.refl _ _).alloc (Nat.le_refl _) _⟩
 ·have hh : (lo != 0) = true := by rw [bne_iff_ne]; exact hl0
  clear hl hl0
  go_enter Tryz.func169, Tryz.ntmps169
  go_wp2
  all_goals go_light
  all_goals go_ret
  all_goals exact ⟨rfl, (Below.refl _ _).alloc (Nat.le_refl _) _⟩
theorem one_num3 (a b c d lo hi : Int) (B : Option Addr) (n cap : Nat) (w : World) (hl : lo ≠ 0 ∨ hi ≠ 0) (hn : n ≤ 140737488355328) : Calls Tryz.prog 169 #[.agg #[.int .i64 3, .int .u64 a, .int .u64 b, .int .u64 c, .int .u64 d, .slice B n cap, .int .i64 lo, .int .i64 hi]] w fun e w' => e = .returned (.bool false) ∧ Below w.heap.size w w' := by
 by_cases hl0 : lo = 0
 ·have hh : (hi != 0) = true := by rw [bne_iff_ne]; omega
  subst hl0
  clear hl
  go_enter Tryz.func169, Tryz.ntmps169
  go_wp2
  all_goals go_light
  all_goals go_ret
  all_goals exact ⟨rfl, (Below.refl _ _).alloc (Nat.le_refl _) _⟩
 ·have hh : (lo != 0) = true := by rw [bne_iff_ne]; exact hl0
  clear hl hl0
  go_enter Tryz.func169, Tryz.ntmps169
  go_wp2
  all_goals go_light
  all_goals go_ret
  all_goals exact ⟨rfl, (Below.refl _ _).alloc (Nat.le_refl _) _⟩
theorem one_three (a b c d : Int) (B : Option Addr) (n cap : Nat) (w : World) (hn : n ≤ 140737488355328) : Calls Tryz.prog 169 #[.agg #[.int .i64 3, .int .u64 a, .int .u64 b, .int .u64 c, .int .u64 d, .slice B n cap, .int .i64 0, .int .i64 0]] w fun e w' => e = .returned (.bool (decide (n = 0))) ∧ Below w.heap.size w w' := by
 go_enter Tryz.func169, Tryz.ntmps169
 go_wp2
 all_goals go_light
 all_goals go_ret
 all_goals refine ⟨ret_b ?_, (Below.refl _ _).alloc (Nat.le_refl _) _⟩
 all_goals (rw [Bool.eq_iff_iff]; simp [timesB]; try omega)
theorem onex_leaf (k : Int) (B : Option Addr) (n cap : Nat) (w : World) (h0 : 1 ≤ k) (h9 : k ≤ 2) (hn : n ≤ 140737488355328) : Calls Tryz.prog 169 #[.agg #[.int .i64 k, .int .u64 0, .int .u64 0, .int .u64 0, .int .u64 0, .slice B n cap, .int .i64 0, .int .i64 0]] w fun e w' => e = .returned (.bool (decide (n = 0))) ∧ Below w.heap.size w w' := by
 have hk9 : (k == 9) = false := by rw [beq_eq_false_iff_ne]; omega
 go_enter Tryz.func169, Tryz.ntmps169
 go_wp2
 all_goals go_light
 all_goals go_ret
 all_goals refine ⟨ret_b ?_, (Below.refl _ _).alloc (Nat.le_refl _) _⟩
 all_goals (rw [Bool.eq_iff_iff]; simp [timesB]; try omega)
theorem one_many (k : Int) (B : Option Addr) (n cap : Nat) (w : World) (h0 : 4 ≤ k) (h9 : k ≤ 5) (hn : n ≤ 140737488355328) : Calls Tryz.prog 169 #[.agg #[.int .i64 k, .int .u64 0, .int .u64 0, .int .u64 0, .int .u64 0, .slice B n cap, .int .i64 0, .int .i64 0]] w fun e w' => e = .returned (.bool (decide (2 ≤ n))) ∧ Below w.heap.size w w' := by
 have hk9 : (k == 9) = false := by rw [beq_eq_false_iff_ne]; omega
 go_enter Tryz.func169, Tryz.ntmps169
 go_wp2
 all_goals go_light
 all_goals go_ret
 all_goals refine ⟨ret_b ?_, (Below.refl _ _).alloc (Nat.le_refl _) _⟩
 all_goals (rw [Bool.eq_iff_iff]; simp [timesB]; try omega)
theorem one_over (k : Int) (B : Option Addr) (n cap : Nat) (w : World) (h0 : 6 ≤ k) (h9 : k ≤ 8) (hn : n ≤ 140737488355328) : Calls Tryz.prog 169 #[.agg #[.int .i64 k, .int .u64 0, .int .u64 0, .int .u64 0, .int .u64 0, .slice B n cap, .int .i64 0, .int .i64 0]] w fun e w' => e = .returned (.bool (decide (n = 1))) ∧ Below w.heap.size w w' := by
 have hk9 : (k == 9) = false := by rw [beq_eq_false_iff_ne]; omega
 go_enter Tryz.func169, Tryz.ntmps169
 go_wp2
 all_goals go_light
 all_goals go_ret
 all_goals refine ⟨ret_b ?_, (Below.refl _ _).alloc (Nat.le_refl _) _⟩
 all_goals (rw [Bool.eq_iff_iff]; simp [timesB]; try omega)
theorem arityS_out {k : Int} (h : k < 1 ∨ 9 < k) : arityS k = -1 := by
 unfold arityS
 rw [if_neg (by omega), if_neg (by omega), if_neg (by omega)]
theorem one_any (k a b c d lo hi : Int) (B : Option Addr) (n cap : Nat) (w : World) (hn : n ≤ 140737488355328) : Calls Tryz.prog 169 #[.agg #[.int .i64 k, .int .u64 a, .int .u64 b, .int .u64 c, .int .u64 d, .slice B n cap, .int .i64 lo, .int .i64 hi]] w fun e w' => e = .returned (.bool (aloneV k a b c d n lo hi)) ∧ Below w.heap.size w w' := by
 by_cases hout : k < 1 ∨ 9 < k
 ·have e : aloneV k a b c d n lo hi = false := by
   unfold aloneV
   rw [if_neg (by omega), arityS_out hout]
   split
   ·rfl
   ·rw [if_neg (by omega)]
    simp
  rw [e]
  rcases hout with h | h
  ·exact one_low k a b c d lo hi B n cap w h
  ·exact one_high k a b c d lo hi B n cap w h
 have h1 : 1 ≤ k := by omega
 have h9 : k ≤ 9 := by omega
 by_cases h3 : k = 3
 ·subst h3
  by_cases hl : lo = 0 ∧ hi = 0
  ·obtain ⟨rfl, rfl⟩ := hl
   have e : aloneV 3 a b c d n 0 0 = decide (n = 0) := by unfold aloneV; simp
   rw [e]
   exact one_three a b c d B n cap w hn
  ·have e : aloneV 3 a b c d n lo hi = false := by
    unfold aloneV
    rw [if_pos rfl]
    by_cases h : lo = 0
    ·have : hi ≠ 0 := fun h2 => hl ⟨h, h2⟩
     simp [this]
    ·simp [h]
   rw [e]
   exact one_num3 a b c d lo hi B n cap w (by omega) hn
 by_cases hs : a ≠ 0 ∨ b ≠ 0 ∨ c ≠ 0 ∨ d ≠ 0
 ·have e : aloneV k a b c d n lo hi = false := by unfold aloneV; rw [if_neg h3, if_pos hs]
  rw [e]
  by_cases ha : a = 0
  ·by_cases hb : b = 0
   ·by_cases hc : c = 0
    ·exact one_set4 k a b c d lo hi B n cap w h1 h9 h3 ha hb hc (by omega)
    ·exact one_set3 k a b c d lo hi B n cap w h1 h9 h3 ha hb hc
   ·exact one_set2 k a b c d lo hi B n cap w h1 h9 h3 ha hb
  ·exact one_set1 k a b c d lo hi B n cap w h1 h9 h3 ha
 obtain ⟨rfl, rfl, rfl, rfl⟩ : a = 0 ∧ b = 0 ∧ c = 0 ∧ d = 0 := by omega
 by_cases hk9 : k = 9
 ·subst hk9
  have e : aloneV 9 0 0 0 0 n lo hi = (timesB lo hi && decide (n = 1)) := by unfold aloneV; simp
  rw [e]
  exact one_rep lo hi B n cap w hn
 by_cases hl : lo = 0 ∧ hi = 0
 ·obtain ⟨rfl, rfl⟩ := hl
  have e0 : aloneV k 0 0 0 0 n 0 0 = (if arityS k = 0 then decide (n = 0) else if arityS k = 1 then decide (n = 1) else if arityS k = 2 then decide (2 ≤ n) else false) := by
   unfold aloneV
   rw [if_neg h3, if_neg (by omega), if_neg hk9]
   simp
  rw [e0]
  by_cases hk2 : k ≤ 2
  ·rw [if_pos (by unfold arityS; rw [if_pos (by omega)])]
   exact onex_leaf k B n cap w h1 hk2 hn
  by_cases hk5 : k ≤ 5
  ·have e : arityS k = 2 := by unfold arityS; rw [if_neg (by omega), if_pos (by omega)]
   rw [e, if_neg (by decide), if_neg (by decide), if_pos rfl]
   exact one_many k B n cap w (by omega) hk5 hn
  ·have e : arityS k = 1 := by unfold arityS; rw [if_neg (by omega), if_neg (by omega), if_pos (by omega)]
   rw [e, if_neg (by decide), if_pos rfl]
   exact one_over k B n cap w (by omega) (by omega) hn
 ·have e : aloneV k 0 0 0 0 n lo hi = false := by
   unfold aloneV
   rw [if_neg h3, if_neg (by omega), if_neg hk9]
   by_cases h : lo = 0
   ·have : hi ≠ 0 := fun h2 => hl ⟨h, h2⟩
    simp [this]
   ·simp [h]
  rw [e]
  exact one_num k lo hi B n cap w h1 (by omega) (by omega) hn
def RSizeC (n : Nat) : Prop := ∀ (x : Nd) (P : Nat → Prop) (B : Option Addr) (cap : Nat) (w : World), x.size ≤ n → x.size ≤ 140737488355328 → TreesAt w P x.kids B →
 Calls Tryz.prog 131 #[ndV x B cap] w fun e w' => e = .returned (.int .i64 ((x.size : Nat) : Int)) ∧ Below w.heap.size w w'
def Trees.sizeTo : Trees → Nat → Nat
 | .nil, _ => 0
 | .cons _ _ _ _ _ _, 0 => 0
 | .cons _ _ ks _ _ r, i + 1 => 1 + ks.size + r.sizeTo i
theorem Trees.sizeTo_zero (F : Trees) : F.sizeTo 0 = 0 := by cases F <;> rfl
theorem Trees.sizeTo_succ : ∀ {F : Trees} {i : Nat} {z : Nd}, F.list[i]? = some z → F.sizeTo (i + 1) = F.sizeTo i + z.size
 | .nil, i, z, h => by simp [Trees.list] at h
 | .cons k s ks lo hi r, 0, z, h => by
  simp [Trees.list] at h
  subst h
  simp [Trees.sizeTo, Trees.sizeTo_zero, Nd.size]
 | .cons k s ks lo hi r, i + 1, z, h => by
  have := Trees.sizeTo_succ (F := r) (i := i) (by simpa [Trees.list] using h)
  simp only [Trees.sizeTo] at this ⊢
  omega
theorem Trees.sizeTo_all : ∀ F : Trees, F.sizeTo F.len = F.size
 | .nil => rfl
 | .cons k s ks lo hi r => by
  have := Trees.sizeTo_all r
  simp [Trees.sizeTo, Trees.size, Trees.len, this]
theorem Trees.sizeTo_le : ∀ (F : Trees) (i : Nat), F.sizeTo i ≤ F.size
 | .nil, i => Nat.le_refl _
 | .cons k s ks lo hi r, 0 => Nat.zero_le _
 | .cons k s ks lo hi r, i + 1 => by
  have := Trees.sizeTo_le r i
  simp [Trees.sizeTo, Trees.size]
  omega
theorem rsize_step {n : Nat} (ih : RSizeC n) : RSizeC (n + 1) := by
 intro x P B cap w hsz hlen ht
 have H0 := Lib.hid (show Blk (w.alloc (.cells (ndA x B cap) 28)) w.heap.size 28 (ndA x B cap) ∧ Below w.heap.size w (w.alloc (.cells (ndA x B cap) 28)) from ⟨Blk.new _ _ _, (Below.refl _ _).alloc (Nat.le_refl _) _⟩)
 have HT := Lib.hid ht
 have hlk : x.kids.len ≤ 140737488355328 := by have := Trees.len_size x.kids; unfold Nd.size at hlen; omega
 have hks : x.kids.size + 1 = x.size := by unfold Nd.size; omega
 clear ht
 unfold ndV
 go_enter Tryz.func131, Tryz.ntmps131
 go_wp2
 go_loopw [3, 4] (fun v i wr => ∃ k : Nat, i = .int .i64 (k : Int) ∧ k ≤ x.kids.len ∧ v = .int .i64 ((1 + x.kids.sizeTo k : Nat) : Int) ∧ Hid (Blk wr w.heap.size 28 (ndA x B cap) ∧ Below w.heap.size w wr)) (fun _ i _ => x.kids.len - (intOf i).toNat)
 case atStart => exact ⟨0, rfl, Nat.zero_le _, by rw [Trees.sizeTo_zero]; rfl, H0⟩
 case round =>
  clear H0
  obtain ⟨k, rfl, hk, rfl, HH⟩ := hrel
  have hX := HH.out.1
  have y0 : wr.cell? ⟨w.heap.size, 0, none⟩ = some (.int .i64 x.kind) := hX.cell 0
  have y1 : wr.cell? ⟨w.heap.size, 1, none⟩ = some (.int .u64 (word x.set.testBit 0)) := hX.cell 1
  have y2 : wr.cell? ⟨w.heap.size, 2, none⟩ = some (.int .u64 (word x.set.testBit 1)) := hX.cell 2
  have y3 : wr.cell? ⟨w.heap.size, 3, none⟩ = some (.int .u64 (word x.set.testBit 2)) := hX.cell 3
  have y4 : wr.cell? ⟨w.heap.size, 4, none⟩ = some (.int .u64 (word x.set.testBit 3)) := hX.cell 4
  have y5 : wr.cell? ⟨w.heap.size, 5, none⟩ = some (.slice B x.kids.len cap) := hX.cell 5
  have y6 : wr.cell? ⟨w.heap.size, 6, none⟩ = some (.int .i64 x.lo) := hX.cell 6
  have y7 : wr.cell? ⟨w.heap.size, 7, none⟩ = some (.int .i64 x.hi) := hX.cell 7
  have hle := Trees.sizeTo_le x.kids k
  by_cases hlt : k < x.kids.len
  ·obtain ⟨z, hz⟩ : ∃ z, x.kids.list[k]? = some z := ⟨_, List.getElem?_eq_getElem (by rw [Trees.len_list]; exact hlt)⟩
   have hzs := Trees.size_get x.kids k z hz
   have hst := Trees.sizeTo_succ hz
   have hle2 := Trees.sizeTo_le x.kids (k + 1)
   obtain ⟨b, o, C, capc, rfl, _, _, ⟨c0, c1, c2, c3, c4, c5, c6, c7⟩, hkz⟩ := (HT.out.below HH.out.2).get hz
   have hdl : (k : Int) < (x.kids.len : Int) := by omega
   have hzz : z.size ≤ 140737488355328 := by omega
   have HI := Lib.hid (ih z P C capc wr (by omega) hzz hkz)
   have HS := Lib.hid (show 1 + x.kids.sizeTo (k + 1) = 1 + x.kids.sizeTo k + z.size by omega)
   have hsm : 1 + x.kids.sizeTo k + z.size ≤ 140737488355328 := by omega
   clear hz hzs hkz hX hst hle2 hle
   generalize x.kids.sizeTo k = sk at *
   unfold ndV at HI
   go_wp2_with fail
   refine HI.out.mono ?_
   rintro e w3 ⟨rfl, hb3⟩
   have HH3 := Lib.hid (show _ ∧ _ from ⟨HH.out.1.below hb3 HH.out.1.lt, HH.out.2.trans (hb3.mono HH.out.2.size)⟩)
   clear hb3 HI y0 y1 y2 y3 y4 y5 y6 y7 c0 c1 c2 c3 c4 c5 c6 c7
   dsimp only
   go_wp2
   go_roundw
   case rel => exact ⟨k + 1, by go_num, by omega, congrArg _ (by rw [HS.out]; omega), HH3⟩
   case measure => simp [intOf]; omega
  ·obtain rfl : k = x.kids.len := by omega
   have hdl : ¬ ((x.kids.len : Int) < (x.kids.len : Int)) := by omega
   have HV := Lib.hid (show 1 + x.kids.sizeTo x.kids.len = x.size by rw [Trees.sizeTo_all]; rfl)
   clear hX hle
   go_wp2
   go_light
   go_ret
   exact ⟨ret_i (by have := HV.out; omega), HH.out.2⟩
theorem rsize_go (x : Nd) (P : Nat → Prop) (B : Option Addr) (cap : Nat) (w : World) (hlen : x.size ≤ 140737488355328) (ht : TreesAt w P x.kids B) :
  Calls Tryz.prog 131 #[ndV x B cap] w fun e w' => e = .returned (.int .i64 ((x.size : Nat) : Int)) ∧ Below w.heap.size w w' := by
 have h : ∀ n, RSizeC n := by
  intro n
  induction n with
  | zero => exact fun x _ _ _ _ h => by unfold Nd.size at h; omega
  | succ n ih => exact rsize_step ih
 exact h x.size x P B cap w (Nat.le_refl _) hlen ht
def RAllC (n : Nat) : Prop := ∀ (x : Nd) (P : Nat → Prop) (B : Option Addr) (cap : Nat) (w : World), x.size ≤ n → x.size ≤ 140737488355328 → TreesAt w P x.kids B →
 Calls Tryz.prog 132 #[ndV x B cap] w fun e w' => e = .returned (.bool (x.nodes.all aloneN)) ∧ Below w.heap.size w w'
theorem rall_step {n : Nat} (ih : RAllC n) : RAllC (n + 1) := by
 intro x P B cap w hsz hlen ht
 have H0 := Lib.hid (show Blk (w.alloc (.cells (ndA x B cap) 28)) w.heap.size 28 (ndA x B cap) ∧ Below w.heap.size w (w.alloc (.cells (ndA x B cap) 28)) from ⟨Blk.new _ _ _, (Below.refl _ _).alloc (Nat.le_refl _) _⟩)
 have HT := Lib.hid ht
 have hlk : x.kids.len ≤ 140737488355328 := by have := Trees.len_size x.kids; unfold Nd.size at hlen; omega
 have hks : x.kids.size + 1 = x.size := by unfold Nd.size; omega
 clear ht
 unfold ndV
 go_enter Tryz.func132, Tryz.ntmps132
 go_wp2
 go_loopw [3] (fun i wr => ∃ k : Nat, i = .int .i64 (k : Int) ∧ k ≤ x.kids.len ∧ Hid ((x.kids.upto k).all aloneN = true ∧ Blk wr w.heap.size 28 (ndA x B cap) ∧ Below w.heap.size w wr)) (fun i _ => x.kids.len - (intOf i).toNat)
 case atStart => exact ⟨0, rfl, Nat.zero_le _, Lib.hid ⟨by rw [Trees.upto_zero]; rfl, H0.out⟩⟩
 case round =>
  clear H0
  obtain ⟨k, rfl, hk, HH⟩ := hrel
  have hX := HH.out.2.1
  have y0 : wr.cell? ⟨w.heap.size, 0, none⟩ = some (.int .i64 x.kind) := hX.cell 0
  have y1 : wr.cell? ⟨w.heap.size, 1, none⟩ = some (.int .u64 (word x.set.testBit 0)) := hX.cell 1
  have y2 : wr.cell? ⟨w.heap.size, 2, none⟩ = some (.int .u64 (word x.set.testBit 1)) := hX.cell 2
  have y3 : wr.cell? ⟨w.heap.size, 3, none⟩ = some (.int .u64 (word x.set.testBit 2)) := hX.cell 3
  have y4 : wr.cell? ⟨w.heap.size, 4, none⟩ = some (.int .u64 (word x.set.testBit 3)) := hX.cell 4
  have y5 : wr.cell? ⟨w.heap.size, 5, none⟩ = some (.slice B x.kids.len cap) := hX.cell 5
  have y6 : wr.cell? ⟨w.heap.size, 6, none⟩ = some (.int .i64 x.lo) := hX.cell 6
  have y7 : wr.cell? ⟨w.heap.size, 7, none⟩ = some (.int .i64 x.hi) := hX.cell 7
  by_cases hlt : k < x.kids.len
  ·obtain ⟨z, hz⟩ : ∃ z, x.kids.list[k]? = some z := ⟨_, List.getElem?_eq_getElem (by rw [Trees.len_list]; exact hlt)⟩
   have hzs := Trees.size_get x.kids k z hz
   have hup := Trees.upto_succ hz
   have hpre := Trees.upto_prefix x.kids (k + 1)
   obtain ⟨b, o, C, capc, rfl, _, _, ⟨c0, c1, c2, c3, c4, c5, c6, c7⟩, hkz⟩ := (HT.out.below HH.out.2.2).get hz
   have hdl : (k : Int) < (x.kids.len : Int) := by omega
   have HI := Lib.hid (ih z P C capc wr (by omega) (by omega) hkz)
   unfold ndV at HI
   cases hv : z.nodes.all aloneN
   ·have HV := Lib.hid (show x.nodes.all aloneN = false from by
     cases hx : x.nodes.all aloneN
     ·rfl
     ·have h1 : x.kids.nodes.all aloneN = true := by
       unfold Nd.nodes at hx
       rw [List.all_cons, Bool.and_eq_true] at hx
       exact hx.2
      have h2 := List.all_eq_true.1 h1
      have h3 : z.nodes.all aloneN = true := List.all_eq_true.2 (fun y hy => h2 y (hpre.subset (by rw [hup]; exact List.mem_append_right _ hy)))
      rw [hv] at h3
      cases h3)
    rw [hv] at HI
    clear hz hzs hkz hX hup hpre hv
    go_wp2_with fail
    refine HI.out.mono ?_
    rintro e w3 ⟨rfl, hb3⟩
    have HB3 := Lib.hid (HH.out.2.2.trans (hb3.mono HH.out.2.2.size))
    clear hb3 HI y0 y1 y2 y3 y4 y5 y6 y7 c0 c1 c2 c3 c4 c5 c6 c7
    dsimp only
    go_wp2
    go_light
    go_ret
    exact ⟨ret_b HV.out.symm, HB3.out⟩
   ·have HV := Lib.hid (show (x.kids.upto (k + 1)).all aloneN = true by rw [hup, List.all_append, HH.out.1, hv]; rfl)
    rw [hv] at HI
    clear hz hzs hkz hX hup hpre hv
    go_wp2_with fail
    refine HI.out.mono ?_
    rintro e w3 ⟨rfl, hb3⟩
    have HH3 := Lib.hid (show _ ∧ _ ∧ _ from ⟨HV.out, HH.out.2.1.below hb3 HH.out.2.1.lt, HH.out.2.2.trans (hb3.mono HH.out.2.2.size)⟩)
    clear hb3 HI y0 y1 y2 y3 y4 y5 y6 y7 c0 c1 c2 c3 c4 c5 c6 c7
    dsimp only
    go_wp2
    go_roundw
    case rel => exact ⟨k + 1, by go_num, by omega, HH3⟩
    case measure => simp [intOf]; omega
  ·obtain rfl : k = x.kids.len := by omega
   have hdl : ¬ ((x.kids.len : Int) < (x.kids.len : Int)) := by omega
   have HV := Lib.hid (show x.nodes.all aloneN = aloneN x from by
    have h := HH.out.1
    rw [Trees.upto_all] at h
    unfold Nd.nodes
    rw [List.all_cons, h, Bool.and_true])
   have HC := Lib.hid (one_any x.kind (word x.set.testBit 0 : Nat) (word x.set.testBit 1 : Nat) (word x.set.testBit 2 : Nat) (word x.set.testBit 3 : Nat) x.lo x.hi B x.kids.len cap wr hlk)
   clear hX
   go_wp2_with fail
   refine HC.out.mono ?_
   rintro e w3 ⟨rfl, hb3⟩
   have HB3 := Lib.hid (HH.out.2.2.trans (hb3.mono HH.out.2.2.size))
   clear hb3 HC y0 y1 y2 y3 y4 y5 y6 y7
   dsimp only
   go_wp2
   go_light
   go_ret
   exact ⟨ret_b (by rw [HV.out]; rfl), HB3.out⟩
theorem rall_go (x : Nd) (P : Nat → Prop) (B : Option Addr) (cap : Nat) (w : World) (hlen : x.size ≤ 140737488355328) (ht : TreesAt w P x.kids B) :
  Calls Tryz.prog 132 #[ndV x B cap] w fun e w' => e = .returned (.bool (x.nodes.all aloneN)) ∧ Below w.heap.size w w' := by
 have h : ∀ n, RAllC n := by
  intro n
  induction n with
  | zero => exact fun x _ _ _ _ h => by unfold Nd.size at h; omega
  | succ n ih => exact rall_step ih
 exact h x.size x P B cap w (Nat.le_refl _) hlen ht
theorem rright_any (x : Nd) (P : Nat → Prop) (B : Option Addr) (cap : Nat) (w : World) (hlen : x.size ≤ 140737488355328) (ht : TreesAt w P x.kids B) :
  Calls Tryz.prog 73 #[ndV x B cap] w fun e w' => e = .returned (.bool (rightT x)) ∧ Below w.heap.size w w' := by
 have hb1 : Below w.heap.size w (w.alloc (.cells (ndA x B cap) 28)) := (Below.refl _ _).alloc (Nat.le_refl _) _
 have hx1 := Blk.new w 28 (ndA x B cap)
 have HS := Lib.hid (rsize_go x P B cap _ hlen (ht.below hb1))
 have HA := Lib.hid (fun w2 (hb : Below (w.alloc (.cells (ndA x B cap) 28)).heap.size (w.alloc (.cells (ndA x B cap) 28)) w2) => rall_go x P B cap w2 hlen ((ht.below hb1).below hb))
 have HX := Lib.hid (show _ ∧ _ from ⟨hb1, hx1⟩)
 have hR : rightT x = (decide (x.size ≤ 4096) && x.nodes.all aloneN) := by unfold rightT; rw [Nd.nodes_len]
 clear ht hb1 hx1
 unfold ndV at *
 unfold ndA at *
 by_cases h4 : x.size ≤ 4096
 ·have HV := Lib.hid (show rightT x = x.nodes.all aloneN by rw [hR, decide_eq_true h4, Bool.true_and])
  clear hR
  go_enter Tryz.func73, Tryz.ntmps73
  go_wp2_with fail
  refine HS.out.mono ?_
  rintro e w2 ⟨rfl, hb2⟩
  have hX := HX.out.2.below hb2 HX.out.2.lt
  have y0 : w2.cell? ⟨w.heap.size, 0, none⟩ = some (.int .i64 x.kind) := hX.cell 0
  have y1 : w2.cell? ⟨w.heap.size, 1, none⟩ = some (.int .u64 (word x.set.testBit 0)) := hX.cell 1
  have y2 : w2.cell? ⟨w.heap.size, 2, none⟩ = some (.int .u64 (word x.set.testBit 1)) := hX.cell 2
  have y3 : w2.cell? ⟨w.heap.size, 3, none⟩ = some (.int .u64 (word x.set.testBit 2)) := hX.cell 3
  have y4 : w2.cell? ⟨w.heap.size, 4, none⟩ = some (.int .u64 (word x.set.testBit 3)) := hX.cell 4
  have y5 : w2.cell? ⟨w.heap.size, 5, none⟩ = some (.slice B x.kids.len cap) := hX.cell 5
  have y6 : w2.cell? ⟨w.heap.size, 6, none⟩ = some (.int .i64 x.lo) := hX.cell 6
  have y7 : w2.cell? ⟨w.heap.size, 7, none⟩ = some (.int .i64 x.hi) := hX.cell 7
  have HB2 := Lib.hid (HX.out.1.trans (hb2.mono HX.out.1.size))
  have HI := Lib.hid (HA.out w2 hb2)
  clear hb2 HS HA hX
  dsimp only
  go_wp2_with fail
  refine HI.out.mono ?_
  rintro e w3 ⟨rfl, hb3⟩
  have HB3 := Lib.hid (HB2.out.trans (hb3.mono HB2.out.size))
  clear hb3 HI y0 y1 y2 y3 y4 y5 y6 y7
  dsimp only
  go_wp2
  go_light
  go_ret
  exact ⟨ret_b HV.out.symm, HB3.out⟩
 ·have HV := Lib.hid (show rightT x = false by rw [hR, decide_eq_false h4, Bool.false_and])
  have h4' : 4096 < x.size := by omega
  clear hR h4
  go_enter Tryz.func73, Tryz.ntmps73
  go_wp2_with fail
  refine HS.out.mono ?_
  rintro e w2 ⟨rfl, hb2⟩
  have HB2 := Lib.hid (HX.out.1.trans (hb2.mono HX.out.1.size))
  clear hb2 HS HA
  dsimp only
  go_wp2
  go_light
  go_ret
  exact ⟨ret_b HV.out.symm, HB2.out⟩
def lexK (k : Int) : Lex := ⟨k, 0, noSet, 0, 0⟩
def brS (p k : Int) : Bool := decide (k = 5) || (decide (p ≠ 5) && (decide (k = 4) || decide (k = 2)))
def kidS (p : Int) (q : Int × List Lex) : List Lex := if brS p q.1 = true then lexK 2 :: (q.2 ++ [lexK 3]) else q.2
def barsS (l : List (List Lex)) : List Lex := (l.flatMap fun x => lexK 4 :: x).drop 1
theorem barsS_snoc (l : List (List Lex)) (x : List Lex) : barsS (l ++ [x]) = if l.length = 0 then x else barsS l ++ lexK 4 :: x := by
 unfold barsS
 cases l with
 | nil => simp
 | cons y l => simp
def writeK (k : Int) (s : Nat) (lo hi : Int) (ks : List (Int × List Lex)) : List Lex :=
 if k = 1 ∨ k = 3 then [⟨1, 0, s.testBit, 0, 0⟩]
 else if k = 4 then (ks.map (kidS 4)).flatten
 else if k = 5 then barsS (ks.map (kidS 5))
 else if 6 ≤ k ∧ k ≤ 8 then kidS k (ks.headD (0, [])) ++ [lexK (k - 1)]
 else if k = 9 then kidS k (ks.headD (0, [])) ++ [⟨8, 0, noSet, lo, hi⟩]
 else []
def Trees.writes : Trees → List (Int × List Lex)
 | .nil => []
 | .cons k s ks lo hi r => (k, writeK k s lo hi ks.writes) :: r.writes
def Nd.write (x : Nd) : List Lex := writeK x.kind x.set x.lo x.hi x.kids.writes
theorem Trees.writes_list : ∀ F : Trees, F.writes = F.list.map (fun z => (z.kind, z.write))
 | .nil => rfl
 | .cons k s ks lo hi r => by rw [Trees.writes, Trees.list, List.map_cons, Trees.writes_list r]; rfl
theorem Trees.writes_len (F : Trees) : F.writes.length = F.len := by rw [F.writes_list, List.length_map, F.len_list]
theorem Trees.writes_get {F : Trees} {i : Nat} {z : Nd} (h : F.list[i]? = some z) : F.writes[i]? = some (z.kind, z.write) := by
 rw [F.writes_list, List.getElem?_map, h]; rfl
theorem Trees.writes_head {F : Trees} {z : Nd} (h : F.list[0]? = some z) : F.writes.headD (0, []) = (z.kind, z.write) := by
 have := Trees.writes_get h
 cases hw : F.writes with
 | nil => rw [hw] at this; simp at this
 | cons a l => rw [hw] at this; simpa using this
theorem Nd.write_leaf {x : Nd} (h : x.kind = 1 ∨ x.kind = 3) : x.write = [⟨1, 0, x.set.testBit, 0, 0⟩] := by unfold Nd.write writeK; rw [if_pos h]
theorem Nd.write_cat {x : Nd} (h : x.kind = 4) : x.write = (x.kids.writes.map (kidS 4)).flatten := by unfold Nd.write writeK; rw [if_neg (by omega), if_pos h]
theorem Nd.write_alt {x : Nd} (h : x.kind = 5) : x.write = barsS (x.kids.writes.map (kidS 5)) := by unfold Nd.write writeK; rw [if_neg (by omega), if_neg (by omega), if_pos h]
theorem Nd.write_post {x : Nd} (h : 6 ≤ x.kind ∧ x.kind ≤ 8) : x.write = kidS x.kind (x.kids.writes.headD (0, [])) ++ [lexK (x.kind - 1)] := by unfold Nd.write writeK; rw [if_neg (by omega), if_neg (by omega), if_neg (by omega), if_pos h]
theorem Nd.write_rep {x : Nd} (h : x.kind = 9) : x.write = kidS 9 (x.kids.writes.headD (0, [])) ++ [⟨8, 0, noSet, x.lo, x.hi⟩] := by unfold Nd.write writeK; rw [if_neg (by omega), if_neg (by omega), if_neg (by omega), if_neg (by omega), if_pos h, h]
theorem Nd.write_empty {x : Nd} (h : x.kind = 2) : x.write = [] := by unfold Nd.write writeK; rw [if_neg (by omega), if_neg (by omega), if_neg (by omega), if_neg (by omega), if_neg (by omega)]
theorem kidS_len (p : Int) (q : Int × List Lex) : (kidS p q).length ≤ q.2.length + 2 := by
 unfold kidS
 split
 ·simp
 ·omega
def costW (l : List (Int × List Lex)) : Nat := (l.map fun q => q.2.length + 3).sum
theorem costW_flat (p : Int) : ∀ l : List (Int × List Lex), ((l.map (kidS p)).flatten).length ≤ costW l
 | [] => by simp
 | q :: l => by
  have h1 := costW_flat p l
  have h2 := kidS_len p q
  unfold costW at *
  simp only [List.map_cons, List.flatten_cons, List.length_append, List.sum_cons]
  omega
theorem costW_bars (p : Int) : ∀ l : List (Int × List Lex), ((l.map (kidS p)).flatMap fun x => lexK 4 :: x).length ≤ costW l
 | [] => by simp
 | q :: l => by
  have h1 := costW_bars p l
  have h2 := kidS_len p q
  unfold costW at *
  simp only [List.map_cons, List.flatMap_cons, List.length_append, List.sum_cons, List.length_cons]
  omega
theorem costW_head (p : Int) (l : List (Int × List Lex)) : (kidS p (l.headD (0, []))).length ≤ costW l + 2 := by
 cases l with
 | nil => exact Nat.le_trans (kidS_len _ _) (by simp [costW])
 | cons q l =>
  have := kidS_len p q
  unfold costW
  simp only [List.headD_cons, List.map_cons, List.sum_cons]
  omega
theorem writeK_len (k : Int) (s : Nat) (lo hi : Int) (ks : List (Int × List Lex)) : (writeK k s lo hi ks).length ≤ costW ks + 3 := by
 unfold writeK
 have h1 := costW_flat 4 ks
 have h2 := costW_bars 5 ks
 have h3 := costW_head k ks
 unfold barsS
 repeat' split
 all_goals (try simp only [List.length_append, List.length_cons, List.length_nil, List.length_drop])
 all_goals omega
theorem Trees.cost_le : ∀ F : Trees, costW F.writes ≤ 6 * F.size
 | .nil => by simp [Trees.writes, costW]
 | .cons k s ks lo hi r => by
  have h1 := Trees.cost_le ks
  have h2 := Trees.cost_le r
  have h3 := writeK_len k s lo hi ks.writes
  have e : costW (Trees.cons k s ks lo hi r).writes = (writeK k s lo hi ks.writes).length + 3 + costW r.writes := by simp [costW, Trees.writes]
  rw [e, Trees.size]
  omega
theorem Nd.write_len (x : Nd) : x.write.length ≤ 6 * x.size := by
 have h1 := writeK_len x.kind x.set x.lo x.hi x.kids.writes
 have h2 := x.kids.cost_le
 unfold Nd.write Nd.size
 omega
theorem lexK_right {k : Int} (h : 2 ≤ k ∧ k ≤ 7) : rightS (lexK k) = true := by
 have e0 := word_empty 0 (by decide)
 have e1 := word_empty 1 (by decide)
 have e2 := word_empty 2 (by decide)
 have e3 := word_empty 3 (by decide)
 have h1 : ¬ k = 8 := by omega
 have h2 : ¬ k = 1 := by omega
 unfold rightS rightV lexK
 simp [e0, e1, e2, e3, h1, h2]
 omega
theorem kidS_right {p : Int} {q : Int × List Lex} (h : ∀ y ∈ q.2, rightS y = true) : ∀ y ∈ kidS p q, rightS y = true := by
 intro y hy
 unfold kidS at hy
 split at hy
 ·rcases List.mem_cons.1 hy with rfl | hy
  ·exact lexK_right (by decide)
  ·rcases List.mem_append.1 hy with hy | hy
   ·exact h y hy
   ·rw [List.mem_singleton.1 hy]; exact lexK_right (by decide)
 ·exact h y hy
theorem writeK_right {k : Int} {s : Nat} {lo hi : Int} {ks : List (Int × List Lex)} (h9 : k = 9 → 0 ≤ lo ∧ lo ≤ 1000 ∧ (hi = -1 ∨ lo ≤ hi) ∧ hi ≤ 1000) (h : ∀ q ∈ ks, ∀ y ∈ q.2, rightS y = true) : ∀ y ∈ writeK k s lo hi ks, rightS y = true := by
 have hh : ∀ y ∈ kidS k (ks.headD (0, [])), rightS y = true := by
  refine kidS_right ?_
  cases ks with
  | nil => intro y hy; simp at hy
  | cons q l => exact h q (by simp)
 intro y hy
 unfold writeK at hy
 split at hy
 ·rw [List.mem_singleton.1 hy]; exact right_set 0 _
 split at hy
 ·obtain ⟨l, hl, hy⟩ := List.mem_flatten.1 hy
  obtain ⟨q, hq, rfl⟩ := List.mem_map.1 hl
  exact kidS_right (h q hq) y hy
 split at hy
 ·obtain ⟨l, hl, hy⟩ := List.mem_flatMap.1 (List.mem_of_mem_drop hy)
  obtain ⟨q, hq, rfl⟩ := List.mem_map.1 hl
  rcases List.mem_cons.1 hy with rfl | hy
  ·exact lexK_right (by decide)
  ·exact kidS_right (h q hq) y hy
 split at hy
 ·rcases List.mem_append.1 hy with hy | hy
  ·exact hh y hy
  ·rw [List.mem_singleton.1 hy]; exact lexK_right (by omega)
 split at hy
 ·rename_i hk9
  rcases List.mem_append.1 hy with hy | hy
  ·exact hh y hy
  ·rw [List.mem_singleton.1 hy]
   have := h9 hk9
   have e := right_rep_of 0 lo.toNat hi (by omega) (by omega)
   rw [Int.toNat_of_nonneg this.1] at e
   exact e
 ·cases hy
theorem alone_nine {y : Nd} (h : aloneN y = true) : y.kind = 9 → 0 ≤ y.lo ∧ y.lo ≤ 1000 ∧ (y.hi = -1 ∨ y.lo ≤ y.hi) ∧ y.hi ≤ 1000 := fun h9 => by
 have h1 := numsOk_of h h9
 have h2 := (aloneN_kids h).2.1 h9
 omega
theorem writes_right : ∀ (F : Trees), Okays F → ∀ q ∈ F.writes, ∀ y ∈ q.2, rightS y = true
 | .nil, _, q, hq => by cases hq
 | .cons k s ks lo hi r, ho, q, hq => by
  rw [Trees.writes] at hq
  rcases List.mem_cons.1 hq with rfl | hq
  ·exact writeK_right (alone_nine (y := ⟨k, s, ks, lo, hi⟩) (ho _ (by simp [Trees.nodes]))) (writes_right ks (fun y hy => ho y (by simp [Trees.nodes, hy])))
  ·exact writes_right r (fun y hy => ho y (by simp [Trees.nodes, hy])) q hq
theorem okays_kids {x : Nd} (h : rightT x = true) : aloneN x = true ∧ Okays x.kids := by
 unfold rightT at h
 rw [Bool.and_eq_true] at h
 have := List.all_eq_true.1 h.2
 exact ⟨this x (by simp [Nd.nodes]), fun y hy => this y (by simp [Nd.nodes, hy])⟩
theorem write_right {x : Nd} (h : rightT x = true) : x.write.all rightS = true := by
 obtain ⟨h1, h2⟩ := okays_kids h
 exact List.all_eq_true.2 (writeK_right (alone_nine h1) (writes_right _ h2))
def lexsS (x : Nd) : Except Int (List Lex) := if rightT x = false then .error 6 else match lexemesS x.write with
 | .error _ => .error 4
 | .ok _ => .ok x.write
def showT (x : Nd) : Except Int (List Nat) := match lexsS x with
 | .error e => .error e
 | .ok L => if 65536 < (joinS L).length then .error 4 else .ok (joinS L)
def WrAt (w : World) (base g : Nat) (S : Nat → Prop) (L : List Lex) : Prop :=
 (∀ b, S b → base ≤ b ∧ b < w.heap.size) ∧ S g ∧ ∃ v, Blk w g 181 #[v] ∧ w.ownsRow base 143 8 v L.length (lexCells L) ∧ ∀ b, v.ownBlock = some b → S b
theorem WrAt.keep {w w' : World} {base g : Nat} {S : Nat → Prop} {L : List Lex} (h : WrAt w base g S L) (hs : w.heap.size ≤ w'.heap.size) (hk : ∀ b, S b → w'.heap[b]? = w.heap[b]?) : WrAt w' base g S L := by
 obtain ⟨h0, hg, v, h1, h2, h3⟩ := h
 exact ⟨fun b hb => ⟨(h0 b hb).1, by have := (h0 b hb).2; omega⟩, hg, v, (hk g hg).trans h1, ownsRow_block h2 (fun k e => hk k (h3 k e)), h3⟩
theorem WrAt.lt {w : World} {base g : Nat} {S : Nat → Prop} {L : List Lex} (h : WrAt w base g S L) : ∀ b, S b → b < w.heap.size := fun b hb => (h.1 b hb).2
theorem WrAt.alloc {w : World} {base g : Nat} {S : Nat → Prop} {L : List Lex} (h : WrAt w base g S L) (o : Obj) : WrAt (w.alloc o) base g S L :=
 h.keep (by simp) (fun b hb => Below.heap_alloc w o b (h.lt b hb))
theorem WrAt.below {w w' : World} {base g : Nat} {S : Nat → Prop} {L : List Lex} (h : WrAt w base g S L) (hb : Below w.heap.size w w') : WrAt w' base g S L :=
 h.keep hb.size (fun b hs => hb.block b (h.lt b hs))
theorem WrAt.not {w : World} {base g : Nat} {S : Nat → Prop} {L : List Lex} (h : WrAt w base g S L) {b : Nat} (hb : w.heap.size ≤ b) : ¬ S b := fun h' => by have := h.lt b h'; omega
def WrOut (base g : Nat) (S : Nat → Prop) (w : World) (L : List Lex) (e : Ending) (w' : World) : Prop :=
 e = .returned (.tuple #[]) ∧ ∃ S', WrAt w' base g S' L ∧ Moves base S w S' w'
theorem wr_push {base g gg cap : Nat} {S : Nat → Prop} {L : List Lex} {x : Lex} {w wa w1 : World} {v : Value} {z : Nat} (hH : (∀ b, S b → base ≤ b ∧ b < w.heap.size) ∧ S g ∧ ∀ b, v.ownBlock = some b → S b) (hb : base ≤ w.heap.size) (hG1 : Blk w1 g 181 #[v])
  (ha : Below w.heap.size w wa) (hgrow : wa.grownBy w1 v.ownBlock) (hown : w1.ownsRow base 143 8 (.slice (some ⟨gg, 0, none⟩) (L.length + 1) cap) (L.length + 1) (lexCells L ++ lexCell x)) (hat : v.ownBlock = some gg ∨ gg = z) (hz : w.heap.size ≤ z) :
  ∃ S', WrAt (w1.setCell ⟨g, 0, none⟩ (.slice (some ⟨gg, 0, none⟩) (L.length + 1) cap)) base g S' (L ++ [x]) ∧ Moves base S w S' (w1.setCell ⟨g, 0, none⟩ (.slice (some ⟨gg, 0, none⟩) (L.length + 1) cap)) := by
 obtain ⟨h0, hg, h3⟩ := hH
 have hne := blk_not_row hG1 (by decide) hown
 have hlg := hown.lt gg rfl
 have hM : Moves base S w (fun b => S b ∨ b = gg) w1 := Moves.push h0 hb ha hgrow h3 (by rcases hat with h | h; exact .inl h; exact .inr (by omega))
 have hsz : w.heap.size ≤ w1.heap.size := hM.size
 refine ⟨fun b => S b ∨ b = gg, ⟨fun b hb => ?_, .inl hg, .slice (some ⟨gg, 0, none⟩) (L.length + 1) cap, hG1.set_ 0 _, ?_, fun b h => .inr (by simpa [Value.ownBlock] using h.symm)⟩, hM.setS (p := ⟨g, 0, none⟩) hg (h0 g hg).1 _⟩
 ·simp only [World.setCell, Array.size_modify]
  rcases hb with h | rfl
  ·exact ⟨(h0 b h).1, by have := (h0 b h).2; omega⟩
  ·exact hlg
 ·rw [List.length_append, lexCells_snoc]
  exact own_set hown hne
theorem lexCell_sign (k : Int) : lexCell (lexK k) = [.int .i64 k, .int .i64 0, .int .u64 0, .int .u64 0, .int .u64 0, .int .u64 0, .int .i64 0, .int .i64 0] := rfl
theorem wput_go (base g : Nat) (S : Nat → Prop) (L : List Lex) (k : Int) (w : World) (h : WrAt w base g S L) (hb : base ≤ w.heap.size) (hf : L.length ≤ 100000000) :
  Calls Tryz.prog 207 #[.pointer (some ⟨g, 0, none⟩), .int .i64 k] w (WrOut base g S w (L ++ [lexK k])) := by
 obtain ⟨i0, hi, hz0, hz1, hz2⟩ := info_parts info_lex
 obtain ⟨h0, hg, v, hG, hR, h3⟩ := h
 have s0 := hG.cell 0
 have f0 := hG.frozen 0
 have hlt := Blk.lt hG
 have HG := Lib.hid hG
 have HR := Lib.hid hR
 have HH := Lib.hid (show _ ∧ _ ∧ _ from ⟨h0, hg, h3⟩)
 have hneG := blk_not_row hG (by decide) hR
 have HneG := Lib.hid hneG
 have h63 : L.length + 1 ≤ maxLen := Nat.le_trans (by omega) (show 2000000000000 ≤ maxLen by decide)
 have hby : (L.length + 1) * 64 ≤ 140737488355328 := by omega
 have HS := Lib.hid (lexCell_sign k)
 clear hG hR hneG h0 h3
 go_enter Tryz.func207, Tryz.ntmps207
 go_wp2_with (at_builtin; refine wpList_append_lies _ rfl _ _ 138 rfl base 143 i0 _ 8 64 Tryz.underlying138 hi hz0 hz1 hz2 rfl (by decide) v L.length (lexCells L) rfl (HR.out.alloc _) ⟨w.heap.size, 0, none⟩ 1 1 [.int .i64 k, .int .i64 0, .int .u64 0, .int .u64 0, .int .u64 0, .int .u64 0, .int .i64 0, .int .i64 0] rfl rfl (World.news_of_block (cs := #[.int .i64 k, .int .i64 0, .int .u64 0, .int .u64 0, .int .u64 0, .int .u64 0, .int .i64 0, .int .i64 0]) (t := 143) (fr := (0, 0)) (heap_alloc_new w _)) (by simp [Value.oneCell']) (by decide) h63 hby (by simp; omega) (w.heap.size + 1) (by simp) ?_; intro gg cap' w1 hown1 hgrow hat hlt1; have hG1 := Blk.grown (Blk.alloc HG.out _) hgrow HneG.out; have c0 := hG1.cell 0; have d0 := hG1.frozen 0; have HG1 := Lib.hid hG1; have Hgrow := Lib.hid hgrow; have Hown1 := Lib.hid hown1; have Hat := Lib.hid hat; clear hG1 hgrow hown1 hat)
 go_light
 go_end0
 rw [← HS.out] at Hown1
 exact ⟨rfl, wr_push HH.out hb HG1.out ((Below.refl _ _).alloc (Nat.le_refl _) _) Hgrow.out Hown1.out Hat.out (by omega)⟩
def levelS (k : Int) : Int := if k = 5 then 1 else if k = 4 then 2 else if k = 2 then 0 else 3
theorem level1 (s : Nat) (n : Nat) (lo hi : Int) (B : Option Addr) (cap : Nat) (w : World) :
  Calls Tryz.prog 206 #[.agg #[.int .i64 1, .int .u64 (word s.testBit 0), .int .u64 (word s.testBit 1), .int .u64 (word s.testBit 2), .int .u64 (word s.testBit 3), .slice B n cap, .int .i64 lo, .int .i64 hi]] w fun e w' => e = .returned (.int .i64 3) ∧ Below w.heap.size w w' := by
 have HB := Lib.hid (((Below.refl w.heap.size w).alloc (Nat.le_refl _) (.cells #[.int .i64 1, .int .u64 (word s.testBit 0), .int .u64 (word s.testBit 1), .int .u64 (word s.testBit 2), .int .u64 (word s.testBit 3), .slice B n cap, .int .i64 lo, .int .i64 hi] 28)).alloc (by simp) (.cells #[.int .i64 0, .int .i64 3, .int .i64 0, .int .i64 3, .int .i64 2, .int .i64 1, .int .i64 3, .int .i64 3, .int .i64 3, .int .i64 3] 173))
 go_enter Tryz.func206, Tryz.ntmps206
 go_wp2
 go_light
 go_ret
 exact ⟨rfl, HB.out⟩
theorem level2 (s : Nat) (n : Nat) (lo hi : Int) (B : Option Addr) (cap : Nat) (w : World) :
  Calls Tryz.prog 206 #[.agg #[.int .i64 2, .int .u64 (word s.testBit 0), .int .u64 (word s.testBit 1), .int .u64 (word s.testBit 2), .int .u64 (word s.testBit 3), .slice B n cap, .int .i64 lo, .int .i64 hi]] w fun e w' => e = .returned (.int .i64 0) ∧ Below w.heap.size w w' := by
 have HB := Lib.hid (((Below.refl w.heap.size w).alloc (Nat.le_refl _) (.cells #[.int .i64 2, .int .u64 (word s.testBit 0), .int .u64 (word s.testBit 1), .int .u64 (word s.testBit 2), .int .u64 (word s.testBit 3), .slice B n cap, .int .i64 lo, .int .i64 hi] 28)).alloc (by simp) (.cells #[.int .i64 0, .int .i64 3, .int .i64 0, .int .i64 3, .int .i64 2, .int .i64 1, .int .i64 3, .int .i64 3, .int .i64 3, .int .i64 3] 173))
 go_enter Tryz.func206, Tryz.ntmps206
 go_wp2
 go_light
 go_ret
 exact ⟨rfl, HB.out⟩
theorem level3 (s : Nat) (n : Nat) (lo hi : Int) (B : Option Addr) (cap : Nat) (w : World) :
  Calls Tryz.prog 206 #[.agg #[.int .i64 3, .int .u64 (word s.testBit 0), .int .u64 (word s.testBit 1), .int .u64 (word s.testBit 2), .int .u64 (word s.testBit 3), .slice B n cap, .int .i64 lo, .int .i64 hi]] w fun e w' => e = .returned (.int .i64 3) ∧ Below w.heap.size w w' := by
 have HB := Lib.hid (((Below.refl w.heap.size w).alloc (Nat.le_refl _) (.cells #[.int .i64 3, .int .u64 (word s.testBit 0), .int .u64 (word s.testBit 1), .int .u64 (word s.testBit 2), .int .u64 (word s.testBit 3), .slice B n cap, .int .i64 lo, .int .i64 hi] 28)).alloc (by simp) (.cells #[.int .i64 0, .int .i64 3, .int .i64 0, .int .i64 3, .int .i64 2, .int .i64 1, .int .i64 3, .int .i64 3, .int .i64 3, .int .i64 3] 173))
 go_enter Tryz.func206, Tryz.ntmps206
 go_wp2
 go_light
 go_ret
 exact ⟨rfl, HB.out⟩
theorem level4 (s : Nat) (n : Nat) (lo hi : Int) (B : Option Addr) (cap : Nat) (w : World) :
  Calls Tryz.prog 206 #[.agg #[.int .i64 4, .int .u64 (word s.testBit 0), .int .u64 (word s.testBit 1), .int .u64 (word s.testBit 2), .int .u64 (word s.testBit 3), .slice B n cap, .int .i64 lo, .int .i64 hi]] w fun e w' => e = .returned (.int .i64 2) ∧ Below w.heap.size w w' := by
 have HB := Lib.hid (((Below.refl w.heap.size w).alloc (Nat.le_refl _) (.cells #[.int .i64 4, .int .u64 (word s.testBit 0), .int .u64 (word s.testBit 1), .int .u64 (word s.testBit 2), .int .u64 (word s.testBit 3), .slice B n cap, .int .i64 lo, .int .i64 hi] 28)).alloc (by simp) (.cells #[.int .i64 0, .int .i64 3, .int .i64 0, .int .i64 3, .int .i64 2, .int .i64 1, .int .i64 3, .int .i64 3, .int .i64 3, .int .i64 3] 173))
 go_enter Tryz.func206, Tryz.ntmps206
 go_wp2
 go_light
 go_ret
 exact ⟨rfl, HB.out⟩
theorem level5 (s : Nat) (n : Nat) (lo hi : Int) (B : Option Addr) (cap : Nat) (w : World) :
  Calls Tryz.prog 206 #[.agg #[.int .i64 5, .int .u64 (word s.testBit 0), .int .u64 (word s.testBit 1), .int .u64 (word s.testBit 2), .int .u64 (word s.testBit 3), .slice B n cap, .int .i64 lo, .int .i64 hi]] w fun e w' => e = .returned (.int .i64 1) ∧ Below w.heap.size w w' := by
 have HB := Lib.hid (((Below.refl w.heap.size w).alloc (Nat.le_refl _) (.cells #[.int .i64 5, .int .u64 (word s.testBit 0), .int .u64 (word s.testBit 1), .int .u64 (word s.testBit 2), .int .u64 (word s.testBit 3), .slice B n cap, .int .i64 lo, .int .i64 hi] 28)).alloc (by simp) (.cells #[.int .i64 0, .int .i64 3, .int .i64 0, .int .i64 3, .int .i64 2, .int .i64 1, .int .i64 3, .int .i64 3, .int .i64 3, .int .i64 3] 173))
 go_enter Tryz.func206, Tryz.ntmps206
 go_wp2
 go_light
 go_ret
 exact ⟨rfl, HB.out⟩
theorem level6 (s : Nat) (n : Nat) (lo hi : Int) (B : Option Addr) (cap : Nat) (w : World) :
  Calls Tryz.prog 206 #[.agg #[.int .i64 6, .int .u64 (word s.testBit 0), .int .u64 (word s.testBit 1), .int .u64 (word s.testBit 2), .int .u64 (word s.testBit 3), .slice B n cap, .int .i64 lo, .int .i64 hi]] w fun e w' => e = .returned (.int .i64 3) ∧ Below w.heap.size w w' := by
 have HB := Lib.hid (((Below.refl w.heap.size w).alloc (Nat.le_refl _) (.cells #[.int .i64 6, .int .u64 (word s.testBit 0), .int .u64 (word s.testBit 1), .int .u64 (word s.testBit 2), .int .u64 (word s.testBit 3), .slice B n cap, .int .i64 lo, .int .i64 hi] 28)).alloc (by simp) (.cells #[.int .i64 0, .int .i64 3, .int .i64 0, .int .i64 3, .int .i64 2, .int .i64 1, .int .i64 3, .int .i64 3, .int .i64 3, .int .i64 3] 173))
 go_enter Tryz.func206, Tryz.ntmps206
 go_wp2
 go_light
 go_ret
 exact ⟨rfl, HB.out⟩
theorem level7 (s : Nat) (n : Nat) (lo hi : Int) (B : Option Addr) (cap : Nat) (w : World) :
  Calls Tryz.prog 206 #[.agg #[.int .i64 7, .int .u64 (word s.testBit 0), .int .u64 (word s.testBit 1), .int .u64 (word s.testBit 2), .int .u64 (word s.testBit 3), .slice B n cap, .int .i64 lo, .int .i64 hi]] w fun e w' => e = .returned (.int .i64 3) ∧ Below w.heap.size w w' := by
 have HB := Lib.hid (((Below.refl w.heap.size w).alloc (Nat.le_refl _) (.cells #[.int .i64 7, .int .u64 (word s.testBit 0), .int .u64 (word s.testBit 1), .int .u64 (word s.testBit 2), .int .u64 (word s.testBit 3), .slice B n cap, .int .i64 lo, .int .i64 hi] 28)).alloc (by simp) (.cells #[.int .i64 0, .int .i64 3, .int .i64 0, .int .i64 3, .int .i64 2, .int .i64 1, .int .i64 3, .int .i64 3, .int .i64 3, .int .i64 3] 173))
 go_enter Tryz.func206, Tryz.ntmps206
 go_wp2
 go_light
 go_ret
 exact ⟨rfl, HB.out⟩
theorem level8 (s : Nat) (n : Nat) (lo hi : Int) (B : Option Addr) (cap : Nat) (w : World) :
  Calls Tryz.prog 206 #[.agg #[.int .i64 8, .int .u64 (word s.testBit 0), .int .u64 (word s.testBit 1), .int .u64 (word s.testBit 2), .int .u64 (word s.testBit 3), .slice B n cap, .int .i64 lo, .int .i64 hi]] w fun e w' => e = .returned (.int .i64 3) ∧ Below w.heap.size w w' := by
 have HB := Lib.hid (((Below.refl w.heap.size w).alloc (Nat.le_refl _) (.cells #[.int .i64 8, .int .u64 (word s.testBit 0), .int .u64 (word s.testBit 1), .int .u64 (word s.testBit 2), .int .u64 (word s.testBit 3), .slice B n cap, .int .i64 lo, .int .i64 hi] 28)).alloc (by simp) (.cells #[.int .i64 0, .int .i64 3, .int .i64 0, .int .i64 3, .int .i64 2, .int .i64 1, .int .i64 3, .int .i64 3, .int .i64 3, .int .i64 3] 173))
 go_enter Tryz.func206, Tryz.ntmps206
 go_wp2
 go_light
 go_ret
 exact ⟨rfl, HB.out⟩
theorem level9 (s : Nat) (n : Nat) (lo hi : Int) (B : Option Addr) (cap : Nat) (w : World) :
  Calls Tryz.prog 206 #[.agg #[.int .i64 9, .int .u64 (word s.testBit 0), .int .u64 (word s.testBit 1), .int .u64 (word s.testBit 2), .int .u64 (word s.testBit 3), .slice B n cap, .int .i64 lo, .int .i64 hi]] w fun e w' => e = .returned (.int .i64 3) ∧ Below w.heap.size w w' := by
 have HB := Lib.hid (((Below.refl w.heap.size w).alloc (Nat.le_refl _) (.cells #[.int .i64 9, .int .u64 (word s.testBit 0), .int .u64 (word s.testBit 1), .int .u64 (word s.testBit 2), .int .u64 (word s.testBit 3), .slice B n cap, .int .i64 lo, .int .i64 hi] 28)).alloc (by simp) (.cells #[.int .i64 0, .int .i64 3, .int .i64 0, .int .i64 3, .int .i64 2, .int .i64 1, .int .i64 3, .int .i64 3, .int .i64 3, .int .i64 3] 173))
 go_enter Tryz.func206, Tryz.ntmps206
 go_wp2
 go_light
 go_ret
 exact ⟨rfl, HB.out⟩
theorem level_go (z : Nd) (B : Option Addr) (cap : Nat) (w : World) (h1 : 1 ≤ z.kind) (h9 : z.kind ≤ 9) :
  Calls Tryz.prog 206 #[ndV z B cap] w fun e w' => e = .returned (.int .i64 (levelS z.kind)) ∧ Below w.heap.size w w' := by
 unfold ndV
 rcases (show z.kind = 1 ∨ z.kind = 2 ∨ z.kind = 3 ∨ z.kind = 4 ∨ z.kind = 5 ∨ z.kind = 6 ∨ z.kind = 7 ∨ z.kind = 8 ∨ z.kind = 9 by omega) with h | h | h | h | h | h | h | h | h <;> rw [h]
 ·exact level1 _ _ _ _ _ _ w
 ·exact level2 _ _ _ _ _ _ w
 ·exact level3 _ _ _ _ _ _ w
 ·exact level4 _ _ _ _ _ _ w
 ·exact level5 _ _ _ _ _ _ w
 ·exact level6 _ _ _ _ _ _ w
 ·exact level7 _ _ _ _ _ _ w
 ·exact level8 _ _ _ _ _ _ w
 ·exact level9 _ _ _ _ _ _ w
def WriteC (x : Nd) : Prop := ∀ (B : Option Addr) (cap base g : Nat) (S : Nat → Prop) (L : List Lex) (w : World), TreesAt w (fun b => ¬ S b) x.kids B → WrAt w base g S L → base ≤ w.heap.size → L.length + x.write.length ≤ 90000000 →
 Calls Tryz.prog 161 #[.pointer (some ⟨g, 0, none⟩), ndV x B cap] w (WrOut base g S w (L ++ x.write))
theorem cell_blk {w w' : World} {b o : Nat} (h : w'.heap[b]? = w.heap[b]?) : w'.cell? ⟨b, o, none⟩ = w.cell? ⟨b, o, none⟩ := by
 simp only [World.cell?, h]
theorem TreesAt.movesW {base : Nat} {S S1 : Nat → Prop} {w w1 : World} {F : Trees} {B : Option Addr} (h : TreesAt w (fun b => ¬ S b) F B) (hm : Moves base S w S1 w1) : TreesAt w1 (fun b => ¬ S1 b) F B :=
 h.keep (fun b o hb hl => cell_blk (hm.kept b hl hb)) (fun b hb hl => hm.notIn hl hb)
structure KFr (w : World) (base g pb : Nat) (S : Nat → Prop) (nd : Array Value) (S1 : Nat → Prop) (L : List Lex) (w1 : World) : Prop where
 x : Blk w1 w.heap.size 28 nd
 p : w1.cell? ⟨pb, 0, none⟩ = some (.pointer (some ⟨g, 0, none⟩))
 wr : WrAt w1 base g S1 L
 mvs : Moves base S w S1 w1
 nx : ¬ S1 w.heap.size
 np : ¬ S1 pb
 hb : base ≤ w.heap.size
 hpl : pb < w.heap.size
theorem KFr.start {w : World} {base g pb : Nat} {S : Nat → Prop} {L : List Lex} (nd : Array Value) (h : WrAt w base g S L) (hb : base ≤ w.heap.size) (hp : w.cell? ⟨pb, 0, none⟩ = some (.pointer (some ⟨g, 0, none⟩))) (hnp : ¬ S pb) : KFr w base g pb S nd S L (w.alloc (.cells nd 28)) :=
 have hl := World.block_lt_of_cell? w _ hp
 ⟨Blk.new w _ _, (cell_blk (Below.heap_alloc w _ pb hl)).trans hp, h.alloc _, (Moves.refl base S w).alloc hb _, h.not (Nat.le_refl _), hnp, hb, hl⟩
theorem KFr.go {w w1 : World} {base g pb : Nat} {S S1 : Nat → Prop} {L : List Lex} {nd : Array Value} (h : KFr w base g pb S nd S1 L w1) {w2 : World} {S2 : Nat → Prop} {L2 : List Lex} (hm : WrAt w2 base g S2 L2) (hv : Moves base S1 w1 S2 w2) : KFr w base g pb S nd S2 L2 w2 :=
 have hl : pb < w1.heap.size := World.block_lt_of_cell? w1 _ h.p
 ⟨h.x.moves hv h.nx, (cell_blk (hv.kept pb hl h.np)).trans h.p, hm, h.mvs.trans hv, hv.notIn h.x.lt h.nx, hv.notIn hl h.np, h.hb, h.hpl⟩
theorem KFr.below {w w1 : World} {base g pb : Nat} {S S1 : Nat → Prop} {L : List Lex} {nd : Array Value} (h : KFr w base g pb S nd S1 L w1) {w2 : World} (hB : Below w1.heap.size w1 w2) : KFr w base g pb S nd S1 L w2 :=
 h.go (h.wr.below hB) (Moves.of_below hB (by have := h.mvs.size; have := h.hb; omega))
theorem KFr.size {w w1 : World} {base g pb : Nat} {S S1 : Nat → Prop} {L : List Lex} {nd : Array Value} (h : KFr w base g pb S nd S1 L w1) : base ≤ w1.heap.size := by
 have := h.mvs.size; have := h.hb; omega
theorem kid_openA (z : Nd) (C : Option Addr) (cap : Nat) (least : Int) (base g pb : Nat) (S : Nat → Prop) (L : List Lex) (w : World) (ht : TreesAt w (fun b => ¬ S b) z.kids C) (h : WrAt w base g S L) (hb : base ≤ w.heap.size) (hp : w.cell? ⟨pb, 0, none⟩ = some (.pointer (some ⟨g, 0, none⟩))) (hnp : ¬ S pb) (hk1 : 1 ≤ z.kind) (hk9 : z.kind ≤ 9) (hW : WriteC z) (hl : L.length + z.write.length + 2 ≤ 90000000) (h1 : levelS z.kind < least) (h2 : 2 < least) : Calls Tryz.prog 205 #[ndV z C cap, .int .i64 least, .pointer (some ⟨pb, 0, none⟩)] w (WrOut base g S w (L ++ (lexK 2 :: (z.write ++ [lexK 3])))) := by
 have hF1 := KFr.start #[.int .i64 z.kind, .int .u64 (word z.set.testBit 0), .int .u64 (word z.set.testBit 1), .int .u64 (word z.set.testBit 2), .int .u64 (word z.set.testBit 3), .slice C z.kids.len cap, .int .i64 z.lo, .int .i64 z.hi] h hb hp hnp
 have HL1 := Lib.hid (level_go z C cap (w.alloc (.cells #[.int .i64 z.kind, .int .u64 (word z.set.testBit 0), .int .u64 (word z.set.testBit 1), .int .u64 (word z.set.testBit 2), .int .u64 (word z.set.testBit 3), .slice C z.kids.len cap, .int .i64 z.lo, .int .i64 z.hi] 28)) hk1 hk9)
 have HLV := Lib.hid (fun (w' : World) => level_go z C cap w' hk1 hk9)
 have HF1 := Lib.hid hF1
 have HT := Lib.hid ht
 have HW := Lib.hid hW
 unfold ndV at HL1 HLV ⊢
 generalize levelS z.kind = lv at *
 clear hF1 ht hW h hp hnp hk1 hk9
 go_enter Tryz.func205, Tryz.ntmps205
 go_wp2_with fail
 refine HL1.out.mono ?_
 rintro e w2 ⟨rfl, hb2⟩
 have hF2 := HF1.out.below hb2
 have n0 := (hF2).x.cell 0
 have n1 := (hF2).x.cell 1
 have n2 := (hF2).x.cell 2
 have n3 := (hF2).x.cell 3
 have n4 := (hF2).x.cell 4
 have n5 := (hF2).x.cell 5
 have n6 := (hF2).x.cell 6
 have n7 := (hF2).x.cell 7
 have p0 := (hF2).p
 have hlx := (hF2).x.lt
 simp only [getH] at n0 n1 n2 n3 n4 n5 n6 n7
 have HF2 := Lib.hid hF2
 clear hF2 HF1 HL1 hb2
 dsimp only
 have HP := Lib.hid (wput_go base g S L 2 w2 (HF2).out.wr (HF2).out.size (by omega))
 go_wp2_with fail
 refine HP.out.mono ?_
 rintro e w4 ⟨rfl, S4, hm4, hv4⟩
 have hF4 := (HF2).out.go hm4 hv4
 clear n0 n1 n2 n3 n4 n5 n6 n7 p0 hlx
 have n0 := (hF4).x.cell 0
 have n1 := (hF4).x.cell 1
 have n2 := (hF4).x.cell 2
 have n3 := (hF4).x.cell 3
 have n4 := (hF4).x.cell 4
 have n5 := (hF4).x.cell 5
 have n6 := (hF4).x.cell 6
 have n7 := (hF4).x.cell 7
 have p0 := (hF4).p
 have hlx := (hF4).x.lt
 simp only [getH] at n0 n1 n2 n3 n4 n5 n6 n7
 have HF4 := Lib.hid hF4
 clear hF4 hm4 hv4 HP HF2
 dsimp only
 have HI := Lib.hid (HW.out C cap base g S4 (L ++ [lexK 2]) w4 (HT.out.movesW (HF4).out.mvs) (HF4).out.wr (HF4).out.size (by (try simp only [List.length_append, List.length_cons, List.length_nil]); omega))
 unfold ndV at HI
 go_wp2_with fail
 refine HI.out.mono ?_
 rintro e w5 ⟨rfl, S5, hm5, hv5⟩
 have hF5 := (HF4).out.go hm5 hv5
 clear n0 n1 n2 n3 n4 n5 n6 n7 p0 hlx
 have n0 := (hF5).x.cell 0
 have n1 := (hF5).x.cell 1
 have n2 := (hF5).x.cell 2
 have n3 := (hF5).x.cell 3
 have n4 := (hF5).x.cell 4
 have n5 := (hF5).x.cell 5
 have n6 := (hF5).x.cell 6
 have n7 := (hF5).x.cell 7
 have p0 := (hF5).p
 have hlx := (hF5).x.lt
 simp only [getH] at n0 n1 n2 n3 n4 n5 n6 n7
 have HF5 := Lib.hid hF5
 clear hF5 hm5 hv5 HI
 dsimp only
 have HP := Lib.hid (wput_go base g S5 (L ++ [lexK 2] ++ z.write) 3 w5 HF5.out.wr HF5.out.size (by (try simp only [List.length_append, List.length_cons, List.length_nil]); omega))
 go_wp2_with fail
 refine HP.out.mono ?_
 rintro e w6 ⟨rfl, S6, hm6, hv6⟩
 have HF6 := Lib.hid (HF5.out.go hm6 hv6)
 clear n0 n1 n2 n3 n4 n5 n6 n7 p0 hlx
 clear hm6 hv6 HP HF5
 dsimp only
 go_wp2
 go_light
 go_end0
 have e6 : L ++ (lexK 2 :: (z.write ++ [lexK 3])) = L ++ [lexK 2] ++ z.write ++ [lexK 3] := by simp
 rw [e6]
 exact ⟨rfl, S6, HF6.out.wr, HF6.out.mvs⟩
theorem kid_openB (z : Nd) (C : Option Addr) (cap : Nat) (least : Int) (base g pb : Nat) (S : Nat → Prop) (L : List Lex) (w : World) (ht : TreesAt w (fun b => ¬ S b) z.kids C) (h : WrAt w base g S L) (hb : base ≤ w.heap.size) (hp : w.cell? ⟨pb, 0, none⟩ = some (.pointer (some ⟨g, 0, none⟩))) (hnp : ¬ S pb) (hk1 : 1 ≤ z.kind) (hk9 : z.kind ≤ 9) (hW : WriteC z) (hl : L.length + z.write.length + 2 ≤ 90000000) (h1 : levelS z.kind < least) (h2 : ¬ 2 < least) (h3 : 0 < levelS z.kind) : Calls Tryz.prog 205 #[ndV z C cap, .int .i64 least, .pointer (some ⟨pb, 0, none⟩)] w (WrOut base g S w (L ++ (lexK 2 :: (z.write ++ [lexK 3])))) := by
 have hF1 := KFr.start #[.int .i64 z.kind, .int .u64 (word z.set.testBit 0), .int .u64 (word z.set.testBit 1), .int .u64 (word z.set.testBit 2), .int .u64 (word z.set.testBit 3), .slice C z.kids.len cap, .int .i64 z.lo, .int .i64 z.hi] h hb hp hnp
 have HL1 := Lib.hid (level_go z C cap (w.alloc (.cells #[.int .i64 z.kind, .int .u64 (word z.set.testBit 0), .int .u64 (word z.set.testBit 1), .int .u64 (word z.set.testBit 2), .int .u64 (word z.set.testBit 3), .slice C z.kids.len cap, .int .i64 z.lo, .int .i64 z.hi] 28)) hk1 hk9)
 have HLV := Lib.hid (fun (w' : World) => level_go z C cap w' hk1 hk9)
 have HF1 := Lib.hid hF1
 have HT := Lib.hid ht
 have HW := Lib.hid hW
 unfold ndV at HL1 HLV ⊢
 generalize levelS z.kind = lv at *
 clear hF1 ht hW h hp hnp hk1 hk9
 go_enter Tryz.func205, Tryz.ntmps205
 go_wp2_with fail
 refine HL1.out.mono ?_
 rintro e w2 ⟨rfl, hb2⟩
 have hF2 := HF1.out.below hb2
 have n0 := (hF2).x.cell 0
 have n1 := (hF2).x.cell 1
 have n2 := (hF2).x.cell 2
 have n3 := (hF2).x.cell 3
 have n4 := (hF2).x.cell 4
 have n5 := (hF2).x.cell 5
 have n6 := (hF2).x.cell 6
 have n7 := (hF2).x.cell 7
 have p0 := (hF2).p
 have hlx := (hF2).x.lt
 simp only [getH] at n0 n1 n2 n3 n4 n5 n6 n7
 have HF2 := Lib.hid hF2
 clear hF2 HF1 HL1 hb2
 dsimp only
 go_wp2_with fail
 refine (HLV.out _).mono ?_
 rintro e w3 ⟨rfl, hb3⟩
 have hF3 := HF2.out.below hb3
 clear n0 n1 n2 n3 n4 n5 n6 n7 p0 hlx
 have n0 := (hF3).x.cell 0
 have n1 := (hF3).x.cell 1
 have n2 := (hF3).x.cell 2
 have n3 := (hF3).x.cell 3
 have n4 := (hF3).x.cell 4
 have n5 := (hF3).x.cell 5
 have n6 := (hF3).x.cell 6
 have n7 := (hF3).x.cell 7
 have p0 := (hF3).p
 have hlx := (hF3).x.lt
 simp only [getH] at n0 n1 n2 n3 n4 n5 n6 n7
 have HF3 := Lib.hid hF3
 clear hF3 hb3 HF2
 dsimp only
 have HP := Lib.hid (wput_go base g S L 2 w3 (HF3).out.wr (HF3).out.size (by omega))
 go_wp2_with fail
 refine HP.out.mono ?_
 rintro e w4 ⟨rfl, S4, hm4, hv4⟩
 have hF4 := (HF3).out.go hm4 hv4
 clear n0 n1 n2 n3 n4 n5 n6 n7 p0 hlx
 have n0 := (hF4).x.cell 0
 have n1 := (hF4).x.cell 1
 have n2 := (hF4).x.cell 2
 have n3 := (hF4).x.cell 3
 have n4 := (hF4).x.cell 4
 have n5 := (hF4).x.cell 5
 have n6 := (hF4).x.cell 6
 have n7 := (hF4).x.cell 7
 have p0 := (hF4).p
 have hlx := (hF4).x.lt
 simp only [getH] at n0 n1 n2 n3 n4 n5 n6 n7
 have HF4 := Lib.hid hF4
 clear hF4 hm4 hv4 HP HF3
 dsimp only
 have HI := Lib.hid (HW.out C cap base g S4 (L ++ [lexK 2]) w4 (HT.out.movesW (HF4).out.mvs) (HF4).out.wr (HF4).out.size (by (try simp only [List.length_append, List.length_cons, List.length_nil]); omega))
 unfold ndV at HI
 go_wp2_with fail
 refine HI.out.mono ?_
 rintro e w5 ⟨rfl, S5, hm5, hv5⟩
 have hF5 := (HF4).out.go hm5 hv5
 clear n0 n1 n2 n3 n4 n5 n6 n7 p0 hlx
 have n0 := (hF5).x.cell 0
 have n1 := (hF5).x.cell 1
 have n2 := (hF5).x.cell 2
 have n3 := (hF5).x.cell 3
 have n4 := (hF5).x.cell 4
 have n5 := (hF5).x.cell 5
 have n6 := (hF5).x.cell 6
 have n7 := (hF5).x.cell 7
 have p0 := (hF5).p
 have hlx := (hF5).x.lt
 simp only [getH] at n0 n1 n2 n3 n4 n5 n6 n7
 have HF5 := Lib.hid hF5
 clear hF5 hm5 hv5 HI
 dsimp only
 have HP := Lib.hid (wput_go base g S5 (L ++ [lexK 2] ++ z.write) 3 w5 HF5.out.wr HF5.out.size (by (try simp only [List.length_append, List.length_cons, List.length_nil]); omega))
 go_wp2_with fail
 refine HP.out.mono ?_
 rintro e w6 ⟨rfl, S6, hm6, hv6⟩
 have HF6 := Lib.hid (HF5.out.go hm6 hv6)
 clear n0 n1 n2 n3 n4 n5 n6 n7 p0 hlx
 clear hm6 hv6 HP HF5
 dsimp only
 go_wp2
 go_light
 go_end0
 have e6 : L ++ (lexK 2 :: (z.write ++ [lexK 3])) = L ++ [lexK 2] ++ z.write ++ [lexK 3] := by simp
 rw [e6]
 exact ⟨rfl, S6, HF6.out.wr, HF6.out.mvs⟩
theorem kid_plainC (z : Nd) (C : Option Addr) (cap : Nat) (least : Int) (base g pb : Nat) (S : Nat → Prop) (L : List Lex) (w : World) (ht : TreesAt w (fun b => ¬ S b) z.kids C) (h : WrAt w base g S L) (hb : base ≤ w.heap.size) (hp : w.cell? ⟨pb, 0, none⟩ = some (.pointer (some ⟨g, 0, none⟩))) (hnp : ¬ S pb) (hk1 : 1 ≤ z.kind) (hk9 : z.kind ≤ 9) (hW : WriteC z) (hl : L.length + z.write.length ≤ 90000000) (h1 : ¬ levelS z.kind < least) : Calls Tryz.prog 205 #[ndV z C cap, .int .i64 least, .pointer (some ⟨pb, 0, none⟩)] w (WrOut base g S w (L ++ z.write)) := by
 have hF1 := KFr.start #[.int .i64 z.kind, .int .u64 (word z.set.testBit 0), .int .u64 (word z.set.testBit 1), .int .u64 (word z.set.testBit 2), .int .u64 (word z.set.testBit 3), .slice C z.kids.len cap, .int .i64 z.lo, .int .i64 z.hi] h hb hp hnp
 have HL1 := Lib.hid (level_go z C cap (w.alloc (.cells #[.int .i64 z.kind, .int .u64 (word z.set.testBit 0), .int .u64 (word z.set.testBit 1), .int .u64 (word z.set.testBit 2), .int .u64 (word z.set.testBit 3), .slice C z.kids.len cap, .int .i64 z.lo, .int .i64 z.hi] 28)) hk1 hk9)
 have HLV := Lib.hid (fun (w' : World) => level_go z C cap w' hk1 hk9)
 have HF1 := Lib.hid hF1
 have HT := Lib.hid ht
 have HW := Lib.hid hW
 unfold ndV at HL1 HLV ⊢
 generalize levelS z.kind = lv at *
 clear hF1 ht hW h hp hnp hk1 hk9
 go_enter Tryz.func205, Tryz.ntmps205
 go_wp2_with fail
 refine HL1.out.mono ?_
 rintro e w2 ⟨rfl, hb2⟩
 have hF2 := HF1.out.below hb2
 have n0 := (hF2).x.cell 0
 have n1 := (hF2).x.cell 1
 have n2 := (hF2).x.cell 2
 have n3 := (hF2).x.cell 3
 have n4 := (hF2).x.cell 4
 have n5 := (hF2).x.cell 5
 have n6 := (hF2).x.cell 6
 have n7 := (hF2).x.cell 7
 have p0 := (hF2).p
 have hlx := (hF2).x.lt
 simp only [getH] at n0 n1 n2 n3 n4 n5 n6 n7
 have HF2 := Lib.hid hF2
 clear hF2 HF1 HL1 hb2
 dsimp only
 have HI := Lib.hid (HW.out C cap base g S L w2 (HT.out.movesW (HF2).out.mvs) (HF2).out.wr (HF2).out.size (by (try simp only [List.length_append, List.length_cons, List.length_nil]); omega))
 unfold ndV at HI
 go_wp2_with fail
 refine HI.out.mono ?_
 rintro e w5 ⟨rfl, S5, hm5, hv5⟩
 have hF5 := (HF2).out.go hm5 hv5
 clear n0 n1 n2 n3 n4 n5 n6 n7 p0 hlx
 have n0 := (hF5).x.cell 0
 have n1 := (hF5).x.cell 1
 have n2 := (hF5).x.cell 2
 have n3 := (hF5).x.cell 3
 have n4 := (hF5).x.cell 4
 have n5 := (hF5).x.cell 5
 have n6 := (hF5).x.cell 6
 have n7 := (hF5).x.cell 7
 have p0 := (hF5).p
 have hlx := (hF5).x.lt
 simp only [getH] at n0 n1 n2 n3 n4 n5 n6 n7
 have HF5 := Lib.hid hF5
 clear hF5 hm5 hv5 HI
 dsimp only
 go_wp2
 go_light
 go_end0
 exact ⟨rfl, S5, HF5.out.wr, HF5.out.mvs⟩
theorem kid_plainD (z : Nd) (C : Option Addr) (cap : Nat) (least : Int) (base g pb : Nat) (S : Nat → Prop) (L : List Lex) (w : World) (ht : TreesAt w (fun b => ¬ S b) z.kids C) (h : WrAt w base g S L) (hb : base ≤ w.heap.size) (hp : w.cell? ⟨pb, 0, none⟩ = some (.pointer (some ⟨g, 0, none⟩))) (hnp : ¬ S pb) (hk1 : 1 ≤ z.kind) (hk9 : z.kind ≤ 9) (hW : WriteC z) (hl : L.length + z.write.length ≤ 90000000) (h1 : levelS z.kind < least) (h2 : ¬ 2 < least) (h3 : ¬ 0 < levelS z.kind) : Calls Tryz.prog 205 #[ndV z C cap, .int .i64 least, .pointer (some ⟨pb, 0, none⟩)] w (WrOut base g S w (L ++ z.write)) := by
 have hF1 := KFr.start #[.int .i64 z.kind, .int .u64 (word z.set.testBit 0), .int .u64 (word z.set.testBit 1), .int .u64 (word z.set.testBit 2), .int .u64 (word z.set.testBit 3), .slice C z.kids.len cap, .int .i64 z.lo, .int .i64 z.hi] h hb hp hnp
 have HL1 := Lib.hid (level_go z C cap (w.alloc (.cells #[.int .i64 z.kind, .int .u64 (word z.set.testBit 0), .int .u64 (word z.set.testBit 1), .int .u64 (word z.set.testBit 2), .int .u64 (word z.set.testBit 3), .slice C z.kids.len cap, .int .i64 z.lo, .int .i64 z.hi] 28)) hk1 hk9)
 have HLV := Lib.hid (fun (w' : World) => level_go z C cap w' hk1 hk9)
 have HF1 := Lib.hid hF1
 have HT := Lib.hid ht
 have HW := Lib.hid hW
 unfold ndV at HL1 HLV ⊢
 generalize levelS z.kind = lv at *
 clear hF1 ht hW h hp hnp hk1 hk9
 go_enter Tryz.func205, Tryz.ntmps205
 go_wp2_with fail
 refine HL1.out.mono ?_
 rintro e w2 ⟨rfl, hb2⟩
 have hF2 := HF1.out.below hb2
 have n0 := (hF2).x.cell 0
 have n1 := (hF2).x.cell 1
 have n2 := (hF2).x.cell 2
 have n3 := (hF2).x.cell 3
 have n4 := (hF2).x.cell 4
 have n5 := (hF2).x.cell 5
 have n6 := (hF2).x.cell 6
 have n7 := (hF2).x.cell 7
 have p0 := (hF2).p
 have hlx := (hF2).x.lt
 simp only [getH] at n0 n1 n2 n3 n4 n5 n6 n7
 have HF2 := Lib.hid hF2
 clear hF2 HF1 HL1 hb2
 dsimp only
 go_wp2_with fail
 refine (HLV.out _).mono ?_
 rintro e w3 ⟨rfl, hb3⟩
 have hF3 := HF2.out.below hb3
 clear n0 n1 n2 n3 n4 n5 n6 n7 p0 hlx
 have n0 := (hF3).x.cell 0
 have n1 := (hF3).x.cell 1
 have n2 := (hF3).x.cell 2
 have n3 := (hF3).x.cell 3
 have n4 := (hF3).x.cell 4
 have n5 := (hF3).x.cell 5
 have n6 := (hF3).x.cell 6
 have n7 := (hF3).x.cell 7
 have p0 := (hF3).p
 have hlx := (hF3).x.lt
 simp only [getH] at n0 n1 n2 n3 n4 n5 n6 n7
 have HF3 := Lib.hid hF3
 clear hF3 hb3 HF2
 dsimp only
 have HI := Lib.hid (HW.out C cap base g S L w3 (HT.out.movesW (HF3).out.mvs) (HF3).out.wr (HF3).out.size (by (try simp only [List.length_append, List.length_cons, List.length_nil]); omega))
 unfold ndV at HI
 go_wp2_with fail
 refine HI.out.mono ?_
 rintro e w5 ⟨rfl, S5, hm5, hv5⟩
 have hF5 := (HF3).out.go hm5 hv5
 clear n0 n1 n2 n3 n4 n5 n6 n7 p0 hlx
 have n0 := (hF5).x.cell 0
 have n1 := (hF5).x.cell 1
 have n2 := (hF5).x.cell 2
 have n3 := (hF5).x.cell 3
 have n4 := (hF5).x.cell 4
 have n5 := (hF5).x.cell 5
 have n6 := (hF5).x.cell 6
 have n7 := (hF5).x.cell 7
 have p0 := (hF5).p
 have hlx := (hF5).x.lt
 simp only [getH] at n0 n1 n2 n3 n4 n5 n6 n7
 have HF5 := Lib.hid hF5
 clear hF5 hm5 hv5 HI
 dsimp only
 go_wp2
 go_light
 go_end0
 exact ⟨rfl, S5, HF5.out.wr, HF5.out.mvs⟩
def leastS (p : Int) : Int := if p = 5 then 2 else 3
theorem kid_go (p : Int) (z : Nd) (C : Option Addr) (cap : Nat) (least : Int) (base g pb : Nat) (S : Nat → Prop) (L : List Lex) (w : World) (ht : TreesAt w (fun b => ¬ S b) z.kids C) (h : WrAt w base g S L) (hb : base ≤ w.heap.size) (hp : w.cell? ⟨pb, 0, none⟩ = some (.pointer (some ⟨g, 0, none⟩))) (hnp : ¬ S pb) (hk1 : 1 ≤ z.kind) (hk9 : z.kind ≤ 9) (hW : WriteC z) (hl : L.length + (kidS p (z.kind, z.write)).length ≤ 90000000) (hle : least = leastS p) : Calls Tryz.prog 205 #[ndV z C cap, .int .i64 least, .pointer (some ⟨pb, 0, none⟩)] w (WrOut base g S w (L ++ kidS p (z.kind, z.write))) := by
 have hlv : levelS z.kind = 0 ∧ z.kind = 2 ∨ levelS z.kind = 1 ∧ z.kind = 5 ∨ levelS z.kind = 2 ∧ z.kind = 4 ∨ levelS z.kind = 3 ∧ z.kind ≠ 2 ∧ z.kind ≠ 4 ∧ z.kind ≠ 5 := by
  unfold levelS
  repeat' split
  all_goals omega
 unfold leastS at hle
 unfold kidS at hl ⊢
 cases hb' : brS p z.kind with
 | true =>
  rw [if_pos rfl]
  rw [if_pos (show brS p (z.kind, z.write).1 = true from hb')] at hl
  simp only [List.length_cons, List.length_append, List.length_nil] at hl
  have hbr : z.kind = 5 ∨ p ≠ 5 ∧ (z.kind = 4 ∨ z.kind = 2) := by unfold brS at hb'; simpa using hb'
  split at hle
  ·exact kid_openB z C cap least base g pb S L w ht h hb hp hnp hk1 hk9 hW (by omega) (by omega) (by omega) (by omega)
  ·exact kid_openA z C cap least base g pb S L w ht h hb hp hnp hk1 hk9 hW (by omega) (by omega) (by omega)
 | false =>
  rw [if_neg (by decide)]
  rw [if_neg (show ¬ brS p (z.kind, z.write).1 = true from by rw [show brS p (z.kind, z.write).1 = false from hb']; decide)] at hl
  have hbr : z.kind ≠ 5 ∧ (p = 5 ∨ z.kind ≠ 4 ∧ z.kind ≠ 2) := by
   unfold brS at hb'
   simp at hb'
   refine ⟨hb'.1, ?_⟩
   by_cases hp5 : p = 5
   ·exact .inl hp5
   ·exact .inr (hb'.2 hp5)
  by_cases hlt : levelS z.kind < least
  ·split at hle
   ·exact kid_plainD z C cap least base g pb S L w ht h hb hp hnp hk1 hk9 hW hl hlt (by omega) (by omega)
   ·exact absurd hlt (by omega)
  ·exact kid_plainC z C cap least base g pb S L w ht h hb hp hnp hk1 hk9 hW hl hlt
theorem one_kid {x : Nd} (h : x.kids.len = 1) : ∃ z, x.kids.list = [z] ∧ x.kids.list[0]? = some z := by
 have : x.kids.list.length = 1 := by rw [Trees.len_list]; exact h
 obtain ⟨z, hz⟩ := List.length_eq_one_iff.1 this
 exact ⟨z, hz, by rw [hz]; rfl⟩
structure WFr (w : World) (base g : Nat) (S : Nat → Prop) (nd : Array Value) (S1 : Nat → Prop) (L : List Lex) (w1 : World) : Prop where
 p : Blk w1 w.heap.size 217 #[.pointer (some ⟨g, 0, none⟩)]
 x : Blk w1 (w.heap.size + 1) 28 nd
 wr : WrAt w1 base g S1 L
 mvs : Moves base S w S1 w1
 np : ¬ S1 w.heap.size
 nx : ¬ S1 (w.heap.size + 1)
 hb : base ≤ w.heap.size
theorem WFr.start {w : World} {base g : Nat} {S : Nat → Prop} {L : List Lex} (nd : Array Value) (h : WrAt w base g S L) (hb : base ≤ w.heap.size) : WFr w base g S nd S L ((w.alloc (.cells #[.pointer (some ⟨g, 0, none⟩)] 217)).alloc (.cells nd 28)) :=
 ⟨(Blk.new w _ _).alloc _, Blk.new_at (by simp), (h.alloc _).alloc _, ((Moves.refl base S w).alloc hb _).alloc hb _, h.not (Nat.le_refl _), h.not (by omega), hb⟩
theorem WFr.go {w w1 : World} {base g : Nat} {S S1 : Nat → Prop} {L : List Lex} {nd : Array Value} (h : WFr w base g S nd S1 L w1) {w2 : World} {S2 : Nat → Prop} {L2 : List Lex} (hm : WrAt w2 base g S2 L2) (hv : Moves base S1 w1 S2 w2) : WFr w base g S nd S2 L2 w2 :=
 ⟨h.p.moves hv h.np, h.x.moves hv h.nx, hm, h.mvs.trans hv, hv.notIn h.p.lt h.np, hv.notIn h.x.lt h.nx, h.hb⟩
theorem WFr.below {w w1 : World} {base g : Nat} {S S1 : Nat → Prop} {L : List Lex} {nd : Array Value} (h : WFr w base g S nd S1 L w1) {w2 : World} (hB : Below w1.heap.size w1 w2) : WFr w base g S nd S1 L w2 :=
 h.go (h.wr.below hB) (Moves.of_below hB (by have := h.mvs.size; have := h.hb; omega))
theorem WFr.size {w w1 : World} {base g : Nat} {S S1 : Nat → Prop} {L : List Lex} {nd : Array Value} (h : WFr w base g S nd S1 L w1) : base ≤ w1.heap.size := by
 have := h.mvs.size; have := h.hb; omega
theorem WFr.out {w w1 : World} {base g : Nat} {S S1 : Nat → Prop} {L : List Lex} {nd : Array Value} (h : WFr w base g S nd S1 L w1) {e : Ending} (he : e = .returned (.tuple #[])) : WrOut base g S w L e w1 := ⟨he, S1, h.wr, h.mvs⟩
def WFrM (w : World) (base g : Nat) (S : Nat → Prop) (nd : Array Value) (L : List Lex) (w1 : World) : Prop := ∃ S1, WFr w base g S nd S1 L w1
theorem flat_take {α : Type} (l : List (List α)) (k : Nat) : (l.take k).flatten.length ≤ l.flatten.length := by
 conv => rhs; rw [← List.take_append_drop k l, List.flatten_append, List.length_append]
 omega
theorem bars_take (l : List (List Lex)) (k : Nat) : (barsS (l.take k)).length ≤ (barsS l).length := by
 unfold barsS
 have : ((l.take k).flatMap fun x => lexK 4 :: x).length ≤ (l.flatMap fun x => lexK 4 :: x).length := by
  conv => rhs; rw [← List.take_append_drop k l, List.flatMap_append, List.length_append]
  omega
 simp only [List.length_drop]
 omega
def KidsW (F : Trees) : Prop := ∀ z ∈ F.list, 1 ≤ z.kind ∧ z.kind ≤ 9 ∧ WriteC z
theorem write_empty (x : Nd) (hK : KidsW x.kids) (B : Option Addr) (cap base g : Nat) (S : Nat → Prop) (L : List Lex) (w : World) (ht : TreesAt w (fun b => ¬ S b) x.kids B) (h : WrAt w base g S L) (hb : base ≤ w.heap.size) (hl : L.length + x.write.length ≤ 90000000) (hkl : x.kids.len ≤ 140737488355328) (hk : x.kind = 2) : Calls Tryz.prog 161 #[.pointer (some ⟨g, 0, none⟩), ndV x B cap] w (WrOut base g S w (L ++ x.write)) := by
 rw [Nd.write_empty hk, List.append_nil]
 have HF2 := Lib.hid (show WFr w base g S #[.int .i64 2, .int .u64 (word x.set.testBit 0), .int .u64 (word x.set.testBit 1), .int .u64 (word x.set.testBit 2), .int .u64 (word x.set.testBit 3), .slice B x.kids.len cap, .int .i64 x.lo, .int .i64 x.hi] S L ((w.alloc (.cells #[.pointer (some ⟨g, 0, none⟩)] 217)).alloc (.cells #[.int .i64 2, .int .u64 (word x.set.testBit 0), .int .u64 (word x.set.testBit 1), .int .u64 (word x.set.testBit 2), .int .u64 (word x.set.testBit 3), .slice B x.kids.len cap, .int .i64 x.lo, .int .i64 x.hi] 28)) from WFr.start #[.int .i64 2, .int .u64 (word x.set.testBit 0), .int .u64 (word x.set.testBit 1), .int .u64 (word x.set.testBit 2), .int .u64 (word x.set.testBit 3), .slice B x.kids.len cap, .int .i64 x.lo, .int .i64 x.hi] h hb)
 have HT := Lib.hid ht
 have HK := Lib.hid hK
 unfold ndV
 rw [hk]
 clear ht hK h
 go_enter Tryz.func161, Tryz.ntmps161
 go_wp2
 go_light
 go_end0
 exact HF2.out.out rfl
theorem write_leaf1 (x : Nd) (hK : KidsW x.kids) (B : Option Addr) (cap base g : Nat) (S : Nat → Prop) (L : List Lex) (w : World) (ht : TreesAt w (fun b => ¬ S b) x.kids B) (h : WrAt w base g S L) (hb : base ≤ w.heap.size) (hl : L.length + x.write.length ≤ 90000000) (hkl : x.kids.len ≤ 140737488355328) (hk : x.kind = 1) : Calls Tryz.prog 161 #[.pointer (some ⟨g, 0, none⟩), ndV x B cap] w (WrOut base g S w (L ++ x.write)) := by
 rw [Nd.write_leaf (.inl hk)] at hl ⊢
 have h63 : L.length + 1 ≤ maxLen := Nat.le_trans (show L.length + 1 ≤ 2000000000 by simp at hl; omega) (by decide)
 have hby : (L.length + 1) * 64 ≤ 140737488355328 := by simp at hl; omega
 have HLC := Lib.hid (show lexCell ⟨1, 0, x.set.testBit, 0, 0⟩ = [.int .i64 1, .int .i64 0, .int .u64 (word x.set.testBit 0), .int .u64 (word x.set.testBit 1), .int .u64 (word x.set.testBit 2), .int .u64 (word x.set.testBit 3), .int .i64 0, .int .i64 0] from rfl)
 have HF2 := Lib.hid (show WFr w base g S #[.int .i64 1, .int .u64 (word x.set.testBit 0), .int .u64 (word x.set.testBit 1), .int .u64 (word x.set.testBit 2), .int .u64 (word x.set.testBit 3), .slice B x.kids.len cap, .int .i64 x.lo, .int .i64 x.hi] S L ((w.alloc (.cells #[.pointer (some ⟨g, 0, none⟩)] 217)).alloc (.cells #[.int .i64 1, .int .u64 (word x.set.testBit 0), .int .u64 (word x.set.testBit 1), .int .u64 (word x.set.testBit 2), .int .u64 (word x.set.testBit 3), .slice B x.kids.len cap, .int .i64 x.lo, .int .i64 x.hi] 28)) from WFr.start #[.int .i64 1, .int .u64 (word x.set.testBit 0), .int .u64 (word x.set.testBit 1), .int .u64 (word x.set.testBit 2), .int .u64 (word x.set.testBit 3), .slice B x.kids.len cap, .int .i64 x.lo, .int .i64 x.hi] h hb)
 have HT := Lib.hid ht
 have HK := Lib.hid hK
 unfold ndV
 rw [hk]
 clear ht hK h
 go_enter Tryz.func161, Tryz.ntmps161
 go_upto_region 5 with fail
 generalize ((w.alloc (.cells #[.pointer (some ⟨g, 0, none⟩)] 217)).alloc (.cells #[.int .i64 1, .int .u64 (word x.set.testBit 0), .int .u64 (word x.set.testBit 1), .int .u64 (word x.set.testBit 2), .int .u64 (word x.set.testBit 3), .slice B x.kids.len cap, .int .i64 x.lo, .int .i64 x.hi] 28)) = w2 at *
 have p0 := (HF2.out).p.cell 0
 have hlp := (HF2.out).p.lt
 simp only [getH] at p0
 have n0 := (HF2.out).x.cell 0
 have n1 := (HF2.out).x.cell 1
 have n2 := (HF2.out).x.cell 2
 have n3 := (HF2.out).x.cell 3
 have n4 := (HF2.out).x.cell 4
 have n5 := (HF2.out).x.cell 5
 have n6 := (HF2.out).x.cell 6
 have n7 := (HF2.out).x.cell 7
 have hlx := (HF2.out).x.lt
 simp only [getH] at n0 n1 n2 n3 n4 n5 n6 n7
 have h0 := (HF2).out.wr
 obtain ⟨h0, hg, v, hG, hR, h3⟩ := h0
 obtain ⟨i0, hi, hz0, hz1, hz2⟩ := info_parts info_lex
 have s0 := hG.cell 0
 have f0 := hG.frozen 0
 have hltg := Blk.lt hG
 have HG := Lib.hid hG
 have HR := Lib.hid hR
 have HH := Lib.hid (show _ ∧ _ ∧ _ from ⟨h0, hg, h3⟩)
 have HneG := Lib.hid (blk_not_row hG (by decide) hR)
 have hbw := (HF2).out.size
 clear hG hR h0 h3
 have hKl := two_of (Q := fun b => b < w2.heap.size) hlp hlx
 refine wp_region_held_drew (S := fun w' => ∀ b' o', b' = w.heap.size ∨ b' = w.heap.size + 1 → w'.cell? ⟨b', o', none⟩ = w2.cell? ⟨b', o', none⟩) (by kernel_rfl) (KeepP.start (fun b => b = w.heap.size ∨ b = w.heap.size + 1) w2) (fun hHeld => ?_)
 refine wpAnyH_take (i := 0) (oi := _) (v := ?_) rfl (by kernel_rfl) (by kernel_rfl) (by kernel_rfl) (fun _ _ _ h => h) (Or.inl ⟨by kernel_rfl, ?_⟩) (by assumption) ?_
 rotate_left
 ·intro w hSw
  try dsimp only at hSw
  go_simp
  try (with_reducible rfl)
 try simp only [Act.put, nrmH]
 refine wpAnyH_take (i := 1) (oi := _) (v := ?_) rfl (by kernel_rfl) (by kernel_rfl) (by kernel_rfl) (fun _ _ _ h => h) (Or.inl ⟨by kernel_rfl, ?_⟩) (by assumption) ?_
 rotate_left
 ·intro w hSw
  try dsimp only at hSw
  go_simp
  try (with_reducible rfl)
 try simp only [Act.put, nrmH]
 refine wpAnyH_take (i := 2) (oi := _) (v := ?_) rfl (by kernel_rfl) (by kernel_rfl) (by kernel_rfl) (fun _ _ _ h => h) (Or.inl ⟨by kernel_rfl, ?_⟩) (by assumption) ?_
 rotate_left
 ·intro w hSw
  try dsimp only at hSw
  go_simp
  try (with_reducible rfl)
 try simp only [Act.put, nrmH]
 refine wpAnyH_take (i := 3) (oi := _) (v := ?_) rfl (by kernel_rfl) (by kernel_rfl) (by kernel_rfl) (fun _ _ _ h => h) (Or.inl ⟨by kernel_rfl, ?_⟩) (by assumption) ?_
 rotate_left
 ·intro w hSw
  try dsimp only at hSw
  go_simp
  try (with_reducible rfl)
 try simp only [Act.put, nrmH]
 refine wpAnyH_take (i := 5) (oi := _) (v := ?_) rfl (by kernel_rfl) (by kernel_rfl) (by kernel_rfl) (fun _ _ _ h => h) (Or.inl ⟨by kernel_rfl, ?_⟩) (by assumption) ?_
 rotate_left
 ·intro w hSw
  try dsimp only at hSw
  go_simp
  try (with_reducible rfl)
 try simp only [Act.put, nrmH]
 refine wpAnyH_take (i := 6) (oi := _) (v := ?_) rfl (by kernel_rfl) (by kernel_rfl) (by kernel_rfl) (fun _ _ _ h => h) (Or.inl ⟨by kernel_rfl, ?_⟩) (by assumption) ?_
 rotate_left
 ·intro w hSw
  try dsimp only at hSw
  go_simp
  try (with_reducible rfl)
 try simp only [Act.put, nrmH]
 refine wpAnyH_take (i := 7) (oi := _) (v := ?_) rfl (by kernel_rfl) (by kernel_rfl) (by kernel_rfl) (fun _ _ _ h => h) (Or.inl ⟨by kernel_rfl, ?_⟩) (by assumption) ?_
 rotate_left
 ·intro w hSw
  try dsimp only at hSw
  go_simp
  try (with_reducible rfl)
 try simp only [Act.put, nrmH]
 refine wpAnyH_ready (rs := [4, 8]) (by kernel_rfl) (by simp) ?_
 refine AllReadyH.cons (o := _) rfl (fun K hK => ?_) (AllReadyH.cons (o := _) rfl (fun K hK => ?_) AllReadyH.nil)
 ·skip
  go_simp
  refine hK.out _ _ hHeld (fun _ => ?_)
  clear hK K hHeld
  try simp only [Act.put, nrmH]
  refine wpAnyH_ready (rs := [8]) (by kernel_rfl) (by simp) ?_
  refine AllReadyH.cons (o := _) rfl (fun K hK => ?_) AllReadyH.nil
  go_simp
  refine hK.out _ _ (KeepP.alloc (KeepP.start (fun b => b = w.heap.size ∨ b = w.heap.size + 1) w2) hKl _) (fun _ => ?_)
  clear hK K
  try simp only [Act.put, nrmH]
  refine wpAnyH_ready (rs := [9]) (by kernel_rfl) (by simp) ?_
  refine AllReadyH.cons (o := _) rfl (fun K hK => ?_) AllReadyH.nil
  refine step_append_lies _ (by rfl) _ _ _ (by rfl) base 143 i0 _ 8 64 Tryz.underlying138 hi hz0 hz1 hz2 rfl (by decide) v (L).length (lexCells (L)) (by rfl) (HR.out.drew.alloc _) ⟨w2.heap.size, 0, none⟩ 1 1 ([.int .i64 1, .int .i64 0, .int .u64 (word x.set.testBit 0), .int .u64 (word x.set.testBit 1), .int .u64 (word x.set.testBit 2), .int .u64 (word x.set.testBit 3), .int .i64 0, .int .i64 0]) (by rfl) (by rfl) (World.news_of_block (cs := ([.int .i64 1, .int .i64 0, .int .u64 (word x.set.testBit 0), .int .u64 (word x.set.testBit 1), .int .u64 (word x.set.testBit 2), .int .u64 (word x.set.testBit 3), .int .i64 0, .int .i64 0]).toArray) (t := 143) (fr := (0, 0)) (heap_alloc_new w2.drew _)) (by simp [Value.oneCell']) (by decide) h63 hby (by simp; omega) (w2.heap.size + 1) (by simp) ?_
  intro gg cap' w3 hown1 hgrow hat hlt1
  have hG1 := Blk.grown (Blk.alloc (Blk.drew HG.out) _) hgrow HneG.out
  have c0 := hG1.cell 0
  have d0 := hG1.frozen 0
  have hgl := hG1.lt
  have HKG := Lib.hid (KeepP.grown (KeepP.alloc (KeepP.start (fun b => b = w.heap.size ∨ b = w.heap.size + 1) w2) hKl _) hgrow (two_of (Q := fun b => b < _ ∧ some b ≠ v.ownBlock) ⟨by simp; omega, fun e => HF2.out.np (HH.out.2.2 _ e.symm)⟩ ⟨by simp; omega, fun e => HF2.out.nx (HH.out.2.2 _ e.symm)⟩))
  rw [← HLC.out] at hown1
  have HG1 := Lib.hid hG1
  have Hgrow := Lib.hid hgrow
  have Hown1 := Lib.hid hown1
  have Hat := Lib.hid hat
  clear hG1 hgrow hown1 hat
  refine hK.out _ _ HKG.out (fun _ => ?_)
  clear hK K
  try simp only [Act.put, nrmH]
  refine wpAnyH_take (i := 10) (oi := _) (v := ?_) rfl (by kernel_rfl) (by kernel_rfl) (by kernel_rfl) (fun _ _ _ h => h) (Or.inl ⟨by kernel_rfl, ?_⟩) (by assumption) ?_
  rotate_left
  ·intro w hSw
   try dsimp only at hSw
   go_simp
   try (with_reducible rfl)
  try simp only [Act.put, nrmH]
  refine wpAnyH_take (i := 11) (oi := _) (v := ?_) rfl (by kernel_rfl) (by kernel_rfl) (by kernel_rfl) (fun _ _ _ h => h) (Or.inl ⟨by kernel_rfl, ?_⟩) (by assumption) ?_
  rotate_left
  ·intro w hSw
   try dsimp only at hSw
   go_simp
   try (with_reducible rfl)
  try simp only [Act.put, nrmH]
  refine wpAnyH_ready (rs := [12]) (by kernel_rfl) (by simp) ?_
  refine AllReadyH.cons (o := _) rfl (fun K hK => ?_) AllReadyH.nil
  go_simp
  refine hK.out _ _ (KeepP.set HKG.out (two_of (Q := fun b => b ≠ g) (p := w.heap.size) (q := w.heap.size + 1) (fun e => HF2.out.np (by rw [e]; exact HH.out.2.1)) (fun e => HF2.out.nx (by rw [e]; exact HH.out.2.1))) _) (fun _ => ?_)
  clear hK K
  try simp only [Act.put, nrmH]
  refine wpAnyH_done (by kernel_rfl) ?_ _
  go_wp2
  go_light
  go_end0
  obtain ⟨S', hp1, hp2⟩ := wr_push HH.out hbw HG1.out ((Below.refl w2.heap.size w2).drew.alloc (Nat.le_refl _) _) Hgrow.out Hown1.out Hat.out (by omega)
  exact (HF2.out.go hp1 hp2).out rfl
 ·skip
  go_simp
  refine hK.out _ _ (KeepP.alloc (KeepP.start (fun b => b = w.heap.size ∨ b = w.heap.size + 1) w2) hKl _) (fun _ => ?_)
  clear hK K hHeld
  try simp only [Act.put, nrmH]
  refine wpAnyH_ready (rs := [4]) (by kernel_rfl) (by simp) ?_
  refine AllReadyH.cons (o := _) rfl (fun K hK => ?_) AllReadyH.nil
  go_simp
  refine hK.out _ _ (by assumption) (fun _ => ?_)
  clear hK K
  try simp only [Act.put, nrmH]
  refine wpAnyH_ready (rs := [9]) (by kernel_rfl) (by simp) ?_
  refine AllReadyH.cons (o := _) rfl (fun K hK => ?_) AllReadyH.nil
  refine step_append_lies _ (by rfl) _ _ _ (by rfl) base 143 i0 _ 8 64 Tryz.underlying138 hi hz0 hz1 hz2 rfl (by decide) v (L).length (lexCells (L)) (by rfl) (HR.out.drew.alloc _) ⟨w2.heap.size, 0, none⟩ 1 1 ([.int .i64 1, .int .i64 0, .int .u64 (word x.set.testBit 0), .int .u64 (word x.set.testBit 1), .int .u64 (word x.set.testBit 2), .int .u64 (word x.set.testBit 3), .int .i64 0, .int .i64 0]) (by rfl) (by rfl) (World.news_of_block (cs := ([.int .i64 1, .int .i64 0, .int .u64 (word x.set.testBit 0), .int .u64 (word x.set.testBit 1), .int .u64 (word x.set.testBit 2), .int .u64 (word x.set.testBit 3), .int .i64 0, .int .i64 0]).toArray) (t := 143) (fr := (0, 0)) (heap_alloc_new w2.drew _)) (by simp [Value.oneCell']) (by decide) h63 hby (by simp; omega) (w2.heap.size + 1) (by simp) ?_
  intro gg cap' w3 hown1 hgrow hat hlt1
  have hG1 := Blk.grown (Blk.alloc (Blk.drew HG.out) _) hgrow HneG.out
  have c0 := hG1.cell 0
  have d0 := hG1.frozen 0
  have hgl := hG1.lt
  have HKG := Lib.hid (KeepP.grown (KeepP.alloc (KeepP.start (fun b => b = w.heap.size ∨ b = w.heap.size + 1) w2) hKl _) hgrow (two_of (Q := fun b => b < _ ∧ some b ≠ v.ownBlock) ⟨by simp; omega, fun e => HF2.out.np (HH.out.2.2 _ e.symm)⟩ ⟨by simp; omega, fun e => HF2.out.nx (HH.out.2.2 _ e.symm)⟩))
  rw [← HLC.out] at hown1
  have HG1 := Lib.hid hG1
  have Hgrow := Lib.hid hgrow
  have Hown1 := Lib.hid hown1
  have Hat := Lib.hid hat
  clear hG1 hgrow hown1 hat
  refine hK.out _ _ HKG.out (fun _ => ?_)
  clear hK K
  try simp only [Act.put, nrmH]
  refine wpAnyH_take (i := 10) (oi := _) (v := ?_) rfl (by kernel_rfl) (by kernel_rfl) (by kernel_rfl) (fun _ _ _ h => h) (Or.inl ⟨by kernel_rfl, ?_⟩) (by assumption) ?_
  rotate_left
  ·intro w hSw
   try dsimp only at hSw
   go_simp
   try (with_reducible rfl)
  try simp only [Act.put, nrmH]
  refine wpAnyH_take (i := 11) (oi := _) (v := ?_) rfl (by kernel_rfl) (by kernel_rfl) (by kernel_rfl) (fun _ _ _ h => h) (Or.inl ⟨by kernel_rfl, ?_⟩) (by assumption) ?_
  rotate_left
  ·intro w hSw
   try dsimp only at hSw
   go_simp
   try (with_reducible rfl)
  try simp only [Act.put, nrmH]
  refine wpAnyH_ready (rs := [12]) (by kernel_rfl) (by simp) ?_
  refine AllReadyH.cons (o := _) rfl (fun K hK => ?_) AllReadyH.nil
  go_simp
  refine hK.out _ _ (KeepP.set HKG.out (two_of (Q := fun b => b ≠ g) (p := w.heap.size) (q := w.heap.size + 1) (fun e => HF2.out.np (by rw [e]; exact HH.out.2.1)) (fun e => HF2.out.nx (by rw [e]; exact HH.out.2.1))) _) (fun _ => ?_)
  clear hK K
  try simp only [Act.put, nrmH]
  refine wpAnyH_done (by kernel_rfl) ?_ _
  go_wp2
  go_light
  go_end0
  obtain ⟨S', hp1, hp2⟩ := wr_push HH.out hbw HG1.out ((Below.refl w2.heap.size w2).drew.alloc (Nat.le_refl _) _) Hgrow.out Hown1.out Hat.out (by omega)
  exact (HF2.out.go hp1 hp2).out rfl
theorem write_leaf3 (x : Nd) (hK : KidsW x.kids) (B : Option Addr) (cap base g : Nat) (S : Nat → Prop) (L : List Lex) (w : World) (ht : TreesAt w (fun b => ¬ S b) x.kids B) (h : WrAt w base g S L) (hb : base ≤ w.heap.size) (hl : L.length + x.write.length ≤ 90000000) (hkl : x.kids.len ≤ 140737488355328) (hk : x.kind = 3) : Calls Tryz.prog 161 #[.pointer (some ⟨g, 0, none⟩), ndV x B cap] w (WrOut base g S w (L ++ x.write)) := by
 rw [Nd.write_leaf (.inr hk)] at hl ⊢
 have h63 : L.length + 1 ≤ maxLen := Nat.le_trans (show L.length + 1 ≤ 2000000000 by simp at hl; omega) (by decide)
 have hby : (L.length + 1) * 64 ≤ 140737488355328 := by simp at hl; omega
 have HLC := Lib.hid (show lexCell ⟨1, 0, x.set.testBit, 0, 0⟩ = [.int .i64 1, .int .i64 0, .int .u64 (word x.set.testBit 0), .int .u64 (word x.set.testBit 1), .int .u64 (word x.set.testBit 2), .int .u64 (word x.set.testBit 3), .int .i64 0, .int .i64 0] from rfl)
 have HF2 := Lib.hid (show WFr w base g S #[.int .i64 3, .int .u64 (word x.set.testBit 0), .int .u64 (word x.set.testBit 1), .int .u64 (word x.set.testBit 2), .int .u64 (word x.set.testBit 3), .slice B x.kids.len cap, .int .i64 x.lo, .int .i64 x.hi] S L ((w.alloc (.cells #[.pointer (some ⟨g, 0, none⟩)] 217)).alloc (.cells #[.int .i64 3, .int .u64 (word x.set.testBit 0), .int .u64 (word x.set.testBit 1), .int .u64 (word x.set.testBit 2), .int .u64 (word x.set.testBit 3), .slice B x.kids.len cap, .int .i64 x.lo, .int .i64 x.hi] 28)) from WFr.start #[.int .i64 3, .int .u64 (word x.set.testBit 0), .int .u64 (word x.set.testBit 1), .int .u64 (word x.set.testBit 2), .int .u64 (word x.set.testBit 3), .slice B x.kids.len cap, .int .i64 x.lo, .int .i64 x.hi] h hb)
 have HT := Lib.hid ht
 have HK := Lib.hid hK
 unfold ndV
 rw [hk]
 clear ht hK h
 go_enter Tryz.func161, Tryz.ntmps161
 go_upto_region 5 with fail
 generalize ((w.alloc (.cells #[.pointer (some ⟨g, 0, none⟩)] 217)).alloc (.cells #[.int .i64 3, .int .u64 (word x.set.testBit 0), .int .u64 (word x.set.testBit 1), .int .u64 (word x.set.testBit 2), .int .u64 (word x.set.testBit 3), .slice B x.kids.len cap, .int .i64 x.lo, .int .i64 x.hi] 28)) = w2 at *
 have p0 := (HF2.out).p.cell 0
 have hlp := (HF2.out).p.lt
 simp only [getH] at p0
 have n0 := (HF2.out).x.cell 0
 have n1 := (HF2.out).x.cell 1
 have n2 := (HF2.out).x.cell 2
 have n3 := (HF2.out).x.cell 3
 have n4 := (HF2.out).x.cell 4
 have n5 := (HF2.out).x.cell 5
 have n6 := (HF2.out).x.cell 6
 have n7 := (HF2.out).x.cell 7
 have hlx := (HF2.out).x.lt
 simp only [getH] at n0 n1 n2 n3 n4 n5 n6 n7
 have h0 := (HF2).out.wr
 obtain ⟨h0, hg, v, hG, hR, h3⟩ := h0
 obtain ⟨i0, hi, hz0, hz1, hz2⟩ := info_parts info_lex
 have s0 := hG.cell 0
 have f0 := hG.frozen 0
 have hltg := Blk.lt hG
 have HG := Lib.hid hG
 have HR := Lib.hid hR
 have HH := Lib.hid (show _ ∧ _ ∧ _ from ⟨h0, hg, h3⟩)
 have HneG := Lib.hid (blk_not_row hG (by decide) hR)
 have hbw := (HF2).out.size
 clear hG hR h0 h3
 have hKl := two_of (Q := fun b => b < w2.heap.size) hlp hlx
 refine wp_region_held_drew (S := fun w' => ∀ b' o', b' = w.heap.size ∨ b' = w.heap.size + 1 → w'.cell? ⟨b', o', none⟩ = w2.cell? ⟨b', o', none⟩) (by kernel_rfl) (KeepP.start (fun b => b = w.heap.size ∨ b = w.heap.size + 1) w2) (fun hHeld => ?_)
 refine wpAnyH_take (i := 0) (oi := _) (v := ?_) rfl (by kernel_rfl) (by kernel_rfl) (by kernel_rfl) (fun _ _ _ h => h) (Or.inl ⟨by kernel_rfl, ?_⟩) (by assumption) ?_
 rotate_left
 ·intro w hSw
  try dsimp only at hSw
  go_simp
  try (with_reducible rfl)
 try simp only [Act.put, nrmH]
 refine wpAnyH_take (i := 1) (oi := _) (v := ?_) rfl (by kernel_rfl) (by kernel_rfl) (by kernel_rfl) (fun _ _ _ h => h) (Or.inl ⟨by kernel_rfl, ?_⟩) (by assumption) ?_
 rotate_left
 ·intro w hSw
  try dsimp only at hSw
  go_simp
  try (with_reducible rfl)
 try simp only [Act.put, nrmH]
 refine wpAnyH_take (i := 2) (oi := _) (v := ?_) rfl (by kernel_rfl) (by kernel_rfl) (by kernel_rfl) (fun _ _ _ h => h) (Or.inl ⟨by kernel_rfl, ?_⟩) (by assumption) ?_
 rotate_left
 ·intro w hSw
  try dsimp only at hSw
  go_simp
  try (with_reducible rfl)
 try simp only [Act.put, nrmH]
 refine wpAnyH_take (i := 3) (oi := _) (v := ?_) rfl (by kernel_rfl) (by kernel_rfl) (by kernel_rfl) (fun _ _ _ h => h) (Or.inl ⟨by kernel_rfl, ?_⟩) (by assumption) ?_
 rotate_left
 ·intro w hSw
  try dsimp only at hSw
  go_simp
  try (with_reducible rfl)
 try simp only [Act.put, nrmH]
 refine wpAnyH_take (i := 5) (oi := _) (v := ?_) rfl (by kernel_rfl) (by kernel_rfl) (by kernel_rfl) (fun _ _ _ h => h) (Or.inl ⟨by kernel_rfl, ?_⟩) (by assumption) ?_
 rotate_left
 ·intro w hSw
  try dsimp only at hSw
  go_simp
  try (with_reducible rfl)
 try simp only [Act.put, nrmH]
 refine wpAnyH_take (i := 6) (oi := _) (v := ?_) rfl (by kernel_rfl) (by kernel_rfl) (by kernel_rfl) (fun _ _ _ h => h) (Or.inl ⟨by kernel_rfl, ?_⟩) (by assumption) ?_
 rotate_left
 ·intro w hSw
  try dsimp only at hSw
  go_simp
  try (with_reducible rfl)
 try simp only [Act.put, nrmH]
 refine wpAnyH_take (i := 7) (oi := _) (v := ?_) rfl (by kernel_rfl) (by kernel_rfl) (by kernel_rfl) (fun _ _ _ h => h) (Or.inl ⟨by kernel_rfl, ?_⟩) (by assumption) ?_
 rotate_left
 ·intro w hSw
  try dsimp only at hSw
  go_simp
  try (with_reducible rfl)
 try simp only [Act.put, nrmH]
 refine wpAnyH_ready (rs := [4, 8]) (by kernel_rfl) (by simp) ?_
 refine AllReadyH.cons (o := _) rfl (fun K hK => ?_) (AllReadyH.cons (o := _) rfl (fun K hK => ?_) AllReadyH.nil)
 ·skip
  go_simp
  refine hK.out _ _ hHeld (fun _ => ?_)
  clear hK K hHeld
  try simp only [Act.put, nrmH]
  refine wpAnyH_ready (rs := [8]) (by kernel_rfl) (by simp) ?_
  refine AllReadyH.cons (o := _) rfl (fun K hK => ?_) AllReadyH.nil
  go_simp
  refine hK.out _ _ (KeepP.alloc (KeepP.start (fun b => b = w.heap.size ∨ b = w.heap.size + 1) w2) hKl _) (fun _ => ?_)
  clear hK K
  try simp only [Act.put, nrmH]
  refine wpAnyH_ready (rs := [9]) (by kernel_rfl) (by simp) ?_
  refine AllReadyH.cons (o := _) rfl (fun K hK => ?_) AllReadyH.nil
  refine step_append_lies _ (by rfl) _ _ _ (by rfl) base 143 i0 _ 8 64 Tryz.underlying138 hi hz0 hz1 hz2 rfl (by decide) v (L).length (lexCells (L)) (by rfl) (HR.out.drew.alloc _) ⟨w2.heap.size, 0, none⟩ 1 1 ([.int .i64 1, .int .i64 0, .int .u64 (word x.set.testBit 0), .int .u64 (word x.set.testBit 1), .int .u64 (word x.set.testBit 2), .int .u64 (word x.set.testBit 3), .int .i64 0, .int .i64 0]) (by rfl) (by rfl) (World.news_of_block (cs := ([.int .i64 1, .int .i64 0, .int .u64 (word x.set.testBit 0), .int .u64 (word x.set.testBit 1), .int .u64 (word x.set.testBit 2), .int .u64 (word x.set.testBit 3), .int .i64 0, .int .i64 0]).toArray) (t := 143) (fr := (0, 0)) (heap_alloc_new w2.drew _)) (by simp [Value.oneCell']) (by decide) h63 hby (by simp; omega) (w2.heap.size + 1) (by simp) ?_
  intro gg cap' w3 hown1 hgrow hat hlt1
  have hG1 := Blk.grown (Blk.alloc (Blk.drew HG.out) _) hgrow HneG.out
  have c0 := hG1.cell 0
  have d0 := hG1.frozen 0
  have hgl := hG1.lt
  have HKG := Lib.hid (KeepP.grown (KeepP.alloc (KeepP.start (fun b => b = w.heap.size ∨ b = w.heap.size + 1) w2) hKl _) hgrow (two_of (Q := fun b => b < _ ∧ some b ≠ v.ownBlock) ⟨by simp; omega, fun e => HF2.out.np (HH.out.2.2 _ e.symm)⟩ ⟨by simp; omega, fun e => HF2.out.nx (HH.out.2.2 _ e.symm)⟩))
  rw [← HLC.out] at hown1
  have HG1 := Lib.hid hG1
  have Hgrow := Lib.hid hgrow
  have Hown1 := Lib.hid hown1
  have Hat := Lib.hid hat
  clear hG1 hgrow hown1 hat
  refine hK.out _ _ HKG.out (fun _ => ?_)
  clear hK K
  try simp only [Act.put, nrmH]
  refine wpAnyH_take (i := 10) (oi := _) (v := ?_) rfl (by kernel_rfl) (by kernel_rfl) (by kernel_rfl) (fun _ _ _ h => h) (Or.inl ⟨by kernel_rfl, ?_⟩) (by assumption) ?_
  rotate_left
  ·intro w hSw
   try dsimp only at hSw
   go_simp
   try (with_reducible rfl)
  try simp only [Act.put, nrmH]
  refine wpAnyH_take (i := 11) (oi := _) (v := ?_) rfl (by kernel_rfl) (by kernel_rfl) (by kernel_rfl) (fun _ _ _ h => h) (Or.inl ⟨by kernel_rfl, ?_⟩) (by assumption) ?_
  rotate_left
  ·intro w hSw
   try dsimp only at hSw
   go_simp
   try (with_reducible rfl)
  try simp only [Act.put, nrmH]
  refine wpAnyH_ready (rs := [12]) (by kernel_rfl) (by simp) ?_
  refine AllReadyH.cons (o := _) rfl (fun K hK => ?_) AllReadyH.nil
  go_simp
  refine hK.out _ _ (KeepP.set HKG.out (two_of (Q := fun b => b ≠ g) (p := w.heap.size) (q := w.heap.size + 1) (fun e => HF2.out.np (by rw [e]; exact HH.out.2.1)) (fun e => HF2.out.nx (by rw [e]; exact HH.out.2.1))) _) (fun _ => ?_)
  clear hK K
  try simp only [Act.put, nrmH]
  refine wpAnyH_done (by kernel_rfl) ?_ _
  go_wp2
  go_light
  go_end0
  obtain ⟨S', hp1, hp2⟩ := wr_push HH.out hbw HG1.out ((Below.refl w2.heap.size w2).drew.alloc (Nat.le_refl _) _) Hgrow.out Hown1.out Hat.out (by omega)
  exact (HF2.out.go hp1 hp2).out rfl
 ·skip
  go_simp
  refine hK.out _ _ (KeepP.alloc (KeepP.start (fun b => b = w.heap.size ∨ b = w.heap.size + 1) w2) hKl _) (fun _ => ?_)
  clear hK K hHeld
  try simp only [Act.put, nrmH]
  refine wpAnyH_ready (rs := [4]) (by kernel_rfl) (by simp) ?_
  refine AllReadyH.cons (o := _) rfl (fun K hK => ?_) AllReadyH.nil
  go_simp
  refine hK.out _ _ (by assumption) (fun _ => ?_)
  clear hK K
  try simp only [Act.put, nrmH]
  refine wpAnyH_ready (rs := [9]) (by kernel_rfl) (by simp) ?_
  refine AllReadyH.cons (o := _) rfl (fun K hK => ?_) AllReadyH.nil
  refine step_append_lies _ (by rfl) _ _ _ (by rfl) base 143 i0 _ 8 64 Tryz.underlying138 hi hz0 hz1 hz2 rfl (by decide) v (L).length (lexCells (L)) (by rfl) (HR.out.drew.alloc _) ⟨w2.heap.size, 0, none⟩ 1 1 ([.int .i64 1, .int .i64 0, .int .u64 (word x.set.testBit 0), .int .u64 (word x.set.testBit 1), .int .u64 (word x.set.testBit 2), .int .u64 (word x.set.testBit 3), .int .i64 0, .int .i64 0]) (by rfl) (by rfl) (World.news_of_block (cs := ([.int .i64 1, .int .i64 0, .int .u64 (word x.set.testBit 0), .int .u64 (word x.set.testBit 1), .int .u64 (word x.set.testBit 2), .int .u64 (word x.set.testBit 3), .int .i64 0, .int .i64 0]).toArray) (t := 143) (fr := (0, 0)) (heap_alloc_new w2.drew _)) (by simp [Value.oneCell']) (by decide) h63 hby (by simp; omega) (w2.heap.size + 1) (by simp) ?_
  intro gg cap' w3 hown1 hgrow hat hlt1
  have hG1 := Blk.grown (Blk.alloc (Blk.drew HG.out) _) hgrow HneG.out
  have c0 := hG1.cell 0
  have d0 := hG1.frozen 0
  have hgl := hG1.lt
  have HKG := Lib.hid (KeepP.grown (KeepP.alloc (KeepP.start (fun b => b = w.heap.size ∨ b = w.heap.size + 1) w2) hKl _) hgrow (two_of (Q := fun b => b < _ ∧ some b ≠ v.ownBlock) ⟨by simp; omega, fun e => HF2.out.np (HH.out.2.2 _ e.symm)⟩ ⟨by simp; omega, fun e => HF2.out.nx (HH.out.2.2 _ e.symm)⟩))
  rw [← HLC.out] at hown1
  have HG1 := Lib.hid hG1
  have Hgrow := Lib.hid hgrow
  have Hown1 := Lib.hid hown1
  have Hat := Lib.hid hat
  clear hG1 hgrow hown1 hat
  refine hK.out _ _ HKG.out (fun _ => ?_)
  clear hK K
  try simp only [Act.put, nrmH]
  refine wpAnyH_take (i := 10) (oi := _) (v := ?_) rfl (by kernel_rfl) (by kernel_rfl) (by kernel_rfl) (fun _ _ _ h => h) (Or.inl ⟨by kernel_rfl, ?_⟩) (by assumption) ?_
  rotate_left
  ·intro w hSw
   try dsimp only at hSw
   go_simp
   try (with_reducible rfl)
  try simp only [Act.put, nrmH]
  refine wpAnyH_take (i := 11) (oi := _) (v := ?_) rfl (by kernel_rfl) (by kernel_rfl) (by kernel_rfl) (fun _ _ _ h => h) (Or.inl ⟨by kernel_rfl, ?_⟩) (by assumption) ?_
  rotate_left
  ·intro w hSw
   try dsimp only at hSw
   go_simp
   try (with_reducible rfl)
  try simp only [Act.put, nrmH]
  refine wpAnyH_ready (rs := [12]) (by kernel_rfl) (by simp) ?_
  refine AllReadyH.cons (o := _) rfl (fun K hK => ?_) AllReadyH.nil
  go_simp
  refine hK.out _ _ (KeepP.set HKG.out (two_of (Q := fun b => b ≠ g) (p := w.heap.size) (q := w.heap.size + 1) (fun e => HF2.out.np (by rw [e]; exact HH.out.2.1)) (fun e => HF2.out.nx (by rw [e]; exact HH.out.2.1))) _) (fun _ => ?_)
  clear hK K
  try simp only [Act.put, nrmH]
  refine wpAnyH_done (by kernel_rfl) ?_ _
  go_wp2
  go_light
  go_end0
  obtain ⟨S', hp1, hp2⟩ := wr_push HH.out hbw HG1.out ((Below.refl w2.heap.size w2).drew.alloc (Nat.le_refl _) _) Hgrow.out Hown1.out Hat.out (by omega)
  exact (HF2.out.go hp1 hp2).out rfl
theorem write_post6 (x : Nd) (hK : KidsW x.kids) (B : Option Addr) (cap base g : Nat) (S : Nat → Prop) (L : List Lex) (w : World) (ht : TreesAt w (fun b => ¬ S b) x.kids B) (h : WrAt w base g S L) (hb : base ≤ w.heap.size) (hl : L.length + x.write.length ≤ 90000000) (hkl : x.kids.len ≤ 140737488355328) (hk : x.kind = 6) (hk1 : x.kids.len = 1) : Calls Tryz.prog 161 #[.pointer (some ⟨g, 0, none⟩), ndV x B cap] w (WrOut base g S w (L ++ x.write)) := by
 obtain ⟨z, hz1, hz⟩ := one_kid hk1
 have hlk : L.length + (kidS 6 (z.kind, z.write)).length ≤ 90000000 ∧ (L ++ kidS 6 (z.kind, z.write)).length + 1 ≤ 90000000 := by
  rw [Nd.write_post (by omega), Trees.writes_head hz] at hl
  simp only [List.length_append, List.length_cons, List.length_nil, hk] at hl ⊢
  omega
 rw [Nd.write_post (by omega), Trees.writes_head hz]
 have HK1 := Lib.hid hk1
 clear hk1
 have HF2 := Lib.hid (show WFr w base g S #[.int .i64 6, .int .u64 (word x.set.testBit 0), .int .u64 (word x.set.testBit 1), .int .u64 (word x.set.testBit 2), .int .u64 (word x.set.testBit 3), .slice B x.kids.len cap, .int .i64 x.lo, .int .i64 x.hi] S L ((w.alloc (.cells #[.pointer (some ⟨g, 0, none⟩)] 217)).alloc (.cells #[.int .i64 6, .int .u64 (word x.set.testBit 0), .int .u64 (word x.set.testBit 1), .int .u64 (word x.set.testBit 2), .int .u64 (word x.set.testBit 3), .slice B x.kids.len cap, .int .i64 x.lo, .int .i64 x.hi] 28)) from WFr.start #[.int .i64 6, .int .u64 (word x.set.testBit 0), .int .u64 (word x.set.testBit 1), .int .u64 (word x.set.testBit 2), .int .u64 (word x.set.testBit 3), .slice B x.kids.len cap, .int .i64 x.lo, .int .i64 x.hi] h hb)
 have HT := Lib.hid ht
 have HK := Lib.hid hK
 unfold ndV
 rw [hk]
 clear ht hK h
 go_enter Tryz.func161, Tryz.ntmps161
 try rw [hk]
 go_upto_region 23 with fail
 generalize ((w.alloc (.cells #[.pointer (some ⟨g, 0, none⟩)] 217)).alloc (.cells #[.int .i64 6, .int .u64 (word x.set.testBit 0), .int .u64 (word x.set.testBit 1), .int .u64 (word x.set.testBit 2), .int .u64 (word x.set.testBit 3), .slice B x.kids.len cap, .int .i64 x.lo, .int .i64 x.hi] 28)) = w2 at *
 have hk1 := HK1.out
 have hF := HF2.out
 obtain ⟨b, o, C, capc, rfl, hnb, _, ⟨c0, c1, c2, c3, c4, c5, c6, c7⟩, hkz⟩ := (HT.out.movesW hF.mvs).get hz
 have hblk := World.block_lt_of_cell? w2 _ c0
 obtain ⟨k1, k9, hWz⟩ := HK.out z (List.mem_of_getElem? hz)
 simp only [Nat.zero_mul, Nat.add_zero] at c0 c1 c2 c3 c4 c5 c6 c7
 have HC := Lib.hid (kid_go 6 z C capc 3 base g w.heap.size S L w2 hkz hF.wr hF.size (hF.p.cell 0) hF.np k1 k9 hWz hlk.1 (by decide))
 unfold ndV at HC
 have p0 := (hF).p.cell 0
 have hlp := (hF).p.lt
 simp only [getH] at p0
 have n0 := (hF).x.cell 0
 have n1 := (hF).x.cell 1
 have n2 := (hF).x.cell 2
 have n3 := (hF).x.cell 3
 have n4 := (hF).x.cell 4
 have n5 := (hF).x.cell 5
 have n6 := (hF).x.cell 6
 have n7 := (hF).x.cell 7
 have hlx := (hF).x.lt
 simp only [getH] at n0 n1 n2 n3 n4 n5 n6 n7
 clear hF hkz hz hz1 k1 k9 hWz hl
 generalize kidS 6 (z.kind, z.write) = lk at *
 go_wp2_with fail
 refine HC.out.mono ?_
 rintro e w5 ⟨rfl, S5, hm5, hv5⟩
 have HF5 := Lib.hid (HF2.out.go hm5 hv5)
 clear hm5 hv5 HC HF2 c0 c1 c2 c3 c4 c5 c6 c7 hblk hnb p0 hlp n0 n1 n2 n3 n4 n5 n6 n7 hlx
 dsimp only
 have p0 := (HF5.out).p.cell 0
 have hlp := (HF5.out).p.lt
 simp only [getH] at p0
 have n0 := (HF5.out).x.cell 0
 have n1 := (HF5.out).x.cell 1
 have n2 := (HF5.out).x.cell 2
 have n3 := (HF5.out).x.cell 3
 have n4 := (HF5.out).x.cell 4
 have n5 := (HF5.out).x.cell 5
 have n6 := (HF5.out).x.cell 6
 have n7 := (HF5.out).x.cell 7
 have hlx := (HF5.out).x.lt
 simp only [getH] at n0 n1 n2 n3 n4 n5 n6 n7
 have HP := Lib.hid (wput_go base g S5 (L ++ lk) 5 w5 HF5.out.wr HF5.out.size (by omega))
 go_wp2_with fail
 refine HP.out.mono ?_
 rintro e w6 ⟨rfl, S6, hm6, hv6⟩
 have HF6 := Lib.hid (HF5.out.go hm6 hv6)
 clear hm6 hv6 HP HF5 p0 hlp n0 n1 n2 n3 n4 n5 n6 n7 hlx
 dsimp only
 go_wp2
 go_light
 go_end0
 rw [← List.append_assoc]
 exact HF6.out.out rfl
theorem write_post7 (x : Nd) (hK : KidsW x.kids) (B : Option Addr) (cap base g : Nat) (S : Nat → Prop) (L : List Lex) (w : World) (ht : TreesAt w (fun b => ¬ S b) x.kids B) (h : WrAt w base g S L) (hb : base ≤ w.heap.size) (hl : L.length + x.write.length ≤ 90000000) (hkl : x.kids.len ≤ 140737488355328) (hk : x.kind = 7) (hk1 : x.kids.len = 1) : Calls Tryz.prog 161 #[.pointer (some ⟨g, 0, none⟩), ndV x B cap] w (WrOut base g S w (L ++ x.write)) := by
 obtain ⟨z, hz1, hz⟩ := one_kid hk1
 have hlk : L.length + (kidS 7 (z.kind, z.write)).length ≤ 90000000 ∧ (L ++ kidS 7 (z.kind, z.write)).length + 1 ≤ 90000000 := by
  rw [Nd.write_post (by omega), Trees.writes_head hz] at hl
  simp only [List.length_append, List.length_cons, List.length_nil, hk] at hl ⊢
  omega
 rw [Nd.write_post (by omega), Trees.writes_head hz]
 have HK1 := Lib.hid hk1
 clear hk1
 have HF2 := Lib.hid (show WFr w base g S #[.int .i64 7, .int .u64 (word x.set.testBit 0), .int .u64 (word x.set.testBit 1), .int .u64 (word x.set.testBit 2), .int .u64 (word x.set.testBit 3), .slice B x.kids.len cap, .int .i64 x.lo, .int .i64 x.hi] S L ((w.alloc (.cells #[.pointer (some ⟨g, 0, none⟩)] 217)).alloc (.cells #[.int .i64 7, .int .u64 (word x.set.testBit 0), .int .u64 (word x.set.testBit 1), .int .u64 (word x.set.testBit 2), .int .u64 (word x.set.testBit 3), .slice B x.kids.len cap, .int .i64 x.lo, .int .i64 x.hi] 28)) from WFr.start #[.int .i64 7, .int .u64 (word x.set.testBit 0), .int .u64 (word x.set.testBit 1), .int .u64 (word x.set.testBit 2), .int .u64 (word x.set.testBit 3), .slice B x.kids.len cap, .int .i64 x.lo, .int .i64 x.hi] h hb)
 have HT := Lib.hid ht
 have HK := Lib.hid hK
 unfold ndV
 rw [hk]
 clear ht hK h
 go_enter Tryz.func161, Tryz.ntmps161
 try rw [hk]
 go_upto_region 23 with fail
 generalize ((w.alloc (.cells #[.pointer (some ⟨g, 0, none⟩)] 217)).alloc (.cells #[.int .i64 7, .int .u64 (word x.set.testBit 0), .int .u64 (word x.set.testBit 1), .int .u64 (word x.set.testBit 2), .int .u64 (word x.set.testBit 3), .slice B x.kids.len cap, .int .i64 x.lo, .int .i64 x.hi] 28)) = w2 at *
 have hk1 := HK1.out
 have hF := HF2.out
 obtain ⟨b, o, C, capc, rfl, hnb, _, ⟨c0, c1, c2, c3, c4, c5, c6, c7⟩, hkz⟩ := (HT.out.movesW hF.mvs).get hz
 have hblk := World.block_lt_of_cell? w2 _ c0
 obtain ⟨k1, k9, hWz⟩ := HK.out z (List.mem_of_getElem? hz)
 simp only [Nat.zero_mul, Nat.add_zero] at c0 c1 c2 c3 c4 c5 c6 c7
 have HC := Lib.hid (kid_go 7 z C capc 3 base g w.heap.size S L w2 hkz hF.wr hF.size (hF.p.cell 0) hF.np k1 k9 hWz hlk.1 (by decide))
 unfold ndV at HC
 have p0 := (hF).p.cell 0
 have hlp := (hF).p.lt
 simp only [getH] at p0
 have n0 := (hF).x.cell 0
 have n1 := (hF).x.cell 1
 have n2 := (hF).x.cell 2
 have n3 := (hF).x.cell 3
 have n4 := (hF).x.cell 4
 have n5 := (hF).x.cell 5
 have n6 := (hF).x.cell 6
 have n7 := (hF).x.cell 7
 have hlx := (hF).x.lt
 simp only [getH] at n0 n1 n2 n3 n4 n5 n6 n7
 clear hF hkz hz hz1 k1 k9 hWz hl
 generalize kidS 7 (z.kind, z.write) = lk at *
 go_wp2_with fail
 refine HC.out.mono ?_
 rintro e w5 ⟨rfl, S5, hm5, hv5⟩
 have HF5 := Lib.hid (HF2.out.go hm5 hv5)
 clear hm5 hv5 HC HF2 c0 c1 c2 c3 c4 c5 c6 c7 hblk hnb p0 hlp n0 n1 n2 n3 n4 n5 n6 n7 hlx
 dsimp only
 have p0 := (HF5.out).p.cell 0
 have hlp := (HF5.out).p.lt
 simp only [getH] at p0
 have n0 := (HF5.out).x.cell 0
 have n1 := (HF5.out).x.cell 1
 have n2 := (HF5.out).x.cell 2
 have n3 := (HF5.out).x.cell 3
 have n4 := (HF5.out).x.cell 4
 have n5 := (HF5.out).x.cell 5
 have n6 := (HF5.out).x.cell 6
 have n7 := (HF5.out).x.cell 7
 have hlx := (HF5.out).x.lt
 simp only [getH] at n0 n1 n2 n3 n4 n5 n6 n7
 have HP := Lib.hid (wput_go base g S5 (L ++ lk) 6 w5 HF5.out.wr HF5.out.size (by omega))
 go_wp2_with fail
 refine HP.out.mono ?_
 rintro e w6 ⟨rfl, S6, hm6, hv6⟩
 have HF6 := Lib.hid (HF5.out.go hm6 hv6)
 clear hm6 hv6 HP HF5 p0 hlp n0 n1 n2 n3 n4 n5 n6 n7 hlx
 dsimp only
 go_wp2
 go_light
 go_end0
 rw [← List.append_assoc]
 exact HF6.out.out rfl
theorem write_post8 (x : Nd) (hK : KidsW x.kids) (B : Option Addr) (cap base g : Nat) (S : Nat → Prop) (L : List Lex) (w : World) (ht : TreesAt w (fun b => ¬ S b) x.kids B) (h : WrAt w base g S L) (hb : base ≤ w.heap.size) (hl : L.length + x.write.length ≤ 90000000) (hkl : x.kids.len ≤ 140737488355328) (hk : x.kind = 8) (hk1 : x.kids.len = 1) : Calls Tryz.prog 161 #[.pointer (some ⟨g, 0, none⟩), ndV x B cap] w (WrOut base g S w (L ++ x.write)) := by
 obtain ⟨z, hz1, hz⟩ := one_kid hk1
 have hlk : L.length + (kidS 8 (z.kind, z.write)).length ≤ 90000000 ∧ (L ++ kidS 8 (z.kind, z.write)).length + 1 ≤ 90000000 := by
  rw [Nd.write_post (by omega), Trees.writes_head hz] at hl
  simp only [List.length_append, List.length_cons, List.length_nil, hk] at hl ⊢
  omega
 rw [Nd.write_post (by omega), Trees.writes_head hz]
 have HK1 := Lib.hid hk1
 clear hk1
 have HF2 := Lib.hid (show WFr w base g S #[.int .i64 8, .int .u64 (word x.set.testBit 0), .int .u64 (word x.set.testBit 1), .int .u64 (word x.set.testBit 2), .int .u64 (word x.set.testBit 3), .slice B x.kids.len cap, .int .i64 x.lo, .int .i64 x.hi] S L ((w.alloc (.cells #[.pointer (some ⟨g, 0, none⟩)] 217)).alloc (.cells #[.int .i64 8, .int .u64 (word x.set.testBit 0), .int .u64 (word x.set.testBit 1), .int .u64 (word x.set.testBit 2), .int .u64 (word x.set.testBit 3), .slice B x.kids.len cap, .int .i64 x.lo, .int .i64 x.hi] 28)) from WFr.start #[.int .i64 8, .int .u64 (word x.set.testBit 0), .int .u64 (word x.set.testBit 1), .int .u64 (word x.set.testBit 2), .int .u64 (word x.set.testBit 3), .slice B x.kids.len cap, .int .i64 x.lo, .int .i64 x.hi] h hb)
 have HT := Lib.hid ht
 have HK := Lib.hid hK
 unfold ndV
 rw [hk]
 clear ht hK h
 go_enter Tryz.func161, Tryz.ntmps161
 try rw [hk]
 go_upto_region 23 with fail
 generalize ((w.alloc (.cells #[.pointer (some ⟨g, 0, none⟩)] 217)).alloc (.cells #[.int .i64 8, .int .u64 (word x.set.testBit 0), .int .u64 (word x.set.testBit 1), .int .u64 (word x.set.testBit 2), .int .u64 (word x.set.testBit 3), .slice B x.kids.len cap, .int .i64 x.lo, .int .i64 x.hi] 28)) = w2 at *
 have hk1 := HK1.out
 have hF := HF2.out
 obtain ⟨b, o, C, capc, rfl, hnb, _, ⟨c0, c1, c2, c3, c4, c5, c6, c7⟩, hkz⟩ := (HT.out.movesW hF.mvs).get hz
 have hblk := World.block_lt_of_cell? w2 _ c0
 obtain ⟨k1, k9, hWz⟩ := HK.out z (List.mem_of_getElem? hz)
 simp only [Nat.zero_mul, Nat.add_zero] at c0 c1 c2 c3 c4 c5 c6 c7
 have HC := Lib.hid (kid_go 8 z C capc 3 base g w.heap.size S L w2 hkz hF.wr hF.size (hF.p.cell 0) hF.np k1 k9 hWz hlk.1 (by decide))
 unfold ndV at HC
 have p0 := (hF).p.cell 0
 have hlp := (hF).p.lt
 simp only [getH] at p0
 have n0 := (hF).x.cell 0
 have n1 := (hF).x.cell 1
 have n2 := (hF).x.cell 2
 have n3 := (hF).x.cell 3
 have n4 := (hF).x.cell 4
 have n5 := (hF).x.cell 5
 have n6 := (hF).x.cell 6
 have n7 := (hF).x.cell 7
 have hlx := (hF).x.lt
 simp only [getH] at n0 n1 n2 n3 n4 n5 n6 n7
 clear hF hkz hz hz1 k1 k9 hWz hl
 generalize kidS 8 (z.kind, z.write) = lk at *
 go_wp2_with fail
 refine HC.out.mono ?_
 rintro e w5 ⟨rfl, S5, hm5, hv5⟩
 have HF5 := Lib.hid (HF2.out.go hm5 hv5)
 clear hm5 hv5 HC HF2 c0 c1 c2 c3 c4 c5 c6 c7 hblk hnb p0 hlp n0 n1 n2 n3 n4 n5 n6 n7 hlx
 dsimp only
 have p0 := (HF5.out).p.cell 0
 have hlp := (HF5.out).p.lt
 simp only [getH] at p0
 have n0 := (HF5.out).x.cell 0
 have n1 := (HF5.out).x.cell 1
 have n2 := (HF5.out).x.cell 2
 have n3 := (HF5.out).x.cell 3
 have n4 := (HF5.out).x.cell 4
 have n5 := (HF5.out).x.cell 5
 have n6 := (HF5.out).x.cell 6
 have n7 := (HF5.out).x.cell 7
 have hlx := (HF5.out).x.lt
 simp only [getH] at n0 n1 n2 n3 n4 n5 n6 n7
 have HP := Lib.hid (wput_go base g S5 (L ++ lk) 7 w5 HF5.out.wr HF5.out.size (by omega))
 go_wp2_with fail
 refine HP.out.mono ?_
 rintro e w6 ⟨rfl, S6, hm6, hv6⟩
 have HF6 := Lib.hid (HF5.out.go hm6 hv6)
 clear hm6 hv6 HP HF5 p0 hlp n0 n1 n2 n3 n4 n5 n6 n7 hlx
 dsimp only
 go_wp2
 go_light
 go_end0
 rw [← List.append_assoc]
 exact HF6.out.out rfl
theorem write_rep (x : Nd) (hK : KidsW x.kids) (B : Option Addr) (cap base g : Nat) (S : Nat → Prop) (L : List Lex) (w : World) (ht : TreesAt w (fun b => ¬ S b) x.kids B) (h : WrAt w base g S L) (hb : base ≤ w.heap.size) (hl : L.length + x.write.length ≤ 90000000) (hkl : x.kids.len ≤ 140737488355328) (hk : x.kind = 9) (hk1 : x.kids.len = 1) : Calls Tryz.prog 161 #[.pointer (some ⟨g, 0, none⟩), ndV x B cap] w (WrOut base g S w (L ++ x.write)) := by
 obtain ⟨z, hz1, hz⟩ := one_kid hk1
 have hlk : L.length + (kidS 9 (z.kind, z.write)).length ≤ 90000000 ∧ (L ++ kidS 9 (z.kind, z.write)).length + 1 ≤ 90000000 := by
  rw [Nd.write_rep hk, Trees.writes_head hz] at hl
  simp only [List.length_append, List.length_cons, List.length_nil, hk] at hl ⊢
  omega
 rw [Nd.write_rep hk, Trees.writes_head hz]
 have HK1 := Lib.hid hk1
 clear hk1
 have HF2 := Lib.hid (show WFr w base g S #[.int .i64 9, .int .u64 (word x.set.testBit 0), .int .u64 (word x.set.testBit 1), .int .u64 (word x.set.testBit 2), .int .u64 (word x.set.testBit 3), .slice B x.kids.len cap, .int .i64 x.lo, .int .i64 x.hi] S L ((w.alloc (.cells #[.pointer (some ⟨g, 0, none⟩)] 217)).alloc (.cells #[.int .i64 9, .int .u64 (word x.set.testBit 0), .int .u64 (word x.set.testBit 1), .int .u64 (word x.set.testBit 2), .int .u64 (word x.set.testBit 3), .slice B x.kids.len cap, .int .i64 x.lo, .int .i64 x.hi] 28)) from WFr.start #[.int .i64 9, .int .u64 (word x.set.testBit 0), .int .u64 (word x.set.testBit 1), .int .u64 (word x.set.testBit 2), .int .u64 (word x.set.testBit 3), .slice B x.kids.len cap, .int .i64 x.lo, .int .i64 x.hi] h hb)
 have HT := Lib.hid ht
 have HK := Lib.hid hK
 unfold ndV
 rw [hk]
 clear ht hK h
 go_enter Tryz.func161, Tryz.ntmps161
 try rw [hk]
 go_upto_region 26 with fail
 generalize ((w.alloc (.cells #[.pointer (some ⟨g, 0, none⟩)] 217)).alloc (.cells #[.int .i64 9, .int .u64 (word x.set.testBit 0), .int .u64 (word x.set.testBit 1), .int .u64 (word x.set.testBit 2), .int .u64 (word x.set.testBit 3), .slice B x.kids.len cap, .int .i64 x.lo, .int .i64 x.hi] 28)) = w2 at *
 have hk1 := HK1.out
 have hF := HF2.out
 obtain ⟨b, o, C, capc, rfl, hnb, _, ⟨c0, c1, c2, c3, c4, c5, c6, c7⟩, hkz⟩ := (HT.out.movesW hF.mvs).get hz
 have hblk := World.block_lt_of_cell? w2 _ c0
 obtain ⟨k1, k9, hWz⟩ := HK.out z (List.mem_of_getElem? hz)
 simp only [Nat.zero_mul, Nat.add_zero] at c0 c1 c2 c3 c4 c5 c6 c7
 have HC := Lib.hid (kid_go 9 z C capc 3 base g w.heap.size S L w2 hkz hF.wr hF.size (hF.p.cell 0) hF.np k1 k9 hWz hlk.1 (by decide))
 unfold ndV at HC
 have p0 := (hF).p.cell 0
 have hlp := (hF).p.lt
 simp only [getH] at p0
 have n0 := (hF).x.cell 0
 have n1 := (hF).x.cell 1
 have n2 := (hF).x.cell 2
 have n3 := (hF).x.cell 3
 have n4 := (hF).x.cell 4
 have n5 := (hF).x.cell 5
 have n6 := (hF).x.cell 6
 have n7 := (hF).x.cell 7
 have hlx := (hF).x.lt
 simp only [getH] at n0 n1 n2 n3 n4 n5 n6 n7
 clear hF hkz hz hz1 k1 k9 hWz hl
 generalize kidS 9 (z.kind, z.write) = lk at *
 go_wp2_with fail
 refine HC.out.mono ?_
 rintro e w5 ⟨rfl, S5, hm5, hv5⟩
 have HF5 := Lib.hid (HF2.out.go hm5 hv5)
 clear hm5 hv5 HC HF2 c0 c1 c2 c3 c4 c5 c6 c7 hblk hnb p0 hlp n0 n1 n2 n3 n4 n5 n6 n7 hlx
 dsimp only
 have h63 : (L ++ lk).length + 1 ≤ maxLen := Nat.le_trans (show (L ++ lk).length + 1 ≤ 2000000000 by omega) (by decide)
 have hby : ((L ++ lk).length + 1) * 64 ≤ 140737488355328 := by omega
 have HLC := Lib.hid (show lexCell ⟨8, 0, noSet, x.lo, x.hi⟩ = [.int .i64 8, .int .i64 0, .int .u64 0, .int .u64 0, .int .u64 0, .int .u64 0, .int .i64 x.lo, .int .i64 x.hi] from rfl)
 go_upto_region 27 with fail
 have p0 := (HF5.out).p.cell 0
 have hlp := (HF5.out).p.lt
 simp only [getH] at p0
 have n0 := (HF5.out).x.cell 0
 have n1 := (HF5.out).x.cell 1
 have n2 := (HF5.out).x.cell 2
 have n3 := (HF5.out).x.cell 3
 have n4 := (HF5.out).x.cell 4
 have n5 := (HF5.out).x.cell 5
 have n6 := (HF5.out).x.cell 6
 have n7 := (HF5.out).x.cell 7
 have hlx := (HF5.out).x.lt
 simp only [getH] at n0 n1 n2 n3 n4 n5 n6 n7
 have h0 := (HF5).out.wr
 obtain ⟨h0, hg, v, hG, hR, h3⟩ := h0
 obtain ⟨i0, hi, hz0, hz1, hz2⟩ := info_parts info_lex
 have s0 := hG.cell 0
 have f0 := hG.frozen 0
 have hltg := Blk.lt hG
 have HG := Lib.hid hG
 have HR := Lib.hid hR
 have HH := Lib.hid (show _ ∧ _ ∧ _ from ⟨h0, hg, h3⟩)
 have HneG := Lib.hid (blk_not_row hG (by decide) hR)
 have hbw := (HF5).out.size
 clear hG hR h0 h3
 have hKl := two_of (Q := fun b => b < w5.heap.size) hlp hlx
 refine wp_region_held_drew (S := fun w' => ∀ b' o', b' = w.heap.size ∨ b' = w.heap.size + 1 → w'.cell? ⟨b', o', none⟩ = w5.cell? ⟨b', o', none⟩) (by kernel_rfl) (KeepP.start (fun b => b = w.heap.size ∨ b = w.heap.size + 1) w5) (fun hHeld => ?_)
 refine wpAnyH_take (i := 0) (oi := _) (v := ?_) rfl (by kernel_rfl) (by kernel_rfl) (by kernel_rfl) (fun _ _ _ h => h) (Or.inl ⟨by kernel_rfl, ?_⟩) (by assumption) ?_
 rotate_left
 ·intro w hSw
  try dsimp only at hSw
  go_simp
  try (with_reducible rfl)
 try simp only [Act.put, nrmH]
 refine wpAnyH_take (i := 1) (oi := _) (v := ?_) rfl (by kernel_rfl) (by kernel_rfl) (by kernel_rfl) (fun _ _ _ h => h) (Or.inl ⟨by kernel_rfl, ?_⟩) (by assumption) ?_
 rotate_left
 ·intro w hSw
  try dsimp only at hSw
  go_simp
  try (with_reducible rfl)
 try simp only [Act.put, nrmH]
 refine wpAnyH_take (i := 2) (oi := _) (v := ?_) rfl (by kernel_rfl) (by kernel_rfl) (by kernel_rfl) (fun _ _ _ h => h) (Or.inl ⟨by kernel_rfl, ?_⟩) (by assumption) ?_
 rotate_left
 ·intro w hSw
  try dsimp only at hSw
  go_simp
  try (with_reducible rfl)
 try simp only [Act.put, nrmH]
 refine wpAnyH_take (i := 3) (oi := _) (v := ?_) rfl (by kernel_rfl) (by kernel_rfl) (by kernel_rfl) (fun _ _ _ h => h) (Or.inl ⟨by kernel_rfl, ?_⟩) (by assumption) ?_
 rotate_left
 ·intro w hSw
  try dsimp only at hSw
  go_simp
  try (with_reducible rfl)
 try simp only [Act.put, nrmH]
 refine wpAnyH_take (i := 5) (oi := _) (v := ?_) rfl (by kernel_rfl) (by kernel_rfl) (by kernel_rfl) (fun _ _ _ h => h) (Or.inl ⟨by kernel_rfl, ?_⟩) (by assumption) ?_
 rotate_left
 ·intro w hSw
  try dsimp only at hSw
  go_simp
  try (with_reducible rfl)
 try simp only [Act.put, nrmH]
 refine wpAnyH_take (i := 6) (oi := _) (v := ?_) rfl (by kernel_rfl) (by kernel_rfl) (by kernel_rfl) (fun _ _ _ h => h) (Or.inl ⟨by kernel_rfl, ?_⟩) (by assumption) ?_
 rotate_left
 ·intro w hSw
  try dsimp only at hSw
  go_simp
  try (with_reducible rfl)
 try simp only [Act.put, nrmH]
 refine wpAnyH_take (i := 7) (oi := _) (v := ?_) rfl (by kernel_rfl) (by kernel_rfl) (by kernel_rfl) (fun _ _ _ h => h) (Or.inl ⟨by kernel_rfl, ?_⟩) (by assumption) ?_
 rotate_left
 ·intro w hSw
  try dsimp only at hSw
  go_simp
  try (with_reducible rfl)
 try simp only [Act.put, nrmH]
 refine wpAnyH_take (i := 8) (oi := _) (v := ?_) rfl (by kernel_rfl) (by kernel_rfl) (by kernel_rfl) (fun _ _ _ h => h) (Or.inl ⟨by kernel_rfl, ?_⟩) (by assumption) ?_
 rotate_left
 ·intro w hSw
  try dsimp only at hSw
  go_simp
  try (with_reducible rfl)
 try simp only [Act.put, nrmH]
 refine wpAnyH_take (i := 9) (oi := _) (v := ?_) rfl (by kernel_rfl) (by kernel_rfl) (by kernel_rfl) (fun _ _ _ h => h) (Or.inl ⟨by kernel_rfl, ?_⟩) (by assumption) ?_
 rotate_left
 ·intro w hSw
  try dsimp only at hSw
  go_simp
  try (with_reducible rfl)
 try simp only [Act.put, nrmH]
 refine wpAnyH_ready (rs := [4, 10]) (by kernel_rfl) (by simp) ?_
 refine AllReadyH.cons (o := _) rfl (fun K hK => ?_) (AllReadyH.cons (o := _) rfl (fun K hK => ?_) AllReadyH.nil)
 ·skip
  go_simp
  refine hK.out _ _ hHeld (fun _ => ?_)
  clear hK K hHeld
  try simp only [Act.put, nrmH]
  refine wpAnyH_ready (rs := [10]) (by kernel_rfl) (by simp) ?_
  refine AllReadyH.cons (o := _) rfl (fun K hK => ?_) AllReadyH.nil
  go_simp
  refine hK.out _ _ (KeepP.alloc (KeepP.start (fun b => b = w.heap.size ∨ b = w.heap.size + 1) w5) hKl _) (fun _ => ?_)
  clear hK K
  try simp only [Act.put, nrmH]
  refine wpAnyH_ready (rs := [11]) (by kernel_rfl) (by simp) ?_
  refine AllReadyH.cons (o := _) rfl (fun K hK => ?_) AllReadyH.nil
  refine step_append_lies _ (by rfl) _ _ _ (by rfl) base 143 i0 _ 8 64 Tryz.underlying138 hi hz0 hz1 hz2 rfl (by decide) v (L ++ lk).length (lexCells (L ++ lk)) (by rfl) (HR.out.drew.alloc _) ⟨w5.heap.size, 0, none⟩ 1 1 ([.int .i64 8, .int .i64 0, .int .u64 0, .int .u64 0, .int .u64 0, .int .u64 0, .int .i64 x.lo, .int .i64 x.hi]) (by rfl) (by rfl) (World.news_of_block (cs := ([.int .i64 8, .int .i64 0, .int .u64 0, .int .u64 0, .int .u64 0, .int .u64 0, .int .i64 x.lo, .int .i64 x.hi]).toArray) (t := 143) (fr := (0, 0)) (heap_alloc_new w5.drew _)) (by simp [Value.oneCell']) (by decide) h63 hby (by simp; omega) (w5.heap.size + 1) (by simp) ?_
  intro gg cap' w3 hown1 hgrow hat hlt1
  have hG1 := Blk.grown (Blk.alloc (Blk.drew HG.out) _) hgrow HneG.out
  have c0 := hG1.cell 0
  have d0 := hG1.frozen 0
  have hgl := hG1.lt
  have HKG := Lib.hid (KeepP.grown (KeepP.alloc (KeepP.start (fun b => b = w.heap.size ∨ b = w.heap.size + 1) w5) hKl _) hgrow (two_of (Q := fun b => b < _ ∧ some b ≠ v.ownBlock) ⟨by simp; omega, fun e => HF5.out.np (HH.out.2.2 _ e.symm)⟩ ⟨by simp; omega, fun e => HF5.out.nx (HH.out.2.2 _ e.symm)⟩))
  rw [← HLC.out] at hown1
  have HG1 := Lib.hid hG1
  have Hgrow := Lib.hid hgrow
  have Hown1 := Lib.hid hown1
  have Hat := Lib.hid hat
  clear hG1 hgrow hown1 hat
  refine hK.out _ _ HKG.out (fun _ => ?_)
  clear hK K
  try simp only [Act.put, nrmH]
  refine wpAnyH_take (i := 12) (oi := _) (v := ?_) rfl (by kernel_rfl) (by kernel_rfl) (by kernel_rfl) (fun _ _ _ h => h) (Or.inl ⟨by kernel_rfl, ?_⟩) (by assumption) ?_
  rotate_left
  ·intro w hSw
   try dsimp only at hSw
   go_simp
   try (with_reducible rfl)
  try simp only [Act.put, nrmH]
  refine wpAnyH_take (i := 13) (oi := _) (v := ?_) rfl (by kernel_rfl) (by kernel_rfl) (by kernel_rfl) (fun _ _ _ h => h) (Or.inl ⟨by kernel_rfl, ?_⟩) (by assumption) ?_
  rotate_left
  ·intro w hSw
   try dsimp only at hSw
   go_simp
   try (with_reducible rfl)
  try simp only [Act.put, nrmH]
  refine wpAnyH_ready (rs := [14]) (by kernel_rfl) (by simp) ?_
  refine AllReadyH.cons (o := _) rfl (fun K hK => ?_) AllReadyH.nil
  go_simp
  refine hK.out _ _ (KeepP.set HKG.out (two_of (Q := fun b => b ≠ g) (p := w.heap.size) (q := w.heap.size + 1) (fun e => HF5.out.np (by rw [e]; exact HH.out.2.1)) (fun e => HF5.out.nx (by rw [e]; exact HH.out.2.1))) _) (fun _ => ?_)
  clear hK K
  try simp only [Act.put, nrmH]
  refine wpAnyH_done (by kernel_rfl) ?_ _
  go_wp2
  go_light
  go_end0
  obtain ⟨S', hp1, hp2⟩ := wr_push HH.out hbw HG1.out ((Below.refl w5.heap.size w5).drew.alloc (Nat.le_refl _) _) Hgrow.out Hown1.out Hat.out (by omega)
  have hz9 := (HF5.out.go hp1 hp2).out (e := .returned (.tuple #[])) rfl; rw [List.length_append] at hz9; rw [← List.append_assoc]; exact hz9
 ·skip
  go_simp
  refine hK.out _ _ (KeepP.alloc (KeepP.start (fun b => b = w.heap.size ∨ b = w.heap.size + 1) w5) hKl _) (fun _ => ?_)
  clear hK K hHeld
  try simp only [Act.put, nrmH]
  refine wpAnyH_ready (rs := [4]) (by kernel_rfl) (by simp) ?_
  refine AllReadyH.cons (o := _) rfl (fun K hK => ?_) AllReadyH.nil
  go_simp
  refine hK.out _ _ (by assumption) (fun _ => ?_)
  clear hK K
  try simp only [Act.put, nrmH]
  refine wpAnyH_ready (rs := [11]) (by kernel_rfl) (by simp) ?_
  refine AllReadyH.cons (o := _) rfl (fun K hK => ?_) AllReadyH.nil
  refine step_append_lies _ (by rfl) _ _ _ (by rfl) base 143 i0 _ 8 64 Tryz.underlying138 hi hz0 hz1 hz2 rfl (by decide) v (L ++ lk).length (lexCells (L ++ lk)) (by rfl) (HR.out.drew.alloc _) ⟨w5.heap.size, 0, none⟩ 1 1 ([.int .i64 8, .int .i64 0, .int .u64 0, .int .u64 0, .int .u64 0, .int .u64 0, .int .i64 x.lo, .int .i64 x.hi]) (by rfl) (by rfl) (World.news_of_block (cs := ([.int .i64 8, .int .i64 0, .int .u64 0, .int .u64 0, .int .u64 0, .int .u64 0, .int .i64 x.lo, .int .i64 x.hi]).toArray) (t := 143) (fr := (0, 0)) (heap_alloc_new w5.drew _)) (by simp [Value.oneCell']) (by decide) h63 hby (by simp; omega) (w5.heap.size + 1) (by simp) ?_
  intro gg cap' w3 hown1 hgrow hat hlt1
  have hG1 := Blk.grown (Blk.alloc (Blk.drew HG.out) _) hgrow HneG.out
  have c0 := hG1.cell 0
  have d0 := hG1.frozen 0
  have hgl := hG1.lt
  have HKG := Lib.hid (KeepP.grown (KeepP.alloc (KeepP.start (fun b => b = w.heap.size ∨ b = w.heap.size + 1) w5) hKl _) hgrow (two_of (Q := fun b => b < _ ∧ some b ≠ v.ownBlock) ⟨by simp; omega, fun e => HF5.out.np (HH.out.2.2 _ e.symm)⟩ ⟨by simp; omega, fun e => HF5.out.nx (HH.out.2.2 _ e.symm)⟩))
  rw [← HLC.out] at hown1
  have HG1 := Lib.hid hG1
  have Hgrow := Lib.hid hgrow
  have Hown1 := Lib.hid hown1
  have Hat := Lib.hid hat
  clear hG1 hgrow hown1 hat
  refine hK.out _ _ HKG.out (fun _ => ?_)
  clear hK K
  try simp only [Act.put, nrmH]
  refine wpAnyH_take (i := 12) (oi := _) (v := ?_) rfl (by kernel_rfl) (by kernel_rfl) (by kernel_rfl) (fun _ _ _ h => h) (Or.inl ⟨by kernel_rfl, ?_⟩) (by assumption) ?_
  rotate_left
  ·intro w hSw
   try dsimp only at hSw
   go_simp
   try (with_reducible rfl)
  try simp only [Act.put, nrmH]
  refine wpAnyH_take (i := 13) (oi := _) (v := ?_) rfl (by kernel_rfl) (by kernel_rfl) (by kernel_rfl) (fun _ _ _ h => h) (Or.inl ⟨by kernel_rfl, ?_⟩) (by assumption) ?_
  rotate_left
  ·intro w hSw
   try dsimp only at hSw
   go_simp
   try (with_reducible rfl)
  try simp only [Act.put, nrmH]
  refine wpAnyH_ready (rs := [14]) (by kernel_rfl) (by simp) ?_
  refine AllReadyH.cons (o := _) rfl (fun K hK => ?_) AllReadyH.nil
  go_simp
  refine hK.out _ _ (KeepP.set HKG.out (two_of (Q := fun b => b ≠ g) (p := w.heap.size) (q := w.heap.size + 1) (fun e => HF5.out.np (by rw [e]; exact HH.out.2.1)) (fun e => HF5.out.nx (by rw [e]; exact HH.out.2.1))) _) (fun _ => ?_)
  clear hK K
  try simp only [Act.put, nrmH]
  refine wpAnyH_done (by kernel_rfl) ?_ _
  go_wp2
  go_light
  go_end0
  obtain ⟨S', hp1, hp2⟩ := wr_push HH.out hbw HG1.out ((Below.refl w5.heap.size w5).drew.alloc (Nat.le_refl _) _) Hgrow.out Hown1.out Hat.out (by omega)
  have hz9 := (HF5.out.go hp1 hp2).out (e := .returned (.tuple #[])) rfl; rw [List.length_append] at hz9; rw [← List.append_assoc]; exact hz9
theorem cat_snoc {F : Trees} {k : Nat} {z : Nd} (hz : F.list[k]? = some z) (L : List Lex) : L ++ ((F.writes.take (k + 1)).map (kidS 4)).flatten = L ++ ((F.writes.take k).map (kidS 4)).flatten ++ kidS 4 (z.kind, z.write) := by
 rw [take_snocF (Trees.writes_get hz), List.map_append, List.flatten_append, List.append_assoc]
 simp
theorem write_cat (x : Nd) (hK : KidsW x.kids) (B : Option Addr) (cap base g : Nat) (S : Nat → Prop) (L : List Lex) (w : World) (ht : TreesAt w (fun b => ¬ S b) x.kids B) (h : WrAt w base g S L) (hb : base ≤ w.heap.size) (hl : L.length + x.write.length ≤ 90000000) (hkl : x.kids.len ≤ 140737488355328) (hk : x.kind = 4) : Calls Tryz.prog 161 #[.pointer (some ⟨g, 0, none⟩), ndV x B cap] w (WrOut base g S w (L ++ x.write)) := by
 rw [Nd.write_cat hk] at hl ⊢
 have HF2 := Lib.hid (show WFr w base g S #[.int .i64 4, .int .u64 (word x.set.testBit 0), .int .u64 (word x.set.testBit 1), .int .u64 (word x.set.testBit 2), .int .u64 (word x.set.testBit 3), .slice B x.kids.len cap, .int .i64 x.lo, .int .i64 x.hi] S L ((w.alloc (.cells #[.pointer (some ⟨g, 0, none⟩)] 217)).alloc (.cells #[.int .i64 4, .int .u64 (word x.set.testBit 0), .int .u64 (word x.set.testBit 1), .int .u64 (word x.set.testBit 2), .int .u64 (word x.set.testBit 3), .slice B x.kids.len cap, .int .i64 x.lo, .int .i64 x.hi] 28)) from WFr.start #[.int .i64 4, .int .u64 (word x.set.testBit 0), .int .u64 (word x.set.testBit 1), .int .u64 (word x.set.testBit 2), .int .u64 (word x.set.testBit 3), .slice B x.kids.len cap, .int .i64 x.lo, .int .i64 x.hi] h hb)
 have HT := Lib.hid ht
 have HK := Lib.hid hK
 unfold ndV
 rw [hk]
 clear ht hK h
 go_enter Tryz.func161, Tryz.ntmps161
 have HM0 := Lib.hid (show WFrM w base g S #[.int .i64 4, .int .u64 (word x.set.testBit 0), .int .u64 (word x.set.testBit 1), .int .u64 (word x.set.testBit 2), .int .u64 (word x.set.testBit 3), .slice B x.kids.len cap, .int .i64 x.lo, .int .i64 x.hi] (L ++ ((x.kids.writes.take 0).map (kidS 4)).flatten) ((w.alloc (.cells #[.pointer (some ⟨g, 0, none⟩)] 217)).alloc (.cells #[.int .i64 4, .int .u64 (word x.set.testBit 0), .int .u64 (word x.set.testBit 1), .int .u64 (word x.set.testBit 2), .int .u64 (word x.set.testBit 3), .slice B x.kids.len cap, .int .i64 x.lo, .int .i64 x.hi] 28)) from ⟨S, by simpa using HF2.out⟩)
 clear HF2
 go_wp2
 go_loopw [50] (fun i' wr => ∃ k : Nat, i' = .int .i64 (k : Int) ∧ k ≤ x.kids.len ∧ Hid (WFrM w base g S #[.int .i64 4, .int .u64 (word x.set.testBit 0), .int .u64 (word x.set.testBit 1), .int .u64 (word x.set.testBit 2), .int .u64 (word x.set.testBit 3), .slice B x.kids.len cap, .int .i64 x.lo, .int .i64 x.hi] (L ++ ((x.kids.writes.take k).map (kidS 4)).flatten) wr)) (fun i' _ => x.kids.len - (intOf i').toNat)
 case atStart => exact ⟨0, rfl, Nat.zero_le _, HM0⟩
 case round =>
  clear HM0
  obtain ⟨k, rfl, hk, HM⟩ := hrel
  by_cases hlt : k < x.kids.len
  ·obtain ⟨z, hz⟩ : ∃ z, x.kids.list[k]? = some z := ⟨_, List.getElem?_eq_getElem (by rw [Trees.len_list]; exact hlt)⟩
   have hdl : (k : Int) < (x.kids.len : Int) := by omega
   have hsn := cat_snoc hz L
   have hle : (L ++ ((x.kids.writes.take k).map (kidS 4)).flatten).length + (kidS 4 (z.kind, z.write)).length ≤ 90000000 := by
    have h1 := flat_take (x.kids.writes.map (kidS 4)) (k + 1)
    rw [← List.map_take] at h1
    have h2 := congrArg List.length hsn
    rw [List.length_append, List.length_append] at h2
    omega
   have HS := Lib.hid hsn
   obtain ⟨S1, hF0⟩ := HM.out
   have hF := hF0
   obtain ⟨b, o, C, capc, rfl, hnb, _, ⟨c0, c1, c2, c3, c4, c5, c6, c7⟩, hkz⟩ := (HT.out.movesW hF.mvs).get hz
   have hblk := World.block_lt_of_cell? wr _ c0
   obtain ⟨k1, k9, hWz⟩ := HK.out z (List.mem_of_getElem? hz)
   have hFA := hF0.below ((Below.refl _ _).alloc (Nat.le_refl _) (.cells #[.int .i64 z.kind, .int .u64 (word z.set.testBit 0), .int .u64 (word z.set.testBit 1), .int .u64 (word z.set.testBit 2), .int .u64 (word z.set.testBit 3), .slice C z.kids.len capc, .int .i64 z.lo, .int .i64 z.hi] 28))
   have HC := Lib.hid (kid_go 4 z C capc 3 base g w.heap.size S1 _ _ (hkz.below ((Below.refl _ _).alloc (Nat.le_refl _) _)) hFA.wr hFA.size (hFA.p.cell 0) hFA.np k1 k9 hWz hle (by decide))
   have HFA := Lib.hid hFA
   unfold ndV at HC
   clear hF hF0 hFA hkz hz k1 k9 hWz hl hsn hle HM
   generalize L ++ ((x.kids.writes.take k).map (kidS 4)).flatten = Lk at *
   generalize kidS 4 (z.kind, z.write) = lz at *
   go_wp2_with fail
   refine HC.out.mono ?_
   rintro e w5 ⟨rfl, S5, hm5, hv5⟩
   have HF5 := Lib.hid (HFA.out.go hm5 hv5)
   clear hm5 hv5 HC HFA c0 c1 c2 c3 c4 c5 c6 c7 hblk hnb
   dsimp only
   go_wp2
   go_roundw
   case rel =>
    refine ⟨k + 1, by go_num, by omega, Lib.hid ?_⟩
    rw [HS.out]
    exact ⟨S5, HF5.out⟩
   case measure => simp [intOf]; omega
  ·obtain rfl : k = x.kids.len := by omega
   have hdl : ¬ ((x.kids.len : Int) < (x.kids.len : Int)) := by omega
   obtain ⟨S1, hF0⟩ := HM.out
   rw [show x.kids.writes.take x.kids.len = x.kids.writes by rw [← Trees.writes_len, List.take_length]] at hF0
   have HF0 := Lib.hid hF0
   clear hF0 HM
   go_wp2
   go_light
   go_end0
   exact HF0.out.out rfl
theorem alt_snoc {F : Trees} {k : Nat} {z : Nd} (hz : F.list[k]? = some z) (hk : 0 < k) : barsS ((F.writes.take (k + 1)).map (kidS 5)) = barsS ((F.writes.take k).map (kidS 5)) ++ [lexK 4] ++ kidS 5 (z.kind, z.write) := by
 have hlt := (List.getElem?_eq_some_iff.1 (Trees.writes_get hz)).1
 rw [take_snocF (Trees.writes_get hz), List.map_append, List.map_cons, List.map_nil, barsS_snoc, if_neg (by rw [List.length_map, List.length_take]; omega)]
 simp
theorem alt_first {F : Trees} {z : Nd} (hz : F.list[0]? = some z) : barsS ((F.writes.take (0 + 1)).map (kidS 5)) = kidS 5 (z.kind, z.write) := by
 rw [take_snocF (Trees.writes_get hz), List.take_zero, List.nil_append]
 simp [barsS]
theorem write_alt (x : Nd) (hK : KidsW x.kids) (B : Option Addr) (cap base g : Nat) (S : Nat → Prop) (L : List Lex) (w : World) (ht : TreesAt w (fun b => ¬ S b) x.kids B) (h : WrAt w base g S L) (hb : base ≤ w.heap.size) (hl : L.length + x.write.length ≤ 90000000) (hkl : x.kids.len ≤ 140737488355328) (hk : x.kind = 5) : Calls Tryz.prog 161 #[.pointer (some ⟨g, 0, none⟩), ndV x B cap] w (WrOut base g S w (L ++ x.write)) := by
 rw [Nd.write_alt hk] at hl ⊢
 have HF2 := Lib.hid (show WFr w base g S #[.int .i64 5, .int .u64 (word x.set.testBit 0), .int .u64 (word x.set.testBit 1), .int .u64 (word x.set.testBit 2), .int .u64 (word x.set.testBit 3), .slice B x.kids.len cap, .int .i64 x.lo, .int .i64 x.hi] S L ((w.alloc (.cells #[.pointer (some ⟨g, 0, none⟩)] 217)).alloc (.cells #[.int .i64 5, .int .u64 (word x.set.testBit 0), .int .u64 (word x.set.testBit 1), .int .u64 (word x.set.testBit 2), .int .u64 (word x.set.testBit 3), .slice B x.kids.len cap, .int .i64 x.lo, .int .i64 x.hi] 28)) from WFr.start #[.int .i64 5, .int .u64 (word x.set.testBit 0), .int .u64 (word x.set.testBit 1), .int .u64 (word x.set.testBit 2), .int .u64 (word x.set.testBit 3), .slice B x.kids.len cap, .int .i64 x.lo, .int .i64 x.hi] h hb)
 have HT := Lib.hid ht
 have HK := Lib.hid hK
 unfold ndV
 rw [hk]
 clear ht hK h
 go_enter Tryz.func161, Tryz.ntmps161
 have HM0 := Lib.hid (show WFrM w base g S #[.int .i64 5, .int .u64 (word x.set.testBit 0), .int .u64 (word x.set.testBit 1), .int .u64 (word x.set.testBit 2), .int .u64 (word x.set.testBit 3), .slice B x.kids.len cap, .int .i64 x.lo, .int .i64 x.hi] (L ++ barsS ((x.kids.writes.take 0).map (kidS 5))) ((w.alloc (.cells #[.pointer (some ⟨g, 0, none⟩)] 217)).alloc (.cells #[.int .i64 5, .int .u64 (word x.set.testBit 0), .int .u64 (word x.set.testBit 1), .int .u64 (word x.set.testBit 2), .int .u64 (word x.set.testBit 3), .slice B x.kids.len cap, .int .i64 x.lo, .int .i64 x.hi] 28)) from ⟨S, by simpa [barsS] using HF2.out⟩)
 clear HF2
 go_wp2
 go_loopw [32] (fun i' wr => ∃ k : Nat, i' = .int .i64 (k : Int) ∧ k ≤ x.kids.len ∧ Hid (WFrM w base g S #[.int .i64 5, .int .u64 (word x.set.testBit 0), .int .u64 (word x.set.testBit 1), .int .u64 (word x.set.testBit 2), .int .u64 (word x.set.testBit 3), .slice B x.kids.len cap, .int .i64 x.lo, .int .i64 x.hi] (L ++ barsS ((x.kids.writes.take k).map (kidS 5))) wr)) (fun i' _ => x.kids.len - (intOf i').toNat)
 case atStart => exact ⟨0, rfl, Nat.zero_le _, HM0⟩
 case round =>
  clear HM0
  obtain ⟨k, rfl, hk, HM⟩ := hrel
  by_cases hlt : k < x.kids.len
  ·obtain ⟨z, hz⟩ : ∃ z, x.kids.list[k]? = some z := ⟨_, List.getElem?_eq_getElem (by rw [Trees.len_list]; exact hlt)⟩
   have hdl : (k : Int) < (x.kids.len : Int) := by omega
   have htk := bars_take (x.kids.writes.map (kidS 5)) (k + 1)
   rw [← List.map_take] at htk
   obtain ⟨S1, hF0⟩ := HM.out
   rcases Nat.eq_zero_or_pos k with rfl | hpos
   ·have hsn := alt_first hz
    have hle : L.length + (kidS 5 (z.kind, z.write)).length ≤ 90000000 := by
     rw [hsn] at htk
     omega
    have HS := Lib.hid (congrArg (fun l => L ++ l) hsn)
    have hF := hF0
    obtain ⟨b, o, C, capc, rfl, hnb, _, ⟨c0, c1, c2, c3, c4, c5, c6, c7⟩, hkz⟩ := (HT.out.movesW hF.mvs).get hz
    have hblk := World.block_lt_of_cell? wr _ c0
    obtain ⟨k1, k9, hWz⟩ := HK.out z (List.mem_of_getElem? hz)
    have hFA := hF0.below ((Below.refl _ _).alloc (Nat.le_refl _) (.cells #[.int .i64 z.kind, .int .u64 (word z.set.testBit 0), .int .u64 (word z.set.testBit 1), .int .u64 (word z.set.testBit 2), .int .u64 (word z.set.testBit 3), .slice C z.kids.len capc, .int .i64 z.lo, .int .i64 z.hi] 28))
    simp only [Nat.zero_mul, Nat.add_zero] at c0 c1 c2 c3 c4 c5 c6 c7
    have e0 : L ++ barsS ((x.kids.writes.take 0).map (kidS 5)) = L := by simp [barsS]
    rw [e0] at hFA
    have HC := Lib.hid (kid_go 5 z C capc 2 base g w.heap.size S1 _ _ (hkz.below ((Below.refl _ _).alloc (Nat.le_refl _) _)) hFA.wr hFA.size (hFA.p.cell 0) hFA.np k1 k9 hWz hle (by decide))
    have HFA := Lib.hid hFA
    unfold ndV at HC
    clear hF hF0 hFA hkz hz k1 k9 hWz hl hsn hle HM htk e0
    generalize kidS 5 (z.kind, z.write) = lz at *
    go_wp2_with fail
    refine HC.out.mono ?_
    rintro e w5 ⟨rfl, S5, hm5, hv5⟩
    have HF5 := Lib.hid (HFA.out.go hm5 hv5)
    clear hm5 hv5 HC HFA c0 c1 c2 c3 c4 c5 c6 c7 hblk hnb
    dsimp only
    go_wp2
    go_roundw
    case rel =>
     refine ⟨0 + 1, by go_num, by omega, Lib.hid ?_⟩
     rw [HS.out]
     exact ⟨S5, HF5.out⟩
    case measure => simp [intOf]; omega
   ·have hsn := alt_snoc hz hpos
    have hle : (L ++ barsS ((x.kids.writes.take k).map (kidS 5)) ++ [lexK 4]).length + (kidS 5 (z.kind, z.write)).length ≤ 90000000 := by
     have h2 := congrArg List.length hsn
     simp only [List.length_append, List.length_cons, List.length_nil] at h2 hl ⊢
     omega
    have hdp : (0 : Int) < (k : Int) := by omega
    have HS := Lib.hid (congrArg (fun l => L ++ l) hsn)
    have hF := hF0
    obtain ⟨b, o, C, capc, rfl, hnb, _, ⟨c0, c1, c2, c3, c4, c5, c6, c7⟩, hkz⟩ := (HT.out.movesW hF.mvs).get hz
    have hblk := World.block_lt_of_cell? wr _ c0
    obtain ⟨k1, k9, hWz⟩ := HK.out z (List.mem_of_getElem? hz)
    have hFA := hF0.below ((Below.refl _ _).alloc (Nat.le_refl _) (.cells #[.int .i64 z.kind, .int .u64 (word z.set.testBit 0), .int .u64 (word z.set.testBit 1), .int .u64 (word z.set.testBit 2), .int .u64 (word z.set.testBit 3), .slice C z.kids.len capc, .int .i64 z.lo, .int .i64 z.hi] 28))
    rw [← List.append_assoc, ← List.append_assoc] at HS
    generalize L ++ barsS ((x.kids.writes.take k).map (kidS 5)) = Lk at *
    have HP := Lib.hid (wput_go base g S1 Lk 4 _ hFA.wr hFA.size (by simp only [List.length_append] at hle; omega))
    have p0 := hFA.p.cell 0
    simp only [List.getElem?_toArray, List.getElem?_cons_zero] at p0
    have HQ := Lib.hid (show _ ∧ _ ∧ _ ∧ _ from ⟨hkz.below ((Below.refl _ _).alloc (Nat.le_refl _) (.cells #[.int .i64 z.kind, .int .u64 (word z.set.testBit 0), .int .u64 (word z.set.testBit 1), .int .u64 (word z.set.testBit 2), .int .u64 (word z.set.testBit 3), .slice C z.kids.len capc, .int .i64 z.lo, .int .i64 z.hi] 28)), k1, k9, hWz⟩)
    have HX := Lib.hid (Blk.new wr 28 #[.int .i64 z.kind, .int .u64 (word z.set.testBit 0), .int .u64 (word z.set.testBit 1), .int .u64 (word z.set.testBit 2), .int .u64 (word z.set.testBit 3), .slice C z.kids.len capc, .int .i64 z.lo, .int .i64 z.hi])
    have HFA := Lib.hid hFA
    have HNX := Lib.hid (hF0.wr.not (Nat.le_refl wr.heap.size))
    have HLE := Lib.hid hle
    clear hF hF0 hFA hkz hz k1 k9 hWz hl hsn hle HM htk
    go_wp2_with fail
    refine HP.out.mono ?_
    rintro e w4 ⟨rfl, S4, hm4, hv4⟩
    have hF4 := HFA.out.go hm4 hv4
    have hX4 := HX.out.moves hv4 HNX.out
    have HC := Lib.hid (kid_go 5 z C capc 2 base g w.heap.size S4 (Lk ++ [lexK 4]) w4 (HQ.out.1.movesW hv4) hF4.wr hF4.size (hF4.p.cell 0) hF4.np HQ.out.2.1 HQ.out.2.2.1 HQ.out.2.2.2 HLE.out (by decide))
    unfold ndV at HC
    have HF4 := Lib.hid hF4
    have y0 := hX4.cell 0
    have y1 := hX4.cell 1
    have y2 := hX4.cell 2
    have y3 := hX4.cell 3
    have y4 := hX4.cell 4
    have y5 := hX4.cell 5
    have y6 := hX4.cell 6
    have y7 := hX4.cell 7
    have hly := hX4.lt
    simp only [getH] at y0 y1 y2 y3 y4 y5 y6 y7
    clear hm4 hv4 hF4 hX4 HP HFA HX HNX HQ HLE p0 c0 c1 c2 c3 c4 c5 c6 c7 hblk hnb
    generalize kidS 5 (z.kind, z.write) = lz at *
    dsimp only
    go_wp2_with fail
    refine HC.out.mono ?_
    rintro e w5 ⟨rfl, S5, hm5, hv5⟩
    have HF5 := Lib.hid (HF4.out.go hm5 hv5)
    clear hm5 hv5 HC HF4 y0 y1 y2 y3 y4 y5 y6 y7 hly
    dsimp only
    go_wp2
    go_roundw
    case rel =>
     refine ⟨k + 1, by go_num, by omega, Lib.hid ?_⟩
     rw [HS.out]
     exact ⟨S5, HF5.out⟩
    case measure => simp [intOf]; omega
  ·obtain rfl : k = x.kids.len := by omega
   have hdl : ¬ ((x.kids.len : Int) < (x.kids.len : Int)) := by omega
   obtain ⟨S1, hF0⟩ := HM.out
   rw [show x.kids.writes.take x.kids.len = x.kids.writes by rw [← Trees.writes_len, List.take_length]] at hF0
   have HF0 := Lib.hid hF0
   clear hF0 HM
   go_wp2
   go_light
   go_end0
   exact HF0.out.out rfl
theorem write_node (x : Nd) (ha : aloneN x = true) (hK : KidsW x.kids) (hkl : x.kids.len ≤ 140737488355328) : WriteC x := fun B cap base g S L w ht h hb hl => by
 obtain ⟨a1, a9, a0, ak1, ak9⟩ := aloneN_kids ha
 rcases (show x.kind = 1 ∨ x.kind = 2 ∨ x.kind = 3 ∨ x.kind = 4 ∨ x.kind = 5 ∨ x.kind = 6 ∨ x.kind = 7 ∨ x.kind = 8 ∨ x.kind = 9 by omega) with hk | hk | hk | hk | hk | hk | hk | hk | hk
 ·exact write_leaf1 x hK B cap base g S L w ht h hb hl hkl hk
 ·exact write_empty x hK B cap base g S L w ht h hb hl hkl hk
 ·exact write_leaf3 x hK B cap base g S L w ht h hb hl hkl hk
 ·exact write_cat x hK B cap base g S L w ht h hb hl hkl hk
 ·exact write_alt x hK B cap base g S L w ht h hb hl hkl hk
 ·exact write_post6 x hK B cap base g S L w ht h hb hl hkl hk (a1 (by omega) ak9)
 ·exact write_post7 x hK B cap base g S L w ht h hb hl hkl hk (a1 (by omega) ak9)
 ·exact write_post8 x hK B cap base g S L w ht h hb hl hkl hk (a1 (by omega) ak9)
 ·exact write_rep x hK B cap base g S L w ht h hb hl hkl hk (a1 (by omega) ak9)
theorem write_all : ∀ (F : Trees), F.size ≤ 100000000 → Okays F → KidsW F
 | .nil, _, _, z, hz => by cases hz
 | .cons k s ks lo hi r, hs, ho, z, hz => by
  rw [Trees.list] at hz
  have hks : Okays ks := fun y hy => ho y (by simp [Trees.nodes, hy])
  have hr : Okays r := fun y hy => ho y (by simp [Trees.nodes, hy])
  have hself : aloneN ⟨k, s, ks, lo, hi⟩ = true := ho _ (by simp [Trees.nodes])
  have hsz : ks.size ≤ 100000000 ∧ r.size ≤ 100000000 := by simp only [Trees.size] at hs; omega
  rcases List.mem_cons.1 hz with rfl | hz
  ·obtain ⟨_, _, _, ak1, ak9⟩ := aloneN_kids hself
   have hl := Trees.len_size ks
   exact ⟨ak1, ak9, write_node _ hself (write_all ks hsz.1 hks) (by simp only; omega)⟩
  ·exact write_all r hsz.2 hr z hz
theorem write_go {x : Nd} (h : rightT x = true) : WriteC x := by
 obtain ⟨h1, h2⟩ := okays_kids h
 have hs := rightT_size h
 unfold Nd.size at hs
 have hl := Trees.len_size x.kids
 exact write_node x h1 (write_all _ (by omega) h2) (by omega)
end
end Go.Proofs.YtofbfafnpdaejaaGreatDoor
