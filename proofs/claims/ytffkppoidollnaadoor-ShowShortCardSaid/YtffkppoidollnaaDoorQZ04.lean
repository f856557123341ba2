/-
  The text of a lexeme. No program in sight. The text of a lexeme: the contracts of lexeme.rep, lexeme.text and of the reference's text. The text of a lexeme: the contracts of lexeme.text at any lexeme that may be. The text of a lexeme: the contract of the reference's text at any lexeme that may be. The text of lexemes: the contract of lexeme.Join. Lexemes that may be are read from their text, and what is read may be. No program in sight. The contract of lexeme.Join.
-/
import Derived.Lib.AppendStr
import Derived.Test.YtffkppoidollnaaDoorQZ02
import Derived.Test.YtffkppoidollnaaDoorQZ03
import Derived.Test.YtffkppoidollnaaDoorQRShow
import Derived.Test.YtffkppoidollnaaDoorQZ01
import Derived.Test.YtffkppoidollnaaDoorQShow
import Derived.Test.YtffkppoidollnaaDoorQSame
namespace Go.Proofs.YtffkppoidollnaaDoor
open Go.RowKit
set_option linter.unusedSimpArgs false
set_option linter.unusedVariables false
set_option maxRecDepth 100000

/-- The text of a repetition. -/
def repT (lo hi : Int) : List Nat := [123] ++ (decS lo.toNat ++ ((if hi < 0 then [44] else if lo < hi then 44 :: decS hi.toNat else []) ++ [125]))
theorem repT_open (lo hi : Int) (h : hi < 0) : repT lo hi = [123] ++ (decS lo.toNat ++ ([44] ++ [125])) := by unfold repT; rw [if_pos h]
theorem repT_two (lo hi : Int) (h : ¬ hi < 0) (h2 : lo < hi) : repT lo hi = [123] ++ (decS lo.toNat ++ (([44] ++ decS hi.toNat) ++ [125])) := by unfold repT; rw [if_neg h, if_pos h2]; rfl
theorem repT_one (lo hi : Int) (h : ¬ hi < 0) (h2 : ¬ lo < hi) : repT lo hi = [123] ++ (decS lo.toNat ++ [125]) := by unfold repT; rw [if_neg h, if_neg h2]; rfl
theorem repT_len (lo hi : Int) : (repT lo hi).length ≤ 11 := by
  unfold repT
  have := decS_len lo.toNat
  have := decS_len hi.toNat
  split
  · simp; omega
  · split <;> simp <;> omega
/-- Do two sets hold the same bytes? -/
def sameSet (p q : Nat → Bool) : Bool := ((word p 0 : Nat) : Int) == ((word q 0 : Nat) : Int) && ((word p 1 : Nat) : Int) == ((word q 1 : Nat) : Int) && ((word p 2 : Nat) : Int) == ((word q 2 : Nat) : Int) && ((word p 3 : Nat) : Int) == ((word q 3 : Nat) : Int)
/-- The text of a set. -/
def setT (p : Nat → Bool) : List Nat := if (elems p 256).length = 1 then litS ((elems p 256).headD 0) else if sameSet p dotSet = true then [46] else showS p
/-- The text of a lexeme that may be. -/
def textS (x : Lex) : List Nat :=
  if x.kind = 1 then setT x.set else if x.kind = 8 then repT x.lo x.hi
  else if x.kind = 2 then [40] else if x.kind = 3 then [41] else if x.kind = 4 then [124] else if x.kind = 5 then [42] else if x.kind = 6 then [43] else [63]
theorem setT_len (p : Nat → Bool) : (setT p).length ≤ 2400 := by
  unfold setT
  split
  · have := litS_len ((elems p 256).headD 0); omega
  · split
    · simp
    · exact showS_len p
theorem textS_len (x : Lex) : (textS x).length ≤ 2400 := by
  unfold textS
  split
  · exact setT_len _
  · split
    · have := repT_len x.lo x.hi; omega
    · repeat' split
      all_goals simp
theorem litS_bytes (c : Nat) (hc : c < 256) : ∀ x ∈ litS c, x < 256 := by
  intro x hx
  unfold litS at hx
  split at hx
  · simp at hx; omega
  · split at hx
    · simp at hx; omega
    · exact (chr_head c hc).2.2.2.2 x hx
theorem decS_bytes (n : Nat) (h : n < 10000) : ∀ x ∈ decS n, 48 ≤ x ∧ x ≤ 57 := by
  intro x hx
  unfold decS at hx
  split at hx
  · simp at hx; omega
  · split at hx
    · simp at hx; omega
    · split at hx
      · simp at hx; omega
      · simp at hx; omega

end Go.Proofs.YtffkppoidollnaaDoor
namespace Go.Proofs.YtffkppoidollnaaDoor
open Go.RowKit
set_option linter.unusedSimpArgs false
set_option linter.unusedVariables false
set_option maxRecDepth 100000

theorem str_open (a : List Nat) : (((⟨#[123]⟩ : ByteArray) ++ strOf a) ++ ⟨#[44]⟩) ++ ⟨#[125]⟩ = strOf ([123] ++ (a ++ ([44] ++ [125]))) := by
  show ((strOf [123] ++ strOf a) ++ strOf [44]) ++ strOf [125] = _
  simp only [strOf_append, List.append_assoc]
theorem str_onerep (a : List Nat) : ((⟨#[123]⟩ : ByteArray) ++ strOf a) ++ ⟨#[125]⟩ = strOf ([123] ++ (a ++ [125])) := by
  show (strOf [123] ++ strOf a) ++ strOf [125] = _
  simp only [strOf_append, List.append_assoc]
theorem str_tworep (a b : List Nat) : (((⟨#[123]⟩ : ByteArray) ++ strOf a) ++ ((⟨#[44]⟩ : ByteArray) ++ strOf b)) ++ ⟨#[125]⟩ = strOf ([123] ++ (a ++ (([44] ++ b) ++ [125]))) := by
  show ((strOf [123] ++ strOf a) ++ (strOf [44] ++ strOf b)) ++ strOf [125] = _
  simp only [strOf_append, List.append_assoc]

set_option maxHeartbeats 1000000 in
theorem rept_go (lo hi : Int) (w : World) (h0 : 0 ≤ lo) (h1 : lo ≤ 1000) (h2 : hi = -1 ∨ lo ≤ hi ∧ hi ≤ 1000) :
    Calls Tryd.prog 47 #[.int .i64 lo, .int .i64 hi] w fun e w' => e = .returned (.string (strOf (repT lo hi))) ∧ Below w.heap.size w w' := by
  obtain ⟨n, rfl⟩ := Int.eq_ofNat_of_zero_le h0
  have H1 := Lib.hid (fun w => shown_go n w (by omega))
  have l1 := decS_len n
  by_cases hh : hi < 0
  · have HV := Lib.hid ((str_open (decS n)).trans (congrArg strOf (repT_open n hi hh).symm))
    go_enter Tryd.func47, Tryd.ntmps47
    go_wp2_with fail
    refine (H1.out _).mono ?_
    rintro e w1 ⟨rfl, hb1⟩
    go_wp2
    go_light
    go_ret
    exact ⟨by rw [← HV.out]; rfl, hb1⟩
  obtain ⟨m, rfl⟩ := Int.eq_ofNat_of_zero_le (show 0 ≤ hi by omega)
  have H2 := Lib.hid (fun w => shown_go m w (by omega))
  have l2 := decS_len m
  by_cases hlt : (n : Int) < (m : Int)
  · have HV := Lib.hid ((str_tworep (decS n) (decS m)).trans (congrArg strOf (repT_two n m hh hlt).symm))
    go_enter Tryd.func47, Tryd.ntmps47
    go_wp2_with fail
    refine (H1.out _).mono ?_
    rintro e w1 ⟨rfl, hb1⟩
    have HB1 := Lib.hid hb1
    clear hb1
    go_wp2_with fail
    refine (H2.out _).mono ?_
    rintro e w2 ⟨rfl, hb2⟩
    have HB2 := Lib.hid (HB1.out.trans (hb2.mono HB1.out.size))
    clear hb2
    go_wp2
    go_light
    go_ret
    exact ⟨by rw [← HV.out]; rfl, HB2.out⟩
  · have HV := Lib.hid ((str_onerep (decS n)).trans (congrArg strOf (repT_one n m hh hlt).symm))
    go_enter Tryd.func47, Tryd.ntmps47
    go_wp2_with fail
    refine (H1.out _).mono ?_
    rintro e w1 ⟨rfl, hb1⟩
    go_wp2
    go_light
    go_ret
    exact ⟨by rw [← HV.out]; rfl, hb1⟩


theorem lexset_below {w w' : World} {g : Nat} {t : TypeId} {a b c d e f u v : Value} (h : Blk w g t #[a, b, c, d, e, f, u, v]) (hb : Below w.heap.size w w') :
    w'.cell? ⟨g, 2, none⟩ = some c ∧ w'.cell? ⟨g, 2 + 1, none⟩ = some d ∧ w'.cell? ⟨g, 2 + 2, none⟩ = some e ∧ w'.cell? ⟨g, 2 + 3, none⟩ = some f :=
  have h := h.below hb h.lt
  ⟨h.cell 2, h.cell 3, h.cell 4, h.cell 5⟩
set_option maxHeartbeats 2000000 in
theorem text_setJ (p : Nat → Bool) (pl lo hi : Int) (w : World) (hT : TabAt 0 Lib.deBruijn64tab w) (hw0 : 0 < w.heap.size) :
    Calls Tryd.prog 23 #[.agg #[.int .i64 1, .int .i64 pl, .int .u64 ((word (p) 0 : Nat) : Int), .int .u64 ((word (p) 1 : Nat) : Int), .int .u64 ((word (p) 2 : Nat) : Int), .int .u64 ((word (p) 3 : Nat) : Int), .int .i64 lo, .int .i64 hi]] w fun e w' => e = .returned (.string (strOf (setT p))) ∧ Below w.heap.size w w' := by
  have hb0 := (Below.refl w.heap.size w).alloc (Nat.le_refl _) (.cells #[.int .i64 1, .int .i64 pl, .int .u64 ((word (p) 0 : Nat) : Int), .int .u64 ((word (p) 1 : Nat) : Int), .int .u64 ((word (p) 2 : Nat) : Int), .int .u64 ((word (p) 3 : Nat) : Int), .int .i64 lo, .int .i64 hi] 45)
  have hx0 := Blk.new w 45 #[.int .i64 1, .int .i64 pl, .int .u64 ((word (p) 0 : Nat) : Int), .int .u64 ((word (p) 1 : Nat) : Int), .int .u64 ((word (p) 2 : Nat) : Int), .int .u64 ((word (p) 3 : Nat) : Int), .int .i64 lo, .int .i64 hi]
  have HT := Lib.hid hT
  have HB0 := Lib.hid hb0
  have HX0 := Lib.hid hx0
  clear hb0 hx0 hT
  have hcn := cnt_elems p 256
  by_cases h1 : (elems p 256).length = 1
  · obtain ⟨c, hc⟩ := List.length_eq_one_iff.1 h1
    have hc256 : c < 256 := elems_lt (m := 256) (p := p) (by rw [hc]; simp)
    have HV : Hid (setT p = litS c) := Lib.hid (by unfold setT; rw [if_pos h1, hc]; rfl)
    have HN : Hid (((cnt p 256 : Nat) : Int) = 1) := Lib.hid (by omega)
    have HL := Lib.hid (fun w => least_go p c hc w)
    rw [HV.out]
    clear hc h1 hcn
    go_enter Tryd.func23, Tryd.ntmps23
    go_wp2_with fail
    refine (count_go p _).mono ?_
    rintro e w1 ⟨rfl, hb1⟩
    rw [HN.out]
    have HB1 := Lib.hid (HB0.out.trans (hb1.mono HB0.out.size))
    have hx1 := HX0.out.below hb1 HX0.out.lt
    have HX1 := Lib.hid hx1
    have s2 := hx1.cell 2
    have s3 := hx1.cell 3
    have s4 := hx1.cell 4
    have s5 := hx1.cell 5
    clear hb1 hx1
    simp at s2 s3 s4 s5
    go_wp2_with fail
    refine (HL.out _ (TabAt.below HB1.out hw0 HT.out) (Nat.lt_of_lt_of_le hw0 HB1.out.size)).mono ?_
    rintro e w2 ⟨rfl, hb2⟩
    have HB2 := Lib.hid (HB1.out.trans (hb2.mono HB1.out.size))
    clear hb2
    go_wp2_with fail
    refine (lit_go c _ hc256).mono ?_
    rintro e w3 ⟨rfl, hb3⟩
    have HB3 := Lib.hid (HB2.out.trans (hb3.mono HB2.out.size))
    clear hb3
    go_wp2
    go_light
    go_ret
    exact ⟨rfl, HB3.out⟩
  · have HN : Hid ((((cnt p 256 : Nat) : Int) == 1) = false) := Lib.hid (by simp; omega)
    have hn256 : cnt p 256 ≤ 256 := by rw [hcn]; exact elems_len p 256
    cases hd : sameSet p dotSet
    · have HV : Hid (setT p = showS p) := Lib.hid (by unfold setT; rw [if_neg h1, hd]; rfl)
      unfold sameSet at hd
      rw [HV.out]
      clear h1 hcn
      go_enter Tryd.func23, Tryd.ntmps23
      go_wp2_with fail
      refine (count_go p _).mono ?_
      rintro e w1 ⟨rfl, hb1⟩
      have hn := HN.out
      generalize ((cnt p 256 : Nat) : Int) = N at *
      have HB1 := Lib.hid (HB0.out.trans (hb1.mono HB0.out.size))
      have hx1 := HX0.out.below hb1 HX0.out.lt
      have HX1 := Lib.hid hx1
      have s2 := hx1.cell 2
      have s3 := hx1.cell 3
      have s4 := hx1.cell 4
      have s5 := hx1.cell 5
      clear hb1 hx1
      simp at s2 s3 s4 s5
      go_wp2
      go_region_with (go_at_call 29; refine (dot_go _).mono ?_; rintro e w2 ⟨rfl, hb2⟩; obtain ⟨t2, t3, t4, t5⟩ := lexset_below HX1.out.drew hb2; have HB2 := Lib.hid (HB1.out.drew.trans (hb2.mono HB1.out.size)); clear hb2)
      all_goals go_wp2_with (go_at_call 46; refine (show_go p _ (TabAt.below HB2.out hw0 HT.out) (Nat.lt_of_lt_of_le hw0 HB2.out.size)).mono ?_; rintro e w3 ⟨rfl, hb3⟩)
      all_goals go_light
      all_goals go_ret
      all_goals exact ⟨rfl, HB2.out.trans (hb3.mono HB2.out.size)⟩
    · have HV : Hid (setT p = [46]) := Lib.hid (by unfold setT; rw [if_neg h1, if_pos hd])
      unfold sameSet at hd
      rw [HV.out]
      clear h1 hcn
      go_enter Tryd.func23, Tryd.ntmps23
      go_wp2_with fail
      refine (count_go p _).mono ?_
      rintro e w1 ⟨rfl, hb1⟩
      have hn := HN.out
      generalize ((cnt p 256 : Nat) : Int) = N at *
      have HB1 := Lib.hid (HB0.out.trans (hb1.mono HB0.out.size))
      have hx1 := HX0.out.below hb1 HX0.out.lt
      have HX1 := Lib.hid hx1
      have s2 := hx1.cell 2
      have s3 := hx1.cell 3
      have s4 := hx1.cell 4
      have s5 := hx1.cell 5
      clear hb1 hx1
      simp at s2 s3 s4 s5
      go_wp2
      go_region_with (go_at_call 29; refine (dot_go _).mono ?_; rintro e w2 ⟨rfl, hb2⟩; obtain ⟨t2, t3, t4, t5⟩ := lexset_below HX1.out.drew hb2; have HB2 := Lib.hid (HB1.out.drew.trans (hb2.mono HB1.out.size)); clear hb2)
      all_goals go_wp2
      all_goals go_light
      all_goals go_ret
      all_goals exact ⟨rfl, HB2.out⟩

end Go.Proofs.YtffkppoidollnaaDoor
namespace Go.Proofs.YtffkppoidollnaaDoor
open Go.RowKit
set_option linter.unusedSimpArgs false
set_option linter.unusedVariables false
set_option maxRecDepth 100000

set_option maxHeartbeats 1000000 in
theorem text_rep (p : Nat → Bool) (pl lo hi : Int) (w : World) (h0 : 0 ≤ lo) (h1 : lo ≤ 1000) (h2 : hi = -1 ∨ lo ≤ hi ∧ hi ≤ 1000) :
    Calls Tryd.prog 23 #[.agg #[.int .i64 8, .int .i64 pl, .int .u64 ((word (p) 0 : Nat) : Int), .int .u64 ((word (p) 1 : Nat) : Int), .int .u64 ((word (p) 2 : Nat) : Int), .int .u64 ((word (p) 3 : Nat) : Int), .int .i64 lo, .int .i64 hi]] w fun e w' => e = .returned (.string (strOf (repT lo hi))) ∧ Below w.heap.size w w' := by
  have H := Lib.hid (fun w => rept_go lo hi w h0 h1 h2)
  clear h0 h1 h2
  go_enter Tryd.func23, Tryd.ntmps23
  go_wp2_with fail
  have HB0 := Lib.hid ((Below.refl w.heap.size w).alloc (Nat.le_refl _) (.cells #[.int .i64 8, .int .i64 pl, .int .u64 ((word (p) 0 : Nat) : Int), .int .u64 ((word (p) 1 : Nat) : Int), .int .u64 ((word (p) 2 : Nat) : Int), .int .u64 ((word (p) 3 : Nat) : Int), .int .i64 lo, .int .i64 hi] 45))
  refine (H.out _).mono ?_
  rintro e w1 ⟨rfl, hb1⟩
  have HB1 := Lib.hid (HB0.out.trans (hb1.mono HB0.out.size))
  clear hb1
  go_wp2
  go_light
  go_ret
  exact ⟨rfl, HB1.out⟩
set_option maxHeartbeats 1000000 in
theorem text_signJ (p : Nat → Bool) (k pl lo hi : Int) (w : World) (h0 : 2 ≤ k) (h1 : k ≤ 7) :
    Calls Tryd.prog 23 #[.agg #[.int .i64 k, .int .i64 pl, .int .u64 ((word (p) 0 : Nat) : Int), .int .u64 ((word (p) 1 : Nat) : Int), .int .u64 ((word (p) 2 : Nat) : Int), .int .u64 ((word (p) 3 : Nat) : Int), .int .i64 lo, .int .i64 hi]] w fun e w' => e = .returned (.string (strOf (textS ⟨k, pl, p, lo, hi⟩))) ∧ Below w.heap.size w w' := by
  by_cases e2 : k = 2
  · subst e2
    go_enter Tryd.func23, Tryd.ntmps23
    go_wp2
    go_light
    go_ret
    exact ⟨rfl, (Below.refl w.heap.size w).alloc (Nat.le_refl _) _⟩

  by_cases e3 : k = 3
  · subst e3
    go_enter Tryd.func23, Tryd.ntmps23
    go_wp2
    go_light
    go_ret
    exact ⟨rfl, (Below.refl w.heap.size w).alloc (Nat.le_refl _) _⟩

  by_cases e4 : k = 4
  · subst e4
    go_enter Tryd.func23, Tryd.ntmps23
    go_wp2
    go_light
    go_ret
    exact ⟨rfl, (Below.refl w.heap.size w).alloc (Nat.le_refl _) _⟩

  by_cases e5 : k = 5
  · subst e5
    go_enter Tryd.func23, Tryd.ntmps23
    go_wp2
    go_light
    go_ret
    exact ⟨rfl, (Below.refl w.heap.size w).alloc (Nat.le_refl _) _⟩

  by_cases e6 : k = 6
  · subst e6
    go_enter Tryd.func23, Tryd.ntmps23
    go_wp2
    go_light
    go_ret
    exact ⟨rfl, (Below.refl w.heap.size w).alloc (Nat.le_refl _) _⟩

  by_cases e7 : k = 7
  · subst e7
    go_enter Tryd.func23, Tryd.ntmps23
    go_wp2
    go_light
    go_ret
    exact ⟨rfl, (Below.refl w.heap.size w).alloc (Nat.le_refl _) _⟩

  exact absurd h0 (by omega)

/-- A lexeme as a value. -/
def lexValJ (x : Lex) : Value := .agg #[.int .i64 x.kind, .int .i64 x.place, .int .u64 ((word (x.set) 0 : Nat) : Int), .int .u64 ((word (x.set) 1 : Nat) : Int), .int .u64 ((word (x.set) 2 : Nat) : Int), .int .u64 ((word (x.set) 3 : Nat) : Int), .int .i64 x.lo, .int .i64 x.hi]
theorem text_go (x : Lex) (w : World) (hr : rightS x = true) (hT : TabAt 0 Lib.deBruijn64tab w) (hw0 : 0 < w.heap.size) :
    Calls Tryd.prog 23 #[lexValJ x] w fun e w' => e = .returned (.string (strOf (textS x))) ∧ Below w.heap.size w w' := by
  obtain ⟨_, h | h | h⟩ := rightS_cases hr
  · obtain ⟨k, pl, p, lo, hi⟩ := x
    dsimp only at h
    obtain ⟨rfl, _, _⟩ := h
    exact text_setJ p pl lo hi w hT hw0
  · obtain ⟨k, pl, p, lo, hi⟩ := x
    dsimp only at h
    obtain ⟨rfl, h1, h2, h3, _⟩ := h
    exact text_rep p pl lo hi w h1 h2 h3
  · obtain ⟨k, pl, p, lo, hi⟩ := x
    dsimp only at h
    exact text_signJ p k pl lo hi w h.1 h.2.1

end Go.Proofs.YtffkppoidollnaaDoor
namespace Go.Proofs.YtffkppoidollnaaDoor
open Go.RowKit
set_option linter.unusedSimpArgs false
set_option linter.unusedVariables false
set_option maxRecDepth 100000

@[go_sem] theorem run_str1_next (w : World) (o : Obj) (c : Nat) : (convert 22 9 (.slice (some ⟨w.heap.size + 1, 0, none⟩) 1 1)).run Tryd.prog ((w.alloc o).alloc (.cells #[.int .u8 (c : Int)] 5)) =
    .ok (.string (strOf [c])) ((w.alloc o).alloc (.cells #[.int .u8 (c : Int)] 5)) := by
  have h := run_str1 (w.alloc o) c
  rw [World.size_alloc] at h
  exact h
end Go.Proofs.YtffkppoidollnaaDoor
namespace Go.Proofs.YtffkppoidollnaaDoor
open Go.RowKit
set_option linter.unusedSimpArgs false
set_option linter.unusedVariables false
set_option maxRecDepth 100000

/-- The text of lexemes. -/
def joinS (L : List Lex) : List Nat := L.flatMap textS
theorem joinS_len : ∀ (L : List Lex), (joinS L).length ≤ L.length * 2400
  | [] => by simp [joinS]
  | x :: L => by
    have h1 := textS_len x
    have h2 := joinS_len L
    unfold joinS at h2 ⊢
    rw [List.flatMap_cons, List.length_append, List.length_cons]
    omega
theorem joinS_take {L : List Lex} {k : Nat} {x : Lex} (h : L[k]? = some x) : joinS (L.take (k + 1)) = joinS (L.take k) ++ textS x := by
  unfold joinS
  rw [List.take_add_one, h]
  simp
def joinV (L : List Lex) : Value := if L.all rightS = true then .tuple #[.string (strOf (joinS L)), .int .i64 0] else .tuple #[.string ⟨#[]⟩, .int .i64 6]
theorem joinV_bad {L : List Lex} {k : Nat} {x : Lex} (h : L[k]? = some x) (hx : rightS x = false) : joinV L = .tuple #[.string ⟨#[]⟩, .int .i64 6] := by
  refine if_neg fun ha => ?_
  have := List.all_eq_true.1 ha x (List.mem_of_getElem? h)
  rw [hx] at this
  cases this
theorem joinV_ok {L : List Lex} (h : ∀ (k : Nat) x, L[k]? = some x → rightS x = true) : joinV L = .tuple #[.string (strOf (joinS L)), .int .i64 0] := by
  refine if_pos (List.all_eq_true.2 fun x hx => ?_)
  obtain ⟨k, hk, rfl⟩ := List.mem_iff_getElem.1 hx
  exact h k _ (List.getElem?_eq_getElem hk)

theorem showS_bytes' (p : Nat → Bool) : ∀ x ∈ showS p, x < 256 := by
  have hp : ∀ l : List (Nat × Nat), (∀ x ∈ l, x.1 ≤ x.2 ∧ x.2 < 256) → ∀ y ∈ piecesS l, y < 256 := by
    intro l
    induction l with
    | nil => intro _ y hy; simp [piecesS] at hy
    | cons x l ih =>
      intro hl y hy
      have hx := hl x (by simp)
      rw [piecesS_cons] at hy
      rcases List.mem_append.1 hy with hy | hy
      · unfold pieceS at hy
        rcases List.mem_append.1 hy with hy | hy
        · exact (chr_head x.1 (by omega)).2.2.2.2 y hy
        · rcases List.mem_append.1 hy with hy | hy
          · split at hy
            · simp at hy; omega
            · simp at hy
          · split at hy
            · exact (chr_head x.2 hx.2).2.2.2.2 y hy
            · simp at hy
      · exact ih (fun z hz => hl z (by simp [hz])) y hy
  intro x hx
  unfold showS at hx
  split at hx
  · simp only [List.mem_append, List.mem_cons, List.not_mem_nil, or_false] at hx
    rcases hx with (h | h) | h | h
    · omega
    · omega
    · exact hp _ (cutsOf_in _) x h
    · omega
  · simp only [List.mem_append, List.mem_cons, List.not_mem_nil, or_false] at hx
    rcases hx with h | h | h
    · omega
    · exact hp _ (cutsOf_in _) x h
    · omega
theorem setT_bytes (p : Nat → Bool) : ∀ x ∈ setT p, x < 256 := by
  unfold setT
  split
  · rename_i h
    obtain ⟨c, hc⟩ := List.length_eq_one_iff.1 h
    rw [hc]
    exact litS_bytes c (elems_lt (m := 256) (p := p) (by rw [hc]; simp))
  · split
    · simp
    · exact showS_bytes' p
theorem repT_bytes {lo hi : Int} (h1 : lo ≤ 1000) (h2 : hi ≤ 1000) : ∀ x ∈ repT lo hi, x < 256 := by
  intro x hx
  unfold repT at hx
  have d1 := decS_bytes lo.toNat (by omega)
  have d2 := decS_bytes hi.toNat (by omega)
  simp only [List.mem_append, List.mem_cons, List.not_mem_nil, or_false] at hx
  rcases hx with h | h | h | h
  · omega
  · have := d1 x h; omega
  · split at h
    · simp at h; omega
    · split at h
      · rcases List.mem_cons.1 h with h | h
        · omega
        · have := d2 x h; omega
      · cases h
  · omega
theorem textS_bytes {x : Lex} (h : rightS x = true) : ∀ y ∈ textS x, y < 256 := by
  obtain ⟨_, h | h | h⟩ := rightS_cases h
  · unfold textS
    rw [if_pos h.1]
    exact setT_bytes _
  · unfold textS
    rw [if_neg (by omega), if_pos h.1]
    exact repT_bytes (by omega) (by omega)
  · unfold textS
    rw [if_neg (by omega), if_neg (by omega)]
    repeat' split
    all_goals simp
theorem joinS_bytes {L : List Lex} (h : ∀ (k : Nat) x, L[k]? = some x → rightS x = true) : ∀ y ∈ joinS L, y < 256 := by
  intro y hy
  obtain ⟨x, hx, hy⟩ := List.mem_flatMap.1 hy
  obtain ⟨k, hk, rfl⟩ := List.mem_iff_getElem.1 hx
  exact textS_bytes (h k _ (List.getElem?_eq_getElem hk)) y hy

theorem strCells_of (t : List Nat) (h : ∀ x ∈ t, x < 256) : Lib.strCells (strOf t) = t.map (fun c : Nat => Value.int .u8 (c : Int)) := by
  unfold Lib.strCells strOf
  simp only [List.map_map]
  apply List.map_congr_left
  intro x hx
  have := h x hx
  simp
  omega
/-- The string of a row of bytes that is owned. -/
theorem own_text {w : World} {base : Nat} {v : Value} {ns : List Nat} (h : w.ownsRow base 5 1 v ns.length (ns.map (fun n : Nat => Value.int .u8 (n : Int)))) :
    (convert 22 9 v).run Tryd.prog w = .ok (.string (strOf ns)) w := by
  rcases h.2 with ⟨rfl, h0⟩ | ⟨g, cap, cur, hv, hb, hh, _⟩
  · have : ns = [] := List.length_eq_zero_iff.1 h0
    subst this
    rw [run_convert_bytes_string w _ _ 5 none _ _ Tryd.underlying22 Tryd.underlying5 Tryd.underlying9]
    rfl
  · subst hv
    exact run_str w ⟨g, 0, none⟩ cap ns (h.cells (g := g) rfl)

end Go.Proofs.YtffkppoidollnaaDoor
namespace Go.Proofs.YtffkppoidollnaaDoor
set_option linter.unusedSimpArgs false
set_option linter.unusedVariables false
set_option maxRecDepth 100000

/-- The same, but for the place: the kind, the bytes of the set, how often. -/
def likeW (x y : Lex) : Prop := x.kind = y.kind ∧ (∀ i, i < 4 → word x.set i = word y.set i) ∧ x.lo = y.lo ∧ x.hi = y.hi
theorem word_as {p q : Nat → Bool} (h : ∀ c, c < 256 → p c = q c) (i : Nat) (hi : i < 4) : word p i = word q i := word_congr (fun j hj => h (64 * i + j) (by omega))
/-! A byte's text. -/
theorem lit_back : ∀ c : Fin 256, (byteAt (litS c.val) 0 = 92 ∧ escS (litS c.val) 0 = some (c.val, (litS c.val).length)) ∨
    (litS c.val = [c.val] ∧ c.val ≠ 46 ∧ c.val ≠ 92 ∧ c.val ≠ 91 ∧ c.val ≠ 123 ∧ ¬ (c.val = 93 ∨ c.val = 125 ∨ c.val = 10) ∧ signKind c.val = 0) := by decide +kernel
theorem lex_lit (c : Nat) (hc : c < 256) : lexS (litS c) 0 = .ok (⟨1, 0, among [c] 1, 0, 0⟩, (litS c).length) := by
  rcases lit_back ⟨c, hc⟩ with ⟨h1, h2⟩ | ⟨h1, h2, h3, h4, h5, h6, h7⟩
  · dsimp only at h1 h2
    unfold lexS
    rw [h1, if_neg (by decide), if_pos rfl, h2]
    rfl
  · dsimp only at h1 h2 h3 h4 h5 h6 h7
    rw [h1]
    have e : byteAt [c] 0 = c := rfl
    unfold lexS
    rw [e, if_neg h2, if_neg h3, if_neg h4, if_neg h5, if_neg h6, if_neg (by rw [h7]; simp)]
    rfl
theorem elems_mem {p : Nat → Bool} {k : Nat} (hk : k < 256) : k ∈ elems p 256 ↔ p k = true := by
  unfold elems
  simp [hk]
theorem set_back (p : Nat → Bool) : ∃ y, lexS (setT p) 0 = .ok (y, (setT p).length) ∧ y.kind = 1 ∧ (∀ i, i < 4 → word y.set i = word p i) ∧ y.lo = 0 ∧ y.hi = 0 := by
  by_cases h1 : (elems p 256).length = 1
  · obtain ⟨c, hc⟩ := List.length_eq_one_iff.1 h1
    have hc256 : c < 256 := elems_lt (m := 256) (p := p) (by rw [hc]; simp)
    have e : setT p = litS c := by unfold setT; rw [if_pos h1, hc]; rfl
    rw [e]
    refine ⟨_, lex_lit c hc256, rfl, word_as (fun k hk => ?_), rfl, rfl⟩
    have h2 := elems_mem (p := p) hk
    rw [hc] at h2
    show among [c] 1 k = p k
    rw [among_one]
    simp at h2
    cases hp : p k
    · rw [hp] at h2; simp at h2; simpa using h2
    · rw [hp] at h2; simp at h2; simpa using h2
  cases hd : sameSet p dotSet
  · have e : setT p = showS p := by unfold setT; rw [if_neg h1, hd]; rfl
    rw [e]
    obtain ⟨p', h2, h3⟩ := read_show p []
    rw [List.append_nil] at h2
    have h0 : byteAt (showS p) 0 = 91 := by unfold showS; split <;> rfl
    refine ⟨⟨1, 0, p', 0, 0⟩, ?_, rfl, word_as h3, rfl, rfl⟩
    unfold lexS
    rw [h0, if_neg (by decide), if_neg (by decide), if_pos rfl]
    rw [show ((0 : Nat) : Int) = 0 from rfl, h2]
  · have e : setT p = [46] := by unfold setT; rw [if_neg h1, if_pos hd]
    rw [e]
    refine ⟨⟨1, 0, dotSet, 0, 0⟩, rfl, rfl, ?_, rfl, rfl⟩
    unfold sameSet at hd
    simp only [Bool.and_eq_true, beq_iff_eq] at hd
    intro i hi
    show word dotSet i = word p i
    match i, hi with
    | 0, _ => exact Int.ofNat.inj (hd.1.1.1.symm)
    | 1, _ => exact Int.ofNat.inj (hd.1.1.2.symm)
    | 2, _ => exact Int.ofNat.inj (hd.1.2.symm)
    | 3, _ => exact Int.ofNat.inj (hd.2.symm)

/-! A repetition's text. -/
theorem dec_back : ∀ n : Fin 1001, badForm (decS n.val) = false ∧ decVal (decS n.val) = n.val := by decide +kernel
theorem take_dec {bs : List Nat} (pre post : List Nat) (n c i : Nat) (hb : bs = pre ++ (decS n ++ c :: post)) (hi : i = pre.length) (hn : n ≤ 1000) (hc : isDig c = false) : takeS bs i = some (n, i + (decS n).length) := by
  subst hb hi
  have hd : digs (pre ++ (decS n ++ c :: post)) pre.length = decS n := by
    unfold digs
    rw [List.drop_left]
    exact takeWhile_eq _ _ _ (fun x hx => (isDig_iff x).2 (decS_bytes n (by omega) x hx)) hc
  have h := dec_back ⟨n, by omega⟩
  dsimp only at h
  obtain ⟨h1, h2⟩ := h
  have := takeS_ok (bs := pre ++ (decS n ++ c :: post)) (i := pre.length) (by rw [hd]; exact h1) (by rw [hd, h2]; exact hn)
  rw [hd, h2] at this
  exact this
theorem has_here {bs : List Nat} (pre post : List Nat) (c d j : Nat) (hb : bs = pre ++ c :: post) (hj : j = pre.length) : hasAt bs (j : Int) d = (c == d) := by
  subst hb hj
  rw [hasAt_add]
  simp [byteAt_cons]
theorem has_next {bs : List Nat} (pre post : List Nat) (c d j : Nat) (hb : bs = pre ++ c :: post) (hj : j + 1 = pre.length) : hasAt bs ((j : Int) + 1) d = (c == d) := by
  rw [show (j : Int) + 1 = ((j + 1 : Nat) : Int) by omega]
  exact has_here pre post c d (j + 1) hb hj
theorem repS_open {bs : List Nat} {i lo j : Nat} (ht : takeS bs (i + 1) = some (lo, j)) (h1 : hasAt bs (j : Int) 44 = true) (h2 : hasAt bs ((j : Int) + 1) 125 = true) : repS bs i = .ok (⟨8, i, noSet, lo, -1⟩, j + 2) := by
  unfold repS
  rw [ht]
  dsimp only
  rw [if_pos h1, if_pos h2]
theorem repS_one {bs : List Nat} {i lo j : Nat} (ht : takeS bs (i + 1) = some (lo, j)) (h1 : hasAt bs (j : Int) 44 = false) (h2 : hasAt bs (j : Int) 125 = true) : repS bs i = .ok (⟨8, i, noSet, lo, lo⟩, j + 1) := by
  unfold repS
  rw [ht]
  dsimp only
  rw [if_neg (by rw [h1]; decide), if_pos h2]
theorem repS_two {bs : List Nat} {i lo j hi k : Nat} (ht : takeS bs (i + 1) = some (lo, j)) (h1 : hasAt bs (j : Int) 44 = true) (h2 : hasAt bs ((j : Int) + 1) 125 = false) (ht2 : takeS bs (j + 1) = some (hi, k)) (h3 : hasAt bs (k : Int) 125 = true) (hlt : ¬ hi < lo) :
    repS bs i = .ok (⟨8, i, noSet, lo, hi⟩, k + 1) := by
  unfold repS
  rw [ht]
  dsimp only
  rw [if_pos h1, if_neg (by rw [h2]; decide), ht2]
  dsimp only
  rw [if_pos h3, if_neg hlt]
theorem lexS_repB {bs : List Nat} {i : Nat} (h : byteAt bs i = 123) : lexS bs i = repS bs i := by
  unfold lexS
  rw [h, if_neg (by decide), if_neg (by decide), if_neg (by decide), if_pos rfl]
theorem decS_cons (n : Nat) : ∃ c tl, decS n = c :: tl := by
  cases hx : decS n with
  | nil => unfold decS at hx; split at hx <;> (try split at hx) <;> (try split at hx) <;> cases hx
  | cons c tl => exact ⟨c, tl, rfl⟩
theorem lex_rep (lo hi : Nat) (h : Int) (hlo : lo ≤ 1000) (hh : h = -1 ∨ h = (hi : Int) ∧ lo ≤ hi ∧ hi ≤ 1000) : lexS (repT lo h) 0 = .ok (⟨8, 0, noSet, lo, h⟩, (repT lo h).length) := by
  rcases hh with rfl | ⟨rfl, h1, h2⟩
  · have e : repT lo (-1) = [123] ++ (decS lo ++ 44 :: [125]) := by rw [repT_open _ _ (by decide)]; rfl
    rw [e, lexS_repB rfl, repS_open (take_dec [123] [125] lo 44 (0 + 1) rfl rfl hlo (by decide)) ((has_here ([123] ++ decS lo) [125] 44 44 _ (by simp) (by simp; omega)).trans (by decide)) ((has_next ([123] ++ decS lo ++ [44]) [] 125 125 _ (by simp) (by simp; omega)).trans (by decide))]
    simp
    omega
  · by_cases hlt : lo < hi
    · have e : repT lo (hi : Int) = [123] ++ (decS lo ++ 44 :: (decS hi ++ 125 :: [])) := by rw [repT_two _ _ (by omega) (by omega)]; simp
      obtain ⟨c, tl, hct⟩ := decS_cons hi
      have hcd := decS_bytes hi (by omega) c (by rw [hct]; simp)
      rw [e, lexS_repB rfl, repS_two (take_dec [123] (decS hi ++ 125 :: []) lo 44 (0 + 1) rfl rfl hlo (by decide)) ((has_here ([123] ++ decS lo) (decS hi ++ 125 :: []) 44 44 _ (by simp) (by simp; omega)).trans (by decide))
        ((has_next ([123] ++ decS lo ++ [44]) (tl ++ 125 :: []) c 125 _ (by rw [hct]; simp) (by simp; omega)).trans (by simp; omega))
        (take_dec ([123] ++ decS lo ++ [44]) [] hi 125 _ (by simp) (by simp; omega) h2 (by decide))
        ((has_here ([123] ++ decS lo ++ [44] ++ decS hi) [] 125 125 _ (by simp) (by simp; omega)).trans (by decide)) (by omega)]
      simp
      omega
    · obtain rfl : lo = hi := by omega
      have e : repT lo (lo : Int) = [123] ++ (decS lo ++ 125 :: []) := by rw [repT_one _ _ (by omega) (by omega)]; rfl
      rw [e, lexS_repB rfl, repS_one (take_dec [123] [] lo 125 (0 + 1) rfl rfl hlo (by decide)) ((has_here ([123] ++ decS lo) [] 125 44 _ (by simp) (by simp; omega)).trans (by decide)) ((has_here ([123] ++ decS lo) [] 125 125 _ (by simp) (by simp; omega)).trans (by decide))]
      simp
      omega

/-- A lexeme that may be is read from its text. -/
theorem text_back (x : Lex) (h : rightS x = true) : ∃ y, lexS (textS x) 0 = .ok (y, (textS x).length) ∧ likeW y x := by
  obtain ⟨_, h | h | h⟩ := rightS_cases h
  · have e : textS x = setT x.set := if_pos h.1
    obtain ⟨y, h1, h2, h3, h4, h5⟩ := set_back x.set
    rw [e]
    exact ⟨y, h1, h2.trans h.1.symm, h3, h4.trans h.2.1.symm, h5.trans h.2.2.symm⟩
  · have e : textS x = repT x.lo x.hi := by unfold textS; rw [if_neg (by omega), if_pos h.1]
    rw [e]
    obtain ⟨n, hn⟩ := Int.eq_ofNat_of_zero_le h.2.1
    have := lex_rep n x.hi.toNat x.hi (by omega) (by omega)
    rw [hn]
    exact ⟨_, this, h.1.symm, fun i hi => by rw [h.2.2.2.2 i hi]; exact word_empty i hi, hn.symm, rfl⟩
  · obtain ⟨h1, h2, h3, h4, h5⟩ := h
    have hk : x.kind = 2 ∨ x.kind = 3 ∨ x.kind = 4 ∨ x.kind = 5 ∨ x.kind = 6 ∨ x.kind = 7 := by omega
    have hw : ∀ i, i < 4 → word noSet i = word x.set i := fun i hi => by rw [h5 i hi]; exact word_empty i hi
    unfold textS
    rcases hk with hk | hk | hk | hk | hk | hk
    all_goals
      rw [hk]
      exact ⟨_, rfl, hk.symm, hw, h3.symm, h4.symm⟩

/-- A text stands in a longer one. -/
theorem part_in (pre t post : List Nat) : Part (pre ++ (t ++ post)) t 0 pre.length 0 t.length := fun m _ hm => by
  refine ⟨by simp; omega, by omega, ?_⟩
  rw [Nat.add_comm m, byteAt_add, Nat.add_zero]
  unfold byteAt
  rw [List.getD_eq_getElem?_getD, List.getElem?_append_left hm, List.getD_eq_getElem?_getD]
theorem likeW_move {x y : Lex} (h : likeW x y) (p q : Nat) : likeW (x.move p q) y := ⟨h.1, h.2.1, h.2.2.1, h.2.2.2⟩
/-- Lexemes that may be are read from their text. -/
theorem join_back : ∀ (L : List Lex) (pre : List Nat), (∀ x ∈ L, rightS x = true) → ∃ M : List Lex, Seg (pre ++ joinS L) pre.length M (pre.length + (joinS L).length) ∧ M.length = L.length ∧ ∀ (k : Nat) y x, M[k]? = some y → L[k]? = some x → likeW y x
  | [], pre, _ => ⟨[], by show pre.length = pre.length + 0; omega, rfl, fun k y x h _ => by simp at h⟩
  | x :: L, pre, h => by
    have hx := h x (by simp)
    obtain ⟨y, h1, h2⟩ := text_back x hx
    have hb := textS_bytes hx
    have hpos : 0 < (textS x).length := by
      rcases Nat.eq_zero_or_pos (textS x).length with h0 | h0
      · have e : textS x = [] := List.length_eq_zero_iff.1 h0
        rw [e] at h1
        cases h1
      · exact h0
    obtain ⟨M, m1, m2, m3⟩ := join_back L (pre ++ textS x) (fun z hz => h z (by simp [hz]))
    have e : joinS (x :: L) = textS x ++ joinS L := by simp [joinS]
    have hl := lexS_move (cs := pre ++ (textS x ++ joinS L)) (bs := textS x) hb (p := 0) (q := pre.length) (i := 0) (j := (textS x).length) (by omega) h1 (part_in pre (textS x) (joinS L))
    rw [Nat.zero_add] at hl
    rw [List.append_assoc, List.length_append] at m1
    rw [e]
    refine ⟨y.move 0 pre.length :: M, ⟨by simp; omega, (textS x).length + pre.length, hl, ?_⟩, by simp [m2], ?_⟩
    · rw [List.length_append, show (textS x).length + pre.length = pre.length + (textS x).length by omega, ← Nat.add_assoc]
      exact m1
    · intro k z u hz hu
      match k, hz, hu with
      | 0, hz, hu =>
        simp at hz hu
        rw [← hz, ← hu]
        exact likeW_move h2 _ _
      | k + 1, hz, hu => exact m3 k z u (by simpa using hz) (by simpa using hu)
theorem splitS_back {L : List Lex} (h : ∀ x ∈ L, rightS x = true) (hb : ∀ y ∈ joinS L, y < 256) (hl : (joinS L).length ≤ 65536) :
    ∃ M : List Lex, splitS (joinS L) = .ok M ∧ M.length = L.length ∧ ∀ (k : Nat) y x, M[k]? = some y → L[k]? = some x → likeW y x := by
  obtain ⟨M, h1, h2, h3⟩ := join_back L [] h
  refine ⟨M, (splitS_seg hb).2 ⟨hl, ?_⟩, h2, h3⟩
  have e : ([] : List Nat).length + (joinS L).length = (joinS L).length := Nat.zero_add _
  rw [e] at h1
  exact h1

end Go.Proofs.YtffkppoidollnaaDoor
namespace Go.Proofs.YtffkppoidollnaaDoor
open Go.RowKit
set_option linter.unusedSimpArgs false
set_option linter.unusedVariables false
set_option maxRecDepth 100000

set_option maxHeartbeats 2000000 in
theorem join_go (A : Option Addr) (cap : Nat) (L : List Lex) (w : World) (hA : LexsAt w w.heap.size A L) (hlen : L.length ≤ 1048576) (hT : TabAt 0 Lib.deBruijn64tab w) (hw0 : 0 < w.heap.size) :
    Calls Tryd.prog 13 #[.slice A L.length cap] w fun e w' => e = .returned (joinV L) ∧ Below w.heap.size w w' := by
  obtain ⟨i0, hi, hz0, hz1, hz2⟩ := info_parts byte_info
  have HA := Lib.hid hA
  have HT := Lib.hid hT
  clear hA hT
  go_enter Tryd.func13, Tryd.ntmps13
  go_wp2
  go_loopw [4, 9] (fun v i wr => ∃ k : Nat, i = .int .i64 (k : Int) ∧ k ≤ L.length ∧ Hid (wr.ownsRow w.heap.size 5 1 v (joinS (L.take k)).length ((joinS (L.take k)).map (fun n : Nat => Value.int .u8 (n : Int)))) ∧ Hid (Below w.heap.size w wr) ∧ Hid (∀ (j : Nat) x, j < k → L[j]? = some x → rightS x = true)) (fun _ i _ => L.length - (intOf i).toNat)
  case atStart => exact ⟨0, rfl, Nat.zero_le _, Lib.hid (World.ownsRow_nil _ _ _ _), Lib.hid (Below.refl _ _), Lib.hid (fun j x hj => by omega)⟩
  case round =>
    obtain ⟨k, rfl, hk, Hown, HB, HR⟩ := hrel
    by_cases hlt : k < L.length
    · obtain ⟨x, hx⟩ : ∃ x, L[k]? = some x := ⟨_, List.getElem?_eq_getElem hlt⟩
      obtain ⟨b, o, rfl, hbl, hc⟩ := HA.out (by omega)
      have hbl' : b < wr.heap.size := Nat.lt_of_lt_of_le hbl HB.out.size
      obtain ⟨c0, c1, c2, c3, c4, c5, c6, c7⟩ := ((HA.out.below HB.out) (by omega)).elim fun b' h => h.elim fun o' h => by
        obtain ⟨e, _, h⟩ := h
        obtain ⟨rfl, rfl⟩ : b = b' ∧ o = o' := by simpa using e
        exact h k x hx
      clear hc
      have Hx := Lib.hid hx
      have hdl : (k : Int) < (L.length : Int) := by omega
      have Hbx := Lib.hid (Blk.new wr 45 #[.int .i64 x.kind, .int .i64 x.place, .int .u64 ((word (x.set) 0 : Nat) : Int), .int .u64 ((word (x.set) 1 : Nat) : Int), .int .u64 ((word (x.set) 2 : Nat) : Int), .int .u64 ((word (x.set) 3 : Nat) : Int), .int .i64 x.lo, .int .i64 x.hi])
      have HBx := Lib.hid (HB.out.alloc HB.out.size (.cells #[.int .i64 x.kind, .int .i64 x.place, .int .u64 ((word (x.set) 0 : Nat) : Int), .int .u64 ((word (x.set) 1 : Nat) : Int), .int .u64 ((word (x.set) 2 : Nat) : Int), .int .u64 ((word (x.set) 3 : Nat) : Int), .int .i64 x.lo, .int .i64 x.hi] 45))
      have Hownx := Lib.hid (Hown.out.alloc (.cells #[.int .i64 x.kind, .int .i64 x.place, .int .u64 ((word (x.set) 0 : Nat) : Int), .int .u64 ((word (x.set) 1 : Nat) : Int), .int .u64 ((word (x.set) 2 : Nat) : Int), .int .u64 ((word (x.set) 3 : Nat) : Int), .int .i64 x.lo, .int .i64 x.hi] 45))
      go_wp2_with fail
      refine (right_go _ _ _ _ _ _ _ _ _).mono ?_
      rintro e w1 ⟨rfl, hb1⟩
      change Hid _ at Hx
      have Hb1 := Lib.hid (Hbx.out.below hb1 Hbx.out.lt)
      have HB1 := Lib.hid (HBx.out.trans (hb1.mono HBx.out.size))
      have Hown1 := Lib.hid (own_below Hownx.out hb1)
      clear hb1 c0 c1 c2 c3 c4 c5 c6 c7
      cases hr : rightS x
      · have hr' := hr
        unfold rightS at hr'
        rw [hr']
        have HV := Lib.hid (joinV_bad Hx.out hr)
        clear hr hr'
        go_wp2
        go_light
        go_ret2
        exact ⟨by rw [HV.out]; rfl, HB1.out⟩
      · have hr' := hr
        unfold rightS at hr'
        rw [hr']
        have Hr := Lib.hid hr
        clear hr hr'
        have s0 := Hb1.out.cell 0
        have s1 := Hb1.out.cell 1
        have s2 := Hb1.out.cell 2
        have s3 := Hb1.out.cell 3
        have s4 := Hb1.out.cell 4
        have s5 := Hb1.out.cell 5
        have s6 := Hb1.out.cell 6
        have s7 := Hb1.out.cell 7
        simp at s0 s1 s2 s3 s4 s5 s6 s7
        go_wp2_with fail
        refine (text_go x _ Hr.out (TabAt.below HB1.out hw0 HT.out) (Nat.lt_of_lt_of_le hw0 HB1.out.size)).mono ?_
        rintro e w2 ⟨rfl, hb2⟩
        have HB2 := Lib.hid (HB1.out.trans (hb2.mono HB1.out.size))
        have Hown2 := Lib.hid (own_below Hown1.out hb2)
        clear hb2 s0 s1 s2 s3 s4 s5 s6 s7
        have l1 := joinS_len (L.take k)
        have l2 : (L.take k).length ≤ 1048576 := by rw [List.length_take]; omega
        have l3 := textS_len x
        have Hj := Lib.hid (joinS_take Hx.out)
        have Hs := Lib.hid (strCells_of (textS x) (textS_bytes Hr.out))
        have m1 : (joinS (L.take k)).length + (strOf (textS x)).size ≤ maxLen := by rw [strOf_size]; exact Nat.le_trans (by omega) (show 140737488355328 ≤ maxLen by decide)
        have m2 : (joinS (L.take k)).length + (strOf (textS x)).size ≤ 140737488355328 := by rw [strOf_size]; omega
        go_wp2_with (at_builtin; refine Lib.wpList_append_own_string _ rfl _ _ _ _ rfl w.heap.size 5 i0 Tryd.underlying22 Tryd.underlying9 hi hz0 hz1 hz2 _ _ _ rfl Hown2.out _ rfl m1 m2 HB2.out.size ?_; intro v' w3 hown3 hg3 _)
        have Hown3 : Hid (w3.ownsRow w.heap.size 5 1 v' (joinS (L.take (k + 1))).length ((joinS (L.take (k + 1))).map (fun n : Nat => Value.int .u8 (n : Int)))) := Lib.hid (by
          rw [Hs.out, strOf_size] at hown3
          rw [Hj.out, List.length_append, List.map_append]
          exact hown3)
        have HB3 := Lib.hid (below_grown HB2.out hg3 Hown2.out (Nat.le_refl _) HB2.out.size)
        clear hown3 hg3
        go_light
        go_roundw
        case rel => exact ⟨k + 1, by go_num, by omega, Hown3, HB3, Lib.hid (fun j y hj hy => by
          rcases Nat.lt_or_ge j k with h | h
          · exact HR.out j y h hy
          · obtain rfl : j = k := by omega
            rw [Hx.out] at hy
            cases hy
            exact Hr.out)⟩
        case measure => simp [intOf]; omega
    · have hdl : ¬ (k : Int) < (L.length : Int) := by omega
      obtain rfl : k = L.length := by omega
      have HV := Lib.hid (joinV_ok (fun j x hx => HR.out j x (List.getElem?_eq_some_iff.mp hx).1 hx))
      have hown := Hown.out
      rw [List.take_length] at hown
      have hs := own_text hown
      clear hown
      go_wp2
      go_light
      go_ret2
      exact ⟨by rw [HV.out]; rfl, HB.out⟩

end Go.Proofs.YtffkppoidollnaaDoor
