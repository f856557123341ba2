/-
  The text of a lexeme. No program in sight. The text of a lexeme: the contracts of lexeme.rep, lexeme.text and of the reference's text. The text of a lexeme: the contracts of lexeme.text at any lexeme that may be. The text of a lexeme: the contract of the reference's text at any lexeme that may be. The text of lexemes: the contract of lexeme.Join. The contract of lexeme.Join. The contract of nfa.Right at any machine. mirror.Nfa: what it gives, and where it refuses. The machine that is being turned round: its rows, and what else stands. Rows of nodes turned round in place. A row of nodes cloned and turned round: mirror.turned at nodes.
-/
import Derived.Lib.AppendStr
import Derived.Test.YtffkppoidollnaaGreatDoorQZ03
import Derived.Test.YtffkppoidollnaaGreatDoorQRShow
import Derived.Test.YtffkppoidollnaaGreatDoorQZ01
import Derived.Test.YtffkppoidollnaaGreatDoorQShow
import Derived.Test.YtffkppoidollnaaGreatDoorQZ02
import Derived.Test.YtffkppoidollnaaGreatDoorQSame
namespace Go.Proofs.YtffkppoidollnaaGreatDoor
open Go.RowKit
set_option linter.unusedSimpArgs false
set_option linter.unusedVariables false
set_option maxRecDepth 100000

/-- The text of a repetition. -/
def repT (lo hi : Int) : List Nat := [123] ++ (decS lo.toNat ++ ((if hi < 0 then [44] else if lo < hi then 44 :: decS hi.toNat else []) ++ [125]))
theorem repT_open (lo hi : Int) (h : hi < 0) : repT lo hi = [123] ++ (decS lo.toNat ++ ([44] ++ [125])) := by unfold repT; rw [if_pos h]
theorem repT_two (lo hi : Int) (h : ¬ hi < 0) (h2 : lo < hi) : repT lo hi = [123] ++ (decS lo.toNat ++ (([44] ++ decS hi.toNat) ++ [125])) := by unfold repT; rw [if_neg h, if_pos h2]; rfl
theorem repT_one (lo hi : Int) (h : ¬ hi < 0) (h2 : ¬ lo < hi) : repT lo hi = [123] ++ (decS lo.toNat ++ [125]) := by unfold repT; rw [if_neg h, if_neg h2]; rfl
theorem repT_len (lo hi : Int) : (repT lo hi).length ≤ 11 := by
  unfold repT
  have := decS_len lo.toNat
  have := decS_len hi.toNat
  split
  · simp; omega
  · split <;> simp <;> omega
/-- Do two sets hold the same bytes? -/
def sameSet (p q : Nat → Bool) : Bool := ((word p 0 : Nat) : Int) == ((word q 0 : Nat) : Int) && ((word p 1 : Nat) : Int) == ((word q 1 : Nat) : Int) && ((word p 2 : Nat) : Int) == ((word q 2 : Nat) : Int) && ((word p 3 : Nat) : Int) == ((word q 3 : Nat) : Int)
/-- The text of a set. -/
def setT (p : Nat → Bool) : List Nat := if (elems p 256).length = 1 then litS ((elems p 256).headD 0) else if sameSet p dotSet = true then [46] else showS p
/-- The text of a lexeme that may be. -/
def textS (x : Lex) : List Nat :=
  if x.kind = 1 then setT x.set else if x.kind = 8 then repT x.lo x.hi
  else if x.kind = 2 then [40] else if x.kind = 3 then [41] else if x.kind = 4 then [124] else if x.kind = 5 then [42] else if x.kind = 6 then [43] else [63]
theorem setT_len (p : Nat → Bool) : (setT p).length ≤ 2400 := by
  unfold setT
  split
  · have := litS_len ((elems p 256).headD 0); omega
  · split
    · simp
    · exact showS_len p
theorem textS_len (x : Lex) : (textS x).length ≤ 2400 := by
  unfold textS
  split
  · exact setT_len _
  · split
    · have := repT_len x.lo x.hi; omega
    · repeat' split
      all_goals simp
theorem litS_bytes (c : Nat) (hc : c < 256) : ∀ x ∈ litS c, x < 256 := by
  intro x hx
  unfold litS at hx
  split at hx
  · simp at hx; omega
  · split at hx
    · simp at hx; omega
    · exact (chr_head c hc).2.2.2.2 x hx
theorem decS_bytes (n : Nat) (h : n < 10000) : ∀ x ∈ decS n, 48 ≤ x ∧ x ≤ 57 := by
  intro x hx
  unfold decS at hx
  split at hx
  · simp at hx; omega
  · split at hx
    · simp at hx; omega
    · split at hx
      · simp at hx; omega
      · simp at hx; omega

end Go.Proofs.YtffkppoidollnaaGreatDoor
namespace Go.Proofs.YtffkppoidollnaaGreatDoor
open Go.RowKit
set_option linter.unusedSimpArgs false
set_option linter.unusedVariables false
set_option maxRecDepth 100000

theorem str_open (a : List Nat) : (((⟨#[123]⟩ : ByteArray) ++ strOf a) ++ ⟨#[44]⟩) ++ ⟨#[125]⟩ = strOf ([123] ++ (a ++ ([44] ++ [125]))) := by
  show ((strOf [123] ++ strOf a) ++ strOf [44]) ++ strOf [125] = _
  simp only [strOf_append, List.append_assoc]
theorem str_onerep (a : List Nat) : ((⟨#[123]⟩ : ByteArray) ++ strOf a) ++ ⟨#[125]⟩ = strOf ([123] ++ (a ++ [125])) := by
  show (strOf [123] ++ strOf a) ++ strOf [125] = _
  simp only [strOf_append, List.append_assoc]
theorem str_tworep (a b : List Nat) : (((⟨#[123]⟩ : ByteArray) ++ strOf a) ++ ((⟨#[44]⟩ : ByteArray) ++ strOf b)) ++ ⟨#[125]⟩ = strOf ([123] ++ (a ++ (([44] ++ b) ++ [125]))) := by
  show ((strOf [123] ++ strOf a) ++ (strOf [44] ++ strOf b)) ++ strOf [125] = _
  simp only [strOf_append, List.append_assoc]

set_option maxHeartbeats 1000000 in
theorem rept_go (lo hi : Int) (w : World) (h0 : 0 ≤ lo) (h1 : lo ≤ 1000) (h2 : hi = -1 ∨ lo ≤ hi ∧ hi ≤ 1000) :
    Calls Tryz.prog 166 #[.int .i64 lo, .int .i64 hi] w fun e w' => e = .returned (.string (strOf (repT lo hi))) ∧ Below w.heap.size w w' := by
  obtain ⟨n, rfl⟩ := Int.eq_ofNat_of_zero_le h0
  have H1 := Lib.hid (fun w => shown_go n w (by omega))
  have l1 := decS_len n
  by_cases hh : hi < 0
  · have HV := Lib.hid ((str_open (decS n)).trans (congrArg strOf (repT_open n hi hh).symm))
    go_enter Tryz.func166, Tryz.ntmps166
    go_wp2_with fail
    refine (H1.out _).mono ?_
    rintro e w1 ⟨rfl, hb1⟩
    go_wp2
    go_light
    go_ret
    exact ⟨by rw [← HV.out]; rfl, hb1⟩
  obtain ⟨m, rfl⟩ := Int.eq_ofNat_of_zero_le (show 0 ≤ hi by omega)
  have H2 := Lib.hid (fun w => shown_go m w (by omega))
  have l2 := decS_len m
  by_cases hlt : (n : Int) < (m : Int)
  · have HV := Lib.hid ((str_tworep (decS n) (decS m)).trans (congrArg strOf (repT_two n m hh hlt).symm))
    go_enter Tryz.func166, Tryz.ntmps166
    go_wp2_with fail
    refine (H1.out _).mono ?_
    rintro e w1 ⟨rfl, hb1⟩
    have HB1 := Lib.hid hb1
    clear hb1
    go_wp2_with fail
    refine (H2.out _).mono ?_
    rintro e w2 ⟨rfl, hb2⟩
    have HB2 := Lib.hid (HB1.out.trans (hb2.mono HB1.out.size))
    clear hb2
    go_wp2
    go_light
    go_ret
    exact ⟨by rw [← HV.out]; rfl, HB2.out⟩
  · have HV := Lib.hid ((str_onerep (decS n)).trans (congrArg strOf (repT_one n m hh hlt).symm))
    go_enter Tryz.func166, Tryz.ntmps166
    go_wp2_with fail
    refine (H1.out _).mono ?_
    rintro e w1 ⟨rfl, hb1⟩
    go_wp2
    go_light
    go_ret
    exact ⟨by rw [← HV.out]; rfl, hb1⟩


theorem lexset_below {w w' : World} {g : Nat} {t : TypeId} {a b c d e f u v : Value} (h : Blk w g t #[a, b, c, d, e, f, u, v]) (hb : Below w.heap.size w w') :
    w'.cell? ⟨g, 2, none⟩ = some c ∧ w'.cell? ⟨g, 2 + 1, none⟩ = some d ∧ w'.cell? ⟨g, 2 + 2, none⟩ = some e ∧ w'.cell? ⟨g, 2 + 3, none⟩ = some f :=
  have h := h.below hb h.lt
  ⟨h.cell 2, h.cell 3, h.cell 4, h.cell 5⟩
set_option maxHeartbeats 2000000 in
theorem text_setJ (p : Nat → Bool) (pl lo hi : Int) (w : World) (hT : TabAt 1 Lib.deBruijn64tab w) (hw0 : 1 < w.heap.size) :
    Calls Tryz.prog 124 #[.agg #[.int .i64 1, .int .i64 pl, .int .u64 ((word (p) 0 : Nat) : Int), .int .u64 ((word (p) 1 : Nat) : Int), .int .u64 ((word (p) 2 : Nat) : Int), .int .u64 ((word (p) 3 : Nat) : Int), .int .i64 lo, .int .i64 hi]] w fun e w' => e = .returned (.string (strOf (setT p))) ∧ Below w.heap.size w w' := by
  have hb0 := (Below.refl w.heap.size w).alloc (Nat.le_refl _) (.cells #[.int .i64 1, .int .i64 pl, .int .u64 ((word (p) 0 : Nat) : Int), .int .u64 ((word (p) 1 : Nat) : Int), .int .u64 ((word (p) 2 : Nat) : Int), .int .u64 ((word (p) 3 : Nat) : Int), .int .i64 lo, .int .i64 hi] 116)
  have hx0 := Blk.new w 116 #[.int .i64 1, .int .i64 pl, .int .u64 ((word (p) 0 : Nat) : Int), .int .u64 ((word (p) 1 : Nat) : Int), .int .u64 ((word (p) 2 : Nat) : Int), .int .u64 ((word (p) 3 : Nat) : Int), .int .i64 lo, .int .i64 hi]
  have HT := Lib.hid hT
  have HB0 := Lib.hid hb0
  have HX0 := Lib.hid hx0
  clear hb0 hx0 hT
  have hcn := cnt_elems p 256
  by_cases h1 : (elems p 256).length = 1
  · obtain ⟨c, hc⟩ := List.length_eq_one_iff.1 h1
    have hc256 : c < 256 := elems_lt (m := 256) (p := p) (by rw [hc]; simp)
    have HV : Hid (setT p = litS c) := Lib.hid (by unfold setT; rw [if_pos h1, hc]; rfl)
    have HN : Hid (((cnt p 256 : Nat) : Int) = 1) := Lib.hid (by omega)
    have HL := Lib.hid (fun w => least_go p c hc w)
    rw [HV.out]
    clear hc h1 hcn
    go_enter Tryz.func124, Tryz.ntmps124
    go_wp2_with fail
    refine (count_go p _).mono ?_
    rintro e w1 ⟨rfl, hb1⟩
    rw [HN.out]
    have HB1 := Lib.hid (HB0.out.trans (hb1.mono HB0.out.size))
    have hx1 := HX0.out.below hb1 HX0.out.lt
    have HX1 := Lib.hid hx1
    have s2 := hx1.cell 2
    have s3 := hx1.cell 3
    have s4 := hx1.cell 4
    have s5 := hx1.cell 5
    clear hb1 hx1
    simp at s2 s3 s4 s5
    go_wp2_with fail
    refine (HL.out _ (TabAt.below HB1.out hw0 HT.out) (Nat.lt_of_lt_of_le hw0 HB1.out.size)).mono ?_
    rintro e w2 ⟨rfl, hb2⟩
    have HB2 := Lib.hid (HB1.out.trans (hb2.mono HB1.out.size))
    clear hb2
    go_wp2_with fail
    refine (lit_go c _ hc256).mono ?_
    rintro e w3 ⟨rfl, hb3⟩
    have HB3 := Lib.hid (HB2.out.trans (hb3.mono HB2.out.size))
    clear hb3
    go_wp2
    go_light
    go_ret
    exact ⟨rfl, HB3.out⟩
  · have HN : Hid ((((cnt p 256 : Nat) : Int) == 1) = false) := Lib.hid (by simp; omega)
    have hn256 : cnt p 256 ≤ 256 := by rw [hcn]; exact elems_len p 256
    cases hd : sameSet p dotSet
    · have HV : Hid (setT p = showS p) := Lib.hid (by unfold setT; rw [if_neg h1, hd]; rfl)
      unfold sameSet at hd
      rw [HV.out]
      clear h1 hcn
      go_enter Tryz.func124, Tryz.ntmps124
      go_wp2_with fail
      refine (count_go p _).mono ?_
      rintro e w1 ⟨rfl, hb1⟩
      have hn := HN.out
      generalize ((cnt p 256 : Nat) : Int) = N at *
      have HB1 := Lib.hid (HB0.out.trans (hb1.mono HB0.out.size))
      have hx1 := HX0.out.below hb1 HX0.out.lt
      have HX1 := Lib.hid hx1
      have s2 := hx1.cell 2
      have s3 := hx1.cell 3
      have s4 := hx1.cell 4
      have s5 := hx1.cell 5
      clear hb1 hx1
      simp at s2 s3 s4 s5
      go_wp2
      go_region_with (go_at_call 152; refine (dot_go _).mono ?_; rintro e w2 ⟨rfl, hb2⟩; obtain ⟨t2, t3, t4, t5⟩ := lexset_below HX1.out.drew hb2; have HB2 := Lib.hid (HB1.out.drew.trans (hb2.mono HB1.out.size)); clear hb2)
      all_goals go_wp2_with (go_at_call 165; refine (show_go p _ (TabAt.below HB2.out hw0 HT.out) (Nat.lt_of_lt_of_le hw0 HB2.out.size)).mono ?_; rintro e w3 ⟨rfl, hb3⟩)
      all_goals go_light
      all_goals go_ret
      all_goals exact ⟨rfl, HB2.out.trans (hb3.mono HB2.out.size)⟩
    · have HV : Hid (setT p = [46]) := Lib.hid (by unfold setT; rw [if_neg h1, if_pos hd])
      unfold sameSet at hd
      rw [HV.out]
      clear h1 hcn
      go_enter Tryz.func124, Tryz.ntmps124
      go_wp2_with fail
      refine (count_go p _).mono ?_
      rintro e w1 ⟨rfl, hb1⟩
      have hn := HN.out
      generalize ((cnt p 256 : Nat) : Int) = N at *
      have HB1 := Lib.hid (HB0.out.trans (hb1.mono HB0.out.size))
      have hx1 := HX0.out.below hb1 HX0.out.lt
      have HX1 := Lib.hid hx1
      have s2 := hx1.cell 2
      have s3 := hx1.cell 3
      have s4 := hx1.cell 4
      have s5 := hx1.cell 5
      clear hb1 hx1
      simp at s2 s3 s4 s5
      go_wp2
      go_region_with (go_at_call 152; refine (dot_go _).mono ?_; rintro e w2 ⟨rfl, hb2⟩; obtain ⟨t2, t3, t4, t5⟩ := lexset_below HX1.out.drew hb2; have HB2 := Lib.hid (HB1.out.drew.trans (hb2.mono HB1.out.size)); clear hb2)
      all_goals go_wp2
      all_goals go_light
      all_goals go_ret
      all_goals exact ⟨rfl, HB2.out⟩

end Go.Proofs.YtffkppoidollnaaGreatDoor
namespace Go.Proofs.YtffkppoidollnaaGreatDoor
open Go.RowKit
set_option linter.unusedSimpArgs false
set_option linter.unusedVariables false
set_option maxRecDepth 100000

set_option maxHeartbeats 1000000 in
theorem text_rep (p : Nat → Bool) (pl lo hi : Int) (w : World) (h0 : 0 ≤ lo) (h1 : lo ≤ 1000) (h2 : hi = -1 ∨ lo ≤ hi ∧ hi ≤ 1000) :
    Calls Tryz.prog 124 #[.agg #[.int .i64 8, .int .i64 pl, .int .u64 ((word (p) 0 : Nat) : Int), .int .u64 ((word (p) 1 : Nat) : Int), .int .u64 ((word (p) 2 : Nat) : Int), .int .u64 ((word (p) 3 : Nat) : Int), .int .i64 lo, .int .i64 hi]] w fun e w' => e = .returned (.string (strOf (repT lo hi))) ∧ Below w.heap.size w w' := by
  have H := Lib.hid (fun w => rept_go lo hi w h0 h1 h2)
  clear h0 h1 h2
  go_enter Tryz.func124, Tryz.ntmps124
  go_wp2_with fail
  have HB0 := Lib.hid ((Below.refl w.heap.size w).alloc (Nat.le_refl _) (.cells #[.int .i64 8, .int .i64 pl, .int .u64 ((word (p) 0 : Nat) : Int), .int .u64 ((word (p) 1 : Nat) : Int), .int .u64 ((word (p) 2 : Nat) : Int), .int .u64 ((word (p) 3 : Nat) : Int), .int .i64 lo, .int .i64 hi] 116))
  refine (H.out _).mono ?_
  rintro e w1 ⟨rfl, hb1⟩
  have HB1 := Lib.hid (HB0.out.trans (hb1.mono HB0.out.size))
  clear hb1
  go_wp2
  go_light
  go_ret
  exact ⟨rfl, HB1.out⟩
set_option maxHeartbeats 1000000 in
theorem text_signJ (p : Nat → Bool) (k pl lo hi : Int) (w : World) (h0 : 2 ≤ k) (h1 : k ≤ 7) :
    Calls Tryz.prog 124 #[.agg #[.int .i64 k, .int .i64 pl, .int .u64 ((word (p) 0 : Nat) : Int), .int .u64 ((word (p) 1 : Nat) : Int), .int .u64 ((word (p) 2 : Nat) : Int), .int .u64 ((word (p) 3 : Nat) : Int), .int .i64 lo, .int .i64 hi]] w fun e w' => e = .returned (.string (strOf (textS ⟨k, pl, p, lo, hi⟩))) ∧ Below w.heap.size w w' := by
  by_cases e2 : k = 2
  · subst e2
    go_enter Tryz.func124, Tryz.ntmps124
    go_wp2
    go_light
    go_ret
    exact ⟨rfl, (Below.refl w.heap.size w).alloc (Nat.le_refl _) _⟩

  by_cases e3 : k = 3
  · subst e3
    go_enter Tryz.func124, Tryz.ntmps124
    go_wp2
    go_light
    go_ret
    exact ⟨rfl, (Below.refl w.heap.size w).alloc (Nat.le_refl _) _⟩

  by_cases e4 : k = 4
  · subst e4
    go_enter Tryz.func124, Tryz.ntmps124
    go_wp2
    go_light
    go_ret
    exact ⟨rfl, (Below.refl w.heap.size w).alloc (Nat.le_refl _) _⟩

  by_cases e5 : k = 5
  · subst e5
    go_enter Tryz.func124, Tryz.ntmps124
    go_wp2
    go_light
    go_ret
    exact ⟨rfl, (Below.refl w.heap.size w).alloc (Nat.le_refl _) _⟩

  by_cases e6 : k = 6
  · subst e6
    go_enter Tryz.func124, Tryz.ntmps124
    go_wp2
    go_light
    go_ret
    exact ⟨rfl, (Below.refl w.heap.size w).alloc (Nat.le_refl _) _⟩

  by_cases e7 : k = 7
  · subst e7
    go_enter Tryz.func124, Tryz.ntmps124
    go_wp2
    go_light
    go_ret
    exact ⟨rfl, (Below.refl w.heap.size w).alloc (Nat.le_refl _) _⟩

  exact absurd h0 (by omega)

/-- A lexeme as a value. -/
def lexValJ (x : Lex) : Value := .agg #[.int .i64 x.kind, .int .i64 x.place, .int .u64 ((word (x.set) 0 : Nat) : Int), .int .u64 ((word (x.set) 1 : Nat) : Int), .int .u64 ((word (x.set) 2 : Nat) : Int), .int .u64 ((word (x.set) 3 : Nat) : Int), .int .i64 x.lo, .int .i64 x.hi]
theorem text_go (x : Lex) (w : World) (hr : rightS x = true) (hT : TabAt 1 Lib.deBruijn64tab w) (hw0 : 1 < w.heap.size) :
    Calls Tryz.prog 124 #[lexValJ x] w fun e w' => e = .returned (.string (strOf (textS x))) ∧ Below w.heap.size w w' := by
  obtain ⟨_, h | h | h⟩ := rightS_cases hr
  · obtain ⟨k, pl, p, lo, hi⟩ := x
    dsimp only at h
    obtain ⟨rfl, _, _⟩ := h
    exact text_setJ p pl lo hi w hT hw0
  · obtain ⟨k, pl, p, lo, hi⟩ := x
    dsimp only at h
    obtain ⟨rfl, h1, h2, h3, _⟩ := h
    exact text_rep p pl lo hi w h1 h2 h3
  · obtain ⟨k, pl, p, lo, hi⟩ := x
    dsimp only at h
    exact text_signJ p k pl lo hi w h.1 h.2.1

end Go.Proofs.YtffkppoidollnaaGreatDoor
namespace Go.Proofs.YtffkppoidollnaaGreatDoor
open Go.RowKit
set_option linter.unusedSimpArgs false
set_option linter.unusedVariables false
set_option maxRecDepth 100000

@[go_sem] theorem run_str1_next (w : World) (o : Obj) (c : Nat) : (convert 43 9 (.slice (some ⟨w.heap.size + 1, 0, none⟩) 1 1)).run Tryz.prog ((w.alloc o).alloc (.cells #[.int .u8 (c : Int)] 5)) =
    .ok (.string (strOf [c])) ((w.alloc o).alloc (.cells #[.int .u8 (c : Int)] 5)) := by
  have h := run_str1 (w.alloc o) c
  rw [World.size_alloc] at h
  exact h
end Go.Proofs.YtffkppoidollnaaGreatDoor
namespace Go.Proofs.YtffkppoidollnaaGreatDoor
open Go.RowKit
set_option linter.unusedSimpArgs false
set_option linter.unusedVariables false
set_option maxRecDepth 100000

/-- The text of lexemes. -/
def joinS (L : List Lex) : List Nat := L.flatMap textS
theorem joinS_len : ∀ (L : List Lex), (joinS L).length ≤ L.length * 2400
  | [] => by simp [joinS]
  | x :: L => by
    have h1 := textS_len x
    have h2 := joinS_len L
    unfold joinS at h2 ⊢
    rw [List.flatMap_cons, List.length_append, List.length_cons]
    omega
theorem joinS_take {L : List Lex} {k : Nat} {x : Lex} (h : L[k]? = some x) : joinS (L.take (k + 1)) = joinS (L.take k) ++ textS x := by
  unfold joinS
  rw [List.take_add_one, h]
  simp
def joinV (L : List Lex) : Value := if L.all rightS = true then .tuple #[.string (strOf (joinS L)), .int .i64 0] else .tuple #[.string ⟨#[]⟩, .int .i64 6]
theorem joinV_bad {L : List Lex} {k : Nat} {x : Lex} (h : L[k]? = some x) (hx : rightS x = false) : joinV L = .tuple #[.string ⟨#[]⟩, .int .i64 6] := by
  refine if_neg fun ha => ?_
  have := List.all_eq_true.1 ha x (List.mem_of_getElem? h)
  rw [hx] at this
  cases this
theorem joinV_ok {L : List Lex} (h : ∀ (k : Nat) x, L[k]? = some x → rightS x = true) : joinV L = .tuple #[.string (strOf (joinS L)), .int .i64 0] := by
  refine if_pos (List.all_eq_true.2 fun x hx => ?_)
  obtain ⟨k, hk, rfl⟩ := List.mem_iff_getElem.1 hx
  exact h k _ (List.getElem?_eq_getElem hk)

theorem showS_bytes' (p : Nat → Bool) : ∀ x ∈ showS p, x < 256 := by
  have hp : ∀ l : List (Nat × Nat), (∀ x ∈ l, x.1 ≤ x.2 ∧ x.2 < 256) → ∀ y ∈ piecesS l, y < 256 := by
    intro l
    induction l with
    | nil => intro _ y hy; simp [piecesS] at hy
    | cons x l ih =>
      intro hl y hy
      have hx := hl x (by simp)
      rw [piecesS_cons] at hy
      rcases List.mem_append.1 hy with hy | hy
      · unfold pieceS at hy
        rcases List.mem_append.1 hy with hy | hy
        · exact (chr_head x.1 (by omega)).2.2.2.2 y hy
        · rcases List.mem_append.1 hy with hy | hy
          · split at hy
            · simp at hy; omega
            · simp at hy
          · split at hy
            · exact (chr_head x.2 hx.2).2.2.2.2 y hy
            · simp at hy
      · exact ih (fun z hz => hl z (by simp [hz])) y hy
  intro x hx
  unfold showS at hx
  split at hx
  · simp only [List.mem_append, List.mem_cons, List.not_mem_nil, or_false] at hx
    rcases hx with (h | h) | h | h
    · omega
    · omega
    · exact hp _ (cutsOf_in _) x h
    · omega
  · simp only [List.mem_append, List.mem_cons, List.not_mem_nil, or_false] at hx
    rcases hx with h | h | h
    · omega
    · exact hp _ (cutsOf_in _) x h
    · omega
theorem setT_bytes (p : Nat → Bool) : ∀ x ∈ setT p, x < 256 := by
  unfold setT
  split
  · rename_i h
    obtain ⟨c, hc⟩ := List.length_eq_one_iff.1 h
    rw [hc]
    exact litS_bytes c (elems_lt (m := 256) (p := p) (by rw [hc]; simp))
  · split
    · simp
    · exact showS_bytes' p
theorem repT_bytes {lo hi : Int} (h1 : lo ≤ 1000) (h2 : hi ≤ 1000) : ∀ x ∈ repT lo hi, x < 256 := by
  intro x hx
  unfold repT at hx
  have d1 := decS_bytes lo.toNat (by omega)
  have d2 := decS_bytes hi.toNat (by omega)
  simp only [List.mem_append, List.mem_cons, List.not_mem_nil, or_false] at hx
  rcases hx with h | h | h | h
  · omega
  · have := d1 x h; omega
  · split at h
    · simp at h; omega
    · split at h
      · rcases List.mem_cons.1 h with h | h
        · omega
        · have := d2 x h; omega
      · cases h
  · omega
theorem textS_bytes {x : Lex} (h : rightS x = true) : ∀ y ∈ textS x, y < 256 := by
  obtain ⟨_, h | h | h⟩ := rightS_cases h
  · unfold textS
    rw [if_pos h.1]
    exact setT_bytes _
  · unfold textS
    rw [if_neg (by omega), if_pos h.1]
    exact repT_bytes (by omega) (by omega)
  · unfold textS
    rw [if_neg (by omega), if_neg (by omega)]
    repeat' split
    all_goals simp
theorem strCells_of (t : List Nat) (h : ∀ x ∈ t, x < 256) : Lib.strCells (strOf t) = t.map (fun c : Nat => Value.int .u8 (c : Int)) := by
  unfold Lib.strCells strOf
  simp only [List.map_map]
  apply List.map_congr_left
  intro x hx
  have := h x hx
  simp
  omega
/-- The string of a row of bytes that is owned. -/
theorem own_text {w : World} {base : Nat} {v : Value} {ns : List Nat} (h : w.ownsRow base 5 1 v ns.length (ns.map (fun n : Nat => Value.int .u8 (n : Int)))) :
    (convert 43 9 v).run Tryz.prog w = .ok (.string (strOf ns)) w := by
  rcases h.2 with ⟨rfl, h0⟩ | ⟨g, cap, cur, hv, hb, hh, _⟩
  · have : ns = [] := List.length_eq_zero_iff.1 h0
    subst this
    rw [run_convert_bytes_string w _ _ 5 none _ _ Tryz.underlying43 Tryz.underlying5 Tryz.underlying9]
    rfl
  · subst hv
    exact run_str w ⟨g, 0, none⟩ cap ns (h.cells (g := g) rfl)

end Go.Proofs.YtffkppoidollnaaGreatDoor
namespace Go.Proofs.YtffkppoidollnaaGreatDoor
open Go.RowKit
set_option linter.unusedSimpArgs false
set_option linter.unusedVariables false
set_option maxRecDepth 100000

set_option maxHeartbeats 2000000 in
theorem join_go (A : Option Addr) (cap : Nat) (L : List Lex) (w : World) (hA : LexsAt w w.heap.size A L) (hlen : L.length ≤ 1048576) (hT : TabAt 1 Lib.deBruijn64tab w) (hw0 : 1 < w.heap.size) :
    Calls Tryz.prog 92 #[.slice A L.length cap] w fun e w' => e = .returned (joinV L) ∧ Below w.heap.size w w' := by
  obtain ⟨i0, hi, hz0, hz1, hz2⟩ := info_parts byte_info
  have HA := Lib.hid hA
  have HT := Lib.hid hT
  clear hA hT
  go_enter Tryz.func92, Tryz.ntmps92
  go_wp2
  go_loopw [4, 9] (fun v i wr => ∃ k : Nat, i = .int .i64 (k : Int) ∧ k ≤ L.length ∧ Hid (wr.ownsRow w.heap.size 5 1 v (joinS (L.take k)).length ((joinS (L.take k)).map (fun n : Nat => Value.int .u8 (n : Int)))) ∧ Hid (Below w.heap.size w wr) ∧ Hid (∀ (j : Nat) x, j < k → L[j]? = some x → rightS x = true)) (fun _ i _ => L.length - (intOf i).toNat)
  case atStart => exact ⟨0, rfl, Nat.zero_le _, Lib.hid (World.ownsRow_nil _ _ _ _), Lib.hid (Below.refl _ _), Lib.hid (fun j x hj => by omega)⟩
  case round =>
    obtain ⟨k, rfl, hk, Hown, HB, HR⟩ := hrel
    by_cases hlt : k < L.length
    · obtain ⟨x, hx⟩ : ∃ x, L[k]? = some x := ⟨_, List.getElem?_eq_getElem hlt⟩
      obtain ⟨b, o, rfl, hbl, hc⟩ := HA.out (by omega)
      have hbl' : b < wr.heap.size := Nat.lt_of_lt_of_le hbl HB.out.size
      obtain ⟨c0, c1, c2, c3, c4, c5, c6, c7⟩ := ((HA.out.below HB.out) (by omega)).elim fun b' h => h.elim fun o' h => by
        obtain ⟨e, _, h⟩ := h
        obtain ⟨rfl, rfl⟩ : b = b' ∧ o = o' := by simpa using e
        exact h k x hx
      clear hc
      have Hx := Lib.hid hx
      have hdl : (k : Int) < (L.length : Int) := by omega
      have Hbx := Lib.hid (Blk.new wr 116 #[.int .i64 x.kind, .int .i64 x.place, .int .u64 ((word (x.set) 0 : Nat) : Int), .int .u64 ((word (x.set) 1 : Nat) : Int), .int .u64 ((word (x.set) 2 : Nat) : Int), .int .u64 ((word (x.set) 3 : Nat) : Int), .int .i64 x.lo, .int .i64 x.hi])
      have HBx := Lib.hid (HB.out.alloc HB.out.size (.cells #[.int .i64 x.kind, .int .i64 x.place, .int .u64 ((word (x.set) 0 : Nat) : Int), .int .u64 ((word (x.set) 1 : Nat) : Int), .int .u64 ((word (x.set) 2 : Nat) : Int), .int .u64 ((word (x.set) 3 : Nat) : Int), .int .i64 x.lo, .int .i64 x.hi] 116))
      have Hownx := Lib.hid (Hown.out.alloc (.cells #[.int .i64 x.kind, .int .i64 x.place, .int .u64 ((word (x.set) 0 : Nat) : Int), .int .u64 ((word (x.set) 1 : Nat) : Int), .int .u64 ((word (x.set) 2 : Nat) : Int), .int .u64 ((word (x.set) 3 : Nat) : Int), .int .i64 x.lo, .int .i64 x.hi] 116))
      go_wp2_with fail
      refine (right_go _ _ _ _ _ _ _ _ _).mono ?_
      rintro e w1 ⟨rfl, hb1⟩
      change Hid _ at Hx
      have Hb1 := Lib.hid (Hbx.out.below hb1 Hbx.out.lt)
      have HB1 := Lib.hid (HBx.out.trans (hb1.mono HBx.out.size))
      have Hown1 := Lib.hid (own_below Hownx.out hb1)
      clear hb1 c0 c1 c2 c3 c4 c5 c6 c7
      cases hr : rightS x
      · have hr' := hr
        unfold rightS at hr'
        rw [hr']
        have HV := Lib.hid (joinV_bad Hx.out hr)
        clear hr hr'
        go_wp2
        go_light
        go_ret2
        exact ⟨by rw [HV.out]; rfl, HB1.out⟩
      · have hr' := hr
        unfold rightS at hr'
        rw [hr']
        have Hr := Lib.hid hr
        clear hr hr'
        have s0 := Hb1.out.cell 0
        have s1 := Hb1.out.cell 1
        have s2 := Hb1.out.cell 2
        have s3 := Hb1.out.cell 3
        have s4 := Hb1.out.cell 4
        have s5 := Hb1.out.cell 5
        have s6 := Hb1.out.cell 6
        have s7 := Hb1.out.cell 7
        simp at s0 s1 s2 s3 s4 s5 s6 s7
        go_wp2_with fail
        refine (text_go x _ Hr.out (TabAt.below HB1.out hw0 HT.out) (Nat.lt_of_lt_of_le hw0 HB1.out.size)).mono ?_
        rintro e w2 ⟨rfl, hb2⟩
        have HB2 := Lib.hid (HB1.out.trans (hb2.mono HB1.out.size))
        have Hown2 := Lib.hid (own_below Hown1.out hb2)
        clear hb2 s0 s1 s2 s3 s4 s5 s6 s7
        have l1 := joinS_len (L.take k)
        have l2 : (L.take k).length ≤ 1048576 := by rw [List.length_take]; omega
        have l3 := textS_len x
        have Hj := Lib.hid (joinS_take Hx.out)
        have Hs := Lib.hid (strCells_of (textS x) (textS_bytes Hr.out))
        have m1 : (joinS (L.take k)).length + (strOf (textS x)).size ≤ maxLen := by rw [strOf_size]; exact Nat.le_trans (by omega) (show 140737488355328 ≤ maxLen by decide)
        have m2 : (joinS (L.take k)).length + (strOf (textS x)).size ≤ 140737488355328 := by rw [strOf_size]; omega
        go_wp2_with (at_builtin; refine Lib.wpList_append_own_string _ rfl _ _ _ _ rfl w.heap.size 5 i0 Tryz.underlying43 Tryz.underlying9 hi hz0 hz1 hz2 _ _ _ rfl Hown2.out _ rfl m1 m2 HB2.out.size ?_; intro v' w3 hown3 hg3 _)
        have Hown3 : Hid (w3.ownsRow w.heap.size 5 1 v' (joinS (L.take (k + 1))).length ((joinS (L.take (k + 1))).map (fun n : Nat => Value.int .u8 (n : Int)))) := Lib.hid (by
          rw [Hs.out, strOf_size] at hown3
          rw [Hj.out, List.length_append, List.map_append]
          exact hown3)
        have HB3 := Lib.hid (below_grown HB2.out hg3 Hown2.out (Nat.le_refl _) HB2.out.size)
        clear hown3 hg3
        go_light
        go_roundw
        case rel => exact ⟨k + 1, by go_num, by omega, Hown3, HB3, Lib.hid (fun j y hj hy => by
          rcases Nat.lt_or_ge j k with h | h
          · exact HR.out j y h hy
          · obtain rfl : j = k := by omega
            rw [Hx.out] at hy
            cases hy
            exact Hr.out)⟩
        case measure => simp [intOf]; omega
    · have hdl : ¬ (k : Int) < (L.length : Int) := by omega
      obtain rfl : k = L.length := by omega
      have HV := Lib.hid (joinV_ok (fun j x hx => HR.out j x (List.getElem?_eq_some_iff.mp hx).1 hx))
      have hown := Hown.out
      rw [List.take_length] at hown
      have hs := own_text hown
      clear hown
      go_wp2
      go_light
      go_ret2
      exact ⟨by rw [HV.out]; rfl, HB.out⟩

end Go.Proofs.YtffkppoidollnaaGreatDoor
namespace Go.Proofs.YtffkppoidollnaaGreatDoor
open Go.RowKit
set_option linter.unusedSimpArgs false
set_option linter.unusedVariables false
set_option maxRecDepth 100000

theorem nright_big (N : NfaV) (A1 : Option Addr) (k1 : Nat) (A2 : Option Addr) (k2 : Nat) (A3 : Option Addr) (k3 : Nat) (w : World) (hN : NfaAt w N A1 A2 A3) (h : 65536 < N.states) : Calls Tryz.prog 47 #[.agg (nfA N A1 k1 A2 k2 A3 k3)] w fun e w' => e = .returned (.bool (rightN N)) ∧ Below w.heap.size w w' := by
  have hb1 : Below w.heap.size w (w.alloc (.cells (nfA N A1 k1 A2 k2 A3 k3) 26)) := (Below.refl _ _).alloc (Nat.le_refl _) _
  have HB1 := Lib.hid hb1
  have HX := Lib.hid (Blk.new w 26 (nfA N A1 k1 A2 k2 A3 k3))
  have HI := Lib.hid (is_go N.start N.states w.heap.size (w.alloc (.cells (nfA N A1 k1 A2 k2 A3 k3) 26)) (HX.out.cell 0))
  have HN := Lib.hid hN
  clear hb1 hN
  unfold nfA at *

  have HV := Lib.hid (rightN_head (N := N) (fun ⟨a, _⟩ => by omega))
  clear HI
  go_enter Tryz.func47, Tryz.ntmps47
  go_wp2
  go_light
  go_ret
  exact ⟨by rw [HV.out]; rfl, HB1.out⟩
theorem nright_start (N : NfaV) (A1 : Option Addr) (k1 : Nat) (A2 : Option Addr) (k2 : Nat) (A3 : Option Addr) (k3 : Nat) (w : World) (hN : NfaAt w N A1 A2 A3) (h : N.states ≤ 65536) (h2 : isB N.states N.start = false) : Calls Tryz.prog 47 #[.agg (nfA N A1 k1 A2 k2 A3 k3)] w fun e w' => e = .returned (.bool (rightN N)) ∧ Below w.heap.size w w' := by
  have hb1 : Below w.heap.size w (w.alloc (.cells (nfA N A1 k1 A2 k2 A3 k3) 26)) := (Below.refl _ _).alloc (Nat.le_refl _) _
  have HB1 := Lib.hid hb1
  have HX := Lib.hid (Blk.new w 26 (nfA N A1 k1 A2 k2 A3 k3))
  have HI := Lib.hid (is_go N.start N.states w.heap.size (w.alloc (.cells (nfA N A1 k1 A2 k2 A3 k3) 26)) (HX.out.cell 0))
  have HN := Lib.hid hN
  clear hb1 hN
  unfold nfA at *

  have HV := Lib.hid (rightN_head (N := N) (fun ⟨_, a, _⟩ => by rw [h2] at a; cases a))
  rw [h2] at HI
  have hd : decide ((65536 : Int) < N.states) = false := decide_eq_false (by omega)
  clear h2
  go_enter Tryz.func47, Tryz.ntmps47
  go_wp2_with fail
  refine HI.out.mono ?_
  rintro e w2 ⟨rfl, rfl⟩
  clear HI
  dsimp only
  go_wp2
  go_light
  go_ret
  exact ⟨by rw [HV.out]; rfl, HB1.out⟩
theorem nright_len (N : NfaV) (A1 : Option Addr) (k1 : Nat) (A2 : Option Addr) (k2 : Nat) (A3 : Option Addr) (k3 : Nat) (w : World) (hN : NfaAt w N A1 A2 A3) (h : N.states ≤ 65536) (h2 : isB N.states N.start = true) (h3 : (N.accept.length : Int) ≠ N.states) : Calls Tryz.prog 47 #[.agg (nfA N A1 k1 A2 k2 A3 k3)] w fun e w' => e = .returned (.bool (rightN N)) ∧ Below w.heap.size w w' := by
  have hb1 : Below w.heap.size w (w.alloc (.cells (nfA N A1 k1 A2 k2 A3 k3) 26)) := (Below.refl _ _).alloc (Nat.le_refl _) _
  have HB1 := Lib.hid hb1
  have HX := Lib.hid (Blk.new w 26 (nfA N A1 k1 A2 k2 A3 k3))
  have HI := Lib.hid (is_go N.start N.states w.heap.size (w.alloc (.cells (nfA N A1 k1 A2 k2 A3 k3) 26)) (HX.out.cell 0))
  have HN := Lib.hid hN
  clear hb1 hN
  unfold nfA at *

  have HV := Lib.hid (rightN_head (N := N) (fun ⟨_, _, a⟩ => h3 a))
  rw [h2] at HI
  have hd : decide ((65536 : Int) < N.states) = false := decide_eq_false (by omega)
  have hne : ((N.accept.length : Int) != N.states) = true := by rw [bne_iff_ne]; exact h3
  have y0 := HX.out.cell 0
  have y4 := HX.out.cell 4
  clear h2 h3
  go_enter Tryz.func47, Tryz.ntmps47
  go_wp2_with fail
  refine HI.out.mono ?_
  rintro e w2 ⟨rfl, rfl⟩
  clear HI
  dsimp only
  go_wp2
  go_light
  go_ret
  exact ⟨by rw [HV.out]; rfl, HB1.out⟩
set_option maxHeartbeats 4000000 in
theorem nright_rows (N : NfaV) (A1 : Option Addr) (k1 : Nat) (A2 : Option Addr) (k2 : Nat) (A3 : Option Addr) (k3 : Nat) (w : World) (hN : NfaAt w N A1 A2 A3) (h : N.states ≤ 65536) (h2 : isB N.states N.start = true) (h3 : (N.accept.length : Int) = N.states) : Calls Tryz.prog 47 #[.agg (nfA N A1 k1 A2 k2 A3 k3)] w fun e w' => e = .returned (.bool (rightN N)) ∧ Below w.heap.size w w' := by
  have hb1 : Below w.heap.size w (w.alloc (.cells (nfA N A1 k1 A2 k2 A3 k3) 26)) := (Below.refl _ _).alloc (Nat.le_refl _) _
  have HB1 := Lib.hid hb1
  have HX := Lib.hid (Blk.new w 26 (nfA N A1 k1 A2 k2 A3 k3))
  have HI := Lib.hid (is_go N.start N.states w.heap.size (w.alloc (.cells (nfA N A1 k1 A2 k2 A3 k3) 26)) (HX.out.cell 0))
  have HN := Lib.hid hN
  clear hb1 hN
  unfold nfA at *

  have HV := Lib.hid (rightN_tail h h2 h3)
  rw [h2] at HI
  have hd : decide ((65536 : Int) < N.states) = false := decide_eq_false (by omega)
  have hne : ((N.accept.length : Int) != N.states) = false := by rw [bne_eq_false_iff_eq]; exact h3
  have y0 := HX.out.cell 0
  have y4 := HX.out.cell 4
  have hll := HN.out.ll
  have hel := HN.out.el
  have hal := HN.out.al
  clear h2 h3
  go_enter Tryz.func47, Tryz.ntmps47
  go_wp2_with fail
  refine HI.out.mono ?_
  rintro e w2 ⟨rfl, rfl⟩
  clear HI y0 y4
  have y2 := HX.out.cell 2
  dsimp only
  go_wp2
  clear hd hne y2
  go_loopw [30] (fun i' wr => ∃ k : Nat, i' = .int .i64 (k : Int) ∧ k ≤ N.links.length ∧ Hid (∀ j z, j < k → N.links[j]? = some z → linkB N.states z = true) ∧ Hid (Below w.heap.size w wr) ∧ Hid (Blk wr w.heap.size 26 #[.int .i64 N.states, .int .i64 N.start, .slice A1 N.links.length k1, .slice A2 N.edges.length k2, .slice A3 N.accept.length k3])) (fun i' _ => N.links.length - (intOf i').toNat)
  case atStart => exact ⟨0, rfl, Nat.zero_le _, Lib.hid (fun j z hj => by omega), HB1, HX⟩
  case round =>
    clear HX HB1
    obtain ⟨k, rfl, hk, HR, HB, HX⟩ := hrel
    have hlx := HX.out.lt
    by_cases hlt : k < N.links.length
    · obtain ⟨p, hp⟩ : ∃ p, N.links[k]? = some p := ⟨_, List.getElem?_eq_getElem hlt⟩
      obtain ⟨b, o, rfl, c0, c1⟩ := (HN.out.l.below HB.out) k p hp
      have hdl : (k : Int) < (N.links.length : Int) := by omega
      have hblk := World.block_lt_of_cell? wr _ c0
      have hbA : Below wr.heap.size wr (wr.alloc (.cells #[.int .i64 p.1, .int .i64 p.2] 69)) := (Below.refl _ _).alloc (Nat.le_refl _) _
      have HXA := Lib.hid (HX.out.alloc (.cells #[.int .i64 p.1, .int .i64 p.2] 69))
      have HBA := Lib.hid (HB.out.trans (hbA.mono HB.out.size))
      have HP := Lib.hid hp
      have HI1 := Lib.hid (is_go p.1 N.states w.heap.size _ (HXA.out.cell 0))
      have HI2 := Lib.hid (is_go p.2 N.states w.heap.size _ (HXA.out.cell 0))
      clear hp hbA
      cases hv1 : isB N.states p.1 with
      | false =>
        rw [hv1] at HI1
        have HF := Lib.hid (all_no HP.out (show linkB N.states p = false by unfold linkB; rw [hv1]; rfl))
        clear hv1
        go_wp2_with fail
        refine HI1.out.mono ?_
        rintro e w3 ⟨rfl, rfl⟩
        clear HI1 HI2 c0 c1
        dsimp only
        go_wp2
        go_light
        go_ret
        exact ⟨by rw [HV.out, HF.out]; rfl, HBA.out⟩
      | true =>
        rw [hv1] at HI1
        have HV1 := Lib.hid hv1
        clear hv1
        cases hv2 : isB N.states p.2 with
        | false =>
          rw [hv2] at HI2
          have HF := Lib.hid (all_no HP.out (show linkB N.states p = false by unfold linkB; rw [hv2, Bool.and_false]))
          clear hv2
          go_wp2_with fail
          refine HI1.out.mono ?_
          rintro e w3 ⟨rfl, rfl⟩
          clear HI1
          dsimp only
          go_wp2_with fail
          refine HI2.out.mono ?_
          rintro e w3 ⟨rfl, rfl⟩
          clear HI2 c0 c1
          dsimp only
          go_wp2
          go_light
          go_ret
          exact ⟨by rw [HV.out, HF.out]; rfl, HBA.out⟩
        | true =>
          rw [hv2] at HI2
          have HV2 := Lib.hid hv2
          clear hv2
          go_wp2_with fail
          refine HI1.out.mono ?_
          rintro e w3 ⟨rfl, rfl⟩
          clear HI1
          dsimp only
          go_wp2_with fail
          refine HI2.out.mono ?_
          rintro e w3 ⟨rfl, rfl⟩
          clear HI2 c0 c1
          dsimp only
          go_wp2
          go_roundw
          case rel => exact ⟨k + 1, by go_num, by omega, Lib.hid (fun j y hj hy => by
            rcases Nat.lt_or_ge j k with h | h
            · exact HR.out j y h hy
            · obtain rfl : j = k := by omega
              rw [HP.out] at hy
              cases hy
              unfold linkB
              rw [HV1.out, HV2.out]
              rfl), HBA, HXA⟩
          case measure => simp [intOf]; omega
    · obtain rfl : k = N.links.length := by omega
      have hdl : ¬ ((N.links.length : Int) < (N.links.length : Int)) := by omega
      have HLL := Lib.hid (all_yes (f := linkB N.states) HR.out)
      clear HR hlt hk
      have y3 := HX.out.cell 3
      go_wp2
      clear y3
      go_loopw [50] (fun i' wr => ∃ k : Nat, i' = .int .i64 (k : Int) ∧ k ≤ N.edges.length ∧ Hid (∀ j z, j < k → N.edges[j]? = some z → edgeB N.states z = true) ∧ Hid (Below w.heap.size w wr) ∧ Hid (Blk wr w.heap.size 26 #[.int .i64 N.states, .int .i64 N.start, .slice A1 N.links.length k1, .slice A2 N.edges.length k2, .slice A3 N.accept.length k3])) (fun i' _ => N.edges.length - (intOf i').toNat)
      case atStart => exact ⟨0, rfl, Nat.zero_le _, Lib.hid (fun j z hj => by omega), HB, HX⟩
      case round =>
        clear HX HB hlx
        obtain ⟨k, rfl, hk, HR, HB, HX⟩ := hrel
        have hlx := HX.out.lt
        by_cases hlt : k < N.edges.length
        · obtain ⟨p, hp⟩ : ∃ p, N.edges[k]? = some p := ⟨_, List.getElem?_eq_getElem hlt⟩
          obtain ⟨b, o, rfl, c0, c1, c2, c3, c4, c5⟩ := (HN.out.e.below HB.out) k p hp
          have hdl : (k : Int) < (N.edges.length : Int) := by omega
          have hblk := World.block_lt_of_cell? wr _ c0
          have hbA : Below wr.heap.size wr (wr.alloc (.cells #[.int .i64 p.1, .int .u64 ((word (p.2.1.testBit) 0 : Nat) : Int), .int .u64 ((word (p.2.1.testBit) 1 : Nat) : Int), .int .u64 ((word (p.2.1.testBit) 2 : Nat) : Int), .int .u64 ((word (p.2.1.testBit) 3 : Nat) : Int), .int .i64 p.2.2] 73)) := (Below.refl _ _).alloc (Nat.le_refl _) _
          have HXA := Lib.hid (HX.out.alloc (.cells #[.int .i64 p.1, .int .u64 ((word (p.2.1.testBit) 0 : Nat) : Int), .int .u64 ((word (p.2.1.testBit) 1 : Nat) : Int), .int .u64 ((word (p.2.1.testBit) 2 : Nat) : Int), .int .u64 ((word (p.2.1.testBit) 3 : Nat) : Int), .int .i64 p.2.2] 73))
          have HBA := Lib.hid (HB.out.trans (hbA.mono HB.out.size))
          have HP := Lib.hid hp
          have HI1 := Lib.hid (is_go p.1 N.states w.heap.size _ (HXA.out.cell 0))
          have HI2 := Lib.hid (is_go p.2.2 N.states w.heap.size _ (HXA.out.cell 0))
          clear hp hbA
          cases hv1 : isB N.states p.1 with
          | false =>
            rw [hv1] at HI1
            have HF := Lib.hid (all_no HP.out (show edgeB N.states p = false by unfold edgeB; rw [hv1]; rfl))
            clear hv1
            go_wp2_with fail
            refine HI1.out.mono ?_
            rintro e w3 ⟨rfl, rfl⟩
            clear HI1 HI2 c0 c1 c2 c3 c4 c5
            dsimp only
            go_wp2
            go_light
            go_ret
            exact ⟨by rw [HV.out, HF.out]; simp, HBA.out⟩
          | true =>
            rw [hv1] at HI1
            have HV1 := Lib.hid hv1
            clear hv1
            cases hv2 : isB N.states p.2.2 with
            | false =>
              rw [hv2] at HI2
              have HF := Lib.hid (all_no HP.out (show edgeB N.states p = false by unfold edgeB; rw [hv2, Bool.and_false]))
              clear hv2
              go_wp2_with fail
              refine HI1.out.mono ?_
              rintro e w3 ⟨rfl, rfl⟩
              clear HI1
              dsimp only
              go_wp2_with fail
              refine HI2.out.mono ?_
              rintro e w3 ⟨rfl, rfl⟩
              clear HI2 c0 c1 c2 c3 c4 c5
              dsimp only
              go_wp2
              go_light
              go_ret
              exact ⟨by rw [HV.out, HF.out]; simp, HBA.out⟩
            | true =>
              rw [hv2] at HI2
              have HV2 := Lib.hid hv2
              clear hv2
              go_wp2_with fail
              refine HI1.out.mono ?_
              rintro e w3 ⟨rfl, rfl⟩
              clear HI1
              dsimp only
              go_wp2_with fail
              refine HI2.out.mono ?_
              rintro e w3 ⟨rfl, rfl⟩
              clear HI2 c0 c1 c2 c3 c4 c5
              dsimp only
              go_wp2
              go_roundw
              case rel => exact ⟨k + 1, by go_num, by omega, Lib.hid (fun j y hj hy => by
                rcases Nat.lt_or_ge j k with h | h
                · exact HR.out j y h hy
                · obtain rfl : j = k := by omega
                  rw [HP.out] at hy
                  cases hy
                  unfold edgeB
                  rw [HV1.out, HV2.out]
                  rfl), HBA, HXA⟩
              case measure => simp [intOf]; omega
        · obtain rfl : k = N.edges.length := by omega
          have hdl : ¬ ((N.edges.length : Int) < (N.edges.length : Int)) := by omega
          have HEE := Lib.hid (all_yes (f := edgeB N.states) HR.out)
          have HC := Lib.hid (hasacc_go A3 k3 N.accept wr hal (HN.out.a.below HB.out))
          clear HR hlt hk
          have y4 := HX.out.cell 4
          go_wp2_with fail
          refine HC.out.mono ?_
          rintro e w3 ⟨rfl, rfl⟩
          clear HC y4
          dsimp only
          go_wp2
          go_light
          go_ret
          exact ⟨by rw [HV.out, HLL.out, HEE.out]; exact ret_b (by simp), HB.out⟩
/-- nfa.Right. -/
theorem nright_go (N : NfaV) (A1 : Option Addr) (k1 : Nat) (A2 : Option Addr) (k2 : Nat) (A3 : Option Addr) (k3 : Nat) (w : World) (hN : NfaAt w N A1 A2 A3) : Calls Tryz.prog 47 #[.agg (nfA N A1 k1 A2 k2 A3 k3)] w fun e w' => e = .returned (.bool (rightN N)) ∧ Below w.heap.size w w' := by
  rcases Int.lt_or_le 65536 N.states with h | h
  · exact nright_big N A1 k1 A2 k2 A3 k3 w hN h
  cases h2 : isB N.states N.start with
  | false => exact nright_start N A1 k1 A2 k2 A3 k3 w hN h h2
  | true =>
    by_cases h3 : (N.accept.length : Int) = N.states
    · exact nright_rows N A1 k1 A2 k2 A3 k3 w hN h h2 h3
    · exact nright_len N A1 k1 A2 k2 A3 k3 w hN h h2 h3
end Go.Proofs.YtffkppoidollnaaGreatDoor
namespace Go.Proofs.YtffkppoidollnaaGreatDoor
open Go.RowKit
set_option linter.unusedSimpArgs false
set_option linter.unusedVariables false
set_option maxRecDepth 100000

theorem ret_nfa18 {fn : Func} {t2 t3 : Tmp} (h : fn.results = #[.cell t2 26, .tmp t3]) {tmps : Array Value} {w : World} {g : Nat} {a0 a1 a2 a3 a4 c : Value}
    (hp : tmps.getD t2 undef = .pointer (some ⟨g, 0, none⟩)) (hc : tmps.getD t3 undef = c) (hb : Blk w g 26 #[a0, a1, a2, a3, a4]) :
    (results fn tmps).run Tryz.prog w = .ok (.tuple #[.agg #[a0, a1, a2, a3, a4], c]) w := by
  have h1 := run_loadVar_row (P := Tryz.prog) w g 26 26 #[a0, a1, a2, a3, a4] (0, 0) _ hb Tryz.underlying26 rfl (by kernel_rfl)
  simp only [results, h]
  simp only [Array.getD_eq_getD_getElem?] at hp hc
  simp [Sem.run_bind, hp, hc, asAddr, h1, Result.andThen]
/-- Why a machine is not turned round. -/
def mirErr (N : NfaV) (label : Int) : Option Int := if rightN N = false then some 6 else if N.states = 65536 then some 7 else if label < 1 ∨ 64 < label then some 2 else none
def markTo (N : NfaV) (label : Int) (k : Nat) : List (Int × Int) := ((List.range k).filter fun s => N.accept[s]? == some label).map fun (s : Nat) => (N.states, (s : Int))
/-- The machine turned round. -/
def mirV (N : NfaV) (label : Int) : NfaV := ⟨N.states + 1, N.states, N.links.map flipL ++ markTo N label N.accept.length, N.edges.map flipE, (List.replicate (N.states.toNat + 1) 0).set N.start.toNat 1⟩
@[inline] def noNfa : Value := .agg #[.int .i64 0, .int .i64 0, .slice none 0 0, .slice none 0 0, .slice none 0 0]
set_option maxHeartbeats 2000000 in
theorem mir_no (N : NfaV) (A1 : Option Addr) (k1 : Nat) (A2 : Option Addr) (k2 : Nat) (A3 : Option Addr) (k3 : Nat) (label : Int) (w : World) (hN : NfaAt w N A1 A2 A3) (k : Int) (hk : mirErr N label = some k) :
    Calls Tryz.prog 10 #[.agg (nfA N A1 k1 A2 k2 A3 k3), .int .i64 label] w fun e w' => e = .returned (.tuple #[noNfa, .int .i64 k]) ∧ Below w.heap.size w w' := by
  have hb2 : Below w.heap.size w ((w.alloc (.cells (nfA N A1 k1 A2 k2 A3 k3) 26)).alloc (.cells #[.int .i64 0, .int .i64 0, .slice none 0 0, .slice none 0 0, .slice none 0 0] 26)) := ((Below.refl _ _).alloc (Nat.le_refl _) _).alloc (by simp) _
  have HB2 := Lib.hid hb2
  have HX2 := Lib.hid (show Blk ((w.alloc (.cells (nfA N A1 k1 A2 k2 A3 k3) 26)).alloc (.cells #[.int .i64 0, .int .i64 0, .slice none 0 0, .slice none 0 0, .slice none 0 0] 26)) w.heap.size 26 (nfA N A1 k1 A2 k2 A3 k3) from (Blk.new _ _ _).alloc _)
  have HZ2 := Lib.hid (show Blk ((w.alloc (.cells (nfA N A1 k1 A2 k2 A3 k3) 26)).alloc (.cells #[.int .i64 0, .int .i64 0, .slice none 0 0, .slice none 0 0, .slice none 0 0] 26)) (w.heap.size + 1) 26 #[.int .i64 0, .int .i64 0, .slice none 0 0, .slice none 0 0, .slice none 0 0] from Blk.new_at (by simp))
  have HR := Lib.hid (nright_go N A1 k1 A2 k2 A3 k3 _ (hN.below hb2))
  clear hb2 hN
  unfold nfA at *
  go_enter Tryz.func10, Tryz.ntmps10
  go_upto_region 1 with fail
  generalize ((w.alloc (.cells #[.int .i64 N.states, .int .i64 N.start, .slice A1 N.links.length k1, .slice A2 N.edges.length k2, .slice A3 N.accept.length k3] 26)).alloc (.cells #[.int .i64 0, .int .i64 0, .slice none 0 0, .slice none 0 0, .slice none 0 0] 26)) = w2 at *
  have hX := HX2.out
  have x0 := hX.cell 0
  have x1 := hX.cell 1
  have x2 := hX.cell 2
  have x3 := hX.cell 3
  have x4 := hX.cell 4
  have hlx := hX.lt
  clear hX
  simp only [List.getElem?_toArray, List.getElem?_cons_zero, List.getElem?_cons_succ] at x0 x1 x2 x3 x4
  go_wp2_with fail
  refine HR.out.mono ?_
  rintro e w3 ⟨rfl, hb3⟩
  have hX3 := HX2.out.below hb3 HX2.out.lt
  have y0 := hX3.cell 0
  have hZ3 := HZ2.out.below hb3 HZ2.out.lt
  have HB3 := Lib.hid (HB2.out.trans (hb3.mono HB2.out.size))
  have hlz := hZ3.lt
  have f0 := hZ3.frozen 0
  have f1 := hZ3.frozen 1
  have f2 := hZ3.frozen 2
  have f3 := hZ3.frozen 3
  have f4 := hZ3.frozen 4
  have z0 := hZ3.cell 0
  have z1 := hZ3.cell 1
  have z2 := hZ3.cell 2
  have z3 := hZ3.cell 3
  have z4 := hZ3.cell 4
  simp only [List.getElem?_toArray, List.getElem?_cons_zero, List.getElem?_cons_succ] at y0 z0 z1 z2 z3 z4
  have HZ3 := Lib.hid hZ3
  clear hX3 hb3 hZ3 x0 x1 x2 x3 x4
  by_cases hr : rightN N = false
  · have HK := Lib.hid (show k = 6 by unfold mirErr at hk; rw [if_pos hr] at hk; exact (Option.some.inj hk).symm)
    rw [hr]
    dsimp only
    clear hk
    go_wp2
    have hX5 := ((((HZ3.out.set_ 0 (.int .i64 0)).set_ 1 (.int .i64 0)).set_ 2 (.slice none 0 0)).set_ 3 (.slice none 0 0)).set_ 4 (.slice none 0 0)
    refine bodyPost_ret (ret_nfa18 Tryz.results10 rfl rfl hX5) rfl ⟨by rw [HK.out]; rfl, ?_⟩
    exact ((((HB3.out.setCell (p := ⟨w.heap.size + 1, 0, none⟩) (Nat.le_succ _) _).setCell (p := ⟨w.heap.size + 1, 1, none⟩) (Nat.le_succ _) _).setCell (p := ⟨w.heap.size + 1, 2, none⟩) (Nat.le_succ _) _).setCell (p := ⟨w.heap.size + 1, 3, none⟩) (Nat.le_succ _) _).setCell (p := ⟨w.heap.size + 1, 4, none⟩) (Nat.le_succ _) _
  have hr1 : rightN N = true := by simpa using hr
  rw [hr1]
  by_cases h7 : N.states = 65536
  · have HK := Lib.hid (show k = 7 by unfold mirErr at hk; rw [if_neg hr, if_pos h7] at hk; exact (Option.some.inj hk).symm)
    rw [h7] at y0
    dsimp only
    clear hk hr h7
    go_wp2
    have hX5 := ((((HZ3.out.set_ 0 (.int .i64 0)).set_ 1 (.int .i64 0)).set_ 2 (.slice none 0 0)).set_ 3 (.slice none 0 0)).set_ 4 (.slice none 0 0)
    refine bodyPost_ret (ret_nfa18 Tryz.results10 rfl rfl hX5) rfl ⟨by rw [HK.out]; rfl, ?_⟩
    exact ((((HB3.out.setCell (p := ⟨w.heap.size + 1, 0, none⟩) (Nat.le_succ _) _).setCell (p := ⟨w.heap.size + 1, 1, none⟩) (Nat.le_succ _) _).setCell (p := ⟨w.heap.size + 1, 2, none⟩) (Nat.le_succ _) _).setCell (p := ⟨w.heap.size + 1, 3, none⟩) (Nat.le_succ _) _).setCell (p := ⟨w.heap.size + 1, 4, none⟩) (Nat.le_succ _) _
  have HK := Lib.hid (show k = 2 ∧ (label < 1 ∨ 64 < label) by
    unfold mirErr at hk
    rw [if_neg hr, if_neg h7] at hk
    by_cases h : label < 1 ∨ 64 < label
    · rw [if_pos h] at hk; exact ⟨(Option.some.inj hk).symm, h⟩
    · rw [if_neg h] at hk; cases hk)
  have h7' : (N.states == 65536) = false := by simpa using h7
  clear hk hr
  obtain ⟨hk2, hlab⟩ := HK.out
  clear HK
  have HK := Lib.hid hk2
  clear hk2
  by_cases h1 : label < 1
  · dsimp only
    clear hlab
    go_wp2
    have hX5 := ((((HZ3.out.set_ 0 (.int .i64 0)).set_ 1 (.int .i64 0)).set_ 2 (.slice none 0 0)).set_ 3 (.slice none 0 0)).set_ 4 (.slice none 0 0)
    refine bodyPost_ret (ret_nfa18 Tryz.results10 rfl rfl hX5) rfl ⟨by rw [HK.out]; rfl, ?_⟩
    exact ((((HB3.out.setCell (p := ⟨w.heap.size + 1, 0, none⟩) (Nat.le_succ _) _).setCell (p := ⟨w.heap.size + 1, 1, none⟩) (Nat.le_succ _) _).setCell (p := ⟨w.heap.size + 1, 2, none⟩) (Nat.le_succ _) _).setCell (p := ⟨w.heap.size + 1, 3, none⟩) (Nat.le_succ _) _).setCell (p := ⟨w.heap.size + 1, 4, none⟩) (Nat.le_succ _) _
  · have h64 : 64 < label := by omega
    clear hlab
    dsimp only
    go_wp2
    have hX5 := ((((HZ3.out.set_ 0 (.int .i64 0)).set_ 1 (.int .i64 0)).set_ 2 (.slice none 0 0)).set_ 3 (.slice none 0 0)).set_ 4 (.slice none 0 0)
    refine bodyPost_ret (ret_nfa18 Tryz.results10 rfl rfl hX5) rfl ⟨by rw [HK.out]; rfl, ?_⟩
    exact ((((HB3.out.setCell (p := ⟨w.heap.size + 1, 0, none⟩) (Nat.le_succ _) _).setCell (p := ⟨w.heap.size + 1, 1, none⟩) (Nat.le_succ _) _).setCell (p := ⟨w.heap.size + 1, 2, none⟩) (Nat.le_succ _) _).setCell (p := ⟨w.heap.size + 1, 3, none⟩) (Nat.le_succ _) _).setCell (p := ⟨w.heap.size + 1, 4, none⟩) (Nat.le_succ _) _
end Go.Proofs.YtffkppoidollnaaGreatDoor
namespace Go.Proofs.YtffkppoidollnaaGreatDoor
open Go.RowKit
set_option linter.unusedSimpArgs false
set_option linter.unusedVariables false
set_option maxRecDepth 100000

theorem linksI_snoc (l : List (Int × Int)) (p : Int × Int) : linksI (l ++ [p]) = linksI l ++ linkI p := by simp [linksI]
theorem edgesI_snoc (l : List (Int × Nat × Int)) (p : Int × Nat × Int) : edgesI (l ++ [p]) = edgesI l ++ edgeI p := by simp [edgesI]
def intsI (l : List Int) : List Value := l.map (Value.int .i64)
theorem intsI_snoc (l : List Int) (a : Int) : intsI (l ++ [a]) = intsI l ++ [.int .i64 a] := by simp [intsI]
theorem linksI_get : ∀ (l : List (Int × Int)) (k : Nat) (p : Int × Int), l[k]? = some p → (linksI l)[k * 2]? = some (.int .i64 p.1) ∧ (linksI l)[k * 2 + 1]? = some (.int .i64 p.2)
  | [], k, p, h => by simp at h
  | x :: l, 0, p, h => by simp at h; subst h; exact ⟨rfl, rfl⟩
  | x :: l, k + 1, p, h => by
    obtain ⟨h1, h2⟩ := linksI_get l k p (by simpa using h)
    have e : linksI (x :: l) = linkI x ++ linksI l := by simp [linksI]
    have hl : (linkI x).length = 2 := rfl
    rw [e]
    refine ⟨?_, ?_⟩
    · rw [List.getElem?_append_right (by omega), hl, show (k + 1) * 2 - 2 = k * 2 by omega]; exact h1
    · rw [List.getElem?_append_right (by omega), hl, show (k + 1) * 2 + 1 - 2 = k * 2 + 1 by omega]; exact h2
theorem edgesI_get : ∀ (l : List (Int × Nat × Int)) (k : Nat) (p : Int × Nat × Int), l[k]? = some p → ∀ j, j < 6 → (edgesI l)[k * 6 + j]? = (edgeI p)[j]?
  | [], k, p, h, _, _ => by simp at h
  | x :: l, 0, p, h, j, hj => by
    simp at h
    subst h
    have e : edgesI (x :: l) = edgeI x ++ edgesI l := by simp [edgesI]
    rw [e, Nat.zero_mul, Nat.zero_add, List.getElem?_append_left (by simpa [edgeI] using hj)]
  | x :: l, k + 1, p, h, j, hj => by
    have h1 := edgesI_get l k p (by simpa using h) j hj
    have e : edgesI (x :: l) = edgeI x ++ edgesI l := by simp [edgesI]
    have hl : (edgeI x).length = 6 := rfl
    rw [e, List.getElem?_append_right (by omega), hl, show (k + 1) * 6 + j - 6 = k * 6 + j by omega]
    exact h1
theorem own_linksAt {w : World} {base n : Nat} {A : Option Addr} {k : Nat} {l : List (Int × Int)} (h : w.ownsRow base 69 2 (.slice A n k) l.length (linksI l)) : LinksAt w A l := fun i p hp => by
  have hi := (List.getElem?_eq_some_iff.1 hp).1
  obtain ⟨g, c, e, _, _⟩ := own_form h (by omega)
  cases e
  obtain ⟨c0, c1⟩ := linksI_get l i p hp
  have d0 := h.cells (g := g) rfl _ _ c0
  have d1 := h.cells (g := g) rfl _ _ c1
  rw [addr_plusE] at d0 d1
  exact ⟨g, 0, rfl, by rw [Nat.zero_add]; exact d0, by rw [Nat.zero_add]; exact d1⟩
theorem own_edgesAt {w : World} {base n : Nat} {A : Option Addr} {k : Nat} {l : List (Int × Nat × Int)} (h : w.ownsRow base 73 6 (.slice A n k) l.length (edgesI l)) : EdgesAt w A l := fun i q hq => by
  have hi := (List.getElem?_eq_some_iff.1 hq).1
  obtain ⟨g, c, e, _, _⟩ := own_form h (by omega)
  cases e
  have hc := edgesI_get l i q hq
  have d : ∀ j u, j < 6 → (edgeI q)[j]? = some u → w.cell? ⟨g, 0 + i * 6 + j, none⟩ = some u := fun j u hj hu => by
    have := h.cells (g := g) rfl _ _ ((hc j hj).trans hu)
    rw [addr_plusE] at this
    rw [Nat.zero_add]
    exact this
  exact ⟨g, 0, rfl, d 0 _ (by decide) rfl, d 1 _ (by decide) rfl, d 2 _ (by decide) rfl, d 3 _ (by decide) rfl, d 4 _ (by decide) rfl, d 5 _ (by decide) rfl⟩
theorem own_intsAt {w : World} {base n : Nat} {A : Option Addr} {k : Nat} {l : List Int} (h : w.ownsRow base 3 1 (.slice A n k) l.length (intsI l)) : IntsAt w A l := fun i a ha => by
  have hi := (List.getElem?_eq_some_iff.1 ha).1
  obtain ⟨g, c, e, _, _⟩ := own_form h (by omega)
  cases e
  have d0 := h.cells (g := g) rfl i (.int .i64 a) (by unfold intsI; rw [List.getElem?_map, ha]; rfl)
  rw [addr_plusE] at d0
  exact ⟨g, 0, rfl, by rw [Nat.zero_add]; exact d0⟩
theorem own_base {w : World} {b0 base n size : Nat} {e : TypeId} {v : Value} {xs : List Value} (h : w.ownsRow base e size v n xs) (hb : b0 ≤ base) : w.ownsRow b0 e size v n xs := by
  refine ⟨h.1, ?_⟩
  rcases h.2 with h1 | ⟨g, cap, cur, hv, h1, h2⟩
  · exact .inl h1
  · exact .inr ⟨g, cap, cur, hv, by omega, h2⟩
/-- The machine that is made: its box, its rows of links and edges; the boxes of the input and of the result. -/
structure MW (w0 w : World) (gx gz gm base : Nat) (X Z : Array Value) (n1 n : Int) (Lk : List (Int × Int)) (Ed : List (Int × Nat × Int)) (u v a : Value) : Prop where
  x : Blk w gx 26 X
  z : Blk w gz 26 Z
  m : Blk w gm 26 #[.int .i64 n1, .int .i64 n, u, v, a]
  l : w.ownsRow base 69 2 u Lk.length (linksI Lk)
  e : w.ownsRow base 73 6 v Ed.length (edgesI Ed)
  b : Below w0.heap.size w0 w
  lo : w0.heap.size ≤ gz ∧ w0.heap.size ≤ gm ∧ w0.heap.size ≤ base
  ne : gx ≠ gm ∧ gz ≠ gm
  sz : base ≤ w.heap.size
section
variable {w0 w wa w1 : World} {gx gz gm base gg cap : Nat} {X Z : Array Value} {n1 n : Int} {Lk : List (Int × Int)} {Ed : List (Int × Nat × Int)} {u v a : Value}
theorem grown_blk {t : TypeId} {cs : Array Value} {b : Nat} {r : Option Nat} (h : Blk w b t cs) (ha : Below w.heap.size w wa) (hg : wa.grownBy w1 r) (hr : some b ≠ r) : Blk w1 b t cs := (h.below ha h.lt).grown hg hr
theorem grown_row {base' size k : Nat} {e : TypeId} {v : Value} {xs : List Value} {r : Option Nat} (hr : w.ownsRow base' e size v k xs) (ha : Below w.heap.size w wa) (hg : wa.grownBy w1 r) (hne : ∀ k, v.ownBlock = some k → r ≠ some k) : w1.ownsRow base' e size v k xs :=
  ownsRow_block hr (fun k hk => (hg.block k (by have := (hr.lt k hk).2; have := ha.size; omega) (fun e => hne k hk e.symm)).trans (ha.block k (hr.lt k hk).2))
/-- What an append and a store keep. -/
def KeptBy (w w' : World) (u : Value) (gm : Nat) : Prop := ∀ b, b < w.heap.size → u.ownBlock ≠ some b → b ≠ gm → w'.heap[b]? = w.heap[b]?
theorem kept_by {r : Value} {i : Nat} {q : Value} (ha : Below w.heap.size w wa) (hg : wa.grownBy w1 r.ownBlock) : KeptBy w (w1.setCell ⟨gm, i, none⟩ q) r gm := fun b hb h1 h2 =>
  (Below.heap_setCell w1 ⟨gm, i, none⟩ q b h2).trans ((hg.block b (by have := ha.size; omega) (fun e => h1 e.symm)).trans (ha.block b hb))
theorem MW.link (h : MW w0 w gx gz gm base X Z n1 n Lk Ed u v a) {p : Int × Int} (ha : Below w.heap.size w wa) (hg : wa.grownBy w1 u.ownBlock)
    (hown : w1.ownsRow base 69 2 (.slice (some ⟨gg, 0, none⟩) (Lk.length + 1) cap) (Lk.length + 1) (linksI Lk ++ linkI p)) :
    MW w0 (w1.setCell ⟨gm, 2, none⟩ (.slice (some ⟨gg, 0, none⟩) (Lk.length + 1) cap)) gx gz gm base X Z n1 n (Lk ++ [p]) Ed (.slice (some ⟨gg, 0, none⟩) (Lk.length + 1) cap) v a := by
  have hM := grown_blk h.m ha hg (blk_not_row h.m (by decide) h.l)
  refine ⟨(grown_blk h.x ha hg (blk_not_row h.x (by decide) h.l)).far (p := ⟨gm, 2, none⟩) h.ne.1 _, (grown_blk h.z ha hg (blk_not_row h.z (by decide) h.l)).far (p := ⟨gm, 2, none⟩) h.ne.2 _, hM.set_ 2 _, ?_, own_set (grown_row h.e ha hg (fun k hk => rows_apart h.e h.l (by decide) hk)) (blk_not_row hM (by decide) (grown_row h.e ha hg (fun k hk => rows_apart h.e h.l (by decide) hk))), ?_, h.lo, h.ne, by have := h.sz; have := ha.size; have := hg.size; simp [World.setCell]; omega⟩
  · rw [linksI_snoc, List.length_append]
    exact own_set hown (blk_not_row hM (by decide) hown)
  · refine Below.setCell (Below.grown (h.b.trans (ha.mono h.b.size)) hg (by have := h.b.size; have := ha.size; omega) (fun k hk => Nat.le_trans h.lo.2.2 (h.l.lt k hk).1)) (p := ⟨gm, 2, none⟩) h.lo.2.1 _
theorem MW.edge (h : MW w0 w gx gz gm base X Z n1 n Lk Ed u v a) {p : Int × Nat × Int} (ha : Below w.heap.size w wa) (hg : wa.grownBy w1 v.ownBlock)
    (hown : w1.ownsRow base 73 6 (.slice (some ⟨gg, 0, none⟩) (Ed.length + 1) cap) (Ed.length + 1) (edgesI Ed ++ edgeI p)) :
    MW w0 (w1.setCell ⟨gm, 3, none⟩ (.slice (some ⟨gg, 0, none⟩) (Ed.length + 1) cap)) gx gz gm base X Z n1 n Lk (Ed ++ [p]) u (.slice (some ⟨gg, 0, none⟩) (Ed.length + 1) cap) a := by
  have hM := grown_blk h.m ha hg (blk_not_row h.m (by decide) h.e)
  refine ⟨(grown_blk h.x ha hg (blk_not_row h.x (by decide) h.e)).far (p := ⟨gm, 3, none⟩) h.ne.1 _, (grown_blk h.z ha hg (blk_not_row h.z (by decide) h.e)).far (p := ⟨gm, 3, none⟩) h.ne.2 _, hM.set_ 3 _, own_set (grown_row h.l ha hg (fun k hk => rows_apart h.l h.e (by decide) hk)) (blk_not_row hM (by decide) (grown_row h.l ha hg (fun k hk => rows_apart h.l h.e (by decide) hk))), ?_, ?_, h.lo, h.ne, by have := h.sz; have := ha.size; have := hg.size; simp [World.setCell]; omega⟩
  · rw [edgesI_snoc, List.length_append]
    exact own_set hown (blk_not_row hM (by decide) hown)
  · refine Below.setCell (Below.grown (h.b.trans (ha.mono h.b.size)) hg (by have := h.b.size; have := ha.size; omega) (fun k hk => Nat.le_trans h.lo.2.2 (h.e.lt k hk).1)) (p := ⟨gm, 3, none⟩) h.lo.2.1 _
theorem MW.acc (h : MW w0 w gx gz gm base X Z n1 n Lk Ed u v a) {k : Nat} {xs : List Value} {b : Value} (hr : w.ownsRow base 3 1 a k xs) (ha : Below w.heap.size w wa) (hg : wa.grownBy w1 a.ownBlock)
    {k' : Nat} {xs' : List Value} (hown : w1.ownsRow base 3 1 b k' xs') :
    MW w0 (w1.setCell ⟨gm, 4, none⟩ b) gx gz gm base X Z n1 n Lk Ed u v b ∧ (w1.setCell ⟨gm, 4, none⟩ b).ownsRow base 3 1 b k' xs' := by
  have hM := grown_blk h.m ha hg (blk_not_row h.m (by decide) hr)
  refine ⟨⟨(grown_blk h.x ha hg (blk_not_row h.x (by decide) hr)).far (p := ⟨gm, 4, none⟩) h.ne.1 _, (grown_blk h.z ha hg (blk_not_row h.z (by decide) hr)).far (p := ⟨gm, 4, none⟩) h.ne.2 _, hM.set_ 4 _, own_set (grown_row h.l ha hg (fun k hk => rows_apart h.l hr (by decide) hk)) (blk_not_row hM (by decide) (grown_row h.l ha hg (fun k hk => rows_apart h.l hr (by decide) hk))), own_set (grown_row h.e ha hg (fun k hk => rows_apart h.e hr (by decide) hk)) (blk_not_row hM (by decide) (grown_row h.e ha hg (fun k hk => rows_apart h.e hr (by decide) hk))), ?_, h.lo, h.ne, by have := h.sz; have := ha.size; have := hg.size; simp [World.setCell]; omega⟩, own_set hown (blk_not_row hM (by decide) hown)⟩
  refine Below.setCell (Below.grown (h.b.trans (ha.mono h.b.size)) hg (by have := h.b.size; have := ha.size; omega) (fun k hk => Nat.le_trans h.lo.2.2 (hr.lt k hk).1)) (p := ⟨gm, 4, none⟩) h.lo.2.1 _
/-- The row of an append is kept by an append to another row, and a store to the machine's box. -/
theorem KeptBy.row {w' : World} {base' size k : Nat} {e : TypeId} {r : Value} {xs : List Value} (h : KeptBy w w' u gm) (hr : w.ownsRow base' e size r k xs) (h1 : ∀ b, r.ownBlock = some b → u.ownBlock ≠ some b) (h2 : some gm ≠ r.ownBlock) : w'.ownsRow base' e size r k xs :=
  ownsRow_block hr (fun b hb => h b (hr.lt b hb).2 (h1 b hb) (fun e => h2 (by rw [hb, e])))
theorem KeptBy.blk {w' : World} {t : TypeId} {cs : Array Value} {b : Nat} (h : KeptBy w w' u gm) (hr : Blk w b t cs) (h1 : some b ≠ u.ownBlock) (h2 : b ≠ gm) : Blk w' b t cs := (h b hr.lt (fun e => h1 e.symm) h2).trans hr
end
theorem blk_intsAt {w : World} {g : Nat} {cs : Array Value} {l : List Int} (h : Blk w g 3 cs) (hc : cs.toList = intsI l) : IntsAt w (some ⟨g, 0, none⟩) l := fun i a ha => by
  refine ⟨g, 0, rfl, ?_⟩
  have := h.cell (0 + i)
  rw [this, Nat.zero_add, ← Array.getElem?_toList, hc]
  unfold intsI
  rw [List.getElem?_map, ha]
  rfl
theorem made_set (n k : Nat) : ((madeCells #[.int .i64 0] n).setIfInBounds k (.int .i64 1)).toList = intsI ((List.replicate n 0).set k 1) := by
  rw [Array.toList_setIfInBounds, toList_madeCells_one]
  unfold intsI
  rw [List.map_set, List.map_replicate]
/-- What is marked for the label, state by state. -/
theorem markTo_succ {N : NfaV} {label : Int} {k : Nat} {c : Int} (hc : N.accept[k]? = some c) : markTo N label (k + 1) = markTo N label k ++ if c = label then [(N.states, (k : Int))] else [] := by
  unfold markTo
  rw [List.range_succ, List.filter_append, List.map_append]
  congr 1
  by_cases h : c = label
  · subst h
    rw [if_pos rfl, List.filter_cons, hc]
    simp
  · rw [if_neg h, List.filter_cons, hc]
    have : ((some c == some label) : Bool) = false := by simpa using h
    rw [this]
    simp
theorem markTo_len (N : NfaV) (label : Int) (k : Nat) : (markTo N label k).length ≤ k := by
  unfold markTo
  rw [List.length_map]
  exact Nat.le_trans (List.length_filter_le _ _) (by simp)
end Go.Proofs.YtffkppoidollnaaGreatDoor
namespace Go.Proofs.YtffkppoidollnaaGreatDoor
open Go.RowKit
set_option linter.unusedSimpArgs false
set_option linter.unusedVariables false
set_option maxRecDepth 100000

/-- Eight cells of an array anew. -/
def arr8 (cur : Array Value) (o : Nat) (a0 a1 a2 a3 a4 a5 a6 a7 : Value) : Array Value :=
  (((((((cur.setIfInBounds o a0).setIfInBounds (o + 1) a1).setIfInBounds (o + 2) a2).setIfInBounds (o + 3) a3).setIfInBounds (o + 4) a4).setIfInBounds (o + 5) a5).setIfInBounds (o + 6) a6).setIfInBounds (o + 7) a7
theorem arr8_size (cur : Array Value) (o : Nat) (a0 a1 a2 a3 a4 a5 a6 a7 : Value) : (arr8 cur o a0 a1 a2 a3 a4 a5 a6 a7).size = cur.size := by simp [arr8]
theorem arr8_out (cur : Array Value) (o : Nat) (a0 a1 a2 a3 a4 a5 a6 a7 : Value) {k : Nat} (hk : k < o ∨ o + 8 ≤ k) : (arr8 cur o a0 a1 a2 a3 a4 a5 a6 a7)[k]? = cur[k]? := by
  unfold arr8
  simp only [Array.getElem?_setIfInBounds]
  rw [if_neg (by omega), if_neg (by omega), if_neg (by omega), if_neg (by omega), if_neg (by omega), if_neg (by omega), if_neg (by omega), if_neg (by omega)]
theorem arr8_in (cur : Array Value) (o : Nat) (a0 a1 a2 a3 a4 a5 a6 a7 : Value) (h : o + 8 ≤ cur.size) {j : Nat} (hj : j < 8) : (arr8 cur o a0 a1 a2 a3 a4 a5 a6 a7)[o + j]? = [a0, a1, a2, a3, a4, a5, a6, a7][j]? := by
  unfold arr8
  simp only [Array.getElem?_setIfInBounds, Array.size_setIfInBounds]
  match j, hj with
  | 0, _ => simp; omega
  | 1, _ => simp; omega
  | 2, _ => simp; omega
  | 3, _ => simp; omega
  | 4, _ => simp; omega
  | 5, _ => simp; omega
  | 6, _ => simp; omega
  | 7, _ => simp; omega
/-- Eight cells of a block anew. -/
def put8W (w : World) (g o : Nat) (a0 a1 a2 a3 a4 a5 a6 a7 : Value) : World :=
  (((((((w.setCell ⟨g, o, none⟩ a0).setCell ⟨g, o + 1, none⟩ a1).setCell ⟨g, o + 2, none⟩ a2).setCell ⟨g, o + 3, none⟩ a3).setCell ⟨g, o + 4, none⟩ a4).setCell ⟨g, o + 5, none⟩ a5).setCell ⟨g, o + 6, none⟩ a6).setCell ⟨g, o + 7, none⟩ a7
theorem Blk.put8W {w : World} {g : Nat} {t : TypeId} {cur : Array Value} (h : Blk w g t cur) (o : Nat) (a0 a1 a2 a3 a4 a5 a6 a7 : Value) : Blk (put8W w g o a0 a1 a2 a3 a4 a5 a6 a7) g t (arr8 cur o a0 a1 a2 a3 a4 a5 a6 a7) :=
  (((((((h.set_ o a0).set_ (o + 1) a1).set_ (o + 2) a2).set_ (o + 3) a3).set_ (o + 4) a4).set_ (o + 5) a5).set_ (o + 6) a6).set_ (o + 7) a7
theorem only_put8W {w0 w : World} {g : Nat} (h : w0.grownBy w (some g)) (o : Nat) (a0 a1 a2 a3 a4 a5 a6 a7 : Value) : w0.grownBy (put8W w g o a0 a1 a2 a3 a4 a5 a6 a7) (some g) :=
  only_set (only_set (only_set (only_set (only_set (only_set (only_set (only_set h o a0) (o + 1) a1) (o + 2) a2) (o + 3) a3) (o + 4) a4) (o + 5) a5) (o + 6) a6) (o + 7) a7
/-- A row of nodes' cells in a block, some rounds turned. -/
def RevN (w0 : World) (g : Nat) (gs : List (Nd × Option Addr × Nat)) (i : Nat) (w : World) : Prop :=
  ∃ cur : Array Value, Blk w g 39 cur ∧ gs.length * 8 ≤ cur.size ∧ (∀ p a, p < gs.length → revAt gs i p = some a → ∀ j, j < 8 → cur[p * 8 + j]? = (ndCell a.1 a.2.1 a.2.2)[j]?) ∧ w0.grownBy w (some g)
theorem RevN.drew {w0 w : World} {g i : Nat} {gs : List (Nd × Option Addr × Nat)} (h : RevN w0 g gs i w) : RevN w0 g gs i w.drew := by
  obtain ⟨cur, h1, h2, h3, h4⟩ := h
  exact ⟨cur, h1.drew, h2, h3, ⟨h4.os, h4.tape, h4.output, h4.size, h4.block⟩⟩
theorem RevN.swap {w0 w : World} {g i : Nat} {gs : List (Nd × Option Addr × Nat)} {x y : Nd} {A B : Option Addr} {ca cb : Nat} (h : RevN w0 g gs i w) (hi : i < gs.length - 1 - i) (ha : gs[i]? = some (x, A, ca)) (hb : gs[gs.length - 1 - i]? = some (y, B, cb)) :
    RevN w0 g gs (i + 1) (put8W (put8W w g (i * 8) (.int .i64 y.kind) (.int .u64 ((word y.set.testBit 0 : Nat) : Int)) (.int .u64 ((word y.set.testBit 1 : Nat) : Int)) (.int .u64 ((word y.set.testBit 2 : Nat) : Int)) (.int .u64 ((word y.set.testBit 3 : Nat) : Int)) (.slice B y.kids.len cb) (.int .i64 y.lo) (.int .i64 y.hi)) g ((gs.length - 1 - i) * 8) (.int .i64 x.kind) (.int .u64 ((word x.set.testBit 0 : Nat) : Int)) (.int .u64 ((word x.set.testBit 1 : Nat) : Int)) (.int .u64 ((word x.set.testBit 2 : Nat) : Int)) (.int .u64 ((word x.set.testBit 3 : Nat) : Int)) (.slice A x.kids.len ca) (.int .i64 x.lo) (.int .i64 x.hi)) := by
  obtain ⟨cur, h1, h2, h3, h4⟩ := h
  refine ⟨_, (h1.put8W (i * 8) (.int .i64 y.kind) (.int .u64 ((word y.set.testBit 0 : Nat) : Int)) (.int .u64 ((word y.set.testBit 1 : Nat) : Int)) (.int .u64 ((word y.set.testBit 2 : Nat) : Int)) (.int .u64 ((word y.set.testBit 3 : Nat) : Int)) (.slice B y.kids.len cb) (.int .i64 y.lo) (.int .i64 y.hi)).put8W ((gs.length - 1 - i) * 8) (.int .i64 x.kind) (.int .u64 ((word x.set.testBit 0 : Nat) : Int)) (.int .u64 ((word x.set.testBit 1 : Nat) : Int)) (.int .u64 ((word x.set.testBit 2 : Nat) : Int)) (.int .u64 ((word x.set.testBit 3 : Nat) : Int)) (.slice A x.kids.len ca) (.int .i64 x.lo) (.int .i64 x.hi), by rw [arr8_size, arr8_size]; exact h2, fun p a hp hr j hj => ?_, only_put8W (only_put8W h4 _ _ _ _ _ _ _ _ _) _ _ _ _ _ _ _ _ _⟩
  rw [revAt_step gs hi hp] at hr
  by_cases hpi : p = i
  · subst hpi
    rw [if_pos rfl, hb] at hr
    cases hr
    rw [arr8_out _ _ _ _ _ _ _ _ _ _ (by omega), arr8_in _ _ _ _ _ _ _ _ _ _ (by omega) hj]
    rfl
  · rw [if_neg hpi] at hr
    by_cases hpj : p = gs.length - 1 - i
    · rw [if_pos hpj, ha] at hr
      cases hr
      rw [hpj, arr8_in _ _ _ _ _ _ _ _ _ _ (by rw [arr8_size]; omega) hj]
      rfl
    · rw [if_neg hpj] at hr
      rw [arr8_out _ _ _ _ _ _ _ _ _ _ (by omega), arr8_out _ _ _ _ _ _ _ _ _ _ (by omega)]
      exact h3 p a hp hr j hj
set_option maxHeartbeats 8000000 in
theorem revn_go (g cap : Nat) (gs : List (Nd × Option Addr × Nat)) (w : World) (h : RevN w g gs 0 w) (hl : gs.length ≤ 140737488355328) :
    Calls Tryz.prog 126 #[.slice (some ⟨g, 0, none⟩) gs.length cap] w fun e w' => e = .returned (.tuple #[]) ∧ ∃ i, RevN w g gs i w' ∧ ¬ i < gs.length - 1 - i := by
  have H0 := Lib.hid h
  clear h
  go_enter Tryz.func126, Tryz.ntmps126
  go_wp2
  go_loopw [2, 3] (fun a b wr => ∃ i : Nat, a = .int .i64 (i : Int) ∧ b = .int .i64 ((gs.length : Int) - 1 - i) ∧ i ≤ gs.length ∧ Hid (RevN w g gs i wr)) (fun a _ _ => gs.length - (intOf a).toNat)
  case atStart => exact ⟨0, rfl, by simp, by omega, H0⟩
  case round =>
    clear H0
    obtain ⟨i, rfl, rfl, hi, HR⟩ := hrel
    by_cases hlt : i < gs.length - 1 - i
    · have hdl : (i : Int) < (gs.length : Int) - 1 - i := by omega
      obtain ⟨⟨x, A, ca⟩, ha⟩ : ∃ a, gs[i]? = some a := ⟨_, List.getElem?_eq_getElem (by omega)⟩
      obtain ⟨⟨y, B, cb⟩, hb⟩ : ∃ b, gs[gs.length - 1 - i]? = some b := ⟨_, List.getElem?_eq_getElem (by omega)⟩
      have HSW := Lib.hid (HR.out.swap hlt ha hb).drew
      obtain ⟨cur, h1, h2, h3, h4⟩ := HR.out
      have hA := h3 i _ (by omega) ((revAt_left gs hlt).trans ha)
      have hBb := h3 (gs.length - 1 - i) _ (by omega) ((revAt_right gs hlt).trans hb)
      have HLT := Lib.hid hlt
      obtain ⟨j, hj⟩ : ∃ j, j = gs.length - 1 - i := ⟨_, rfl⟩
      rw [← hj] at hBb HSW
      have pi0 : wr.cell? ⟨g, i * 8, none⟩ = some (.int .i64 x.kind) := (h1.cell (i * 8)).trans (by rw [← Nat.add_zero (i * 8), hA 0 (by decide)]; rfl)
      have pi1 : wr.cell? ⟨g, i * 8 + 1, none⟩ = some (.int .u64 ((word x.set.testBit 0 : Nat) : Int)) := (h1.cell (i * 8 + 1)).trans (by rw [hA 1 (by decide)]; rfl)
      have pi2 : wr.cell? ⟨g, i * 8 + 2, none⟩ = some (.int .u64 ((word x.set.testBit 1 : Nat) : Int)) := (h1.cell (i * 8 + 2)).trans (by rw [hA 2 (by decide)]; rfl)
      have pi3 : wr.cell? ⟨g, i * 8 + 3, none⟩ = some (.int .u64 ((word x.set.testBit 2 : Nat) : Int)) := (h1.cell (i * 8 + 3)).trans (by rw [hA 3 (by decide)]; rfl)
      have pi4 : wr.cell? ⟨g, i * 8 + 4, none⟩ = some (.int .u64 ((word x.set.testBit 3 : Nat) : Int)) := (h1.cell (i * 8 + 4)).trans (by rw [hA 4 (by decide)]; rfl)
      have pi5 : wr.cell? ⟨g, i * 8 + 5, none⟩ = some (.slice A x.kids.len ca) := (h1.cell (i * 8 + 5)).trans (by rw [hA 5 (by decide)]; rfl)
      have pi6 : wr.cell? ⟨g, i * 8 + 6, none⟩ = some (.int .i64 x.lo) := (h1.cell (i * 8 + 6)).trans (by rw [hA 6 (by decide)]; rfl)
      have pi7 : wr.cell? ⟨g, i * 8 + 7, none⟩ = some (.int .i64 x.hi) := (h1.cell (i * 8 + 7)).trans (by rw [hA 7 (by decide)]; rfl)
      have pf0 := h1.frozen (i * 8)
      have pf1 := h1.frozen (i * 8 + 1)
      have pf2 := h1.frozen (i * 8 + 2)
      have pf3 := h1.frozen (i * 8 + 3)
      have pf4 := h1.frozen (i * 8 + 4)
      have pf5 := h1.frozen (i * 8 + 5)
      have pf6 := h1.frozen (i * 8 + 6)
      have pf7 := h1.frozen (i * 8 + 7)
      have qi0 : wr.cell? ⟨g, j * 8, none⟩ = some (.int .i64 y.kind) := (h1.cell (j * 8)).trans (by rw [← Nat.add_zero (j * 8), hBb 0 (by decide)]; rfl)
      have qi1 : wr.cell? ⟨g, j * 8 + 1, none⟩ = some (.int .u64 ((word y.set.testBit 0 : Nat) : Int)) := (h1.cell (j * 8 + 1)).trans (by rw [hBb 1 (by decide)]; rfl)
      have qi2 : wr.cell? ⟨g, j * 8 + 2, none⟩ = some (.int .u64 ((word y.set.testBit 1 : Nat) : Int)) := (h1.cell (j * 8 + 2)).trans (by rw [hBb 2 (by decide)]; rfl)
      have qi3 : wr.cell? ⟨g, j * 8 + 3, none⟩ = some (.int .u64 ((word y.set.testBit 2 : Nat) : Int)) := (h1.cell (j * 8 + 3)).trans (by rw [hBb 3 (by decide)]; rfl)
      have qi4 : wr.cell? ⟨g, j * 8 + 4, none⟩ = some (.int .u64 ((word y.set.testBit 3 : Nat) : Int)) := (h1.cell (j * 8 + 4)).trans (by rw [hBb 4 (by decide)]; rfl)
      have qi5 : wr.cell? ⟨g, j * 8 + 5, none⟩ = some (.slice B y.kids.len cb) := (h1.cell (j * 8 + 5)).trans (by rw [hBb 5 (by decide)]; rfl)
      have qi6 : wr.cell? ⟨g, j * 8 + 6, none⟩ = some (.int .i64 y.lo) := (h1.cell (j * 8 + 6)).trans (by rw [hBb 6 (by decide)]; rfl)
      have qi7 : wr.cell? ⟨g, j * 8 + 7, none⟩ = some (.int .i64 y.hi) := (h1.cell (j * 8 + 7)).trans (by rw [hBb 7 (by decide)]; rfl)
      have qf0 := h1.frozen (j * 8)
      have qf1 := h1.frozen (j * 8 + 1)
      have qf2 := h1.frozen (j * 8 + 2)
      have qf3 := h1.frozen (j * 8 + 3)
      have qf4 := h1.frozen (j * 8 + 4)
      have qf5 := h1.frozen (j * 8 + 5)
      have qf6 := h1.frozen (j * 8 + 6)
      have qf7 := h1.frozen (j * 8 + 7)
      have hlg := h1.lt
      have hjn : (gs.length : Int) - 1 - i = (j : Int) := by omega
      have hij : i < j := by omega
      have hil : i < gs.length := by omega
      have mixed : Tryz.prog.follows .mixedOrders = true := by kernel_rfl
      have hjl : j < gs.length := by omega
      rw [hjn] at *
      have HJ := Lib.hid hj
      unfold put8W at HSW
      clear h1 h2 h3 h4 ha hb hj hjn hA hBb HR
      go_wp2_with fail
      go_region_o
      go_wp2
      go_roundw
      case rel => exact ⟨i + 1, by go_num, by congr 1; have := HJ.out; omega, by omega, HSW⟩
      case measure => simp [intOf]; omega
    · have hdl : ¬ (i : Int) < (gs.length : Int) - 1 - i := by omega
      have HLT := Lib.hid hlt
      go_wp2
      go_light
      go_end0
      exact ⟨rfl, i, HR.out, by have := HLT.out; omega⟩
end Go.Proofs.YtffkppoidollnaaGreatDoor
namespace Go.Proofs.YtffkppoidollnaaGreatDoor
open Go.RowKit
set_option linter.unusedSimpArgs false
set_option linter.unusedVariables false
set_option maxRecDepth 100000

/-- The groups of a row: nodes, and where their kids lie. -/
def GroupsAt (w : World) (P : Nat → Prop) (gs : List (Nd × Option Addr × Nat)) (b o : Nat) : Prop :=
  ∀ i x B c, gs[i]? = some (x, B, c) → x.kids.len ≤ c ∧ NdAt w b (o + i * 8) x.kind x.set x.kids.len x.lo x.hi B c ∧ TreesAt w P x.kids B
theorem groups_of {w : World} {P : Nat → Prop} : ∀ {F : Trees} {A : Option Addr}, TreesAt w P F A → 0 < F.len → ∃ b o gs, A = some ⟨b, o, none⟩ ∧ P b ∧ gs.map (·.1) = F.list ∧ GroupsAt w P gs b o
  | .nil, _, _, h => by simp [Trees.len] at h
  | .cons k s ks lo hi r, A, ⟨b, o, B, cap, hA, hb, hc, hn, h1, h2⟩, _ => by
    rcases Nat.eq_zero_or_pos r.len with h0 | h0
    · refine ⟨b, o, [(⟨k, s, ks, lo, hi⟩, B, cap)], hA, hb, ?_, fun i x C c hg => ?_⟩
      · cases r with
        | nil => rfl
        | cons => simp [Trees.len] at h0
      · match i, hg with
        | 0, hg =>
          simp at hg
          obtain ⟨rfl, rfl, rfl⟩ := hg
          exact ⟨hc, by simpa using hn, h1⟩
    · obtain ⟨b', o', gs, hA', _, hm, hg⟩ := groups_of h2 h0
      cases hA'
      refine ⟨b, o, (⟨k, s, ks, lo, hi⟩, B, cap) :: gs, hA, hb, by rw [List.map_cons, hm]; rfl, fun i x C c hi => ?_⟩
      match i, hi with
      | 0, hi =>
        simp at hi
        obtain ⟨rfl, rfl, rfl⟩ := hi
        exact ⟨hc, by simpa using hn, h1⟩
      | i + 1, hi =>
        obtain ⟨g1, g2, g3⟩ := hg i x C c (by simpa using hi)
        refine ⟨g1, ?_, g3⟩
        rw [show o + (i + 1) * 8 = o + 8 + i * 8 by omega]
        exact g2
def gcell (a : Nd × Option Addr × Nat) : List Value := ndCell a.1 a.2.1 a.2.2
theorem gcell_len (a : Nd × Option Addr × Nat) : (gcell a).length = 8 := rfl
theorem gcells_len : ∀ gs : List (Nd × Option Addr × Nat), (gs.flatMap gcell).length = gs.length * 8
  | [] => rfl
  | a :: l => by
    rw [List.flatMap_cons, List.length_append, gcells_len l, gcell_len, List.length_cons]
    omega
theorem gcells_get : ∀ (gs : List (Nd × Option Addr × Nat)) (i : Nat) (a : Nd × Option Addr × Nat), gs[i]? = some a → ∀ j, j < 8 → (gs.flatMap gcell)[i * 8 + j]? = (gcell a)[j]?
  | [], i, a, h, _, _ => by simp at h
  | x :: l, 0, a, h, j, hj => by
    simp at h
    subst h
    rw [List.flatMap_cons, Nat.zero_mul, Nat.zero_add, List.getElem?_append_left (by rw [gcell_len]; exact hj)]
  | x :: l, i + 1, a, h, j, hj => by
    rw [List.flatMap_cons, List.getElem?_append_right (by rw [gcell_len]; omega), gcell_len, show (i + 1) * 8 + j - 8 = i * 8 + j by omega]
    exact gcells_get l i a (by simpa using h) j hj
theorem gcells_one (gs : List (Nd × Option Addr × Nat)) : ∀ u ∈ gs.flatMap gcell, u.oneCell' = true := by
  intro u hu
  obtain ⟨a, _, ha⟩ := List.mem_flatMap.1 hu
  simp only [gcell, ndCell, List.mem_cons, List.not_mem_nil, or_false] at ha
  rcases ha with rfl | rfl | rfl | rfl | rfl | rfl | rfl | rfl <;> rfl
theorem addr_plusR (b o j : Nat) : (⟨b, o, none⟩ : Addr).add j = ⟨b, o + j, none⟩ := by unfold Addr.add; split <;> simp_all
theorem gcells_at {w : World} {P : Nat → Prop} {gs : List (Nd × Option Addr × Nat)} {b o : Nat} (h : GroupsAt w P gs b o) : ∀ j u, (gs.flatMap gcell)[j]? = some u → w.cell? ((⟨b, o, none⟩ : Addr).add j) = some u := by
  intro j u hu
  have hlt : j < gs.length * 8 := by
    have := (List.getElem?_eq_some_iff.1 hu).1
    rwa [gcells_len] at this
  obtain ⟨a, ha⟩ : ∃ a, gs[j / 8]? = some a := ⟨_, List.getElem?_eq_getElem (by omega)⟩
  have hg := gcells_get gs (j / 8) a ha (j % 8) (by omega)
  rw [show j / 8 * 8 + j % 8 = j by omega, hu] at hg
  obtain ⟨x, B, c⟩ := a
  obtain ⟨_, hn, _⟩ := h _ _ _ _ ha
  rw [addr_plusR]
  have e : o + j = o + j / 8 * 8 + j % 8 := by omega
  rw [e]
  have h8 : j % 8 < 8 := by omega
  generalize j % 8 = c8 at *
  unfold gcell ndCell at hg
  match c8, h8 with
  | 0, _ => exact hn.1.trans hg.symm
  | 1, _ => exact hn.2.1.trans hg.symm
  | 2, _ => exact hn.2.2.1.trans hg.symm
  | 3, _ => exact hn.2.2.2.1.trans hg.symm
  | 4, _ => exact hn.2.2.2.2.1.trans hg.symm
  | 5, _ => exact hn.2.2.2.2.2.1.trans hg.symm
  | 6, _ => exact hn.2.2.2.2.2.2.1.trans hg.symm
  | 7, _ => exact hn.2.2.2.2.2.2.2.trans hg.symm
/-- A row that holds groups is ready to be turned. -/
theorem rev_start {w : World} {base g cap : Nat} {gs : List (Nd × Option Addr × Nat)} (h : w.ownsRow base 39 8 (.slice (some ⟨g, 0, none⟩) gs.length cap) gs.length (gs.flatMap gcell)) : RevN w g gs 0 w := by
  rcases h.2 with ⟨h0, _⟩ | ⟨g', cap', cur, hv, _, hb, hle, _, hsz, htk⟩
  · cases h0
  · obtain ⟨⟨rfl⟩, _, rfl⟩ := Value.slice.inj hv
    refine ⟨cur, hb, by rw [hsz]; exact Nat.mul_le_mul_right 8 hle, fun p a hp ha j hj => ?_, ⟨rfl, rfl, rfl, Nat.le_refl _, fun _ _ _ => rfl⟩⟩
    rw [revAt_zero gs hp] at ha
    have := gcells_get gs p a ha j hj
    rw [← htk, List.getElem?_take, if_pos (by omega)] at this
    have h2 : cur[p * 8 + j]? = cur.toList[p * 8 + j]? := by simp
    exact h2.trans this
/-- Turned whole, it holds the trees the other way round. -/
theorem rev_trees {w0 w : World} {g i : Nat} {gs : List (Nd × Option Addr × Nat)} {P : Nat → Prop} {F : Trees} (h : RevN w0 g gs i w) (hi : ¬ i < gs.length - 1 - i) (hm : gs.map (·.1) = F.list) (hk : ∀ x B c, (x, B, c) ∈ gs → x.kids.len ≤ c ∧ TreesAt w0 (fun b => P b ∧ b ≠ g) x.kids B) (hg : P g) : TreesAt w P (Trees.of F.list.reverse) (some ⟨g, 0, none⟩) := by
  obtain ⟨cur, h1, h2, h3, h4⟩ := h
  refine TreesAt.mk hg fun p x hx => ?_
  rw [Trees.list_of, ← hm, ← List.map_reverse, List.getElem?_map] at hx
  obtain ⟨⟨y, B, c⟩, hy, rfl⟩ := Option.map_eq_some_iff.1 hx
  have hp : p < gs.length := by have := (List.getElem?_eq_some_iff.1 hy).1; simpa using this
  have hc := h3 p _ hp ((revAt_done gs hp hi).trans hy)
  obtain ⟨k1, k2⟩ := hk y B c (List.mem_reverse.1 (List.mem_of_getElem? hy))
  have hat : ∀ j u, j < 8 → (ndCell y B c)[j]? = some u → w.cell? ⟨g, 0 + p * 8 + j, none⟩ = some u := fun j u hj hu => by
    rw [Nat.zero_add]
    exact (h1.cell (p * 8 + j)).trans ((hc j hj).trans hu)
  exact ⟨B, c, k1, ⟨hat 0 _ (by decide) rfl, hat 1 _ (by decide) rfl, hat 2 _ (by decide) rfl, hat 3 _ (by decide) rfl, hat 4 _ (by decide) rfl, hat 5 _ (by decide) rfl, hat 6 _ (by decide) rfl, hat 7 _ (by decide) rfl⟩,
    k2.keep (fun b o hb hl => World.cell?_of_block (h4.block b hl (fun e => hb.2 (Option.some.inj e)))) (fun b hb _ => hb.1)⟩
set_option maxHeartbeats 2000000 in
theorem revn_nil (w : World) : Calls Tryz.prog 126 #[.slice none 0 0] w fun e w' => e = .returned (.tuple #[]) ∧ w' = w := by
  go_enter Tryz.func126, Tryz.ntmps126
  go_wp2
  go_loopw [2, 3] (fun a b wr => a = .int .i64 0 ∧ b = .int .i64 (-1) ∧ wr = w) (fun _ _ _ => 0)
  case atStart => exact ⟨rfl, rfl, rfl⟩
  case round =>
    obtain ⟨rfl, rfl, rfl⟩ := hrel
    go_wp2
    go_light
    go_end0
    exact ⟨rfl, rfl⟩
/-- slices.Clone at nodes. -/
theorem clone_go (F : Trees) (P : Nat → Prop) (A : Option Addr) (cap : Nat) (w : World) (ht : TreesAt w P F A) (hl : 0 < F.len) (hl2 : F.len ≤ 2000000) :
    Calls Tryz.prog 125 #[.slice A F.len cap] w fun e w' => ∃ (g cap' : Nat) (gs : List (Nd × Option Addr × Nat)), e = .returned (.slice (some ⟨g, 0, none⟩) F.len cap') ∧ Below w.heap.size w w' ∧ w.heap.size ≤ g ∧ gs.map (·.1) = F.list ∧ F.len ≤ cap' ∧
      w'.ownsRow w.heap.size 39 8 (.slice (some ⟨g, 0, none⟩) gs.length cap') gs.length (gs.flatMap gcell) ∧ ∀ x B c, (x, B, c) ∈ gs → x.kids.len ≤ c ∧ TreesAt w' (fun b => P b ∧ b < w.heap.size) x.kids B := by
  obtain ⟨b, o, gs, rfl, hPb, hm, hg⟩ := groups_of ht hl
  have hgl : gs.length = F.len := by rw [← F.len_list, ← hm, List.length_map]
  have hB1 : Below w.heap.size w (w.alloc (.cells #[] 39)) := (Below.refl _ _).alloc (Nat.le_refl _) _
  obtain ⟨i0, hi, hz0, hz1, hz2⟩ := info_parts info_nd
  have hg1 : GroupsAt (w.alloc (.cells #[] 39)) P gs b o := fun i x B c h => by
    obtain ⟨k1, k2, k3⟩ := hg i x B c h
    have hbl := World.block_lt_of_cell? w _ k2.1
    exact ⟨k1, k2.keep (fun o' => hB1.cell (p := ⟨b, o', none⟩) hbl), k3.below hB1⟩
  obtain ⟨v', w', hr, hown, hgrow, _, hblk⟩ := run_append_own_at (P := Tryz.prog) (w.alloc (.cells #[] 39)) w.heap.size 37 37 39 i0 _ 8 80 Tryz.underlying37 hi hz0 hz1 hz2 rfl (by decide) (.slice (some ⟨w.heap.size, 0, none⟩) 0 0) 0 [] (World.ownsRow_made w #[] 0 (Nat.le_refl _) (Nat.zero_le _) rfl) ⟨b, o, none⟩ F.len cap (gs.flatMap gcell) (by rw [gcells_len, hgl]) (gcells_at hg1) (gcells_one gs) (by unfold maxLen; omega) (by omega) (by simp)
  have q26 : ∀ (w : World) (a : Option Addr) (n c n' c' : Nat), (binOp .eql 37 (.slice a n c) (.slice none n' c')).run Tryz.prog w = .ok (.bool a.isNone) w := fun w a n c n' c' => Lib.run_eql_slice_nil w _ _ a n c n' c' Tryz.underlying37
  have HR := Lib.hid hr
  have hB2 : Below w.heap.size w w' := hB1.grown hgrow (by simp) (fun k hk => by simp [Value.ownBlock] at hk; omega)
  have HQ := Lib.hid (show _ ∧ _ ∧ _ ∧ _ from ⟨hm, hg, hown, hB2⟩)
  clear hg1 hr hown hgrow hblk hB1 hg hm ht hB2
  go_enter Tryz.func125, Tryz.ntmps125
  go_wp2_with (at_builtin; refine wpList_append_by (by rfl) _ _ _ _ rfl _ _ _ _ rfl rfl HR.out ?_)
  go_light
  go_ret
  obtain ⟨hm, hg, hown, hB2⟩ := HQ.out
  rw [Nat.zero_add, List.nil_append, ← hgl] at hown
  obtain ⟨g, cap', hv, hge, _⟩ := own_form hown (by omega)
  subst hv
  refine ⟨g, cap', gs, by show Ending.returned (.slice (some ⟨g, 0, none⟩) gs.length cap') = _; rw [hgl], hB2, hge, hm, ?_, hown, fun x B c hx => ?_⟩
  · rcases hown.2 with ⟨h0, _⟩ | ⟨g', c', cur, hv, _, _, hle, _⟩
    · cases h0
    · cases hv; omega
  · obtain ⟨i, hi'⟩ := List.getElem?_of_mem hx
    obtain ⟨k1, _, k3⟩ := hg i x B c hi'
    exact ⟨k1, (k3.weak (Q := fun b => P b ∧ b < w.heap.size) (fun b hb hl => ⟨hb, hl⟩)).below hB2⟩
theorem clone_nil (w : World) : Calls Tryz.prog 125 #[.slice none 0 0] w fun e w' => e = .returned (.slice none 0 0) ∧ w' = w := by
  have q26 : ∀ (w : World) (a : Option Addr) (n c n' c' : Nat), (binOp .eql 37 (.slice a n c) (.slice none n' c')).run Tryz.prog w = .ok (.bool a.isNone) w := fun w a n c n' c' => Lib.run_eql_slice_nil w _ _ a n c n' c' Tryz.underlying37
  go_enter Tryz.func125, Tryz.ntmps125
  go_wp2
  go_light
  go_ret
  exact ⟨rfl, rfl⟩
/-- mirror.turned at nodes. -/
theorem turned_go (F : Trees) (P : Nat → Prop) (A : Option Addr) (cap : Nat) (w : World) (ht : TreesAt w P F A) (hl2 : F.len ≤ 2000000) (hn : F.len = 0 → A = none ∧ cap = 0) :
    Calls Tryz.prog 93 #[.slice A F.len cap] w fun e w' => ∃ A' cap', e = .returned (.slice A' F.len cap') ∧ Below w.heap.size w w' ∧ F.len ≤ cap' ∧ TreesAt w' (fun b => (P b ∧ b < w.heap.size) ∨ w.heap.size ≤ b) (Trees.of F.list.reverse) A' := by
  rcases Nat.eq_zero_or_pos F.len with h0 | h0
  · obtain ⟨rfl, rfl⟩ := hn h0
    have hF : F.list.reverse = [] := by
      have : F.list.length = 0 := by rw [F.len_list]; exact h0
      rw [List.length_eq_zero_iff.1 this]
      rfl
    have HF := Lib.hid hF
    have H0 := Lib.hid h0
    rw [h0]
    clear ht hn h0 hF
    go_enter Tryz.func93, Tryz.ntmps93
    go_wp2_with fail
    refine (clone_nil w).mono ?_
    rintro e w1 ⟨rfl, rfl⟩
    dsimp only
    go_wp2_with fail
    refine (revn_nil _).mono ?_
    rintro e w2 ⟨rfl, rfl⟩
    dsimp only
    go_wp2
    go_light
    go_ret
    exact ⟨none, 0, rfl, Below.refl _ _, Nat.le_refl _, by rw [HF.out]; trivial⟩
  · have HC := Lib.hid (clone_go F P A cap w ht h0 hl2)
    clear ht hn
    go_enter Tryz.func93, Tryz.ntmps93
    go_wp2_with fail
    refine HC.out.mono ?_
    rintro e w1 ⟨g, cap', gs, rfl, hb1, hg, hm, hcap, hown, hk⟩
    have hgl : gs.length = F.len := by rw [← F.len_list, ← hm, List.length_map]
    have hR := revn_go g cap' gs w1 (rev_start hown) (by omega)
    rw [hgl] at hR
    have HR := Lib.hid hR
    have HQ := Lib.hid (show _ ∧ _ ∧ _ ∧ _ ∧ _ from ⟨hb1, hg, hm, hcap, hk⟩)
    clear hb1 hg hm hcap hown hk hR HC hgl
    dsimp only
    go_wp2_with fail
    refine HR.out.mono ?_
    rintro e w2 ⟨rfl, i, hrev, hi⟩
    have HV := Lib.hid (show _ ∧ _ from ⟨hrev, hi⟩)
    clear hrev hi HR
    dsimp only
    go_wp2
    go_light
    go_ret
    obtain ⟨hb1, hg, hm, hcap, hk⟩ := HQ.out
    obtain ⟨hrev, hi⟩ := HV.out
    have hgr : w1.grownBy w2 (some g) := by obtain ⟨_, _, _, _, h4⟩ := hrev; exact h4
    have hgl : gs.length = F.len := by rw [← F.len_list, ← hm, List.length_map]
    refine ⟨_, cap', rfl, hb1.grown hgr hb1.size (fun k e => by have := Option.some.inj e; omega), hcap, ?_⟩
    exact rev_trees hrev (by rw [hgl]; exact hi) hm (fun x B c hx => ⟨(hk x B c hx).1, (hk x B c hx).2.keep (fun _ _ _ _ => rfl) (fun b hb _ => ⟨.inl hb, by omega⟩)⟩) (.inr hg)
end Go.Proofs.YtffkppoidollnaaGreatDoor
