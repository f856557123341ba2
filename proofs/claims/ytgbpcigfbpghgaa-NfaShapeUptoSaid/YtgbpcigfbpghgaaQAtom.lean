/-
  The contract of the parser's atom.
-/
import Derived.Test.YtgbpcigfbpghgaaQGroup
namespace Go.Proofs.Ytgbpcigfbpghgaa
open Go.RowKit
set_option linter.unusedSimpArgs false
set_option linter.unusedVariables false
set_option maxRecDepth 100000

theorem ret_atom {fn : Func} {t2 t3 : Tmp} (h : fn.results = #[.cell t2 37, .tmp t3]) {tmps : Array Value} {w : World} {g : Nat} {a0 a1 a2 a3 a4 a5 a6 a7 c : Value}
    (hp : tmps.getD t2 undef = .pointer (some ⟨g, 0, none⟩)) (hc : tmps.getD t3 undef = c) (hb : Blk w g 37 #[a0, a1, a2, a3, a4, a5, a6, a7]) :
    (results fn tmps).run Try.prog w = .ok (.tuple #[.agg #[a0, a1, a2, a3, a4, a5, a6, a7], c]) w := by
  have h1 := run_loadVar_row (P := Try.prog) w g 37 37 #[a0, a1, a2, a3, a4, a5, a6, a7] (0, 0) _ hb Try.underlying37 rfl (by kernel_rfl)
  simp only [results, h]
  simp only [Array.getD_eq_getD_getElem?] at hp hc
  simp [Sem.run_bind, hp, hc, asAddr, h1, Result.andThen]

set_option maxHeartbeats 4000000 in
theorem atom_nil (n p : Nat) (op : List Int) (W : World) (v : Value) (hP : PAt W p v [] op.length) :
    Calls Try.prog 113 #[.pointer (some ⟨p, 0, none⟩)] W (GivesO p op.length v (atomG (n + 1) op []) W) := by
  rw [atomG_nil]
  have hp := hP.lt
  have hv : ∀ g, (v : Value).ownBlock = some g → g < W.heap.size := by
    obtain ⟨_, _, _, _, _, _, hr⟩ := hP
    exact fun g e => (hr.lt g e).2
  have hb1 : Below W.heap.size W (W.alloc (.cells #[.int .i64 0, .int .u64 0, .int .u64 0, .int .u64 0, .int .u64 0, .slice none 0 0, .int .i64 0, .int .i64 0] 37)) := (Below.refl W.heap.size W).alloc (Nat.le_refl _) _
  have HP := Lib.hid (hP.below hb1)
  have HZ := Lib.hid (zr_new hp hv)
  have HS := Lib.hid (Still.of_below (p := p) (v := v) hb1 (Nat.le_of_lt hp))
  clear hP hb1 hv

  go_enter Try.func113, Try.ntmps113
  go_wp2_with fail
  refine (peek_nil HP.out).mono ?_
  rintro e w1 ⟨rfl, hw1⟩
  subst hw1
  dsimp only
  go_wp2
  go_light
  exact bodyPost_ret (ret_atom Try.results113 rfl rfl HZ.out.1) rfl ⟨v, rfl, HP.out, HS.out⟩
set_option maxHeartbeats 4000000 in
theorem atom_stop (n p : Nat) (op : List Int) (y : Lex) (L : List Lex) (W : World) (v : Value) (hP : PAt W p v (y :: L) op.length) (hlen : (y :: L).length ≤ 100000) (h1 : y.kind ≠ 1) (h2 : y.kind ≠ 2) (h5 : isPost y.kind = false) (h3 : ¬ (y.kind = 3 ∧ op.length = 0)) :
    Calls Try.prog 113 #[.pointer (some ⟨p, 0, none⟩)] W (GivesO p op.length v (atomG (n + 1) op (y :: L)) W) := by
  rw [atomG_stop h1 h2 h5 h3]
  have h5' : ¬ (5 ≤ y.kind ∧ y.kind ≤ 8) := fun h => by rw [(isPost_iff _).2 h] at h5; cases h5
  have k1 : (y.kind == 1) = false := by simp; omega
  have k2 : (y.kind == 2) = false := by simp; omega
  have k5 : (y.kind == 5) = false := by simp; omega
  have k6 : (y.kind == 6) = false := by simp; omega
  have k7 : (y.kind == 7) = false := by simp; omega
  have k8 : (y.kind == 8) = false := by simp; omega
  simp only [List.length_cons] at hlen
  obtain ⟨Av, cv, hva⟩ : ∃ A c, v = .slice A op.length c := by
    obtain ⟨_, _, _, _, _, _, hr⟩ := hP
    exact own_slice hr
  subst hva
  have hp := hP.lt
  have hv : ∀ g, (.slice Av op.length cv : Value).ownBlock = some g → g < W.heap.size := by
    obtain ⟨_, _, _, _, _, _, hr⟩ := hP
    exact fun g e => (hr.lt g e).2
  have hb1 : Below W.heap.size W (W.alloc (.cells #[.int .i64 0, .int .u64 0, .int .u64 0, .int .u64 0, .int .u64 0, .slice none 0 0, .int .i64 0, .int .i64 0] 37)) := (Below.refl W.heap.size W).alloc (Nat.le_refl _) _
  have HP := Lib.hid (hP.below hb1)
  have HZ := Lib.hid (zr_new hp hv)
  have HS := Lib.hid (Still.of_below (p := p) (v := .slice Av op.length cv) hb1 (Nat.le_of_lt hp))
  clear hP hb1 hv

  obtain ⟨_, _, _, hb, _⟩ := HP.out
  have q1 : (W.alloc (.cells #[.int .i64 0, .int .u64 0, .int .u64 0, .int .u64 0, .int .u64 0, .slice none 0 0, .int .i64 0, .int .i64 0] 37)).cell? ⟨p, 1, none⟩ = some (.slice Av op.length cv) := hb.cell 1
  clear hb
  have HS := Lib.hid HS.out
  by_cases e3 : y.kind = 3
  · have h0 : ((op.length : Int) == 0) = false := by rw [beq_eq_false_iff_ne]; omega
    have k3 : (y.kind == 3) = true := by simp; omega
    clear h3
    go_enter Try.func113, Try.ntmps113
    go_wp2_with fail
    refine (peek_go HP.out (by omega)).mono ?_
    rintro e w1 ⟨rfl, hw1⟩
    subst hw1
    dsimp only
    go_wp2
    go_light
    exact bodyPost_ret (ret_atom Try.results113 rfl rfl HZ.out.1) rfl ⟨_, rfl, HP.out, HS.out⟩
  · have k3 : (y.kind == 3) = false := by simp; omega
    clear h3
    go_enter Try.func113, Try.ntmps113
    go_wp2_with fail
    refine (peek_go HP.out (by omega)).mono ?_
    rintro e w1 ⟨rfl, hw1⟩
    subst hw1
    dsimp only
    go_wp2
    go_light
    exact bodyPost_ret (ret_atom Try.results113 rfl rfl HZ.out.1) rfl ⟨_, rfl, HP.out, HS.out⟩

set_option maxHeartbeats 4000000 in
theorem atom_post (n p : Nat) (op : List Int) (y : Lex) (L : List Lex) (W : World) (v : Value) (hP : PAt W p v (y :: L) op.length) (hlen : (y :: L).length ≤ 100000) (h5 : isPost y.kind = true) :
    Calls Try.prog 113 #[.pointer (some ⟨p, 0, none⟩)] W (GivesO p op.length v (atomG (n + 1) op (y :: L)) W) := by
  rw [atomG_post h5]
  have h5' := (isPost_iff _).1 h5
  have hk : y.kind = 5 ∨ y.kind = 6 ∨ y.kind = 7 ∨ y.kind = 8 := by omega
  clear h5 h5'
  simp only [List.length_cons] at hlen
  have hz3 : (0 : Int) < (L.length : Int) + 1 := by omega
  have hp := hP.lt
  have hv : ∀ g, (v : Value).ownBlock = some g → g < W.heap.size := by
    obtain ⟨_, _, _, _, _, _, hr⟩ := hP
    exact fun g e => (hr.lt g e).2
  have hb1 : Below W.heap.size W (W.alloc (.cells #[.int .i64 0, .int .u64 0, .int .u64 0, .int .u64 0, .int .u64 0, .slice none 0 0, .int .i64 0, .int .i64 0] 37)) := (Below.refl W.heap.size W).alloc (Nat.le_refl _) _
  have HP := Lib.hid (hP.below hb1)
  have HZ := Lib.hid (zr_new hp hv)
  have HS := Lib.hid (Still.of_below (p := p) (v := v) hb1 (Nat.le_of_lt hp))
  clear hP hb1 hv

  obtain ⟨A, cap, xs, hb, hc, hl, _⟩ := HP.out
  obtain ⟨b, o, rfl, hbp, ⟨c0, c1, _⟩, _⟩ := hl.cons
  have q0 : (W.alloc (.cells #[.int .i64 0, .int .u64 0, .int .u64 0, .int .u64 0, .int .u64 0, .slice none 0 0, .int .i64 0, .int .i64 0] 37)).cell? ⟨p, 0, none⟩ = some (.slice (some ⟨b, o, none⟩) (L.length + 1) cap) := hb.cell 0
  clear hb hl c0 hc
  rcases hk with hk | hk | hk | hk
  all_goals
    go_enter Try.func113, Try.ntmps113
    go_wp2_with fail
    refine (peek_go HP.out (by omega)).mono ?_
    rintro e w1 ⟨rfl, hw1⟩
    subst hw1
    rw [hk]
    dsimp only
    go_wp2_with fail
    refine (fail_any _ _ _).mono ?_
    rintro e w8 ⟨rfl, hw8⟩
    subst hw8
    dsimp only
    go_wp2
    exact ⟨rfl, rfl, HS.out.1⟩
set_option maxHeartbeats 4000000 in
theorem atom_lone (n p : Nat) (op : List Int) (y : Lex) (L : List Lex) (W : World) (v : Value) (hP : PAt W p v (y :: L) op.length) (hlen : (y :: L).length ≤ 100000) (h3 : y.kind = 3) (h0 : op.length = 0) :
    Calls Try.prog 113 #[.pointer (some ⟨p, 0, none⟩)] W (GivesO p op.length v (atomG (n + 1) op (y :: L)) W) := by
  rw [atomG_lone h3 h0]
  simp only [List.length_cons] at hlen
  have hz3 : (0 : Int) < (L.length : Int) + 1 := by omega
  have hd : ((op.length : Int) == 0) = true := by rw [beq_iff_eq]; omega
  obtain ⟨Av, cv, hva⟩ : ∃ A c, v = .slice A op.length c := by
    obtain ⟨_, _, _, _, _, _, hr⟩ := hP
    exact own_slice hr
  subst hva
  have hp := hP.lt
  have hv : ∀ g, (.slice Av op.length cv : Value).ownBlock = some g → g < W.heap.size := by
    obtain ⟨_, _, _, _, _, _, hr⟩ := hP
    exact fun g e => (hr.lt g e).2
  have hb1 : Below W.heap.size W (W.alloc (.cells #[.int .i64 0, .int .u64 0, .int .u64 0, .int .u64 0, .int .u64 0, .slice none 0 0, .int .i64 0, .int .i64 0] 37)) := (Below.refl W.heap.size W).alloc (Nat.le_refl _) _
  have HP := Lib.hid (hP.below hb1)
  have HZ := Lib.hid (zr_new hp hv)
  have HS := Lib.hid (Still.of_below (p := p) (v := .slice Av op.length cv) hb1 (Nat.le_of_lt hp))
  clear hP hb1 hv

  obtain ⟨A, cap, xs, hb, hc, hl, _⟩ := HP.out
  obtain ⟨b, o, rfl, hbp, ⟨c0, c1, _⟩, _⟩ := hl.cons
  have q0 : (W.alloc (.cells #[.int .i64 0, .int .u64 0, .int .u64 0, .int .u64 0, .int .u64 0, .slice none 0 0, .int .i64 0, .int .i64 0] 37)).cell? ⟨p, 0, none⟩ = some (.slice (some ⟨b, o, none⟩) (L.length + 1) cap) := hb.cell 0
  have q1 : (W.alloc (.cells #[.int .i64 0, .int .u64 0, .int .u64 0, .int .u64 0, .int .u64 0, .slice none 0 0, .int .i64 0, .int .i64 0] 37)).cell? ⟨p, 1, none⟩ = some (.slice Av op.length cv) := hb.cell 1
  clear hb hl c0 hc h0
  go_enter Try.func113, Try.ntmps113
  go_wp2_with fail
  refine (peek_go HP.out (by omega)).mono ?_
  rintro e w1 ⟨rfl, hw1⟩
  subst hw1
  rw [h3]
  dsimp only
  go_wp2_with fail
  refine (fail_any _ _ _).mono ?_
  rintro e w8 ⟨rfl, hw8⟩
  subst hw8
  dsimp only
  go_wp2
  exact ⟨rfl, rfl, HS.out.1⟩
set_option maxHeartbeats 4000000 in
theorem atom_set (n p : Nat) (op : List Int) (y : Lex) (L : List Lex) (W : World) (v : Value) (hP : PAt W p v (y :: L) op.length) (hlen : (y :: L).length ≤ 100000) (h1 : y.kind = 1) :
    Calls Try.prog 113 #[.pointer (some ⟨p, 0, none⟩)] W (GivesO p op.length v (atomG (n + 1) op (y :: L)) W) := by
  rw [atomG_set h1]
  simp only [List.length_cons] at hlen
  have hp := hP.lt
  have hv : ∀ g, (v : Value).ownBlock = some g → g < W.heap.size := by
    obtain ⟨_, _, _, _, _, _, hr⟩ := hP
    exact fun g e => (hr.lt g e).2
  have hb1 : Below W.heap.size W (W.alloc (.cells #[.int .i64 0, .int .u64 0, .int .u64 0, .int .u64 0, .int .u64 0, .slice none 0 0, .int .i64 0, .int .i64 0] 37)) := (Below.refl W.heap.size W).alloc (Nat.le_refl _) _
  have HP := Lib.hid (hP.below hb1)
  have HZ := Lib.hid (zr_new hp hv)
  have HS := Lib.hid (Still.of_below (p := p) (v := v) hb1 (Nat.le_of_lt hp))
  clear hP hb1 hv

  have HN := Lib.hid (next_any HP.out (by omega))
  go_enter Try.func113, Try.ntmps113
  go_wp2_with fail
  refine (peek_go HP.out (by omega)).mono ?_
  rintro e w1 ⟨rfl, hw1⟩
  subst hw1
  rw [h1]
  dsimp only
  go_wp2_with fail
  refine HN.out.mono ?_
  rintro e w2 ⟨rfl, hP2, hS2⟩
  have HZ2 := Lib.hid (HZ.out.still hS2)
  have HS2 := Lib.hid (HS.out.trans hS2)
  have HP2 := Lib.hid hP2
  clear hP2 hS2 HN HP HS HZ
  unfold lexV
  dsimp only
  go_wp2_with fail
  refine (tbytes_any y.set _).mono ?_
  rintro e w3 ⟨rfl, hb3⟩
  have hZ3 := HZ2.out.below hb3
  have HP3 := Lib.hid (HP2.out.below hb3)
  have HS3 := Lib.hid (HS2.out.more hb3 (Nat.le_of_lt hp))
  have hX := hZ3.1
  have y0 : w3.cell? ⟨W.heap.size, 0, none⟩ = some (.int .i64 0) := hX.cell 0
  have y1 : w3.cell? ⟨W.heap.size, 1, none⟩ = some (.int .u64 0) := hX.cell 1
  have y2 : w3.cell? ⟨W.heap.size, 2, none⟩ = some (.int .u64 0) := hX.cell 2
  have y3 : w3.cell? ⟨W.heap.size, 3, none⟩ = some (.int .u64 0) := hX.cell 3
  have y4 : w3.cell? ⟨W.heap.size, 4, none⟩ = some (.int .u64 0) := hX.cell 4
  have y5 : w3.cell? ⟨W.heap.size, 5, none⟩ = some (.slice none 0 0) := hX.cell 5
  have y6 : w3.cell? ⟨W.heap.size, 6, none⟩ = some (.int .i64 0) := hX.cell 6
  have y7 : w3.cell? ⟨W.heap.size, 7, none⟩ = some (.int .i64 0) := hX.cell 7
  have z0 := hX.frozen 0
  have z1 := hX.frozen 1
  have z2 := hX.frozen 2
  have z3 := hX.frozen 3
  have z4 := hX.frozen 4
  have z5 := hX.frozen 5
  have z6 := hX.frozen 6
  have z7 := hX.frozen 7
  have HZ3 := Lib.hid hZ3
  clear hb3 hZ3 hX
  have hv3 : ndV (leafN (maskOf y.set)) none 0 = .agg #[.int .i64 3, .int .u64 ((word ((maskOf y.set).testBit) 0 : Nat) : Int), .int .u64 ((word ((maskOf y.set).testBit) 1 : Nat) : Int), .int .u64 ((word ((maskOf y.set).testBit) 2 : Nat) : Int), .int .u64 ((word ((maskOf y.set).testBit) 3 : Nat) : Int), .slice none 0 0, .int .i64 0, .int .i64 0] := rfl
  rw [hv3]
  clear hv3
  dsimp only
  go_wp2
  go_light
  have hF := filled (x := leafN (maskOf y.set)) (B := none) (cap := 0) HP3.out HS3.out HZ3.out rfl hp trivial rfl
  exact bodyPost_ret (ret_atom Try.results113 rfl rfl hF.1) rfl ⟨v, none, 0, rfl, hF.2.1, hF.2.2.1, Nat.le_refl _, trivial⟩
set_option maxHeartbeats 4000000 in
theorem atom_open (n p : Nat) (op : List Int) (y : Lex) (L : List Lex) (W : World) (v : Value) (hA : AltC n) (hP : PAt W p v (y :: L) op.length) (hlen : (y :: L).length ≤ 100000) (h2 : y.kind = 2) (h64 : op.length ≤ 64) (hn : 3 * (y :: L).length < n + 1) :
    Calls Try.prog 113 #[.pointer (some ⟨p, 0, none⟩)] W (GivesO p op.length v (atomG (n + 1) op (y :: L)) W) := by
  have hlen' := hlen
  simp only [List.length_cons] at hlen'
  have hp := hP.lt
  have hv : ∀ g, (v : Value).ownBlock = some g → g < W.heap.size := by
    obtain ⟨_, _, _, _, _, _, hr⟩ := hP
    exact fun g e => (hr.lt g e).2
  have hb1 : Below W.heap.size W (W.alloc (.cells #[.int .i64 0, .int .u64 0, .int .u64 0, .int .u64 0, .int .u64 0, .slice none 0 0, .int .i64 0, .int .i64 0] 37)) := (Below.refl W.heap.size W).alloc (Nat.le_refl _) _
  have HP := Lib.hid (hP.below hb1)
  have HZ := Lib.hid (zr_new hp hv)
  have HS := Lib.hid (Still.of_below (p := p) (v := v) hb1 (Nat.le_of_lt hp))
  clear hP hb1 hv

  have HG : Hid (Calls Try.prog 123 #[.pointer (some ⟨p, 0, none⟩)] (W.alloc (.cells #[.int .i64 0, .int .u64 0, .int .u64 0, .int .u64 0, .int .u64 0, .slice none 0 0, .int .i64 0, .int .i64 0] 37)) (GivesG p op.length v (atomG (n + 1) op (y :: L)) (W.alloc (.cells #[.int .i64 0, .int .u64 0, .int .u64 0, .int .u64 0, .int .u64 0, .slice none 0 0, .int .i64 0, .int .i64 0] 37)))) := Lib.hid (by
    by_cases h : op.length = 64
    · exact group_deep n p op y L _ v HP.out hlen h2 h
    · exact group_go n p op y L _ v hA HP.out hlen h2 (by omega) hn)
  have hs1 : (W.alloc (.cells #[.int .i64 0, .int .u64 0, .int .u64 0, .int .u64 0, .int .u64 0, .slice none 0 0, .int .i64 0, .int .i64 0] 37)).heap.size = W.heap.size + 1 := by simp
  have Hs1 := Lib.hid hs1
  clear hs1
  generalize hr : atomG (n + 1) op (y :: L) = r at *
  clear hr
  go_enter Try.func113, Try.ntmps113
  go_wp2_with fail
  refine (peek_go HP.out (by omega)).mono ?_
  rintro e w1 ⟨rfl, hw1⟩
  subst hw1
  rw [h2]
  dsimp only
  go_wp2_with fail
  refine HG.out.mono ?_
  match r with
  | .error x =>
    rintro e w3 ⟨rfl, hb3⟩
    dsimp only
    go_wp2
    exact ⟨rfl, rfl, HS.out.1.trans hb3⟩
  | .ok (none, R) =>
    intro e w3 h
    exact h.elim
  | .ok (some x, R) =>
    rintro e w3 ⟨v3, B, cap, rfl, hP3, hS3, hc3, ht3⟩
    have hZ3 := HZ.out.still hS3
    have HP3 := Lib.hid hP3
    have HS3 := Lib.hid (HS.out.trans hS3)
    have HT3 := Lib.hid ht3
    have hX := hZ3.1
    have y0 : w3.cell? ⟨W.heap.size, 0, none⟩ = some (.int .i64 0) := hX.cell 0
    have y1 : w3.cell? ⟨W.heap.size, 1, none⟩ = some (.int .u64 0) := hX.cell 1
    have y2 : w3.cell? ⟨W.heap.size, 2, none⟩ = some (.int .u64 0) := hX.cell 2
    have y3 : w3.cell? ⟨W.heap.size, 3, none⟩ = some (.int .u64 0) := hX.cell 3
    have y4 : w3.cell? ⟨W.heap.size, 4, none⟩ = some (.int .u64 0) := hX.cell 4
    have y5 : w3.cell? ⟨W.heap.size, 5, none⟩ = some (.slice none 0 0) := hX.cell 5
    have y6 : w3.cell? ⟨W.heap.size, 6, none⟩ = some (.int .i64 0) := hX.cell 6
    have y7 : w3.cell? ⟨W.heap.size, 7, none⟩ = some (.int .i64 0) := hX.cell 7
    have z0 := hX.frozen 0
    have z1 := hX.frozen 1
    have z2 := hX.frozen 2
    have z3 := hX.frozen 3
    have z4 := hX.frozen 4
    have z5 := hX.frozen 5
    have z6 := hX.frozen 6
    have z7 := hX.frozen 7
    have HZ3 := Lib.hid hZ3
    clear hP3 hS3 ht3 hZ3 hX HP HG HS HZ
    unfold ndV
    dsimp only
    go_wp2
    go_light
    have hF := filled (x := x) (B := B) (cap := cap) HP3.out HS3.out HZ3.out rfl hp (HT3.out.weak (fun b hb _ => ⟨by rw [← Hs1.out]; exact hb.1, hb.2⟩)) rfl
    exact bodyPost_ret (ret_atom Try.results113 rfl rfl hF.1) rfl ⟨v3, B, cap, rfl, hF.2.1, hF.2.2.1, hc3, hF.2.2.2⟩

theorem atom_step {n : Nat} (hA : AltC n) : AtomC (n + 1) := by
  intro p op L W v hP hlen h64 hn
  match L, hP, hlen, hn with
  | [], hP, _, _ => exact atom_nil n p op W v hP
  | y :: L, hP, hlen, hn =>
    by_cases h1 : y.kind = 1
    · exact atom_set n p op y L W v hP hlen h1
    by_cases h2 : y.kind = 2
    · exact atom_open n p op y L W v hA hP hlen h2 h64 hn
    cases h5 : isPost y.kind
    · by_cases h3 : y.kind = 3 ∧ op.length = 0
      · exact atom_lone n p op y L W v hP hlen h3.1 h3.2
      · exact atom_stop n p op y L W v hP hlen h1 h2 h5 h3
    · exact atom_post n p op y L W v hP hlen h5

end Go.Proofs.Ytgbpcigfbpghgaa
