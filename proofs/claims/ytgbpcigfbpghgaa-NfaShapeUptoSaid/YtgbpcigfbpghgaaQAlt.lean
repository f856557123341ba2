/-
  The contracts of the parser's part and alternative.
-/
import Derived.Test.YtgbpcigfbpghgaaQParRow
namespace Go.Proofs.Ytgbpcigfbpghgaa
open Go.RowKit
set_option linter.unusedSimpArgs false
set_option linter.unusedVariables false
set_option maxRecDepth 100000

/-- A round of part: so far the pieces acc stand in u. -/
def InPart (N : Nat) (W : World) (v0 : Value) (p : Nat) (op : List Int) (r : Except Wrong (List Nd × List Lex)) (u : Value) (w : World) : Prop :=
  ∃ acc R n v, piecesG n op acc R = r ∧ n ≤ N ∧ acc.length + R.length ≤ 100000 ∧ 3 * R.length + 1 < n ∧ RowAt W v0 p op.length R acc u v w
theorem inPart_start {N : Nat} {W : World} {v0 : Value} {p : Nat} {op : List Int} {L : List Lex} (hP : PAt W p v0 L op.length) (hlen : L.length ≤ 100000) (hn : 3 * L.length + 1 < N) :
    InPart N W v0 p op (piecesG N op [] L) (.slice none 0 0) (W.alloc (.cells #[.int .i64 0, .int .u64 0, .int .u64 0, .int .u64 0, .int .u64 0, .slice none 0 0, .int .i64 0, .int .i64 0] 37)) := by
  have hb1 : Below W.heap.size W (W.alloc (.cells #[.int .i64 0, .int .u64 0, .int .u64 0, .int .u64 0, .int .u64 0, .slice none 0 0, .int .i64 0, .int .i64 0] 37)) := (Below.refl W.heap.size W).alloc (Nat.le_refl _) _
  have hv : ∀ g, v0.ownBlock = some g → g < W.heap.size := by
    obtain ⟨_, _, _, _, _, _, hr⟩ := hP
    exact fun g e => (hr.lt g e).2
  exact ⟨[], L, N, v0, rfl, Nat.le_refl _, by simpa using hlen, hn, hP.below hb1, Still.of_below hb1 (Nat.le_of_lt hP.lt), zr_new hP.lt hv, ⟨[], World.ownsRow_nil _ _ _ _, rfl⟩, fun g e => by simp [Value.ownBlock] at e⟩

set_option maxHeartbeats 4000000 in
theorem part_step {N : Nat} (hT : ∀ k, k < N → AtomC k) : PartC N := by
  intro p op L W v0 hP hlen h64 hn
  obtain ⟨i0, hi, hz0, hz1, hz2⟩ := info_parts info_node
  have hp := hP.lt
  have H0 := Lib.hid (inPart_start hP hlen hn)
  clear hP
  generalize hr : piecesG N op [] L = r at *
  clear hr
  go_enter Try.func100, Try.ntmps100
  go_wp2
  go_loopw [3] (fun u wr => InPart N W v0 p op r u wr) (fun _ wr => lenOf ((wr.cell? ⟨p, 0, none⟩).getD undef))
  case atStart => exact H0.out
  case round =>
    obtain ⟨acc, R, n, v, hr, hN, hal, hR, hrow⟩ := hrel
    obtain ⟨n, rfl⟩ : ∃ k, n = k + 1 := ⟨n - 1, by omega⟩
    have HA := Lib.hid (hT n (by omega) p op R wr v hrow.1 (by omega) h64 (by omega))
    have Hrow := Lib.hid hrow
    have Hr := Lib.hid hr
    clear hrow hr H0
    cases hx : atomG n op R with
    | error x =>
      have HX := Lib.hid (show r = .error x by rw [← Hr.out]; exact piecesG_bad hx)
      rw [hx] at HA
      clear hx
      go_wp2_with fail
      refine HA.out.mono ?_
      rintro e w2 ⟨rfl, hb2⟩
      go_wp2
      rw [HX.out]
      exact ⟨rfl, rfl, Hrow.out.2.1.1.trans hb2⟩
    | ok x =>
      obtain ⟨x, R2⟩ := x
      rw [hx] at HA
      cases x with
      | none =>
        have HX := Lib.hid (show r = .ok (acc, R2) by rw [← Hr.out]; exact piecesG_end hx)
        clear hx
        go_wp2_with fail
        refine HA.out.mono ?_
        rintro e w2 ⟨v2, rfl, hP2, hS2⟩
        have Hrow2 := Lib.hid (Hrow.out.still hS2 hP2)
        clear hP2 hS2 HA
        unfold zeroN
        dsimp only
        have hb3 : Below w2.heap.size w2 (w2.alloc (.cells #[.int .i64 0, .int .u64 0, .int .u64 0, .int .u64 0, .int .u64 0, .slice none 0 0, .int .i64 0, .int .i64 0] 37)) := (Below.refl _ _).alloc (Nat.le_refl _) _
        have hrow3 := Hrow2.out.below hb3
        obtain ⟨A, cu, hu, hcu, htr⟩ := hrow3.trees
        subst hu
        have Hrow3 := Lib.hid hrow3
        have HT3 := Lib.hid htr
        clear hb3 hrow3 htr Hrow2
        by_cases h0 : acc = []
        · subst h0
          go_wp2_with fail
          refine (tempty_any _).mono ?_
          rintro e w4 ⟨rfl, hb4⟩
          have hrow4 := Hrow3.out.below hb4
          have hX := hrow4.2.2.1.1
          have y0 : w4.cell? ⟨W.heap.size, 0, none⟩ = some (.int .i64 0) := hX.cell 0
          have y1 : w4.cell? ⟨W.heap.size, 1, none⟩ = some (.int .u64 0) := hX.cell 1
          have y2 : w4.cell? ⟨W.heap.size, 2, none⟩ = some (.int .u64 0) := hX.cell 2
          have y3 : w4.cell? ⟨W.heap.size, 3, none⟩ = some (.int .u64 0) := hX.cell 3
          have y4 : w4.cell? ⟨W.heap.size, 4, none⟩ = some (.int .u64 0) := hX.cell 4
          have y5 : w4.cell? ⟨W.heap.size, 5, none⟩ = some (.slice none 0 0) := hX.cell 5
          have y6 : w4.cell? ⟨W.heap.size, 6, none⟩ = some (.int .i64 0) := hX.cell 6
          have y7 : w4.cell? ⟨W.heap.size, 7, none⟩ = some (.int .i64 0) := hX.cell 7
          have z0 := hX.frozen 0
          have z1 := hX.frozen 1
          have z2 := hX.frozen 2
          have z3 := hX.frozen 3
          have z4 := hX.frozen 4
          have z5 := hX.frozen 5
          have z6 := hX.frozen 6
          have z7 := hX.frozen 7
          have Hrow4 := Lib.hid hrow4
          clear hb4 hrow4 hX
          rw [show ndV emptyN none 0 = .agg #[.int .i64 2, .int .u64 0, .int .u64 0, .int .u64 0, .int .u64 0, .slice none 0 0, .int .i64 0, .int .i64 0] from ndV_plain _ _ _ _ _ _]
          dsimp only
          go_wp2
          go_light
          have hF := filled (x := emptyN) (B := none) (cap := 0) Hrow4.out.1 Hrow4.out.2.1 Hrow4.out.2.2.1 rfl hp trivial (by unfold emptyN; simp only [word_zero]; rfl)
          rw [HX.out]
          exact bodyPost_ret (ret_node Try.results100 rfl hF.1) rfl ⟨v2, none, 0, rfl, hF.2.1, hF.2.2.1, Nat.le_refl _, trivial⟩
        · have hd : ((acc.length : Int) == 0) = false := by rw [beq_eq_false_iff_ne]; intro e; exact h0 (List.length_eq_zero_iff.1 (by omega))
          have hpn : partN acc = flatN 4 acc := by
            cases acc with
            | nil => exact absurd rfl h0
            | cons y l => rfl
          have HPN := Lib.hid hpn
          clear h0 hpn
          go_wp2_with fail
          refine (flat_go 4 _ A cu acc _ hcu HT3.out).mono ?_
          rintro e w4 ⟨B4, cap4, rfl, hb4, hc4, ht4⟩
          have hrow4 := Hrow3.out.below hb4
          have hX := hrow4.2.2.1.1
          have y0 : w4.cell? ⟨W.heap.size, 0, none⟩ = some (.int .i64 0) := hX.cell 0
          have y1 : w4.cell? ⟨W.heap.size, 1, none⟩ = some (.int .u64 0) := hX.cell 1
          have y2 : w4.cell? ⟨W.heap.size, 2, none⟩ = some (.int .u64 0) := hX.cell 2
          have y3 : w4.cell? ⟨W.heap.size, 3, none⟩ = some (.int .u64 0) := hX.cell 3
          have y4 : w4.cell? ⟨W.heap.size, 4, none⟩ = some (.int .u64 0) := hX.cell 4
          have y5 : w4.cell? ⟨W.heap.size, 5, none⟩ = some (.slice none 0 0) := hX.cell 5
          have y6 : w4.cell? ⟨W.heap.size, 6, none⟩ = some (.int .i64 0) := hX.cell 6
          have y7 : w4.cell? ⟨W.heap.size, 7, none⟩ = some (.int .i64 0) := hX.cell 7
          have z0 := hX.frozen 0
          have z1 := hX.frozen 1
          have z2 := hX.frozen 2
          have z3 := hX.frozen 3
          have z4 := hX.frozen 4
          have z5 := hX.frozen 5
          have z6 := hX.frozen 6
          have z7 := hX.frozen 7
          have Hrow4 := Lib.hid hrow4
          have HT4 := Lib.hid ht4
          clear hb4 hrow4 hX ht4
          unfold ndV
          dsimp only
          go_wp2
          go_light
          have hF := filled (x := flatN 4 acc) (B := B4) (cap := cap4) Hrow4.out.1 Hrow4.out.2.1 Hrow4.out.2.2.1 rfl hp HT4.out rfl
          rw [HX.out]
          refine bodyPost_ret (ret_node Try.results100 rfl hF.1) rfl ?_
          show ∃ v' B cap, _
          rw [HPN.out]
          exact ⟨v2, B4, cap4, rfl, hF.2.1, hF.2.2.1, hc4, hF.2.2.2⟩
      | some x =>
        have HX := Lib.hid (show piecesG n op (acc ++ [(postsG x R2).1]) (postsG x R2).2 = r by rw [← Hr.out]; exact (piecesG_go hx).symm)
        have hs := (readG_suf n).2.2 _ _ _ _ hx
        have hR2 := hs.2 (by simp)
        clear hx hs
        go_wp2_with fail
        refine HA.out.mono ?_
        rintro e w2 ⟨v2, B, cap, rfl, hP2, hS2, hc2, ht2⟩
        have hb3 : Below w2.heap.size w2 (w2.alloc (.cells (ndA x B cap) 37)) := (Below.refl _ _).alloc (Nat.le_refl _) _
        have hs3 : Still p wr v (w2.alloc (.cells (ndA x B cap) 37)) v2 := hS2.more hb3 (Nat.le_of_lt Hrow.out.1.lt)
        have HPo := Lib.hid (posts_go x B cap (hP2.below hb3) hc2 (ht2.below hb3) (n := wr.heap.size) hs3.1.size (by omega))
        have HS3 := Lib.hid hs3
        clear hP2 hS2 ht2 hb3 hs3 HA
        unfold ndV
        dsimp only
        go_wp2_with fail
        refine HPo.out.mono ?_
        rintro e w4 ⟨B4, cap4, rfl, hP4, hS4, hc4, ht4⟩
        have hrow4 := Hrow.out.still (HS3.out.trans hS4) hP4
        obtain ⟨_, _, hzr, ⟨cs, hr4, hcs4⟩, _⟩ := id hrow4
        have hl := Hrow.out.own
        have hzl := Hrow.out.2.2.1.1.lt
        have hz4 := ht4.weak (Q := fun b => New (W.heap.size + 1) p v2 b ∧ some b ≠ u3.ownBlock) (fun b hb _ => ⟨⟨by have := hb.1; omega, hb.2⟩, fun e => by have := (hl b e.symm).2; have := hb.1; omega⟩)
        have hsuf := (postsG_suf R2 x).length_le
        have Hrow4 := Lib.hid hrow4
        have HR4 := Lib.hid hr4
        have HC4 := Lib.hid hcs4
        have HZ4 := Lib.hid hz4
        have HP4 := Lib.hid hP4
        have HPw := Lib.hid Hrow.out.1
        have h63 : acc.length + 1 ≤ maxLen := Nat.le_trans (by omega) (show 200000 ≤ maxLen by decide)
        have hby : (acc.length + 1) * 80 ≤ 140737488355328 := by omega
        have hWs : W.heap.size + 1 ≤ w4.heap.size := by have := hrow4.2.2.1.1.lt; omega
        clear hrow4 hr4 hcs4 hz4 hP4 hS4 ht4 hl hzl hzr HPo HS3
        generalize postsG x R2 = zr at *
        obtain ⟨z, R3⟩ := zr
        simp only at HX hc4 hsuf HP4 HZ4 Hrow4
        unfold ndV
        dsimp only
        go_wp2_with (at_builtin; refine wpList_append_lies _ rfl _ _ 35 rfl (W.heap.size + 1) 37 i0 _ 8 80 Try.underlying35 hi hz0 hz1 hz2 rfl (by decide) _ _ _ rfl (HR4.out.alloc _) ⟨w4.heap.size, 0, none⟩ 1 1 (ndCell z B4 cap4) rfl rfl (World.news_of_block (Blk.new w4 37 (ndA z B4 cap4))) (by simp [ndCell, Value.oneCell']) (by decide) h63 hby (by simp; omega) (w4.heap.size + 1) (by simp) ?_; intro gg capg w5 hown5 hgrow5 hat5 hg5; have HA5 := Lib.hid (Hrow4.out.append hp HZ4.out hc4 HC4.out hown5 hgrow5 hat5); clear hown5 hgrow5 hat5)
        go_light
        go_roundw
        case rel => exact ⟨acc ++ [z], R3, n, v2, HX.out, by omega, by simp; omega, by omega, HA5.out⟩
        case measure => rw [HA5.out.1.len, HPw.out.len]; omega

/-- A row of one node, just made. -/
theorem RowAt.first {W w : World} {v0 v : Value} {p m : Nat} {R : List Lex} {x : Nd} {B : Option Addr} {cap : Nat} (hP : PAt w p v R m) (hS : Still p W v0 w v) (hZ : Zr p W.heap.size v w) (hp : p < W.heap.size) (hc : x.kids.len ≤ cap) (ht : TreesAt w (New (W.heap.size + 1) p v) x.kids B) :
    RowAt W v0 p m R [x] (.slice (some ⟨w.heap.size, 0, none⟩) 1 1) v (w.alloc (.cells (ndA x B cap) 37)) := by
  have hb : Below w.heap.size w (w.alloc (.cells (ndA x B cap) 37)) := (Below.refl _ _).alloc (Nat.le_refl _) _
  have hW := hS.1.size
  have hzl := hZ.1.lt
  have hv : ∀ g, v.ownBlock = some g → g < w.heap.size := by
    obtain ⟨_, _, _, _, _, _, hr⟩ := hP
    exact fun g e => (hr.lt g e).2
  refine ⟨hP.below hb, hS.more hb (Nat.le_of_lt hp), hZ.below hb, ⟨ndCell x B cap, ⟨by simp [ndCell], .inr ⟨w.heap.size, 1, ndA x B cap, rfl, by omega, heap_alloc_new w _, Nat.le_refl _, by decide, by simp [ndA], by simp [ndA, ndCell]⟩⟩, ⟨B, cap, [], by simp, hc, ?_, rfl⟩⟩, fun g e => ?_⟩
  · exact (ht.weak (fun b hb hl => ⟨hb, fun e => by have := (Option.some.inj (show some b = some w.heap.size from e)); omega⟩)).below hb
  · obtain rfl : w.heap.size = g := by simpa [Value.ownBlock] using e
    exact ⟨by omega, fun e => by have := hv _ e.symm; omega⟩
/-- A round of alternative: so far the parts acc stand in u. -/
def InAlt (N : Nat) (W : World) (v0 : Value) (p : Nat) (op : List Int) (r : Except Wrong (Nd × List Lex)) (u : Value) (w : World) : Prop :=
  ∃ acc R n v, tailG n op acc R = r ∧ n ≤ N ∧ acc.length + R.length ≤ 100001 ∧ 3 * R.length ≤ n ∧ RowAt W v0 p op.length R acc u v w
set_option maxHeartbeats 4000000 in
theorem alt_step {N : Nat} (hT : ∀ k, k ≤ N → PartC k) : AltC (N + 1) := by
  intro p op L W v0 hP hlen h64 hn
  obtain ⟨i0, hi, hz0, hz1, hz2⟩ := info_parts info_node
  have hp := hP.lt
  have hv : ∀ g, v0.ownBlock = some g → g < W.heap.size := by
    obtain ⟨_, _, _, _, _, _, hr⟩ := hP
    exact fun g e => (hr.lt g e).2
  have hb1 : Below W.heap.size W (W.alloc (.cells #[.int .i64 0, .int .u64 0, .int .u64 0, .int .u64 0, .int .u64 0, .slice none 0 0, .int .i64 0, .int .i64 0] 37)) := (Below.refl W.heap.size W).alloc (Nat.le_refl _) _
  have HPa := Lib.hid (hT N (Nat.le_refl _) p op L (W.alloc (.cells #[.int .i64 0, .int .u64 0, .int .u64 0, .int .u64 0, .int .u64 0, .slice none 0 0, .int .i64 0, .int .i64 0] 37)) v0 (hP.below hb1) hlen h64 (by omega))
  have HZ := Lib.hid (zr_new hp hv)
  have HS := Lib.hid (Still.of_below (p := p) (v := v0) hb1 (Nat.le_of_lt hp))
  have HW1 := Lib.hid (show (W.alloc (.cells #[.int .i64 0, .int .u64 0, .int .u64 0, .int .u64 0, .int .u64 0, .slice none 0 0, .int .i64 0, .int .i64 0] 37)).heap.size = W.heap.size + 1 by simp)
  clear hP hv hb1
  generalize hr : altG (N + 1) op [] L = r at *
  have Hr := Lib.hid hr
  clear hr
  cases hx : piecesG N op [] L with
  | error x =>
    have HX := Lib.hid (show r = .error x by rw [← Hr.out]; exact altG_bad hx)
    rw [hx] at HPa
    clear hx
    go_enter Try.func76, Try.ntmps76
    go_wp2_with fail
    refine HPa.out.mono ?_
    rintro e w2 ⟨rfl, hb2⟩
    dsimp only
    go_wp2
    rw [HX.out]
    exact ⟨rfl, rfl, HS.out.1.trans hb2⟩
  | ok x =>
    obtain ⟨ps, R⟩ := x
    have HX := Lib.hid (show tailG N op [partN ps] R = r by rw [← Hr.out]; exact (altG_ok (acc := []) hx).symm)
    have hsuf := ((readG_suf N).2.1 _ _ _ _ _ hx).length_le
    rw [hx] at HPa
    have HPa := Lib.hid (show Calls Try.prog 100 #[.pointer (some ⟨p, 0, none⟩)] (W.alloc (.cells #[.int .i64 0, .int .u64 0, .int .u64 0, .int .u64 0, .int .u64 0, .slice none 0 0, .int .i64 0, .int .i64 0] 37)) (Gives p op.length v0 (.ok (partN ps, R)) (W.alloc (.cells #[.int .i64 0, .int .u64 0, .int .u64 0, .int .u64 0, .int .u64 0, .slice none 0 0, .int .i64 0, .int .i64 0] 37))) from HPa.out)
    clear hx Hr
    generalize partN ps = x at HX HPa
    go_enter Try.func76, Try.ntmps76
    go_wp2_with fail
    refine HPa.out.mono ?_
    rintro e w2 ⟨v2, B, cap, rfl, hP2, hS2, hc2, ht2⟩
    have H0 : Hid (InAlt N W v0 p op r (.slice (some ⟨w2.heap.size, 0, none⟩) 1 1) (w2.alloc (.cells (ndA x B cap) 37))) :=
      Lib.hid ⟨[x], R, N, v2, HX.out, Nat.le_refl _, by simp; omega, by omega, RowAt.first hP2 (HS.out.trans hS2) (HZ.out.still hS2) hp hc2 (ht2.weak (fun b hb _ => ⟨by rw [← HW1.out]; exact hb.1, hb.2⟩))⟩
    clear hP2 hS2 ht2 HPa HZ HS HX HW1
    unfold ndV
    dsimp only
    go_wp2
    go_loopw [3] (fun u wr => InAlt N W v0 p op r u wr) (fun _ wr => lenOf ((wr.cell? ⟨p, 0, none⟩).getD undef))
    case atStart => exact H0.out
    case round =>
      obtain ⟨acc, R, n, v, hr, hN, hal, hR, hrow⟩ := hrel
      have Hrow := Lib.hid hrow
      have Hr := Lib.hid hr
      clear hrow hr H0
      cases R with
      | nil =>
        have HX := Lib.hid (show r = .ok (flatN 5 acc, []) from Hr.out.symm)
        go_wp2_with fail
        refine (peek_nil Hrow.out.1).mono ?_
        rintro e w3 ⟨rfl, hw3⟩
        subst hw3
        dsimp only
        obtain ⟨A, cu, hu, hcu, htr⟩ := Hrow.out.trees
        subst hu
        have HT3 := Lib.hid htr
        clear htr
        go_wp2_with fail
        refine (flat_go 5 _ A cu acc _ hcu HT3.out).mono ?_
        rintro e w4 ⟨B4, cap4, rfl, hb4, hc4, ht4⟩
        have hrow4 := Hrow.out.below hb4
        have hX := hrow4.2.2.1.1
        have y0 : w4.cell? ⟨W.heap.size, 0, none⟩ = some (.int .i64 0) := hX.cell 0
        have y1 : w4.cell? ⟨W.heap.size, 1, none⟩ = some (.int .u64 0) := hX.cell 1
        have y2 : w4.cell? ⟨W.heap.size, 2, none⟩ = some (.int .u64 0) := hX.cell 2
        have y3 : w4.cell? ⟨W.heap.size, 3, none⟩ = some (.int .u64 0) := hX.cell 3
        have y4 : w4.cell? ⟨W.heap.size, 4, none⟩ = some (.int .u64 0) := hX.cell 4
        have y5 : w4.cell? ⟨W.heap.size, 5, none⟩ = some (.slice none 0 0) := hX.cell 5
        have y6 : w4.cell? ⟨W.heap.size, 6, none⟩ = some (.int .i64 0) := hX.cell 6
        have y7 : w4.cell? ⟨W.heap.size, 7, none⟩ = some (.int .i64 0) := hX.cell 7
        have z0 := hX.frozen 0
        have z1 := hX.frozen 1
        have z2 := hX.frozen 2
        have z3 := hX.frozen 3
        have z4 := hX.frozen 4
        have z5 := hX.frozen 5
        have z6 := hX.frozen 6
        have z7 := hX.frozen 7
        have Hrow4 := Lib.hid hrow4
        have HT4 := Lib.hid ht4
        clear hb4 hrow4 hX ht4
        unfold ndV
        dsimp only
        go_wp2
        go_light
        have hF := filled (x := flatN 5 acc) (B := B4) (cap := cap4) Hrow4.out.1 Hrow4.out.2.1 Hrow4.out.2.2.1 rfl hp HT4.out rfl
        rw [HX.out]
        exact bodyPost_ret (ret_node Try.results76 rfl hF.1) rfl ⟨v, B4, cap4, rfl, hF.2.1, hF.2.2.1, hc4, hF.2.2.2⟩

      | cons c R =>
        simp only [List.length_cons] at hal hR
        by_cases h4 : c.kind = 4
        · obtain ⟨n, rfl⟩ : ∃ k, n = k + 1 := ⟨n - 1, by omega⟩
          have Hr := Lib.hid ((tailG_bar h4).symm.trans Hr.out)
          have HN := Lib.hid (next_any Hrow.out.1 (by omega))
          go_wp2_with fail
          refine (peek_go Hrow.out.1 (by omega)).mono ?_
          rintro e w3 ⟨rfl, hw3⟩
          subst hw3
          rw [h4]
          dsimp only
          go_wp2_with fail
          refine HN.out.mono ?_
          rintro e w4 ⟨rfl, hP4, hS4⟩
          have Hrow4 := Lib.hid (Hrow.out.still hS4 hP4)
          have HPa := Lib.hid (hT n (by omega) p op R w4 v hP4 (by omega) h64 (by omega))
          have hl := Hrow4.out.own
          have hzl := Hrow4.out.2.2.1.1.lt
          have Hl := Lib.hid hl
          have HPw := Lib.hid Hrow.out.1
          clear hP4 hS4 HN hl
          unfold lexV
          dsimp only
          cases hx : piecesG n op [] R with
          | error x =>
            have HX := Lib.hid (show r = .error x by rw [← Hr.out]; exact altG_bad hx)
            rw [hx] at HPa
            clear hx
            go_wp2_with fail
            refine HPa.out.mono ?_
            rintro e w5 ⟨rfl, hb5⟩
            dsimp only
            go_wp2
            rw [HX.out]
            exact ⟨rfl, rfl, Hrow4.out.2.1.1.trans hb5⟩
          | ok x =>
            obtain ⟨ps, R2⟩ := x
            have HX := Lib.hid (show tailG n op (acc ++ [partN ps]) R2 = r by rw [← Hr.out]; exact (altG_ok hx).symm)
            have hsuf := ((readG_suf n).2.1 _ _ _ _ _ hx).length_le
            rw [hx] at HPa
            have HPa := Lib.hid (show Calls Try.prog 100 #[.pointer (some ⟨p, 0, none⟩)] w4 (Gives p op.length v (.ok (partN ps, R2)) w4) from HPa.out)
            clear hx Hr
            generalize partN ps = x at HX HPa
            go_wp2_with fail
            refine HPa.out.mono ?_
            rintro e w5 ⟨v5, B5, cap5, rfl, hP5, hS5, hc5, ht5⟩
            have hrow5 := Hrow4.out.still hS5 hP5
            obtain ⟨_, _, _, ⟨cs, hr5, hcs5⟩, _⟩ := id hrow5
            have hz5 := ht5.weak (Q := fun b => New (W.heap.size + 1) p v5 b ∧ some b ≠ u3.ownBlock) (fun b hb _ => ⟨⟨by have := hb.1; omega, hb.2⟩, fun e => by have := (Hl.out b e.symm).2; have := hb.1; omega⟩)
            have HrowX := Lib.hid hrow5
            have HR5 := Lib.hid hr5
            have HC5 := Lib.hid hcs5
            have HZ5 := Lib.hid hz5
            have h63 : acc.length + 1 ≤ maxLen := Nat.le_trans (by omega) (show 200000 ≤ maxLen by decide)
            have hby : (acc.length + 1) * 80 ≤ 140737488355328 := by omega
            have hWs : W.heap.size + 1 ≤ w5.heap.size := by have := hrow5.2.2.1.1.lt; omega
            clear hrow5 hr5 hcs5 hz5 hP5 hS5 ht5 hzl HPa Hl Hrow4
            unfold ndV
            dsimp only
            go_wp2_with (at_builtin; refine wpList_append_lies _ rfl _ _ 35 rfl (W.heap.size + 1) 37 i0 _ 8 80 Try.underlying35 hi hz0 hz1 hz2 rfl (by decide) _ _ _ rfl (HR5.out.alloc _) ⟨w5.heap.size, 0, none⟩ 1 1 (ndCell x B5 cap5) rfl rfl (World.news_of_block (Blk.new w5 37 (ndA x B5 cap5))) (by simp [ndCell, Value.oneCell']) (by decide) h63 hby (by simp; omega) (w5.heap.size + 1) (by simp) ?_; intro gg capg w6 hown6 hgrow6 hat6 hg6; have HA6 := Lib.hid (HrowX.out.append hp HZ5.out hc5 HC5.out hown6 hgrow6 hat6); clear hown6 hgrow6 hat6)
            go_light
            go_roundw
            case rel => exact ⟨acc ++ [x], R2, n, v5, HX.out, by omega, by simp; omega, by omega, HA6.out⟩
            case measure => rw [HA6.out.1.len, HPw.out.len]; simp; omega
        · have HX := Lib.hid (show r = .ok (flatN 5 acc, c :: R) from Hr.out.symm.trans (tailG_stop h4))
          have hd : (c.kind == 4) = false := by simp; exact h4
          go_wp2_with fail
          refine (peek_go Hrow.out.1 (by omega)).mono ?_
          rintro e w3 ⟨rfl, hw3⟩
          subst hw3
          dsimp only
          obtain ⟨A, cu, hu, hcu, htr⟩ := Hrow.out.trees
          subst hu
          have HT3 := Lib.hid htr
          clear htr
          go_wp2_with fail
          refine (flat_go 5 _ A cu acc _ hcu HT3.out).mono ?_
          rintro e w4 ⟨B4, cap4, rfl, hb4, hc4, ht4⟩
          have hrow4 := Hrow.out.below hb4
          have hX := hrow4.2.2.1.1
          have y0 : w4.cell? ⟨W.heap.size, 0, none⟩ = some (.int .i64 0) := hX.cell 0
          have y1 : w4.cell? ⟨W.heap.size, 1, none⟩ = some (.int .u64 0) := hX.cell 1
          have y2 : w4.cell? ⟨W.heap.size, 2, none⟩ = some (.int .u64 0) := hX.cell 2
          have y3 : w4.cell? ⟨W.heap.size, 3, none⟩ = some (.int .u64 0) := hX.cell 3
          have y4 : w4.cell? ⟨W.heap.size, 4, none⟩ = some (.int .u64 0) := hX.cell 4
          have y5 : w4.cell? ⟨W.heap.size, 5, none⟩ = some (.slice none 0 0) := hX.cell 5
          have y6 : w4.cell? ⟨W.heap.size, 6, none⟩ = some (.int .i64 0) := hX.cell 6
          have y7 : w4.cell? ⟨W.heap.size, 7, none⟩ = some (.int .i64 0) := hX.cell 7
          have z0 := hX.frozen 0
          have z1 := hX.frozen 1
          have z2 := hX.frozen 2
          have z3 := hX.frozen 3
          have z4 := hX.frozen 4
          have z5 := hX.frozen 5
          have z6 := hX.frozen 6
          have z7 := hX.frozen 7
          have Hrow4 := Lib.hid hrow4
          have HT4 := Lib.hid ht4
          clear hb4 hrow4 hX ht4
          unfold ndV
          dsimp only
          go_wp2
          go_light
          have hF := filled (x := flatN 5 acc) (B := B4) (cap := cap4) Hrow4.out.1 Hrow4.out.2.1 Hrow4.out.2.2.1 rfl hp HT4.out rfl
          rw [HX.out]
          exact bodyPost_ret (ret_node Try.results76 rfl hF.1) rfl ⟨v, B4, cap4, rfl, hF.2.1, hF.2.2.1, hc4, hF.2.2.2⟩

/-- The parser, of whatever lexemes. -/
theorem reads_go (n : Nat) : AltC n ∧ PartC n ∧ AtomC n := by
  have h : ∀ m, ∀ k, k ≤ m → AltC k ∧ PartC k ∧ AtomC k := by
    intro m
    induction m with
    | zero =>
      intro k hk
      obtain rfl : k = 0 := by omega
      exact ⟨fun _ _ _ _ _ _ _ _ h => by omega, fun _ _ _ _ _ _ _ _ h => by omega, fun _ _ _ _ _ _ _ _ h => by omega⟩
    | succ m ih =>
      intro k hk
      rcases Nat.lt_or_ge k (m + 1) with hlt | hge
      · exact ih k (by omega)
      · obtain rfl : k = m + 1 := by omega
        have hA : AltC (m + 1) := alt_step (fun k hk => (ih k hk).2.1)
        exact ⟨hA, part_step (fun k hk => (ih k (by omega)).2.2), atom_step (ih m (Nat.le_refl _)).1⟩
  exact h n n (Nat.le_refl _)

end Go.Proofs.Ytgbpcigfbpghgaa
