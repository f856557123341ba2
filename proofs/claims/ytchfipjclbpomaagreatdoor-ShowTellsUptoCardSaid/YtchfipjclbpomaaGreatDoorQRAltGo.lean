/-
  The contracts of the reference's part and alternative: the walks.
-/
import Derived.Test.YtchfipjclbpomaaGreatDoorQRAlt
namespace Go.Proofs.YtchfipjclbpomaaGreatDoor
open Go.RowKit
set_option linter.unusedSimpArgs false
set_option linter.unusedVariables false
set_option maxRecDepth 100000

/-- A round of part. -/
def RInPart (N : Nat) (w : World) (op : List Int) (L : List Lex) (r : Except Wrong (List Nd × List Lex)) (at_ u : Value) (wr : World) : Prop :=
  ∃ acc : List Nd, ∃ j n : Nat, at_ = .int .i64 (j : Int) ∧ j ≤ L.length ∧ piecesG n op acc (L.drop j) = r ∧ n ≤ N ∧ acc.length ≤ j ∧ RRow w acc u wr
set_option maxHeartbeats 8000000 in
theorem rpart_step {N : Nat} (hT : ∀ k, k < N → RPieceC k) : RPartC N := by
  intro op i ps R A cap L w h hL hi hlen
  obtain ⟨i0, hi0, hz0, hz1, hz2⟩ := info_parts info_nd
  have hsf := suf_drop ((readG_suf N).2.1 _ _ _ _ _ h) hi
  have H0 : Hid (RInPart N w op L (.ok (ps, R)) (.int .i64 (i : Int)) (.slice (some ⟨w.heap.size + 1, 0, none⟩) 0 0) ((w.alloc (.cells #[.int .i64 0, .int .u64 0, .int .u64 0, .int .u64 0, .int .u64 0, .slice none 0 0, .int .i64 0, .int .i64 0] 28)).alloc (.cells #[] 28))) :=
    Lib.hid ⟨[], i, N, rfl, hi, h, Nat.le_refl _, Nat.zero_le _, rrow_start w⟩
  have HL := Lib.hid hL
  have HT := Lib.hid hT
  clear h hL hT hsf
  go_enter Tryz.func68, Tryz.ntmps68
  go_wp2
  go_loopw [1, 6] (fun a u wr => RInPart N w op L (.ok (ps, R)) a u wr) (fun a _ _ => L.length - (intOf a).toNat)
  case atStart => exact H0.out
  case round =>
    clear H0
    obtain ⟨acc, j, n, rfl, hj, hr, hN, hacc, hrow⟩ := hrel
    have Hrow := Lib.hid hrow
    have hwr := hrow.2.2.size
    have hzl := hrow.2.1.lt
    clear hrow
    obtain ⟨k, rfl⟩ : ∃ k, n = k + 1 := by
      cases n with
      | zero => rw [piecesG] at hr; cases hr
      | succ k => exact ⟨k, rfl⟩
    cases hx : atomG k op (L.drop j) with
    | error x => rw [piecesG_bad hx] at hr; cases hr
    | ok x =>
      obtain ⟨x, R1⟩ := x
      cases x with
      | none =>
        rw [piecesG_end hx] at hr
        obtain ⟨hR1, hk⟩ := atomG_none hx
        obtain ⟨rfl, rfl⟩ : acc = ps ∧ R1 = R := by simpa using hr
        have Hjl := Lib.hid (show L.length - R1.length = j by rw [hR1]; simp; omega)
        have hHk := Lib.hid hk
        obtain ⟨Au, cu, hu, hcu, htr⟩ := Hrow.out.trees
        subst hu
        have HTr := Lib.hid htr
        clear hr hx hR1 hk htr
        by_cases hlt : j < L.length
        · obtain ⟨y, hy⟩ : ∃ y, L[j]? = some y := ⟨_, List.getElem?_eq_getElem hlt⟩
          obtain ⟨k1, k2⟩ := hHk.out y _ (drop_cons hy)
          have e1 : (y.kind == 1) = false := by simp; exact k1
          have e2 : (y.kind == 2) = false := by simp; exact k2
          obtain ⟨b, o, rfl, hbl, c0, _⟩ := ((HL.out.below Hrow.out.2.2).more hwr).at' hy
          have hdl : (j : Int) < (L.length : Int) := by omega
          clear hy k1 k2
          go_wp2_with fail
          refine (ncat_go _ Au cu acc _ (by omega) HTr.out).mono ?_
          rintro e w4 ⟨B4, cap4, rfl, hb4, hc4, ht4⟩
          have hrow4 := Hrow.out.below hb4
          have hzb := hrow4.2.1
          have y0 : w4.cell? ⟨w.heap.size, 0, none⟩ = some (.int .i64 0) := hzb.cell 0
          have y1 : w4.cell? ⟨w.heap.size, 1, none⟩ = some (.int .u64 0) := hzb.cell 1
          have y2 : w4.cell? ⟨w.heap.size, 2, none⟩ = some (.int .u64 0) := hzb.cell 2
          have y3 : w4.cell? ⟨w.heap.size, 3, none⟩ = some (.int .u64 0) := hzb.cell 3
          have y4 : w4.cell? ⟨w.heap.size, 4, none⟩ = some (.int .u64 0) := hzb.cell 4
          have y5 : w4.cell? ⟨w.heap.size, 5, none⟩ = some (.slice none 0 0) := hzb.cell 5
          have y6 : w4.cell? ⟨w.heap.size, 6, none⟩ = some (.int .i64 0) := hzb.cell 6
          have y7 : w4.cell? ⟨w.heap.size, 7, none⟩ = some (.int .i64 0) := hzb.cell 7
          have g0 := hzb.frozen 0
          have g1 := hzb.frozen 1
          have g2 := hzb.frozen 2
          have g3 := hzb.frozen 3
          have g4 := hzb.frozen 4
          have g5 := hzb.frozen 5
          have g6 := hzb.frozen 6
          have g7 := hzb.frozen 7
          have Hrow4 := Lib.hid hrow4
          have HT4 := Lib.hid ht4
          clear hb4 hrow4 hzb ht4
          unfold ndV
          dsimp only
          go_wp2
          go_light
          have hF := flat_put (P := fun _ => False) (x := partN acc) (B := B4) (cap := cap4) Hrow4.out.2.1 Hrow4.out.2.2 (HT4.out.weak (fun b hb _ => .inr (by rcases hb with h | h; exact h; omega))) rfl
          exact bodyPost_ret (ret_atom Tryz.results68 rfl rfl hF.1) rfl ⟨B4, cap4, by rw [Hjl.out]; rfl, hF.2.1, hc4, hF.2.2.weak (fun b hb _ => hb.elim (fun h => h.elim) id)⟩
        · have hdl : ¬ (j : Int) < (L.length : Int) := by omega
          go_wp2_with fail
          refine (ncat_go _ Au cu acc _ (by omega) HTr.out).mono ?_
          rintro e w4 ⟨B4, cap4, rfl, hb4, hc4, ht4⟩
          have hrow4 := Hrow.out.below hb4
          have hzb := hrow4.2.1
          have y0 : w4.cell? ⟨w.heap.size, 0, none⟩ = some (.int .i64 0) := hzb.cell 0
          have y1 : w4.cell? ⟨w.heap.size, 1, none⟩ = some (.int .u64 0) := hzb.cell 1
          have y2 : w4.cell? ⟨w.heap.size, 2, none⟩ = some (.int .u64 0) := hzb.cell 2
          have y3 : w4.cell? ⟨w.heap.size, 3, none⟩ = some (.int .u64 0) := hzb.cell 3
          have y4 : w4.cell? ⟨w.heap.size, 4, none⟩ = some (.int .u64 0) := hzb.cell 4
          have y5 : w4.cell? ⟨w.heap.size, 5, none⟩ = some (.slice none 0 0) := hzb.cell 5
          have y6 : w4.cell? ⟨w.heap.size, 6, none⟩ = some (.int .i64 0) := hzb.cell 6
          have y7 : w4.cell? ⟨w.heap.size, 7, none⟩ = some (.int .i64 0) := hzb.cell 7
          have g0 := hzb.frozen 0
          have g1 := hzb.frozen 1
          have g2 := hzb.frozen 2
          have g3 := hzb.frozen 3
          have g4 := hzb.frozen 4
          have g5 := hzb.frozen 5
          have g6 := hzb.frozen 6
          have g7 := hzb.frozen 7
          have Hrow4 := Lib.hid hrow4
          have HT4 := Lib.hid ht4
          clear hb4 hrow4 hzb ht4
          unfold ndV
          dsimp only
          go_wp2
          go_light
          have hF := flat_put (P := fun _ => False) (x := partN acc) (B := B4) (cap := cap4) Hrow4.out.2.1 Hrow4.out.2.2 (HT4.out.weak (fun b hb _ => .inr (by rcases hb with h | h; exact h; omega))) rfl
          exact bodyPost_ret (ret_atom Tryz.results68 rfl rfl hF.1) rfl ⟨B4, cap4, by rw [Hjl.out]; rfl, hF.2.1, hc4, hF.2.2.weak (fun b hb _ => hb.elim (fun h => h.elim) id)⟩
      | some x =>
        rw [piecesG_go hx] at hr
        obtain ⟨y, M', hM, hk⟩ := atomG_some hx
        have hk12 : y.kind = 1 ∨ y.kind = 2 := by rcases hk with h | h; exact .inl h.1; exact .inr h.1
        have hlt : j < L.length := by
          rcases Nat.lt_or_ge j L.length with h1 | h1
          · exact h1
          · rw [List.drop_eq_nil_of_le h1] at hM; cases hM
        obtain ⟨y', hy⟩ : ∃ y, L[j]? = some y := ⟨_, List.getElem?_eq_getElem hlt⟩
        rw [drop_cons hy] at hM
        obtain ⟨rfl, rfl⟩ := List.cons.inj hM
        have hs1 := ((readG_suf k).2.2 _ _ _ _ hx)
        have hl1 := hs1.2 (by simp)
        obtain ⟨hd, hj1, hj2⟩ := suf_drop ((postsG_suf R1 x).trans hs1.1) hj
        have hl2 := (postsG_suf R1 x).length_le
        have hPc := HT.out k (by omega) op j x R1 A cap L wr hx ((HL.out.below Hrow.out.2.2).more hwr) hlen
        generalize postsG x R1 = zr at *
        obtain ⟨z, R2⟩ := zr
        simp only at hr hd hj1 hj2 hl2 hPc
        have HPc := Lib.hid hPc
        have HR := Lib.hid (show piecesG k op (acc ++ [z]) (L.drop (L.length - R2.length)) = .ok (ps, R) by rw [← hd]; exact hr)
        simp at hl1
        obtain ⟨b, o, rfl, hbl, c0, _⟩ := ((HL.out.below Hrow.out.2.2).more hwr).at' hy
        have hdl : (j : Int) < (L.length : Int) := by omega
        have hnj : j < L.length - R2.length := by omega
        generalize L.length - R2.length = j' at *
        clear hM hk hr hx hy hd hs1 hPc hl1 hl2 hj1
        rcases hk12 with hk | hk
        all_goals
          rw [hk] at c0
          go_wp2_with fail
          refine HPc.out.mono ?_
          rintro e w4 ⟨B4, cap4, rfl, hb4, hc4, ht4⟩
          have hrow4 := Hrow.out.below hb4
          obtain ⟨⟨cs, hr4, hcs4⟩, _⟩ := id hrow4
          have hl := Hrow.out.own
          have hz4 := ht4.weak (Q := fun b => w.heap.size + 1 ≤ b ∧ some b ≠ u6.ownBlock) (fun b hb _ => ⟨by omega, fun e => by have := (hl b e.symm).2; omega⟩)
          have hb5 : Below w4.heap.size w4 (w4.alloc (.cells (ndA z B4 cap4) 28)) := (Below.refl _ _).alloc (Nat.le_refl _) _
          have Hrow5 := Lib.hid (hrow4.below hb5)
          have HR5 := Lib.hid (hr4.alloc (.cells (ndA z B4 cap4) 28))
          have HC5 := Lib.hid (hcs4.below hb5)
          have HZ5 := Lib.hid (hz4.below hb5)
          have h63 : acc.length + 1 ≤ maxLen := Nat.le_trans (by omega) (show 200000 ≤ maxLen by decide)
          have hby : (acc.length + 1) * 80 ≤ 140737488355328 := by omega
          have hWs : w.heap.size + 1 ≤ w4.heap.size := by have := hb4.size; omega
          clear hrow4 hr4 hcs4 hz4 ht4 hl hb5 hb4
          unfold ndV
          dsimp only
          go_wp2_with (at_builtin; refine wpList_append_lies _ rfl _ _ 26 rfl (w.heap.size + 1) 28 i0 _ 8 80 Tryz.underlying26 hi0 hz0 hz1 hz2 rfl (by decide) u6 acc.length cs rfl (HR5.out.alloc _) ⟨w4.heap.size + 1, 0, none⟩ 1 1 (ndCell z B4 cap4) rfl rfl (World.news_of_block (Blk.new_at (cs := ndA z B4 cap4) (t := 28) (by simp))) (by simp [ndCell, Value.oneCell']) (by decide) h63 hby (by simp; omega) (w4.heap.size + 2) (by simp) ?_; intro gg capg w5 hown5 hgrow5 hat5 hg5; have HA6 := Lib.hid (Hrow5.out.append HZ5.out hc4 HC5.out hown5 hgrow5 (by simpa using hat5)); clear hown5 hgrow5 hat5)
          go_light
          go_roundw
          case rel => exact ⟨acc ++ [z], j', k, rfl, hj2, HR.out, by omega, by simp; omega, HA6.out⟩
          case measure => simp [intOf]; omega

/-- A round of alternative. -/
def RInAlt (N : Nat) (w : World) (op : List Int) (L : List Lex) (r : Except Wrong (Nd × List Lex)) (at_ u : Value) (wr : World) : Prop :=
  ∃ acc : List Nd, ∃ j n : Nat, at_ = .int .i64 (j : Int) ∧ j ≤ L.length ∧ altG n op acc (L.drop j) = r ∧ n ≤ N ∧ acc.length ≤ j ∧ RRow w acc u wr
set_option maxHeartbeats 8000000 in
theorem ralt_step {N : Nat} (hT : ∀ k, k < N → RPartC k) : RAltC N := by
  intro op i x R A cap L w h hL hi hlen
  obtain ⟨i0, hi0, hz0, hz1, hz2⟩ := info_parts info_nd
  have H0 : Hid (RInAlt N w op L (.ok (x, R)) (.int .i64 (i : Int)) (.slice (some ⟨w.heap.size + 1, 0, none⟩) 0 0) ((w.alloc (.cells #[.int .i64 0, .int .u64 0, .int .u64 0, .int .u64 0, .int .u64 0, .slice none 0 0, .int .i64 0, .int .i64 0] 28)).alloc (.cells #[] 28))) :=
    Lib.hid ⟨[], i, N, rfl, hi, h, Nat.le_refl _, Nat.zero_le _, rrow_start w⟩
  have HL := Lib.hid hL
  have HT := Lib.hid hT
  clear h hL hT
  go_enter Tryz.func45, Tryz.ntmps45
  go_wp2
  go_loopw [1, 6] (fun a u wr => RInAlt N w op L (.ok (x, R)) a u wr) (fun a _ _ => L.length - (intOf a).toNat)
  case atStart => exact H0.out
  case round =>
    clear H0
    obtain ⟨acc, j, n, rfl, hj, hr, hN, hacc, hrow⟩ := hrel
    have Hrow := Lib.hid hrow
    have hwr := hrow.2.2.size
    have hzl := hrow.2.1.lt
    clear hrow
    obtain ⟨k, rfl⟩ : ∃ k, n = k + 1 := by
      cases n with
      | zero => rw [altG] at hr; cases hr
      | succ k => exact ⟨k, rfl⟩
    cases hx : piecesG k op [] (L.drop j) with
    | error x => rw [altG_bad hx] at hr; cases hr
    | ok y =>
      obtain ⟨ps, R1⟩ := y
      rw [altG_ok hx] at hr
      obtain ⟨hd, hj1, hj2⟩ := suf_drop ((readG_suf k).2.1 _ _ _ _ _ hx) hj
      have HPc := Lib.hid (HT.out k (by omega) op j ps R1 A cap L wr hx ((HL.out.below Hrow.out.2.2).more hwr) hj hlen)
      have HD := Lib.hid hd
      have HR := Lib.hid hr
      have Hjj := Lib.hid (show L.length - R1.length = L.length - R1.length from rfl)
      clear hx hr hd
      generalize hz : partN ps = z at *
      clear hz
      generalize hj' : L.length - R1.length = j' at *
      have Hj' := Lib.hid hj'
      clear hj' Hjj
      go_wp2_with fail
      refine HPc.out.mono ?_
      rintro e w4 ⟨B4, cap4, rfl, hb4, hc4, ht4⟩
      have hrow4 := Hrow.out.below hb4
      obtain ⟨⟨cs, hr4, hcs4⟩, _⟩ := id hrow4
      have hl := Hrow.out.own
      have hz4 := ht4.weak (Q := fun b => w.heap.size + 1 ≤ b ∧ some b ≠ u6.ownBlock) (fun b hb _ => ⟨by omega, fun e => by have := (hl b e.symm).2; omega⟩)
      have hb5 : Below w4.heap.size w4 (w4.alloc (.cells (ndA z B4 cap4) 28)) := (Below.refl _ _).alloc (Nat.le_refl _) _
      have Hrow5 := Lib.hid (hrow4.below hb5)
      have HR5 := Lib.hid (hr4.alloc (.cells (ndA z B4 cap4) 28))
      have HC5 := Lib.hid (hcs4.below hb5)
      have HZ5 := Lib.hid (hz4.below hb5)
      have h63 : acc.length + 1 ≤ maxLen := Nat.le_trans (by omega) (show 200000 ≤ maxLen by decide)
      have hby : (acc.length + 1) * 80 ≤ 140737488355328 := by omega
      have hWs : w.heap.size + 1 ≤ w4.heap.size := by have := hb4.size; omega
      clear hrow4 hr4 hcs4 hz4 ht4 hl hb5 hb4
      unfold ndV
      dsimp only
      have hcase : (∃ c R', R1 = c :: R' ∧ c.kind = 4) ∨ (∀ c R', R1 = c :: R' → c.kind ≠ 4) := by
        cases R1 with
        | nil => exact .inr (fun c R' e => by cases e)
        | cons c R' =>
          by_cases h4 : c.kind = 4
          · exact .inl ⟨c, R', rfl, h4⟩
          · exact .inr (fun c' R'' e => by cases e; exact h4)
      rcases hcase with ⟨c, R', hRc, h4⟩ | hno
      · have hlt : j' < L.length := by have := Hj'.out; rw [hRc] at this; simp at this; have h5 : (c :: R').length ≤ L.length := by rw [← hRc, HD.out]; simp
                                       simp at h5; omega
        obtain ⟨y, hy⟩ : ∃ y, L[j']? = some y := ⟨_, List.getElem?_eq_getElem hlt⟩
        have hyc : y = c ∧ L.drop (j' + 1) = R' := by
          have := (drop_cons hy).symm.trans (HD.out.symm.trans hRc)
          exact List.cons.inj this
        obtain ⟨rfl, hdr⟩ := hyc
        have HX := Lib.hid (show altG k op (acc ++ [z]) (L.drop (j' + 1)) = .ok (x, R) by rw [hdr]; have := HR.out; rw [hRc, tailG_bar h4] at this; exact this)
        obtain ⟨b, o, hAo, hbl, c0, _⟩ := (HL.out).at' hy
        subst hAo
        rw [h4] at c0
        have hge : ¬ (L.length : Int) ≤ (j' : Int) := by omega
        have hdl : (j' : Int) < (L.length : Int) := by omega
        have Hc0 := Lib.hid c0
        clear hy hdr hRc h4 c0
        go_wp2_with (at_builtin; refine wpList_append_lies _ rfl _ _ 26 rfl (w.heap.size + 1) 28 i0 _ 8 80 Tryz.underlying26 hi0 hz0 hz1 hz2 rfl (by decide) u6 acc.length cs rfl (HR5.out.alloc _) ⟨w4.heap.size + 1, 0, none⟩ 1 1 (ndCell z B4 cap4) rfl rfl (World.news_of_block (Blk.new_at (cs := ndA z B4 cap4) (t := 28) (by simp))) (by simp [ndCell, Value.oneCell']) (by decide) h63 hby (by simp; omega) (w4.heap.size + 2) (by simp) ?_; intro gg capg w5 hown5 hgrow5 hat5 hg5; have hA6 := Hrow5.out.append HZ5.out hc4 HC5.out hown5 hgrow5 (by simpa using hat5); have c0 := (hA6.2.2.cell (p := ⟨b, o + j' * 8, none⟩) hbl).trans Hc0.out; have HA6 := Lib.hid hA6; clear hown5 hgrow5 hat5 hA6)
        go_light
        go_roundw
        case rel => exact ⟨acc ++ [z], j' + 1, k, by go_num, by omega, HX.out, by omega, by simp; omega, HA6.out⟩
        case measure => simp [intOf]; omega
      · have HX := Lib.hid (show (flatN 5 (acc ++ [z]), R1) = (x, R) by
          have := HR.out
          cases R1 with
          | nil => rw [tailG_nil] at this; exact Except.ok.inj this
          | cons c R' => rw [tailG_stop (hno c R' rfl)] at this; exact Except.ok.inj this)
        have hxx := Prod.mk.inj HX.out
        obtain ⟨hx1, hx2⟩ := hxx
        have Hjl := Lib.hid (show L.length - R.length = j' by rw [← hx2]; exact Hj'.out)
        have HX := Lib.hid hx1
        clear hx1 hx2
        by_cases hlt : j' < L.length
        · obtain ⟨y, hy⟩ : ∃ y, L[j']? = some y := ⟨_, List.getElem?_eq_getElem hlt⟩
          have h4 := hno y _ (HD.out.trans (drop_cons hy))
          have e4 : (y.kind != 4) = true := by simp; exact h4
          obtain ⟨b, o, hAo, hbl, c0, _⟩ := (HL.out).at' hy
          subst hAo
          have hge : ¬ (L.length : Int) ≤ (j' : Int) := by omega
          have hdl : (j' : Int) < (L.length : Int) := by omega
          have Hc0 := Lib.hid c0
          clear hy h4 c0 hno
          go_wp2_with (at_builtin; refine wpList_append_lies _ rfl _ _ 26 rfl (w.heap.size + 1) 28 i0 _ 8 80 Tryz.underlying26 hi0 hz0 hz1 hz2 rfl (by decide) u6 acc.length cs rfl (HR5.out.alloc _) ⟨w4.heap.size + 1, 0, none⟩ 1 1 (ndCell z B4 cap4) rfl rfl (World.news_of_block (Blk.new_at (cs := ndA z B4 cap4) (t := 28) (by simp))) (by simp [ndCell, Value.oneCell']) (by decide) h63 hby (by simp; omega) (w4.heap.size + 2) (by simp) ?_; intro gg capg w5 hown5 hgrow5 hat5 hg5; have hA6 := Hrow5.out.append HZ5.out hc4 HC5.out hown5 hgrow5 (by simpa using hat5); have c0 := (hA6.2.2.cell (p := ⟨b, o + j' * 8, none⟩) hbl).trans Hc0.out; have HA6 := Lib.hid hA6; clear hown5 hgrow5 hat5 hA6)
          clear c0 Hc0
          obtain ⟨A6, cap6, hv6, _, ht6⟩ := HA6.out.trees
          obtain ⟨rfl, _, rfl⟩ := Value.slice.inj hv6
          have hN6 := nalt_go _ (some ⟨gg, 0, none⟩) capg (acc ++ [z]) w5 (by simp; omega) ht6
          rw [List.length_append, List.length_singleton] at hN6
          have HN6 := Lib.hid hN6
          have hw5 := HA6.out.2.1.lt
          clear hN6 hv6 ht6
          refine HN6.out.mono ?_
          rintro e w7 ⟨B7, cap7, rfl, hb7, hc7, ht7⟩
          rw [manyN_flat _ (by simp)] at hc7 ht7
          rw [manyN_flat _ (by simp)]
          have hrow7 := HA6.out.below hb7
          have hzb := hrow7.2.1
          have y0 : w7.cell? ⟨w.heap.size, 0, none⟩ = some (.int .i64 0) := hzb.cell 0
          have y1 : w7.cell? ⟨w.heap.size, 1, none⟩ = some (.int .u64 0) := hzb.cell 1
          have y2 : w7.cell? ⟨w.heap.size, 2, none⟩ = some (.int .u64 0) := hzb.cell 2
          have y3 : w7.cell? ⟨w.heap.size, 3, none⟩ = some (.int .u64 0) := hzb.cell 3
          have y4 : w7.cell? ⟨w.heap.size, 4, none⟩ = some (.int .u64 0) := hzb.cell 4
          have y5 : w7.cell? ⟨w.heap.size, 5, none⟩ = some (.slice none 0 0) := hzb.cell 5
          have y6 : w7.cell? ⟨w.heap.size, 6, none⟩ = some (.int .i64 0) := hzb.cell 6
          have y7 : w7.cell? ⟨w.heap.size, 7, none⟩ = some (.int .i64 0) := hzb.cell 7
          have g0 := hzb.frozen 0
          have g1 := hzb.frozen 1
          have g2 := hzb.frozen 2
          have g3 := hzb.frozen 3
          have g4 := hzb.frozen 4
          have g5 := hzb.frozen 5
          have g6 := hzb.frozen 6
          have g7 := hzb.frozen 7

          have Hrow7 := Lib.hid hrow7
          have HT7 := Lib.hid ht7
          clear hb7 hrow7 hzb ht7
          unfold ndV
          dsimp only
          go_wp2
          go_light
          have hF := flat_put (P := fun _ => False) (x := flatN 5 (acc ++ [z])) (B := B7) (cap := cap7) Hrow7.out.2.1 Hrow7.out.2.2 (HT7.out.weak (fun b hb _ => .inr (by rcases hb with h | h; exact h; omega))) rfl
          rw [← HX.out]
          exact bodyPost_ret (ret_atom Tryz.results45 rfl rfl hF.1) rfl ⟨B7, cap7, by rw [Hjl.out]; rfl, hF.2.1, hc7, hF.2.2.weak (fun b hb _ => hb.elim (fun h => h.elim) id)⟩
        · have hge : (L.length : Int) ≤ (j' : Int) := by omega
          clear hno
          go_wp2_with (at_builtin; refine wpList_append_lies _ rfl _ _ 26 rfl (w.heap.size + 1) 28 i0 _ 8 80 Tryz.underlying26 hi0 hz0 hz1 hz2 rfl (by decide) u6 acc.length cs rfl (HR5.out.alloc _) ⟨w4.heap.size + 1, 0, none⟩ 1 1 (ndCell z B4 cap4) rfl rfl (World.news_of_block (Blk.new_at (cs := ndA z B4 cap4) (t := 28) (by simp))) (by simp [ndCell, Value.oneCell']) (by decide) h63 hby (by simp; omega) (w4.heap.size + 2) (by simp) ?_; intro gg capg w5 hown5 hgrow5 hat5 hg5; have hA6 := Hrow5.out.append HZ5.out hc4 HC5.out hown5 hgrow5 (by simpa using hat5); have HA6 := Lib.hid hA6; clear hown5 hgrow5 hat5 hA6)
          obtain ⟨A6, cap6, hv6, _, ht6⟩ := HA6.out.trees
          obtain ⟨rfl, _, rfl⟩ := Value.slice.inj hv6
          have hN6 := nalt_go _ (some ⟨gg, 0, none⟩) capg (acc ++ [z]) w5 (by simp; omega) ht6
          rw [List.length_append, List.length_singleton] at hN6
          have HN6 := Lib.hid hN6
          have hw5 := HA6.out.2.1.lt
          clear hN6 hv6 ht6
          refine HN6.out.mono ?_
          rintro e w7 ⟨B7, cap7, rfl, hb7, hc7, ht7⟩
          rw [manyN_flat _ (by simp)] at hc7 ht7
          rw [manyN_flat _ (by simp)]
          have hrow7 := HA6.out.below hb7
          have hzb := hrow7.2.1
          have y0 : w7.cell? ⟨w.heap.size, 0, none⟩ = some (.int .i64 0) := hzb.cell 0
          have y1 : w7.cell? ⟨w.heap.size, 1, none⟩ = some (.int .u64 0) := hzb.cell 1
          have y2 : w7.cell? ⟨w.heap.size, 2, none⟩ = some (.int .u64 0) := hzb.cell 2
          have y3 : w7.cell? ⟨w.heap.size, 3, none⟩ = some (.int .u64 0) := hzb.cell 3
          have y4 : w7.cell? ⟨w.heap.size, 4, none⟩ = some (.int .u64 0) := hzb.cell 4
          have y5 : w7.cell? ⟨w.heap.size, 5, none⟩ = some (.slice none 0 0) := hzb.cell 5
          have y6 : w7.cell? ⟨w.heap.size, 6, none⟩ = some (.int .i64 0) := hzb.cell 6
          have y7 : w7.cell? ⟨w.heap.size, 7, none⟩ = some (.int .i64 0) := hzb.cell 7
          have g0 := hzb.frozen 0
          have g1 := hzb.frozen 1
          have g2 := hzb.frozen 2
          have g3 := hzb.frozen 3
          have g4 := hzb.frozen 4
          have g5 := hzb.frozen 5
          have g6 := hzb.frozen 6
          have g7 := hzb.frozen 7

          have Hrow7 := Lib.hid hrow7
          have HT7 := Lib.hid ht7
          clear hb7 hrow7 hzb ht7
          unfold ndV
          dsimp only
          go_wp2
          go_light
          have hF := flat_put (P := fun _ => False) (x := flatN 5 (acc ++ [z])) (B := B7) (cap := cap7) Hrow7.out.2.1 Hrow7.out.2.2 (HT7.out.weak (fun b hb _ => .inr (by rcases hb with h | h; exact h; omega))) rfl
          rw [← HX.out]
          exact bodyPost_ret (ret_atom Tryz.results45 rfl rfl hF.1) rfl ⟨B7, cap7, by rw [Hjl.out]; rfl, hF.2.1, hc7, hF.2.2.weak (fun b hb _ => hb.elim (fun h => h.elim) id)⟩

/-- The reference's reading, of lexemes that are read. -/
theorem rreads_go (n : Nat) : RAltC n := by
  have h : ∀ m, ∀ k, k ≤ m → RAltC k ∧ RPartC k ∧ RPieceC k := by
    intro m
    induction m with
    | zero =>
      intro k hk
      obtain rfl : k = 0 := by omega
      exact ⟨ralt_step (fun k hk => by omega), rpart_step (fun k hk => by omega), rpiece_step (fun k hk => by omega)⟩
    | succ m ih =>
      intro k hk
      rcases Nat.lt_or_ge k (m + 1) with hlt | hge
      · exact ih k (by omega)
      · obtain rfl : k = m + 1 := by omega
        exact ⟨ralt_step (fun k hk => (ih k (by omega)).2.1), rpart_step (fun k hk => (ih k (by omega)).2.2), rpiece_step (fun k hk => (ih k (by omega)).1)⟩
  exact (h n n (Nat.le_refl _)).1

end Go.Proofs.YtchfipjclbpomaaGreatDoor
