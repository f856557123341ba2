/-
  The contract of the parser's group.
-/
import Derived.WalkSmall
import Derived.Test.YtgbpcigfbpghgaaQZ02
namespace Go.Proofs.Ytgbpcigfbpghgaa
open Go.RowKit
set_option linter.unusedSimpArgs false
set_option linter.unusedVariables false
set_option maxRecDepth 100000

/-- What stands between brackets. -/
def GivesG (p m : Nat) (v : Value) (r : Except Wrong (Option Nd × List Lex)) (W : World) (e : Ending) (W' : World) : Prop :=
  match r with
  | .ok (some x, R) => ∃ v' B cap, e = .returned (ndV x B cap) ∧ PAt W' p v' R m ∧ Still p W v W' v' ∧ x.kids.len ≤ cap ∧ TreesAt W' (New W.heap.size p v') x.kids B
  | .ok (none, R) => False
  | .error x => Panics p x W e W'
theorem info_int : (Try.prog.info? 3).map (fun i => (i.zero, i.size, i.bytes)) = some (some (.int .i64 0), 1, 8) := by kernel_rfl

/-- The block R holds no node yet. -/
def Zr (p R : Nat) (v : Value) (w : World) : Prop := Blk w R 37 #[.int .i64 0, .int .u64 0, .int .u64 0, .int .u64 0, .int .u64 0, .slice none 0 0, .int .i64 0, .int .i64 0] ∧ Off p v R
theorem Zr.still {p R : Nat} {v v' : Value} {w w' : World} (h : Zr p R v w) (hs : Still p w v w' v') : Zr p R v' w' := ⟨hs.blk h.2 h.1, hs.off h.2 h.1.lt⟩
theorem Zr.below {p R : Nat} {v : Value} {w w' : World} (h : Zr p R v w) (hb : Below w.heap.size w w') : Zr p R v w' := ⟨h.1.below hb h.1.lt, h.2⟩
theorem zr_new {p : Nat} {v : Value} {W : World} (hp : p < W.heap.size) (hv : ∀ g, v.ownBlock = some g → g < W.heap.size) : Zr p W.heap.size v (W.alloc (.cells #[.int .i64 0, .int .u64 0, .int .u64 0, .int .u64 0, .int .u64 0, .slice none 0 0, .int .i64 0, .int .i64 0] 37)) :=
  ⟨Blk.new W _ _, by omega, fun e => by have := hv _ e.symm; omega⟩
theorem PAt.drew {w : World} {p : Nat} {v : Value} {L : List Lex} {m : Nat} (h : PAt w p v L m) : PAt w.drew p v L m := by
  obtain ⟨A, cap, xs, hb, hc, hl, hr⟩ := h
  exact ⟨A, cap, xs, hb.drew, hc, hl.below (Below.refl _ _).drew, hr⟩
theorem Still.drew {p : Nat} {w w' : World} {v v' : Value} (h : Still p w v w' v') : Still p w v w'.drew v' := ⟨h.1.drew, h.2.1, h.2.2⟩
theorem TreesAt.drew {w : World} {P : Nat → Prop} {F : Trees} {A : Option Addr} (h : TreesAt w P F A) : TreesAt w.drew P F A := TreesAt.keep (w := w) (w' := w.drew) (fun _ _ _ _ => rfl) (fun _ h _ => h) h
/-- The result is laid. -/
theorem filled {W w : World} {p R m : Nat} {v0 v : Value} {L : List Lex} {x : Nd} {B : Option Addr} {cap : Nat} (hP : PAt w p v L m) (hS : Still p W v0 w v) (hZ : Zr p R v w) (hR : W.heap.size = R) (hp : p < W.heap.size) (ht : TreesAt w (New (R + 1) p v) x.kids B) {w' : World}
    (hw' : w' = ((((((((w.setCell ⟨R, 0, none⟩ (.int .i64 x.kind)).setCell ⟨R, 1, none⟩ (.int .u64 ((word x.set.testBit 0 : Nat) : Int))).setCell ⟨R, 2, none⟩ (.int .u64 ((word x.set.testBit 1 : Nat) : Int))).setCell ⟨R, 3, none⟩ (.int .u64 ((word x.set.testBit 2 : Nat) : Int))).setCell ⟨R, 4, none⟩ (.int .u64 ((word x.set.testBit 3 : Nat) : Int))).setCell ⟨R, 5, none⟩ (.slice B x.kids.len cap)).setCell ⟨R, 6, none⟩ (.int .i64 x.lo)).setCell ⟨R, 7, none⟩ (.int .i64 x.hi))) :
    Blk w' R 37 (ndA x B cap) ∧ PAt w' p v L m ∧ Still p W v0 w' v ∧ TreesAt w' (New W.heap.size p v) x.kids B := by
  have hg : w.grownBy w' (some R) := by rw [hw']; exact only_put8 _ _ _ _ _ _ _ _ _ _
  have hx : Blk w' R 37 (ndA x B cap) := by rw [hw']; exact hZ.1.put8 _ _ _ _ _ _ _ _
  refine ⟨hx, hP.only hg (by omega) (fun g e h => hZ.2.2 (by rw [e, h])), hS.only hg hp (by omega), ht.keep (fun b o hb hl => World.cell?_of_block (hg.block b hl (fun e => ?_))) (fun b hb _ => ⟨by have := hb.1; omega, hb.2⟩)⟩
  have := hb.1
  have := Option.some.inj e
  omega
set_option maxHeartbeats 4000000 in
theorem group_deep (n p : Nat) (op : List Int) (y : Lex) (L : List Lex) (W : World) (v : Value) (hP : PAt W p v (y :: L) op.length) (hlen : (y :: L).length ≤ 100000) (hk : y.kind = 2) (h64 : op.length = 64) :
    Calls Try.prog 123 #[.pointer (some ⟨p, 0, none⟩)] W (GivesG p op.length v (atomG (n + 1) op (y :: L)) W) := by
  rw [atomG_deep hk h64]
  have hd : ((op.length : Int) == 64) = true := by simp; omega
  obtain ⟨i0, hi, hz0, hz1, hz2⟩ := info_parts info_int
  have hp := hP.lt
  have hP1 := hP.below ((Below.refl W.heap.size W).alloc (Nat.le_refl _) (.cells #[.int .i64 0, .int .u64 0, .int .u64 0, .int .u64 0, .int .u64 0, .slice none 0 0, .int .i64 0, .int .i64 0] 37))
  have HN := Lib.hid (next_any hP1 (by simp at hlen; omega))
  have hv : ∀ g, v.ownBlock = some g → g < W.heap.size := by
    obtain ⟨_, _, _, _, _, _, hr⟩ := hP
    exact fun g e => (hr.lt g e).2
  obtain ⟨Av, cv, rfl⟩ : ∃ A c, v = .slice A op.length c := by
    obtain ⟨_, _, _, _, _, _, hr⟩ := hP
    exact own_slice hr
  clear hP hP1
  go_enter Try.func123, Try.ntmps123
  go_wp2_with fail
  refine HN.out.mono ?_
  rintro e w2 ⟨rfl, hP2, hS2⟩
  have HZ := Lib.hid ((zr_new hp hv).still hS2)
  have hS2 := (Still.of_below (v := .slice Av op.length cv) ((Below.refl W.heap.size W).alloc (Nat.le_refl _) (.cells #[.int .i64 0, .int .u64 0, .int .u64 0, .int .u64 0, .int .u64 0, .slice none 0 0, .int .i64 0, .int .i64 0] 37)) (Nat.le_of_lt hp)).trans hS2
  clear HN
  unfold lexV
  have hsz2 := hS2.1.size
  have HS2 := Lib.hid hS2
  obtain ⟨A2, cap2, xs2, hb2, hc2, hl2, hr2⟩ := hP2
  have q0 : w2.cell? ⟨p, 0, none⟩ = some (.slice A2 L.length cap2) := hb2.cell 0
  have q1 : w2.cell? ⟨p, 1, none⟩ = some (.slice Av op.length cv) := hb2.cell 1
  have fq1 := hb2.frozen 1
  have HB2 := Lib.hid hb2
  have HL2 := Lib.hid hl2
  have HR2 := Lib.hid hr2
  clear hS2 hb2 hl2 hr2

  clear h64
  go_wp2_with fail
  refine (fail_any _ _ _).mono ?_
  rintro e w3 ⟨rfl, rfl⟩
  go_wp2
  exact ⟨rfl, rfl, HS2.out.1⟩

theorem pushed {w2 w3 : World} {p m g cap : Nat} {A2 : Option Addr} {cap2 : Nat} {v : Value} {L : List Lex} {xs xs3 : List Value} {o : Obj} (hb : Blk w2 p 116 #[.slice A2 L.length cap2, v]) (hc2 : L.length ≤ cap2) (hl : LexsAt w2 p A2 L) (hr : w2.ownsRow (p + 1) 3 1 v m xs)
    (hown : w3.ownsRow (p + 1) 3 1 (.slice (some ⟨g, 0, none⟩) (m + 1) cap) (m + 1) xs3) (hgrow : (w2.alloc o).grownBy w3 v.ownBlock) (hat : v.ownBlock = some g ∨ g = w2.heap.size + 1) :
    PAt (w3.setCell ⟨p, 1, none⟩ (.slice (some ⟨g, 0, none⟩) (m + 1) cap)) p (.slice (some ⟨g, 0, none⟩) (m + 1) cap) L (m + 1) ∧ Still p w2 v (w3.setCell ⟨p, 1, none⟩ (.slice (some ⟨g, 0, none⟩) (m + 1) cap)) (.slice (some ⟨g, 0, none⟩) (m + 1) cap) := by
  have hp := hb.lt
  have hne := blk_not_row hb (by decide) hr
  have hg : p + 1 ≤ g := (hown.lt g rfl).1
  have hB : Below p w2 (w3.setCell ⟨p, 1, none⟩ (.slice (some ⟨g, 0, none⟩) (m + 1) cap)) :=
    (((Below.refl p w2).alloc (Nat.le_of_lt hp) o).grown hgrow (by simp; omega) (fun k hk => by have := (hr.lt k hk).1; omega)).setCell (p := ⟨p, 1, none⟩) (Nat.le_refl _) _
  have hb3 : Blk w3 p 116 #[.slice A2 L.length cap2, v] := (hb.alloc o).grown hgrow hne
  refine ⟨⟨A2, cap2, xs3, hb3.set_ 1 _, hc2, hl.below hB, own_set hown (by simp [Value.ownBlock]; omega)⟩, hB, fun b hl ho => ?_, fun k hk => ?_⟩
  · rw [Below.heap_setCell w3 ⟨p, 1, none⟩ _ b ho.1, hgrow.block b (by simp; omega) ho.2]
    exact Below.heap_alloc w2 o b hl
  · obtain rfl : g = k := by simpa [Value.ownBlock] using hk
    rcases hat with h | h
    · exact .inl h
    · exact .inr (by omega)
theorem popped {w : World} {p m g cap : Nat} {L : List Lex} (h : PAt w p (.slice (some ⟨g, 0, none⟩) (m + 1) cap) L (m + 1)) :
    PAt (w.setCell ⟨p, 1, none⟩ (.slice (some ⟨g, 0, none⟩) m cap)) p (.slice (some ⟨g, 0, none⟩) m cap) L m ∧ Still p w (.slice (some ⟨g, 0, none⟩) (m + 1) cap) (w.setCell ⟨p, 1, none⟩ (.slice (some ⟨g, 0, none⟩) m cap)) (.slice (some ⟨g, 0, none⟩) m cap) := by
  obtain ⟨A, c, xs, hb, hc, hl, hr⟩ := h
  have hne := blk_not_row hb (by decide) hr
  have hx := hr.1
  have hxs : xs = xs.take m ++ xs.drop m := (List.take_append_drop m xs).symm
  rw [hxs] at hr
  have hr2 := ownsRow_pop (n := m) (xs := xs.take m) (last := xs.drop m) (by simp; omega) hr
  refine ⟨⟨A, c, _, hb.set_ 1 _, hc, hl.below ((Below.refl p w).setCell (p := ⟨p, 1, none⟩) (Nat.le_refl _) _), own_set hr2 hne⟩, (Below.refl p w).setCell (p := ⟨p, 1, none⟩) (Nat.le_refl _) _, fun b _ ho => Below.heap_setCell w ⟨p, 1, none⟩ _ b ho.1, fun k hk => .inl hk⟩

set_option maxHeartbeats 4000000 in
theorem group_go (n p : Nat) (op : List Int) (y : Lex) (L : List Lex) (W : World) (v : Value) (hA : AltC n) (hP : PAt W p v (y :: L) op.length) (hlen : (y :: L).length ≤ 100000) (hk : y.kind = 2) (h64 : op.length < 64) (hn : 3 * (y :: L).length < n + 1) :
    Calls Try.prog 123 #[.pointer (some ⟨p, 0, none⟩)] W (GivesG p op.length v (atomG (n + 1) op (y :: L)) W) := by
  have hd : ((op.length : Int) == 64) = false := by simp; omega
  obtain ⟨i0, hi, hz0, hz1, hz2⟩ := info_parts info_int
  have hp := hP.lt
  have hP1 := hP.below ((Below.refl W.heap.size W).alloc (Nat.le_refl _) (.cells #[.int .i64 0, .int .u64 0, .int .u64 0, .int .u64 0, .int .u64 0, .slice none 0 0, .int .i64 0, .int .i64 0] 37))
  have HN := Lib.hid (next_any hP1 (by simp at hlen; omega))
  have hv : ∀ g, v.ownBlock = some g → g < W.heap.size := by
    obtain ⟨_, _, _, _, _, _, hr⟩ := hP
    exact fun g e => (hr.lt g e).2
  obtain ⟨Av, cv, rfl⟩ : ∃ A c, v = .slice A op.length c := by
    obtain ⟨_, _, _, _, _, _, hr⟩ := hP
    exact own_slice hr
  clear hP hP1
  go_enter Try.func123, Try.ntmps123
  go_wp2_with fail
  refine HN.out.mono ?_
  rintro e w2 ⟨rfl, hP2, hS2⟩
  have HZ := Lib.hid ((zr_new hp hv).still hS2)
  have hS2 := (Still.of_below (v := .slice Av op.length cv) ((Below.refl W.heap.size W).alloc (Nat.le_refl _) (.cells #[.int .i64 0, .int .u64 0, .int .u64 0, .int .u64 0, .int .u64 0, .slice none 0 0, .int .i64 0, .int .i64 0] 37)) (Nat.le_of_lt hp)).trans hS2
  clear HN
  unfold lexV
  have hsz2 := hS2.1.size
  have HS2 := Lib.hid hS2
  obtain ⟨A2, cap2, xs2, hb2, hc2, hl2, hr2⟩ := hP2
  have q0 : w2.cell? ⟨p, 0, none⟩ = some (.slice A2 L.length cap2) := hb2.cell 0
  have q1 : w2.cell? ⟨p, 1, none⟩ = some (.slice Av op.length cv) := hb2.cell 1
  have fq1 := hb2.frozen 1
  have HB2 := Lib.hid hb2
  have HL2 := Lib.hid hl2
  have HR2 := Lib.hid hr2
  clear hS2 hb2 hl2 hr2

  have hv2 : ∀ g, (Value.slice Av op.length cv).ownBlock = some g → g < w2.heap.size := fun g e => (HR2.out.lt g e).2
  have Hne := Lib.hid (blk_not_row HB2.out (by decide) HR2.out)
  have HH := Lib.hid hv2
  have hp2 : p + 1 ≤ w2.heap.size := HB2.out.lt
  have HV := Lib.hid hv
  clear hv hv2
  have h63 : op.length + 1 ≤ maxLen := Nat.le_trans (by omega) (show 200000 ≤ maxLen by decide)
  have hby : (op.length + 1) * 8 ≤ 140737488355328 := by omega
  go_wp2_with (at_builtin; refine wpList_append_lies _ rfl _ _ 48 rfl (p + 1) 3 i0 _ 1 8 Try.underlying48 hi hz0 hz1 hz2 rfl (by decide) _ _ _ rfl (HR2.out.alloc _) ⟨w2.heap.size, 0, none⟩ 1 1 [.int .i64 y.place] rfl rfl (cell_one_new _ _ _) (by simp [Value.oneCell']) (by decide) h63 hby (by simp; omega) (w2.heap.size + 1) (by simp) ?_; intro g3 cap3 w3 hown3 hgrow3 hat3 hg3; have hB3 : Blk w3 p 116 #[.slice A2 L.length cap2, .slice Av op.length cv] := (HB2.out.alloc (.cells #[.int .i64 y.place] 3)).grown hgrow3 Hne.out; have fq := hB3.frozen 1; have q3 : w3.cell? ⟨p, 1, none⟩ = some (.slice Av op.length cv) := hB3.cell 1; have HPS := Lib.hid (pushed HB2.out hc2 HL2.out HR2.out hown3 hgrow3 hat3); clear hB3 hown3 hgrow3 hat3)
  obtain ⟨hP4, hS4⟩ := HPS.out
  have HP4 := Lib.hid hP4
  have HS4 := Lib.hid (HS2.out.trans hS4)
  have HT4 := Lib.hid hS4
  clear hP4 hS4 HPS
  have HZ := Lib.hid (HZ.out.still HT4.out)
  clear q0 q1 fq1 q3 fq HB2 HL2 HR2 Hne HH HV hd
  cases hx : altG n (y.place :: op) [] L with
  | error x =>
    have HX := Lib.hid hx
    have HE := Lib.hid (atomG_in hk (by omega) hx)
    clear hx
    refine (hA p (y.place :: op) L _ _ HP4.out (by simp at hlen; omega) (by simp; omega) (by simp at hn; omega)).mono ?_
    rw [HX.out]
    rintro e w5 ⟨rfl, hb5⟩
    rw [HE.out]
    go_wp2
    exact ⟨rfl, rfl, HS4.out.1.trans hb5⟩
  | ok r =>
    obtain ⟨x, R⟩ := r
    have HX := Lib.hid hx
    clear hx
    refine (hA p (y.place :: op) L _ _ HP4.out (by simp at hlen; omega) (by simp; omega) (by simp at hn; omega)).mono ?_
    rw [HX.out]
    rintro e w5 ⟨v5, B, cap, rfl, hP5, hS5, hc5, ht5⟩
    have hRl := ((readG_suf n).1 _ _ _ _ _ HX.out).length_le
    have HZ5 := Lib.hid (HZ.out.still hS5)
    have HS5 := Lib.hid (HS4.out.trans hS5)
    have HP5 := Lib.hid hP5
    have HT5 := Lib.hid ht5
    have hs5 := hS5.1.size
    have hlt4 : W.heap.size + 1 ≤ (w3.setCell ⟨p, 1, none⟩ (.slice (some ⟨g3, 0, none⟩) (op.length + 1) cap3)).heap.size := HZ.out.1.lt
    have HT5 := Lib.hid (ht5.weak (Q := New (W.heap.size + 1) p v5) (fun b hb _ => ⟨Nat.le_trans hlt4 hb.1, hb.2⟩))
    have hb6 : Below w5.heap.size w5 (w5.alloc (.cells (ndA x B cap) 37)) := (Below.refl _ _).alloc (Nat.le_refl _) _
    have HP6 := Lib.hid (hP5.below hb6)
    have HZ6 := Lib.hid (HZ5.out.below hb6)
    have HT6 := Lib.hid (HT5.out.below hb6)
    have HS6 := Lib.hid (HS5.out.more hb6 (Nat.le_of_lt hp))
    have HX6 := Lib.hid (Blk.new w5 37 (ndA x B cap))
    obtain ⟨g5, cap5, hv5, hg5a, hg5b, hc5b⟩ : ∃ g c, v5 = .slice (some ⟨g, 0, none⟩) (op.length + 1) c ∧ p + 1 ≤ g ∧ g < w5.heap.size ∧ op.length + 1 ≤ c := by
      obtain ⟨_, _, _, _, _, _, hr⟩ := hP5
      rcases hr.2 with ⟨_, h0⟩ | ⟨g, c, cur, hv, hb, hh, hc, _⟩
      · simp at h0
      · exact ⟨g, c, hv, hb, (Array.getElem?_eq_some_iff.1 hh).1, hc⟩
    subst hv5
    have hoX : Off p (.slice (some ⟨g5, 0, none⟩) (op.length + 1) cap5) w5.heap.size := ⟨by omega, by simp [Value.ownBlock]; omega⟩
    have hsz6 : w5.heap.size < (w5.alloc (.cells (ndA x B cap) 37)).heap.size := by simp
    have hlv : op.length + 1 = (y.place :: op).length := rfl
    have hW5 := HS5.out.1.size
    clear hP5 hS5 ht5 HS4 HZ HT5 HP5 HZ5 HS5 hb6 hlt4 hi hz0 hz1 hz2 h63 hby hs5
    unfold ndV
    dsimp only
    cases R with
    | nil =>
      have HE := Lib.hid (atomG_open hk (by omega) HX.out (fun c R' e => by cases e))
      go_wp2_with fail
      refine (peek_nil HP6.out).mono ?_
      rintro e w7 ⟨rfl, hw7⟩
      subst hw7
      dsimp only
      go_wp2_with fail
      refine (fail_any _ _ _).mono ?_
      rintro e w8 ⟨rfl, hw8⟩
      subst hw8
      dsimp only
      go_wp2
      rw [HE.out]
      exact ⟨rfl, rfl, HS6.out.1⟩
    | cons c R =>
      simp only [List.length_cons] at hlen hRl
      by_cases h3 : c.kind = 3
      · have HE := Lib.hid (atomG_close hk (by omega) HX.out h3)
        have HK := Lib.hid hk
        have hj : IntKind.i64.wrap ((op.length : Int) + 1 - 1) = (op.length : Int) := by rw [Int.add_sub_cancel]; exact IntWalk.i64_in _ (by omega)
        have hj0 : (0 : Int) ≤ (op.length : Int) := by omega
        have hj1 : (op.length : Int) ≤ (cap5 : Int) := by omega
        have HN := Lib.hid (next_any HP6.out (by omega))
        clear hk hlv
        go_wp2_with fail
        refine (peek_go HP6.out (by omega)).mono ?_
        rintro e w7 ⟨rfl, hw7⟩
        subst hw7
        rw [h3]
        dsimp only
        go_wp2_with fail
        refine HN.out.mono ?_
        rintro e w8 ⟨rfl, hP8, hS8⟩
        have hX8 := hS8.blk hoX HX6.out
        have hZ8 := HZ6.out.still hS8
        have hT8 := Lib.hid (hS8.trees HT6.out)
        have hS8' := HS6.out.trans hS8
        have hs8 := hS8.1.size
        have hpop := popped hP8
        obtain ⟨_, _, _, hb8, _⟩ := hP8
        have q8 : w8.cell? ⟨p, 1, none⟩ = some (.slice (some ⟨g5, 0, none⟩) (op.length + 1) cap5) := hb8.cell 1
        have fq8 := hb8.frozen 1
        have HX8 := Lib.hid hX8
        have HZ8 := Lib.hid hZ8
        have HS8 := Lib.hid hS8'
        have HO := Lib.hid hpop
        have hps : p ≠ w5.heap.size := by omega
        have hR0 : p ≠ W.heap.size := by omega
        have x0 : w8.cell? ⟨w5.heap.size, 0, none⟩ = some (.int .i64 x.kind) := hX8.cell 0
        have x1 : w8.cell? ⟨w5.heap.size, 1, none⟩ = some (.int .u64 ((word x.set.testBit 0 : Nat) : Int)) := hX8.cell 1
        have x2 : w8.cell? ⟨w5.heap.size, 2, none⟩ = some (.int .u64 ((word x.set.testBit 1 : Nat) : Int)) := hX8.cell 2
        have x3 : w8.cell? ⟨w5.heap.size, 3, none⟩ = some (.int .u64 ((word x.set.testBit 2 : Nat) : Int)) := hX8.cell 3
        have x4 : w8.cell? ⟨w5.heap.size, 4, none⟩ = some (.int .u64 ((word x.set.testBit 3 : Nat) : Int)) := hX8.cell 4
        have x5 : w8.cell? ⟨w5.heap.size, 5, none⟩ = some (.slice B x.kids.len cap) := hX8.cell 5
        have x6 : w8.cell? ⟨w5.heap.size, 6, none⟩ = some (.int .i64 x.lo) := hX8.cell 6
        have x7 : w8.cell? ⟨w5.heap.size, 7, none⟩ = some (.int .i64 x.hi) := hX8.cell 7
        have y0 : w8.cell? ⟨W.heap.size, 0, none⟩ = some (.int .i64 0) := hZ8.1.cell 0
        have y1 : w8.cell? ⟨W.heap.size, 1, none⟩ = some (.int .u64 0) := hZ8.1.cell 1
        have y2 : w8.cell? ⟨W.heap.size, 2, none⟩ = some (.int .u64 0) := hZ8.1.cell 2
        have y3 : w8.cell? ⟨W.heap.size, 3, none⟩ = some (.int .u64 0) := hZ8.1.cell 3
        have y4 : w8.cell? ⟨W.heap.size, 4, none⟩ = some (.int .u64 0) := hZ8.1.cell 4
        have y5 : w8.cell? ⟨W.heap.size, 5, none⟩ = some (.slice none 0 0) := hZ8.1.cell 5
        have y6 : w8.cell? ⟨W.heap.size, 6, none⟩ = some (.int .i64 0) := hZ8.1.cell 6
        have y7 : w8.cell? ⟨W.heap.size, 7, none⟩ = some (.int .i64 0) := hZ8.1.cell 7
        have z0 := hZ8.1.frozen 0
        have z1 := hZ8.1.frozen 1
        have z2 := hZ8.1.frozen 2
        have z3 := hZ8.1.frozen 3
        have z4 := hZ8.1.frozen 4
        have z5 := hZ8.1.frozen 5
        have z6 := hZ8.1.frozen 6
        have z7 := hZ8.1.frozen 7
        clear hX8 hZ8 hS8' hpop hb8 hS8 HN
        unfold lexV
        dsimp only
        go_wp2
        go_region
        go_wp2
        go_light
        have hF := filled HO.out.1 (HS8.out.trans HO.out.2) (HZ8.out.still HO.out.2) rfl hp (HO.out.2.trees hT8.out) (cap := cap) rfl
        refine bodyPost_ret (ret_node Try.results123 rfl (Blk.drew hF.1)) rfl ?_
        rw [HE.out]
        exact ⟨_, B, cap, rfl, hF.2.1.drew, hF.2.2.1.drew, hc5, hF.2.2.2.drew⟩
      · have HE := Lib.hid (atomG_open hk (by omega) HX.out (fun c' R' e => by cases e; exact h3))
        have hd : (c.kind != 3) = true := by simp; exact h3
        go_wp2_with fail
        refine (peek_go HP6.out (by omega)).mono ?_
        rintro e w7 ⟨rfl, hw7⟩
        subst hw7
        dsimp only
        go_wp2_with fail
        refine (fail_any _ _ _).mono ?_
        rintro e w8 ⟨rfl, hw8⟩
        subst hw8
        dsimp only
        go_wp2
        rw [HE.out]
        exact ⟨rfl, rfl, HS6.out.1⟩

end Go.Proofs.Ytgbpcigfbpghgaa
