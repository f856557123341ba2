/- Texts of the claim. -/
import Derived.Test.YtfcblmbieiibmaaDoorJMatAo
import Derived.Test.YtfcblmbieiibmaaDoorJZ03
namespace Go.Proofs.YtfcblmbieiibmaaDoor
open Go.RowKit
set_option linter.unusedSimpArgs false
set_option linter.unusedVariables false
set_option maxRecDepth 100000
set_option maxHeartbeats 8000000
structure AgI (w U : World) (V : Option Addr) (cv : Nat) (bs : List Nat) (gx gs : Nat) (x st : Nd) (Bx Bs : Option Addr) (cx cs : Nat) : Prop where
 word : WordIn w U V cv bs
 na : NodeIn U gx x Bx cx
 nb : NodeIn U gs st Bs cs
theorem AgI.next {w U U' : World} {V : Option Addr} {cv : Nat} {bs : List Nat} {gx gs : Nat} {x st : Nd} {Bx Bs : Option Addr} {cx cs : Nat} (h : AgI w U V cv bs gx gs x st Bx Bs cx cs) (hb : Below U.heap.size U U') : AgI w U' V cv bs gx gs x st Bx Bs cx cs :=
 ⟨h.word.next hb, h.na.next hb, h.nb.next hb⟩
theorem againB_next (L0 : Bool) (x y : Nd) (bs : List Nat) {lo i : Nat} (h : lo ≤ i) : (L0 || cutB x y bs lo (i + 1)) = ((L0 || cutB x y bs lo i) || (fullB x (bs.take i) && fullB y (bs.drop i))) := by
 rw [cutB_next x y bs h, Bool.or_assoc]
structure Ag2 (w U : World) (V : Option Addr) (cv : Nat) (bs : List Nat) (gx gs go gl : Nat) (x st yo yl : Nd) (Bx Bs Bo Bl : Option Addr) (cx cs co cl : Nat) : Prop where
 word : WordIn w U V cv bs
 na : NodeIn U gx x Bx cx
 nb : NodeIn U gs st Bs cs
 no : NodeIn U go yo Bo co
 nl : NodeIn U gl yl Bl cl
theorem Ag2.next {w U U' : World} {V : Option Addr} {cv : Nat} {bs : List Nat} {gx gs go gl : Nat} {x st yo yl : Nd} {Bx Bs Bo Bl : Option Addr} {cx cs co cl : Nat} (h : Ag2 w U V cv bs gx gs go gl x st yo yl Bx Bs Bo Bl cx cs co cl) (hb : Below U.heap.size U U') : Ag2 w U' V cv bs gx gs go gl x st yo yl Bx Bs Bo Bl cx cs co cl :=
 ⟨h.word.next hb, h.na.next hb, h.nb.next hb, h.no.next hb, h.nl.next hb⟩
theorem len_pos {bs : List Nat} {L0 : Bool} (h : decide (bs.length = 0) = L0) : decide (0 < bs.length) = !L0 := by
 rw [← h]
 exact bool_iff (by rw [Bool.not_eq_true', decide_eq_true_eq, decide_eq_false_iff_not]; omega)
theorem len_posI {bs : List Nat} {L0 : Bool} (h : decide (bs.length = 0) = L0) : decide ((0 : Int) < (bs.length : Int)) = !L0 := by
 rw [← h]
 exact bool_iff (by rw [Bool.not_eq_true', decide_eq_true_eq, decide_eq_false_iff_not]; omega)
theorem len_beq {bs : List Nat} {L0 : Bool} (h : decide (bs.length = 0) = L0) : ((bs.length : Int) == 0) = L0 := by
 rw [← h]
 exact bool_iff (by rw [beq_iff_eq, decide_eq_true_eq]; omega)
theorem again11_law (x st : Nd) (hst : starM x = st) (Bx : Option Addr) (cx : Nat) (V : Option Addr) (cv : Nat) (bs : List Nat) (n : Nat) (hn : n < 256) (w : World) (hsx : x.size ≤ 2000000) (hlx : x.kids.len ≤ cx) (htx : TreesAt w (fun c => c < w.heap.size) x.kids Bx) (hV : BytesAt w w.heap.size V bs) (hcv : bs.length ≤ cv) (hT : TabAt 0 Lib.deBruijn64tab w) (hw0 : 0 < w.heap.size) :
  Calls Tryd.prog 4 #[ndV x Bx cx, .slice V bs.length cv, .int .u8 (n : Int)] w fun e w' => e = .returned (.bool true) ∧ Below w.heap.size w w' := by
 have hb0 : Below w.heap.size w (w.alloc (.cells (ndA x Bx cx) 28)) := (Below.refl _ _).alloc (Nat.le_refl _) _
 have hna : NodeIn (w.alloc (.cells (ndA x Bx cx) 28)) w.heap.size x Bx cx := ⟨Blk.new w _ _, (htx.below hb0).weak (fun c h _ => Nat.lt_of_lt_of_le h hb0.size), hlx⟩
 have hw : WordIn w (w.alloc (.cells (ndA x Bx cx) 28)) V cv bs := ⟨hb0, (hV.below hb0).more hb0.size, hcv, TabAt.below hb0 hw0 hT, Nat.lt_of_lt_of_le hw0 hb0.size⟩
 have HA := Lib.hid hna
 have HW := Lib.hid hw
 have HS := Lib.hid hsx
 have HX := Lib.hid hst
 have HNn := Lib.hid hn
 clear hna hw hb0 hsx hlx htx hV hT hw0 hst hn
 unfold ndV
 unfold ndA at HA HW
 go_enter Tryd.func4, Tryd.ntmps4
 go_upto_region 1 with fail
 generalize (w.alloc (.cells #[.int .i64 x.kind, .int .u64 (word x.set.testBit 0), .int .u64 (word x.set.testBit 1), .int .u64 (word x.set.testBit 2), .int .u64 (word x.set.testBit 3), .slice Bx x.kids.len cx, .int .i64 x.lo, .int .i64 x.hi] 28)) = w1 at *
 generalize hga : w.heap.size = gx at HA ⊢
 clear hga
 obtain ⟨p0, p1, p2, p3, p4, p5, p6, p7⟩ : _ ∧ _ ∧ _ ∧ _ ∧ _ ∧ _ ∧ _ ∧ _ := ⟨(HA.out.box).cell 0, (HA.out.box).cell 1, (HA.out.box).cell 2, (HA.out.box).cell 3, (HA.out.box).cell 4, (HA.out.box).cell 5, (HA.out.box).cell 6, (HA.out.box).cell 7⟩
 simp only [List.getElem?_toArray, List.getElem?_cons_zero, List.getElem?_cons_succ, ndA] at p0 p1 p2 p3 p4 p5 p6 p7
 have pl := (HA.out.box).lt
 have HC := Lib.hid (star_in HX.out HA.out (by have := HS.out; omega))
 unfold ndV at HC
 go_wp2_with fail
 refine HC.out.mono ?_
 rintro e w2 ⟨Bs, cs, rfl, hb2, hcs, hts⟩
 have hbx : Below w2.heap.size w2 (w2.alloc (.cells (ndA st Bs cs) 28)) := (Below.refl _ _).alloc (Nat.le_refl _) _
 have hb3 := hb2.trans (hbx.mono hb2.size)
 have HJ := Lib.hid (show AgI w (w2.alloc (.cells (ndA st Bs cs) 28)) V cv bs gx w2.heap.size x st Bx Bs cx cs from ⟨HW.out.next hb3, HA.out.next hb3, ⟨Blk.new w2 _ _, (hts.below hbx).weak (fun c h _ => Nat.lt_of_lt_of_le h hbx.size), hcs⟩⟩)
 clear hb2 hbx hb3 hts hcs HC HA HW
 clear p0 p1 p2 p3 p4 p5 p6 p7 pl
 unfold ndV
 unfold ndA at HJ
 dsimp only
 go_upto_region 2 with fail
 generalize hgx : w2.heap.size = gs at *
 generalize w2.alloc (.cells #[.int .i64 st.kind, .int .u64 (word st.set.testBit 0), .int .u64 (word st.set.testBit 1), .int .u64 (word st.set.testBit 2), .int .u64 (word st.set.testBit 3), .slice Bs st.kids.len cs, .int .i64 st.lo, .int .i64 st.hi] 28) = w3 at *
 clear hgx
 have HRx := Lib.hid (tright_any st Bs cs w3 (by rw [← HX.out, show (starM x).size = x.size + 1 from size_over 6 x 0 0]; have := HS.out; omega) HJ.out.nb.tree)
 unfold ndV at HRx
 obtain ⟨r0, r1, r2, r3, r4, r5, r6, r7⟩ : _ ∧ _ ∧ _ ∧ _ ∧ _ ∧ _ ∧ _ ∧ _ := ⟨(HJ.out.nb.box).cell 0, (HJ.out.nb.box).cell 1, (HJ.out.nb.box).cell 2, (HJ.out.nb.box).cell 3, (HJ.out.nb.box).cell 4, (HJ.out.nb.box).cell 5, (HJ.out.nb.box).cell 6, (HJ.out.nb.box).cell 7⟩
 simp only [List.getElem?_toArray, List.getElem?_cons_zero, List.getElem?_cons_succ, ndA] at r0 r1 r2 r3 r4 r5 r6 r7
 have rl := (HJ.out.nb.box).lt
 cases hr : rightT st with
 | false =>
  rw [hr] at HRx
  clear hr
  go_wp2_with fail
  refine HRx.out.mono ?_
  rintro e w4 ⟨rfl, hb4⟩
  have HJ4 := Lib.hid (HJ.out.next hb4)
  clear hb4 HRx HJ r0 r1 r2 r3 r4 r5 r6 r7 rl
  have HK := Lib.hid (knows11_go w4 HJ4.out.word.tab HJ4.out.word.pos)
  dsimp only
  go_wp2_with fail
  refine HK.out.mono ?_
  rintro e w5 ⟨rfl, hb5⟩
  have HB5 := Lib.hid (HJ4.out.word.below.trans (hb5.mono HJ4.out.word.below.size))
  clear hb5 HK HJ4
  dsimp only
  go_wp2
  go_light
  go_ret
  exact ⟨rfl, HB5.out⟩
 | true =>
  rw [hr] at HRx
  by_cases hl : 20 < bs.length
  ·have hd : (20 : Int) < (bs.length : Int) := by omega
   clear hr hl
   go_wp2_with fail
   refine HRx.out.mono ?_
   rintro e w4 ⟨rfl, hb4⟩
   have HJ4 := Lib.hid (HJ.out.next hb4)
   clear hb4 HRx HJ r0 r1 r2 r3 r4 r5 r6 r7 rl
   have HK := Lib.hid (knows11_go w4 HJ4.out.word.tab HJ4.out.word.pos)
   dsimp only
   go_wp2_with fail
   refine HK.out.mono ?_
   rintro e w5 ⟨rfl, hb5⟩
   have HB5 := Lib.hid (HJ4.out.word.below.trans (hb5.mono HJ4.out.word.below.size))
   clear hb5 HK HJ4
   dsimp only
   go_wp2
   go_light
   go_ret
   exact ⟨rfl, HB5.out⟩
  ·have hd : ¬ (20 : Int) < (bs.length : Int) := by omega
   have hrp := hr
   rw [← HX.out] at hrp
   have HRS := Lib.hid hrp
   have HLen := Lib.hid (show bs.length ≤ 20 by omega)
   clear hr hl hrp
   go_wp2_with fail
   refine HRx.out.mono ?_
   rintro e w4 ⟨rfl, hb4⟩
   have HJ4 := Lib.hid (HJ.out.next hb4)
   clear hb4 HRx HJ r0 r1 r2 r3 r4 r5 r6 r7 rl
   dsimp only
   obtain ⟨L0, hL0⟩ : ∃ L0 : Bool, decide (bs.length = 0) = L0 := ⟨_, rfl⟩
   have hL1 : ((bs.length : Int) == 0) = L0 := by rw [← hL0]; exact bool_iff (by rw [beq_iff_eq, decide_eq_true_eq]; omega)
   have HL0 := Lib.hid hL0
   clear hL0
   go_wp2
   have hsts : st.size ≤ 4611686018427387903 := by rw [← HX.out, show (starM x).size = x.size + 1 from size_over 6 x 0 0]; have := HS.out; omega
   have HSt := Lib.hid hsts
   clear hL1 hsts
   go_loopw [8, 9] (fun v i' wr => ∃ i : Nat, i' = .int .i64 (i : Int) ∧ v = .bool (L0 || cutB x st bs 1 i) ∧ 1 ≤ i ∧ i ≤ bs.length + 1 ∧ Hid (AgI w wr V cv bs gx gs x st Bx Bs cx cs)) (fun _ i' _ => bs.length + 1 - (intOf i').toNat)
   case atStart => exact ⟨1, rfl, by rw [cutB_zero, Bool.or_false], Nat.le_refl _, by omega, HJ4⟩
   case round =>
    clear HJ4
    obtain ⟨i, rfl, rfl, hi0, hi, HI⟩ := hrel
    by_cases hlt : i ≤ bs.length
    ·have hdl : (i : Int) ≤ (bs.length : Int) := by omega
     obtain ⟨A1, A2, hs1, hs2, hbb⟩ := bytes_cut V bs cv i HI.out.word.cap hlt
     have HIb := Lib.hid hbb
     have hwi : IntKind.i64.wrap ((i : Int) + 1) = (i : Int) + 1 := by rw [IntKind.wrap_i64]; have := HLen.out; omega
     have HN := Lib.hid (againB_next L0 x st bs hi0)
     have HFa := Lib.hid (fun (W' : World) (h : Below wr.heap.size wr W') => full_in (HI.out.na.next h) (V := A1) (cv := cv) (bs := bs.take i) ⟨HI.out.word.below.trans (h.mono HI.out.word.below.size), (HIb.out _ _ (HI.out.word.next h).bytes).1, by rw [List.length_take]; have := HI.out.word.cap; omega, (HI.out.word.next h).tab, (HI.out.word.next h).pos⟩ (by have := HS.out; omega))
     have HFb := Lib.hid (fun (W' : World) (h : Below wr.heap.size wr W') => full_in (HI.out.nb.next h) (V := A2) (cv := cv - i) (bs := bs.drop i) ⟨HI.out.word.below.trans (h.mono HI.out.word.below.size), (HIb.out _ _ (HI.out.word.next h).bytes).2, by rw [List.length_drop]; have := HI.out.word.cap; omega, (HI.out.word.next h).tab, (HI.out.word.next h).pos⟩ (HSt.out))
     unfold ndV at HFa HFb
     rw [show (bs.take i).length = i from by rw [List.length_take]; omega] at HFa hs1
     rw [show (bs.drop i).length = bs.length - i from List.length_drop] at HFb hs2
     clear hbb
     obtain ⟨p0, p1, p2, p3, p4, p5, p6, p7⟩ : _ ∧ _ ∧ _ ∧ _ ∧ _ ∧ _ ∧ _ ∧ _ := ⟨(HI.out.na.box).cell 0, (HI.out.na.box).cell 1, (HI.out.na.box).cell 2, (HI.out.na.box).cell 3, (HI.out.na.box).cell 4, (HI.out.na.box).cell 5, (HI.out.na.box).cell 6, (HI.out.na.box).cell 7⟩
     simp only [List.getElem?_toArray, List.getElem?_cons_zero, List.getElem?_cons_succ, ndA] at p0 p1 p2 p3 p4 p5 p6 p7
     have pl := (HI.out.na.box).lt
     obtain ⟨q0, q1, q2, q3, q4, q5, q6, q7⟩ : _ ∧ _ ∧ _ ∧ _ ∧ _ ∧ _ ∧ _ ∧ _ := ⟨(HI.out.nb.box).cell 0, (HI.out.nb.box).cell 1, (HI.out.nb.box).cell 2, (HI.out.nb.box).cell 3, (HI.out.nb.box).cell 4, (HI.out.nb.box).cell 5, (HI.out.nb.box).cell 6, (HI.out.nb.box).cell 7⟩
     simp only [List.getElem?_toArray, List.getElem?_cons_zero, List.getElem?_cons_succ, ndA] at q0 q1 q2 q3 q4 q5 q6 q7
     have ql := (HI.out.nb.box).lt
     generalize (L0 || cutB x st bs 1 i) = cb0 at *
     generalize fullB x (bs.take i) = fa at *
     generalize fullB st (bs.drop i) = fb at *
     cases cb0 with
     | true =>
      go_wp2
      go_region
      have HI2 := Lib.hid (HI.out.next (drew_belowM wr))
      (go_wp2; refine ⟨⟨i + 1, by rw [show ((i + 1 : Nat) : Int) = (i : Int) + 1 by omega], by rw [HN.out]; rfl, by omega, by omega, HI2⟩, ?_⟩; simp [intOf]; omega)
     | false =>
      cases fa with
      | false =>
       clear HFb hs2 q0 q1 q2 q3 q4 q5 q6 q7 ql
       go_wp2
       refine wp_region_noPanic ?_
       refine wp_region_held_drew (S := fun w' => (∀ b o, b < wr.heap.size → w'.cell? ⟨b, o, none⟩ = wr.cell? ⟨b, o, none⟩) ∧ Since wr.heap.size wr w') (by kernel_rfl) (since_start (Nat.le_refl _)) (fun hHeld => ?_)
       have hs := since_start (w0 := wr) (Nat.le_refl wr.heap.size)
       refine wpAnyH_take (i := 0) (oi := _) (v := ?_) rfl (by kernel_rfl) (by kernel_rfl) (by kernel_rfl) (fun _ _ _ h => h) (Or.inl ⟨by kernel_rfl, ?_⟩) (by assumption) ?_
       rotate_left
       ·intro w hSw
        try dsimp only at hSw
        go_simp
        try (with_reducible rfl)
       try simp only [Act.put, List.getElem_toArray, List.getElem_cons_zero, List.getElem_cons_succ, List.setIfInBounds_toArray, List.set_cons_zero, List.set_cons_succ]
       refine wpAnyH_take (i := 1) (oi := _) (v := ?_) rfl (by kernel_rfl) (by kernel_rfl) (by kernel_rfl) (fun _ _ _ h => h) (Or.inl ⟨by kernel_rfl, ?_⟩) (by assumption) ?_
       rotate_left
       ·intro w hSw
        try dsimp only at hSw
        go_simp
        try (with_reducible rfl)
       try simp only [Act.put, List.getElem_toArray, List.getElem_cons_zero, List.getElem_cons_succ, List.setIfInBounds_toArray, List.set_cons_zero, List.set_cons_succ]
       refine wpAnyH_take (i := 2) (oi := _) (v := ?_) rfl (by kernel_rfl) (by kernel_rfl) (by kernel_rfl) (fun _ _ _ h => h) (Or.inl ⟨by kernel_rfl, ?_⟩) (by assumption) ?_
       rotate_left
       ·intro w hSw
        try dsimp only at hSw
        go_simp
        try (with_reducible rfl)
       try simp only [Act.put, List.getElem_toArray, List.getElem_cons_zero, List.getElem_cons_succ, List.setIfInBounds_toArray, List.set_cons_zero, List.set_cons_succ]
       refine wpAnyH_take (i := 3) (oi := _) (v := ?_) rfl (by kernel_rfl) (by kernel_rfl) (by kernel_rfl) (fun _ _ _ h => h) (Or.inl ⟨by kernel_rfl, ?_⟩) (by assumption) ?_
       rotate_left
       ·intro w hSw
        try dsimp only at hSw
        go_simp
        try (with_reducible rfl)
       try simp only [Act.put, List.getElem_toArray, List.getElem_cons_zero, List.getElem_cons_succ, List.setIfInBounds_toArray, List.set_cons_zero, List.set_cons_succ]
       refine wpAnyH_take (i := 4) (oi := _) (v := ?_) rfl (by kernel_rfl) (by kernel_rfl) (by kernel_rfl) (fun _ _ _ h => h) (Or.inl ⟨by kernel_rfl, ?_⟩) (by assumption) ?_
       rotate_left
       ·intro w hSw
        try dsimp only at hSw
        go_simp
        try (with_reducible rfl)
       try simp only [Act.put, List.getElem_toArray, List.getElem_cons_zero, List.getElem_cons_succ, List.setIfInBounds_toArray, List.set_cons_zero, List.set_cons_succ]
       refine wpAnyH_take (i := 5) (oi := _) (v := ?_) rfl (by kernel_rfl) (by kernel_rfl) (by kernel_rfl) (fun _ _ _ h => h) (Or.inl ⟨by kernel_rfl, ?_⟩) (by assumption) ?_
       rotate_left
       ·intro w hSw
        try dsimp only at hSw
        go_simp
        try (with_reducible rfl)
       try simp only [Act.put, List.getElem_toArray, List.getElem_cons_zero, List.getElem_cons_succ, List.setIfInBounds_toArray, List.set_cons_zero, List.set_cons_succ]
       refine wpAnyH_ready (rs := [6]) (by kernel_rfl) (by simp) ?_
       refine AllReadyH.cons (o := _) rfl (fun K hK => ?_) AllReadyH.nil
       go_simp
       go_at_call 12
       refine (HFa.out _ hs.2.1).mono ?_
       rintro e x1 ⟨rfl, hb'⟩
       have hs := since_step hs hb'
       refine hK.out _ _ hs (fun _ => ?_)
       clear hK K hb'
       try simp only [Act.put, List.getElem_toArray, List.getElem_cons_zero, List.getElem_cons_succ, List.setIfInBounds_toArray, List.set_cons_zero, List.set_cons_succ]
       refine wpAnyH_take (i := 7) (oi := _) (v := ?_) rfl (by kernel_rfl) (by kernel_rfl) (by kernel_rfl) (fun _ _ _ h => h) (Or.inl ⟨by kernel_rfl, ?_⟩) (by assumption) ?_
       rotate_left
       ·intro w hSw
        try dsimp only at hSw
        go_simp
        try (with_reducible rfl)
       try simp only [Act.put, List.getElem_toArray, List.getElem_cons_zero, List.getElem_cons_succ, List.setIfInBounds_toArray, List.set_cons_zero, List.set_cons_succ]
       refine wpAnyH_take (i := 8) (oi := _) (v := undef) rfl (by kernel_rfl) (by kernel_rfl) (by kernel_rfl) (fun _ _ _ h => h) (Or.inr ⟨by kernel_rfl, rfl⟩) (by assumption) ?_
       try simp only [Act.put, List.getElem_toArray, List.getElem_cons_zero, List.getElem_cons_succ, List.setIfInBounds_toArray, List.set_cons_zero, List.set_cons_succ]
       refine wpAnyH_take (i := 9) (oi := _) (v := undef) rfl (by kernel_rfl) (by kernel_rfl) (by kernel_rfl) (fun _ _ _ h => h) (Or.inr ⟨by kernel_rfl, rfl⟩) (by assumption) ?_
       try simp only [Act.put, List.getElem_toArray, List.getElem_cons_zero, List.getElem_cons_succ, List.setIfInBounds_toArray, List.set_cons_zero, List.set_cons_succ]
       refine wpAnyH_take (i := 10) (oi := _) (v := undef) rfl (by kernel_rfl) (by kernel_rfl) (by kernel_rfl) (fun _ _ _ h => h) (Or.inr ⟨by kernel_rfl, rfl⟩) (by assumption) ?_
       try simp only [Act.put, List.getElem_toArray, List.getElem_cons_zero, List.getElem_cons_succ, List.setIfInBounds_toArray, List.set_cons_zero, List.set_cons_succ]
       refine wpAnyH_take (i := 11) (oi := _) (v := undef) rfl (by kernel_rfl) (by kernel_rfl) (by kernel_rfl) (fun _ _ _ h => h) (Or.inr ⟨by kernel_rfl, rfl⟩) (by assumption) ?_
       try simp only [Act.put, List.getElem_toArray, List.getElem_cons_zero, List.getElem_cons_succ, List.setIfInBounds_toArray, List.set_cons_zero, List.set_cons_succ]
       refine wpAnyH_take (i := 12) (oi := _) (v := undef) rfl (by kernel_rfl) (by kernel_rfl) (by kernel_rfl) (fun _ _ _ h => h) (Or.inr ⟨by kernel_rfl, rfl⟩) (by assumption) ?_
       try simp only [Act.put, List.getElem_toArray, List.getElem_cons_zero, List.getElem_cons_succ, List.setIfInBounds_toArray, List.set_cons_zero, List.set_cons_succ]
       refine wpAnyH_take (i := 13) (oi := _) (v := ?_) rfl (by kernel_rfl) (by kernel_rfl) (by kernel_rfl) (fun _ _ _ h => h) (Or.inl ⟨by kernel_rfl, ?_⟩) (by assumption) ?_
       rotate_left
       ·intro w hSw
        try dsimp only at hSw
        go_simp
        try (with_reducible rfl)
       try simp only [Act.put, List.getElem_toArray, List.getElem_cons_zero, List.getElem_cons_succ, List.setIfInBounds_toArray, List.set_cons_zero, List.set_cons_succ]
       refine wpAnyH_take (i := 14) (oi := _) (v := ?_) rfl (by kernel_rfl) (by kernel_rfl) (by kernel_rfl) (fun _ _ _ h => h) (Or.inl ⟨by kernel_rfl, ?_⟩) (by assumption) ?_
       rotate_left
       ·intro w hSw
        try dsimp only at hSw
        go_simp
        try (with_reducible rfl)
       try simp only [Act.put, List.getElem_toArray, List.getElem_cons_zero, List.getElem_cons_succ, List.setIfInBounds_toArray, List.set_cons_zero, List.set_cons_succ]
       refine wpAnyH_take (i := 15) (oi := _) (v := ?_) rfl (by kernel_rfl) (by kernel_rfl) (by kernel_rfl) (fun _ _ _ h => h) (Or.inl ⟨by kernel_rfl, ?_⟩) (by assumption) ?_
       rotate_left
       ·intro w hSw
        try dsimp only at hSw
        go_simp
        try (with_reducible rfl)
       try simp only [Act.put, List.getElem_toArray, List.getElem_cons_zero, List.getElem_cons_succ, List.setIfInBounds_toArray, List.set_cons_zero, List.set_cons_succ]
       have HI2 := Lib.hid (HI.out.next hs.2.1)
       refine wpAnyH_done (by kernel_rfl) ?_ _
       refine NoPanic.normal ?_
       clear hs
       (go_wp2; refine ⟨⟨i + 1, by rw [show ((i + 1 : Nat) : Int) = (i : Int) + 1 by omega], by rw [HN.out]; rfl, by omega, by omega, HI2⟩, ?_⟩; simp [intOf]; omega)
      | true =>
       go_wp2
       refine wp_region_noPanic ?_
       refine wp_region_held_drew (S := fun w' => (∀ b o, b < wr.heap.size → w'.cell? ⟨b, o, none⟩ = wr.cell? ⟨b, o, none⟩) ∧ Since wr.heap.size wr w') (by kernel_rfl) (since_start (Nat.le_refl _)) (fun hHeld => ?_)
       have hs := since_start (w0 := wr) (Nat.le_refl wr.heap.size)
       refine wpAnyH_take (i := 0) (oi := _) (v := ?_) rfl (by kernel_rfl) (by kernel_rfl) (by kernel_rfl) (fun _ _ _ h => h) (Or.inl ⟨by kernel_rfl, ?_⟩) (by assumption) ?_
       rotate_left
       ·intro w hSw
        try dsimp only at hSw
        go_simp
        try (with_reducible rfl)
       try simp only [Act.put, List.getElem_toArray, List.getElem_cons_zero, List.getElem_cons_succ, List.setIfInBounds_toArray, List.set_cons_zero, List.set_cons_succ]
       refine wpAnyH_take (i := 1) (oi := _) (v := ?_) rfl (by kernel_rfl) (by kernel_rfl) (by kernel_rfl) (fun _ _ _ h => h) (Or.inl ⟨by kernel_rfl, ?_⟩) (by assumption) ?_
       rotate_left
       ·intro w hSw
        try dsimp only at hSw
        go_simp
        try (with_reducible rfl)
       try simp only [Act.put, List.getElem_toArray, List.getElem_cons_zero, List.getElem_cons_succ, List.setIfInBounds_toArray, List.set_cons_zero, List.set_cons_succ]
       refine wpAnyH_take (i := 2) (oi := _) (v := ?_) rfl (by kernel_rfl) (by kernel_rfl) (by kernel_rfl) (fun _ _ _ h => h) (Or.inl ⟨by kernel_rfl, ?_⟩) (by assumption) ?_
       rotate_left
       ·intro w hSw
        try dsimp only at hSw
        go_simp
        try (with_reducible rfl)
       try simp only [Act.put, List.getElem_toArray, List.getElem_cons_zero, List.getElem_cons_succ, List.setIfInBounds_toArray, List.set_cons_zero, List.set_cons_succ]
       refine wpAnyH_take (i := 3) (oi := _) (v := ?_) rfl (by kernel_rfl) (by kernel_rfl) (by kernel_rfl) (fun _ _ _ h => h) (Or.inl ⟨by kernel_rfl, ?_⟩) (by assumption) ?_
       rotate_left
       ·intro w hSw
        try dsimp only at hSw
        go_simp
        try (with_reducible rfl)
       try simp only [Act.put, List.getElem_toArray, List.getElem_cons_zero, List.getElem_cons_succ, List.setIfInBounds_toArray, List.set_cons_zero, List.set_cons_succ]
       refine wpAnyH_take (i := 4) (oi := _) (v := ?_) rfl (by kernel_rfl) (by kernel_rfl) (by kernel_rfl) (fun _ _ _ h => h) (Or.inl ⟨by kernel_rfl, ?_⟩) (by assumption) ?_
       rotate_left
       ·intro w hSw
        try dsimp only at hSw
        go_simp
        try (with_reducible rfl)
       try simp only [Act.put, List.getElem_toArray, List.getElem_cons_zero, List.getElem_cons_succ, List.setIfInBounds_toArray, List.set_cons_zero, List.set_cons_succ]
       refine wpAnyH_take (i := 5) (oi := _) (v := ?_) rfl (by kernel_rfl) (by kernel_rfl) (by kernel_rfl) (fun _ _ _ h => h) (Or.inl ⟨by kernel_rfl, ?_⟩) (by assumption) ?_
       rotate_left
       ·intro w hSw
        try dsimp only at hSw
        go_simp
        try (with_reducible rfl)
       try simp only [Act.put, List.getElem_toArray, List.getElem_cons_zero, List.getElem_cons_succ, List.setIfInBounds_toArray, List.set_cons_zero, List.set_cons_succ]
       refine wpAnyH_ready (rs := [6]) (by kernel_rfl) (by simp) ?_
       refine AllReadyH.cons (o := _) rfl (fun K hK => ?_) AllReadyH.nil
       go_simp
       go_at_call 12
       refine (HFa.out _ hs.2.1).mono ?_
       rintro e x1 ⟨rfl, hb'⟩
       have hs := since_step hs hb'
       refine hK.out _ _ hs (fun _ => ?_)
       clear hK K hb'
       try simp only [Act.put, List.getElem_toArray, List.getElem_cons_zero, List.getElem_cons_succ, List.setIfInBounds_toArray, List.set_cons_zero, List.set_cons_succ]
       refine wpAnyH_take (i := 7) (oi := _) (v := ?_) rfl (by kernel_rfl) (by kernel_rfl) (by kernel_rfl) (fun _ _ _ h => h) (Or.inl ⟨by kernel_rfl, ?_⟩) (by assumption) ?_
       rotate_left
       ·intro w hSw
        try dsimp only at hSw
        go_simp
        try (with_reducible rfl)
       try simp only [Act.put, List.getElem_toArray, List.getElem_cons_zero, List.getElem_cons_succ, List.setIfInBounds_toArray, List.set_cons_zero, List.set_cons_succ]
       refine wpAnyH_take (i := 8) (oi := _) (v := ?_) rfl (by kernel_rfl) (by kernel_rfl) (by kernel_rfl) (fun _ _ _ h => h) (Or.inl ⟨by kernel_rfl, ?_⟩) (by assumption) ?_
       rotate_left
       ·intro w hSw
        try dsimp only at hSw
        go_simp
        try (with_reducible rfl)
       try simp only [Act.put, List.getElem_toArray, List.getElem_cons_zero, List.getElem_cons_succ, List.setIfInBounds_toArray, List.set_cons_zero, List.set_cons_succ]
       refine wpAnyH_take (i := 9) (oi := _) (v := ?_) rfl (by kernel_rfl) (by kernel_rfl) (by kernel_rfl) (fun _ _ _ h => h) (Or.inl ⟨by kernel_rfl, ?_⟩) (by assumption) ?_
       rotate_left
       ·intro w hSw
        try dsimp only at hSw
        go_simp
        try (with_reducible rfl)
       try simp only [Act.put, List.getElem_toArray, List.getElem_cons_zero, List.getElem_cons_succ, List.setIfInBounds_toArray, List.set_cons_zero, List.set_cons_succ]
       refine wpAnyH_take (i := 10) (oi := _) (v := ?_) rfl (by kernel_rfl) (by kernel_rfl) (by kernel_rfl) (fun _ _ _ h => h) (Or.inl ⟨by kernel_rfl, ?_⟩) (by assumption) ?_
       rotate_left
       ·intro w hSw
        try dsimp only at hSw
        go_simp
        try (with_reducible rfl)
       try simp only [Act.put, List.getElem_toArray, List.getElem_cons_zero, List.getElem_cons_succ, List.setIfInBounds_toArray, List.set_cons_zero, List.set_cons_succ]
       refine wpAnyH_take (i := 11) (oi := _) (v := ?_) rfl (by kernel_rfl) (by kernel_rfl) (by kernel_rfl) (fun _ _ _ h => h) (Or.inl ⟨by kernel_rfl, ?_⟩) (by assumption) ?_
       rotate_left
       ·intro w hSw
        try dsimp only at hSw
        go_simp
        try (with_reducible rfl)
       try simp only [Act.put, List.getElem_toArray, List.getElem_cons_zero, List.getElem_cons_succ, List.setIfInBounds_toArray, List.set_cons_zero, List.set_cons_succ]
       refine wpAnyH_ready (rs := [12]) (by kernel_rfl) (by simp) ?_
       refine AllReadyH.cons (o := _) rfl (fun K hK => ?_) AllReadyH.nil
       go_simp
       go_at_call 12
       refine (HFb.out _ hs.2.1).mono ?_
       rintro e x2 ⟨rfl, hb'⟩
       have hs := since_step hs hb'
       refine hK.out _ _ hs (fun _ => ?_)
       clear hK K hb'
       try simp only [Act.put, List.getElem_toArray, List.getElem_cons_zero, List.getElem_cons_succ, List.setIfInBounds_toArray, List.set_cons_zero, List.set_cons_succ]
       refine wpAnyH_take (i := 13) (oi := _) (v := ?_) rfl (by kernel_rfl) (by kernel_rfl) (by kernel_rfl) (fun _ _ _ h => h) (Or.inl ⟨by kernel_rfl, ?_⟩) (by assumption) ?_
       rotate_left
       ·intro w hSw
        try dsimp only at hSw
        go_simp
        try (with_reducible rfl)
       try simp only [Act.put, List.getElem_toArray, List.getElem_cons_zero, List.getElem_cons_succ, List.setIfInBounds_toArray, List.set_cons_zero, List.set_cons_succ]
       refine wpAnyH_take (i := 14) (oi := _) (v := ?_) rfl (by kernel_rfl) (by kernel_rfl) (by kernel_rfl) (fun _ _ _ h => h) (Or.inl ⟨by kernel_rfl, ?_⟩) (by assumption) ?_
       rotate_left
       ·intro w hSw
        try dsimp only at hSw
        go_simp
        try (with_reducible rfl)
       try simp only [Act.put, List.getElem_toArray, List.getElem_cons_zero, List.getElem_cons_succ, List.setIfInBounds_toArray, List.set_cons_zero, List.set_cons_succ]
       refine wpAnyH_take (i := 15) (oi := _) (v := ?_) rfl (by kernel_rfl) (by kernel_rfl) (by kernel_rfl) (fun _ _ _ h => h) (Or.inl ⟨by kernel_rfl, ?_⟩) (by assumption) ?_
       rotate_left
       ·intro w hSw
        try dsimp only at hSw
        go_simp
        try (with_reducible rfl)
       try simp only [Act.put, List.getElem_toArray, List.getElem_cons_zero, List.getElem_cons_succ, List.setIfInBounds_toArray, List.set_cons_zero, List.set_cons_succ]
       have HI2 := Lib.hid (HI.out.next hs.2.1)
       refine wpAnyH_done (by kernel_rfl) ?_ _
       refine NoPanic.normal ?_
       clear hs
       (go_wp2; refine ⟨⟨i + 1, by rw [show ((i + 1 : Nat) : Int) = (i : Int) + 1 by omega], by rw [HN.out]; rfl, by omega, by omega, HI2⟩, ?_⟩; simp [intOf]; omega)
    ·obtain rfl : i = bs.length + 1 := by omega
     have hdl : ¬ ((bs.length + 1 : Nat) : Int) ≤ (bs.length : Int) := by omega
     obtain ⟨k, hk, hk4⟩ : ∃ k : Nat, (n : Int) % 5 = (k : Int) ∧ k ≤ 4 := ⟨n % 5, by omega, by omega⟩
     have HK4 := Lib.hid hk4
     have hwk : IntKind.i64.wrap ((k : Int) + 1) = (k : Int) + 1 := by rw [IntKind.wrap_i64]; omega
     have HR1 := Lib.hid (fun (W' : World) (h : AgI w W' V cv bs gx gs x st Bx Bs cx cs) => rep_in (lo := (k : Int) + 1) (hi := (k : Int) + 1) rfl h.na (by have := HS.out; omega))
     have HR0 := Lib.hid (fun (W' : World) (h : AgI w W' V cv bs gx gs x st Bx Bs cx cs) => rep_in (lo := (k : Int)) (hi := (k : Int)) rfl h.na (by have := HS.out; omega))
     have HV1 := Lib.hid (show fullB st bs = (L0 || cutB x st bs 1 (bs.length + 1)) by rw [← HX.out, ← HL0.out]; exact star_law (right_under HRS.out) HRS.out (by have := HLen.out; omega))
     have HV2 := Lib.hid (show fullB (repM x ((k : Int) + 1) ((k : Int) + 1)) bs = cutB x (repM x (k : Int) (k : Int)) bs 0 (bs.length + 1) from rep_law (right_under HRS.out) (right_repM HRS.out (k := k + 1) (by omega)) (right_repM HRS.out (k := k) (by omega)) (by have := HLen.out; omega))
     have hzo : (repM x ((k : Int) + 1) ((k : Int) + 1)).size ≤ 4611686018427387903 := by rw [show (repM x ((k : Int) + 1) ((k : Int) + 1)).size = x.size + 1 from size_over 9 x _ _]; have := HS.out; omega
     have hzl : (repM x (k : Int) (k : Int)).size ≤ 4611686018427387903 := by rw [show (repM x (k : Int) (k : Int)).size = x.size + 1 from size_over 9 x _ _]; have := HS.out; omega
     have HZo := Lib.hid hzo
     have HZl := Lib.hid hzl
     generalize repM x ((k : Int) + 1) ((k : Int) + 1) = yo at *
     generalize repM x (k : Int) (k : Int) = yl at *
     generalize cutB x st bs 1 (bs.length + 1) = c1 at *
     clear hk4 hzo hzl
     obtain ⟨p0, p1, p2, p3, p4, p5, p6, p7⟩ : _ ∧ _ ∧ _ ∧ _ ∧ _ ∧ _ ∧ _ ∧ _ := ⟨(HI.out.na.box).cell 0, (HI.out.na.box).cell 1, (HI.out.na.box).cell 2, (HI.out.na.box).cell 3, (HI.out.na.box).cell 4, (HI.out.na.box).cell 5, (HI.out.na.box).cell 6, (HI.out.na.box).cell 7⟩
     simp only [List.getElem?_toArray, List.getElem?_cons_zero, List.getElem?_cons_succ, ndA] at p0 p1 p2 p3 p4 p5 p6 p7
     have pl := (HI.out.na.box).lt
     have HR := Lib.hid (HR1.out _ HI.out)
     unfold ndV at HR
     go_wp2_with fail
     refine HR.out.mono ?_
     rintro e w5 ⟨Bo, co, rfl, hb5, hco, hto⟩
     have hbx : Below w5.heap.size w5 (w5.alloc (.cells (ndA yo Bo co) 28)) := (Below.refl _ _).alloc (Nat.le_refl _) _
     have hb6 := hb5.trans (hbx.mono hb5.size)
     have HI6 := Lib.hid (HI.out.next hb6)
     have HNo := Lib.hid (show NodeIn (w5.alloc (.cells (ndA yo Bo co) 28)) w5.heap.size yo Bo co from ⟨Blk.new w5 _ _, (hto.below hbx).weak (fun c h _ => Nat.lt_of_lt_of_le h hbx.size), hco⟩)
     clear hb5 hbx hb6 hto hco HR HI p0 p1 p2 p3 p4 p5 p6 p7 pl
     unfold ndV
     unfold ndA at HI6 HNo
     dsimp only
     go_upto_region 11 with fail
     generalize hgo : w5.heap.size = go at *
     generalize w5.alloc (.cells #[.int .i64 yo.kind, .int .u64 (word yo.set.testBit 0), .int .u64 (word yo.set.testBit 1), .int .u64 (word yo.set.testBit 2), .int .u64 (word yo.set.testBit 3), .slice Bo yo.kids.len co, .int .i64 yo.lo, .int .i64 yo.hi] 28) = w6 at *
     clear hgo
     obtain ⟨p0, p1, p2, p3, p4, p5, p6, p7⟩ : _ ∧ _ ∧ _ ∧ _ ∧ _ ∧ _ ∧ _ ∧ _ := ⟨(HI6.out.na.box).cell 0, (HI6.out.na.box).cell 1, (HI6.out.na.box).cell 2, (HI6.out.na.box).cell 3, (HI6.out.na.box).cell 4, (HI6.out.na.box).cell 5, (HI6.out.na.box).cell 6, (HI6.out.na.box).cell 7⟩
     simp only [List.getElem?_toArray, List.getElem?_cons_zero, List.getElem?_cons_succ, ndA] at p0 p1 p2 p3 p4 p5 p6 p7
     have pl := (HI6.out.na.box).lt
     have HR := Lib.hid (HR0.out _ HI6.out)
     unfold ndV at HR
     go_wp2_with fail
     refine HR.out.mono ?_
     rintro e w7 ⟨Bl, cl, rfl, hb7, hcl, htl⟩
     have hbx : Below w7.heap.size w7 (w7.alloc (.cells (ndA yl Bl cl) 28)) := (Below.refl _ _).alloc (Nat.le_refl _) _
     have hb8 := hb7.trans (hbx.mono hb7.size)
     have HJ8 := Lib.hid (show Ag2 w (w7.alloc (.cells (ndA yl Bl cl) 28)) V cv bs gx gs go w7.heap.size x st yo yl Bx Bs Bo Bl cx cs co cl from ⟨(HI6.out.next hb8).word, (HI6.out.next hb8).na, (HI6.out.next hb8).nb, HNo.out.next hb8, ⟨Blk.new w7 _ _, (htl.below hbx).weak (fun c h _ => Nat.lt_of_lt_of_le h hbx.size), hcl⟩⟩)
     clear hb7 hbx hb8 htl hcl HR HI6 HNo HR1 HR0 p0 p1 p2 p3 p4 p5 p6 p7 pl
     unfold ndV
     unfold ndA at HJ8
     dsimp only
     go_upto_region 12 with fail
     generalize hgl : w7.heap.size = gl at *
     generalize w7.alloc (.cells #[.int .i64 yl.kind, .int .u64 (word yl.set.testBit 0), .int .u64 (word yl.set.testBit 1), .int .u64 (word yl.set.testBit 2), .int .u64 (word yl.set.testBit 3), .slice Bl yl.kids.len cl, .int .i64 yl.lo, .int .i64 yl.hi] 28) = w8 at *
     clear hgl hk hwk hdl
     go_wp2
     go_loopw [13, 14] (fun v i' wr => ∃ i : Nat, i' = .int .i64 (i : Int) ∧ v = .bool (cutB x yl bs 0 i) ∧ 0 ≤ i ∧ i ≤ bs.length + 1 ∧ Hid (Ag2 w wr V cv bs gx gs go gl x st yo yl Bx Bs Bo Bl cx cs co cl)) (fun _ i' _ => bs.length + 1 - (intOf i').toNat)
     case atStart => exact ⟨0, rfl, by rw [cutB_zero], Nat.le_refl _, by omega, HJ8⟩
     case round =>
      clear HJ8
      obtain ⟨i, rfl, rfl, hi0, hi, HI⟩ := hrel
      by_cases hlt : i ≤ bs.length
      ·have hdl : (i : Int) ≤ (bs.length : Int) := by omega
       obtain ⟨A1, A2, hs1, hs2, hbb⟩ := bytes_cut V bs cv i HI.out.word.cap hlt
       have HIb := Lib.hid hbb
       have hwi : IntKind.i64.wrap ((i : Int) + 1) = (i : Int) + 1 := by rw [IntKind.wrap_i64]; have := HLen.out; omega
       have HN := Lib.hid (cutB_next x yl bs hi0)
       have HFa := Lib.hid (fun (W' : World) (h : Below wr.heap.size wr W') => full_in (HI.out.na.next h) (V := A1) (cv := cv) (bs := bs.take i) ⟨HI.out.word.below.trans (h.mono HI.out.word.below.size), (HIb.out _ _ (HI.out.word.next h).bytes).1, by rw [List.length_take]; have := HI.out.word.cap; omega, (HI.out.word.next h).tab, (HI.out.word.next h).pos⟩ (by have := HS.out; omega))
       have HFb := Lib.hid (fun (W' : World) (h : Below wr.heap.size wr W') => full_in (HI.out.nl.next h) (V := A2) (cv := cv - i) (bs := bs.drop i) ⟨HI.out.word.below.trans (h.mono HI.out.word.below.size), (HIb.out _ _ (HI.out.word.next h).bytes).2, by rw [List.length_drop]; have := HI.out.word.cap; omega, (HI.out.word.next h).tab, (HI.out.word.next h).pos⟩ (HZl.out))
       unfold ndV at HFa HFb
       rw [show (bs.take i).length = i from by rw [List.length_take]; omega] at HFa hs1
       rw [show (bs.drop i).length = bs.length - i from List.length_drop] at HFb hs2
       clear hbb
       obtain ⟨p0, p1, p2, p3, p4, p5, p6, p7⟩ : _ ∧ _ ∧ _ ∧ _ ∧ _ ∧ _ ∧ _ ∧ _ := ⟨(HI.out.na.box).cell 0, (HI.out.na.box).cell 1, (HI.out.na.box).cell 2, (HI.out.na.box).cell 3, (HI.out.na.box).cell 4, (HI.out.na.box).cell 5, (HI.out.na.box).cell 6, (HI.out.na.box).cell 7⟩
       simp only [List.getElem?_toArray, List.getElem?_cons_zero, List.getElem?_cons_succ, ndA] at p0 p1 p2 p3 p4 p5 p6 p7
       have pl := (HI.out.na.box).lt
       obtain ⟨q0, q1, q2, q3, q4, q5, q6, q7⟩ : _ ∧ _ ∧ _ ∧ _ ∧ _ ∧ _ ∧ _ ∧ _ := ⟨(HI.out.nl.box).cell 0, (HI.out.nl.box).cell 1, (HI.out.nl.box).cell 2, (HI.out.nl.box).cell 3, (HI.out.nl.box).cell 4, (HI.out.nl.box).cell 5, (HI.out.nl.box).cell 6, (HI.out.nl.box).cell 7⟩
       simp only [List.getElem?_toArray, List.getElem?_cons_zero, List.getElem?_cons_succ, ndA] at q0 q1 q2 q3 q4 q5 q6 q7
       have ql := (HI.out.nl.box).lt
       generalize cutB x yl bs 0 i = cb0 at *
       generalize fullB x (bs.take i) = fa at *
       generalize fullB yl (bs.drop i) = fb at *
       cases cb0 with
       | true =>
        go_wp2
        go_region
        have HI2 := Lib.hid (HI.out.next (drew_belowM wr))
        (go_wp2; refine ⟨⟨i + 1, by rw [show ((i + 1 : Nat) : Int) = (i : Int) + 1 by omega], by rw [HN.out]; rfl, by omega, by omega, HI2⟩, ?_⟩; simp [intOf]; omega)
       | false =>
        cases fa with
        | false =>
         clear HFb hs2 q0 q1 q2 q3 q4 q5 q6 q7 ql
         go_wp2
         refine wp_region_noPanic ?_
         refine wp_region_held_drew (S := fun w' => (∀ b o, b < wr.heap.size → w'.cell? ⟨b, o, none⟩ = wr.cell? ⟨b, o, none⟩) ∧ Since wr.heap.size wr w') (by kernel_rfl) (since_start (Nat.le_refl _)) (fun hHeld => ?_)
         have hs := since_start (w0 := wr) (Nat.le_refl wr.heap.size)
         refine wpAnyH_take (i := 0) (oi := _) (v := ?_) rfl (by kernel_rfl) (by kernel_rfl) (by kernel_rfl) (fun _ _ _ h => h) (Or.inl ⟨by kernel_rfl, ?_⟩) (by assumption) ?_
         rotate_left
         ·intro w hSw
          try dsimp only at hSw
          go_simp
          try (with_reducible rfl)
         try simp only [Act.put, List.getElem_toArray, List.getElem_cons_zero, List.getElem_cons_succ, List.setIfInBounds_toArray, List.set_cons_zero, List.set_cons_succ]
         refine wpAnyH_take (i := 1) (oi := _) (v := ?_) rfl (by kernel_rfl) (by kernel_rfl) (by kernel_rfl) (fun _ _ _ h => h) (Or.inl ⟨by kernel_rfl, ?_⟩) (by assumption) ?_
         rotate_left
         ·intro w hSw
          try dsimp only at hSw
          go_simp
          try (with_reducible rfl)
         try simp only [Act.put, List.getElem_toArray, List.getElem_cons_zero, List.getElem_cons_succ, List.setIfInBounds_toArray, List.set_cons_zero, List.set_cons_succ]
         refine wpAnyH_take (i := 2) (oi := _) (v := ?_) rfl (by kernel_rfl) (by kernel_rfl) (by kernel_rfl) (fun _ _ _ h => h) (Or.inl ⟨by kernel_rfl, ?_⟩) (by assumption) ?_
         rotate_left
         ·intro w hSw
          try dsimp only at hSw
          go_simp
          try (with_reducible rfl)
         try simp only [Act.put, List.getElem_toArray, List.getElem_cons_zero, List.getElem_cons_succ, List.setIfInBounds_toArray, List.set_cons_zero, List.set_cons_succ]
         refine wpAnyH_take (i := 3) (oi := _) (v := ?_) rfl (by kernel_rfl) (by kernel_rfl) (by kernel_rfl) (fun _ _ _ h => h) (Or.inl ⟨by kernel_rfl, ?_⟩) (by assumption) ?_
         rotate_left
         ·intro w hSw
          try dsimp only at hSw
          go_simp
          try (with_reducible rfl)
         try simp only [Act.put, List.getElem_toArray, List.getElem_cons_zero, List.getElem_cons_succ, List.setIfInBounds_toArray, List.set_cons_zero, List.set_cons_succ]
         refine wpAnyH_take (i := 4) (oi := _) (v := ?_) rfl (by kernel_rfl) (by kernel_rfl) (by kernel_rfl) (fun _ _ _ h => h) (Or.inl ⟨by kernel_rfl, ?_⟩) (by assumption) ?_
         rotate_left
         ·intro w hSw
          try dsimp only at hSw
          go_simp
          try (with_reducible rfl)
         try simp only [Act.put, List.getElem_toArray, List.getElem_cons_zero, List.getElem_cons_succ, List.setIfInBounds_toArray, List.set_cons_zero, List.set_cons_succ]
         refine wpAnyH_take (i := 5) (oi := _) (v := ?_) rfl (by kernel_rfl) (by kernel_rfl) (by kernel_rfl) (fun _ _ _ h => h) (Or.inl ⟨by kernel_rfl, ?_⟩) (by assumption) ?_
         rotate_left
         ·intro w hSw
          try dsimp only at hSw
          go_simp
          try (with_reducible rfl)
         try simp only [Act.put, List.getElem_toArray, List.getElem_cons_zero, List.getElem_cons_succ, List.setIfInBounds_toArray, List.set_cons_zero, List.set_cons_succ]
         refine wpAnyH_ready (rs := [6]) (by kernel_rfl) (by simp) ?_
         refine AllReadyH.cons (o := _) rfl (fun K hK => ?_) AllReadyH.nil
         go_simp
         go_at_call 12
         refine (HFa.out _ hs.2.1).mono ?_
         rintro e x1 ⟨rfl, hb'⟩
         have hs := since_step hs hb'
         refine hK.out _ _ hs (fun _ => ?_)
         clear hK K hb'
         try simp only [Act.put, List.getElem_toArray, List.getElem_cons_zero, List.getElem_cons_succ, List.setIfInBounds_toArray, List.set_cons_zero, List.set_cons_succ]
         refine wpAnyH_take (i := 7) (oi := _) (v := ?_) rfl (by kernel_rfl) (by kernel_rfl) (by kernel_rfl) (fun _ _ _ h => h) (Or.inl ⟨by kernel_rfl, ?_⟩) (by assumption) ?_
         rotate_left
         ·intro w hSw
          try dsimp only at hSw
          go_simp
          try (with_reducible rfl)
         try simp only [Act.put, List.getElem_toArray, List.getElem_cons_zero, List.getElem_cons_succ, List.setIfInBounds_toArray, List.set_cons_zero, List.set_cons_succ]
         refine wpAnyH_take (i := 8) (oi := _) (v := undef) rfl (by kernel_rfl) (by kernel_rfl) (by kernel_rfl) (fun _ _ _ h => h) (Or.inr ⟨by kernel_rfl, rfl⟩) (by assumption) ?_
         try simp only [Act.put, List.getElem_toArray, List.getElem_cons_zero, List.getElem_cons_succ, List.setIfInBounds_toArray, List.set_cons_zero, List.set_cons_succ]
         refine wpAnyH_take (i := 9) (oi := _) (v := undef) rfl (by kernel_rfl) (by kernel_rfl) (by kernel_rfl) (fun _ _ _ h => h) (Or.inr ⟨by kernel_rfl, rfl⟩) (by assumption) ?_
         try simp only [Act.put, List.getElem_toArray, List.getElem_cons_zero, List.getElem_cons_succ, List.setIfInBounds_toArray, List.set_cons_zero, List.set_cons_succ]
         refine wpAnyH_take (i := 10) (oi := _) (v := undef) rfl (by kernel_rfl) (by kernel_rfl) (by kernel_rfl) (fun _ _ _ h => h) (Or.inr ⟨by kernel_rfl, rfl⟩) (by assumption) ?_
         try simp only [Act.put, List.getElem_toArray, List.getElem_cons_zero, List.getElem_cons_succ, List.setIfInBounds_toArray, List.set_cons_zero, List.set_cons_succ]
         refine wpAnyH_take (i := 11) (oi := _) (v := undef) rfl (by kernel_rfl) (by kernel_rfl) (by kernel_rfl) (fun _ _ _ h => h) (Or.inr ⟨by kernel_rfl, rfl⟩) (by assumption) ?_
         try simp only [Act.put, List.getElem_toArray, List.getElem_cons_zero, List.getElem_cons_succ, List.setIfInBounds_toArray, List.set_cons_zero, List.set_cons_succ]
         refine wpAnyH_take (i := 12) (oi := _) (v := undef) rfl (by kernel_rfl) (by kernel_rfl) (by kernel_rfl) (fun _ _ _ h => h) (Or.inr ⟨by kernel_rfl, rfl⟩) (by assumption) ?_
         try simp only [Act.put, List.getElem_toArray, List.getElem_cons_zero, List.getElem_cons_succ, List.setIfInBounds_toArray, List.set_cons_zero, List.set_cons_succ]
         refine wpAnyH_take (i := 13) (oi := _) (v := ?_) rfl (by kernel_rfl) (by kernel_rfl) (by kernel_rfl) (fun _ _ _ h => h) (Or.inl ⟨by kernel_rfl, ?_⟩) (by assumption) ?_
         rotate_left
         ·intro w hSw
          try dsimp only at hSw
          go_simp
          try (with_reducible rfl)
         try simp only [Act.put, List.getElem_toArray, List.getElem_cons_zero, List.getElem_cons_succ, List.setIfInBounds_toArray, List.set_cons_zero, List.set_cons_succ]
         refine wpAnyH_take (i := 14) (oi := _) (v := ?_) rfl (by kernel_rfl) (by kernel_rfl) (by kernel_rfl) (fun _ _ _ h => h) (Or.inl ⟨by kernel_rfl, ?_⟩) (by assumption) ?_
         rotate_left
         ·intro w hSw
          try dsimp only at hSw
          go_simp
          try (with_reducible rfl)
         try simp only [Act.put, List.getElem_toArray, List.getElem_cons_zero, List.getElem_cons_succ, List.setIfInBounds_toArray, List.set_cons_zero, List.set_cons_succ]
         refine wpAnyH_take (i := 15) (oi := _) (v := ?_) rfl (by kernel_rfl) (by kernel_rfl) (by kernel_rfl) (fun _ _ _ h => h) (Or.inl ⟨by kernel_rfl, ?_⟩) (by assumption) ?_
         rotate_left
         ·intro w hSw
          try dsimp only at hSw
          go_simp
          try (with_reducible rfl)
         try simp only [Act.put, List.getElem_toArray, List.getElem_cons_zero, List.getElem_cons_succ, List.setIfInBounds_toArray, List.set_cons_zero, List.set_cons_succ]
         have HI2 := Lib.hid (HI.out.next hs.2.1)
         refine wpAnyH_done (by kernel_rfl) ?_ _
         refine NoPanic.normal ?_
         clear hs
         (go_wp2; refine ⟨⟨i + 1, by rw [show ((i + 1 : Nat) : Int) = (i : Int) + 1 by omega], by rw [HN.out]; rfl, by omega, by omega, HI2⟩, ?_⟩; simp [intOf]; omega)
        | true =>
         go_wp2
         refine wp_region_noPanic ?_
         refine wp_region_held_drew (S := fun w' => (∀ b o, b < wr.heap.size → w'.cell? ⟨b, o, none⟩ = wr.cell? ⟨b, o, none⟩) ∧ Since wr.heap.size wr w') (by kernel_rfl) (since_start (Nat.le_refl _)) (fun hHeld => ?_)
         have hs := since_start (w0 := wr) (Nat.le_refl wr.heap.size)
         refine wpAnyH_take (i := 0) (oi := _) (v := ?_) rfl (by kernel_rfl) (by kernel_rfl) (by kernel_rfl) (fun _ _ _ h => h) (Or.inl ⟨by kernel_rfl, ?_⟩) (by assumption) ?_
         rotate_left
         ·intro w hSw
          try dsimp only at hSw
          go_simp
          try (with_reducible rfl)
         try simp only [Act.put, List.getElem_toArray, List.getElem_cons_zero, List.getElem_cons_succ, List.setIfInBounds_toArray, List.set_cons_zero, List.set_cons_succ]
         refine wpAnyH_take (i := 1) (oi := _) (v := ?_) rfl (by kernel_rfl) (by kernel_rfl) (by kernel_rfl) (fun _ _ _ h => h) (Or.inl ⟨by kernel_rfl, ?_⟩) (by assumption) ?_
         rotate_left
         ·intro w hSw
          try dsimp only at hSw
          go_simp
          try (with_reducible rfl)
         try simp only [Act.put, List.getElem_toArray, List.getElem_cons_zero, List.getElem_cons_succ, List.setIfInBounds_toArray, List.set_cons_zero, List.set_cons_succ]
         refine wpAnyH_take (i := 2) (oi := _) (v := ?_) rfl (by kernel_rfl) (by kernel_rfl) (by kernel_rfl) (fun _ _ _ h => h) (Or.inl ⟨by kernel_rfl, ?_⟩) (by assumption) ?_
         rotate_left
         ·intro w hSw
          try dsimp only at hSw
          go_simp
          try (with_reducible rfl)
         try simp only [Act.put, List.getElem_toArray, List.getElem_cons_zero, List.getElem_cons_succ, List.setIfInBounds_toArray, List.set_cons_zero, List.set_cons_succ]
         refine wpAnyH_take (i := 3) (oi := _) (v := ?_) rfl (by kernel_rfl) (by kernel_rfl) (by kernel_rfl) (fun _ _ _ h => h) (Or.inl ⟨by kernel_rfl, ?_⟩) (by assumption) ?_
         rotate_left
         ·intro w hSw
          try dsimp only at hSw
          go_simp
          try (with_reducible rfl)
         try simp only [Act.put, List.getElem_toArray, List.getElem_cons_zero, List.getElem_cons_succ, List.setIfInBounds_toArray, List.set_cons_zero, List.set_cons_succ]
         refine wpAnyH_take (i := 4) (oi := _) (v := ?_) rfl (by kernel_rfl) (by kernel_rfl) (by kernel_rfl) (fun _ _ _ h => h) (Or.inl ⟨by kernel_rfl, ?_⟩) (by assumption) ?_
         rotate_left
         ·intro w hSw
          try dsimp only at hSw
          go_simp
          try (with_reducible rfl)
         try simp only [Act.put, List.getElem_toArray, List.getElem_cons_zero, List.getElem_cons_succ, List.setIfInBounds_toArray, List.set_cons_zero, List.set_cons_succ]
         refine wpAnyH_take (i := 5) (oi := _) (v := ?_) rfl (by kernel_rfl) (by kernel_rfl) (by kernel_rfl) (fun _ _ _ h => h) (Or.inl ⟨by kernel_rfl, ?_⟩) (by assumption) ?_
         rotate_left
         ·intro w hSw
          try dsimp only at hSw
          go_simp
          try (with_reducible rfl)
         try simp only [Act.put, List.getElem_toArray, List.getElem_cons_zero, List.getElem_cons_succ, List.setIfInBounds_toArray, List.set_cons_zero, List.set_cons_succ]
         refine wpAnyH_ready (rs := [6]) (by kernel_rfl) (by simp) ?_
         refine AllReadyH.cons (o := _) rfl (fun K hK => ?_) AllReadyH.nil
         go_simp
         go_at_call 12
         refine (HFa.out _ hs.2.1).mono ?_
         rintro e x1 ⟨rfl, hb'⟩
         have hs := since_step hs hb'
         refine hK.out _ _ hs (fun _ => ?_)
         clear hK K hb'
         try simp only [Act.put, List.getElem_toArray, List.getElem_cons_zero, List.getElem_cons_succ, List.setIfInBounds_toArray, List.set_cons_zero, List.set_cons_succ]
         refine wpAnyH_take (i := 7) (oi := _) (v := ?_) rfl (by kernel_rfl) (by kernel_rfl) (by kernel_rfl) (fun _ _ _ h => h) (Or.inl ⟨by kernel_rfl, ?_⟩) (by assumption) ?_
         rotate_left
         ·intro w hSw
          try dsimp only at hSw
          go_simp
          try (with_reducible rfl)
         try simp only [Act.put, List.getElem_toArray, List.getElem_cons_zero, List.getElem_cons_succ, List.setIfInBounds_toArray, List.set_cons_zero, List.set_cons_succ]
         refine wpAnyH_take (i := 8) (oi := _) (v := ?_) rfl (by kernel_rfl) (by kernel_rfl) (by kernel_rfl) (fun _ _ _ h => h) (Or.inl ⟨by kernel_rfl, ?_⟩) (by assumption) ?_
         rotate_left
         ·intro w hSw
          try dsimp only at hSw
          go_simp
          try (with_reducible rfl)
         try simp only [Act.put, List.getElem_toArray, List.getElem_cons_zero, List.getElem_cons_succ, List.setIfInBounds_toArray, List.set_cons_zero, List.set_cons_succ]
         refine wpAnyH_take (i := 9) (oi := _) (v := ?_) rfl (by kernel_rfl) (by kernel_rfl) (by kernel_rfl) (fun _ _ _ h => h) (Or.inl ⟨by kernel_rfl, ?_⟩) (by assumption) ?_
         rotate_left
         ·intro w hSw
          try dsimp only at hSw
          go_simp
          try (with_reducible rfl)
         try simp only [Act.put, List.getElem_toArray, List.getElem_cons_zero, List.getElem_cons_succ, List.setIfInBounds_toArray, List.set_cons_zero, List.set_cons_succ]
         refine wpAnyH_take (i := 10) (oi := _) (v := ?_) rfl (by kernel_rfl) (by kernel_rfl) (by kernel_rfl) (fun _ _ _ h => h) (Or.inl ⟨by kernel_rfl, ?_⟩) (by assumption) ?_
         rotate_left
         ·intro w hSw
          try dsimp only at hSw
          go_simp
          try (with_reducible rfl)
         try simp only [Act.put, List.getElem_toArray, List.getElem_cons_zero, List.getElem_cons_succ, List.setIfInBounds_toArray, List.set_cons_zero, List.set_cons_succ]
         refine wpAnyH_take (i := 11) (oi := _) (v := ?_) rfl (by kernel_rfl) (by kernel_rfl) (by kernel_rfl) (fun _ _ _ h => h) (Or.inl ⟨by kernel_rfl, ?_⟩) (by assumption) ?_
         rotate_left
         ·intro w hSw
          try dsimp only at hSw
          go_simp
          try (with_reducible rfl)
         try simp only [Act.put, List.getElem_toArray, List.getElem_cons_zero, List.getElem_cons_succ, List.setIfInBounds_toArray, List.set_cons_zero, List.set_cons_succ]
         refine wpAnyH_ready (rs := [12]) (by kernel_rfl) (by simp) ?_
         refine AllReadyH.cons (o := _) rfl (fun K hK => ?_) AllReadyH.nil
         go_simp
         go_at_call 12
         refine (HFb.out _ hs.2.1).mono ?_
         rintro e x2 ⟨rfl, hb'⟩
         have hs := since_step hs hb'
         refine hK.out _ _ hs (fun _ => ?_)
         clear hK K hb'
         try simp only [Act.put, List.getElem_toArray, List.getElem_cons_zero, List.getElem_cons_succ, List.setIfInBounds_toArray, List.set_cons_zero, List.set_cons_succ]
         refine wpAnyH_take (i := 13) (oi := _) (v := ?_) rfl (by kernel_rfl) (by kernel_rfl) (by kernel_rfl) (fun _ _ _ h => h) (Or.inl ⟨by kernel_rfl, ?_⟩) (by assumption) ?_
         rotate_left
         ·intro w hSw
          try dsimp only at hSw
          go_simp
          try (with_reducible rfl)
         try simp only [Act.put, List.getElem_toArray, List.getElem_cons_zero, List.getElem_cons_succ, List.setIfInBounds_toArray, List.set_cons_zero, List.set_cons_succ]
         refine wpAnyH_take (i := 14) (oi := _) (v := ?_) rfl (by kernel_rfl) (by kernel_rfl) (by kernel_rfl) (fun _ _ _ h => h) (Or.inl ⟨by kernel_rfl, ?_⟩) (by assumption) ?_
         rotate_left
         ·intro w hSw
          try dsimp only at hSw
          go_simp
          try (with_reducible rfl)
         try simp only [Act.put, List.getElem_toArray, List.getElem_cons_zero, List.getElem_cons_succ, List.setIfInBounds_toArray, List.set_cons_zero, List.set_cons_succ]
         refine wpAnyH_take (i := 15) (oi := _) (v := ?_) rfl (by kernel_rfl) (by kernel_rfl) (by kernel_rfl) (fun _ _ _ h => h) (Or.inl ⟨by kernel_rfl, ?_⟩) (by assumption) ?_
         rotate_left
         ·intro w hSw
          try dsimp only at hSw
          go_simp
          try (with_reducible rfl)
         try simp only [Act.put, List.getElem_toArray, List.getElem_cons_zero, List.getElem_cons_succ, List.setIfInBounds_toArray, List.set_cons_zero, List.set_cons_succ]
         have HI2 := Lib.hid (HI.out.next hs.2.1)
         refine wpAnyH_done (by kernel_rfl) ?_ _
         refine NoPanic.normal ?_
         clear hs
         (go_wp2; refine ⟨⟨i + 1, by rw [show ((i + 1 : Nat) : Int) = (i : Int) + 1 by omega], by rw [HN.out]; rfl, by omega, by omega, HI2⟩, ?_⟩; simp [intOf]; omega)
      ·obtain rfl : i = bs.length + 1 := by omega
       have hdl : ¬ ((bs.length + 1 : Nat) : Int) ≤ (bs.length : Int) := by omega
       have HSL := Lib.hid (show L0 = true → (L0 || c1) = true from fun h => by rw [h]; rfl)
       have HV3 := Lib.hid (show fullB (repM x 0 0) bs = L0 by rw [← HL0.out]; exact none_law (right_repM HRS.out (k := 0) (by omega)) (by have := HLen.out; omega))
       have HV4 := Lib.hid (show fullB (plusM x) bs = (fullB st bs && (decide (0 < bs.length) || fullB x bs)) by rw [← HX.out]; exact plus_law (right_under HRS.out) HRS.out (right_plus HRS.out) (by have := HLen.out; omega))
       have HV5 := Lib.hid (show fullB (optM x) bs = (L0 || fullB x bs) by rw [← HL0.out]; exact opt_law (right_under HRS.out) (right_opt HRS.out) (by have := HLen.out; omega))
       have hzz : (repM x 0 0).size ≤ 4611686018427387903 := by rw [show (repM x 0 0).size = x.size + 1 from size_over 9 x _ _]; have := HS.out; omega
       have hzp : (plusM x).size ≤ 4611686018427387903 := by rw [show (plusM x).size = x.size + 1 from size_over 7 x _ _]; have := HS.out; omega
       have hzq : (optM x).size ≤ 4611686018427387903 := by rw [show (optM x).size = x.size + 1 from size_over 8 x _ _]; have := HS.out; omega
       have HFs := Lib.hid (fun (W' : World) (h : Ag2 w W' V cv bs gx gs go gl x st yo yl Bx Bs Bo Bl cx cs co cl) => full_in h.nb h.word HSt.out)
       have HFo := Lib.hid (fun (W' : World) (h : Ag2 w W' V cv bs gx gs go gl x st yo yl Bx Bs Bo Bl cx cs co cl) => full_in h.no h.word HZo.out)
       have HFx := Lib.hid (fun (W' : World) (h : Ag2 w W' V cv bs gx gs go gl x st yo yl Bx Bs Bo Bl cx cs co cl) => full_in h.na h.word (by have := HS.out; omega))
       have HRz := Lib.hid (fun (W' : World) (h : Ag2 w W' V cv bs gx gs go gl x st yo yl Bx Bs Bo Bl cx cs co cl) => rep_in (lo := 0) (hi := 0) rfl h.na (by have := HS.out; omega))
       have HRp := Lib.hid (fun (W' : World) (h : Ag2 w W' V cv bs gx gs go gl x st yo yl Bx Bs Bo Bl cx cs co cl) => plus_in rfl h.na (by have := HS.out; omega))
       have HRq := Lib.hid (fun (W' : World) (h : Ag2 w W' V cv bs gx gs go gl x st yo yl Bx Bs Bo Bl cx cs co cl) => opt_in rfl h.na (by have := HS.out; omega))
       have HFz := Lib.hid (fun (W' : World) (B' : Option Addr) (cap' : Nat) (h : WordIn w W' V cv bs) (hc : (repM x 0 0).kids.len ≤ cap') (ht : TreesAt W' (fun b => b < W'.heap.size) (repM x 0 0).kids B') => pfull_go (repM x 0 0) B' cap' V cv bs W' hzz hc ht h.bytes h.cap h.tab h.pos)
       have HFp := Lib.hid (fun (W' : World) (B' : Option Addr) (cap' : Nat) (h : WordIn w W' V cv bs) (hc : (plusM x).kids.len ≤ cap') (ht : TreesAt W' (fun b => b < W'.heap.size) (plusM x).kids B') => pfull_go (plusM x) B' cap' V cv bs W' hzp hc ht h.bytes h.cap h.tab h.pos)
       have HFq := Lib.hid (fun (W' : World) (B' : Option Addr) (cap' : Nat) (h : WordIn w W' V cv bs) (hc : (optM x).kids.len ≤ cap') (ht : TreesAt W' (fun b => b < W'.heap.size) (optM x).kids B') => pfull_go (optM x) B' cap' V cv bs W' hzq hc ht h.bytes h.cap h.tab h.pos)
       rw [len_pos HL0.out, HV1.out] at HV4
       rw [HV1.out] at HFs
       rw [HV2.out] at HFo
       rw [HV3.out] at HFz
       unfold TreeV ndV at HRz HRp HRq
       unfold ndV at HFs HFo HFx HFz HFp HFq
       clear HV1 HV2 HV3 hzz hzp hzq HRS HX HSt HZo HZl HK4 HNn
       generalize (L0 || c1) = s at *
       generalize cutB x yl bs 0 (bs.length + 1) = o at *
       generalize fullB x bs = f at *
       generalize fullB (plusM x) bs = pv at *
       generalize fullB (optM x) bs = qv at *
       generalize repM x 0 0 = zz at *
       generalize plusM x = yp at *
       generalize optM x = yq at *
       have hss : (s != s) = false := by cases s <;> rfl
       have hoo : (o != o) = false := by cases o <;> rfl
       have hLL : (L0 != L0) = false := by cases L0 <;> rfl
       have hL1 : ((bs.length : Int) == 0) = L0 := len_beq HL0.out
       obtain ⟨r0, r1, r2, r3, r4, r5, r6, r7⟩ : _ ∧ _ ∧ _ ∧ _ ∧ _ ∧ _ ∧ _ ∧ _ := ⟨(HI.out.nb.box).cell 0, (HI.out.nb.box).cell 1, (HI.out.nb.box).cell 2, (HI.out.nb.box).cell 3, (HI.out.nb.box).cell 4, (HI.out.nb.box).cell 5, (HI.out.nb.box).cell 6, (HI.out.nb.box).cell 7⟩
       simp only [List.getElem?_toArray, List.getElem?_cons_zero, List.getElem?_cons_succ, ndA] at r0 r1 r2 r3 r4 r5 r6 r7
       have rl := (HI.out.nb.box).lt
       go_wp2_with fail
       refine (HFs.out _ HI.out).mono ?_
       rintro e v1 ⟨rfl, hb1⟩
       have HI1 := Lib.hid (HI.out.next hb1)
       clear hb1 HI r0 r1 r2 r3 r4 r5 r6 r7 rl
       obtain ⟨r0, r1, r2, r3, r4, r5, r6, r7⟩ : _ ∧ _ ∧ _ ∧ _ ∧ _ ∧ _ ∧ _ ∧ _ := ⟨(HI1.out.no.box).cell 0, (HI1.out.no.box).cell 1, (HI1.out.no.box).cell 2, (HI1.out.no.box).cell 3, (HI1.out.no.box).cell 4, (HI1.out.no.box).cell 5, (HI1.out.no.box).cell 6, (HI1.out.no.box).cell 7⟩
       simp only [List.getElem?_toArray, List.getElem?_cons_zero, List.getElem?_cons_succ, ndA] at r0 r1 r2 r3 r4 r5 r6 r7
       have rl := (HI1.out.no.box).lt
       dsimp only
       go_wp2_with fail
       refine (HFo.out _ HI1.out).mono ?_
       rintro e v2 ⟨rfl, hb2⟩
       have HI2 := Lib.hid (HI1.out.next hb2)
       clear hb2 HI1 r0 r1 r2 r3 r4 r5 r6 r7 rl
       obtain ⟨r0, r1, r2, r3, r4, r5, r6, r7⟩ : _ ∧ _ ∧ _ ∧ _ ∧ _ ∧ _ ∧ _ ∧ _ := ⟨(HI2.out.na.box).cell 0, (HI2.out.na.box).cell 1, (HI2.out.na.box).cell 2, (HI2.out.na.box).cell 3, (HI2.out.na.box).cell 4, (HI2.out.na.box).cell 5, (HI2.out.na.box).cell 6, (HI2.out.na.box).cell 7⟩
       simp only [List.getElem?_toArray, List.getElem?_cons_zero, List.getElem?_cons_succ, ndA] at r0 r1 r2 r3 r4 r5 r6 r7
       have rl := (HI2.out.na.box).lt
       dsimp only
       go_wp2_with fail
       refine (HRz.out _ HI2.out).mono ?_
       rintro e v3 ⟨Bz, cz, rfl, hb3, hcz, htz⟩
       have HI3 := Lib.hid (HI2.out.next hb3)
       have HF3 := Lib.hid (HFz.out _ Bz cz HI3.out.word hcz htz)
       clear hb3 HI2 hcz htz r0 r1 r2 r3 r4 r5 r6 r7 rl
       dsimp only
       go_wp2_with fail
       refine HF3.out.mono ?_
       rintro e wr ⟨rfl, hb4⟩
       have HI := Lib.hid (HI3.out.next hb4)
       clear hb4 HI3 HF3 HFo HFz HRz
       dsimp only
       go_upto_region 19 with fail
       clear hss hoo hLL
       have hgt : decide ((0 : Int) < (bs.length : Int)) = !L0 := len_posI HL0.out
       clear HL0
       obtain ⟨p0, p1, p2, p3, p4, p5, p6, p7⟩ : _ ∧ _ ∧ _ ∧ _ ∧ _ ∧ _ ∧ _ ∧ _ := ⟨(HI.out.na.box).cell 0, (HI.out.na.box).cell 1, (HI.out.na.box).cell 2, (HI.out.na.box).cell 3, (HI.out.na.box).cell 4, (HI.out.na.box).cell 5, (HI.out.na.box).cell 6, (HI.out.na.box).cell 7⟩
       simp only [List.getElem?_toArray, List.getElem?_cons_zero, List.getElem?_cons_succ, ndA] at p0 p1 p2 p3 p4 p5 p6 p7
       have pl := (HI.out.na.box).lt
       obtain ⟨r0, r1, r2, r3, r4, r5, r6, r7⟩ : _ ∧ _ ∧ _ ∧ _ ∧ _ ∧ _ ∧ _ ∧ _ := ⟨(HI.out.nb.box).cell 0, (HI.out.nb.box).cell 1, (HI.out.nb.box).cell 2, (HI.out.nb.box).cell 3, (HI.out.nb.box).cell 4, (HI.out.nb.box).cell 5, (HI.out.nb.box).cell 6, (HI.out.nb.box).cell 7⟩
       simp only [List.getElem?_toArray, List.getElem?_cons_zero, List.getElem?_cons_succ, ndA] at r0 r1 r2 r3 r4 r5 r6 r7
       have rl := (HI.out.nb.box).lt
       refine wp_region_noPanic ?_
       refine wp_region_held_drew (S := fun w' => (∀ b o, b < wr.heap.size → w'.cell? ⟨b, o, none⟩ = wr.cell? ⟨b, o, none⟩) ∧ Since wr.heap.size wr w') (by kernel_rfl) (since_start (Nat.le_refl _)) (fun hHeld => ?_)
       have hs := since_start (w0 := wr) (Nat.le_refl wr.heap.size)
       refine wpAnyH_take (i := 0) (oi := _) (v := ?_) rfl (by kernel_rfl) (by kernel_rfl) (by kernel_rfl) (fun _ _ _ h => h) (Or.inl ⟨by kernel_rfl, ?_⟩) (by assumption) ?_
       rotate_left
       ·intro w hSw
        try dsimp only at hSw
        go_simp
        try (with_reducible rfl)
       try simp only [Act.put, List.getElem_toArray, List.getElem_cons_zero, List.getElem_cons_succ, List.setIfInBounds_toArray, List.set_cons_zero, List.set_cons_succ]
       refine wpAnyH_take (i := 2) (oi := _) (v := ?_) rfl (by kernel_rfl) (by kernel_rfl) (by kernel_rfl) (fun _ _ _ h => h) (Or.inl ⟨by kernel_rfl, ?_⟩) (by assumption) ?_
       rotate_left
       ·intro w hSw
        try dsimp only at hSw
        go_simp
        try (with_reducible rfl)
       try simp only [Act.put, List.getElem_toArray, List.getElem_cons_zero, List.getElem_cons_succ, List.setIfInBounds_toArray, List.set_cons_zero, List.set_cons_succ]
       refine wpAnyH_take (i := 4) (oi := _) (v := ?_) rfl (by kernel_rfl) (by kernel_rfl) (by kernel_rfl) (fun _ _ _ h => h) (Or.inl ⟨by kernel_rfl, ?_⟩) (by assumption) ?_
       rotate_left
       ·intro w hSw
        try dsimp only at hSw
        go_simp
        try (with_reducible rfl)
       try simp only [Act.put, List.getElem_toArray, List.getElem_cons_zero, List.getElem_cons_succ, List.setIfInBounds_toArray, List.set_cons_zero, List.set_cons_succ]
       refine wpAnyH_take (i := 5) (oi := _) (v := ?_) rfl (by kernel_rfl) (by kernel_rfl) (by kernel_rfl) (fun _ _ _ h => h) (Or.inl ⟨by kernel_rfl, ?_⟩) (by assumption) ?_
       rotate_left
       ·intro w hSw
        try dsimp only at hSw
        go_simp
        try (with_reducible rfl)
       try simp only [Act.put, List.getElem_toArray, List.getElem_cons_zero, List.getElem_cons_succ, List.setIfInBounds_toArray, List.set_cons_zero, List.set_cons_succ]
       refine wpAnyH_ready (rs := [1]) (by kernel_rfl) (by simp) ?_
       refine AllReadyH.cons (o := _) rfl (fun K hK => ?_) AllReadyH.nil
       go_simp
       go_at_call 19
       refine (HRp.out _ (HI.out.next hs.2.1)).mono ?_
       rintro e x1 ⟨B9, c9, rfl, hb', hc9, ht9⟩
       have hs := since_step hs hb'
       have HF9 := Lib.hid ((HFp).out _ B9 c9 (HI.out.next hs.2.1).word hc9 ht9)
       refine hK.out _ _ hs (fun _ => ?_)
       clear hK K hb' hc9 ht9
       try simp only [Act.put, List.getElem_toArray, List.getElem_cons_zero, List.getElem_cons_succ, List.setIfInBounds_toArray, List.set_cons_zero, List.set_cons_succ]
       refine wpAnyH_ready (rs := [3]) (by kernel_rfl) (by simp) ?_
       refine AllReadyH.cons (o := _) rfl (fun K hK => ?_) AllReadyH.nil
       go_simp
       go_at_call 12
       refine (HF9.out).mono ?_
       rintro e x2 ⟨rfl, hb'⟩
       have hs := since_step hs hb'
       refine hK.out _ _ hs (fun _ => ?_)
       clear hK K hb'
       try simp only [Act.put, List.getElem_toArray, List.getElem_cons_zero, List.getElem_cons_succ, List.setIfInBounds_toArray, List.set_cons_zero, List.set_cons_succ]
       clear HF9
       refine wpAnyH_ready (rs := [6]) (by kernel_rfl) (by simp) ?_
       refine AllReadyH.cons (o := _) rfl (fun K hK => ?_) AllReadyH.nil
       go_simp
       go_at_call 12
       refine (HFs.out _ (HI.out.next hs.2.1)).mono ?_
       rintro e x3 ⟨rfl, hb'⟩
       have hs := since_step hs hb'
       refine hK.out _ _ hs (fun _ => ?_)
       clear hK K hb'
       try simp only [Act.put, List.getElem_toArray, List.getElem_cons_zero, List.getElem_cons_succ, List.setIfInBounds_toArray, List.set_cons_zero, List.set_cons_succ]
       refine wpAnyH_take (i := 7) (oi := _) (v := ?_) rfl (by kernel_rfl) (by kernel_rfl) (by kernel_rfl) (fun _ _ _ h => h) (Or.inl ⟨by kernel_rfl, ?_⟩) (by assumption) ?_
       rotate_left
       ·intro w hSw
        try dsimp only at hSw
        go_simp
        try (with_reducible rfl)
       try simp only [Act.put, List.getElem_toArray, List.getElem_cons_zero, List.getElem_cons_succ, List.setIfInBounds_toArray, List.set_cons_zero, List.set_cons_succ]
       cases L0 with
       | true =>
        simp only [Bool.not_true] at hgt
        have hpn : ¬ 0 < bs.length := by have := of_decide_eq_false hgt; omega
        cases s with
        | false => exact absurd (HSL.out rfl) (by decide)
        | true =>
         cases f <;> cases pv <;> cases qv <;> first | (exact absurd HV4.out (by decide)) | (exact absurd HV5.out (by decide)) | skip
         all_goals
          refine wpAnyH_take (i := 8) (oi := _) (v := ?_) rfl (by kernel_rfl) (by kernel_rfl) (by kernel_rfl) (fun _ _ _ h => h) (Or.inl ⟨by kernel_rfl, ?_⟩) (by assumption) ?_
          rotate_left
          ·intro w hSw
           try dsimp only at hSw
           go_simp
           try (with_reducible rfl)
          try simp only [Act.put, List.getElem_toArray, List.getElem_cons_zero, List.getElem_cons_succ, List.setIfInBounds_toArray, List.set_cons_zero, List.set_cons_succ]
          refine wpAnyH_take (i := 9) (oi := _) (v := ?_) rfl (by kernel_rfl) (by kernel_rfl) (by kernel_rfl) (fun _ _ _ h => h) (Or.inl ⟨by kernel_rfl, ?_⟩) (by assumption) ?_
          rotate_left
          ·intro w hSw
           try dsimp only at hSw
           go_simp
           try (with_reducible rfl)
          try simp only [Act.put, List.getElem_toArray, List.getElem_cons_zero, List.getElem_cons_succ, List.setIfInBounds_toArray, List.set_cons_zero, List.set_cons_succ]
          refine wpAnyH_take (i := 10) (oi := _) (v := ?_) rfl (by kernel_rfl) (by kernel_rfl) (by kernel_rfl) (fun _ _ _ h => h) (Or.inl ⟨by kernel_rfl, ?_⟩) (by assumption) ?_
          rotate_left
          ·intro w hSw
           try dsimp only at hSw
           go_simp
           try (with_reducible rfl)
          try simp only [Act.put, List.getElem_toArray, List.getElem_cons_zero, List.getElem_cons_succ, List.setIfInBounds_toArray, List.set_cons_zero, List.set_cons_succ]
          refine wpAnyH_take (i := 11) (oi := _) (v := ?_) rfl (by kernel_rfl) (by kernel_rfl) (by kernel_rfl) (fun _ _ _ h => h) (Or.inl ⟨by kernel_rfl, ?_⟩) (by assumption) ?_
          rotate_left
          ·intro w hSw
           try dsimp only at hSw
           go_simp
           try (with_reducible rfl)
          try simp only [Act.put, List.getElem_toArray, List.getElem_cons_zero, List.getElem_cons_succ, List.setIfInBounds_toArray, List.set_cons_zero, List.set_cons_succ]
          refine wpAnyH_take (i := 12) (oi := _) (v := ?_) rfl (by kernel_rfl) (by kernel_rfl) (by kernel_rfl) (fun _ _ _ h => h) (Or.inl ⟨by kernel_rfl, ?_⟩) (by assumption) ?_
          rotate_left
          ·intro w hSw
           try dsimp only at hSw
           go_simp
           try (with_reducible rfl)
          try simp only [Act.put, List.getElem_toArray, List.getElem_cons_zero, List.getElem_cons_succ, List.setIfInBounds_toArray, List.set_cons_zero, List.set_cons_succ]
          refine wpAnyH_take (i := 13) (oi := _) (v := ?_) rfl (by kernel_rfl) (by kernel_rfl) (by kernel_rfl) (fun _ _ _ h => h) (Or.inl ⟨by kernel_rfl, ?_⟩) (by assumption) ?_
          rotate_left
          ·intro w hSw
           try dsimp only at hSw
           go_simp
           try (with_reducible rfl)
          try simp only [Act.put, List.getElem_toArray, List.getElem_cons_zero, List.getElem_cons_succ, List.setIfInBounds_toArray, List.set_cons_zero, List.set_cons_succ]
          refine wpAnyH_ready (rs := [14]) (by kernel_rfl) (by simp) ?_
          refine AllReadyH.cons (o := _) rfl (fun K hK => ?_) AllReadyH.nil
          go_simp
          go_at_call 12
          refine (HFx.out _ (HI.out.next hs.2.1)).mono ?_
          rintro e x4 ⟨rfl, hb'⟩
          have hs := since_step hs hb'
          refine hK.out _ _ hs (fun _ => ?_)
          clear hK K hb'
          try simp only [Act.put, List.getElem_toArray, List.getElem_cons_zero, List.getElem_cons_succ, List.setIfInBounds_toArray, List.set_cons_zero, List.set_cons_succ]
          refine wpAnyH_take (i := 15) (oi := _) (v := ?_) rfl (by kernel_rfl) (by kernel_rfl) (by kernel_rfl) (fun _ _ _ h => h) (Or.inl ⟨by kernel_rfl, ?_⟩) (by assumption) ?_
          rotate_left
          ·intro w hSw
           try dsimp only at hSw
           go_simp
           try (with_reducible rfl)
          try simp only [Act.put, List.getElem_toArray, List.getElem_cons_zero, List.getElem_cons_succ, List.setIfInBounds_toArray, List.set_cons_zero, List.set_cons_succ]
          refine wpAnyH_take (i := 16) (oi := _) (v := ?_) rfl (by kernel_rfl) (by kernel_rfl) (by kernel_rfl) (fun _ _ _ h => h) (Or.inl ⟨by kernel_rfl, ?_⟩) (by assumption) ?_
          rotate_left
          ·intro w hSw
           try dsimp only at hSw
           go_simp
           try (with_reducible rfl)
          try simp only [Act.put, List.getElem_toArray, List.getElem_cons_zero, List.getElem_cons_succ, List.setIfInBounds_toArray, List.set_cons_zero, List.set_cons_succ]
          refine wpAnyH_take (i := 17) (oi := _) (v := ?_) rfl (by kernel_rfl) (by kernel_rfl) (by kernel_rfl) (fun _ _ _ h => h) (Or.inl ⟨by kernel_rfl, ?_⟩) (by assumption) ?_
          rotate_left
          ·intro w hSw
           try dsimp only at hSw
           go_simp
           try (with_reducible rfl)
          try simp only [Act.put, List.getElem_toArray, List.getElem_cons_zero, List.getElem_cons_succ, List.setIfInBounds_toArray, List.set_cons_zero, List.set_cons_succ]
          refine wpAnyH_take (i := 18) (oi := _) (v := ?_) rfl (by kernel_rfl) (by kernel_rfl) (by kernel_rfl) (fun _ _ _ h => h) (Or.inl ⟨by kernel_rfl, ?_⟩) (by assumption) ?_
          rotate_left
          ·intro w hSw
           try dsimp only at hSw
           go_simp
           try (with_reducible rfl)
          try simp only [Act.put, List.getElem_toArray, List.getElem_cons_zero, List.getElem_cons_succ, List.setIfInBounds_toArray, List.set_cons_zero, List.set_cons_succ]
          refine wpAnyH_take (i := 19) (oi := _) (v := ?_) rfl (by kernel_rfl) (by kernel_rfl) (by kernel_rfl) (fun _ _ _ h => h) (Or.inl ⟨by kernel_rfl, ?_⟩) (by assumption) ?_
          rotate_left
          ·intro w hSw
           try dsimp only at hSw
           go_simp
           try (with_reducible rfl)
          try simp only [Act.put, List.getElem_toArray, List.getElem_cons_zero, List.getElem_cons_succ, List.setIfInBounds_toArray, List.set_cons_zero, List.set_cons_succ]
          refine wpAnyH_take (i := 21) (oi := _) (v := ?_) rfl (by kernel_rfl) (by kernel_rfl) (by kernel_rfl) (fun _ _ _ h => h) (Or.inl ⟨by kernel_rfl, ?_⟩) (by assumption) ?_
          rotate_left
          ·intro w hSw
           try dsimp only at hSw
           go_simp
           try (with_reducible rfl)
          try simp only [Act.put, List.getElem_toArray, List.getElem_cons_zero, List.getElem_cons_succ, List.setIfInBounds_toArray, List.set_cons_zero, List.set_cons_succ]
          refine wpAnyH_take (i := 23) (oi := _) (v := ?_) rfl (by kernel_rfl) (by kernel_rfl) (by kernel_rfl) (fun _ _ _ h => h) (Or.inl ⟨by kernel_rfl, ?_⟩) (by assumption) ?_
          rotate_left
          ·intro w hSw
           try dsimp only at hSw
           go_simp
           try (with_reducible rfl)
          try simp only [Act.put, List.getElem_toArray, List.getElem_cons_zero, List.getElem_cons_succ, List.setIfInBounds_toArray, List.set_cons_zero, List.set_cons_succ]
          refine wpAnyH_take (i := 24) (oi := _) (v := ?_) rfl (by kernel_rfl) (by kernel_rfl) (by kernel_rfl) (fun _ _ _ h => h) (Or.inl ⟨by kernel_rfl, ?_⟩) (by assumption) ?_
          rotate_left
          ·intro w hSw
           try dsimp only at hSw
           go_simp
           try (with_reducible rfl)
          try simp only [Act.put, List.getElem_toArray, List.getElem_cons_zero, List.getElem_cons_succ, List.setIfInBounds_toArray, List.set_cons_zero, List.set_cons_succ]
          refine wpAnyH_take (i := 25) (oi := _) (v := ?_) rfl (by kernel_rfl) (by kernel_rfl) (by kernel_rfl) (fun _ _ _ h => h) (Or.inl ⟨by kernel_rfl, ?_⟩) (by assumption) ?_
          rotate_left
          ·intro w hSw
           try dsimp only at hSw
           go_simp
           try (with_reducible rfl)
          try simp only [Act.put, List.getElem_toArray, List.getElem_cons_zero, List.getElem_cons_succ, List.setIfInBounds_toArray, List.set_cons_zero, List.set_cons_succ]
          refine wpAnyH_ready (rs := [20]) (by kernel_rfl) (by simp) ?_
          refine AllReadyH.cons (o := _) rfl (fun K hK => ?_) AllReadyH.nil
          go_simp
          go_at_call 20
          refine (HRq.out _ (HI.out.next hs.2.1)).mono ?_
          rintro e x5 ⟨B9, c9, rfl, hb', hc9, ht9⟩
          have hs := since_step hs hb'
          have HF9 := Lib.hid ((HFq).out _ B9 c9 (HI.out.next hs.2.1).word hc9 ht9)
          refine hK.out _ _ hs (fun _ => ?_)
          clear hK K hb' hc9 ht9
          try simp only [Act.put, List.getElem_toArray, List.getElem_cons_zero, List.getElem_cons_succ, List.setIfInBounds_toArray, List.set_cons_zero, List.set_cons_succ]
          refine wpAnyH_ready (rs := [22]) (by kernel_rfl) (by simp) ?_
          refine AllReadyH.cons (o := _) rfl (fun K hK => ?_) AllReadyH.nil
          go_simp
          go_at_call 12
          refine (HF9.out).mono ?_
          rintro e x6 ⟨rfl, hb'⟩
          have hs := since_step hs hb'
          refine hK.out _ _ hs (fun _ => ?_)
          clear hK K hb'
          try simp only [Act.put, List.getElem_toArray, List.getElem_cons_zero, List.getElem_cons_succ, List.setIfInBounds_toArray, List.set_cons_zero, List.set_cons_succ]
          clear HF9
          refine wpAnyH_take (i := 26) (oi := _) (v := ?_) rfl (by kernel_rfl) (by kernel_rfl) (by kernel_rfl) (fun _ _ _ h => h) (Or.inl ⟨by kernel_rfl, ?_⟩) (by assumption) ?_
          rotate_left
          ·intro w hSw
           try dsimp only at hSw
           go_simp
           try (with_reducible rfl)
          try simp only [Act.put, List.getElem_toArray, List.getElem_cons_zero, List.getElem_cons_succ, List.setIfInBounds_toArray, List.set_cons_zero, List.set_cons_succ]
          refine wpAnyH_take (i := 27) (oi := _) (v := undef) rfl (by kernel_rfl) (by kernel_rfl) (by kernel_rfl) (fun _ _ _ h => h) (Or.inr ⟨by kernel_rfl, rfl⟩) (by assumption) ?_
          try simp only [Act.put, List.getElem_toArray, List.getElem_cons_zero, List.getElem_cons_succ, List.setIfInBounds_toArray, List.set_cons_zero, List.set_cons_succ]
          refine wpAnyH_take (i := 28) (oi := _) (v := undef) rfl (by kernel_rfl) (by kernel_rfl) (by kernel_rfl) (fun _ _ _ h => h) (Or.inr ⟨by kernel_rfl, rfl⟩) (by assumption) ?_
          try simp only [Act.put, List.getElem_toArray, List.getElem_cons_zero, List.getElem_cons_succ, List.setIfInBounds_toArray, List.set_cons_zero, List.set_cons_succ]
          refine wpAnyH_take (i := 29) (oi := _) (v := undef) rfl (by kernel_rfl) (by kernel_rfl) (by kernel_rfl) (fun _ _ _ h => h) (Or.inr ⟨by kernel_rfl, rfl⟩) (by assumption) ?_
          try simp only [Act.put, List.getElem_toArray, List.getElem_cons_zero, List.getElem_cons_succ, List.setIfInBounds_toArray, List.set_cons_zero, List.set_cons_succ]
          refine wpAnyH_take (i := 30) (oi := _) (v := ?_) rfl (by kernel_rfl) (by kernel_rfl) (by kernel_rfl) (fun _ _ _ h => h) (Or.inl ⟨by kernel_rfl, ?_⟩) (by assumption) ?_
          rotate_left
          ·intro w hSw
           try dsimp only at hSw
           go_simp
           try (with_reducible rfl)
          try simp only [Act.put, List.getElem_toArray, List.getElem_cons_zero, List.getElem_cons_succ, List.setIfInBounds_toArray, List.set_cons_zero, List.set_cons_succ]
          refine wpAnyH_take (i := 31) (oi := _) (v := ?_) rfl (by kernel_rfl) (by kernel_rfl) (by kernel_rfl) (fun _ _ _ h => h) (Or.inl ⟨by kernel_rfl, ?_⟩) (by assumption) ?_
          rotate_left
          ·intro w hSw
           try dsimp only at hSw
           go_simp
           try (with_reducible rfl)
          try simp only [Act.put, List.getElem_toArray, List.getElem_cons_zero, List.getElem_cons_succ, List.setIfInBounds_toArray, List.set_cons_zero, List.set_cons_succ]
          refine wpAnyH_take (i := 32) (oi := _) (v := ?_) rfl (by kernel_rfl) (by kernel_rfl) (by kernel_rfl) (fun _ _ _ h => h) (Or.inl ⟨by kernel_rfl, ?_⟩) (by assumption) ?_
          rotate_left
          ·intro w hSw
           try dsimp only at hSw
           go_simp
           try (with_reducible rfl)
          try simp only [Act.put, List.getElem_toArray, List.getElem_cons_zero, List.getElem_cons_succ, List.setIfInBounds_toArray, List.set_cons_zero, List.set_cons_succ]
          refine wpAnyH_take (i := 33) (oi := _) (v := ?_) rfl (by kernel_rfl) (by kernel_rfl) (by kernel_rfl) (fun _ _ _ h => h) (Or.inl ⟨by kernel_rfl, ?_⟩) (by assumption) ?_
          rotate_left
          ·intro w hSw
           try dsimp only at hSw
           go_simp
           try (with_reducible rfl)
          try simp only [Act.put, List.getElem_toArray, List.getElem_cons_zero, List.getElem_cons_succ, List.setIfInBounds_toArray, List.set_cons_zero, List.set_cons_succ]
          refine wpAnyH_ready (rs := [34]) (by kernel_rfl) (by simp) ?_
          refine AllReadyH.cons (o := _) rfl (fun K hK => ?_) AllReadyH.nil
          go_simp
          go_at_call 8
          refine (knows11_go _ (HI.out.next hs.2.1).word.tab (HI.out.next hs.2.1).word.pos).mono ?_
          rintro e x8 ⟨rfl, hb'⟩
          have hs := since_step hs hb'
          refine hK.out _ _ hs (fun _ => ?_)
          clear hK K hb'
          try simp only [Act.put, List.getElem_toArray, List.getElem_cons_zero, List.getElem_cons_succ, List.setIfInBounds_toArray, List.set_cons_zero, List.set_cons_succ]
          refine wpAnyH_take (i := 35) (oi := _) (v := ?_) rfl (by kernel_rfl) (by kernel_rfl) (by kernel_rfl) (fun _ _ _ h => h) (Or.inl ⟨by kernel_rfl, ?_⟩) (by assumption) ?_
          rotate_left
          ·intro w hSw
           try dsimp only at hSw
           go_simp
           try (with_reducible rfl)
          try simp only [Act.put, List.getElem_toArray, List.getElem_cons_zero, List.getElem_cons_succ, List.setIfInBounds_toArray, List.set_cons_zero, List.set_cons_succ]
          refine wpAnyH_take (i := 36) (oi := _) (v := ?_) rfl (by kernel_rfl) (by kernel_rfl) (by kernel_rfl) (fun _ _ _ h => h) (Or.inl ⟨by kernel_rfl, ?_⟩) (by assumption) ?_
          rotate_left
          ·intro w hSw
           try dsimp only at hSw
           go_simp
           try (with_reducible rfl)
          try simp only [Act.put, List.getElem_toArray, List.getElem_cons_zero, List.getElem_cons_succ, List.setIfInBounds_toArray, List.set_cons_zero, List.set_cons_succ]
          have HB9 := Lib.hid (HI.out.next hs.2.1).word.below
          refine wpAnyH_done (by kernel_rfl) ?_ _
          refine NoPanic.normal ?_
          clear hs
          go_wp2
          go_light
          go_ret
          exact ⟨rfl, HB9.out⟩
       | false =>
        simp only [Bool.not_false] at hgt
        have hpn : 0 < bs.length := by have := of_decide_eq_true hgt; omega
        cases s with
        | false =>
         cases f <;> cases pv <;> cases qv <;> first | (exact absurd HV4.out (by decide)) | (exact absurd HV5.out (by decide)) | skip
         all_goals
          refine wpAnyH_take (i := 8) (oi := _) (v := undef) rfl (by kernel_rfl) (by kernel_rfl) (by kernel_rfl) (fun _ _ _ h => h) (Or.inr ⟨by kernel_rfl, rfl⟩) (by assumption) ?_
          try simp only [Act.put, List.getElem_toArray, List.getElem_cons_zero, List.getElem_cons_succ, List.setIfInBounds_toArray, List.set_cons_zero, List.set_cons_succ]
          refine wpAnyH_take (i := 9) (oi := _) (v := undef) rfl (by kernel_rfl) (by kernel_rfl) (by kernel_rfl) (fun _ _ _ h => h) (Or.inr ⟨by kernel_rfl, rfl⟩) (by assumption) ?_
          try simp only [Act.put, List.getElem_toArray, List.getElem_cons_zero, List.getElem_cons_succ, List.setIfInBounds_toArray, List.set_cons_zero, List.set_cons_succ]
          refine wpAnyH_take (i := 10) (oi := _) (v := undef) rfl (by kernel_rfl) (by kernel_rfl) (by kernel_rfl) (fun _ _ _ h => h) (Or.inr ⟨by kernel_rfl, rfl⟩) (by assumption) ?_
          try simp only [Act.put, List.getElem_toArray, List.getElem_cons_zero, List.getElem_cons_succ, List.setIfInBounds_toArray, List.set_cons_zero, List.set_cons_succ]
          refine wpAnyH_take (i := 11) (oi := _) (v := undef) rfl (by kernel_rfl) (by kernel_rfl) (by kernel_rfl) (fun _ _ _ h => h) (Or.inr ⟨by kernel_rfl, rfl⟩) (by assumption) ?_
          try simp only [Act.put, List.getElem_toArray, List.getElem_cons_zero, List.getElem_cons_succ, List.setIfInBounds_toArray, List.set_cons_zero, List.set_cons_succ]
          refine wpAnyH_take (i := 12) (oi := _) (v := undef) rfl (by kernel_rfl) (by kernel_rfl) (by kernel_rfl) (fun _ _ _ h => h) (Or.inr ⟨by kernel_rfl, rfl⟩) (by assumption) ?_
          try simp only [Act.put, List.getElem_toArray, List.getElem_cons_zero, List.getElem_cons_succ, List.setIfInBounds_toArray, List.set_cons_zero, List.set_cons_succ]
          refine wpAnyH_take (i := 13) (oi := _) (v := undef) rfl (by kernel_rfl) (by kernel_rfl) (by kernel_rfl) (fun _ _ _ h => h) (Or.inr ⟨by kernel_rfl, rfl⟩) (by assumption) ?_
          try simp only [Act.put, List.getElem_toArray, List.getElem_cons_zero, List.getElem_cons_succ, List.setIfInBounds_toArray, List.set_cons_zero, List.set_cons_succ]
          refine wpAnyH_take (i := 14) (oi := _) (v := undef) rfl (by kernel_rfl) (by kernel_rfl) (by kernel_rfl) (fun _ _ _ h => h) (Or.inr ⟨by kernel_rfl, rfl⟩) (by assumption) ?_
          try simp only [Act.put, List.getElem_toArray, List.getElem_cons_zero, List.getElem_cons_succ, List.setIfInBounds_toArray, List.set_cons_zero, List.set_cons_succ]
          refine wpAnyH_take (i := 15) (oi := _) (v := undef) rfl (by kernel_rfl) (by kernel_rfl) (by kernel_rfl) (fun _ _ _ h => h) (Or.inr ⟨by kernel_rfl, rfl⟩) (by assumption) ?_
          try simp only [Act.put, List.getElem_toArray, List.getElem_cons_zero, List.getElem_cons_succ, List.setIfInBounds_toArray, List.set_cons_zero, List.set_cons_succ]
          refine wpAnyH_take (i := 16) (oi := _) (v := ?_) rfl (by kernel_rfl) (by kernel_rfl) (by kernel_rfl) (fun _ _ _ h => h) (Or.inl ⟨by kernel_rfl, ?_⟩) (by assumption) ?_
          rotate_left
          ·intro w hSw
           try dsimp only at hSw
           go_simp
           try (with_reducible rfl)
          try simp only [Act.put, List.getElem_toArray, List.getElem_cons_zero, List.getElem_cons_succ, List.setIfInBounds_toArray, List.set_cons_zero, List.set_cons_succ]
          refine wpAnyH_take (i := 17) (oi := _) (v := ?_) rfl (by kernel_rfl) (by kernel_rfl) (by kernel_rfl) (fun _ _ _ h => h) (Or.inl ⟨by kernel_rfl, ?_⟩) (by assumption) ?_
          rotate_left
          ·intro w hSw
           try dsimp only at hSw
           go_simp
           try (with_reducible rfl)
          try simp only [Act.put, List.getElem_toArray, List.getElem_cons_zero, List.getElem_cons_succ, List.setIfInBounds_toArray, List.set_cons_zero, List.set_cons_succ]
          refine wpAnyH_take (i := 18) (oi := _) (v := ?_) rfl (by kernel_rfl) (by kernel_rfl) (by kernel_rfl) (fun _ _ _ h => h) (Or.inl ⟨by kernel_rfl, ?_⟩) (by assumption) ?_
          rotate_left
          ·intro w hSw
           try dsimp only at hSw
           go_simp
           try (with_reducible rfl)
          try simp only [Act.put, List.getElem_toArray, List.getElem_cons_zero, List.getElem_cons_succ, List.setIfInBounds_toArray, List.set_cons_zero, List.set_cons_succ]
          refine wpAnyH_take (i := 19) (oi := _) (v := ?_) rfl (by kernel_rfl) (by kernel_rfl) (by kernel_rfl) (fun _ _ _ h => h) (Or.inl ⟨by kernel_rfl, ?_⟩) (by assumption) ?_
          rotate_left
          ·intro w hSw
           try dsimp only at hSw
           go_simp
           try (with_reducible rfl)
          try simp only [Act.put, List.getElem_toArray, List.getElem_cons_zero, List.getElem_cons_succ, List.setIfInBounds_toArray, List.set_cons_zero, List.set_cons_succ]
          refine wpAnyH_take (i := 21) (oi := _) (v := ?_) rfl (by kernel_rfl) (by kernel_rfl) (by kernel_rfl) (fun _ _ _ h => h) (Or.inl ⟨by kernel_rfl, ?_⟩) (by assumption) ?_
          rotate_left
          ·intro w hSw
           try dsimp only at hSw
           go_simp
           try (with_reducible rfl)
          try simp only [Act.put, List.getElem_toArray, List.getElem_cons_zero, List.getElem_cons_succ, List.setIfInBounds_toArray, List.set_cons_zero, List.set_cons_succ]
          refine wpAnyH_take (i := 23) (oi := _) (v := ?_) rfl (by kernel_rfl) (by kernel_rfl) (by kernel_rfl) (fun _ _ _ h => h) (Or.inl ⟨by kernel_rfl, ?_⟩) (by assumption) ?_
          rotate_left
          ·intro w hSw
           try dsimp only at hSw
           go_simp
           try (with_reducible rfl)
          try simp only [Act.put, List.getElem_toArray, List.getElem_cons_zero, List.getElem_cons_succ, List.setIfInBounds_toArray, List.set_cons_zero, List.set_cons_succ]
          refine wpAnyH_take (i := 24) (oi := _) (v := ?_) rfl (by kernel_rfl) (by kernel_rfl) (by kernel_rfl) (fun _ _ _ h => h) (Or.inl ⟨by kernel_rfl, ?_⟩) (by assumption) ?_
          rotate_left
          ·intro w hSw
           try dsimp only at hSw
           go_simp
           try (with_reducible rfl)
          try simp only [Act.put, List.getElem_toArray, List.getElem_cons_zero, List.getElem_cons_succ, List.setIfInBounds_toArray, List.set_cons_zero, List.set_cons_succ]
          refine wpAnyH_take (i := 25) (oi := _) (v := ?_) rfl (by kernel_rfl) (by kernel_rfl) (by kernel_rfl) (fun _ _ _ h => h) (Or.inl ⟨by kernel_rfl, ?_⟩) (by assumption) ?_
          rotate_left
          ·intro w hSw
           try dsimp only at hSw
           go_simp
           try (with_reducible rfl)
          try simp only [Act.put, List.getElem_toArray, List.getElem_cons_zero, List.getElem_cons_succ, List.setIfInBounds_toArray, List.set_cons_zero, List.set_cons_succ]
          refine wpAnyH_ready (rs := [20]) (by kernel_rfl) (by simp) ?_
          refine AllReadyH.cons (o := _) rfl (fun K hK => ?_) AllReadyH.nil
          go_simp
          go_at_call 20
          refine (HRq.out _ (HI.out.next hs.2.1)).mono ?_
          rintro e x5 ⟨B9, c9, rfl, hb', hc9, ht9⟩
          have hs := since_step hs hb'
          have HF9 := Lib.hid ((HFq).out _ B9 c9 (HI.out.next hs.2.1).word hc9 ht9)
          refine hK.out _ _ hs (fun _ => ?_)
          clear hK K hb' hc9 ht9
          try simp only [Act.put, List.getElem_toArray, List.getElem_cons_zero, List.getElem_cons_succ, List.setIfInBounds_toArray, List.set_cons_zero, List.set_cons_succ]
          refine wpAnyH_ready (rs := [22]) (by kernel_rfl) (by simp) ?_
          refine AllReadyH.cons (o := _) rfl (fun K hK => ?_) AllReadyH.nil
          go_simp
          go_at_call 12
          refine (HF9.out).mono ?_
          rintro e x6 ⟨rfl, hb'⟩
          have hs := since_step hs hb'
          refine hK.out _ _ hs (fun _ => ?_)
          clear hK K hb'
          try simp only [Act.put, List.getElem_toArray, List.getElem_cons_zero, List.getElem_cons_succ, List.setIfInBounds_toArray, List.set_cons_zero, List.set_cons_succ]
          clear HF9
          refine wpAnyH_take (i := 26) (oi := _) (v := ?_) rfl (by kernel_rfl) (by kernel_rfl) (by kernel_rfl) (fun _ _ _ h => h) (Or.inl ⟨by kernel_rfl, ?_⟩) (by assumption) ?_
          rotate_left
          ·intro w hSw
           try dsimp only at hSw
           go_simp
           try (with_reducible rfl)
          try simp only [Act.put, List.getElem_toArray, List.getElem_cons_zero, List.getElem_cons_succ, List.setIfInBounds_toArray, List.set_cons_zero, List.set_cons_succ]
          refine wpAnyH_take (i := 27) (oi := _) (v := ?_) rfl (by kernel_rfl) (by kernel_rfl) (by kernel_rfl) (fun _ _ _ h => h) (Or.inl ⟨by kernel_rfl, ?_⟩) (by assumption) ?_
          rotate_left
          ·intro w hSw
           try dsimp only at hSw
           go_simp
           try (with_reducible rfl)
          try simp only [Act.put, List.getElem_toArray, List.getElem_cons_zero, List.getElem_cons_succ, List.setIfInBounds_toArray, List.set_cons_zero, List.set_cons_succ]
          refine wpAnyH_take (i := 28) (oi := _) (v := ?_) rfl (by kernel_rfl) (by kernel_rfl) (by kernel_rfl) (fun _ _ _ h => h) (Or.inl ⟨by kernel_rfl, ?_⟩) (by assumption) ?_
          rotate_left
          ·intro w hSw
           try dsimp only at hSw
           go_simp
           try (with_reducible rfl)
          try simp only [Act.put, List.getElem_toArray, List.getElem_cons_zero, List.getElem_cons_succ, List.setIfInBounds_toArray, List.set_cons_zero, List.set_cons_succ]
          refine wpAnyH_ready (rs := [29]) (by kernel_rfl) (by simp) ?_
          refine AllReadyH.cons (o := _) rfl (fun K hK => ?_) AllReadyH.nil
          go_simp
          go_at_call 12
          refine (HFx.out _ (HI.out.next hs.2.1)).mono ?_
          rintro e x7 ⟨rfl, hb'⟩
          have hs := since_step hs hb'
          refine hK.out _ _ hs (fun _ => ?_)
          clear hK K hb'
          try simp only [Act.put, List.getElem_toArray, List.getElem_cons_zero, List.getElem_cons_succ, List.setIfInBounds_toArray, List.set_cons_zero, List.set_cons_succ]
          refine wpAnyH_take (i := 30) (oi := _) (v := ?_) rfl (by kernel_rfl) (by kernel_rfl) (by kernel_rfl) (fun _ _ _ h => h) (Or.inl ⟨by kernel_rfl, ?_⟩) (by assumption) ?_
          rotate_left
          ·intro w hSw
           try dsimp only at hSw
           go_simp
           try (with_reducible rfl)
          try simp only [Act.put, List.getElem_toArray, List.getElem_cons_zero, List.getElem_cons_succ, List.setIfInBounds_toArray, List.set_cons_zero, List.set_cons_succ]
          refine wpAnyH_take (i := 31) (oi := _) (v := ?_) rfl (by kernel_rfl) (by kernel_rfl) (by kernel_rfl) (fun _ _ _ h => h) (Or.inl ⟨by kernel_rfl, ?_⟩) (by assumption) ?_
          rotate_left
          ·intro w hSw
           try dsimp only at hSw
           go_simp
           try (with_reducible rfl)
          try simp only [Act.put, List.getElem_toArray, List.getElem_cons_zero, List.getElem_cons_succ, List.setIfInBounds_toArray, List.set_cons_zero, List.set_cons_succ]
          refine wpAnyH_take (i := 32) (oi := _) (v := ?_) rfl (by kernel_rfl) (by kernel_rfl) (by kernel_rfl) (fun _ _ _ h => h) (Or.inl ⟨by kernel_rfl, ?_⟩) (by assumption) ?_
          rotate_left
          ·intro w hSw
           try dsimp only at hSw
           go_simp
           try (with_reducible rfl)
          try simp only [Act.put, List.getElem_toArray, List.getElem_cons_zero, List.getElem_cons_succ, List.setIfInBounds_toArray, List.set_cons_zero, List.set_cons_succ]
          refine wpAnyH_take (i := 33) (oi := _) (v := ?_) rfl (by kernel_rfl) (by kernel_rfl) (by kernel_rfl) (fun _ _ _ h => h) (Or.inl ⟨by kernel_rfl, ?_⟩) (by assumption) ?_
          rotate_left
          ·intro w hSw
           try dsimp only at hSw
           go_simp
           try (with_reducible rfl)
          try simp only [Act.put, List.getElem_toArray, List.getElem_cons_zero, List.getElem_cons_succ, List.setIfInBounds_toArray, List.set_cons_zero, List.set_cons_succ]
          refine wpAnyH_ready (rs := [34]) (by kernel_rfl) (by simp) ?_
          refine AllReadyH.cons (o := _) rfl (fun K hK => ?_) AllReadyH.nil
          go_simp
          go_at_call 8
          refine (knows11_go _ (HI.out.next hs.2.1).word.tab (HI.out.next hs.2.1).word.pos).mono ?_
          rintro e x8 ⟨rfl, hb'⟩
          have hs := since_step hs hb'
          refine hK.out _ _ hs (fun _ => ?_)
          clear hK K hb'
          try simp only [Act.put, List.getElem_toArray, List.getElem_cons_zero, List.getElem_cons_succ, List.setIfInBounds_toArray, List.set_cons_zero, List.set_cons_succ]
          refine wpAnyH_take (i := 35) (oi := _) (v := ?_) rfl (by kernel_rfl) (by kernel_rfl) (by kernel_rfl) (fun _ _ _ h => h) (Or.inl ⟨by kernel_rfl, ?_⟩) (by assumption) ?_
          rotate_left
          ·intro w hSw
           try dsimp only at hSw
           go_simp
           try (with_reducible rfl)
          try simp only [Act.put, List.getElem_toArray, List.getElem_cons_zero, List.getElem_cons_succ, List.setIfInBounds_toArray, List.set_cons_zero, List.set_cons_succ]
          refine wpAnyH_take (i := 36) (oi := _) (v := ?_) rfl (by kernel_rfl) (by kernel_rfl) (by kernel_rfl) (fun _ _ _ h => h) (Or.inl ⟨by kernel_rfl, ?_⟩) (by assumption) ?_
          rotate_left
          ·intro w hSw
           try dsimp only at hSw
           go_simp
           try (with_reducible rfl)
          try simp only [Act.put, List.getElem_toArray, List.getElem_cons_zero, List.getElem_cons_succ, List.setIfInBounds_toArray, List.set_cons_zero, List.set_cons_succ]
          have HB9 := Lib.hid (HI.out.next hs.2.1).word.below
          refine wpAnyH_done (by kernel_rfl) ?_ _
          refine NoPanic.normal ?_
          clear hs
          go_wp2
          go_light
          go_ret
          exact ⟨rfl, HB9.out⟩
        | true =>
         cases f <;> cases pv <;> cases qv <;> first | (exact absurd HV4.out (by decide)) | (exact absurd HV5.out (by decide)) | skip
         all_goals
          refine wpAnyH_take (i := 8) (oi := _) (v := ?_) rfl (by kernel_rfl) (by kernel_rfl) (by kernel_rfl) (fun _ _ _ h => h) (Or.inl ⟨by kernel_rfl, ?_⟩) (by assumption) ?_
          rotate_left
          ·intro w hSw
           try dsimp only at hSw
           go_simp
           try (with_reducible rfl)
          try simp only [Act.put, List.getElem_toArray, List.getElem_cons_zero, List.getElem_cons_succ, List.setIfInBounds_toArray, List.set_cons_zero, List.set_cons_succ]
          refine wpAnyH_take (i := 9) (oi := _) (v := ?_) rfl (by kernel_rfl) (by kernel_rfl) (by kernel_rfl) (fun _ _ _ h => h) (Or.inl ⟨by kernel_rfl, ?_⟩) (by assumption) ?_
          rotate_left
          ·intro w hSw
           try dsimp only at hSw
           go_simp
           try (with_reducible rfl)
          try simp only [Act.put, List.getElem_toArray, List.getElem_cons_zero, List.getElem_cons_succ, List.setIfInBounds_toArray, List.set_cons_zero, List.set_cons_succ]
          refine wpAnyH_take (i := 10) (oi := _) (v := ?_) rfl (by kernel_rfl) (by kernel_rfl) (by kernel_rfl) (fun _ _ _ h => h) (Or.inl ⟨by kernel_rfl, ?_⟩) (by assumption) ?_
          rotate_left
          ·intro w hSw
           try dsimp only at hSw
           go_simp
           try (with_reducible rfl)
          try simp only [Act.put, List.getElem_toArray, List.getElem_cons_zero, List.getElem_cons_succ, List.setIfInBounds_toArray, List.set_cons_zero, List.set_cons_succ]
          refine wpAnyH_take (i := 11) (oi := _) (v := ?_) rfl (by kernel_rfl) (by kernel_rfl) (by kernel_rfl) (fun _ _ _ h => h) (Or.inl ⟨by kernel_rfl, ?_⟩) (by assumption) ?_
          rotate_left
          ·intro w hSw
           try dsimp only at hSw
           go_simp
           try (with_reducible rfl)
          try simp only [Act.put, List.getElem_toArray, List.getElem_cons_zero, List.getElem_cons_succ, List.setIfInBounds_toArray, List.set_cons_zero, List.set_cons_succ]
          refine wpAnyH_take (i := 12) (oi := _) (v := undef) rfl (by kernel_rfl) (by kernel_rfl) (by kernel_rfl) (fun _ _ _ h => h) (Or.inr ⟨by kernel_rfl, rfl⟩) (by assumption) ?_
          try simp only [Act.put, List.getElem_toArray, List.getElem_cons_zero, List.getElem_cons_succ, List.setIfInBounds_toArray, List.set_cons_zero, List.set_cons_succ]
          refine wpAnyH_take (i := 13) (oi := _) (v := undef) rfl (by kernel_rfl) (by kernel_rfl) (by kernel_rfl) (fun _ _ _ h => h) (Or.inr ⟨by kernel_rfl, rfl⟩) (by assumption) ?_
          try simp only [Act.put, List.getElem_toArray, List.getElem_cons_zero, List.getElem_cons_succ, List.setIfInBounds_toArray, List.set_cons_zero, List.set_cons_succ]
          refine wpAnyH_take (i := 14) (oi := _) (v := undef) rfl (by kernel_rfl) (by kernel_rfl) (by kernel_rfl) (fun _ _ _ h => h) (Or.inr ⟨by kernel_rfl, rfl⟩) (by assumption) ?_
          try simp only [Act.put, List.getElem_toArray, List.getElem_cons_zero, List.getElem_cons_succ, List.setIfInBounds_toArray, List.set_cons_zero, List.set_cons_succ]
          refine wpAnyH_take (i := 15) (oi := _) (v := ?_) rfl (by kernel_rfl) (by kernel_rfl) (by kernel_rfl) (fun _ _ _ h => h) (Or.inl ⟨by kernel_rfl, ?_⟩) (by assumption) ?_
          rotate_left
          ·intro w hSw
           try dsimp only at hSw
           go_simp
           try (with_reducible rfl)
          try simp only [Act.put, List.getElem_toArray, List.getElem_cons_zero, List.getElem_cons_succ, List.setIfInBounds_toArray, List.set_cons_zero, List.set_cons_succ]
          refine wpAnyH_take (i := 16) (oi := _) (v := ?_) rfl (by kernel_rfl) (by kernel_rfl) (by kernel_rfl) (fun _ _ _ h => h) (Or.inl ⟨by kernel_rfl, ?_⟩) (by assumption) ?_
          rotate_left
          ·intro w hSw
           try dsimp only at hSw
           go_simp
           try (with_reducible rfl)
          try simp only [Act.put, List.getElem_toArray, List.getElem_cons_zero, List.getElem_cons_succ, List.setIfInBounds_toArray, List.set_cons_zero, List.set_cons_succ]
          refine wpAnyH_take (i := 17) (oi := _) (v := ?_) rfl (by kernel_rfl) (by kernel_rfl) (by kernel_rfl) (fun _ _ _ h => h) (Or.inl ⟨by kernel_rfl, ?_⟩) (by assumption) ?_
          rotate_left
          ·intro w hSw
           try dsimp only at hSw
           go_simp
           try (with_reducible rfl)
          try simp only [Act.put, List.getElem_toArray, List.getElem_cons_zero, List.getElem_cons_succ, List.setIfInBounds_toArray, List.set_cons_zero, List.set_cons_succ]
          refine wpAnyH_take (i := 18) (oi := _) (v := ?_) rfl (by kernel_rfl) (by kernel_rfl) (by kernel_rfl) (fun _ _ _ h => h) (Or.inl ⟨by kernel_rfl, ?_⟩) (by assumption) ?_
          rotate_left
          ·intro w hSw
           try dsimp only at hSw
           go_simp
           try (with_reducible rfl)
          try simp only [Act.put, List.getElem_toArray, List.getElem_cons_zero, List.getElem_cons_succ, List.setIfInBounds_toArray, List.set_cons_zero, List.set_cons_succ]
          refine wpAnyH_take (i := 19) (oi := _) (v := ?_) rfl (by kernel_rfl) (by kernel_rfl) (by kernel_rfl) (fun _ _ _ h => h) (Or.inl ⟨by kernel_rfl, ?_⟩) (by assumption) ?_
          rotate_left
          ·intro w hSw
           try dsimp only at hSw
           go_simp
           try (with_reducible rfl)
          try simp only [Act.put, List.getElem_toArray, List.getElem_cons_zero, List.getElem_cons_succ, List.setIfInBounds_toArray, List.set_cons_zero, List.set_cons_succ]
          refine wpAnyH_take (i := 21) (oi := _) (v := ?_) rfl (by kernel_rfl) (by kernel_rfl) (by kernel_rfl) (fun _ _ _ h => h) (Or.inl ⟨by kernel_rfl, ?_⟩) (by assumption) ?_
          rotate_left
          ·intro w hSw
           try dsimp only at hSw
           go_simp
           try (with_reducible rfl)
          try simp only [Act.put, List.getElem_toArray, List.getElem_cons_zero, List.getElem_cons_succ, List.setIfInBounds_toArray, List.set_cons_zero, List.set_cons_succ]
          refine wpAnyH_take (i := 23) (oi := _) (v := ?_) rfl (by kernel_rfl) (by kernel_rfl) (by kernel_rfl) (fun _ _ _ h => h) (Or.inl ⟨by kernel_rfl, ?_⟩) (by assumption) ?_
          rotate_left
          ·intro w hSw
           try dsimp only at hSw
           go_simp
           try (with_reducible rfl)
          try simp only [Act.put, List.getElem_toArray, List.getElem_cons_zero, List.getElem_cons_succ, List.setIfInBounds_toArray, List.set_cons_zero, List.set_cons_succ]
          refine wpAnyH_take (i := 24) (oi := _) (v := ?_) rfl (by kernel_rfl) (by kernel_rfl) (by kernel_rfl) (fun _ _ _ h => h) (Or.inl ⟨by kernel_rfl, ?_⟩) (by assumption) ?_
          rotate_left
          ·intro w hSw
           try dsimp only at hSw
           go_simp
           try (with_reducible rfl)
          try simp only [Act.put, List.getElem_toArray, List.getElem_cons_zero, List.getElem_cons_succ, List.setIfInBounds_toArray, List.set_cons_zero, List.set_cons_succ]
          refine wpAnyH_take (i := 25) (oi := _) (v := ?_) rfl (by kernel_rfl) (by kernel_rfl) (by kernel_rfl) (fun _ _ _ h => h) (Or.inl ⟨by kernel_rfl, ?_⟩) (by assumption) ?_
          rotate_left
          ·intro w hSw
           try dsimp only at hSw
           go_simp
           try (with_reducible rfl)
          try simp only [Act.put, List.getElem_toArray, List.getElem_cons_zero, List.getElem_cons_succ, List.setIfInBounds_toArray, List.set_cons_zero, List.set_cons_succ]
          refine wpAnyH_ready (rs := [20]) (by kernel_rfl) (by simp) ?_
          refine AllReadyH.cons (o := _) rfl (fun K hK => ?_) AllReadyH.nil
          go_simp
          go_at_call 20
          refine (HRq.out _ (HI.out.next hs.2.1)).mono ?_
          rintro e x5 ⟨B9, c9, rfl, hb', hc9, ht9⟩
          have hs := since_step hs hb'
          have HF9 := Lib.hid ((HFq).out _ B9 c9 (HI.out.next hs.2.1).word hc9 ht9)
          refine hK.out _ _ hs (fun _ => ?_)
          clear hK K hb' hc9 ht9
          try simp only [Act.put, List.getElem_toArray, List.getElem_cons_zero, List.getElem_cons_succ, List.setIfInBounds_toArray, List.set_cons_zero, List.set_cons_succ]
          refine wpAnyH_ready (rs := [22]) (by kernel_rfl) (by simp) ?_
          refine AllReadyH.cons (o := _) rfl (fun K hK => ?_) AllReadyH.nil
          go_simp
          go_at_call 12
          refine (HF9.out).mono ?_
          rintro e x6 ⟨rfl, hb'⟩
          have hs := since_step hs hb'
          refine hK.out _ _ hs (fun _ => ?_)
          clear hK K hb'
          try simp only [Act.put, List.getElem_toArray, List.getElem_cons_zero, List.getElem_cons_succ, List.setIfInBounds_toArray, List.set_cons_zero, List.set_cons_succ]
          clear HF9
          refine wpAnyH_take (i := 26) (oi := _) (v := ?_) rfl (by kernel_rfl) (by kernel_rfl) (by kernel_rfl) (fun _ _ _ h => h) (Or.inl ⟨by kernel_rfl, ?_⟩) (by assumption) ?_
          rotate_left
          ·intro w hSw
           try dsimp only at hSw
           go_simp
           try (with_reducible rfl)
          try simp only [Act.put, List.getElem_toArray, List.getElem_cons_zero, List.getElem_cons_succ, List.setIfInBounds_toArray, List.set_cons_zero, List.set_cons_succ]
          refine wpAnyH_take (i := 27) (oi := _) (v := ?_) rfl (by kernel_rfl) (by kernel_rfl) (by kernel_rfl) (fun _ _ _ h => h) (Or.inl ⟨by kernel_rfl, ?_⟩) (by assumption) ?_
          rotate_left
          ·intro w hSw
           try dsimp only at hSw
           go_simp
           try (with_reducible rfl)
          try simp only [Act.put, List.getElem_toArray, List.getElem_cons_zero, List.getElem_cons_succ, List.setIfInBounds_toArray, List.set_cons_zero, List.set_cons_succ]
          refine wpAnyH_take (i := 28) (oi := _) (v := ?_) rfl (by kernel_rfl) (by kernel_rfl) (by kernel_rfl) (fun _ _ _ h => h) (Or.inl ⟨by kernel_rfl, ?_⟩) (by assumption) ?_
          rotate_left
          ·intro w hSw
           try dsimp only at hSw
           go_simp
           try (with_reducible rfl)
          try simp only [Act.put, List.getElem_toArray, List.getElem_cons_zero, List.getElem_cons_succ, List.setIfInBounds_toArray, List.set_cons_zero, List.set_cons_succ]
          refine wpAnyH_ready (rs := [29]) (by kernel_rfl) (by simp) ?_
          refine AllReadyH.cons (o := _) rfl (fun K hK => ?_) AllReadyH.nil
          go_simp
          go_at_call 12
          refine (HFx.out _ (HI.out.next hs.2.1)).mono ?_
          rintro e x7 ⟨rfl, hb'⟩
          have hs := since_step hs hb'
          refine hK.out _ _ hs (fun _ => ?_)
          clear hK K hb'
          try simp only [Act.put, List.getElem_toArray, List.getElem_cons_zero, List.getElem_cons_succ, List.setIfInBounds_toArray, List.set_cons_zero, List.set_cons_succ]
          refine wpAnyH_take (i := 30) (oi := _) (v := ?_) rfl (by kernel_rfl) (by kernel_rfl) (by kernel_rfl) (fun _ _ _ h => h) (Or.inl ⟨by kernel_rfl, ?_⟩) (by assumption) ?_
          rotate_left
          ·intro w hSw
           try dsimp only at hSw
           go_simp
           try (with_reducible rfl)
          try simp only [Act.put, List.getElem_toArray, List.getElem_cons_zero, List.getElem_cons_succ, List.setIfInBounds_toArray, List.set_cons_zero, List.set_cons_succ]
          refine wpAnyH_take (i := 31) (oi := _) (v := ?_) rfl (by kernel_rfl) (by kernel_rfl) (by kernel_rfl) (fun _ _ _ h => h) (Or.inl ⟨by kernel_rfl, ?_⟩) (by assumption) ?_
          rotate_left
          ·intro w hSw
           try dsimp only at hSw
           go_simp
           try (with_reducible rfl)
          try simp only [Act.put, List.getElem_toArray, List.getElem_cons_zero, List.getElem_cons_succ, List.setIfInBounds_toArray, List.set_cons_zero, List.set_cons_succ]
          refine wpAnyH_take (i := 32) (oi := _) (v := ?_) rfl (by kernel_rfl) (by kernel_rfl) (by kernel_rfl) (fun _ _ _ h => h) (Or.inl ⟨by kernel_rfl, ?_⟩) (by assumption) ?_
          rotate_left
          ·intro w hSw
           try dsimp only at hSw
           go_simp
           try (with_reducible rfl)
          try simp only [Act.put, List.getElem_toArray, List.getElem_cons_zero, List.getElem_cons_succ, List.setIfInBounds_toArray, List.set_cons_zero, List.set_cons_succ]
          refine wpAnyH_take (i := 33) (oi := _) (v := ?_) rfl (by kernel_rfl) (by kernel_rfl) (by kernel_rfl) (fun _ _ _ h => h) (Or.inl ⟨by kernel_rfl, ?_⟩) (by assumption) ?_
          rotate_left
          ·intro w hSw
           try dsimp only at hSw
           go_simp
           try (with_reducible rfl)
          try simp only [Act.put, List.getElem_toArray, List.getElem_cons_zero, List.getElem_cons_succ, List.setIfInBounds_toArray, List.set_cons_zero, List.set_cons_succ]
          refine wpAnyH_ready (rs := [34]) (by kernel_rfl) (by simp) ?_
          refine AllReadyH.cons (o := _) rfl (fun K hK => ?_) AllReadyH.nil
          go_simp
          go_at_call 8
          refine (knows11_go _ (HI.out.next hs.2.1).word.tab (HI.out.next hs.2.1).word.pos).mono ?_
          rintro e x8 ⟨rfl, hb'⟩
          have hs := since_step hs hb'
          refine hK.out _ _ hs (fun _ => ?_)
          clear hK K hb'
          try simp only [Act.put, List.getElem_toArray, List.getElem_cons_zero, List.getElem_cons_succ, List.setIfInBounds_toArray, List.set_cons_zero, List.set_cons_succ]
          refine wpAnyH_take (i := 35) (oi := _) (v := ?_) rfl (by kernel_rfl) (by kernel_rfl) (by kernel_rfl) (fun _ _ _ h => h) (Or.inl ⟨by kernel_rfl, ?_⟩) (by assumption) ?_
          rotate_left
          ·intro w hSw
           try dsimp only at hSw
           go_simp
           try (with_reducible rfl)
          try simp only [Act.put, List.getElem_toArray, List.getElem_cons_zero, List.getElem_cons_succ, List.setIfInBounds_toArray, List.set_cons_zero, List.set_cons_succ]
          refine wpAnyH_take (i := 36) (oi := _) (v := ?_) rfl (by kernel_rfl) (by kernel_rfl) (by kernel_rfl) (fun _ _ _ h => h) (Or.inl ⟨by kernel_rfl, ?_⟩) (by assumption) ?_
          rotate_left
          ·intro w hSw
           try dsimp only at hSw
           go_simp
           try (with_reducible rfl)
          try simp only [Act.put, List.getElem_toArray, List.getElem_cons_zero, List.getElem_cons_succ, List.setIfInBounds_toArray, List.set_cons_zero, List.set_cons_succ]
          have HB9 := Lib.hid (HI.out.next hs.2.1).word.below
          refine wpAnyH_done (by kernel_rfl) ?_ _
          refine NoPanic.normal ?_
          clear hs
          go_wp2
          go_light
          go_ret
          exact ⟨rfl, HB9.out⟩
end Go.Proofs.YtfcblmbieiibmaaDoor
