/- Texts of the claim. -/
import Derived.Test.YtfcblmbieiibmaaDoorJMatJo
import Derived.Test.YtfcblmbieiibmaaDoorJZ03
namespace Go.Proofs.YtfcblmbieiibmaaDoor
open Go.RowKit
set_option linter.unusedSimpArgs false
set_option linter.unusedVariables false
set_option maxRecDepth 100000
set_option maxHeartbeats 8000000
structure JoI (w U : World) (V : Option Addr) (cv : Nat) (bs : List Nat) (ga gb gx : Nat) (a b x : Nd) (Ba Bb Bx : Option Addr) (ca cb cx : Nat) : Prop where
 word : WordIn w U V cv bs
 na : NodeIn U ga a Ba ca
 nb : NodeIn U gb b Bb cb
 nx : NodeIn U gx x Bx cx
theorem JoI.next {w U U' : World} {V : Option Addr} {cv : Nat} {bs : List Nat} {ga gb gx : Nat} {a b x : Nd} {Ba Bb Bx : Option Addr} {ca cb cx : Nat} (h : JoI w U V cv bs ga gb gx a b x Ba Bb Bx ca cb cx) (hb : Below U.heap.size U U') : JoI w U' V cv bs ga gb gx a b x Ba Bb Bx ca cb cx :=
 ⟨h.word.next hb, h.na.next hb, h.nb.next hb, h.nx.next hb⟩
theorem joined11_law (a b x y : Nd) (hx : catM a b = x) (hy : altM a b = y) (Ba Bb : Option Addr) (ca cb : Nat) (V : Option Addr) (cv : Nat) (bs : List Nat) (w : World) (hsa : a.size ≤ 2000000) (hsb : b.size ≤ 2000000) (hla : a.kids.len ≤ ca) (hlb : b.kids.len ≤ cb) (hta : TreesAt w (fun c => c < w.heap.size) a.kids Ba) (htb : TreesAt w (fun c => c < w.heap.size) b.kids Bb) (hV : BytesAt w w.heap.size V bs) (hcv : bs.length ≤ cv) (hT : TabAt 0 Lib.deBruijn64tab w) (hw0 : 0 < w.heap.size) :
  Calls Tryd.prog 5 #[ndV a Ba ca, ndV b Bb cb, .slice V bs.length cv] w fun e w' => e = .returned (.bool true) ∧ Below w.heap.size w w' := by
 have hb0 : Below w.heap.size w ((w.alloc (.cells (ndA a Ba ca) 28)).alloc (.cells (ndA b Bb cb) 28)) := ((Below.refl _ _).alloc (Nat.le_refl _) _).alloc (by simp) _
 have hna : NodeIn ((w.alloc (.cells (ndA a Ba ca) 28)).alloc (.cells (ndA b Bb cb) 28)) w.heap.size a Ba ca := ⟨(Blk.new w _ _).alloc _, (hta.below hb0).weak (fun c h _ => Nat.lt_of_lt_of_le h hb0.size), hla⟩
 have hnb : NodeIn ((w.alloc (.cells (ndA a Ba ca) 28)).alloc (.cells (ndA b Bb cb) 28)) (w.heap.size + 1) b Bb cb := ⟨Blk.new_at (by simp), (htb.below hb0).weak (fun c h _ => Nat.lt_of_lt_of_le h hb0.size), hlb⟩
 have hw : WordIn w ((w.alloc (.cells (ndA a Ba ca) 28)).alloc (.cells (ndA b Bb cb) 28)) V cv bs := ⟨hb0, (hV.below hb0).more hb0.size, hcv, TabAt.below hb0 hw0 hT, Nat.lt_of_lt_of_le hw0 hb0.size⟩
 have HA := Lib.hid hna
 have HB := Lib.hid hnb
 have HW := Lib.hid hw
 have HS := Lib.hid (show a.size ≤ 2000000 ∧ b.size ≤ 2000000 from ⟨hsa, hsb⟩)
 have HX := Lib.hid hx
 have HY := Lib.hid hy
 clear hna hnb hw hb0 hsa hsb hla hlb hta htb hV hT hw0 hx hy
 unfold ndV
 unfold ndA at HA HB HW
 go_enter Tryd.func5, Tryd.ntmps5
 go_upto_region 1 with fail
 generalize ((w.alloc (.cells #[.int .i64 a.kind, .int .u64 (word a.set.testBit 0), .int .u64 (word a.set.testBit 1), .int .u64 (word a.set.testBit 2), .int .u64 (word a.set.testBit 3), .slice Ba a.kids.len ca, .int .i64 a.lo, .int .i64 a.hi] 28)).alloc (.cells #[.int .i64 b.kind, .int .u64 (word b.set.testBit 0), .int .u64 (word b.set.testBit 1), .int .u64 (word b.set.testBit 2), .int .u64 (word b.set.testBit 3), .slice Bb b.kids.len cb, .int .i64 b.lo, .int .i64 b.hi] 28)) = w1 at *
 generalize hga : w.heap.size = ga at HA HB ⊢
 generalize hgb : ga + 1 = gb at *
 clear hga hgb
 obtain ⟨p0, p1, p2, p3, p4, p5, p6, p7⟩ : _ ∧ _ ∧ _ ∧ _ ∧ _ ∧ _ ∧ _ ∧ _ := ⟨(HA.out.box).cell 0, (HA.out.box).cell 1, (HA.out.box).cell 2, (HA.out.box).cell 3, (HA.out.box).cell 4, (HA.out.box).cell 5, (HA.out.box).cell 6, (HA.out.box).cell 7⟩
 simp only [List.getElem?_toArray, List.getElem?_cons_zero, List.getElem?_cons_succ, ndA] at p0 p1 p2 p3 p4 p5 p6 p7
 have pl := (HA.out.box).lt
 obtain ⟨q0, q1, q2, q3, q4, q5, q6, q7⟩ : _ ∧ _ ∧ _ ∧ _ ∧ _ ∧ _ ∧ _ ∧ _ := ⟨(HB.out.box).cell 0, (HB.out.box).cell 1, (HB.out.box).cell 2, (HB.out.box).cell 3, (HB.out.box).cell 4, (HB.out.box).cell 5, (HB.out.box).cell 6, (HB.out.box).cell 7⟩
 simp only [List.getElem?_toArray, List.getElem?_cons_zero, List.getElem?_cons_succ, ndA] at q0 q1 q2 q3 q4 q5 q6 q7
 have ql := (HB.out.box).lt
 have HC := Lib.hid (cat_in HX.out HA.out HB.out (by have := HS.out; omega))
 go_wp2_with fail
 refine HC.out.mono ?_
 rintro e w2 ⟨Bx, cx, rfl, hb2, hcx, htx⟩
 have hbx : Below w2.heap.size w2 (w2.alloc (.cells (ndA x Bx cx) 28)) := (Below.refl _ _).alloc (Nat.le_refl _) _
 have hb3 := hb2.trans (hbx.mono hb2.size)
 have HJ := Lib.hid (show JoI w (w2.alloc (.cells (ndA x Bx cx) 28)) V cv bs ga gb w2.heap.size a b x Ba Bb Bx ca cb cx from ⟨HW.out.next hb3, HA.out.next hb3, HB.out.next hb3, ⟨Blk.new w2 _ _, (htx.below hbx).weak (fun c h _ => Nat.lt_of_lt_of_le h hbx.size), hcx⟩⟩)
 clear hb2 hbx hb3 htx hcx HC HA HB HW
 clear p0 p1 p2 p3 p4 p5 p6 p7 pl q0 q1 q2 q3 q4 q5 q6 q7 ql
 unfold ndV
 unfold ndA at HJ
 dsimp only
 go_upto_region 2 with fail
 generalize hgx : w2.heap.size = gx at *
 generalize w2.alloc (.cells #[.int .i64 x.kind, .int .u64 (word x.set.testBit 0), .int .u64 (word x.set.testBit 1), .int .u64 (word x.set.testBit 2), .int .u64 (word x.set.testBit 3), .slice Bx x.kids.len cx, .int .i64 x.lo, .int .i64 x.hi] 28) = w3 at *
 clear hgx
 have HRx := Lib.hid (tright_any x Bx cx w3 (by rw [← HX.out]; show 1 + (Trees.of [a, b]).size ≤ _; rw [size_two]; have := HS.out; omega) HJ.out.nx.tree)
 unfold ndV at HRx
 obtain ⟨r0, r1, r2, r3, r4, r5, r6, r7⟩ : _ ∧ _ ∧ _ ∧ _ ∧ _ ∧ _ ∧ _ ∧ _ := ⟨(HJ.out.nx.box).cell 0, (HJ.out.nx.box).cell 1, (HJ.out.nx.box).cell 2, (HJ.out.nx.box).cell 3, (HJ.out.nx.box).cell 4, (HJ.out.nx.box).cell 5, (HJ.out.nx.box).cell 6, (HJ.out.nx.box).cell 7⟩
 simp only [List.getElem?_toArray, List.getElem?_cons_zero, List.getElem?_cons_succ, ndA] at r0 r1 r2 r3 r4 r5 r6 r7
 have rl := (HJ.out.nx.box).lt
 cases hr : rightT x with
 | false =>
  rw [hr] at HRx
  clear hr
  go_wp2_with fail
  refine HRx.out.mono ?_
  rintro e w4 ⟨rfl, hb4⟩
  have HJ4 := Lib.hid (HJ.out.next hb4)
  clear hb4 HRx HJ r0 r1 r2 r3 r4 r5 r6 r7 rl
  have HK := Lib.hid (knows11_go w4 HJ4.out.word.tab HJ4.out.word.pos)
  dsimp only
  go_wp2_with fail
  refine HK.out.mono ?_
  rintro e w5 ⟨rfl, hb5⟩
  have HB5 := Lib.hid (HJ4.out.word.below.trans (hb5.mono HJ4.out.word.below.size))
  clear hb5 HK HJ4
  dsimp only
  go_wp2
  go_light
  go_ret
  exact ⟨rfl, HB5.out⟩
 | true =>
  rw [hr] at HRx
  by_cases hl : 30 < bs.length
  ·have hd : (30 : Int) < (bs.length : Int) := by omega
   clear hr hl
   go_wp2_with fail
   refine HRx.out.mono ?_
   rintro e w4 ⟨rfl, hb4⟩
   have HJ4 := Lib.hid (HJ.out.next hb4)
   clear hb4 HRx HJ r0 r1 r2 r3 r4 r5 r6 r7 rl
   have HK := Lib.hid (knows11_go w4 HJ4.out.word.tab HJ4.out.word.pos)
   dsimp only
   go_wp2_with fail
   refine HK.out.mono ?_
   rintro e w5 ⟨rfl, hb5⟩
   have HB5 := Lib.hid (HJ4.out.word.below.trans (hb5.mono HJ4.out.word.below.size))
   clear hb5 HK HJ4
   dsimp only
   go_wp2
   go_light
   go_ret
   exact ⟨rfl, HB5.out⟩
  ·have hd : ¬ (30 : Int) < (bs.length : Int) := by omega
   have hrp := hr
   rw [← HX.out] at hrp
   obtain ⟨hra, hrb, hry⟩ := right_cat hrp
   have HL1 := Lib.hid (show fullB x bs = cutB a b bs 0 (bs.length + 1) by rw [← HX.out]; exact cat_law hra hrb hrp (by omega))
   have HL2 := Lib.hid (show fullB y bs = (fullB a bs || fullB b bs) by rw [← HY.out]; exact alt_law hra hrb hry (by omega))
   have HLen := Lib.hid (show bs.length ≤ 30 by omega)
   clear hr hl hrp hra hrb hry
   go_wp2_with fail
   refine HRx.out.mono ?_
   rintro e w4 ⟨rfl, hb4⟩
   have HJ4 := Lib.hid (HJ.out.next hb4)
   clear hb4 HRx HJ r0 r1 r2 r3 r4 r5 r6 r7 rl
   dsimp only
   go_wp2
   go_loopw [8, 9] (fun v i' wr => ∃ i : Nat, i' = .int .i64 (i : Int) ∧ v = .bool (cutB a b bs 0 i) ∧ i ≤ bs.length + 1 ∧ Hid (JoI w wr V cv bs ga gb gx a b x Ba Bb Bx ca cb cx)) (fun _ i' _ => bs.length + 1 - (intOf i').toNat)
   case atStart => exact ⟨0, rfl, by rw [cutB_zero], Nat.zero_le _, HJ4⟩
   case round =>
    clear HJ4
    obtain ⟨i, rfl, rfl, hi, HI⟩ := hrel
    by_cases hlt : i ≤ bs.length
    ·have hdl : (i : Int) ≤ (bs.length : Int) := by omega
     obtain ⟨A1, A2, hs1, hs2, hbb⟩ := bytes_cut V bs cv i HI.out.word.cap hlt
     have HIb := Lib.hid hbb
     have hwi : IntKind.i64.wrap ((i : Int) + 1) = (i : Int) + 1 := by rw [IntKind.wrap_i64]; have := HLen.out; omega
     have HN := Lib.hid (cutB_next a b bs (Nat.zero_le i))
     have HFa := Lib.hid (fun (W' : World) (h : Below wr.heap.size wr W') => full_in (HI.out.na.next h) (V := A1) (cv := cv) (bs := bs.take i) ⟨HI.out.word.below.trans (h.mono HI.out.word.below.size), (HIb.out _ _ (HI.out.word.next h).bytes).1, by rw [List.length_take]; have := HI.out.word.cap; omega, (HI.out.word.next h).tab, (HI.out.word.next h).pos⟩ (by have := HS.out; omega))
     have HFb := Lib.hid (fun (W' : World) (h : Below wr.heap.size wr W') => full_in (HI.out.nb.next h) (V := A2) (cv := cv - i) (bs := bs.drop i) ⟨HI.out.word.below.trans (h.mono HI.out.word.below.size), (HIb.out _ _ (HI.out.word.next h).bytes).2, by rw [List.length_drop]; have := HI.out.word.cap; omega, (HI.out.word.next h).tab, (HI.out.word.next h).pos⟩ (by have := HS.out; omega))
     unfold ndV at HFa HFb
     rw [show (bs.take i).length = i from by rw [List.length_take]; omega] at HFa hs1
     rw [show (bs.drop i).length = bs.length - i from List.length_drop] at HFb hs2
     clear hbb
     obtain ⟨p0, p1, p2, p3, p4, p5, p6, p7⟩ : _ ∧ _ ∧ _ ∧ _ ∧ _ ∧ _ ∧ _ ∧ _ := ⟨(HI.out.na.box).cell 0, (HI.out.na.box).cell 1, (HI.out.na.box).cell 2, (HI.out.na.box).cell 3, (HI.out.na.box).cell 4, (HI.out.na.box).cell 5, (HI.out.na.box).cell 6, (HI.out.na.box).cell 7⟩
     simp only [List.getElem?_toArray, List.getElem?_cons_zero, List.getElem?_cons_succ, ndA] at p0 p1 p2 p3 p4 p5 p6 p7
     have pl := (HI.out.na.box).lt
     obtain ⟨q0, q1, q2, q3, q4, q5, q6, q7⟩ : _ ∧ _ ∧ _ ∧ _ ∧ _ ∧ _ ∧ _ ∧ _ := ⟨(HI.out.nb.box).cell 0, (HI.out.nb.box).cell 1, (HI.out.nb.box).cell 2, (HI.out.nb.box).cell 3, (HI.out.nb.box).cell 4, (HI.out.nb.box).cell 5, (HI.out.nb.box).cell 6, (HI.out.nb.box).cell 7⟩
     simp only [List.getElem?_toArray, List.getElem?_cons_zero, List.getElem?_cons_succ, ndA] at q0 q1 q2 q3 q4 q5 q6 q7
     have ql := (HI.out.nb.box).lt
     generalize cutB a b bs 0 i = cb0 at *
     generalize fullB a (bs.take i) = fa at *
     generalize fullB b (bs.drop i) = fb at *
     cases cb0 with
     | true =>
      go_wp2
      go_region
      have HI2 := Lib.hid (HI.out.next (drew_belowM wr))
      (go_wp2; refine ⟨⟨i + 1, by rw [show ((i + 1 : Nat) : Int) = (i : Int) + 1 by omega], by rw [HN.out]; rfl, by omega, HI2⟩, ?_⟩; simp [intOf]; omega)
     | false =>
      cases fa with
      | false =>
       clear HFb hs2 q0 q1 q2 q3 q4 q5 q6 q7 ql
       go_wp2
       refine wp_region_noPanic ?_
       refine wp_region_held_drew (S := fun w' => (∀ b o, b < wr.heap.size → w'.cell? ⟨b, o, none⟩ = wr.cell? ⟨b, o, none⟩) ∧ Since wr.heap.size wr w') (by kernel_rfl) (since_start (Nat.le_refl _)) (fun hHeld => ?_)
       have hs := since_start (w0 := wr) (Nat.le_refl wr.heap.size)
       refine wpAnyH_take (i := 0) (oi := _) (v := ?_) rfl (by kernel_rfl) (by kernel_rfl) (by kernel_rfl) (fun _ _ _ h => h) (Or.inl ⟨by kernel_rfl, ?_⟩) (by assumption) ?_
       rotate_left
       ·intro w hSw
        try dsimp only at hSw
        go_simp
        try (with_reducible rfl)
       try simp only [Act.put, List.getElem_toArray, List.getElem_cons_zero, List.getElem_cons_succ, List.setIfInBounds_toArray, List.set_cons_zero, List.set_cons_succ]
       refine wpAnyH_take (i := 1) (oi := _) (v := ?_) rfl (by kernel_rfl) (by kernel_rfl) (by kernel_rfl) (fun _ _ _ h => h) (Or.inl ⟨by kernel_rfl, ?_⟩) (by assumption) ?_
       rotate_left
       ·intro w hSw
        try dsimp only at hSw
        go_simp
        try (with_reducible rfl)
       try simp only [Act.put, List.getElem_toArray, List.getElem_cons_zero, List.getElem_cons_succ, List.setIfInBounds_toArray, List.set_cons_zero, List.set_cons_succ]
       refine wpAnyH_take (i := 2) (oi := _) (v := ?_) rfl (by kernel_rfl) (by kernel_rfl) (by kernel_rfl) (fun _ _ _ h => h) (Or.inl ⟨by kernel_rfl, ?_⟩) (by assumption) ?_
       rotate_left
       ·intro w hSw
        try dsimp only at hSw
        go_simp
        try (with_reducible rfl)
       try simp only [Act.put, List.getElem_toArray, List.getElem_cons_zero, List.getElem_cons_succ, List.setIfInBounds_toArray, List.set_cons_zero, List.set_cons_succ]
       refine wpAnyH_take (i := 3) (oi := _) (v := ?_) rfl (by kernel_rfl) (by kernel_rfl) (by kernel_rfl) (fun _ _ _ h => h) (Or.inl ⟨by kernel_rfl, ?_⟩) (by assumption) ?_
       rotate_left
       ·intro w hSw
        try dsimp only at hSw
        go_simp
        try (with_reducible rfl)
       try simp only [Act.put, List.getElem_toArray, List.getElem_cons_zero, List.getElem_cons_succ, List.setIfInBounds_toArray, List.set_cons_zero, List.set_cons_succ]
       refine wpAnyH_take (i := 4) (oi := _) (v := ?_) rfl (by kernel_rfl) (by kernel_rfl) (by kernel_rfl) (fun _ _ _ h => h) (Or.inl ⟨by kernel_rfl, ?_⟩) (by assumption) ?_
       rotate_left
       ·intro w hSw
        try dsimp only at hSw
        go_simp
        try (with_reducible rfl)
       try simp only [Act.put, List.getElem_toArray, List.getElem_cons_zero, List.getElem_cons_succ, List.setIfInBounds_toArray, List.set_cons_zero, List.set_cons_succ]
       refine wpAnyH_take (i := 5) (oi := _) (v := ?_) rfl (by kernel_rfl) (by kernel_rfl) (by kernel_rfl) (fun _ _ _ h => h) (Or.inl ⟨by kernel_rfl, ?_⟩) (by assumption) ?_
       rotate_left
       ·intro w hSw
        try dsimp only at hSw
        go_simp
        try (with_reducible rfl)
       try simp only [Act.put, List.getElem_toArray, List.getElem_cons_zero, List.getElem_cons_succ, List.setIfInBounds_toArray, List.set_cons_zero, List.set_cons_succ]
       refine wpAnyH_ready (rs := [6]) (by kernel_rfl) (by simp) ?_
       refine AllReadyH.cons (o := _) rfl (fun K hK => ?_) AllReadyH.nil
       go_simp
       go_at_call 12
       refine (HFa.out _ hs.2.1).mono ?_
       rintro e x1 ⟨rfl, hb'⟩
       have hs := since_step hs hb'
       refine hK.out _ _ hs (fun _ => ?_)
       clear hK K hb'
       try simp only [Act.put, List.getElem_toArray, List.getElem_cons_zero, List.getElem_cons_succ, List.setIfInBounds_toArray, List.set_cons_zero, List.set_cons_succ]
       refine wpAnyH_take (i := 7) (oi := _) (v := ?_) rfl (by kernel_rfl) (by kernel_rfl) (by kernel_rfl) (fun _ _ _ h => h) (Or.inl ⟨by kernel_rfl, ?_⟩) (by assumption) ?_
       rotate_left
       ·intro w hSw
        try dsimp only at hSw
        go_simp
        try (with_reducible rfl)
       try simp only [Act.put, List.getElem_toArray, List.getElem_cons_zero, List.getElem_cons_succ, List.setIfInBounds_toArray, List.set_cons_zero, List.set_cons_succ]
       refine wpAnyH_take (i := 8) (oi := _) (v := undef) rfl (by kernel_rfl) (by kernel_rfl) (by kernel_rfl) (fun _ _ _ h => h) (Or.inr ⟨by kernel_rfl, rfl⟩) (by assumption) ?_
       try simp only [Act.put, List.getElem_toArray, List.getElem_cons_zero, List.getElem_cons_succ, List.setIfInBounds_toArray, List.set_cons_zero, List.set_cons_succ]
       refine wpAnyH_take (i := 9) (oi := _) (v := undef) rfl (by kernel_rfl) (by kernel_rfl) (by kernel_rfl) (fun _ _ _ h => h) (Or.inr ⟨by kernel_rfl, rfl⟩) (by assumption) ?_
       try simp only [Act.put, List.getElem_toArray, List.getElem_cons_zero, List.getElem_cons_succ, List.setIfInBounds_toArray, List.set_cons_zero, List.set_cons_succ]
       refine wpAnyH_take (i := 10) (oi := _) (v := undef) rfl (by kernel_rfl) (by kernel_rfl) (by kernel_rfl) (fun _ _ _ h => h) (Or.inr ⟨by kernel_rfl, rfl⟩) (by assumption) ?_
       try simp only [Act.put, List.getElem_toArray, List.getElem_cons_zero, List.getElem_cons_succ, List.setIfInBounds_toArray, List.set_cons_zero, List.set_cons_succ]
       refine wpAnyH_take (i := 11) (oi := _) (v := undef) rfl (by kernel_rfl) (by kernel_rfl) (by kernel_rfl) (fun _ _ _ h => h) (Or.inr ⟨by kernel_rfl, rfl⟩) (by assumption) ?_
       try simp only [Act.put, List.getElem_toArray, List.getElem_cons_zero, List.getElem_cons_succ, List.setIfInBounds_toArray, List.set_cons_zero, List.set_cons_succ]
       refine wpAnyH_take (i := 12) (oi := _) (v := undef) rfl (by kernel_rfl) (by kernel_rfl) (by kernel_rfl) (fun _ _ _ h => h) (Or.inr ⟨by kernel_rfl, rfl⟩) (by assumption) ?_
       try simp only [Act.put, List.getElem_toArray, List.getElem_cons_zero, List.getElem_cons_succ, List.setIfInBounds_toArray, List.set_cons_zero, List.set_cons_succ]
       refine wpAnyH_take (i := 13) (oi := _) (v := ?_) rfl (by kernel_rfl) (by kernel_rfl) (by kernel_rfl) (fun _ _ _ h => h) (Or.inl ⟨by kernel_rfl, ?_⟩) (by assumption) ?_
       rotate_left
       ·intro w hSw
        try dsimp only at hSw
        go_simp
        try (with_reducible rfl)
       try simp only [Act.put, List.getElem_toArray, List.getElem_cons_zero, List.getElem_cons_succ, List.setIfInBounds_toArray, List.set_cons_zero, List.set_cons_succ]
       refine wpAnyH_take (i := 14) (oi := _) (v := ?_) rfl (by kernel_rfl) (by kernel_rfl) (by kernel_rfl) (fun _ _ _ h => h) (Or.inl ⟨by kernel_rfl, ?_⟩) (by assumption) ?_
       rotate_left
       ·intro w hSw
        try dsimp only at hSw
        go_simp
        try (with_reducible rfl)
       try simp only [Act.put, List.getElem_toArray, List.getElem_cons_zero, List.getElem_cons_succ, List.setIfInBounds_toArray, List.set_cons_zero, List.set_cons_succ]
       refine wpAnyH_take (i := 15) (oi := _) (v := ?_) rfl (by kernel_rfl) (by kernel_rfl) (by kernel_rfl) (fun _ _ _ h => h) (Or.inl ⟨by kernel_rfl, ?_⟩) (by assumption) ?_
       rotate_left
       ·intro w hSw
        try dsimp only at hSw
        go_simp
        try (with_reducible rfl)
       try simp only [Act.put, List.getElem_toArray, List.getElem_cons_zero, List.getElem_cons_succ, List.setIfInBounds_toArray, List.set_cons_zero, List.set_cons_succ]
       have HI2 := Lib.hid (HI.out.next hs.2.1)
       refine wpAnyH_done (by kernel_rfl) ?_ _
       refine NoPanic.normal ?_
       clear hs
       (go_wp2; refine ⟨⟨i + 1, by rw [show ((i + 1 : Nat) : Int) = (i : Int) + 1 by omega], by rw [HN.out]; rfl, by omega, HI2⟩, ?_⟩; simp [intOf]; omega)
      | true =>
       go_wp2
       refine wp_region_noPanic ?_
       refine wp_region_held_drew (S := fun w' => (∀ b o, b < wr.heap.size → w'.cell? ⟨b, o, none⟩ = wr.cell? ⟨b, o, none⟩) ∧ Since wr.heap.size wr w') (by kernel_rfl) (since_start (Nat.le_refl _)) (fun hHeld => ?_)
       have hs := since_start (w0 := wr) (Nat.le_refl wr.heap.size)
       refine wpAnyH_take (i := 0) (oi := _) (v := ?_) rfl (by kernel_rfl) (by kernel_rfl) (by kernel_rfl) (fun _ _ _ h => h) (Or.inl ⟨by kernel_rfl, ?_⟩) (by assumption) ?_
       rotate_left
       ·intro w hSw
        try dsimp only at hSw
        go_simp
        try (with_reducible rfl)
       try simp only [Act.put, List.getElem_toArray, List.getElem_cons_zero, List.getElem_cons_succ, List.setIfInBounds_toArray, List.set_cons_zero, List.set_cons_succ]
       refine wpAnyH_take (i := 1) (oi := _) (v := ?_) rfl (by kernel_rfl) (by kernel_rfl) (by kernel_rfl) (fun _ _ _ h => h) (Or.inl ⟨by kernel_rfl, ?_⟩) (by assumption) ?_
       rotate_left
       ·intro w hSw
        try dsimp only at hSw
        go_simp
        try (with_reducible rfl)
       try simp only [Act.put, List.getElem_toArray, List.getElem_cons_zero, List.getElem_cons_succ, List.setIfInBounds_toArray, List.set_cons_zero, List.set_cons_succ]
       refine wpAnyH_take (i := 2) (oi := _) (v := ?_) rfl (by kernel_rfl) (by kernel_rfl) (by kernel_rfl) (fun _ _ _ h => h) (Or.inl ⟨by kernel_rfl, ?_⟩) (by assumption) ?_
       rotate_left
       ·intro w hSw
        try dsimp only at hSw
        go_simp
        try (with_reducible rfl)
       try simp only [Act.put, List.getElem_toArray, List.getElem_cons_zero, List.getElem_cons_succ, List.setIfInBounds_toArray, List.set_cons_zero, List.set_cons_succ]
       refine wpAnyH_take (i := 3) (oi := _) (v := ?_) rfl (by kernel_rfl) (by kernel_rfl) (by kernel_rfl) (fun _ _ _ h => h) (Or.inl ⟨by kernel_rfl, ?_⟩) (by assumption) ?_
       rotate_left
       ·intro w hSw
        try dsimp only at hSw
        go_simp
        try (with_reducible rfl)
       try simp only [Act.put, List.getElem_toArray, List.getElem_cons_zero, List.getElem_cons_succ, List.setIfInBounds_toArray, List.set_cons_zero, List.set_cons_succ]
       refine wpAnyH_take (i := 4) (oi := _) (v := ?_) rfl (by kernel_rfl) (by kernel_rfl) (by kernel_rfl) (fun _ _ _ h => h) (Or.inl ⟨by kernel_rfl, ?_⟩) (by assumption) ?_
       rotate_left
       ·intro w hSw
        try dsimp only at hSw
        go_simp
        try (with_reducible rfl)
       try simp only [Act.put, List.getElem_toArray, List.getElem_cons_zero, List.getElem_cons_succ, List.setIfInBounds_toArray, List.set_cons_zero, List.set_cons_succ]
       refine wpAnyH_take (i := 5) (oi := _) (v := ?_) rfl (by kernel_rfl) (by kernel_rfl) (by kernel_rfl) (fun _ _ _ h => h) (Or.inl ⟨by kernel_rfl, ?_⟩) (by assumption) ?_
       rotate_left
       ·intro w hSw
        try dsimp only at hSw
        go_simp
        try (with_reducible rfl)
       try simp only [Act.put, List.getElem_toArray, List.getElem_cons_zero, List.getElem_cons_succ, List.setIfInBounds_toArray, List.set_cons_zero, List.set_cons_succ]
       refine wpAnyH_ready (rs := [6]) (by kernel_rfl) (by simp) ?_
       refine AllReadyH.cons (o := _) rfl (fun K hK => ?_) AllReadyH.nil
       go_simp
       go_at_call 12
       refine (HFa.out _ hs.2.1).mono ?_
       rintro e x1 ⟨rfl, hb'⟩
       have hs := since_step hs hb'
       refine hK.out _ _ hs (fun _ => ?_)
       clear hK K hb'
       try simp only [Act.put, List.getElem_toArray, List.getElem_cons_zero, List.getElem_cons_succ, List.setIfInBounds_toArray, List.set_cons_zero, List.set_cons_succ]
       refine wpAnyH_take (i := 7) (oi := _) (v := ?_) rfl (by kernel_rfl) (by kernel_rfl) (by kernel_rfl) (fun _ _ _ h => h) (Or.inl ⟨by kernel_rfl, ?_⟩) (by assumption) ?_
       rotate_left
       ·intro w hSw
        try dsimp only at hSw
        go_simp
        try (with_reducible rfl)
       try simp only [Act.put, List.getElem_toArray, List.getElem_cons_zero, List.getElem_cons_succ, List.setIfInBounds_toArray, List.set_cons_zero, List.set_cons_succ]
       refine wpAnyH_take (i := 8) (oi := _) (v := ?_) rfl (by kernel_rfl) (by kernel_rfl) (by kernel_rfl) (fun _ _ _ h => h) (Or.inl ⟨by kernel_rfl, ?_⟩) (by assumption) ?_
       rotate_left
       ·intro w hSw
        try dsimp only at hSw
        go_simp
        try (with_reducible rfl)
       try simp only [Act.put, List.getElem_toArray, List.getElem_cons_zero, List.getElem_cons_succ, List.setIfInBounds_toArray, List.set_cons_zero, List.set_cons_succ]
       refine wpAnyH_take (i := 9) (oi := _) (v := ?_) rfl (by kernel_rfl) (by kernel_rfl) (by kernel_rfl) (fun _ _ _ h => h) (Or.inl ⟨by kernel_rfl, ?_⟩) (by assumption) ?_
       rotate_left
       ·intro w hSw
        try dsimp only at hSw
        go_simp
        try (with_reducible rfl)
       try simp only [Act.put, List.getElem_toArray, List.getElem_cons_zero, List.getElem_cons_succ, List.setIfInBounds_toArray, List.set_cons_zero, List.set_cons_succ]
       refine wpAnyH_take (i := 10) (oi := _) (v := ?_) rfl (by kernel_rfl) (by kernel_rfl) (by kernel_rfl) (fun _ _ _ h => h) (Or.inl ⟨by kernel_rfl, ?_⟩) (by assumption) ?_
       rotate_left
       ·intro w hSw
        try dsimp only at hSw
        go_simp
        try (with_reducible rfl)
       try simp only [Act.put, List.getElem_toArray, List.getElem_cons_zero, List.getElem_cons_succ, List.setIfInBounds_toArray, List.set_cons_zero, List.set_cons_succ]
       refine wpAnyH_take (i := 11) (oi := _) (v := ?_) rfl (by kernel_rfl) (by kernel_rfl) (by kernel_rfl) (fun _ _ _ h => h) (Or.inl ⟨by kernel_rfl, ?_⟩) (by assumption) ?_
       rotate_left
       ·intro w hSw
        try dsimp only at hSw
        go_simp
        try (with_reducible rfl)
       try simp only [Act.put, List.getElem_toArray, List.getElem_cons_zero, List.getElem_cons_succ, List.setIfInBounds_toArray, List.set_cons_zero, List.set_cons_succ]
       refine wpAnyH_ready (rs := [12]) (by kernel_rfl) (by simp) ?_
       refine AllReadyH.cons (o := _) rfl (fun K hK => ?_) AllReadyH.nil
       go_simp
       go_at_call 12
       refine (HFb.out _ hs.2.1).mono ?_
       rintro e x2 ⟨rfl, hb'⟩
       have hs := since_step hs hb'
       refine hK.out _ _ hs (fun _ => ?_)
       clear hK K hb'
       try simp only [Act.put, List.getElem_toArray, List.getElem_cons_zero, List.getElem_cons_succ, List.setIfInBounds_toArray, List.set_cons_zero, List.set_cons_succ]
       refine wpAnyH_take (i := 13) (oi := _) (v := ?_) rfl (by kernel_rfl) (by kernel_rfl) (by kernel_rfl) (fun _ _ _ h => h) (Or.inl ⟨by kernel_rfl, ?_⟩) (by assumption) ?_
       rotate_left
       ·intro w hSw
        try dsimp only at hSw
        go_simp
        try (with_reducible rfl)
       try simp only [Act.put, List.getElem_toArray, List.getElem_cons_zero, List.getElem_cons_succ, List.setIfInBounds_toArray, List.set_cons_zero, List.set_cons_succ]
       refine wpAnyH_take (i := 14) (oi := _) (v := ?_) rfl (by kernel_rfl) (by kernel_rfl) (by kernel_rfl) (fun _ _ _ h => h) (Or.inl ⟨by kernel_rfl, ?_⟩) (by assumption) ?_
       rotate_left
       ·intro w hSw
        try dsimp only at hSw
        go_simp
        try (with_reducible rfl)
       try simp only [Act.put, List.getElem_toArray, List.getElem_cons_zero, List.getElem_cons_succ, List.setIfInBounds_toArray, List.set_cons_zero, List.set_cons_succ]
       refine wpAnyH_take (i := 15) (oi := _) (v := ?_) rfl (by kernel_rfl) (by kernel_rfl) (by kernel_rfl) (fun _ _ _ h => h) (Or.inl ⟨by kernel_rfl, ?_⟩) (by assumption) ?_
       rotate_left
       ·intro w hSw
        try dsimp only at hSw
        go_simp
        try (with_reducible rfl)
       try simp only [Act.put, List.getElem_toArray, List.getElem_cons_zero, List.getElem_cons_succ, List.setIfInBounds_toArray, List.set_cons_zero, List.set_cons_succ]
       have HI2 := Lib.hid (HI.out.next hs.2.1)
       refine wpAnyH_done (by kernel_rfl) ?_ _
       refine NoPanic.normal ?_
       clear hs
       (go_wp2; refine ⟨⟨i + 1, by rw [show ((i + 1 : Nat) : Int) = (i : Int) + 1 by omega], by rw [HN.out]; rfl, by omega, HI2⟩, ?_⟩; simp [intOf]; omega)
    ·obtain rfl : i = bs.length + 1 := by omega
     have hdl : ¬ ((bs.length + 1 : Nat) : Int) ≤ (bs.length : Int) := by omega
     have HFa := Lib.hid (fun (W' : World) (h : JoI w W' V cv bs ga gb gx a b x Ba Bb Bx ca cb cx) => full_in h.na h.word (by have := HS.out; omega))
     have HFb := Lib.hid (fun (W' : World) (h : JoI w W' V cv bs ga gb gx a b x Ba Bb Bx ca cb cx) => full_in h.nb h.word (by have := HS.out; omega))
     have HFx := Lib.hid (fun (W' : World) (h : JoI w W' V cv bs ga gb gx a b x Ba Bb Bx ca cb cx) => full_in h.nx h.word (by rw [← HX.out]; show 1 + (Trees.of [a, b]).size ≤ _; rw [size_two]; have := HS.out; omega))
     have HAl := Lib.hid (fun (W' : World) (h : JoI w W' V cv bs ga gb gx a b x Ba Bb Bx ca cb cx) => alt_in HY.out h.na h.nb (by have := HS.out; omega))
     have HFy := Lib.hid (fun (W' : World) (B' : Option Addr) (cap' : Nat) (h : WordIn w W' V cv bs) (hc : y.kids.len ≤ cap') (ht : TreesAt W' (fun b => b < W'.heap.size) y.kids B') => pfull_go y B' cap' V cv bs W' (by rw [← HY.out]; show 1 + (Trees.of [a, b]).size ≤ _; rw [size_two]; have := HS.out; omega) hc ht h.bytes h.cap h.tab h.pos)
     rw [HL1.out] at HFx
     rw [HL2.out] at HFy
     unfold ndV at HFa HFb HFx HFy
     unfold ndCell at HAl
     generalize cutB a b bs 0 (bs.length + 1) = c0 at *
     generalize fullB a bs = fa at *
     generalize fullB b bs = fb at *
     clear HL1 HL2
     obtain ⟨p0, p1, p2, p3, p4, p5, p6, p7⟩ : _ ∧ _ ∧ _ ∧ _ ∧ _ ∧ _ ∧ _ ∧ _ := ⟨(HI.out.na.box).cell 0, (HI.out.na.box).cell 1, (HI.out.na.box).cell 2, (HI.out.na.box).cell 3, (HI.out.na.box).cell 4, (HI.out.na.box).cell 5, (HI.out.na.box).cell 6, (HI.out.na.box).cell 7⟩
     simp only [List.getElem?_toArray, List.getElem?_cons_zero, List.getElem?_cons_succ, ndA] at p0 p1 p2 p3 p4 p5 p6 p7
     have pl := (HI.out.na.box).lt
     go_wp2_with fail
     refine (HFa.out _ HI.out).mono ?_
     rintro e w5 ⟨rfl, hb5⟩
     have HI5 := Lib.hid (HI.out.next hb5)
     clear hb5 HI
     clear p0 p1 p2 p3 p4 p5 p6 p7 pl
     dsimp only
     cases fa with
     | true =>
      go_upto_region 10 with fail
      obtain ⟨p0, p1, p2, p3, p4, p5, p6, p7⟩ : _ ∧ _ ∧ _ ∧ _ ∧ _ ∧ _ ∧ _ ∧ _ := ⟨((HI5).out.na.box).cell 0, ((HI5).out.na.box).cell 1, ((HI5).out.na.box).cell 2, ((HI5).out.na.box).cell 3, ((HI5).out.na.box).cell 4, ((HI5).out.na.box).cell 5, ((HI5).out.na.box).cell 6, ((HI5).out.na.box).cell 7⟩
      simp only [List.getElem?_toArray, List.getElem?_cons_zero, List.getElem?_cons_succ, ndA] at p0 p1 p2 p3 p4 p5 p6 p7
      have pl := ((HI5).out.na.box).lt
      obtain ⟨q0, q1, q2, q3, q4, q5, q6, q7⟩ : _ ∧ _ ∧ _ ∧ _ ∧ _ ∧ _ ∧ _ ∧ _ := ⟨((HI5).out.nb.box).cell 0, ((HI5).out.nb.box).cell 1, ((HI5).out.nb.box).cell 2, ((HI5).out.nb.box).cell 3, ((HI5).out.nb.box).cell 4, ((HI5).out.nb.box).cell 5, ((HI5).out.nb.box).cell 6, ((HI5).out.nb.box).cell 7⟩
      simp only [List.getElem?_toArray, List.getElem?_cons_zero, List.getElem?_cons_succ, ndA] at q0 q1 q2 q3 q4 q5 q6 q7
      have ql := ((HI5).out.nb.box).lt
      obtain ⟨r0, r1, r2, r3, r4, r5, r6, r7⟩ : _ ∧ _ ∧ _ ∧ _ ∧ _ ∧ _ ∧ _ ∧ _ := ⟨((HI5).out.nx.box).cell 0, ((HI5).out.nx.box).cell 1, ((HI5).out.nx.box).cell 2, ((HI5).out.nx.box).cell 3, ((HI5).out.nx.box).cell 4, ((HI5).out.nx.box).cell 5, ((HI5).out.nx.box).cell 6, ((HI5).out.nx.box).cell 7⟩
      simp only [List.getElem?_toArray, List.getElem?_cons_zero, List.getElem?_cons_succ, ndA] at r0 r1 r2 r3 r4 r5 r6 r7
      have rl := ((HI5).out.nx.box).lt
      go_wp2_with fail
      refine (HFx.out _ (HI5).out).mono ?_
      rintro e w7 ⟨rfl, hb7⟩
      have HI7 := Lib.hid ((HI5).out.next hb7)
      clear hb7 p0 p1 p2 p3 p4 p5 p6 p7 pl q0 q1 q2 q3 q4 q5 q6 q7 ql r0 r1 r2 r3 r4 r5 r6 r7 rl
      have HA7 := Lib.hid (HAl.out _ HI7.out)
      obtain ⟨p0, p1, p2, p3, p4, p5, p6, p7⟩ : _ ∧ _ ∧ _ ∧ _ ∧ _ ∧ _ ∧ _ ∧ _ := ⟨(HI7.out.na.box).cell 0, (HI7.out.na.box).cell 1, (HI7.out.na.box).cell 2, (HI7.out.na.box).cell 3, (HI7.out.na.box).cell 4, (HI7.out.na.box).cell 5, (HI7.out.na.box).cell 6, (HI7.out.na.box).cell 7⟩
      simp only [List.getElem?_toArray, List.getElem?_cons_zero, List.getElem?_cons_succ, ndA] at p0 p1 p2 p3 p4 p5 p6 p7
      have pl := (HI7.out.na.box).lt
      obtain ⟨q0, q1, q2, q3, q4, q5, q6, q7⟩ : _ ∧ _ ∧ _ ∧ _ ∧ _ ∧ _ ∧ _ ∧ _ := ⟨(HI7.out.nb.box).cell 0, (HI7.out.nb.box).cell 1, (HI7.out.nb.box).cell 2, (HI7.out.nb.box).cell 3, (HI7.out.nb.box).cell 4, (HI7.out.nb.box).cell 5, (HI7.out.nb.box).cell 6, (HI7.out.nb.box).cell 7⟩
      simp only [List.getElem?_toArray, List.getElem?_cons_zero, List.getElem?_cons_succ, ndA] at q0 q1 q2 q3 q4 q5 q6 q7
      have ql := (HI7.out.nb.box).lt
      dsimp only
      cases c0
      all_goals
       go_wp2_with fail
       refine HA7.out.mono ?_
       rintro e w8 ⟨B8, c8, rfl, hb8, hc8, ht8⟩
       have HW8 := Lib.hid (HI7.out.word.next hb8)
       have HF8 := Lib.hid (HFy.out _ B8 c8 HW8.out hc8 ht8)
       unfold ndV
       clear hb8 ht8 HA7 p0 p1 p2 p3 p4 p5 p6 p7 pl q0 q1 q2 q3 q4 q5 q6 q7 ql
       dsimp only
       go_wp2_with fail
       refine HF8.out.mono ?_
       rintro e w9 ⟨rfl, hb9⟩
       have HW9 := Lib.hid (HW8.out.next hb9)
       have HK := Lib.hid (knows11_go w9 HW9.out.tab HW9.out.pos)
       clear hb9 HF8 HW8
       dsimp only
       try cases fb
       all_goals
        go_wp2_with fail
        refine HK.out.mono ?_
        rintro e w10 ⟨rfl, hb10⟩
        have HB10 := Lib.hid (HW9.out.below.trans (hb10.mono HW9.out.below.size))
        clear hb10 HK
        dsimp only
        go_wp2
        go_light
        go_ret
        exact ⟨rfl, HB10.out⟩
     | false =>
      obtain ⟨q0, q1, q2, q3, q4, q5, q6, q7⟩ : _ ∧ _ ∧ _ ∧ _ ∧ _ ∧ _ ∧ _ ∧ _ := ⟨(HI5.out.nb.box).cell 0, (HI5.out.nb.box).cell 1, (HI5.out.nb.box).cell 2, (HI5.out.nb.box).cell 3, (HI5.out.nb.box).cell 4, (HI5.out.nb.box).cell 5, (HI5.out.nb.box).cell 6, (HI5.out.nb.box).cell 7⟩
      simp only [List.getElem?_toArray, List.getElem?_cons_zero, List.getElem?_cons_succ, ndA] at q0 q1 q2 q3 q4 q5 q6 q7
      have ql := (HI5.out.nb.box).lt
      go_wp2_with fail
      refine (HFb.out _ HI5.out).mono ?_
      rintro e w6 ⟨rfl, hb6⟩
      have HI6 := Lib.hid (HI5.out.next hb6)
      clear hb6 HI5
      clear q0 q1 q2 q3 q4 q5 q6 q7 ql
      dsimp only
      go_upto_region 10 with fail
      obtain ⟨p0, p1, p2, p3, p4, p5, p6, p7⟩ : _ ∧ _ ∧ _ ∧ _ ∧ _ ∧ _ ∧ _ ∧ _ := ⟨((HI6).out.na.box).cell 0, ((HI6).out.na.box).cell 1, ((HI6).out.na.box).cell 2, ((HI6).out.na.box).cell 3, ((HI6).out.na.box).cell 4, ((HI6).out.na.box).cell 5, ((HI6).out.na.box).cell 6, ((HI6).out.na.box).cell 7⟩
      simp only [List.getElem?_toArray, List.getElem?_cons_zero, List.getElem?_cons_succ, ndA] at p0 p1 p2 p3 p4 p5 p6 p7
      have pl := ((HI6).out.na.box).lt
      obtain ⟨q0, q1, q2, q3, q4, q5, q6, q7⟩ : _ ∧ _ ∧ _ ∧ _ ∧ _ ∧ _ ∧ _ ∧ _ := ⟨((HI6).out.nb.box).cell 0, ((HI6).out.nb.box).cell 1, ((HI6).out.nb.box).cell 2, ((HI6).out.nb.box).cell 3, ((HI6).out.nb.box).cell 4, ((HI6).out.nb.box).cell 5, ((HI6).out.nb.box).cell 6, ((HI6).out.nb.box).cell 7⟩
      simp only [List.getElem?_toArray, List.getElem?_cons_zero, List.getElem?_cons_succ, ndA] at q0 q1 q2 q3 q4 q5 q6 q7
      have ql := ((HI6).out.nb.box).lt
      obtain ⟨r0, r1, r2, r3, r4, r5, r6, r7⟩ : _ ∧ _ ∧ _ ∧ _ ∧ _ ∧ _ ∧ _ ∧ _ := ⟨((HI6).out.nx.box).cell 0, ((HI6).out.nx.box).cell 1, ((HI6).out.nx.box).cell 2, ((HI6).out.nx.box).cell 3, ((HI6).out.nx.box).cell 4, ((HI6).out.nx.box).cell 5, ((HI6).out.nx.box).cell 6, ((HI6).out.nx.box).cell 7⟩
      simp only [List.getElem?_toArray, List.getElem?_cons_zero, List.getElem?_cons_succ, ndA] at r0 r1 r2 r3 r4 r5 r6 r7
      have rl := ((HI6).out.nx.box).lt
      go_wp2_with fail
      refine (HFx.out _ (HI6).out).mono ?_
      rintro e w7 ⟨rfl, hb7⟩
      have HI7 := Lib.hid ((HI6).out.next hb7)
      clear hb7 p0 p1 p2 p3 p4 p5 p6 p7 pl q0 q1 q2 q3 q4 q5 q6 q7 ql r0 r1 r2 r3 r4 r5 r6 r7 rl
      have HA7 := Lib.hid (HAl.out _ HI7.out)
      obtain ⟨p0, p1, p2, p3, p4, p5, p6, p7⟩ : _ ∧ _ ∧ _ ∧ _ ∧ _ ∧ _ ∧ _ ∧ _ := ⟨(HI7.out.na.box).cell 0, (HI7.out.na.box).cell 1, (HI7.out.na.box).cell 2, (HI7.out.na.box).cell 3, (HI7.out.na.box).cell 4, (HI7.out.na.box).cell 5, (HI7.out.na.box).cell 6, (HI7.out.na.box).cell 7⟩
      simp only [List.getElem?_toArray, List.getElem?_cons_zero, List.getElem?_cons_succ, ndA] at p0 p1 p2 p3 p4 p5 p6 p7
      have pl := (HI7.out.na.box).lt
      obtain ⟨q0, q1, q2, q3, q4, q5, q6, q7⟩ : _ ∧ _ ∧ _ ∧ _ ∧ _ ∧ _ ∧ _ ∧ _ := ⟨(HI7.out.nb.box).cell 0, (HI7.out.nb.box).cell 1, (HI7.out.nb.box).cell 2, (HI7.out.nb.box).cell 3, (HI7.out.nb.box).cell 4, (HI7.out.nb.box).cell 5, (HI7.out.nb.box).cell 6, (HI7.out.nb.box).cell 7⟩
      simp only [List.getElem?_toArray, List.getElem?_cons_zero, List.getElem?_cons_succ, ndA] at q0 q1 q2 q3 q4 q5 q6 q7
      have ql := (HI7.out.nb.box).lt
      dsimp only
      cases c0
      all_goals
       go_wp2_with fail
       refine HA7.out.mono ?_
       rintro e w8 ⟨B8, c8, rfl, hb8, hc8, ht8⟩
       have HW8 := Lib.hid (HI7.out.word.next hb8)
       have HF8 := Lib.hid (HFy.out _ B8 c8 HW8.out hc8 ht8)
       unfold ndV
       clear hb8 ht8 HA7 p0 p1 p2 p3 p4 p5 p6 p7 pl q0 q1 q2 q3 q4 q5 q6 q7 ql
       dsimp only
       go_wp2_with fail
       refine HF8.out.mono ?_
       rintro e w9 ⟨rfl, hb9⟩
       have HW9 := Lib.hid (HW8.out.next hb9)
       have HK := Lib.hid (knows11_go w9 HW9.out.tab HW9.out.pos)
       clear hb9 HF8 HW8
       dsimp only
       try cases fb
       all_goals
        go_wp2_with fail
        refine HK.out.mono ?_
        rintro e w10 ⟨rfl, hb10⟩
        have HB10 := Lib.hid (HW9.out.below.trans (hb10.mono HW9.out.below.size))
        clear hb10 HK
        dsimp only
        go_wp2
        go_light
        go_ret
        exact ⟨rfl, HB10.out⟩
end Go.Proofs.YtfcblmbieiibmaaDoor
