/- Texts of the claim. -/
import Derived.Test.YtofbfafnpdaejaaGreatDoorJMirSf
import Derived.Test.YtofbfafnpdaejaaGreatDoorJMirL
import Derived.Test.YtofbfafnpdaejaaGreatDoorJMatJo
import Derived.Test.YtofbfafnpdaejaaGreatDoorJTSize
import Derived.Test.YtofbfafnpdaejaaGreatDoorJZ03
namespace Go.Proofs.YtofbfafnpdaejaaGreatDoor
open Go.RowKit
set_option linter.unusedSimpArgs false
set_option linter.unusedVariables false
set_option maxRecDepth 100000
set_option maxHeartbeats 8000000
theorem mirsays_law (x : Nd) (B : Option Addr) (cap : Nat) (V : Option Addr) (cv : Nat) (bs : List Nat) (w : World) (hsx : x.size ≤ 2000000) (hlx : x.kids.len ≤ cap) (htx : TreesAt w (fun c => c < w.heap.size) x.kids B) (hV : BytesAt w w.heap.size V bs) (hcv : bs.length ≤ cv) (hT : TabAt 0 Lib.deBruijn64tab w) (hw0 : 0 < w.heap.size) :
  Calls Tryz.prog 3 #[ndV x B cap, .slice V bs.length cv] w fun e w' => e = .returned (.bool true) ∧ Below w.heap.size w w' := by
 have hb0 : Below w.heap.size w (w.alloc (.cells (ndA x B cap) 28)) := (Below.refl _ _).alloc (Nat.le_refl _) _
 have hnx : NodeIn (w.alloc (.cells (ndA x B cap) 28)) w.heap.size x B cap := ⟨Blk.new w _ _, (htx.below hb0).weak (fun c h _ => Nat.lt_of_lt_of_le h hb0.size), hlx⟩
 have hw : WordIn w (w.alloc (.cells (ndA x B cap) 28)) V cv bs := ⟨hb0, (hV.below hb0).more hb0.size, hcv, TabAt.below hb0 hw0 hT, Nat.lt_of_lt_of_le hw0 hb0.size⟩
 have HX := Lib.hid hnx
 have HW := Lib.hid hw
 have HS := Lib.hid hsx
 have HYs := Lib.hid (show x.turn.size = x.size from x.turn_size)
 have HYr := Lib.hid (turn_right x)
 clear hnx hw hb0 hsx hlx htx hV hT hw0
 unfold ndV
 unfold ndA at HX HW
 go_enter Tryz.func3, Tryz.ntmps3
 go_upto_region 1 with fail
 generalize (w.alloc (.cells #[.int .i64 x.kind, .int .u64 (word x.set.testBit 0), .int .u64 (word x.set.testBit 1), .int .u64 (word x.set.testBit 2), .int .u64 (word x.set.testBit 3), .slice B x.kids.len cap, .int .i64 x.lo, .int .i64 x.hi] 28)) = w1 at *
 generalize hgx : w.heap.size = gx at HX ⊢
 clear hgx
 have HC := Lib.hid (turn_go x _ B cap w1 (by have := HS.out; omega) HX.out.tree)
 unfold ndV at HC
 obtain ⟨p0, p1, p2, p3, p4, p5, p6, p7⟩ : _ ∧ _ ∧ _ ∧ _ ∧ _ ∧ _ ∧ _ ∧ _ := ⟨(HX.out.box).cell 0, (HX.out.box).cell 1, (HX.out.box).cell 2, (HX.out.box).cell 3, (HX.out.box).cell 4, (HX.out.box).cell 5, (HX.out.box).cell 6, (HX.out.box).cell 7⟩
 simp only [List.getElem?_toArray, List.getElem?_cons_zero, List.getElem?_cons_succ, ndA] at p0 p1 p2 p3 p4 p5 p6 p7
 have pl := (HX.out.box).lt
 go_wp2_with fail
 refine HC.out.mono ?_
 rintro e w2 ⟨By, cy, rfl, hb2, hcy, hty⟩
 have hby : Below w2.heap.size w2 (w2.alloc (.cells (ndA x.turn By cy) 28)) := (Below.refl _ _).alloc (Nat.le_refl _) _
 have hb3 := hb2.trans (hby.mono hb2.size)
 have HNx := Lib.hid (HX.out.next hb3)
 have HNw := Lib.hid (HW.out.next hb3)
 have HNy := Lib.hid (show NodeIn (w2.alloc (.cells (ndA x.turn By cy) 28)) w2.heap.size x.turn By cy from ⟨Blk.new w2 _ _, (hty.below hby).weak (fun c _ h => h), hcy⟩)
 clear hb2 hby hb3 hty hcy HC HX HW
 clear p0 p1 p2 p3 p4 p5 p6 p7 pl
 unfold ndA at HNx HNw HNy
 dsimp only
 go_upto_region 2 with fail
 by_cases hl : 100 < bs.length
 ·have hd : (100 : Int) < (bs.length : Int) := by omega
  generalize (w2.alloc (.cells #[.int .i64 x.turn.kind, .int .u64 (word x.turn.set.testBit 0), .int .u64 (word x.turn.set.testBit 1), .int .u64 (word x.turn.set.testBit 2), .int .u64 (word x.turn.set.testBit 3), .slice By x.turn.kids.len cy, .int .i64 x.turn.lo, .int .i64 x.turn.hi] 28)) = w3 at *
  generalize w2.heap.size = gy at *
  go_wp2
  go_region
  have HB9 := Lib.hid (HNw.out.next (drew_belowM w3)).below
  go_wp2
  go_light
  go_ret
  exact ⟨rfl, HB9.out⟩
 ·have hd : decide ((100 : Int) < (bs.length : Int)) = false := by rw [decide_eq_false_iff_not]; omega
  have HTF := Lib.hid (turn_full x bs (by omega))
  generalize (w2.alloc (.cells #[.int .i64 x.turn.kind, .int .u64 (word x.turn.set.testBit 0), .int .u64 (word x.turn.set.testBit 1), .int .u64 (word x.turn.set.testBit 2), .int .u64 (word x.turn.set.testBit 3), .slice By x.turn.kids.len cy, .int .i64 x.turn.lo, .int .i64 x.turn.hi] 28)) = w3 at *
  generalize w2.heap.size = gy at *
  have HFx := Lib.hid (fun (W' : World) (h : Below w3.heap.size w3 W') => full_in (HNx.out.next h) (HNw.out.next h) (by have := HS.out; omega))
  have HWd := Lib.hid (fun (W' : World) (h : Below w3.heap.size w3 W') => (word18_go V bs cv W'.heap.size W' (HNw.out.next h).bytes).mono (R' := fun e w2 => ∃ A' cap', e = .returned (.slice A' bs.length cap') ∧ Below W'.heap.size W' w2 ∧ BytesAt w2 w2.heap.size A' bs.reverse ∧ bs.length ≤ cap') (fun e w2 hq => by
   obtain ⟨A', cap', rfl, h1, h2, h3⟩ := hq
   exact ⟨A', cap', by rw [List.length_reverse], h1, h2, h3⟩))
  have HFy := Lib.hid (fun (W' : World) (h : Below w3.heap.size w3 W') (A' : Option Addr) (cap' : Nat) (hA : BytesAt W' W'.heap.size A' bs.reverse) (hc : bs.length ≤ cap') => by
   have := pfull_go x.turn By cy A' cap' bs.reverse W' (by rw [HYs.out]; have := HS.out; omega) (HNy.out.next h).cap (HNy.out.next h).tree hA (by rw [List.length_reverse]; exact hc) (HNw.out.next h).tab (HNw.out.next h).pos
   rw [List.length_reverse, HTF.out] at this
   exact this)
  have HZx := Lib.hid (fun (W' : World) (h : Below w3.heap.size w3 W') => tsize_any x B cap W' (by have := HS.out; omega) (HNx.out.next h).tree)
  have HZy := Lib.hid (fun (W' : World) (h : Below w3.heap.size w3 W') => by
   have := tsize_any x.turn By cy W' (by rw [HYs.out]; have := HS.out; omega) (HNy.out.next h).tree
   rw [HYs.out] at this
   exact this)
  have HRx := Lib.hid (fun (W' : World) (h : Below w3.heap.size w3 W') => tright_any x B cap W' (by have := HS.out; omega) (HNx.out.next h).tree)
  have HRy := Lib.hid (fun (W' : World) (h : Below w3.heap.size w3 W') => by
   have := tright_any x.turn By cy W' (by rw [HYs.out]; have := HS.out; omega) (HNy.out.next h).tree
   rw [HYr.out] at this
   exact this)
  have HK := Lib.hid (fun (W' : World) (h : Below w3.heap.size w3 W') => knows18_go W' (HNw.out.next h).tab (HNw.out.next h).pos)
  unfold ndV at HFx HFy HZx HZy HRx HRy
  obtain ⟨p0, p1, p2, p3, p4, p5, p6, p7⟩ : _ ∧ _ ∧ _ ∧ _ ∧ _ ∧ _ ∧ _ ∧ _ := ⟨(HNx.out.box).cell 0, (HNx.out.box).cell 1, (HNx.out.box).cell 2, (HNx.out.box).cell 3, (HNx.out.box).cell 4, (HNx.out.box).cell 5, (HNx.out.box).cell 6, (HNx.out.box).cell 7⟩
  simp only [List.getElem?_toArray, List.getElem?_cons_zero, List.getElem?_cons_succ, ndA] at p0 p1 p2 p3 p4 p5 p6 p7
  have pl := (HNx.out.box).lt
  obtain ⟨q0, q1, q2, q3, q4, q5, q6, q7⟩ : _ ∧ _ ∧ _ ∧ _ ∧ _ ∧ _ ∧ _ ∧ _ := ⟨(HNy.out.box).cell 0, (HNy.out.box).cell 1, (HNy.out.box).cell 2, (HNy.out.box).cell 3, (HNy.out.box).cell 4, (HNy.out.box).cell 5, (HNy.out.box).cell 6, (HNy.out.box).cell 7⟩
  simp only [List.getElem?_toArray, List.getElem?_cons_zero, List.getElem?_cons_succ, ndA] at q0 q1 q2 q3 q4 q5 q6 q7
  have ql := (HNy.out.box).lt
  have HNw2 := Lib.hid HNw.out.below
  clear HTF HYs HYr HNx HNy HNw hl
  generalize x.turn = y at *
  generalize fullB x bs = f at *
  generalize rightT x = r at *
  generalize x.size = n at *
  cases f
  all_goals
   cases r
   all_goals
    go_wp2
    refine wp_region_noPanic ?_
    refine wp_region_held_drew (S := fun w' => (∀ b o, b < w3.heap.size → w'.cell? ⟨b, o, none⟩ = w3.cell? ⟨b, o, none⟩) ∧ Since w3.heap.size w3 w') (by kernel_rfl) (since_start (Nat.le_refl _)) (fun hHeld => ?_)
    have hs := since_start (w0 := w3) (Nat.le_refl w3.heap.size)
    refine wpAnyH_take (i := 0) (oi := _) (v := ?_) rfl (by kernel_rfl) (by kernel_rfl) (by kernel_rfl) (fun _ _ _ h => h) (Or.inl ⟨by kernel_rfl, ?_⟩) (by assumption) ?_
    rotate_left
    ·intro w hSw
     try dsimp only at hSw
     go_simp
     try (with_reducible rfl)
    try simp only [Act.put, List.getElem_toArray, List.getElem_cons_zero, List.getElem_cons_succ, List.setIfInBounds_toArray, List.set_cons_zero, List.set_cons_succ]
    refine wpAnyH_take (i := 1) (oi := _) (v := ?_) rfl (by kernel_rfl) (by kernel_rfl) (by kernel_rfl) (fun _ _ _ h => h) (Or.inl ⟨by kernel_rfl, ?_⟩) (by assumption) ?_
    rotate_left
    ·intro w hSw
     try dsimp only at hSw
     go_simp
     try (with_reducible rfl)
    try simp only [Act.put, List.getElem_toArray, List.getElem_cons_zero, List.getElem_cons_succ, List.setIfInBounds_toArray, List.set_cons_zero, List.set_cons_succ]
    refine wpAnyH_take (i := 2) (oi := _) (v := ?_) rfl (by kernel_rfl) (by kernel_rfl) (by kernel_rfl) (fun _ _ _ h => h) (Or.inl ⟨by kernel_rfl, ?_⟩) (by assumption) ?_
    rotate_left
    ·intro w hSw
     try dsimp only at hSw
     go_simp
     try (with_reducible rfl)
    try simp only [Act.put, List.getElem_toArray, List.getElem_cons_zero, List.getElem_cons_succ, List.setIfInBounds_toArray, List.set_cons_zero, List.set_cons_succ]
    refine wpAnyH_take (i := 3) (oi := _) (v := ?_) rfl (by kernel_rfl) (by kernel_rfl) (by kernel_rfl) (fun _ _ _ h => h) (Or.inl ⟨by kernel_rfl, ?_⟩) (by assumption) ?_
    rotate_left
    ·intro w hSw
     try dsimp only at hSw
     go_simp
     try (with_reducible rfl)
    try simp only [Act.put, List.getElem_toArray, List.getElem_cons_zero, List.getElem_cons_succ, List.setIfInBounds_toArray, List.set_cons_zero, List.set_cons_succ]
    refine wpAnyH_take (i := 4) (oi := _) (v := ?_) rfl (by kernel_rfl) (by kernel_rfl) (by kernel_rfl) (fun _ _ _ h => h) (Or.inl ⟨by kernel_rfl, ?_⟩) (by assumption) ?_
    rotate_left
    ·intro w hSw
     try dsimp only at hSw
     go_simp
     try (with_reducible rfl)
    try simp only [Act.put, List.getElem_toArray, List.getElem_cons_zero, List.getElem_cons_succ, List.setIfInBounds_toArray, List.set_cons_zero, List.set_cons_succ]
    refine wpAnyH_take (i := 5) (oi := _) (v := ?_) rfl (by kernel_rfl) (by kernel_rfl) (by kernel_rfl) (fun _ _ _ h => h) (Or.inl ⟨by kernel_rfl, ?_⟩) (by assumption) ?_
    rotate_left
    ·intro w hSw
     try dsimp only at hSw
     go_simp
     try (with_reducible rfl)
    try simp only [Act.put, List.getElem_toArray, List.getElem_cons_zero, List.getElem_cons_succ, List.setIfInBounds_toArray, List.set_cons_zero, List.set_cons_succ]
    refine wpAnyH_take (i := 7) (oi := _) (v := ?_) rfl (by kernel_rfl) (by kernel_rfl) (by kernel_rfl) (fun _ _ _ h => h) (Or.inl ⟨by kernel_rfl, ?_⟩) (by assumption) ?_
    rotate_left
    ·intro w hSw
     try dsimp only at hSw
     go_simp
     try (with_reducible rfl)
    try simp only [Act.put, List.getElem_toArray, List.getElem_cons_zero, List.getElem_cons_succ, List.setIfInBounds_toArray, List.set_cons_zero, List.set_cons_succ]
    refine wpAnyH_take (i := 8) (oi := _) (v := ?_) rfl (by kernel_rfl) (by kernel_rfl) (by kernel_rfl) (fun _ _ _ h => h) (Or.inl ⟨by kernel_rfl, ?_⟩) (by assumption) ?_
    rotate_left
    ·intro w hSw
     try dsimp only at hSw
     go_simp
     try (with_reducible rfl)
    try simp only [Act.put, List.getElem_toArray, List.getElem_cons_zero, List.getElem_cons_succ, List.setIfInBounds_toArray, List.set_cons_zero, List.set_cons_succ]
    refine wpAnyH_ready (rs := [6]) (by kernel_rfl) (by simp) ?_
    refine AllReadyH.cons (o := _) rfl (fun K hK => ?_) AllReadyH.nil
    go_simp
    go_at_call 12
    refine (HFx.out _ hs.2.1).mono ?_
    rintro e v1 ⟨rfl, hb'⟩
    have hs := since_step hs hb'
    refine hK.out _ _ hs (fun _ => ?_)
    clear hK K hb'
    try simp only [Act.put, List.getElem_toArray, List.getElem_cons_zero, List.getElem_cons_succ, List.setIfInBounds_toArray, List.set_cons_zero, List.set_cons_succ]
    refine wpAnyH_ready (rs := [9]) (by kernel_rfl) (by simp) ?_
    refine AllReadyH.cons (o := _) rfl (fun K hK => ?_) AllReadyH.nil
    go_simp
    go_at_call 13
    refine (HWd.out _ hs.2.1).mono ?_
    rintro e v2 ⟨A9, c9, rfl, hb', hat, hcap9⟩
    have hs := since_step hs hb'
    refine hK.out _ _ hs (fun _ => ?_)
    clear hK K hb'
    try simp only [Act.put, List.getElem_toArray, List.getElem_cons_zero, List.getElem_cons_succ, List.setIfInBounds_toArray, List.set_cons_zero, List.set_cons_succ]
    refine wpAnyH_ready (rs := [10]) (by kernel_rfl) (by simp) ?_
    refine AllReadyH.cons (o := _) rfl (fun K hK => ?_) AllReadyH.nil
    go_simp
    go_at_call 12
    refine (HFy.out _ hs.2.1 _ _ hat hcap9).mono ?_
    rintro e v3 ⟨rfl, hb'⟩
    have hs := since_step hs hb'
    refine hK.out _ _ hs (fun _ => ?_)
    clear hK K hb'
    try simp only [Act.put, List.getElem_toArray, List.getElem_cons_zero, List.getElem_cons_succ, List.setIfInBounds_toArray, List.set_cons_zero, List.set_cons_succ]
    clear hat
    refine wpAnyH_take (i := 11) (oi := _) (v := ?_) rfl (by kernel_rfl) (by kernel_rfl) (by kernel_rfl) (fun _ _ _ h => h) (Or.inl ⟨by kernel_rfl, ?_⟩) (by assumption) ?_
    rotate_left
    ·intro w hSw
     try dsimp only at hSw
     go_simp
     try (with_reducible rfl)
    try simp only [Act.put, List.getElem_toArray, List.getElem_cons_zero, List.getElem_cons_succ, List.setIfInBounds_toArray, List.set_cons_zero, List.set_cons_succ]
    refine wpAnyH_take (i := 12) (oi := _) (v := ?_) rfl (by kernel_rfl) (by kernel_rfl) (by kernel_rfl) (fun _ _ _ h => h) (Or.inl ⟨by kernel_rfl, ?_⟩) (by assumption) ?_
    rotate_left
    ·intro w hSw
     try dsimp only at hSw
     go_simp
     try (with_reducible rfl)
    try simp only [Act.put, List.getElem_toArray, List.getElem_cons_zero, List.getElem_cons_succ, List.setIfInBounds_toArray, List.set_cons_zero, List.set_cons_succ]
    refine wpAnyH_take (i := 13) (oi := _) (v := ?_) rfl (by kernel_rfl) (by kernel_rfl) (by kernel_rfl) (fun _ _ _ h => h) (Or.inl ⟨by kernel_rfl, ?_⟩) (by assumption) ?_
    rotate_left
    ·intro w hSw
     try dsimp only at hSw
     go_simp
     try (with_reducible rfl)
    try simp only [Act.put, List.getElem_toArray, List.getElem_cons_zero, List.getElem_cons_succ, List.setIfInBounds_toArray, List.set_cons_zero, List.set_cons_succ]
    refine wpAnyH_take (i := 15) (oi := _) (v := ?_) rfl (by kernel_rfl) (by kernel_rfl) (by kernel_rfl) (fun _ _ _ h => h) (Or.inl ⟨by kernel_rfl, ?_⟩) (by assumption) ?_
    rotate_left
    ·intro w hSw
     try dsimp only at hSw
     go_simp
     try (with_reducible rfl)
    try simp only [Act.put, List.getElem_toArray, List.getElem_cons_zero, List.getElem_cons_succ, List.setIfInBounds_toArray, List.set_cons_zero, List.set_cons_succ]
    refine wpAnyH_ready (rs := [14]) (by kernel_rfl) (by simp) ?_
    refine AllReadyH.cons (o := _) rfl (fun K hK => ?_) AllReadyH.nil
    go_simp
    go_at_call 14
    refine (HZy.out _ hs.2.1).mono ?_
    rintro e v4 ⟨rfl, hb'⟩
    have hs := since_step hs hb'
    refine hK.out _ _ hs (fun _ => ?_)
    clear hK K hb'
    try simp only [Act.put, List.getElem_toArray, List.getElem_cons_zero, List.getElem_cons_succ, List.setIfInBounds_toArray, List.set_cons_zero, List.set_cons_succ]
    refine wpAnyH_ready (rs := [16]) (by kernel_rfl) (by simp) ?_
    refine AllReadyH.cons (o := _) rfl (fun K hK => ?_) AllReadyH.nil
    go_simp
    go_at_call 14
    refine (HZx.out _ hs.2.1).mono ?_
    rintro e v5 ⟨rfl, hb'⟩
    have hs := since_step hs hb'
    refine hK.out _ _ hs (fun _ => ?_)
    clear hK K hb'
    try simp only [Act.put, List.getElem_toArray, List.getElem_cons_zero, List.getElem_cons_succ, List.setIfInBounds_toArray, List.set_cons_zero, List.set_cons_succ]
    refine wpAnyH_take (i := 17) (oi := _) (v := ?_) rfl (by kernel_rfl) (by kernel_rfl) (by kernel_rfl) (fun _ _ _ h => h) (Or.inl ⟨by kernel_rfl, ?_⟩) (by assumption) ?_
    rotate_left
    ·intro w hSw
     try dsimp only at hSw
     go_simp
     try (with_reducible rfl)
    try simp only [Act.put, List.getElem_toArray, List.getElem_cons_zero, List.getElem_cons_succ, List.setIfInBounds_toArray, List.set_cons_zero, List.set_cons_succ]
    refine wpAnyH_take (i := 18) (oi := _) (v := ?_) rfl (by kernel_rfl) (by kernel_rfl) (by kernel_rfl) (fun _ _ _ h => h) (Or.inl ⟨by kernel_rfl, ?_⟩) (by assumption) ?_
    rotate_left
    ·intro w hSw
     try dsimp only at hSw
     go_simp
     try (with_reducible rfl)
    try simp only [Act.put, List.getElem_toArray, List.getElem_cons_zero, List.getElem_cons_succ, List.setIfInBounds_toArray, List.set_cons_zero, List.set_cons_succ]
    refine wpAnyH_take (i := 19) (oi := _) (v := ?_) rfl (by kernel_rfl) (by kernel_rfl) (by kernel_rfl) (fun _ _ _ h => h) (Or.inl ⟨by kernel_rfl, ?_⟩) (by assumption) ?_
    rotate_left
    ·intro w hSw
     try dsimp only at hSw
     go_simp
     try (with_reducible rfl)
    try simp only [Act.put, List.getElem_toArray, List.getElem_cons_zero, List.getElem_cons_succ, List.setIfInBounds_toArray, List.set_cons_zero, List.set_cons_succ]
    refine wpAnyH_take (i := 20) (oi := _) (v := ?_) rfl (by kernel_rfl) (by kernel_rfl) (by kernel_rfl) (fun _ _ _ h => h) (Or.inl ⟨by kernel_rfl, ?_⟩) (by assumption) ?_
    rotate_left
    ·intro w hSw
     try dsimp only at hSw
     go_simp
     try (with_reducible rfl)
    try simp only [Act.put, List.getElem_toArray, List.getElem_cons_zero, List.getElem_cons_succ, List.setIfInBounds_toArray, List.set_cons_zero, List.set_cons_succ]
    refine wpAnyH_take (i := 22) (oi := _) (v := ?_) rfl (by kernel_rfl) (by kernel_rfl) (by kernel_rfl) (fun _ _ _ h => h) (Or.inl ⟨by kernel_rfl, ?_⟩) (by assumption) ?_
    rotate_left
    ·intro w hSw
     try dsimp only at hSw
     go_simp
     try (with_reducible rfl)
    try simp only [Act.put, List.getElem_toArray, List.getElem_cons_zero, List.getElem_cons_succ, List.setIfInBounds_toArray, List.set_cons_zero, List.set_cons_succ]
    refine wpAnyH_ready (rs := [21]) (by kernel_rfl) (by simp) ?_
    refine AllReadyH.cons (o := _) rfl (fun K hK => ?_) AllReadyH.nil
    go_simp
    go_at_call 15
    refine (HRy.out _ hs.2.1).mono ?_
    rintro e v6 ⟨rfl, hb'⟩
    have hs := since_step hs hb'
    refine hK.out _ _ hs (fun _ => ?_)
    clear hK K hb'
    try simp only [Act.put, List.getElem_toArray, List.getElem_cons_zero, List.getElem_cons_succ, List.setIfInBounds_toArray, List.set_cons_zero, List.set_cons_succ]
    refine wpAnyH_ready (rs := [23]) (by kernel_rfl) (by simp) ?_
    refine AllReadyH.cons (o := _) rfl (fun K hK => ?_) AllReadyH.nil
    go_simp
    go_at_call 15
    refine (HRx.out _ hs.2.1).mono ?_
    rintro e v7 ⟨rfl, hb'⟩
    have hs := since_step hs hb'
    refine hK.out _ _ hs (fun _ => ?_)
    clear hK K hb'
    try simp only [Act.put, List.getElem_toArray, List.getElem_cons_zero, List.getElem_cons_succ, List.setIfInBounds_toArray, List.set_cons_zero, List.set_cons_succ]
    refine wpAnyH_take (i := 24) (oi := _) (v := ?_) rfl (by kernel_rfl) (by kernel_rfl) (by kernel_rfl) (fun _ _ _ h => h) (Or.inl ⟨by kernel_rfl, ?_⟩) (by assumption) ?_
    rotate_left
    ·intro w hSw
     try dsimp only at hSw
     go_simp
     try (with_reducible rfl)
    try simp only [Act.put, List.getElem_toArray, List.getElem_cons_zero, List.getElem_cons_succ, List.setIfInBounds_toArray, List.set_cons_zero, List.set_cons_succ]
    refine wpAnyH_take (i := 25) (oi := _) (v := ?_) rfl (by kernel_rfl) (by kernel_rfl) (by kernel_rfl) (fun _ _ _ h => h) (Or.inl ⟨by kernel_rfl, ?_⟩) (by assumption) ?_
    rotate_left
    ·intro w hSw
     try dsimp only at hSw
     go_simp
     try (with_reducible rfl)
    try simp only [Act.put, List.getElem_toArray, List.getElem_cons_zero, List.getElem_cons_succ, List.setIfInBounds_toArray, List.set_cons_zero, List.set_cons_succ]
    refine wpAnyH_take (i := 26) (oi := _) (v := ?_) rfl (by kernel_rfl) (by kernel_rfl) (by kernel_rfl) (fun _ _ _ h => h) (Or.inl ⟨by kernel_rfl, ?_⟩) (by assumption) ?_
    rotate_left
    ·intro w hSw
     try dsimp only at hSw
     go_simp
     try (with_reducible rfl)
    try simp only [Act.put, List.getElem_toArray, List.getElem_cons_zero, List.getElem_cons_succ, List.setIfInBounds_toArray, List.set_cons_zero, List.set_cons_succ]
    refine wpAnyH_ready (rs := [27]) (by kernel_rfl) (by simp) ?_
    refine AllReadyH.cons (o := _) rfl (fun K hK => ?_) AllReadyH.nil
    go_simp
    go_at_call 16
    refine (HK.out _ hs.2.1).mono ?_
    rintro e v8 ⟨rfl, hb'⟩
    have hs := since_step hs hb'
    refine hK.out _ _ hs (fun _ => ?_)
    clear hK K hb'
    try simp only [Act.put, List.getElem_toArray, List.getElem_cons_zero, List.getElem_cons_succ, List.setIfInBounds_toArray, List.set_cons_zero, List.set_cons_succ]
    refine wpAnyH_take (i := 28) (oi := _) (v := ?_) rfl (by kernel_rfl) (by kernel_rfl) (by kernel_rfl) (fun _ _ _ h => h) (Or.inl ⟨by kernel_rfl, ?_⟩) (by assumption) ?_
    rotate_left
    ·intro w hSw
     try dsimp only at hSw
     go_simp
     try (with_reducible rfl)
    try simp only [Act.put, List.getElem_toArray, List.getElem_cons_zero, List.getElem_cons_succ, List.setIfInBounds_toArray, List.set_cons_zero, List.set_cons_succ]
    refine wpAnyH_take (i := 29) (oi := _) (v := ?_) rfl (by kernel_rfl) (by kernel_rfl) (by kernel_rfl) (fun _ _ _ h => h) (Or.inl ⟨by kernel_rfl, ?_⟩) (by assumption) ?_
    rotate_left
    ·intro w hSw
     try dsimp only at hSw
     go_simp
     try (with_reducible rfl)
    try simp only [Act.put, List.getElem_toArray, List.getElem_cons_zero, List.getElem_cons_succ, List.setIfInBounds_toArray, List.set_cons_zero, List.set_cons_succ]
    refine wpAnyH_take (i := 30) (oi := _) (v := ?_) rfl (by kernel_rfl) (by kernel_rfl) (by kernel_rfl) (fun _ _ _ h => h) (Or.inl ⟨by kernel_rfl, ?_⟩) (by assumption) ?_
    rotate_left
    ·intro w hSw
     try dsimp only at hSw
     go_simp
     try (with_reducible rfl)
    try simp only [Act.put, List.getElem_toArray, List.getElem_cons_zero, List.getElem_cons_succ, List.setIfInBounds_toArray, List.set_cons_zero, List.set_cons_succ]
    have HB9 := Lib.hid (HNw2.out.trans (hs.2.1.mono HNw2.out.size))
    refine wpAnyH_done (by kernel_rfl) ?_ _
    refine NoPanic.normal ?_
    clear hs
    go_wp2
    go_light
    go_ret
    exact ⟨rfl, HB9.out⟩
end Go.Proofs.YtofbfafnpdaejaaGreatDoor
