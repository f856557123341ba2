/- Texts of the claim. -/
import Derived.Test.YtfekpkelmliejaaGreatDoorJCloKn
import Derived.Test.YtfekpkelmliejaaGreatDoorJNfaRr
namespace Go.Proofs.YtfekpkelmliejaaGreatDoor
open Go.RowKit
set_option linter.unusedSimpArgs false
set_option linter.unusedVariables false
set_option maxRecDepth 100000
set_option maxHeartbeats 8000000
theorem bytes_at {w w' : World} {A : Option Addr} {bs : List Nat} (h : BytesAt w w.heap.size A bs) (hb : Below w.heap.size w w') : BytesAt w' w'.heap.size A bs := (h.below hb).more hb.size
theorem cruns_law (N : NfaV) (A1 : Option Addr) (k1 : Nat) (A2 : Option Addr) (k2 : Nat) (A3 : Option Addr) (k3 : Nat) (w : World) (hN : NfaAt w N A1 A2 A3) (hk : N.links.length ≤ k1 ∧ N.edges.length ≤ k2 ∧ N.accept.length ≤ k3) (hll : N.links.length ≤ 1048576) (hel : N.edges.length ≤ 1048576) (hT : TabAt 1 Lib.deBruijn64tab w) (hw0 : 1 < w.heap.size) (A : Option Addr) (cap : Nat) (bs : List Nat) (hA : BytesAt w w.heap.size A bs) (hcap : bs.length ≤ cap) :
  Calls Tryz.prog 6 #[.agg (nfA N A1 k1 A2 k2 A3 k3), .slice A bs.length cap] w fun e w' => e = .returned (.bool true) ∧ Below w.heap.size w w' := by
 have hb1 : Below w.heap.size w (w.alloc (.cells #[.int .i64 N.states, .int .i64 N.start, .slice A1 N.links.length k1, .slice A2 N.edges.length k2, .slice A3 N.accept.length k3] 43)) := (Below.refl _ _).alloc (Nat.le_refl _) _
 have HX := Lib.hid (Blk.new w 43 #[.int .i64 N.states, .int .i64 N.start, .slice A1 N.links.length k1, .slice A2 N.edges.length k2, .slice A3 N.accept.length k3])
 have hx := (Blk.new w 43 #[.int .i64 N.states, .int .i64 N.start, .slice A1 N.links.length k1, .slice A2 N.edges.length k2, .slice A3 N.accept.length k3]).c5
 have hlx0 := (Blk.new w 43 #[.int .i64 N.states, .int .i64 N.start, .slice A1 N.links.length k1, .slice A2 N.edges.length k2, .slice A3 N.accept.length k3]).lt
 have HB := Lib.hid hb1
 have HN := Lib.hid (hN.below hb1)
 have HL := Lib.hid (bytes_at hA hb1)
 have HNw := Lib.hid (mnew_go N A1 k1 A2 k2 A3 k3 _ (hN.below hb1) hk.1 hk.2.1 hk.2.2 hll hel (TabAt.below hb1 hw0 hT) (by have := hb1.size; omega))
 have HT := Lib.hid hT
 clear hN hA hb1
 unfold nfA at *
 go_enter Tryz.func6, Tryz.ntmps6
 go_upto_region 1 with fail
 generalize hg : w.heap.size = gx at *
 generalize w.alloc (.cells #[.int .i64 N.states, .int .i64 N.start, .slice A1 N.links.length k1, .slice A2 N.edges.length k2, .slice A3 N.accept.length k3] 43) = w1 at *
 obtain ⟨x0, x1, x2, x3, x4⟩ := hx
 go_wp2_with fail
 refine HNw.out.mono ?_
 intro e w2 h2
 obtain ⟨hb2, h3⟩ := h2
 have HX2 := Lib.hid (HX.out.below hb2 HX.out.lt)
 have HN2 := Lib.hid (HN.out.below hb2)
 have HL2 := Lib.hid (bytes_at HL.out hb2)
 have HB2 := Lib.hid (HB.out.trans (hb2.mono (by omega)))
 clear hb2 HNw x0 x1 x2 x3 x4 HX HN HL
 obtain ⟨x0, x1, x2, x3, x4⟩ := HX2.out.c5
 have hlx := HX2.out.lt
 rcases h3 with ⟨hR, rfl⟩ | ⟨hR, g, lm, em, A4, k4, rfl, hWk⟩
 ·have hbw3 := HB2.out
  clear x0 x1 x2 x3 x4
  dsimp only
  have HKn := Lib.hid (knows17_go w2 (TabAt.below hbw3 hw0 hT) (by have := (hbw3).size; omega))
  go_wp2_with fail
  refine HKn.out.mono ?_
  rintro e w9 ⟨rfl, hb9⟩
  have HB9 := Lib.hid ((hbw3).trans (hb9.mono (by have := (hbw3).size; omega)))
  clear hb9 HKn
  dsimp only
  go_wp2
  go_light
  go_ret
  exact ⟨rfl, by rw [hg]; exact HB9.out⟩
 ·have HW := Lib.hid hWk
  have HRt := Lib.hid hR
  have HFw := Lib.hid (few_go N A1 k1 A2 k2 A3 k3 w2 HN2.out)
  clear hWk hR
  unfold nfA at HFw
  dsimp only
  go_wp2_with fail
  refine HFw.out.mono ?_
  rintro e w4 ⟨rfl, hb4⟩
  have hbw4 : Below gx w w4 := HB2.out.trans (hb4.mono (by omega))
  have HX4 := Lib.hid (HX2.out.below hb4 HX2.out.lt)
  have HN4 := Lib.hid (HN2.out.below hb4)
  have HL4 := Lib.hid (bytes_at HL2.out hb4)
  have HW4 := Lib.hid (HW.out.below hb4)
  clear HFw x0 x1 x2 x3 x4 hb4 HX2 HN2 HL2 HB2 HW hlx
  cases hf : decide (N.links.length + N.edges.length ≤ 300) with
  | false =>
   clear HX4 HN4 HL4 HW4
   dsimp only
   have HKn := Lib.hid (knows17_go w4 (TabAt.below hbw4 hw0 hT) (by have := (hbw4).size; omega))
   go_wp2_with fail
   refine HKn.out.mono ?_
   rintro e w9 ⟨rfl, hb9⟩
   have HB9 := Lib.hid ((hbw4).trans (hb9.mono (by have := (hbw4).size; omega)))
   clear hb9 HKn
   dsimp only
   go_wp2
   go_light
   go_ret
   exact ⟨rfl, by rw [hg]; exact HB9.out⟩
  | true =>
   clear hf
   dsimp only
   rcases Nat.lt_or_ge 20 bs.length with h20 | h20
   ·have hd : (20 : Int) < (bs.length : Int) := by omega
    clear HX4 HN4 HL4 HW4
    have HKn := Lib.hid (knows17_go w4 (TabAt.below hbw4 hw0 hT) (by have := (hbw4).size; omega))
    go_wp2_with fail
    refine HKn.out.mono ?_
    rintro e w9 ⟨rfl, hb9⟩
    have HB9 := Lib.hid ((hbw4).trans (hb9.mono (by have := (hbw4).size; omega)))
    clear hb9 HKn
    dsimp only
    go_wp2
    go_light
    go_ret
    exact ⟨rfl, by rw [hg]; exact HB9.out⟩
   ·have hd : decide ((20 : Int) < (bs.length : Int)) = false := decide_eq_false (by omega)
    have HB4 := Lib.hid hbw4
    obtain ⟨x0, x1, x2, x3, x4⟩ := HX4.out.c5
    have hlx := HX4.out.lt
    go_upto_region 4 with fail
    have HC := Lib.hid (mclos_go HRt.out)
    have HS := Lib.hid (mstep_go (mclos_go HRt.out))
    have hs := since_start (w0 := w4) (Nat.le_refl w4.heap.size)
    refine wp_region_noPanic ?_
    refine wp_region_held_drew (S := fun w' => (∀ b o, b < w4.heap.size → w'.cell? ⟨b, o, none⟩ = w4.cell? ⟨b, o, none⟩) ∧ Since w4.heap.size w4 w') (by kernel_rfl) hs (fun hHeld => ?_)
    refine wpAnyH_take (i := 0) (oi := _) (v := ?_) rfl (by kernel_rfl) (by kernel_rfl) (by kernel_rfl) (fun _ _ _ h => h) (Or.inl ⟨by kernel_rfl, ?_⟩) (by assumption) ?_
    rotate_left
    ·intro w hSw
     try dsimp only at hSw
     go_simp
     try (with_reducible rfl)
    try simp only [Act.put, List.getElem_toArray, List.getElem_cons_zero, List.getElem_cons_succ, List.setIfInBounds_toArray, List.set_cons_zero, List.set_cons_succ]
    refine wpAnyH_take (i := 1) (oi := _) (v := ?_) rfl (by kernel_rfl) (by kernel_rfl) (by kernel_rfl) (fun _ _ _ h => h) (Or.inl ⟨by kernel_rfl, ?_⟩) (by assumption) ?_
    rotate_left
    ·intro w hSw
     try dsimp only at hSw
     go_simp
     try (with_reducible rfl)
    try simp only [Act.put, List.getElem_toArray, List.getElem_cons_zero, List.getElem_cons_succ, List.setIfInBounds_toArray, List.set_cons_zero, List.set_cons_succ]
    refine wpAnyH_take (i := 3) (oi := _) (v := ?_) rfl (by kernel_rfl) (by kernel_rfl) (by kernel_rfl) (fun _ _ _ h => h) (Or.inl ⟨by kernel_rfl, ?_⟩) (by assumption) ?_
    rotate_left
    ·intro w hSw
     try dsimp only at hSw
     go_simp
     try (with_reducible rfl)
    try simp only [Act.put, List.getElem_toArray, List.getElem_cons_zero, List.getElem_cons_succ, List.setIfInBounds_toArray, List.set_cons_zero, List.set_cons_succ]
    refine wpAnyH_take (i := 4) (oi := _) (v := ?_) rfl (by kernel_rfl) (by kernel_rfl) (by kernel_rfl) (fun _ _ _ h => h) (Or.inl ⟨by kernel_rfl, ?_⟩) (by assumption) ?_
    rotate_left
    ·intro w hSw
     try dsimp only at hSw
     go_simp
     try (with_reducible rfl)
    try simp only [Act.put, List.getElem_toArray, List.getElem_cons_zero, List.getElem_cons_succ, List.setIfInBounds_toArray, List.set_cons_zero, List.set_cons_succ]
    refine wpAnyH_ready (rs := [2]) (by kernel_rfl) (by simp) ?_
    refine AllReadyH.cons (o := _) rfl (fun K hK => ?_) AllReadyH.nil
    go_simp
    go_at_call 37
    refine (mrun_go g lm em N HC.out HS.out HRt.out A4 k4 _ (HW4.out.below hs.2.1) A cap bs (bytes_at HL4.out hs.2.1) hcap).mono ?_
    rintro e y1 ⟨R1, B1, d1, hP1, rfl, hb', hi1, hc1⟩
    have hs := since_step hs hb'
    have HP1 := Lib.hid hP1
    have HI1 := Lib.hid hi1
    refine hK.out _ _ hs (fun _ => ?_)
    clear hK K hb' hP1 hi1
    try simp only [Act.put, List.getElem_toArray, List.getElem_cons_zero, List.getElem_cons_succ, List.setIfInBounds_toArray, List.set_cons_zero, List.set_cons_succ]
    refine wpAnyH_ready (rs := [5]) (by kernel_rfl) (by simp) ?_
    refine AllReadyH.cons (o := _) rfl (fun K hK => ?_) AllReadyH.nil
    go_simp
    go_at_call 38
    refine (rrun17_go N A1 k1 A2 k2 A3 k3 _ (HN4.out.below hs.2.1) hk.1 HRt.out hk.2.1 A cap bs (bytes_at HL4.out hs.2.1) hcap).mono ?_
    rintro e y2 ⟨R2, v2, hP2, rfl, hb', b2, o2, d2, rfl, hc2, hi2, _⟩
    have hs := since_step hs hb'
    have HSm := Lib.hid (same_yes B1 (some ⟨b2, o2, none⟩) d1 d2 (L := R1) (M := R2) (run_one HP1.out hP2) y2 (HI1.out.below hb') hi2 (by have := runof_len HRt.out HP1.out; omega) hc1 hc2)
    refine hK.out _ _ hs (fun _ => ?_)
    clear hK K hb' hP2 hi2 HI1 HP1
    try simp only [Act.put, List.getElem_toArray, List.getElem_cons_zero, List.getElem_cons_succ, List.setIfInBounds_toArray, List.set_cons_zero, List.set_cons_succ]
    refine wpAnyH_ready (rs := [6]) (by kernel_rfl) (by simp) ?_
    refine AllReadyH.cons (o := _) rfl (fun K hK => ?_) AllReadyH.nil
    go_simp
    go_at_call 28
    refine (HSm.out).mono ?_
    rintro e y3 ⟨rfl, hb'⟩
    have hs := since_step hs hb'
    refine hK.out _ _ hs (fun _ => ?_)
    clear hK K hb'
    try simp only [Act.put, List.getElem_toArray, List.getElem_cons_zero, List.getElem_cons_succ, List.setIfInBounds_toArray, List.set_cons_zero, List.set_cons_succ]
    clear HSm
    refine wpAnyH_take (i := 7) (oi := _) (v := ?_) rfl (by kernel_rfl) (by kernel_rfl) (by kernel_rfl) (fun _ _ _ h => h) (Or.inl ⟨by kernel_rfl, ?_⟩) (by assumption) ?_
    rotate_left
    ·intro w hSw
     try dsimp only at hSw
     go_simp
     try (with_reducible rfl)
    try simp only [Act.put, List.getElem_toArray, List.getElem_cons_zero, List.getElem_cons_succ, List.setIfInBounds_toArray, List.set_cons_zero, List.set_cons_succ]
    refine wpAnyH_take (i := 8) (oi := _) (v := ?_) rfl (by kernel_rfl) (by kernel_rfl) (by kernel_rfl) (fun _ _ _ h => h) (Or.inl ⟨by kernel_rfl, ?_⟩) (by assumption) ?_
    rotate_left
    ·intro w hSw
     try dsimp only at hSw
     go_simp
     try (with_reducible rfl)
    try simp only [Act.put, List.getElem_toArray, List.getElem_cons_zero, List.getElem_cons_succ, List.setIfInBounds_toArray, List.set_cons_zero, List.set_cons_succ]
    refine wpAnyH_take (i := 9) (oi := _) (v := ?_) rfl (by kernel_rfl) (by kernel_rfl) (by kernel_rfl) (fun _ _ _ h => h) (Or.inl ⟨by kernel_rfl, ?_⟩) (by assumption) ?_
    rotate_left
    ·intro w hSw
     try dsimp only at hSw
     go_simp
     try (with_reducible rfl)
    try simp only [Act.put, List.getElem_toArray, List.getElem_cons_zero, List.getElem_cons_succ, List.setIfInBounds_toArray, List.set_cons_zero, List.set_cons_succ]
    refine wpAnyH_take (i := 11) (oi := _) (v := ?_) rfl (by kernel_rfl) (by kernel_rfl) (by kernel_rfl) (fun _ _ _ h => h) (Or.inl ⟨by kernel_rfl, ?_⟩) (by assumption) ?_
    rotate_left
    ·intro w hSw
     try dsimp only at hSw
     go_simp
     try (with_reducible rfl)
    try simp only [Act.put, List.getElem_toArray, List.getElem_cons_zero, List.getElem_cons_succ, List.setIfInBounds_toArray, List.set_cons_zero, List.set_cons_succ]
    refine wpAnyH_take (i := 12) (oi := _) (v := ?_) rfl (by kernel_rfl) (by kernel_rfl) (by kernel_rfl) (fun _ _ _ h => h) (Or.inl ⟨by kernel_rfl, ?_⟩) (by assumption) ?_
    rotate_left
    ·intro w hSw
     try dsimp only at hSw
     go_simp
     try (with_reducible rfl)
    try simp only [Act.put, List.getElem_toArray, List.getElem_cons_zero, List.getElem_cons_succ, List.setIfInBounds_toArray, List.set_cons_zero, List.set_cons_succ]
    refine wpAnyH_ready (rs := [10]) (by kernel_rfl) (by simp) ?_
    refine AllReadyH.cons (o := _) rfl (fun K hK => ?_) AllReadyH.nil
    go_simp
    go_at_call 39
    refine (mtell_go g lm em N HC.out HS.out HRt.out A4 k4 _ (HW4.out.below hs.2.1) A cap bs (bytes_at HL4.out hs.2.1) hcap).mono ?_
    rintro e y4 ⟨t1, hT9, rfl, hb'⟩
    have hs := since_step hs hb'
    have HT1 := Lib.hid hT9
    refine hK.out _ _ hs (fun _ => ?_)
    clear hK K hb' hT9
    try simp only [Act.put, List.getElem_toArray, List.getElem_cons_zero, List.getElem_cons_succ, List.setIfInBounds_toArray, List.set_cons_zero, List.set_cons_succ]
    refine wpAnyH_ready (rs := [13]) (by kernel_rfl) (by simp) ?_
    refine AllReadyH.cons (o := _) rfl (fun K hK => ?_) AllReadyH.nil
    go_simp
    go_at_call 40
    refine (rtell17_go N A1 k1 A2 k2 A3 k3 _ (HN4.out.below hs.2.1) hk.1 HRt.out hk.2.1 hk.2.2 A cap bs (bytes_at HL4.out hs.2.1) hcap).mono ?_
    rintro e y5 ⟨t2, hT9, rfl, hb'⟩
    have hs := since_step hs hb'
    have HT2 := Lib.hid hT9
    refine hK.out _ _ hs (fun _ => ?_)
    clear hK K hb' hT9
    try simp only [Act.put, List.getElem_toArray, List.getElem_cons_zero, List.getElem_cons_succ, List.setIfInBounds_toArray, List.set_cons_zero, List.set_cons_succ]
    obtain rfl := tell_one HT1.out HT2.out
    refine wpAnyH_take (i := 14) (oi := _) (v := ?_) rfl (by kernel_rfl) (by kernel_rfl) (by kernel_rfl) (fun _ _ _ h => h) (Or.inl ⟨by kernel_rfl, ?_⟩) (by assumption) ?_
    rotate_left
    ·intro w hSw
     try dsimp only at hSw
     go_simp
     try (with_reducible rfl)
    try simp only [Act.put, List.getElem_toArray, List.getElem_cons_zero, List.getElem_cons_succ, List.setIfInBounds_toArray, List.set_cons_zero, List.set_cons_succ]
    refine wpAnyH_take (i := 15) (oi := _) (v := ?_) rfl (by kernel_rfl) (by kernel_rfl) (by kernel_rfl) (fun _ _ _ h => h) (Or.inl ⟨by kernel_rfl, ?_⟩) (by assumption) ?_
    rotate_left
    ·intro w hSw
     try dsimp only at hSw
     go_simp
     try (with_reducible rfl)
    try simp only [Act.put, List.getElem_toArray, List.getElem_cons_zero, List.getElem_cons_succ, List.setIfInBounds_toArray, List.set_cons_zero, List.set_cons_succ]
    refine wpAnyH_take (i := 16) (oi := _) (v := ?_) rfl (by kernel_rfl) (by kernel_rfl) (by kernel_rfl) (fun _ _ _ h => h) (Or.inl ⟨by kernel_rfl, ?_⟩) (by assumption) ?_
    rotate_left
    ·intro w hSw
     try dsimp only at hSw
     go_simp
     try (with_reducible rfl)
    try simp only [Act.put, List.getElem_toArray, List.getElem_cons_zero, List.getElem_cons_succ, List.setIfInBounds_toArray, List.set_cons_zero, List.set_cons_succ]
    refine wpAnyH_ready (rs := [17]) (by kernel_rfl) (by simp) ?_
    refine AllReadyH.cons (o := _) rfl (fun K hK => ?_) AllReadyH.nil
    go_simp
    go_at_call 27
    refine (knows17_go _ (TabAt.below (HB4.out.trans (hs.2.1.mono (by omega))) hw0 hT) (by have := hs.2.1.size; omega)).mono ?_
    rintro e yd ⟨rfl, hb'⟩
    have hs := since_step hs hb'
    refine hK.out _ _ hs (fun _ => ?_)
    clear hK K hb'
    try simp only [Act.put, List.getElem_toArray, List.getElem_cons_zero, List.getElem_cons_succ, List.setIfInBounds_toArray, List.set_cons_zero, List.set_cons_succ]
    refine wpAnyH_take (i := 18) (oi := _) (v := ?_) rfl (by kernel_rfl) (by kernel_rfl) (by kernel_rfl) (fun _ _ _ h => h) (Or.inl ⟨by kernel_rfl, ?_⟩) (by assumption) ?_
    rotate_left
    ·intro w hSw
     try dsimp only at hSw
     go_simp
     try (with_reducible rfl)
    try simp only [Act.put, List.getElem_toArray, List.getElem_cons_zero, List.getElem_cons_succ, List.setIfInBounds_toArray, List.set_cons_zero, List.set_cons_succ]
    refine wpAnyH_take (i := 19) (oi := _) (v := ?_) rfl (by kernel_rfl) (by kernel_rfl) (by kernel_rfl) (fun _ _ _ h => h) (Or.inl ⟨by kernel_rfl, ?_⟩) (by assumption) ?_
    rotate_left
    ·intro w hSw
     try dsimp only at hSw
     go_simp
     try (with_reducible rfl)
    try simp only [Act.put, List.getElem_toArray, List.getElem_cons_zero, List.getElem_cons_succ, List.setIfInBounds_toArray, List.set_cons_zero, List.set_cons_succ]
    have HB9 := Lib.hid (HB4.out.trans (hs.2.1.mono (by omega)))
    refine wpAnyH_done (by kernel_rfl) ?_ _
    refine NoPanic.normal ?_
    clear hs
    go_wp2
    go_light
    go_ret
    exact ⟨rfl, by rw [hg]; exact HB9.out⟩
end Go.Proofs.YtfekpkelmliejaaGreatDoor
