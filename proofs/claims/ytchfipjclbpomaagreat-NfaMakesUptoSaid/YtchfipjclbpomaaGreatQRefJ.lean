/-
  The contract of the reference's lay of chapter 16: loops.
-/
import Derived.Test.YtchfipjclbpomaaGreatQRefF
namespace Go.Proofs.YtchfipjclbpomaaGreat
open Go.RowKit
set_option linter.unusedSimpArgs false
set_option linter.unusedVariables false
set_option maxRecDepth 100000

set_option maxHeartbeats 8000000 in
theorem rlay_star (x z : Nd) (hz : x.kids.list = [z]) (hlay : RLayC z) (hgr : GrowsF z.lay) (B : Option Addr) (cap i base : Nat) (S : Nat → Prop) (m : MachS) (A1 : Option Addr) (k1 : Nat) (A2 : Option Addr) (k2 : Nat) (A3 : Option Addr) (k3 : Nat) (w : World) (ht : TreesAt w (fun b => ¬ S b) x.kids B) (h : MvAt w base S m A1 k1 A2 k2 A3 k3) (hb : base ≤ w.heap.size) (hk : x.kind = 6) (hf : FitsM (loopF false z.lay m i).1) : Calls Tryz.prog 23 #[.agg (mvA m A1 k1 A2 k2 A3 k3), ndV x B cap, .int .i64 (i : Int)] w (RLayOut base S w (loopF false z.lay m i)) := by
  have hn1 : x.kids.len = 1 := one_len hz
  obtain ⟨b, o, C, capc, rfl, hnb, hnd0, hkz0⟩ := ht.sole hz
  have hbw : b < w.heap.size := World.block_lt_of_cell? w _ hnd0.1
  have g1 := hgr ((m.state 0).link i m.states) m.states
  have e1 := ExtM.link (z.lay ((m.state 0).link i m.states) m.states).1 (z.lay ((m.state 0).link i m.states) m.states).2 m.states
  have hf1 := hf.of e1
  have hf2 := hf1.of g1
  have HFIT := Lib.hid (show FitsM m ∧ FitsM (m.state 0) ∧ FitsM (z.lay ((m.state 0).link i m.states) m.states).1 from ⟨(hf2.of (ExtM.link _ _ _)).of (ExtM.state m 0), hf2.of (ExtM.link _ _ _), hf1⟩)
  unfold mvA ndV
  rw [hn1, hk]
  clear hn1
  have hF3 : Fr w base S #[.int .i64 6, .int .u64 ((word (x.set.testBit) 0 : Nat) : Int), .int .u64 ((word (x.set.testBit) 1 : Nat) : Int), .int .u64 ((word (x.set.testBit) 2 : Nat) : Int), .int .u64 ((word (x.set.testBit) 3 : Nat) : Int), .slice (some ⟨b, o, none⟩) 1 cap, .int .i64 x.lo, .int .i64 x.hi] S m A1 k1 A2 k2 A3 k3 #[.int .i64 (m.states : Int), .int .i64 0, .slice A1 m.links.length k1, .slice A2 m.edges.length k2, .slice A3 m.accept.length k3] (((w.alloc (.cells #[.int .i64 (m.states : Int), .int .i64 0, .slice A1 m.links.length k1, .slice A2 m.edges.length k2, .slice A3 m.accept.length k3] 36)).alloc (.cells #[.int .i64 6, .int .u64 ((word (x.set.testBit) 0 : Nat) : Int), .int .u64 ((word (x.set.testBit) 1 : Nat) : Int), .int .u64 ((word (x.set.testBit) 2 : Nat) : Int), .int .u64 ((word (x.set.testBit) 3 : Nat) : Int), .slice (some ⟨b, o, none⟩) 1 cap, .int .i64 x.lo, .int .i64 x.hi] 29)).alloc (.cells #[.int .i64 0, .int .i64 0, .slice none 0 0, .slice none 0 0, .slice none 0 0] 36)) := Fr.start h hb #[.int .i64 (m.states : Int), .int .i64 0, .slice A1 m.links.length k1, .slice A2 m.edges.length k2, .slice A3 m.accept.length k3] #[.int .i64 6, .int .u64 ((word (x.set.testBit) 0 : Nat) : Int), .int .u64 ((word (x.set.testBit) 1 : Nat) : Int), .int .u64 ((word (x.set.testBit) 2 : Nat) : Int), .int .u64 ((word (x.set.testBit) 3 : Nat) : Int), .slice (some ⟨b, o, none⟩) 1 cap, .int .i64 x.lo, .int .i64 x.hi]
  have HC := Lib.hid (rstate_go base S m A1 k1 A2 k2 A3 k3 0 _ hF3.mv hF3.size HFIT.out.1.1)
  have HF := Lib.hid hF3
  have HT := Lib.hid hkz0
  have HND := Lib.hid hnd0
  have HL := Lib.hid hlay
  have HK := Lib.hid hk
  clear hF3 h hkz0 hnd0 hf g1 e1 hf1 hf2 ht hgr hlay hz hk
  unfold mvA at HC
  go_enter Tryz.func23, Tryz.ntmps23
  go_wp2_with fail
  refine HC.out.mono ?_
  rintro e w4 ⟨B1, j1, B2, j2, B3, j3, rfl, S4, hM, hV⟩
  have hF4 := HF.out.go hM hV
  have HC2 := Lib.hid (rlink_go base S4 (m.state 0) B1 j1 B2 j2 B3 j3 i m.states w4 hF4.mv hF4.size HFIT.out.2.1.2.1)
  have HF4 := Lib.hid hF4
  clear hF4 hM hV HC HF
  unfold mvA at HC2 ⊢
  dsimp only
  go_wp2_with fail
  refine HC2.out.mono ?_
  rintro e w5 ⟨C1, l1, C2, l2, C3, l3, rfl, S5, hM, hV⟩
  have hF5 := HF4.out.go hM hV
  have n0 := (hF5).n.cell 0
  have n1 := (hF5).n.cell 1
  have n2 := (hF5).n.cell 2
  have n3 := (hF5).n.cell 3
  have n4 := (hF5).n.cell 4
  have f0 := (hF5).n.frozen 0
  have f1 := (hF5).n.frozen 1
  have f2 := (hF5).n.frozen 2
  have f3 := (hF5).n.frozen 3
  have f4 := (hF5).n.frozen 4
  have hln := (hF5).n.lt
  simp only [List.getElem?_toArray, List.getElem?_cons_zero, List.getElem?_cons_succ] at n0 n1 n2 n3 n4
  have HF5 := Lib.hid hF5
  clear hF5 hM hV HC2 HF4
  unfold mvA
  dsimp only
  go_upto_region 31 with fail
  clear n0 n1 n2 n3 n4 f0 f1 f2 f3 f4 hln
  generalize hmm : (m.state 0).link i m.states = mm at *
  have hF6 := HF5.out.store (.int .i64 (mm.states : Int)) (.int .i64 0) (.slice C1 mm.links.length l1) (.slice C2 mm.edges.length l2) (.slice C3 mm.accept.length l3)
  have hF6n : w.heap.size < (((((w5.setCell ⟨w.heap.size, 0, none⟩ (.int .i64 (mm.states : Int))).setCell ⟨w.heap.size, 1, none⟩ (.int .i64 0)).setCell ⟨w.heap.size, 2, none⟩ (.slice C1 mm.links.length l1)).setCell ⟨w.heap.size, 3, none⟩ (.slice C2 mm.edges.length l2)).setCell ⟨w.heap.size, 4, none⟩ (.slice C3 mm.accept.length l3)).heap.size := hF6.n.lt
  generalize (((((w5.setCell ⟨w.heap.size, 0, none⟩ (.int .i64 (mm.states : Int))).setCell ⟨w.heap.size, 1, none⟩ (.int .i64 0)).setCell ⟨w.heap.size, 2, none⟩ (.slice C1 mm.links.length l1)).setCell ⟨w.heap.size, 3, none⟩ (.slice C2 mm.edges.length l2)).setCell ⟨w.heap.size, 4, none⟩ (.slice C3 mm.accept.length l3)) = W at *
  clear HF5
  have n0 := (hF6).n.cell 0
  have n1 := (hF6).n.cell 1
  have n2 := (hF6).n.cell 2
  have n3 := (hF6).n.cell 3
  have n4 := (hF6).n.cell 4
  have f0 := (hF6).n.frozen 0
  have f1 := (hF6).n.frozen 1
  have f2 := (hF6).n.frozen 2
  have f3 := (hF6).n.frozen 3
  have f4 := (hF6).n.frozen 4
  have hln := (hF6).n.lt
  simp only [List.getElem?_toArray, List.getElem?_cons_zero, List.getElem?_cons_succ] at n0 n1 n2 n3 n4
  have x5 := hF6.x.cell 5
  have hlx := hF6.x.lt
  simp only [List.getElem?_toArray, List.getElem?_cons_zero, List.getElem?_cons_succ] at x5
  obtain ⟨c0, c1, c2, c3, c4, c5, c6, c7⟩ := hF6.node HND.out hnb
  have HI := Lib.hid (HL.out C capc m.states base S5 mm C1 l1 C2 l2 C3 l3 W.drew (hF6.drew.trees HT.out) hF6.drew.mv hF6.drew.size HFIT.out.2.2)
  unfold ndV mvA at HI
  have HF6 := Lib.hid hF6
  clear hF6
  generalize hr : z.lay mm m.states = r at *
  refine wp_region_held_drew (S := fun w' => ∀ b' o', b' = w.heap.size + 1 ∨ b' = b → w'.cell? ⟨b', o', none⟩ = W.cell? ⟨b', o', none⟩) (by kernel_rfl) (key_drew w b W) (fun hHeld => ?_)
  refine wpAnyH_take (i := 1) (oi := _) (v := ?_) rfl (by kernel_rfl) (by kernel_rfl) (by kernel_rfl) (fun _ _ _ h => h) (Or.inl ⟨by kernel_rfl, ?_⟩) (by assumption) ?_
  rotate_left
  · intro w hSw
    try dsimp only at hSw
    go_simp
    try (with_reducible rfl)
  try simp only [Act.put, List.getElem_toArray, List.getElem_cons_zero, List.getElem_cons_succ, List.setIfInBounds_toArray, List.set_cons_zero, List.set_cons_succ]
  refine wpAnyH_take (i := 2) (oi := _) (v := ?_) rfl (by kernel_rfl) (by kernel_rfl) (by kernel_rfl) (fun _ _ _ h => h) (Or.inl ⟨by kernel_rfl, ?_⟩) (by assumption) ?_
  rotate_left
  · intro w hSw
    try dsimp only at hSw
    go_simp
    try (with_reducible rfl)
  try simp only [Act.put, List.getElem_toArray, List.getElem_cons_zero, List.getElem_cons_succ, List.setIfInBounds_toArray, List.set_cons_zero, List.set_cons_succ]
  refine wpAnyH_take (i := 3) (oi := _) (v := ?_) rfl (by kernel_rfl) (by kernel_rfl) (by kernel_rfl) (fun _ _ _ h => h) (Or.inl ⟨by kernel_rfl, ?_⟩) (by assumption) ?_
  rotate_left
  · intro w hSw
    try dsimp only at hSw
    go_simp
    try (with_reducible rfl)
  try simp only [Act.put, List.getElem_toArray, List.getElem_cons_zero, List.getElem_cons_succ, List.setIfInBounds_toArray, List.set_cons_zero, List.set_cons_succ]
  refine wpAnyH_take (i := 4) (oi := _) (v := ?_) rfl (by kernel_rfl) (by kernel_rfl) (by kernel_rfl) (fun _ _ _ h => h) (Or.inl ⟨by kernel_rfl, ?_⟩) (by assumption) ?_
  rotate_left
  · intro w hSw
    try dsimp only at hSw
    go_simp
    try (with_reducible rfl)
  try simp only [Act.put, List.getElem_toArray, List.getElem_cons_zero, List.getElem_cons_succ, List.setIfInBounds_toArray, List.set_cons_zero, List.set_cons_succ]
  refine wpAnyH_take (i := 5) (oi := _) (v := ?_) rfl (by kernel_rfl) (by kernel_rfl) (by kernel_rfl) (fun _ _ _ h => h) (Or.inl ⟨by kernel_rfl, ?_⟩) (by assumption) ?_
  rotate_left
  · intro w hSw
    try dsimp only at hSw
    go_simp
    try (with_reducible rfl)
  try simp only [Act.put, List.getElem_toArray, List.getElem_cons_zero, List.getElem_cons_succ, List.setIfInBounds_toArray, List.set_cons_zero, List.set_cons_succ]
  refine wpAnyH_ready (rs := [0]) (by kernel_rfl) (by simp) ?_
  refine AllReadyH.cons (o := _) rfl (fun K hK => ?_) AllReadyH.nil
  go_simp
  refine hK.out _ _ (by assumption) (fun _ => ?_)
  clear hK K
  try simp only [Act.put, List.getElem_toArray, List.getElem_cons_zero, List.getElem_cons_succ, List.setIfInBounds_toArray, List.set_cons_zero, List.set_cons_succ]
  refine wpAnyH_ready (rs := [6]) (by kernel_rfl) (by simp) ?_
  refine AllReadyH.cons (o := _) rfl (fun K hK => ?_) AllReadyH.nil
  go_simp
  go_at_call 23
  refine HI.out.mono ?_
  rintro e w7 ⟨D1, p1, D2, p2, D3, p3, rfl, S7, hM, hV⟩
  have HKEY := Lib.hid (HF6.out.key hbw hnb hV)
  have hF7 := HF6.out.drew.go hM hV
  clear n0 n1 n2 n3 n4 f0 f1 f2 f3 f4 hln
  have n0 := (hF7).n.cell 0
  have n1 := (hF7).n.cell 1
  have n2 := (hF7).n.cell 2
  have n3 := (hF7).n.cell 3
  have n4 := (hF7).n.cell 4
  have f0 := (hF7).n.frozen 0
  have f1 := (hF7).n.frozen 1
  have f2 := (hF7).n.frozen 2
  have f3 := (hF7).n.frozen 3
  have f4 := (hF7).n.frozen 4
  have hln := (hF7).n.lt
  simp only [List.getElem?_toArray, List.getElem?_cons_zero, List.getElem?_cons_succ] at n0 n1 n2 n3 n4
  have HF7 := Lib.hid hF7
  clear hF7 hM hV HI c0 c1 c2 c3 c4 c5 c6 c7 x5
  unfold mvA
  dsimp only
  refine hK.out _ _ HKEY.out (fun _ => ?_)
  clear hK K hHeld
  try simp only [Act.put, List.getElem_toArray, List.getElem_cons_zero, List.getElem_cons_succ, List.setIfInBounds_toArray, List.set_cons_zero, List.set_cons_succ]
  refine wpAnyH_take (i := 7) (oi := _) (v := ?_) rfl (by kernel_rfl) (by kernel_rfl) (by kernel_rfl) (fun _ _ _ h => h) (Or.inl ⟨by kernel_rfl, ?_⟩) (by assumption) ?_
  rotate_left
  · intro w hSw
    try dsimp only at hSw
    go_simp
    try (with_reducible rfl)
  try simp only [Act.put, List.getElem_toArray, List.getElem_cons_zero, List.getElem_cons_succ, List.setIfInBounds_toArray, List.set_cons_zero, List.set_cons_succ]
  refine wpAnyH_take (i := 8) (oi := _) (v := ?_) rfl (by kernel_rfl) (by kernel_rfl) (by kernel_rfl) (fun _ _ _ h => h) (Or.inl ⟨by kernel_rfl, ?_⟩) (by assumption) ?_
  rotate_left
  · intro w hSw
    try dsimp only at hSw
    go_simp
    try (with_reducible rfl)
  try simp only [Act.put, List.getElem_toArray, List.getElem_cons_zero, List.getElem_cons_succ, List.setIfInBounds_toArray, List.set_cons_zero, List.set_cons_succ]
  refine wpAnyH_take (i := 9) (oi := _) (v := ?_) rfl (by kernel_rfl) (by kernel_rfl) (by kernel_rfl) (fun _ _ _ h => h) (Or.inl ⟨by kernel_rfl, ?_⟩) (by assumption) ?_
  rotate_left
  · intro w hSw
    try dsimp only at hSw
    go_simp
    try (with_reducible rfl)
  try simp only [Act.put, List.getElem_toArray, List.getElem_cons_zero, List.getElem_cons_succ, List.setIfInBounds_toArray, List.set_cons_zero, List.set_cons_succ]
  refine wpAnyH_ready (rs := [10]) (by kernel_rfl) (by simp) ?_
  refine AllReadyH.cons (o := _) rfl (fun K hK => ?_) AllReadyH.nil
  go_simp
  refine hK.out _ _ (HKEY.out.store hbw _ _ _ _ _) (fun _ => ?_)
  clear hK K HKEY HF6
  try simp only [Act.put, List.getElem_toArray, List.getElem_cons_zero, List.getElem_cons_succ, List.setIfInBounds_toArray, List.set_cons_zero, List.set_cons_succ]
  refine wpAnyH_take (i := 11) (oi := _) (v := ?_) rfl (by kernel_rfl) (by kernel_rfl) (by kernel_rfl) (fun _ _ _ h => h) (Or.inl ⟨by kernel_rfl, ?_⟩) (by assumption) ?_
  rotate_left
  · intro w hSw
    try dsimp only at hSw
    go_simp
    try (with_reducible rfl)
  try simp only [Act.put, List.getElem_toArray, List.getElem_cons_zero, List.getElem_cons_succ, List.setIfInBounds_toArray, List.set_cons_zero, List.set_cons_succ]
  refine wpAnyH_done (by kernel_rfl) ?_ _
  go_upto_region 32 with fail
  clear n0 n1 n2 n3 n4 f0 f1 f2 f3 f4 hln
  have hF8 := HF7.out.store (.int .i64 (r.1.states : Int)) (.int .i64 0) (.slice D1 r.1.links.length p1) (.slice D2 r.1.edges.length p2) (.slice D3 r.1.accept.length p3)
  generalize (((((w7.setCell ⟨w.heap.size, 0, none⟩ (.int .i64 (r.1.states : Int))).setCell ⟨w.heap.size, 1, none⟩ (.int .i64 0)).setCell ⟨w.heap.size, 2, none⟩ (.slice D1 r.1.links.length p1)).setCell ⟨w.heap.size, 3, none⟩ (.slice D2 r.1.edges.length p2)).setCell ⟨w.heap.size, 4, none⟩ (.slice D3 r.1.accept.length p3)) = W8 at *
  clear HF7
  have n0 := (hF8).n.cell 0
  have n1 := (hF8).n.cell 1
  have n2 := (hF8).n.cell 2
  have n3 := (hF8).n.cell 3
  have n4 := (hF8).n.cell 4
  have f0 := (hF8).n.frozen 0
  have f1 := (hF8).n.frozen 1
  have f2 := (hF8).n.frozen 2
  have f3 := (hF8).n.frozen 3
  have f4 := (hF8).n.frozen 4
  have hln := (hF8).n.lt
  simp only [List.getElem?_toArray, List.getElem?_cons_zero, List.getElem?_cons_succ] at n0 n1 n2 n3 n4
  have x0 := hF8.x.cell 0
  simp only [List.getElem?_toArray, List.getElem?_cons_zero] at x0
  have HC8 := Lib.hid (rlink_go base S7 r.1 D1 p1 D2 p2 D3 p3 r.2 m.states W8 hF8.mv hF8.size HFIT.out.2.2.2.1)
  have HF8 := Lib.hid hF8
  clear hF8
  unfold mvA at HC8
  go_wp2_with fail
  refine HC8.out.mono ?_
  rintro e w9 ⟨E1, q1, E2, q2, E3, q3, rfl, S9, hM, hV⟩
  clear n0 n1 n2 n3 n4 f0 f1 f2 f3 f4 hln
  have hF9 := HF8.out.go hM hV
  have n0 := (hF9).n.cell 0
  have n1 := (hF9).n.cell 1
  have n2 := (hF9).n.cell 2
  have n3 := (hF9).n.cell 3
  have n4 := (hF9).n.cell 4
  have f0 := (hF9).n.frozen 0
  have f1 := (hF9).n.frozen 1
  have f2 := (hF9).n.frozen 2
  have f3 := (hF9).n.frozen 3
  have f4 := (hF9).n.frozen 4
  have hln := (hF9).n.lt
  simp only [List.getElem?_toArray, List.getElem?_cons_zero, List.getElem?_cons_succ] at n0 n1 n2 n3 n4
  have z0 := (hF9).z.cell 0
  have z1 := (hF9).z.cell 1
  have z2 := (hF9).z.cell 2
  have z3 := (hF9).z.cell 3
  have z4 := (hF9).z.cell 4
  have g0 := (hF9).z.frozen 0
  have g1 := (hF9).z.frozen 1
  have g2 := (hF9).z.frozen 2
  have g3 := (hF9).z.frozen 3
  have g4 := (hF9).z.frozen 4
  have hlz := (hF9).z.lt
  simp only [List.getElem?_toArray, List.getElem?_cons_zero, List.getElem?_cons_succ] at z0 z1 z2 z3 z4
  have y0 := hF9.x.cell 0
  have hly := hF9.x.lt
  simp only [List.getElem?_toArray, List.getElem?_cons_zero] at y0
  have HF9 := Lib.hid hF9
  clear hF9 hM hV HC8 HF8
  unfold mvA
  dsimp only
  go_wp2
  go_light
  have hof : loopF false z.lay m i = (r.1.link r.2 m.states, if false = true then r.2 else m.states) := by unfold loopF; rw [hmm, hr]
  rw [hof]
  generalize r.1.link r.2 m.states = ml at *
  have hG := (HF9.out.store (.int .i64 (ml.states : Int)) (.int .i64 0) (.slice E1 ml.links.length q1) (.slice E2 ml.edges.length q2) (.slice E3 ml.accept.length q3)).give (.int .i64 (ml.states : Int)) (.int .i64 0) (.slice E1 ml.links.length q1) (.slice E2 ml.edges.length q2) (.slice E3 ml.accept.length q3)
  exact bodyPost_ret (ret_nfa Tryz.results23 rfl rfl hG.1) rfl ⟨E1, q1, E2, q2, E3, q3, rfl, S9, hG.2.1, hG.2.2⟩

set_option maxHeartbeats 8000000 in
theorem rlay_plus (x z : Nd) (hz : x.kids.list = [z]) (hlay : RLayC z) (hgr : GrowsF z.lay) (B : Option Addr) (cap i base : Nat) (S : Nat → Prop) (m : MachS) (A1 : Option Addr) (k1 : Nat) (A2 : Option Addr) (k2 : Nat) (A3 : Option Addr) (k3 : Nat) (w : World) (ht : TreesAt w (fun b => ¬ S b) x.kids B) (h : MvAt w base S m A1 k1 A2 k2 A3 k3) (hb : base ≤ w.heap.size) (hk : x.kind = 7) (hf : FitsM (loopF true z.lay m i).1) : Calls Tryz.prog 23 #[.agg (mvA m A1 k1 A2 k2 A3 k3), ndV x B cap, .int .i64 (i : Int)] w (RLayOut base S w (loopF true z.lay m i)) := by
  have hn1 : x.kids.len = 1 := one_len hz
  obtain ⟨b, o, C, capc, rfl, hnb, hnd0, hkz0⟩ := ht.sole hz
  have hbw : b < w.heap.size := World.block_lt_of_cell? w _ hnd0.1
  have g1 := hgr ((m.state 0).link i m.states) m.states
  have e1 := ExtM.link (z.lay ((m.state 0).link i m.states) m.states).1 (z.lay ((m.state 0).link i m.states) m.states).2 m.states
  have hf1 := hf.of e1
  have hf2 := hf1.of g1
  have HFIT := Lib.hid (show FitsM m ∧ FitsM (m.state 0) ∧ FitsM (z.lay ((m.state 0).link i m.states) m.states).1 from ⟨(hf2.of (ExtM.link _ _ _)).of (ExtM.state m 0), hf2.of (ExtM.link _ _ _), hf1⟩)
  unfold mvA ndV
  rw [hn1, hk]
  clear hn1
  have hF3 : Fr w base S #[.int .i64 7, .int .u64 ((word (x.set.testBit) 0 : Nat) : Int), .int .u64 ((word (x.set.testBit) 1 : Nat) : Int), .int .u64 ((word (x.set.testBit) 2 : Nat) : Int), .int .u64 ((word (x.set.testBit) 3 : Nat) : Int), .slice (some ⟨b, o, none⟩) 1 cap, .int .i64 x.lo, .int .i64 x.hi] S m A1 k1 A2 k2 A3 k3 #[.int .i64 (m.states : Int), .int .i64 0, .slice A1 m.links.length k1, .slice A2 m.edges.length k2, .slice A3 m.accept.length k3] (((w.alloc (.cells #[.int .i64 (m.states : Int), .int .i64 0, .slice A1 m.links.length k1, .slice A2 m.edges.length k2, .slice A3 m.accept.length k3] 36)).alloc (.cells #[.int .i64 7, .int .u64 ((word (x.set.testBit) 0 : Nat) : Int), .int .u64 ((word (x.set.testBit) 1 : Nat) : Int), .int .u64 ((word (x.set.testBit) 2 : Nat) : Int), .int .u64 ((word (x.set.testBit) 3 : Nat) : Int), .slice (some ⟨b, o, none⟩) 1 cap, .int .i64 x.lo, .int .i64 x.hi] 29)).alloc (.cells #[.int .i64 0, .int .i64 0, .slice none 0 0, .slice none 0 0, .slice none 0 0] 36)) := Fr.start h hb #[.int .i64 (m.states : Int), .int .i64 0, .slice A1 m.links.length k1, .slice A2 m.edges.length k2, .slice A3 m.accept.length k3] #[.int .i64 7, .int .u64 ((word (x.set.testBit) 0 : Nat) : Int), .int .u64 ((word (x.set.testBit) 1 : Nat) : Int), .int .u64 ((word (x.set.testBit) 2 : Nat) : Int), .int .u64 ((word (x.set.testBit) 3 : Nat) : Int), .slice (some ⟨b, o, none⟩) 1 cap, .int .i64 x.lo, .int .i64 x.hi]
  have HC := Lib.hid (rstate_go base S m A1 k1 A2 k2 A3 k3 0 _ hF3.mv hF3.size HFIT.out.1.1)
  have HF := Lib.hid hF3
  have HT := Lib.hid hkz0
  have HND := Lib.hid hnd0
  have HL := Lib.hid hlay
  have HK := Lib.hid hk
  clear hF3 h hkz0 hnd0 hf g1 e1 hf1 hf2 ht hgr hlay hz hk
  unfold mvA at HC
  go_enter Tryz.func23, Tryz.ntmps23
  go_wp2_with fail
  refine HC.out.mono ?_
  rintro e w4 ⟨B1, j1, B2, j2, B3, j3, rfl, S4, hM, hV⟩
  have hF4 := HF.out.go hM hV
  have HC2 := Lib.hid (rlink_go base S4 (m.state 0) B1 j1 B2 j2 B3 j3 i m.states w4 hF4.mv hF4.size HFIT.out.2.1.2.1)
  have HF4 := Lib.hid hF4
  clear hF4 hM hV HC HF
  unfold mvA at HC2 ⊢
  dsimp only
  go_wp2_with fail
  refine HC2.out.mono ?_
  rintro e w5 ⟨C1, l1, C2, l2, C3, l3, rfl, S5, hM, hV⟩
  have hF5 := HF4.out.go hM hV
  have n0 := (hF5).n.cell 0
  have n1 := (hF5).n.cell 1
  have n2 := (hF5).n.cell 2
  have n3 := (hF5).n.cell 3
  have n4 := (hF5).n.cell 4
  have f0 := (hF5).n.frozen 0
  have f1 := (hF5).n.frozen 1
  have f2 := (hF5).n.frozen 2
  have f3 := (hF5).n.frozen 3
  have f4 := (hF5).n.frozen 4
  have hln := (hF5).n.lt
  simp only [List.getElem?_toArray, List.getElem?_cons_zero, List.getElem?_cons_succ] at n0 n1 n2 n3 n4
  have HF5 := Lib.hid hF5
  clear hF5 hM hV HC2 HF4
  unfold mvA
  dsimp only
  go_upto_region 31 with fail
  clear n0 n1 n2 n3 n4 f0 f1 f2 f3 f4 hln
  generalize hmm : (m.state 0).link i m.states = mm at *
  have hF6 := HF5.out.store (.int .i64 (mm.states : Int)) (.int .i64 0) (.slice C1 mm.links.length l1) (.slice C2 mm.edges.length l2) (.slice C3 mm.accept.length l3)
  have hF6n : w.heap.size < (((((w5.setCell ⟨w.heap.size, 0, none⟩ (.int .i64 (mm.states : Int))).setCell ⟨w.heap.size, 1, none⟩ (.int .i64 0)).setCell ⟨w.heap.size, 2, none⟩ (.slice C1 mm.links.length l1)).setCell ⟨w.heap.size, 3, none⟩ (.slice C2 mm.edges.length l2)).setCell ⟨w.heap.size, 4, none⟩ (.slice C3 mm.accept.length l3)).heap.size := hF6.n.lt
  generalize (((((w5.setCell ⟨w.heap.size, 0, none⟩ (.int .i64 (mm.states : Int))).setCell ⟨w.heap.size, 1, none⟩ (.int .i64 0)).setCell ⟨w.heap.size, 2, none⟩ (.slice C1 mm.links.length l1)).setCell ⟨w.heap.size, 3, none⟩ (.slice C2 mm.edges.length l2)).setCell ⟨w.heap.size, 4, none⟩ (.slice C3 mm.accept.length l3)) = W at *
  clear HF5
  have n0 := (hF6).n.cell 0
  have n1 := (hF6).n.cell 1
  have n2 := (hF6).n.cell 2
  have n3 := (hF6).n.cell 3
  have n4 := (hF6).n.cell 4
  have f0 := (hF6).n.frozen 0
  have f1 := (hF6).n.frozen 1
  have f2 := (hF6).n.frozen 2
  have f3 := (hF6).n.frozen 3
  have f4 := (hF6).n.frozen 4
  have hln := (hF6).n.lt
  simp only [List.getElem?_toArray, List.getElem?_cons_zero, List.getElem?_cons_succ] at n0 n1 n2 n3 n4
  have x5 := hF6.x.cell 5
  have hlx := hF6.x.lt
  simp only [List.getElem?_toArray, List.getElem?_cons_zero, List.getElem?_cons_succ] at x5
  obtain ⟨c0, c1, c2, c3, c4, c5, c6, c7⟩ := hF6.node HND.out hnb
  have HI := Lib.hid (HL.out C capc m.states base S5 mm C1 l1 C2 l2 C3 l3 W.drew (hF6.drew.trees HT.out) hF6.drew.mv hF6.drew.size HFIT.out.2.2)
  unfold ndV mvA at HI
  have HF6 := Lib.hid hF6
  clear hF6
  generalize hr : z.lay mm m.states = r at *
  refine wp_region_held_drew (S := fun w' => ∀ b' o', b' = w.heap.size + 1 ∨ b' = b → w'.cell? ⟨b', o', none⟩ = W.cell? ⟨b', o', none⟩) (by kernel_rfl) (key_drew w b W) (fun hHeld => ?_)
  refine wpAnyH_take (i := 1) (oi := _) (v := ?_) rfl (by kernel_rfl) (by kernel_rfl) (by kernel_rfl) (fun _ _ _ h => h) (Or.inl ⟨by kernel_rfl, ?_⟩) (by assumption) ?_
  rotate_left
  · intro w hSw
    try dsimp only at hSw
    go_simp
    try (with_reducible rfl)
  try simp only [Act.put, List.getElem_toArray, List.getElem_cons_zero, List.getElem_cons_succ, List.setIfInBounds_toArray, List.set_cons_zero, List.set_cons_succ]
  refine wpAnyH_take (i := 2) (oi := _) (v := ?_) rfl (by kernel_rfl) (by kernel_rfl) (by kernel_rfl) (fun _ _ _ h => h) (Or.inl ⟨by kernel_rfl, ?_⟩) (by assumption) ?_
  rotate_left
  · intro w hSw
    try dsimp only at hSw
    go_simp
    try (with_reducible rfl)
  try simp only [Act.put, List.getElem_toArray, List.getElem_cons_zero, List.getElem_cons_succ, List.setIfInBounds_toArray, List.set_cons_zero, List.set_cons_succ]
  refine wpAnyH_take (i := 3) (oi := _) (v := ?_) rfl (by kernel_rfl) (by kernel_rfl) (by kernel_rfl) (fun _ _ _ h => h) (Or.inl ⟨by kernel_rfl, ?_⟩) (by assumption) ?_
  rotate_left
  · intro w hSw
    try dsimp only at hSw
    go_simp
    try (with_reducible rfl)
  try simp only [Act.put, List.getElem_toArray, List.getElem_cons_zero, List.getElem_cons_succ, List.setIfInBounds_toArray, List.set_cons_zero, List.set_cons_succ]
  refine wpAnyH_take (i := 4) (oi := _) (v := ?_) rfl (by kernel_rfl) (by kernel_rfl) (by kernel_rfl) (fun _ _ _ h => h) (Or.inl ⟨by kernel_rfl, ?_⟩) (by assumption) ?_
  rotate_left
  · intro w hSw
    try dsimp only at hSw
    go_simp
    try (with_reducible rfl)
  try simp only [Act.put, List.getElem_toArray, List.getElem_cons_zero, List.getElem_cons_succ, List.setIfInBounds_toArray, List.set_cons_zero, List.set_cons_succ]
  refine wpAnyH_take (i := 5) (oi := _) (v := ?_) rfl (by kernel_rfl) (by kernel_rfl) (by kernel_rfl) (fun _ _ _ h => h) (Or.inl ⟨by kernel_rfl, ?_⟩) (by assumption) ?_
  rotate_left
  · intro w hSw
    try dsimp only at hSw
    go_simp
    try (with_reducible rfl)
  try simp only [Act.put, List.getElem_toArray, List.getElem_cons_zero, List.getElem_cons_succ, List.setIfInBounds_toArray, List.set_cons_zero, List.set_cons_succ]
  refine wpAnyH_ready (rs := [0]) (by kernel_rfl) (by simp) ?_
  refine AllReadyH.cons (o := _) rfl (fun K hK => ?_) AllReadyH.nil
  go_simp
  refine hK.out _ _ (by assumption) (fun _ => ?_)
  clear hK K
  try simp only [Act.put, List.getElem_toArray, List.getElem_cons_zero, List.getElem_cons_succ, List.setIfInBounds_toArray, List.set_cons_zero, List.set_cons_succ]
  refine wpAnyH_ready (rs := [6]) (by kernel_rfl) (by simp) ?_
  refine AllReadyH.cons (o := _) rfl (fun K hK => ?_) AllReadyH.nil
  go_simp
  go_at_call 23
  refine HI.out.mono ?_
  rintro e w7 ⟨D1, p1, D2, p2, D3, p3, rfl, S7, hM, hV⟩
  have HKEY := Lib.hid (HF6.out.key hbw hnb hV)
  have hF7 := HF6.out.drew.go hM hV
  clear n0 n1 n2 n3 n4 f0 f1 f2 f3 f4 hln
  have n0 := (hF7).n.cell 0
  have n1 := (hF7).n.cell 1
  have n2 := (hF7).n.cell 2
  have n3 := (hF7).n.cell 3
  have n4 := (hF7).n.cell 4
  have f0 := (hF7).n.frozen 0
  have f1 := (hF7).n.frozen 1
  have f2 := (hF7).n.frozen 2
  have f3 := (hF7).n.frozen 3
  have f4 := (hF7).n.frozen 4
  have hln := (hF7).n.lt
  simp only [List.getElem?_toArray, List.getElem?_cons_zero, List.getElem?_cons_succ] at n0 n1 n2 n3 n4
  have HF7 := Lib.hid hF7
  clear hF7 hM hV HI c0 c1 c2 c3 c4 c5 c6 c7 x5
  unfold mvA
  dsimp only
  refine hK.out _ _ HKEY.out (fun _ => ?_)
  clear hK K hHeld
  try simp only [Act.put, List.getElem_toArray, List.getElem_cons_zero, List.getElem_cons_succ, List.setIfInBounds_toArray, List.set_cons_zero, List.set_cons_succ]
  refine wpAnyH_take (i := 7) (oi := _) (v := ?_) rfl (by kernel_rfl) (by kernel_rfl) (by kernel_rfl) (fun _ _ _ h => h) (Or.inl ⟨by kernel_rfl, ?_⟩) (by assumption) ?_
  rotate_left
  · intro w hSw
    try dsimp only at hSw
    go_simp
    try (with_reducible rfl)
  try simp only [Act.put, List.getElem_toArray, List.getElem_cons_zero, List.getElem_cons_succ, List.setIfInBounds_toArray, List.set_cons_zero, List.set_cons_succ]
  refine wpAnyH_take (i := 8) (oi := _) (v := ?_) rfl (by kernel_rfl) (by kernel_rfl) (by kernel_rfl) (fun _ _ _ h => h) (Or.inl ⟨by kernel_rfl, ?_⟩) (by assumption) ?_
  rotate_left
  · intro w hSw
    try dsimp only at hSw
    go_simp
    try (with_reducible rfl)
  try simp only [Act.put, List.getElem_toArray, List.getElem_cons_zero, List.getElem_cons_succ, List.setIfInBounds_toArray, List.set_cons_zero, List.set_cons_succ]
  refine wpAnyH_take (i := 9) (oi := _) (v := ?_) rfl (by kernel_rfl) (by kernel_rfl) (by kernel_rfl) (fun _ _ _ h => h) (Or.inl ⟨by kernel_rfl, ?_⟩) (by assumption) ?_
  rotate_left
  · intro w hSw
    try dsimp only at hSw
    go_simp
    try (with_reducible rfl)
  try simp only [Act.put, List.getElem_toArray, List.getElem_cons_zero, List.getElem_cons_succ, List.setIfInBounds_toArray, List.set_cons_zero, List.set_cons_succ]
  refine wpAnyH_ready (rs := [10]) (by kernel_rfl) (by simp) ?_
  refine AllReadyH.cons (o := _) rfl (fun K hK => ?_) AllReadyH.nil
  go_simp
  refine hK.out _ _ (HKEY.out.store hbw _ _ _ _ _) (fun _ => ?_)
  clear hK K HKEY HF6
  try simp only [Act.put, List.getElem_toArray, List.getElem_cons_zero, List.getElem_cons_succ, List.setIfInBounds_toArray, List.set_cons_zero, List.set_cons_succ]
  refine wpAnyH_take (i := 11) (oi := _) (v := ?_) rfl (by kernel_rfl) (by kernel_rfl) (by kernel_rfl) (fun _ _ _ h => h) (Or.inl ⟨by kernel_rfl, ?_⟩) (by assumption) ?_
  rotate_left
  · intro w hSw
    try dsimp only at hSw
    go_simp
    try (with_reducible rfl)
  try simp only [Act.put, List.getElem_toArray, List.getElem_cons_zero, List.getElem_cons_succ, List.setIfInBounds_toArray, List.set_cons_zero, List.set_cons_succ]
  refine wpAnyH_done (by kernel_rfl) ?_ _
  go_upto_region 32 with fail
  clear n0 n1 n2 n3 n4 f0 f1 f2 f3 f4 hln
  have hF8 := HF7.out.store (.int .i64 (r.1.states : Int)) (.int .i64 0) (.slice D1 r.1.links.length p1) (.slice D2 r.1.edges.length p2) (.slice D3 r.1.accept.length p3)
  generalize (((((w7.setCell ⟨w.heap.size, 0, none⟩ (.int .i64 (r.1.states : Int))).setCell ⟨w.heap.size, 1, none⟩ (.int .i64 0)).setCell ⟨w.heap.size, 2, none⟩ (.slice D1 r.1.links.length p1)).setCell ⟨w.heap.size, 3, none⟩ (.slice D2 r.1.edges.length p2)).setCell ⟨w.heap.size, 4, none⟩ (.slice D3 r.1.accept.length p3)) = W8 at *
  clear HF7
  have n0 := (hF8).n.cell 0
  have n1 := (hF8).n.cell 1
  have n2 := (hF8).n.cell 2
  have n3 := (hF8).n.cell 3
  have n4 := (hF8).n.cell 4
  have f0 := (hF8).n.frozen 0
  have f1 := (hF8).n.frozen 1
  have f2 := (hF8).n.frozen 2
  have f3 := (hF8).n.frozen 3
  have f4 := (hF8).n.frozen 4
  have hln := (hF8).n.lt
  simp only [List.getElem?_toArray, List.getElem?_cons_zero, List.getElem?_cons_succ] at n0 n1 n2 n3 n4
  have x0 := hF8.x.cell 0
  simp only [List.getElem?_toArray, List.getElem?_cons_zero] at x0
  have HC8 := Lib.hid (rlink_go base S7 r.1 D1 p1 D2 p2 D3 p3 r.2 m.states W8 hF8.mv hF8.size HFIT.out.2.2.2.1)
  have HF8 := Lib.hid hF8
  clear hF8
  unfold mvA at HC8
  go_wp2_with fail
  refine HC8.out.mono ?_
  rintro e w9 ⟨E1, q1, E2, q2, E3, q3, rfl, S9, hM, hV⟩
  clear n0 n1 n2 n3 n4 f0 f1 f2 f3 f4 hln
  have hF9 := HF8.out.go hM hV
  have n0 := (hF9).n.cell 0
  have n1 := (hF9).n.cell 1
  have n2 := (hF9).n.cell 2
  have n3 := (hF9).n.cell 3
  have n4 := (hF9).n.cell 4
  have f0 := (hF9).n.frozen 0
  have f1 := (hF9).n.frozen 1
  have f2 := (hF9).n.frozen 2
  have f3 := (hF9).n.frozen 3
  have f4 := (hF9).n.frozen 4
  have hln := (hF9).n.lt
  simp only [List.getElem?_toArray, List.getElem?_cons_zero, List.getElem?_cons_succ] at n0 n1 n2 n3 n4
  have z0 := (hF9).z.cell 0
  have z1 := (hF9).z.cell 1
  have z2 := (hF9).z.cell 2
  have z3 := (hF9).z.cell 3
  have z4 := (hF9).z.cell 4
  have g0 := (hF9).z.frozen 0
  have g1 := (hF9).z.frozen 1
  have g2 := (hF9).z.frozen 2
  have g3 := (hF9).z.frozen 3
  have g4 := (hF9).z.frozen 4
  have hlz := (hF9).z.lt
  simp only [List.getElem?_toArray, List.getElem?_cons_zero, List.getElem?_cons_succ] at z0 z1 z2 z3 z4
  have y0 := hF9.x.cell 0
  have hly := hF9.x.lt
  simp only [List.getElem?_toArray, List.getElem?_cons_zero] at y0
  have HF9 := Lib.hid hF9
  clear hF9 hM hV HC8 HF8
  unfold mvA
  dsimp only
  go_wp2
  go_light
  have hof : loopF true z.lay m i = (r.1.link r.2 m.states, if true = true then r.2 else m.states) := by unfold loopF; rw [hmm, hr]
  rw [hof]
  generalize r.1.link r.2 m.states = ml at *
  have hG := (HF9.out.store (.int .i64 (ml.states : Int)) (.int .i64 0) (.slice E1 ml.links.length q1) (.slice E2 ml.edges.length q2) (.slice E3 ml.accept.length q3)).give (.int .i64 (ml.states : Int)) (.int .i64 0) (.slice E1 ml.links.length q1) (.slice E2 ml.edges.length q2) (.slice E3 ml.accept.length q3)
  exact bodyPost_ret (ret_nfa Tryz.results23 rfl rfl hG.1) rfl ⟨E1, q1, E2, q2, E3, q3, rfl, S9, hG.2.1, hG.2.2⟩

end Go.Proofs.YtchfipjclbpomaaGreat
