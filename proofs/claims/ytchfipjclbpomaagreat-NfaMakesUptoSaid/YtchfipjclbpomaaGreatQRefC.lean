/-
  The contract of the reference's lay of chapter 16: cat.
-/
import Derived.Test.YtchfipjclbpomaaGreatQRefJ
namespace Go.Proofs.YtchfipjclbpomaaGreat
open Go.RowKit
set_option linter.unusedSimpArgs false
set_option linter.unusedVariables false
set_option maxRecDepth 100000

/-- What is known of a node's kids. -/
structure RKidsC (F : Trees) : Prop where
  lay : ∀ z ∈ F.list, RLayC z
  grows : ∀ f ∈ F.lays, GrowsF f
theorem RKidsC.get {F : Trees} (h : RKidsC F) {k : Nat} {z : Nd} (hz : F.list[k]? = some z) : RLayC z := h.lay z (List.mem_of_getElem? hz)
/-- The frame, the machine's rows anywhere. -/
def FrM (w : World) (base : Nat) (S : Nat → Prop) (nd : Array Value) (M : MachS) (w1 : World) : Prop :=
  ∃ S1 A1 k1 A2 k2 A3 k3, Fr w base S nd S1 M A1 k1 A2 k2 A3 k3 (mvA M A1 k1 A2 k2 A3 k3) w1
set_option maxHeartbeats 8000000 in
theorem rlay_cat (x : Nd) (hK : RKidsC x.kids) (B : Option Addr) (cap i base : Nat) (S : Nat → Prop) (m : MachS) (A1 : Option Addr) (k1 : Nat) (A2 : Option Addr) (k2 : Nat) (A3 : Option Addr) (k3 : Nat) (w : World) (ht : TreesAt w (fun b => ¬ S b) x.kids B) (h : MvAt w base S m A1 k1 A2 k2 A3 k3) (hb : base ≤ w.heap.size) (hk : x.kind = 4) (hf : FitsM (catF x.kids.lays m i).1) (hl : x.kids.len ≤ 140737488355328) : Calls Tryz.prog 23 #[.agg (mvA m A1 k1 A2 k2 A3 k3), ndV x B cap, .int .i64 (i : Int)] w (RLayOut base S w (catF x.kids.lays m i)) := by
  unfold mvA ndV
  rw [hk]
  have hF3 : Fr w base S #[.int .i64 4, .int .u64 ((word (x.set.testBit) 0 : Nat) : Int), .int .u64 ((word (x.set.testBit) 1 : Nat) : Int), .int .u64 ((word (x.set.testBit) 2 : Nat) : Int), .int .u64 ((word (x.set.testBit) 3 : Nat) : Int), .slice (B) x.kids.len cap, .int .i64 x.lo, .int .i64 x.hi] S m A1 k1 A2 k2 A3 k3 #[.int .i64 (m.states : Int), .int .i64 0, .slice A1 m.links.length k1, .slice A2 m.edges.length k2, .slice A3 m.accept.length k3] (((w.alloc (.cells #[.int .i64 (m.states : Int), .int .i64 0, .slice A1 m.links.length k1, .slice A2 m.edges.length k2, .slice A3 m.accept.length k3] 36)).alloc (.cells #[.int .i64 4, .int .u64 ((word (x.set.testBit) 0 : Nat) : Int), .int .u64 ((word (x.set.testBit) 1 : Nat) : Int), .int .u64 ((word (x.set.testBit) 2 : Nat) : Int), .int .u64 ((word (x.set.testBit) 3 : Nat) : Int), .slice (B) x.kids.len cap, .int .i64 x.lo, .int .i64 x.hi] 29)).alloc (.cells #[.int .i64 0, .int .i64 0, .slice none 0 0, .slice none 0 0, .slice none 0 0] 36)) := Fr.start h hb #[.int .i64 (m.states : Int), .int .i64 0, .slice A1 m.links.length k1, .slice A2 m.edges.length k2, .slice A3 m.accept.length k3] #[.int .i64 4, .int .u64 ((word (x.set.testBit) 0 : Nat) : Int), .int .u64 ((word (x.set.testBit) 1 : Nat) : Int), .int .u64 ((word (x.set.testBit) 2 : Nat) : Int), .int .u64 ((word (x.set.testBit) 3 : Nat) : Int), .slice (B) x.kids.len cap, .int .i64 x.lo, .int .i64 x.hi]
  have HM0 := Lib.hid (show FrM w base S #[.int .i64 4, .int .u64 ((word (x.set.testBit) 0 : Nat) : Int), .int .u64 ((word (x.set.testBit) 1 : Nat) : Int), .int .u64 ((word (x.set.testBit) 2 : Nat) : Int), .int .u64 ((word (x.set.testBit) 3 : Nat) : Int), .slice (B) x.kids.len cap, .int .i64 x.lo, .int .i64 x.hi] m (((w.alloc (.cells #[.int .i64 (m.states : Int), .int .i64 0, .slice A1 m.links.length k1, .slice A2 m.edges.length k2, .slice A3 m.accept.length k3] 36)).alloc (.cells #[.int .i64 4, .int .u64 ((word (x.set.testBit) 0 : Nat) : Int), .int .u64 ((word (x.set.testBit) 1 : Nat) : Int), .int .u64 ((word (x.set.testBit) 2 : Nat) : Int), .int .u64 ((word (x.set.testBit) 3 : Nat) : Int), .slice (B) x.kids.len cap, .int .i64 x.lo, .int .i64 x.hi] 29)).alloc (.cells #[.int .i64 0, .int .i64 0, .slice none 0 0, .slice none 0 0, .slice none 0 0] 36)) from ⟨S, A1, k1, A2, k2, A3, k3, hF3⟩)
  have HT := Lib.hid ht
  have HK := Lib.hid hK
  have HFIT := Lib.hid hf
  clear hF3 ht hK hf hk h
  go_enter Tryz.func23, Tryz.ntmps23
  go_wp2_with fail
  go_loopw [9, 10] (fun v i' wr => ∃ k : Nat, i' = .int .i64 (k : Int) ∧ k ≤ x.kids.len ∧ v = .int .i64 ((((catF (x.kids.lays.take k) m i).2 : Nat)) : Int) ∧ Hid (FrM w base S #[.int .i64 4, .int .u64 ((word (x.set.testBit) 0 : Nat) : Int), .int .u64 ((word (x.set.testBit) 1 : Nat) : Int), .int .u64 ((word (x.set.testBit) 2 : Nat) : Int), .int .u64 ((word (x.set.testBit) 3 : Nat) : Int), .slice (B) x.kids.len cap, .int .i64 x.lo, .int .i64 x.hi] (catF (x.kids.lays.take k) m i).1 wr)) (fun _ i' _ => x.kids.len - (intOf i').toNat)
  case atStart => exact ⟨0, rfl, Nat.zero_le _, rfl, HM0⟩
  case round =>
    clear HM0
    obtain ⟨k, rfl, hk, rfl, HM⟩ := hrel
    by_cases hlt : k < x.kids.len
    · obtain ⟨z, hz⟩ : ∃ z, x.kids.list[k]? = some z := ⟨_, List.getElem?_eq_getElem (by rw [Trees.len_list]; exact hlt)⟩
      obtain ⟨S1, C1, l1, C2, l2, C3, l3, hF⟩ := HM.out
      obtain ⟨b, o, C, capc, rfl, hnb, _, hnd0, hkz⟩ := HT.out.get hz
      have hbw : b < w.heap.size := World.block_lt_of_cell? w _ hnd0.1
      have hdl : (k : Int) < (x.kids.len : Int) := by omega
      have hts := take_snocF (lays_get hz)
      have hfit : FitsM (z.lay (catF (x.kids.lays.take k) m i).1 (catF (x.kids.lays.take k) m i).2).1 := by
        have := HFIT.out.of (catF_part HK.out.grows (k + 1) m i)
        rw [hts, catF_snoc] at this
        exact this
      have HS := Lib.hid (show catF (x.kids.lays.take (k + 1)) m i = z.lay (catF (x.kids.lays.take k) m i).1 (catF (x.kids.lays.take k) m i).2 by rw [hts, catF_snoc])
      clear hts HM
      generalize (catF (x.kids.lays.take k) m i).2 = at1 at *
      generalize (catF (x.kids.lays.take k) m i).1 = mk at *
      have HI := Lib.hid (HK.out.get hz C capc at1 base S1 mk C1 l1 C2 l2 C3 l3 wr.drew (hF.drew.trees hkz) hF.drew.mv hF.drew.size hfit)
      unfold ndV mvA at HI
      unfold mvA at hF
      have n0 := (hF).n.cell 0
      have n1 := (hF).n.cell 1
      have n2 := (hF).n.cell 2
      have n3 := (hF).n.cell 3
      have n4 := (hF).n.cell 4
      have f0 := (hF).n.frozen 0
      have f1 := (hF).n.frozen 1
      have f2 := (hF).n.frozen 2
      have f3 := (hF).n.frozen 3
      have f4 := (hF).n.frozen 4
      have hln := (hF).n.lt
      simp only [List.getElem?_toArray, List.getElem?_cons_zero, List.getElem?_cons_succ] at n0 n1 n2 n3 n4
      have x5 := hF.x.cell 5
      have hlx := hF.x.lt
      simp only [List.getElem?_toArray, List.getElem?_cons_zero, List.getElem?_cons_succ] at x5
      obtain ⟨c0, c1, c2, c3, c4, c5, c6, c7⟩ := hF.node hnd0 hnb
      have HF6 := Lib.hid hF
      clear hF hfit hnd0 hkz hz
      generalize z.lay mk at1 = r at *
      go_upto_region 14 with fail
      refine wp_region_held_drew (S := fun w' => ∀ b' o', b' = w.heap.size + 1 ∨ b' = b → w'.cell? ⟨b', o', none⟩ = wr.cell? ⟨b', o', none⟩) (by kernel_rfl) (key_drew w b wr) (fun hHeld => ?_)
      refine wpAnyH_take (i := 1) (oi := _) (v := ?_) rfl (by kernel_rfl) (by kernel_rfl) (by kernel_rfl) (fun _ _ _ h => h) (Or.inl ⟨by kernel_rfl, ?_⟩) (by assumption) ?_
      rotate_left
      · intro w hSw
        try dsimp only at hSw
        go_simp
        try (with_reducible rfl)
      try simp only [Act.put, List.getElem_toArray, List.getElem_cons_zero, List.getElem_cons_succ, List.setIfInBounds_toArray, List.set_cons_zero, List.set_cons_succ]
      refine wpAnyH_take (i := 2) (oi := _) (v := ?_) rfl (by kernel_rfl) (by kernel_rfl) (by kernel_rfl) (fun _ _ _ h => h) (Or.inl ⟨by kernel_rfl, ?_⟩) (by assumption) ?_
      rotate_left
      · intro w hSw
        try dsimp only at hSw
        go_simp
        try (with_reducible rfl)
      try simp only [Act.put, List.getElem_toArray, List.getElem_cons_zero, List.getElem_cons_succ, List.setIfInBounds_toArray, List.set_cons_zero, List.set_cons_succ]
      refine wpAnyH_take (i := 3) (oi := _) (v := ?_) rfl (by kernel_rfl) (by kernel_rfl) (by kernel_rfl) (fun _ _ _ h => h) (Or.inl ⟨by kernel_rfl, ?_⟩) (by assumption) ?_
      rotate_left
      · intro w hSw
        try dsimp only at hSw
        go_simp
        try (with_reducible rfl)
      try simp only [Act.put, List.getElem_toArray, List.getElem_cons_zero, List.getElem_cons_succ, List.setIfInBounds_toArray, List.set_cons_zero, List.set_cons_succ]
      refine wpAnyH_take (i := 4) (oi := _) (v := ?_) rfl (by kernel_rfl) (by kernel_rfl) (by kernel_rfl) (fun _ _ _ h => h) (Or.inl ⟨by kernel_rfl, ?_⟩) (by assumption) ?_
      rotate_left
      · intro w hSw
        try dsimp only at hSw
        go_simp
        try (with_reducible rfl)
      try simp only [Act.put, List.getElem_toArray, List.getElem_cons_zero, List.getElem_cons_succ, List.setIfInBounds_toArray, List.set_cons_zero, List.set_cons_succ]
      refine wpAnyH_take (i := 5) (oi := _) (v := ?_) rfl (by kernel_rfl) (by kernel_rfl) (by kernel_rfl) (fun _ _ _ h => h) (Or.inl ⟨by kernel_rfl, ?_⟩) (by assumption) ?_
      rotate_left
      · intro w hSw
        try dsimp only at hSw
        go_simp
        try (with_reducible rfl)
      try simp only [Act.put, List.getElem_toArray, List.getElem_cons_zero, List.getElem_cons_succ, List.setIfInBounds_toArray, List.set_cons_zero, List.set_cons_succ]
      refine wpAnyH_take (i := 6) (oi := _) (v := ?_) rfl (by kernel_rfl) (by kernel_rfl) (by kernel_rfl) (fun _ _ _ h => h) (Or.inl ⟨by kernel_rfl, ?_⟩) (by assumption) ?_
      rotate_left
      · intro w hSw
        try dsimp only at hSw
        go_simp
        try (with_reducible rfl)
      try simp only [Act.put, List.getElem_toArray, List.getElem_cons_zero, List.getElem_cons_succ, List.setIfInBounds_toArray, List.set_cons_zero, List.set_cons_succ]
      refine wpAnyH_ready (rs := [0]) (by kernel_rfl) (by simp) ?_
      refine AllReadyH.cons (o := _) rfl (fun K hK => ?_) AllReadyH.nil
      go_simp
      refine hK.out _ _ (by assumption) (fun _ => ?_)
      clear hK K
      try simp only [Act.put, List.getElem_toArray, List.getElem_cons_zero, List.getElem_cons_succ, List.setIfInBounds_toArray, List.set_cons_zero, List.set_cons_succ]
      refine wpAnyH_ready (rs := [7]) (by kernel_rfl) (by simp) ?_
      refine AllReadyH.cons (o := _) rfl (fun K hK => ?_) AllReadyH.nil
      go_simp
      go_at_call 23
      refine HI.out.mono ?_
      rintro e w7 ⟨D1, p1, D2, p2, D3, p3, rfl, S7, hM, hV⟩
      have HKEY := Lib.hid (HF6.out.key hbw hnb hV)
      have hF7 := HF6.out.drew.go hM hV
      clear n0 n1 n2 n3 n4 f0 f1 f2 f3 f4 hln
      have n0 := (hF7).n.cell 0
      have n1 := (hF7).n.cell 1
      have n2 := (hF7).n.cell 2
      have n3 := (hF7).n.cell 3
      have n4 := (hF7).n.cell 4
      have f0 := (hF7).n.frozen 0
      have f1 := (hF7).n.frozen 1
      have f2 := (hF7).n.frozen 2
      have f3 := (hF7).n.frozen 3
      have f4 := (hF7).n.frozen 4
      have hln := (hF7).n.lt
      simp only [List.getElem?_toArray, List.getElem?_cons_zero, List.getElem?_cons_succ] at n0 n1 n2 n3 n4
      have HF7 := Lib.hid hF7
      clear hF7 hM hV HI c0 c1 c2 c3 c4 c5 c6 c7 x5
      unfold mvA
      dsimp only
      refine hK.out _ _ HKEY.out (fun _ => ?_)
      clear hK K hHeld
      try simp only [Act.put, List.getElem_toArray, List.getElem_cons_zero, List.getElem_cons_succ, List.setIfInBounds_toArray, List.set_cons_zero, List.set_cons_succ]
      refine wpAnyH_take (i := 8) (oi := _) (v := ?_) rfl (by kernel_rfl) (by kernel_rfl) (by kernel_rfl) (fun _ _ _ h => h) (Or.inl ⟨by kernel_rfl, ?_⟩) (by assumption) ?_
      rotate_left
      · intro w hSw
        try dsimp only at hSw
        go_simp
        try (with_reducible rfl)
      try simp only [Act.put, List.getElem_toArray, List.getElem_cons_zero, List.getElem_cons_succ, List.setIfInBounds_toArray, List.set_cons_zero, List.set_cons_succ]
      refine wpAnyH_take (i := 9) (oi := _) (v := ?_) rfl (by kernel_rfl) (by kernel_rfl) (by kernel_rfl) (fun _ _ _ h => h) (Or.inl ⟨by kernel_rfl, ?_⟩) (by assumption) ?_
      rotate_left
      · intro w hSw
        try dsimp only at hSw
        go_simp
        try (with_reducible rfl)
      try simp only [Act.put, List.getElem_toArray, List.getElem_cons_zero, List.getElem_cons_succ, List.setIfInBounds_toArray, List.set_cons_zero, List.set_cons_succ]
      refine wpAnyH_take (i := 10) (oi := _) (v := ?_) rfl (by kernel_rfl) (by kernel_rfl) (by kernel_rfl) (fun _ _ _ h => h) (Or.inl ⟨by kernel_rfl, ?_⟩) (by assumption) ?_
      rotate_left
      · intro w hSw
        try dsimp only at hSw
        go_simp
        try (with_reducible rfl)
      try simp only [Act.put, List.getElem_toArray, List.getElem_cons_zero, List.getElem_cons_succ, List.setIfInBounds_toArray, List.set_cons_zero, List.set_cons_succ]
      refine wpAnyH_ready (rs := [11]) (by kernel_rfl) (by simp) ?_
      refine AllReadyH.cons (o := _) rfl (fun K hK => ?_) AllReadyH.nil
      go_simp
      refine hK.out _ _ (HKEY.out.store hbw _ _ _ _ _) (fun _ => ?_)
      clear hK K HKEY HF6
      try simp only [Act.put, List.getElem_toArray, List.getElem_cons_zero, List.getElem_cons_succ, List.setIfInBounds_toArray, List.set_cons_zero, List.set_cons_succ]
      refine wpAnyH_take (i := 12) (oi := _) (v := ?_) rfl (by kernel_rfl) (by kernel_rfl) (by kernel_rfl) (fun _ _ _ h => h) (Or.inl ⟨by kernel_rfl, ?_⟩) (by assumption) ?_
      rotate_left
      · intro w hSw
        try dsimp only at hSw
        go_simp
        try (with_reducible rfl)
      try simp only [Act.put, List.getElem_toArray, List.getElem_cons_zero, List.getElem_cons_succ, List.setIfInBounds_toArray, List.set_cons_zero, List.set_cons_succ]
      refine wpAnyH_done (by kernel_rfl) ?_ _
      go_wp2
      go_roundw
      case rel =>
        refine ⟨k + 1, by go_num, by omega, by rw [HS.out], Lib.hid ?_⟩
        rw [HS.out]
        exact ⟨S7, D1, p1, D2, p2, D3, p3, HF7.out.store (.int .i64 (r.1.states : Int)) (.int .i64 0) (.slice D1 r.1.links.length p1) (.slice D2 r.1.edges.length p2) (.slice D3 r.1.accept.length p3)⟩
      case measure => simp [intOf]; omega
    · obtain rfl : k = x.kids.len := by omega
      have hdl : ¬ ((x.kids.len : Int) < (x.kids.len : Int)) := by omega
      have HV := Lib.hid (show x.kids.lays.take x.kids.len = x.kids.lays by rw [← lays_len, List.take_length])
      rw [HV.out] at HM ⊢
      obtain ⟨S1, C1, l1, C2, l2, C3, l3, hF⟩ := HM.out
      unfold mvA at hF
      have n0 := (hF).n.cell 0
      have n1 := (hF).n.cell 1
      have n2 := (hF).n.cell 2
      have n3 := (hF).n.cell 3
      have n4 := (hF).n.cell 4
      have f0 := (hF).n.frozen 0
      have f1 := (hF).n.frozen 1
      have f2 := (hF).n.frozen 2
      have f3 := (hF).n.frozen 3
      have f4 := (hF).n.frozen 4
      have hln := (hF).n.lt
      simp only [List.getElem?_toArray, List.getElem?_cons_zero, List.getElem?_cons_succ] at n0 n1 n2 n3 n4
      have z0 := (hF).z.cell 0
      have z1 := (hF).z.cell 1
      have z2 := (hF).z.cell 2
      have z3 := (hF).z.cell 3
      have z4 := (hF).z.cell 4
      have g0 := (hF).z.frozen 0
      have g1 := (hF).z.frozen 1
      have g2 := (hF).z.frozen 2
      have g3 := (hF).z.frozen 3
      have g4 := (hF).z.frozen 4
      have hlz := (hF).z.lt
      simp only [List.getElem?_toArray, List.getElem?_cons_zero, List.getElem?_cons_succ] at z0 z1 z2 z3 z4
      have x5 := hF.x.cell 5
      have hlx := hF.x.lt
      simp only [List.getElem?_toArray, List.getElem?_cons_zero, List.getElem?_cons_succ] at x5
      have HF6 := Lib.hid hF
      clear hF HM
      go_wp2
      go_light
      have hG := HF6.out.give (.int .i64 ((catF x.kids.lays m i).1.states : Int)) (.int .i64 0) (.slice C1 (catF x.kids.lays m i).1.links.length l1) (.slice C2 (catF x.kids.lays m i).1.edges.length l2) (.slice C3 (catF x.kids.lays m i).1.accept.length l3)
      exact bodyPost_ret (ret_nfa Tryz.results23 rfl rfl hG.1) rfl ⟨C1, l1, C2, l2, C3, l3, rfl, S1, hG.2.1, hG.2.2⟩
end Go.Proofs.YtchfipjclbpomaaGreat
