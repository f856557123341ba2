/-
  The contract of the reference's lay of chapter 16: alt.
-/
import Derived.Test.YtchfipjclbpomaaGreatQRefC
namespace Go.Proofs.YtchfipjclbpomaaGreat
open Go.RowKit
set_option linter.unusedSimpArgs false
set_option linter.unusedVariables false
set_option maxRecDepth 100000

theorem Fr.grown {w w1 w2 : World} {base : Nat} {S S1 : Nat → Prop} {nd nv : Array Value} {m1 : MachS} {A1 A2 A3 : Option Addr} {k1 k2 k3 : Nat} (h : Fr w base S nd S1 m1 A1 k1 A2 k2 A3 k3 nv w1) {o : Obj} {r : Option Nat} (hg : (w1.alloc o).grownBy w2 r) (hr : ∀ b, r = some b → w.heap.size + 3 ≤ b ∧ ¬ S1 b) : Fr w base S nd S1 m1 A1 k1 A2 k2 A3 k3 nv w2 := by
  have hsz := hg.size
  have hs1 : w.heap.size ≤ w1.heap.size := h.mvs.size
  have hsa : (w1.alloc o).heap.size = w1.heap.size + 1 := by simp
  have key : ∀ b, b < w1.heap.size → r ≠ some b → w2.heap[b]? = w1.heap[b]? := fun b hb hn => (hg.block b (by omega) (fun e => hn e.symm)).trans (Below.heap_alloc w1 o b hb)
  have hal := h.mvs.alloc h.hb o
  exact ⟨(key _ h.n.lt (fun e => by have := (hr _ e).1; omega)).trans h.n, (key _ h.x.lt (fun e => by have := (hr _ e).1; omega)).trans h.x, (key _ h.z.lt (fun e => by have := (hr _ e).1; omega)).trans h.z,
    h.mv.keep (by omega) (fun b hb => key b (h.mv.lt b hb).2 (fun e => (hr _ e).2 hb)),
    ⟨hal.below.grown hg (by have := h.hb; omega) (fun b e => by have := (hr _ e).1; have := h.hb; omega), by omega, fun b hb hn => (key b (by omega) (fun e => by have := (hr _ e).1; omega)).trans (h.mvs.kept b hb hn), h.mvs.fresh⟩, h.nn, h.nx, h.nz, h.hb⟩
/-- The frame, and the ends of alt's kids. -/
def FrE (w : World) (base : Nat) (S : Nat → Prop) (nd : Array Value) (M : MachS) (v : Value) (es : List Nat) (w1 : World) : Prop :=
  ∃ S1 A1 k1 A2 k2 A3 k3, Fr w base S nd S1 M A1 k1 A2 k2 A3 k3 (mvA M A1 k1 A2 k2 A3 k3) w1 ∧ w1.ownsRow (w.heap.size + 3) 3 1 v es.length (accCells es) ∧ ∀ b, v.ownBlock = some b → ¬ S1 b
def FrX (w : World) (base : Nat) (S : Nat → Prop) (nd : Array Value) (M : MachS) (v : Value) (c : Nat) (es : List Nat) (w1 : World) : Prop :=
  ∃ S1 A1 k1 A2 k2 A3 k3, Fr w base S nd S1 M A1 k1 A2 k2 A3 k3 (mvA M A1 k1 A2 k2 A3 k3) w1 ∧ w1.ownsRow (w.heap.size + 3) 3 1 v c (accCells es) ∧ ∀ b, v.ownBlock = some b → ¬ S1 b
set_option maxHeartbeats 8000000 in
theorem rlay_alt (x : Nd) (hK : RKidsC x.kids) (B : Option Addr) (cap i base : Nat) (S : Nat → Prop) (m : MachS) (A1 : Option Addr) (k1 : Nat) (A2 : Option Addr) (k2 : Nat) (A3 : Option Addr) (k3 : Nat) (w : World) (ht : TreesAt w (fun b => ¬ S b) x.kids B) (h : MvAt w base S m A1 k1 A2 k2 A3 k3) (hb : base ≤ w.heap.size) (hk : x.kind = 5) (hf : FitsM (barF x.kids.lays m i).1) (hl : x.kids.len ≤ 1000000000000) : Calls Tryz.prog 23 #[.agg (mvA m A1 k1 A2 k2 A3 k3), ndV x B cap, .int .i64 (i : Int)] w (RLayOut base S w (barF x.kids.lays m i)) := by
  obtain ⟨i0, hi, hz0, hz1, hz2⟩ := info_parts info_intN
  unfold mvA ndV
  rw [hk]
  have hel : (altF x.kids.lays m i).2.length = x.kids.len := by rw [altF_len, lays_len]
  have hfs : FitsM ((altF x.kids.lays m i).1.state 0) := hf.of (linksF_grows _ _ _)
  have HFIT := Lib.hid (show FitsM (altF x.kids.lays m i).1 ∧ FitsM ((altF x.kids.lays m i).1.state 0) ∧ FitsM (linksF (altF x.kids.lays m i).1.states (altF x.kids.lays m i).2 ((altF x.kids.lays m i).1.state 0)) from ⟨hfs.of (ExtM.state _ _), hfs, hf⟩)
  have hF3 : Fr w base S #[.int .i64 5, .int .u64 ((word (x.set.testBit) 0 : Nat) : Int), .int .u64 ((word (x.set.testBit) 1 : Nat) : Int), .int .u64 ((word (x.set.testBit) 2 : Nat) : Int), .int .u64 ((word (x.set.testBit) 3 : Nat) : Int), .slice (B) x.kids.len cap, .int .i64 x.lo, .int .i64 x.hi] S m A1 k1 A2 k2 A3 k3 #[.int .i64 (m.states : Int), .int .i64 0, .slice A1 m.links.length k1, .slice A2 m.edges.length k2, .slice A3 m.accept.length k3] (((w.alloc (.cells #[.int .i64 (m.states : Int), .int .i64 0, .slice A1 m.links.length k1, .slice A2 m.edges.length k2, .slice A3 m.accept.length k3] 36)).alloc (.cells #[.int .i64 5, .int .u64 ((word (x.set.testBit) 0 : Nat) : Int), .int .u64 ((word (x.set.testBit) 1 : Nat) : Int), .int .u64 ((word (x.set.testBit) 2 : Nat) : Int), .int .u64 ((word (x.set.testBit) 3 : Nat) : Int), .slice (B) x.kids.len cap, .int .i64 x.lo, .int .i64 x.hi] 29)).alloc (.cells #[.int .i64 0, .int .i64 0, .slice none 0 0, .slice none 0 0, .slice none 0 0] 36)) := Fr.start h hb #[.int .i64 (m.states : Int), .int .i64 0, .slice A1 m.links.length k1, .slice A2 m.edges.length k2, .slice A3 m.accept.length k3] #[.int .i64 5, .int .u64 ((word (x.set.testBit) 0 : Nat) : Int), .int .u64 ((word (x.set.testBit) 1 : Nat) : Int), .int .u64 ((word (x.set.testBit) 2 : Nat) : Int), .int .u64 ((word (x.set.testBit) 3 : Nat) : Int), .slice (B) x.kids.len cap, .int .i64 x.lo, .int .i64 x.hi]
  have HM0 := Lib.hid hF3
  have HSN := Lib.hid (show ∀ b, w.heap.size ≤ b → ¬ S b from fun b hb hs => by have := (h.lt b hs).2; omega)
  have HT := Lib.hid ht
  have HK := Lib.hid hK
  have HEL := Lib.hid hel
  clear hF3 ht hK hf hk h hfs hel
  go_enter Tryz.func23, Tryz.ntmps23
  go_wp2_with fail
  have hE0 : FrE w base S #[.int .i64 5, .int .u64 ((word (x.set.testBit) 0 : Nat) : Int), .int .u64 ((word (x.set.testBit) 1 : Nat) : Int), .int .u64 ((word (x.set.testBit) 2 : Nat) : Int), .int .u64 ((word (x.set.testBit) 3 : Nat) : Int), .slice (B) x.kids.len cap, .int .i64 x.lo, .int .i64 x.hi] m (.slice (some ⟨w.heap.size + 1 + 1 + 1, 0, none⟩) 0 0) [] ((((w.alloc (.cells #[.int .i64 (m.states : Int), .int .i64 0, .slice A1 m.links.length k1, .slice A2 m.edges.length k2, .slice A3 m.accept.length k3] 36)).alloc (.cells #[.int .i64 5, .int .u64 ((word (x.set.testBit) 0 : Nat) : Int), .int .u64 ((word (x.set.testBit) 1 : Nat) : Int), .int .u64 ((word (x.set.testBit) 2 : Nat) : Int), .int .u64 ((word (x.set.testBit) 3 : Nat) : Int), .slice (B) x.kids.len cap, .int .i64 x.lo, .int .i64 x.hi] 29)).alloc (.cells #[.int .i64 0, .int .i64 0, .slice none 0 0, .slice none 0 0, .slice none 0 0] 36)).alloc (.cells #[] 3)) :=
    ⟨S, A1, k1, A2, k2, A3, k3, HM0.out.below ((Below.refl _ _).alloc (Nat.le_refl _) _), ⟨rfl, .inr ⟨w.heap.size + 1 + 1 + 1, 0, #[], rfl, Nat.le_refl _, Blk.new_at (by simp), Nat.le_refl _, Nat.zero_le _, rfl, rfl⟩⟩, fun b hb => HSN.out b (by
      obtain rfl : w.heap.size + 1 + 1 + 1 = b := by simpa [Value.ownBlock] using hb
      omega)⟩
  have HE0 := Lib.hid hE0
  clear hE0 HM0 HSN
  go_loopw [9, 11, 12] (fun q v i' wr => ∃ (k : Nat) (Av : Option Addr) (capv : Nat) (q0 : Nat), q = .int .i64 (q0 : Int) ∧ i' = .int .i64 (k : Int) ∧ v = .slice Av k capv ∧ k ≤ x.kids.len ∧ Hid (FrE w base S #[.int .i64 5, .int .u64 ((word (x.set.testBit) 0 : Nat) : Int), .int .u64 ((word (x.set.testBit) 1 : Nat) : Int), .int .u64 ((word (x.set.testBit) 2 : Nat) : Int), .int .u64 ((word (x.set.testBit) 3 : Nat) : Int), .slice (B) x.kids.len cap, .int .i64 x.lo, .int .i64 x.hi] (altF (x.kids.lays.take k) m i).1 (.slice Av k capv) (altF (x.kids.lays.take k) m i).2 wr)) (fun _ _ i' _ => x.kids.len - (intOf i').toNat)
  case atStart => exact ⟨0, some ⟨w.heap.size + 1 + 1 + 1, 0, none⟩, 0, i, rfl, rfl, rfl, Nat.zero_le _, HE0⟩
  case round =>
    clear HE0
    obtain ⟨k, Av, capv, q0, rfl, rfl, rfl, hk, HM⟩ := hrel
    by_cases hlt : k < x.kids.len
    · obtain ⟨z, hz⟩ : ∃ z, x.kids.list[k]? = some z := ⟨_, List.getElem?_eq_getElem (by rw [Trees.len_list]; exact hlt)⟩
      obtain ⟨S1, C1, l1, C2, l2, C3, l3, hF, hE1, hN1⟩ := HM.out
      obtain ⟨b, o, C, capc, rfl, hnb, _, hnd0, hkz⟩ := HT.out.get hz
      have hbw : b < w.heap.size := World.block_lt_of_cell? w _ hnd0.1
      have hdl : (k : Int) < (x.kids.len : Int) := by omega
      have hts := take_snocF (lays_get hz)
      have hfit : FitsM (z.lay (altF (x.kids.lays.take k) m i).1 i).1 := by
        have := HFIT.out.1.of (altF_part HK.out.grows (k + 1) m i)
        rw [hts, altF_snoc] at this
        exact this
      have HS := Lib.hid (show altF (x.kids.lays.take (k + 1)) m i = ((z.lay (altF (x.kids.lays.take k) m i).1 i).1, (altF (x.kids.lays.take k) m i).2 ++ [(z.lay (altF (x.kids.lays.take k) m i).1 i).2]) by rw [hts, altF_snoc])
      have HLEN := Lib.hid (show (altF (x.kids.lays.take k) m i).2.length = k by rw [altF_len, List.length_take, lays_len]; omega)
      clear hts HM
      generalize (altF (x.kids.lays.take k) m i).2 = es at *
      generalize (altF (x.kids.lays.take k) m i).1 = mk at *
      have HI := Lib.hid (HK.out.get hz C capc i base S1 mk C1 l1 C2 l2 C3 l3 wr.drew (hF.drew.trees hkz) hF.drew.mv hF.drew.size hfit)
      unfold ndV mvA at HI
      unfold mvA at hF
      have n0 := (hF).n.cell 0
      have n1 := (hF).n.cell 1
      have n2 := (hF).n.cell 2
      have n3 := (hF).n.cell 3
      have n4 := (hF).n.cell 4
      have f0 := (hF).n.frozen 0
      have f1 := (hF).n.frozen 1
      have f2 := (hF).n.frozen 2
      have f3 := (hF).n.frozen 3
      have f4 := (hF).n.frozen 4
      have hln := (hF).n.lt
      simp only [List.getElem?_toArray, List.getElem?_cons_zero, List.getElem?_cons_succ] at n0 n1 n2 n3 n4
      have x5 := hF.x.cell 5
      have hlx := hF.x.lt
      simp only [List.getElem?_toArray, List.getElem?_cons_zero, List.getElem?_cons_succ] at x5
      obtain ⟨c0, c1, c2, c3, c4, c5, c6, c7⟩ := hF.node hnd0 hnb
      have HF6 := Lib.hid hF
      have HE1 := Lib.hid (show _ ∧ _ from ⟨hE1, hN1⟩)
      clear hF hfit hnd0 hkz hz hE1 hN1
      generalize z.lay mk i = r at *
      go_upto_region 20 with fail
      refine wp_region_held_drew (S := fun w' => ∀ b' o', b' = w.heap.size + 1 ∨ b' = b → w'.cell? ⟨b', o', none⟩ = wr.cell? ⟨b', o', none⟩) (by kernel_rfl) (key_drew w b wr) (fun hHeld => ?_)
      refine wpAnyH_take (i := 1) (oi := _) (v := ?_) rfl (by kernel_rfl) (by kernel_rfl) (by kernel_rfl) (fun _ _ _ h => h) (Or.inl ⟨by kernel_rfl, ?_⟩) (by assumption) ?_
      rotate_left
      · intro w hSw
        try dsimp only at hSw
        go_simp
        try (with_reducible rfl)
      try simp only [Act.put, List.getElem_toArray, List.getElem_cons_zero, List.getElem_cons_succ, List.setIfInBounds_toArray, List.set_cons_zero, List.set_cons_succ]
      refine wpAnyH_take (i := 2) (oi := _) (v := ?_) rfl (by kernel_rfl) (by kernel_rfl) (by kernel_rfl) (fun _ _ _ h => h) (Or.inl ⟨by kernel_rfl, ?_⟩) (by assumption) ?_
      rotate_left
      · intro w hSw
        try dsimp only at hSw
        go_simp
        try (with_reducible rfl)
      try simp only [Act.put, List.getElem_toArray, List.getElem_cons_zero, List.getElem_cons_succ, List.setIfInBounds_toArray, List.set_cons_zero, List.set_cons_succ]
      refine wpAnyH_take (i := 3) (oi := _) (v := ?_) rfl (by kernel_rfl) (by kernel_rfl) (by kernel_rfl) (fun _ _ _ h => h) (Or.inl ⟨by kernel_rfl, ?_⟩) (by assumption) ?_
      rotate_left
      · intro w hSw
        try dsimp only at hSw
        go_simp
        try (with_reducible rfl)
      try simp only [Act.put, List.getElem_toArray, List.getElem_cons_zero, List.getElem_cons_succ, List.setIfInBounds_toArray, List.set_cons_zero, List.set_cons_succ]
      refine wpAnyH_take (i := 4) (oi := _) (v := ?_) rfl (by kernel_rfl) (by kernel_rfl) (by kernel_rfl) (fun _ _ _ h => h) (Or.inl ⟨by kernel_rfl, ?_⟩) (by assumption) ?_
      rotate_left
      · intro w hSw
        try dsimp only at hSw
        go_simp
        try (with_reducible rfl)
      try simp only [Act.put, List.getElem_toArray, List.getElem_cons_zero, List.getElem_cons_succ, List.setIfInBounds_toArray, List.set_cons_zero, List.set_cons_succ]
      refine wpAnyH_take (i := 5) (oi := _) (v := ?_) rfl (by kernel_rfl) (by kernel_rfl) (by kernel_rfl) (fun _ _ _ h => h) (Or.inl ⟨by kernel_rfl, ?_⟩) (by assumption) ?_
      rotate_left
      · intro w hSw
        try dsimp only at hSw
        go_simp
        try (with_reducible rfl)
      try simp only [Act.put, List.getElem_toArray, List.getElem_cons_zero, List.getElem_cons_succ, List.setIfInBounds_toArray, List.set_cons_zero, List.set_cons_succ]
      refine wpAnyH_take (i := 6) (oi := _) (v := ?_) rfl (by kernel_rfl) (by kernel_rfl) (by kernel_rfl) (fun _ _ _ h => h) (Or.inl ⟨by kernel_rfl, ?_⟩) (by assumption) ?_
      rotate_left
      · intro w hSw
        try dsimp only at hSw
        go_simp
        try (with_reducible rfl)
      try simp only [Act.put, List.getElem_toArray, List.getElem_cons_zero, List.getElem_cons_succ, List.setIfInBounds_toArray, List.set_cons_zero, List.set_cons_succ]
      refine wpAnyH_ready (rs := [0]) (by kernel_rfl) (by simp) ?_
      refine AllReadyH.cons (o := _) rfl (fun K hK => ?_) AllReadyH.nil
      go_simp
      refine hK.out _ _ (by assumption) (fun _ => ?_)
      clear hK K
      try simp only [Act.put, List.getElem_toArray, List.getElem_cons_zero, List.getElem_cons_succ, List.setIfInBounds_toArray, List.set_cons_zero, List.set_cons_succ]
      refine wpAnyH_ready (rs := [7]) (by kernel_rfl) (by simp) ?_
      refine AllReadyH.cons (o := _) rfl (fun K hK => ?_) AllReadyH.nil
      go_simp
      go_at_call 23
      refine HI.out.mono ?_
      rintro e w7 ⟨D1, p1, D2, p2, D3, p3, rfl, S7, hM, hV⟩
      have HKEY := Lib.hid (HF6.out.key hbw hnb hV)
      have hF7 := HF6.out.drew.go hM hV
      have hE7 := ownsRow_block HE1.out.1 (fun k hk => hV.kept k (HE1.out.1.lt k hk).2 (HE1.out.2 k hk))
      have hN7 : ∀ b, (Value.slice Av k capv).ownBlock = some b → ¬ S7 b := fun b hb => hV.notIn (HE1.out.1.lt b hb).2 (HE1.out.2 b hb)
      clear n0 n1 n2 n3 n4 f0 f1 f2 f3 f4 hln
      have n0 := (hF7).n.cell 0
      have n1 := (hF7).n.cell 1
      have n2 := (hF7).n.cell 2
      have n3 := (hF7).n.cell 3
      have n4 := (hF7).n.cell 4
      have f0 := (hF7).n.frozen 0
      have f1 := (hF7).n.frozen 1
      have f2 := (hF7).n.frozen 2
      have f3 := (hF7).n.frozen 3
      have f4 := (hF7).n.frozen 4
      have hln := (hF7).n.lt
      simp only [List.getElem?_toArray, List.getElem?_cons_zero, List.getElem?_cons_succ] at n0 n1 n2 n3 n4
      have HF7 := Lib.hid hF7
      have HE7 := Lib.hid (show _ ∧ _ from ⟨hE7, hN7⟩)
      clear hF7 hM hV HI c0 c1 c2 c3 c4 c5 c6 c7 x5 hE7 hN7 HE1
      unfold mvA
      dsimp only
      refine hK.out _ _ HKEY.out (fun _ => ?_)
      clear hK K hHeld
      try simp only [Act.put, List.getElem_toArray, List.getElem_cons_zero, List.getElem_cons_succ, List.setIfInBounds_toArray, List.set_cons_zero, List.set_cons_succ]
      refine wpAnyH_take (i := 8) (oi := _) (v := ?_) rfl (by kernel_rfl) (by kernel_rfl) (by kernel_rfl) (fun _ _ _ h => h) (Or.inl ⟨by kernel_rfl, ?_⟩) (by assumption) ?_
      rotate_left
      · intro w hSw
        try dsimp only at hSw
        go_simp
        try (with_reducible rfl)
      try simp only [Act.put, List.getElem_toArray, List.getElem_cons_zero, List.getElem_cons_succ, List.setIfInBounds_toArray, List.set_cons_zero, List.set_cons_succ]
      refine wpAnyH_take (i := 9) (oi := _) (v := ?_) rfl (by kernel_rfl) (by kernel_rfl) (by kernel_rfl) (fun _ _ _ h => h) (Or.inl ⟨by kernel_rfl, ?_⟩) (by assumption) ?_
      rotate_left
      · intro w hSw
        try dsimp only at hSw
        go_simp
        try (with_reducible rfl)
      try simp only [Act.put, List.getElem_toArray, List.getElem_cons_zero, List.getElem_cons_succ, List.setIfInBounds_toArray, List.set_cons_zero, List.set_cons_succ]
      refine wpAnyH_take (i := 10) (oi := _) (v := ?_) rfl (by kernel_rfl) (by kernel_rfl) (by kernel_rfl) (fun _ _ _ h => h) (Or.inl ⟨by kernel_rfl, ?_⟩) (by assumption) ?_
      rotate_left
      · intro w hSw
        try dsimp only at hSw
        go_simp
        try (with_reducible rfl)
      try simp only [Act.put, List.getElem_toArray, List.getElem_cons_zero, List.getElem_cons_succ, List.setIfInBounds_toArray, List.set_cons_zero, List.set_cons_succ]
      refine wpAnyH_ready (rs := [11]) (by kernel_rfl) (by simp) ?_
      refine AllReadyH.cons (o := _) rfl (fun K hK => ?_) AllReadyH.nil
      go_simp
      refine hK.out _ _ (HKEY.out.store hbw _ _ _ _ _) (fun _ => ?_)
      clear hK K HKEY HF6
      try simp only [Act.put, List.getElem_toArray, List.getElem_cons_zero, List.getElem_cons_succ, List.setIfInBounds_toArray, List.set_cons_zero, List.set_cons_succ]
      refine wpAnyH_take (i := 12) (oi := _) (v := ?_) rfl (by kernel_rfl) (by kernel_rfl) (by kernel_rfl) (fun _ _ _ h => h) (Or.inl ⟨by kernel_rfl, ?_⟩) (by assumption) ?_
      rotate_left
      · intro w hSw
        try dsimp only at hSw
        go_simp
        try (with_reducible rfl)
      try simp only [Act.put, List.getElem_toArray, List.getElem_cons_zero, List.getElem_cons_succ, List.setIfInBounds_toArray, List.set_cons_zero, List.set_cons_succ]
      refine wpAnyH_done (by kernel_rfl) ?_ _
      go_upto_region 21 with fail
      clear n0 n1 n2 n3 n4 f0 f1 f2 f3 f4 hln
      have hF8 := HF7.out.store (.int .i64 (r.1.states : Int)) (.int .i64 0) (.slice D1 r.1.links.length p1) (.slice D2 r.1.edges.length p2) (.slice D3 r.1.accept.length p3)
      have hE8 := ownsRow_block (W' := (((((w7.setCell ⟨w.heap.size, 0, none⟩ (.int .i64 (r.1.states : Int))).setCell ⟨w.heap.size, 1, none⟩ (.int .i64 0)).setCell ⟨w.heap.size, 2, none⟩ (.slice D1 r.1.links.length p1)).setCell ⟨w.heap.size, 3, none⟩ (.slice D2 r.1.edges.length p2)).setCell ⟨w.heap.size, 4, none⟩ (.slice D3 r.1.accept.length p3))) HE7.out.1 (fun k hk => heap_set5N (by have := (HE7.out.1.lt k hk).1; omega) _ _ _ _ _)
      generalize (((((w7.setCell ⟨w.heap.size, 0, none⟩ (.int .i64 (r.1.states : Int))).setCell ⟨w.heap.size, 1, none⟩ (.int .i64 0)).setCell ⟨w.heap.size, 2, none⟩ (.slice D1 r.1.links.length p1)).setCell ⟨w.heap.size, 3, none⟩ (.slice D2 r.1.edges.length p2)).setCell ⟨w.heap.size, 4, none⟩ (.slice D3 r.1.accept.length p3)) = W8 at *
      rw [HLEN.out] at hE8
      have HE8 := Lib.hid hE8
      have HN8 := Lib.hid HE7.out.2
      have HF8 := Lib.hid hF8
      have hw8 : w.heap.size + 3 ≤ W8.heap.size := by have := hF8.z.lt; omega
      have h63 : k + 1 ≤ maxLen := Nat.le_trans (by omega) (show 2000000000000 ≤ maxLen by decide)
      have hby : (k + 1) * 8 ≤ 140737488355328 := by omega
      clear hE8 hF8 HE7 HF7 hlx
      go_wp2_with (at_builtin; refine wpList_append_lies _ rfl _ _ 34 rfl (w.heap.size + 3) 3 i0 _ 1 8 Tryz.underlying34 hi hz0 hz1 hz2 rfl (by decide) (.slice Av k capv) k (accCells es) rfl (HE8.out.alloc _) ⟨W8.heap.size, 0, none⟩ 1 1 (accCell r.2) rfl rfl (World.news_of_block (cs := #[.int .i64 ((r.2 : Nat) : Int)]) (t := 3) (fr := (0, 0)) (heap_alloc_new W8 _)) (by simp [accCell, Value.oneCell']) (by decide) h63 hby (by simp; omega) (W8.heap.size + 1) (by simp) ?_; intro gg cap' w4 hown4 hgrow hat hlt1; have Hgrow := Lib.hid hgrow; have Hown4 := Lib.hid hown4; have Hat := Lib.hid hat; clear hgrow hown4 hat)
      go_roundw
      case rel =>
        refine ⟨k + 1, _, _, _, rfl, by go_num, rfl, by omega, Lib.hid ?_⟩
        rw [HS.out]
        refine ⟨S7, D1, p1, D2, p2, D3, p3, HF8.out.grown Hgrow.out (fun b hb => ⟨(HE8.out.lt b hb).1, HN8.out b hb⟩), ?_, ?_⟩
        · rw [accCells_snoc, List.length_append, HLEN.out]
          exact Hown4.out
        · intro b hb hS
          obtain rfl : gg = b := by simpa [Value.ownBlock] using hb
          rcases Hat.out with h | h
          · exact HN8.out _ h hS
          · have := HF8.out.mv.lt _ hS; omega
      case measure => simp [intOf]; omega
    · obtain rfl : k = x.kids.len := by omega
      have hdl : ¬ ((x.kids.len : Int) < (x.kids.len : Int)) := by omega
      have hV : x.kids.lays.take x.kids.len = x.kids.lays := by rw [← lays_len, List.take_length]
      rw [hV] at HM
      have HBAR := Lib.hid (show barF x.kids.lays m i = (linksF (altF x.kids.lays m i).1.states (altF x.kids.lays m i).2 ((altF x.kids.lays m i).1.state 0), (altF x.kids.lays m i).1.states) from rfl)
      obtain ⟨S1, C1, l1, C2, l2, C3, l3, hF, hE1, hN1⟩ := HM.out
      rw [HEL.out] at hE1
      generalize (altF x.kids.lays m i).1 = m1 at *
      generalize (altF x.kids.lays m i).2 = es at *
      have HC := Lib.hid (rstate_go base S1 m1 C1 l1 C2 l2 C3 l3 0 wr hF.mv hF.size HFIT.out.1.1)
      unfold mvA at HC hF
      have n0 := (hF).n.cell 0
      have n1 := (hF).n.cell 1
      have n2 := (hF).n.cell 2
      have n3 := (hF).n.cell 3
      have n4 := (hF).n.cell 4
      have f0 := (hF).n.frozen 0
      have f1 := (hF).n.frozen 1
      have f2 := (hF).n.frozen 2
      have f3 := (hF).n.frozen 3
      have f4 := (hF).n.frozen 4
      have hln := (hF).n.lt
      simp only [List.getElem?_toArray, List.getElem?_cons_zero, List.getElem?_cons_succ] at n0 n1 n2 n3 n4
      have x5 := hF.x.cell 5
      have hlx := hF.x.lt
      simp only [List.getElem?_toArray, List.getElem?_cons_zero, List.getElem?_cons_succ] at x5
      have HF6 := Lib.hid hF
      have HE1 := Lib.hid (show _ ∧ _ from ⟨hE1, hN1⟩)
      clear hF HM hV hE1 hN1
      go_wp2_with fail
      refine HC.out.mono ?_
      rintro e w7 ⟨D1, p1, D2, p2, D3, p3, rfl, S7, hM, hV⟩
      have hF7 := HF6.out.go hM hV
      have hE7 := ownsRow_block HE1.out.1 (fun k hk => hV.kept k (HE1.out.1.lt k hk).2 (HE1.out.2 k hk))
      have hN7 : ∀ b, (Value.slice Av x.kids.len capv).ownBlock = some b → ¬ S7 b := fun b hb => hV.notIn (HE1.out.1.lt b hb).2 (HE1.out.2 b hb)
      clear n0 n1 n2 n3 n4 f0 f1 f2 f3 f4 hln
      have n0 := (hF7).n.cell 0
      have n1 := (hF7).n.cell 1
      have n2 := (hF7).n.cell 2
      have n3 := (hF7).n.cell 3
      have n4 := (hF7).n.cell 4
      have f0 := (hF7).n.frozen 0
      have f1 := (hF7).n.frozen 1
      have f2 := (hF7).n.frozen 2
      have f3 := (hF7).n.frozen 3
      have f4 := (hF7).n.frozen 4
      have hln := (hF7).n.lt
      simp only [List.getElem?_toArray, List.getElem?_cons_zero, List.getElem?_cons_succ] at n0 n1 n2 n3 n4
      have HF7 := Lib.hid hF7
      have HE7 := Lib.hid (show _ ∧ _ from ⟨hE7, hN7⟩)
      clear hF7 hM hV HC x5 hE7 hN7 HE1 HF6
      unfold mvA
      dsimp only
      go_upto_region 24 with fail
      clear n0 n1 n2 n3 n4 f0 f1 f2 f3 f4 hln
      have hF8 := HF7.out.store (.int .i64 ((m1.state 0).states : Int)) (.int .i64 0) (.slice D1 (m1.state 0).links.length p1) (.slice D2 (m1.state 0).edges.length p2) (.slice D3 (m1.state 0).accept.length p3)
      have hE8 := ownsRow_block (W' := (((((w7.setCell ⟨w.heap.size, 0, none⟩ (.int .i64 ((m1.state 0).states : Int))).setCell ⟨w.heap.size, 1, none⟩ (.int .i64 0)).setCell ⟨w.heap.size, 2, none⟩ (.slice D1 (m1.state 0).links.length p1)).setCell ⟨w.heap.size, 3, none⟩ (.slice D2 (m1.state 0).edges.length p2)).setCell ⟨w.heap.size, 4, none⟩ (.slice D3 (m1.state 0).accept.length p3))) HE7.out.1 (fun k hk => heap_set5N (by have := (HE7.out.1.lt k hk).1; omega) _ _ _ _ _)
      generalize (((((w7.setCell ⟨w.heap.size, 0, none⟩ (.int .i64 ((m1.state 0).states : Int))).setCell ⟨w.heap.size, 1, none⟩ (.int .i64 0)).setCell ⟨w.heap.size, 2, none⟩ (.slice D1 (m1.state 0).links.length p1)).setCell ⟨w.heap.size, 3, none⟩ (.slice D2 (m1.state 0).edges.length p2)).setCell ⟨w.heap.size, 4, none⟩ (.slice D3 (m1.state 0).accept.length p3)) = W8 at *
      have HR0 := Lib.hid (show FrX w base S #[.int .i64 5, .int .u64 ((word (x.set.testBit) 0 : Nat) : Int), .int .u64 ((word (x.set.testBit) 1 : Nat) : Int), .int .u64 ((word (x.set.testBit) 2 : Nat) : Int), .int .u64 ((word (x.set.testBit) 3 : Nat) : Int), .slice (B) x.kids.len cap, .int .i64 x.lo, .int .i64 x.hi] (m1.state 0) (.slice Av x.kids.len capv) x.kids.len es W8 from ⟨S7, D1, p1, D2, p2, D3, p3, hF8, hE8, HE7.out.2⟩)
      clear hF8 hE8 HE7 HF7 hlx
      go_wp2
      go_loopw [13] (fun i' wr => ∃ k : Nat, i' = .int .i64 (k : Int) ∧ k ≤ x.kids.len ∧ Hid (FrX w base S #[.int .i64 5, .int .u64 ((word (x.set.testBit) 0 : Nat) : Int), .int .u64 ((word (x.set.testBit) 1 : Nat) : Int), .int .u64 ((word (x.set.testBit) 2 : Nat) : Int), .int .u64 ((word (x.set.testBit) 3 : Nat) : Int), .slice (B) x.kids.len cap, .int .i64 x.lo, .int .i64 x.hi] (linksF m1.states (es.take k) (m1.state 0)) (.slice Av x.kids.len capv) x.kids.len es wr)) (fun i' _ => x.kids.len - (intOf i').toNat)
      case atStart => exact ⟨0, rfl, Nat.zero_le _, HR0⟩
      case round =>
        clear HR0
        obtain ⟨k, rfl, hk, HR⟩ := hrel
        by_cases hlt : k < x.kids.len
        · obtain ⟨a, ha⟩ : ∃ a, es[k]? = some a := ⟨_, List.getElem?_eq_getElem (by rw [HEL.out]; exact hlt)⟩
          obtain ⟨S2, E1, q1, E2, q2, E3, q3, hF, hE1, hN1⟩ := HR.out
          obtain ⟨b, capb, hv, _, hbl⟩ := own_form hE1 (by omega)
          have hce := hE1.cells (g := b) (by rw [hv]; rfl) k _ (accCells_get es k a ha)
          cases hv
          rw [addr_plusE] at hce
          have hdl : (k : Int) < (x.kids.len : Int) := by omega
          have HTS := Lib.hid (take_snocF ha)
          have hfl := HFIT.out.2.2.of (linksF_part m1.states es k (m1.state 0))
          generalize hMM : linksF m1.states (es.take k) (m1.state 0) = mk at *
          have HMM := Lib.hid hMM
          have HC := Lib.hid (rlink_go base S2 mk E1 q1 E2 q2 E3 q3 a m1.states wr.drew hF.drew.mv hF.drew.size hfl.2.1)
          unfold mvA at HC hF
          have n0 := (hF).n.cell 0
          have n1 := (hF).n.cell 1
          have n2 := (hF).n.cell 2
          have n3 := (hF).n.cell 3
          have n4 := (hF).n.cell 4
          have f0 := (hF).n.frozen 0
          have f1 := (hF).n.frozen 1
          have f2 := (hF).n.frozen 2
          have f3 := (hF).n.frozen 3
          have f4 := (hF).n.frozen 4
          have hln := (hF).n.lt
          simp only [List.getElem?_toArray, List.getElem?_cons_zero, List.getElem?_cons_succ] at n0 n1 n2 n3 n4
          have HF6 := Lib.hid hF
          have HE1 := Lib.hid (show _ ∧ _ from ⟨hE1, hN1⟩)
          have hge : w.heap.size + 3 ≤ b := (hE1.lt b rfl).1
          clear ha hF hE1 hN1 hfl HR hMM
          go_upto_region 27 with fail
          refine wp_region_held_drew (S := fun w' => ∀ o', w'.cell? ⟨b, o', none⟩ = wr.cell? ⟨b, o', none⟩) (by kernel_rfl) (fun _ => rfl) (fun hHeld => ?_)
          refine wpAnyH_take (i := 1) (oi := _) (v := ?_) rfl (by kernel_rfl) (by kernel_rfl) (by kernel_rfl) (fun _ _ _ h => h) (Or.inl ⟨by kernel_rfl, ?_⟩) (by assumption) ?_
          rotate_left
          · intro w hSw
            try dsimp only at hSw
            go_simp
            try (with_reducible rfl)
          try simp only [Act.put, List.getElem_toArray, List.getElem_cons_zero, List.getElem_cons_succ, List.setIfInBounds_toArray, List.set_cons_zero, List.set_cons_succ]
          refine wpAnyH_take (i := 2) (oi := _) (v := ?_) rfl (by kernel_rfl) (by kernel_rfl) (by kernel_rfl) (fun _ _ _ h => h) (Or.inl ⟨by kernel_rfl, ?_⟩) (by assumption) ?_
          rotate_left
          · intro w hSw
            try dsimp only at hSw
            go_simp
            try (with_reducible rfl)
          try simp only [Act.put, List.getElem_toArray, List.getElem_cons_zero, List.getElem_cons_succ, List.setIfInBounds_toArray, List.set_cons_zero, List.set_cons_succ]
          refine wpAnyH_take (i := 3) (oi := _) (v := ?_) rfl (by kernel_rfl) (by kernel_rfl) (by kernel_rfl) (fun _ _ _ h => h) (Or.inl ⟨by kernel_rfl, ?_⟩) (by assumption) ?_
          rotate_left
          · intro w hSw
            try dsimp only at hSw
            go_simp
            try (with_reducible rfl)
          try simp only [Act.put, List.getElem_toArray, List.getElem_cons_zero, List.getElem_cons_succ, List.setIfInBounds_toArray, List.set_cons_zero, List.set_cons_succ]
          refine wpAnyH_take (i := 4) (oi := _) (v := ?_) rfl (by kernel_rfl) (by kernel_rfl) (by kernel_rfl) (fun _ _ _ h => h) (Or.inl ⟨by kernel_rfl, ?_⟩) (by assumption) ?_
          rotate_left
          · intro w hSw
            try dsimp only at hSw
            go_simp
            try (with_reducible rfl)
          try simp only [Act.put, List.getElem_toArray, List.getElem_cons_zero, List.getElem_cons_succ, List.setIfInBounds_toArray, List.set_cons_zero, List.set_cons_succ]
          refine wpAnyH_take (i := 5) (oi := _) (v := ?_) rfl (by kernel_rfl) (by kernel_rfl) (by kernel_rfl) (fun _ _ _ h => h) (Or.inl ⟨by kernel_rfl, ?_⟩) (by assumption) ?_
          rotate_left
          · intro w hSw
            try dsimp only at hSw
            go_simp
            try (with_reducible rfl)
          try simp only [Act.put, List.getElem_toArray, List.getElem_cons_zero, List.getElem_cons_succ, List.setIfInBounds_toArray, List.set_cons_zero, List.set_cons_succ]
          refine wpAnyH_ready (rs := [0]) (by kernel_rfl) (by simp) ?_
          refine AllReadyH.cons (o := _) rfl (fun K hK => ?_) AllReadyH.nil
          go_simp
          refine hK.out _ _ (by assumption) (fun _ => ?_)
          clear hK K
          try simp only [Act.put, List.getElem_toArray, List.getElem_cons_zero, List.getElem_cons_succ, List.setIfInBounds_toArray, List.set_cons_zero, List.set_cons_succ]
          refine wpAnyH_ready (rs := [6]) (by kernel_rfl) (by simp) ?_
          refine AllReadyH.cons (o := _) rfl (fun K hK => ?_) AllReadyH.nil
          go_simp
          go_at_call 24
          refine HC.out.mono ?_
          rintro e w5 ⟨G1, u1, G2, u2, G3, u3, rfl, S5, hM, hV⟩
          have HKEY := Lib.hid (show ∀ o', w5.cell? ⟨b, o', none⟩ = wr.cell? ⟨b, o', none⟩ from fun o' => cell_block (hV.kept b (HE1.out.1.lt b rfl).2 (HE1.out.2 b rfl)))
          have hF5 := HF6.out.drew.go hM hV
          have hE5 := ownsRow_block HE1.out.1 (fun k hk => hV.kept k (HE1.out.1.lt k hk).2 (HE1.out.2 k hk))
          have hN5 : ∀ b', (Value.slice (some ⟨b, 0, none⟩) x.kids.len capv).ownBlock = some b' → ¬ S5 b' := fun b hb => hV.notIn (HE1.out.1.lt b hb).2 (HE1.out.2 b hb)
          clear n0 n1 n2 n3 n4 f0 f1 f2 f3 f4 hln
          have n0 := (hF5).n.cell 0
          have n1 := (hF5).n.cell 1
          have n2 := (hF5).n.cell 2
          have n3 := (hF5).n.cell 3
          have n4 := (hF5).n.cell 4
          have f0 := (hF5).n.frozen 0
          have f1 := (hF5).n.frozen 1
          have f2 := (hF5).n.frozen 2
          have f3 := (hF5).n.frozen 3
          have f4 := (hF5).n.frozen 4
          have hln := (hF5).n.lt
          simp only [List.getElem?_toArray, List.getElem?_cons_zero, List.getElem?_cons_succ] at n0 n1 n2 n3 n4
          have HF5 := Lib.hid hF5
          have HE5 := Lib.hid (show _ ∧ _ from ⟨hE5, hN5⟩)
          clear hF5 hM hV HC hE5 hN5 HE1 HF6 hce
          unfold mvA
          dsimp only
          refine hK.out _ _ HKEY.out (fun _ => ?_)
          clear hK K hHeld
          try simp only [Act.put, List.getElem_toArray, List.getElem_cons_zero, List.getElem_cons_succ, List.setIfInBounds_toArray, List.set_cons_zero, List.set_cons_succ]
          refine wpAnyH_ready (rs := [7]) (by kernel_rfl) (by simp) ?_
          refine AllReadyH.cons (o := _) rfl (fun K hK => ?_) AllReadyH.nil
          go_simp
          refine hK.out _ _ (fun o' => (cell_block (heap_set5N (show b ≠ w.heap.size by omega) _ _ _ _ _)).trans (HKEY.out o')) (fun _ => ?_)
          clear hK K HKEY
          try simp only [Act.put, List.getElem_toArray, List.getElem_cons_zero, List.getElem_cons_succ, List.setIfInBounds_toArray, List.set_cons_zero, List.set_cons_succ]
          refine wpAnyH_done (by kernel_rfl) ?_ _
          go_wp2
          go_roundw
          case rel =>
            refine ⟨k + 1, by go_num, by omega, Lib.hid ?_⟩
            rw [HTS.out, linksF_snoc, HMM.out]
            exact ⟨S5, G1, u1, G2, u2, G3, u3, HF5.out.store (.int .i64 ((mk.link a m1.states).states : Int)) (.int .i64 0) (.slice G1 (mk.link a m1.states).links.length u1) (.slice G2 (mk.link a m1.states).edges.length u2) (.slice G3 (mk.link a m1.states).accept.length u3), ownsRow_block HE5.out.1 (fun k hk => heap_set5N (by have := (HE5.out.1.lt k hk).1; omega) _ _ _ _ _), HE5.out.2⟩
          case measure => simp [intOf]; omega
        · obtain rfl : k = x.kids.len := by omega
          have hdl : ¬ ((x.kids.len : Int) < (x.kids.len : Int)) := by omega
          have hV : es.take x.kids.len = es := by rw [← HEL.out, List.take_length]
          rw [hV] at HR
          clear hV
          obtain ⟨S2, E1, q1, E2, q2, E3, q3, hF, _, _⟩ := HR.out
          generalize linksF m1.states es (m1.state 0) = mk at *
          unfold mvA at hF
          have n0 := (hF).n.cell 0
          have n1 := (hF).n.cell 1
          have n2 := (hF).n.cell 2
          have n3 := (hF).n.cell 3
          have n4 := (hF).n.cell 4
          have f0 := (hF).n.frozen 0
          have f1 := (hF).n.frozen 1
          have f2 := (hF).n.frozen 2
          have f3 := (hF).n.frozen 3
          have f4 := (hF).n.frozen 4
          have hln := (hF).n.lt
          simp only [List.getElem?_toArray, List.getElem?_cons_zero, List.getElem?_cons_succ] at n0 n1 n2 n3 n4
          have z0 := (hF).z.cell 0
          have z1 := (hF).z.cell 1
          have z2 := (hF).z.cell 2
          have z3 := (hF).z.cell 3
          have z4 := (hF).z.cell 4
          have g0 := (hF).z.frozen 0
          have g1 := (hF).z.frozen 1
          have g2 := (hF).z.frozen 2
          have g3 := (hF).z.frozen 3
          have g4 := (hF).z.frozen 4
          have hlz := (hF).z.lt
          simp only [List.getElem?_toArray, List.getElem?_cons_zero, List.getElem?_cons_succ] at z0 z1 z2 z3 z4
          have x5 := hF.x.cell 5
          have hlx := hF.x.lt
          simp only [List.getElem?_toArray, List.getElem?_cons_zero, List.getElem?_cons_succ] at x5
          have HF6 := Lib.hid hF
          clear hF HR
          go_wp2
          go_light
          rw [HBAR.out]
          have hG := HF6.out.give (.int .i64 (mk.states : Int)) (.int .i64 0) (.slice E1 mk.links.length q1) (.slice E2 mk.edges.length q2) (.slice E3 mk.accept.length q3)
          exact bodyPost_ret (ret_nfa Tryz.results23 rfl rfl hG.1) rfl ⟨E1, q1, E2, q2, E3, q3, rfl, S2, hG.2.1, hG.2.2⟩
end Go.Proofs.YtchfipjclbpomaaGreat
