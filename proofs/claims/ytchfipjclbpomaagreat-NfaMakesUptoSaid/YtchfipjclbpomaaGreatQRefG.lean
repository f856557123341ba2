/-
  The contract of the reference's lay, at any tree that may be.
-/
import Derived.Test.YtchfipjclbpomaaGreatQRefQ
import Derived.Test.YtchfipjclbpomaaGreatQRefU
import Derived.Test.YtchfipjclbpomaaGreatQNfaG
namespace Go.Proofs.YtchfipjclbpomaaGreat
open Go.RowKit
set_option linter.unusedSimpArgs false
set_option linter.unusedVariables false
set_option maxRecDepth 100000

set_option maxHeartbeats 4000000 in
theorem rlay9 (x : Nd) (hk : x.kind = 9) (B : Option Addr) (cap i base : Nat) (S : Nat → Prop) (m : MachS) (A1 : Option Addr) (k1 : Nat) (A2 : Option Addr) (k2 : Nat) (A3 : Option Addr) (k3 : Nat) (w : World) (h : MvAt w base S m A1 k1 A2 k2 A3 k3) (hb : base ≤ w.heap.size) (R : MachS × Nat)
    (HC : Hid (Calls Tryz.prog 44 #[.agg (mvA m A1 k1 A2 k2 A3 k3), ndV x B cap, .int .i64 (i : Int)] (((w.alloc (.cells #[.int .i64 (m.states : Int), .int .i64 0, .slice A1 m.links.length k1, .slice A2 m.edges.length k2, .slice A3 m.accept.length k3] 36)).alloc (.cells #[.int .i64 9, .int .u64 ((word (x.set.testBit) 0 : Nat) : Int), .int .u64 ((word (x.set.testBit) 1 : Nat) : Int), .int .u64 ((word (x.set.testBit) 2 : Nat) : Int), .int .u64 ((word (x.set.testBit) 3 : Nat) : Int), .slice (B) x.kids.len cap, .int .i64 x.lo, .int .i64 x.hi] 29)).alloc (.cells #[.int .i64 0, .int .i64 0, .slice none 0 0, .slice none 0 0, .slice none 0 0] 36)) (RLayOut base S (((w.alloc (.cells #[.int .i64 (m.states : Int), .int .i64 0, .slice A1 m.links.length k1, .slice A2 m.edges.length k2, .slice A3 m.accept.length k3] 36)).alloc (.cells #[.int .i64 9, .int .u64 ((word (x.set.testBit) 0 : Nat) : Int), .int .u64 ((word (x.set.testBit) 1 : Nat) : Int), .int .u64 ((word (x.set.testBit) 2 : Nat) : Int), .int .u64 ((word (x.set.testBit) 3 : Nat) : Int), .slice (B) x.kids.len cap, .int .i64 x.lo, .int .i64 x.hi] 29)).alloc (.cells #[.int .i64 0, .int .i64 0, .slice none 0 0, .slice none 0 0, .slice none 0 0] 36)) R))) :
    Calls Tryz.prog 23 #[.agg (mvA m A1 k1 A2 k2 A3 k3), ndV x B cap, .int .i64 (i : Int)] w (RLayOut base S w R) := by
  have hF3 : Fr w base S #[.int .i64 9, .int .u64 ((word (x.set.testBit) 0 : Nat) : Int), .int .u64 ((word (x.set.testBit) 1 : Nat) : Int), .int .u64 ((word (x.set.testBit) 2 : Nat) : Int), .int .u64 ((word (x.set.testBit) 3 : Nat) : Int), .slice (B) x.kids.len cap, .int .i64 x.lo, .int .i64 x.hi] S m A1 k1 A2 k2 A3 k3 #[.int .i64 (m.states : Int), .int .i64 0, .slice A1 m.links.length k1, .slice A2 m.edges.length k2, .slice A3 m.accept.length k3] (((w.alloc (.cells #[.int .i64 (m.states : Int), .int .i64 0, .slice A1 m.links.length k1, .slice A2 m.edges.length k2, .slice A3 m.accept.length k3] 36)).alloc (.cells #[.int .i64 9, .int .u64 ((word (x.set.testBit) 0 : Nat) : Int), .int .u64 ((word (x.set.testBit) 1 : Nat) : Int), .int .u64 ((word (x.set.testBit) 2 : Nat) : Int), .int .u64 ((word (x.set.testBit) 3 : Nat) : Int), .slice (B) x.kids.len cap, .int .i64 x.lo, .int .i64 x.hi] 29)).alloc (.cells #[.int .i64 0, .int .i64 0, .slice none 0 0, .slice none 0 0, .slice none 0 0] 36)) := Fr.start h hb #[.int .i64 (m.states : Int), .int .i64 0, .slice A1 m.links.length k1, .slice A2 m.edges.length k2, .slice A3 m.accept.length k3] #[.int .i64 9, .int .u64 ((word (x.set.testBit) 0 : Nat) : Int), .int .u64 ((word (x.set.testBit) 1 : Nat) : Int), .int .u64 ((word (x.set.testBit) 2 : Nat) : Int), .int .u64 ((word (x.set.testBit) 3 : Nat) : Int), .slice (B) x.kids.len cap, .int .i64 x.lo, .int .i64 x.hi]
  have HF := Lib.hid hF3
  clear hF3 h
  unfold mvA ndV at *
  rw [hk] at *
  clear hk
  go_enter Tryz.func23, Tryz.ntmps23
  go_wp2_with fail
  refine HC.out.mono ?_
  rintro e w7 ⟨D1, p1, D2, p2, D3, p3, rfl, S7, hM, hV⟩
  have hF7 := HF.out.go hM hV
  have z0 := (hF7).z.cell 0
  have z1 := (hF7).z.cell 1
  have z2 := (hF7).z.cell 2
  have z3 := (hF7).z.cell 3
  have z4 := (hF7).z.cell 4
  have g0 := (hF7).z.frozen 0
  have g1 := (hF7).z.frozen 1
  have g2 := (hF7).z.frozen 2
  have g3 := (hF7).z.frozen 3
  have g4 := (hF7).z.frozen 4
  have hlz := (hF7).z.lt
  simp only [List.getElem?_toArray, List.getElem?_cons_zero, List.getElem?_cons_succ] at z0 z1 z2 z3 z4
  have HF7 := Lib.hid hF7
  clear hF7 hM hV HC HF
  unfold mvA
  dsimp only
  go_wp2
  go_light
  have hG := HF7.out.give (.int .i64 (R.1.states : Int)) (.int .i64 0) (.slice D1 R.1.links.length p1) (.slice D2 R.1.edges.length p2) (.slice D3 R.1.accept.length p3)
  exact bodyPost_ret (ret_nfa Tryz.results23 rfl rfl hG.1) rfl ⟨D1, p1, D2, p2, D3, p3, rfl, S7, hG.2.1, hG.2.2⟩
theorem rlay_node (x : Nd) (hs : x.size ≤ 100000000) (ha : aloneN x = true) (hn : ∀ y ∈ x.kids.nodes, aloneN y = true) (hK : RKidsC x.kids) : RLayC x := by
  intro B cap i base S m A1 k1 A2 k2 A3 k3 w ht h hb hf
  obtain ⟨a1, a9, a0, ak1, ak9⟩ := aloneN_kids ha
  have hno := numsOk_of ha
  have hlen : x.kids.len ≤ 100000000 := by have := Trees.len_size x.kids; unfold Nd.size at hs; omega
  rcases (show x.kind = 1 ∨ x.kind = 2 ∨ x.kind = 3 ∨ x.kind = 4 ∨ x.kind = 5 ∨ x.kind = 6 ∨ x.kind = 7 ∨ x.kind = 8 ∨ x.kind = 9 by omega) with hk | hk | hk | hk | hk | hk | hk | hk | hk
  · have e : x.lay = nilF := by unfold Nd.lay layK; rw [hk]; rfl
    rw [e] at hf ⊢
    exact rlay_none x B cap i base S m A1 k1 A2 k2 A3 k3 w h hb hk hf
  · have e : x.lay = noF := by unfold Nd.lay layK; rw [hk]; rfl
    rw [e] at hf ⊢
    exact rlay_empty x B cap i base S m A1 k1 A2 k2 A3 k3 w h hb hk
  · have e : x.lay = setF x.set := by unfold Nd.lay layK; rw [hk]; rfl
    rw [e] at hf ⊢
    exact rlay_set x B cap i base S m A1 k1 A2 k2 A3 k3 w h hb hk hf
  · have e : x.lay = catF x.kids.lays := by unfold Nd.lay layK; rw [hk]; rfl
    rw [e] at hf ⊢
    exact rlay_cat x hK B cap i base S m A1 k1 A2 k2 A3 k3 w ht h hb hk hf (by omega)
  · have e : x.lay = barF x.kids.lays := by unfold Nd.lay layK; rw [hk]; rfl
    rw [e] at hf ⊢
    exact rlay_alt x hK B cap i base S m A1 k1 A2 k2 A3 k3 w ht h hb hk hf (by omega)
  · obtain ⟨z, hz⟩ := one_kid (a1 (by omega) (by omega))
    have hd := Trees.lays_head (F := x.kids) (z := z) (by rw [hz]; rfl)
    have e : x.lay = loopF false z.lay := by unfold Nd.lay layK; rw [hk, hd]; rfl
    have hgr : GrowsF z.lay := hK.grows _ (by rw [Trees.lays_list, hz]; simp)
    rw [e] at hf ⊢
    exact rlay_star x z hz (hK.lay z (by rw [hz]; simp)) hgr B cap i base S m A1 k1 A2 k2 A3 k3 w ht h hb hk hf
  · obtain ⟨z, hz⟩ := one_kid (a1 (by omega) (by omega))
    have hd := Trees.lays_head (F := x.kids) (z := z) (by rw [hz]; rfl)
    have e : x.lay = loopF true z.lay := by unfold Nd.lay layK; rw [hk, hd]; rfl
    have hgr : GrowsF z.lay := hK.grows _ (by rw [Trees.lays_list, hz]; simp)
    rw [e] at hf ⊢
    exact rlay_plus x z hz (hK.lay z (by rw [hz]; simp)) hgr B cap i base S m A1 k1 A2 k2 A3 k3 w ht h hb hk hf
  · obtain ⟨z, hz⟩ := one_kid (a1 (by omega) (by omega))
    have hd := Trees.lays_head (F := x.kids) (z := z) (by rw [hz]; rfl)
    have e : x.lay = optF z.lay := by unfold Nd.lay layK; rw [hk, hd]; rfl
    have hgr : GrowsF z.lay := hK.grows _ (by rw [Trees.lays_list, hz]; simp)
    rw [e] at hf ⊢
    exact rlay_opt x z hz (hK.lay z (by rw [hz]; simp)) hgr B cap i base S m A1 k1 A2 k2 A3 k3 w ht h hb hk hf
  · obtain ⟨z, hz⟩ := one_kid (a1 (by omega) (by omega))
    have hd := Trees.lays_head (F := x.kids) (z := z) (by rw [hz]; rfl)
    have hw := Trees.headW_list (F := x.kids) (z := z) (by rw [hz]; rfl)
    have e : x.lay = repF z.wgt x.lo x.hi z.lay := by unfold Nd.lay layK; rw [hk, hd, hw]; rfl
    have hgr : GrowsF z.lay := hK.grows _ (by rw [Trees.lays_list, hz]; simp)
    have hzl := hK.lay z (by rw [hz]; simp)
    have hzs : z.size ≤ 140737488355328 := by
      have := Trees.size_get x.kids 0 z (by rw [hz]; rfl)
      unfold Nd.size at hs
      omega
    have hzn : ∀ y ∈ z.nodes, aloneN y = true := fun y hy => hn y (nodes_kid (i := 0) (by rw [hz]; rfl) y hy)
    obtain ⟨l0, l1, l2, l3⟩ := hno hk
    obtain ⟨_, hrel⟩ := a9 hk
    rw [e] at hf ⊢
    have hF3 : Fr w base S #[.int .i64 9, .int .u64 ((word (x.set.testBit) 0 : Nat) : Int), .int .u64 ((word (x.set.testBit) 1 : Nat) : Int), .int .u64 ((word (x.set.testBit) 2 : Nat) : Int), .int .u64 ((word (x.set.testBit) 3 : Nat) : Int), .slice (B) x.kids.len cap, .int .i64 x.lo, .int .i64 x.hi] S m A1 k1 A2 k2 A3 k3 #[.int .i64 (m.states : Int), .int .i64 0, .slice A1 m.links.length k1, .slice A2 m.edges.length k2, .slice A3 m.accept.length k3] (((w.alloc (.cells #[.int .i64 (m.states : Int), .int .i64 0, .slice A1 m.links.length k1, .slice A2 m.edges.length k2, .slice A3 m.accept.length k3] 36)).alloc (.cells #[.int .i64 9, .int .u64 ((word (x.set.testBit) 0 : Nat) : Int), .int .u64 ((word (x.set.testBit) 1 : Nat) : Int), .int .u64 ((word (x.set.testBit) 2 : Nat) : Int), .int .u64 ((word (x.set.testBit) 3 : Nat) : Int), .slice (B) x.kids.len cap, .int .i64 x.lo, .int .i64 x.hi] 29)).alloc (.cells #[.int .i64 0, .int .i64 0, .slice none 0 0, .slice none 0 0, .slice none 0 0] 36)) := Fr.start h hb #[.int .i64 (m.states : Int), .int .i64 0, .slice A1 m.links.length k1, .slice A2 m.edges.length k2, .slice A3 m.accept.length k3] #[.int .i64 9, .int .u64 ((word (x.set.testBit) 0 : Nat) : Int), .int .u64 ((word (x.set.testBit) 1 : Nat) : Int), .int .u64 ((word (x.set.testBit) 2 : Nat) : Int), .int .u64 ((word (x.set.testBit) 3 : Nat) : Int), .slice (B) x.kids.len cap, .int .i64 x.lo, .int .i64 x.hi]
    have ht1 := hF3.trees ht
    refine rlay9 x hk B cap i base S m A1 k1 A2 k2 A3 k3 w h hb _ (Lib.hid ?_)
    by_cases h0 : z.wgt = 0
    · exact rrep_zero x z hz hzl hgr hzs hzn hk B cap i base S m A1 k1 A2 k2 A3 k3 _ ht1 hF3.mv hF3.size h0
    by_cases hh : x.hi < 0
    · exact rrep_star x z hz hzl hgr hzs hzn hk B cap i base S m A1 k1 A2 k2 A3 k3 _ ht1 hF3.mv hF3.size h0 l0 l1 (by omega) hf
    by_cases hh2 : x.hi = x.lo
    · exact rrep_same x z hz hzl hgr hzs hzn hk B cap i base S m A1 k1 A2 k2 A3 k3 _ ht1 hF3.mv hF3.size h0 l0 l1 hh2 hf
    · exact rrep_up x z hz hzl hgr hzs hzn hk B cap i base S m A1 k1 A2 k2 A3 k3 _ ht1 hF3.mv hF3.size h0 l0 l1 (by omega) l3 hf
theorem rlay_all : ∀ (F : Trees), F.size ≤ 100000000 → Okays F → RKidsC F
  | .nil, _, _ => ⟨(fun z hz => by cases hz), (fun f hf => by cases hf)⟩
  | .cons k s ks lo hi r, hs, ho => by
    have hks : Okays ks := fun y hy => ho y (by simp [Trees.nodes, hy])
    have hr : Okays r := fun y hy => ho y (by simp [Trees.nodes, hy])
    have hs1 : ks.size ≤ 100000000 ∧ r.size ≤ 100000000 ∧ 1 + ks.size ≤ 100000000 := by simp only [Trees.size] at hs; omega
    have i1 := rlay_all ks hs1.1 hks
    have i2 := rlay_all r hs1.2.1 hr
    have hself : aloneN ⟨k, s, ks, lo, hi⟩ = true := ho _ (by simp [Trees.nodes])
    refine ⟨fun z hz => ?_, fun f hf => ?_⟩
    · rw [Trees.list] at hz
      rcases List.mem_cons.1 hz with rfl | hz
      · exact rlay_node ⟨k, s, ks, lo, hi⟩ hs1.2.2 hself hks i1
      · exact i2.lay z hz
    · rw [Trees.lays_list] at hf
      obtain ⟨z, hz, rfl⟩ := List.mem_map.1 hf
      exact (lay_adds _ ho z hz).grows
/-- Laying a tree that may be. -/
theorem rlay_right {x : Nd} (h : rightT x = true) : RLayC x := by
  have ho : Okays (Trees.of [x]) := fun y hy => by
    unfold rightT at h
    rw [Bool.and_eq_true] at h
    refine List.all_eq_true.1 h.2 y ?_
    simpa [Trees.of, Trees.nodes, Nd.nodes] using hy
  refine (rlay_all (Trees.of [x]) ?_ ho).lay x (by rw [Trees.list_of]; simp)
  have := rightT_size h
  unfold Nd.size at this
  simp only [Trees.of, Trees.size]
  omega
end Go.Proofs.YtchfipjclbpomaaGreat
