/-
  The contract of the reference's rep of chapter 16.
-/
import Derived.Test.YtchfipjclbpomaaGreatQRefA
import Derived.Test.YtchfipjclbpomaaGreatQRefO
import Derived.Test.YtchfipjclbpomaaGreatQNfaR
namespace Go.Proofs.YtchfipjclbpomaaGreat
open Go.RowKit
set_option linter.unusedSimpArgs false
set_option linter.unusedVariables false
set_option maxRecDepth 100000

set_option maxHeartbeats 4000000 in
theorem rrep_zero (x z : Nd) (hz : x.kids.list = [z]) (hlay : RLayC z) (hgr : GrowsF z.lay) (hzs : z.size ≤ 140737488355328) (hzn : ∀ y ∈ z.nodes, aloneN y = true) (hk : x.kind = 9) (B : Option Addr) (cap i base : Nat) (S : Nat → Prop) (m : MachS) (A1 : Option Addr) (k1 : Nat) (A2 : Option Addr) (k2 : Nat) (A3 : Option Addr) (k3 : Nat) (w : World) (ht : TreesAt w (fun b => ¬ S b) x.kids B) (h : MvAt w base S m A1 k1 A2 k2 A3 k3) (hb : base ≤ w.heap.size) (h0 : z.wgt = 0) : Calls Tryz.prog 44 #[.agg (mvA m A1 k1 A2 k2 A3 k3), ndV x B cap, .int .i64 (i : Int)] w (RLayOut base S w (repF z.wgt x.lo x.hi z.lay m i)) := by
  have HV := Lib.hid (show repF z.wgt x.lo x.hi z.lay m i = (m, i) by unfold repF; rw [if_pos h0])
  have hn1 : x.kids.len = 1 := one_len hz
  obtain ⟨b, o, C, capc, rfl, hnb, hnd0, hkz0⟩ := ht.sole hz
  have hbw : b < w.heap.size := World.block_lt_of_cell? w _ hnd0.1
  unfold mvA ndV
  rw [hn1, hk]
  have hF3 : Fr w base S #[.int .i64 9, .int .u64 ((word (x.set.testBit) 0 : Nat) : Int), .int .u64 ((word (x.set.testBit) 1 : Nat) : Int), .int .u64 ((word (x.set.testBit) 2 : Nat) : Int), .int .u64 ((word (x.set.testBit) 3 : Nat) : Int), .slice (some ⟨b, o, none⟩) 1 cap, .int .i64 x.lo, .int .i64 x.hi] S m A1 k1 A2 k2 A3 k3 #[.int .i64 (m.states : Int), .int .i64 0, .slice A1 m.links.length k1, .slice A2 m.edges.length k2, .slice A3 m.accept.length k3] (((w.alloc (.cells #[.int .i64 (m.states : Int), .int .i64 0, .slice A1 m.links.length k1, .slice A2 m.edges.length k2, .slice A3 m.accept.length k3] 36)).alloc (.cells #[.int .i64 9, .int .u64 ((word (x.set.testBit) 0 : Nat) : Int), .int .u64 ((word (x.set.testBit) 1 : Nat) : Int), .int .u64 ((word (x.set.testBit) 2 : Nat) : Int), .int .u64 ((word (x.set.testBit) 3 : Nat) : Int), .slice (some ⟨b, o, none⟩) 1 cap, .int .i64 x.lo, .int .i64 x.hi] 29)).alloc (.cells #[.int .i64 0, .int .i64 0, .slice none 0 0, .slice none 0 0, .slice none 0 0] 36)) := Fr.start h hb #[.int .i64 (m.states : Int), .int .i64 0, .slice A1 m.links.length k1, .slice A2 m.edges.length k2, .slice A3 m.accept.length k3] #[.int .i64 9, .int .u64 ((word (x.set.testBit) 0 : Nat) : Int), .int .u64 ((word (x.set.testBit) 1 : Nat) : Int), .int .u64 ((word (x.set.testBit) 2 : Nat) : Int), .int .u64 ((word (x.set.testBit) 3 : Nat) : Int), .slice (some ⟨b, o, none⟩) 1 cap, .int .i64 x.lo, .int .i64 x.hi]
  have HW := Lib.hid (rwgt_go z (fun b => ¬ S b) C capc (((w.alloc (.cells #[.int .i64 (m.states : Int), .int .i64 0, .slice A1 m.links.length k1, .slice A2 m.edges.length k2, .slice A3 m.accept.length k3] 36)).alloc (.cells #[.int .i64 9, .int .u64 ((word (x.set.testBit) 0 : Nat) : Int), .int .u64 ((word (x.set.testBit) 1 : Nat) : Int), .int .u64 ((word (x.set.testBit) 2 : Nat) : Int), .int .u64 ((word (x.set.testBit) 3 : Nat) : Int), .slice (some ⟨b, o, none⟩) 1 cap, .int .i64 x.lo, .int .i64 x.hi] 29)).alloc (.cells #[.int .i64 0, .int .i64 0, .slice none 0 0, .slice none 0 0, .slice none 0 0] 36)) hzs hzn (hF3.trees hkz0))
  unfold ndV at HW
  have HF := Lib.hid hF3
  have HT := Lib.hid hkz0
  have HTX := Lib.hid ht
  have HND := Lib.hid hnd0
  have HL := Lib.hid hlay
  have HGR := Lib.hid hgr
  have HZ := Lib.hid hz
  clear hF3 h hkz0 hnd0 ht hgr hlay hz hk hn1
  generalize z.wgt = n at *
  go_enter Tryz.func44, Tryz.ntmps44
  go_upto_region 1 with fail
  have hF3 := HF.out
  generalize (((w.alloc (.cells #[.int .i64 (m.states : Int), .int .i64 0, .slice A1 m.links.length k1, .slice A2 m.edges.length k2, .slice A3 m.accept.length k3] 36)).alloc (.cells #[.int .i64 9, .int .u64 ((word (x.set.testBit) 0 : Nat) : Int), .int .u64 ((word (x.set.testBit) 1 : Nat) : Int), .int .u64 ((word (x.set.testBit) 2 : Nat) : Int), .int .u64 ((word (x.set.testBit) 3 : Nat) : Int), .slice (some ⟨b, o, none⟩) 1 cap, .int .i64 x.lo, .int .i64 x.hi] 29)).alloc (.cells #[.int .i64 0, .int .i64 0, .slice none 0 0, .slice none 0 0, .slice none 0 0] 36)) = W3 at *
  have x5 := hF3.x.cell 5
  have hlx := hF3.x.lt
  simp only [List.getElem?_toArray, List.getElem?_cons_zero, List.getElem?_cons_succ] at x5
  obtain ⟨c0, c1, c2, c3, c4, c5, c6, c7⟩ := hF3.node HND.out hnb
  clear hF3
  go_wp2_with fail
  refine HW.out.mono ?_
  rintro e w4 ⟨rfl, hb4⟩
  have hF4 := HF.out.below hb4
  clear c0 c1 c2 c3 c4 c5 c6 c7 x5 hlx
  have n0 := (hF4).n.cell 0
  have n1 := (hF4).n.cell 1
  have n2 := (hF4).n.cell 2
  have n3 := (hF4).n.cell 3
  have n4 := (hF4).n.cell 4
  have f0 := (hF4).n.frozen 0
  have f1 := (hF4).n.frozen 1
  have f2 := (hF4).n.frozen 2
  have f3 := (hF4).n.frozen 3
  have f4 := (hF4).n.frozen 4
  have hln := (hF4).n.lt
  simp only [List.getElem?_toArray, List.getElem?_cons_zero, List.getElem?_cons_succ] at n0 n1 n2 n3 n4
  have z0 := (hF4).z.cell 0
  have z1 := (hF4).z.cell 1
  have z2 := (hF4).z.cell 2
  have z3 := (hF4).z.cell 3
  have z4 := (hF4).z.cell 4
  have g0 := (hF4).z.frozen 0
  have g1 := (hF4).z.frozen 1
  have g2 := (hF4).z.frozen 2
  have g3 := (hF4).z.frozen 3
  have g4 := (hF4).z.frozen 4
  have hlz := (hF4).z.lt
  simp only [List.getElem?_toArray, List.getElem?_cons_zero, List.getElem?_cons_succ] at z0 z1 z2 z3 z4
  have hlx := hF4.x.lt
  have x6 := hF4.x.cell 6
  simp only [List.getElem?_toArray, List.getElem?_cons_zero, List.getElem?_cons_succ] at x6
  have HF4 := Lib.hid hF4
  clear hF4 HF hb4 HW
  dsimp only

  subst h0
  go_wp2
  go_light
  rw [HV.out]
  have hG := HF4.out.give (.int .i64 (m.states : Int)) (.int .i64 0) (.slice A1 m.links.length k1) (.slice A2 m.edges.length k2) (.slice A3 m.accept.length k3)
  exact bodyPost_ret (ret_nfa Tryz.results44 rfl rfl hG.1) rfl ⟨A1, k1, A2, k2, A3, k3, rfl, S, hG.2.1, hG.2.2⟩
set_option maxHeartbeats 4000000 in
theorem rrep_same (x z : Nd) (hz : x.kids.list = [z]) (hlay : RLayC z) (hgr : GrowsF z.lay) (hzs : z.size ≤ 140737488355328) (hzn : ∀ y ∈ z.nodes, aloneN y = true) (hk : x.kind = 9) (B : Option Addr) (cap i base : Nat) (S : Nat → Prop) (m : MachS) (A1 : Option Addr) (k1 : Nat) (A2 : Option Addr) (k2 : Nat) (A3 : Option Addr) (k3 : Nat) (w : World) (ht : TreesAt w (fun b => ¬ S b) x.kids B) (h : MvAt w base S m A1 k1 A2 k2 A3 k3) (hb : base ≤ w.heap.size) (h0 : z.wgt ≠ 0) (hlo : 0 ≤ x.lo) (hlo2 : x.lo ≤ 1000) (hh : x.hi = x.lo) (hf : FitsM (repF z.wgt x.lo x.hi z.lay m i).1) : Calls Tryz.prog 44 #[.agg (mvA m A1 k1 A2 k2 A3 k3), ndV x B cap, .int .i64 (i : Int)] w (RLayOut base S w (repF z.wgt x.lo x.hi z.lay m i)) := by
  obtain ⟨l, hl⟩ := Int.eq_ofNat_of_zero_le hlo
  have hltn : x.lo.toNat = l := by omega
  have hl1 : l ≤ 1000 := by omega
  have HLO := Lib.hid hl
  clear hlo2

  have hV : repF z.wgt x.lo x.hi z.lay m i = timesF z.lay l m i := by unfold repF; rw [if_neg h0, if_neg (by omega), if_pos hh, hltn]
  have HFT := Lib.hid (show FitsM (timesF z.lay l m i).1 by rw [← hV]; exact hf)
  have HV := Lib.hid hV
  have HH := Lib.hid hh
  clear hV hf hltn hh hlo hl
  have hn1 : x.kids.len = 1 := one_len hz
  obtain ⟨b, o, C, capc, rfl, hnb, hnd0, hkz0⟩ := ht.sole hz
  have hbw : b < w.heap.size := World.block_lt_of_cell? w _ hnd0.1
  unfold mvA ndV
  rw [hn1, hk]
  have hF3 : Fr w base S #[.int .i64 9, .int .u64 ((word (x.set.testBit) 0 : Nat) : Int), .int .u64 ((word (x.set.testBit) 1 : Nat) : Int), .int .u64 ((word (x.set.testBit) 2 : Nat) : Int), .int .u64 ((word (x.set.testBit) 3 : Nat) : Int), .slice (some ⟨b, o, none⟩) 1 cap, .int .i64 x.lo, .int .i64 x.hi] S m A1 k1 A2 k2 A3 k3 #[.int .i64 (m.states : Int), .int .i64 0, .slice A1 m.links.length k1, .slice A2 m.edges.length k2, .slice A3 m.accept.length k3] (((w.alloc (.cells #[.int .i64 (m.states : Int), .int .i64 0, .slice A1 m.links.length k1, .slice A2 m.edges.length k2, .slice A3 m.accept.length k3] 36)).alloc (.cells #[.int .i64 9, .int .u64 ((word (x.set.testBit) 0 : Nat) : Int), .int .u64 ((word (x.set.testBit) 1 : Nat) : Int), .int .u64 ((word (x.set.testBit) 2 : Nat) : Int), .int .u64 ((word (x.set.testBit) 3 : Nat) : Int), .slice (some ⟨b, o, none⟩) 1 cap, .int .i64 x.lo, .int .i64 x.hi] 29)).alloc (.cells #[.int .i64 0, .int .i64 0, .slice none 0 0, .slice none 0 0, .slice none 0 0] 36)) := Fr.start h hb #[.int .i64 (m.states : Int), .int .i64 0, .slice A1 m.links.length k1, .slice A2 m.edges.length k2, .slice A3 m.accept.length k3] #[.int .i64 9, .int .u64 ((word (x.set.testBit) 0 : Nat) : Int), .int .u64 ((word (x.set.testBit) 1 : Nat) : Int), .int .u64 ((word (x.set.testBit) 2 : Nat) : Int), .int .u64 ((word (x.set.testBit) 3 : Nat) : Int), .slice (some ⟨b, o, none⟩) 1 cap, .int .i64 x.lo, .int .i64 x.hi]
  have HW := Lib.hid (rwgt_go z (fun b => ¬ S b) C capc (((w.alloc (.cells #[.int .i64 (m.states : Int), .int .i64 0, .slice A1 m.links.length k1, .slice A2 m.edges.length k2, .slice A3 m.accept.length k3] 36)).alloc (.cells #[.int .i64 9, .int .u64 ((word (x.set.testBit) 0 : Nat) : Int), .int .u64 ((word (x.set.testBit) 1 : Nat) : Int), .int .u64 ((word (x.set.testBit) 2 : Nat) : Int), .int .u64 ((word (x.set.testBit) 3 : Nat) : Int), .slice (some ⟨b, o, none⟩) 1 cap, .int .i64 x.lo, .int .i64 x.hi] 29)).alloc (.cells #[.int .i64 0, .int .i64 0, .slice none 0 0, .slice none 0 0, .slice none 0 0] 36)) hzs hzn (hF3.trees hkz0))
  unfold ndV at HW
  have HF := Lib.hid hF3
  have HT := Lib.hid hkz0
  have HTX := Lib.hid ht
  have HND := Lib.hid hnd0
  have HL := Lib.hid hlay
  have HGR := Lib.hid hgr
  have HZ := Lib.hid hz
  clear hF3 h hkz0 hnd0 ht hgr hlay hz hk hn1
  generalize z.wgt = n at *
  go_enter Tryz.func44, Tryz.ntmps44
  go_upto_region 1 with fail
  have hF3 := HF.out
  generalize (((w.alloc (.cells #[.int .i64 (m.states : Int), .int .i64 0, .slice A1 m.links.length k1, .slice A2 m.edges.length k2, .slice A3 m.accept.length k3] 36)).alloc (.cells #[.int .i64 9, .int .u64 ((word (x.set.testBit) 0 : Nat) : Int), .int .u64 ((word (x.set.testBit) 1 : Nat) : Int), .int .u64 ((word (x.set.testBit) 2 : Nat) : Int), .int .u64 ((word (x.set.testBit) 3 : Nat) : Int), .slice (some ⟨b, o, none⟩) 1 cap, .int .i64 x.lo, .int .i64 x.hi] 29)).alloc (.cells #[.int .i64 0, .int .i64 0, .slice none 0 0, .slice none 0 0, .slice none 0 0] 36)) = W3 at *
  have x5 := hF3.x.cell 5
  have hlx := hF3.x.lt
  simp only [List.getElem?_toArray, List.getElem?_cons_zero, List.getElem?_cons_succ] at x5
  obtain ⟨c0, c1, c2, c3, c4, c5, c6, c7⟩ := hF3.node HND.out hnb
  clear hF3
  go_wp2_with fail
  refine HW.out.mono ?_
  rintro e w4 ⟨rfl, hb4⟩
  have hF4 := HF.out.below hb4
  clear c0 c1 c2 c3 c4 c5 c6 c7 x5 hlx
  have n0 := (hF4).n.cell 0
  have n1 := (hF4).n.cell 1
  have n2 := (hF4).n.cell 2
  have n3 := (hF4).n.cell 3
  have n4 := (hF4).n.cell 4
  have f0 := (hF4).n.frozen 0
  have f1 := (hF4).n.frozen 1
  have f2 := (hF4).n.frozen 2
  have f3 := (hF4).n.frozen 3
  have f4 := (hF4).n.frozen 4
  have hln := (hF4).n.lt
  simp only [List.getElem?_toArray, List.getElem?_cons_zero, List.getElem?_cons_succ] at n0 n1 n2 n3 n4
  have z0 := (hF4).z.cell 0
  have z1 := (hF4).z.cell 1
  have z2 := (hF4).z.cell 2
  have z3 := (hF4).z.cell 3
  have z4 := (hF4).z.cell 4
  have g0 := (hF4).z.frozen 0
  have g1 := (hF4).z.frozen 1
  have g2 := (hF4).z.frozen 2
  have g3 := (hF4).z.frozen 3
  have g4 := (hF4).z.frozen 4
  have hlz := (hF4).z.lt
  simp only [List.getElem?_toArray, List.getElem?_cons_zero, List.getElem?_cons_succ] at z0 z1 z2 z3 z4
  have hlx := hF4.x.lt
  have x6 := hF4.x.cell 6
  simp only [List.getElem?_toArray, List.getElem?_cons_zero, List.getElem?_cons_succ] at x6
  have HF4 := Lib.hid hF4
  clear hF4 HF hb4 HW
  dsimp only

  have hnz : ((n : Int) == 0) = false := by rw [beq_eq_false_iff_ne]; omega
  rw [HLO.out] at x6
  have HM0 := Lib.hid (show FrM w base S #[.int .i64 9, .int .u64 ((word (x.set.testBit) 0 : Nat) : Int), .int .u64 ((word (x.set.testBit) 1 : Nat) : Int), .int .u64 ((word (x.set.testBit) 2 : Nat) : Int), .int .u64 ((word (x.set.testBit) 3 : Nat) : Int), .slice (some ⟨b, o, none⟩) 1 cap, .int .i64 x.lo, .int .i64 x.hi] (timesF z.lay 0 m i).1 w4 from ⟨S, A1, k1, A2, k2, A3, k3, HF4.out⟩)
  go_wp2
  go_loopw [2, 8] (fun v i' wr => ∃ k : Nat, i' = .int .i64 (k : Int) ∧ k ≤ l ∧ v = .int .i64 (((timesF z.lay k m i).2 : Nat) : Int) ∧ Hid (FrM w base S #[.int .i64 9, .int .u64 ((word (x.set.testBit) 0 : Nat) : Int), .int .u64 ((word (x.set.testBit) 1 : Nat) : Int), .int .u64 ((word (x.set.testBit) 2 : Nat) : Int), .int .u64 ((word (x.set.testBit) 3 : Nat) : Int), .slice (some ⟨b, o, none⟩) 1 cap, .int .i64 x.lo, .int .i64 x.hi] (timesF z.lay k m i).1 wr)) (fun _ i' _ => l - (intOf i').toNat)
  case atStart => exact ⟨0, rfl, Nat.zero_le _, rfl, HM0⟩
  case round =>
    clear n0 n1 n2 n3 n4 f0 f1 f2 f3 f4 hln
    clear z0 z1 z2 z3 z4 g0 g1 g2 g3 g4 hlz x6 hlx HM0 HF4
    obtain ⟨k, rfl, hk, rfl, HM⟩ := hrel
    obtain ⟨S1, C1, l1, C2, l2, C3, l3, hF⟩ := HM.out
    have hlx := hF.x.lt
    have x6 : wr.cell? ⟨w.heap.size + 1, 6, none⟩ = some (.int .i64 (l : Int)) := by rw [← HLO.out]; exact hF.x.cell 6
    by_cases hlt : k < l
    · have hdl : (k : Int) < (l : Int) := by omega
      have hfk : FitsM (z.lay (timesF z.lay k m i).1 (timesF z.lay k m i).2).1 := by
        have := HFT.out.of (timesF_part HGR.out m i (k + 1) (l - (k + 1)) |> fun h => by rw [show k + 1 + (l - (k + 1)) = l by omega] at h; exact h)
        rw [timesF_snoc] at this
        exact this
      have HS := Lib.hid (timesF_snoc z.lay k m i)
      clear HM
      generalize (timesF z.lay k m i).2 = at1 at *
      generalize (timesF z.lay k m i).1 = mk at *
      have HI := Lib.hid (HL.out C capc at1 base S1 mk C1 l1 C2 l2 C3 l3 wr.drew (hF.drew.trees HT.out) hF.drew.mv hF.drew.size hfk)
      unfold ndV mvA at HI
      unfold mvA at hF
      have n0 := (hF).n.cell 0
      have n1 := (hF).n.cell 1
      have n2 := (hF).n.cell 2
      have n3 := (hF).n.cell 3
      have n4 := (hF).n.cell 4
      have f0 := (hF).n.frozen 0
      have f1 := (hF).n.frozen 1
      have f2 := (hF).n.frozen 2
      have f3 := (hF).n.frozen 3
      have f4 := (hF).n.frozen 4
      have hln := (hF).n.lt
      simp only [List.getElem?_toArray, List.getElem?_cons_zero, List.getElem?_cons_succ] at n0 n1 n2 n3 n4
      have x5 := hF.x.cell 5
      simp only [List.getElem?_toArray, List.getElem?_cons_zero, List.getElem?_cons_succ] at x5
      obtain ⟨c0, c1, c2, c3, c4, c5, c6, c7⟩ := hF.node HND.out hnb
      have HF6 := Lib.hid hF
      clear hF hfk
      generalize z.lay mk at1 = r at *
      go_upto_region 6 with fail
      refine wp_region_held_drew (S := fun w' => ∀ b' o', b' = w.heap.size + 1 ∨ b' = b → w'.cell? ⟨b', o', none⟩ = wr.cell? ⟨b', o', none⟩) (by kernel_rfl) (key_drew w b wr) (fun hHeld => ?_)

      refine wpAnyH_take (i := 1) (oi := _) (v := ?_) rfl (by kernel_rfl) (by kernel_rfl) (by kernel_rfl) (fun _ _ _ h => h) (Or.inl ⟨by kernel_rfl, ?_⟩) (by assumption) ?_
      rotate_left
      · intro w hSw
        try dsimp only at hSw
        go_simp
        try (with_reducible rfl)
      try simp only [Act.put, List.getElem_toArray, List.getElem_cons_zero, List.getElem_cons_succ, List.setIfInBounds_toArray, List.set_cons_zero, List.set_cons_succ]

      refine wpAnyH_take (i := 2) (oi := _) (v := ?_) rfl (by kernel_rfl) (by kernel_rfl) (by kernel_rfl) (fun _ _ _ h => h) (Or.inl ⟨by kernel_rfl, ?_⟩) (by assumption) ?_
      rotate_left
      · intro w hSw
        try dsimp only at hSw
        go_simp
        try (with_reducible rfl)
      try simp only [Act.put, List.getElem_toArray, List.getElem_cons_zero, List.getElem_cons_succ, List.setIfInBounds_toArray, List.set_cons_zero, List.set_cons_succ]

      refine wpAnyH_take (i := 3) (oi := _) (v := ?_) rfl (by kernel_rfl) (by kernel_rfl) (by kernel_rfl) (fun _ _ _ h => h) (Or.inl ⟨by kernel_rfl, ?_⟩) (by assumption) ?_
      rotate_left
      · intro w hSw
        try dsimp only at hSw
        go_simp
        try (with_reducible rfl)
      try simp only [Act.put, List.getElem_toArray, List.getElem_cons_zero, List.getElem_cons_succ, List.setIfInBounds_toArray, List.set_cons_zero, List.set_cons_succ]

      refine wpAnyH_take (i := 4) (oi := _) (v := ?_) rfl (by kernel_rfl) (by kernel_rfl) (by kernel_rfl) (fun _ _ _ h => h) (Or.inl ⟨by kernel_rfl, ?_⟩) (by assumption) ?_
      rotate_left
      · intro w hSw
        try dsimp only at hSw
        go_simp
        try (with_reducible rfl)
      try simp only [Act.put, List.getElem_toArray, List.getElem_cons_zero, List.getElem_cons_succ, List.setIfInBounds_toArray, List.set_cons_zero, List.set_cons_succ]

      refine wpAnyH_take (i := 5) (oi := _) (v := ?_) rfl (by kernel_rfl) (by kernel_rfl) (by kernel_rfl) (fun _ _ _ h => h) (Or.inl ⟨by kernel_rfl, ?_⟩) (by assumption) ?_
      rotate_left
      · intro w hSw
        try dsimp only at hSw
        go_simp
        try (with_reducible rfl)
      try simp only [Act.put, List.getElem_toArray, List.getElem_cons_zero, List.getElem_cons_succ, List.setIfInBounds_toArray, List.set_cons_zero, List.set_cons_succ]

      refine wpAnyH_ready (rs := [0]) (by kernel_rfl) (by simp) ?_
      refine AllReadyH.cons (o := _) rfl (fun K hK => ?_) AllReadyH.nil

      go_simp
      refine hK.out _ _ (by assumption) (fun _ => ?_)
      clear hK K
      try simp only [Act.put, List.getElem_toArray, List.getElem_cons_zero, List.getElem_cons_succ, List.setIfInBounds_toArray, List.set_cons_zero, List.set_cons_succ]

      refine wpAnyH_ready (rs := [6]) (by kernel_rfl) (by simp) ?_
      refine AllReadyH.cons (o := _) rfl (fun K hK => ?_) AllReadyH.nil

      go_simp
      go_at_call 23
      refine HI.out.mono ?_
      rintro e w7 ⟨D1, p1, D2, p2, D3, p3, rfl, S7, hM, hV⟩
      have HKEY := Lib.hid (HF6.out.key hbw hnb hV)
      have hF7 := HF6.out.drew.go hM hV
      clear n0 n1 n2 n3 n4 f0 f1 f2 f3 f4 hln

      have n0 := (hF7).n.cell 0
      have n1 := (hF7).n.cell 1
      have n2 := (hF7).n.cell 2
      have n3 := (hF7).n.cell 3
      have n4 := (hF7).n.cell 4
      have f0 := (hF7).n.frozen 0
      have f1 := (hF7).n.frozen 1
      have f2 := (hF7).n.frozen 2
      have f3 := (hF7).n.frozen 3
      have f4 := (hF7).n.frozen 4
      have hln := (hF7).n.lt
      simp only [List.getElem?_toArray, List.getElem?_cons_zero, List.getElem?_cons_succ] at n0 n1 n2 n3 n4

      have HF7 := Lib.hid hF7
      clear hF7 hM hV HI c0 c1 c2 c3 c4 c5 c6 c7 x5
      unfold mvA
      dsimp only
      refine hK.out _ _ HKEY.out (fun _ => ?_)
      clear hK K hHeld
      try simp only [Act.put, List.getElem_toArray, List.getElem_cons_zero, List.getElem_cons_succ, List.setIfInBounds_toArray, List.set_cons_zero, List.set_cons_succ]

      refine wpAnyH_take (i := 7) (oi := _) (v := ?_) rfl (by kernel_rfl) (by kernel_rfl) (by kernel_rfl) (fun _ _ _ h => h) (Or.inl ⟨by kernel_rfl, ?_⟩) (by assumption) ?_
      rotate_left
      · intro w hSw
        try dsimp only at hSw
        go_simp
        try (with_reducible rfl)
      try simp only [Act.put, List.getElem_toArray, List.getElem_cons_zero, List.getElem_cons_succ, List.setIfInBounds_toArray, List.set_cons_zero, List.set_cons_succ]

      refine wpAnyH_take (i := 8) (oi := _) (v := ?_) rfl (by kernel_rfl) (by kernel_rfl) (by kernel_rfl) (fun _ _ _ h => h) (Or.inl ⟨by kernel_rfl, ?_⟩) (by assumption) ?_
      rotate_left
      · intro w hSw
        try dsimp only at hSw
        go_simp
        try (with_reducible rfl)
      try simp only [Act.put, List.getElem_toArray, List.getElem_cons_zero, List.getElem_cons_succ, List.setIfInBounds_toArray, List.set_cons_zero, List.set_cons_succ]

      refine wpAnyH_take (i := 9) (oi := _) (v := ?_) rfl (by kernel_rfl) (by kernel_rfl) (by kernel_rfl) (fun _ _ _ h => h) (Or.inl ⟨by kernel_rfl, ?_⟩) (by assumption) ?_
      rotate_left
      · intro w hSw
        try dsimp only at hSw
        go_simp
        try (with_reducible rfl)
      try simp only [Act.put, List.getElem_toArray, List.getElem_cons_zero, List.getElem_cons_succ, List.setIfInBounds_toArray, List.set_cons_zero, List.set_cons_succ]

      refine wpAnyH_ready (rs := [10]) (by kernel_rfl) (by simp) ?_
      refine AllReadyH.cons (o := _) rfl (fun K hK => ?_) AllReadyH.nil

      go_simp
      refine hK.out _ _ (HKEY.out.store hbw _ _ _ _ _) (fun _ => ?_)
      clear hK K HKEY HF6
      try simp only [Act.put, List.getElem_toArray, List.getElem_cons_zero, List.getElem_cons_succ, List.setIfInBounds_toArray, List.set_cons_zero, List.set_cons_succ]

      refine wpAnyH_take (i := 11) (oi := _) (v := ?_) rfl (by kernel_rfl) (by kernel_rfl) (by kernel_rfl) (fun _ _ _ h => h) (Or.inl ⟨by kernel_rfl, ?_⟩) (by assumption) ?_
      rotate_left
      · intro w hSw
        try dsimp only at hSw
        go_simp
        try (with_reducible rfl)
      try simp only [Act.put, List.getElem_toArray, List.getElem_cons_zero, List.getElem_cons_succ, List.setIfInBounds_toArray, List.set_cons_zero, List.set_cons_succ]

      refine wpAnyH_done (by kernel_rfl) ?_ _
      go_wp2
      go_roundw
      case rel =>
        refine ⟨k + 1, by go_num, by omega, by rw [HS.out], Lib.hid ?_⟩
        rw [HS.out]
        exact ⟨S7, D1, p1, D2, p2, D3, p3, HF7.out.store (.int .i64 (r.1.states : Int)) (.int .i64 0) (.slice D1 r.1.links.length p1) (.slice D2 r.1.edges.length p2) (.slice D3 r.1.accept.length p3)⟩
      case measure => simp [intOf]; omega
    · obtain rfl : k = l := by omega
      have hdl : ¬ ((k : Int) < (k : Int)) := by omega
      have x5 := hF.x.cell 5
      simp only [List.getElem?_toArray, List.getElem?_cons_zero, List.getElem?_cons_succ] at x5
      unfold mvA at hF
      have n0 := (hF).n.cell 0
      have n1 := (hF).n.cell 1
      have n2 := (hF).n.cell 2
      have n3 := (hF).n.cell 3
      have n4 := (hF).n.cell 4
      have f0 := (hF).n.frozen 0
      have f1 := (hF).n.frozen 1
      have f2 := (hF).n.frozen 2
      have f3 := (hF).n.frozen 3
      have f4 := (hF).n.frozen 4
      have hln := (hF).n.lt
      simp only [List.getElem?_toArray, List.getElem?_cons_zero, List.getElem?_cons_succ] at n0 n1 n2 n3 n4
      have z0 := (hF).z.cell 0
      have z1 := (hF).z.cell 1
      have z2 := (hF).z.cell 2
      have z3 := (hF).z.cell 3
      have z4 := (hF).z.cell 4
      have g0 := (hF).z.frozen 0
      have g1 := (hF).z.frozen 1
      have g2 := (hF).z.frozen 2
      have g3 := (hF).z.frozen 3
      have g4 := (hF).z.frozen 4
      have hlz := (hF).z.lt
      simp only [List.getElem?_toArray, List.getElem?_cons_zero, List.getElem?_cons_succ] at z0 z1 z2 z3 z4

      have x7 : wr.cell? ⟨w.heap.size + 1, 7, none⟩ = some (.int .i64 (k : Int)) := by rw [← HLO.out, ← HH.out]; exact hF.x.cell 7
      have hkk : ((k : Int) == (k : Int)) = true := by simp
      have hm1 : ((k : Int) == -1) = false := by rw [beq_eq_false_iff_ne]; omega
      have HF6 := Lib.hid hF
      clear hF HM
      go_wp2
      go_light
      rw [HV.out]
      have hG := HF6.out.give (.int .i64 ((timesF z.lay k m i).1.states : Int)) (.int .i64 0) (.slice C1 (timesF z.lay k m i).1.links.length l1) (.slice C2 (timesF z.lay k m i).1.edges.length l2) (.slice C3 (timesF z.lay k m i).1.accept.length l3)
      exact bodyPost_ret (ret_nfa Tryz.results44 rfl rfl hG.1) rfl ⟨C1, l1, C2, l2, C3, l3, rfl, S1, hG.2.1, hG.2.2⟩
end Go.Proofs.YtchfipjclbpomaaGreat
