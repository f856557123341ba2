/-
  The contract of the reference's lay of chapter 16: opt, loops.
-/
import Derived.StillTailTactics
import Derived.Test.YtchfipjclbpomaaGreatQRefL
namespace Go.Proofs.YtchfipjclbpomaaGreat
open Go.RowKit
set_option linter.unusedSimpArgs false
set_option linter.unusedVariables false
set_option maxRecDepth 100000

theorem skey_drew (W : World) (p : Nat → Prop) : ∀ b' o', p b' → W.drew.cell? ⟨b', o', none⟩ = W.cell? ⟨b', o', none⟩ := fun _ _ _ => rfl
set_option maxHeartbeats 8000000 in
theorem rlay_opt (x z : Nd) (hz : x.kids.list = [z]) (hlay : RLayC z) (hgr : GrowsF z.lay) (B : Option Addr) (cap i base : Nat) (S : Nat → Prop) (m : MachS) (A1 : Option Addr) (k1 : Nat) (A2 : Option Addr) (k2 : Nat) (A3 : Option Addr) (k3 : Nat) (w : World) (ht : TreesAt w (fun b => ¬ S b) x.kids B) (h : MvAt w base S m A1 k1 A2 k2 A3 k3) (hb : base ≤ w.heap.size) (hk : x.kind = 8) (hf : FitsM (optF z.lay m i).1) : Calls Tryz.prog 23 #[.agg (mvA m A1 k1 A2 k2 A3 k3), ndV x B cap, .int .i64 (i : Int)] w (RLayOut base S w (optF z.lay m i)) := by
  have hn1 : x.kids.len = 1 := one_len hz
  obtain ⟨b, o, C, capc, rfl, hnb, hnd0, hkz0⟩ := ht.sole hz
  have hbw := World.block_lt_of_cell? w _ hnd0.1
  have HM3 := Lib.hid (((h.alloc (.cells #[.int .i64 (m.states : Int), .int .i64 0, .slice A1 m.links.length k1, .slice A2 m.edges.length k2, .slice A3 m.accept.length k3] 36)).alloc (.cells #[.int .i64 x.kind, .int .u64 ((word (x.set.testBit) 0 : Nat) : Int), .int .u64 ((word (x.set.testBit) 1 : Nat) : Int), .int .u64 ((word (x.set.testBit) 2 : Nat) : Int), .int .u64 ((word (x.set.testBit) 3 : Nat) : Int), .slice (some ⟨b, o, none⟩) 1 cap, .int .i64 x.lo, .int .i64 x.hi] 29)).alloc (.cells #[.int .i64 0, .int .i64 0, .slice none 0 0, .slice none 0 0, .slice none 0 0] 36))
  have HV3 := Lib.hid ((((Moves.refl base S w).alloc hb (.cells #[.int .i64 (m.states : Int), .int .i64 0, .slice A1 m.links.length k1, .slice A2 m.edges.length k2, .slice A3 m.accept.length k3] 36)).alloc hb (.cells #[.int .i64 x.kind, .int .u64 ((word (x.set.testBit) 0 : Nat) : Int), .int .u64 ((word (x.set.testBit) 1 : Nat) : Int), .int .u64 ((word (x.set.testBit) 2 : Nat) : Int), .int .u64 ((word (x.set.testBit) 3 : Nat) : Int), .slice (some ⟨b, o, none⟩) 1 cap, .int .i64 x.lo, .int .i64 x.hi] 29)).alloc hb (.cells #[.int .i64 0, .int .i64 0, .slice none 0 0, .slice none 0 0, .slice none 0 0] 36))
  have HN3 := Lib.hid (((Blk.new w 36 #[.int .i64 (m.states : Int), .int .i64 0, .slice A1 m.links.length k1, .slice A2 m.edges.length k2, .slice A3 m.accept.length k3]).alloc (.cells #[.int .i64 x.kind, .int .u64 ((word (x.set.testBit) 0 : Nat) : Int), .int .u64 ((word (x.set.testBit) 1 : Nat) : Int), .int .u64 ((word (x.set.testBit) 2 : Nat) : Int), .int .u64 ((word (x.set.testBit) 3 : Nat) : Int), .slice (some ⟨b, o, none⟩) 1 cap, .int .i64 x.lo, .int .i64 x.hi] 29)).alloc (.cells #[.int .i64 0, .int .i64 0, .slice none 0 0, .slice none 0 0, .slice none 0 0] 36))
  have HX3 := Lib.hid (show Blk (((w.alloc (.cells #[.int .i64 (m.states : Int), .int .i64 0, .slice A1 m.links.length k1, .slice A2 m.edges.length k2, .slice A3 m.accept.length k3] 36)).alloc (.cells #[.int .i64 x.kind, .int .u64 ((word (x.set.testBit) 0 : Nat) : Int), .int .u64 ((word (x.set.testBit) 1 : Nat) : Int), .int .u64 ((word (x.set.testBit) 2 : Nat) : Int), .int .u64 ((word (x.set.testBit) 3 : Nat) : Int), .slice (some ⟨b, o, none⟩) 1 cap, .int .i64 x.lo, .int .i64 x.hi] 29)).alloc (.cells #[.int .i64 0, .int .i64 0, .slice none 0 0, .slice none 0 0, .slice none 0 0] 36)) (w.heap.size + 1) 29 #[.int .i64 x.kind, .int .u64 ((word (x.set.testBit) 0 : Nat) : Int), .int .u64 ((word (x.set.testBit) 1 : Nat) : Int), .int .u64 ((word (x.set.testBit) 2 : Nat) : Int), .int .u64 ((word (x.set.testBit) 3 : Nat) : Int), .slice (some ⟨b, o, none⟩) 1 cap, .int .i64 x.lo, .int .i64 x.hi] from (Blk.new_at (by simp)).alloc _)
  have HZ3 := Lib.hid (show Blk (((w.alloc (.cells #[.int .i64 (m.states : Int), .int .i64 0, .slice A1 m.links.length k1, .slice A2 m.edges.length k2, .slice A3 m.accept.length k3] 36)).alloc (.cells #[.int .i64 x.kind, .int .u64 ((word (x.set.testBit) 0 : Nat) : Int), .int .u64 ((word (x.set.testBit) 1 : Nat) : Int), .int .u64 ((word (x.set.testBit) 2 : Nat) : Int), .int .u64 ((word (x.set.testBit) 3 : Nat) : Int), .slice (some ⟨b, o, none⟩) 1 cap, .int .i64 x.lo, .int .i64 x.hi] 29)).alloc (.cells #[.int .i64 0, .int .i64 0, .slice none 0 0, .slice none 0 0, .slice none 0 0] 36)) (w.heap.size + 1 + 1) 36 #[.int .i64 0, .int .i64 0, .slice none 0 0, .slice none 0 0, .slice none 0 0] from Blk.new_at (by simp))
  have HNS := Lib.hid (show ¬ S w.heap.size ∧ ¬ S (w.heap.size + 1) ∧ ¬ S (w.heap.size + 1 + 1) from ⟨fun h' => by have := (h.lt _ h').2; omega, fun h' => by have := (h.lt _ h').2; omega, fun h' => by have := (h.lt _ h').2; omega⟩)
  have hsz3 : (((w.alloc (.cells #[.int .i64 (m.states : Int), .int .i64 0, .slice A1 m.links.length k1, .slice A2 m.edges.length k2, .slice A3 m.accept.length k3] 36)).alloc (.cells #[.int .i64 x.kind, .int .u64 ((word (x.set.testBit) 0 : Nat) : Int), .int .u64 ((word (x.set.testBit) 1 : Nat) : Int), .int .u64 ((word (x.set.testBit) 2 : Nat) : Int), .int .u64 ((word (x.set.testBit) 3 : Nat) : Int), .slice (some ⟨b, o, none⟩) 1 cap, .int .i64 x.lo, .int .i64 x.hi] 29)).alloc (.cells #[.int .i64 0, .int .i64 0, .slice none 0 0, .slice none 0 0, .slice none 0 0] 36)).heap.size = w.heap.size + 1 + 1 + 1 := by simp
  have HT3 := Lib.hid (hkz0.movesS HV3.out)
  have hnd3 : NdAt (((w.alloc (.cells #[.int .i64 (m.states : Int), .int .i64 0, .slice A1 m.links.length k1, .slice A2 m.edges.length k2, .slice A3 m.accept.length k3] 36)).alloc (.cells #[.int .i64 x.kind, .int .u64 ((word (x.set.testBit) 0 : Nat) : Int), .int .u64 ((word (x.set.testBit) 1 : Nat) : Int), .int .u64 ((word (x.set.testBit) 2 : Nat) : Int), .int .u64 ((word (x.set.testBit) 3 : Nat) : Int), .slice (some ⟨b, o, none⟩) 1 cap, .int .i64 x.lo, .int .i64 x.hi] 29)).alloc (.cells #[.int .i64 0, .int .i64 0, .slice none 0 0, .slice none 0 0, .slice none 0 0] 36)) b o z.kind z.set z.kids.len z.lo z.hi C capc := hnd0.keep (fun o' => cell_block (HV3.out.kept b hbw hnb))
  obtain ⟨c0, c1, c2, c3, c4, c5, c6, c7⟩ := hnd3
  have hbw3 : b < (((w.alloc (.cells #[.int .i64 (m.states : Int), .int .i64 0, .slice A1 m.links.length k1, .slice A2 m.edges.length k2, .slice A3 m.accept.length k3] 36)).alloc (.cells #[.int .i64 x.kind, .int .u64 ((word (x.set.testBit) 0 : Nat) : Int), .int .u64 ((word (x.set.testBit) 1 : Nat) : Int), .int .u64 ((word (x.set.testBit) 2 : Nat) : Int), .int .u64 ((word (x.set.testBit) 3 : Nat) : Int), .slice (some ⟨b, o, none⟩) 1 cap, .int .i64 x.lo, .int .i64 x.hi] 29)).alloc (.cells #[.int .i64 0, .int .i64 0, .slice none 0 0, .slice none 0 0, .slice none 0 0] 36)).heap.size := by have : b < w.heap.size := hbw; omega
  have HLAY := Lib.hid hlay
  have HGR := Lib.hid hgr
  have HZL := Lib.hid hz
  clear hnd0 hkz0 ht hlay hgr hz
  unfold ndV mvA at *
  rw [hn1]
  clear hn1 h

  have e0 : ExtM ((((z.lay m i).1.state 0)).link (z.lay m i).2 (z.lay m i).1.states) (optF z.lay m i).1 := ExtM.link _ _ _
  have e1 := ExtM.link ((z.lay m i).1.state 0) (z.lay m i).2 (z.lay m i).1.states
  have e2 := ExtM.state (z.lay m i).1 0
  have HF := Lib.hid (show FitsM (z.lay m i).1 ∧ FitsM ((z.lay m i).1.state 0) ∧ FitsM ((((z.lay m i).1.state 0)).link (z.lay m i).2 (z.lay m i).1.states) from ⟨hf.of (e2.trans (e1.trans e0)), hf.of (e1.trans e0), hf.of e0⟩)
  have HI := Lib.hid (HLAY.out C capc i base S m A1 k1 A2 k2 A3 k3 (((w.alloc (.cells #[.int .i64 (m.states : Int), .int .i64 0, .slice A1 m.links.length k1, .slice A2 m.edges.length k2, .slice A3 m.accept.length k3] 36)).alloc (.cells #[.int .i64 x.kind, .int .u64 ((word (x.set.testBit) 0 : Nat) : Int), .int .u64 ((word (x.set.testBit) 1 : Nat) : Int), .int .u64 ((word (x.set.testBit) 2 : Nat) : Int), .int .u64 ((word (x.set.testBit) 3 : Nat) : Int), .slice (some ⟨b, o, none⟩) 1 cap, .int .i64 x.lo, .int .i64 x.hi] 29)).alloc (.cells #[.int .i64 0, .int .i64 0, .slice none 0 0, .slice none 0 0, .slice none 0 0] 36)).drew (HT3.out.below ((Below.refl _ _).drew)) HM3.out.drew (by show base ≤ (((w.alloc (.cells #[.int .i64 (m.states : Int), .int .i64 0, .slice A1 m.links.length k1, .slice A2 m.edges.length k2, .slice A3 m.accept.length k3] 36)).alloc (.cells #[.int .i64 x.kind, .int .u64 ((word (x.set.testBit) 0 : Nat) : Int), .int .u64 ((word (x.set.testBit) 1 : Nat) : Int), .int .u64 ((word (x.set.testBit) 2 : Nat) : Int), .int .u64 ((word (x.set.testBit) 3 : Nat) : Int), .slice (some ⟨b, o, none⟩) 1 cap, .int .i64 x.lo, .int .i64 x.hi] 29)).alloc (.cells #[.int .i64 0, .int .i64 0, .slice none 0 0, .slice none 0 0, .slice none 0 0] 36)).heap.size; omega) HF.out.1)
  unfold ndV mvA at HI
  rw [hk] at *
  clear hk hf e0 e1 e2
  go_enter Tryz.func23, Tryz.ntmps23
  go_upto_region 36 with fail
  have n0 : (((w.alloc (.cells #[.int .i64 (m.states : Int), .int .i64 0, .slice A1 m.links.length k1, .slice A2 m.edges.length k2, .slice A3 m.accept.length k3] 36)).alloc (.cells #[.int .i64 8, .int .u64 ((word (x.set.testBit) 0 : Nat) : Int), .int .u64 ((word (x.set.testBit) 1 : Nat) : Int), .int .u64 ((word (x.set.testBit) 2 : Nat) : Int), .int .u64 ((word (x.set.testBit) 3 : Nat) : Int), .slice (some ⟨b, o, none⟩) 1 cap, .int .i64 x.lo, .int .i64 x.hi] 29)).alloc (.cells #[.int .i64 0, .int .i64 0, .slice none 0 0, .slice none 0 0, .slice none 0 0] 36)).cell? ⟨w.heap.size, 0, none⟩ = some (.int .i64 (m.states : Int)) := HN3.out.cell 0
  have n1 : (((w.alloc (.cells #[.int .i64 (m.states : Int), .int .i64 0, .slice A1 m.links.length k1, .slice A2 m.edges.length k2, .slice A3 m.accept.length k3] 36)).alloc (.cells #[.int .i64 8, .int .u64 ((word (x.set.testBit) 0 : Nat) : Int), .int .u64 ((word (x.set.testBit) 1 : Nat) : Int), .int .u64 ((word (x.set.testBit) 2 : Nat) : Int), .int .u64 ((word (x.set.testBit) 3 : Nat) : Int), .slice (some ⟨b, o, none⟩) 1 cap, .int .i64 x.lo, .int .i64 x.hi] 29)).alloc (.cells #[.int .i64 0, .int .i64 0, .slice none 0 0, .slice none 0 0, .slice none 0 0] 36)).cell? ⟨w.heap.size, 1, none⟩ = some (.int .i64 0) := HN3.out.cell 1
  have n2 : (((w.alloc (.cells #[.int .i64 (m.states : Int), .int .i64 0, .slice A1 m.links.length k1, .slice A2 m.edges.length k2, .slice A3 m.accept.length k3] 36)).alloc (.cells #[.int .i64 8, .int .u64 ((word (x.set.testBit) 0 : Nat) : Int), .int .u64 ((word (x.set.testBit) 1 : Nat) : Int), .int .u64 ((word (x.set.testBit) 2 : Nat) : Int), .int .u64 ((word (x.set.testBit) 3 : Nat) : Int), .slice (some ⟨b, o, none⟩) 1 cap, .int .i64 x.lo, .int .i64 x.hi] 29)).alloc (.cells #[.int .i64 0, .int .i64 0, .slice none 0 0, .slice none 0 0, .slice none 0 0] 36)).cell? ⟨w.heap.size, 2, none⟩ = some (.slice A1 m.links.length k1) := HN3.out.cell 2
  have n3 : (((w.alloc (.cells #[.int .i64 (m.states : Int), .int .i64 0, .slice A1 m.links.length k1, .slice A2 m.edges.length k2, .slice A3 m.accept.length k3] 36)).alloc (.cells #[.int .i64 8, .int .u64 ((word (x.set.testBit) 0 : Nat) : Int), .int .u64 ((word (x.set.testBit) 1 : Nat) : Int), .int .u64 ((word (x.set.testBit) 2 : Nat) : Int), .int .u64 ((word (x.set.testBit) 3 : Nat) : Int), .slice (some ⟨b, o, none⟩) 1 cap, .int .i64 x.lo, .int .i64 x.hi] 29)).alloc (.cells #[.int .i64 0, .int .i64 0, .slice none 0 0, .slice none 0 0, .slice none 0 0] 36)).cell? ⟨w.heap.size, 3, none⟩ = some (.slice A2 m.edges.length k2) := HN3.out.cell 3
  have n4 : (((w.alloc (.cells #[.int .i64 (m.states : Int), .int .i64 0, .slice A1 m.links.length k1, .slice A2 m.edges.length k2, .slice A3 m.accept.length k3] 36)).alloc (.cells #[.int .i64 8, .int .u64 ((word (x.set.testBit) 0 : Nat) : Int), .int .u64 ((word (x.set.testBit) 1 : Nat) : Int), .int .u64 ((word (x.set.testBit) 2 : Nat) : Int), .int .u64 ((word (x.set.testBit) 3 : Nat) : Int), .slice (some ⟨b, o, none⟩) 1 cap, .int .i64 x.lo, .int .i64 x.hi] 29)).alloc (.cells #[.int .i64 0, .int .i64 0, .slice none 0 0, .slice none 0 0, .slice none 0 0] 36)).cell? ⟨w.heap.size, 4, none⟩ = some (.slice A3 m.accept.length k3) := HN3.out.cell 4
  have x5 : (((w.alloc (.cells #[.int .i64 (m.states : Int), .int .i64 0, .slice A1 m.links.length k1, .slice A2 m.edges.length k2, .slice A3 m.accept.length k3] 36)).alloc (.cells #[.int .i64 8, .int .u64 ((word (x.set.testBit) 0 : Nat) : Int), .int .u64 ((word (x.set.testBit) 1 : Nat) : Int), .int .u64 ((word (x.set.testBit) 2 : Nat) : Int), .int .u64 ((word (x.set.testBit) 3 : Nat) : Int), .slice (some ⟨b, o, none⟩) 1 cap, .int .i64 x.lo, .int .i64 x.hi] 29)).alloc (.cells #[.int .i64 0, .int .i64 0, .slice none 0 0, .slice none 0 0, .slice none 0 0] 36)).cell? ⟨w.heap.size + 1, 5, none⟩ = some (.slice (some ⟨b, o, none⟩) 1 cap) := HX3.out.cell 5
  have hln := HN3.out.lt
  have hlx := HX3.out.lt
  generalize (((w.alloc (.cells #[.int .i64 (m.states : Int), .int .i64 0, .slice A1 m.links.length k1, .slice A2 m.edges.length k2, .slice A3 m.accept.length k3] 36)).alloc (.cells #[.int .i64 8, .int .u64 ((word (x.set.testBit) 0 : Nat) : Int), .int .u64 ((word (x.set.testBit) 1 : Nat) : Int), .int .u64 ((word (x.set.testBit) 2 : Nat) : Int), .int .u64 ((word (x.set.testBit) 3 : Nat) : Int), .slice (some ⟨b, o, none⟩) 1 cap, .int .i64 x.lo, .int .i64 x.hi] 29)).alloc (.cells #[.int .i64 0, .int .i64 0, .slice none 0 0, .slice none 0 0, .slice none 0 0] 36)) = W3 at *
  generalize hr : z.lay m i = r at *
  have HSK : Hid (∀ b', b' = w.heap.size + 1 ∨ b' = b → b' < W3.heap.size ∧ ¬ S b' ∧ b' ≠ w.heap.size) := Lib.hid (fun b' h' => by
    have hbw' : b < w.heap.size := hbw
    rcases h' with h' | h' <;> rw [h']
    · exact ⟨hlx, HNS.out.2.1, by omega⟩
    · exact ⟨hbw3, hnb, by omega⟩)
  refine wp_region_held_drew (S := fun w' => ∀ b' o', b' = w.heap.size + 1 ∨ b' = b → w'.cell? ⟨b', o', none⟩ = W3.cell? ⟨b', o', none⟩) (by kernel_rfl) (skey_drew W3 _) (fun hHeld => ?_)
  refine wpAnyH_take (i := 1) (oi := _) (v := ?_) rfl (by kernel_rfl) (by kernel_rfl) (by kernel_rfl) (fun _ _ _ h => h) (Or.inl ⟨by kernel_rfl, ?_⟩) (by assumption) ?_
  rotate_left
  · intro w hSw
    try dsimp only at hSw
    go_simp
    try (with_reducible rfl)
  try simp only [Act.put, List.getElem_toArray, List.getElem_cons_zero, List.getElem_cons_succ, List.setIfInBounds_toArray, List.set_cons_zero, List.set_cons_succ]
  refine wpAnyH_take (i := 2) (oi := _) (v := ?_) rfl (by kernel_rfl) (by kernel_rfl) (by kernel_rfl) (fun _ _ _ h => h) (Or.inl ⟨by kernel_rfl, ?_⟩) (by assumption) ?_
  rotate_left
  · intro w hSw
    try dsimp only at hSw
    go_simp
    try (with_reducible rfl)
  try simp only [Act.put, List.getElem_toArray, List.getElem_cons_zero, List.getElem_cons_succ, List.setIfInBounds_toArray, List.set_cons_zero, List.set_cons_succ]
  refine wpAnyH_take (i := 3) (oi := _) (v := ?_) rfl (by kernel_rfl) (by kernel_rfl) (by kernel_rfl) (fun _ _ _ h => h) (Or.inl ⟨by kernel_rfl, ?_⟩) (by assumption) ?_
  rotate_left
  · intro w hSw
    try dsimp only at hSw
    go_simp
    try (with_reducible rfl)
  try simp only [Act.put, List.getElem_toArray, List.getElem_cons_zero, List.getElem_cons_succ, List.setIfInBounds_toArray, List.set_cons_zero, List.set_cons_succ]
  refine wpAnyH_take (i := 4) (oi := _) (v := ?_) rfl (by kernel_rfl) (by kernel_rfl) (by kernel_rfl) (fun _ _ _ h => h) (Or.inl ⟨by kernel_rfl, ?_⟩) (by assumption) ?_
  rotate_left
  · intro w hSw
    try dsimp only at hSw
    go_simp
    try (with_reducible rfl)
  try simp only [Act.put, List.getElem_toArray, List.getElem_cons_zero, List.getElem_cons_succ, List.setIfInBounds_toArray, List.set_cons_zero, List.set_cons_succ]
  refine wpAnyH_take (i := 5) (oi := _) (v := ?_) rfl (by kernel_rfl) (by kernel_rfl) (by kernel_rfl) (fun _ _ _ h => h) (Or.inl ⟨by kernel_rfl, ?_⟩) (by assumption) ?_
  rotate_left
  · intro w hSw
    try dsimp only at hSw
    go_simp
    try (with_reducible rfl)
  try simp only [Act.put, List.getElem_toArray, List.getElem_cons_zero, List.getElem_cons_succ, List.setIfInBounds_toArray, List.set_cons_zero, List.set_cons_succ]
  refine wpAnyH_ready (rs := [0]) (by kernel_rfl) (by simp) ?_
  refine AllReadyH.cons (o := _) rfl (fun K hK => ?_) AllReadyH.nil
  go_simp
  refine hK.out _ _ (by assumption) (fun _ => ?_)
  clear hK K
  try simp only [Act.put, List.getElem_toArray, List.getElem_cons_zero, List.getElem_cons_succ, List.setIfInBounds_toArray, List.set_cons_zero, List.set_cons_succ]
  refine wpAnyH_ready (rs := [6]) (by kernel_rfl) (by simp) ?_
  refine AllReadyH.cons (o := _) rfl (fun K hK => ?_) AllReadyH.nil
  go_simp
  go_at_call 23
  refine HI.out.mono ?_
  rintro e w4 ⟨B1, j1, B2, j2, B3, j3, rfl, S4, hM4, hV4'⟩
  have hV4 : Moves base S W3 S4 w4 := ((Moves.refl base S W3).drew).trans hV4'
  have hN4 := HN3.out.moves hV4 HNS.out.1
  have d0 := hN4.cell 0
  have d1 := hN4.cell 1
  have d2 := hN4.cell 2
  have d3 := hN4.cell 3
  have d4 := hN4.cell 4
  have e0 := hN4.frozen 0
  have e1 := hN4.frozen 1
  have e2 := hN4.frozen 2
  have e3 := hN4.frozen 3
  have e4 := hN4.frozen 4

  have hltz := hN4.lt
  have HN4 := Lib.hid hN4
  have HX4 := Lib.hid (HX3.out.moves hV4 HNS.out.2.1)
  have HZ4 := Lib.hid (HZ3.out.moves hV4 HNS.out.2.2)
  have HQ := Lib.hid (show _ ∧ _ ∧ ¬ S4 w.heap.size ∧ ¬ S4 (w.heap.size + 1) ∧ ¬ S4 (w.heap.size + 1 + 1) from ⟨hM4, HV3.out.trans hV4, hV4.notIn (by omega) HNS.out.1, hV4.notIn (by omega) HNS.out.2.1, hV4.notIn (by omega) HNS.out.2.2⟩)
  have HV4 := Lib.hid hV4
  clear hN4 hM4 hV4 hV4'
  unfold mvA
  dsimp only
  have hS4 : ∀ b' o', b' = w.heap.size + 1 ∨ b' = b → w4.cell? ⟨b', o', none⟩ = W3.cell? ⟨b', o', none⟩ := fun b' o' h' => cell_block (HV4.out.kept b' (HSK.out b' h').1 (HSK.out b' h').2.1)
  refine hK.out _ _ hS4 (fun _ => ?_)
  clear hK K hHeld HI
  try simp only [Act.put, List.getElem_toArray, List.getElem_cons_zero, List.getElem_cons_succ, List.setIfInBounds_toArray, List.set_cons_zero, List.set_cons_succ]
  refine wpAnyH_take (i := 7) (oi := _) (v := ?_) rfl (by kernel_rfl) (by kernel_rfl) (by kernel_rfl) (fun _ _ _ h => h) (Or.inl ⟨by kernel_rfl, ?_⟩) (by assumption) ?_
  rotate_left
  · intro w hSw
    try dsimp only at hSw
    go_simp
    try (with_reducible rfl)
  try simp only [Act.put, List.getElem_toArray, List.getElem_cons_zero, List.getElem_cons_succ, List.setIfInBounds_toArray, List.set_cons_zero, List.set_cons_succ]
  refine wpAnyH_take (i := 8) (oi := _) (v := ?_) rfl (by kernel_rfl) (by kernel_rfl) (by kernel_rfl) (fun _ _ _ h => h) (Or.inl ⟨by kernel_rfl, ?_⟩) (by assumption) ?_
  rotate_left
  · intro w hSw
    try dsimp only at hSw
    go_simp
    try (with_reducible rfl)
  try simp only [Act.put, List.getElem_toArray, List.getElem_cons_zero, List.getElem_cons_succ, List.setIfInBounds_toArray, List.set_cons_zero, List.set_cons_succ]
  refine wpAnyH_take (i := 9) (oi := _) (v := ?_) rfl (by kernel_rfl) (by kernel_rfl) (by kernel_rfl) (fun _ _ _ h => h) (Or.inl ⟨by kernel_rfl, ?_⟩) (by assumption) ?_
  rotate_left
  · intro w hSw
    try dsimp only at hSw
    go_simp
    try (with_reducible rfl)
  try simp only [Act.put, List.getElem_toArray, List.getElem_cons_zero, List.getElem_cons_succ, List.setIfInBounds_toArray, List.set_cons_zero, List.set_cons_succ]
  refine wpAnyH_ready (rs := [10]) (by kernel_rfl) (by simp) ?_
  refine AllReadyH.cons (o := _) rfl (fun K hK => ?_) AllReadyH.nil
  go_simp
  refine hK.out _ _ (fun b' o' h' => (cell_block (heap_set5N (HSK.out b' h').2.2 _ _ _ _ _)).trans (hS4 b' o' h')) (fun _ => ?_)
  clear hK K hS4
  try simp only [Act.put, List.getElem_toArray, List.getElem_cons_zero, List.getElem_cons_succ, List.setIfInBounds_toArray, List.set_cons_zero, List.set_cons_succ]
  refine wpAnyH_take (i := 11) (oi := _) (v := ?_) rfl (by kernel_rfl) (by kernel_rfl) (by kernel_rfl) (fun _ _ _ h => h) (Or.inl ⟨by kernel_rfl, ?_⟩) (by assumption) ?_
  rotate_left
  · intro w hSw
    try dsimp only at hSw
    go_simp
    try (with_reducible rfl)
  try simp only [Act.put, List.getElem_toArray, List.getElem_cons_zero, List.getElem_cons_succ, List.setIfInBounds_toArray, List.set_cons_zero, List.set_cons_succ]
  refine wpAnyH_done (by kernel_rfl) ?_ _
  go_upto_region 37 with fail
  clear d0 d1 d2 d3 d4 e0 e1 e2 e3 e4
  have hN5 := HN4.out.set5N (.int .i64 (r.1.states : Int)) (.int .i64 0) (.slice B1 r.1.links.length j1) (.slice B2 r.1.edges.length j2) (.slice B3 r.1.accept.length j3)
  have hX5 : Blk (((((w4.setCell ⟨w.heap.size, 0, none⟩ (.int .i64 (r.1.states : Int))).setCell ⟨w.heap.size, 1, none⟩ (.int .i64 0)).setCell ⟨w.heap.size, 2, none⟩ (.slice B1 r.1.links.length j1)).setCell ⟨w.heap.size, 3, none⟩ (.slice B2 r.1.edges.length j2)).setCell ⟨w.heap.size, 4, none⟩ (.slice B3 r.1.accept.length j3)) (w.heap.size + 1) 29 _ := (heap_set5N (show w.heap.size + 1 ≠ w.heap.size by omega) _ _ _ _ _).trans HX4.out
  have hZ5 : Blk (((((w4.setCell ⟨w.heap.size, 0, none⟩ (.int .i64 (r.1.states : Int))).setCell ⟨w.heap.size, 1, none⟩ (.int .i64 0)).setCell ⟨w.heap.size, 2, none⟩ (.slice B1 r.1.links.length j1)).setCell ⟨w.heap.size, 3, none⟩ (.slice B2 r.1.edges.length j2)).setCell ⟨w.heap.size, 4, none⟩ (.slice B3 r.1.accept.length j3)) (w.heap.size + 1 + 1) 36 _ := (heap_set5N (show w.heap.size + 1 + 1 ≠ w.heap.size by omega) _ _ _ _ _).trans HZ4.out
  have hM5 := HQ.out.1.set5 HQ.out.2.2.1 (.int .i64 (r.1.states : Int)) (.int .i64 0) (.slice B1 r.1.links.length j1) (.slice B2 r.1.edges.length j2) (.slice B3 r.1.accept.length j3)
  have hV5 := HQ.out.2.1.set5 (g := w.heap.size) (Nat.le_refl _) hb (.int .i64 (r.1.states : Int)) (.int .i64 0) (.slice B1 r.1.links.length j1) (.slice B2 r.1.edges.length j2) (.slice B3 r.1.accept.length j3)
  have hltn5 : w.heap.size < (((((w4.setCell ⟨w.heap.size, 0, none⟩ (.int .i64 (r.1.states : Int))).setCell ⟨w.heap.size, 1, none⟩ (.int .i64 0)).setCell ⟨w.heap.size, 2, none⟩ (.slice B1 r.1.links.length j1)).setCell ⟨w.heap.size, 3, none⟩ (.slice B2 r.1.edges.length j2)).setCell ⟨w.heap.size, 4, none⟩ (.slice B3 r.1.accept.length j3)).heap.size := hN5.lt
  generalize (((((w4.setCell ⟨w.heap.size, 0, none⟩ (.int .i64 (r.1.states : Int))).setCell ⟨w.heap.size, 1, none⟩ (.int .i64 0)).setCell ⟨w.heap.size, 2, none⟩ (.slice B1 r.1.links.length j1)).setCell ⟨w.heap.size, 3, none⟩ (.slice B2 r.1.edges.length j2)).setCell ⟨w.heap.size, 4, none⟩ (.slice B3 r.1.accept.length j3)) = w5 at *
  have HM5 := Lib.hid hM5
  have HV5 := Lib.hid hV5
  have HN5 := Lib.hid hN5
  have HX5 := Lib.hid hX5
  have HZ5 := Lib.hid hZ5
  clear hM5 hV5 hN5 hZ5 hX5 HN4 HX4 HZ4
  have HR := Lib.hid hr
  clear hr HN3 HX3 HZ3 HM3 HV3 hltz hln hlx
  have n0 := HN5.out.cell 0
  have n1 := HN5.out.cell 1
  have n2 := HN5.out.cell 2
  have n3 := HN5.out.cell 3
  have n4 := HN5.out.cell 4
  have HC5 := Lib.hid (rstate_go base S4 r.1 B1 j1 B2 j2 B3 j3 0 w5 HM5.out (by omega) HF.out.1.1)
  unfold mvA at HC5
  go_wp2_with fail
  refine HC5.out.mono ?_
  rintro e w6 ⟨C1, l1, C2, l2, C3, l3, rfl, S6, hM6, hV6⟩
  have HC6 := Lib.hid (rlink_go base S6 (r.1.state 0) C1 l1 C2 l2 C3 l3 r.2 r.1.states w6 hM6 (by have := hV6.size; have := HV5.out.size; omega) HF.out.2.1.2.1)
  have HV6 := Lib.hid hV6
  unfold mvA at HC6 ⊢
  clear hM6 hV6 HC5
  dsimp only
  go_wp2_with fail
  refine HC6.out.mono ?_
  rintro e w7 ⟨D1, p1, D2, p2, D3, p3, rfl, S7, hM7, hV7⟩
  have HC7 := Lib.hid (rlink_go base S7 ((r.1.state 0).link r.2 r.1.states) D1 p1 D2 p2 D3 p3 i r.1.states w7 hM7 (by have := hV7.size; have := HV6.out.size; have := HV5.out.size; omega) HF.out.2.2.2.1)
  have HV7 := Lib.hid (HV6.out.trans hV7)
  unfold mvA at HC7 ⊢
  clear hM7 hV7 HC6 HV6
  dsimp only
  go_wp2_with fail
  refine HC7.out.mono ?_
  rintro e w8 ⟨E1, q1, E2, q2, E3, q3, rfl, S8, hM8, hV8a⟩
  have hV8 := HV7.out.trans hV8a
  have hQ4 := HQ.out.2.2
  have hN8 := HN5.out.moves hV8 hQ4.1
  have hZ8 := HZ5.out.moves hV8 hQ4.2.2
  have HQ8 := Lib.hid (show _ ∧ _ ∧ ¬ S8 w.heap.size ∧ ¬ S8 (w.heap.size + 1 + 1) from ⟨hM8, HV5.out.trans hV8, hV8.notIn (by omega) hQ4.1, hV8.notIn (by have := HZ5.out.lt; omega) hQ4.2.2⟩)
  have d0 := hN8.cell 0
  have d1 := hN8.cell 1
  have d2 := hN8.cell 2
  have d3 := hN8.cell 3
  have d4 := hN8.cell 4
  have e0 := hN8.frozen 0
  have e1 := hN8.frozen 1
  have e2 := hN8.frozen 2
  have e3 := hN8.frozen 3
  have e4 := hN8.frozen 4
  have z0 := hZ8.cell 0
  have z1 := hZ8.cell 1
  have z2 := hZ8.cell 2
  have z3 := hZ8.cell 3
  have z4 := hZ8.cell 4
  have y0 := hZ8.frozen 0
  have y1 := hZ8.frozen 1
  have y2 := hZ8.frozen 2
  have y3 := hZ8.frozen 3
  have y4 := hZ8.frozen 4
  have hltn8 := hN8.lt
  have hltz8 := hZ8.lt
  have HZ8 := Lib.hid hZ8
  clear hN8 hZ8 hM8 hV8 hV8a hQ4 HV7 HC7 HQ HN5 HX5 HZ5 HM5 HV5 n0 n1 n2 n3 n4
  unfold mvA
  dsimp only
  go_wp2
  go_light
  have hof : optF z.lay m i = (((r.1.state 0).link r.2 r.1.states).link i r.1.states, r.1.states) := by unfold optF; rw [HR.out]
  rw [hof]
  generalize ((r.1.state 0).link r.2 r.1.states).link i r.1.states = mm at *
  have hZ9 := ((heap_set5N (show w.heap.size + 1 + 1 ≠ w.heap.size by omega) (.int .i64 (mm.states : Int)) (.int .i64 0) (.slice E1 mm.links.length q1) (.slice E2 mm.edges.length q2) (.slice E3 mm.accept.length q3)).trans HZ8.out : Blk _ (w.heap.size + 1 + 1) 36 _)
  have hZ10 := Blk.set5N (g := w.heap.size + 1 + 1) (t := 36) hZ9 (.int .i64 (mm.states : Int)) (.int .i64 0) (.slice E1 mm.links.length q1) (.slice E2 mm.edges.length q2) (.slice E3 mm.accept.length q3)
  exact bodyPost_ret (ret_nfa Tryz.results23 rfl rfl hZ10) rfl ⟨E1, q1, E2, q2, E3, q3, rfl, S8, (HQ8.out.1.set5 HQ8.out.2.2.1 _ _ _ _ _).set5 HQ8.out.2.2.2 _ _ _ _ _, (HQ8.out.2.1.set5 (Nat.le_refl _) hb _ _ _ _ _).set5 (by omega) hb _ _ _ _ _⟩
end Go.Proofs.YtchfipjclbpomaaGreat
