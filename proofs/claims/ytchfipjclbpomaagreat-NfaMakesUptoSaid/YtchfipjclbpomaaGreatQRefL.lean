/-
  The contract of the reference's lay of chapter 16: what has no kids.
-/
import Derived.Test.YtchfipjclbpomaaGreatQRefM
import Derived.Test.YtchfipjclbpomaaGreatQNfaP
namespace Go.Proofs.YtchfipjclbpomaaGreat
open Go.RowKit
set_option linter.unusedSimpArgs false
set_option linter.unusedVariables false
set_option maxRecDepth 100000

/-- How a call of the reference's lay ends. -/
def RLayOut (base : Nat) (S : Nat → Prop) (w : World) (r : MachS × Nat) (e : Ending) (w' : World) : Prop :=
  ∃ A1 k1 A2 k2 A3 k3, e = .returned (.tuple #[.agg (mvA r.1 A1 k1 A2 k2 A3 k3), .int .i64 (r.2 : Int)]) ∧ ∃ S', MvAt w' base S' r.1 A1 k1 A2 k2 A3 k3 ∧ Moves base S w S' w'
/-- The contract of the reference's laying of a tree. -/
def RLayC (x : Nd) : Prop := ∀ (B : Option Addr) (cap i base : Nat) (S : Nat → Prop) (m : MachS) (A1 : Option Addr) (k1 : Nat) (A2 : Option Addr) (k2 : Nat) (A3 : Option Addr) (k3 : Nat) (w : World), TreesAt w (fun b => ¬ S b) x.kids B → MvAt w base S m A1 k1 A2 k2 A3 k3 → base ≤ w.heap.size → FitsM (x.lay m i).1 →
  Calls Tryz.prog 23 #[.agg (mvA m A1 k1 A2 k2 A3 k3), ndV x B cap, .int .i64 (i : Int)] w (RLayOut base S w (x.lay m i))
theorem cell_block {w w' : World} {b o : Nat} (h : w'.heap[b]? = w.heap[b]?) : w'.cell? ⟨b, o, none⟩ = w.cell? ⟨b, o, none⟩ := by
  simp only [World.cell?, h]
theorem TreesAt.movesS {base : Nat} {S S1 : Nat → Prop} {w w1 : World} {F : Trees} {B : Option Addr} (h : TreesAt w (fun b => ¬ S b) F B) (hm : Moves base S w S1 w1) : TreesAt w1 (fun b => ¬ S1 b) F B :=
  h.keep (fun b o hb hl => cell_block (hm.kept b hl hb)) (fun b hb hl => hm.notIn hl hb)
set_option maxHeartbeats 4000000 in
theorem rlay_empty (x : Nd) (B : Option Addr) (cap i base : Nat) (S : Nat → Prop) (m : MachS) (A1 : Option Addr) (k1 : Nat) (A2 : Option Addr) (k2 : Nat) (A3 : Option Addr) (k3 : Nat) (w : World) (h : MvAt w base S m A1 k1 A2 k2 A3 k3) (hb : base ≤ w.heap.size) (hk : x.kind = 2) : Calls Tryz.prog 23 #[.agg (mvA m A1 k1 A2 k2 A3 k3), ndV x B cap, .int .i64 (i : Int)] w (RLayOut base S w (noF m i)) := by
  have HM3 := Lib.hid (((h.alloc (.cells #[.int .i64 (m.states : Int), .int .i64 0, .slice A1 m.links.length k1, .slice A2 m.edges.length k2, .slice A3 m.accept.length k3] 36)).alloc (.cells #[.int .i64 x.kind, .int .u64 ((word (x.set.testBit) 0 : Nat) : Int), .int .u64 ((word (x.set.testBit) 1 : Nat) : Int), .int .u64 ((word (x.set.testBit) 2 : Nat) : Int), .int .u64 ((word (x.set.testBit) 3 : Nat) : Int), .slice B x.kids.len cap, .int .i64 x.lo, .int .i64 x.hi] 29)).alloc (.cells #[.int .i64 0, .int .i64 0, .slice none 0 0, .slice none 0 0, .slice none 0 0] 36))
  have HV3 := Lib.hid ((((Moves.refl base S w).alloc hb (.cells #[.int .i64 (m.states : Int), .int .i64 0, .slice A1 m.links.length k1, .slice A2 m.edges.length k2, .slice A3 m.accept.length k3] 36)).alloc hb (.cells #[.int .i64 x.kind, .int .u64 ((word (x.set.testBit) 0 : Nat) : Int), .int .u64 ((word (x.set.testBit) 1 : Nat) : Int), .int .u64 ((word (x.set.testBit) 2 : Nat) : Int), .int .u64 ((word (x.set.testBit) 3 : Nat) : Int), .slice B x.kids.len cap, .int .i64 x.lo, .int .i64 x.hi] 29)).alloc hb (.cells #[.int .i64 0, .int .i64 0, .slice none 0 0, .slice none 0 0, .slice none 0 0] 36))
  have HN3 := Lib.hid (((Blk.new w 36 #[.int .i64 (m.states : Int), .int .i64 0, .slice A1 m.links.length k1, .slice A2 m.edges.length k2, .slice A3 m.accept.length k3]).alloc (.cells #[.int .i64 x.kind, .int .u64 ((word (x.set.testBit) 0 : Nat) : Int), .int .u64 ((word (x.set.testBit) 1 : Nat) : Int), .int .u64 ((word (x.set.testBit) 2 : Nat) : Int), .int .u64 ((word (x.set.testBit) 3 : Nat) : Int), .slice B x.kids.len cap, .int .i64 x.lo, .int .i64 x.hi] 29)).alloc (.cells #[.int .i64 0, .int .i64 0, .slice none 0 0, .slice none 0 0, .slice none 0 0] 36))
  have HX3 := Lib.hid (show Blk (((w.alloc (.cells #[.int .i64 (m.states : Int), .int .i64 0, .slice A1 m.links.length k1, .slice A2 m.edges.length k2, .slice A3 m.accept.length k3] 36)).alloc (.cells #[.int .i64 x.kind, .int .u64 ((word (x.set.testBit) 0 : Nat) : Int), .int .u64 ((word (x.set.testBit) 1 : Nat) : Int), .int .u64 ((word (x.set.testBit) 2 : Nat) : Int), .int .u64 ((word (x.set.testBit) 3 : Nat) : Int), .slice B x.kids.len cap, .int .i64 x.lo, .int .i64 x.hi] 29)).alloc (.cells #[.int .i64 0, .int .i64 0, .slice none 0 0, .slice none 0 0, .slice none 0 0] 36)) (w.heap.size + 1) 29 #[.int .i64 x.kind, .int .u64 ((word (x.set.testBit) 0 : Nat) : Int), .int .u64 ((word (x.set.testBit) 1 : Nat) : Int), .int .u64 ((word (x.set.testBit) 2 : Nat) : Int), .int .u64 ((word (x.set.testBit) 3 : Nat) : Int), .slice B x.kids.len cap, .int .i64 x.lo, .int .i64 x.hi] from (Blk.new_at (by simp)).alloc _)
  have HZ3 := Lib.hid (show Blk (((w.alloc (.cells #[.int .i64 (m.states : Int), .int .i64 0, .slice A1 m.links.length k1, .slice A2 m.edges.length k2, .slice A3 m.accept.length k3] 36)).alloc (.cells #[.int .i64 x.kind, .int .u64 ((word (x.set.testBit) 0 : Nat) : Int), .int .u64 ((word (x.set.testBit) 1 : Nat) : Int), .int .u64 ((word (x.set.testBit) 2 : Nat) : Int), .int .u64 ((word (x.set.testBit) 3 : Nat) : Int), .slice B x.kids.len cap, .int .i64 x.lo, .int .i64 x.hi] 29)).alloc (.cells #[.int .i64 0, .int .i64 0, .slice none 0 0, .slice none 0 0, .slice none 0 0] 36)) (w.heap.size + 1 + 1) 36 #[.int .i64 0, .int .i64 0, .slice none 0 0, .slice none 0 0, .slice none 0 0] from Blk.new_at (by simp))
  have HNS := Lib.hid (show ¬ S w.heap.size ∧ ¬ S (w.heap.size + 1) ∧ ¬ S (w.heap.size + 1 + 1) from ⟨fun h' => by have := (h.lt _ h').2; omega, fun h' => by have := (h.lt _ h').2; omega, fun h' => by have := (h.lt _ h').2; omega⟩)
  have hsz3 : (((w.alloc (.cells #[.int .i64 (m.states : Int), .int .i64 0, .slice A1 m.links.length k1, .slice A2 m.edges.length k2, .slice A3 m.accept.length k3] 36)).alloc (.cells #[.int .i64 x.kind, .int .u64 ((word (x.set.testBit) 0 : Nat) : Int), .int .u64 ((word (x.set.testBit) 1 : Nat) : Int), .int .u64 ((word (x.set.testBit) 2 : Nat) : Int), .int .u64 ((word (x.set.testBit) 3 : Nat) : Int), .slice B x.kids.len cap, .int .i64 x.lo, .int .i64 x.hi] 29)).alloc (.cells #[.int .i64 0, .int .i64 0, .slice none 0 0, .slice none 0 0, .slice none 0 0] 36)).heap.size = w.heap.size + 1 + 1 + 1 := by simp
  unfold ndV mvA at *

  rw [hk] at *
  have HH := Lib.hid h
  clear h hk
  go_enter Tryz.func23, Tryz.ntmps23
  go_wp2
  go_light
  exact bodyPost_ret (ret_nfa Tryz.results23 rfl rfl (Blk.new_at (by simp))) rfl ⟨A1, k1, A2, k2, A3, k3, rfl, S, ((HH.out.alloc _).alloc _).alloc _, (((Moves.refl base S w).alloc hb _).alloc hb _).alloc hb _⟩
set_option maxHeartbeats 4000000 in
theorem rlay_none (x : Nd) (B : Option Addr) (cap i base : Nat) (S : Nat → Prop) (m : MachS) (A1 : Option Addr) (k1 : Nat) (A2 : Option Addr) (k2 : Nat) (A3 : Option Addr) (k3 : Nat) (w : World) (h : MvAt w base S m A1 k1 A2 k2 A3 k3) (hb : base ≤ w.heap.size) (hk : x.kind = 1) (hf : FitsM (nilF m i).1) : Calls Tryz.prog 23 #[.agg (mvA m A1 k1 A2 k2 A3 k3), ndV x B cap, .int .i64 (i : Int)] w (RLayOut base S w (nilF m i)) := by
  have HM3 := Lib.hid (((h.alloc (.cells #[.int .i64 (m.states : Int), .int .i64 0, .slice A1 m.links.length k1, .slice A2 m.edges.length k2, .slice A3 m.accept.length k3] 36)).alloc (.cells #[.int .i64 x.kind, .int .u64 ((word (x.set.testBit) 0 : Nat) : Int), .int .u64 ((word (x.set.testBit) 1 : Nat) : Int), .int .u64 ((word (x.set.testBit) 2 : Nat) : Int), .int .u64 ((word (x.set.testBit) 3 : Nat) : Int), .slice B x.kids.len cap, .int .i64 x.lo, .int .i64 x.hi] 29)).alloc (.cells #[.int .i64 0, .int .i64 0, .slice none 0 0, .slice none 0 0, .slice none 0 0] 36))
  have HV3 := Lib.hid ((((Moves.refl base S w).alloc hb (.cells #[.int .i64 (m.states : Int), .int .i64 0, .slice A1 m.links.length k1, .slice A2 m.edges.length k2, .slice A3 m.accept.length k3] 36)).alloc hb (.cells #[.int .i64 x.kind, .int .u64 ((word (x.set.testBit) 0 : Nat) : Int), .int .u64 ((word (x.set.testBit) 1 : Nat) : Int), .int .u64 ((word (x.set.testBit) 2 : Nat) : Int), .int .u64 ((word (x.set.testBit) 3 : Nat) : Int), .slice B x.kids.len cap, .int .i64 x.lo, .int .i64 x.hi] 29)).alloc hb (.cells #[.int .i64 0, .int .i64 0, .slice none 0 0, .slice none 0 0, .slice none 0 0] 36))
  have HN3 := Lib.hid (((Blk.new w 36 #[.int .i64 (m.states : Int), .int .i64 0, .slice A1 m.links.length k1, .slice A2 m.edges.length k2, .slice A3 m.accept.length k3]).alloc (.cells #[.int .i64 x.kind, .int .u64 ((word (x.set.testBit) 0 : Nat) : Int), .int .u64 ((word (x.set.testBit) 1 : Nat) : Int), .int .u64 ((word (x.set.testBit) 2 : Nat) : Int), .int .u64 ((word (x.set.testBit) 3 : Nat) : Int), .slice B x.kids.len cap, .int .i64 x.lo, .int .i64 x.hi] 29)).alloc (.cells #[.int .i64 0, .int .i64 0, .slice none 0 0, .slice none 0 0, .slice none 0 0] 36))
  have HX3 := Lib.hid (show Blk (((w.alloc (.cells #[.int .i64 (m.states : Int), .int .i64 0, .slice A1 m.links.length k1, .slice A2 m.edges.length k2, .slice A3 m.accept.length k3] 36)).alloc (.cells #[.int .i64 x.kind, .int .u64 ((word (x.set.testBit) 0 : Nat) : Int), .int .u64 ((word (x.set.testBit) 1 : Nat) : Int), .int .u64 ((word (x.set.testBit) 2 : Nat) : Int), .int .u64 ((word (x.set.testBit) 3 : Nat) : Int), .slice B x.kids.len cap, .int .i64 x.lo, .int .i64 x.hi] 29)).alloc (.cells #[.int .i64 0, .int .i64 0, .slice none 0 0, .slice none 0 0, .slice none 0 0] 36)) (w.heap.size + 1) 29 #[.int .i64 x.kind, .int .u64 ((word (x.set.testBit) 0 : Nat) : Int), .int .u64 ((word (x.set.testBit) 1 : Nat) : Int), .int .u64 ((word (x.set.testBit) 2 : Nat) : Int), .int .u64 ((word (x.set.testBit) 3 : Nat) : Int), .slice B x.kids.len cap, .int .i64 x.lo, .int .i64 x.hi] from (Blk.new_at (by simp)).alloc _)
  have HZ3 := Lib.hid (show Blk (((w.alloc (.cells #[.int .i64 (m.states : Int), .int .i64 0, .slice A1 m.links.length k1, .slice A2 m.edges.length k2, .slice A3 m.accept.length k3] 36)).alloc (.cells #[.int .i64 x.kind, .int .u64 ((word (x.set.testBit) 0 : Nat) : Int), .int .u64 ((word (x.set.testBit) 1 : Nat) : Int), .int .u64 ((word (x.set.testBit) 2 : Nat) : Int), .int .u64 ((word (x.set.testBit) 3 : Nat) : Int), .slice B x.kids.len cap, .int .i64 x.lo, .int .i64 x.hi] 29)).alloc (.cells #[.int .i64 0, .int .i64 0, .slice none 0 0, .slice none 0 0, .slice none 0 0] 36)) (w.heap.size + 1 + 1) 36 #[.int .i64 0, .int .i64 0, .slice none 0 0, .slice none 0 0, .slice none 0 0] from Blk.new_at (by simp))
  have HNS := Lib.hid (show ¬ S w.heap.size ∧ ¬ S (w.heap.size + 1) ∧ ¬ S (w.heap.size + 1 + 1) from ⟨fun h' => by have := (h.lt _ h').2; omega, fun h' => by have := (h.lt _ h').2; omega, fun h' => by have := (h.lt _ h').2; omega⟩)
  have hsz3 : (((w.alloc (.cells #[.int .i64 (m.states : Int), .int .i64 0, .slice A1 m.links.length k1, .slice A2 m.edges.length k2, .slice A3 m.accept.length k3] 36)).alloc (.cells #[.int .i64 x.kind, .int .u64 ((word (x.set.testBit) 0 : Nat) : Int), .int .u64 ((word (x.set.testBit) 1 : Nat) : Int), .int .u64 ((word (x.set.testBit) 2 : Nat) : Int), .int .u64 ((word (x.set.testBit) 3 : Nat) : Int), .slice B x.kids.len cap, .int .i64 x.lo, .int .i64 x.hi] 29)).alloc (.cells #[.int .i64 0, .int .i64 0, .slice none 0 0, .slice none 0 0, .slice none 0 0] 36)).heap.size = w.heap.size + 1 + 1 + 1 := by simp
  unfold ndV mvA at *

  have HC := Lib.hid (rstate_go base S m A1 k1 A2 k2 A3 k3 0 (((w.alloc (.cells #[.int .i64 (m.states : Int), .int .i64 0, .slice A1 m.links.length k1, .slice A2 m.edges.length k2, .slice A3 m.accept.length k3] 36)).alloc (.cells #[.int .i64 x.kind, .int .u64 ((word (x.set.testBit) 0 : Nat) : Int), .int .u64 ((word (x.set.testBit) 1 : Nat) : Int), .int .u64 ((word (x.set.testBit) 2 : Nat) : Int), .int .u64 ((word (x.set.testBit) 3 : Nat) : Int), .slice B x.kids.len cap, .int .i64 x.lo, .int .i64 x.hi] 29)).alloc (.cells #[.int .i64 0, .int .i64 0, .slice none 0 0, .slice none 0 0, .slice none 0 0] 36)) HM3.out (by omega) (hf.of (ExtM.state m 0)).1)
  unfold mvA at HC
  rw [hk] at *
  clear h hk hf
  go_enter Tryz.func23, Tryz.ntmps23
  go_wp2_with fail
  refine HC.out.mono ?_
  rintro e w4 ⟨B1, j1, B2, j2, B3, j3, rfl, S4, hM4, hV4⟩
  have hZ4 := HZ3.out.moves hV4 HNS.out.2.2
  have d0 := hZ4.cell 0
  have d1 := hZ4.cell 1
  have d2 := hZ4.cell 2
  have d3 := hZ4.cell 3
  have d4 := hZ4.cell 4
  have e0 := hZ4.frozen 0
  have e1 := hZ4.frozen 1
  have e2 := hZ4.frozen 2
  have e3 := hZ4.frozen 3
  have e4 := hZ4.frozen 4
  have hltz := hZ4.lt
  have HZ4 := Lib.hid hZ4
  have HQ := Lib.hid (show _ ∧ _ ∧ ¬ S4 (w.heap.size + 1 + 1) from ⟨hM4, HV3.out.trans hV4, hV4.notIn (by omega) HNS.out.2.2⟩)
  clear hZ4 hM4 hV4 HC
  unfold mvA
  dsimp only
  go_wp2
  go_light
  have hZ5 := HZ4.out.set5N (.int .i64 ((m.state 0).states : Int)) (.int .i64 0) (.slice B1 (m.state 0).links.length j1) (.slice B2 (m.state 0).edges.length j2) (.slice B3 (m.state 0).accept.length j3)
  exact bodyPost_ret (ret_nfa Tryz.results23 rfl rfl hZ5) rfl ⟨B1, j1, B2, j2, B3, j3, rfl, S4, HQ.out.1.set5 HQ.out.2.2 _ _ _ _ _, HQ.out.2.1.set5 (by omega) hb _ _ _ _ _⟩
set_option maxHeartbeats 4000000 in
theorem rlay_set (x : Nd) (B : Option Addr) (cap i base : Nat) (S : Nat → Prop) (m : MachS) (A1 : Option Addr) (k1 : Nat) (A2 : Option Addr) (k2 : Nat) (A3 : Option Addr) (k3 : Nat) (w : World) (h : MvAt w base S m A1 k1 A2 k2 A3 k3) (hb : base ≤ w.heap.size) (hk : x.kind = 3) (hf : FitsM (setF x.set m i).1) : Calls Tryz.prog 23 #[.agg (mvA m A1 k1 A2 k2 A3 k3), ndV x B cap, .int .i64 (i : Int)] w (RLayOut base S w (setF x.set m i)) := by
  have HM3 := Lib.hid (((h.alloc (.cells #[.int .i64 (m.states : Int), .int .i64 0, .slice A1 m.links.length k1, .slice A2 m.edges.length k2, .slice A3 m.accept.length k3] 36)).alloc (.cells #[.int .i64 x.kind, .int .u64 ((word (x.set.testBit) 0 : Nat) : Int), .int .u64 ((word (x.set.testBit) 1 : Nat) : Int), .int .u64 ((word (x.set.testBit) 2 : Nat) : Int), .int .u64 ((word (x.set.testBit) 3 : Nat) : Int), .slice B x.kids.len cap, .int .i64 x.lo, .int .i64 x.hi] 29)).alloc (.cells #[.int .i64 0, .int .i64 0, .slice none 0 0, .slice none 0 0, .slice none 0 0] 36))
  have HV3 := Lib.hid ((((Moves.refl base S w).alloc hb (.cells #[.int .i64 (m.states : Int), .int .i64 0, .slice A1 m.links.length k1, .slice A2 m.edges.length k2, .slice A3 m.accept.length k3] 36)).alloc hb (.cells #[.int .i64 x.kind, .int .u64 ((word (x.set.testBit) 0 : Nat) : Int), .int .u64 ((word (x.set.testBit) 1 : Nat) : Int), .int .u64 ((word (x.set.testBit) 2 : Nat) : Int), .int .u64 ((word (x.set.testBit) 3 : Nat) : Int), .slice B x.kids.len cap, .int .i64 x.lo, .int .i64 x.hi] 29)).alloc hb (.cells #[.int .i64 0, .int .i64 0, .slice none 0 0, .slice none 0 0, .slice none 0 0] 36))
  have HN3 := Lib.hid (((Blk.new w 36 #[.int .i64 (m.states : Int), .int .i64 0, .slice A1 m.links.length k1, .slice A2 m.edges.length k2, .slice A3 m.accept.length k3]).alloc (.cells #[.int .i64 x.kind, .int .u64 ((word (x.set.testBit) 0 : Nat) : Int), .int .u64 ((word (x.set.testBit) 1 : Nat) : Int), .int .u64 ((word (x.set.testBit) 2 : Nat) : Int), .int .u64 ((word (x.set.testBit) 3 : Nat) : Int), .slice B x.kids.len cap, .int .i64 x.lo, .int .i64 x.hi] 29)).alloc (.cells #[.int .i64 0, .int .i64 0, .slice none 0 0, .slice none 0 0, .slice none 0 0] 36))
  have HX3 := Lib.hid (show Blk (((w.alloc (.cells #[.int .i64 (m.states : Int), .int .i64 0, .slice A1 m.links.length k1, .slice A2 m.edges.length k2, .slice A3 m.accept.length k3] 36)).alloc (.cells #[.int .i64 x.kind, .int .u64 ((word (x.set.testBit) 0 : Nat) : Int), .int .u64 ((word (x.set.testBit) 1 : Nat) : Int), .int .u64 ((word (x.set.testBit) 2 : Nat) : Int), .int .u64 ((word (x.set.testBit) 3 : Nat) : Int), .slice B x.kids.len cap, .int .i64 x.lo, .int .i64 x.hi] 29)).alloc (.cells #[.int .i64 0, .int .i64 0, .slice none 0 0, .slice none 0 0, .slice none 0 0] 36)) (w.heap.size + 1) 29 #[.int .i64 x.kind, .int .u64 ((word (x.set.testBit) 0 : Nat) : Int), .int .u64 ((word (x.set.testBit) 1 : Nat) : Int), .int .u64 ((word (x.set.testBit) 2 : Nat) : Int), .int .u64 ((word (x.set.testBit) 3 : Nat) : Int), .slice B x.kids.len cap, .int .i64 x.lo, .int .i64 x.hi] from (Blk.new_at (by simp)).alloc _)
  have HZ3 := Lib.hid (show Blk (((w.alloc (.cells #[.int .i64 (m.states : Int), .int .i64 0, .slice A1 m.links.length k1, .slice A2 m.edges.length k2, .slice A3 m.accept.length k3] 36)).alloc (.cells #[.int .i64 x.kind, .int .u64 ((word (x.set.testBit) 0 : Nat) : Int), .int .u64 ((word (x.set.testBit) 1 : Nat) : Int), .int .u64 ((word (x.set.testBit) 2 : Nat) : Int), .int .u64 ((word (x.set.testBit) 3 : Nat) : Int), .slice B x.kids.len cap, .int .i64 x.lo, .int .i64 x.hi] 29)).alloc (.cells #[.int .i64 0, .int .i64 0, .slice none 0 0, .slice none 0 0, .slice none 0 0] 36)) (w.heap.size + 1 + 1) 36 #[.int .i64 0, .int .i64 0, .slice none 0 0, .slice none 0 0, .slice none 0 0] from Blk.new_at (by simp))
  have HNS := Lib.hid (show ¬ S w.heap.size ∧ ¬ S (w.heap.size + 1) ∧ ¬ S (w.heap.size + 1 + 1) from ⟨fun h' => by have := (h.lt _ h').2; omega, fun h' => by have := (h.lt _ h').2; omega, fun h' => by have := (h.lt _ h').2; omega⟩)
  have hsz3 : (((w.alloc (.cells #[.int .i64 (m.states : Int), .int .i64 0, .slice A1 m.links.length k1, .slice A2 m.edges.length k2, .slice A3 m.accept.length k3] 36)).alloc (.cells #[.int .i64 x.kind, .int .u64 ((word (x.set.testBit) 0 : Nat) : Int), .int .u64 ((word (x.set.testBit) 1 : Nat) : Int), .int .u64 ((word (x.set.testBit) 2 : Nat) : Int), .int .u64 ((word (x.set.testBit) 3 : Nat) : Int), .slice B x.kids.len cap, .int .i64 x.lo, .int .i64 x.hi] 29)).alloc (.cells #[.int .i64 0, .int .i64 0, .slice none 0 0, .slice none 0 0, .slice none 0 0] 36)).heap.size = w.heap.size + 1 + 1 + 1 := by simp
  unfold ndV mvA at *

  have hf1 := hf.of (ExtM.edge (m.state 0) i x.set m.states)
  have hfe : (m.state 0).edges.length ≤ 1000000000000 := hf1.2.2
  have HC := Lib.hid (rstate_go base S m A1 k1 A2 k2 A3 k3 0 (((w.alloc (.cells #[.int .i64 (m.states : Int), .int .i64 0, .slice A1 m.links.length k1, .slice A2 m.edges.length k2, .slice A3 m.accept.length k3] 36)).alloc (.cells #[.int .i64 x.kind, .int .u64 ((word (x.set.testBit) 0 : Nat) : Int), .int .u64 ((word (x.set.testBit) 1 : Nat) : Int), .int .u64 ((word (x.set.testBit) 2 : Nat) : Int), .int .u64 ((word (x.set.testBit) 3 : Nat) : Int), .slice B x.kids.len cap, .int .i64 x.lo, .int .i64 x.hi] 29)).alloc (.cells #[.int .i64 0, .int .i64 0, .slice none 0 0, .slice none 0 0, .slice none 0 0] 36)) HM3.out (by omega) (hf1.of (ExtM.state m 0)).1)
  unfold mvA at HC
  rw [hk] at *
  clear h hk hf hf1
  go_enter Tryz.func23, Tryz.ntmps23
  go_wp2_with fail
  refine HC.out.mono ?_
  rintro e w4 ⟨B1, j1, B2, j2, B3, j3, rfl, S4, hM4, hV4⟩
  have hN4 := HN3.out.moves hV4 HNS.out.1
  have d0 := hN4.cell 0
  have d1 := hN4.cell 1
  have d2 := hN4.cell 2
  have d3 := hN4.cell 3
  have d4 := hN4.cell 4
  have e0 := hN4.frozen 0
  have e1 := hN4.frozen 1
  have e2 := hN4.frozen 2
  have e3 := hN4.frozen 3
  have e4 := hN4.frozen 4
  have hltz := hN4.lt
  have HN4 := Lib.hid hN4
  have HX4 := Lib.hid (HX3.out.moves hV4 HNS.out.2.1)
  have HZ4 := Lib.hid (HZ3.out.moves hV4 HNS.out.2.2)
  have HQ := Lib.hid (show _ ∧ _ ∧ ¬ S4 w.heap.size ∧ ¬ S4 (w.heap.size + 1) ∧ ¬ S4 (w.heap.size + 1 + 1) from ⟨hM4, HV3.out.trans hV4, hV4.notIn (by omega) HNS.out.1, hV4.notIn (by omega) HNS.out.2.1, hV4.notIn (by omega) HNS.out.2.2⟩)
  clear hN4 hM4 hV4 HC
  unfold mvA
  dsimp only
  go_upto_region 8 with fail
  clear d0 d1 d2 d3 d4 e0 e1 e2 e3 e4
  generalize hmm : m.state 0 = mm at *
  have hN5 := HN4.out.set5N (.int .i64 (mm.states : Int)) (.int .i64 0) (.slice B1 mm.links.length j1) (.slice B2 mm.edges.length j2) (.slice B3 mm.accept.length j3)
  have hX5 : Blk (((((w4.setCell ⟨w.heap.size, 0, none⟩ (.int .i64 (mm.states : Int))).setCell ⟨w.heap.size, 1, none⟩ (.int .i64 0)).setCell ⟨w.heap.size, 2, none⟩ (.slice B1 mm.links.length j1)).setCell ⟨w.heap.size, 3, none⟩ (.slice B2 mm.edges.length j2)).setCell ⟨w.heap.size, 4, none⟩ (.slice B3 mm.accept.length j3)) (w.heap.size + 1) 29 _ := (heap_set5N (show w.heap.size + 1 ≠ w.heap.size by omega) _ _ _ _ _).trans HX4.out
  have hZ5 : Blk (((((w4.setCell ⟨w.heap.size, 0, none⟩ (.int .i64 (mm.states : Int))).setCell ⟨w.heap.size, 1, none⟩ (.int .i64 0)).setCell ⟨w.heap.size, 2, none⟩ (.slice B1 mm.links.length j1)).setCell ⟨w.heap.size, 3, none⟩ (.slice B2 mm.edges.length j2)).setCell ⟨w.heap.size, 4, none⟩ (.slice B3 mm.accept.length j3)) (w.heap.size + 1 + 1) 36 _ := (heap_set5N (show w.heap.size + 1 + 1 ≠ w.heap.size by omega) _ _ _ _ _).trans HZ4.out
  have hM5 := HQ.out.1.set5 HQ.out.2.2.1 (.int .i64 (mm.states : Int)) (.int .i64 0) (.slice B1 mm.links.length j1) (.slice B2 mm.edges.length j2) (.slice B3 mm.accept.length j3)
  have hV5 := HQ.out.2.1.set5 (g := w.heap.size) (Nat.le_refl _) hb (.int .i64 (mm.states : Int)) (.int .i64 0) (.slice B1 mm.links.length j1) (.slice B2 mm.edges.length j2) (.slice B3 mm.accept.length j3)
  generalize (((((w4.setCell ⟨w.heap.size, 0, none⟩ (.int .i64 (mm.states : Int))).setCell ⟨w.heap.size, 1, none⟩ (.int .i64 0)).setCell ⟨w.heap.size, 2, none⟩ (.slice B1 mm.links.length j1)).setCell ⟨w.heap.size, 3, none⟩ (.slice B2 mm.edges.length j2)).setCell ⟨w.heap.size, 4, none⟩ (.slice B3 mm.accept.length j3)) = w5 at *
  have HM5 := Lib.hid hM5
  have HV5 := Lib.hid hV5
  have HN5 := Lib.hid hN5
  have HZ5 := Lib.hid hZ5
  have HMM := Lib.hid hmm
  obtain ⟨i0, hi, hz0, hz1, hz2⟩ := info_parts info_edgeN
  have x3 : w5.cell? ⟨w.heap.size, 3, none⟩ = some (.slice B2 mm.edges.length j2) := hN5.cell 3
  have f3 := hN5.frozen 3
  have y1 : w5.cell? ⟨w.heap.size + 1, 1, none⟩ = some (.int .u64 ((word x.set.testBit 0 : Nat) : Int)) := hX5.cell 1
  have y2 : w5.cell? ⟨w.heap.size + 1, 2, none⟩ = some (.int .u64 ((word x.set.testBit 1 : Nat) : Int)) := hX5.cell 2
  have y3 : w5.cell? ⟨w.heap.size + 1, 3, none⟩ = some (.int .u64 ((word x.set.testBit 2 : Nat) : Int)) := hX5.cell 3
  have y4 : w5.cell? ⟨w.heap.size + 1, 4, none⟩ = some (.int .u64 ((word x.set.testBit 3 : Nat) : Int)) := hX5.cell 4
  have hln := hN5.lt
  have hlx := hX5.lt
  have hb5 : base ≤ w5.heap.size := by omega
  have h63 : mm.edges.length + 1 ≤ maxLen := Nat.le_trans (by omega) (show 2000000000000 ≤ maxLen by decide)
  have hby : (mm.edges.length + 1) * 48 ≤ 140737488355328 := by omega
  clear hM5 hV5 hN5 hZ5 hX5 hmm HN4 HX4 HZ4 HM3 HV3 HN3 HX3 HZ3 hltz
  go_wp2_with (at_builtin; refine wpList_append_lies _ rfl _ _ 33 rfl base 62 i0 _ 6 48 Tryz.underlying33 hi hz0 hz1 hz2 rfl (by decide) (.slice B2 mm.edges.length j2) mm.edges.length (edgeCells mm.edges) rfl (HM5.out.rows.e.alloc _) ⟨w5.heap.size, 0, none⟩ 1 1 (edgeCell (i, x.set, m.states)) rfl rfl (World.news_of_block (cs := #[.int .i64 (i : Int), .int .u64 ((word x.set.testBit 0 : Nat) : Int), .int .u64 ((word x.set.testBit 1 : Nat) : Int), .int .u64 ((word x.set.testBit 2 : Nat) : Int), .int .u64 ((word x.set.testBit 3 : Nat) : Int), .int .i64 (m.states : Int)]) (t := 62) (fr := (0, 0)) (heap_alloc_new w5 _)) (by simp [edgeCell, Value.oneCell']) (by decide) h63 hby (by simp; omega) (w5.heap.size + 1) (by simp) ?_; intro gg cap' w6 hown1 hgrow hat hlt1; have hp := mv_edge (i := i) (s := x.set) (j := m.states) HM5.out hb5 ((Below.refl _ _).alloc (Nat.le_refl _) _) hgrow hown1 hat (by omega); have hN6 := Blk.grown (Blk.alloc HN5.out _) hgrow (fun e => HQ.out.2.2.1 (HM5.out.in3.e _ e.symm)); have hZ6 := Blk.grown (Blk.alloc HZ5.out _) hgrow (fun e => HQ.out.2.2.2.2 (HM5.out.in3.e _ e.symm)); have c0 := hN6.cell 0; have c1 := hN6.cell 1; have c2 := hN6.cell 2; have c3 := hN6.cell 3; have c4 := hN6.cell 4; have g3 := hN6.frozen 3; have d0 := hZ6.cell 0; have d1 := hZ6.cell 1; have d2 := hZ6.cell 2; have d3 := hZ6.cell 3; have d4 := hZ6.cell 4; have e0 := hZ6.frozen 0; have e1 := hZ6.frozen 1; have e2 := hZ6.frozen 2; have e3 := hZ6.frozen 3; have e4 := hZ6.frozen 4; have hltz := hZ6.lt; have HZ6 := Lib.hid hZ6; have HP := Lib.hid hp; have Hat := Lib.hid hat; clear hN6 hZ6 hp hown1 hgrow hat hlt1)
  go_light
  have hgg : ¬ (S4 w.heap.size ∨ w.heap.size = gg) ∧ ¬ (S4 (w.heap.size + 1 + 1) ∨ w.heap.size + 1 + 1 = gg) := by
    have hz5 := HZ5.out.lt
    rcases Hat.out with h | h
    · have h1 := HM5.out.in3.e _ h
      exact ⟨fun h2 => by
        rcases h2 with h2 | h2
        · exact HQ.out.2.2.1 h2
        · exact HQ.out.2.2.1 (h2 ▸ h1), fun h2 => by
        rcases h2 with h2 | h2
        · exact HQ.out.2.2.2.2 h2
        · exact HQ.out.2.2.2.2 (h2 ▸ h1)⟩
    · exact ⟨fun h2 => by
        rcases h2 with h2 | h2
        · exact HQ.out.2.2.1 h2
        · omega, fun h2 => by
        rcases h2 with h2 | h2
        · exact HQ.out.2.2.2.2 h2
        · omega⟩
  have hel : (mm.edge i x.set m.states).edges.length = mm.edges.length + 1 := by simp [MachS.edge]
  have hZ7 := (HZ6.out.far (p := ⟨w.heap.size, 3, none⟩) (by simp; omega) (.slice (some ⟨gg, 0, none⟩) (mm.edges.length + 1) cap')).set5N (.int .i64 (mm.states : Int)) (.int .i64 0) (.slice B1 mm.links.length j1) (.slice (some ⟨gg, 0, none⟩) (mm.edges.length + 1) cap') (.slice B3 mm.accept.length j3)
  have hsf : (setF x.set m i) = (mm.edge i x.set m.states, m.states) := by unfold setF; rw [HMM.out]
  rw [hsf]
  refine bodyPost_ret (ret_nfa Tryz.results23 rfl rfl hZ7) rfl ⟨B1, j1, some ⟨gg, 0, none⟩, cap', B3, j3, by rw [← hel]; rfl, _, (HP.out.1.set (p := ⟨w.heap.size, 3, none⟩) hgg.1 _).set5 hgg.2 _ _ _ _ _, ?_⟩
  exact ((HV5.out.trans HP.out.2).set (p := ⟨w.heap.size, 3, none⟩) (Nat.le_refl _) hb _).set5 (by omega) hb _ _ _ _ _
end Go.Proofs.YtchfipjclbpomaaGreat
