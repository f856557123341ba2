/-
  The frame of the reference's lay of chapter 16: its box of the machine, its box of the node, its box of the result, and the machine as it stands.
-/
import Derived.Test.YtchfipjclbpomaaGreatQRefK
namespace Go.Proofs.YtchfipjclbpomaaGreat
open Go.RowKit
set_option linter.unusedSimpArgs false
set_option linter.unusedVariables false
set_option maxRecDepth 100000

structure Fr (w : World) (base : Nat) (S : Nat → Prop) (nd : Array Value) (S1 : Nat → Prop) (m1 : MachS) (A1 : Option Addr) (k1 : Nat) (A2 : Option Addr) (k2 : Nat) (A3 : Option Addr) (k3 : Nat) (nv : Array Value) (w1 : World) : Prop where
  n : Blk w1 w.heap.size 36 nv
  x : Blk w1 (w.heap.size + 1) 29 nd
  z : Blk w1 (w.heap.size + 1 + 1) 36 #[.int .i64 0, .int .i64 0, .slice none 0 0, .slice none 0 0, .slice none 0 0]
  mv : MvAt w1 base S1 m1 A1 k1 A2 k2 A3 k3
  mvs : Moves base S w S1 w1
  nn : ¬ S1 w.heap.size
  nx : ¬ S1 (w.heap.size + 1)
  nz : ¬ S1 (w.heap.size + 1 + 1)
  hb : base ≤ w.heap.size
theorem Fr.start {w : World} {base : Nat} {S : Nat → Prop} {m : MachS} {A1 A2 A3 : Option Addr} {k1 k2 k3 : Nat} (h : MvAt w base S m A1 k1 A2 k2 A3 k3) (hb : base ≤ w.heap.size) (nv nd : Array Value) :
    Fr w base S nd S m A1 k1 A2 k2 A3 k3 nv (((w.alloc (.cells nv 36)).alloc (.cells nd 29)).alloc (.cells #[.int .i64 0, .int .i64 0, .slice none 0 0, .slice none 0 0, .slice none 0 0] 36)) :=
  ⟨((Blk.new w 36 nv).alloc _).alloc _, (Blk.new_at (by simp)).alloc _, Blk.new_at (by simp), ((h.alloc _).alloc _).alloc _, (((Moves.refl base S w).alloc hb _).alloc hb _).alloc hb _,
    fun h' => by have := (h.lt _ h').2; omega, fun h' => by have := (h.lt _ h').2; omega, fun h' => by have := (h.lt _ h').2; omega, hb⟩
theorem Fr.drew {w w1 : World} {base : Nat} {S S1 : Nat → Prop} {nd nv : Array Value} {m1 : MachS} {A1 A2 A3 : Option Addr} {k1 k2 k3 : Nat} (h : Fr w base S nd S1 m1 A1 k1 A2 k2 A3 k3 nv w1) : Fr w base S nd S1 m1 A1 k1 A2 k2 A3 k3 nv w1.drew :=
  ⟨h.n, h.x, h.z, h.mv.drew, h.mvs.drew, h.nn, h.nx, h.nz, h.hb⟩
theorem Fr.size {w w1 : World} {base : Nat} {S S1 : Nat → Prop} {nd nv : Array Value} {m1 : MachS} {A1 A2 A3 : Option Addr} {k1 k2 k3 : Nat} (h : Fr w base S nd S1 m1 A1 k1 A2 k2 A3 k3 nv w1) : base ≤ w1.heap.size := by
  have := h.mvs.size
  have := h.hb
  omega
theorem Fr.go {w w1 : World} {base : Nat} {S S1 : Nat → Prop} {nd nv : Array Value} {m1 : MachS} {A1 A2 A3 : Option Addr} {k1 k2 k3 : Nat} (h : Fr w base S nd S1 m1 A1 k1 A2 k2 A3 k3 nv w1) {w2 : World} {S2 : Nat → Prop} {m2 : MachS} {B1 B2 B3 : Option Addr} {j1 j2 j3 : Nat} (hm : MvAt w2 base S2 m2 B1 j1 B2 j2 B3 j3) (hv : Moves base S1 w1 S2 w2) : Fr w base S nd S2 m2 B1 j1 B2 j2 B3 j3 nv w2 :=
  ⟨h.n.moves hv h.nn, h.x.moves hv h.nx, h.z.moves hv h.nz, hm, h.mvs.trans hv, hv.notIn h.n.lt h.nn, hv.notIn h.x.lt h.nx, hv.notIn h.z.lt h.nz, h.hb⟩
theorem Fr.below {w w1 : World} {base : Nat} {S S1 : Nat → Prop} {nd nv : Array Value} {m1 : MachS} {A1 A2 A3 : Option Addr} {k1 k2 k3 : Nat} (h : Fr w base S nd S1 m1 A1 k1 A2 k2 A3 k3 nv w1) {w2 : World} (hB : Below w1.heap.size w1 w2) : Fr w base S nd S1 m1 A1 k1 A2 k2 A3 k3 nv w2 :=
  h.go (h.mv.keep hB.size (fun b hb => hB.block b (h.mv.lt b hb).2)) (Moves.of_below hB h.size)
theorem Fr.store {w w1 : World} {base : Nat} {S S1 : Nat → Prop} {nd : Array Value} {m1 : MachS} {A1 A2 A3 : Option Addr} {k1 k2 k3 : Nat} {b0 b1 b2 b3 b4 : Value} (h : Fr w base S nd S1 m1 A1 k1 A2 k2 A3 k3 #[b0, b1, b2, b3, b4] w1) (a0 a1 a2 a3 a4 : Value) : Fr w base S nd S1 m1 A1 k1 A2 k2 A3 k3 #[a0, a1, a2, a3, a4] (((((w1.setCell ⟨w.heap.size, 0, none⟩ a0).setCell ⟨w.heap.size, 1, none⟩ a1).setCell ⟨w.heap.size, 2, none⟩ a2).setCell ⟨w.heap.size, 3, none⟩ a3).setCell ⟨w.heap.size, 4, none⟩ a4) :=
  ⟨h.n.set5N a0 a1 a2 a3 a4, (heap_set5N (show w.heap.size + 1 ≠ w.heap.size by omega) _ _ _ _ _).trans h.x, (heap_set5N (show w.heap.size + 1 + 1 ≠ w.heap.size by omega) _ _ _ _ _).trans h.z, h.mv.set5 h.nn _ _ _ _ _, h.mvs.set5 (Nat.le_refl _) h.hb _ _ _ _ _, h.nn, h.nx, h.nz, h.hb⟩
/-- The machine given back. -/
theorem Fr.give {w w1 : World} {base : Nat} {S S1 : Nat → Prop} {nd nv : Array Value} {m1 : MachS} {A1 A2 A3 : Option Addr} {k1 k2 k3 : Nat} (h : Fr w base S nd S1 m1 A1 k1 A2 k2 A3 k3 nv w1) (a0 a1 a2 a3 a4 : Value) : Blk (((((w1.setCell ⟨w.heap.size + 1 + 1, 0, none⟩ a0).setCell ⟨w.heap.size + 1 + 1, 1, none⟩ a1).setCell ⟨w.heap.size + 1 + 1, 2, none⟩ a2).setCell ⟨w.heap.size + 1 + 1, 3, none⟩ a3).setCell ⟨w.heap.size + 1 + 1, 4, none⟩ a4) (w.heap.size + 1 + 1) 36 #[a0, a1, a2, a3, a4] ∧
    MvAt (((((w1.setCell ⟨w.heap.size + 1 + 1, 0, none⟩ a0).setCell ⟨w.heap.size + 1 + 1, 1, none⟩ a1).setCell ⟨w.heap.size + 1 + 1, 2, none⟩ a2).setCell ⟨w.heap.size + 1 + 1, 3, none⟩ a3).setCell ⟨w.heap.size + 1 + 1, 4, none⟩ a4) base S1 m1 A1 k1 A2 k2 A3 k3 ∧ Moves base S w S1 (((((w1.setCell ⟨w.heap.size + 1 + 1, 0, none⟩ a0).setCell ⟨w.heap.size + 1 + 1, 1, none⟩ a1).setCell ⟨w.heap.size + 1 + 1, 2, none⟩ a2).setCell ⟨w.heap.size + 1 + 1, 3, none⟩ a3).setCell ⟨w.heap.size + 1 + 1, 4, none⟩ a4) :=
  ⟨Blk.set5N h.z a0 a1 a2 a3 a4, h.mv.set5 h.nz _ _ _ _ _, h.mvs.set5 (by omega) h.hb _ _ _ _ _⟩
theorem Fr.trees {w w1 : World} {base : Nat} {S S1 : Nat → Prop} {nd nv : Array Value} {m1 : MachS} {A1 A2 A3 : Option Addr} {k1 k2 k3 : Nat} (h : Fr w base S nd S1 m1 A1 k1 A2 k2 A3 k3 nv w1) {F : Trees} {B : Option Addr} (ht : TreesAt w (fun b => ¬ S b) F B) : TreesAt w1 (fun b => ¬ S1 b) F B := ht.movesS h.mvs
theorem Fr.node {w w1 : World} {base : Nat} {S S1 : Nat → Prop} {nd nv : Array Value} {m1 : MachS} {A1 A2 A3 : Option Addr} {k1 k2 k3 : Nat} (h : Fr w base S nd S1 m1 A1 k1 A2 k2 A3 k3 nv w1) {b o : Nat} {k : Int} {s n : Nat} {lo hi : Int} {B : Option Addr} {cap : Nat} (hn : NdAt w b o k s n lo hi B cap) (hs : ¬ S b) : NdAt w1 b o k s n lo hi B cap :=
  hn.keep (fun o' => cell_block (h.mvs.kept b (World.block_lt_of_cell? w _ hn.1) hs))
/-- What a drawn region may hold on to. -/
def Key (w : World) (b : Nat) (w1 w2 : World) : Prop := ∀ b' o', b' = w.heap.size + 1 ∨ b' = b → w2.cell? ⟨b', o', none⟩ = w1.cell? ⟨b', o', none⟩
theorem Fr.key {w w1 : World} {base : Nat} {S S1 : Nat → Prop} {nd nv : Array Value} {m1 : MachS} {A1 A2 A3 : Option Addr} {k1 k2 k3 : Nat} (h : Fr w base S nd S1 m1 A1 k1 A2 k2 A3 k3 nv w1) {b : Nat} (hb : b < w.heap.size) (hs : ¬ S b) {w2 : World} {S2 : Nat → Prop} (hv : Moves base S1 w1.drew S2 w2) : Key w b w1 w2 := fun b' o' h' => by
  have hsz := h.mvs.size
  refine cell_block (hv.kept b' ?_ ?_)
  · rcases h' with h' | h' <;> rw [h']
    · exact h.x.lt
    · show b < w1.heap.size
      omega
  · rcases h' with h' | h' <;> rw [h']
    · exact h.nx
    · exact h.mvs.notIn hb hs
theorem Key.store {w w1 w2 : World} {b : Nat} (h : Key w b w1 w2) (hb : b < w.heap.size) (a0 a1 a2 a3 a4 : Value) : Key w b w1 (((((w2.setCell ⟨w.heap.size, 0, none⟩ a0).setCell ⟨w.heap.size, 1, none⟩ a1).setCell ⟨w.heap.size, 2, none⟩ a2).setCell ⟨w.heap.size, 3, none⟩ a3).setCell ⟨w.heap.size, 4, none⟩ a4) := fun b' o' h' =>
  (cell_block (heap_set5N (by rcases h' with h' | h' <;> omega) _ _ _ _ _)).trans (h b' o' h')
theorem key_drew (w : World) (b : Nat) (W : World) : Key w b W W.drew := fun _ _ _ => rfl
end Go.Proofs.YtchfipjclbpomaaGreat
