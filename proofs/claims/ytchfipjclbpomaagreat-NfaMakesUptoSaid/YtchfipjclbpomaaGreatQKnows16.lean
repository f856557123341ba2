/-
  The contract of knows of chapter 16.
-/
import Derived.Test.YtchfipjclbpomaaGreatQNfaP
import Derived.Test.YtchfipjclbpomaaGreatQText07
import Derived.Test.YtchfipjclbpomaaGreatQZ01
namespace Go.Proofs.YtchfipjclbpomaaGreat
open Go.RowKit
set_option linter.unusedSimpArgs false
set_option linter.unusedVariables false
set_option maxRecDepth 100000

theorem parse_a : parseS [97] = .ok (leafN (maskOf (among [97] 1))) := by rfl
theorem tree_a (w : World) (n : Nat) (hn : n = w.heap.size) :
    Calls Tryz.prog 14 #[.slice (some ⟨n, 0, none⟩) 1 1] (w.alloc (.cells #[.int .u8 97] 5 (1, 2))) (TreeOut (.ok (leafN (maskOf (among [97] 1)))) (w.alloc (.cells #[.int .u8 97] 5 (1, 2)))) := by
  have h := text_go07 (some ⟨n, 0, none⟩) 1 [97] _ (bytes_new w n [97] _ (1, 2) hn rfl (by decide) (by decide)) (by decide)
  rw [parse_a] at h
  exact h
theorem leaf_right (s : Nat) : rightT ⟨3, s, .nil, 0, 0⟩ = true := by
  simp [rightT, Nd.nodes, Trees.nodes, aloneN, aloneV, Trees.len]
theorem of_leaf (s : Nat) : ofS [⟨3, s, .nil, 0, 0⟩] = .ok ⟨[0, 0, 1], [(1, 2)], [(0, s, 1)]⟩ := by
  unfold ofS
  have h3 : sizeW [⟨3, s, .nil, 0, 0⟩] = 3 := by rfl
  rw [if_neg (by simp), if_neg (by simp [leaf_right]), if_neg (by omega)]
  rfl
theorem leaf_at {w : World} {s : Nat} {C : Option Addr} {capc b : Nat} (h : Blk w b 29 (ndA ⟨3, s, .nil, 0, 0⟩ C capc)) {P : Nat → Prop} (hP : P b) : TreesAt w P (Trees.of [⟨3, s, .nil, 0, 0⟩]) (some ⟨b, 0, none⟩) :=
  TreesAt.one h (Nat.zero_le _) trivial hP
theorem leaf_of (w : World) (n s : Nat) (C : Option Addr) (capc : Nat) (hn : n = w.heap.size) :
    Calls Tryz.prog 7 #[.slice (some ⟨n, 0, none⟩) 1 1] (w.alloc (.cells (ndA ⟨3, s, .nil, 0, 0⟩ C capc) 29)) (NfaOut (.ok ⟨[0, 0, 1], [(1, 2)], [(0, s, 1)]⟩) (w.alloc (.cells (ndA ⟨3, s, .nil, 0, 0⟩ C capc) 29))) := by
  have h := nof_go (Trees.of [⟨3, s, .nil, 0, 0⟩]) (some ⟨n, 0, none⟩) 1 (w.alloc (.cells (ndA ⟨3, s, .nil, 0, 0⟩ C capc) 29)) (by simp [Trees.of, Trees.len]) (fun z hz => by
    rw [Trees.list_of, List.mem_singleton] at hz
    subst hz
    simp [Nd.size, Trees.size]) (leaf_at (Blk.new_at hn) (by simp; omega))
  rw [Trees.list_of, of_leaf] at h
  exact h
set_option maxHeartbeats 2000000 in
theorem knows16_go (w : World) :
    Calls Tryz.prog 6 #[] w fun e w' => e = .returned (.bool true) ∧ Below w.heap.size w w' := by
  have kc := fun (w : World) (C : Array Value) (n c : Nat) => Lib.run_convert_bytes_const (P := Tryz.prog) w 48 5 C n c Tryz.underlying48 Tryz.underlying5
  go_enter Tryz.func6, Tryz.ntmps6
  go_wp2_with fail
  refine (tree_a _ _ rfl).mono ?_
  rintro e w1 ⟨B, cap, rfl, hb1, hc1, ht1⟩
  have HB1 := Lib.hid (((Below.refl w.heap.size w).alloc (Nat.le_refl _) (.cells #[.int .u8 97] 5 (1, 2))).trans (hb1.mono (by simp)))
  clear hb1 hc1 ht1 kc
  unfold leafN
  generalize maskOf (among [97] 1) = s
  unfold ndV
  dsimp only
  have hs12 : ((w1.alloc (.cells #[.int .i64 3, .int .u64 ((word s.testBit 0 : Nat) : Int), .int .u64 ((word s.testBit 1 : Nat) : Int), .int .u64 ((word s.testBit 2 : Nat) : Int), .int .u64 ((word s.testBit 3 : Nat) : Int), .slice B 0 cap, .int .i64 0, .int .i64 0] 29)).alloc (.cells #[.int .i64 0, .int .i64 0] 45)).heap.size = w1.heap.size + 1 + 1 := by simp
  have hb12 : Below w1.heap.size w1 ((w1.alloc (.cells #[.int .i64 3, .int .u64 ((word s.testBit 0 : Nat) : Int), .int .u64 ((word s.testBit 1 : Nat) : Int), .int .u64 ((word s.testBit 2 : Nat) : Int), .int .u64 ((word s.testBit 3 : Nat) : Int), .slice B 0 cap, .int .i64 0, .int .i64 0] 29)).alloc (.cells #[.int .i64 0, .int .i64 0] 45)) := ((Below.refl _ _).alloc (Nat.le_refl _) _).alloc (by simp) _
  have HN := Lib.hid (leaf_of _ _ s B cap hs12.symm)
  have HB2 := Lib.hid (HB1.out.trans ((hb12.alloc (by simp; omega) (.cells (ndA ⟨3, s, .nil, 0, 0⟩ B cap) 29)).mono HB1.out.size))
  clear hb12 hs12 HB1
  unfold ndA at HN HB2
  dsimp only [Trees.len] at HN HB2
  go_wp2_with fail
  refine HN.out.mono ?_
  rintro e w2 ⟨hb2, L, E, A, rfl, hR⟩
  obtain ⟨A1, k1, rfl⟩ := own_slice hR.l
  obtain ⟨A2, k2, rfl⟩ := own_slice hR.e
  obtain ⟨A3, k3, rfl⟩ := own_slice hR.a
  obtain ⟨g1, c1, e1, _, hg1⟩ := own_form hR.l (by simp)
  obtain ⟨g3, c3, e3, _, hg3⟩ := own_form hR.a (by simp)
  cases e1
  cases e3
  have hl0 := hR.l.cells (g := g1) rfl 0 (.int .i64 1) rfl
  have hl1 := hR.l.cells (g := g1) rfl 1 (.int .i64 2) rfl
  have ha2 := hR.a.cells (g := g3) rfl 2 (.int .i64 1) rfl
  rw [addr_plusE] at hl0 hl1 ha2
  have HB3 := Lib.hid (HB2.out.trans (hb2.mono HB2.out.size))
  clear hR HN HB2 hb2
  dsimp only [MachS.states, List.length_cons, List.length_nil]
  go_wp2
  go_light
  go_ret
  exact ⟨rfl, HB3.out.alloc HB3.out.size _⟩
end Go.Proofs.YtchfipjclbpomaaGreat
