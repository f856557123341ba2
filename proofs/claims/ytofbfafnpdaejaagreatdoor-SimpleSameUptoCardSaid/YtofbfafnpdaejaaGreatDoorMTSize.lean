/- Texts of the claim. -/
import Derived.RangeFuncBox
import Derived.Lib.Hide
import Derived.Test.YtofbfafnpdaejaaGreatDoorMZ02
import Derived.Test.YtofbfafnpdaejaaGreatDoorMZ04
set_option linter.all false
set_option maxRecDepth 100000
set_option maxHeartbeats 8000000
namespace Go.Proofs.YtofbfafnpdaejaaGreatDoor
open Go.RowKit Go.Shelf
attribute [local go_sem] Oper.semAt_some
theorem tsize_in (n : Nat) (hn : 3 ≤ n) (x : Nd) (B : Option Addr) (cap : Nat) (w : World) (hsz : x.size ≤ 4611686018427387903) (ht : TreesAt w (fun b => b < w.heap.size) x.kids B) :
  CallsIn Fence.wide n Tryz.prog 14 #[ndV x B cap] w fun e w' => e = .returned (.int .i64 (x.size : Int)) ∧ Below w.heap.size w w' := by
 have h1 : 1 ≤ n := by omega
 unfold ndV
 refine callsIn_of_wp_marks Tryz.func14 rfl trivial ?_ rfl
 simp only [Tryz.ntmps14, List.size_toArray, List.length_cons, List.length_nil, Nat.reduceAdd, Nat.reduceSub, Array.replicate_succ, Array.replicate_zero, List.push_toArray, List.append_toArray, List.nil_append, List.cons_append]
 gi_wp2_with (refine ⟨trivial, ?_⟩; gi_at_call 59; refine (callsIn_wide.2 (nodes_go x B cap _)).mono ?_; rintro e w' ⟨rfl, rfl⟩)
 have bN := (Boxed.new (w.alloc (.cells (ndA x B cap) 28)) 3 (.int .i64 0)).alloc (.cells (ndA x B cap) 28)
 have bS := Blk.new ((w.alloc (.cells (ndA x B cap) 28)).alloc (.cells #[.int .i64 0] 3)) 28 (ndA x B cap)
 simp only [World.size_alloc] at bN bS
 have hB0 : Below w.heap.size w (((w.alloc (.cells (ndA x B cap) 28)).alloc (.cells #[.int .i64 0] 3)).alloc (.cells (ndA x B cap) 28)) := (((Below.refl _ w).alloc (Nat.le_refl _) _).alloc (by simp) _).alloc (by simp; omega) _
 have hsz0 : (((w.alloc (.cells (ndA x B cap) 28)).alloc (.cells #[.int .i64 0] 3)).alloc (.cells (ndA x B cap) 28)).heap.size = w.heap.size + 3 := by simp
 unfold ndA at bN hB0 hsz0
 unfold ndA
 obtain ⟨W0, hW0⟩ : ∃ W0, (((w.alloc (.cells #[.int .i64 x.kind, .int .u64 (word x.set.testBit 0), .int .u64 (word x.set.testBit 1), .int .u64 (word x.set.testBit 2), .int .u64 (word x.set.testBit 3), .slice B x.kids.len cap, .int .i64 x.lo, .int .i64 x.hi] 28)).alloc (.cells #[.int .i64 0] 3)).alloc (.cells #[.int .i64 x.kind, .int .u64 (word x.set.testBit 0), .int .u64 (word x.set.testBit 1), .int .u64 (word x.set.testBit 2), .int .u64 (word x.set.testBit 3), .slice B x.kids.len cap, .int .i64 x.lo, .int .i64 x.hi] 28)) = W0 := ⟨_, rfl⟩
 have bS : Blk W0 (w.heap.size + 1 + 1) 28 (ndA x B cap) := by rw [← hW0]; exact bS
 rw [hW0] at bN hB0 hsz0 ⊢
 clear hW0
 refine wpIn_rangeFunc_ownG rfl h1 (gf := 116) (lb := #[.pointer (some ⟨w.heap.size + 1 + 1, 0, none⟩)]) rfl trivial (enters_of Tryz.func116 (by kernel_rfl) rfl)
  (nodesx_stops (n - 1) x B cap (w.heap.size + 1 + 1) (w.heap.size + 1) (fun b => b < w.heap.size) W0 (fun b hb => by omega) hsz bS (by omega) (ht.below hB0)) (fun h k => h.trans k) (fun W l o o' _ ho hc _ => Kc.put W l o o' ho hc) (Below.refl _ _) (fun _ => rfl)
  (fun pre W => Boxed W (w.heap.size + 1) 3 (.int .i64 ((pre.length : Nat) : Int)) ∧ Below w.heap.size w W)
  (fun _ _ _ => False)
  (fun s W W' row h hg hr => ⟨(hg.block _ (Blk.lt h.1) (fun e => by
    obtain ⟨_, o, h3, h4⟩ := hr _ e.symm
    rw [show W.heap[_]? = _ from h.1] at h3
    cases h3
    cases h4)).trans h.1, h.2.grown hg h.2.size (fun r e => by have := (hr r e).1; omega)⟩)
  (fun _ _ _ _ _ hs _ _ => hs)
  ⟨bN, hB0⟩
  (fun (q : ItemX) => { tmps := #[ndV x B cap, .pointer (some ⟨w.heap.size, 0, none⟩), .int .i64 0, .pointer (some ⟨w.heap.size + 1, 0, none⟩), ndV x B cap, .func (.func 116) #[] #[.pointer (some ⟨w.heap.size + 1 + 1, 0, none⟩)], ndV q.1 q.2.1 q.2.2, undef, undef, undef], defers := [] })
  ?assign ?body ?done ?stop
 case assign =>
  intro l q W K hK
  unfold itemX ndV
  gi_wp2
  unfold ndV at hK
  simpa using hK
 case body =>
  rintro l pre q W ⟨hv, hB⟩ hlt
  have hc := hv.cell
  have hf := hv.frozen
  have hn1 : IntKind.i64.wrap (((pre.length : Nat) : Int) + 1) = (pre.length : Int) + 1 := by
   rw [IntKind.wrap_i64]; omega
  have hn2 : (((pre ++ [q]).length : Nat) : Int) = (pre.length : Int) + 1 := by simp
  unfold ndV
  gi_wp2
  refine (?_ : KeepsFrom W0.heap.size W _ ∧ Kc (w.heap.size + 1) W _ ∧ _)
  have hg' := set_grown W (w.heap.size + 1) 0 (.int .i64 ((pre.length : Int) + 1))
  refine ⟨KeepsFrom.of_grownBy hg' (fun j e => by cases e; omega), Kc.setCell (Bn := w.heap.size + 1) W _, by rw [hn2]; exact hv.set _, hB.grown hg' hB.size (fun k e => by cases e; omega)⟩
 case done =>
  rintro D ys W hD hys ⟨hv, hB⟩ hK
  have hlen : ys.length = x.size := by rw [← x.nodes_len, ← hys, List.length_map]
  have hc := hv.cell
  gi_wp2
  refine ⟨by simp, .inl ⟨_, _, rfl, run_takeDeferred hK, ?_⟩⟩
  exact ⟨_, results_tmp rfl _ _ _, rfl, hB.trans (belowK_b (w := w) (Nat.le_refl _) W D _ _ (by omega) hK rfl rfl)⟩
 case stop =>
  rintro D c pre W _ _ h _
  exact h.elim
theorem tsize_any (x : Nd) (B : Option Addr) (cap : Nat) (w : World) (hsz : x.size ≤ 4611686018427387903) (ht : TreesAt w (fun b => b < w.heap.size) x.kids B) :
  Calls Tryz.prog 14 #[ndV x B cap] w fun e w' => e = .returned (.int .i64 (x.size : Int)) ∧ Below w.heap.size w w' :=
 callsIn_wide.1 (tsize_in 3 (Nat.le_refl _) x B cap w hsz ht)
end Go.Proofs.YtofbfafnpdaejaaGreatDoor
