/-
  tree.Right: a tree that may be.
-/
import Derived.RangeFuncBox
import Derived.Test.YtkelkadalikibaaQWalk
namespace Go.Proofs.Ytkelkadalikibaa
open Go.RowKit Go.Shelf
set_option linter.unusedSimpArgs false
set_option linter.unusedVariables false
set_option maxRecDepth 100000
attribute [local go_sem] Oper.semAt_some

theorem Kc.put {Bn : Nat} (W : World) (l : Nat) (o o' : Obj) (h : W.heap[l]? = some o) (hc : o.isCells = false) : Kc Bn W (W.putObj l o') :=
  ⟨(grownBy_putObj' W l o').size, fun p v _ hv => cell_kept hv (grownBy_putObj' W l o') (fun r e => by cases e; exact ⟨o, h, hc⟩)⟩
theorem Kc.setCell {Bn : Nat} (W : World) (v : Value) : Kc Bn W (W.setCell ⟨Bn, 0, none⟩ v) :=
  ⟨by simp, fun p u hp hu => (World.cell?_of_block (Below.heap_setCell W ⟨Bn, 0, none⟩ v p.block hp)).trans hu⟩
theorem keepsFrom_below {B : Nat} {W W' : World} (h : Below W.heap.size W W') : KeepsFrom B W W' :=
  ⟨h.size, fun k o _ hk _ => (h.block k (Array.getElem?_eq_some_iff.1 hk).1).trans hk⟩

theorem ret_boolc {fn : Func} {t : Tmp} (h : fn.results = #[.cell t 4]) {tmps : Array Value} {w : World} {g : Nat} {b : Bool}
    (hp : tmps.getD t undef = .pointer (some ⟨g, 0, none⟩)) (hc : w.cell? ⟨g, 0, none⟩ = some (.bool b)) :
    (results fn tmps).run Try.prog w = .ok (.bool b) w := by
  have hp' : tmps[t]?.getD undef = .pointer (some ⟨g, 0, none⟩) := by simpa using hp
  simp [results, h, hp', asAddr, go_sem, hc]
set_option maxHeartbeats 4000000 in
theorem tright_in (n : Nat) (hn : 3 ≤ n) (x : Nd) (B : Option Addr) (cap : Nat) (w : World) (hsz : x.size ≤ 4096) (hs : SoundN x) (ht : TreesAt w (fun b => b < w.heap.size) x.kids B) :
    CallsIn Fence.wide n Try.prog 21 #[ndV x B cap] w fun e w' => e = .returned (.bool true) ∧ Below w.heap.size w w' := by
  have h1 : 1 ≤ n := by omega
  unfold ndV
  refine callsIn_of_wp_marks Try.func21 rfl trivial ?_ rfl
  simp only [Try.ntmps21, List.size_toArray, List.length_cons, List.length_nil, Nat.reduceAdd, Nat.reduceSub, Array.replicate_succ, Array.replicate_zero, List.push_toArray, List.append_toArray, List.nil_append, List.cons_append]
  gi_wp2_with (refine ⟨trivial, ?_⟩; gi_at_call 35; refine (callsIn_wide.2 (nodes_go x B cap _)).mono ?_; rintro e w' ⟨rfl, rfl⟩)
  have bR := ((Boxed.new (w.alloc (.cells (ndA x B cap) 42)) 4 (.bool false)).alloc (.cells #[.int .i64 0] 3)).alloc (.cells (ndA x B cap) 42)
  have bN := (Boxed.new ((w.alloc (.cells (ndA x B cap) 42)).alloc (.cells #[.bool false] 4)) 3 (.int .i64 0)).alloc (.cells (ndA x B cap) 42)
  have bS := Blk.new (((w.alloc (.cells (ndA x B cap) 42)).alloc (.cells #[.bool false] 4)).alloc (.cells #[.int .i64 0] 3)) 42 (ndA x B cap)
  simp only [World.size_alloc] at bR bN bS
  have hB0 : Below w.heap.size w ((((w.alloc (.cells (ndA x B cap) 42)).alloc (.cells #[.bool false] 4)).alloc (.cells #[.int .i64 0] 3)).alloc (.cells (ndA x B cap) 42)) := ((((Below.refl _ w).alloc (Nat.le_refl _) _).alloc (by simp) _).alloc (by simp; omega) _).alloc (by simp; omega) _
  have hsz0 : ((((w.alloc (.cells (ndA x B cap) 42)).alloc (.cells #[.bool false] 4)).alloc (.cells #[.int .i64 0] 3)).alloc (.cells (ndA x B cap) 42)).heap.size = w.heap.size + 4 := by simp
  unfold ndA at bR bN hB0 hsz0
  unfold ndA
  obtain ⟨W0, hW0⟩ : ∃ W0, ((((w.alloc (.cells #[.int .i64 x.kind, .int .u64 ((word x.set.testBit 0 : Nat) : Int), .int .u64 ((word x.set.testBit 1 : Nat) : Int), .int .u64 ((word x.set.testBit 2 : Nat) : Int), .int .u64 ((word x.set.testBit 3 : Nat) : Int), .slice B x.kids.len cap, .int .i64 x.lo, .int .i64 x.hi] 42)).alloc (.cells #[.bool false] 4)).alloc (.cells #[.int .i64 0] 3)).alloc (.cells #[.int .i64 x.kind, .int .u64 ((word x.set.testBit 0 : Nat) : Int), .int .u64 ((word x.set.testBit 1 : Nat) : Int), .int .u64 ((word x.set.testBit 2 : Nat) : Int), .int .u64 ((word x.set.testBit 3 : Nat) : Int), .slice B x.kids.len cap, .int .i64 x.lo, .int .i64 x.hi] 42)) = W0 := ⟨_, rfl⟩
  have bS : Blk W0 (w.heap.size + 1 + 1 + 1) 42 (ndA x B cap) := by rw [← hW0]; exact bS
  rw [hW0] at bR bN hB0 hsz0 ⊢
  clear hW0
  refine wpIn_rangeFunc_ownH rfl h1 (gf := 64) (lb := #[.pointer (some ⟨w.heap.size + 1 + 1 + 1, 0, none⟩)]) rfl trivial (enters_of Try.func64 (by kernel_rfl) rfl)
    (nodes_stops (n - 1) x B cap (w.heap.size + 1 + 1 + 1) (w.heap.size + 1 + 1) (fun b => b < w.heap.size) W0 (fun b hb => by omega) hsz hs bS (by omega) (ht.below hB0)) (fun h k => h.trans k) (fun W l o o' _ ho hc _ => Kc.put W l o o' ho hc) (Below.refl _ _) (fun _ => rfl)
    (fun pre W => (Boxed W (w.heap.size + 1 + 1) 3 (.int .i64 ((pre.length : Nat) : Int)) ∧ Boxed W (w.heap.size + 1) 4 (.bool false)) ∧ Below w.heap.size w W)
    (fun _ _ _ => False)
    (OwnFrom.and (OwnFrom.and (Own.from (boxed_own _ _ _) _) (Own.from (boxed_own _ _ _) _)) (ownFrom_below (Nat.le_refl _) (by omega)))
    (fun _ _ _ _ _ hs _ _ => hs)
    ⟨⟨bN, bR⟩, hB0⟩
    (fun (q : Item) a' W => ∃ Bx, w.heap.size + 1 + 1 < Bx ∧ Blk W Bx 42 (ndA q.1.1 q.1.2.1 q.1.2.2) ∧ a' = { tmps := #[ndV x B cap, .pointer (some ⟨w.heap.size, 0, none⟩), .pointer (some ⟨w.heap.size + 1, 0, none⟩), .pointer (some ⟨w.heap.size + 1 + 1, 0, none⟩), .pointer (some ⟨Bx, 0, none⟩), ndV x B cap, .func (.func 64) #[] #[.pointer (some ⟨w.heap.size + 1 + 1 + 1, 0, none⟩)], ndV q.1.1 q.1.2.1 q.1.2.2, undef, undef, undef, undef, undef, undef, undef, undef, undef], defers := [] })
    (fun q a' _ X Y row hs hg hr => by
      obtain ⟨Bx, h1, h2, h3⟩ := hs
      exact ⟨Bx, h1, h2.grown hg (fun e => by
        obtain ⟨o, ho, hc⟩ := (hr _ e.symm).2
        rw [show X.heap[Bx]? = _ from h2] at ho
        cases ho
        cases hc), h3⟩)
    ?assign ?body ?done ?stop
  case assign =>
    rintro l pre q W K ⟨⟨bN1, bR1⟩, hB1⟩ hK
    unfold itemV ndV
    gi_wp2
    exact hK _ _ ((KeepsOthers.alloc _ _).from _) (Kc.below ((Below.refl _ W).alloc (Nat.le_refl _) _)) ⟨⟨bN1.alloc _, bR1.alloc _⟩, hB1.alloc hB1.size _⟩ ⟨W.heap.size, bN1.lt, Blk.new W 42 _, rfl⟩
  case body =>
    rintro l pre q a' W hl _ ⟨⟨bN1, bR1⟩, hB1⟩ ⟨Bx, hBx, bX, rfl⟩ hlt
    have cN := bN1.cell
    have fN := bN1.frozen
    have x0 : W.cell? ⟨Bx, 0, none⟩ = some (.int .i64 q.1.1.kind) := bX.cell 0
    have x1 : W.cell? ⟨Bx, 1, none⟩ = some (.int .u64 ((word q.1.1.set.testBit 0 : Nat) : Int)) := bX.cell 1
    have x2 : W.cell? ⟨Bx, 2, none⟩ = some (.int .u64 ((word q.1.1.set.testBit 1 : Nat) : Int)) := bX.cell 2
    have x3 : W.cell? ⟨Bx, 3, none⟩ = some (.int .u64 ((word q.1.1.set.testBit 2 : Nat) : Int)) := bX.cell 3
    have x4 : W.cell? ⟨Bx, 4, none⟩ = some (.int .u64 ((word q.1.1.set.testBit 3 : Nat) : Int)) := bX.cell 4
    have x5 : W.cell? ⟨Bx, 5, none⟩ = some (.slice q.1.2.1 q.1.1.kids.len q.1.2.2) := bX.cell 5
    have x6 : W.cell? ⟨Bx, 6, none⟩ = some (.int .i64 q.1.1.lo) := bX.cell 6
    have x7 : W.cell? ⟨Bx, 7, none⟩ = some (.int .i64 q.1.1.hi) := bX.cell 7
    have hn1 : IntKind.i64.wrap (((pre.length : Nat) : Int) + 1) = (((pre ++ [q]).length : Nat) : Int) := by
      rw [IntKind.wrap_i64, List.length_append, List.length_singleton]; omega
    have hle : (((pre ++ [q]).length : Nat) : Int) ≤ 4096 := by simp; omega
    have hA := Lib.hid (alone_go q.1.1 q.1.2.1 q.1.2.2 (W.setCell ⟨w.heap.size + 1 + 1, 0, none⟩ (.int .i64 (((pre ++ [q]).length : Nat) : Int))) q.2)
    have hb1 : Below w.heap.size w (W.setCell ⟨w.heap.size + 1 + 1, 0, none⟩ (.int .i64 (((pre ++ [q]).length : Nat) : Int))) := hB1.setCell (p := ⟨w.heap.size + 1 + 1, 0, none⟩) (by simp; omega) _
    have hN1 := bN1.set (.int .i64 (((pre ++ [q]).length : Nat) : Int))
    have hR1 := bR1.other (B' := w.heap.size + 1 + 1) (by omega) (.int .i64 (((pre ++ [q]).length : Nat) : Int))
    have hk1 := Kc.setCell (Bn := w.heap.size + 1 + 1) W (.int .i64 (((pre ++ [q]).length : Nat) : Int))
    have hf1 := (KeepsOthers.setCell W ⟨w.heap.size + 1 + 1, 0, none⟩ (.int .i64 (((pre ++ [q]).length : Nat) : Int))).from W0.heap.size
    have hdd : ∀ k : Nat, (Fence.wide.depth.isSome = true → 1 ≤ k) := fun k h => by cases h
    have HX := Lib.hid (show _ ∧ _ ∧ _ ∧ _ ∧ _ from ⟨hb1, hN1, hR1, hk1, hf1⟩)
    clear hb1 hN1 hR1 hk1 hf1 bN1 bR1 hB1 bX bN bR bS hB0 hs ht hsz
    generalize hM : (((pre ++ [q]).length : Nat) : Int) = M at *
    unfold ndV at hA
    unfold ndV
    gi_wp2
    refine ⟨trivial, hdd _, (CallsIn.inRound l (callsIn_wide.2 hA.out)).mono ?_⟩
    rintro e W3 ⟨rfl, hb3⟩
    have HZ := Lib.hid (show KeepsFrom W0.heap.size W W3 ∧ Kc (w.heap.size + 1 + 1) W W3 ∧ (Boxed W3 (w.heap.size + 1 + 1) 3 (.int .i64 M) ∧ Boxed W3 (w.heap.size + 1) 4 (.bool false)) ∧ Below w.heap.size w W3 from by
      obtain ⟨hb1, hN1, hR1, hk1, hf1⟩ := HX.out
      exact ⟨hf1.trans (keepsFrom_below hb3), hk1.trans (Kc.below hb3), ⟨(hb3.block _ hN1.lt).trans hN1, (hb3.block _ hR1.lt).trans hR1⟩, hb1.trans (hb3.mono hb1.size)⟩)
    clear HX hb3 hA
    dsimp only
    gi_wp2
    subst hM
    exact HZ.out
  case done =>
    rintro D ys W hD _ ⟨⟨bN1, bR1⟩, hB1⟩ hK
    have cR := bR1.cell
    have fR := bR1.frozen
    gi_wp2
    have hK2 := (KeepsOthers.setCell W ⟨w.heap.size + 1, 0, none⟩ (.bool true)).same D _ hK rfl
    refine ⟨by simp, .inl ⟨_, _, rfl, run_takeDeferred hK2, ?_⟩⟩
    have hc : ((W.setCell ⟨w.heap.size + 1, 0, none⟩ (.bool true)).putObj D (.deferred none)).cell? ⟨w.heap.size + 1, 0, none⟩ = some (.bool true) := cell_kept (bR1.set _).cell (grownBy_putObj' _ D (.deferred none)) (fun r e => by cases e; exact ⟨_, hK2, rfl⟩)
    exact ⟨_, ret_boolc rfl rfl hc, rfl, (hB1.setCell (p := ⟨w.heap.size + 1, 0, none⟩) (by simp) _).trans (belowK_b (w := w) (Nat.le_refl _) _ D _ _ (by omega) hK2 rfl rfl)⟩
  case stop =>
    rintro D c pre W _ _ h _
    exact h.elim
/-- tree.Right: a tree that may be, of no more than 4096 nodes. -/
theorem tright_go (x : Nd) (B : Option Addr) (cap : Nat) (w : World) (hsz : x.size ≤ 4096) (hs : SoundN x) (ht : TreesAt w (fun b => b < w.heap.size) x.kids B) :
    Calls Try.prog 21 #[ndV x B cap] w fun e w' => e = .returned (.bool true) ∧ Below w.heap.size w w' :=
  callsIn_wide.1 (tright_in 3 (Nat.le_refl _) x B cap w hsz hs ht)
end Go.Proofs.Ytkelkadalikibaa
