/- Texts of the claim. -/
import Derived.RangeFuncBox
import Derived.Maps.AppendAt
import Derived.Deep.AppendLies
import Derived.Deep.RegionLaw
import Derived.Deep.RegionHeld3
import Derived.RegionTactic
import Derived.BigRegion
import Derived.Shelf.Spec.TrailingZeros
import Derived.Deep.DeepHandedRow
import Derived.Lib.LaidTab
import Derived.OwnWalk
import Derived.Lib.Hide
import Derived.Deep.RegionWith
import Derived.StillTailTactics
import Derived.Deep.QuietTactic
import Derived.BigQuiet
import Derived.Test.YtofbfafnpdaejaaGreatDoorJSpans
import Derived.Test.YtofbfafnpdaejaaGreatDoorJZ02
import Derived.Test.YtofbfafnpdaejaaGreatDoorJZ01
import Derived.Test.YtofbfafnpdaejaaGreatDoorJRefEsc
set_option linter.all false
set_option maxRecDepth 100000
set_option maxHeartbeats 8000000
namespace Go.Proofs.YtofbfafnpdaejaaGreatDoor
section
theorem chr_head (c : Nat) (hc : c < 256) : 1 ≤ (chrS c).length ∧ byteAt (chrS c) 0 ≠ 45 ∧ byteAt (chrS c) 0 ≠ 93 ∧ byteAt (chrS c) 0 ≠ 94 ∧ ∀ x ∈ chrS c, x < 256 := by
 have H : ∀ k : Fin 256, 1 ≤ (chrS k.val).length ∧ byteAt (chrS k.val) 0 ≠ 45 ∧ byteAt (chrS k.val) 0 ≠ 93 ∧ byteAt (chrS k.val) 0 ≠ 94 ∧ ∀ x ∈ chrS k.val, x < 256 := by decide +kernel
 exact H ⟨c, hc⟩
def pieceS (x : Nat × Nat) : List Nat := chrS x.1 ++ ((if x.1 + 1 < x.2 then [45] else []) ++ (if x.1 < x.2 then chrS x.2 else []))
def piecesS (l : List (Nat × Nat)) : List Nat := l.flatMap pieceS
theorem piecesS_cons (x : Nat × Nat) (l : List (Nat × Nat)) : piecesS (x :: l) = pieceS x ++ piecesS l := by simp [piecesS]
theorem pieceS_one (a : Nat) : pieceS (a, a) = chrS a := by simp [pieceS]
theorem pieceS_two (a : Nat) : pieceS (a, a + 1) = chrS a ++ chrS (a + 1) := by simp [pieceS]
theorem pieceS_more (a b : Nat) (h : a + 1 < b) : pieceS (a, b) = chrS a ++ (45 :: chrS b) := by
 unfold pieceS
 rw [if_pos h, if_pos (by simp; omega)]; rfl
theorem pieceS_len (x : Nat × Nat) : (pieceS x).length ≤ 9 := by
 have h1 := chrS_len x.1
 have h2 := chrS_len x.2
 unfold pieceS
 simp only [List.length_append]
 split <;> split <;> simp <;> omega
theorem piecesS_len (l : List (Nat × Nat)) : (piecesS l).length ≤ l.length * 9 := by
 induction l with
 | nil => simp [piecesS]
 | cons x l ih => rw [piecesS_cons, List.length_append, List.length_cons]; have := pieceS_len x; omega
theorem spans_rise (xs : List Nat) (hx : xs.Pairwise (· < ·)) (h256 : ∀ x ∈ xs, x < 256) : ∀ x ∈ spans xs, x.1 ≤ x.2 := by
 induction xs using rev_ind with
 | h0 => simp [spans]
 | h1 xs x ih =>
  have ih := ih (List.pairwise_append.1 hx).1 (fun y hy => h256 y (by simp [hy]))
  rw [spans_snoc]
  rcases List.eq_nil_or_concat (spans xs) with h | ⟨m, ⟨a, b⟩, h⟩
  ·rw [h, push_nil]; simp
  ·rw [List.concat_eq_append] at h
   rw [h] at ih ⊢
   have hab := ih (a, b) (by simp)
   dsimp only at hab
   by_cases hb : b + 1 = x % 256
   ·rw [push_on _ _ _ _ hb]
    intro q hq
    rcases List.mem_append.1 hq with hq | hq
    ·exact ih q (by simp [hq])
    ·simp at hq; subst hq; dsimp only; omega
   ·rw [push_new _ _ _ _ hb]
    intro q hq
    rcases List.mem_append.1 hq with hq | hq
    ·exact ih q hq
    ·simp at hq; subst hq; dsimp only; omega
theorem elems_rise (p : Nat → Bool) (m : Nat) : (elems p m).Pairwise (· < ·) := by
 unfold elems
 exact (List.pairwise_lt_range).filter _
def cutsOf (p : Nat → Bool) : List (Nat × Nat) := spans (elems p 256)
theorem cutsOf_in (p : Nat → Bool) : ∀ x ∈ cutsOf p, x.1 ≤ x.2 ∧ x.2 < 256 := fun x hx => ⟨spans_rise _ (elems_rise p 256) (fun x hx => elems_lt hx) x hx, (spans_small _ x hx).2⟩
def isTurned (p : Nat → Bool) : Bool := decide ((elems p 256).length = 0) || decide (128 < (elems p 256).length) && decide ((elems p 256).length < 256)
def showS (p : Nat → Bool) : List Nat := if isTurned p = true then [91, 94] ++ (piecesS (cutsOf (fun c => !p c)) ++ [93]) else [91] ++ (piecesS (cutsOf p) ++ [93])
theorem showS_turned {p : Nat → Bool} (h : isTurned p = true) : showS p = [91, 94] ++ (piecesS (cutsOf (fun c => !p c)) ++ [93]) := if_pos h
theorem showS_plain {p : Nat → Bool} (h : isTurned p = false) : showS p = [91] ++ (piecesS (cutsOf p) ++ [93]) := if_neg (by rw [h]; decide)
theorem showS_len (p : Nat → Bool) : (showS p).length ≤ 2400 := by
 have hh : ∀ q : Nat → Bool, (piecesS (cutsOf q)).length ≤ 2304 := by
  intro q
  have h1 := piecesS_len (cutsOf q)
  have h2 : (cutsOf q).length ≤ 256 := Nat.le_trans (spans_len _) (elems_len q 256)
  omega
 unfold showS
 have h1 := hh (fun c => !p c)
 have h2 := hh p
 split <;> simp <;> omega
end
section
open Go.RowKit Go.Shelf
attribute [local go_sem] Oper.semAt_some
def aloneN (y : Nd) : Bool := aloneV y.kind (word y.set.testBit 0 : Nat) (word y.set.testBit 1 : Nat) (word y.set.testBit 2 : Nat) (word y.set.testBit 3 : Nat) y.kids.len y.lo y.hi
def rightT (x : Nd) : Bool := decide (x.nodes.length ≤ 4096) && x.nodes.all aloneN
theorem aloneN_go (y : Nd) (B : Option Addr) (cap : Nat) (w : World) :
  Calls Tryz.prog 60 #[ndV y B cap] w fun e w' => e = .returned (.bool (aloneN y)) ∧ Below w.heap.size w w' :=
 alone_any _ _ _ _ _ _ _ B _ cap w
theorem rightT_yes {x : Nd} {ys : List ItemX} (h : ys.map (·.1) = x.nodes) (h1 : ys.length ≤ 4096) (h2 : ∀ q ∈ ys, aloneN q.1 = true) : rightT x = true := by
 unfold rightT
 rw [← h, Bool.and_eq_true, decide_eq_true_eq, List.all_eq_true]
 refine ⟨by simpa using h1, fun y hy => ?_⟩
 obtain ⟨q, hq, rfl⟩ := List.mem_map.1 hy
 exact h2 q hq
theorem rightT_no {x : Nd} {ys : List ItemX} (h : ys.map (·.1) <+: x.nodes) (h1 : 4096 < ys.length ∨ ∃ q ∈ ys, aloneN q.1 = false) : rightT x = false := by
 unfold rightT
 rcases h1 with h1 | ⟨q, hq, hf⟩
 ·have := h.length_le
  rw [List.length_map] at this
  rw [Bool.and_eq_false_iff]
  exact .inl (by rw [decide_eq_false_iff_not]; omega)
 ·rw [Bool.and_eq_false_iff]
  refine .inr ?_
  cases ha : x.nodes.all aloneN
  ·rfl
  ·have := List.all_eq_true.1 ha q.1 (h.subset (List.mem_map.2 ⟨q, hq, rfl⟩))
   rw [hf] at this
   cases this
theorem trightx_in (n : Nat) (hn : 3 ≤ n) (x : Nd) (B : Option Addr) (cap : Nat) (w : World) (hsz : x.size ≤ 4611686018427387903) (ht : TreesAt w (fun b => b < w.heap.size) x.kids B) :
  CallsIn Fence.wide n Tryz.prog 15 #[ndV x B cap] w fun e w' => e = .returned (.bool (rightT x)) ∧ Below w.heap.size w w' := by
 have h1 : 1 ≤ n := by omega
 unfold ndV
 refine callsIn_of_wp_marks Tryz.func15 rfl trivial ?_ rfl
 simp only [Tryz.ntmps15, List.size_toArray, List.length_cons, List.length_nil, Nat.reduceAdd, Nat.reduceSub, Array.replicate_succ, Array.replicate_zero, List.push_toArray, List.append_toArray, List.nil_append, List.cons_append]
 gi_wp2_with (refine ⟨trivial, ?_⟩; gi_at_call 59; refine (callsIn_wide.2 (nodes_go x B cap _)).mono ?_; rintro e w' ⟨rfl, rfl⟩)
 have bR := ((Boxed.new (w.alloc (.cells (ndA x B cap) 28)) 4 (.bool false)).alloc (.cells #[.int .i64 0] 3)).alloc (.cells (ndA x B cap) 28)
 have bN := (Boxed.new ((w.alloc (.cells (ndA x B cap) 28)).alloc (.cells #[.bool false] 4)) 3 (.int .i64 0)).alloc (.cells (ndA x B cap) 28)
 have bS := Blk.new (((w.alloc (.cells (ndA x B cap) 28)).alloc (.cells #[.bool false] 4)).alloc (.cells #[.int .i64 0] 3)) 28 (ndA x B cap)
 simp only [World.size_alloc] at bR bN bS
 have hB0 : Below w.heap.size w ((((w.alloc (.cells (ndA x B cap) 28)).alloc (.cells #[.bool false] 4)).alloc (.cells #[.int .i64 0] 3)).alloc (.cells (ndA x B cap) 28)) := ((((Below.refl _ w).alloc (Nat.le_refl _) _).alloc (by simp) _).alloc (by simp; omega) _).alloc (by simp; omega) _
 have hsz0 : ((((w.alloc (.cells (ndA x B cap) 28)).alloc (.cells #[.bool false] 4)).alloc (.cells #[.int .i64 0] 3)).alloc (.cells (ndA x B cap) 28)).heap.size = w.heap.size + 4 := by simp
 unfold ndA at bR bN hB0 hsz0
 unfold ndA
 obtain ⟨W0, hW0⟩ : ∃ W0, ((((w.alloc (.cells #[.int .i64 x.kind, .int .u64 (word x.set.testBit 0), .int .u64 (word x.set.testBit 1), .int .u64 (word x.set.testBit 2), .int .u64 (word x.set.testBit 3), .slice B x.kids.len cap, .int .i64 x.lo, .int .i64 x.hi] 28)).alloc (.cells #[.bool false] 4)).alloc (.cells #[.int .i64 0] 3)).alloc (.cells #[.int .i64 x.kind, .int .u64 (word x.set.testBit 0), .int .u64 (word x.set.testBit 1), .int .u64 (word x.set.testBit 2), .int .u64 (word x.set.testBit 3), .slice B x.kids.len cap, .int .i64 x.lo, .int .i64 x.hi] 28)) = W0 := ⟨_, rfl⟩
 have bS : Blk W0 (w.heap.size + 1 + 1 + 1) 28 (ndA x B cap) := by rw [← hW0]; exact bS
 rw [hW0] at bR bN hB0 hsz0 ⊢
 clear hW0
 refine wpIn_rangeFunc_ownH rfl h1 (gf := 116) (lb := #[.pointer (some ⟨w.heap.size + 1 + 1 + 1, 0, none⟩)]) rfl trivial (enters_of Tryz.func116 (by kernel_rfl) rfl)
  (nodesx_stops (n - 1) x B cap (w.heap.size + 1 + 1 + 1) (w.heap.size + 1 + 1) (fun b => b < w.heap.size) W0 (fun b hb => by omega) hsz bS (by omega) (ht.below hB0)) (fun h k => h.trans k) (fun W l o o' _ ho hc _ => Kc.put W l o o' ho hc) (Below.refl _ _) (fun _ => rfl)
  (fun pre W => ((Boxed W (w.heap.size + 1 + 1) 3 (.int .i64 ((pre.length : Nat) : Int)) ∧ Boxed W (w.heap.size + 1) 4 (.bool false)) ∧ (pre.length ≤ 4096 ∧ ∀ q ∈ pre, aloneN q.1 = true)) ∧ Below w.heap.size w W)
  (fun c pre W => c = .ret ∧ ((Boxed W (w.heap.size + 1) 4 (.bool false) ∧ (4096 < pre.length ∨ ∃ q ∈ pre, aloneN q.1 = false)) ∧ Below w.heap.size w W))
  (OwnFrom.and (OwnFrom.and (OwnFrom.and (Own.from (boxed_own _ _ _) _) (Own.from (boxed_own _ _ _) _)) (ownFrom_pure _ _)) (ownFrom_below (Nat.le_refl _) (by omega)))
  (fun c => OwnFrom.and (ownFrom_pure _ (fun _ => c = .ret)) (OwnFrom.and (OwnFrom.and (Own.from (boxed_own _ _ _) _) (ownFrom_pure _ _)) (ownFrom_below (Nat.le_refl _) (by omega))))
  ⟨⟨⟨bN, bR⟩, Nat.zero_le _, fun q hq => by cases hq⟩, hB0⟩
  (fun (q : ItemX) a' W => ∃ Bx, w.heap.size + 1 + 1 < Bx ∧ Blk W Bx 28 (ndA q.1 q.2.1 q.2.2) ∧ a' = { tmps := #[ndV x B cap, .pointer (some ⟨w.heap.size, 0, none⟩), .pointer (some ⟨w.heap.size + 1, 0, none⟩), .pointer (some ⟨w.heap.size + 1 + 1, 0, none⟩), .pointer (some ⟨Bx, 0, none⟩), ndV x B cap, .func (.func 116) #[] #[.pointer (some ⟨w.heap.size + 1 + 1 + 1, 0, none⟩)], ndV q.1 q.2.1 q.2.2, undef, undef, undef, undef, undef, undef, undef, undef, undef], defers := [] })
  (fun q a' _ X Y row hs hg hr => by
   obtain ⟨Bx, h1, h2, h3⟩ := hs
   exact ⟨Bx, h1, h2.grown hg (fun e => by
    obtain ⟨o, ho, hc⟩ := (hr _ e.symm).2
    rw [show X.heap[Bx]? = _ from h2] at ho
    cases ho
    cases hc), h3⟩)
  ?assign ?body ?done ?stop
 case assign =>
  rintro l pre q W K ⟨⟨⟨bN1, bR1⟩, hp1⟩, hB1⟩ hK
  unfold itemX ndV
  gi_wp2
  exact hK _ _ ((KeepsOthers.alloc _ _).from _) (Kc.below ((Below.refl _ W).alloc (Nat.le_refl _) _)) ⟨⟨⟨bN1.alloc _, bR1.alloc _⟩, hp1⟩, hB1.alloc hB1.size _⟩ ⟨W.heap.size, bN1.lt, Blk.new W 28 _, rfl⟩
 case body =>
  rintro l pre q a' W hl _ ⟨⟨⟨bN1, bR1⟩, hpl, hpa⟩, hB1⟩ ⟨Bx, hBx, bX, rfl⟩ hlt
  have cN := bN1.cell
  have fN := bN1.frozen
  have cR := bR1.cell
  have fR := bR1.frozen
  have HPA := Lib.hid hpa
  have x0 : W.cell? ⟨Bx, 0, none⟩ = some (.int .i64 q.1.kind) := bX.cell 0
  have x1 : W.cell? ⟨Bx, 1, none⟩ = some (.int .u64 (word q.1.set.testBit 0)) := bX.cell 1
  have x2 : W.cell? ⟨Bx, 2, none⟩ = some (.int .u64 (word q.1.set.testBit 1)) := bX.cell 2
  have x3 : W.cell? ⟨Bx, 3, none⟩ = some (.int .u64 (word q.1.set.testBit 2)) := bX.cell 3
  have x4 : W.cell? ⟨Bx, 4, none⟩ = some (.int .u64 (word q.1.set.testBit 3)) := bX.cell 4
  have x5 : W.cell? ⟨Bx, 5, none⟩ = some (.slice q.2.1 q.1.kids.len q.2.2) := bX.cell 5
  have x6 : W.cell? ⟨Bx, 6, none⟩ = some (.int .i64 q.1.lo) := bX.cell 6
  have x7 : W.cell? ⟨Bx, 7, none⟩ = some (.int .i64 q.1.hi) := bX.cell 7
  have hn1 : IntKind.i64.wrap (((pre.length : Nat) : Int) + 1) = (((pre ++ [q]).length : Nat) : Int) := by
   rw [IntKind.wrap_i64, List.length_append, List.length_singleton]; omega
  have hA := Lib.hid (aloneN_go q.1 q.2.1 q.2.2 (W.setCell ⟨w.heap.size + 1 + 1, 0, none⟩ (.int .i64 (((pre ++ [q]).length : Nat) : Int))))
  have hb1 : Below w.heap.size w (W.setCell ⟨w.heap.size + 1 + 1, 0, none⟩ (.int .i64 (((pre ++ [q]).length : Nat) : Int))) := hB1.setCell (p := ⟨w.heap.size + 1 + 1, 0, none⟩) (by simp; omega) _
  have hN1 := bN1.set (.int .i64 (((pre ++ [q]).length : Nat) : Int))
  have hR1 := bR1.other (B' := w.heap.size + 1 + 1) (by omega) (.int .i64 (((pre ++ [q]).length : Nat) : Int))
  have hk1 := Kc.setCell (Bn := w.heap.size + 1 + 1) W (.int .i64 (((pre ++ [q]).length : Nat) : Int))
  have hf1 := (KeepsOthers.setCell W ⟨w.heap.size + 1 + 1, 0, none⟩ (.int .i64 (((pre ++ [q]).length : Nat) : Int))).from W0.heap.size
  have hdd : ∀ k : Nat, (Fence.wide.depth.isSome = true → 1 ≤ k) := fun k h => by cases h
  have HX := Lib.hid (show _ ∧ _ ∧ _ ∧ _ ∧ _ from ⟨hb1, hN1, hR1, hk1, hf1⟩)
  clear hb1 hN1 hR1 hk1 hf1 bN1 bR1 hB1 bX bN bR bS hB0 ht hsz hpa
  have HM := Lib.hid (show (((pre ++ [q]).length : Nat) : Int) = (pre.length : Int) + 1 by simp)
  have hM1 : (((pre ++ [q]).length : Nat) : Int) = (pre.length : Int) + 1 := HM.out
  generalize hM : (((pre ++ [q]).length : Nat) : Int) = M at *
  have HMq := Lib.hid hM
  unfold ndV at hA
  unfold ndV
  rcases Nat.lt_or_ge pre.length 4096 with hc | hc
  ·have hle : M ≤ 4096 := by omega
   clear hM hM1
   cases hv : aloneN q.1
   all_goals
    rw [hv] at hA
    have HV := Lib.hid hv
    clear hv
    gi_wp2
    refine ⟨trivial, hdd _, (CallsIn.inRound l (callsIn_wide.2 hA.out)).mono ?_⟩
    rintro e W3 ⟨rfl, hb3⟩
    have HZ := Lib.hid (show KeepsFrom W0.heap.size W W3 ∧ Kc (w.heap.size + 1 + 1) W W3 ∧ (Boxed W3 (w.heap.size + 1 + 1) 3 (.int .i64 M) ∧ Boxed W3 (w.heap.size + 1) 4 (.bool false)) ∧ Below w.heap.size w W3 from by
     obtain ⟨hb1, hN1, hR1, hk1, hf1⟩ := HX.out
     exact ⟨hf1.trans (keepsFrom_below hb3), hk1.trans (Kc.below hb3), ⟨(hb3.block _ hN1.lt).trans hN1, (hb3.block _ hR1.lt).trans hR1⟩, hb1.trans (hb3.mono hb1.size)⟩)
    have cR3 := HZ.out.2.2.1.2.cell
    have fR3 := HZ.out.2.2.1.2.frozen
    clear HX hb3 hA cR fR
    dsimp only
    gi_wp2
   ·exact ⟨HZ.out.1.trans ((KeepsOthers.setCell _ _ _).from _), rfl, ⟨HZ.out.2.2.1.2.set _, .inr ⟨q, by simp, HV.out⟩⟩, HZ.out.2.2.2.setCell (p := ⟨w.heap.size + 1, 0, none⟩) (by simp) _⟩
   ·refine ⟨HZ.out.1, HZ.out.2.1, ⟨⟨by rw [HMq.out]; exact HZ.out.2.2.1.1, HZ.out.2.2.1.2⟩, by simp; omega, fun r hr => ?_⟩, HZ.out.2.2.2⟩
    rcases List.mem_append.1 hr with hr | hr
    ·exact HPA.out r hr
    ·rw [List.mem_singleton.1 hr]; exact HV.out
  ·have hgt : decide ((4096 : Int) < M) = true := (by rw [decide_eq_true_eq]; omega)
   have hgl : 4096 < (pre ++ [q]).length := by simp; omega
   clear hM hM1 hA
   gi_wp2
   refine ⟨trivial, ?_⟩
   gi_wp2
   obtain ⟨hb1, hN1, hR1, hk1, hf1⟩ := HX.out
   exact ⟨hf1.trans ((KeepsOthers.setCell _ _ _).from _), rfl, ⟨hR1.set _, .inl hgl⟩, hb1.setCell (p := ⟨w.heap.size + 1, 0, none⟩) (by simp) _⟩
 case done =>
  rintro D ys W hD hys ⟨⟨⟨bN1, bR1⟩, hpl, hpa⟩, hB1⟩ hK
  have HRT := Lib.hid (rightT_yes hys hpl hpa)
  have cR := bR1.cell
  have fR := bR1.frozen
  gi_wp2
  have hK2 := (KeepsOthers.setCell W ⟨w.heap.size + 1, 0, none⟩ (.bool true)).same D _ hK rfl
  refine ⟨by simp, .inl ⟨_, _, rfl, run_takeDeferred hK2, ?_⟩⟩
  have hc : ((W.setCell ⟨w.heap.size + 1, 0, none⟩ (.bool true)).putObj D (.deferred none)).cell? ⟨w.heap.size + 1, 0, none⟩ = some (.bool true) := cell_kept (bR1.set _).cell (grownBy_putObj' _ D (.deferred none)) (fun r e => by cases e; exact ⟨_, hK2, rfl⟩)
  exact ⟨_, ret_boolc rfl rfl hc, by rw [HRT.out], (hB1.setCell (p := ⟨w.heap.size + 1, 0, none⟩) (by simp) _).trans (belowK_b (w := w) (Nat.le_refl _) _ D _ _ (by omega) hK2 rfl rfl)⟩
 case stop =>
  rintro D c pre W hD hsp ⟨rfl, ⟨bR1, hbad⟩, hB1⟩ hK
  have HRT := Lib.hid (rightT_no hsp hbad)
  gi_wp2
  refine ⟨by simp, .inl ⟨_, _, rfl, run_takeDeferred hK, ?_⟩⟩
  have hc : (W.putObj D (.deferred none)).cell? ⟨w.heap.size + 1, 0, none⟩ = some (.bool false) := cell_kept bR1.cell (grownBy_putObj' _ D (.deferred none)) (fun r e => by cases e; exact ⟨_, hK, rfl⟩)
  exact ⟨_, ret_boolc rfl rfl hc, by rw [HRT.out], hB1.trans (belowK_b (w := w) (Nat.le_refl _) _ D _ _ (by omega) hK rfl rfl)⟩
theorem tright_any (x : Nd) (B : Option Addr) (cap : Nat) (w : World) (hsz : x.size ≤ 4611686018427387903) (ht : TreesAt w (fun b => b < w.heap.size) x.kids B) :
  Calls Tryz.prog 15 #[ndV x B cap] w fun e w' => e = .returned (.bool (rightT x)) ∧ Below w.heap.size w w' :=
 callsIn_wide.1 (trightx_in 3 (Nat.le_refl _) x B cap w hsz ht)
end
section
open Go.RowKit
def numsOk (y : Nd) : Prop := y.kind = 9 → 0 ≤ y.lo ∧ y.lo ≤ 1000 ∧ -1 ≤ y.hi ∧ y.hi ≤ 1000
theorem numsOk_of {y : Nd} (h : aloneN y = true) : numsOk y := by
 intro h9
 unfold aloneN aloneV at h
 rw [if_neg (by omega)] at h
 split at h
 ·cases h
 try rw [if_pos h9] at h
 rw [Bool.and_eq_true] at h
 have := h.1
 unfold timesB at this
 simp only [Bool.and_eq_true, Bool.or_eq_true, decide_eq_true_eq] at this
 omega
theorem aloneN_kids {y : Nd} (h : aloneN y = true) : (6 ≤ y.kind → y.kind ≤ 9 → y.kids.len = 1) ∧ (y.kind = 9 → 0 ≤ y.lo ∧ (y.hi = -1 ∨ y.lo ≤ y.hi)) ∧ (y.kind < 4 → y.kids.len = 0) ∧ 1 ≤ y.kind ∧ y.kind ≤ 9 := by
 unfold aloneN aloneV at h
 by_cases h3 : y.kind = 3
 ·rw [if_pos h3] at h
  simp at h
  omega
 rw [if_neg h3] at h
 split at h
 ·cases h
 by_cases h9 : y.kind = 9
 ·rw [if_pos h9] at h
  unfold timesB at h
  simp at h
  omega
 ·rw [if_neg h9] at h
  by_cases k1 : y.kind = 1 ∨ y.kind = 2 ∨ y.kind = 3
  ·have e : arityS y.kind = 0 := by unfold arityS; rw [if_pos k1]
   rw [e] at h
   simp at h
   omega
  by_cases k2 : y.kind = 4 ∨ y.kind = 5
  ·have e : arityS y.kind = 2 := by unfold arityS; rw [if_neg k1, if_pos k2]
   rw [e] at h
   simp at h
   omega
  by_cases k3 : 6 ≤ y.kind ∧ y.kind ≤ 9
  ·have e : arityS y.kind = 1 := by unfold arityS; rw [if_neg k1, if_neg k2, if_pos k3]
   rw [e] at h
   simp at h
   omega
  ·have e : arityS y.kind = -1 := by unfold arityS; rw [if_neg k1, if_neg k2, if_neg k3]
   rw [e] at h
   simp at h
def Okays (F : Trees) : Prop := ∀ y ∈ F.nodes, aloneN y = true
theorem rightT_size {x : Nd} (h : rightT x = true) : x.size ≤ 4096 := by
 unfold rightT at h
 rw [Bool.and_eq_true, decide_eq_true_eq] at h
 rw [← x.nodes_len]
 exact h.1
theorem ownsRow_block {W W' : World} {base size k : Nat} {e : TypeId} {v : Value} {xs : List Value} (hr : W.ownsRow base e size v k xs) (hb : ∀ k, v.ownBlock = some k → W'.heap[k]? = W.heap[k]?) : W'.ownsRow base e size v k xs := by
 refine ⟨hr.1, ?_⟩
 rcases hr.2 with h | ⟨g, cap, cur, rfl, h1, h2, h3⟩
 ·exact .inl h
 ·exact .inr ⟨g, cap, cur, rfl, h1, (hb g rfl).trans h2, h3⟩
structure Moves (base : Nat) (S : Nat → Prop) (w : World) (S' : Nat → Prop) (w' : World) : Prop where
 below : Below base w w'
 size : w.heap.size ≤ w'.heap.size
 kept : ∀ b, b < w.heap.size → ¬ S b → w'.heap[b]? = w.heap[b]?
 fresh : ∀ b, S' b → S b ∨ w.heap.size ≤ b
theorem Moves.refl (base : Nat) (S : Nat → Prop) (w : World) : Moves base S w S w := ⟨Below.refl _ _, Nat.le_refl _, fun _ _ _ => rfl, fun b hb => .inl hb⟩
theorem Moves.trans {base : Nat} {S S1 S2 : Nat → Prop} {w w1 w2 : World} (h : Moves base S w S1 w1) (h' : Moves base S1 w1 S2 w2) : Moves base S w S2 w2 :=
 ⟨h.below.trans h'.below, Nat.le_trans h.size h'.size, fun b hb hn => by
  have hn1 : ¬ S1 b := fun hb1 => by
   rcases h.fresh b hb1 with h2 | h2
   ·exact hn h2
   ·omega
  exact (h'.kept b (by have := h.size; omega) hn1).trans (h.kept b hb hn), fun b hb => by
  rcases h'.fresh b hb with h2 | h2
  ·exact h.fresh b h2
  ·right; have := h.size; omega⟩
theorem Moves.alloc {base : Nat} {S S1 : Nat → Prop} {w w1 : World} (h : Moves base S w S1 w1) (hb : base ≤ w.heap.size) (o : Obj) : Moves base S w S1 (w1.alloc o) :=
 ⟨h.below.alloc (by have := h.size; omega) o, by have := h.size; simp; omega, fun b hb hn => (Below.heap_alloc w1 o b (by have := h.size; omega)).trans (h.kept b hb hn), h.fresh⟩
theorem Blk.moves {base : Nat} {S S1 : Nat → Prop} {w w1 : World} {b : Nat} {t : TypeId} {cs : Array Value} (h : Blk w b t cs) (hm : Moves base S w S1 w1) (hn : ¬ S b) : Blk w1 b t cs := (hm.kept b h.lt hn).trans h
theorem Moves.notIn {base : Nat} {S S1 : Nat → Prop} {w w1 : World} (h : Moves base S w S1 w1) {b : Nat} (hb : b < w.heap.size) (hn : ¬ S b) : ¬ S1 b := fun h1 => by
 rcases h.fresh b h1 with h2 | h2
 ·exact hn h2
 ·omega
theorem Moves.of_below {base : Nat} {S : Nat → Prop} {w w' : World} (h : Below w.heap.size w w') (hb : base ≤ w.heap.size) : Moves base S w S w' :=
 ⟨h.mono hb, h.size, fun b hb _ => h.block b hb, fun b hb => .inl hb⟩
theorem Moves.setS {base : Nat} {S S1 : Nat → Prop} {w w1 : World} (h : Moves base S w S1 w1) {p : Addr} (hp : S p.block) (hb : base ≤ p.block) (u : Value) : Moves base S w S1 (w1.setCell p u) :=
 ⟨h.below.setCell hb u, by have := h.size; simpa [World.setCell] using this, fun b hlt hn => (Below.heap_setCell w1 p u b (fun e => hn (e ▸ hp))).trans (h.kept b hlt hn), h.fresh⟩
theorem Moves.push {base : Nat} {S : Nat → Prop} {w wa w1 : World} {v : Value} {gg : Nat} (hS : ∀ b, S b → base ≤ b ∧ b < w.heap.size) (hb : base ≤ w.heap.size) (ha : Below w.heap.size w wa) (hgrow : wa.grownBy w1 v.ownBlock) (hv : ∀ b, v.ownBlock = some b → S b) (hat : v.ownBlock = some gg ∨ w.heap.size ≤ gg) :
  Moves base S w (fun b => S b ∨ b = gg) w1 := by
 have hsz := ha.size
 have hs2 : wa.heap.size ≤ w1.heap.size := hgrow.size
 refine ⟨(ha.mono hb).grown hgrow (by omega) (fun k hk => (hS k (hv k hk)).1), by omega, fun b hlt hn => ?_, fun b hb => ?_⟩
 ·exact (hgrow.block b (by omega) (fun e => hn (hv b e.symm))).trans (ha.block b hlt)
 ·rcases hb with h | rfl
  ·exact .inl h
  ·rcases hat with h | h
   ·exact .inl (hv _ h)
   ·exact .inr h
theorem take_snocF {α : Type} {l : List α} {k : Nat} {x : α} (h : l[k]? = some x) : l.take (k + 1) = l.take k ++ [x] := by
 obtain ⟨hk, rfl⟩ := List.getElem?_eq_some_iff.1 h
 rw [List.take_succ_eq_append_getElem hk]
structure NfaV where
 states : Int
 start : Int
 links : List (Int × Int)
 edges : List (Int × Nat × Int)
 accept : List Int
@[inline] def nfA (N : NfaV) (A1 : Option Addr) (k1 : Nat) (A2 : Option Addr) (k2 : Nat) (A3 : Option Addr) (k3 : Nat) : Array Value := #[.int .i64 N.states, .int .i64 N.start, .slice A1 N.links.length k1, .slice A2 N.edges.length k2, .slice A3 N.accept.length k3]
def Laid2 (w : World) (A : Option Addr) (cap : Nat) (bs : List Nat) (i : Int) : World :=
 (w.alloc (.cells #[.int .i64 0, .int .i64 0] 77)).alloc (.cells #[.slice A bs.length cap, .int .i64 i, .int .i64 0, .int .i64 0, .int .i64 0] 259)
section
variable (w : World) (A : Option Addr) (cap : Nat) (bs : List Nat) (i : Int)
theorem Laid2.rd : Rd (Laid2 w A cap bs i) (w.heap.size + 1) A cap bs i 0 0 0 := Blk.new_at (by simp)
theorem Laid2.bad : Blk (Laid2 w A cap bs i) w.heap.size 77 #[.int .i64 0, .int .i64 0] := (Blk.new _ _ _).alloc _
theorem Laid2.below : Below w.heap.size w (Laid2 w A cap bs i) := ((Below.refl _ _).alloc (Nat.le_refl _) _).alloc (by simp) _
theorem Laid2.size : (Laid2 w A cap bs i).heap.size = w.heap.size + 1 + 1 := by simp [Laid2]
end
theorem esc_no (A : Option Addr) (cap : Nat) (bs : List Nat) (i : Int) (w : World) (hA : BytesAt w w.heap.size A bs) (h : hasAt bs i 92 = false) : Calls Tryz.prog 226 #[.slice A bs.length cap, .int .i64 i] w fun e w' => e = .returned (escVal bs i) ∧ Below w.heap.size w w' := by
 rw [escVal_no h]
 have HA := Lib.hid (hA.below (Laid2.below w A cap bs i))
 obtain ⟨b0, b1, x0, x1⟩ := (Laid2.bad w A cap bs i).c2
 have Hb := Lib.hid (Laid2.bad w A cap bs i)
 clear hA
 go_enter Tryz.func226, Tryz.ntmps226
 go_wp2_with fail
 refine (here_go (w.heap.size + 1) A cap bs _ _ _ _ 92 w.heap.size _ (Laid2.rd w A cap bs _) HA.out (by omega) (by omega)).mono ?_
 rintro e w1 ⟨rfl, n1, rfl⟩
 go_wp2
 go_light
 refine bodyPost_ret (ret_esc Tryz.results226 rfl rfl rfl (Hb.out.drewN n1).set2) rfl ⟨rfl, ?_⟩
 exact below_set2 (below_drewN (Laid2.below w A cap bs i) n1) (Nat.le_refl _) _ _
theorem esc_yes (A : Option Addr) (cap : Nat) (bs : List Nat) (i : Nat) (w : World) (hA : BytesAt w w.heap.size A bs) (h : hasAt bs (i : Int) 92 = true) (hi : i < bs.length) : Calls Tryz.prog 226 #[.slice A bs.length cap, .int .i64 (i : Int)] w fun e w' => e = .returned (escVal bs (i : Int)) ∧ Below w.heap.size w w' := by
 have HA := Lib.hid (hA.below (Laid2.below w A cap bs i))
 obtain ⟨b0, b1, x0, x1⟩ := (Laid2.bad w A cap bs i).c2
 have Hb := Lib.hid (Laid2.bad w A cap bs i)
 clear hA
 cases he : escS bs i with
 | none =>
  have HV := Lib.hid (escVal_none h he)
  have He := Lib.hid he
  clear he
  rw [HV.out]
  go_enter Tryz.func226, Tryz.ntmps226
  go_wp2_with fail
  refine (here_go (w.heap.size + 1) A cap bs _ _ _ _ 92 w.heap.size _ (Laid2.rd w A cap bs _) HA.out (by omega) (by omega)).mono ?_
  rintro e w1 ⟨rfl, n1, rfl⟩
  go_wp2_with (go_at_call 244; refine (escape_go (w.heap.size + 1) A cap bs i _ w.heap.size _ ((Laid2.rd w A cap bs _).drewN n1) (HA.out.drewN n1) (by omega) hi).mono ?_; rintro e w2 hp; unfold EscPost at hp; rw [He.out] at hp; obtain ⟨hg2, c', j', hc', rfl, hr2⟩ := hp; obtain ⟨c0, c1, c2, c3, c4, e1, e3, e4⟩ := hr2.cells; have hb2 := (Hb.out.drewN n1).grown hg2 (by simp); obtain ⟨r0, r1, r2, r3⟩ := hb2.c2; have Hb2 := Lib.hid hb2; have Hg2 := Lib.hid hg2; clear hb2 hg2 hr2)
  go_region
  all_goals go_wp2
  all_goals go_light
  refine bodyPost_ret (ret_esc Tryz.results226 rfl rfl rfl Hb2.out.set2.drew) rfl ⟨rfl, ?_⟩
  exact (below_set2 (below_only (below_drewN (Laid2.below w A cap bs i) n1) Hg2.out (by omega) (by simp [Laid2.size]; omega)) (Nat.le_refl _) _ _).drew
 | some x =>
  obtain ⟨c', j'⟩ := x
  have HV := Lib.hid (escVal_some h he)
  have He := Lib.hid he
  clear he
  rw [HV.out]
  go_enter Tryz.func226, Tryz.ntmps226
  go_wp2_with fail
  refine (here_go (w.heap.size + 1) A cap bs _ _ _ _ 92 w.heap.size _ (Laid2.rd w A cap bs _) HA.out (by omega) (by omega)).mono ?_
  rintro e w1 ⟨rfl, n1, rfl⟩
  go_wp2_with (go_at_call 244; refine (escape_go (w.heap.size + 1) A cap bs i _ w.heap.size _ ((Laid2.rd w A cap bs _).drewN n1) (HA.out.drewN n1) (by omega) hi).mono ?_; rintro e w2 hp; unfold EscPost at hp; rw [He.out] at hp; obtain ⟨hg2, rfl, hr2⟩ := hp; obtain ⟨c0, c1, c2, c3, c4, e1, e3, e4⟩ := hr2.cells; have hb2 := (Hb.out.drewN n1).grown hg2 (by simp); obtain ⟨r0, r1, r2, r3⟩ := hb2.c2; have Hb2 := Lib.hid hb2; have Hg2 := Lib.hid hg2; clear hb2 hg2 hr2)
  go_region
  all_goals go_wp2
  all_goals go_light
  refine bodyPost_ret (ret_esc Tryz.results226 rfl rfl rfl Hb2.out.set2.drew) rfl ⟨rfl, ?_⟩
  exact (below_set2 (below_only (below_drewN (Laid2.below w A cap bs i) n1) Hg2.out (by omega) (by simp [Laid2.size]; omega)) (Nat.le_refl _) _ _).drew
theorem esc_go (A : Option Addr) (cap : Nat) (bs : List Nat) (i : Int) (w : World) (hA : BytesAt w w.heap.size A bs) : Calls Tryz.prog 226 #[.slice A bs.length cap, .int .i64 i] w fun e w' => e = .returned (escVal bs i) ∧ Below w.heap.size w w' := by
 cases h : hasAt bs i 92 with
 | false => exact esc_no A cap bs i w hA h
 | true =>
  obtain ⟨i, rfl, hlt, _⟩ := hasAt_yes h
  exact esc_yes A cap bs i w hA h hlt
theorem Rd.alloc {w : World} {g : Nat} {A : Option Addr} {cap : Nat} {bs : List Nat} {i start kind place : Int} (h : Rd w g A cap bs i start kind place) (o : Obj) : Rd (w.alloc o) g A cap bs i start kind place := Blk.alloc h o
theorem Rd.below {w w' : World} {B g : Nat} {A : Option Addr} {cap : Nat} {bs : List Nat} {i start kind place : Int} (h : Rd w g A cap bs i start kind place) (hb : Below B w w') (hg : g < B) : Rd w' g A cap bs i start kind place := Blk.below h hb hg
theorem Rd.set4 {w : World} {g g' : Nat} {A : Option Addr} {cap : Nat} {bs : List Nat} {i start kind place : Int} (h : Rd w g A cap bs i start kind place) (hg : g ≠ g') (a b c d : Value) :
  Rd ((((w.setCell ⟨g', 0, none⟩ a).setCell ⟨g', 1, none⟩ b).setCell ⟨g', 2, none⟩ c).setCell ⟨g', 3, none⟩ d) g A cap bs i start kind place :=
 Blk.far (Blk.far (Blk.far (Blk.far h (by dsimp only; omega) _) (by dsimp only; omega) _) (by dsimp only; omega) _) (by dsimp only; omega) _
theorem only_set4 {a w : World} {g g' : Nat} (h : a.grownBy w (some g)) (hg : a.heap.size ≤ g') (x y z u : Value) :
  a.grownBy ((((w.setCell ⟨g', 0, none⟩ x).setCell ⟨g', 1, none⟩ y).setCell ⟨g', 2, none⟩ z).setCell ⟨g', 3, none⟩ u) (some g) :=
 only_set' (only_set' (only_set' (only_set' h hg _ _) hg _ _) hg _ _) hg _ _
def ItemPost (g : Nat) (A : Option Addr) (cap : Nat) (bs : List Nat) (i s : Nat) (w : World) (e : Ending) (w' : World) : Prop :=
 w.grownBy w' (some g) ∧
 match itemS bs s i with
 | .ok (lo, hi, j) => e = .returned (.agg #[.int .u64 (word (between lo hi) 0), .int .u64 (word (between lo hi) 1), .int .u64 (word (between lo hi) 2), .int .u64 (word (between lo hi) 3)]) ∧ Rd w' g A cap bs (j : Int) (s : Int) 0 0
 | .error (k, p) => k ≠ 0 ∧ ∃ (q : Nat → Bool) (j : Nat), e = .returned (.agg #[.int .u64 (word q 0), .int .u64 (word q 1), .int .u64 (word q 2), .int .u64 (word q 3)]) ∧ Rd w' g A cap bs (j : Int) (s : Int) k p
theorem ItemPost.yes {g : Nat} {A : Option Addr} {cap : Nat} {bs : List Nat} {i s : Nat} {w : World} {e : Ending} {w' : World} {lo hi j : Nat} (hg : w.grownBy w' (some g)) (hs : itemS bs s i = .ok (lo, hi, j))
  (he : e = .returned (.agg #[.int .u64 (word (between lo hi) 0), .int .u64 (word (between lo hi) 1), .int .u64 (word (between lo hi) 2), .int .u64 (word (between lo hi) 3)])) (hr : Rd w' g A cap bs (j : Int) (s : Int) 0 0) : ItemPost g A cap bs i s w e w' := by
 unfold ItemPost; rw [hs]; exact ⟨hg, he, hr⟩
theorem ItemPost.no {g : Nat} {A : Option Addr} {cap : Nat} {bs : List Nat} {i s : Nat} {w : World} {e : Ending} {w' : World} {k p : Int} (q : Nat → Bool) (j : Nat) (hg : w.grownBy w' (some g)) (hs : itemS bs s i = .error (k, p)) (hk : k ≠ 0)
  (he : e = .returned (.agg #[.int .u64 (word q 0), .int .u64 (word q 1), .int .u64 (word q 2), .int .u64 (word q 3)])) (hr : Rd w' g A cap bs (j : Int) (s : Int) k p) : ItemPost g A cap bs i s w e w' := by
 unfold ItemPost; rw [hs]; exact ⟨hg, hk, q, j, he, hr⟩
theorem item_bad1 (g : Nat) (A : Option Addr) (cap : Nat) (bs : List Nat) (i s : Nat) (B : Nat) (w : World) (hr : Rd w g A cap bs (i : Int) (s : Int) 0 0) (hA : BytesAt w B A bs) (hB : B ≤ g) (hi : i ≤ bs.length) (k p : Int) (he : charS bs s i = .error (k, p)) : Calls Tryz.prog 246 #[.pointer (some ⟨g, 0, none⟩)] w (ItemPost g A cap bs i s w) := by
 have hlt := hr.lt
 have hne : w.heap.size ≠ g := by omega
 obtain ⟨c0, c1, c2, c3, c4, f1, f3, f4⟩ := hr.cells
 have Hr := Lib.hid (hr.alloc (.cells #[.int .u64 0, .int .u64 0, .int .u64 0, .int .u64 0] 25))
 have HA : Hid (BytesAt (w.alloc (.cells #[.int .u64 0, .int .u64 0, .int .u64 0, .int .u64 0] 25)) B A bs) := hA.below ((Below.refl B w).alloc (by omega) _)
 have Hz : Hid (Blk (w.alloc (.cells #[.int .u64 0, .int .u64 0, .int .u64 0, .int .u64 0] 25)) w.heap.size 25 #[.int .u64 0, .int .u64 0, .int .u64 0, .int .u64 0]) := Blk.new _ _ _
 have Hg0 : Hid (w.grownBy (w.alloc (.cells #[.int .u64 0, .int .u64 0, .int .u64 0, .int .u64 0] 25)) (some g)) := only_alloc (only_refl _ _) _
 have Hl := Lib.hid hA.2.1
 have hl := hA.2.1
 clear hr hA
 have He := Lib.hid he
 have Hi : Hid (itemS bs s i = .error (k, p)) := by show itemS bs s i = _; unfold itemS; rw [he]
 clear he
 go_enter Tryz.func246, Tryz.ntmps246
 go_wp2_with fail
 with_reducible refine (char_go g A cap bs i s B _ Hr.out HA.out hB hi).mono ?_
 rintro e w1 hp
 unfold CharPost at hp
 rw [He.out] at hp
 obtain ⟨hg1, hk, c, j, hc, rfl, hr1⟩ := hp
 have hkb : (k == 0) = false := by simpa using hk
 obtain ⟨d0, d1, d2, d3, d4, e1, e3, e4⟩ := hr1.cells
 have Hr1 := Lib.hid hr1
 have Hg1 := Lib.hid hg1
 have hlt1 := hr1.lt
 have hsz : w.heap.size < w1.heap.size := by have := hg1.size; simp at this; omega
 clear hr1 hg1
 go_wp2_with (go_at_call 259; refine (span_any _ _ _ (by omega) (by omega)).mono ?_; rintro e w2 ⟨rfl, hb2⟩; obtain ⟨z0, z1, z2, z3, y0, y1, y2, y3⟩ := ((Hz.out.grown Hg1.out (by simpa using hne)).below hb2 hsz).c4)
 go_light
 refine bodyPost_ret (ret_set Tryz.results246 rfl ((Hz.out.grown Hg1.out (by simpa using hne)).below hb2 hsz).set4) rfl ?_
 exact ItemPost.no _ j (only_set4 (only_below (only_trans Hg0.out Hg1.out) hb2) (Nat.le_refl _) _ _ _ _) Hi.out hk rfl ((Hr1.out.below hb2 hlt1).set4 (by omega) _ _ _ _)
theorem item_one (g : Nat) (A : Option Addr) (cap : Nat) (bs : List Nat) (i s : Nat) (B : Nat) (w : World) (hr : Rd w g A cap bs (i : Int) (s : Int) 0 0) (hA : BytesAt w B A bs) (hB : B ≤ g) (hi : i ≤ bs.length) (lo j : Nat) (he : charS bs s i = .ok (lo, j)) (hlo : lo < 256) (hh : hasAt bs (j : Int) 45 = false) : Calls Tryz.prog 246 #[.pointer (some ⟨g, 0, none⟩)] w (ItemPost g A cap bs i s w) := by
 have hlt := hr.lt
 have hne : w.heap.size ≠ g := by omega
 obtain ⟨c0, c1, c2, c3, c4, f1, f3, f4⟩ := hr.cells
 have Hr := Lib.hid (hr.alloc (.cells #[.int .u64 0, .int .u64 0, .int .u64 0, .int .u64 0] 25))
 have HA : Hid (BytesAt (w.alloc (.cells #[.int .u64 0, .int .u64 0, .int .u64 0, .int .u64 0] 25)) B A bs) := hA.below ((Below.refl B w).alloc (by omega) _)
 have Hz : Hid (Blk (w.alloc (.cells #[.int .u64 0, .int .u64 0, .int .u64 0, .int .u64 0] 25)) w.heap.size 25 #[.int .u64 0, .int .u64 0, .int .u64 0, .int .u64 0]) := Blk.new _ _ _
 have Hg0 : Hid (w.grownBy (w.alloc (.cells #[.int .u64 0, .int .u64 0, .int .u64 0, .int .u64 0] 25)) (some g)) := only_alloc (only_refl _ _) _
 have Hl := Lib.hid hA.2.1
 have hl := hA.2.1
 clear hr hA
 have He := Lib.hid he
 have Hh := Lib.hid hh
 have Hi : Hid (itemS bs s i = .ok (lo, lo, j)) := by show itemS bs s i = _; unfold itemS; rw [he]; dsimp only; rw [hh]; rfl
 clear he hh
 go_enter Tryz.func246, Tryz.ntmps246
 go_wp2_with fail
 with_reducible refine (char_go g A cap bs i s B _ Hr.out HA.out hB hi).mono ?_
 rintro e w1 hp
 unfold CharPost at hp
 rw [He.out] at hp
 obtain ⟨hg1, rfl, hr1⟩ := hp
 obtain ⟨d0, d1, d2, d3, d4, e1, e3, e4⟩ := hr1.cells
 have Hr1 := Lib.hid hr1
 have Hg1 := Lib.hid hg1
 have HA1 := Lib.hid (HA.out.only hg1 hB Hr.out.lt)
 have Hz1 : Hid (Blk w1 w.heap.size 25 #[.int .u64 0, .int .u64 0, .int .u64 0, .int .u64 0]) := Hz.out.grown hg1 (by simpa using hne)
 have hlt1 := hr1.lt
 have hsz : w.heap.size < w1.heap.size := by have := hg1.size; simp at this; omega
 clear hr1 hg1
 go_wp2_with (first
  | (go_at_call 245; refine (take_no g A cap bs _ _ _ _ 45 B _ Hr1.out HA1.out (by omega) (by omega) Hh.out).mono ?_; rintro e w2 ⟨rfl, hr2, hg2⟩; have hlt2 := hr2.lt; have Hr2 := Lib.hid hr2; have Hg2 := Lib.hid hg2; clear hr2 hg2; have hsz2 : w.heap.size < w2.heap.size := Nat.lt_of_lt_of_le hsz Hg2.out.size; have Hz2 := Lib.hid (Hz1.out.grown Hg2.out (by simpa using hne)))
  | (go_at_call 259; refine (span_any _ _ _ (by omega) (by omega)).mono ?_; rintro e w3 ⟨rfl, hb3⟩; obtain ⟨z0, z1, z2, z3, y0, y1, y2, y3⟩ := (Hz2.out.below hb3 hsz2).c4))
 go_light
 refine bodyPost_ret (ret_set Tryz.results246 rfl (Hz2.out.below hb3 hsz2).set4) rfl ?_
 exact ItemPost.yes (only_set4 (only_below (only_trans (only_trans Hg0.out Hg1.out) Hg2.out) hb3) (Nat.le_refl _) _ _ _ _) Hi.out rfl ((Hr2.out.below hb3 hlt2).set4 (by omega) _ _ _ _)
theorem item_bad2 (g : Nat) (A : Option Addr) (cap : Nat) (bs : List Nat) (i s : Nat) (B : Nat) (w : World) (hr : Rd w g A cap bs (i : Int) (s : Int) 0 0) (hA : BytesAt w B A bs) (hB : B ≤ g) (hi : i ≤ bs.length) (lo j : Nat) (he : charS bs s i = .ok (lo, j)) (hlo : lo < 256) (hh : hasAt bs (j : Int) 45 = true) (hj : j < bs.length) (k p : Int) (hf : charS bs s (j + 1) = .error (k, p)) : Calls Tryz.prog 246 #[.pointer (some ⟨g, 0, none⟩)] w (ItemPost g A cap bs i s w) := by
 have hlt := hr.lt
 have hne : w.heap.size ≠ g := by omega
 obtain ⟨c0, c1, c2, c3, c4, f1, f3, f4⟩ := hr.cells
 have Hr := Lib.hid (hr.alloc (.cells #[.int .u64 0, .int .u64 0, .int .u64 0, .int .u64 0] 25))
 have HA : Hid (BytesAt (w.alloc (.cells #[.int .u64 0, .int .u64 0, .int .u64 0, .int .u64 0] 25)) B A bs) := hA.below ((Below.refl B w).alloc (by omega) _)
 have Hz : Hid (Blk (w.alloc (.cells #[.int .u64 0, .int .u64 0, .int .u64 0, .int .u64 0] 25)) w.heap.size 25 #[.int .u64 0, .int .u64 0, .int .u64 0, .int .u64 0]) := Blk.new _ _ _
 have Hg0 : Hid (w.grownBy (w.alloc (.cells #[.int .u64 0, .int .u64 0, .int .u64 0, .int .u64 0] 25)) (some g)) := only_alloc (only_refl _ _) _
 have Hl := Lib.hid hA.2.1
 have hl := hA.2.1
 clear hr hA
 have He := Lib.hid he
 have Hh := Lib.hid hh
 have Hf := Lib.hid hf
 have Hi : Hid (itemS bs s i = .error (k, p)) := by show itemS bs s i = _; unfold itemS; rw [he]; dsimp only; rw [hh, hf]; rfl
 clear he hh hf
 go_enter Tryz.func246, Tryz.ntmps246
 go_wp2_with fail
 with_reducible refine (char_go g A cap bs i s B _ Hr.out HA.out hB hi).mono ?_
 rintro e w1 hp
 unfold CharPost at hp
 rw [He.out] at hp
 obtain ⟨hg1, rfl, hr1⟩ := hp
 obtain ⟨d0, d1, d2, d3, d4, e1, e3, e4⟩ := hr1.cells
 have Hr1 := Lib.hid hr1
 have Hg1 := Lib.hid hg1
 have HA1 := Lib.hid (HA.out.only hg1 hB Hr.out.lt)
 have Hz1 : Hid (Blk w1 w.heap.size 25 #[.int .u64 0, .int .u64 0, .int .u64 0, .int .u64 0]) := Hz.out.grown hg1 (by simpa using hne)
 have hlt1 := hr1.lt
 have hsz : w.heap.size < w1.heap.size := by have := hg1.size; simp at this; omega
 clear hr1 hg1
 go_wp2_with fail
 refine (take_yes g A cap bs _ _ _ _ 45 B _ Hr1.out HA1.out (by omega) (by omega) Hh.out).mono ?_
 rintro e w2 ⟨rfl, hr2, hg2⟩
 have Hg2 := Lib.hid hg2
 have HA2 := Lib.hid (HA1.out.only hg2 hB hlt1)
 have hlt2 := hr2.lt
 have Hr2 : Hid (Rd w2 g A cap bs ((j + 1 : Nat) : Int) (s : Int) 0 0) := by show Rd _ _ _ _ _ _ _ _ _; rw [show ((j + 1 : Nat) : Int) = (j : Int) + 1 by omega]; exact hr2
 have Hz2 := Lib.hid (Hz1.out.grown hg2 (by simpa using hne))
 clear hr2 hg2
 go_wp2_with fail
 with_reducible refine (char_go g A cap bs (j + 1) s B _ Hr2.out HA2.out hB (by omega)).mono ?_
 rintro e w3 hp
 unfold CharPost at hp
 rw [Hf.out] at hp
 obtain ⟨hg3, hk, c, j', hc, rfl, hr3⟩ := hp
 have hkn : k ≠ 0 := hk
 have Hg3 := Lib.hid hg3
 have Hr3 := Lib.hid hr3
 have hlt3 := hr3.lt
 have Hz3 := Lib.hid (Hz2.out.grown hg3 (by simpa using hne))
 have hsz3 := Hz3.out.lt
 clear hr3 hg3
 by_cases hcl : c < lo
 ·go_wp2_with (first
   | (go_at_call 255; refine (fail1_go g A cap bs _ _ _ _ _ _ _ Hr3.out hkn).mono ?_; rintro e w4 ⟨rfl, hr4, hg4⟩; have Hr4 := Lib.hid hr4; have Hg4 := Lib.hid hg4; have hlt4 := hr4.lt; have Hz4 := Lib.hid (Hz3.out.grown hg4 (by simpa using hne)); have hsz4 := Hz4.out.lt; clear hr4 hg4)
   | (go_at_call 259; refine (span_any _ _ _ (by omega) (by omega)).mono ?_; rintro e w5 ⟨rfl, hb5⟩; obtain ⟨z0, z1, z2, z3, y0, y1, y2, y3⟩ := (Hz4.out.below hb5 hsz4).c4))
  go_light
  refine bodyPost_ret (ret_set Tryz.results246 rfl (Hz4.out.below hb5 hsz4).set4) rfl ?_
  exact ItemPost.no _ j' (only_set4 (only_below (only_trans (only_trans (only_trans (only_trans Hg0.out Hg1.out) Hg2.out) Hg3.out) Hg4.out) hb5) (Nat.le_refl _) _ _ _ _) Hi.out hkn rfl ((Hr4.out.below hb5 hlt4).set4 (by omega) _ _ _ _)
 ·go_wp2_with (go_at_call 259; refine (span_any _ _ _ (by omega) (by omega)).mono ?_; rintro e w5 ⟨rfl, hb5⟩; obtain ⟨z0, z1, z2, z3, y0, y1, y2, y3⟩ := (Hz3.out.below hb5 hsz3).c4)
  go_light
  refine bodyPost_ret (ret_set Tryz.results246 rfl (Hz3.out.below hb5 hsz3).set4) rfl ?_
  exact ItemPost.no _ j' (only_set4 (only_below (only_trans (only_trans (only_trans Hg0.out Hg1.out) Hg2.out) Hg3.out) hb5) (Nat.le_refl _) _ _ _ _) Hi.out hkn rfl ((Hr3.out.below hb5 hlt3).set4 (by omega) _ _ _ _)
theorem item_two (g : Nat) (A : Option Addr) (cap : Nat) (bs : List Nat) (i s : Nat) (B : Nat) (w : World) (hr : Rd w g A cap bs (i : Int) (s : Int) 0 0) (hA : BytesAt w B A bs) (hB : B ≤ g) (hi : i ≤ bs.length) (lo j : Nat) (he : charS bs s i = .ok (lo, j)) (hlo : lo < 256) (hh : hasAt bs (j : Int) 45 = true) (hj : j < bs.length) (hi' j' : Nat) (hf : charS bs s (j + 1) = .ok (hi', j')) (hhi : hi' < 256) : Calls Tryz.prog 246 #[.pointer (some ⟨g, 0, none⟩)] w (ItemPost g A cap bs i s w) := by
 have hlt := hr.lt
 have hne : w.heap.size ≠ g := by omega
 obtain ⟨c0, c1, c2, c3, c4, f1, f3, f4⟩ := hr.cells
 have Hr := Lib.hid (hr.alloc (.cells #[.int .u64 0, .int .u64 0, .int .u64 0, .int .u64 0] 25))
 have HA : Hid (BytesAt (w.alloc (.cells #[.int .u64 0, .int .u64 0, .int .u64 0, .int .u64 0] 25)) B A bs) := hA.below ((Below.refl B w).alloc (by omega) _)
 have Hz : Hid (Blk (w.alloc (.cells #[.int .u64 0, .int .u64 0, .int .u64 0, .int .u64 0] 25)) w.heap.size 25 #[.int .u64 0, .int .u64 0, .int .u64 0, .int .u64 0]) := Blk.new _ _ _
 have Hg0 : Hid (w.grownBy (w.alloc (.cells #[.int .u64 0, .int .u64 0, .int .u64 0, .int .u64 0] 25)) (some g)) := only_alloc (only_refl _ _) _
 have Hl := Lib.hid hA.2.1
 have hl := hA.2.1
 clear hr hA
 have He := Lib.hid he
 have Hh := Lib.hid hh
 have Hf := Lib.hid hf
 have Hi : Hid (itemS bs s i = if hi' < lo then .error (15, (i : Int)) else .ok (lo, hi', j')) := by show itemS bs s i = _; unfold itemS; rw [he]; dsimp only; rw [hh, hf]; rfl
 clear he hh hf
 go_enter Tryz.func246, Tryz.ntmps246
 go_wp2_with fail
 with_reducible refine (char_go g A cap bs i s B _ Hr.out HA.out hB hi).mono ?_
 rintro e w1 hp
 unfold CharPost at hp
 rw [He.out] at hp
 obtain ⟨hg1, rfl, hr1⟩ := hp
 obtain ⟨d0, d1, d2, d3, d4, e1, e3, e4⟩ := hr1.cells
 have Hr1 := Lib.hid hr1
 have Hg1 := Lib.hid hg1
 have HA1 := Lib.hid (HA.out.only hg1 hB Hr.out.lt)
 have Hz1 : Hid (Blk w1 w.heap.size 25 #[.int .u64 0, .int .u64 0, .int .u64 0, .int .u64 0]) := Hz.out.grown hg1 (by simpa using hne)
 have hlt1 := hr1.lt
 have hsz : w.heap.size < w1.heap.size := by have := hg1.size; simp at this; omega
 clear hr1 hg1
 go_wp2_with fail
 refine (take_yes g A cap bs _ _ _ _ 45 B _ Hr1.out HA1.out (by omega) (by omega) Hh.out).mono ?_
 rintro e w2 ⟨rfl, hr2, hg2⟩
 have Hg2 := Lib.hid hg2
 have HA2 := Lib.hid (HA1.out.only hg2 hB hlt1)
 have hlt2 := hr2.lt
 have Hr2 : Hid (Rd w2 g A cap bs ((j + 1 : Nat) : Int) (s : Int) 0 0) := by show Rd _ _ _ _ _ _ _ _ _; rw [show ((j + 1 : Nat) : Int) = (j : Int) + 1 by omega]; exact hr2
 have Hz2 := Lib.hid (Hz1.out.grown hg2 (by simpa using hne))
 clear hr2 hg2
 go_wp2_with fail
 with_reducible refine (char_go g A cap bs (j + 1) s B _ Hr2.out HA2.out hB (by omega)).mono ?_
 rintro e w3 hp
 unfold CharPost at hp
 rw [Hf.out] at hp
 obtain ⟨hg3, rfl, hr3⟩ := hp
 have Hg3 := Lib.hid hg3
 have Hr3 := Lib.hid hr3
 have hlt3 := hr3.lt
 have Hz3 := Lib.hid (Hz2.out.grown hg3 (by simpa using hne))
 have hsz3 := Hz3.out.lt
 clear hr3 hg3
 by_cases hcl : hi' < lo
 ·go_wp2_with (first
   | (go_at_call 255; refine (fail0_go g A cap bs _ _ _ _ _ _ Hr3.out).mono ?_; rintro e w4 ⟨rfl, hr4, hg4⟩; have Hr4 := Lib.hid hr4; have Hg4 := Lib.hid hg4; have hlt4 := hr4.lt; have Hz4 := Lib.hid (Hz3.out.grown hg4 (by simpa using hne)); have hsz4 := Hz4.out.lt; clear hr4 hg4)
   | (go_at_call 259; refine (span_any _ _ _ (by omega) (by omega)).mono ?_; rintro e w5 ⟨rfl, hb5⟩; obtain ⟨z0, z1, z2, z3, y0, y1, y2, y3⟩ := (Hz4.out.below hb5 hsz4).c4))
  go_light
  refine bodyPost_ret (ret_set Tryz.results246 rfl (Hz4.out.below hb5 hsz4).set4) rfl ?_
  exact ItemPost.no _ j' (only_set4 (only_below (only_trans (only_trans (only_trans (only_trans Hg0.out Hg1.out) Hg2.out) Hg3.out) Hg4.out) hb5) (Nat.le_refl _) _ _ _ _) (by rw [Hi.out, if_pos hcl]) (by decide) rfl ((Hr4.out.below hb5 hlt4).set4 (by omega) _ _ _ _)
 ·go_wp2_with (go_at_call 259; refine (span_any _ _ _ (by omega) (by omega)).mono ?_; rintro e w5 ⟨rfl, hb5⟩; obtain ⟨z0, z1, z2, z3, y0, y1, y2, y3⟩ := (Hz3.out.below hb5 hsz3).c4)
  go_light
  refine bodyPost_ret (ret_set Tryz.results246 rfl (Hz3.out.below hb5 hsz3).set4) rfl ?_
  exact ItemPost.yes (only_set4 (only_below (only_trans (only_trans (only_trans Hg0.out Hg1.out) Hg2.out) Hg3.out) hb5) (Nat.le_refl _) _ _ _ _) (by rw [Hi.out, if_neg hcl]) rfl ((Hr3.out.below hb5 hlt3).set4 (by omega) _ _ _ _)
theorem item_go (g : Nat) (A : Option Addr) (cap : Nat) (bs : List Nat) (i s : Nat) (B : Nat) (w : World) (hr : Rd w g A cap bs (i : Int) (s : Int) 0 0) (hA : BytesAt w B A bs) (hB : B ≤ g) (hi : i ≤ bs.length) : Calls Tryz.prog 246 #[.pointer (some ⟨g, 0, none⟩)] w (ItemPost g A cap bs i s w) := by
 cases he : charS bs s i with
 | error x => obtain ⟨k, p⟩ := x; exact item_bad1 g A cap bs i s B w hr hA hB hi k p he
 | ok x =>
  obtain ⟨lo, j⟩ := x
  obtain ⟨a1, a2, a3⟩ := charS_ok hA.1 he
  cases hh : hasAt bs (j : Int) 45 with
  | false => exact item_one g A cap bs i s B w hr hA hB hi lo j he a3 hh
  | true =>
   obtain ⟨j', e', hj, _⟩ := hasAt_yes hh
   obtain rfl : j = j' := by omega
   cases hf : charS bs s (j + 1) with
   | error y => obtain ⟨k, p⟩ := y; exact item_bad2 g A cap bs i s B w hr hA hB hi lo j he a3 hh hj k p hf
   | ok y =>
    obtain ⟨hi', j'⟩ := y
    exact item_two g A cap bs i s B w hr hA hB hi lo j he a3 hh hj hi' j' hf (charS_ok hA.1 hf).2.2
def OrNew (P : Nat → Prop) (n b : Nat) : Prop := P b ∨ n ≤ b
theorem info_nd : (Tryz.prog.info? 28).map (fun i => (i.zero, i.size, i.bytes)) = some (some (.agg #[.int .i64 0, .int .u64 0, .int .u64 0, .int .u64 0, .int .u64 0, .slice none 0 0, .int .i64 0, .int .i64 0]), 8, 80) := by kernel_rfl
theorem ndCell_len (x : Nd) (B : Option Addr) (cap : Nat) : (ndCell x B cap).length = 8 := by simp [ndCell]
theorem addr_plus7 (b o j : Nat) : (⟨b, o, none⟩ : Addr).add j = ⟨b, o + j, none⟩ := by unfold Addr.add; split <;> simp_all
theorem TreesAt.cells {w : World} {P : Nat → Prop} : ∀ {l : List Nd} {b o : Nat}, TreesAt w P (Trees.of l) (some ⟨b, o, none⟩) → ∃ cs, CellsAre w P l cs ∧ ∀ j u, cs[j]? = some u → w.cell? ⟨b, o + j, none⟩ = some u
 | [], b, o, _ => ⟨[], rfl, fun j u h => by simp at h⟩
 | x :: l, b, o, ⟨b', o', B, cap, hA, hb, hc, hn, h1, h2⟩ => by
  simp at hA
  obtain ⟨rfl, rfl⟩ := hA
  obtain ⟨cs, hcs, hg⟩ := TreesAt.cells h2
  refine ⟨ndCell x B cap ++ cs, ⟨B, cap, cs, rfl, hc, h1, hcs⟩, fun j u hu => ?_⟩
  rcases Nat.lt_or_ge j 8 with hj | hj
  ·rw [List.getElem?_append_left (by rw [ndCell_len]; exact hj)] at hu
   obtain ⟨c0, c1, c2, c3, c4, c5, c6, c7⟩ := hn
   have hj' : j = 0 ∨ j = 1 ∨ j = 2 ∨ j = 3 ∨ j = 4 ∨ j = 5 ∨ j = 6 ∨ j = 7 := by omega
   rcases hj' with rfl | rfl | rfl | rfl | rfl | rfl | rfl | rfl
   all_goals
    have hu' := Option.some.inj hu
    subst hu'
    first | exact c0 | exact c1 | exact c2 | exact c3 | exact c4 | exact c5 | exact c6 | exact c7
  ·rw [List.getElem?_append_right (by rw [ndCell_len]; exact hj), ndCell_len] at hu
   have := hg (j - 8) u hu
   rw [show o + 8 + (j - 8) = o + j by omega] at this
   exact this
theorem CellsAre.one {w : World} {P : Nat → Prop} : ∀ {l : List Nd} {cs : List Value}, CellsAre w P l cs → ∀ u ∈ cs, u.oneCell' = true
 | [], cs, h, u, hu => by have : cs = [] := h; subst this; cases hu
 | x :: l, cs, ⟨B, cap, rest, hcs, hc, ht, hr⟩, u, hu => by
  subst hcs
  rcases List.mem_append.1 hu with hu | hu
  ·simp [ndCell] at hu
   rcases hu with rfl | rfl | rfl | rfl | rfl | rfl | rfl | rfl <;> rfl
  ·exact hr.one u hu
theorem nof_go (k : Int) (P : Nat → Prop) (A : Option Addr) (cap : Nat) (l : List Nd) (w : World) (hl : 0 < l.length) (hlen : l.length ≤ 100000) (ht : TreesAt w P (Trees.of l) A) :
  Calls Tryz.prog 89 #[.int .i64 k, .slice A l.length cap] w (Flatted (OrNew P w.heap.size) ⟨k, 0, Trees.of l, 0, 0⟩ w) := by
 obtain ⟨i0, hi, hz0, hz1, hz2⟩ := info_parts info_nd
 obtain ⟨b, o, rfl, _, hbl⟩ := ht.form (by rw [Trees.len_of]; exact hl)
 obtain ⟨cs, hcs, hg⟩ := (ht.weak (Q := fun b => P b ∧ b < w.heap.size) (fun b h1 h => ⟨h1, h⟩)).cells
 have hb0 : Below w.heap.size w ((w.alloc (.cells #[.int .i64 0, .int .u64 0, .int .u64 0, .int .u64 0, .int .u64 0, .slice none 0 0, .int .i64 0, .int .i64 0] 28)).alloc (.cells #[] 28)) := ((Below.refl _ _).alloc (Nat.le_refl _) _).alloc (by simp) _
 have hnews : ∀ j u, cs[j]? = some u → ((w.alloc (.cells #[.int .i64 0, .int .u64 0, .int .u64 0, .int .u64 0, .int .u64 0, .slice none 0 0, .int .i64 0, .int .i64 0] 28)).alloc (.cells #[] 28)).cell? ((⟨b, o, none⟩ : Addr).add j) = some u := fun j u hu => by
  rw [addr_plus7]
  exact (hb0.cell (p := ⟨b, o + j, none⟩) hbl).trans (hg j u hu)
 have hown : ((w.alloc (.cells #[.int .i64 0, .int .u64 0, .int .u64 0, .int .u64 0, .int .u64 0, .slice none 0 0, .int .i64 0, .int .i64 0] 28)).alloc (.cells #[] 28)).ownsRow (w.heap.size + 1) 28 8 (.slice (some ⟨w.heap.size + 1, 0, none⟩) 0 0) 0 [] := by
  have h := World.ownsRow_made (base := w.heap.size + 1) (size := 8) (e := 28) (w.alloc (.cells #[.int .i64 0, .int .u64 0, .int .u64 0, .int .u64 0, .int .u64 0, .slice none 0 0, .int .i64 0, .int .i64 0] 28)) #[] 0 (by simp) (by decide) rfl
  rw [World.size_alloc] at h
  exact h
 have HN := Lib.hid hnews
 have HO := Lib.hid hown
 have HC := Lib.hid hcs
 have h1 := hcs.one
 have hcl := hcs.length
 have HZ := Lib.hid ((Blk.new w 28 #[.int .i64 0, .int .u64 0, .int .u64 0, .int .u64 0, .int .u64 0, .slice none 0 0, .int .i64 0, .int .i64 0]).alloc (.cells #[] 28))
 have HB := Lib.hid hb0
 have H1 := Lib.hid h1
 have HCL := Lib.hid hcl
 have h63 : 0 + l.length ≤ maxLen := Nat.le_trans (by omega) (show 200000 ≤ maxLen by decide)
 have hby : (0 + l.length) * 80 ≤ 140737488355328 := by omega
 clear hnews hown hb0 hcs hg ht h1 hcl
 go_enter Tryz.func89, Tryz.ntmps89
 go_wp2_with (at_builtin; refine wpList_append_lies _ rfl _ _ 26 rfl (w.heap.size + 1) 28 i0 _ 8 80 Tryz.underlying26 hi hz0 hz1 hz2 rfl (by decide) (.slice (some ⟨w.heap.size + 1, 0, none⟩) 0 0) 0 [] rfl HO.out ⟨b, o, none⟩ l.length cap cs rfl HCL.out HN.out H1.out hl h63 hby (by simp) (w.heap.size + 2) (by simp) ?_; intro g capg w2 hown2 hgrow2 hat2 hg2; have hZ2 : Blk w2 w.heap.size 28 _ := HZ.out.grown hgrow2 (by simp [Value.ownBlock]); have y0 : w2.cell? ⟨w.heap.size, 0, none⟩ = some (.int .i64 0) := hZ2.cell 0; have y1 : w2.cell? ⟨w.heap.size, 1, none⟩ = some (.int .u64 0) := hZ2.cell 1; have y2 : w2.cell? ⟨w.heap.size, 2, none⟩ = some (.int .u64 0) := hZ2.cell 2; have y3 : w2.cell? ⟨w.heap.size, 3, none⟩ = some (.int .u64 0) := hZ2.cell 3; have y4 : w2.cell? ⟨w.heap.size, 4, none⟩ = some (.int .u64 0) := hZ2.cell 4; have y5 : w2.cell? ⟨w.heap.size, 5, none⟩ = some (.slice none 0 0) := hZ2.cell 5; have y6 : w2.cell? ⟨w.heap.size, 6, none⟩ = some (.int .i64 0) := hZ2.cell 6; have y7 : w2.cell? ⟨w.heap.size, 7, none⟩ = some (.int .i64 0) := hZ2.cell 7; have z0 := hZ2.frozen 0; have z1 := hZ2.frozen 1; have z2 := hZ2.frozen 2; have z3 := hZ2.frozen 3; have z4 := hZ2.frozen 4; have z5 := hZ2.frozen 5; have z6 := hZ2.frozen 6; have z7 := hZ2.frozen 7; have HZ2 := Lib.hid hZ2; have HO2 := Lib.hid hown2; have HG2 := Lib.hid hgrow2; clear hZ2 hown2 hgrow2 hat2)
 go_light
 have hlg := (HO2.out.lt g rfl).1
 have hB2 : Below w.heap.size w w2 := HB.out.grown HG2.out (by simp; omega) (fun k e => by simp [Value.ownBlock] at e; omega)
 have hB3 := below_put8 hB2 (Nat.le_refl _) (.int .i64 k) (.int .u64 0) (.int .u64 0) (.int .u64 0) (.int .u64 0) (.slice (some ⟨g, 0, none⟩) (0 + l.length) capg) (.int .i64 0) (.int .i64 0)
 have hO3 := HO2.out.kept (only_put8 w2 w.heap.size (.int .i64 k) (.int .u64 0) (.int .u64 0) (.int .u64 0) (.int .u64 0) (.slice (some ⟨g, 0, none⟩) (0 + l.length) capg) (.int .i64 0) (.int .i64 0)) (.inr (by simp [Value.ownBlock]; omega))
 rw [Nat.zero_add] at *
 have hC3 := CellsAre.keep (Q := OrNew P w.heap.size) (fun b o (hb : P b ∧ b < w.heap.size) _ => hB3.cell (p := ⟨b, o, none⟩) hb.2) (fun _ h _ => .inl h.1) HC.out
 obtain ⟨A', cap', hv, hc', ht'⟩ := trees_of hO3 hC3 (fun k e => .inr (by have := (hO3.lt k e).1; omega))
 obtain ⟨rfl, _, rfl⟩ := Value.slice.inj hv
 exact bodyPost_ret (ret_node Tryz.results89 rfl (HZ2.out.put8 _ _ _ _ _ _ _ _)) rfl ⟨_, _, by rw [ndV_plain, Trees.len_of], hB3, by rw [Trees.len_of]; exact hc', ht'⟩
theorem nbytes_any (p : Nat → Bool) (w : World) :
  Calls Tryz.prog 32 #[.agg #[.int .u64 (word p 0), .int .u64 (word p 1), .int .u64 (word p 2), .int .u64 (word p 3)]] w fun e w' => e = .returned (ndV (leafN (maskOf p)) none 0) ∧ Below w.heap.size w w' := by
 have hv : ndV (leafN (maskOf p)) none 0 = .agg #[.int .i64 3, .int .u64 (word p 0), .int .u64 (word p 1), .int .u64 (word p 2), .int .u64 (word p 3), .slice none 0 0, .int .i64 0, .int .i64 0] := by
  unfold ndV leafN
  dsimp only
  rw [word_mask p 0 (by decide), word_mask p 1 (by decide), word_mask p 2 (by decide), word_mask p 3 (by decide)]
  rfl
 rw [hv]
 go_enter Tryz.func32, Tryz.ntmps32
 go_wp2
 go_light
 refine bodyPost_ret (ret_node Tryz.results32 rfl (Blk.new_at (by simp))) rfl ⟨rfl, ((Below.refl _ _).alloc (Nat.le_refl _) _).alloc (by simp) _⟩
def manyN (k none : Int) : List Nd → Nd
 | [] => ⟨none, 0, .nil, 0, 0⟩
 | [x] => x
 | l => ⟨k, 0, Trees.of l, 0, 0⟩
theorem manyN_part (l : List Nd) : manyN 4 2 l = partN l := by
 match l with
 | [] => rfl
 | [x] => rfl
 | x :: y :: l => rfl
theorem manyN_more (k none : Int) (l : List Nd) (h : 2 ≤ l.length) : manyN k none l = ⟨k, 0, Trees.of l, 0, 0⟩ := by
 match l, h with
 | [], h => simp at h
 | [x], h => simp at h
 | x :: y :: l, _ => rfl
theorem flat_put {w w2 : World} {x : Nd} {B : Option Addr} {cap : Nat} (hZ : Blk w2 w.heap.size 28 #[.int .i64 0, .int .u64 0, .int .u64 0, .int .u64 0, .int .u64 0, .slice none 0 0, .int .i64 0, .int .i64 0]) (hB : Below w.heap.size w w2) {P : Nat → Prop} (ht : TreesAt w2 (OrNew (fun b => P b ∧ b < w.heap.size) (w.heap.size + 1)) x.kids B) {w' : World}
  (hw' : w' = ((((((((w2.setCell ⟨w.heap.size, 0, none⟩ (.int .i64 x.kind)).setCell ⟨w.heap.size, 1, none⟩ (.int .u64 (word x.set.testBit 0))).setCell ⟨w.heap.size, 2, none⟩ (.int .u64 (word x.set.testBit 1))).setCell ⟨w.heap.size, 3, none⟩ (.int .u64 (word x.set.testBit 2))).setCell ⟨w.heap.size, 4, none⟩ (.int .u64 (word x.set.testBit 3))).setCell ⟨w.heap.size, 5, none⟩ (.slice B x.kids.len cap)).setCell ⟨w.heap.size, 6, none⟩ (.int .i64 x.lo)).setCell ⟨w.heap.size, 7, none⟩ (.int .i64 x.hi))) :
  Blk w' w.heap.size 28 (ndA x B cap) ∧ Below w.heap.size w w' ∧ TreesAt w' (OrNew P w.heap.size) x.kids B := by
 have hg : w2.grownBy w' (some w.heap.size) := by rw [hw']; exact only_put8 _ _ _ _ _ _ _ _ _ _
 refine ⟨by rw [hw']; exact hZ.put8 _ _ _ _ _ _ _ _, by rw [hw']; exact below_put8 hB (Nat.le_refl _) _ _ _ _ _ _ _ _, ht.keep (fun b o hb hl => World.cell?_of_block (hg.block b hl (fun e => by have := Option.some.inj e; rcases hb with h | h <;> omega))) (fun b hb _ => hb.imp (fun h => h.1) (fun h => by omega))⟩
theorem nrep_go (P : Nat → Prop) (x : Nd) (B : Option Addr) (cap : Nat) (lo hi : Int) (w : World) (hc : x.kids.len ≤ cap) (ht : TreesAt w P x.kids B) :
  Calls Tryz.prog 31 #[ndV x B cap, .int .i64 lo, .int .i64 hi] w (Flatted (OrNew P w.heap.size) ⟨9, 0, Trees.of [x], lo, hi⟩ w) := by
 have hb3 : Below w.heap.size w (((w.alloc (.cells (ndA x B cap) 28)).alloc (.cells #[.int .i64 0, .int .u64 0, .int .u64 0, .int .u64 0, .int .u64 0, .slice none 0 0, .int .i64 0, .int .i64 0] 28)).alloc (.cells (ndA x B cap) 28)) := (((Below.refl _ _).alloc (Nat.le_refl _) _).alloc (by simp) _).alloc (by simp; omega) _
 have hs3 : ((((w.alloc (.cells (ndA x B cap) 28)).alloc (.cells #[.int .i64 0, .int .u64 0, .int .u64 0, .int .u64 0, .int .u64 0, .slice none 0 0, .int .i64 0, .int .i64 0] 28)).alloc (.cells (ndA x B cap) 28))).heap.size = w.heap.size + 3 := by simp
 have hX : Blk (((w.alloc (.cells (ndA x B cap) 28)).alloc (.cells #[.int .i64 0, .int .u64 0, .int .u64 0, .int .u64 0, .int .u64 0, .slice none 0 0, .int .i64 0, .int .i64 0] 28)).alloc (.cells (ndA x B cap) 28)) (w.heap.size + 2) 28 (ndA x B cap) := Blk.new_at (by simp)
 have HZ := Lib.hid (show Blk (((w.alloc (.cells (ndA x B cap) 28)).alloc (.cells #[.int .i64 0, .int .u64 0, .int .u64 0, .int .u64 0, .int .u64 0, .slice none 0 0, .int .i64 0, .int .i64 0] 28)).alloc (.cells (ndA x B cap) 28)) (w.heap.size + 1) 28 #[.int .i64 0, .int .u64 0, .int .u64 0, .int .u64 0, .int .u64 0, .slice none 0 0, .int .i64 0, .int .i64 0] from Blk.alloc (Blk.new_at (by simp)) _)
 have ht1 : TreesAt (((w.alloc (.cells (ndA x B cap) 28)).alloc (.cells #[.int .i64 0, .int .u64 0, .int .u64 0, .int .u64 0, .int .u64 0, .slice none 0 0, .int .i64 0, .int .i64 0] 28)).alloc (.cells (ndA x B cap) 28)) (fun b => (P b ∧ b < w.heap.size) ∨ b = w.heap.size + 2) (Trees.of [x]) (some ⟨w.heap.size + 2, 0, none⟩) :=
  TreesAt.one hX hc ((ht.weak (Q := fun b => (P b ∧ b < w.heap.size) ∨ b = w.heap.size + 2) (fun b h1 h => .inl ⟨h1, h⟩)).below hb3) (.inr rfl)
 have hO := nof_go 9 _ (some ⟨w.heap.size + 2, 0, none⟩) 1 [x] _ (by simp) (by simp) ht1
 rw [hs3] at hO
 have HO := Lib.hid hO
 have HB := Lib.hid hb3
 have Hs3 := Lib.hid hs3
 clear hX ht1 hO ht hb3 hs3
 unfold ndV
 go_enter Tryz.func31, Tryz.ntmps31
 go_wp2_with fail
 refine HO.out.mono ?_
 rintro e w4 ⟨B4, cap4, rfl, hb4, hc4, ht4⟩
 rw [Hs3.out] at hb4
 have hsz4 : w.heap.size + 3 ≤ w4.heap.size := by have := hb4.size; rw [Hs3.out] at this; exact this
 have hZ4 := HZ.out.below hb4 (by omega)
 have HZ4 := Lib.hid hZ4
 have HB4 := Lib.hid (HB.out.trans (hb4.mono (by omega)))
 have HT4 := Lib.hid ht4
 have y0 : w4.cell? ⟨w.heap.size + 1, 0, none⟩ = some (.int .i64 0) := hZ4.cell 0
 have y1 : w4.cell? ⟨w.heap.size + 1, 1, none⟩ = some (.int .u64 0) := hZ4.cell 1
 have y2 : w4.cell? ⟨w.heap.size + 1, 2, none⟩ = some (.int .u64 0) := hZ4.cell 2
 have y3 : w4.cell? ⟨w.heap.size + 1, 3, none⟩ = some (.int .u64 0) := hZ4.cell 3
 have y4 : w4.cell? ⟨w.heap.size + 1, 4, none⟩ = some (.int .u64 0) := hZ4.cell 4
 have y5 : w4.cell? ⟨w.heap.size + 1, 5, none⟩ = some (.slice none 0 0) := hZ4.cell 5
 have y6 : w4.cell? ⟨w.heap.size + 1, 6, none⟩ = some (.int .i64 0) := hZ4.cell 6
 have y7 : w4.cell? ⟨w.heap.size + 1, 7, none⟩ = some (.int .i64 0) := hZ4.cell 7
 have z0 := hZ4.frozen 0
 have z1 := hZ4.frozen 1
 have z2 := hZ4.frozen 2
 have z3 := hZ4.frozen 3
 have z4 := hZ4.frozen 4
 have z5 := hZ4.frozen 5
 have z6 := hZ4.frozen 6
 have z7 := hZ4.frozen 7
 have hlt : w.heap.size + 1 < w4.heap.size := by omega
 clear hZ4 hb4 ht4 HO HZ HB Hs3
 rw [ndV_plain]
 dsimp only
 go_wp2
 go_light
 have hg := only_put8 w4 (w.heap.size + 1) (.int .i64 9) (.int .u64 0) (.int .u64 0) (.int .u64 0) (.int .u64 0) (.slice B4 (Trees.of [x]).len cap4) (.int .i64 lo) (.int .i64 hi)
 have hx := HZ4.out.put8 (.int .i64 9) (.int .u64 0) (.int .u64 0) (.int .u64 0) (.int .u64 0) (.slice B4 (Trees.of [x]).len cap4) (.int .i64 lo) (.int .i64 hi)
 have hB := below_put8 HB4.out (Nat.le_succ w.heap.size) (.int .i64 9) (.int .u64 0) (.int .u64 0) (.int .u64 0) (.int .u64 0) (.slice B4 (Trees.of [x]).len cap4) (.int .i64 lo) (.int .i64 hi)
 have ht := HT4.out.keep (Q := OrNew P w.heap.size) (fun b o hb hl => World.cell?_of_block (hg.block b hl (fun e => by have := Option.some.inj e; rcases hb with (h | h) | h <;> omega))) (fun b hb _ => by rcases hb with (h | h) | h; exact .inl h.1; exact .inr (by omega); exact .inr (by omega))
 exact bodyPost_ret (ret_node Tryz.results31 rfl (hx.alloc _)) rfl ⟨B4, cap4, by rw [ndV_plain], hB.alloc hB.size _, hc4, ht.below ((Below.refl _ _).alloc (Nat.le_refl _) _)⟩
def CRow (w : World) (acc : List Nd) (u : Value) (wr : World) : Prop :=
 (∃ cs, wr.ownsRow w.heap.size 28 8 u acc.length cs ∧ CellsAre wr (fun b => w.heap.size ≤ b ∧ some b ≠ u.ownBlock) acc cs) ∧ Below w.heap.size w wr
section
variable {w wr w2 w' : World} {acc : List Nd} {u : Value}
theorem CRow.own (h : CRow w acc u wr) : ∀ g, u.ownBlock = some g → w.heap.size ≤ g ∧ g < wr.heap.size := by
 obtain ⟨⟨cs, hr, _⟩, _⟩ := h
 exact hr.lt
theorem CRow.below (h : CRow w acc u wr) (hb : Below wr.heap.size wr w2) : CRow w acc u w2 := by
 obtain ⟨⟨cs, hr, hc⟩, h3⟩ := h
 exact ⟨⟨cs, own_below hr hb, hc.below hb⟩, h3.trans (hb.mono h3.size)⟩
theorem CRow.append {z : Nd} {B : Option Addr} {cap gg capg : Nat} {o : Obj} {cs : List Value} (h : CRow w acc u wr)
  (hz : TreesAt wr (fun b => w.heap.size ≤ b ∧ some b ≠ u.ownBlock) z.kids B) (hcz : z.kids.len ≤ cap) (hcs : CellsAre wr (fun b => w.heap.size ≤ b ∧ some b ≠ u.ownBlock) acc cs)
  (hown : w'.ownsRow w.heap.size 28 8 (.slice (some ⟨gg, 0, none⟩) (acc.length + 1) capg) (acc.length + 1) (cs ++ ndCell z B cap)) (hgrow : (wr.alloc o).grownBy w' u.ownBlock) (hat : u.ownBlock = some gg ∨ gg = wr.heap.size + 1) :
  CRow w (acc ++ [z]) (.slice (some ⟨gg, 0, none⟩) (acc.length + 1) capg) w' := by
 have hl := h.own
 obtain ⟨_, h3⟩ := h
 have hb : Below wr.heap.size wr (wr.alloc o) := (Below.refl _ _).alloc (Nat.le_refl _) o
 have hk : ∀ b i, (w.heap.size ≤ b ∧ some b ≠ u.ownBlock) → b < wr.heap.size → w'.cell? ⟨b, i, none⟩ = wr.cell? ⟨b, i, none⟩ := fun b i hb2 hbl =>
  (World.cell?_of_block (hgrow.block b (by simp; omega) hb2.2)).trans (hb.cell (p := ⟨b, i, none⟩) hbl)
 have hq : ∀ b, (w.heap.size ≤ b ∧ some b ≠ u.ownBlock) → b < wr.heap.size → w.heap.size ≤ b ∧ some b ≠ (Value.slice (some ⟨gg, 0, none⟩) (acc.length + 1) capg).ownBlock := fun b hb2 hbl => ⟨hb2.1, fun e => by
  have e' : b = gg := by simpa [Value.ownBlock] using e
  rcases hat with hh | hh
  ·exact hb2.2 (by rw [e', hh])
  ·omega⟩
 refine ⟨⟨cs ++ ndCell z B cap, by simpa using hown, CellsAre.snoc hcz (hz.keep hk hq) (hcs.keep hk hq)⟩,
  (h3.trans (hb.mono h3.size)).grown hgrow (by have := h3.size; simp; omega) (fun k e => (hl k e).1)⟩
theorem CRow.trees (h : CRow w acc u wr) : ∃ A cap, u = .slice A acc.length cap ∧ acc.length ≤ cap ∧ TreesAt wr (fun b => w.heap.size ≤ b) (Trees.of acc) A := by
 have hl := h.own
 obtain ⟨⟨cs, hr, hc⟩, _⟩ := h
 exact trees_of hr (hc.keep (fun _ _ _ _ => rfl) (fun b hb _ => hb.1)) (fun g e => (hl g e).1)
end
theorem crow_start (w : World) : CRow w [] (.slice none 0 0) w := ⟨⟨[], World.ownsRow_nil _ _ _ _, rfl⟩, Below.refl _ _⟩
def CopyC (n : Nat) : Prop := ∀ (x : Nd) (P : Nat → Prop) (B : Option Addr) (cap : Nat) (w : World), x.size ≤ n → x.size ≤ 100000000 → TreesAt w P x.kids B →
 Calls Tryz.prog 55 #[ndV x B cap] w fun e w' => ∃ B' cap', e = .returned (ndV x B' cap') ∧ Below w.heap.size w w' ∧ x.kids.len ≤ cap' ∧ TreesAt w' (fun b => w.heap.size ≤ b) x.kids B'
def CopiesC (n : Nat) : Prop := ∀ (F : Trees) (P : Nat → Prop) (B : Option Addr) (cap : Nat) (w : World), F.size ≤ n → F.size ≤ 100000000 → TreesAt w P F B →
 Calls Tryz.prog 111 #[.slice B F.len cap] w fun e w' => ∃ B' cap', e = .returned (.slice B' F.len cap') ∧ Below w.heap.size w w' ∧ F.len ≤ cap' ∧ TreesAt w' (fun b => w.heap.size ≤ b) F B'
theorem copies_step {n : Nat} (ih : CopyC n) : CopiesC n := by
 intro F P B cap w hsz hlen ht
 obtain ⟨i0, hi0, hz0, hz1, hz2⟩ := info_parts info_nd
 have HT := Lib.hid ht
 have hlk : F.len ≤ 100000000 := by have := Trees.len_size F; omega
 have hFl := Trees.len_list F
 clear ht
 go_enter Tryz.func111, Tryz.ntmps111
 go_wp2
 go_loopw [3, 8] (fun u i wr => ∃ k : Nat, i = .int .i64 (k : Int) ∧ k ≤ F.len ∧ Hid (CRow w (F.list.take k) u wr)) (fun _ i _ => F.len - (intOf i).toNat)
 case atStart => exact ⟨0, rfl, Nat.zero_le _, Lib.hid (crow_start w)⟩
 case round =>
  obtain ⟨k, rfl, hk, HR⟩ := hrel
  by_cases hlt : k < F.len
  ·obtain ⟨z, hz⟩ : ∃ z, F.list[k]? = some z := ⟨_, List.getElem?_eq_getElem (by omega)⟩
   have hzs := Trees.size_get F k z hz
   have htk : F.list.take (k + 1) = F.list.take k ++ [z] := by rw [List.take_add_one, hz]; rfl
   have hacc : (F.list.take k).length = k := by simp; omega
   have HTk := Lib.hid htk
   generalize F.list.take k = acc at *
   obtain ⟨b, o, C, capc, rfl, _, _, ⟨c0, c1, c2, c3, c4, c5, c6, c7⟩, hkz⟩ := (HT.out.below HR.out.2).get hz
   have hdl : (k : Int) < (F.len : Int) := by omega
   have hb2 : Below wr.heap.size wr (wr.alloc (.cells (ndA z C capc) 28)) := (Below.refl _ _).alloc (Nat.le_refl _) _
   have HI := Lib.hid (ih z _ C capc (wr.alloc (.cells (ndA z C capc) 28)) (by omega) (by omega) (hkz.below hb2))
   have Hrow2 := Lib.hid (HR.out.below hb2)
   have hws : w.heap.size ≤ wr.heap.size := HR.out.2.size
   clear hz hzs hkz hsz hlen hb2 HR htk
   unfold ndV at HI
   go_wp2_with fail
   refine HI.out.mono ?_
   rintro e w4 ⟨B4, cap4, rfl, hb4, hc4, ht4⟩
   have hrow4 := Hrow2.out.below hb4
   obtain ⟨⟨cs, hr4, hcs4⟩, _⟩ := id hrow4
   have hl := Hrow2.out.own
   have hz4 := ht4.weak (Q := fun b => w.heap.size ≤ b ∧ some b ≠ u3.ownBlock) (fun b hb _ => ⟨by simp at hb; omega, fun e => by have := (hl b e.symm).2; omega⟩)
   have Hrow4 := Lib.hid hrow4
   have HR4 := Lib.hid hr4
   have HC4 := Lib.hid hcs4
   have HZ4 := Lib.hid hz4
   have h63 : acc.length + 1 ≤ maxLen := Nat.le_trans (by omega) (show 200000000 ≤ maxLen by decide)
   have hby : (acc.length + 1) * 80 ≤ 140737488355328 := by omega
   have hWs : w.heap.size ≤ w4.heap.size := by have := hb4.size; simp at this; omega
   clear hrow4 hr4 hcs4 hz4 ht4 hl hb4 HI Hrow2 c0 c1 c2 c3 c4 c5 c6 c7
   dsimp only
   go_wp2_with (at_builtin; refine wpList_append_lies _ rfl _ _ 26 rfl w.heap.size 28 i0 _ 8 80 Tryz.underlying26 hi0 hz0 hz1 hz2 rfl (by decide) u3 acc.length cs rfl (HR4.out.alloc _) ⟨w4.heap.size, 0, none⟩ 1 1 (ndCell z B4 cap4) rfl rfl (World.news_of_block (Blk.new_at (cs := ndA z B4 cap4) (t := 28) (by simp))) (by simp [ndCell, Value.oneCell']) (by decide) h63 hby (by simp; omega) (w4.heap.size + 1) (by simp) ?_; intro gg capg w5 hown5 hgrow5 hat5 hg5; have HA6 := Lib.hid (Hrow4.out.append HZ4.out hc4 HC4.out hown5 hgrow5 (by simpa using hat5)); clear hown5 hgrow5 hat5)
   go_light
   go_roundw
   case rel => exact ⟨k + 1, by go_num, by omega, Lib.hid (by rw [HTk.out]; have h6 := HA6.out; rw [hacc] at h6; exact h6)⟩
   case measure => simp [intOf]; omega
  ·have hdl : ¬ (k : Int) < (F.len : Int) := by omega
   obtain rfl : k = F.len := by omega
   have hta : F.list.take F.len = F.list := by rw [← hFl]; exact List.take_length
   rw [hta] at HR
   obtain ⟨A5, cap5, rfl, hc5, ht5⟩ := HR.out.trees
   rw [Trees.of_list] at ht5
   rw [hFl] at hc5 ⊢
   have HB5 := Lib.hid HR.out.2
   have HT5 := Lib.hid ht5
   clear HR ht5 hta
   go_wp2
   go_light
   go_ret
   exact ⟨A5, cap5, rfl, HB5.out, hc5, HT5.out⟩
theorem put_next {w w2 : World} {x : Nd} {B : Option Addr} {cap : Nat} (hZ : Blk w2 (w.heap.size + 1) 28 #[.int .i64 0, .int .u64 0, .int .u64 0, .int .u64 0, .int .u64 0, .slice none 0 0, .int .i64 0, .int .i64 0]) (hB : Below w.heap.size w w2) (ht : TreesAt w2 (fun b => w.heap.size + 2 ≤ b) x.kids B) {w' : World}
  (hw' : w' = ((((((((w2.setCell ⟨w.heap.size + 1, 0, none⟩ (.int .i64 x.kind)).setCell ⟨w.heap.size + 1, 1, none⟩ (.int .u64 (word x.set.testBit 0))).setCell ⟨w.heap.size + 1, 2, none⟩ (.int .u64 (word x.set.testBit 1))).setCell ⟨w.heap.size + 1, 3, none⟩ (.int .u64 (word x.set.testBit 2))).setCell ⟨w.heap.size + 1, 4, none⟩ (.int .u64 (word x.set.testBit 3))).setCell ⟨w.heap.size + 1, 5, none⟩ (.slice B x.kids.len cap)).setCell ⟨w.heap.size + 1, 6, none⟩ (.int .i64 x.lo)).setCell ⟨w.heap.size + 1, 7, none⟩ (.int .i64 x.hi))) :
  Blk w' (w.heap.size + 1) 28 (ndA x B cap) ∧ Below w.heap.size w w' ∧ TreesAt w' (fun b => w.heap.size ≤ b) x.kids B := by
 have hg : w2.grownBy w' (some (w.heap.size + 1)) := by rw [hw']; exact only_put8 _ _ _ _ _ _ _ _ _ _
 refine ⟨by rw [hw']; exact hZ.put8 _ _ _ _ _ _ _ _, by rw [hw']; exact below_put8 hB (by omega) _ _ _ _ _ _ _ _, ht.keep (fun b o hb hl => World.cell?_of_block (hg.block b hl (fun e => by have := Option.some.inj e; omega))) (fun b hb _ => by omega)⟩
theorem copy_step {n : Nat} (ih : CopiesC n) : CopyC (n + 1) := by
 intro x P B cap w hsz hlen ht
 have hb2 : Below w.heap.size w ((w.alloc (.cells (ndA x B cap) 28)).alloc (.cells #[.int .i64 0, .int .u64 0, .int .u64 0, .int .u64 0, .int .u64 0, .slice none 0 0, .int .i64 0, .int .i64 0] 28)) := ((Below.refl _ _).alloc (Nat.le_refl _) _).alloc (by simp) _
 have HI := Lib.hid (ih x.kids P B cap _ (by unfold Nd.size at hsz; omega) (by unfold Nd.size at hlen; omega) (ht.below hb2))
 have HB2 := Lib.hid hb2
 have HX2 := Lib.hid (show Blk ((w.alloc (.cells (ndA x B cap) 28)).alloc (.cells #[.int .i64 0, .int .u64 0, .int .u64 0, .int .u64 0, .int .u64 0, .slice none 0 0, .int .i64 0, .int .i64 0] 28)) w.heap.size 28 (ndA x B cap) from (Blk.new _ _ _).alloc _)
 have HZ2 := Lib.hid (show Blk ((w.alloc (.cells (ndA x B cap) 28)).alloc (.cells #[.int .i64 0, .int .u64 0, .int .u64 0, .int .u64 0, .int .u64 0, .slice none 0 0, .int .i64 0, .int .i64 0] 28)) (w.heap.size + 1) 28 #[.int .i64 0, .int .u64 0, .int .u64 0, .int .u64 0, .int .u64 0, .slice none 0 0, .int .i64 0, .int .i64 0] from Blk.new_at (by simp))
 clear ht hb2 hsz hlen
 unfold ndV
 go_enter Tryz.func55, Tryz.ntmps55
 go_wp2_with fail
 refine HI.out.mono ?_
 rintro e w3 ⟨B3, cap3, rfl, hb3, hc3, ht3⟩
 have hX3 := HX2.out.below hb3 HX2.out.lt
 have hZ3 := HZ2.out.below hb3 HZ2.out.lt
 have HB3 := Lib.hid (HB2.out.trans (hb3.mono HB2.out.size))
 have HX3 := Lib.hid hX3
 have HZ3 := Lib.hid hZ3
 have HT3 := Lib.hid ht3
 have x0 : w3.cell? ⟨w.heap.size, 0, none⟩ = some (.int .i64 x.kind) := hX3.cell 0
 have x1 : w3.cell? ⟨w.heap.size, 1, none⟩ = some (.int .u64 (word x.set.testBit 0)) := hX3.cell 1
 have x2 : w3.cell? ⟨w.heap.size, 2, none⟩ = some (.int .u64 (word x.set.testBit 1)) := hX3.cell 2
 have x3 : w3.cell? ⟨w.heap.size, 3, none⟩ = some (.int .u64 (word x.set.testBit 2)) := hX3.cell 3
 have x4 : w3.cell? ⟨w.heap.size, 4, none⟩ = some (.int .u64 (word x.set.testBit 3)) := hX3.cell 4
 have x5 : w3.cell? ⟨w.heap.size, 5, none⟩ = some (.slice B x.kids.len cap) := hX3.cell 5
 have x6 : w3.cell? ⟨w.heap.size, 6, none⟩ = some (.int .i64 x.lo) := hX3.cell 6
 have x7 : w3.cell? ⟨w.heap.size, 7, none⟩ = some (.int .i64 x.hi) := hX3.cell 7
 have f5 := hX3.frozen 5
 have y0 : w3.cell? ⟨w.heap.size + 1, 0, none⟩ = some (.int .i64 0) := hZ3.cell 0
 have y1 : w3.cell? ⟨w.heap.size + 1, 1, none⟩ = some (.int .u64 0) := hZ3.cell 1
 have y2 : w3.cell? ⟨w.heap.size + 1, 2, none⟩ = some (.int .u64 0) := hZ3.cell 2
 have y3 : w3.cell? ⟨w.heap.size + 1, 3, none⟩ = some (.int .u64 0) := hZ3.cell 3
 have y4 : w3.cell? ⟨w.heap.size + 1, 4, none⟩ = some (.int .u64 0) := hZ3.cell 4
 have y5 : w3.cell? ⟨w.heap.size + 1, 5, none⟩ = some (.slice none 0 0) := hZ3.cell 5
 have y6 : w3.cell? ⟨w.heap.size + 1, 6, none⟩ = some (.int .i64 0) := hZ3.cell 6
 have y7 : w3.cell? ⟨w.heap.size + 1, 7, none⟩ = some (.int .i64 0) := hZ3.cell 7
 have g0 := hZ3.frozen 0
 have g1 := hZ3.frozen 1
 have g2 := hZ3.frozen 2
 have g3 := hZ3.frozen 3
 have g4 := hZ3.frozen 4
 have g5 := hZ3.frozen 5
 have g6 := hZ3.frozen 6
 have g7 := hZ3.frozen 7
 clear hX3 hZ3 ht3 hb3 HI HX2 HZ2 HB2
 dsimp only
 go_wp2
 go_light
 have hZ4 : Blk (w3.setCell ⟨w.heap.size, 5, none⟩ (.slice B3 x.kids.len cap3)) (w.heap.size + 1) 28 #[.int .i64 0, .int .u64 0, .int .u64 0, .int .u64 0, .int .u64 0, .slice none 0 0, .int .i64 0, .int .i64 0] := HZ3.out.far (p := ⟨w.heap.size, 5, none⟩) (by simp) _
 have hT4 : TreesAt (w3.setCell ⟨w.heap.size, 5, none⟩ (.slice B3 x.kids.len cap3)) (fun b => w.heap.size + 2 ≤ b) x.kids B3 := HT3.out.keep (fun b o hb _ => World.cell?_of_block (Below.heap_setCell w3 ⟨w.heap.size, 5, none⟩ _ b (by simp at hb ⊢; omega))) (fun b hb _ => by simp at hb; omega)
 have hF := put_next (x := x) (B := B3) (cap := cap3) hZ4 (HB3.out.setCell (p := ⟨w.heap.size, 5, none⟩) (Nat.le_refl _) _) hT4 rfl
 exact bodyPost_ret (ret_node Tryz.results55 rfl hF.1) rfl ⟨B3, cap3, rfl, hF.2.1, hc3, hF.2.2⟩
theorem copy_go (x : Nd) (P : Nat → Prop) (B : Option Addr) (cap : Nat) (w : World) (hlen : x.size ≤ 100000000) (ht : TreesAt w P x.kids B) :
  Calls Tryz.prog 55 #[ndV x B cap] w fun e w' => ∃ B' cap', e = .returned (ndV x B' cap') ∧ Below w.heap.size w w' ∧ x.kids.len ≤ cap' ∧ TreesAt w' (fun b => w.heap.size ≤ b) x.kids B' := by
 have h : ∀ n, CopyC n := by
  intro n
  induction n with
  | zero => exact fun x _ _ _ _ h => by unfold Nd.size at h; omega
  | succ n ih => exact copy_step (copies_step ih)
 exact h x.size x P B cap w (Nat.le_refl _) hlen ht
theorem copies_go (F : Trees) (P : Nat → Prop) (B : Option Addr) (cap : Nat) (w : World) (hlen : F.size ≤ 100000000) (ht : TreesAt w P F B) :
  Calls Tryz.prog 111 #[.slice B F.len cap] w fun e w' => ∃ B' cap', e = .returned (.slice B' F.len cap') ∧ Below w.heap.size w w' ∧ F.len ≤ cap' ∧ TreesAt w' (fun b => w.heap.size ≤ b) F B' :=
 copies_step (n := F.size) (fun x P B cap w _ hl ht => copy_go x P B cap w hl ht) F P B cap w (Nat.le_refl _) hlen ht
end
section
theorem testBit_split (a b j : Nat) (ha : a < 256) : (a + 256 * b).testBit j = if j < 8 then a.testBit j else b.testBit (j - 8) := by
 rw [Nat.add_comm, show (256 : Nat) = 2 ^ 8 from rfl]
 exact Nat.testBit_two_pow_mul_add b ha j
theorem land_split (x m n : Nat) (hm : m < 256) : x &&& (m + 256 * n) = ((x % 256) &&& m) + 256 * ((x / 256) &&& n) := by
 apply Nat.eq_of_testBit_eq
 intro j
 have h1 : (x % 256) &&& m < 256 := Nat.and_lt_two_pow (n := 8) _ hm
 rw [testBit_split _ _ _ h1, Nat.testBit_and, testBit_split _ _ _ hm]
 by_cases hj : j < 8
 ·rw [if_pos hj, if_pos hj, Nat.testBit_and, show (256 : Nat) = 2 ^ 8 from rfl, Nat.testBit_mod_two_pow]
  simp [hj]
 ·rw [if_neg hj, if_neg hj, Nat.testBit_and, show (256 : Nat) = 2 ^ 8 from rfl, Nat.testBit_div_two_pow]
  congr 2
  omega
def mask (m : Nat) : Nat → Nat
 | 0 => 0
 | n + 1 => m + 256 * mask m n
def s1 (n x : Nat) : Nat := ((x / 2) &&& mask 0x55 n) + (x &&& mask 0x55 n)
def s2 (n x : Nat) : Nat := ((x / 4) &&& mask 0x33 n) + (x &&& mask 0x33 n)
def s3 (n x : Nat) : Nat := (x / 16 + x) &&& mask 0x0f n
def f1 (b : Nat) : Nat := ((b / 2) &&& 0x55) + (b &&& 0x55)
def f2 (b : Nat) : Nat := ((b / 4) &&& 0x33) + (b &&& 0x33)
def f3 (b : Nat) : Nat := (b / 16 + b) &&& 0x0f
theorem cross1 : ∀ y : Fin 512, (y.val / 2) &&& 0x55 = (y.val % 256 / 2) &&& 0x55 := by decide +kernel
theorem cross2 : ∀ y : Fin 1024, (y.val / 4) &&& 0x33 = (y.val % 256 / 4) &&& 0x33 := by decide +kernel
theorem s1_step (n x : Nat) : s1 (n + 1) x = f1 (x % 256) + 256 * s1 n (x / 256) := by
 unfold s1 f1
 rw [show mask 0x55 (n + 1) = 0x55 + 256 * mask 0x55 n from rfl, land_split _ _ _ (by decide), land_split _ _ _ (by decide)]
 have h := cross1 ⟨x % 512, Nat.mod_lt _ (by decide)⟩
 dsimp only at h
 rw [show x / 2 % 256 = x % 512 / 2 by omega, h, show x % 512 % 256 = x % 256 by omega, show x / 2 / 256 = x / 256 / 2 by omega]
 omega
theorem s2_step (n x : Nat) : s2 (n + 1) x = f2 (x % 256) + 256 * s2 n (x / 256) := by
 unfold s2 f2
 rw [show mask 0x33 (n + 1) = 0x33 + 256 * mask 0x33 n from rfl, land_split _ _ _ (by decide), land_split _ _ _ (by decide)]
 have h := cross2 ⟨x % 1024, Nat.mod_lt _ (by decide)⟩
 dsimp only at h
 rw [show x / 4 % 256 = x % 1024 / 4 by omega, h, show x % 1024 % 256 = x % 256 by omega, show x / 4 / 256 = x / 256 / 4 by omega]
 omega
theorem cross3 : ∀ y : Fin 69, ∀ t : Fin 5, (y.val / 16 + y.val + 16 * t.val) &&& 0x0f = (y.val / 16 + y.val) &&& 0x0f := by decide +kernel
theorem s3_step (n x : Nat) (h1 : x % 256 < 69) (h2 : x / 256 % 16 < 5) : s3 (n + 1) x = f3 (x % 256) + 256 * s3 n (x / 256) := by
 unfold s3 f3
 rw [show mask 0x0f (n + 1) = 0x0f + 256 * mask 0x0f n from rfl, land_split _ _ _ (by decide)]
 have h := cross3 ⟨x % 256, h1⟩ ⟨x / 256 % 16, h2⟩
 dsimp only at h
 rw [show (x / 16 + x) % 256 = x % 256 / 16 + x % 256 + 16 * (x / 256 % 16) by omega, h, show (x / 16 + x) / 256 = x / 256 / 16 + x / 256 by omega]
theorem f1_lt : ∀ b : Fin 256, f1 b.val < 256 := by decide +kernel
theorem f2f1_lt : ∀ b : Fin 256, f2 (f1 b.val) < 69 ∧ f2 (f1 b.val) % 16 < 5 := by decide +kernel
def pop (b : Nat) : Nat := f3 (f2 (f1 b))
theorem pop_le : ∀ b : Fin 256, pop b.val ≤ 8 := by decide +kernel
def cnts : Nat → Nat → Nat
 | 0, _ => 0
 | n + 1, x => pop (x % 256) + 256 * cnts n (x / 256)
theorem s123 : ∀ (n x : Nat), s3 n (s2 n (s1 n x)) = cnts n x ∧ (0 < n → s2 n (s1 n x) % 16 < 5)
 | 0, x => by simp [s3, s2, s1, mask, cnts]
 | n + 1, x => by
  obtain ⟨ih, ihn⟩ := s123 n (x / 256)
  have hb : x % 256 < 256 := Nat.mod_lt _ (by decide)
  have a1 := f1_lt ⟨x % 256, hb⟩
  have a2 := f2f1_lt ⟨x % 256, hb⟩
  dsimp only at a1 a2
  have e2 : s2 (n + 1) (s1 (n + 1) x) = f2 (f1 (x % 256)) + 256 * s2 n (s1 n (x / 256)) := by
   rw [s2_step, s1_step, show (f1 (x % 256) + 256 * s1 n (x / 256)) % 256 = f1 (x % 256) by omega, show (f1 (x % 256) + 256 * s1 n (x / 256)) / 256 = s1 n (x / 256) by omega]
  refine ⟨?_, fun _ => by rw [e2]; omega⟩
  have hz : s2 n (s1 n (x / 256)) % 16 < 5 := by
   rcases Nat.eq_zero_or_pos n with h0 | h0
   ·subst h0; simp [s2, s1, mask]
   ·exact ihn h0
  rw [e2, s3_step _ _ (by omega) (by rw [show (f2 (f1 (x % 256)) + 256 * s2 n (s1 n (x / 256))) / 256 = s2 n (s1 n (x / 256)) by omega]; exact hz),
   show (f2 (f1 (x % 256)) + 256 * s2 n (s1 n (x / 256))) % 256 = f2 (f1 (x % 256)) by omega, show (f2 (f1 (x % 256)) + 256 * s2 n (s1 n (x / 256))) / 256 = s2 n (s1 n (x / 256)) by omega, ih]
  rfl
def cnt (p : Nat → Bool) : Nat → Nat
 | 0 => 0
 | n + 1 => cnt p n + (p n).toNat
theorem cnt_le (p : Nat → Bool) : ∀ n, cnt p n ≤ n
  | 0 => Nat.le_refl _
  | n + 1 => by have := cnt_le p n; have : (p n).toNat ≤ 1 := by cases p n <;> decide
                unfold cnt; omega
theorem cnt_congr {p q : Nat → Bool} : ∀ n, (∀ k, k < n → p k = q k) → cnt p n = cnt q n
 | 0, _ => rfl
 | n + 1, h => by unfold cnt; rw [cnt_congr n (fun k hk => h k (by omega)), h n (by omega)]
theorem cnt_add (p : Nat → Bool) (m : Nat) : ∀ n, cnt p (m + n) = cnt p m + cnt (fun k => p (m + k)) n
 | 0 => by simp [cnt]
 | n + 1 => by rw [← Nat.add_assoc]; show cnt p (m + n) + (p (m + n)).toNat = cnt p m + (cnt (fun k => p (m + k)) n + (p (m + n)).toNat); rw [cnt_add p m n]; omega
theorem pop_cnt : ∀ b : Fin 256, pop b.val = cnt b.val.testBit 8 := by decide +kernel
def sums : Nat → Nat → Nat
 | 0, _ => 0
 | n + 1, x => pop (x % 256) + sums n (x / 256)
theorem sums_cnt : ∀ (n x : Nat), sums n x = cnt x.testBit (8 * n)
 | 0, x => rfl
 | n + 1, x => by
  unfold sums
  rw [sums_cnt n, pop_cnt ⟨x % 256, Nat.mod_lt _ (by decide)⟩, show 8 * (n + 1) = 8 + 8 * n by omega, cnt_add]
  dsimp only
  congr 1
  ·apply cnt_congr
   intro k hk
   rw [show (256 : Nat) = 2 ^ 8 from rfl, Nat.testBit_mod_two_pow]
   simp [hk]
  ·apply cnt_congr
   intro k _
   rw [show (256 : Nat) = 2 ^ 8 from rfl, Nat.testBit_div_two_pow, Nat.add_comm]
def fold3 (z : Nat) : Nat := let u := z + z / 256; let v := u + u / 65536; (v + v / 4294967296) % 128
theorem d1 {a b : Nat} (h : a < 256) : (a + 256 * b) / 256 = b := by omega
theorem m1 (a b : Nat) : (a + 256 * b) % 128 = a % 128 := by omega
theorem a1 (a b c d : Nat) : (a + 256 * b) + (c + 256 * d) = (a + c) + 256 * (b + d) := by omega
theorem a0 (a b c : Nat) : (a + 256 * b) + c = (a + c) + 256 * b := by omega
theorem fold3_eq (c0 c1 c2 c3 c4 c5 c6 c7 : Nat) (h0 : c0 ≤ 8) (h1 : c1 ≤ 8) (h2 : c2 ≤ 8) (h3 : c3 ≤ 8) (h4 : c4 ≤ 8) (h5 : c5 ≤ 8) (h6 : c6 ≤ 8) (h7 : c7 ≤ 8) :
  fold3 (c0 + 256 * (c1 + 256 * (c2 + 256 * (c3 + 256 * (c4 + 256 * (c5 + 256 * (c6 + 256 * c7))))))) = c0 + c1 + (c2 + c3) + (c4 + c5 + (c6 + c7)) := by
 unfold fold3
 dsimp only
 rw [d1 (show c0 < 256 by omega)]
 have e2 : c0 + 256 * (c1 + 256 * (c2 + 256 * (c3 + 256 * (c4 + 256 * (c5 + 256 * (c6 + 256 * c7)))))) + (c1 + 256 * (c2 + 256 * (c3 + 256 * (c4 + 256 * (c5 + 256 * (c6 + 256 * c7)))))) =
   (c0 + c1) + 256 * ((c1 + c2) + 256 * ((c2 + c3) + 256 * ((c3 + c4) + 256 * ((c4 + c5) + 256 * ((c5 + c6) + 256 * ((c6 + c7) + 256 * c7)))))) := by
  simp only [Nat.mul_add]; clear h0 h1 h2 h3 h4 h5 h6 h7; omega
 rw [e2, show (65536 : Nat) = 256 * 256 from rfl, ← Nat.div_div_eq_div_mul, d1 (show c0 + c1 < 256 by omega), d1 (show c1 + c2 < 256 by omega)]
 have e3 : (c0 + c1) + 256 * ((c1 + c2) + 256 * ((c2 + c3) + 256 * ((c3 + c4) + 256 * ((c4 + c5) + 256 * ((c5 + c6) + 256 * ((c6 + c7) + 256 * c7)))))) + ((c2 + c3) + 256 * ((c3 + c4) + 256 * ((c4 + c5) + 256 * ((c5 + c6) + 256 * ((c6 + c7) + 256 * c7))))) =
   (c0 + c1 + (c2 + c3)) + 256 * ((c1 + c2 + (c3 + c4)) + 256 * ((c2 + c3 + (c4 + c5)) + 256 * ((c3 + c4 + (c5 + c6)) + 256 * ((c4 + c5 + (c6 + c7)) + 256 * ((c5 + c6 + c7) + 256 * ((c6 + c7) + 256 * c7)))))) := by
  simp only [Nat.mul_add]; clear h0 h1 h2 h3 h4 h5 h6 h7; omega
 rw [e3, show (4294967296 : Nat) = 256 * 256 * 256 * 256 from rfl, ← Nat.div_div_eq_div_mul, ← Nat.div_div_eq_div_mul, ← Nat.div_div_eq_div_mul,
  d1 (show c0 + c1 + (c2 + c3) < 256 by omega), d1 (show c1 + c2 + (c3 + c4) < 256 by omega), d1 (show c2 + c3 + (c4 + c5) < 256 by omega), d1 (show c3 + c4 + (c5 + c6) < 256 by omega)]
 rw [a1, m1]
 omega
theorem fold3_cnts (x : Nat) : fold3 (cnts 8 x) = sums 8 x := by
 have h : ∀ y, pop (y % 256) ≤ 8 := fun y => pop_le ⟨y % 256, Nat.mod_lt _ (by decide)⟩
 have e := fold3_eq _ _ _ _ _ _ _ _ (h x) (h (x / 256)) (h (x / 256 / 256)) (h (x / 256 / 256 / 256)) (h (x / 256 / 256 / 256 / 256)) (h (x / 256 / 256 / 256 / 256 / 256)) (h (x / 256 / 256 / 256 / 256 / 256 / 256)) (h (x / 256 / 256 / 256 / 256 / 256 / 256 / 256))
 simp only [cnts, sums, Nat.mul_zero, Nat.add_zero]
 rw [e]
 simp only [Nat.add_assoc]
end
section
open Go.RowKit
theorem and64 (a M : Nat) (ha : a < 18446744073709551616) (hM : M < 18446744073709551616) : bits .and .u64 (a : Int) (M : Int) = ((a &&& M : Nat) : Int) := u64_and_nat a M ha hM
theorem wrapN (a : Nat) (h : a < 18446744073709551616) : IntKind.u64.wrap (a : Int) = (a : Int) := by rw [IntKind.wrap_u64]; omega
theorem i64_and127 (a : Nat) (ha : a < 9223372036854775808) : bits .and .i64 (a : Int) 127 = ((a % 128 : Nat) : Int) := by
 have hx : a &&& 127 = a % 128 := Nat.and_two_pow_sub_one_eq_mod a 7
 show IntKind.i64.wrap ((BitVec.ofInt 64 (a : Int) &&& BitVec.ofInt 64 (127 : Int)).toNat : Int) = _
 have e1 : (BitVec.ofInt 64 (a : Int)).toNat = a := by rw [BitVec.ofInt_natCast, BitVec.toNat_ofNat]; exact Nat.mod_eq_of_lt (by omega)
 have e2 : (BitVec.ofInt 64 (127 : Int)).toNat = 127 := by decide
 rw [BitVec.toNat_and, e1, e2, hx, IntKind.wrap_i64]
 omega
theorem mask55 : mask 0x55 8 = 6148914691236517205 := by decide
theorem mask33 : mask 0x33 8 = 3689348814741910323 := by decide
theorem mask0f : mask 0x0f 8 = 1085102592571150095 := by decide
theorem st1 (x : Nat) (hx : x < 18446744073709551616) : IntKind.u64.wrap (bits .and .u64 ((x : Int) / 2) 6148914691236517205 + bits .and .u64 (x : Int) 6148914691236517205) = ((s1 8 x : Nat) : Int) ∧ s1 8 x < 18446744073709551616 := by
 have e : ((x : Int) / 2) = ((x / 2 : Nat) : Int) := by omega
 have h1 : (x / 2) &&& 6148914691236517205 ≤ 6148914691236517205 := Nat.and_le_right
 have h2 : x &&& 6148914691236517205 ≤ 6148914691236517205 := Nat.and_le_right
 have b1 := and64 (x / 2) 6148914691236517205 (by omega) (by decide)
 have b2 := and64 x 6148914691236517205 hx (by decide)
 rw [show (((6148914691236517205 : Nat)) : Int) = 6148914691236517205 from rfl] at b1 b2
 unfold s1
 rw [mask55, e, b1, b2, ← Int.natCast_add]
 exact ⟨wrapN _ (by omega), by omega⟩
theorem st2 (x : Nat) (hx : x < 18446744073709551616) : IntKind.u64.wrap (bits .and .u64 ((x : Int) / 4) 3689348814741910323 + bits .and .u64 (x : Int) 3689348814741910323) = ((s2 8 x : Nat) : Int) ∧ s2 8 x ≤ 7378697629483820646 := by
 have e : ((x : Int) / 4) = ((x / 4 : Nat) : Int) := by omega
 have h1 : (x / 4) &&& 3689348814741910323 ≤ 3689348814741910323 := Nat.and_le_right
 have h2 : x &&& 3689348814741910323 ≤ 3689348814741910323 := Nat.and_le_right
 have b1 := and64 (x / 4) 3689348814741910323 (by omega) (by decide)
 have b2 := and64 x 3689348814741910323 hx (by decide)
 rw [show (((3689348814741910323 : Nat)) : Int) = 3689348814741910323 from rfl] at b1 b2
 unfold s2
 rw [mask33, e, b1, b2, ← Int.natCast_add]
 exact ⟨wrapN _ (by omega), by omega⟩
theorem st3 (x : Nat) (hx : x ≤ 7378697629483820646) : bits .and .u64 (IntKind.u64.wrap ((x : Int) / 16 + (x : Int))) 1085102592571150095 = ((s3 8 x : Nat) : Int) ∧ s3 8 x ≤ 1085102592571150095 := by
 have e : ((x : Int) / 16 + (x : Int)) = ((x / 16 + x : Nat) : Int) := by omega
 have b1 := and64 (x / 16 + x) 1085102592571150095 (by omega) (by decide)
 rw [show (((1085102592571150095 : Nat)) : Int) = 1085102592571150095 from rfl] at b1
 unfold s3
 rw [mask0f, e, wrapN _ (by omega), b1]
 exact ⟨rfl, Nat.and_le_right⟩
theorem ones_go (x : Nat) (w : World) (hx : x < 18446744073709551616) :
  Calls Tryz.prog 157 #[.int .u64 (x : Int)] w fun e w' => e = .returned (.int .i64 ((cnt x.testBit 64 : Nat) : Int)) ∧ w = w' := by
 go_enter Tryz.func157, Tryz.ntmps157
 go_wp2
 go_light
 go_ret
 refine ⟨ret_i ?_, rfl⟩
 obtain ⟨e1, l1⟩ := st1 x hx
 obtain ⟨e2, l2⟩ := st2 (s1 8 x) l1
 obtain ⟨e3, l3⟩ := st3 (s2 8 (s1 8 x)) l2
 have ef : fold3 (s3 8 (s2 8 (s1 8 x))) = cnt x.testBit 64 := by rw [(s123 8 x).1, fold3_cnts, sums_cnt]
 rw [e1, e2, e3]
 generalize s3 8 (s2 8 (s1 8 x)) = z at *
 rw [← ef]
 unfold fold3
 dsimp only
 clear e1 e2 e3 l1 l2 ef
 have q1 : ((z : Int) + (z : Int) / 256) = ((z + z / 256 : Nat) : Int) := by omega
 rw [q1, wrapN _ (by omega)]
 generalize hu : z + z / 256 = u
 have lu : u ≤ 2170205185142300190 := by omega
 have q2 : ((u : Int) + (u : Int) / 65536) = ((u + u / 65536 : Nat) : Int) := by omega
 rw [q2, wrapN _ (by omega)]
 generalize hv : u + u / 65536 = v
 have lv : v ≤ 2180205185142300190 := by omega
 have q3 : ((v : Int) + (v : Int) / 4294967296) = ((v + v / 4294967296 : Nat) : Int) := by omega
 rw [q3, wrapN _ (by omega), show wrap64 ((v + v / 4294967296 : Nat) : Int) = ((v + v / 4294967296 : Nat) : Int) by unfold wrap64; omega]
 exact i64_and127 _ (by omega)
theorem cnt_word (p : Nat → Bool) (i : Nat) : cnt (word p i).testBit 64 = cnt (fun k => p (64 * i + k)) 64 :=
 cnt_congr 64 fun k hk => by rw [testBit_word]; simp [hk]
theorem cnt_words (p : Nat → Bool) : cnt (word p 0).testBit 64 + cnt (word p 1).testBit 64 + cnt (word p 2).testBit 64 + cnt (word p 3).testBit 64 = cnt p 256 := by
 rw [cnt_word, cnt_word, cnt_word, cnt_word, show 256 = 64 + (64 + (64 + 64)) from rfl, cnt_add, cnt_add, cnt_add]
 simp only [Nat.mul_zero, Nat.zero_add, ← Nat.add_assoc, Nat.mul_one, show 64 * 2 = 64 + 64 from rfl, show 64 * 3 = 64 + 64 + 64 from rfl]
theorem count_go (p : Nat → Bool) (w : World) :
  Calls Tryz.prog 121 #[.agg #[.int .u64 (word p 0), .int .u64 (word p 1), .int .u64 (word p 2), .int .u64 (word p 3)]] w fun e w' => e = .returned (.int .i64 ((cnt p 256 : Nat) : Int)) ∧ Below w.heap.size w w' := by
 go_enter Tryz.func121, Tryz.ntmps121
 go_wp2
 refine wp_loop_rounds 5 ?_
 rw [rounds_succ]
 go_wp2_with (go_at_call 157; refine (ones_go _ _ (word_lt _ _)).mono ?_; rintro e w2 ⟨rfl, rfl⟩)
 rw [rounds_succ]
 go_wp2_with (go_at_call 157; refine (ones_go _ _ (word_lt _ _)).mono ?_; rintro e w2 ⟨rfl, rfl⟩)
 rw [rounds_succ]
 go_wp2_with (go_at_call 157; refine (ones_go _ _ (word_lt _ _)).mono ?_; rintro e w2 ⟨rfl, rfl⟩)
 rw [rounds_succ]
 go_wp2_with (go_at_call 157; refine (ones_go _ _ (word_lt _ _)).mono ?_; rintro e w2 ⟨rfl, rfl⟩)
 rw [rounds_succ]
 go_wp2
 go_light
 go_ret
 refine ⟨ret_i ?_, (Below.refl _ _).alloc (Nat.le_refl _) _⟩
 have e := cnt_words p
 have l0 := cnt_le (word p 0).testBit 64
 have l1 := cnt_le (word p 1).testBit 64
 have l2 := cnt_le (word p 2).testBit 64
 have l3 := cnt_le (word p 3).testBit 64
 rw [← e]
 unfold wrap64
 omega
def isNoSet (s : Nat) : Bool := decide (word s.testBit 0 = 0) && (decide (word s.testBit 1 = 0) && (decide (word s.testBit 2 = 0) && decide (word s.testBit 3 = 0)))
end
section
open Go.ChangeShapes Go.WideShapes Go.ChangeAt Go.RowKit
theorem u64_of_wf {n : Int} (h : (Lit.int .u64 n).wf = true) : 0 ≤ n ∧ n < 18446744073709551616 := by
 have hh : (decide (IntKind.min .u64 ≤ n) && decide (n ≤ IntKind.max .u64)) = true := h
 simp only [Bool.and_eq_true, decide_eq_true_eq] at hh
 obtain ⟨h1, h2⟩ := hh
 have e1 : IntKind.min .u64 = 0 := by decide
 have e2 : IntKind.max .u64 = 18446744073709551615 := by decide
 rw [e1] at h1
 rw [e2] at h2
 omega
theorem cellsWord : Tryz.prog.cellsOf 23 = 1 := by kernel_rfl
theorem cellsSet : Tryz.prog.cellsOf 25 = 4 := by kernel_rfl
theorem cellsInt : Tryz.prog.cellsOf 3 = 1 := by kernel_rfl
section
variable {H : Type} {enc : TypeId × Value → H} {W : World} {fuel : Nat} {cs : List Value} {y : DataW H × List MemPlace}
end
theorem cellsNode : Tryz.prog.cellsOf 28 = 8 := by kernel_rfl
theorem cellsNodes : Tryz.prog.cellsOf 26 = 1 := by kernel_rfl
theorem cellsTKind : Tryz.prog.cellsOf 22 = 1 := by kernel_rfl
theorem set_words {n0 n1 n2 n3 : Nat} (h0 : n0 < 18446744073709551616) (h1 : n1 < 18446744073709551616) (h2 : n2 < 18446744073709551616) (h3 : n3 < 18446744073709551616) :
  ∃ s : Nat, word s.testBit 0 = n0 ∧ word s.testBit 1 = n1 ∧ word s.testBit 2 = n2 ∧ word s.testBit 3 = n3 := by
 obtain ⟨k0, k1, k2, k3⟩ := word_bitsOf h0 h1 h2 h3
 have h : ∀ i, i < 4 → word (ofBits (bitsOf n0 n1 n2 n3) 256).testBit i = word (bitsOf n0 n1 n2 n3) i := fun i hi => word_congr (fun j hj => by rw [testBit_ofBits]; simp; omega)
 exact ⟨ofBits (bitsOf n0 n1 n2 n3) 256, by rw [h 0 (by decide), k0], by rw [h 1 (by decide), k1], by rw [h 2 (by decide), k2], by rw [h 3 (by decide), k3]⟩
theorem bulkAll_mem {H : Type} : ∀ {ds : List (DataW H)} {d : DataW H}, d ∈ ds → Rows.uptoBulk d ≤ Rows.uptoBulkAll ds
 | e :: r, d, h => by
  rcases List.mem_cons.1 h with rfl | h
  ·simp [Rows.uptoBulkAll]
  ·have := bulkAll_mem h
   simp [Rows.uptoBulkAll]
   omega
section
variable {H : Type} {enc : TypeId × Value → H} {W : World}
def CameF (enc : TypeId × Value → H) (W : World) (fuel : Nat) : Prop := ∀ (A : Option Addr) (len cap : Nat) (y : DataW H × List MemPlace),
 DataW.trod enc Tryz.prog W 0 (fun _ => true) true fuel 26 [.slice A len cap] = some y → ∃ F : Trees, F.len = len ∧ TreesAt W (fun b => b < W.heap.size) F A ∧ len ≤ cap ∧ F.size ≤ Rows.uptoBulk y.1
theorem node_came {fuel : Nat} {cs : List Value} {y : DataW H × List MemPlace} (ih : ∀ n, n < fuel → CameF enc W n) (h : DataW.trod enc Tryz.prog W 0 (fun _ => true) true fuel 28 cs = some y) :
  ∃ (x : Nd) (B : Option Addr) (cap : Nat), cs = ndCell x B cap ∧ x.kids.len ≤ cap ∧ TreesAt W (fun b => b < W.heap.size) x.kids B ∧ x.size ≤ Rows.uptoBulk y.1 := by
 obtain ⟨xs, n, hfn, hy, hl, hxl, hf⟩ := DataW.trod_struct Tryz.underlying28 h
 rw [cellsNode] at hl
 obtain ⟨v0, v1, v2, v3, v4, v5, v6, v7, rfl⟩ : ∃ v0 v1 v2 v3 v4 v5 v6 v7, cs = [v0, v1, v2, v3, v4, v5, v6, v7] := by
  match cs, hl with
  | [a, b, c, d, e, f, g, h], _ => exact ⟨a, b, c, d, e, f, g, h, rfl⟩
 have g0 : DataW.trod enc Tryz.prog W 0 (fun _ => true) true n 22 (([v0, v1, v2, v3, v4, v5, v6, v7].drop 0).take (Tryz.prog.cellsOf 22)) = xs[0]? := hf 0 _ rfl
 have g1 : DataW.trod enc Tryz.prog W 0 (fun _ => true) true n 25 (([v0, v1, v2, v3, v4, v5, v6, v7].drop 1).take (Tryz.prog.cellsOf 25)) = xs[1]? := hf 1 _ rfl
 have g2 : DataW.trod enc Tryz.prog W 0 (fun _ => true) true n 26 (([v0, v1, v2, v3, v4, v5, v6, v7].drop 5).take (Tryz.prog.cellsOf 26)) = xs[2]? := hf 2 _ rfl
 have g3 : DataW.trod enc Tryz.prog W 0 (fun _ => true) true n 3 (([v0, v1, v2, v3, v4, v5, v6, v7].drop 6).take (Tryz.prog.cellsOf 3)) = xs[3]? := hf 3 _ rfl
 have g4 : DataW.trod enc Tryz.prog W 0 (fun _ => true) true n 3 (([v0, v1, v2, v3, v4, v5, v6, v7].drop 7).take (Tryz.prog.cellsOf 3)) = xs[4]? := hf 4 _ rfl
 have hs : ∀ i, i < 5 → ∃ z, xs[i]? = some z := fun i hi => ⟨_, List.getElem?_eq_getElem (by rw [hxl]; exact hi)⟩
 obtain ⟨z0, e0⟩ := hs 0 (by decide)
 obtain ⟨z1, e1⟩ := hs 1 (by decide)
 obtain ⟨z2, e2⟩ := hs 2 (by decide)
 obtain ⟨z3, e3⟩ := hs 3 (by decide)
 obtain ⟨z4, e4⟩ := hs 4 (by decide)
 rw [e0] at g0
 rw [e1] at g1
 rw [e2] at g2
 rw [e3] at g3
 rw [e4] at g4
 rw [cellsTKind] at g0
 rw [cellsInt] at g3 g4
 rw [cellsNodes] at g2
 rw [cellsSet] at g1
 obtain ⟨a0, q0, _, _⟩ := DataW.trod_int Tryz.underlying22 g0
 obtain ⟨a3, q3, _, _⟩ := DataW.trod_int Tryz.underlying3 g3
 obtain ⟨a4, q4, _, _⟩ := DataW.trod_int Tryz.underlying3 g4
 obtain ⟨us, m, _, _, _, hul, hu⟩ := DataW.trod_array Tryz.underlying25 g1
 have ht : ∀ i, i < 4 → ∃ z, us[i]? = some z := fun i hi => ⟨_, List.getElem?_eq_getElem (by rw [hul]; exact hi)⟩
 have u0 := hu 0 (by decide)
 have u1 := hu 1 (by decide)
 have u2 := hu 2 (by decide)
 have u3 := hu 3 (by decide)
 obtain ⟨t0, f0⟩ := ht 0 (by decide)
 obtain ⟨t1, f1⟩ := ht 1 (by decide)
 obtain ⟨t2, f2⟩ := ht 2 (by decide)
 obtain ⟨t3, f3⟩ := ht 3 (by decide)
 rw [f0, cellsWord] at u0
 rw [f1, cellsWord] at u1
 rw [f2, cellsWord] at u2
 rw [f3, cellsWord] at u3
 obtain ⟨b0, r0, _, w0⟩ := DataW.trod_int Tryz.underlying23 u0
 obtain ⟨b1, r1, _, w1⟩ := DataW.trod_int Tryz.underlying23 u1
 obtain ⟨b2, r2, _, w2⟩ := DataW.trod_int Tryz.underlying23 u2
 obtain ⟨b3, r3, _, w3⟩ := DataW.trod_int Tryz.underlying23 u3
 have hv5 : ∃ A len cap, v5 = .slice A len cap := by
  rcases DataW.trod_slice Tryz.underlying26 g2 with ⟨hcs, _⟩ | ⟨a, l, c, _, _, _, _, hcs, _⟩
  ·simp at hcs; exact ⟨_, _, _, hcs⟩
  ·simp at hcs; exact ⟨_, _, _, hcs⟩
 obtain ⟨A, len, cap, rfl⟩ := hv5
 obtain ⟨F, hF1, hF2, hF3, hF4⟩ := ih n (by omega) A len cap z2 (by simpa using g2)
 simp at q0 q3 q4 r0 r1 r2 r3
 subst q0 q3 q4 r0 r1 r2 r3
 obtain ⟨s0, s0'⟩ := u64_of_wf w0
 obtain ⟨s1, s1'⟩ := u64_of_wf w1
 obtain ⟨s2, s2'⟩ := u64_of_wf w2
 obtain ⟨s3, s3'⟩ := u64_of_wf w3
 obtain ⟨n0, rfl⟩ := Int.eq_ofNat_of_zero_le s0
 obtain ⟨n1, rfl⟩ := Int.eq_ofNat_of_zero_le s1
 obtain ⟨n2, rfl⟩ := Int.eq_ofNat_of_zero_le s2
 obtain ⟨n3, rfl⟩ := Int.eq_ofNat_of_zero_le s3
 obtain ⟨s, k0, k1, k2, k3⟩ := set_words (n0 := n0) (n1 := n1) (n2 := n2) (n3 := n3) (by omega) (by omega) (by omega) (by omega)
 have hb : Rows.uptoBulk z2.1 ≤ Rows.uptoBulkAll (xs.map (·.1)) := bulkAll_mem (List.mem_map.2 ⟨z2, List.mem_of_getElem? e2, rfl⟩)
 refine ⟨⟨a0, s, F, a3, a4⟩, A, cap, by unfold ndCell; simp only; rw [k0, k1, k2, k3, hF1], by simpa only [hF1] using hF3, hF2, ?_⟩
 rw [hy]
 unfold Nd.size
 simp only [Rows.uptoBulk]
 omega
theorem bulk_sum {H : Type} : ∀ (es : List (DataW H)) (l : List Nat), es.length = l.length → (∀ (i : Nat) (d : DataW H) (k : Nat), es[i]? = some d → l[i]? = some k → k ≤ Rows.uptoBulk d) → l.sum ≤ Rows.uptoBulkAll es
 | [], [], _, _ => by simp
 | [], _ :: _, h, _ => by simp at h
 | _ :: _, [], h, _ => by simp at h
 | d :: es, k :: l, h, hk => by
  have h1 := bulk_sum es l (by simpa using h) (fun i d k h1 h2 => hk (i + 1) d k (by simpa using h1) (by simpa using h2))
  have h2 := hk 0 d k rfl rfl
  simp only [Rows.uptoBulkAll, List.sum_cons]
  omega
theorem size_sum (l : List Nd) : (Trees.of l).size = (l.map Nd.size).sum := by
 induction l with
 | nil => rfl
 | cons x l ih => rw [Trees.of, Trees.size, ih, List.map_cons, List.sum_cons]; rfl
theorem slice_came (fuel : Nat) (ih : ∀ n, n < fuel → CameF enc W n) : CameF enc W fuel := by
 intro A len cap y h
 rcases DataW.trod_slice Tryz.underlying26 h with ⟨hcs, hd⟩ | ⟨a, l, c, elems, rest, n, hfn, hcs, hd, hb, hlc, hm, hel, hc, _, _⟩
 ·simp at hcs
  obtain ⟨rfl, rfl, rfl⟩ := hcs
  exact ⟨.nil, rfl, trivial, Nat.le_refl _, Nat.zero_le _⟩
 ·simp at hcs
  obtain ⟨rfl, rfl, rfl⟩ := hcs
  rw [cellsNode] at hc
  have hx : ∀ i, i < len → ∃ (x : Nd) (B : Option Addr) (capx : Nat) (cs : List Value) (e : DataW H × List MemPlace), elems[i]? = some e ∧ W.cells? 0 (a.add (i * 8)) 8 = some cs ∧ cs = ndCell x B capx ∧ x.kids.len ≤ capx ∧ TreesAt W (fun b => b < W.heap.size) x.kids B ∧ x.size ≤ Rows.uptoBulk e.1 := by
   intro i hi
   have h1 := hc i hi
   rw [List.getElem?_eq_getElem (by omega)] at h1
   obtain ⟨cs, h2, h3⟩ := Option.bind_eq_some_iff.1 h1
   obtain ⟨x, B, capx, k1, k2, k3, k4⟩ := node_came (fun m hm => ih m (by omega)) h3
   exact ⟨x, B, capx, cs, _, List.getElem?_eq_getElem (by omega), h2, k1, k2, k3, k4⟩
  classical
  let f : Nat → Nd := fun i => if hi : i < len then Classical.choose (hx i hi) else ⟨0, 0, .nil, 0, 0⟩
  have hf2 : ∀ i (hi : i < len), f i = Classical.choose (hx i hi) := fun i hi => dif_pos hi
  have hspec : ∀ i (hi : i < len), ∃ (B : Option Addr) (capx : Nat) (cs : List Value) (e : DataW H × List MemPlace), elems[i]? = some e ∧ W.cells? 0 (a.add (i * 8)) 8 = some cs ∧ cs = ndCell (f i) B capx ∧ (f i).kids.len ≤ capx ∧ TreesAt W (fun b => b < W.heap.size) (f i).kids B ∧ (f i).size ≤ Rows.uptoBulk e.1 := fun i hi => by
   have := Classical.choose_spec (hx i hi)
   rw [← hf2 i hi] at this
   exact this
  have hget : ∀ i, i < len → ((List.range len).map f)[i]? = some (f i) := fun i hi => by rw [List.getElem?_map, List.getElem?_range hi]; rfl
  refine ⟨Trees.of ((List.range len).map f), by rw [Trees.len_of]; simp, ?_, hlc, ?_⟩
  ·rcases Nat.eq_zero_or_pos len with rfl | hpos
   ·exact TreesAt.nilAt (by rw [Trees.len_of]; simp)
   obtain ⟨bl, off, spot⟩ := a
   obtain ⟨B0, c0, cs0, z0, _, hcs0, hx0, _⟩ := hspec 0 hpos
   obtain ⟨_, _, hcell0⟩ := World.cells?_some hcs0
   have h00 := hcell0 0 (by decide)
   rw [hx0] at h00
   have hspot : spot = none := by
    have := World.cell?_spot (v := .int .i64 (f 0).kind) (by simpa [ndCell] using h00)
    simpa [Addr.add] using this
   subst hspot
   refine TreesAt.mk ?_ (fun i x hxi => ?_)
   ·have := World.block_lt_of_cell? W _ (u := .int .i64 (f 0).kind) (by simpa [ndCell] using h00)
    simpa [addr_add] using this
   ·rw [Trees.list_of] at hxi
    have hi : i < len := by
     have := (List.getElem?_eq_some_iff.mp hxi).1
     simpa using this
    rw [hget i hi] at hxi
    obtain rfl := Option.some.inj hxi
    obtain ⟨B, capx, cs, e, _, h1, h2, h3, h4, _⟩ := hspec i hi
    obtain ⟨_, _, h5⟩ := World.cells?_some h1
    rw [h2] at h5
    have g : ∀ j u, j < 8 → (ndCell (f i) B capx)[j]? = some u → W.cell? ⟨bl, off + i * 8 + j, none⟩ = some u := fun j u hj hu => by
     have := h5 j hj
     rw [addr_add, addr_add, hu] at this
     exact this
    exact ⟨B, capx, h3, ⟨g 0 _ (by decide) rfl, g 1 _ (by decide) rfl, g 2 _ (by decide) rfl, g 3 _ (by decide) rfl, g 4 _ (by decide) rfl, g 5 _ (by decide) rfl, g 6 _ (by decide) rfl, g 7 _ (by decide) rfl⟩, h4⟩
  ·rw [hd, size_sum]
   simp only [Rows.uptoBulk]
   have := bulk_sum (elems.map (·.1)) (((List.range len).map f).map Nd.size) (by simpa using hel) (fun i d k h1 h2 => by
    have hi : i < len := by
     have := (List.getElem?_eq_some_iff.mp h2).1
     simpa using this
    rw [List.getElem?_map, hget i hi] at h2
    obtain rfl := Option.some.inj h2
    obtain ⟨B, capx, cs, e, he, _, _, _, _, h6⟩ := hspec i hi
    rw [List.getElem?_map, he] at h1
    obtain rfl := Option.some.inj h1
    exact h6)
   omega
theorem came_all : ∀ fuel, CameF enc W fuel := fun fuel => by
 induction fuel using Nat.strongRecOn with
 | _ n ih => exact slice_came n ih
theorem trees_came {A : Option Addr} {len cap : Nat} {d : DataW H} {p : List MemPlace} (h : DataW.Trod enc Tryz.prog W 0 (fun _ => true) true 26 (.slice A len cap) d p) :
  ∃ F : Trees, F.len = len ∧ TreesAt W (fun b => b < W.heap.size) F A ∧ len ≤ cap ∧ F.size ≤ Rows.uptoBulk d := by
 obtain ⟨fuel, hf⟩ := h
 exact came_all fuel A len cap (d, p) hf
theorem tree_came {v : Value} {d : DataW H} {p : List MemPlace} (h : DataW.Trod enc Tryz.prog W 0 (fun _ => true) true 28 v d p) :
  ∃ (x : Nd) (B : Option Addr) (cap : Nat), v.cells.toList = ndCell x B cap ∧ x.kids.len ≤ cap ∧ TreesAt W (fun b => b < W.heap.size) x.kids B ∧ x.size ≤ Rows.uptoBulk d := by
 obtain ⟨fuel, hf⟩ := h
 exact node_came (fun n _ => came_all n) hf
end
end
section
open Go.ChangeShapes Go.WideShapes Go.ChangeAt Go.RowKit Go.Shelf
theorem gTab : Tryz.prog.globalNamed "math/bits.deBruijn64tab" = some 0 := by kernel_rfl
theorem gTabType : (Tryz.prog.globals[0]?).map (·.type) = some 228 := by kernel_rfl
theorem cellsTab : Tryz.prog.cellsOf 228 = 64 := by kernel_rfl
theorem table_at {W : World} (h : laidMetH Tryz.prog [("math/bits.deBruijn64tab", Rows.laid_math_bits_deBruijn64tab)] W) : TabAt 0 Lib.deBruijn64tab W := by
 have ht : Lib.TabIs Tryz.prog W "math/bits.deBruijn64tab" .u8 (Lib.deBruijn64tab.map fun n : Nat => (n : Int)) :=
  Lib.tabIs_of_head (rest := []) gTab gTabType Tryz.underlying228 Tryz.underlying5 cellsByte cellsTab h
 intro j hj
 have hc := ht.cell gTab j (by simpa using hj)
 rw [hc]
 simp [List.getD_eq_getElem?_getD, hj]
noncomputable def tabWorld (os : Os) : World :=
 { World.holding Tryz.prog os ⟨#[], #[], []⟩ with heap := (World.holding Tryz.prog os ⟨#[], #[], []⟩).heap.modify 0 fun
   | .cells _ t frozen => .cells (Lib.deBruijn64tab.map fun n : Nat => Value.int .u8 (n : Int)).toArray t frozen
   | o => o }
theorem node_val {H : Type} {enc : TypeId × Value → H} {W : World} {base : Nat} {v : Value} {d : DataW H} {p : List MemPlace} (hv : Value.okWide Tryz.prog W .any base 28 v) (h : DataW.Trod enc Tryz.prog W 0 (fun _ => true) true 28 v d p) :
  ∃ (x : Nd) (B : Option Addr) (cap : Nat), v = ndV x B cap ∧ x.kids.len ≤ cap ∧ TreesAt W (fun b => b < W.heap.size) x.kids B ∧ x.size ≤ Rows.uptoBulk d := by
 obtain ⟨x, B, cap, hc, h1, h2, h3⟩ := tree_came h
 simp only [Value.okWide, Tryz.underlying28] at hv
 obtain ⟨cs, rfl, _, _⟩ := hv
 refine ⟨x, B, cap, ?_, h1, h2, h3⟩
 have : cs = (ndCell x B cap).toArray := by
  have hc' : cs.toList = ndCell x B cap := hc
  rw [← hc']
 rw [this]
 rfl
end
section
open Go.RowKit
def isSign (c : Nat) : Bool := [92, 40, 41, 91, 93, 123, 125, 124, 42, 43, 63, 46].contains c
def litS (c : Nat) : List Nat := if isSign c = true then [92, c] else if c = 94 ∨ c = 45 then [c] else chrS c
theorem litS_chr {c : Nat} (h : isSign c = false) (h2 : ¬ (c = 94 ∨ c = 45)) : litS c = chrS c := by unfold litS; rw [h, if_neg h2]; rfl
theorem litS_len (c : Nat) : (litS c).length ≤ 4 := by unfold litS; have := chrS_len c; split <;> (try split) <;> simp_all
@[go_sem] theorem run_str1 (w : World) (c : Nat) : (convert 29 9 (.slice (some ⟨w.heap.size, 0, none⟩) 1 1)).run Tryz.prog (w.alloc (.cells #[.int .u8 (c : Int)] 5)) =
  .ok (.string (strOf [c])) (w.alloc (.cells #[.int .u8 (c : Int)] 5)) :=
 run_str _ ⟨w.heap.size, 0, none⟩ 1 [c] (fun j u hu => by
  have hb := Blk.new w 5 #[.int .u8 (c : Int)]
  match j, hu with
  | 0, hu => simp at hu; subst hu; exact hb.cell 0
  | j + 1, hu => simp at hu)
theorem lit_go (c : Nat) (w : World) (hc : c < 256) :
  Calls Tryz.prog 208 #[.int .u8 (c : Int)] w fun e w' => e = .returned (.string (strOf (litS c))) ∧ Below w.heap.size w w' := by
 by_cases e92 : c = 92
 ·have HV : Hid (litS c = [92, c]) := by subst e92; rfl
  have b : ((c : Int) == 92) = true := by simp; omega
  rw [HV.out]
  clear e92
  go_enter Tryz.func208, Tryz.ntmps208
  go_wp2
  go_light
  go_ret
  exact ⟨rfl, (Below.refl w.heap.size w).alloc (Nat.le_refl _) _⟩
 have b92 : ((c : Int) == 92) = false := by simp; omega
 by_cases e40 : c = 40
 ·have HV : Hid (litS c = [92, c]) := by subst e40; rfl
  have b : ((c : Int) == 40) = true := by simp; omega
  rw [HV.out]
  clear e40
  go_enter Tryz.func208, Tryz.ntmps208
  go_wp2
  go_light
  go_ret
  exact ⟨rfl, (Below.refl w.heap.size w).alloc (Nat.le_refl _) _⟩
 have b40 : ((c : Int) == 40) = false := by simp; omega
 by_cases e41 : c = 41
 ·have HV : Hid (litS c = [92, c]) := by subst e41; rfl
  have b : ((c : Int) == 41) = true := by simp; omega
  rw [HV.out]
  clear e41
  go_enter Tryz.func208, Tryz.ntmps208
  go_wp2
  go_light
  go_ret
  exact ⟨rfl, (Below.refl w.heap.size w).alloc (Nat.le_refl _) _⟩
 have b41 : ((c : Int) == 41) = false := by simp; omega
 by_cases e91 : c = 91
 ·have HV : Hid (litS c = [92, c]) := by subst e91; rfl
  have b : ((c : Int) == 91) = true := by simp; omega
  rw [HV.out]
  clear e91
  go_enter Tryz.func208, Tryz.ntmps208
  go_wp2
  go_light
  go_ret
  exact ⟨rfl, (Below.refl w.heap.size w).alloc (Nat.le_refl _) _⟩
 have b91 : ((c : Int) == 91) = false := by simp; omega
 by_cases e93 : c = 93
 ·have HV : Hid (litS c = [92, c]) := by subst e93; rfl
  have b : ((c : Int) == 93) = true := by simp; omega
  rw [HV.out]
  clear e93
  go_enter Tryz.func208, Tryz.ntmps208
  go_wp2
  go_light
  go_ret
  exact ⟨rfl, (Below.refl w.heap.size w).alloc (Nat.le_refl _) _⟩
 have b93 : ((c : Int) == 93) = false := by simp; omega
 by_cases e123 : c = 123
 ·have HV : Hid (litS c = [92, c]) := by subst e123; rfl
  have b : ((c : Int) == 123) = true := by simp; omega
  rw [HV.out]
  clear e123
  go_enter Tryz.func208, Tryz.ntmps208
  go_wp2
  go_light
  go_ret
  exact ⟨rfl, (Below.refl w.heap.size w).alloc (Nat.le_refl _) _⟩
 have b123 : ((c : Int) == 123) = false := by simp; omega
 by_cases e125 : c = 125
 ·have HV : Hid (litS c = [92, c]) := by subst e125; rfl
  have b : ((c : Int) == 125) = true := by simp; omega
  rw [HV.out]
  clear e125
  go_enter Tryz.func208, Tryz.ntmps208
  go_wp2
  go_light
  go_ret
  exact ⟨rfl, (Below.refl w.heap.size w).alloc (Nat.le_refl _) _⟩
 have b125 : ((c : Int) == 125) = false := by simp; omega
 by_cases e124 : c = 124
 ·have HV : Hid (litS c = [92, c]) := by subst e124; rfl
  have b : ((c : Int) == 124) = true := by simp; omega
  rw [HV.out]
  clear e124
  go_enter Tryz.func208, Tryz.ntmps208
  go_wp2
  go_light
  go_ret
  exact ⟨rfl, (Below.refl w.heap.size w).alloc (Nat.le_refl _) _⟩
 have b124 : ((c : Int) == 124) = false := by simp; omega
 by_cases e42 : c = 42
 ·have HV : Hid (litS c = [92, c]) := by subst e42; rfl
  have b : ((c : Int) == 42) = true := by simp; omega
  rw [HV.out]
  clear e42
  go_enter Tryz.func208, Tryz.ntmps208
  go_wp2
  go_light
  go_ret
  exact ⟨rfl, (Below.refl w.heap.size w).alloc (Nat.le_refl _) _⟩
 have b42 : ((c : Int) == 42) = false := by simp; omega
 by_cases e43 : c = 43
 ·have HV : Hid (litS c = [92, c]) := by subst e43; rfl
  have b : ((c : Int) == 43) = true := by simp; omega
  rw [HV.out]
  clear e43
  go_enter Tryz.func208, Tryz.ntmps208
  go_wp2
  go_light
  go_ret
  exact ⟨rfl, (Below.refl w.heap.size w).alloc (Nat.le_refl _) _⟩
 have b43 : ((c : Int) == 43) = false := by simp; omega
 by_cases e63 : c = 63
 ·have HV : Hid (litS c = [92, c]) := by subst e63; rfl
  have b : ((c : Int) == 63) = true := by simp; omega
  rw [HV.out]
  clear e63
  go_enter Tryz.func208, Tryz.ntmps208
  go_wp2
  go_light
  go_ret
  exact ⟨rfl, (Below.refl w.heap.size w).alloc (Nat.le_refl _) _⟩
 have b63 : ((c : Int) == 63) = false := by simp; omega
 by_cases e46 : c = 46
 ·have HV : Hid (litS c = [92, c]) := by subst e46; rfl
  have b : ((c : Int) == 46) = true := by simp; omega
  rw [HV.out]
  clear e46
  go_enter Tryz.func208, Tryz.ntmps208
  go_wp2
  go_light
  go_ret
  exact ⟨rfl, (Below.refl w.heap.size w).alloc (Nat.le_refl _) _⟩
 have b46 : ((c : Int) == 46) = false := by simp; omega
 by_cases e94 : c = 94
 ·have HV : Hid (litS c = [c]) := by subst e94; rfl
  have b : ((c : Int) == 94) = true := by simp; omega
  rw [HV.out]
  clear e94
  go_enter Tryz.func208, Tryz.ntmps208
  go_wp2
  go_light
  go_ret
  exact ⟨rfl, (Below.refl w.heap.size w).alloc (Nat.le_refl _) _⟩
 have b94 : ((c : Int) == 94) = false := by simp; omega
 by_cases e45 : c = 45
 ·have HV : Hid (litS c = [c]) := by subst e45; rfl
  have b : ((c : Int) == 45) = true := by simp; omega
  rw [HV.out]
  clear e45
  go_enter Tryz.func208, Tryz.ntmps208
  go_wp2
  go_light
  go_ret
  exact ⟨rfl, (Below.refl w.heap.size w).alloc (Nat.le_refl _) _⟩
 have b45 : ((c : Int) == 45) = false := by simp; omega
 have HV : Hid (litS c = chrS c) := Lib.hid (litS_chr (by simp [isSign]; omega) (by omega))
 rw [HV.out]
 clear e92 e40 e41 e91 e93 e123 e125 e124 e42 e43 e63 e46 e94 e45
 go_enter Tryz.func208, Tryz.ntmps208
 go_wp2_with fail
 refine (chr_go _ _ (by omega) (by omega)).mono ?_
 rintro e w2 ⟨rfl, hb2⟩
 rw [Int.toNat_natCast]
 go_wp2
 go_light
 go_ret
 exact ⟨rfl, hb2⟩
def decS (n : Nat) : List Nat :=
 if n < 10 then [48 + n] else if n < 100 then [48 + n / 10, 48 + n % 10] else if n < 1000 then [48 + n / 10 / 10, 48 + n / 10 % 10, 48 + n % 10] else [48 + n / 10 / 10 / 10, 48 + n / 10 / 10 % 10, 48 + n / 10 % 10, 48 + n % 10]
theorem decS_len (n : Nat) : (decS n).length ≤ 4 := by unfold decS; split <;> (try split) <;> (try split) <;> simp
theorem str_block (w : World) (C : Array Value) (t : TypeId) (o : Nat) (ns : List Nat) (h : ∀ j u, (ns.map (fun n : Nat => Value.int .u8 (n : Int)))[j]? = some u → C[o + j]? = some u) :
  (convert 29 9 (.slice (some ⟨w.heap.size, o, none⟩) ns.length ns.length)).run Tryz.prog (w.alloc (.cells C t)) = .ok (.string (strOf ns)) (w.alloc (.cells C t)) :=
 run_str _ ⟨w.heap.size, o, none⟩ ns.length ns (fun j u hu => by
  have hb := Blk.new w t C
  have e : (⟨w.heap.size, o, none⟩ : Addr).add j = ⟨w.heap.size, o + j, none⟩ := by
   unfold Addr.add
   split
   ·next hz => subst hz; rfl
   ·rfl
  rw [e, hb.cell]
  exact h j u hu)
theorem str_one (w : World) (a : Nat) : (convert 29 9 (.slice (some ⟨w.heap.size, 19, none⟩) 1 1)).run Tryz.prog (w.alloc (.cells #[Value.int .u8 0, Value.int .u8 0, Value.int .u8 0, Value.int .u8 0, Value.int .u8 0, Value.int .u8 0, Value.int .u8 0, Value.int .u8 0, Value.int .u8 0, Value.int .u8 0, Value.int .u8 0, Value.int .u8 0, Value.int .u8 0, Value.int .u8 0, Value.int .u8 0, Value.int .u8 0, Value.int .u8 0, Value.int .u8 0, Value.int .u8 0, .int .u8 (48 + (a : Int))] 267)) =
  .ok (.string (strOf [48 + a])) (w.alloc (.cells #[Value.int .u8 0, Value.int .u8 0, Value.int .u8 0, Value.int .u8 0, Value.int .u8 0, Value.int .u8 0, Value.int .u8 0, Value.int .u8 0, Value.int .u8 0, Value.int .u8 0, Value.int .u8 0, Value.int .u8 0, Value.int .u8 0, Value.int .u8 0, Value.int .u8 0, Value.int .u8 0, Value.int .u8 0, Value.int .u8 0, Value.int .u8 0, .int .u8 (48 + (a : Int))] 267)) :=
 str_block w _ _ 19 [48 + a] (fun j u hu => by
  match j, hu with
  | 0, hu => simpa using hu
  | j + 1, hu => simp at hu)
theorem str_two (w : World) (a b : Nat) : (convert 29 9 (.slice (some ⟨w.heap.size, 18, none⟩) 2 2)).run Tryz.prog (w.alloc (.cells #[Value.int .u8 0, Value.int .u8 0, Value.int .u8 0, Value.int .u8 0, Value.int .u8 0, Value.int .u8 0, Value.int .u8 0, Value.int .u8 0, Value.int .u8 0, Value.int .u8 0, Value.int .u8 0, Value.int .u8 0, Value.int .u8 0, Value.int .u8 0, Value.int .u8 0, Value.int .u8 0, Value.int .u8 0, Value.int .u8 0, .int .u8 (48 + (a : Int)), .int .u8 (48 + (b : Int))] 267)) =
  .ok (.string (strOf [48 + a, 48 + b])) (w.alloc (.cells #[Value.int .u8 0, Value.int .u8 0, Value.int .u8 0, Value.int .u8 0, Value.int .u8 0, Value.int .u8 0, Value.int .u8 0, Value.int .u8 0, Value.int .u8 0, Value.int .u8 0, Value.int .u8 0, Value.int .u8 0, Value.int .u8 0, Value.int .u8 0, Value.int .u8 0, Value.int .u8 0, Value.int .u8 0, Value.int .u8 0, .int .u8 (48 + (a : Int)), .int .u8 (48 + (b : Int))] 267)) :=
 str_block w _ _ 18 [48 + a, 48 + b] (fun j u hu => by
  match j, hu with
  | 0, hu => simpa using hu
  | 1, hu => simpa using hu
  | j + 2, hu => simp at hu)
theorem str_three (w : World) (a b c : Nat) : (convert 29 9 (.slice (some ⟨w.heap.size, 17, none⟩) 3 3)).run Tryz.prog (w.alloc (.cells #[Value.int .u8 0, Value.int .u8 0, Value.int .u8 0, Value.int .u8 0, Value.int .u8 0, Value.int .u8 0, Value.int .u8 0, Value.int .u8 0, Value.int .u8 0, Value.int .u8 0, Value.int .u8 0, Value.int .u8 0, Value.int .u8 0, Value.int .u8 0, Value.int .u8 0, Value.int .u8 0, Value.int .u8 0, .int .u8 (48 + (a : Int)), .int .u8 (48 + (b : Int)), .int .u8 (48 + (c : Int))] 267)) =
  .ok (.string (strOf [48 + a, 48 + b, 48 + c])) (w.alloc (.cells #[Value.int .u8 0, Value.int .u8 0, Value.int .u8 0, Value.int .u8 0, Value.int .u8 0, Value.int .u8 0, Value.int .u8 0, Value.int .u8 0, Value.int .u8 0, Value.int .u8 0, Value.int .u8 0, Value.int .u8 0, Value.int .u8 0, Value.int .u8 0, Value.int .u8 0, Value.int .u8 0, Value.int .u8 0, .int .u8 (48 + (a : Int)), .int .u8 (48 + (b : Int)), .int .u8 (48 + (c : Int))] 267)) :=
 str_block w _ _ 17 [48 + a, 48 + b, 48 + c] (fun j u hu => by
  match j, hu with
  | 0, hu => simpa using hu
  | 1, hu => simpa using hu
  | 2, hu => simpa using hu
  | j + 3, hu => simp at hu)
theorem str_four (w : World) (a b c d : Nat) : (convert 29 9 (.slice (some ⟨w.heap.size, 16, none⟩) 4 4)).run Tryz.prog (w.alloc (.cells #[Value.int .u8 0, Value.int .u8 0, Value.int .u8 0, Value.int .u8 0, Value.int .u8 0, Value.int .u8 0, Value.int .u8 0, Value.int .u8 0, Value.int .u8 0, Value.int .u8 0, Value.int .u8 0, Value.int .u8 0, Value.int .u8 0, Value.int .u8 0, Value.int .u8 0, Value.int .u8 0, .int .u8 (48 + (a : Int)), .int .u8 (48 + (b : Int)), .int .u8 (48 + (c : Int)), .int .u8 (48 + (d : Int))] 267)) =
  .ok (.string (strOf [48 + a, 48 + b, 48 + c, 48 + d])) (w.alloc (.cells #[Value.int .u8 0, Value.int .u8 0, Value.int .u8 0, Value.int .u8 0, Value.int .u8 0, Value.int .u8 0, Value.int .u8 0, Value.int .u8 0, Value.int .u8 0, Value.int .u8 0, Value.int .u8 0, Value.int .u8 0, Value.int .u8 0, Value.int .u8 0, Value.int .u8 0, Value.int .u8 0, .int .u8 (48 + (a : Int)), .int .u8 (48 + (b : Int)), .int .u8 (48 + (c : Int)), .int .u8 (48 + (d : Int))] 267)) :=
 str_block w _ _ 16 [48 + a, 48 + b, 48 + c, 48 + d] (fun j u hu => by
  match j, hu with
  | 0, hu => simpa using hu
  | 1, hu => simpa using hu
  | 2, hu => simpa using hu
  | 3, hu => simpa using hu
  | j + 4, hu => simp at hu)
theorem dec_parts (n : Nat) : ∃ q r : Nat, r < 10 ∧ n / 10 = q ∧ n % 10 = r ∧ (n : Int).tdiv 10 = (q : Int) ∧ (n : Int).tmod 10 = (r : Int) :=
 ⟨n / 10, n % 10, Nat.mod_lt _ (by decide), rfl, rfl, by rw [Int.tdiv_eq_ediv_of_nonneg (by omega)]; omega, by rw [Int.tmod_eq_emod_of_nonneg (by omega)]; omega⟩
theorem shown_one (n : Nat) (w : World) (hn : n < 10) :
  Calls Tryz.prog 237 #[.int .i64 (n : Int)] w fun e w' => e = .returned (.string (strOf (decS n))) ∧ Below w.heap.size w w' := by
 have HV : decS n = [48 + n] := if_pos hn
 rw [HV]
 have h0 : ¬ (n : Int) < 0 := by omega
 have m1 : (n : Int).tmod 10 = (n : Int) := by rw [Int.tmod_eq_emod_of_nonneg (by omega)]; omega
 have d1 : (n : Int).tdiv 10 = 0 := by rw [Int.tdiv_eq_ediv_of_nonneg (by omega)]; omega
 have hs := fun w => str_one w n
 clear HV
 go_enter Tryz.func237, Tryz.ntmps237
 go_wp2
 refine wp_loop_rounds 1 ?_
 rw [rounds_succ]
 go_wp2
 go_light
 go_ret
 exact ⟨rfl, (Below.refl w.heap.size w).alloc (Nat.le_refl _) _⟩
theorem shown_two (n : Nat) (w : World) (hn : 10 ≤ n) (hn2 : n < 100) :
  Calls Tryz.prog 237 #[.int .i64 (n : Int)] w fun e w' => e = .returned (.string (strOf (decS n))) ∧ Below w.heap.size w w' := by
 have HV : decS n = [48 + n / 10, 48 + n % 10] := by unfold decS; rw [if_neg (by omega), if_pos hn2]
 rw [HV]
 have h0 : ¬ (n : Int) < 0 := by omega
 obtain ⟨a, b, hb, e1, e2, d1, m1⟩ := dec_parts n
 obtain ⟨a1, b1, hb1, e3, e4, d2, m2⟩ := dec_parts a
 rw [e1, e2]
 obtain rfl : a1 = 0 := by omega
 obtain rfl : b1 = a := by omega
 have z1 : ((b1 : Int) == 0) = false := by simp; omega
 have q1 : b1 < 1000 := by omega
 have hs := fun w => str_two w b1 b
 clear HV e1 e2 e3 e4 hn hn2
 go_enter Tryz.func237, Tryz.ntmps237
 go_wp2
 refine wp_loop_rounds 2 ?_
 rw [rounds_succ]
 go_wp2
 rw [rounds_succ]
 go_wp2
 go_light
 go_ret
 exact ⟨rfl, (Below.refl w.heap.size w).alloc (Nat.le_refl _) _⟩
theorem shown_three (n : Nat) (w : World) (hn : 100 ≤ n) (hn2 : n < 1000) :
  Calls Tryz.prog 237 #[.int .i64 (n : Int)] w fun e w' => e = .returned (.string (strOf (decS n))) ∧ Below w.heap.size w w' := by
 have HV : decS n = [48 + n / 10 / 10, 48 + n / 10 % 10, 48 + n % 10] := by unfold decS; rw [if_neg (by omega), if_neg (by omega), if_pos hn2]
 rw [HV]
 have h0 : ¬ (n : Int) < 0 := by omega
 obtain ⟨a, b, hb, e1, e2, d1, m1⟩ := dec_parts n
 obtain ⟨a1, b1, hb1, e3, e4, d2, m2⟩ := dec_parts a
 obtain ⟨a2, b2, hb2, e5, e6, d3, m3⟩ := dec_parts a1
 rw [e1, e2, e3, e4]
 obtain rfl : a2 = 0 := by omega
 obtain rfl : b2 = a1 := by omega
 have z1 : ((a : Int) == 0) = false := by simp; omega
 have z2 : ((b2 : Int) == 0) = false := by simp; omega
 have q1 : a < 1000 := by omega
 have q2 : b2 < 1000 := by omega
 have hs := fun w => str_three w b2 b1 b
 clear HV e1 e2 e3 e4 e5 e6 hn hn2
 go_enter Tryz.func237, Tryz.ntmps237
 go_wp2
 refine wp_loop_rounds 3 ?_
 rw [rounds_succ]
 go_wp2
 rw [rounds_succ]
 go_wp2
 rw [rounds_succ]
 go_wp2
 go_light
 go_ret
 exact ⟨rfl, (Below.refl w.heap.size w).alloc (Nat.le_refl _) _⟩
theorem shown_four (n : Nat) (w : World) (hn : 1000 ≤ n) (hn2 : n < 10000) :
  Calls Tryz.prog 237 #[.int .i64 (n : Int)] w fun e w' => e = .returned (.string (strOf (decS n))) ∧ Below w.heap.size w w' := by
 have HV : decS n = [48 + n / 10 / 10 / 10, 48 + n / 10 / 10 % 10, 48 + n / 10 % 10, 48 + n % 10] := by unfold decS; rw [if_neg (by omega), if_neg (by omega), if_neg (by omega)]
 rw [HV]
 have h0 : ¬ (n : Int) < 0 := by omega
 obtain ⟨a, b, hb, e1, e2, d1, m1⟩ := dec_parts n
 obtain ⟨a1, b1, hb1, e3, e4, d2, m2⟩ := dec_parts a
 obtain ⟨a2, b2, hb2, e5, e6, d3, m3⟩ := dec_parts a1
 obtain ⟨a3, b3, hb3, e7, e8, d4, m4⟩ := dec_parts a2
 rw [e1, e2, e3, e4, e5, e6]
 obtain rfl : a3 = 0 := by omega
 obtain rfl : b3 = a2 := by omega
 have z1 : ((a : Int) == 0) = false := by simp; omega
 have z2 : ((a1 : Int) == 0) = false := by simp; omega
 have z3 : ((b3 : Int) == 0) = false := by simp; omega
 have q1 : a < 1001 := by omega
 have q2 : a1 < 1000 := by omega
 have q3 : b3 < 1000 := by omega
 have hs := fun w => str_four w b3 b2 b1 b
 clear HV e1 e2 e3 e4 e5 e6 e7 e8 hn hn2
 go_enter Tryz.func237, Tryz.ntmps237
 go_wp2
 refine wp_loop_rounds 4 ?_
 rw [rounds_succ]
 go_wp2
 rw [rounds_succ]
 go_wp2
 rw [rounds_succ]
 go_wp2
 rw [rounds_succ]
 go_wp2
 go_light
 go_ret
 exact ⟨rfl, (Below.refl w.heap.size w).alloc (Nat.le_refl _) _⟩
theorem shown_go (n : Nat) (w : World) (hn : n ≤ 1000) :
  Calls Tryz.prog 237 #[.int .i64 (n : Int)] w fun e w' => e = .returned (.string (strOf (decS n))) ∧ Below w.heap.size w w' := by
 by_cases h1 : n < 10
 ·exact shown_one n w h1
 by_cases h2 : n < 100
 ·exact shown_two n w (by omega) h2
 by_cases h3 : n < 1000
 ·exact shown_three n w (by omega) h3
 ·exact shown_four n w (by omega) (by omega)
@[go_sem] theorem run_str1i (w : World) (c : Nat) : (convert 29 9 (.slice (some ⟨w.heap.size, 0, none⟩) 1 1)).run Tryz.prog (w.alloc (.cells #[.int .u8 (48 + (c : Int))] 5)) =
  .ok (.string (strOf [48 + c])) (w.alloc (.cells #[.int .u8 (48 + (c : Int))] 5)) :=
 str_block w _ _ 0 [48 + c] (fun j u hu => by
  match j, hu with
  | 0, hu => simpa using hu
  | j + 1, hu => simp at hu)
end
section
open Go.RowKit Go.Shelf
attribute [local go_sem] Oper.semAt_some
set_option maxRecDepth 100000
theorem one_new (W : World) (v : Value) (t : TypeId) : (W.alloc (.cells #[v] t)).cell? ⟨W.heap.size, 0, none⟩ = some v ∧ (W.alloc (.cells #[v] t)).frozen? ⟨W.heap.size, 0, none⟩ = false :=
 ⟨(Blk.new W t #[v]).cell 0, (Blk.new W t #[v]).frozen 0⟩
theorem one_later {W : World} {a : Addr} {v : Value} (o : Obj) (h : W.cell? a = some v ∧ W.frozen? a = false) : (W.alloc o).cell? a = some v ∧ (W.alloc o).frozen? a = false :=
 ⟨cell_kept h.1 (World.grownBy_alloc W o none) (fun r e => by cases e), (frozen_kept h.1 (World.grownBy_alloc W o none) (fun r e => by cases e)).trans h.2⟩
theorem elems_pre (p : Nat → Bool) {m M : Nat} (h : m ≤ M) : ∃ l, elems p M = elems p m ++ l := by
 obtain ⟨d, rfl⟩ : ∃ d, M = m + d := ⟨M - m, by omega⟩
 clear h
 induction d with
 | zero => exact ⟨[], by simp⟩
 | succ d ih =>
  obtain ⟨l, hl⟩ := ih
  exact ⟨l ++ (if p (m + d) then [m + d] else []), by rw [← Nat.add_assoc, elems_succ, hl, List.append_assoc]⟩
theorem leastl_in (n : Nat) (hn : 3 ≤ n) (p : Nat → Bool) (c : Nat) (l0 : List Nat) (hp : elems p 256 = c :: l0) (w : World) (hT : TabAt 0 Lib.deBruijn64tab w) (hw0 : 0 < w.heap.size) :
  CallsIn Fence.wide n Tryz.prog 152 #[.agg #[.int .u64 (word p 0), .int .u64 (word p 1), .int .u64 (word p 2), .int .u64 (word p 3)]] w fun e W' => e = .returned (.int .i64 (c : Int)) ∧ Below w.heap.size w W' := by
 have h1 : 1 ≤ n := by omega
 have hc256 : c < 256 := elems_lt (m := 256) (p := p) (by rw [hp]; simp)
 refine callsIn_of_wp_marks Tryz.func152 rfl trivial ?_ rfl
 simp only [Tryz.ntmps152, List.size_toArray, List.length_cons, List.length_nil, Nat.reduceAdd, Nat.reduceSub, Array.replicate_succ, Array.replicate_zero, List.push_toArray, List.append_toArray, List.nil_append, List.cons_append]
 gi_wp2_with (refine ⟨trivial, ?_⟩; gi_at_call 180; refine (callsIn_wide.2 (each_go p _)).mono ?_; rintro e w' ⟨rfl, rfl⟩)
 have c1 := one_new (w.alloc (.cells #[.int .u64 (word p 0), .int .u64 (word p 1), .int .u64 (word p 2), .int .u64 (word p 3)] 25)) (.int .i64 0) 3
 simp only [World.size_alloc] at c1
 have hB0 : Below w.heap.size w (((w.alloc (.cells #[.int .u64 (word p 0), .int .u64 (word p 1), .int .u64 (word p 2), .int .u64 (word p 3)] 25)).alloc (.cells #[.int .i64 0] 3)).alloc (.cells #[.int .u64 (word p 0), .int .u64 (word p 1), .int .u64 (word p 2), .int .u64 (word p 3)] 25)) := (((Below.refl _ w).alloc (Nat.le_refl _) _).alloc (by simp) _).alloc (by simp; omega) _
 have bS : Blk (((w.alloc (.cells #[.int .u64 (word p 0), .int .u64 (word p 1), .int .u64 (word p 2), .int .u64 (word p 3)] 25)).alloc (.cells #[.int .i64 0] 3)).alloc (.cells #[.int .u64 (word p 0), .int .u64 (word p 1), .int .u64 (word p 2), .int .u64 (word p 3)] 25)) (w.heap.size + 1 + 1) 25 #[.int .u64 (word p 0), .int .u64 (word p 1), .int .u64 (word p 2), .int .u64 (word p 3)] := Blk.new_at (by simp)
 refine wpIn_rangeFunc_ownG rfl h1 (gf := 218) (lb := #[.pointer (some ⟨w.heap.size + 1 + 1, 0, none⟩)]) rfl trivial (enters_of Tryz.func218 (by kernel_rfl) rfl)
  (each_stops (n - 1) (by omega) p (w.heap.size + 1 + 1) w.heap.size _ hw0 (by simp) bS (TabAt.below hB0 hw0 hT)) belowK_t (belowK_b (by simp; omega)) (Below.refl _ _) (fun _ => rfl)
  (fun pre W => (pre = [] ∧ W.cell? ⟨w.heap.size + 1, 0, none⟩ = some (.int .i64 0) ∧ W.frozen? ⟨w.heap.size + 1, 0, none⟩ = false) ∧ Below w.heap.size w W)
  (fun k pre W => (∃ x, k = .ret ∧ pre = [x] ∧ W.cell? ⟨w.heap.size + 1, 0, none⟩ = some (.int .i64 ((x % 256 : Nat) : Int))) ∧ Below w.heap.size w W)
  (OwnFrom.and (Own.from (fun s A B row hs hg hr => ⟨hs.1, cell_kept hs.2.1 hg hr, (frozen_kept hs.2.1 hg hr).trans hs.2.2⟩) _) (ownFrom_below (Nat.le_refl _) (by simp; omega)))
  (fun c => OwnFrom.and (Own.from (fun s A B row hs hg hr => by obtain ⟨x, h1, h2, h3⟩ := hs; exact ⟨x, h1, h2, cell_kept h3 hg hr⟩) _) (ownFrom_below (Nat.le_refl _) (by simp; omega)))
  ⟨⟨rfl, one_later _ c1⟩, hB0⟩
  (fun x => { tmps := #[.agg #[.int .u64 (word p 0), .int .u64 (word p 1), .int .u64 (word p 2), .int .u64 (word p 3)], .pointer (some ⟨w.heap.size, 0, none⟩), .pointer (some ⟨w.heap.size + 1, 0, none⟩), .int .u8 ((x % 256 : Nat) : Int), .agg #[.int .u64 (word p 0), .int .u64 (word p 1), .int .u64 (word p 2), .int .u64 (word p 3)], .func (.func 218) #[] #[.pointer (some ⟨w.heap.size + 1 + 1, 0, none⟩)], .int .u8 ((x % 256 : Nat) : Int), undef, undef], defers := [] }) ?assign ?body ?done ?stop
 case assign =>
  intro l x W K hK
  unfold byteArg
  gi_wp2
  exact hK
 case body =>
  rintro l pre x W ⟨⟨rfl, hcr, hfr⟩, hB⟩ _
  have hx : x % 256 < 256 := Nat.mod_lt _ (by decide)
  generalize hxc : x % 256 = c' at *
  gi_wp2
  exact ⟨(KeepsOthers.setCell _ _ _).from _, ⟨x, rfl, rfl, by rw [hxc]; exact World.cell?_setCell_same' _ _ _ (by rw [hcr]; rfl)⟩, hB.setCell (p := ⟨w.heap.size + 1, 0, none⟩) (by simp) _⟩
 case done =>
  rintro D ys W hD rfl ⟨⟨hne, _, _⟩, hB⟩ hK
  rw [hp] at hne
  cases hne
 case stop =>
  rintro D k pre W hD ⟨m, hm, hpre⟩ ⟨⟨x, rfl, rfl, hcr⟩, hB⟩ hK
  have hxc : x = c := by
   obtain ⟨l, hl⟩ := elems_pre p hm
   rw [← hpre, hp] at hl
   simpa using (List.cons.inj hl).1.symm
  subst hxc
  rw [Nat.mod_eq_of_lt hc256] at hcr
  gi_wp2
  refine ⟨by simp, .inl ⟨_, _, rfl, run_takeDeferred hK, ?_⟩⟩
  have hc5 := cell_kept hcr (grownBy_putObj' _ D (.deferred none)) (fun r e => by cases e; exact ⟨_, hK, rfl⟩)
  refine ⟨.int .i64 (x : Int), ?_, rfl, hB.trans (belowK_b (w := w) (Nat.le_refl _) W D _ _ (by simp at hD; omega) hK rfl rfl)⟩
  simp [results, Tryz.f152, go_sem, hc5]
theorem leastl_go (p : Nat → Bool) (c : Nat) (l0 : List Nat) (hp : elems p 256 = c :: l0) (w : World) (hT : TabAt 0 Lib.deBruijn64tab w) (hw0 : 0 < w.heap.size) :
  Calls Tryz.prog 152 #[.agg #[.int .u64 (word p 0), .int .u64 (word p 1), .int .u64 (word p 2), .int .u64 (word p 3)]] w fun e W' => e = .returned (.int .i64 (c : Int)) ∧ Below w.heap.size w W' :=
 callsIn_wide.1 (leastl_in 3 (Nat.le_refl _) p c l0 hp w hT hw0)
theorem least_go (p : Nat → Bool) (c : Nat) (hp : elems p 256 = [c]) (w : World) (hT : TabAt 0 Lib.deBruijn64tab w) (hw0 : 0 < w.heap.size) :
  Calls Tryz.prog 152 #[.agg #[.int .u64 (word p 0), .int .u64 (word p 1), .int .u64 (word p 2), .int .u64 (word p 3)]] w fun e W' => e = .returned (.int .i64 (c : Int)) ∧ Below w.heap.size w W' :=
 leastl_go p c [] hp w hT hw0
end
section
open Go.RowKit
def LexRow (w : World) (v : Value) (L : List Lex) : Prop :=
 ∃ A cap, v = .slice A L.length cap ∧ ∀ k x, L[k]? = some x → ∃ g, A = some ⟨g, 0, none⟩ ∧
  w.cell? ⟨g, k * 8, none⟩ = some (.int .i64 x.kind) ∧ w.cell? ⟨g, k * 8 + 1, none⟩ = some (.int .i64 x.place) ∧
  w.cell? ⟨g, k * 8 + 2, none⟩ = some (.int .u64 (word x.set 0)) ∧ w.cell? ⟨g, k * 8 + 2 + 1, none⟩ = some (.int .u64 (word x.set 1)) ∧ w.cell? ⟨g, k * 8 + 2 + 2, none⟩ = some (.int .u64 (word x.set 2)) ∧ w.cell? ⟨g, k * 8 + 2 + 3, none⟩ = some (.int .u64 (word x.set 3)) ∧
  w.cell? ⟨g, k * 8 + 6, none⟩ = some (.int .i64 x.lo) ∧ w.cell? ⟨g, k * 8 + 7, none⟩ = some (.int .i64 x.hi)
theorem lexCells_at : ∀ (L : List Lex) (k : Nat) (x : Lex), L[k]? = some x → ∀ j, j < 8 → (lexCells L)[k * 8 + j]? = (lexCell x)[j]?
 | [], k, x, h, j, hj => by simp at h
 | y :: L, 0, x, h, j, hj => by
  have e : y = x := by simpa using h
  subst e
  have e2 : lexCells (y :: L) = lexCell y ++ lexCells L := by simp [lexCells]
  rw [e2, Nat.zero_mul, Nat.zero_add, List.getElem?_append_left (by simpa [lexCell] using hj)]
 | y :: L, k + 1, x, h, j, hj => by
  have e2 : lexCells (y :: L) = lexCell y ++ lexCells L := by simp [lexCells]
  have hl : (lexCell y).length = 8 := by simp [lexCell]
  rw [e2, List.getElem?_append_right (by omega), hl, show (k + 1) * 8 + j - 8 = k * 8 + j by omega]
  exact lexCells_at L k x (by simpa using h) j hj
theorem lexRow_of {w : World} {base : Nat} {v : Value} {L : List Lex} (h : w.ownsRow base 143 8 v L.length (lexCells L)) : LexRow w v L := by
 obtain ⟨A, cap, hv⟩ := own_slice h
 refine ⟨A, cap, hv, fun k x hx => ?_⟩
 have hpos : 0 < L.length := by
  have := (List.getElem?_eq_some_iff.mp hx).1
  omega
 obtain ⟨g, cap', hv', hbase, hg⟩ := own_form h hpos
 have hA : A = some ⟨g, 0, none⟩ := by rw [hv] at hv'; exact (Value.slice.inj hv').1
 have hc := h.cells (g := g) (by rw [hv']; rfl)
 have hat : ∀ j u, j < 8 → (lexCell x)[j]? = some u → w.cell? ⟨g, k * 8 + j, none⟩ = some u := fun j u hj hu => by
  have := hc (k * 8 + j) u ((lexCells_at L k x hx j hj).trans hu)
  have e : (⟨g, 0, none⟩ : Addr).add (k * 8 + j) = ⟨g, k * 8 + j, none⟩ := by
   rcases Nat.eq_zero_or_pos (k * 8 + j) with hz | hz
   ·rw [hz]; rfl
   ·have h1 : ¬ (k * 8 = 0 ∧ j = 0) := by omega
    simp [Addr.add, h1]
  exact e ▸ this
 exact ⟨g, hA, hat 0 _ (by decide) rfl, hat 1 _ (by decide) rfl, hat 2 _ (by decide) rfl, hat 3 _ (by decide) rfl, hat 4 _ (by decide) rfl, hat 5 _ (by decide) rfl, hat 6 _ (by decide) rfl, hat 7 _ (by decide) rfl⟩
def KeepP (P : Nat → Prop) (w1 w2 : World) : Prop := ∀ b' o', P b' → w2.cell? ⟨b', o', none⟩ = w1.cell? ⟨b', o', none⟩
theorem cell_heap {w w' : World} {b o : Nat} (h : w'.heap[b]? = w.heap[b]?) : w'.cell? ⟨b, o, none⟩ = w.cell? ⟨b, o, none⟩ := by
 simp only [World.cell?, h]
theorem KeepP.start (P : Nat → Prop) (w : World) : KeepP P w w.drew := fun _ _ _ => rfl
theorem KeepP.by {P : Nat → Prop} {w1 w2 w3 : World} (h : KeepP P w1 w2) (hk : ∀ b, P b → w3.heap[b]? = w2.heap[b]?) : KeepP P w1 w3 := fun b' o' h' => (cell_heap (hk b' h')).trans (h b' o' h')
theorem KeepP.alloc {P : Nat → Prop} {w1 w2 : World} (h : KeepP P w1 w2) (hP : ∀ b, P b → b < w2.heap.size) (o : Obj) : KeepP P w1 (w2.alloc o) := h.by fun b hb => Below.heap_alloc w2 o b (hP b hb)
theorem KeepP.grown {P : Nat → Prop} {w1 w2 w3 : World} {row : Option Nat} (h : KeepP P w1 w2) (hg : w2.grownBy w3 row) (hP : ∀ b, P b → b < w2.heap.size ∧ some b ≠ row) : KeepP P w1 w3 := h.by fun b hb => hg.block b (hP b hb).1 (hP b hb).2
theorem KeepP.set {P : Nat → Prop} {w1 w2 : World} (h : KeepP P w1 w2) {p : Addr} (hP : ∀ b, P b → b ≠ p.block) (u : Value) : KeepP P w1 (w2.setCell p u) := h.by fun b hb => Below.heap_setCell w2 p u b (hP b hb)
theorem two_of {Q : Nat → Prop} {p q : Nat} (hp : Q p) (hq : Q q) : ∀ b, b = p ∨ b = q → Q b := by
 rintro b (rfl | rfl)
 ·exact hp
 ·exact hq
end
section
theorem lexS_dot {bs : List Nat} {i : Nat} (h : byteAt bs i = 46) : lexS bs i = .ok (⟨1, i, dotSet, 0, 0⟩, i + 1) := by
 unfold lexS; rw [if_pos h]
theorem lexS_esc {bs : List Nat} {i c j : Nat} (h : byteAt bs i = 92) (he : escS bs i = some (c, j)) : lexS bs i = .ok (⟨1, i, among [c] 1, 0, 0⟩, j) := by
 unfold lexS; rw [if_neg (by omega), if_pos h, he]
theorem lexS_esc_no {bs : List Nat} {i : Nat} (h : byteAt bs i = 92) (he : escS bs i = none) : lexS bs i = .error (14, i) := by
 unfold lexS; rw [if_neg (by omega), if_pos h, he]
theorem lexS_class {bs : List Nat} {i : Nat} {p : Nat → Bool} {j : Nat} (h : byteAt bs i = 91) (he : readS bs i = .ok (p, j)) : lexS bs i = .ok (⟨1, i, p, 0, 0⟩, j) := by
 unfold lexS; rw [if_neg (by omega), if_neg (by omega), if_pos h, he]
theorem lexS_class_no {bs : List Nat} {i : Nat} {e : Wrong} (h : byteAt bs i = 91) (he : readS bs i = .error e) : lexS bs i = .error e := by
 unfold lexS; rw [if_neg (by omega), if_neg (by omega), if_pos h, he]
theorem lexS_rep {bs : List Nat} {i : Nat} (h : byteAt bs i = 123) : lexS bs i = repS bs i := by
 unfold lexS; rw [if_neg (by omega), if_neg (by omega), if_neg (by omega), if_pos h]
theorem lexS_form {bs : List Nat} {i : Nat} (h : byteAt bs i = 93 ∨ byteAt bs i = 125 ∨ byteAt bs i = 10) : lexS bs i = .error (3, i) := by
 unfold lexS; rw [if_neg (by omega), if_neg (by omega), if_neg (by omega), if_neg (by omega), if_pos h]
def Common (c : Nat) : Prop := c ≠ 46 ∧ c ≠ 92 ∧ c ≠ 91 ∧ c ≠ 123 ∧ c ≠ 93 ∧ c ≠ 125 ∧ c ≠ 10
theorem lexS_sign {bs : List Nat} {i : Nat} (h : Common (byteAt bs i)) (hk : signKind (byteAt bs i) ≠ 0) : lexS bs i = .ok (⟨signKind (byteAt bs i), i, noSet, 0, 0⟩, i + 1) := by
 obtain ⟨h1, h2, h3, h4, h5, h6, h7⟩ := h
 unfold lexS; rw [if_neg h1, if_neg h2, if_neg h3, if_neg h4, if_neg (by omega), if_pos hk]
theorem lexS_own {bs : List Nat} {i : Nat} (h : Common (byteAt bs i)) (hk : signKind (byteAt bs i) = 0) : lexS bs i = .ok (⟨1, i, among [byteAt bs i] 1, 0, 0⟩, i + 1) := by
 obtain ⟨h1, h2, h3, h4, h5, h6, h7⟩ := h
 unfold lexS; rw [if_neg h1, if_neg h2, if_neg h3, if_neg h4, if_neg (by omega), if_neg (by omega)]
end
section
open Go.RowKit
def readyS (L : List Lex) : Int × Int := if L.all rightS = false then (6, 0) else if h : 1024 < L.length then (4, (L[1024]).place) else (0, 0)
theorem readyS_bad {L : List Lex} {k : Nat} {x : Lex} (h : L[k]? = some x) (hx : rightS x = false) : readyS L = (6, 0) := by
 refine if_pos ?_
 cases ha : L.all rightS
 ·rfl
 ·have := List.all_eq_true.1 ha x (List.mem_of_getElem? h)
  rw [hx] at this
  cases this
theorem all_right {L : List Lex} (h : ∀ (k : Nat) x, L[k]? = some x → rightS x = true) : L.all rightS = true := List.all_eq_true.2 fun x hx => by
 obtain ⟨k, hk, rfl⟩ := List.mem_iff_getElem.1 hx
 exact h k _ (List.getElem?_eq_getElem hk)
theorem readyS_ok {L : List Lex} (h : L.all rightS = true) (hl : L.length ≤ 1024) : readyS L = (0, 0) := by
 unfold readyS
 rw [if_neg (by rw [h]; decide), dif_neg (by omega)]
theorem readyS_long {L : List Lex} {x : Lex} (h : L.all rightS = true) (hx : L[1024]? = some x) : readyS L = (4, x.place) := by
 obtain ⟨hl, rfl⟩ := List.getElem?_eq_some_iff.1 hx
 unfold readyS
 rw [if_neg (by rw [h]; decide), dif_pos hl]
theorem ret_badv {fn : Func} {t : Tmp} (h : fn.results = #[.cell t 77]) {tmps : Array Value} {w : World} {g : Nat} {a b : Value} (hp : tmps.getD t undef = .pointer (some ⟨g, 0, none⟩)) (hb : Blk w g 77 #[a, b]) :
  (results fn tmps).run Tryz.prog w = .ok (.agg #[a, b]) w :=
 results_cell_row h tmps w g _ _ _ _ hp hb Tryz.underlying77 rfl (by kernel_rfl)
theorem ready_go (A : Option Addr) (cap : Nat) (L : List Lex) (w : World) (hA : LexsAt w w.heap.size A L) (hlen : L.length ≤ 140737488355328) :
  Calls Tryz.prog 158 #[.slice A L.length cap] w fun e w' => e = .returned (.agg #[.int .i64 (readyS L).1, .int .i64 (readyS L).2]) ∧ Below w.heap.size w w' := by
 have HA := Lib.hid hA
 have hb0 : Below w.heap.size w (w.alloc (.cells #[.int .i64 0, .int .i64 0] 77)) := (Below.refl _ _).alloc (Nat.le_refl _) _
 have HB0 := Lib.hid hb0
 have HZ0 := Lib.hid (Blk.new w 77 #[.int .i64 0, .int .i64 0])
 clear hA hb0
 go_enter Tryz.func158, Tryz.ntmps158
 go_wp2
 go_loopw [7] (fun i wr => ∃ k : Nat, i = .int .i64 (k : Int) ∧ k ≤ L.length ∧ Hid (Below w.heap.size w wr) ∧ Hid (Blk wr w.heap.size 77 #[.int .i64 0, .int .i64 0]) ∧ Hid (∀ j x, j < k → L[j]? = some x → rightS x = true)) (fun i _ => L.length - (intOf i).toNat)
 case atStart => exact ⟨0, rfl, Nat.zero_le _, HB0, HZ0, Lib.hid (fun j x hj => by omega)⟩
 case round =>
  clear HB0 HZ0
  obtain ⟨k, rfl, hk, HB, HZ, HR⟩ := hrel
  by_cases hlt : k < L.length
  ·obtain ⟨x, hx⟩ : ∃ x, L[k]? = some x := ⟨_, List.getElem?_eq_getElem hlt⟩
   obtain ⟨b, o, rfl, hbl, hc⟩ := HA.out (by omega)
   have hbl' : b < wr.heap.size := Nat.lt_of_lt_of_le hbl HB.out.size
   obtain ⟨c0, c1, c2, c3, c4, c5, c6, c7⟩ := ((HA.out.below HB.out) (by omega)).elim fun b' h => h.elim fun o' h => by
    obtain ⟨e, _, h⟩ := h
    obtain ⟨rfl, rfl⟩ : b = b' ∧ o = o' := by simpa using e
    exact h k x hx
   clear hc
   have Hx := Lib.hid hx
   have hdl : (k : Int) < (L.length : Int) := by omega
   have HZx := Lib.hid (HZ.out.alloc (.cells #[.int .i64 x.kind, .int .i64 x.place, .int .u64 (word x.set 0), .int .u64 (word x.set 1), .int .u64 (word x.set 2), .int .u64 (word x.set 3), .int .i64 x.lo, .int .i64 x.hi] 143))
   have HBx := Lib.hid (HB.out.alloc HB.out.size (.cells #[.int .i64 x.kind, .int .i64 x.place, .int .u64 (word x.set 0), .int .u64 (word x.set 1), .int .u64 (word x.set 2), .int .u64 (word x.set 3), .int .i64 x.lo, .int .i64 x.hi] 143))
   clear hx
   go_wp2_with fail
   refine (right_go _ _ _ _ _ _ _ _ _).mono ?_
   rintro e w1 ⟨rfl, hb1⟩
   have HZ1 := Lib.hid (HZx.out.below hb1 HZx.out.lt)
   have HB1 := Lib.hid (HBx.out.trans (hb1.mono HBx.out.size))
   obtain ⟨b0, b1, f0, f1⟩ := HZ1.out.c2
   clear hb1 c0 c1 c2 c3 c4 c5 c6 c7
   cases hr : rightS x
   ·have hr' := hr
    unfold rightS at hr'
    rw [hr']
    have HV := Lib.hid (readyS_bad Hx.out hr)
    clear hr hr'
    go_wp2
    go_light
    rw [HV.out]
    exact bodyPost_ret (ret_badv Tryz.results158 rfl HZ1.out.set2) rfl ⟨rfl, below_set2 HB1.out (Nat.le_refl _) _ _⟩
   ·have hr' := hr
    unfold rightS at hr'
    rw [hr']
    have Hr := Lib.hid hr
    clear hr hr'
    go_wp2
    go_roundw
    case rel => exact ⟨k + 1, by go_num, by omega, HB1, HZ1, Lib.hid (fun j y hj hy => by
     rcases Nat.lt_or_ge j k with h | h
     ·exact HR.out j y h hy
     ·obtain rfl : j = k := by omega
      have := Hx.out.symm.trans hy
      obtain rfl : x = y := by simpa using this
      exact Hr.out)⟩
    case measure => simp [intOf]; omega
  ·have hdl : ¬ (k : Int) < (L.length : Int) := by omega
   have Hall := Lib.hid (all_right (L := L) (fun j x hx => HR.out j x (by have := (List.getElem?_eq_some_iff.1 hx).1; omega) hx))
   obtain ⟨b0, b1, f0, f1⟩ := HZ.out.c2
   by_cases h1024 : L.length ≤ 1024
   ·have HV := Lib.hid (readyS_ok Hall.out h1024)
    have hd : ¬ (1024 : Int) < (L.length : Int) := by omega
    clear h1024
    go_wp2
    go_light
    rw [HV.out]
    exact bodyPost_ret (ret_badv Tryz.results158 rfl HZ.out.set2) rfl ⟨rfl, below_set2 HB.out (Nat.le_refl _) _ _⟩
   ·obtain ⟨x, hx⟩ : ∃ x, L[1024]? = some x := ⟨_, List.getElem?_eq_getElem (by omega)⟩
    have HV := Lib.hid (readyS_long Hall.out hx)
    have hd : (1024 : Int) < (L.length : Int) := by omega
    obtain ⟨b, o, rfl, hbl, hc⟩ := HA.out (by omega)
    obtain ⟨_, c1, _⟩ := ((HA.out.below HB.out) (by omega)).elim fun b' h => h.elim fun o' h => by
     obtain ⟨e, _, h⟩ := h
     obtain ⟨rfl, rfl⟩ : b = b' ∧ o = o' := by simpa using e
     exact h 1024 x hx
    have c1' : wr.cell? ⟨b, o + 8193, none⟩ = some (.int .i64 x.place) := c1
    clear h1024 hc hx c1
    go_wp2
    go_light
    rw [HV.out]
    exact bodyPost_ret (ret_badv Tryz.results158 rfl HZ.out.set2) rfl ⟨rfl, below_set2 HB.out (Nat.le_refl _) _ _⟩
theorem ret_tree {fn : Func} {t2 t3 : Tmp} (h : fn.results = #[.cell t2 28, .cell t3 77]) {tmps : Array Value} {w : World} {g g' : Nat} {a0 a1 a2 a3 a4 a5 a6 a7 x y : Value}
  (hp : tmps.getD t2 undef = .pointer (some ⟨g, 0, none⟩)) (hp' : tmps.getD t3 undef = .pointer (some ⟨g', 0, none⟩)) (hb : Blk w g 28 #[a0, a1, a2, a3, a4, a5, a6, a7]) (hb' : Blk w g' 77 #[x, y]) :
  (results fn tmps).run Tryz.prog w = .ok (.tuple #[.agg #[a0, a1, a2, a3, a4, a5, a6, a7], .agg #[x, y]]) w := by
 have h1 := run_loadVar_row (P := Tryz.prog) w g 28 28 #[a0, a1, a2, a3, a4, a5, a6, a7] (0, 0) _ hb Tryz.underlying28 rfl (by kernel_rfl)
 have h2 := run_loadVar_row (P := Tryz.prog) w g' 77 77 #[x, y] (0, 0) _ hb' Tryz.underlying77 rfl (by kernel_rfl)
 simp only [results, h]
 simp only [Array.getD_eq_getD_getElem?] at hp hp'
 simp [Sem.run_bind, hp, hp', asAddr, h1, h2, Result.andThen]
def TreeOut (r : Except Wrong Nd) (w : World) (e : Ending) (w' : World) : Prop :=
 match r with
 | .ok x => ∃ B cap, e = .returned (.tuple #[ndV x B cap, .agg #[.int .i64 0, .int .i64 0]]) ∧ Below w.heap.size w w' ∧ x.kids.len ≤ cap ∧ TreesAt w' (fun b => w.heap.size ≤ b) x.kids B
 | .error (k, q) => e = .returned (.tuple #[zeroN, .agg #[.int .i64 k, .int .i64 q]]) ∧ Below w.heap.size w w'
theorem lexemesS_bad {L : List Lex} (h : (readyS L).1 ≠ 0) : lexemesS L = .error (readyS L) := by
 unfold readyS at h ⊢
 unfold lexemesS
 by_cases h1 : L.all rightS = false
 ·rw [if_pos h1, if_pos h1]
 ·rw [if_neg h1, if_neg h1]
  by_cases h2 : 1024 < L.length
  ·rw [dif_pos h2, dif_pos h2]
  ·rw [if_neg h1, dif_neg h2] at h
   exact absurd rfl h
theorem readyS_zero {L : List Lex} (h : (readyS L).1 = 0) : readyS L = (0, 0) ∧ L.all rightS = true ∧ L.length ≤ 1024 := by
 unfold readyS at h ⊢
 by_cases h1 : L.all rightS = false
 ·rw [if_pos h1] at h; cases h
 ·by_cases h2 : 1024 < L.length
  ·rw [if_neg h1, dif_pos h2] at h; cases h
  ·rw [if_neg h1, dif_neg h2]
   exact ⟨rfl, by simpa using h1, by omega⟩
theorem lexemesS_ok {L : List Lex} (h : L.all rightS = true) (hl : L.length ≤ 1024) : lexemesS L = match altG (3 * L.length + 3) [] [] L with
  | .error e => .error e
  | .ok (x, _) => .ok x := by
 unfold lexemesS
 rw [if_neg (by rw [h]; decide), dif_neg (by omega)]
 rfl
theorem lexemes_go (A : Option Addr) (cap : Nat) (L : List Lex) (w : World) (hA : LexsAt w w.heap.size A L) (hlen : L.length ≤ 140737488355328) (hcap : L.length ≤ cap) :
  Calls Tryz.prog 123 #[.slice A L.length cap] w (TreeOut (lexemesS L) w) := by
 have hmf : ∀ (fn : Fn) (first cap : Array Value) (w : World), (Instr.makeFunc fn first cap).run Tryz.prog w = .ok (.func fn first cap) w := fun _ _ _ _ => rfl
 have hb2 : Below w.heap.size w ((w.alloc (.cells #[.int .i64 0, .int .u64 0, .int .u64 0, .int .u64 0, .int .u64 0, .slice none 0 0, .int .i64 0, .int .i64 0] 28)).alloc (.cells #[.int .i64 0, .int .i64 0] 77)) := ((Below.refl _ _).alloc (Nat.le_refl _) _).alloc (by simp) _
 have HB2 := Lib.hid hb2
 have HG2 := Lib.hid (show Blk ((w.alloc (.cells #[.int .i64 0, .int .u64 0, .int .u64 0, .int .u64 0, .int .u64 0, .slice none 0 0, .int .i64 0, .int .i64 0] 28)).alloc (.cells #[.int .i64 0, .int .i64 0] 77)) w.heap.size 28 _ from (Blk.new w 28 #[.int .i64 0, .int .u64 0, .int .u64 0, .int .u64 0, .int .u64 0, .slice none 0 0, .int .i64 0, .int .i64 0]).alloc _)
 have HH2 := Lib.hid (show Blk ((w.alloc (.cells #[.int .i64 0, .int .u64 0, .int .u64 0, .int .u64 0, .int .u64 0, .slice none 0 0, .int .i64 0, .int .i64 0] 28)).alloc (.cells #[.int .i64 0, .int .i64 0] 77)) (w.heap.size + 1) 77 #[.int .i64 0, .int .i64 0] from Blk.new_at (by simp))
 have HA := Lib.hid hA
 have hz2 : ((w.alloc (.cells #[.int .i64 0, .int .u64 0, .int .u64 0, .int .u64 0, .int .u64 0, .slice none 0 0, .int .i64 0, .int .i64 0] 28)).alloc (.cells #[.int .i64 0, .int .i64 0] 77)).heap.size = w.heap.size + 2 := by simp
 have HRd := Lib.hid (ready_go A cap L _ ((hA.below hb2).more (by omega)) hlen)
 clear hb2 hA hz2
 go_enter_defers Tryz.func123, Tryz.ntmps123
 go_wp2_with fail
 refine HRd.out.mono ?_
 rintro e w3 ⟨rfl, hb3⟩
 have HB3 := Lib.hid (HB2.out.trans (hb3.mono HB2.out.size))
 have hG3 := HG2.out.below hb3 HG2.out.lt
 have hH3 := HH2.out.below hb3 HH2.out.lt
 have HG3 := Lib.hid hG3
 have HH3 := Lib.hid hH3
 have hne1 : w.heap.size ≠ w3.heap.size := by have := hG3.lt; omega
 have hne2 : w.heap.size + 1 ≠ w3.heap.size := by have := hH3.lt; omega
 have hlt1 : w.heap.size < w3.heap.size := hG3.lt
 have hlt2 : w.heap.size + 1 < w3.heap.size := hH3.lt
 by_cases h0 : (readyS L).1 = 0
 ·obtain ⟨h1, h2, h3⟩ := readyS_zero h0
  have HV := Lib.hid (lexemesS_ok h2 h3)
  rw [h1]
  have hb5 : Below w3.heap.size w3 ((w3.alloc (.cells #[.int .i64 0, .int .i64 0] 77)).alloc (.cells #[.slice A L.length cap, .slice none 0 0] 179)) := ((Below.refl _ _).alloc (Nat.le_refl _) _).alloc (by simp) _
  have hP5 : PAt ((w3.alloc (.cells #[.int .i64 0, .int .i64 0] 77)).alloc (.cells #[.slice A L.length cap, .slice none 0 0] 179)) (w3.heap.size + 1) (.slice none 0 0) L 0 :=
   ⟨A, cap, [], Blk.new_at (by simp), hcap, (HA.out.below (HB3.out.trans (hb5.mono HB3.out.size))).more (by omega), World.ownsRow_nil _ _ _ _⟩
  have HC := Lib.hid ((reads_go (3 * L.length + 3)).1 (w3.heap.size + 1) [] L _ (.slice none 0 0) hP5 (by omega) (by decide) (by omega))
  have HB5 := Lib.hid (HB3.out.trans (hb5.mono HB3.out.size))
  have HG5 := Lib.hid (hG3.below hb5 hlt1)
  have HH5 := Lib.hid (hH3.below hb5 hlt2)
  clear hb3 hG3 hH3 HRd HB2 HG2 HH2 h0 h1 h2 hb5 hP5 HG3 HH3
  go_wp2_with fail
  refine HC.out.mono ?_
  cases hx : altG (3 * L.length + 3) [] [] L with
  | error x =>
   obtain ⟨k, q⟩ := x
   rw [hx] at HV
   rintro e w6 ⟨rfl, hb6⟩
   have HV := Lib.hid (show lexemesS L = .error (k, q) from HV.out)
   have HB6 := Lib.hid (HB5.out.trans (hb6.mono (by omega)))
   have hG6 := HG5.out.below hb6 (by omega)
   have hH6 := HH5.out.below hb6 (by omega)
   dsimp only
   refine leaves_cons (f := 159) (args := #[.pointer (some ⟨w.heap.size, 0, none⟩), .pointer (some ⟨w.heap.size + 1, 0, none⟩)]) (by simp) (by simp [go_sem]) ?_
   refine (catch_bad w.heap.size (w.heap.size + 1) k q [] w6 hG6 hH6 (by omega)).mono ?_
   rintro e u' w7 ⟨rfl, rfl, hG7, hH7, hb7⟩
   dsimp only
   change Leaves Tryz.prog _ _ _ [] FrameMode.returning w7
   rw [HV.out]
   exact ⟨_, ret_tree Tryz.results123 rfl rfl hG7 hH7, rfl, HB6.out.trans (hb7 w.heap.size (Nat.le_refl _) (by omega))⟩
  | ok x =>
   obtain ⟨x, R⟩ := x
   rw [hx] at HV
   rintro e w6 ⟨v6, B, cap6, rfl, hP6, hS6, hc6, ht6⟩
   have HV := Lib.hid (show lexemesS L = .ok x from HV.out)
   have HB6 := Lib.hid (HB5.out.trans (hS6.1.mono (by omega)))
   have hG6 := HG5.out.below hS6.1 (by omega)
   have hH6 := HH5.out.below hS6.1 (by omega)
   have HT6 := Lib.hid (ht6.weak (Q := fun b => w3.heap.size + 2 ≤ b) (fun b hb _ => by have := hb.1; simp at this; omega))
   have y0 : w6.cell? ⟨w.heap.size, 0, none⟩ = some (.int .i64 0) := hG6.cell 0
   have y1 : w6.cell? ⟨w.heap.size, 1, none⟩ = some (.int .u64 0) := hG6.cell 1
   have y2 : w6.cell? ⟨w.heap.size, 2, none⟩ = some (.int .u64 0) := hG6.cell 2
   have y3 : w6.cell? ⟨w.heap.size, 3, none⟩ = some (.int .u64 0) := hG6.cell 3
   have y4 : w6.cell? ⟨w.heap.size, 4, none⟩ = some (.int .u64 0) := hG6.cell 4
   have y5 : w6.cell? ⟨w.heap.size, 5, none⟩ = some (.slice none 0 0) := hG6.cell 5
   have y6 : w6.cell? ⟨w.heap.size, 6, none⟩ = some (.int .i64 0) := hG6.cell 6
   have y7 : w6.cell? ⟨w.heap.size, 7, none⟩ = some (.int .i64 0) := hG6.cell 7
   have z0 := hG6.frozen 0
   have z1 := hG6.frozen 1
   have z2 := hG6.frozen 2
   have z3 := hG6.frozen 3
   have z4 := hG6.frozen 4
   have z5 := hG6.frozen 5
   have z6 := hG6.frozen 6
   have z7 := hG6.frozen 7
   obtain ⟨b0, b1, f0, f1⟩ := hH6.c2
   have HG6 := Lib.hid hG6
   have HH6 := Lib.hid hH6
   have hsz : w.heap.size + 1 ≤ w3.heap.size + 2 := by omega
   clear hP6 hS6 ht6 hG6 hH6 HC hx
   unfold ndV
   dsimp only
   go_wp2
   go_light
   have hg1 := only_put8 w6 w.heap.size (.int .i64 x.kind) (.int .u64 (word x.set.testBit 0)) (.int .u64 (word x.set.testBit 1)) (.int .u64 (word x.set.testBit 2)) (.int .u64 (word x.set.testBit 3)) (.slice B x.kids.len cap6) (.int .i64 x.lo) (.int .i64 x.hi)
   have ht7 := TreesAt.keep (Q := fun b => w3.heap.size + 2 ≤ b) (fun b o (hb : w3.heap.size + 2 ≤ b) hl => World.cell?_of_block (hg1.block b hl (by simp; omega))) (fun b hb _ => hb) HT6.out
   refine leaves_cons (f := 159) (args := #[.pointer (some ⟨w.heap.size, 0, none⟩), .pointer (some ⟨w.heap.size + 1, 0, none⟩)]) (by simp) (by simp [go_sem]) ?_
   refine (catch_idle w.heap.size (w.heap.size + 1) _).mono ?_
   rintro e u' w7 ⟨rfl, rfl, hw7⟩
   dsimp only
   change Leaves Tryz.prog _ _ _ [] FrameMode.returning w7
   rw [HV.out]
   have hg2 := only_set (only_set (only_refl ((((((((w6.setCell ⟨w.heap.size, 0, none⟩ (.int .i64 x.kind)).setCell ⟨w.heap.size, 1, none⟩ (.int .u64 (word x.set.testBit 0))).setCell ⟨w.heap.size, 2, none⟩ (.int .u64 (word x.set.testBit 1))).setCell ⟨w.heap.size, 3, none⟩ (.int .u64 (word x.set.testBit 2))).setCell ⟨w.heap.size, 4, none⟩ (.int .u64 (word x.set.testBit 3))).setCell ⟨w.heap.size, 5, none⟩ (.slice B x.kids.len cap6)).setCell ⟨w.heap.size, 6, none⟩ (.int .i64 x.lo)).setCell ⟨w.heap.size, 7, none⟩ (.int .i64 x.hi)) (some (w.heap.size + 1))) 0 (.int .i64 0)) 1 (.int .i64 0)
   have ht8 := TreesAt.keep (Q := fun b => w.heap.size ≤ b) (fun b o (hb : w3.heap.size + 2 ≤ b) hl => World.cell?_of_block (hg2.block b hl (by simp; omega))) (fun b (hb : w3.heap.size + 2 ≤ b) _ => by omega) ht7
   have hG7 := (HG6.out.put8 (.int .i64 x.kind) (.int .u64 (word x.set.testBit 0)) (.int .u64 (word x.set.testBit 1)) (.int .u64 (word x.set.testBit 2)) (.int .u64 (word x.set.testBit 3)) (.slice B x.kids.len cap6) (.int .i64 x.lo) (.int .i64 x.hi)).far2 (g' := w.heap.size + 1) (by omega) (.int .i64 0) (.int .i64 0)
   have hH7 := (HH6.out.past8 (g' := w.heap.size) (by omega) (.int .i64 x.kind) (.int .u64 (word x.set.testBit 0)) (.int .u64 (word x.set.testBit 1)) (.int .u64 (word x.set.testBit 2)) (.int .u64 (word x.set.testBit 3)) (.slice B x.kids.len cap6) (.int .i64 x.lo) (.int .i64 x.hi)).set2 (a' := .int .i64 0) (b' := .int .i64 0)
   have hb7 := below_set2 (below_put8 HB6.out (Nat.le_refl _) (.int .i64 x.kind) (.int .u64 (word x.set.testBit 0)) (.int .u64 (word x.set.testBit 1)) (.int .u64 (word x.set.testBit 2)) (.int .u64 (word x.set.testBit 3)) (.slice B x.kids.len cap6) (.int .i64 x.lo) (.int .i64 x.hi)) (Nat.le_succ w.heap.size) (.int .i64 0) (.int .i64 0)
   rw [← hw7] at ht8 hG7 hH7 hb7
   exact ⟨_, ret_tree Tryz.results123 rfl rfl hG7 hH7, B, cap6, rfl, hb7, hc6, ht8⟩
 ·have hd : ((readyS L).1 != 0) = true := by simpa using h0
  have HV := Lib.hid (lexemesS_bad h0)
  have y0 : w3.cell? ⟨w.heap.size, 0, none⟩ = some (.int .i64 0) := hG3.cell 0
  have y1 : w3.cell? ⟨w.heap.size, 1, none⟩ = some (.int .u64 0) := hG3.cell 1
  have y2 : w3.cell? ⟨w.heap.size, 2, none⟩ = some (.int .u64 0) := hG3.cell 2
  have y3 : w3.cell? ⟨w.heap.size, 3, none⟩ = some (.int .u64 0) := hG3.cell 3
  have y4 : w3.cell? ⟨w.heap.size, 4, none⟩ = some (.int .u64 0) := hG3.cell 4
  have y5 : w3.cell? ⟨w.heap.size, 5, none⟩ = some (.slice none 0 0) := hG3.cell 5
  have y6 : w3.cell? ⟨w.heap.size, 6, none⟩ = some (.int .i64 0) := hG3.cell 6
  have y7 : w3.cell? ⟨w.heap.size, 7, none⟩ = some (.int .i64 0) := hG3.cell 7
  have z0 := hG3.frozen 0
  have z1 := hG3.frozen 1
  have z2 := hG3.frozen 2
  have z3 := hG3.frozen 3
  have z4 := hG3.frozen 4
  have z5 := hG3.frozen 5
  have z6 := hG3.frozen 6
  have z7 := hG3.frozen 7
  obtain ⟨b0, b1, f0, f1⟩ := hH3.c2
  clear hb3 hG3 hH3 HRd HB2 HG2 HH2 h0
  generalize readyS L = kq at *
  obtain ⟨k, q⟩ := kq
  dsimp only at hd ⊢
  go_wp2
  go_region
  all_goals go_wp2
  all_goals go_light
  rw [HV.out]
  exact ⟨_, ret_tree Tryz.results123 rfl rfl (((HG3.out.put8 _ _ _ _ _ _ _ _).far2 (by omega) _ _).alloc _).drew (((HH3.out.past8 (by omega) _ _ _ _ _ _ _ _).set2).alloc _).drew, rfl, ((below_set2 (below_put8 HB3.out (Nat.le_refl _) _ _ _ _ _ _ _ _) (by omega) _ _).alloc (by have := HB3.out.size; simpa [World.setCell] using this) _).drew⟩
def NSameC (n : Nat) : Prop := ∀ (x : Nd) (P P' : Nat → Prop) (B B' : Option Addr) (cap cap' : Nat) (w : World), x.size ≤ n → x.size ≤ 4611686018427387903 → TreesAt w P x.kids B → TreesAt w P' x.kids B' →
 Calls Tryz.prog 25 #[ndV x B cap, ndV x B' cap'] w fun e w' => e = .returned (.bool true) ∧ Below w.heap.size w w'
theorem nsame_step {n : Nat} (ih : NSameC n) : NSameC (n + 1) := by
 intro x P P' B B' cap cap' w hsz hlen ht ht'
 have hb2 : Below w.heap.size w ((w.alloc (.cells (ndA x B cap) 28)).alloc (.cells (ndA x B' cap') 28)) := ((Below.refl _ _).alloc (Nat.le_refl _) _).alloc (by simp) _
 have hX2 : Blk ((w.alloc (.cells (ndA x B cap) 28)).alloc (.cells (ndA x B' cap') 28)) w.heap.size 28 (ndA x B cap) := (Blk.new _ _ _).alloc _
 have hY2 : Blk ((w.alloc (.cells (ndA x B cap) 28)).alloc (.cells (ndA x B' cap') 28)) (w.heap.size + 1) 28 (ndA x B' cap') := Blk.new_at (by simp)
 have H0 := Lib.hid (show Blk _ _ _ _ ∧ Blk _ _ _ _ ∧ Below _ _ _ from ⟨hX2, hY2, hb2⟩)
 have HT := Lib.hid ht
 have HT' := Lib.hid ht'
 have hlk : x.kids.len ≤ 4611686018427387902 := by have := Trees.len_size x.kids; unfold Nd.size at hlen; omega
 have hk : (x.kind != x.kind) = false := by simp
 have hl : (x.lo != x.lo) = false := by simp
 have hh : (x.hi != x.hi) = false := by simp
 have hn : ((x.kids.len : Int) != (x.kids.len : Int)) = false := by simp
 have eb0 : (((word x.set.testBit 0 : Nat) : Int) == ((word x.set.testBit 0 : Nat) : Int)) = true := by simp
 have eb1 : (((word x.set.testBit 1 : Nat) : Int) == ((word x.set.testBit 1 : Nat) : Int)) = true := by simp
 have eb2 : (((word x.set.testBit 2 : Nat) : Int) == ((word x.set.testBit 2 : Nat) : Int)) = true := by simp
 have eb3 : (((word x.set.testBit 3 : Nat) : Int) == ((word x.set.testBit 3 : Nat) : Int)) = true := by simp
 clear ht ht' hb2 hX2 hY2
 unfold ndV
 go_enter Tryz.func25, Tryz.ntmps25
 go_wp2
 go_loopw [5] (fun i wr => ∃ k : Nat, i = .int .i64 (k : Int) ∧ k ≤ x.kids.len ∧ Hid (Blk wr w.heap.size 28 (ndA x B cap) ∧ Blk wr (w.heap.size + 1) 28 (ndA x B' cap') ∧ Below w.heap.size w wr)) (fun i _ => x.kids.len - (intOf i).toNat)
 case atStart => exact ⟨0, rfl, Nat.zero_le _, H0⟩
 case round =>
  clear H0 hk hl hh hn eb0 eb1 eb2 eb3
  obtain ⟨k, rfl, hk, HH⟩ := hrel
  have hX := HH.out.1
  have hY := HH.out.2.1
  have px0 : wr.cell? ⟨w.heap.size, 0, none⟩ = some (.int .i64 x.kind) := hX.cell 0
  have px1 : wr.cell? ⟨w.heap.size, 1, none⟩ = some (.int .u64 (word x.set.testBit 0)) := hX.cell 1
  have px2 : wr.cell? ⟨w.heap.size, 2, none⟩ = some (.int .u64 (word x.set.testBit 1)) := hX.cell 2
  have px3 : wr.cell? ⟨w.heap.size, 3, none⟩ = some (.int .u64 (word x.set.testBit 2)) := hX.cell 3
  have px4 : wr.cell? ⟨w.heap.size, 4, none⟩ = some (.int .u64 (word x.set.testBit 3)) := hX.cell 4
  have px5 : wr.cell? ⟨w.heap.size, 5, none⟩ = some (.slice B x.kids.len cap) := hX.cell 5
  have px6 : wr.cell? ⟨w.heap.size, 6, none⟩ = some (.int .i64 x.lo) := hX.cell 6
  have px7 : wr.cell? ⟨w.heap.size, 7, none⟩ = some (.int .i64 x.hi) := hX.cell 7
  have qx0 : wr.cell? ⟨w.heap.size + 1, 0, none⟩ = some (.int .i64 x.kind) := hY.cell 0
  have qx1 : wr.cell? ⟨w.heap.size + 1, 1, none⟩ = some (.int .u64 (word x.set.testBit 0)) := hY.cell 1
  have qx2 : wr.cell? ⟨w.heap.size + 1, 2, none⟩ = some (.int .u64 (word x.set.testBit 1)) := hY.cell 2
  have qx3 : wr.cell? ⟨w.heap.size + 1, 3, none⟩ = some (.int .u64 (word x.set.testBit 2)) := hY.cell 3
  have qx4 : wr.cell? ⟨w.heap.size + 1, 4, none⟩ = some (.int .u64 (word x.set.testBit 3)) := hY.cell 4
  have qx5 : wr.cell? ⟨w.heap.size + 1, 5, none⟩ = some (.slice B' x.kids.len cap') := hY.cell 5
  have qx6 : wr.cell? ⟨w.heap.size + 1, 6, none⟩ = some (.int .i64 x.lo) := hY.cell 6
  have qx7 : wr.cell? ⟨w.heap.size + 1, 7, none⟩ = some (.int .i64 x.hi) := hY.cell 7
  clear hX hY
  by_cases hlt : k < x.kids.len
  ·obtain ⟨z, hz⟩ : ∃ z, x.kids.list[k]? = some z := ⟨_, List.getElem?_eq_getElem (by rw [Trees.len_list]; exact hlt)⟩
   have hzs := Trees.size_get x.kids k z hz
   have hzl := Trees.len_size z.kids
   obtain ⟨b, o, C, capc, rfl, _, _, ⟨c0, c1, c2, c3, c4, c5, c6, c7⟩, hkz⟩ := (HT.out.keep (Q := P) (fun b o _ hl => HH.out.2.2.cell (p := ⟨b, o, none⟩) hl) (fun _ h _ => h)).get hz
   obtain ⟨b', o', C', capc', rfl, _, _, ⟨d0, d1, d2, d3, d4, d5, d6, d7⟩, hkz'⟩ := (HT'.out.keep (Q := P') (fun b o _ hl => HH.out.2.2.cell (p := ⟨b, o, none⟩) hl) (fun _ h _ => h)).get hz
   have hdl : (k : Int) < (x.kids.len : Int) := by omega
   have hzz : z.size ≤ n ∧ z.size ≤ 4611686018427387903 := by unfold Nd.size at hsz hlen; omega
   have HI := Lib.hid (ih z P P' C C' capc capc' wr.drew hzz.1 hzz.2 (hkz.below (Below.refl _ _).drew) (hkz'.below (Below.refl _ _).drew))
   have hbl := World.block_lt_of_cell? wr _ c0
   have hbl' := World.block_lt_of_cell? wr _ d0
   clear hz hzs hzl hkz hkz' hsz hlen hzz
   go_wp2
   go_still_tail 10, (by kernel_rfl)
   change wpList _ _ _ _ _ wr.drew
   clear c0 c1 c2 c3 c4 c5 c6 c7 d0 d1 d2 d3 d4 d5 d6 d7
   unfold ndV at HI
   go_wp2_with fail
   refine HI.out.mono ?_
   rintro e w3 ⟨rfl, hb3⟩
   have HH3 := Lib.hid (show Blk _ _ _ _ ∧ Blk _ _ _ _ ∧ Below _ _ _ from ⟨HH.out.1.drew.below hb3 HH.out.1.drew.lt, HH.out.2.1.drew.below hb3 HH.out.2.1.drew.lt, HH.out.2.2.drew.trans (hb3.mono HH.out.2.2.drew.size)⟩)
   clear hb3 HI
   go_wp2
   go_roundw
   case rel => exact ⟨k + 1, by go_num, by omega, HH3⟩
   case measure => simp [intOf]; omega
  ·have hdl : ¬ (k : Int) < (x.kids.len : Int) := by omega
   go_wp2
   go_light
   go_ret
   exact ⟨rfl, HH.out.2.2⟩
theorem nsame_go (x : Nd) (P P' : Nat → Prop) (B B' : Option Addr) (cap cap' : Nat) (w : World) (hlen : x.size ≤ 4611686018427387903) (ht : TreesAt w P x.kids B) (ht' : TreesAt w P' x.kids B') :
  Calls Tryz.prog 25 #[ndV x B cap, ndV x B' cap'] w fun e w' => e = .returned (.bool true) ∧ Below w.heap.size w w' := by
 have h : ∀ n, NSameC n := by
  intro n
  induction n with
  | zero => exact fun x _ _ _ _ _ _ _ h => by unfold Nd.size at h; omega
  | succ n ih => exact nsame_step ih
 exact h x.size x P P' B B' cap cap' w (Nat.le_refl _) hlen ht ht'
theorem word_noSet (i : Nat) : word noSet i = 0 := word_none i
theorem put_no (S b o len cap : Nat) (i : Int) (v : Value) (k q : Int) (N : Nat) (L : List Lex) (kind place lo hi next : Int) (W : World) (hS : Spl W S b o len cap i v k q) (hrow : W.ownsRow N 143 8 v L.length (lexCells L)) (hN : N ≤ S) (hL : L.length ≤ 100000) :
  Calls Tryz.prog 231 #[.pointer (some ⟨S, 0, none⟩), .agg #[.int .i64 kind, .int .i64 place, .int .u64 0, .int .u64 0, .int .u64 0, .int .u64 0, .int .i64 lo, .int .i64 hi], .int .i64 next] W (Took S b o len cap N L ⟨kind, i, noSet, lo, hi⟩ next k q W) := by
 have h := put_go S b o len cap i v k q N L ⟨kind, place, noSet, lo, hi⟩ next W hS hrow hN hL
 simp only [word_noSet] at h
 exact h
def Quiet (v : Value) (W : World) (e : Ending) (W' : World) : Prop := e = .returned v ∧ ∃ n, W' = W.drewN n
theorem sign_no (S b o cap : Nat) (bs : List Nat) (i : Nat) (v : Value) (N : Nat) (W : World) (hS : Spl W S b o bs.length cap i v 0 0) (hA : BytesAt W N (some ⟨b, o, none⟩) bs) (h0 : i < bs.length) (hk : signKind (byteAt bs i) = 0) :
  Calls Tryz.prog 198 #[.pointer (some ⟨S, 0, none⟩)] W (Quiet (.bool false) W) := by
 obtain ⟨s0, s1, s2, s3, s4, f0, f1, f2, f3, f4⟩ := hS.cells
 have hcell := bytesAt_cells hA i h0
 have hl := hA.2.1
 have hc256 := byteAt_lt hA.1 i
 generalize byteAt bs i = c at *
 have hne : c ≠ 40 ∧ c ≠ 41 ∧ c ≠ 124 ∧ c ≠ 42 ∧ c ≠ 43 ∧ c ≠ 63 := by
  unfold signKind at hk
  refine ⟨?_, ?_, ?_, ?_, ?_, ?_⟩ <;> (rintro rfl; revert hk; decide)
 obtain ⟨a1, a2, a3, a4, a5, a6⟩ := hne
 have b1 : ((c : Int) == 40) = false := by simp; omega
 have b2 : ((c : Int) == 41) = false := by simp; omega
 have b3 : ((c : Int) == 124) = false := by simp; omega
 have b4 : ((c : Int) == 42) = false := by simp; omega
 have b5 : ((c : Int) == 43) = false := by simp; omega
 have b6 : ((c : Int) == 63) = false := by simp; omega
 clear hS hA hk a1 a2 a3 a4 a5 a6
 go_enter Tryz.func198, Tryz.ntmps198
 go_wp2
 go_quiet (fail)
 go_wp2
 go_light
 go_ret
 exact ⟨rfl, _, rfl⟩
theorem sign_yes (S b o cap : Nat) (bs : List Nat) (i : Nat) (v : Value) (N : Nat) (L : List Lex) (W : World) (hS : Spl W S b o bs.length cap i v 0 0) (hrow : W.ownsRow N 143 8 v L.length (lexCells L)) (hN : N ≤ S) (hL : L.length ≤ 100000) (hA : BytesAt W N (some ⟨b, o, none⟩) bs) (h0 : i < bs.length) (hk : signKind (byteAt bs i) ≠ 0) :
  Calls Tryz.prog 198 #[.pointer (some ⟨S, 0, none⟩)] W fun e W' => e = .returned (.bool true) ∧ Below N W W' ∧ ∃ v', Spl W' S b o bs.length cap ((i : Int) + 1) v' 0 0 ∧ W'.ownsRow N 143 8 v' (L.length + 1) (lexCells (L ++ [⟨signKind (byteAt bs i), i, noSet, 0, 0⟩])) := by
 obtain ⟨s0, s1, s2, s3, s4, f0, f1, f2, f3, f4⟩ := hS.cells
 have hcell := bytesAt_cells hA i h0
 have hl := hA.2.1
 have hc256 := byteAt_lt hA.1 i
 have hlt := Blk.lt hS
 have hi2 : i < 140737488355328 := by omega
 have hcs : byteAt bs i = 40 ∨ byteAt bs i = 41 ∨ byteAt bs i = 124 ∨ byteAt bs i = 42 ∨ byteAt bs i = 43 ∨ byteAt bs i = 63 := by
  unfold signKind at hk
  by_cases a1 : byteAt bs i = 40
  ·omega
  by_cases a2 : byteAt bs i = 41
  ·omega
  by_cases a3 : byteAt bs i = 124
  ·omega
  by_cases a4 : byteAt bs i = 42
  ·omega
  by_cases a5 : byteAt bs i = 43
  ·omega
  by_cases a6 : byteAt bs i = 63
  ·omega
  rw [if_neg a1, if_neg a2, if_neg a3, if_neg a4, if_neg a5, if_neg a6] at hk
  exact absurd rfl hk
 have hP := fun (kd : Int) (n : Nat) => put_no S b o bs.length cap i v 0 0 N L kd 0 0 0 ((i : Int) + 1) (W.drewN n) hS hrow hN hL
 have HP := Lib.hid hP
 clear hS hA hk hP hrow
 rcases hcs with hc | hc | hc | hc | hc | hc
 ·rw [hc] at hcell
  have HK := Lib.hid (show signKind (byteAt bs i) = 2 by rw [hc]; rfl)
  clear hc hc256
  go_enter Tryz.func198, Tryz.ntmps198
  go_wp2
  go_quiet (fail)
  go_wp2_with fail
  refine (HP.out 2 _).mono ?_
  rintro e w4 ⟨rfl, hb4, hv4⟩
  have HV := Lib.hid hv4
  have HB4 := Lib.hid hb4
  clear hv4 hb4
  go_wp2
  go_light
  go_ret
  exact ⟨rfl, (bel_drewN (Below.refl N W) _).trans HB4.out, by rw [HK.out]; exact HV.out⟩
 ·rw [hc] at hcell
  have HK := Lib.hid (show signKind (byteAt bs i) = 3 by rw [hc]; rfl)
  clear hc hc256
  go_enter Tryz.func198, Tryz.ntmps198
  go_wp2
  go_quiet (fail)
  go_wp2_with fail
  refine (HP.out 3 _).mono ?_
  rintro e w4 ⟨rfl, hb4, hv4⟩
  have HV := Lib.hid hv4
  have HB4 := Lib.hid hb4
  clear hv4 hb4
  go_wp2
  go_light
  go_ret
  exact ⟨rfl, (bel_drewN (Below.refl N W) _).trans HB4.out, by rw [HK.out]; exact HV.out⟩
 ·rw [hc] at hcell
  have HK := Lib.hid (show signKind (byteAt bs i) = 4 by rw [hc]; rfl)
  clear hc hc256
  go_enter Tryz.func198, Tryz.ntmps198
  go_wp2
  go_quiet (fail)
  go_wp2_with fail
  refine (HP.out 4 _).mono ?_
  rintro e w4 ⟨rfl, hb4, hv4⟩
  have HV := Lib.hid hv4
  have HB4 := Lib.hid hb4
  clear hv4 hb4
  go_wp2
  go_light
  go_ret
  exact ⟨rfl, (bel_drewN (Below.refl N W) _).trans HB4.out, by rw [HK.out]; exact HV.out⟩
 ·rw [hc] at hcell
  have HK := Lib.hid (show signKind (byteAt bs i) = 5 by rw [hc]; rfl)
  clear hc hc256
  go_enter Tryz.func198, Tryz.ntmps198
  go_wp2
  go_quiet (fail)
  go_wp2_with fail
  refine (HP.out 5 _).mono ?_
  rintro e w4 ⟨rfl, hb4, hv4⟩
  have HV := Lib.hid hv4
  have HB4 := Lib.hid hb4
  clear hv4 hb4
  go_wp2
  go_light
  go_ret
  exact ⟨rfl, (bel_drewN (Below.refl N W) _).trans HB4.out, by rw [HK.out]; exact HV.out⟩
 ·rw [hc] at hcell
  have HK := Lib.hid (show signKind (byteAt bs i) = 6 by rw [hc]; rfl)
  clear hc hc256
  go_enter Tryz.func198, Tryz.ntmps198
  go_wp2
  go_quiet (fail)
  go_wp2_with fail
  refine (HP.out 6 _).mono ?_
  rintro e w4 ⟨rfl, hb4, hv4⟩
  have HV := Lib.hid hv4
  have HB4 := Lib.hid hb4
  clear hv4 hb4
  go_wp2
  go_light
  go_ret
  exact ⟨rfl, (bel_drewN (Below.refl N W) _).trans HB4.out, by rw [HK.out]; exact HV.out⟩
 ·rw [hc] at hcell
  have HK := Lib.hid (show signKind (byteAt bs i) = 7 by rw [hc]; rfl)
  clear hc hc256
  go_enter Tryz.func198, Tryz.ntmps198
  go_wp2
  go_quiet (fail)
  go_wp2_with fail
  refine (HP.out 7 _).mono ?_
  rintro e w4 ⟨rfl, hb4, hv4⟩
  have HV := Lib.hid hv4
  have HB4 := Lib.hid hb4
  clear hv4 hb4
  go_wp2
  go_light
  go_ret
  exact ⟨rfl, (bel_drewN (Below.refl N W) _).trans HB4.out, by rw [HK.out]; exact HV.out⟩
end
section
theorem nrmH {α : Type} : type_of% (@List.getElem_toArray α) ∧ type_of% (@List.getElem_cons_zero α) ∧ type_of% (@List.getElem_cons_succ α) ∧ type_of% (@List.setIfInBounds_toArray α) ∧ type_of% (@List.set_cons_zero α) ∧ type_of% (@List.set_cons_succ α) :=
 ⟨List.getElem_toArray, List.getElem_cons_zero, List.getElem_cons_succ, List.setIfInBounds_toArray, List.set_cons_zero, List.set_cons_succ⟩
theorem getH {α : Type} : type_of% (@List.getElem?_toArray α) ∧ type_of% (@List.getElem?_cons_zero α) ∧ type_of% (@List.getElem?_cons_succ α) :=
 ⟨List.getElem?_toArray, List.getElem?_cons_zero, List.getElem?_cons_succ⟩
end
section
open Go.RowKit
section
variable {w wr w2 w3 : World} {X : Nat} {z z' : Nd} {B B' : Option Addr} {cap cap' : Nat}
end
section
variable {w wr w2 w' : World} {acc : List Nd} {u : Value}
end
def ints (l : List Int) : List Value := l.map (Value.int .i64)
end
end Go.Proofs.YtofbfafnpdaejaaGreatDoor
