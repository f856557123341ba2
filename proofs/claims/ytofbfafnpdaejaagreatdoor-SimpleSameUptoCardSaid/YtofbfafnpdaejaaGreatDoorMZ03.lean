/- Texts of the claim. -/
import Derived.RangeFuncBox
import Derived.Maps.AppendAt
import Derived.Deep.AppendLies
import Derived.Deep.RegionLaw
import Derived.Deep.RegionHeld3
import Derived.RegionTactic
import Derived.BigRegion
import Derived.OwnWalk
import Derived.Lib.SlBytesConst
import Derived.Test.YtofbfafnpdaejaaGreatDoorRows
import Derived.WalkKit
import Derived.ProofKit
import Derived.OpenShut
import Derived.ShutString
import Derived.ChangeOld
import Derived.SizedLaws
import Derived.Shelf.Spec.TrailingZeros
import Derived.Deep.DeepHandedRow
import Derived.Lib.LaidTab
import Derived.MapKept
import Derived.ChangeMaps5
import Derived.Maps.Keyed
import Derived.Test.YtofbfafnpdaejaaGreatDoorMSpans
import Derived.Test.YtofbfafnpdaejaaGreatDoorMZ02
import Derived.Test.YtofbfafnpdaejaaGreatDoorMZ01
import Derived.Test.YtofbfafnpdaejaaGreatDoorMRefEsc
set_option linter.all false
set_option maxRecDepth 100000
set_option maxHeartbeats 8000000
namespace Go.Proofs.YtofbfafnpdaejaaGreatDoor
section
theorem chr_head (c : Nat) (hc : c < 256) : 1 ≤ (chrS c).length ∧ byteAt (chrS c) 0 ≠ 45 ∧ byteAt (chrS c) 0 ≠ 93 ∧ byteAt (chrS c) 0 ≠ 94 ∧ ∀ x ∈ chrS c, x < 256 := by
 have H : ∀ k : Fin 256, 1 ≤ (chrS k.val).length ∧ byteAt (chrS k.val) 0 ≠ 45 ∧ byteAt (chrS k.val) 0 ≠ 93 ∧ byteAt (chrS k.val) 0 ≠ 94 ∧ ∀ x ∈ chrS k.val, x < 256 := by decide +kernel
 exact H ⟨c, hc⟩
def pieceS (x : Nat × Nat) : List Nat := chrS x.1 ++ ((if x.1 + 1 < x.2 then [45] else []) ++ (if x.1 < x.2 then chrS x.2 else []))
def piecesS (l : List (Nat × Nat)) : List Nat := l.flatMap pieceS
theorem piecesS_cons (x : Nat × Nat) (l : List (Nat × Nat)) : piecesS (x :: l) = pieceS x ++ piecesS l := by simp [piecesS]
theorem pieceS_one (a : Nat) : pieceS (a, a) = chrS a := by simp [pieceS]
theorem pieceS_two (a : Nat) : pieceS (a, a + 1) = chrS a ++ chrS (a + 1) := by simp [pieceS]
theorem pieceS_more (a b : Nat) (h : a + 1 < b) : pieceS (a, b) = chrS a ++ (45 :: chrS b) := by
 unfold pieceS
 rw [if_pos h, if_pos (by simp; omega)]; rfl
theorem pieceS_len (x : Nat × Nat) : (pieceS x).length ≤ 9 := by
 have h1 := chrS_len x.1
 have h2 := chrS_len x.2
 unfold pieceS
 simp only [List.length_append]
 split <;> split <;> simp <;> omega
theorem piecesS_len (l : List (Nat × Nat)) : (piecesS l).length ≤ l.length * 9 := by
 induction l with
 | nil => simp [piecesS]
 | cons x l ih => rw [piecesS_cons, List.length_append, List.length_cons]; have := pieceS_len x; omega
theorem spans_rise (xs : List Nat) (hx : xs.Pairwise (· < ·)) (h256 : ∀ x ∈ xs, x < 256) : ∀ x ∈ spans xs, x.1 ≤ x.2 := by
 induction xs using rev_ind with
 | h0 => simp [spans]
 | h1 xs x ih =>
  have ih := ih (List.pairwise_append.1 hx).1 (fun y hy => h256 y (by simp [hy]))
  rw [spans_snoc]
  rcases List.eq_nil_or_concat (spans xs) with h | ⟨m, ⟨a, b⟩, h⟩
  ·rw [h, push_nil]; simp
  ·rw [List.concat_eq_append] at h
   rw [h] at ih ⊢
   have hab := ih (a, b) (by simp)
   dsimp only at hab
   by_cases hb : b + 1 = x % 256
   ·rw [push_on _ _ _ _ hb]
    intro q hq
    rcases List.mem_append.1 hq with hq | hq
    ·exact ih q (by simp [hq])
    ·simp at hq; subst hq; dsimp only; omega
   ·rw [push_new _ _ _ _ hb]
    intro q hq
    rcases List.mem_append.1 hq with hq | hq
    ·exact ih q hq
    ·simp at hq; subst hq; dsimp only; omega
theorem elems_rise (p : Nat → Bool) (m : Nat) : (elems p m).Pairwise (· < ·) := by
 unfold elems
 exact (List.pairwise_lt_range).filter _
def cutsOf (p : Nat → Bool) : List (Nat × Nat) := spans (elems p 256)
theorem cutsOf_in (p : Nat → Bool) : ∀ x ∈ cutsOf p, x.1 ≤ x.2 ∧ x.2 < 256 := fun x hx => ⟨spans_rise _ (elems_rise p 256) (fun x hx => elems_lt hx) x hx, (spans_small _ x hx).2⟩
def isTurned (p : Nat → Bool) : Bool := decide ((elems p 256).length = 0) || decide (128 < (elems p 256).length) && decide ((elems p 256).length < 256)
def showS (p : Nat → Bool) : List Nat := if isTurned p = true then [91, 94] ++ (piecesS (cutsOf (fun c => !p c)) ++ [93]) else [91] ++ (piecesS (cutsOf p) ++ [93])
theorem showS_turned {p : Nat → Bool} (h : isTurned p = true) : showS p = [91, 94] ++ (piecesS (cutsOf (fun c => !p c)) ++ [93]) := if_pos h
theorem showS_plain {p : Nat → Bool} (h : isTurned p = false) : showS p = [91] ++ (piecesS (cutsOf p) ++ [93]) := if_neg (by rw [h]; decide)
theorem showS_len (p : Nat → Bool) : (showS p).length ≤ 2400 := by
 have hh : ∀ q : Nat → Bool, (piecesS (cutsOf q)).length ≤ 2304 := by
  intro q
  have h1 := piecesS_len (cutsOf q)
  have h2 : (cutsOf q).length ≤ 256 := Nat.le_trans (spans_len _) (elems_len q 256)
  omega
 unfold showS
 have h1 := hh (fun c => !p c)
 have h2 := hh p
 split <;> simp <;> omega
end
section
open Go.RowKit Go.Shelf
attribute [local go_sem] Oper.semAt_some
def aloneN (y : Nd) : Bool := aloneV y.kind (word y.set.testBit 0 : Nat) (word y.set.testBit 1 : Nat) (word y.set.testBit 2 : Nat) (word y.set.testBit 3 : Nat) y.kids.len y.lo y.hi
def rightT (x : Nd) : Bool := decide (x.nodes.length ≤ 4096) && x.nodes.all aloneN
theorem aloneN_go (y : Nd) (B : Option Addr) (cap : Nat) (w : World) :
  Calls Tryz.prog 60 #[ndV y B cap] w fun e w' => e = .returned (.bool (aloneN y)) ∧ Below w.heap.size w w' :=
 alone_any _ _ _ _ _ _ _ B _ cap w
theorem rightT_yes {x : Nd} {ys : List ItemX} (h : ys.map (·.1) = x.nodes) (h1 : ys.length ≤ 4096) (h2 : ∀ q ∈ ys, aloneN q.1 = true) : rightT x = true := by
 unfold rightT
 rw [← h, Bool.and_eq_true, decide_eq_true_eq, List.all_eq_true]
 refine ⟨by simpa using h1, fun y hy => ?_⟩
 obtain ⟨q, hq, rfl⟩ := List.mem_map.1 hy
 exact h2 q hq
theorem rightT_no {x : Nd} {ys : List ItemX} (h : ys.map (·.1) <+: x.nodes) (h1 : 4096 < ys.length ∨ ∃ q ∈ ys, aloneN q.1 = false) : rightT x = false := by
 unfold rightT
 rcases h1 with h1 | ⟨q, hq, hf⟩
 ·have := h.length_le
  rw [List.length_map] at this
  rw [Bool.and_eq_false_iff]
  exact .inl (by rw [decide_eq_false_iff_not]; omega)
 ·rw [Bool.and_eq_false_iff]
  refine .inr ?_
  cases ha : x.nodes.all aloneN
  ·rfl
  ·have := List.all_eq_true.1 ha q.1 (h.subset (List.mem_map.2 ⟨q, hq, rfl⟩))
   rw [hf] at this
   cases this
theorem trightx_in (n : Nat) (hn : 3 ≤ n) (x : Nd) (B : Option Addr) (cap : Nat) (w : World) (hsz : x.size ≤ 4611686018427387903) (ht : TreesAt w (fun b => b < w.heap.size) x.kids B) :
  CallsIn Fence.wide n Tryz.prog 15 #[ndV x B cap] w fun e w' => e = .returned (.bool (rightT x)) ∧ Below w.heap.size w w' := by
 have h1 : 1 ≤ n := by omega
 unfold ndV
 refine callsIn_of_wp_marks Tryz.func15 rfl trivial ?_ rfl
 simp only [Tryz.ntmps15, List.size_toArray, List.length_cons, List.length_nil, Nat.reduceAdd, Nat.reduceSub, Array.replicate_succ, Array.replicate_zero, List.push_toArray, List.append_toArray, List.nil_append, List.cons_append]
 gi_wp2_with (refine ⟨trivial, ?_⟩; gi_at_call 59; refine (callsIn_wide.2 (nodes_go x B cap _)).mono ?_; rintro e w' ⟨rfl, rfl⟩)
 have bR := ((Boxed.new (w.alloc (.cells (ndA x B cap) 28)) 4 (.bool false)).alloc (.cells #[.int .i64 0] 3)).alloc (.cells (ndA x B cap) 28)
 have bN := (Boxed.new ((w.alloc (.cells (ndA x B cap) 28)).alloc (.cells #[.bool false] 4)) 3 (.int .i64 0)).alloc (.cells (ndA x B cap) 28)
 have bS := Blk.new (((w.alloc (.cells (ndA x B cap) 28)).alloc (.cells #[.bool false] 4)).alloc (.cells #[.int .i64 0] 3)) 28 (ndA x B cap)
 simp only [World.size_alloc] at bR bN bS
 have hB0 : Below w.heap.size w ((((w.alloc (.cells (ndA x B cap) 28)).alloc (.cells #[.bool false] 4)).alloc (.cells #[.int .i64 0] 3)).alloc (.cells (ndA x B cap) 28)) := ((((Below.refl _ w).alloc (Nat.le_refl _) _).alloc (by simp) _).alloc (by simp; omega) _).alloc (by simp; omega) _
 have hsz0 : ((((w.alloc (.cells (ndA x B cap) 28)).alloc (.cells #[.bool false] 4)).alloc (.cells #[.int .i64 0] 3)).alloc (.cells (ndA x B cap) 28)).heap.size = w.heap.size + 4 := by simp
 unfold ndA at bR bN hB0 hsz0
 unfold ndA
 obtain ⟨W0, hW0⟩ : ∃ W0, ((((w.alloc (.cells #[.int .i64 x.kind, .int .u64 (word x.set.testBit 0), .int .u64 (word x.set.testBit 1), .int .u64 (word x.set.testBit 2), .int .u64 (word x.set.testBit 3), .slice B x.kids.len cap, .int .i64 x.lo, .int .i64 x.hi] 28)).alloc (.cells #[.bool false] 4)).alloc (.cells #[.int .i64 0] 3)).alloc (.cells #[.int .i64 x.kind, .int .u64 (word x.set.testBit 0), .int .u64 (word x.set.testBit 1), .int .u64 (word x.set.testBit 2), .int .u64 (word x.set.testBit 3), .slice B x.kids.len cap, .int .i64 x.lo, .int .i64 x.hi] 28)) = W0 := ⟨_, rfl⟩
 have bS : Blk W0 (w.heap.size + 1 + 1 + 1) 28 (ndA x B cap) := by rw [← hW0]; exact bS
 rw [hW0] at bR bN hB0 hsz0 ⊢
 clear hW0
 refine wpIn_rangeFunc_ownH rfl h1 (gf := 116) (lb := #[.pointer (some ⟨w.heap.size + 1 + 1 + 1, 0, none⟩)]) rfl trivial (enters_of Tryz.func116 (by kernel_rfl) rfl)
  (nodesx_stops (n - 1) x B cap (w.heap.size + 1 + 1 + 1) (w.heap.size + 1 + 1) (fun b => b < w.heap.size) W0 (fun b hb => by omega) hsz bS (by omega) (ht.below hB0)) (fun h k => h.trans k) (fun W l o o' _ ho hc _ => Kc.put W l o o' ho hc) (Below.refl _ _) (fun _ => rfl)
  (fun pre W => ((Boxed W (w.heap.size + 1 + 1) 3 (.int .i64 ((pre.length : Nat) : Int)) ∧ Boxed W (w.heap.size + 1) 4 (.bool false)) ∧ (pre.length ≤ 4096 ∧ ∀ q ∈ pre, aloneN q.1 = true)) ∧ Below w.heap.size w W)
  (fun c pre W => c = .ret ∧ ((Boxed W (w.heap.size + 1) 4 (.bool false) ∧ (4096 < pre.length ∨ ∃ q ∈ pre, aloneN q.1 = false)) ∧ Below w.heap.size w W))
  (OwnFrom.and (OwnFrom.and (OwnFrom.and (Own.from (boxed_own _ _ _) _) (Own.from (boxed_own _ _ _) _)) (ownFrom_pure _ _)) (ownFrom_below (Nat.le_refl _) (by omega)))
  (fun c => OwnFrom.and (ownFrom_pure _ (fun _ => c = .ret)) (OwnFrom.and (OwnFrom.and (Own.from (boxed_own _ _ _) _) (ownFrom_pure _ _)) (ownFrom_below (Nat.le_refl _) (by omega))))
  ⟨⟨⟨bN, bR⟩, Nat.zero_le _, fun q hq => by cases hq⟩, hB0⟩
  (fun (q : ItemX) a' W => ∃ Bx, w.heap.size + 1 + 1 < Bx ∧ Blk W Bx 28 (ndA q.1 q.2.1 q.2.2) ∧ a' = { tmps := #[ndV x B cap, .pointer (some ⟨w.heap.size, 0, none⟩), .pointer (some ⟨w.heap.size + 1, 0, none⟩), .pointer (some ⟨w.heap.size + 1 + 1, 0, none⟩), .pointer (some ⟨Bx, 0, none⟩), ndV x B cap, .func (.func 116) #[] #[.pointer (some ⟨w.heap.size + 1 + 1 + 1, 0, none⟩)], ndV q.1 q.2.1 q.2.2, undef, undef, undef, undef, undef, undef, undef, undef, undef], defers := [] })
  (fun q a' _ X Y row hs hg hr => by
   obtain ⟨Bx, h1, h2, h3⟩ := hs
   exact ⟨Bx, h1, h2.grown hg (fun e => by
    obtain ⟨o, ho, hc⟩ := (hr _ e.symm).2
    rw [show X.heap[Bx]? = _ from h2] at ho
    cases ho
    cases hc), h3⟩)
  ?assign ?body ?done ?stop
 case assign =>
  rintro l pre q W K ⟨⟨⟨bN1, bR1⟩, hp1⟩, hB1⟩ hK
  unfold itemX ndV
  gi_wp2
  exact hK _ _ ((KeepsOthers.alloc _ _).from _) (Kc.below ((Below.refl _ W).alloc (Nat.le_refl _) _)) ⟨⟨⟨bN1.alloc _, bR1.alloc _⟩, hp1⟩, hB1.alloc hB1.size _⟩ ⟨W.heap.size, bN1.lt, Blk.new W 28 _, rfl⟩
 case body =>
  rintro l pre q a' W hl _ ⟨⟨⟨bN1, bR1⟩, hpl, hpa⟩, hB1⟩ ⟨Bx, hBx, bX, rfl⟩ hlt
  have cN := bN1.cell
  have fN := bN1.frozen
  have cR := bR1.cell
  have fR := bR1.frozen
  have HPA := Lib.hid hpa
  have x0 : W.cell? ⟨Bx, 0, none⟩ = some (.int .i64 q.1.kind) := bX.cell 0
  have x1 : W.cell? ⟨Bx, 1, none⟩ = some (.int .u64 (word q.1.set.testBit 0)) := bX.cell 1
  have x2 : W.cell? ⟨Bx, 2, none⟩ = some (.int .u64 (word q.1.set.testBit 1)) := bX.cell 2
  have x3 : W.cell? ⟨Bx, 3, none⟩ = some (.int .u64 (word q.1.set.testBit 2)) := bX.cell 3
  have x4 : W.cell? ⟨Bx, 4, none⟩ = some (.int .u64 (word q.1.set.testBit 3)) := bX.cell 4
  have x5 : W.cell? ⟨Bx, 5, none⟩ = some (.slice q.2.1 q.1.kids.len q.2.2) := bX.cell 5
  have x6 : W.cell? ⟨Bx, 6, none⟩ = some (.int .i64 q.1.lo) := bX.cell 6
  have x7 : W.cell? ⟨Bx, 7, none⟩ = some (.int .i64 q.1.hi) := bX.cell 7
  have hn1 : IntKind.i64.wrap (((pre.length : Nat) : Int) + 1) = (((pre ++ [q]).length : Nat) : Int) := by
   rw [IntKind.wrap_i64, List.length_append, List.length_singleton]; omega
  have hA := Lib.hid (aloneN_go q.1 q.2.1 q.2.2 (W.setCell ⟨w.heap.size + 1 + 1, 0, none⟩ (.int .i64 (((pre ++ [q]).length : Nat) : Int))))
  have hb1 : Below w.heap.size w (W.setCell ⟨w.heap.size + 1 + 1, 0, none⟩ (.int .i64 (((pre ++ [q]).length : Nat) : Int))) := hB1.setCell (p := ⟨w.heap.size + 1 + 1, 0, none⟩) (by simp; omega) _
  have hN1 := bN1.set (.int .i64 (((pre ++ [q]).length : Nat) : Int))
  have hR1 := bR1.other (B' := w.heap.size + 1 + 1) (by omega) (.int .i64 (((pre ++ [q]).length : Nat) : Int))
  have hk1 := Kc.setCell (Bn := w.heap.size + 1 + 1) W (.int .i64 (((pre ++ [q]).length : Nat) : Int))
  have hf1 := (KeepsOthers.setCell W ⟨w.heap.size + 1 + 1, 0, none⟩ (.int .i64 (((pre ++ [q]).length : Nat) : Int))).from W0.heap.size
  have hdd : ∀ k : Nat, (Fence.wide.depth.isSome = true → 1 ≤ k) := fun k h => by cases h
  have HX := Lib.hid (show _ ∧ _ ∧ _ ∧ _ ∧ _ from ⟨hb1, hN1, hR1, hk1, hf1⟩)
  clear hb1 hN1 hR1 hk1 hf1 bN1 bR1 hB1 bX bN bR bS hB0 ht hsz hpa
  have HM := Lib.hid (show (((pre ++ [q]).length : Nat) : Int) = (pre.length : Int) + 1 by simp)
  have hM1 : (((pre ++ [q]).length : Nat) : Int) = (pre.length : Int) + 1 := HM.out
  generalize hM : (((pre ++ [q]).length : Nat) : Int) = M at *
  have HMq := Lib.hid hM
  unfold ndV at hA
  unfold ndV
  rcases Nat.lt_or_ge pre.length 4096 with hc | hc
  ·have hle : M ≤ 4096 := by omega
   clear hM hM1
   cases hv : aloneN q.1
   all_goals
    rw [hv] at hA
    have HV := Lib.hid hv
    clear hv
    gi_wp2
    refine ⟨trivial, hdd _, (CallsIn.inRound l (callsIn_wide.2 hA.out)).mono ?_⟩
    rintro e W3 ⟨rfl, hb3⟩
    have HZ := Lib.hid (show KeepsFrom W0.heap.size W W3 ∧ Kc (w.heap.size + 1 + 1) W W3 ∧ (Boxed W3 (w.heap.size + 1 + 1) 3 (.int .i64 M) ∧ Boxed W3 (w.heap.size + 1) 4 (.bool false)) ∧ Below w.heap.size w W3 from by
     obtain ⟨hb1, hN1, hR1, hk1, hf1⟩ := HX.out
     exact ⟨hf1.trans (keepsFrom_below hb3), hk1.trans (Kc.below hb3), ⟨(hb3.block _ hN1.lt).trans hN1, (hb3.block _ hR1.lt).trans hR1⟩, hb1.trans (hb3.mono hb1.size)⟩)
    have cR3 := HZ.out.2.2.1.2.cell
    have fR3 := HZ.out.2.2.1.2.frozen
    clear HX hb3 hA cR fR
    dsimp only
    gi_wp2
   ·exact ⟨HZ.out.1.trans ((KeepsOthers.setCell _ _ _).from _), rfl, ⟨HZ.out.2.2.1.2.set _, .inr ⟨q, by simp, HV.out⟩⟩, HZ.out.2.2.2.setCell (p := ⟨w.heap.size + 1, 0, none⟩) (by simp) _⟩
   ·refine ⟨HZ.out.1, HZ.out.2.1, ⟨⟨by rw [HMq.out]; exact HZ.out.2.2.1.1, HZ.out.2.2.1.2⟩, by simp; omega, fun r hr => ?_⟩, HZ.out.2.2.2⟩
    rcases List.mem_append.1 hr with hr | hr
    ·exact HPA.out r hr
    ·rw [List.mem_singleton.1 hr]; exact HV.out
  ·have hgt : decide ((4096 : Int) < M) = true := (by rw [decide_eq_true_eq]; omega)
   have hgl : 4096 < (pre ++ [q]).length := by simp; omega
   clear hM hM1 hA
   gi_wp2
   refine ⟨trivial, ?_⟩
   gi_wp2
   obtain ⟨hb1, hN1, hR1, hk1, hf1⟩ := HX.out
   exact ⟨hf1.trans ((KeepsOthers.setCell _ _ _).from _), rfl, ⟨hR1.set _, .inl hgl⟩, hb1.setCell (p := ⟨w.heap.size + 1, 0, none⟩) (by simp) _⟩
 case done =>
  rintro D ys W hD hys ⟨⟨⟨bN1, bR1⟩, hpl, hpa⟩, hB1⟩ hK
  have HRT := Lib.hid (rightT_yes hys hpl hpa)
  have cR := bR1.cell
  have fR := bR1.frozen
  gi_wp2
  have hK2 := (KeepsOthers.setCell W ⟨w.heap.size + 1, 0, none⟩ (.bool true)).same D _ hK rfl
  refine ⟨by simp, .inl ⟨_, _, rfl, run_takeDeferred hK2, ?_⟩⟩
  have hc : ((W.setCell ⟨w.heap.size + 1, 0, none⟩ (.bool true)).putObj D (.deferred none)).cell? ⟨w.heap.size + 1, 0, none⟩ = some (.bool true) := cell_kept (bR1.set _).cell (grownBy_putObj' _ D (.deferred none)) (fun r e => by cases e; exact ⟨_, hK2, rfl⟩)
  exact ⟨_, ret_boolc rfl rfl hc, by rw [HRT.out], (hB1.setCell (p := ⟨w.heap.size + 1, 0, none⟩) (by simp) _).trans (belowK_b (w := w) (Nat.le_refl _) _ D _ _ (by omega) hK2 rfl rfl)⟩
 case stop =>
  rintro D c pre W hD hsp ⟨rfl, ⟨bR1, hbad⟩, hB1⟩ hK
  have HRT := Lib.hid (rightT_no hsp hbad)
  gi_wp2
  refine ⟨by simp, .inl ⟨_, _, rfl, run_takeDeferred hK, ?_⟩⟩
  have hc : (W.putObj D (.deferred none)).cell? ⟨w.heap.size + 1, 0, none⟩ = some (.bool false) := cell_kept bR1.cell (grownBy_putObj' _ D (.deferred none)) (fun r e => by cases e; exact ⟨_, hK, rfl⟩)
  exact ⟨_, ret_boolc rfl rfl hc, by rw [HRT.out], hB1.trans (belowK_b (w := w) (Nat.le_refl _) _ D _ _ (by omega) hK rfl rfl)⟩
theorem tright_any (x : Nd) (B : Option Addr) (cap : Nat) (w : World) (hsz : x.size ≤ 4611686018427387903) (ht : TreesAt w (fun b => b < w.heap.size) x.kids B) :
  Calls Tryz.prog 15 #[ndV x B cap] w fun e w' => e = .returned (.bool (rightT x)) ∧ Below w.heap.size w w' :=
 callsIn_wide.1 (trightx_in 3 (Nat.le_refl _) x B cap w hsz ht)
end
section
open Go.RowKit
def numsOk (y : Nd) : Prop := y.kind = 9 → 0 ≤ y.lo ∧ y.lo ≤ 1000 ∧ -1 ≤ y.hi ∧ y.hi ≤ 1000
theorem numsOk_of {y : Nd} (h : aloneN y = true) : numsOk y := by
 intro h9
 unfold aloneN aloneV at h
 rw [if_neg (by omega)] at h
 split at h
 ·cases h
 try rw [if_pos h9] at h
 rw [Bool.and_eq_true] at h
 have := h.1
 unfold timesB at this
 simp only [Bool.and_eq_true, Bool.or_eq_true, decide_eq_true_eq] at this
 omega
theorem nodes_kid : ∀ {F : Trees} {i : Nat} {z : Nd}, F.list[i]? = some z → ∀ y ∈ z.nodes, y ∈ F.nodes
 | .nil, i, z, h => by simp [Trees.list] at h
 | .cons k s ks lo hi r, 0, z, h => by
  simp [Trees.list] at h
  subst h
  intro y hy
  unfold Nd.nodes at hy
  rcases List.mem_cons.1 hy with rfl | hy
  ·simp [Trees.nodes]
  ·simp [Trees.nodes, hy]
 | .cons k s ks lo hi r, i + 1, z, h => by
  intro y hy
  have := nodes_kid (F := r) (i := i) (by simpa [Trees.list] using h) y hy
  simp [Trees.nodes, this]
theorem self_nodes (x : Nd) : x ∈ x.nodes := by simp [Nd.nodes]
structure MachS where
 accept : List Nat
 links : List (Nat × Nat)
 edges : List (Nat × Nat × Nat)
def MachS.states (m : MachS) : Nat := m.accept.length
theorem aloneN_kids {y : Nd} (h : aloneN y = true) : (6 ≤ y.kind → y.kind ≤ 9 → y.kids.len = 1) ∧ (y.kind = 9 → 0 ≤ y.lo ∧ (y.hi = -1 ∨ y.lo ≤ y.hi)) ∧ (y.kind < 4 → y.kids.len = 0) ∧ 1 ≤ y.kind ∧ y.kind ≤ 9 := by
 unfold aloneN aloneV at h
 by_cases h3 : y.kind = 3
 ·rw [if_pos h3] at h
  simp at h
  omega
 rw [if_neg h3] at h
 split at h
 ·cases h
 by_cases h9 : y.kind = 9
 ·rw [if_pos h9] at h
  unfold timesB at h
  simp at h
  omega
 ·rw [if_neg h9] at h
  by_cases k1 : y.kind = 1 ∨ y.kind = 2 ∨ y.kind = 3
  ·have e : arityS y.kind = 0 := by unfold arityS; rw [if_pos k1]
   rw [e] at h
   simp at h
   omega
  by_cases k2 : y.kind = 4 ∨ y.kind = 5
  ·have e : arityS y.kind = 2 := by unfold arityS; rw [if_neg k1, if_pos k2]
   rw [e] at h
   simp at h
   omega
  by_cases k3 : 6 ≤ y.kind ∧ y.kind ≤ 9
  ·have e : arityS y.kind = 1 := by unfold arityS; rw [if_neg k1, if_neg k2, if_pos k3]
   rw [e] at h
   simp at h
   omega
  ·have e : arityS y.kind = -1 := by unfold arityS; rw [if_neg k1, if_neg k2, if_neg k3]
   rw [e] at h
   simp at h
def Okays (F : Trees) : Prop := ∀ y ∈ F.nodes, aloneN y = true
theorem rightT_size {x : Nd} (h : rightT x = true) : x.size ≤ 4096 := by
 unfold rightT at h
 rw [Bool.and_eq_true, decide_eq_true_eq] at h
 rw [← x.nodes_len]
 exact h.1
def linkCell (p : Nat × Nat) : List Value := [.int .i64 (p.1 : Int), .int .i64 (p.2 : Int)]
def edgeCell (p : Nat × Nat × Nat) : List Value := [.int .i64 (p.1 : Int), .int .u64 (word p.2.1.testBit 0), .int .u64 (word p.2.1.testBit 1), .int .u64 (word p.2.1.testBit 2), .int .u64 (word p.2.1.testBit 3), .int .i64 (p.2.2 : Int)]
def accCell (a : Nat) : List Value := [.int .i64 (a : Int)]
def linkCells (l : List (Nat × Nat)) : List Value := l.flatMap linkCell
def edgeCells (l : List (Nat × Nat × Nat)) : List Value := l.flatMap edgeCell
def accCells (l : List Nat) : List Value := l.flatMap accCell
structure RowsM (w : World) (base : Nat) (m : MachS) (L E A : Value) : Prop where
 l : w.ownsRow base 85 2 L m.links.length (linkCells m.links)
 e : w.ownsRow base 89 6 E m.edges.length (edgeCells m.edges)
 a : w.ownsRow base 3 1 A m.accept.length (accCells m.accept)
structure In3 (S : Nat → Prop) (L E A : Value) : Prop where
 l : ∀ b, L.ownBlock = some b → S b
 e : ∀ b, E.ownBlock = some b → S b
 a : ∀ b, A.ownBlock = some b → S b
theorem ownsRow_block {W W' : World} {base size k : Nat} {e : TypeId} {v : Value} {xs : List Value} (hr : W.ownsRow base e size v k xs) (hb : ∀ k, v.ownBlock = some k → W'.heap[k]? = W.heap[k]?) : W'.ownsRow base e size v k xs := by
 refine ⟨hr.1, ?_⟩
 rcases hr.2 with h | ⟨g, cap, cur, rfl, h1, h2, h3⟩
 ·exact .inl h
 ·exact .inr ⟨g, cap, cur, rfl, h1, (hb g rfl).trans h2, h3⟩
def LayAt (w : World) (base g : Nat) (S : Nat → Prop) (m : MachS) : Prop :=
 (∀ b, S b → base ≤ b ∧ b < w.heap.size) ∧ S g ∧ ∃ L E A, Blk w g 112 #[.int .i64 (m.states : Int), .int .i64 0, L, E, A] ∧ RowsM w base m L E A ∧ In3 S L E A
structure Moves (base : Nat) (S : Nat → Prop) (w : World) (S' : Nat → Prop) (w' : World) : Prop where
 below : Below base w w'
 size : w.heap.size ≤ w'.heap.size
 kept : ∀ b, b < w.heap.size → ¬ S b → w'.heap[b]? = w.heap[b]?
 fresh : ∀ b, S' b → S b ∨ w.heap.size ≤ b
theorem Moves.refl (base : Nat) (S : Nat → Prop) (w : World) : Moves base S w S w := ⟨Below.refl _ _, Nat.le_refl _, fun _ _ _ => rfl, fun b hb => .inl hb⟩
theorem Moves.trans {base : Nat} {S S1 S2 : Nat → Prop} {w w1 w2 : World} (h : Moves base S w S1 w1) (h' : Moves base S1 w1 S2 w2) : Moves base S w S2 w2 :=
 ⟨h.below.trans h'.below, Nat.le_trans h.size h'.size, fun b hb hn => by
  have hn1 : ¬ S1 b := fun hb1 => by
   rcases h.fresh b hb1 with h2 | h2
   ·exact hn h2
   ·omega
  exact (h'.kept b (by have := h.size; omega) hn1).trans (h.kept b hb hn), fun b hb => by
  rcases h'.fresh b hb with h2 | h2
  ·exact h.fresh b h2
  ·right; have := h.size; omega⟩
theorem Moves.alloc {base : Nat} {S S1 : Nat → Prop} {w w1 : World} (h : Moves base S w S1 w1) (hb : base ≤ w.heap.size) (o : Obj) : Moves base S w S1 (w1.alloc o) :=
 ⟨h.below.alloc (by have := h.size; omega) o, by have := h.size; simp; omega, fun b hb hn => (Below.heap_alloc w1 o b (by have := h.size; omega)).trans (h.kept b hb hn), h.fresh⟩
theorem Blk.moves {base : Nat} {S S1 : Nat → Prop} {w w1 : World} {b : Nat} {t : TypeId} {cs : Array Value} (h : Blk w b t cs) (hm : Moves base S w S1 w1) (hn : ¬ S b) : Blk w1 b t cs := (hm.kept b h.lt hn).trans h
theorem Moves.notIn {base : Nat} {S S1 : Nat → Prop} {w w1 : World} (h : Moves base S w S1 w1) {b : Nat} (hb : b < w.heap.size) (hn : ¬ S b) : ¬ S1 b := fun h1 => by
 rcases h.fresh b h1 with h2 | h2
 ·exact hn h2
 ·omega
theorem Moves.of_below {base : Nat} {S : Nat → Prop} {w w' : World} (h : Below w.heap.size w w') (hb : base ≤ w.heap.size) : Moves base S w S w' :=
 ⟨h.mono hb, h.size, fun b hb _ => h.block b hb, fun b hb => .inl hb⟩
theorem Moves.setS {base : Nat} {S S1 : Nat → Prop} {w w1 : World} (h : Moves base S w S1 w1) {p : Addr} (hp : S p.block) (hb : base ≤ p.block) (u : Value) : Moves base S w S1 (w1.setCell p u) :=
 ⟨h.below.setCell hb u, by have := h.size; simpa [World.setCell] using this, fun b hlt hn => (Below.heap_setCell w1 p u b (fun e => hn (e ▸ hp))).trans (h.kept b hlt hn), h.fresh⟩
theorem Moves.push {base : Nat} {S : Nat → Prop} {w wa w1 : World} {v : Value} {gg : Nat} (hS : ∀ b, S b → base ≤ b ∧ b < w.heap.size) (hb : base ≤ w.heap.size) (ha : Below w.heap.size w wa) (hgrow : wa.grownBy w1 v.ownBlock) (hv : ∀ b, v.ownBlock = some b → S b) (hat : v.ownBlock = some gg ∨ w.heap.size ≤ gg) :
  Moves base S w (fun b => S b ∨ b = gg) w1 := by
 have hsz := ha.size
 have hs2 : wa.heap.size ≤ w1.heap.size := hgrow.size
 refine ⟨(ha.mono hb).grown hgrow (by omega) (fun k hk => (hS k (hv k hk)).1), by omega, fun b hlt hn => ?_, fun b hb => ?_⟩
 ·exact (hgrow.block b (by omega) (fun e => hn (hv b e.symm))).trans (ha.block b hlt)
 ·rcases hb with h | rfl
  ·exact .inl h
  ·rcases hat with h | h
   ·exact .inl (hv _ h)
   ·exact .inr h
theorem take_snocF {α : Type} {l : List α} {k : Nat} {x : α} (h : l[k]? = some x) : l.take (k + 1) = l.take k ++ [x] := by
 obtain ⟨hk, rfl⟩ := List.getElem?_eq_some_iff.1 h
 rw [List.take_succ_eq_append_getElem hk]
def Ends (base g : Nat) (S : Nat → Prop) (w : World) (m : MachS) (v : Value) (es : List Nat) (wr : World) : Prop :=
 ∃ S', LayAt wr base g S' m ∧ Moves base S w S' wr ∧ wr.ownsRow w.heap.size 3 1 v es.length (accCells es) ∧ ∀ b, v.ownBlock = some b → ¬ S' b
structure NfaV where
 states : Int
 start : Int
 links : List (Int × Int)
 edges : List (Int × Nat × Int)
 accept : List Int
def IntsAt (w : World) (A : Option Addr) (L : List Int) : Prop := ∀ (i : Nat) (a : Int), L[i]? = some a → ∃ b o, A = some ⟨b, o, none⟩ ∧ w.cell? ⟨b, o + i, none⟩ = some (.int .i64 a)
@[inline] def nfA (N : NfaV) (A1 : Option Addr) (k1 : Nat) (A2 : Option Addr) (k2 : Nat) (A3 : Option Addr) (k3 : Nat) : Array Value := #[.int .i64 N.states, .int .i64 N.start, .slice A1 N.links.length k1, .slice A2 N.edges.length k2, .slice A3 N.accept.length k3]
def intsC (l : List Int) : List Value := l.map (Value.int .i64)
theorem addr_plusC (b o j : Nat) : (⟨b, o, none⟩ : Addr).add j = ⟨b, o + j, none⟩ := by unfold Addr.add; split <;> simp_all
theorem own_intsC {w : World} {base n : Nat} {A : Option Addr} {k : Nat} {l : List Int} (h : w.ownsRow base 3 1 (.slice A n k) l.length (intsC l)) : IntsAt w A l := fun i a ha => by
 have hi := (List.getElem?_eq_some_iff.1 ha).1
 obtain ⟨g, c, e, _, _⟩ := own_form h (by omega)
 cases e
 have d0 := h.cells (g := g) rfl i (.int .i64 a) (by unfold intsC; rw [List.getElem?_map, ha]; rfl)
 rw [addr_plusC] at d0
 exact ⟨g, 0, rfl, d0⟩
theorem info_intC : (Tryz.prog.info? 3).map (fun i => (i.zero, i.size, i.bytes)) = some (some (.int .i64 0), 1, 8) := by kernel_rfl
def decS (n : Nat) : List Nat :=
 if n < 10 then [48 + n] else if n < 100 then [48 + n / 10, 48 + n % 10] else if n < 1000 then [48 + n / 10 / 10, 48 + n / 10 % 10, 48 + n % 10] else [48 + n / 10 / 10 / 10, 48 + n / 10 / 10 % 10, 48 + n / 10 % 10, 48 + n % 10]
theorem decS_len (n : Nat) : (decS n).length ≤ 4 := by unfold decS; split <;> (try split) <;> (try split) <;> simp
theorem str_block (w : World) (C : Array Value) (t : TypeId) (o : Nat) (ns : List Nat) (h : ∀ j u, (ns.map (fun n : Nat => Value.int .u8 (n : Int)))[j]? = some u → C[o + j]? = some u) :
  (convert 29 9 (.slice (some ⟨w.heap.size, o, none⟩) ns.length ns.length)).run Tryz.prog (w.alloc (.cells C t)) = .ok (.string (strOf ns)) (w.alloc (.cells C t)) :=
 run_str _ ⟨w.heap.size, o, none⟩ ns.length ns (fun j u hu => by
  have hb := Blk.new w t C
  have e : (⟨w.heap.size, o, none⟩ : Addr).add j = ⟨w.heap.size, o + j, none⟩ := by
   unfold Addr.add
   split
   ·next hz => subst hz; rfl
   ·rfl
  rw [e, hb.cell]
  exact h j u hu)
theorem str_one (w : World) (a : Nat) : (convert 29 9 (.slice (some ⟨w.heap.size, 19, none⟩) 1 1)).run Tryz.prog (w.alloc (.cells #[Value.int .u8 0, Value.int .u8 0, Value.int .u8 0, Value.int .u8 0, Value.int .u8 0, Value.int .u8 0, Value.int .u8 0, Value.int .u8 0, Value.int .u8 0, Value.int .u8 0, Value.int .u8 0, Value.int .u8 0, Value.int .u8 0, Value.int .u8 0, Value.int .u8 0, Value.int .u8 0, Value.int .u8 0, Value.int .u8 0, Value.int .u8 0, .int .u8 (48 + (a : Int))] 267)) =
  .ok (.string (strOf [48 + a])) (w.alloc (.cells #[Value.int .u8 0, Value.int .u8 0, Value.int .u8 0, Value.int .u8 0, Value.int .u8 0, Value.int .u8 0, Value.int .u8 0, Value.int .u8 0, Value.int .u8 0, Value.int .u8 0, Value.int .u8 0, Value.int .u8 0, Value.int .u8 0, Value.int .u8 0, Value.int .u8 0, Value.int .u8 0, Value.int .u8 0, Value.int .u8 0, Value.int .u8 0, .int .u8 (48 + (a : Int))] 267)) :=
 str_block w _ _ 19 [48 + a] (fun j u hu => by
  match j, hu with
  | 0, hu => simpa using hu
  | j + 1, hu => simp at hu)
theorem str_two (w : World) (a b : Nat) : (convert 29 9 (.slice (some ⟨w.heap.size, 18, none⟩) 2 2)).run Tryz.prog (w.alloc (.cells #[Value.int .u8 0, Value.int .u8 0, Value.int .u8 0, Value.int .u8 0, Value.int .u8 0, Value.int .u8 0, Value.int .u8 0, Value.int .u8 0, Value.int .u8 0, Value.int .u8 0, Value.int .u8 0, Value.int .u8 0, Value.int .u8 0, Value.int .u8 0, Value.int .u8 0, Value.int .u8 0, Value.int .u8 0, Value.int .u8 0, .int .u8 (48 + (a : Int)), .int .u8 (48 + (b : Int))] 267)) =
  .ok (.string (strOf [48 + a, 48 + b])) (w.alloc (.cells #[Value.int .u8 0, Value.int .u8 0, Value.int .u8 0, Value.int .u8 0, Value.int .u8 0, Value.int .u8 0, Value.int .u8 0, Value.int .u8 0, Value.int .u8 0, Value.int .u8 0, Value.int .u8 0, Value.int .u8 0, Value.int .u8 0, Value.int .u8 0, Value.int .u8 0, Value.int .u8 0, Value.int .u8 0, Value.int .u8 0, .int .u8 (48 + (a : Int)), .int .u8 (48 + (b : Int))] 267)) :=
 str_block w _ _ 18 [48 + a, 48 + b] (fun j u hu => by
  match j, hu with
  | 0, hu => simpa using hu
  | 1, hu => simpa using hu
  | j + 2, hu => simp at hu)
theorem str_three (w : World) (a b c : Nat) : (convert 29 9 (.slice (some ⟨w.heap.size, 17, none⟩) 3 3)).run Tryz.prog (w.alloc (.cells #[Value.int .u8 0, Value.int .u8 0, Value.int .u8 0, Value.int .u8 0, Value.int .u8 0, Value.int .u8 0, Value.int .u8 0, Value.int .u8 0, Value.int .u8 0, Value.int .u8 0, Value.int .u8 0, Value.int .u8 0, Value.int .u8 0, Value.int .u8 0, Value.int .u8 0, Value.int .u8 0, Value.int .u8 0, .int .u8 (48 + (a : Int)), .int .u8 (48 + (b : Int)), .int .u8 (48 + (c : Int))] 267)) =
  .ok (.string (strOf [48 + a, 48 + b, 48 + c])) (w.alloc (.cells #[Value.int .u8 0, Value.int .u8 0, Value.int .u8 0, Value.int .u8 0, Value.int .u8 0, Value.int .u8 0, Value.int .u8 0, Value.int .u8 0, Value.int .u8 0, Value.int .u8 0, Value.int .u8 0, Value.int .u8 0, Value.int .u8 0, Value.int .u8 0, Value.int .u8 0, Value.int .u8 0, Value.int .u8 0, .int .u8 (48 + (a : Int)), .int .u8 (48 + (b : Int)), .int .u8 (48 + (c : Int))] 267)) :=
 str_block w _ _ 17 [48 + a, 48 + b, 48 + c] (fun j u hu => by
  match j, hu with
  | 0, hu => simpa using hu
  | 1, hu => simpa using hu
  | 2, hu => simpa using hu
  | j + 3, hu => simp at hu)
theorem str_four (w : World) (a b c d : Nat) : (convert 29 9 (.slice (some ⟨w.heap.size, 16, none⟩) 4 4)).run Tryz.prog (w.alloc (.cells #[Value.int .u8 0, Value.int .u8 0, Value.int .u8 0, Value.int .u8 0, Value.int .u8 0, Value.int .u8 0, Value.int .u8 0, Value.int .u8 0, Value.int .u8 0, Value.int .u8 0, Value.int .u8 0, Value.int .u8 0, Value.int .u8 0, Value.int .u8 0, Value.int .u8 0, Value.int .u8 0, .int .u8 (48 + (a : Int)), .int .u8 (48 + (b : Int)), .int .u8 (48 + (c : Int)), .int .u8 (48 + (d : Int))] 267)) =
  .ok (.string (strOf [48 + a, 48 + b, 48 + c, 48 + d])) (w.alloc (.cells #[Value.int .u8 0, Value.int .u8 0, Value.int .u8 0, Value.int .u8 0, Value.int .u8 0, Value.int .u8 0, Value.int .u8 0, Value.int .u8 0, Value.int .u8 0, Value.int .u8 0, Value.int .u8 0, Value.int .u8 0, Value.int .u8 0, Value.int .u8 0, Value.int .u8 0, Value.int .u8 0, .int .u8 (48 + (a : Int)), .int .u8 (48 + (b : Int)), .int .u8 (48 + (c : Int)), .int .u8 (48 + (d : Int))] 267)) :=
 str_block w _ _ 16 [48 + a, 48 + b, 48 + c, 48 + d] (fun j u hu => by
  match j, hu with
  | 0, hu => simpa using hu
  | 1, hu => simpa using hu
  | 2, hu => simpa using hu
  | 3, hu => simpa using hu
  | j + 4, hu => simp at hu)
theorem dec_parts (n : Nat) : ∃ q r : Nat, r < 10 ∧ n / 10 = q ∧ n % 10 = r ∧ (n : Int).tdiv 10 = (q : Int) ∧ (n : Int).tmod 10 = (r : Int) :=
 ⟨n / 10, n % 10, Nat.mod_lt _ (by decide), rfl, rfl, by rw [Int.tdiv_eq_ediv_of_nonneg (by omega)]; omega, by rw [Int.tmod_eq_emod_of_nonneg (by omega)]; omega⟩
theorem shown_one (n : Nat) (w : World) (hn : n < 10) :
  Calls Tryz.prog 237 #[.int .i64 (n : Int)] w fun e w' => e = .returned (.string (strOf (decS n))) ∧ Below w.heap.size w w' := by
 have HV : decS n = [48 + n] := if_pos hn
 rw [HV]
 have h0 : ¬ (n : Int) < 0 := by omega
 have m1 : (n : Int).tmod 10 = (n : Int) := by rw [Int.tmod_eq_emod_of_nonneg (by omega)]; omega
 have d1 : (n : Int).tdiv 10 = 0 := by rw [Int.tdiv_eq_ediv_of_nonneg (by omega)]; omega
 have hs := fun w => str_one w n
 clear HV
 go_enter Tryz.func237, Tryz.ntmps237
 go_wp2
 refine wp_loop_rounds 1 ?_
 rw [rounds_succ]
 go_wp2
 go_light
 go_ret
 exact ⟨rfl, (Below.refl w.heap.size w).alloc (Nat.le_refl _) _⟩
theorem shown_two (n : Nat) (w : World) (hn : 10 ≤ n) (hn2 : n < 100) :
  Calls Tryz.prog 237 #[.int .i64 (n : Int)] w fun e w' => e = .returned (.string (strOf (decS n))) ∧ Below w.heap.size w w' := by
 have HV : decS n = [48 + n / 10, 48 + n % 10] := by unfold decS; rw [if_neg (by omega), if_pos hn2]
 rw [HV]
 have h0 : ¬ (n : Int) < 0 := by omega
 obtain ⟨a, b, hb, e1, e2, d1, m1⟩ := dec_parts n
 obtain ⟨a1, b1, hb1, e3, e4, d2, m2⟩ := dec_parts a
 rw [e1, e2]
 obtain rfl : a1 = 0 := by omega
 obtain rfl : b1 = a := by omega
 have z1 : ((b1 : Int) == 0) = false := by simp; omega
 have q1 : b1 < 1000 := by omega
 have hs := fun w => str_two w b1 b
 clear HV e1 e2 e3 e4 hn hn2
 go_enter Tryz.func237, Tryz.ntmps237
 go_wp2
 refine wp_loop_rounds 2 ?_
 rw [rounds_succ]
 go_wp2
 rw [rounds_succ]
 go_wp2
 go_light
 go_ret
 exact ⟨rfl, (Below.refl w.heap.size w).alloc (Nat.le_refl _) _⟩
theorem shown_three (n : Nat) (w : World) (hn : 100 ≤ n) (hn2 : n < 1000) :
  Calls Tryz.prog 237 #[.int .i64 (n : Int)] w fun e w' => e = .returned (.string (strOf (decS n))) ∧ Below w.heap.size w w' := by
 have HV : decS n = [48 + n / 10 / 10, 48 + n / 10 % 10, 48 + n % 10] := by unfold decS; rw [if_neg (by omega), if_neg (by omega), if_pos hn2]
 rw [HV]
 have h0 : ¬ (n : Int) < 0 := by omega
 obtain ⟨a, b, hb, e1, e2, d1, m1⟩ := dec_parts n
 obtain ⟨a1, b1, hb1, e3, e4, d2, m2⟩ := dec_parts a
 obtain ⟨a2, b2, hb2, e5, e6, d3, m3⟩ := dec_parts a1
 rw [e1, e2, e3, e4]
 obtain rfl : a2 = 0 := by omega
 obtain rfl : b2 = a1 := by omega
 have z1 : ((a : Int) == 0) = false := by simp; omega
 have z2 : ((b2 : Int) == 0) = false := by simp; omega
 have q1 : a < 1000 := by omega
 have q2 : b2 < 1000 := by omega
 have hs := fun w => str_three w b2 b1 b
 clear HV e1 e2 e3 e4 e5 e6 hn hn2
 go_enter Tryz.func237, Tryz.ntmps237
 go_wp2
 refine wp_loop_rounds 3 ?_
 rw [rounds_succ]
 go_wp2
 rw [rounds_succ]
 go_wp2
 rw [rounds_succ]
 go_wp2
 go_light
 go_ret
 exact ⟨rfl, (Below.refl w.heap.size w).alloc (Nat.le_refl _) _⟩
theorem shown_four (n : Nat) (w : World) (hn : 1000 ≤ n) (hn2 : n < 10000) :
  Calls Tryz.prog 237 #[.int .i64 (n : Int)] w fun e w' => e = .returned (.string (strOf (decS n))) ∧ Below w.heap.size w w' := by
 have HV : decS n = [48 + n / 10 / 10 / 10, 48 + n / 10 / 10 % 10, 48 + n / 10 % 10, 48 + n % 10] := by unfold decS; rw [if_neg (by omega), if_neg (by omega), if_neg (by omega)]
 rw [HV]
 have h0 : ¬ (n : Int) < 0 := by omega
 obtain ⟨a, b, hb, e1, e2, d1, m1⟩ := dec_parts n
 obtain ⟨a1, b1, hb1, e3, e4, d2, m2⟩ := dec_parts a
 obtain ⟨a2, b2, hb2, e5, e6, d3, m3⟩ := dec_parts a1
 obtain ⟨a3, b3, hb3, e7, e8, d4, m4⟩ := dec_parts a2
 rw [e1, e2, e3, e4, e5, e6]
 obtain rfl : a3 = 0 := by omega
 obtain rfl : b3 = a2 := by omega
 have z1 : ((a : Int) == 0) = false := by simp; omega
 have z2 : ((a1 : Int) == 0) = false := by simp; omega
 have z3 : ((b3 : Int) == 0) = false := by simp; omega
 have q1 : a < 1001 := by omega
 have q2 : a1 < 1000 := by omega
 have q3 : b3 < 1000 := by omega
 have hs := fun w => str_four w b3 b2 b1 b
 clear HV e1 e2 e3 e4 e5 e6 e7 e8 hn hn2
 go_enter Tryz.func237, Tryz.ntmps237
 go_wp2
 refine wp_loop_rounds 4 ?_
 rw [rounds_succ]
 go_wp2
 rw [rounds_succ]
 go_wp2
 rw [rounds_succ]
 go_wp2
 rw [rounds_succ]
 go_wp2
 go_light
 go_ret
 exact ⟨rfl, (Below.refl w.heap.size w).alloc (Nat.le_refl _) _⟩
theorem shown_go (n : Nat) (w : World) (hn : n ≤ 1000) :
  Calls Tryz.prog 237 #[.int .i64 (n : Int)] w fun e w' => e = .returned (.string (strOf (decS n))) ∧ Below w.heap.size w w' := by
 by_cases h1 : n < 10
 ·exact shown_one n w h1
 by_cases h2 : n < 100
 ·exact shown_two n w (by omega) h2
 by_cases h3 : n < 1000
 ·exact shown_three n w (by omega) h3
 ·exact shown_four n w (by omega) (by omega)
@[go_sem] theorem run_str1i (w : World) (c : Nat) : (convert 29 9 (.slice (some ⟨w.heap.size, 0, none⟩) 1 1)).run Tryz.prog (w.alloc (.cells #[.int .u8 (48 + (c : Int))] 5)) =
  .ok (.string (strOf [48 + c])) (w.alloc (.cells #[.int .u8 (48 + (c : Int))] 5)) :=
 str_block w _ _ 0 [48 + c] (fun j u hu => by
  match j, hu with
  | 0, hu => simpa using hu
  | j + 1, hu => simp at hu)
end
section
theorem testBit_split (a b j : Nat) (ha : a < 256) : (a + 256 * b).testBit j = if j < 8 then a.testBit j else b.testBit (j - 8) := by
 rw [Nat.add_comm, show (256 : Nat) = 2 ^ 8 from rfl]
 exact Nat.testBit_two_pow_mul_add b ha j
theorem land_split (x m n : Nat) (hm : m < 256) : x &&& (m + 256 * n) = ((x % 256) &&& m) + 256 * ((x / 256) &&& n) := by
 apply Nat.eq_of_testBit_eq
 intro j
 have h1 : (x % 256) &&& m < 256 := Nat.and_lt_two_pow (n := 8) _ hm
 rw [testBit_split _ _ _ h1, Nat.testBit_and, testBit_split _ _ _ hm]
 by_cases hj : j < 8
 ·rw [if_pos hj, if_pos hj, Nat.testBit_and, show (256 : Nat) = 2 ^ 8 from rfl, Nat.testBit_mod_two_pow]
  simp [hj]
 ·rw [if_neg hj, if_neg hj, Nat.testBit_and, show (256 : Nat) = 2 ^ 8 from rfl, Nat.testBit_div_two_pow]
  congr 2
  omega
def mask (m : Nat) : Nat → Nat
 | 0 => 0
 | n + 1 => m + 256 * mask m n
def s1 (n x : Nat) : Nat := ((x / 2) &&& mask 0x55 n) + (x &&& mask 0x55 n)
def s2 (n x : Nat) : Nat := ((x / 4) &&& mask 0x33 n) + (x &&& mask 0x33 n)
def s3 (n x : Nat) : Nat := (x / 16 + x) &&& mask 0x0f n
def f1 (b : Nat) : Nat := ((b / 2) &&& 0x55) + (b &&& 0x55)
def f2 (b : Nat) : Nat := ((b / 4) &&& 0x33) + (b &&& 0x33)
def f3 (b : Nat) : Nat := (b / 16 + b) &&& 0x0f
theorem cross1 : ∀ y : Fin 512, (y.val / 2) &&& 0x55 = (y.val % 256 / 2) &&& 0x55 := by decide +kernel
theorem cross2 : ∀ y : Fin 1024, (y.val / 4) &&& 0x33 = (y.val % 256 / 4) &&& 0x33 := by decide +kernel
theorem s1_step (n x : Nat) : s1 (n + 1) x = f1 (x % 256) + 256 * s1 n (x / 256) := by
 unfold s1 f1
 rw [show mask 0x55 (n + 1) = 0x55 + 256 * mask 0x55 n from rfl, land_split _ _ _ (by decide), land_split _ _ _ (by decide)]
 have h := cross1 ⟨x % 512, Nat.mod_lt _ (by decide)⟩
 dsimp only at h
 rw [show x / 2 % 256 = x % 512 / 2 by omega, h, show x % 512 % 256 = x % 256 by omega, show x / 2 / 256 = x / 256 / 2 by omega]
 omega
theorem s2_step (n x : Nat) : s2 (n + 1) x = f2 (x % 256) + 256 * s2 n (x / 256) := by
 unfold s2 f2
 rw [show mask 0x33 (n + 1) = 0x33 + 256 * mask 0x33 n from rfl, land_split _ _ _ (by decide), land_split _ _ _ (by decide)]
 have h := cross2 ⟨x % 1024, Nat.mod_lt _ (by decide)⟩
 dsimp only at h
 rw [show x / 4 % 256 = x % 1024 / 4 by omega, h, show x % 1024 % 256 = x % 256 by omega, show x / 4 / 256 = x / 256 / 4 by omega]
 omega
theorem cross3 : ∀ y : Fin 69, ∀ t : Fin 5, (y.val / 16 + y.val + 16 * t.val) &&& 0x0f = (y.val / 16 + y.val) &&& 0x0f := by decide +kernel
theorem s3_step (n x : Nat) (h1 : x % 256 < 69) (h2 : x / 256 % 16 < 5) : s3 (n + 1) x = f3 (x % 256) + 256 * s3 n (x / 256) := by
 unfold s3 f3
 rw [show mask 0x0f (n + 1) = 0x0f + 256 * mask 0x0f n from rfl, land_split _ _ _ (by decide)]
 have h := cross3 ⟨x % 256, h1⟩ ⟨x / 256 % 16, h2⟩
 dsimp only at h
 rw [show (x / 16 + x) % 256 = x % 256 / 16 + x % 256 + 16 * (x / 256 % 16) by omega, h, show (x / 16 + x) / 256 = x / 256 / 16 + x / 256 by omega]
theorem f1_lt : ∀ b : Fin 256, f1 b.val < 256 := by decide +kernel
theorem f2f1_lt : ∀ b : Fin 256, f2 (f1 b.val) < 69 ∧ f2 (f1 b.val) % 16 < 5 := by decide +kernel
def pop (b : Nat) : Nat := f3 (f2 (f1 b))
theorem pop_le : ∀ b : Fin 256, pop b.val ≤ 8 := by decide +kernel
def cnts : Nat → Nat → Nat
 | 0, _ => 0
 | n + 1, x => pop (x % 256) + 256 * cnts n (x / 256)
theorem s123 : ∀ (n x : Nat), s3 n (s2 n (s1 n x)) = cnts n x ∧ (0 < n → s2 n (s1 n x) % 16 < 5)
 | 0, x => by simp [s3, s2, s1, mask, cnts]
 | n + 1, x => by
  obtain ⟨ih, ihn⟩ := s123 n (x / 256)
  have hb : x % 256 < 256 := Nat.mod_lt _ (by decide)
  have a1 := f1_lt ⟨x % 256, hb⟩
  have a2 := f2f1_lt ⟨x % 256, hb⟩
  dsimp only at a1 a2
  have e2 : s2 (n + 1) (s1 (n + 1) x) = f2 (f1 (x % 256)) + 256 * s2 n (s1 n (x / 256)) := by
   rw [s2_step, s1_step, show (f1 (x % 256) + 256 * s1 n (x / 256)) % 256 = f1 (x % 256) by omega, show (f1 (x % 256) + 256 * s1 n (x / 256)) / 256 = s1 n (x / 256) by omega]
  refine ⟨?_, fun _ => by rw [e2]; omega⟩
  have hz : s2 n (s1 n (x / 256)) % 16 < 5 := by
   rcases Nat.eq_zero_or_pos n with h0 | h0
   ·subst h0; simp [s2, s1, mask]
   ·exact ihn h0
  rw [e2, s3_step _ _ (by omega) (by rw [show (f2 (f1 (x % 256)) + 256 * s2 n (s1 n (x / 256))) / 256 = s2 n (s1 n (x / 256)) by omega]; exact hz),
   show (f2 (f1 (x % 256)) + 256 * s2 n (s1 n (x / 256))) % 256 = f2 (f1 (x % 256)) by omega, show (f2 (f1 (x % 256)) + 256 * s2 n (s1 n (x / 256))) / 256 = s2 n (s1 n (x / 256)) by omega, ih]
  rfl
def cnt (p : Nat → Bool) : Nat → Nat
 | 0 => 0
 | n + 1 => cnt p n + (p n).toNat
theorem cnt_le (p : Nat → Bool) : ∀ n, cnt p n ≤ n
  | 0 => Nat.le_refl _
  | n + 1 => by have := cnt_le p n; have : (p n).toNat ≤ 1 := by cases p n <;> decide
                unfold cnt; omega
theorem cnt_congr {p q : Nat → Bool} : ∀ n, (∀ k, k < n → p k = q k) → cnt p n = cnt q n
 | 0, _ => rfl
 | n + 1, h => by unfold cnt; rw [cnt_congr n (fun k hk => h k (by omega)), h n (by omega)]
theorem cnt_add (p : Nat → Bool) (m : Nat) : ∀ n, cnt p (m + n) = cnt p m + cnt (fun k => p (m + k)) n
 | 0 => by simp [cnt]
 | n + 1 => by rw [← Nat.add_assoc]; show cnt p (m + n) + (p (m + n)).toNat = cnt p m + (cnt (fun k => p (m + k)) n + (p (m + n)).toNat); rw [cnt_add p m n]; omega
theorem pop_cnt : ∀ b : Fin 256, pop b.val = cnt b.val.testBit 8 := by decide +kernel
def sums : Nat → Nat → Nat
 | 0, _ => 0
 | n + 1, x => pop (x % 256) + sums n (x / 256)
theorem sums_cnt : ∀ (n x : Nat), sums n x = cnt x.testBit (8 * n)
 | 0, x => rfl
 | n + 1, x => by
  unfold sums
  rw [sums_cnt n, pop_cnt ⟨x % 256, Nat.mod_lt _ (by decide)⟩, show 8 * (n + 1) = 8 + 8 * n by omega, cnt_add]
  dsimp only
  congr 1
  ·apply cnt_congr
   intro k hk
   rw [show (256 : Nat) = 2 ^ 8 from rfl, Nat.testBit_mod_two_pow]
   simp [hk]
  ·apply cnt_congr
   intro k _
   rw [show (256 : Nat) = 2 ^ 8 from rfl, Nat.testBit_div_two_pow, Nat.add_comm]
def fold3 (z : Nat) : Nat := let u := z + z / 256; let v := u + u / 65536; (v + v / 4294967296) % 128
theorem d1 {a b : Nat} (h : a < 256) : (a + 256 * b) / 256 = b := by omega
theorem m1 (a b : Nat) : (a + 256 * b) % 128 = a % 128 := by omega
theorem a1 (a b c d : Nat) : (a + 256 * b) + (c + 256 * d) = (a + c) + 256 * (b + d) := by omega
theorem a0 (a b c : Nat) : (a + 256 * b) + c = (a + c) + 256 * b := by omega
theorem fold3_eq (c0 c1 c2 c3 c4 c5 c6 c7 : Nat) (h0 : c0 ≤ 8) (h1 : c1 ≤ 8) (h2 : c2 ≤ 8) (h3 : c3 ≤ 8) (h4 : c4 ≤ 8) (h5 : c5 ≤ 8) (h6 : c6 ≤ 8) (h7 : c7 ≤ 8) :
  fold3 (c0 + 256 * (c1 + 256 * (c2 + 256 * (c3 + 256 * (c4 + 256 * (c5 + 256 * (c6 + 256 * c7))))))) = c0 + c1 + (c2 + c3) + (c4 + c5 + (c6 + c7)) := by
 unfold fold3
 dsimp only
 rw [d1 (show c0 < 256 by omega)]
 have e2 : c0 + 256 * (c1 + 256 * (c2 + 256 * (c3 + 256 * (c4 + 256 * (c5 + 256 * (c6 + 256 * c7)))))) + (c1 + 256 * (c2 + 256 * (c3 + 256 * (c4 + 256 * (c5 + 256 * (c6 + 256 * c7)))))) =
   (c0 + c1) + 256 * ((c1 + c2) + 256 * ((c2 + c3) + 256 * ((c3 + c4) + 256 * ((c4 + c5) + 256 * ((c5 + c6) + 256 * ((c6 + c7) + 256 * c7)))))) := by
  simp only [Nat.mul_add]; clear h0 h1 h2 h3 h4 h5 h6 h7; omega
 rw [e2, show (65536 : Nat) = 256 * 256 from rfl, ← Nat.div_div_eq_div_mul, d1 (show c0 + c1 < 256 by omega), d1 (show c1 + c2 < 256 by omega)]
 have e3 : (c0 + c1) + 256 * ((c1 + c2) + 256 * ((c2 + c3) + 256 * ((c3 + c4) + 256 * ((c4 + c5) + 256 * ((c5 + c6) + 256 * ((c6 + c7) + 256 * c7)))))) + ((c2 + c3) + 256 * ((c3 + c4) + 256 * ((c4 + c5) + 256 * ((c5 + c6) + 256 * ((c6 + c7) + 256 * c7))))) =
   (c0 + c1 + (c2 + c3)) + 256 * ((c1 + c2 + (c3 + c4)) + 256 * ((c2 + c3 + (c4 + c5)) + 256 * ((c3 + c4 + (c5 + c6)) + 256 * ((c4 + c5 + (c6 + c7)) + 256 * ((c5 + c6 + c7) + 256 * ((c6 + c7) + 256 * c7)))))) := by
  simp only [Nat.mul_add]; clear h0 h1 h2 h3 h4 h5 h6 h7; omega
 rw [e3, show (4294967296 : Nat) = 256 * 256 * 256 * 256 from rfl, ← Nat.div_div_eq_div_mul, ← Nat.div_div_eq_div_mul, ← Nat.div_div_eq_div_mul,
  d1 (show c0 + c1 + (c2 + c3) < 256 by omega), d1 (show c1 + c2 + (c3 + c4) < 256 by omega), d1 (show c2 + c3 + (c4 + c5) < 256 by omega), d1 (show c3 + c4 + (c5 + c6) < 256 by omega)]
 rw [a1, m1]
 omega
theorem fold3_cnts (x : Nat) : fold3 (cnts 8 x) = sums 8 x := by
 have h : ∀ y, pop (y % 256) ≤ 8 := fun y => pop_le ⟨y % 256, Nat.mod_lt _ (by decide)⟩
 have e := fold3_eq _ _ _ _ _ _ _ _ (h x) (h (x / 256)) (h (x / 256 / 256)) (h (x / 256 / 256 / 256)) (h (x / 256 / 256 / 256 / 256)) (h (x / 256 / 256 / 256 / 256 / 256)) (h (x / 256 / 256 / 256 / 256 / 256 / 256)) (h (x / 256 / 256 / 256 / 256 / 256 / 256 / 256))
 simp only [cnts, sums, Nat.mul_zero, Nat.add_zero]
 rw [e]
 simp only [Nat.add_assoc]
end
section
open Go.RowKit
theorem and64 (a M : Nat) (ha : a < 18446744073709551616) (hM : M < 18446744073709551616) : bits .and .u64 (a : Int) (M : Int) = ((a &&& M : Nat) : Int) := u64_and_nat a M ha hM
theorem wrapN (a : Nat) (h : a < 18446744073709551616) : IntKind.u64.wrap (a : Int) = (a : Int) := by rw [IntKind.wrap_u64]; omega
theorem i64_and127 (a : Nat) (ha : a < 9223372036854775808) : bits .and .i64 (a : Int) 127 = ((a % 128 : Nat) : Int) := by
 have hx : a &&& 127 = a % 128 := Nat.and_two_pow_sub_one_eq_mod a 7
 show IntKind.i64.wrap ((BitVec.ofInt 64 (a : Int) &&& BitVec.ofInt 64 (127 : Int)).toNat : Int) = _
 have e1 : (BitVec.ofInt 64 (a : Int)).toNat = a := by rw [BitVec.ofInt_natCast, BitVec.toNat_ofNat]; exact Nat.mod_eq_of_lt (by omega)
 have e2 : (BitVec.ofInt 64 (127 : Int)).toNat = 127 := by decide
 rw [BitVec.toNat_and, e1, e2, hx, IntKind.wrap_i64]
 omega
theorem mask55 : mask 0x55 8 = 6148914691236517205 := by decide
theorem mask33 : mask 0x33 8 = 3689348814741910323 := by decide
theorem mask0f : mask 0x0f 8 = 1085102592571150095 := by decide
theorem st1 (x : Nat) (hx : x < 18446744073709551616) : IntKind.u64.wrap (bits .and .u64 ((x : Int) / 2) 6148914691236517205 + bits .and .u64 (x : Int) 6148914691236517205) = ((s1 8 x : Nat) : Int) ∧ s1 8 x < 18446744073709551616 := by
 have e : ((x : Int) / 2) = ((x / 2 : Nat) : Int) := by omega
 have h1 : (x / 2) &&& 6148914691236517205 ≤ 6148914691236517205 := Nat.and_le_right
 have h2 : x &&& 6148914691236517205 ≤ 6148914691236517205 := Nat.and_le_right
 have b1 := and64 (x / 2) 6148914691236517205 (by omega) (by decide)
 have b2 := and64 x 6148914691236517205 hx (by decide)
 rw [show (((6148914691236517205 : Nat)) : Int) = 6148914691236517205 from rfl] at b1 b2
 unfold s1
 rw [mask55, e, b1, b2, ← Int.natCast_add]
 exact ⟨wrapN _ (by omega), by omega⟩
theorem st2 (x : Nat) (hx : x < 18446744073709551616) : IntKind.u64.wrap (bits .and .u64 ((x : Int) / 4) 3689348814741910323 + bits .and .u64 (x : Int) 3689348814741910323) = ((s2 8 x : Nat) : Int) ∧ s2 8 x ≤ 7378697629483820646 := by
 have e : ((x : Int) / 4) = ((x / 4 : Nat) : Int) := by omega
 have h1 : (x / 4) &&& 3689348814741910323 ≤ 3689348814741910323 := Nat.and_le_right
 have h2 : x &&& 3689348814741910323 ≤ 3689348814741910323 := Nat.and_le_right
 have b1 := and64 (x / 4) 3689348814741910323 (by omega) (by decide)
 have b2 := and64 x 3689348814741910323 hx (by decide)
 rw [show (((3689348814741910323 : Nat)) : Int) = 3689348814741910323 from rfl] at b1 b2
 unfold s2
 rw [mask33, e, b1, b2, ← Int.natCast_add]
 exact ⟨wrapN _ (by omega), by omega⟩
theorem st3 (x : Nat) (hx : x ≤ 7378697629483820646) : bits .and .u64 (IntKind.u64.wrap ((x : Int) / 16 + (x : Int))) 1085102592571150095 = ((s3 8 x : Nat) : Int) ∧ s3 8 x ≤ 1085102592571150095 := by
 have e : ((x : Int) / 16 + (x : Int)) = ((x / 16 + x : Nat) : Int) := by omega
 have b1 := and64 (x / 16 + x) 1085102592571150095 (by omega) (by decide)
 rw [show (((1085102592571150095 : Nat)) : Int) = 1085102592571150095 from rfl] at b1
 unfold s3
 rw [mask0f, e, wrapN _ (by omega), b1]
 exact ⟨rfl, Nat.and_le_right⟩
theorem ones_go (x : Nat) (w : World) (hx : x < 18446744073709551616) :
  Calls Tryz.prog 157 #[.int .u64 (x : Int)] w fun e w' => e = .returned (.int .i64 ((cnt x.testBit 64 : Nat) : Int)) ∧ w = w' := by
 go_enter Tryz.func157, Tryz.ntmps157
 go_wp2
 go_light
 go_ret
 refine ⟨ret_i ?_, rfl⟩
 obtain ⟨e1, l1⟩ := st1 x hx
 obtain ⟨e2, l2⟩ := st2 (s1 8 x) l1
 obtain ⟨e3, l3⟩ := st3 (s2 8 (s1 8 x)) l2
 have ef : fold3 (s3 8 (s2 8 (s1 8 x))) = cnt x.testBit 64 := by rw [(s123 8 x).1, fold3_cnts, sums_cnt]
 rw [e1, e2, e3]
 generalize s3 8 (s2 8 (s1 8 x)) = z at *
 rw [← ef]
 unfold fold3
 dsimp only
 clear e1 e2 e3 l1 l2 ef
 have q1 : ((z : Int) + (z : Int) / 256) = ((z + z / 256 : Nat) : Int) := by omega
 rw [q1, wrapN _ (by omega)]
 generalize hu : z + z / 256 = u
 have lu : u ≤ 2170205185142300190 := by omega
 have q2 : ((u : Int) + (u : Int) / 65536) = ((u + u / 65536 : Nat) : Int) := by omega
 rw [q2, wrapN _ (by omega)]
 generalize hv : u + u / 65536 = v
 have lv : v ≤ 2180205185142300190 := by omega
 have q3 : ((v : Int) + (v : Int) / 4294967296) = ((v + v / 4294967296 : Nat) : Int) := by omega
 rw [q3, wrapN _ (by omega), show wrap64 ((v + v / 4294967296 : Nat) : Int) = ((v + v / 4294967296 : Nat) : Int) by unfold wrap64; omega]
 exact i64_and127 _ (by omega)
theorem cnt_word (p : Nat → Bool) (i : Nat) : cnt (word p i).testBit 64 = cnt (fun k => p (64 * i + k)) 64 :=
 cnt_congr 64 fun k hk => by rw [testBit_word]; simp [hk]
theorem cnt_words (p : Nat → Bool) : cnt (word p 0).testBit 64 + cnt (word p 1).testBit 64 + cnt (word p 2).testBit 64 + cnt (word p 3).testBit 64 = cnt p 256 := by
 rw [cnt_word, cnt_word, cnt_word, cnt_word, show 256 = 64 + (64 + (64 + 64)) from rfl, cnt_add, cnt_add, cnt_add]
 simp only [Nat.mul_zero, Nat.zero_add, ← Nat.add_assoc, Nat.mul_one, show 64 * 2 = 64 + 64 from rfl, show 64 * 3 = 64 + 64 + 64 from rfl]
theorem count_go (p : Nat → Bool) (w : World) :
  Calls Tryz.prog 121 #[.agg #[.int .u64 (word p 0), .int .u64 (word p 1), .int .u64 (word p 2), .int .u64 (word p 3)]] w fun e w' => e = .returned (.int .i64 ((cnt p 256 : Nat) : Int)) ∧ Below w.heap.size w w' := by
 go_enter Tryz.func121, Tryz.ntmps121
 go_wp2
 refine wp_loop_rounds 5 ?_
 rw [rounds_succ]
 go_wp2_with (go_at_call 157; refine (ones_go _ _ (word_lt _ _)).mono ?_; rintro e w2 ⟨rfl, rfl⟩)
 rw [rounds_succ]
 go_wp2_with (go_at_call 157; refine (ones_go _ _ (word_lt _ _)).mono ?_; rintro e w2 ⟨rfl, rfl⟩)
 rw [rounds_succ]
 go_wp2_with (go_at_call 157; refine (ones_go _ _ (word_lt _ _)).mono ?_; rintro e w2 ⟨rfl, rfl⟩)
 rw [rounds_succ]
 go_wp2_with (go_at_call 157; refine (ones_go _ _ (word_lt _ _)).mono ?_; rintro e w2 ⟨rfl, rfl⟩)
 rw [rounds_succ]
 go_wp2
 go_light
 go_ret
 refine ⟨ret_i ?_, (Below.refl _ _).alloc (Nat.le_refl _) _⟩
 have e := cnt_words p
 have l0 := cnt_le (word p 0).testBit 64
 have l1 := cnt_le (word p 1).testBit 64
 have l2 := cnt_le (word p 2).testBit 64
 have l3 := cnt_le (word p 3).testBit 64
 rw [← e]
 unfold wrap64
 omega
end
section
open Go.RowKit Go.Shelf
attribute [local go_sem] Oper.semAt_some
set_option maxRecDepth 100000
theorem one_new (W : World) (v : Value) (t : TypeId) : (W.alloc (.cells #[v] t)).cell? ⟨W.heap.size, 0, none⟩ = some v ∧ (W.alloc (.cells #[v] t)).frozen? ⟨W.heap.size, 0, none⟩ = false :=
 ⟨(Blk.new W t #[v]).cell 0, (Blk.new W t #[v]).frozen 0⟩
theorem one_later {W : World} {a : Addr} {v : Value} (o : Obj) (h : W.cell? a = some v ∧ W.frozen? a = false) : (W.alloc o).cell? a = some v ∧ (W.alloc o).frozen? a = false :=
 ⟨cell_kept h.1 (World.grownBy_alloc W o none) (fun r e => by cases e), (frozen_kept h.1 (World.grownBy_alloc W o none) (fun r e => by cases e)).trans h.2⟩
theorem elems_pre (p : Nat → Bool) {m M : Nat} (h : m ≤ M) : ∃ l, elems p M = elems p m ++ l := by
 obtain ⟨d, rfl⟩ : ∃ d, M = m + d := ⟨M - m, by omega⟩
 clear h
 induction d with
 | zero => exact ⟨[], by simp⟩
 | succ d ih =>
  obtain ⟨l, hl⟩ := ih
  exact ⟨l ++ (if p (m + d) then [m + d] else []), by rw [← Nat.add_assoc, elems_succ, hl, List.append_assoc]⟩
theorem leastl_in (n : Nat) (hn : 3 ≤ n) (p : Nat → Bool) (c : Nat) (l0 : List Nat) (hp : elems p 256 = c :: l0) (w : World) (hT : TabAt 0 Lib.deBruijn64tab w) (hw0 : 0 < w.heap.size) :
  CallsIn Fence.wide n Tryz.prog 152 #[.agg #[.int .u64 (word p 0), .int .u64 (word p 1), .int .u64 (word p 2), .int .u64 (word p 3)]] w fun e W' => e = .returned (.int .i64 (c : Int)) ∧ Below w.heap.size w W' := by
 have h1 : 1 ≤ n := by omega
 have hc256 : c < 256 := elems_lt (m := 256) (p := p) (by rw [hp]; simp)
 refine callsIn_of_wp_marks Tryz.func152 rfl trivial ?_ rfl
 simp only [Tryz.ntmps152, List.size_toArray, List.length_cons, List.length_nil, Nat.reduceAdd, Nat.reduceSub, Array.replicate_succ, Array.replicate_zero, List.push_toArray, List.append_toArray, List.nil_append, List.cons_append]
 gi_wp2_with (refine ⟨trivial, ?_⟩; gi_at_call 180; refine (callsIn_wide.2 (each_go p _)).mono ?_; rintro e w' ⟨rfl, rfl⟩)
 have c1 := one_new (w.alloc (.cells #[.int .u64 (word p 0), .int .u64 (word p 1), .int .u64 (word p 2), .int .u64 (word p 3)] 25)) (.int .i64 0) 3
 simp only [World.size_alloc] at c1
 have hB0 : Below w.heap.size w (((w.alloc (.cells #[.int .u64 (word p 0), .int .u64 (word p 1), .int .u64 (word p 2), .int .u64 (word p 3)] 25)).alloc (.cells #[.int .i64 0] 3)).alloc (.cells #[.int .u64 (word p 0), .int .u64 (word p 1), .int .u64 (word p 2), .int .u64 (word p 3)] 25)) := (((Below.refl _ w).alloc (Nat.le_refl _) _).alloc (by simp) _).alloc (by simp; omega) _
 have bS : Blk (((w.alloc (.cells #[.int .u64 (word p 0), .int .u64 (word p 1), .int .u64 (word p 2), .int .u64 (word p 3)] 25)).alloc (.cells #[.int .i64 0] 3)).alloc (.cells #[.int .u64 (word p 0), .int .u64 (word p 1), .int .u64 (word p 2), .int .u64 (word p 3)] 25)) (w.heap.size + 1 + 1) 25 #[.int .u64 (word p 0), .int .u64 (word p 1), .int .u64 (word p 2), .int .u64 (word p 3)] := Blk.new_at (by simp)
 refine wpIn_rangeFunc_ownG rfl h1 (gf := 218) (lb := #[.pointer (some ⟨w.heap.size + 1 + 1, 0, none⟩)]) rfl trivial (enters_of Tryz.func218 (by kernel_rfl) rfl)
  (each_stops (n - 1) (by omega) p (w.heap.size + 1 + 1) w.heap.size _ hw0 (by simp) bS (TabAt.below hB0 hw0 hT)) belowK_t (belowK_b (by simp; omega)) (Below.refl _ _) (fun _ => rfl)
  (fun pre W => (pre = [] ∧ W.cell? ⟨w.heap.size + 1, 0, none⟩ = some (.int .i64 0) ∧ W.frozen? ⟨w.heap.size + 1, 0, none⟩ = false) ∧ Below w.heap.size w W)
  (fun k pre W => (∃ x, k = .ret ∧ pre = [x] ∧ W.cell? ⟨w.heap.size + 1, 0, none⟩ = some (.int .i64 ((x % 256 : Nat) : Int))) ∧ Below w.heap.size w W)
  (OwnFrom.and (Own.from (fun s A B row hs hg hr => ⟨hs.1, cell_kept hs.2.1 hg hr, (frozen_kept hs.2.1 hg hr).trans hs.2.2⟩) _) (ownFrom_below (Nat.le_refl _) (by simp; omega)))
  (fun c => OwnFrom.and (Own.from (fun s A B row hs hg hr => by obtain ⟨x, h1, h2, h3⟩ := hs; exact ⟨x, h1, h2, cell_kept h3 hg hr⟩) _) (ownFrom_below (Nat.le_refl _) (by simp; omega)))
  ⟨⟨rfl, one_later _ c1⟩, hB0⟩
  (fun x => { tmps := #[.agg #[.int .u64 (word p 0), .int .u64 (word p 1), .int .u64 (word p 2), .int .u64 (word p 3)], .pointer (some ⟨w.heap.size, 0, none⟩), .pointer (some ⟨w.heap.size + 1, 0, none⟩), .int .u8 ((x % 256 : Nat) : Int), .agg #[.int .u64 (word p 0), .int .u64 (word p 1), .int .u64 (word p 2), .int .u64 (word p 3)], .func (.func 218) #[] #[.pointer (some ⟨w.heap.size + 1 + 1, 0, none⟩)], .int .u8 ((x % 256 : Nat) : Int), undef, undef], defers := [] }) ?assign ?body ?done ?stop
 case assign =>
  intro l x W K hK
  unfold byteArg
  gi_wp2
  exact hK
 case body =>
  rintro l pre x W ⟨⟨rfl, hcr, hfr⟩, hB⟩ _
  have hx : x % 256 < 256 := Nat.mod_lt _ (by decide)
  generalize hxc : x % 256 = c' at *
  gi_wp2
  exact ⟨(KeepsOthers.setCell _ _ _).from _, ⟨x, rfl, rfl, by rw [hxc]; exact World.cell?_setCell_same' _ _ _ (by rw [hcr]; rfl)⟩, hB.setCell (p := ⟨w.heap.size + 1, 0, none⟩) (by simp) _⟩
 case done =>
  rintro D ys W hD rfl ⟨⟨hne, _, _⟩, hB⟩ hK
  rw [hp] at hne
  cases hne
 case stop =>
  rintro D k pre W hD ⟨m, hm, hpre⟩ ⟨⟨x, rfl, rfl, hcr⟩, hB⟩ hK
  have hxc : x = c := by
   obtain ⟨l, hl⟩ := elems_pre p hm
   rw [← hpre, hp] at hl
   simpa using (List.cons.inj hl).1.symm
  subst hxc
  rw [Nat.mod_eq_of_lt hc256] at hcr
  gi_wp2
  refine ⟨by simp, .inl ⟨_, _, rfl, run_takeDeferred hK, ?_⟩⟩
  have hc5 := cell_kept hcr (grownBy_putObj' _ D (.deferred none)) (fun r e => by cases e; exact ⟨_, hK, rfl⟩)
  refine ⟨.int .i64 (x : Int), ?_, rfl, hB.trans (belowK_b (w := w) (Nat.le_refl _) W D _ _ (by simp at hD; omega) hK rfl rfl)⟩
  simp [results, Tryz.f152, go_sem, hc5]
theorem leastl_go (p : Nat → Bool) (c : Nat) (l0 : List Nat) (hp : elems p 256 = c :: l0) (w : World) (hT : TabAt 0 Lib.deBruijn64tab w) (hw0 : 0 < w.heap.size) :
  Calls Tryz.prog 152 #[.agg #[.int .u64 (word p 0), .int .u64 (word p 1), .int .u64 (word p 2), .int .u64 (word p 3)]] w fun e W' => e = .returned (.int .i64 (c : Int)) ∧ Below w.heap.size w W' :=
 callsIn_wide.1 (leastl_in 3 (Nat.le_refl _) p c l0 hp w hT hw0)
theorem least_go (p : Nat → Bool) (c : Nat) (hp : elems p 256 = [c]) (w : World) (hT : TabAt 0 Lib.deBruijn64tab w) (hw0 : 0 < w.heap.size) :
  Calls Tryz.prog 152 #[.agg #[.int .u64 (word p 0), .int .u64 (word p 1), .int .u64 (word p 2), .int .u64 (word p 3)]] w fun e W' => e = .returned (.int .i64 (c : Int)) ∧ Below w.heap.size w W' :=
 leastl_go p c [] hp w hT hw0
end
section
open Go.RowKit
def Took (S b o len cap : Nat) (N : Nat) (L : List Lex) (x : Lex) (next k q : Int) (W : World) (e : Ending) (W' : World) : Prop :=
 e = .returned (.tuple #[]) ∧ Below N W W' ∧ ∃ v', Spl W' S b o len cap next v' k q ∧ W'.ownsRow N 143 8 v' (L.length + 1) (lexCells (L ++ [x]))
theorem set_go (S b o len cap : Nat) (i : Int) (v : Value) (k q : Int) (N : Nat) (L : List Lex) (p : Nat → Bool) (next : Int) (W : World) (hS : Spl W S b o len cap i v k q) (hrow : W.ownsRow N 143 8 v L.length (lexCells L)) (hN : N ≤ S) (hL : L.length ≤ 100000) :
  Calls Tryz.prog 194 #[.pointer (some ⟨S, 0, none⟩), .agg #[.int .u64 (word p 0), .int .u64 (word p 1), .int .u64 (word p 2), .int .u64 (word p 3)], .int .i64 next] W (Took S b o len cap N L ⟨1, i, p, 0, 0⟩ next k q W) := by
 have hlt := Blk.lt hS
 have hB := Lib.hid ((Below.refl N W).alloc (by omega) (.cells #[.int .u64 (word p 0), .int .u64 (word p 1), .int .u64 (word p 2), .int .u64 (word p 3)] 25))
 have Hp := Lib.hid (put_go S b o len cap i v k q N L ⟨1, 0, p, 0, 0⟩ next (W.alloc (.cells #[.int .u64 (word p 0), .int .u64 (word p 1), .int .u64 (word p 2), .int .u64 (word p 3)] 25)) (Blk.alloc hS _) (hrow.alloc _) hN hL)
 clear hS hrow
 go_enter Tryz.func194, Tryz.ntmps194
 go_wp2_with fail
 refine Hp.out.mono ?_
 rintro e w1 ⟨rfl, hb1, hv⟩
 have HV := Lib.hid hv
 have HB1 := Lib.hid hb1
 clear hv hb1
 go_wp2
 go_end0
 exact ⟨rfl, hB.out.trans HB1.out, HV.out⟩
theorem sfail_go (S b o len cap : Nat) (i : Int) (v : Value) (k q : Int) (N : Nat) (kind : Int) (W : World) (hS : Spl W S b o len cap i v k q) (hN : N ≤ S) :
  Calls Tryz.prog 197 #[.pointer (some ⟨S, 0, none⟩), .int .i64 kind] W fun e W' => e = .returned (.tuple #[]) ∧ Below N W W' ∧ Spl W' S b o len cap i v kind i := by
 obtain ⟨s0, s1, s2, s3, s4, f0, f1, f2, f3, f4⟩ := hS.cells
 have HS := Lib.hid hS
 clear hS
 go_enter Tryz.func197, Tryz.ntmps197
 go_wp2
 go_light
 go_end0
 exact ⟨rfl, ((Below.refl N W).setCell (p := ⟨S, 3, none⟩) hN _).setCell (p := ⟨S, 4, none⟩) hN _, (Blk.set_ HS.out 3 _).set_ 4 _⟩
theorem dot_go (w : World) :
  Calls Tryz.prog 195 #[] w fun e w' => e = .returned (.agg #[.int .u64 (word dotSet 0), .int .u64 (word dotSet 1), .int .u64 (word dotSet 2), .int .u64 (word dotSet 3)]) ∧ Below w.heap.size w w' := by
 have HB := Lib.hid (((Below.refl w.heap.size w).alloc (Nat.le_refl _) (.cells #[.int .u64 0, .int .u64 0, .int .u64 0, .int .u64 0] 25)).alloc (by simp) (.cells #[.int .u8 10] 5))
 have hz : Blk ((w.alloc (.cells #[.int .u64 0, .int .u64 0, .int .u64 0, .int .u64 0] 25)).alloc (.cells #[.int .u8 10] 5)) w.heap.size 25 #[.int .u64 0, .int .u64 0, .int .u64 0, .int .u64 0] := (Blk.new _ _ _).alloc _
 go_enter Tryz.func195, Tryz.ntmps195
 go_wp2_with fail
 refine (of_any _ [10] 1 _ (bytes_new _ _ [10] _ _ (by simp) rfl (by decide) (by decide))).mono ?_
 rintro e w1 ⟨rfl, hb1⟩
 have HB1 := Lib.hid (HB.out.trans (hb1.mono HB.out.size))
 have Hz1 := Lib.hid (hz.below hb1 hz.lt)
 clear hb1 hz
 go_wp2_with fail
 refine (not_any _ _).mono ?_
 rintro e w2 ⟨rfl, hb2⟩
 have HB2 := Lib.hid (HB1.out.trans (hb2.mono HB1.out.size))
 have Hz2 := Lib.hid (Hz1.out.below hb2 Hz1.out.lt)
 obtain ⟨z0, z1, z2, z3, g0, g1, g2, g3⟩ := Hz2.out.c4
 clear hb2
 go_wp2
 go_light
 refine bodyPost_ret (v := .agg #[.int .u64 (word dotSet 0), .int .u64 (word dotSet 1), .int .u64 (word dotSet 2), .int .u64 (word dotSet 3)]) (ret_set Tryz.results195 rfl Hz2.out.set4) rfl ⟨rfl, below_set4 HB2.out (Nat.le_refl _) _ _ _ _⟩
def Since (n : Nat) (w0 w : World) : Prop := Below n w0 w ∧ n ≤ w0.heap.size
theorem Since.cells {n : Nat} {w0 w : World} (h : Since n w0 w) : ∀ b o, b < n → w.cell? ⟨b, o, none⟩ = w0.cell? ⟨b, o, none⟩ := (bcell h.1).1
theorem since_step {n : Nat} {w0 w w' : World} (h : (∀ b o, b < n → w.cell? ⟨b, o, none⟩ = w0.cell? ⟨b, o, none⟩) ∧ Since n w0 w) (hb : Below w.heap.size w w') : (∀ b o, b < n → w'.cell? ⟨b, o, none⟩ = w0.cell? ⟨b, o, none⟩) ∧ Since n w0 w' := by
 have h2 : Since n w0 w' := ⟨h.2.1.trans (hb.mono (Nat.le_trans h.2.2 h.2.1.size)), h.2.2⟩
 exact ⟨h2.cells, h2⟩
theorem since_alloc {n : Nat} {w0 w : World} (h : (∀ b o, b < n → w.cell? ⟨b, o, none⟩ = w0.cell? ⟨b, o, none⟩) ∧ Since n w0 w) (o : Obj) : (∀ b i, b < n → (w.alloc o).cell? ⟨b, i, none⟩ = w0.cell? ⟨b, i, none⟩) ∧ Since n w0 (w.alloc o) := since_step h ((Below.refl _ _).alloc (Nat.le_refl _) o)
theorem since_start {n : Nat} {w0 : World} (h : n ≤ w0.heap.size) : (∀ b o, b < n → w0.drew.cell? ⟨b, o, none⟩ = w0.cell? ⟨b, o, none⟩) ∧ Since n w0 w0.drew := by
 have h2 : Since n w0 w0.drew := ⟨(Below.refl _ _).drew, h⟩
 exact ⟨h2.cells, h2⟩
theorem since_set {n : Nat} {w0 w : World} (h : (∀ b o, b < n → w.cell? ⟨b, o, none⟩ = w0.cell? ⟨b, o, none⟩) ∧ Since n w0 w) {p : Addr} (hp : n ≤ p.block) (v : Value) : (∀ b i, b < n → (w.setCell p v).cell? ⟨b, i, none⟩ = w0.cell? ⟨b, i, none⟩) ∧ Since n w0 (w.setCell p v) := by
 have h2 : Since n w0 (w.setCell p v) := ⟨h.2.1.setCell hp v, h.2.2⟩
 exact ⟨h2.cells, h2⟩
theorem since_drew {n : Nat} {w0 w : World} (h : (∀ b o, b < n → w.cell? ⟨b, o, none⟩ = w0.cell? ⟨b, o, none⟩) ∧ Since n w0 w) : (∀ b i, b < n → (w.drew).cell? ⟨b, i, none⟩ = w0.cell? ⟨b, i, none⟩) ∧ Since n w0 w.drew := by
 have h2 : Since n w0 w.drew := ⟨h.2.1.drew, h.2.2⟩
 exact ⟨h2.cells, h2⟩
theorem since_refl {n : Nat} {w0 : World} (h : n ≤ w0.heap.size) : (∀ b o, b < n → w0.cell? ⟨b, o, none⟩ = w0.cell? ⟨b, o, none⟩) ∧ Since n w0 w0 := ⟨fun _ _ _ => rfl, Below.refl _ _, h⟩
theorem bytes_since {n N : Nat} {w0 w : World} {A : Option Addr} {bs : List Nat} (h : (∀ b o, b < n → w.cell? ⟨b, o, none⟩ = w0.cell? ⟨b, o, none⟩) ∧ Since n w0 w) (hA : BytesAt w0 N A bs) (hN : N ≤ n) : BytesAt w w.heap.size A bs :=
 (hA.below (h.2.1.mono hN)).more (Nat.le_trans hN (Nat.le_trans h.2.2 h.2.1.size))
def Laid2 (w : World) (A : Option Addr) (cap : Nat) (bs : List Nat) (i : Int) : World :=
 (w.alloc (.cells #[.int .i64 0, .int .i64 0] 77)).alloc (.cells #[.slice A bs.length cap, .int .i64 i, .int .i64 0, .int .i64 0, .int .i64 0] 259)
section
variable (w : World) (A : Option Addr) (cap : Nat) (bs : List Nat) (i : Int)
theorem Laid2.rd : Rd (Laid2 w A cap bs i) (w.heap.size + 1) A cap bs i 0 0 0 := Blk.new_at (by simp)
theorem Laid2.bad : Blk (Laid2 w A cap bs i) w.heap.size 77 #[.int .i64 0, .int .i64 0] := (Blk.new _ _ _).alloc _
theorem Laid2.below : Below w.heap.size w (Laid2 w A cap bs i) := ((Below.refl _ _).alloc (Nat.le_refl _) _).alloc (by simp) _
theorem Laid2.size : (Laid2 w A cap bs i).heap.size = w.heap.size + 1 + 1 := by simp [Laid2]
end
theorem esc_no (A : Option Addr) (cap : Nat) (bs : List Nat) (i : Int) (w : World) (hA : BytesAt w w.heap.size A bs) (h : hasAt bs i 92 = false) : Calls Tryz.prog 226 #[.slice A bs.length cap, .int .i64 i] w fun e w' => e = .returned (escVal bs i) ∧ Below w.heap.size w w' := by
 rw [escVal_no h]
 have HA := Lib.hid (hA.below (Laid2.below w A cap bs i))
 obtain ⟨b0, b1, x0, x1⟩ := (Laid2.bad w A cap bs i).c2
 have Hb := Lib.hid (Laid2.bad w A cap bs i)
 clear hA
 go_enter Tryz.func226, Tryz.ntmps226
 go_wp2_with fail
 refine (here_go (w.heap.size + 1) A cap bs _ _ _ _ 92 w.heap.size _ (Laid2.rd w A cap bs _) HA.out (by omega) (by omega)).mono ?_
 rintro e w1 ⟨rfl, n1, rfl⟩
 go_wp2
 go_light
 refine bodyPost_ret (ret_esc Tryz.results226 rfl rfl rfl (Hb.out.drewN n1).set2) rfl ⟨rfl, ?_⟩
 exact below_set2 (below_drewN (Laid2.below w A cap bs i) n1) (Nat.le_refl _) _ _
theorem esc_yes (A : Option Addr) (cap : Nat) (bs : List Nat) (i : Nat) (w : World) (hA : BytesAt w w.heap.size A bs) (h : hasAt bs (i : Int) 92 = true) (hi : i < bs.length) : Calls Tryz.prog 226 #[.slice A bs.length cap, .int .i64 (i : Int)] w fun e w' => e = .returned (escVal bs (i : Int)) ∧ Below w.heap.size w w' := by
 have HA := Lib.hid (hA.below (Laid2.below w A cap bs i))
 obtain ⟨b0, b1, x0, x1⟩ := (Laid2.bad w A cap bs i).c2
 have Hb := Lib.hid (Laid2.bad w A cap bs i)
 clear hA
 cases he : escS bs i with
 | none =>
  have HV := Lib.hid (escVal_none h he)
  have He := Lib.hid he
  clear he
  rw [HV.out]
  go_enter Tryz.func226, Tryz.ntmps226
  go_wp2_with fail
  refine (here_go (w.heap.size + 1) A cap bs _ _ _ _ 92 w.heap.size _ (Laid2.rd w A cap bs _) HA.out (by omega) (by omega)).mono ?_
  rintro e w1 ⟨rfl, n1, rfl⟩
  go_wp2_with (go_at_call 244; refine (escape_go (w.heap.size + 1) A cap bs i _ w.heap.size _ ((Laid2.rd w A cap bs _).drewN n1) (HA.out.drewN n1) (by omega) hi).mono ?_; rintro e w2 hp; unfold EscPost at hp; rw [He.out] at hp; obtain ⟨hg2, c', j', hc', rfl, hr2⟩ := hp; obtain ⟨c0, c1, c2, c3, c4, e1, e3, e4⟩ := hr2.cells; have hb2 := (Hb.out.drewN n1).grown hg2 (by simp); obtain ⟨r0, r1, r2, r3⟩ := hb2.c2; have Hb2 := Lib.hid hb2; have Hg2 := Lib.hid hg2; clear hb2 hg2 hr2)
  go_region
  all_goals go_wp2
  all_goals go_light
  refine bodyPost_ret (ret_esc Tryz.results226 rfl rfl rfl Hb2.out.set2.drew) rfl ⟨rfl, ?_⟩
  exact (below_set2 (below_only (below_drewN (Laid2.below w A cap bs i) n1) Hg2.out (by omega) (by simp [Laid2.size]; omega)) (Nat.le_refl _) _ _).drew
 | some x =>
  obtain ⟨c', j'⟩ := x
  have HV := Lib.hid (escVal_some h he)
  have He := Lib.hid he
  clear he
  rw [HV.out]
  go_enter Tryz.func226, Tryz.ntmps226
  go_wp2_with fail
  refine (here_go (w.heap.size + 1) A cap bs _ _ _ _ 92 w.heap.size _ (Laid2.rd w A cap bs _) HA.out (by omega) (by omega)).mono ?_
  rintro e w1 ⟨rfl, n1, rfl⟩
  go_wp2_with (go_at_call 244; refine (escape_go (w.heap.size + 1) A cap bs i _ w.heap.size _ ((Laid2.rd w A cap bs _).drewN n1) (HA.out.drewN n1) (by omega) hi).mono ?_; rintro e w2 hp; unfold EscPost at hp; rw [He.out] at hp; obtain ⟨hg2, rfl, hr2⟩ := hp; obtain ⟨c0, c1, c2, c3, c4, e1, e3, e4⟩ := hr2.cells; have hb2 := (Hb.out.drewN n1).grown hg2 (by simp); obtain ⟨r0, r1, r2, r3⟩ := hb2.c2; have Hb2 := Lib.hid hb2; have Hg2 := Lib.hid hg2; clear hb2 hg2 hr2)
  go_region
  all_goals go_wp2
  all_goals go_light
  refine bodyPost_ret (ret_esc Tryz.results226 rfl rfl rfl Hb2.out.set2.drew) rfl ⟨rfl, ?_⟩
  exact (below_set2 (below_only (below_drewN (Laid2.below w A cap bs i) n1) Hg2.out (by omega) (by simp [Laid2.size]; omega)) (Nat.le_refl _) _ _).drew
theorem esc_go (A : Option Addr) (cap : Nat) (bs : List Nat) (i : Int) (w : World) (hA : BytesAt w w.heap.size A bs) : Calls Tryz.prog 226 #[.slice A bs.length cap, .int .i64 i] w fun e w' => e = .returned (escVal bs i) ∧ Below w.heap.size w w' := by
 cases h : hasAt bs i 92 with
 | false => exact esc_no A cap bs i w hA h
 | true =>
  obtain ⟨i, rfl, hlt, _⟩ := hasAt_yes h
  exact esc_yes A cap bs i w hA h hlt
theorem Rd.alloc {w : World} {g : Nat} {A : Option Addr} {cap : Nat} {bs : List Nat} {i start kind place : Int} (h : Rd w g A cap bs i start kind place) (o : Obj) : Rd (w.alloc o) g A cap bs i start kind place := Blk.alloc h o
theorem Rd.below {w w' : World} {B g : Nat} {A : Option Addr} {cap : Nat} {bs : List Nat} {i start kind place : Int} (h : Rd w g A cap bs i start kind place) (hb : Below B w w') (hg : g < B) : Rd w' g A cap bs i start kind place := Blk.below h hb hg
theorem Rd.set4 {w : World} {g g' : Nat} {A : Option Addr} {cap : Nat} {bs : List Nat} {i start kind place : Int} (h : Rd w g A cap bs i start kind place) (hg : g ≠ g') (a b c d : Value) :
  Rd ((((w.setCell ⟨g', 0, none⟩ a).setCell ⟨g', 1, none⟩ b).setCell ⟨g', 2, none⟩ c).setCell ⟨g', 3, none⟩ d) g A cap bs i start kind place :=
 Blk.far (Blk.far (Blk.far (Blk.far h (by dsimp only; omega) _) (by dsimp only; omega) _) (by dsimp only; omega) _) (by dsimp only; omega) _
theorem only_set4 {a w : World} {g g' : Nat} (h : a.grownBy w (some g)) (hg : a.heap.size ≤ g') (x y z u : Value) :
  a.grownBy ((((w.setCell ⟨g', 0, none⟩ x).setCell ⟨g', 1, none⟩ y).setCell ⟨g', 2, none⟩ z).setCell ⟨g', 3, none⟩ u) (some g) :=
 only_set' (only_set' (only_set' (only_set' h hg _ _) hg _ _) hg _ _) hg _ _
def ItemPost (g : Nat) (A : Option Addr) (cap : Nat) (bs : List Nat) (i s : Nat) (w : World) (e : Ending) (w' : World) : Prop :=
 w.grownBy w' (some g) ∧
 match itemS bs s i with
 | .ok (lo, hi, j) => e = .returned (.agg #[.int .u64 (word (between lo hi) 0), .int .u64 (word (between lo hi) 1), .int .u64 (word (between lo hi) 2), .int .u64 (word (between lo hi) 3)]) ∧ Rd w' g A cap bs (j : Int) (s : Int) 0 0
 | .error (k, p) => k ≠ 0 ∧ ∃ (q : Nat → Bool) (j : Nat), e = .returned (.agg #[.int .u64 (word q 0), .int .u64 (word q 1), .int .u64 (word q 2), .int .u64 (word q 3)]) ∧ Rd w' g A cap bs (j : Int) (s : Int) k p
theorem ItemPost.yes {g : Nat} {A : Option Addr} {cap : Nat} {bs : List Nat} {i s : Nat} {w : World} {e : Ending} {w' : World} {lo hi j : Nat} (hg : w.grownBy w' (some g)) (hs : itemS bs s i = .ok (lo, hi, j))
  (he : e = .returned (.agg #[.int .u64 (word (between lo hi) 0), .int .u64 (word (between lo hi) 1), .int .u64 (word (between lo hi) 2), .int .u64 (word (between lo hi) 3)])) (hr : Rd w' g A cap bs (j : Int) (s : Int) 0 0) : ItemPost g A cap bs i s w e w' := by
 unfold ItemPost; rw [hs]; exact ⟨hg, he, hr⟩
theorem ItemPost.no {g : Nat} {A : Option Addr} {cap : Nat} {bs : List Nat} {i s : Nat} {w : World} {e : Ending} {w' : World} {k p : Int} (q : Nat → Bool) (j : Nat) (hg : w.grownBy w' (some g)) (hs : itemS bs s i = .error (k, p)) (hk : k ≠ 0)
  (he : e = .returned (.agg #[.int .u64 (word q 0), .int .u64 (word q 1), .int .u64 (word q 2), .int .u64 (word q 3)])) (hr : Rd w' g A cap bs (j : Int) (s : Int) k p) : ItemPost g A cap bs i s w e w' := by
 unfold ItemPost; rw [hs]; exact ⟨hg, hk, q, j, he, hr⟩
theorem item_bad1 (g : Nat) (A : Option Addr) (cap : Nat) (bs : List Nat) (i s : Nat) (B : Nat) (w : World) (hr : Rd w g A cap bs (i : Int) (s : Int) 0 0) (hA : BytesAt w B A bs) (hB : B ≤ g) (hi : i ≤ bs.length) (k p : Int) (he : charS bs s i = .error (k, p)) : Calls Tryz.prog 246 #[.pointer (some ⟨g, 0, none⟩)] w (ItemPost g A cap bs i s w) := by
 have hlt := hr.lt
 have hne : w.heap.size ≠ g := by omega
 obtain ⟨c0, c1, c2, c3, c4, f1, f3, f4⟩ := hr.cells
 have Hr := Lib.hid (hr.alloc (.cells #[.int .u64 0, .int .u64 0, .int .u64 0, .int .u64 0] 25))
 have HA : Hid (BytesAt (w.alloc (.cells #[.int .u64 0, .int .u64 0, .int .u64 0, .int .u64 0] 25)) B A bs) := hA.below ((Below.refl B w).alloc (by omega) _)
 have Hz : Hid (Blk (w.alloc (.cells #[.int .u64 0, .int .u64 0, .int .u64 0, .int .u64 0] 25)) w.heap.size 25 #[.int .u64 0, .int .u64 0, .int .u64 0, .int .u64 0]) := Blk.new _ _ _
 have Hg0 : Hid (w.grownBy (w.alloc (.cells #[.int .u64 0, .int .u64 0, .int .u64 0, .int .u64 0] 25)) (some g)) := only_alloc (only_refl _ _) _
 have Hl := Lib.hid hA.2.1
 have hl := hA.2.1
 clear hr hA
 have He := Lib.hid he
 have Hi : Hid (itemS bs s i = .error (k, p)) := by show itemS bs s i = _; unfold itemS; rw [he]
 clear he
 go_enter Tryz.func246, Tryz.ntmps246
 go_wp2_with fail
 with_reducible refine (char_go g A cap bs i s B _ Hr.out HA.out hB hi).mono ?_
 rintro e w1 hp
 unfold CharPost at hp
 rw [He.out] at hp
 obtain ⟨hg1, hk, c, j, hc, rfl, hr1⟩ := hp
 have hkb : (k == 0) = false := by simpa using hk
 obtain ⟨d0, d1, d2, d3, d4, e1, e3, e4⟩ := hr1.cells
 have Hr1 := Lib.hid hr1
 have Hg1 := Lib.hid hg1
 have hlt1 := hr1.lt
 have hsz : w.heap.size < w1.heap.size := by have := hg1.size; simp at this; omega
 clear hr1 hg1
 go_wp2_with (go_at_call 259; refine (span_any _ _ _ (by omega) (by omega)).mono ?_; rintro e w2 ⟨rfl, hb2⟩; obtain ⟨z0, z1, z2, z3, y0, y1, y2, y3⟩ := ((Hz.out.grown Hg1.out (by simpa using hne)).below hb2 hsz).c4)
 go_light
 refine bodyPost_ret (ret_set Tryz.results246 rfl ((Hz.out.grown Hg1.out (by simpa using hne)).below hb2 hsz).set4) rfl ?_
 exact ItemPost.no _ j (only_set4 (only_below (only_trans Hg0.out Hg1.out) hb2) (Nat.le_refl _) _ _ _ _) Hi.out hk rfl ((Hr1.out.below hb2 hlt1).set4 (by omega) _ _ _ _)
theorem item_one (g : Nat) (A : Option Addr) (cap : Nat) (bs : List Nat) (i s : Nat) (B : Nat) (w : World) (hr : Rd w g A cap bs (i : Int) (s : Int) 0 0) (hA : BytesAt w B A bs) (hB : B ≤ g) (hi : i ≤ bs.length) (lo j : Nat) (he : charS bs s i = .ok (lo, j)) (hlo : lo < 256) (hh : hasAt bs (j : Int) 45 = false) : Calls Tryz.prog 246 #[.pointer (some ⟨g, 0, none⟩)] w (ItemPost g A cap bs i s w) := by
 have hlt := hr.lt
 have hne : w.heap.size ≠ g := by omega
 obtain ⟨c0, c1, c2, c3, c4, f1, f3, f4⟩ := hr.cells
 have Hr := Lib.hid (hr.alloc (.cells #[.int .u64 0, .int .u64 0, .int .u64 0, .int .u64 0] 25))
 have HA : Hid (BytesAt (w.alloc (.cells #[.int .u64 0, .int .u64 0, .int .u64 0, .int .u64 0] 25)) B A bs) := hA.below ((Below.refl B w).alloc (by omega) _)
 have Hz : Hid (Blk (w.alloc (.cells #[.int .u64 0, .int .u64 0, .int .u64 0, .int .u64 0] 25)) w.heap.size 25 #[.int .u64 0, .int .u64 0, .int .u64 0, .int .u64 0]) := Blk.new _ _ _
 have Hg0 : Hid (w.grownBy (w.alloc (.cells #[.int .u64 0, .int .u64 0, .int .u64 0, .int .u64 0] 25)) (some g)) := only_alloc (only_refl _ _) _
 have Hl := Lib.hid hA.2.1
 have hl := hA.2.1
 clear hr hA
 have He := Lib.hid he
 have Hh := Lib.hid hh
 have Hi : Hid (itemS bs s i = .ok (lo, lo, j)) := by show itemS bs s i = _; unfold itemS; rw [he]; dsimp only; rw [hh]; rfl
 clear he hh
 go_enter Tryz.func246, Tryz.ntmps246
 go_wp2_with fail
 with_reducible refine (char_go g A cap bs i s B _ Hr.out HA.out hB hi).mono ?_
 rintro e w1 hp
 unfold CharPost at hp
 rw [He.out] at hp
 obtain ⟨hg1, rfl, hr1⟩ := hp
 obtain ⟨d0, d1, d2, d3, d4, e1, e3, e4⟩ := hr1.cells
 have Hr1 := Lib.hid hr1
 have Hg1 := Lib.hid hg1
 have HA1 := Lib.hid (HA.out.only hg1 hB Hr.out.lt)
 have Hz1 : Hid (Blk w1 w.heap.size 25 #[.int .u64 0, .int .u64 0, .int .u64 0, .int .u64 0]) := Hz.out.grown hg1 (by simpa using hne)
 have hlt1 := hr1.lt
 have hsz : w.heap.size < w1.heap.size := by have := hg1.size; simp at this; omega
 clear hr1 hg1
 go_wp2_with (first
  | (go_at_call 245; refine (take_no g A cap bs _ _ _ _ 45 B _ Hr1.out HA1.out (by omega) (by omega) Hh.out).mono ?_; rintro e w2 ⟨rfl, hr2, hg2⟩; have hlt2 := hr2.lt; have Hr2 := Lib.hid hr2; have Hg2 := Lib.hid hg2; clear hr2 hg2; have hsz2 : w.heap.size < w2.heap.size := Nat.lt_of_lt_of_le hsz Hg2.out.size; have Hz2 := Lib.hid (Hz1.out.grown Hg2.out (by simpa using hne)))
  | (go_at_call 259; refine (span_any _ _ _ (by omega) (by omega)).mono ?_; rintro e w3 ⟨rfl, hb3⟩; obtain ⟨z0, z1, z2, z3, y0, y1, y2, y3⟩ := (Hz2.out.below hb3 hsz2).c4))
 go_light
 refine bodyPost_ret (ret_set Tryz.results246 rfl (Hz2.out.below hb3 hsz2).set4) rfl ?_
 exact ItemPost.yes (only_set4 (only_below (only_trans (only_trans Hg0.out Hg1.out) Hg2.out) hb3) (Nat.le_refl _) _ _ _ _) Hi.out rfl ((Hr2.out.below hb3 hlt2).set4 (by omega) _ _ _ _)
theorem item_bad2 (g : Nat) (A : Option Addr) (cap : Nat) (bs : List Nat) (i s : Nat) (B : Nat) (w : World) (hr : Rd w g A cap bs (i : Int) (s : Int) 0 0) (hA : BytesAt w B A bs) (hB : B ≤ g) (hi : i ≤ bs.length) (lo j : Nat) (he : charS bs s i = .ok (lo, j)) (hlo : lo < 256) (hh : hasAt bs (j : Int) 45 = true) (hj : j < bs.length) (k p : Int) (hf : charS bs s (j + 1) = .error (k, p)) : Calls Tryz.prog 246 #[.pointer (some ⟨g, 0, none⟩)] w (ItemPost g A cap bs i s w) := by
 have hlt := hr.lt
 have hne : w.heap.size ≠ g := by omega
 obtain ⟨c0, c1, c2, c3, c4, f1, f3, f4⟩ := hr.cells
 have Hr := Lib.hid (hr.alloc (.cells #[.int .u64 0, .int .u64 0, .int .u64 0, .int .u64 0] 25))
 have HA : Hid (BytesAt (w.alloc (.cells #[.int .u64 0, .int .u64 0, .int .u64 0, .int .u64 0] 25)) B A bs) := hA.below ((Below.refl B w).alloc (by omega) _)
 have Hz : Hid (Blk (w.alloc (.cells #[.int .u64 0, .int .u64 0, .int .u64 0, .int .u64 0] 25)) w.heap.size 25 #[.int .u64 0, .int .u64 0, .int .u64 0, .int .u64 0]) := Blk.new _ _ _
 have Hg0 : Hid (w.grownBy (w.alloc (.cells #[.int .u64 0, .int .u64 0, .int .u64 0, .int .u64 0] 25)) (some g)) := only_alloc (only_refl _ _) _
 have Hl := Lib.hid hA.2.1
 have hl := hA.2.1
 clear hr hA
 have He := Lib.hid he
 have Hh := Lib.hid hh
 have Hf := Lib.hid hf
 have Hi : Hid (itemS bs s i = .error (k, p)) := by show itemS bs s i = _; unfold itemS; rw [he]; dsimp only; rw [hh, hf]; rfl
 clear he hh hf
 go_enter Tryz.func246, Tryz.ntmps246
 go_wp2_with fail
 with_reducible refine (char_go g A cap bs i s B _ Hr.out HA.out hB hi).mono ?_
 rintro e w1 hp
 unfold CharPost at hp
 rw [He.out] at hp
 obtain ⟨hg1, rfl, hr1⟩ := hp
 obtain ⟨d0, d1, d2, d3, d4, e1, e3, e4⟩ := hr1.cells
 have Hr1 := Lib.hid hr1
 have Hg1 := Lib.hid hg1
 have HA1 := Lib.hid (HA.out.only hg1 hB Hr.out.lt)
 have Hz1 : Hid (Blk w1 w.heap.size 25 #[.int .u64 0, .int .u64 0, .int .u64 0, .int .u64 0]) := Hz.out.grown hg1 (by simpa using hne)
 have hlt1 := hr1.lt
 have hsz : w.heap.size < w1.heap.size := by have := hg1.size; simp at this; omega
 clear hr1 hg1
 go_wp2_with fail
 refine (take_yes g A cap bs _ _ _ _ 45 B _ Hr1.out HA1.out (by omega) (by omega) Hh.out).mono ?_
 rintro e w2 ⟨rfl, hr2, hg2⟩
 have Hg2 := Lib.hid hg2
 have HA2 := Lib.hid (HA1.out.only hg2 hB hlt1)
 have hlt2 := hr2.lt
 have Hr2 : Hid (Rd w2 g A cap bs ((j + 1 : Nat) : Int) (s : Int) 0 0) := by show Rd _ _ _ _ _ _ _ _ _; rw [show ((j + 1 : Nat) : Int) = (j : Int) + 1 by omega]; exact hr2
 have Hz2 := Lib.hid (Hz1.out.grown hg2 (by simpa using hne))
 clear hr2 hg2
 go_wp2_with fail
 with_reducible refine (char_go g A cap bs (j + 1) s B _ Hr2.out HA2.out hB (by omega)).mono ?_
 rintro e w3 hp
 unfold CharPost at hp
 rw [Hf.out] at hp
 obtain ⟨hg3, hk, c, j', hc, rfl, hr3⟩ := hp
 have hkn : k ≠ 0 := hk
 have Hg3 := Lib.hid hg3
 have Hr3 := Lib.hid hr3
 have hlt3 := hr3.lt
 have Hz3 := Lib.hid (Hz2.out.grown hg3 (by simpa using hne))
 have hsz3 := Hz3.out.lt
 clear hr3 hg3
 by_cases hcl : c < lo
 ·go_wp2_with (first
   | (go_at_call 255; refine (fail1_go g A cap bs _ _ _ _ _ _ _ Hr3.out hkn).mono ?_; rintro e w4 ⟨rfl, hr4, hg4⟩; have Hr4 := Lib.hid hr4; have Hg4 := Lib.hid hg4; have hlt4 := hr4.lt; have Hz4 := Lib.hid (Hz3.out.grown hg4 (by simpa using hne)); have hsz4 := Hz4.out.lt; clear hr4 hg4)
   | (go_at_call 259; refine (span_any _ _ _ (by omega) (by omega)).mono ?_; rintro e w5 ⟨rfl, hb5⟩; obtain ⟨z0, z1, z2, z3, y0, y1, y2, y3⟩ := (Hz4.out.below hb5 hsz4).c4))
  go_light
  refine bodyPost_ret (ret_set Tryz.results246 rfl (Hz4.out.below hb5 hsz4).set4) rfl ?_
  exact ItemPost.no _ j' (only_set4 (only_below (only_trans (only_trans (only_trans (only_trans Hg0.out Hg1.out) Hg2.out) Hg3.out) Hg4.out) hb5) (Nat.le_refl _) _ _ _ _) Hi.out hkn rfl ((Hr4.out.below hb5 hlt4).set4 (by omega) _ _ _ _)
 ·go_wp2_with (go_at_call 259; refine (span_any _ _ _ (by omega) (by omega)).mono ?_; rintro e w5 ⟨rfl, hb5⟩; obtain ⟨z0, z1, z2, z3, y0, y1, y2, y3⟩ := (Hz3.out.below hb5 hsz3).c4)
  go_light
  refine bodyPost_ret (ret_set Tryz.results246 rfl (Hz3.out.below hb5 hsz3).set4) rfl ?_
  exact ItemPost.no _ j' (only_set4 (only_below (only_trans (only_trans (only_trans Hg0.out Hg1.out) Hg2.out) Hg3.out) hb5) (Nat.le_refl _) _ _ _ _) Hi.out hkn rfl ((Hr3.out.below hb5 hlt3).set4 (by omega) _ _ _ _)
theorem item_two (g : Nat) (A : Option Addr) (cap : Nat) (bs : List Nat) (i s : Nat) (B : Nat) (w : World) (hr : Rd w g A cap bs (i : Int) (s : Int) 0 0) (hA : BytesAt w B A bs) (hB : B ≤ g) (hi : i ≤ bs.length) (lo j : Nat) (he : charS bs s i = .ok (lo, j)) (hlo : lo < 256) (hh : hasAt bs (j : Int) 45 = true) (hj : j < bs.length) (hi' j' : Nat) (hf : charS bs s (j + 1) = .ok (hi', j')) (hhi : hi' < 256) : Calls Tryz.prog 246 #[.pointer (some ⟨g, 0, none⟩)] w (ItemPost g A cap bs i s w) := by
 have hlt := hr.lt
 have hne : w.heap.size ≠ g := by omega
 obtain ⟨c0, c1, c2, c3, c4, f1, f3, f4⟩ := hr.cells
 have Hr := Lib.hid (hr.alloc (.cells #[.int .u64 0, .int .u64 0, .int .u64 0, .int .u64 0] 25))
 have HA : Hid (BytesAt (w.alloc (.cells #[.int .u64 0, .int .u64 0, .int .u64 0, .int .u64 0] 25)) B A bs) := hA.below ((Below.refl B w).alloc (by omega) _)
 have Hz : Hid (Blk (w.alloc (.cells #[.int .u64 0, .int .u64 0, .int .u64 0, .int .u64 0] 25)) w.heap.size 25 #[.int .u64 0, .int .u64 0, .int .u64 0, .int .u64 0]) := Blk.new _ _ _
 have Hg0 : Hid (w.grownBy (w.alloc (.cells #[.int .u64 0, .int .u64 0, .int .u64 0, .int .u64 0] 25)) (some g)) := only_alloc (only_refl _ _) _
 have Hl := Lib.hid hA.2.1
 have hl := hA.2.1
 clear hr hA
 have He := Lib.hid he
 have Hh := Lib.hid hh
 have Hf := Lib.hid hf
 have Hi : Hid (itemS bs s i = if hi' < lo then .error (15, (i : Int)) else .ok (lo, hi', j')) := by show itemS bs s i = _; unfold itemS; rw [he]; dsimp only; rw [hh, hf]; rfl
 clear he hh hf
 go_enter Tryz.func246, Tryz.ntmps246
 go_wp2_with fail
 with_reducible refine (char_go g A cap bs i s B _ Hr.out HA.out hB hi).mono ?_
 rintro e w1 hp
 unfold CharPost at hp
 rw [He.out] at hp
 obtain ⟨hg1, rfl, hr1⟩ := hp
 obtain ⟨d0, d1, d2, d3, d4, e1, e3, e4⟩ := hr1.cells
 have Hr1 := Lib.hid hr1
 have Hg1 := Lib.hid hg1
 have HA1 := Lib.hid (HA.out.only hg1 hB Hr.out.lt)
 have Hz1 : Hid (Blk w1 w.heap.size 25 #[.int .u64 0, .int .u64 0, .int .u64 0, .int .u64 0]) := Hz.out.grown hg1 (by simpa using hne)
 have hlt1 := hr1.lt
 have hsz : w.heap.size < w1.heap.size := by have := hg1.size; simp at this; omega
 clear hr1 hg1
 go_wp2_with fail
 refine (take_yes g A cap bs _ _ _ _ 45 B _ Hr1.out HA1.out (by omega) (by omega) Hh.out).mono ?_
 rintro e w2 ⟨rfl, hr2, hg2⟩
 have Hg2 := Lib.hid hg2
 have HA2 := Lib.hid (HA1.out.only hg2 hB hlt1)
 have hlt2 := hr2.lt
 have Hr2 : Hid (Rd w2 g A cap bs ((j + 1 : Nat) : Int) (s : Int) 0 0) := by show Rd _ _ _ _ _ _ _ _ _; rw [show ((j + 1 : Nat) : Int) = (j : Int) + 1 by omega]; exact hr2
 have Hz2 := Lib.hid (Hz1.out.grown hg2 (by simpa using hne))
 clear hr2 hg2
 go_wp2_with fail
 with_reducible refine (char_go g A cap bs (j + 1) s B _ Hr2.out HA2.out hB (by omega)).mono ?_
 rintro e w3 hp
 unfold CharPost at hp
 rw [Hf.out] at hp
 obtain ⟨hg3, rfl, hr3⟩ := hp
 have Hg3 := Lib.hid hg3
 have Hr3 := Lib.hid hr3
 have hlt3 := hr3.lt
 have Hz3 := Lib.hid (Hz2.out.grown hg3 (by simpa using hne))
 have hsz3 := Hz3.out.lt
 clear hr3 hg3
 by_cases hcl : hi' < lo
 ·go_wp2_with (first
   | (go_at_call 255; refine (fail0_go g A cap bs _ _ _ _ _ _ Hr3.out).mono ?_; rintro e w4 ⟨rfl, hr4, hg4⟩; have Hr4 := Lib.hid hr4; have Hg4 := Lib.hid hg4; have hlt4 := hr4.lt; have Hz4 := Lib.hid (Hz3.out.grown hg4 (by simpa using hne)); have hsz4 := Hz4.out.lt; clear hr4 hg4)
   | (go_at_call 259; refine (span_any _ _ _ (by omega) (by omega)).mono ?_; rintro e w5 ⟨rfl, hb5⟩; obtain ⟨z0, z1, z2, z3, y0, y1, y2, y3⟩ := (Hz4.out.below hb5 hsz4).c4))
  go_light
  refine bodyPost_ret (ret_set Tryz.results246 rfl (Hz4.out.below hb5 hsz4).set4) rfl ?_
  exact ItemPost.no _ j' (only_set4 (only_below (only_trans (only_trans (only_trans (only_trans Hg0.out Hg1.out) Hg2.out) Hg3.out) Hg4.out) hb5) (Nat.le_refl _) _ _ _ _) (by rw [Hi.out, if_pos hcl]) (by decide) rfl ((Hr4.out.below hb5 hlt4).set4 (by omega) _ _ _ _)
 ·go_wp2_with (go_at_call 259; refine (span_any _ _ _ (by omega) (by omega)).mono ?_; rintro e w5 ⟨rfl, hb5⟩; obtain ⟨z0, z1, z2, z3, y0, y1, y2, y3⟩ := (Hz3.out.below hb5 hsz3).c4)
  go_light
  refine bodyPost_ret (ret_set Tryz.results246 rfl (Hz3.out.below hb5 hsz3).set4) rfl ?_
  exact ItemPost.yes (only_set4 (only_below (only_trans (only_trans (only_trans Hg0.out Hg1.out) Hg2.out) Hg3.out) hb5) (Nat.le_refl _) _ _ _ _) (by rw [Hi.out, if_neg hcl]) rfl ((Hr3.out.below hb5 hlt3).set4 (by omega) _ _ _ _)
theorem item_go (g : Nat) (A : Option Addr) (cap : Nat) (bs : List Nat) (i s : Nat) (B : Nat) (w : World) (hr : Rd w g A cap bs (i : Int) (s : Int) 0 0) (hA : BytesAt w B A bs) (hB : B ≤ g) (hi : i ≤ bs.length) : Calls Tryz.prog 246 #[.pointer (some ⟨g, 0, none⟩)] w (ItemPost g A cap bs i s w) := by
 cases he : charS bs s i with
 | error x => obtain ⟨k, p⟩ := x; exact item_bad1 g A cap bs i s B w hr hA hB hi k p he
 | ok x =>
  obtain ⟨lo, j⟩ := x
  obtain ⟨a1, a2, a3⟩ := charS_ok hA.1 he
  cases hh : hasAt bs (j : Int) 45 with
  | false => exact item_one g A cap bs i s B w hr hA hB hi lo j he a3 hh
  | true =>
   obtain ⟨j', e', hj, _⟩ := hasAt_yes hh
   obtain rfl : j = j' := by omega
   cases hf : charS bs s (j + 1) with
   | error y => obtain ⟨k, p⟩ := y; exact item_bad2 g A cap bs i s B w hr hA hB hi lo j he a3 hh hj k p hf
   | ok y =>
    obtain ⟨hi', j'⟩ := y
    exact item_two g A cap bs i s B w hr hA hB hi lo j he a3 hh hj hi' j' hf (charS_ok hA.1 hf).2.2
def OrNew (P : Nat → Prop) (n b : Nat) : Prop := P b ∨ n ≤ b
theorem info_nd : (Tryz.prog.info? 28).map (fun i => (i.zero, i.size, i.bytes)) = some (some (.agg #[.int .i64 0, .int .u64 0, .int .u64 0, .int .u64 0, .int .u64 0, .slice none 0 0, .int .i64 0, .int .i64 0]), 8, 80) := by kernel_rfl
theorem ndCell_len (x : Nd) (B : Option Addr) (cap : Nat) : (ndCell x B cap).length = 8 := by simp [ndCell]
theorem addr_plus7 (b o j : Nat) : (⟨b, o, none⟩ : Addr).add j = ⟨b, o + j, none⟩ := by unfold Addr.add; split <;> simp_all
theorem TreesAt.cells {w : World} {P : Nat → Prop} : ∀ {l : List Nd} {b o : Nat}, TreesAt w P (Trees.of l) (some ⟨b, o, none⟩) → ∃ cs, CellsAre w P l cs ∧ ∀ j u, cs[j]? = some u → w.cell? ⟨b, o + j, none⟩ = some u
 | [], b, o, _ => ⟨[], rfl, fun j u h => by simp at h⟩
 | x :: l, b, o, ⟨b', o', B, cap, hA, hb, hc, hn, h1, h2⟩ => by
  simp at hA
  obtain ⟨rfl, rfl⟩ := hA
  obtain ⟨cs, hcs, hg⟩ := TreesAt.cells h2
  refine ⟨ndCell x B cap ++ cs, ⟨B, cap, cs, rfl, hc, h1, hcs⟩, fun j u hu => ?_⟩
  rcases Nat.lt_or_ge j 8 with hj | hj
  ·rw [List.getElem?_append_left (by rw [ndCell_len]; exact hj)] at hu
   obtain ⟨c0, c1, c2, c3, c4, c5, c6, c7⟩ := hn
   have hj' : j = 0 ∨ j = 1 ∨ j = 2 ∨ j = 3 ∨ j = 4 ∨ j = 5 ∨ j = 6 ∨ j = 7 := by omega
   rcases hj' with rfl | rfl | rfl | rfl | rfl | rfl | rfl | rfl
   all_goals
    have hu' := Option.some.inj hu
    subst hu'
    first | exact c0 | exact c1 | exact c2 | exact c3 | exact c4 | exact c5 | exact c6 | exact c7
  ·rw [List.getElem?_append_right (by rw [ndCell_len]; exact hj), ndCell_len] at hu
   have := hg (j - 8) u hu
   rw [show o + 8 + (j - 8) = o + j by omega] at this
   exact this
theorem CellsAre.one {w : World} {P : Nat → Prop} : ∀ {l : List Nd} {cs : List Value}, CellsAre w P l cs → ∀ u ∈ cs, u.oneCell' = true
 | [], cs, h, u, hu => by have : cs = [] := h; subst this; cases hu
 | x :: l, cs, ⟨B, cap, rest, hcs, hc, ht, hr⟩, u, hu => by
  subst hcs
  rcases List.mem_append.1 hu with hu | hu
  ·simp [ndCell] at hu
   rcases hu with rfl | rfl | rfl | rfl | rfl | rfl | rfl | rfl <;> rfl
  ·exact hr.one u hu
def manyN (k none : Int) : List Nd → Nd
 | [] => ⟨none, 0, .nil, 0, 0⟩
 | [x] => x
 | l => ⟨k, 0, Trees.of l, 0, 0⟩
theorem manyN_more (k none : Int) (l : List Nd) (h : 2 ≤ l.length) : manyN k none l = ⟨k, 0, Trees.of l, 0, 0⟩ := by
 match l, h with
 | [], h => simp at h
 | [x], h => simp at h
 | x :: y :: l, _ => rfl
theorem flat_put {w w2 : World} {x : Nd} {B : Option Addr} {cap : Nat} (hZ : Blk w2 w.heap.size 28 #[.int .i64 0, .int .u64 0, .int .u64 0, .int .u64 0, .int .u64 0, .slice none 0 0, .int .i64 0, .int .i64 0]) (hB : Below w.heap.size w w2) {P : Nat → Prop} (ht : TreesAt w2 (OrNew (fun b => P b ∧ b < w.heap.size) (w.heap.size + 1)) x.kids B) {w' : World}
  (hw' : w' = ((((((((w2.setCell ⟨w.heap.size, 0, none⟩ (.int .i64 x.kind)).setCell ⟨w.heap.size, 1, none⟩ (.int .u64 (word x.set.testBit 0))).setCell ⟨w.heap.size, 2, none⟩ (.int .u64 (word x.set.testBit 1))).setCell ⟨w.heap.size, 3, none⟩ (.int .u64 (word x.set.testBit 2))).setCell ⟨w.heap.size, 4, none⟩ (.int .u64 (word x.set.testBit 3))).setCell ⟨w.heap.size, 5, none⟩ (.slice B x.kids.len cap)).setCell ⟨w.heap.size, 6, none⟩ (.int .i64 x.lo)).setCell ⟨w.heap.size, 7, none⟩ (.int .i64 x.hi))) :
  Blk w' w.heap.size 28 (ndA x B cap) ∧ Below w.heap.size w w' ∧ TreesAt w' (OrNew P w.heap.size) x.kids B := by
 have hg : w2.grownBy w' (some w.heap.size) := by rw [hw']; exact only_put8 _ _ _ _ _ _ _ _ _ _
 refine ⟨by rw [hw']; exact hZ.put8 _ _ _ _ _ _ _ _, by rw [hw']; exact below_put8 hB (Nat.le_refl _) _ _ _ _ _ _ _ _, ht.keep (fun b o hb hl => World.cell?_of_block (hg.block b hl (fun e => by have := Option.some.inj e; rcases hb with h | h <;> omega))) (fun b hb _ => hb.imp (fun h => h.1) (fun h => by omega))⟩
def CRow (w : World) (acc : List Nd) (u : Value) (wr : World) : Prop :=
 (∃ cs, wr.ownsRow w.heap.size 28 8 u acc.length cs ∧ CellsAre wr (fun b => w.heap.size ≤ b ∧ some b ≠ u.ownBlock) acc cs) ∧ Below w.heap.size w wr
section
variable {w wr w2 w' : World} {acc : List Nd} {u : Value}
theorem CRow.own (h : CRow w acc u wr) : ∀ g, u.ownBlock = some g → w.heap.size ≤ g ∧ g < wr.heap.size := by
 obtain ⟨⟨cs, hr, _⟩, _⟩ := h
 exact hr.lt
theorem CRow.below (h : CRow w acc u wr) (hb : Below wr.heap.size wr w2) : CRow w acc u w2 := by
 obtain ⟨⟨cs, hr, hc⟩, h3⟩ := h
 exact ⟨⟨cs, own_below hr hb, hc.below hb⟩, h3.trans (hb.mono h3.size)⟩
theorem CRow.append {z : Nd} {B : Option Addr} {cap gg capg : Nat} {o : Obj} {cs : List Value} (h : CRow w acc u wr)
  (hz : TreesAt wr (fun b => w.heap.size ≤ b ∧ some b ≠ u.ownBlock) z.kids B) (hcz : z.kids.len ≤ cap) (hcs : CellsAre wr (fun b => w.heap.size ≤ b ∧ some b ≠ u.ownBlock) acc cs)
  (hown : w'.ownsRow w.heap.size 28 8 (.slice (some ⟨gg, 0, none⟩) (acc.length + 1) capg) (acc.length + 1) (cs ++ ndCell z B cap)) (hgrow : (wr.alloc o).grownBy w' u.ownBlock) (hat : u.ownBlock = some gg ∨ gg = wr.heap.size + 1) :
  CRow w (acc ++ [z]) (.slice (some ⟨gg, 0, none⟩) (acc.length + 1) capg) w' := by
 have hl := h.own
 obtain ⟨_, h3⟩ := h
 have hb : Below wr.heap.size wr (wr.alloc o) := (Below.refl _ _).alloc (Nat.le_refl _) o
 have hk : ∀ b i, (w.heap.size ≤ b ∧ some b ≠ u.ownBlock) → b < wr.heap.size → w'.cell? ⟨b, i, none⟩ = wr.cell? ⟨b, i, none⟩ := fun b i hb2 hbl =>
  (World.cell?_of_block (hgrow.block b (by simp; omega) hb2.2)).trans (hb.cell (p := ⟨b, i, none⟩) hbl)
 have hq : ∀ b, (w.heap.size ≤ b ∧ some b ≠ u.ownBlock) → b < wr.heap.size → w.heap.size ≤ b ∧ some b ≠ (Value.slice (some ⟨gg, 0, none⟩) (acc.length + 1) capg).ownBlock := fun b hb2 hbl => ⟨hb2.1, fun e => by
  have e' : b = gg := by simpa [Value.ownBlock] using e
  rcases hat with hh | hh
  ·exact hb2.2 (by rw [e', hh])
  ·omega⟩
 refine ⟨⟨cs ++ ndCell z B cap, by simpa using hown, CellsAre.snoc hcz (hz.keep hk hq) (hcs.keep hk hq)⟩,
  (h3.trans (hb.mono h3.size)).grown hgrow (by have := h3.size; simp; omega) (fun k e => (hl k e).1)⟩
theorem CRow.trees (h : CRow w acc u wr) : ∃ A cap, u = .slice A acc.length cap ∧ acc.length ≤ cap ∧ TreesAt wr (fun b => w.heap.size ≤ b) (Trees.of acc) A := by
 have hl := h.own
 obtain ⟨⟨cs, hr, hc⟩, _⟩ := h
 exact trees_of hr (hc.keep (fun _ _ _ _ => rfl) (fun b hb _ => hb.1)) (fun g e => (hl g e).1)
end
theorem crow_start (w : World) : CRow w [] (.slice none 0 0) w := ⟨⟨[], World.ownsRow_nil _ _ _ _, rfl⟩, Below.refl _ _⟩
def CopyC (n : Nat) : Prop := ∀ (x : Nd) (P : Nat → Prop) (B : Option Addr) (cap : Nat) (w : World), x.size ≤ n → x.size ≤ 100000000 → TreesAt w P x.kids B →
 Calls Tryz.prog 55 #[ndV x B cap] w fun e w' => ∃ B' cap', e = .returned (ndV x B' cap') ∧ Below w.heap.size w w' ∧ x.kids.len ≤ cap' ∧ TreesAt w' (fun b => w.heap.size ≤ b) x.kids B'
def CopiesC (n : Nat) : Prop := ∀ (F : Trees) (P : Nat → Prop) (B : Option Addr) (cap : Nat) (w : World), F.size ≤ n → F.size ≤ 100000000 → TreesAt w P F B →
 Calls Tryz.prog 111 #[.slice B F.len cap] w fun e w' => ∃ B' cap', e = .returned (.slice B' F.len cap') ∧ Below w.heap.size w w' ∧ F.len ≤ cap' ∧ TreesAt w' (fun b => w.heap.size ≤ b) F B'
theorem copies_step {n : Nat} (ih : CopyC n) : CopiesC n := by
 intro F P B cap w hsz hlen ht
 obtain ⟨i0, hi0, hz0, hz1, hz2⟩ := info_parts info_nd
 have HT := Lib.hid ht
 have hlk : F.len ≤ 100000000 := by have := Trees.len_size F; omega
 have hFl := Trees.len_list F
 clear ht
 go_enter Tryz.func111, Tryz.ntmps111
 go_wp2
 go_loopw [3, 8] (fun u i wr => ∃ k : Nat, i = .int .i64 (k : Int) ∧ k ≤ F.len ∧ Hid (CRow w (F.list.take k) u wr)) (fun _ i _ => F.len - (intOf i).toNat)
 case atStart => exact ⟨0, rfl, Nat.zero_le _, Lib.hid (crow_start w)⟩
 case round =>
  obtain ⟨k, rfl, hk, HR⟩ := hrel
  by_cases hlt : k < F.len
  ·obtain ⟨z, hz⟩ : ∃ z, F.list[k]? = some z := ⟨_, List.getElem?_eq_getElem (by omega)⟩
   have hzs := Trees.size_get F k z hz
   have htk : F.list.take (k + 1) = F.list.take k ++ [z] := by rw [List.take_add_one, hz]; rfl
   have hacc : (F.list.take k).length = k := by simp; omega
   have HTk := Lib.hid htk
   generalize F.list.take k = acc at *
   obtain ⟨b, o, C, capc, rfl, _, _, ⟨c0, c1, c2, c3, c4, c5, c6, c7⟩, hkz⟩ := (HT.out.below HR.out.2).get hz
   have hdl : (k : Int) < (F.len : Int) := by omega
   have hb2 : Below wr.heap.size wr (wr.alloc (.cells (ndA z C capc) 28)) := (Below.refl _ _).alloc (Nat.le_refl _) _
   have HI := Lib.hid (ih z _ C capc (wr.alloc (.cells (ndA z C capc) 28)) (by omega) (by omega) (hkz.below hb2))
   have Hrow2 := Lib.hid (HR.out.below hb2)
   have hws : w.heap.size ≤ wr.heap.size := HR.out.2.size
   clear hz hzs hkz hsz hlen hb2 HR htk
   unfold ndV at HI
   go_wp2_with fail
   refine HI.out.mono ?_
   rintro e w4 ⟨B4, cap4, rfl, hb4, hc4, ht4⟩
   have hrow4 := Hrow2.out.below hb4
   obtain ⟨⟨cs, hr4, hcs4⟩, _⟩ := id hrow4
   have hl := Hrow2.out.own
   have hz4 := ht4.weak (Q := fun b => w.heap.size ≤ b ∧ some b ≠ u3.ownBlock) (fun b hb _ => ⟨by simp at hb; omega, fun e => by have := (hl b e.symm).2; omega⟩)
   have Hrow4 := Lib.hid hrow4
   have HR4 := Lib.hid hr4
   have HC4 := Lib.hid hcs4
   have HZ4 := Lib.hid hz4
   have h63 : acc.length + 1 ≤ maxLen := Nat.le_trans (by omega) (show 200000000 ≤ maxLen by decide)
   have hby : (acc.length + 1) * 80 ≤ 140737488355328 := by omega
   have hWs : w.heap.size ≤ w4.heap.size := by have := hb4.size; simp at this; omega
   clear hrow4 hr4 hcs4 hz4 ht4 hl hb4 HI Hrow2 c0 c1 c2 c3 c4 c5 c6 c7
   dsimp only
   go_wp2_with (at_builtin; refine wpList_append_lies _ rfl _ _ 26 rfl w.heap.size 28 i0 _ 8 80 Tryz.underlying26 hi0 hz0 hz1 hz2 rfl (by decide) u3 acc.length cs rfl (HR4.out.alloc _) ⟨w4.heap.size, 0, none⟩ 1 1 (ndCell z B4 cap4) rfl rfl (World.news_of_block (Blk.new_at (cs := ndA z B4 cap4) (t := 28) (by simp))) (by simp [ndCell, Value.oneCell']) (by decide) h63 hby (by simp; omega) (w4.heap.size + 1) (by simp) ?_; intro gg capg w5 hown5 hgrow5 hat5 hg5; have HA6 := Lib.hid (Hrow4.out.append HZ4.out hc4 HC4.out hown5 hgrow5 (by simpa using hat5)); clear hown5 hgrow5 hat5)
   go_light
   go_roundw
   case rel => exact ⟨k + 1, by go_num, by omega, Lib.hid (by rw [HTk.out]; have h6 := HA6.out; rw [hacc] at h6; exact h6)⟩
   case measure => simp [intOf]; omega
  ·have hdl : ¬ (k : Int) < (F.len : Int) := by omega
   obtain rfl : k = F.len := by omega
   have hta : F.list.take F.len = F.list := by rw [← hFl]; exact List.take_length
   rw [hta] at HR
   obtain ⟨A5, cap5, rfl, hc5, ht5⟩ := HR.out.trees
   rw [Trees.of_list] at ht5
   rw [hFl] at hc5 ⊢
   have HB5 := Lib.hid HR.out.2
   have HT5 := Lib.hid ht5
   clear HR ht5 hta
   go_wp2
   go_light
   go_ret
   exact ⟨A5, cap5, rfl, HB5.out, hc5, HT5.out⟩
theorem put_next {w w2 : World} {x : Nd} {B : Option Addr} {cap : Nat} (hZ : Blk w2 (w.heap.size + 1) 28 #[.int .i64 0, .int .u64 0, .int .u64 0, .int .u64 0, .int .u64 0, .slice none 0 0, .int .i64 0, .int .i64 0]) (hB : Below w.heap.size w w2) (ht : TreesAt w2 (fun b => w.heap.size + 2 ≤ b) x.kids B) {w' : World}
  (hw' : w' = ((((((((w2.setCell ⟨w.heap.size + 1, 0, none⟩ (.int .i64 x.kind)).setCell ⟨w.heap.size + 1, 1, none⟩ (.int .u64 (word x.set.testBit 0))).setCell ⟨w.heap.size + 1, 2, none⟩ (.int .u64 (word x.set.testBit 1))).setCell ⟨w.heap.size + 1, 3, none⟩ (.int .u64 (word x.set.testBit 2))).setCell ⟨w.heap.size + 1, 4, none⟩ (.int .u64 (word x.set.testBit 3))).setCell ⟨w.heap.size + 1, 5, none⟩ (.slice B x.kids.len cap)).setCell ⟨w.heap.size + 1, 6, none⟩ (.int .i64 x.lo)).setCell ⟨w.heap.size + 1, 7, none⟩ (.int .i64 x.hi))) :
  Blk w' (w.heap.size + 1) 28 (ndA x B cap) ∧ Below w.heap.size w w' ∧ TreesAt w' (fun b => w.heap.size ≤ b) x.kids B := by
 have hg : w2.grownBy w' (some (w.heap.size + 1)) := by rw [hw']; exact only_put8 _ _ _ _ _ _ _ _ _ _
 refine ⟨by rw [hw']; exact hZ.put8 _ _ _ _ _ _ _ _, by rw [hw']; exact below_put8 hB (by omega) _ _ _ _ _ _ _ _, ht.keep (fun b o hb hl => World.cell?_of_block (hg.block b hl (fun e => by have := Option.some.inj e; omega))) (fun b hb _ => by omega)⟩
theorem copy_step {n : Nat} (ih : CopiesC n) : CopyC (n + 1) := by
 intro x P B cap w hsz hlen ht
 have hb2 : Below w.heap.size w ((w.alloc (.cells (ndA x B cap) 28)).alloc (.cells #[.int .i64 0, .int .u64 0, .int .u64 0, .int .u64 0, .int .u64 0, .slice none 0 0, .int .i64 0, .int .i64 0] 28)) := ((Below.refl _ _).alloc (Nat.le_refl _) _).alloc (by simp) _
 have HI := Lib.hid (ih x.kids P B cap _ (by unfold Nd.size at hsz; omega) (by unfold Nd.size at hlen; omega) (ht.below hb2))
 have HB2 := Lib.hid hb2
 have HX2 := Lib.hid (show Blk ((w.alloc (.cells (ndA x B cap) 28)).alloc (.cells #[.int .i64 0, .int .u64 0, .int .u64 0, .int .u64 0, .int .u64 0, .slice none 0 0, .int .i64 0, .int .i64 0] 28)) w.heap.size 28 (ndA x B cap) from (Blk.new _ _ _).alloc _)
 have HZ2 := Lib.hid (show Blk ((w.alloc (.cells (ndA x B cap) 28)).alloc (.cells #[.int .i64 0, .int .u64 0, .int .u64 0, .int .u64 0, .int .u64 0, .slice none 0 0, .int .i64 0, .int .i64 0] 28)) (w.heap.size + 1) 28 #[.int .i64 0, .int .u64 0, .int .u64 0, .int .u64 0, .int .u64 0, .slice none 0 0, .int .i64 0, .int .i64 0] from Blk.new_at (by simp))
 clear ht hb2 hsz hlen
 unfold ndV
 go_enter Tryz.func55, Tryz.ntmps55
 go_wp2_with fail
 refine HI.out.mono ?_
 rintro e w3 ⟨B3, cap3, rfl, hb3, hc3, ht3⟩
 have hX3 := HX2.out.below hb3 HX2.out.lt
 have hZ3 := HZ2.out.below hb3 HZ2.out.lt
 have HB3 := Lib.hid (HB2.out.trans (hb3.mono HB2.out.size))
 have HX3 := Lib.hid hX3
 have HZ3 := Lib.hid hZ3
 have HT3 := Lib.hid ht3
 have x0 : w3.cell? ⟨w.heap.size, 0, none⟩ = some (.int .i64 x.kind) := hX3.cell 0
 have x1 : w3.cell? ⟨w.heap.size, 1, none⟩ = some (.int .u64 (word x.set.testBit 0)) := hX3.cell 1
 have x2 : w3.cell? ⟨w.heap.size, 2, none⟩ = some (.int .u64 (word x.set.testBit 1)) := hX3.cell 2
 have x3 : w3.cell? ⟨w.heap.size, 3, none⟩ = some (.int .u64 (word x.set.testBit 2)) := hX3.cell 3
 have x4 : w3.cell? ⟨w.heap.size, 4, none⟩ = some (.int .u64 (word x.set.testBit 3)) := hX3.cell 4
 have x5 : w3.cell? ⟨w.heap.size, 5, none⟩ = some (.slice B x.kids.len cap) := hX3.cell 5
 have x6 : w3.cell? ⟨w.heap.size, 6, none⟩ = some (.int .i64 x.lo) := hX3.cell 6
 have x7 : w3.cell? ⟨w.heap.size, 7, none⟩ = some (.int .i64 x.hi) := hX3.cell 7
 have f5 := hX3.frozen 5
 have y0 : w3.cell? ⟨w.heap.size + 1, 0, none⟩ = some (.int .i64 0) := hZ3.cell 0
 have y1 : w3.cell? ⟨w.heap.size + 1, 1, none⟩ = some (.int .u64 0) := hZ3.cell 1
 have y2 : w3.cell? ⟨w.heap.size + 1, 2, none⟩ = some (.int .u64 0) := hZ3.cell 2
 have y3 : w3.cell? ⟨w.heap.size + 1, 3, none⟩ = some (.int .u64 0) := hZ3.cell 3
 have y4 : w3.cell? ⟨w.heap.size + 1, 4, none⟩ = some (.int .u64 0) := hZ3.cell 4
 have y5 : w3.cell? ⟨w.heap.size + 1, 5, none⟩ = some (.slice none 0 0) := hZ3.cell 5
 have y6 : w3.cell? ⟨w.heap.size + 1, 6, none⟩ = some (.int .i64 0) := hZ3.cell 6
 have y7 : w3.cell? ⟨w.heap.size + 1, 7, none⟩ = some (.int .i64 0) := hZ3.cell 7
 have g0 := hZ3.frozen 0
 have g1 := hZ3.frozen 1
 have g2 := hZ3.frozen 2
 have g3 := hZ3.frozen 3
 have g4 := hZ3.frozen 4
 have g5 := hZ3.frozen 5
 have g6 := hZ3.frozen 6
 have g7 := hZ3.frozen 7
 clear hX3 hZ3 ht3 hb3 HI HX2 HZ2 HB2
 dsimp only
 go_wp2
 go_light
 have hZ4 : Blk (w3.setCell ⟨w.heap.size, 5, none⟩ (.slice B3 x.kids.len cap3)) (w.heap.size + 1) 28 #[.int .i64 0, .int .u64 0, .int .u64 0, .int .u64 0, .int .u64 0, .slice none 0 0, .int .i64 0, .int .i64 0] := HZ3.out.far (p := ⟨w.heap.size, 5, none⟩) (by simp) _
 have hT4 : TreesAt (w3.setCell ⟨w.heap.size, 5, none⟩ (.slice B3 x.kids.len cap3)) (fun b => w.heap.size + 2 ≤ b) x.kids B3 := HT3.out.keep (fun b o hb _ => World.cell?_of_block (Below.heap_setCell w3 ⟨w.heap.size, 5, none⟩ _ b (by simp at hb ⊢; omega))) (fun b hb _ => by simp at hb; omega)
 have hF := put_next (x := x) (B := B3) (cap := cap3) hZ4 (HB3.out.setCell (p := ⟨w.heap.size, 5, none⟩) (Nat.le_refl _) _) hT4 rfl
 exact bodyPost_ret (ret_node Tryz.results55 rfl hF.1) rfl ⟨B3, cap3, rfl, hF.2.1, hc3, hF.2.2⟩
theorem copy_go (x : Nd) (P : Nat → Prop) (B : Option Addr) (cap : Nat) (w : World) (hlen : x.size ≤ 100000000) (ht : TreesAt w P x.kids B) :
  Calls Tryz.prog 55 #[ndV x B cap] w fun e w' => ∃ B' cap', e = .returned (ndV x B' cap') ∧ Below w.heap.size w w' ∧ x.kids.len ≤ cap' ∧ TreesAt w' (fun b => w.heap.size ≤ b) x.kids B' := by
 have h : ∀ n, CopyC n := by
  intro n
  induction n with
  | zero => exact fun x _ _ _ _ h => by unfold Nd.size at h; omega
  | succ n ih => exact copy_step (copies_step ih)
 exact h x.size x P B cap w (Nat.le_refl _) hlen ht
theorem copies_go (F : Trees) (P : Nat → Prop) (B : Option Addr) (cap : Nat) (w : World) (hlen : F.size ≤ 100000000) (ht : TreesAt w P F B) :
  Calls Tryz.prog 111 #[.slice B F.len cap] w fun e w' => ∃ B' cap', e = .returned (.slice B' F.len cap') ∧ Below w.heap.size w w' ∧ F.len ≤ cap' ∧ TreesAt w' (fun b => w.heap.size ≤ b) F B' :=
 copies_step (n := F.size) (fun x P B cap w _ hl ht => copy_go x P B cap w hl ht) F P B cap w (Nat.le_refl _) hlen ht
def isNoSet (s : Nat) : Bool := decide (word s.testBit 0 = 0) && (decide (word s.testBit 1 = 0) && (decide (word s.testBit 2 = 0) && decide (word s.testBit 3 = 0)))
end
section
open Go.ChangeShapes Go.WideShapes Go.ChangeAt Go.RowKit
theorem own_knob : ownKnob Tryz.prog.godebug = none := by kernel_rfl
theorem laid_out : laidOutB Tryz.prog = true := by kernel_rfl
theorem cellsByte : Tryz.prog.cellsOf 5 = 1 := by kernel_rfl
theorem bytesByte : Tryz.prog.bytesOf 5 = 1 := by kernel_rfl
theorem addr_add (b o j : Nat) : (⟨b, o, none⟩ : Addr).add j = ⟨b, o + j, none⟩ := by unfold Addr.add; split <;> simp_all
theorem u8_of_wf {n : Int} (h : (Lit.int .u8 n).wf = true) : 0 ≤ n ∧ n < 256 := by
 have hh : (decide (IntKind.min .u8 ≤ n) && decide (n ≤ IntKind.max .u8)) = true := h
 simp only [Bool.and_eq_true, decide_eq_true_eq] at hh
 obtain ⟨h1, h2⟩ := hh
 have e1 : IntKind.min .u8 = 0 := by decide
 have e2 : IntKind.max .u8 = 255 := by decide
 rw [e1] at h1
 rw [e2] at h2
 omega
theorem bytes_came {H : Type} {enc : TypeId × Value → H} {W : World} {A : Option Addr} {len cap : Nat} {d : DataW H} {p : List MemPlace} {ts : List TypeId} {ds : List (DataW H)} {j : Nat}
  (h : DataW.Trod enc Tryz.prog W 0 (fun _ => true) true 29 (.slice A len cap) d p)
  (hsz : (DataW.weightsEach Tryz.prog ts ds).all (· ≤ reachBytes) = true) (ht : ts[j]? = some 29) (hd : ds[j]? = some d) :
  ∃ bs : List Nat, bs.length = len ∧ BytesAt W W.heap.size A bs ∧ len ≤ cap := by
 obtain ⟨fuel, hf⟩ := h
 rcases open_ints Tryz.underlying29 Tryz.underlying5 cellsByte hf with ⟨hcs, _⟩ | ⟨x, l, c, zs, hcs, _, hl, hm, hz, hx, hcell, hwz⟩
 ·simp [Value.cells] at hcs
  obtain ⟨rfl, rfl, rfl⟩ := hcs
  exact ⟨[], rfl, ⟨by simp, by simp, by simp⟩, Nat.le_refl _⟩
 ·simp [Value.cells] at hcs
  obtain ⟨rfl, rfl, rfl⟩ := hcs
  simp only [if_true] at hz
  have hdx : d = .slice (lits .u8 (zs.take len)) (lits .u8 (zs.drop len)) := (Prod.mk.inj hx).1
  subst hdx
  have hs := sized_slice hsz ht hd Tryz.underlying29
  rw [bytesByte] at hs
  simp [lits] at hs
  have hr : reachBytes = 140737488351232 := by decide
  rw [hr] at hs
  have hlen : len ≤ 140737488351232 := by omega
  refine ⟨(zs.take len).map Int.toNat, by simp; omega, ⟨?_, by simp; omega, ?_⟩, hl⟩
  ·intro y hy
   obtain ⟨z, hz1, rfl⟩ := List.mem_map.1 hy
   have hw := hwz z (List.mem_of_mem_take hz1)
   have := u8_of_wf hw
   omega
  ·intro hpos
   have hpos' : 0 < len := by simp at hpos; omega
   obtain ⟨b, off, spot⟩ := x
   have h0 := hcell 0 (by omega)
   have hspot : spot = none := by simpa [Addr.add] using World.cell?_spot h0
   subst hspot
   refine ⟨b, off, rfl, by have := World.block_lt_of_cell? W _ h0; simpa [Addr.add] using this, ?_⟩
   intro i hi
   have hi' : i < len := by simp at hi; omega
   have hci := hcell i (by omega)
   rw [addr_add] at hci
   rw [hci]
   have hzi : i < zs.length := by omega
   have hw := hwz zs[i] (List.getElem_mem hzi)
   have h0' : 0 ≤ zs[i] := (u8_of_wf hw).1
   congr 2
   unfold byteAt
   simp [List.getD_eq_getElem?_getD, hi', hzi]
   omega
theorem u64_of_wf {n : Int} (h : (Lit.int .u64 n).wf = true) : 0 ≤ n ∧ n < 18446744073709551616 := by
 have hh : (decide (IntKind.min .u64 ≤ n) && decide (n ≤ IntKind.max .u64)) = true := h
 simp only [Bool.and_eq_true, decide_eq_true_eq] at hh
 obtain ⟨h1, h2⟩ := hh
 have e1 : IntKind.min .u64 = 0 := by decide
 have e2 : IntKind.max .u64 = 18446744073709551615 := by decide
 rw [e1] at h1
 rw [e2] at h2
 omega
theorem cellsWord : Tryz.prog.cellsOf 23 = 1 := by kernel_rfl
theorem cellsSet : Tryz.prog.cellsOf 25 = 4 := by kernel_rfl
theorem cellsInt : Tryz.prog.cellsOf 3 = 1 := by kernel_rfl
section
variable {H : Type} {enc : TypeId × Value → H} {W : World} {fuel : Nat} {cs : List Value} {y : DataW H × List MemPlace}
end
theorem cellsNode : Tryz.prog.cellsOf 28 = 8 := by kernel_rfl
theorem cellsNodes : Tryz.prog.cellsOf 26 = 1 := by kernel_rfl
theorem cellsTKind : Tryz.prog.cellsOf 22 = 1 := by kernel_rfl
theorem set_words {n0 n1 n2 n3 : Nat} (h0 : n0 < 18446744073709551616) (h1 : n1 < 18446744073709551616) (h2 : n2 < 18446744073709551616) (h3 : n3 < 18446744073709551616) :
  ∃ s : Nat, word s.testBit 0 = n0 ∧ word s.testBit 1 = n1 ∧ word s.testBit 2 = n2 ∧ word s.testBit 3 = n3 := by
 obtain ⟨k0, k1, k2, k3⟩ := word_bitsOf h0 h1 h2 h3
 have h : ∀ i, i < 4 → word (ofBits (bitsOf n0 n1 n2 n3) 256).testBit i = word (bitsOf n0 n1 n2 n3) i := fun i hi => word_congr (fun j hj => by rw [testBit_ofBits]; simp; omega)
 exact ⟨ofBits (bitsOf n0 n1 n2 n3) 256, by rw [h 0 (by decide), k0], by rw [h 1 (by decide), k1], by rw [h 2 (by decide), k2], by rw [h 3 (by decide), k3]⟩
theorem bulkAll_mem {H : Type} : ∀ {ds : List (DataW H)} {d : DataW H}, d ∈ ds → Rows.uptoBulk d ≤ Rows.uptoBulkAll ds
 | e :: r, d, h => by
  rcases List.mem_cons.1 h with rfl | h
  ·simp [Rows.uptoBulkAll]
  ·have := bulkAll_mem h
   simp [Rows.uptoBulkAll]
   omega
section
variable {H : Type} {enc : TypeId × Value → H} {W : World}
def CameF (enc : TypeId × Value → H) (W : World) (fuel : Nat) : Prop := ∀ (A : Option Addr) (len cap : Nat) (y : DataW H × List MemPlace),
 DataW.trod enc Tryz.prog W 0 (fun _ => true) true fuel 26 [.slice A len cap] = some y → ∃ F : Trees, F.len = len ∧ TreesAt W (fun b => b < W.heap.size) F A ∧ len ≤ cap ∧ F.size ≤ Rows.uptoBulk y.1
theorem node_came {fuel : Nat} {cs : List Value} {y : DataW H × List MemPlace} (ih : ∀ n, n < fuel → CameF enc W n) (h : DataW.trod enc Tryz.prog W 0 (fun _ => true) true fuel 28 cs = some y) :
  ∃ (x : Nd) (B : Option Addr) (cap : Nat), cs = ndCell x B cap ∧ x.kids.len ≤ cap ∧ TreesAt W (fun b => b < W.heap.size) x.kids B ∧ x.size ≤ Rows.uptoBulk y.1 := by
 obtain ⟨xs, n, hfn, hy, hl, hxl, hf⟩ := DataW.trod_struct Tryz.underlying28 h
 rw [cellsNode] at hl
 obtain ⟨v0, v1, v2, v3, v4, v5, v6, v7, rfl⟩ : ∃ v0 v1 v2 v3 v4 v5 v6 v7, cs = [v0, v1, v2, v3, v4, v5, v6, v7] := by
  match cs, hl with
  | [a, b, c, d, e, f, g, h], _ => exact ⟨a, b, c, d, e, f, g, h, rfl⟩
 have g0 : DataW.trod enc Tryz.prog W 0 (fun _ => true) true n 22 (([v0, v1, v2, v3, v4, v5, v6, v7].drop 0).take (Tryz.prog.cellsOf 22)) = xs[0]? := hf 0 _ rfl
 have g1 : DataW.trod enc Tryz.prog W 0 (fun _ => true) true n 25 (([v0, v1, v2, v3, v4, v5, v6, v7].drop 1).take (Tryz.prog.cellsOf 25)) = xs[1]? := hf 1 _ rfl
 have g2 : DataW.trod enc Tryz.prog W 0 (fun _ => true) true n 26 (([v0, v1, v2, v3, v4, v5, v6, v7].drop 5).take (Tryz.prog.cellsOf 26)) = xs[2]? := hf 2 _ rfl
 have g3 : DataW.trod enc Tryz.prog W 0 (fun _ => true) true n 3 (([v0, v1, v2, v3, v4, v5, v6, v7].drop 6).take (Tryz.prog.cellsOf 3)) = xs[3]? := hf 3 _ rfl
 have g4 : DataW.trod enc Tryz.prog W 0 (fun _ => true) true n 3 (([v0, v1, v2, v3, v4, v5, v6, v7].drop 7).take (Tryz.prog.cellsOf 3)) = xs[4]? := hf 4 _ rfl
 have hs : ∀ i, i < 5 → ∃ z, xs[i]? = some z := fun i hi => ⟨_, List.getElem?_eq_getElem (by rw [hxl]; exact hi)⟩
 obtain ⟨z0, e0⟩ := hs 0 (by decide)
 obtain ⟨z1, e1⟩ := hs 1 (by decide)
 obtain ⟨z2, e2⟩ := hs 2 (by decide)
 obtain ⟨z3, e3⟩ := hs 3 (by decide)
 obtain ⟨z4, e4⟩ := hs 4 (by decide)
 rw [e0] at g0
 rw [e1] at g1
 rw [e2] at g2
 rw [e3] at g3
 rw [e4] at g4
 rw [cellsTKind] at g0
 rw [cellsInt] at g3 g4
 rw [cellsNodes] at g2
 rw [cellsSet] at g1
 obtain ⟨a0, q0, _, _⟩ := DataW.trod_int Tryz.underlying22 g0
 obtain ⟨a3, q3, _, _⟩ := DataW.trod_int Tryz.underlying3 g3
 obtain ⟨a4, q4, _, _⟩ := DataW.trod_int Tryz.underlying3 g4
 obtain ⟨us, m, _, _, _, hul, hu⟩ := DataW.trod_array Tryz.underlying25 g1
 have ht : ∀ i, i < 4 → ∃ z, us[i]? = some z := fun i hi => ⟨_, List.getElem?_eq_getElem (by rw [hul]; exact hi)⟩
 have u0 := hu 0 (by decide)
 have u1 := hu 1 (by decide)
 have u2 := hu 2 (by decide)
 have u3 := hu 3 (by decide)
 obtain ⟨t0, f0⟩ := ht 0 (by decide)
 obtain ⟨t1, f1⟩ := ht 1 (by decide)
 obtain ⟨t2, f2⟩ := ht 2 (by decide)
 obtain ⟨t3, f3⟩ := ht 3 (by decide)
 rw [f0, cellsWord] at u0
 rw [f1, cellsWord] at u1
 rw [f2, cellsWord] at u2
 rw [f3, cellsWord] at u3
 obtain ⟨b0, r0, _, w0⟩ := DataW.trod_int Tryz.underlying23 u0
 obtain ⟨b1, r1, _, w1⟩ := DataW.trod_int Tryz.underlying23 u1
 obtain ⟨b2, r2, _, w2⟩ := DataW.trod_int Tryz.underlying23 u2
 obtain ⟨b3, r3, _, w3⟩ := DataW.trod_int Tryz.underlying23 u3
 have hv5 : ∃ A len cap, v5 = .slice A len cap := by
  rcases DataW.trod_slice Tryz.underlying26 g2 with ⟨hcs, _⟩ | ⟨a, l, c, _, _, _, _, hcs, _⟩
  ·simp at hcs; exact ⟨_, _, _, hcs⟩
  ·simp at hcs; exact ⟨_, _, _, hcs⟩
 obtain ⟨A, len, cap, rfl⟩ := hv5
 obtain ⟨F, hF1, hF2, hF3, hF4⟩ := ih n (by omega) A len cap z2 (by simpa using g2)
 simp at q0 q3 q4 r0 r1 r2 r3
 subst q0 q3 q4 r0 r1 r2 r3
 obtain ⟨s0, s0'⟩ := u64_of_wf w0
 obtain ⟨s1, s1'⟩ := u64_of_wf w1
 obtain ⟨s2, s2'⟩ := u64_of_wf w2
 obtain ⟨s3, s3'⟩ := u64_of_wf w3
 obtain ⟨n0, rfl⟩ := Int.eq_ofNat_of_zero_le s0
 obtain ⟨n1, rfl⟩ := Int.eq_ofNat_of_zero_le s1
 obtain ⟨n2, rfl⟩ := Int.eq_ofNat_of_zero_le s2
 obtain ⟨n3, rfl⟩ := Int.eq_ofNat_of_zero_le s3
 obtain ⟨s, k0, k1, k2, k3⟩ := set_words (n0 := n0) (n1 := n1) (n2 := n2) (n3 := n3) (by omega) (by omega) (by omega) (by omega)
 have hb : Rows.uptoBulk z2.1 ≤ Rows.uptoBulkAll (xs.map (·.1)) := bulkAll_mem (List.mem_map.2 ⟨z2, List.mem_of_getElem? e2, rfl⟩)
 refine ⟨⟨a0, s, F, a3, a4⟩, A, cap, by unfold ndCell; simp only; rw [k0, k1, k2, k3, hF1], by simpa only [hF1] using hF3, hF2, ?_⟩
 rw [hy]
 unfold Nd.size
 simp only [Rows.uptoBulk]
 omega
theorem bulk_sum {H : Type} : ∀ (es : List (DataW H)) (l : List Nat), es.length = l.length → (∀ (i : Nat) (d : DataW H) (k : Nat), es[i]? = some d → l[i]? = some k → k ≤ Rows.uptoBulk d) → l.sum ≤ Rows.uptoBulkAll es
 | [], [], _, _ => by simp
 | [], _ :: _, h, _ => by simp at h
 | _ :: _, [], h, _ => by simp at h
 | d :: es, k :: l, h, hk => by
  have h1 := bulk_sum es l (by simpa using h) (fun i d k h1 h2 => hk (i + 1) d k (by simpa using h1) (by simpa using h2))
  have h2 := hk 0 d k rfl rfl
  simp only [Rows.uptoBulkAll, List.sum_cons]
  omega
theorem size_sum (l : List Nd) : (Trees.of l).size = (l.map Nd.size).sum := by
 induction l with
 | nil => rfl
 | cons x l ih => rw [Trees.of, Trees.size, ih, List.map_cons, List.sum_cons]; rfl
theorem slice_came (fuel : Nat) (ih : ∀ n, n < fuel → CameF enc W n) : CameF enc W fuel := by
 intro A len cap y h
 rcases DataW.trod_slice Tryz.underlying26 h with ⟨hcs, hd⟩ | ⟨a, l, c, elems, rest, n, hfn, hcs, hd, hb, hlc, hm, hel, hc, _, _⟩
 ·simp at hcs
  obtain ⟨rfl, rfl, rfl⟩ := hcs
  exact ⟨.nil, rfl, trivial, Nat.le_refl _, Nat.zero_le _⟩
 ·simp at hcs
  obtain ⟨rfl, rfl, rfl⟩ := hcs
  rw [cellsNode] at hc
  have hx : ∀ i, i < len → ∃ (x : Nd) (B : Option Addr) (capx : Nat) (cs : List Value) (e : DataW H × List MemPlace), elems[i]? = some e ∧ W.cells? 0 (a.add (i * 8)) 8 = some cs ∧ cs = ndCell x B capx ∧ x.kids.len ≤ capx ∧ TreesAt W (fun b => b < W.heap.size) x.kids B ∧ x.size ≤ Rows.uptoBulk e.1 := by
   intro i hi
   have h1 := hc i hi
   rw [List.getElem?_eq_getElem (by omega)] at h1
   obtain ⟨cs, h2, h3⟩ := Option.bind_eq_some_iff.1 h1
   obtain ⟨x, B, capx, k1, k2, k3, k4⟩ := node_came (fun m hm => ih m (by omega)) h3
   exact ⟨x, B, capx, cs, _, List.getElem?_eq_getElem (by omega), h2, k1, k2, k3, k4⟩
  classical
  let f : Nat → Nd := fun i => if hi : i < len then Classical.choose (hx i hi) else ⟨0, 0, .nil, 0, 0⟩
  have hf2 : ∀ i (hi : i < len), f i = Classical.choose (hx i hi) := fun i hi => dif_pos hi
  have hspec : ∀ i (hi : i < len), ∃ (B : Option Addr) (capx : Nat) (cs : List Value) (e : DataW H × List MemPlace), elems[i]? = some e ∧ W.cells? 0 (a.add (i * 8)) 8 = some cs ∧ cs = ndCell (f i) B capx ∧ (f i).kids.len ≤ capx ∧ TreesAt W (fun b => b < W.heap.size) (f i).kids B ∧ (f i).size ≤ Rows.uptoBulk e.1 := fun i hi => by
   have := Classical.choose_spec (hx i hi)
   rw [← hf2 i hi] at this
   exact this
  have hget : ∀ i, i < len → ((List.range len).map f)[i]? = some (f i) := fun i hi => by rw [List.getElem?_map, List.getElem?_range hi]; rfl
  refine ⟨Trees.of ((List.range len).map f), by rw [Trees.len_of]; simp, ?_, hlc, ?_⟩
  ·rcases Nat.eq_zero_or_pos len with rfl | hpos
   ·exact TreesAt.nilAt (by rw [Trees.len_of]; simp)
   obtain ⟨bl, off, spot⟩ := a
   obtain ⟨B0, c0, cs0, z0, _, hcs0, hx0, _⟩ := hspec 0 hpos
   obtain ⟨_, _, hcell0⟩ := World.cells?_some hcs0
   have h00 := hcell0 0 (by decide)
   rw [hx0] at h00
   have hspot : spot = none := by
    have := World.cell?_spot (v := .int .i64 (f 0).kind) (by simpa [ndCell] using h00)
    simpa [Addr.add] using this
   subst hspot
   refine TreesAt.mk ?_ (fun i x hxi => ?_)
   ·have := World.block_lt_of_cell? W _ (u := .int .i64 (f 0).kind) (by simpa [ndCell] using h00)
    simpa [addr_add] using this
   ·rw [Trees.list_of] at hxi
    have hi : i < len := by
     have := (List.getElem?_eq_some_iff.mp hxi).1
     simpa using this
    rw [hget i hi] at hxi
    obtain rfl := Option.some.inj hxi
    obtain ⟨B, capx, cs, e, _, h1, h2, h3, h4, _⟩ := hspec i hi
    obtain ⟨_, _, h5⟩ := World.cells?_some h1
    rw [h2] at h5
    have g : ∀ j u, j < 8 → (ndCell (f i) B capx)[j]? = some u → W.cell? ⟨bl, off + i * 8 + j, none⟩ = some u := fun j u hj hu => by
     have := h5 j hj
     rw [addr_add, addr_add, hu] at this
     exact this
    exact ⟨B, capx, h3, ⟨g 0 _ (by decide) rfl, g 1 _ (by decide) rfl, g 2 _ (by decide) rfl, g 3 _ (by decide) rfl, g 4 _ (by decide) rfl, g 5 _ (by decide) rfl, g 6 _ (by decide) rfl, g 7 _ (by decide) rfl⟩, h4⟩
  ·rw [hd, size_sum]
   simp only [Rows.uptoBulk]
   have := bulk_sum (elems.map (·.1)) (((List.range len).map f).map Nd.size) (by simpa using hel) (fun i d k h1 h2 => by
    have hi : i < len := by
     have := (List.getElem?_eq_some_iff.mp h2).1
     simpa using this
    rw [List.getElem?_map, hget i hi] at h2
    obtain rfl := Option.some.inj h2
    obtain ⟨B, capx, cs, e, he, _, _, _, _, h6⟩ := hspec i hi
    rw [List.getElem?_map, he] at h1
    obtain rfl := Option.some.inj h1
    exact h6)
   omega
theorem came_all : ∀ fuel, CameF enc W fuel := fun fuel => by
 induction fuel using Nat.strongRecOn with
 | _ n ih => exact slice_came n ih
theorem tree_came {v : Value} {d : DataW H} {p : List MemPlace} (h : DataW.Trod enc Tryz.prog W 0 (fun _ => true) true 28 v d p) :
  ∃ (x : Nd) (B : Option Addr) (cap : Nat), v.cells.toList = ndCell x B cap ∧ x.kids.len ≤ cap ∧ TreesAt W (fun b => b < W.heap.size) x.kids B ∧ x.size ≤ Rows.uptoBulk d := by
 obtain ⟨fuel, hf⟩ := h
 exact node_came (fun n _ => came_all n) hf
end
section
variable {H : Type} {enc : TypeId × Value → H} {W : World} {fuel : Nat}
theorem slice_capfB {t e : TypeId} (hu : Tryz.prog.underlying t = some (.slice e)) {A : Option Addr} {len cap : Nat} {y : DataW H × List MemPlace} (h : DataW.trod enc Tryz.prog W 0 (fun _ => true) true fuel t [.slice A len cap] = some y) : len ≤ cap := by
 rcases DataW.trod_slice hu h with ⟨hcs, hd⟩ | ⟨a, l, c, elems, rest, m, _, hcs, hd, hb, hlc, hm, hel2, hc, _, _⟩
 ·simp at hcs
  omega
 ·simp at hcs
  omega
theorem slice_capB {t e : TypeId} (hu : Tryz.prog.underlying t = some (.slice e)) {A : Option Addr} {len cap : Nat} {d : DataW H} {p : List MemPlace} (h : DataW.Trod enc Tryz.prog W 0 (fun _ => true) true t (.slice A len cap) d p) : len ≤ cap := by
 obtain ⟨fuel, hf⟩ := h
 exact slice_capfB hu (show DataW.trod enc Tryz.prog W 0 (fun _ => true) true fuel t [.slice A len cap] = some (d, p) from hf)
theorem bytes_capB {A : Option Addr} {len cap : Nat} {d : DataW H} {p : List MemPlace} (h : DataW.Trod enc Tryz.prog W 0 (fun _ => true) true 29 (.slice A len cap) d p) : len ≤ cap := slice_capB Tryz.underlying29 h
end
end
section
open Go.ChangeShapes Go.WideShapes Go.ChangeAt Go.RowKit Go.Shelf
theorem gTab : Tryz.prog.globalNamed "math/bits.deBruijn64tab" = some 0 := by kernel_rfl
theorem gTabType : (Tryz.prog.globals[0]?).map (·.type) = some 228 := by kernel_rfl
theorem cellsTab : Tryz.prog.cellsOf 228 = 64 := by kernel_rfl
theorem table_at {W : World} (h : laidMetH Tryz.prog [("math/bits.deBruijn64tab", Rows.laid_math_bits_deBruijn64tab)] W) : TabAt 0 Lib.deBruijn64tab W := by
 have ht : Lib.TabIs Tryz.prog W "math/bits.deBruijn64tab" .u8 (Lib.deBruijn64tab.map fun n : Nat => (n : Int)) :=
  Lib.tabIs_of_head (rest := []) gTab gTabType Tryz.underlying228 Tryz.underlying5 cellsByte cellsTab h
 intro j hj
 have hc := ht.cell gTab j (by simpa using hj)
 rw [hc]
 simp [List.getD_eq_getElem?_getD, hj]
noncomputable def tabWorld (os : Os) : World :=
 { World.holding Tryz.prog os ⟨#[], #[], []⟩ with heap := (World.holding Tryz.prog os ⟨#[], #[], []⟩).heap.modify 0 fun
   | .cells _ t frozen => .cells (Lib.deBruijn64tab.map fun n : Nat => Value.int .u8 (n : Int)).toArray t frozen
   | o => o }
theorem node_val {H : Type} {enc : TypeId × Value → H} {W : World} {base : Nat} {v : Value} {d : DataW H} {p : List MemPlace} (hv : Value.okWide Tryz.prog W .any base 28 v) (h : DataW.Trod enc Tryz.prog W 0 (fun _ => true) true 28 v d p) :
  ∃ (x : Nd) (B : Option Addr) (cap : Nat), v = ndV x B cap ∧ x.kids.len ≤ cap ∧ TreesAt W (fun b => b < W.heap.size) x.kids B ∧ x.size ≤ Rows.uptoBulk d := by
 obtain ⟨x, B, cap, hc, h1, h2, h3⟩ := tree_came h
 simp only [Value.okWide, Tryz.underlying28] at hv
 obtain ⟨cs, rfl, _, _⟩ := hv
 refine ⟨x, B, cap, ?_, h1, h2, h3⟩
 have : cs = (ndCell x B cap).toArray := by
  have hc' : cs.toList = ndCell x B cap := hc
  rw [← hc']
 rw [this]
 rfl
end
section
open Go.RowKit
def KeepP (P : Nat → Prop) (w1 w2 : World) : Prop := ∀ b' o', P b' → w2.cell? ⟨b', o', none⟩ = w1.cell? ⟨b', o', none⟩
theorem cell_heap {w w' : World} {b o : Nat} (h : w'.heap[b]? = w.heap[b]?) : w'.cell? ⟨b, o, none⟩ = w.cell? ⟨b, o, none⟩ := by
 simp only [World.cell?, h]
theorem KeepP.start (P : Nat → Prop) (w : World) : KeepP P w w.drew := fun _ _ _ => rfl
theorem KeepP.by {P : Nat → Prop} {w1 w2 w3 : World} (h : KeepP P w1 w2) (hk : ∀ b, P b → w3.heap[b]? = w2.heap[b]?) : KeepP P w1 w3 := fun b' o' h' => (cell_heap (hk b' h')).trans (h b' o' h')
theorem KeepP.alloc {P : Nat → Prop} {w1 w2 : World} (h : KeepP P w1 w2) (hP : ∀ b, P b → b < w2.heap.size) (o : Obj) : KeepP P w1 (w2.alloc o) := h.by fun b hb => Below.heap_alloc w2 o b (hP b hb)
theorem KeepP.grown {P : Nat → Prop} {w1 w2 w3 : World} {row : Option Nat} (h : KeepP P w1 w2) (hg : w2.grownBy w3 row) (hP : ∀ b, P b → b < w2.heap.size ∧ some b ≠ row) : KeepP P w1 w3 := h.by fun b hb => hg.block b (hP b hb).1 (hP b hb).2
theorem KeepP.set {P : Nat → Prop} {w1 w2 : World} (h : KeepP P w1 w2) {p : Addr} (hP : ∀ b, P b → b ≠ p.block) (u : Value) : KeepP P w1 (w2.setCell p u) := h.by fun b hb => Below.heap_setCell w2 p u b (hP b hb)
theorem two_of {Q : Nat → Prop} {p q : Nat} (hp : Q p) (hq : Q q) : ∀ b, b = p ∨ b = q → Q b := by
 rintro b (rfl | rfl)
 ·exact hp
 ·exact hq
end
section
theorem lexS_dot {bs : List Nat} {i : Nat} (h : byteAt bs i = 46) : lexS bs i = .ok (⟨1, i, dotSet, 0, 0⟩, i + 1) := by
 unfold lexS; rw [if_pos h]
theorem lexS_esc {bs : List Nat} {i c j : Nat} (h : byteAt bs i = 92) (he : escS bs i = some (c, j)) : lexS bs i = .ok (⟨1, i, among [c] 1, 0, 0⟩, j) := by
 unfold lexS; rw [if_neg (by omega), if_pos h, he]
theorem lexS_esc_no {bs : List Nat} {i : Nat} (h : byteAt bs i = 92) (he : escS bs i = none) : lexS bs i = .error (14, i) := by
 unfold lexS; rw [if_neg (by omega), if_pos h, he]
theorem lexS_class {bs : List Nat} {i : Nat} {p : Nat → Bool} {j : Nat} (h : byteAt bs i = 91) (he : readS bs i = .ok (p, j)) : lexS bs i = .ok (⟨1, i, p, 0, 0⟩, j) := by
 unfold lexS; rw [if_neg (by omega), if_neg (by omega), if_pos h, he]
theorem lexS_class_no {bs : List Nat} {i : Nat} {e : Wrong} (h : byteAt bs i = 91) (he : readS bs i = .error e) : lexS bs i = .error e := by
 unfold lexS; rw [if_neg (by omega), if_neg (by omega), if_pos h, he]
theorem lexS_rep {bs : List Nat} {i : Nat} (h : byteAt bs i = 123) : lexS bs i = repS bs i := by
 unfold lexS; rw [if_neg (by omega), if_neg (by omega), if_neg (by omega), if_pos h]
theorem lexS_form {bs : List Nat} {i : Nat} (h : byteAt bs i = 93 ∨ byteAt bs i = 125 ∨ byteAt bs i = 10) : lexS bs i = .error (3, i) := by
 unfold lexS; rw [if_neg (by omega), if_neg (by omega), if_neg (by omega), if_neg (by omega), if_pos h]
def Common (c : Nat) : Prop := c ≠ 46 ∧ c ≠ 92 ∧ c ≠ 91 ∧ c ≠ 123 ∧ c ≠ 93 ∧ c ≠ 125 ∧ c ≠ 10
theorem lexS_sign {bs : List Nat} {i : Nat} (h : Common (byteAt bs i)) (hk : signKind (byteAt bs i) ≠ 0) : lexS bs i = .ok (⟨signKind (byteAt bs i), i, noSet, 0, 0⟩, i + 1) := by
 obtain ⟨h1, h2, h3, h4, h5, h6, h7⟩ := h
 unfold lexS; rw [if_neg h1, if_neg h2, if_neg h3, if_neg h4, if_neg (by omega), if_pos hk]
theorem lexS_own {bs : List Nat} {i : Nat} (h : Common (byteAt bs i)) (hk : signKind (byteAt bs i) = 0) : lexS bs i = .ok (⟨1, i, among [byteAt bs i] 1, 0, 0⟩, i + 1) := by
 obtain ⟨h1, h2, h3, h4, h5, h6, h7⟩ := h
 unfold lexS; rw [if_neg h1, if_neg h2, if_neg h3, if_neg h4, if_neg (by omega), if_neg (by omega)]
end
section
open Go.RowKit
def readyS (L : List Lex) : Int × Int := if L.all rightS = false then (6, 0) else if h : 1024 < L.length then (4, (L[1024]).place) else (0, 0)
theorem readyS_bad {L : List Lex} {k : Nat} {x : Lex} (h : L[k]? = some x) (hx : rightS x = false) : readyS L = (6, 0) := by
 refine if_pos ?_
 cases ha : L.all rightS
 ·rfl
 ·have := List.all_eq_true.1 ha x (List.mem_of_getElem? h)
  rw [hx] at this
  cases this
theorem all_right {L : List Lex} (h : ∀ (k : Nat) x, L[k]? = some x → rightS x = true) : L.all rightS = true := List.all_eq_true.2 fun x hx => by
 obtain ⟨k, hk, rfl⟩ := List.mem_iff_getElem.1 hx
 exact h k _ (List.getElem?_eq_getElem hk)
theorem readyS_ok {L : List Lex} (h : L.all rightS = true) (hl : L.length ≤ 1024) : readyS L = (0, 0) := by
 unfold readyS
 rw [if_neg (by rw [h]; decide), dif_neg (by omega)]
theorem readyS_long {L : List Lex} {x : Lex} (h : L.all rightS = true) (hx : L[1024]? = some x) : readyS L = (4, x.place) := by
 obtain ⟨hl, rfl⟩ := List.getElem?_eq_some_iff.1 hx
 unfold readyS
 rw [if_neg (by rw [h]; decide), dif_pos hl]
theorem ret_badv {fn : Func} {t : Tmp} (h : fn.results = #[.cell t 77]) {tmps : Array Value} {w : World} {g : Nat} {a b : Value} (hp : tmps.getD t undef = .pointer (some ⟨g, 0, none⟩)) (hb : Blk w g 77 #[a, b]) :
  (results fn tmps).run Tryz.prog w = .ok (.agg #[a, b]) w :=
 results_cell_row h tmps w g _ _ _ _ hp hb Tryz.underlying77 rfl (by kernel_rfl)
theorem ready_go (A : Option Addr) (cap : Nat) (L : List Lex) (w : World) (hA : LexsAt w w.heap.size A L) (hlen : L.length ≤ 140737488355328) :
  Calls Tryz.prog 158 #[.slice A L.length cap] w fun e w' => e = .returned (.agg #[.int .i64 (readyS L).1, .int .i64 (readyS L).2]) ∧ Below w.heap.size w w' := by
 have HA := Lib.hid hA
 have hb0 : Below w.heap.size w (w.alloc (.cells #[.int .i64 0, .int .i64 0] 77)) := (Below.refl _ _).alloc (Nat.le_refl _) _
 have HB0 := Lib.hid hb0
 have HZ0 := Lib.hid (Blk.new w 77 #[.int .i64 0, .int .i64 0])
 clear hA hb0
 go_enter Tryz.func158, Tryz.ntmps158
 go_wp2
 go_loopw [7] (fun i wr => ∃ k : Nat, i = .int .i64 (k : Int) ∧ k ≤ L.length ∧ Hid (Below w.heap.size w wr) ∧ Hid (Blk wr w.heap.size 77 #[.int .i64 0, .int .i64 0]) ∧ Hid (∀ j x, j < k → L[j]? = some x → rightS x = true)) (fun i _ => L.length - (intOf i).toNat)
 case atStart => exact ⟨0, rfl, Nat.zero_le _, HB0, HZ0, Lib.hid (fun j x hj => by omega)⟩
 case round =>
  clear HB0 HZ0
  obtain ⟨k, rfl, hk, HB, HZ, HR⟩ := hrel
  by_cases hlt : k < L.length
  ·obtain ⟨x, hx⟩ : ∃ x, L[k]? = some x := ⟨_, List.getElem?_eq_getElem hlt⟩
   obtain ⟨b, o, rfl, hbl, hc⟩ := HA.out (by omega)
   have hbl' : b < wr.heap.size := Nat.lt_of_lt_of_le hbl HB.out.size
   obtain ⟨c0, c1, c2, c3, c4, c5, c6, c7⟩ := ((HA.out.below HB.out) (by omega)).elim fun b' h => h.elim fun o' h => by
    obtain ⟨e, _, h⟩ := h
    obtain ⟨rfl, rfl⟩ : b = b' ∧ o = o' := by simpa using e
    exact h k x hx
   clear hc
   have Hx := Lib.hid hx
   have hdl : (k : Int) < (L.length : Int) := by omega
   have HZx := Lib.hid (HZ.out.alloc (.cells #[.int .i64 x.kind, .int .i64 x.place, .int .u64 (word x.set 0), .int .u64 (word x.set 1), .int .u64 (word x.set 2), .int .u64 (word x.set 3), .int .i64 x.lo, .int .i64 x.hi] 143))
   have HBx := Lib.hid (HB.out.alloc HB.out.size (.cells #[.int .i64 x.kind, .int .i64 x.place, .int .u64 (word x.set 0), .int .u64 (word x.set 1), .int .u64 (word x.set 2), .int .u64 (word x.set 3), .int .i64 x.lo, .int .i64 x.hi] 143))
   clear hx
   go_wp2_with fail
   refine (right_go _ _ _ _ _ _ _ _ _).mono ?_
   rintro e w1 ⟨rfl, hb1⟩
   have HZ1 := Lib.hid (HZx.out.below hb1 HZx.out.lt)
   have HB1 := Lib.hid (HBx.out.trans (hb1.mono HBx.out.size))
   obtain ⟨b0, b1, f0, f1⟩ := HZ1.out.c2
   clear hb1 c0 c1 c2 c3 c4 c5 c6 c7
   cases hr : rightS x
   ·have hr' := hr
    unfold rightS at hr'
    rw [hr']
    have HV := Lib.hid (readyS_bad Hx.out hr)
    clear hr hr'
    go_wp2
    go_light
    rw [HV.out]
    exact bodyPost_ret (ret_badv Tryz.results158 rfl HZ1.out.set2) rfl ⟨rfl, below_set2 HB1.out (Nat.le_refl _) _ _⟩
   ·have hr' := hr
    unfold rightS at hr'
    rw [hr']
    have Hr := Lib.hid hr
    clear hr hr'
    go_wp2
    go_roundw
    case rel => exact ⟨k + 1, by go_num, by omega, HB1, HZ1, Lib.hid (fun j y hj hy => by
     rcases Nat.lt_or_ge j k with h | h
     ·exact HR.out j y h hy
     ·obtain rfl : j = k := by omega
      have := Hx.out.symm.trans hy
      obtain rfl : x = y := by simpa using this
      exact Hr.out)⟩
    case measure => simp [intOf]; omega
  ·have hdl : ¬ (k : Int) < (L.length : Int) := by omega
   have Hall := Lib.hid (all_right (L := L) (fun j x hx => HR.out j x (by have := (List.getElem?_eq_some_iff.1 hx).1; omega) hx))
   obtain ⟨b0, b1, f0, f1⟩ := HZ.out.c2
   by_cases h1024 : L.length ≤ 1024
   ·have HV := Lib.hid (readyS_ok Hall.out h1024)
    have hd : ¬ (1024 : Int) < (L.length : Int) := by omega
    clear h1024
    go_wp2
    go_light
    rw [HV.out]
    exact bodyPost_ret (ret_badv Tryz.results158 rfl HZ.out.set2) rfl ⟨rfl, below_set2 HB.out (Nat.le_refl _) _ _⟩
   ·obtain ⟨x, hx⟩ : ∃ x, L[1024]? = some x := ⟨_, List.getElem?_eq_getElem (by omega)⟩
    have HV := Lib.hid (readyS_long Hall.out hx)
    have hd : (1024 : Int) < (L.length : Int) := by omega
    obtain ⟨b, o, rfl, hbl, hc⟩ := HA.out (by omega)
    obtain ⟨_, c1, _⟩ := ((HA.out.below HB.out) (by omega)).elim fun b' h => h.elim fun o' h => by
     obtain ⟨e, _, h⟩ := h
     obtain ⟨rfl, rfl⟩ : b = b' ∧ o = o' := by simpa using e
     exact h 1024 x hx
    have c1' : wr.cell? ⟨b, o + 8193, none⟩ = some (.int .i64 x.place) := c1
    clear h1024 hc hx c1
    go_wp2
    go_light
    rw [HV.out]
    exact bodyPost_ret (ret_badv Tryz.results158 rfl HZ.out.set2) rfl ⟨rfl, below_set2 HB.out (Nat.le_refl _) _ _⟩
theorem ret_tree {fn : Func} {t2 t3 : Tmp} (h : fn.results = #[.cell t2 28, .cell t3 77]) {tmps : Array Value} {w : World} {g g' : Nat} {a0 a1 a2 a3 a4 a5 a6 a7 x y : Value}
  (hp : tmps.getD t2 undef = .pointer (some ⟨g, 0, none⟩)) (hp' : tmps.getD t3 undef = .pointer (some ⟨g', 0, none⟩)) (hb : Blk w g 28 #[a0, a1, a2, a3, a4, a5, a6, a7]) (hb' : Blk w g' 77 #[x, y]) :
  (results fn tmps).run Tryz.prog w = .ok (.tuple #[.agg #[a0, a1, a2, a3, a4, a5, a6, a7], .agg #[x, y]]) w := by
 have h1 := run_loadVar_row (P := Tryz.prog) w g 28 28 #[a0, a1, a2, a3, a4, a5, a6, a7] (0, 0) _ hb Tryz.underlying28 rfl (by kernel_rfl)
 have h2 := run_loadVar_row (P := Tryz.prog) w g' 77 77 #[x, y] (0, 0) _ hb' Tryz.underlying77 rfl (by kernel_rfl)
 simp only [results, h]
 simp only [Array.getD_eq_getD_getElem?] at hp hp'
 simp [Sem.run_bind, hp, hp', asAddr, h1, h2, Result.andThen]
def TreeOut (r : Except Wrong Nd) (w : World) (e : Ending) (w' : World) : Prop :=
 match r with
 | .ok x => ∃ B cap, e = .returned (.tuple #[ndV x B cap, .agg #[.int .i64 0, .int .i64 0]]) ∧ Below w.heap.size w w' ∧ x.kids.len ≤ cap ∧ TreesAt w' (fun b => w.heap.size ≤ b) x.kids B
 | .error (k, q) => e = .returned (.tuple #[zeroN, .agg #[.int .i64 k, .int .i64 q]]) ∧ Below w.heap.size w w'
theorem lexemesS_bad {L : List Lex} (h : (readyS L).1 ≠ 0) : lexemesS L = .error (readyS L) := by
 unfold readyS at h ⊢
 unfold lexemesS
 by_cases h1 : L.all rightS = false
 ·rw [if_pos h1, if_pos h1]
 ·rw [if_neg h1, if_neg h1]
  by_cases h2 : 1024 < L.length
  ·rw [dif_pos h2, dif_pos h2]
  ·rw [if_neg h1, dif_neg h2] at h
   exact absurd rfl h
theorem readyS_zero {L : List Lex} (h : (readyS L).1 = 0) : readyS L = (0, 0) ∧ L.all rightS = true ∧ L.length ≤ 1024 := by
 unfold readyS at h ⊢
 by_cases h1 : L.all rightS = false
 ·rw [if_pos h1] at h; cases h
 ·by_cases h2 : 1024 < L.length
  ·rw [if_neg h1, dif_pos h2] at h; cases h
  ·rw [if_neg h1, dif_neg h2]
   exact ⟨rfl, by simpa using h1, by omega⟩
theorem lexemesS_ok {L : List Lex} (h : L.all rightS = true) (hl : L.length ≤ 1024) : lexemesS L = match altG (3 * L.length + 3) [] [] L with
  | .error e => .error e
  | .ok (x, _) => .ok x := by
 unfold lexemesS
 rw [if_neg (by rw [h]; decide), dif_neg (by omega)]
 rfl
theorem lexemes_go (A : Option Addr) (cap : Nat) (L : List Lex) (w : World) (hA : LexsAt w w.heap.size A L) (hlen : L.length ≤ 140737488355328) (hcap : L.length ≤ cap) :
  Calls Tryz.prog 123 #[.slice A L.length cap] w (TreeOut (lexemesS L) w) := by
 have hmf : ∀ (fn : Fn) (first cap : Array Value) (w : World), (Instr.makeFunc fn first cap).run Tryz.prog w = .ok (.func fn first cap) w := fun _ _ _ _ => rfl
 have hb2 : Below w.heap.size w ((w.alloc (.cells #[.int .i64 0, .int .u64 0, .int .u64 0, .int .u64 0, .int .u64 0, .slice none 0 0, .int .i64 0, .int .i64 0] 28)).alloc (.cells #[.int .i64 0, .int .i64 0] 77)) := ((Below.refl _ _).alloc (Nat.le_refl _) _).alloc (by simp) _
 have HB2 := Lib.hid hb2
 have HG2 := Lib.hid (show Blk ((w.alloc (.cells #[.int .i64 0, .int .u64 0, .int .u64 0, .int .u64 0, .int .u64 0, .slice none 0 0, .int .i64 0, .int .i64 0] 28)).alloc (.cells #[.int .i64 0, .int .i64 0] 77)) w.heap.size 28 _ from (Blk.new w 28 #[.int .i64 0, .int .u64 0, .int .u64 0, .int .u64 0, .int .u64 0, .slice none 0 0, .int .i64 0, .int .i64 0]).alloc _)
 have HH2 := Lib.hid (show Blk ((w.alloc (.cells #[.int .i64 0, .int .u64 0, .int .u64 0, .int .u64 0, .int .u64 0, .slice none 0 0, .int .i64 0, .int .i64 0] 28)).alloc (.cells #[.int .i64 0, .int .i64 0] 77)) (w.heap.size + 1) 77 #[.int .i64 0, .int .i64 0] from Blk.new_at (by simp))
 have HA := Lib.hid hA
 have hz2 : ((w.alloc (.cells #[.int .i64 0, .int .u64 0, .int .u64 0, .int .u64 0, .int .u64 0, .slice none 0 0, .int .i64 0, .int .i64 0] 28)).alloc (.cells #[.int .i64 0, .int .i64 0] 77)).heap.size = w.heap.size + 2 := by simp
 have HRd := Lib.hid (ready_go A cap L _ ((hA.below hb2).more (by omega)) hlen)
 clear hb2 hA hz2
 go_enter_defers Tryz.func123, Tryz.ntmps123
 go_wp2_with fail
 refine HRd.out.mono ?_
 rintro e w3 ⟨rfl, hb3⟩
 have HB3 := Lib.hid (HB2.out.trans (hb3.mono HB2.out.size))
 have hG3 := HG2.out.below hb3 HG2.out.lt
 have hH3 := HH2.out.below hb3 HH2.out.lt
 have HG3 := Lib.hid hG3
 have HH3 := Lib.hid hH3
 have hne1 : w.heap.size ≠ w3.heap.size := by have := hG3.lt; omega
 have hne2 : w.heap.size + 1 ≠ w3.heap.size := by have := hH3.lt; omega
 have hlt1 : w.heap.size < w3.heap.size := hG3.lt
 have hlt2 : w.heap.size + 1 < w3.heap.size := hH3.lt
 by_cases h0 : (readyS L).1 = 0
 ·obtain ⟨h1, h2, h3⟩ := readyS_zero h0
  have HV := Lib.hid (lexemesS_ok h2 h3)
  rw [h1]
  have hb5 : Below w3.heap.size w3 ((w3.alloc (.cells #[.int .i64 0, .int .i64 0] 77)).alloc (.cells #[.slice A L.length cap, .slice none 0 0] 179)) := ((Below.refl _ _).alloc (Nat.le_refl _) _).alloc (by simp) _
  have hP5 : PAt ((w3.alloc (.cells #[.int .i64 0, .int .i64 0] 77)).alloc (.cells #[.slice A L.length cap, .slice none 0 0] 179)) (w3.heap.size + 1) (.slice none 0 0) L 0 :=
   ⟨A, cap, [], Blk.new_at (by simp), hcap, (HA.out.below (HB3.out.trans (hb5.mono HB3.out.size))).more (by omega), World.ownsRow_nil _ _ _ _⟩
  have HC := Lib.hid ((reads_go (3 * L.length + 3)).1 (w3.heap.size + 1) [] L _ (.slice none 0 0) hP5 (by omega) (by decide) (by omega))
  have HB5 := Lib.hid (HB3.out.trans (hb5.mono HB3.out.size))
  have HG5 := Lib.hid (hG3.below hb5 hlt1)
  have HH5 := Lib.hid (hH3.below hb5 hlt2)
  clear hb3 hG3 hH3 HRd HB2 HG2 HH2 h0 h1 h2 hb5 hP5 HG3 HH3
  go_wp2_with fail
  refine HC.out.mono ?_
  cases hx : altG (3 * L.length + 3) [] [] L with
  | error x =>
   obtain ⟨k, q⟩ := x
   rw [hx] at HV
   rintro e w6 ⟨rfl, hb6⟩
   have HV := Lib.hid (show lexemesS L = .error (k, q) from HV.out)
   have HB6 := Lib.hid (HB5.out.trans (hb6.mono (by omega)))
   have hG6 := HG5.out.below hb6 (by omega)
   have hH6 := HH5.out.below hb6 (by omega)
   dsimp only
   refine leaves_cons (f := 159) (args := #[.pointer (some ⟨w.heap.size, 0, none⟩), .pointer (some ⟨w.heap.size + 1, 0, none⟩)]) (by simp) (by simp [go_sem]) ?_
   refine (catch_bad w.heap.size (w.heap.size + 1) k q [] w6 hG6 hH6 (by omega)).mono ?_
   rintro e u' w7 ⟨rfl, rfl, hG7, hH7, hb7⟩
   dsimp only
   change Leaves Tryz.prog _ _ _ [] FrameMode.returning w7
   rw [HV.out]
   exact ⟨_, ret_tree Tryz.results123 rfl rfl hG7 hH7, rfl, HB6.out.trans (hb7 w.heap.size (Nat.le_refl _) (by omega))⟩
  | ok x =>
   obtain ⟨x, R⟩ := x
   rw [hx] at HV
   rintro e w6 ⟨v6, B, cap6, rfl, hP6, hS6, hc6, ht6⟩
   have HV := Lib.hid (show lexemesS L = .ok x from HV.out)
   have HB6 := Lib.hid (HB5.out.trans (hS6.1.mono (by omega)))
   have hG6 := HG5.out.below hS6.1 (by omega)
   have hH6 := HH5.out.below hS6.1 (by omega)
   have HT6 := Lib.hid (ht6.weak (Q := fun b => w3.heap.size + 2 ≤ b) (fun b hb _ => by have := hb.1; simp at this; omega))
   have y0 : w6.cell? ⟨w.heap.size, 0, none⟩ = some (.int .i64 0) := hG6.cell 0
   have y1 : w6.cell? ⟨w.heap.size, 1, none⟩ = some (.int .u64 0) := hG6.cell 1
   have y2 : w6.cell? ⟨w.heap.size, 2, none⟩ = some (.int .u64 0) := hG6.cell 2
   have y3 : w6.cell? ⟨w.heap.size, 3, none⟩ = some (.int .u64 0) := hG6.cell 3
   have y4 : w6.cell? ⟨w.heap.size, 4, none⟩ = some (.int .u64 0) := hG6.cell 4
   have y5 : w6.cell? ⟨w.heap.size, 5, none⟩ = some (.slice none 0 0) := hG6.cell 5
   have y6 : w6.cell? ⟨w.heap.size, 6, none⟩ = some (.int .i64 0) := hG6.cell 6
   have y7 : w6.cell? ⟨w.heap.size, 7, none⟩ = some (.int .i64 0) := hG6.cell 7
   have z0 := hG6.frozen 0
   have z1 := hG6.frozen 1
   have z2 := hG6.frozen 2
   have z3 := hG6.frozen 3
   have z4 := hG6.frozen 4
   have z5 := hG6.frozen 5
   have z6 := hG6.frozen 6
   have z7 := hG6.frozen 7
   obtain ⟨b0, b1, f0, f1⟩ := hH6.c2
   have HG6 := Lib.hid hG6
   have HH6 := Lib.hid hH6
   have hsz : w.heap.size + 1 ≤ w3.heap.size + 2 := by omega
   clear hP6 hS6 ht6 hG6 hH6 HC hx
   unfold ndV
   dsimp only
   go_wp2
   go_light
   have hg1 := only_put8 w6 w.heap.size (.int .i64 x.kind) (.int .u64 (word x.set.testBit 0)) (.int .u64 (word x.set.testBit 1)) (.int .u64 (word x.set.testBit 2)) (.int .u64 (word x.set.testBit 3)) (.slice B x.kids.len cap6) (.int .i64 x.lo) (.int .i64 x.hi)
   have ht7 := TreesAt.keep (Q := fun b => w3.heap.size + 2 ≤ b) (fun b o (hb : w3.heap.size + 2 ≤ b) hl => World.cell?_of_block (hg1.block b hl (by simp; omega))) (fun b hb _ => hb) HT6.out
   refine leaves_cons (f := 159) (args := #[.pointer (some ⟨w.heap.size, 0, none⟩), .pointer (some ⟨w.heap.size + 1, 0, none⟩)]) (by simp) (by simp [go_sem]) ?_
   refine (catch_idle w.heap.size (w.heap.size + 1) _).mono ?_
   rintro e u' w7 ⟨rfl, rfl, hw7⟩
   dsimp only
   change Leaves Tryz.prog _ _ _ [] FrameMode.returning w7
   rw [HV.out]
   have hg2 := only_set (only_set (only_refl ((((((((w6.setCell ⟨w.heap.size, 0, none⟩ (.int .i64 x.kind)).setCell ⟨w.heap.size, 1, none⟩ (.int .u64 (word x.set.testBit 0))).setCell ⟨w.heap.size, 2, none⟩ (.int .u64 (word x.set.testBit 1))).setCell ⟨w.heap.size, 3, none⟩ (.int .u64 (word x.set.testBit 2))).setCell ⟨w.heap.size, 4, none⟩ (.int .u64 (word x.set.testBit 3))).setCell ⟨w.heap.size, 5, none⟩ (.slice B x.kids.len cap6)).setCell ⟨w.heap.size, 6, none⟩ (.int .i64 x.lo)).setCell ⟨w.heap.size, 7, none⟩ (.int .i64 x.hi)) (some (w.heap.size + 1))) 0 (.int .i64 0)) 1 (.int .i64 0)
   have ht8 := TreesAt.keep (Q := fun b => w.heap.size ≤ b) (fun b o (hb : w3.heap.size + 2 ≤ b) hl => World.cell?_of_block (hg2.block b hl (by simp; omega))) (fun b (hb : w3.heap.size + 2 ≤ b) _ => by omega) ht7
   have hG7 := (HG6.out.put8 (.int .i64 x.kind) (.int .u64 (word x.set.testBit 0)) (.int .u64 (word x.set.testBit 1)) (.int .u64 (word x.set.testBit 2)) (.int .u64 (word x.set.testBit 3)) (.slice B x.kids.len cap6) (.int .i64 x.lo) (.int .i64 x.hi)).far2 (g' := w.heap.size + 1) (by omega) (.int .i64 0) (.int .i64 0)
   have hH7 := (HH6.out.past8 (g' := w.heap.size) (by omega) (.int .i64 x.kind) (.int .u64 (word x.set.testBit 0)) (.int .u64 (word x.set.testBit 1)) (.int .u64 (word x.set.testBit 2)) (.int .u64 (word x.set.testBit 3)) (.slice B x.kids.len cap6) (.int .i64 x.lo) (.int .i64 x.hi)).set2 (a' := .int .i64 0) (b' := .int .i64 0)
   have hb7 := below_set2 (below_put8 HB6.out (Nat.le_refl _) (.int .i64 x.kind) (.int .u64 (word x.set.testBit 0)) (.int .u64 (word x.set.testBit 1)) (.int .u64 (word x.set.testBit 2)) (.int .u64 (word x.set.testBit 3)) (.slice B x.kids.len cap6) (.int .i64 x.lo) (.int .i64 x.hi)) (Nat.le_succ w.heap.size) (.int .i64 0) (.int .i64 0)
   rw [← hw7] at ht8 hG7 hH7 hb7
   exact ⟨_, ret_tree Tryz.results123 rfl rfl hG7 hH7, B, cap6, rfl, hb7, hc6, ht8⟩
 ·have hd : ((readyS L).1 != 0) = true := by simpa using h0
  have HV := Lib.hid (lexemesS_bad h0)
  have y0 : w3.cell? ⟨w.heap.size, 0, none⟩ = some (.int .i64 0) := hG3.cell 0
  have y1 : w3.cell? ⟨w.heap.size, 1, none⟩ = some (.int .u64 0) := hG3.cell 1
  have y2 : w3.cell? ⟨w.heap.size, 2, none⟩ = some (.int .u64 0) := hG3.cell 2
  have y3 : w3.cell? ⟨w.heap.size, 3, none⟩ = some (.int .u64 0) := hG3.cell 3
  have y4 : w3.cell? ⟨w.heap.size, 4, none⟩ = some (.int .u64 0) := hG3.cell 4
  have y5 : w3.cell? ⟨w.heap.size, 5, none⟩ = some (.slice none 0 0) := hG3.cell 5
  have y6 : w3.cell? ⟨w.heap.size, 6, none⟩ = some (.int .i64 0) := hG3.cell 6
  have y7 : w3.cell? ⟨w.heap.size, 7, none⟩ = some (.int .i64 0) := hG3.cell 7
  have z0 := hG3.frozen 0
  have z1 := hG3.frozen 1
  have z2 := hG3.frozen 2
  have z3 := hG3.frozen 3
  have z4 := hG3.frozen 4
  have z5 := hG3.frozen 5
  have z6 := hG3.frozen 6
  have z7 := hG3.frozen 7
  obtain ⟨b0, b1, f0, f1⟩ := hH3.c2
  clear hb3 hG3 hH3 HRd HB2 HG2 HH2 h0
  generalize readyS L = kq at *
  obtain ⟨k, q⟩ := kq
  dsimp only at hd ⊢
  go_wp2
  go_region
  all_goals go_wp2
  all_goals go_light
  rw [HV.out]
  exact ⟨_, ret_tree Tryz.results123 rfl rfl (((HG3.out.put8 _ _ _ _ _ _ _ _).far2 (by omega) _ _).alloc _).drew (((HH3.out.past8 (by omega) _ _ _ _ _ _ _ _).set2).alloc _).drew, rfl, ((below_set2 (below_put8 HB3.out (Nat.le_refl _) _ _ _ _ _ _ _ _) (by omega) _ _).alloc (by have := HB3.out.size; simpa [World.setCell] using this) _).drew⟩
end
section
abbrev RelW := Nat → Nat → Prop
def noR : RelW := fun _ _ => False
def idR : RelW := fun i j => i = j
def setR (s : Nat) (w : List Nat) : RelW := fun i j => ∃ c, w[i]? = some c ∧ s.testBit c = true ∧ j = i + 1
def catR : List RelW → RelW
 | [] => idR
 | R :: l => fun i j => ∃ k, R i k ∧ catR l k j
def altR (l : List RelW) : RelW := fun i j => ∃ R ∈ l, R i j
def itR (R : RelW) : Nat → RelW
 | 0 => idR
 | k + 1 => fun i j => ∃ m, R i m ∧ itR R k m j
def starR (R : RelW) : RelW := fun i j => ∃ k, itR R k i j
def plusR (R : RelW) : RelW := fun i j => ∃ m, R i m ∧ starR R m j
def optR (R : RelW) : RelW := fun i j => i = j ∨ R i j
def repR (lo hi : Int) (R : RelW) : RelW := fun i j => ∃ k : Nat, lo ≤ (k : Int) ∧ (hi < 0 ∨ (k : Int) ≤ hi) ∧ itR R k i j
def saysK (k : Int) (s : Nat) (lo hi : Int) (w : List Nat) (Rs : List RelW) : RelW :=
 if k = 2 then idR
 else if k = 3 then setR s w
 else if k = 4 then catR Rs
 else if k = 5 then altR Rs
 else if k = 6 then starR (Rs.headD noR)
 else if k = 7 then plusR (Rs.headD noR)
 else if k = 8 then optR (Rs.headD noR)
 else if k = 9 then repR lo hi (Rs.headD noR)
 else noR
def Trees.rels (w : List Nat) : Trees → List RelW
 | .nil => []
 | .cons k s ks lo hi r => saysK k s lo hi w (ks.rels w) :: r.rels w
def Nd.rel (x : Nd) (w : List Nat) : RelW := saysK x.kind x.set x.lo x.hi w (x.kids.rels w)
theorem Trees.rels_list (w : List Nat) : ∀ F : Trees, F.rels w = F.list.map fun z => z.rel w
 | .nil => rfl
 | .cons k s ks lo hi r => by rw [Trees.rels, Trees.list, List.map_cons, Trees.rels_list w r]; rfl
theorem itR_add {R : RelW} : ∀ {a b : Nat} {i j : Nat}, itR R (a + b) i j ↔ ∃ m, itR R a i m ∧ itR R b m j
 | 0, b, i, j => by
  rw [Nat.zero_add]
  exact ⟨fun h => ⟨i, rfl, h⟩, fun ⟨m, h1, h2⟩ => by
   have h1 : i = m := h1
   rw [h1]
   exact h2⟩
 | a + 1, b, i, j => by
  rw [show a + 1 + b = (a + b) + 1 by omega]
  constructor
  ·rintro ⟨m, h1, h2⟩
   obtain ⟨m2, h3, h4⟩ := itR_add.1 h2
   exact ⟨m2, ⟨m, h1, h3⟩, h4⟩
  ·rintro ⟨m2, ⟨m, h1, h3⟩, h4⟩
   exact ⟨m, h1, itR_add.2 ⟨m2, h3, h4⟩⟩
theorem itR_one {R : RelW} {i j : Nat} : itR R 1 i j ↔ R i j := ⟨fun ⟨m, h1, h2⟩ => by
 have h2 : m = j := h2
 rw [← h2]
 exact h1, fun h => ⟨j, h, rfl⟩⟩
structure Like (ok : Nat → Prop) (f : Nat → Nat) (R R' : RelW) : Prop where
 fwd : ∀ i j, ok i → R' i j → ok j ∧ R (f i) (f j)
 bwd : ∀ i m, ok i → R (f i) m → (∃ j, ok j ∧ m = f j ∧ R' i j) ∨ ∀ j, ok j → ¬ m ≤ f j
 up : ∀ i j, R i j → i ≤ j
inductive AllL (ok : Nat → Prop) (f : Nat → Nat) : List RelW → List RelW → Prop
 | nil : AllL ok f [] []
 | cons {R R' : RelW} {l l' : List RelW} : Like ok f R R' → AllL ok f l l' → AllL ok f (R :: l) (R' :: l')
section
variable {ok : Nat → Prop} {f : Nat → Nat}
theorem like_no : Like ok f noR noR := ⟨fun _ _ _ h => h.elim, fun _ _ _ h => h.elim, fun _ _ h => h.elim⟩
theorem like_id : Like ok f idR idR := ⟨fun i j h e => by
 have e : i = j := e
 subst e
 exact ⟨h, rfl⟩, fun i m h e => .inl ⟨i, h, (show f i = m from e).symm, rfl⟩, fun i j e => Nat.le_of_eq e⟩
theorem Like.comp {R R' S S' : RelW} (h : Like ok f R R') (g : Like ok f S S') : Like ok f (fun i j => ∃ k, R i k ∧ S k j) (fun i j => ∃ k, R' i k ∧ S' k j) :=
 ⟨fun i j hi ⟨k, h1, h2⟩ => by
  obtain ⟨h3, h4⟩ := h.fwd i k hi h1
  obtain ⟨h5, h6⟩ := g.fwd k j h3 h2
  exact ⟨h5, f k, h4, h6⟩, fun i m hi ⟨k, h1, h2⟩ => by
  rcases h.bwd i k hi h1 with ⟨k', h3, rfl, h5⟩ | h3
  ·rcases g.bwd k' m h3 h2 with ⟨j, h6, h7, h8⟩ | h6
   ·exact .inl ⟨j, h6, h7, k', h5, h8⟩
   ·exact .inr h6
  ·exact .inr fun j hj hm => h3 j hj (Nat.le_trans (g.up k m h2) hm), fun i j ⟨k, h1, h2⟩ => Nat.le_trans (h.up i k h1) (g.up k j h2)⟩
theorem Like.or {R R' S S' : RelW} (h : Like ok f R R') (g : Like ok f S S') : Like ok f (fun i j => R i j ∨ S i j) (fun i j => R' i j ∨ S' i j) :=
 ⟨fun i j hi hh => hh.elim (fun h1 => (h.fwd i j hi h1).imp id .inl) (fun h1 => (g.fwd i j hi h1).imp id .inr), fun i m hi hh => by
  rcases hh with h1 | h1
  ·exact (h.bwd i m hi h1).imp (fun ⟨j, a, b, c⟩ => ⟨j, a, b, .inl c⟩) id
  ·exact (g.bwd i m hi h1).imp (fun ⟨j, a, b, c⟩ => ⟨j, a, b, .inr c⟩) id, fun i j hh => hh.elim (h.up i j) (g.up i j)⟩
theorem Like.it {R R' : RelW} (h : Like ok f R R') : ∀ k, Like ok f (itR R k) (itR R' k)
 | 0 => like_id
 | k + 1 => h.comp (h.it k)
theorem Like.ex {α : Type} {R R' : α → RelW} {p : α → Prop} (h : ∀ a, Like ok f (R a) (R' a)) : Like ok f (fun i j => ∃ a, p a ∧ R a i j) (fun i j => ∃ a, p a ∧ R' a i j) :=
 ⟨fun i j hi ⟨a, ha, h1⟩ => by
  obtain ⟨h2, h3⟩ := (h a).fwd i j hi h1
  exact ⟨h2, a, ha, h3⟩, fun i m hi ⟨a, ha, h1⟩ => ((h a).bwd i m hi h1).imp (fun ⟨j, x, y, z⟩ => ⟨j, x, y, a, ha, z⟩) id, fun i j ⟨a, _, h1⟩ => (h a).up i j h1⟩
theorem Like.star {R R' : RelW} (h : Like ok f R R') : Like ok f (starR R) (starR R') := by
 have := Like.ex (p := fun _ : Nat => True) (fun k => h.it k)
 unfold starR
 simpa using this
theorem Like.cats : ∀ {Rs Rs' : List RelW}, AllL ok f Rs Rs' → Like ok f (catR Rs) (catR Rs')
 | _, _, .nil => like_id
 | _, _, .cons h hs => h.comp (Like.cats hs)
theorem Like.alts : ∀ {Rs Rs' : List RelW}, AllL ok f Rs Rs' → Like ok f (altR Rs) (altR Rs')
 | _, _, .nil => ⟨fun _ _ _ ⟨_, h, _⟩ => by simp at h, fun _ _ _ ⟨_, h, _⟩ => by simp at h, fun _ _ ⟨_, h, _⟩ => by simp at h⟩
 | _, _, .cons h hs => by
  have h2 := h.or (Like.alts hs)
  have e : ∀ (R : RelW) (l : List RelW), altR (R :: l) = fun i j => R i j ∨ altR l i j := fun R l => by
   funext i j
   simp [altR]
  rw [e, e]
  exact h2
theorem Like.head {Rs Rs' : List RelW} (h : AllL ok f Rs Rs') : Like ok f (Rs.headD noR) (Rs'.headD noR) := by
 cases h with
 | nil => exact like_no
 | cons h _ => exact h
theorem Like.says {w w' : List Nat} (hset : ∀ s, Like ok f (setR s w) (setR s w')) (k : Int) (s : Nat) (lo hi : Int) {Rs Rs' : List RelW} (h : AllL ok f Rs Rs') : Like ok f (saysK k s lo hi w Rs) (saysK k s lo hi w' Rs') := by
 unfold saysK
 split
 ·exact like_id
 split
 ·exact hset s
 split
 ·exact Like.cats h
 split
 ·exact Like.alts h
 split
 ·exact (Like.head h).star
 split
 ·exact (Like.head h).comp (Like.head h).star
 split
 ·exact like_id.or (Like.head h)
 split
 ·have := Like.ex (p := fun k : Nat => lo ≤ (k : Int) ∧ (hi < 0 ∨ (k : Int) ≤ hi)) (fun k => (Like.head h).it k)
  unfold repR
  simpa [and_assoc] using this
 ·exact like_no
theorem Like.rels {w w' : List Nat} (hset : ∀ s, Like ok f (setR s w) (setR s w')) : ∀ F : Trees, AllL ok f (F.rels w) (F.rels w')
 | .nil => .nil
 | .cons k s ks lo hi r => .cons (Like.says hset k s lo hi (Like.rels hset ks)) (Like.rels hset r)
theorem Like.nd {w w' : List Nat} (hset : ∀ s, Like ok f (setR s w) (setR s w')) (x : Nd) : Like ok f (x.rel w) (x.rel w') := Like.says hset _ _ _ _ (Like.rels hset x.kids)
end
theorem set_take (w : List Nat) (n s : Nat) : Like (fun i => i ≤ n) id (setR s w) (setR s (w.take n)) := by
 refine ⟨fun i j hi ⟨c, h1, h2, h3⟩ => ?_, fun i m hi ⟨c, h1, h2, h3⟩ => ?_, fun i j ⟨_, _, _, h⟩ => by omega⟩
 ·rw [List.getElem?_take] at h1
  split at h1
  ·exact ⟨(show j ≤ n by omega), c, h1, h2, h3⟩
  ·cases h1
 ·have h1 : w[i]? = some c := h1
  have h3 : m = i + 1 := h3
  rcases Nat.lt_or_ge i n with h | h
  ·exact .inl ⟨m, (show m ≤ n by omega), rfl, c, by rw [List.getElem?_take, if_pos h]; exact h1, h2, h3⟩
  ·refine .inr fun j hj hm => ?_
   have h4 : m ≤ j := hm
   have h5 : j ≤ n := hj
   omega
theorem set_drop (w : List Nat) (n s : Nat) : Like (fun _ => True) (fun i => n + i) (setR s w) (setR s (w.drop n)) :=
 ⟨fun i j _ ⟨c, h1, h2, h3⟩ => ⟨trivial, c, by rw [List.getElem?_drop] at h1; exact h1, h2, by omega⟩, fun i m _ ⟨c, h1, h2, h3⟩ => .inl ⟨i + 1, trivial, by omega, c, by rw [List.getElem?_drop]; exact h1, h2, rfl⟩, fun i j ⟨_, _, _, h⟩ => by omega⟩
theorem set_self (w : List Nat) (s : Nat) : Like (fun i => i ≤ w.length) id (setR s w) (setR s w) :=
 ⟨fun i j hi ⟨c, h1, h2, h3⟩ => ⟨by have := (List.getElem?_eq_some_iff.1 h1).1; show j ≤ _; omega, c, h1, h2, h3⟩, fun i m hi ⟨c, h1, h2, h3⟩ => .inl ⟨m, by have := (List.getElem?_eq_some_iff.1 h1).1; have h4 : i < w.length := this; show m ≤ _; omega, rfl, c, h1, h2, h3⟩, fun i j ⟨_, _, _, h⟩ => by omega⟩
theorem rel_up (x : Nd) (w : List Nat) {i j : Nat} (h : x.rel w i j) : i ≤ j := (Like.nd (set_self w) x).up i j h
theorem rel_len (x : Nd) (w : List Nat) {i j : Nat} (hi : i ≤ w.length) (h : x.rel w i j) : j ≤ w.length := ((Like.nd (set_self w) x).fwd i j hi h).1
theorem rel_take (x : Nd) (w : List Nat) {n i j : Nat} (hi : i ≤ n) (hj : j ≤ n) : x.rel (w.take n) i j ↔ x.rel w i j :=
 ⟨fun h => ((Like.nd (set_take w n) x).fwd i j hi h).2, fun h => by
  rcases (Like.nd (set_take w n) x).bwd i j hi h with ⟨k, _, rfl, h2⟩ | h2
  ·exact h2
  ·exact absurd (Nat.le_refl _) (h2 j hj)⟩
theorem rel_drop (x : Nd) (w : List Nat) {n i j : Nat} : x.rel (w.drop n) i j ↔ x.rel w (n + i) (n + j) :=
 ⟨fun h => ((Like.nd (set_drop w n) x).fwd i j trivial h).2, fun h => by
  rcases (Like.nd (set_drop w n) x).bwd i (n + j) trivial h with ⟨k, _, e, h2⟩ | h2
  ·have e : n + j = n + k := e
   rw [show j = k by omega]
   exact h2
  ·exact absurd (Nat.le_refl _) (h2 j trivial)⟩
def SaysW (x : Nd) (w : List Nat) : Prop := x.rel w 0 w.length
theorem says_take (x : Nd) (w : List Nat) {n : Nat} (hn : n ≤ w.length) : SaysW x (w.take n) ↔ x.rel w 0 n := by
 unfold SaysW
 rw [List.length_take, Nat.min_eq_left hn]
 exact rel_take x w (Nat.zero_le _) (Nat.le_refl _)
open Classical in
noncomputable def imgB (R : RelW) (p : Nat → Bool) : Nat → Bool := fun j => decide (∃ i, p i = true ∧ R i j)
open Classical in
theorem imgB_iff {R : RelW} {p : Nat → Bool} {j : Nat} : imgB R p j = true ↔ ∃ i, p i = true ∧ R i j := by
 unfold imgB
 rw [decide_eq_true_eq]
theorem setB_ext {p q : Nat → Bool} (h : ∀ c, p c = true ↔ q c = true) : p = q := by
 funext c
 cases hp : p c with
 | true => exact ((h c).1 hp).symm
 | false =>
  cases hq : q c with
  | false => rfl
  | true =>
   have := (h c).2 hq
   rw [hp] at this
   cases this
theorem imgB_comp (R S : RelW) (p : Nat → Bool) : imgB S (imgB R p) = imgB (fun i j => ∃ k, R i k ∧ S k j) p := setB_ext fun j => by
 rw [imgB_iff, imgB_iff]
 constructor
 ·rintro ⟨k, h1, h2⟩
  obtain ⟨i, h3, h4⟩ := imgB_iff.1 h1
  exact ⟨i, h3, k, h4, h2⟩
 ·rintro ⟨i, h3, k, h4, h2⟩
  exact ⟨k, imgB_iff.2 ⟨i, h3, h4⟩, h2⟩
theorem imgB_congr {R S : RelW} (h : ∀ i j, R i j ↔ S i j) (p : Nat → Bool) : imgB R p = imgB S p := setB_ext fun j => by
 rw [imgB_iff, imgB_iff]
 exact ⟨fun ⟨i, h1, h2⟩ => ⟨i, h1, (h i j).1 h2⟩, fun ⟨i, h1, h2⟩ => ⟨i, h1, (h i j).2 h2⟩⟩
theorem imgB_id (p : Nat → Bool) : imgB idR p = p := setB_ext fun j => by
 rw [imgB_iff]
 exact ⟨fun ⟨i, h1, h2⟩ => by have h2 : i = j := h2; rw [← h2]; exact h1, fun h => ⟨j, h, rfl⟩⟩
theorem imgB_next (R : RelW) (p : Nat → Bool) (k : Nat) : imgB R (imgB (itR R k) p) = imgB (itR R (k + 1)) p := by
 rw [imgB_comp]
 refine imgB_congr (fun i j => ?_) p
 rw [itR_add]
 exact ⟨fun ⟨m, h1, h2⟩ => ⟨m, h1, itR_one.2 h2⟩, fun ⟨m, h1, h2⟩ => ⟨m, h1, itR_one.1 h2⟩⟩
theorem imgB_fix {R : RelW} {p : Nat → Bool} {k : Nat} (h : imgB R (imgB (itR R k) p) = imgB (itR R k) p) : ∀ d, imgB (itR R (k + d)) p = imgB (itR R k) p
 | 0 => rfl
 | d + 1 => by
  rw [show k + (d + 1) = (k + d) + 1 by omega, ← imgB_next, imgB_fix h d, h]
theorem imgB_none {R : RelW} {p : Nat → Bool} (h : ∀ c, p c = false) (c : Nat) : imgB R p c = false := by
 cases h1 : imgB R p c with
 | false => rfl
 | true =>
  obtain ⟨i, h2, _⟩ := imgB_iff.1 h1
  rw [h] at h2
  cases h2
structure AgainB (R : RelW) (p0 p e : Nat → Bool) : Prop where
 start : ∀ c, p0 c = true → p c = true
 sound : ∀ c, p c = true → imgB (starR R) p0 c = true
 edge : ∀ c, e c = true → p c = true
 shut : ∀ i j, p i = true → e i = false → R i j → p j = true
theorem again_start (R : RelW) (p : Nat → Bool) : AgainB R p p p :=
 ⟨fun _ h => h, fun c h => imgB_iff.2 ⟨c, h, 0, rfl⟩, fun _ h => h, fun i j h1 h2 => by rw [h1] at h2; cases h2⟩
theorem AgainB.next {R : RelW} {p0 p e q : Nat → Bool} (h : AgainB R p0 p e) (hq : ∀ c, q c = true ↔ imgB R e c = true ∧ p c = false) : AgainB R p0 (fun c => p c || q c) q := by
 refine ⟨fun c hc => by simp [h.start c hc], fun c hc => ?_, fun c hc => by simp [hc], fun i j hp he hR => ?_⟩
 ·rw [Bool.or_eq_true] at hc
  rcases hc with hc | hc
  ·exact h.sound c hc
  ·obtain ⟨i, h1, h2⟩ := imgB_iff.1 ((hq c).1 hc).1
   obtain ⟨i0, h3, k, h4⟩ := imgB_iff.1 (h.sound i (h.edge i h1))
   exact imgB_iff.2 ⟨i0, h3, k + 1, itR_add.2 ⟨i, h4, itR_one.2 h2⟩⟩
 ·rw [Bool.or_eq_true] at hp ⊢
  rcases hp with hp | hp
  ·cases hei : e i with
   | false => exact .inl (h.shut i j hp hei hR)
   | true =>
    cases hpj : p j with
    | true => exact .inl rfl
    | false => exact .inr ((hq j).2 ⟨imgB_iff.2 ⟨i, hei, hR⟩, hpj⟩)
  ·rw [he] at hp
   cases hp
theorem AgainB.done {R : RelW} {p0 p e : Nat → Bool} (h : AgainB R p0 p e) (he : ∀ c, e c = false) : p = imgB (starR R) p0 := setB_ext fun c => ⟨h.sound c, fun hc => by
 obtain ⟨i, h1, k, h2⟩ := imgB_iff.1 hc
 have key : ∀ (k i : Nat), p i = true → itR R k i c → p c = true := by
  intro k
  induction k with
  | zero => exact fun i hp hk => by have hk : i = c := hk; rw [← hk]; exact hp
  | succ k ih =>
   rintro i hp ⟨m, h3, h4⟩
   exact ih m (h.shut i m hp (he i) h3) h4
 exact key k i (h.start i h1) h2⟩
def betweenR (R : RelW) (lo hi : Nat) : RelW := fun i j => ∃ k, lo ≤ k ∧ k ≤ hi ∧ itR R k i j
theorem between_one (R : RelW) (lo : Nat) (p : Nat → Bool) : imgB (betweenR R lo lo) p = imgB (itR R lo) p := imgB_congr (fun i j => ⟨fun ⟨k, h1, h2, h3⟩ => by
 obtain rfl : k = lo := by omega
 exact h3, fun h => ⟨lo, Nat.le_refl _, Nat.le_refl _, h⟩⟩) p
theorem between_more {R : RelW} {lo k : Nat} (hk : lo ≤ k) (p : Nat → Bool) : (fun c => imgB (betweenR R lo k) p c || imgB (itR R (k + 1)) p c) = imgB (betweenR R lo (k + 1)) p := setB_ext fun c => by
 rw [Bool.or_eq_true, imgB_iff, imgB_iff, imgB_iff]
 constructor
 ·rintro (⟨i, h1, m, h2, h3, h4⟩ | ⟨i, h1, h2⟩)
  ·exact ⟨i, h1, m, h2, by omega, h4⟩
  ·exact ⟨i, h1, k + 1, by omega, Nat.le_refl _, h2⟩
 ·rintro ⟨i, h1, m, h2, h3, h4⟩
  rcases Nat.lt_or_ge k m with h | h
  ·obtain rfl : m = k + 1 := by omega
   exact .inr ⟨i, h1, h4⟩
  ·exact .inl ⟨i, h1, m, h2, h, h4⟩
theorem between_fix {R : RelW} {lo k hi : Nat} (hk : lo ≤ k) (hh : k ≤ hi) {p : Nat → Bool} (h : imgB R (imgB (itR R k) p) = imgB (itR R k) p) : imgB (betweenR R lo k) p = imgB (betweenR R lo hi) p := setB_ext fun c => by
 rw [imgB_iff, imgB_iff]
 constructor
 ·rintro ⟨i, h1, m, h2, h3, h4⟩
  exact ⟨i, h1, m, h2, by omega, h4⟩
 ·rintro ⟨i, h1, m, h2, h3, h4⟩
  rcases Nat.lt_or_ge k m with hm | hm
  ·have h5 := imgB_fix h (m - k)
   rw [show k + (m - k) = m by omega] at h5
   have h6 : imgB (itR R m) p c = true := imgB_iff.2 ⟨i, h1, h4⟩
   rw [h5] at h6
   obtain ⟨i', h7, h8⟩ := imgB_iff.1 h6
   exact ⟨i', h7, k, hk, Nat.le_refl _, h8⟩
  ·exact ⟨i, h1, m, h2, hm, h4⟩
theorem rep_between (R : RelW) (lo hi : Nat) (i j : Nat) : repR (lo : Int) (hi : Int) R i j ↔ betweenR R lo hi i j :=
 ⟨fun ⟨k, h1, h2, h3⟩ => ⟨k, by omega, by omega, h3⟩, fun ⟨k, h1, h2, h3⟩ => ⟨k, by omega, .inr (by omega), h3⟩⟩
theorem rep_endless (R : RelW) (lo : Nat) (hi : Int) (hh : hi < 0) (i j : Nat) : repR (lo : Int) hi R i j ↔ ∃ m, itR R lo i m ∧ starR R m j := by
 constructor
 ·rintro ⟨k, h1, _, h3⟩
  obtain ⟨d, rfl⟩ : ∃ d, k = lo + d := ⟨k - lo, by omega⟩
  obtain ⟨m, h4, h5⟩ := itR_add.1 h3
  exact ⟨m, h4, d, h5⟩
 ·rintro ⟨m, h1, d, h2⟩
  exact ⟨lo + d, by omega, .inl hh, itR_add.2 ⟨m, h1, h2⟩⟩
theorem catR_snoc (R : RelW) : ∀ (Rs : List RelW) (i j : Nat), catR (Rs ++ [R]) i j ↔ ∃ m, catR Rs i m ∧ R m j
 | [], i, j => ⟨fun ⟨m, h1, h2⟩ => ⟨i, rfl, by have h2 : m = j := h2; rw [← h2]; exact h1⟩, fun ⟨m, h1, h2⟩ => ⟨j, by have h1 : i = m := h1; rw [h1]; exact h2, rfl⟩⟩
 | S :: Rs, i, j => by
  constructor
  ·rintro ⟨m, h1, h2⟩
   obtain ⟨m2, h3, h4⟩ := (catR_snoc R Rs m j).1 h2
   exact ⟨m2, ⟨m, h1, h3⟩, h4⟩
  ·rintro ⟨m2, ⟨m, h1, h3⟩, h4⟩
   exact ⟨m, h1, (catR_snoc R Rs m j).2 ⟨m2, h3, h4⟩⟩
theorem altR_snoc (R : RelW) (Rs : List RelW) (i j : Nat) : altR (Rs ++ [R]) i j ↔ altR Rs i j ∨ R i j := by
 unfold altR
 constructor
 ·rintro ⟨S, h1, h2⟩
  rcases List.mem_append.1 h1 with h | h
  ·exact .inl ⟨S, h, h2⟩
  ·rw [List.mem_singleton.1 h] at h2
   exact .inr h2
 ·rintro (⟨S, h1, h2⟩ | h)
  ·exact ⟨S, List.mem_append.2 (.inl h1), h2⟩
  ·exact ⟨R, by simp, h⟩
end
section
open Go.RowKit Go.MapKept Go.ChangeMaps Go.Maps
section
variable {κ : Type} {key : κ → Value} {ok : κ → Prop} {good : κ → Value → Prop} {w w1 : World} {b : Nat} {k t E : TypeId} {P : Program}
def MemoAt (key : κ → Value) (ok : κ → Prop) (good : κ → Value → Prop) (w : World) (b : Nat) : Prop :=
 ∃ es clock, w.heap[b]? = some (.map es clock) ∧ Stamped es clock ∧ ∀ x ∈ es.toList, ∃ q, ok q ∧ x.key = key q ∧ good q x.val
theorem MemoAt.lt (h : MemoAt key ok good w b) : b < w.heap.size := by
 obtain ⟨es, clock, hb, _⟩ := h
 exact (Array.getElem?_eq_some_iff.1 hb).1
theorem memo_made (w : World) : MemoAt key ok good (w.alloc (.map #[] 0)) w.heap.size := ⟨#[], 0, (heap_alloc w _).1, stamped_empty 0, by simp⟩
theorem MemoAt.stay (h : MemoAt key ok good w b) (hb : w1.heap[b]? = w.heap[b]?) : MemoAt key ok good w1 b := by
 obtain ⟨es, clock, h1, h2⟩ := h
 exact ⟨es, clock, hb.trans h1, h2⟩
theorem MemoAt.store (h : MemoAt key ok good w b) (K : Keyed P k) (ht : P.underlying t = some (.map k E)) (hk : ∀ q, ok q → ∃ l, keyOf P k (key q) = some l) {q : κ} (hq : ok q) {v : Value} (hv : good q v) :
  ∃ w2, (Instr.mapUpdate t (.map (some b)) (key q) v).run P w = .ok () w2 ∧ MemoAt key ok good w2 b ∧ w.grownBy w2 (some b) := by
 obtain ⟨es, clock, hb, h1, h2⟩ := h
 obtain ⟨l, hl⟩ := hk q hq
 have hg2 : ∀ es' clock', w.grownBy (setBlock w b (.map es' clock')) (some b) := fun es' clock' => ⟨rfl, rfl, rfl, by simp [setBlock], fun i _ hi => heap_setBlock_other hb _ (fun e1 => hi (by rw [e1]))⟩
 rcases K.find w hl es.toList (fun x hx => by
  obtain ⟨q', h3, h4, _⟩ := h2 x hx
  rw [h4]
  exact hk q' h3) with ⟨f1, f2⟩ | ⟨j, e0, f1, f2, f3⟩
 ·refine ⟨setBlock w b (.map (es.push ⟨key q, v, clock⟩) (clock + 1)), ?_, ⟨_, _, heap_setBlock_same hb _, stamped_push h1 f2, fun x hx => ?_⟩, hg2 _ _⟩
  ·simp [Instr.mapUpdate, run_underlying ht, MapKept.run_getObj_map hb, K.check w false hl, f1, MapKept.run_setObj_map _ hb, Result.andThen, setBlock]
  ·simp only [Array.toList_push, List.mem_append, List.mem_singleton] at hx
   rcases hx with hx | rfl
   ·exact h2 x hx
   ·exact ⟨q, hq, rfl, hv⟩
 ·have hj : es[j]? = some e0 := by simpa using f2
  have hkeyf : ∀ e', es[j]? = some e' → ({ e' with key := key q, val := v } : MapEntry).key = e'.key := fun e' he' => by rw [hj] at he'; cases he'; exact f3.symm
  have hlist : (es.modify j (fun e' => { e' with key := key q, val := v })).toList = es.toList.set j { e0 with key := key q, val := v } := by rw [Array.toList_modify, modify_eq_set _ _ _ _ f2]
  refine ⟨setBlock w b (.map (es.modify j (fun e' => { e' with key := key q, val := v })) clock), ?_, ⟨_, _, heap_setBlock_same hb _, stamped_modify h1 _ _ (fun _ _ => rfl) (fun e' _ he' => hkeyf e' he'), fun x hx => ?_⟩, hg2 _ _⟩
  ·simp [Instr.mapUpdate, run_underlying ht, MapKept.run_getObj_map hb, K.check w false hl, f1, hj, f3, K.stays w hl, MapKept.run_setObj_map _ hb, Result.andThen, setBlock]
  ·rw [hlist] at hx
   rcases List.mem_or_eq_of_mem_set hx with hx | rfl
   ·exact h2 x hx
   ·exact ⟨q, hq, rfl, hv⟩
end
end
section
abbrev LangW := List Nat → Prop
def twoL (A B : LangW) : LangW := fun w => ∃ u v, w = u ++ v ∧ A u ∧ B v
def nilL : LangW := fun w => w = []
def noL : LangW := fun _ => False
def catL : List LangW → LangW
 | [] => nilL
 | L :: l => twoL L (catL l)
def itL (L : LangW) : Nat → LangW
 | 0 => nilL
 | k + 1 => twoL L (itL L k)
def slW (w : List Nat) (i j : Nat) : List Nat := (w.drop i).take (j - i)
theorem slW_len {w : List Nat} {i j : Nat} (hj : j ≤ w.length) : (slW w i j).length = j - i := by
 unfold slW
 rw [List.length_take, List.length_drop]
 omega
theorem slW_cut {w : List Nat} {i k j : Nat} (h1 : i ≤ k) (h2 : k ≤ j) : slW w i j = slW w i k ++ slW w k j := by
 unfold slW
 have : w.drop k = (w.drop i).drop (k - i) := by rw [List.drop_drop, Nat.add_sub_cancel' h1]
 rw [this, show j - i = (k - i) + (j - k) by omega, List.take_add]
theorem slW_join {w u v : List Nat} {i j : Nat} (hij : i ≤ j) (hj : j ≤ w.length) (h : slW w i j = u ++ v) : i + u.length ≤ j ∧ slW w i (i + u.length) = u ∧ slW w (i + u.length) j = v := by
 have hl := congrArg List.length h
 rw [slW_len hj, List.length_append] at hl
 have h1 : i + u.length ≤ j := by omega
 have h2 := slW_cut (w := w) (Nat.le_add_right i u.length) h1
 rw [h2] at h
 have h3 := List.append_inj h (by rw [slW_len (by omega)]; omega)
 exact ⟨h1, h3.1, h3.2⟩
structure IsL (w : List Nat) (R : RelW) (L : LangW) : Prop where
 up : ∀ i j, R i j → i ≤ j
 sl : ∀ i j, i ≤ j → j ≤ w.length → (R i j ↔ L (slW w i j))
section
variable {w : List Nat}
theorem isL_nd (x : Nd) : IsL w (x.rel w) (SaysW x) := ⟨fun i j h => rel_up x w h, fun i j hij hj => by
 unfold slW
 rw [says_take x (w.drop i) (by rw [List.length_drop]; omega), rel_drop, Nat.add_zero, Nat.add_sub_cancel' hij]⟩
theorem isL_no : IsL w noR noL := ⟨fun _ _ h => h.elim, fun _ _ _ _ => ⟨fun h => h.elim, fun h => h.elim⟩⟩
theorem isL_id : IsL w idR nilL := ⟨fun i j h => Nat.le_of_eq h, fun i j h hj => by
 show i = j ↔ slW w i j = []
 constructor
 ·rintro rfl
  unfold slW
  rw [Nat.sub_self]
  rfl
 ·intro h2
  have := congrArg List.length h2
  rw [slW_len hj] at this
  simp at this
  omega⟩
theorem IsL.two {R S : RelW} {A B : LangW} (h : IsL w R A) (g : IsL w S B) : IsL w (fun i j => ∃ k, R i k ∧ S k j) (twoL A B) := ⟨fun i j ⟨k, h1, h2⟩ => Nat.le_trans (h.up i k h1) (g.up k j h2), fun i j hij hj => by
 constructor
 ·rintro ⟨k, h1, h2⟩
  have a1 := h.up i k h1
  have a2 := g.up k j h2
  exact ⟨slW w i k, slW w k j, slW_cut a1 a2, (h.sl i k a1 (by omega)).1 h1, (g.sl k j a2 hj).1 h2⟩
 ·rintro ⟨u, v, e, h1, h2⟩
  obtain ⟨b1, b2, b3⟩ := slW_join hij hj e
  exact ⟨i + u.length, (h.sl i _ (by omega) (by omega)).2 (by rw [b2]; exact h1), (g.sl _ j b1 hj).2 (by rw [b3]; exact h2)⟩⟩
theorem isL_cat : ∀ F : List Nd, IsL w (catR (F.map fun z => z.rel w)) (catL (F.map SaysW))
 | [] => isL_id
 | z :: F => (isL_nd z).two (isL_cat F)
theorem IsL.it {R : RelW} {A : LangW} (h : IsL w R A) : ∀ k, IsL w (itR R k) (itL A k)
 | 0 => isL_id
 | k + 1 => h.two (h.it k)
end
theorem slW_all (w : List Nat) : slW w 0 w.length = w := by unfold slW; simp
def langK (k : Int) (s : Nat) (lo hi : Int) (Ls : List LangW) : LangW :=
 if k = 2 then nilL
 else if k = 3 then fun w => ∃ c, w = [c] ∧ s.testBit c = true
 else if k = 4 then catL Ls
 else if k = 5 then fun w => ∃ L ∈ Ls, L w
 else if k = 6 then fun w => ∃ n, itL (Ls.headD noL) n w
 else if k = 7 then fun w => ∃ n, itL (Ls.headD noL) (n + 1) w
 else if k = 8 then fun w => w = [] ∨ Ls.headD noL w
 else if k = 9 then fun w => ∃ n : Nat, lo ≤ (n : Int) ∧ (hi < 0 ∨ (n : Int) ≤ hi) ∧ itL (Ls.headD noL) n w
 else noL
theorem isL_head {w : List Nat} (F : Trees) : IsL w ((F.rels w).headD noR) ((F.list.map SaysW).headD noL) := by
 rw [F.rels_list w]
 cases F.list with
 | nil => exact isL_no
 | cons z l => exact isL_nd z
theorem IsL.all {w : List Nat} {R : RelW} {L : LangW} (h : IsL w R L) : R 0 w.length ↔ L w := by
 rw [h.sl 0 w.length (Nat.zero_le _) (Nat.le_refl _), slW_all]
theorem says_lang (x : Nd) (w : List Nat) : SaysW x w ↔ langK x.kind x.set x.lo x.hi (x.kids.list.map SaysW) w := by
 have hh := isL_head (w := w) x.kids
 unfold SaysW Nd.rel
 have key : ∀ (k : Int) (s : Nat) (lo hi : Int), saysK k s lo hi w (x.kids.rels w) 0 w.length ↔ langK k s lo hi (x.kids.list.map SaysW) w := by
  intro k s lo hi
  unfold saysK langK
  by_cases k2 : k = 2
  ·rw [if_pos k2, if_pos k2]
   show (0 = w.length) ↔ w = []
   rw [← List.length_eq_zero_iff]
   omega
  rw [if_neg k2, if_neg k2]
  by_cases k3 : k = 3
  ·rw [if_pos k3, if_pos k3]
   constructor
   ·rintro ⟨c, h1, h2, h3⟩
    obtain ⟨d, rfl⟩ := List.length_eq_one_iff.1 h3
    simp at h1
    subst h1
    exact ⟨d, rfl, h2⟩
   ·rintro ⟨c, rfl, h2⟩
    exact ⟨c, rfl, h2, rfl⟩
  rw [if_neg k3, if_neg k3]
  by_cases k4 : k = 4
  ·rw [if_pos k4, if_pos k4, x.kids.rels_list w]
   exact (isL_cat x.kids.list).all
  rw [if_neg k4, if_neg k4]
  by_cases k5 : k = 5
  ·rw [if_pos k5, if_pos k5, x.kids.rels_list w]
   constructor
   ·rintro ⟨R, hR, h⟩
    obtain ⟨z, hz, rfl⟩ := List.mem_map.1 hR
    exact ⟨SaysW z, List.mem_map.2 ⟨z, hz, rfl⟩, h⟩
   ·rintro ⟨L, hL, h⟩
    obtain ⟨z, hz, rfl⟩ := List.mem_map.1 hL
    exact ⟨z.rel w, List.mem_map.2 ⟨z, hz, rfl⟩, h⟩
  rw [if_neg k5, if_neg k5]
  by_cases k6 : k = 6
  ·rw [if_pos k6, if_pos k6]
   exact exists_congr fun k => (hh.it k).all
  rw [if_neg k6, if_neg k6]
  by_cases k7 : k = 7
  ·rw [if_pos k7, if_pos k7]
   constructor
   ·rintro ⟨m, h1, k, h2⟩
    exact ⟨k, (hh.it (k + 1)).all.1 ⟨m, h1, h2⟩⟩
   ·rintro ⟨k, h⟩
    obtain ⟨m, h1, h2⟩ := (hh.it (k + 1)).all.2 h
    exact ⟨m, h1, k, h2⟩
  rw [if_neg k7, if_neg k7]
  by_cases k8 : k = 8
  ·rw [if_pos k8, if_pos k8]
   show (0 = w.length ∨ _) ↔ _
   rw [hh.all, ← List.length_eq_zero_iff]
   exact or_congr (by omega) Iff.rfl
  rw [if_neg k8, if_neg k8]
  by_cases k9 : k = 9
  ·rw [if_pos k9, if_pos k9]
   exact exists_congr fun k => and_congr Iff.rfl (and_congr Iff.rfl (hh.it k).all)
  ·rw [if_neg k9, if_neg k9]
   exact Iff.rfl
 exact key x.kind x.set x.lo x.hi
theorem two_nil (A : LangW) (w : List Nat) : twoL A nilL w ↔ A w := ⟨fun ⟨u, v, e, h1, h2⟩ => by
 have h2 : v = [] := h2
 subst h2
 rw [e, List.append_nil]
 exact h1, fun h => ⟨w, [], by simp, h, rfl⟩⟩
theorem two_assoc (A B C : LangW) (w : List Nat) : twoL (twoL A B) C w ↔ twoL A (twoL B C) w := by
 constructor
 ·rintro ⟨u, v, e, ⟨u1, u2, rfl, h1, h2⟩, h3⟩
  exact ⟨u1, u2 ++ v, by rw [e, List.append_assoc], h1, u2, v, rfl, h2, h3⟩
 ·rintro ⟨u, v, e, h1, v1, v2, rfl, h2, h3⟩
  exact ⟨u ++ v1, v2, by rw [e, List.append_assoc], ⟨u, v1, rfl, h1, h2⟩, h3⟩
theorem nil_two (A : LangW) (w : List Nat) : twoL nilL A w ↔ A w := ⟨fun ⟨u, v, e, h1, h2⟩ => by
 have h1 : u = [] := h1
 subst h1
 rw [e]
 exact h2, fun h => ⟨[], w, rfl, rfl, h⟩⟩
theorem noset_iff {s : Nat} : isNoSet s = true → ∀ c, c < 256 → s.testBit c = false := fun h c hc => by
 unfold isNoSet at h
 simp only [Bool.and_eq_true, decide_eq_true_eq] at h
 obtain ⟨h0, h1, h2, h3⟩ := h
 have hw : ∀ i, i < 4 → word s.testBit i = 0 := fun i hi => by
  rcases (by omega : i = 0 ∨ i = 1 ∨ i = 2 ∨ i = 3) with rfl | rfl | rfl | rfl <;> assumption
 have := word_zeroQ s.testBit (c / 64) (hw (c / 64) (by omega)) (c % 64) (Nat.mod_lt _ (by decide))
 rw [show 64 * (c / 64) + c % 64 = c by omega] at this
 exact this
end
section
open Go.RowKit
theorem none_go (w : World) : Calls Tryz.prog 79 #[] w fun e w' => e = .returned (.agg #[.int .i64 1, .int .u64 0, .int .u64 0, .int .u64 0, .int .u64 0, .slice none 0 0, .int .i64 0, .int .i64 0]) ∧ Below w.heap.size w w' := by
 have HZ := Lib.hid (Blk.new w 28 #[.int .i64 1, .int .u64 0, .int .u64 0, .int .u64 0, .int .u64 0, .slice none 0 0, .int .i64 0, .int .i64 0])
 have HB := Lib.hid (show Below w.heap.size w (w.alloc (.cells #[.int .i64 1, .int .u64 0, .int .u64 0, .int .u64 0, .int .u64 0, .slice none 0 0, .int .i64 0, .int .i64 0] 28)) from (Below.refl _ _).alloc (Nat.le_refl _) _)
 go_enter Tryz.func79, Tryz.ntmps79
 go_wp2
 go_light
 exact bodyPost_ret (ret_node Tryz.results79 rfl HZ.out) rfl ⟨rfl, HB.out⟩
theorem empty_go (w : World) : Calls Tryz.prog 90 #[] w fun e w' => e = .returned (.agg #[.int .i64 2, .int .u64 0, .int .u64 0, .int .u64 0, .int .u64 0, .slice none 0 0, .int .i64 0, .int .i64 0]) ∧ Below w.heap.size w w' := by
 have HZ := Lib.hid (Blk.new w 28 #[.int .i64 2, .int .u64 0, .int .u64 0, .int .u64 0, .int .u64 0, .slice none 0 0, .int .i64 0, .int .i64 0])
 have HB := Lib.hid (show Below w.heap.size w (w.alloc (.cells #[.int .i64 2, .int .u64 0, .int .u64 0, .int .u64 0, .int .u64 0, .slice none 0 0, .int .i64 0, .int .i64 0] 28)) from (Below.refl _ _).alloc (Nat.le_refl _) _)
 go_enter Tryz.func90, Tryz.ntmps90
 go_wp2
 go_light
 exact bodyPost_ret (ret_node Tryz.results90 rfl HZ.out) rfl ⟨rfl, HB.out⟩
end
end Go.Proofs.YtofbfafnpdaejaaGreatDoor
