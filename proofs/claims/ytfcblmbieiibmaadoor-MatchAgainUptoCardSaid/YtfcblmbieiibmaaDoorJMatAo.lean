/- Texts of the claim. -/
import Derived.Test.YtfcblmbieiibmaaDoorJMatJo
import Derived.Test.YtfcblmbieiibmaaDoorJTOver
namespace Go.Proofs.YtfcblmbieiibmaaDoor
open Go.RowKit
set_option linter.unusedSimpArgs false
set_option linter.unusedVariables false
set_option maxRecDepth 100000
set_option maxHeartbeats 8000000
theorem over_nodes (k : Int) (x : Nd) (lo hi : Int) : (overT k x lo hi).nodes = overT k x lo hi :: x.nodes := by
 show overT k x lo hi :: (Trees.of [x]).nodes = _
 simp [Trees.of, Trees.nodes, Nd.nodes]
theorem right_over {x : Nd} (h : rightT (starM x) = true) {k : Int} {lo hi : Int} (ha : aloneN (overT k x lo hi) = true) : rightT (overT k x lo hi) = true := by
 have hn : (starM x).nodes = starM x :: x.nodes := over_nodes 6 x 0 0
 unfold rightT at h ⊢
 rw [Bool.and_eq_true, decide_eq_true_eq, hn, List.length_cons, List.all_cons, Bool.and_eq_true] at h
 rw [Bool.and_eq_true, decide_eq_true_eq, over_nodes, List.length_cons, List.all_cons, Bool.and_eq_true]
 exact ⟨h.1, ha, h.2.2⟩
theorem right_under {x : Nd} (h : rightT (starM x) = true) : rightT x = true := by
 have hn : (starM x).nodes = starM x :: x.nodes := over_nodes 6 x 0 0
 unfold rightT at h ⊢
 rw [Bool.and_eq_true, decide_eq_true_eq, hn, List.length_cons, List.all_cons, Bool.and_eq_true] at h
 rw [Bool.and_eq_true, decide_eq_true_eq]
 exact ⟨by omega, h.2.2⟩
theorem right_plus {x : Nd} (h : rightT (starM x) = true) : rightT (plusM x) = true := right_over (k := 7) (lo := 0) (hi := 0) h (by
 unfold aloneN
 show aloneV 7 (word (Nat.testBit 0) 0 : Nat) (word (Nat.testBit 0) 1 : Nat) (word (Nat.testBit 0) 2 : Nat) (word (Nat.testBit 0) 3 : Nat) 1 0 0 = true
 decide +kernel)
theorem right_opt {x : Nd} (h : rightT (starM x) = true) : rightT (optM x) = true := right_over (k := 8) (lo := 0) (hi := 0) h (by
 unfold aloneN
 show aloneV 8 (word (Nat.testBit 0) 0 : Nat) (word (Nat.testBit 0) 1 : Nat) (word (Nat.testBit 0) 2 : Nat) (word (Nat.testBit 0) 3 : Nat) 1 0 0 = true
 decide +kernel)
theorem right_repM {x : Nd} (h : rightT (starM x) = true) {k : Nat} (hk : k ≤ 5) : rightT (repM x (k : Int) (k : Int)) = true := right_over (k := 9) (lo := (k : Int)) (hi := (k : Int)) h (by
 unfold aloneN
 show aloneV 9 (word (Nat.testBit 0) 0 : Nat) (word (Nat.testBit 0) 1 : Nat) (word (Nat.testBit 0) 2 : Nat) (word (Nat.testBit 0) 3 : Nat) 1 (k : Int) (k : Int) = true
 obtain rfl | rfl | rfl | rfl | rfl | rfl : k = 0 ∨ k = 1 ∨ k = 2 ∨ k = 3 ∨ k = 4 ∨ k = 5 := by omega
 all_goals decide +kernel)
theorem size_over (k : Int) (x : Nd) (lo hi : Int) : (overT k x lo hi).size = x.size + 1 := by
 show 1 + (Trees.of [x]).size = _
 simp [Trees.of, Trees.size, Nd.size]
 omega
def TreeV (y : Nd) (w : World) (e : Ending) (w' : World) : Prop := ∃ B' cap', e = .returned (ndV y B' cap') ∧ Below w.heap.size w w' ∧ y.kids.len ≤ cap' ∧ TreesAt w' (fun b => b < w'.heap.size) y.kids B'
theorem star_in {U : World} {g : Nat} {x y : Nd} (hy : starM x = y) {B : Option Addr} {cap : Nat} (hN : NodeIn U g x B cap) (hs : x.size ≤ 100000000) : Calls Tryd.prog 16 #[ndV x B cap] U (TreeV y U) :=
 (tstar_go x _ B cap U hs hN.tree).mono fun e w' ⟨B', cap', he, hb, hc, ht⟩ => by subst hy; exact ⟨B', cap', he, hb, hc, ht.weak (fun b _ h => h)⟩
theorem plus_in {U : World} {g : Nat} {x y : Nd} (hy : plusM x = y) {B : Option Addr} {cap : Nat} (hN : NodeIn U g x B cap) (hs : x.size ≤ 100000000) : Calls Tryd.prog 19 #[ndV x B cap] U (TreeV y U) :=
 (tplus_go x _ B cap U hs hN.tree).mono fun e w' ⟨B', cap', he, hb, hc, ht⟩ => by subst hy; exact ⟨B', cap', he, hb, hc, ht.weak (fun b _ h => h)⟩
theorem opt_in {U : World} {g : Nat} {x y : Nd} (hy : optM x = y) {B : Option Addr} {cap : Nat} (hN : NodeIn U g x B cap) (hs : x.size ≤ 100000000) : Calls Tryd.prog 20 #[ndV x B cap] U (TreeV y U) :=
 (topt_go x _ B cap U hs hN.tree).mono fun e w' ⟨B', cap', he, hb, hc, ht⟩ => by subst hy; exact ⟨B', cap', he, hb, hc, ht.weak (fun b _ h => h)⟩
theorem rep_in {U : World} {g : Nat} {x y : Nd} {lo hi : Int} (hy : repM x lo hi = y) {B : Option Addr} {cap : Nat} (hN : NodeIn U g x B cap) (hs : x.size ≤ 100000000) : Calls Tryd.prog 18 #[ndV x B cap, .int .i64 lo, .int .i64 hi] U (TreeV y U) :=
 (trep_go lo hi x _ B cap U hs hN.tree).mono fun e w' ⟨B', cap', he, hb, hc, ht⟩ => by subst hy; exact ⟨B', cap', he, hb, hc, ht.weak (fun b _ h => h)⟩
end Go.Proofs.YtfcblmbieiibmaaDoor
