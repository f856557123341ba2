/- Texts of the claim. -/
import Derived.Maps.AppendAt
import Derived.Deep.AppendLies
import Derived.Deep.RegionLaw
import Derived.Deep.RegionHeld3
import Derived.Deep.Onto
import Derived.RegionTactic
import Derived.BigRegion
import Derived.Test.YtofbfafnpdaejaaGreatDoorMZ05
import Derived.Test.YtofbfafnpdaejaaGreatDoorMZ01
import Derived.Test.YtofbfafnpdaejaaGreatDoorMZ03
namespace Go.Proofs.YtofbfafnpdaejaaGreatDoor
open Go.RowKit Go.Maps
set_option linter.unusedSimpArgs false
set_option linter.unusedVariables false
set_option maxRecDepth 100000
set_option maxHeartbeats 8000000
theorem rowB {W W' : World} {base size k : Nat} {e : TypeId} {v : Value} {xs : List Value} (hr : W.ownsRow base e size v k xs) (hb : ∀ k, v.ownBlock = some k → W'.heap[k]? = W.heap[k]?) : W'.ownsRow base e size v k xs := by
 refine ⟨hr.1, ?_⟩
 rcases hr.2 with h | ⟨g, cap, cur, rfl, h2, h3, h4⟩
 ·exact .inl h
 ·exact .inr ⟨g, cap, cur, rfl, h2, (hb g rfl).trans h3, h4⟩
theorem rowsApart {w : World} {b1 b2 s1 s2 k1 k2 : Nat} {e1 e2 : TypeId} {v1 v2 : Value} {x1 x2 : List Value} (h1 : w.ownsRow b1 e1 s1 v1 k1 x1) (h2 : w.ownsRow b2 e2 s2 v2 k2 x2) (he : e1 ≠ e2) {b : Nat} (hb : v1.ownBlock = some b) : v2.ownBlock ≠ some b := by
 intro hb2
 rcases h1.2 with ⟨rfl, _⟩ | ⟨g, cap, cur, rfl, _, hg, _⟩
 ·simp [Value.ownBlock] at hb
 rcases h2.2 with ⟨rfl, _⟩ | ⟨g', cap', cur', rfl, _, hg', _⟩
 ·simp [Value.ownBlock] at hb2
 obtain rfl : g = b := by simpa [Value.ownBlock] using hb
 obtain rfl : g' = g := by simpa [Value.ownBlock] using hb2
 rw [hg] at hg'
 simp at hg'
 exact he hg'.2
theorem row_form {w : World} {base e size n : Nat} {v : Value} {xs : List Value} (h : w.ownsRow base e size v n xs) : ∃ A c, v = .slice A n c ∧ n ≤ c := by
 rcases h.2 with ⟨rfl, rfl⟩ | ⟨g, cap, cur, rfl, _, _, hc, _⟩
 ·exact ⟨none, 0, rfl, Nat.le_refl _⟩
 ·exact ⟨_, cap, rfl, hc⟩
def pcell (z : Nd) (B : Option Addr) (n1 c1 : Nat) (A : Option Addr) (m c2 : Nat) : List Value :=
 [.int .i64 z.kind, .int .u64 (word z.set.testBit 0), .int .u64 (word z.set.testBit 1), .int .u64 (word z.set.testBit 2), .int .u64 (word z.set.testBit 3), .slice B n1 c1, .int .i64 z.lo, .int .i64 z.hi, .slice A m c2]
def PartsL (w : World) (base : Nat) (Q : Nat → Prop) : Nat → List Nd → List Value → Prop
 | _, [], xs => xs = []
 | n, z :: l, xs => ∃ B n1 c1 A c2 rest, xs = pcell z B n1 c1 A z.kids.len c2 ++ rest ∧ w.ownsRow base 3 1 (.slice A z.kids.len c2) z.kids.len (intsC (kidNums (n + 1) z.kids.list)) ∧ (∀ b, (Value.slice A z.kids.len c2).ownBlock = some b → Q b) ∧ PartsL w base Q (n + 1) l rest
theorem PartsL.keep {w w' : World} {base : Nat} {Q Q' : Nat → Prop} (hk : ∀ b cs, base ≤ b → b < w.heap.size → Q b → w.heap[b]? = some (.cells cs 3 (0, 0)) → w'.heap[b]? = w.heap[b]?) (hQ : ∀ b, b < w.heap.size → Q b → Q' b) : ∀ {n : Nat} {l : List Nd} {xs : List Value}, PartsL w base Q n l xs → PartsL w' base Q' n l xs
 | _, [], _, h => h
 | n, z :: l, xs, ⟨B, n1, c1, A, c2, rest, h1, h2, h3, h4⟩ => by
  refine ⟨B, n1, c1, A, c2, rest, h1, rowB h2 fun k hk' => ?_, fun b hb => hQ b (h2.lt b hb).2 (h3 b hb), h4.keep hk hQ⟩
  have hlt := h2.lt k hk'
  rcases h2.2 with ⟨e, _⟩ | ⟨g, cap, cur, e, _, hg, _⟩
  ·rw [e] at hk'
   simp [Value.ownBlock] at hk'
  ·rw [e] at hk'
   obtain rfl : g = k := by simpa [Value.ownBlock] using hk'
   exact hk g cur hlt.1 hlt.2 (h3 g (by rw [e]; rfl)) hg
theorem PartsL.app {w : World} {base : Nat} {Q : Nat → Prop} : ∀ {n : Nat} {l l' : List Nd} {xs ys : List Value}, PartsL w base Q n l xs → PartsL w base Q (n + l.length) l' ys → PartsL w base Q n (l ++ l') (xs ++ ys)
 | n, [], l', xs, ys, h, h' => by
  have : xs = [] := h
  subst this
  exact h'
 | n, z :: l, l', xs, ys, ⟨B, n1, c1, A, c2, rest, h1, h2, h3, h4⟩, h' => by
  refine ⟨B, n1, c1, A, c2, rest ++ ys, by rw [h1, List.append_assoc], h2, h3, h4.app ?_⟩
  rw [show n + 1 + l.length = n + (z :: l).length by simp; omega]
  exact h'
theorem PartsL.get {w : World} {base : Nat} {Q : Nat → Prop} : ∀ {n : Nat} {l : List Nd} {xs : List Value} {k : Nat} {z : Nd}, PartsL w base Q n l xs → l[k]? = some z →
  ∃ B n1 c1 A c2, (∀ j u, (pcell z B n1 c1 A z.kids.len c2)[j]? = some u → xs[k * 9 + j]? = some u) ∧ w.ownsRow base 3 1 (.slice A z.kids.len c2) z.kids.len (intsC (kidNums (n + k + 1) z.kids.list))
 | _, [], _, k, z, _, h => by simp at h
 | n, y :: l, xs, 0, z, ⟨B, n1, c1, A, c2, rest, h1, h2, h3, h4⟩, h => by
  simp at h
  subst h
  refine ⟨B, n1, c1, A, c2, fun j u hj => ?_, h2⟩
  rw [h1, List.getElem?_append_left (by simpa using (List.getElem?_eq_some_iff.1 hj).1)]
  simpa using hj
 | n, y :: l, xs, k + 1, z, ⟨B, n1, c1, A, c2, rest, h1, h2, h3, h4⟩, h => by
  obtain ⟨B', n1', c1', A', c2', g1, g2⟩ := h4.get (k := k) (by simpa using h)
  refine ⟨B', n1', c1', A', c2', fun j u hj => ?_, by rw [show n + (k + 1) + 1 = n + 1 + k + 1 by omega]; exact g2⟩
  have hp : (pcell y B n1 c1 A y.kids.len c2).length = 9 := rfl
  rw [h1, List.getElem?_append_right (by omega), hp, show (k + 1) * 9 + j - 9 = k * 9 + j by omega]
  exact g1 j u hj
def kidsTo (x : Nd) (j : Nat) : List Nd := (x.kids.list.take j).flatMap Nd.nodes
theorem nodes_flat : ∀ F : Trees, F.nodes = F.list.flatMap Nd.nodes
 | .nil => rfl
 | .cons k s ks lo hi r => by rw [nodes_cons, Trees.list, List.flatMap_cons, nodes_flat r]
theorem kidsTo_all (x : Nd) : kidsTo x x.kids.len = x.kids.nodes := by
 unfold kidsTo
 rw [← Trees.len_list, List.take_length, nodes_flat]
theorem kidsTo_next {x y : Nd} {j : Nat} (h : x.kids.list[j]? = some y) : kidsTo x (j + 1) = kidsTo x j ++ y.nodes := by
 unfold kidsTo
 rw [List.take_add_one, h]
 simp
theorem kidsTo_len (x : Nd) (j : Nat) : (kidsTo x j).length + 1 ≤ x.size := by
 have h1 : (x.kids.list.flatMap Nd.nodes).length + 1 = x.size := by
  rw [← nodes_flat, ← Nd.nodes_len]
  simp [Nd.nodes]
 have h2 : x.kids.list.flatMap Nd.nodes = kidsTo x j ++ (x.kids.list.drop j).flatMap Nd.nodes := by
  unfold kidsTo
  rw [← List.flatMap_append, List.take_append_drop]
 rw [h2, List.length_append] at h1
 omega
theorem kidNums_snoc (y : Nd) : ∀ (l : List Nd) (n : Nat), kidNums n (l ++ [y]) = kidNums n l ++ [((n + (l.flatMap Nd.nodes).length : Nat) : Int)]
 | [], n => by simp [kidNums]
 | z :: l, n => by
  rw [List.cons_append, kidNums, kidNums, kidNums_snoc y l, List.flatMap_cons, List.length_append, Nd.nodes_len, List.cons_append, Nat.add_assoc]
theorem kidNums_next {x y : Nd} {j n : Nat} (h : x.kids.list[j]? = some y) : kidNums n (x.kids.list.take (j + 1)) = kidNums n (x.kids.list.take j) ++ [((n + (kidsTo x j).length : Nat) : Int)] := by
 rw [List.take_add_one, h]
 exact kidNums_snoc y _ n
structure LayM (base gm : Nat) (w : World) (v : Value) (w' : World) (v' : Value) : Prop where
 below : Below base w w'
 kept : ∀ j, j < w.heap.size → j ≠ gm → v.ownBlock ≠ some j → w'.heap[j]? = w.heap[j]?
 lies : ∀ j, v'.ownBlock = some j → v.ownBlock = some j ∨ w.heap.size ≤ j
theorem LayM.trans {base gm : Nat} {w w1 w2 : World} {v v1 v2 : Value} (h : LayM base gm w v w1 v1) (g : LayM base gm w1 v1 w2 v2) : LayM base gm w v w2 v2 := by
 have hs := h.below.size
 refine ⟨h.below.trans g.below, fun j h1 h2 h3 => (g.kept j (by omega) h2 (fun e => ?_)).trans (h.kept j h1 h2 h3), fun j hj => ?_⟩
 ·rcases h.lies j e with e1 | e1
  ·exact h3 e1
  ·omega
 ·rcases g.lies j hj with e1 | e1
  ·exact h.lies j e1
  ·exact .inr (by omega)
theorem LayM.below1 {base gm : Nat} {w w1 w2 : World} {v v1 : Value} (h : LayM base gm w v w1 v1) (hb : base ≤ w1.heap.size) (g : Below w1.heap.size w1 w2) : LayM base gm w v w2 v1 :=
 h.trans ⟨g.mono hb, fun j h1 _ _ => g.block j h1, fun j e => .inl e⟩
def LayP (x : Nd) : Prop := ∀ (B : Option Addr) (cap base gm : Nat) (a d v : Value) (N : Nat) (xs : List Value) (w : World), TreesAt w (fun b => b < base) x.kids B → x.kids.len ≤ cap → Blk w gm 132 #[v, a, d] → w.ownsRow base 172 9 v N xs → base ≤ gm → base ≤ w.heap.size → N + x.size ≤ 1000000 →
 Calls Tryz.prog 113 #[.pointer (some ⟨gm, 0, none⟩), ndV x B cap] w fun e w' => e = .returned (.int .i64 (N : Int)) ∧ ∃ v' xs', Blk w' gm 132 #[v', a, d] ∧ w'.ownsRow base 172 9 v' (N + x.size) (xs ++ xs') ∧ PartsL w' base (fun b => w.heap.size ≤ b) N x.nodes xs' ∧ LayM base gm w v w' v'
theorem info_part : (Tryz.prog.info? 172).map (fun i => (i.zero, i.size, i.bytes)) = some (some (.agg #[.int .i64 0, .int .u64 0, .int .u64 0, .int .u64 0, .int .u64 0, .slice none 0 0, .int .i64 0, .int .i64 0, .slice none 0 0]), 9, 104) := by kernel_rfl
end Go.Proofs.YtofbfafnpdaejaaGreatDoor
