/- Texts of the claim. -/
import Derived.Test.YtofbfafnpdaejaaGreatDoorKMatK
import Derived.Test.YtofbfafnpdaejaaGreatDoorKMatB
import Derived.Test.YtofbfafnpdaejaaGreatDoorKZ06
import Derived.Test.YtofbfafnpdaejaaGreatDoorKZ02
import Derived.Test.YtofbfafnpdaejaaGreatDoorKZ03
namespace Go.Proofs.YtofbfafnpdaejaaGreatDoor
open Go.RowKit Go.Maps
set_option linter.unusedSimpArgs false
set_option linter.unusedVariables false
set_option maxRecDepth 100000
set_option maxHeartbeats 8000000
def kidNums : Nat → List Nd → List Int
 | _, [] => []
 | n, z :: l => (n : Int) :: kidNums (n + z.size) l
theorem kidNums_len : ∀ (n : Nat) (l : List Nd), (kidNums n l).length = l.length
 | _, [] => rfl
 | n, z :: l => by simp [kidNums, kidNums_len (n + z.size) l]
theorem nodes_cons (k : Int) (s : Nat) (ks : Trees) (lo hi : Int) (r : Trees) : (Trees.cons k s ks lo hi r).nodes = (⟨k, s, ks, lo, hi⟩ : Nd).nodes ++ r.nodes := by
 simp [Trees.nodes, Nd.nodes]
theorem forest_at : ∀ (F : Trees) (X : List Nd) (n : Nat), (∀ i y, F.nodes[i]? = some y → X[n + i]? = some y) → ∀ (i : Nat) (y : Nd), F.list[i]? = some y → ∃ m : Nat, (kidNums n F.list)[i]? = some (m : Int) ∧ X[m]? = some y ∧ ∀ j u, y.nodes[j]? = some u → X[m + j]? = some u
 | .nil, X, n, h, i, y, hi => by simp [Trees.list] at hi
 | .cons k s ks lo hi r, X, n, h, 0, y, hy => by
  simp [Trees.list] at hy
  subst hy
  refine ⟨n, by simp [Trees.list, kidNums], ?_, fun j u hu => ?_⟩
  ·have := h 0 ⟨k, s, ks, lo, hi⟩ (by simp [Trees.nodes])
   simpa using this
  ·refine h j u ?_
   rw [nodes_cons, List.getElem?_append_left (List.getElem?_eq_some_iff.1 hu).1]
   exact hu
 | .cons k s ks lo hi r, X, n, h, i + 1, y, hy => by
  have hl : (⟨k, s, ks, lo, hi⟩ : Nd).nodes.length = (⟨k, s, ks, lo, hi⟩ : Nd).size := Nd.nodes_len _
  obtain ⟨m, h1, h2⟩ := forest_at r X (n + (⟨k, s, ks, lo, hi⟩ : Nd).size) (fun j u hu => by
   have := h ((⟨k, s, ks, lo, hi⟩ : Nd).size + j) u (by
    rw [nodes_cons, List.getElem?_append_right (by omega), hl, Nat.add_sub_cancel_left]
    exact hu)
   rw [Nat.add_assoc]
   exact this) i y (by simpa [Trees.list] using hy)
  exact ⟨m, by simpa [Trees.list, kidNums] using h1, h2⟩
def Below1 (X : List Nd) (n : Nat) (z : Nd) : Prop := ∀ j u, z.nodes[j]? = some u → X[n + j]? = some u
theorem Below1.kid {X : List Nd} {n : Nat} {z : Nd} (h : Below1 X n z) {i : Nat} {y : Nd} (hy : z.kids.list[i]? = some y) : ∃ m : Nat, (kidNums (n + 1) z.kids.list)[i]? = some (m : Int) ∧ Below1 X m y := by
 obtain ⟨m, h1, _, h3⟩ := forest_at z.kids X (n + 1) (fun j u hu => by
  have := h (j + 1) u (by simpa [Nd.nodes] using hu)
  rw [show n + 1 + j = n + (j + 1) by omega]
  exact this) i y hy
 exact ⟨m, h1, h3⟩
theorem Below1.here {X : List Nd} {n : Nat} {z : Nd} (h : Below1 X n z) : X[n]? = some z := by
 have := h 0 z (by simp [Nd.nodes])
 simpa using this
def atB (i : Nat) : Nat → Bool := withB (fun _ => false) i
theorem atB_iff {i c : Nat} : atB i c = true ↔ c = i := by simp [atB, withB]
noncomputable def endsB (z : Nd) (bs : List Nat) (i : Nat) : Nat → Bool := imgB (z.rel bs) (atB i)
theorem endsB_iff {z : Nd} {bs : List Nat} {i j : Nat} : endsB z bs i j = true ↔ z.rel bs i j := by
 unfold endsB
 rw [imgB_iff]
 exact ⟨fun ⟨c, h1, h2⟩ => by rw [atB_iff.1 h1] at h2; exact h2, fun h => ⟨i, atB_iff.2 rfl, h⟩⟩
def goodM (x : Nd) (bs : List Nat) (q : Int × Int) (v : Value) : Prop := ∀ (k i : Nat) (z : Nd), q = ((k : Int), (i : Int)) → x.nodes[k]? = some z → v = .agg #[.int .u64 (word (endsB z bs i) 0), .int .u64 (word (endsB z bs i) 1), .int .u64 (word (endsB z bs i) 2), .int .u64 (word (endsB z bs i) 3), .int .u64 (word (endsB z bs i) 4)]
def PartAt (w : World) (b k : Nat) (z : Nd) : Prop := ∃ (B A : Option Addr) (n1 c1 c2 : Nat),
 w.cell? ⟨b, k * 9, none⟩ = some (.int .i64 z.kind) ∧ w.cell? ⟨b, k * 9 + 1, none⟩ = some (.int .u64 (word z.set.testBit 0)) ∧ w.cell? ⟨b, k * 9 + 2, none⟩ = some (.int .u64 (word z.set.testBit 1)) ∧
 w.cell? ⟨b, k * 9 + 3, none⟩ = some (.int .u64 (word z.set.testBit 2)) ∧ w.cell? ⟨b, k * 9 + 4, none⟩ = some (.int .u64 (word z.set.testBit 3)) ∧ w.cell? ⟨b, k * 9 + 5, none⟩ = some (.slice B n1 c1) ∧
 w.cell? ⟨b, k * 9 + 6, none⟩ = some (.int .i64 z.lo) ∧ w.cell? ⟨b, k * 9 + 7, none⟩ = some (.int .i64 z.hi) ∧ w.cell? ⟨b, k * 9 + 8, none⟩ = some (.slice A z.kids.len c2) ∧
 IntsAt w A (kidNums (k + 1) z.kids.list) ∧ z.kids.len ≤ c2
structure MatAt (w : World) (x : Nd) (bs : List Nat) (base gm b cp fm : Nat) (V : Option Addr) (cv : Nat) : Prop where
 box : Blk w gm 132 #[.slice (some ⟨b, 0, none⟩) x.size cp, .slice V bs.length cv, .map (some fm)]
 parts : ∀ k z, x.nodes[k]? = some z → PartAt w b k z
 cap : x.size ≤ cp
 word : BytesAt w base V bs
 len : bs.length ≤ 256
 memo : MemoAt askV okA (goodM x bs) w fm
 tab : TabAt 0 Lib.deBruijn64tab w
 tabl : 0 < base
 fml : base ≤ fm
 small : x.size ≤ 1000000
theorem ints_stayM {w w' : World} {A : Option Addr} {L : List Int} (h : IntsAt w A L) (hk : ∀ (j : Nat) (cs : Array Value) (t : TypeId) (fr : Nat × Nat), w.heap[j]? = some (Obj.cells cs t fr) → w'.heap[j]? = w.heap[j]?) : IntsAt w' A L := fun i a ha => by
 obtain ⟨b, o, e, hc⟩ := h i a ha
 refine ⟨b, o, e, ?_⟩
 cases hb : w.heap[b]? with
 | none => simp [World.cell?, hb] at hc
 | some ob =>
  cases ob with
  | cells cs t fr =>
   have := hk b cs t fr hb
   unfold World.cell? at hc ⊢
   dsimp only at hc ⊢
   rw [this]
   exact hc
  | _ => simp [World.cell?, hb] at hc
theorem cell_stay {w w' : World} (hk : ∀ (j : Nat) (cs : Array Value) (t : TypeId) (fr : Nat × Nat), w.heap[j]? = some (Obj.cells cs t fr) → w'.heap[j]? = w.heap[j]?) {b o : Nat} {v : Value} (h : w.cell? ⟨b, o, none⟩ = some v) : w'.cell? ⟨b, o, none⟩ = some v := by
 cases hb : w.heap[b]? with
 | none => simp [World.cell?, hb] at h
 | some ob =>
  cases ob with
  | cells cs t fr =>
   have := hk b cs t fr hb
   unfold World.cell? at h ⊢
   dsimp only at h ⊢
   rw [this]
   exact h
  | _ => simp [World.cell?, hb] at h
theorem MatAt.stay {w w' : World} {x : Nd} {bs : List Nat} {base gm b cp fm cv : Nat} {V : Option Addr} (h : MatAt w x bs base gm b cp fm V cv) (hk : ∀ (j : Nat) (cs : Array Value) (t : TypeId) (fr : Nat × Nat), w.heap[j]? = some (Obj.cells cs t fr) → w'.heap[j]? = w.heap[j]?) (hm : MemoAt askV okA (goodM x bs) w' fm) (hb : Below base w w') : MatAt w' x bs base gm b cp fm V cv := by
 refine ⟨(hk gm _ _ _ h.box).trans h.box, fun k z hz => ?_, h.cap, h.word.below hb, h.len, hm, TabAt.below hb h.tabl h.tab, h.tabl, h.fml, h.small⟩
 obtain ⟨B, A, n1, c1, c2, q0, q1, q2, q3, q4, q5, q6, q7, q8, q9, q10⟩ := h.parts k z hz
 exact ⟨B, A, n1, c1, c2, cell_stay hk q0, cell_stay hk q1, cell_stay hk q2, cell_stay hk q3, cell_stay hk q4, cell_stay hk q5, cell_stay hk q6, cell_stay hk q7, cell_stay hk q8, ints_stayM q9 hk, q10⟩
theorem MatAt.grown {w w' : World} {x : Nd} {bs : List Nat} {base gm b cp fm cv : Nat} {V : Option Addr} (h : MatAt w x bs base gm b cp fm V cv) (hg : w.grownBy w' (some fm)) (hm : MemoAt askV okA (goodM x bs) w' fm) : MatAt w' x bs base gm b cp fm V cv := by
 obtain ⟨es, clock, hf, _⟩ := h.memo
 refine h.stay (fun j cs t fr hj => hg.block j (Array.getElem?_eq_some_iff.1 hj).1 (fun e => ?_)) hm ((Below.refl base w).grown hg (by have := h.memo.lt; have := h.fml; omega) (fun k e => by cases e; exact h.fml))
 cases e
 rw [hf] at hj
 cases hj
theorem MatAt.below {w w' : World} {x : Nd} {bs : List Nat} {base gm b cp fm cv : Nat} {V : Option Addr} (h : MatAt w x bs base gm b cp fm V cv) (hb : Below w.heap.size w w') : MatAt w' x bs base gm b cp fm V cv :=
 h.stay (fun j cs t fr hj => hb.block j (Array.getElem?_eq_some_iff.1 hj).1) (h.memo.stay (hb.block fm h.memo.lt)) (hb.mono (by have := h.memo.lt; have := h.fml; omega))
theorem grown_trans {a b c : World} {r : Option Nat} (h : a.grownBy b r) (g : b.grownBy c r) : a.grownBy c r :=
 ⟨g.os.trans h.os, g.tape.trans h.tape, g.output.trans h.output, Nat.le_trans h.size g.size, fun k hk hne => (g.block k (Nat.lt_of_lt_of_le hk h.size) hne).trans (h.block k hk hne)⟩
theorem grown_below {a b : World} {r : Option Nat} (h : Below a.heap.size a b) : a.grownBy b r := ⟨h.os, h.tape, h.output, h.size, fun k hk _ => h.block k hk⟩
def EndsC (x : Nd) (bs : List Nat) (z : Nd) : Prop := ∀ (base gm b cp fm cv : Nat) (V : Option Addr) (w : World), MatAt w x bs base gm b cp fm V cv → ∀ (k i : Nat), Below1 x.nodes k z → i ≤ bs.length →
 Calls Tryz.prog 112 #[.pointer (some ⟨gm, 0, none⟩), .int .i64 (k : Int), .int .i64 (i : Int)] w fun e w' => e = .returned (.agg #[.int .u64 (word (endsB z bs i) 0), .int .u64 (word (endsB z bs i) 1), .int .u64 (word (endsB z bs i) 2), .int .u64 (word (endsB z bs i) 3), .int .u64 (word (endsB z bs i) 4)]) ∧ MatAt w' x bs base gm b cp fm V cv ∧ w.grownBy w' (some fm)
def EachC (x : Nd) (bs : List Nat) (z : Nd) : Prop := ∀ (base gm b cp fm cv : Nat) (V : Option Addr) (w : World), MatAt w x bs base gm b cp fm V cv → ∀ (k : Nat) (p : Nat → Bool), Below1 x.nodes k z → (∀ c, p c = true → c ≤ bs.length) →
 Calls Tryz.prog 186 #[.pointer (some ⟨gm, 0, none⟩), .int .i64 (k : Int), .agg #[.int .u64 (word p 0), .int .u64 (word p 1), .int .u64 (word p 2), .int .u64 (word p 3), .int .u64 (word p 4)]] w fun e w' => e = .returned (.agg #[.int .u64 ((word (imgB (z.rel bs) p) 0 : Nat) : Int), .int .u64 ((word (imgB (z.rel bs) p) 1 : Nat) : Int), .int .u64 ((word (imgB (z.rel bs) p) 2 : Nat) : Int), .int .u64 ((word (imgB (z.rel bs) p) 3 : Nat) : Int), .int .u64 ((word (imgB (z.rel bs) p) 4 : Nat) : Int)]) ∧ MatAt w' x bs base gm b cp fm V cv ∧ w.grownBy w' (some fm)
end Go.Proofs.YtofbfafnpdaejaaGreatDoor
