/-
  The pieces of the members below c + 1, from those of the members below c. No program in sight. The text of a class, and that a class is read back from it. No program in sight. The contract of the program's reader of items. How many bits of a number of 64 bits are set: the sum in parallel, byte by byte. No program in sight. The contracts of bits.OnesCount64 and sets.Count. What every proof of a plain row of this seat wants: an argument that is a slice of bytes. What every proof of a plain row wants: an argument that is a slice of lexemes. What every proof of a row wants whose arguments are trees: a slice of trees that came in, and how many nodes they have. What a card of trees wants: the table that the rows list; a tree that came in by value. The text of a byte: the contracts of lexeme.Literal and of its reference. The digits of a number of 1000 at most: the contracts of num.Show and of its reference. The reference's Spans: the pieces of a set, in a slice of its own. Its invariant: ahead of c, what is out and what is open make the pieces of the members below c. The contract of sets.Least at a set of one byte. A row of lexemes, off what a call owns; and what the three texts of knows split into. Sums and products that stop at a top: num.Add, num.Mul (of two) and the reference's, at the top 2^40. tree.walk and tree.nodes: the iterator over the nodes of a tree that may be, each ahead of its kids. tree.walk and tree.nodes at any tree: the iterator over the nodes, each ahead of its kids. tree.Right: a tree that may be. tree.Right at any tree. How many states trees take: the plain number, and the contracts of nfa.sum, nfa.times, nfa.Weight, nfa.Size. The machine of trees in plain words, and what a tree adds to a machine. What is said of the machine of trees, in plain words: its shape. A machine in memory: its rows, the program's layer, and what laying may change. Cells of some blocks that stand through a drawn region. What stands at a place, by its byte. No program in sight. The contract of parse.ready.
-/
import Derived.Test.YtchfipjclbpomaaDoorRows
import Derived.WalkKit
import Derived.ProofKit
import Derived.OpenShut
import Derived.ShutString
import Derived.ChangeOld
import Derived.SizedLaws
import Derived.Shelf.Spec.TrailingZeros
import Derived.Deep.DeepHandedRow
import Derived.Lib.LaidTab
import Derived.Maps.AppendAt
import Derived.OwnWalk
import Derived.Lib.Hide
import Derived.Deep.Light
import Derived.RangeFuncNested
import Derived.RangeFuncBound
import Derived.RangeFuncCalls
import Derived.RangeFuncLeaves
import Derived.Shelf.Abstract
import Derived.Shelf.RegionOpen
import Derived.OwnWalkIn
import Derived.TacticsInMore
import Derived.LoopNIn
import Derived.LoopIn
import Derived.RangeFuncBox
import Derived.Deep.AppendLies
import Derived.Deep.RegionLaw
import Derived.Deep.RegionHeld3
import Derived.RegionTactic
import Derived.BigRegion
import Derived.Test.YtchfipjclbpomaaDoorQSpans
import Derived.Test.YtchfipjclbpomaaDoorQZ02
import Derived.Test.YtchfipjclbpomaaDoorQZ01
namespace Go.Proofs.YtchfipjclbpomaaDoor
set_option linter.unusedSimpArgs false
set_option linter.unusedVariables false

end Go.Proofs.YtchfipjclbpomaaDoor
namespace Go.Proofs.YtchfipjclbpomaaDoor
set_option linter.unusedSimpArgs false
set_option linter.unusedVariables false

theorem chr_head (c : Nat) (hc : c < 256) : 1 ≤ (chrS c).length ∧ byteAt (chrS c) 0 ≠ 45 ∧ byteAt (chrS c) 0 ≠ 93 ∧ byteAt (chrS c) 0 ≠ 94 ∧ ∀ x ∈ chrS c, x < 256 := by
  have H : ∀ k : Fin 256, 1 ≤ (chrS k.val).length ∧ byteAt (chrS k.val) 0 ≠ 45 ∧ byteAt (chrS k.val) 0 ≠ 93 ∧ byteAt (chrS k.val) 0 ≠ 94 ∧ ∀ x ∈ chrS k.val, x < 256 := by decide +kernel
  exact H ⟨c, hc⟩
/-- The text of a piece. -/
def pieceS (x : Nat × Nat) : List Nat := chrS x.1 ++ ((if x.1 + 1 < x.2 then [45] else []) ++ (if x.1 < x.2 then chrS x.2 else []))
def piecesS (l : List (Nat × Nat)) : List Nat := l.flatMap pieceS
theorem piecesS_cons (x : Nat × Nat) (l : List (Nat × Nat)) : piecesS (x :: l) = pieceS x ++ piecesS l := by simp [piecesS]
theorem pieceS_one (a : Nat) : pieceS (a, a) = chrS a := by simp [pieceS]
theorem pieceS_two (a : Nat) : pieceS (a, a + 1) = chrS a ++ chrS (a + 1) := by simp [pieceS]
theorem pieceS_more (a b : Nat) (h : a + 1 < b) : pieceS (a, b) = chrS a ++ (45 :: chrS b) := by
  unfold pieceS
  rw [if_pos h, if_pos (by simp; omega)]; rfl
theorem pieceS_len (x : Nat × Nat) : (pieceS x).length ≤ 9 := by
  have h1 := chrS_len x.1
  have h2 := chrS_len x.2
  unfold pieceS
  simp only [List.length_append]
  split <;> split <;> simp <;> omega
theorem piecesS_len (l : List (Nat × Nat)) : (piecesS l).length ≤ l.length * 9 := by
  induction l with
  | nil => simp [piecesS]
  | cons x l ih => rw [piecesS_cons, List.length_append, List.length_cons]; have := pieceS_len x; omega
theorem spans_rise (xs : List Nat) (hx : xs.Pairwise (· < ·)) (h256 : ∀ x ∈ xs, x < 256) : ∀ x ∈ spans xs, x.1 ≤ x.2 := by
  induction xs using rev_ind with
  | h0 => simp [spans]
  | h1 xs x ih =>
    have ih := ih (List.pairwise_append.1 hx).1 (fun y hy => h256 y (by simp [hy]))
    rw [spans_snoc]
    rcases List.eq_nil_or_concat (spans xs) with h | ⟨m, ⟨a, b⟩, h⟩
    · rw [h, push_nil]; simp
    · rw [List.concat_eq_append] at h
      rw [h] at ih ⊢
      have hab := ih (a, b) (by simp)
      dsimp only at hab
      by_cases hb : b + 1 = x % 256
      · rw [push_on _ _ _ _ hb]
        intro q hq
        rcases List.mem_append.1 hq with hq | hq
        · exact ih q (by simp [hq])
        · simp at hq; subst hq; dsimp only; omega
      · rw [push_new _ _ _ _ hb]
        intro q hq
        rcases List.mem_append.1 hq with hq | hq
        · exact ih q hq
        · simp at hq; subst hq; dsimp only; omega
theorem elems_rise (p : Nat → Bool) (m : Nat) : (elems p m).Pairwise (· < ·) := by
  unfold elems
  exact (List.pairwise_lt_range).filter _
/-- The pieces of a set. -/
def cutsOf (p : Nat → Bool) : List (Nat × Nat) := spans (elems p 256)
theorem cutsOf_in (p : Nat → Bool) : ∀ x ∈ cutsOf p, x.1 ≤ x.2 ∧ x.2 < 256 := fun x hx => ⟨spans_rise _ (elems_rise p 256) (fun x hx => elems_lt hx) x hx, (spans_small _ x hx).2⟩
/-- Is the class of a set turned? -/
def isTurned (p : Nat → Bool) : Bool := decide ((elems p 256).length = 0) || decide (128 < (elems p 256).length) && decide ((elems p 256).length < 256)
/-- The text of a set's class. -/
def showS (p : Nat → Bool) : List Nat := if isTurned p = true then [91, 94] ++ (piecesS (cutsOf (fun c => !p c)) ++ [93]) else [91] ++ (piecesS (cutsOf p) ++ [93])
theorem showS_turned {p : Nat → Bool} (h : isTurned p = true) : showS p = [91, 94] ++ (piecesS (cutsOf (fun c => !p c)) ++ [93]) := if_pos h
theorem showS_plain {p : Nat → Bool} (h : isTurned p = false) : showS p = [91] ++ (piecesS (cutsOf p) ++ [93]) := if_neg (by rw [h]; decide)

theorem showS_len (p : Nat → Bool) : (showS p).length ≤ 2400 := by
  have hh : ∀ q : Nat → Bool, (piecesS (cutsOf q)).length ≤ 2304 := by
    intro q
    have h1 := piecesS_len (cutsOf q)
    have h2 : (cutsOf q).length ≤ 256 := Nat.le_trans (spans_len _) (elems_len q 256)
    omega
  unfold showS
  have h1 := hh (fun c => !p c)
  have h2 := hh p
  split <;> simp <;> omega

end Go.Proofs.YtchfipjclbpomaaDoor
namespace Go.Proofs.YtchfipjclbpomaaDoor
open Go.RowKit
set_option linter.unusedSimpArgs false
set_option linter.unusedVariables false
set_option maxRecDepth 100000

theorem Rd.alloc {w : World} {g : Nat} {A : Option Addr} {cap : Nat} {bs : List Nat} {i start kind place : Int} (h : Rd w g A cap bs i start kind place) (o : Obj) : Rd (w.alloc o) g A cap bs i start kind place := Blk.alloc h o
theorem Rd.below {w w' : World} {B g : Nat} {A : Option Addr} {cap : Nat} {bs : List Nat} {i start kind place : Int} (h : Rd w g A cap bs i start kind place) (hb : Below B w w') (hg : g < B) : Rd w' g A cap bs i start kind place := Blk.below h hb hg
theorem Rd.set4 {w : World} {g g' : Nat} {A : Option Addr} {cap : Nat} {bs : List Nat} {i start kind place : Int} (h : Rd w g A cap bs i start kind place) (hg : g ≠ g') (a b c d : Value) :
    Rd ((((w.setCell ⟨g', 0, none⟩ a).setCell ⟨g', 1, none⟩ b).setCell ⟨g', 2, none⟩ c).setCell ⟨g', 3, none⟩ d) g A cap bs i start kind place :=
  Blk.far (Blk.far (Blk.far (Blk.far h (by dsimp only; omega) _) (by dsimp only; omega) _) (by dsimp only; omega) _) (by dsimp only; omega) _
theorem only_set4 {a w : World} {g g' : Nat} (h : a.grownBy w (some g)) (hg : a.heap.size ≤ g') (x y z u : Value) :
    a.grownBy ((((w.setCell ⟨g', 0, none⟩ x).setCell ⟨g', 1, none⟩ y).setCell ⟨g', 2, none⟩ z).setCell ⟨g', 3, none⟩ u) (some g) :=
  only_set' (only_set' (only_set' (only_set' h hg _ _) hg _ _) hg _ _) hg _ _
/-- What the reader of an item leaves behind. -/
def ItemPost (g : Nat) (A : Option Addr) (cap : Nat) (bs : List Nat) (i s : Nat) (w : World) (e : Ending) (w' : World) : Prop :=
  w.grownBy w' (some g) ∧
  match itemS bs s i with
  | .ok (lo, hi, j) => e = .returned (.agg #[.int .u64 ((word (between lo hi) 0 : Nat) : Int), .int .u64 ((word (between lo hi) 1 : Nat) : Int), .int .u64 ((word (between lo hi) 2 : Nat) : Int), .int .u64 ((word (between lo hi) 3 : Nat) : Int)]) ∧ Rd w' g A cap bs (j : Int) (s : Int) 0 0
  | .error (k, p) => k ≠ 0 ∧ ∃ (q : Nat → Bool) (j : Nat), e = .returned (.agg #[.int .u64 ((word (q) 0 : Nat) : Int), .int .u64 ((word (q) 1 : Nat) : Int), .int .u64 ((word (q) 2 : Nat) : Int), .int .u64 ((word (q) 3 : Nat) : Int)]) ∧ Rd w' g A cap bs (j : Int) (s : Int) k p
theorem ItemPost.yes {g : Nat} {A : Option Addr} {cap : Nat} {bs : List Nat} {i s : Nat} {w : World} {e : Ending} {w' : World} {lo hi j : Nat} (hg : w.grownBy w' (some g)) (hs : itemS bs s i = .ok (lo, hi, j))
    (he : e = .returned (.agg #[.int .u64 ((word (between lo hi) 0 : Nat) : Int), .int .u64 ((word (between lo hi) 1 : Nat) : Int), .int .u64 ((word (between lo hi) 2 : Nat) : Int), .int .u64 ((word (between lo hi) 3 : Nat) : Int)])) (hr : Rd w' g A cap bs (j : Int) (s : Int) 0 0) : ItemPost g A cap bs i s w e w' := by
  unfold ItemPost; rw [hs]; exact ⟨hg, he, hr⟩
theorem ItemPost.no {g : Nat} {A : Option Addr} {cap : Nat} {bs : List Nat} {i s : Nat} {w : World} {e : Ending} {w' : World} {k p : Int} (q : Nat → Bool) (j : Nat) (hg : w.grownBy w' (some g)) (hs : itemS bs s i = .error (k, p)) (hk : k ≠ 0)
    (he : e = .returned (.agg #[.int .u64 ((word (q) 0 : Nat) : Int), .int .u64 ((word (q) 1 : Nat) : Int), .int .u64 ((word (q) 2 : Nat) : Int), .int .u64 ((word (q) 3 : Nat) : Int)])) (hr : Rd w' g A cap bs (j : Int) (s : Int) k p) : ItemPost g A cap bs i s w e w' := by
  unfold ItemPost; rw [hs]; exact ⟨hg, hk, q, j, he, hr⟩

set_option maxHeartbeats 2000000 in
theorem item_bad1 (g : Nat) (A : Option Addr) (cap : Nat) (bs : List Nat) (i s : Nat) (B : Nat) (w : World) (hr : Rd w g A cap bs (i : Int) (s : Int) 0 0) (hA : BytesAt w B A bs) (hB : B ≤ g) (hi : i ≤ bs.length) (k p : Int) (he : charS bs s i = .error (k, p)) : Calls Tryd.prog 87 #[.pointer (some ⟨g, 0, none⟩)] w (ItemPost g A cap bs i s w) := by
  have hlt := hr.lt
  have hne : w.heap.size ≠ g := by omega
  obtain ⟨c0, c1, c2, c3, c4, f1, f3, f4⟩ := hr.cells
  have Hr := Lib.hid (hr.alloc (.cells #[.int .u64 0, .int .u64 0, .int .u64 0, .int .u64 0] 25))
  have HA : Hid (BytesAt (w.alloc (.cells #[.int .u64 0, .int .u64 0, .int .u64 0, .int .u64 0] 25)) B A bs) := hA.below ((Below.refl B w).alloc (by omega) _)
  have Hz : Hid (Blk (w.alloc (.cells #[.int .u64 0, .int .u64 0, .int .u64 0, .int .u64 0] 25)) w.heap.size 25 #[.int .u64 0, .int .u64 0, .int .u64 0, .int .u64 0]) := Blk.new _ _ _
  have Hg0 : Hid (w.grownBy (w.alloc (.cells #[.int .u64 0, .int .u64 0, .int .u64 0, .int .u64 0] 25)) (some g)) := only_alloc (only_refl _ _) _
  have Hl := Lib.hid hA.2.1
  have hl := hA.2.1
  clear hr hA
  have He := Lib.hid he
  have Hi : Hid (itemS bs s i = .error (k, p)) := by show itemS bs s i = _; unfold itemS; rw [he]
  clear he
  go_enter Tryd.func87, Tryd.ntmps87
  go_wp2_with fail
  with_reducible refine (char_go g A cap bs i s B _ Hr.out HA.out hB hi).mono ?_
  rintro e w1 hp
  unfold CharPost at hp
  rw [He.out] at hp
  obtain ⟨hg1, hk, c, j, hc, rfl, hr1⟩ := hp
  have hkb : (k == 0) = false := by simpa using hk
  obtain ⟨d0, d1, d2, d3, d4, e1, e3, e4⟩ := hr1.cells
  have Hr1 := Lib.hid hr1
  have Hg1 := Lib.hid hg1
  have hlt1 := hr1.lt
  have hsz : w.heap.size < w1.heap.size := by have := hg1.size; simp at this; omega
  clear hr1 hg1
  go_wp2_with (go_at_call 103; refine (span_any _ _ _ (by omega) (by omega)).mono ?_; rintro e w2 ⟨rfl, hb2⟩; obtain ⟨z0, z1, z2, z3, y0, y1, y2, y3⟩ := ((Hz.out.grown Hg1.out (by simpa using hne)).below hb2 hsz).c4)
  go_light
  refine bodyPost_ret (ret_set Tryd.results87 rfl ((Hz.out.grown Hg1.out (by simpa using hne)).below hb2 hsz).set4) rfl ?_
  exact ItemPost.no _ j (only_set4 (only_below (only_trans Hg0.out Hg1.out) hb2) (Nat.le_refl _) _ _ _ _) Hi.out hk rfl ((Hr1.out.below hb2 hlt1).set4 (by omega) _ _ _ _)

set_option maxHeartbeats 2000000 in
theorem item_one (g : Nat) (A : Option Addr) (cap : Nat) (bs : List Nat) (i s : Nat) (B : Nat) (w : World) (hr : Rd w g A cap bs (i : Int) (s : Int) 0 0) (hA : BytesAt w B A bs) (hB : B ≤ g) (hi : i ≤ bs.length) (lo j : Nat) (he : charS bs s i = .ok (lo, j)) (hlo : lo < 256) (hh : hasAt bs (j : Int) 45 = false) : Calls Tryd.prog 87 #[.pointer (some ⟨g, 0, none⟩)] w (ItemPost g A cap bs i s w) := by
  have hlt := hr.lt
  have hne : w.heap.size ≠ g := by omega
  obtain ⟨c0, c1, c2, c3, c4, f1, f3, f4⟩ := hr.cells
  have Hr := Lib.hid (hr.alloc (.cells #[.int .u64 0, .int .u64 0, .int .u64 0, .int .u64 0] 25))
  have HA : Hid (BytesAt (w.alloc (.cells #[.int .u64 0, .int .u64 0, .int .u64 0, .int .u64 0] 25)) B A bs) := hA.below ((Below.refl B w).alloc (by omega) _)
  have Hz : Hid (Blk (w.alloc (.cells #[.int .u64 0, .int .u64 0, .int .u64 0, .int .u64 0] 25)) w.heap.size 25 #[.int .u64 0, .int .u64 0, .int .u64 0, .int .u64 0]) := Blk.new _ _ _
  have Hg0 : Hid (w.grownBy (w.alloc (.cells #[.int .u64 0, .int .u64 0, .int .u64 0, .int .u64 0] 25)) (some g)) := only_alloc (only_refl _ _) _
  have Hl := Lib.hid hA.2.1
  have hl := hA.2.1
  clear hr hA
  have He := Lib.hid he
  have Hh := Lib.hid hh
  have Hi : Hid (itemS bs s i = .ok (lo, lo, j)) := by show itemS bs s i = _; unfold itemS; rw [he]; dsimp only; rw [hh]; rfl
  clear he hh
  go_enter Tryd.func87, Tryd.ntmps87
  go_wp2_with fail
  with_reducible refine (char_go g A cap bs i s B _ Hr.out HA.out hB hi).mono ?_
  rintro e w1 hp
  unfold CharPost at hp
  rw [He.out] at hp
  obtain ⟨hg1, rfl, hr1⟩ := hp
  obtain ⟨d0, d1, d2, d3, d4, e1, e3, e4⟩ := hr1.cells
  have Hr1 := Lib.hid hr1
  have Hg1 := Lib.hid hg1
  have HA1 := Lib.hid (HA.out.only hg1 hB Hr.out.lt)
  have Hz1 : Hid (Blk w1 w.heap.size 25 #[.int .u64 0, .int .u64 0, .int .u64 0, .int .u64 0]) := Hz.out.grown hg1 (by simpa using hne)
  have hlt1 := hr1.lt
  have hsz : w.heap.size < w1.heap.size := by have := hg1.size; simp at this; omega
  clear hr1 hg1
  go_wp2_with (first
    | (go_at_call 86; refine (take_no g A cap bs _ _ _ _ 45 B _ Hr1.out HA1.out (by omega) (by omega) Hh.out).mono ?_; rintro e w2 ⟨rfl, hr2, hg2⟩; have hlt2 := hr2.lt; have Hr2 := Lib.hid hr2; have Hg2 := Lib.hid hg2; clear hr2 hg2; have hsz2 : w.heap.size < w2.heap.size := Nat.lt_of_lt_of_le hsz Hg2.out.size; have Hz2 := Lib.hid (Hz1.out.grown Hg2.out (by simpa using hne)))
    | (go_at_call 103; refine (span_any _ _ _ (by omega) (by omega)).mono ?_; rintro e w3 ⟨rfl, hb3⟩; obtain ⟨z0, z1, z2, z3, y0, y1, y2, y3⟩ := (Hz2.out.below hb3 hsz2).c4))
  go_light
  refine bodyPost_ret (ret_set Tryd.results87 rfl (Hz2.out.below hb3 hsz2).set4) rfl ?_
  exact ItemPost.yes (only_set4 (only_below (only_trans (only_trans Hg0.out Hg1.out) Hg2.out) hb3) (Nat.le_refl _) _ _ _ _) Hi.out rfl ((Hr2.out.below hb3 hlt2).set4 (by omega) _ _ _ _)

set_option maxHeartbeats 2000000 in
theorem item_bad2 (g : Nat) (A : Option Addr) (cap : Nat) (bs : List Nat) (i s : Nat) (B : Nat) (w : World) (hr : Rd w g A cap bs (i : Int) (s : Int) 0 0) (hA : BytesAt w B A bs) (hB : B ≤ g) (hi : i ≤ bs.length) (lo j : Nat) (he : charS bs s i = .ok (lo, j)) (hlo : lo < 256) (hh : hasAt bs (j : Int) 45 = true) (hj : j < bs.length) (k p : Int) (hf : charS bs s (j + 1) = .error (k, p)) : Calls Tryd.prog 87 #[.pointer (some ⟨g, 0, none⟩)] w (ItemPost g A cap bs i s w) := by
  have hlt := hr.lt
  have hne : w.heap.size ≠ g := by omega
  obtain ⟨c0, c1, c2, c3, c4, f1, f3, f4⟩ := hr.cells
  have Hr := Lib.hid (hr.alloc (.cells #[.int .u64 0, .int .u64 0, .int .u64 0, .int .u64 0] 25))
  have HA : Hid (BytesAt (w.alloc (.cells #[.int .u64 0, .int .u64 0, .int .u64 0, .int .u64 0] 25)) B A bs) := hA.below ((Below.refl B w).alloc (by omega) _)
  have Hz : Hid (Blk (w.alloc (.cells #[.int .u64 0, .int .u64 0, .int .u64 0, .int .u64 0] 25)) w.heap.size 25 #[.int .u64 0, .int .u64 0, .int .u64 0, .int .u64 0]) := Blk.new _ _ _
  have Hg0 : Hid (w.grownBy (w.alloc (.cells #[.int .u64 0, .int .u64 0, .int .u64 0, .int .u64 0] 25)) (some g)) := only_alloc (only_refl _ _) _
  have Hl := Lib.hid hA.2.1
  have hl := hA.2.1
  clear hr hA
  have He := Lib.hid he
  have Hh := Lib.hid hh
  have Hf := Lib.hid hf
  have Hi : Hid (itemS bs s i = .error (k, p)) := by show itemS bs s i = _; unfold itemS; rw [he]; dsimp only; rw [hh, hf]; rfl
  clear he hh hf
  go_enter Tryd.func87, Tryd.ntmps87
  go_wp2_with fail
  with_reducible refine (char_go g A cap bs i s B _ Hr.out HA.out hB hi).mono ?_
  rintro e w1 hp
  unfold CharPost at hp
  rw [He.out] at hp
  obtain ⟨hg1, rfl, hr1⟩ := hp
  obtain ⟨d0, d1, d2, d3, d4, e1, e3, e4⟩ := hr1.cells
  have Hr1 := Lib.hid hr1
  have Hg1 := Lib.hid hg1
  have HA1 := Lib.hid (HA.out.only hg1 hB Hr.out.lt)
  have Hz1 : Hid (Blk w1 w.heap.size 25 #[.int .u64 0, .int .u64 0, .int .u64 0, .int .u64 0]) := Hz.out.grown hg1 (by simpa using hne)
  have hlt1 := hr1.lt
  have hsz : w.heap.size < w1.heap.size := by have := hg1.size; simp at this; omega
  clear hr1 hg1
  go_wp2_with fail
  refine (take_yes g A cap bs _ _ _ _ 45 B _ Hr1.out HA1.out (by omega) (by omega) Hh.out).mono ?_
  rintro e w2 ⟨rfl, hr2, hg2⟩
  have Hg2 := Lib.hid hg2
  have HA2 := Lib.hid (HA1.out.only hg2 hB hlt1)
  have hlt2 := hr2.lt
  have Hr2 : Hid (Rd w2 g A cap bs ((j + 1 : Nat) : Int) (s : Int) 0 0) := by show Rd _ _ _ _ _ _ _ _ _; rw [show ((j + 1 : Nat) : Int) = (j : Int) + 1 by omega]; exact hr2
  have Hz2 := Lib.hid (Hz1.out.grown hg2 (by simpa using hne))
  clear hr2 hg2
  go_wp2_with fail
  with_reducible refine (char_go g A cap bs (j + 1) s B _ Hr2.out HA2.out hB (by omega)).mono ?_
  rintro e w3 hp
  unfold CharPost at hp
  rw [Hf.out] at hp
  obtain ⟨hg3, hk, c, j', hc, rfl, hr3⟩ := hp
  have hkn : k ≠ 0 := hk
  have Hg3 := Lib.hid hg3
  have Hr3 := Lib.hid hr3
  have hlt3 := hr3.lt
  have Hz3 := Lib.hid (Hz2.out.grown hg3 (by simpa using hne))
  have hsz3 := Hz3.out.lt
  clear hr3 hg3
  by_cases hcl : c < lo
  · go_wp2_with (first
      | (go_at_call 99; refine (fail1_go g A cap bs _ _ _ _ _ _ _ Hr3.out hkn).mono ?_; rintro e w4 ⟨rfl, hr4, hg4⟩; have Hr4 := Lib.hid hr4; have Hg4 := Lib.hid hg4; have hlt4 := hr4.lt; have Hz4 := Lib.hid (Hz3.out.grown hg4 (by simpa using hne)); have hsz4 := Hz4.out.lt; clear hr4 hg4)
      | (go_at_call 103; refine (span_any _ _ _ (by omega) (by omega)).mono ?_; rintro e w5 ⟨rfl, hb5⟩; obtain ⟨z0, z1, z2, z3, y0, y1, y2, y3⟩ := (Hz4.out.below hb5 hsz4).c4))
    go_light
    refine bodyPost_ret (ret_set Tryd.results87 rfl (Hz4.out.below hb5 hsz4).set4) rfl ?_
    exact ItemPost.no _ j' (only_set4 (only_below (only_trans (only_trans (only_trans (only_trans Hg0.out Hg1.out) Hg2.out) Hg3.out) Hg4.out) hb5) (Nat.le_refl _) _ _ _ _) Hi.out hkn rfl ((Hr4.out.below hb5 hlt4).set4 (by omega) _ _ _ _)
  · go_wp2_with (go_at_call 103; refine (span_any _ _ _ (by omega) (by omega)).mono ?_; rintro e w5 ⟨rfl, hb5⟩; obtain ⟨z0, z1, z2, z3, y0, y1, y2, y3⟩ := (Hz3.out.below hb5 hsz3).c4)
    go_light
    refine bodyPost_ret (ret_set Tryd.results87 rfl (Hz3.out.below hb5 hsz3).set4) rfl ?_
    exact ItemPost.no _ j' (only_set4 (only_below (only_trans (only_trans (only_trans Hg0.out Hg1.out) Hg2.out) Hg3.out) hb5) (Nat.le_refl _) _ _ _ _) Hi.out hkn rfl ((Hr3.out.below hb5 hlt3).set4 (by omega) _ _ _ _)

set_option maxHeartbeats 2000000 in
theorem item_two (g : Nat) (A : Option Addr) (cap : Nat) (bs : List Nat) (i s : Nat) (B : Nat) (w : World) (hr : Rd w g A cap bs (i : Int) (s : Int) 0 0) (hA : BytesAt w B A bs) (hB : B ≤ g) (hi : i ≤ bs.length) (lo j : Nat) (he : charS bs s i = .ok (lo, j)) (hlo : lo < 256) (hh : hasAt bs (j : Int) 45 = true) (hj : j < bs.length) (hi' j' : Nat) (hf : charS bs s (j + 1) = .ok (hi', j')) (hhi : hi' < 256) : Calls Tryd.prog 87 #[.pointer (some ⟨g, 0, none⟩)] w (ItemPost g A cap bs i s w) := by
  have hlt := hr.lt
  have hne : w.heap.size ≠ g := by omega
  obtain ⟨c0, c1, c2, c3, c4, f1, f3, f4⟩ := hr.cells
  have Hr := Lib.hid (hr.alloc (.cells #[.int .u64 0, .int .u64 0, .int .u64 0, .int .u64 0] 25))
  have HA : Hid (BytesAt (w.alloc (.cells #[.int .u64 0, .int .u64 0, .int .u64 0, .int .u64 0] 25)) B A bs) := hA.below ((Below.refl B w).alloc (by omega) _)
  have Hz : Hid (Blk (w.alloc (.cells #[.int .u64 0, .int .u64 0, .int .u64 0, .int .u64 0] 25)) w.heap.size 25 #[.int .u64 0, .int .u64 0, .int .u64 0, .int .u64 0]) := Blk.new _ _ _
  have Hg0 : Hid (w.grownBy (w.alloc (.cells #[.int .u64 0, .int .u64 0, .int .u64 0, .int .u64 0] 25)) (some g)) := only_alloc (only_refl _ _) _
  have Hl := Lib.hid hA.2.1
  have hl := hA.2.1
  clear hr hA
  have He := Lib.hid he
  have Hh := Lib.hid hh
  have Hf := Lib.hid hf
  have Hi : Hid (itemS bs s i = if hi' < lo then .error (15, (i : Int)) else .ok (lo, hi', j')) := by show itemS bs s i = _; unfold itemS; rw [he]; dsimp only; rw [hh, hf]; rfl
  clear he hh hf
  go_enter Tryd.func87, Tryd.ntmps87
  go_wp2_with fail
  with_reducible refine (char_go g A cap bs i s B _ Hr.out HA.out hB hi).mono ?_
  rintro e w1 hp
  unfold CharPost at hp
  rw [He.out] at hp
  obtain ⟨hg1, rfl, hr1⟩ := hp
  obtain ⟨d0, d1, d2, d3, d4, e1, e3, e4⟩ := hr1.cells
  have Hr1 := Lib.hid hr1
  have Hg1 := Lib.hid hg1
  have HA1 := Lib.hid (HA.out.only hg1 hB Hr.out.lt)
  have Hz1 : Hid (Blk w1 w.heap.size 25 #[.int .u64 0, .int .u64 0, .int .u64 0, .int .u64 0]) := Hz.out.grown hg1 (by simpa using hne)
  have hlt1 := hr1.lt
  have hsz : w.heap.size < w1.heap.size := by have := hg1.size; simp at this; omega
  clear hr1 hg1
  go_wp2_with fail
  refine (take_yes g A cap bs _ _ _ _ 45 B _ Hr1.out HA1.out (by omega) (by omega) Hh.out).mono ?_
  rintro e w2 ⟨rfl, hr2, hg2⟩
  have Hg2 := Lib.hid hg2
  have HA2 := Lib.hid (HA1.out.only hg2 hB hlt1)
  have hlt2 := hr2.lt
  have Hr2 : Hid (Rd w2 g A cap bs ((j + 1 : Nat) : Int) (s : Int) 0 0) := by show Rd _ _ _ _ _ _ _ _ _; rw [show ((j + 1 : Nat) : Int) = (j : Int) + 1 by omega]; exact hr2
  have Hz2 := Lib.hid (Hz1.out.grown hg2 (by simpa using hne))
  clear hr2 hg2
  go_wp2_with fail
  with_reducible refine (char_go g A cap bs (j + 1) s B _ Hr2.out HA2.out hB (by omega)).mono ?_
  rintro e w3 hp
  unfold CharPost at hp
  rw [Hf.out] at hp
  obtain ⟨hg3, rfl, hr3⟩ := hp
  have Hg3 := Lib.hid hg3
  have Hr3 := Lib.hid hr3
  have hlt3 := hr3.lt
  have Hz3 := Lib.hid (Hz2.out.grown hg3 (by simpa using hne))
  have hsz3 := Hz3.out.lt
  clear hr3 hg3
  by_cases hcl : hi' < lo
  · go_wp2_with (first
      | (go_at_call 99; refine (fail0_go g A cap bs _ _ _ _ _ _ Hr3.out).mono ?_; rintro e w4 ⟨rfl, hr4, hg4⟩; have Hr4 := Lib.hid hr4; have Hg4 := Lib.hid hg4; have hlt4 := hr4.lt; have Hz4 := Lib.hid (Hz3.out.grown hg4 (by simpa using hne)); have hsz4 := Hz4.out.lt; clear hr4 hg4)
      | (go_at_call 103; refine (span_any _ _ _ (by omega) (by omega)).mono ?_; rintro e w5 ⟨rfl, hb5⟩; obtain ⟨z0, z1, z2, z3, y0, y1, y2, y3⟩ := (Hz4.out.below hb5 hsz4).c4))
    go_light
    refine bodyPost_ret (ret_set Tryd.results87 rfl (Hz4.out.below hb5 hsz4).set4) rfl ?_
    exact ItemPost.no _ j' (only_set4 (only_below (only_trans (only_trans (only_trans (only_trans Hg0.out Hg1.out) Hg2.out) Hg3.out) Hg4.out) hb5) (Nat.le_refl _) _ _ _ _) (by rw [Hi.out, if_pos hcl]) (by decide) rfl ((Hr4.out.below hb5 hlt4).set4 (by omega) _ _ _ _)
  · go_wp2_with (go_at_call 103; refine (span_any _ _ _ (by omega) (by omega)).mono ?_; rintro e w5 ⟨rfl, hb5⟩; obtain ⟨z0, z1, z2, z3, y0, y1, y2, y3⟩ := (Hz3.out.below hb5 hsz3).c4)
    go_light
    refine bodyPost_ret (ret_set Tryd.results87 rfl (Hz3.out.below hb5 hsz3).set4) rfl ?_
    exact ItemPost.yes (only_set4 (only_below (only_trans (only_trans (only_trans Hg0.out Hg1.out) Hg2.out) Hg3.out) hb5) (Nat.le_refl _) _ _ _ _) (by rw [Hi.out, if_neg hcl]) rfl ((Hr3.out.below hb5 hlt3).set4 (by omega) _ _ _ _)

theorem item_go (g : Nat) (A : Option Addr) (cap : Nat) (bs : List Nat) (i s : Nat) (B : Nat) (w : World) (hr : Rd w g A cap bs (i : Int) (s : Int) 0 0) (hA : BytesAt w B A bs) (hB : B ≤ g) (hi : i ≤ bs.length) : Calls Tryd.prog 87 #[.pointer (some ⟨g, 0, none⟩)] w (ItemPost g A cap bs i s w) := by
  cases he : charS bs s i with
  | error x => obtain ⟨k, p⟩ := x; exact item_bad1 g A cap bs i s B w hr hA hB hi k p he
  | ok x =>
    obtain ⟨lo, j⟩ := x
    obtain ⟨a1, a2, a3⟩ := charS_ok hA.1 he
    cases hh : hasAt bs (j : Int) 45 with
    | false => exact item_one g A cap bs i s B w hr hA hB hi lo j he a3 hh
    | true =>
      obtain ⟨j', e', hj, _⟩ := hasAt_yes hh
      obtain rfl : j = j' := by omega
      cases hf : charS bs s (j + 1) with
      | error y => obtain ⟨k, p⟩ := y; exact item_bad2 g A cap bs i s B w hr hA hB hi lo j he a3 hh hj k p hf
      | ok y =>
        obtain ⟨hi', j'⟩ := y
        exact item_two g A cap bs i s B w hr hA hB hi lo j he a3 hh hj hi' j' hf (charS_ok hA.1 hf).2.2

end Go.Proofs.YtchfipjclbpomaaDoor
namespace Go.Proofs.YtchfipjclbpomaaDoor
set_option linter.unusedSimpArgs false
set_option linter.unusedVariables false

theorem testBit_split (a b j : Nat) (ha : a < 256) : (a + 256 * b).testBit j = if j < 8 then a.testBit j else b.testBit (j - 8) := by
  rw [Nat.add_comm, show (256 : Nat) = 2 ^ 8 from rfl]
  exact Nat.testBit_two_pow_mul_add b ha j

theorem land_split (x m n : Nat) (hm : m < 256) : x &&& (m + 256 * n) = ((x % 256) &&& m) + 256 * ((x / 256) &&& n) := by
  apply Nat.eq_of_testBit_eq
  intro j
  have h1 : (x % 256) &&& m < 256 := Nat.and_lt_two_pow (n := 8) _ hm
  rw [testBit_split _ _ _ h1, Nat.testBit_and, testBit_split _ _ _ hm]
  by_cases hj : j < 8
  · rw [if_pos hj, if_pos hj, Nat.testBit_and, show (256 : Nat) = 2 ^ 8 from rfl, Nat.testBit_mod_two_pow]
    simp [hj]
  · rw [if_neg hj, if_neg hj, Nat.testBit_and, show (256 : Nat) = 2 ^ 8 from rfl, Nat.testBit_div_two_pow]
    congr 2
    omega

def mask (m : Nat) : Nat → Nat
  | 0 => 0
  | n + 1 => m + 256 * mask m n

def s1 (n x : Nat) : Nat := ((x / 2) &&& mask 0x55 n) + (x &&& mask 0x55 n)
def s2 (n x : Nat) : Nat := ((x / 4) &&& mask 0x33 n) + (x &&& mask 0x33 n)
def s3 (n x : Nat) : Nat := (x / 16 + x) &&& mask 0x0f n
def f1 (b : Nat) : Nat := ((b / 2) &&& 0x55) + (b &&& 0x55)
def f2 (b : Nat) : Nat := ((b / 4) &&& 0x33) + (b &&& 0x33)
def f3 (b : Nat) : Nat := (b / 16 + b) &&& 0x0f

theorem cross1 : ∀ y : Fin 512, (y.val / 2) &&& 0x55 = (y.val % 256 / 2) &&& 0x55 := by decide +kernel
theorem cross2 : ∀ y : Fin 1024, (y.val / 4) &&& 0x33 = (y.val % 256 / 4) &&& 0x33 := by decide +kernel

theorem s1_step (n x : Nat) : s1 (n + 1) x = f1 (x % 256) + 256 * s1 n (x / 256) := by
  unfold s1 f1
  rw [show mask 0x55 (n + 1) = 0x55 + 256 * mask 0x55 n from rfl, land_split _ _ _ (by decide), land_split _ _ _ (by decide)]
  have h := cross1 ⟨x % 512, Nat.mod_lt _ (by decide)⟩
  dsimp only at h
  rw [show x / 2 % 256 = x % 512 / 2 by omega, h, show x % 512 % 256 = x % 256 by omega, show x / 2 / 256 = x / 256 / 2 by omega]
  omega
theorem s2_step (n x : Nat) : s2 (n + 1) x = f2 (x % 256) + 256 * s2 n (x / 256) := by
  unfold s2 f2
  rw [show mask 0x33 (n + 1) = 0x33 + 256 * mask 0x33 n from rfl, land_split _ _ _ (by decide), land_split _ _ _ (by decide)]
  have h := cross2 ⟨x % 1024, Nat.mod_lt _ (by decide)⟩
  dsimp only at h
  rw [show x / 4 % 256 = x % 1024 / 4 by omega, h, show x % 1024 % 256 = x % 256 by omega, show x / 4 / 256 = x / 256 / 4 by omega]
  omega
theorem cross3 : ∀ y : Fin 69, ∀ t : Fin 5, (y.val / 16 + y.val + 16 * t.val) &&& 0x0f = (y.val / 16 + y.val) &&& 0x0f := by decide +kernel
theorem s3_step (n x : Nat) (h1 : x % 256 < 69) (h2 : x / 256 % 16 < 5) : s3 (n + 1) x = f3 (x % 256) + 256 * s3 n (x / 256) := by
  unfold s3 f3
  rw [show mask 0x0f (n + 1) = 0x0f + 256 * mask 0x0f n from rfl, land_split _ _ _ (by decide)]
  have h := cross3 ⟨x % 256, h1⟩ ⟨x / 256 % 16, h2⟩
  dsimp only at h
  rw [show (x / 16 + x) % 256 = x % 256 / 16 + x % 256 + 16 * (x / 256 % 16) by omega, h, show (x / 16 + x) / 256 = x / 256 / 16 + x / 256 by omega]

theorem f1_lt : ∀ b : Fin 256, f1 b.val < 256 := by decide +kernel
theorem f2f1_lt : ∀ b : Fin 256, f2 (f1 b.val) < 69 ∧ f2 (f1 b.val) % 16 < 5 := by decide +kernel
/-- How many bits of a byte are set. -/
def pop (b : Nat) : Nat := f3 (f2 (f1 b))
theorem pop_le : ∀ b : Fin 256, pop b.val ≤ 8 := by decide +kernel

/-- The three steps together: the bytes' counts side by side. -/
def cnts : Nat → Nat → Nat
  | 0, _ => 0
  | n + 1, x => pop (x % 256) + 256 * cnts n (x / 256)

theorem s123 : ∀ (n x : Nat), s3 n (s2 n (s1 n x)) = cnts n x ∧ (0 < n → s2 n (s1 n x) % 16 < 5)
  | 0, x => by simp [s3, s2, s1, mask, cnts]
  | n + 1, x => by
    obtain ⟨ih, ihn⟩ := s123 n (x / 256)
    have hb : x % 256 < 256 := Nat.mod_lt _ (by decide)
    have a1 := f1_lt ⟨x % 256, hb⟩
    have a2 := f2f1_lt ⟨x % 256, hb⟩
    dsimp only at a1 a2
    have e2 : s2 (n + 1) (s1 (n + 1) x) = f2 (f1 (x % 256)) + 256 * s2 n (s1 n (x / 256)) := by
      rw [s2_step, s1_step, show (f1 (x % 256) + 256 * s1 n (x / 256)) % 256 = f1 (x % 256) by omega, show (f1 (x % 256) + 256 * s1 n (x / 256)) / 256 = s1 n (x / 256) by omega]
    refine ⟨?_, fun _ => by rw [e2]; omega⟩
    have hz : s2 n (s1 n (x / 256)) % 16 < 5 := by
      rcases Nat.eq_zero_or_pos n with h0 | h0
      · subst h0; simp [s2, s1, mask]
      · exact ihn h0
    rw [e2, s3_step _ _ (by omega) (by rw [show (f2 (f1 (x % 256)) + 256 * s2 n (s1 n (x / 256))) / 256 = s2 n (s1 n (x / 256)) by omega]; exact hz),
      show (f2 (f1 (x % 256)) + 256 * s2 n (s1 n (x / 256))) % 256 = f2 (f1 (x % 256)) by omega, show (f2 (f1 (x % 256)) + 256 * s2 n (s1 n (x / 256))) / 256 = s2 n (s1 n (x / 256)) by omega, ih]
    rfl

/-- How many of the first n say yes. -/
def cnt (p : Nat → Bool) : Nat → Nat
  | 0 => 0
  | n + 1 => cnt p n + (p n).toNat
theorem cnt_le (p : Nat → Bool) : ∀ n, cnt p n ≤ n
  | 0 => Nat.le_refl _
  | n + 1 => by have := cnt_le p n; have : (p n).toNat ≤ 1 := by cases p n <;> decide
                unfold cnt; omega
theorem cnt_congr {p q : Nat → Bool} : ∀ n, (∀ k, k < n → p k = q k) → cnt p n = cnt q n
  | 0, _ => rfl
  | n + 1, h => by unfold cnt; rw [cnt_congr n (fun k hk => h k (by omega)), h n (by omega)]
theorem cnt_add (p : Nat → Bool) (m : Nat) : ∀ n, cnt p (m + n) = cnt p m + cnt (fun k => p (m + k)) n
  | 0 => by simp [cnt]
  | n + 1 => by rw [← Nat.add_assoc]; show cnt p (m + n) + (p (m + n)).toNat = cnt p m + (cnt (fun k => p (m + k)) n + (p (m + n)).toNat); rw [cnt_add p m n]; omega
theorem pop_cnt : ∀ b : Fin 256, pop b.val = cnt b.val.testBit 8 := by decide +kernel

/-- The sum of the counts of n bytes. -/
def sums : Nat → Nat → Nat
  | 0, _ => 0
  | n + 1, x => pop (x % 256) + sums n (x / 256)
theorem sums_cnt : ∀ (n x : Nat), sums n x = cnt x.testBit (8 * n)
  | 0, x => rfl
  | n + 1, x => by
    unfold sums
    rw [sums_cnt n, pop_cnt ⟨x % 256, Nat.mod_lt _ (by decide)⟩, show 8 * (n + 1) = 8 + 8 * n by omega, cnt_add]
    dsimp only
    congr 1
    · apply cnt_congr
      intro k hk
      rw [show (256 : Nat) = 2 ^ 8 from rfl, Nat.testBit_mod_two_pow]
      simp [hk]
    · apply cnt_congr
      intro k _
      rw [show (256 : Nat) = 2 ^ 8 from rfl, Nat.testBit_div_two_pow, Nat.add_comm]

/-- The last three steps: the bytes' counts summed up in the lowest byte. -/
def fold3 (z : Nat) : Nat := let u := z + z / 256; let v := u + u / 65536; (v + v / 4294967296) % 128
theorem d1 {a b : Nat} (h : a < 256) : (a + 256 * b) / 256 = b := by omega
theorem m1 (a b : Nat) : (a + 256 * b) % 128 = a % 128 := by omega
theorem a1 (a b c d : Nat) : (a + 256 * b) + (c + 256 * d) = (a + c) + 256 * (b + d) := by omega
theorem a0 (a b c : Nat) : (a + 256 * b) + c = (a + c) + 256 * b := by omega
theorem fold3_eq (c0 c1 c2 c3 c4 c5 c6 c7 : Nat) (h0 : c0 ≤ 8) (h1 : c1 ≤ 8) (h2 : c2 ≤ 8) (h3 : c3 ≤ 8) (h4 : c4 ≤ 8) (h5 : c5 ≤ 8) (h6 : c6 ≤ 8) (h7 : c7 ≤ 8) :
    fold3 (c0 + 256 * (c1 + 256 * (c2 + 256 * (c3 + 256 * (c4 + 256 * (c5 + 256 * (c6 + 256 * c7))))))) = c0 + c1 + (c2 + c3) + (c4 + c5 + (c6 + c7)) := by
  unfold fold3
  dsimp only
  rw [d1 (show c0 < 256 by omega)]
  have e2 : c0 + 256 * (c1 + 256 * (c2 + 256 * (c3 + 256 * (c4 + 256 * (c5 + 256 * (c6 + 256 * c7)))))) + (c1 + 256 * (c2 + 256 * (c3 + 256 * (c4 + 256 * (c5 + 256 * (c6 + 256 * c7)))))) =
      (c0 + c1) + 256 * ((c1 + c2) + 256 * ((c2 + c3) + 256 * ((c3 + c4) + 256 * ((c4 + c5) + 256 * ((c5 + c6) + 256 * ((c6 + c7) + 256 * c7)))))) := by
    simp only [Nat.mul_add]; clear h0 h1 h2 h3 h4 h5 h6 h7; omega
  rw [e2, show (65536 : Nat) = 256 * 256 from rfl, ← Nat.div_div_eq_div_mul, d1 (show c0 + c1 < 256 by omega), d1 (show c1 + c2 < 256 by omega)]
  have e3 : (c0 + c1) + 256 * ((c1 + c2) + 256 * ((c2 + c3) + 256 * ((c3 + c4) + 256 * ((c4 + c5) + 256 * ((c5 + c6) + 256 * ((c6 + c7) + 256 * c7)))))) + ((c2 + c3) + 256 * ((c3 + c4) + 256 * ((c4 + c5) + 256 * ((c5 + c6) + 256 * ((c6 + c7) + 256 * c7))))) =
      (c0 + c1 + (c2 + c3)) + 256 * ((c1 + c2 + (c3 + c4)) + 256 * ((c2 + c3 + (c4 + c5)) + 256 * ((c3 + c4 + (c5 + c6)) + 256 * ((c4 + c5 + (c6 + c7)) + 256 * ((c5 + c6 + c7) + 256 * ((c6 + c7) + 256 * c7)))))) := by
    simp only [Nat.mul_add]; clear h0 h1 h2 h3 h4 h5 h6 h7; omega
  rw [e3, show (4294967296 : Nat) = 256 * 256 * 256 * 256 from rfl, ← Nat.div_div_eq_div_mul, ← Nat.div_div_eq_div_mul, ← Nat.div_div_eq_div_mul,
    d1 (show c0 + c1 + (c2 + c3) < 256 by omega), d1 (show c1 + c2 + (c3 + c4) < 256 by omega), d1 (show c2 + c3 + (c4 + c5) < 256 by omega), d1 (show c3 + c4 + (c5 + c6) < 256 by omega)]
  rw [a1, m1]
  omega
theorem fold3_cnts (x : Nat) : fold3 (cnts 8 x) = sums 8 x := by
  have h : ∀ y, pop (y % 256) ≤ 8 := fun y => pop_le ⟨y % 256, Nat.mod_lt _ (by decide)⟩
  have e := fold3_eq _ _ _ _ _ _ _ _ (h x) (h (x / 256)) (h (x / 256 / 256)) (h (x / 256 / 256 / 256)) (h (x / 256 / 256 / 256 / 256)) (h (x / 256 / 256 / 256 / 256 / 256)) (h (x / 256 / 256 / 256 / 256 / 256 / 256)) (h (x / 256 / 256 / 256 / 256 / 256 / 256 / 256))
  simp only [cnts, sums, Nat.mul_zero, Nat.add_zero]
  rw [e]
  simp only [Nat.add_assoc]

end Go.Proofs.YtchfipjclbpomaaDoor
namespace Go.Proofs.YtchfipjclbpomaaDoor
open Go.RowKit
set_option linter.unusedSimpArgs false
set_option linter.unusedVariables false
set_option maxRecDepth 100000

theorem and64 (a M : Nat) (ha : a < 18446744073709551616) (hM : M < 18446744073709551616) : bits .and .u64 (a : Int) (M : Int) = ((a &&& M : Nat) : Int) := u64_and_nat a M ha hM
theorem wrapN (a : Nat) (h : a < 18446744073709551616) : IntKind.u64.wrap (a : Int) = (a : Int) := by rw [IntKind.wrap_u64]; omega
theorem i64_and127 (a : Nat) (ha : a < 9223372036854775808) : bits .and .i64 (a : Int) 127 = ((a % 128 : Nat) : Int) := by
  have hx : a &&& 127 = a % 128 := Nat.and_two_pow_sub_one_eq_mod a 7
  show IntKind.i64.wrap ((BitVec.ofInt 64 (a : Int) &&& BitVec.ofInt 64 (127 : Int)).toNat : Int) = _
  have e1 : (BitVec.ofInt 64 (a : Int)).toNat = a := by rw [BitVec.ofInt_natCast, BitVec.toNat_ofNat]; exact Nat.mod_eq_of_lt (by omega)
  have e2 : (BitVec.ofInt 64 (127 : Int)).toNat = 127 := by decide
  rw [BitVec.toNat_and, e1, e2, hx, IntKind.wrap_i64]
  omega
theorem mask55 : mask 0x55 8 = 6148914691236517205 := by decide
theorem mask33 : mask 0x33 8 = 3689348814741910323 := by decide
theorem mask0f : mask 0x0f 8 = 1085102592571150095 := by decide
theorem st1 (x : Nat) (hx : x < 18446744073709551616) : IntKind.u64.wrap (bits .and .u64 ((x : Int) / 2) 6148914691236517205 + bits .and .u64 (x : Int) 6148914691236517205) = ((s1 8 x : Nat) : Int) ∧ s1 8 x < 18446744073709551616 := by
  have e : ((x : Int) / 2) = ((x / 2 : Nat) : Int) := by omega
  have h1 : (x / 2) &&& 6148914691236517205 ≤ 6148914691236517205 := Nat.and_le_right
  have h2 : x &&& 6148914691236517205 ≤ 6148914691236517205 := Nat.and_le_right
  have b1 := and64 (x / 2) 6148914691236517205 (by omega) (by decide)
  have b2 := and64 x 6148914691236517205 hx (by decide)
  rw [show (((6148914691236517205 : Nat)) : Int) = 6148914691236517205 from rfl] at b1 b2
  unfold s1
  rw [mask55, e, b1, b2, ← Int.natCast_add]
  exact ⟨wrapN _ (by omega), by omega⟩
theorem st2 (x : Nat) (hx : x < 18446744073709551616) : IntKind.u64.wrap (bits .and .u64 ((x : Int) / 4) 3689348814741910323 + bits .and .u64 (x : Int) 3689348814741910323) = ((s2 8 x : Nat) : Int) ∧ s2 8 x ≤ 7378697629483820646 := by
  have e : ((x : Int) / 4) = ((x / 4 : Nat) : Int) := by omega
  have h1 : (x / 4) &&& 3689348814741910323 ≤ 3689348814741910323 := Nat.and_le_right
  have h2 : x &&& 3689348814741910323 ≤ 3689348814741910323 := Nat.and_le_right
  have b1 := and64 (x / 4) 3689348814741910323 (by omega) (by decide)
  have b2 := and64 x 3689348814741910323 hx (by decide)
  rw [show (((3689348814741910323 : Nat)) : Int) = 3689348814741910323 from rfl] at b1 b2
  unfold s2
  rw [mask33, e, b1, b2, ← Int.natCast_add]
  exact ⟨wrapN _ (by omega), by omega⟩
theorem st3 (x : Nat) (hx : x ≤ 7378697629483820646) : bits .and .u64 (IntKind.u64.wrap ((x : Int) / 16 + (x : Int))) 1085102592571150095 = ((s3 8 x : Nat) : Int) ∧ s3 8 x ≤ 1085102592571150095 := by
  have e : ((x : Int) / 16 + (x : Int)) = ((x / 16 + x : Nat) : Int) := by omega
  have b1 := and64 (x / 16 + x) 1085102592571150095 (by omega) (by decide)
  rw [show (((1085102592571150095 : Nat)) : Int) = 1085102592571150095 from rfl] at b1
  unfold s3
  rw [mask0f, e, wrapN _ (by omega), b1]
  exact ⟨rfl, Nat.and_le_right⟩

set_option maxHeartbeats 1000000 in
theorem ones_go (x : Nat) (w : World) (hx : x < 18446744073709551616) :
    Calls Tryd.prog 33 #[.int .u64 (x : Int)] w fun e w' => e = .returned (.int .i64 ((cnt x.testBit 64 : Nat) : Int)) ∧ w = w' := by
  go_enter Tryd.func33, Tryd.ntmps33
  go_wp2
  go_light
  go_ret
  refine ⟨ret_i ?_, rfl⟩
  obtain ⟨e1, l1⟩ := st1 x hx
  obtain ⟨e2, l2⟩ := st2 (s1 8 x) l1
  obtain ⟨e3, l3⟩ := st3 (s2 8 (s1 8 x)) l2
  have ef : fold3 (s3 8 (s2 8 (s1 8 x))) = cnt x.testBit 64 := by rw [(s123 8 x).1, fold3_cnts, sums_cnt]
  rw [e1, e2, e3]
  generalize s3 8 (s2 8 (s1 8 x)) = z at *
  rw [← ef]
  unfold fold3
  dsimp only
  clear e1 e2 e3 l1 l2 ef
  have q1 : ((z : Int) + (z : Int) / 256) = ((z + z / 256 : Nat) : Int) := by omega
  rw [q1, wrapN _ (by omega)]
  generalize hu : z + z / 256 = u
  have lu : u ≤ 2170205185142300190 := by omega
  have q2 : ((u : Int) + (u : Int) / 65536) = ((u + u / 65536 : Nat) : Int) := by omega
  rw [q2, wrapN _ (by omega)]
  generalize hv : u + u / 65536 = v
  have lv : v ≤ 2180205185142300190 := by omega
  have q3 : ((v : Int) + (v : Int) / 4294967296) = ((v + v / 4294967296 : Nat) : Int) := by omega
  rw [q3, wrapN _ (by omega), show wrap64 ((v + v / 4294967296 : Nat) : Int) = ((v + v / 4294967296 : Nat) : Int) by unfold wrap64; omega]
  exact i64_and127 _ (by omega)

theorem cnt_word (p : Nat → Bool) (i : Nat) : cnt (word p i).testBit 64 = cnt (fun k => p (64 * i + k)) 64 :=
  cnt_congr 64 fun k hk => by rw [testBit_word]; simp [hk]
theorem cnt_words (p : Nat → Bool) : cnt (word p 0).testBit 64 + cnt (word p 1).testBit 64 + cnt (word p 2).testBit 64 + cnt (word p 3).testBit 64 = cnt p 256 := by
  rw [cnt_word, cnt_word, cnt_word, cnt_word, show 256 = 64 + (64 + (64 + 64)) from rfl, cnt_add, cnt_add, cnt_add]
  simp only [Nat.mul_zero, Nat.zero_add, ← Nat.add_assoc, Nat.mul_one, show 64 * 2 = 64 + 64 from rfl, show 64 * 3 = 64 + 64 + 64 from rfl]

set_option maxHeartbeats 1000000 in
theorem count_go (p : Nat → Bool) (w : World) :
    Calls Tryd.prog 20 #[.agg #[.int .u64 ((word (p) 0 : Nat) : Int), .int .u64 ((word (p) 1 : Nat) : Int), .int .u64 ((word (p) 2 : Nat) : Int), .int .u64 ((word (p) 3 : Nat) : Int)]] w fun e w' => e = .returned (.int .i64 ((cnt p 256 : Nat) : Int)) ∧ Below w.heap.size w w' := by
  go_enter Tryd.func20, Tryd.ntmps20
  go_wp2
  refine wp_loop_rounds 5 ?_
  rw [rounds_succ]
  go_wp2_with (go_at_call 33; refine (ones_go _ _ (word_lt _ _)).mono ?_; rintro e w2 ⟨rfl, rfl⟩)
  rw [rounds_succ]
  go_wp2_with (go_at_call 33; refine (ones_go _ _ (word_lt _ _)).mono ?_; rintro e w2 ⟨rfl, rfl⟩)
  rw [rounds_succ]
  go_wp2_with (go_at_call 33; refine (ones_go _ _ (word_lt _ _)).mono ?_; rintro e w2 ⟨rfl, rfl⟩)
  rw [rounds_succ]
  go_wp2_with (go_at_call 33; refine (ones_go _ _ (word_lt _ _)).mono ?_; rintro e w2 ⟨rfl, rfl⟩)
  rw [rounds_succ]
  go_wp2
  go_light
  go_ret
  refine ⟨ret_i ?_, (Below.refl _ _).alloc (Nat.le_refl _) _⟩
  have e := cnt_words p
  have l0 := cnt_le (word p 0).testBit 64
  have l1 := cnt_le (word p 1).testBit 64
  have l2 := cnt_le (word p 2).testBit 64
  have l3 := cnt_le (word p 3).testBit 64
  rw [← e]
  unfold wrap64
  omega

end Go.Proofs.YtchfipjclbpomaaDoor
namespace Go.Proofs.YtchfipjclbpomaaDoor
open Go.ChangeShapes Go.WideShapes Go.ChangeAt Go.RowKit
set_option linter.unusedSimpArgs false
set_option linter.unusedVariables false
set_option maxRecDepth 100000

theorem own_knob : ownKnob Tryd.prog.godebug = none := by kernel_rfl
theorem laid_out : laidOutB Tryd.prog = true := by kernel_rfl
theorem cellsByte : Tryd.prog.cellsOf 5 = 1 := by kernel_rfl
theorem bytesByte : Tryd.prog.bytesOf 5 = 1 := by kernel_rfl

theorem addr_add (b o j : Nat) : (⟨b, o, none⟩ : Addr).add j = ⟨b, o + j, none⟩ := by unfold Addr.add; split <;> simp_all

theorem u8_of_wf {n : Int} (h : (Lit.int .u8 n).wf = true) : 0 ≤ n ∧ n < 256 := by
  have hh : (decide (IntKind.min .u8 ≤ n) && decide (n ≤ IntKind.max .u8)) = true := h
  simp only [Bool.and_eq_true, decide_eq_true_eq] at hh
  obtain ⟨h1, h2⟩ := hh
  have e1 : IntKind.min .u8 = 0 := by decide
  have e2 : IntKind.max .u8 = 255 := by decide
  rw [e1] at h1
  rw [e2] at h2
  omega

/-- A slice of bytes that came in. -/
theorem bytes_came {H : Type} {enc : TypeId × Value → H} {W : World} {A : Option Addr} {len cap : Nat} {d : DataW H} {p : List MemPlace} {ts : List TypeId} {ds : List (DataW H)} {j : Nat}
    (h : DataW.Trod enc Tryd.prog W 0 (fun _ => true) true 37 (.slice A len cap) d p)
    (hsz : (DataW.weightsEach Tryd.prog ts ds).all (· ≤ reachBytes) = true) (ht : ts[j]? = some 37) (hd : ds[j]? = some d) :
    ∃ bs : List Nat, bs.length = len ∧ BytesAt W W.heap.size A bs ∧ len ≤ cap := by
  obtain ⟨fuel, hf⟩ := h
  rcases open_ints Tryd.underlying37 Tryd.underlying5 cellsByte hf with ⟨hcs, _⟩ | ⟨x, l, c, zs, hcs, _, hl, hm, hz, hx, hcell, hwz⟩
  · simp [Value.cells] at hcs
    obtain ⟨rfl, rfl, rfl⟩ := hcs
    exact ⟨[], rfl, ⟨by simp, by simp, by simp⟩, Nat.le_refl _⟩
  · simp [Value.cells] at hcs
    obtain ⟨rfl, rfl, rfl⟩ := hcs
    simp only [if_true] at hz
    have hdx : d = .slice (lits .u8 (zs.take len)) (lits .u8 (zs.drop len)) := (Prod.mk.inj hx).1
    subst hdx
    have hs := sized_slice hsz ht hd Tryd.underlying37
    rw [bytesByte] at hs
    simp [lits] at hs
    have hr : reachBytes = 140737488351232 := by decide
    rw [hr] at hs
    have hlen : len ≤ 140737488351232 := by omega
    refine ⟨(zs.take len).map Int.toNat, by simp; omega, ⟨?_, by simp; omega, ?_⟩, hl⟩
    · intro y hy
      obtain ⟨z, hz1, rfl⟩ := List.mem_map.1 hy
      have hw := hwz z (List.mem_of_mem_take hz1)
      have := u8_of_wf hw
      omega
    · intro hpos
      have hpos' : 0 < len := by simp at hpos; omega
      obtain ⟨b, off, spot⟩ := x
      have h0 := hcell 0 (by omega)
      have hspot : spot = none := by simpa [Addr.add] using World.cell?_spot h0
      subst hspot
      refine ⟨b, off, rfl, by have := World.block_lt_of_cell? W _ h0; simpa [Addr.add] using this, ?_⟩
      intro i hi
      have hi' : i < len := by simp at hi; omega
      have hci := hcell i (by omega)
      rw [addr_add] at hci
      rw [hci]
      have hzi : i < zs.length := by omega
      have hw := hwz zs[i] (List.getElem_mem hzi)
      have h0' : 0 ≤ zs[i] := (u8_of_wf hw).1
      congr 2
      unfold byteAt
      simp [List.getD_eq_getElem?_getD, hi', hzi]
      omega


end Go.Proofs.YtchfipjclbpomaaDoor
namespace Go.Proofs.YtchfipjclbpomaaDoor
open Go.ChangeShapes Go.WideShapes Go.ChangeAt Go.RowKit
set_option linter.unusedSimpArgs false
set_option linter.unusedVariables false
set_option maxRecDepth 100000

theorem u64_of_wf {n : Int} (h : (Lit.int .u64 n).wf = true) : 0 ≤ n ∧ n < 18446744073709551616 := by
  have hh : (decide (IntKind.min .u64 ≤ n) && decide (n ≤ IntKind.max .u64)) = true := h
  simp only [Bool.and_eq_true, decide_eq_true_eq] at hh
  obtain ⟨h1, h2⟩ := hh
  have e1 : IntKind.min .u64 = 0 := by decide
  have e2 : IntKind.max .u64 = 18446744073709551615 := by decide
  rw [e1] at h1
  rw [e2] at h2
  omega
theorem cellsWord : Tryd.prog.cellsOf 23 = 1 := by kernel_rfl
theorem cellsSet : Tryd.prog.cellsOf 25 = 4 := by kernel_rfl
theorem cellsInt : Tryd.prog.cellsOf 3 = 1 := by kernel_rfl

section
variable {H : Type} {enc : TypeId × Value → H} {W : World} {fuel : Nat} {cs : List Value} {y : DataW H × List MemPlace}
end

end Go.Proofs.YtchfipjclbpomaaDoor
namespace Go.Proofs.YtchfipjclbpomaaDoor
open Go.ChangeShapes Go.WideShapes Go.ChangeAt Go.RowKit
set_option linter.unusedSimpArgs false
set_option linter.unusedVariables false
set_option maxRecDepth 100000

theorem cellsNode : Tryd.prog.cellsOf 28 = 8 := by kernel_rfl
theorem cellsNodes : Tryd.prog.cellsOf 26 = 1 := by kernel_rfl
theorem cellsTKind : Tryd.prog.cellsOf 22 = 1 := by kernel_rfl
theorem set_words {n0 n1 n2 n3 : Nat} (h0 : n0 < 18446744073709551616) (h1 : n1 < 18446744073709551616) (h2 : n2 < 18446744073709551616) (h3 : n3 < 18446744073709551616) :
    ∃ s : Nat, word s.testBit 0 = n0 ∧ word s.testBit 1 = n1 ∧ word s.testBit 2 = n2 ∧ word s.testBit 3 = n3 := by
  obtain ⟨k0, k1, k2, k3⟩ := word_bitsOf h0 h1 h2 h3
  have h : ∀ i, i < 4 → word (ofBits (bitsOf n0 n1 n2 n3) 256).testBit i = word (bitsOf n0 n1 n2 n3) i := fun i hi => word_congr (fun j hj => by rw [testBit_ofBits]; simp; omega)
  exact ⟨ofBits (bitsOf n0 n1 n2 n3) 256, by rw [h 0 (by decide), k0], by rw [h 1 (by decide), k1], by rw [h 2 (by decide), k2], by rw [h 3 (by decide), k3]⟩
theorem bulkAll_mem {H : Type} : ∀ {ds : List (DataW H)} {d : DataW H}, d ∈ ds → Rows.uptoBulk d ≤ Rows.uptoBulkAll ds
  | e :: r, d, h => by
    rcases List.mem_cons.1 h with rfl | h
    · simp [Rows.uptoBulkAll]
    · have := bulkAll_mem h
      simp [Rows.uptoBulkAll]
      omega

section
variable {H : Type} {enc : TypeId × Value → H} {W : World}
/-- What is known of trees that came in by a fuel: a slice of them. -/
def CameF (enc : TypeId × Value → H) (W : World) (fuel : Nat) : Prop := ∀ (A : Option Addr) (len cap : Nat) (y : DataW H × List MemPlace),
  DataW.trod enc Tryd.prog W 0 (fun _ => true) true fuel 26 [.slice A len cap] = some y → ∃ F : Trees, F.len = len ∧ TreesAt W (fun b => b < W.heap.size) F A ∧ len ≤ cap ∧ F.size ≤ Rows.uptoBulk y.1
theorem node_came {fuel : Nat} {cs : List Value} {y : DataW H × List MemPlace} (ih : ∀ n, n < fuel → CameF enc W n) (h : DataW.trod enc Tryd.prog W 0 (fun _ => true) true fuel 28 cs = some y) :
    ∃ (x : Nd) (B : Option Addr) (cap : Nat), cs = ndCell x B cap ∧ x.kids.len ≤ cap ∧ TreesAt W (fun b => b < W.heap.size) x.kids B ∧ x.size ≤ Rows.uptoBulk y.1 := by
  obtain ⟨xs, n, hfn, hy, hl, hxl, hf⟩ := DataW.trod_struct Tryd.underlying28 h
  rw [cellsNode] at hl
  obtain ⟨v0, v1, v2, v3, v4, v5, v6, v7, rfl⟩ : ∃ v0 v1 v2 v3 v4 v5 v6 v7, cs = [v0, v1, v2, v3, v4, v5, v6, v7] := by
    match cs, hl with
    | [a, b, c, d, e, f, g, h], _ => exact ⟨a, b, c, d, e, f, g, h, rfl⟩
  have g0 : DataW.trod enc Tryd.prog W 0 (fun _ => true) true n 22 (([v0, v1, v2, v3, v4, v5, v6, v7].drop 0).take (Tryd.prog.cellsOf 22)) = xs[0]? := hf 0 _ rfl
  have g1 : DataW.trod enc Tryd.prog W 0 (fun _ => true) true n 25 (([v0, v1, v2, v3, v4, v5, v6, v7].drop 1).take (Tryd.prog.cellsOf 25)) = xs[1]? := hf 1 _ rfl
  have g2 : DataW.trod enc Tryd.prog W 0 (fun _ => true) true n 26 (([v0, v1, v2, v3, v4, v5, v6, v7].drop 5).take (Tryd.prog.cellsOf 26)) = xs[2]? := hf 2 _ rfl
  have g3 : DataW.trod enc Tryd.prog W 0 (fun _ => true) true n 3 (([v0, v1, v2, v3, v4, v5, v6, v7].drop 6).take (Tryd.prog.cellsOf 3)) = xs[3]? := hf 3 _ rfl
  have g4 : DataW.trod enc Tryd.prog W 0 (fun _ => true) true n 3 (([v0, v1, v2, v3, v4, v5, v6, v7].drop 7).take (Tryd.prog.cellsOf 3)) = xs[4]? := hf 4 _ rfl
  have hs : ∀ i, i < 5 → ∃ z, xs[i]? = some z := fun i hi => ⟨_, List.getElem?_eq_getElem (by rw [hxl]; exact hi)⟩
  obtain ⟨z0, e0⟩ := hs 0 (by decide)
  obtain ⟨z1, e1⟩ := hs 1 (by decide)
  obtain ⟨z2, e2⟩ := hs 2 (by decide)
  obtain ⟨z3, e3⟩ := hs 3 (by decide)
  obtain ⟨z4, e4⟩ := hs 4 (by decide)
  rw [e0] at g0
  rw [e1] at g1
  rw [e2] at g2
  rw [e3] at g3
  rw [e4] at g4
  rw [cellsTKind] at g0
  rw [cellsInt] at g3 g4
  rw [cellsNodes] at g2
  rw [cellsSet] at g1
  obtain ⟨a0, q0, _, _⟩ := DataW.trod_int Tryd.underlying22 g0
  obtain ⟨a3, q3, _, _⟩ := DataW.trod_int Tryd.underlying3 g3
  obtain ⟨a4, q4, _, _⟩ := DataW.trod_int Tryd.underlying3 g4
  obtain ⟨us, m, _, _, _, hul, hu⟩ := DataW.trod_array Tryd.underlying25 g1
  have ht : ∀ i, i < 4 → ∃ z, us[i]? = some z := fun i hi => ⟨_, List.getElem?_eq_getElem (by rw [hul]; exact hi)⟩
  have u0 := hu 0 (by decide)
  have u1 := hu 1 (by decide)
  have u2 := hu 2 (by decide)
  have u3 := hu 3 (by decide)
  obtain ⟨t0, f0⟩ := ht 0 (by decide)
  obtain ⟨t1, f1⟩ := ht 1 (by decide)
  obtain ⟨t2, f2⟩ := ht 2 (by decide)
  obtain ⟨t3, f3⟩ := ht 3 (by decide)
  rw [f0, cellsWord] at u0
  rw [f1, cellsWord] at u1
  rw [f2, cellsWord] at u2
  rw [f3, cellsWord] at u3
  obtain ⟨b0, r0, _, w0⟩ := DataW.trod_int Tryd.underlying23 u0
  obtain ⟨b1, r1, _, w1⟩ := DataW.trod_int Tryd.underlying23 u1
  obtain ⟨b2, r2, _, w2⟩ := DataW.trod_int Tryd.underlying23 u2
  obtain ⟨b3, r3, _, w3⟩ := DataW.trod_int Tryd.underlying23 u3
  have hv5 : ∃ A len cap, v5 = .slice A len cap := by
    rcases DataW.trod_slice Tryd.underlying26 g2 with ⟨hcs, _⟩ | ⟨a, l, c, _, _, _, _, hcs, _⟩
    · simp at hcs; exact ⟨_, _, _, hcs⟩
    · simp at hcs; exact ⟨_, _, _, hcs⟩
  obtain ⟨A, len, cap, rfl⟩ := hv5
  obtain ⟨F, hF1, hF2, hF3, hF4⟩ := ih n (by omega) A len cap z2 (by simpa using g2)
  simp at q0 q3 q4 r0 r1 r2 r3
  subst q0 q3 q4 r0 r1 r2 r3
  obtain ⟨s0, s0'⟩ := u64_of_wf w0
  obtain ⟨s1, s1'⟩ := u64_of_wf w1
  obtain ⟨s2, s2'⟩ := u64_of_wf w2
  obtain ⟨s3, s3'⟩ := u64_of_wf w3
  obtain ⟨n0, rfl⟩ := Int.eq_ofNat_of_zero_le s0
  obtain ⟨n1, rfl⟩ := Int.eq_ofNat_of_zero_le s1
  obtain ⟨n2, rfl⟩ := Int.eq_ofNat_of_zero_le s2
  obtain ⟨n3, rfl⟩ := Int.eq_ofNat_of_zero_le s3
  obtain ⟨s, k0, k1, k2, k3⟩ := set_words (n0 := n0) (n1 := n1) (n2 := n2) (n3 := n3) (by omega) (by omega) (by omega) (by omega)
  have hb : Rows.uptoBulk z2.1 ≤ Rows.uptoBulkAll (xs.map (·.1)) := bulkAll_mem (List.mem_map.2 ⟨z2, List.mem_of_getElem? e2, rfl⟩)
  refine ⟨⟨a0, s, F, a3, a4⟩, A, cap, by unfold ndCell; simp only; rw [k0, k1, k2, k3, hF1], by simpa only [hF1] using hF3, hF2, ?_⟩
  rw [hy]
  unfold Nd.size
  simp only [Rows.uptoBulk]
  omega
theorem bulk_sum {H : Type} : ∀ (es : List (DataW H)) (l : List Nat), es.length = l.length → (∀ (i : Nat) (d : DataW H) (k : Nat), es[i]? = some d → l[i]? = some k → k ≤ Rows.uptoBulk d) → l.sum ≤ Rows.uptoBulkAll es
  | [], [], _, _ => by simp
  | [], _ :: _, h, _ => by simp at h
  | _ :: _, [], h, _ => by simp at h
  | d :: es, k :: l, h, hk => by
    have h1 := bulk_sum es l (by simpa using h) (fun i d k h1 h2 => hk (i + 1) d k (by simpa using h1) (by simpa using h2))
    have h2 := hk 0 d k rfl rfl
    simp only [Rows.uptoBulkAll, List.sum_cons]
    omega
theorem size_sum (l : List Nd) : (Trees.of l).size = (l.map Nd.size).sum := by
  induction l with
  | nil => rfl
  | cons x l ih => rw [Trees.of, Trees.size, ih, List.map_cons, List.sum_cons]; rfl
theorem slice_came (fuel : Nat) (ih : ∀ n, n < fuel → CameF enc W n) : CameF enc W fuel := by
  intro A len cap y h
  rcases DataW.trod_slice Tryd.underlying26 h with ⟨hcs, hd⟩ | ⟨a, l, c, elems, rest, n, hfn, hcs, hd, hb, hlc, hm, hel, hc, _, _⟩
  · simp at hcs
    obtain ⟨rfl, rfl, rfl⟩ := hcs
    exact ⟨.nil, rfl, trivial, Nat.le_refl _, Nat.zero_le _⟩
  · simp at hcs
    obtain ⟨rfl, rfl, rfl⟩ := hcs
    rw [cellsNode] at hc
    have hx : ∀ i, i < len → ∃ (x : Nd) (B : Option Addr) (capx : Nat) (cs : List Value) (e : DataW H × List MemPlace), elems[i]? = some e ∧ W.cells? 0 (a.add (i * 8)) 8 = some cs ∧ cs = ndCell x B capx ∧ x.kids.len ≤ capx ∧ TreesAt W (fun b => b < W.heap.size) x.kids B ∧ x.size ≤ Rows.uptoBulk e.1 := by
      intro i hi
      have h1 := hc i hi
      rw [List.getElem?_eq_getElem (by omega)] at h1
      obtain ⟨cs, h2, h3⟩ := Option.bind_eq_some_iff.1 h1
      obtain ⟨x, B, capx, k1, k2, k3, k4⟩ := node_came (fun m hm => ih m (by omega)) h3
      exact ⟨x, B, capx, cs, _, List.getElem?_eq_getElem (by omega), h2, k1, k2, k3, k4⟩
    classical
    let f : Nat → Nd := fun i => if hi : i < len then Classical.choose (hx i hi) else ⟨0, 0, .nil, 0, 0⟩
    have hf2 : ∀ i (hi : i < len), f i = Classical.choose (hx i hi) := fun i hi => dif_pos hi
    have hspec : ∀ i (hi : i < len), ∃ (B : Option Addr) (capx : Nat) (cs : List Value) (e : DataW H × List MemPlace), elems[i]? = some e ∧ W.cells? 0 (a.add (i * 8)) 8 = some cs ∧ cs = ndCell (f i) B capx ∧ (f i).kids.len ≤ capx ∧ TreesAt W (fun b => b < W.heap.size) (f i).kids B ∧ (f i).size ≤ Rows.uptoBulk e.1 := fun i hi => by
      have := Classical.choose_spec (hx i hi)
      rw [← hf2 i hi] at this
      exact this
    have hget : ∀ i, i < len → ((List.range len).map f)[i]? = some (f i) := fun i hi => by rw [List.getElem?_map, List.getElem?_range hi]; rfl
    refine ⟨Trees.of ((List.range len).map f), by rw [Trees.len_of]; simp, ?_, hlc, ?_⟩
    · rcases Nat.eq_zero_or_pos len with rfl | hpos
      · exact TreesAt.nilAt (by rw [Trees.len_of]; simp)
      obtain ⟨bl, off, spot⟩ := a
      obtain ⟨B0, c0, cs0, z0, _, hcs0, hx0, _⟩ := hspec 0 hpos
      obtain ⟨_, _, hcell0⟩ := World.cells?_some hcs0
      have h00 := hcell0 0 (by decide)
      rw [hx0] at h00
      have hspot : spot = none := by
        have := World.cell?_spot (v := .int .i64 (f 0).kind) (by simpa [ndCell] using h00)
        simpa [Addr.add] using this
      subst hspot
      refine TreesAt.mk ?_ (fun i x hxi => ?_)
      · have := World.block_lt_of_cell? W _ (u := .int .i64 (f 0).kind) (by simpa [ndCell] using h00)
        simpa [addr_add] using this
      · rw [Trees.list_of] at hxi
        have hi : i < len := by
          have := (List.getElem?_eq_some_iff.mp hxi).1
          simpa using this
        rw [hget i hi] at hxi
        obtain rfl := Option.some.inj hxi
        obtain ⟨B, capx, cs, e, _, h1, h2, h3, h4, _⟩ := hspec i hi
        obtain ⟨_, _, h5⟩ := World.cells?_some h1
        rw [h2] at h5
        have g : ∀ j u, j < 8 → (ndCell (f i) B capx)[j]? = some u → W.cell? ⟨bl, off + i * 8 + j, none⟩ = some u := fun j u hj hu => by
          have := h5 j hj
          rw [addr_add, addr_add, hu] at this
          exact this
        exact ⟨B, capx, h3, ⟨g 0 _ (by decide) rfl, g 1 _ (by decide) rfl, g 2 _ (by decide) rfl, g 3 _ (by decide) rfl, g 4 _ (by decide) rfl, g 5 _ (by decide) rfl, g 6 _ (by decide) rfl, g 7 _ (by decide) rfl⟩, h4⟩
    · rw [hd, size_sum]
      simp only [Rows.uptoBulk]
      have := bulk_sum (elems.map (·.1)) (((List.range len).map f).map Nd.size) (by simpa using hel) (fun i d k h1 h2 => by
        have hi : i < len := by
          have := (List.getElem?_eq_some_iff.mp h2).1
          simpa using this
        rw [List.getElem?_map, hget i hi] at h2
        obtain rfl := Option.some.inj h2
        obtain ⟨B, capx, cs, e, he, _, _, _, _, h6⟩ := hspec i hi
        rw [List.getElem?_map, he] at h1
        obtain rfl := Option.some.inj h1
        exact h6)
      omega
theorem came_all : ∀ fuel, CameF enc W fuel := fun fuel => by
  induction fuel using Nat.strongRecOn with
  | _ n ih => exact slice_came n ih
/-- A tree that came in. -/
theorem tree_came {v : Value} {d : DataW H} {p : List MemPlace} (h : DataW.Trod enc Tryd.prog W 0 (fun _ => true) true 28 v d p) :
    ∃ (x : Nd) (B : Option Addr) (cap : Nat), v.cells.toList = ndCell x B cap ∧ x.kids.len ≤ cap ∧ TreesAt W (fun b => b < W.heap.size) x.kids B ∧ x.size ≤ Rows.uptoBulk d := by
  obtain ⟨fuel, hf⟩ := h
  exact node_came (fun n _ => came_all n) hf
end
end Go.Proofs.YtchfipjclbpomaaDoor
namespace Go.Proofs.YtchfipjclbpomaaDoor
open Go.ChangeShapes Go.WideShapes Go.ChangeAt Go.RowKit Go.Shelf
set_option linter.unusedSimpArgs false
set_option linter.unusedVariables false
set_option maxRecDepth 100000

theorem gTab : Tryd.prog.globalNamed "math/bits.deBruijn64tab" = some 0 := by kernel_rfl
theorem gTabType : (Tryd.prog.globals[0]?).map (·.type) = some 138 := by kernel_rfl
theorem cellsTab : Tryd.prog.cellsOf 138 = 64 := by kernel_rfl
/-- What a row's list gives: the table's cells hold its numbers. -/
theorem table_at {W : World} (h : laidMetH Tryd.prog [("math/bits.deBruijn64tab", Rows.laid_math_bits_deBruijn64tab)] W) : TabAt 0 Lib.deBruijn64tab W := by
  have ht : Lib.TabIs Tryd.prog W "math/bits.deBruijn64tab" .u8 (Lib.deBruijn64tab.map fun n : Nat => (n : Int)) :=
    Lib.tabIs_of_head (rest := []) gTab gTabType Tryd.underlying138 Tryd.underlying5 cellsByte cellsTab h
  intro j hj
  have hc := ht.cell gTab j (by simpa using hj)
  rw [hc]
  simp [List.getD_eq_getElem?_getD, hj]
/-- A world for the witness: the table holds what its initialiser lays. -/
noncomputable def tabWorld (os : Os) : World :=
  { World.holding Tryd.prog os ⟨#[], #[], []⟩ with heap := (World.holding Tryd.prog os ⟨#[], #[], []⟩).heap.modify 0 fun
      | .cells _ t frozen => .cells (Lib.deBruijn64tab.map fun n : Nat => Value.int .u8 (n : Int)).toArray t frozen
      | o => o }
/-- A tree that came in by value. -/
theorem node_val {H : Type} {enc : TypeId × Value → H} {W : World} {base : Nat} {v : Value} {d : DataW H} {p : List MemPlace} (hv : Value.okWide Tryd.prog W .any base 28 v) (h : DataW.Trod enc Tryd.prog W 0 (fun _ => true) true 28 v d p) :
    ∃ (x : Nd) (B : Option Addr) (cap : Nat), v = ndV x B cap ∧ x.kids.len ≤ cap ∧ TreesAt W (fun b => b < W.heap.size) x.kids B ∧ x.size ≤ Rows.uptoBulk d := by
  obtain ⟨x, B, cap, hc, h1, h2, h3⟩ := tree_came h
  simp only [Value.okWide, Tryd.underlying28] at hv
  obtain ⟨cs, rfl, _, _⟩ := hv
  refine ⟨x, B, cap, ?_, h1, h2, h3⟩
  have : cs = (ndCell x B cap).toArray := by
    have hc' : cs.toList = ndCell x B cap := hc
    rw [← hc']
  rw [this]
  rfl
end Go.Proofs.YtchfipjclbpomaaDoor
namespace Go.Proofs.YtchfipjclbpomaaDoor
open Go.RowKit
set_option linter.unusedSimpArgs false
set_option linter.unusedVariables false
set_option maxRecDepth 100000

/-- A byte that stands for itself behind a backslash alone. -/
def isSign (c : Nat) : Bool := [92, 40, 41, 91, 93, 123, 125, 124, 42, 43, 63, 46].contains c
/-- The text of a byte. -/
def litS (c : Nat) : List Nat := if isSign c = true then [92, c] else if c = 94 ∨ c = 45 then [c] else chrS c
theorem litS_chr {c : Nat} (h : isSign c = false) (h2 : ¬ (c = 94 ∨ c = 45)) : litS c = chrS c := by unfold litS; rw [h, if_neg h2]; rfl
theorem litS_len (c : Nat) : (litS c).length ≤ 4 := by unfold litS; have := chrS_len c; split <;> (try split) <;> simp_all

@[go_sem] theorem run_str1 (w : World) (c : Nat) : (convert 37 9 (.slice (some ⟨w.heap.size, 0, none⟩) 1 1)).run Tryd.prog (w.alloc (.cells #[.int .u8 (c : Int)] 5)) =
    .ok (.string (strOf [c])) (w.alloc (.cells #[.int .u8 (c : Int)] 5)) :=
  run_str _ ⟨w.heap.size, 0, none⟩ 1 [c] (fun j u hu => by
    have hb := Blk.new w 5 #[.int .u8 (c : Int)]
    match j, hu with
    | 0, hu => simp at hu; subst hu; exact hb.cell 0
    | j + 1, hu => simp at hu)

set_option maxHeartbeats 1000000 in
theorem lit_go (c : Nat) (w : World) (hc : c < 256) :
    Calls Tryd.prog 58 #[.int .u8 (c : Int)] w fun e w' => e = .returned (.string (strOf (litS c))) ∧ Below w.heap.size w w' := by
  by_cases e92 : c = 92
  · have HV : Hid (litS c = [92, c]) := by subst e92; rfl
    have b : ((c : Int) == 92) = true := by simp; omega
    rw [HV.out]
    clear e92
    go_enter Tryd.func58, Tryd.ntmps58
    go_wp2
    go_light
    go_ret
    exact ⟨rfl, (Below.refl w.heap.size w).alloc (Nat.le_refl _) _⟩
  have b92 : ((c : Int) == 92) = false := by simp; omega

  by_cases e40 : c = 40
  · have HV : Hid (litS c = [92, c]) := by subst e40; rfl
    have b : ((c : Int) == 40) = true := by simp; omega
    rw [HV.out]
    clear e40
    go_enter Tryd.func58, Tryd.ntmps58
    go_wp2
    go_light
    go_ret
    exact ⟨rfl, (Below.refl w.heap.size w).alloc (Nat.le_refl _) _⟩
  have b40 : ((c : Int) == 40) = false := by simp; omega

  by_cases e41 : c = 41
  · have HV : Hid (litS c = [92, c]) := by subst e41; rfl
    have b : ((c : Int) == 41) = true := by simp; omega
    rw [HV.out]
    clear e41
    go_enter Tryd.func58, Tryd.ntmps58
    go_wp2
    go_light
    go_ret
    exact ⟨rfl, (Below.refl w.heap.size w).alloc (Nat.le_refl _) _⟩
  have b41 : ((c : Int) == 41) = false := by simp; omega

  by_cases e91 : c = 91
  · have HV : Hid (litS c = [92, c]) := by subst e91; rfl
    have b : ((c : Int) == 91) = true := by simp; omega
    rw [HV.out]
    clear e91
    go_enter Tryd.func58, Tryd.ntmps58
    go_wp2
    go_light
    go_ret
    exact ⟨rfl, (Below.refl w.heap.size w).alloc (Nat.le_refl _) _⟩
  have b91 : ((c : Int) == 91) = false := by simp; omega

  by_cases e93 : c = 93
  · have HV : Hid (litS c = [92, c]) := by subst e93; rfl
    have b : ((c : Int) == 93) = true := by simp; omega
    rw [HV.out]
    clear e93
    go_enter Tryd.func58, Tryd.ntmps58
    go_wp2
    go_light
    go_ret
    exact ⟨rfl, (Below.refl w.heap.size w).alloc (Nat.le_refl _) _⟩
  have b93 : ((c : Int) == 93) = false := by simp; omega

  by_cases e123 : c = 123
  · have HV : Hid (litS c = [92, c]) := by subst e123; rfl
    have b : ((c : Int) == 123) = true := by simp; omega
    rw [HV.out]
    clear e123
    go_enter Tryd.func58, Tryd.ntmps58
    go_wp2
    go_light
    go_ret
    exact ⟨rfl, (Below.refl w.heap.size w).alloc (Nat.le_refl _) _⟩
  have b123 : ((c : Int) == 123) = false := by simp; omega

  by_cases e125 : c = 125
  · have HV : Hid (litS c = [92, c]) := by subst e125; rfl
    have b : ((c : Int) == 125) = true := by simp; omega
    rw [HV.out]
    clear e125
    go_enter Tryd.func58, Tryd.ntmps58
    go_wp2
    go_light
    go_ret
    exact ⟨rfl, (Below.refl w.heap.size w).alloc (Nat.le_refl _) _⟩
  have b125 : ((c : Int) == 125) = false := by simp; omega

  by_cases e124 : c = 124
  · have HV : Hid (litS c = [92, c]) := by subst e124; rfl
    have b : ((c : Int) == 124) = true := by simp; omega
    rw [HV.out]
    clear e124
    go_enter Tryd.func58, Tryd.ntmps58
    go_wp2
    go_light
    go_ret
    exact ⟨rfl, (Below.refl w.heap.size w).alloc (Nat.le_refl _) _⟩
  have b124 : ((c : Int) == 124) = false := by simp; omega

  by_cases e42 : c = 42
  · have HV : Hid (litS c = [92, c]) := by subst e42; rfl
    have b : ((c : Int) == 42) = true := by simp; omega
    rw [HV.out]
    clear e42
    go_enter Tryd.func58, Tryd.ntmps58
    go_wp2
    go_light
    go_ret
    exact ⟨rfl, (Below.refl w.heap.size w).alloc (Nat.le_refl _) _⟩
  have b42 : ((c : Int) == 42) = false := by simp; omega

  by_cases e43 : c = 43
  · have HV : Hid (litS c = [92, c]) := by subst e43; rfl
    have b : ((c : Int) == 43) = true := by simp; omega
    rw [HV.out]
    clear e43
    go_enter Tryd.func58, Tryd.ntmps58
    go_wp2
    go_light
    go_ret
    exact ⟨rfl, (Below.refl w.heap.size w).alloc (Nat.le_refl _) _⟩
  have b43 : ((c : Int) == 43) = false := by simp; omega

  by_cases e63 : c = 63
  · have HV : Hid (litS c = [92, c]) := by subst e63; rfl
    have b : ((c : Int) == 63) = true := by simp; omega
    rw [HV.out]
    clear e63
    go_enter Tryd.func58, Tryd.ntmps58
    go_wp2
    go_light
    go_ret
    exact ⟨rfl, (Below.refl w.heap.size w).alloc (Nat.le_refl _) _⟩
  have b63 : ((c : Int) == 63) = false := by simp; omega

  by_cases e46 : c = 46
  · have HV : Hid (litS c = [92, c]) := by subst e46; rfl
    have b : ((c : Int) == 46) = true := by simp; omega
    rw [HV.out]
    clear e46
    go_enter Tryd.func58, Tryd.ntmps58
    go_wp2
    go_light
    go_ret
    exact ⟨rfl, (Below.refl w.heap.size w).alloc (Nat.le_refl _) _⟩
  have b46 : ((c : Int) == 46) = false := by simp; omega

  by_cases e94 : c = 94
  · have HV : Hid (litS c = [c]) := by subst e94; rfl
    have b : ((c : Int) == 94) = true := by simp; omega
    rw [HV.out]
    clear e94
    go_enter Tryd.func58, Tryd.ntmps58
    go_wp2
    go_light
    go_ret
    exact ⟨rfl, (Below.refl w.heap.size w).alloc (Nat.le_refl _) _⟩
  have b94 : ((c : Int) == 94) = false := by simp; omega

  by_cases e45 : c = 45
  · have HV : Hid (litS c = [c]) := by subst e45; rfl
    have b : ((c : Int) == 45) = true := by simp; omega
    rw [HV.out]
    clear e45
    go_enter Tryd.func58, Tryd.ntmps58
    go_wp2
    go_light
    go_ret
    exact ⟨rfl, (Below.refl w.heap.size w).alloc (Nat.le_refl _) _⟩
  have b45 : ((c : Int) == 45) = false := by simp; omega

  have HV : Hid (litS c = chrS c) := Lib.hid (litS_chr (by simp [isSign]; omega) (by omega))
  rw [HV.out]
  clear e92 e40 e41 e91 e93 e123 e125 e124 e42 e43 e63 e46 e94 e45
  go_enter Tryd.func58, Tryd.ntmps58
  go_wp2_with fail
  refine (chr_go _ _ (by omega) (by omega)).mono ?_
  rintro e w2 ⟨rfl, hb2⟩
  rw [Int.toNat_natCast]
  go_wp2
  go_light
  go_ret
  exact ⟨rfl, hb2⟩

end Go.Proofs.YtchfipjclbpomaaDoor
namespace Go.Proofs.YtchfipjclbpomaaDoor
open Go.RowKit
set_option linter.unusedSimpArgs false
set_option linter.unusedVariables false
set_option maxRecDepth 100000

/-- The digits of a number below 10000. -/
def decS (n : Nat) : List Nat :=
  if n < 10 then [48 + n] else if n < 100 then [48 + n / 10, 48 + n % 10] else if n < 1000 then [48 + n / 10 / 10, 48 + n / 10 % 10, 48 + n % 10] else [48 + n / 10 / 10 / 10, 48 + n / 10 / 10 % 10, 48 + n / 10 % 10, 48 + n % 10]
theorem decS_len (n : Nat) : (decS n).length ≤ 4 := by unfold decS; split <;> (try split) <;> (try split) <;> simp

theorem str_block (w : World) (C : Array Value) (t : TypeId) (o : Nat) (ns : List Nat) (h : ∀ j u, (ns.map (fun n : Nat => Value.int .u8 (n : Int)))[j]? = some u → C[o + j]? = some u) :
    (convert 37 9 (.slice (some ⟨w.heap.size, o, none⟩) ns.length ns.length)).run Tryd.prog (w.alloc (.cells C t)) = .ok (.string (strOf ns)) (w.alloc (.cells C t)) :=
  run_str _ ⟨w.heap.size, o, none⟩ ns.length ns (fun j u hu => by
    have hb := Blk.new w t C
    have e : (⟨w.heap.size, o, none⟩ : Addr).add j = ⟨w.heap.size, o + j, none⟩ := by
      unfold Addr.add
      split
      · next hz => subst hz; rfl
      · rfl
    rw [e, hb.cell]
    exact h j u hu)

theorem str_one (w : World) (a : Nat) : (convert 37 9 (.slice (some ⟨w.heap.size, 19, none⟩) 1 1)).run Tryd.prog (w.alloc (.cells #[Value.int .u8 0, Value.int .u8 0, Value.int .u8 0, Value.int .u8 0, Value.int .u8 0, Value.int .u8 0, Value.int .u8 0, Value.int .u8 0, Value.int .u8 0, Value.int .u8 0, Value.int .u8 0, Value.int .u8 0, Value.int .u8 0, Value.int .u8 0, Value.int .u8 0, Value.int .u8 0, Value.int .u8 0, Value.int .u8 0, Value.int .u8 0, .int .u8 (48 + (a : Int))] 127)) =
    .ok (.string (strOf [48 + a])) (w.alloc (.cells #[Value.int .u8 0, Value.int .u8 0, Value.int .u8 0, Value.int .u8 0, Value.int .u8 0, Value.int .u8 0, Value.int .u8 0, Value.int .u8 0, Value.int .u8 0, Value.int .u8 0, Value.int .u8 0, Value.int .u8 0, Value.int .u8 0, Value.int .u8 0, Value.int .u8 0, Value.int .u8 0, Value.int .u8 0, Value.int .u8 0, Value.int .u8 0, .int .u8 (48 + (a : Int))] 127)) :=
  str_block w _ _ 19 [48 + a] (fun j u hu => by
    match j, hu with
    | 0, hu => simpa using hu
    | j + 1, hu => simp at hu)
theorem str_two (w : World) (a b : Nat) : (convert 37 9 (.slice (some ⟨w.heap.size, 18, none⟩) 2 2)).run Tryd.prog (w.alloc (.cells #[Value.int .u8 0, Value.int .u8 0, Value.int .u8 0, Value.int .u8 0, Value.int .u8 0, Value.int .u8 0, Value.int .u8 0, Value.int .u8 0, Value.int .u8 0, Value.int .u8 0, Value.int .u8 0, Value.int .u8 0, Value.int .u8 0, Value.int .u8 0, Value.int .u8 0, Value.int .u8 0, Value.int .u8 0, Value.int .u8 0, .int .u8 (48 + (a : Int)), .int .u8 (48 + (b : Int))] 127)) =
    .ok (.string (strOf [48 + a, 48 + b])) (w.alloc (.cells #[Value.int .u8 0, Value.int .u8 0, Value.int .u8 0, Value.int .u8 0, Value.int .u8 0, Value.int .u8 0, Value.int .u8 0, Value.int .u8 0, Value.int .u8 0, Value.int .u8 0, Value.int .u8 0, Value.int .u8 0, Value.int .u8 0, Value.int .u8 0, Value.int .u8 0, Value.int .u8 0, Value.int .u8 0, Value.int .u8 0, .int .u8 (48 + (a : Int)), .int .u8 (48 + (b : Int))] 127)) :=
  str_block w _ _ 18 [48 + a, 48 + b] (fun j u hu => by
    match j, hu with
    | 0, hu => simpa using hu
    | 1, hu => simpa using hu
    | j + 2, hu => simp at hu)
theorem str_three (w : World) (a b c : Nat) : (convert 37 9 (.slice (some ⟨w.heap.size, 17, none⟩) 3 3)).run Tryd.prog (w.alloc (.cells #[Value.int .u8 0, Value.int .u8 0, Value.int .u8 0, Value.int .u8 0, Value.int .u8 0, Value.int .u8 0, Value.int .u8 0, Value.int .u8 0, Value.int .u8 0, Value.int .u8 0, Value.int .u8 0, Value.int .u8 0, Value.int .u8 0, Value.int .u8 0, Value.int .u8 0, Value.int .u8 0, Value.int .u8 0, .int .u8 (48 + (a : Int)), .int .u8 (48 + (b : Int)), .int .u8 (48 + (c : Int))] 127)) =
    .ok (.string (strOf [48 + a, 48 + b, 48 + c])) (w.alloc (.cells #[Value.int .u8 0, Value.int .u8 0, Value.int .u8 0, Value.int .u8 0, Value.int .u8 0, Value.int .u8 0, Value.int .u8 0, Value.int .u8 0, Value.int .u8 0, Value.int .u8 0, Value.int .u8 0, Value.int .u8 0, Value.int .u8 0, Value.int .u8 0, Value.int .u8 0, Value.int .u8 0, Value.int .u8 0, .int .u8 (48 + (a : Int)), .int .u8 (48 + (b : Int)), .int .u8 (48 + (c : Int))] 127)) :=
  str_block w _ _ 17 [48 + a, 48 + b, 48 + c] (fun j u hu => by
    match j, hu with
    | 0, hu => simpa using hu
    | 1, hu => simpa using hu
    | 2, hu => simpa using hu
    | j + 3, hu => simp at hu)
theorem str_four (w : World) (a b c d : Nat) : (convert 37 9 (.slice (some ⟨w.heap.size, 16, none⟩) 4 4)).run Tryd.prog (w.alloc (.cells #[Value.int .u8 0, Value.int .u8 0, Value.int .u8 0, Value.int .u8 0, Value.int .u8 0, Value.int .u8 0, Value.int .u8 0, Value.int .u8 0, Value.int .u8 0, Value.int .u8 0, Value.int .u8 0, Value.int .u8 0, Value.int .u8 0, Value.int .u8 0, Value.int .u8 0, Value.int .u8 0, .int .u8 (48 + (a : Int)), .int .u8 (48 + (b : Int)), .int .u8 (48 + (c : Int)), .int .u8 (48 + (d : Int))] 127)) =
    .ok (.string (strOf [48 + a, 48 + b, 48 + c, 48 + d])) (w.alloc (.cells #[Value.int .u8 0, Value.int .u8 0, Value.int .u8 0, Value.int .u8 0, Value.int .u8 0, Value.int .u8 0, Value.int .u8 0, Value.int .u8 0, Value.int .u8 0, Value.int .u8 0, Value.int .u8 0, Value.int .u8 0, Value.int .u8 0, Value.int .u8 0, Value.int .u8 0, Value.int .u8 0, .int .u8 (48 + (a : Int)), .int .u8 (48 + (b : Int)), .int .u8 (48 + (c : Int)), .int .u8 (48 + (d : Int))] 127)) :=
  str_block w _ _ 16 [48 + a, 48 + b, 48 + c, 48 + d] (fun j u hu => by
    match j, hu with
    | 0, hu => simpa using hu
    | 1, hu => simpa using hu
    | 2, hu => simpa using hu
    | 3, hu => simpa using hu
    | j + 4, hu => simp at hu)

/-- A number's last digit, and the rest. -/
theorem dec_parts (n : Nat) : ∃ q r : Nat, r < 10 ∧ n / 10 = q ∧ n % 10 = r ∧ (n : Int).tdiv 10 = (q : Int) ∧ (n : Int).tmod 10 = (r : Int) :=
  ⟨n / 10, n % 10, Nat.mod_lt _ (by decide), rfl, rfl, by rw [Int.tdiv_eq_ediv_of_nonneg (by omega)]; omega, by rw [Int.tmod_eq_emod_of_nonneg (by omega)]; omega⟩

set_option maxHeartbeats 1000000 in
theorem shown_one (n : Nat) (w : World) (hn : n < 10) :
    Calls Tryd.prog 80 #[.int .i64 (n : Int)] w fun e w' => e = .returned (.string (strOf (decS n))) ∧ Below w.heap.size w w' := by
  have HV : decS n = [48 + n] := if_pos hn
  rw [HV]
  have h0 : ¬ (n : Int) < 0 := by omega
  have m1 : (n : Int).tmod 10 = (n : Int) := by rw [Int.tmod_eq_emod_of_nonneg (by omega)]; omega
  have d1 : (n : Int).tdiv 10 = 0 := by rw [Int.tdiv_eq_ediv_of_nonneg (by omega)]; omega
  have hs := fun w => str_one w n
  clear HV
  go_enter Tryd.func80, Tryd.ntmps80
  go_wp2
  refine wp_loop_rounds 1 ?_
  rw [rounds_succ]
  go_wp2

  go_light
  go_ret
  exact ⟨rfl, (Below.refl w.heap.size w).alloc (Nat.le_refl _) _⟩


set_option maxHeartbeats 1000000 in
theorem shown_two (n : Nat) (w : World) (hn : 10 ≤ n) (hn2 : n < 100) :
    Calls Tryd.prog 80 #[.int .i64 (n : Int)] w fun e w' => e = .returned (.string (strOf (decS n))) ∧ Below w.heap.size w w' := by
  have HV : decS n = [48 + n / 10, 48 + n % 10] := by unfold decS; rw [if_neg (by omega), if_pos hn2]
  rw [HV]
  have h0 : ¬ (n : Int) < 0 := by omega
  obtain ⟨a, b, hb, e1, e2, d1, m1⟩ := dec_parts n
  obtain ⟨a1, b1, hb1, e3, e4, d2, m2⟩ := dec_parts a
  rw [e1, e2]
  obtain rfl : a1 = 0 := by omega
  obtain rfl : b1 = a := by omega
  have z1 : ((b1 : Int) == 0) = false := by simp; omega
  have q1 : b1 < 1000 := by omega
  have hs := fun w => str_two w b1 b
  clear HV e1 e2 e3 e4 hn hn2
  go_enter Tryd.func80, Tryd.ntmps80
  go_wp2
  refine wp_loop_rounds 2 ?_
  rw [rounds_succ]
  go_wp2

  rw [rounds_succ]
  go_wp2

  go_light
  go_ret
  exact ⟨rfl, (Below.refl w.heap.size w).alloc (Nat.le_refl _) _⟩


set_option maxHeartbeats 1000000 in
theorem shown_three (n : Nat) (w : World) (hn : 100 ≤ n) (hn2 : n < 1000) :
    Calls Tryd.prog 80 #[.int .i64 (n : Int)] w fun e w' => e = .returned (.string (strOf (decS n))) ∧ Below w.heap.size w w' := by
  have HV : decS n = [48 + n / 10 / 10, 48 + n / 10 % 10, 48 + n % 10] := by unfold decS; rw [if_neg (by omega), if_neg (by omega), if_pos hn2]
  rw [HV]
  have h0 : ¬ (n : Int) < 0 := by omega
  obtain ⟨a, b, hb, e1, e2, d1, m1⟩ := dec_parts n
  obtain ⟨a1, b1, hb1, e3, e4, d2, m2⟩ := dec_parts a
  obtain ⟨a2, b2, hb2, e5, e6, d3, m3⟩ := dec_parts a1
  rw [e1, e2, e3, e4]
  obtain rfl : a2 = 0 := by omega
  obtain rfl : b2 = a1 := by omega
  have z1 : ((a : Int) == 0) = false := by simp; omega
  have z2 : ((b2 : Int) == 0) = false := by simp; omega
  have q1 : a < 1000 := by omega
  have q2 : b2 < 1000 := by omega
  have hs := fun w => str_three w b2 b1 b
  clear HV e1 e2 e3 e4 e5 e6 hn hn2
  go_enter Tryd.func80, Tryd.ntmps80
  go_wp2
  refine wp_loop_rounds 3 ?_
  rw [rounds_succ]
  go_wp2

  rw [rounds_succ]
  go_wp2

  rw [rounds_succ]
  go_wp2

  go_light
  go_ret
  exact ⟨rfl, (Below.refl w.heap.size w).alloc (Nat.le_refl _) _⟩


set_option maxHeartbeats 1000000 in
theorem shown_four (n : Nat) (w : World) (hn : 1000 ≤ n) (hn2 : n < 10000) :
    Calls Tryd.prog 80 #[.int .i64 (n : Int)] w fun e w' => e = .returned (.string (strOf (decS n))) ∧ Below w.heap.size w w' := by
  have HV : decS n = [48 + n / 10 / 10 / 10, 48 + n / 10 / 10 % 10, 48 + n / 10 % 10, 48 + n % 10] := by unfold decS; rw [if_neg (by omega), if_neg (by omega), if_neg (by omega)]
  rw [HV]
  have h0 : ¬ (n : Int) < 0 := by omega
  obtain ⟨a, b, hb, e1, e2, d1, m1⟩ := dec_parts n
  obtain ⟨a1, b1, hb1, e3, e4, d2, m2⟩ := dec_parts a
  obtain ⟨a2, b2, hb2, e5, e6, d3, m3⟩ := dec_parts a1
  obtain ⟨a3, b3, hb3, e7, e8, d4, m4⟩ := dec_parts a2
  rw [e1, e2, e3, e4, e5, e6]
  obtain rfl : a3 = 0 := by omega
  obtain rfl : b3 = a2 := by omega
  have z1 : ((a : Int) == 0) = false := by simp; omega
  have z2 : ((a1 : Int) == 0) = false := by simp; omega
  have z3 : ((b3 : Int) == 0) = false := by simp; omega
  have q1 : a < 1001 := by omega
  have q2 : a1 < 1000 := by omega
  have q3 : b3 < 1000 := by omega
  have hs := fun w => str_four w b3 b2 b1 b
  clear HV e1 e2 e3 e4 e5 e6 e7 e8 hn hn2
  go_enter Tryd.func80, Tryd.ntmps80
  go_wp2
  refine wp_loop_rounds 4 ?_
  rw [rounds_succ]
  go_wp2

  rw [rounds_succ]
  go_wp2

  rw [rounds_succ]
  go_wp2

  rw [rounds_succ]
  go_wp2

  go_light
  go_ret
  exact ⟨rfl, (Below.refl w.heap.size w).alloc (Nat.le_refl _) _⟩


theorem shown_go (n : Nat) (w : World) (hn : n ≤ 1000) :
    Calls Tryd.prog 80 #[.int .i64 (n : Int)] w fun e w' => e = .returned (.string (strOf (decS n))) ∧ Below w.heap.size w w' := by
  by_cases h1 : n < 10
  · exact shown_one n w h1
  by_cases h2 : n < 100
  · exact shown_two n w (by omega) h2
  by_cases h3 : n < 1000
  · exact shown_three n w (by omega) h3
  · exact shown_four n w (by omega) (by omega)

@[go_sem] theorem run_str1i (w : World) (c : Nat) : (convert 37 9 (.slice (some ⟨w.heap.size, 0, none⟩) 1 1)).run Tryd.prog (w.alloc (.cells #[.int .u8 (48 + (c : Int))] 5)) =
    .ok (.string (strOf [48 + c])) (w.alloc (.cells #[.int .u8 (48 + (c : Int))] 5)) :=
  str_block w _ _ 0 [48 + c] (fun j u hu => by
    match j, hu with
    | 0, hu => simpa using hu
    | j + 1, hu => simp at hu)
end Go.Proofs.YtchfipjclbpomaaDoor
namespace Go.Proofs.YtchfipjclbpomaaDoor
set_option linter.unusedSimpArgs false
set_option linter.unusedVariables false
open Go.RowKit

end Go.Proofs.YtchfipjclbpomaaDoor
namespace Go.Proofs.YtchfipjclbpomaaDoor
open Go.RowKit Go.Shelf
attribute [local go_sem] Oper.semAt_some
set_option linter.unusedSimpArgs false
set_option linter.unusedVariables false
set_option maxRecDepth 100000

theorem one_new (W : World) (v : Value) (t : TypeId) : (W.alloc (.cells #[v] t)).cell? ⟨W.heap.size, 0, none⟩ = some v ∧ (W.alloc (.cells #[v] t)).frozen? ⟨W.heap.size, 0, none⟩ = false :=
  ⟨(Blk.new W t #[v]).cell 0, (Blk.new W t #[v]).frozen 0⟩
theorem one_later {W : World} {a : Addr} {v : Value} (o : Obj) (h : W.cell? a = some v ∧ W.frozen? a = false) : (W.alloc o).cell? a = some v ∧ (W.alloc o).frozen? a = false :=
  ⟨cell_kept h.1 (World.grownBy_alloc W o none) (fun r e => by cases e), (frozen_kept h.1 (World.grownBy_alloc W o none) (fun r e => by cases e)).trans h.2⟩
set_option maxHeartbeats 2000000 in
theorem least_in (n : Nat) (hn : 3 ≤ n) (p : Nat → Bool) (c : Nat) (hp : elems p 256 = [c]) (w : World) (hT : TabAt 0 Lib.deBruijn64tab w) (hw0 : 0 < w.heap.size) :
    CallsIn Fence.wide n Tryd.prog 59 #[.agg #[.int .u64 ((word (p) 0 : Nat) : Int), .int .u64 ((word (p) 1 : Nat) : Int), .int .u64 ((word (p) 2 : Nat) : Int), .int .u64 ((word (p) 3 : Nat) : Int)]] w fun e W' => e = .returned (.int .i64 (c : Int)) ∧ Below w.heap.size w W' := by
  have h1 : 1 ≤ n := by omega
  have hc256 : c < 256 := elems_lt (m := 256) (p := p) (by rw [hp]; simp)
  refine callsIn_of_wp_marks Tryd.func59 rfl trivial ?_ rfl
  simp only [Tryd.ntmps59, List.size_toArray, List.length_cons, List.length_nil, Nat.reduceAdd, Nat.reduceSub, Array.replicate_succ, Array.replicate_zero, List.push_toArray, List.append_toArray, List.nil_append, List.cons_append]
  gi_wp2_with (refine ⟨trivial, ?_⟩; gi_at_call 78; refine (callsIn_wide.2 (each_go p _)).mono ?_; rintro e w' ⟨rfl, rfl⟩)
  have c1 := one_new (w.alloc (.cells #[.int .u64 ((word (p) 0 : Nat) : Int), .int .u64 ((word (p) 1 : Nat) : Int), .int .u64 ((word (p) 2 : Nat) : Int), .int .u64 ((word (p) 3 : Nat) : Int)] 25)) (.int .i64 0) 3
  simp only [World.size_alloc] at c1
  have hB0 : Below w.heap.size w (((w.alloc (.cells #[.int .u64 ((word (p) 0 : Nat) : Int), .int .u64 ((word (p) 1 : Nat) : Int), .int .u64 ((word (p) 2 : Nat) : Int), .int .u64 ((word (p) 3 : Nat) : Int)] 25)).alloc (.cells #[.int .i64 0] 3)).alloc (.cells #[.int .u64 ((word (p) 0 : Nat) : Int), .int .u64 ((word (p) 1 : Nat) : Int), .int .u64 ((word (p) 2 : Nat) : Int), .int .u64 ((word (p) 3 : Nat) : Int)] 25)) := (((Below.refl _ w).alloc (Nat.le_refl _) _).alloc (by simp) _).alloc (by simp; omega) _
  have bS : Blk (((w.alloc (.cells #[.int .u64 ((word (p) 0 : Nat) : Int), .int .u64 ((word (p) 1 : Nat) : Int), .int .u64 ((word (p) 2 : Nat) : Int), .int .u64 ((word (p) 3 : Nat) : Int)] 25)).alloc (.cells #[.int .i64 0] 3)).alloc (.cells #[.int .u64 ((word (p) 0 : Nat) : Int), .int .u64 ((word (p) 1 : Nat) : Int), .int .u64 ((word (p) 2 : Nat) : Int), .int .u64 ((word (p) 3 : Nat) : Int)] 25)) (w.heap.size + 1 + 1) 25 #[.int .u64 ((word (p) 0 : Nat) : Int), .int .u64 ((word (p) 1 : Nat) : Int), .int .u64 ((word (p) 2 : Nat) : Int), .int .u64 ((word (p) 3 : Nat) : Int)] := Blk.new_at (by simp)
  refine wpIn_rangeFunc_ownG rfl h1 (gf := 93) (lb := #[.pointer (some ⟨w.heap.size + 1 + 1, 0, none⟩)]) rfl trivial (enters_of Tryd.func93 (by kernel_rfl) rfl)
    (each_stops (n - 1) (by omega) p (w.heap.size + 1 + 1) w.heap.size _ hw0 (by simp) bS (TabAt.below hB0 hw0 hT)) belowK_t (belowK_b (by simp; omega)) (Below.refl _ _) (fun _ => rfl)
    (fun pre W => (pre = [] ∧ W.cell? ⟨w.heap.size + 1, 0, none⟩ = some (.int .i64 0) ∧ W.frozen? ⟨w.heap.size + 1, 0, none⟩ = false) ∧ Below w.heap.size w W)
    (fun k pre W => (∃ x, k = .ret ∧ pre = [x] ∧ W.cell? ⟨w.heap.size + 1, 0, none⟩ = some (.int .i64 ((x % 256 : Nat) : Int))) ∧ Below w.heap.size w W)
    (OwnFrom.and (Own.from (fun s A B row hs hg hr => ⟨hs.1, cell_kept hs.2.1 hg hr, (frozen_kept hs.2.1 hg hr).trans hs.2.2⟩) _) (ownFrom_below (Nat.le_refl _) (by simp; omega)))
    (fun c => OwnFrom.and (Own.from (fun s A B row hs hg hr => by obtain ⟨x, h1, h2, h3⟩ := hs; exact ⟨x, h1, h2, cell_kept h3 hg hr⟩) _) (ownFrom_below (Nat.le_refl _) (by simp; omega)))
    ⟨⟨rfl, one_later _ c1⟩, hB0⟩
    (fun x => { tmps := #[.agg #[.int .u64 ((word (p) 0 : Nat) : Int), .int .u64 ((word (p) 1 : Nat) : Int), .int .u64 ((word (p) 2 : Nat) : Int), .int .u64 ((word (p) 3 : Nat) : Int)], .pointer (some ⟨w.heap.size, 0, none⟩), .pointer (some ⟨w.heap.size + 1, 0, none⟩), .int .u8 ((x % 256 : Nat) : Int), .agg #[.int .u64 ((word (p) 0 : Nat) : Int), .int .u64 ((word (p) 1 : Nat) : Int), .int .u64 ((word (p) 2 : Nat) : Int), .int .u64 ((word (p) 3 : Nat) : Int)], .func (.func 93) #[] #[.pointer (some ⟨w.heap.size + 1 + 1, 0, none⟩)], .int .u8 ((x % 256 : Nat) : Int), undef, undef], defers := [] }) ?assign ?body ?done ?stop
  case assign =>
    intro l x W K hK
    unfold byteArg
    gi_wp2
    exact hK
  case body =>
    rintro l pre x W ⟨⟨rfl, hcr, hfr⟩, hB⟩ _
    have hx : x % 256 < 256 := Nat.mod_lt _ (by decide)
    generalize hxc : x % 256 = c' at *
    gi_wp2
    exact ⟨(KeepsOthers.setCell _ _ _).from _, ⟨x, rfl, rfl, by rw [hxc]; exact World.cell?_setCell_same' _ _ _ (by rw [hcr]; rfl)⟩, hB.setCell (p := ⟨w.heap.size + 1, 0, none⟩) (by simp) _⟩
  case done =>
    rintro D ys W hD rfl ⟨⟨hne, _, _⟩, hB⟩ hK
    rw [hp] at hne
    cases hne
  case stop =>
    rintro D k pre W hD ⟨m, hm, hpre⟩ ⟨⟨x, rfl, rfl, hcr⟩, hB⟩ hK
    have hxc : x = c := by
      have h2 : x ∈ elems p 256 := by
        have : x ∈ elems p m := by rw [← hpre]; simp
        unfold elems at this ⊢
        simp at this ⊢
        exact ⟨by omega, this.2⟩
      rw [hp] at h2
      simpa using h2
    subst hxc
    rw [Nat.mod_eq_of_lt hc256] at hcr
    gi_wp2
    refine ⟨by simp, .inl ⟨_, _, rfl, run_takeDeferred hK, ?_⟩⟩
    have hc5 := cell_kept hcr (grownBy_putObj' _ D (.deferred none)) (fun r e => by cases e; exact ⟨_, hK, rfl⟩)
    refine ⟨.int .i64 (x : Int), ?_, rfl, hB.trans (belowK_b (w := w) (Nat.le_refl _) W D _ _ (by simp at hD; omega) hK rfl rfl)⟩
    simp [results, Tryd.f59, go_sem, hc5]

/-- sets.Least of a set of one byte. -/
theorem least_go (p : Nat → Bool) (c : Nat) (hp : elems p 256 = [c]) (w : World) (hT : TabAt 0 Lib.deBruijn64tab w) (hw0 : 0 < w.heap.size) :
    Calls Tryd.prog 59 #[.agg #[.int .u64 ((word (p) 0 : Nat) : Int), .int .u64 ((word (p) 1 : Nat) : Int), .int .u64 ((word (p) 2 : Nat) : Int), .int .u64 ((word (p) 3 : Nat) : Int)]] w fun e W' => e = .returned (.int .i64 (c : Int)) ∧ Below w.heap.size w W' :=
  callsIn_wide.1 (least_in 3 (Nat.le_refl _) p c hp w hT hw0)

end Go.Proofs.YtchfipjclbpomaaDoor
namespace Go.Proofs.YtchfipjclbpomaaDoor
open Go.RowKit
set_option linter.unusedSimpArgs false
set_option linter.unusedVariables false
set_option maxRecDepth 100000

/-- A row of lexemes that may be read. -/
def LexRow (w : World) (v : Value) (L : List Lex) : Prop :=
  ∃ A cap, v = .slice A L.length cap ∧ ∀ k x, L[k]? = some x → ∃ g, A = some ⟨g, 0, none⟩ ∧
    w.cell? ⟨g, k * 8, none⟩ = some (.int .i64 x.kind) ∧ w.cell? ⟨g, k * 8 + 1, none⟩ = some (.int .i64 x.place) ∧
    w.cell? ⟨g, k * 8 + 2, none⟩ = some (.int .u64 ((word x.set 0 : Nat) : Int)) ∧ w.cell? ⟨g, k * 8 + 2 + 1, none⟩ = some (.int .u64 ((word x.set 1 : Nat) : Int)) ∧ w.cell? ⟨g, k * 8 + 2 + 2, none⟩ = some (.int .u64 ((word x.set 2 : Nat) : Int)) ∧ w.cell? ⟨g, k * 8 + 2 + 3, none⟩ = some (.int .u64 ((word x.set 3 : Nat) : Int)) ∧
    w.cell? ⟨g, k * 8 + 6, none⟩ = some (.int .i64 x.lo) ∧ w.cell? ⟨g, k * 8 + 7, none⟩ = some (.int .i64 x.hi)

theorem lexCells_at : ∀ (L : List Lex) (k : Nat) (x : Lex), L[k]? = some x → ∀ j, j < 8 → (lexCells L)[k * 8 + j]? = (lexCell x)[j]?
  | [], k, x, h, j, hj => by simp at h
  | y :: L, 0, x, h, j, hj => by
    have e : y = x := by simpa using h
    subst e
    have e2 : lexCells (y :: L) = lexCell y ++ lexCells L := by simp [lexCells]
    rw [e2, Nat.zero_mul, Nat.zero_add, List.getElem?_append_left (by simpa [lexCell] using hj)]
  | y :: L, k + 1, x, h, j, hj => by
    have e2 : lexCells (y :: L) = lexCell y ++ lexCells L := by simp [lexCells]
    have hl : (lexCell y).length = 8 := by simp [lexCell]
    rw [e2, List.getElem?_append_right (by omega), hl, show (k + 1) * 8 + j - 8 = k * 8 + j by omega]
    exact lexCells_at L k x (by simpa using h) j hj

theorem lexRow_of {w : World} {base : Nat} {v : Value} {L : List Lex} (h : w.ownsRow base 52 8 v L.length (lexCells L)) : LexRow w v L := by
  obtain ⟨A, cap, hv⟩ := own_slice h
  refine ⟨A, cap, hv, fun k x hx => ?_⟩
  have hpos : 0 < L.length := by
    have := (List.getElem?_eq_some_iff.mp hx).1
    omega
  obtain ⟨g, cap', hv', hbase, hg⟩ := own_form h hpos
  have hA : A = some ⟨g, 0, none⟩ := by rw [hv] at hv'; exact (Value.slice.inj hv').1
  have hc := h.cells (g := g) (by rw [hv']; rfl)
  have hat : ∀ j u, j < 8 → (lexCell x)[j]? = some u → w.cell? ⟨g, k * 8 + j, none⟩ = some u := fun j u hj hu => by
    have := hc (k * 8 + j) u ((lexCells_at L k x hx j hj).trans hu)
    have e : (⟨g, 0, none⟩ : Addr).add (k * 8 + j) = ⟨g, k * 8 + j, none⟩ := by
      rcases Nat.eq_zero_or_pos (k * 8 + j) with hz | hz
      · rw [hz]; rfl
      · have h1 : ¬ (k * 8 = 0 ∧ j = 0) := by omega
        simp [Addr.add, h1]
    exact e ▸ this
  exact ⟨g, hA, hat 0 _ (by decide) rfl, hat 1 _ (by decide) rfl, hat 2 _ (by decide) rfl, hat 3 _ (by decide) rfl, hat 4 _ (by decide) rfl, hat 5 _ (by decide) rfl, hat 6 _ (by decide) rfl, hat 7 _ (by decide) rfl⟩

end Go.Proofs.YtchfipjclbpomaaDoor
namespace Go.Proofs.YtchfipjclbpomaaDoor
open Go.RowKit
set_option linter.unusedSimpArgs false
set_option linter.unusedVariables false
set_option maxRecDepth 100000

def topN : Nat := 1099511627776
/-- At A stand numbers. -/
def NumsAt (w : World) (A : Option Addr) (xs : List Nat) : Prop := ∀ i, i < xs.length → ∃ b o, A = some ⟨b, o, none⟩ ∧ w.cell? ⟨b, o + i, none⟩ = some (.int .i64 ((xs.getD i 0 : Nat) : Int))
theorem NumsAt.below {w w' : World} {A : Option Addr} {xs : List Nat} (h : NumsAt w A xs) (hb : Below w.heap.size w w') : NumsAt w' A xs := fun i hi => by
  obtain ⟨b, o, hA, hc⟩ := h i hi
  exact ⟨b, o, hA, (hb.cell (p := ⟨b, _, none⟩) (World.block_lt_of_cell? w _ hc)).trans hc⟩
end Go.Proofs.YtchfipjclbpomaaDoor
namespace Go.Proofs.YtchfipjclbpomaaDoor
open Go.RowKit Go.Shelf
set_option linter.unusedSimpArgs false
set_option linter.unusedVariables false
set_option maxRecDepth 100000
attribute [local go_sem] Oper.semAt_some

/-! Where no depth is asked the figures are all one (turned from the worked proof of a recursive iterator). -/
theorem room_of_none {F : Fence} (hd : F.depth = none) (k : Nat) : F.room k := fun d h => by rw [hd] at h; cases h
theorem roundIn_any {F : Fence} (hd : F.depth = none) {m m' : Nat} {P : Program} {l : Nat} {f : FuncId} {tmps : Array Value} {assign body : Code} {w : World} {R : Ending → World → Prop}
    (h : RoundIn F m P l f tmps assign body w R) : RoundIn F m' P l f tmps assign body w R := ⟨h.1, fun c cs _ => h.2 c cs (room_of_none hd _)⟩
theorem yieldAt_any {F : Fence} (hd : F.depth = none) {m : Nat} (m' : Nat) {P : Program} {l : Nat} {args : Array Value} {W : World} {R : Ending → World → Prop} (h : YieldAt F m P l args W R) : YieldAt F m' P l args W R := by
  obtain ⟨fn, tmps, assign, body, hy, hR⟩ := h
  exact ⟨fn, tmps, assign, body, hy, roundIn_any hd hR⟩

/-- A node that may be, with the slice of its kids. -/
abbrev Item := { q : Nd × Option Addr × Nat // Alone q.1 }
/-- All cells but those of one block lie as they lay. -/
def Kc (Bn : Nat) (A B : World) : Prop := A.heap.size ≤ B.heap.size ∧ ∀ (p : Addr) (v : Value), p.block ≠ Bn → A.cell? p = some v → B.cell? p = some v
theorem Kc.refl (Bn : Nat) (A : World) : Kc Bn A A := ⟨Nat.le_refl _, fun _ _ _ h => h⟩
theorem Kc.trans {Bn : Nat} {A B C : World} (h : Kc Bn A B) (k : Kc Bn B C) : Kc Bn A C := ⟨Nat.le_trans h.1 k.1, fun p v hp hc => k.2 p v hp (h.2 p v hp hc)⟩
theorem Kc.below {Bn : Nat} {A B : World} (h : Below A.heap.size A B) : Kc Bn A B := ⟨h.size, fun p v _ hc => (h.cell (World.block_lt_of_cell? A _ hc)).trans hc⟩
theorem Kc.trees {Bn : Nat} {w w' : World} (hk : Kc Bn w w') {P : Nat → Prop} (hP : ∀ b, P b → b ≠ Bn) : ∀ {F : Trees} {A : Option Addr}, TreesAt w P F A → TreesAt w' P F A
  | .nil, _, _ => trivial
  | .cons k s ks lo hi r, A, ⟨b, o, B, cap, hA, hb, hc, ⟨n0, n1, n2, n3, n4, n5, n6, n7⟩, h1, h2⟩ =>
    ⟨b, o, B, cap, hA, hb, hc, ⟨hk.2 _ _ (hP b hb) n0, hk.2 _ _ (hP b hb) n1, hk.2 _ _ (hP b hb) n2, hk.2 _ _ (hP b hb) n3, hk.2 _ _ (hP b hb) n4, hk.2 _ _ (hP b hb) n5, hk.2 _ _ (hP b hb) n6, hk.2 _ _ (hP b hb) n7⟩, Kc.trees hk hP h1, Kc.trees hk hP h2⟩

theorem Sound.get : ∀ {F : Trees} {i : Nat} {z : Nd}, Sound F → F.list[i]? = some z → SoundN z
  | .nil, i, z, _, h => by simp [Trees.list] at h
  | .cons k s ks lo hi r, 0, z, hs, h => by
    simp [Trees.list] at h
    subst h
    exact ⟨hs.1, hs.2.1⟩
  | .cons k s ks lo hi r, i + 1, z, hs, h => Sound.get hs.2.2 (by simpa [Trees.list] using h)
/-- How many nodes the first k trees have. -/
def Trees.first : Trees → Nat → Nat
  | .nil, _ => 0
  | .cons _ _ _ _ _ _, 0 => 0
  | .cons _ _ ks _ _ r, k + 1 => 1 + ks.size + r.first k
section
variable {l Bn N : Nat} {P : Nat → Prop} {J Jx : List Item → World → Prop}
end

set_option maxHeartbeats 1000000 in
/-- tree.nodes: the tree is boxed; the function value holds the box. -/
theorem nodes_go (x : Nd) (B : Option Addr) (cap : Nat) (w : World) :
    Calls Tryd.prog 53 #[ndV x B cap] w fun e w' => e = .returned (.func (.func 73) #[] #[.pointer (some ⟨w.heap.size, 0, none⟩)]) ∧ w' = w.alloc (.cells (ndA x B cap) 28) := by
  unfold ndV
  go_enter Tryd.func53, Tryd.ntmps53
  go_wp2
  go_light
  go_ret
  exact ⟨rfl, rfl⟩
end Go.Proofs.YtchfipjclbpomaaDoor
namespace Go.Proofs.YtchfipjclbpomaaDoor
open Go.RowKit Go.Shelf
set_option linter.unusedSimpArgs false
set_option linter.unusedVariables false
set_option maxRecDepth 100000
attribute [local go_sem] Oper.semAt_some

/-- A node, with the slice of its kids. -/
abbrev ItemX := Nd × Option Addr × Nat
def itemX (q : ItemX) : Array Value := #[ndV q.1 q.2.1 q.2.2]
/-- All nodes, each ahead of its kids. -/
def Trees.nodes : Trees → List Nd
  | .nil => []
  | .cons k s ks lo hi r => ⟨k, s, ks, lo, hi⟩ :: (ks.nodes ++ r.nodes)
def Nd.nodes (x : Nd) : List Nd := x :: x.kids.nodes
theorem Trees.nodes_len : ∀ F : Trees, F.nodes.length = F.size
  | .nil => rfl
  | .cons k s ks lo hi r => by
    have h1 := Trees.nodes_len ks
    have h2 := Trees.nodes_len r
    simp [Trees.nodes, Trees.size, h1, h2]
    omega
theorem Nd.nodes_len (x : Nd) : x.nodes.length = x.size := by
  unfold Nd.nodes Nd.size
  rw [List.length_cons, Trees.nodes_len]
  omega
/-- The nodes of the first trees. -/
def Trees.upto : Trees → Nat → List Nd
  | .nil, _ => []
  | .cons _ _ _ _ _ _, 0 => []
  | .cons k s ks lo hi r, i + 1 => ⟨k, s, ks, lo, hi⟩ :: (ks.nodes ++ r.upto i)
theorem Trees.upto_zero (F : Trees) : F.upto 0 = [] := by cases F <;> rfl
theorem Trees.upto_succ : ∀ {F : Trees} {i : Nat} {z : Nd}, F.list[i]? = some z → F.upto (i + 1) = F.upto i ++ z.nodes
  | .nil, i, z, h => by simp [Trees.list] at h
  | .cons k s ks lo hi r, 0, z, h => by
    simp [Trees.list] at h
    subst h
    simp [Trees.upto, Trees.upto_zero, Nd.nodes]
  | .cons k s ks lo hi r, i + 1, z, h => by
    have := Trees.upto_succ (F := r) (i := i) (by simpa [Trees.list] using h)
    simp only [Trees.upto] at this ⊢
    rw [this]
    simp
theorem Trees.upto_prefix : ∀ (F : Trees) (i : Nat), F.upto i <+: F.nodes
  | .nil, i => List.prefix_refl _
  | .cons k s ks lo hi r, 0 => List.nil_prefix
  | .cons k s ks lo hi r, i + 1 => by
    have := Trees.upto_prefix r i
    obtain ⟨t, ht⟩ := this
    exact ⟨t, by simp [Trees.upto, Trees.nodes, ← ht]⟩
theorem Trees.upto_all : ∀ (F : Trees), F.upto F.len = F.nodes
  | .nil => rfl
  | .cons k s ks lo hi r => by
    have := Trees.upto_all r
    simp [Trees.upto, Trees.nodes, Trees.len, this]

section
variable {l Bn N : Nat} {P : Nat → Prop} {J Jx : List ItemX → World → Prop}
def WalkX (l Bn N : Nat) (P : Nat → Prop) (J Jx : List ItemX → World → Prop) (n : Nat) : Prop := ∀ (m : Nat) (x : Nd) (B : Option Addr) (cap : Nat) (pre : List ItemX) (W : World), x.size ≤ n → Bn < W.heap.size → TreesAt W P x.kids B → J pre W → pre.length + x.size ≤ N →
  CallsIn Fence.wide m Tryd.prog 74 #[ndV x B cap, .func (.yield l) #[] #[]] W fun e W' =>
    (e = .returned (.bool true) ∧ (∃ ys : List ItemX, ys.map (·.1) = pre.map (·.1) ++ x.nodes ∧ J ys W') ∧ Kc Bn W W') ∨ (e = .returned (.bool false) ∧ ∃ q : List ItemX, q.map (·.1) <+: pre.map (·.1) ++ x.nodes ∧ Jx q W')
set_option maxHeartbeats 2000000 in
theorem walkx_step (hP : ∀ b, P b → b ≠ Bn) (hN : N ≤ 4611686018427387903) (hJ : ∀ s W o, J s W → J s (World.alloc W o))
    (hY : ∀ m pre (x : ItemX) W, J pre W → pre.length < N → YieldAt Fence.wide m Tryd.prog l (itemX x) W fun e W' =>
      (e = .returned (.bool true) ∧ J (pre ++ [x]) W' ∧ Kc Bn W W') ∨ (e = .returned (.bool false) ∧ Jx (pre ++ [x]) W'))
    {n : Nat} (ih : WalkX l Bn N P J Jx n) : WalkX l Bn N P J Jx (n + 1) := by
  intro m x B cap pre W hsz hBn ht h0 hlen
  have hx1 : 1 ≤ x.size := by unfold Nd.size; omega
  have hxs : x.size = 1 + x.kids.size := rfl
  have hk0 := Trees.len_size x.kids
  have hlk : x.kids.len ≤ 4611686018427387903 := by omega
  have HA := Lib.hid (show Kc Bn W (W.alloc (.cells (ndA x B cap) 28)) from Kc.below ((Below.refl _ _).alloc (Nat.le_refl _) _))
  have HK := Lib.hid (Blk.new W 28 (ndA x B cap))
  obtain ⟨fn, tmps, assign, body, hy, hR⟩ := hY (m - 1) pre (x, B, cap) (W.alloc (.cells (ndA x B cap) 28)) (hJ _ _ _ h0) (by omega)
  have HR := Lib.hid hR
  have HT := Lib.hid ht
  have hne : W.heap.size ≠ Bn := by omega
  clear hR ht
  unfold itemX at hy
  dsimp only at hy
  unfold ndV ndA at hy
  unfold ndV
  refine callsIn_of_wp Tryd.func74 rfl trivial ?_ rfl
  simp only [Tryd.ntmps74, List.size_toArray, List.length_cons, List.length_nil, Nat.reduceAdd, Nat.reduceSub, Array.replicate_succ, Array.replicate_zero, List.push_toArray, List.append_toArray, List.nil_append, List.cons_append]
  have hdd : ∀ k : Nat, (Fence.wide.depth.isSome = true → 1 ≤ k) := fun k h => by cases h
  gi_wp2
  refine ⟨hdd _, HR.out.mono ?_⟩
  rintro e W3 (⟨rfl, hJ3, hk3⟩ | ⟨rfl, hJx3⟩)
  · have hK3 := HA.out.trans hk3
    have c5 : W3.cell? ⟨W.heap.size, 5, none⟩ = some (.slice B x.kids.len cap) := hk3.2 ⟨W.heap.size, 5, none⟩ _ hne (HK.out.cell 5)
    have HJ3 := Lib.hid hJ3
    have HK3 := Lib.hid hK3
    clear hJ3 hk3 hK3 HR hy HA HK
    gi_wp2
    gi_loopw [14] (fun v wr => ∃ k : Nat, v = .int .i64 (k : Int) ∧ k ≤ x.kids.len ∧ Hid ((∃ ys : List ItemX, ys.map (·.1) = pre.map (·.1) ++ x :: x.kids.upto k ∧ J ys wr) ∧ Kc Bn W wr)) (fun v _ => x.kids.len - (intOf v).toNat)
    case atStart => exact ⟨0, rfl, Nat.zero_le _, Lib.hid ⟨⟨_, by rw [Trees.upto_zero]; simp, HJ3.out⟩, HK3.out⟩⟩
    case round =>
      obtain ⟨k, rfl, hk, HI⟩ := hrel
      clear HJ3 HK3
      by_cases hlt : k < x.kids.len
      · obtain ⟨z, hz⟩ : ∃ z, x.kids.list[k]? = some z := ⟨_, List.getElem?_eq_getElem (by rw [Trees.len_list]; exact hlt)⟩
        have hzs := Trees.size_get x.kids k z hz
        obtain ⟨⟨ys, hys, hJy⟩, hKy⟩ := HI.out
        obtain ⟨b, o, C, capc, rfl, _, _, ⟨c0, c1, c2, c3, c4, c5, c6, c7⟩, hkz⟩ := (Kc.trees hKy hP HT.out).get hz
        have hf1 := Trees.upto_succ hz
        have hf2 := (Trees.upto_prefix x.kids (k + 1)).length_le
        rw [Trees.nodes_len, hf1, List.length_append, Nd.nodes_len] at hf2
        have hyl := congrArg List.length hys
        simp only [List.length_map, List.length_append, List.length_cons] at hyl
        have hdl : (k : Int) < (x.kids.len : Int) := by omega
        have hkA : Kc Bn wr (wr.alloc (.cells (ndA z C capc) 28)) := Kc.below ((Below.refl _ _).alloc (Nat.le_refl _) _)
        have HC := Lib.hid (ih (m - 1) z C capc ys (wr.alloc (.cells (ndA z C capc) 28)) (by omega) (by have := hKy.1; simp; omega) (Kc.trees hkA hP hkz) (hJ _ _ _ hJy) (by omega))
        have HKy := Lib.hid (hKy.trans hkA)
        have HF := Lib.hid (show ys.map (·.1) ++ z.nodes = pre.map (·.1) ++ x :: x.kids.upto (k + 1) by rw [hys, hf1]; simp)
        clear hyl
        clear hz hzs hys hJy hKy hkz hf1 hf2 hkA HI
        unfold ndV at HC
        gi_wp2
        refine ⟨trivial, hdd _, HC.out.mono ?_⟩
        clear HC
        rintro e W4 (⟨rfl, ⟨ys4, hl4, hJ4⟩, hk4⟩ | ⟨rfl, q, hqp, hq⟩)
        · have HI4 := Lib.hid (show (∃ ys : List ItemX, ys.map (·.1) = pre.map (·.1) ++ x :: x.kids.upto (k + 1) ∧ J ys W4) ∧ Kc Bn W W4 from ⟨⟨ys4, hl4.trans HF.out, hJ4⟩, HKy.out.trans hk4⟩)
          clear hl4 hJ4 hk4 HF HKy c0 c1 c2 c3 c4 c5 c6 c7
          dsimp only
          gi_wp2
          go_roundw
          case rel => exact ⟨k + 1, by go_num, by omega, HI4⟩
          case measure => simp [intOf]; omega
        · have HQ := Lib.hid (show q.map (·.1) <+: pre.map (·.1) ++ x.nodes ∧ Jx q W4 from ⟨by
            rw [HF.out] at hqp
            exact hqp.trans (by unfold Nd.nodes; exact (List.prefix_append_right_inj _).2 (List.cons_prefix_cons.2 ⟨rfl, Trees.upto_prefix _ _⟩)), hq⟩)
          clear hq hqp HF HKy c0 c1 c2 c3 c4 c5 c6 c7
          dsimp only
          gi_wp2
          go_ret
          exact .inr ⟨rfl, q, HQ.out⟩
      · have hdl : ¬ (k : Int) < (x.kids.len : Int) := by omega
        obtain rfl : k = x.kids.len := by omega
        obtain ⟨⟨ys, hys, hJy⟩, hKy⟩ := HI.out
        have HY := Lib.hid (show (∃ ys : List ItemX, ys.map (·.1) = pre.map (·.1) ++ x.nodes ∧ J ys wr) ∧ Kc Bn W wr from ⟨⟨ys, by rw [hys, Trees.upto_all]; rfl, hJy⟩, hKy⟩)
        clear hys hJy hKy HI
        gi_wp2
        go_ret
        exact .inl ⟨rfl, HY.out.1, HY.out.2⟩
  · gi_wp2
    go_ret
    exact .inr ⟨rfl, _, by unfold Nd.nodes; simp, hJx3⟩
theorem walkx_all (hP : ∀ b, P b → b ≠ Bn) (hN : N ≤ 4611686018427387903) (hJ : ∀ s W o, J s W → J s (World.alloc W o))
    (hY : ∀ m pre (x : ItemX) W, J pre W → pre.length < N → YieldAt Fence.wide m Tryd.prog l (itemX x) W fun e W' =>
      (e = .returned (.bool true) ∧ J (pre ++ [x]) W' ∧ Kc Bn W W') ∨ (e = .returned (.bool false) ∧ Jx (pre ++ [x]) W')) : ∀ n, WalkX l Bn N P J Jx n
  | 0 => fun m x B cap pre W h => by unfold Nd.size at h; omega
  | n + 1 => walkx_step hP hN hJ hY (walkx_all hP hN hJ hY n)
end

set_option maxHeartbeats 1000000 in
theorem nodesx1_in (n : Nat) (x : Nd) (B : Option Addr) (cap : Nat) (l Bs Bn : Nat) (P : Nat → Prop) (hP : ∀ b, P b → b ≠ Bn) (hsz : x.size ≤ 4611686018427387903) (J Jx : List ItemX → World → Prop) (hJ : ∀ s W o, J s W → J s (World.alloc W o))
    (hY : ∀ pre (y : ItemX) W, J pre W → pre.length < x.size → YieldAt Fence.wide (n - 1) Tryd.prog l (itemX y) W fun e W' =>
      (e = .returned (.bool true) ∧ J (pre ++ [y]) W' ∧ Kc Bn W W') ∨ (e = .returned (.bool false) ∧ Jx (pre ++ [y]) W'))
    (W : World) (hb : Blk W Bs 28 (ndA x B cap)) (hBn : Bn < W.heap.size) (ht : TreesAt W P x.kids B) (h0 : J [] W) :
    CallsIn Fence.wide n Tryd.prog 73 #[.func (.yield l) #[] #[], .pointer (some ⟨Bs, 0, none⟩)] W fun e W' => (∃ v, e = .returned v) ∧
      ((∃ ys : List ItemX, ys.map (·.1) = x.nodes ∧ J ys W') ∨ (∃ pre : List ItemX, pre.map (·.1) <+: x.nodes ∧ Jx pre W')) := by
  have HC := Lib.hid (walkx_all (N := x.size) hP hsz hJ (fun m pre x W hj hl => yieldAt_any rfl m (hY pre x W hj hl)) x.size (n - 1) x B cap [] W (Nat.le_refl _) hBn ht h0 (by simp))
  have c0 : W.cell? ⟨Bs, 0, none⟩ = some (.int .i64 x.kind) := hb.cell 0
  have c1 : W.cell? ⟨Bs, 1, none⟩ = some (.int .u64 ((word x.set.testBit 0 : Nat) : Int)) := hb.cell 1
  have c2 : W.cell? ⟨Bs, 2, none⟩ = some (.int .u64 ((word x.set.testBit 1 : Nat) : Int)) := hb.cell 2
  have c3 : W.cell? ⟨Bs, 3, none⟩ = some (.int .u64 ((word x.set.testBit 2 : Nat) : Int)) := hb.cell 3
  have c4 : W.cell? ⟨Bs, 4, none⟩ = some (.int .u64 ((word x.set.testBit 3 : Nat) : Int)) := hb.cell 4
  have c5 : W.cell? ⟨Bs, 5, none⟩ = some (.slice B x.kids.len cap) := hb.cell 5
  have c6 : W.cell? ⟨Bs, 6, none⟩ = some (.int .i64 x.lo) := hb.cell 6
  have c7 : W.cell? ⟨Bs, 7, none⟩ = some (.int .i64 x.hi) := hb.cell 7
  have hdd : ∀ k : Nat, (Fence.wide.depth.isSome = true → 1 ≤ k) := fun k h => by cases h
  clear hb ht h0 hY hsz
  refine callsIn_of_wp Tryd.func73 rfl trivial ?_ rfl
  simp only [Tryd.ntmps73, List.size_toArray, List.length_cons, List.length_nil, Nat.reduceAdd, Nat.reduceSub, Array.replicate_succ, Array.replicate_zero, List.push_toArray, List.append_toArray, List.nil_append, List.cons_append]
  gi_wp2
  refine ⟨trivial, hdd _, HC.out.mono ?_⟩
  rintro e W1 (⟨rfl, ⟨ys, hys, hJ1⟩, _⟩ | ⟨rfl, q, hqp, hq⟩)
  · dsimp only
    gi_wp2
    go_end0
    exact ⟨⟨_, rfl⟩, .inl ⟨ys, by simpa using hys, hJ1⟩⟩
  · dsimp only
    gi_wp2
    go_end0
    exact ⟨⟨_, rfl⟩, .inr ⟨q, by simpa using hqp, hq⟩⟩
/-- What tree.nodes hands back hands out all nodes, each ahead of its kids. -/
theorem nodesx_stops (n : Nat) (x : Nd) (B : Option Addr) (cap : Nat) (Bs Bn : Nat) (P : Nat → Prop) (w : World) (hP : ∀ b, P b → b ≠ Bn) (hsz : x.size ≤ 4611686018427387903) (hb : Blk w Bs 28 (ndA x B cap)) (hBn : Bn < w.heap.size) (ht : TreesAt w P x.kids B) :
    SeqStopsK Fence.wide n Tryd.prog 73 #[.pointer (some ⟨Bs, 0, none⟩)] itemX (Kc Bn) (fun ys => ys.map (·.1) = x.nodes) (fun pre => pre.map (·.1) <+: x.nodes) x.size w := fun l J Jx W hW hJ _ hY h0 =>
  nodesx1_in n x B cap l Bs Bn P hP hsz J Jx (fun s W o h => hJ s W _ none h (World.grownBy_alloc W o none) (fun r e => by cases e)) hY W (hb.below hW hb.lt) (by have := hW.size; omega) (ht.below hW) h0

end Go.Proofs.YtchfipjclbpomaaDoor
namespace Go.Proofs.YtchfipjclbpomaaDoor
open Go.RowKit Go.Shelf
set_option linter.unusedSimpArgs false
set_option linter.unusedVariables false
set_option maxRecDepth 100000
attribute [local go_sem] Oper.semAt_some

theorem Kc.put {Bn : Nat} (W : World) (l : Nat) (o o' : Obj) (h : W.heap[l]? = some o) (hc : o.isCells = false) : Kc Bn W (W.putObj l o') :=
  ⟨(grownBy_putObj' W l o').size, fun p v _ hv => cell_kept hv (grownBy_putObj' W l o') (fun r e => by cases e; exact ⟨o, h, hc⟩)⟩
theorem Kc.setCell {Bn : Nat} (W : World) (v : Value) : Kc Bn W (W.setCell ⟨Bn, 0, none⟩ v) :=
  ⟨by simp, fun p u hp hu => (World.cell?_of_block (Below.heap_setCell W ⟨Bn, 0, none⟩ v p.block hp)).trans hu⟩
theorem keepsFrom_below {B : Nat} {W W' : World} (h : Below W.heap.size W W') : KeepsFrom B W W' :=
  ⟨h.size, fun k o _ hk _ => (h.block k (Array.getElem?_eq_some_iff.1 hk).1).trans hk⟩

theorem ret_boolc {fn : Func} {t : Tmp} (h : fn.results = #[.cell t 4]) {tmps : Array Value} {w : World} {g : Nat} {b : Bool}
    (hp : tmps.getD t undef = .pointer (some ⟨g, 0, none⟩)) (hc : w.cell? ⟨g, 0, none⟩ = some (.bool b)) :
    (results fn tmps).run Tryd.prog w = .ok (.bool b) w := by
  have hp' : tmps[t]?.getD undef = .pointer (some ⟨g, 0, none⟩) := by simpa using hp
  simp [results, h, hp', asAddr, go_sem, hc]
end Go.Proofs.YtchfipjclbpomaaDoor
namespace Go.Proofs.YtchfipjclbpomaaDoor
open Go.RowKit Go.Shelf
set_option linter.unusedSimpArgs false
set_option linter.unusedVariables false
set_option maxRecDepth 100000
attribute [local go_sem] Oper.semAt_some

/-- May a node be, without its kids? -/
def aloneN (y : Nd) : Bool := aloneV y.kind (word y.set.testBit 0 : Nat) (word y.set.testBit 1 : Nat) (word y.set.testBit 2 : Nat) (word y.set.testBit 3 : Nat) y.kids.len y.lo y.hi
/-- May a tree be? -/
def rightT (x : Nd) : Bool := decide (x.nodes.length ≤ 4096) && x.nodes.all aloneN
theorem aloneN_go (y : Nd) (B : Option Addr) (cap : Nat) (w : World) :
    Calls Tryd.prog 54 #[ndV y B cap] w fun e w' => e = .returned (.bool (aloneN y)) ∧ Below w.heap.size w w' :=
  alone_any _ _ _ _ _ _ _ B _ cap w
theorem rightT_yes {x : Nd} {ys : List ItemX} (h : ys.map (·.1) = x.nodes) (h1 : ys.length ≤ 4096) (h2 : ∀ q ∈ ys, aloneN q.1 = true) : rightT x = true := by
  unfold rightT
  rw [← h, Bool.and_eq_true, decide_eq_true_eq, List.all_eq_true]
  refine ⟨by simpa using h1, fun y hy => ?_⟩
  obtain ⟨q, hq, rfl⟩ := List.mem_map.1 hy
  exact h2 q hq
theorem rightT_no {x : Nd} {ys : List ItemX} (h : ys.map (·.1) <+: x.nodes) (h1 : 4096 < ys.length ∨ ∃ q ∈ ys, aloneN q.1 = false) : rightT x = false := by
  unfold rightT
  rcases h1 with h1 | ⟨q, hq, hf⟩
  · have := h.length_le
    rw [List.length_map] at this
    rw [Bool.and_eq_false_iff]
    exact .inl (by rw [decide_eq_false_iff_not]; omega)
  · rw [Bool.and_eq_false_iff]
    refine .inr ?_
    cases ha : x.nodes.all aloneN
    · rfl
    · have := List.all_eq_true.1 ha q.1 (h.subset (List.mem_map.2 ⟨q, hq, rfl⟩))
      rw [hf] at this
      cases this

set_option maxHeartbeats 4000000 in
theorem trightx_in (n : Nat) (hn : 3 ≤ n) (x : Nd) (B : Option Addr) (cap : Nat) (w : World) (hsz : x.size ≤ 4611686018427387903) (ht : TreesAt w (fun b => b < w.heap.size) x.kids B) :
    CallsIn Fence.wide n Tryd.prog 29 #[ndV x B cap] w fun e w' => e = .returned (.bool (rightT x)) ∧ Below w.heap.size w w' := by
  have h1 : 1 ≤ n := by omega
  unfold ndV
  refine callsIn_of_wp_marks Tryd.func29 rfl trivial ?_ rfl
  simp only [Tryd.ntmps29, List.size_toArray, List.length_cons, List.length_nil, Nat.reduceAdd, Nat.reduceSub, Array.replicate_succ, Array.replicate_zero, List.push_toArray, List.append_toArray, List.nil_append, List.cons_append]
  gi_wp2_with (refine ⟨trivial, ?_⟩; gi_at_call 53; refine (callsIn_wide.2 (nodes_go x B cap _)).mono ?_; rintro e w' ⟨rfl, rfl⟩)
  have bR := ((Boxed.new (w.alloc (.cells (ndA x B cap) 28)) 4 (.bool false)).alloc (.cells #[.int .i64 0] 3)).alloc (.cells (ndA x B cap) 28)
  have bN := (Boxed.new ((w.alloc (.cells (ndA x B cap) 28)).alloc (.cells #[.bool false] 4)) 3 (.int .i64 0)).alloc (.cells (ndA x B cap) 28)
  have bS := Blk.new (((w.alloc (.cells (ndA x B cap) 28)).alloc (.cells #[.bool false] 4)).alloc (.cells #[.int .i64 0] 3)) 28 (ndA x B cap)
  simp only [World.size_alloc] at bR bN bS
  have hB0 : Below w.heap.size w ((((w.alloc (.cells (ndA x B cap) 28)).alloc (.cells #[.bool false] 4)).alloc (.cells #[.int .i64 0] 3)).alloc (.cells (ndA x B cap) 28)) := ((((Below.refl _ w).alloc (Nat.le_refl _) _).alloc (by simp) _).alloc (by simp; omega) _).alloc (by simp; omega) _
  have hsz0 : ((((w.alloc (.cells (ndA x B cap) 28)).alloc (.cells #[.bool false] 4)).alloc (.cells #[.int .i64 0] 3)).alloc (.cells (ndA x B cap) 28)).heap.size = w.heap.size + 4 := by simp
  unfold ndA at bR bN hB0 hsz0
  unfold ndA
  obtain ⟨W0, hW0⟩ : ∃ W0, ((((w.alloc (.cells #[.int .i64 x.kind, .int .u64 ((word x.set.testBit 0 : Nat) : Int), .int .u64 ((word x.set.testBit 1 : Nat) : Int), .int .u64 ((word x.set.testBit 2 : Nat) : Int), .int .u64 ((word x.set.testBit 3 : Nat) : Int), .slice B x.kids.len cap, .int .i64 x.lo, .int .i64 x.hi] 28)).alloc (.cells #[.bool false] 4)).alloc (.cells #[.int .i64 0] 3)).alloc (.cells #[.int .i64 x.kind, .int .u64 ((word x.set.testBit 0 : Nat) : Int), .int .u64 ((word x.set.testBit 1 : Nat) : Int), .int .u64 ((word x.set.testBit 2 : Nat) : Int), .int .u64 ((word x.set.testBit 3 : Nat) : Int), .slice B x.kids.len cap, .int .i64 x.lo, .int .i64 x.hi] 28)) = W0 := ⟨_, rfl⟩
  have bS : Blk W0 (w.heap.size + 1 + 1 + 1) 28 (ndA x B cap) := by rw [← hW0]; exact bS
  rw [hW0] at bR bN hB0 hsz0 ⊢
  clear hW0
  refine wpIn_rangeFunc_ownH rfl h1 (gf := 73) (lb := #[.pointer (some ⟨w.heap.size + 1 + 1 + 1, 0, none⟩)]) rfl trivial (enters_of Tryd.func73 (by kernel_rfl) rfl)
    (nodesx_stops (n - 1) x B cap (w.heap.size + 1 + 1 + 1) (w.heap.size + 1 + 1) (fun b => b < w.heap.size) W0 (fun b hb => by omega) hsz bS (by omega) (ht.below hB0)) (fun h k => h.trans k) (fun W l o o' _ ho hc _ => Kc.put W l o o' ho hc) (Below.refl _ _) (fun _ => rfl)
    (fun pre W => ((Boxed W (w.heap.size + 1 + 1) 3 (.int .i64 ((pre.length : Nat) : Int)) ∧ Boxed W (w.heap.size + 1) 4 (.bool false)) ∧ (pre.length ≤ 4096 ∧ ∀ q ∈ pre, aloneN q.1 = true)) ∧ Below w.heap.size w W)
    (fun c pre W => c = .ret ∧ ((Boxed W (w.heap.size + 1) 4 (.bool false) ∧ (4096 < pre.length ∨ ∃ q ∈ pre, aloneN q.1 = false)) ∧ Below w.heap.size w W))
    (OwnFrom.and (OwnFrom.and (OwnFrom.and (Own.from (boxed_own _ _ _) _) (Own.from (boxed_own _ _ _) _)) (ownFrom_pure _ _)) (ownFrom_below (Nat.le_refl _) (by omega)))
    (fun c => OwnFrom.and (ownFrom_pure _ (fun _ => c = .ret)) (OwnFrom.and (OwnFrom.and (Own.from (boxed_own _ _ _) _) (ownFrom_pure _ _)) (ownFrom_below (Nat.le_refl _) (by omega))))
    ⟨⟨⟨bN, bR⟩, Nat.zero_le _, fun q hq => by cases hq⟩, hB0⟩
    (fun (q : ItemX) a' W => ∃ Bx, w.heap.size + 1 + 1 < Bx ∧ Blk W Bx 28 (ndA q.1 q.2.1 q.2.2) ∧ a' = { tmps := #[ndV x B cap, .pointer (some ⟨w.heap.size, 0, none⟩), .pointer (some ⟨w.heap.size + 1, 0, none⟩), .pointer (some ⟨w.heap.size + 1 + 1, 0, none⟩), .pointer (some ⟨Bx, 0, none⟩), ndV x B cap, .func (.func 73) #[] #[.pointer (some ⟨w.heap.size + 1 + 1 + 1, 0, none⟩)], ndV q.1 q.2.1 q.2.2, undef, undef, undef, undef, undef, undef, undef, undef, undef], defers := [] })
    (fun q a' _ X Y row hs hg hr => by
      obtain ⟨Bx, h1, h2, h3⟩ := hs
      exact ⟨Bx, h1, h2.grown hg (fun e => by
        obtain ⟨o, ho, hc⟩ := (hr _ e.symm).2
        rw [show X.heap[Bx]? = _ from h2] at ho
        cases ho
        cases hc), h3⟩)
    ?assign ?body ?done ?stop
  case assign =>
    rintro l pre q W K ⟨⟨⟨bN1, bR1⟩, hp1⟩, hB1⟩ hK
    unfold itemX ndV
    gi_wp2
    exact hK _ _ ((KeepsOthers.alloc _ _).from _) (Kc.below ((Below.refl _ W).alloc (Nat.le_refl _) _)) ⟨⟨⟨bN1.alloc _, bR1.alloc _⟩, hp1⟩, hB1.alloc hB1.size _⟩ ⟨W.heap.size, bN1.lt, Blk.new W 28 _, rfl⟩
  case body =>
    rintro l pre q a' W hl _ ⟨⟨⟨bN1, bR1⟩, hpl, hpa⟩, hB1⟩ ⟨Bx, hBx, bX, rfl⟩ hlt
    have cN := bN1.cell
    have fN := bN1.frozen
    have cR := bR1.cell
    have fR := bR1.frozen
    have HPA := Lib.hid hpa
    have x0 : W.cell? ⟨Bx, 0, none⟩ = some (.int .i64 q.1.kind) := bX.cell 0
    have x1 : W.cell? ⟨Bx, 1, none⟩ = some (.int .u64 ((word q.1.set.testBit 0 : Nat) : Int)) := bX.cell 1
    have x2 : W.cell? ⟨Bx, 2, none⟩ = some (.int .u64 ((word q.1.set.testBit 1 : Nat) : Int)) := bX.cell 2
    have x3 : W.cell? ⟨Bx, 3, none⟩ = some (.int .u64 ((word q.1.set.testBit 2 : Nat) : Int)) := bX.cell 3
    have x4 : W.cell? ⟨Bx, 4, none⟩ = some (.int .u64 ((word q.1.set.testBit 3 : Nat) : Int)) := bX.cell 4
    have x5 : W.cell? ⟨Bx, 5, none⟩ = some (.slice q.2.1 q.1.kids.len q.2.2) := bX.cell 5
    have x6 : W.cell? ⟨Bx, 6, none⟩ = some (.int .i64 q.1.lo) := bX.cell 6
    have x7 : W.cell? ⟨Bx, 7, none⟩ = some (.int .i64 q.1.hi) := bX.cell 7
    have hn1 : IntKind.i64.wrap (((pre.length : Nat) : Int) + 1) = (((pre ++ [q]).length : Nat) : Int) := by
      rw [IntKind.wrap_i64, List.length_append, List.length_singleton]; omega
    have hA := Lib.hid (aloneN_go q.1 q.2.1 q.2.2 (W.setCell ⟨w.heap.size + 1 + 1, 0, none⟩ (.int .i64 (((pre ++ [q]).length : Nat) : Int))))
    have hb1 : Below w.heap.size w (W.setCell ⟨w.heap.size + 1 + 1, 0, none⟩ (.int .i64 (((pre ++ [q]).length : Nat) : Int))) := hB1.setCell (p := ⟨w.heap.size + 1 + 1, 0, none⟩) (by simp; omega) _
    have hN1 := bN1.set (.int .i64 (((pre ++ [q]).length : Nat) : Int))
    have hR1 := bR1.other (B' := w.heap.size + 1 + 1) (by omega) (.int .i64 (((pre ++ [q]).length : Nat) : Int))
    have hk1 := Kc.setCell (Bn := w.heap.size + 1 + 1) W (.int .i64 (((pre ++ [q]).length : Nat) : Int))
    have hf1 := (KeepsOthers.setCell W ⟨w.heap.size + 1 + 1, 0, none⟩ (.int .i64 (((pre ++ [q]).length : Nat) : Int))).from W0.heap.size
    have hdd : ∀ k : Nat, (Fence.wide.depth.isSome = true → 1 ≤ k) := fun k h => by cases h
    have HX := Lib.hid (show _ ∧ _ ∧ _ ∧ _ ∧ _ from ⟨hb1, hN1, hR1, hk1, hf1⟩)
    clear hb1 hN1 hR1 hk1 hf1 bN1 bR1 hB1 bX bN bR bS hB0 ht hsz hpa
    have HM := Lib.hid (show (((pre ++ [q]).length : Nat) : Int) = (pre.length : Int) + 1 by simp)
    have hM1 : (((pre ++ [q]).length : Nat) : Int) = (pre.length : Int) + 1 := HM.out
    generalize hM : (((pre ++ [q]).length : Nat) : Int) = M at *
    have HMq := Lib.hid hM
    unfold ndV at hA
    unfold ndV
    rcases Nat.lt_or_ge pre.length 4096 with hc | hc
    · have hle : M ≤ 4096 := by omega
      clear hM hM1
      cases hv : aloneN q.1
      all_goals
        rw [hv] at hA
        have HV := Lib.hid hv
        clear hv
        gi_wp2
        refine ⟨trivial, hdd _, (CallsIn.inRound l (callsIn_wide.2 hA.out)).mono ?_⟩
        rintro e W3 ⟨rfl, hb3⟩
        have HZ := Lib.hid (show KeepsFrom W0.heap.size W W3 ∧ Kc (w.heap.size + 1 + 1) W W3 ∧ (Boxed W3 (w.heap.size + 1 + 1) 3 (.int .i64 M) ∧ Boxed W3 (w.heap.size + 1) 4 (.bool false)) ∧ Below w.heap.size w W3 from by
          obtain ⟨hb1, hN1, hR1, hk1, hf1⟩ := HX.out
          exact ⟨hf1.trans (keepsFrom_below hb3), hk1.trans (Kc.below hb3), ⟨(hb3.block _ hN1.lt).trans hN1, (hb3.block _ hR1.lt).trans hR1⟩, hb1.trans (hb3.mono hb1.size)⟩)
        have cR3 := HZ.out.2.2.1.2.cell
        have fR3 := HZ.out.2.2.1.2.frozen
        clear HX hb3 hA cR fR
        dsimp only
        gi_wp2
      · exact ⟨HZ.out.1.trans ((KeepsOthers.setCell _ _ _).from _), rfl, ⟨HZ.out.2.2.1.2.set _, .inr ⟨q, by simp, HV.out⟩⟩, HZ.out.2.2.2.setCell (p := ⟨w.heap.size + 1, 0, none⟩) (by simp) _⟩
      · refine ⟨HZ.out.1, HZ.out.2.1, ⟨⟨by rw [HMq.out]; exact HZ.out.2.2.1.1, HZ.out.2.2.1.2⟩, by simp; omega, fun r hr => ?_⟩, HZ.out.2.2.2⟩
        rcases List.mem_append.1 hr with hr | hr
        · exact HPA.out r hr
        · rw [List.mem_singleton.1 hr]; exact HV.out
    · have hgt : decide ((4096 : Int) < M) = true := (by rw [decide_eq_true_eq]; omega)
      have hgl : 4096 < (pre ++ [q]).length := by simp; omega
      clear hM hM1 hA
      gi_wp2
      refine ⟨trivial, ?_⟩
      gi_wp2
      obtain ⟨hb1, hN1, hR1, hk1, hf1⟩ := HX.out
      exact ⟨hf1.trans ((KeepsOthers.setCell _ _ _).from _), rfl, ⟨hR1.set _, .inl hgl⟩, hb1.setCell (p := ⟨w.heap.size + 1, 0, none⟩) (by simp) _⟩
  case done =>
    rintro D ys W hD hys ⟨⟨⟨bN1, bR1⟩, hpl, hpa⟩, hB1⟩ hK
    have HRT := Lib.hid (rightT_yes hys hpl hpa)
    have cR := bR1.cell
    have fR := bR1.frozen
    gi_wp2
    have hK2 := (KeepsOthers.setCell W ⟨w.heap.size + 1, 0, none⟩ (.bool true)).same D _ hK rfl
    refine ⟨by simp, .inl ⟨_, _, rfl, run_takeDeferred hK2, ?_⟩⟩
    have hc : ((W.setCell ⟨w.heap.size + 1, 0, none⟩ (.bool true)).putObj D (.deferred none)).cell? ⟨w.heap.size + 1, 0, none⟩ = some (.bool true) := cell_kept (bR1.set _).cell (grownBy_putObj' _ D (.deferred none)) (fun r e => by cases e; exact ⟨_, hK2, rfl⟩)
    exact ⟨_, ret_boolc rfl rfl hc, by rw [HRT.out], (hB1.setCell (p := ⟨w.heap.size + 1, 0, none⟩) (by simp) _).trans (belowK_b (w := w) (Nat.le_refl _) _ D _ _ (by omega) hK2 rfl rfl)⟩
  case stop =>
    rintro D c pre W hD hsp ⟨rfl, ⟨bR1, hbad⟩, hB1⟩ hK
    have HRT := Lib.hid (rightT_no hsp hbad)
    gi_wp2
    refine ⟨by simp, .inl ⟨_, _, rfl, run_takeDeferred hK, ?_⟩⟩
    have hc : (W.putObj D (.deferred none)).cell? ⟨w.heap.size + 1, 0, none⟩ = some (.bool false) := cell_kept bR1.cell (grownBy_putObj' _ D (.deferred none)) (fun r e => by cases e; exact ⟨_, hK, rfl⟩)
    exact ⟨_, ret_boolc rfl rfl hc, by rw [HRT.out], hB1.trans (belowK_b (w := w) (Nat.le_refl _) _ D _ _ (by omega) hK rfl rfl)⟩
/-- tree.Right at any tree. -/
theorem tright_any (x : Nd) (B : Option Addr) (cap : Nat) (w : World) (hsz : x.size ≤ 4611686018427387903) (ht : TreesAt w (fun b => b < w.heap.size) x.kids B) :
    Calls Tryd.prog 29 #[ndV x B cap] w fun e w' => e = .returned (.bool (rightT x)) ∧ Below w.heap.size w w' :=
  callsIn_wide.1 (trightx_in 3 (Nat.le_refl _) x B cap w hsz ht)
end Go.Proofs.YtchfipjclbpomaaDoor
namespace Go.Proofs.YtchfipjclbpomaaDoor
open Go.RowKit
set_option linter.unusedSimpArgs false
set_option linter.unusedVariables false
set_option maxRecDepth 100000

/-- What a node that says so often takes, its kid taking n. -/
def timesW (lo hi : Int) (n : Nat) : Nat :=
  if n = 0 then 0
  else if hi < 0 then min topN (min topN (lo.toNat * n) + n + 1)
  else if lo < hi then min topN (min topN (lo.toNat * n) + min topN ((hi - lo).toNat * n) + 1)
  else min topN (lo.toNat * n)
/-- What a node takes, its kids taking n together. -/
def wgtK (k lo hi : Int) (n : Nat) : Nat := if k = 2 ∨ k = 4 then n else if k = 9 then timesW lo hi n else min topN (n + 1)
/-- What trees take together. -/
def Trees.wsum : Trees → Nat
  | .nil => 0
  | .cons k _ ks lo hi r => wgtK k lo hi (min topN ks.wsum) + r.wsum
/-- Numbers of times that may be. -/
def numsOk (y : Nd) : Prop := y.kind = 9 → 0 ≤ y.lo ∧ y.lo ≤ 1000 ∧ -1 ≤ y.hi ∧ y.hi ≤ 1000
theorem numsOk_of {y : Nd} (h : aloneN y = true) : numsOk y := by
  intro h9
  unfold aloneN aloneV at h
  rw [if_neg (by omega)] at h
  split at h
  · cases h
  try rw [if_pos h9] at h
  rw [Bool.and_eq_true] at h
  have := h.1
  unfold timesB at this
  simp only [Bool.and_eq_true, Bool.or_eq_true, decide_eq_true_eq] at this
  omega
end Go.Proofs.YtchfipjclbpomaaDoor
namespace Go.Proofs.YtchfipjclbpomaaDoor
open Go.RowKit
set_option linter.unusedSimpArgs false
set_option linter.unusedVariables false
set_option maxRecDepth 100000

/-- A machine: its states' labels, its links, its edges (from, set, to). -/
structure MachS where
  accept : List Nat
  links : List (Nat × Nat)
  edges : List (Nat × Nat × Nat)
def MachS.states (m : MachS) : Nat := m.accept.length
def MachS.state (m : MachS) (label : Nat) : MachS := ⟨m.accept ++ [label], m.links, m.edges⟩
def MachS.link (m : MachS) (a b : Nat) : MachS := ⟨m.accept, m.links ++ [(a, b)], m.edges⟩
def MachS.edge (m : MachS) (a s b : Nat) : MachS := ⟨m.accept, m.links, m.edges ++ [(a, s, b)]⟩
/-- How a tree is laid: the machine, and the end. -/
abbrev LayF := MachS → Nat → MachS × Nat
def noF : LayF := fun m i => (m, i)
def catF : List LayF → LayF
  | [], m, i => (m, i)
  | f :: l, m, i => catF l (f m i).1 (f m i).2
def altF : List LayF → MachS → Nat → MachS × List Nat
  | [], m, _ => (m, [])
  | f :: l, m, i => ((altF l (f m i).1 i).1, (f m i).2 :: (altF l (f m i).1 i).2)
def linksF (t : Nat) : List Nat → MachS → MachS
  | [], m => m
  | e :: l, m => linksF t l (m.link e t)
def barF (fs : List LayF) : LayF := fun m i => (linksF (altF fs m i).1.states (altF fs m i).2 ((altF fs m i).1.state 0), (altF fs m i).1.states)
def loopF (plus : Bool) (f : LayF) : LayF := fun m i =>
  ((f ((m.state 0).link i m.states) m.states).1.link (f ((m.state 0).link i m.states) m.states).2 m.states, if plus = true then (f ((m.state 0).link i m.states) m.states).2 else m.states)
def optF (f : LayF) : LayF := fun m i => ((((f m i).1.state 0).link (f m i).2 (f m i).1.states).link i (f m i).1.states, (f m i).1.states)
def timesF (f : LayF) : Nat → LayF
  | 0, m, i => (m, i)
  | k + 1, m, i => timesF f k (f m i).1 (f m i).2
def optsF (f : LayF) (t : Nat) : Nat → LayF
  | 0, m, i => (m, i)
  | k + 1, m, i => optsF f t k (f (m.link i t) i).1 (f (m.link i t) i).2
/-- A tree so often, to an end of its own. -/
def upF (f : LayF) (k : Nat) : LayF := fun m i => ((optsF f m.states k (m.state 0) i).1.link (optsF f m.states k (m.state 0) i).2 m.states, m.states)
def repF (n : Nat) (lo hi : Int) (f : LayF) : LayF := fun m i =>
  if n = 0 then (m, i)
  else if hi < 0 then loopF false f (timesF f lo.toNat m i).1 (timesF f lo.toNat m i).2
  else if hi = lo then timesF f lo.toNat m i
  else upF f (hi - lo).toNat (timesF f lo.toNat m i).1 (timesF f lo.toNat m i).2
def setF (s : Nat) : LayF := fun m i => ((m.state 0).edge i s m.states, m.states)
def nilF : LayF := fun m _ => (m.state 0, m.states)
/-- How a node is laid, its kids being laid so; n: what the first one takes. -/
def layK (k : Int) (s : Nat) (lo hi : Int) (fs : List LayF) (n : Nat) : LayF :=
  if k = 2 then noF
  else if k = 3 then setF s
  else if k = 4 then catF fs
  else if k = 5 then barF fs
  else if k = 6 then loopF false (fs.headD noF)
  else if k = 7 then loopF true (fs.headD noF)
  else if k = 8 then optF (fs.headD noF)
  else if k = 9 then repF n lo hi (fs.headD noF)
  else nilF
def Trees.headW : Trees → Nat
  | .nil => 0
  | .cons k _ ks lo hi _ => wgtK k lo hi (min topN ks.wsum)
def Trees.lays : Trees → List LayF
  | .nil => []
  | .cons k s ks lo hi r => layK k s lo hi ks.lays ks.headW :: r.lays
def Nd.lay (x : Nd) : LayF := layK x.kind x.set x.lo x.hi x.kids.lays x.kids.headW
/-! What is added. -/
theorem repl_add (n k : Nat) : List.replicate (n + k) 0 = List.replicate n 0 ++ List.replicate k (0 : Nat) := by
  induction n with
  | zero => simp
  | succ n ih => rw [Nat.succ_add, List.replicate_succ, List.replicate_succ, ih]; rfl
def NewS (m : MachS) (i n a : Nat) : Prop := a = i ∨ m.states ≤ a ∧ a < m.states + n
/-- From a place of a machine on, n states were added, none labelled, and c links and edges at most, to new states, from new ones or that place. -/
def Adds (m : MachS) (i n c : Nat) (m' : MachS) (e : Nat) : Prop :=
  ∃ L E, m' = ⟨m.accept ++ List.replicate n 0, m.links ++ L, m.edges ++ E⟩ ∧ (∀ p ∈ L, NewS m i n p.1 ∧ m.states ≤ p.2 ∧ p.2 < m.states + n) ∧
    (∀ p ∈ E, NewS m i n p.1 ∧ m.states ≤ p.2.2 ∧ p.2.2 < m.states + n) ∧ NewS m i n e ∧ L.length + E.length ≤ c
theorem Adds.states {m m' : MachS} {i n c e : Nat} (h : Adds m i n c m' e) : m'.states = m.states + n := by
  obtain ⟨L, E, rfl, _⟩ := h
  simp [MachS.states]
theorem Adds.new {m m' : MachS} {i n c e : Nat} (h : Adds m i n c m' e) : NewS m i n e := by
  obtain ⟨L, E, _, _, _, h, _⟩ := h
  exact h
theorem Adds.more {m m' : MachS} {i n c c' e : Nat} (h : Adds m i n c m' e) (hc : c ≤ c') : Adds m i n c' m' e := by
  obtain ⟨L, E, h0, h1, h2, h3, h4⟩ := h
  exact ⟨L, E, h0, h1, h2, h3, by omega⟩
theorem Adds.zero (m : MachS) (i : Nat) : Adds m i 0 0 m i := ⟨[], [], by simp, by simp, by simp, .inl rfl, by simp⟩
theorem Adds.then {m m1 m2 : MachS} {i n c e1 j n' c' e2 : Nat} (h : Adds m i n c m1 e1) (h' : Adds m1 j n' c' m2 e2) (hj : NewS m i n j) : Adds m i (n + n') (c + c') m2 e2 := by
  have hs := h.states
  obtain ⟨L, E, rfl, h1, h2, h3, h4⟩ := h
  obtain ⟨L', E', rfl, g1, g2, g3, g4⟩ := h'
  unfold NewS at *
  refine ⟨L ++ L', E ++ E', ?_, ?_, ?_, ?_, ?_⟩
  · simp only [repl_add, List.append_assoc]
  · intro p hp
    rcases List.mem_append.1 hp with hp | hp
    · have := h1 p hp; unfold NewS; omega
    · have := g1 p hp; unfold NewS; omega
  · intro p hp
    rcases List.mem_append.1 hp with hp | hp
    · have := h2 p hp; unfold NewS; omega
    · have := g2 p hp; unfold NewS; omega
  · unfold NewS; omega
  · simp; omega
theorem Adds.state {m m' : MachS} {i n c e : Nat} (h : Adds m i n c m' e) : Adds m i (n + 1) c (m'.state 0) m'.states := by
  have hs := h.states
  obtain ⟨L, E, h0, h1, h2, h3, h4⟩ := h
  refine ⟨L, E, ?_, fun p hp => ?_, fun p hp => ?_, ?_, h4⟩
  · rw [h0]
    simp only [MachS.state, repl_add, List.append_assoc]
    rfl
  · have := h1 p hp; unfold NewS at *; omega
  · have := h2 p hp; unfold NewS at *; omega
  · unfold NewS; omega
theorem Adds.link {m m' : MachS} {i n c e a b : Nat} (h : Adds m i n c m' e) (ha : NewS m i n a) (hb : m.states ≤ b) (hb2 : b < m.states + n) : Adds m i n (c + 1) (m'.link a b) e := by
  obtain ⟨L, E, rfl, h1, h2, h3, h4⟩ := h
  refine ⟨L ++ [(a, b)], E, by simp [MachS.link], fun p hp => ?_, h2, h3, by simp; omega⟩
  rcases List.mem_append.1 hp with hp | hp
  · exact h1 p hp
  · rw [List.mem_singleton.1 hp]; exact ⟨ha, hb, hb2⟩
theorem Adds.edge {m m' : MachS} {i n c e a s b : Nat} (h : Adds m i n c m' e) (ha : NewS m i n a) (hb : m.states ≤ b) (hb2 : b < m.states + n) : Adds m i n (c + 1) (m'.edge a s b) e := by
  obtain ⟨L, E, rfl, h1, h2, h3, h4⟩ := h
  refine ⟨L, E ++ [(a, s, b)], by simp [MachS.edge], h1, fun p hp => ?_, h3, by simp; omega⟩
  rcases List.mem_append.1 hp with hp | hp
  · exact h2 p hp
  · rw [List.mem_singleton.1 hp]; exact ⟨ha, hb, hb2⟩
/-! What nodes take, never stopped. -/
theorem Trees.size_list : ∀ F : Trees, F.size = (F.list.map Nd.size).sum
  | .nil => rfl
  | .cons k s ks lo hi r => by rw [Trees.size, Trees.list, List.map_cons, List.sum_cons, Trees.size_list r]; rfl

/-! A node that may be, by its kind. -/
theorem aloneN_kids {y : Nd} (h : aloneN y = true) : (6 ≤ y.kind → y.kind ≤ 9 → y.kids.len = 1) ∧ (y.kind = 9 → 0 ≤ y.lo ∧ (y.hi = -1 ∨ y.lo ≤ y.hi)) ∧ (y.kind < 4 → y.kids.len = 0) ∧ 1 ≤ y.kind ∧ y.kind ≤ 9 := by
  unfold aloneN aloneV at h
  by_cases h3 : y.kind = 3
  · rw [if_pos h3] at h
    simp at h
    omega
  rw [if_neg h3] at h
  split at h
  · cases h
  by_cases h9 : y.kind = 9
  · rw [if_pos h9] at h
    unfold timesB at h
    simp at h
    omega
  · rw [if_neg h9] at h
    by_cases k1 : y.kind = 1 ∨ y.kind = 2 ∨ y.kind = 3
    · have e : arityS y.kind = 0 := by unfold arityS; rw [if_pos k1]
      rw [e] at h
      simp at h
      omega
    by_cases k2 : y.kind = 4 ∨ y.kind = 5
    · have e : arityS y.kind = 2 := by unfold arityS; rw [if_neg k1, if_pos k2]
      rw [e] at h
      simp at h
      omega
    by_cases k3 : 6 ≤ y.kind ∧ y.kind ≤ 9
    · have e : arityS y.kind = 1 := by unfold arityS; rw [if_neg k1, if_neg k2, if_pos k3]
      rw [e] at h
      simp at h
      omega
    · have e : arityS y.kind = -1 := by unfold arityS; rw [if_neg k1, if_neg k2, if_neg k3]
      rw [e] at h
      simp at h
def Okays (F : Trees) : Prop := ∀ y ∈ F.nodes, aloneN y = true
/-! All trees. -/
end Go.Proofs.YtchfipjclbpomaaDoor
namespace Go.Proofs.YtchfipjclbpomaaDoor
open Go.RowKit
set_option linter.unusedSimpArgs false
set_option linter.unusedVariables false
set_option maxRecDepth 100000

theorem rightT_size {x : Nd} (h : rightT x = true) : x.size ≤ 4096 := by
  unfold rightT at h
  rw [Bool.and_eq_true, decide_eq_true_eq] at h
  rw [← x.nodes_len]
  exact h.1
end Go.Proofs.YtchfipjclbpomaaDoor
namespace Go.Proofs.YtchfipjclbpomaaDoor
open Go.RowKit
set_option linter.unusedSimpArgs false
set_option linter.unusedVariables false
set_option maxRecDepth 100000

theorem ownsRow_block {W W' : World} {base size k : Nat} {e : TypeId} {v : Value} {xs : List Value} (hr : W.ownsRow base e size v k xs) (hb : ∀ k, v.ownBlock = some k → W'.heap[k]? = W.heap[k]?) : W'.ownsRow base e size v k xs := by
  refine ⟨hr.1, ?_⟩
  rcases hr.2 with h | ⟨g, cap, cur, rfl, h1, h2, h3⟩
  · exact .inl h
  · exact .inr ⟨g, cap, cur, rfl, h1, (hb g rfl).trans h2, h3⟩
/-- What became of the world: blocks below base and those not of S stand; new blocks of S' are new. -/
structure Moves (base : Nat) (S : Nat → Prop) (w : World) (S' : Nat → Prop) (w' : World) : Prop where
  below : Below base w w'
  size : w.heap.size ≤ w'.heap.size
  kept : ∀ b, b < w.heap.size → ¬ S b → w'.heap[b]? = w.heap[b]?
  fresh : ∀ b, S' b → S b ∨ w.heap.size ≤ b
theorem Moves.refl (base : Nat) (S : Nat → Prop) (w : World) : Moves base S w S w := ⟨Below.refl _ _, Nat.le_refl _, fun _ _ _ => rfl, fun b hb => .inl hb⟩
theorem Moves.trans {base : Nat} {S S1 S2 : Nat → Prop} {w w1 w2 : World} (h : Moves base S w S1 w1) (h' : Moves base S1 w1 S2 w2) : Moves base S w S2 w2 :=
  ⟨h.below.trans h'.below, Nat.le_trans h.size h'.size, fun b hb hn => by
    have hn1 : ¬ S1 b := fun hb1 => by
      rcases h.fresh b hb1 with h2 | h2
      · exact hn h2
      · omega
    exact (h'.kept b (by have := h.size; omega) hn1).trans (h.kept b hb hn), fun b hb => by
    rcases h'.fresh b hb with h2 | h2
    · exact h.fresh b h2
    · right; have := h.size; omega⟩
theorem Moves.alloc {base : Nat} {S S1 : Nat → Prop} {w w1 : World} (h : Moves base S w S1 w1) (hb : base ≤ w.heap.size) (o : Obj) : Moves base S w S1 (w1.alloc o) :=
  ⟨h.below.alloc (by have := h.size; omega) o, by have := h.size; simp; omega, fun b hb hn => (Below.heap_alloc w1 o b (by have := h.size; omega)).trans (h.kept b hb hn), h.fresh⟩
theorem Moves.drew {base : Nat} {S S1 : Nat → Prop} {w w1 : World} (h : Moves base S w S1 w1) : Moves base S w S1 w1.drew := ⟨h.below.drew, h.size, h.kept, h.fresh⟩
theorem Moves.drewN {base : Nat} {S S1 : Nat → Prop} {w w1 : World} (h : Moves base S w S1 w1) (n : Nat) : Moves base S w S1 (w1.drewN n) := ⟨bel_drewN h.below n, h.size, h.kept, h.fresh⟩
/-- A store to a block of one's own. -/
theorem Moves.set {base : Nat} {S S1 : Nat → Prop} {w w1 : World} (h : Moves base S w S1 w1) {p : Addr} (hp : w.heap.size ≤ p.block) (hb : base ≤ w.heap.size) (u : Value) : Moves base S w S1 (w1.setCell p u) :=
  ⟨h.below.setCell (by omega) u, by have := h.size; simpa [World.setCell] using this, fun b hb hn => (Below.heap_setCell w1 p u b (by omega)).trans (h.kept b hb hn), h.fresh⟩
theorem Blk.moves {base : Nat} {S S1 : Nat → Prop} {w w1 : World} {b : Nat} {t : TypeId} {cs : Array Value} (h : Blk w b t cs) (hm : Moves base S w S1 w1) (hn : ¬ S b) : Blk w1 b t cs := (hm.kept b h.lt hn).trans h
theorem Moves.notIn {base : Nat} {S S1 : Nat → Prop} {w w1 : World} (h : Moves base S w S1 w1) {b : Nat} (hb : b < w.heap.size) (hn : ¬ S b) : ¬ S1 b := fun h1 => by
  rcases h.fresh b h1 with h2 | h2
  · exact hn h2
  · omega
/-- What a call keeps of everything below the heap's end, as far as laying goes. -/
theorem Moves.of_below {base : Nat} {S : Nat → Prop} {w w' : World} (h : Below w.heap.size w w') (hb : base ≤ w.heap.size) : Moves base S w S w' :=
  ⟨h.mono hb, h.size, fun b hb _ => h.block b hb, fun b hb => .inl hb⟩
/-- Trees that stand below base stay. -/
theorem TreesAt.moves {base : Nat} {S S1 : Nat → Prop} {w w1 : World} {F : Trees} {B : Option Addr} (h : TreesAt w (fun b => b < base) F B) (hm : Moves base S w S1 w1) : TreesAt w1 (fun b => b < base) F B :=
  h.keep (fun b o hb _ => hm.below.cell (p := ⟨b, o, none⟩) hb) (fun b hb _ => hb)
end Go.Proofs.YtchfipjclbpomaaDoor
namespace Go.Proofs.YtchfipjclbpomaaDoor
open Go.RowKit
set_option linter.unusedSimpArgs false
set_option linter.unusedVariables false
set_option maxRecDepth 100000

/-- The cells of blocks of P are as they were. -/
def KeepP (P : Nat → Prop) (w1 w2 : World) : Prop := ∀ b' o', P b' → w2.cell? ⟨b', o', none⟩ = w1.cell? ⟨b', o', none⟩
theorem cell_heap {w w' : World} {b o : Nat} (h : w'.heap[b]? = w.heap[b]?) : w'.cell? ⟨b, o, none⟩ = w.cell? ⟨b, o, none⟩ := by
  simp only [World.cell?, h]
theorem KeepP.refl (P : Nat → Prop) (w : World) : KeepP P w w := fun _ _ _ => rfl
theorem KeepP.start (P : Nat → Prop) (w : World) : KeepP P w w.drew := fun _ _ _ => rfl
theorem KeepP.drew {P : Nat → Prop} {w1 w2 : World} (h : KeepP P w1 w2) : KeepP P w1 w2.drew := h
theorem KeepP.by {P : Nat → Prop} {w1 w2 w3 : World} (h : KeepP P w1 w2) (hk : ∀ b, P b → w3.heap[b]? = w2.heap[b]?) : KeepP P w1 w3 := fun b' o' h' => (cell_heap (hk b' h')).trans (h b' o' h')
theorem KeepP.alloc {P : Nat → Prop} {w1 w2 : World} (h : KeepP P w1 w2) (hP : ∀ b, P b → b < w2.heap.size) (o : Obj) : KeepP P w1 (w2.alloc o) := h.by fun b hb => Below.heap_alloc w2 o b (hP b hb)
theorem KeepP.below {P : Nat → Prop} {w1 w2 w3 : World} (h : KeepP P w1 w2) (hB : Below w2.heap.size w2 w3) (hP : ∀ b, P b → b < w2.heap.size) : KeepP P w1 w3 := h.by fun b hb => hB.block b (hP b hb)
theorem KeepP.moves {P : Nat → Prop} {base : Nat} {S S2 : Nat → Prop} {w1 w2 w3 : World} (h : KeepP P w1 w2) (hv : Moves base S w2 S2 w3) (hP : ∀ b, P b → b < w2.heap.size ∧ ¬ S b) : KeepP P w1 w3 := h.by fun b hb => hv.kept b (hP b hb).1 (hP b hb).2
theorem KeepP.grown {P : Nat → Prop} {w1 w2 w3 : World} {row : Option Nat} (h : KeepP P w1 w2) (hg : w2.grownBy w3 row) (hP : ∀ b, P b → b < w2.heap.size ∧ some b ≠ row) : KeepP P w1 w3 := h.by fun b hb => hg.block b (hP b hb).1 (hP b hb).2
theorem KeepP.set {P : Nat → Prop} {w1 w2 : World} (h : KeepP P w1 w2) {p : Addr} (hP : ∀ b, P b → b ≠ p.block) (u : Value) : KeepP P w1 (w2.setCell p u) := h.by fun b hb => Below.heap_setCell w2 p u b (hP b hb)
theorem two_of {Q : Nat → Prop} {p q : Nat} (hp : Q p) (hq : Q q) : ∀ b, b = p ∨ b = q → Q b := by
  rintro b (rfl | rfl)
  · exact hp
  · exact hq
end Go.Proofs.YtchfipjclbpomaaDoor
namespace Go.Proofs.YtchfipjclbpomaaDoor
set_option linter.unusedSimpArgs false
set_option linter.unusedVariables false

theorem lexS_dot {bs : List Nat} {i : Nat} (h : byteAt bs i = 46) : lexS bs i = .ok (⟨1, i, dotSet, 0, 0⟩, i + 1) := by
  unfold lexS; rw [if_pos h]
theorem lexS_esc {bs : List Nat} {i c j : Nat} (h : byteAt bs i = 92) (he : escS bs i = some (c, j)) : lexS bs i = .ok (⟨1, i, among [c] 1, 0, 0⟩, j) := by
  unfold lexS; rw [if_neg (by omega), if_pos h, he]
theorem lexS_esc_no {bs : List Nat} {i : Nat} (h : byteAt bs i = 92) (he : escS bs i = none) : lexS bs i = .error (14, i) := by
  unfold lexS; rw [if_neg (by omega), if_pos h, he]
theorem lexS_class {bs : List Nat} {i : Nat} {p : Nat → Bool} {j : Nat} (h : byteAt bs i = 91) (he : readS bs i = .ok (p, j)) : lexS bs i = .ok (⟨1, i, p, 0, 0⟩, j) := by
  unfold lexS; rw [if_neg (by omega), if_neg (by omega), if_pos h, he]
theorem lexS_class_no {bs : List Nat} {i : Nat} {e : Wrong} (h : byteAt bs i = 91) (he : readS bs i = .error e) : lexS bs i = .error e := by
  unfold lexS; rw [if_neg (by omega), if_neg (by omega), if_pos h, he]
theorem lexS_rep {bs : List Nat} {i : Nat} (h : byteAt bs i = 123) : lexS bs i = repS bs i := by
  unfold lexS; rw [if_neg (by omega), if_neg (by omega), if_neg (by omega), if_pos h]
theorem lexS_form {bs : List Nat} {i : Nat} (h : byteAt bs i = 93 ∨ byteAt bs i = 125 ∨ byteAt bs i = 10) : lexS bs i = .error (3, i) := by
  unfold lexS; rw [if_neg (by omega), if_neg (by omega), if_neg (by omega), if_neg (by omega), if_pos h]
/-- A byte that next leaves to sign. -/
def Common (c : Nat) : Prop := c ≠ 46 ∧ c ≠ 92 ∧ c ≠ 91 ∧ c ≠ 123 ∧ c ≠ 93 ∧ c ≠ 125 ∧ c ≠ 10
theorem lexS_sign {bs : List Nat} {i : Nat} (h : Common (byteAt bs i)) (hk : signKind (byteAt bs i) ≠ 0) : lexS bs i = .ok (⟨signKind (byteAt bs i), i, noSet, 0, 0⟩, i + 1) := by
  obtain ⟨h1, h2, h3, h4, h5, h6, h7⟩ := h
  unfold lexS; rw [if_neg h1, if_neg h2, if_neg h3, if_neg h4, if_neg (by omega), if_pos hk]
theorem lexS_own {bs : List Nat} {i : Nat} (h : Common (byteAt bs i)) (hk : signKind (byteAt bs i) = 0) : lexS bs i = .ok (⟨1, i, among [byteAt bs i] 1, 0, 0⟩, i + 1) := by
  obtain ⟨h1, h2, h3, h4, h5, h6, h7⟩ := h
  unfold lexS; rw [if_neg h1, if_neg h2, if_neg h3, if_neg h4, if_neg (by omega), if_neg (by omega)]

end Go.Proofs.YtchfipjclbpomaaDoor
namespace Go.Proofs.YtchfipjclbpomaaDoor
open Go.RowKit
set_option linter.unusedSimpArgs false
set_option linter.unusedVariables false
set_option maxRecDepth 100000

/-- What is wrong with lexemes ahead of all reading. -/
def readyS (L : List Lex) : Int × Int := if L.all rightS = false then (6, 0) else if h : 1024 < L.length then (4, (L[1024]).place) else (0, 0)
theorem readyS_bad {L : List Lex} {k : Nat} {x : Lex} (h : L[k]? = some x) (hx : rightS x = false) : readyS L = (6, 0) := by
  refine if_pos ?_
  cases ha : L.all rightS
  · rfl
  · have := List.all_eq_true.1 ha x (List.mem_of_getElem? h)
    rw [hx] at this
    cases this
theorem all_right {L : List Lex} (h : ∀ (k : Nat) x, L[k]? = some x → rightS x = true) : L.all rightS = true := List.all_eq_true.2 fun x hx => by
  obtain ⟨k, hk, rfl⟩ := List.mem_iff_getElem.1 hx
  exact h k _ (List.getElem?_eq_getElem hk)
theorem readyS_ok {L : List Lex} (h : L.all rightS = true) (hl : L.length ≤ 1024) : readyS L = (0, 0) := by
  unfold readyS
  rw [if_neg (by rw [h]; decide), dif_neg (by omega)]
theorem readyS_long {L : List Lex} {x : Lex} (h : L.all rightS = true) (hx : L[1024]? = some x) : readyS L = (4, x.place) := by
  obtain ⟨hl, rfl⟩ := List.getElem?_eq_some_iff.1 hx
  unfold readyS
  rw [if_neg (by rw [h]; decide), dif_pos hl]

theorem ret_badv {fn : Func} {t : Tmp} (h : fn.results = #[.cell t 34]) {tmps : Array Value} {w : World} {g : Nat} {a b : Value} (hp : tmps.getD t undef = .pointer (some ⟨g, 0, none⟩)) (hb : Blk w g 34 #[a, b]) :
    (results fn tmps).run Tryd.prog w = .ok (.agg #[a, b]) w :=
  results_cell_row h tmps w g _ _ _ _ hp hb Tryd.underlying34 rfl (by kernel_rfl)
set_option maxHeartbeats 2000000 in
theorem ready_go (A : Option Addr) (cap : Nat) (L : List Lex) (w : World) (hA : LexsAt w w.heap.size A L) (hlen : L.length ≤ 140737488355328) :
    Calls Tryd.prog 34 #[.slice A L.length cap] w fun e w' => e = .returned (.agg #[.int .i64 (readyS L).1, .int .i64 (readyS L).2]) ∧ Below w.heap.size w w' := by
  have HA := Lib.hid hA
  have hb0 : Below w.heap.size w (w.alloc (.cells #[.int .i64 0, .int .i64 0] 34)) := (Below.refl _ _).alloc (Nat.le_refl _) _
  have HB0 := Lib.hid hb0
  have HZ0 := Lib.hid (Blk.new w 34 #[.int .i64 0, .int .i64 0])
  clear hA hb0
  go_enter Tryd.func34, Tryd.ntmps34
  go_wp2
  go_loopw [7] (fun i wr => ∃ k : Nat, i = .int .i64 (k : Int) ∧ k ≤ L.length ∧ Hid (Below w.heap.size w wr) ∧ Hid (Blk wr w.heap.size 34 #[.int .i64 0, .int .i64 0]) ∧ Hid (∀ j x, j < k → L[j]? = some x → rightS x = true)) (fun i _ => L.length - (intOf i).toNat)
  case atStart => exact ⟨0, rfl, Nat.zero_le _, HB0, HZ0, Lib.hid (fun j x hj => by omega)⟩
  case round =>
    clear HB0 HZ0
    obtain ⟨k, rfl, hk, HB, HZ, HR⟩ := hrel
    by_cases hlt : k < L.length
    · obtain ⟨x, hx⟩ : ∃ x, L[k]? = some x := ⟨_, List.getElem?_eq_getElem hlt⟩
      obtain ⟨b, o, rfl, hbl, hc⟩ := HA.out (by omega)
      have hbl' : b < wr.heap.size := Nat.lt_of_lt_of_le hbl HB.out.size
      obtain ⟨c0, c1, c2, c3, c4, c5, c6, c7⟩ := ((HA.out.below HB.out) (by omega)).elim fun b' h => h.elim fun o' h => by
        obtain ⟨e, _, h⟩ := h
        obtain ⟨rfl, rfl⟩ : b = b' ∧ o = o' := by simpa using e
        exact h k x hx
      clear hc
      have Hx := Lib.hid hx
      have hdl : (k : Int) < (L.length : Int) := by omega
      have HZx := Lib.hid (HZ.out.alloc (.cells #[.int .i64 x.kind, .int .i64 x.place, .int .u64 ((word (x.set) 0 : Nat) : Int), .int .u64 ((word (x.set) 1 : Nat) : Int), .int .u64 ((word (x.set) 2 : Nat) : Int), .int .u64 ((word (x.set) 3 : Nat) : Int), .int .i64 x.lo, .int .i64 x.hi] 52))
      have HBx := Lib.hid (HB.out.alloc HB.out.size (.cells #[.int .i64 x.kind, .int .i64 x.place, .int .u64 ((word (x.set) 0 : Nat) : Int), .int .u64 ((word (x.set) 1 : Nat) : Int), .int .u64 ((word (x.set) 2 : Nat) : Int), .int .u64 ((word (x.set) 3 : Nat) : Int), .int .i64 x.lo, .int .i64 x.hi] 52))
      clear hx
      go_wp2_with fail
      refine (right_go _ _ _ _ _ _ _ _ _).mono ?_
      rintro e w1 ⟨rfl, hb1⟩
      have HZ1 := Lib.hid (HZx.out.below hb1 HZx.out.lt)
      have HB1 := Lib.hid (HBx.out.trans (hb1.mono HBx.out.size))
      obtain ⟨b0, b1, f0, f1⟩ := HZ1.out.c2
      clear hb1 c0 c1 c2 c3 c4 c5 c6 c7
      cases hr : rightS x
      · have hr' := hr
        unfold rightS at hr'
        rw [hr']
        have HV := Lib.hid (readyS_bad Hx.out hr)
        clear hr hr'
        go_wp2
        go_light
        rw [HV.out]
        exact bodyPost_ret (ret_badv Tryd.results34 rfl HZ1.out.set2) rfl ⟨rfl, below_set2 HB1.out (Nat.le_refl _) _ _⟩
      · have hr' := hr
        unfold rightS at hr'
        rw [hr']
        have Hr := Lib.hid hr
        clear hr hr'
        go_wp2
        go_roundw
        case rel => exact ⟨k + 1, by go_num, by omega, HB1, HZ1, Lib.hid (fun j y hj hy => by
          rcases Nat.lt_or_ge j k with h | h
          · exact HR.out j y h hy
          · obtain rfl : j = k := by omega
            have := Hx.out.symm.trans hy
            obtain rfl : x = y := by simpa using this
            exact Hr.out)⟩
        case measure => simp [intOf]; omega
    · have hdl : ¬ (k : Int) < (L.length : Int) := by omega
      have Hall := Lib.hid (all_right (L := L) (fun j x hx => HR.out j x (by have := (List.getElem?_eq_some_iff.1 hx).1; omega) hx))
      obtain ⟨b0, b1, f0, f1⟩ := HZ.out.c2
      by_cases h1024 : L.length ≤ 1024
      · have HV := Lib.hid (readyS_ok Hall.out h1024)
        have hd : ¬ (1024 : Int) < (L.length : Int) := by omega
        clear h1024
        go_wp2
        go_light
        rw [HV.out]
        exact bodyPost_ret (ret_badv Tryd.results34 rfl HZ.out.set2) rfl ⟨rfl, below_set2 HB.out (Nat.le_refl _) _ _⟩
      · obtain ⟨x, hx⟩ : ∃ x, L[1024]? = some x := ⟨_, List.getElem?_eq_getElem (by omega)⟩
        have HV := Lib.hid (readyS_long Hall.out hx)
        have hd : (1024 : Int) < (L.length : Int) := by omega
        obtain ⟨b, o, rfl, hbl, hc⟩ := HA.out (by omega)
        obtain ⟨_, c1, _⟩ := ((HA.out.below HB.out) (by omega)).elim fun b' h => h.elim fun o' h => by
          obtain ⟨e, _, h⟩ := h
          obtain ⟨rfl, rfl⟩ : b = b' ∧ o = o' := by simpa using e
          exact h 1024 x hx
        have c1' : wr.cell? ⟨b, o + 8193, none⟩ = some (.int .i64 x.place) := c1
        clear h1024 hc hx c1
        go_wp2
        go_light
        rw [HV.out]
        exact bodyPost_ret (ret_badv Tryd.results34 rfl HZ.out.set2) rfl ⟨rfl, below_set2 HB.out (Nat.le_refl _) _ _⟩

end Go.Proofs.YtchfipjclbpomaaDoor
