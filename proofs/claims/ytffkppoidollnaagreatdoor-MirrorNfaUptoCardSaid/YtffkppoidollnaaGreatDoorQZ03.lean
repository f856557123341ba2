/-
  The pieces of the members below c + 1, from those of the members below c. No program in sight. The text of a class, and that a class is read back from it. No program in sight. The contract of the program's reader of items. How many bits of a number of 64 bits are set: the sum in parallel, byte by byte. No program in sight. The contracts of bits.OnesCount64 and sets.Count. What every proof of a plain row of this seat wants: an argument that is a slice of bytes. What every proof of a plain row wants: an argument that is a slice of lexemes. What every proof of a row wants whose arguments are trees: a slice of trees that came in, and how many nodes they have. What a card of trees wants: the table that the rows list; a tree that came in by value. Sums and products that stop at a top: num.Add, num.Mul (of two) and the reference's, at the top 2^40. tree.walk and tree.nodes: the iterator over the nodes of a tree that may be, each ahead of its kids. tree.walk and tree.nodes at any tree: the iterator over the nodes, each ahead of its kids. tree.Right: a tree that may be. tree.Right at any tree. How many states trees take: the plain number, and the contracts of nfa.sum, nfa.times, nfa.Weight, nfa.Size. The machine of trees in plain words, and what a tree adds to a machine. What is said of the machine of trees, in plain words: its shape. A machine in memory: its rows, the program's layer, and what laying may change. The contracts of the layer's state and link, and of an edge laid. The contracts of the layer's plain, cat, loop and opt, their kids' being known. The contract of the layer's alt. Machines in memory that are only read; the contract of nfa.Right. What every proof of a row wants whose arguments are machines: a machine that came in, a slice of numbers that came in. The text of a byte: the contracts of lexeme.Literal and of its reference. The digits of a number of 1000 at most: the contracts of num.Show and of its reference. The reference's Bytes: the members of a set in order, in a slice of its own. The reference's Spans: the pieces of a set, in a slice of its own. Its invariant: ahead of c, what is out and what is open make the pieces of the members below c. The contract of sets.Least at a set of one byte. The contracts of reference 02's Of, and of reference 05's Dot. A row of lexemes, off what a call owns; and what the three texts of knows split into. Cells of some blocks that stand through a drawn region. What stands at a place, by its byte. No program in sight. The contract of parse.ready. The contract of parse.Lexemes. The two closures of mirror.Nfa: a link and an edge turned round. The contracts of mirror.each, of links and of edges, with the closures of mirror.Nfa. Rows turned round in place: bytes.
-/
import Derived.Test.YtffkppoidollnaaGreatDoorRows
import Derived.WalkKit
import Derived.ProofKit
import Derived.OpenShut
import Derived.ShutString
import Derived.ChangeOld
import Derived.SizedLaws
import Derived.Shelf.Spec.TrailingZeros
import Derived.Deep.DeepHandedRow
import Derived.Lib.LaidTab
import Derived.Lib.Hide
import Derived.Deep.Light
import Derived.RangeFuncNested
import Derived.RangeFuncBound
import Derived.RangeFuncCalls
import Derived.RangeFuncLeaves
import Derived.Shelf.Abstract
import Derived.Shelf.RegionOpen
import Derived.OwnWalkIn
import Derived.TacticsInMore
import Derived.LoopNIn
import Derived.LoopIn
import Derived.RangeFuncBox
import Derived.Maps.AppendAt
import Derived.Deep.AppendLies
import Derived.Deep.RegionLaw
import Derived.Deep.RegionHeld3
import Derived.RegionTactic
import Derived.BigRegion
import Derived.OwnWalk
import Derived.Deep.RegionWith
import Derived.Shelf.RegionOpenPlain
import Derived.Test.YtffkppoidollnaaGreatDoorQSpans
import Derived.Test.YtffkppoidollnaaGreatDoorQZ02
import Derived.Test.YtffkppoidollnaaGreatDoorQZ01
namespace Go.Proofs.YtffkppoidollnaaGreatDoor
set_option linter.unusedSimpArgs false
set_option linter.unusedVariables false

end Go.Proofs.YtffkppoidollnaaGreatDoor
namespace Go.Proofs.YtffkppoidollnaaGreatDoor
set_option linter.unusedSimpArgs false
set_option linter.unusedVariables false

theorem chr_head (c : Nat) (hc : c < 256) : 1 ≤ (chrS c).length ∧ byteAt (chrS c) 0 ≠ 45 ∧ byteAt (chrS c) 0 ≠ 93 ∧ byteAt (chrS c) 0 ≠ 94 ∧ ∀ x ∈ chrS c, x < 256 := by
  have H : ∀ k : Fin 256, 1 ≤ (chrS k.val).length ∧ byteAt (chrS k.val) 0 ≠ 45 ∧ byteAt (chrS k.val) 0 ≠ 93 ∧ byteAt (chrS k.val) 0 ≠ 94 ∧ ∀ x ∈ chrS k.val, x < 256 := by decide +kernel
  exact H ⟨c, hc⟩
/-- The text of a piece. -/
def pieceS (x : Nat × Nat) : List Nat := chrS x.1 ++ ((if x.1 + 1 < x.2 then [45] else []) ++ (if x.1 < x.2 then chrS x.2 else []))
def piecesS (l : List (Nat × Nat)) : List Nat := l.flatMap pieceS
theorem piecesS_cons (x : Nat × Nat) (l : List (Nat × Nat)) : piecesS (x :: l) = pieceS x ++ piecesS l := by simp [piecesS]
theorem pieceS_one (a : Nat) : pieceS (a, a) = chrS a := by simp [pieceS]
theorem pieceS_two (a : Nat) : pieceS (a, a + 1) = chrS a ++ chrS (a + 1) := by simp [pieceS]
theorem pieceS_more (a b : Nat) (h : a + 1 < b) : pieceS (a, b) = chrS a ++ (45 :: chrS b) := by
  unfold pieceS
  rw [if_pos h, if_pos (by simp; omega)]; rfl
theorem pieceS_len (x : Nat × Nat) : (pieceS x).length ≤ 9 := by
  have h1 := chrS_len x.1
  have h2 := chrS_len x.2
  unfold pieceS
  simp only [List.length_append]
  split <;> split <;> simp <;> omega
theorem piecesS_len (l : List (Nat × Nat)) : (piecesS l).length ≤ l.length * 9 := by
  induction l with
  | nil => simp [piecesS]
  | cons x l ih => rw [piecesS_cons, List.length_append, List.length_cons]; have := pieceS_len x; omega
theorem spans_rise (xs : List Nat) (hx : xs.Pairwise (· < ·)) (h256 : ∀ x ∈ xs, x < 256) : ∀ x ∈ spans xs, x.1 ≤ x.2 := by
  induction xs using rev_ind with
  | h0 => simp [spans]
  | h1 xs x ih =>
    have ih := ih (List.pairwise_append.1 hx).1 (fun y hy => h256 y (by simp [hy]))
    rw [spans_snoc]
    rcases List.eq_nil_or_concat (spans xs) with h | ⟨m, ⟨a, b⟩, h⟩
    · rw [h, push_nil]; simp
    · rw [List.concat_eq_append] at h
      rw [h] at ih ⊢
      have hab := ih (a, b) (by simp)
      dsimp only at hab
      by_cases hb : b + 1 = x % 256
      · rw [push_on _ _ _ _ hb]
        intro q hq
        rcases List.mem_append.1 hq with hq | hq
        · exact ih q (by simp [hq])
        · simp at hq; subst hq; dsimp only; omega
      · rw [push_new _ _ _ _ hb]
        intro q hq
        rcases List.mem_append.1 hq with hq | hq
        · exact ih q hq
        · simp at hq; subst hq; dsimp only; omega
theorem elems_rise (p : Nat → Bool) (m : Nat) : (elems p m).Pairwise (· < ·) := by
  unfold elems
  exact (List.pairwise_lt_range).filter _
/-- The pieces of a set. -/
def cutsOf (p : Nat → Bool) : List (Nat × Nat) := spans (elems p 256)
theorem cutsOf_in (p : Nat → Bool) : ∀ x ∈ cutsOf p, x.1 ≤ x.2 ∧ x.2 < 256 := fun x hx => ⟨spans_rise _ (elems_rise p 256) (fun x hx => elems_lt hx) x hx, (spans_small _ x hx).2⟩
/-- Is the class of a set turned? -/
def isTurned (p : Nat → Bool) : Bool := decide ((elems p 256).length = 0) || decide (128 < (elems p 256).length) && decide ((elems p 256).length < 256)
/-- The text of a set's class. -/
def showS (p : Nat → Bool) : List Nat := if isTurned p = true then [91, 94] ++ (piecesS (cutsOf (fun c => !p c)) ++ [93]) else [91] ++ (piecesS (cutsOf p) ++ [93])
theorem showS_turned {p : Nat → Bool} (h : isTurned p = true) : showS p = [91, 94] ++ (piecesS (cutsOf (fun c => !p c)) ++ [93]) := if_pos h
theorem showS_plain {p : Nat → Bool} (h : isTurned p = false) : showS p = [91] ++ (piecesS (cutsOf p) ++ [93]) := if_neg (by rw [h]; decide)

theorem showS_len (p : Nat → Bool) : (showS p).length ≤ 2400 := by
  have hh : ∀ q : Nat → Bool, (piecesS (cutsOf q)).length ≤ 2304 := by
    intro q
    have h1 := piecesS_len (cutsOf q)
    have h2 : (cutsOf q).length ≤ 256 := Nat.le_trans (spans_len _) (elems_len q 256)
    omega
  unfold showS
  have h1 := hh (fun c => !p c)
  have h2 := hh p
  split <;> simp <;> omega

end Go.Proofs.YtffkppoidollnaaGreatDoor
namespace Go.Proofs.YtffkppoidollnaaGreatDoor
open Go.RowKit
set_option linter.unusedSimpArgs false
set_option linter.unusedVariables false
set_option maxRecDepth 100000

theorem Rd.alloc {w : World} {g : Nat} {A : Option Addr} {cap : Nat} {bs : List Nat} {i start kind place : Int} (h : Rd w g A cap bs i start kind place) (o : Obj) : Rd (w.alloc o) g A cap bs i start kind place := Blk.alloc h o
theorem Rd.below {w w' : World} {B g : Nat} {A : Option Addr} {cap : Nat} {bs : List Nat} {i start kind place : Int} (h : Rd w g A cap bs i start kind place) (hb : Below B w w') (hg : g < B) : Rd w' g A cap bs i start kind place := Blk.below h hb hg
theorem Rd.set4 {w : World} {g g' : Nat} {A : Option Addr} {cap : Nat} {bs : List Nat} {i start kind place : Int} (h : Rd w g A cap bs i start kind place) (hg : g ≠ g') (a b c d : Value) :
    Rd ((((w.setCell ⟨g', 0, none⟩ a).setCell ⟨g', 1, none⟩ b).setCell ⟨g', 2, none⟩ c).setCell ⟨g', 3, none⟩ d) g A cap bs i start kind place :=
  Blk.far (Blk.far (Blk.far (Blk.far h (by dsimp only; omega) _) (by dsimp only; omega) _) (by dsimp only; omega) _) (by dsimp only; omega) _
theorem only_set4 {a w : World} {g g' : Nat} (h : a.grownBy w (some g)) (hg : a.heap.size ≤ g') (x y z u : Value) :
    a.grownBy ((((w.setCell ⟨g', 0, none⟩ x).setCell ⟨g', 1, none⟩ y).setCell ⟨g', 2, none⟩ z).setCell ⟨g', 3, none⟩ u) (some g) :=
  only_set' (only_set' (only_set' (only_set' h hg _ _) hg _ _) hg _ _) hg _ _
/-- What the reader of an item leaves behind. -/
def ItemPost (g : Nat) (A : Option Addr) (cap : Nat) (bs : List Nat) (i s : Nat) (w : World) (e : Ending) (w' : World) : Prop :=
  w.grownBy w' (some g) ∧
  match itemS bs s i with
  | .ok (lo, hi, j) => e = .returned (.agg #[.int .u64 ((word (between lo hi) 0 : Nat) : Int), .int .u64 ((word (between lo hi) 1 : Nat) : Int), .int .u64 ((word (between lo hi) 2 : Nat) : Int), .int .u64 ((word (between lo hi) 3 : Nat) : Int)]) ∧ Rd w' g A cap bs (j : Int) (s : Int) 0 0
  | .error (k, p) => k ≠ 0 ∧ ∃ (q : Nat → Bool) (j : Nat), e = .returned (.agg #[.int .u64 ((word (q) 0 : Nat) : Int), .int .u64 ((word (q) 1 : Nat) : Int), .int .u64 ((word (q) 2 : Nat) : Int), .int .u64 ((word (q) 3 : Nat) : Int)]) ∧ Rd w' g A cap bs (j : Int) (s : Int) k p
theorem ItemPost.yes {g : Nat} {A : Option Addr} {cap : Nat} {bs : List Nat} {i s : Nat} {w : World} {e : Ending} {w' : World} {lo hi j : Nat} (hg : w.grownBy w' (some g)) (hs : itemS bs s i = .ok (lo, hi, j))
    (he : e = .returned (.agg #[.int .u64 ((word (between lo hi) 0 : Nat) : Int), .int .u64 ((word (between lo hi) 1 : Nat) : Int), .int .u64 ((word (between lo hi) 2 : Nat) : Int), .int .u64 ((word (between lo hi) 3 : Nat) : Int)])) (hr : Rd w' g A cap bs (j : Int) (s : Int) 0 0) : ItemPost g A cap bs i s w e w' := by
  unfold ItemPost; rw [hs]; exact ⟨hg, he, hr⟩
theorem ItemPost.no {g : Nat} {A : Option Addr} {cap : Nat} {bs : List Nat} {i s : Nat} {w : World} {e : Ending} {w' : World} {k p : Int} (q : Nat → Bool) (j : Nat) (hg : w.grownBy w' (some g)) (hs : itemS bs s i = .error (k, p)) (hk : k ≠ 0)
    (he : e = .returned (.agg #[.int .u64 ((word (q) 0 : Nat) : Int), .int .u64 ((word (q) 1 : Nat) : Int), .int .u64 ((word (q) 2 : Nat) : Int), .int .u64 ((word (q) 3 : Nat) : Int)])) (hr : Rd w' g A cap bs (j : Int) (s : Int) k p) : ItemPost g A cap bs i s w e w' := by
  unfold ItemPost; rw [hs]; exact ⟨hg, hk, q, j, he, hr⟩

set_option maxHeartbeats 2000000 in
theorem item_bad1 (g : Nat) (A : Option Addr) (cap : Nat) (bs : List Nat) (i s : Nat) (B : Nat) (w : World) (hr : Rd w g A cap bs (i : Int) (s : Int) 0 0) (hA : BytesAt w B A bs) (hB : B ≤ g) (hi : i ≤ bs.length) (k p : Int) (he : charS bs s i = .error (k, p)) : Calls Tryz.prog 219 #[.pointer (some ⟨g, 0, none⟩)] w (ItemPost g A cap bs i s w) := by
  have hlt := hr.lt
  have hne : w.heap.size ≠ g := by omega
  obtain ⟨c0, c1, c2, c3, c4, f1, f3, f4⟩ := hr.cells
  have Hr := Lib.hid (hr.alloc (.cells #[.int .u64 0, .int .u64 0, .int .u64 0, .int .u64 0] 36))
  have HA : Hid (BytesAt (w.alloc (.cells #[.int .u64 0, .int .u64 0, .int .u64 0, .int .u64 0] 36)) B A bs) := hA.below ((Below.refl B w).alloc (by omega) _)
  have Hz : Hid (Blk (w.alloc (.cells #[.int .u64 0, .int .u64 0, .int .u64 0, .int .u64 0] 36)) w.heap.size 36 #[.int .u64 0, .int .u64 0, .int .u64 0, .int .u64 0]) := Blk.new _ _ _
  have Hg0 : Hid (w.grownBy (w.alloc (.cells #[.int .u64 0, .int .u64 0, .int .u64 0, .int .u64 0] 36)) (some g)) := only_alloc (only_refl _ _) _
  have Hl := Lib.hid hA.2.1
  have hl := hA.2.1
  clear hr hA
  have He := Lib.hid he
  have Hi : Hid (itemS bs s i = .error (k, p)) := by show itemS bs s i = _; unfold itemS; rw [he]
  clear he
  go_enter Tryz.func219, Tryz.ntmps219
  go_wp2_with fail
  with_reducible refine (char_go g A cap bs i s B _ Hr.out HA.out hB hi).mono ?_
  rintro e w1 hp
  unfold CharPost at hp
  rw [He.out] at hp
  obtain ⟨hg1, hk, c, j, hc, rfl, hr1⟩ := hp
  have hkb : (k == 0) = false := by simpa using hk
  obtain ⟨d0, d1, d2, d3, d4, e1, e3, e4⟩ := hr1.cells
  have Hr1 := Lib.hid hr1
  have Hg1 := Lib.hid hg1
  have hlt1 := hr1.lt
  have hsz : w.heap.size < w1.heap.size := by have := hg1.size; simp at this; omega
  clear hr1 hg1
  go_wp2_with (go_at_call 242; refine (span_any _ _ _ (by omega) (by omega)).mono ?_; rintro e w2 ⟨rfl, hb2⟩; obtain ⟨z0, z1, z2, z3, y0, y1, y2, y3⟩ := ((Hz.out.grown Hg1.out (by simpa using hne)).below hb2 hsz).c4)
  go_light
  refine bodyPost_ret (ret_set Tryz.results219 rfl ((Hz.out.grown Hg1.out (by simpa using hne)).below hb2 hsz).set4) rfl ?_
  exact ItemPost.no _ j (only_set4 (only_below (only_trans Hg0.out Hg1.out) hb2) (Nat.le_refl _) _ _ _ _) Hi.out hk rfl ((Hr1.out.below hb2 hlt1).set4 (by omega) _ _ _ _)

set_option maxHeartbeats 2000000 in
theorem item_one (g : Nat) (A : Option Addr) (cap : Nat) (bs : List Nat) (i s : Nat) (B : Nat) (w : World) (hr : Rd w g A cap bs (i : Int) (s : Int) 0 0) (hA : BytesAt w B A bs) (hB : B ≤ g) (hi : i ≤ bs.length) (lo j : Nat) (he : charS bs s i = .ok (lo, j)) (hlo : lo < 256) (hh : hasAt bs (j : Int) 45 = false) : Calls Tryz.prog 219 #[.pointer (some ⟨g, 0, none⟩)] w (ItemPost g A cap bs i s w) := by
  have hlt := hr.lt
  have hne : w.heap.size ≠ g := by omega
  obtain ⟨c0, c1, c2, c3, c4, f1, f3, f4⟩ := hr.cells
  have Hr := Lib.hid (hr.alloc (.cells #[.int .u64 0, .int .u64 0, .int .u64 0, .int .u64 0] 36))
  have HA : Hid (BytesAt (w.alloc (.cells #[.int .u64 0, .int .u64 0, .int .u64 0, .int .u64 0] 36)) B A bs) := hA.below ((Below.refl B w).alloc (by omega) _)
  have Hz : Hid (Blk (w.alloc (.cells #[.int .u64 0, .int .u64 0, .int .u64 0, .int .u64 0] 36)) w.heap.size 36 #[.int .u64 0, .int .u64 0, .int .u64 0, .int .u64 0]) := Blk.new _ _ _
  have Hg0 : Hid (w.grownBy (w.alloc (.cells #[.int .u64 0, .int .u64 0, .int .u64 0, .int .u64 0] 36)) (some g)) := only_alloc (only_refl _ _) _
  have Hl := Lib.hid hA.2.1
  have hl := hA.2.1
  clear hr hA
  have He := Lib.hid he
  have Hh := Lib.hid hh
  have Hi : Hid (itemS bs s i = .ok (lo, lo, j)) := by show itemS bs s i = _; unfold itemS; rw [he]; dsimp only; rw [hh]; rfl
  clear he hh
  go_enter Tryz.func219, Tryz.ntmps219
  go_wp2_with fail
  with_reducible refine (char_go g A cap bs i s B _ Hr.out HA.out hB hi).mono ?_
  rintro e w1 hp
  unfold CharPost at hp
  rw [He.out] at hp
  obtain ⟨hg1, rfl, hr1⟩ := hp
  obtain ⟨d0, d1, d2, d3, d4, e1, e3, e4⟩ := hr1.cells
  have Hr1 := Lib.hid hr1
  have Hg1 := Lib.hid hg1
  have HA1 := Lib.hid (HA.out.only hg1 hB Hr.out.lt)
  have Hz1 : Hid (Blk w1 w.heap.size 36 #[.int .u64 0, .int .u64 0, .int .u64 0, .int .u64 0]) := Hz.out.grown hg1 (by simpa using hne)
  have hlt1 := hr1.lt
  have hsz : w.heap.size < w1.heap.size := by have := hg1.size; simp at this; omega
  clear hr1 hg1
  go_wp2_with (first
    | (go_at_call 218; refine (take_no g A cap bs _ _ _ _ 45 B _ Hr1.out HA1.out (by omega) (by omega) Hh.out).mono ?_; rintro e w2 ⟨rfl, hr2, hg2⟩; have hlt2 := hr2.lt; have Hr2 := Lib.hid hr2; have Hg2 := Lib.hid hg2; clear hr2 hg2; have hsz2 : w.heap.size < w2.heap.size := Nat.lt_of_lt_of_le hsz Hg2.out.size; have Hz2 := Lib.hid (Hz1.out.grown Hg2.out (by simpa using hne)))
    | (go_at_call 242; refine (span_any _ _ _ (by omega) (by omega)).mono ?_; rintro e w3 ⟨rfl, hb3⟩; obtain ⟨z0, z1, z2, z3, y0, y1, y2, y3⟩ := (Hz2.out.below hb3 hsz2).c4))
  go_light
  refine bodyPost_ret (ret_set Tryz.results219 rfl (Hz2.out.below hb3 hsz2).set4) rfl ?_
  exact ItemPost.yes (only_set4 (only_below (only_trans (only_trans Hg0.out Hg1.out) Hg2.out) hb3) (Nat.le_refl _) _ _ _ _) Hi.out rfl ((Hr2.out.below hb3 hlt2).set4 (by omega) _ _ _ _)

set_option maxHeartbeats 2000000 in
theorem item_bad2 (g : Nat) (A : Option Addr) (cap : Nat) (bs : List Nat) (i s : Nat) (B : Nat) (w : World) (hr : Rd w g A cap bs (i : Int) (s : Int) 0 0) (hA : BytesAt w B A bs) (hB : B ≤ g) (hi : i ≤ bs.length) (lo j : Nat) (he : charS bs s i = .ok (lo, j)) (hlo : lo < 256) (hh : hasAt bs (j : Int) 45 = true) (hj : j < bs.length) (k p : Int) (hf : charS bs s (j + 1) = .error (k, p)) : Calls Tryz.prog 219 #[.pointer (some ⟨g, 0, none⟩)] w (ItemPost g A cap bs i s w) := by
  have hlt := hr.lt
  have hne : w.heap.size ≠ g := by omega
  obtain ⟨c0, c1, c2, c3, c4, f1, f3, f4⟩ := hr.cells
  have Hr := Lib.hid (hr.alloc (.cells #[.int .u64 0, .int .u64 0, .int .u64 0, .int .u64 0] 36))
  have HA : Hid (BytesAt (w.alloc (.cells #[.int .u64 0, .int .u64 0, .int .u64 0, .int .u64 0] 36)) B A bs) := hA.below ((Below.refl B w).alloc (by omega) _)
  have Hz : Hid (Blk (w.alloc (.cells #[.int .u64 0, .int .u64 0, .int .u64 0, .int .u64 0] 36)) w.heap.size 36 #[.int .u64 0, .int .u64 0, .int .u64 0, .int .u64 0]) := Blk.new _ _ _
  have Hg0 : Hid (w.grownBy (w.alloc (.cells #[.int .u64 0, .int .u64 0, .int .u64 0, .int .u64 0] 36)) (some g)) := only_alloc (only_refl _ _) _
  have Hl := Lib.hid hA.2.1
  have hl := hA.2.1
  clear hr hA
  have He := Lib.hid he
  have Hh := Lib.hid hh
  have Hf := Lib.hid hf
  have Hi : Hid (itemS bs s i = .error (k, p)) := by show itemS bs s i = _; unfold itemS; rw [he]; dsimp only; rw [hh, hf]; rfl
  clear he hh hf
  go_enter Tryz.func219, Tryz.ntmps219
  go_wp2_with fail
  with_reducible refine (char_go g A cap bs i s B _ Hr.out HA.out hB hi).mono ?_
  rintro e w1 hp
  unfold CharPost at hp
  rw [He.out] at hp
  obtain ⟨hg1, rfl, hr1⟩ := hp
  obtain ⟨d0, d1, d2, d3, d4, e1, e3, e4⟩ := hr1.cells
  have Hr1 := Lib.hid hr1
  have Hg1 := Lib.hid hg1
  have HA1 := Lib.hid (HA.out.only hg1 hB Hr.out.lt)
  have Hz1 : Hid (Blk w1 w.heap.size 36 #[.int .u64 0, .int .u64 0, .int .u64 0, .int .u64 0]) := Hz.out.grown hg1 (by simpa using hne)
  have hlt1 := hr1.lt
  have hsz : w.heap.size < w1.heap.size := by have := hg1.size; simp at this; omega
  clear hr1 hg1
  go_wp2_with fail
  refine (take_yes g A cap bs _ _ _ _ 45 B _ Hr1.out HA1.out (by omega) (by omega) Hh.out).mono ?_
  rintro e w2 ⟨rfl, hr2, hg2⟩
  have Hg2 := Lib.hid hg2
  have HA2 := Lib.hid (HA1.out.only hg2 hB hlt1)
  have hlt2 := hr2.lt
  have Hr2 : Hid (Rd w2 g A cap bs ((j + 1 : Nat) : Int) (s : Int) 0 0) := by show Rd _ _ _ _ _ _ _ _ _; rw [show ((j + 1 : Nat) : Int) = (j : Int) + 1 by omega]; exact hr2
  have Hz2 := Lib.hid (Hz1.out.grown hg2 (by simpa using hne))
  clear hr2 hg2
  go_wp2_with fail
  with_reducible refine (char_go g A cap bs (j + 1) s B _ Hr2.out HA2.out hB (by omega)).mono ?_
  rintro e w3 hp
  unfold CharPost at hp
  rw [Hf.out] at hp
  obtain ⟨hg3, hk, c, j', hc, rfl, hr3⟩ := hp
  have hkn : k ≠ 0 := hk
  have Hg3 := Lib.hid hg3
  have Hr3 := Lib.hid hr3
  have hlt3 := hr3.lt
  have Hz3 := Lib.hid (Hz2.out.grown hg3 (by simpa using hne))
  have hsz3 := Hz3.out.lt
  clear hr3 hg3
  by_cases hcl : c < lo
  · go_wp2_with (first
      | (go_at_call 238; refine (fail1_go g A cap bs _ _ _ _ _ _ _ Hr3.out hkn).mono ?_; rintro e w4 ⟨rfl, hr4, hg4⟩; have Hr4 := Lib.hid hr4; have Hg4 := Lib.hid hg4; have hlt4 := hr4.lt; have Hz4 := Lib.hid (Hz3.out.grown hg4 (by simpa using hne)); have hsz4 := Hz4.out.lt; clear hr4 hg4)
      | (go_at_call 242; refine (span_any _ _ _ (by omega) (by omega)).mono ?_; rintro e w5 ⟨rfl, hb5⟩; obtain ⟨z0, z1, z2, z3, y0, y1, y2, y3⟩ := (Hz4.out.below hb5 hsz4).c4))
    go_light
    refine bodyPost_ret (ret_set Tryz.results219 rfl (Hz4.out.below hb5 hsz4).set4) rfl ?_
    exact ItemPost.no _ j' (only_set4 (only_below (only_trans (only_trans (only_trans (only_trans Hg0.out Hg1.out) Hg2.out) Hg3.out) Hg4.out) hb5) (Nat.le_refl _) _ _ _ _) Hi.out hkn rfl ((Hr4.out.below hb5 hlt4).set4 (by omega) _ _ _ _)
  · go_wp2_with (go_at_call 242; refine (span_any _ _ _ (by omega) (by omega)).mono ?_; rintro e w5 ⟨rfl, hb5⟩; obtain ⟨z0, z1, z2, z3, y0, y1, y2, y3⟩ := (Hz3.out.below hb5 hsz3).c4)
    go_light
    refine bodyPost_ret (ret_set Tryz.results219 rfl (Hz3.out.below hb5 hsz3).set4) rfl ?_
    exact ItemPost.no _ j' (only_set4 (only_below (only_trans (only_trans (only_trans Hg0.out Hg1.out) Hg2.out) Hg3.out) hb5) (Nat.le_refl _) _ _ _ _) Hi.out hkn rfl ((Hr3.out.below hb5 hlt3).set4 (by omega) _ _ _ _)

set_option maxHeartbeats 2000000 in
theorem item_two (g : Nat) (A : Option Addr) (cap : Nat) (bs : List Nat) (i s : Nat) (B : Nat) (w : World) (hr : Rd w g A cap bs (i : Int) (s : Int) 0 0) (hA : BytesAt w B A bs) (hB : B ≤ g) (hi : i ≤ bs.length) (lo j : Nat) (he : charS bs s i = .ok (lo, j)) (hlo : lo < 256) (hh : hasAt bs (j : Int) 45 = true) (hj : j < bs.length) (hi' j' : Nat) (hf : charS bs s (j + 1) = .ok (hi', j')) (hhi : hi' < 256) : Calls Tryz.prog 219 #[.pointer (some ⟨g, 0, none⟩)] w (ItemPost g A cap bs i s w) := by
  have hlt := hr.lt
  have hne : w.heap.size ≠ g := by omega
  obtain ⟨c0, c1, c2, c3, c4, f1, f3, f4⟩ := hr.cells
  have Hr := Lib.hid (hr.alloc (.cells #[.int .u64 0, .int .u64 0, .int .u64 0, .int .u64 0] 36))
  have HA : Hid (BytesAt (w.alloc (.cells #[.int .u64 0, .int .u64 0, .int .u64 0, .int .u64 0] 36)) B A bs) := hA.below ((Below.refl B w).alloc (by omega) _)
  have Hz : Hid (Blk (w.alloc (.cells #[.int .u64 0, .int .u64 0, .int .u64 0, .int .u64 0] 36)) w.heap.size 36 #[.int .u64 0, .int .u64 0, .int .u64 0, .int .u64 0]) := Blk.new _ _ _
  have Hg0 : Hid (w.grownBy (w.alloc (.cells #[.int .u64 0, .int .u64 0, .int .u64 0, .int .u64 0] 36)) (some g)) := only_alloc (only_refl _ _) _
  have Hl := Lib.hid hA.2.1
  have hl := hA.2.1
  clear hr hA
  have He := Lib.hid he
  have Hh := Lib.hid hh
  have Hf := Lib.hid hf
  have Hi : Hid (itemS bs s i = if hi' < lo then .error (15, (i : Int)) else .ok (lo, hi', j')) := by show itemS bs s i = _; unfold itemS; rw [he]; dsimp only; rw [hh, hf]; rfl
  clear he hh hf
  go_enter Tryz.func219, Tryz.ntmps219
  go_wp2_with fail
  with_reducible refine (char_go g A cap bs i s B _ Hr.out HA.out hB hi).mono ?_
  rintro e w1 hp
  unfold CharPost at hp
  rw [He.out] at hp
  obtain ⟨hg1, rfl, hr1⟩ := hp
  obtain ⟨d0, d1, d2, d3, d4, e1, e3, e4⟩ := hr1.cells
  have Hr1 := Lib.hid hr1
  have Hg1 := Lib.hid hg1
  have HA1 := Lib.hid (HA.out.only hg1 hB Hr.out.lt)
  have Hz1 : Hid (Blk w1 w.heap.size 36 #[.int .u64 0, .int .u64 0, .int .u64 0, .int .u64 0]) := Hz.out.grown hg1 (by simpa using hne)
  have hlt1 := hr1.lt
  have hsz : w.heap.size < w1.heap.size := by have := hg1.size; simp at this; omega
  clear hr1 hg1
  go_wp2_with fail
  refine (take_yes g A cap bs _ _ _ _ 45 B _ Hr1.out HA1.out (by omega) (by omega) Hh.out).mono ?_
  rintro e w2 ⟨rfl, hr2, hg2⟩
  have Hg2 := Lib.hid hg2
  have HA2 := Lib.hid (HA1.out.only hg2 hB hlt1)
  have hlt2 := hr2.lt
  have Hr2 : Hid (Rd w2 g A cap bs ((j + 1 : Nat) : Int) (s : Int) 0 0) := by show Rd _ _ _ _ _ _ _ _ _; rw [show ((j + 1 : Nat) : Int) = (j : Int) + 1 by omega]; exact hr2
  have Hz2 := Lib.hid (Hz1.out.grown hg2 (by simpa using hne))
  clear hr2 hg2
  go_wp2_with fail
  with_reducible refine (char_go g A cap bs (j + 1) s B _ Hr2.out HA2.out hB (by omega)).mono ?_
  rintro e w3 hp
  unfold CharPost at hp
  rw [Hf.out] at hp
  obtain ⟨hg3, rfl, hr3⟩ := hp
  have Hg3 := Lib.hid hg3
  have Hr3 := Lib.hid hr3
  have hlt3 := hr3.lt
  have Hz3 := Lib.hid (Hz2.out.grown hg3 (by simpa using hne))
  have hsz3 := Hz3.out.lt
  clear hr3 hg3
  by_cases hcl : hi' < lo
  · go_wp2_with (first
      | (go_at_call 238; refine (fail0_go g A cap bs _ _ _ _ _ _ Hr3.out).mono ?_; rintro e w4 ⟨rfl, hr4, hg4⟩; have Hr4 := Lib.hid hr4; have Hg4 := Lib.hid hg4; have hlt4 := hr4.lt; have Hz4 := Lib.hid (Hz3.out.grown hg4 (by simpa using hne)); have hsz4 := Hz4.out.lt; clear hr4 hg4)
      | (go_at_call 242; refine (span_any _ _ _ (by omega) (by omega)).mono ?_; rintro e w5 ⟨rfl, hb5⟩; obtain ⟨z0, z1, z2, z3, y0, y1, y2, y3⟩ := (Hz4.out.below hb5 hsz4).c4))
    go_light
    refine bodyPost_ret (ret_set Tryz.results219 rfl (Hz4.out.below hb5 hsz4).set4) rfl ?_
    exact ItemPost.no _ j' (only_set4 (only_below (only_trans (only_trans (only_trans (only_trans Hg0.out Hg1.out) Hg2.out) Hg3.out) Hg4.out) hb5) (Nat.le_refl _) _ _ _ _) (by rw [Hi.out, if_pos hcl]) (by decide) rfl ((Hr4.out.below hb5 hlt4).set4 (by omega) _ _ _ _)
  · go_wp2_with (go_at_call 242; refine (span_any _ _ _ (by omega) (by omega)).mono ?_; rintro e w5 ⟨rfl, hb5⟩; obtain ⟨z0, z1, z2, z3, y0, y1, y2, y3⟩ := (Hz3.out.below hb5 hsz3).c4)
    go_light
    refine bodyPost_ret (ret_set Tryz.results219 rfl (Hz3.out.below hb5 hsz3).set4) rfl ?_
    exact ItemPost.yes (only_set4 (only_below (only_trans (only_trans (only_trans Hg0.out Hg1.out) Hg2.out) Hg3.out) hb5) (Nat.le_refl _) _ _ _ _) (by rw [Hi.out, if_neg hcl]) rfl ((Hr3.out.below hb5 hlt3).set4 (by omega) _ _ _ _)

theorem item_go (g : Nat) (A : Option Addr) (cap : Nat) (bs : List Nat) (i s : Nat) (B : Nat) (w : World) (hr : Rd w g A cap bs (i : Int) (s : Int) 0 0) (hA : BytesAt w B A bs) (hB : B ≤ g) (hi : i ≤ bs.length) : Calls Tryz.prog 219 #[.pointer (some ⟨g, 0, none⟩)] w (ItemPost g A cap bs i s w) := by
  cases he : charS bs s i with
  | error x => obtain ⟨k, p⟩ := x; exact item_bad1 g A cap bs i s B w hr hA hB hi k p he
  | ok x =>
    obtain ⟨lo, j⟩ := x
    obtain ⟨a1, a2, a3⟩ := charS_ok hA.1 he
    cases hh : hasAt bs (j : Int) 45 with
    | false => exact item_one g A cap bs i s B w hr hA hB hi lo j he a3 hh
    | true =>
      obtain ⟨j', e', hj, _⟩ := hasAt_yes hh
      obtain rfl : j = j' := by omega
      cases hf : charS bs s (j + 1) with
      | error y => obtain ⟨k, p⟩ := y; exact item_bad2 g A cap bs i s B w hr hA hB hi lo j he a3 hh hj k p hf
      | ok y =>
        obtain ⟨hi', j'⟩ := y
        exact item_two g A cap bs i s B w hr hA hB hi lo j he a3 hh hj hi' j' hf (charS_ok hA.1 hf).2.2

end Go.Proofs.YtffkppoidollnaaGreatDoor
namespace Go.Proofs.YtffkppoidollnaaGreatDoor
set_option linter.unusedSimpArgs false
set_option linter.unusedVariables false

theorem testBit_split (a b j : Nat) (ha : a < 256) : (a + 256 * b).testBit j = if j < 8 then a.testBit j else b.testBit (j - 8) := by
  rw [Nat.add_comm, show (256 : Nat) = 2 ^ 8 from rfl]
  exact Nat.testBit_two_pow_mul_add b ha j

theorem land_split (x m n : Nat) (hm : m < 256) : x &&& (m + 256 * n) = ((x % 256) &&& m) + 256 * ((x / 256) &&& n) := by
  apply Nat.eq_of_testBit_eq
  intro j
  have h1 : (x % 256) &&& m < 256 := Nat.and_lt_two_pow (n := 8) _ hm
  rw [testBit_split _ _ _ h1, Nat.testBit_and, testBit_split _ _ _ hm]
  by_cases hj : j < 8
  · rw [if_pos hj, if_pos hj, Nat.testBit_and, show (256 : Nat) = 2 ^ 8 from rfl, Nat.testBit_mod_two_pow]
    simp [hj]
  · rw [if_neg hj, if_neg hj, Nat.testBit_and, show (256 : Nat) = 2 ^ 8 from rfl, Nat.testBit_div_two_pow]
    congr 2
    omega

def mask (m : Nat) : Nat → Nat
  | 0 => 0
  | n + 1 => m + 256 * mask m n

def s1 (n x : Nat) : Nat := ((x / 2) &&& mask 0x55 n) + (x &&& mask 0x55 n)
def s2 (n x : Nat) : Nat := ((x / 4) &&& mask 0x33 n) + (x &&& mask 0x33 n)
def s3 (n x : Nat) : Nat := (x / 16 + x) &&& mask 0x0f n
def f1 (b : Nat) : Nat := ((b / 2) &&& 0x55) + (b &&& 0x55)
def f2 (b : Nat) : Nat := ((b / 4) &&& 0x33) + (b &&& 0x33)
def f3 (b : Nat) : Nat := (b / 16 + b) &&& 0x0f

theorem cross1 : ∀ y : Fin 512, (y.val / 2) &&& 0x55 = (y.val % 256 / 2) &&& 0x55 := by decide +kernel
theorem cross2 : ∀ y : Fin 1024, (y.val / 4) &&& 0x33 = (y.val % 256 / 4) &&& 0x33 := by decide +kernel

theorem s1_step (n x : Nat) : s1 (n + 1) x = f1 (x % 256) + 256 * s1 n (x / 256) := by
  unfold s1 f1
  rw [show mask 0x55 (n + 1) = 0x55 + 256 * mask 0x55 n from rfl, land_split _ _ _ (by decide), land_split _ _ _ (by decide)]
  have h := cross1 ⟨x % 512, Nat.mod_lt _ (by decide)⟩
  dsimp only at h
  rw [show x / 2 % 256 = x % 512 / 2 by omega, h, show x % 512 % 256 = x % 256 by omega, show x / 2 / 256 = x / 256 / 2 by omega]
  omega
theorem s2_step (n x : Nat) : s2 (n + 1) x = f2 (x % 256) + 256 * s2 n (x / 256) := by
  unfold s2 f2
  rw [show mask 0x33 (n + 1) = 0x33 + 256 * mask 0x33 n from rfl, land_split _ _ _ (by decide), land_split _ _ _ (by decide)]
  have h := cross2 ⟨x % 1024, Nat.mod_lt _ (by decide)⟩
  dsimp only at h
  rw [show x / 4 % 256 = x % 1024 / 4 by omega, h, show x % 1024 % 256 = x % 256 by omega, show x / 4 / 256 = x / 256 / 4 by omega]
  omega
theorem cross3 : ∀ y : Fin 69, ∀ t : Fin 5, (y.val / 16 + y.val + 16 * t.val) &&& 0x0f = (y.val / 16 + y.val) &&& 0x0f := by decide +kernel
theorem s3_step (n x : Nat) (h1 : x % 256 < 69) (h2 : x / 256 % 16 < 5) : s3 (n + 1) x = f3 (x % 256) + 256 * s3 n (x / 256) := by
  unfold s3 f3
  rw [show mask 0x0f (n + 1) = 0x0f + 256 * mask 0x0f n from rfl, land_split _ _ _ (by decide)]
  have h := cross3 ⟨x % 256, h1⟩ ⟨x / 256 % 16, h2⟩
  dsimp only at h
  rw [show (x / 16 + x) % 256 = x % 256 / 16 + x % 256 + 16 * (x / 256 % 16) by omega, h, show (x / 16 + x) / 256 = x / 256 / 16 + x / 256 by omega]

theorem f1_lt : ∀ b : Fin 256, f1 b.val < 256 := by decide +kernel
theorem f2f1_lt : ∀ b : Fin 256, f2 (f1 b.val) < 69 ∧ f2 (f1 b.val) % 16 < 5 := by decide +kernel
/-- How many bits of a byte are set. -/
def pop (b : Nat) : Nat := f3 (f2 (f1 b))
theorem pop_le : ∀ b : Fin 256, pop b.val ≤ 8 := by decide +kernel

/-- The three steps together: the bytes' counts side by side. -/
def cnts : Nat → Nat → Nat
  | 0, _ => 0
  | n + 1, x => pop (x % 256) + 256 * cnts n (x / 256)

theorem s123 : ∀ (n x : Nat), s3 n (s2 n (s1 n x)) = cnts n x ∧ (0 < n → s2 n (s1 n x) % 16 < 5)
  | 0, x => by simp [s3, s2, s1, mask, cnts]
  | n + 1, x => by
    obtain ⟨ih, ihn⟩ := s123 n (x / 256)
    have hb : x % 256 < 256 := Nat.mod_lt _ (by decide)
    have a1 := f1_lt ⟨x % 256, hb⟩
    have a2 := f2f1_lt ⟨x % 256, hb⟩
    dsimp only at a1 a2
    have e2 : s2 (n + 1) (s1 (n + 1) x) = f2 (f1 (x % 256)) + 256 * s2 n (s1 n (x / 256)) := by
      rw [s2_step, s1_step, show (f1 (x % 256) + 256 * s1 n (x / 256)) % 256 = f1 (x % 256) by omega, show (f1 (x % 256) + 256 * s1 n (x / 256)) / 256 = s1 n (x / 256) by omega]
    refine ⟨?_, fun _ => by rw [e2]; omega⟩
    have hz : s2 n (s1 n (x / 256)) % 16 < 5 := by
      rcases Nat.eq_zero_or_pos n with h0 | h0
      · subst h0; simp [s2, s1, mask]
      · exact ihn h0
    rw [e2, s3_step _ _ (by omega) (by rw [show (f2 (f1 (x % 256)) + 256 * s2 n (s1 n (x / 256))) / 256 = s2 n (s1 n (x / 256)) by omega]; exact hz),
      show (f2 (f1 (x % 256)) + 256 * s2 n (s1 n (x / 256))) % 256 = f2 (f1 (x % 256)) by omega, show (f2 (f1 (x % 256)) + 256 * s2 n (s1 n (x / 256))) / 256 = s2 n (s1 n (x / 256)) by omega, ih]
    rfl

/-- How many of the first n say yes. -/
def cnt (p : Nat → Bool) : Nat → Nat
  | 0 => 0
  | n + 1 => cnt p n + (p n).toNat
theorem cnt_le (p : Nat → Bool) : ∀ n, cnt p n ≤ n
  | 0 => Nat.le_refl _
  | n + 1 => by have := cnt_le p n; have : (p n).toNat ≤ 1 := by cases p n <;> decide
                unfold cnt; omega
theorem cnt_congr {p q : Nat → Bool} : ∀ n, (∀ k, k < n → p k = q k) → cnt p n = cnt q n
  | 0, _ => rfl
  | n + 1, h => by unfold cnt; rw [cnt_congr n (fun k hk => h k (by omega)), h n (by omega)]
theorem cnt_add (p : Nat → Bool) (m : Nat) : ∀ n, cnt p (m + n) = cnt p m + cnt (fun k => p (m + k)) n
  | 0 => by simp [cnt]
  | n + 1 => by rw [← Nat.add_assoc]; show cnt p (m + n) + (p (m + n)).toNat = cnt p m + (cnt (fun k => p (m + k)) n + (p (m + n)).toNat); rw [cnt_add p m n]; omega
theorem pop_cnt : ∀ b : Fin 256, pop b.val = cnt b.val.testBit 8 := by decide +kernel

/-- The sum of the counts of n bytes. -/
def sums : Nat → Nat → Nat
  | 0, _ => 0
  | n + 1, x => pop (x % 256) + sums n (x / 256)
theorem sums_cnt : ∀ (n x : Nat), sums n x = cnt x.testBit (8 * n)
  | 0, x => rfl
  | n + 1, x => by
    unfold sums
    rw [sums_cnt n, pop_cnt ⟨x % 256, Nat.mod_lt _ (by decide)⟩, show 8 * (n + 1) = 8 + 8 * n by omega, cnt_add]
    dsimp only
    congr 1
    · apply cnt_congr
      intro k hk
      rw [show (256 : Nat) = 2 ^ 8 from rfl, Nat.testBit_mod_two_pow]
      simp [hk]
    · apply cnt_congr
      intro k _
      rw [show (256 : Nat) = 2 ^ 8 from rfl, Nat.testBit_div_two_pow, Nat.add_comm]

/-- The last three steps: the bytes' counts summed up in the lowest byte. -/
def fold3 (z : Nat) : Nat := let u := z + z / 256; let v := u + u / 65536; (v + v / 4294967296) % 128
theorem d1 {a b : Nat} (h : a < 256) : (a + 256 * b) / 256 = b := by omega
theorem m1 (a b : Nat) : (a + 256 * b) % 128 = a % 128 := by omega
theorem a1 (a b c d : Nat) : (a + 256 * b) + (c + 256 * d) = (a + c) + 256 * (b + d) := by omega
theorem a0 (a b c : Nat) : (a + 256 * b) + c = (a + c) + 256 * b := by omega
theorem fold3_eq (c0 c1 c2 c3 c4 c5 c6 c7 : Nat) (h0 : c0 ≤ 8) (h1 : c1 ≤ 8) (h2 : c2 ≤ 8) (h3 : c3 ≤ 8) (h4 : c4 ≤ 8) (h5 : c5 ≤ 8) (h6 : c6 ≤ 8) (h7 : c7 ≤ 8) :
    fold3 (c0 + 256 * (c1 + 256 * (c2 + 256 * (c3 + 256 * (c4 + 256 * (c5 + 256 * (c6 + 256 * c7))))))) = c0 + c1 + (c2 + c3) + (c4 + c5 + (c6 + c7)) := by
  unfold fold3
  dsimp only
  rw [d1 (show c0 < 256 by omega)]
  have e2 : c0 + 256 * (c1 + 256 * (c2 + 256 * (c3 + 256 * (c4 + 256 * (c5 + 256 * (c6 + 256 * c7)))))) + (c1 + 256 * (c2 + 256 * (c3 + 256 * (c4 + 256 * (c5 + 256 * (c6 + 256 * c7)))))) =
      (c0 + c1) + 256 * ((c1 + c2) + 256 * ((c2 + c3) + 256 * ((c3 + c4) + 256 * ((c4 + c5) + 256 * ((c5 + c6) + 256 * ((c6 + c7) + 256 * c7)))))) := by
    simp only [Nat.mul_add]; clear h0 h1 h2 h3 h4 h5 h6 h7; omega
  rw [e2, show (65536 : Nat) = 256 * 256 from rfl, ← Nat.div_div_eq_div_mul, d1 (show c0 + c1 < 256 by omega), d1 (show c1 + c2 < 256 by omega)]
  have e3 : (c0 + c1) + 256 * ((c1 + c2) + 256 * ((c2 + c3) + 256 * ((c3 + c4) + 256 * ((c4 + c5) + 256 * ((c5 + c6) + 256 * ((c6 + c7) + 256 * c7)))))) + ((c2 + c3) + 256 * ((c3 + c4) + 256 * ((c4 + c5) + 256 * ((c5 + c6) + 256 * ((c6 + c7) + 256 * c7))))) =
      (c0 + c1 + (c2 + c3)) + 256 * ((c1 + c2 + (c3 + c4)) + 256 * ((c2 + c3 + (c4 + c5)) + 256 * ((c3 + c4 + (c5 + c6)) + 256 * ((c4 + c5 + (c6 + c7)) + 256 * ((c5 + c6 + c7) + 256 * ((c6 + c7) + 256 * c7)))))) := by
    simp only [Nat.mul_add]; clear h0 h1 h2 h3 h4 h5 h6 h7; omega
  rw [e3, show (4294967296 : Nat) = 256 * 256 * 256 * 256 from rfl, ← Nat.div_div_eq_div_mul, ← Nat.div_div_eq_div_mul, ← Nat.div_div_eq_div_mul,
    d1 (show c0 + c1 + (c2 + c3) < 256 by omega), d1 (show c1 + c2 + (c3 + c4) < 256 by omega), d1 (show c2 + c3 + (c4 + c5) < 256 by omega), d1 (show c3 + c4 + (c5 + c6) < 256 by omega)]
  rw [a1, m1]
  omega
theorem fold3_cnts (x : Nat) : fold3 (cnts 8 x) = sums 8 x := by
  have h : ∀ y, pop (y % 256) ≤ 8 := fun y => pop_le ⟨y % 256, Nat.mod_lt _ (by decide)⟩
  have e := fold3_eq _ _ _ _ _ _ _ _ (h x) (h (x / 256)) (h (x / 256 / 256)) (h (x / 256 / 256 / 256)) (h (x / 256 / 256 / 256 / 256)) (h (x / 256 / 256 / 256 / 256 / 256)) (h (x / 256 / 256 / 256 / 256 / 256 / 256)) (h (x / 256 / 256 / 256 / 256 / 256 / 256 / 256))
  simp only [cnts, sums, Nat.mul_zero, Nat.add_zero]
  rw [e]
  simp only [Nat.add_assoc]

end Go.Proofs.YtffkppoidollnaaGreatDoor
namespace Go.Proofs.YtffkppoidollnaaGreatDoor
open Go.RowKit
set_option linter.unusedSimpArgs false
set_option linter.unusedVariables false
set_option maxRecDepth 100000

theorem and64 (a M : Nat) (ha : a < 18446744073709551616) (hM : M < 18446744073709551616) : bits .and .u64 (a : Int) (M : Int) = ((a &&& M : Nat) : Int) := u64_and_nat a M ha hM
theorem wrapN (a : Nat) (h : a < 18446744073709551616) : IntKind.u64.wrap (a : Int) = (a : Int) := by rw [IntKind.wrap_u64]; omega
theorem i64_and127 (a : Nat) (ha : a < 9223372036854775808) : bits .and .i64 (a : Int) 127 = ((a % 128 : Nat) : Int) := by
  have hx : a &&& 127 = a % 128 := Nat.and_two_pow_sub_one_eq_mod a 7
  show IntKind.i64.wrap ((BitVec.ofInt 64 (a : Int) &&& BitVec.ofInt 64 (127 : Int)).toNat : Int) = _
  have e1 : (BitVec.ofInt 64 (a : Int)).toNat = a := by rw [BitVec.ofInt_natCast, BitVec.toNat_ofNat]; exact Nat.mod_eq_of_lt (by omega)
  have e2 : (BitVec.ofInt 64 (127 : Int)).toNat = 127 := by decide
  rw [BitVec.toNat_and, e1, e2, hx, IntKind.wrap_i64]
  omega
theorem mask55 : mask 0x55 8 = 6148914691236517205 := by decide
theorem mask33 : mask 0x33 8 = 3689348814741910323 := by decide
theorem mask0f : mask 0x0f 8 = 1085102592571150095 := by decide
theorem st1 (x : Nat) (hx : x < 18446744073709551616) : IntKind.u64.wrap (bits .and .u64 ((x : Int) / 2) 6148914691236517205 + bits .and .u64 (x : Int) 6148914691236517205) = ((s1 8 x : Nat) : Int) ∧ s1 8 x < 18446744073709551616 := by
  have e : ((x : Int) / 2) = ((x / 2 : Nat) : Int) := by omega
  have h1 : (x / 2) &&& 6148914691236517205 ≤ 6148914691236517205 := Nat.and_le_right
  have h2 : x &&& 6148914691236517205 ≤ 6148914691236517205 := Nat.and_le_right
  have b1 := and64 (x / 2) 6148914691236517205 (by omega) (by decide)
  have b2 := and64 x 6148914691236517205 hx (by decide)
  rw [show (((6148914691236517205 : Nat)) : Int) = 6148914691236517205 from rfl] at b1 b2
  unfold s1
  rw [mask55, e, b1, b2, ← Int.natCast_add]
  exact ⟨wrapN _ (by omega), by omega⟩
theorem st2 (x : Nat) (hx : x < 18446744073709551616) : IntKind.u64.wrap (bits .and .u64 ((x : Int) / 4) 3689348814741910323 + bits .and .u64 (x : Int) 3689348814741910323) = ((s2 8 x : Nat) : Int) ∧ s2 8 x ≤ 7378697629483820646 := by
  have e : ((x : Int) / 4) = ((x / 4 : Nat) : Int) := by omega
  have h1 : (x / 4) &&& 3689348814741910323 ≤ 3689348814741910323 := Nat.and_le_right
  have h2 : x &&& 3689348814741910323 ≤ 3689348814741910323 := Nat.and_le_right
  have b1 := and64 (x / 4) 3689348814741910323 (by omega) (by decide)
  have b2 := and64 x 3689348814741910323 hx (by decide)
  rw [show (((3689348814741910323 : Nat)) : Int) = 3689348814741910323 from rfl] at b1 b2
  unfold s2
  rw [mask33, e, b1, b2, ← Int.natCast_add]
  exact ⟨wrapN _ (by omega), by omega⟩
theorem st3 (x : Nat) (hx : x ≤ 7378697629483820646) : bits .and .u64 (IntKind.u64.wrap ((x : Int) / 16 + (x : Int))) 1085102592571150095 = ((s3 8 x : Nat) : Int) ∧ s3 8 x ≤ 1085102592571150095 := by
  have e : ((x : Int) / 16 + (x : Int)) = ((x / 16 + x : Nat) : Int) := by omega
  have b1 := and64 (x / 16 + x) 1085102592571150095 (by omega) (by decide)
  rw [show (((1085102592571150095 : Nat)) : Int) = 1085102592571150095 from rfl] at b1
  unfold s3
  rw [mask0f, e, wrapN _ (by omega), b1]
  exact ⟨rfl, Nat.and_le_right⟩

set_option maxHeartbeats 1000000 in
theorem ones_go (x : Nat) (w : World) (hx : x < 18446744073709551616) :
    Calls Tryz.prog 118 #[.int .u64 (x : Int)] w fun e w' => e = .returned (.int .i64 ((cnt x.testBit 64 : Nat) : Int)) ∧ w = w' := by
  go_enter Tryz.func118, Tryz.ntmps118
  go_wp2
  go_light
  go_ret
  refine ⟨ret_i ?_, rfl⟩
  obtain ⟨e1, l1⟩ := st1 x hx
  obtain ⟨e2, l2⟩ := st2 (s1 8 x) l1
  obtain ⟨e3, l3⟩ := st3 (s2 8 (s1 8 x)) l2
  have ef : fold3 (s3 8 (s2 8 (s1 8 x))) = cnt x.testBit 64 := by rw [(s123 8 x).1, fold3_cnts, sums_cnt]
  rw [e1, e2, e3]
  generalize s3 8 (s2 8 (s1 8 x)) = z at *
  rw [← ef]
  unfold fold3
  dsimp only
  clear e1 e2 e3 l1 l2 ef
  have q1 : ((z : Int) + (z : Int) / 256) = ((z + z / 256 : Nat) : Int) := by omega
  rw [q1, wrapN _ (by omega)]
  generalize hu : z + z / 256 = u
  have lu : u ≤ 2170205185142300190 := by omega
  have q2 : ((u : Int) + (u : Int) / 65536) = ((u + u / 65536 : Nat) : Int) := by omega
  rw [q2, wrapN _ (by omega)]
  generalize hv : u + u / 65536 = v
  have lv : v ≤ 2180205185142300190 := by omega
  have q3 : ((v : Int) + (v : Int) / 4294967296) = ((v + v / 4294967296 : Nat) : Int) := by omega
  rw [q3, wrapN _ (by omega), show wrap64 ((v + v / 4294967296 : Nat) : Int) = ((v + v / 4294967296 : Nat) : Int) by unfold wrap64; omega]
  exact i64_and127 _ (by omega)

theorem cnt_word (p : Nat → Bool) (i : Nat) : cnt (word p i).testBit 64 = cnt (fun k => p (64 * i + k)) 64 :=
  cnt_congr 64 fun k hk => by rw [testBit_word]; simp [hk]
theorem cnt_words (p : Nat → Bool) : cnt (word p 0).testBit 64 + cnt (word p 1).testBit 64 + cnt (word p 2).testBit 64 + cnt (word p 3).testBit 64 = cnt p 256 := by
  rw [cnt_word, cnt_word, cnt_word, cnt_word, show 256 = 64 + (64 + (64 + 64)) from rfl, cnt_add, cnt_add, cnt_add]
  simp only [Nat.mul_zero, Nat.zero_add, ← Nat.add_assoc, Nat.mul_one, show 64 * 2 = 64 + 64 from rfl, show 64 * 3 = 64 + 64 + 64 from rfl]

set_option maxHeartbeats 1000000 in
theorem count_go (p : Nat → Bool) (w : World) :
    Calls Tryz.prog 88 #[.agg #[.int .u64 ((word (p) 0 : Nat) : Int), .int .u64 ((word (p) 1 : Nat) : Int), .int .u64 ((word (p) 2 : Nat) : Int), .int .u64 ((word (p) 3 : Nat) : Int)]] w fun e w' => e = .returned (.int .i64 ((cnt p 256 : Nat) : Int)) ∧ Below w.heap.size w w' := by
  go_enter Tryz.func88, Tryz.ntmps88
  go_wp2
  refine wp_loop_rounds 5 ?_
  rw [rounds_succ]
  go_wp2_with (go_at_call 118; refine (ones_go _ _ (word_lt _ _)).mono ?_; rintro e w2 ⟨rfl, rfl⟩)
  rw [rounds_succ]
  go_wp2_with (go_at_call 118; refine (ones_go _ _ (word_lt _ _)).mono ?_; rintro e w2 ⟨rfl, rfl⟩)
  rw [rounds_succ]
  go_wp2_with (go_at_call 118; refine (ones_go _ _ (word_lt _ _)).mono ?_; rintro e w2 ⟨rfl, rfl⟩)
  rw [rounds_succ]
  go_wp2_with (go_at_call 118; refine (ones_go _ _ (word_lt _ _)).mono ?_; rintro e w2 ⟨rfl, rfl⟩)
  rw [rounds_succ]
  go_wp2
  go_light
  go_ret
  refine ⟨ret_i ?_, (Below.refl _ _).alloc (Nat.le_refl _) _⟩
  have e := cnt_words p
  have l0 := cnt_le (word p 0).testBit 64
  have l1 := cnt_le (word p 1).testBit 64
  have l2 := cnt_le (word p 2).testBit 64
  have l3 := cnt_le (word p 3).testBit 64
  rw [← e]
  unfold wrap64
  omega

end Go.Proofs.YtffkppoidollnaaGreatDoor
namespace Go.Proofs.YtffkppoidollnaaGreatDoor
open Go.ChangeShapes Go.WideShapes Go.ChangeAt Go.RowKit
set_option linter.unusedSimpArgs false
set_option linter.unusedVariables false
set_option maxRecDepth 100000

theorem own_knob : ownKnob Tryz.prog.godebug = none := by kernel_rfl
theorem laid_out : laidOutB Tryz.prog = true := by kernel_rfl
theorem cellsByte : Tryz.prog.cellsOf 5 = 1 := by kernel_rfl
theorem addr_add (b o j : Nat) : (⟨b, o, none⟩ : Addr).add j = ⟨b, o + j, none⟩ := by unfold Addr.add; split <;> simp_all

end Go.Proofs.YtffkppoidollnaaGreatDoor
namespace Go.Proofs.YtffkppoidollnaaGreatDoor
open Go.ChangeShapes Go.WideShapes Go.ChangeAt Go.RowKit
set_option linter.unusedSimpArgs false
set_option linter.unusedVariables false
set_option maxRecDepth 100000

theorem u64_of_wf {n : Int} (h : (Lit.int .u64 n).wf = true) : 0 ≤ n ∧ n < 18446744073709551616 := by
  have hh : (decide (IntKind.min .u64 ≤ n) && decide (n ≤ IntKind.max .u64)) = true := h
  simp only [Bool.and_eq_true, decide_eq_true_eq] at hh
  obtain ⟨h1, h2⟩ := hh
  have e1 : IntKind.min .u64 = 0 := by decide
  have e2 : IntKind.max .u64 = 18446744073709551615 := by decide
  rw [e1] at h1
  rw [e2] at h2
  omega
theorem cellsWord : Tryz.prog.cellsOf 34 = 1 := by kernel_rfl
theorem cellsSet : Tryz.prog.cellsOf 36 = 4 := by kernel_rfl
theorem cellsInt : Tryz.prog.cellsOf 3 = 1 := by kernel_rfl

section
variable {H : Type} {enc : TypeId × Value → H} {W : World} {fuel : Nat} {cs : List Value} {y : DataW H × List MemPlace}
end

end Go.Proofs.YtffkppoidollnaaGreatDoor
namespace Go.Proofs.YtffkppoidollnaaGreatDoor
open Go.ChangeShapes Go.WideShapes Go.ChangeAt Go.RowKit
set_option linter.unusedSimpArgs false
set_option linter.unusedVariables false
set_option maxRecDepth 100000

theorem set_words {n0 n1 n2 n3 : Nat} (h0 : n0 < 18446744073709551616) (h1 : n1 < 18446744073709551616) (h2 : n2 < 18446744073709551616) (h3 : n3 < 18446744073709551616) :
    ∃ s : Nat, word s.testBit 0 = n0 ∧ word s.testBit 1 = n1 ∧ word s.testBit 2 = n2 ∧ word s.testBit 3 = n3 := by
  obtain ⟨k0, k1, k2, k3⟩ := word_bitsOf h0 h1 h2 h3
  have h : ∀ i, i < 4 → word (ofBits (bitsOf n0 n1 n2 n3) 256).testBit i = word (bitsOf n0 n1 n2 n3) i := fun i hi => word_congr (fun j hj => by rw [testBit_ofBits]; simp; omega)
  exact ⟨ofBits (bitsOf n0 n1 n2 n3) 256, by rw [h 0 (by decide), k0], by rw [h 1 (by decide), k1], by rw [h 2 (by decide), k2], by rw [h 3 (by decide), k3]⟩
theorem bulk_pos {H : Type} (d : DataW H) : 1 ≤ Rows.uptoBulk d := by
  cases d with
  | lit l => cases l <;> simp [Rows.uptoBulk]
  | _ => simp [Rows.uptoBulk]
theorem bulkAll_mem {H : Type} : ∀ {ds : List (DataW H)} {d : DataW H}, d ∈ ds → Rows.uptoBulk d ≤ Rows.uptoBulkAll ds
  | e :: r, d, h => by
    rcases List.mem_cons.1 h with rfl | h
    · simp [Rows.uptoBulkAll]
    · have := bulkAll_mem h
      simp [Rows.uptoBulkAll]
      omega

section
variable {H : Type} {enc : TypeId × Value → H} {W : World}
end
end Go.Proofs.YtffkppoidollnaaGreatDoor
namespace Go.Proofs.YtffkppoidollnaaGreatDoor
open Go.ChangeShapes Go.WideShapes Go.ChangeAt Go.RowKit Go.Shelf
set_option linter.unusedSimpArgs false
set_option linter.unusedVariables false
set_option maxRecDepth 100000

theorem gTab : Tryz.prog.globalNamed "math/bits.deBruijn64tab" = some 1 := by kernel_rfl
theorem gTabType : (Tryz.prog.globals[1]?).map (·.type) = some 218 := by kernel_rfl
theorem cellsTab : Tryz.prog.cellsOf 218 = 64 := by kernel_rfl
/-- What a row's list gives: the table's cells hold its numbers. -/
theorem table_at {W : World} (h : laidMetH Tryz.prog [("math/bits.deBruijn64tab", Rows.laid_math_bits_deBruijn64tab)] W) : TabAt 1 Lib.deBruijn64tab W := by
  have ht : Lib.TabIs Tryz.prog W "math/bits.deBruijn64tab" .u8 (Lib.deBruijn64tab.map fun n : Nat => (n : Int)) :=
    Lib.tabIs_of_head (rest := []) gTab gTabType Tryz.underlying218 Tryz.underlying5 cellsByte cellsTab h
  intro j hj
  have hc := ht.cell gTab j (by simpa using hj)
  rw [hc]
  simp [List.getD_eq_getElem?_getD, hj]
/-- A world for the witness: the table holds what its initialiser lays. -/
noncomputable def tabWorld (os : Os) : World :=
  { World.holding Tryz.prog os ⟨#[], #[], []⟩ with heap := (World.holding Tryz.prog os ⟨#[], #[], []⟩).heap.modify 1 fun
      | .cells _ t frozen => .cells (Lib.deBruijn64tab.map fun n : Nat => Value.int .u8 (n : Int)).toArray t frozen
      | o => o }
end Go.Proofs.YtffkppoidollnaaGreatDoor
namespace Go.Proofs.YtffkppoidollnaaGreatDoor
open Go.RowKit
set_option linter.unusedSimpArgs false
set_option linter.unusedVariables false
set_option maxRecDepth 100000

def topN : Nat := 1099511627776
/-- At A stand numbers. -/
def NumsAt (w : World) (A : Option Addr) (xs : List Nat) : Prop := ∀ i, i < xs.length → ∃ b o, A = some ⟨b, o, none⟩ ∧ w.cell? ⟨b, o + i, none⟩ = some (.int .i64 ((xs.getD i 0 : Nat) : Int))
theorem NumsAt.below {w w' : World} {A : Option Addr} {xs : List Nat} (h : NumsAt w A xs) (hb : Below w.heap.size w w') : NumsAt w' A xs := fun i hi => by
  obtain ⟨b, o, hA, hc⟩ := h i hi
  exact ⟨b, o, hA, (hb.cell (p := ⟨b, _, none⟩) (World.block_lt_of_cell? w _ hc)).trans hc⟩
end Go.Proofs.YtffkppoidollnaaGreatDoor
namespace Go.Proofs.YtffkppoidollnaaGreatDoor
open Go.RowKit Go.Shelf
set_option linter.unusedSimpArgs false
set_option linter.unusedVariables false
set_option maxRecDepth 100000
attribute [local go_sem] Oper.semAt_some

/-! Where no depth is asked the figures are all one (turned from the worked proof of a recursive iterator). -/
theorem room_of_none {F : Fence} (hd : F.depth = none) (k : Nat) : F.room k := fun d h => by rw [hd] at h; cases h
theorem roundIn_any {F : Fence} (hd : F.depth = none) {m m' : Nat} {P : Program} {l : Nat} {f : FuncId} {tmps : Array Value} {assign body : Code} {w : World} {R : Ending → World → Prop}
    (h : RoundIn F m P l f tmps assign body w R) : RoundIn F m' P l f tmps assign body w R := ⟨h.1, fun c cs _ => h.2 c cs (room_of_none hd _)⟩
theorem yieldAt_any {F : Fence} (hd : F.depth = none) {m : Nat} (m' : Nat) {P : Program} {l : Nat} {args : Array Value} {W : World} {R : Ending → World → Prop} (h : YieldAt F m P l args W R) : YieldAt F m' P l args W R := by
  obtain ⟨fn, tmps, assign, body, hy, hR⟩ := h
  exact ⟨fn, tmps, assign, body, hy, roundIn_any hd hR⟩

/-- A node that may be, with the slice of its kids. -/
abbrev Item := { q : Nd × Option Addr × Nat // Alone q.1 }
/-- All cells but those of one block lie as they lay. -/
def Kc (Bn : Nat) (A B : World) : Prop := A.heap.size ≤ B.heap.size ∧ ∀ (p : Addr) (v : Value), p.block ≠ Bn → A.cell? p = some v → B.cell? p = some v
theorem Kc.refl (Bn : Nat) (A : World) : Kc Bn A A := ⟨Nat.le_refl _, fun _ _ _ h => h⟩
theorem Kc.trans {Bn : Nat} {A B C : World} (h : Kc Bn A B) (k : Kc Bn B C) : Kc Bn A C := ⟨Nat.le_trans h.1 k.1, fun p v hp hc => k.2 p v hp (h.2 p v hp hc)⟩
theorem Kc.below {Bn : Nat} {A B : World} (h : Below A.heap.size A B) : Kc Bn A B := ⟨h.size, fun p v _ hc => (h.cell (World.block_lt_of_cell? A _ hc)).trans hc⟩
theorem Kc.trees {Bn : Nat} {w w' : World} (hk : Kc Bn w w') {P : Nat → Prop} (hP : ∀ b, P b → b ≠ Bn) : ∀ {F : Trees} {A : Option Addr}, TreesAt w P F A → TreesAt w' P F A
  | .nil, _, _ => trivial
  | .cons k s ks lo hi r, A, ⟨b, o, B, cap, hA, hb, hc, ⟨n0, n1, n2, n3, n4, n5, n6, n7⟩, h1, h2⟩ =>
    ⟨b, o, B, cap, hA, hb, hc, ⟨hk.2 _ _ (hP b hb) n0, hk.2 _ _ (hP b hb) n1, hk.2 _ _ (hP b hb) n2, hk.2 _ _ (hP b hb) n3, hk.2 _ _ (hP b hb) n4, hk.2 _ _ (hP b hb) n5, hk.2 _ _ (hP b hb) n6, hk.2 _ _ (hP b hb) n7⟩, Kc.trees hk hP h1, Kc.trees hk hP h2⟩

theorem Sound.get : ∀ {F : Trees} {i : Nat} {z : Nd}, Sound F → F.list[i]? = some z → SoundN z
  | .nil, i, z, _, h => by simp [Trees.list] at h
  | .cons k s ks lo hi r, 0, z, hs, h => by
    simp [Trees.list] at h
    subst h
    exact ⟨hs.1, hs.2.1⟩
  | .cons k s ks lo hi r, i + 1, z, hs, h => Sound.get hs.2.2 (by simpa [Trees.list] using h)
/-- How many nodes the first k trees have. -/
def Trees.first : Trees → Nat → Nat
  | .nil, _ => 0
  | .cons _ _ _ _ _ _, 0 => 0
  | .cons _ _ ks _ _ r, k + 1 => 1 + ks.size + r.first k
section
variable {l Bn N : Nat} {P : Nat → Prop} {J Jx : List Item → World → Prop}
end

set_option maxHeartbeats 1000000 in
/-- tree.nodes: the tree is boxed; the function value holds the box. -/
theorem nodes_go (x : Nd) (B : Option Addr) (cap : Nat) (w : World) :
    Calls Tryz.prog 72 #[ndV x B cap] w fun e w' => e = .returned (.func (.func 104) #[] #[.pointer (some ⟨w.heap.size, 0, none⟩)]) ∧ w' = w.alloc (.cells (ndA x B cap) 39) := by
  unfold ndV
  go_enter Tryz.func72, Tryz.ntmps72
  go_wp2
  go_light
  go_ret
  exact ⟨rfl, rfl⟩
end Go.Proofs.YtffkppoidollnaaGreatDoor
namespace Go.Proofs.YtffkppoidollnaaGreatDoor
open Go.RowKit Go.Shelf
set_option linter.unusedSimpArgs false
set_option linter.unusedVariables false
set_option maxRecDepth 100000
attribute [local go_sem] Oper.semAt_some

/-- A node, with the slice of its kids. -/
abbrev ItemX := Nd × Option Addr × Nat
def itemX (q : ItemX) : Array Value := #[ndV q.1 q.2.1 q.2.2]
/-- All nodes, each ahead of its kids. -/
def Trees.nodes : Trees → List Nd
  | .nil => []
  | .cons k s ks lo hi r => ⟨k, s, ks, lo, hi⟩ :: (ks.nodes ++ r.nodes)
def Nd.nodes (x : Nd) : List Nd := x :: x.kids.nodes
theorem Trees.nodes_len : ∀ F : Trees, F.nodes.length = F.size
  | .nil => rfl
  | .cons k s ks lo hi r => by
    have h1 := Trees.nodes_len ks
    have h2 := Trees.nodes_len r
    simp [Trees.nodes, Trees.size, h1, h2]
    omega
theorem Nd.nodes_len (x : Nd) : x.nodes.length = x.size := by
  unfold Nd.nodes Nd.size
  rw [List.length_cons, Trees.nodes_len]
  omega
/-- The nodes of the first trees. -/
def Trees.upto : Trees → Nat → List Nd
  | .nil, _ => []
  | .cons _ _ _ _ _ _, 0 => []
  | .cons k s ks lo hi r, i + 1 => ⟨k, s, ks, lo, hi⟩ :: (ks.nodes ++ r.upto i)
theorem Trees.upto_zero (F : Trees) : F.upto 0 = [] := by cases F <;> rfl
theorem Trees.upto_succ : ∀ {F : Trees} {i : Nat} {z : Nd}, F.list[i]? = some z → F.upto (i + 1) = F.upto i ++ z.nodes
  | .nil, i, z, h => by simp [Trees.list] at h
  | .cons k s ks lo hi r, 0, z, h => by
    simp [Trees.list] at h
    subst h
    simp [Trees.upto, Trees.upto_zero, Nd.nodes]
  | .cons k s ks lo hi r, i + 1, z, h => by
    have := Trees.upto_succ (F := r) (i := i) (by simpa [Trees.list] using h)
    simp only [Trees.upto] at this ⊢
    rw [this]
    simp
theorem Trees.upto_prefix : ∀ (F : Trees) (i : Nat), F.upto i <+: F.nodes
  | .nil, i => List.prefix_refl _
  | .cons k s ks lo hi r, 0 => List.nil_prefix
  | .cons k s ks lo hi r, i + 1 => by
    have := Trees.upto_prefix r i
    obtain ⟨t, ht⟩ := this
    exact ⟨t, by simp [Trees.upto, Trees.nodes, ← ht]⟩
theorem Trees.upto_all : ∀ (F : Trees), F.upto F.len = F.nodes
  | .nil => rfl
  | .cons k s ks lo hi r => by
    have := Trees.upto_all r
    simp [Trees.upto, Trees.nodes, Trees.len, this]

section
variable {l Bn N : Nat} {P : Nat → Prop} {J Jx : List ItemX → World → Prop}
def WalkX (l Bn N : Nat) (P : Nat → Prop) (J Jx : List ItemX → World → Prop) (n : Nat) : Prop := ∀ (m : Nat) (x : Nd) (B : Option Addr) (cap : Nat) (pre : List ItemX) (W : World), x.size ≤ n → Bn < W.heap.size → TreesAt W P x.kids B → J pre W → pre.length + x.size ≤ N →
  CallsIn Fence.wide m Tryz.prog 105 #[ndV x B cap, .func (.yield l) #[] #[]] W fun e W' =>
    (e = .returned (.bool true) ∧ (∃ ys : List ItemX, ys.map (·.1) = pre.map (·.1) ++ x.nodes ∧ J ys W') ∧ Kc Bn W W') ∨ (e = .returned (.bool false) ∧ ∃ q : List ItemX, q.map (·.1) <+: pre.map (·.1) ++ x.nodes ∧ Jx q W')
set_option maxHeartbeats 2000000 in
theorem walkx_step (hP : ∀ b, P b → b ≠ Bn) (hN : N ≤ 4611686018427387903) (hJ : ∀ s W o, J s W → J s (World.alloc W o))
    (hY : ∀ m pre (x : ItemX) W, J pre W → pre.length < N → YieldAt Fence.wide m Tryz.prog l (itemX x) W fun e W' =>
      (e = .returned (.bool true) ∧ J (pre ++ [x]) W' ∧ Kc Bn W W') ∨ (e = .returned (.bool false) ∧ Jx (pre ++ [x]) W'))
    {n : Nat} (ih : WalkX l Bn N P J Jx n) : WalkX l Bn N P J Jx (n + 1) := by
  intro m x B cap pre W hsz hBn ht h0 hlen
  have hx1 : 1 ≤ x.size := by unfold Nd.size; omega
  have hxs : x.size = 1 + x.kids.size := rfl
  have hk0 := Trees.len_size x.kids
  have hlk : x.kids.len ≤ 4611686018427387903 := by omega
  have HA := Lib.hid (show Kc Bn W (W.alloc (.cells (ndA x B cap) 39)) from Kc.below ((Below.refl _ _).alloc (Nat.le_refl _) _))
  have HK := Lib.hid (Blk.new W 39 (ndA x B cap))
  obtain ⟨fn, tmps, assign, body, hy, hR⟩ := hY (m - 1) pre (x, B, cap) (W.alloc (.cells (ndA x B cap) 39)) (hJ _ _ _ h0) (by omega)
  have HR := Lib.hid hR
  have HT := Lib.hid ht
  have hne : W.heap.size ≠ Bn := by omega
  clear hR ht
  unfold itemX at hy
  dsimp only at hy
  unfold ndV ndA at hy
  unfold ndV
  refine callsIn_of_wp Tryz.func105 rfl trivial ?_ rfl
  simp only [Tryz.ntmps105, List.size_toArray, List.length_cons, List.length_nil, Nat.reduceAdd, Nat.reduceSub, Array.replicate_succ, Array.replicate_zero, List.push_toArray, List.append_toArray, List.nil_append, List.cons_append]
  have hdd : ∀ k : Nat, (Fence.wide.depth.isSome = true → 1 ≤ k) := fun k h => by cases h
  gi_wp2
  refine ⟨hdd _, HR.out.mono ?_⟩
  rintro e W3 (⟨rfl, hJ3, hk3⟩ | ⟨rfl, hJx3⟩)
  · have hK3 := HA.out.trans hk3
    have c5 : W3.cell? ⟨W.heap.size, 5, none⟩ = some (.slice B x.kids.len cap) := hk3.2 ⟨W.heap.size, 5, none⟩ _ hne (HK.out.cell 5)
    have HJ3 := Lib.hid hJ3
    have HK3 := Lib.hid hK3
    clear hJ3 hk3 hK3 HR hy HA HK
    gi_wp2
    gi_loopw [14] (fun v wr => ∃ k : Nat, v = .int .i64 (k : Int) ∧ k ≤ x.kids.len ∧ Hid ((∃ ys : List ItemX, ys.map (·.1) = pre.map (·.1) ++ x :: x.kids.upto k ∧ J ys wr) ∧ Kc Bn W wr)) (fun v _ => x.kids.len - (intOf v).toNat)
    case atStart => exact ⟨0, rfl, Nat.zero_le _, Lib.hid ⟨⟨_, by rw [Trees.upto_zero]; simp, HJ3.out⟩, HK3.out⟩⟩
    case round =>
      obtain ⟨k, rfl, hk, HI⟩ := hrel
      clear HJ3 HK3
      by_cases hlt : k < x.kids.len
      · obtain ⟨z, hz⟩ : ∃ z, x.kids.list[k]? = some z := ⟨_, List.getElem?_eq_getElem (by rw [Trees.len_list]; exact hlt)⟩
        have hzs := Trees.size_get x.kids k z hz
        obtain ⟨⟨ys, hys, hJy⟩, hKy⟩ := HI.out
        obtain ⟨b, o, C, capc, rfl, _, _, ⟨c0, c1, c2, c3, c4, c5, c6, c7⟩, hkz⟩ := (Kc.trees hKy hP HT.out).get hz
        have hf1 := Trees.upto_succ hz
        have hf2 := (Trees.upto_prefix x.kids (k + 1)).length_le
        rw [Trees.nodes_len, hf1, List.length_append, Nd.nodes_len] at hf2
        have hyl := congrArg List.length hys
        simp only [List.length_map, List.length_append, List.length_cons] at hyl
        have hdl : (k : Int) < (x.kids.len : Int) := by omega
        have hkA : Kc Bn wr (wr.alloc (.cells (ndA z C capc) 39)) := Kc.below ((Below.refl _ _).alloc (Nat.le_refl _) _)
        have HC := Lib.hid (ih (m - 1) z C capc ys (wr.alloc (.cells (ndA z C capc) 39)) (by omega) (by have := hKy.1; simp; omega) (Kc.trees hkA hP hkz) (hJ _ _ _ hJy) (by omega))
        have HKy := Lib.hid (hKy.trans hkA)
        have HF := Lib.hid (show ys.map (·.1) ++ z.nodes = pre.map (·.1) ++ x :: x.kids.upto (k + 1) by rw [hys, hf1]; simp)
        clear hyl
        clear hz hzs hys hJy hKy hkz hf1 hf2 hkA HI
        unfold ndV at HC
        gi_wp2
        refine ⟨trivial, hdd _, HC.out.mono ?_⟩
        clear HC
        rintro e W4 (⟨rfl, ⟨ys4, hl4, hJ4⟩, hk4⟩ | ⟨rfl, q, hqp, hq⟩)
        · have HI4 := Lib.hid (show (∃ ys : List ItemX, ys.map (·.1) = pre.map (·.1) ++ x :: x.kids.upto (k + 1) ∧ J ys W4) ∧ Kc Bn W W4 from ⟨⟨ys4, hl4.trans HF.out, hJ4⟩, HKy.out.trans hk4⟩)
          clear hl4 hJ4 hk4 HF HKy c0 c1 c2 c3 c4 c5 c6 c7
          dsimp only
          gi_wp2
          go_roundw
          case rel => exact ⟨k + 1, by go_num, by omega, HI4⟩
          case measure => simp [intOf]; omega
        · have HQ := Lib.hid (show q.map (·.1) <+: pre.map (·.1) ++ x.nodes ∧ Jx q W4 from ⟨by
            rw [HF.out] at hqp
            exact hqp.trans (by unfold Nd.nodes; exact (List.prefix_append_right_inj _).2 (List.cons_prefix_cons.2 ⟨rfl, Trees.upto_prefix _ _⟩)), hq⟩)
          clear hq hqp HF HKy c0 c1 c2 c3 c4 c5 c6 c7
          dsimp only
          gi_wp2
          go_ret
          exact .inr ⟨rfl, q, HQ.out⟩
      · have hdl : ¬ (k : Int) < (x.kids.len : Int) := by omega
        obtain rfl : k = x.kids.len := by omega
        obtain ⟨⟨ys, hys, hJy⟩, hKy⟩ := HI.out
        have HY := Lib.hid (show (∃ ys : List ItemX, ys.map (·.1) = pre.map (·.1) ++ x.nodes ∧ J ys wr) ∧ Kc Bn W wr from ⟨⟨ys, by rw [hys, Trees.upto_all]; rfl, hJy⟩, hKy⟩)
        clear hys hJy hKy HI
        gi_wp2
        go_ret
        exact .inl ⟨rfl, HY.out.1, HY.out.2⟩
  · gi_wp2
    go_ret
    exact .inr ⟨rfl, _, by unfold Nd.nodes; simp, hJx3⟩
theorem walkx_all (hP : ∀ b, P b → b ≠ Bn) (hN : N ≤ 4611686018427387903) (hJ : ∀ s W o, J s W → J s (World.alloc W o))
    (hY : ∀ m pre (x : ItemX) W, J pre W → pre.length < N → YieldAt Fence.wide m Tryz.prog l (itemX x) W fun e W' =>
      (e = .returned (.bool true) ∧ J (pre ++ [x]) W' ∧ Kc Bn W W') ∨ (e = .returned (.bool false) ∧ Jx (pre ++ [x]) W')) : ∀ n, WalkX l Bn N P J Jx n
  | 0 => fun m x B cap pre W h => by unfold Nd.size at h; omega
  | n + 1 => walkx_step hP hN hJ hY (walkx_all hP hN hJ hY n)
end

set_option maxHeartbeats 1000000 in
theorem nodesx1_in (n : Nat) (x : Nd) (B : Option Addr) (cap : Nat) (l Bs Bn : Nat) (P : Nat → Prop) (hP : ∀ b, P b → b ≠ Bn) (hsz : x.size ≤ 4611686018427387903) (J Jx : List ItemX → World → Prop) (hJ : ∀ s W o, J s W → J s (World.alloc W o))
    (hY : ∀ pre (y : ItemX) W, J pre W → pre.length < x.size → YieldAt Fence.wide (n - 1) Tryz.prog l (itemX y) W fun e W' =>
      (e = .returned (.bool true) ∧ J (pre ++ [y]) W' ∧ Kc Bn W W') ∨ (e = .returned (.bool false) ∧ Jx (pre ++ [y]) W'))
    (W : World) (hb : Blk W Bs 39 (ndA x B cap)) (hBn : Bn < W.heap.size) (ht : TreesAt W P x.kids B) (h0 : J [] W) :
    CallsIn Fence.wide n Tryz.prog 104 #[.func (.yield l) #[] #[], .pointer (some ⟨Bs, 0, none⟩)] W fun e W' => (∃ v, e = .returned v) ∧
      ((∃ ys : List ItemX, ys.map (·.1) = x.nodes ∧ J ys W') ∨ (∃ pre : List ItemX, pre.map (·.1) <+: x.nodes ∧ Jx pre W')) := by
  have HC := Lib.hid (walkx_all (N := x.size) hP hsz hJ (fun m pre x W hj hl => yieldAt_any rfl m (hY pre x W hj hl)) x.size (n - 1) x B cap [] W (Nat.le_refl _) hBn ht h0 (by simp))
  have c0 : W.cell? ⟨Bs, 0, none⟩ = some (.int .i64 x.kind) := hb.cell 0
  have c1 : W.cell? ⟨Bs, 1, none⟩ = some (.int .u64 ((word x.set.testBit 0 : Nat) : Int)) := hb.cell 1
  have c2 : W.cell? ⟨Bs, 2, none⟩ = some (.int .u64 ((word x.set.testBit 1 : Nat) : Int)) := hb.cell 2
  have c3 : W.cell? ⟨Bs, 3, none⟩ = some (.int .u64 ((word x.set.testBit 2 : Nat) : Int)) := hb.cell 3
  have c4 : W.cell? ⟨Bs, 4, none⟩ = some (.int .u64 ((word x.set.testBit 3 : Nat) : Int)) := hb.cell 4
  have c5 : W.cell? ⟨Bs, 5, none⟩ = some (.slice B x.kids.len cap) := hb.cell 5
  have c6 : W.cell? ⟨Bs, 6, none⟩ = some (.int .i64 x.lo) := hb.cell 6
  have c7 : W.cell? ⟨Bs, 7, none⟩ = some (.int .i64 x.hi) := hb.cell 7
  have hdd : ∀ k : Nat, (Fence.wide.depth.isSome = true → 1 ≤ k) := fun k h => by cases h
  clear hb ht h0 hY hsz
  refine callsIn_of_wp Tryz.func104 rfl trivial ?_ rfl
  simp only [Tryz.ntmps104, List.size_toArray, List.length_cons, List.length_nil, Nat.reduceAdd, Nat.reduceSub, Array.replicate_succ, Array.replicate_zero, List.push_toArray, List.append_toArray, List.nil_append, List.cons_append]
  gi_wp2
  refine ⟨trivial, hdd _, HC.out.mono ?_⟩
  rintro e W1 (⟨rfl, ⟨ys, hys, hJ1⟩, _⟩ | ⟨rfl, q, hqp, hq⟩)
  · dsimp only
    gi_wp2
    go_end0
    exact ⟨⟨_, rfl⟩, .inl ⟨ys, by simpa using hys, hJ1⟩⟩
  · dsimp only
    gi_wp2
    go_end0
    exact ⟨⟨_, rfl⟩, .inr ⟨q, by simpa using hqp, hq⟩⟩
/-- What tree.nodes hands back hands out all nodes, each ahead of its kids. -/
theorem nodesx_stops (n : Nat) (x : Nd) (B : Option Addr) (cap : Nat) (Bs Bn : Nat) (P : Nat → Prop) (w : World) (hP : ∀ b, P b → b ≠ Bn) (hsz : x.size ≤ 4611686018427387903) (hb : Blk w Bs 39 (ndA x B cap)) (hBn : Bn < w.heap.size) (ht : TreesAt w P x.kids B) :
    SeqStopsK Fence.wide n Tryz.prog 104 #[.pointer (some ⟨Bs, 0, none⟩)] itemX (Kc Bn) (fun ys => ys.map (·.1) = x.nodes) (fun pre => pre.map (·.1) <+: x.nodes) x.size w := fun l J Jx W hW hJ _ hY h0 =>
  nodesx1_in n x B cap l Bs Bn P hP hsz J Jx (fun s W o h => hJ s W _ none h (World.grownBy_alloc W o none) (fun r e => by cases e)) hY W (hb.below hW hb.lt) (by have := hW.size; omega) (ht.below hW) h0

end Go.Proofs.YtffkppoidollnaaGreatDoor
namespace Go.Proofs.YtffkppoidollnaaGreatDoor
open Go.RowKit Go.Shelf
set_option linter.unusedSimpArgs false
set_option linter.unusedVariables false
set_option maxRecDepth 100000
attribute [local go_sem] Oper.semAt_some

theorem Kc.put {Bn : Nat} (W : World) (l : Nat) (o o' : Obj) (h : W.heap[l]? = some o) (hc : o.isCells = false) : Kc Bn W (W.putObj l o') :=
  ⟨(grownBy_putObj' W l o').size, fun p v _ hv => cell_kept hv (grownBy_putObj' W l o') (fun r e => by cases e; exact ⟨o, h, hc⟩)⟩
theorem Kc.setCell {Bn : Nat} (W : World) (v : Value) : Kc Bn W (W.setCell ⟨Bn, 0, none⟩ v) :=
  ⟨by simp, fun p u hp hu => (World.cell?_of_block (Below.heap_setCell W ⟨Bn, 0, none⟩ v p.block hp)).trans hu⟩
theorem keepsFrom_below {B : Nat} {W W' : World} (h : Below W.heap.size W W') : KeepsFrom B W W' :=
  ⟨h.size, fun k o _ hk _ => (h.block k (Array.getElem?_eq_some_iff.1 hk).1).trans hk⟩

theorem ret_boolc {fn : Func} {t : Tmp} (h : fn.results = #[.cell t 4]) {tmps : Array Value} {w : World} {g : Nat} {b : Bool}
    (hp : tmps.getD t undef = .pointer (some ⟨g, 0, none⟩)) (hc : w.cell? ⟨g, 0, none⟩ = some (.bool b)) :
    (results fn tmps).run Tryz.prog w = .ok (.bool b) w := by
  have hp' : tmps[t]?.getD undef = .pointer (some ⟨g, 0, none⟩) := by simpa using hp
  simp [results, h, hp', asAddr, go_sem, hc]
end Go.Proofs.YtffkppoidollnaaGreatDoor
namespace Go.Proofs.YtffkppoidollnaaGreatDoor
open Go.RowKit Go.Shelf
set_option linter.unusedSimpArgs false
set_option linter.unusedVariables false
set_option maxRecDepth 100000
attribute [local go_sem] Oper.semAt_some

/-- May a node be, without its kids? -/
def aloneN (y : Nd) : Bool := aloneV y.kind (word y.set.testBit 0 : Nat) (word y.set.testBit 1 : Nat) (word y.set.testBit 2 : Nat) (word y.set.testBit 3 : Nat) y.kids.len y.lo y.hi
/-- May a tree be? -/
def rightT (x : Nd) : Bool := decide (x.nodes.length ≤ 4096) && x.nodes.all aloneN
theorem aloneN_go (y : Nd) (B : Option Addr) (cap : Nat) (w : World) :
    Calls Tryz.prog 73 #[ndV y B cap] w fun e w' => e = .returned (.bool (aloneN y)) ∧ Below w.heap.size w w' :=
  alone_any _ _ _ _ _ _ _ B _ cap w
theorem rightT_yes {x : Nd} {ys : List ItemX} (h : ys.map (·.1) = x.nodes) (h1 : ys.length ≤ 4096) (h2 : ∀ q ∈ ys, aloneN q.1 = true) : rightT x = true := by
  unfold rightT
  rw [← h, Bool.and_eq_true, decide_eq_true_eq, List.all_eq_true]
  refine ⟨by simpa using h1, fun y hy => ?_⟩
  obtain ⟨q, hq, rfl⟩ := List.mem_map.1 hy
  exact h2 q hq
theorem rightT_no {x : Nd} {ys : List ItemX} (h : ys.map (·.1) <+: x.nodes) (h1 : 4096 < ys.length ∨ ∃ q ∈ ys, aloneN q.1 = false) : rightT x = false := by
  unfold rightT
  rcases h1 with h1 | ⟨q, hq, hf⟩
  · have := h.length_le
    rw [List.length_map] at this
    rw [Bool.and_eq_false_iff]
    exact .inl (by rw [decide_eq_false_iff_not]; omega)
  · rw [Bool.and_eq_false_iff]
    refine .inr ?_
    cases ha : x.nodes.all aloneN
    · rfl
    · have := List.all_eq_true.1 ha q.1 (h.subset (List.mem_map.2 ⟨q, hq, rfl⟩))
      rw [hf] at this
      cases this

set_option maxHeartbeats 4000000 in
theorem trightx_in (n : Nat) (hn : 3 ≤ n) (x : Nd) (B : Option Addr) (cap : Nat) (w : World) (hsz : x.size ≤ 4611686018427387903) (ht : TreesAt w (fun b => b < w.heap.size) x.kids B) :
    CallsIn Fence.wide n Tryz.prog 34 #[ndV x B cap] w fun e w' => e = .returned (.bool (rightT x)) ∧ Below w.heap.size w w' := by
  have h1 : 1 ≤ n := by omega
  unfold ndV
  refine callsIn_of_wp_marks Tryz.func34 rfl trivial ?_ rfl
  simp only [Tryz.ntmps34, List.size_toArray, List.length_cons, List.length_nil, Nat.reduceAdd, Nat.reduceSub, Array.replicate_succ, Array.replicate_zero, List.push_toArray, List.append_toArray, List.nil_append, List.cons_append]
  gi_wp2_with (refine ⟨trivial, ?_⟩; gi_at_call 72; refine (callsIn_wide.2 (nodes_go x B cap _)).mono ?_; rintro e w' ⟨rfl, rfl⟩)
  have bR := ((Boxed.new (w.alloc (.cells (ndA x B cap) 39)) 4 (.bool false)).alloc (.cells #[.int .i64 0] 3)).alloc (.cells (ndA x B cap) 39)
  have bN := (Boxed.new ((w.alloc (.cells (ndA x B cap) 39)).alloc (.cells #[.bool false] 4)) 3 (.int .i64 0)).alloc (.cells (ndA x B cap) 39)
  have bS := Blk.new (((w.alloc (.cells (ndA x B cap) 39)).alloc (.cells #[.bool false] 4)).alloc (.cells #[.int .i64 0] 3)) 39 (ndA x B cap)
  simp only [World.size_alloc] at bR bN bS
  have hB0 : Below w.heap.size w ((((w.alloc (.cells (ndA x B cap) 39)).alloc (.cells #[.bool false] 4)).alloc (.cells #[.int .i64 0] 3)).alloc (.cells (ndA x B cap) 39)) := ((((Below.refl _ w).alloc (Nat.le_refl _) _).alloc (by simp) _).alloc (by simp; omega) _).alloc (by simp; omega) _
  have hsz0 : ((((w.alloc (.cells (ndA x B cap) 39)).alloc (.cells #[.bool false] 4)).alloc (.cells #[.int .i64 0] 3)).alloc (.cells (ndA x B cap) 39)).heap.size = w.heap.size + 4 := by simp
  unfold ndA at bR bN hB0 hsz0
  unfold ndA
  obtain ⟨W0, hW0⟩ : ∃ W0, ((((w.alloc (.cells #[.int .i64 x.kind, .int .u64 ((word x.set.testBit 0 : Nat) : Int), .int .u64 ((word x.set.testBit 1 : Nat) : Int), .int .u64 ((word x.set.testBit 2 : Nat) : Int), .int .u64 ((word x.set.testBit 3 : Nat) : Int), .slice B x.kids.len cap, .int .i64 x.lo, .int .i64 x.hi] 39)).alloc (.cells #[.bool false] 4)).alloc (.cells #[.int .i64 0] 3)).alloc (.cells #[.int .i64 x.kind, .int .u64 ((word x.set.testBit 0 : Nat) : Int), .int .u64 ((word x.set.testBit 1 : Nat) : Int), .int .u64 ((word x.set.testBit 2 : Nat) : Int), .int .u64 ((word x.set.testBit 3 : Nat) : Int), .slice B x.kids.len cap, .int .i64 x.lo, .int .i64 x.hi] 39)) = W0 := ⟨_, rfl⟩
  have bS : Blk W0 (w.heap.size + 1 + 1 + 1) 39 (ndA x B cap) := by rw [← hW0]; exact bS
  rw [hW0] at bR bN hB0 hsz0 ⊢
  clear hW0
  refine wpIn_rangeFunc_ownH rfl h1 (gf := 104) (lb := #[.pointer (some ⟨w.heap.size + 1 + 1 + 1, 0, none⟩)]) rfl trivial (enters_of Tryz.func104 (by kernel_rfl) rfl)
    (nodesx_stops (n - 1) x B cap (w.heap.size + 1 + 1 + 1) (w.heap.size + 1 + 1) (fun b => b < w.heap.size) W0 (fun b hb => by omega) hsz bS (by omega) (ht.below hB0)) (fun h k => h.trans k) (fun W l o o' _ ho hc _ => Kc.put W l o o' ho hc) (Below.refl _ _) (fun _ => rfl)
    (fun pre W => ((Boxed W (w.heap.size + 1 + 1) 3 (.int .i64 ((pre.length : Nat) : Int)) ∧ Boxed W (w.heap.size + 1) 4 (.bool false)) ∧ (pre.length ≤ 4096 ∧ ∀ q ∈ pre, aloneN q.1 = true)) ∧ Below w.heap.size w W)
    (fun c pre W => c = .ret ∧ ((Boxed W (w.heap.size + 1) 4 (.bool false) ∧ (4096 < pre.length ∨ ∃ q ∈ pre, aloneN q.1 = false)) ∧ Below w.heap.size w W))
    (OwnFrom.and (OwnFrom.and (OwnFrom.and (Own.from (boxed_own _ _ _) _) (Own.from (boxed_own _ _ _) _)) (ownFrom_pure _ _)) (ownFrom_below (Nat.le_refl _) (by omega)))
    (fun c => OwnFrom.and (ownFrom_pure _ (fun _ => c = .ret)) (OwnFrom.and (OwnFrom.and (Own.from (boxed_own _ _ _) _) (ownFrom_pure _ _)) (ownFrom_below (Nat.le_refl _) (by omega))))
    ⟨⟨⟨bN, bR⟩, Nat.zero_le _, fun q hq => by cases hq⟩, hB0⟩
    (fun (q : ItemX) a' W => ∃ Bx, w.heap.size + 1 + 1 < Bx ∧ Blk W Bx 39 (ndA q.1 q.2.1 q.2.2) ∧ a' = { tmps := #[ndV x B cap, .pointer (some ⟨w.heap.size, 0, none⟩), .pointer (some ⟨w.heap.size + 1, 0, none⟩), .pointer (some ⟨w.heap.size + 1 + 1, 0, none⟩), .pointer (some ⟨Bx, 0, none⟩), ndV x B cap, .func (.func 104) #[] #[.pointer (some ⟨w.heap.size + 1 + 1 + 1, 0, none⟩)], ndV q.1 q.2.1 q.2.2, undef, undef, undef, undef, undef, undef, undef, undef, undef], defers := [] })
    (fun q a' _ X Y row hs hg hr => by
      obtain ⟨Bx, h1, h2, h3⟩ := hs
      exact ⟨Bx, h1, h2.grown hg (fun e => by
        obtain ⟨o, ho, hc⟩ := (hr _ e.symm).2
        rw [show X.heap[Bx]? = _ from h2] at ho
        cases ho
        cases hc), h3⟩)
    ?assign ?body ?done ?stop
  case assign =>
    rintro l pre q W K ⟨⟨⟨bN1, bR1⟩, hp1⟩, hB1⟩ hK
    unfold itemX ndV
    gi_wp2
    exact hK _ _ ((KeepsOthers.alloc _ _).from _) (Kc.below ((Below.refl _ W).alloc (Nat.le_refl _) _)) ⟨⟨⟨bN1.alloc _, bR1.alloc _⟩, hp1⟩, hB1.alloc hB1.size _⟩ ⟨W.heap.size, bN1.lt, Blk.new W 39 _, rfl⟩
  case body =>
    rintro l pre q a' W hl _ ⟨⟨⟨bN1, bR1⟩, hpl, hpa⟩, hB1⟩ ⟨Bx, hBx, bX, rfl⟩ hlt
    have cN := bN1.cell
    have fN := bN1.frozen
    have cR := bR1.cell
    have fR := bR1.frozen
    have HPA := Lib.hid hpa
    have x0 : W.cell? ⟨Bx, 0, none⟩ = some (.int .i64 q.1.kind) := bX.cell 0
    have x1 : W.cell? ⟨Bx, 1, none⟩ = some (.int .u64 ((word q.1.set.testBit 0 : Nat) : Int)) := bX.cell 1
    have x2 : W.cell? ⟨Bx, 2, none⟩ = some (.int .u64 ((word q.1.set.testBit 1 : Nat) : Int)) := bX.cell 2
    have x3 : W.cell? ⟨Bx, 3, none⟩ = some (.int .u64 ((word q.1.set.testBit 2 : Nat) : Int)) := bX.cell 3
    have x4 : W.cell? ⟨Bx, 4, none⟩ = some (.int .u64 ((word q.1.set.testBit 3 : Nat) : Int)) := bX.cell 4
    have x5 : W.cell? ⟨Bx, 5, none⟩ = some (.slice q.2.1 q.1.kids.len q.2.2) := bX.cell 5
    have x6 : W.cell? ⟨Bx, 6, none⟩ = some (.int .i64 q.1.lo) := bX.cell 6
    have x7 : W.cell? ⟨Bx, 7, none⟩ = some (.int .i64 q.1.hi) := bX.cell 7
    have hn1 : IntKind.i64.wrap (((pre.length : Nat) : Int) + 1) = (((pre ++ [q]).length : Nat) : Int) := by
      rw [IntKind.wrap_i64, List.length_append, List.length_singleton]; omega
    have hA := Lib.hid (aloneN_go q.1 q.2.1 q.2.2 (W.setCell ⟨w.heap.size + 1 + 1, 0, none⟩ (.int .i64 (((pre ++ [q]).length : Nat) : Int))))
    have hb1 : Below w.heap.size w (W.setCell ⟨w.heap.size + 1 + 1, 0, none⟩ (.int .i64 (((pre ++ [q]).length : Nat) : Int))) := hB1.setCell (p := ⟨w.heap.size + 1 + 1, 0, none⟩) (by simp; omega) _
    have hN1 := bN1.set (.int .i64 (((pre ++ [q]).length : Nat) : Int))
    have hR1 := bR1.other (B' := w.heap.size + 1 + 1) (by omega) (.int .i64 (((pre ++ [q]).length : Nat) : Int))
    have hk1 := Kc.setCell (Bn := w.heap.size + 1 + 1) W (.int .i64 (((pre ++ [q]).length : Nat) : Int))
    have hf1 := (KeepsOthers.setCell W ⟨w.heap.size + 1 + 1, 0, none⟩ (.int .i64 (((pre ++ [q]).length : Nat) : Int))).from W0.heap.size
    have hdd : ∀ k : Nat, (Fence.wide.depth.isSome = true → 1 ≤ k) := fun k h => by cases h
    have HX := Lib.hid (show _ ∧ _ ∧ _ ∧ _ ∧ _ from ⟨hb1, hN1, hR1, hk1, hf1⟩)
    clear hb1 hN1 hR1 hk1 hf1 bN1 bR1 hB1 bX bN bR bS hB0 ht hsz hpa
    have HM := Lib.hid (show (((pre ++ [q]).length : Nat) : Int) = (pre.length : Int) + 1 by simp)
    have hM1 : (((pre ++ [q]).length : Nat) : Int) = (pre.length : Int) + 1 := HM.out
    generalize hM : (((pre ++ [q]).length : Nat) : Int) = M at *
    have HMq := Lib.hid hM
    unfold ndV at hA
    unfold ndV
    rcases Nat.lt_or_ge pre.length 4096 with hc | hc
    · have hle : M ≤ 4096 := by omega
      clear hM hM1
      cases hv : aloneN q.1
      all_goals
        rw [hv] at hA
        have HV := Lib.hid hv
        clear hv
        gi_wp2
        refine ⟨trivial, hdd _, (CallsIn.inRound l (callsIn_wide.2 hA.out)).mono ?_⟩
        rintro e W3 ⟨rfl, hb3⟩
        have HZ := Lib.hid (show KeepsFrom W0.heap.size W W3 ∧ Kc (w.heap.size + 1 + 1) W W3 ∧ (Boxed W3 (w.heap.size + 1 + 1) 3 (.int .i64 M) ∧ Boxed W3 (w.heap.size + 1) 4 (.bool false)) ∧ Below w.heap.size w W3 from by
          obtain ⟨hb1, hN1, hR1, hk1, hf1⟩ := HX.out
          exact ⟨hf1.trans (keepsFrom_below hb3), hk1.trans (Kc.below hb3), ⟨(hb3.block _ hN1.lt).trans hN1, (hb3.block _ hR1.lt).trans hR1⟩, hb1.trans (hb3.mono hb1.size)⟩)
        have cR3 := HZ.out.2.2.1.2.cell
        have fR3 := HZ.out.2.2.1.2.frozen
        clear HX hb3 hA cR fR
        dsimp only
        gi_wp2
      · exact ⟨HZ.out.1.trans ((KeepsOthers.setCell _ _ _).from _), rfl, ⟨HZ.out.2.2.1.2.set _, .inr ⟨q, by simp, HV.out⟩⟩, HZ.out.2.2.2.setCell (p := ⟨w.heap.size + 1, 0, none⟩) (by simp) _⟩
      · refine ⟨HZ.out.1, HZ.out.2.1, ⟨⟨by rw [HMq.out]; exact HZ.out.2.2.1.1, HZ.out.2.2.1.2⟩, by simp; omega, fun r hr => ?_⟩, HZ.out.2.2.2⟩
        rcases List.mem_append.1 hr with hr | hr
        · exact HPA.out r hr
        · rw [List.mem_singleton.1 hr]; exact HV.out
    · have hgt : decide ((4096 : Int) < M) = true := (by rw [decide_eq_true_eq]; omega)
      have hgl : 4096 < (pre ++ [q]).length := by simp; omega
      clear hM hM1 hA
      gi_wp2
      refine ⟨trivial, ?_⟩
      gi_wp2
      obtain ⟨hb1, hN1, hR1, hk1, hf1⟩ := HX.out
      exact ⟨hf1.trans ((KeepsOthers.setCell _ _ _).from _), rfl, ⟨hR1.set _, .inl hgl⟩, hb1.setCell (p := ⟨w.heap.size + 1, 0, none⟩) (by simp) _⟩
  case done =>
    rintro D ys W hD hys ⟨⟨⟨bN1, bR1⟩, hpl, hpa⟩, hB1⟩ hK
    have HRT := Lib.hid (rightT_yes hys hpl hpa)
    have cR := bR1.cell
    have fR := bR1.frozen
    gi_wp2
    have hK2 := (KeepsOthers.setCell W ⟨w.heap.size + 1, 0, none⟩ (.bool true)).same D _ hK rfl
    refine ⟨by simp, .inl ⟨_, _, rfl, run_takeDeferred hK2, ?_⟩⟩
    have hc : ((W.setCell ⟨w.heap.size + 1, 0, none⟩ (.bool true)).putObj D (.deferred none)).cell? ⟨w.heap.size + 1, 0, none⟩ = some (.bool true) := cell_kept (bR1.set _).cell (grownBy_putObj' _ D (.deferred none)) (fun r e => by cases e; exact ⟨_, hK2, rfl⟩)
    exact ⟨_, ret_boolc rfl rfl hc, by rw [HRT.out], (hB1.setCell (p := ⟨w.heap.size + 1, 0, none⟩) (by simp) _).trans (belowK_b (w := w) (Nat.le_refl _) _ D _ _ (by omega) hK2 rfl rfl)⟩
  case stop =>
    rintro D c pre W hD hsp ⟨rfl, ⟨bR1, hbad⟩, hB1⟩ hK
    have HRT := Lib.hid (rightT_no hsp hbad)
    gi_wp2
    refine ⟨by simp, .inl ⟨_, _, rfl, run_takeDeferred hK, ?_⟩⟩
    have hc : (W.putObj D (.deferred none)).cell? ⟨w.heap.size + 1, 0, none⟩ = some (.bool false) := cell_kept bR1.cell (grownBy_putObj' _ D (.deferred none)) (fun r e => by cases e; exact ⟨_, hK, rfl⟩)
    exact ⟨_, ret_boolc rfl rfl hc, by rw [HRT.out], hB1.trans (belowK_b (w := w) (Nat.le_refl _) _ D _ _ (by omega) hK rfl rfl)⟩
/-- tree.Right at any tree. -/
theorem tright_any (x : Nd) (B : Option Addr) (cap : Nat) (w : World) (hsz : x.size ≤ 4611686018427387903) (ht : TreesAt w (fun b => b < w.heap.size) x.kids B) :
    Calls Tryz.prog 34 #[ndV x B cap] w fun e w' => e = .returned (.bool (rightT x)) ∧ Below w.heap.size w w' :=
  callsIn_wide.1 (trightx_in 3 (Nat.le_refl _) x B cap w hsz ht)
end Go.Proofs.YtffkppoidollnaaGreatDoor
namespace Go.Proofs.YtffkppoidollnaaGreatDoor
open Go.RowKit
set_option linter.unusedSimpArgs false
set_option linter.unusedVariables false
set_option maxRecDepth 100000

/-- What a node that says so often takes, its kid taking n. -/
def timesW (lo hi : Int) (n : Nat) : Nat :=
  if n = 0 then 0
  else if hi < 0 then min topN (min topN (lo.toNat * n) + n + 1)
  else if lo < hi then min topN (min topN (lo.toNat * n) + min topN ((hi - lo).toNat * n) + 1)
  else min topN (lo.toNat * n)
/-- What a node takes, its kids taking n together. -/
def wgtK (k lo hi : Int) (n : Nat) : Nat := if k = 2 ∨ k = 4 then n else if k = 9 then timesW lo hi n else min topN (n + 1)
/-- What trees take together. -/
def Trees.wsum : Trees → Nat
  | .nil => 0
  | .cons k _ ks lo hi r => wgtK k lo hi (min topN ks.wsum) + r.wsum
/-- Numbers of times that may be. -/
def numsOk (y : Nd) : Prop := y.kind = 9 → 0 ≤ y.lo ∧ y.lo ≤ 1000 ∧ -1 ≤ y.hi ∧ y.hi ≤ 1000
theorem numsOk_of {y : Nd} (h : aloneN y = true) : numsOk y := by
  intro h9
  unfold aloneN aloneV at h
  rw [if_neg (by omega)] at h
  split at h
  · cases h
  try rw [if_pos h9] at h
  rw [Bool.and_eq_true] at h
  have := h.1
  unfold timesB at this
  simp only [Bool.and_eq_true, Bool.or_eq_true, decide_eq_true_eq] at this
  omega
end Go.Proofs.YtffkppoidollnaaGreatDoor
namespace Go.Proofs.YtffkppoidollnaaGreatDoor
open Go.RowKit
set_option linter.unusedSimpArgs false
set_option linter.unusedVariables false
set_option maxRecDepth 100000

/-- A machine: its states' labels, its links, its edges (from, set, to). -/
structure MachS where
  accept : List Nat
  links : List (Nat × Nat)
  edges : List (Nat × Nat × Nat)
def MachS.states (m : MachS) : Nat := m.accept.length
def MachS.state (m : MachS) (label : Nat) : MachS := ⟨m.accept ++ [label], m.links, m.edges⟩
def MachS.link (m : MachS) (a b : Nat) : MachS := ⟨m.accept, m.links ++ [(a, b)], m.edges⟩
def MachS.edge (m : MachS) (a s b : Nat) : MachS := ⟨m.accept, m.links, m.edges ++ [(a, s, b)]⟩
/-- How a tree is laid: the machine, and the end. -/
abbrev LayF := MachS → Nat → MachS × Nat
def noF : LayF := fun m i => (m, i)
def catF : List LayF → LayF
  | [], m, i => (m, i)
  | f :: l, m, i => catF l (f m i).1 (f m i).2
def altF : List LayF → MachS → Nat → MachS × List Nat
  | [], m, _ => (m, [])
  | f :: l, m, i => ((altF l (f m i).1 i).1, (f m i).2 :: (altF l (f m i).1 i).2)
def linksF (t : Nat) : List Nat → MachS → MachS
  | [], m => m
  | e :: l, m => linksF t l (m.link e t)
def barF (fs : List LayF) : LayF := fun m i => (linksF (altF fs m i).1.states (altF fs m i).2 ((altF fs m i).1.state 0), (altF fs m i).1.states)
def loopF (plus : Bool) (f : LayF) : LayF := fun m i =>
  ((f ((m.state 0).link i m.states) m.states).1.link (f ((m.state 0).link i m.states) m.states).2 m.states, if plus = true then (f ((m.state 0).link i m.states) m.states).2 else m.states)
def optF (f : LayF) : LayF := fun m i => ((((f m i).1.state 0).link (f m i).2 (f m i).1.states).link i (f m i).1.states, (f m i).1.states)
def timesF (f : LayF) : Nat → LayF
  | 0, m, i => (m, i)
  | k + 1, m, i => timesF f k (f m i).1 (f m i).2
def optsF (f : LayF) (t : Nat) : Nat → LayF
  | 0, m, i => (m, i)
  | k + 1, m, i => optsF f t k (f (m.link i t) i).1 (f (m.link i t) i).2
/-- A tree so often, to an end of its own. -/
def upF (f : LayF) (k : Nat) : LayF := fun m i => ((optsF f m.states k (m.state 0) i).1.link (optsF f m.states k (m.state 0) i).2 m.states, m.states)
def repF (n : Nat) (lo hi : Int) (f : LayF) : LayF := fun m i =>
  if n = 0 then (m, i)
  else if hi < 0 then loopF false f (timesF f lo.toNat m i).1 (timesF f lo.toNat m i).2
  else if hi = lo then timesF f lo.toNat m i
  else upF f (hi - lo).toNat (timesF f lo.toNat m i).1 (timesF f lo.toNat m i).2
def setF (s : Nat) : LayF := fun m i => ((m.state 0).edge i s m.states, m.states)
def nilF : LayF := fun m _ => (m.state 0, m.states)
/-- How a node is laid, its kids being laid so; n: what the first one takes. -/
def layK (k : Int) (s : Nat) (lo hi : Int) (fs : List LayF) (n : Nat) : LayF :=
  if k = 2 then noF
  else if k = 3 then setF s
  else if k = 4 then catF fs
  else if k = 5 then barF fs
  else if k = 6 then loopF false (fs.headD noF)
  else if k = 7 then loopF true (fs.headD noF)
  else if k = 8 then optF (fs.headD noF)
  else if k = 9 then repF n lo hi (fs.headD noF)
  else nilF
def Trees.headW : Trees → Nat
  | .nil => 0
  | .cons k _ ks lo hi _ => wgtK k lo hi (min topN ks.wsum)
def Trees.lays : Trees → List LayF
  | .nil => []
  | .cons k s ks lo hi r => layK k s lo hi ks.lays ks.headW :: r.lays
def Nd.lay (x : Nd) : LayF := layK x.kind x.set x.lo x.hi x.kids.lays x.kids.headW
/-! What is added. -/
theorem repl_add (n k : Nat) : List.replicate (n + k) 0 = List.replicate n 0 ++ List.replicate k (0 : Nat) := by
  induction n with
  | zero => simp
  | succ n ih => rw [Nat.succ_add, List.replicate_succ, List.replicate_succ, ih]; rfl
def NewS (m : MachS) (i n a : Nat) : Prop := a = i ∨ m.states ≤ a ∧ a < m.states + n
/-- From a place of a machine on, n states were added, none labelled, and c links and edges at most, to new states, from new ones or that place. -/
def Adds (m : MachS) (i n c : Nat) (m' : MachS) (e : Nat) : Prop :=
  ∃ L E, m' = ⟨m.accept ++ List.replicate n 0, m.links ++ L, m.edges ++ E⟩ ∧ (∀ p ∈ L, NewS m i n p.1 ∧ m.states ≤ p.2 ∧ p.2 < m.states + n) ∧
    (∀ p ∈ E, NewS m i n p.1 ∧ m.states ≤ p.2.2 ∧ p.2.2 < m.states + n) ∧ NewS m i n e ∧ L.length + E.length ≤ c
theorem Adds.states {m m' : MachS} {i n c e : Nat} (h : Adds m i n c m' e) : m'.states = m.states + n := by
  obtain ⟨L, E, rfl, _⟩ := h
  simp [MachS.states]
theorem Adds.new {m m' : MachS} {i n c e : Nat} (h : Adds m i n c m' e) : NewS m i n e := by
  obtain ⟨L, E, _, _, _, h, _⟩ := h
  exact h
theorem Adds.more {m m' : MachS} {i n c c' e : Nat} (h : Adds m i n c m' e) (hc : c ≤ c') : Adds m i n c' m' e := by
  obtain ⟨L, E, h0, h1, h2, h3, h4⟩ := h
  exact ⟨L, E, h0, h1, h2, h3, by omega⟩
theorem Adds.zero (m : MachS) (i : Nat) : Adds m i 0 0 m i := ⟨[], [], by simp, by simp, by simp, .inl rfl, by simp⟩
theorem Adds.then {m m1 m2 : MachS} {i n c e1 j n' c' e2 : Nat} (h : Adds m i n c m1 e1) (h' : Adds m1 j n' c' m2 e2) (hj : NewS m i n j) : Adds m i (n + n') (c + c') m2 e2 := by
  have hs := h.states
  obtain ⟨L, E, rfl, h1, h2, h3, h4⟩ := h
  obtain ⟨L', E', rfl, g1, g2, g3, g4⟩ := h'
  unfold NewS at *
  refine ⟨L ++ L', E ++ E', ?_, ?_, ?_, ?_, ?_⟩
  · simp only [repl_add, List.append_assoc]
  · intro p hp
    rcases List.mem_append.1 hp with hp | hp
    · have := h1 p hp; unfold NewS; omega
    · have := g1 p hp; unfold NewS; omega
  · intro p hp
    rcases List.mem_append.1 hp with hp | hp
    · have := h2 p hp; unfold NewS; omega
    · have := g2 p hp; unfold NewS; omega
  · unfold NewS; omega
  · simp; omega
theorem Adds.state {m m' : MachS} {i n c e : Nat} (h : Adds m i n c m' e) : Adds m i (n + 1) c (m'.state 0) m'.states := by
  have hs := h.states
  obtain ⟨L, E, h0, h1, h2, h3, h4⟩ := h
  refine ⟨L, E, ?_, fun p hp => ?_, fun p hp => ?_, ?_, h4⟩
  · rw [h0]
    simp only [MachS.state, repl_add, List.append_assoc]
    rfl
  · have := h1 p hp; unfold NewS at *; omega
  · have := h2 p hp; unfold NewS at *; omega
  · unfold NewS; omega
theorem Adds.link {m m' : MachS} {i n c e a b : Nat} (h : Adds m i n c m' e) (ha : NewS m i n a) (hb : m.states ≤ b) (hb2 : b < m.states + n) : Adds m i n (c + 1) (m'.link a b) e := by
  obtain ⟨L, E, rfl, h1, h2, h3, h4⟩ := h
  refine ⟨L ++ [(a, b)], E, by simp [MachS.link], fun p hp => ?_, h2, h3, by simp; omega⟩
  rcases List.mem_append.1 hp with hp | hp
  · exact h1 p hp
  · rw [List.mem_singleton.1 hp]; exact ⟨ha, hb, hb2⟩
theorem Adds.edge {m m' : MachS} {i n c e a s b : Nat} (h : Adds m i n c m' e) (ha : NewS m i n a) (hb : m.states ≤ b) (hb2 : b < m.states + n) : Adds m i n (c + 1) (m'.edge a s b) e := by
  obtain ⟨L, E, rfl, h1, h2, h3, h4⟩ := h
  refine ⟨L, E ++ [(a, s, b)], by simp [MachS.edge], h1, fun p hp => ?_, h3, by simp; omega⟩
  rcases List.mem_append.1 hp with hp | hp
  · exact h2 p hp
  · rw [List.mem_singleton.1 hp]; exact ⟨ha, hb, hb2⟩
/-! What nodes take, never stopped. -/
/-! A node that may be, by its kind. -/
theorem aloneN_kids {y : Nd} (h : aloneN y = true) : (6 ≤ y.kind → y.kind ≤ 9 → y.kids.len = 1) ∧ (y.kind = 9 → 0 ≤ y.lo ∧ (y.hi = -1 ∨ y.lo ≤ y.hi)) ∧ (y.kind < 4 → y.kids.len = 0) ∧ 1 ≤ y.kind ∧ y.kind ≤ 9 := by
  unfold aloneN aloneV at h
  by_cases h3 : y.kind = 3
  · rw [if_pos h3] at h
    simp at h
    omega
  rw [if_neg h3] at h
  split at h
  · cases h
  by_cases h9 : y.kind = 9
  · rw [if_pos h9] at h
    unfold timesB at h
    simp at h
    omega
  · rw [if_neg h9] at h
    by_cases k1 : y.kind = 1 ∨ y.kind = 2 ∨ y.kind = 3
    · have e : arityS y.kind = 0 := by unfold arityS; rw [if_pos k1]
      rw [e] at h
      simp at h
      omega
    by_cases k2 : y.kind = 4 ∨ y.kind = 5
    · have e : arityS y.kind = 2 := by unfold arityS; rw [if_neg k1, if_pos k2]
      rw [e] at h
      simp at h
      omega
    by_cases k3 : 6 ≤ y.kind ∧ y.kind ≤ 9
    · have e : arityS y.kind = 1 := by unfold arityS; rw [if_neg k1, if_neg k2, if_pos k3]
      rw [e] at h
      simp at h
      omega
    · have e : arityS y.kind = -1 := by unfold arityS; rw [if_neg k1, if_neg k2, if_neg k3]
      rw [e] at h
      simp at h
def Okays (F : Trees) : Prop := ∀ y ∈ F.nodes, aloneN y = true
/-! All trees. -/
end Go.Proofs.YtffkppoidollnaaGreatDoor
namespace Go.Proofs.YtffkppoidollnaaGreatDoor
open Go.RowKit
set_option linter.unusedSimpArgs false
set_option linter.unusedVariables false
set_option maxRecDepth 100000

theorem rightT_size {x : Nd} (h : rightT x = true) : x.size ≤ 4096 := by
  unfold rightT at h
  rw [Bool.and_eq_true, decide_eq_true_eq] at h
  rw [← x.nodes_len]
  exact h.1
end Go.Proofs.YtffkppoidollnaaGreatDoor
namespace Go.Proofs.YtffkppoidollnaaGreatDoor
open Go.RowKit
set_option linter.unusedSimpArgs false
set_option linter.unusedVariables false
set_option maxRecDepth 100000

def linkCell (p : Nat × Nat) : List Value := [.int .i64 (p.1 : Int), .int .i64 (p.2 : Int)]
def edgeCell (p : Nat × Nat × Nat) : List Value := [.int .i64 (p.1 : Int), .int .u64 ((word p.2.1.testBit 0 : Nat) : Int), .int .u64 ((word p.2.1.testBit 1 : Nat) : Int), .int .u64 ((word p.2.1.testBit 2 : Nat) : Int), .int .u64 ((word p.2.1.testBit 3 : Nat) : Int), .int .i64 (p.2.2 : Int)]
def accCell (a : Nat) : List Value := [.int .i64 (a : Int)]
def linkCells (l : List (Nat × Nat)) : List Value := l.flatMap linkCell
def edgeCells (l : List (Nat × Nat × Nat)) : List Value := l.flatMap edgeCell
def accCells (l : List Nat) : List Value := l.flatMap accCell
/-- The three rows of a machine, all owned. -/
structure RowsM (w : World) (base : Nat) (m : MachS) (L E A : Value) : Prop where
  l : w.ownsRow base 69 2 L m.links.length (linkCells m.links)
  e : w.ownsRow base 73 6 E m.edges.length (edgeCells m.edges)
  a : w.ownsRow base 3 1 A m.accept.length (accCells m.accept)
/-- The blocks of three rows are of S. -/
structure In3 (S : Nat → Prop) (L E A : Value) : Prop where
  l : ∀ b, L.ownBlock = some b → S b
  e : ∀ b, E.ownBlock = some b → S b
  a : ∀ b, A.ownBlock = some b → S b
theorem ownsRow_block {W W' : World} {base size k : Nat} {e : TypeId} {v : Value} {xs : List Value} (hr : W.ownsRow base e size v k xs) (hb : ∀ k, v.ownBlock = some k → W'.heap[k]? = W.heap[k]?) : W'.ownsRow base e size v k xs := by
  refine ⟨hr.1, ?_⟩
  rcases hr.2 with h | ⟨g, cap, cur, rfl, h1, h2, h3⟩
  · exact .inl h
  · exact .inr ⟨g, cap, cur, rfl, h1, (hb g rfl).trans h2, h3⟩
theorem RowsM.keep {w w' : World} {base : Nat} {m : MachS} {L E A : Value} {S : Nat → Prop} (h : RowsM w base m L E A) (hi : In3 S L E A) (hk : ∀ b, S b → w'.heap[b]? = w.heap[b]?) : RowsM w' base m L E A :=
  ⟨ownsRow_block h.l (fun k e => hk k (hi.l k e)), ownsRow_block h.e (fun k e => hk k (hi.e k e)), ownsRow_block h.a (fun k e => hk k (hi.a k e))⟩
theorem RowsM.lt {w : World} {base : Nat} {m : MachS} {L E A : Value} (h : RowsM w base m L E A) : ∀ b, (L.ownBlock = some b ∨ E.ownBlock = some b ∨ A.ownBlock = some b) → base ≤ b ∧ b < w.heap.size := by
  rintro b (hb | hb | hb)
  · exact h.l.lt b hb
  · exact h.e.lt b hb
  · exact h.a.lt b hb

/-- What became of the world: blocks below base and those not of S stand; new blocks of S' are new. -/
structure Moves (base : Nat) (S : Nat → Prop) (w : World) (S' : Nat → Prop) (w' : World) : Prop where
  below : Below base w w'
  size : w.heap.size ≤ w'.heap.size
  kept : ∀ b, b < w.heap.size → ¬ S b → w'.heap[b]? = w.heap[b]?
  fresh : ∀ b, S' b → S b ∨ w.heap.size ≤ b
theorem Moves.refl (base : Nat) (S : Nat → Prop) (w : World) : Moves base S w S w := ⟨Below.refl _ _, Nat.le_refl _, fun _ _ _ => rfl, fun b hb => .inl hb⟩
theorem Moves.trans {base : Nat} {S S1 S2 : Nat → Prop} {w w1 w2 : World} (h : Moves base S w S1 w1) (h' : Moves base S1 w1 S2 w2) : Moves base S w S2 w2 :=
  ⟨h.below.trans h'.below, Nat.le_trans h.size h'.size, fun b hb hn => by
    have hn1 : ¬ S1 b := fun hb1 => by
      rcases h.fresh b hb1 with h2 | h2
      · exact hn h2
      · omega
    exact (h'.kept b (by have := h.size; omega) hn1).trans (h.kept b hb hn), fun b hb => by
    rcases h'.fresh b hb with h2 | h2
    · exact h.fresh b h2
    · right; have := h.size; omega⟩
theorem Moves.alloc {base : Nat} {S S1 : Nat → Prop} {w w1 : World} (h : Moves base S w S1 w1) (hb : base ≤ w.heap.size) (o : Obj) : Moves base S w S1 (w1.alloc o) :=
  ⟨h.below.alloc (by have := h.size; omega) o, by have := h.size; simp; omega, fun b hb hn => (Below.heap_alloc w1 o b (by have := h.size; omega)).trans (h.kept b hb hn), h.fresh⟩
theorem Moves.drew {base : Nat} {S S1 : Nat → Prop} {w w1 : World} (h : Moves base S w S1 w1) : Moves base S w S1 w1.drew := ⟨h.below.drew, h.size, h.kept, h.fresh⟩
theorem Moves.drewN {base : Nat} {S S1 : Nat → Prop} {w w1 : World} (h : Moves base S w S1 w1) (n : Nat) : Moves base S w S1 (w1.drewN n) := ⟨bel_drewN h.below n, h.size, h.kept, h.fresh⟩
/-- A store to a block of one's own. -/
theorem Moves.set {base : Nat} {S S1 : Nat → Prop} {w w1 : World} (h : Moves base S w S1 w1) {p : Addr} (hp : w.heap.size ≤ p.block) (hb : base ≤ w.heap.size) (u : Value) : Moves base S w S1 (w1.setCell p u) :=
  ⟨h.below.setCell (by omega) u, by have := h.size; simpa [World.setCell] using this, fun b hb hn => (Below.heap_setCell w1 p u b (by omega)).trans (h.kept b hb hn), h.fresh⟩
theorem Blk.moves {base : Nat} {S S1 : Nat → Prop} {w w1 : World} {b : Nat} {t : TypeId} {cs : Array Value} (h : Blk w b t cs) (hm : Moves base S w S1 w1) (hn : ¬ S b) : Blk w1 b t cs := (hm.kept b h.lt hn).trans h
theorem Moves.notIn {base : Nat} {S S1 : Nat → Prop} {w w1 : World} (h : Moves base S w S1 w1) {b : Nat} (hb : b < w.heap.size) (hn : ¬ S b) : ¬ S1 b := fun h1 => by
  rcases h.fresh b h1 with h2 | h2
  · exact hn h2
  · omega
/-- What a call keeps of everything below the heap's end, as far as laying goes. -/
theorem Moves.of_below {base : Nat} {S : Nat → Prop} {w w' : World} (h : Below w.heap.size w w') (hb : base ≤ w.heap.size) : Moves base S w S w' :=
  ⟨h.mono hb, h.size, fun b hb _ => h.block b hb, fun b hb => .inl hb⟩
/-- Trees that stand below base stay. -/
theorem TreesAt.moves {base : Nat} {S S1 : Nat → Prop} {w w1 : World} {F : Trees} {B : Option Addr} (h : TreesAt w (fun b => b < base) F B) (hm : Moves base S w S1 w1) : TreesAt w1 (fun b => b < base) F B :=
  h.keep (fun b o hb _ => hm.below.cell (p := ⟨b, o, none⟩) hb) (fun b hb _ => hb)
end Go.Proofs.YtffkppoidollnaaGreatDoor
namespace Go.Proofs.YtffkppoidollnaaGreatDoor
open Go.RowKit
set_option linter.unusedSimpArgs false
set_option linter.unusedVariables false
set_option maxRecDepth 100000

theorem rows_apart {w : World} {b1 b2 s1 s2 k1 k2 : Nat} {e1 e2 : TypeId} {v1 v2 : Value} {x1 x2 : List Value} (h1 : w.ownsRow b1 e1 s1 v1 k1 x1) (h2 : w.ownsRow b2 e2 s2 v2 k2 x2) (he : e1 ≠ e2) {b : Nat} (hb : v1.ownBlock = some b) : v2.ownBlock ≠ some b := by
  intro hb2
  rcases h1.2 with ⟨rfl, _⟩ | ⟨g, cap, cur, rfl, _, hg, _⟩
  · simp [Value.ownBlock] at hb
  rcases h2.2 with ⟨rfl, _⟩ | ⟨g', cap', cur', rfl, _, hg', _⟩
  · simp [Value.ownBlock] at hb2
  obtain rfl : g = b := by simpa [Value.ownBlock] using hb
  obtain rfl : g' = g := by simpa [Value.ownBlock] using hb2
  rw [hg] at hg'
  simp at hg'
  exact he hg'.2
theorem info_intN : (Tryz.prog.info? 3).map (fun i => (i.zero, i.size, i.bytes)) = some (some (.int .i64 0), 1, 8) := by kernel_rfl
theorem info_linkN : (Tryz.prog.info? 69).map (fun i => (i.zero, i.size, i.bytes)) = some (some (.agg #[.int .i64 0, .int .i64 0]), 2, 16) := by kernel_rfl
theorem info_edgeN : (Tryz.prog.info? 73).map (fun i => (i.zero, i.size, i.bytes)) = some (some (.agg #[.int .i64 0, .int .u64 0, .int .u64 0, .int .u64 0, .int .u64 0, .int .i64 0]), 6, 48) := by kernel_rfl
/-- A store to a block of S. -/
theorem Moves.setS {base : Nat} {S S1 : Nat → Prop} {w w1 : World} (h : Moves base S w S1 w1) {p : Addr} (hp : S p.block) (hb : base ≤ p.block) (u : Value) : Moves base S w S1 (w1.setCell p u) :=
  ⟨h.below.setCell hb u, by have := h.size; simpa [World.setCell] using this, fun b hlt hn => (Below.heap_setCell w1 p u b (fun e => hn (e ▸ hp))).trans (h.kept b hlt hn), h.fresh⟩
/-- An append to a row of the machine. -/
theorem Moves.push {base : Nat} {S : Nat → Prop} {w wa w1 : World} {v : Value} {gg : Nat} (hS : ∀ b, S b → base ≤ b ∧ b < w.heap.size) (hb : base ≤ w.heap.size) (ha : Below w.heap.size w wa) (hgrow : wa.grownBy w1 v.ownBlock) (hv : ∀ b, v.ownBlock = some b → S b) (hat : v.ownBlock = some gg ∨ w.heap.size ≤ gg) :
    Moves base S w (fun b => S b ∨ b = gg) w1 := by
  have hsz := ha.size
  have hs2 : wa.heap.size ≤ w1.heap.size := hgrow.size
  refine ⟨(ha.mono hb).grown hgrow (by omega) (fun k hk => (hS k (hv k hk)).1), by omega, fun b hlt hn => ?_, fun b hb => ?_⟩
  · exact (hgrow.block b (by omega) (fun e => hn (hv b e.symm))).trans (ha.block b hlt)
  · rcases hb with h | rfl
    · exact .inl h
    · rcases hat with h | h
      · exact .inl (hv _ h)
      · exact .inr h
end Go.Proofs.YtffkppoidollnaaGreatDoor
namespace Go.Proofs.YtffkppoidollnaaGreatDoor
open Go.RowKit
set_option linter.unusedSimpArgs false
set_option linter.unusedVariables false
set_option maxRecDepth 100000

/-- What is laid fits. -/
def FitsM (m : MachS) : Prop := m.states ≤ 1000000000000 ∧ m.links.length ≤ 1000000000000 ∧ m.edges.length ≤ 1000000000000
def ExtM (m m' : MachS) : Prop := m.states ≤ m'.states ∧ m.links.length ≤ m'.links.length ∧ m.edges.length ≤ m'.edges.length
theorem FitsM.of {m m' : MachS} (h : FitsM m') (he : ExtM m m') : FitsM m := ⟨Nat.le_trans he.1 h.1, Nat.le_trans he.2.1 h.2.1, Nat.le_trans he.2.2 h.2.2⟩
theorem ExtM.refl (m : MachS) : ExtM m m := ⟨Nat.le_refl _, Nat.le_refl _, Nat.le_refl _⟩
theorem ExtM.trans {a b c : MachS} (h : ExtM a b) (h' : ExtM b c) : ExtM a c := ⟨Nat.le_trans h.1 h'.1, Nat.le_trans h.2.1 h'.2.1, Nat.le_trans h.2.2 h'.2.2⟩
theorem ExtM.state (m : MachS) (a : Nat) : ExtM m (m.state a) := ⟨by simp [MachS.states, MachS.state], Nat.le_refl _, Nat.le_refl _⟩
theorem ExtM.link (m : MachS) (a b : Nat) : ExtM m (m.link a b) := ⟨Nat.le_refl _, by simp [MachS.link], Nat.le_refl _⟩
theorem ExtM.edge (m : MachS) (a s b : Nat) : ExtM m (m.edge a s b) := ⟨Nat.le_refl _, Nat.le_refl _, by simp [MachS.edge]⟩
theorem take_snocF {α : Type} {l : List α} {k : Nat} {x : α} (h : l[k]? = some x) : l.take (k + 1) = l.take k ++ [x] := by
  obtain ⟨hk, rfl⟩ := List.getElem?_eq_some_iff.1 h
  rw [List.take_succ_eq_append_getElem hk]

/-! What has no kids. -/
end Go.Proofs.YtffkppoidollnaaGreatDoor
namespace Go.Proofs.YtffkppoidollnaaGreatDoor
open Go.RowKit
set_option linter.unusedSimpArgs false
set_option linter.unusedVariables false
set_option maxRecDepth 100000

theorem addr_plusE (b j : Nat) : (⟨b, 0, none⟩ : Addr).add j = ⟨b, j, none⟩ := by unfold Addr.add; split <;> simp_all
end Go.Proofs.YtffkppoidollnaaGreatDoor
namespace Go.Proofs.YtffkppoidollnaaGreatDoor
open Go.RowKit
set_option linter.unusedSimpArgs false
set_option linter.unusedVariables false
set_option maxRecDepth 100000

/-- Any machine. -/
structure NfaV where
  states : Int
  start : Int
  links : List (Int × Int)
  edges : List (Int × Nat × Int)
  accept : List Int
def LinksAt (w : World) (A : Option Addr) (L : List (Int × Int)) : Prop := ∀ (i : Nat) (p : Int × Int), L[i]? = some p → ∃ b o, A = some ⟨b, o, none⟩ ∧ w.cell? ⟨b, o + i * 2, none⟩ = some (.int .i64 p.1) ∧ w.cell? ⟨b, o + i * 2 + 1, none⟩ = some (.int .i64 p.2)
def EdgesAt (w : World) (A : Option Addr) (L : List (Int × Nat × Int)) : Prop := ∀ (i : Nat) (p : Int × Nat × Int), L[i]? = some p → ∃ b o, A = some ⟨b, o, none⟩ ∧ w.cell? ⟨b, o + i * 6, none⟩ = some (.int .i64 p.1) ∧
  w.cell? ⟨b, o + i * 6 + 1, none⟩ = some (.int .u64 ((word p.2.1.testBit 0 : Nat) : Int)) ∧ w.cell? ⟨b, o + i * 6 + 2, none⟩ = some (.int .u64 ((word p.2.1.testBit 1 : Nat) : Int)) ∧ w.cell? ⟨b, o + i * 6 + 3, none⟩ = some (.int .u64 ((word p.2.1.testBit 2 : Nat) : Int)) ∧ w.cell? ⟨b, o + i * 6 + 4, none⟩ = some (.int .u64 ((word p.2.1.testBit 3 : Nat) : Int)) ∧
  w.cell? ⟨b, o + i * 6 + 5, none⟩ = some (.int .i64 p.2.2)
def IntsAt (w : World) (A : Option Addr) (L : List Int) : Prop := ∀ (i : Nat) (a : Int), L[i]? = some a → ∃ b o, A = some ⟨b, o, none⟩ ∧ w.cell? ⟨b, o + i, none⟩ = some (.int .i64 a)
theorem LinksAt.below {w w' : World} {A : Option Addr} {L : List (Int × Int)} (h : LinksAt w A L) (hb : Below w.heap.size w w') : LinksAt w' A L := fun i p hp => by
  obtain ⟨b, o, hA, h0, h1⟩ := h i p hp
  have hl : b < w.heap.size := World.block_lt_of_cell? w _ h0
  exact ⟨b, o, hA, (hb.cell (p := ⟨b, _, none⟩) hl).trans h0, (hb.cell (p := ⟨b, _, none⟩) hl).trans h1⟩
theorem EdgesAt.below {w w' : World} {A : Option Addr} {L : List (Int × Nat × Int)} (h : EdgesAt w A L) (hb : Below w.heap.size w w') : EdgesAt w' A L := fun i p hp => by
  obtain ⟨b, o, hA, h0, h1, h2, h3, h4, h5⟩ := h i p hp
  have hl : b < w.heap.size := World.block_lt_of_cell? w _ h0
  exact ⟨b, o, hA, (hb.cell (p := ⟨b, _, none⟩) hl).trans h0, (hb.cell (p := ⟨b, _, none⟩) hl).trans h1, (hb.cell (p := ⟨b, _, none⟩) hl).trans h2, (hb.cell (p := ⟨b, _, none⟩) hl).trans h3, (hb.cell (p := ⟨b, _, none⟩) hl).trans h4, (hb.cell (p := ⟨b, _, none⟩) hl).trans h5⟩
theorem IntsAt.below {w w' : World} {A : Option Addr} {L : List Int} (h : IntsAt w A L) (hb : Below w.heap.size w w') : IntsAt w' A L := fun i p hp => by
  obtain ⟨b, o, hA, h0⟩ := h i p hp
  have hl : b < w.heap.size := World.block_lt_of_cell? w _ h0
  exact ⟨b, o, hA, (hb.cell (p := ⟨b, _, none⟩) hl).trans h0⟩
/-- A machine's three rows in memory. -/
structure NfaAt (w : World) (N : NfaV) (A1 A2 A3 : Option Addr) : Prop where
  l : LinksAt w A1 N.links
  e : EdgesAt w A2 N.edges
  a : IntsAt w A3 N.accept
  ll : N.links.length ≤ 140737488355328
  el : N.edges.length ≤ 140737488355328
  al : N.accept.length ≤ 140737488355328
theorem NfaAt.below {w w' : World} {N : NfaV} {A1 A2 A3 : Option Addr} (h : NfaAt w N A1 A2 A3) (hb : Below w.heap.size w w') : NfaAt w' N A1 A2 A3 := ⟨h.l.below hb, h.e.below hb, h.a.below hb, h.ll, h.el, h.al⟩
@[inline] def nfA (N : NfaV) (A1 : Option Addr) (k1 : Nat) (A2 : Option Addr) (k2 : Nat) (A3 : Option Addr) (k3 : Nat) : Array Value := #[.int .i64 N.states, .int .i64 N.start, .slice A1 N.links.length k1, .slice A2 N.edges.length k2, .slice A3 N.accept.length k3]

def isB (n s : Int) : Bool := decide (0 ≤ s) && decide (s < n)
theorem isB_iff {n s : Int} : isB n s = true ↔ 0 ≤ s ∧ s < n := by unfold isB; rw [Bool.and_eq_true, decide_eq_true_eq, decide_eq_true_eq]
theorem isB_no {n s : Int} : isB n s = false ↔ s < 0 ∨ n ≤ s := by
  rw [← Bool.not_eq_true, isB_iff]; omega
def linkB (n : Int) (p : Int × Int) : Bool := isB n p.1 && isB n p.2
def edgeB (n : Int) (p : Int × Nat × Int) : Bool := isB n p.1 && isB n p.2.2
def accB (a : Int) : Bool := decide (0 ≤ a) && decide (a ≤ 64)
theorem accB_no {a : Int} : accB a = false ↔ a < 0 ∨ 64 < a := by
  rw [← Bool.not_eq_true]; unfold accB; rw [Bool.and_eq_true, decide_eq_true_eq, decide_eq_true_eq]; omega
/-- May a machine be? -/
def rightN (N : NfaV) : Bool := decide (N.states ≤ 65536) && (isB N.states N.start && (decide ((N.accept.length : Int) = N.states) && (N.links.all (linkB N.states) && (N.edges.all (edgeB N.states) && N.accept.all accB))))
theorem rightN_head {N : NfaV} (h : ¬ (N.states ≤ 65536 ∧ isB N.states N.start = true ∧ (N.accept.length : Int) = N.states)) : rightN N = false := by
  rw [← Bool.not_eq_true]
  unfold rightN
  simp only [Bool.and_eq_true, decide_eq_true_eq]
  exact fun ⟨a, b, c, _⟩ => h ⟨a, b, c⟩
theorem rightN_tail {N : NfaV} (h1 : N.states ≤ 65536) (h2 : isB N.states N.start = true) (h3 : (N.accept.length : Int) = N.states) : rightN N = (N.links.all (linkB N.states) && (N.edges.all (edgeB N.states) && N.accept.all accB)) := by
  unfold rightN
  rw [decide_eq_true h1, h2, decide_eq_true h3]
  rfl
theorem all_no {α : Type} {l : List α} {f : α → Bool} {k : Nat} {x : α} (hx : l[k]? = some x) (hf : f x = false) : l.all f = false := List.all_eq_false.2 ⟨x, List.mem_of_getElem? hx, by rw [hf]; decide⟩
theorem all_yes {α : Type} {l : List α} {f : α → Bool} (h : ∀ (j : Nat) (x : α), j < l.length → l[j]? = some x → f x = true) : l.all f = true := List.all_eq_true.2 (fun x hx => by
  obtain ⟨j, hj, e⟩ := List.getElem_of_mem hx
  exact h j x hj (by rw [List.getElem?_eq_getElem hj, e]))
theorem is_go (s n : Int) (g : Nat) (w : World) (hg : w.cell? ⟨g, 0, none⟩ = some (.int .i64 n)) :
    Calls Tryz.prog 84 #[.int .i64 s, .pointer (some ⟨g, 0, none⟩)] w fun e w' => e = .returned (.bool (isB n s)) ∧ w = w' := by
  cases hv : isB n s with
  | true =>
    obtain ⟨h0, h1⟩ := isB_iff.1 hv
    clear hv
    go_enter Tryz.func84, Tryz.ntmps84
    go_wp2
    go_ret
    exact ⟨rfl, rfl⟩
  | false =>
    have h := isB_no.1 hv
    clear hv
    rcases Int.lt_or_le s 0 with h0 | h0
    · have hd : decide ((0 : Int) ≤ s) = false := decide_eq_false (by omega)
      clear h
      go_enter Tryz.func84, Tryz.ntmps84
      go_wp2
      go_ret
      exact ⟨rfl, rfl⟩
    · have hd : decide (s < n) = false := decide_eq_false (by omega)
      clear h
      go_enter Tryz.func84, Tryz.ntmps84
      go_wp2
      go_ret
      exact ⟨rfl, rfl⟩
theorem out_go (a : Int) (w : World) :
    Calls Tryz.prog 86 #[.int .i64 a] w fun e w' => e = .returned (.bool (!accB a)) ∧ w = w' := by
  cases hv : accB a with
  | true =>
    have hv2 := hv
    unfold accB at hv2
    rw [Bool.and_eq_true, decide_eq_true_eq, decide_eq_true_eq] at hv2
    obtain ⟨h0, h1⟩ := hv2
    have hd : decide ((64 : Int) < a) = false := decide_eq_false (by omega)
    have hd2 : decide (a < (0 : Int)) = false := decide_eq_false (by omega)
    clear hv
    go_enter Tryz.func86, Tryz.ntmps86
    go_wp2
    go_ret
    exact ⟨rfl, rfl⟩
  | false =>
    have h := accB_no.1 hv
    clear hv
    rcases Int.lt_or_le a 0 with h0 | h0
    · clear h
      go_enter Tryz.func86, Tryz.ntmps86
      go_wp2
      go_ret
      exact ⟨rfl, rfl⟩
    · have hd : decide (a < (0 : Int)) = false := decide_eq_false (by omega)
      have hd2 : (64 : Int) < a := by omega
      clear h
      go_enter Tryz.func86, Tryz.ntmps86
      go_wp2
      go_ret
      exact ⟨rfl, rfl⟩
def IdxAcc (l : List Int) (w : World) (e : Ending) (w' : World) : Prop := ∃ v : Int, e = .returned (.int .i64 v) ∧ ((l.all accB = true ∧ v = -1) ∨ (l.all accB = false ∧ 0 ≤ v)) ∧ w = w'
set_option maxHeartbeats 2000000 in
theorem idxacc_go (A : Option Addr) (cap : Nat) (xs : List Int) (w : World) (hl : xs.length ≤ 140737488355328) (hA : IntsAt w A xs) :
    Calls Tryz.prog 116 #[.slice A xs.length cap, .func (.func 86) #[] #[]] w (IdxAcc xs w) := by
  have HA := Lib.hid hA
  clear hA
  go_enter Tryz.func116, Tryz.ntmps116
  go_wp2
  go_loop [8] (fun i' => ∃ k : Nat, i' = .int .i64 (k : Int) ∧ k ≤ xs.length ∧ Hid (∀ j z, j < k → xs[j]? = some z → accB z = true)) (fun i' => xs.length - (intOf i').toNat)
  case atStart => exact ⟨0, rfl, Nat.zero_le _, Lib.hid (fun j z hj => by omega)⟩
  case round =>
    obtain ⟨k, rfl, hk, HR⟩ := hrel
    by_cases hlt : k < xs.length
    · obtain ⟨a, ha⟩ : ∃ a, xs[k]? = some a := ⟨_, List.getElem?_eq_getElem hlt⟩
      obtain ⟨b, o, rfl, c0⟩ := HA.out k a ha
      have hdl : (k : Int) < (xs.length : Int) := by omega
      have HI := Lib.hid (out_go a w)
      have HZ := Lib.hid ha
      clear ha
      cases hv : accB a with
      | true =>
        rw [hv] at HI
        have HV := Lib.hid hv
        clear hv
        go_wp2_with fail
        refine HI.out.mono ?_
        rintro e w3 ⟨rfl, rfl⟩
        clear HI c0
        dsimp only
        go_wp2
        go_round
        case rel => exact ⟨k + 1, by go_num, by omega, Lib.hid (fun j y hj hy => by
          rcases Nat.lt_or_ge j k with h | h
          · exact HR.out j y h hy
          · obtain rfl : j = k := by omega
            rw [HZ.out] at hy
            cases hy
            exact HV.out)⟩
        case measure => simp [intOf]; omega
      | false =>
        rw [hv] at HI
        have HV := Lib.hid hv
        clear hv
        go_wp2_with fail
        refine HI.out.mono ?_
        rintro e w3 ⟨rfl, rfl⟩
        clear HI c0
        dsimp only
        go_wp2
        go_ret
        exact ⟨k, rfl, .inr ⟨all_no HZ.out HV.out, by omega⟩, rfl⟩
    · obtain rfl : k = xs.length := by omega
      have hdl : ¬ ((xs.length : Int) < (xs.length : Int)) := by omega
      go_wp2
      go_ret
      exact ⟨-1, rfl, .inl ⟨all_yes (fun j x hj hx => HR.out j x hj hx), rfl⟩, rfl⟩
theorem hasacc_go (A : Option Addr) (cap : Nat) (xs : List Int) (w : World) (hl : xs.length ≤ 140737488355328) (hA : IntsAt w A xs) :
    Calls Tryz.prog 85 #[.slice A xs.length cap, .func (.func 86) #[] #[]] w fun e w' => e = .returned (.bool (!xs.all accB)) ∧ w = w' := by
  have HI := Lib.hid (idxacc_go A cap xs w hl hA)
  clear hA
  go_enter Tryz.func85, Tryz.ntmps85
  go_wp2_with fail
  refine HI.out.mono ?_
  rintro e w3 ⟨v, rfl, hv, rfl⟩
  clear HI
  rcases hv with ⟨h1, rfl⟩ | ⟨h1, h2⟩
  · have HV := Lib.hid h1
    clear h1
    dsimp only
    go_wp2
    go_ret
    exact ⟨by rw [HV.out]; rfl, rfl⟩
  · have HV := Lib.hid h1
    clear h1
    dsimp only
    go_wp2
    go_ret
    exact ⟨by rw [HV.out]; exact ret_b (by simp [h2]), rfl⟩
end Go.Proofs.YtffkppoidollnaaGreatDoor
namespace Go.Proofs.YtffkppoidollnaaGreatDoor
open Go.ChangeShapes Go.WideShapes Go.ChangeAt Go.RowKit
set_option linter.unusedSimpArgs false
set_option linter.unusedVariables false
set_option maxRecDepth 100000

theorem cellsLinkN : Tryz.prog.cellsOf 69 = 2 := by kernel_rfl
theorem cellsEdgeN : Tryz.prog.cellsOf 73 = 6 := by kernel_rfl
theorem cellsNfaN : Tryz.prog.cellsOf 26 = 5 := by kernel_rfl
theorem cellsLinks : Tryz.prog.cellsOf 22 = 1 := by kernel_rfl
theorem cellsEdges : Tryz.prog.cellsOf 23 = 1 := by kernel_rfl
theorem cellsInts : Tryz.prog.cellsOf 24 = 1 := by kernel_rfl
section
variable {H : Type} {enc : TypeId × Value → H} {W : World} {fuel : Nat}
theorem link_came {cs : List Value} {y : DataW H × List MemPlace} (h : DataW.trod enc Tryz.prog W 0 (fun _ => true) true fuel 69 cs = some y) : ∃ p : Int × Int, cs = [.int .i64 p.1, .int .i64 p.2] := by
  obtain ⟨xs, n, _, _, hl, hxl, hf⟩ := DataW.trod_struct Tryz.underlying69 h
  rw [cellsLinkN] at hl
  obtain ⟨v0, v1, rfl⟩ : ∃ v0 v1, cs = [v0, v1] := by
    match cs, hl with
    | [a, b], _ => exact ⟨a, b, rfl⟩
  have g0 : DataW.trod enc Tryz.prog W 0 (fun _ => true) true n 3 (([v0, v1].drop 0).take (Tryz.prog.cellsOf 3)) = xs[0]? := hf 0 _ rfl
  have g1 : DataW.trod enc Tryz.prog W 0 (fun _ => true) true n 3 (([v0, v1].drop 1).take (Tryz.prog.cellsOf 3)) = xs[1]? := hf 1 _ rfl
  rw [List.getElem?_eq_getElem (by rw [hxl]; decide), cellsInt] at g0 g1
  obtain ⟨a0, q0, _, _⟩ := DataW.trod_int Tryz.underlying3 g0
  obtain ⟨a1, q1, _, _⟩ := DataW.trod_int Tryz.underlying3 g1
  simp at q0 q1
  subst q0 q1
  exact ⟨(a0, a1), rfl⟩
theorem setw_came {cs : List Value} {y : DataW H × List MemPlace} (h : DataW.trod enc Tryz.prog W 0 (fun _ => true) true fuel 36 cs = some y) :
    ∃ s : Nat, cs = [.int .u64 ((word s.testBit 0 : Nat) : Int), .int .u64 ((word s.testBit 1 : Nat) : Int), .int .u64 ((word s.testBit 2 : Nat) : Int), .int .u64 ((word s.testBit 3 : Nat) : Int)] := by
  obtain ⟨us, m, _, _, hl, hul, hu⟩ := DataW.trod_array Tryz.underlying36 h
  rw [cellsSet] at hl
  obtain ⟨v0, v1, v2, v3, rfl⟩ : ∃ v0 v1 v2 v3, cs = [v0, v1, v2, v3] := by
    match cs, hl with
    | [a, b, c, d], _ => exact ⟨a, b, c, d, rfl⟩
  have u0 := hu 0 (by decide)
  have u1 := hu 1 (by decide)
  have u2 := hu 2 (by decide)
  have u3 := hu 3 (by decide)
  rw [List.getElem?_eq_getElem (by rw [hul]; decide), cellsWord] at u0 u1 u2 u3
  obtain ⟨b0, r0, _, w0⟩ := DataW.trod_int Tryz.underlying34 u0
  obtain ⟨b1, r1, _, w1⟩ := DataW.trod_int Tryz.underlying34 u1
  obtain ⟨b2, r2, _, w2⟩ := DataW.trod_int Tryz.underlying34 u2
  obtain ⟨b3, r3, _, w3⟩ := DataW.trod_int Tryz.underlying34 u3
  simp at r0 r1 r2 r3
  subst r0 r1 r2 r3
  obtain ⟨s0, s0'⟩ := u64_of_wf w0
  obtain ⟨s1, s1'⟩ := u64_of_wf w1
  obtain ⟨s2, s2'⟩ := u64_of_wf w2
  obtain ⟨s3, s3'⟩ := u64_of_wf w3
  obtain ⟨n0, rfl⟩ := Int.eq_ofNat_of_zero_le s0
  obtain ⟨n1, rfl⟩ := Int.eq_ofNat_of_zero_le s1
  obtain ⟨n2, rfl⟩ := Int.eq_ofNat_of_zero_le s2
  obtain ⟨n3, rfl⟩ := Int.eq_ofNat_of_zero_le s3
  obtain ⟨s, k0, k1, k2, k3⟩ := set_words (n0 := n0) (n1 := n1) (n2 := n2) (n3 := n3) (by omega) (by omega) (by omega) (by omega)
  exact ⟨s, by rw [k0, k1, k2, k3]⟩
theorem edge_came {cs : List Value} {y : DataW H × List MemPlace} (h : DataW.trod enc Tryz.prog W 0 (fun _ => true) true fuel 73 cs = some y) :
    ∃ p : Int × Nat × Int, cs = [.int .i64 p.1, .int .u64 ((word p.2.1.testBit 0 : Nat) : Int), .int .u64 ((word p.2.1.testBit 1 : Nat) : Int), .int .u64 ((word p.2.1.testBit 2 : Nat) : Int), .int .u64 ((word p.2.1.testBit 3 : Nat) : Int), .int .i64 p.2.2] := by
  obtain ⟨xs, n, _, _, hl, hxl, hf⟩ := DataW.trod_struct Tryz.underlying73 h
  rw [cellsEdgeN] at hl
  obtain ⟨v0, v1, v2, v3, v4, v5, rfl⟩ : ∃ v0 v1 v2 v3 v4 v5, cs = [v0, v1, v2, v3, v4, v5] := by
    match cs, hl with
    | [a, b, c, d, e, f], _ => exact ⟨a, b, c, d, e, f, rfl⟩
  have g0 : DataW.trod enc Tryz.prog W 0 (fun _ => true) true n 3 (([v0, v1, v2, v3, v4, v5].drop 0).take (Tryz.prog.cellsOf 3)) = xs[0]? := hf 0 _ rfl
  have g1 : DataW.trod enc Tryz.prog W 0 (fun _ => true) true n 36 (([v0, v1, v2, v3, v4, v5].drop 1).take (Tryz.prog.cellsOf 36)) = xs[1]? := hf 1 _ rfl
  have g2 : DataW.trod enc Tryz.prog W 0 (fun _ => true) true n 3 (([v0, v1, v2, v3, v4, v5].drop 5).take (Tryz.prog.cellsOf 3)) = xs[2]? := hf 2 _ rfl
  rw [List.getElem?_eq_getElem (by rw [hxl]; decide)] at g0 g1 g2
  rw [cellsInt] at g0 g2
  rw [cellsSet] at g1
  obtain ⟨a0, q0, _, _⟩ := DataW.trod_int Tryz.underlying3 g0
  obtain ⟨a2, q2, _, _⟩ := DataW.trod_int Tryz.underlying3 g2
  obtain ⟨s, q1⟩ := setw_came g1
  simp at q0 q1 q2
  obtain ⟨rfl, rfl, rfl, rfl⟩ := q1
  subst q0 q2
  exact ⟨(a0, s, a2), rfl⟩
theorem bulk_len2 {H : Type} : ∀ es : List (DataW H), es.length ≤ Rows.uptoBulkAll es
  | [] => Nat.zero_le _
  | d :: r => by
    have := bulk_len2 r
    have := bulk_pos d
    simp only [Rows.uptoBulkAll, List.length_cons]
    omega
/-- A row of elements that came in, each of a form known by its cells. -/
theorem row_came {α : Type} (F : α → List Value) (n : Nat) (t e : TypeId) (hu : Tryz.prog.underlying t = some (.slice e)) (hce : Tryz.prog.cellsOf e = n) (hn : 0 < n) (hF : ∀ x, ∃ u, (F x)[0]? = some u) (hFn : ∀ x, (F x).length = n)
    (hel : ∀ (fuel : Nat) (cs : List Value) (y : DataW H × List MemPlace), DataW.trod enc Tryz.prog W 0 (fun _ => true) true fuel e cs = some y → ∃ x : α, cs = F x)
    {v : Value} {y : DataW H × List MemPlace} (h : DataW.trod enc Tryz.prog W 0 (fun _ => true) true fuel t [v] = some y) :
    ∃ (L : List α) (A : Option Addr) (cap : Nat), v = .slice A L.length cap ∧ L.length ≤ cap ∧ L.length ≤ Rows.uptoBulk y.1 ∧ ∀ (i : Nat) (x : α), L[i]? = some x → ∃ b o, A = some ⟨b, o, none⟩ ∧ ∀ j u, j < n → (F x)[j]? = some u → W.cell? ⟨b, o + i * n + j, none⟩ = some u := by
  rcases DataW.trod_slice hu h with ⟨hcs, hd⟩ | ⟨a, l, c, elems, rest, m, _, hcs, hd, hb, hlc, hm, hel2, hc, _, _⟩
  · simp at hcs
    exact ⟨[], none, 0, hcs, Nat.le_refl _, Nat.zero_le _, fun i x hx => by simp at hx⟩
  · simp at hcs
    rw [hce] at hc
    have hx : ∀ i, i < l → ∃ x : α, W.cells? 0 (a.add (i * n)) n = some (F x) := by
      intro i hi
      have h1 := hc i hi
      rw [List.getElem?_eq_getElem (by omega)] at h1
      obtain ⟨cs, h2, h3⟩ := Option.bind_eq_some_iff.1 h1
      obtain ⟨x, rfl⟩ := hel _ _ _ h3
      exact ⟨x, h2⟩
    obtain ⟨L, hL⟩ : ∃ L : List α, L.length = l ∧ ∀ i x, L[i]? = some x → W.cells? 0 (a.add (i * n)) n = some (F x) := by
      have : ∀ k, k ≤ l → ∃ L : List α, L.length = k ∧ ∀ i x, L[i]? = some x → W.cells? 0 (a.add (i * n)) n = some (F x) := by
        intro k
        induction k with
        | zero => exact fun _ => ⟨[], rfl, fun i x hx => by simp at hx⟩
        | succ k ih =>
          intro hk
          obtain ⟨L, h1, h2⟩ := ih (by omega)
          obtain ⟨x, hx⟩ := hx k (by omega)
          refine ⟨L ++ [x], by simp [h1], fun i z hz => ?_⟩
          rcases Nat.lt_or_ge i L.length with hi | hi
          · rw [List.getElem?_append_left hi] at hz
            exact h2 i z hz
          · rw [List.getElem?_append_right hi] at hz
            have : i - L.length = 0 := by
              rcases Nat.eq_zero_or_pos (i - L.length) with h0 | h0
              · exact h0
              · rw [List.getElem?_eq_none (by simp; omega)] at hz; cases hz
            rw [this] at hz
            cases hz
            rw [show i = k by omega]
            exact hx
      exact this l (Nat.le_refl _)
    refine ⟨L, some a, c, by rw [hL.1]; exact hcs, by rw [hL.1]; exact hlc, ?_, fun i x hxi => ?_⟩
    · rw [hd]
      simp only [Rows.uptoBulk]
      have := bulk_len2 (elems.map (·.1))
      simp at this
      omega
    · obtain ⟨bl, off, spot⟩ := a
      have h1 := hL.2 i x hxi
      obtain ⟨_, _, h3⟩ := World.cells?_some h1
      have hlt := (List.getElem?_eq_some_iff.1 hxi).1
      obtain ⟨x0, hx0⟩ : ∃ x0, L[0]? = some x0 := ⟨_, List.getElem?_eq_getElem (by omega)⟩
      obtain ⟨_, _, h30⟩ := World.cells?_some (hL.2 0 x0 hx0)
      obtain ⟨u0, hu0⟩ := hF x0
      have h00 := h30 0 hn
      rw [hu0] at h00
      have hsp : spot = none := by
        have := World.cell?_spot h00
        simpa [Addr.add] using this
      subst hsp
      refine ⟨bl, off, rfl, fun j u hj hu => ?_⟩
      have := h3 j hj
      rw [addr_add, addr_add, hu] at this
      exact this
theorem links_came {v : Value} {y : DataW H × List MemPlace} (h : DataW.trod enc Tryz.prog W 0 (fun _ => true) true fuel 22 [v] = some y) : ∃ (L : List (Int × Int)) (A : Option Addr) (cap : Nat), v = .slice A L.length cap ∧ L.length ≤ Rows.uptoBulk y.1 ∧ LinksAt W A L := by
  obtain ⟨L, A, cap, h1, _, h2, h3⟩ := row_came (fun p : Int × Int => [.int .i64 p.1, .int .i64 p.2]) 2 22 69 Tryz.underlying22 cellsLinkN (by decide) (fun x => ⟨_, rfl⟩) (fun x => rfl) (fun f cs y h => link_came h) h
  refine ⟨L, A, cap, h1, h2, fun i p hp => ?_⟩
  obtain ⟨b, o, hA, hc⟩ := h3 i p hp
  exact ⟨b, o, hA, hc 0 _ (by decide) rfl, hc 1 _ (by decide) rfl⟩
theorem edges_came {v : Value} {y : DataW H × List MemPlace} (h : DataW.trod enc Tryz.prog W 0 (fun _ => true) true fuel 23 [v] = some y) : ∃ (L : List (Int × Nat × Int)) (A : Option Addr) (cap : Nat), v = .slice A L.length cap ∧ L.length ≤ Rows.uptoBulk y.1 ∧ EdgesAt W A L := by
  obtain ⟨L, A, cap, h1, _, h2, h3⟩ := row_came (fun p : Int × Nat × Int => [.int .i64 p.1, .int .u64 ((word p.2.1.testBit 0 : Nat) : Int), .int .u64 ((word p.2.1.testBit 1 : Nat) : Int), .int .u64 ((word p.2.1.testBit 2 : Nat) : Int), .int .u64 ((word p.2.1.testBit 3 : Nat) : Int), .int .i64 p.2.2]) 6 23 73 Tryz.underlying23 cellsEdgeN (by decide) (fun x => ⟨_, rfl⟩) (fun x => rfl) (fun f cs y h => edge_came h) h
  refine ⟨L, A, cap, h1, h2, fun i p hp => ?_⟩
  obtain ⟨b, o, hA, hc⟩ := h3 i p hp
  exact ⟨b, o, hA, hc 0 _ (by decide) rfl, hc 1 _ (by decide) rfl, hc 2 _ (by decide) rfl, hc 3 _ (by decide) rfl, hc 4 _ (by decide) rfl, hc 5 _ (by decide) rfl⟩
theorem intsf_came {v : Value} {y : DataW H × List MemPlace} (h : DataW.trod enc Tryz.prog W 0 (fun _ => true) true fuel 24 [v] = some y) : ∃ (L : List Int) (A : Option Addr) (cap : Nat), v = .slice A L.length cap ∧ L.length ≤ Rows.uptoBulk y.1 ∧ IntsAt W A L := by
  obtain ⟨L, A, cap, h1, _, h2, h3⟩ := row_came (fun p : Int => [.int .i64 p]) 1 24 3 Tryz.underlying24 cellsInt (by decide) (fun x => ⟨_, rfl⟩) (fun x => rfl) (fun f cs y h => by
    obtain ⟨a, q, _, _⟩ := DataW.trod_int Tryz.underlying3 h
    exact ⟨a, q⟩) h
  refine ⟨L, A, cap, h1, h2, fun i p hp => ?_⟩
  obtain ⟨b, o, hA, hc⟩ := h3 i p hp
  have := hc 0 _ (by decide) rfl
  rw [Nat.mul_one] at this
  exact ⟨b, o, hA, this⟩
/-- A machine that came in. -/
theorem nfa_came {base : Nat} {v : Value} {d : DataW H} {p : List MemPlace} (hv : Value.okWide Tryz.prog W .any base 26 v) (h : DataW.Trod enc Tryz.prog W 0 (fun _ => true) true 26 v d p) (hbulk : Rows.uptoBulk d ≤ 1048576) :
    ∃ (N : NfaV) (A1 : Option Addr) (k1 : Nat) (A2 : Option Addr) (k2 : Nat) (A3 : Option Addr) (k3 : Nat), v = .agg (nfA N A1 k1 A2 k2 A3 k3) ∧ NfaAt W N A1 A2 A3 ∧ N.links.length ≤ 1048576 ∧ N.edges.length ≤ 1048576 ∧ N.accept.length ≤ 1048576 := by
  simp only [Value.okWide, Tryz.underlying26] at hv
  obtain ⟨cs, rfl, h2, _⟩ := hv
  rw [cellsNfaN] at h2
  obtain ⟨fuel, hf⟩ := h
  obtain ⟨x0, x1, x2, x3, x4, rfl⟩ : ∃ x0 x1 x2 x3 x4, cs = #[x0, x1, x2, x3, x4] := by
    obtain ⟨l⟩ := cs
    match l, h2 with
    | [a, b, c, d, e], _ => exact ⟨a, b, c, d, e, rfl⟩
  have hf : DataW.trod enc Tryz.prog W 0 (fun _ => true) true fuel 26 [x0, x1, x2, x3, x4] = some (d, p) := hf
  obtain ⟨xs, n, _, hy, hl, hxl, hg⟩ := DataW.trod_struct Tryz.underlying26 hf
  have g0 : DataW.trod enc Tryz.prog W 0 (fun _ => true) true n 3 (([x0, x1, x2, x3, x4].drop 0).take (Tryz.prog.cellsOf 3)) = xs[0]? := hg 0 _ rfl
  have g1 : DataW.trod enc Tryz.prog W 0 (fun _ => true) true n 3 (([x0, x1, x2, x3, x4].drop 1).take (Tryz.prog.cellsOf 3)) = xs[1]? := hg 1 _ rfl
  have g2 : DataW.trod enc Tryz.prog W 0 (fun _ => true) true n 22 (([x0, x1, x2, x3, x4].drop 2).take (Tryz.prog.cellsOf 22)) = xs[2]? := hg 2 _ rfl
  have g3 : DataW.trod enc Tryz.prog W 0 (fun _ => true) true n 23 (([x0, x1, x2, x3, x4].drop 3).take (Tryz.prog.cellsOf 23)) = xs[3]? := hg 3 _ rfl
  have g4 : DataW.trod enc Tryz.prog W 0 (fun _ => true) true n 24 (([x0, x1, x2, x3, x4].drop 4).take (Tryz.prog.cellsOf 24)) = xs[4]? := hg 4 _ rfl
  have hs : ∀ i, i < 5 → ∃ z, xs[i]? = some z := fun i hi => ⟨_, List.getElem?_eq_getElem (by rw [hxl]; exact hi)⟩
  obtain ⟨z0, e0⟩ := hs 0 (by decide)
  obtain ⟨z1, e1⟩ := hs 1 (by decide)
  obtain ⟨z2, e2⟩ := hs 2 (by decide)
  obtain ⟨z3, e3⟩ := hs 3 (by decide)
  obtain ⟨z4, e4⟩ := hs 4 (by decide)
  rw [e0, cellsInt] at g0
  rw [e1, cellsInt] at g1
  rw [e2, cellsLinks] at g2
  rw [e3, cellsEdges] at g3
  rw [e4, cellsInts] at g4
  obtain ⟨a0, q0, _, _⟩ := DataW.trod_int Tryz.underlying3 g0
  obtain ⟨a1, q1, _, _⟩ := DataW.trod_int Tryz.underlying3 g1
  obtain ⟨L, A1, k1, rfl, b2, r2⟩ := links_came (by simpa using g2)
  obtain ⟨E, A2, k2, rfl, b3, r3⟩ := edges_came (by simpa using g3)
  obtain ⟨C, A3, k3, rfl, b4, r4⟩ := intsf_came (by simpa using g4)
  simp at q0 q1
  subst q0 q1
  have hb : ∀ (i : Nat) (z : DataW H × List MemPlace), xs[i]? = some z → Rows.uptoBulk z.1 ≤ 1048576 := fun i z hz => by
    have h1 : Rows.uptoBulk z.1 ≤ Rows.uptoBulkAll (xs.map (·.1)) := bulkAll_mem (List.mem_map.2 ⟨z, List.mem_of_getElem? hz, rfl⟩)
    have h2 := (Prod.mk.inj hy).1
    rw [h2] at hbulk
    simp only [Rows.uptoBulk] at hbulk
    omega
  have n2 := hb 2 z2 e2
  have n3 := hb 3 z3 e3
  have n4 := hb 4 z4 e4
  exact ⟨⟨a0, a1, L, E, C⟩, A1, k1, A2, k2, A3, k3, rfl, ⟨r2, r3, r4, by simp only; omega, by simp only; omega, by simp only; omega⟩, by simp only; omega, by simp only; omega, by simp only; omega⟩
end
end Go.Proofs.YtffkppoidollnaaGreatDoor
namespace Go.Proofs.YtffkppoidollnaaGreatDoor
open Go.RowKit
set_option linter.unusedSimpArgs false
set_option linter.unusedVariables false
set_option maxRecDepth 100000

/-- A byte that stands for itself behind a backslash alone. -/
def isSign (c : Nat) : Bool := [92, 40, 41, 91, 93, 123, 125, 124, 42, 43, 63, 46].contains c
/-- The text of a byte. -/
def litS (c : Nat) : List Nat := if isSign c = true then [92, c] else if c = 94 ∨ c = 45 then [c] else chrS c
theorem litS_chr {c : Nat} (h : isSign c = false) (h2 : ¬ (c = 94 ∨ c = 45)) : litS c = chrS c := by unfold litS; rw [h, if_neg h2]; rfl
theorem litS_len (c : Nat) : (litS c).length ≤ 4 := by unfold litS; have := chrS_len c; split <;> (try split) <;> simp_all

@[go_sem] theorem run_str1 (w : World) (c : Nat) : (convert 43 9 (.slice (some ⟨w.heap.size, 0, none⟩) 1 1)).run Tryz.prog (w.alloc (.cells #[.int .u8 (c : Int)] 5)) =
    .ok (.string (strOf [c])) (w.alloc (.cells #[.int .u8 (c : Int)] 5)) :=
  run_str _ ⟨w.heap.size, 0, none⟩ 1 [c] (fun j u hu => by
    have hb := Blk.new w 5 #[.int .u8 (c : Int)]
    match j, hu with
    | 0, hu => simp at hu; subst hu; exact hb.cell 0
    | j + 1, hu => simp at hu)

set_option maxHeartbeats 1000000 in
theorem lit_go (c : Nat) (w : World) (hc : c < 256) :
    Calls Tryz.prog 164 #[.int .u8 (c : Int)] w fun e w' => e = .returned (.string (strOf (litS c))) ∧ Below w.heap.size w w' := by
  by_cases e92 : c = 92
  · have HV : Hid (litS c = [92, c]) := by subst e92; rfl
    have b : ((c : Int) == 92) = true := by simp; omega
    rw [HV.out]
    clear e92
    go_enter Tryz.func164, Tryz.ntmps164
    go_wp2
    go_light
    go_ret
    exact ⟨rfl, (Below.refl w.heap.size w).alloc (Nat.le_refl _) _⟩
  have b92 : ((c : Int) == 92) = false := by simp; omega

  by_cases e40 : c = 40
  · have HV : Hid (litS c = [92, c]) := by subst e40; rfl
    have b : ((c : Int) == 40) = true := by simp; omega
    rw [HV.out]
    clear e40
    go_enter Tryz.func164, Tryz.ntmps164
    go_wp2
    go_light
    go_ret
    exact ⟨rfl, (Below.refl w.heap.size w).alloc (Nat.le_refl _) _⟩
  have b40 : ((c : Int) == 40) = false := by simp; omega

  by_cases e41 : c = 41
  · have HV : Hid (litS c = [92, c]) := by subst e41; rfl
    have b : ((c : Int) == 41) = true := by simp; omega
    rw [HV.out]
    clear e41
    go_enter Tryz.func164, Tryz.ntmps164
    go_wp2
    go_light
    go_ret
    exact ⟨rfl, (Below.refl w.heap.size w).alloc (Nat.le_refl _) _⟩
  have b41 : ((c : Int) == 41) = false := by simp; omega

  by_cases e91 : c = 91
  · have HV : Hid (litS c = [92, c]) := by subst e91; rfl
    have b : ((c : Int) == 91) = true := by simp; omega
    rw [HV.out]
    clear e91
    go_enter Tryz.func164, Tryz.ntmps164
    go_wp2
    go_light
    go_ret
    exact ⟨rfl, (Below.refl w.heap.size w).alloc (Nat.le_refl _) _⟩
  have b91 : ((c : Int) == 91) = false := by simp; omega

  by_cases e93 : c = 93
  · have HV : Hid (litS c = [92, c]) := by subst e93; rfl
    have b : ((c : Int) == 93) = true := by simp; omega
    rw [HV.out]
    clear e93
    go_enter Tryz.func164, Tryz.ntmps164
    go_wp2
    go_light
    go_ret
    exact ⟨rfl, (Below.refl w.heap.size w).alloc (Nat.le_refl _) _⟩
  have b93 : ((c : Int) == 93) = false := by simp; omega

  by_cases e123 : c = 123
  · have HV : Hid (litS c = [92, c]) := by subst e123; rfl
    have b : ((c : Int) == 123) = true := by simp; omega
    rw [HV.out]
    clear e123
    go_enter Tryz.func164, Tryz.ntmps164
    go_wp2
    go_light
    go_ret
    exact ⟨rfl, (Below.refl w.heap.size w).alloc (Nat.le_refl _) _⟩
  have b123 : ((c : Int) == 123) = false := by simp; omega

  by_cases e125 : c = 125
  · have HV : Hid (litS c = [92, c]) := by subst e125; rfl
    have b : ((c : Int) == 125) = true := by simp; omega
    rw [HV.out]
    clear e125
    go_enter Tryz.func164, Tryz.ntmps164
    go_wp2
    go_light
    go_ret
    exact ⟨rfl, (Below.refl w.heap.size w).alloc (Nat.le_refl _) _⟩
  have b125 : ((c : Int) == 125) = false := by simp; omega

  by_cases e124 : c = 124
  · have HV : Hid (litS c = [92, c]) := by subst e124; rfl
    have b : ((c : Int) == 124) = true := by simp; omega
    rw [HV.out]
    clear e124
    go_enter Tryz.func164, Tryz.ntmps164
    go_wp2
    go_light
    go_ret
    exact ⟨rfl, (Below.refl w.heap.size w).alloc (Nat.le_refl _) _⟩
  have b124 : ((c : Int) == 124) = false := by simp; omega

  by_cases e42 : c = 42
  · have HV : Hid (litS c = [92, c]) := by subst e42; rfl
    have b : ((c : Int) == 42) = true := by simp; omega
    rw [HV.out]
    clear e42
    go_enter Tryz.func164, Tryz.ntmps164
    go_wp2
    go_light
    go_ret
    exact ⟨rfl, (Below.refl w.heap.size w).alloc (Nat.le_refl _) _⟩
  have b42 : ((c : Int) == 42) = false := by simp; omega

  by_cases e43 : c = 43
  · have HV : Hid (litS c = [92, c]) := by subst e43; rfl
    have b : ((c : Int) == 43) = true := by simp; omega
    rw [HV.out]
    clear e43
    go_enter Tryz.func164, Tryz.ntmps164
    go_wp2
    go_light
    go_ret
    exact ⟨rfl, (Below.refl w.heap.size w).alloc (Nat.le_refl _) _⟩
  have b43 : ((c : Int) == 43) = false := by simp; omega

  by_cases e63 : c = 63
  · have HV : Hid (litS c = [92, c]) := by subst e63; rfl
    have b : ((c : Int) == 63) = true := by simp; omega
    rw [HV.out]
    clear e63
    go_enter Tryz.func164, Tryz.ntmps164
    go_wp2
    go_light
    go_ret
    exact ⟨rfl, (Below.refl w.heap.size w).alloc (Nat.le_refl _) _⟩
  have b63 : ((c : Int) == 63) = false := by simp; omega

  by_cases e46 : c = 46
  · have HV : Hid (litS c = [92, c]) := by subst e46; rfl
    have b : ((c : Int) == 46) = true := by simp; omega
    rw [HV.out]
    clear e46
    go_enter Tryz.func164, Tryz.ntmps164
    go_wp2
    go_light
    go_ret
    exact ⟨rfl, (Below.refl w.heap.size w).alloc (Nat.le_refl _) _⟩
  have b46 : ((c : Int) == 46) = false := by simp; omega

  by_cases e94 : c = 94
  · have HV : Hid (litS c = [c]) := by subst e94; rfl
    have b : ((c : Int) == 94) = true := by simp; omega
    rw [HV.out]
    clear e94
    go_enter Tryz.func164, Tryz.ntmps164
    go_wp2
    go_light
    go_ret
    exact ⟨rfl, (Below.refl w.heap.size w).alloc (Nat.le_refl _) _⟩
  have b94 : ((c : Int) == 94) = false := by simp; omega

  by_cases e45 : c = 45
  · have HV : Hid (litS c = [c]) := by subst e45; rfl
    have b : ((c : Int) == 45) = true := by simp; omega
    rw [HV.out]
    clear e45
    go_enter Tryz.func164, Tryz.ntmps164
    go_wp2
    go_light
    go_ret
    exact ⟨rfl, (Below.refl w.heap.size w).alloc (Nat.le_refl _) _⟩
  have b45 : ((c : Int) == 45) = false := by simp; omega

  have HV : Hid (litS c = chrS c) := Lib.hid (litS_chr (by simp [isSign]; omega) (by omega))
  rw [HV.out]
  clear e92 e40 e41 e91 e93 e123 e125 e124 e42 e43 e63 e46 e94 e45
  go_enter Tryz.func164, Tryz.ntmps164
  go_wp2_with fail
  refine (chr_go _ _ (by omega) (by omega)).mono ?_
  rintro e w2 ⟨rfl, hb2⟩
  rw [Int.toNat_natCast]
  go_wp2
  go_light
  go_ret
  exact ⟨rfl, hb2⟩

end Go.Proofs.YtffkppoidollnaaGreatDoor
namespace Go.Proofs.YtffkppoidollnaaGreatDoor
open Go.RowKit
set_option linter.unusedSimpArgs false
set_option linter.unusedVariables false
set_option maxRecDepth 100000

/-- The digits of a number below 10000. -/
def decS (n : Nat) : List Nat :=
  if n < 10 then [48 + n] else if n < 100 then [48 + n / 10, 48 + n % 10] else if n < 1000 then [48 + n / 10 / 10, 48 + n / 10 % 10, 48 + n % 10] else [48 + n / 10 / 10 / 10, 48 + n / 10 / 10 % 10, 48 + n / 10 % 10, 48 + n % 10]
theorem decS_len (n : Nat) : (decS n).length ≤ 4 := by unfold decS; split <;> (try split) <;> (try split) <;> simp

theorem str_block (w : World) (C : Array Value) (t : TypeId) (o : Nat) (ns : List Nat) (h : ∀ j u, (ns.map (fun n : Nat => Value.int .u8 (n : Int)))[j]? = some u → C[o + j]? = some u) :
    (convert 43 9 (.slice (some ⟨w.heap.size, o, none⟩) ns.length ns.length)).run Tryz.prog (w.alloc (.cells C t)) = .ok (.string (strOf ns)) (w.alloc (.cells C t)) :=
  run_str _ ⟨w.heap.size, o, none⟩ ns.length ns (fun j u hu => by
    have hb := Blk.new w t C
    have e : (⟨w.heap.size, o, none⟩ : Addr).add j = ⟨w.heap.size, o + j, none⟩ := by
      unfold Addr.add
      split
      · next hz => subst hz; rfl
      · rfl
    rw [e, hb.cell]
    exact h j u hu)

theorem str_one (w : World) (a : Nat) : (convert 43 9 (.slice (some ⟨w.heap.size, 19, none⟩) 1 1)).run Tryz.prog (w.alloc (.cells #[Value.int .u8 0, Value.int .u8 0, Value.int .u8 0, Value.int .u8 0, Value.int .u8 0, Value.int .u8 0, Value.int .u8 0, Value.int .u8 0, Value.int .u8 0, Value.int .u8 0, Value.int .u8 0, Value.int .u8 0, Value.int .u8 0, Value.int .u8 0, Value.int .u8 0, Value.int .u8 0, Value.int .u8 0, Value.int .u8 0, Value.int .u8 0, .int .u8 (48 + (a : Int))] 235)) =
    .ok (.string (strOf [48 + a])) (w.alloc (.cells #[Value.int .u8 0, Value.int .u8 0, Value.int .u8 0, Value.int .u8 0, Value.int .u8 0, Value.int .u8 0, Value.int .u8 0, Value.int .u8 0, Value.int .u8 0, Value.int .u8 0, Value.int .u8 0, Value.int .u8 0, Value.int .u8 0, Value.int .u8 0, Value.int .u8 0, Value.int .u8 0, Value.int .u8 0, Value.int .u8 0, Value.int .u8 0, .int .u8 (48 + (a : Int))] 235)) :=
  str_block w _ _ 19 [48 + a] (fun j u hu => by
    match j, hu with
    | 0, hu => simpa using hu
    | j + 1, hu => simp at hu)
theorem str_two (w : World) (a b : Nat) : (convert 43 9 (.slice (some ⟨w.heap.size, 18, none⟩) 2 2)).run Tryz.prog (w.alloc (.cells #[Value.int .u8 0, Value.int .u8 0, Value.int .u8 0, Value.int .u8 0, Value.int .u8 0, Value.int .u8 0, Value.int .u8 0, Value.int .u8 0, Value.int .u8 0, Value.int .u8 0, Value.int .u8 0, Value.int .u8 0, Value.int .u8 0, Value.int .u8 0, Value.int .u8 0, Value.int .u8 0, Value.int .u8 0, Value.int .u8 0, .int .u8 (48 + (a : Int)), .int .u8 (48 + (b : Int))] 235)) =
    .ok (.string (strOf [48 + a, 48 + b])) (w.alloc (.cells #[Value.int .u8 0, Value.int .u8 0, Value.int .u8 0, Value.int .u8 0, Value.int .u8 0, Value.int .u8 0, Value.int .u8 0, Value.int .u8 0, Value.int .u8 0, Value.int .u8 0, Value.int .u8 0, Value.int .u8 0, Value.int .u8 0, Value.int .u8 0, Value.int .u8 0, Value.int .u8 0, Value.int .u8 0, Value.int .u8 0, .int .u8 (48 + (a : Int)), .int .u8 (48 + (b : Int))] 235)) :=
  str_block w _ _ 18 [48 + a, 48 + b] (fun j u hu => by
    match j, hu with
    | 0, hu => simpa using hu
    | 1, hu => simpa using hu
    | j + 2, hu => simp at hu)
theorem str_three (w : World) (a b c : Nat) : (convert 43 9 (.slice (some ⟨w.heap.size, 17, none⟩) 3 3)).run Tryz.prog (w.alloc (.cells #[Value.int .u8 0, Value.int .u8 0, Value.int .u8 0, Value.int .u8 0, Value.int .u8 0, Value.int .u8 0, Value.int .u8 0, Value.int .u8 0, Value.int .u8 0, Value.int .u8 0, Value.int .u8 0, Value.int .u8 0, Value.int .u8 0, Value.int .u8 0, Value.int .u8 0, Value.int .u8 0, Value.int .u8 0, .int .u8 (48 + (a : Int)), .int .u8 (48 + (b : Int)), .int .u8 (48 + (c : Int))] 235)) =
    .ok (.string (strOf [48 + a, 48 + b, 48 + c])) (w.alloc (.cells #[Value.int .u8 0, Value.int .u8 0, Value.int .u8 0, Value.int .u8 0, Value.int .u8 0, Value.int .u8 0, Value.int .u8 0, Value.int .u8 0, Value.int .u8 0, Value.int .u8 0, Value.int .u8 0, Value.int .u8 0, Value.int .u8 0, Value.int .u8 0, Value.int .u8 0, Value.int .u8 0, Value.int .u8 0, .int .u8 (48 + (a : Int)), .int .u8 (48 + (b : Int)), .int .u8 (48 + (c : Int))] 235)) :=
  str_block w _ _ 17 [48 + a, 48 + b, 48 + c] (fun j u hu => by
    match j, hu with
    | 0, hu => simpa using hu
    | 1, hu => simpa using hu
    | 2, hu => simpa using hu
    | j + 3, hu => simp at hu)
theorem str_four (w : World) (a b c d : Nat) : (convert 43 9 (.slice (some ⟨w.heap.size, 16, none⟩) 4 4)).run Tryz.prog (w.alloc (.cells #[Value.int .u8 0, Value.int .u8 0, Value.int .u8 0, Value.int .u8 0, Value.int .u8 0, Value.int .u8 0, Value.int .u8 0, Value.int .u8 0, Value.int .u8 0, Value.int .u8 0, Value.int .u8 0, Value.int .u8 0, Value.int .u8 0, Value.int .u8 0, Value.int .u8 0, Value.int .u8 0, .int .u8 (48 + (a : Int)), .int .u8 (48 + (b : Int)), .int .u8 (48 + (c : Int)), .int .u8 (48 + (d : Int))] 235)) =
    .ok (.string (strOf [48 + a, 48 + b, 48 + c, 48 + d])) (w.alloc (.cells #[Value.int .u8 0, Value.int .u8 0, Value.int .u8 0, Value.int .u8 0, Value.int .u8 0, Value.int .u8 0, Value.int .u8 0, Value.int .u8 0, Value.int .u8 0, Value.int .u8 0, Value.int .u8 0, Value.int .u8 0, Value.int .u8 0, Value.int .u8 0, Value.int .u8 0, Value.int .u8 0, .int .u8 (48 + (a : Int)), .int .u8 (48 + (b : Int)), .int .u8 (48 + (c : Int)), .int .u8 (48 + (d : Int))] 235)) :=
  str_block w _ _ 16 [48 + a, 48 + b, 48 + c, 48 + d] (fun j u hu => by
    match j, hu with
    | 0, hu => simpa using hu
    | 1, hu => simpa using hu
    | 2, hu => simpa using hu
    | 3, hu => simpa using hu
    | j + 4, hu => simp at hu)

/-- A number's last digit, and the rest. -/
theorem dec_parts (n : Nat) : ∃ q r : Nat, r < 10 ∧ n / 10 = q ∧ n % 10 = r ∧ (n : Int).tdiv 10 = (q : Int) ∧ (n : Int).tmod 10 = (r : Int) :=
  ⟨n / 10, n % 10, Nat.mod_lt _ (by decide), rfl, rfl, by rw [Int.tdiv_eq_ediv_of_nonneg (by omega)]; omega, by rw [Int.tmod_eq_emod_of_nonneg (by omega)]; omega⟩

set_option maxHeartbeats 1000000 in
theorem shown_one (n : Nat) (w : World) (hn : n < 10) :
    Calls Tryz.prog 200 #[.int .i64 (n : Int)] w fun e w' => e = .returned (.string (strOf (decS n))) ∧ Below w.heap.size w w' := by
  have HV : decS n = [48 + n] := if_pos hn
  rw [HV]
  have h0 : ¬ (n : Int) < 0 := by omega
  have m1 : (n : Int).tmod 10 = (n : Int) := by rw [Int.tmod_eq_emod_of_nonneg (by omega)]; omega
  have d1 : (n : Int).tdiv 10 = 0 := by rw [Int.tdiv_eq_ediv_of_nonneg (by omega)]; omega
  have hs := fun w => str_one w n
  clear HV
  go_enter Tryz.func200, Tryz.ntmps200
  go_wp2
  refine wp_loop_rounds 1 ?_
  rw [rounds_succ]
  go_wp2

  go_light
  go_ret
  exact ⟨rfl, (Below.refl w.heap.size w).alloc (Nat.le_refl _) _⟩


set_option maxHeartbeats 1000000 in
theorem shown_two (n : Nat) (w : World) (hn : 10 ≤ n) (hn2 : n < 100) :
    Calls Tryz.prog 200 #[.int .i64 (n : Int)] w fun e w' => e = .returned (.string (strOf (decS n))) ∧ Below w.heap.size w w' := by
  have HV : decS n = [48 + n / 10, 48 + n % 10] := by unfold decS; rw [if_neg (by omega), if_pos hn2]
  rw [HV]
  have h0 : ¬ (n : Int) < 0 := by omega
  obtain ⟨a, b, hb, e1, e2, d1, m1⟩ := dec_parts n
  obtain ⟨a1, b1, hb1, e3, e4, d2, m2⟩ := dec_parts a
  rw [e1, e2]
  obtain rfl : a1 = 0 := by omega
  obtain rfl : b1 = a := by omega
  have z1 : ((b1 : Int) == 0) = false := by simp; omega
  have q1 : b1 < 1000 := by omega
  have hs := fun w => str_two w b1 b
  clear HV e1 e2 e3 e4 hn hn2
  go_enter Tryz.func200, Tryz.ntmps200
  go_wp2
  refine wp_loop_rounds 2 ?_
  rw [rounds_succ]
  go_wp2

  rw [rounds_succ]
  go_wp2

  go_light
  go_ret
  exact ⟨rfl, (Below.refl w.heap.size w).alloc (Nat.le_refl _) _⟩


set_option maxHeartbeats 1000000 in
theorem shown_three (n : Nat) (w : World) (hn : 100 ≤ n) (hn2 : n < 1000) :
    Calls Tryz.prog 200 #[.int .i64 (n : Int)] w fun e w' => e = .returned (.string (strOf (decS n))) ∧ Below w.heap.size w w' := by
  have HV : decS n = [48 + n / 10 / 10, 48 + n / 10 % 10, 48 + n % 10] := by unfold decS; rw [if_neg (by omega), if_neg (by omega), if_pos hn2]
  rw [HV]
  have h0 : ¬ (n : Int) < 0 := by omega
  obtain ⟨a, b, hb, e1, e2, d1, m1⟩ := dec_parts n
  obtain ⟨a1, b1, hb1, e3, e4, d2, m2⟩ := dec_parts a
  obtain ⟨a2, b2, hb2, e5, e6, d3, m3⟩ := dec_parts a1
  rw [e1, e2, e3, e4]
  obtain rfl : a2 = 0 := by omega
  obtain rfl : b2 = a1 := by omega
  have z1 : ((a : Int) == 0) = false := by simp; omega
  have z2 : ((b2 : Int) == 0) = false := by simp; omega
  have q1 : a < 1000 := by omega
  have q2 : b2 < 1000 := by omega
  have hs := fun w => str_three w b2 b1 b
  clear HV e1 e2 e3 e4 e5 e6 hn hn2
  go_enter Tryz.func200, Tryz.ntmps200
  go_wp2
  refine wp_loop_rounds 3 ?_
  rw [rounds_succ]
  go_wp2

  rw [rounds_succ]
  go_wp2

  rw [rounds_succ]
  go_wp2

  go_light
  go_ret
  exact ⟨rfl, (Below.refl w.heap.size w).alloc (Nat.le_refl _) _⟩


set_option maxHeartbeats 1000000 in
theorem shown_four (n : Nat) (w : World) (hn : 1000 ≤ n) (hn2 : n < 10000) :
    Calls Tryz.prog 200 #[.int .i64 (n : Int)] w fun e w' => e = .returned (.string (strOf (decS n))) ∧ Below w.heap.size w w' := by
  have HV : decS n = [48 + n / 10 / 10 / 10, 48 + n / 10 / 10 % 10, 48 + n / 10 % 10, 48 + n % 10] := by unfold decS; rw [if_neg (by omega), if_neg (by omega), if_neg (by omega)]
  rw [HV]
  have h0 : ¬ (n : Int) < 0 := by omega
  obtain ⟨a, b, hb, e1, e2, d1, m1⟩ := dec_parts n
  obtain ⟨a1, b1, hb1, e3, e4, d2, m2⟩ := dec_parts a
  obtain ⟨a2, b2, hb2, e5, e6, d3, m3⟩ := dec_parts a1
  obtain ⟨a3, b3, hb3, e7, e8, d4, m4⟩ := dec_parts a2
  rw [e1, e2, e3, e4, e5, e6]
  obtain rfl : a3 = 0 := by omega
  obtain rfl : b3 = a2 := by omega
  have z1 : ((a : Int) == 0) = false := by simp; omega
  have z2 : ((a1 : Int) == 0) = false := by simp; omega
  have z3 : ((b3 : Int) == 0) = false := by simp; omega
  have q1 : a < 1001 := by omega
  have q2 : a1 < 1000 := by omega
  have q3 : b3 < 1000 := by omega
  have hs := fun w => str_four w b3 b2 b1 b
  clear HV e1 e2 e3 e4 e5 e6 e7 e8 hn hn2
  go_enter Tryz.func200, Tryz.ntmps200
  go_wp2
  refine wp_loop_rounds 4 ?_
  rw [rounds_succ]
  go_wp2

  rw [rounds_succ]
  go_wp2

  rw [rounds_succ]
  go_wp2

  rw [rounds_succ]
  go_wp2

  go_light
  go_ret
  exact ⟨rfl, (Below.refl w.heap.size w).alloc (Nat.le_refl _) _⟩


theorem shown_go (n : Nat) (w : World) (hn : n ≤ 1000) :
    Calls Tryz.prog 200 #[.int .i64 (n : Int)] w fun e w' => e = .returned (.string (strOf (decS n))) ∧ Below w.heap.size w w' := by
  by_cases h1 : n < 10
  · exact shown_one n w h1
  by_cases h2 : n < 100
  · exact shown_two n w (by omega) h2
  by_cases h3 : n < 1000
  · exact shown_three n w (by omega) h3
  · exact shown_four n w (by omega) (by omega)

@[go_sem] theorem run_str1i (w : World) (c : Nat) : (convert 43 9 (.slice (some ⟨w.heap.size, 0, none⟩) 1 1)).run Tryz.prog (w.alloc (.cells #[.int .u8 (48 + (c : Int))] 5)) =
    .ok (.string (strOf [48 + c])) (w.alloc (.cells #[.int .u8 (48 + (c : Int))] 5)) :=
  str_block w _ _ 0 [48 + c] (fun j u hu => by
    match j, hu with
    | 0, hu => simpa using hu
    | j + 1, hu => simp at hu)
end Go.Proofs.YtffkppoidollnaaGreatDoor
namespace Go.Proofs.YtffkppoidollnaaGreatDoor
open Go.RowKit
set_option linter.unusedSimpArgs false
set_option linter.unusedVariables false
set_option maxRecDepth 100000

theorem info5 : (Tryz.prog.info? 5).map (fun i => (i.zero, i.size, i.bytes)) = some (some (.int .u8 0), 1, 1) := by kernel_rfl


end Go.Proofs.YtffkppoidollnaaGreatDoor
namespace Go.Proofs.YtffkppoidollnaaGreatDoor
set_option linter.unusedSimpArgs false
set_option linter.unusedVariables false
open Go.RowKit

end Go.Proofs.YtffkppoidollnaaGreatDoor
namespace Go.Proofs.YtffkppoidollnaaGreatDoor
open Go.RowKit Go.Shelf
attribute [local go_sem] Oper.semAt_some
set_option linter.unusedSimpArgs false
set_option linter.unusedVariables false
set_option maxRecDepth 100000

theorem one_new (W : World) (v : Value) (t : TypeId) : (W.alloc (.cells #[v] t)).cell? ⟨W.heap.size, 0, none⟩ = some v ∧ (W.alloc (.cells #[v] t)).frozen? ⟨W.heap.size, 0, none⟩ = false :=
  ⟨(Blk.new W t #[v]).cell 0, (Blk.new W t #[v]).frozen 0⟩
theorem one_later {W : World} {a : Addr} {v : Value} (o : Obj) (h : W.cell? a = some v ∧ W.frozen? a = false) : (W.alloc o).cell? a = some v ∧ (W.alloc o).frozen? a = false :=
  ⟨cell_kept h.1 (World.grownBy_alloc W o none) (fun r e => by cases e), (frozen_kept h.1 (World.grownBy_alloc W o none) (fun r e => by cases e)).trans h.2⟩
set_option maxHeartbeats 2000000 in
theorem least_in (n : Nat) (hn : 3 ≤ n) (p : Nat → Bool) (c : Nat) (hp : elems p 256 = [c]) (w : World) (hT : TabAt 1 Lib.deBruijn64tab w) (hw0 : 1 < w.heap.size) :
    CallsIn Fence.wide n Tryz.prog 99 #[.agg #[.int .u64 ((word (p) 0 : Nat) : Int), .int .u64 ((word (p) 1 : Nat) : Int), .int .u64 ((word (p) 2 : Nat) : Int), .int .u64 ((word (p) 3 : Nat) : Int)]] w fun e W' => e = .returned (.int .i64 (c : Int)) ∧ Below w.heap.size w W' := by
  have h1 : 1 ≤ n := by omega
  have hc256 : c < 256 := elems_lt (m := 256) (p := p) (by rw [hp]; simp)
  refine callsIn_of_wp_marks Tryz.func99 rfl trivial ?_ rfl
  simp only [Tryz.ntmps99, List.size_toArray, List.length_cons, List.length_nil, Nat.reduceAdd, Nat.reduceSub, Array.replicate_succ, Array.replicate_zero, List.push_toArray, List.append_toArray, List.nil_append, List.cons_append]
  gi_wp2_with (refine ⟨trivial, ?_⟩; gi_at_call 136; refine (callsIn_wide.2 (each_go p _)).mono ?_; rintro e w' ⟨rfl, rfl⟩)
  have c1 := one_new (w.alloc (.cells #[.int .u64 ((word (p) 0 : Nat) : Int), .int .u64 ((word (p) 1 : Nat) : Int), .int .u64 ((word (p) 2 : Nat) : Int), .int .u64 ((word (p) 3 : Nat) : Int)] 36)) (.int .i64 0) 3
  simp only [World.size_alloc] at c1
  have hB0 : Below w.heap.size w (((w.alloc (.cells #[.int .u64 ((word (p) 0 : Nat) : Int), .int .u64 ((word (p) 1 : Nat) : Int), .int .u64 ((word (p) 2 : Nat) : Int), .int .u64 ((word (p) 3 : Nat) : Int)] 36)).alloc (.cells #[.int .i64 0] 3)).alloc (.cells #[.int .u64 ((word (p) 0 : Nat) : Int), .int .u64 ((word (p) 1 : Nat) : Int), .int .u64 ((word (p) 2 : Nat) : Int), .int .u64 ((word (p) 3 : Nat) : Int)] 36)) := (((Below.refl _ w).alloc (Nat.le_refl _) _).alloc (by simp) _).alloc (by simp; omega) _
  have bS : Blk (((w.alloc (.cells #[.int .u64 ((word (p) 0 : Nat) : Int), .int .u64 ((word (p) 1 : Nat) : Int), .int .u64 ((word (p) 2 : Nat) : Int), .int .u64 ((word (p) 3 : Nat) : Int)] 36)).alloc (.cells #[.int .i64 0] 3)).alloc (.cells #[.int .u64 ((word (p) 0 : Nat) : Int), .int .u64 ((word (p) 1 : Nat) : Int), .int .u64 ((word (p) 2 : Nat) : Int), .int .u64 ((word (p) 3 : Nat) : Int)] 36)) (w.heap.size + 1 + 1) 36 #[.int .u64 ((word (p) 0 : Nat) : Int), .int .u64 ((word (p) 1 : Nat) : Int), .int .u64 ((word (p) 2 : Nat) : Int), .int .u64 ((word (p) 3 : Nat) : Int)] := Blk.new_at (by simp)
  refine wpIn_rangeFunc_ownG rfl h1 (gf := 169) (lb := #[.pointer (some ⟨w.heap.size + 1 + 1, 0, none⟩)]) rfl trivial (enters_of Tryz.func169 (by kernel_rfl) rfl)
    (each_stops (n - 1) (by omega) p (w.heap.size + 1 + 1) w.heap.size _ hw0 (by simp) bS (TabAt.below hB0 hw0 hT)) belowK_t (belowK_b (by simp; omega)) (Below.refl _ _) (fun _ => rfl)
    (fun pre W => (pre = [] ∧ W.cell? ⟨w.heap.size + 1, 0, none⟩ = some (.int .i64 0) ∧ W.frozen? ⟨w.heap.size + 1, 0, none⟩ = false) ∧ Below w.heap.size w W)
    (fun k pre W => (∃ x, k = .ret ∧ pre = [x] ∧ W.cell? ⟨w.heap.size + 1, 0, none⟩ = some (.int .i64 ((x % 256 : Nat) : Int))) ∧ Below w.heap.size w W)
    (OwnFrom.and (Own.from (fun s A B row hs hg hr => ⟨hs.1, cell_kept hs.2.1 hg hr, (frozen_kept hs.2.1 hg hr).trans hs.2.2⟩) _) (ownFrom_below (Nat.le_refl _) (by simp; omega)))
    (fun c => OwnFrom.and (Own.from (fun s A B row hs hg hr => by obtain ⟨x, h1, h2, h3⟩ := hs; exact ⟨x, h1, h2, cell_kept h3 hg hr⟩) _) (ownFrom_below (Nat.le_refl _) (by simp; omega)))
    ⟨⟨rfl, one_later _ c1⟩, hB0⟩
    (fun x => { tmps := #[.agg #[.int .u64 ((word (p) 0 : Nat) : Int), .int .u64 ((word (p) 1 : Nat) : Int), .int .u64 ((word (p) 2 : Nat) : Int), .int .u64 ((word (p) 3 : Nat) : Int)], .pointer (some ⟨w.heap.size, 0, none⟩), .pointer (some ⟨w.heap.size + 1, 0, none⟩), .int .u8 ((x % 256 : Nat) : Int), .agg #[.int .u64 ((word (p) 0 : Nat) : Int), .int .u64 ((word (p) 1 : Nat) : Int), .int .u64 ((word (p) 2 : Nat) : Int), .int .u64 ((word (p) 3 : Nat) : Int)], .func (.func 169) #[] #[.pointer (some ⟨w.heap.size + 1 + 1, 0, none⟩)], .int .u8 ((x % 256 : Nat) : Int), undef, undef], defers := [] }) ?assign ?body ?done ?stop
  case assign =>
    intro l x W K hK
    unfold byteArg
    gi_wp2
    exact hK
  case body =>
    rintro l pre x W ⟨⟨rfl, hcr, hfr⟩, hB⟩ _
    have hx : x % 256 < 256 := Nat.mod_lt _ (by decide)
    generalize hxc : x % 256 = c' at *
    gi_wp2
    exact ⟨(KeepsOthers.setCell _ _ _).from _, ⟨x, rfl, rfl, by rw [hxc]; exact World.cell?_setCell_same' _ _ _ (by rw [hcr]; rfl)⟩, hB.setCell (p := ⟨w.heap.size + 1, 0, none⟩) (by simp) _⟩
  case done =>
    rintro D ys W hD rfl ⟨⟨hne, _, _⟩, hB⟩ hK
    rw [hp] at hne
    cases hne
  case stop =>
    rintro D k pre W hD ⟨m, hm, hpre⟩ ⟨⟨x, rfl, rfl, hcr⟩, hB⟩ hK
    have hxc : x = c := by
      have h2 : x ∈ elems p 256 := by
        have : x ∈ elems p m := by rw [← hpre]; simp
        unfold elems at this ⊢
        simp at this ⊢
        exact ⟨by omega, this.2⟩
      rw [hp] at h2
      simpa using h2
    subst hxc
    rw [Nat.mod_eq_of_lt hc256] at hcr
    gi_wp2
    refine ⟨by simp, .inl ⟨_, _, rfl, run_takeDeferred hK, ?_⟩⟩
    have hc5 := cell_kept hcr (grownBy_putObj' _ D (.deferred none)) (fun r e => by cases e; exact ⟨_, hK, rfl⟩)
    refine ⟨.int .i64 (x : Int), ?_, rfl, hB.trans (belowK_b (w := w) (Nat.le_refl _) W D _ _ (by simp at hD; omega) hK rfl rfl)⟩
    simp [results, Tryz.f99, go_sem, hc5]

/-- sets.Least of a set of one byte. -/
theorem least_go (p : Nat → Bool) (c : Nat) (hp : elems p 256 = [c]) (w : World) (hT : TabAt 1 Lib.deBruijn64tab w) (hw0 : 1 < w.heap.size) :
    Calls Tryz.prog 99 #[.agg #[.int .u64 ((word (p) 0 : Nat) : Int), .int .u64 ((word (p) 1 : Nat) : Int), .int .u64 ((word (p) 2 : Nat) : Int), .int .u64 ((word (p) 3 : Nat) : Int)]] w fun e W' => e = .returned (.int .i64 (c : Int)) ∧ Below w.heap.size w W' :=
  callsIn_wide.1 (least_in 3 (Nat.le_refl _) p c hp w hT hw0)

end Go.Proofs.YtffkppoidollnaaGreatDoor
namespace Go.Proofs.YtffkppoidollnaaGreatDoor
open Go.RowKit
set_option linter.unusedSimpArgs false
set_option linter.unusedVariables false
set_option maxRecDepth 100000

end Go.Proofs.YtffkppoidollnaaGreatDoor
namespace Go.Proofs.YtffkppoidollnaaGreatDoor
open Go.RowKit
set_option linter.unusedSimpArgs false
set_option linter.unusedVariables false
set_option maxRecDepth 100000

/-- A row of lexemes that may be read. -/
def LexRow (w : World) (v : Value) (L : List Lex) : Prop :=
  ∃ A cap, v = .slice A L.length cap ∧ ∀ k x, L[k]? = some x → ∃ g, A = some ⟨g, 0, none⟩ ∧
    w.cell? ⟨g, k * 8, none⟩ = some (.int .i64 x.kind) ∧ w.cell? ⟨g, k * 8 + 1, none⟩ = some (.int .i64 x.place) ∧
    w.cell? ⟨g, k * 8 + 2, none⟩ = some (.int .u64 ((word x.set 0 : Nat) : Int)) ∧ w.cell? ⟨g, k * 8 + 2 + 1, none⟩ = some (.int .u64 ((word x.set 1 : Nat) : Int)) ∧ w.cell? ⟨g, k * 8 + 2 + 2, none⟩ = some (.int .u64 ((word x.set 2 : Nat) : Int)) ∧ w.cell? ⟨g, k * 8 + 2 + 3, none⟩ = some (.int .u64 ((word x.set 3 : Nat) : Int)) ∧
    w.cell? ⟨g, k * 8 + 6, none⟩ = some (.int .i64 x.lo) ∧ w.cell? ⟨g, k * 8 + 7, none⟩ = some (.int .i64 x.hi)

theorem lexCells_at : ∀ (L : List Lex) (k : Nat) (x : Lex), L[k]? = some x → ∀ j, j < 8 → (lexCells L)[k * 8 + j]? = (lexCell x)[j]?
  | [], k, x, h, j, hj => by simp at h
  | y :: L, 0, x, h, j, hj => by
    have e : y = x := by simpa using h
    subst e
    have e2 : lexCells (y :: L) = lexCell y ++ lexCells L := by simp [lexCells]
    rw [e2, Nat.zero_mul, Nat.zero_add, List.getElem?_append_left (by simpa [lexCell] using hj)]
  | y :: L, k + 1, x, h, j, hj => by
    have e2 : lexCells (y :: L) = lexCell y ++ lexCells L := by simp [lexCells]
    have hl : (lexCell y).length = 8 := by simp [lexCell]
    rw [e2, List.getElem?_append_right (by omega), hl, show (k + 1) * 8 + j - 8 = k * 8 + j by omega]
    exact lexCells_at L k x (by simpa using h) j hj

theorem lexRow_of {w : World} {base : Nat} {v : Value} {L : List Lex} (h : w.ownsRow base 116 8 v L.length (lexCells L)) : LexRow w v L := by
  obtain ⟨A, cap, hv⟩ := own_slice h
  refine ⟨A, cap, hv, fun k x hx => ?_⟩
  have hpos : 0 < L.length := by
    have := (List.getElem?_eq_some_iff.mp hx).1
    omega
  obtain ⟨g, cap', hv', hbase, hg⟩ := own_form h hpos
  have hA : A = some ⟨g, 0, none⟩ := by rw [hv] at hv'; exact (Value.slice.inj hv').1
  have hc := h.cells (g := g) (by rw [hv']; rfl)
  have hat : ∀ j u, j < 8 → (lexCell x)[j]? = some u → w.cell? ⟨g, k * 8 + j, none⟩ = some u := fun j u hj hu => by
    have := hc (k * 8 + j) u ((lexCells_at L k x hx j hj).trans hu)
    have e : (⟨g, 0, none⟩ : Addr).add (k * 8 + j) = ⟨g, k * 8 + j, none⟩ := by
      rcases Nat.eq_zero_or_pos (k * 8 + j) with hz | hz
      · rw [hz]; rfl
      · have h1 : ¬ (k * 8 = 0 ∧ j = 0) := by omega
        simp [Addr.add, h1]
    exact e ▸ this
  exact ⟨g, hA, hat 0 _ (by decide) rfl, hat 1 _ (by decide) rfl, hat 2 _ (by decide) rfl, hat 3 _ (by decide) rfl, hat 4 _ (by decide) rfl, hat 5 _ (by decide) rfl, hat 6 _ (by decide) rfl, hat 7 _ (by decide) rfl⟩

end Go.Proofs.YtffkppoidollnaaGreatDoor
namespace Go.Proofs.YtffkppoidollnaaGreatDoor
open Go.RowKit
set_option linter.unusedSimpArgs false
set_option linter.unusedVariables false
set_option maxRecDepth 100000

/-- The cells of blocks of P are as they were. -/
def KeepP (P : Nat → Prop) (w1 w2 : World) : Prop := ∀ b' o', P b' → w2.cell? ⟨b', o', none⟩ = w1.cell? ⟨b', o', none⟩
theorem cell_heap {w w' : World} {b o : Nat} (h : w'.heap[b]? = w.heap[b]?) : w'.cell? ⟨b, o, none⟩ = w.cell? ⟨b, o, none⟩ := by
  simp only [World.cell?, h]
theorem KeepP.refl (P : Nat → Prop) (w : World) : KeepP P w w := fun _ _ _ => rfl
theorem KeepP.start (P : Nat → Prop) (w : World) : KeepP P w w.drew := fun _ _ _ => rfl
theorem KeepP.drew {P : Nat → Prop} {w1 w2 : World} (h : KeepP P w1 w2) : KeepP P w1 w2.drew := h
theorem KeepP.by {P : Nat → Prop} {w1 w2 w3 : World} (h : KeepP P w1 w2) (hk : ∀ b, P b → w3.heap[b]? = w2.heap[b]?) : KeepP P w1 w3 := fun b' o' h' => (cell_heap (hk b' h')).trans (h b' o' h')
theorem KeepP.alloc {P : Nat → Prop} {w1 w2 : World} (h : KeepP P w1 w2) (hP : ∀ b, P b → b < w2.heap.size) (o : Obj) : KeepP P w1 (w2.alloc o) := h.by fun b hb => Below.heap_alloc w2 o b (hP b hb)
theorem KeepP.below {P : Nat → Prop} {w1 w2 w3 : World} (h : KeepP P w1 w2) (hB : Below w2.heap.size w2 w3) (hP : ∀ b, P b → b < w2.heap.size) : KeepP P w1 w3 := h.by fun b hb => hB.block b (hP b hb)
theorem KeepP.moves {P : Nat → Prop} {base : Nat} {S S2 : Nat → Prop} {w1 w2 w3 : World} (h : KeepP P w1 w2) (hv : Moves base S w2 S2 w3) (hP : ∀ b, P b → b < w2.heap.size ∧ ¬ S b) : KeepP P w1 w3 := h.by fun b hb => hv.kept b (hP b hb).1 (hP b hb).2
theorem KeepP.grown {P : Nat → Prop} {w1 w2 w3 : World} {row : Option Nat} (h : KeepP P w1 w2) (hg : w2.grownBy w3 row) (hP : ∀ b, P b → b < w2.heap.size ∧ some b ≠ row) : KeepP P w1 w3 := h.by fun b hb => hg.block b (hP b hb).1 (hP b hb).2
theorem KeepP.set {P : Nat → Prop} {w1 w2 : World} (h : KeepP P w1 w2) {p : Addr} (hP : ∀ b, P b → b ≠ p.block) (u : Value) : KeepP P w1 (w2.setCell p u) := h.by fun b hb => Below.heap_setCell w2 p u b (hP b hb)
theorem two_of {Q : Nat → Prop} {p q : Nat} (hp : Q p) (hq : Q q) : ∀ b, b = p ∨ b = q → Q b := by
  rintro b (rfl | rfl)
  · exact hp
  · exact hq
end Go.Proofs.YtffkppoidollnaaGreatDoor
namespace Go.Proofs.YtffkppoidollnaaGreatDoor
set_option linter.unusedSimpArgs false
set_option linter.unusedVariables false

theorem lexS_dot {bs : List Nat} {i : Nat} (h : byteAt bs i = 46) : lexS bs i = .ok (⟨1, i, dotSet, 0, 0⟩, i + 1) := by
  unfold lexS; rw [if_pos h]
theorem lexS_esc {bs : List Nat} {i c j : Nat} (h : byteAt bs i = 92) (he : escS bs i = some (c, j)) : lexS bs i = .ok (⟨1, i, among [c] 1, 0, 0⟩, j) := by
  unfold lexS; rw [if_neg (by omega), if_pos h, he]
theorem lexS_esc_no {bs : List Nat} {i : Nat} (h : byteAt bs i = 92) (he : escS bs i = none) : lexS bs i = .error (14, i) := by
  unfold lexS; rw [if_neg (by omega), if_pos h, he]
theorem lexS_class {bs : List Nat} {i : Nat} {p : Nat → Bool} {j : Nat} (h : byteAt bs i = 91) (he : readS bs i = .ok (p, j)) : lexS bs i = .ok (⟨1, i, p, 0, 0⟩, j) := by
  unfold lexS; rw [if_neg (by omega), if_neg (by omega), if_pos h, he]
theorem lexS_class_no {bs : List Nat} {i : Nat} {e : Wrong} (h : byteAt bs i = 91) (he : readS bs i = .error e) : lexS bs i = .error e := by
  unfold lexS; rw [if_neg (by omega), if_neg (by omega), if_pos h, he]
theorem lexS_rep {bs : List Nat} {i : Nat} (h : byteAt bs i = 123) : lexS bs i = repS bs i := by
  unfold lexS; rw [if_neg (by omega), if_neg (by omega), if_neg (by omega), if_pos h]
theorem lexS_form {bs : List Nat} {i : Nat} (h : byteAt bs i = 93 ∨ byteAt bs i = 125 ∨ byteAt bs i = 10) : lexS bs i = .error (3, i) := by
  unfold lexS; rw [if_neg (by omega), if_neg (by omega), if_neg (by omega), if_neg (by omega), if_pos h]
/-- A byte that next leaves to sign. -/
def Common (c : Nat) : Prop := c ≠ 46 ∧ c ≠ 92 ∧ c ≠ 91 ∧ c ≠ 123 ∧ c ≠ 93 ∧ c ≠ 125 ∧ c ≠ 10
theorem lexS_sign {bs : List Nat} {i : Nat} (h : Common (byteAt bs i)) (hk : signKind (byteAt bs i) ≠ 0) : lexS bs i = .ok (⟨signKind (byteAt bs i), i, noSet, 0, 0⟩, i + 1) := by
  obtain ⟨h1, h2, h3, h4, h5, h6, h7⟩ := h
  unfold lexS; rw [if_neg h1, if_neg h2, if_neg h3, if_neg h4, if_neg (by omega), if_pos hk]
theorem lexS_own {bs : List Nat} {i : Nat} (h : Common (byteAt bs i)) (hk : signKind (byteAt bs i) = 0) : lexS bs i = .ok (⟨1, i, among [byteAt bs i] 1, 0, 0⟩, i + 1) := by
  obtain ⟨h1, h2, h3, h4, h5, h6, h7⟩ := h
  unfold lexS; rw [if_neg h1, if_neg h2, if_neg h3, if_neg h4, if_neg (by omega), if_neg (by omega)]

end Go.Proofs.YtffkppoidollnaaGreatDoor
namespace Go.Proofs.YtffkppoidollnaaGreatDoor
open Go.RowKit
set_option linter.unusedSimpArgs false
set_option linter.unusedVariables false
set_option maxRecDepth 100000

/-- What is wrong with lexemes ahead of all reading. -/
def readyS (L : List Lex) : Int × Int := if L.all rightS = false then (6, 0) else if h : 1024 < L.length then (4, (L[1024]).place) else (0, 0)
theorem readyS_bad {L : List Lex} {k : Nat} {x : Lex} (h : L[k]? = some x) (hx : rightS x = false) : readyS L = (6, 0) := by
  refine if_pos ?_
  cases ha : L.all rightS
  · rfl
  · have := List.all_eq_true.1 ha x (List.mem_of_getElem? h)
    rw [hx] at this
    cases this
theorem all_right {L : List Lex} (h : ∀ (k : Nat) x, L[k]? = some x → rightS x = true) : L.all rightS = true := List.all_eq_true.2 fun x hx => by
  obtain ⟨k, hk, rfl⟩ := List.mem_iff_getElem.1 hx
  exact h k _ (List.getElem?_eq_getElem hk)
theorem readyS_ok {L : List Lex} (h : L.all rightS = true) (hl : L.length ≤ 1024) : readyS L = (0, 0) := by
  unfold readyS
  rw [if_neg (by rw [h]; decide), dif_neg (by omega)]
theorem readyS_long {L : List Lex} {x : Lex} (h : L.all rightS = true) (hx : L[1024]? = some x) : readyS L = (4, x.place) := by
  obtain ⟨hl, rfl⟩ := List.getElem?_eq_some_iff.1 hx
  unfold readyS
  rw [if_neg (by rw [h]; decide), dif_pos hl]

theorem ret_badv {fn : Func} {t : Tmp} (h : fn.results = #[.cell t 60]) {tmps : Array Value} {w : World} {g : Nat} {a b : Value} (hp : tmps.getD t undef = .pointer (some ⟨g, 0, none⟩)) (hb : Blk w g 60 #[a, b]) :
    (results fn tmps).run Tryz.prog w = .ok (.agg #[a, b]) w :=
  results_cell_row h tmps w g _ _ _ _ hp hb Tryz.underlying60 rfl (by kernel_rfl)
set_option maxHeartbeats 2000000 in
theorem ready_go (A : Option Addr) (cap : Nat) (L : List Lex) (w : World) (hA : LexsAt w w.heap.size A L) (hlen : L.length ≤ 140737488355328) :
    Calls Tryz.prog 119 #[.slice A L.length cap] w fun e w' => e = .returned (.agg #[.int .i64 (readyS L).1, .int .i64 (readyS L).2]) ∧ Below w.heap.size w w' := by
  have HA := Lib.hid hA
  have hb0 : Below w.heap.size w (w.alloc (.cells #[.int .i64 0, .int .i64 0] 60)) := (Below.refl _ _).alloc (Nat.le_refl _) _
  have HB0 := Lib.hid hb0
  have HZ0 := Lib.hid (Blk.new w 60 #[.int .i64 0, .int .i64 0])
  clear hA hb0
  go_enter Tryz.func119, Tryz.ntmps119
  go_wp2
  go_loopw [7] (fun i wr => ∃ k : Nat, i = .int .i64 (k : Int) ∧ k ≤ L.length ∧ Hid (Below w.heap.size w wr) ∧ Hid (Blk wr w.heap.size 60 #[.int .i64 0, .int .i64 0]) ∧ Hid (∀ j x, j < k → L[j]? = some x → rightS x = true)) (fun i _ => L.length - (intOf i).toNat)
  case atStart => exact ⟨0, rfl, Nat.zero_le _, HB0, HZ0, Lib.hid (fun j x hj => by omega)⟩
  case round =>
    clear HB0 HZ0
    obtain ⟨k, rfl, hk, HB, HZ, HR⟩ := hrel
    by_cases hlt : k < L.length
    · obtain ⟨x, hx⟩ : ∃ x, L[k]? = some x := ⟨_, List.getElem?_eq_getElem hlt⟩
      obtain ⟨b, o, rfl, hbl, hc⟩ := HA.out (by omega)
      have hbl' : b < wr.heap.size := Nat.lt_of_lt_of_le hbl HB.out.size
      obtain ⟨c0, c1, c2, c3, c4, c5, c6, c7⟩ := ((HA.out.below HB.out) (by omega)).elim fun b' h => h.elim fun o' h => by
        obtain ⟨e, _, h⟩ := h
        obtain ⟨rfl, rfl⟩ : b = b' ∧ o = o' := by simpa using e
        exact h k x hx
      clear hc
      have Hx := Lib.hid hx
      have hdl : (k : Int) < (L.length : Int) := by omega
      have HZx := Lib.hid (HZ.out.alloc (.cells #[.int .i64 x.kind, .int .i64 x.place, .int .u64 ((word (x.set) 0 : Nat) : Int), .int .u64 ((word (x.set) 1 : Nat) : Int), .int .u64 ((word (x.set) 2 : Nat) : Int), .int .u64 ((word (x.set) 3 : Nat) : Int), .int .i64 x.lo, .int .i64 x.hi] 116))
      have HBx := Lib.hid (HB.out.alloc HB.out.size (.cells #[.int .i64 x.kind, .int .i64 x.place, .int .u64 ((word (x.set) 0 : Nat) : Int), .int .u64 ((word (x.set) 1 : Nat) : Int), .int .u64 ((word (x.set) 2 : Nat) : Int), .int .u64 ((word (x.set) 3 : Nat) : Int), .int .i64 x.lo, .int .i64 x.hi] 116))
      clear hx
      go_wp2_with fail
      refine (right_go _ _ _ _ _ _ _ _ _).mono ?_
      rintro e w1 ⟨rfl, hb1⟩
      have HZ1 := Lib.hid (HZx.out.below hb1 HZx.out.lt)
      have HB1 := Lib.hid (HBx.out.trans (hb1.mono HBx.out.size))
      obtain ⟨b0, b1, f0, f1⟩ := HZ1.out.c2
      clear hb1 c0 c1 c2 c3 c4 c5 c6 c7
      cases hr : rightS x
      · have hr' := hr
        unfold rightS at hr'
        rw [hr']
        have HV := Lib.hid (readyS_bad Hx.out hr)
        clear hr hr'
        go_wp2
        go_light
        rw [HV.out]
        exact bodyPost_ret (ret_badv Tryz.results119 rfl HZ1.out.set2) rfl ⟨rfl, below_set2 HB1.out (Nat.le_refl _) _ _⟩
      · have hr' := hr
        unfold rightS at hr'
        rw [hr']
        have Hr := Lib.hid hr
        clear hr hr'
        go_wp2
        go_roundw
        case rel => exact ⟨k + 1, by go_num, by omega, HB1, HZ1, Lib.hid (fun j y hj hy => by
          rcases Nat.lt_or_ge j k with h | h
          · exact HR.out j y h hy
          · obtain rfl : j = k := by omega
            have := Hx.out.symm.trans hy
            obtain rfl : x = y := by simpa using this
            exact Hr.out)⟩
        case measure => simp [intOf]; omega
    · have hdl : ¬ (k : Int) < (L.length : Int) := by omega
      have Hall := Lib.hid (all_right (L := L) (fun j x hx => HR.out j x (by have := (List.getElem?_eq_some_iff.1 hx).1; omega) hx))
      obtain ⟨b0, b1, f0, f1⟩ := HZ.out.c2
      by_cases h1024 : L.length ≤ 1024
      · have HV := Lib.hid (readyS_ok Hall.out h1024)
        have hd : ¬ (1024 : Int) < (L.length : Int) := by omega
        clear h1024
        go_wp2
        go_light
        rw [HV.out]
        exact bodyPost_ret (ret_badv Tryz.results119 rfl HZ.out.set2) rfl ⟨rfl, below_set2 HB.out (Nat.le_refl _) _ _⟩
      · obtain ⟨x, hx⟩ : ∃ x, L[1024]? = some x := ⟨_, List.getElem?_eq_getElem (by omega)⟩
        have HV := Lib.hid (readyS_long Hall.out hx)
        have hd : (1024 : Int) < (L.length : Int) := by omega
        obtain ⟨b, o, rfl, hbl, hc⟩ := HA.out (by omega)
        obtain ⟨_, c1, _⟩ := ((HA.out.below HB.out) (by omega)).elim fun b' h => h.elim fun o' h => by
          obtain ⟨e, _, h⟩ := h
          obtain ⟨rfl, rfl⟩ : b = b' ∧ o = o' := by simpa using e
          exact h 1024 x hx
        have c1' : wr.cell? ⟨b, o + 8193, none⟩ = some (.int .i64 x.place) := c1
        clear h1024 hc hx c1
        go_wp2
        go_light
        rw [HV.out]
        exact bodyPost_ret (ret_badv Tryz.results119 rfl HZ.out.set2) rfl ⟨rfl, below_set2 HB.out (Nat.le_refl _) _ _⟩

end Go.Proofs.YtffkppoidollnaaGreatDoor
namespace Go.Proofs.YtffkppoidollnaaGreatDoor
open Go.RowKit
set_option linter.unusedSimpArgs false
set_option linter.unusedVariables false
set_option maxRecDepth 100000

theorem ret_tree {fn : Func} {t2 t3 : Tmp} (h : fn.results = #[.cell t2 39, .cell t3 60]) {tmps : Array Value} {w : World} {g g' : Nat} {a0 a1 a2 a3 a4 a5 a6 a7 x y : Value}
    (hp : tmps.getD t2 undef = .pointer (some ⟨g, 0, none⟩)) (hp' : tmps.getD t3 undef = .pointer (some ⟨g', 0, none⟩)) (hb : Blk w g 39 #[a0, a1, a2, a3, a4, a5, a6, a7]) (hb' : Blk w g' 60 #[x, y]) :
    (results fn tmps).run Tryz.prog w = .ok (.tuple #[.agg #[a0, a1, a2, a3, a4, a5, a6, a7], .agg #[x, y]]) w := by
  have h1 := run_loadVar_row (P := Tryz.prog) w g 39 39 #[a0, a1, a2, a3, a4, a5, a6, a7] (0, 0) _ hb Tryz.underlying39 rfl (by kernel_rfl)
  have h2 := run_loadVar_row (P := Tryz.prog) w g' 60 60 #[x, y] (0, 0) _ hb' Tryz.underlying60 rfl (by kernel_rfl)
  simp only [results, h]
  simp only [Array.getD_eq_getD_getElem?] at hp hp'
  simp [Sem.run_bind, hp, hp', asAddr, h1, h2, Result.andThen]
/-- A tree, or what is wrong. -/
def TreeOut (r : Except Wrong Nd) (w : World) (e : Ending) (w' : World) : Prop :=
  match r with
  | .ok x => ∃ B cap, e = .returned (.tuple #[ndV x B cap, .agg #[.int .i64 0, .int .i64 0]]) ∧ Below w.heap.size w w' ∧ x.kids.len ≤ cap ∧ TreesAt w' (fun b => w.heap.size ≤ b) x.kids B
  | .error (k, q) => e = .returned (.tuple #[zeroN, .agg #[.int .i64 k, .int .i64 q]]) ∧ Below w.heap.size w w'
theorem lexemesS_bad {L : List Lex} (h : (readyS L).1 ≠ 0) : lexemesS L = .error (readyS L) := by
  unfold readyS at h ⊢
  unfold lexemesS
  by_cases h1 : L.all rightS = false
  · rw [if_pos h1, if_pos h1]
  · rw [if_neg h1, if_neg h1]
    by_cases h2 : 1024 < L.length
    · rw [dif_pos h2, dif_pos h2]
    · rw [if_neg h1, dif_neg h2] at h
      exact absurd rfl h
theorem readyS_zero {L : List Lex} (h : (readyS L).1 = 0) : readyS L = (0, 0) ∧ L.all rightS = true ∧ L.length ≤ 1024 := by
  unfold readyS at h ⊢
  by_cases h1 : L.all rightS = false
  · rw [if_pos h1] at h; cases h
  · by_cases h2 : 1024 < L.length
    · rw [if_neg h1, dif_pos h2] at h; cases h
    · rw [if_neg h1, dif_neg h2]
      exact ⟨rfl, by simpa using h1, by omega⟩
theorem lexemesS_ok {L : List Lex} (h : L.all rightS = true) (hl : L.length ≤ 1024) : lexemesS L = match altG (3 * L.length + 3) [] [] L with
    | .error e => .error e
    | .ok (x, _) => .ok x := by
  unfold lexemesS
  rw [if_neg (by rw [h]; decide), dif_neg (by omega)]
  rfl

set_option maxHeartbeats 4000000 in
theorem lexemes_go (A : Option Addr) (cap : Nat) (L : List Lex) (w : World) (hA : LexsAt w w.heap.size A L) (hlen : L.length ≤ 140737488355328) (hcap : L.length ≤ cap) :
    Calls Tryz.prog 90 #[.slice A L.length cap] w (TreeOut (lexemesS L) w) := by
  have hmf : ∀ (fn : Fn) (first cap : Array Value) (w : World), (Instr.makeFunc fn first cap).run Tryz.prog w = .ok (.func fn first cap) w := fun _ _ _ _ => rfl
  have hb2 : Below w.heap.size w ((w.alloc (.cells #[.int .i64 0, .int .u64 0, .int .u64 0, .int .u64 0, .int .u64 0, .slice none 0 0, .int .i64 0, .int .i64 0] 39)).alloc (.cells #[.int .i64 0, .int .i64 0] 60)) := ((Below.refl _ _).alloc (Nat.le_refl _) _).alloc (by simp) _
  have HB2 := Lib.hid hb2
  have HG2 := Lib.hid (show Blk ((w.alloc (.cells #[.int .i64 0, .int .u64 0, .int .u64 0, .int .u64 0, .int .u64 0, .slice none 0 0, .int .i64 0, .int .i64 0] 39)).alloc (.cells #[.int .i64 0, .int .i64 0] 60)) w.heap.size 39 _ from (Blk.new w 39 #[.int .i64 0, .int .u64 0, .int .u64 0, .int .u64 0, .int .u64 0, .slice none 0 0, .int .i64 0, .int .i64 0]).alloc _)
  have HH2 := Lib.hid (show Blk ((w.alloc (.cells #[.int .i64 0, .int .u64 0, .int .u64 0, .int .u64 0, .int .u64 0, .slice none 0 0, .int .i64 0, .int .i64 0] 39)).alloc (.cells #[.int .i64 0, .int .i64 0] 60)) (w.heap.size + 1) 60 #[.int .i64 0, .int .i64 0] from Blk.new_at (by simp))
  have HA := Lib.hid hA
  have hz2 : ((w.alloc (.cells #[.int .i64 0, .int .u64 0, .int .u64 0, .int .u64 0, .int .u64 0, .slice none 0 0, .int .i64 0, .int .i64 0] 39)).alloc (.cells #[.int .i64 0, .int .i64 0] 60)).heap.size = w.heap.size + 2 := by simp
  have HRd := Lib.hid (ready_go A cap L _ ((hA.below hb2).more (by omega)) hlen)
  clear hb2 hA hz2
  go_enter_defers Tryz.func90, Tryz.ntmps90
  go_wp2_with fail
  refine HRd.out.mono ?_
  rintro e w3 ⟨rfl, hb3⟩
  have HB3 := Lib.hid (HB2.out.trans (hb3.mono HB2.out.size))
  have hG3 := HG2.out.below hb3 HG2.out.lt
  have hH3 := HH2.out.below hb3 HH2.out.lt
  have HG3 := Lib.hid hG3
  have HH3 := Lib.hid hH3
  have hne1 : w.heap.size ≠ w3.heap.size := by have := hG3.lt; omega
  have hne2 : w.heap.size + 1 ≠ w3.heap.size := by have := hH3.lt; omega
  have hlt1 : w.heap.size < w3.heap.size := hG3.lt
  have hlt2 : w.heap.size + 1 < w3.heap.size := hH3.lt
  by_cases h0 : (readyS L).1 = 0
  · obtain ⟨h1, h2, h3⟩ := readyS_zero h0
    have HV := Lib.hid (lexemesS_ok h2 h3)
    rw [h1]
    have hb5 : Below w3.heap.size w3 ((w3.alloc (.cells #[.int .i64 0, .int .i64 0] 60)).alloc (.cells #[.slice A L.length cap, .slice none 0 0] 146)) := ((Below.refl _ _).alloc (Nat.le_refl _) _).alloc (by simp) _
    have hP5 : PAt ((w3.alloc (.cells #[.int .i64 0, .int .i64 0] 60)).alloc (.cells #[.slice A L.length cap, .slice none 0 0] 146)) (w3.heap.size + 1) (.slice none 0 0) L 0 :=
      ⟨A, cap, [], Blk.new_at (by simp), hcap, (HA.out.below (HB3.out.trans (hb5.mono HB3.out.size))).more (by omega), World.ownsRow_nil _ _ _ _⟩
    have HC := Lib.hid ((reads_go (3 * L.length + 3)).1 (w3.heap.size + 1) [] L _ (.slice none 0 0) hP5 (by omega) (by decide) (by omega))
    have HB5 := Lib.hid (HB3.out.trans (hb5.mono HB3.out.size))
    have HG5 := Lib.hid (hG3.below hb5 hlt1)
    have HH5 := Lib.hid (hH3.below hb5 hlt2)
    clear hb3 hG3 hH3 HRd HB2 HG2 HH2 h0 h1 h2 hb5 hP5 HG3 HH3
    go_wp2_with fail
    refine HC.out.mono ?_
    cases hx : altG (3 * L.length + 3) [] [] L with
    | error x =>
      obtain ⟨k, q⟩ := x
      rw [hx] at HV
      rintro e w6 ⟨rfl, hb6⟩
      have HV := Lib.hid (show lexemesS L = .error (k, q) from HV.out)
      have HB6 := Lib.hid (HB5.out.trans (hb6.mono (by omega)))
      have hG6 := HG5.out.below hb6 (by omega)
      have hH6 := HH5.out.below hb6 (by omega)
      dsimp only
      refine leaves_cons (f := 120) (args := #[.pointer (some ⟨w.heap.size, 0, none⟩), .pointer (some ⟨w.heap.size + 1, 0, none⟩)]) (by simp) (by simp [go_sem]) ?_
      refine (catch_bad w.heap.size (w.heap.size + 1) k q [] w6 hG6 hH6 (by omega)).mono ?_
      rintro e u' w7 ⟨rfl, rfl, hG7, hH7, hb7⟩
      dsimp only
      change Leaves Tryz.prog _ _ _ [] FrameMode.returning w7
      rw [HV.out]
      exact ⟨_, ret_tree Tryz.results90 rfl rfl hG7 hH7, rfl, HB6.out.trans (hb7 w.heap.size (Nat.le_refl _) (by omega))⟩
    | ok x =>
      obtain ⟨x, R⟩ := x
      rw [hx] at HV
      rintro e w6 ⟨v6, B, cap6, rfl, hP6, hS6, hc6, ht6⟩
      have HV := Lib.hid (show lexemesS L = .ok x from HV.out)
      have HB6 := Lib.hid (HB5.out.trans (hS6.1.mono (by omega)))
      have hG6 := HG5.out.below hS6.1 (by omega)
      have hH6 := HH5.out.below hS6.1 (by omega)
      have HT6 := Lib.hid (ht6.weak (Q := fun b => w3.heap.size + 2 ≤ b) (fun b hb _ => by have := hb.1; simp at this; omega))
      have y0 : w6.cell? ⟨w.heap.size, 0, none⟩ = some (.int .i64 0) := hG6.cell 0
      have y1 : w6.cell? ⟨w.heap.size, 1, none⟩ = some (.int .u64 0) := hG6.cell 1
      have y2 : w6.cell? ⟨w.heap.size, 2, none⟩ = some (.int .u64 0) := hG6.cell 2
      have y3 : w6.cell? ⟨w.heap.size, 3, none⟩ = some (.int .u64 0) := hG6.cell 3
      have y4 : w6.cell? ⟨w.heap.size, 4, none⟩ = some (.int .u64 0) := hG6.cell 4
      have y5 : w6.cell? ⟨w.heap.size, 5, none⟩ = some (.slice none 0 0) := hG6.cell 5
      have y6 : w6.cell? ⟨w.heap.size, 6, none⟩ = some (.int .i64 0) := hG6.cell 6
      have y7 : w6.cell? ⟨w.heap.size, 7, none⟩ = some (.int .i64 0) := hG6.cell 7
      have z0 := hG6.frozen 0
      have z1 := hG6.frozen 1
      have z2 := hG6.frozen 2
      have z3 := hG6.frozen 3
      have z4 := hG6.frozen 4
      have z5 := hG6.frozen 5
      have z6 := hG6.frozen 6
      have z7 := hG6.frozen 7
      obtain ⟨b0, b1, f0, f1⟩ := hH6.c2
      have HG6 := Lib.hid hG6
      have HH6 := Lib.hid hH6
      have hsz : w.heap.size + 1 ≤ w3.heap.size + 2 := by omega
      clear hP6 hS6 ht6 hG6 hH6 HC hx
      unfold ndV
      dsimp only
      go_wp2
      go_light
      have hg1 := only_put8 w6 w.heap.size (.int .i64 x.kind) (.int .u64 ((word x.set.testBit 0 : Nat) : Int)) (.int .u64 ((word x.set.testBit 1 : Nat) : Int)) (.int .u64 ((word x.set.testBit 2 : Nat) : Int)) (.int .u64 ((word x.set.testBit 3 : Nat) : Int)) (.slice B x.kids.len cap6) (.int .i64 x.lo) (.int .i64 x.hi)
      have ht7 := TreesAt.keep (Q := fun b => w3.heap.size + 2 ≤ b) (fun b o (hb : w3.heap.size + 2 ≤ b) hl => World.cell?_of_block (hg1.block b hl (by simp; omega))) (fun b hb _ => hb) HT6.out
      refine leaves_cons (f := 120) (args := #[.pointer (some ⟨w.heap.size, 0, none⟩), .pointer (some ⟨w.heap.size + 1, 0, none⟩)]) (by simp) (by simp [go_sem]) ?_
      refine (catch_idle w.heap.size (w.heap.size + 1) _).mono ?_
      rintro e u' w7 ⟨rfl, rfl, hw7⟩
      dsimp only
      change Leaves Tryz.prog _ _ _ [] FrameMode.returning w7
      rw [HV.out]
      have hg2 := only_set (only_set (only_refl ((((((((w6.setCell ⟨w.heap.size, 0, none⟩ (.int .i64 x.kind)).setCell ⟨w.heap.size, 1, none⟩ (.int .u64 ((word x.set.testBit 0 : Nat) : Int))).setCell ⟨w.heap.size, 2, none⟩ (.int .u64 ((word x.set.testBit 1 : Nat) : Int))).setCell ⟨w.heap.size, 3, none⟩ (.int .u64 ((word x.set.testBit 2 : Nat) : Int))).setCell ⟨w.heap.size, 4, none⟩ (.int .u64 ((word x.set.testBit 3 : Nat) : Int))).setCell ⟨w.heap.size, 5, none⟩ (.slice B x.kids.len cap6)).setCell ⟨w.heap.size, 6, none⟩ (.int .i64 x.lo)).setCell ⟨w.heap.size, 7, none⟩ (.int .i64 x.hi)) (some (w.heap.size + 1))) 0 (.int .i64 0)) 1 (.int .i64 0)
      have ht8 := TreesAt.keep (Q := fun b => w.heap.size ≤ b) (fun b o (hb : w3.heap.size + 2 ≤ b) hl => World.cell?_of_block (hg2.block b hl (by simp; omega))) (fun b (hb : w3.heap.size + 2 ≤ b) _ => by omega) ht7
      have hG7 := (HG6.out.put8 (.int .i64 x.kind) (.int .u64 ((word x.set.testBit 0 : Nat) : Int)) (.int .u64 ((word x.set.testBit 1 : Nat) : Int)) (.int .u64 ((word x.set.testBit 2 : Nat) : Int)) (.int .u64 ((word x.set.testBit 3 : Nat) : Int)) (.slice B x.kids.len cap6) (.int .i64 x.lo) (.int .i64 x.hi)).far2 (g' := w.heap.size + 1) (by omega) (.int .i64 0) (.int .i64 0)
      have hH7 := (HH6.out.past8 (g' := w.heap.size) (by omega) (.int .i64 x.kind) (.int .u64 ((word x.set.testBit 0 : Nat) : Int)) (.int .u64 ((word x.set.testBit 1 : Nat) : Int)) (.int .u64 ((word x.set.testBit 2 : Nat) : Int)) (.int .u64 ((word x.set.testBit 3 : Nat) : Int)) (.slice B x.kids.len cap6) (.int .i64 x.lo) (.int .i64 x.hi)).set2 (a' := .int .i64 0) (b' := .int .i64 0)
      have hb7 := below_set2 (below_put8 HB6.out (Nat.le_refl _) (.int .i64 x.kind) (.int .u64 ((word x.set.testBit 0 : Nat) : Int)) (.int .u64 ((word x.set.testBit 1 : Nat) : Int)) (.int .u64 ((word x.set.testBit 2 : Nat) : Int)) (.int .u64 ((word x.set.testBit 3 : Nat) : Int)) (.slice B x.kids.len cap6) (.int .i64 x.lo) (.int .i64 x.hi)) (Nat.le_succ w.heap.size) (.int .i64 0) (.int .i64 0)
      rw [← hw7] at ht8 hG7 hH7 hb7
      exact ⟨_, ret_tree Tryz.results90 rfl rfl hG7 hH7, B, cap6, rfl, hb7, hc6, ht8⟩
  · have hd : ((readyS L).1 != 0) = true := by simpa using h0
    have HV := Lib.hid (lexemesS_bad h0)
    have y0 : w3.cell? ⟨w.heap.size, 0, none⟩ = some (.int .i64 0) := hG3.cell 0
    have y1 : w3.cell? ⟨w.heap.size, 1, none⟩ = some (.int .u64 0) := hG3.cell 1
    have y2 : w3.cell? ⟨w.heap.size, 2, none⟩ = some (.int .u64 0) := hG3.cell 2
    have y3 : w3.cell? ⟨w.heap.size, 3, none⟩ = some (.int .u64 0) := hG3.cell 3
    have y4 : w3.cell? ⟨w.heap.size, 4, none⟩ = some (.int .u64 0) := hG3.cell 4
    have y5 : w3.cell? ⟨w.heap.size, 5, none⟩ = some (.slice none 0 0) := hG3.cell 5
    have y6 : w3.cell? ⟨w.heap.size, 6, none⟩ = some (.int .i64 0) := hG3.cell 6
    have y7 : w3.cell? ⟨w.heap.size, 7, none⟩ = some (.int .i64 0) := hG3.cell 7
    have z0 := hG3.frozen 0
    have z1 := hG3.frozen 1
    have z2 := hG3.frozen 2
    have z3 := hG3.frozen 3
    have z4 := hG3.frozen 4
    have z5 := hG3.frozen 5
    have z6 := hG3.frozen 6
    have z7 := hG3.frozen 7
    obtain ⟨b0, b1, f0, f1⟩ := hH3.c2
    clear hb3 hG3 hH3 HRd HB2 HG2 HH2 h0
    generalize readyS L = kq at *
    obtain ⟨k, q⟩ := kq
    dsimp only at hd ⊢
    go_wp2
    go_region
    all_goals go_wp2
    all_goals go_light
    rw [HV.out]
    exact ⟨_, ret_tree Tryz.results90 rfl rfl (((HG3.out.put8 _ _ _ _ _ _ _ _).far2 (by omega) _ _).alloc _).drew (((HH3.out.past8 (by omega) _ _ _ _ _ _ _ _).set2).alloc _).drew, rfl, ((below_set2 (below_put8 HB3.out (Nat.le_refl _) _ _ _ _ _ _ _ _) (by omega) _ _).alloc (by have := HB3.out.size; simpa [World.setCell] using this) _).drew⟩

end Go.Proofs.YtffkppoidollnaaGreatDoor
namespace Go.Proofs.YtffkppoidollnaaGreatDoor
open Go.RowKit
set_option linter.unusedSimpArgs false
set_option linter.unusedVariables false
set_option maxRecDepth 100000

theorem ret_link {fn : Func} {t : Tmp} (h : fn.results = #[.cell t 69]) {tmps : Array Value} {w : World} {g : Nat} {a b : Value} (hp : tmps.getD t undef = .pointer (some ⟨g, 0, none⟩)) (hb : Blk w g 69 #[a, b]) :
    (results fn tmps).run Tryz.prog w = .ok (.agg #[a, b]) w :=
  results_cell_row h tmps w g _ _ _ _ hp hb Tryz.underlying69 rfl (by kernel_rfl)

theorem fliplink_go (a b : Int) (w : World) :
    Calls Tryz.prog 49 #[.agg #[.int .i64 a, .int .i64 b]] w fun e w' => e = .returned (.agg #[.int .i64 b, .int .i64 a]) ∧ Below w.heap.size w w' := by
  have n0 := (Blk.new w 69 #[.int .i64 a, .int .i64 b]).cell 0
  have n1 := (Blk.new w 69 #[.int .i64 a, .int .i64 b]).cell 1
  have hb : Below w.heap.size w ((w.alloc (.cells #[.int .i64 a, .int .i64 b] 69)).alloc (.cells #[.int .i64 b, .int .i64 a] 69)) := ((Below.refl _ _).alloc (Nat.le_refl _) _).alloc (by simp) _
  have HB := Lib.hid hb
  clear hb
  go_enter Tryz.func49, Tryz.ntmps49
  go_wp2_with fail
  refine bodyPost_ret (ret_link Tryz.results49 rfl (Blk.new_at (by simp))) rfl ⟨rfl, HB.out⟩

theorem ret_edge {fn : Func} {t : Tmp} (h : fn.results = #[.cell t 73]) {tmps : Array Value} {w : World} {g : Nat} {a b c d e f : Value} (hp : tmps.getD t undef = .pointer (some ⟨g, 0, none⟩)) (hb : Blk w g 73 #[a, b, c, d, e, f]) :
    (results fn tmps).run Tryz.prog w = .ok (.agg #[a, b, c, d, e, f]) w :=
  results_cell_row h tmps w g _ _ _ _ hp hb Tryz.underlying73 rfl (by kernel_rfl)

theorem flipedge_go (a b : Int) (s0 s1 s2 s3 : Int) (w : World) :
    Calls Tryz.prog 51 #[.agg #[.int .i64 a, .int .u64 s0, .int .u64 s1, .int .u64 s2, .int .u64 s3, .int .i64 b]] w fun e w' => e = .returned (.agg #[.int .i64 b, .int .u64 s0, .int .u64 s1, .int .u64 s2, .int .u64 s3, .int .i64 a]) ∧ Below w.heap.size w w' := by
  have hX := Blk.new w 73 #[.int .i64 a, .int .u64 s0, .int .u64 s1, .int .u64 s2, .int .u64 s3, .int .i64 b]
  have n0 := hX.cell 0
  have n1 := hX.cell 1
  have n2 := hX.cell 2
  have n3 := hX.cell 3
  have n4 := hX.cell 4
  have n5 := hX.cell 5
  have hb : Below w.heap.size w ((w.alloc (.cells #[.int .i64 a, .int .u64 s0, .int .u64 s1, .int .u64 s2, .int .u64 s3, .int .i64 b] 73)).alloc (.cells #[.int .i64 b, .int .u64 s0, .int .u64 s1, .int .u64 s2, .int .u64 s3, .int .i64 a] 73)) := ((Below.refl _ _).alloc (Nat.le_refl _) _).alloc (by simp) _
  have HB := Lib.hid hb
  clear hb hX
  go_enter Tryz.func51, Tryz.ntmps51
  go_wp2_with fail
  refine bodyPost_ret (ret_edge Tryz.results51 rfl (Blk.new_at (by simp))) rfl ⟨rfl, HB.out⟩
end Go.Proofs.YtffkppoidollnaaGreatDoor
namespace Go.Proofs.YtffkppoidollnaaGreatDoor
open Go.RowKit
set_option linter.unusedSimpArgs false
set_option linter.unusedVariables false
set_option maxRecDepth 100000

def linkI (p : Int × Int) : List Value := [.int .i64 p.1, .int .i64 p.2]
def linksI (l : List (Int × Int)) : List Value := l.flatMap linkI
def edgeI (p : Int × Nat × Int) : List Value := [.int .i64 p.1, .int .u64 ((word p.2.1.testBit 0 : Nat) : Int), .int .u64 ((word p.2.1.testBit 1 : Nat) : Int), .int .u64 ((word p.2.1.testBit 2 : Nat) : Int), .int .u64 ((word p.2.1.testBit 3 : Nat) : Int), .int .i64 p.2.2]
def edgesI (l : List (Int × Nat × Int)) : List Value := l.flatMap edgeI
def flipL (p : Int × Int) : Int × Int := (p.2, p.1)
def flipE (p : Int × Nat × Int) : Int × Nat × Int := (p.2.2, p.2.1, p.1)
set_option maxHeartbeats 4000000 in
theorem eachlink_go (L : List (Int × Int)) (A : Option Addr) (cap : Nat) (w : World) (hl : L.length ≤ 2000000) (hA : LinksAt w A L) :
    Calls Tryz.prog 48 #[.slice A L.length cap, .func (.func 49) #[] #[]] w fun e w' => ∃ u, e = .returned u ∧ w'.ownsRow w.heap.size 69 2 u L.length (linksI (L.map flipL)) ∧ Below w.heap.size w w' := by
  obtain ⟨i0, hi0, hz0, hz1, hz2⟩ := info_parts info_linkN
  have HA := Lib.hid hA
  clear hA
  go_enter Tryz.func48, Tryz.ntmps48
  go_wp2
  go_loopw [5, 10] (fun u i wr => ∃ k : Nat, i = .int .i64 (k : Int) ∧ k ≤ L.length ∧ Hid (wr.ownsRow w.heap.size 69 2 u k (linksI ((L.take k).map flipL)) ∧ Below w.heap.size w wr)) (fun _ i _ => L.length - (intOf i).toNat)
  case atStart => exact ⟨0, rfl, Nat.zero_le _, Lib.hid ⟨World.ownsRow_nil _ _ _ _, Below.refl _ _⟩⟩
  case round =>
    obtain ⟨k, rfl, hk, HR⟩ := hrel
    by_cases hlt : k < L.length
    · obtain ⟨p, hz⟩ : ∃ p, L[k]? = some p := ⟨_, List.getElem?_eq_getElem hlt⟩
      have HTk := Lib.hid (show linksI ((L.take (k + 1)).map flipL) = linksI ((L.take k).map flipL) ++ linkI (flipL p) by rw [List.take_add_one, hz]; simp [linksI])
      generalize linksI ((L.take k).map flipL) = xs at *
      obtain ⟨b, o, rfl, c0, c1⟩ := (HA.out.below HR.out.2) k p hz
      obtain ⟨x, y⟩ := p
      have hdl : (k : Int) < (L.length : Int) := by omega
      have hb2 : Below wr.heap.size wr (wr.alloc (.cells #[.int .i64 x, .int .i64 y] 69)) := (Below.refl _ _).alloc (Nat.le_refl _) _
      have HI := Lib.hid (fliplink_go x y (wr.alloc (.cells #[.int .i64 x, .int .i64 y] 69)))
      have HR2 := Lib.hid (own_below HR.out.1 hb2)
      have HB2 := Lib.hid (HR.out.2.trans (hb2.mono HR.out.2.size))
      clear hz hb2 HR
      go_wp2_with fail
      refine HI.out.mono ?_
      rintro e w3 ⟨rfl, hb3⟩
      have HR3 := Lib.hid (own_below HR2.out hb3)
      have HB3 := Lib.hid (HB2.out.trans (hb3.mono HB2.out.size))
      have hle := HB3.out.size
      have h63 : k + 1 ≤ maxLen := Nat.le_trans (by omega) (show 2000001 ≤ maxLen by decide)
      have hby : (k + 1) * 16 ≤ 140737488355328 := by omega
      clear hb3 HI HR2 HB2
      dsimp only
      go_wp2_with (at_builtin; refine wpList_append_lies _ rfl _ _ 22 rfl w.heap.size 69 i0 _ 2 16 Tryz.underlying22 hi0 hz0 hz1 hz2 rfl (by decide) u5 k xs rfl (HR3.out.alloc _) ⟨w3.heap.size, 0, none⟩ 1 1 [.int .i64 y, .int .i64 x] rfl rfl (World.news_of_block (Blk.new_at (cs := #[.int .i64 y, .int .i64 x]) (t := 69) (by simp))) (by simp [Value.oneCell']) (by decide) h63 hby (by simp; omega) (w3.heap.size + 1) (by simp) ?_; intro gg capg w5 hown5 hgrow5 hat5 hg5; have HA6 := Lib.hid (And.intro hown5 ((HB3.out.alloc hle _).grown hgrow5 (by simp; omega) (fun j e => (HR3.out.lt j e).1))); clear hown5 hgrow5 hat5)
      go_light
      go_roundw
      case rel => exact ⟨k + 1, by go_num, by omega, Lib.hid (by rw [HTk.out]; exact HA6.out)⟩
      case measure => simp [intOf]; omega
    · obtain rfl : k = L.length := by omega
      have hdl : ¬ ((L.length : Int) < (L.length : Int)) := by omega
      go_wp2
      go_light
      go_ret
      exact ⟨_, rfl, by have h := HR.out.1; rw [List.take_length] at h; exact h, HR.out.2⟩
set_option maxHeartbeats 4000000 in
theorem eachedge_go (L : List (Int × Nat × Int)) (A : Option Addr) (cap : Nat) (w : World) (hl : L.length ≤ 2000000) (hA : EdgesAt w A L) :
    Calls Tryz.prog 50 #[.slice A L.length cap, .func (.func 51) #[] #[]] w fun e w' => ∃ u, e = .returned u ∧ w'.ownsRow w.heap.size 73 6 u L.length (edgesI (L.map flipE)) ∧ Below w.heap.size w w' := by
  obtain ⟨i0, hi0, hz0, hz1, hz2⟩ := info_parts info_edgeN
  have HA := Lib.hid hA
  clear hA
  go_enter Tryz.func50, Tryz.ntmps50
  go_wp2
  go_loopw [5, 10] (fun u i wr => ∃ k : Nat, i = .int .i64 (k : Int) ∧ k ≤ L.length ∧ Hid (wr.ownsRow w.heap.size 73 6 u k (edgesI ((L.take k).map flipE)) ∧ Below w.heap.size w wr)) (fun _ i _ => L.length - (intOf i).toNat)
  case atStart => exact ⟨0, rfl, Nat.zero_le _, Lib.hid ⟨World.ownsRow_nil _ _ _ _, Below.refl _ _⟩⟩
  case round =>
    obtain ⟨k, rfl, hk, HR⟩ := hrel
    by_cases hlt : k < L.length
    · obtain ⟨p, hz⟩ : ∃ p, L[k]? = some p := ⟨_, List.getElem?_eq_getElem hlt⟩
      have HTk := Lib.hid (show edgesI ((L.take (k + 1)).map flipE) = edgesI ((L.take k).map flipE) ++ edgeI (flipE p) by rw [List.take_add_one, hz]; simp [edgesI])
      generalize edgesI ((L.take k).map flipE) = xs at *
      obtain ⟨b, o, rfl, c0, c1, c2, c3, c4, c5⟩ := (HA.out.below HR.out.2) k p hz
      obtain ⟨x, s, y⟩ := p
      have hdl : (k : Int) < (L.length : Int) := by omega
      have hb2 : Below wr.heap.size wr (wr.alloc (.cells #[.int .i64 x, .int .u64 ((word s.testBit 0 : Nat) : Int), .int .u64 ((word s.testBit 1 : Nat) : Int), .int .u64 ((word s.testBit 2 : Nat) : Int), .int .u64 ((word s.testBit 3 : Nat) : Int), .int .i64 y] 73)) := (Below.refl _ _).alloc (Nat.le_refl _) _
      have HI := Lib.hid (flipedge_go x y ((word s.testBit 0 : Nat) : Int) ((word s.testBit 1 : Nat) : Int) ((word s.testBit 2 : Nat) : Int) ((word s.testBit 3 : Nat) : Int) (wr.alloc (.cells #[.int .i64 x, .int .u64 ((word s.testBit 0 : Nat) : Int), .int .u64 ((word s.testBit 1 : Nat) : Int), .int .u64 ((word s.testBit 2 : Nat) : Int), .int .u64 ((word s.testBit 3 : Nat) : Int), .int .i64 y] 73)))
      have HR2 := Lib.hid (own_below HR.out.1 hb2)
      have HB2 := Lib.hid (HR.out.2.trans (hb2.mono HR.out.2.size))
      clear hz hb2 HR
      go_wp2_with fail
      refine HI.out.mono ?_
      rintro e w3 ⟨rfl, hb3⟩
      have HR3 := Lib.hid (own_below HR2.out hb3)
      have HB3 := Lib.hid (HB2.out.trans (hb3.mono HB2.out.size))
      have hle := HB3.out.size
      have h63 : k + 1 ≤ maxLen := Nat.le_trans (by omega) (show 2000001 ≤ maxLen by decide)
      have hby : (k + 1) * 48 ≤ 140737488355328 := by omega
      clear hb3 HI HR2 HB2
      dsimp only
      go_wp2_with (at_builtin; refine wpList_append_lies _ rfl _ _ 23 rfl w.heap.size 73 i0 _ 6 48 Tryz.underlying23 hi0 hz0 hz1 hz2 rfl (by decide) u5 k xs rfl (HR3.out.alloc _) ⟨w3.heap.size, 0, none⟩ 1 1 [.int .i64 y, .int .u64 ((word s.testBit 0 : Nat) : Int), .int .u64 ((word s.testBit 1 : Nat) : Int), .int .u64 ((word s.testBit 2 : Nat) : Int), .int .u64 ((word s.testBit 3 : Nat) : Int), .int .i64 x] rfl rfl (World.news_of_block (Blk.new_at (cs := #[.int .i64 y, .int .u64 ((word s.testBit 0 : Nat) : Int), .int .u64 ((word s.testBit 1 : Nat) : Int), .int .u64 ((word s.testBit 2 : Nat) : Int), .int .u64 ((word s.testBit 3 : Nat) : Int), .int .i64 x]) (t := 73) (by simp))) (by simp [Value.oneCell']) (by decide) h63 hby (by simp; omega) (w3.heap.size + 1) (by simp) ?_; intro gg capg w5 hown5 hgrow5 hat5 hg5; have HA6 := Lib.hid (And.intro hown5 ((HB3.out.alloc hle _).grown hgrow5 (by simp; omega) (fun j e => (HR3.out.lt j e).1))); clear hown5 hgrow5 hat5)
      go_light
      go_roundw
      case rel => exact ⟨k + 1, by go_num, by omega, Lib.hid (by rw [HTk.out]; exact HA6.out)⟩
      case measure => simp [intOf]; omega
    · obtain rfl : k = L.length := by omega
      have hdl : ¬ ((L.length : Int) < (L.length : Int)) := by omega
      go_wp2
      go_light
      go_ret
      exact ⟨_, rfl, by have h := HR.out.1; rw [List.take_length] at h; exact h, HR.out.2⟩
end Go.Proofs.YtffkppoidollnaaGreatDoor
namespace Go.Proofs.YtffkppoidollnaaGreatDoor
open Go.RowKit
set_option linter.unusedSimpArgs false
set_option linter.unusedVariables false
set_option maxRecDepth 100000

/-- What stands at a place when i rounds have turned a list from its two ends. -/
def revAt {α : Type} (l : List α) (i p : Nat) : Option α := if p < i ∨ l.length - i ≤ p then l[l.length - 1 - p]? else l[p]?
theorem revAt_zero {α : Type} (l : List α) {p : Nat} (hp : p < l.length) : revAt l 0 p = l[p]? := by
  unfold revAt
  rw [if_neg (by omega)]
theorem revAt_done {α : Type} (l : List α) {i p : Nat} (hp : p < l.length) (hi : ¬ i < l.length - 1 - i) : revAt l i p = l.reverse[p]? := by
  unfold revAt
  rw [List.getElem?_reverse hp]
  split
  · rfl
  · have : p = l.length - 1 - p := by omega
    rw [← this]
theorem revAt_step {α : Type} (l : List α) {i p : Nat} (hi : i < l.length - 1 - i) (hp : p < l.length) : revAt l (i + 1) p = if p = i then l[l.length - 1 - i]? else if p = l.length - 1 - i then l[i]? else revAt l i p := by
  unfold revAt
  by_cases h1 : p = i
  · subst h1
    rw [if_pos (by omega), if_pos rfl]
  · rw [if_neg h1]
    by_cases h2 : p = l.length - 1 - i
    · rw [if_pos (by omega), if_pos h2, h2]
      congr 1
      omega
    · rw [if_neg h2]
      by_cases h3 : p < i ∨ l.length - i ≤ p
      · rw [if_pos (by omega), if_pos h3]
      · rw [if_neg (by omega), if_neg h3]
theorem revAt_left {α : Type} (l : List α) {i : Nat} (hi : i < l.length - 1 - i) : revAt l i i = l[i]? := by
  unfold revAt
  rw [if_neg (by omega)]
theorem revAt_right {α : Type} (l : List α) {i : Nat} (hi : i < l.length - 1 - i) : revAt l i (l.length - 1 - i) = l[l.length - 1 - i]? := by
  unfold revAt
  rw [if_neg (by omega)]
/-- A row of bytes in a block of its own, some rounds turned. -/
def RevB (w0 : World) (g : Nat) (bs : List Nat) (i : Nat) (w : World) : Prop :=
  ∃ cur : Array Value, Blk w g 5 cur ∧ bs.length ≤ cur.size ∧ (∀ p, p < bs.length → cur[p]? = (revAt bs i p).map fun n : Nat => Value.int .u8 (n : Int)) ∧ w0.grownBy w (some g)
theorem RevB.swap {w0 w : World} {g i a b : Nat} {bs : List Nat} (h : RevB w0 g bs i w) (hi : i < bs.length - 1 - i) (ha : bs[i]? = some a) (hb : bs[bs.length - 1 - i]? = some b) :
    RevB w0 g bs (i + 1) ((w.setCell ⟨g, i, none⟩ (.int .u8 (b : Int))).setCell ⟨g, bs.length - 1 - i, none⟩ (.int .u8 (a : Int))) := by
  obtain ⟨cur, h1, h2, h3, h4⟩ := h
  refine ⟨_, (h1.set_ i _).set_ (bs.length - 1 - i) _, by simpa using h2, fun p hp => ?_, only_set (only_set h4 i _) _ _⟩
  rw [revAt_step bs hi hp, Array.getElem?_setIfInBounds, Array.getElem?_setIfInBounds]
  by_cases hpi : p = i
  · subst hpi
    rw [if_neg (by omega), if_pos rfl, if_pos rfl, hb]
    simp
    omega
  · by_cases hpj : p = bs.length - 1 - i
    · subst hpj
      rw [if_pos rfl, if_neg hpi, if_pos rfl, ha]
      simp
      omega
    · rw [if_neg (by omega), if_neg (by omega), if_neg hpi, if_neg hpj]
      exact h3 p hp
theorem RevB.drew {w0 w : World} {g i : Nat} {bs : List Nat} (h : RevB w0 g bs i w) : RevB w0 g bs i w.drew := by
  obtain ⟨cur, h1, h2, h3, h4⟩ := h
  exact ⟨cur, h1.drew, h2, h3, ⟨h4.os, h4.tape, h4.output, h4.size, h4.block⟩⟩
set_option maxHeartbeats 2000000 in
theorem revb_go (g cap : Nat) (bs : List Nat) (w : World) (h : RevB w g bs 0 w) (hl : bs.length ≤ 140737488355328) :
    Calls Tryz.prog 128 #[.slice (some ⟨g, 0, none⟩) bs.length cap] w fun e w' => e = .returned (.tuple #[]) ∧ ∃ i, RevB w g bs i w' ∧ ¬ i < bs.length - 1 - i := by
  have H0 := Lib.hid h
  clear h
  go_enter Tryz.func128, Tryz.ntmps128
  go_wp2
  go_loopw [2, 3] (fun a b wr => ∃ i : Nat, a = .int .i64 (i : Int) ∧ b = .int .i64 ((bs.length : Int) - 1 - i) ∧ i ≤ bs.length ∧ Hid (RevB w g bs i wr)) (fun a _ _ => bs.length - (intOf a).toNat)
  case atStart => exact ⟨0, rfl, by simp, by omega, H0⟩
  case round =>
    clear H0
    obtain ⟨i, rfl, rfl, hi, HR⟩ := hrel
    by_cases hlt : i < bs.length - 1 - i
    · have hdl : (i : Int) < (bs.length : Int) - 1 - i := by omega
      obtain ⟨a, ha⟩ : ∃ a, bs[i]? = some a := ⟨_, List.getElem?_eq_getElem (by omega)⟩
      obtain ⟨b, hb⟩ : ∃ b, bs[bs.length - 1 - i]? = some b := ⟨_, List.getElem?_eq_getElem (by omega)⟩
      have HSW := Lib.hid (HR.out.swap hlt ha hb).drew
      obtain ⟨cur, h1, h2, h3, h4⟩ := HR.out
      have ci : wr.cell? ⟨g, i, none⟩ = some (.int .u8 (a : Int)) := (h1.cell i).trans (by rw [h3 i (by omega), revAt_left bs hlt, ha]; rfl)
      have cj : wr.cell? ⟨g, bs.length - 1 - i, none⟩ = some (.int .u8 (b : Int)) := (h1.cell (bs.length - 1 - i)).trans (by rw [h3 _ (by omega), revAt_right bs hlt, hb]; rfl)
      have fi := h1.frozen i
      have fj := h1.frozen (bs.length - 1 - i)
      have hlg := h1.lt
      have HLT := Lib.hid hlt
      obtain ⟨j, hj⟩ : ∃ j, j = bs.length - 1 - i := ⟨_, rfl⟩
      have hjn : (bs.length : Int) - 1 - i = (j : Int) := by omega
      have hij : i < j := by omega
      have hil : i < bs.length := by omega
      have mixed : Tryz.prog.follows .mixedOrders = true := by kernel_rfl
      have hjl : j < bs.length := by omega
      rw [← hj] at cj fj HSW
      rw [hjn] at *
      have HJ := Lib.hid hj
      clear h1 h2 h3 h4 ha hb hj hjn
      go_wp2_with fail
      go_region_o
      go_wp2
      go_roundw
      case rel => exact ⟨i + 1, by go_num, by congr 1; have := HJ.out; omega, by omega, HSW⟩
      case measure => simp [intOf]; omega
    · have hdl : ¬ (i : Int) < (bs.length : Int) - 1 - i := by omega
      have HLT := Lib.hid hlt
      go_wp2
      go_light
      go_end0
      exact ⟨rfl, i, HR.out, by have := HLT.out; omega⟩
end Go.Proofs.YtffkppoidollnaaGreatDoor
