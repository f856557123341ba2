/-
  The law FactsJoined, walked.
-/
import Derived.Deep.RegionHeldLaw
import Derived.Test.YtfekpkelmliejaaGreatDoorQLstL
import Derived.Test.YtfekpkelmliejaaGreatDoorQLstJ
import Derived.Test.YtfekpkelmliejaaGreatDoorQFactL
import Derived.Test.YtfekpkelmliejaaGreatDoorQTCat
import Derived.Test.YtfekpkelmliejaaGreatDoorQZ02
namespace Go.Proofs.YtfekpkelmliejaaGreatDoor
open Go.RowKit
set_option linter.unusedSimpArgs false
set_option linter.unusedVariables false
set_option maxRecDepth 100000

/-- What is asked of a tree that may be. -/
structure TC (z : Nd) (B : Option Addr) (cap : Nat) (w : World) (sh : Int) (ho nu th : Bool) (f : Nat → Bool) (wd : List Nat) : Prop where
  sho : ∀ W, Below w.heap.size w W → Calls Tryz.prog 16 #[ndV z B cap] W fun e w' => e = .returned (.int .i64 sh) ∧ Below W.heap.size W w'
  lea : ∀ W, Below w.heap.size w W → Calls Tryz.prog 13 #[ndV z B cap, .int .i64 2000] W fun e w' => (∃ A k, e = .returned (.tuple #[.slice A wd.length k, .bool th]) ∧ BytesAt w' w'.heap.size A wd) ∧ Below W.heap.size W w'
  hol : ∀ W, Below w.heap.size w W → Calls Tryz.prog 44 #[ndV z B cap] W fun e w' => e = .returned (.bool ho) ∧ Below W.heap.size W w'
  fir : ∀ W, Below w.heap.size w W → Calls Tryz.prog 20 #[ndV z B cap] W fun e w' => e = .returned (.agg #[.int .u64 ((word (f) 0 : Nat) : Int), .int .u64 ((word (f) 1 : Nat) : Int), .int .u64 ((word (f) 2 : Nat) : Int), .int .u64 ((word (f) 3 : Nat) : Int)]) ∧ Below W.heap.size W w'
  nul : ∀ W, Below w.heap.size w W → Calls Tryz.prog 47 #[ndV z B cap] W fun e w' => e = .returned (.bool nu) ∧ Below W.heap.size W w'
theorem tc_of (z : Nd) (B : Option Addr) (cap : Nat) (w : World) (hr : rightT z = true) (ht : TreesAt w (fun b => b < w.heap.size) z.kids B) (hT : TabAt 1 Lib.deBruijn64tab w) (hw0 : 1 < w.heap.size) : TC z B cap w z.sum.short z.sum.hollow z.sum.null (thereF z.sum) z.sum.first (wordF z) := by
  have hF : ∀ W, Below w.heap.size w W → TreesAt W (fun b => b < W.heap.size) z.kids B := fun W hb => (ht.below hb).weak (fun b _ h => h)
  have hs : z.size ≤ 4096 := by
    have h := hr
    unfold rightT at h
    rw [Bool.and_eq_true] at h
    rw [← z.nodes_len]
    exact of_decide_eq_true h.1
  have hk : knownF z = z.sum := by unfold knownF; rw [if_pos hr]
  have hok : okM z 2000 = thereF z.sum := by unfold okM thereF; rw [hr, Bool.true_and]
  refine ⟨fun W hW => ?_, fun W hW => ?_, fun W hW => ?_, fun W hW => ?_, fun W hW => ?_⟩
  · have h := fshortest_go z B cap W (by omega) (hF W hW)
    rw [hk] at h
    exact h
  · have h := fLeast_go z 2000 B cap W (by omega) (by decide) (hF W hW) (TabAt.below hW hw0 hT) (Nat.lt_of_lt_of_le hw0 hW.size)
    refine h.mono fun e w' ⟨A, k, he, hA, hb⟩ => ⟨⟨A, k, ?_, ?_⟩, hb⟩
    · rw [he, hok]
      unfold wordM wordF
      rw [hok]
    · unfold wordM at hA
      rw [hok] at hA
      exact hA
  · have h := fhollow_go z B cap W (by omega) (hF W hW)
    rw [hr, hk, Bool.true_and] at h
    exact h
  · have h := ffirst_go z B cap W (by omega) (hF W hW)
    rw [hk] at h
    exact h
  · have h := fnullable_go z B cap W (by omega) (hF W hW)
    rw [hr, hk, Bool.true_and] at h
    exact h
theorem str_ne {a b : List Nat} (ha : ∀ c ∈ a, c < 256) (hb : ∀ c ∈ b, c < 256) (h : a ≠ b) : ((strOf a).toList == (strOf b).toList) = false := by
  rw [beq_eq_false_iff_ne]
  intro e
  have h1 := less_str ha hb
  have h2 := less_str hb ha
  have h3 := less_str ha ha
  rw [lex_irrefl] at h3
  rw [← e, h3] at h1
  rw [← e, h3] at h2
  exact h (lex_total a b h1.symm h2.symm)
/-- The law, in letters. -/
structure JF (ha hb na nb nx : Bool) (fa fb fy : Nat → Bool) (sa : Int) (p q r s : Bool) (v w u t : List Nat) : Prop where
  hp : ha = !p
  hq : hb = !q
  hr : r = (p && q)
  hs : s = (p || q)
  hu : r = true → u = v ++ w
  ht : s = true → t = v ∨ t = w
  tv : s = true → p = true → lessW v t = false
  tw : s = true → q = true → lessW w t = false
  first : fy = orB fa fb
  null : nx = (na && nb)
  len : (v.length : Int) = max sa 0
theorem right_parts {a b : Nd} (h : rightT (catN2 a b) = true) : rightT a = true ∧ rightT b = true ∧ rightT (altN2 a b) = true := by
  have hn : (catN2 a b).nodes = catN2 a b :: (a.nodes ++ b.nodes) := by
    show catN2 a b :: (Trees.of [a, b]).nodes = _
    simp [Trees.of, Trees.nodes, Nd.nodes]
  have hn2 : (altN2 a b).nodes = altN2 a b :: (a.nodes ++ b.nodes) := by
    show altN2 a b :: (Trees.of [a, b]).nodes = _
    simp [Trees.of, Trees.nodes, Nd.nodes]
  unfold rightT at h ⊢
  rw [Bool.and_eq_true, decide_eq_true_eq, hn, List.length_cons, List.length_append, List.all_cons, List.all_append, Bool.and_eq_true, Bool.and_eq_true] at h
  obtain ⟨h1, h2, h3, h4⟩ := h
  have ha : aloneN (altN2 a b) = true := by
    unfold aloneN
    show aloneV 5 (word (Nat.testBit 0) 0 : Nat) (word (Nat.testBit 0) 1 : Nat) (word (Nat.testBit 0) 2 : Nat) (word (Nat.testBit 0) 3 : Nat) 2 0 0 = true
    decide +kernel
  refine ⟨by rw [h3, decide_eq_true (by omega)]; rfl, by rw [h4, decide_eq_true (by omega)]; rfl, ?_⟩
  rw [hn2, List.length_cons, List.length_append, List.all_cons, List.all_append, h3, h4, ha, decide_eq_true (by omega)]
  rfl
theorem two_size (a b : Nd) : (Trees.of [a, b]).size = a.size + b.size := by
  simp only [Trees.of, Trees.size, Nd.size]
  omega
theorem cat2_go (a b x : Nd) (hx : catN2 a b = x) (W : World) (g : Nat) (P : Nat → Prop) (ht : TreesAt W P (Trees.of [a, b]) (some ⟨g, 0, none⟩)) (hs : a.size + b.size ≤ 90000000) : Calls Tryz.prog 41 #[.slice (some ⟨g, 0, none⟩) 2 2] W fun e w' => ∃ B' cap', e = .returned (ndV x B' cap') ∧ Below W.heap.size W w' ∧ TreesAt w' (fun c => W.heap.size ≤ c) x.kids B' := by
  subst hx
  refine (tcat_go (Trees.of [a, b]) P _ 2 W rfl (by rw [two_size]; omega) ht).mono fun e w' ⟨B', cap', he, hb, _, ht'⟩ => ⟨B', cap', he, hb, ht'⟩
theorem alt2_go (a b x : Nd) (hx : altN2 a b = x) (W : World) (g : Nat) (P : Nat → Prop) (ht : TreesAt W P (Trees.of [a, b]) (some ⟨g, 0, none⟩)) (hs : a.size + b.size ≤ 90000000) : Calls Tryz.prog 42 #[.slice (some ⟨g, 0, none⟩) 2 2] W fun e w' => ∃ B' cap', e = .returned (ndV x B' cap') ∧ Below W.heap.size W w' ∧ TreesAt w' (fun c => W.heap.size ≤ c) x.kids B' := by
  subst hx
  refine (talt_go (Trees.of [a, b]) P _ 2 W rfl (by rw [two_size]; omega) ht).mono fun e w' ⟨B', cap', he, hb, _, ht'⟩ => ⟨B', cap', he, hb, ht'⟩
/-- What stands when both trees are made. -/
structure JAt (w0 : World) (a b x y : Nd) (Ba Bb Bx By : Option Addr) (ca cb cx cy : Nat) (g5 g6 : Nat) (W : World) : Prop where
  bel : Below w0.heap.size w0 W
  na : Blk W w0.heap.size 28 #[.int .i64 a.kind, .int .u64 ((word (a.set.testBit) 0 : Nat) : Int), .int .u64 ((word (a.set.testBit) 1 : Nat) : Int), .int .u64 ((word (a.set.testBit) 2 : Nat) : Int), .int .u64 ((word (a.set.testBit) 3 : Nat) : Int), .slice Ba a.kids.len ca, .int .i64 a.lo, .int .i64 a.hi]
  nb : Blk W (w0.heap.size + 1) 28 #[.int .i64 b.kind, .int .u64 ((word (b.set.testBit) 0 : Nat) : Int), .int .u64 ((word (b.set.testBit) 1 : Nat) : Int), .int .u64 ((word (b.set.testBit) 2 : Nat) : Int), .int .u64 ((word (b.set.testBit) 3 : Nat) : Int), .slice Bb b.kids.len cb, .int .i64 b.lo, .int .i64 b.hi]
  nx : Blk W g5 28 #[.int .i64 x.kind, .int .u64 ((word (x.set.testBit) 0 : Nat) : Int), .int .u64 ((word (x.set.testBit) 1 : Nat) : Int), .int .u64 ((word (x.set.testBit) 2 : Nat) : Int), .int .u64 ((word (x.set.testBit) 3 : Nat) : Int), .slice Bx x.kids.len cx, .int .i64 x.lo, .int .i64 x.hi]
  ny : Blk W g6 28 #[.int .i64 y.kind, .int .u64 ((word (y.set.testBit) 0 : Nat) : Int), .int .u64 ((word (y.set.testBit) 1 : Nat) : Int), .int .u64 ((word (y.set.testBit) 2 : Nat) : Int), .int .u64 ((word (y.set.testBit) 3 : Nat) : Int), .slice By y.kids.len cy, .int .i64 y.lo, .int .i64 y.hi]
theorem JAt.below {w0 W W' : World} {a b x y : Nd} {Ba Bb Bx By : Option Addr} {ca cb cx cy g5 g6 : Nat} (h : JAt w0 a b x y Ba Bb Bx By ca cb cx cy g5 g6 W) (hb : Below W.heap.size W W') : JAt w0 a b x y Ba Bb Bx By ca cb cx cy g5 g6 W' :=
  ⟨h.bel.trans (hb.mono h.bel.size), h.na.below hb h.na.lt, h.nb.below hb h.nb.lt, h.nx.below hb h.nx.lt, h.ny.below hb h.ny.lt⟩
set_option maxHeartbeats 8000000 in
theorem joined_law (a b x y : Nd) (hx : catN2 a b = x) (hy : altN2 a b = y) (Ba Bb : Option Addr) (ca cb : Nat) (w : World) (hsa : a.size ≤ 2000000) (hsb : b.size ≤ 2000000) (hla : a.kids.len ≤ ca) (hlb : b.kids.len ≤ cb) (hta : TreesAt w (fun c => c < w.heap.size) a.kids Ba) (htb : TreesAt w (fun c => c < w.heap.size) b.kids Bb) (hT : TabAt 1 Lib.deBruijn64tab w) (hw0 : 1 < w.heap.size) :
    Calls Tryz.prog 9 #[ndV a Ba ca, ndV b Bb cb] w fun e w' => e = .returned (.bool true) ∧ Below w.heap.size w w' := by
  have hb0 : Below w.heap.size w ((w.alloc (.cells #[.int .i64 a.kind, .int .u64 ((word (a.set.testBit) 0 : Nat) : Int), .int .u64 ((word (a.set.testBit) 1 : Nat) : Int), .int .u64 ((word (a.set.testBit) 2 : Nat) : Int), .int .u64 ((word (a.set.testBit) 3 : Nat) : Int), .slice Ba a.kids.len ca, .int .i64 a.lo, .int .i64 a.hi] 28)).alloc (.cells #[.int .i64 b.kind, .int .u64 ((word (b.set.testBit) 0 : Nat) : Int), .int .u64 ((word (b.set.testBit) 1 : Nat) : Int), .int .u64 ((word (b.set.testBit) 2 : Nat) : Int), .int .u64 ((word (b.set.testBit) 3 : Nat) : Int), .slice Bb b.kids.len cb, .int .i64 b.lo, .int .i64 b.hi] 28)) := ((Below.refl _ _).alloc (Nat.le_refl _) _).alloc (by simp) _
  have HB := Lib.hid hb0
  have HNa := Lib.hid ((Blk.new w 28 #[.int .i64 a.kind, .int .u64 ((word (a.set.testBit) 0 : Nat) : Int), .int .u64 ((word (a.set.testBit) 1 : Nat) : Int), .int .u64 ((word (a.set.testBit) 2 : Nat) : Int), .int .u64 ((word (a.set.testBit) 3 : Nat) : Int), .slice Ba a.kids.len ca, .int .i64 a.lo, .int .i64 a.hi]).alloc (.cells #[.int .i64 b.kind, .int .u64 ((word (b.set.testBit) 0 : Nat) : Int), .int .u64 ((word (b.set.testBit) 1 : Nat) : Int), .int .u64 ((word (b.set.testBit) 2 : Nat) : Int), .int .u64 ((word (b.set.testBit) 3 : Nat) : Int), .slice Bb b.kids.len cb, .int .i64 b.lo, .int .i64 b.hi] 28))
  have HNb := Lib.hid (show Blk ((w.alloc (.cells #[.int .i64 a.kind, .int .u64 ((word (a.set.testBit) 0 : Nat) : Int), .int .u64 ((word (a.set.testBit) 1 : Nat) : Int), .int .u64 ((word (a.set.testBit) 2 : Nat) : Int), .int .u64 ((word (a.set.testBit) 3 : Nat) : Int), .slice Ba a.kids.len ca, .int .i64 a.lo, .int .i64 a.hi] 28)).alloc (.cells #[.int .i64 b.kind, .int .u64 ((word (b.set.testBit) 0 : Nat) : Int), .int .u64 ((word (b.set.testBit) 1 : Nat) : Int), .int .u64 ((word (b.set.testBit) 2 : Nat) : Int), .int .u64 ((word (b.set.testBit) 3 : Nat) : Int), .slice Bb b.kids.len cb, .int .i64 b.lo, .int .i64 b.hi] 28)) (w.heap.size + 1) 28 #[.int .i64 b.kind, .int .u64 ((word (b.set.testBit) 0 : Nat) : Int), .int .u64 ((word (b.set.testBit) 1 : Nat) : Int), .int .u64 ((word (b.set.testBit) 2 : Nat) : Int), .int .u64 ((word (b.set.testBit) 3 : Nat) : Int), .slice Bb b.kids.len cb, .int .i64 b.lo, .int .i64 b.hi] from Blk.new_at (by simp))
  have HTa := Lib.hid hta
  have HTb := Lib.hid htb
  have HLa := Lib.hid hla
  have HLb := Lib.hid hlb
  have HSz := Lib.hid (show a.size + b.size ≤ 90000000 by omega)
  have HX := Lib.hid hx
  have HY := Lib.hid hy
  have HTab := Lib.hid hT
  clear hb0 hta htb hla hlb hx hy hT
  unfold ndV
  go_enter Tryz.func9, Tryz.ntmps9
  go_upto_region 1 with fail
  generalize ((w.alloc (.cells #[.int .i64 a.kind, .int .u64 ((word (a.set.testBit) 0 : Nat) : Int), .int .u64 ((word (a.set.testBit) 1 : Nat) : Int), .int .u64 ((word (a.set.testBit) 2 : Nat) : Int), .int .u64 ((word (a.set.testBit) 3 : Nat) : Int), .slice Ba a.kids.len ca, .int .i64 a.lo, .int .i64 a.hi] 28)).alloc (.cells #[.int .i64 b.kind, .int .u64 ((word (b.set.testBit) 0 : Nat) : Int), .int .u64 ((word (b.set.testBit) 1 : Nat) : Int), .int .u64 ((word (b.set.testBit) 2 : Nat) : Int), .int .u64 ((word (b.set.testBit) 3 : Nat) : Int), .slice Bb b.kids.len cb, .int .i64 b.lo, .int .i64 b.hi] 28)) = w1 at *
  have pe := ((HNa.out)).c8r
  obtain ⟨p0, p1, p2, p3, p4, p5, p6, p7⟩ := pe
  have pl := (HNa.out).lt
  have qe := ((HNb.out)).c8r
  obtain ⟨q0, q1, q2, q3, q4, q5, q6, q7⟩ := qe
  have ql := (HNb.out).lt
  have HRow := Lib.hid (fun (W : World) (g : Nat) (hW : Below w.heap.size w W) (hg : Blk W g 28 (ndCell a Ba ca ++ ndCell b Bb cb).toArray) => two_row (P := fun c => c < W.heap.size) hg hg.lt HLa.out HLb.out ((HTa.out.below hW).weak (fun c _ h => h)) ((HTb.out.below hW).weak (fun c _ h => h)))
  go_wp2_with fail
  have hba : Below w1.heap.size w1 (w1.alloc (.cells (ndCell a Ba ca ++ ndCell b Bb cb).toArray 28)) := (Below.refl _ _).alloc (Nat.le_refl _) _
  refine (cat2_go a b x HX.out _ w1.heap.size _ (HRow.out _ _ (HB.out.trans (hba.mono HB.out.size)) (Blk.new w1 _ _)) HSz.out).mono ?_
  rintro e w2 ⟨Bx, cx, rfl, hb2', htx⟩
  have hb2 : Below w1.heap.size w1 w2 := hba.trans (hb2'.mono (by simp))
  have hbx : Below w2.heap.size w2 (w2.alloc (.cells #[.int .i64 x.kind, .int .u64 ((word (x.set.testBit) 0 : Nat) : Int), .int .u64 ((word (x.set.testBit) 1 : Nat) : Int), .int .u64 ((word (x.set.testBit) 2 : Nat) : Int), .int .u64 ((word (x.set.testBit) 3 : Nat) : Int), .slice Bx x.kids.len cx, .int .i64 x.lo, .int .i64 x.hi] 28)) := (Below.refl _ _).alloc (Nat.le_refl _) _
  have HB3 := Lib.hid ((HB.out.trans (hb2.mono HB.out.size)).trans (hbx.mono (by have := HB.out.size; have := hb2.size; omega)))
  have hNa2 := HNa.out.below hb2 HNa.out.lt
  have hNb2 := HNb.out.below hb2 HNb.out.lt
  have HNa3 := Lib.hid (hNa2.below hbx hNa2.lt)
  have HNb3 := Lib.hid (hNb2.below hbx hNb2.lt)
  have HNx3 := Lib.hid (Blk.new w2 28 #[.int .i64 x.kind, .int .u64 ((word (x.set.testBit) 0 : Nat) : Int), .int .u64 ((word (x.set.testBit) 1 : Nat) : Int), .int .u64 ((word (x.set.testBit) 2 : Nat) : Int), .int .u64 ((word (x.set.testBit) 3 : Nat) : Int), .slice Bx x.kids.len cx, .int .i64 x.lo, .int .i64 x.hi])
  have HTx3 := Lib.hid (htx.below hbx)
  clear hba hb2' hb2 hbx hNa2 hNb2 htx HNa HNb HB
  clear p0 p1 p2 p3 p4 p5 p6 p7 pl q0 q1 q2 q3 q4 q5 q6 q7 ql
  unfold ndV
  dsimp only
  go_upto_region 2 with fail
  generalize hg5 : w2.heap.size = g5 at *
  generalize w2.alloc (.cells #[.int .i64 x.kind, .int .u64 ((word (x.set.testBit) 0 : Nat) : Int), .int .u64 ((word (x.set.testBit) 1 : Nat) : Int), .int .u64 ((word (x.set.testBit) 2 : Nat) : Int), .int .u64 ((word (x.set.testBit) 3 : Nat) : Int), .slice Bx x.kids.len cx, .int .i64 x.lo, .int .i64 x.hi] 28) = w3 at *
  clear hg5
  have pe := ((HNa3.out)).c8r
  obtain ⟨p0, p1, p2, p3, p4, p5, p6, p7⟩ := pe
  have pl := (HNa3.out).lt
  have qe := ((HNb3.out)).c8r
  obtain ⟨q0, q1, q2, q3, q4, q5, q6, q7⟩ := qe
  have ql := (HNb3.out).lt
  have re := ((HNx3.out)).c8r
  obtain ⟨r0, r1, r2, r3, r4, r5, r6, r7⟩ := re
  have rl := (HNx3.out).lt
  go_wp2_with fail
  have hba : Below w3.heap.size w3 (w3.alloc (.cells (ndCell a Ba ca ++ ndCell b Bb cb).toArray 28)) := (Below.refl _ _).alloc (Nat.le_refl _) _
  refine (alt2_go a b y HY.out _ w3.heap.size _ (HRow.out _ _ (HB3.out.trans (hba.mono HB3.out.size)) (Blk.new w3 _ _)) HSz.out).mono ?_
  rintro e w4 ⟨By, cy, rfl, hb4', hty⟩
  have hb4 : Below w3.heap.size w3 w4 := hba.trans (hb4'.mono (by simp))
  have hbx : Below w4.heap.size w4 (w4.alloc (.cells #[.int .i64 y.kind, .int .u64 ((word (y.set.testBit) 0 : Nat) : Int), .int .u64 ((word (y.set.testBit) 1 : Nat) : Int), .int .u64 ((word (y.set.testBit) 2 : Nat) : Int), .int .u64 ((word (y.set.testBit) 3 : Nat) : Int), .slice By y.kids.len cy, .int .i64 y.lo, .int .i64 y.hi] 28)) := (Below.refl _ _).alloc (Nat.le_refl _) _
  have hb34 : Below w3.heap.size w3 (w4.alloc (.cells #[.int .i64 y.kind, .int .u64 ((word (y.set.testBit) 0 : Nat) : Int), .int .u64 ((word (y.set.testBit) 1 : Nat) : Int), .int .u64 ((word (y.set.testBit) 2 : Nat) : Int), .int .u64 ((word (y.set.testBit) 3 : Nat) : Int), .slice By y.kids.len cy, .int .i64 y.lo, .int .i64 y.hi] 28)) := hb4.trans (hbx.mono hb4.size)
  have HJ := Lib.hid (show JAt w a b x y Ba Bb Bx By ca cb cx cy g5 w4.heap.size (w4.alloc (.cells #[.int .i64 y.kind, .int .u64 ((word (y.set.testBit) 0 : Nat) : Int), .int .u64 ((word (y.set.testBit) 1 : Nat) : Int), .int .u64 ((word (y.set.testBit) 2 : Nat) : Int), .int .u64 ((word (y.set.testBit) 3 : Nat) : Int), .slice By y.kids.len cy, .int .i64 y.lo, .int .i64 y.hi] 28)) from
    ⟨HB3.out.trans (hb34.mono HB3.out.size), HNa3.out.below hb34 HNa3.out.lt, HNb3.out.below hb34 HNb3.out.lt, HNx3.out.below hb34 HNx3.out.lt, Blk.new w4 _ _⟩)
  have HTx := Lib.hid ((HTx3.out.below hb34).weak (Q := fun c => c < (w4.alloc (.cells #[.int .i64 y.kind, .int .u64 ((word (y.set.testBit) 0 : Nat) : Int), .int .u64 ((word (y.set.testBit) 1 : Nat) : Int), .int .u64 ((word (y.set.testBit) 2 : Nat) : Int), .int .u64 ((word (y.set.testBit) 3 : Nat) : Int), .slice By y.kids.len cy, .int .i64 y.lo, .int .i64 y.hi] 28)).heap.size) (fun c _ h => h))
  have HTy := Lib.hid ((hty.below hbx).weak (Q := fun c => c < (w4.alloc (.cells #[.int .i64 y.kind, .int .u64 ((word (y.set.testBit) 0 : Nat) : Int), .int .u64 ((word (y.set.testBit) 1 : Nat) : Int), .int .u64 ((word (y.set.testBit) 2 : Nat) : Int), .int .u64 ((word (y.set.testBit) 3 : Nat) : Int), .slice By y.kids.len cy, .int .i64 y.lo, .int .i64 y.hi] 28)).heap.size) (fun c _ h => h))
  clear hba hb4' hb4 hbx hb34 hty HNa3 HNb3 HNx3 HTx3 HB3 HRow
  clear p0 p1 p2 p3 p4 p5 p6 p7 pl q0 q1 q2 q3 q4 q5 q6 q7 ql r0 r1 r2 r3 r4 r5 r6 r7 rl
  unfold ndV
  dsimp only
  go_upto_region 3 with fail
  generalize hg6 : w4.heap.size = g6 at *
  generalize w4.alloc (.cells #[.int .i64 y.kind, .int .u64 ((word (y.set.testBit) 0 : Nat) : Int), .int .u64 ((word (y.set.testBit) 1 : Nat) : Int), .int .u64 ((word (y.set.testBit) 2 : Nat) : Int), .int .u64 ((word (y.set.testBit) 3 : Nat) : Int), .slice By y.kids.len cy, .int .i64 y.lo, .int .i64 y.hi] 28) = w5 at *
  clear hg6
  have HTa5 := Lib.hid ((HTa.out.below HJ.out.bel).weak (Q := fun c => c < w5.heap.size) (fun c _ h => h))
  have HTb5 := Lib.hid ((HTb.out.below HJ.out.bel).weak (Q := fun c => c < w5.heap.size) (fun c _ h => h))
  have HT5 := Lib.hid (TabAt.below HJ.out.bel hw0 HTab.out)
  have hw5 : 1 < w5.heap.size := Nat.lt_of_lt_of_le hw0 HJ.out.bel.size
  have HK := Lib.hid (fun (W : World) (hW : Below w5.heap.size w5 W) => knows10_go W (TabAt.below hW hw5 HT5.out) (Nat.lt_of_lt_of_le hw5 hW.size))
  have HRx := Lib.hid (tright_any x Bx cx w5 (by rw [← HX.out]; show 1 + (Trees.of [a, b]).size ≤ _; rw [two_size]; omega) HTx.out)
  clear HTa HTb HTab hsa hsb hw0 HLa HLb HSz
  unfold ndV at HRx
  cases hr : rightT x with
  | false =>
    rw [hr] at HRx
    clear hr HTa5 HTb5 HTx HTy HT5 hw5
    have re := ((HJ.out.nx)).c8r
    obtain ⟨r0, r1, r2, r3, r4, r5, r6, r7⟩ := re
    have rl := (HJ.out.nx).lt
    go_wp2_with fail
    refine HRx.out.mono ?_
    rintro e w6 ⟨rfl, hb6⟩
    have HB6 := Lib.hid (HJ.out.bel.trans (hb6.mono HJ.out.bel.size))
    have HC := Lib.hid (HK.out w6 hb6)
    clear hb6 HRx HK r0 r1 r2 r3 r4 r5 r6 r7 rl
    dsimp only
    go_wp2_with fail
    refine HC.out.mono ?_
    rintro e w7 ⟨rfl, hb7⟩
    have HB7 := Lib.hid (HB6.out.trans (hb7.mono HB6.out.size))
    clear hb7 HC HB6
    dsimp only
    go_wp2
    go_light
    go_ret
    exact ⟨rfl, HB7.out⟩
  | true =>
    rw [hr] at HRx
    have hrp := hr
    rw [← HX.out] at hrp
    obtain ⟨hra, hrb, hry⟩ := right_parts hrp
    rw [HY.out] at hry
    have HCa := Lib.hid (tc_of a Ba ca w5 hra HTa5.out HT5.out hw5)
    have HCb := Lib.hid (tc_of b Bb cb w5 hrb HTb5.out HT5.out hw5)
    have HCx := Lib.hid (tc_of x Bx cx w5 hr HTx.out HT5.out hw5)
    have HCy := Lib.hid (tc_of y By cy w5 hry HTy.out HT5.out hw5)
    have HJo := Lib.hid (fun (ha : a.sum.short ≤ 1000) (hb : b.sum.short ≤ 1000) => joined (rightT_nodes hra) (rightT_nodes hrb) ha hb)
    rw [HX.out, HY.out] at HJo
    clear hr hrp hra hrb hry HTa5 HTb5 HTx HTy HT5 hw5
    have re := ((HJ.out.nx)).c8r
    obtain ⟨r0, r1, r2, r3, r4, r5, r6, r7⟩ := re
    have rl := (HJ.out.nx).lt
    go_wp2_with fail
    refine HRx.out.mono ?_
    rintro e w6 ⟨rfl, hb6⟩
    have HJ6 := Lib.hid (HJ.out.below hb6)
    have HW6 := Lib.hid hb6
    clear hb6 HRx HJ r0 r1 r2 r3 r4 r5 r6 r7 rl
    dsimp only
    have HC := Lib.hid (HCa.out.sho w6 HW6.out)
    unfold ndV at HC
    have re := ((HJ6.out.na)).c8r
    obtain ⟨r0, r1, r2, r3, r4, r5, r6, r7⟩ := re
    have rl := (HJ6.out.na).lt

    go_wp2_with fail
    refine HC.out.mono ?_
    rintro e w7 ⟨rfl, hb⟩
    have HJ7 := Lib.hid (HJ6.out.below hb)
    have HW7 := Lib.hid (HW6.out.trans (hb.mono HW6.out.size))
    clear hb HC HJ6 HW6
    clear r0 r1 r2 r3 r4 r5 r6 r7 rl

    dsimp only
    rcases Int.lt_or_le 1000 a.sum.short with hsa | hsa
    · skip
      have HC := Lib.hid (HK.out w7 HW7.out)
      go_wp2_with fail
      refine HC.out.mono ?_
      rintro e w99 ⟨rfl, hb⟩
      have HB99 := Lib.hid (HJ7.out.bel.trans (hb.mono HJ7.out.bel.size))
      clear hb HC
      dsimp only
      go_wp2
      go_light
      go_ret
      exact ⟨rfl, HB99.out⟩
    have hsa2 : ¬ 1000 < a.sum.short := by omega
    have HC := Lib.hid (HCb.out.sho w7 HW7.out)
    unfold ndV at HC
    have re := ((HJ7.out.nb)).c8r
    obtain ⟨r0, r1, r2, r3, r4, r5, r6, r7⟩ := re
    have rl := (HJ7.out.nb).lt

    go_wp2_with fail
    refine HC.out.mono ?_
    rintro e w8 ⟨rfl, hb⟩
    have HJ8 := Lib.hid (HJ7.out.below hb)
    have HW8 := Lib.hid (HW7.out.trans (hb.mono HW7.out.size))
    clear hb HC HJ7 HW7
    clear r0 r1 r2 r3 r4 r5 r6 r7 rl

    dsimp only
    rcases Int.lt_or_le 1000 b.sum.short with hsb | hsb
    · skip
      have HC := Lib.hid (HK.out w8 HW8.out)
      go_wp2_with fail
      refine HC.out.mono ?_
      rintro e w99 ⟨rfl, hb⟩
      have HB99 := Lib.hid (HJ8.out.bel.trans (hb.mono HJ8.out.bel.size))
      clear hb HC
      dsimp only
      go_wp2
      go_light
      go_ret
      exact ⟨rfl, HB99.out⟩
    have hsb2 : ¬ 1000 < b.sum.short := by omega
    have hJ := HJo.out hsa hsb
    have HF := Lib.hid (show JF a.sum.hollow b.sum.hollow a.sum.null b.sum.null x.sum.null a.sum.first b.sum.first y.sum.first a.sum.short (thereF a.sum) (thereF b.sum) (thereF x.sum) (thereF y.sum) (wordF a) (wordF b) (wordF x) (wordF y) from
      ⟨by rw [hJ.hp, Bool.not_not], by rw [hJ.hq, Bool.not_not], hJ.hr, hJ.hs, hJ.hu, hJ.ht, hJ.tv, hJ.tw, by have := hJ.first; rw [HY.out] at this; exact this, by have := hJ.null; rw [HX.out] at this; exact this, hJ.len⟩)
    clear HJo hsa hsb hJ HX HY
    generalize a.sum.hollow = ha at *
    generalize b.sum.hollow = hb at *
    generalize x.sum.hollow = hx at *
    generalize y.sum.hollow = hy at *
    generalize a.sum.null = na at *
    generalize b.sum.null = nb at *
    generalize x.sum.null = nx at *
    generalize y.sum.null = ny at *
    generalize a.sum.first = fa at *
    generalize b.sum.first = fb at *
    generalize x.sum.first = fx at *
    generalize y.sum.first = fy at *
    generalize thereF a.sum = p at *
    generalize thereF b.sum = q at *
    generalize thereF x.sum = r at *
    generalize thereF y.sum = s at *
    generalize a.sum.short = sa at *
    generalize b.sum.short = sb at *
    generalize wordF a = v at *
    generalize wordF b = wd at *
    generalize wordF x = u at *
    generalize wordF y = t at *
    have HC := Lib.hid (HCa.out.lea w8 HW8.out)
    unfold ndV at HC
    have re := ((HJ8.out.na)).c8r
    obtain ⟨r0, r1, r2, r3, r4, r5, r6, r7⟩ := re
    have rl := (HJ8.out.na).lt

    go_wp2_with fail
    refine HC.out.mono ?_
    rintro e w9 ⟨⟨Av, kv, rfl, hbv⟩, hbl⟩
    have HJ9 := Lib.hid (HJ8.out.below hbl)
    have HW9 := Lib.hid (HW8.out.trans (hbl.mono HW8.out.size))
    skip
    have HVv := Lib.hid hbv
    clear hbl hbv HC HJ8 HW8
    clear r0 r1 r2 r3 r4 r5 r6 r7 rl

    dsimp only
    have HC := Lib.hid (HCb.out.lea w9 HW9.out)
    unfold ndV at HC
    have re := ((HJ9.out.nb)).c8r
    obtain ⟨r0, r1, r2, r3, r4, r5, r6, r7⟩ := re
    have rl := (HJ9.out.nb).lt

    go_wp2_with fail
    refine HC.out.mono ?_
    rintro e w10 ⟨⟨Aw, kw, rfl, hbv⟩, hbl⟩
    have HJ10 := Lib.hid (HJ9.out.below hbl)
    have HW10 := Lib.hid (HW9.out.trans (hbl.mono HW9.out.size))
    have HVv := Lib.hid ((HVv.out.below hbl).more hbl.size)
    have HVwd := Lib.hid hbv
    clear hbl hbv HC HJ9 HW9
    clear r0 r1 r2 r3 r4 r5 r6 r7 rl

    dsimp only
    have HC := Lib.hid (HCx.out.lea w10 HW10.out)
    unfold ndV at HC
    have re := ((HJ10.out.nx)).c8r
    obtain ⟨r0, r1, r2, r3, r4, r5, r6, r7⟩ := re
    have rl := (HJ10.out.nx).lt

    go_wp2_with fail
    refine HC.out.mono ?_
    rintro e w11 ⟨⟨Au, ku, rfl, hbv⟩, hbl⟩
    have HJ11 := Lib.hid (HJ10.out.below hbl)
    have HW11 := Lib.hid (HW10.out.trans (hbl.mono HW10.out.size))
    have HVv := Lib.hid ((HVv.out.below hbl).more hbl.size); have HVwd := Lib.hid ((HVwd.out.below hbl).more hbl.size)
    have HVu := Lib.hid hbv
    clear hbl hbv HC HJ10 HW10
    clear r0 r1 r2 r3 r4 r5 r6 r7 rl

    dsimp only
    have HC := Lib.hid (HCy.out.lea w11 HW11.out)
    unfold ndV at HC
    have re := ((HJ11.out.ny)).c8r
    obtain ⟨r0, r1, r2, r3, r4, r5, r6, r7⟩ := re
    have rl := (HJ11.out.ny).lt

    go_wp2_with fail
    refine HC.out.mono ?_
    rintro e w12 ⟨⟨At, kt, rfl, hbv⟩, hbl⟩
    have HJ12 := Lib.hid (HJ11.out.below hbl)
    have HW12 := Lib.hid (HW11.out.trans (hbl.mono HW11.out.size))
    have HVv := Lib.hid ((HVv.out.below hbl).more hbl.size); have HVwd := Lib.hid ((HVwd.out.below hbl).more hbl.size); have HVu := Lib.hid ((HVu.out.below hbl).more hbl.size)
    have HVt := Lib.hid hbv
    clear hbl hbv HC HJ11 HW11
    clear r0 r1 r2 r3 r4 r5 r6 r7 rl

    dsimp only
    obtain ⟨hp, hq, hr, hs, hu, ht, htv, htw, hfi, hnu, hln⟩ := HF.out
    have HU := Lib.hid hu
    have HTT := Lib.hid ht
    have HTV := Lib.hid htv
    have HTW := Lib.hid htw
    have HLN := Lib.hid hln
    have HRR := Lib.hid hr
    have HSS := Lib.hid hs
    have HNX := Lib.hid hnu
    clear HF hu ht htv htw hln hr hs hnu
    subst hp hq hfi
    go_upto_region 9 with fail
    go_cut [95] from 57 to 95 (fun c wx => c = .bool false ∧ Hid (Below w12.heap.size w12 wx))
    case first =>
      cases p with
      | false =>
        cases q with
        | false =>
          obtain rfl : r = false := HRR.out
          obtain rfl : s = false := HSS.out
          have HCa := Lib.hid (show TC a Ba ca w5 sa true na false fa v from HCa.out)
          have HCb := Lib.hid (show TC b Bb cb w5 sb true nb false fb wd from HCb.out)
          have HZ12 := Lib.hid (Below.refl w12.heap.size w12)
          have HC := Lib.hid (HCa.out.hol w12 HW12.out)
          unfold ndV at HC
          have re := ((HJ12.out.na)).c8r
          obtain ⟨r0, r1, r2, r3, r4, r5, r6, r7⟩ := re
          have rl := (HJ12.out.na).lt

          go_wp2_with fail
          refine HC.out.mono ?_
          rintro e w13 ⟨rfl, hbl⟩
          have HJ13 := Lib.hid (HJ12.out.below hbl)
          have HW13 := Lib.hid (HW12.out.trans (hbl.mono HW12.out.size))
          have HZ13 := Lib.hid (HZ12.out.trans (hbl.mono HZ12.out.size))
          clear hbl HC HJ12 HW12 HZ12
          clear r0 r1 r2 r3 r4 r5 r6 r7 rl

          dsimp only

          have HC := Lib.hid (HCb.out.hol w13 HW13.out)
          unfold ndV at HC
          have re := ((HJ13.out.nb)).c8r
          obtain ⟨r0, r1, r2, r3, r4, r5, r6, r7⟩ := re
          have rl := (HJ13.out.nb).lt

          go_wp2_with fail
          refine HC.out.mono ?_
          rintro e w14 ⟨rfl, hbl⟩
          have HJ14 := Lib.hid (HJ13.out.below hbl)
          have HW14 := Lib.hid (HW13.out.trans (hbl.mono HW13.out.size))
          have HZ14 := Lib.hid (HZ13.out.trans (hbl.mono HZ13.out.size))
          clear hbl HC HJ13 HW13 HZ13
          clear r0 r1 r2 r3 r4 r5 r6 r7 rl

          dsimp only

          go_wp2_with fail
          go_meet
          exact ⟨rfl, HZ14⟩
        | true =>
          obtain rfl : r = false := HRR.out
          obtain rfl : s = true := HSS.out
          have HCa := Lib.hid (show TC a Ba ca w5 sa true na false fa v from HCa.out)
          have HCb := Lib.hid (show TC b Bb cb w5 sb false nb true fb wd from HCb.out)
          have HZ12 := Lib.hid (Below.refl w12.heap.size w12)
          have HC := Lib.hid (HCa.out.hol w12 HW12.out)
          unfold ndV at HC
          have re := ((HJ12.out.na)).c8r
          obtain ⟨r0, r1, r2, r3, r4, r5, r6, r7⟩ := re
          have rl := (HJ12.out.na).lt

          go_wp2_with fail
          refine HC.out.mono ?_
          rintro e w13 ⟨rfl, hbl⟩
          have HJ13 := Lib.hid (HJ12.out.below hbl)
          have HW13 := Lib.hid (HW12.out.trans (hbl.mono HW12.out.size))
          have HZ13 := Lib.hid (HZ12.out.trans (hbl.mono HZ12.out.size))
          clear hbl HC HJ12 HW12 HZ12
          clear r0 r1 r2 r3 r4 r5 r6 r7 rl

          dsimp only

          have HC := Lib.hid (HCb.out.hol w13 HW13.out)
          unfold ndV at HC
          have re := ((HJ13.out.nb)).c8r
          obtain ⟨r0, r1, r2, r3, r4, r5, r6, r7⟩ := re
          have rl := (HJ13.out.nb).lt

          go_wp2_with fail
          refine HC.out.mono ?_
          rintro e w14 ⟨rfl, hbl⟩
          have HJ14 := Lib.hid (HJ13.out.below hbl)
          have HW14 := Lib.hid (HW13.out.trans (hbl.mono HW13.out.size))
          have HZ14 := Lib.hid (HZ13.out.trans (hbl.mono HZ13.out.size))
          clear hbl HC HJ13 HW13 HZ13
          clear r0 r1 r2 r3 r4 r5 r6 r7 rl

          dsimp only

          go_wp2_with fail
          go_meet
          exact ⟨rfl, HZ14⟩
      | true =>
        cases q with
        | false =>
          obtain rfl : r = false := HRR.out
          obtain rfl : s = true := HSS.out
          have HCa := Lib.hid (show TC a Ba ca w5 sa false na true fa v from HCa.out)
          have HCb := Lib.hid (show TC b Bb cb w5 sb true nb false fb wd from HCb.out)
          have HZ12 := Lib.hid (Below.refl w12.heap.size w12)
          have HC := Lib.hid (HCa.out.hol w12 HW12.out)
          unfold ndV at HC
          have re := ((HJ12.out.na)).c8r
          obtain ⟨r0, r1, r2, r3, r4, r5, r6, r7⟩ := re
          have rl := (HJ12.out.na).lt

          go_wp2_with fail
          refine HC.out.mono ?_
          rintro e w13 ⟨rfl, hbl⟩
          have HJ13 := Lib.hid (HJ12.out.below hbl)
          have HW13 := Lib.hid (HW12.out.trans (hbl.mono HW12.out.size))
          have HZ13 := Lib.hid (HZ12.out.trans (hbl.mono HZ12.out.size))
          clear hbl HC HJ12 HW12 HZ12
          clear r0 r1 r2 r3 r4 r5 r6 r7 rl

          dsimp only

          have HC := Lib.hid (HCb.out.hol w13 HW13.out)
          unfold ndV at HC
          have re := ((HJ13.out.nb)).c8r
          obtain ⟨r0, r1, r2, r3, r4, r5, r6, r7⟩ := re
          have rl := (HJ13.out.nb).lt

          go_wp2_with fail
          refine HC.out.mono ?_
          rintro e w14 ⟨rfl, hbl⟩
          have HJ14 := Lib.hid (HJ13.out.below hbl)
          have HW14 := Lib.hid (HW13.out.trans (hbl.mono HW13.out.size))
          have HZ14 := Lib.hid (HZ13.out.trans (hbl.mono HZ13.out.size))
          clear hbl HC HJ13 HW13 HZ13
          clear r0 r1 r2 r3 r4 r5 r6 r7 rl

          dsimp only

          go_wp2_with fail
          go_meet
          exact ⟨rfl, HZ14⟩
        | true =>
          obtain rfl : r = true := HRR.out
          obtain rfl : s = true := HSS.out
          have HCa := Lib.hid (show TC a Ba ca w5 sa false na true fa v from HCa.out)
          have HCb := Lib.hid (show TC b Bb cb w5 sb false nb true fb wd from HCb.out)
          have HZ12 := Lib.hid (Below.refl w12.heap.size w12)
          have HC := Lib.hid (HCa.out.hol w12 HW12.out)
          unfold ndV at HC
          have re := ((HJ12.out.na)).c8r
          obtain ⟨r0, r1, r2, r3, r4, r5, r6, r7⟩ := re
          have rl := (HJ12.out.na).lt

          go_wp2_with fail
          refine HC.out.mono ?_
          rintro e w13 ⟨rfl, hbl⟩
          have HJ13 := Lib.hid (HJ12.out.below hbl)
          have HW13 := Lib.hid (HW12.out.trans (hbl.mono HW12.out.size))
          have HZ13 := Lib.hid (HZ12.out.trans (hbl.mono HZ12.out.size))
          clear hbl HC HJ12 HW12 HZ12
          clear r0 r1 r2 r3 r4 r5 r6 r7 rl

          dsimp only

          have HC := Lib.hid (HCb.out.hol w13 HW13.out)
          unfold ndV at HC
          have re := ((HJ13.out.nb)).c8r
          obtain ⟨r0, r1, r2, r3, r4, r5, r6, r7⟩ := re
          have rl := (HJ13.out.nb).lt

          go_wp2_with fail
          refine HC.out.mono ?_
          rintro e w14 ⟨rfl, hbl⟩
          have HJ14 := Lib.hid (HJ13.out.below hbl)
          have HW14 := Lib.hid (HW13.out.trans (hbl.mono HW13.out.size))
          have HZ14 := Lib.hid (HZ13.out.trans (hbl.mono HZ13.out.size))
          clear hbl HC HJ13 HW13 HZ13
          clear r0 r1 r2 r3 r4 r5 r6 r7 rl

          dsimp only

          have cv := bytes_strM kv ((HVv.out.below HZ14.out).more HZ14.out.size)
          have cw := bytes_strM kw ((HVwd.out.below HZ14.out).more HZ14.out.size)
          have cu := bytes_strM ku ((HVu.out.below HZ14.out).more HZ14.out.size)
          have hlv := HVv.out.2.1
          have hlw := HVwd.out.2.1
          have hadd : Op.stringOp .add (strOf v) (strOf wd) = pure (.string (strOf u)) := by
            unfold Op.stringOp
            dsimp only
            rw [if_neg (by rw [strOf_size, strOf_size]; exact Int.not_lt.2 (Int.le_trans (show (((v.length + wd.length : Nat)) : Int) ≤ 300000000000000 by omega) (by decide))), strOf_append, ← HU.out trivial]
          have hee : ((strOf u).toList == (strOf u).toList) = true := by simp
          generalize strOf u = su at *
          generalize strOf v = sv at *
          generalize strOf wd = sw at *
          clear hlv hlw
          go_wp2_with fail
          go_meet
          exact ⟨rfl, HZ14⟩
    case rest =>
    obtain ⟨rfl, HZ⟩ := hcut
    have HJ13 := Lib.hid (HJ12.out.below HZ.out)
    have HW13 := Lib.hid (HW12.out.trans (HZ.out.mono HW12.out.size))
    have HVv := Lib.hid ((HVv.out.below HZ.out).more HZ.out.size)
    have HVwd := Lib.hid ((HVwd.out.below HZ.out).more HZ.out.size)
    have HVt := Lib.hid ((HVt.out.below HZ.out).more HZ.out.size)
    clear HJ12 HW12 HZ HU HVu HRR
    go_upto_region 11 with fail
    go_cut [132] from 96 to 132 (fun c wx => c = .bool false ∧ Hid (wx = wc))
    case first =>
      have cv := bytes_strM kv HVv.out
      have cw := bytes_strM kw HVwd.out
      have ct := bytes_strM kt HVt.out
      have HL1 := Lib.hid (rless_go kv kt HVv.out HVt.out)
      have HL2 := Lib.hid (rless_go kw kt HVwd.out HVt.out)
      by_cases hpq : p = false ∧ q = false
      · obtain ⟨rfl, rfl⟩ := hpq
        obtain rfl : s = false := HSS.out
        go_wp2_with fail
        go_meet
        exact ⟨rfl, Lib.hid rfl⟩
      obtain rfl : s = true := HSS.out.trans (by cases p <;> cases q <;> simp at hpq ⊢)
      have hs : true = true := rfl
      have ht := HTT.out hs
      have htv := HTV.out hs
      have htw := HTW.out hs
      have hlv : p = true → Calls Tryz.prog 45 #[.slice Av v.length kv, .slice At t.length kt] wc fun e w' => e = .returned (.bool false) ∧ wc = w' := fun h => by
        have := HL1.out
        rw [htv h] at this
        exact this
      have hlw : q = true → Calls Tryz.prog 45 #[.slice Aw wd.length kw, .slice At t.length kt] wc fun e w' => e = .returned (.bool false) ∧ wc = w' := fun h => by
        have := HL2.out
        rw [htw h] at this
        exact this
      have HLv := Lib.hid hlv
      have HLw := Lib.hid hlw
      clear hlv hlw htv htw HL1 HL2 hs hpq
      by_cases htv : t = v
      · subst htv
        have hee : ((strOf t).toList == (strOf t).toList) = true := by simp
        clear ht
        generalize strOf t = sv at *
        generalize strOf wd = sw at *
        cases p with
        | false =>
          cases q with
          | false =>
            go_wp2_with fail
            go_meet
            exact ⟨rfl, Lib.hid rfl⟩
          | true =>
            have HC := Lib.hid (HLw.out rfl)
            go_wp2_with fail
            refine HC.out.mono ?_
            rintro e wz ⟨rfl, rfl⟩
            clear HC
            dsimp only
            go_wp2_with fail
            go_meet
            exact ⟨rfl, Lib.hid rfl⟩
        | true =>
          have HC := Lib.hid (HLv.out rfl)
          go_wp2_with fail
          refine HC.out.mono ?_
          rintro e wz ⟨rfl, rfl⟩
          clear HC
          dsimp only
          cases q with
          | false =>
            go_wp2_with fail
            go_meet
            exact ⟨rfl, Lib.hid rfl⟩
          | true =>
            have HC := Lib.hid (HLw.out rfl)
            go_wp2_with fail
            refine HC.out.mono ?_
            rintro e wz ⟨rfl, rfl⟩
            clear HC
            dsimp only
            go_wp2_with fail
            go_meet
            exact ⟨rfl, Lib.hid rfl⟩
      · have h1 : t = wd := ht.resolve_left htv
        subst h1
        have hee : ((strOf t).toList == (strOf t).toList) = true := by simp
        have hne := str_ne HVt.out.1 HVv.out.1 htv
        clear ht htv
        generalize strOf v = sv at *
        generalize strOf t = st at *
        cases p with
        | false =>
          cases q with
          | false =>
            go_wp2_with fail
            go_meet
            exact ⟨rfl, Lib.hid rfl⟩
          | true =>
            have HC := Lib.hid (HLw.out rfl)
            go_wp2_with fail
            refine HC.out.mono ?_
            rintro e wz ⟨rfl, rfl⟩
            clear HC
            dsimp only
            go_wp2_with fail
            go_meet
            exact ⟨rfl, Lib.hid rfl⟩
        | true =>
          have HC := Lib.hid (HLv.out rfl)
          go_wp2_with fail
          refine HC.out.mono ?_
          rintro e wz ⟨rfl, rfl⟩
          clear HC
          dsimp only
          cases q with
          | false =>
            go_wp2_with fail
            go_meet
            exact ⟨rfl, Lib.hid rfl⟩
          | true =>
            have HC := Lib.hid (HLw.out rfl)
            go_wp2_with fail
            refine HC.out.mono ?_
            rintro e wz ⟨rfl, rfl⟩
            clear HC
            dsimp only
            go_wp2_with fail
            go_meet
            exact ⟨rfl, Lib.hid rfl⟩
    case rest =>
    obtain ⟨rfl, hwc⟩ := hcut
    obtain rfl := hwc.out
    have hln : ((v.length : Int) == max sa 0) = true := by rw [beq_iff_eq]; exact HLN.out
    have Hfy := Lib.hid (fun (w' : World) (h : (∀ b o, b < wc.heap.size → w'.cell? ⟨b, o, none⟩ = wc.cell? ⟨b, o, none⟩) ∧ Since wc.heap.size wc w') => HCy.out.fir w' (HW13.out.trans (h.2.1.mono HW13.out.size)))
    have Hfa := Lib.hid (fun (w' : World) (h : (∀ b o, b < wc.heap.size → w'.cell? ⟨b, o, none⟩ = wc.cell? ⟨b, o, none⟩) ∧ Since wc.heap.size wc w') => HCa.out.fir w' (HW13.out.trans (h.2.1.mono HW13.out.size)))
    have Hfb := Lib.hid (fun (w' : World) (h : (∀ b o, b < wc.heap.size → w'.cell? ⟨b, o, none⟩ = wc.cell? ⟨b, o, none⟩) ∧ Since wc.heap.size wc w') => HCb.out.fir w' (HW13.out.trans (h.2.1.mono HW13.out.size)))
    have Hnx := Lib.hid (fun (w' : World) (h : (∀ b o, b < wc.heap.size → w'.cell? ⟨b, o, none⟩ = wc.cell? ⟨b, o, none⟩) ∧ Since wc.heap.size wc w') => HCx.out.nul w' (HW13.out.trans (h.2.1.mono HW13.out.size)))
    have Hna := Lib.hid (fun (w' : World) (h : (∀ b o, b < wc.heap.size → w'.cell? ⟨b, o, none⟩ = wc.cell? ⟨b, o, none⟩) ∧ Since wc.heap.size wc w') => HCa.out.nul w' (HW13.out.trans (h.2.1.mono HW13.out.size)))
    have Hnb := Lib.hid (fun (w' : World) (h : (∀ b o, b < wc.heap.size → w'.cell? ⟨b, o, none⟩ = wc.cell? ⟨b, o, none⟩) ∧ Since wc.heap.size wc w') => HCb.out.nul w' (HW13.out.trans (h.2.1.mono HW13.out.size)))
    have Hsa := Lib.hid (fun (w' : World) (h : (∀ b o, b < wc.heap.size → w'.cell? ⟨b, o, none⟩ = wc.cell? ⟨b, o, none⟩) ∧ Since wc.heap.size wc w') => HCa.out.sho w' (HW13.out.trans (h.2.1.mono HW13.out.size)))
    have Hkn := Lib.hid (fun (w' : World) (h : (∀ b o, b < wc.heap.size → w'.cell? ⟨b, o, none⟩ = wc.cell? ⟨b, o, none⟩) ∧ Since wc.heap.size wc w') => HK.out w' (HW13.out.trans (h.2.1.mono HW13.out.size)))
    have Hu := Lib.hid (fun (W : World) => union2_at fa fb (W.alloc (.cells #[.int .u64 ((word (fa) 0 : Nat) : Int), .int .u64 ((word (fa) 1 : Nat) : Int), .int .u64 ((word (fa) 2 : Nat) : Int), .int .u64 ((word (fa) 3 : Nat) : Int), .int .u64 ((word (fb) 0 : Nat) : Int), .int .u64 ((word (fb) 1 : Nat) : Int), .int .u64 ((word (fb) 2 : Nat) : Int), .int .u64 ((word (fb) 3 : Nat) : Int)] 25)) W.heap.size (Blk.new _ _ _))
    unfold ndV at Hfy Hfa Hfb Hnx Hna Hnb Hsa
    clear HCa HCb HCx HCy HK HVt HVwd HTT HTV HTW HSS hwc
    have iae := ((HJ13.out.na)).c8r
    obtain ⟨ia0, ia1, ia2, ia3, ia4, ia5, ia6, ia7⟩ := iae
    have ial := (HJ13.out.na).lt
    have ibe := ((HJ13.out.nb)).c8r
    obtain ⟨ib0, ib1, ib2, ib3, ib4, ib5, ib6, ib7⟩ := ibe
    have ibl := (HJ13.out.nb).lt
    have ixe := ((HJ13.out.nx)).c8r
    obtain ⟨ix0, ix1, ix2, ix3, ix4, ix5, ix6, ix7⟩ := ixe
    have ixl := (HJ13.out.nx).lt
    have iye := ((HJ13.out.ny)).c8r
    obtain ⟨iy0, iy1, iy2, iy3, iy4, iy5, iy6, iy7⟩ := iye
    have iyl := (HJ13.out.ny).lt
    have T1 := Lib.hid trivial
    have T2 := Lib.hid trivial
    have T3 := Lib.hid trivial
    have T4 := Lib.hid trivial
    generalize word (orB fa fb) 0 = y0 at *
    generalize word (orB fa fb) 1 = y1 at *
    generalize word (orB fa fb) 2 = y2 at *
    generalize word (orB fa fb) 3 = y3 at *
    go_upto_region 13 with fail
    cases na with
    | false =>
      obtain rfl : nx = false := HNX.out
      refine wp_region_noPanic ?_
      refine wp_region_held_drew (S := fun w' => (∀ b o, b < wc.heap.size → w'.cell? ⟨b, o, none⟩ = wc.cell? ⟨b, o, none⟩) ∧ Since wc.heap.size wc w') (by kernel_rfl) (since_start (Nat.le_refl _)) (fun hHeld => ?_)
      have hs := since_start (w0 := wc) (Nat.le_refl wc.heap.size)
      refine wpAnyH_take (i := 0) (oi := _) (v := ?_) rfl (by kernel_rfl) (by kernel_rfl) (by kernel_rfl) (fun _ _ _ h => h) (Or.inl ⟨by kernel_rfl, ?_⟩) (by assumption) ?_
      rotate_left
      · intro w hSw
        try dsimp only at hSw
        go_simp
        try (with_reducible rfl)
      try simp only [Act.put, List.getElem_toArray, List.getElem_cons_zero, List.getElem_cons_succ, List.setIfInBounds_toArray, List.set_cons_zero, List.set_cons_succ]

      refine wpAnyH_take (i := 2) (oi := _) (v := ?_) rfl (by kernel_rfl) (by kernel_rfl) (by kernel_rfl) (fun _ _ _ h => h) (Or.inl ⟨by kernel_rfl, ?_⟩) (by assumption) ?_
      rotate_left
      · intro w hSw
        try dsimp only at hSw
        go_simp
        try (with_reducible rfl)
      try simp only [Act.put, List.getElem_toArray, List.getElem_cons_zero, List.getElem_cons_succ, List.setIfInBounds_toArray, List.set_cons_zero, List.set_cons_succ]

      refine wpAnyH_take (i := 4) (oi := _) (v := ?_) rfl (by kernel_rfl) (by kernel_rfl) (by kernel_rfl) (fun _ _ _ h => h) (Or.inl ⟨by kernel_rfl, ?_⟩) (by assumption) ?_
      rotate_left
      · intro w hSw
        try dsimp only at hSw
        go_simp
        try (with_reducible rfl)
      try simp only [Act.put, List.getElem_toArray, List.getElem_cons_zero, List.getElem_cons_succ, List.setIfInBounds_toArray, List.set_cons_zero, List.set_cons_succ]

      refine wpAnyH_ready (rs := [1]) (by kernel_rfl) (by simp) ?_
      refine AllReadyH.cons (o := _) rfl (fun K hK => ?_) AllReadyH.nil

      go_simp
      go_at_call 20
      refine (Hfy.out _ hs).mono ?_
      rintro e x1 ⟨rfl, hb'⟩
      have hs := since_step hs hb'
      refine hK.out _ _ hs (fun _ => ?_)
      clear hK K hb'
      try simp only [Act.put, List.getElem_toArray, List.getElem_cons_zero, List.getElem_cons_succ, List.setIfInBounds_toArray, List.set_cons_zero, List.set_cons_succ]


      refine wpAnyH_ready (rs := [3]) (by kernel_rfl) (by simp) ?_
      refine AllReadyH.cons (o := _) rfl (fun K hK => ?_) AllReadyH.nil

      go_simp
      go_at_call 20
      refine (Hfa.out _ hs).mono ?_
      rintro e x2 ⟨rfl, hb'⟩
      have hs := since_step hs hb'
      refine hK.out _ _ hs (fun _ => ?_)
      clear hK K hb'
      try simp only [Act.put, List.getElem_toArray, List.getElem_cons_zero, List.getElem_cons_succ, List.setIfInBounds_toArray, List.set_cons_zero, List.set_cons_succ]


      refine wpAnyH_ready (rs := [5]) (by kernel_rfl) (by simp) ?_
      refine AllReadyH.cons (o := _) rfl (fun K hK => ?_) AllReadyH.nil

      go_simp
      go_at_call 20
      refine (Hfb.out _ hs).mono ?_
      rintro e x3 ⟨rfl, hb'⟩
      have hs := since_step hs hb'
      refine hK.out _ _ hs (fun _ => ?_)
      clear hK K hb'
      try simp only [Act.put, List.getElem_toArray, List.getElem_cons_zero, List.getElem_cons_succ, List.setIfInBounds_toArray, List.set_cons_zero, List.set_cons_succ]


      refine wpAnyH_ready (rs := [6]) (by kernel_rfl) (by simp) ?_
      refine AllReadyH.cons (o := _) rfl (fun K hK => ?_) AllReadyH.nil

      go_simp
      have hs := since_alloc hs (.cells #[.int .u64 ((word (fa) 0 : Nat) : Int), .int .u64 ((word (fa) 1 : Nat) : Int), .int .u64 ((word (fa) 2 : Nat) : Int), .int .u64 ((word (fa) 3 : Nat) : Int), .int .u64 ((word (fb) 0 : Nat) : Int), .int .u64 ((word (fb) 1 : Nat) : Int), .int .u64 ((word (fb) 2 : Nat) : Int), .int .u64 ((word (fb) 3 : Nat) : Int)] 25)
      refine hK.out _ _ hs (fun _ => ?_)
      clear hK K
      try simp only [Act.put, List.getElem_toArray, List.getElem_cons_zero, List.getElem_cons_succ, List.setIfInBounds_toArray, List.set_cons_zero, List.set_cons_succ]

      refine wpAnyH_ready (rs := [7]) (by kernel_rfl) (by simp) ?_
      refine AllReadyH.cons (o := _) rfl (fun K hK => ?_) AllReadyH.nil

      go_simp
      go_at_call 46
      refine (Hu.out x3).mono ?_
      rintro e x4 ⟨rfl, hb'⟩
      have hs := since_step hs hb'
      refine hK.out _ _ hs (fun _ => ?_)
      clear hK K hb'
      try simp only [Act.put, List.getElem_toArray, List.getElem_cons_zero, List.getElem_cons_succ, List.setIfInBounds_toArray, List.set_cons_zero, List.set_cons_succ]


      refine wpAnyH_take (i := 8) (oi := _) (v := ?_) rfl (by kernel_rfl) (by kernel_rfl) (by kernel_rfl) (fun _ _ _ h => h) (Or.inl ⟨by kernel_rfl, ?_⟩) (by assumption) ?_
      rotate_left
      · intro w hSw
        try dsimp only at hSw
        go_simp
        try (with_reducible rfl)
      try simp only [Act.put, List.getElem_toArray, List.getElem_cons_zero, List.getElem_cons_succ, List.setIfInBounds_toArray, List.set_cons_zero, List.set_cons_succ]

      refine wpAnyH_take (i := 9) (oi := _) (v := ?_) rfl (by kernel_rfl) (by kernel_rfl) (by kernel_rfl) (fun _ _ _ h => h) (Or.inl ⟨by kernel_rfl, ?_⟩) (by assumption) ?_
      rotate_left
      · intro w hSw
        try dsimp only at hSw
        go_simp
        try (with_reducible rfl)
      try simp only [Act.put, List.getElem_toArray, List.getElem_cons_zero, List.getElem_cons_succ, List.setIfInBounds_toArray, List.set_cons_zero, List.set_cons_succ]

      refine wpAnyH_take (i := 10) (oi := _) (v := ?_) rfl (by kernel_rfl) (by kernel_rfl) (by kernel_rfl) (fun _ _ _ h => h) (Or.inl ⟨by kernel_rfl, ?_⟩) (by assumption) ?_
      rotate_left
      · intro w hSw
        try dsimp only at hSw
        go_simp
        try (with_reducible rfl)
      try simp only [Act.put, List.getElem_toArray, List.getElem_cons_zero, List.getElem_cons_succ, List.setIfInBounds_toArray, List.set_cons_zero, List.set_cons_succ]

      refine wpAnyH_take (i := 12) (oi := _) (v := ?_) rfl (by kernel_rfl) (by kernel_rfl) (by kernel_rfl) (fun _ _ _ h => h) (Or.inl ⟨by kernel_rfl, ?_⟩) (by assumption) ?_
      rotate_left
      · intro w hSw
        try dsimp only at hSw
        go_simp
        try (with_reducible rfl)
      try simp only [Act.put, List.getElem_toArray, List.getElem_cons_zero, List.getElem_cons_succ, List.setIfInBounds_toArray, List.set_cons_zero, List.set_cons_succ]

      refine wpAnyH_ready (rs := [11]) (by kernel_rfl) (by simp) ?_
      refine AllReadyH.cons (o := _) rfl (fun K hK => ?_) AllReadyH.nil

      go_simp
      go_at_call 47
      refine (Hnx.out _ hs).mono ?_
      rintro e x5 ⟨rfl, hb'⟩
      have hs := since_step hs hb'
      refine hK.out _ _ hs (fun _ => ?_)
      clear hK K hb'
      try simp only [Act.put, List.getElem_toArray, List.getElem_cons_zero, List.getElem_cons_succ, List.setIfInBounds_toArray, List.set_cons_zero, List.set_cons_succ]


      refine wpAnyH_ready (rs := [13]) (by kernel_rfl) (by simp) ?_
      refine AllReadyH.cons (o := _) rfl (fun K hK => ?_) AllReadyH.nil

      go_simp
      go_at_call 47
      refine (Hna.out _ hs).mono ?_
      rintro e x6 ⟨rfl, hb'⟩
      have hs := since_step hs hb'
      refine hK.out _ _ hs (fun _ => ?_)
      clear hK K hb'
      try simp only [Act.put, List.getElem_toArray, List.getElem_cons_zero, List.getElem_cons_succ, List.setIfInBounds_toArray, List.set_cons_zero, List.set_cons_succ]


      refine wpAnyH_take (i := 14) (oi := _) (v := ?_) rfl (by kernel_rfl) (by kernel_rfl) (by kernel_rfl) (fun _ _ _ h => h) (Or.inl ⟨by kernel_rfl, ?_⟩) (by assumption) ?_
      rotate_left
      · intro w hSw
        try dsimp only at hSw
        go_simp
        try (with_reducible rfl)
      try simp only [Act.put, List.getElem_toArray, List.getElem_cons_zero, List.getElem_cons_succ, List.setIfInBounds_toArray, List.set_cons_zero, List.set_cons_succ]

      refine wpAnyH_take (i := 15) (oi := _) (v := undef) rfl (by kernel_rfl) (by kernel_rfl) (by kernel_rfl) (fun _ _ _ h => h) (Or.inr ⟨by kernel_rfl, rfl⟩) (by assumption) ?_
      try simp only [Act.put, List.getElem_toArray, List.getElem_cons_zero, List.getElem_cons_succ, List.setIfInBounds_toArray, List.set_cons_zero, List.set_cons_succ]

      refine wpAnyH_ready (rs := [16]) (by kernel_rfl) (by simp) ?_
      refine AllReadyH.cons (o := _) rfl (fun K hK => ?_) AllReadyH.nil

      go_simp
      refine hK.out _ _ hs (fun _ => ?_)
      clear hK K
      try simp only [Act.put, List.getElem_toArray, List.getElem_cons_zero, List.getElem_cons_succ, List.setIfInBounds_toArray, List.set_cons_zero, List.set_cons_succ]

      refine wpAnyH_take (i := 17) (oi := _) (v := ?_) rfl (by kernel_rfl) (by kernel_rfl) (by kernel_rfl) (fun _ _ _ h => h) (Or.inl ⟨by kernel_rfl, ?_⟩) (by assumption) ?_
      rotate_left
      · intro w hSw
        try dsimp only at hSw
        go_simp
        try (with_reducible rfl)
      try simp only [Act.put, List.getElem_toArray, List.getElem_cons_zero, List.getElem_cons_succ, List.setIfInBounds_toArray, List.set_cons_zero, List.set_cons_succ]

      refine wpAnyH_take (i := 18) (oi := _) (v := ?_) rfl (by kernel_rfl) (by kernel_rfl) (by kernel_rfl) (fun _ _ _ h => h) (Or.inl ⟨by kernel_rfl, ?_⟩) (by assumption) ?_
      rotate_left
      · intro w hSw
        try dsimp only at hSw
        go_simp
        try (with_reducible rfl)
      try simp only [Act.put, List.getElem_toArray, List.getElem_cons_zero, List.getElem_cons_succ, List.setIfInBounds_toArray, List.set_cons_zero, List.set_cons_succ]

      refine wpAnyH_take (i := 19) (oi := _) (v := ?_) rfl (by kernel_rfl) (by kernel_rfl) (by kernel_rfl) (fun _ _ _ h => h) (Or.inl ⟨by kernel_rfl, ?_⟩) (by assumption) ?_
      rotate_left
      · intro w hSw
        try dsimp only at hSw
        go_simp
        try (with_reducible rfl)
      try simp only [Act.put, List.getElem_toArray, List.getElem_cons_zero, List.getElem_cons_succ, List.setIfInBounds_toArray, List.set_cons_zero, List.set_cons_succ]

      refine wpAnyH_take (i := 20) (oi := _) (v := ?_) rfl (by kernel_rfl) (by kernel_rfl) (by kernel_rfl) (fun _ _ _ h => h) (Or.inl ⟨by kernel_rfl, ?_⟩) (by assumption) ?_
      rotate_left
      · intro w hSw
        try dsimp only at hSw
        go_simp
        try (with_reducible rfl)
      try simp only [Act.put, List.getElem_toArray, List.getElem_cons_zero, List.getElem_cons_succ, List.setIfInBounds_toArray, List.set_cons_zero, List.set_cons_succ]

      refine wpAnyH_take (i := 21) (oi := _) (v := ?_) rfl (by kernel_rfl) (by kernel_rfl) (by kernel_rfl) (fun _ _ _ h => h) (Or.inl ⟨by kernel_rfl, ?_⟩) (by assumption) ?_
      rotate_left
      · intro w hSw
        try dsimp only at hSw
        go_simp
        try (with_reducible rfl)
      try simp only [Act.put, List.getElem_toArray, List.getElem_cons_zero, List.getElem_cons_succ, List.setIfInBounds_toArray, List.set_cons_zero, List.set_cons_succ]

      refine wpAnyH_take (i := 22) (oi := _) (v := ?_) rfl (by kernel_rfl) (by kernel_rfl) (by kernel_rfl) (fun _ _ _ h => h) (Or.inl ⟨by kernel_rfl, ?_⟩) (by assumption) ?_
      rotate_left
      · intro w hSw
        try dsimp only at hSw
        go_simp
        try (with_reducible rfl)
      try simp only [Act.put, List.getElem_toArray, List.getElem_cons_zero, List.getElem_cons_succ, List.setIfInBounds_toArray, List.set_cons_zero, List.set_cons_succ]

      refine wpAnyH_take (i := 23) (oi := _) (v := ?_) rfl (by kernel_rfl) (by kernel_rfl) (by kernel_rfl) (fun _ _ _ h => h) (Or.inl ⟨by kernel_rfl, ?_⟩) (by assumption) ?_
      rotate_left
      · intro w hSw
        try dsimp only at hSw
        go_simp
        try (with_reducible rfl)
      try simp only [Act.put, List.getElem_toArray, List.getElem_cons_zero, List.getElem_cons_succ, List.setIfInBounds_toArray, List.set_cons_zero, List.set_cons_succ]

      refine wpAnyH_ready (rs := [24]) (by kernel_rfl) (by simp) ?_
      refine AllReadyH.cons (o := _) rfl (fun K hK => ?_) AllReadyH.nil

      go_simp
      go_at_call 16
      refine (Hsa.out _ hs).mono ?_
      rintro e x8 ⟨rfl, hb'⟩
      have hs := since_step hs hb'
      refine hK.out _ _ hs (fun _ => ?_)
      clear hK K hb'
      try simp only [Act.put, List.getElem_toArray, List.getElem_cons_zero, List.getElem_cons_succ, List.setIfInBounds_toArray, List.set_cons_zero, List.set_cons_succ]


      refine wpAnyH_take (i := 25) (oi := _) (v := ?_) rfl (by kernel_rfl) (by kernel_rfl) (by kernel_rfl) (fun _ _ _ h => h) (Or.inl ⟨by kernel_rfl, ?_⟩) (by assumption) ?_
      rotate_left
      · intro w hSw
        try dsimp only at hSw
        go_simp
        try (with_reducible rfl)
      try simp only [Act.put, List.getElem_toArray, List.getElem_cons_zero, List.getElem_cons_succ, List.setIfInBounds_toArray, List.set_cons_zero, List.set_cons_succ]

      refine wpAnyH_take (i := 26) (oi := _) (v := ?_) rfl (by kernel_rfl) (by kernel_rfl) (by kernel_rfl) (fun _ _ _ h => h) (Or.inl ⟨by kernel_rfl, ?_⟩) (by assumption) ?_
      rotate_left
      · intro w hSw
        try dsimp only at hSw
        go_simp
        try (with_reducible rfl)
      try simp only [Act.put, List.getElem_toArray, List.getElem_cons_zero, List.getElem_cons_succ, List.setIfInBounds_toArray, List.set_cons_zero, List.set_cons_succ]

      refine wpAnyH_take (i := 27) (oi := _) (v := ?_) rfl (by kernel_rfl) (by kernel_rfl) (by kernel_rfl) (fun _ _ _ h => h) (Or.inl ⟨by kernel_rfl, ?_⟩) (by assumption) ?_
      rotate_left
      · intro w hSw
        try dsimp only at hSw
        go_simp
        try (with_reducible rfl)
      try simp only [Act.put, List.getElem_toArray, List.getElem_cons_zero, List.getElem_cons_succ, List.setIfInBounds_toArray, List.set_cons_zero, List.set_cons_succ]

      refine wpAnyH_take (i := 28) (oi := _) (v := ?_) rfl (by kernel_rfl) (by kernel_rfl) (by kernel_rfl) (fun _ _ _ h => h) (Or.inl ⟨by kernel_rfl, ?_⟩) (by assumption) ?_
      rotate_left
      · intro w hSw
        try dsimp only at hSw
        go_simp
        try (with_reducible rfl)
      try simp only [Act.put, List.getElem_toArray, List.getElem_cons_zero, List.getElem_cons_succ, List.setIfInBounds_toArray, List.set_cons_zero, List.set_cons_succ]

      refine wpAnyH_ready (rs := [29]) (by kernel_rfl) (by simp) ?_
      refine AllReadyH.cons (o := _) rfl (fun K hK => ?_) AllReadyH.nil

      go_simp
      go_at_call 12
      refine (Hkn.out _ hs).mono ?_
      rintro e x9 ⟨rfl, hb'⟩
      have hs := since_step hs hb'
      refine hK.out _ _ hs (fun _ => ?_)
      clear hK K hb'
      try simp only [Act.put, List.getElem_toArray, List.getElem_cons_zero, List.getElem_cons_succ, List.setIfInBounds_toArray, List.set_cons_zero, List.set_cons_succ]


      refine wpAnyH_take (i := 30) (oi := _) (v := ?_) rfl (by kernel_rfl) (by kernel_rfl) (by kernel_rfl) (fun _ _ _ h => h) (Or.inl ⟨by kernel_rfl, ?_⟩) (by assumption) ?_
      rotate_left
      · intro w hSw
        try dsimp only at hSw
        go_simp
        try (with_reducible rfl)
      try simp only [Act.put, List.getElem_toArray, List.getElem_cons_zero, List.getElem_cons_succ, List.setIfInBounds_toArray, List.set_cons_zero, List.set_cons_succ]

      refine wpAnyH_take (i := 31) (oi := _) (v := ?_) rfl (by kernel_rfl) (by kernel_rfl) (by kernel_rfl) (fun _ _ _ h => h) (Or.inl ⟨by kernel_rfl, ?_⟩) (by assumption) ?_
      rotate_left
      · intro w hSw
        try dsimp only at hSw
        go_simp
        try (with_reducible rfl)
      try simp only [Act.put, List.getElem_toArray, List.getElem_cons_zero, List.getElem_cons_succ, List.setIfInBounds_toArray, List.set_cons_zero, List.set_cons_succ]

      have HB9 := Lib.hid (HJ13.out.bel.trans (hs.2.1.mono HJ13.out.bel.size))
      refine wpAnyH_done (by kernel_rfl) ?_ _
      refine NoPanic.normal ?_
      clear hs
      go_wp2
      go_light
      go_ret
      refine ⟨?_, HB9.out⟩
      simp
    | true =>
      cases nb with
      | false =>
        obtain rfl : nx = false := HNX.out
        refine wp_region_noPanic ?_
        refine wp_region_held_drew (S := fun w' => (∀ b o, b < wc.heap.size → w'.cell? ⟨b, o, none⟩ = wc.cell? ⟨b, o, none⟩) ∧ Since wc.heap.size wc w') (by kernel_rfl) (since_start (Nat.le_refl _)) (fun hHeld => ?_)
        have hs := since_start (w0 := wc) (Nat.le_refl wc.heap.size)
        refine wpAnyH_take (i := 0) (oi := _) (v := ?_) rfl (by kernel_rfl) (by kernel_rfl) (by kernel_rfl) (fun _ _ _ h => h) (Or.inl ⟨by kernel_rfl, ?_⟩) (by assumption) ?_
        rotate_left
        · intro w hSw
          try dsimp only at hSw
          go_simp
          try (with_reducible rfl)
        try simp only [Act.put, List.getElem_toArray, List.getElem_cons_zero, List.getElem_cons_succ, List.setIfInBounds_toArray, List.set_cons_zero, List.set_cons_succ]

        refine wpAnyH_take (i := 2) (oi := _) (v := ?_) rfl (by kernel_rfl) (by kernel_rfl) (by kernel_rfl) (fun _ _ _ h => h) (Or.inl ⟨by kernel_rfl, ?_⟩) (by assumption) ?_
        rotate_left
        · intro w hSw
          try dsimp only at hSw
          go_simp
          try (with_reducible rfl)
        try simp only [Act.put, List.getElem_toArray, List.getElem_cons_zero, List.getElem_cons_succ, List.setIfInBounds_toArray, List.set_cons_zero, List.set_cons_succ]

        refine wpAnyH_take (i := 4) (oi := _) (v := ?_) rfl (by kernel_rfl) (by kernel_rfl) (by kernel_rfl) (fun _ _ _ h => h) (Or.inl ⟨by kernel_rfl, ?_⟩) (by assumption) ?_
        rotate_left
        · intro w hSw
          try dsimp only at hSw
          go_simp
          try (with_reducible rfl)
        try simp only [Act.put, List.getElem_toArray, List.getElem_cons_zero, List.getElem_cons_succ, List.setIfInBounds_toArray, List.set_cons_zero, List.set_cons_succ]

        refine wpAnyH_ready (rs := [1]) (by kernel_rfl) (by simp) ?_
        refine AllReadyH.cons (o := _) rfl (fun K hK => ?_) AllReadyH.nil

        go_simp
        go_at_call 20
        refine (Hfy.out _ hs).mono ?_
        rintro e x1 ⟨rfl, hb'⟩
        have hs := since_step hs hb'
        refine hK.out _ _ hs (fun _ => ?_)
        clear hK K hb'
        try simp only [Act.put, List.getElem_toArray, List.getElem_cons_zero, List.getElem_cons_succ, List.setIfInBounds_toArray, List.set_cons_zero, List.set_cons_succ]


        refine wpAnyH_ready (rs := [3]) (by kernel_rfl) (by simp) ?_
        refine AllReadyH.cons (o := _) rfl (fun K hK => ?_) AllReadyH.nil

        go_simp
        go_at_call 20
        refine (Hfa.out _ hs).mono ?_
        rintro e x2 ⟨rfl, hb'⟩
        have hs := since_step hs hb'
        refine hK.out _ _ hs (fun _ => ?_)
        clear hK K hb'
        try simp only [Act.put, List.getElem_toArray, List.getElem_cons_zero, List.getElem_cons_succ, List.setIfInBounds_toArray, List.set_cons_zero, List.set_cons_succ]


        refine wpAnyH_ready (rs := [5]) (by kernel_rfl) (by simp) ?_
        refine AllReadyH.cons (o := _) rfl (fun K hK => ?_) AllReadyH.nil

        go_simp
        go_at_call 20
        refine (Hfb.out _ hs).mono ?_
        rintro e x3 ⟨rfl, hb'⟩
        have hs := since_step hs hb'
        refine hK.out _ _ hs (fun _ => ?_)
        clear hK K hb'
        try simp only [Act.put, List.getElem_toArray, List.getElem_cons_zero, List.getElem_cons_succ, List.setIfInBounds_toArray, List.set_cons_zero, List.set_cons_succ]


        refine wpAnyH_ready (rs := [6]) (by kernel_rfl) (by simp) ?_
        refine AllReadyH.cons (o := _) rfl (fun K hK => ?_) AllReadyH.nil

        go_simp
        have hs := since_alloc hs (.cells #[.int .u64 ((word (fa) 0 : Nat) : Int), .int .u64 ((word (fa) 1 : Nat) : Int), .int .u64 ((word (fa) 2 : Nat) : Int), .int .u64 ((word (fa) 3 : Nat) : Int), .int .u64 ((word (fb) 0 : Nat) : Int), .int .u64 ((word (fb) 1 : Nat) : Int), .int .u64 ((word (fb) 2 : Nat) : Int), .int .u64 ((word (fb) 3 : Nat) : Int)] 25)
        refine hK.out _ _ hs (fun _ => ?_)
        clear hK K
        try simp only [Act.put, List.getElem_toArray, List.getElem_cons_zero, List.getElem_cons_succ, List.setIfInBounds_toArray, List.set_cons_zero, List.set_cons_succ]

        refine wpAnyH_ready (rs := [7]) (by kernel_rfl) (by simp) ?_
        refine AllReadyH.cons (o := _) rfl (fun K hK => ?_) AllReadyH.nil

        go_simp
        go_at_call 46
        refine (Hu.out x3).mono ?_
        rintro e x4 ⟨rfl, hb'⟩
        have hs := since_step hs hb'
        refine hK.out _ _ hs (fun _ => ?_)
        clear hK K hb'
        try simp only [Act.put, List.getElem_toArray, List.getElem_cons_zero, List.getElem_cons_succ, List.setIfInBounds_toArray, List.set_cons_zero, List.set_cons_succ]


        refine wpAnyH_take (i := 8) (oi := _) (v := ?_) rfl (by kernel_rfl) (by kernel_rfl) (by kernel_rfl) (fun _ _ _ h => h) (Or.inl ⟨by kernel_rfl, ?_⟩) (by assumption) ?_
        rotate_left
        · intro w hSw
          try dsimp only at hSw
          go_simp
          try (with_reducible rfl)
        try simp only [Act.put, List.getElem_toArray, List.getElem_cons_zero, List.getElem_cons_succ, List.setIfInBounds_toArray, List.set_cons_zero, List.set_cons_succ]

        refine wpAnyH_take (i := 9) (oi := _) (v := ?_) rfl (by kernel_rfl) (by kernel_rfl) (by kernel_rfl) (fun _ _ _ h => h) (Or.inl ⟨by kernel_rfl, ?_⟩) (by assumption) ?_
        rotate_left
        · intro w hSw
          try dsimp only at hSw
          go_simp
          try (with_reducible rfl)
        try simp only [Act.put, List.getElem_toArray, List.getElem_cons_zero, List.getElem_cons_succ, List.setIfInBounds_toArray, List.set_cons_zero, List.set_cons_succ]

        refine wpAnyH_take (i := 10) (oi := _) (v := ?_) rfl (by kernel_rfl) (by kernel_rfl) (by kernel_rfl) (fun _ _ _ h => h) (Or.inl ⟨by kernel_rfl, ?_⟩) (by assumption) ?_
        rotate_left
        · intro w hSw
          try dsimp only at hSw
          go_simp
          try (with_reducible rfl)
        try simp only [Act.put, List.getElem_toArray, List.getElem_cons_zero, List.getElem_cons_succ, List.setIfInBounds_toArray, List.set_cons_zero, List.set_cons_succ]

        refine wpAnyH_take (i := 12) (oi := _) (v := ?_) rfl (by kernel_rfl) (by kernel_rfl) (by kernel_rfl) (fun _ _ _ h => h) (Or.inl ⟨by kernel_rfl, ?_⟩) (by assumption) ?_
        rotate_left
        · intro w hSw
          try dsimp only at hSw
          go_simp
          try (with_reducible rfl)
        try simp only [Act.put, List.getElem_toArray, List.getElem_cons_zero, List.getElem_cons_succ, List.setIfInBounds_toArray, List.set_cons_zero, List.set_cons_succ]

        refine wpAnyH_ready (rs := [11]) (by kernel_rfl) (by simp) ?_
        refine AllReadyH.cons (o := _) rfl (fun K hK => ?_) AllReadyH.nil

        go_simp
        go_at_call 47
        refine (Hnx.out _ hs).mono ?_
        rintro e x5 ⟨rfl, hb'⟩
        have hs := since_step hs hb'
        refine hK.out _ _ hs (fun _ => ?_)
        clear hK K hb'
        try simp only [Act.put, List.getElem_toArray, List.getElem_cons_zero, List.getElem_cons_succ, List.setIfInBounds_toArray, List.set_cons_zero, List.set_cons_succ]


        refine wpAnyH_ready (rs := [13]) (by kernel_rfl) (by simp) ?_
        refine AllReadyH.cons (o := _) rfl (fun K hK => ?_) AllReadyH.nil

        go_simp
        go_at_call 47
        refine (Hna.out _ hs).mono ?_
        rintro e x6 ⟨rfl, hb'⟩
        have hs := since_step hs hb'
        refine hK.out _ _ hs (fun _ => ?_)
        clear hK K hb'
        try simp only [Act.put, List.getElem_toArray, List.getElem_cons_zero, List.getElem_cons_succ, List.setIfInBounds_toArray, List.set_cons_zero, List.set_cons_succ]


        refine wpAnyH_take (i := 14) (oi := _) (v := ?_) rfl (by kernel_rfl) (by kernel_rfl) (by kernel_rfl) (fun _ _ _ h => h) (Or.inl ⟨by kernel_rfl, ?_⟩) (by assumption) ?_
        rotate_left
        · intro w hSw
          try dsimp only at hSw
          go_simp
          try (with_reducible rfl)
        try simp only [Act.put, List.getElem_toArray, List.getElem_cons_zero, List.getElem_cons_succ, List.setIfInBounds_toArray, List.set_cons_zero, List.set_cons_succ]

        refine wpAnyH_take (i := 15) (oi := _) (v := ?_) rfl (by kernel_rfl) (by kernel_rfl) (by kernel_rfl) (fun _ _ _ h => h) (Or.inl ⟨by kernel_rfl, ?_⟩) (by assumption) ?_
        rotate_left
        · intro w hSw
          try dsimp only at hSw
          go_simp
          try (with_reducible rfl)
        try simp only [Act.put, List.getElem_toArray, List.getElem_cons_zero, List.getElem_cons_succ, List.setIfInBounds_toArray, List.set_cons_zero, List.set_cons_succ]

        refine wpAnyH_ready (rs := [16]) (by kernel_rfl) (by simp) ?_
        refine AllReadyH.cons (o := _) rfl (fun K hK => ?_) AllReadyH.nil

        go_simp
        go_at_call 47
        refine (Hnb.out _ hs).mono ?_
        rintro e x7 ⟨rfl, hb'⟩
        have hs := since_step hs hb'
        refine hK.out _ _ hs (fun _ => ?_)
        clear hK K hb'
        try simp only [Act.put, List.getElem_toArray, List.getElem_cons_zero, List.getElem_cons_succ, List.setIfInBounds_toArray, List.set_cons_zero, List.set_cons_succ]


        refine wpAnyH_take (i := 17) (oi := _) (v := ?_) rfl (by kernel_rfl) (by kernel_rfl) (by kernel_rfl) (fun _ _ _ h => h) (Or.inl ⟨by kernel_rfl, ?_⟩) (by assumption) ?_
        rotate_left
        · intro w hSw
          try dsimp only at hSw
          go_simp
          try (with_reducible rfl)
        try simp only [Act.put, List.getElem_toArray, List.getElem_cons_zero, List.getElem_cons_succ, List.setIfInBounds_toArray, List.set_cons_zero, List.set_cons_succ]

        refine wpAnyH_take (i := 18) (oi := _) (v := ?_) rfl (by kernel_rfl) (by kernel_rfl) (by kernel_rfl) (fun _ _ _ h => h) (Or.inl ⟨by kernel_rfl, ?_⟩) (by assumption) ?_
        rotate_left
        · intro w hSw
          try dsimp only at hSw
          go_simp
          try (with_reducible rfl)
        try simp only [Act.put, List.getElem_toArray, List.getElem_cons_zero, List.getElem_cons_succ, List.setIfInBounds_toArray, List.set_cons_zero, List.set_cons_succ]

        refine wpAnyH_take (i := 19) (oi := _) (v := ?_) rfl (by kernel_rfl) (by kernel_rfl) (by kernel_rfl) (fun _ _ _ h => h) (Or.inl ⟨by kernel_rfl, ?_⟩) (by assumption) ?_
        rotate_left
        · intro w hSw
          try dsimp only at hSw
          go_simp
          try (with_reducible rfl)
        try simp only [Act.put, List.getElem_toArray, List.getElem_cons_zero, List.getElem_cons_succ, List.setIfInBounds_toArray, List.set_cons_zero, List.set_cons_succ]

        refine wpAnyH_take (i := 20) (oi := _) (v := ?_) rfl (by kernel_rfl) (by kernel_rfl) (by kernel_rfl) (fun _ _ _ h => h) (Or.inl ⟨by kernel_rfl, ?_⟩) (by assumption) ?_
        rotate_left
        · intro w hSw
          try dsimp only at hSw
          go_simp
          try (with_reducible rfl)
        try simp only [Act.put, List.getElem_toArray, List.getElem_cons_zero, List.getElem_cons_succ, List.setIfInBounds_toArray, List.set_cons_zero, List.set_cons_succ]

        refine wpAnyH_take (i := 21) (oi := _) (v := ?_) rfl (by kernel_rfl) (by kernel_rfl) (by kernel_rfl) (fun _ _ _ h => h) (Or.inl ⟨by kernel_rfl, ?_⟩) (by assumption) ?_
        rotate_left
        · intro w hSw
          try dsimp only at hSw
          go_simp
          try (with_reducible rfl)
        try simp only [Act.put, List.getElem_toArray, List.getElem_cons_zero, List.getElem_cons_succ, List.setIfInBounds_toArray, List.set_cons_zero, List.set_cons_succ]

        refine wpAnyH_take (i := 22) (oi := _) (v := ?_) rfl (by kernel_rfl) (by kernel_rfl) (by kernel_rfl) (fun _ _ _ h => h) (Or.inl ⟨by kernel_rfl, ?_⟩) (by assumption) ?_
        rotate_left
        · intro w hSw
          try dsimp only at hSw
          go_simp
          try (with_reducible rfl)
        try simp only [Act.put, List.getElem_toArray, List.getElem_cons_zero, List.getElem_cons_succ, List.setIfInBounds_toArray, List.set_cons_zero, List.set_cons_succ]

        refine wpAnyH_take (i := 23) (oi := _) (v := ?_) rfl (by kernel_rfl) (by kernel_rfl) (by kernel_rfl) (fun _ _ _ h => h) (Or.inl ⟨by kernel_rfl, ?_⟩) (by assumption) ?_
        rotate_left
        · intro w hSw
          try dsimp only at hSw
          go_simp
          try (with_reducible rfl)
        try simp only [Act.put, List.getElem_toArray, List.getElem_cons_zero, List.getElem_cons_succ, List.setIfInBounds_toArray, List.set_cons_zero, List.set_cons_succ]

        refine wpAnyH_ready (rs := [24]) (by kernel_rfl) (by simp) ?_
        refine AllReadyH.cons (o := _) rfl (fun K hK => ?_) AllReadyH.nil

        go_simp
        go_at_call 16
        refine (Hsa.out _ hs).mono ?_
        rintro e x8 ⟨rfl, hb'⟩
        have hs := since_step hs hb'
        refine hK.out _ _ hs (fun _ => ?_)
        clear hK K hb'
        try simp only [Act.put, List.getElem_toArray, List.getElem_cons_zero, List.getElem_cons_succ, List.setIfInBounds_toArray, List.set_cons_zero, List.set_cons_succ]


        refine wpAnyH_take (i := 25) (oi := _) (v := ?_) rfl (by kernel_rfl) (by kernel_rfl) (by kernel_rfl) (fun _ _ _ h => h) (Or.inl ⟨by kernel_rfl, ?_⟩) (by assumption) ?_
        rotate_left
        · intro w hSw
          try dsimp only at hSw
          go_simp
          try (with_reducible rfl)
        try simp only [Act.put, List.getElem_toArray, List.getElem_cons_zero, List.getElem_cons_succ, List.setIfInBounds_toArray, List.set_cons_zero, List.set_cons_succ]

        refine wpAnyH_take (i := 26) (oi := _) (v := ?_) rfl (by kernel_rfl) (by kernel_rfl) (by kernel_rfl) (fun _ _ _ h => h) (Or.inl ⟨by kernel_rfl, ?_⟩) (by assumption) ?_
        rotate_left
        · intro w hSw
          try dsimp only at hSw
          go_simp
          try (with_reducible rfl)
        try simp only [Act.put, List.getElem_toArray, List.getElem_cons_zero, List.getElem_cons_succ, List.setIfInBounds_toArray, List.set_cons_zero, List.set_cons_succ]

        refine wpAnyH_take (i := 27) (oi := _) (v := ?_) rfl (by kernel_rfl) (by kernel_rfl) (by kernel_rfl) (fun _ _ _ h => h) (Or.inl ⟨by kernel_rfl, ?_⟩) (by assumption) ?_
        rotate_left
        · intro w hSw
          try dsimp only at hSw
          go_simp
          try (with_reducible rfl)
        try simp only [Act.put, List.getElem_toArray, List.getElem_cons_zero, List.getElem_cons_succ, List.setIfInBounds_toArray, List.set_cons_zero, List.set_cons_succ]

        refine wpAnyH_take (i := 28) (oi := _) (v := ?_) rfl (by kernel_rfl) (by kernel_rfl) (by kernel_rfl) (fun _ _ _ h => h) (Or.inl ⟨by kernel_rfl, ?_⟩) (by assumption) ?_
        rotate_left
        · intro w hSw
          try dsimp only at hSw
          go_simp
          try (with_reducible rfl)
        try simp only [Act.put, List.getElem_toArray, List.getElem_cons_zero, List.getElem_cons_succ, List.setIfInBounds_toArray, List.set_cons_zero, List.set_cons_succ]

        refine wpAnyH_ready (rs := [29]) (by kernel_rfl) (by simp) ?_
        refine AllReadyH.cons (o := _) rfl (fun K hK => ?_) AllReadyH.nil

        go_simp
        go_at_call 12
        refine (Hkn.out _ hs).mono ?_
        rintro e x9 ⟨rfl, hb'⟩
        have hs := since_step hs hb'
        refine hK.out _ _ hs (fun _ => ?_)
        clear hK K hb'
        try simp only [Act.put, List.getElem_toArray, List.getElem_cons_zero, List.getElem_cons_succ, List.setIfInBounds_toArray, List.set_cons_zero, List.set_cons_succ]


        refine wpAnyH_take (i := 30) (oi := _) (v := ?_) rfl (by kernel_rfl) (by kernel_rfl) (by kernel_rfl) (fun _ _ _ h => h) (Or.inl ⟨by kernel_rfl, ?_⟩) (by assumption) ?_
        rotate_left
        · intro w hSw
          try dsimp only at hSw
          go_simp
          try (with_reducible rfl)
        try simp only [Act.put, List.getElem_toArray, List.getElem_cons_zero, List.getElem_cons_succ, List.setIfInBounds_toArray, List.set_cons_zero, List.set_cons_succ]

        refine wpAnyH_take (i := 31) (oi := _) (v := ?_) rfl (by kernel_rfl) (by kernel_rfl) (by kernel_rfl) (fun _ _ _ h => h) (Or.inl ⟨by kernel_rfl, ?_⟩) (by assumption) ?_
        rotate_left
        · intro w hSw
          try dsimp only at hSw
          go_simp
          try (with_reducible rfl)
        try simp only [Act.put, List.getElem_toArray, List.getElem_cons_zero, List.getElem_cons_succ, List.setIfInBounds_toArray, List.set_cons_zero, List.set_cons_succ]

        have HB9 := Lib.hid (HJ13.out.bel.trans (hs.2.1.mono HJ13.out.bel.size))
        refine wpAnyH_done (by kernel_rfl) ?_ _
        refine NoPanic.normal ?_
        clear hs
        go_wp2
        go_light
        go_ret
        refine ⟨?_, HB9.out⟩
        simp
      | true =>
        obtain rfl : nx = true := HNX.out
        refine wp_region_noPanic ?_
        refine wp_region_held_drew (S := fun w' => (∀ b o, b < wc.heap.size → w'.cell? ⟨b, o, none⟩ = wc.cell? ⟨b, o, none⟩) ∧ Since wc.heap.size wc w') (by kernel_rfl) (since_start (Nat.le_refl _)) (fun hHeld => ?_)
        have hs := since_start (w0 := wc) (Nat.le_refl wc.heap.size)
        refine wpAnyH_take (i := 0) (oi := _) (v := ?_) rfl (by kernel_rfl) (by kernel_rfl) (by kernel_rfl) (fun _ _ _ h => h) (Or.inl ⟨by kernel_rfl, ?_⟩) (by assumption) ?_
        rotate_left
        · intro w hSw
          try dsimp only at hSw
          go_simp
          try (with_reducible rfl)
        try simp only [Act.put, List.getElem_toArray, List.getElem_cons_zero, List.getElem_cons_succ, List.setIfInBounds_toArray, List.set_cons_zero, List.set_cons_succ]

        refine wpAnyH_take (i := 2) (oi := _) (v := ?_) rfl (by kernel_rfl) (by kernel_rfl) (by kernel_rfl) (fun _ _ _ h => h) (Or.inl ⟨by kernel_rfl, ?_⟩) (by assumption) ?_
        rotate_left
        · intro w hSw
          try dsimp only at hSw
          go_simp
          try (with_reducible rfl)
        try simp only [Act.put, List.getElem_toArray, List.getElem_cons_zero, List.getElem_cons_succ, List.setIfInBounds_toArray, List.set_cons_zero, List.set_cons_succ]

        refine wpAnyH_take (i := 4) (oi := _) (v := ?_) rfl (by kernel_rfl) (by kernel_rfl) (by kernel_rfl) (fun _ _ _ h => h) (Or.inl ⟨by kernel_rfl, ?_⟩) (by assumption) ?_
        rotate_left
        · intro w hSw
          try dsimp only at hSw
          go_simp
          try (with_reducible rfl)
        try simp only [Act.put, List.getElem_toArray, List.getElem_cons_zero, List.getElem_cons_succ, List.setIfInBounds_toArray, List.set_cons_zero, List.set_cons_succ]

        refine wpAnyH_ready (rs := [1]) (by kernel_rfl) (by simp) ?_
        refine AllReadyH.cons (o := _) rfl (fun K hK => ?_) AllReadyH.nil

        go_simp
        go_at_call 20
        refine (Hfy.out _ hs).mono ?_
        rintro e x1 ⟨rfl, hb'⟩
        have hs := since_step hs hb'
        refine hK.out _ _ hs (fun _ => ?_)
        clear hK K hb'
        try simp only [Act.put, List.getElem_toArray, List.getElem_cons_zero, List.getElem_cons_succ, List.setIfInBounds_toArray, List.set_cons_zero, List.set_cons_succ]


        refine wpAnyH_ready (rs := [3]) (by kernel_rfl) (by simp) ?_
        refine AllReadyH.cons (o := _) rfl (fun K hK => ?_) AllReadyH.nil

        go_simp
        go_at_call 20
        refine (Hfa.out _ hs).mono ?_
        rintro e x2 ⟨rfl, hb'⟩
        have hs := since_step hs hb'
        refine hK.out _ _ hs (fun _ => ?_)
        clear hK K hb'
        try simp only [Act.put, List.getElem_toArray, List.getElem_cons_zero, List.getElem_cons_succ, List.setIfInBounds_toArray, List.set_cons_zero, List.set_cons_succ]


        refine wpAnyH_ready (rs := [5]) (by kernel_rfl) (by simp) ?_
        refine AllReadyH.cons (o := _) rfl (fun K hK => ?_) AllReadyH.nil

        go_simp
        go_at_call 20
        refine (Hfb.out _ hs).mono ?_
        rintro e x3 ⟨rfl, hb'⟩
        have hs := since_step hs hb'
        refine hK.out _ _ hs (fun _ => ?_)
        clear hK K hb'
        try simp only [Act.put, List.getElem_toArray, List.getElem_cons_zero, List.getElem_cons_succ, List.setIfInBounds_toArray, List.set_cons_zero, List.set_cons_succ]


        refine wpAnyH_ready (rs := [6]) (by kernel_rfl) (by simp) ?_
        refine AllReadyH.cons (o := _) rfl (fun K hK => ?_) AllReadyH.nil

        go_simp
        have hs := since_alloc hs (.cells #[.int .u64 ((word (fa) 0 : Nat) : Int), .int .u64 ((word (fa) 1 : Nat) : Int), .int .u64 ((word (fa) 2 : Nat) : Int), .int .u64 ((word (fa) 3 : Nat) : Int), .int .u64 ((word (fb) 0 : Nat) : Int), .int .u64 ((word (fb) 1 : Nat) : Int), .int .u64 ((word (fb) 2 : Nat) : Int), .int .u64 ((word (fb) 3 : Nat) : Int)] 25)
        refine hK.out _ _ hs (fun _ => ?_)
        clear hK K
        try simp only [Act.put, List.getElem_toArray, List.getElem_cons_zero, List.getElem_cons_succ, List.setIfInBounds_toArray, List.set_cons_zero, List.set_cons_succ]

        refine wpAnyH_ready (rs := [7]) (by kernel_rfl) (by simp) ?_
        refine AllReadyH.cons (o := _) rfl (fun K hK => ?_) AllReadyH.nil

        go_simp
        go_at_call 46
        refine (Hu.out x3).mono ?_
        rintro e x4 ⟨rfl, hb'⟩
        have hs := since_step hs hb'
        refine hK.out _ _ hs (fun _ => ?_)
        clear hK K hb'
        try simp only [Act.put, List.getElem_toArray, List.getElem_cons_zero, List.getElem_cons_succ, List.setIfInBounds_toArray, List.set_cons_zero, List.set_cons_succ]


        refine wpAnyH_take (i := 8) (oi := _) (v := ?_) rfl (by kernel_rfl) (by kernel_rfl) (by kernel_rfl) (fun _ _ _ h => h) (Or.inl ⟨by kernel_rfl, ?_⟩) (by assumption) ?_
        rotate_left
        · intro w hSw
          try dsimp only at hSw
          go_simp
          try (with_reducible rfl)
        try simp only [Act.put, List.getElem_toArray, List.getElem_cons_zero, List.getElem_cons_succ, List.setIfInBounds_toArray, List.set_cons_zero, List.set_cons_succ]

        refine wpAnyH_take (i := 9) (oi := _) (v := ?_) rfl (by kernel_rfl) (by kernel_rfl) (by kernel_rfl) (fun _ _ _ h => h) (Or.inl ⟨by kernel_rfl, ?_⟩) (by assumption) ?_
        rotate_left
        · intro w hSw
          try dsimp only at hSw
          go_simp
          try (with_reducible rfl)
        try simp only [Act.put, List.getElem_toArray, List.getElem_cons_zero, List.getElem_cons_succ, List.setIfInBounds_toArray, List.set_cons_zero, List.set_cons_succ]

        refine wpAnyH_take (i := 10) (oi := _) (v := ?_) rfl (by kernel_rfl) (by kernel_rfl) (by kernel_rfl) (fun _ _ _ h => h) (Or.inl ⟨by kernel_rfl, ?_⟩) (by assumption) ?_
        rotate_left
        · intro w hSw
          try dsimp only at hSw
          go_simp
          try (with_reducible rfl)
        try simp only [Act.put, List.getElem_toArray, List.getElem_cons_zero, List.getElem_cons_succ, List.setIfInBounds_toArray, List.set_cons_zero, List.set_cons_succ]

        refine wpAnyH_take (i := 12) (oi := _) (v := ?_) rfl (by kernel_rfl) (by kernel_rfl) (by kernel_rfl) (fun _ _ _ h => h) (Or.inl ⟨by kernel_rfl, ?_⟩) (by assumption) ?_
        rotate_left
        · intro w hSw
          try dsimp only at hSw
          go_simp
          try (with_reducible rfl)
        try simp only [Act.put, List.getElem_toArray, List.getElem_cons_zero, List.getElem_cons_succ, List.setIfInBounds_toArray, List.set_cons_zero, List.set_cons_succ]

        refine wpAnyH_ready (rs := [11]) (by kernel_rfl) (by simp) ?_
        refine AllReadyH.cons (o := _) rfl (fun K hK => ?_) AllReadyH.nil

        go_simp
        go_at_call 47
        refine (Hnx.out _ hs).mono ?_
        rintro e x5 ⟨rfl, hb'⟩
        have hs := since_step hs hb'
        refine hK.out _ _ hs (fun _ => ?_)
        clear hK K hb'
        try simp only [Act.put, List.getElem_toArray, List.getElem_cons_zero, List.getElem_cons_succ, List.setIfInBounds_toArray, List.set_cons_zero, List.set_cons_succ]


        refine wpAnyH_ready (rs := [13]) (by kernel_rfl) (by simp) ?_
        refine AllReadyH.cons (o := _) rfl (fun K hK => ?_) AllReadyH.nil

        go_simp
        go_at_call 47
        refine (Hna.out _ hs).mono ?_
        rintro e x6 ⟨rfl, hb'⟩
        have hs := since_step hs hb'
        refine hK.out _ _ hs (fun _ => ?_)
        clear hK K hb'
        try simp only [Act.put, List.getElem_toArray, List.getElem_cons_zero, List.getElem_cons_succ, List.setIfInBounds_toArray, List.set_cons_zero, List.set_cons_succ]


        refine wpAnyH_take (i := 14) (oi := _) (v := ?_) rfl (by kernel_rfl) (by kernel_rfl) (by kernel_rfl) (fun _ _ _ h => h) (Or.inl ⟨by kernel_rfl, ?_⟩) (by assumption) ?_
        rotate_left
        · intro w hSw
          try dsimp only at hSw
          go_simp
          try (with_reducible rfl)
        try simp only [Act.put, List.getElem_toArray, List.getElem_cons_zero, List.getElem_cons_succ, List.setIfInBounds_toArray, List.set_cons_zero, List.set_cons_succ]

        refine wpAnyH_take (i := 15) (oi := _) (v := ?_) rfl (by kernel_rfl) (by kernel_rfl) (by kernel_rfl) (fun _ _ _ h => h) (Or.inl ⟨by kernel_rfl, ?_⟩) (by assumption) ?_
        rotate_left
        · intro w hSw
          try dsimp only at hSw
          go_simp
          try (with_reducible rfl)
        try simp only [Act.put, List.getElem_toArray, List.getElem_cons_zero, List.getElem_cons_succ, List.setIfInBounds_toArray, List.set_cons_zero, List.set_cons_succ]

        refine wpAnyH_ready (rs := [16]) (by kernel_rfl) (by simp) ?_
        refine AllReadyH.cons (o := _) rfl (fun K hK => ?_) AllReadyH.nil

        go_simp
        go_at_call 47
        refine (Hnb.out _ hs).mono ?_
        rintro e x7 ⟨rfl, hb'⟩
        have hs := since_step hs hb'
        refine hK.out _ _ hs (fun _ => ?_)
        clear hK K hb'
        try simp only [Act.put, List.getElem_toArray, List.getElem_cons_zero, List.getElem_cons_succ, List.setIfInBounds_toArray, List.set_cons_zero, List.set_cons_succ]


        refine wpAnyH_take (i := 17) (oi := _) (v := ?_) rfl (by kernel_rfl) (by kernel_rfl) (by kernel_rfl) (fun _ _ _ h => h) (Or.inl ⟨by kernel_rfl, ?_⟩) (by assumption) ?_
        rotate_left
        · intro w hSw
          try dsimp only at hSw
          go_simp
          try (with_reducible rfl)
        try simp only [Act.put, List.getElem_toArray, List.getElem_cons_zero, List.getElem_cons_succ, List.setIfInBounds_toArray, List.set_cons_zero, List.set_cons_succ]

        refine wpAnyH_take (i := 18) (oi := _) (v := ?_) rfl (by kernel_rfl) (by kernel_rfl) (by kernel_rfl) (fun _ _ _ h => h) (Or.inl ⟨by kernel_rfl, ?_⟩) (by assumption) ?_
        rotate_left
        · intro w hSw
          try dsimp only at hSw
          go_simp
          try (with_reducible rfl)
        try simp only [Act.put, List.getElem_toArray, List.getElem_cons_zero, List.getElem_cons_succ, List.setIfInBounds_toArray, List.set_cons_zero, List.set_cons_succ]

        refine wpAnyH_take (i := 19) (oi := _) (v := ?_) rfl (by kernel_rfl) (by kernel_rfl) (by kernel_rfl) (fun _ _ _ h => h) (Or.inl ⟨by kernel_rfl, ?_⟩) (by assumption) ?_
        rotate_left
        · intro w hSw
          try dsimp only at hSw
          go_simp
          try (with_reducible rfl)
        try simp only [Act.put, List.getElem_toArray, List.getElem_cons_zero, List.getElem_cons_succ, List.setIfInBounds_toArray, List.set_cons_zero, List.set_cons_succ]

        refine wpAnyH_take (i := 20) (oi := _) (v := ?_) rfl (by kernel_rfl) (by kernel_rfl) (by kernel_rfl) (fun _ _ _ h => h) (Or.inl ⟨by kernel_rfl, ?_⟩) (by assumption) ?_
        rotate_left
        · intro w hSw
          try dsimp only at hSw
          go_simp
          try (with_reducible rfl)
        try simp only [Act.put, List.getElem_toArray, List.getElem_cons_zero, List.getElem_cons_succ, List.setIfInBounds_toArray, List.set_cons_zero, List.set_cons_succ]

        refine wpAnyH_take (i := 21) (oi := _) (v := ?_) rfl (by kernel_rfl) (by kernel_rfl) (by kernel_rfl) (fun _ _ _ h => h) (Or.inl ⟨by kernel_rfl, ?_⟩) (by assumption) ?_
        rotate_left
        · intro w hSw
          try dsimp only at hSw
          go_simp
          try (with_reducible rfl)
        try simp only [Act.put, List.getElem_toArray, List.getElem_cons_zero, List.getElem_cons_succ, List.setIfInBounds_toArray, List.set_cons_zero, List.set_cons_succ]

        refine wpAnyH_take (i := 22) (oi := _) (v := ?_) rfl (by kernel_rfl) (by kernel_rfl) (by kernel_rfl) (fun _ _ _ h => h) (Or.inl ⟨by kernel_rfl, ?_⟩) (by assumption) ?_
        rotate_left
        · intro w hSw
          try dsimp only at hSw
          go_simp
          try (with_reducible rfl)
        try simp only [Act.put, List.getElem_toArray, List.getElem_cons_zero, List.getElem_cons_succ, List.setIfInBounds_toArray, List.set_cons_zero, List.set_cons_succ]

        refine wpAnyH_take (i := 23) (oi := _) (v := ?_) rfl (by kernel_rfl) (by kernel_rfl) (by kernel_rfl) (fun _ _ _ h => h) (Or.inl ⟨by kernel_rfl, ?_⟩) (by assumption) ?_
        rotate_left
        · intro w hSw
          try dsimp only at hSw
          go_simp
          try (with_reducible rfl)
        try simp only [Act.put, List.getElem_toArray, List.getElem_cons_zero, List.getElem_cons_succ, List.setIfInBounds_toArray, List.set_cons_zero, List.set_cons_succ]

        refine wpAnyH_ready (rs := [24]) (by kernel_rfl) (by simp) ?_
        refine AllReadyH.cons (o := _) rfl (fun K hK => ?_) AllReadyH.nil

        go_simp
        go_at_call 16
        refine (Hsa.out _ hs).mono ?_
        rintro e x8 ⟨rfl, hb'⟩
        have hs := since_step hs hb'
        refine hK.out _ _ hs (fun _ => ?_)
        clear hK K hb'
        try simp only [Act.put, List.getElem_toArray, List.getElem_cons_zero, List.getElem_cons_succ, List.setIfInBounds_toArray, List.set_cons_zero, List.set_cons_succ]


        refine wpAnyH_take (i := 25) (oi := _) (v := ?_) rfl (by kernel_rfl) (by kernel_rfl) (by kernel_rfl) (fun _ _ _ h => h) (Or.inl ⟨by kernel_rfl, ?_⟩) (by assumption) ?_
        rotate_left
        · intro w hSw
          try dsimp only at hSw
          go_simp
          try (with_reducible rfl)
        try simp only [Act.put, List.getElem_toArray, List.getElem_cons_zero, List.getElem_cons_succ, List.setIfInBounds_toArray, List.set_cons_zero, List.set_cons_succ]

        refine wpAnyH_take (i := 26) (oi := _) (v := ?_) rfl (by kernel_rfl) (by kernel_rfl) (by kernel_rfl) (fun _ _ _ h => h) (Or.inl ⟨by kernel_rfl, ?_⟩) (by assumption) ?_
        rotate_left
        · intro w hSw
          try dsimp only at hSw
          go_simp
          try (with_reducible rfl)
        try simp only [Act.put, List.getElem_toArray, List.getElem_cons_zero, List.getElem_cons_succ, List.setIfInBounds_toArray, List.set_cons_zero, List.set_cons_succ]

        refine wpAnyH_take (i := 27) (oi := _) (v := ?_) rfl (by kernel_rfl) (by kernel_rfl) (by kernel_rfl) (fun _ _ _ h => h) (Or.inl ⟨by kernel_rfl, ?_⟩) (by assumption) ?_
        rotate_left
        · intro w hSw
          try dsimp only at hSw
          go_simp
          try (with_reducible rfl)
        try simp only [Act.put, List.getElem_toArray, List.getElem_cons_zero, List.getElem_cons_succ, List.setIfInBounds_toArray, List.set_cons_zero, List.set_cons_succ]

        refine wpAnyH_take (i := 28) (oi := _) (v := ?_) rfl (by kernel_rfl) (by kernel_rfl) (by kernel_rfl) (fun _ _ _ h => h) (Or.inl ⟨by kernel_rfl, ?_⟩) (by assumption) ?_
        rotate_left
        · intro w hSw
          try dsimp only at hSw
          go_simp
          try (with_reducible rfl)
        try simp only [Act.put, List.getElem_toArray, List.getElem_cons_zero, List.getElem_cons_succ, List.setIfInBounds_toArray, List.set_cons_zero, List.set_cons_succ]

        refine wpAnyH_ready (rs := [29]) (by kernel_rfl) (by simp) ?_
        refine AllReadyH.cons (o := _) rfl (fun K hK => ?_) AllReadyH.nil

        go_simp
        go_at_call 12
        refine (Hkn.out _ hs).mono ?_
        rintro e x9 ⟨rfl, hb'⟩
        have hs := since_step hs hb'
        refine hK.out _ _ hs (fun _ => ?_)
        clear hK K hb'
        try simp only [Act.put, List.getElem_toArray, List.getElem_cons_zero, List.getElem_cons_succ, List.setIfInBounds_toArray, List.set_cons_zero, List.set_cons_succ]


        refine wpAnyH_take (i := 30) (oi := _) (v := ?_) rfl (by kernel_rfl) (by kernel_rfl) (by kernel_rfl) (fun _ _ _ h => h) (Or.inl ⟨by kernel_rfl, ?_⟩) (by assumption) ?_
        rotate_left
        · intro w hSw
          try dsimp only at hSw
          go_simp
          try (with_reducible rfl)
        try simp only [Act.put, List.getElem_toArray, List.getElem_cons_zero, List.getElem_cons_succ, List.setIfInBounds_toArray, List.set_cons_zero, List.set_cons_succ]

        refine wpAnyH_take (i := 31) (oi := _) (v := ?_) rfl (by kernel_rfl) (by kernel_rfl) (by kernel_rfl) (fun _ _ _ h => h) (Or.inl ⟨by kernel_rfl, ?_⟩) (by assumption) ?_
        rotate_left
        · intro w hSw
          try dsimp only at hSw
          go_simp
          try (with_reducible rfl)
        try simp only [Act.put, List.getElem_toArray, List.getElem_cons_zero, List.getElem_cons_succ, List.setIfInBounds_toArray, List.set_cons_zero, List.set_cons_succ]

        have HB9 := Lib.hid (HJ13.out.bel.trans (hs.2.1.mono HJ13.out.bel.size))
        refine wpAnyH_done (by kernel_rfl) ?_ _
        refine NoPanic.normal ?_
        clear hs
        go_wp2
        go_light
        go_ret
        refine ⟨?_, HB9.out⟩
        simp
end Go.Proofs.YtfekpkelmliejaaGreatDoor
