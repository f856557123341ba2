/- Texts of the claim. -/
import Derived.MapKept
import Derived.ChangeMaps5
import Derived.Maps.Keyed
import Derived.Test.YtofbfafnpdaejaaGreatDoorKZ02
import Derived.Test.YtofbfafnpdaejaaGreatDoorKZ03
import Derived.Test.YtofbfafnpdaejaaGreatDoorKZ01
namespace Go.Proofs.YtofbfafnpdaejaaGreatDoor
open Go.RowKit
set_option linter.unusedSimpArgs false
set_option linter.unusedVariables false
set_option maxRecDepth 100000
set_option maxHeartbeats 8000000
theorem Rd.alloc {w : World} {g : Nat} {A : Option Addr} {cap : Nat} {bs : List Nat} {i start kind place : Int} (h : Rd w g A cap bs i start kind place) (o : Obj) : Rd (w.alloc o) g A cap bs i start kind place := Blk.alloc h o
theorem Rd.below {w w' : World} {B g : Nat} {A : Option Addr} {cap : Nat} {bs : List Nat} {i start kind place : Int} (h : Rd w g A cap bs i start kind place) (hb : Below B w w') (hg : g < B) : Rd w' g A cap bs i start kind place := Blk.below h hb hg
theorem Rd.set4 {w : World} {g g' : Nat} {A : Option Addr} {cap : Nat} {bs : List Nat} {i start kind place : Int} (h : Rd w g A cap bs i start kind place) (hg : g ≠ g') (a b c d : Value) :
  Rd ((((w.setCell ⟨g', 0, none⟩ a).setCell ⟨g', 1, none⟩ b).setCell ⟨g', 2, none⟩ c).setCell ⟨g', 3, none⟩ d) g A cap bs i start kind place :=
 Blk.far (Blk.far (Blk.far (Blk.far h (by dsimp only; omega) _) (by dsimp only; omega) _) (by dsimp only; omega) _) (by dsimp only; omega) _
theorem only_set4 {a w : World} {g g' : Nat} (h : a.grownBy w (some g)) (hg : a.heap.size ≤ g') (x y z u : Value) :
  a.grownBy ((((w.setCell ⟨g', 0, none⟩ x).setCell ⟨g', 1, none⟩ y).setCell ⟨g', 2, none⟩ z).setCell ⟨g', 3, none⟩ u) (some g) :=
 only_set' (only_set' (only_set' (only_set' h hg _ _) hg _ _) hg _ _) hg _ _
def ItemPost (g : Nat) (A : Option Addr) (cap : Nat) (bs : List Nat) (i s : Nat) (w : World) (e : Ending) (w' : World) : Prop :=
 w.grownBy w' (some g) ∧
 match itemS bs s i with
 | .ok (lo, hi, j) => e = .returned (.agg #[.int .u64 (word (between lo hi) 0), .int .u64 (word (between lo hi) 1), .int .u64 (word (between lo hi) 2), .int .u64 (word (between lo hi) 3)]) ∧ Rd w' g A cap bs (j : Int) (s : Int) 0 0
 | .error (k, p) => k ≠ 0 ∧ ∃ (q : Nat → Bool) (j : Nat), e = .returned (.agg #[.int .u64 (word q 0), .int .u64 (word q 1), .int .u64 (word q 2), .int .u64 (word q 3)]) ∧ Rd w' g A cap bs (j : Int) (s : Int) k p
theorem ItemPost.yes {g : Nat} {A : Option Addr} {cap : Nat} {bs : List Nat} {i s : Nat} {w : World} {e : Ending} {w' : World} {lo hi j : Nat} (hg : w.grownBy w' (some g)) (hs : itemS bs s i = .ok (lo, hi, j))
  (he : e = .returned (.agg #[.int .u64 (word (between lo hi) 0), .int .u64 (word (between lo hi) 1), .int .u64 (word (between lo hi) 2), .int .u64 (word (between lo hi) 3)])) (hr : Rd w' g A cap bs (j : Int) (s : Int) 0 0) : ItemPost g A cap bs i s w e w' := by
 unfold ItemPost; rw [hs]; exact ⟨hg, he, hr⟩
theorem ItemPost.no {g : Nat} {A : Option Addr} {cap : Nat} {bs : List Nat} {i s : Nat} {w : World} {e : Ending} {w' : World} {k p : Int} (q : Nat → Bool) (j : Nat) (hg : w.grownBy w' (some g)) (hs : itemS bs s i = .error (k, p)) (hk : k ≠ 0)
  (he : e = .returned (.agg #[.int .u64 (word q 0), .int .u64 (word q 1), .int .u64 (word q 2), .int .u64 (word q 3)])) (hr : Rd w' g A cap bs (j : Int) (s : Int) k p) : ItemPost g A cap bs i s w e w' := by
 unfold ItemPost; rw [hs]; exact ⟨hg, hk, q, j, he, hr⟩
theorem item_bad1 (g : Nat) (A : Option Addr) (cap : Nat) (bs : List Nat) (i s : Nat) (B : Nat) (w : World) (hr : Rd w g A cap bs (i : Int) (s : Int) 0 0) (hA : BytesAt w B A bs) (hB : B ≤ g) (hi : i ≤ bs.length) (k p : Int) (he : charS bs s i = .error (k, p)) : Calls Tryz.prog 246 #[.pointer (some ⟨g, 0, none⟩)] w (ItemPost g A cap bs i s w) := by
 have hlt := hr.lt
 have hne : w.heap.size ≠ g := by omega
 obtain ⟨c0, c1, c2, c3, c4, f1, f3, f4⟩ := hr.cells
 have Hr := Lib.hid (hr.alloc (.cells #[.int .u64 0, .int .u64 0, .int .u64 0, .int .u64 0] 25))
 have HA : Hid (BytesAt (w.alloc (.cells #[.int .u64 0, .int .u64 0, .int .u64 0, .int .u64 0] 25)) B A bs) := hA.below ((Below.refl B w).alloc (by omega) _)
 have Hz : Hid (Blk (w.alloc (.cells #[.int .u64 0, .int .u64 0, .int .u64 0, .int .u64 0] 25)) w.heap.size 25 #[.int .u64 0, .int .u64 0, .int .u64 0, .int .u64 0]) := Blk.new _ _ _
 have Hg0 : Hid (w.grownBy (w.alloc (.cells #[.int .u64 0, .int .u64 0, .int .u64 0, .int .u64 0] 25)) (some g)) := only_alloc (only_refl _ _) _
 have Hl := Lib.hid hA.2.1
 have hl := hA.2.1
 clear hr hA
 have He := Lib.hid he
 have Hi : Hid (itemS bs s i = .error (k, p)) := by show itemS bs s i = _; unfold itemS; rw [he]
 clear he
 go_enter Tryz.func246, Tryz.ntmps246
 go_wp2_with fail
 with_reducible refine (char_go g A cap bs i s B _ Hr.out HA.out hB hi).mono ?_
 rintro e w1 hp
 unfold CharPost at hp
 rw [He.out] at hp
 obtain ⟨hg1, hk, c, j, hc, rfl, hr1⟩ := hp
 have hkb : (k == 0) = false := by simpa using hk
 obtain ⟨d0, d1, d2, d3, d4, e1, e3, e4⟩ := hr1.cells
 have Hr1 := Lib.hid hr1
 have Hg1 := Lib.hid hg1
 have hlt1 := hr1.lt
 have hsz : w.heap.size < w1.heap.size := by have := hg1.size; simp at this; omega
 clear hr1 hg1
 go_wp2_with (go_at_call 259; refine (span_any _ _ _ (by omega) (by omega)).mono ?_; rintro e w2 ⟨rfl, hb2⟩; obtain ⟨z0, z1, z2, z3, y0, y1, y2, y3⟩ := ((Hz.out.grown Hg1.out (by simpa using hne)).below hb2 hsz).c4)
 go_light
 refine bodyPost_ret (ret_set Tryz.results246 rfl ((Hz.out.grown Hg1.out (by simpa using hne)).below hb2 hsz).set4) rfl ?_
 exact ItemPost.no _ j (only_set4 (only_below (only_trans Hg0.out Hg1.out) hb2) (Nat.le_refl _) _ _ _ _) Hi.out hk rfl ((Hr1.out.below hb2 hlt1).set4 (by omega) _ _ _ _)
theorem item_one (g : Nat) (A : Option Addr) (cap : Nat) (bs : List Nat) (i s : Nat) (B : Nat) (w : World) (hr : Rd w g A cap bs (i : Int) (s : Int) 0 0) (hA : BytesAt w B A bs) (hB : B ≤ g) (hi : i ≤ bs.length) (lo j : Nat) (he : charS bs s i = .ok (lo, j)) (hlo : lo < 256) (hh : hasAt bs (j : Int) 45 = false) : Calls Tryz.prog 246 #[.pointer (some ⟨g, 0, none⟩)] w (ItemPost g A cap bs i s w) := by
 have hlt := hr.lt
 have hne : w.heap.size ≠ g := by omega
 obtain ⟨c0, c1, c2, c3, c4, f1, f3, f4⟩ := hr.cells
 have Hr := Lib.hid (hr.alloc (.cells #[.int .u64 0, .int .u64 0, .int .u64 0, .int .u64 0] 25))
 have HA : Hid (BytesAt (w.alloc (.cells #[.int .u64 0, .int .u64 0, .int .u64 0, .int .u64 0] 25)) B A bs) := hA.below ((Below.refl B w).alloc (by omega) _)
 have Hz : Hid (Blk (w.alloc (.cells #[.int .u64 0, .int .u64 0, .int .u64 0, .int .u64 0] 25)) w.heap.size 25 #[.int .u64 0, .int .u64 0, .int .u64 0, .int .u64 0]) := Blk.new _ _ _
 have Hg0 : Hid (w.grownBy (w.alloc (.cells #[.int .u64 0, .int .u64 0, .int .u64 0, .int .u64 0] 25)) (some g)) := only_alloc (only_refl _ _) _
 have Hl := Lib.hid hA.2.1
 have hl := hA.2.1
 clear hr hA
 have He := Lib.hid he
 have Hh := Lib.hid hh
 have Hi : Hid (itemS bs s i = .ok (lo, lo, j)) := by show itemS bs s i = _; unfold itemS; rw [he]; dsimp only; rw [hh]; rfl
 clear he hh
 go_enter Tryz.func246, Tryz.ntmps246
 go_wp2_with fail
 with_reducible refine (char_go g A cap bs i s B _ Hr.out HA.out hB hi).mono ?_
 rintro e w1 hp
 unfold CharPost at hp
 rw [He.out] at hp
 obtain ⟨hg1, rfl, hr1⟩ := hp
 obtain ⟨d0, d1, d2, d3, d4, e1, e3, e4⟩ := hr1.cells
 have Hr1 := Lib.hid hr1
 have Hg1 := Lib.hid hg1
 have HA1 := Lib.hid (HA.out.only hg1 hB Hr.out.lt)
 have Hz1 : Hid (Blk w1 w.heap.size 25 #[.int .u64 0, .int .u64 0, .int .u64 0, .int .u64 0]) := Hz.out.grown hg1 (by simpa using hne)
 have hlt1 := hr1.lt
 have hsz : w.heap.size < w1.heap.size := by have := hg1.size; simp at this; omega
 clear hr1 hg1
 go_wp2_with (first
  | (go_at_call 245; refine (take_no g A cap bs _ _ _ _ 45 B _ Hr1.out HA1.out (by omega) (by omega) Hh.out).mono ?_; rintro e w2 ⟨rfl, hr2, hg2⟩; have hlt2 := hr2.lt; have Hr2 := Lib.hid hr2; have Hg2 := Lib.hid hg2; clear hr2 hg2; have hsz2 : w.heap.size < w2.heap.size := Nat.lt_of_lt_of_le hsz Hg2.out.size; have Hz2 := Lib.hid (Hz1.out.grown Hg2.out (by simpa using hne)))
  | (go_at_call 259; refine (span_any _ _ _ (by omega) (by omega)).mono ?_; rintro e w3 ⟨rfl, hb3⟩; obtain ⟨z0, z1, z2, z3, y0, y1, y2, y3⟩ := (Hz2.out.below hb3 hsz2).c4))
 go_light
 refine bodyPost_ret (ret_set Tryz.results246 rfl (Hz2.out.below hb3 hsz2).set4) rfl ?_
 exact ItemPost.yes (only_set4 (only_below (only_trans (only_trans Hg0.out Hg1.out) Hg2.out) hb3) (Nat.le_refl _) _ _ _ _) Hi.out rfl ((Hr2.out.below hb3 hlt2).set4 (by omega) _ _ _ _)
theorem item_bad2 (g : Nat) (A : Option Addr) (cap : Nat) (bs : List Nat) (i s : Nat) (B : Nat) (w : World) (hr : Rd w g A cap bs (i : Int) (s : Int) 0 0) (hA : BytesAt w B A bs) (hB : B ≤ g) (hi : i ≤ bs.length) (lo j : Nat) (he : charS bs s i = .ok (lo, j)) (hlo : lo < 256) (hh : hasAt bs (j : Int) 45 = true) (hj : j < bs.length) (k p : Int) (hf : charS bs s (j + 1) = .error (k, p)) : Calls Tryz.prog 246 #[.pointer (some ⟨g, 0, none⟩)] w (ItemPost g A cap bs i s w) := by
 have hlt := hr.lt
 have hne : w.heap.size ≠ g := by omega
 obtain ⟨c0, c1, c2, c3, c4, f1, f3, f4⟩ := hr.cells
 have Hr := Lib.hid (hr.alloc (.cells #[.int .u64 0, .int .u64 0, .int .u64 0, .int .u64 0] 25))
 have HA : Hid (BytesAt (w.alloc (.cells #[.int .u64 0, .int .u64 0, .int .u64 0, .int .u64 0] 25)) B A bs) := hA.below ((Below.refl B w).alloc (by omega) _)
 have Hz : Hid (Blk (w.alloc (.cells #[.int .u64 0, .int .u64 0, .int .u64 0, .int .u64 0] 25)) w.heap.size 25 #[.int .u64 0, .int .u64 0, .int .u64 0, .int .u64 0]) := Blk.new _ _ _
 have Hg0 : Hid (w.grownBy (w.alloc (.cells #[.int .u64 0, .int .u64 0, .int .u64 0, .int .u64 0] 25)) (some g)) := only_alloc (only_refl _ _) _
 have Hl := Lib.hid hA.2.1
 have hl := hA.2.1
 clear hr hA
 have He := Lib.hid he
 have Hh := Lib.hid hh
 have Hf := Lib.hid hf
 have Hi : Hid (itemS bs s i = .error (k, p)) := by show itemS bs s i = _; unfold itemS; rw [he]; dsimp only; rw [hh, hf]; rfl
 clear he hh hf
 go_enter Tryz.func246, Tryz.ntmps246
 go_wp2_with fail
 with_reducible refine (char_go g A cap bs i s B _ Hr.out HA.out hB hi).mono ?_
 rintro e w1 hp
 unfold CharPost at hp
 rw [He.out] at hp
 obtain ⟨hg1, rfl, hr1⟩ := hp
 obtain ⟨d0, d1, d2, d3, d4, e1, e3, e4⟩ := hr1.cells
 have Hr1 := Lib.hid hr1
 have Hg1 := Lib.hid hg1
 have HA1 := Lib.hid (HA.out.only hg1 hB Hr.out.lt)
 have Hz1 : Hid (Blk w1 w.heap.size 25 #[.int .u64 0, .int .u64 0, .int .u64 0, .int .u64 0]) := Hz.out.grown hg1 (by simpa using hne)
 have hlt1 := hr1.lt
 have hsz : w.heap.size < w1.heap.size := by have := hg1.size; simp at this; omega
 clear hr1 hg1
 go_wp2_with fail
 refine (take_yes g A cap bs _ _ _ _ 45 B _ Hr1.out HA1.out (by omega) (by omega) Hh.out).mono ?_
 rintro e w2 ⟨rfl, hr2, hg2⟩
 have Hg2 := Lib.hid hg2
 have HA2 := Lib.hid (HA1.out.only hg2 hB hlt1)
 have hlt2 := hr2.lt
 have Hr2 : Hid (Rd w2 g A cap bs ((j + 1 : Nat) : Int) (s : Int) 0 0) := by show Rd _ _ _ _ _ _ _ _ _; rw [show ((j + 1 : Nat) : Int) = (j : Int) + 1 by omega]; exact hr2
 have Hz2 := Lib.hid (Hz1.out.grown hg2 (by simpa using hne))
 clear hr2 hg2
 go_wp2_with fail
 with_reducible refine (char_go g A cap bs (j + 1) s B _ Hr2.out HA2.out hB (by omega)).mono ?_
 rintro e w3 hp
 unfold CharPost at hp
 rw [Hf.out] at hp
 obtain ⟨hg3, hk, c, j', hc, rfl, hr3⟩ := hp
 have hkn : k ≠ 0 := hk
 have Hg3 := Lib.hid hg3
 have Hr3 := Lib.hid hr3
 have hlt3 := hr3.lt
 have Hz3 := Lib.hid (Hz2.out.grown hg3 (by simpa using hne))
 have hsz3 := Hz3.out.lt
 clear hr3 hg3
 by_cases hcl : c < lo
 ·go_wp2_with (first
   | (go_at_call 255; refine (fail1_go g A cap bs _ _ _ _ _ _ _ Hr3.out hkn).mono ?_; rintro e w4 ⟨rfl, hr4, hg4⟩; have Hr4 := Lib.hid hr4; have Hg4 := Lib.hid hg4; have hlt4 := hr4.lt; have Hz4 := Lib.hid (Hz3.out.grown hg4 (by simpa using hne)); have hsz4 := Hz4.out.lt; clear hr4 hg4)
   | (go_at_call 259; refine (span_any _ _ _ (by omega) (by omega)).mono ?_; rintro e w5 ⟨rfl, hb5⟩; obtain ⟨z0, z1, z2, z3, y0, y1, y2, y3⟩ := (Hz4.out.below hb5 hsz4).c4))
  go_light
  refine bodyPost_ret (ret_set Tryz.results246 rfl (Hz4.out.below hb5 hsz4).set4) rfl ?_
  exact ItemPost.no _ j' (only_set4 (only_below (only_trans (only_trans (only_trans (only_trans Hg0.out Hg1.out) Hg2.out) Hg3.out) Hg4.out) hb5) (Nat.le_refl _) _ _ _ _) Hi.out hkn rfl ((Hr4.out.below hb5 hlt4).set4 (by omega) _ _ _ _)
 ·go_wp2_with (go_at_call 259; refine (span_any _ _ _ (by omega) (by omega)).mono ?_; rintro e w5 ⟨rfl, hb5⟩; obtain ⟨z0, z1, z2, z3, y0, y1, y2, y3⟩ := (Hz3.out.below hb5 hsz3).c4)
  go_light
  refine bodyPost_ret (ret_set Tryz.results246 rfl (Hz3.out.below hb5 hsz3).set4) rfl ?_
  exact ItemPost.no _ j' (only_set4 (only_below (only_trans (only_trans (only_trans Hg0.out Hg1.out) Hg2.out) Hg3.out) hb5) (Nat.le_refl _) _ _ _ _) Hi.out hkn rfl ((Hr3.out.below hb5 hlt3).set4 (by omega) _ _ _ _)
theorem item_two (g : Nat) (A : Option Addr) (cap : Nat) (bs : List Nat) (i s : Nat) (B : Nat) (w : World) (hr : Rd w g A cap bs (i : Int) (s : Int) 0 0) (hA : BytesAt w B A bs) (hB : B ≤ g) (hi : i ≤ bs.length) (lo j : Nat) (he : charS bs s i = .ok (lo, j)) (hlo : lo < 256) (hh : hasAt bs (j : Int) 45 = true) (hj : j < bs.length) (hi' j' : Nat) (hf : charS bs s (j + 1) = .ok (hi', j')) (hhi : hi' < 256) : Calls Tryz.prog 246 #[.pointer (some ⟨g, 0, none⟩)] w (ItemPost g A cap bs i s w) := by
 have hlt := hr.lt
 have hne : w.heap.size ≠ g := by omega
 obtain ⟨c0, c1, c2, c3, c4, f1, f3, f4⟩ := hr.cells
 have Hr := Lib.hid (hr.alloc (.cells #[.int .u64 0, .int .u64 0, .int .u64 0, .int .u64 0] 25))
 have HA : Hid (BytesAt (w.alloc (.cells #[.int .u64 0, .int .u64 0, .int .u64 0, .int .u64 0] 25)) B A bs) := hA.below ((Below.refl B w).alloc (by omega) _)
 have Hz : Hid (Blk (w.alloc (.cells #[.int .u64 0, .int .u64 0, .int .u64 0, .int .u64 0] 25)) w.heap.size 25 #[.int .u64 0, .int .u64 0, .int .u64 0, .int .u64 0]) := Blk.new _ _ _
 have Hg0 : Hid (w.grownBy (w.alloc (.cells #[.int .u64 0, .int .u64 0, .int .u64 0, .int .u64 0] 25)) (some g)) := only_alloc (only_refl _ _) _
 have Hl := Lib.hid hA.2.1
 have hl := hA.2.1
 clear hr hA
 have He := Lib.hid he
 have Hh := Lib.hid hh
 have Hf := Lib.hid hf
 have Hi : Hid (itemS bs s i = if hi' < lo then .error (15, (i : Int)) else .ok (lo, hi', j')) := by show itemS bs s i = _; unfold itemS; rw [he]; dsimp only; rw [hh, hf]; rfl
 clear he hh hf
 go_enter Tryz.func246, Tryz.ntmps246
 go_wp2_with fail
 with_reducible refine (char_go g A cap bs i s B _ Hr.out HA.out hB hi).mono ?_
 rintro e w1 hp
 unfold CharPost at hp
 rw [He.out] at hp
 obtain ⟨hg1, rfl, hr1⟩ := hp
 obtain ⟨d0, d1, d2, d3, d4, e1, e3, e4⟩ := hr1.cells
 have Hr1 := Lib.hid hr1
 have Hg1 := Lib.hid hg1
 have HA1 := Lib.hid (HA.out.only hg1 hB Hr.out.lt)
 have Hz1 : Hid (Blk w1 w.heap.size 25 #[.int .u64 0, .int .u64 0, .int .u64 0, .int .u64 0]) := Hz.out.grown hg1 (by simpa using hne)
 have hlt1 := hr1.lt
 have hsz : w.heap.size < w1.heap.size := by have := hg1.size; simp at this; omega
 clear hr1 hg1
 go_wp2_with fail
 refine (take_yes g A cap bs _ _ _ _ 45 B _ Hr1.out HA1.out (by omega) (by omega) Hh.out).mono ?_
 rintro e w2 ⟨rfl, hr2, hg2⟩
 have Hg2 := Lib.hid hg2
 have HA2 := Lib.hid (HA1.out.only hg2 hB hlt1)
 have hlt2 := hr2.lt
 have Hr2 : Hid (Rd w2 g A cap bs ((j + 1 : Nat) : Int) (s : Int) 0 0) := by show Rd _ _ _ _ _ _ _ _ _; rw [show ((j + 1 : Nat) : Int) = (j : Int) + 1 by omega]; exact hr2
 have Hz2 := Lib.hid (Hz1.out.grown hg2 (by simpa using hne))
 clear hr2 hg2
 go_wp2_with fail
 with_reducible refine (char_go g A cap bs (j + 1) s B _ Hr2.out HA2.out hB (by omega)).mono ?_
 rintro e w3 hp
 unfold CharPost at hp
 rw [Hf.out] at hp
 obtain ⟨hg3, rfl, hr3⟩ := hp
 have Hg3 := Lib.hid hg3
 have Hr3 := Lib.hid hr3
 have hlt3 := hr3.lt
 have Hz3 := Lib.hid (Hz2.out.grown hg3 (by simpa using hne))
 have hsz3 := Hz3.out.lt
 clear hr3 hg3
 by_cases hcl : hi' < lo
 ·go_wp2_with (first
   | (go_at_call 255; refine (fail0_go g A cap bs _ _ _ _ _ _ Hr3.out).mono ?_; rintro e w4 ⟨rfl, hr4, hg4⟩; have Hr4 := Lib.hid hr4; have Hg4 := Lib.hid hg4; have hlt4 := hr4.lt; have Hz4 := Lib.hid (Hz3.out.grown hg4 (by simpa using hne)); have hsz4 := Hz4.out.lt; clear hr4 hg4)
   | (go_at_call 259; refine (span_any _ _ _ (by omega) (by omega)).mono ?_; rintro e w5 ⟨rfl, hb5⟩; obtain ⟨z0, z1, z2, z3, y0, y1, y2, y3⟩ := (Hz4.out.below hb5 hsz4).c4))
  go_light
  refine bodyPost_ret (ret_set Tryz.results246 rfl (Hz4.out.below hb5 hsz4).set4) rfl ?_
  exact ItemPost.no _ j' (only_set4 (only_below (only_trans (only_trans (only_trans (only_trans Hg0.out Hg1.out) Hg2.out) Hg3.out) Hg4.out) hb5) (Nat.le_refl _) _ _ _ _) (by rw [Hi.out, if_pos hcl]) (by decide) rfl ((Hr4.out.below hb5 hlt4).set4 (by omega) _ _ _ _)
 ·go_wp2_with (go_at_call 259; refine (span_any _ _ _ (by omega) (by omega)).mono ?_; rintro e w5 ⟨rfl, hb5⟩; obtain ⟨z0, z1, z2, z3, y0, y1, y2, y3⟩ := (Hz3.out.below hb5 hsz3).c4)
  go_light
  refine bodyPost_ret (ret_set Tryz.results246 rfl (Hz3.out.below hb5 hsz3).set4) rfl ?_
  exact ItemPost.yes (only_set4 (only_below (only_trans (only_trans (only_trans Hg0.out Hg1.out) Hg2.out) Hg3.out) hb5) (Nat.le_refl _) _ _ _ _) (by rw [Hi.out, if_neg hcl]) rfl ((Hr3.out.below hb5 hlt3).set4 (by omega) _ _ _ _)
theorem item_go (g : Nat) (A : Option Addr) (cap : Nat) (bs : List Nat) (i s : Nat) (B : Nat) (w : World) (hr : Rd w g A cap bs (i : Int) (s : Int) 0 0) (hA : BytesAt w B A bs) (hB : B ≤ g) (hi : i ≤ bs.length) : Calls Tryz.prog 246 #[.pointer (some ⟨g, 0, none⟩)] w (ItemPost g A cap bs i s w) := by
 cases he : charS bs s i with
 | error x => obtain ⟨k, p⟩ := x; exact item_bad1 g A cap bs i s B w hr hA hB hi k p he
 | ok x =>
  obtain ⟨lo, j⟩ := x
  obtain ⟨a1, a2, a3⟩ := charS_ok hA.1 he
  cases hh : hasAt bs (j : Int) 45 with
  | false => exact item_one g A cap bs i s B w hr hA hB hi lo j he a3 hh
  | true =>
   obtain ⟨j', e', hj, _⟩ := hasAt_yes hh
   obtain rfl : j = j' := by omega
   cases hf : charS bs s (j + 1) with
   | error y => obtain ⟨k, p⟩ := y; exact item_bad2 g A cap bs i s B w hr hA hB hi lo j he a3 hh hj k p hf
   | ok y =>
    obtain ⟨hi', j'⟩ := y
    exact item_two g A cap bs i s B w hr hA hB hi lo j he a3 hh hj hi' j' hf (charS_ok hA.1 hf).2.2
theorem TreesAt.sole {w : World} {P : Nat → Prop} {F : Trees} {B : Option Addr} {z : Nd} (h : TreesAt w P F B) (hz : F.list = [z]) : ∃ b o C capc, B = some ⟨b, o, none⟩ ∧ P b ∧ NdAt w b o z.kind z.set z.kids.len z.lo z.hi C capc ∧ TreesAt w P z.kids C := by
 obtain ⟨b, o, C, capc, hB, hb, _, hn, ht⟩ := h.get (i := 0) (x := z) (by rw [hz]; rfl)
 exact ⟨b, o, C, capc, hB, hb, by simpa using hn, ht⟩
theorem one_len {F : Trees} {z : Nd} (hz : F.list = [z]) : F.len = 1 := by rw [← Trees.len_list, hz]; rfl
theorem lloop_star (x : Nd) (z : Nd) (hz : x.kids.list = [z]) (hlay : LayC z) (hgr : GrowsF z.lay) (hk : x.kind = 6) (B : Option Addr) (cap i base g : Nat) (S : Nat → Prop) (m : MachS) (w : World) (ht : TreesAt w (fun b => b < base) x.kids B) (h : LayAt w base g S m) (hb : base ≤ w.heap.size) (hf : FitsM (loopF false z.lay m i).1) :
  Calls Tryz.prog 147 #[.pointer (some ⟨g, 0, none⟩), ndV x B cap, .int .i64 (i : Int)] w (LayOut base g S w (loopF false z.lay m i)) := by
 have hn1 : x.kids.len = 1 := one_len hz
 have e0 : ExtM (z.lay ((m.state 0).link i m.states) m.states).1 (loopF false z.lay m i).1 := ExtM.link _ _ _
 have e1 : ExtM ((m.state 0).link i m.states) (z.lay ((m.state 0).link i m.states) m.states).1 := hgr _ _
 have e2 := ExtM.link (m.state 0) i m.states
 have e3 := ExtM.state m 0
 have HF := Lib.hid (show FitsM m ∧ FitsM (m.state 0) ∧ FitsM ((m.state 0).link i m.states) ∧ FitsM (z.lay ((m.state 0).link i m.states) m.states).1 from ⟨hf.of (e3.trans (e2.trans (e1.trans e0))), hf.of (e2.trans (e1.trans e0)), hf.of (e1.trans e0), hf.of e0⟩)
 have HC := Lib.hid (lstate_go base g S m 0 _ (h.alloc (.cells (ndA x B cap) 28)) (by simp; omega) HF.out.1.1)
 have HX := Lib.hid (show Blk _ w.heap.size 28 (ndA x B cap) ∧ ¬ S w.heap.size from ⟨Blk.new w 28 (ndA x B cap), h.not (Nat.le_refl _)⟩)
 have HT := Lib.hid (ht.below ((Below.refl _ _).alloc (Nat.le_refl _) (.cells (ndA x B cap) 28)))
 have hszw : w.heap.size < (w.alloc (.cells (ndA x B cap) 28)).heap.size := by simp
 have HB := Lib.hid hb
 have HLAY := Lib.hid hlay
 have HZ := Lib.hid hz
 clear hz hf ht h hgr hlay e0 e1 e2 e3
 unfold ndV
 unfold ndA at *
 rw [hk] at *
 clear hk
 rw [hn1] at *
 clear hn1
 go_enter Tryz.func147, Tryz.ntmps147
 go_wp2_with fail
 refine HC.out.mono ?_
 rintro e w2 ⟨rfl, S2, hL2, hM2⟩
 have hs2 := hM2.size
 have HC3 := Lib.hid (llink_go base g S2 (m.state 0) i m.states w2 hL2 (by omega) HF.out.2.1.2.1)
 have HM2 := Lib.hid hM2
 clear hL2 hM2 HC
 dsimp only
 go_wp2_with fail
 refine HC3.out.mono ?_
 rintro e w3 ⟨rfl, S3, hL3, hM3⟩
 have hM3' := HM2.out.trans hM3
 have hX3 := HX.out.1.moves hM3' HX.out.2
 have x5 : w3.cell? ⟨w.heap.size, 5, none⟩ = some (.slice B 1 cap) := hX3.cell 5
 obtain ⟨b, o, C, capc, rfl, hbb, hnd, hkz⟩ := (HT.out.moves hM3').sole HZ.out
 have hblk := World.block_lt_of_cell? w3 _ hnd.1
 obtain ⟨c0, c1, c2, c3, c4, c5, c6, c7⟩ := hnd
 have hs3 := hM3'.size
 have HI := Lib.hid (HLAY.out C capc m.states base g S3 ((m.state 0).link i m.states) w3 hkz hL3 (by omega) HF.out.2.2.2)
 have HM3 := Lib.hid hM3'
 clear hM3 hM3' hX3 hkz HC3 hL3 HM2
 dsimp only
 unfold ndV at HI
 go_wp2_with fail
 refine HI.out.mono ?_
 rintro e w4 ⟨rfl, S4, hL4, hM4⟩
 have hs4 := hM4.size
 have HC5 := Lib.hid (llink_go base g S4 _ (z.lay ((m.state 0).link i m.states) m.states).2 m.states w4 hL4 (by omega) HF.out.2.2.2.2.1)
 have HM4 := Lib.hid (HM3.out.trans hM4)
 clear hM4 hL4 HI HM3 c0 c1 c2 c3 c4 c5 c6 c7 x5 hbb hblk
 dsimp only
 go_wp2_with fail
 refine HC5.out.mono ?_
 rintro e w5 ⟨rfl, S5, hL5, hM5⟩
 have hM5' := HM4.out.trans hM5
 have hX5 := HX.out.1.moves hM5' HX.out.2
 have x0 : w5.cell? ⟨w.heap.size, 0, none⟩ = some (.int .i64 6) := hX5.cell 0
 have hs5 := hX5.lt
 have HOUT := Lib.hid (show ∃ S', LayAt w5 base g S' _ ∧ Moves base S w S' w5 from ⟨S5, hL5, ((Moves.refl base S w).alloc HB.out _).trans hM5'⟩)
 clear hM5 hM5' hX5 hL5 HM4 HC5
 dsimp only
 go_wp2
 go_light
 go_ret
 exact ⟨rfl, HOUT.out⟩
theorem lloop_plus (x : Nd) (z : Nd) (hz : x.kids.list = [z]) (hlay : LayC z) (hgr : GrowsF z.lay) (hk : x.kind = 7) (B : Option Addr) (cap i base g : Nat) (S : Nat → Prop) (m : MachS) (w : World) (ht : TreesAt w (fun b => b < base) x.kids B) (h : LayAt w base g S m) (hb : base ≤ w.heap.size) (hf : FitsM (loopF true z.lay m i).1) :
  Calls Tryz.prog 147 #[.pointer (some ⟨g, 0, none⟩), ndV x B cap, .int .i64 (i : Int)] w (LayOut base g S w (loopF true z.lay m i)) := by
 have hn1 : x.kids.len = 1 := one_len hz
 have e0 : ExtM (z.lay ((m.state 0).link i m.states) m.states).1 (loopF true z.lay m i).1 := ExtM.link _ _ _
 have e1 : ExtM ((m.state 0).link i m.states) (z.lay ((m.state 0).link i m.states) m.states).1 := hgr _ _
 have e2 := ExtM.link (m.state 0) i m.states
 have e3 := ExtM.state m 0
 have HF := Lib.hid (show FitsM m ∧ FitsM (m.state 0) ∧ FitsM ((m.state 0).link i m.states) ∧ FitsM (z.lay ((m.state 0).link i m.states) m.states).1 from ⟨hf.of (e3.trans (e2.trans (e1.trans e0))), hf.of (e2.trans (e1.trans e0)), hf.of (e1.trans e0), hf.of e0⟩)
 have HC := Lib.hid (lstate_go base g S m 0 _ (h.alloc (.cells (ndA x B cap) 28)) (by simp; omega) HF.out.1.1)
 have HX := Lib.hid (show Blk _ w.heap.size 28 (ndA x B cap) ∧ ¬ S w.heap.size from ⟨Blk.new w 28 (ndA x B cap), h.not (Nat.le_refl _)⟩)
 have HT := Lib.hid (ht.below ((Below.refl _ _).alloc (Nat.le_refl _) (.cells (ndA x B cap) 28)))
 have hszw : w.heap.size < (w.alloc (.cells (ndA x B cap) 28)).heap.size := by simp
 have HB := Lib.hid hb
 have HLAY := Lib.hid hlay
 have HZ := Lib.hid hz
 clear hz hf ht h hgr hlay e0 e1 e2 e3
 unfold ndV
 unfold ndA at *
 rw [hk] at *
 clear hk
 rw [hn1] at *
 clear hn1
 go_enter Tryz.func147, Tryz.ntmps147
 go_wp2_with fail
 refine HC.out.mono ?_
 rintro e w2 ⟨rfl, S2, hL2, hM2⟩
 have hs2 := hM2.size
 have HC3 := Lib.hid (llink_go base g S2 (m.state 0) i m.states w2 hL2 (by omega) HF.out.2.1.2.1)
 have HM2 := Lib.hid hM2
 clear hL2 hM2 HC
 dsimp only
 go_wp2_with fail
 refine HC3.out.mono ?_
 rintro e w3 ⟨rfl, S3, hL3, hM3⟩
 have hM3' := HM2.out.trans hM3
 have hX3 := HX.out.1.moves hM3' HX.out.2
 have x5 : w3.cell? ⟨w.heap.size, 5, none⟩ = some (.slice B 1 cap) := hX3.cell 5
 obtain ⟨b, o, C, capc, rfl, hbb, hnd, hkz⟩ := (HT.out.moves hM3').sole HZ.out
 have hblk := World.block_lt_of_cell? w3 _ hnd.1
 obtain ⟨c0, c1, c2, c3, c4, c5, c6, c7⟩ := hnd
 have hs3 := hM3'.size
 have HI := Lib.hid (HLAY.out C capc m.states base g S3 ((m.state 0).link i m.states) w3 hkz hL3 (by omega) HF.out.2.2.2)
 have HM3 := Lib.hid hM3'
 clear hM3 hM3' hX3 hkz HC3 hL3 HM2
 dsimp only
 unfold ndV at HI
 go_wp2_with fail
 refine HI.out.mono ?_
 rintro e w4 ⟨rfl, S4, hL4, hM4⟩
 have hs4 := hM4.size
 have HC5 := Lib.hid (llink_go base g S4 _ (z.lay ((m.state 0).link i m.states) m.states).2 m.states w4 hL4 (by omega) HF.out.2.2.2.2.1)
 have HM4 := Lib.hid (HM3.out.trans hM4)
 clear hM4 hL4 HI HM3 c0 c1 c2 c3 c4 c5 c6 c7 x5 hbb hblk
 dsimp only
 go_wp2_with fail
 refine HC5.out.mono ?_
 rintro e w5 ⟨rfl, S5, hL5, hM5⟩
 have hM5' := HM4.out.trans hM5
 have hX5 := HX.out.1.moves hM5' HX.out.2
 have x0 : w5.cell? ⟨w.heap.size, 0, none⟩ = some (.int .i64 7) := hX5.cell 0
 have hs5 := hX5.lt
 have HOUT := Lib.hid (show ∃ S', LayAt w5 base g S' _ ∧ Moves base S w S' w5 from ⟨S5, hL5, ((Moves.refl base S w).alloc HB.out _).trans hM5'⟩)
 clear hM5 hM5' hX5 hL5 HM4 HC5
 dsimp only
 go_wp2
 go_light
 go_ret
 exact ⟨rfl, HOUT.out⟩
theorem lopt_go (x : Nd) (z : Nd) (hz : x.kids.list = [z]) (hlay : LayC z) (hgr : GrowsF z.lay) (hk : x.kind = 8) (B : Option Addr) (cap i base g : Nat) (S : Nat → Prop) (m : MachS) (w : World) (ht : TreesAt w (fun b => b < base) x.kids B) (h : LayAt w base g S m) (hb : base ≤ w.heap.size) (hf : FitsM (optF z.lay m i).1) :
  Calls Tryz.prog 148 #[.pointer (some ⟨g, 0, none⟩), ndV x B cap, .int .i64 (i : Int)] w (LayOut base g S w (optF z.lay m i)) := by
 have hn1 : x.kids.len = 1 := one_len hz
 have e0 : ExtM ((((z.lay m i).1.state 0)).link (z.lay m i).2 (z.lay m i).1.states) (optF z.lay m i).1 := ExtM.link _ _ _
 have e1 := ExtM.link ((z.lay m i).1.state 0) (z.lay m i).2 (z.lay m i).1.states
 have e2 := ExtM.state (z.lay m i).1 0
 have HF := Lib.hid (show FitsM (z.lay m i).1 ∧ FitsM ((z.lay m i).1.state 0) ∧ FitsM ((((z.lay m i).1.state 0)).link (z.lay m i).2 (z.lay m i).1.states) from ⟨hf.of (e2.trans (e1.trans e0)), hf.of (e1.trans e0), hf.of e0⟩)
 have hX := Blk.new w 28 (ndA x B cap)
 have x5 : (w.alloc (.cells (ndA x B cap) 28)).cell? ⟨w.heap.size, 5, none⟩ = some (.slice B x.kids.len cap) := hX.cell 5
 obtain ⟨b, o, C, capc, rfl, hbb, hnd, hkz⟩ := (ht.below ((Below.refl _ _).alloc (Nat.le_refl _) (.cells (ndA x B cap) 28))).sole hz
 have hszw : w.heap.size < (w.alloc (.cells (ndA x (some ⟨b, o, none⟩) cap) 28)).heap.size := by simp
 have hblk := World.block_lt_of_cell? _ _ hnd.1
 obtain ⟨c0, c1, c2, c3, c4, c5, c6, c7⟩ := hnd
 have HI := Lib.hid (hlay C capc i base g S m _ hkz (h.alloc _) (by simp; omega) HF.out.1)
 have HB := Lib.hid hb
 clear hz hf ht h hlay hgr e0 e1 e2 hX hkz
 unfold ndV at *
 unfold ndA at *
 rw [hk] at *
 clear hk
 rw [hn1] at *
 clear hn1
 go_enter Tryz.func148, Tryz.ntmps148
 go_wp2_with fail
 refine HI.out.mono ?_
 rintro e w2 ⟨rfl, S2, hL2, hM2⟩
 have hs2 := hM2.size
 have HC := Lib.hid (lstate_go base g S2 _ 0 w2 hL2 (by omega) HF.out.1.1)
 have HM2 := Lib.hid hM2
 clear hL2 hM2 HI c0 c1 c2 c3 c4 c5 c6 c7 x5 hbb hblk
 dsimp only
 go_wp2_with fail
 refine HC.out.mono ?_
 rintro e w3 ⟨rfl, S3, hL3, hM3⟩
 have hM3' := HM2.out.trans hM3
 have hs3 := hM3'.size
 have HC3 := Lib.hid (llink_go base g S3 _ (z.lay m i).2 (z.lay m i).1.states w3 hL3 (by omega) HF.out.2.1.2.1)
 have HM3 := Lib.hid hM3'
 clear hL3 hM3 hM3' HC HM2
 dsimp only
 go_wp2_with fail
 refine HC3.out.mono ?_
 rintro e w4 ⟨rfl, S4, hL4, hM4⟩
 have hM4' := HM3.out.trans hM4
 have hs4 := hM4'.size
 have HC4 := Lib.hid (llink_go base g S4 _ i (z.lay m i).1.states w4 hL4 (by omega) HF.out.2.2.2.1)
 have HM4 := Lib.hid hM4'
 clear hL4 hM4 hM4' HC3 HM3
 dsimp only
 go_wp2_with fail
 refine HC4.out.mono ?_
 rintro e w5 ⟨rfl, S5, hL5, hM5⟩
 have hM5' := HM4.out.trans hM5
 have HOUT := Lib.hid (show ∃ S', LayAt w5 base g S' _ ∧ Moves base S w S' w5 from ⟨S5, hL5, ((Moves.refl base S w).alloc HB.out _).trans hM5'⟩)
 clear hM5 hM5' hL5 HM4 HC4
 dsimp only
 go_wp2
 go_light
 go_ret
 exact ⟨rfl, HOUT.out⟩
theorem timesF_snoc (f : LayF) : ∀ (k : Nat) (m : MachS) (i : Nat), timesF f (k + 1) m i = f (timesF f k m i).1 (timesF f k m i).2
 | 0, m, i => rfl
 | k + 1, m, i => timesF_snoc f k _ _
theorem timesF_part {f : LayF} (h : GrowsF f) (m : MachS) (i k : Nat) : ∀ d, ExtM (timesF f k m i).1 (timesF f (k + d) m i).1
 | 0 => ExtM.refl _
 | d + 1 => by
  have := timesF_part h m i k d
  rw [show k + (d + 1) = (k + d) + 1 by omega, timesF_snoc]
  exact this.trans (h _ _)
theorem optsF_snoc (f : LayF) (t : Nat) : ∀ (k : Nat) (m : MachS) (i : Nat), optsF f t (k + 1) m i = f ((optsF f t k m i).1.link (optsF f t k m i).2 t) (optsF f t k m i).2
 | 0, m, i => rfl
 | k + 1, m, i => optsF_snoc f t k _ _
theorem optsF_part {f : LayF} (h : GrowsF f) (t : Nat) (m : MachS) (i k : Nat) : ∀ d, ExtM (optsF f t k m i).1 (optsF f t (k + d) m i).1
 | 0 => ExtM.refl _
 | d + 1 => by
  have := optsF_part h t m i k d
  rw [show k + (d + 1) = (k + d) + 1 by omega, optsF_snoc]
  exact this.trans ((ExtM.link _ _ _).trans (h _ _))
theorem loopF_grows {f : LayF} (p : Bool) (h : GrowsF f) : GrowsF (loopF p f) := fun m i => (ExtM.state m 0).trans ((ExtM.link _ _ _).trans ((h _ _).trans (ExtM.link _ _ _)))
theorem upF_grows {f : LayF} (k : Nat) (h : GrowsF f) : GrowsF (upF f k) := fun m i => by
 have := optsF_part h m.states (m.state 0) i 0 k
 rw [Nat.zero_add] at this
 exact (ExtM.state m 0).trans (this.trans (ExtM.link _ _ _))
theorem word_zeroN (j : Nat) : word (Nat.testBit 0) j = 0 := by
 have : Nat.testBit 0 = fun _ => false := by funext i; simp
 rw [this, word_none]
theorem lrep_zero (x : Nd) (z : Nd) (hz : x.kids.list = [z]) (hlay : LayC z) (hgr : GrowsF z.lay) (hzs : z.size ≤ 140737488355328) (hzn : ∀ y ∈ z.nodes, numsOk y) (hk : x.kind = 9) (B : Option Addr) (cap i base g : Nat) (S : Nat → Prop) (m : MachS) (w : World) (ht : TreesAt w (fun b => b < base) x.kids B) (h : LayAt w base g S m) (hb : base ≤ w.heap.size) (h0 : z.wgt = 0) : Calls Tryz.prog 149 #[.pointer (some ⟨g, 0, none⟩), ndV x B cap, .int .i64 (i : Int)] w (LayOut base g S w (repF z.wgt x.lo x.hi z.lay m i)) := by
 have hn1 : x.kids.len = 1 := one_len hz
 have hX := Blk.new w 28 (ndA x B cap)
 have x5 : (w.alloc (.cells (ndA x B cap) 28)).cell? ⟨w.heap.size, 5, none⟩ = some (.slice B x.kids.len cap) := hX.cell 5
 have hT1 := ht.below ((Below.refl _ _).alloc (Nat.le_refl _) (.cells (ndA x B cap) 28))
 obtain ⟨b, o, C, capc, rfl, hbb, hnd, hkz⟩ := hT1.sole hz
 have hblk := World.block_lt_of_cell? _ _ hnd.1
 obtain ⟨c0, c1, c2, c3, c4, c5, c6, c7⟩ := hnd
 have hsz2 : ((w.alloc (.cells (ndA x (some ⟨b, o, none⟩) cap) 28)).alloc (.cells (ndA z C capc) 28)).heap.size = w.heap.size + 1 + 1 := by simp
 have HX := Lib.hid (show Blk ((w.alloc (.cells (ndA x (some ⟨b, o, none⟩) cap) 28)).alloc (.cells (ndA z C capc) 28)) w.heap.size 28 (ndA x (some ⟨b, o, none⟩) cap) ∧ ¬ S w.heap.size from ⟨hX.alloc _, h.not (Nat.le_refl _)⟩)
 have HZB := Lib.hid (show Blk ((w.alloc (.cells (ndA x (some ⟨b, o, none⟩) cap) 28)).alloc (.cells (ndA z C capc) 28)) (w.heap.size + 1) 28 (ndA z C capc) ∧ ¬ S (w.heap.size + 1) from ⟨Blk.new_at (by simp), h.not (by omega)⟩)
 have hb2 : Below (w.alloc (.cells (ndA x (some ⟨b, o, none⟩) cap) 28)).heap.size (w.alloc (.cells (ndA x (some ⟨b, o, none⟩) cap) 28)) ((w.alloc (.cells (ndA x (some ⟨b, o, none⟩) cap) 28)).alloc (.cells (ndA z C capc) 28)) := (Below.refl _ _).alloc (Nat.le_refl _) _
 have HT2 := Lib.hid (hT1.below hb2)
 have HK2 := Lib.hid (hkz.below hb2)
 have HL2 := Lib.hid (show LayAt ((w.alloc (.cells (ndA x (some ⟨b, o, none⟩) cap) 28)).alloc (.cells (ndA z C capc) 28)) base g S m ∧ Moves base S w S ((w.alloc (.cells (ndA x (some ⟨b, o, none⟩) cap) 28)).alloc (.cells (ndA z C capc) 28)) from ⟨(h.alloc _).alloc _, ((Moves.refl base S w).alloc hb _).alloc hb _⟩)
 have HW := Lib.hid (nwgt_go z (fun b => b < base) C capc ((w.alloc (.cells (ndA x (some ⟨b, o, none⟩) cap) 28)).alloc (.cells (ndA z C capc) 28)) hzs hzn (hkz.below hb2))
 have HB := Lib.hid hb
 have HLAY := Lib.hid hlay
 have HGR := Lib.hid hgr
 have HZ := Lib.hid hz
 clear hz ht h hlay hgr hzn hX hT1 hkz hb2
 unfold ndV at *
 unfold ndA at *
 rw [hk] at *
 rw [hn1] at *
 clear hk hn1
 have HV := Lib.hid (show repF z.wgt x.lo x.hi z.lay m i = (m, i) by unfold repF; rw [if_pos h0])
 rw [h0] at HW
 clear h0
 generalize z.wgt = n at *
 go_enter Tryz.func149, Tryz.ntmps149
 go_wp2_with fail
 refine HW.out.mono ?_
 rintro e w3 ⟨rfl, hb3⟩
 have HO := Lib.hid (show ∃ S', LayAt w3 base g S' m ∧ Moves base S w S' w3 from ⟨S, HL2.out.1.below hb3, HL2.out.2.trans (Moves.of_below hb3 (by have := HB.out; omega))⟩)
 clear hb3 HW
 dsimp only
 go_wp2
 go_light
 go_ret
 rw [HV.out]
 exact ⟨rfl, HO.out⟩
theorem lrep_same (x : Nd) (z : Nd) (hz : x.kids.list = [z]) (hlay : LayC z) (hgr : GrowsF z.lay) (hzs : z.size ≤ 140737488355328) (hzn : ∀ y ∈ z.nodes, numsOk y) (hk : x.kind = 9) (B : Option Addr) (cap i base g : Nat) (S : Nat → Prop) (m : MachS) (w : World) (ht : TreesAt w (fun b => b < base) x.kids B) (h : LayAt w base g S m) (hb : base ≤ w.heap.size) (h0 : z.wgt ≠ 0) (hlo : 0 ≤ x.lo) (hlo2 : x.lo ≤ 1000) (hh : x.hi = x.lo) (hf : FitsM (repF z.wgt x.lo x.hi z.lay m i).1) : Calls Tryz.prog 149 #[.pointer (some ⟨g, 0, none⟩), ndV x B cap, .int .i64 (i : Int)] w (LayOut base g S w (repF z.wgt x.lo x.hi z.lay m i)) := by
 obtain ⟨l, hl⟩ := Int.eq_ofNat_of_zero_le hlo
 have hltn : x.lo.toNat = l := by omega
 have hl1 : l ≤ 1000 := by omega
 have hV : repF z.wgt x.lo x.hi z.lay m i = timesF z.lay l m i := by unfold repF; rw [if_neg h0, if_neg (by omega), if_pos hh, hltn]
 have HFT := Lib.hid (show FitsM (timesF z.lay l m i).1 by rw [← hV]; exact hf)
 have HV := Lib.hid hV
 have HH := Lib.hid hh
 clear hV hf hltn hh hlo
 have hn1 : x.kids.len = 1 := one_len hz
 have hX := Blk.new w 28 (ndA x B cap)
 have x5 : (w.alloc (.cells (ndA x B cap) 28)).cell? ⟨w.heap.size, 5, none⟩ = some (.slice B x.kids.len cap) := hX.cell 5
 have hT1 := ht.below ((Below.refl _ _).alloc (Nat.le_refl _) (.cells (ndA x B cap) 28))
 obtain ⟨b, o, C, capc, rfl, hbb, hnd, hkz⟩ := hT1.sole hz
 have hblk := World.block_lt_of_cell? _ _ hnd.1
 obtain ⟨c0, c1, c2, c3, c4, c5, c6, c7⟩ := hnd
 have hsz2 : ((w.alloc (.cells (ndA x (some ⟨b, o, none⟩) cap) 28)).alloc (.cells (ndA z C capc) 28)).heap.size = w.heap.size + 1 + 1 := by simp
 have HX := Lib.hid (show Blk ((w.alloc (.cells (ndA x (some ⟨b, o, none⟩) cap) 28)).alloc (.cells (ndA z C capc) 28)) w.heap.size 28 (ndA x (some ⟨b, o, none⟩) cap) ∧ ¬ S w.heap.size from ⟨hX.alloc _, h.not (Nat.le_refl _)⟩)
 have HZB := Lib.hid (show Blk ((w.alloc (.cells (ndA x (some ⟨b, o, none⟩) cap) 28)).alloc (.cells (ndA z C capc) 28)) (w.heap.size + 1) 28 (ndA z C capc) ∧ ¬ S (w.heap.size + 1) from ⟨Blk.new_at (by simp), h.not (by omega)⟩)
 have hb2 : Below (w.alloc (.cells (ndA x (some ⟨b, o, none⟩) cap) 28)).heap.size (w.alloc (.cells (ndA x (some ⟨b, o, none⟩) cap) 28)) ((w.alloc (.cells (ndA x (some ⟨b, o, none⟩) cap) 28)).alloc (.cells (ndA z C capc) 28)) := (Below.refl _ _).alloc (Nat.le_refl _) _
 have HT2 := Lib.hid (hT1.below hb2)
 have HK2 := Lib.hid (hkz.below hb2)
 have HL2 := Lib.hid (show LayAt ((w.alloc (.cells (ndA x (some ⟨b, o, none⟩) cap) 28)).alloc (.cells (ndA z C capc) 28)) base g S m ∧ Moves base S w S ((w.alloc (.cells (ndA x (some ⟨b, o, none⟩) cap) 28)).alloc (.cells (ndA z C capc) 28)) from ⟨(h.alloc _).alloc _, ((Moves.refl base S w).alloc hb _).alloc hb _⟩)
 have HW := Lib.hid (nwgt_go z (fun b => b < base) C capc ((w.alloc (.cells (ndA x (some ⟨b, o, none⟩) cap) 28)).alloc (.cells (ndA z C capc) 28)) hzs hzn (hkz.below hb2))
 have HB := Lib.hid hb
 have HLAY := Lib.hid hlay
 have HGR := Lib.hid hgr
 have HZ := Lib.hid hz
 clear hz ht h hlay hgr hzn hX hT1 hkz hb2
 unfold ndV at *
 unfold ndA at *
 rw [hk] at *
 rw [hn1] at *
 clear hk hn1
 generalize z.wgt = n at *
 have hnz : ((n : Int) == 0) = false := by rw [beq_eq_false_iff_ne]; omega
 have y6 : ((w.alloc (.cells #[.int .i64 9, .int .u64 (word x.set.testBit 0), .int .u64 (word x.set.testBit 1), .int .u64 (word x.set.testBit 2), .int .u64 (word x.set.testBit 3), .slice (some ⟨b, o, none⟩) 1 cap, .int .i64 x.lo, .int .i64 x.hi] 28)).alloc (.cells #[.int .i64 z.kind, .int .u64 (word z.set.testBit 0), .int .u64 (word z.set.testBit 1), .int .u64 (word z.set.testBit 2), .int .u64 (word z.set.testBit 3), .slice C z.kids.len capc, .int .i64 z.lo, .int .i64 z.hi] 28)).cell? ⟨w.heap.size, 6, none⟩ = some (.int .i64 (l : Int)) := by rw [← hl]; exact HX.out.1.cell 6
 have HL := Lib.hid hl
 clear hl
 go_enter Tryz.func149, Tryz.ntmps149
 go_wp2_with fail
 refine HW.out.mono ?_
 rintro e w3 ⟨rfl, hb3⟩
 have hX3 := HX.out.1.below hb3 (by simp; omega)
 have x6 : w3.cell? ⟨w.heap.size, 6, none⟩ = some (.int .i64 (l : Int)) := by rw [← HL.out]; exact hX3.cell 6
 have hs3 : w.heap.size + 1 + 1 ≤ w3.heap.size := by have := hb3.size; omega
 have HM3 := Lib.hid (show ∃ S', LayAt w3 base g S' (timesF z.lay 0 m i).1 ∧ Moves base S ((w.alloc (.cells #[.int .i64 9, .int .u64 (word x.set.testBit 0), .int .u64 (word x.set.testBit 1), .int .u64 (word x.set.testBit 2), .int .u64 (word x.set.testBit 3), .slice (some ⟨b, o, none⟩) 1 cap, .int .i64 x.lo, .int .i64 x.hi] 28)).alloc (.cells #[.int .i64 z.kind, .int .u64 (word z.set.testBit 0), .int .u64 (word z.set.testBit 1), .int .u64 (word z.set.testBit 2), .int .u64 (word z.set.testBit 3), .slice C z.kids.len capc, .int .i64 z.lo, .int .i64 z.hi] 28)) S' w3 from ⟨S, HL2.out.1.below hb3, Moves.of_below hb3 (by have := HB.out; omega)⟩)
 clear hb3 HW hX3 c0 c1 c2 c3 c4 c5 c6 c7 x5 y6 hbb hblk
 dsimp only
 go_wp2
 go_loopw [2, 19] (fun v i' wr => ∃ k : Nat, i' = .int .i64 (k : Int) ∧ k ≤ l ∧ v = .int .i64 (((timesF z.lay k m i).2 : Nat) : Int) ∧ Hid (∃ S', LayAt wr base g S' (timesF z.lay k m i).1 ∧ Moves base S ((w.alloc (.cells #[.int .i64 9, .int .u64 (word x.set.testBit 0), .int .u64 (word x.set.testBit 1), .int .u64 (word x.set.testBit 2), .int .u64 (word x.set.testBit 3), .slice (some ⟨b, o, none⟩) 1 cap, .int .i64 x.lo, .int .i64 x.hi] 28)).alloc (.cells #[.int .i64 z.kind, .int .u64 (word z.set.testBit 0), .int .u64 (word z.set.testBit 1), .int .u64 (word z.set.testBit 2), .int .u64 (word z.set.testBit 3), .slice C z.kids.len capc, .int .i64 z.lo, .int .i64 z.hi] 28)) S' wr)) (fun _ i' _ => l - (intOf i').toNat)
 case atStart => exact ⟨0, rfl, Nat.zero_le _, rfl, HM3⟩
 case round =>
  clear HM3 hs3 x6
  obtain ⟨k, rfl, hk, rfl, HM⟩ := hrel
  obtain ⟨S1, hL1, hM1⟩ := HM.out
  have hZ1 := HZB.out.1.moves hM1 HZB.out.2
  have hX1 := HX.out.1.moves hM1 HX.out.2
  have hsr : w.heap.size + 1 + 1 ≤ wr.heap.size := by have := hM1.size; omega
  by_cases hlt : k < l
  ·have hdl : (k : Int) < (l : Int) := by omega
   have hfk : FitsM (z.lay (timesF z.lay k m i).1 (timesF z.lay k m i).2).1 := by
    have := HFT.out.of (timesF_part HGR.out m i (k + 1) (l - (k + 1)) |> fun h => by rw [show k + 1 + (l - (k + 1)) = l by omega] at h; exact h)
    rw [timesF_snoc] at this
    exact this
   have HI := Lib.hid (HLAY.out C capc (timesF z.lay k m i).2 base g S1 (timesF z.lay k m i).1 wr (HK2.out.moves hM1) hL1 (by have := HB.out; omega) hfk)
   have z0 : wr.cell? ⟨w.heap.size + 1, 0, none⟩ = some (.int .i64 z.kind) := hZ1.cell 0
   have z1 : wr.cell? ⟨w.heap.size + 1, 1, none⟩ = some (.int .u64 (word z.set.testBit 0)) := hZ1.cell 1
   have z2 : wr.cell? ⟨w.heap.size + 1, 2, none⟩ = some (.int .u64 (word z.set.testBit 1)) := hZ1.cell 2
   have z3 : wr.cell? ⟨w.heap.size + 1, 3, none⟩ = some (.int .u64 (word z.set.testBit 2)) := hZ1.cell 3
   have z4 : wr.cell? ⟨w.heap.size + 1, 4, none⟩ = some (.int .u64 (word z.set.testBit 3)) := hZ1.cell 4
   have z5 : wr.cell? ⟨w.heap.size + 1, 5, none⟩ = some (.slice C z.kids.len capc) := hZ1.cell 5
   have z6 : wr.cell? ⟨w.heap.size + 1, 6, none⟩ = some (.int .i64 z.lo) := hZ1.cell 6
   have z7 : wr.cell? ⟨w.heap.size + 1, 7, none⟩ = some (.int .i64 z.hi) := hZ1.cell 7
   have HM1 := Lib.hid hM1
   have HS := Lib.hid (timesF_snoc z.lay k m i)
   clear hM1 hL1 hZ1 hX1 hfk HM
   generalize (timesF z.lay k m i).2 = at1 at *
   generalize (timesF z.lay k m i).1 = mk1 at *
   unfold ndV at HI
   go_wp2_with fail
   refine HI.out.mono ?_
   rintro e w4 ⟨rfl, hlay⟩
   have HL4 := Lib.hid hlay
   clear hlay HI z0 z1 z2 z3 z4 z5 z6 z7
   dsimp only
   go_wp2
   go_roundw
   case rel =>
    refine ⟨k + 1, by go_num, by omega, by rw [HS.out], Lib.hid ?_⟩
    rw [HS.out]
    obtain ⟨S3, h1, h2⟩ := HL4.out
    exact ⟨S3, h1, HM1.out.trans h2⟩
   case measure => simp [intOf]; omega
  ·obtain rfl : k = l := by omega
   have hdl : ¬ ((k : Int) < (k : Int)) := by omega
   have x6 : wr.cell? ⟨w.heap.size, 6, none⟩ = some (.int .i64 (k : Int)) := by rw [← HL.out]; exact hX1.cell 6
   have x5 : wr.cell? ⟨w.heap.size, 5, none⟩ = some (.slice (some ⟨b, o, none⟩) 1 cap) := hX1.cell 5
   have x7 : wr.cell? ⟨w.heap.size, 7, none⟩ = some (.int .i64 x.hi) := hX1.cell 7
   have x7' : wr.cell? ⟨w.heap.size, 7, none⟩ = some (.int .i64 (k : Int)) := by rw [← HL.out, ← HH.out]; exact x7
   have HO := Lib.hid (show ∃ S', LayAt wr base g S' (timesF z.lay k m i).1 ∧ Moves base S w S' wr from ⟨S1, hL1, HL2.out.2.trans hM1⟩)
   have hkk : ((k : Int) == (k : Int)) = true := by simp
   clear x7 hM1 hL1 hZ1 hX1 HM
   go_wp2
   go_light
   go_ret
   rw [HV.out]
   exact ⟨rfl, HO.out⟩
theorem lrep_star (x : Nd) (z : Nd) (hz : x.kids.list = [z]) (hlay : LayC z) (hgr : GrowsF z.lay) (hzs : z.size ≤ 140737488355328) (hzn : ∀ y ∈ z.nodes, numsOk y) (hk : x.kind = 9) (B : Option Addr) (cap i base g : Nat) (S : Nat → Prop) (m : MachS) (w : World) (ht : TreesAt w (fun b => b < base) x.kids B) (h : LayAt w base g S m) (hb : base ≤ w.heap.size) (h0 : z.wgt ≠ 0) (hlo : 0 ≤ x.lo) (hlo2 : x.lo ≤ 1000) (hh : x.hi < 0) (hf : FitsM (repF z.wgt x.lo x.hi z.lay m i).1) : Calls Tryz.prog 149 #[.pointer (some ⟨g, 0, none⟩), ndV x B cap, .int .i64 (i : Int)] w (LayOut base g S w (repF z.wgt x.lo x.hi z.lay m i)) := by
 obtain ⟨l, hl⟩ := Int.eq_ofNat_of_zero_le hlo
 have hltn : x.lo.toNat = l := by omega
 have hl1 : l ≤ 1000 := by omega
 have hV : repF z.wgt x.lo x.hi z.lay m i = loopF false z.lay (timesF z.lay l m i).1 (timesF z.lay l m i).2 := by unfold repF; rw [if_neg h0, if_pos hh, hltn]
 have hfl : FitsM (loopF false z.lay (timesF z.lay l m i).1 (timesF z.lay l m i).2).1 := by rw [← hV]; exact hf
 have HFT := Lib.hid (hfl.of (loopF_grows false hgr _ _))
 have HFL := Lib.hid hfl
 have HV := Lib.hid hV
 clear hV hf hltn hlo hfl
 have HN1 := Lib.hid (one_len hz)
 have hn1 : x.kids.len = 1 := one_len hz
 have hX := Blk.new w 28 (ndA x B cap)
 have x5 : (w.alloc (.cells (ndA x B cap) 28)).cell? ⟨w.heap.size, 5, none⟩ = some (.slice B x.kids.len cap) := hX.cell 5
 have hT1 := ht.below ((Below.refl _ _).alloc (Nat.le_refl _) (.cells (ndA x B cap) 28))
 obtain ⟨b, o, C, capc, rfl, hbb, hnd, hkz⟩ := hT1.sole hz
 have hblk := World.block_lt_of_cell? _ _ hnd.1
 obtain ⟨c0, c1, c2, c3, c4, c5, c6, c7⟩ := hnd
 have hsz2 : ((w.alloc (.cells (ndA x (some ⟨b, o, none⟩) cap) 28)).alloc (.cells (ndA z C capc) 28)).heap.size = w.heap.size + 1 + 1 := by simp
 have HX := Lib.hid (show Blk ((w.alloc (.cells (ndA x (some ⟨b, o, none⟩) cap) 28)).alloc (.cells (ndA z C capc) 28)) w.heap.size 28 (ndA x (some ⟨b, o, none⟩) cap) ∧ ¬ S w.heap.size from ⟨hX.alloc _, h.not (Nat.le_refl _)⟩)
 have HZB := Lib.hid (show Blk ((w.alloc (.cells (ndA x (some ⟨b, o, none⟩) cap) 28)).alloc (.cells (ndA z C capc) 28)) (w.heap.size + 1) 28 (ndA z C capc) ∧ ¬ S (w.heap.size + 1) from ⟨Blk.new_at (by simp), h.not (by omega)⟩)
 have hb2 : Below (w.alloc (.cells (ndA x (some ⟨b, o, none⟩) cap) 28)).heap.size (w.alloc (.cells (ndA x (some ⟨b, o, none⟩) cap) 28)) ((w.alloc (.cells (ndA x (some ⟨b, o, none⟩) cap) 28)).alloc (.cells (ndA z C capc) 28)) := (Below.refl _ _).alloc (Nat.le_refl _) _
 have HT2 := Lib.hid (hT1.below hb2)
 have HK2 := Lib.hid (hkz.below hb2)
 have HL2 := Lib.hid (show LayAt ((w.alloc (.cells (ndA x (some ⟨b, o, none⟩) cap) 28)).alloc (.cells (ndA z C capc) 28)) base g S m ∧ Moves base S w S ((w.alloc (.cells (ndA x (some ⟨b, o, none⟩) cap) 28)).alloc (.cells (ndA z C capc) 28)) from ⟨(h.alloc _).alloc _, ((Moves.refl base S w).alloc hb _).alloc hb _⟩)
 have HW := Lib.hid (nwgt_go z (fun b => b < base) C capc ((w.alloc (.cells (ndA x (some ⟨b, o, none⟩) cap) 28)).alloc (.cells (ndA z C capc) 28)) hzs hzn (hkz.below hb2))
 have HB := Lib.hid hb
 have HLAY := Lib.hid hlay
 have HGR := Lib.hid hgr
 have HZ := Lib.hid hz
 clear hz ht h hlay hgr hzn hX hT1 hkz hb2
 unfold ndV at *
 unfold ndA at *
 rw [hk] at *
 rw [hn1] at *
 clear hk hn1
 generalize z.wgt = n at *
 have hnz : ((n : Int) == 0) = false := by rw [beq_eq_false_iff_ne]; omega
 have y6 : ((w.alloc (.cells #[.int .i64 9, .int .u64 (word x.set.testBit 0), .int .u64 (word x.set.testBit 1), .int .u64 (word x.set.testBit 2), .int .u64 (word x.set.testBit 3), .slice (some ⟨b, o, none⟩) 1 cap, .int .i64 x.lo, .int .i64 x.hi] 28)).alloc (.cells #[.int .i64 z.kind, .int .u64 (word z.set.testBit 0), .int .u64 (word z.set.testBit 1), .int .u64 (word z.set.testBit 2), .int .u64 (word z.set.testBit 3), .slice C z.kids.len capc, .int .i64 z.lo, .int .i64 z.hi] 28)).cell? ⟨w.heap.size, 6, none⟩ = some (.int .i64 (l : Int)) := by rw [← hl]; exact HX.out.1.cell 6
 have HL := Lib.hid hl
 clear hl
 go_enter Tryz.func149, Tryz.ntmps149
 go_wp2_with fail
 refine HW.out.mono ?_
 rintro e w3 ⟨rfl, hb3⟩
 have hX3 := HX.out.1.below hb3 (by simp; omega)
 have x6 : w3.cell? ⟨w.heap.size, 6, none⟩ = some (.int .i64 (l : Int)) := by rw [← HL.out]; exact hX3.cell 6
 have hs3 : w.heap.size + 1 + 1 ≤ w3.heap.size := by have := hb3.size; omega
 have HM3 := Lib.hid (show ∃ S', LayAt w3 base g S' (timesF z.lay 0 m i).1 ∧ Moves base S ((w.alloc (.cells #[.int .i64 9, .int .u64 (word x.set.testBit 0), .int .u64 (word x.set.testBit 1), .int .u64 (word x.set.testBit 2), .int .u64 (word x.set.testBit 3), .slice (some ⟨b, o, none⟩) 1 cap, .int .i64 x.lo, .int .i64 x.hi] 28)).alloc (.cells #[.int .i64 z.kind, .int .u64 (word z.set.testBit 0), .int .u64 (word z.set.testBit 1), .int .u64 (word z.set.testBit 2), .int .u64 (word z.set.testBit 3), .slice C z.kids.len capc, .int .i64 z.lo, .int .i64 z.hi] 28)) S' w3 from ⟨S, HL2.out.1.below hb3, Moves.of_below hb3 (by have := HB.out; omega)⟩)
 clear hb3 HW hX3 c0 c1 c2 c3 c4 c5 c6 c7 x5 y6 hbb hblk
 dsimp only
 go_wp2
 go_loopw [2, 19] (fun v i' wr => ∃ k : Nat, i' = .int .i64 (k : Int) ∧ k ≤ l ∧ v = .int .i64 (((timesF z.lay k m i).2 : Nat) : Int) ∧ Hid (∃ S', LayAt wr base g S' (timesF z.lay k m i).1 ∧ Moves base S ((w.alloc (.cells #[.int .i64 9, .int .u64 (word x.set.testBit 0), .int .u64 (word x.set.testBit 1), .int .u64 (word x.set.testBit 2), .int .u64 (word x.set.testBit 3), .slice (some ⟨b, o, none⟩) 1 cap, .int .i64 x.lo, .int .i64 x.hi] 28)).alloc (.cells #[.int .i64 z.kind, .int .u64 (word z.set.testBit 0), .int .u64 (word z.set.testBit 1), .int .u64 (word z.set.testBit 2), .int .u64 (word z.set.testBit 3), .slice C z.kids.len capc, .int .i64 z.lo, .int .i64 z.hi] 28)) S' wr)) (fun _ i' _ => l - (intOf i').toNat)
 case atStart => exact ⟨0, rfl, Nat.zero_le _, rfl, HM3⟩
 case round =>
  clear HM3 hs3 x6
  obtain ⟨k, rfl, hk, rfl, HM⟩ := hrel
  obtain ⟨S1, hL1, hM1⟩ := HM.out
  have hZ1 := HZB.out.1.moves hM1 HZB.out.2
  have hX1 := HX.out.1.moves hM1 HX.out.2
  have hsr : w.heap.size + 1 + 1 ≤ wr.heap.size := by have := hM1.size; omega
  by_cases hlt : k < l
  ·have hdl : (k : Int) < (l : Int) := by omega
   have hfk : FitsM (z.lay (timesF z.lay k m i).1 (timesF z.lay k m i).2).1 := by
    have := HFT.out.of (timesF_part HGR.out m i (k + 1) (l - (k + 1)) |> fun h => by rw [show k + 1 + (l - (k + 1)) = l by omega] at h; exact h)
    rw [timesF_snoc] at this
    exact this
   have HI := Lib.hid (HLAY.out C capc (timesF z.lay k m i).2 base g S1 (timesF z.lay k m i).1 wr (HK2.out.moves hM1) hL1 (by have := HB.out; omega) hfk)
   have z0 : wr.cell? ⟨w.heap.size + 1, 0, none⟩ = some (.int .i64 z.kind) := hZ1.cell 0
   have z1 : wr.cell? ⟨w.heap.size + 1, 1, none⟩ = some (.int .u64 (word z.set.testBit 0)) := hZ1.cell 1
   have z2 : wr.cell? ⟨w.heap.size + 1, 2, none⟩ = some (.int .u64 (word z.set.testBit 1)) := hZ1.cell 2
   have z3 : wr.cell? ⟨w.heap.size + 1, 3, none⟩ = some (.int .u64 (word z.set.testBit 2)) := hZ1.cell 3
   have z4 : wr.cell? ⟨w.heap.size + 1, 4, none⟩ = some (.int .u64 (word z.set.testBit 3)) := hZ1.cell 4
   have z5 : wr.cell? ⟨w.heap.size + 1, 5, none⟩ = some (.slice C z.kids.len capc) := hZ1.cell 5
   have z6 : wr.cell? ⟨w.heap.size + 1, 6, none⟩ = some (.int .i64 z.lo) := hZ1.cell 6
   have z7 : wr.cell? ⟨w.heap.size + 1, 7, none⟩ = some (.int .i64 z.hi) := hZ1.cell 7
   have HM1 := Lib.hid hM1
   have HS := Lib.hid (timesF_snoc z.lay k m i)
   clear hM1 hL1 hZ1 hX1 hfk HM
   generalize (timesF z.lay k m i).2 = at1 at *
   generalize (timesF z.lay k m i).1 = mk1 at *
   unfold ndV at HI
   go_wp2_with fail
   refine HI.out.mono ?_
   rintro e w4 ⟨rfl, hlay⟩
   have HL4 := Lib.hid hlay
   clear hlay HI z0 z1 z2 z3 z4 z5 z6 z7
   dsimp only
   go_wp2
   go_roundw
   case rel =>
    refine ⟨k + 1, by go_num, by omega, by rw [HS.out], Lib.hid ?_⟩
    rw [HS.out]
    obtain ⟨S3, h1, h2⟩ := HL4.out
    exact ⟨S3, h1, HM1.out.trans h2⟩
   case measure => simp [intOf]; omega
  ·obtain rfl : k = l := by omega
   have hdl : ¬ ((k : Int) < (k : Int)) := by omega
   have x6 : wr.cell? ⟨w.heap.size, 6, none⟩ = some (.int .i64 (k : Int)) := by rw [← HL.out]; exact hX1.cell 6
   have x5 : wr.cell? ⟨w.heap.size, 5, none⟩ = some (.slice (some ⟨b, o, none⟩) 1 cap) := hX1.cell 5
   have x7 : wr.cell? ⟨w.heap.size, 7, none⟩ = some (.int .i64 x.hi) := hX1.cell 7
   have hst := lloop_star ⟨6, 0, x.kids, 0, 0⟩ z HZ.out HLAY.out HGR.out rfl (some ⟨b, o, none⟩) cap (timesF z.lay k m i).2 base g S1 (timesF z.lay k m i).1 wr (HT2.out.moves hM1) hL1 (by have := HB.out; omega) HFL.out
   unfold ndV at hst
   simp only [word_zeroN] at hst
   rw [HN1.out] at hst
   have HST := Lib.hid hst
   have HM1 := Lib.hid (HL2.out.2.trans hM1)
   clear hM1 hL1 hZ1 hX1 HM hst
   generalize loopF false z.lay (timesF z.lay k m i).1 (timesF z.lay k m i).2 = r at *
   generalize (timesF z.lay k m i).2 = at1 at *
   generalize (timesF z.lay k m i).1 = mk1 at *
   go_wp2_with fail
   refine HST.out.mono ?_
   rintro e w4 ⟨rfl, hlay⟩
   have HO := Lib.hid hlay
   clear hlay HST
   dsimp only
   go_wp2
   go_light
   go_ret
   rw [HV.out]
   obtain ⟨S3, h1, h2⟩ := HO.out
   exact ⟨rfl, S3, h1, HM1.out.trans h2⟩
theorem lrep_up (x : Nd) (z : Nd) (hz : x.kids.list = [z]) (hlay : LayC z) (hgr : GrowsF z.lay) (hzs : z.size ≤ 140737488355328) (hzn : ∀ y ∈ z.nodes, numsOk y) (hk : x.kind = 9) (B : Option Addr) (cap i base g : Nat) (S : Nat → Prop) (m : MachS) (w : World) (ht : TreesAt w (fun b => b < base) x.kids B) (h : LayAt w base g S m) (hb : base ≤ w.heap.size) (h0 : z.wgt ≠ 0) (hlo : 0 ≤ x.lo) (hlo2 : x.lo ≤ 1000) (hh : x.lo < x.hi) (hh2 : x.hi ≤ 1000) (hf : FitsM (repF z.wgt x.lo x.hi z.lay m i).1) : Calls Tryz.prog 149 #[.pointer (some ⟨g, 0, none⟩), ndV x B cap, .int .i64 (i : Int)] w (LayOut base g S w (repF z.wgt x.lo x.hi z.lay m i)) := by
 obtain ⟨l, hl⟩ := Int.eq_ofNat_of_zero_le hlo
 have hltn : x.lo.toNat = l := by omega
 have hl1 : l ≤ 1000 := by omega
 obtain ⟨u, hu⟩ := Int.eq_ofNat_of_zero_le (show 0 ≤ x.hi by omega)
 have hlu : l < u := by omega
 obtain ⟨d, hd⟩ : ∃ d, u = l + d := ⟨u - l, by omega⟩
 have hdt : (x.hi - x.lo).toNat = d := by omega
 have hu1 : l + d ≤ 1000 := by omega
 have hV : repF z.wgt x.lo x.hi z.lay m i = upF z.lay d (timesF z.lay l m i).1 (timesF z.lay l m i).2 := by unfold repF; rw [if_neg h0, if_neg (by omega), if_neg (by omega), hltn, hdt]
 have hfl : FitsM (upF z.lay d (timesF z.lay l m i).1 (timesF z.lay l m i).2).1 := by rw [← hV]; exact hf
 have HFT := Lib.hid (hfl.of (upF_grows d hgr _ _))
 have HFL := Lib.hid hfl
 have HV := Lib.hid hV
 have HU := Lib.hid (show x.hi = ((l + d : Nat) : Int) by omega)
 have hd0 : 0 < d := by omega
 clear hV hf hltn hlo hlo2 hh hh2 hdt hfl hu hlu hd
 have hn1 : x.kids.len = 1 := one_len hz
 have hX := Blk.new w 28 (ndA x B cap)
 have x5 : (w.alloc (.cells (ndA x B cap) 28)).cell? ⟨w.heap.size, 5, none⟩ = some (.slice B x.kids.len cap) := hX.cell 5
 have hT1 := ht.below ((Below.refl _ _).alloc (Nat.le_refl _) (.cells (ndA x B cap) 28))
 obtain ⟨b, o, C, capc, rfl, hbb, hnd, hkz⟩ := hT1.sole hz
 have hblk := World.block_lt_of_cell? _ _ hnd.1
 obtain ⟨c0, c1, c2, c3, c4, c5, c6, c7⟩ := hnd
 have hsz2 : ((w.alloc (.cells (ndA x (some ⟨b, o, none⟩) cap) 28)).alloc (.cells (ndA z C capc) 28)).heap.size = w.heap.size + 1 + 1 := by simp
 have HX := Lib.hid (show Blk ((w.alloc (.cells (ndA x (some ⟨b, o, none⟩) cap) 28)).alloc (.cells (ndA z C capc) 28)) w.heap.size 28 (ndA x (some ⟨b, o, none⟩) cap) ∧ ¬ S w.heap.size from ⟨hX.alloc _, h.not (Nat.le_refl _)⟩)
 have HZB := Lib.hid (show Blk ((w.alloc (.cells (ndA x (some ⟨b, o, none⟩) cap) 28)).alloc (.cells (ndA z C capc) 28)) (w.heap.size + 1) 28 (ndA z C capc) ∧ ¬ S (w.heap.size + 1) from ⟨Blk.new_at (by simp), h.not (by omega)⟩)
 have hb2 : Below (w.alloc (.cells (ndA x (some ⟨b, o, none⟩) cap) 28)).heap.size (w.alloc (.cells (ndA x (some ⟨b, o, none⟩) cap) 28)) ((w.alloc (.cells (ndA x (some ⟨b, o, none⟩) cap) 28)).alloc (.cells (ndA z C capc) 28)) := (Below.refl _ _).alloc (Nat.le_refl _) _
 have HT2 := Lib.hid (hT1.below hb2)
 have HK2 := Lib.hid (hkz.below hb2)
 have HL2 := Lib.hid (show LayAt ((w.alloc (.cells (ndA x (some ⟨b, o, none⟩) cap) 28)).alloc (.cells (ndA z C capc) 28)) base g S m ∧ Moves base S w S ((w.alloc (.cells (ndA x (some ⟨b, o, none⟩) cap) 28)).alloc (.cells (ndA z C capc) 28)) from ⟨(h.alloc _).alloc _, ((Moves.refl base S w).alloc hb _).alloc hb _⟩)
 have HW := Lib.hid (nwgt_go z (fun b => b < base) C capc ((w.alloc (.cells (ndA x (some ⟨b, o, none⟩) cap) 28)).alloc (.cells (ndA z C capc) 28)) hzs hzn (hkz.below hb2))
 have HB := Lib.hid hb
 have HLAY := Lib.hid hlay
 have HGR := Lib.hid hgr
 have HZ := Lib.hid hz
 clear hz ht h hlay hgr hzn hX hT1 hkz hb2
 unfold ndV at *
 unfold ndA at *
 rw [hk] at *
 rw [hn1] at *
 clear hk hn1
 generalize z.wgt = n at *
 have hnz : ((n : Int) == 0) = false := by rw [beq_eq_false_iff_ne]; omega
 have y6 : ((w.alloc (.cells #[.int .i64 9, .int .u64 (word x.set.testBit 0), .int .u64 (word x.set.testBit 1), .int .u64 (word x.set.testBit 2), .int .u64 (word x.set.testBit 3), .slice (some ⟨b, o, none⟩) 1 cap, .int .i64 x.lo, .int .i64 x.hi] 28)).alloc (.cells #[.int .i64 z.kind, .int .u64 (word z.set.testBit 0), .int .u64 (word z.set.testBit 1), .int .u64 (word z.set.testBit 2), .int .u64 (word z.set.testBit 3), .slice C z.kids.len capc, .int .i64 z.lo, .int .i64 z.hi] 28)).cell? ⟨w.heap.size, 6, none⟩ = some (.int .i64 (l : Int)) := by rw [← hl]; exact HX.out.1.cell 6
 have HL := Lib.hid hl
 clear hl
 go_enter Tryz.func149, Tryz.ntmps149
 go_wp2_with fail
 refine HW.out.mono ?_
 rintro e w3 ⟨rfl, hb3⟩
 have hX3 := HX.out.1.below hb3 (by simp; omega)
 have x6 : w3.cell? ⟨w.heap.size, 6, none⟩ = some (.int .i64 (l : Int)) := by rw [← HL.out]; exact hX3.cell 6
 have hs3 : w.heap.size + 1 + 1 ≤ w3.heap.size := by have := hb3.size; omega
 have HM3 := Lib.hid (show ∃ S', LayAt w3 base g S' (timesF z.lay 0 m i).1 ∧ Moves base S ((w.alloc (.cells #[.int .i64 9, .int .u64 (word x.set.testBit 0), .int .u64 (word x.set.testBit 1), .int .u64 (word x.set.testBit 2), .int .u64 (word x.set.testBit 3), .slice (some ⟨b, o, none⟩) 1 cap, .int .i64 x.lo, .int .i64 x.hi] 28)).alloc (.cells #[.int .i64 z.kind, .int .u64 (word z.set.testBit 0), .int .u64 (word z.set.testBit 1), .int .u64 (word z.set.testBit 2), .int .u64 (word z.set.testBit 3), .slice C z.kids.len capc, .int .i64 z.lo, .int .i64 z.hi] 28)) S' w3 from ⟨S, HL2.out.1.below hb3, Moves.of_below hb3 (by have := HB.out; omega)⟩)
 clear hb3 HW hX3 c0 c1 c2 c3 c4 c5 c6 c7 x5 y6 hbb hblk
 dsimp only
 go_wp2
 go_loopw [2, 19] (fun v i' wr => ∃ k : Nat, i' = .int .i64 (k : Int) ∧ k ≤ l ∧ v = .int .i64 (((timesF z.lay k m i).2 : Nat) : Int) ∧ Hid (∃ S', LayAt wr base g S' (timesF z.lay k m i).1 ∧ Moves base S ((w.alloc (.cells #[.int .i64 9, .int .u64 (word x.set.testBit 0), .int .u64 (word x.set.testBit 1), .int .u64 (word x.set.testBit 2), .int .u64 (word x.set.testBit 3), .slice (some ⟨b, o, none⟩) 1 cap, .int .i64 x.lo, .int .i64 x.hi] 28)).alloc (.cells #[.int .i64 z.kind, .int .u64 (word z.set.testBit 0), .int .u64 (word z.set.testBit 1), .int .u64 (word z.set.testBit 2), .int .u64 (word z.set.testBit 3), .slice C z.kids.len capc, .int .i64 z.lo, .int .i64 z.hi] 28)) S' wr)) (fun _ i' _ => l - (intOf i').toNat)
 case atStart => exact ⟨0, rfl, Nat.zero_le _, rfl, HM3⟩
 case round =>
  clear HM3 hs3 x6
  obtain ⟨k, rfl, hk, rfl, HM⟩ := hrel
  obtain ⟨S1, hL1, hM1⟩ := HM.out
  have hZ1 := HZB.out.1.moves hM1 HZB.out.2
  have hX1 := HX.out.1.moves hM1 HX.out.2
  have hsr : w.heap.size + 1 + 1 ≤ wr.heap.size := by have := hM1.size; omega
  by_cases hlt : k < l
  ·have hdl : (k : Int) < (l : Int) := by omega
   have hfk : FitsM (z.lay (timesF z.lay k m i).1 (timesF z.lay k m i).2).1 := by
    have := HFT.out.of (timesF_part HGR.out m i (k + 1) (l - (k + 1)) |> fun h => by rw [show k + 1 + (l - (k + 1)) = l by omega] at h; exact h)
    rw [timesF_snoc] at this
    exact this
   have HI := Lib.hid (HLAY.out C capc (timesF z.lay k m i).2 base g S1 (timesF z.lay k m i).1 wr (HK2.out.moves hM1) hL1 (by have := HB.out; omega) hfk)
   have z0 : wr.cell? ⟨w.heap.size + 1, 0, none⟩ = some (.int .i64 z.kind) := hZ1.cell 0
   have z1 : wr.cell? ⟨w.heap.size + 1, 1, none⟩ = some (.int .u64 (word z.set.testBit 0)) := hZ1.cell 1
   have z2 : wr.cell? ⟨w.heap.size + 1, 2, none⟩ = some (.int .u64 (word z.set.testBit 1)) := hZ1.cell 2
   have z3 : wr.cell? ⟨w.heap.size + 1, 3, none⟩ = some (.int .u64 (word z.set.testBit 2)) := hZ1.cell 3
   have z4 : wr.cell? ⟨w.heap.size + 1, 4, none⟩ = some (.int .u64 (word z.set.testBit 3)) := hZ1.cell 4
   have z5 : wr.cell? ⟨w.heap.size + 1, 5, none⟩ = some (.slice C z.kids.len capc) := hZ1.cell 5
   have z6 : wr.cell? ⟨w.heap.size + 1, 6, none⟩ = some (.int .i64 z.lo) := hZ1.cell 6
   have z7 : wr.cell? ⟨w.heap.size + 1, 7, none⟩ = some (.int .i64 z.hi) := hZ1.cell 7
   have HM1 := Lib.hid hM1
   have HS := Lib.hid (timesF_snoc z.lay k m i)
   clear hM1 hL1 hZ1 hX1 hfk HM
   generalize (timesF z.lay k m i).2 = at1 at *
   generalize (timesF z.lay k m i).1 = mk1 at *
   unfold ndV at HI
   go_wp2_with fail
   refine HI.out.mono ?_
   rintro e w4 ⟨rfl, hlay⟩
   have HL4 := Lib.hid hlay
   clear hlay HI z0 z1 z2 z3 z4 z5 z6 z7
   dsimp only
   go_wp2
   go_roundw
   case rel =>
    refine ⟨k + 1, by go_num, by omega, by rw [HS.out], Lib.hid ?_⟩
    rw [HS.out]
    obtain ⟨S3, h1, h2⟩ := HL4.out
    exact ⟨S3, h1, HM1.out.trans h2⟩
   case measure => simp [intOf]; omega
  ·obtain rfl : k = l := by omega
   have hdl : ¬ ((k : Int) < (k : Int)) := by omega
   have x6 : wr.cell? ⟨w.heap.size, 6, none⟩ = some (.int .i64 (k : Int)) := by rw [← HL.out]; exact hX1.cell 6
   have x5 : wr.cell? ⟨w.heap.size, 5, none⟩ = some (.slice (some ⟨b, o, none⟩) 1 cap) := hX1.cell 5
   have x7 : wr.cell? ⟨w.heap.size, 7, none⟩ = some (.int .i64 x.hi) := hX1.cell 7
   have x7' : wr.cell? ⟨w.heap.size, 7, none⟩ = some (.int .i64 ((k + d : Nat) : Int)) := by rw [← HU.out]; exact x7
   have hnn : ¬ (((k + d : Nat) : Int) < 0) := by omega
   have hne : (((k + d : Nat) : Int) == (k : Int)) = false := by rw [beq_eq_false_iff_ne]; omega
   have HC := Lib.hid (lstate_go base g S1 _ 0 wr hL1 (by have := HB.out; omega) HFT.out.1)
   have HM1 := Lib.hid hM1
   have HUP := Lib.hid (show upF z.lay d (timesF z.lay k m i).1 (timesF z.lay k m i).2 = ((optsF z.lay (timesF z.lay k m i).1.states d ((timesF z.lay k m i).1.state 0) (timesF z.lay k m i).2).1.link (optsF z.lay (timesF z.lay k m i).1.states d ((timesF z.lay k m i).1.state 0) (timesF z.lay k m i).2).2 (timesF z.lay k m i).1.states, (timesF z.lay k m i).1.states) from rfl)
   have HFO := Lib.hid (show FitsM (optsF z.lay (timesF z.lay k m i).1.states d ((timesF z.lay k m i).1.state 0) (timesF z.lay k m i).2).1 from HFL.out.of (ExtM.link _ _ _))
   clear x7 hM1 hL1 hZ1 hX1 HM HFT HFL
   generalize (timesF z.lay k m i).2 = at1 at *
   generalize (timesF z.lay k m i).1 = mk1 at *
   go_wp2_with fail
   refine HC.out.mono ?_
   rintro e w4 ⟨rfl, S4, hL4, hM4⟩
   have hM4' := HM1.out.trans hM4
   have hX4 := HX.out.1.moves hM4' HX.out.2
   have v6 : w4.cell? ⟨w.heap.size, 6, none⟩ = some (.int .i64 (k : Int)) := by rw [← HL.out]; exact hX4.cell 6
   have v7 : w4.cell? ⟨w.heap.size, 7, none⟩ = some (.int .i64 ((k + d : Nat) : Int)) := by rw [← HU.out]; exact hX4.cell 7
   have hs4 : w.heap.size < w4.heap.size := hX4.lt
   have hsub : IntKind.i64.wrap (((k + d : Nat) : Int) - (k : Int)) = (d : Int) := by rw [IntKind.wrap_i64]; omega
   have hM4 := Lib.hid (show ∃ S', LayAt w4 base g S' (optsF z.lay mk1.states 0 (mk1.state 0) at1).1 ∧ Moves base S ((w.alloc (.cells #[.int .i64 9, .int .u64 (word x.set.testBit 0), .int .u64 (word x.set.testBit 1), .int .u64 (word x.set.testBit 2), .int .u64 (word x.set.testBit 3), .slice (some ⟨b, o, none⟩) 1 cap, .int .i64 x.lo, .int .i64 x.hi] 28)).alloc (.cells #[.int .i64 z.kind, .int .u64 (word z.set.testBit 0), .int .u64 (word z.set.testBit 1), .int .u64 (word z.set.testBit 2), .int .u64 (word z.set.testBit 3), .slice C z.kids.len capc, .int .i64 z.lo, .int .i64 z.hi] 28)) S' w4 from ⟨S4, hL4, hM4'⟩)
   clear hL4 hM4' hX4 HC HM1 x6 x7' x5 hnn hne
   dsimp only
   go_wp2
   have HL2' := HL2.out.2
   have HL2b := Lib.hid HL2'
   clear HL2' HL2
   go_loopw [2, 50] (fun v i' wr2 => ∃ j : Nat, i' = .int .i64 (j : Int) ∧ j ≤ d ∧ v = .int .i64 (((optsF z.lay mk1.states j (mk1.state 0) at1).2 : Nat) : Int) ∧ Hid (∃ S', LayAt wr2 base g S' (optsF z.lay mk1.states j (mk1.state 0) at1).1 ∧ Moves base S ((w.alloc (.cells #[.int .i64 9, .int .u64 (word x.set.testBit 0), .int .u64 (word x.set.testBit 1), .int .u64 (word x.set.testBit 2), .int .u64 (word x.set.testBit 3), .slice (some ⟨b, o, none⟩) 1 cap, .int .i64 x.lo, .int .i64 x.hi] 28)).alloc (.cells #[.int .i64 z.kind, .int .u64 (word z.set.testBit 0), .int .u64 (word z.set.testBit 1), .int .u64 (word z.set.testBit 2), .int .u64 (word z.set.testBit 3), .slice C z.kids.len capc, .int .i64 z.lo, .int .i64 z.hi] 28)) S' wr2)) (fun _ i' _ => d - (intOf i').toNat)
   case atStart => exact ⟨0, rfl, Nat.zero_le _, rfl, hM4⟩
   case round =>
    clear hM4 v6 v7 hs4 hsub hdl hlt
    obtain ⟨j, rfl, hj, rfl, HM⟩ := hrel
    obtain ⟨S5, hL5, hM5⟩ := HM.out
    have hs5 : w.heap.size + 1 + 1 ≤ wr.heap.size := by have := hM5.size; omega
    have hpart := optsF_part HGR.out mk1.states (mk1.state 0) at1
    by_cases hlt2 : j < d
    ·have hdl : (j : Int) < (d : Int) := by omega
     have hsn := optsF_snoc z.lay mk1.states j (mk1.state 0) at1
     have hfk : FitsM (z.lay ((optsF z.lay mk1.states j (mk1.state 0) at1).1.link (optsF z.lay mk1.states j (mk1.state 0) at1).2 mk1.states) (optsF z.lay mk1.states j (mk1.state 0) at1).2).1 := by
      have := HFO.out.of (by have h := hpart (j + 1) (d - (j + 1)); rw [show j + 1 + (d - (j + 1)) = d by omega] at h; exact h)
      rw [hsn] at this
      exact this
     have hfl := (hfk.of (HGR.out _ _)).of (ExtM.link _ _ _)
     have HC := Lib.hid (llink_go base g S5 _ (optsF z.lay mk1.states j (mk1.state 0) at1).2 mk1.states wr hL5 (by have := HB.out; omega) hfl.2.1)
     have HM5 := Lib.hid hM5
     have HFK := Lib.hid hfk
     have HSN := Lib.hid hsn
     clear hsn hfk hfl hM5 hL5 hpart HM
     generalize (optsF z.lay mk1.states j (mk1.state 0) at1).2 = at2 at *
     generalize (optsF z.lay mk1.states j (mk1.state 0) at1).1 = mk2 at *
     go_wp2_with fail
     refine HC.out.mono ?_
     rintro e w6 ⟨rfl, S6, hL6, hM6⟩
     have hM6' := HM5.out.trans hM6
     have hZ6 := HZB.out.1.moves hM6' HZB.out.2
     have HI := Lib.hid (HLAY.out C capc at2 base g S6 (mk2.link at2 mk1.states) w6 (HK2.out.moves hM6') hL6 (by have := HB.out; have := hM6'.size; omega) HFK.out)
     have hs6 : w.heap.size + 1 < w6.heap.size := hZ6.lt
     have z0 : w6.cell? ⟨w.heap.size + 1, 0, none⟩ = some (.int .i64 z.kind) := hZ6.cell 0
     have z1 : w6.cell? ⟨w.heap.size + 1, 1, none⟩ = some (.int .u64 (word z.set.testBit 0)) := hZ6.cell 1
     have z2 : w6.cell? ⟨w.heap.size + 1, 2, none⟩ = some (.int .u64 (word z.set.testBit 1)) := hZ6.cell 2
     have z3 : w6.cell? ⟨w.heap.size + 1, 3, none⟩ = some (.int .u64 (word z.set.testBit 2)) := hZ6.cell 3
     have z4 : w6.cell? ⟨w.heap.size + 1, 4, none⟩ = some (.int .u64 (word z.set.testBit 3)) := hZ6.cell 4
     have z5 : w6.cell? ⟨w.heap.size + 1, 5, none⟩ = some (.slice C z.kids.len capc) := hZ6.cell 5
     have z6 : w6.cell? ⟨w.heap.size + 1, 6, none⟩ = some (.int .i64 z.lo) := hZ6.cell 6
     have z7 : w6.cell? ⟨w.heap.size + 1, 7, none⟩ = some (.int .i64 z.hi) := hZ6.cell 7
     have HM6 := Lib.hid hM6'
     clear hM6 hM6' hZ6 hL6 HM5 HC
     unfold ndV at HI
     dsimp only
     go_wp2_with fail
     refine HI.out.mono ?_
     rintro e w7 ⟨rfl, hlay⟩
     have HL7 := Lib.hid hlay
     clear hlay HI z0 z1 z2 z3 z4 z5 z6 z7
     dsimp only
     go_wp2
     go_roundw
     case rel =>
      refine ⟨j + 1, by go_num, by omega, by rw [HSN.out], Lib.hid ?_⟩
      rw [HSN.out]
      obtain ⟨S7, h1, h2⟩ := HL7.out
      exact ⟨S7, h1, HM6.out.trans h2⟩
     case measure => simp [intOf]; omega
    ·obtain rfl : j = d := by omega
     have hdl : ¬ ((j : Int) < (j : Int)) := by omega
     have HC := Lib.hid (llink_go base g S5 _ (optsF z.lay mk1.states j (mk1.state 0) at1).2 mk1.states wr hL5 (by have := HB.out; omega) HFO.out.2.1)
     have HM5 := Lib.hid hM5
     clear hM5 hL5 hpart HM
     generalize (optsF z.lay mk1.states j (mk1.state 0) at1).2 = at2 at *
     generalize (optsF z.lay mk1.states j (mk1.state 0) at1).1 = mk2 at *
     go_wp2_with fail
     refine HC.out.mono ?_
     rintro e w6 ⟨rfl, S6, hL6, hM6⟩
     have HO := Lib.hid (show ∃ S', LayAt w6 base g S' (mk2.link at2 mk1.states) ∧ Moves base S w S' w6 from ⟨S6, hL6, HL2b.out.trans (HM5.out.trans hM6)⟩)
     clear hM6 hL6 HM5 HC
     dsimp only
     go_wp2
     go_light
     go_ret
     rw [HV.out, HUP.out]
     exact ⟨rfl, HO.out⟩
theorem lay1 (x : Nd) (hk : x.kind = 1) (B : Option Addr) (cap i base g : Nat) (S : Nat → Prop) (m : MachS) (w : World) (hb : base ≤ w.heap.size) (R : MachS × Nat) (HC : Hid (Calls Tryz.prog 144 #[.pointer (some ⟨g, 0, none⟩), ndV x B cap, .int .i64 (i : Int)] (w.alloc (.cells (ndA x B cap) 28)) (LayOut base g S (w.alloc (.cells (ndA x B cap) 28)) R))) :
  Calls Tryz.prog 99 #[.pointer (some ⟨g, 0, none⟩), ndV x B cap, .int .i64 (i : Int)] w (LayOut base g S w R) := by
 have HB := Lib.hid hb
 unfold ndV at *
 unfold ndA at *
 rw [hk] at *
 clear hk
 go_enter Tryz.func99, Tryz.ntmps99
 go_wp2_with fail
 refine HC.out.mono ?_
 rintro e w2 ⟨rfl, hl⟩
 have HL := Lib.hid hl
 clear hl HC
 dsimp only
 go_wp2
 go_light
 go_ret
 exact LayOut.alloc_first HB.out ⟨rfl, HL.out⟩
theorem lay2 (x : Nd) (hk : x.kind = 2) (B : Option Addr) (cap i base g : Nat) (S : Nat → Prop) (m : MachS) (w : World) (hb : base ≤ w.heap.size) (R : MachS × Nat) (HC : Hid (Calls Tryz.prog 144 #[.pointer (some ⟨g, 0, none⟩), ndV x B cap, .int .i64 (i : Int)] (w.alloc (.cells (ndA x B cap) 28)) (LayOut base g S (w.alloc (.cells (ndA x B cap) 28)) R))) :
  Calls Tryz.prog 99 #[.pointer (some ⟨g, 0, none⟩), ndV x B cap, .int .i64 (i : Int)] w (LayOut base g S w R) := by
 have HB := Lib.hid hb
 unfold ndV at *
 unfold ndA at *
 rw [hk] at *
 clear hk
 go_enter Tryz.func99, Tryz.ntmps99
 go_wp2_with fail
 refine HC.out.mono ?_
 rintro e w2 ⟨rfl, hl⟩
 have HL := Lib.hid hl
 clear hl HC
 dsimp only
 go_wp2
 go_light
 go_ret
 exact LayOut.alloc_first HB.out ⟨rfl, HL.out⟩
theorem lay3 (x : Nd) (hk : x.kind = 3) (B : Option Addr) (cap i base g : Nat) (S : Nat → Prop) (m : MachS) (w : World) (hb : base ≤ w.heap.size) (R : MachS × Nat) (HC : Hid (Calls Tryz.prog 144 #[.pointer (some ⟨g, 0, none⟩), ndV x B cap, .int .i64 (i : Int)] (w.alloc (.cells (ndA x B cap) 28)) (LayOut base g S (w.alloc (.cells (ndA x B cap) 28)) R))) :
  Calls Tryz.prog 99 #[.pointer (some ⟨g, 0, none⟩), ndV x B cap, .int .i64 (i : Int)] w (LayOut base g S w R) := by
 have HB := Lib.hid hb
 unfold ndV at *
 unfold ndA at *
 rw [hk] at *
 clear hk
 go_enter Tryz.func99, Tryz.ntmps99
 go_wp2_with fail
 refine HC.out.mono ?_
 rintro e w2 ⟨rfl, hl⟩
 have HL := Lib.hid hl
 clear hl HC
 dsimp only
 go_wp2
 go_light
 go_ret
 exact LayOut.alloc_first HB.out ⟨rfl, HL.out⟩
theorem lay4 (x : Nd) (hk : x.kind = 4) (B : Option Addr) (cap i base g : Nat) (S : Nat → Prop) (m : MachS) (w : World) (hb : base ≤ w.heap.size) (R : MachS × Nat) (HC : Hid (Calls Tryz.prog 145 #[.pointer (some ⟨g, 0, none⟩), ndV x B cap, .int .i64 (i : Int)] (w.alloc (.cells (ndA x B cap) 28)) (LayOut base g S (w.alloc (.cells (ndA x B cap) 28)) R))) :
  Calls Tryz.prog 99 #[.pointer (some ⟨g, 0, none⟩), ndV x B cap, .int .i64 (i : Int)] w (LayOut base g S w R) := by
 have HB := Lib.hid hb
 unfold ndV at *
 unfold ndA at *
 rw [hk] at *
 clear hk
 go_enter Tryz.func99, Tryz.ntmps99
 go_wp2_with fail
 refine HC.out.mono ?_
 rintro e w2 ⟨rfl, hl⟩
 have HL := Lib.hid hl
 clear hl HC
 dsimp only
 go_wp2
 go_light
 go_ret
 exact LayOut.alloc_first HB.out ⟨rfl, HL.out⟩
theorem lay5 (x : Nd) (hk : x.kind = 5) (B : Option Addr) (cap i base g : Nat) (S : Nat → Prop) (m : MachS) (w : World) (hb : base ≤ w.heap.size) (R : MachS × Nat) (HC : Hid (Calls Tryz.prog 146 #[.pointer (some ⟨g, 0, none⟩), ndV x B cap, .int .i64 (i : Int)] (w.alloc (.cells (ndA x B cap) 28)) (LayOut base g S (w.alloc (.cells (ndA x B cap) 28)) R))) :
  Calls Tryz.prog 99 #[.pointer (some ⟨g, 0, none⟩), ndV x B cap, .int .i64 (i : Int)] w (LayOut base g S w R) := by
 have HB := Lib.hid hb
 unfold ndV at *
 unfold ndA at *
 rw [hk] at *
 clear hk
 go_enter Tryz.func99, Tryz.ntmps99
 go_wp2_with fail
 refine HC.out.mono ?_
 rintro e w2 ⟨rfl, hl⟩
 have HL := Lib.hid hl
 clear hl HC
 dsimp only
 go_wp2
 go_light
 go_ret
 exact LayOut.alloc_first HB.out ⟨rfl, HL.out⟩
theorem lay6 (x : Nd) (hk : x.kind = 6) (B : Option Addr) (cap i base g : Nat) (S : Nat → Prop) (m : MachS) (w : World) (hb : base ≤ w.heap.size) (R : MachS × Nat) (HC : Hid (Calls Tryz.prog 147 #[.pointer (some ⟨g, 0, none⟩), ndV x B cap, .int .i64 (i : Int)] (w.alloc (.cells (ndA x B cap) 28)) (LayOut base g S (w.alloc (.cells (ndA x B cap) 28)) R))) :
  Calls Tryz.prog 99 #[.pointer (some ⟨g, 0, none⟩), ndV x B cap, .int .i64 (i : Int)] w (LayOut base g S w R) := by
 have HB := Lib.hid hb
 unfold ndV at *
 unfold ndA at *
 rw [hk] at *
 clear hk
 go_enter Tryz.func99, Tryz.ntmps99
 go_wp2_with fail
 refine HC.out.mono ?_
 rintro e w2 ⟨rfl, hl⟩
 have HL := Lib.hid hl
 clear hl HC
 dsimp only
 go_wp2
 go_light
 go_ret
 exact LayOut.alloc_first HB.out ⟨rfl, HL.out⟩
theorem lay7 (x : Nd) (hk : x.kind = 7) (B : Option Addr) (cap i base g : Nat) (S : Nat → Prop) (m : MachS) (w : World) (hb : base ≤ w.heap.size) (R : MachS × Nat) (HC : Hid (Calls Tryz.prog 147 #[.pointer (some ⟨g, 0, none⟩), ndV x B cap, .int .i64 (i : Int)] (w.alloc (.cells (ndA x B cap) 28)) (LayOut base g S (w.alloc (.cells (ndA x B cap) 28)) R))) :
  Calls Tryz.prog 99 #[.pointer (some ⟨g, 0, none⟩), ndV x B cap, .int .i64 (i : Int)] w (LayOut base g S w R) := by
 have HB := Lib.hid hb
 unfold ndV at *
 unfold ndA at *
 rw [hk] at *
 clear hk
 go_enter Tryz.func99, Tryz.ntmps99
 go_wp2_with fail
 refine HC.out.mono ?_
 rintro e w2 ⟨rfl, hl⟩
 have HL := Lib.hid hl
 clear hl HC
 dsimp only
 go_wp2
 go_light
 go_ret
 exact LayOut.alloc_first HB.out ⟨rfl, HL.out⟩
theorem lay8 (x : Nd) (hk : x.kind = 8) (B : Option Addr) (cap i base g : Nat) (S : Nat → Prop) (m : MachS) (w : World) (hb : base ≤ w.heap.size) (R : MachS × Nat) (HC : Hid (Calls Tryz.prog 148 #[.pointer (some ⟨g, 0, none⟩), ndV x B cap, .int .i64 (i : Int)] (w.alloc (.cells (ndA x B cap) 28)) (LayOut base g S (w.alloc (.cells (ndA x B cap) 28)) R))) :
  Calls Tryz.prog 99 #[.pointer (some ⟨g, 0, none⟩), ndV x B cap, .int .i64 (i : Int)] w (LayOut base g S w R) := by
 have HB := Lib.hid hb
 unfold ndV at *
 unfold ndA at *
 rw [hk] at *
 clear hk
 go_enter Tryz.func99, Tryz.ntmps99
 go_wp2_with fail
 refine HC.out.mono ?_
 rintro e w2 ⟨rfl, hl⟩
 have HL := Lib.hid hl
 clear hl HC
 dsimp only
 go_wp2
 go_light
 go_ret
 exact LayOut.alloc_first HB.out ⟨rfl, HL.out⟩
theorem lay9 (x : Nd) (hk : x.kind = 9) (B : Option Addr) (cap i base g : Nat) (S : Nat → Prop) (m : MachS) (w : World) (hb : base ≤ w.heap.size) (R : MachS × Nat) (HC : Hid (Calls Tryz.prog 149 #[.pointer (some ⟨g, 0, none⟩), ndV x B cap, .int .i64 (i : Int)] (w.alloc (.cells (ndA x B cap) 28)) (LayOut base g S (w.alloc (.cells (ndA x B cap) 28)) R))) :
  Calls Tryz.prog 99 #[.pointer (some ⟨g, 0, none⟩), ndV x B cap, .int .i64 (i : Int)] w (LayOut base g S w R) := by
 have HB := Lib.hid hb
 unfold ndV at *
 unfold ndA at *
 rw [hk] at *
 clear hk
 go_enter Tryz.func99, Tryz.ntmps99
 go_wp2_with fail
 refine HC.out.mono ?_
 rintro e w2 ⟨rfl, hl⟩
 have HL := Lib.hid hl
 clear hl HC
 dsimp only
 go_wp2
 go_light
 go_ret
 exact LayOut.alloc_first HB.out ⟨rfl, HL.out⟩
theorem one_kid {x : Nd} (h : x.kids.len = 1) : ∃ z, x.kids.list = [z] := by
 rw [← Trees.len_list] at h
 exact List.length_eq_one_iff.1 h
theorem lay_node (x : Nd) (hs : x.size ≤ 100000000) (ha : aloneN x = true) (hn : ∀ y ∈ x.kids.nodes, numsOk y) (hK : KidsC x.kids) : LayC x := by
 intro B cap i base g S m w ht h hb hf
 obtain ⟨a1, a9, a0, ak1, ak9⟩ := aloneN_kids ha
 have hno := numsOk_of ha
 have hlen : x.kids.len ≤ 100000000 := by have := Trees.len_size x.kids; unfold Nd.size at hs; omega
 have ht1 := ht.below ((Below.refl _ _).alloc (Nat.le_refl _) (.cells (ndA x B cap) 28))
 have h1 := h.alloc (.cells (ndA x B cap) 28)
 have hb1 : base ≤ (w.alloc (.cells (ndA x B cap) 28)).heap.size := by simp; omega
 rcases (show x.kind = 1 ∨ x.kind = 2 ∨ x.kind = 3 ∨ x.kind = 4 ∨ x.kind = 5 ∨ x.kind = 6 ∨ x.kind = 7 ∨ x.kind = 8 ∨ x.kind = 9 by omega) with hk | hk | hk | hk | hk | hk | hk | hk | hk
 ·have e : x.lay = nilF := by unfold Nd.lay layK; rw [hk]; rfl
  rw [e] at hf ⊢
  exact lay1 x hk B cap i base g S m w hb _ (Lib.hid (lplain_none x hk B cap i base g S m _ h1 hb1 hf))
 ·have e : x.lay = noF := by unfold Nd.lay layK; rw [hk]; rfl
  rw [e] at hf ⊢
  exact lay2 x hk B cap i base g S m w hb _ (Lib.hid (lplain_empty x hk B cap i base g S m _ h1 hb1))
 ·have e : x.lay = setF x.set := by unfold Nd.lay layK; rw [hk]; rfl
  rw [e] at hf ⊢
  exact lay3 x hk B cap i base g S m w hb _ (Lib.hid (lplain_set x hk B cap i base g S m _ h1 hb1 hf))
 ·have e : x.lay = catF x.kids.lays := by unfold Nd.lay layK; rw [hk]; rfl
  rw [e] at hf ⊢
  exact lay4 x hk B cap i base g S m w hb _ (Lib.hid (lcat_go x hK B cap i base g S m _ ht1 h1 hb1 hf (by omega)))
 ·have e : x.lay = barF x.kids.lays := by unfold Nd.lay layK; rw [hk]; rfl
  rw [e] at hf ⊢
  exact lay5 x hk B cap i base g S m w hb _ (Lib.hid (lalt_go x hK B cap i base g S m _ ht1 h1 hb1 hf (by omega)))
 ·obtain ⟨z, hz⟩ := one_kid (a1 (by omega) (by omega))
  have hd := Trees.lays_head (F := x.kids) (z := z) (by rw [hz]; rfl)
  have e : x.lay = loopF false z.lay := by unfold Nd.lay layK; rw [hk, hd]; rfl
  have hgr : GrowsF z.lay := hK.grows _ (by rw [Trees.lays_list, hz]; simp)
  rw [e] at hf ⊢
  exact lay6 x hk B cap i base g S m w hb _ (Lib.hid (lloop_star x z hz (hK.lay z (by rw [hz]; simp)) hgr hk B cap i base g S m _ ht1 h1 hb1 hf))
 ·obtain ⟨z, hz⟩ := one_kid (a1 (by omega) (by omega))
  have hd := Trees.lays_head (F := x.kids) (z := z) (by rw [hz]; rfl)
  have e : x.lay = loopF true z.lay := by unfold Nd.lay layK; rw [hk, hd]; rfl
  have hgr : GrowsF z.lay := hK.grows _ (by rw [Trees.lays_list, hz]; simp)
  rw [e] at hf ⊢
  exact lay7 x hk B cap i base g S m w hb _ (Lib.hid (lloop_plus x z hz (hK.lay z (by rw [hz]; simp)) hgr hk B cap i base g S m _ ht1 h1 hb1 hf))
 ·obtain ⟨z, hz⟩ := one_kid (a1 (by omega) (by omega))
  have hd := Trees.lays_head (F := x.kids) (z := z) (by rw [hz]; rfl)
  have e : x.lay = optF z.lay := by unfold Nd.lay layK; rw [hk, hd]; rfl
  have hgr : GrowsF z.lay := hK.grows _ (by rw [Trees.lays_list, hz]; simp)
  rw [e] at hf ⊢
  exact lay8 x hk B cap i base g S m w hb _ (Lib.hid (lopt_go x z hz (hK.lay z (by rw [hz]; simp)) hgr hk B cap i base g S m _ ht1 h1 hb1 hf))
 ·obtain ⟨z, hz⟩ := one_kid (a1 (by omega) (by omega))
  have hd := Trees.lays_head (F := x.kids) (z := z) (by rw [hz]; rfl)
  have hw := Trees.headW_list (F := x.kids) (z := z) (by rw [hz]; rfl)
  have e : x.lay = repF z.wgt x.lo x.hi z.lay := by unfold Nd.lay layK; rw [hk, hd, hw]; rfl
  have hgr : GrowsF z.lay := hK.grows _ (by rw [Trees.lays_list, hz]; simp)
  have hzl := hK.lay z (by rw [hz]; simp)
  have hzs : z.size ≤ 140737488355328 := by
   have := Trees.size_get x.kids 0 z (by rw [hz]; rfl)
   unfold Nd.size at hs
   omega
  have hzn : ∀ y ∈ z.nodes, numsOk y := fun y hy => hn y (nodes_kid (i := 0) (by rw [hz]; rfl) y hy)
  obtain ⟨l0, l1, l2, l3⟩ := hno hk
  obtain ⟨_, hrel⟩ := a9 hk
  rw [e] at hf ⊢
  refine lay9 x hk B cap i base g S m w hb _ (Lib.hid ?_)
  by_cases h0 : z.wgt = 0
  ·exact lrep_zero x z hz hzl hgr hzs hzn hk B cap i base g S m _ ht1 h1 hb1 h0
  by_cases hh : x.hi < 0
  ·exact lrep_star x z hz hzl hgr hzs hzn hk B cap i base g S m _ ht1 h1 hb1 h0 l0 l1 hh hf
  by_cases hh2 : x.hi = x.lo
  ·exact lrep_same x z hz hzl hgr hzs hzn hk B cap i base g S m _ ht1 h1 hb1 h0 l0 l1 hh2 hf
  ·exact lrep_up x z hz hzl hgr hzs hzn hk B cap i base g S m _ ht1 h1 hb1 h0 l0 l1 (by omega) l3 hf
theorem lay_all : ∀ (F : Trees), F.size ≤ 100000000 → Okays F → KidsC F
 | .nil, _, _ => ⟨(fun z hz => by cases hz), (fun f hf => by cases hf)⟩
 | .cons k s ks lo hi r, hs, ho => by
  have hks : Okays ks := fun y hy => ho y (by simp [Trees.nodes, hy])
  have hr : Okays r := fun y hy => ho y (by simp [Trees.nodes, hy])
  have hs1 : ks.size ≤ 100000000 ∧ r.size ≤ 100000000 ∧ 1 + ks.size ≤ 100000000 := by simp only [Trees.size] at hs; omega
  have i1 := lay_all ks hs1.1 hks
  have i2 := lay_all r hs1.2.1 hr
  have hself : aloneN ⟨k, s, ks, lo, hi⟩ = true := ho _ (by simp [Trees.nodes])
  refine ⟨fun z hz => ?_, fun f hf => ?_⟩
  ·rw [Trees.list] at hz
   rcases List.mem_cons.1 hz with rfl | hz
   ·exact lay_node ⟨k, s, ks, lo, hi⟩ hs1.2.2 hself (fun y hy => numsOk_of (hks y hy)) i1
   ·exact i2.lay z hz
  ·rw [Trees.lays_list] at hf
   obtain ⟨z, hz, rfl⟩ := List.mem_map.1 hf
   exact (lay_adds _ ho z hz).grows
theorem lay_right {x : Nd} (h : rightT x = true) : LayC x := by
 have ho : Okays (Trees.of [x]) := fun y hy => by
  unfold rightT at h
  rw [Bool.and_eq_true] at h
  refine List.all_eq_true.1 h.2 y ?_
  simpa [Trees.of, Trees.nodes, Nd.nodes] using hy
 refine (lay_all (Trees.of [x]) ?_ ho).lay x (by rw [Trees.list_of]; simp)
 have := rightT_size h
 unfold Nd.size at this
 simp only [Trees.of, Trees.size]
 omega
theorem sizeone_go (z : Nd) (P : Nat → Prop) (C : Option Addr) (capc : Nat) (w : World) (hlen : z.size ≤ 140737488355328) (hok : ∀ y ∈ z.nodes, numsOk y) (ht : TreesAt w P z.kids C) :
  Calls Tryz.prog 142 #[ndV z C capc] w fun e w' => e = .returned (.int .i64 ((min topN (z.wgt + 1) : Nat) : Int)) ∧ Below w.heap.size w w' := by
 have hb1 : Below w.heap.size w (w.alloc (.cells (ndA z C capc) 28)) := (Below.refl _ _).alloc (Nat.le_refl _) _
 have HB1 := Lib.hid hb1
 have HW := Lib.hid (nwgt_go z P C capc _ hlen hok (ht.below hb1))
 have hwl := z.wgt_le
 clear ht hok hb1
 generalize z.wgt = n at *
 unfold ndV at *
 unfold ndA at *
 go_enter Tryz.func142, Tryz.ntmps142
 go_wp2_with fail
 refine HW.out.mono ?_
 rintro e w3 ⟨rfl, hb3⟩
 have HA := Lib.hid (add2_new w3 w3.heap.size n 1 rfl hwl (by decide))
 have HB3 := Lib.hid (HB1.out.trans (hb3.mono HB1.out.size))
 clear hb3 HW
 dsimp only
 go_wp2_with fail
 refine HA.out.mono ?_
 rintro e w4 ⟨rfl, hb4⟩
 have HB4 := Lib.hid (HB3.out.trans (hb4.mono HB3.out.size))
 clear hb4 HA
 dsimp only
 go_wp2
 go_light
 go_ret
 exact ⟨rfl, HB4.out⟩
theorem size_law : ∀ (l : List Nd), min topN (1 + min topN ((l.map fun z => min topN (z.wgt + 1)).sum)) = sizeW l := by
 have h : ∀ l : List Nd, min topN ((l.map fun z => min topN (z.wgt + 1)).sum) = min topN (wAll l) := by
  intro l
  induction l with
  | nil => rfl
  | cons x l ih =>
   have := x.wgt_U
   simp only [wAll, List.map_cons, List.sum_cons] at *
   omega
 intro l
 rw [h l]
 unfold sizeW
 omega
theorem nsize_go (F : Trees) (P : Nat → Prop) (B : Option Addr) (cap : Nat) (w : World) (hl : F.len ≤ 140737488355328) (hs : ∀ z ∈ F.list, z.size ≤ 140737488355328) (hok : ∀ z ∈ F.list, ∀ y ∈ z.nodes, numsOk y) (ht : TreesAt w P F B) :
  Calls Tryz.prog 97 #[.slice B F.len cap] w fun e w' => e = .returned (.int .i64 ((sizeW F.list : Nat) : Int)) ∧ Below w.heap.size w w' := by
 have HS := Lib.hid (nsum_go 142 (fun z => min topN (z.wgt + 1)) F P B cap w hl ht (fun z => Nat.min_le_left _ _) (fun i z C capc w' hz ht' => sizeone_go z P C capc w' (hs z (List.mem_of_getElem? hz)) (hok z (List.mem_of_getElem? hz)) ht') (enters_of Tryz.func142 (by kernel_rfl) rfl))
 have HL := Lib.hid (size_law F.list)
 have hsl : min topN ((F.list.map fun z => min topN (z.wgt + 1)).sum) ≤ topN := Nat.min_le_left _ _
 clear ht hs hok
 generalize min topN ((F.list.map fun z => min topN (z.wgt + 1)).sum) = s at *
 go_enter Tryz.func97, Tryz.ntmps97
 go_wp2_with fail
 refine HS.out.mono ?_
 rintro e w3 ⟨rfl, hb3⟩
 have HA := Lib.hid (add2_new w3 w3.heap.size 1 s rfl (by decide) hsl)
 have HB3 := Lib.hid hb3
 clear hb3 HS
 dsimp only
 go_wp2_with fail
 refine HA.out.mono ?_
 rintro e w4 ⟨rfl, hb4⟩
 have HB4 := Lib.hid (HB3.out.trans (hb4.mono HB3.out.size))
 clear hb4 HA
 dsimp only
 go_wp2
 go_light
 go_ret
 exact ⟨ret_i (by rw [HL.out]), HB4.out⟩
theorem notright_go (z : Nd) (C : Option Addr) (capc : Nat) (w : World) (hsz : z.size ≤ 4611686018427387903) (ht : TreesAt w (fun b => b < w.heap.size) z.kids C) :
  Calls Tryz.prog 96 #[ndV z C capc] w fun e w' => e = .returned (.bool (!rightT z)) ∧ Below w.heap.size w w' := by
 have hb1 : Below w.heap.size w (w.alloc (.cells (ndA z C capc) 28)) := (Below.refl _ _).alloc (Nat.le_refl _) _
 have HB1 := Lib.hid hb1
 have HR := Lib.hid (tright_any z C capc _ hsz ((ht.below hb1).weak (fun b h _ => by simp; omega)))
 clear ht hb1
 unfold ndV at *
 unfold ndA at *
 go_enter Tryz.func96, Tryz.ntmps96
 go_wp2_with fail
 refine HR.out.mono ?_
 rintro e w3 ⟨rfl, hb3⟩
 have HB3 := Lib.hid (HB1.out.trans (hb3.mono HB1.out.size))
 clear hb3 HR
 dsimp only
 go_wp2
 go_light
 go_ret
 exact ⟨rfl, HB3.out⟩
def IdxOut (l : List Nd) (w : World) (e : Ending) (w' : World) : Prop := ∃ v : Int, e = .returned (.int .i64 v) ∧ ((l.all rightT = true ∧ v = -1) ∨ (l.all rightT = false ∧ 0 ≤ v)) ∧ Below w.heap.size w w'
theorem idxright_go (F : Trees) (B : Option Addr) (cap : Nat) (w : World) (hl : F.len ≤ 140737488355328) (hs : ∀ z ∈ F.list, z.size ≤ 4611686018427387903) (ht : TreesAt w (fun b => b < w.heap.size) F B) :
  Calls Tryz.prog 134 #[.slice B F.len cap, .func (.func 96) #[] #[]] w (IdxOut F.list w) := by
 have HT := Lib.hid ht
 have HS := Lib.hid hs
 clear ht hs
 go_enter Tryz.func134, Tryz.ntmps134
 go_wp2
 go_loopw [8] (fun i' wr => ∃ k : Nat, i' = .int .i64 (k : Int) ∧ k ≤ F.len ∧ Hid (∀ j z, j < k → F.list[j]? = some z → rightT z = true) ∧ Hid (Below w.heap.size w wr)) (fun i' _ => F.len - (intOf i').toNat)
 case atStart => exact ⟨0, rfl, Nat.zero_le _, Lib.hid (fun j z hj => by omega), Lib.hid (Below.refl _ _)⟩
 case round =>
  obtain ⟨k, rfl, hk, HR, HB⟩ := hrel
  by_cases hlt : k < F.len
  ·obtain ⟨z, hz⟩ : ∃ z, F.list[k]? = some z := ⟨_, List.getElem?_eq_getElem (by rw [Trees.len_list]; exact hlt)⟩
   obtain ⟨b, o, C, capc, rfl, _, _, ⟨c0, c1, c2, c3, c4, c5, c6, c7⟩, hkz⟩ := (HT.out.below HB.out).get hz
   have hdl : (k : Int) < (F.len : Int) := by omega
   have hwr := HB.out.size
   have HI := Lib.hid (notright_go z C capc wr (HS.out z (List.mem_of_getElem? hz)) (hkz.weak (fun b h _ => by omega)))
   have HZ := Lib.hid hz
   clear hz hkz
   unfold ndV at HI
   cases hv : rightT z with
   | true =>
    rw [hv] at HI
    have HV := Lib.hid hv
    clear hv
    go_wp2_with fail
    refine HI.out.mono ?_
    rintro e w3 ⟨rfl, hb3⟩
    have HB3 := Lib.hid (HB.out.trans (hb3.mono HB.out.size))
    clear hb3 HI c0 c1 c2 c3 c4 c5 c6 c7
    dsimp only
    go_wp2
    go_roundw
    case rel => exact ⟨k + 1, by go_num, by omega, Lib.hid (fun j y hj hy => by
     rcases Nat.lt_or_ge j k with h | h
     ·exact HR.out j y h hy
     ·obtain rfl : j = k := by omega
      rw [HZ.out] at hy
      cases hy
      exact HV.out), HB3⟩
    case measure => simp [intOf]; omega
   | false =>
    rw [hv] at HI
    have HV := Lib.hid hv
    clear hv
    go_wp2_with fail
    refine HI.out.mono ?_
    rintro e w3 ⟨rfl, hb3⟩
    have HB3 := Lib.hid (HB.out.trans (hb3.mono HB.out.size))
    clear hb3 HI c0 c1 c2 c3 c4 c5 c6 c7
    dsimp only
    go_wp2
    go_light
    go_ret
    exact ⟨k, rfl, .inr ⟨List.all_eq_false.2 ⟨z, List.mem_of_getElem? HZ.out, by rw [HV.out]; decide⟩, by omega⟩, HB3.out⟩
  ·obtain rfl : k = F.len := by omega
   have hdl : ¬ ((F.len : Int) < (F.len : Int)) := by omega
   go_wp2
   go_light
   go_ret
   refine ⟨-1, rfl, .inl ⟨List.all_eq_true.2 (fun z hz => ?_), rfl⟩, HB.out⟩
   obtain ⟨j, hj, e⟩ := List.getElem_of_mem hz
   exact HR.out j z (by rw [Trees.len_list] at hj; exact hj) (by rw [List.getElem?_eq_getElem hj, e])
theorem hasright_go (F : Trees) (B : Option Addr) (cap : Nat) (w : World) (hl : F.len ≤ 140737488355328) (hs : ∀ z ∈ F.list, z.size ≤ 4611686018427387903) (ht : TreesAt w (fun b => b < w.heap.size) F B) :
  Calls Tryz.prog 77 #[.slice B F.len cap, .func (.func 96) #[] #[]] w fun e w' => e = .returned (.bool (!F.list.all rightT)) ∧ Below w.heap.size w w' := by
 have HI := Lib.hid (idxright_go F B cap w hl hs ht)
 clear ht hs
 go_enter Tryz.func77, Tryz.ntmps77
 go_wp2_with fail
 refine HI.out.mono ?_
 rintro e w3 ⟨v, rfl, hv, hb3⟩
 have HB3 := Lib.hid hb3
 clear hb3 HI
 rcases hv with ⟨h1, rfl⟩ | ⟨h1, h2⟩
 ·have HV := Lib.hid h1
  clear h1
  dsimp only
  go_wp2
  go_light
  go_ret
  exact ⟨by rw [HV.out]; rfl, HB3.out⟩
 ·have HV := Lib.hid h1
  clear h1
  dsimp only
  go_wp2
  go_light
  go_ret
  exact ⟨by rw [HV.out]; exact ret_b (by simp [h2]), HB3.out⟩
theorem ret_nfa {fn : Func} {t2 t3 : Tmp} (h : fn.results = #[.cell t2 40, .tmp t3]) {tmps : Array Value} {w : World} {g : Nat} {a0 a1 a2 a3 a4 c : Value}
  (hp : tmps.getD t2 undef = .pointer (some ⟨g, 0, none⟩)) (hc : tmps.getD t3 undef = c) (hb : Blk w g 40 #[a0, a1, a2, a3, a4]) :
  (results fn tmps).run Tryz.prog w = .ok (.tuple #[.agg #[a0, a1, a2, a3, a4], c]) w := by
 have h1 := run_loadVar_row (P := Tryz.prog) w g 40 40 #[a0, a1, a2, a3, a4] (0, 0) _ hb Tryz.underlying40 rfl (by kernel_rfl)
 simp only [results, h]
 simp only [Array.getD_eq_getD_getElem?] at hp hc
 simp [Sem.run_bind, hp, hc, asAddr, h1, Result.andThen]
def NfaOut (r : Except Int MachS) (w : World) (e : Ending) (w' : World) : Prop :=
 Below w.heap.size w w' ∧ match r with
 | .error k => e = .returned (.tuple #[.agg #[.int .i64 0, .int .i64 0, .slice none 0 0, .slice none 0 0, .slice none 0 0], .int .i64 k])
 | .ok m => ∃ L E A, e = .returned (.tuple #[.agg #[.int .i64 (m.states : Int), .int .i64 0, L, E, A], .int .i64 0]) ∧ RowsM w' w.heap.size m L E A
theorem nof_many (F : Trees) (B : Option Addr) (cap : Nat) (w : World) (hl : F.len ≤ 140737488355328) (h64 : 64 < F.len) :
  Calls Tryz.prog 41 #[.slice B F.len cap] w (NfaOut (ofS F.list) w) := by
 have HV := Lib.hid (show ofS F.list = .error 18 by unfold ofS; rw [if_pos (by rw [Trees.len_list]; exact h64)])
 have hd : (64 : Int) < (F.len : Int) := by omega
 go_enter Tryz.func41, Tryz.ntmps41
 go_wp2
 go_light
 refine bodyPost_ret (ret_nfa Tryz.results41 rfl rfl (Blk.new w 40 _)) rfl ?_
 rw [HV.out]
 exact ⟨(Below.refl _ _).alloc (Nat.le_refl _) _, rfl⟩
theorem nof_kind (F : Trees) (B : Option Addr) (cap : Nat) (w : World) (hl : F.len ≤ 140737488355328) (h64 : F.len ≤ 64) (hs : ∀ z ∈ F.list, z.size ≤ 4611686018427387903) (ht : TreesAt w (fun b => b < w.heap.size) F B) (hr : F.list.all rightT = false) :
  Calls Tryz.prog 41 #[.slice B F.len cap] w (NfaOut (ofS F.list) w) := by
 have HV := Lib.hid (show ofS F.list = .error 6 by unfold ofS; rw [if_neg (by rw [Trees.len_list]; omega), if_pos hr])
 have hd : ¬ (64 : Int) < (F.len : Int) := by omega
 have hb1 : Below w.heap.size w (w.alloc (.cells #[.int .i64 0, .int .i64 0, .slice none 0 0, .slice none 0 0, .slice none 0 0] 40)) := (Below.refl _ _).alloc (Nat.le_refl _) _
 have HB1 := Lib.hid hb1
 have HX1 := Lib.hid (Blk.new w 40 #[.int .i64 0, .int .i64 0, .slice none 0 0, .slice none 0 0, .slice none 0 0])
 have HC := Lib.hid (hasright_go F B cap (w.alloc (.cells #[.int .i64 0, .int .i64 0, .slice none 0 0, .slice none 0 0, .slice none 0 0] 40)) hl (fun z hz => by have := hs z hz; omega) ((ht.below hb1).weak (fun b h _ => by simp; omega)))
 rw [hr] at HC
 clear hr ht hs hb1
 go_enter Tryz.func41, Tryz.ntmps41
 go_wp2_with fail
 refine HC.out.mono ?_
 rintro e w2 ⟨rfl, hb2⟩
 have HB2 := Lib.hid (HB1.out.trans (hb2.mono HB1.out.size))
 have hX2 := HX1.out.below hb2 HX1.out.lt
 have y0 := hX2.cell 0
 have y1 := hX2.cell 1
 have y2 := hX2.cell 2
 have y3 := hX2.cell 3
 have y4 := hX2.cell 4
 have f0 := hX2.frozen 0
 have f1 := hX2.frozen 1
 have f2 := hX2.frozen 2
 have f3 := hX2.frozen 3
 have f4 := hX2.frozen 4
 have HX2 := Lib.hid hX2
 clear hb2 hX2 HC
 dsimp only
 go_wp2
 go_light
 have hX3 := ((((HX2.out.set_ 0 (.int .i64 0)).set_ 1 (.int .i64 0)).set_ 2 (.slice none 0 0)).set_ 3 (.slice none 0 0)).set_ 4 (.slice none 0 0)
 refine bodyPost_ret (ret_nfa Tryz.results41 rfl rfl hX3) rfl ?_
 rw [HV.out]
 exact ⟨((((HB2.out.setCell (p := ⟨w.heap.size, 0, none⟩) (Nat.le_refl _) _).setCell (p := ⟨w.heap.size, 1, none⟩) (Nat.le_refl _) _).setCell (p := ⟨w.heap.size, 2, none⟩) (Nat.le_refl _) _).setCell (p := ⟨w.heap.size, 3, none⟩) (Nat.le_refl _) _).setCell (p := ⟨w.heap.size, 4, none⟩) (Nat.le_refl _) _, rfl⟩
theorem nof_big (F : Trees) (B : Option Addr) (cap : Nat) (w : World) (hl : F.len ≤ 140737488355328) (h64 : F.len ≤ 64) (hs : ∀ z ∈ F.list, z.size ≤ 4611686018427387903) (ht : TreesAt w (fun b => b < w.heap.size) F B) (hr : F.list.all rightT = true) (hbig : 65536 < sizeW F.list) :
  Calls Tryz.prog 41 #[.slice B F.len cap] w (NfaOut (ofS F.list) w) := by
 have HV := Lib.hid (show ofS F.list = .error 7 by unfold ofS; rw [if_neg (by rw [Trees.len_list]; omega), if_neg (by rw [hr]; decide), if_pos hbig])
 have hra : ∀ z ∈ F.list, rightT z = true := fun z hz => List.all_eq_true.1 hr z hz
 have hsz : ∀ z ∈ F.list, z.size ≤ 4096 := fun z hz => rightT_size (hra z hz)
 have hd : ¬ (64 : Int) < (F.len : Int) := by omega
 have hb1 : Below w.heap.size w (w.alloc (.cells #[.int .i64 0, .int .i64 0, .slice none 0 0, .slice none 0 0, .slice none 0 0] 40)) := (Below.refl _ _).alloc (Nat.le_refl _) _
 have HB1 := Lib.hid hb1
 have HX1 := Lib.hid (Blk.new w 40 #[.int .i64 0, .int .i64 0, .slice none 0 0, .slice none 0 0, .slice none 0 0])
 have HC := Lib.hid (hasright_go F B cap (w.alloc (.cells #[.int .i64 0, .int .i64 0, .slice none 0 0, .slice none 0 0, .slice none 0 0] 40)) hl (fun z hz => by have := hs z hz; omega) ((ht.below hb1).weak (fun b h _ => by simp; omega)))
 rw [hr] at HC
 have hdb : (65536 : Int) < ((sizeW F.list : Nat) : Int) := by omega
 clear hr hs hb1 hbig
 go_enter Tryz.func41, Tryz.ntmps41
 go_wp2_with fail
 refine HC.out.mono ?_
 rintro e w2 ⟨rfl, hb2⟩
 have hX2 := HX1.out.below hb2 HX1.out.lt
 have hb12 := HB1.out.trans (hb2.mono HB1.out.size)
 have HT2 := Lib.hid (ht.below hb12)
 have HS2 := Lib.hid (nsize_go F (fun b => b < w.heap.size) B cap w2 hl (fun z hz => by have := hsz z hz; omega) (fun z hz => rightT_nums (hra z hz)) (ht.below hb12))
 have HB2 := Lib.hid hb12
 have HX2 := Lib.hid hX2
 clear hb2 hb12 hX2 HC
 dsimp only
 go_wp2_with fail
 refine HS2.out.mono ?_
 rintro e w3 ⟨rfl, hb3⟩
 have hX3 := HX2.out.below hb3 HX2.out.lt
 have HX3 := Lib.hid hX3
 have HT3 := Lib.hid (HT2.out.below hb3)
 have HB3 := Lib.hid (HB2.out.trans (hb3.mono HB2.out.size))
 have hlt3 : w.heap.size < w3.heap.size := hX3.lt
 clear hb3 HS2 HT2 HX2 HB2
 dsimp only
 clear HT3
 have y0 := hX3.cell 0
 have y1 := hX3.cell 1
 have y2 := hX3.cell 2
 have y3 := hX3.cell 3
 have y4 := hX3.cell 4
 have f0 := hX3.frozen 0
 have f1 := hX3.frozen 1
 have f2 := hX3.frozen 2
 have f3 := hX3.frozen 3
 have f4 := hX3.frozen 4
 clear hX3 ht hra hsz
 generalize sizeW F.list = sz at *
 go_wp2
 go_light
 have hX3 := ((((HX3.out.set_ 0 (.int .i64 0)).set_ 1 (.int .i64 0)).set_ 2 (.slice none 0 0)).set_ 3 (.slice none 0 0)).set_ 4 (.slice none 0 0)
 refine bodyPost_ret (ret_nfa Tryz.results41 rfl rfl hX3) rfl ?_
 rw [HV.out]
 exact ⟨((((HB3.out.setCell (p := ⟨w.heap.size, 0, none⟩) (Nat.le_refl _) _).setCell (p := ⟨w.heap.size, 1, none⟩) (Nat.le_refl _) _).setCell (p := ⟨w.heap.size, 2, none⟩) (Nat.le_refl _) _).setCell (p := ⟨w.heap.size, 3, none⟩) (Nat.le_refl _) _).setCell (p := ⟨w.heap.size, 4, none⟩) (Nat.le_refl _) _, rfl⟩
theorem layOne_ext {x : Nd} (h : rightT x = true) (i : Nat) (m : MachS) : ExtM m (layOne x i m) := ((lay_one h).grows m 0).trans ((ExtM.state _ _).trans (ExtM.link _ _ _))
theorem layAll_ext : ∀ (l : List Nd), (∀ x ∈ l, rightT x = true) → ∀ (i : Nat) (m : MachS), ExtM m (layAll l i m)
 | [], _, i, m => ExtM.refl m
 | x :: l, h, i, m => by
  rw [layAll_cons]
  exact (layOne_ext (h x (by simp)) i m).trans (layAll_ext l (fun y hy => h y (by simp [hy])) _ _)
theorem layAll_app (b : List Nd) : ∀ (a : List Nd) (i : Nat) (m : MachS), layAll (a ++ b) i m = layAll b (i + a.length) (layAll a i m)
 | [], i, m => rfl
 | x :: a, i, m => by
  rw [List.cons_append, layAll_cons, layAll_cons, layAll_app b a]
  rw [List.length_cons, show i + 1 + a.length = i + (a.length + 1) by omega]
theorem layAll_part {l : List Nd} (h : ∀ x ∈ l, rightT x = true) (k : Nat) (m : MachS) : ExtM (layAll (l.take k) 0 m) (layAll l 0 m) := by
 conv => rhs; rw [← List.take_append_drop k l, layAll_app]
 exact layAll_ext _ (fun x hx => h x (List.mem_of_mem_drop hx)) _ _
theorem mach_fits {l : List Nd} (h : ∀ x ∈ l, rightT x = true) (hs : sizeW l ≤ 65536) : FitsM (machS l) ∧ (machS l).states ≤ 65536 := by
 have hg := grown_mach h
 have hc := cAll_le l (fun x hx => rightT_size (h x hx))
 have ht : (65536 : Nat) < topN := by decide
 have h1 := hg.states
 have h2 := hg.few
 unfold sizeW at hs
 refine ⟨⟨by omega, by omega, by omega⟩, by omega⟩
theorem heap_set5 {w : World} {g b : Nat} (hne : b ≠ g) (a0 a1 a2 a3 a4 : Value) : (((((w.setCell ⟨g, 0, none⟩ a0).setCell ⟨g, 1, none⟩ a1).setCell ⟨g, 2, none⟩ a2).setCell ⟨g, 3, none⟩ a3).setCell ⟨g, 4, none⟩ a4).heap[b]? = w.heap[b]? := by
 rw [Below.heap_setCell _ _ _ _ hne, Below.heap_setCell _ _ _ _ hne, Below.heap_setCell _ _ _ _ hne, Below.heap_setCell _ _ _ _ hne, Below.heap_setCell _ _ _ _ hne]
theorem nof_ok (F : Trees) (B : Option Addr) (cap : Nat) (w : World) (hl : F.len ≤ 140737488355328) (h64 : F.len ≤ 64) (hs : ∀ z ∈ F.list, z.size ≤ 4611686018427387903) (ht : TreesAt w (fun b => b < w.heap.size) F B) (hr : F.list.all rightT = true) (hok : sizeW F.list ≤ 65536) :
  Calls Tryz.prog 41 #[.slice B F.len cap] w (NfaOut (ofS F.list) w) := by
 have HV := Lib.hid (show ofS F.list = .ok (machS F.list) by unfold ofS; rw [if_neg (by rw [Trees.len_list]; omega), if_neg (by rw [hr]; decide), if_neg (by omega)])
 have hra : ∀ z ∈ F.list, rightT z = true := fun z hz => List.all_eq_true.1 hr z hz
 have hsz : ∀ z ∈ F.list, z.size ≤ 4096 := fun z hz => rightT_size (hra z hz)
 have HRA := Lib.hid hra
 have HF := Lib.hid (mach_fits hra hok).1
 have hd : ¬ (64 : Int) < (F.len : Int) := by omega
 have hb1 : Below w.heap.size w (w.alloc (.cells #[.int .i64 0, .int .i64 0, .slice none 0 0, .slice none 0 0, .slice none 0 0] 40)) := (Below.refl _ _).alloc (Nat.le_refl _) _
 have HB1 := Lib.hid hb1
 have HX1 := Lib.hid (Blk.new w 40 #[.int .i64 0, .int .i64 0, .slice none 0 0, .slice none 0 0, .slice none 0 0])
 have HC := Lib.hid (hasright_go F B cap (w.alloc (.cells #[.int .i64 0, .int .i64 0, .slice none 0 0, .slice none 0 0, .slice none 0 0] 40)) hl (fun z hz => by have := hs z hz; omega) ((ht.below hb1).weak (fun b h _ => by simp; omega)))
 rw [hr, show (!true) = false from rfl] at HC
 have hdb : decide ((65536 : Int) < ((sizeW F.list : Nat) : Int)) = false := decide_eq_false (by omega)
 clear hr hs hb1 hok
 go_enter Tryz.func41, Tryz.ntmps41
 go_wp2_with fail
 refine HC.out.mono ?_
 rintro e w2 ⟨rfl, hb2⟩
 have hX2 := HX1.out.below hb2 HX1.out.lt
 have hb12 := HB1.out.trans (hb2.mono HB1.out.size)
 have HT2 := Lib.hid (ht.below hb12)
 have HS2 := Lib.hid (nsize_go F (fun b => b < w.heap.size) B cap w2 hl (fun z hz => by have := hsz z hz; omega) (fun z hz => rightT_nums (hra z hz)) (ht.below hb12))
 have HB2 := Lib.hid hb12
 have HX2 := Lib.hid hX2
 clear hb2 hb12 hX2 HC
 dsimp only
 go_wp2_with fail
 refine HS2.out.mono ?_
 rintro e w3 ⟨rfl, hb3⟩
 have hX3 := HX2.out.below hb3 HX2.out.lt
 have HX3 := Lib.hid hX3
 have HT3 := Lib.hid (HT2.out.below hb3)
 have HB3 := Lib.hid (HB2.out.trans (hb3.mono HB2.out.size))
 have hlt3 : w.heap.size < w3.heap.size := hX3.lt
 clear hb3 HS2 HT2 HX2 HB2
 dsimp only
 clear ht hra hsz hX3
 generalize sizeW F.list = sz at *
 have hlt4 : w.heap.size ≤ (w3.alloc (.cells #[.int .i64 0, .int .i64 0, .slice none 0 0, .slice none 0 0, .slice none 0 0] 112)).heap.size := by simp; omega
 have hL4 : LayAt (w3.alloc (.cells #[.int .i64 0, .int .i64 0, .slice none 0 0, .slice none 0 0, .slice none 0 0] 112)) w.heap.size w3.heap.size (fun b => b = w3.heap.size) ⟨[], [], []⟩ :=
  ⟨fun b hb => by subst hb; exact ⟨by omega, by simp⟩, rfl, .slice none 0 0, .slice none 0 0, .slice none 0 0, Blk.new w3 _ _, ⟨⟨rfl, .inl ⟨rfl, rfl⟩⟩, ⟨rfl, .inl ⟨rfl, rfl⟩⟩, ⟨rfl, .inl ⟨rfl, rfl⟩⟩⟩, ⟨fun b hb => by simp [Value.ownBlock] at hb, fun b hb => by simp [Value.ownBlock] at hb, fun b hb => by simp [Value.ownBlock] at hb⟩⟩
 have HC4 := Lib.hid (lstate_go w.heap.size w3.heap.size _ ⟨[], [], []⟩ 0 _ hL4 hlt4 (by decide))
 rw [show ((MachS.states ⟨[], [], []⟩ : Nat) : Int) = 0 from rfl] at HC4
 have HX4 := Lib.hid (HX3.out.alloc (.cells #[.int .i64 0, .int .i64 0, .slice none 0 0, .slice none 0 0, .slice none 0 0] 112))
 have HB4 := Lib.hid (HB3.out.alloc (by omega) (.cells #[.int .i64 0, .int .i64 0, .slice none 0 0, .slice none 0 0, .slice none 0 0] 112))
 have HT4 := Lib.hid (HT3.out.below ((Below.refl _ _).alloc (Nat.le_refl _) (.cells #[.int .i64 0, .int .i64 0, .slice none 0 0, .slice none 0 0, .slice none 0 0] 112)))
 clear hL4 HT3 HB3
 go_wp2_with fail
 refine HC4.out.mono ?_
 rintro e w5 ⟨rfl, S5, hL5, hM5⟩
 have HR5 := Lib.hid (show ∃ S', LayAt w5 w.heap.size w3.heap.size S' (layAll (F.list.take 0) 0 ⟨[0], [], []⟩) ∧ Moves w.heap.size (fun b => b = w3.heap.size) (w3.alloc (.cells #[.int .i64 0, .int .i64 0, .slice none 0 0, .slice none 0 0, .slice none 0 0] 112)) S' w5 from ⟨S5, hL5, hM5⟩)
 clear hL5 hM5 HC4
 dsimp only
 go_wp2
 have hlt5 : w.heap.size < w5.heap.size := by obtain ⟨_, _, h⟩ := HR5.out; have := h.size; simp at this; omega
 go_loopw [25] (fun i' wr => ∃ k : Nat, i' = .int .i64 (k : Int) ∧ k ≤ F.len ∧ Hid (∃ S', LayAt wr w.heap.size w3.heap.size S' (layAll (F.list.take k) 0 ⟨[0], [], []⟩) ∧ Moves w.heap.size (fun b => b = w3.heap.size) (w3.alloc (.cells #[.int .i64 0, .int .i64 0, .slice none 0 0, .slice none 0 0, .slice none 0 0] 112)) S' wr)) (fun i' _ => F.len - (intOf i').toNat)
 case atStart => exact ⟨0, rfl, Nat.zero_le _, HR5⟩
 case round =>
  clear HR5 hlt5
  obtain ⟨k, rfl, hk, HM⟩ := hrel
  obtain ⟨S1, hL1, hM1⟩ := HM.out
  have hne : w.heap.size ≠ w3.heap.size := by omega
  have hXr := HX4.out.moves hM1 hne
  have hwr : w.heap.size < wr.heap.size := hXr.lt
  by_cases hlt : k < F.len
  ·obtain ⟨z, hz⟩ : ∃ z, F.list[k]? = some z := ⟨_, List.getElem?_eq_getElem (by rw [Trees.len_list]; exact hlt)⟩
   obtain ⟨b, o, C, capc, rfl, hbb, _, ⟨c0, c1, c2, c3, c4, c5, c6, c7⟩, hkz⟩ := (HT4.out.moves hM1).get hz
   have hdl : (k : Int) < (F.len : Int) := by omega
   have hblk := World.block_lt_of_cell? wr _ c0
   have hzr := HRA.out z (List.mem_of_getElem? hz)
   have hts := take_snocF hz
   have hlk : (F.list.take k).length = k := by rw [List.length_take, Trees.len_list]; omega
   have hone : layAll (F.list.take (k + 1)) 0 ⟨[0], [], []⟩ = layOne z k (layAll (F.list.take k) 0 ⟨[0], [], []⟩) := by rw [hts, layAll_snoc, hlk, Nat.zero_add]
   have hfk : FitsM (layOne z k (layAll (F.list.take k) 0 ⟨[0], [], []⟩)) := by
    rw [← hone]
    exact HF.out.of (layAll_part HRA.out (k + 1) _)
   have hf2 : FitsM ((z.lay (layAll (F.list.take k) 0 ⟨[0], [], []⟩) 0).1.state (k + 1)) := hfk.of (ExtM.link _ _ _)
   have hf1 : FitsM (z.lay (layAll (F.list.take k) 0 ⟨[0], [], []⟩) 0).1 := hf2.of (ExtM.state _ _)
   have hbA : Below wr.heap.size wr (wr.alloc (.cells (ndA z C capc) 28)) := (Below.refl _ _).alloc (Nat.le_refl _) _
   have HI := Lib.hid (lay_right hzr C capc 0 w.heap.size w3.heap.size S1 (layAll (F.list.take k) 0 ⟨[0], [], []⟩) (wr.alloc (.cells (ndA z C capc) 28)) (hkz.below hbA) (hL1.alloc _) (by simp; omega) hf1)
   have HM1 := Lib.hid (hM1.alloc hlt4 (.cells (ndA z C capc) 28))
   have HO := Lib.hid hone
   have HFK := Lib.hid (show _ ∧ _ from ⟨hf1, hf2⟩)
   have hwa : w.heap.size < (wr.alloc (.cells (ndA z C capc) 28)).heap.size := by simp; omega
   clear hz hkz hbA hts hL1 hM1 HM hzr hlk hone hfk hf1 hf2 hXr
   unfold layOne at HO
   generalize layAll (F.list.take k) 0 ⟨[0], [], []⟩ = mk at *
   unfold ndV at HI
   unfold ndA at HM1 HI hwa
   go_wp2_with fail
   refine HI.out.mono ?_
   rintro e w6 ⟨rfl, S6, hL6, hM6⟩
   have hs6 := hM6.size
   have HC := Lib.hid (lstate_go w.heap.size w3.heap.size S6 _ (k + 1) w6 hL6 (by omega) HFK.out.1.1)
   have HM6 := Lib.hid (HM1.out.trans hM6)
   clear hM6 hL6 HI c0 c1 c2 c3 c4 c5 c6 c7 HM1 hbb hblk
   generalize (z.lay mk 0).2 = e1 at *
   generalize (z.lay mk 0).1 = m1 at *
   dsimp only
   go_wp2_with fail
   refine HC.out.mono ?_
   rintro e w7 ⟨rfl, S7, hL7, hM7⟩
   have hs7 := hM7.size
   have HC7 := Lib.hid (llink_go w.heap.size w3.heap.size S7 _ e1 m1.states w7 hL7 (by omega) HFK.out.2.2.1)
   have HM7 := Lib.hid (HM6.out.trans hM7)
   clear hM7 hL7 HC HM6
   dsimp only
   go_wp2_with fail
   refine HC7.out.mono ?_
   rintro e w8 ⟨rfl, S8, hL8, hM8⟩
   have HR8 := Lib.hid (show ∃ S', LayAt w8 w.heap.size w3.heap.size S' _ ∧ Moves w.heap.size (fun b => b = w3.heap.size) (w3.alloc (.cells #[.int .i64 0, .int .i64 0, .slice none 0 0, .slice none 0 0, .slice none 0 0] 112)) S' w8 from ⟨S8, hL8, HM7.out.trans hM8⟩)
   clear hM8 hL8 HC7 HM7
   dsimp only
   go_wp2
   go_roundw
   case rel => exact ⟨k + 1, by go_num, by omega, by rw [HO.out]; exact HR8⟩
   case measure => simp [intOf]; omega
  ·obtain rfl : k = F.len := by omega
   have hdl : ¬ ((F.len : Int) < (F.len : Int)) := by omega
   have hV : F.list.take F.len = F.list := by rw [← Trees.len_list, List.take_length]
   rw [hV] at hL1
   have hmm : layAll F.list 0 ⟨[0], [], []⟩ = machS F.list := rfl
   rw [hmm] at hL1
   have hns := hM1.notIn (b := w.heap.size) (by simp; omega) hne
   obtain ⟨h0, hg, L, E, A, hG, hR, h3⟩ := hL1
   obtain ⟨A1, k1, rfl⟩ := own_slice hR.l
   obtain ⟨A2, k2, rfl⟩ := own_slice hR.e
   obtain ⟨A3, k3, rfl⟩ := own_slice hR.a
   have s0 := hG.cell 0
   have s1 := hG.cell 1
   have s2 := hG.cell 2
   have s3 := hG.cell 3
   have s4 := hG.cell 4
   have y0 := hXr.cell 0
   have y1 := hXr.cell 1
   have y2 := hXr.cell 2
   have y3 := hXr.cell 3
   have y4 := hXr.cell 4
   have f0 := hXr.frozen 0
   have f1 := hXr.frozen 1
   have f2 := hXr.frozen 2
   have f3 := hXr.frozen 3
   have f4 := hXr.frozen 4
   have hltg := hG.lt
   have HXr := Lib.hid hXr
   have HQ := Lib.hid (show _ ∧ _ ∧ _ ∧ _ from ⟨hR, h3, hns, HB4.out.trans hM1.below⟩)
   clear hM1 HM h0 hg hG hR h3 hV hmm hns hXr HX4 HB4 HT4
   generalize machS F.list = mf at *
   go_wp2
   go_light
   have hX5 := ((((HXr.out.set_ 0 (.int .i64 (mf.states : Int))).set_ 1 (.int .i64 0)).set_ 2 (.slice A1 mf.links.length k1)).set_ 3 (.slice A2 mf.edges.length k2)).set_ 4 (.slice A3 mf.accept.length k3)
   refine bodyPost_ret (ret_nfa Tryz.results41 rfl rfl hX5) rfl ?_
   rw [HV.out]
   refine ⟨((((HQ.out.2.2.2.setCell (p := ⟨w.heap.size, 0, none⟩) (Nat.le_refl _) _).setCell (p := ⟨w.heap.size, 1, none⟩) (Nat.le_refl _) _).setCell (p := ⟨w.heap.size, 2, none⟩) (Nat.le_refl _) _).setCell (p := ⟨w.heap.size, 3, none⟩) (Nat.le_refl _) _).setCell (p := ⟨w.heap.size, 4, none⟩) (Nat.le_refl _) _, _, _, _, rfl, ?_⟩
   exact HQ.out.1.keep HQ.out.2.1 (fun b hb => heap_set5 (show b ≠ w.heap.size from fun e => HQ.out.2.2.1 (by rw [← e]; exact hb)) _ _ _ _ _)
theorem nof_go (F : Trees) (B : Option Addr) (cap : Nat) (w : World) (hl : F.len ≤ 140737488355328) (hs : ∀ z ∈ F.list, z.size ≤ 4611686018427387903) (ht : TreesAt w (fun b => b < w.heap.size) F B) :
  Calls Tryz.prog 41 #[.slice B F.len cap] w (NfaOut (ofS F.list) w) := by
 rcases Nat.lt_or_ge 64 F.len with h | h
 ·exact nof_many F B cap w hl h
 cases hr : F.list.all rightT with
 | false => exact nof_kind F B cap w hl h hs ht hr
 | true =>
  rcases Nat.lt_or_ge 65536 (sizeW F.list) with hb | hb
  ·exact nof_big F B cap w hl h hs ht hr hb
  ·exact nof_ok F B cap w hl h hs ht hr hb
end Go.Proofs.YtofbfafnpdaejaaGreatDoor
namespace Go.Proofs.YtofbfafnpdaejaaGreatDoor
set_option linter.unusedSimpArgs false
set_option linter.unusedVariables false
set_option maxRecDepth 100000
set_option maxHeartbeats 8000000
abbrev RelW := Nat → Nat → Prop
def noR : RelW := fun _ _ => False
def idR : RelW := fun i j => i = j
def setR (s : Nat) (w : List Nat) : RelW := fun i j => ∃ c, w[i]? = some c ∧ s.testBit c = true ∧ j = i + 1
def catR : List RelW → RelW
 | [] => idR
 | R :: l => fun i j => ∃ k, R i k ∧ catR l k j
def altR (l : List RelW) : RelW := fun i j => ∃ R ∈ l, R i j
def itR (R : RelW) : Nat → RelW
 | 0 => idR
 | k + 1 => fun i j => ∃ m, R i m ∧ itR R k m j
def starR (R : RelW) : RelW := fun i j => ∃ k, itR R k i j
def plusR (R : RelW) : RelW := fun i j => ∃ m, R i m ∧ starR R m j
def optR (R : RelW) : RelW := fun i j => i = j ∨ R i j
def repR (lo hi : Int) (R : RelW) : RelW := fun i j => ∃ k : Nat, lo ≤ (k : Int) ∧ (hi < 0 ∨ (k : Int) ≤ hi) ∧ itR R k i j
def saysK (k : Int) (s : Nat) (lo hi : Int) (w : List Nat) (Rs : List RelW) : RelW :=
 if k = 2 then idR
 else if k = 3 then setR s w
 else if k = 4 then catR Rs
 else if k = 5 then altR Rs
 else if k = 6 then starR (Rs.headD noR)
 else if k = 7 then plusR (Rs.headD noR)
 else if k = 8 then optR (Rs.headD noR)
 else if k = 9 then repR lo hi (Rs.headD noR)
 else noR
def Trees.rels (w : List Nat) : Trees → List RelW
 | .nil => []
 | .cons k s ks lo hi r => saysK k s lo hi w (ks.rels w) :: r.rels w
def Nd.rel (x : Nd) (w : List Nat) : RelW := saysK x.kind x.set x.lo x.hi w (x.kids.rels w)
theorem Trees.rels_list (w : List Nat) : ∀ F : Trees, F.rels w = F.list.map fun z => z.rel w
 | .nil => rfl
 | .cons k s ks lo hi r => by rw [Trees.rels, Trees.list, List.map_cons, Trees.rels_list w r]; rfl
theorem itR_add {R : RelW} : ∀ {a b : Nat} {i j : Nat}, itR R (a + b) i j ↔ ∃ m, itR R a i m ∧ itR R b m j
 | 0, b, i, j => by
  rw [Nat.zero_add]
  exact ⟨fun h => ⟨i, rfl, h⟩, fun ⟨m, h1, h2⟩ => by
   have h1 : i = m := h1
   rw [h1]
   exact h2⟩
 | a + 1, b, i, j => by
  rw [show a + 1 + b = (a + b) + 1 by omega]
  constructor
  ·rintro ⟨m, h1, h2⟩
   obtain ⟨m2, h3, h4⟩ := itR_add.1 h2
   exact ⟨m2, ⟨m, h1, h3⟩, h4⟩
  ·rintro ⟨m2, ⟨m, h1, h3⟩, h4⟩
   exact ⟨m, h1, itR_add.2 ⟨m2, h3, h4⟩⟩
theorem itR_one {R : RelW} {i j : Nat} : itR R 1 i j ↔ R i j := ⟨fun ⟨m, h1, h2⟩ => by
 have h2 : m = j := h2
 rw [← h2]
 exact h1, fun h => ⟨j, h, rfl⟩⟩
structure Like (ok : Nat → Prop) (f : Nat → Nat) (R R' : RelW) : Prop where
 fwd : ∀ i j, ok i → R' i j → ok j ∧ R (f i) (f j)
 bwd : ∀ i m, ok i → R (f i) m → (∃ j, ok j ∧ m = f j ∧ R' i j) ∨ ∀ j, ok j → ¬ m ≤ f j
 up : ∀ i j, R i j → i ≤ j
inductive AllL (ok : Nat → Prop) (f : Nat → Nat) : List RelW → List RelW → Prop
 | nil : AllL ok f [] []
 | cons {R R' : RelW} {l l' : List RelW} : Like ok f R R' → AllL ok f l l' → AllL ok f (R :: l) (R' :: l')
section
variable {ok : Nat → Prop} {f : Nat → Nat}
theorem like_no : Like ok f noR noR := ⟨fun _ _ _ h => h.elim, fun _ _ _ h => h.elim, fun _ _ h => h.elim⟩
theorem like_id : Like ok f idR idR := ⟨fun i j h e => by
 have e : i = j := e
 subst e
 exact ⟨h, rfl⟩, fun i m h e => .inl ⟨i, h, (show f i = m from e).symm, rfl⟩, fun i j e => Nat.le_of_eq e⟩
theorem Like.comp {R R' S S' : RelW} (h : Like ok f R R') (g : Like ok f S S') : Like ok f (fun i j => ∃ k, R i k ∧ S k j) (fun i j => ∃ k, R' i k ∧ S' k j) :=
 ⟨fun i j hi ⟨k, h1, h2⟩ => by
  obtain ⟨h3, h4⟩ := h.fwd i k hi h1
  obtain ⟨h5, h6⟩ := g.fwd k j h3 h2
  exact ⟨h5, f k, h4, h6⟩, fun i m hi ⟨k, h1, h2⟩ => by
  rcases h.bwd i k hi h1 with ⟨k', h3, rfl, h5⟩ | h3
  ·rcases g.bwd k' m h3 h2 with ⟨j, h6, h7, h8⟩ | h6
   ·exact .inl ⟨j, h6, h7, k', h5, h8⟩
   ·exact .inr h6
  ·exact .inr fun j hj hm => h3 j hj (Nat.le_trans (g.up k m h2) hm), fun i j ⟨k, h1, h2⟩ => Nat.le_trans (h.up i k h1) (g.up k j h2)⟩
theorem Like.or {R R' S S' : RelW} (h : Like ok f R R') (g : Like ok f S S') : Like ok f (fun i j => R i j ∨ S i j) (fun i j => R' i j ∨ S' i j) :=
 ⟨fun i j hi hh => hh.elim (fun h1 => (h.fwd i j hi h1).imp id .inl) (fun h1 => (g.fwd i j hi h1).imp id .inr), fun i m hi hh => by
  rcases hh with h1 | h1
  ·exact (h.bwd i m hi h1).imp (fun ⟨j, a, b, c⟩ => ⟨j, a, b, .inl c⟩) id
  ·exact (g.bwd i m hi h1).imp (fun ⟨j, a, b, c⟩ => ⟨j, a, b, .inr c⟩) id, fun i j hh => hh.elim (h.up i j) (g.up i j)⟩
theorem Like.it {R R' : RelW} (h : Like ok f R R') : ∀ k, Like ok f (itR R k) (itR R' k)
 | 0 => like_id
 | k + 1 => h.comp (h.it k)
theorem Like.ex {α : Type} {R R' : α → RelW} {p : α → Prop} (h : ∀ a, Like ok f (R a) (R' a)) : Like ok f (fun i j => ∃ a, p a ∧ R a i j) (fun i j => ∃ a, p a ∧ R' a i j) :=
 ⟨fun i j hi ⟨a, ha, h1⟩ => by
  obtain ⟨h2, h3⟩ := (h a).fwd i j hi h1
  exact ⟨h2, a, ha, h3⟩, fun i m hi ⟨a, ha, h1⟩ => ((h a).bwd i m hi h1).imp (fun ⟨j, x, y, z⟩ => ⟨j, x, y, a, ha, z⟩) id, fun i j ⟨a, _, h1⟩ => (h a).up i j h1⟩
theorem Like.star {R R' : RelW} (h : Like ok f R R') : Like ok f (starR R) (starR R') := by
 have := Like.ex (p := fun _ : Nat => True) (fun k => h.it k)
 unfold starR
 simpa using this
theorem Like.cats : ∀ {Rs Rs' : List RelW}, AllL ok f Rs Rs' → Like ok f (catR Rs) (catR Rs')
 | _, _, .nil => like_id
 | _, _, .cons h hs => h.comp (Like.cats hs)
theorem Like.alts : ∀ {Rs Rs' : List RelW}, AllL ok f Rs Rs' → Like ok f (altR Rs) (altR Rs')
 | _, _, .nil => ⟨fun _ _ _ ⟨_, h, _⟩ => by simp at h, fun _ _ _ ⟨_, h, _⟩ => by simp at h, fun _ _ ⟨_, h, _⟩ => by simp at h⟩
 | _, _, .cons h hs => by
  have h2 := h.or (Like.alts hs)
  have e : ∀ (R : RelW) (l : List RelW), altR (R :: l) = fun i j => R i j ∨ altR l i j := fun R l => by
   funext i j
   simp [altR]
  rw [e, e]
  exact h2
theorem Like.head {Rs Rs' : List RelW} (h : AllL ok f Rs Rs') : Like ok f (Rs.headD noR) (Rs'.headD noR) := by
 cases h with
 | nil => exact like_no
 | cons h _ => exact h
theorem Like.says {w w' : List Nat} (hset : ∀ s, Like ok f (setR s w) (setR s w')) (k : Int) (s : Nat) (lo hi : Int) {Rs Rs' : List RelW} (h : AllL ok f Rs Rs') : Like ok f (saysK k s lo hi w Rs) (saysK k s lo hi w' Rs') := by
 unfold saysK
 split
 ·exact like_id
 split
 ·exact hset s
 split
 ·exact Like.cats h
 split
 ·exact Like.alts h
 split
 ·exact (Like.head h).star
 split
 ·exact (Like.head h).comp (Like.head h).star
 split
 ·exact like_id.or (Like.head h)
 split
 ·have := Like.ex (p := fun k : Nat => lo ≤ (k : Int) ∧ (hi < 0 ∨ (k : Int) ≤ hi)) (fun k => (Like.head h).it k)
  unfold repR
  simpa [and_assoc] using this
 ·exact like_no
theorem Like.rels {w w' : List Nat} (hset : ∀ s, Like ok f (setR s w) (setR s w')) : ∀ F : Trees, AllL ok f (F.rels w) (F.rels w')
 | .nil => .nil
 | .cons k s ks lo hi r => .cons (Like.says hset k s lo hi (Like.rels hset ks)) (Like.rels hset r)
theorem Like.nd {w w' : List Nat} (hset : ∀ s, Like ok f (setR s w) (setR s w')) (x : Nd) : Like ok f (x.rel w) (x.rel w') := Like.says hset _ _ _ _ (Like.rels hset x.kids)
end
theorem set_self (w : List Nat) (s : Nat) : Like (fun i => i ≤ w.length) id (setR s w) (setR s w) :=
 ⟨fun i j hi ⟨c, h1, h2, h3⟩ => ⟨by have := (List.getElem?_eq_some_iff.1 h1).1; show j ≤ _; omega, c, h1, h2, h3⟩, fun i m hi ⟨c, h1, h2, h3⟩ => .inl ⟨m, by have := (List.getElem?_eq_some_iff.1 h1).1; have h4 : i < w.length := this; show m ≤ _; omega, rfl, c, h1, h2, h3⟩, fun i j ⟨_, _, _, h⟩ => by omega⟩
theorem rel_len (x : Nd) (w : List Nat) {i j : Nat} (hi : i ≤ w.length) (h : x.rel w i j) : j ≤ w.length := ((Like.nd (set_self w) x).fwd i j hi h).1
def SaysW (x : Nd) (w : List Nat) : Prop := x.rel w 0 w.length
open Classical in
noncomputable def imgB (R : RelW) (p : Nat → Bool) : Nat → Bool := fun j => decide (∃ i, p i = true ∧ R i j)
open Classical in
theorem imgB_iff {R : RelW} {p : Nat → Bool} {j : Nat} : imgB R p j = true ↔ ∃ i, p i = true ∧ R i j := by
 unfold imgB
 rw [decide_eq_true_eq]
theorem setB_ext {p q : Nat → Bool} (h : ∀ c, p c = true ↔ q c = true) : p = q := by
 funext c
 cases hp : p c with
 | true => exact ((h c).1 hp).symm
 | false =>
  cases hq : q c with
  | false => rfl
  | true =>
   have := (h c).2 hq
   rw [hp] at this
   cases this
theorem imgB_comp (R S : RelW) (p : Nat → Bool) : imgB S (imgB R p) = imgB (fun i j => ∃ k, R i k ∧ S k j) p := setB_ext fun j => by
 rw [imgB_iff, imgB_iff]
 constructor
 ·rintro ⟨k, h1, h2⟩
  obtain ⟨i, h3, h4⟩ := imgB_iff.1 h1
  exact ⟨i, h3, k, h4, h2⟩
 ·rintro ⟨i, h3, k, h4, h2⟩
  exact ⟨k, imgB_iff.2 ⟨i, h3, h4⟩, h2⟩
theorem imgB_congr {R S : RelW} (h : ∀ i j, R i j ↔ S i j) (p : Nat → Bool) : imgB R p = imgB S p := setB_ext fun j => by
 rw [imgB_iff, imgB_iff]
 exact ⟨fun ⟨i, h1, h2⟩ => ⟨i, h1, (h i j).1 h2⟩, fun ⟨i, h1, h2⟩ => ⟨i, h1, (h i j).2 h2⟩⟩
theorem imgB_id (p : Nat → Bool) : imgB idR p = p := setB_ext fun j => by
 rw [imgB_iff]
 exact ⟨fun ⟨i, h1, h2⟩ => by have h2 : i = j := h2; rw [← h2]; exact h1, fun h => ⟨j, h, rfl⟩⟩
theorem imgB_next (R : RelW) (p : Nat → Bool) (k : Nat) : imgB R (imgB (itR R k) p) = imgB (itR R (k + 1)) p := by
 rw [imgB_comp]
 refine imgB_congr (fun i j => ?_) p
 rw [itR_add]
 exact ⟨fun ⟨m, h1, h2⟩ => ⟨m, h1, itR_one.2 h2⟩, fun ⟨m, h1, h2⟩ => ⟨m, h1, itR_one.1 h2⟩⟩
theorem imgB_fix {R : RelW} {p : Nat → Bool} {k : Nat} (h : imgB R (imgB (itR R k) p) = imgB (itR R k) p) : ∀ d, imgB (itR R (k + d)) p = imgB (itR R k) p
 | 0 => rfl
 | d + 1 => by
  rw [show k + (d + 1) = (k + d) + 1 by omega, ← imgB_next, imgB_fix h d, h]
theorem imgB_none {R : RelW} {p : Nat → Bool} (h : ∀ c, p c = false) (c : Nat) : imgB R p c = false := by
 cases h1 : imgB R p c with
 | false => rfl
 | true =>
  obtain ⟨i, h2, _⟩ := imgB_iff.1 h1
  rw [h] at h2
  cases h2
structure AgainB (R : RelW) (p0 p e : Nat → Bool) : Prop where
 start : ∀ c, p0 c = true → p c = true
 sound : ∀ c, p c = true → imgB (starR R) p0 c = true
 edge : ∀ c, e c = true → p c = true
 shut : ∀ i j, p i = true → e i = false → R i j → p j = true
theorem again_start (R : RelW) (p : Nat → Bool) : AgainB R p p p :=
 ⟨fun _ h => h, fun c h => imgB_iff.2 ⟨c, h, 0, rfl⟩, fun _ h => h, fun i j h1 h2 => by rw [h1] at h2; cases h2⟩
theorem AgainB.next {R : RelW} {p0 p e q : Nat → Bool} (h : AgainB R p0 p e) (hq : ∀ c, q c = true ↔ imgB R e c = true ∧ p c = false) : AgainB R p0 (fun c => p c || q c) q := by
 refine ⟨fun c hc => by simp [h.start c hc], fun c hc => ?_, fun c hc => by simp [hc], fun i j hp he hR => ?_⟩
 ·rw [Bool.or_eq_true] at hc
  rcases hc with hc | hc
  ·exact h.sound c hc
  ·obtain ⟨i, h1, h2⟩ := imgB_iff.1 ((hq c).1 hc).1
   obtain ⟨i0, h3, k, h4⟩ := imgB_iff.1 (h.sound i (h.edge i h1))
   exact imgB_iff.2 ⟨i0, h3, k + 1, itR_add.2 ⟨i, h4, itR_one.2 h2⟩⟩
 ·rw [Bool.or_eq_true] at hp ⊢
  rcases hp with hp | hp
  ·cases hei : e i with
   | false => exact .inl (h.shut i j hp hei hR)
   | true =>
    cases hpj : p j with
    | true => exact .inl rfl
    | false => exact .inr ((hq j).2 ⟨imgB_iff.2 ⟨i, hei, hR⟩, hpj⟩)
  ·rw [he] at hp
   cases hp
theorem AgainB.done {R : RelW} {p0 p e : Nat → Bool} (h : AgainB R p0 p e) (he : ∀ c, e c = false) : p = imgB (starR R) p0 := setB_ext fun c => ⟨h.sound c, fun hc => by
 obtain ⟨i, h1, k, h2⟩ := imgB_iff.1 hc
 have key : ∀ (k i : Nat), p i = true → itR R k i c → p c = true := by
  intro k
  induction k with
  | zero => exact fun i hp hk => by have hk : i = c := hk; rw [← hk]; exact hp
  | succ k ih =>
   rintro i hp ⟨m, h3, h4⟩
   exact ih m (h.shut i m hp (he i) h3) h4
 exact key k i (h.start i h1) h2⟩
def betweenR (R : RelW) (lo hi : Nat) : RelW := fun i j => ∃ k, lo ≤ k ∧ k ≤ hi ∧ itR R k i j
theorem between_one (R : RelW) (lo : Nat) (p : Nat → Bool) : imgB (betweenR R lo lo) p = imgB (itR R lo) p := imgB_congr (fun i j => ⟨fun ⟨k, h1, h2, h3⟩ => by
 obtain rfl : k = lo := by omega
 exact h3, fun h => ⟨lo, Nat.le_refl _, Nat.le_refl _, h⟩⟩) p
theorem between_more {R : RelW} {lo k : Nat} (hk : lo ≤ k) (p : Nat → Bool) : (fun c => imgB (betweenR R lo k) p c || imgB (itR R (k + 1)) p c) = imgB (betweenR R lo (k + 1)) p := setB_ext fun c => by
 rw [Bool.or_eq_true, imgB_iff, imgB_iff, imgB_iff]
 constructor
 ·rintro (⟨i, h1, m, h2, h3, h4⟩ | ⟨i, h1, h2⟩)
  ·exact ⟨i, h1, m, h2, by omega, h4⟩
  ·exact ⟨i, h1, k + 1, by omega, Nat.le_refl _, h2⟩
 ·rintro ⟨i, h1, m, h2, h3, h4⟩
  rcases Nat.lt_or_ge k m with h | h
  ·obtain rfl : m = k + 1 := by omega
   exact .inr ⟨i, h1, h4⟩
  ·exact .inl ⟨i, h1, m, h2, h, h4⟩
theorem between_fix {R : RelW} {lo k hi : Nat} (hk : lo ≤ k) (hh : k ≤ hi) {p : Nat → Bool} (h : imgB R (imgB (itR R k) p) = imgB (itR R k) p) : imgB (betweenR R lo k) p = imgB (betweenR R lo hi) p := setB_ext fun c => by
 rw [imgB_iff, imgB_iff]
 constructor
 ·rintro ⟨i, h1, m, h2, h3, h4⟩
  exact ⟨i, h1, m, h2, by omega, h4⟩
 ·rintro ⟨i, h1, m, h2, h3, h4⟩
  rcases Nat.lt_or_ge k m with hm | hm
  ·have h5 := imgB_fix h (m - k)
   rw [show k + (m - k) = m by omega] at h5
   have h6 : imgB (itR R m) p c = true := imgB_iff.2 ⟨i, h1, h4⟩
   rw [h5] at h6
   obtain ⟨i', h7, h8⟩ := imgB_iff.1 h6
   exact ⟨i', h7, k, hk, Nat.le_refl _, h8⟩
  ·exact ⟨i, h1, m, h2, hm, h4⟩
theorem rep_between (R : RelW) (lo hi : Nat) (i j : Nat) : repR (lo : Int) (hi : Int) R i j ↔ betweenR R lo hi i j :=
 ⟨fun ⟨k, h1, h2, h3⟩ => ⟨k, by omega, by omega, h3⟩, fun ⟨k, h1, h2, h3⟩ => ⟨k, by omega, .inr (by omega), h3⟩⟩
theorem rep_endless (R : RelW) (lo : Nat) (hi : Int) (hh : hi < 0) (i j : Nat) : repR (lo : Int) hi R i j ↔ ∃ m, itR R lo i m ∧ starR R m j := by
 constructor
 ·rintro ⟨k, h1, _, h3⟩
  obtain ⟨d, rfl⟩ : ∃ d, k = lo + d := ⟨k - lo, by omega⟩
  obtain ⟨m, h4, h5⟩ := itR_add.1 h3
  exact ⟨m, h4, d, h5⟩
 ·rintro ⟨m, h1, d, h2⟩
  exact ⟨lo + d, by omega, .inl hh, itR_add.2 ⟨m, h1, h2⟩⟩
theorem catR_snoc (R : RelW) : ∀ (Rs : List RelW) (i j : Nat), catR (Rs ++ [R]) i j ↔ ∃ m, catR Rs i m ∧ R m j
 | [], i, j => ⟨fun ⟨m, h1, h2⟩ => ⟨i, rfl, by have h2 : m = j := h2; rw [← h2]; exact h1⟩, fun ⟨m, h1, h2⟩ => ⟨j, by have h1 : i = m := h1; rw [h1]; exact h2, rfl⟩⟩
 | S :: Rs, i, j => by
  constructor
  ·rintro ⟨m, h1, h2⟩
   obtain ⟨m2, h3, h4⟩ := (catR_snoc R Rs m j).1 h2
   exact ⟨m2, ⟨m, h1, h3⟩, h4⟩
  ·rintro ⟨m2, ⟨m, h1, h3⟩, h4⟩
   exact ⟨m, h1, (catR_snoc R Rs m j).2 ⟨m2, h3, h4⟩⟩
theorem altR_snoc (R : RelW) (Rs : List RelW) (i j : Nat) : altR (Rs ++ [R]) i j ↔ altR Rs i j ∨ R i j := by
 unfold altR
 constructor
 ·rintro ⟨S, h1, h2⟩
  rcases List.mem_append.1 h1 with h | h
  ·exact .inl ⟨S, h, h2⟩
  ·rw [List.mem_singleton.1 h] at h2
   exact .inr h2
 ·rintro (⟨S, h1, h2⟩ | h)
  ·exact ⟨S, List.mem_append.2 (.inl h1), h2⟩
  ·exact ⟨R, by simp, h⟩
end Go.Proofs.YtofbfafnpdaejaaGreatDoor
namespace Go.Proofs.YtofbfafnpdaejaaGreatDoor
open Go.RowKit
set_option linter.unusedSimpArgs false
set_option linter.unusedVariables false
set_option maxRecDepth 100000
set_option maxHeartbeats 8000000
abbrev TrT := Nat → Option Nat → Nat → Prop
inductive WayP (w : List Nat) (T : TrT) : Nat → Nat → Nat → Nat → Prop
 | nil (s p : Nat) : WayP w T s p s p
 | link {s t r p q : Nat} : T s none t → WayP w T t p r q → WayP w T s p r q
 | edge {s c t b r p q : Nat} : T s (some c) t → w[p]? = some b → c.testBit b = true → WayP w T t (p + 1) r q → WayP w T s p r q
def orT (A B : TrT) : TrT := fun s o t => A s o t ∨ B s o t
def oneT (a : Nat) (x : Option Nat) (b : Nat) : TrT := fun s o t => s = a ∧ o = x ∧ t = b
def noT : TrT := fun _ _ _ => False
section
variable {w : List Nat} {T U A B : TrT}
theorem WayP.mono (h : ∀ s o t, T s o t → U s o t) {s p r q : Nat} (g : WayP w T s p r q) : WayP w U s p r q := by
 induction g with
 | nil s p => exact .nil s p
 | link h1 _ ih => exact .link (h _ _ _ h1) ih
 | edge h1 h2 h3 _ ih => exact .edge (h _ _ _ h1) h2 h3 ih
theorem WayP.trans {s p r q a m : Nat} (g : WayP w T s p a m) (k : WayP w T a m r q) : WayP w T s p r q := by
 induction g with
 | nil s p => exact k
 | link h1 _ ih => exact .link h1 (ih k)
 | edge h1 h2 h3 _ ih => exact .edge h1 h2 h3 (ih k)
theorem way_no {s p r q : Nat} : WayP w noT s p r q ↔ s = r ∧ p = q := by
 constructor
 ·intro h
  cases h with
  | nil => exact ⟨rfl, rfl⟩
  | link h => exact h.elim
  | edge h => exact h.elim
 ·rintro ⟨rfl, rfl⟩
  exact .nil s p
structure Frg (T : TrT) (i n0 n1 e : Nat) : Prop where
 le : n0 ≤ n1
 lt : i < n0
 src : ∀ s o t, T s o t → s = i ∨ (n0 ≤ s ∧ s < n1)
 tgt : ∀ s o t, T s o t → n0 ≤ t ∧ t < n1
 en : e = i ∨ (n0 ≤ e ∧ e < n1)
theorem way_stay {n1 n2 : Nat} (hA : ∀ s o t, A s o t → ¬ (n1 ≤ s ∧ s < n2)) (hB : ∀ s o t, B s o t → n1 ≤ t ∧ t < n2) {s p r q : Nat} (h : WayP w (orT A B) s p r q) : n1 ≤ s ∧ s < n2 → WayP w B s p r q := by
 induction h with
 | nil s p => exact fun _ => .nil s p
 | link h1 _ ih => exact fun hs => h1.elim (fun h2 => absurd hs (hA _ _ _ h2)) (fun h2 => .link h2 (ih (hB _ _ _ h2)))
 | edge h1 h2 h3 _ ih => exact fun hs => h1.elim (fun h4 => absurd hs (hA _ _ _ h4)) (fun h4 => .edge h4 h2 h3 (ih (hB _ _ _ h4)))
theorem way_swap {s p r q : Nat} (h : WayP w (orT A B) s p r q) : WayP w (orT B A) s p r q := h.mono fun _ _ _ h => h.symm
theorem seq_frg {i n0 n1 n2 e1 e2 : Nat} (hA : Frg A i n0 n1 e1) (hB : Frg B e1 n1 n2 e2) : Frg (orT A B) i n0 n2 e2 := by
 have h1 := hA.le
 have h2 := hB.le
 have h3 := hA.en
 have h4 := hB.en
 have h5 := hA.lt
 refine ⟨by omega, h5, fun s o t h => ?_, fun s o t h => ?_, by omega⟩
 ·rcases h with h | h
  ·have := hA.src s o t h
   omega
  ·have := hB.src s o t h
   omega
 ·rcases h with h | h
  ·have := hA.tgt s o t h
   omega
  ·have := hB.tgt s o t h
   omega
theorem seq_way {i n0 n1 n2 e1 e2 : Nat} (hA : Frg A i n0 n1 e1) (hB : Frg B e1 n1 n2 e2) (p q : Nat) : WayP w (orT A B) i p e2 q ↔ ∃ m, WayP w A i p e1 m ∧ WayP w B e1 m e2 q := by
 have g1 := hA.le
 have g2 := hB.le
 have g3 := hA.en
 have g4 := hB.en
 have g5 := hA.lt
 constructor
 ·have key : ∀ {s p r q : Nat}, WayP w (orT A B) s p r q → r = e2 → (s = i ∨ (n0 ≤ s ∧ s < n1)) → ∃ m, WayP w A s p e1 m ∧ WayP w B e1 m e2 q := by
   intro s p r q h
   induction h with
   | nil s p =>
    rintro rfl hs
    obtain rfl : s = e1 := by omega
    exact ⟨p, .nil _ _, .nil _ _⟩
   | @link s t r p q h1 h2 ih =>
    intro hr hs
    rcases h1 with h1 | h1
    ·obtain ⟨m, k1, k2⟩ := ih hr (.inr (hA.tgt _ _ _ h1))
     exact ⟨m, .link h1 k1, k2⟩
    ·have h3 := hB.src _ _ _ h1
     obtain rfl : s = e1 := by omega
     subst hr
     exact ⟨p, .nil _ _, .link h1 (way_stay (fun s o t h => by have := hA.src s o t h; omega) hB.tgt h2 (hB.tgt _ _ _ h1))⟩
   | @edge s c t b r p q h1 hb hc h2 ih =>
    intro hr hs
    rcases h1 with h1 | h1
    ·obtain ⟨m, k1, k2⟩ := ih hr (.inr (hA.tgt _ _ _ h1))
     exact ⟨m, .edge h1 hb hc k1, k2⟩
    ·have h3 := hB.src _ _ _ h1
     obtain rfl : s = e1 := by omega
     subst hr
     exact ⟨p, .nil _ _, .edge h1 hb hc (way_stay (fun s o t h => by have := hA.src s o t h; omega) hB.tgt h2 (hB.tgt _ _ _ h1))⟩
  exact fun h => key h rfl (.inl rfl)
 ·rintro ⟨m, h1, h2⟩
  exact (h1.mono fun _ _ _ h => .inl h).trans (h2.mono fun _ _ _ h => .inr h)
theorem side_way {i n0 n1 n2 e1 e2 x : Nat} (hA : Frg A i n0 n1 e1) (hB : Frg B i n1 n2 e2) (hx : x = i ∨ (n0 ≤ x ∧ x < n1)) (p q : Nat) : WayP w (orT A B) i p x q ↔ WayP w A i p x q := by
 have g1 := hA.le
 have g2 := hB.le
 have g5 := hA.lt
 have sA : ∀ s o t, A s o t → ¬ (n1 ≤ s ∧ s < n2) := fun s o t h => by have := hA.src s o t h; omega
 have sB : ∀ s o t, B s o t → ¬ (n0 ≤ s ∧ s < n1) := fun s o t h => by have := hB.src s o t h; omega
 have fin : ∀ {s p r q : Nat}, WayP w B s p r q → n1 ≤ s ∧ s < n2 → n1 ≤ r ∧ r < n2 := by
  intro s p r q h
  induction h with
  | nil s p => exact id
  | link h1 _ ih => exact fun _ => ih (hB.tgt _ _ _ h1)
  | edge h1 _ _ _ ih => exact fun _ => ih (hB.tgt _ _ _ h1)
 refine ⟨fun h => ?_, fun h => h.mono fun _ _ _ h => .inl h⟩
 cases h with
 | nil => exact .nil _ _
 | link h1 h2 =>
  rcases h1 with h1 | h1
  ·exact .link h1 (way_stay sB hA.tgt (way_swap h2) (hA.tgt _ _ _ h1))
  ·have := fin (way_stay sA hB.tgt h2 (hB.tgt _ _ _ h1)) (hB.tgt _ _ _ h1)
   omega
 | edge h1 hb hc h2 =>
  rcases h1 with h1 | h1
  ·exact .edge h1 hb hc (way_stay sB hA.tgt (way_swap h2) (hA.tgt _ _ _ h1))
  ·have := fin (way_stay sA hB.tgt h2 (hB.tgt _ _ _ h1)) (hB.tgt _ _ _ h1)
   omega
theorem side_way2 {i n0 n1 n2 e1 e2 x : Nat} (hA : Frg A i n0 n1 e1) (hB : Frg B i n1 n2 e2) (hx : x = i ∨ (n1 ≤ x ∧ x < n2)) (p q : Nat) : WayP w (orT A B) i p x q ↔ WayP w B i p x q := by
 have g1 := hA.le
 have g2 := hB.le
 have g5 := hA.lt
 have sA : ∀ s o t, A s o t → ¬ (n1 ≤ s ∧ s < n2) := fun s o t h => by have := hA.src s o t h; omega
 have sB : ∀ s o t, B s o t → ¬ (n0 ≤ s ∧ s < n1) := fun s o t h => by have := hB.src s o t h; omega
 have fin : ∀ {s p r q : Nat}, WayP w A s p r q → n0 ≤ s ∧ s < n1 → n0 ≤ r ∧ r < n1 := by
  intro s p r q h
  induction h with
  | nil s p => exact id
  | link h1 _ ih => exact fun _ => ih (hA.tgt _ _ _ h1)
  | edge h1 _ _ _ ih => exact fun _ => ih (hA.tgt _ _ _ h1)
 refine ⟨fun h => ?_, fun h => h.mono fun _ _ _ h => .inr h⟩
 cases h with
 | nil => exact .nil _ _
 | link h1 h2 =>
  rcases h1 with h1 | h1
  ·have := fin (way_stay sB hA.tgt (way_swap h2) (hA.tgt _ _ _ h1)) (hA.tgt _ _ _ h1)
   omega
  ·exact .link h1 (way_stay sA hB.tgt h2 (hB.tgt _ _ _ h1))
 | edge h1 hb hc h2 =>
  rcases h1 with h1 | h1
  ·have := fin (way_stay sB hA.tgt (way_swap h2) (hA.tgt _ _ _ h1)) (hA.tgt _ _ _ h1)
   omega
  ·exact .edge h1 hb hc (way_stay sA hB.tgt h2 (hB.tgt _ _ _ h1))
theorem way_keep {P : Nat → Prop} (hA : ∀ s o t, A s o t → ¬ P s) (hB : ∀ s o t, B s o t → P t) {s p r q : Nat} (h : WayP w (orT A B) s p r q) : P s → WayP w B s p r q := by
 induction h with
 | nil s p => exact fun _ => .nil s p
 | link h1 _ ih => exact fun hs => h1.elim (fun h2 => absurd hs (hA _ _ _ h2)) (fun h2 => .link h2 (ih (hB _ _ _ h2)))
 | edge h1 h2 h3 _ ih => exact fun hs => h1.elim (fun h4 => absurd hs (hA _ _ _ h4)) (fun h4 => .edge h4 h2 h3 (ih (hB _ _ _ h4)))
theorem way_stuck {t : Nat} (hT : ∀ o r, ¬ T t o r) {p r q : Nat} (h : WayP w T t p r q) : r = t ∧ p = q := by
 cases h with
 | nil => exact ⟨rfl, rfl⟩
 | link h1 => exact absurd h1 (hT _ _)
 | edge h1 => exact absurd h1 (hT _ _)
theorem end_way {t : Nat} {E : Nat → Prop} (hE : ¬ E t) (hT : ∀ s o r, T s o r → s ≠ t ∧ r ≠ t) {s p q : Nat} (hs : s ≠ t) : WayP w (orT T fun a o b => E a ∧ o = none ∧ b = t) s p t q ↔ ∃ e, E e ∧ WayP w T s p e q := by
 have stuck : ∀ o r, ¬ orT T (fun a o b => E a ∧ o = none ∧ b = t) t o r := fun o r h => h.elim (fun h => (hT _ _ _ h).1 rfl) (fun h => hE h.1)
 constructor
 ·have key : ∀ {s p r q : Nat}, WayP w (orT T fun a o b => E a ∧ o = none ∧ b = t) s p r q → r = t → s ≠ t → ∃ e, E e ∧ WayP w T s p e q := by
   intro s p r q h
   induction h with
   | nil s p => exact fun h1 h2 => absurd h1 h2
   | @link s t' r p q h1 h2 ih =>
    intro hr hs
    rcases h1 with h1 | ⟨h3, _, rfl⟩
    ·obtain ⟨e, k1, k2⟩ := ih hr (hT _ _ _ h1).2
     exact ⟨e, k1, .link h1 k2⟩
    ·obtain ⟨_, rfl⟩ := way_stuck stuck h2
     exact ⟨s, h3, .nil _ _⟩
   | @edge s c t' b r p q h1 hb hc h2 ih =>
    intro hr hs
    rcases h1 with h1 | ⟨_, h3, _⟩
    ·obtain ⟨e, k1, k2⟩ := ih hr (hT _ _ _ h1).2
     exact ⟨e, k1, .edge h1 hb hc k2⟩
    ·cases h3
  exact fun h => key h rfl hs
 ·rintro ⟨e, h1, h2⟩
  exact (h2.mono fun _ _ _ h => .inl h).trans (.link (.inr ⟨h1, rfl, rfl⟩) (.nil _ _))
def loopT (A : TrT) (i h e : Nat) : TrT := fun s o t => (s = i ∧ o = none ∧ t = h) ∨ A s o t ∨ (s = e ∧ o = none ∧ t = h)
theorem loop_key {i h n1 e : Nat} (hi : i < h) (hA : Frg A h (h + 1) n1 e) {x : Nat} (hx : x = h ∨ x = e) {s p r q : Nat} (g : WayP w (loopT A i h e) s p r q) : r = x → (s = h ∨ (h + 1 ≤ s ∧ s < n1)) →
  (∃ m, WayP w A s p e m ∧ starR (fun a b => WayP w A h a e b) m q) ∨ (s = h ∧ x = h ∧ starR (fun a b => WayP w A h a e b) p q) := by
 have hen := hA.en
 have back : ∀ {p q : Nat}, ((∃ m, WayP w A h p e m ∧ starR (fun a b => WayP w A h a e b) m q) ∨ (h = h ∧ x = h ∧ starR (fun a b => WayP w A h a e b) p q)) → starR (fun a b => WayP w A h a e b) p q := by
  rintro p q (⟨m, k1, k, k2⟩ | ⟨_, _, k⟩)
  ·exact ⟨k + 1, m, k1, k2⟩
  ·exact k
 induction g with
 | nil s p =>
  intro hr hs
  subst hr
  rcases hx with rfl | rfl
  ·exact .inr ⟨rfl, rfl, 0, rfl⟩
  ·exact .inl ⟨p, .nil _ _, 0, rfl⟩
 | @link s t r p q h1 h2 ih =>
  intro hr hs
  rcases h1 with ⟨rfl, _, _⟩ | h1 | ⟨rfl, _, rfl⟩
  ·omega
  ·have ht := hA.tgt _ _ _ h1
   rcases ih hr (.inr ht) with ⟨m, k1, k2⟩ | ⟨rfl, _⟩
   ·exact .inl ⟨m, .link h1 k1, k2⟩
   ·omega
  ·exact .inl ⟨p, .nil _ _, back (ih hr (.inl rfl))⟩
 | @edge s c t b r p q h1 hb hc h2 ih =>
  intro hr hs
  rcases h1 with ⟨_, h3, _⟩ | h1 | ⟨_, h3, _⟩
  ·cases h3
  ·have ht := hA.tgt _ _ _ h1
   rcases ih hr (.inr ht) with ⟨m, k1, k2⟩ | ⟨rfl, _⟩
   ·exact .inl ⟨m, .edge h1 hb hc k1, k2⟩
   ·omega
  ·cases h3
theorem loop_frg {i h n1 e : Nat} (hi : i < h) (hA : Frg A h (h + 1) n1 e) {x : Nat} (hx : x = h ∨ x = e) : Frg (loopT A i h e) i h n1 x := by
 have h1 := hA.le
 have h2 := hA.en
 refine ⟨by omega, hi, fun s o t g => ?_, fun s o t g => ?_, by omega⟩
 ·rcases g with ⟨rfl, _⟩ | g | ⟨rfl, _⟩
  ·exact .inl rfl
  ·have := hA.src s o t g
   omega
  ·omega
 ·rcases g with ⟨_, _, rfl⟩ | g | ⟨_, _, rfl⟩
  ·omega
  ·have := hA.tgt s o t g
   omega
  ·omega
theorem loop_round {i h e : Nat} {m q : Nat} (g : starR (fun a b => WayP w A h a e b) m q) : WayP w (loopT A i h e) h m h q := by
 obtain ⟨k, g⟩ := g
 induction k generalizing m with
 | zero =>
  have g : m = q := g
  subst g
  exact .nil _ _
 | succ k ih =>
  obtain ⟨m2, g1, g2⟩ := g
  exact (g1.mono fun _ _ _ h => .inr (.inl h)).trans (.link (.inr (.inr ⟨rfl, rfl, rfl⟩)) (ih g2))
theorem star_way {i h n1 e : Nat} (hi : i < h) (hA : Frg A h (h + 1) n1 e) (p q : Nat) : WayP w (loopT A i h e) i p h q ↔ starR (fun a b => WayP w A h a e b) p q := by
 have hen := hA.en
 constructor
 ·intro g
  cases g with
  | nil => omega
  | link h1 h2 =>
   rcases h1 with ⟨_, _, rfl⟩ | h1 | ⟨h3, _⟩
   ·rcases loop_key hi hA (.inl rfl) h2 rfl (.inl rfl) with ⟨m, k1, k, k2⟩ | ⟨_, _, k⟩
    ·exact ⟨k + 1, m, k1, k2⟩
    ·exact k
   ·have := hA.src _ _ _ h1
    omega
   ·omega
  | edge h1 hb hc h2 =>
   rcases h1 with ⟨_, h3, _⟩ | h1 | ⟨_, h3, _⟩
   ·cases h3
   ·have := hA.src _ _ _ h1
    omega
   ·cases h3
 ·exact fun g => .link (.inl ⟨rfl, rfl, rfl⟩) (loop_round g)
theorem plus_way {i h n1 e : Nat} (hi : i < h) (hA : Frg A h (h + 1) n1 e) (p q : Nat) : WayP w (loopT A i h e) i p e q ↔ plusR (fun a b => WayP w A h a e b) p q := by
 have hen := hA.en
 constructor
 ·intro g
  cases g with
  | nil => omega
  | link h1 h2 =>
   rcases h1 with ⟨_, _, rfl⟩ | h1 | ⟨h3, _⟩
   ·rcases loop_key hi hA (.inr rfl) h2 rfl (.inl rfl) with ⟨m, k1, k2⟩ | ⟨_, he, k⟩
    ·exact ⟨m, k1, k2⟩
    ·subst he
     exact ⟨p, .nil _ _, k⟩
   ·have := hA.src _ _ _ h1
    omega
   ·omega
  | edge h1 hb hc h2 =>
   rcases h1 with ⟨_, h3, _⟩ | h1 | ⟨_, h3, _⟩
   ·cases h3
   ·have := hA.src _ _ _ h1
    omega
   ·cases h3
 ·rintro ⟨m, g1, k, g2⟩
  obtain ⟨m2, g3, g4⟩ : ∃ m2, starR (fun a b => WayP w A h a e b) p m2 ∧ WayP w A h m2 e q := by
   have hk : itR (fun a b => WayP w A h a e b) (k + 1) p q := ⟨m, g1, g2⟩
   rw [itR_add] at hk
   obtain ⟨m2, g3, g4⟩ := hk
   exact ⟨m2, ⟨k, g3⟩, itR_one.1 g4⟩
  exact .link (.inl ⟨rfl, rfl, rfl⟩) ((loop_round g3).trans (g4.mono fun _ _ _ h => .inr (.inl h)))
structure Ufg (T : TrT) (i t n0 n1 : Nat) : Prop where
 le : n0 ≤ n1
 lt : i < n0
 ne : i ≠ t
 tl : t < n0
 src : ∀ s o r, T s o r → s = i ∨ (n0 ≤ s ∧ s < n1)
 tgt : ∀ s o r, T s o r → r = t ∨ (n0 ≤ r ∧ r < n1)
theorem upto_frg {i t n0 n1 n2 e1 : Nat} (hit : i ≠ t) (htl : t < n0) (hA : Frg A i n0 n1 e1) (hB : Ufg B e1 t n1 n2) : Ufg (fun s o r => oneT i none t s o r ∨ A s o r ∨ B s o r) i t n0 n2 := by
 have h1 := hA.le
 have h2 := hB.le
 have h3 := hA.en
 have h4 := hA.lt
 refine ⟨by omega, h4, hit, htl, fun s o r g => ?_, fun s o r g => ?_⟩
 ·rcases g with ⟨rfl, _⟩ | g | g
  ·exact .inl rfl
  ·have := hA.src s o r g
   omega
  ·have := hB.src s o r g
   omega
 ·rcases g with ⟨_, _, rfl⟩ | g | g
  ·exact .inl rfl
  ·have := hA.tgt s o r g
   omega
  ·have := hB.tgt s o r g
   omega
theorem upto_way {i t n0 n1 n2 e1 : Nat} (hit : i ≠ t) (htl : t < n0) (hA : Frg A i n0 n1 e1) (hB : Ufg B e1 t n1 n2) (p q : Nat) : WayP w (fun s o r => oneT i none t s o r ∨ A s o r ∨ B s o r) i p t q ↔ p = q ∨ ∃ m, WayP w A i p e1 m ∧ WayP w B e1 m t q := by
 have g1 := hA.le
 have g2 := hB.le
 have g3 := hA.en
 have g4 := hA.lt
 have g5 := hB.tl
 have stuck : ∀ o r, ¬ (oneT i none t t o r ∨ A t o r ∨ B t o r) := fun o r h => by
  rcases h with ⟨h, _⟩ | h | h
  ·exact hit h.symm
  ·have := hA.src _ _ _ h
   omega
  ·have := hB.src _ _ _ h
   have := hB.ne
   omega
 constructor
 ·have key : ∀ {s p r q : Nat}, WayP w (fun s o r => oneT i none t s o r ∨ A s o r ∨ B s o r) s p r q → r = t → (s = i ∨ (n0 ≤ s ∧ s < n1)) → (s = i ∧ p = q) ∨ ∃ m, WayP w A s p e1 m ∧ WayP w B e1 m t q := by
   intro s p r q h
   have tail : ∀ {s p q : Nat}, WayP w (fun s o r => oneT i none t s o r ∨ A s o r ∨ B s o r) s p t q → (s = t ∨ (n1 ≤ s ∧ s < n2)) → WayP w B s p t q := fun {s p q} h hs =>
    way_keep (A := fun s o r => oneT i none t s o r ∨ A s o r) (P := fun s => s = t ∨ (n1 ≤ s ∧ s < n2)) (fun s o r h => by
     rcases h with ⟨rfl, _⟩ | h
     ·omega
     ·have := hA.src _ _ _ h
      omega) (fun s o r h => hB.tgt _ _ _ h) (h.mono fun s o r h => h.elim (fun h => .inl (.inl h)) (fun h => h.elim (fun h => .inl (.inr h)) .inr)) hs
   induction h with
   | nil s p =>
    intro hr hs
    omega
   | @link s t' r p q h1 h2 ih =>
    intro hr hs
    subst hr
    rcases h1 with ⟨rfl, _, rfl⟩ | h1 | h1
    ·exact .inl ⟨rfl, (way_stuck stuck h2).2⟩
    ·have ht := hA.tgt _ _ _ h1
     rcases ih rfl (.inr ht) with ⟨rfl, _⟩ | ⟨m, k1, k2⟩
     ·omega
     ·exact .inr ⟨m, .link h1 k1, k2⟩
    ·have hsr := hB.src _ _ _ h1
     obtain rfl : s = e1 := by omega
     exact .inr ⟨p, .nil _ _, .link h1 (tail h2 (hB.tgt _ _ _ h1))⟩
   | @edge s c t' b r p q h1 hb hc h2 ih =>
    intro hr hs
    subst hr
    rcases h1 with ⟨_, h3, _⟩ | h1 | h1
    ·cases h3
    ·have ht := hA.tgt _ _ _ h1
     rcases ih rfl (.inr ht) with ⟨rfl, _⟩ | ⟨m, k1, k2⟩
     ·omega
     ·exact .inr ⟨m, .edge h1 hb hc k1, k2⟩
    ·have hsr := hB.src _ _ _ h1
     obtain rfl : s = e1 := by omega
     exact .inr ⟨p, .nil _ _, .edge h1 hb hc (tail h2 (hB.tgt _ _ _ h1))⟩
  exact fun h => (key h rfl (.inl rfl)).imp (fun h => h.2) id
 ·rintro (rfl | ⟨m, h1, h2⟩)
  ·exact .link (.inl ⟨rfl, rfl, rfl⟩) (.nil _ _)
  ·exact (h1.mono fun _ _ _ h => .inr (.inl h)).trans (h2.mono fun _ _ _ h => .inr (.inr h))
end
def TrM (m : MachS) : TrT := fun s o t => match o with
 | none => (s, t) ∈ m.links
 | some c => (s, c, t) ∈ m.edges
theorem trM_state (m : MachS) (l : Nat) : TrM (m.state l) = TrM m := rfl
theorem trM_link {m : MachS} {a b : Nat} {s : Nat} {o : Option Nat} {t : Nat} : TrM (m.link a b) s o t ↔ TrM m s o t ∨ oneT a none b s o t := by
 cases o with
 | none =>
  show (s, t) ∈ m.links ++ [(a, b)] ↔ (s, t) ∈ m.links ∨ _
  simp [oneT]
 | some c =>
  show (s, c, t) ∈ m.edges ↔ (s, c, t) ∈ m.edges ∨ _
  simp [oneT]
theorem trM_edge {m : MachS} {a x b : Nat} {s : Nat} {o : Option Nat} {t : Nat} : TrM (m.edge a x b) s o t ↔ TrM m s o t ∨ oneT a (some x) b s o t := by
 cases o with
 | none =>
  show (s, t) ∈ m.links ↔ (s, t) ∈ m.links ∨ _
  simp [oneT]
 | some c =>
  show (s, c, t) ∈ m.edges ++ [(a, x, b)] ↔ (s, c, t) ∈ m.edges ∨ _
  simp [oneT]
theorem states_state (m : MachS) (l : Nat) : (m.state l).states = m.states + 1 := by simp [MachS.state, MachS.states]
theorem states_link (m : MachS) (a b : Nat) : (m.link a b).states = m.states := rfl
theorem states_edge (m : MachS) (a x b : Nat) : (m.edge a x b).states = m.states := rfl
def FragOK (w : List Nat) (f : LayF) (R : RelW) : Prop := ∀ m i, i < m.states → ∃ T, (∀ s o t, TrM (f m i).1 s o t ↔ TrM m s o t ∨ T s o t) ∧ Frg T i m.states (f m i).1.states (f m i).2 ∧ ∀ p q, WayP w T i p (f m i).2 q ↔ R p q
section
variable {w : List Nat}
theorem frag_no : FragOK w noF idR := fun m i hi => ⟨noT, fun s o t => by simp [noF, noT], ⟨Nat.le_refl _, hi, fun _ _ _ h => h.elim, fun _ _ _ h => h.elim, .inl rfl⟩, fun p q => by
 show WayP w noT i p i q ↔ p = q
 rw [way_no]
 exact ⟨fun h => h.2, fun h => ⟨rfl, h⟩⟩⟩
theorem frag_nil : FragOK w nilF noR := fun m i hi => ⟨noT, fun s o t => by
  show TrM (m.state 0) s o t ↔ _
  rw [trM_state]
  simp [noT], by
  show Frg noT i m.states (m.state 0).states m.states
  rw [states_state]
  exact ⟨by omega, hi, fun _ _ _ h => h.elim, fun _ _ _ h => h.elim, .inr (by omega)⟩, fun p q => by
 show WayP w noT i p m.states q ↔ False
 rw [way_no]
 exact ⟨fun h => by omega, fun h => h.elim⟩⟩
theorem frag_set (x : Nat) : FragOK w (setF x) (setR x w) := fun m i hi => ⟨oneT i (some x) m.states, fun s o t => by
  show TrM ((m.state 0).edge i x m.states) s o t ↔ _
  rw [trM_edge, trM_state], by
  show Frg (oneT i (some x) m.states) i m.states ((m.state 0).edge i x m.states).states m.states
  rw [states_edge, states_state]
  exact ⟨by omega, hi, fun _ _ _ ⟨h, _⟩ => .inl h, fun _ _ _ ⟨_, _, h⟩ => by omega, .inr (by omega)⟩, fun p q => by
 show WayP w (oneT i (some x) m.states) i p m.states q ↔ ∃ c, w[p]? = some c ∧ x.testBit c = true ∧ q = p + 1
 constructor
 ·intro h
  cases h with
  | nil => omega
  | link h => cases h.2.1
  | edge h hb hc h2 =>
   obtain ⟨_, hx, rfl⟩ := h
   cases hx
   have := way_stuck (T := oneT i (some x) m.states) (t := m.states) (fun o r h => by have := h.1; omega) h2
   exact ⟨_, hb, hc, this.2.symm⟩
 ·rintro ⟨c, h1, h2, rfl⟩
  exact .edge ⟨rfl, rfl, rfl⟩ h1 h2 (.nil _ _)⟩
theorem FragOK.seq {f g : LayF} {R S : RelW} (hf : FragOK w f R) (hg : FragOK w g S) : FragOK w (fun m i => g (f m i).1 (f m i).2) (fun p q => ∃ k, R p k ∧ S k q) := fun m i hi => by
 obtain ⟨T1, a1, a2, a3⟩ := hf m i hi
 have h1 := a2.le
 have h2 := a2.en
 obtain ⟨T2, b1, b2, b3⟩ := hg (f m i).1 (f m i).2 (by omega)
 refine ⟨orT T1 T2, fun s o t => ?_, seq_frg a2 b2, fun p q => ?_⟩
 ·rw [b1, a1]
  unfold orT
  exact or_assoc
 ·rw [seq_way a2 b2]
  simp only [a3, b3]
inductive AllF (w : List Nat) : List LayF → List RelW → Prop
 | nil : AllF w [] []
 | cons {f : LayF} {R : RelW} {l : List LayF} {m : List RelW} : FragOK w f R → AllF w l m → AllF w (f :: l) (R :: m)
theorem frag_cat {fs : List LayF} {Rs : List RelW} (h : AllF w fs Rs) : FragOK w (catF fs) (catR Rs) := by
 induction h with
 | nil => exact frag_no
 | cons h _ ih => exact h.seq ih
theorem side_frg {A B : TrT} {i n0 n1 n2 e1 : Nat} (hA : Frg A i n0 n1 e1) (hB : Frg B i n1 n2 i) : Frg (orT A B) i n0 n2 i := by
 have h1 := hA.le
 have h2 := hB.le
 refine ⟨by omega, hA.lt, fun s o t h => ?_, fun s o t h => ?_, .inl rfl⟩
 ·rcases h with h | h
  ·have := hA.src s o t h
   omega
  ·have := hB.src s o t h
   omega
 ·rcases h with h | h
  ·have := hA.tgt s o t h
   omega
  ·have := hB.tgt s o t h
   omega
theorem frag_side {fs : List LayF} {Rs : List RelW} (h : AllF w fs Rs) : ∀ m i, i < m.states → ∃ T, (∀ s o t, TrM (altF fs m i).1 s o t ↔ TrM m s o t ∨ T s o t) ∧ Frg T i m.states (altF fs m i).1.states i ∧ (∀ e ∈ (altF fs m i).2, e = i ∨ (m.states ≤ e ∧ e < (altF fs m i).1.states)) ∧ ∀ p q, (∃ e ∈ (altF fs m i).2, WayP w T i p e q) ↔ altR Rs p q := by
 induction h with
 | nil =>
  intro m i hi
  refine ⟨noT, fun s o t => by simp [altF, noT], ⟨Nat.le_refl _, hi, fun _ _ _ h => h.elim, fun _ _ _ h => h.elim, .inl rfl⟩, fun e he => by simp [altF] at he, fun p q => ?_⟩
  simp [altF, altR]
 | @cons f R l Rs h _ ih =>
  intro m i hi
  obtain ⟨T1, a1, a2, a3⟩ := h m i hi
  have g1 := a2.le
  have g2 := a2.en
  obtain ⟨T2, b1, b2, b4, b3⟩ := ih (f m i).1 i (by omega)
  have g3 := b2.le
  refine ⟨orT T1 T2, fun s o t => ?_, side_frg a2 b2, fun e he => ?_, fun p q => ?_⟩
  ·show TrM (altF l (f m i).1 i).1 s o t ↔ _
   rw [b1, a1]
   unfold orT
   exact or_assoc
  ·have he : e ∈ (f m i).2 :: (altF l (f m i).1 i).2 := he
   show e = i ∨ (m.states ≤ e ∧ e < (altF l (f m i).1 i).1.states)
   rcases List.mem_cons.1 he with rfl | he
   ·omega
   ·have := b4 e he
    omega
  ·show (∃ e ∈ (f m i).2 :: (altF l (f m i).1 i).2, WayP w (orT T1 T2) i p e q) ↔ altR (R :: Rs) p q
   have e1 : altR (R :: Rs) p q ↔ R p q ∨ altR Rs p q := by simp [altR]
   rw [e1, ← a3, ← b3]
   constructor
   ·rintro ⟨e, he, h⟩
    rcases List.mem_cons.1 he with rfl | he
    ·exact .inl ((side_way a2 b2 a2.en p q).1 h)
    ·exact .inr ⟨e, he, (side_way2 a2 b2 (b4 e he) p q).1 h⟩
   ·rintro (h | ⟨e, he, h⟩)
    ·exact ⟨_, by simp, (side_way a2 b2 a2.en p q).2 h⟩
    ·exact ⟨e, by simp [he], (side_way2 a2 b2 (b4 e he) p q).2 h⟩
theorem trM_links {t : Nat} : ∀ {es : List Nat} {m : MachS} {s : Nat} {o : Option Nat} {r : Nat}, TrM (linksF t es m) s o r ↔ TrM m s o r ∨ (s ∈ es ∧ o = none ∧ r = t)
 | [], m, s, o, r => by simp [linksF]
 | e :: l, m, s, o, r => by
  rw [linksF, trM_links, trM_link]
  unfold oneT
  simp only [List.mem_cons]
  constructor
  ·rintro ((h | h) | h)
   ·exact .inl h
   ·exact .inr ⟨.inl h.1, h.2⟩
   ·exact .inr ⟨.inr h.1, h.2⟩
  ·rintro (h | ⟨h | h, h2⟩)
   ·exact .inl (.inl h)
   ·exact .inl (.inr ⟨h, h2⟩)
   ·exact .inr ⟨h, h2⟩
theorem states_links {t : Nat} : ∀ {es : List Nat} {m : MachS}, (linksF t es m).states = m.states
 | [], m => rfl
 | e :: l, m => by rw [linksF, states_links, states_link]
theorem frag_end {T : TrT} {i n0 n1 e0 : Nat} {E : Nat → Prop} (hT : Frg T i n0 n1 e0) (hE : ∀ e, E e → e = i ∨ (n0 ≤ e ∧ e < n1)) : Frg (orT T fun a o b => E a ∧ o = none ∧ b = n1) i n0 (n1 + 1) n1 ∧ ∀ p q, WayP w (orT T fun a o b => E a ∧ o = none ∧ b = n1) i p n1 q ↔ ∃ e, E e ∧ WayP w T i p e q := by
 have h1 := hT.le
 have h2 := hT.lt
 refine ⟨⟨by omega, h2, fun s o t h => ?_, fun s o t h => ?_, .inr (by omega)⟩, fun p q => end_way (fun h => by have := hE _ h; omega) (fun s o r h => ?_) (by omega)⟩
 ·rcases h with h | h
  ·have := hT.src s o t h
   omega
  ·have := hE s h.1
   omega
 ·rcases h with h | ⟨_, _, rfl⟩
  ·have := hT.tgt s o t h
   omega
  ·omega
 ·have := hT.src s o r h
  have := hT.tgt s o r h
  omega
theorem frag_bar {fs : List LayF} {Rs : List RelW} (h : AllF w fs Rs) : FragOK w (barF fs) (altR Rs) := fun m i hi => by
 obtain ⟨T, a1, a2, a4, a3⟩ := frag_side h m i hi
 obtain ⟨b1, b2⟩ := frag_end (w := w) (E := fun e => e ∈ (altF fs m i).2) a2 a4
 refine ⟨orT T fun a o b => a ∈ (altF fs m i).2 ∧ o = none ∧ b = (altF fs m i).1.states, fun s o t => ?_, ?_, fun p q => ?_⟩
 rotate_left
 ·show Frg _ i m.states (linksF (altF fs m i).1.states (altF fs m i).2 ((altF fs m i).1.state 0)).states (altF fs m i).1.states
  rw [states_links, states_state]
  exact b1
 ·rw [← a3]
  exact b2 p q
 ·show TrM (linksF (altF fs m i).1.states (altF fs m i).2 ((altF fs m i).1.state 0)) s o t ↔ _
  rw [trM_links, trM_state, a1]
  unfold orT
  exact or_assoc
theorem frag_loop (plus : Bool) {f : LayF} {R : RelW} (h : FragOK w f R) : FragOK w (loopF plus f) (if plus = true then plusR R else starR R) := fun m i hi => by
 have hs1 : ((m.state 0).link i m.states).states = m.states + 1 := by rw [states_link, states_state]
 obtain ⟨T, a1, a2, a3⟩ := h ((m.state 0).link i m.states) m.states (by omega)
 rw [hs1] at a2
 have hR : (fun a b => WayP w T m.states a (f ((m.state 0).link i m.states) m.states).2 b) = R := by
  funext a b
  exact propext (a3 a b)
 have htr : ∀ s o t, TrM (loopF plus f m i).1 s o t ↔ TrM m s o t ∨ loopT T i m.states (f ((m.state 0).link i m.states) m.states).2 s o t := fun s o t => by
  show TrM ((f ((m.state 0).link i m.states) m.states).1.link (f ((m.state 0).link i m.states) m.states).2 m.states) s o t ↔ _
  rw [trM_link, a1, trM_link, trM_state]
  unfold loopT oneT
  constructor
  ·rintro (((h | h) | h) | h)
   ·exact .inl h
   ·exact .inr (.inl h)
   ·exact .inr (.inr (.inl h))
   ·exact .inr (.inr (.inr h))
  ·rintro (h | h | h | h)
   ·exact .inl (.inl (.inl h))
   ·exact .inl (.inl (.inr h))
   ·exact .inl (.inr h)
   ·exact .inr h
 refine ⟨_, htr, ?_, fun p q => ?_⟩
 ·show Frg _ i m.states (f ((m.state 0).link i m.states) m.states).1.states _
  cases plus with
  | true => exact loop_frg hi a2 (.inr rfl)
  | false => exact loop_frg hi a2 (.inl rfl)
 ·cases plus with
  | true =>
   show WayP w _ i p (f ((m.state 0).link i m.states) m.states).2 q ↔ plusR R p q
   rw [plus_way hi a2, hR]
  | false =>
   show WayP w _ i p m.states q ↔ starR R p q
   rw [star_way hi a2, hR]
theorem way_in {T : TrT} {i n0 n1 e s p r q : Nat} (hT : Frg T i n0 n1 e) (h : WayP w T s p r q) : n0 ≤ s ∧ s < n1 → n0 ≤ r ∧ r < n1 := by
 induction h with
 | nil s p => exact id
 | link h1 _ ih => exact fun _ => ih (hT.tgt _ _ _ h1)
 | edge h1 _ _ _ ih => exact fun _ => ih (hT.tgt _ _ _ h1)
theorem way_home {T : TrT} {i n0 n1 e p q : Nat} (hT : Frg T i n0 n1 e) : WayP w T i p i q ↔ p = q := by
 have h2 := hT.lt
 constructor
 ·intro h
  cases h with
  | nil => rfl
  | link h1 h3 => have := way_in hT h3 (hT.tgt _ _ _ h1); omega
  | edge h1 _ _ h3 => have := way_in hT h3 (hT.tgt _ _ _ h1); omega
 ·rintro rfl
  exact .nil _ _
theorem frag_opt {f : LayF} {R : RelW} (h : FragOK w f R) : FragOK w (optF f) (optR R) := fun m i hi => by
 obtain ⟨T, a1, a2, a3⟩ := h m i hi
 have g2 := a2.en
 obtain ⟨b1, b2⟩ := frag_end (w := w) (E := fun e => e = (f m i).2 ∨ e = i) a2 (fun e he => by omega)
 refine ⟨orT T fun a o b => (a = (f m i).2 ∨ a = i) ∧ o = none ∧ b = (f m i).1.states, fun s o t => ?_, ?_, fun p q => ?_⟩
 rotate_left
 ·show Frg _ i m.states ((((f m i).1.state 0).link (f m i).2 (f m i).1.states).link i (f m i).1.states).states (f m i).1.states
  rw [states_link, states_link, states_state]
  exact b1
 ·show WayP w _ i p (f m i).1.states q ↔ p = q ∨ R p q
  rw [b2, ← a3, ← way_home a2]
  constructor
  ·rintro ⟨e, rfl | rfl, h⟩
   ·exact .inr h
   ·exact .inl h
  ·rintro (h | h)
   ·exact ⟨i, .inr rfl, h⟩
   ·exact ⟨_, .inl rfl, h⟩
 ·show TrM ((((f m i).1.state 0).link (f m i).2 (f m i).1.states).link i (f m i).1.states) s o t ↔ _
  rw [trM_link, trM_link, trM_state, a1]
  unfold orT oneT
  constructor
  ·rintro (((h | h) | h) | h)
   ·exact .inl h
   ·exact .inr (.inl h)
   ·exact .inr (.inr ⟨.inl h.1, h.2⟩)
   ·exact .inr (.inr ⟨.inr h.1, h.2⟩)
  ·rintro (h | h | ⟨h | h, h2⟩)
   ·exact .inl (.inl (.inl h))
   ·exact .inl (.inl (.inr h))
   ·exact .inl (.inr ⟨h, h2⟩)
   ·exact .inr ⟨h, h2⟩
theorem frag_times {f : LayF} {R : RelW} (h : FragOK w f R) : ∀ k, FragOK w (timesF f k) (itR R k)
 | 0 => frag_no
 | k + 1 => h.seq (frag_times h k)
theorem frag_opts {f : LayF} {R : RelW} (h : FragOK w f R) (t : Nat) : ∀ (k : Nat) (m : MachS) (i : Nat), i < m.states → t < m.states → i ≠ t →
  ∃ T, (∀ s o r, TrM ((optsF f t k m i).1.link (optsF f t k m i).2 t) s o r ↔ TrM m s o r ∨ T s o r) ∧ Ufg T i t m.states (optsF f t k m i).1.states ∧ ∀ p q, WayP w T i p t q ↔ ∃ j, j ≤ k ∧ itR R j p q
 | 0, m, i, hi, ht, hit => by
  refine ⟨oneT i none t, fun s o r => trM_link, ⟨Nat.le_refl _, hi, hit, ht, fun s o r h => .inl h.1, fun s o r h => .inl h.2.2⟩, fun p q => ?_⟩
  constructor
  ·intro h
   cases h with
   | nil => exact absurd rfl hit
   | link h1 h2 =>
    obtain ⟨_, _, rfl⟩ := h1
    have := way_stuck (T := oneT i none _) (fun o r h => hit h.1.symm) h2
    exact ⟨0, Nat.le_refl _, this.2⟩
   | edge h1 => cases h1.2.1
  ·rintro ⟨j, hj, h⟩
   obtain rfl : j = 0 := by omega
   have h : p = q := h
   subst h
   exact .link ⟨rfl, rfl, rfl⟩ (.nil _ _)
 | k + 1, m, i, hi, ht, hit => by
  obtain ⟨T1, a1, a2, a3⟩ := h (m.link i t) i hi
  rw [states_link] at a2
  have g1 := a2.le
  have g2 := a2.en
  obtain ⟨T2, b1, b2, b3⟩ := frag_opts h t k (f (m.link i t) i).1 (f (m.link i t) i).2 (by omega) (by omega) (by omega)
  refine ⟨_, fun s o r => ?_, upto_frg hit ht a2 b2, fun p q => ?_⟩
  ·show TrM ((optsF f t k (f (m.link i t) i).1 (f (m.link i t) i).2).1.link (optsF f t k (f (m.link i t) i).1 (f (m.link i t) i).2).2 t) s o r ↔ _
   rw [b1, a1, trM_link]
   constructor
   ·rintro (((h | h) | h) | h)
    ·exact .inl h
    ·exact .inr (.inl h)
    ·exact .inr (.inr (.inl h))
    ·exact .inr (.inr (.inr h))
   ·rintro (h | h | h | h)
    ·exact .inl (.inl (.inl h))
    ·exact .inl (.inl (.inr h))
    ·exact .inl (.inr h)
    ·exact .inr h
  ·rw [upto_way hit ht a2 b2]
   simp only [a3, b3]
   constructor
   ·rintro (rfl | ⟨m, h1, j, h2, h3⟩)
    ·exact ⟨0, by omega, rfl⟩
    ·exact ⟨j + 1, by omega, m, h1, h3⟩
   ·rintro ⟨j, hj, h⟩
    cases j with
    | zero => exact .inl h
    | succ j =>
     obtain ⟨m, h1, h2⟩ := h
     exact .inr ⟨m, h1, j, by omega, h2⟩
theorem frag_up {f : LayF} {R : RelW} (h : FragOK w f R) (k : Nat) : FragOK w (upF f k) (fun p q => ∃ j, j ≤ k ∧ itR R j p q) := fun m i hi => by
 obtain ⟨T, a1, a2, a3⟩ := frag_opts h m.states k (m.state 0) i (by rw [states_state]; omega) (by rw [states_state]; omega) (by omega)
 rw [states_state] at a2
 have h1 := a2.le
 refine ⟨T, fun s o t => ?_, ?_, a3⟩
 ·show TrM ((optsF f m.states k (m.state 0) i).1.link (optsF f m.states k (m.state 0) i).2 m.states) s o t ↔ _
  rw [a1, trM_state]
 ·show Frg T i m.states ((optsF f m.states k (m.state 0) i).1.link (optsF f m.states k (m.state 0) i).2 m.states).states m.states
  rw [states_link]
  refine ⟨by omega, hi, fun s o t g => ?_, fun s o t g => ?_, .inr (by omega)⟩
  ·have := a2.src s o t g
   omega
  ·have := a2.tgt s o t g
   omega
theorem FragOK.cast {f : LayF} {R S : RelW} (h : FragOK w f R) (hR : ∀ p q, R p q ↔ S p q) : FragOK w f S := by
 have : R = S := by
  funext p q
  exact propext (hR p q)
 exact this ▸ h
theorem it_id {k p q : Nat} : itR idR k p q ↔ p = q := by
 induction k generalizing p with
 | zero => exact Iff.rfl
 | succ k ih =>
  constructor
  ·rintro ⟨m, h1, h2⟩
   have h1 : p = m := h1
   exact h1.trans (ih.1 h2)
  ·rintro rfl
   exact ⟨p, rfl, ih.2 rfl⟩
theorem frag_rep {f : LayF} {R : RelW} {n : Nat} {lo hi : Int} (h : FragOK w f R) (h0 : 0 ≤ lo) (h1 : hi = -1 ∨ lo ≤ hi) (hn : n = 0 → R = idR) : FragOK w (repF n lo hi f) (repR lo hi R) := by
 by_cases hn0 : n = 0
 ·have e : repF n lo hi f = noF := by
   funext m i
   unfold repF noF
   rw [if_pos hn0]
  rw [e, hn hn0]
  refine frag_no.cast fun p q => ?_
  constructor
  ·intro h
   exact ⟨lo.toNat, by omega, by omega, it_id.2 h⟩
  ·rintro ⟨k, _, _, h⟩
   exact it_id.1 h
 have ht := frag_times h lo.toNat
 by_cases hh : hi < 0
 ·have e : repF n lo hi f = fun m i => loopF false f (timesF f lo.toNat m i).1 (timesF f lo.toNat m i).2 := by
   funext m i
   unfold repF
   rw [if_neg hn0, if_pos hh]
  rw [e]
  refine (ht.seq (frag_loop false h)).cast fun p q => ?_
  simp only [Bool.false_eq_true, if_false]
  constructor
  ·rintro ⟨m, h2, k, h3⟩
   exact ⟨lo.toNat + k, by omega, .inl hh, itR_add.2 ⟨m, h2, h3⟩⟩
  ·rintro ⟨k, h2, _, h3⟩
   obtain ⟨j, rfl⟩ : ∃ j, k = lo.toNat + j := ⟨k - lo.toNat, by omega⟩
   obtain ⟨m, h4, h5⟩ := itR_add.1 h3
   exact ⟨m, h4, j, h5⟩
 by_cases hl : hi = lo
 ·have e : repF n lo hi f = timesF f lo.toNat := by
   funext m i
   unfold repF
   rw [if_neg hn0, if_neg hh, if_pos hl]
  rw [e]
  refine ht.cast fun p q => ?_
  constructor
  ·exact fun h2 => ⟨lo.toNat, by omega, by omega, h2⟩
  ·rintro ⟨k, h2, h3, h4⟩
   obtain rfl : k = lo.toNat := by omega
   exact h4
 ·have e : repF n lo hi f = fun m i => upF f (hi - lo).toNat (timesF f lo.toNat m i).1 (timesF f lo.toNat m i).2 := by
   funext m i
   unfold repF
   rw [if_neg hn0, if_neg hh, if_neg hl]
  rw [e]
  refine (ht.seq (frag_up h (hi - lo).toNat)).cast fun p q => ?_
  constructor
  ·rintro ⟨m, h2, j, h3, h4⟩
   exact ⟨lo.toNat + j, by omega, by omega, itR_add.2 ⟨m, h2, h4⟩⟩
  ·rintro ⟨k, h2, h3, h4⟩
   obtain ⟨j, rfl⟩ : ∃ j, k = lo.toNat + j := ⟨k - lo.toNat, by omega⟩
   obtain ⟨m, h5, h6⟩ := itR_add.1 h4
   exact ⟨m, h5, j, by omega, h6⟩
end
end Go.Proofs.YtofbfafnpdaejaaGreatDoor
namespace Go.Proofs.YtofbfafnpdaejaaGreatDoor
open Go.RowKit Go.MapKept Go.ChangeMaps Go.Maps
set_option linter.unusedSimpArgs false
set_option linter.unusedVariables false
set_option maxRecDepth 100000
set_option maxHeartbeats 8000000
section
variable {κ : Type} {key : κ → Value} {ok : κ → Prop} {good : κ → Value → Prop} {w w1 : World} {b : Nat} {k t E : TypeId} {P : Program}
def MemoAt (key : κ → Value) (ok : κ → Prop) (good : κ → Value → Prop) (w : World) (b : Nat) : Prop :=
 ∃ es clock, w.heap[b]? = some (.map es clock) ∧ Stamped es clock ∧ ∀ x ∈ es.toList, ∃ q, ok q ∧ x.key = key q ∧ good q x.val
theorem MemoAt.lt (h : MemoAt key ok good w b) : b < w.heap.size := by
 obtain ⟨es, clock, hb, _⟩ := h
 exact (Array.getElem?_eq_some_iff.1 hb).1
theorem memo_made (w : World) : MemoAt key ok good (w.alloc (.map #[] 0)) w.heap.size := ⟨#[], 0, (heap_alloc w _).1, stamped_empty 0, by simp⟩
theorem MemoAt.stay (h : MemoAt key ok good w b) (hb : w1.heap[b]? = w.heap[b]?) : MemoAt key ok good w1 b := by
 obtain ⟨es, clock, h1, h2⟩ := h
 exact ⟨es, clock, hb.trans h1, h2⟩
theorem MemoAt.store (h : MemoAt key ok good w b) (K : Keyed P k) (ht : P.underlying t = some (.map k E)) (hk : ∀ q, ok q → ∃ l, keyOf P k (key q) = some l) {q : κ} (hq : ok q) {v : Value} (hv : good q v) :
  ∃ w2, (Instr.mapUpdate t (.map (some b)) (key q) v).run P w = .ok () w2 ∧ MemoAt key ok good w2 b ∧ w.grownBy w2 (some b) := by
 obtain ⟨es, clock, hb, h1, h2⟩ := h
 obtain ⟨l, hl⟩ := hk q hq
 have hg2 : ∀ es' clock', w.grownBy (setBlock w b (.map es' clock')) (some b) := fun es' clock' => ⟨rfl, rfl, rfl, by simp [setBlock], fun i _ hi => heap_setBlock_other hb _ (fun e1 => hi (by rw [e1]))⟩
 rcases K.find w hl es.toList (fun x hx => by
  obtain ⟨q', h3, h4, _⟩ := h2 x hx
  rw [h4]
  exact hk q' h3) with ⟨f1, f2⟩ | ⟨j, e0, f1, f2, f3⟩
 ·refine ⟨setBlock w b (.map (es.push ⟨key q, v, clock⟩) (clock + 1)), ?_, ⟨_, _, heap_setBlock_same hb _, stamped_push h1 f2, fun x hx => ?_⟩, hg2 _ _⟩
  ·simp [Instr.mapUpdate, run_underlying ht, MapKept.run_getObj_map hb, K.check w false hl, f1, MapKept.run_setObj_map _ hb, Result.andThen, setBlock]
  ·simp only [Array.toList_push, List.mem_append, List.mem_singleton] at hx
   rcases hx with hx | rfl
   ·exact h2 x hx
   ·exact ⟨q, hq, rfl, hv⟩
 ·have hj : es[j]? = some e0 := by simpa using f2
  have hkeyf : ∀ e', es[j]? = some e' → ({ e' with key := key q, val := v } : MapEntry).key = e'.key := fun e' he' => by rw [hj] at he'; cases he'; exact f3.symm
  have hlist : (es.modify j (fun e' => { e' with key := key q, val := v })).toList = es.toList.set j { e0 with key := key q, val := v } := by rw [Array.toList_modify, modify_eq_set _ _ _ _ f2]
  refine ⟨setBlock w b (.map (es.modify j (fun e' => { e' with key := key q, val := v })) clock), ?_, ⟨_, _, heap_setBlock_same hb _, stamped_modify h1 _ _ (fun _ _ => rfl) (fun e' _ he' => hkeyf e' he'), fun x hx => ?_⟩, hg2 _ _⟩
  ·simp [Instr.mapUpdate, run_underlying ht, MapKept.run_getObj_map hb, K.check w false hl, f1, hj, f3, K.stays w hl, MapKept.run_setObj_map _ hb, Result.andThen, setBlock]
  ·rw [hlist] at hx
   rcases List.mem_or_eq_of_mem_set hx with hx | rfl
   ·exact h2 x hx
   ·exact ⟨q, hq, rfl, hv⟩
end
end Go.Proofs.YtofbfafnpdaejaaGreatDoor
