/- Texts of the claim. -/
import Derived.Test.YtfekpkelmliejaaGreatDoorJZ02
namespace Go.Proofs.YtfekpkelmliejaaGreatDoor
open Go.RowKit
set_option linter.unusedSimpArgs false
set_option linter.unusedVariables false
set_option maxRecDepth 100000
set_option maxHeartbeats 8000000
theorem Rd.alloc {w : World} {g : Nat} {A : Option Addr} {cap : Nat} {bs : List Nat} {i start kind place : Int} (h : Rd w g A cap bs i start kind place) (o : Obj) : Rd (w.alloc o) g A cap bs i start kind place := Blk.alloc h o
theorem Rd.below {w w' : World} {B g : Nat} {A : Option Addr} {cap : Nat} {bs : List Nat} {i start kind place : Int} (h : Rd w g A cap bs i start kind place) (hb : Below B w w') (hg : g < B) : Rd w' g A cap bs i start kind place := Blk.below h hb hg
theorem Rd.set4 {w : World} {g g' : Nat} {A : Option Addr} {cap : Nat} {bs : List Nat} {i start kind place : Int} (h : Rd w g A cap bs i start kind place) (hg : g ≠ g') (a b c d : Value) :
  Rd ((((w.setCell ⟨g', 0, none⟩ a).setCell ⟨g', 1, none⟩ b).setCell ⟨g', 2, none⟩ c).setCell ⟨g', 3, none⟩ d) g A cap bs i start kind place :=
 Blk.far (Blk.far (Blk.far (Blk.far h (by dsimp only; omega) _) (by dsimp only; omega) _) (by dsimp only; omega) _) (by dsimp only; omega) _
theorem only_set4 {a w : World} {g g' : Nat} (h : a.grownBy w (some g)) (hg : a.heap.size ≤ g') (x y z u : Value) :
  a.grownBy ((((w.setCell ⟨g', 0, none⟩ x).setCell ⟨g', 1, none⟩ y).setCell ⟨g', 2, none⟩ z).setCell ⟨g', 3, none⟩ u) (some g) :=
 only_set' (only_set' (only_set' (only_set' h hg _ _) hg _ _) hg _ _) hg _ _
def ItemPost (g : Nat) (A : Option Addr) (cap : Nat) (bs : List Nat) (i s : Nat) (w : World) (e : Ending) (w' : World) : Prop :=
 w.grownBy w' (some g) ∧
 match itemS bs s i with
 | .ok (lo, hi, j) => e = .returned (.agg #[.int .u64 (word (between lo hi) 0), .int .u64 (word (between lo hi) 1), .int .u64 (word (between lo hi) 2), .int .u64 (word (between lo hi) 3)]) ∧ Rd w' g A cap bs (j : Int) (s : Int) 0 0
 | .error (k, p) => k ≠ 0 ∧ ∃ (q : Nat → Bool) (j : Nat), e = .returned (.agg #[.int .u64 (word q 0), .int .u64 (word q 1), .int .u64 (word q 2), .int .u64 (word q 3)]) ∧ Rd w' g A cap bs (j : Int) (s : Int) k p
theorem ItemPost.yes {g : Nat} {A : Option Addr} {cap : Nat} {bs : List Nat} {i s : Nat} {w : World} {e : Ending} {w' : World} {lo hi j : Nat} (hg : w.grownBy w' (some g)) (hs : itemS bs s i = .ok (lo, hi, j))
  (he : e = .returned (.agg #[.int .u64 (word (between lo hi) 0), .int .u64 (word (between lo hi) 1), .int .u64 (word (between lo hi) 2), .int .u64 (word (between lo hi) 3)])) (hr : Rd w' g A cap bs (j : Int) (s : Int) 0 0) : ItemPost g A cap bs i s w e w' := by
 unfold ItemPost; rw [hs]; exact ⟨hg, he, hr⟩
theorem ItemPost.no {g : Nat} {A : Option Addr} {cap : Nat} {bs : List Nat} {i s : Nat} {w : World} {e : Ending} {w' : World} {k p : Int} (q : Nat → Bool) (j : Nat) (hg : w.grownBy w' (some g)) (hs : itemS bs s i = .error (k, p)) (hk : k ≠ 0)
  (he : e = .returned (.agg #[.int .u64 (word q 0), .int .u64 (word q 1), .int .u64 (word q 2), .int .u64 (word q 3)])) (hr : Rd w' g A cap bs (j : Int) (s : Int) k p) : ItemPost g A cap bs i s w e w' := by
 unfold ItemPost; rw [hs]; exact ⟨hg, hk, q, j, he, hr⟩
theorem item_bad1 (g : Nat) (A : Option Addr) (cap : Nat) (bs : List Nat) (i s : Nat) (B : Nat) (w : World) (hr : Rd w g A cap bs (i : Int) (s : Int) 0 0) (hA : BytesAt w B A bs) (hB : B ≤ g) (hi : i ≤ bs.length) (k p : Int) (he : charS bs s i = .error (k, p)) : Calls Tryz.prog 255 #[.pointer (some ⟨g, 0, none⟩)] w (ItemPost g A cap bs i s w) := by
 have hlt := hr.lt
 have hne : w.heap.size ≠ g := by omega
 obtain ⟨c0, c1, c2, c3, c4, f1, f3, f4⟩ := hr.cells
 have Hr := Lib.hid (hr.alloc (.cells #[.int .u64 0, .int .u64 0, .int .u64 0, .int .u64 0] 25))
 have HA : Hid (BytesAt (w.alloc (.cells #[.int .u64 0, .int .u64 0, .int .u64 0, .int .u64 0] 25)) B A bs) := hA.below ((Below.refl B w).alloc (by omega) _)
 have Hz : Hid (Blk (w.alloc (.cells #[.int .u64 0, .int .u64 0, .int .u64 0, .int .u64 0] 25)) w.heap.size 25 #[.int .u64 0, .int .u64 0, .int .u64 0, .int .u64 0]) := Blk.new _ _ _
 have Hg0 : Hid (w.grownBy (w.alloc (.cells #[.int .u64 0, .int .u64 0, .int .u64 0, .int .u64 0] 25)) (some g)) := only_alloc (only_refl _ _) _
 have Hl := Lib.hid hA.2.1
 have hl := hA.2.1
 clear hr hA
 have He := Lib.hid he
 have Hi : Hid (itemS bs s i = .error (k, p)) := by show itemS bs s i = _; unfold itemS; rw [he]
 clear he
 go_enter Tryz.func255, Tryz.ntmps255
 go_wp2_with fail
 with_reducible refine (char_go g A cap bs i s B _ Hr.out HA.out hB hi).mono ?_
 rintro e w1 hp
 unfold CharPost at hp
 rw [He.out] at hp
 obtain ⟨hg1, hk, c, j, hc, rfl, hr1⟩ := hp
 have hkb : (k == 0) = false := by simpa using hk
 obtain ⟨d0, d1, d2, d3, d4, e1, e3, e4⟩ := hr1.cells
 have Hr1 := Lib.hid hr1
 have Hg1 := Lib.hid hg1
 have hlt1 := hr1.lt
 have hsz : w.heap.size < w1.heap.size := by have := hg1.size; simp at this; omega
 clear hr1 hg1
 go_wp2_with (go_at_call 276; refine (span_any _ _ _ (by omega) (by omega)).mono ?_; rintro e w2 ⟨rfl, hb2⟩; obtain ⟨z0, z1, z2, z3, y0, y1, y2, y3⟩ := ((Hz.out.grown Hg1.out (by simpa using hne)).below hb2 hsz).c4)
 go_light
 refine bodyPost_ret (ret_set Tryz.results255 rfl ((Hz.out.grown Hg1.out (by simpa using hne)).below hb2 hsz).set4) rfl ?_
 exact ItemPost.no _ j (only_set4 (only_below (only_trans Hg0.out Hg1.out) hb2) (Nat.le_refl _) _ _ _ _) Hi.out hk rfl ((Hr1.out.below hb2 hlt1).set4 (by omega) _ _ _ _)
theorem item_one (g : Nat) (A : Option Addr) (cap : Nat) (bs : List Nat) (i s : Nat) (B : Nat) (w : World) (hr : Rd w g A cap bs (i : Int) (s : Int) 0 0) (hA : BytesAt w B A bs) (hB : B ≤ g) (hi : i ≤ bs.length) (lo j : Nat) (he : charS bs s i = .ok (lo, j)) (hlo : lo < 256) (hh : hasAt bs (j : Int) 45 = false) : Calls Tryz.prog 255 #[.pointer (some ⟨g, 0, none⟩)] w (ItemPost g A cap bs i s w) := by
 have hlt := hr.lt
 have hne : w.heap.size ≠ g := by omega
 obtain ⟨c0, c1, c2, c3, c4, f1, f3, f4⟩ := hr.cells
 have Hr := Lib.hid (hr.alloc (.cells #[.int .u64 0, .int .u64 0, .int .u64 0, .int .u64 0] 25))
 have HA : Hid (BytesAt (w.alloc (.cells #[.int .u64 0, .int .u64 0, .int .u64 0, .int .u64 0] 25)) B A bs) := hA.below ((Below.refl B w).alloc (by omega) _)
 have Hz : Hid (Blk (w.alloc (.cells #[.int .u64 0, .int .u64 0, .int .u64 0, .int .u64 0] 25)) w.heap.size 25 #[.int .u64 0, .int .u64 0, .int .u64 0, .int .u64 0]) := Blk.new _ _ _
 have Hg0 : Hid (w.grownBy (w.alloc (.cells #[.int .u64 0, .int .u64 0, .int .u64 0, .int .u64 0] 25)) (some g)) := only_alloc (only_refl _ _) _
 have Hl := Lib.hid hA.2.1
 have hl := hA.2.1
 clear hr hA
 have He := Lib.hid he
 have Hh := Lib.hid hh
 have Hi : Hid (itemS bs s i = .ok (lo, lo, j)) := by show itemS bs s i = _; unfold itemS; rw [he]; dsimp only; rw [hh]; rfl
 clear he hh
 go_enter Tryz.func255, Tryz.ntmps255
 go_wp2_with fail
 with_reducible refine (char_go g A cap bs i s B _ Hr.out HA.out hB hi).mono ?_
 rintro e w1 hp
 unfold CharPost at hp
 rw [He.out] at hp
 obtain ⟨hg1, rfl, hr1⟩ := hp
 obtain ⟨d0, d1, d2, d3, d4, e1, e3, e4⟩ := hr1.cells
 have Hr1 := Lib.hid hr1
 have Hg1 := Lib.hid hg1
 have HA1 := Lib.hid (HA.out.only hg1 hB Hr.out.lt)
 have Hz1 : Hid (Blk w1 w.heap.size 25 #[.int .u64 0, .int .u64 0, .int .u64 0, .int .u64 0]) := Hz.out.grown hg1 (by simpa using hne)
 have hlt1 := hr1.lt
 have hsz : w.heap.size < w1.heap.size := by have := hg1.size; simp at this; omega
 clear hr1 hg1
 go_wp2_with (first
  | (go_at_call 254; refine (take_no g A cap bs _ _ _ _ 45 B _ Hr1.out HA1.out (by omega) (by omega) Hh.out).mono ?_; rintro e w2 ⟨rfl, hr2, hg2⟩; have hlt2 := hr2.lt; have Hr2 := Lib.hid hr2; have Hg2 := Lib.hid hg2; clear hr2 hg2; have hsz2 : w.heap.size < w2.heap.size := Nat.lt_of_lt_of_le hsz Hg2.out.size; have Hz2 := Lib.hid (Hz1.out.grown Hg2.out (by simpa using hne)))
  | (go_at_call 276; refine (span_any _ _ _ (by omega) (by omega)).mono ?_; rintro e w3 ⟨rfl, hb3⟩; obtain ⟨z0, z1, z2, z3, y0, y1, y2, y3⟩ := (Hz2.out.below hb3 hsz2).c4))
 go_light
 refine bodyPost_ret (ret_set Tryz.results255 rfl (Hz2.out.below hb3 hsz2).set4) rfl ?_
 exact ItemPost.yes (only_set4 (only_below (only_trans (only_trans Hg0.out Hg1.out) Hg2.out) hb3) (Nat.le_refl _) _ _ _ _) Hi.out rfl ((Hr2.out.below hb3 hlt2).set4 (by omega) _ _ _ _)
theorem item_bad2 (g : Nat) (A : Option Addr) (cap : Nat) (bs : List Nat) (i s : Nat) (B : Nat) (w : World) (hr : Rd w g A cap bs (i : Int) (s : Int) 0 0) (hA : BytesAt w B A bs) (hB : B ≤ g) (hi : i ≤ bs.length) (lo j : Nat) (he : charS bs s i = .ok (lo, j)) (hlo : lo < 256) (hh : hasAt bs (j : Int) 45 = true) (hj : j < bs.length) (k p : Int) (hf : charS bs s (j + 1) = .error (k, p)) : Calls Tryz.prog 255 #[.pointer (some ⟨g, 0, none⟩)] w (ItemPost g A cap bs i s w) := by
 have hlt := hr.lt
 have hne : w.heap.size ≠ g := by omega
 obtain ⟨c0, c1, c2, c3, c4, f1, f3, f4⟩ := hr.cells
 have Hr := Lib.hid (hr.alloc (.cells #[.int .u64 0, .int .u64 0, .int .u64 0, .int .u64 0] 25))
 have HA : Hid (BytesAt (w.alloc (.cells #[.int .u64 0, .int .u64 0, .int .u64 0, .int .u64 0] 25)) B A bs) := hA.below ((Below.refl B w).alloc (by omega) _)
 have Hz : Hid (Blk (w.alloc (.cells #[.int .u64 0, .int .u64 0, .int .u64 0, .int .u64 0] 25)) w.heap.size 25 #[.int .u64 0, .int .u64 0, .int .u64 0, .int .u64 0]) := Blk.new _ _ _
 have Hg0 : Hid (w.grownBy (w.alloc (.cells #[.int .u64 0, .int .u64 0, .int .u64 0, .int .u64 0] 25)) (some g)) := only_alloc (only_refl _ _) _
 have Hl := Lib.hid hA.2.1
 have hl := hA.2.1
 clear hr hA
 have He := Lib.hid he
 have Hh := Lib.hid hh
 have Hf := Lib.hid hf
 have Hi : Hid (itemS bs s i = .error (k, p)) := by show itemS bs s i = _; unfold itemS; rw [he]; dsimp only; rw [hh, hf]; rfl
 clear he hh hf
 go_enter Tryz.func255, Tryz.ntmps255
 go_wp2_with fail
 with_reducible refine (char_go g A cap bs i s B _ Hr.out HA.out hB hi).mono ?_
 rintro e w1 hp
 unfold CharPost at hp
 rw [He.out] at hp
 obtain ⟨hg1, rfl, hr1⟩ := hp
 obtain ⟨d0, d1, d2, d3, d4, e1, e3, e4⟩ := hr1.cells
 have Hr1 := Lib.hid hr1
 have Hg1 := Lib.hid hg1
 have HA1 := Lib.hid (HA.out.only hg1 hB Hr.out.lt)
 have Hz1 : Hid (Blk w1 w.heap.size 25 #[.int .u64 0, .int .u64 0, .int .u64 0, .int .u64 0]) := Hz.out.grown hg1 (by simpa using hne)
 have hlt1 := hr1.lt
 have hsz : w.heap.size < w1.heap.size := by have := hg1.size; simp at this; omega
 clear hr1 hg1
 go_wp2_with fail
 refine (take_yes g A cap bs _ _ _ _ 45 B _ Hr1.out HA1.out (by omega) (by omega) Hh.out).mono ?_
 rintro e w2 ⟨rfl, hr2, hg2⟩
 have Hg2 := Lib.hid hg2
 have HA2 := Lib.hid (HA1.out.only hg2 hB hlt1)
 have hlt2 := hr2.lt
 have Hr2 : Hid (Rd w2 g A cap bs ((j + 1 : Nat) : Int) (s : Int) 0 0) := by show Rd _ _ _ _ _ _ _ _ _; rw [show ((j + 1 : Nat) : Int) = (j : Int) + 1 by omega]; exact hr2
 have Hz2 := Lib.hid (Hz1.out.grown hg2 (by simpa using hne))
 clear hr2 hg2
 go_wp2_with fail
 with_reducible refine (char_go g A cap bs (j + 1) s B _ Hr2.out HA2.out hB (by omega)).mono ?_
 rintro e w3 hp
 unfold CharPost at hp
 rw [Hf.out] at hp
 obtain ⟨hg3, hk, c, j', hc, rfl, hr3⟩ := hp
 have hkn : k ≠ 0 := hk
 have Hg3 := Lib.hid hg3
 have Hr3 := Lib.hid hr3
 have hlt3 := hr3.lt
 have Hz3 := Lib.hid (Hz2.out.grown hg3 (by simpa using hne))
 have hsz3 := Hz3.out.lt
 clear hr3 hg3
 by_cases hcl : c < lo
 ·go_wp2_with (first
   | (go_at_call 272; refine (fail1_go g A cap bs _ _ _ _ _ _ _ Hr3.out hkn).mono ?_; rintro e w4 ⟨rfl, hr4, hg4⟩; have Hr4 := Lib.hid hr4; have Hg4 := Lib.hid hg4; have hlt4 := hr4.lt; have Hz4 := Lib.hid (Hz3.out.grown hg4 (by simpa using hne)); have hsz4 := Hz4.out.lt; clear hr4 hg4)
   | (go_at_call 276; refine (span_any _ _ _ (by omega) (by omega)).mono ?_; rintro e w5 ⟨rfl, hb5⟩; obtain ⟨z0, z1, z2, z3, y0, y1, y2, y3⟩ := (Hz4.out.below hb5 hsz4).c4))
  go_light
  refine bodyPost_ret (ret_set Tryz.results255 rfl (Hz4.out.below hb5 hsz4).set4) rfl ?_
  exact ItemPost.no _ j' (only_set4 (only_below (only_trans (only_trans (only_trans (only_trans Hg0.out Hg1.out) Hg2.out) Hg3.out) Hg4.out) hb5) (Nat.le_refl _) _ _ _ _) Hi.out hkn rfl ((Hr4.out.below hb5 hlt4).set4 (by omega) _ _ _ _)
 ·go_wp2_with (go_at_call 276; refine (span_any _ _ _ (by omega) (by omega)).mono ?_; rintro e w5 ⟨rfl, hb5⟩; obtain ⟨z0, z1, z2, z3, y0, y1, y2, y3⟩ := (Hz3.out.below hb5 hsz3).c4)
  go_light
  refine bodyPost_ret (ret_set Tryz.results255 rfl (Hz3.out.below hb5 hsz3).set4) rfl ?_
  exact ItemPost.no _ j' (only_set4 (only_below (only_trans (only_trans (only_trans Hg0.out Hg1.out) Hg2.out) Hg3.out) hb5) (Nat.le_refl _) _ _ _ _) Hi.out hkn rfl ((Hr3.out.below hb5 hlt3).set4 (by omega) _ _ _ _)
theorem item_two (g : Nat) (A : Option Addr) (cap : Nat) (bs : List Nat) (i s : Nat) (B : Nat) (w : World) (hr : Rd w g A cap bs (i : Int) (s : Int) 0 0) (hA : BytesAt w B A bs) (hB : B ≤ g) (hi : i ≤ bs.length) (lo j : Nat) (he : charS bs s i = .ok (lo, j)) (hlo : lo < 256) (hh : hasAt bs (j : Int) 45 = true) (hj : j < bs.length) (hi' j' : Nat) (hf : charS bs s (j + 1) = .ok (hi', j')) (hhi : hi' < 256) : Calls Tryz.prog 255 #[.pointer (some ⟨g, 0, none⟩)] w (ItemPost g A cap bs i s w) := by
 have hlt := hr.lt
 have hne : w.heap.size ≠ g := by omega
 obtain ⟨c0, c1, c2, c3, c4, f1, f3, f4⟩ := hr.cells
 have Hr := Lib.hid (hr.alloc (.cells #[.int .u64 0, .int .u64 0, .int .u64 0, .int .u64 0] 25))
 have HA : Hid (BytesAt (w.alloc (.cells #[.int .u64 0, .int .u64 0, .int .u64 0, .int .u64 0] 25)) B A bs) := hA.below ((Below.refl B w).alloc (by omega) _)
 have Hz : Hid (Blk (w.alloc (.cells #[.int .u64 0, .int .u64 0, .int .u64 0, .int .u64 0] 25)) w.heap.size 25 #[.int .u64 0, .int .u64 0, .int .u64 0, .int .u64 0]) := Blk.new _ _ _
 have Hg0 : Hid (w.grownBy (w.alloc (.cells #[.int .u64 0, .int .u64 0, .int .u64 0, .int .u64 0] 25)) (some g)) := only_alloc (only_refl _ _) _
 have Hl := Lib.hid hA.2.1
 have hl := hA.2.1
 clear hr hA
 have He := Lib.hid he
 have Hh := Lib.hid hh
 have Hf := Lib.hid hf
 have Hi : Hid (itemS bs s i = if hi' < lo then .error (15, (i : Int)) else .ok (lo, hi', j')) := by show itemS bs s i = _; unfold itemS; rw [he]; dsimp only; rw [hh, hf]; rfl
 clear he hh hf
 go_enter Tryz.func255, Tryz.ntmps255
 go_wp2_with fail
 with_reducible refine (char_go g A cap bs i s B _ Hr.out HA.out hB hi).mono ?_
 rintro e w1 hp
 unfold CharPost at hp
 rw [He.out] at hp
 obtain ⟨hg1, rfl, hr1⟩ := hp
 obtain ⟨d0, d1, d2, d3, d4, e1, e3, e4⟩ := hr1.cells
 have Hr1 := Lib.hid hr1
 have Hg1 := Lib.hid hg1
 have HA1 := Lib.hid (HA.out.only hg1 hB Hr.out.lt)
 have Hz1 : Hid (Blk w1 w.heap.size 25 #[.int .u64 0, .int .u64 0, .int .u64 0, .int .u64 0]) := Hz.out.grown hg1 (by simpa using hne)
 have hlt1 := hr1.lt
 have hsz : w.heap.size < w1.heap.size := by have := hg1.size; simp at this; omega
 clear hr1 hg1
 go_wp2_with fail
 refine (take_yes g A cap bs _ _ _ _ 45 B _ Hr1.out HA1.out (by omega) (by omega) Hh.out).mono ?_
 rintro e w2 ⟨rfl, hr2, hg2⟩
 have Hg2 := Lib.hid hg2
 have HA2 := Lib.hid (HA1.out.only hg2 hB hlt1)
 have hlt2 := hr2.lt
 have Hr2 : Hid (Rd w2 g A cap bs ((j + 1 : Nat) : Int) (s : Int) 0 0) := by show Rd _ _ _ _ _ _ _ _ _; rw [show ((j + 1 : Nat) : Int) = (j : Int) + 1 by omega]; exact hr2
 have Hz2 := Lib.hid (Hz1.out.grown hg2 (by simpa using hne))
 clear hr2 hg2
 go_wp2_with fail
 with_reducible refine (char_go g A cap bs (j + 1) s B _ Hr2.out HA2.out hB (by omega)).mono ?_
 rintro e w3 hp
 unfold CharPost at hp
 rw [Hf.out] at hp
 obtain ⟨hg3, rfl, hr3⟩ := hp
 have Hg3 := Lib.hid hg3
 have Hr3 := Lib.hid hr3
 have hlt3 := hr3.lt
 have Hz3 := Lib.hid (Hz2.out.grown hg3 (by simpa using hne))
 have hsz3 := Hz3.out.lt
 clear hr3 hg3
 by_cases hcl : hi' < lo
 ·go_wp2_with (first
   | (go_at_call 272; refine (fail0_go g A cap bs _ _ _ _ _ _ Hr3.out).mono ?_; rintro e w4 ⟨rfl, hr4, hg4⟩; have Hr4 := Lib.hid hr4; have Hg4 := Lib.hid hg4; have hlt4 := hr4.lt; have Hz4 := Lib.hid (Hz3.out.grown hg4 (by simpa using hne)); have hsz4 := Hz4.out.lt; clear hr4 hg4)
   | (go_at_call 276; refine (span_any _ _ _ (by omega) (by omega)).mono ?_; rintro e w5 ⟨rfl, hb5⟩; obtain ⟨z0, z1, z2, z3, y0, y1, y2, y3⟩ := (Hz4.out.below hb5 hsz4).c4))
  go_light
  refine bodyPost_ret (ret_set Tryz.results255 rfl (Hz4.out.below hb5 hsz4).set4) rfl ?_
  exact ItemPost.no _ j' (only_set4 (only_below (only_trans (only_trans (only_trans (only_trans Hg0.out Hg1.out) Hg2.out) Hg3.out) Hg4.out) hb5) (Nat.le_refl _) _ _ _ _) (by rw [Hi.out, if_pos hcl]) (by decide) rfl ((Hr4.out.below hb5 hlt4).set4 (by omega) _ _ _ _)
 ·go_wp2_with (go_at_call 276; refine (span_any _ _ _ (by omega) (by omega)).mono ?_; rintro e w5 ⟨rfl, hb5⟩; obtain ⟨z0, z1, z2, z3, y0, y1, y2, y3⟩ := (Hz3.out.below hb5 hsz3).c4)
  go_light
  refine bodyPost_ret (ret_set Tryz.results255 rfl (Hz3.out.below hb5 hsz3).set4) rfl ?_
  exact ItemPost.yes (only_set4 (only_below (only_trans (only_trans (only_trans Hg0.out Hg1.out) Hg2.out) Hg3.out) hb5) (Nat.le_refl _) _ _ _ _) (by rw [Hi.out, if_neg hcl]) rfl ((Hr3.out.below hb5 hlt3).set4 (by omega) _ _ _ _)
theorem item_go (g : Nat) (A : Option Addr) (cap : Nat) (bs : List Nat) (i s : Nat) (B : Nat) (w : World) (hr : Rd w g A cap bs (i : Int) (s : Int) 0 0) (hA : BytesAt w B A bs) (hB : B ≤ g) (hi : i ≤ bs.length) : Calls Tryz.prog 255 #[.pointer (some ⟨g, 0, none⟩)] w (ItemPost g A cap bs i s w) := by
 cases he : charS bs s i with
 | error x => obtain ⟨k, p⟩ := x; exact item_bad1 g A cap bs i s B w hr hA hB hi k p he
 | ok x =>
  obtain ⟨lo, j⟩ := x
  obtain ⟨a1, a2, a3⟩ := charS_ok hA.1 he
  cases hh : hasAt bs (j : Int) 45 with
  | false => exact item_one g A cap bs i s B w hr hA hB hi lo j he a3 hh
  | true =>
   obtain ⟨j', e', hj, _⟩ := hasAt_yes hh
   obtain rfl : j = j' := by omega
   cases hf : charS bs s (j + 1) with
   | error y => obtain ⟨k, p⟩ := y; exact item_bad2 g A cap bs i s B w hr hA hB hi lo j he a3 hh hj k p hf
   | ok y =>
    obtain ⟨hi', j'⟩ := y
    exact item_two g A cap bs i s B w hr hA hB hi lo j he a3 hh hj hi' j' hf (charS_ok hA.1 hf).2.2
end Go.Proofs.YtfekpkelmliejaaGreatDoor
