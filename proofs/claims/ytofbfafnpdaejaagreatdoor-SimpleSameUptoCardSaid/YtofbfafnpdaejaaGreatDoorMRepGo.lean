/- Texts of the claim. -/
import Derived.Test.YtofbfafnpdaejaaGreatDoorMZ05
set_option linter.all false
set_option maxRecDepth 100000
set_option maxHeartbeats 8000000
namespace Go.Proofs.YtofbfafnpdaejaaGreatDoor
open Go.RowKit
def Stepped (S b o len cap : Nat) (N : Nat) (L : List Lex) (r : Except Wrong (Lex × Nat)) (W : World) (e : Ending) (W' : World) : Prop :=
 match r with
 | .ok (x, j) => Took S b o len cap N L x (j : Int) 0 0 W e W'
 | .error (k, q) => Wronged S b o len cap N k q W e W'
theorem srep_go (S b o cap : Nat) (bs : List Nat) (i : Nat) (v : Value) (N : Nat) (L : List Lex) (W : World) (hS : Spl W S b o bs.length cap i v 0 0) (hrow : W.ownsRow N 143 8 v L.length (lexCells L)) (hN : N ≤ S) (hL : L.length ≤ 100000)
  (hA : BytesAt W N (some ⟨b, o, none⟩) bs) (h0 : i < bs.length) (hcap : bs.length ≤ cap) (hlen : bs.length ≤ 65536) :
  Calls Tryz.prog 192 #[.pointer (some ⟨S, 0, none⟩)] W (Stepped S b o bs.length cap N L (repS bs i) W) := by
 cases ht : takeS bs (i + 1) with
 | none =>
  have HV := Lib.hid (show repS bs i = .error (16, (i : Int)) by unfold repS; rw [ht])
  obtain ⟨s0, s1, s2, s3, s4, f0, f1, f2, f3, f4⟩ := hS.cells
  have hlt := Blk.lt hS
  have hl := hA.2.1
  have hb0 := Below.refl N W
  have hNW : N ≤ W.heap.size := by omega
  have hB1 := (hb0.alloc hNW (.cells #[.pointer (some ⟨S, 0, none⟩)] 209)).alloc (by simp; omega) (.cells #[.int .i64 ((i : Int) + 1)] 3)
  have hC : Ctx N S W.heap.size (W.heap.size + 1) b o cap bs i v L W (i + 1) ((W.alloc (.cells #[.pointer (some ⟨S, 0, none⟩)] 209)).alloc (.cells #[.int .i64 ((i : Int) + 1)] 3)) :=
   ⟨((Blk.new W 209 #[.pointer (some ⟨S, 0, none⟩)]).alloc _).cell 0, Blk.new_at (by simp), Blk.alloc (Blk.alloc hS _) _, (hrow.alloc _).alloc _, hA.below hB1, hB1, hN, by omega, by omega, by omega, hcap⟩
  have HC := Lib.hid hC
  clear hC hB1 hb0 hS hrow hA s0 s2 s3 s4 f0 f1 f2 f3 f4
  go_enter Tryz.func192, Tryz.ntmps192
  go_wp2_with fail
  refine (num_no HC.out (by omega) ht).mono ?_
  rintro e w1 ⟨rfl, hcw1⟩
  have Hw1 := Lib.hid hcw1
  obtain ⟨c0, c1, c2, f1, l0, l1, l2, l3⟩ := hcw1.facts
  clear hcw1
  go_wp2_with fail
  refine (sfail_go S b o bs.length cap i v 0 0 N 16 _ Hw1.out.hS hN).mono ?_
  rintro e w9 ⟨rfl, hb9, hs9⟩
  have HB9 := Lib.hid (Hw1.out.hB.trans hb9)
  have HS9 := Lib.hid hs9
  clear hb9 hs9
  go_wp2
  go_light
  go_end0
  rw [HV.out]
  exact ⟨rfl, HB9.out, _, _, HS9.out⟩
 | some x =>
  obtain ⟨lo, j⟩ := x
  have hj := takeS_some ht
  cases h44 : hasAt bs (j : Int) 44
  ·have H44 := Lib.hid h44
   cases h125 : hasAt bs (j : Int) 125
   ·have H125 := Lib.hid h125
    have HV := Lib.hid (show repS bs i = .error (16, (i : Int)) by unfold repS; rw [ht]; dsimp only; rw [h44, h125]; rfl)
    have Ht := Lib.hid ht
    clear ht h44 h125
    obtain ⟨s0, s1, s2, s3, s4, f0, f1, f2, f3, f4⟩ := hS.cells
    have hlt := Blk.lt hS
    have hl := hA.2.1
    have hb0 := Below.refl N W
    have hNW : N ≤ W.heap.size := by omega
    have hB1 := (hb0.alloc hNW (.cells #[.pointer (some ⟨S, 0, none⟩)] 209)).alloc (by simp; omega) (.cells #[.int .i64 ((i : Int) + 1)] 3)
    have hC : Ctx N S W.heap.size (W.heap.size + 1) b o cap bs i v L W (i + 1) ((W.alloc (.cells #[.pointer (some ⟨S, 0, none⟩)] 209)).alloc (.cells #[.int .i64 ((i : Int) + 1)] 3)) :=
     ⟨((Blk.new W 209 #[.pointer (some ⟨S, 0, none⟩)]).alloc _).cell 0, Blk.new_at (by simp), Blk.alloc (Blk.alloc hS _) _, (hrow.alloc _).alloc _, hA.below hB1, hB1, hN, by omega, by omega, by omega, hcap⟩
    have HC := Lib.hid hC
    clear hC hB1 hb0 hS hrow hA s0 s2 s3 s4 f0 f1 f2 f3 f4
    go_enter Tryz.func192, Tryz.ntmps192
    go_wp2_with fail
    refine (num_yes HC.out (by omega) Ht.out).mono ?_
    rintro e w1 ⟨rfl, hcw1⟩
    have Hw1 := Lib.hid hcw1
    obtain ⟨c0, c1, c2, f1, l0, l1, l2, l3⟩ := hcw1.facts
    clear hcw1
    go_wp2_with fail
    refine (sphere_go Hw1.out 44).mono ?_
    rintro e w2 ⟨rfl, hcw2⟩
    have Hw2 := Lib.hid hcw2
    obtain ⟨c0, c1, c2, f1, l0, l1, l2, l3⟩ := hcw2.facts
    clear hcw2
    rw [H44.out]
    go_wp2_with fail
    refine (sphere_go Hw2.out 125).mono ?_
    rintro e w3 ⟨rfl, hcw3⟩
    have Hw3 := Lib.hid hcw3
    obtain ⟨c0, c1, c2, f1, l0, l1, l2, l3⟩ := hcw3.facts
    clear hcw3
    rw [H125.out]
    go_wp2_with fail
    refine (sfail_go S b o bs.length cap i v 0 0 N 16 _ Hw3.out.hS hN).mono ?_
    rintro e w9 ⟨rfl, hb9, hs9⟩
    have HB9 := Lib.hid (Hw3.out.hB.trans hb9)
    have HS9 := Lib.hid hs9
    clear hb9 hs9
    go_wp2
    go_light
    go_end0
    rw [HV.out]
    exact ⟨rfl, HB9.out, _, _, HS9.out⟩
   ·have H125 := Lib.hid h125
    have HV := Lib.hid (show repS bs i = .ok (⟨8, (i : Int), noSet, (lo : Int), (lo : Int)⟩, j + 1) by unfold repS; rw [ht]; dsimp only; rw [h44, h125]; rfl)
    have Ht := Lib.hid ht
    clear ht h44 h125
    obtain ⟨s0, s1, s2, s3, s4, f0, f1, f2, f3, f4⟩ := hS.cells
    have hlt := Blk.lt hS
    have hl := hA.2.1
    have hb0 := Below.refl N W
    have hNW : N ≤ W.heap.size := by omega
    have hB1 := (hb0.alloc hNW (.cells #[.pointer (some ⟨S, 0, none⟩)] 209)).alloc (by simp; omega) (.cells #[.int .i64 ((i : Int) + 1)] 3)
    have hC : Ctx N S W.heap.size (W.heap.size + 1) b o cap bs i v L W (i + 1) ((W.alloc (.cells #[.pointer (some ⟨S, 0, none⟩)] 209)).alloc (.cells #[.int .i64 ((i : Int) + 1)] 3)) :=
     ⟨((Blk.new W 209 #[.pointer (some ⟨S, 0, none⟩)]).alloc _).cell 0, Blk.new_at (by simp), Blk.alloc (Blk.alloc hS _) _, (hrow.alloc _).alloc _, hA.below hB1, hB1, hN, by omega, by omega, by omega, hcap⟩
    have HC := Lib.hid hC
    clear hC hB1 hb0 hS hrow hA s0 s2 s3 s4 f0 f1 f2 f3 f4
    go_enter Tryz.func192, Tryz.ntmps192
    go_wp2_with fail
    refine (num_yes HC.out (by omega) Ht.out).mono ?_
    rintro e w1 ⟨rfl, hcw1⟩
    have Hw1 := Lib.hid hcw1
    obtain ⟨c0, c1, c2, f1, l0, l1, l2, l3⟩ := hcw1.facts
    clear hcw1
    go_wp2_with fail
    refine (sphere_go Hw1.out 44).mono ?_
    rintro e w2 ⟨rfl, hcw2⟩
    have Hw2 := Lib.hid hcw2
    obtain ⟨c0, c1, c2, f1, l0, l1, l2, l3⟩ := hcw2.facts
    clear hcw2
    rw [H44.out]
    go_wp2_with fail
    refine (sphere_go Hw2.out 125).mono ?_
    rintro e w3 ⟨rfl, hcw3⟩
    have Hw3 := Lib.hid hcw3
    obtain ⟨c0, c1, c2, f1, l0, l1, l2, l3⟩ := hcw3.facts
    clear hcw3
    rw [H125.out]
    go_wp2_with fail
    refine (put_no S b o bs.length cap i v 0 0 N L 8 0 (lo : Int) (lo : Int) _ _ Hw3.out.hS Hw3.out.hrow hN hL).mono ?_
    rintro e w9 ⟨rfl, hb9, hv9⟩
    have HB9 := Lib.hid (Hw3.out.hB.trans hb9)
    have HV9 := Lib.hid hv9
    clear hb9 hv9
    go_wp2
    go_light
    go_end0
    rw [HV.out]
    exact ⟨rfl, HB9.out, HV9.out⟩
  ·have H44 := Lib.hid h44
   have hj1 : j + 1 ≤ bs.length := by obtain ⟨n, hn, hn2, _⟩ := hasAt_yes h44; omega
   cases h125 : hasAt bs ((j : Int) + 1) 125
   ·have H125 := Lib.hid (show hasAt bs ((j + 1 : Nat) : Int) 125 = false from h125)
    cases ht2 : takeS bs (j + 1) with
    | none =>
     have HV := Lib.hid (show repS bs i = .error (16, (i : Int)) by unfold repS; simp [ht, h44, h125, ht2])
     have Ht := Lib.hid ht
     have Ht2 := Lib.hid ht2
     clear ht h44 h125 ht2
     obtain ⟨s0, s1, s2, s3, s4, f0, f1, f2, f3, f4⟩ := hS.cells
     have hlt := Blk.lt hS
     have hl := hA.2.1
     have hb0 := Below.refl N W
     have hNW : N ≤ W.heap.size := by omega
     have hB1 := (hb0.alloc hNW (.cells #[.pointer (some ⟨S, 0, none⟩)] 209)).alloc (by simp; omega) (.cells #[.int .i64 ((i : Int) + 1)] 3)
     have hC : Ctx N S W.heap.size (W.heap.size + 1) b o cap bs i v L W (i + 1) ((W.alloc (.cells #[.pointer (some ⟨S, 0, none⟩)] 209)).alloc (.cells #[.int .i64 ((i : Int) + 1)] 3)) :=
      ⟨((Blk.new W 209 #[.pointer (some ⟨S, 0, none⟩)]).alloc _).cell 0, Blk.new_at (by simp), Blk.alloc (Blk.alloc hS _) _, (hrow.alloc _).alloc _, hA.below hB1, hB1, hN, by omega, by omega, by omega, hcap⟩
     have HC := Lib.hid hC
     clear hC hB1 hb0 hS hrow hA s0 s2 s3 s4 f0 f1 f2 f3 f4
     go_enter Tryz.func192, Tryz.ntmps192
     go_wp2_with fail
     refine (num_yes HC.out (by omega) Ht.out).mono ?_
     rintro e w1 ⟨rfl, hcw1⟩
     have Hw1 := Lib.hid hcw1
     obtain ⟨c0, c1, c2, f1, l0, l1, l2, l3⟩ := hcw1.facts
     clear hcw1
     go_wp2_with fail
     refine (sphere_go Hw1.out 44).mono ?_
     rintro e w2 ⟨rfl, hcw2⟩
     have Hw2 := Lib.hid hcw2
     obtain ⟨c0, c1, c2, f1, l0, l1, l2, l3⟩ := hcw2.facts
     clear hcw2
     rw [H44.out]
     have hw2s : Ctx N S W.heap.size (W.heap.size + 1) b o cap bs i v L W (j + 1) (w2.setCell ⟨W.heap.size + 1, 0, none⟩ (.int .i64 ((j : Int) + 1))) := Hw2.out.set_ (j + 1)
     have Hw2s := Lib.hid hw2s
     clear hw2s
     go_wp2_with fail
     refine (sphere_go Hw2s.out 125).mono ?_
     rintro e w3 ⟨rfl, hcw3⟩
     have Hw3 := Lib.hid hcw3
     obtain ⟨c0, c1, c2, f1, l0, l1, l2, l3⟩ := hcw3.facts
     clear hcw3
     rw [H125.out]
     go_wp2_with fail
     refine (num_no Hw3.out hj1 Ht2.out).mono ?_
     rintro e w4 ⟨rfl, hcw4⟩
     have Hw4 := Lib.hid hcw4
     obtain ⟨c0, c1, c2, f1, l0, l1, l2, l3⟩ := hcw4.facts
     clear hcw4
     go_wp2_with fail
     refine (sfail_go S b o bs.length cap i v 0 0 N 16 _ Hw4.out.hS hN).mono ?_
     rintro e w9 ⟨rfl, hb9, hs9⟩
     have HB9 := Lib.hid (Hw4.out.hB.trans hb9)
     have HS9 := Lib.hid hs9
     clear hb9 hs9
     go_wp2
     go_light
     go_end0
     rw [HV.out]
     exact ⟨rfl, HB9.out, _, _, HS9.out⟩
    | some y =>
     obtain ⟨hi, k⟩ := y
     have hk := takeS_some ht2
     have Ht := Lib.hid ht
     have Ht2 := Lib.hid ht2
     cases h3 : hasAt bs (k : Int) 125
     ·have HV := Lib.hid (show repS bs i = .error (16, (i : Int)) by unfold repS; simp [ht, h44, h125, ht2, h3])
      have H3 := Lib.hid h3
      clear ht h44 h125 ht2 h3
      obtain ⟨s0, s1, s2, s3, s4, f0, f1, f2, f3, f4⟩ := hS.cells
      have hlt := Blk.lt hS
      have hl := hA.2.1
      have hb0 := Below.refl N W
      have hNW : N ≤ W.heap.size := by omega
      have hB1 := (hb0.alloc hNW (.cells #[.pointer (some ⟨S, 0, none⟩)] 209)).alloc (by simp; omega) (.cells #[.int .i64 ((i : Int) + 1)] 3)
      have hC : Ctx N S W.heap.size (W.heap.size + 1) b o cap bs i v L W (i + 1) ((W.alloc (.cells #[.pointer (some ⟨S, 0, none⟩)] 209)).alloc (.cells #[.int .i64 ((i : Int) + 1)] 3)) :=
       ⟨((Blk.new W 209 #[.pointer (some ⟨S, 0, none⟩)]).alloc _).cell 0, Blk.new_at (by simp), Blk.alloc (Blk.alloc hS _) _, (hrow.alloc _).alloc _, hA.below hB1, hB1, hN, by omega, by omega, by omega, hcap⟩
      have HC := Lib.hid hC
      clear hC hB1 hb0 hS hrow hA s0 s2 s3 s4 f0 f1 f2 f3 f4
      go_enter Tryz.func192, Tryz.ntmps192
      go_wp2_with fail
      refine (num_yes HC.out (by omega) Ht.out).mono ?_
      rintro e w1 ⟨rfl, hcw1⟩
      have Hw1 := Lib.hid hcw1
      obtain ⟨c0, c1, c2, f1, l0, l1, l2, l3⟩ := hcw1.facts
      clear hcw1
      go_wp2_with fail
      refine (sphere_go Hw1.out 44).mono ?_
      rintro e w2 ⟨rfl, hcw2⟩
      have Hw2 := Lib.hid hcw2
      obtain ⟨c0, c1, c2, f1, l0, l1, l2, l3⟩ := hcw2.facts
      clear hcw2
      rw [H44.out]
      have hw2s : Ctx N S W.heap.size (W.heap.size + 1) b o cap bs i v L W (j + 1) (w2.setCell ⟨W.heap.size + 1, 0, none⟩ (.int .i64 ((j : Int) + 1))) := Hw2.out.set_ (j + 1)
      have Hw2s := Lib.hid hw2s
      clear hw2s
      go_wp2_with fail
      refine (sphere_go Hw2s.out 125).mono ?_
      rintro e w3 ⟨rfl, hcw3⟩
      have Hw3 := Lib.hid hcw3
      obtain ⟨c0, c1, c2, f1, l0, l1, l2, l3⟩ := hcw3.facts
      clear hcw3
      rw [H125.out]
      go_wp2_with fail
      refine (num_yes Hw3.out hj1 Ht2.out).mono ?_
      rintro e w4 ⟨rfl, hcw4⟩
      have Hw4 := Lib.hid hcw4
      obtain ⟨c0, c1, c2, f1, l0, l1, l2, l3⟩ := hcw4.facts
      clear hcw4
      go_wp2_with fail
      refine (sphere_go Hw4.out 125).mono ?_
      rintro e w5 ⟨rfl, hcw5⟩
      have Hw5 := Lib.hid hcw5
      obtain ⟨c0, c1, c2, f1, l0, l1, l2, l3⟩ := hcw5.facts
      clear hcw5
      rw [H3.out]
      go_wp2_with fail
      refine (sfail_go S b o bs.length cap i v 0 0 N 16 _ Hw5.out.hS hN).mono ?_
      rintro e w9 ⟨rfl, hb9, hs9⟩
      have HB9 := Lib.hid (Hw5.out.hB.trans hb9)
      have HS9 := Lib.hid hs9
      clear hb9 hs9
      go_wp2
      go_light
      go_end0
      rw [HV.out]
      exact ⟨rfl, HB9.out, _, _, HS9.out⟩
     ·have H3 := Lib.hid h3
      by_cases hlt2 : hi < lo
      ·have HV := Lib.hid (show repS bs i = .error (15, (i : Int)) by unfold repS; simp [ht, h44, h125, ht2, h3, hlt2])
       have hd : decide ((hi : Int) < (lo : Int)) = true := by simp; omega
       have hd0 : decide ((0 : Int) ≤ (hi : Int)) = true := by simp
       clear ht h44 h125 ht2 h3
       obtain ⟨s0, s1, s2, s3, s4, f0, f1, f2, f3, f4⟩ := hS.cells
       have hlt := Blk.lt hS
       have hl := hA.2.1
       have hb0 := Below.refl N W
       have hNW : N ≤ W.heap.size := by omega
       have hB1 := (hb0.alloc hNW (.cells #[.pointer (some ⟨S, 0, none⟩)] 209)).alloc (by simp; omega) (.cells #[.int .i64 ((i : Int) + 1)] 3)
       have hC : Ctx N S W.heap.size (W.heap.size + 1) b o cap bs i v L W (i + 1) ((W.alloc (.cells #[.pointer (some ⟨S, 0, none⟩)] 209)).alloc (.cells #[.int .i64 ((i : Int) + 1)] 3)) :=
        ⟨((Blk.new W 209 #[.pointer (some ⟨S, 0, none⟩)]).alloc _).cell 0, Blk.new_at (by simp), Blk.alloc (Blk.alloc hS _) _, (hrow.alloc _).alloc _, hA.below hB1, hB1, hN, by omega, by omega, by omega, hcap⟩
       have HC := Lib.hid hC
       clear hC hB1 hb0 hS hrow hA s0 s2 s3 s4 f0 f1 f2 f3 f4
       go_enter Tryz.func192, Tryz.ntmps192
       go_wp2_with fail
       refine (num_yes HC.out (by omega) Ht.out).mono ?_
       rintro e w1 ⟨rfl, hcw1⟩
       have Hw1 := Lib.hid hcw1
       obtain ⟨c0, c1, c2, f1, l0, l1, l2, l3⟩ := hcw1.facts
       clear hcw1
       go_wp2_with fail
       refine (sphere_go Hw1.out 44).mono ?_
       rintro e w2 ⟨rfl, hcw2⟩
       have Hw2 := Lib.hid hcw2
       obtain ⟨c0, c1, c2, f1, l0, l1, l2, l3⟩ := hcw2.facts
       clear hcw2
       rw [H44.out]
       have hw2s : Ctx N S W.heap.size (W.heap.size + 1) b o cap bs i v L W (j + 1) (w2.setCell ⟨W.heap.size + 1, 0, none⟩ (.int .i64 ((j : Int) + 1))) := Hw2.out.set_ (j + 1)
       have Hw2s := Lib.hid hw2s
       clear hw2s
       go_wp2_with fail
       refine (sphere_go Hw2s.out 125).mono ?_
       rintro e w3 ⟨rfl, hcw3⟩
       have Hw3 := Lib.hid hcw3
       obtain ⟨c0, c1, c2, f1, l0, l1, l2, l3⟩ := hcw3.facts
       clear hcw3
       rw [H125.out]
       go_wp2_with fail
       refine (num_yes Hw3.out hj1 Ht2.out).mono ?_
       rintro e w4 ⟨rfl, hcw4⟩
       have Hw4 := Lib.hid hcw4
       obtain ⟨c0, c1, c2, f1, l0, l1, l2, l3⟩ := hcw4.facts
       clear hcw4
       go_wp2_with fail
       refine (sphere_go Hw4.out 125).mono ?_
       rintro e w5 ⟨rfl, hcw5⟩
       have Hw5 := Lib.hid hcw5
       obtain ⟨c0, c1, c2, f1, l0, l1, l2, l3⟩ := hcw5.facts
       clear hcw5
       rw [H3.out]
       go_wp2_with fail
       refine (sfail_go S b o bs.length cap i v 0 0 N 15 _ Hw5.out.hS hN).mono ?_
       rintro e w9 ⟨rfl, hb9, hs9⟩
       have HB9 := Lib.hid (Hw5.out.hB.trans hb9)
       have HS9 := Lib.hid hs9
       clear hb9 hs9
       go_wp2
       go_light
       go_end0
       rw [HV.out]
       exact ⟨rfl, HB9.out, _, _, HS9.out⟩
      ·have HV := Lib.hid (show repS bs i = .ok (⟨8, (i : Int), noSet, (lo : Int), (hi : Int)⟩, k + 1) by unfold repS; simp [ht, h44, h125, ht2, h3, hlt2])
       have hd : decide ((hi : Int) < (lo : Int)) = false := by simp; omega
       have hd0 : decide ((0 : Int) ≤ (hi : Int)) = true := by simp
       clear ht h44 h125 ht2 h3
       obtain ⟨s0, s1, s2, s3, s4, f0, f1, f2, f3, f4⟩ := hS.cells
       have hlt := Blk.lt hS
       have hl := hA.2.1
       have hb0 := Below.refl N W
       have hNW : N ≤ W.heap.size := by omega
       have hB1 := (hb0.alloc hNW (.cells #[.pointer (some ⟨S, 0, none⟩)] 209)).alloc (by simp; omega) (.cells #[.int .i64 ((i : Int) + 1)] 3)
       have hC : Ctx N S W.heap.size (W.heap.size + 1) b o cap bs i v L W (i + 1) ((W.alloc (.cells #[.pointer (some ⟨S, 0, none⟩)] 209)).alloc (.cells #[.int .i64 ((i : Int) + 1)] 3)) :=
        ⟨((Blk.new W 209 #[.pointer (some ⟨S, 0, none⟩)]).alloc _).cell 0, Blk.new_at (by simp), Blk.alloc (Blk.alloc hS _) _, (hrow.alloc _).alloc _, hA.below hB1, hB1, hN, by omega, by omega, by omega, hcap⟩
       have HC := Lib.hid hC
       clear hC hB1 hb0 hS hrow hA s0 s2 s3 s4 f0 f1 f2 f3 f4
       go_enter Tryz.func192, Tryz.ntmps192
       go_wp2_with fail
       refine (num_yes HC.out (by omega) Ht.out).mono ?_
       rintro e w1 ⟨rfl, hcw1⟩
       have Hw1 := Lib.hid hcw1
       obtain ⟨c0, c1, c2, f1, l0, l1, l2, l3⟩ := hcw1.facts
       clear hcw1
       go_wp2_with fail
       refine (sphere_go Hw1.out 44).mono ?_
       rintro e w2 ⟨rfl, hcw2⟩
       have Hw2 := Lib.hid hcw2
       obtain ⟨c0, c1, c2, f1, l0, l1, l2, l3⟩ := hcw2.facts
       clear hcw2
       rw [H44.out]
       have hw2s : Ctx N S W.heap.size (W.heap.size + 1) b o cap bs i v L W (j + 1) (w2.setCell ⟨W.heap.size + 1, 0, none⟩ (.int .i64 ((j : Int) + 1))) := Hw2.out.set_ (j + 1)
       have Hw2s := Lib.hid hw2s
       clear hw2s
       go_wp2_with fail
       refine (sphere_go Hw2s.out 125).mono ?_
       rintro e w3 ⟨rfl, hcw3⟩
       have Hw3 := Lib.hid hcw3
       obtain ⟨c0, c1, c2, f1, l0, l1, l2, l3⟩ := hcw3.facts
       clear hcw3
       rw [H125.out]
       go_wp2_with fail
       refine (num_yes Hw3.out hj1 Ht2.out).mono ?_
       rintro e w4 ⟨rfl, hcw4⟩
       have Hw4 := Lib.hid hcw4
       obtain ⟨c0, c1, c2, f1, l0, l1, l2, l3⟩ := hcw4.facts
       clear hcw4
       go_wp2_with fail
       refine (sphere_go Hw4.out 125).mono ?_
       rintro e w5 ⟨rfl, hcw5⟩
       have Hw5 := Lib.hid hcw5
       obtain ⟨c0, c1, c2, f1, l0, l1, l2, l3⟩ := hcw5.facts
       clear hcw5
       rw [H3.out]
       go_wp2_with fail
       refine (put_no S b o bs.length cap i v 0 0 N L 8 0 (lo : Int) (hi : Int) _ _ Hw5.out.hS Hw5.out.hrow hN hL).mono ?_
       rintro e w9 ⟨rfl, hb9, hv9⟩
       have HB9 := Lib.hid (Hw5.out.hB.trans hb9)
       have HV9 := Lib.hid hv9
       clear hb9 hv9
       go_wp2
       go_light
       go_end0
       rw [HV.out]
       exact ⟨rfl, HB9.out, HV9.out⟩
   ·have H125 := Lib.hid (show hasAt bs ((j + 1 : Nat) : Int) 125 = true from h125)
    have HV := Lib.hid (show repS bs i = .ok (⟨8, (i : Int), noSet, (lo : Int), -1⟩, j + 2) by unfold repS; rw [ht]; dsimp only; rw [h44, h125]; rfl)
    have Ht := Lib.hid ht
    clear ht h44 h125
    obtain ⟨s0, s1, s2, s3, s4, f0, f1, f2, f3, f4⟩ := hS.cells
    have hlt := Blk.lt hS
    have hl := hA.2.1
    have hb0 := Below.refl N W
    have hNW : N ≤ W.heap.size := by omega
    have hB1 := (hb0.alloc hNW (.cells #[.pointer (some ⟨S, 0, none⟩)] 209)).alloc (by simp; omega) (.cells #[.int .i64 ((i : Int) + 1)] 3)
    have hC : Ctx N S W.heap.size (W.heap.size + 1) b o cap bs i v L W (i + 1) ((W.alloc (.cells #[.pointer (some ⟨S, 0, none⟩)] 209)).alloc (.cells #[.int .i64 ((i : Int) + 1)] 3)) :=
     ⟨((Blk.new W 209 #[.pointer (some ⟨S, 0, none⟩)]).alloc _).cell 0, Blk.new_at (by simp), Blk.alloc (Blk.alloc hS _) _, (hrow.alloc _).alloc _, hA.below hB1, hB1, hN, by omega, by omega, by omega, hcap⟩
    have HC := Lib.hid hC
    clear hC hB1 hb0 hS hrow hA s0 s2 s3 s4 f0 f1 f2 f3 f4
    go_enter Tryz.func192, Tryz.ntmps192
    go_wp2_with fail
    refine (num_yes HC.out (by omega) Ht.out).mono ?_
    rintro e w1 ⟨rfl, hcw1⟩
    have Hw1 := Lib.hid hcw1
    obtain ⟨c0, c1, c2, f1, l0, l1, l2, l3⟩ := hcw1.facts
    clear hcw1
    go_wp2_with fail
    refine (sphere_go Hw1.out 44).mono ?_
    rintro e w2 ⟨rfl, hcw2⟩
    have Hw2 := Lib.hid hcw2
    obtain ⟨c0, c1, c2, f1, l0, l1, l2, l3⟩ := hcw2.facts
    clear hcw2
    rw [H44.out]
    have hw2s : Ctx N S W.heap.size (W.heap.size + 1) b o cap bs i v L W (j + 1) (w2.setCell ⟨W.heap.size + 1, 0, none⟩ (.int .i64 ((j : Int) + 1))) := Hw2.out.set_ (j + 1)
    have Hw2s := Lib.hid hw2s
    clear hw2s
    go_wp2_with fail
    refine (sphere_go Hw2s.out 125).mono ?_
    rintro e w3 ⟨rfl, hcw3⟩
    have Hw3 := Lib.hid hcw3
    obtain ⟨c0, c1, c2, f1, l0, l1, l2, l3⟩ := hcw3.facts
    clear hcw3
    rw [H125.out]
    go_wp2_with fail
    refine (sphere_go Hw3.out 125).mono ?_
    rintro e w4 ⟨rfl, hcw4⟩
    have Hw4 := Lib.hid hcw4
    obtain ⟨c0, c1, c2, f1, l0, l1, l2, l3⟩ := hcw4.facts
    clear hcw4
    rw [H125.out]
    go_wp2_with fail
    refine (put_no S b o bs.length cap i v 0 0 N L 8 0 (lo : Int) (-1 : Int) _ _ Hw4.out.hS Hw4.out.hrow hN hL).mono ?_
    rintro e w9 ⟨rfl, hb9, hv9⟩
    have HB9 := Lib.hid (Hw4.out.hB.trans hb9)
    have HV9 := Lib.hid hv9
    clear hb9 hv9
    go_wp2
    go_light
    go_end0
    rw [HV.out]
    exact ⟨rfl, HB9.out, HV9.out⟩
end Go.Proofs.YtofbfafnpdaejaaGreatDoor
