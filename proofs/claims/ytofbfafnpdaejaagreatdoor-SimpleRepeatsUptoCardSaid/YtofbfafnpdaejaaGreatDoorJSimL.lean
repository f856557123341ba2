/- Texts of the claim. -/
import Derived.Test.YtofbfafnpdaejaaGreatDoorJSimI
import Derived.Test.YtofbfafnpdaejaaGreatDoorJSimJ
set_option linter.all false
set_option maxRecDepth 100000
set_option maxHeartbeats 8000000
namespace Go.Proofs.YtofbfafnpdaejaaGreatDoor
open Go.RowKit
theorem rthere_go (F : Trees) (A : Option Addr) (c : Nat) (x : Nd) (B : Option Addr) (cap : Nat) (w : World) (hl : F.len ≤ 100000000) (ht : TreesAt w (fun b => b < w.heap.size) F A) (hk : TreesAt w (fun b => b < w.heap.size) x.kids B) (hx : x.size ≤ 100000000) (fx : FitT x) (hF : ∀ y ∈ F.list, y.size ≤ 100000000 ∧ FitT y) :
  Calls Tryz.prog 87 #[.slice A F.len c, ndV x B cap] w fun e w' => e = .returned (.bool (F.list.any fun y => sameN y x)) ∧ Below w.heap.size w w' := by
 have hal : Below w.heap.size w (w.alloc (.cells (ndA x B cap) 28)) := (Below.refl _ _).alloc (Nat.le_refl _) _
 have H0 := Lib.hid (show Blk (w.alloc (.cells (ndA x B cap) 28)) w.heap.size 28 (ndA x B cap) ∧ Below w.heap.size w (w.alloc (.cells (ndA x B cap) 28)) from ⟨Blk.new w _ _, hal⟩)
 have HT := Lib.hid ht
 have HK := Lib.hid hk
 have HFs := Lib.hid (show _ ∧ _ ∧ _ from ⟨hx, fx, hF⟩)
 have hFl := Lib.hid (Trees.len_list F)
 clear ht hk hal hx fx hF
 unfold ndV
 unfold ndA at H0
 go_enter Tryz.func87, Tryz.ntmps87
 go_upto_region 1 with fail
 generalize (w.alloc (.cells #[.int .i64 x.kind, .int .u64 (word x.set.testBit 0), .int .u64 (word x.set.testBit 1), .int .u64 (word x.set.testBit 2), .int .u64 (word x.set.testBit 3), .slice B x.kids.len cap, .int .i64 x.lo, .int .i64 x.hi] 28)) = w1 at *
 go_wp2
 go_loopw [5] (fun i wr => ∃ k : Nat, i = .int .i64 (k : Int) ∧ k ≤ F.len ∧ Hid (∀ (j : Nat) (y : Nd), j < k → F.list[j]? = some y → sameN y x = false) ∧ Hid (Blk wr w.heap.size 28 (ndA x B cap) ∧ Below w.heap.size w wr)) (fun i _ => F.len - (intOf i).toNat)
 case atStart => exact ⟨0, rfl, Nat.zero_le _, Lib.hid (fun j y hj => by omega), H0⟩
 case round =>
  clear H0
  obtain ⟨k, rfl, hk, HE, HH⟩ := hrel
  by_cases hlt : k < F.len
  ·obtain ⟨z, hz⟩ : ∃ z, F.list[k]? = some z := ⟨_, List.getElem?_eq_getElem (by rw [hFl.out]; exact hlt)⟩
   obtain ⟨b, o, C, capc, rfl, _, hck, ⟨c0, c1, c2, c3, c4, c5, c6, c7⟩, hkz⟩ := (HT.out.below HH.out.2).get hz
   have hdl : (k : Int) < (F.len : Int) := by omega
   have hbl := World.block_lt_of_cell? wr _ c0
   have hbD : Below wr.heap.size wr wr.drew := (Below.refl _ _).drew
   have hzf := HFs.out.2.2 z (List.mem_of_getElem? hz)
   have HI := Lib.hid (usamed_go z x _ _ C B capc cap wr.drew hzf.1 HFs.out.1 hzf.2 HFs.out.2.1 (hkz.below hbD) ((HK.out.below HH.out.2).below hbD))
   obtain ⟨p0, p1, p2, p3, p4, p5, p6, p7⟩ : _ ∧ _ ∧ _ ∧ _ ∧ _ ∧ _ ∧ _ ∧ _ := ⟨HH.out.1.cell 0, HH.out.1.cell 1, HH.out.1.cell 2, HH.out.1.cell 3, HH.out.1.cell 4, HH.out.1.cell 5, HH.out.1.cell 6, HH.out.1.cell 7⟩
   simp only [List.getElem?_toArray, List.getElem?_cons_zero, List.getElem?_cons_succ, ndA] at p0 p1 p2 p3 p4 p5 p6 p7
   have pl := HH.out.1.lt
   have HZ := Lib.hid hz
   clear hz hkz hck hbD hzf
   go_wp2
   go_still_tail 5, (by kernel_rfl)
   change wpList _ _ _ _ _ wr.drew
   clear c0 c1 c2 c3 c4 c5 c6 c7 p0 p1 p2 p3 p4 p5 p6 p7
   unfold ndV at HI
   cases hs : sameN z x with
   | true =>
    rw [hs] at HI
    have HV := Lib.hid (show (F.list.any fun y => sameN y x) = true from List.any_eq_true.2 ⟨z, List.mem_of_getElem? HZ.out, hs⟩)
    clear hs
    go_wp2_with fail
    refine HI.out.mono ?_
    rintro e w3 ⟨rfl, hb3⟩
    have HB3 := Lib.hid (HH.out.2.drew.trans (hb3.mono HH.out.2.drew.size))
    clear hb3 HI
    go_wp2
    go_light
    go_ret
    exact ⟨by rw [HV.out]; rfl, HB3.out⟩
   | false =>
    rw [hs] at HI
    have HV := Lib.hid hs
    clear hs
    go_wp2_with fail
    refine HI.out.mono ?_
    rintro e w3 ⟨rfl, hb3⟩
    have HH3 := Lib.hid (show Blk _ _ _ _ ∧ Below _ _ _ from ⟨HH.out.1.drew.below hb3 HH.out.1.drew.lt, HH.out.2.drew.trans (hb3.mono HH.out.2.drew.size)⟩)
    clear hb3 HI
    go_wp2
    go_roundw
    case rel => exact ⟨k + 1, by go_num, by omega, Lib.hid (fun j y hj hy => by
     rcases Nat.lt_or_ge j k with h | h
     ·exact HE.out j y h hy
     ·obtain rfl : j = k := by omega
      rw [HZ.out] at hy
      cases hy
      exact HV.out), HH3⟩
    case measure => simp [intOf]; omega
  ·have hdl : ¬ (k : Int) < (F.len : Int) := by omega
   have HV := Lib.hid (show (F.list.any fun y => sameN y x) = false by
    rw [List.any_eq_false]
    intro y hy
    obtain ⟨j, hj⟩ := List.getElem?_of_mem hy
    have := (List.getElem?_eq_some_iff.1 hj).1
    rw [HE.out j y (by have := hFl.out; omega) hj]
    decide)
   go_wp2
   go_light
   go_ret
   exact ⟨by rw [HV.out]; rfl, HH.out.2⟩
end Go.Proofs.YtofbfafnpdaejaaGreatDoor
