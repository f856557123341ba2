/- Texts of the claim. -/
import Derived.Test.YtofbfafnpdaejaaGreatDoorJSimL
import Derived.Test.YtofbfafnpdaejaaGreatDoorJSimA
import Derived.Test.YtofbfafnpdaejaaGreatDoorJRefTwo
set_option linter.all false
set_option maxRecDepth 100000
set_option maxHeartbeats 8000000
namespace Go.Proofs.YtofbfafnpdaejaaGreatDoor
open Go.RowKit
theorem two_or (a b : Nat) : two 0 a.testBit b.testBit = (a ||| b).testBit := by
 funext c
 rw [Nat.testBit_or]
 rfl
theorem union_take {L : List Nd} {j : Nat} {z : Nd} (h : L[j]? = some z) : unionQ (L.take (j + 1)) = if z.kind = 3 then unionQ (L.take j) ||| z.set else unionQ (L.take j) := by
 rw [List.take_add_one, h]
 exact union_snoc _ _
theorem union_lt {L : List Nd} (h : ∀ x ∈ L, SG x) : unionQ L < 2 ^ 256 := by
 have key : ∀ (l : List Nd) (s : Nat), s < 2 ^ 256 → (∀ x ∈ l, SG x) → l.foldl (fun s x => if x.kind = 3 then s ||| x.set else s) s < 2 ^ 256 := by
  intro l
  induction l with
  | nil => intro s hs _; exact hs
  | cons x l ih =>
   intro s hs hl
   rw [List.foldl_cons]
   refine ih _ ?_ (fun y hy => hl y (by simp [hy]))
   split
   ·exact or_lt hs (sg_iff.1 (hl x (by simp))).1.1.1
   ·exact hs
 exact key L 0 (by decide) h
theorem repl_fit {S : Nat} {z : Nd} (hS : S < 2 ^ 256) (hz : SG z) : FitT (replQ S z) := by
 unfold replQ
 split
 ·intro y hy
  rcases List.mem_cons.1 hy with rfl | hy
  ·exact hS
  ·exact (hz y (List.mem_cons_of_mem _ hy)).1.1
 ·exact sg_fit hz
theorem repl_size (S : Nat) (z : Nd) : (replQ S z).size = z.size := by
 unfold replQ
 split <;> rfl
theorem repl_kids (S : Nat) (z : Nd) : (replQ S z).kids = z.kids := by
 unfold replQ
 split <;> rfl
structure QAt (S n : Nat) (L : List Nd) (j : Nat) (out : List Nd) : Prop where
 eq : (L.take j).foldl (addQ S) [] = out
 fit : ∀ y ∈ out, y.size ≤ n ∧ FitT y
 len : out.length ≤ j
theorem qat_next {S n : Nat} {L : List Nd} {j : Nat} {z : Nd} {out : List Nd} (h : QAt S n L j out) (hz : L[j]? = some z) (hs : z.size ≤ n) (hS : S < 2 ^ 256) (hg : SG z) : QAt S n L (j + 1) (addQ S out z) := by
 refine ⟨by rw [take_fold hz, h.eq], fun y hy => ?_, ?_⟩
 ·unfold addQ at hy
  split at hy
  ·exact h.fit y hy
  ·rcases List.mem_append.1 hy with hy | hy
   ·exact h.fit y hy
   ·obtain rfl : y = replQ S z := by simpa using hy
    exact ⟨by rw [repl_size]; exact hs, repl_fit hS hg⟩
 ·unfold addQ
  have := h.len
  split
  ·omega
  ·rw [List.length_append]
   simp
   omega
theorem ralt12_go (F : Trees) (B : Option Addr) (cap : Nat) (w : World) (hlen : F.size ≤ 20000000) (hgood : ∀ x ∈ F.list, SG x) {P : Nat → Prop} (hP : ∀ b, P b → b < w.heap.size) (ht : TreesAt w P F B) :
  Calls Tryz.prog 30 #[.slice B F.len cap] w (OldT P (altQ F.list) w) := by
 obtain ⟨L, hL⟩ : ∃ L, F.list.flatMap (flatQ 5) = L := ⟨_, rfl⟩
 have hsm := (flatq_small 5 F)
 have hsg := flatq_sg (k := 5) hgood
 have hres : SG (altQ F.list) := by rw [altQ_eq hgood]; exact altP_sg hgood
 rw [hL] at hsm hsg
 have HV := Lib.hid (show altQ F.list = manyN 5 1 (L.foldl (addQ (unionQ L)) []) by unfold altQ; rw [hL])
 have HRS := Lib.hid hres
 have HSG := Lib.hid hsg
 have HUL := Lib.hid (union_lt hsg)
 have hLl : L.length ≤ 20000000 := by omega
 have HSZ := Lib.hid (show (L.map Nd.size).sum ≤ 20000000 by omega)
 have hb1 : Below w.heap.size w (w.alloc (.cells #[.int .i64 0, .int .u64 0, .int .u64 0, .int .u64 0, .int .u64 0, .slice none 0 0, .int .i64 0, .int .i64 0] 28)) := (Below.refl _ _).alloc (Nat.le_refl _) _
 have HB1 := Lib.hid hb1
 have HZ1 := Lib.hid (Blk.new w 28 #[.int .i64 0, .int .u64 0, .int .u64 0, .int .u64 0, .int .u64 0, .slice none 0 0, .int .i64 0, .int .i64 0])
 have HF := Lib.hid (rflat12_go 5 F B cap (w.alloc (.cells #[.int .i64 0, .int .u64 0, .int .u64 0, .int .u64 0, .int .u64 0, .slice none 0 0, .int .i64 0, .int .i64 0] 28)) L hL (by omega) (fun b h => Nat.lt_of_lt_of_le (hP b h) hb1.size) (ht.below hb1))
 clear ht hb1 hL hsg hgood hres hsm
 go_enter Tryz.func30, Tryz.ntmps30
 go_wp2_with fail
 refine HF.out.mono ?_
 rintro e w2 ⟨A2, c2, rfl, hb2, hc2, ht2⟩
 have HT2 := Lib.hid (ht2.keep (Q := fun b => (P b ∨ w.heap.size ≤ b) ∧ b < w2.heap.size) (fun _ _ _ _ => rfl) (fun b h hl => ⟨h.imp id (fun h => Nat.le_trans HB1.out.size h), hl⟩))
 have hZ2 := HZ1.out.below hb2 HZ1.out.lt
 have HB2 := Lib.hid (HB1.out.trans (hb2.mono HB1.out.size))
 have HZ2 := Lib.hid hZ2
 clear hZ2 hb2 HB1 HZ1
 clear ht2 HF
 have hb3 : Below w2.heap.size w2 (w2.alloc (.cells #[.int .u64 0, .int .u64 0, .int .u64 0, .int .u64 0] 25)) := (Below.refl _ _).alloc (Nat.le_refl _) _
 have H3 := Lib.hid (show Blk (w2.alloc (.cells #[.int .u64 0, .int .u64 0, .int .u64 0, .int .u64 0] 25)) w2.heap.size 25 #[.int .u64 ((word ((unionQ (L.take 0)).testBit) 0 : Nat) : Int), .int .u64 ((word ((unionQ (L.take 0)).testBit) 1 : Nat) : Int), .int .u64 ((word ((unionQ (L.take 0)).testBit) 2 : Nat) : Int), .int .u64 ((word ((unionQ (L.take 0)).testBit) 3 : Nat) : Int)] ∧ Below w2.heap.size w2 (w2.alloc (.cells #[.int .u64 0, .int .u64 0, .int .u64 0, .int .u64 0] 25)) from ⟨by
  have := Blk.new w2 25 #[.int .u64 0, .int .u64 0, .int .u64 0, .int .u64 0]
  simpa [unionQ, word_zero] using this, hb3⟩)
 clear hb3
 dsimp only
 go_upto_region 4 with fail
 generalize (w2.alloc (.cells #[.int .u64 0, .int .u64 0, .int .u64 0, .int .u64 0] 25)) = w3 at *
 go_wp2
 go_loopw [5] (fun i wr => ∃ j : Nat, i = .int .i64 (j : Int) ∧ j ≤ L.length ∧ Hid (Blk wr w2.heap.size 25 #[.int .u64 ((word ((unionQ (L.take j)).testBit) 0 : Nat) : Int), .int .u64 ((word ((unionQ (L.take j)).testBit) 1 : Nat) : Int), .int .u64 ((word ((unionQ (L.take j)).testBit) 2 : Nat) : Int), .int .u64 ((word ((unionQ (L.take j)).testBit) 3 : Nat) : Int)] ∧ Below w2.heap.size w2 wr)) (fun i _ => L.length - (intOf i).toNat)
 case atStart => exact ⟨0, rfl, Nat.zero_le _, H3⟩
 case round =>
  clear H3
  obtain ⟨j, rfl, hk, HS⟩ := hrel
  obtain ⟨s0, s1, s2, s3, f0, f1, f2, f3⟩ := HS.out.1.c4
  have sl := HS.out.1.lt
  by_cases hlt : j < L.length
  ·obtain ⟨z, hz⟩ : ∃ z, L[j]? = some z := ⟨_, List.getElem?_eq_getElem hlt⟩
   have HUT := Lib.hid (union_take hz)
   obtain ⟨b, o, C, capc, rfl, hbb, hck, ⟨c0, c1, c2', c3, c4, c5, c6, c7⟩, hkz⟩ := (HT2.out.below HS.out.2).get (show (Trees.of L).list[j]? = some z by rw [Trees.list_of]; exact hz)
   have hdl : (j : Int) < (L.length : Int) := by omega
   have hbl := World.block_lt_of_cell? wr _ c0
   clear hz hkz
   by_cases k3 : z.kind = 3
   ·have hd : (z.kind == 3) = true := by rw [beq_iff_eq]; exact k3
    have hu := HUT.out
    rw [if_pos k3] at hu
    have HU := Lib.hid hu
    have hc := rtwo_any (unionQ (L.take j)).testBit z.set.testBit 0 wr.drew (.inl rfl)
    rw [two_or] at hc
    have HC := Lib.hid hc
    clear k3 hu hc HUT
    generalize unionQ (L.take j) = un at *
    have e2 : wr.cell? ⟨b, o + j * 8 + 1 + 1, none⟩ = _ := c2'
    have e3 : wr.cell? ⟨b, o + j * 8 + 1 + 2, none⟩ = _ := c3
    have e4 : wr.cell? ⟨b, o + j * 8 + 1 + 3, none⟩ = _ := c4
    go_wp2
    go_still_tail 6, (by kernel_rfl)
    change wpList _ _ _ _ _ wr.drew
    clear c0 c1 c2' c3 c4 c5 c6 c7 e2 e3 e4 s0 s1 s2 s3 f0 f1 f2 f3
    go_wp2_with fail
    refine HC.out.mono ?_
    rintro e w4 ⟨rfl, hb4⟩
    have hS4 := HS.out.1.drew.below hb4 HS.out.1.drew.lt
    have HB4 := Lib.hid (HS.out.2.drew.trans (hb4.mono HS.out.2.drew.size))
    obtain ⟨s0, s1, s2, s3, f0, f1, f2, f3⟩ := hS4.c4
    have HS4 := Lib.hid hS4
    clear hS4 hb4 HC
    go_wp2
    go_roundw
    case rel => exact ⟨j + 1, by go_num, by omega, Lib.hid ⟨by
     rw [HU.out]
     exact (((HS4.out.set_ 0 _).set_ 1 _).set_ 2 _).set_ 3 _, (((HB4.out.setCell (p := ⟨w2.heap.size, 0, none⟩) (Nat.le_refl _) _).setCell (p := ⟨w2.heap.size, 1, none⟩) (Nat.le_refl _) _).setCell (p := ⟨w2.heap.size, 2, none⟩) (Nat.le_refl _) _).setCell (p := ⟨w2.heap.size, 3, none⟩) (Nat.le_refl _) _⟩⟩
    case measure => simp [intOf]; omega
   ·have hd : (z.kind == 3) = false := by rw [beq_eq_false_iff_ne]; exact k3
    have hu := HUT.out
    rw [if_neg k3] at hu
    have HU := Lib.hid hu
    clear k3 hu HUT s0 s1 s2 s3 f0 f1 f2 f3
    go_wp2
    go_roundw
    case rel => exact ⟨j + 1, by go_num, by omega, Lib.hid (by rw [HU.out]; exact HS.out)⟩
    case measure => simp [intOf]; omega
  ·have hdl : ¬ ((j : Int) < (L.length : Int)) := by omega
   obtain rfl : j = L.length := by omega
   rw [List.take_length] at HS s0 s1 s2 s3
   have HM := Lib.hid (orow_made (fun b => (P b ∨ w.heap.size ≤ b) ∧ b < w2.heap.size) wr)
   clear s0 s1 s2 s3 f0 f1 f2 f3
   generalize hS : unionQ L = S at *
   clear hS
   go_wp2
   obtain ⟨w5, rfl⟩ : ∃ w5, w5 = wr := ⟨_, rfl⟩
   go_loopw [6, 7] (fun u i wr => ∃ j : Nat, i = .int .i64 (j : Int) ∧ j ≤ L.length ∧ Hid (∃ out, QAt S 20000000 L j out ∧ QRow (fun b => (P b ∨ w.heap.size ≤ b) ∧ b < w2.heap.size) w5.heap.size w5 out u wr)) (fun _ i _ => L.length - (intOf i).toNat)
   case atStart => exact ⟨0, rfl, Nat.zero_le _, Lib.hid ⟨[], ⟨rfl, fun y hy => (by cases hy), Nat.le_refl _⟩, HM.out⟩⟩
   case round =>
    clear HM hdl hk hlt
    obtain ⟨j, rfl, hk, HR⟩ := hrel
    obtain ⟨out, hQ, hrow⟩ := HR.out
    by_cases hlt : j < L.length
    ·obtain ⟨z, hz⟩ : ∃ z, L[j]? = some z := ⟨_, List.getElem?_eq_getElem hlt⟩
     have hzg := HSG.out z (List.mem_of_getElem? hz)
     have hzs : z.size ≤ 20000000 := Nat.le_trans (mem_size (List.mem_of_getElem? hz)) HSZ.out
     have HQ := Lib.hid (qat_next hQ hz hzs HUL.out hzg)
     have holen : out.length ≤ 20000000 := by have := hQ.len; omega
     obtain ⟨b, o, C, capc, rfl, hbb, hck, ⟨c0, c1, c2', c3, c4, c5, c6, c7⟩, hkz⟩ := (HT2.out.below (HS.out.2.trans (hrow.2.1.mono (HS.out.2.size)))).get (show (Trees.of L).list[j]? = some z by rw [Trees.list_of]; exact hz)
     have hdl : (j : Int) < (L.length : Int) := by omega
     have hbl := World.block_lt_of_cell? wr _ c0
     have hSr := HS.out.1.below hrow.2.1 HS.out.1.lt
     have hFT := repl_fit HUL.out hzg
     obtain ⟨Au, cu, rfl, hcu, htu⟩ := hrow.trees
     have HQF := Lib.hid hQ.fit
     have HXF := Lib.hid hFT
     have HXS := Lib.hid (repl_size S z)
     have HXK := Lib.hid (repl_kids S z)
     obtain ⟨s0, s1, s2, s3, f0, f1, f2, f3⟩ := hSr.c4
     have slr := hSr.lt
     by_cases k3 : z.kind = 3
     ·have hk3 : (z.kind == 3) = true := by rw [beq_iff_eq]; exact k3
      have hk1 : (z.kind != 1) = true := by rw [bne_iff_ne]; omega
      have HK1 := Lib.hid (show z.kind ≠ 1 by omega)
      have hX : replQ S z = ⟨z.kind, S, z.kids, z.lo, z.hi⟩ := by unfold replQ; rw [if_pos k3]
      rw [hX] at HXF HXS HXK
      obtain ⟨X, hXX⟩ : ∃ X : Nd, X = ⟨z.kind, S, z.kids, z.lo, z.hi⟩ := ⟨_, rfl⟩
      rw [← hXX] at HXF HXS HXK
      have HXE := Lib.hid (show replQ S z = X by rw [hX, hXX])
      have hxk1 : (X.kind != 1) = true := by rw [hXX]; exact hk1
      have hbW : Below wr.heap.size wr (wr.alloc (.cells (ndA X C capc) 28)) := (Below.refl _ _).alloc (Nat.le_refl _) _
      have hX0 := Blk.new wr 28 (ndA X C capc)
      obtain ⟨W, hW⟩ : ∃ W, W = wr.alloc (.cells (ndA X C capc) 28) := ⟨_, rfl⟩
      rw [← hW] at hbW hX0
      have HX := Lib.hid hX0
      have HRW := Lib.hid (hrow.below hbW)
      have HTU := Lib.hid ((htu.below hbW).keep (Q := fun b => b < W.heap.size) (fun _ _ _ _ => rfl) (fun b _ h => h))
      have HKX := Lib.hid (show TreesAt W (fun b => (P b ∨ w.heap.size ≤ b) ∧ b < w2.heap.size) X.kids C by rw [HXK.out]; exact hkz.below hbW)
      have HXC := Lib.hid (show X.kids.len ≤ capc by rw [HXK.out]; exact hck)
      have HW := Lib.hid hW
      clear hbW hkz hrow htu hck hSr hFT HR hQ hX0 hW
      have HXX := Lib.hid hXX
      clear k3 hX hz hzg hXX
      go_upto_region 15 with fail
      rw [show wr.alloc (.cells #[.int .i64 z.kind, .int .u64 (word S.testBit 0), .int .u64 (word S.testBit 1), .int .u64 (word S.testBit 2), .int .u64 (word S.testBit 3), .slice C z.kids.len capc, .int .i64 z.lo, .int .i64 z.hi] 28) = W by rw [HW.out, HXX.out]; rfl]
      clear c0 c1 c2' c3 c4 c5 c6 c7 s0 s1 s2 s3 f0 f1 f2 f3 hk3 hk1
      have HTh := Lib.hid (rthere_go (Trees.of out) Au cu X C capc W (by rw [Trees.len_of]; omega) HTU.out (HKX.out.keep (fun _ _ _ _ => rfl) (fun b _ h => h)) (by rw [HXS.out]; omega) HXF.out (fun y hy => by
       rw [Trees.list_of] at hy
       have := HQF.out y hy
       exact ⟨by omega, this.2⟩))
      rw [Trees.len_of, Trees.list_of] at HTh
      unfold ndV at HTh
      cases hq : (out.any fun y => sameN y X) with
      | true =>
       rw [hq] at HTh
       have HAD := Lib.hid (show addQ S out z = out by unfold addQ; rw [HXE.out, if_pos (.inr hq)])
       clear hq
       obtain ⟨p0, p1, p2, p3, p4, p5, p6, p7⟩ : _ ∧ _ ∧ _ ∧ _ ∧ _ ∧ _ ∧ _ ∧ _ := ⟨(HX.out).cell 0, (HX.out).cell 1, (HX.out).cell 2, (HX.out).cell 3, (HX.out).cell 4, (HX.out).cell 5, (HX.out).cell 6, (HX.out).cell 7⟩
       simp only [getH, ndA] at p0 p1 p2 p3 p4 p5 p6 p7
       have pl := (HX.out).lt
       go_wp2_with fail
       refine HTh.out.mono ?_
       rintro e w6 ⟨rfl, hb6⟩
       have HR6 := Lib.hid (HRW.out.below hb6)
       clear hb6 HTh p0 p1 p2 p3 p4 p5 p6 p7
       dsimp only
       go_wp2
       go_roundw
       case rel => exact ⟨j + 1, by go_num, by omega, Lib.hid ⟨out, by rw [← HAD.out]; exact HQ.out, HR6.out⟩⟩
       case measure => simp [intOf]; omega
      | false =>
       rw [hq] at HTh
       have HAD := Lib.hid (show addQ S out z = out ++ [X] by unfold addQ; rw [HXE.out, if_neg (fun h => h.elim HK1.out (fun h => by rw [hq] at h; cases h))])
       clear hq
       obtain ⟨p0, p1, p2, p3, p4, p5, p6, p7⟩ : _ ∧ _ ∧ _ ∧ _ ∧ _ ∧ _ ∧ _ ∧ _ := ⟨(HX.out).cell 0, (HX.out).cell 1, (HX.out).cell 2, (HX.out).cell 3, (HX.out).cell 4, (HX.out).cell 5, (HX.out).cell 6, (HX.out).cell 7⟩
       simp only [getH, ndA] at p0 p1 p2 p3 p4 p5 p6 p7
       have pl := (HX.out).lt
       go_wp2_with fail
       refine HTh.out.mono ?_
       rintro e w6 ⟨rfl, hb6⟩
       have HX6 := Lib.hid (HX.out.below hb6 HX.out.lt)
       have hown6 := (HRW.out.below hb6).own
       obtain ⟨v7, w7, hrun, hrow7⟩ := (HRW.out.below hb6).one (x := X) (C := C) (capc := capc) HXC.out ((HKX.out.below hb6).weak (fun b h _ => ⟨h, fun e => by have := (hown6 _ e.symm).1; have := h.2; have := HS.out.2.size; omega⟩)) (by omega)
       have HR7 := Lib.hid hrow7
       unfold ndA at hrun
       clear hb6 HTh p0 p1 p2 p3 p4 p5 p6 p7 pl hrow7 hown6
       obtain ⟨p0, p1, p2, p3, p4, p5, p6, p7⟩ : _ ∧ _ ∧ _ ∧ _ ∧ _ ∧ _ ∧ _ ∧ _ := ⟨(HX6.out).cell 0, (HX6.out).cell 1, (HX6.out).cell 2, (HX6.out).cell 3, (HX6.out).cell 4, (HX6.out).cell 5, (HX6.out).cell 6, (HX6.out).cell 7⟩
       simp only [getH, ndA] at p0 p1 p2 p3 p4 p5 p6 p7
       have pl := (HX6.out).lt
       dsimp only
       go_wp2_with (at_builtin; refine wpList_append_by rfl _ _ 26 26 rfl _ _ _ _ rfl rfl hrun ?_)
       clear hrun
       go_light
       go_roundw
       case rel => exact ⟨j + 1, by go_num, by omega, Lib.hid ⟨out ++ [X], by rw [← HAD.out]; exact HQ.out, HR7.out⟩⟩
       case measure => simp [intOf]; omega
     ·have hk3 : (z.kind == 3) = false := by rw [beq_eq_false_iff_ne]; exact k3
      have hX : replQ S z = z := repl_other k3
      rw [hX] at HXF HXS HXK
      obtain ⟨X, hXX⟩ : ∃ X : Nd, X = z := ⟨_, rfl⟩
      have HXF := Lib.hid (show FitT X by rw [hXX]; exact HXF.out)
      have HXS := Lib.hid (show X.size = z.size by rw [hXX])
      have HXK := Lib.hid (show X.kids = z.kids by rw [hXX])
      have HXE := Lib.hid (show replQ S z = X by rw [hX, hXX])
      have hbW : Below wr.heap.size wr (wr.alloc (.cells (ndA X C capc) 28)) := (Below.refl _ _).alloc (Nat.le_refl _) _
      have hX0 := Blk.new wr 28 (ndA X C capc)
      obtain ⟨W, hW⟩ : ∃ W, W = wr.alloc (.cells (ndA X C capc) 28) := ⟨_, rfl⟩
      rw [← hW] at hbW hX0
      have HX := Lib.hid hX0
      have HRW := Lib.hid (hrow.below hbW)
      have HTU := Lib.hid ((htu.below hbW).keep (Q := fun b => b < W.heap.size) (fun _ _ _ _ => rfl) (fun b _ h => h))
      have HKX := Lib.hid (show TreesAt W (fun b => (P b ∨ w.heap.size ≤ b) ∧ b < w2.heap.size) X.kids C by rw [HXK.out]; exact hkz.below hbW)
      have HXC := Lib.hid (show X.kids.len ≤ capc by rw [HXK.out]; exact hck)
      have HW := Lib.hid hW
      clear hbW hkz hrow htu hck hSr hFT HR hQ hX0 hW
      have HXX := Lib.hid hXX
      by_cases k1 : z.kind = 1
      ·have hk1 : (X.kind != 1) = false := by rw [hXX, bne_eq_false_iff_eq]; exact k1
       have HAD := Lib.hid (show addQ S out z = out by unfold addQ; rw [if_pos (.inl k1)])
       clear k3 k1 hX hz hzg hXX
       go_upto_region 15 with fail
       rw [show wr.alloc (.cells #[.int .i64 z.kind, .int .u64 (word z.set.testBit 0), .int .u64 (word z.set.testBit 1), .int .u64 (word z.set.testBit 2), .int .u64 (word z.set.testBit 3), .slice C z.kids.len capc, .int .i64 z.lo, .int .i64 z.hi] 28) = W by rw [HW.out, HXX.out]; rfl]
       clear c0 c1 c2' c3 c4 c5 c6 c7 s0 s1 s2 s3 f0 f1 f2 f3 hk3
       obtain ⟨p0, p1, p2, p3, p4, p5, p6, p7⟩ : _ ∧ _ ∧ _ ∧ _ ∧ _ ∧ _ ∧ _ ∧ _ := ⟨(HX.out).cell 0, (HX.out).cell 1, (HX.out).cell 2, (HX.out).cell 3, (HX.out).cell 4, (HX.out).cell 5, (HX.out).cell 6, (HX.out).cell 7⟩
       simp only [getH, ndA] at p0 p1 p2 p3 p4 p5 p6 p7
       have pl := (HX.out).lt
       go_wp2
       go_roundw
       case rel => exact ⟨j + 1, by go_num, by omega, Lib.hid ⟨out, by rw [← HAD.out]; exact HQ.out, HRW.out⟩⟩
       case measure => simp [intOf]; omega
      ·have hxk1 : (X.kind != 1) = true := by rw [hXX, bne_iff_ne]; exact k1
       have HK1 := Lib.hid k1
       clear k3 k1 hX hz hzg hXX
       go_upto_region 15 with fail
       rw [show wr.alloc (.cells #[.int .i64 z.kind, .int .u64 (word z.set.testBit 0), .int .u64 (word z.set.testBit 1), .int .u64 (word z.set.testBit 2), .int .u64 (word z.set.testBit 3), .slice C z.kids.len capc, .int .i64 z.lo, .int .i64 z.hi] 28) = W by rw [HW.out, HXX.out]; rfl]
       clear c0 c1 c2' c3 c4 c5 c6 c7 s0 s1 s2 s3 f0 f1 f2 f3 hk3
       have HTh := Lib.hid (rthere_go (Trees.of out) Au cu X C capc W (by rw [Trees.len_of]; omega) HTU.out (HKX.out.keep (fun _ _ _ _ => rfl) (fun b _ h => h)) (by rw [HXS.out]; omega) HXF.out (fun y hy => by
        rw [Trees.list_of] at hy
        have := HQF.out y hy
        exact ⟨by omega, this.2⟩))
       rw [Trees.len_of, Trees.list_of] at HTh
       unfold ndV at HTh
       cases hq : (out.any fun y => sameN y X) with
       | true =>
        rw [hq] at HTh
        have HAD := Lib.hid (show addQ S out z = out by unfold addQ; rw [HXE.out, if_pos (.inr hq)])
        clear hq
        obtain ⟨p0, p1, p2, p3, p4, p5, p6, p7⟩ : _ ∧ _ ∧ _ ∧ _ ∧ _ ∧ _ ∧ _ ∧ _ := ⟨(HX.out).cell 0, (HX.out).cell 1, (HX.out).cell 2, (HX.out).cell 3, (HX.out).cell 4, (HX.out).cell 5, (HX.out).cell 6, (HX.out).cell 7⟩
        simp only [getH, ndA] at p0 p1 p2 p3 p4 p5 p6 p7
        have pl := (HX.out).lt
        go_wp2_with fail
        refine HTh.out.mono ?_
        rintro e w6 ⟨rfl, hb6⟩
        have HR6 := Lib.hid (HRW.out.below hb6)
        clear hb6 HTh p0 p1 p2 p3 p4 p5 p6 p7
        dsimp only
        go_wp2
        go_roundw
        case rel => exact ⟨j + 1, by go_num, by omega, Lib.hid ⟨out, by rw [← HAD.out]; exact HQ.out, HR6.out⟩⟩
        case measure => simp [intOf]; omega
       | false =>
        rw [hq] at HTh
        have HAD := Lib.hid (show addQ S out z = out ++ [X] by unfold addQ; rw [HXE.out, if_neg (fun h => h.elim HK1.out (fun h => by rw [hq] at h; cases h))])
        clear hq
        obtain ⟨p0, p1, p2, p3, p4, p5, p6, p7⟩ : _ ∧ _ ∧ _ ∧ _ ∧ _ ∧ _ ∧ _ ∧ _ := ⟨(HX.out).cell 0, (HX.out).cell 1, (HX.out).cell 2, (HX.out).cell 3, (HX.out).cell 4, (HX.out).cell 5, (HX.out).cell 6, (HX.out).cell 7⟩
        simp only [getH, ndA] at p0 p1 p2 p3 p4 p5 p6 p7
        have pl := (HX.out).lt
        go_wp2_with fail
        refine HTh.out.mono ?_
        rintro e w6 ⟨rfl, hb6⟩
        have HX6 := Lib.hid (HX.out.below hb6 HX.out.lt)
        have hown6 := (HRW.out.below hb6).own
        obtain ⟨v7, w7, hrun, hrow7⟩ := (HRW.out.below hb6).one (x := X) (C := C) (capc := capc) HXC.out ((HKX.out.below hb6).weak (fun b h _ => ⟨h, fun e => by have := (hown6 _ e.symm).1; have := h.2; have := HS.out.2.size; omega⟩)) (by omega)
        have HR7 := Lib.hid hrow7
        unfold ndA at hrun
        clear hb6 HTh p0 p1 p2 p3 p4 p5 p6 p7 pl hrow7 hown6
        obtain ⟨p0, p1, p2, p3, p4, p5, p6, p7⟩ : _ ∧ _ ∧ _ ∧ _ ∧ _ ∧ _ ∧ _ ∧ _ := ⟨(HX6.out).cell 0, (HX6.out).cell 1, (HX6.out).cell 2, (HX6.out).cell 3, (HX6.out).cell 4, (HX6.out).cell 5, (HX6.out).cell 6, (HX6.out).cell 7⟩
        simp only [getH, ndA] at p0 p1 p2 p3 p4 p5 p6 p7
        have pl := (HX6.out).lt
        dsimp only
        go_wp2_with (at_builtin; refine wpList_append_by rfl _ _ 26 26 rfl _ _ _ _ rfl rfl hrun ?_)
        clear hrun
        go_light
        go_roundw
        case rel => exact ⟨j + 1, by go_num, by omega, Lib.hid ⟨out ++ [X], by rw [← HAD.out]; exact HQ.out, HR7.out⟩⟩
        case measure => simp [intOf]; omega
    ·have hdl : ¬ ((j : Int) < (L.length : Int)) := by omega
     obtain rfl : j = L.length := by omega
     have heq := hQ.eq
     rw [List.take_length] at heq
     rw [heq] at HV
     obtain ⟨Au, cu, rfl, hcu, htu⟩ := hrow.trees
     have hC := naltB_go _ Au cu out wr (by have := hQ.len; omega) (htu.weak (Q := fun b => P b ∨ w.heap.size ≤ b) (fun b h _ => h.elim (fun h => h.1) (fun h => .inr (by have := HB2.out.size; have := HS.out.2.size; omega))))
     have HC := Lib.hid hC
     have HZr := Lib.hid ((HZ2.out.below HS.out.2 HZ2.out.lt).below hrow.2.1 (Nat.lt_of_lt_of_le HZ2.out.lt HS.out.2.size))
     have HBr := Lib.hid ((HB2.out.trans (HS.out.2.mono HB2.out.size)).trans (hrow.2.1.mono (Nat.le_trans HB2.out.size HS.out.2.size)))
     have hV := HV.out
     rw [hV] at HRS
     have HV2 := Lib.hid hV
     clear hQ hrow HR htu heq hC hV HV HZ2 HB2 HT2 HS
     generalize manyN 5 1 out = x at *
     go_wp2_with fail
     refine HC.out.mono ?_
     rintro e w6 ⟨B6, c6, rfl, hb6, hc6, ht6⟩
     have HZ6 := Lib.hid (HZr.out.below hb6 HZr.out.lt)
     have HB6 := Lib.hid (HBr.out.trans (hb6.mono HBr.out.size))
     have HT6 := Lib.hid (ht6.weak (Q := fun b => P b ∨ w.heap.size ≤ b) (fun b h _ => h.elim id (fun h => .inr (Nat.le_trans HBr.out.size h))))
     clear hb6 ht6 HC HZr HBr
     obtain ⟨y0, y1, y2, y3, y4, y5, y6, y7, g0, g1, g2, g3, g4, g5, g6, g7⟩ := (HZ6.out).z16
     unfold ndV
     dsimp only
     go_wp2
     go_light
     have hF := old_put (x := x) (B := B6) (cap := c6) HRS.out HZ6.out HB6.out hP (fun b h => h) HT6.out rfl
     refine bodyPost_ret (ret_node Tryz.results30 rfl hF.1) rfl ?_
     rw [HV2.out]
     exact ⟨B6, c6, rfl, hF.2.1, hc6, hF.2.2⟩
end Go.Proofs.YtofbfafnpdaejaaGreatDoor
