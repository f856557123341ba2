/- Texts of the claim. -/
import Derived.Test.YtofbfafnpdaejaaGreatDoorMMatKp
import Derived.Test.YtofbfafnpdaejaaGreatDoorMMatR
import Derived.Test.YtofbfafnpdaejaaGreatDoorMZ01
namespace Go.Proofs.YtofbfafnpdaejaaGreatDoor
open Go.RowKit
set_option linter.unusedSimpArgs false
set_option linter.unusedVariables false
set_option maxRecDepth 100000
set_option maxHeartbeats 8000000
theorem text_ab (w : World) (n : Nat) (hn : n = w.heap.size) :
  Calls Tryz.prog 61 #[.slice (some ⟨n, 0, none⟩) 4 4] (w.alloc (.cells #[.int .u8 97, .int .u8 42, .int .u8 98, .int .u8 63] 5 (4, 5))) (TreeOut (.ok exA) (w.alloc (.cells #[.int .u8 97, .int .u8 42, .int .u8 98, .int .u8 63] 5 (4, 5)))) := by
 have h := text_go07 (some ⟨n, 0, none⟩) 4 [97, 42, 98, 63] _ (bytes_new w n [97, 42, 98, 63] _ (4, 5) hn rfl (by decide) (by decide)) (by decide)
 rw [parse_ab] at h
 exact h
structure KnA (w U : World) (x : Nd) (bx : Nat) (B : Option Addr) (cap : Nat) : Prop where
 below : Below w.heap.size w U
 box : Blk U bx 28 (ndA x B cap)
 tree : TreesAt U (fun b => b < U.heap.size) x.kids B
 cap : x.kids.len ≤ cap
theorem KnA.next {w U U' : World} {x : Nd} {bx : Nat} {B : Option Addr} {cap : Nat} (h : KnA w U x bx B cap) (hb : Below U.heap.size U U') : KnA w U' x bx B cap :=
 ⟨h.below.trans (hb.mono h.below.size), h.box.below hb h.box.lt, (h.tree.below hb).weak (fun b h1 _ => Nat.lt_of_lt_of_le h1 hb.size), h.cap⟩
theorem four_int (w : World) : IntsAt (w.alloc (.cells #[.int .i64 0, .int .i64 1, .int .i64 2, .int .i64 3] 3)) (some ⟨w.heap.size, 0, none⟩) [0, 1, 2, 3] := fun i a ha => by
 have h := Blk.new w 3 #[.int .i64 0, .int .i64 1, .int .i64 2, .int .i64 3]
 match i, ha with
 | 0, ha => simp at ha; subst ha; exact ⟨_, _, rfl, h.cell 0⟩
 | 1, ha => simp at ha; subst ha; exact ⟨_, _, rfl, h.cell 1⟩
 | 2, ha => simp at ha; subst ha; exact ⟨_, _, rfl, h.cell 2⟩
 | 3, ha => simp at ha; subst ha; exact ⟨_, _, rfl, h.cell 3⟩
 | i + 4, ha => simp at ha
theorem knows11_go (w : World) (hT : TabAt 0 Lib.deBruijn64tab w) (hw0 : 0 < w.heap.size) :
  Calls Tryz.prog 43 #[] w fun e w' => e = .returned (.bool true) ∧ Below w.heap.size w w' := by
 have kc : ∀ (w : World) (g : Nat) (C : Array Value) (n c : Nat), g = w.heap.size → (convert 29 29 (.slice (some ⟨g, 0, none⟩) n c)).run Tryz.prog (w.alloc (.cells C 5)) = .ok (.slice (some ⟨g, 0, none⟩) n c) (w.alloc (.cells C 5 (C.size, C.size + 1))) := fun w g C n c hg => by
  subst hg
  exact Lib.run_convert_bytes_const (P := Tryz.prog) w 29 5 C n c Tryz.underlying29 Tryz.underlying5
 have HTx := Lib.hid (text_ab w _ rfl)
 have HSY := Lib.hid (show placesL (findB exA [97, 97, 98] 0) = [0, 1, 2, 3] ∧ fullB exA [97, 98] = true ∧ fullB exA [98, 97] = false ∧ lastI (elems (findB exA [99, 97, 98] 1) 320) = 3 ∧ errF exA [97, 97, 98] 0 = 0 from ⟨says1, says2, says3, says4, exA_err [97, 97, 98] 0 (by decide) (by decide)⟩)
 have HSZ := Lib.hid (show exA.size ≤ 4611686018427387903 from by decide)
 generalize exA = x at *
 have HTB := Lib.hid hT
 clear hT
 go_enter Tryz.func43, Tryz.ntmps43
 go_wp2_with fail
 refine HTx.out.mono ?_
 rintro e w1 ⟨B, cap, rfl, hb1, hc1, ht1⟩
 have hb01 := ((Below.refl w.heap.size w).alloc (Nat.le_refl _) (.cells #[.int .u8 97, .int .u8 42, .int .u8 98, .int .u8 63] 5 (4, 5))).trans (hb1.mono (by simp))
 have ht1 := ht1.weak (Q := fun b => b < w1.heap.size) (fun b _ h => h)
 have HB1 := Lib.hid hb01
 have HT1 := Lib.hid ht1
 have HC1 := Lib.hid hc1
 clear hb1 ht1 hc1 hb01 HTx
 unfold ndV
 dsimp only
 go_upto_region 2 with fail
 have hb2 : Below w1.heap.size w1 ((w1.alloc (.cells (ndA x B cap) 28)).alloc (.cells #[.int .i64 0, .int .i64 0] 77)) := ((Below.refl _ _).alloc (Nat.le_refl _) _).alloc (by simp) _
 have HA := Lib.hid (show KnA w ((w1.alloc (.cells (ndA x B cap) 28)).alloc (.cells #[.int .i64 0, .int .i64 0] 77)) x w1.heap.size B cap from ⟨HB1.out.trans (hb2.mono HB1.out.size), (Blk.new w1 _ _).alloc _, (HT1.out.below hb2).weak (fun b h _ => Nat.lt_of_lt_of_le h hb2.size), HC1.out⟩)
 clear hb2 HB1 HT1 HC1 ht1
 unfold ndA at HA
 generalize hbx : w1.heap.size = bx at *
 generalize (w1.alloc (.cells #[.int .i64 x.kind, .int .u64 (word x.set.testBit 0), .int .u64 (word x.set.testBit 1), .int .u64 (word x.set.testBit 2), .int .u64 (word x.set.testBit 3), .slice B x.kids.len cap, .int .i64 x.lo, .int .i64 x.hi] 28)).alloc (.cells #[.int .i64 0, .int .i64 0] 77) = w2 at *
 clear hbx
 obtain ⟨x0, x1, x2, x3, x4, x5, x6, x7⟩ : _ ∧ _ ∧ _ ∧ _ ∧ _ ∧ _ ∧ _ ∧ _ := ⟨HA.out.box.cell 0, HA.out.box.cell 1, HA.out.box.cell 2, HA.out.box.cell 3, HA.out.box.cell 4, HA.out.box.cell 5, HA.out.box.cell 6, HA.out.box.cell 7⟩
 simp only [List.getElem?_toArray, List.getElem?_cons_zero, List.getElem?_cons_succ, ndA] at x0 x1 x2 x3 x4 x5 x6 x7
 have lx := HA.out.box.lt
 have hb3 : Below w2.heap.size w2 (w2.alloc (.cells #[.int .u8 97, .int .u8 97, .int .u8 98] 5 (3, 4))) := (Below.refl _ _).alloc (Nat.le_refl _) _
 have HA3 := Lib.hid (HA.out.next hb3)
 have HE := Lib.hid (pends_go x B cap (some ⟨w2.heap.size, 0, none⟩) 3 0 [97, 97, 98] _ HSZ.out HA3.out.cap HA3.out.tree (bytes_new w2 w2.heap.size [97, 97, 98] _ (3, 4) rfl rfl (by decide) (by decide)) (by decide) (TabAt.below HA3.out.below hw0 HTB.out) (Nat.lt_of_lt_of_le hw0 HA3.out.below.size))
 rw [HSY.out.1, HSY.out.2.2.2.2] at HE
 unfold ndV at HE
 clear hb3
 go_wp2_with fail
 refine HE.out.mono ?_
 rintro e w4 ⟨v, rfl, hrow, hb4⟩
 obtain ⟨A4, k4, rfl, hk4⟩ := row_form hrow
 have hi4 := own_intsC hrow
 have HA4 := Lib.hid (HA3.out.next hb4)
 have hb5 : Below w4.heap.size w4 (w4.alloc (.cells #[.int .i64 0, .int .i64 1, .int .i64 2, .int .i64 3] 3)) := (Below.refl _ _).alloc (Nat.le_refl _) _
 have HSm := Lib.hid (rsame11_go A4 (some ⟨w4.heap.size, 0, none⟩) k4 4 [0, 1, 2, 3] [0, 1, 2, 3] _ (hi4.below hb5) (four_int w4) (by decide) hk4 (by decide))
 have HA5 := Lib.hid (HA4.out.next hb5)
 clear hrow hb4 hi4 hb5 HE HA HA3 HA4 x0 x1 x2 x3 x4 x5 x6 x7 lx hk4
 dsimp only
 go_wp2_with fail
 refine HSm.out.mono ?_
 rintro e w6 ⟨rfl, hb6⟩
 have HA6 := Lib.hid (HA5.out.next hb6)
 clear hb6 HA5 HSm
 dsimp only
 obtain ⟨x0, x1, x2, x3, x4, x5, x6, x7⟩ : _ ∧ _ ∧ _ ∧ _ ∧ _ ∧ _ ∧ _ ∧ _ := ⟨HA6.out.box.cell 0, HA6.out.box.cell 1, HA6.out.box.cell 2, HA6.out.box.cell 3, HA6.out.box.cell 4, HA6.out.box.cell 5, HA6.out.box.cell 6, HA6.out.box.cell 7⟩
 simp only [List.getElem?_toArray, List.getElem?_cons_zero, List.getElem?_cons_succ, ndA] at x0 x1 x2 x3 x4 x5 x6 x7
 have lx := HA6.out.box.lt
 have hbn : Below (w6).heap.size w6 ((w6).alloc (.cells #[.int .u8 97, .int .u8 98] 5 (2, 3))) := (Below.refl _ _).alloc (Nat.le_refl _) _
 have HAn := Lib.hid ((HA6).out.next hbn)
 have HF := Lib.hid (pfull_go x B cap (some ⟨w6.heap.size, 0, none⟩) 2 [97, 98] _ HSZ.out HAn.out.cap HAn.out.tree (bytes_new w6 (w6).heap.size [97, 98] _ (2, 3) rfl rfl (by decide) (by decide)) (by decide) (TabAt.below HAn.out.below hw0 HTB.out) (Nat.lt_of_lt_of_le hw0 HAn.out.below.size))
 rw [HSY.out.2.1] at HF
 unfold ndV at HF
 clear hbn
 go_wp2_with fail
 refine HF.out.mono ?_
 rintro e w7 ⟨rfl, hb8⟩
 have HA7 := Lib.hid (HAn.out.next hb8)
 clear hb8 HF HAn HA6 x0 x1 x2 x3 x4 x5 x6 x7 lx
 dsimp only
 obtain ⟨x0, x1, x2, x3, x4, x5, x6, x7⟩ : _ ∧ _ ∧ _ ∧ _ ∧ _ ∧ _ ∧ _ ∧ _ := ⟨HA7.out.box.cell 0, HA7.out.box.cell 1, HA7.out.box.cell 2, HA7.out.box.cell 3, HA7.out.box.cell 4, HA7.out.box.cell 5, HA7.out.box.cell 6, HA7.out.box.cell 7⟩
 simp only [List.getElem?_toArray, List.getElem?_cons_zero, List.getElem?_cons_succ, ndA] at x0 x1 x2 x3 x4 x5 x6 x7
 have lx := HA7.out.box.lt
 have hbn : Below (w7).heap.size w7 ((w7).alloc (.cells #[.int .u8 98, .int .u8 97] 5 (2, 3))) := (Below.refl _ _).alloc (Nat.le_refl _) _
 have HAn := Lib.hid ((HA7).out.next hbn)
 have HF := Lib.hid (pfull_go x B cap (some ⟨w7.heap.size, 0, none⟩) 2 [98, 97] _ HSZ.out HAn.out.cap HAn.out.tree (bytes_new w7 (w7).heap.size [98, 97] _ (2, 3) rfl rfl (by decide) (by decide)) (by decide) (TabAt.below HAn.out.below hw0 HTB.out) (Nat.lt_of_lt_of_le hw0 HAn.out.below.size))
 rw [HSY.out.2.2.1] at HF
 unfold ndV at HF
 clear hbn
 go_wp2_with fail
 refine HF.out.mono ?_
 rintro e w8 ⟨rfl, hb8⟩
 have HA8 := Lib.hid (HAn.out.next hb8)
 clear hb8 HF HAn HA7 x0 x1 x2 x3 x4 x5 x6 x7 lx
 dsimp only
 obtain ⟨x0, x1, x2, x3, x4, x5, x6, x7⟩ : _ ∧ _ ∧ _ ∧ _ ∧ _ ∧ _ ∧ _ ∧ _ := ⟨HA8.out.box.cell 0, HA8.out.box.cell 1, HA8.out.box.cell 2, HA8.out.box.cell 3, HA8.out.box.cell 4, HA8.out.box.cell 5, HA8.out.box.cell 6, HA8.out.box.cell 7⟩
 simp only [List.getElem?_toArray, List.getElem?_cons_zero, List.getElem?_cons_succ, ndA] at x0 x1 x2 x3 x4 x5 x6 x7
 have lx := HA8.out.box.lt
 have hbn : Below (w8).heap.size w8 ((w8).alloc (.cells #[.int .u8 99, .int .u8 97, .int .u8 98] 5 (3, 4))) := (Below.refl _ _).alloc (Nat.le_refl _) _
 have HAn := Lib.hid ((HA8).out.next hbn)
 have HF := Lib.hid (plong_go x B cap (some ⟨w8.heap.size, 0, none⟩) 3 1 [99, 97, 98] _ HSZ.out HAn.out.cap HAn.out.tree (bytes_new w8 (w8).heap.size [99, 97, 98] _ (3, 4) rfl rfl (by decide) (by decide)) (by decide) (TabAt.below HAn.out.below hw0 HTB.out) (Nat.lt_of_lt_of_le hw0 HAn.out.below.size))
 rw [HSY.out.2.2.2.1] at HF
 unfold ndV at HF
 clear hbn
 go_wp2_with fail
 refine HF.out.mono ?_
 rintro e w9 ⟨rfl, hb8⟩
 have HA9 := Lib.hid (HAn.out.next hb8)
 clear hb8 HF HAn HA8 x0 x1 x2 x3 x4 x5 x6 x7 lx
 dsimp only
 go_wp2
 go_light
 go_ret
 exact ⟨rfl, HA9.out.below⟩
end Go.Proofs.YtofbfafnpdaejaaGreatDoor
