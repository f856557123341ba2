/- Texts of the claim. -/
import Derived.Test.YtfekpkelmliejaaGreatDoorJCloX
import Derived.Test.YtfekpkelmliejaaGreatDoorJCloY
import Derived.Test.YtfekpkelmliejaaGreatDoorJZ01
namespace Go.Proofs.YtfekpkelmliejaaGreatDoor
open Go.RowKit
set_option linter.unusedSimpArgs false
set_option linter.unusedVariables false
set_option maxRecDepth 100000
set_option maxHeartbeats 8000000
theorem text_a (w : World) (n : Nat) (hn : n = w.heap.size) :
  Calls Tryz.prog 58 #[.slice (some ⟨n, 0, none⟩) 1 1] (w.alloc (.cells #[.int .u8 97] 5 (1, 2))) (TreeOut (.ok (leafN (maskOf (among [97] 1)))) (w.alloc (.cells #[.int .u8 97] 5 (1, 2)))) := by
 have h := text_go07 (some ⟨n, 0, none⟩) 1 [97] _ (bytes_new w n [97] _ (1, 2) hn rfl (by decide) (by decide)) (by decide)
 rw [parse_a7] at h
 exact h
theorem text_as (w : World) (n : Nat) (hn : n = w.heap.size) :
  Calls Tryz.prog 58 #[.slice (some ⟨n, 0, none⟩) 2 2] (w.alloc (.cells #[.int .u8 97, .int .u8 42] 5 (2, 3))) (TreeOut (.ok (starN (maskOf (among [97] 1)))) (w.alloc (.cells #[.int .u8 97, .int .u8 42] 5 (2, 3)))) := by
 have h := text_go07 (some ⟨n, 0, none⟩) 2 [97, 42] _ (bytes_new w n [97, 42] _ (2, 3) hn rfl (by decide) (by decide)) (by decide)
 rw [parse_as] at h
 exact h
theorem same_yes (A B : Option Addr) (ca cb : Nat) {L M : List Int} (e : L = M) (w : World) (hA : IntsAt w A L) (hB : IntsAt w B M) (hl : L.length ≤ 100000000) (hca : L.length ≤ ca) (hcb : M.length ≤ cb) :
  Calls Tryz.prog 28 #[.slice A L.length ca, .slice B M.length cb] w fun e w' => e = .returned (.bool true) ∧ Below w.heap.size w w' :=
 (rsame17_go A B ca cb L M w hA hB hl hca hcb).mono fun _ _ h => ⟨by rw [h.1, decide_eq_true e], h.2⟩
theorem two_int (w : World) : IntsAt (w.alloc (.cells #[.int .i64 1, .int .i64 2] 3)) (some ⟨w.heap.size, 0, none⟩) [1, 2] := fun i a ha => by
 have h := Blk.new w 3 #[.int .i64 1, .int .i64 2]
 match i, ha with
 | 0, ha => simp at ha; subst ha; exact ⟨_, _, rfl, h.cell 0⟩
 | 1, ha => simp at ha; subst ha; exact ⟨_, _, rfl, h.cell 1⟩
 | i + 2, ha => simp at ha
theorem two_rowC {w : World} {P : Nat → Prop} {g : Nat} {a b : Nd} {Ba Bb : Option Addr} {ca cb : Nat} (hB : Blk w g 28 (ndCell a Ba ca ++ ndCell b Bb cb).toArray) (hg : P g) (ha : a.kids.len ≤ ca) (hb : b.kids.len ≤ cb) (hta : TreesAt w P a.kids Ba) (htb : TreesAt w P b.kids Bb) :
  TreesAt w P (Trees.of [a, b]) (some ⟨g, 0, none⟩) :=
 ⟨g, 0, Ba, ca, rfl, hg, ha, ⟨hB.cell 0, hB.cell 1, hB.cell 2, hB.cell 3, hB.cell 4, hB.cell 5, hB.cell 6, hB.cell 7⟩, hta,
  g, 8, Bb, cb, rfl, hg, hb, ⟨hB.cell 8, hB.cell 9, hB.cell 10, hB.cell 11, hB.cell 12, hB.cell 13, hB.cell 14, hB.cell 15⟩, htb, trivial⟩
theorem of_two (w : World) (g s : Nat) (B C : Option Addr) (cb cc : Nat) (hg : g = w.heap.size) (hc : 1 ≤ cc) (ht : TreesAt w (fun b => b < w.heap.size) (Trees.of [leafN s]) C) :
  Calls Tryz.prog 74 #[.slice (some ⟨g, 0, none⟩) 2 2] (w.alloc (.cells (ndCell (leafN s) B cb ++ ndCell (starN s) C cc).toArray 28)) (NfaOut (.ok ⟨[0, 0, 1, 0, 0, 2], [(1, 2), (0, 3), (4, 3), (3, 5)], [(0, s, 1), (3, s, 4)]⟩) (w.alloc (.cells (ndCell (leafN s) B cb ++ ndCell (starN s) C cc).toArray 28))) := by
 have hb : Below w.heap.size w (w.alloc (.cells (ndCell (leafN s) B cb ++ ndCell (starN s) C cc).toArray 28)) := (Below.refl _ _).alloc (Nat.le_refl _) _
 have h := nof_go (Trees.of [leafN s, starN s]) (some ⟨g, 0, none⟩) 2 (w.alloc (.cells (ndCell (leafN s) B cb ++ ndCell (starN s) C cc).toArray 28)) (by simp [Trees.of, Trees.len]) (fun z hz => by
  rw [Trees.list_of] at hz
  simp at hz
  rcases hz with rfl | rfl
  ·simp [leafN, Nd.size, Trees.size]
  ·simp [starN, leafN, Nd.size, Trees.size, Trees.of]) (two_rowC (Blk.new_at hg) (by simp; omega) (Nat.zero_le _) hc trivial ((ht.below hb).weak (fun b h1 _ => by simp; omega)))
 rw [Trees.list_of, of_as] at h
 exact h
theorem Blk.c8 {w : World} {g : Nat} {t : TypeId} {a b c d e f h i : Value} (hB : Blk w g t #[a, b, c, d, e, f, h, i]) : w.cell? ⟨g, 0, none⟩ = some a ∧ w.cell? ⟨g, 1, none⟩ = some b ∧ w.cell? ⟨g, 2, none⟩ = some c ∧ w.cell? ⟨g, 3, none⟩ = some d ∧ w.cell? ⟨g, 4, none⟩ = some e ∧ w.cell? ⟨g, 5, none⟩ = some f ∧ w.cell? ⟨g, 6, none⟩ = some h ∧ w.cell? ⟨g, 7, none⟩ = some i := ⟨hB.cell 0, hB.cell 1, hB.cell 2, hB.cell 3, hB.cell 4, hB.cell 5, hB.cell 6, hB.cell 7⟩
theorem knows17_go (w : World) (hT : TabAt 1 Lib.deBruijn64tab w) (hw0 : 1 < w.heap.size) :
  Calls Tryz.prog 27 #[] w fun e w' => e = .returned (.bool true) ∧ Below w.heap.size w w' := by
 have kc : ∀ (w : World) (g : Nat) (C : Array Value) (n c : Nat), g = w.heap.size → (convert 30 30 (.slice (some ⟨g, 0, none⟩) n c)).run Tryz.prog (w.alloc (.cells C 5)) = .ok (.slice (some ⟨g, 0, none⟩) n c) (w.alloc (.cells C 5 (C.size, C.size + 1))) := fun w g C n c hg => by
  subst hg
  exact Lib.run_convert_bytes_const (P := Tryz.prog) w 30 5 C n c Tryz.underlying30 Tryz.underlying5
 have hm := mask_97
 go_enter Tryz.func27, Tryz.ntmps27
 go_wp2_with fail
 refine (text_a _ _ rfl).mono ?_
 rintro e w1 ⟨B, cap, rfl, hb1, hc1, ht1⟩
 have HB1 := Lib.hid (((Below.refl w.heap.size w).alloc (Nat.le_refl _) (.cells #[.int .u8 97] 5 (1, 2))).trans (hb1.mono (by simp)))
 clear hb1 hc1 ht1
 unfold leafN
 dsimp only
 generalize hs : maskOf (among [97] 1) = s at *
 have HM := Lib.hid hm
 have HSe := Lib.hid hs
 clear hm hs
 unfold ndV
 dsimp only
 go_wp2_with fail
 have hs12 : w1.heap.size + 1 + 1 = ((w1.alloc (.cells #[.int .i64 3, .int .u64 (word (Nat.testBit s) 0), .int .u64 (word (Nat.testBit s) 1), .int .u64 (word (Nat.testBit s) 2), .int .u64 (word (Nat.testBit s) 3), .slice B Trees.nil.len cap, .int .i64 0, .int .i64 0] 28)).alloc (.cells #[.int .i64 0, .int .i64 0] 75)).heap.size := by simp
 have hb12 : Below w1.heap.size w1 ((w1.alloc (.cells #[.int .i64 3, .int .u64 (word (Nat.testBit s) 0), .int .u64 (word (Nat.testBit s) 1), .int .u64 (word (Nat.testBit s) 2), .int .u64 (word (Nat.testBit s) 3), .slice B Trees.nil.len cap, .int .i64 0, .int .i64 0] 28)).alloc (.cells #[.int .i64 0, .int .i64 0] 75)) := ((Below.refl _ _).alloc (Nat.le_refl _) _).alloc (by simp) _
 have HX := Lib.hid ((Blk.new w1 28 #[.int .i64 3, .int .u64 (word (Nat.testBit s) 0), .int .u64 (word (Nat.testBit s) 1), .int .u64 (word (Nat.testBit s) 2), .int .u64 (word (Nat.testBit s) 3), .slice B Trees.nil.len cap, .int .i64 0, .int .i64 0]).alloc (.cells #[.int .i64 0, .int .i64 0] 75))
 have HB2 := Lib.hid (HB1.out.trans (hb12.mono HB1.out.size))
 generalize hbx : w1.heap.size = bx at *
 generalize (w1.alloc (.cells #[.int .i64 3, .int .u64 (word (Nat.testBit s) 0), .int .u64 (word (Nat.testBit s) 1), .int .u64 (word (Nat.testBit s) 2), .int .u64 (word (Nat.testBit s) 3), .slice B Trees.nil.len cap, .int .i64 0, .int .i64 0] 28)).alloc (.cells #[.int .i64 0, .int .i64 0] 75) = w2 at *
 have HC := Lib.hid (text_as w2 (bx + 1 + 1) hs12)
 go_wp2_with fail
 refine HC.out.mono ?_
 rintro e w3 ⟨C, cc, rfl, hb3, hc3, ht3⟩
 rw [HSe.out] at hc3 ht3
 rw [HSe.out]
 have hb03 : Below w2.heap.size w2 w3 := ((Below.refl _ _).alloc (Nat.le_refl _) _).trans (hb3.mono (by simp))
 have HX3 := Lib.hid (HX.out.below hb03 HX.out.lt)
 have HB3 := Lib.hid (HB2.out.trans (hb03.mono HB2.out.size))
 have hw4 : ∀ cs ds, Below w3.heap.size w3 ((w3.alloc (.cells cs 28)).alloc (.cells ds 75)) := fun cs ds => ((Below.refl _ _).alloc (Nat.le_refl _) _).alloc (by simp) _
 have HY := Lib.hid ((Blk.new w3 28 #[.int .i64 6, .int .u64 (word (Nat.testBit 0) 0), .int .u64 (word (Nat.testBit 0) 1), .int .u64 (word (Nat.testBit 0) 2), .int .u64 (word (Nat.testBit 0) 3), .slice C (starN s).kids.len cc, .int .i64 0, .int .i64 0]).alloc (.cells #[.int .i64 0, .int .i64 0] 75))
 have HT4 := Lib.hid ((ht3.below (hw4 #[.int .i64 6, .int .u64 (word (Nat.testBit 0) 0), .int .u64 (word (Nat.testBit 0) 1), .int .u64 (word (Nat.testBit 0) 2), .int .u64 (word (Nat.testBit 0) 3), .slice C (starN s).kids.len cc, .int .i64 0, .int .i64 0] #[.int .i64 0, .int .i64 0])).weak (fun b _ h => h))
 have HX4 := Lib.hid (HX3.out.below (hw4 #[.int .i64 6, .int .u64 (word (Nat.testBit 0) 0), .int .u64 (word (Nat.testBit 0) 1), .int .u64 (word (Nat.testBit 0) 2), .int .u64 (word (Nat.testBit 0) 3), .slice C (starN s).kids.len cc, .int .i64 0, .int .i64 0] #[.int .i64 0, .int .i64 0]) HX3.out.lt)
 have HB4 := Lib.hid (HB3.out.trans ((hw4 #[.int .i64 6, .int .u64 (word (Nat.testBit 0) 0), .int .u64 (word (Nat.testBit 0) 1), .int .u64 (word (Nat.testBit 0) 2), .int .u64 (word (Nat.testBit 0) 3), .slice C (starN s).kids.len cc, .int .i64 0, .int .i64 0] #[.int .i64 0, .int .i64 0]).mono HB3.out.size))
 have HC3 := Lib.hid hc3
 have HKC := Lib.hid kc
 clear hb3 hc3 ht3 hb03 hw4 HX HC kc hs12 hb12 HX3 HB3
 have hst : (starN s).kind = 6 ∧ (starN s).set = 0 ∧ (starN s).lo = 0 ∧ (starN s).hi = 0 := ⟨rfl, rfl, rfl, rfl⟩
 unfold ndV
 rw [hst.1, hst.2.1, hst.2.2.1, hst.2.2.2]
 dsimp only
 go_upto_region 3 with fail
 generalize hby : w3.heap.size = bY at *
 generalize (w3.alloc (.cells #[.int .i64 6, .int .u64 (word (Nat.testBit 0) 0), .int .u64 (word (Nat.testBit 0) 1), .int .u64 (word (Nat.testBit 0) 2), .int .u64 (word (Nat.testBit 0) 3), .slice C (starN s).kids.len cc, .int .i64 0, .int .i64 0] 28)).alloc (.cells #[.int .i64 0, .int .i64 0] 75) = w4 at *
 clear hby hst
 obtain ⟨x0, x1, x2, x3, x4, x5, x6, x7⟩ := HX4.out.c8
 obtain ⟨y0, y1, y2, y3, y4, y5, y6, y7⟩ := HY.out.c8
 have hlx := HX4.out.lt
 have hly := HY.out.lt
 have HO := Lib.hid (of_two w4 w4.heap.size s B C cap cc rfl HC3.out HT4.out)
 have hbo : Below w4.heap.size w4 (w4.alloc (.cells (ndCell (leafN s) B cap ++ ndCell (starN s) C cc).toArray 28)) := (Below.refl _ _).alloc (Nat.le_refl _) _
 have HBo := Lib.hid (HB4.out.trans (hbo.mono HB4.out.size))
 clear hbo
 go_wp2_with fail
 refine HO.out.mono ?_
 rintro e w5 ⟨hb5, L, E, A, rfl, hR⟩
 obtain ⟨A1, k1, rfl, hk1⟩ := own_len_cap hR.l
 obtain ⟨A2, k2, rfl, hk2⟩ := own_len_cap hR.e
 obtain ⟨A3, k3, rfl, hk3⟩ := own_len_cap hR.a
 have hN := hR.nfaAt (by simp [FitsM, MachS.states])
 rw [toV_as] at hN
 have HB5 := Lib.hid (HBo.out.trans (hb5.mono HBo.out.size))
 clear hR HO hb5 x0 x1 x2 x3 x4 x5 x6 x7 y0 y1 y2 y3 y4 y5 y6 y7 hlx hly HX4 HY HT4 HC3 HBo HB4
 have hb6 : Below w5.heap.size w5 (w5.alloc (.cells #[.int .i64 6, .int .i64 0, .slice A1 4 k1, .slice A2 2 k2, .slice A3 6 k3] 43)) := (Below.refl _ _).alloc (Nat.le_refl _) _
 have HB6 := Lib.hid (HB5.out.trans (hb6.mono HB5.out.size))
 have HNw := Lib.hid (mnew_go (nE s) A1 k1 A2 k2 A3 k3 _ (hN.below hb6) hk1 hk2 hk3 (by simp [nE]) (by simp [nE]) (TabAt.below HB6.out hw0 hT) (by have := HB6.out.size; omega))
 clear hN hb6
 unfold nfA nE at HNw
 dsimp only [MachS.states, List.length_cons, List.length_nil] at HNw ⊢
 go_wp2_with fail
 refine HNw.out.mono ?_
 intro e w7 h7
 have h7 : NewC (nE s) _ e w7 := h7
 obtain ⟨hb7, h8⟩ := h7
 rcases h8 with ⟨h9, _⟩ | ⟨_, g, lm, em, A4, k4, rfl, hWk⟩
 ·rw [right_as] at h9
  cases h9
 have HB7 := Lib.hid (HB6.out.trans (hb7.mono HB6.out.size))
 have HW := Lib.hid hWk
 have HC := Lib.hid (mclos_go (right_as s))
 have HS := Lib.hid (mstep_go (mclos_go (right_as s)))
 have kc := HKC.out
 have hbA : Below w7.heap.size w7 (w7.alloc (.cells #[.int .u8 97] 5 (1, 2))) := (Below.refl _ _).alloc (Nat.le_refl _) _
 have HR1 := Lib.hid (mrun_go g lm em (nE s) HC.out HS.out (right_as s) A4 k4 _ (hWk.below hbA) (some ⟨w7.heap.size, 0, none⟩) 1 [97] (bytes_new w7 w7.heap.size [97] _ (1, 2) rfl rfl (by decide) (by decide)) (by simp))
 have HB8 := Lib.hid hbA
 clear hb7 hWk hbA HNw hk1 hk2 hk3 HB5 HB6
 dsimp only
 go_wp2_with fail
 refine HR1.out.mono ?_
 rintro e w8 ⟨R, A8, c8, hr, rfl, hb8, hi8, hc8⟩
 obtain rfl := run_one hr (run_as1 HM.out.1)
 have hb78 := HB8.out.trans (hb8.mono (by simp))
 have HL1 := Lib.hid (mlabels_go g lm em (nE s) A4 k4 w8 (HW.out.below hb78) (right_as s) A8 c8 [1, 2, 3, 4, 5] hi8 (by decide) hc8)
 have HB9 := Lib.hid hb78
 clear hb8 hi8 hc8 hb78 HR1 hr HB8
 dsimp only
 go_wp2_with fail
 refine HL1.out.mono ?_
 rintro e w9 ⟨R, A9, c9, hl, rfl, hb9, hi9, hc9⟩
 obtain rfl := labels_one hl (fun _ => Iff.rfl) lab_as1
 have hb79 := HB9.out.trans (hb9.mono HB9.out.size)
 have hbB : Below w9.heap.size w9 (w9.alloc (.cells #[.int .i64 1, .int .i64 2] 3)) := (Below.refl _ _).alloc (Nat.le_refl _) _
 have HSm := Lib.hid (same_yes A9 (some ⟨w9.heap.size, 0, none⟩) c9 2 (L := [1, 2]) (M := [1, 2]) rfl _ (hi9.below hbB) (two_int w9) (by simp) hc9 (by simp))
 have HBa := Lib.hid (hb79.trans (hbB.mono hb79.size))
 clear hl hb9 hi9 hc9 hb79 hbB HL1 HB9
 dsimp only
 go_wp2_with fail
 refine HSm.out.mono ?_
 rintro e wa ⟨rfl, hba⟩
 have hb7a := HBa.out.trans (hba.mono HBa.out.size)
 have HBb := Lib.hid hb7a
 clear hba hb7a HSm HBa
 dsimp only
 have hbA : Below (wa).heap.size (wa) ((wa).alloc (.cells #[.int .u8 97] 5 (1, 2))) := (Below.refl _ _).alloc (Nat.le_refl _) _
 have HT1 := Lib.hid (mtell_go g lm em (nE s) HC.out HS.out (right_as s) A4 k4 _ (HW.out.below ((HBb).out.trans (hbA.mono (HBb).out.size))) (some ⟨(wa).heap.size, 0, none⟩) 1 [97] (bytes_new (wa) (wa).heap.size [97] _ (1, 2) rfl rfl (by decide) (by decide)) (by simp))
 have HBt := Lib.hid ((HBb).out.trans (hbA.mono (HBb).out.size))
 clear hbA
 go_wp2_with fail
 refine HT1.out.mono ?_
 rintro e wb ⟨x, hx, rfl, hbt⟩
 obtain rfl := tell_one hx (tell_as1 HM.out.1)
 have HBc := Lib.hid (HBt.out.trans (hbt.mono HBt.out.size))
 clear hx hbt HT1 HBt
 dsimp only
 have hbA : Below (wb).heap.size (wb) ((wb).alloc (.cells #[.int .u8 97, .int .u8 97] 5 (2, 3))) := (Below.refl _ _).alloc (Nat.le_refl _) _
 have HT1 := Lib.hid (mtell_go g lm em (nE s) HC.out HS.out (right_as s) A4 k4 _ (HW.out.below ((HBc).out.trans (hbA.mono (HBc).out.size))) (some ⟨(wb).heap.size, 0, none⟩) 2 [97, 97] (bytes_new (wb) (wb).heap.size [97, 97] _ (2, 3) rfl rfl (by decide) (by decide)) (by simp))
 have HBt := Lib.hid ((HBc).out.trans (hbA.mono (HBc).out.size))
 clear hbA
 go_wp2_with fail
 refine HT1.out.mono ?_
 rintro e wc ⟨x, hx, rfl, hbt⟩
 obtain rfl := tell_one hx (tell_as2 HM.out.1)
 have HBd := Lib.hid (HBt.out.trans (hbt.mono HBt.out.size))
 clear hx hbt HT1 HBt
 dsimp only
 have hbA : Below (wc).heap.size (wc) ((wc).alloc (.cells #[.int .u8 98] 5 (1, 2))) := (Below.refl _ _).alloc (Nat.le_refl _) _
 have HT1 := Lib.hid (mtell_go g lm em (nE s) HC.out HS.out (right_as s) A4 k4 _ (HW.out.below ((HBd).out.trans (hbA.mono (HBd).out.size))) (some ⟨(wc).heap.size, 0, none⟩) 1 [98] (bytes_new (wc) (wc).heap.size [98] _ (1, 2) rfl rfl (by decide) (by decide)) (by simp))
 have HBt := Lib.hid ((HBd).out.trans (hbA.mono (HBd).out.size))
 clear hbA
 go_wp2_with fail
 refine HT1.out.mono ?_
 rintro e wd ⟨x, hx, rfl, hbt⟩
 obtain rfl := tell_one hx (tell_asb HM.out.2)
 have HBe := Lib.hid (HBt.out.trans (hbt.mono HBt.out.size))
 clear hx hbt HT1 HBt
 dsimp only
 go_wp2
 go_light
 go_ret
 exact ⟨rfl, HB7.out.trans (HBe.out.mono HB7.out.size)⟩
end Go.Proofs.YtfekpkelmliejaaGreatDoor
