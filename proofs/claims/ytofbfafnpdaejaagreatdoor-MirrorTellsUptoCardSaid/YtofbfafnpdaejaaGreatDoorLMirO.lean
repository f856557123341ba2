/- Texts of the claim. -/
import Derived.Test.YtofbfafnpdaejaaGreatDoorLZ04
namespace Go.Proofs.YtofbfafnpdaejaaGreatDoor
open Go.RowKit
set_option linter.unusedSimpArgs false
set_option linter.unusedVariables false
set_option maxRecDepth 100000
set_option maxHeartbeats 8000000
theorem own_le {w : World} {base size n m c : Nat} {e : TypeId} {A : Option Addr} {xs : List Value} (h : w.ownsRow base e size (.slice A m c) n xs) : m ≤ c := by
 rcases h.2 with ⟨h1, h2⟩ | ⟨g, cap, cur, h1, h2, h3⟩
 ·obtain ⟨_, rfl, rfl⟩ := Value.slice.inj h1
  exact Nat.le_refl _
 ·obtain ⟨_, rfl, rfl⟩ := Value.slice.inj h1
  exact h3.2.1
theorem mir_yes (start : Nat) (L : List (Int × Int)) (E : List (Int × Nat × Int)) (C : List Int) (A1 : Option Addr) (k1 : Nat) (A2 : Option Addr) (k2 : Nat) (A3 : Option Addr) (k3 : Nat) (label : Int) (w : World) (hN : NfaAt w (NfaV.mk (C.length : Int) (start : Int) L E C) A1 A2 A3)
  (hr : rightN (NfaV.mk (C.length : Int) (start : Int) L E C) = true) (hC : C.length ≤ 65535) (hs : start < C.length) (hl1 : 1 ≤ label) (hl2 : label ≤ 64) (hL : L.length ≤ 1048576) (hE : E.length ≤ 1048576) :
  Calls Tryz.prog 17 #[.agg #[.int .i64 (C.length : Int), .int .i64 (start : Int), .slice A1 L.length k1, .slice A2 E.length k2, .slice A3 C.length k3], .int .i64 label] w fun e w' => ∃ B1 j1 B2 j2 B3 j3, e = .returned (.tuple #[.agg (nfA (mirV (NfaV.mk (C.length : Int) (start : Int) L E C) label) B1 j1 B2 j2 B3 j3), .int .i64 0]) ∧ NfaAt w' (mirV (NfaV.mk (C.length : Int) (start : Int) L E C) label) B1 B2 B3 ∧ Below w.heap.size w w' ∧ (mirV (NfaV.mk (C.length : Int) (start : Int) L E C) label).links.length ≤ j1 ∧ (mirV (NfaV.mk (C.length : Int) (start : Int) L E C) label).edges.length ≤ j2 ∧ (mirV (NfaV.mk (C.length : Int) (start : Int) L E C) label).accept.length ≤ j3 := by
 obtain ⟨i0, hi0, hz0, hz1, hz2⟩ := info_parts info_intN
 obtain ⟨j0, hj0, hy0, hy1, hy2⟩ := info_parts info_linkN
 have hb2 : Below w.heap.size w ((w.alloc (.cells #[.int .i64 (C.length : Int), .int .i64 (start : Int), .slice A1 L.length k1, .slice A2 E.length k2, .slice A3 C.length k3] 40)).alloc (.cells #[.int .i64 0, .int .i64 0, .slice none 0 0, .slice none 0 0, .slice none 0 0] 40)) := ((Below.refl _ _).alloc (Nat.le_refl _) _).alloc (by simp) _
 have HB2 := Lib.hid hb2
 have HX2 := Lib.hid (show Blk ((w.alloc (.cells #[.int .i64 (C.length : Int), .int .i64 (start : Int), .slice A1 L.length k1, .slice A2 E.length k2, .slice A3 C.length k3] 40)).alloc (.cells #[.int .i64 0, .int .i64 0, .slice none 0 0, .slice none 0 0, .slice none 0 0] 40)) w.heap.size 40 #[.int .i64 (C.length : Int), .int .i64 (start : Int), .slice A1 L.length k1, .slice A2 E.length k2, .slice A3 C.length k3] from (Blk.new _ _ _).alloc _)
 have HZ2 := Lib.hid (show Blk ((w.alloc (.cells #[.int .i64 (C.length : Int), .int .i64 (start : Int), .slice A1 L.length k1, .slice A2 E.length k2, .slice A3 C.length k3] 40)).alloc (.cells #[.int .i64 0, .int .i64 0, .slice none 0 0, .slice none 0 0, .slice none 0 0] 40)) (w.heap.size + 1) 40 #[.int .i64 0, .int .i64 0, .slice none 0 0, .slice none 0 0, .slice none 0 0] from Blk.new_at (by simp))
 have HR := Lib.hid (nright_go (NfaV.mk (C.length : Int) (start : Int) L E C) A1 k1 A2 k2 A3 k3 _ (hN.below hb2))
 have HN2 := Lib.hid (hN.below hb2)
 have HN0 := Lib.hid hN
 rw [hr] at HR
 have hmk : ∀ W : World, (Instr.makeSlice 38 (.int .i64 ((C.length : Int) + 1)) (.int .i64 ((C.length : Int) + 1))).run Tryz.prog W = .ok (.slice (some ⟨W.heap.size, 0, none⟩) (C.length + 1) (C.length + 1)) (W.alloc (.cells (madeCells (Value.int .i64 0).cells ((C.length + 1) * 1)) 3)) := fun W => by
  have h := run_make (P := Tryz.prog) (w := W) 38 3 i0 _ Tryz.underlying38 hi0 hz0 .i64 .i64 ((C.length + 1 : Nat) : Int) ((C.length + 1 : Nat) : Int) (by omega) (by omega) (by rw [hz2]; omega) (by omega)
  rw [hz1] at h
  simpa using h
 have hadd : IntKind.i64.wrap ((C.length : Int) + 1) = (C.length : Int) + 1 := by rw [IntKind.wrap_i64]; omega
 have hne : ((C.length : Int) == 65536) = false := by simp; omega
 have n1 : ¬ label < 1 := by omega
 have n2 : ¬ 64 < label := by omega
 clear hb2 hN hr
 unfold nfA at HR
 go_enter Tryz.func17, Tryz.ntmps17
 go_upto_region 1 with fail
 generalize ((w.alloc (.cells #[.int .i64 (C.length : Int), .int .i64 (start : Int), .slice A1 L.length k1, .slice A2 E.length k2, .slice A3 C.length k3] 40)).alloc (.cells #[.int .i64 0, .int .i64 0, .slice none 0 0, .slice none 0 0, .slice none 0 0] 40)) = w2 at *
 have hX := HX2.out
 have x0 := hX.cell 0
 have x1 := hX.cell 1
 have x2 := hX.cell 2
 have x3 := hX.cell 3
 have x4 := hX.cell 4
 have hlx := hX.lt
 clear hX
 simp only [List.getElem?_toArray, List.getElem?_cons_zero, List.getElem?_cons_succ] at x0 x1 x2 x3 x4
 go_wp2_with fail
 refine HR.out.mono ?_
 rintro e w3 ⟨rfl, hb3⟩
 have hX3 := HX2.out.below hb3 HX2.out.lt
 have y0 := hX3.cell 0
 have y1 := hX3.cell 1
 simp only [List.getElem?_toArray, List.getElem?_cons_zero, List.getElem?_cons_succ] at y0 y1
 have hlx3 := hX3.lt
 have HX3 := Lib.hid hX3
 have HZ3 := Lib.hid (HZ2.out.below hb3 HZ2.out.lt)
 have HB3 := Lib.hid (HB2.out.trans (hb3.mono HB2.out.size))
 have HN3 := Lib.hid (HN2.out.below hb3)
 clear hX3 hb3 x0 x1 x2 x3 x4 HR HX2 HZ2 HB2 HN2 hlx
 dsimp only
 go_wp2
 go_region_held3 (fun w' => w'.cell? ⟨w.heap.size, 0, none⟩ = some (.int .i64 (C.length : Int)) ∧ w'.cell? ⟨w.heap.size, 1, none⟩ = some (.int .i64 (start : Int))) (go_keep) (fail)
 ·have HM := Lib.hid (show Blk ((w3.alloc (.cells (madeCells #[.int .i64 0] (C.length + 1)) 3)).alloc (.cells #[.int .i64 ((C.length : Int) + 1), .int .i64 (C.length : Int), .slice none 0 0, .slice none 0 0, .slice (some ⟨w3.heap.size, 0, none⟩) (C.length + 1) (C.length + 1)] 40)).drew (w3.heap.size + 1) 40 #[.int .i64 ((C.length : Int) + 1), .int .i64 (C.length : Int), .slice none 0 0, .slice none 0 0, .slice (some ⟨w3.heap.size, 0, none⟩) (C.length + 1) (C.length + 1)] ∧ Blk ((w3.alloc (.cells (madeCells #[.int .i64 0] (C.length + 1)) 3)).alloc (.cells #[.int .i64 ((C.length : Int) + 1), .int .i64 (C.length : Int), .slice none 0 0, .slice none 0 0, .slice (some ⟨w3.heap.size, 0, none⟩) (C.length + 1) (C.length + 1)] 40)).drew w3.heap.size 3 (madeCells #[.int .i64 0] (C.length + 1)) ∧ Below w3.heap.size w3 ((w3.alloc (.cells (madeCells #[.int .i64 0] (C.length + 1)) 3)).alloc (.cells #[.int .i64 ((C.length : Int) + 1), .int .i64 (C.length : Int), .slice none 0 0, .slice none 0 0, .slice (some ⟨w3.heap.size, 0, none⟩) (C.length + 1) (C.length + 1)] 40)).drew ∧ w3.heap.size + 1 ≠ w3.heap.size ∧ w3.heap.size ≤ w3.heap.size + 1 ∧ w3.heap.size ≤ w3.heap.size from
   ⟨Blk.new_at (by simp), (Blk.new _ _ _).alloc _, (((Below.refl _ _).alloc (Nat.le_refl _) _).alloc (by simp) _).drew, by omega, by omega, Nat.le_refl _⟩)
  generalize ((w3.alloc (.cells (madeCells #[.int .i64 0] (C.length + 1)) 3)).alloc (.cells #[.int .i64 ((C.length : Int) + 1), .int .i64 (C.length : Int), .slice none 0 0, .slice none 0 0, .slice (some ⟨w3.heap.size, 0, none⟩) (C.length + 1) (C.length + 1)] 40)).drew = w5 at *
  have HG := Lib.hid (show w.heap.size + 1 < w3.heap.size + 1 ∧ w.heap.size + 1 < w3.heap.size by have := HZ3.out.lt; omega)
  have HX5 := Lib.hid (HX3.out.below HM.out.2.2.1 HX3.out.lt)
  have HZ5 := Lib.hid (HZ3.out.below HM.out.2.2.1 HZ3.out.lt)
  have HN5 := Lib.hid (HN3.out.below HM.out.2.2.1)
  have HB5 := Lib.hid (HB3.out.trans (HM.out.2.2.1.mono HB3.out.size))
  clear HX3 HZ3 HN3 HB3 hlx3 y0 y1
  generalize w3.heap.size + 1 = gm at *
  generalize w3.heap.size = gA at *
  have q2 := HX5.out.cell 2
  have hlx5 := HX5.out.lt
  simp only [List.getElem?_toArray, List.getElem?_cons_zero, List.getElem?_cons_succ] at q2
  have HE := Lib.hid (eachlink_go L A1 k1 w5 (by omega) HN5.out.l)
  go_wp2_with fail
  refine HE.out.mono ?_
  rintro e w6 ⟨u, rfl, hown, hb6⟩
  obtain ⟨D1, d1, rfl⟩ := own_slice hown
  have hgl := HM.out.1.lt
  have hm6 := HM.out.1.below hb6 hgl
  have f2 := hm6.frozen 2
  have m2 := hm6.cell 2
  have q3 := (HX5.out.below hb6 HX5.out.lt).cell 3
  simp only [List.getElem?_toArray, List.getElem?_cons_zero, List.getElem?_cons_succ] at m2 q3
  have hne : some gm ≠ (Value.slice D1 L.length d1).ownBlock := fun e => by have := (hown.lt gm e.symm).1; omega
  have hxm : w.heap.size ≠ gm := by have := HG.out.1; omega
  have HU7 := Lib.hid (own_set (o := 2) (u := .slice D1 L.length d1) hown hne)
  have HM7 := Lib.hid (hm6.set_ 2 (.slice D1 L.length d1))
  have HB67 := Lib.hid hb6
  have HB7 := Lib.hid ((HB5.out.trans (hb6.mono HB5.out.size)).setCell (p := ⟨gm, 2, none⟩) (by show w.heap.size ≤ gm; have := HG.out.1; omega) (.slice D1 L.length d1))
  have HE2 := Lib.hid (eachedge_go E A2 k2 (w6.setCell ⟨gm, 2, none⟩ (.slice D1 L.length d1)) (by omega) (HN0.out.below HB7.out).e)
  clear hm6 hown hb6 HE q2 hne
  dsimp only
  go_wp2_with fail
  refine HE2.out.mono ?_
  rintro e w8 ⟨u, rfl, hown, hb8⟩
  obtain ⟨D2, d2, rfl⟩ := own_slice hown
  have hl7 := HM7.out.lt
  have hm8 := HM7.out.below hb8 hl7
  have f3 := hm8.frozen 3
  have m3 := hm8.cell 3
  simp only [List.setIfInBounds_toArray, List.set_cons_succ, List.set_cons_zero, List.getElem?_toArray, List.getElem?_cons_zero, List.getElem?_cons_succ] at m3
  have hX8 := ((HX5.out.below HB67.out HX5.out.lt).far (p := ⟨gm, 2, none⟩) hxm (.slice D1 L.length d1)).below hb8 (by have := HX5.out.lt; have := HB67.out.size; simp; omega)
  have q4 := hX8.cell 4
  simp only [List.getElem?_toArray, List.getElem?_cons_zero, List.getElem?_cons_succ] at q4
  have hne2 : some gm ≠ (Value.slice D2 E.length d2).ownBlock := fun e => by have := (hown.lt gm e.symm).1; simp at hl7 this; omega
  have hzm : w.heap.size + 1 ≠ gm := by have := HG.out.1; omega
  have hZ8 := ((HZ5.out.below HB67.out HZ5.out.lt).far (p := ⟨gm, 2, none⟩) hzm (.slice D1 L.length d1)).below hb8 (by have := HZ5.out.lt; have := HB67.out.size; simp; omega)
  have hgA := HM.out.2.2.2.1.symm
  have hA8 := ((HM.out.2.1.below HB67.out HM.out.2.1.lt).far (p := ⟨gm, 2, none⟩) hgA (.slice D1 L.length d1)).below hb8 (by have := HM.out.2.1.lt; have := HB67.out.size; simp; omega)
  have HB9 := (HB7.out.trans (hb8.mono HB7.out.size)).setCell (p := ⟨gm, 3, none⟩) (by show w.heap.size ≤ gm; have := HG.out.1; omega) (.slice D2 E.length d2)
  have HW9 := Lib.hid (show MW w (w8.setCell ⟨gm, 3, none⟩ (.slice D2 E.length d2)) w.heap.size (w.heap.size + 1) gm w5.heap.size #[.int .i64 (C.length : Int), .int .i64 (start : Int), .slice A1 L.length k1, .slice A2 E.length k2, .slice A3 C.length k3] #[.int .i64 0, .int .i64 0, .slice none 0 0, .slice none 0 0, .slice none 0 0] ((C.length : Int) + 1) (C.length : Int) (L.map flipL) (E.map flipE) (.slice D1 L.length d1) (.slice D2 E.length d2) (.slice (some ⟨gA, 0, none⟩) (C.length + 1) (C.length + 1)) from
   ⟨hX8.far (p := ⟨gm, 3, none⟩) hxm _, hZ8.far (p := ⟨gm, 3, none⟩) hzm _, hm8.set_ 3 _, by rw [List.length_map]; exact own_set (own_below HU7.out hb8) (fun e => by have := (HU7.out.lt gm e.symm).1; omega), by rw [List.length_map]; exact own_base (own_set hown hne2) (by have := HB67.out.size; simp; omega), HB9, ⟨by omega, by have := HG.out.1; omega, HB5.out.size⟩, ⟨hxm, hzm⟩, by have := HB67.out.size; have := hb8.size; simp at this ⊢; omega⟩)
  have HA9 := Lib.hid (hA8.far (p := ⟨gm, 3, none⟩) hgA (.slice D2 E.length d2))
  have HgA := Lib.hid (show gA ≠ gm ∧ w.heap.size + 1 < gA from ⟨hgA, HG.out.2⟩)
  clear hm8 hX8 hown hb8 HE2 hne2 HB67 HU7 HM7 HX5 HB7 hA8 hZ8 HB9 hgA hzm hxm HN5 HM HZ5 HB5
  dsimp only
  go_wp2
  generalize w8.setCell ⟨gm, 3, none⟩ (.slice D2 E.length d2) = w9 at *
  generalize w5.heap.size = base at *
  clear hgl hl7 hlx5 f3 m3 q4
  go_loopw [7, 8, 48] (fun sv av i wr => ∃ (k : Nat) (u : Value), i = .int .i64 (k : Int) ∧ k ≤ C.length ∧ Hid (MW w wr w.heap.size (w.heap.size + 1) gm base #[.int .i64 (C.length : Int), .int .i64 (start : Int), .slice A1 L.length k1, .slice A2 E.length k2, .slice A3 C.length k3] #[.int .i64 0, .int .i64 0, .slice none 0 0, .slice none 0 0, .slice none 0 0] ((C.length : Int) + 1) (C.length : Int) (L.map flipL ++ markTo (NfaV.mk (C.length : Int) (start : Int) L E C) label k) (E.map flipE) u (.slice D2 E.length d2) (.slice (some ⟨gA, 0, none⟩) (C.length + 1) (C.length + 1))) ∧ Hid (Blk wr gA 3 (madeCells #[.int .i64 0] (C.length + 1)))) (fun _ _ i _ => C.length - (intOf i).toNat)
  case atStart => exact ⟨0, _, rfl, Nat.zero_le _, by rw [show markTo (NfaV.mk (C.length : Int) (start : Int) L E C) label 0 = [] from rfl, List.append_nil]; exact HW9, HA9⟩
  case round =>
   clear HW9 HA9
   obtain ⟨k, u, rfl, hk, HW, HA⟩ := hrel
   by_cases hlt : k < C.length
   ·obtain ⟨c, hc⟩ : ∃ c, C[k]? = some c := ⟨_, List.getElem?_eq_getElem hlt⟩
    obtain ⟨b, o, rfl, c0⟩ := (HN0.out.below HW.out.b).a k c hc
    have HTk := Lib.hid (markTo_succ (N := (NfaV.mk (C.length : Int) (start : Int) L E C)) (label := label) (k := k) hc)
    have hmk := markTo_len (NfaV.mk (C.length : Int) (start : Int) L E C) label k
    have hdl : (k : Int) < (C.length : Int) := by omega
    have hlen : (L.map flipL ++ markTo (NfaV.mk (C.length : Int) (start : Int) L E C) label k).length ≤ 1048576 + 65535 := by rw [List.length_append, List.length_map]; omega
    clear hc hmk
    by_cases hcl : c = label
    ·subst hcl
     rw [if_pos rfl] at HTk
     have HLk := Lib.hid (show L.map flipL ++ markTo (NfaV.mk (C.length : Int) (start : Int) L E C) c (k + 1) = L.map flipL ++ markTo (NfaV.mk (C.length : Int) (start : Int) L E C) c k ++ [((C.length : Int), (k : Int))] by rw [HTk.out, List.append_assoc])
     clear HTk
     generalize L.map flipL ++ markTo (NfaV.mk (C.length : Int) (start : Int) L E C) c k = Lk at *
     have hm0 := HW.out.m
     have m2 := hm0.cell 2
     have x0 := HW.out.x.cell 0
     have hlm := hm0.lt
     simp only [List.getElem?_toArray, List.getElem?_cons_zero, List.getElem?_cons_succ] at m2 x0
     have h63 : Lk.length + 1 ≤ maxLen := Nat.le_trans (by omega) (show 2000000 ≤ maxLen by decide)
     have hby : (Lk.length + 1) * 16 ≤ 140737488355328 := by omega
     have hsz : base ≤ wr.heap.size := HW.out.sz
     have Hne := Lib.hid (blk_not_row hm0 (by decide) HW.out.l)
     have HneA := Lib.hid (blk_not_row HA.out (by decide) HW.out.l)
     clear hm0
     go_wp2_with (at_builtin; refine wpList_append_lies _ rfl _ _ 36 rfl base 85 j0 _ 2 16 Tryz.underlying36 hj0 hy0 hy1 hy2 rfl (by decide) u Lk.length (linksI Lk) rfl (HW.out.l.alloc _) ⟨wr.heap.size, 0, none⟩ 1 1 (linkI ((C.length : Int), (k : Int))) rfl rfl (World.news_of_block (Blk.new_at (cs := #[.int .i64 (C.length : Int), .int .i64 (k : Int)]) (t := 85) (by simp))) (by simp [Value.oneCell', linkI]) (by decide) h63 hby (by simp; omega) (wr.heap.size + 1) (by simp) ?_; intro gg capg wq hownq hgrowq hatq hgq; have hmq := grown_blk HW.out.m ((Below.refl _ _).alloc (Nat.le_refl _) _) hgrowq Hne.out; have mq2 := hmq.cell 2; have fq2 := hmq.frozen 2; simp only [List.getElem?_toArray, List.getElem?_cons_zero, List.getElem?_cons_succ] at mq2; have HW2 := Lib.hid (HW.out.link ((Below.refl _ _).alloc (Nat.le_refl _) _) hgrowq hownq); have HA2 := Lib.hid ((grown_blk HA.out ((Below.refl _ _).alloc (Nat.le_refl _) _) hgrowq HneA.out).far (p := ⟨gm, 2, none⟩) HgA.out.1 (.slice (some ⟨gg, 0, none⟩) (Lk.length + 1) capg)); clear hmq hownq hgrowq hatq)
     go_light
     go_roundw
     case rel => exact ⟨k + 1, _, by go_num, by omega, by rw [HLk.out]; exact HW2, HA2⟩
     case measure => simp [intOf]; omega
    ·have hne : (c == label) = false := by simpa using hcl
     rw [if_neg hcl, List.append_nil] at HTk
     rw [← HTk.out] at HW
     clear hcl HTk
     go_wp2
     go_roundw
     case rel => exact ⟨k + 1, u, by go_num, by omega, HW, HA⟩
     case measure => simp [intOf]; omega
   ·obtain rfl : k = C.length := by omega
    have hdl : ¬ ((C.length : Int) < (C.length : Int)) := by omega
    obtain ⟨Lk, hLk⟩ : ∃ Lk, L.map flipL ++ markTo (NfaV.mk (C.length : Int) (start : Int) L E C) label C.length = Lk := ⟨_, rfl⟩
    have hml := markTo_len (NfaV.mk (C.length : Int) (start : Int) L E C) label C.length
    have hll : Lk.length ≤ 140737488355328 := by rw [← hLk, List.length_append, List.length_map]; omega
    rw [hLk] at HW
    have HLk := Lib.hid hLk
    clear hLk hml
    have HL := Lib.hid HW.out.l
    obtain ⟨D0, d0, rfl⟩ := own_slice HL.out
    have hm0 := HW.out.m
    have hz0' := HW.out.z
    have hx0' := HW.out.x
    have m0 := hm0.cell 0
    have m1 := hm0.cell 1
    have m2 := hm0.cell 2
    have m3 := hm0.cell 3
    have m4 := hm0.cell 4
    have x1 := hx0'.cell 1
    have z0 := hz0'.cell 0
    have z1 := hz0'.cell 1
    have z2 := hz0'.cell 2
    have z3 := hz0'.cell 3
    have z4 := hz0'.cell 4
    have f0 := hz0'.frozen 0
    have f1 := hz0'.frozen 1
    have f2 := hz0'.frozen 2
    have f3 := hz0'.frozen 3
    have f4 := hz0'.frozen 4
    have a0 : wr.cell? ⟨gA, start, none⟩ = some (.int .i64 0) := by
     rw [HA.out.cell start, ← Array.getElem?_toList, toList_madeCells_one, List.getElem?_replicate, if_pos (by omega)]
    have fa := HA.out.frozen start
    have g1 := HgA.out.1
    have g2 : gA ≠ w.heap.size := by have := HgA.out.2; omega
    have g3 : gA ≠ w.heap.size + 1 := by have := HgA.out.2; omega
    have g4 := HW.out.ne.1
    have g5 := HW.out.ne.2
    have hlm := hm0.lt
    have hlz := hz0'.lt
    have hla := HA.out.lt
    have hsn : (start : Int) < (C.length : Int) + 1 := by omega
    simp only [List.getElem?_toArray, List.getElem?_cons_zero, List.getElem?_cons_succ] at m0 m1 m2 m3 m4 x1 z0 z1 z2 z3 z4
    clear hm0 hz0' hx0'
    have HX5 := Lib.hid (((((((HW.out.z.far (p := ⟨gA, start, none⟩) g3.symm (.int .i64 1)).set_ 0 (.int .i64 ((C.length : Int) + 1))).set_ 1 (.int .i64 (C.length : Int))).set_ 2 (.slice D0 Lk.length d0)).set_ 3 (.slice D2 E.length d2)).set_ 4 (.slice (some ⟨gA, 0, none⟩) (C.length + 1) (C.length + 1))))
    have HAE := Lib.hid ((((((HA.out.set_ start (.int .i64 1)).far (p := ⟨w.heap.size + 1, 0, none⟩) g3 (.int .i64 ((C.length : Int) + 1))).far (p := ⟨w.heap.size + 1, 1, none⟩) g3 (.int .i64 (C.length : Int))).far (p := ⟨w.heap.size + 1, 2, none⟩) g3 (.slice D0 Lk.length d0)).far (p := ⟨w.heap.size + 1, 3, none⟩) g3 (.slice D2 E.length d2)).far (p := ⟨w.heap.size + 1, 4, none⟩) g3 (.slice (some ⟨gA, 0, none⟩) (C.length + 1) (C.length + 1)))
    have nl := blk_not_row HA.out (by decide) HL.out
    have nz := blk_not_row HW.out.z (by decide) HL.out
    have nl2 := blk_not_row HA.out (by decide) HW.out.e
    have nz2 := blk_not_row HW.out.z (by decide) HW.out.e
    have HLE := Lib.hid (own_set (o := 4) (u := (.slice (some ⟨gA, 0, none⟩) (C.length + 1) (C.length + 1))) (own_set (o := 3) (u := .slice D2 E.length d2) (own_set (o := 2) (u := .slice D0 Lk.length d0) (own_set (o := 1) (u := .int .i64 (C.length : Int)) (own_set (o := 0) (u := .int .i64 ((C.length : Int) + 1)) (own_set (o := start) (u := .int .i64 1) HL.out nl) nz) nz) nz) nz) nz)
    have HEE := Lib.hid (own_set (o := 4) (u := (.slice (some ⟨gA, 0, none⟩) (C.length + 1) (C.length + 1))) (own_set (o := 3) (u := .slice D2 E.length d2) (own_set (o := 2) (u := .slice D0 Lk.length d0) (own_set (o := 1) (u := .int .i64 (C.length : Int)) (own_set (o := 0) (u := .int .i64 ((C.length : Int) + 1)) (own_set (o := start) (u := .int .i64 1) HW.out.e nl2) nz2) nz2) nz2) nz2) nz2)
    have hgA2 : w.heap.size ≤ gA := by have := HgA.out.2; omega
    have HBE := Lib.hid ((((((HW.out.b.setCell (p := ⟨gA, start, none⟩) hgA2 (.int .i64 1)).setCell (p := ⟨w.heap.size + 1, 0, none⟩) (Nat.le_succ _) (.int .i64 ((C.length : Int) + 1))).setCell (p := ⟨w.heap.size + 1, 1, none⟩) (Nat.le_succ _) (.int .i64 (C.length : Int))).setCell (p := ⟨w.heap.size + 1, 2, none⟩) (Nat.le_succ _) (.slice D0 Lk.length d0)).setCell (p := ⟨w.heap.size + 1, 3, none⟩) (Nat.le_succ _) (.slice D2 E.length d2)).setCell (p := ⟨w.heap.size + 1, 4, none⟩) (Nat.le_succ _) (.slice (some ⟨gA, 0, none⟩) (C.length + 1) (C.length + 1)))
    clear nl nz nl2 nz2
    go_wp2
    refine bodyPost_ret (ret_nfa18 Tryz.results17 rfl rfl HX5.out) rfl ⟨D0, d0, D2, d2, some ⟨gA, 0, none⟩, C.length + 1, ?_, ⟨by show LinksAt _ _ (L.map flipL ++ markTo (NfaV.mk (C.length : Int) (start : Int) L E C) label C.length); rw [HLk.out]; exact own_linksAt HLE.out, own_edgesAt HEE.out, blk_intsAt HAE.out (made_set _ _), ?_, ?_, ?_⟩, HBE.out, by show (L.map flipL ++ markTo (NfaV.mk (C.length : Int) (start : Int) L E C) label C.length).length ≤ d0; rw [HLk.out]; exact own_le HL.out, by show (E.map flipE).length ≤ d2; rw [List.length_map]; exact own_le HW.out.e, by show ((List.replicate (((C.length : Int)).toNat + 1) (0 : Int)).set _ 1).length ≤ _; rw [List.length_set, List.length_replicate]; omega⟩
    ·have e := HLk.out
     subst e
     unfold nfA mirV
     simp only [List.length_map, List.length_set, List.length_replicate]
     rfl
    ·show (L.map flipL ++ markTo (NfaV.mk (C.length : Int) (start : Int) L E C) label C.length).length ≤ _
     rw [HLk.out]
     exact hll
    ·show (E.map flipE).length ≤ _
     rw [List.length_map]
     omega
    ·show ((List.replicate (((C.length : Int)).toNat + 1) (0 : Int)).set _ 1).length ≤ _
     rw [List.length_set, List.length_replicate]
     omega
 ·have HM := Lib.hid (show Blk ((w3.alloc (.cells #[.int .i64 ((C.length : Int) + 1), .int .i64 (C.length : Int), .slice none 0 0, .slice none 0 0, .slice (some ⟨w3.heap.size + 1, 0, none⟩) (C.length + 1) (C.length + 1)] 40)).alloc (.cells (madeCells #[.int .i64 0] (C.length + 1)) 3)).drew w3.heap.size 40 #[.int .i64 ((C.length : Int) + 1), .int .i64 (C.length : Int), .slice none 0 0, .slice none 0 0, .slice (some ⟨w3.heap.size + 1, 0, none⟩) (C.length + 1) (C.length + 1)] ∧ Blk ((w3.alloc (.cells #[.int .i64 ((C.length : Int) + 1), .int .i64 (C.length : Int), .slice none 0 0, .slice none 0 0, .slice (some ⟨w3.heap.size + 1, 0, none⟩) (C.length + 1) (C.length + 1)] 40)).alloc (.cells (madeCells #[.int .i64 0] (C.length + 1)) 3)).drew (w3.heap.size + 1) 3 (madeCells #[.int .i64 0] (C.length + 1)) ∧ Below w3.heap.size w3 ((w3.alloc (.cells #[.int .i64 ((C.length : Int) + 1), .int .i64 (C.length : Int), .slice none 0 0, .slice none 0 0, .slice (some ⟨w3.heap.size + 1, 0, none⟩) (C.length + 1) (C.length + 1)] 40)).alloc (.cells (madeCells #[.int .i64 0] (C.length + 1)) 3)).drew ∧ w3.heap.size ≠ w3.heap.size + 1 ∧ w3.heap.size ≤ w3.heap.size ∧ w3.heap.size ≤ w3.heap.size + 1 from
   ⟨(Blk.new _ _ _).alloc _, Blk.new_at (by simp), (((Below.refl _ _).alloc (Nat.le_refl _) _).alloc (by simp) _).drew, by omega, Nat.le_refl _, by omega⟩)
  generalize ((w3.alloc (.cells #[.int .i64 ((C.length : Int) + 1), .int .i64 (C.length : Int), .slice none 0 0, .slice none 0 0, .slice (some ⟨w3.heap.size + 1, 0, none⟩) (C.length + 1) (C.length + 1)] 40)).alloc (.cells (madeCells #[.int .i64 0] (C.length + 1)) 3)).drew = w5 at *
  have HG := Lib.hid (show w.heap.size + 1 < w3.heap.size ∧ w.heap.size + 1 < w3.heap.size + 1 by have := HZ3.out.lt; omega)
  have HX5 := Lib.hid (HX3.out.below HM.out.2.2.1 HX3.out.lt)
  have HZ5 := Lib.hid (HZ3.out.below HM.out.2.2.1 HZ3.out.lt)
  have HN5 := Lib.hid (HN3.out.below HM.out.2.2.1)
  have HB5 := Lib.hid (HB3.out.trans (HM.out.2.2.1.mono HB3.out.size))
  clear HX3 HZ3 HN3 HB3 hlx3 y0 y1
  generalize w3.heap.size + 1 = gA at *
  generalize w3.heap.size = gm at *
  have q2 := HX5.out.cell 2
  have hlx5 := HX5.out.lt
  simp only [List.getElem?_toArray, List.getElem?_cons_zero, List.getElem?_cons_succ] at q2
  have HE := Lib.hid (eachlink_go L A1 k1 w5 (by omega) HN5.out.l)
  go_wp2_with fail
  refine HE.out.mono ?_
  rintro e w6 ⟨u, rfl, hown, hb6⟩
  obtain ⟨D1, d1, rfl⟩ := own_slice hown
  have hgl := HM.out.1.lt
  have hm6 := HM.out.1.below hb6 hgl
  have f2 := hm6.frozen 2
  have m2 := hm6.cell 2
  have q3 := (HX5.out.below hb6 HX5.out.lt).cell 3
  simp only [List.getElem?_toArray, List.getElem?_cons_zero, List.getElem?_cons_succ] at m2 q3
  have hne : some gm ≠ (Value.slice D1 L.length d1).ownBlock := fun e => by have := (hown.lt gm e.symm).1; omega
  have hxm : w.heap.size ≠ gm := by have := HG.out.1; omega
  have HU7 := Lib.hid (own_set (o := 2) (u := .slice D1 L.length d1) hown hne)
  have HM7 := Lib.hid (hm6.set_ 2 (.slice D1 L.length d1))
  have HB67 := Lib.hid hb6
  have HB7 := Lib.hid ((HB5.out.trans (hb6.mono HB5.out.size)).setCell (p := ⟨gm, 2, none⟩) (by show w.heap.size ≤ gm; have := HG.out.1; omega) (.slice D1 L.length d1))
  have HE2 := Lib.hid (eachedge_go E A2 k2 (w6.setCell ⟨gm, 2, none⟩ (.slice D1 L.length d1)) (by omega) (HN0.out.below HB7.out).e)
  clear hm6 hown hb6 HE q2 hne
  dsimp only
  go_wp2_with fail
  refine HE2.out.mono ?_
  rintro e w8 ⟨u, rfl, hown, hb8⟩
  obtain ⟨D2, d2, rfl⟩ := own_slice hown
  have hl7 := HM7.out.lt
  have hm8 := HM7.out.below hb8 hl7
  have f3 := hm8.frozen 3
  have m3 := hm8.cell 3
  simp only [List.setIfInBounds_toArray, List.set_cons_succ, List.set_cons_zero, List.getElem?_toArray, List.getElem?_cons_zero, List.getElem?_cons_succ] at m3
  have hX8 := ((HX5.out.below HB67.out HX5.out.lt).far (p := ⟨gm, 2, none⟩) hxm (.slice D1 L.length d1)).below hb8 (by have := HX5.out.lt; have := HB67.out.size; simp; omega)
  have q4 := hX8.cell 4
  simp only [List.getElem?_toArray, List.getElem?_cons_zero, List.getElem?_cons_succ] at q4
  have hne2 : some gm ≠ (Value.slice D2 E.length d2).ownBlock := fun e => by have := (hown.lt gm e.symm).1; simp at hl7 this; omega
  have hzm : w.heap.size + 1 ≠ gm := by have := HG.out.1; omega
  have hZ8 := ((HZ5.out.below HB67.out HZ5.out.lt).far (p := ⟨gm, 2, none⟩) hzm (.slice D1 L.length d1)).below hb8 (by have := HZ5.out.lt; have := HB67.out.size; simp; omega)
  have hgA := HM.out.2.2.2.1.symm
  have hA8 := ((HM.out.2.1.below HB67.out HM.out.2.1.lt).far (p := ⟨gm, 2, none⟩) hgA (.slice D1 L.length d1)).below hb8 (by have := HM.out.2.1.lt; have := HB67.out.size; simp; omega)
  have HB9 := (HB7.out.trans (hb8.mono HB7.out.size)).setCell (p := ⟨gm, 3, none⟩) (by show w.heap.size ≤ gm; have := HG.out.1; omega) (.slice D2 E.length d2)
  have HW9 := Lib.hid (show MW w (w8.setCell ⟨gm, 3, none⟩ (.slice D2 E.length d2)) w.heap.size (w.heap.size + 1) gm w5.heap.size #[.int .i64 (C.length : Int), .int .i64 (start : Int), .slice A1 L.length k1, .slice A2 E.length k2, .slice A3 C.length k3] #[.int .i64 0, .int .i64 0, .slice none 0 0, .slice none 0 0, .slice none 0 0] ((C.length : Int) + 1) (C.length : Int) (L.map flipL) (E.map flipE) (.slice D1 L.length d1) (.slice D2 E.length d2) (.slice (some ⟨gA, 0, none⟩) (C.length + 1) (C.length + 1)) from
   ⟨hX8.far (p := ⟨gm, 3, none⟩) hxm _, hZ8.far (p := ⟨gm, 3, none⟩) hzm _, hm8.set_ 3 _, by rw [List.length_map]; exact own_set (own_below HU7.out hb8) (fun e => by have := (HU7.out.lt gm e.symm).1; omega), by rw [List.length_map]; exact own_base (own_set hown hne2) (by have := HB67.out.size; simp; omega), HB9, ⟨by omega, by have := HG.out.1; omega, HB5.out.size⟩, ⟨hxm, hzm⟩, by have := HB67.out.size; have := hb8.size; simp at this ⊢; omega⟩)
  have HA9 := Lib.hid (hA8.far (p := ⟨gm, 3, none⟩) hgA (.slice D2 E.length d2))
  have HgA := Lib.hid (show gA ≠ gm ∧ w.heap.size + 1 < gA from ⟨hgA, HG.out.2⟩)
  clear hm8 hX8 hown hb8 HE2 hne2 HB67 HU7 HM7 HX5 HB7 hA8 hZ8 HB9 hgA hzm hxm HN5 HM HZ5 HB5
  dsimp only
  go_wp2
  generalize w8.setCell ⟨gm, 3, none⟩ (.slice D2 E.length d2) = w9 at *
  generalize w5.heap.size = base at *
  clear hgl hl7 hlx5 f3 m3 q4
  go_loopw [7, 8, 48] (fun sv av i wr => ∃ (k : Nat) (u : Value), i = .int .i64 (k : Int) ∧ k ≤ C.length ∧ Hid (MW w wr w.heap.size (w.heap.size + 1) gm base #[.int .i64 (C.length : Int), .int .i64 (start : Int), .slice A1 L.length k1, .slice A2 E.length k2, .slice A3 C.length k3] #[.int .i64 0, .int .i64 0, .slice none 0 0, .slice none 0 0, .slice none 0 0] ((C.length : Int) + 1) (C.length : Int) (L.map flipL ++ markTo (NfaV.mk (C.length : Int) (start : Int) L E C) label k) (E.map flipE) u (.slice D2 E.length d2) (.slice (some ⟨gA, 0, none⟩) (C.length + 1) (C.length + 1))) ∧ Hid (Blk wr gA 3 (madeCells #[.int .i64 0] (C.length + 1)))) (fun _ _ i _ => C.length - (intOf i).toNat)
  case atStart => exact ⟨0, _, rfl, Nat.zero_le _, by rw [show markTo (NfaV.mk (C.length : Int) (start : Int) L E C) label 0 = [] from rfl, List.append_nil]; exact HW9, HA9⟩
  case round =>
   clear HW9 HA9
   obtain ⟨k, u, rfl, hk, HW, HA⟩ := hrel
   by_cases hlt : k < C.length
   ·obtain ⟨c, hc⟩ : ∃ c, C[k]? = some c := ⟨_, List.getElem?_eq_getElem hlt⟩
    obtain ⟨b, o, rfl, c0⟩ := (HN0.out.below HW.out.b).a k c hc
    have HTk := Lib.hid (markTo_succ (N := (NfaV.mk (C.length : Int) (start : Int) L E C)) (label := label) (k := k) hc)
    have hmk := markTo_len (NfaV.mk (C.length : Int) (start : Int) L E C) label k
    have hdl : (k : Int) < (C.length : Int) := by omega
    have hlen : (L.map flipL ++ markTo (NfaV.mk (C.length : Int) (start : Int) L E C) label k).length ≤ 1048576 + 65535 := by rw [List.length_append, List.length_map]; omega
    clear hc hmk
    by_cases hcl : c = label
    ·subst hcl
     rw [if_pos rfl] at HTk
     have HLk := Lib.hid (show L.map flipL ++ markTo (NfaV.mk (C.length : Int) (start : Int) L E C) c (k + 1) = L.map flipL ++ markTo (NfaV.mk (C.length : Int) (start : Int) L E C) c k ++ [((C.length : Int), (k : Int))] by rw [HTk.out, List.append_assoc])
     clear HTk
     generalize L.map flipL ++ markTo (NfaV.mk (C.length : Int) (start : Int) L E C) c k = Lk at *
     have hm0 := HW.out.m
     have m2 := hm0.cell 2
     have x0 := HW.out.x.cell 0
     have hlm := hm0.lt
     simp only [List.getElem?_toArray, List.getElem?_cons_zero, List.getElem?_cons_succ] at m2 x0
     have h63 : Lk.length + 1 ≤ maxLen := Nat.le_trans (by omega) (show 2000000 ≤ maxLen by decide)
     have hby : (Lk.length + 1) * 16 ≤ 140737488355328 := by omega
     have hsz : base ≤ wr.heap.size := HW.out.sz
     have Hne := Lib.hid (blk_not_row hm0 (by decide) HW.out.l)
     have HneA := Lib.hid (blk_not_row HA.out (by decide) HW.out.l)
     clear hm0
     go_wp2_with (at_builtin; refine wpList_append_lies _ rfl _ _ 36 rfl base 85 j0 _ 2 16 Tryz.underlying36 hj0 hy0 hy1 hy2 rfl (by decide) u Lk.length (linksI Lk) rfl (HW.out.l.alloc _) ⟨wr.heap.size, 0, none⟩ 1 1 (linkI ((C.length : Int), (k : Int))) rfl rfl (World.news_of_block (Blk.new_at (cs := #[.int .i64 (C.length : Int), .int .i64 (k : Int)]) (t := 85) (by simp))) (by simp [Value.oneCell', linkI]) (by decide) h63 hby (by simp; omega) (wr.heap.size + 1) (by simp) ?_; intro gg capg wq hownq hgrowq hatq hgq; have hmq := grown_blk HW.out.m ((Below.refl _ _).alloc (Nat.le_refl _) _) hgrowq Hne.out; have mq2 := hmq.cell 2; have fq2 := hmq.frozen 2; simp only [List.getElem?_toArray, List.getElem?_cons_zero, List.getElem?_cons_succ] at mq2; have HW2 := Lib.hid (HW.out.link ((Below.refl _ _).alloc (Nat.le_refl _) _) hgrowq hownq); have HA2 := Lib.hid ((grown_blk HA.out ((Below.refl _ _).alloc (Nat.le_refl _) _) hgrowq HneA.out).far (p := ⟨gm, 2, none⟩) HgA.out.1 (.slice (some ⟨gg, 0, none⟩) (Lk.length + 1) capg)); clear hmq hownq hgrowq hatq)
     go_light
     go_roundw
     case rel => exact ⟨k + 1, _, by go_num, by omega, by rw [HLk.out]; exact HW2, HA2⟩
     case measure => simp [intOf]; omega
    ·have hne : (c == label) = false := by simpa using hcl
     rw [if_neg hcl, List.append_nil] at HTk
     rw [← HTk.out] at HW
     clear hcl HTk
     go_wp2
     go_roundw
     case rel => exact ⟨k + 1, u, by go_num, by omega, HW, HA⟩
     case measure => simp [intOf]; omega
   ·obtain rfl : k = C.length := by omega
    have hdl : ¬ ((C.length : Int) < (C.length : Int)) := by omega
    obtain ⟨Lk, hLk⟩ : ∃ Lk, L.map flipL ++ markTo (NfaV.mk (C.length : Int) (start : Int) L E C) label C.length = Lk := ⟨_, rfl⟩
    have hml := markTo_len (NfaV.mk (C.length : Int) (start : Int) L E C) label C.length
    have hll : Lk.length ≤ 140737488355328 := by rw [← hLk, List.length_append, List.length_map]; omega
    rw [hLk] at HW
    have HLk := Lib.hid hLk
    clear hLk hml
    have HL := Lib.hid HW.out.l
    obtain ⟨D0, d0, rfl⟩ := own_slice HL.out
    have hm0 := HW.out.m
    have hz0' := HW.out.z
    have hx0' := HW.out.x
    have m0 := hm0.cell 0
    have m1 := hm0.cell 1
    have m2 := hm0.cell 2
    have m3 := hm0.cell 3
    have m4 := hm0.cell 4
    have x1 := hx0'.cell 1
    have z0 := hz0'.cell 0
    have z1 := hz0'.cell 1
    have z2 := hz0'.cell 2
    have z3 := hz0'.cell 3
    have z4 := hz0'.cell 4
    have f0 := hz0'.frozen 0
    have f1 := hz0'.frozen 1
    have f2 := hz0'.frozen 2
    have f3 := hz0'.frozen 3
    have f4 := hz0'.frozen 4
    have a0 : wr.cell? ⟨gA, start, none⟩ = some (.int .i64 0) := by
     rw [HA.out.cell start, ← Array.getElem?_toList, toList_madeCells_one, List.getElem?_replicate, if_pos (by omega)]
    have fa := HA.out.frozen start
    have g1 := HgA.out.1
    have g2 : gA ≠ w.heap.size := by have := HgA.out.2; omega
    have g3 : gA ≠ w.heap.size + 1 := by have := HgA.out.2; omega
    have g4 := HW.out.ne.1
    have g5 := HW.out.ne.2
    have hlm := hm0.lt
    have hlz := hz0'.lt
    have hla := HA.out.lt
    have hsn : (start : Int) < (C.length : Int) + 1 := by omega
    simp only [List.getElem?_toArray, List.getElem?_cons_zero, List.getElem?_cons_succ] at m0 m1 m2 m3 m4 x1 z0 z1 z2 z3 z4
    clear hm0 hz0' hx0'
    have HX5 := Lib.hid (((((((HW.out.z.far (p := ⟨gA, start, none⟩) g3.symm (.int .i64 1)).set_ 0 (.int .i64 ((C.length : Int) + 1))).set_ 1 (.int .i64 (C.length : Int))).set_ 2 (.slice D0 Lk.length d0)).set_ 3 (.slice D2 E.length d2)).set_ 4 (.slice (some ⟨gA, 0, none⟩) (C.length + 1) (C.length + 1))))
    have HAE := Lib.hid ((((((HA.out.set_ start (.int .i64 1)).far (p := ⟨w.heap.size + 1, 0, none⟩) g3 (.int .i64 ((C.length : Int) + 1))).far (p := ⟨w.heap.size + 1, 1, none⟩) g3 (.int .i64 (C.length : Int))).far (p := ⟨w.heap.size + 1, 2, none⟩) g3 (.slice D0 Lk.length d0)).far (p := ⟨w.heap.size + 1, 3, none⟩) g3 (.slice D2 E.length d2)).far (p := ⟨w.heap.size + 1, 4, none⟩) g3 (.slice (some ⟨gA, 0, none⟩) (C.length + 1) (C.length + 1)))
    have nl := blk_not_row HA.out (by decide) HL.out
    have nz := blk_not_row HW.out.z (by decide) HL.out
    have nl2 := blk_not_row HA.out (by decide) HW.out.e
    have nz2 := blk_not_row HW.out.z (by decide) HW.out.e
    have HLE := Lib.hid (own_set (o := 4) (u := (.slice (some ⟨gA, 0, none⟩) (C.length + 1) (C.length + 1))) (own_set (o := 3) (u := .slice D2 E.length d2) (own_set (o := 2) (u := .slice D0 Lk.length d0) (own_set (o := 1) (u := .int .i64 (C.length : Int)) (own_set (o := 0) (u := .int .i64 ((C.length : Int) + 1)) (own_set (o := start) (u := .int .i64 1) HL.out nl) nz) nz) nz) nz) nz)
    have HEE := Lib.hid (own_set (o := 4) (u := (.slice (some ⟨gA, 0, none⟩) (C.length + 1) (C.length + 1))) (own_set (o := 3) (u := .slice D2 E.length d2) (own_set (o := 2) (u := .slice D0 Lk.length d0) (own_set (o := 1) (u := .int .i64 (C.length : Int)) (own_set (o := 0) (u := .int .i64 ((C.length : Int) + 1)) (own_set (o := start) (u := .int .i64 1) HW.out.e nl2) nz2) nz2) nz2) nz2) nz2)
    have hgA2 : w.heap.size ≤ gA := by have := HgA.out.2; omega
    have HBE := Lib.hid ((((((HW.out.b.setCell (p := ⟨gA, start, none⟩) hgA2 (.int .i64 1)).setCell (p := ⟨w.heap.size + 1, 0, none⟩) (Nat.le_succ _) (.int .i64 ((C.length : Int) + 1))).setCell (p := ⟨w.heap.size + 1, 1, none⟩) (Nat.le_succ _) (.int .i64 (C.length : Int))).setCell (p := ⟨w.heap.size + 1, 2, none⟩) (Nat.le_succ _) (.slice D0 Lk.length d0)).setCell (p := ⟨w.heap.size + 1, 3, none⟩) (Nat.le_succ _) (.slice D2 E.length d2)).setCell (p := ⟨w.heap.size + 1, 4, none⟩) (Nat.le_succ _) (.slice (some ⟨gA, 0, none⟩) (C.length + 1) (C.length + 1)))
    clear nl nz nl2 nz2
    go_wp2
    refine bodyPost_ret (ret_nfa18 Tryz.results17 rfl rfl HX5.out) rfl ⟨D0, d0, D2, d2, some ⟨gA, 0, none⟩, C.length + 1, ?_, ⟨by show LinksAt _ _ (L.map flipL ++ markTo (NfaV.mk (C.length : Int) (start : Int) L E C) label C.length); rw [HLk.out]; exact own_linksAt HLE.out, own_edgesAt HEE.out, blk_intsAt HAE.out (made_set _ _), ?_, ?_, ?_⟩, HBE.out, by show (L.map flipL ++ markTo (NfaV.mk (C.length : Int) (start : Int) L E C) label C.length).length ≤ d0; rw [HLk.out]; exact own_le HL.out, by show (E.map flipE).length ≤ d2; rw [List.length_map]; exact own_le HW.out.e, by show ((List.replicate (((C.length : Int)).toNat + 1) (0 : Int)).set _ 1).length ≤ _; rw [List.length_set, List.length_replicate]; omega⟩
    ·have e := HLk.out
     subst e
     unfold nfA mirV
     simp only [List.length_map, List.length_set, List.length_replicate]
     rfl
    ·show (L.map flipL ++ markTo (NfaV.mk (C.length : Int) (start : Int) L E C) label C.length).length ≤ _
     rw [HLk.out]
     exact hll
    ·show (E.map flipE).length ≤ _
     rw [List.length_map]
     omega
    ·show ((List.replicate (((C.length : Int)).toNat + 1) (0 : Int)).set _ 1).length ≤ _
     rw [List.length_set, List.length_replicate]
     omega
end Go.Proofs.YtofbfafnpdaejaaGreatDoor
