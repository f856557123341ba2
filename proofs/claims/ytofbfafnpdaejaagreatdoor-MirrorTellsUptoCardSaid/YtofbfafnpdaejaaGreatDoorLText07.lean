/- Texts of the claim. -/
import Derived.Test.YtofbfafnpdaejaaGreatDoorLZ03
import Derived.Test.YtofbfafnpdaejaaGreatDoorLZ02
import Derived.Test.YtofbfafnpdaejaaGreatDoorLSplit
namespace Go.Proofs.YtofbfafnpdaejaaGreatDoor
open Go.RowKit
set_option linter.unusedSimpArgs false
set_option linter.unusedVariables false
set_option maxRecDepth 100000
set_option maxHeartbeats 8000000
theorem own_room {w : World} {base size n : Nat} {e : TypeId} {v : Value} {xs : List Value} {a : Option Addr} {cap : Nat} (h : w.ownsRow base e size v n xs) (hv : v = .slice a n cap) : n ≤ cap := by
 rcases h.2 with ⟨rfl, h0⟩ | ⟨g', cap', cur, rfl, _, _, hc, _⟩
 ·have := (Value.slice.inj hv).2.1
  omega
 ·have := (Value.slice.inj hv).2.2
  omega
theorem LexRow.at {w : World} {A : Option Addr} {cap : Nat} {L : List Lex} (h : LexRow w (.slice A L.length cap) L) : LexsAt w w.heap.size A L := fun hl => by
 obtain ⟨A', cap', hv, hc⟩ := h
 obtain ⟨rfl, _⟩ : A = A' ∧ cap = cap' := ⟨(Value.slice.inj hv).1, (Value.slice.inj hv).2.2⟩
 obtain ⟨x, hx⟩ : ∃ x, L[0]? = some x := ⟨_, List.getElem?_eq_getElem hl⟩
 obtain ⟨g, hg, c0, _⟩ := hc 0 x hx
 refine ⟨g, 0, hg, World.block_lt_of_cell? w _ c0, fun k y hy => ?_⟩
 obtain ⟨g', hg', d⟩ := hc k y hy
 obtain rfl : g = g' := by rw [hg] at hg'; simpa using hg'
 simpa using d
theorem one_leaf {x : Lex} (h : rightS x = true) (hk : x.kind = 1) : lexemesS [x] = .ok (leafN (maskOf x.set)) := by
 rw [lexemesS_ok (by simp [h]) (by simp)]
 have e : altG 6 [] [] [x] = .ok (leafN (maskOf x.set), []) := by
  have hp : piecesG 5 [] [] [x] = .ok ([leafN (maskOf x.set)], []) := by
   rw [piecesG_go (atomG_set hk)]
   exact piecesG_end (atomG_nil _ _)
  rw [altG_ok hp]
  rfl
 show (match altG 6 [] [] [x] with | .error e => Except.error e | .ok (x, _) => .ok x) = _
 rw [e]
theorem text_bad (A : Option Addr) (cap : Nat) (bs : List Nat) (w : World) (hA : BytesAt w w.heap.size A bs) (hcap : bs.length ≤ cap) {k q : Int} (hs : splitS bs = .error (k, q)) (hk : k ≠ 0) :
  Calls Tryz.prog 61 #[.slice A bs.length cap] w (TreeOut (parseS bs) w) := by
 have hd : (k != 0) = true := by rw [bne_iff_ne]; exact hk
 have HV := Lib.hid (show parseS bs = .error (k, q) by unfold parseS; rw [hs])
 have hb2 : Below w.heap.size w ((w.alloc (.cells #[.int .i64 0, .int .u64 0, .int .u64 0, .int .u64 0, .int .u64 0, .slice none 0 0, .int .i64 0, .int .i64 0] 28)).alloc (.cells #[.int .i64 0, .int .i64 0] 77)) := ((Below.refl _ _).alloc (Nat.le_refl _) _).alloc (by simp) _
 have HB2 := Lib.hid hb2
 have HG2 := Lib.hid (show Blk ((w.alloc (.cells #[.int .i64 0, .int .u64 0, .int .u64 0, .int .u64 0, .int .u64 0, .slice none 0 0, .int .i64 0, .int .i64 0] 28)).alloc (.cells #[.int .i64 0, .int .i64 0] 77)) w.heap.size 28 _ from (Blk.new w 28 #[.int .i64 0, .int .u64 0, .int .u64 0, .int .u64 0, .int .u64 0, .slice none 0 0, .int .i64 0, .int .i64 0]).alloc _)
 have HH2 := Lib.hid (show Blk ((w.alloc (.cells #[.int .i64 0, .int .u64 0, .int .u64 0, .int .u64 0, .int .u64 0, .slice none 0 0, .int .i64 0, .int .i64 0] 28)).alloc (.cells #[.int .i64 0, .int .i64 0] 77)) (w.heap.size + 1) 77 #[.int .i64 0, .int .i64 0] from Blk.new_at (by simp))
 have h1 := split_go A cap bs _ ((hA.below hb2).more (by simp; omega)) hcap
 rw [hs] at h1
 have H1 := Lib.hid h1
 clear hb2 hA hs h1 hk
 go_enter Tryz.func61, Tryz.ntmps61
 go_wp2_with fail
 refine H1.out.mono ?_
 rintro e w3 ⟨rfl, hb3⟩
 have HB3 := Lib.hid (HB2.out.trans (hb3.mono HB2.out.size))
 have hG3 := HG2.out.below hb3 HG2.out.lt
 have hH3 := HH2.out.below hb3 HH2.out.lt
 have HG3 := Lib.hid hG3
 have HH3 := Lib.hid hH3
 have hlt1 : w.heap.size < w3.heap.size := hG3.lt
 have hlt2 : w.heap.size + 1 < w3.heap.size := hH3.lt
 have hne1 : w.heap.size ≠ w3.heap.size := by omega
 have hne2 : w.heap.size + 1 ≠ w3.heap.size := by omega
 have y0 : w3.cell? ⟨w.heap.size, 0, none⟩ = some (.int .i64 0) := hG3.cell 0
 have y1 : w3.cell? ⟨w.heap.size, 1, none⟩ = some (.int .u64 0) := hG3.cell 1
 have y2 : w3.cell? ⟨w.heap.size, 2, none⟩ = some (.int .u64 0) := hG3.cell 2
 have y3 : w3.cell? ⟨w.heap.size, 3, none⟩ = some (.int .u64 0) := hG3.cell 3
 have y4 : w3.cell? ⟨w.heap.size, 4, none⟩ = some (.int .u64 0) := hG3.cell 4
 have y5 : w3.cell? ⟨w.heap.size, 5, none⟩ = some (.slice none 0 0) := hG3.cell 5
 have y6 : w3.cell? ⟨w.heap.size, 6, none⟩ = some (.int .i64 0) := hG3.cell 6
 have y7 : w3.cell? ⟨w.heap.size, 7, none⟩ = some (.int .i64 0) := hG3.cell 7
 have z0 := hG3.frozen 0
 have z1 := hG3.frozen 1
 have z2 := hG3.frozen 2
 have z3 := hG3.frozen 3
 have z4 := hG3.frozen 4
 have z5 := hG3.frozen 5
 have z6 := hG3.frozen 6
 have z7 := hG3.frozen 7
 obtain ⟨b0, b1, f0, f1⟩ := hH3.c2
 clear hb3 hG3 hH3 H1 HB2 HG2 HH2
 dsimp only
 go_wp2
 go_region
 all_goals go_wp2
 all_goals go_light
 rw [HV.out]
 exact bodyPost_ret (ret_tree Tryz.results61 rfl rfl (((HG3.out.put8 _ _ _ _ _ _ _ _).far2 (by omega) _ _).alloc _).drew (((HH3.out.past8 (by omega) _ _ _ _ _ _ _ _).set2).alloc _).drew) rfl ⟨rfl, ((below_set2 (below_put8 HB3.out (Nat.le_refl _) _ _ _ _ _ _ _ _) (by omega) _ _).alloc (by have := HB3.out.size; simpa [World.setCell] using this) _).drew⟩
theorem laid {n : Nat} {w w6 w7 : World} {x : Nd} {B : Option Addr} {cap : Nat} {k q : Int} (hG : Blk w6 n 28 #[.int .i64 0, .int .u64 0, .int .u64 0, .int .u64 0, .int .u64 0, .slice none 0 0, .int .i64 0, .int .i64 0]) (hH : Blk w6 (n + 1) 77 #[.int .i64 0, .int .i64 0]) (hB : Below n w w6) (hT : TreesAt w6 (fun b => n + 2 ≤ b) x.kids B)
  (hw : w7 = (((((((((w6.setCell ⟨n, 0, none⟩ (.int .i64 x.kind)).setCell ⟨n, 1, none⟩ (.int .u64 (word x.set.testBit 0))).setCell ⟨n, 2, none⟩ (.int .u64 (word x.set.testBit 1))).setCell ⟨n, 3, none⟩ (.int .u64 (word x.set.testBit 2))).setCell ⟨n, 4, none⟩ (.int .u64 (word x.set.testBit 3))).setCell ⟨n, 5, none⟩ (.slice B x.kids.len cap)).setCell ⟨n, 6, none⟩ (.int .i64 x.lo)).setCell ⟨n, 7, none⟩ (.int .i64 x.hi)).setCell ⟨n + 1, 0, none⟩ (.int .i64 k)).setCell ⟨n + 1, 1, none⟩ (.int .i64 q)) :
  Blk w7 n 28 (ndA x B cap) ∧ Blk w7 (n + 1) 77 #[.int .i64 k, .int .i64 q] ∧ Below n w w7 ∧ TreesAt w7 (fun b => n ≤ b) x.kids B := by
 have hg1 := only_put8 w6 n (.int .i64 x.kind) (.int .u64 (word x.set.testBit 0)) (.int .u64 (word x.set.testBit 1)) (.int .u64 (word x.set.testBit 2)) (.int .u64 (word x.set.testBit 3)) (.slice B x.kids.len cap) (.int .i64 x.lo) (.int .i64 x.hi)
 have ht7 := TreesAt.keep (Q := fun b => n + 2 ≤ b) (fun b o (hb : n + 2 ≤ b) hl => World.cell?_of_block (hg1.block b hl (by simp; omega))) (fun b hb _ => hb) hT
 have hg2 := only_set (only_set (only_refl ((((((((w6.setCell ⟨n, 0, none⟩ (.int .i64 x.kind)).setCell ⟨n, 1, none⟩ (.int .u64 (word x.set.testBit 0))).setCell ⟨n, 2, none⟩ (.int .u64 (word x.set.testBit 1))).setCell ⟨n, 3, none⟩ (.int .u64 (word x.set.testBit 2))).setCell ⟨n, 4, none⟩ (.int .u64 (word x.set.testBit 3))).setCell ⟨n, 5, none⟩ (.slice B x.kids.len cap)).setCell ⟨n, 6, none⟩ (.int .i64 x.lo)).setCell ⟨n, 7, none⟩ (.int .i64 x.hi)) (some (n + 1))) 0 (.int .i64 k)) 1 (.int .i64 q)
 have ht8 := TreesAt.keep (Q := fun b => n ≤ b) (fun b o (hb : n + 2 ≤ b) hl => World.cell?_of_block (hg2.block b hl (by simp; omega))) (fun b (hb : n + 2 ≤ b) _ => by omega) ht7
 have hG7 := (hG.put8 (.int .i64 x.kind) (.int .u64 (word x.set.testBit 0)) (.int .u64 (word x.set.testBit 1)) (.int .u64 (word x.set.testBit 2)) (.int .u64 (word x.set.testBit 3)) (.slice B x.kids.len cap) (.int .i64 x.lo) (.int .i64 x.hi)).far2 (g' := n + 1) (by omega) (.int .i64 k) (.int .i64 q)
 have hH7 := (hH.past8 (g' := n) (by omega) (.int .i64 x.kind) (.int .u64 (word x.set.testBit 0)) (.int .u64 (word x.set.testBit 1)) (.int .u64 (word x.set.testBit 2)) (.int .u64 (word x.set.testBit 3)) (.slice B x.kids.len cap) (.int .i64 x.lo) (.int .i64 x.hi)).set2 (a' := .int .i64 k) (b' := .int .i64 q)
 have hb7 := below_set2 (below_put8 hB (Nat.le_refl _) (.int .i64 x.kind) (.int .u64 (word x.set.testBit 0)) (.int .u64 (word x.set.testBit 1)) (.int .u64 (word x.set.testBit 2)) (.int .u64 (word x.set.testBit 3)) (.slice B x.kids.len cap) (.int .i64 x.lo) (.int .i64 x.hi)) (Nat.le_succ n) (.int .i64 k) (.int .i64 q)
 rw [hw]
 exact ⟨hG7, hH7, hb7, ht8⟩
theorem text_many (A : Option Addr) (cap : Nat) (bs : List Nat) (w : World) (hA : BytesAt w w.heap.size A bs) (hcap : bs.length ≤ cap) {L : List Lex} (hs : splitS bs = .ok L) (h1 : L.length ≠ 1) :
  Calls Tryz.prog 61 #[.slice A bs.length cap] w (TreeOut (parseS bs) w) := by
 have hd : ((L.length : Int) == 1) = false := by rw [beq_eq_false_iff_ne]; omega
 have hV : parseS bs = lexemesS L := by unfold parseS; rw [hs]
 clear h1
 cases hx : lexemesS L with
 | error x =>
  obtain ⟨k, q⟩ := x
  have HV := Lib.hid (hV.trans hx)
  have HX := Lib.hid hx
  clear hV hx
  have hL65 := (splitS_right hA.1 hs).2.2
  have hb2 : Below w.heap.size w ((w.alloc (.cells #[.int .i64 0, .int .u64 0, .int .u64 0, .int .u64 0, .int .u64 0, .slice none 0 0, .int .i64 0, .int .i64 0] 28)).alloc (.cells #[.int .i64 0, .int .i64 0] 77)) := ((Below.refl _ _).alloc (Nat.le_refl _) _).alloc (by simp) _
  have HB2 := Lib.hid hb2
  have HG2 := Lib.hid (show Blk ((w.alloc (.cells #[.int .i64 0, .int .u64 0, .int .u64 0, .int .u64 0, .int .u64 0, .slice none 0 0, .int .i64 0, .int .i64 0] 28)).alloc (.cells #[.int .i64 0, .int .i64 0] 77)) w.heap.size 28 _ from (Blk.new w 28 #[.int .i64 0, .int .u64 0, .int .u64 0, .int .u64 0, .int .u64 0, .slice none 0 0, .int .i64 0, .int .i64 0]).alloc _)
  have HH2 := Lib.hid (show Blk ((w.alloc (.cells #[.int .i64 0, .int .u64 0, .int .u64 0, .int .u64 0, .int .u64 0, .slice none 0 0, .int .i64 0, .int .i64 0] 28)).alloc (.cells #[.int .i64 0, .int .i64 0] 77)) (w.heap.size + 1) 77 #[.int .i64 0, .int .i64 0] from Blk.new_at (by simp))
  have h1 := split_go A cap bs _ ((hA.below hb2).more (by simp; omega)) hcap
  rw [hs] at h1
  have H1 := Lib.hid h1
  clear hb2 hA h1
  go_enter Tryz.func61, Tryz.ntmps61
  go_wp2_with fail
  refine H1.out.mono ?_
  rintro e w3 ⟨v, rfl, hb3, hrow3⟩
  obtain ⟨A3, cap3, rfl⟩ := own_slice hrow3
  have hb4 : Below w3.heap.size w3 (w3.alloc (.cells #[.int .i64 0, .int .i64 0] 77)) := (Below.refl _ _).alloc (Nat.le_refl _) _
  have HB4 := Lib.hid (HB2.out.trans ((hb3.trans (hb4.mono hb3.size)).mono HB2.out.size))
  have hG4 := (HG2.out.below hb3 HG2.out.lt).alloc (.cells #[.int .i64 0, .int .i64 0] 77)
  have hH4 := (HH2.out.below hb3 HH2.out.lt).alloc (.cells #[.int .i64 0, .int .i64 0] 77)
  have hc3 := own_room hrow3 rfl
  have HL4 := Lib.hid (((lexRow_of hrow3).at.below hb4).more hb4.size)
  have hsz4 : w.heap.size + 2 < (w3.alloc (.cells #[.int .i64 0, .int .i64 0] 77)).heap.size := by have := hb3.size; simp at this ⊢; omega
  have HG4 := Lib.hid hG4
  have HH4 := Lib.hid hH4
  clear hb3 hrow3 hb4 H1 HB2 HG2 HH2
  dsimp only
  skip
  have hP := lexemes_go _ cap3 L _ HL4.out (by omega) hc3
  rw [HX.out] at hP
  have HP := Lib.hid hP
  clear hP
  go_wp2_with fail
  refine HP.out.mono ?_
  rintro e w6 ⟨rfl, hb6⟩
  have hG6 := HG4.out.below hb6 HG4.out.lt
  have hH6 := HH4.out.below hb6 HH4.out.lt
  have HB6 := Lib.hid (HB4.out.trans (hb6.mono (by omega)))
  have y0 : w6.cell? ⟨w.heap.size, 0, none⟩ = some (.int .i64 0) := hG6.cell 0
  have y1 : w6.cell? ⟨w.heap.size, 1, none⟩ = some (.int .u64 0) := hG6.cell 1
  have y2 : w6.cell? ⟨w.heap.size, 2, none⟩ = some (.int .u64 0) := hG6.cell 2
  have y3 : w6.cell? ⟨w.heap.size, 3, none⟩ = some (.int .u64 0) := hG6.cell 3
  have y4 : w6.cell? ⟨w.heap.size, 4, none⟩ = some (.int .u64 0) := hG6.cell 4
  have y5 : w6.cell? ⟨w.heap.size, 5, none⟩ = some (.slice none 0 0) := hG6.cell 5
  have y6 : w6.cell? ⟨w.heap.size, 6, none⟩ = some (.int .i64 0) := hG6.cell 6
  have y7 : w6.cell? ⟨w.heap.size, 7, none⟩ = some (.int .i64 0) := hG6.cell 7
  have z0 := hG6.frozen 0
  have z1 := hG6.frozen 1
  have z2 := hG6.frozen 2
  have z3 := hG6.frozen 3
  have z4 := hG6.frozen 4
  have z5 := hG6.frozen 5
  have z6 := hG6.frozen 6
  have z7 := hG6.frozen 7
  obtain ⟨b0, b1, f0, f1⟩ := hH6.c2
  have HG6 := Lib.hid hG6
  have HH6 := Lib.hid hH6
  clear hb6 hG6 hH6 HP HG4 HH4 HB4 hG4 hH4
  unfold zeroN
  dsimp only
  go_wp2
  go_light
  rw [HV.out]
  exact bodyPost_ret (ret_tree Tryz.results61 rfl rfl ((HG6.out.put8 _ _ _ _ _ _ _ _).far2 (by omega) _ _) ((HH6.out.past8 (by omega) _ _ _ _ _ _ _ _).set2)) rfl ⟨rfl, below_set2 (below_put8 HB6.out (Nat.le_refl _) _ _ _ _ _ _ _ _) (by omega) _ _⟩
 | ok x =>
  have HV := Lib.hid (hV.trans hx)
  have HX := Lib.hid hx
  clear hV hx
  have hL65 := (splitS_right hA.1 hs).2.2
  have hb2 : Below w.heap.size w ((w.alloc (.cells #[.int .i64 0, .int .u64 0, .int .u64 0, .int .u64 0, .int .u64 0, .slice none 0 0, .int .i64 0, .int .i64 0] 28)).alloc (.cells #[.int .i64 0, .int .i64 0] 77)) := ((Below.refl _ _).alloc (Nat.le_refl _) _).alloc (by simp) _
  have HB2 := Lib.hid hb2
  have HG2 := Lib.hid (show Blk ((w.alloc (.cells #[.int .i64 0, .int .u64 0, .int .u64 0, .int .u64 0, .int .u64 0, .slice none 0 0, .int .i64 0, .int .i64 0] 28)).alloc (.cells #[.int .i64 0, .int .i64 0] 77)) w.heap.size 28 _ from (Blk.new w 28 #[.int .i64 0, .int .u64 0, .int .u64 0, .int .u64 0, .int .u64 0, .slice none 0 0, .int .i64 0, .int .i64 0]).alloc _)
  have HH2 := Lib.hid (show Blk ((w.alloc (.cells #[.int .i64 0, .int .u64 0, .int .u64 0, .int .u64 0, .int .u64 0, .slice none 0 0, .int .i64 0, .int .i64 0] 28)).alloc (.cells #[.int .i64 0, .int .i64 0] 77)) (w.heap.size + 1) 77 #[.int .i64 0, .int .i64 0] from Blk.new_at (by simp))
  have h1 := split_go A cap bs _ ((hA.below hb2).more (by simp; omega)) hcap
  rw [hs] at h1
  have H1 := Lib.hid h1
  clear hb2 hA h1
  go_enter Tryz.func61, Tryz.ntmps61
  go_wp2_with fail
  refine H1.out.mono ?_
  rintro e w3 ⟨v, rfl, hb3, hrow3⟩
  obtain ⟨A3, cap3, rfl⟩ := own_slice hrow3
  have hb4 : Below w3.heap.size w3 (w3.alloc (.cells #[.int .i64 0, .int .i64 0] 77)) := (Below.refl _ _).alloc (Nat.le_refl _) _
  have HB4 := Lib.hid (HB2.out.trans ((hb3.trans (hb4.mono hb3.size)).mono HB2.out.size))
  have hG4 := (HG2.out.below hb3 HG2.out.lt).alloc (.cells #[.int .i64 0, .int .i64 0] 77)
  have hH4 := (HH2.out.below hb3 HH2.out.lt).alloc (.cells #[.int .i64 0, .int .i64 0] 77)
  have hc3 := own_room hrow3 rfl
  have HL4 := Lib.hid (((lexRow_of hrow3).at.below hb4).more hb4.size)
  have hsz4 : w.heap.size + 2 < (w3.alloc (.cells #[.int .i64 0, .int .i64 0] 77)).heap.size := by have := hb3.size; simp at this ⊢; omega
  have HG4 := Lib.hid hG4
  have HH4 := Lib.hid hH4
  clear hb3 hrow3 hb4 H1 HB2 HG2 HH2
  dsimp only
  skip
  have hP := lexemes_go _ cap3 L _ HL4.out (by omega) hc3
  rw [HX.out] at hP
  have HP := Lib.hid hP
  clear hP
  go_wp2_with fail
  refine HP.out.mono ?_
  rintro e w6 ⟨B, cap6, rfl, hb6, hc6, ht6⟩
  have hG6 := HG4.out.below hb6 HG4.out.lt
  have hH6 := HH4.out.below hb6 HH4.out.lt
  have HB6 := Lib.hid (HB4.out.trans (hb6.mono (by omega)))
  have HT6 := Lib.hid (ht6.weak (Q := fun b => w.heap.size + 2 ≤ b) (fun b hb _ => by omega))
  have y0 : w6.cell? ⟨w.heap.size, 0, none⟩ = some (.int .i64 0) := hG6.cell 0
  have y1 : w6.cell? ⟨w.heap.size, 1, none⟩ = some (.int .u64 0) := hG6.cell 1
  have y2 : w6.cell? ⟨w.heap.size, 2, none⟩ = some (.int .u64 0) := hG6.cell 2
  have y3 : w6.cell? ⟨w.heap.size, 3, none⟩ = some (.int .u64 0) := hG6.cell 3
  have y4 : w6.cell? ⟨w.heap.size, 4, none⟩ = some (.int .u64 0) := hG6.cell 4
  have y5 : w6.cell? ⟨w.heap.size, 5, none⟩ = some (.slice none 0 0) := hG6.cell 5
  have y6 : w6.cell? ⟨w.heap.size, 6, none⟩ = some (.int .i64 0) := hG6.cell 6
  have y7 : w6.cell? ⟨w.heap.size, 7, none⟩ = some (.int .i64 0) := hG6.cell 7
  have z0 := hG6.frozen 0
  have z1 := hG6.frozen 1
  have z2 := hG6.frozen 2
  have z3 := hG6.frozen 3
  have z4 := hG6.frozen 4
  have z5 := hG6.frozen 5
  have z6 := hG6.frozen 6
  have z7 := hG6.frozen 7
  obtain ⟨b0, b1, f0, f1⟩ := hH6.c2
  have HG6 := Lib.hid hG6
  have HH6 := Lib.hid hH6
  clear hb6 ht6 hG6 hH6 HP HG4 HH4 HB4 hG4 hH4
  unfold ndV
  dsimp only
  go_wp2
  go_light
  have hF := laid (x := x) (B := B) (cap := cap6) (k := 0) (q := 0) HG6.out HH6.out HB6.out HT6.out rfl
  rw [HV.out]
  exact bodyPost_ret (ret_tree Tryz.results61 rfl rfl hF.1 hF.2.1) rfl ⟨B, cap6, rfl, hF.2.2.1, hc6, hF.2.2.2⟩
theorem text_sign (A : Option Addr) (cap : Nat) (bs : List Nat) (w : World) (hA : BytesAt w w.heap.size A bs) (hcap : bs.length ≤ cap) {y : Lex} (hs : splitS bs = .ok [y]) (h1 : y.kind ≠ 1) :
  Calls Tryz.prog 61 #[.slice A bs.length cap] w (TreeOut (parseS bs) w) := by
 obtain ⟨L, hL⟩ : ∃ L, L = [y] := ⟨_, rfl⟩
 have HLy := Lib.hid hL
 rw [← hL] at hs
 have hlen : L.length = 1 := by rw [hL]; rfl
 clear hL
 have hd : ((L.length : Int) == 1) = true := by rw [beq_iff_eq]; omega
 have hd0 : (0 : Int) < (L.length : Int) := by omega
 have hy : L[0]? = some y := by rw [HLy.out]; rfl
 have Hy := Lib.hid hy
 have hk : (y.kind == 1) = false := by simp; exact h1
 have hV : parseS bs = lexemesS L := by unfold parseS; rw [hs]
 clear h1 hlen hy
 cases hx : lexemesS L with
 | error x =>
  obtain ⟨k, q⟩ := x
  have HV := Lib.hid (hV.trans hx)
  have HX := Lib.hid hx
  clear hV hx
  have hL65 := (splitS_right hA.1 hs).2.2
  have hb2 : Below w.heap.size w ((w.alloc (.cells #[.int .i64 0, .int .u64 0, .int .u64 0, .int .u64 0, .int .u64 0, .slice none 0 0, .int .i64 0, .int .i64 0] 28)).alloc (.cells #[.int .i64 0, .int .i64 0] 77)) := ((Below.refl _ _).alloc (Nat.le_refl _) _).alloc (by simp) _
  have HB2 := Lib.hid hb2
  have HG2 := Lib.hid (show Blk ((w.alloc (.cells #[.int .i64 0, .int .u64 0, .int .u64 0, .int .u64 0, .int .u64 0, .slice none 0 0, .int .i64 0, .int .i64 0] 28)).alloc (.cells #[.int .i64 0, .int .i64 0] 77)) w.heap.size 28 _ from (Blk.new w 28 #[.int .i64 0, .int .u64 0, .int .u64 0, .int .u64 0, .int .u64 0, .slice none 0 0, .int .i64 0, .int .i64 0]).alloc _)
  have HH2 := Lib.hid (show Blk ((w.alloc (.cells #[.int .i64 0, .int .u64 0, .int .u64 0, .int .u64 0, .int .u64 0, .slice none 0 0, .int .i64 0, .int .i64 0] 28)).alloc (.cells #[.int .i64 0, .int .i64 0] 77)) (w.heap.size + 1) 77 #[.int .i64 0, .int .i64 0] from Blk.new_at (by simp))
  have h1 := split_go A cap bs _ ((hA.below hb2).more (by simp; omega)) hcap
  rw [hs] at h1
  have H1 := Lib.hid h1
  clear hb2 hA h1
  go_enter Tryz.func61, Tryz.ntmps61
  go_wp2_with fail
  refine H1.out.mono ?_
  rintro e w3 ⟨v, rfl, hb3, hrow3⟩
  obtain ⟨A3, cap3, rfl⟩ := own_slice hrow3
  have hb4 : Below w3.heap.size w3 (w3.alloc (.cells #[.int .i64 0, .int .i64 0] 77)) := (Below.refl _ _).alloc (Nat.le_refl _) _
  have HB4 := Lib.hid (HB2.out.trans ((hb3.trans (hb4.mono hb3.size)).mono HB2.out.size))
  have hG4 := (HG2.out.below hb3 HG2.out.lt).alloc (.cells #[.int .i64 0, .int .i64 0] 77)
  have hH4 := (HH2.out.below hb3 HH2.out.lt).alloc (.cells #[.int .i64 0, .int .i64 0] 77)
  have hc3 := own_room hrow3 rfl
  have HL4 := Lib.hid (((lexRow_of hrow3).at.below hb4).more hb4.size)
  have hsz4 : w.heap.size + 2 < (w3.alloc (.cells #[.int .i64 0, .int .i64 0] 77)).heap.size := by have := hb3.size; simp at this ⊢; omega
  have HG4 := Lib.hid hG4
  have HH4 := Lib.hid hH4
  clear hb3 hrow3 hb4 H1 HB2 HG2 HH2
  dsimp only
  obtain ⟨b4, o4, rfl, hbl4, hc4⟩ := HL4.out (by omega); obtain ⟨q0, _⟩ := hc4 0 y Hy.out; simp only [Nat.zero_mul, Nat.add_zero] at q0; clear hc4
  have hP := lexemes_go _ cap3 L _ HL4.out (by omega) hc3
  rw [HX.out] at hP
  have HP := Lib.hid hP
  clear hP
  go_wp2_with fail
  refine HP.out.mono ?_
  rintro e w6 ⟨rfl, hb6⟩
  have hG6 := HG4.out.below hb6 HG4.out.lt
  have hH6 := HH4.out.below hb6 HH4.out.lt
  have HB6 := Lib.hid (HB4.out.trans (hb6.mono (by omega)))
  have y0 : w6.cell? ⟨w.heap.size, 0, none⟩ = some (.int .i64 0) := hG6.cell 0
  have y1 : w6.cell? ⟨w.heap.size, 1, none⟩ = some (.int .u64 0) := hG6.cell 1
  have y2 : w6.cell? ⟨w.heap.size, 2, none⟩ = some (.int .u64 0) := hG6.cell 2
  have y3 : w6.cell? ⟨w.heap.size, 3, none⟩ = some (.int .u64 0) := hG6.cell 3
  have y4 : w6.cell? ⟨w.heap.size, 4, none⟩ = some (.int .u64 0) := hG6.cell 4
  have y5 : w6.cell? ⟨w.heap.size, 5, none⟩ = some (.slice none 0 0) := hG6.cell 5
  have y6 : w6.cell? ⟨w.heap.size, 6, none⟩ = some (.int .i64 0) := hG6.cell 6
  have y7 : w6.cell? ⟨w.heap.size, 7, none⟩ = some (.int .i64 0) := hG6.cell 7
  have z0 := hG6.frozen 0
  have z1 := hG6.frozen 1
  have z2 := hG6.frozen 2
  have z3 := hG6.frozen 3
  have z4 := hG6.frozen 4
  have z5 := hG6.frozen 5
  have z6 := hG6.frozen 6
  have z7 := hG6.frozen 7
  obtain ⟨b0, b1, f0, f1⟩ := hH6.c2
  have HG6 := Lib.hid hG6
  have HH6 := Lib.hid hH6
  clear hb6 hG6 hH6 HP HG4 HH4 HB4 hG4 hH4
  unfold zeroN
  dsimp only
  go_wp2
  go_light
  rw [HV.out]
  exact bodyPost_ret (ret_tree Tryz.results61 rfl rfl ((HG6.out.put8 _ _ _ _ _ _ _ _).far2 (by omega) _ _) ((HH6.out.past8 (by omega) _ _ _ _ _ _ _ _).set2)) rfl ⟨rfl, below_set2 (below_put8 HB6.out (Nat.le_refl _) _ _ _ _ _ _ _ _) (by omega) _ _⟩
 | ok x =>
  have HV := Lib.hid (hV.trans hx)
  have HX := Lib.hid hx
  clear hV hx
  have hL65 := (splitS_right hA.1 hs).2.2
  have hb2 : Below w.heap.size w ((w.alloc (.cells #[.int .i64 0, .int .u64 0, .int .u64 0, .int .u64 0, .int .u64 0, .slice none 0 0, .int .i64 0, .int .i64 0] 28)).alloc (.cells #[.int .i64 0, .int .i64 0] 77)) := ((Below.refl _ _).alloc (Nat.le_refl _) _).alloc (by simp) _
  have HB2 := Lib.hid hb2
  have HG2 := Lib.hid (show Blk ((w.alloc (.cells #[.int .i64 0, .int .u64 0, .int .u64 0, .int .u64 0, .int .u64 0, .slice none 0 0, .int .i64 0, .int .i64 0] 28)).alloc (.cells #[.int .i64 0, .int .i64 0] 77)) w.heap.size 28 _ from (Blk.new w 28 #[.int .i64 0, .int .u64 0, .int .u64 0, .int .u64 0, .int .u64 0, .slice none 0 0, .int .i64 0, .int .i64 0]).alloc _)
  have HH2 := Lib.hid (show Blk ((w.alloc (.cells #[.int .i64 0, .int .u64 0, .int .u64 0, .int .u64 0, .int .u64 0, .slice none 0 0, .int .i64 0, .int .i64 0] 28)).alloc (.cells #[.int .i64 0, .int .i64 0] 77)) (w.heap.size + 1) 77 #[.int .i64 0, .int .i64 0] from Blk.new_at (by simp))
  have h1 := split_go A cap bs _ ((hA.below hb2).more (by simp; omega)) hcap
  rw [hs] at h1
  have H1 := Lib.hid h1
  clear hb2 hA h1
  go_enter Tryz.func61, Tryz.ntmps61
  go_wp2_with fail
  refine H1.out.mono ?_
  rintro e w3 ⟨v, rfl, hb3, hrow3⟩
  obtain ⟨A3, cap3, rfl⟩ := own_slice hrow3
  have hb4 : Below w3.heap.size w3 (w3.alloc (.cells #[.int .i64 0, .int .i64 0] 77)) := (Below.refl _ _).alloc (Nat.le_refl _) _
  have HB4 := Lib.hid (HB2.out.trans ((hb3.trans (hb4.mono hb3.size)).mono HB2.out.size))
  have hG4 := (HG2.out.below hb3 HG2.out.lt).alloc (.cells #[.int .i64 0, .int .i64 0] 77)
  have hH4 := (HH2.out.below hb3 HH2.out.lt).alloc (.cells #[.int .i64 0, .int .i64 0] 77)
  have hc3 := own_room hrow3 rfl
  have HL4 := Lib.hid (((lexRow_of hrow3).at.below hb4).more hb4.size)
  have hsz4 : w.heap.size + 2 < (w3.alloc (.cells #[.int .i64 0, .int .i64 0] 77)).heap.size := by have := hb3.size; simp at this ⊢; omega
  have HG4 := Lib.hid hG4
  have HH4 := Lib.hid hH4
  clear hb3 hrow3 hb4 H1 HB2 HG2 HH2
  dsimp only
  obtain ⟨b4, o4, rfl, hbl4, hc4⟩ := HL4.out (by omega); obtain ⟨q0, _⟩ := hc4 0 y Hy.out; simp only [Nat.zero_mul, Nat.add_zero] at q0; clear hc4
  have hP := lexemes_go _ cap3 L _ HL4.out (by omega) hc3
  rw [HX.out] at hP
  have HP := Lib.hid hP
  clear hP
  go_wp2_with fail
  refine HP.out.mono ?_
  rintro e w6 ⟨B, cap6, rfl, hb6, hc6, ht6⟩
  have hG6 := HG4.out.below hb6 HG4.out.lt
  have hH6 := HH4.out.below hb6 HH4.out.lt
  have HB6 := Lib.hid (HB4.out.trans (hb6.mono (by omega)))
  have HT6 := Lib.hid (ht6.weak (Q := fun b => w.heap.size + 2 ≤ b) (fun b hb _ => by omega))
  have y0 : w6.cell? ⟨w.heap.size, 0, none⟩ = some (.int .i64 0) := hG6.cell 0
  have y1 : w6.cell? ⟨w.heap.size, 1, none⟩ = some (.int .u64 0) := hG6.cell 1
  have y2 : w6.cell? ⟨w.heap.size, 2, none⟩ = some (.int .u64 0) := hG6.cell 2
  have y3 : w6.cell? ⟨w.heap.size, 3, none⟩ = some (.int .u64 0) := hG6.cell 3
  have y4 : w6.cell? ⟨w.heap.size, 4, none⟩ = some (.int .u64 0) := hG6.cell 4
  have y5 : w6.cell? ⟨w.heap.size, 5, none⟩ = some (.slice none 0 0) := hG6.cell 5
  have y6 : w6.cell? ⟨w.heap.size, 6, none⟩ = some (.int .i64 0) := hG6.cell 6
  have y7 : w6.cell? ⟨w.heap.size, 7, none⟩ = some (.int .i64 0) := hG6.cell 7
  have z0 := hG6.frozen 0
  have z1 := hG6.frozen 1
  have z2 := hG6.frozen 2
  have z3 := hG6.frozen 3
  have z4 := hG6.frozen 4
  have z5 := hG6.frozen 5
  have z6 := hG6.frozen 6
  have z7 := hG6.frozen 7
  obtain ⟨b0, b1, f0, f1⟩ := hH6.c2
  have HG6 := Lib.hid hG6
  have HH6 := Lib.hid hH6
  clear hb6 ht6 hG6 hH6 HP HG4 HH4 HB4 hG4 hH4
  unfold ndV
  dsimp only
  go_wp2
  go_light
  have hF := laid (x := x) (B := B) (cap := cap6) (k := 0) (q := 0) HG6.out HH6.out HB6.out HT6.out rfl
  rw [HV.out]
  exact bodyPost_ret (ret_tree Tryz.results61 rfl rfl hF.1 hF.2.1) rfl ⟨B, cap6, rfl, hF.2.2.1, hc6, hF.2.2.2⟩
theorem text_set (A : Option Addr) (cap : Nat) (bs : List Nat) (w : World) (hA : BytesAt w w.heap.size A bs) (hcap : bs.length ≤ cap) {y : Lex} (hs : splitS bs = .ok [y]) (h1 : y.kind = 1) :
  Calls Tryz.prog 61 #[.slice A bs.length cap] w (TreeOut (parseS bs) w) := by
 have hr : rightS y = true := (splitS_right hA.1 hs).1 0 y rfl
 have hx := one_leaf hr h1
 have HV := Lib.hid (show parseS bs = .ok (leafN (maskOf y.set)) by unfold parseS; rw [hs]; exact hx)
 obtain ⟨L, hL⟩ : ∃ L, L = [y] := ⟨_, rfl⟩
 have HLy := Lib.hid hL
 rw [← hL] at hs hx
 have HX := Lib.hid hx
 have hlen : L.length = 1 := by rw [hL]; rfl
 clear hL
 have hd : ((L.length : Int) == 1) = true := by rw [beq_iff_eq]; omega
 have hd0 : (0 : Int) < (L.length : Int) := by omega
 have hy : L[0]? = some y := by rw [HLy.out]; rfl
 have Hy := Lib.hid hy
 clear hlen hy hr hx
 have hL65 := (splitS_right hA.1 hs).2.2
 have hb2 : Below w.heap.size w ((w.alloc (.cells #[.int .i64 0, .int .u64 0, .int .u64 0, .int .u64 0, .int .u64 0, .slice none 0 0, .int .i64 0, .int .i64 0] 28)).alloc (.cells #[.int .i64 0, .int .i64 0] 77)) := ((Below.refl _ _).alloc (Nat.le_refl _) _).alloc (by simp) _
 have HB2 := Lib.hid hb2
 have HG2 := Lib.hid (show Blk ((w.alloc (.cells #[.int .i64 0, .int .u64 0, .int .u64 0, .int .u64 0, .int .u64 0, .slice none 0 0, .int .i64 0, .int .i64 0] 28)).alloc (.cells #[.int .i64 0, .int .i64 0] 77)) w.heap.size 28 _ from (Blk.new w 28 #[.int .i64 0, .int .u64 0, .int .u64 0, .int .u64 0, .int .u64 0, .slice none 0 0, .int .i64 0, .int .i64 0]).alloc _)
 have HH2 := Lib.hid (show Blk ((w.alloc (.cells #[.int .i64 0, .int .u64 0, .int .u64 0, .int .u64 0, .int .u64 0, .slice none 0 0, .int .i64 0, .int .i64 0] 28)).alloc (.cells #[.int .i64 0, .int .i64 0] 77)) (w.heap.size + 1) 77 #[.int .i64 0, .int .i64 0] from Blk.new_at (by simp))
 have h1 := split_go A cap bs _ ((hA.below hb2).more (by simp; omega)) hcap
 rw [hs] at h1
 have H1 := Lib.hid h1
 clear hb2 hA h1
 go_enter Tryz.func61, Tryz.ntmps61
 go_wp2_with fail
 refine H1.out.mono ?_
 rintro e w3 ⟨v, rfl, hb3, hrow3⟩
 obtain ⟨A3, cap3, rfl⟩ := own_slice hrow3
 have hb4 : Below w3.heap.size w3 (w3.alloc (.cells #[.int .i64 0, .int .i64 0] 77)) := (Below.refl _ _).alloc (Nat.le_refl _) _
 have HB4 := Lib.hid (HB2.out.trans ((hb3.trans (hb4.mono hb3.size)).mono HB2.out.size))
 have hG4 := (HG2.out.below hb3 HG2.out.lt).alloc (.cells #[.int .i64 0, .int .i64 0] 77)
 have hH4 := (HH2.out.below hb3 HH2.out.lt).alloc (.cells #[.int .i64 0, .int .i64 0] 77)
 have hc3 := own_room hrow3 rfl
 have HL4 := Lib.hid (((lexRow_of hrow3).at.below hb4).more hb4.size)
 have hsz4 : w.heap.size + 2 < (w3.alloc (.cells #[.int .i64 0, .int .i64 0] 77)).heap.size := by have := hb3.size; simp at this ⊢; omega
 have HG4 := Lib.hid hG4
 have HH4 := Lib.hid hH4
 clear hb3 hrow3 hb4 H1 HB2 HG2 HH2
 dsimp only
 obtain ⟨b4, o4, rfl, hbl4, hc4⟩ := HL4.out (by omega)
 obtain ⟨q0, _, q2, q3, q4, q5, _⟩ := hc4 0 y Hy.out
 simp only [Nat.zero_mul, Nat.add_zero] at q0 q2 q3 q4 q5
 rw [h1] at q0
 have q3' : (w3.alloc (.cells #[.int .i64 0, .int .i64 0] 77)).cell? ⟨b4, o4 + 2 + 1, none⟩ = some (.int .u64 (word y.set 1)) := q3
 have q4' : (w3.alloc (.cells #[.int .i64 0, .int .i64 0] 77)).cell? ⟨b4, o4 + 2 + 2, none⟩ = some (.int .u64 (word y.set 2)) := q4
 have q5' : (w3.alloc (.cells #[.int .i64 0, .int .i64 0] 77)).cell? ⟨b4, o4 + 2 + 3, none⟩ = some (.int .u64 (word y.set 3)) := q5
 clear hc4 hG4 hH4
 go_wp2_with fail
 refine (count_go y.set _).mono ?_
 rintro e w5 ⟨rfl, hb5⟩
 have hG5 := HG4.out.below hb5 HG4.out.lt
 have hH5 := HH4.out.below hb5 HH4.out.lt
 have HB5 := Lib.hid (HB4.out.trans (hb5.mono (by omega)))
 have HL5 := Lib.hid ((HL4.out.below hb5).more hb5.size)
 have hsz5 := hb5.size
 have q2 := (hb5.cell (p := ⟨b4, o4 + 2, none⟩) hbl4).trans q2
 have q3' := (hb5.cell (p := ⟨b4, o4 + 2 + 1, none⟩) hbl4).trans q3'
 have q4' := (hb5.cell (p := ⟨b4, o4 + 2 + 2, none⟩) hbl4).trans q4'
 have q5' := (hb5.cell (p := ⟨b4, o4 + 2 + 3, none⟩) hbl4).trans q5'
 have HG5 := Lib.hid hG5
 have HH5 := Lib.hid hH5
 clear hb5 hG5 hH5 HB4 HG4 HH4 HL4 q0
 dsimp only
 by_cases hcn : cnt y.set 256 = 1
 ·rw [hcn]
  clear hcn
  go_wp2_with fail
  refine (tbytes_any y.set _).mono ?_
  rintro e w6 ⟨rfl, hb6⟩
  have hG6 := HG5.out.below hb6 HG5.out.lt
  have hH6 := HH5.out.below hb6 HH5.out.lt
  have HB6 := Lib.hid (HB5.out.trans (hb6.mono (by omega)))
  have HT6 : Hid (TreesAt w6 (fun b => w.heap.size + 2 ≤ b) (leafN (maskOf y.set)).kids none) := Lib.hid trivial
  have y0 : w6.cell? ⟨w.heap.size, 0, none⟩ = some (.int .i64 0) := hG6.cell 0
  have y1 : w6.cell? ⟨w.heap.size, 1, none⟩ = some (.int .u64 0) := hG6.cell 1
  have y2 : w6.cell? ⟨w.heap.size, 2, none⟩ = some (.int .u64 0) := hG6.cell 2
  have y3 : w6.cell? ⟨w.heap.size, 3, none⟩ = some (.int .u64 0) := hG6.cell 3
  have y4 : w6.cell? ⟨w.heap.size, 4, none⟩ = some (.int .u64 0) := hG6.cell 4
  have y5 : w6.cell? ⟨w.heap.size, 5, none⟩ = some (.slice none 0 0) := hG6.cell 5
  have y6 : w6.cell? ⟨w.heap.size, 6, none⟩ = some (.int .i64 0) := hG6.cell 6
  have y7 : w6.cell? ⟨w.heap.size, 7, none⟩ = some (.int .i64 0) := hG6.cell 7
  have z0 := hG6.frozen 0
  have z1 := hG6.frozen 1
  have z2 := hG6.frozen 2
  have z3 := hG6.frozen 3
  have z4 := hG6.frozen 4
  have z5 := hG6.frozen 5
  have z6 := hG6.frozen 6
  have z7 := hG6.frozen 7
  obtain ⟨b0, b1, f0, f1⟩ := hH6.c2
  have HG6 := Lib.hid hG6
  have HH6 := Lib.hid hH6
  clear hb6 hG6 hH6 HG5 HH5 HB5
  have hv3 : ndV (leafN (maskOf y.set)) none 0 = .agg #[.int .i64 3, .int .u64 ((word ((maskOf y.set).testBit) 0 : Nat) : Int), .int .u64 ((word ((maskOf y.set).testBit) 1 : Nat) : Int), .int .u64 ((word ((maskOf y.set).testBit) 2 : Nat) : Int), .int .u64 ((word ((maskOf y.set).testBit) 3 : Nat) : Int), .slice none 0 0, .int .i64 0, .int .i64 0] := rfl
  rw [hv3]
  clear hv3
  dsimp only
  go_wp2
  go_light
  have hF := laid (x := leafN (maskOf y.set)) (B := none) (cap := 0) (k := 0) (q := 0) HG6.out HH6.out HB6.out HT6.out rfl
  rw [HV.out]
  exact bodyPost_ret (ret_tree Tryz.results61 rfl rfl hF.1 hF.2.1) rfl ⟨none, 0, rfl, hF.2.2.1, Nat.le_refl _, hF.2.2.2⟩
 ·have hd2 : (((cnt y.set 256 : Nat) : Int) == 1) = false := by rw [beq_eq_false_iff_ne]; omega
  clear hcn
  have hP := lexemes_go _ cap3 L _ HL5.out (by omega) hc3
  rw [HX.out] at hP
  have HP := Lib.hid hP
  clear hP
  go_wp2_with fail
  refine HP.out.mono ?_
  rintro e w6 ⟨B, cap6, rfl, hb6, hc6, ht6⟩
  have hG6 := HG5.out.below hb6 HG5.out.lt
  have hH6 := HH5.out.below hb6 HH5.out.lt
  have HB6 := Lib.hid (HB5.out.trans (hb6.mono (by omega)))
  have HT6 := Lib.hid (ht6.weak (Q := fun b => w.heap.size + 2 ≤ b) (fun b hb _ => by omega))
  have y0 : w6.cell? ⟨w.heap.size, 0, none⟩ = some (.int .i64 0) := hG6.cell 0
  have y1 : w6.cell? ⟨w.heap.size, 1, none⟩ = some (.int .u64 0) := hG6.cell 1
  have y2 : w6.cell? ⟨w.heap.size, 2, none⟩ = some (.int .u64 0) := hG6.cell 2
  have y3 : w6.cell? ⟨w.heap.size, 3, none⟩ = some (.int .u64 0) := hG6.cell 3
  have y4 : w6.cell? ⟨w.heap.size, 4, none⟩ = some (.int .u64 0) := hG6.cell 4
  have y5 : w6.cell? ⟨w.heap.size, 5, none⟩ = some (.slice none 0 0) := hG6.cell 5
  have y6 : w6.cell? ⟨w.heap.size, 6, none⟩ = some (.int .i64 0) := hG6.cell 6
  have y7 : w6.cell? ⟨w.heap.size, 7, none⟩ = some (.int .i64 0) := hG6.cell 7
  have z0 := hG6.frozen 0
  have z1 := hG6.frozen 1
  have z2 := hG6.frozen 2
  have z3 := hG6.frozen 3
  have z4 := hG6.frozen 4
  have z5 := hG6.frozen 5
  have z6 := hG6.frozen 6
  have z7 := hG6.frozen 7
  obtain ⟨b0, b1, f0, f1⟩ := hH6.c2
  have HG6 := Lib.hid hG6
  have HH6 := Lib.hid hH6
  clear hb6 ht6 hG6 hH6 HP HG5 HH5 HB5
  unfold ndV
  dsimp only
  go_wp2
  go_light
  have hF := laid (x := leafN (maskOf y.set)) (B := B) (cap := cap6) (k := 0) (q := 0) HG6.out HH6.out HB6.out HT6.out rfl
  rw [HV.out]
  exact bodyPost_ret (ret_tree Tryz.results61 rfl rfl hF.1 hF.2.1) rfl ⟨B, cap6, rfl, hF.2.2.1, hc6, hF.2.2.2⟩
theorem splitF_kind {bs : List Nat} (hb : ∀ x ∈ bs, x < 256) : ∀ {f i : Nat} {L : List Lex} {k q : Int}, bs.length < f + i → i ≤ bs.length → splitF bs f i L = .error (k, q) → k ≠ 0
 | 0, i, L, k, q, hf, hi, h => by omega
 | f + 1, i, L, k, q, hf, hi, h => by
  rcases Nat.lt_or_ge i bs.length with h1 | h1
  ·cases hx : lexS bs i with
   | error e =>
    obtain ⟨a, b⟩ := e
    rw [splitF_bad h1 hx] at h
    cases h
    exact lexS_err hb hx
   | ok x =>
    obtain ⟨x, j⟩ := x
    have hj := lexS_some hb h1 hx
    rw [splitF_ok h1 hx] at h
    exact splitF_kind hb (by omega) hj.2 h
  ·rw [splitF_end h1] at h; cases h
theorem splitS_kind {bs : List Nat} (hb : ∀ x ∈ bs, x < 256) {k q : Int} (h : splitS bs = .error (k, q)) : k ≠ 0 := by
 rcases Nat.lt_or_ge 65536 bs.length with h1 | h1
 ·rw [splitS_long h1] at h
  cases h
  decide
 ·rw [splitS_go h1] at h
  exact splitF_kind hb (by omega) (Nat.zero_le _) h
theorem text_go07 (A : Option Addr) (cap : Nat) (bs : List Nat) (w : World) (hA : BytesAt w w.heap.size A bs) (hcap : bs.length ≤ cap) :
  Calls Tryz.prog 61 #[.slice A bs.length cap] w (TreeOut (parseS bs) w) := by
 cases hs : splitS bs with
 | error x =>
  obtain ⟨k, q⟩ := x
  exact text_bad A cap bs w hA hcap hs (splitS_kind hA.1 hs)
 | ok L =>
  by_cases h1 : L.length = 1
  ·obtain ⟨y, rfl⟩ := List.length_eq_one_iff.1 h1
   by_cases hk : y.kind = 1
   ·exact text_set A cap bs w hA hcap hs hk
   ·exact text_sign A cap bs w hA hcap hs hk
  ·exact text_many A cap bs w hA hcap hs h1
end Go.Proofs.YtofbfafnpdaejaaGreatDoor
