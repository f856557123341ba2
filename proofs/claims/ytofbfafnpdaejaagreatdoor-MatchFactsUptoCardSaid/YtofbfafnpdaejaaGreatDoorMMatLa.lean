/- Texts of the claim. -/
import Derived.Test.YtofbfafnpdaejaaGreatDoorMMatZ
namespace Go.Proofs.YtofbfafnpdaejaaGreatDoor
open Go.RowKit Go.Maps
set_option linter.unusedSimpArgs false
set_option linter.unusedVariables false
set_option maxRecDepth 100000
set_option maxHeartbeats 8000000
theorem lay_step {x : Nd} (hK : ∀ y ∈ x.kids.list, LayP y) : LayP x := by
 intro B cap base gm a d v N xs w ht hcap hbox hrow hbg hbw hsz
 obtain ⟨i0, hi, hz0, hz1, hz2⟩ := info_parts info_part
 obtain ⟨j0, hj, hj0, hj1, hj2⟩ := info_parts info_intC
 obtain ⟨A0, c0, rfl, hc0⟩ := row_form hrow
 obtain ⟨W0, hW0⟩ : ∃ W0, w.alloc (.cells (ndA x B cap) 28) = W0 := ⟨_, rfl⟩
 have hal : Below w.heap.size w W0 := by rw [← hW0]; exact (Below.refl _ _).alloc (Nat.le_refl _) _
 have hs0 : W0.heap.size = w.heap.size + 1 := by rw [← hW0]; simp
 have hX : Blk W0 w.heap.size 28 (ndA x B cap) := by rw [← hW0]; exact Blk.new w _ _
 have hbox0 := hbox.below hal hbox.lt
 have hrow0 : W0.ownsRow base 172 9 (.slice A0 N c0) N xs := by rw [← hW0]; exact hrow.alloc _
 have hgm := hbox.lt
 have hneG := blk_not_row hbox0 (by decide) hrow0
 have hxl := hrow.1
 obtain ⟨x0, x1, x2, x3, x4, x5, x6, x7⟩ : _ ∧ _ ∧ _ ∧ _ ∧ _ ∧ _ ∧ _ ∧ _ := ⟨hX.cell 0, hX.cell 1, hX.cell 2, hX.cell 3, hX.cell 4, hX.cell 5, hX.cell 6, hX.cell 7⟩
 have g0 := hbox0.cell 0
 have f0 := hbox0.frozen 0
 unfold ndA at x0 x1 x2 x3 x4 x5 x6 x7 hW0
 simp only [List.getElem?_toArray, List.getElem?_cons_zero, List.getElem?_cons_succ] at x0 x1 x2 x3 x4 x5 x6 x7 g0
 have HX := Lib.hid hX
 have HG := Lib.hid hbox0
 have HR := Lib.hid hrow0
 have HNE := Lib.hid hneG
 have HT := Lib.hid ht
 have HK := Lib.hid hK
 have HB := Lib.hid (show base ≤ gm ∧ base ≤ w.heap.size ∧ gm < w.heap.size from ⟨hbg, hbw, hgm⟩)
 have HROW := Lib.hid hrow
 have HXL := Lib.hid hxl
 have HW0 := Lib.hid hW0
 have hlt0 : gm < W0.heap.size := by omega
 have hltx : w.heap.size < W0.heap.size := by omega
 have hb0 : base ≤ W0.heap.size := by omega
 have h63 : N + 1 ≤ maxLen := Nat.le_trans (by omega) (show 2000000 ≤ maxLen by decide)
 have hby : (N + 1) * 104 ≤ 140737488355328 := by unfold Nd.size at hsz; omega
 have HS0 := Lib.hid hs0
 clear hX hbox0 hrow0 hneG hK ht hrow hbox hal hxl hs0
 unfold ndV
 go_enter Tryz.func113, Tryz.ntmps113
 go_wp2
 go_region_law ((refine step_append_lies _ (by rfl) _ _ _ (by rfl) base 172 i0 _ 9 104 Tryz.underlying130 hi hz0 hz1 hz2 rfl (by decide) (.slice A0 N c0) N xs (by rfl) ((HR.out.alloc _).drew) ⟨W0.heap.size, 0, none⟩ 1 1 (pcell x B x.kids.len cap none 0 0) (by rfl) (by rfl) (World.news_of_block (cs := (pcell x B x.kids.len cap none 0 0).toArray) (t := 172) (fr := (0, 0)) (heap_alloc_new W0 _)) (by simp [pcell, Value.oneCell']) (by decide) h63 hby (by simp; omega) (W0.heap.size + 1) (by simp) ?_; intro gg cap' w3 hown1 hgrow hat hlt1; have hG1 := Blk.grown (Blk.drew (Blk.alloc HG.out _)) hgrow HNE.out; have c3 := hG1.cell 0; have d3 := hG1.frozen 0; have hg3 := hG1.lt; have HG1 := Lib.hid hG1; have Hgrow := Lib.hid hgrow; have Hown1 := Lib.hid hown1; have Hat := Lib.hid hat; clear hG1 hgrow hown1 hat))
 all_goals
  have H0 := Lib.hid (lay_begin (xs := xs) (x := x) (B := B) (cap := cap) HW0.out HB.out.1 HB.out.2.1 HB.out.2.2 HROW.out Hown1.out Hgrow.out Hat.out HG1.out)
  clear hW0 HW0 HX HG HR HNE HROW Hown1 Hgrow Hat HG1 c3 d3 hg3 hlt1 x0 x1 x2 x3 x4 x5 x6 x7 g0 f0 hlt0 hltx hb0 h63 hby HS0
  generalize hW1 : (w3.setCell { block := gm, off := 0 } (Value.slice (some { block := gg, off := 0 }) (N + 1) cap')) = W1 at *
  clear hW1
  have hX := H0.out.here
  have x5 := hX.cell 5
  unfold ndA at x5
  simp only [List.getElem?_toArray, List.getElem?_cons_zero, List.getElem?_cons_succ] at x5
  have lx := hX.lt
  clear hX
 all_goals go_wp2
 all_goals
  go_loopw [6, 28] (fun v i' wr => ∃ (j : Nat) (Av : Option Addr) (capv : Nat) (v' : Value) (ys : List Value), i' = .int .i64 (j : Int) ∧ v = .slice Av j capv ∧ j ≤ x.kids.len ∧ Hid (LayL base gm a d N xs x B cap w (.slice A0 N c0) j j wr (.slice Av j capv) v' ys)) (fun _ i' _ => x.kids.len - (intOf i').toNat)
  case atStart => exact ⟨0, none, 0, _, _, rfl, rfl, Nat.zero_le _, H0⟩
  case round =>
   clear H0 x5 lx
   obtain ⟨j, Av, capv, v', ys, rfl, rfl, hj', HL⟩ := hrel
   by_cases hlt : j < x.kids.len
   ·obtain ⟨y, hy⟩ : ∃ y, x.kids.list[j]? = some y := ⟨_, List.getElem?_eq_getElem (by rw [Trees.len_list]; exact hlt)⟩
    have HTw := (HT.out.keep (w' := wr) (Q := fun b => b < base) (fun b o h1 _ => HL.out.lay.below.cell (p := ⟨b, o, none⟩) h1) (fun b h1 _ => h1))
    obtain ⟨b, o, C, capc, rfl, hbb, hkl, ⟨q0, q1, q2, q3, q4, q5, q6, q7⟩, hkz⟩ := HTw.get hy
    have hwr := HL.out.lay.below.size
    have hbA : Below wr.heap.size wr (wr.alloc (.cells (ndA y C capc) 28)) := (Below.refl _ _).alloc (Nat.le_refl _) _
    have hks := kidsTo_len x (j + 1)
    rw [kidsTo_next hy, List.length_append, Nd.nodes_len] at hks
    have HI := Lib.hid (HK.out y (List.mem_of_getElem? hy) C capc base gm a d v' (N + 1 + (kidsTo x j).length) (xs ++ pcell x (some ⟨b, o, none⟩) x.kids.len cap none 0 0 ++ ys) (wr.alloc (.cells (ndA y C capc) 28)) (hkz.below hbA) hkl (HL.out.box.alloc _) (HL.out.row.alloc _) HB.out.1 (by have := HB.out.2.1; simp; omega) (by omega))
    have HY := Lib.hid hy
    have hdl : (j : Int) < (x.kids.len : Int) := by omega
    have hdc : (j : Int) < (cap : Int) := by omega
    have hblk := World.block_lt_of_cell? wr _ q0
    clear hy hkz hbA hks hwr HTw
    unfold ndV at HI
    unfold ndA at HI
    go_wp2_with fail
    refine HI.out.mono ?_
    rintro e w3 ⟨rfl, v2, zs, hbx, hrw, hps, hly⟩
    have HM3 := Lib.hid (lay_called HL.out HB.out.2.1 HB.out.2.2 HY.out hbx hrw hps hly)
    clear hbx hrw hps hly HI HL q0 q1 q2 q3 q4 q5 q6 q7 hblk hbb hkl
    have h63 : j + 1 ≤ maxLen := Nat.le_trans (show j + 1 ≤ 2000000 from by have := Trees.len_size x.kids; unfold Nd.size at hsz; omega) (by decide)
    have hby : (j + 1) * 8 ≤ 140737488355328 := by have := Trees.len_size x.kids; unfold Nd.size at hsz; omega
    have hw3 : w.heap.size ≤ w3.heap.size := HM3.out.lay.below.size
    dsimp only
    go_wp2_with (at_builtin; refine wpList_append_lies _ rfl _ _ 38 rfl w.heap.size 3 j0 _ 1 8 Tryz.underlying38 hj hj0 hj1 hj2 rfl (by decide) (.slice Av j capv) j (intsC (kidNums (N + 1) (x.kids.list.take j))) rfl (HM3.out.nums.alloc _) ⟨w3.heap.size, 0, none⟩ 1 1 [.int .i64 ((N + 1 + (kidsTo x j).length : Nat) : Int)] rfl rfl (World.news_of_block (cs := #[.int .i64 ((N + 1 + (kidsTo x j).length : Nat) : Int)]) (t := 3) (fr := (0, 0)) (heap_alloc_new w3 _)) (by simp [Value.oneCell']) (by decide) h63 hby (by simp; omega) (w3.heap.size + 1) (by simp) ?_; intro gg cap' w4 hown4 hgrow hat hlt1; have HN4 := Lib.hid (lay_append HM3.out HB.out.2.1 HB.out.2.2 HY.out hown4 hgrow hat); clear hgrow hown4 hat)
    go_roundw
    case rel => exact ⟨j + 1, _, _, _, _, by go_num, rfl, by omega, HN4⟩
    case measure => simp [intOf]; omega
   ·obtain rfl : j = x.kids.len := by omega
    have hdl : ¬ ((x.kids.len : Int) < (x.kids.len : Int)) := by omega
    have hks := kidsTo_all x
    have hsz1 : (kidsTo x x.kids.len).length + 1 = x.size := by rw [hks, ← Nd.nodes_len]; simp [Nd.nodes]
    obtain ⟨bp, c3, rfl, _, hbl⟩ := own_form HL.out.row (by omega)
    have hc3 : N + 1 + (kidsTo x x.kids.len).length ≤ c3 := by
     obtain ⟨A, c, e, h⟩ := row_form HL.out.row
     cases e
     exact h
    have g0 := HL.out.box.cell 0
    have lg := HL.out.box.lt
    simp only [List.getElem?_toArray, List.getElem?_cons_zero] at g0
    have fr := HL.out.row.frozenAt (N * 9 + 8)
    have c8 : wr.cell? ⟨bp, N * 9 + 8, none⟩ = some (.slice none 0 0) := by
     rw [HL.out.row.cellAt _ (by omega), List.append_assoc, List.getElem?_append_right (by have := HXL.out; omega), HXL.out, show N * 9 + 8 - N * 9 = 8 by omega]
     rfl
    have hd1 : (N : Int) < ((N + 1 + (kidsTo x x.kids.len).length : Nat) : Int) := by omega
    have hd2 : (N : Int) < (c3 : Int) := by omega
    have HE := Lib.hid (lay_end HL.out HB.out.2.1 HB.out.2.2 HXL.out hsz1)
    clear hks hsz1 HL
    go_wp2
    go_light
    go_ret
    exact ⟨rfl, _, HE.out.1, _, HE.out.2.1, HE.out.2.2.1, HE.out.2.2.2⟩
theorem lay11_all : ∀ (n : Nat) (x : Nd), x.size ≤ n → LayP x
 | 0, x, h => by unfold Nd.size at h; omega
 | n + 1, x, h => lay_step fun y hy => lay11_all n y (by
   obtain ⟨i, hi⟩ := List.mem_iff_getElem?.1 hy
   have := Trees.size_get x.kids i y hi
   unfold Nd.size at this h ⊢
   omega)
end Go.Proofs.YtofbfafnpdaejaaGreatDoor
