/- Texts of the claim. -/
import Derived.Test.YtfekpkelmliejaaGreatDoorJZ03
import Derived.Test.YtfekpkelmliejaaGreatDoorJZ04
namespace Go.Proofs.YtfekpkelmliejaaGreatDoor
open Go.RowKit
set_option linter.unusedSimpArgs false
set_option linter.unusedVariables false
set_option maxRecDepth 100000
set_option maxHeartbeats 8000000
def SaidC (n : Nat) : Prop := ∀ (x : Nd) (P : Nat → Prop) (B : Option Addr) (cap : Nat) (w : World), x.size ≤ n → x.size ≤ 100000 → TreesAt w P x.kids B →
 Calls Tryz.prog 100 #[ndV x B cap] w fun e w' => ∃ B' cap', e = .returned (ndV x.said B' cap') ∧ Below w.heap.size w w' ∧ x.said.kids.len ≤ cap' ∧ TreesAt w' (fun b => w.heap.size ≤ b) x.said.kids B'
theorem ndV_said {x : Nd} (h : x.kind ≠ 1) (B : Option Addr) (cap : Nat) : ndV x.said B cap = ndV ⟨x.kind, x.set, Trees.of x.kids.said, x.lo, x.hi⟩ B cap := by
 have e : x.said = ⟨x.kind, maskOf x.set.testBit, Trees.of x.kids.said, x.lo, x.hi⟩ := if_neg h
 rw [e]
 unfold ndV
 simp only [word_mask x.set.testBit 0 (by decide), word_mask x.set.testBit 1 (by decide), word_mask x.set.testBit 2 (by decide), word_mask x.set.testBit 3 (by decide)]
theorem said_kids {x : Nd} (h : x.kind ≠ 1) : x.said.kids = Trees.of x.kids.said := by
 have e : x.said = ⟨x.kind, maskOf x.set.testBit, Trees.of x.kids.said, x.lo, x.hi⟩ := if_neg h
 rw [e]
theorem said_one {x : Nd} (h : x.kind = 1) : x.said = leafN 0 := if_pos h
theorem crow_made (w : World) : CRow w [] (.slice (some ⟨w.heap.size, 0, none⟩) 0 0) (w.alloc (.cells #[] 28)) :=
 ⟨⟨[], ⟨rfl, .inr ⟨w.heap.size, 0, #[], rfl, Nat.le_refl _, heap_alloc_new w _, Nat.le_refl _, Nat.zero_le _, rfl, rfl⟩⟩, rfl⟩, (Below.refl _ _).alloc (Nat.le_refl _) _⟩
theorem said_loop {n : Nat} (ih : SaidC n) (x : Nd) (P : Nat → Prop) (B : Option Addr) (cap : Nat) (w : World) (hsz : x.size ≤ n + 1) (hlen : x.size ≤ 100000) (ht : TreesAt w P x.kids B) (hk1 : x.kind ≠ 1) :
  Calls Tryz.prog 100 #[ndV x B cap] w fun e w' => ∃ B' cap', e = .returned (ndV x.said B' cap') ∧ Below w.heap.size w w' ∧ x.said.kids.len ≤ cap' ∧ TreesAt w' (fun b => w.heap.size ≤ b) x.said.kids B' := by
 obtain ⟨i0, hi0, hz0, hz1, hz2⟩ := info_parts info_nd
 have hb2 : Below w.heap.size w ((w.alloc (.cells (ndA x B cap) 28)).alloc (.cells #[.int .i64 0, .int .u64 0, .int .u64 0, .int .u64 0, .int .u64 0, .slice none 0 0, .int .i64 0, .int .i64 0] 28)) := ((Below.refl _ _).alloc (Nat.le_refl _) _).alloc (by simp) _
 have HB2 := Lib.hid hb2
 have HX2 := Lib.hid (show Blk ((w.alloc (.cells (ndA x B cap) 28)).alloc (.cells #[.int .i64 0, .int .u64 0, .int .u64 0, .int .u64 0, .int .u64 0, .slice none 0 0, .int .i64 0, .int .i64 0] 28)) w.heap.size 28 (ndA x B cap) from (Blk.new _ _ _).alloc _)
 have HZ2 := Lib.hid (show Blk ((w.alloc (.cells (ndA x B cap) 28)).alloc (.cells #[.int .i64 0, .int .u64 0, .int .u64 0, .int .u64 0, .int .u64 0, .slice none 0 0, .int .i64 0, .int .i64 0] 28)) (w.heap.size + 1) 28 #[.int .i64 0, .int .u64 0, .int .u64 0, .int .u64 0, .int .u64 0, .slice none 0 0, .int .i64 0, .int .i64 0] from Blk.new_at (by simp))
 have HS2 := Lib.hid (show ((w.alloc (.cells (ndA x B cap) 28)).alloc (.cells #[.int .i64 0, .int .u64 0, .int .u64 0, .int .u64 0, .int .u64 0, .slice none 0 0, .int .i64 0, .int .i64 0] 28)).heap.size = w.heap.size + 1 + 1 by simp)
 have HT := Lib.hid (ht.below hb2)
 have HV := Lib.hid (fun (B' : Option Addr) (c' : Nat) => ndV_said hk1 B' c')
 have HK := Lib.hid (said_kids hk1)
 have hkk : (x.kind == 1) = false := by simpa using hk1
 have hsz2 : x.kids.size ≤ n ∧ x.kids.size ≤ 100000 := by unfold Nd.size at hsz hlen; omega
 have hlk : x.kids.len ≤ 100000 := by have := Trees.len_size x.kids; omega
 have HR0 := Lib.hid (crow_made ((w.alloc (.cells (ndA x B cap) 28)).alloc (.cells #[.int .i64 0, .int .u64 0, .int .u64 0, .int .u64 0, .int .u64 0, .slice none 0 0, .int .i64 0, .int .i64 0] 28)))
 rw [HS2.out] at HR0
 clear ht hb2 hk1 hsz hlen
 unfold ndV
 unfold ndA at HB2 HX2 HZ2 HS2 HT HR0
 go_enter Tryz.func100, Tryz.ntmps100
 go_upto_region 4 with fail
 generalize (w.alloc (.cells #[.int .i64 x.kind, .int .u64 (word x.set.testBit 0), .int .u64 (word x.set.testBit 1), .int .u64 (word x.set.testBit 2), .int .u64 (word x.set.testBit 3), .slice B x.kids.len cap, .int .i64 x.lo, .int .i64 x.hi] 28)).alloc (.cells #[.int .i64 0, .int .u64 0, .int .u64 0, .int .u64 0, .int .u64 0, .slice none 0 0, .int .i64 0, .int .i64 0] 28) = w2 at *
 generalize w2.alloc (.cells #[] 28) = w3 at *
 go_wp2
 go_loopw [3, 4] (fun u i wr => ∃ k : Nat, i = .int .i64 (k : Int) ∧ k ≤ x.kids.len ∧ Hid (CRow w2 ((x.kids.list.take k).map Nd.said) u wr)) (fun _ i _ => x.kids.len - (intOf i).toNat)
 case atStart => exact ⟨0, rfl, Nat.zero_le _, HR0⟩
 case round =>
  clear HR0
  obtain ⟨k, rfl, hk, HR⟩ := hrel
  have hX := HX2.out.below HR.out.2 HX2.out.lt
  have x0 : wr.cell? ⟨w.heap.size, 0, none⟩ = some (.int .i64 x.kind) := hX.cell 0
  have x1 : wr.cell? ⟨w.heap.size, 1, none⟩ = some (.int .u64 (word x.set.testBit 0)) := hX.cell 1
  have x2 : wr.cell? ⟨w.heap.size, 2, none⟩ = some (.int .u64 (word x.set.testBit 1)) := hX.cell 2
  have x3 : wr.cell? ⟨w.heap.size, 3, none⟩ = some (.int .u64 (word x.set.testBit 2)) := hX.cell 3
  have x4 : wr.cell? ⟨w.heap.size, 4, none⟩ = some (.int .u64 (word x.set.testBit 3)) := hX.cell 4
  have x5 : wr.cell? ⟨w.heap.size, 5, none⟩ = some (.slice B x.kids.len cap) := hX.cell 5
  have x6 : wr.cell? ⟨w.heap.size, 6, none⟩ = some (.int .i64 x.lo) := hX.cell 6
  have x7 : wr.cell? ⟨w.heap.size, 7, none⟩ = some (.int .i64 x.hi) := hX.cell 7
  have hlx := hX.lt
  by_cases hlt : k < x.kids.len
  ·obtain ⟨z, hz⟩ : ∃ z, x.kids.list[k]? = some z := ⟨_, List.getElem?_eq_getElem (by rw [Trees.len_list]; exact hlt)⟩
   have hzs := Trees.size_get x.kids k z hz
   have HTk := Lib.hid (show (x.kids.list.take (k + 1)).map Nd.said = (x.kids.list.take k).map Nd.said ++ [z.said] by rw [List.take_add_one, hz]; simp)
   have hacc : ((x.kids.list.take k).map Nd.said).length = k := by simp; rw [Trees.len_list]; omega
   generalize (x.kids.list.take k).map Nd.said = acc at *
   obtain ⟨b, o, C, capc, rfl, _, _, ⟨c0, c1, c2, c3, c4, c5, c6, c7⟩, hkz⟩ := (HT.out.below HR.out.2).get hz
   have hdl : (k : Int) < (x.kids.len : Int) := by omega
   have HI := Lib.hid (ih z _ C capc wr (by omega) (by omega) hkz)
   have hws : w2.heap.size ≤ wr.heap.size := HR.out.2.size
   clear hz hzs hkz hX
   unfold ndV at HI
   go_wp2_with fail
   refine HI.out.mono ?_
   rintro e w4 ⟨B4, cap4, rfl, hb4, hc4, ht4⟩
   have hrow4 := HR.out.below hb4
   obtain ⟨⟨cs, hr4, hcs4⟩, _⟩ := id hrow4
   have hl := HR.out.own
   have hz4 := ht4.weak (Q := fun b => w2.heap.size ≤ b ∧ some b ≠ u3.ownBlock) (fun b hb _ => ⟨by omega, fun e => by have := (hl b e.symm).2; omega⟩)
   have Hrow4 := Lib.hid hrow4
   have HR4 := Lib.hid hr4
   have HC4 := Lib.hid hcs4
   have HZ4 := Lib.hid hz4
   have h63 : acc.length + 1 ≤ maxLen := Nat.le_trans (by omega) (show 200000 ≤ maxLen by decide)
   have hby : (acc.length + 1) * 80 ≤ 140737488355328 := by omega
   have hWs : w2.heap.size ≤ w4.heap.size := by have := hb4.size; omega
   clear hrow4 hr4 hcs4 hz4 ht4 hl hb4 HI HR c0 c1 c2 c3 c4 c5 c6 c7 x0 x1 x2 x3 x4 x5 x6 x7 hlx
   generalize z.said = y at *
   try unfold ndV
   dsimp only
   go_wp2_with (at_builtin; refine wpList_append_lies _ rfl _ _ 26 rfl w2.heap.size 28 i0 _ 8 80 Tryz.underlying26 hi0 hz0 hz1 hz2 rfl (by decide) u3 acc.length cs rfl (HR4.out.alloc _) ⟨w4.heap.size, 0, none⟩ 1 1 (ndCell y B4 cap4) rfl rfl (World.news_of_block (Blk.new_at (cs := ndA y B4 cap4) (t := 28) (by simp))) (by simp [ndCell, Value.oneCell']) (by decide) h63 hby (by simp; omega) (w4.heap.size + 1) (by simp) ?_; intro gg capg w5 hown5 hgrow5 hat5 hg5; have HA6 := Lib.hid (Hrow4.out.append HZ4.out hc4 HC4.out hown5 hgrow5 (by simpa using hat5)); clear hown5 hgrow5 hat5)
   go_light
   go_roundw
   case rel => exact ⟨k + 1, by go_num, by omega, Lib.hid (by rw [HTk.out]; have h6 := HA6.out; rw [hacc] at h6; exact h6)⟩
   case measure => simp [intOf]; omega
  ·have hdl : ¬ (k : Int) < (x.kids.len : Int) := by omega
   obtain rfl : k = x.kids.len := by omega
   have hta : (x.kids.list.take x.kids.len).map Nd.said = x.kids.said := by
    rw [← Trees.len_list, List.take_length, Trees.said_list]
   rw [hta] at HR
   have hsl : x.kids.said.length = x.kids.len := by rw [Trees.said_list, List.length_map, Trees.len_list]
   obtain ⟨A5, cap5, rfl, hc5, ht5⟩ := HR.out.trees
   have hZ3 := HZ2.out.below HR.out.2 HZ2.out.lt
   have hB3 := HB2.out.trans (HR.out.2.mono HB2.out.size)
   rw [HS2.out] at ht5
   have f5 := hX.frozen 5
   have y0 : wr.cell? ⟨w.heap.size + 1, 0, none⟩ = some (.int .i64 0) := hZ3.cell 0
   have y1 : wr.cell? ⟨w.heap.size + 1, 1, none⟩ = some (.int .u64 0) := hZ3.cell 1
   have y2 : wr.cell? ⟨w.heap.size + 1, 2, none⟩ = some (.int .u64 0) := hZ3.cell 2
   have y3 : wr.cell? ⟨w.heap.size + 1, 3, none⟩ = some (.int .u64 0) := hZ3.cell 3
   have y4 : wr.cell? ⟨w.heap.size + 1, 4, none⟩ = some (.int .u64 0) := hZ3.cell 4
   have y5 : wr.cell? ⟨w.heap.size + 1, 5, none⟩ = some (.slice none 0 0) := hZ3.cell 5
   have y6 : wr.cell? ⟨w.heap.size + 1, 6, none⟩ = some (.int .i64 0) := hZ3.cell 6
   have y7 : wr.cell? ⟨w.heap.size + 1, 7, none⟩ = some (.int .i64 0) := hZ3.cell 7
   have g0 := hZ3.frozen 0
   have g1 := hZ3.frozen 1
   have g2 := hZ3.frozen 2
   have g3 := hZ3.frozen 3
   have g4 := hZ3.frozen 4
   have g5 := hZ3.frozen 5
   have g6 := hZ3.frozen 6
   have g7 := hZ3.frozen 7
   have HX3 := Lib.hid hX
   have HZ3 := Lib.hid hZ3
   have HB3 := Lib.hid hB3
   have HT3 := Lib.hid ht5
   have HL := Lib.hid hsl
   have hlz := hZ3.lt
   clear hX hZ3 hB3 ht5 hta HR HT HZ2 HX2 HB2 hsl
   generalize x.kids.said = ss at *
   go_wp2
   go_light
   have hZ4 : Blk (wr.setCell ⟨w.heap.size, 5, none⟩ (.slice A5 ss.length cap5)) (w.heap.size + 1) 28 #[.int .i64 0, .int .u64 0, .int .u64 0, .int .u64 0, .int .u64 0, .slice none 0 0, .int .i64 0, .int .i64 0] := HZ3.out.far (p := ⟨w.heap.size, 5, none⟩) (by simp) _
   have hT4 : TreesAt (wr.setCell ⟨w.heap.size, 5, none⟩ (.slice A5 ss.length cap5)) (fun b => w.heap.size + 2 ≤ b) (Trees.of ss) A5 := HT3.out.keep (fun b o hb _ => World.cell?_of_block (Below.heap_setCell wr ⟨w.heap.size, 5, none⟩ _ b (by show b ≠ w.heap.size; omega))) (fun b hb _ => by omega)
   have hF := put_next (x := ⟨x.kind, x.set, Trees.of ss, x.lo, x.hi⟩) (B := A5) (cap := cap5) hZ4 (HB3.out.setCell (p := ⟨w.heap.size, 5, none⟩) (Nat.le_refl _) _) hT4 rfl
   simp only [Trees.len_of] at hF
   refine bodyPost_ret (ret_node Tryz.results100 rfl hF.1) rfl ⟨A5, cap5, ?_, hF.2.1, by rw [HK.out, Trees.len_of]; exact hc5, by rw [HK.out]; exact hF.2.2⟩
   have hv := (HV.out A5 cap5).symm
   unfold ndV at hv
   exact congrArg Ending.returned hv
theorem said_none (x : Nd) (B : Option Addr) (cap : Nat) (w : World) (hk1 : x.kind = 1) :
  Calls Tryz.prog 100 #[ndV x B cap] w fun e w' => ∃ B' cap', e = .returned (ndV x.said B' cap') ∧ Below w.heap.size w w' ∧ x.said.kids.len ≤ cap' ∧ TreesAt w' (fun b => w.heap.size ≤ b) x.said.kids B' := by
 have HB2 := Lib.hid (show Below w.heap.size w ((w.alloc (.cells (ndA x B cap) 28)).alloc (.cells #[.int .i64 0, .int .u64 0, .int .u64 0, .int .u64 0, .int .u64 0, .slice none 0 0, .int .i64 0, .int .i64 0] 28)) from ((Below.refl _ _).alloc (Nat.le_refl _) _).alloc (by simp) _)
 have HZ2 := Lib.hid (show Blk ((w.alloc (.cells (ndA x B cap) 28)).alloc (.cells #[.int .i64 0, .int .u64 0, .int .u64 0, .int .u64 0, .int .u64 0, .slice none 0 0, .int .i64 0, .int .i64 0] 28)) (w.heap.size + 1) 28 #[.int .i64 0, .int .u64 0, .int .u64 0, .int .u64 0, .int .u64 0, .slice none 0 0, .int .i64 0, .int .i64 0] from Blk.new_at (by simp))
 have hC := nbytes_any (fun _ => false) ((w.alloc (.cells (ndA x B cap) 28)).alloc (.cells #[.int .i64 0, .int .u64 0, .int .u64 0, .int .u64 0, .int .u64 0, .slice none 0 0, .int .i64 0, .int .i64 0] 28))
 rw [word_none, word_none, word_none, word_none] at hC
 have HC := Lib.hid hC
 have hm : maskOf (fun _ => false) = 0 := mask_zero (s := 0) (fun i hi => by rw [show (Nat.testBit 0) = fun _ => false from funext fun j => Nat.zero_testBit j]; exact word_none i) ▸ (by rw [show (Nat.testBit 0) = fun _ => false from funext fun j => Nat.zero_testBit j])
 have HV := Lib.hid (said_one hk1)
 have HMM := Lib.hid hm
 clear hC hm
 unfold ndV
 unfold ndA at HB2 HZ2 HC
 rw [hk1] at *
 clear hk1
 go_enter Tryz.func100, Tryz.ntmps100
 go_wp2_with fail
 refine HC.out.mono ?_
 rintro e w3 ⟨rfl, hb3⟩
 have hZ3 := HZ2.out.below hb3 HZ2.out.lt
 have HB3 := Lib.hid (HB2.out.trans (hb3.mono HB2.out.size))
 have y0 : w3.cell? ⟨w.heap.size + 1, 0, none⟩ = some (.int .i64 0) := hZ3.cell 0
 have y1 : w3.cell? ⟨w.heap.size + 1, 1, none⟩ = some (.int .u64 0) := hZ3.cell 1
 have y2 : w3.cell? ⟨w.heap.size + 1, 2, none⟩ = some (.int .u64 0) := hZ3.cell 2
 have y3 : w3.cell? ⟨w.heap.size + 1, 3, none⟩ = some (.int .u64 0) := hZ3.cell 3
 have y4 : w3.cell? ⟨w.heap.size + 1, 4, none⟩ = some (.int .u64 0) := hZ3.cell 4
 have y5 : w3.cell? ⟨w.heap.size + 1, 5, none⟩ = some (.slice none 0 0) := hZ3.cell 5
 have y6 : w3.cell? ⟨w.heap.size + 1, 6, none⟩ = some (.int .i64 0) := hZ3.cell 6
 have y7 : w3.cell? ⟨w.heap.size + 1, 7, none⟩ = some (.int .i64 0) := hZ3.cell 7
 have g0 := hZ3.frozen 0
 have g1 := hZ3.frozen 1
 have g2 := hZ3.frozen 2
 have g3 := hZ3.frozen 3
 have g4 := hZ3.frozen 4
 have g5 := hZ3.frozen 5
 have g6 := hZ3.frozen 6
 have g7 := hZ3.frozen 7
 have hlz := hZ3.lt
 have HZ3 := Lib.hid hZ3
 clear hb3 hZ3 HC HZ2 HB2
 unfold ndV
 dsimp only
 go_wp2
 go_light
 have hF := put_next (x := leafN (maskOf fun _ => false)) (B := none) (cap := 0) HZ3.out HB3.out trivial rfl
 rw [HV.out, ← HMM.out]
 exact bodyPost_ret (ret_node Tryz.results100 rfl hF.1) rfl ⟨none, 0, rfl, hF.2.1, Nat.le_refl _, trivial⟩
theorem said_go (x : Nd) (P : Nat → Prop) (B : Option Addr) (cap : Nat) (w : World) (hlen : x.size ≤ 100000) (ht : TreesAt w P x.kids B) :
  Calls Tryz.prog 100 #[ndV x B cap] w fun e w' => ∃ B' cap', e = .returned (ndV x.said B' cap') ∧ Below w.heap.size w w' ∧ x.said.kids.len ≤ cap' ∧ TreesAt w' (fun b => w.heap.size ≤ b) x.said.kids B' := by
 have h : ∀ n, SaidC n := by
  intro n
  induction n with
  | zero => exact fun x _ _ _ _ h => by unfold Nd.size at h; omega
  | succ n ih =>
   intro x P B cap w hsz hlen ht
   by_cases hk1 : x.kind = 1
   ·exact said_none x B cap w hk1
   ·exact said_loop ih x P B cap w hsz hlen ht hk1
 exact h x.size x P B cap w (Nat.le_refl _) hlen ht
end Go.Proofs.YtfekpkelmliejaaGreatDoor
