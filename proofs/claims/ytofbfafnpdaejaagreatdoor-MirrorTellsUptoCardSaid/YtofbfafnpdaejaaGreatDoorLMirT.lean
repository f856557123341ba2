/- Texts of the claim. -/
import Derived.Test.YtofbfafnpdaejaaGreatDoorLMirN
import Derived.Test.YtofbfafnpdaejaaGreatDoorLMirS
import Derived.Test.YtofbfafnpdaejaaGreatDoorLZ03
namespace Go.Proofs.YtofbfafnpdaejaaGreatDoor
open Go.RowKit
set_option linter.unusedSimpArgs false
set_option linter.unusedVariables false
set_option maxRecDepth 100000
set_option maxHeartbeats 8000000
def TurnC (n : Nat) : Prop := ∀ (x : Nd) (P : Nat → Prop) (B : Option Addr) (cap : Nat) (w : World), x.size ≤ n → x.size ≤ 2000000 → TreesAt w P x.kids B →
 Calls Tryz.prog 11 #[ndV x B cap] w fun e w' => ∃ B' cap', e = .returned (ndV x.turn B' cap') ∧ Below w.heap.size w w' ∧ x.turn.kids.len ≤ cap' ∧ TreesAt w' (fun b => w.heap.size ≤ b) x.turn.kids B'
theorem turn_step {n : Nat} (ih : TurnC n) : TurnC (n + 1) := by
 intro x P B cap w hsz hlen ht
 obtain ⟨i0, hi0, hz0, hz1, hz2⟩ := info_parts info_nd
 have hb2 : Below w.heap.size w ((w.alloc (.cells (ndA x B cap) 28)).alloc (.cells #[.int .i64 0, .int .u64 0, .int .u64 0, .int .u64 0, .int .u64 0, .slice none 0 0, .int .i64 0, .int .i64 0] 28)) := ((Below.refl _ _).alloc (Nat.le_refl _) _).alloc (by simp) _
 have HB2 := Lib.hid hb2
 have HX2 := Lib.hid (show Blk ((w.alloc (.cells (ndA x B cap) 28)).alloc (.cells #[.int .i64 0, .int .u64 0, .int .u64 0, .int .u64 0, .int .u64 0, .slice none 0 0, .int .i64 0, .int .i64 0] 28)) w.heap.size 28 (ndA x B cap) from (Blk.new _ _ _).alloc _)
 have HZ2 := Lib.hid (show Blk ((w.alloc (.cells (ndA x B cap) 28)).alloc (.cells #[.int .i64 0, .int .u64 0, .int .u64 0, .int .u64 0, .int .u64 0, .slice none 0 0, .int .i64 0, .int .i64 0] 28)) (w.heap.size + 1) 28 #[.int .i64 0, .int .u64 0, .int .u64 0, .int .u64 0, .int .u64 0, .slice none 0 0, .int .i64 0, .int .i64 0] from Blk.new_at (by simp))
 have HS2 := Lib.hid (show ((w.alloc (.cells (ndA x B cap) 28)).alloc (.cells #[.int .i64 0, .int .u64 0, .int .u64 0, .int .u64 0, .int .u64 0, .slice none 0 0, .int .i64 0, .int .i64 0] 28)).heap.size = w.heap.size + 1 + 1 by simp)
 have HT := Lib.hid (ht.below hb2)
 have hsz2 : x.kids.size ≤ n ∧ x.kids.size ≤ 2000000 := by unfold Nd.size at hsz hlen; omega
 have hlk : x.kids.len ≤ 2000000 := by have := Trees.len_size x.kids; omega
 have HR0 := Lib.hid (crow_start ((w.alloc (.cells (ndA x B cap) 28)).alloc (.cells #[.int .i64 0, .int .u64 0, .int .u64 0, .int .u64 0, .int .u64 0, .slice none 0 0, .int .i64 0, .int .i64 0] 28)))
 clear ht hb2 hsz hlen
 unfold ndV
 unfold ndA at HB2 HX2 HZ2 HS2 HT HR0
 go_enter Tryz.func11, Tryz.ntmps11
 go_upto_region 2 with fail
 generalize (w.alloc (.cells #[.int .i64 x.kind, .int .u64 (word x.set.testBit 0), .int .u64 (word x.set.testBit 1), .int .u64 (word x.set.testBit 2), .int .u64 (word x.set.testBit 3), .slice B x.kids.len cap, .int .i64 x.lo, .int .i64 x.hi] 28)).alloc (.cells #[.int .i64 0, .int .u64 0, .int .u64 0, .int .u64 0, .int .u64 0, .slice none 0 0, .int .i64 0, .int .i64 0] 28) = w2 at *
 have hX := HX2.out
 have x0 : w2.cell? ⟨w.heap.size, 0, none⟩ = some (.int .i64 x.kind) := hX.cell 0
 have x1 : w2.cell? ⟨w.heap.size, 1, none⟩ = some (.int .u64 (word x.set.testBit 0)) := hX.cell 1
 have x2 : w2.cell? ⟨w.heap.size, 2, none⟩ = some (.int .u64 (word x.set.testBit 1)) := hX.cell 2
 have x3 : w2.cell? ⟨w.heap.size, 3, none⟩ = some (.int .u64 (word x.set.testBit 2)) := hX.cell 3
 have x4 : w2.cell? ⟨w.heap.size, 4, none⟩ = some (.int .u64 (word x.set.testBit 3)) := hX.cell 4
 have x5 : w2.cell? ⟨w.heap.size, 5, none⟩ = some (.slice B x.kids.len cap) := hX.cell 5
 have x6 : w2.cell? ⟨w.heap.size, 6, none⟩ = some (.int .i64 x.lo) := hX.cell 6
 have x7 : w2.cell? ⟨w.heap.size, 7, none⟩ = some (.int .i64 x.hi) := hX.cell 7
 have hlx := hX.lt
 go_wp2
 clear x0 x1 x2 x3 x4 x5 x6 x7 hlx
 clear hX
 go_loopw [3, 10] (fun u i wr => ∃ k : Nat, i = .int .i64 (k : Int) ∧ k ≤ x.kids.len ∧ Hid (CRow w2 ((x.kids.list.take k).map Nd.turn) u wr) ∧ Hid (k = 0 → u = .slice none 0 0)) (fun _ i _ => x.kids.len - (intOf i).toNat)
 case atStart => exact ⟨0, rfl, Nat.zero_le _, HR0, Lib.hid (fun _ => rfl)⟩
 case round =>
  clear HR0
  obtain ⟨k, rfl, hk, HR, HN⟩ := hrel
  by_cases hlt : k < x.kids.len
  ·obtain ⟨z, hz⟩ : ∃ z, x.kids.list[k]? = some z := ⟨_, List.getElem?_eq_getElem (by rw [Trees.len_list]; exact hlt)⟩
   have hzs := Trees.size_get x.kids k z hz
   have HTk := Lib.hid (show (x.kids.list.take (k + 1)).map Nd.turn = (x.kids.list.take k).map Nd.turn ++ [z.turn] by rw [List.take_add_one, hz]; simp)
   have hacc : ((x.kids.list.take k).map Nd.turn).length = k := by simp; rw [Trees.len_list]; omega
   generalize (x.kids.list.take k).map Nd.turn = acc at *
   obtain ⟨b, o, C, capc, rfl, _, _, ⟨c0, c1, c2, c3, c4, c5, c6, c7⟩, hkz⟩ := (HT.out.below HR.out.2).get hz
   have hdl : (k : Int) < (x.kids.len : Int) := by omega
   have hb2 : Below wr.heap.size wr (wr.alloc (.cells (ndA z C capc) 28)) := (Below.refl _ _).alloc (Nat.le_refl _) _
   have HI := Lib.hid (ih z _ C capc (wr.alloc (.cells (ndA z C capc) 28)) (by omega) (by omega) (hkz.below hb2))
   have Hrow2 := Lib.hid (HR.out.below hb2)
   have hws : w2.heap.size ≤ wr.heap.size := HR.out.2.size
   clear hz hzs hkz hb2 HR HN
   unfold ndV at HI
   go_wp2_with fail
   refine HI.out.mono ?_
   rintro e w4 ⟨B4, cap4, rfl, hb4, hc4, ht4⟩
   have hrow4 := Hrow2.out.below hb4
   obtain ⟨⟨cs, hr4, hcs4⟩, _⟩ := id hrow4
   have hl := Hrow2.out.own
   have hz4 := ht4.weak (Q := fun b => w2.heap.size ≤ b ∧ some b ≠ u3.ownBlock) (fun b hb _ => ⟨by simp at hb; omega, fun e => by have := (hl b e.symm).2; omega⟩)
   have Hrow4 := Lib.hid hrow4
   have HR4 := Lib.hid hr4
   have HC4 := Lib.hid hcs4
   have HZ4 := Lib.hid hz4
   have h63 : acc.length + 1 ≤ maxLen := Nat.le_trans (by omega) (show 2000000 ≤ maxLen by decide)
   have hby : (acc.length + 1) * 80 ≤ 140737488355328 := by omega
   have hWs : w2.heap.size ≤ w4.heap.size := by have := hb4.size; simp at this; omega
   clear hrow4 hr4 hcs4 hz4 ht4 hl hb4 HI Hrow2 c0 c1 c2 c3 c4 c5 c6 c7
   generalize z.turn = y at *
   try unfold ndV
   dsimp only
   go_wp2_with (at_builtin; refine wpList_append_lies _ rfl _ _ 26 rfl w2.heap.size 28 i0 _ 8 80 Tryz.underlying26 hi0 hz0 hz1 hz2 rfl (by decide) u3 acc.length cs rfl (HR4.out.alloc _) ⟨w4.heap.size, 0, none⟩ 1 1 (ndCell y B4 cap4) rfl rfl (World.news_of_block (Blk.new_at (cs := ndA y B4 cap4) (t := 28) (by simp))) (by simp [ndCell, Value.oneCell']) (by decide) h63 hby (by simp; omega) (w4.heap.size + 1) (by simp) ?_; intro gg capg w5 hown5 hgrow5 hat5 hg5; have HA6 := Lib.hid (Hrow4.out.append HZ4.out hc4 HC4.out hown5 hgrow5 (by simpa using hat5)); clear hown5 hgrow5 hat5)
   go_light
   go_roundw
   case rel => exact ⟨k + 1, by go_num, by omega, Lib.hid (by rw [HTk.out]; have h6 := HA6.out; rw [hacc] at h6; exact h6), Lib.hid (fun h => by omega)⟩
   case measure => simp [intOf]; omega
  ·have hdl : ¬ (k : Int) < (x.kids.len : Int) := by omega
   obtain rfl : k = x.kids.len := by omega
   have hta : (x.kids.list.take x.kids.len).map Nd.turn = x.kids.turn := by
    rw [← Trees.len_list, List.take_length, Trees.turn_list]
   rw [hta] at HR
   have hsl : x.kids.turn.length = x.kids.len := by rw [Trees.turn_list, List.length_map, Trees.len_list]
   obtain ⟨A5, cap5, hu, hc5, ht5⟩ := HR.out.trees
   have hnn : x.kids.len = 0 → A5 = none ∧ cap5 = 0 := fun h => by
    have := HN.out h
    rw [this] at hu
    obtain ⟨h1, _, h3⟩ := Value.slice.inj hu
    exact ⟨h1.symm, h3.symm⟩
   subst hu
   have hX := HX2.out.below HR.out.2 HX2.out.lt
   have HZ3 := Lib.hid (HZ2.out.below HR.out.2 HZ2.out.lt)
   have HB3 := Lib.hid (HB2.out.trans (HR.out.2.mono HB2.out.size))
   rw [HS2.out] at ht5
   have hle2 : w.heap.size + 1 + 1 ≤ wr.heap.size := by have := HR.out.2.size; have := HS2.out; omega
   clear hta HR HT HZ2 HX2 HB2 HN
   by_cases hk4 : x.kind = 4
   ·have hto := turned_go (Trees.of x.kids.turn) _ A5 cap5 wr ht5 (by rw [Trees.len_of]; omega) (by rw [Trees.len_of, hsl]; exact hnn)
    rw [Trees.len_of, Trees.list_of, hsl] at hto
    have HSL := Lib.hid hsl
    have HTO := Lib.hid hto
    have HK := Lib.hid (show x.turn = ⟨x.kind, x.set, Trees.of x.kids.turn.reverse, x.lo, x.hi⟩ by unfold Nd.turn turnK; rw [if_pos hk4])
    have hkk : (x.kind == 4) = true := by simpa using hk4
    have x0 : wr.cell? ⟨w.heap.size, 0, none⟩ = some (.int .i64 x.kind) := hX.cell 0
    have x1 : wr.cell? ⟨w.heap.size, 1, none⟩ = some (.int .u64 (word x.set.testBit 0)) := hX.cell 1
    have x2 : wr.cell? ⟨w.heap.size, 2, none⟩ = some (.int .u64 (word x.set.testBit 1)) := hX.cell 2
    have x3 : wr.cell? ⟨w.heap.size, 3, none⟩ = some (.int .u64 (word x.set.testBit 2)) := hX.cell 3
    have x4 : wr.cell? ⟨w.heap.size, 4, none⟩ = some (.int .u64 (word x.set.testBit 3)) := hX.cell 4
    have x5 : wr.cell? ⟨w.heap.size, 5, none⟩ = some (.slice B x.kids.len cap) := hX.cell 5
    have x6 : wr.cell? ⟨w.heap.size, 6, none⟩ = some (.int .i64 x.lo) := hX.cell 6
    have x7 : wr.cell? ⟨w.heap.size, 7, none⟩ = some (.int .i64 x.hi) := hX.cell 7
    have hlx := hX.lt
    have HX3 := Lib.hid hX
    clear hto hk4 hX ht5 hnn hsl
    rw [HSL.out]
    generalize x.kids.turn = ss at *
    go_wp2_with fail
    refine HTO.out.mono ?_
    rintro e w6 ⟨A6, cap6, rfl, hb6, hc6, ht6⟩
    have hX6 := HX3.out.below hb6 HX3.out.lt
    have HZ6 := Lib.hid (HZ3.out.below hb6 HZ3.out.lt)
    have HB6 := Lib.hid (HB3.out.trans (hb6.mono HB3.out.size))
    have HT6 := Lib.hid (ht6.weak (Q := fun b => w.heap.size + 2 ≤ b) (fun b h _ => by rcases h with h | h; exact h.1; omega))
    clear hb6 ht6 HTO HX3 HZ3 HB3
    clear x0 x1 x2 x3 x4 x5 x6 x7 hlx
    dsimp only
    have HL := Lib.hid (show (Trees.of ss.reverse).len = x.kids.len by rw [Trees.len_of, List.length_reverse, HSL.out])
    have hC := copy_go (⟨x.kind, x.set, .nil, x.lo, x.hi⟩ : Nd) (fun _ => True) none 0 w6 (by unfold Nd.size; simp [Trees.size]) trivial
    have HC := Lib.hid hC
    have x0 : w6.cell? ⟨w.heap.size, 0, none⟩ = some (.int .i64 x.kind) := hX6.cell 0
    have x1 : w6.cell? ⟨w.heap.size, 1, none⟩ = some (.int .u64 (word x.set.testBit 0)) := hX6.cell 1
    have x2 : w6.cell? ⟨w.heap.size, 2, none⟩ = some (.int .u64 (word x.set.testBit 1)) := hX6.cell 2
    have x3 : w6.cell? ⟨w.heap.size, 3, none⟩ = some (.int .u64 (word x.set.testBit 2)) := hX6.cell 3
    have x4 : w6.cell? ⟨w.heap.size, 4, none⟩ = some (.int .u64 (word x.set.testBit 3)) := hX6.cell 4
    have x5 : w6.cell? ⟨w.heap.size, 5, none⟩ = some (.slice B x.kids.len cap) := hX6.cell 5
    have x6 : w6.cell? ⟨w.heap.size, 6, none⟩ = some (.int .i64 x.lo) := hX6.cell 6
    have x7 : w6.cell? ⟨w.heap.size, 7, none⟩ = some (.int .i64 x.hi) := hX6.cell 7
    have hlx := hX6.lt
    have HX := Lib.hid hX6
    clear hC
    unfold ndV at HC
    simp only [Trees.len] at HC
    go_wp2_with fail
    refine HC.out.mono ?_
    rintro e w8 ⟨B8, cap8, rfl, hb8, _, _⟩
    have HZ8 := Lib.hid (HZ6.out.below hb8 HZ6.out.lt)
    have HB8 := Lib.hid (HB6.out.trans (hb8.mono HB6.out.size))
    have HT8 := Lib.hid (HT6.out.below hb8)
    clear hb8 HC HX HT6 HB6 HZ6
    clear x0 x1 x2 x3 x4 x5 x6 x7 hlx
    have hZ8 := HZ8.out
    have y0 : w8.cell? ⟨w.heap.size + 1, 0, none⟩ = some (.int .i64 0) := hZ8.cell 0
    have y1 : w8.cell? ⟨w.heap.size + 1, 1, none⟩ = some (.int .u64 0) := hZ8.cell 1
    have y2 : w8.cell? ⟨w.heap.size + 1, 2, none⟩ = some (.int .u64 0) := hZ8.cell 2
    have y3 : w8.cell? ⟨w.heap.size + 1, 3, none⟩ = some (.int .u64 0) := hZ8.cell 3
    have y4 : w8.cell? ⟨w.heap.size + 1, 4, none⟩ = some (.int .u64 0) := hZ8.cell 4
    have y5 : w8.cell? ⟨w.heap.size + 1, 5, none⟩ = some (.slice none 0 0) := hZ8.cell 5
    have y6 : w8.cell? ⟨w.heap.size + 1, 6, none⟩ = some (.int .i64 0) := hZ8.cell 6
    have y7 : w8.cell? ⟨w.heap.size + 1, 7, none⟩ = some (.int .i64 0) := hZ8.cell 7
    have g0 := hZ8.frozen 0
    have g1 := hZ8.frozen 1
    have g2 := hZ8.frozen 2
    have g3 := hZ8.frozen 3
    have g4 := hZ8.frozen 4
    have g5 := hZ8.frozen 5
    have g6 := hZ8.frozen 6
    have g7 := hZ8.frozen 7
    have hlz := hZ8.lt
    clear hZ8
    dsimp only
    go_wp2
    go_light
    have hF := put_next (x := ⟨x.kind, x.set, Trees.of ss.reverse, x.lo, x.hi⟩) (B := A6) (cap := cap6) HZ8.out HB8.out HT8.out rfl
    have hlen : (Trees.of (ss.reverse)).len = x.kids.len := HL.out
    have hlen2 : x.turn.kids.len = x.kids.len := x.turn_len
    unfold ndA at hF
    simp only [hlen] at hF
    rw [hlen2]
    rw [HK.out]
    refine bodyPost_ret (ret_node Tryz.results11 rfl (hF.1.alloc _)) rfl ⟨A6, cap6, rfl, hF.2.1.alloc (by have := hF.2.1.size; exact this) _, hc6, hF.2.2.below ((Below.refl _ _).alloc (Nat.le_refl _) _)⟩
   ·have HK := Lib.hid (show x.turn = ⟨x.kind, x.set, Trees.of x.kids.turn, x.lo, x.hi⟩ by unfold Nd.turn turnK; rw [if_neg hk4])
    have hkk : (x.kind == 4) = false := by simpa using hk4
    have HT6 := Lib.hid (ht5.weak (Q := fun b => w.heap.size + 2 ≤ b) (fun b h _ => by omega))
    have HSL := Lib.hid hsl
    have hc6 : x.kids.len ≤ cap5 := by omega
    clear hk4 ht5 hnn hsl
    generalize x.kids.turn = ss at *
    rw [HSL.out]
    have HL := Lib.hid (show (Trees.of ss).len = x.kids.len by rw [Trees.len_of, HSL.out])
    have hC := copy_go (⟨x.kind, x.set, .nil, x.lo, x.hi⟩ : Nd) (fun _ => True) none 0 wr (by unfold Nd.size; simp [Trees.size]) trivial
    have HC := Lib.hid hC
    have x0 : wr.cell? ⟨w.heap.size, 0, none⟩ = some (.int .i64 x.kind) := hX.cell 0
    have x1 : wr.cell? ⟨w.heap.size, 1, none⟩ = some (.int .u64 (word x.set.testBit 0)) := hX.cell 1
    have x2 : wr.cell? ⟨w.heap.size, 2, none⟩ = some (.int .u64 (word x.set.testBit 1)) := hX.cell 2
    have x3 : wr.cell? ⟨w.heap.size, 3, none⟩ = some (.int .u64 (word x.set.testBit 2)) := hX.cell 3
    have x4 : wr.cell? ⟨w.heap.size, 4, none⟩ = some (.int .u64 (word x.set.testBit 3)) := hX.cell 4
    have x5 : wr.cell? ⟨w.heap.size, 5, none⟩ = some (.slice B x.kids.len cap) := hX.cell 5
    have x6 : wr.cell? ⟨w.heap.size, 6, none⟩ = some (.int .i64 x.lo) := hX.cell 6
    have x7 : wr.cell? ⟨w.heap.size, 7, none⟩ = some (.int .i64 x.hi) := hX.cell 7
    have hlx := hX.lt
    have HX := Lib.hid hX
    clear hC
    unfold ndV at HC
    simp only [Trees.len] at HC
    go_wp2_with fail
    refine HC.out.mono ?_
    rintro e w8 ⟨B8, cap8, rfl, hb8, _, _⟩
    have HZ8 := Lib.hid (HZ3.out.below hb8 HZ3.out.lt)
    have HB8 := Lib.hid (HB3.out.trans (hb8.mono HB3.out.size))
    have HT8 := Lib.hid (HT6.out.below hb8)
    clear hb8 HC HX HT6 HB3 HZ3
    clear x0 x1 x2 x3 x4 x5 x6 x7 hlx
    have hZ8 := HZ8.out
    have y0 : w8.cell? ⟨w.heap.size + 1, 0, none⟩ = some (.int .i64 0) := hZ8.cell 0
    have y1 : w8.cell? ⟨w.heap.size + 1, 1, none⟩ = some (.int .u64 0) := hZ8.cell 1
    have y2 : w8.cell? ⟨w.heap.size + 1, 2, none⟩ = some (.int .u64 0) := hZ8.cell 2
    have y3 : w8.cell? ⟨w.heap.size + 1, 3, none⟩ = some (.int .u64 0) := hZ8.cell 3
    have y4 : w8.cell? ⟨w.heap.size + 1, 4, none⟩ = some (.int .u64 0) := hZ8.cell 4
    have y5 : w8.cell? ⟨w.heap.size + 1, 5, none⟩ = some (.slice none 0 0) := hZ8.cell 5
    have y6 : w8.cell? ⟨w.heap.size + 1, 6, none⟩ = some (.int .i64 0) := hZ8.cell 6
    have y7 : w8.cell? ⟨w.heap.size + 1, 7, none⟩ = some (.int .i64 0) := hZ8.cell 7
    have g0 := hZ8.frozen 0
    have g1 := hZ8.frozen 1
    have g2 := hZ8.frozen 2
    have g3 := hZ8.frozen 3
    have g4 := hZ8.frozen 4
    have g5 := hZ8.frozen 5
    have g6 := hZ8.frozen 6
    have g7 := hZ8.frozen 7
    have hlz := hZ8.lt
    clear hZ8
    dsimp only
    go_wp2
    go_light
    have hF := put_next (x := ⟨x.kind, x.set, Trees.of ss, x.lo, x.hi⟩) (B := A5) (cap := cap5) HZ8.out HB8.out HT8.out rfl
    have hlen : (Trees.of (ss)).len = x.kids.len := HL.out
    have hlen2 : x.turn.kids.len = x.kids.len := x.turn_len
    unfold ndA at hF
    simp only [hlen] at hF
    rw [hlen2]
    rw [HK.out]
    refine bodyPost_ret (ret_node Tryz.results11 rfl (hF.1.alloc _)) rfl ⟨A5, cap5, rfl, hF.2.1.alloc (by have := hF.2.1.size; exact this) _, hc6, hF.2.2.below ((Below.refl _ _).alloc (Nat.le_refl _) _)⟩
theorem turn_go (x : Nd) (P : Nat → Prop) (B : Option Addr) (cap : Nat) (w : World) (hlen : x.size ≤ 2000000) (ht : TreesAt w P x.kids B) :
  Calls Tryz.prog 11 #[ndV x B cap] w fun e w' => ∃ B' cap', e = .returned (ndV x.turn B' cap') ∧ Below w.heap.size w w' ∧ x.turn.kids.len ≤ cap' ∧ TreesAt w' (fun b => w.heap.size ≤ b) x.turn.kids B' := by
 have h : ∀ n, TurnC n := by
  intro n
  induction n with
  | zero => exact fun x _ _ _ _ h => by unfold Nd.size at h; omega
  | succ n ih => exact turn_step ih
 exact h x.size x P B cap w (Nat.le_refl _) hlen ht
end Go.Proofs.YtofbfafnpdaejaaGreatDoor
