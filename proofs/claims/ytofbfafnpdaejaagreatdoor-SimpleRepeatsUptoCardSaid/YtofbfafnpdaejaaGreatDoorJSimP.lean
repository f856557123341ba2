/- Texts of the claim. -/
import Derived.Test.YtofbfafnpdaejaaGreatDoorJSimC
import Derived.Test.YtofbfafnpdaejaaGreatDoorJSimT
set_option linter.all false
set_option maxRecDepth 100000
set_option maxHeartbeats 8000000
namespace Go.Proofs.YtofbfafnpdaejaaGreatDoor
open Go.RowKit
theorem size_ofS : ∀ l : List Nd, (Trees.of l).size = (l.map Nd.size).sum
 | [] => rfl
 | x :: l => by
  rw [Trees.of, Trees.size, size_ofS l, List.map_cons, List.sum_cons]
  rfl
theorem size_listS (F : Trees) : F.size = (F.list.map Nd.size).sum := by rw [← size_ofS, Trees.of_list]
theorem sum_flat (g : Nd → List Nd) (hg : ∀ x, ((g x).map Nd.size).sum ≤ x.size) : ∀ l : List Nd, ((l.flatMap g).map Nd.size).sum ≤ (l.map Nd.size).sum
 | [] => Nat.le_refl _
 | x :: l => by
  rw [List.flatMap_cons, List.map_append, List.sum_append_nat, List.map_cons, List.sum_cons]
  have := sum_flat g hg l
  have := hg x
  omega
theorem flatK_size (k q : Int) (x : Nd) : ((flatK k q x).map Nd.size).sum ≤ x.size := by
 unfold flatK
 split
 ·rw [← size_listS]
  unfold Nd.size
  omega
 split
 ·exact Nat.zero_le _
 ·simp
theorem len_sum : ∀ l : List Nd, l.length ≤ (l.map Nd.size).sum
 | [] => Nat.le_refl _
 | x :: l => by
  have := len_sum l
  have : 1 ≤ x.size := by unfold Nd.size; omega
  rw [List.length_cons, List.map_cons, List.sum_cons]
  omega
theorem flat_small (k q : Int) (F : Trees) : (Trees.of (F.list.flatMap (flatK k q))).size ≤ F.size ∧ (F.list.flatMap (flatK k q)).length ≤ F.size := by
 have h := sum_flat (flatK k q) (flatK_size k q) F.list
 rw [← size_listS] at h
 exact ⟨by rw [size_ofS]; exact h, Nat.le_trans (len_sum _) h⟩
theorem enter_kids (args : Array Value) (W : World) : (callFunc 133 args).run Tryz.prog W = .ok (.enter 133 args) W := enters_go Tryz.func133 (by kernel_rfl) rfl args W
theorem flatk_go (k q : Int) (F : Trees) (B : Option Addr) (cap : Nat) (w : World) (g1 g2 : Nat) (hg1 : w.cell? ⟨g1, 0, none⟩ = some (.int .i64 k)) (hg2 : w.cell? ⟨g2, 0, none⟩ = some (.int .i64 q)) (hlen : F.size ≤ 90000000) (ht : TreesAt w (fun b => b < w.heap.size) F B) (L : List Nd) (hL : F.list.flatMap (flatK k q) = L) :
  Calls Tryz.prog 75 #[.slice B F.len cap, kidsV g1 g2] w fun e w' => ∃ A c, e = .returned (.slice A L.length c) ∧ Below w.heap.size w w' ∧ L.length ≤ c ∧ TreesAt w' (fun b => b < w'.heap.size) (Trees.of L) A :=
 sflat_go F B cap w 133 _ (flatK k q) L hL (by have := Trees.len_size F; omega) ht enter_kids (fun x _ => kids1_go k q g1 g2 w x hg1 hg2) (by have := (flat_small k q F).2; rw [hL] at this; omega)
theorem scat_go (F : Trees) (B : Option Addr) (cap : Nat) (w : World) (hlen : F.size ≤ 90000000) (ht : TreesAt w (fun b => b < w.heap.size) F B) :
  Calls Tryz.prog 27 #[.slice B F.len cap] w (NewT (catP F.list) w) := by
 obtain ⟨L, hL⟩ : ∃ L, F.list.flatMap (flatK 4 2) = L := ⟨_, rfl⟩
 have hsm := flat_small 4 2 F
 rw [hL] at hsm
 have HV := Lib.hid (show catP F.list = if L.any (isK 1) = true then noneN else manyN 4 2 L by unfold catP; rw [hL])
 have HL := Lib.hid hL
 have hb1 : Below w.heap.size w (w.alloc (.cells #[.int .i64 0, .int .u64 0, .int .u64 0, .int .u64 0, .int .u64 0, .slice none 0 0, .int .i64 0, .int .i64 0] 28)) := (Below.refl _ _).alloc (Nat.le_refl _) _
 have HB1 := Lib.hid hb1
 have HZ1 := Lib.hid (Blk.new w 28 #[.int .i64 0, .int .u64 0, .int .u64 0, .int .u64 0, .int .u64 0, .slice none 0 0, .int .i64 0, .int .i64 0])
 have HT1 := Lib.hid (ht.below hb1)
 clear ht hb1 hL
 go_enter Tryz.func27, Tryz.ntmps27
 go_wp2_with fail
 refine (kidsOf_go 4 2 _).mono ?_
 rintro e w2 ⟨g1, g2, rfl, hb2, hg1, hg2⟩
 have HF := Lib.hid (flatk_go 4 2 F B cap w2 g1 g2 hg1 hg2 hlen ((HT1.out.below hb2).weak (fun b h hl => hl)) L HL.out)
 have hZ2 := HZ1.out.below hb2 HZ1.out.lt
 have HB2 := Lib.hid (HB1.out.trans (hb2.mono HB1.out.size))
 have HZ2 := Lib.hid hZ2
 clear hZ2 hb2 HB1 HZ1
 clear HT1 hg1 hg2
 unfold kidsV at *
 dsimp only
 go_wp2_with fail
 refine HF.out.mono ?_
 rintro e w3 ⟨A3, c3, rfl, hb3, hc3, ht3⟩
 have hZ3 := HZ2.out.below hb3 HZ2.out.lt
 have HB3 := Lib.hid (HB2.out.trans (hb3.mono HB2.out.size))
 have HZ3 := Lib.hid hZ3
 clear hZ3 hb3 HB2 HZ2
 have HN := Lib.hid (hasn_go (Trees.of L) A3 c3 w3 78 #[] (isK 1) _ rfl (by rw [Trees.len_of]; omega) ht3 enter_isNone (fun x _ => isnone_go w3 x))
 have HT3 := Lib.hid ht3
 rw [Trees.len_of, Trees.list_of] at HN
 clear HF ht3
 dsimp only
 go_wp2_with fail
 refine HN.out.mono ?_
 rintro e w4 ⟨rfl, hb4⟩
 have HT4 := Lib.hid (HT3.out.below hb4)
 have hZ4 := HZ3.out.below hb4 HZ3.out.lt
 have HB4 := Lib.hid (HB3.out.trans (hb4.mono HB3.out.size))
 have HZ4 := Lib.hid hZ4
 clear hZ4 hb4 HB3 HZ3
 clear HN HT3
 generalize L.any (isK 1) = q at *
 cases q with
 | true =>
  rw [if_pos rfl] at HV
  dsimp only
  go_wp2_with fail
  refine (none_go _).mono ?_
  rintro e w5 ⟨rfl, hb5⟩
  have hZ5 := HZ4.out.below hb5 HZ4.out.lt
  have HB5 := Lib.hid (HB4.out.trans (hb5.mono HB4.out.size))
  have HZ5 := Lib.hid hZ5
  clear hZ5 hb5 HB4 HZ4
  have y0 : w5.cell? ⟨w.heap.size, 0, none⟩ = some (.int .i64 0) := HZ5.out.cell 0
  have y1 : w5.cell? ⟨w.heap.size, 1, none⟩ = some (.int .u64 0) := HZ5.out.cell 1
  have y2 : w5.cell? ⟨w.heap.size, 2, none⟩ = some (.int .u64 0) := HZ5.out.cell 2
  have y3 : w5.cell? ⟨w.heap.size, 3, none⟩ = some (.int .u64 0) := HZ5.out.cell 3
  have y4 : w5.cell? ⟨w.heap.size, 4, none⟩ = some (.int .u64 0) := HZ5.out.cell 4
  have y5 : w5.cell? ⟨w.heap.size, 5, none⟩ = some (.slice none 0 0) := HZ5.out.cell 5
  have y6 : w5.cell? ⟨w.heap.size, 6, none⟩ = some (.int .i64 0) := HZ5.out.cell 6
  have y7 : w5.cell? ⟨w.heap.size, 7, none⟩ = some (.int .i64 0) := HZ5.out.cell 7
  have g0 := HZ5.out.frozen 0
  have g1 := HZ5.out.frozen 1
  have g2 := HZ5.out.frozen 2
  have g3 := HZ5.out.frozen 3
  have g4 := HZ5.out.frozen 4
  have g5 := HZ5.out.frozen 5
  have g6 := HZ5.out.frozen 6
  have g7 := HZ5.out.frozen 7
  dsimp only
  go_wp2
  go_light
  have hF := flat_put (P := fun _ => False) (x := noneN) (B := none) (cap := 0) HZ5.out HB5.out (by trivial) (by simp only [noneN, word_zero]; rfl)
  refine bodyPost_ret (ret_node Tryz.results27 rfl hF.1) rfl ?_
  rw [HV.out]
  exact ⟨none, 0, rfl, hF.2.1, Nat.le_refl _, trivial⟩
 | false =>
  have HC := Lib.hid (tcat_any (Trees.of L) _ A3 c3 w4 (by omega) HT4.out)
  rw [Trees.len_of, Trees.list_of] at HC
  dsimp only
  go_wp2_with fail
  refine HC.out.mono ?_
  rintro e w5 ⟨B5, c5, rfl, hb5, hc5, ht5⟩
  have HT5 := Lib.hid ht5
  have hw4 : w.heap.size < w4.heap.size := HZ4.out.lt
  have hZ5 := HZ4.out.below hb5 HZ4.out.lt
  have HB5 := Lib.hid (HB4.out.trans (hb5.mono HB4.out.size))
  have HZ5 := Lib.hid hZ5
  clear hZ5 hb5 HB4 HZ4
  have y0 : w5.cell? ⟨w.heap.size, 0, none⟩ = some (.int .i64 0) := HZ5.out.cell 0
  have y1 : w5.cell? ⟨w.heap.size, 1, none⟩ = some (.int .u64 0) := HZ5.out.cell 1
  have y2 : w5.cell? ⟨w.heap.size, 2, none⟩ = some (.int .u64 0) := HZ5.out.cell 2
  have y3 : w5.cell? ⟨w.heap.size, 3, none⟩ = some (.int .u64 0) := HZ5.out.cell 3
  have y4 : w5.cell? ⟨w.heap.size, 4, none⟩ = some (.int .u64 0) := HZ5.out.cell 4
  have y5 : w5.cell? ⟨w.heap.size, 5, none⟩ = some (.slice none 0 0) := HZ5.out.cell 5
  have y6 : w5.cell? ⟨w.heap.size, 6, none⟩ = some (.int .i64 0) := HZ5.out.cell 6
  have y7 : w5.cell? ⟨w.heap.size, 7, none⟩ = some (.int .i64 0) := HZ5.out.cell 7
  have g0 := HZ5.out.frozen 0
  have g1 := HZ5.out.frozen 1
  have g2 := HZ5.out.frozen 2
  have g3 := HZ5.out.frozen 3
  have g4 := HZ5.out.frozen 4
  have g5 := HZ5.out.frozen 5
  have g6 := HZ5.out.frozen 6
  have g7 := HZ5.out.frozen 7
  clear ht5 HC HT4
  rw [if_neg (by decide)] at HV
  generalize manyN 4 2 L = x at *
  unfold ndV
  dsimp only
  go_wp2
  go_light
  have hF := flat_put (P := fun _ => False) (x := x) (B := B5) (cap := c5) HZ5.out HB5.out (HT5.out.weak (fun b hb _ => .inr (by omega))) rfl
  refine bodyPost_ret (ret_node Tryz.results27 rfl hF.1) rfl ?_
  rw [HV.out]
  exact ⟨B5, c5, rfl, hF.2.1, hc5, hF.2.2.weak (fun b hb _ => hb.elim (fun h => h.elim) id)⟩
end Go.Proofs.YtofbfafnpdaejaaGreatDoor
