/- Texts of the claim. -/
import Derived.Test.YtofbfafnpdaejaaGreatDoorJZ03
set_option linter.all false
set_option maxRecDepth 100000
set_option maxHeartbeats 8000000
namespace Go.Proofs.YtofbfafnpdaejaaGreatDoor
open Go.RowKit
theorem nofB_go (k : Int) (P : Nat → Prop) (A : Option Addr) (cap : Nat) (l : List Nd) (w : World) (hl : 0 < l.length) (hlen : l.length ≤ 20000000) (ht : TreesAt w P (Trees.of l) A) :
  Calls Tryz.prog 89 #[.int .i64 k, .slice A l.length cap] w (Flatted (OrNew P w.heap.size) ⟨k, 0, Trees.of l, 0, 0⟩ w) := by
 obtain ⟨i0, hi, hz0, hz1, hz2⟩ := info_parts info_nd
 obtain ⟨b, o, rfl, _, hbl⟩ := ht.form (by rw [Trees.len_of]; exact hl)
 obtain ⟨cs, hcs, hg⟩ := (ht.weak (Q := fun b => P b ∧ b < w.heap.size) (fun b h1 h => ⟨h1, h⟩)).cells
 have hb0 : Below w.heap.size w ((w.alloc (.cells #[.int .i64 0, .int .u64 0, .int .u64 0, .int .u64 0, .int .u64 0, .slice none 0 0, .int .i64 0, .int .i64 0] 28)).alloc (.cells #[] 28)) := ((Below.refl _ _).alloc (Nat.le_refl _) _).alloc (by simp) _
 have hnews : ∀ j u, cs[j]? = some u → ((w.alloc (.cells #[.int .i64 0, .int .u64 0, .int .u64 0, .int .u64 0, .int .u64 0, .slice none 0 0, .int .i64 0, .int .i64 0] 28)).alloc (.cells #[] 28)).cell? ((⟨b, o, none⟩ : Addr).add j) = some u := fun j u hu => by
  rw [addr_plus7]
  exact (hb0.cell (p := ⟨b, o + j, none⟩) hbl).trans (hg j u hu)
 have hown : ((w.alloc (.cells #[.int .i64 0, .int .u64 0, .int .u64 0, .int .u64 0, .int .u64 0, .slice none 0 0, .int .i64 0, .int .i64 0] 28)).alloc (.cells #[] 28)).ownsRow (w.heap.size + 1) 28 8 (.slice (some ⟨w.heap.size + 1, 0, none⟩) 0 0) 0 [] := by
  have h := World.ownsRow_made (base := w.heap.size + 1) (size := 8) (e := 28) (w.alloc (.cells #[.int .i64 0, .int .u64 0, .int .u64 0, .int .u64 0, .int .u64 0, .slice none 0 0, .int .i64 0, .int .i64 0] 28)) #[] 0 (by simp) (by decide) rfl
  rw [World.size_alloc] at h
  exact h
 have HN := Lib.hid hnews
 have HO := Lib.hid hown
 have HC := Lib.hid hcs
 have h1 := hcs.one
 have hcl := hcs.length
 have HZ := Lib.hid ((Blk.new w 28 #[.int .i64 0, .int .u64 0, .int .u64 0, .int .u64 0, .int .u64 0, .slice none 0 0, .int .i64 0, .int .i64 0]).alloc (.cells #[] 28))
 have HB := Lib.hid hb0
 have H1 := Lib.hid h1
 have HCL := Lib.hid hcl
 have h63 : 0 + l.length ≤ maxLen := Nat.le_trans (by omega) (show 20000000 ≤ maxLen by decide)
 have hby : (0 + l.length) * 80 ≤ 140737488355328 := by omega
 clear hnews hown hb0 hcs hg ht h1 hcl
 go_enter Tryz.func89, Tryz.ntmps89
 go_wp2_with (at_builtin; refine wpList_append_lies _ rfl _ _ 26 rfl (w.heap.size + 1) 28 i0 _ 8 80 Tryz.underlying26 hi hz0 hz1 hz2 rfl (by decide) (.slice (some ⟨w.heap.size + 1, 0, none⟩) 0 0) 0 [] rfl HO.out ⟨b, o, none⟩ l.length cap cs rfl HCL.out HN.out H1.out hl h63 hby (by simp) (w.heap.size + 2) (by simp) ?_; intro g capg w2 hown2 hgrow2 hat2 hg2; have hZ2 : Blk w2 w.heap.size 28 _ := HZ.out.grown hgrow2 (by simp [Value.ownBlock]); have y0 : w2.cell? ⟨w.heap.size, 0, none⟩ = some (.int .i64 0) := hZ2.cell 0; have y1 : w2.cell? ⟨w.heap.size, 1, none⟩ = some (.int .u64 0) := hZ2.cell 1; have y2 : w2.cell? ⟨w.heap.size, 2, none⟩ = some (.int .u64 0) := hZ2.cell 2; have y3 : w2.cell? ⟨w.heap.size, 3, none⟩ = some (.int .u64 0) := hZ2.cell 3; have y4 : w2.cell? ⟨w.heap.size, 4, none⟩ = some (.int .u64 0) := hZ2.cell 4; have y5 : w2.cell? ⟨w.heap.size, 5, none⟩ = some (.slice none 0 0) := hZ2.cell 5; have y6 : w2.cell? ⟨w.heap.size, 6, none⟩ = some (.int .i64 0) := hZ2.cell 6; have y7 : w2.cell? ⟨w.heap.size, 7, none⟩ = some (.int .i64 0) := hZ2.cell 7; have z0 := hZ2.frozen 0; have z1 := hZ2.frozen 1; have z2 := hZ2.frozen 2; have z3 := hZ2.frozen 3; have z4 := hZ2.frozen 4; have z5 := hZ2.frozen 5; have z6 := hZ2.frozen 6; have z7 := hZ2.frozen 7; have HZ2 := Lib.hid hZ2; have HO2 := Lib.hid hown2; have HG2 := Lib.hid hgrow2; clear hZ2 hown2 hgrow2 hat2)
 go_light
 have hlg := (HO2.out.lt g rfl).1
 have hB2 : Below w.heap.size w w2 := HB.out.grown HG2.out (by simp; omega) (fun k e => by simp [Value.ownBlock] at e; omega)
 have hB3 := below_put8 hB2 (Nat.le_refl _) (.int .i64 k) (.int .u64 0) (.int .u64 0) (.int .u64 0) (.int .u64 0) (.slice (some ⟨g, 0, none⟩) (0 + l.length) capg) (.int .i64 0) (.int .i64 0)
 have hO3 := HO2.out.kept (only_put8 w2 w.heap.size (.int .i64 k) (.int .u64 0) (.int .u64 0) (.int .u64 0) (.int .u64 0) (.slice (some ⟨g, 0, none⟩) (0 + l.length) capg) (.int .i64 0) (.int .i64 0)) (.inr (by simp [Value.ownBlock]; omega))
 rw [Nat.zero_add] at *
 have hC3 := CellsAre.keep (Q := OrNew P w.heap.size) (fun b o (hb : P b ∧ b < w.heap.size) _ => hB3.cell (p := ⟨b, o, none⟩) hb.2) (fun _ h _ => .inl h.1) HC.out
 obtain ⟨A', cap', hv, hc', ht'⟩ := trees_of hO3 hC3 (fun k e => .inr (by have := (hO3.lt k e).1; omega))
 obtain ⟨rfl, _, rfl⟩ := Value.slice.inj hv
 exact bodyPost_ret (ret_node Tryz.results89 rfl (HZ2.out.put8 _ _ _ _ _ _ _ _)) rfl ⟨_, _, by rw [ndV_plain, Trees.len_of], hB3, by rw [Trees.len_of]; exact hc', ht'⟩
theorem nmanyB_go (k nk : Int) (P : Nat → Prop) (A : Option Addr) (cap : Nat) (l : List Nd) (w : World) (hlen : l.length ≤ 20000000) (ht : TreesAt w P (Trees.of l) A) :
  Calls Tryz.prog 136 #[.int .i64 k, .int .i64 nk, .slice A l.length cap] w (Flatted (OrNew P w.heap.size) (manyN k nk l) w) := by
 by_cases h0 : l = []
 ·subst h0
  show Calls _ _ #[.int .i64 k, .int .i64 nk, .slice A 0 cap] w (Flatted (OrNew P w.heap.size) ⟨nk, 0, .nil, 0, 0⟩ w)
  go_enter Tryz.func136, Tryz.ntmps136
  go_wp2
  go_light
  exact bodyPost_ret (ret_node Tryz.results136 rfl (Blk.new_at (by simp))) rfl ⟨none, 0, by rw [ndV_plain]; rfl, (Below.refl _ _).alloc (Nat.le_refl _) _, Nat.le_refl _, trivial⟩
 have hd0 : ((l.length : Int) == 0) = false := by rw [beq_eq_false_iff_ne]; intro e; exact h0 (List.length_eq_zero_iff.1 (by omega))
 by_cases h1 : l.length = 1
 ·obtain ⟨x, rfl⟩ := List.length_eq_one_iff.1 h1
  obtain ⟨b, o, B, cap', rfl, hb, hc', hn, hk⟩ := ht.get (i := 0) (x := x) (by rw [Trees.list_of]; rfl)
  obtain ⟨c0, c1, c2, c3, c4, c5, c6, c7⟩ := hn
  have hbl := World.block_lt_of_cell? w _ c0
  have HK := Lib.hid hk
  simp only [Nat.zero_mul, Nat.add_zero] at c0 c1 c2 c3 c4 c5 c6 c7
  clear hk ht h1 hd0
  show Calls _ _ #[.int .i64 k, .int .i64 nk, .slice (some ⟨b, o, none⟩) 1 cap] w (Flatted (OrNew P w.heap.size) x w)
  go_enter Tryz.func136, Tryz.ntmps136
  go_wp2
  go_light
  exact bodyPost_ret (ret_node Tryz.results136 rfl (Blk.new_at (by simp))) rfl ⟨B, cap', rfl, (Below.refl _ _).alloc (Nat.le_refl _) _, hc', (HK.out.below ((Below.refl _ _).alloc (Nat.le_refl _) _)).weak (fun _ h _ => .inl h)⟩
 ·rw [manyN_more k nk l (by have := List.length_pos_iff.2 h0; omega)]
  have hd : ((l.length : Int) == 1) = false := by rw [beq_eq_false_iff_ne]; omega
  have hb1 : Below w.heap.size w (w.alloc (.cells #[.int .i64 0, .int .u64 0, .int .u64 0, .int .u64 0, .int .u64 0, .slice none 0 0, .int .i64 0, .int .i64 0] 28)) := (Below.refl _ _).alloc (Nat.le_refl _) _
  have HZ := Lib.hid (Blk.new w 28 #[.int .i64 0, .int .u64 0, .int .u64 0, .int .u64 0, .int .u64 0, .slice none 0 0, .int .i64 0, .int .i64 0])
  have HB := Lib.hid hb1
  have HO := Lib.hid (nofB_go k _ A cap l _ (List.length_pos_iff.2 h0) hlen ((ht.weak (Q := fun b => P b ∧ b < w.heap.size) (fun b h1 h => ⟨h1, h⟩)).below hb1))
  clear hb1 ht h0 h1
  go_enter Tryz.func136, Tryz.ntmps136
  go_wp2_with fail
  refine HO.out.mono ?_
  rintro e w2 ⟨B, cap', rfl, hb2, hc2, ht2⟩
  have hZ2 := HZ.out.below hb2 HZ.out.lt
  have y0 : w2.cell? ⟨w.heap.size, 0, none⟩ = some (.int .i64 0) := hZ2.cell 0
  have y1 : w2.cell? ⟨w.heap.size, 1, none⟩ = some (.int .u64 0) := hZ2.cell 1
  have y2 : w2.cell? ⟨w.heap.size, 2, none⟩ = some (.int .u64 0) := hZ2.cell 2
  have y3 : w2.cell? ⟨w.heap.size, 3, none⟩ = some (.int .u64 0) := hZ2.cell 3
  have y4 : w2.cell? ⟨w.heap.size, 4, none⟩ = some (.int .u64 0) := hZ2.cell 4
  have y5 : w2.cell? ⟨w.heap.size, 5, none⟩ = some (.slice none 0 0) := hZ2.cell 5
  have y6 : w2.cell? ⟨w.heap.size, 6, none⟩ = some (.int .i64 0) := hZ2.cell 6
  have y7 : w2.cell? ⟨w.heap.size, 7, none⟩ = some (.int .i64 0) := hZ2.cell 7
  have z0 := hZ2.frozen 0
  have z1 := hZ2.frozen 1
  have z2 := hZ2.frozen 2
  have z3 := hZ2.frozen 3
  have z4 := hZ2.frozen 4
  have z5 := hZ2.frozen 5
  have z6 := hZ2.frozen 6
  have z7 := hZ2.frozen 7
  have HZ2 := Lib.hid hZ2
  have HB2 := Lib.hid (HB.out.trans (hb2.mono HB.out.size))
  have HT2 := Lib.hid (show TreesAt w2 (OrNew (fun b => P b ∧ b < w.heap.size) (w.heap.size + 1)) _ B by simpa using ht2)
  clear hZ2 hb2 ht2 HO HZ HB
  rw [ndV_plain]
  dsimp only
  go_wp2
  go_light
  have hF := flat_put (x := ⟨k, 0, Trees.of l, 0, 0⟩) (B := B) (cap := cap') HZ2.out HB2.out HT2.out (by simp only [word_zero]; rfl)
  exact bodyPost_ret (ret_node Tryz.results136 rfl hF.1) rfl ⟨B, cap', rfl, hF.2.1, hc2, hF.2.2⟩
theorem ncatB_go (P : Nat → Prop) (A : Option Addr) (cap : Nat) (l : List Nd) (w : World) (hlen : l.length ≤ 20000000) (ht : TreesAt w P (Trees.of l) A) :
  Calls Tryz.prog 82 #[.slice A l.length cap] w (Flatted (OrNew P w.heap.size) (partN l) w) := by
 have hb1 : Below w.heap.size w (w.alloc (.cells #[.int .i64 0, .int .u64 0, .int .u64 0, .int .u64 0, .int .u64 0, .slice none 0 0, .int .i64 0, .int .i64 0] 28)) := (Below.refl _ _).alloc (Nat.le_refl _) _
 have HZ := Lib.hid (Blk.new w 28 #[.int .i64 0, .int .u64 0, .int .u64 0, .int .u64 0, .int .u64 0, .slice none 0 0, .int .i64 0, .int .i64 0])
 have HB := Lib.hid hb1
 have hO := nmanyB_go 4 2 _ A cap l _ hlen ((ht.weak (Q := fun b => P b ∧ b < w.heap.size) (fun b h1 h => ⟨h1, h⟩)).below hb1)
 rw [manyN_part] at hO
 have HO := Lib.hid hO
 clear hb1 ht hO
 generalize partN l = x at *
 go_enter Tryz.func82, Tryz.ntmps82
 go_wp2_with fail
 refine HO.out.mono ?_
 rintro e w2 ⟨B, cap', rfl, hb2, hc2, ht2⟩
 have hZ2 := HZ.out.below hb2 HZ.out.lt
 have y0 : w2.cell? ⟨w.heap.size, 0, none⟩ = some (.int .i64 0) := hZ2.cell 0
 have y1 : w2.cell? ⟨w.heap.size, 1, none⟩ = some (.int .u64 0) := hZ2.cell 1
 have y2 : w2.cell? ⟨w.heap.size, 2, none⟩ = some (.int .u64 0) := hZ2.cell 2
 have y3 : w2.cell? ⟨w.heap.size, 3, none⟩ = some (.int .u64 0) := hZ2.cell 3
 have y4 : w2.cell? ⟨w.heap.size, 4, none⟩ = some (.int .u64 0) := hZ2.cell 4
 have y5 : w2.cell? ⟨w.heap.size, 5, none⟩ = some (.slice none 0 0) := hZ2.cell 5
 have y6 : w2.cell? ⟨w.heap.size, 6, none⟩ = some (.int .i64 0) := hZ2.cell 6
 have y7 : w2.cell? ⟨w.heap.size, 7, none⟩ = some (.int .i64 0) := hZ2.cell 7
 have z0 := hZ2.frozen 0
 have z1 := hZ2.frozen 1
 have z2 := hZ2.frozen 2
 have z3 := hZ2.frozen 3
 have z4 := hZ2.frozen 4
 have z5 := hZ2.frozen 5
 have z6 := hZ2.frozen 6
 have z7 := hZ2.frozen 7
 have HZ2 := Lib.hid hZ2
 have HB2 := Lib.hid (HB.out.trans (hb2.mono HB.out.size))
 have HT2 := Lib.hid (show TreesAt w2 (OrNew (fun b => P b ∧ b < w.heap.size) (w.heap.size + 1)) _ B by simpa using ht2)
 clear hZ2 hb2 ht2 HO HZ HB
 unfold ndV
 dsimp only
 go_wp2
 go_light
 have hF := flat_put (x := x) (B := B) (cap := cap') HZ2.out HB2.out HT2.out rfl
 exact bodyPost_ret (ret_node Tryz.results82 rfl hF.1) rfl ⟨B, cap', rfl, hF.2.1, hc2, hF.2.2⟩
theorem naltB_go (P : Nat → Prop) (A : Option Addr) (cap : Nat) (l : List Nd) (w : World) (hlen : l.length ≤ 20000000) (ht : TreesAt w P (Trees.of l) A) :
  Calls Tryz.prog 88 #[.slice A l.length cap] w (Flatted (OrNew P w.heap.size) (manyN 5 1 l) w) := by
 have hb1 : Below w.heap.size w (w.alloc (.cells #[.int .i64 0, .int .u64 0, .int .u64 0, .int .u64 0, .int .u64 0, .slice none 0 0, .int .i64 0, .int .i64 0] 28)) := (Below.refl _ _).alloc (Nat.le_refl _) _
 have HZ := Lib.hid (Blk.new w 28 #[.int .i64 0, .int .u64 0, .int .u64 0, .int .u64 0, .int .u64 0, .slice none 0 0, .int .i64 0, .int .i64 0])
 have HB := Lib.hid hb1
 have HO := Lib.hid (nmanyB_go 5 1 _ A cap l _ hlen ((ht.weak (Q := fun b => P b ∧ b < w.heap.size) (fun b h1 h => ⟨h1, h⟩)).below hb1))
 clear hb1 ht
 generalize manyN 5 1 l = x at *
 go_enter Tryz.func88, Tryz.ntmps88
 go_wp2_with fail
 refine HO.out.mono ?_
 rintro e w2 ⟨B, cap', rfl, hb2, hc2, ht2⟩
 have hZ2 := HZ.out.below hb2 HZ.out.lt
 have y0 : w2.cell? ⟨w.heap.size, 0, none⟩ = some (.int .i64 0) := hZ2.cell 0
 have y1 : w2.cell? ⟨w.heap.size, 1, none⟩ = some (.int .u64 0) := hZ2.cell 1
 have y2 : w2.cell? ⟨w.heap.size, 2, none⟩ = some (.int .u64 0) := hZ2.cell 2
 have y3 : w2.cell? ⟨w.heap.size, 3, none⟩ = some (.int .u64 0) := hZ2.cell 3
 have y4 : w2.cell? ⟨w.heap.size, 4, none⟩ = some (.int .u64 0) := hZ2.cell 4
 have y5 : w2.cell? ⟨w.heap.size, 5, none⟩ = some (.slice none 0 0) := hZ2.cell 5
 have y6 : w2.cell? ⟨w.heap.size, 6, none⟩ = some (.int .i64 0) := hZ2.cell 6
 have y7 : w2.cell? ⟨w.heap.size, 7, none⟩ = some (.int .i64 0) := hZ2.cell 7
 have z0 := hZ2.frozen 0
 have z1 := hZ2.frozen 1
 have z2 := hZ2.frozen 2
 have z3 := hZ2.frozen 3
 have z4 := hZ2.frozen 4
 have z5 := hZ2.frozen 5
 have z6 := hZ2.frozen 6
 have z7 := hZ2.frozen 7
 have HZ2 := Lib.hid hZ2
 have HB2 := Lib.hid (HB.out.trans (hb2.mono HB.out.size))
 have HT2 := Lib.hid (show TreesAt w2 (OrNew (fun b => P b ∧ b < w.heap.size) (w.heap.size + 1)) _ B by simpa using ht2)
 clear hZ2 hb2 ht2 HO HZ HB
 unfold ndV
 dsimp only
 go_wp2
 go_light
 have hF := flat_put (x := x) (B := B) (cap := cap') HZ2.out HB2.out HT2.out rfl
 exact bodyPost_ret (ret_node Tryz.results88 rfl hF.1) rfl ⟨B, cap', rfl, hF.2.1, hc2, hF.2.2⟩
end Go.Proofs.YtofbfafnpdaejaaGreatDoor
