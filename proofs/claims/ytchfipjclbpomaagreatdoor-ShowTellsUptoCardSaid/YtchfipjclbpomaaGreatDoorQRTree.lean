/-
  The contracts of the reference's trees: Of, Bytes, Many, Cat, Alt, Rep.
-/
import Derived.Test.YtchfipjclbpomaaGreatDoorQZ02
namespace Go.Proofs.YtchfipjclbpomaaGreatDoor
open Go.RowKit
set_option linter.unusedSimpArgs false
set_option linter.unusedVariables false
set_option maxRecDepth 100000

/-- Blocks that were of P, or are from n on. -/
def OrNew (P : Nat → Prop) (n b : Nat) : Prop := P b ∨ n ≤ b
theorem info_nd : (Tryz.prog.info? 28).map (fun i => (i.zero, i.size, i.bytes)) = some (some (.agg #[.int .i64 0, .int .u64 0, .int .u64 0, .int .u64 0, .int .u64 0, .slice none 0 0, .int .i64 0, .int .i64 0]), 8, 80) := by kernel_rfl
theorem ndCell_len (x : Nd) (B : Option Addr) (cap : Nat) : (ndCell x B cap).length = 8 := by simp [ndCell]
theorem addr_plus7 (b o j : Nat) : (⟨b, o, none⟩ : Addr).add j = ⟨b, o + j, none⟩ := by unfold Addr.add; split <;> simp_all
/-- The cells of a row of trees. -/
theorem TreesAt.cells {w : World} {P : Nat → Prop} : ∀ {l : List Nd} {b o : Nat}, TreesAt w P (Trees.of l) (some ⟨b, o, none⟩) → ∃ cs, CellsAre w P l cs ∧ ∀ j u, cs[j]? = some u → w.cell? ⟨b, o + j, none⟩ = some u
  | [], b, o, _ => ⟨[], rfl, fun j u h => by simp at h⟩
  | x :: l, b, o, ⟨b', o', B, cap, hA, hb, hc, hn, h1, h2⟩ => by
    simp at hA
    obtain ⟨rfl, rfl⟩ := hA
    obtain ⟨cs, hcs, hg⟩ := TreesAt.cells h2
    refine ⟨ndCell x B cap ++ cs, ⟨B, cap, cs, rfl, hc, h1, hcs⟩, fun j u hu => ?_⟩
    rcases Nat.lt_or_ge j 8 with hj | hj
    · rw [List.getElem?_append_left (by rw [ndCell_len]; exact hj)] at hu
      obtain ⟨c0, c1, c2, c3, c4, c5, c6, c7⟩ := hn
      have hj' : j = 0 ∨ j = 1 ∨ j = 2 ∨ j = 3 ∨ j = 4 ∨ j = 5 ∨ j = 6 ∨ j = 7 := by omega
      rcases hj' with rfl | rfl | rfl | rfl | rfl | rfl | rfl | rfl
      all_goals
        have hu' := Option.some.inj hu
        subst hu'
        first | exact c0 | exact c1 | exact c2 | exact c3 | exact c4 | exact c5 | exact c6 | exact c7
    · rw [List.getElem?_append_right (by rw [ndCell_len]; exact hj), ndCell_len] at hu
      have := hg (j - 8) u hu
      rw [show o + 8 + (j - 8) = o + j by omega] at this
      exact this
theorem CellsAre.one {w : World} {P : Nat → Prop} : ∀ {l : List Nd} {cs : List Value}, CellsAre w P l cs → ∀ u ∈ cs, u.oneCell' = true
  | [], cs, h, u, hu => by have : cs = [] := h; subst this; cases hu
  | x :: l, cs, ⟨B, cap, rest, hcs, hc, ht, hr⟩, u, hu => by
    subst hcs
    rcases List.mem_append.1 hu with hu | hu
    · simp [ndCell] at hu
      rcases hu with rfl | rfl | rfl | rfl | rfl | rfl | rfl | rfl <;> rfl
    · exact hr.one u hu

set_option maxHeartbeats 1000000 in
theorem nof_go (k : Int) (P : Nat → Prop) (A : Option Addr) (cap : Nat) (l : List Nd) (w : World) (hl : 0 < l.length) (hlen : l.length ≤ 100000) (ht : TreesAt w P (Trees.of l) A) :
    Calls Tryz.prog 120 #[.int .i64 k, .slice A l.length cap] w (Flatted (OrNew P w.heap.size) ⟨k, 0, Trees.of l, 0, 0⟩ w) := by
  obtain ⟨i0, hi, hz0, hz1, hz2⟩ := info_parts info_nd
  obtain ⟨b, o, rfl, _, hbl⟩ := ht.form (by rw [Trees.len_of]; exact hl)
  obtain ⟨cs, hcs, hg⟩ := (ht.weak (Q := fun b => P b ∧ b < w.heap.size) (fun b h1 h => ⟨h1, h⟩)).cells
  have hb0 : Below w.heap.size w ((w.alloc (.cells #[.int .i64 0, .int .u64 0, .int .u64 0, .int .u64 0, .int .u64 0, .slice none 0 0, .int .i64 0, .int .i64 0] 28)).alloc (.cells #[] 28)) := ((Below.refl _ _).alloc (Nat.le_refl _) _).alloc (by simp) _
  have hnews : ∀ j u, cs[j]? = some u → ((w.alloc (.cells #[.int .i64 0, .int .u64 0, .int .u64 0, .int .u64 0, .int .u64 0, .slice none 0 0, .int .i64 0, .int .i64 0] 28)).alloc (.cells #[] 28)).cell? ((⟨b, o, none⟩ : Addr).add j) = some u := fun j u hu => by
    rw [addr_plus7]
    exact (hb0.cell (p := ⟨b, o + j, none⟩) hbl).trans (hg j u hu)
  have hown : ((w.alloc (.cells #[.int .i64 0, .int .u64 0, .int .u64 0, .int .u64 0, .int .u64 0, .slice none 0 0, .int .i64 0, .int .i64 0] 28)).alloc (.cells #[] 28)).ownsRow (w.heap.size + 1) 28 8 (.slice (some ⟨w.heap.size + 1, 0, none⟩) 0 0) 0 [] := by
    have h := World.ownsRow_made (base := w.heap.size + 1) (size := 8) (e := 28) (w.alloc (.cells #[.int .i64 0, .int .u64 0, .int .u64 0, .int .u64 0, .int .u64 0, .slice none 0 0, .int .i64 0, .int .i64 0] 28)) #[] 0 (by simp) (by decide) rfl
    rw [World.size_alloc] at h
    exact h
  have HN := Lib.hid hnews
  have HO := Lib.hid hown
  have HC := Lib.hid hcs
  have h1 := hcs.one
  have hcl := hcs.length
  have HZ := Lib.hid ((Blk.new w 28 #[.int .i64 0, .int .u64 0, .int .u64 0, .int .u64 0, .int .u64 0, .slice none 0 0, .int .i64 0, .int .i64 0]).alloc (.cells #[] 28))
  have HB := Lib.hid hb0
  have H1 := Lib.hid h1
  have HCL := Lib.hid hcl
  have h63 : 0 + l.length ≤ maxLen := Nat.le_trans (by omega) (show 200000 ≤ maxLen by decide)
  have hby : (0 + l.length) * 80 ≤ 140737488355328 := by omega
  clear hnews hown hb0 hcs hg ht h1 hcl
  go_enter Tryz.func120, Tryz.ntmps120
  go_wp2_with (at_builtin; refine wpList_append_lies _ rfl _ _ 26 rfl (w.heap.size + 1) 28 i0 _ 8 80 Tryz.underlying26 hi hz0 hz1 hz2 rfl (by decide) (.slice (some ⟨w.heap.size + 1, 0, none⟩) 0 0) 0 [] rfl HO.out ⟨b, o, none⟩ l.length cap cs rfl HCL.out HN.out H1.out hl h63 hby (by simp) (w.heap.size + 2) (by simp) ?_; intro g capg w2 hown2 hgrow2 hat2 hg2; have hZ2 : Blk w2 w.heap.size 28 _ := HZ.out.grown hgrow2 (by simp [Value.ownBlock]); have y0 : w2.cell? ⟨w.heap.size, 0, none⟩ = some (.int .i64 0) := hZ2.cell 0; have y1 : w2.cell? ⟨w.heap.size, 1, none⟩ = some (.int .u64 0) := hZ2.cell 1; have y2 : w2.cell? ⟨w.heap.size, 2, none⟩ = some (.int .u64 0) := hZ2.cell 2; have y3 : w2.cell? ⟨w.heap.size, 3, none⟩ = some (.int .u64 0) := hZ2.cell 3; have y4 : w2.cell? ⟨w.heap.size, 4, none⟩ = some (.int .u64 0) := hZ2.cell 4; have y5 : w2.cell? ⟨w.heap.size, 5, none⟩ = some (.slice none 0 0) := hZ2.cell 5; have y6 : w2.cell? ⟨w.heap.size, 6, none⟩ = some (.int .i64 0) := hZ2.cell 6; have y7 : w2.cell? ⟨w.heap.size, 7, none⟩ = some (.int .i64 0) := hZ2.cell 7; have z0 := hZ2.frozen 0; have z1 := hZ2.frozen 1; have z2 := hZ2.frozen 2; have z3 := hZ2.frozen 3; have z4 := hZ2.frozen 4; have z5 := hZ2.frozen 5; have z6 := hZ2.frozen 6; have z7 := hZ2.frozen 7; have HZ2 := Lib.hid hZ2; have HO2 := Lib.hid hown2; have HG2 := Lib.hid hgrow2; clear hZ2 hown2 hgrow2 hat2)
  go_light
  have hlg := (HO2.out.lt g rfl).1
  have hB2 : Below w.heap.size w w2 := HB.out.grown HG2.out (by simp; omega) (fun k e => by simp [Value.ownBlock] at e; omega)
  have hB3 := below_put8 hB2 (Nat.le_refl _) (.int .i64 k) (.int .u64 0) (.int .u64 0) (.int .u64 0) (.int .u64 0) (.slice (some ⟨g, 0, none⟩) (0 + l.length) capg) (.int .i64 0) (.int .i64 0)
  have hO3 := HO2.out.kept (only_put8 w2 w.heap.size (.int .i64 k) (.int .u64 0) (.int .u64 0) (.int .u64 0) (.int .u64 0) (.slice (some ⟨g, 0, none⟩) (0 + l.length) capg) (.int .i64 0) (.int .i64 0)) (.inr (by simp [Value.ownBlock]; omega))
  rw [Nat.zero_add] at *
  have hC3 := CellsAre.keep (Q := OrNew P w.heap.size) (fun b o (hb : P b ∧ b < w.heap.size) _ => hB3.cell (p := ⟨b, o, none⟩) hb.2) (fun _ h _ => .inl h.1) HC.out
  obtain ⟨A', cap', hv, hc', ht'⟩ := trees_of hO3 hC3 (fun k e => .inr (by have := (hO3.lt k e).1; omega))
  obtain ⟨rfl, _, rfl⟩ := Value.slice.inj hv
  exact bodyPost_ret (ret_node Tryz.results120 rfl (HZ2.out.put8 _ _ _ _ _ _ _ _)) rfl ⟨_, _, by rw [ndV_plain, Trees.len_of], hB3, by rw [Trees.len_of]; exact hc', ht'⟩

theorem nbytes_any (p : Nat → Bool) (w : World) :
    Calls Tryz.prog 119 #[.agg #[.int .u64 ((word (p) 0 : Nat) : Int), .int .u64 ((word (p) 1 : Nat) : Int), .int .u64 ((word (p) 2 : Nat) : Int), .int .u64 ((word (p) 3 : Nat) : Int)]] w fun e w' => e = .returned (ndV (leafN (maskOf p)) none 0) ∧ Below w.heap.size w w' := by
  have hv : ndV (leafN (maskOf p)) none 0 = .agg #[.int .i64 3, .int .u64 ((word (p) 0 : Nat) : Int), .int .u64 ((word (p) 1 : Nat) : Int), .int .u64 ((word (p) 2 : Nat) : Int), .int .u64 ((word (p) 3 : Nat) : Int), .slice none 0 0, .int .i64 0, .int .i64 0] := by
    unfold ndV leafN
    dsimp only
    rw [word_mask p 0 (by decide), word_mask p 1 (by decide), word_mask p 2 (by decide), word_mask p 3 (by decide)]
    rfl
  rw [hv]
  go_enter Tryz.func119, Tryz.ntmps119
  go_wp2
  go_light
  refine bodyPost_ret (ret_node Tryz.results119 rfl (Blk.new_at (by simp))) rfl ⟨rfl, ((Below.refl _ _).alloc (Nat.le_refl _) _).alloc (by simp) _⟩

/-- Of none, of one, or of more. -/
def manyN (k none : Int) : List Nd → Nd
  | [] => ⟨none, 0, .nil, 0, 0⟩
  | [x] => x
  | l => ⟨k, 0, Trees.of l, 0, 0⟩
theorem manyN_part (l : List Nd) : manyN 4 2 l = partN l := by
  match l with
  | [] => rfl
  | [x] => rfl
  | x :: y :: l => rfl
theorem manyN_flat (l : List Nd) (h : l ≠ []) : manyN 5 1 l = flatN 5 l := by
  match l, h with
  | [], h => exact absurd rfl h
  | [x], _ => rfl
  | x :: y :: l, _ => rfl
theorem manyN_more (k none : Int) (l : List Nd) (h : 2 ≤ l.length) : manyN k none l = ⟨k, 0, Trees.of l, 0, 0⟩ := by
  match l, h with
  | [], h => simp at h
  | [x], h => simp at h
  | x :: y :: l, _ => rfl
/-- A result that lies in a block of its own. -/
theorem flat_put {w w2 : World} {x : Nd} {B : Option Addr} {cap : Nat} (hZ : Blk w2 w.heap.size 28 #[.int .i64 0, .int .u64 0, .int .u64 0, .int .u64 0, .int .u64 0, .slice none 0 0, .int .i64 0, .int .i64 0]) (hB : Below w.heap.size w w2) {P : Nat → Prop} (ht : TreesAt w2 (OrNew (fun b => P b ∧ b < w.heap.size) (w.heap.size + 1)) x.kids B) {w' : World}
    (hw' : w' = ((((((((w2.setCell ⟨w.heap.size, 0, none⟩ (.int .i64 x.kind)).setCell ⟨w.heap.size, 1, none⟩ (.int .u64 ((word x.set.testBit 0 : Nat) : Int))).setCell ⟨w.heap.size, 2, none⟩ (.int .u64 ((word x.set.testBit 1 : Nat) : Int))).setCell ⟨w.heap.size, 3, none⟩ (.int .u64 ((word x.set.testBit 2 : Nat) : Int))).setCell ⟨w.heap.size, 4, none⟩ (.int .u64 ((word x.set.testBit 3 : Nat) : Int))).setCell ⟨w.heap.size, 5, none⟩ (.slice B x.kids.len cap)).setCell ⟨w.heap.size, 6, none⟩ (.int .i64 x.lo)).setCell ⟨w.heap.size, 7, none⟩ (.int .i64 x.hi))) :
    Blk w' w.heap.size 28 (ndA x B cap) ∧ Below w.heap.size w w' ∧ TreesAt w' (OrNew P w.heap.size) x.kids B := by
  have hg : w2.grownBy w' (some w.heap.size) := by rw [hw']; exact only_put8 _ _ _ _ _ _ _ _ _ _
  refine ⟨by rw [hw']; exact hZ.put8 _ _ _ _ _ _ _ _, by rw [hw']; exact below_put8 hB (Nat.le_refl _) _ _ _ _ _ _ _ _, ht.keep (fun b o hb hl => World.cell?_of_block (hg.block b hl (fun e => by have := Option.some.inj e; rcases hb with h | h <;> omega))) (fun b hb _ => hb.imp (fun h => h.1) (fun h => by omega))⟩

set_option maxHeartbeats 1000000 in
theorem nmany_go (k nk : Int) (P : Nat → Prop) (A : Option Addr) (cap : Nat) (l : List Nd) (w : World) (hlen : l.length ≤ 100000) (ht : TreesAt w P (Trees.of l) A) :
    Calls Tryz.prog 93 #[.int .i64 k, .int .i64 nk, .slice A l.length cap] w (Flatted (OrNew P w.heap.size) (manyN k nk l) w) := by
  by_cases h0 : l = []
  · subst h0
    show Calls _ _ #[.int .i64 k, .int .i64 nk, .slice A 0 cap] w (Flatted (OrNew P w.heap.size) ⟨nk, 0, .nil, 0, 0⟩ w)
    go_enter Tryz.func93, Tryz.ntmps93
    go_wp2
    go_light
    exact bodyPost_ret (ret_node Tryz.results93 rfl (Blk.new_at (by simp))) rfl ⟨none, 0, by rw [ndV_plain]; rfl, (Below.refl _ _).alloc (Nat.le_refl _) _, Nat.le_refl _, trivial⟩
  have hd0 : ((l.length : Int) == 0) = false := by rw [beq_eq_false_iff_ne]; intro e; exact h0 (List.length_eq_zero_iff.1 (by omega))
  by_cases h1 : l.length = 1
  · obtain ⟨x, rfl⟩ := List.length_eq_one_iff.1 h1
    obtain ⟨b, o, B, cap', rfl, hb, hc', hn, hk⟩ := ht.get (i := 0) (x := x) (by rw [Trees.list_of]; rfl)
    obtain ⟨c0, c1, c2, c3, c4, c5, c6, c7⟩ := hn
    have hbl := World.block_lt_of_cell? w _ c0
    have HK := Lib.hid hk
    simp only [Nat.zero_mul, Nat.add_zero] at c0 c1 c2 c3 c4 c5 c6 c7
    clear hk ht h1 hd0
    show Calls _ _ #[.int .i64 k, .int .i64 nk, .slice (some ⟨b, o, none⟩) 1 cap] w (Flatted (OrNew P w.heap.size) x w)
    go_enter Tryz.func93, Tryz.ntmps93
    go_wp2
    go_light
    exact bodyPost_ret (ret_node Tryz.results93 rfl (Blk.new_at (by simp))) rfl ⟨B, cap', rfl, (Below.refl _ _).alloc (Nat.le_refl _) _, hc', (HK.out.below ((Below.refl _ _).alloc (Nat.le_refl _) _)).weak (fun _ h _ => .inl h)⟩
  · rw [manyN_more k nk l (by have := List.length_pos_iff.2 h0; omega)]
    have hd : ((l.length : Int) == 1) = false := by rw [beq_eq_false_iff_ne]; omega
    have hb1 : Below w.heap.size w (w.alloc (.cells #[.int .i64 0, .int .u64 0, .int .u64 0, .int .u64 0, .int .u64 0, .slice none 0 0, .int .i64 0, .int .i64 0] 28)) := (Below.refl _ _).alloc (Nat.le_refl _) _
    have HZ := Lib.hid (Blk.new w 28 #[.int .i64 0, .int .u64 0, .int .u64 0, .int .u64 0, .int .u64 0, .slice none 0 0, .int .i64 0, .int .i64 0])
    have HB := Lib.hid hb1
    have HO := Lib.hid (nof_go k _ A cap l _ (List.length_pos_iff.2 h0) hlen ((ht.weak (Q := fun b => P b ∧ b < w.heap.size) (fun b h1 h => ⟨h1, h⟩)).below hb1))
    clear hb1 ht h0 h1
    go_enter Tryz.func93, Tryz.ntmps93
    go_wp2_with fail
    refine HO.out.mono ?_
    rintro e w2 ⟨B, cap', rfl, hb2, hc2, ht2⟩
    have hZ2 := HZ.out.below hb2 HZ.out.lt
    have y0 : w2.cell? ⟨w.heap.size, 0, none⟩ = some (.int .i64 0) := hZ2.cell 0
    have y1 : w2.cell? ⟨w.heap.size, 1, none⟩ = some (.int .u64 0) := hZ2.cell 1
    have y2 : w2.cell? ⟨w.heap.size, 2, none⟩ = some (.int .u64 0) := hZ2.cell 2
    have y3 : w2.cell? ⟨w.heap.size, 3, none⟩ = some (.int .u64 0) := hZ2.cell 3
    have y4 : w2.cell? ⟨w.heap.size, 4, none⟩ = some (.int .u64 0) := hZ2.cell 4
    have y5 : w2.cell? ⟨w.heap.size, 5, none⟩ = some (.slice none 0 0) := hZ2.cell 5
    have y6 : w2.cell? ⟨w.heap.size, 6, none⟩ = some (.int .i64 0) := hZ2.cell 6
    have y7 : w2.cell? ⟨w.heap.size, 7, none⟩ = some (.int .i64 0) := hZ2.cell 7
    have z0 := hZ2.frozen 0
    have z1 := hZ2.frozen 1
    have z2 := hZ2.frozen 2
    have z3 := hZ2.frozen 3
    have z4 := hZ2.frozen 4
    have z5 := hZ2.frozen 5
    have z6 := hZ2.frozen 6
    have z7 := hZ2.frozen 7
    have HZ2 := Lib.hid hZ2
    have HB2 := Lib.hid (HB.out.trans (hb2.mono HB.out.size))
    have HT2 := Lib.hid (show TreesAt w2 (OrNew (fun b => P b ∧ b < w.heap.size) (w.heap.size + 1)) _ B by simpa using ht2)
    clear hZ2 hb2 ht2 HO HZ HB
    rw [ndV_plain]
    dsimp only
    go_wp2
    go_light
    have hF := flat_put (x := ⟨k, 0, Trees.of l, 0, 0⟩) (B := B) (cap := cap') HZ2.out HB2.out HT2.out (by simp only [word_zero]; rfl)
    exact bodyPost_ret (ret_node Tryz.results93 rfl hF.1) rfl ⟨B, cap', rfl, hF.2.1, hc2, hF.2.2⟩
theorem ncat_go (P : Nat → Prop) (A : Option Addr) (cap : Nat) (l : List Nd) (w : World) (hlen : l.length ≤ 100000) (ht : TreesAt w P (Trees.of l) A) :
    Calls Tryz.prog 92 #[.slice A l.length cap] w (Flatted (OrNew P w.heap.size) (partN l) w) := by
  have hb1 : Below w.heap.size w (w.alloc (.cells #[.int .i64 0, .int .u64 0, .int .u64 0, .int .u64 0, .int .u64 0, .slice none 0 0, .int .i64 0, .int .i64 0] 28)) := (Below.refl _ _).alloc (Nat.le_refl _) _
  have HZ := Lib.hid (Blk.new w 28 #[.int .i64 0, .int .u64 0, .int .u64 0, .int .u64 0, .int .u64 0, .slice none 0 0, .int .i64 0, .int .i64 0])
  have HB := Lib.hid hb1
  have hO := nmany_go 4 2 _ A cap l _ hlen ((ht.weak (Q := fun b => P b ∧ b < w.heap.size) (fun b h1 h => ⟨h1, h⟩)).below hb1)
  rw [manyN_part] at hO
  have HO := Lib.hid hO
  clear hb1 ht hO
  generalize partN l = x at *
  go_enter Tryz.func92, Tryz.ntmps92
  go_wp2_with fail
  refine HO.out.mono ?_
  rintro e w2 ⟨B, cap', rfl, hb2, hc2, ht2⟩
  have hZ2 := HZ.out.below hb2 HZ.out.lt
  have y0 : w2.cell? ⟨w.heap.size, 0, none⟩ = some (.int .i64 0) := hZ2.cell 0
  have y1 : w2.cell? ⟨w.heap.size, 1, none⟩ = some (.int .u64 0) := hZ2.cell 1
  have y2 : w2.cell? ⟨w.heap.size, 2, none⟩ = some (.int .u64 0) := hZ2.cell 2
  have y3 : w2.cell? ⟨w.heap.size, 3, none⟩ = some (.int .u64 0) := hZ2.cell 3
  have y4 : w2.cell? ⟨w.heap.size, 4, none⟩ = some (.int .u64 0) := hZ2.cell 4
  have y5 : w2.cell? ⟨w.heap.size, 5, none⟩ = some (.slice none 0 0) := hZ2.cell 5
  have y6 : w2.cell? ⟨w.heap.size, 6, none⟩ = some (.int .i64 0) := hZ2.cell 6
  have y7 : w2.cell? ⟨w.heap.size, 7, none⟩ = some (.int .i64 0) := hZ2.cell 7
  have z0 := hZ2.frozen 0
  have z1 := hZ2.frozen 1
  have z2 := hZ2.frozen 2
  have z3 := hZ2.frozen 3
  have z4 := hZ2.frozen 4
  have z5 := hZ2.frozen 5
  have z6 := hZ2.frozen 6
  have z7 := hZ2.frozen 7
  have HZ2 := Lib.hid hZ2
  have HB2 := Lib.hid (HB.out.trans (hb2.mono HB.out.size))
  have HT2 := Lib.hid (show TreesAt w2 (OrNew (fun b => P b ∧ b < w.heap.size) (w.heap.size + 1)) _ B by simpa using ht2)
  clear hZ2 hb2 ht2 HO HZ HB
  unfold ndV
  dsimp only
  go_wp2
  go_light
  have hF := flat_put (x := x) (B := B) (cap := cap') HZ2.out HB2.out HT2.out rfl
  exact bodyPost_ret (ret_node Tryz.results92 rfl hF.1) rfl ⟨B, cap', rfl, hF.2.1, hc2, hF.2.2⟩
theorem nalt_go (P : Nat → Prop) (A : Option Addr) (cap : Nat) (l : List Nd) (w : World) (hlen : l.length ≤ 100000) (ht : TreesAt w P (Trees.of l) A) :
    Calls Tryz.prog 69 #[.slice A l.length cap] w (Flatted (OrNew P w.heap.size) (manyN 5 1 l) w) := by
  have hb1 : Below w.heap.size w (w.alloc (.cells #[.int .i64 0, .int .u64 0, .int .u64 0, .int .u64 0, .int .u64 0, .slice none 0 0, .int .i64 0, .int .i64 0] 28)) := (Below.refl _ _).alloc (Nat.le_refl _) _
  have HZ := Lib.hid (Blk.new w 28 #[.int .i64 0, .int .u64 0, .int .u64 0, .int .u64 0, .int .u64 0, .slice none 0 0, .int .i64 0, .int .i64 0])
  have HB := Lib.hid hb1
  have HO := Lib.hid (nmany_go 5 1 _ A cap l _ hlen ((ht.weak (Q := fun b => P b ∧ b < w.heap.size) (fun b h1 h => ⟨h1, h⟩)).below hb1))
  clear hb1 ht
  generalize manyN 5 1 l = x at *
  go_enter Tryz.func69, Tryz.ntmps69
  go_wp2_with fail
  refine HO.out.mono ?_
  rintro e w2 ⟨B, cap', rfl, hb2, hc2, ht2⟩
  have hZ2 := HZ.out.below hb2 HZ.out.lt
  have y0 : w2.cell? ⟨w.heap.size, 0, none⟩ = some (.int .i64 0) := hZ2.cell 0
  have y1 : w2.cell? ⟨w.heap.size, 1, none⟩ = some (.int .u64 0) := hZ2.cell 1
  have y2 : w2.cell? ⟨w.heap.size, 2, none⟩ = some (.int .u64 0) := hZ2.cell 2
  have y3 : w2.cell? ⟨w.heap.size, 3, none⟩ = some (.int .u64 0) := hZ2.cell 3
  have y4 : w2.cell? ⟨w.heap.size, 4, none⟩ = some (.int .u64 0) := hZ2.cell 4
  have y5 : w2.cell? ⟨w.heap.size, 5, none⟩ = some (.slice none 0 0) := hZ2.cell 5
  have y6 : w2.cell? ⟨w.heap.size, 6, none⟩ = some (.int .i64 0) := hZ2.cell 6
  have y7 : w2.cell? ⟨w.heap.size, 7, none⟩ = some (.int .i64 0) := hZ2.cell 7
  have z0 := hZ2.frozen 0
  have z1 := hZ2.frozen 1
  have z2 := hZ2.frozen 2
  have z3 := hZ2.frozen 3
  have z4 := hZ2.frozen 4
  have z5 := hZ2.frozen 5
  have z6 := hZ2.frozen 6
  have z7 := hZ2.frozen 7
  have HZ2 := Lib.hid hZ2
  have HB2 := Lib.hid (HB.out.trans (hb2.mono HB.out.size))
  have HT2 := Lib.hid (show TreesAt w2 (OrNew (fun b => P b ∧ b < w.heap.size) (w.heap.size + 1)) _ B by simpa using ht2)
  clear hZ2 hb2 ht2 HO HZ HB
  unfold ndV
  dsimp only
  go_wp2
  go_light
  have hF := flat_put (x := x) (B := B) (cap := cap') HZ2.out HB2.out HT2.out rfl
  exact bodyPost_ret (ret_node Tryz.results69 rfl hF.1) rfl ⟨B, cap', rfl, hF.2.1, hc2, hF.2.2⟩

set_option maxHeartbeats 2000000 in
theorem nrep_go (P : Nat → Prop) (x : Nd) (B : Option Addr) (cap : Nat) (lo hi : Int) (w : World) (hc : x.kids.len ≤ cap) (ht : TreesAt w P x.kids B) :
    Calls Tryz.prog 121 #[ndV x B cap, .int .i64 lo, .int .i64 hi] w (Flatted (OrNew P w.heap.size) ⟨9, 0, Trees.of [x], lo, hi⟩ w) := by
  have hb3 : Below w.heap.size w (((w.alloc (.cells (ndA x B cap) 28)).alloc (.cells #[.int .i64 0, .int .u64 0, .int .u64 0, .int .u64 0, .int .u64 0, .slice none 0 0, .int .i64 0, .int .i64 0] 28)).alloc (.cells (ndA x B cap) 28)) := (((Below.refl _ _).alloc (Nat.le_refl _) _).alloc (by simp) _).alloc (by simp; omega) _
  have hs3 : ((((w.alloc (.cells (ndA x B cap) 28)).alloc (.cells #[.int .i64 0, .int .u64 0, .int .u64 0, .int .u64 0, .int .u64 0, .slice none 0 0, .int .i64 0, .int .i64 0] 28)).alloc (.cells (ndA x B cap) 28))).heap.size = w.heap.size + 3 := by simp
  have hX : Blk (((w.alloc (.cells (ndA x B cap) 28)).alloc (.cells #[.int .i64 0, .int .u64 0, .int .u64 0, .int .u64 0, .int .u64 0, .slice none 0 0, .int .i64 0, .int .i64 0] 28)).alloc (.cells (ndA x B cap) 28)) (w.heap.size + 2) 28 (ndA x B cap) := Blk.new_at (by simp)
  have HZ := Lib.hid (show Blk (((w.alloc (.cells (ndA x B cap) 28)).alloc (.cells #[.int .i64 0, .int .u64 0, .int .u64 0, .int .u64 0, .int .u64 0, .slice none 0 0, .int .i64 0, .int .i64 0] 28)).alloc (.cells (ndA x B cap) 28)) (w.heap.size + 1) 28 #[.int .i64 0, .int .u64 0, .int .u64 0, .int .u64 0, .int .u64 0, .slice none 0 0, .int .i64 0, .int .i64 0] from Blk.alloc (Blk.new_at (by simp)) _)
  have ht1 : TreesAt (((w.alloc (.cells (ndA x B cap) 28)).alloc (.cells #[.int .i64 0, .int .u64 0, .int .u64 0, .int .u64 0, .int .u64 0, .slice none 0 0, .int .i64 0, .int .i64 0] 28)).alloc (.cells (ndA x B cap) 28)) (fun b => (P b ∧ b < w.heap.size) ∨ b = w.heap.size + 2) (Trees.of [x]) (some ⟨w.heap.size + 2, 0, none⟩) :=
    TreesAt.one hX hc ((ht.weak (Q := fun b => (P b ∧ b < w.heap.size) ∨ b = w.heap.size + 2) (fun b h1 h => .inl ⟨h1, h⟩)).below hb3) (.inr rfl)
  have hO := nof_go 9 _ (some ⟨w.heap.size + 2, 0, none⟩) 1 [x] _ (by simp) (by simp) ht1
  rw [hs3] at hO
  have HO := Lib.hid hO
  have HB := Lib.hid hb3
  have Hs3 := Lib.hid hs3
  clear hX ht1 hO ht hb3 hs3
  unfold ndV
  go_enter Tryz.func121, Tryz.ntmps121
  go_wp2_with fail
  refine HO.out.mono ?_
  rintro e w4 ⟨B4, cap4, rfl, hb4, hc4, ht4⟩
  rw [Hs3.out] at hb4
  have hsz4 : w.heap.size + 3 ≤ w4.heap.size := by have := hb4.size; rw [Hs3.out] at this; exact this
  have hZ4 := HZ.out.below hb4 (by omega)
  have HZ4 := Lib.hid hZ4
  have HB4 := Lib.hid (HB.out.trans (hb4.mono (by omega)))
  have HT4 := Lib.hid ht4
  have y0 : w4.cell? ⟨w.heap.size + 1, 0, none⟩ = some (.int .i64 0) := hZ4.cell 0
  have y1 : w4.cell? ⟨w.heap.size + 1, 1, none⟩ = some (.int .u64 0) := hZ4.cell 1
  have y2 : w4.cell? ⟨w.heap.size + 1, 2, none⟩ = some (.int .u64 0) := hZ4.cell 2
  have y3 : w4.cell? ⟨w.heap.size + 1, 3, none⟩ = some (.int .u64 0) := hZ4.cell 3
  have y4 : w4.cell? ⟨w.heap.size + 1, 4, none⟩ = some (.int .u64 0) := hZ4.cell 4
  have y5 : w4.cell? ⟨w.heap.size + 1, 5, none⟩ = some (.slice none 0 0) := hZ4.cell 5
  have y6 : w4.cell? ⟨w.heap.size + 1, 6, none⟩ = some (.int .i64 0) := hZ4.cell 6
  have y7 : w4.cell? ⟨w.heap.size + 1, 7, none⟩ = some (.int .i64 0) := hZ4.cell 7
  have z0 := hZ4.frozen 0
  have z1 := hZ4.frozen 1
  have z2 := hZ4.frozen 2
  have z3 := hZ4.frozen 3
  have z4 := hZ4.frozen 4
  have z5 := hZ4.frozen 5
  have z6 := hZ4.frozen 6
  have z7 := hZ4.frozen 7
  have hlt : w.heap.size + 1 < w4.heap.size := by omega
  clear hZ4 hb4 ht4 HO HZ HB Hs3
  rw [ndV_plain]
  dsimp only
  go_wp2
  go_light
  have hg := only_put8 w4 (w.heap.size + 1) (.int .i64 9) (.int .u64 0) (.int .u64 0) (.int .u64 0) (.int .u64 0) (.slice B4 (Trees.of [x]).len cap4) (.int .i64 lo) (.int .i64 hi)
  have hx := HZ4.out.put8 (.int .i64 9) (.int .u64 0) (.int .u64 0) (.int .u64 0) (.int .u64 0) (.slice B4 (Trees.of [x]).len cap4) (.int .i64 lo) (.int .i64 hi)
  have hB := below_put8 HB4.out (Nat.le_succ w.heap.size) (.int .i64 9) (.int .u64 0) (.int .u64 0) (.int .u64 0) (.int .u64 0) (.slice B4 (Trees.of [x]).len cap4) (.int .i64 lo) (.int .i64 hi)
  have ht := HT4.out.keep (Q := OrNew P w.heap.size) (fun b o hb hl => World.cell?_of_block (hg.block b hl (fun e => by have := Option.some.inj e; rcases hb with (h | h) | h <;> omega))) (fun b hb _ => by rcases hb with (h | h) | h; exact .inl h.1; exact .inr (by omega); exact .inr (by omega))
  exact bodyPost_ret (ret_node Tryz.results121 rfl (hx.alloc _)) rfl ⟨B4, cap4, by rw [ndV_plain], hB.alloc hB.size _, hc4, ht.below ((Below.refl _ _).alloc (Nat.le_refl _) _)⟩

end Go.Proofs.YtchfipjclbpomaaGreatDoor
