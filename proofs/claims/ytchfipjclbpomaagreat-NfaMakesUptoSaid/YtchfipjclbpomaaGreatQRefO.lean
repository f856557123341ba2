/-
  The contract of Of of the trees of the reference of chapter 06.
-/
import Derived.Test.YtchfipjclbpomaaGreatQZ02
namespace Go.Proofs.YtchfipjclbpomaaGreat
open Go.RowKit
set_option linter.unusedSimpArgs false
set_option linter.unusedVariables false
set_option maxRecDepth 100000

/-- Blocks that were of P, or are from n on. -/
def OrNew (P : Nat → Prop) (n b : Nat) : Prop := P b ∨ n ≤ b
theorem info_nd : (Tryz.prog.info? 29).map (fun i => (i.zero, i.size, i.bytes)) = some (some (.agg #[.int .i64 0, .int .u64 0, .int .u64 0, .int .u64 0, .int .u64 0, .slice none 0 0, .int .i64 0, .int .i64 0]), 8, 80) := by kernel_rfl
theorem ndCell_len (x : Nd) (B : Option Addr) (cap : Nat) : (ndCell x B cap).length = 8 := by simp [ndCell]
theorem addr_plus7 (b o j : Nat) : (⟨b, o, none⟩ : Addr).add j = ⟨b, o + j, none⟩ := by unfold Addr.add; split <;> simp_all
/-- The cells of a row of trees. -/
theorem TreesAt.cells {w : World} {P : Nat → Prop} : ∀ {l : List Nd} {b o : Nat}, TreesAt w P (Trees.of l) (some ⟨b, o, none⟩) → ∃ cs, CellsAre w P l cs ∧ ∀ j u, cs[j]? = some u → w.cell? ⟨b, o + j, none⟩ = some u
  | [], b, o, _ => ⟨[], rfl, fun j u h => by simp at h⟩
  | x :: l, b, o, ⟨b', o', B, cap, hA, hb, hc, hn, h1, h2⟩ => by
    simp at hA
    obtain ⟨rfl, rfl⟩ := hA
    obtain ⟨cs, hcs, hg⟩ := TreesAt.cells h2
    refine ⟨ndCell x B cap ++ cs, ⟨B, cap, cs, rfl, hc, h1, hcs⟩, fun j u hu => ?_⟩
    rcases Nat.lt_or_ge j 8 with hj | hj
    · rw [List.getElem?_append_left (by rw [ndCell_len]; exact hj)] at hu
      obtain ⟨c0, c1, c2, c3, c4, c5, c6, c7⟩ := hn
      have hj' : j = 0 ∨ j = 1 ∨ j = 2 ∨ j = 3 ∨ j = 4 ∨ j = 5 ∨ j = 6 ∨ j = 7 := by omega
      rcases hj' with rfl | rfl | rfl | rfl | rfl | rfl | rfl | rfl
      all_goals
        have hu' := Option.some.inj hu
        subst hu'
        first | exact c0 | exact c1 | exact c2 | exact c3 | exact c4 | exact c5 | exact c6 | exact c7
    · rw [List.getElem?_append_right (by rw [ndCell_len]; exact hj), ndCell_len] at hu
      have := hg (j - 8) u hu
      rw [show o + 8 + (j - 8) = o + j by omega] at this
      exact this
theorem CellsAre.one {w : World} {P : Nat → Prop} : ∀ {l : List Nd} {cs : List Value}, CellsAre w P l cs → ∀ u ∈ cs, u.oneCell' = true
  | [], cs, h, u, hu => by have : cs = [] := h; subst this; cases hu
  | x :: l, cs, ⟨B, cap, rest, hcs, hc, ht, hr⟩, u, hu => by
    subst hcs
    rcases List.mem_append.1 hu with hu | hu
    · simp [ndCell] at hu
      rcases hu with rfl | rfl | rfl | rfl | rfl | rfl | rfl | rfl <;> rfl
    · exact hr.one u hu

set_option maxHeartbeats 1000000 in
theorem rof6_go (k : Int) (P : Nat → Prop) (A : Option Addr) (cap : Nat) (l : List Nd) (w : World) (hl : 0 < l.length) (hlen : l.length ≤ 100000) (ht : TreesAt w P (Trees.of l) A) :
    Calls Tryz.prog 57 #[.int .i64 k, .slice A l.length cap] w (Flatted (OrNew P w.heap.size) ⟨k, 0, Trees.of l, 0, 0⟩ w) := by
  obtain ⟨i0, hi, hz0, hz1, hz2⟩ := info_parts info_nd
  obtain ⟨b, o, rfl, _, hbl⟩ := ht.form (by rw [Trees.len_of]; exact hl)
  obtain ⟨cs, hcs, hg⟩ := (ht.weak (Q := fun b => P b ∧ b < w.heap.size) (fun b h1 h => ⟨h1, h⟩)).cells
  have hb0 : Below w.heap.size w ((w.alloc (.cells #[.int .i64 0, .int .u64 0, .int .u64 0, .int .u64 0, .int .u64 0, .slice none 0 0, .int .i64 0, .int .i64 0] 29)).alloc (.cells #[] 29)) := ((Below.refl _ _).alloc (Nat.le_refl _) _).alloc (by simp) _
  have hnews : ∀ j u, cs[j]? = some u → ((w.alloc (.cells #[.int .i64 0, .int .u64 0, .int .u64 0, .int .u64 0, .int .u64 0, .slice none 0 0, .int .i64 0, .int .i64 0] 29)).alloc (.cells #[] 29)).cell? ((⟨b, o, none⟩ : Addr).add j) = some u := fun j u hu => by
    rw [addr_plus7]
    exact (hb0.cell (p := ⟨b, o + j, none⟩) hbl).trans (hg j u hu)
  have hown : ((w.alloc (.cells #[.int .i64 0, .int .u64 0, .int .u64 0, .int .u64 0, .int .u64 0, .slice none 0 0, .int .i64 0, .int .i64 0] 29)).alloc (.cells #[] 29)).ownsRow (w.heap.size + 1) 29 8 (.slice (some ⟨w.heap.size + 1, 0, none⟩) 0 0) 0 [] := by
    have h := World.ownsRow_made (base := w.heap.size + 1) (size := 8) (e := 29) (w.alloc (.cells #[.int .i64 0, .int .u64 0, .int .u64 0, .int .u64 0, .int .u64 0, .slice none 0 0, .int .i64 0, .int .i64 0] 29)) #[] 0 (by simp) (by decide) rfl
    rw [World.size_alloc] at h
    exact h
  have HN := Lib.hid hnews
  have HO := Lib.hid hown
  have HC := Lib.hid hcs
  have h1 := hcs.one
  have hcl := hcs.length
  have HZ := Lib.hid ((Blk.new w 29 #[.int .i64 0, .int .u64 0, .int .u64 0, .int .u64 0, .int .u64 0, .slice none 0 0, .int .i64 0, .int .i64 0]).alloc (.cells #[] 29))
  have HB := Lib.hid hb0
  have H1 := Lib.hid h1
  have HCL := Lib.hid hcl
  have h63 : 0 + l.length ≤ maxLen := Nat.le_trans (by omega) (show 200000 ≤ maxLen by decide)
  have hby : (0 + l.length) * 80 ≤ 140737488355328 := by omega
  clear hnews hown hb0 hcs hg ht h1 hcl
  go_enter Tryz.func57, Tryz.ntmps57
  go_wp2_with (at_builtin; refine wpList_append_lies _ rfl _ _ 22 rfl (w.heap.size + 1) 29 i0 _ 8 80 Tryz.underlying22 hi hz0 hz1 hz2 rfl (by decide) (.slice (some ⟨w.heap.size + 1, 0, none⟩) 0 0) 0 [] rfl HO.out ⟨b, o, none⟩ l.length cap cs rfl HCL.out HN.out H1.out hl h63 hby (by simp) (w.heap.size + 2) (by simp) ?_; intro g capg w2 hown2 hgrow2 hat2 hg2; have hZ2 : Blk w2 w.heap.size 29 _ := HZ.out.grown hgrow2 (by simp [Value.ownBlock]); have y0 : w2.cell? ⟨w.heap.size, 0, none⟩ = some (.int .i64 0) := hZ2.cell 0; have y1 : w2.cell? ⟨w.heap.size, 1, none⟩ = some (.int .u64 0) := hZ2.cell 1; have y2 : w2.cell? ⟨w.heap.size, 2, none⟩ = some (.int .u64 0) := hZ2.cell 2; have y3 : w2.cell? ⟨w.heap.size, 3, none⟩ = some (.int .u64 0) := hZ2.cell 3; have y4 : w2.cell? ⟨w.heap.size, 4, none⟩ = some (.int .u64 0) := hZ2.cell 4; have y5 : w2.cell? ⟨w.heap.size, 5, none⟩ = some (.slice none 0 0) := hZ2.cell 5; have y6 : w2.cell? ⟨w.heap.size, 6, none⟩ = some (.int .i64 0) := hZ2.cell 6; have y7 : w2.cell? ⟨w.heap.size, 7, none⟩ = some (.int .i64 0) := hZ2.cell 7; have z0 := hZ2.frozen 0; have z1 := hZ2.frozen 1; have z2 := hZ2.frozen 2; have z3 := hZ2.frozen 3; have z4 := hZ2.frozen 4; have z5 := hZ2.frozen 5; have z6 := hZ2.frozen 6; have z7 := hZ2.frozen 7; have HZ2 := Lib.hid hZ2; have HO2 := Lib.hid hown2; have HG2 := Lib.hid hgrow2; clear hZ2 hown2 hgrow2 hat2)
  go_light
  have hlg := (HO2.out.lt g rfl).1
  have hB2 : Below w.heap.size w w2 := HB.out.grown HG2.out (by simp; omega) (fun k e => by simp [Value.ownBlock] at e; omega)
  have hB3 := below_put8 hB2 (Nat.le_refl _) (.int .i64 k) (.int .u64 0) (.int .u64 0) (.int .u64 0) (.int .u64 0) (.slice (some ⟨g, 0, none⟩) (0 + l.length) capg) (.int .i64 0) (.int .i64 0)
  have hO3 := HO2.out.kept (only_put8 w2 w.heap.size (.int .i64 k) (.int .u64 0) (.int .u64 0) (.int .u64 0) (.int .u64 0) (.slice (some ⟨g, 0, none⟩) (0 + l.length) capg) (.int .i64 0) (.int .i64 0)) (.inr (by simp [Value.ownBlock]; omega))
  rw [Nat.zero_add] at *
  have hC3 := CellsAre.keep (Q := OrNew P w.heap.size) (fun b o (hb : P b ∧ b < w.heap.size) _ => hB3.cell (p := ⟨b, o, none⟩) hb.2) (fun _ h _ => .inl h.1) HC.out
  obtain ⟨A', cap', hv, hc', ht'⟩ := trees_of hO3 hC3 (fun k e => .inr (by have := (hO3.lt k e).1; omega))
  obtain ⟨rfl, _, rfl⟩ := Value.slice.inj hv
  exact bodyPost_ret (ret_node Tryz.results57 rfl (HZ2.out.put8 _ _ _ _ _ _ _ _)) rfl ⟨_, _, by rw [ndV_plain, Trees.len_of], hB3, by rw [Trees.len_of]; exact hc', ht'⟩

end Go.Proofs.YtchfipjclbpomaaGreat
