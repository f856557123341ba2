/-
  The contract of the reference's Text.
-/
import Derived.Test.YtajohcknenngnaaGreatQRLexGo
import Derived.Test.YtajohcknenngnaaGreatQRSplit
namespace Go.Proofs.YtajohcknenngnaaGreat
open Go.RowKit
set_option linter.unusedSimpArgs false
set_option linter.unusedVariables false
set_option maxRecDepth 100000

set_option maxHeartbeats 4000000 in
theorem rtext_bad (A : Option Addr) (cap : Nat) (bs : List Nat) (w : World) (hA : BytesAt w w.heap.size A bs) (hcap : bs.length ≤ cap) {k q : Int} (hs : splitS bs = .error (k, q)) (hk : k ≠ 0) :
    Calls Tryz.prog 39 #[.slice A bs.length cap] w (TreeOut (parseS bs) w) := by
  have hd : (k != 0) = true := by rw [bne_iff_ne]; exact hk
  have HV := Lib.hid (show parseS bs = .error (k, q) by unfold parseS; rw [hs])
  have hb2 : Below w.heap.size w ((w.alloc (.cells #[.int .i64 0, .int .u64 0, .int .u64 0, .int .u64 0, .int .u64 0, .slice none 0 0, .int .i64 0, .int .i64 0] 39)).alloc (.cells #[.int .i64 0, .int .i64 0] 26)) := ((Below.refl _ _).alloc (Nat.le_refl _) _).alloc (by simp) _
  have HB2 := Lib.hid hb2
  have HG2 := Lib.hid (show Blk ((w.alloc (.cells #[.int .i64 0, .int .u64 0, .int .u64 0, .int .u64 0, .int .u64 0, .slice none 0 0, .int .i64 0, .int .i64 0] 39)).alloc (.cells #[.int .i64 0, .int .i64 0] 26)) w.heap.size 39 _ from (Blk.new w 39 #[.int .i64 0, .int .u64 0, .int .u64 0, .int .u64 0, .int .u64 0, .slice none 0 0, .int .i64 0, .int .i64 0]).alloc _)
  have HH2 := Lib.hid (show Blk ((w.alloc (.cells #[.int .i64 0, .int .u64 0, .int .u64 0, .int .u64 0, .int .u64 0, .slice none 0 0, .int .i64 0, .int .i64 0] 39)).alloc (.cells #[.int .i64 0, .int .i64 0] 26)) (w.heap.size + 1) 26 #[.int .i64 0, .int .i64 0] from Blk.new_at (by simp))
  have h1 := rsplit_go A cap bs _ ((hA.below hb2).more (by simp; omega)) hcap
  rw [hs] at h1
  have H1 := Lib.hid h1
  clear hb2 hA hs h1 hk
  go_enter Tryz.func39, Tryz.ntmps39
  go_wp2_with fail
  refine H1.out.mono ?_
  rintro e w3 ⟨rfl, hb3⟩
  have HB3 := Lib.hid (HB2.out.trans (hb3.mono HB2.out.size))
  have hG3 := HG2.out.below hb3 HG2.out.lt
  have hH3 := HH2.out.below hb3 HH2.out.lt
  have HG3 := Lib.hid hG3
  have HH3 := Lib.hid hH3
  have hlt1 : w.heap.size < w3.heap.size := hG3.lt
  have hlt2 : w.heap.size + 1 < w3.heap.size := hH3.lt
  have hne1 : w.heap.size ≠ w3.heap.size := by omega
  have hne2 : w.heap.size + 1 ≠ w3.heap.size := by omega
  have y0 : w3.cell? ⟨w.heap.size, 0, none⟩ = some (.int .i64 0) := hG3.cell 0
  have y1 : w3.cell? ⟨w.heap.size, 1, none⟩ = some (.int .u64 0) := hG3.cell 1
  have y2 : w3.cell? ⟨w.heap.size, 2, none⟩ = some (.int .u64 0) := hG3.cell 2
  have y3 : w3.cell? ⟨w.heap.size, 3, none⟩ = some (.int .u64 0) := hG3.cell 3
  have y4 : w3.cell? ⟨w.heap.size, 4, none⟩ = some (.int .u64 0) := hG3.cell 4
  have y5 : w3.cell? ⟨w.heap.size, 5, none⟩ = some (.slice none 0 0) := hG3.cell 5
  have y6 : w3.cell? ⟨w.heap.size, 6, none⟩ = some (.int .i64 0) := hG3.cell 6
  have y7 : w3.cell? ⟨w.heap.size, 7, none⟩ = some (.int .i64 0) := hG3.cell 7
  have z0 := hG3.frozen 0
  have z1 := hG3.frozen 1
  have z2 := hG3.frozen 2
  have z3 := hG3.frozen 3
  have z4 := hG3.frozen 4
  have z5 := hG3.frozen 5
  have z6 := hG3.frozen 6
  have z7 := hG3.frozen 7
  obtain ⟨b0, b1, f0, f1⟩ := hH3.c2
  clear hb3 hG3 hH3 H1 HB2 HG2 HH2
  dsimp only
  go_wp2
  go_region
  all_goals go_wp2
  all_goals go_light
  rw [HV.out]
  exact bodyPost_ret (ret_tree Tryz.results39 rfl rfl (((HG3.out.put8 _ _ _ _ _ _ _ _).far2 (by omega) _ _).alloc _).drew (((HH3.out.past8 (by omega) _ _ _ _ _ _ _ _).set2).alloc _).drew) rfl ⟨rfl, ((below_set2 (below_put8 HB3.out (Nat.le_refl _) _ _ _ _ _ _ _ _) (by omega) _ _).alloc (by have := HB3.out.size; simpa [World.setCell] using this) _).drew⟩

set_option maxHeartbeats 4000000 in
theorem rtext_many (A : Option Addr) (cap : Nat) (bs : List Nat) (w : World) (hA : BytesAt w w.heap.size A bs) (hcap : bs.length ≤ cap) {L : List Lex} (hs : splitS bs = .ok L) :
    Calls Tryz.prog 39 #[.slice A bs.length cap] w (TreeOut (parseS bs) w) := by
  have hV : parseS bs = lexemesS L := by unfold parseS; rw [hs]
  cases hx : lexemesS L with
  | error x =>
    obtain ⟨k, q⟩ := x
    have HV := Lib.hid (hV.trans hx)
    have HX := Lib.hid hx
    clear hV hx
    have hL65 := (splitS_right hA.1 hs).2.2
    have hb2 : Below w.heap.size w ((w.alloc (.cells #[.int .i64 0, .int .u64 0, .int .u64 0, .int .u64 0, .int .u64 0, .slice none 0 0, .int .i64 0, .int .i64 0] 39)).alloc (.cells #[.int .i64 0, .int .i64 0] 26)) := ((Below.refl _ _).alloc (Nat.le_refl _) _).alloc (by simp) _
    have HB2 := Lib.hid hb2
    have HG2 := Lib.hid (show Blk ((w.alloc (.cells #[.int .i64 0, .int .u64 0, .int .u64 0, .int .u64 0, .int .u64 0, .slice none 0 0, .int .i64 0, .int .i64 0] 39)).alloc (.cells #[.int .i64 0, .int .i64 0] 26)) w.heap.size 39 _ from (Blk.new w 39 #[.int .i64 0, .int .u64 0, .int .u64 0, .int .u64 0, .int .u64 0, .slice none 0 0, .int .i64 0, .int .i64 0]).alloc _)
    have HH2 := Lib.hid (show Blk ((w.alloc (.cells #[.int .i64 0, .int .u64 0, .int .u64 0, .int .u64 0, .int .u64 0, .slice none 0 0, .int .i64 0, .int .i64 0] 39)).alloc (.cells #[.int .i64 0, .int .i64 0] 26)) (w.heap.size + 1) 26 #[.int .i64 0, .int .i64 0] from Blk.new_at (by simp))
    have h1 := rsplit_go A cap bs _ ((hA.below hb2).more (by simp; omega)) hcap
    rw [hs] at h1
    have H1 := Lib.hid h1
    clear hb2 hA h1
    go_enter Tryz.func39, Tryz.ntmps39
    go_wp2_with fail
    refine H1.out.mono ?_
    rintro e w3 ⟨v, rfl, hb3, hrow3⟩
    obtain ⟨A3, cap3, rfl⟩ := own_slice hrow3
    have hb4 : Below w3.heap.size w3 (w3.alloc (.cells #[.int .i64 0, .int .i64 0] 26)) := (Below.refl _ _).alloc (Nat.le_refl _) _
    have HB4 := Lib.hid (HB2.out.trans ((hb3.trans (hb4.mono hb3.size)).mono HB2.out.size))
    have hG4 := (HG2.out.below hb3 HG2.out.lt).alloc (.cells #[.int .i64 0, .int .i64 0] 26)
    have hH4 := (HH2.out.below hb3 HH2.out.lt).alloc (.cells #[.int .i64 0, .int .i64 0] 26)
    have hc3 := own_room hrow3 rfl
    have HL4 := Lib.hid (((lexRow_of hrow3).at.below hb4).more hb4.size)
    have hsz4 : w.heap.size + 2 < (w3.alloc (.cells #[.int .i64 0, .int .i64 0] 26)).heap.size := by have := hb3.size; simp at this ⊢; omega
    have HG4 := Lib.hid hG4
    have HH4 := Lib.hid hH4
    clear hb3 hrow3 hb4 H1 HB2 HG2 HH2
    dsimp only
    skip
    have hP := rlexemes_go _ cap3 L _ HL4.out (by omega)
    rw [HX.out] at hP
    have HP := Lib.hid hP
    clear hP
    go_wp2_with fail
    refine HP.out.mono ?_
    rintro e w6 ⟨rfl, hb6⟩
    have hG6 := HG4.out.below hb6 HG4.out.lt
    have hH6 := HH4.out.below hb6 HH4.out.lt
    have HB6 := Lib.hid (HB4.out.trans (hb6.mono (by omega)))
    have y0 : w6.cell? ⟨w.heap.size, 0, none⟩ = some (.int .i64 0) := hG6.cell 0
    have y1 : w6.cell? ⟨w.heap.size, 1, none⟩ = some (.int .u64 0) := hG6.cell 1
    have y2 : w6.cell? ⟨w.heap.size, 2, none⟩ = some (.int .u64 0) := hG6.cell 2
    have y3 : w6.cell? ⟨w.heap.size, 3, none⟩ = some (.int .u64 0) := hG6.cell 3
    have y4 : w6.cell? ⟨w.heap.size, 4, none⟩ = some (.int .u64 0) := hG6.cell 4
    have y5 : w6.cell? ⟨w.heap.size, 5, none⟩ = some (.slice none 0 0) := hG6.cell 5
    have y6 : w6.cell? ⟨w.heap.size, 6, none⟩ = some (.int .i64 0) := hG6.cell 6
    have y7 : w6.cell? ⟨w.heap.size, 7, none⟩ = some (.int .i64 0) := hG6.cell 7
    have z0 := hG6.frozen 0
    have z1 := hG6.frozen 1
    have z2 := hG6.frozen 2
    have z3 := hG6.frozen 3
    have z4 := hG6.frozen 4
    have z5 := hG6.frozen 5
    have z6 := hG6.frozen 6
    have z7 := hG6.frozen 7
    obtain ⟨b0, b1, f0, f1⟩ := hH6.c2
    have HG6 := Lib.hid hG6
    have HH6 := Lib.hid hH6
    clear hb6 hG6 hH6 HP HG4 HH4 HB4 hG4 hH4
    unfold zeroN
    dsimp only
    go_wp2
    go_light
    rw [HV.out]
    exact bodyPost_ret (ret_tree Tryz.results39 rfl rfl ((HG6.out.put8 _ _ _ _ _ _ _ _).far2 (by omega) _ _) ((HH6.out.past8 (by omega) _ _ _ _ _ _ _ _).set2)) rfl ⟨rfl, below_set2 (below_put8 HB6.out (Nat.le_refl _) _ _ _ _ _ _ _ _) (by omega) _ _⟩
  | ok x =>
    have HV := Lib.hid (hV.trans hx)
    have HX := Lib.hid hx
    clear hV hx
    have hL65 := (splitS_right hA.1 hs).2.2
    have hb2 : Below w.heap.size w ((w.alloc (.cells #[.int .i64 0, .int .u64 0, .int .u64 0, .int .u64 0, .int .u64 0, .slice none 0 0, .int .i64 0, .int .i64 0] 39)).alloc (.cells #[.int .i64 0, .int .i64 0] 26)) := ((Below.refl _ _).alloc (Nat.le_refl _) _).alloc (by simp) _
    have HB2 := Lib.hid hb2
    have HG2 := Lib.hid (show Blk ((w.alloc (.cells #[.int .i64 0, .int .u64 0, .int .u64 0, .int .u64 0, .int .u64 0, .slice none 0 0, .int .i64 0, .int .i64 0] 39)).alloc (.cells #[.int .i64 0, .int .i64 0] 26)) w.heap.size 39 _ from (Blk.new w 39 #[.int .i64 0, .int .u64 0, .int .u64 0, .int .u64 0, .int .u64 0, .slice none 0 0, .int .i64 0, .int .i64 0]).alloc _)
    have HH2 := Lib.hid (show Blk ((w.alloc (.cells #[.int .i64 0, .int .u64 0, .int .u64 0, .int .u64 0, .int .u64 0, .slice none 0 0, .int .i64 0, .int .i64 0] 39)).alloc (.cells #[.int .i64 0, .int .i64 0] 26)) (w.heap.size + 1) 26 #[.int .i64 0, .int .i64 0] from Blk.new_at (by simp))
    have h1 := rsplit_go A cap bs _ ((hA.below hb2).more (by simp; omega)) hcap
    rw [hs] at h1
    have H1 := Lib.hid h1
    clear hb2 hA h1
    go_enter Tryz.func39, Tryz.ntmps39
    go_wp2_with fail
    refine H1.out.mono ?_
    rintro e w3 ⟨v, rfl, hb3, hrow3⟩
    obtain ⟨A3, cap3, rfl⟩ := own_slice hrow3
    have hb4 : Below w3.heap.size w3 (w3.alloc (.cells #[.int .i64 0, .int .i64 0] 26)) := (Below.refl _ _).alloc (Nat.le_refl _) _
    have HB4 := Lib.hid (HB2.out.trans ((hb3.trans (hb4.mono hb3.size)).mono HB2.out.size))
    have hG4 := (HG2.out.below hb3 HG2.out.lt).alloc (.cells #[.int .i64 0, .int .i64 0] 26)
    have hH4 := (HH2.out.below hb3 HH2.out.lt).alloc (.cells #[.int .i64 0, .int .i64 0] 26)
    have hc3 := own_room hrow3 rfl
    have HL4 := Lib.hid (((lexRow_of hrow3).at.below hb4).more hb4.size)
    have hsz4 : w.heap.size + 2 < (w3.alloc (.cells #[.int .i64 0, .int .i64 0] 26)).heap.size := by have := hb3.size; simp at this ⊢; omega
    have HG4 := Lib.hid hG4
    have HH4 := Lib.hid hH4
    clear hb3 hrow3 hb4 H1 HB2 HG2 HH2
    dsimp only
    skip
    have hP := rlexemes_go _ cap3 L _ HL4.out (by omega)
    rw [HX.out] at hP
    have HP := Lib.hid hP
    clear hP
    go_wp2_with fail
    refine HP.out.mono ?_
    rintro e w6 ⟨B, cap6, rfl, hb6, hc6, ht6⟩
    have hG6 := HG4.out.below hb6 HG4.out.lt
    have hH6 := HH4.out.below hb6 HH4.out.lt
    have HB6 := Lib.hid (HB4.out.trans (hb6.mono (by omega)))
    have HT6 := Lib.hid (ht6.weak (Q := fun b => w.heap.size + 2 ≤ b) (fun b hb _ => by omega))
    have y0 : w6.cell? ⟨w.heap.size, 0, none⟩ = some (.int .i64 0) := hG6.cell 0
    have y1 : w6.cell? ⟨w.heap.size, 1, none⟩ = some (.int .u64 0) := hG6.cell 1
    have y2 : w6.cell? ⟨w.heap.size, 2, none⟩ = some (.int .u64 0) := hG6.cell 2
    have y3 : w6.cell? ⟨w.heap.size, 3, none⟩ = some (.int .u64 0) := hG6.cell 3
    have y4 : w6.cell? ⟨w.heap.size, 4, none⟩ = some (.int .u64 0) := hG6.cell 4
    have y5 : w6.cell? ⟨w.heap.size, 5, none⟩ = some (.slice none 0 0) := hG6.cell 5
    have y6 : w6.cell? ⟨w.heap.size, 6, none⟩ = some (.int .i64 0) := hG6.cell 6
    have y7 : w6.cell? ⟨w.heap.size, 7, none⟩ = some (.int .i64 0) := hG6.cell 7
    have z0 := hG6.frozen 0
    have z1 := hG6.frozen 1
    have z2 := hG6.frozen 2
    have z3 := hG6.frozen 3
    have z4 := hG6.frozen 4
    have z5 := hG6.frozen 5
    have z6 := hG6.frozen 6
    have z7 := hG6.frozen 7
    obtain ⟨b0, b1, f0, f1⟩ := hH6.c2
    have HG6 := Lib.hid hG6
    have HH6 := Lib.hid hH6
    clear hb6 ht6 hG6 hH6 HP HG4 HH4 HB4 hG4 hH4
    unfold ndV
    dsimp only
    go_wp2
    go_light
    have hF := laid (x := x) (B := B) (cap := cap6) (k := 0) (q := 0) HG6.out HH6.out HB6.out HT6.out rfl
    rw [HV.out]
    exact bodyPost_ret (ret_tree Tryz.results39 rfl rfl hF.1 hF.2.1) rfl ⟨B, cap6, rfl, hF.2.2.1, hc6, hF.2.2.2⟩

theorem rtext_go07 (A : Option Addr) (cap : Nat) (bs : List Nat) (w : World) (hA : BytesAt w w.heap.size A bs) (hcap : bs.length ≤ cap) :
    Calls Tryz.prog 39 #[.slice A bs.length cap] w (TreeOut (parseS bs) w) := by
  cases hs : splitS bs with
  | error x =>
    obtain ⟨k, q⟩ := x
    exact rtext_bad A cap bs w hA hcap hs (splitS_kind hA.1 hs)
  | ok L => exact rtext_many A cap bs w hA hcap hs

end Go.Proofs.YtajohcknenngnaaGreat
