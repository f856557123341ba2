/-
  The walk of ShowShort: the text of what a text says is short.
-/
import Derived.Test.YtffkppoidollnaaDoorQShowBk
import Derived.Test.YtffkppoidollnaaDoorQShortB
import Derived.Test.YtffkppoidollnaaDoorQParseK
namespace Go.Proofs.YtffkppoidollnaaDoor
open Go.RowKit
set_option linter.unusedSimpArgs false
set_option linter.unusedVariables false
set_option maxRecDepth 100000

set_option maxHeartbeats 8000000 in
theorem short_go (A : Option Addr) (cb : Nat) (bs : List Nat) (w : World) (hA : BytesAt w w.heap.size A bs) (hcap : bs.length ≤ cb) (hT : TabAt 0 Lib.deBruijn64tab w) (hw0 : 0 < w.heap.size) :
    Calls Tryd.prog 3 #[.slice A bs.length cb] w fun e w' => e = .returned (.bool true) ∧ Below w.heap.size w w' := by
  have H5 := Lib.hid (fun (w1 : World) (hb : Below w.heap.size w w1) => knows08_go w1 (TabAt.below hb hw0 hT) (Nat.lt_of_lt_of_le hw0 hb.size))
  have H6 := Lib.hid (fun (w1 : World) (hb : Below w.heap.size w w1) (x : Nd) (B : Option Addr) (cap : Nat) (hs : x.size ≤ 4096) (ht : TreesAt w1 (fun b => b < w1.heap.size) x.kids B) => stext_go x B cap w1 (by omega) ht (TabAt.below hb hw0 hT) (Nat.lt_of_lt_of_le hw0 hb.size))
  have HAw := Lib.hid (fun (w1 : World) (hb : Below w.heap.size w w1) => (hA.below hb).more hb.size)
  have HS := Lib.hid (fun (w1 : World) (hb : Below w.heap.size w w1) => split_go A cb bs w1 (HAw.out w1 hb) hcap)
  have HP := Lib.hid (text_go07 A cb bs w hA hcap)
  have HBY := Lib.hid hA.1
  cases hp : parseS bs with
  | error x =>
    obtain ⟨k, q⟩ := x
    rw [hp] at HP
    have hkn : (k != 0) = true := by have := parseS_kindK HBY.out hp; simpa using this
    clear hp hA hcap hT hw0
    go_enter Tryd.func3, Tryd.ntmps3
    go_wp2_with fail
    refine HP.out.mono ?_
    rintro e w1 ⟨rfl, hb1⟩
    have hb2 : Below w1.heap.size w1 ((w1.alloc (.cells #[.int .i64 0, .int .u64 0, .int .u64 0, .int .u64 0, .int .u64 0, .slice none 0 0, .int .i64 0, .int .i64 0] 29)).alloc (.cells #[.int .i64 k, .int .i64 q] 32)) := ((Below.refl _ _).alloc (Nat.le_refl _) _).alloc (by simp) _
    have HB2 := Lib.hid (hb1.trans (hb2.mono hb1.size))
    clear hb1 hb2 HP
    unfold zeroN
    dsimp only
    go_wp2_with fail
    refine (H5.out _ HB2.out).mono ?_
    rintro e w6 ⟨rfl, hb6⟩
    have HB6 := Lib.hid (HB2.out.trans (hb6.mono HB2.out.size))
    clear hb6
    dsimp only
    go_wp2
    go_light
    go_ret
    exact ⟨rfl, HB6.out⟩
  | ok x =>
    rw [hp] at HP
    obtain ⟨L, hL, hsaid, hlen, hcase⟩ := short_law HBY.out hp
    have hxs : x.size ≤ 4096 := Nat.le_trans (parseS_size hp) (by decide)
    rw [hL] at HS
    clear hA hcap hT hw0 hL hp
    have HXS := Lib.hid hxs
    have HSD := Lib.hid hsaid
    have HLN := Lib.hid hlen
    have HCS := Lib.hid hcase
    clear hxs hsaid hlen hcase
    go_enter Tryd.func3, Tryd.ntmps3
    go_wp2_with fail
    refine HP.out.mono ?_
    rintro e w1 ⟨B, cap, rfl, hb1, hc1, ht1⟩
    have hb2 : Below w1.heap.size w1 ((w1.alloc (.cells (ndA x B cap) 29)).alloc (.cells #[.int .i64 0, .int .i64 0] 32)) := ((Below.refl _ _).alloc (Nat.le_refl _) _).alloc (by simp) _
    have HB2 := Lib.hid (hb1.trans (hb2.mono hb1.size))
    have hX2 := (Blk.new w1 29 (ndA x B cap)).alloc (.cells #[.int .i64 0, .int .i64 0] 32)
    have ht2 := (ht1.below hb2).weak (Q := fun b => b < ((w1.alloc (.cells (ndA x B cap) 29)).alloc (.cells #[.int .i64 0, .int .i64 0] 32)).heap.size) (fun b _ h => h)
    have HC := Lib.hid (H6.out _ HB2.out x B cap HXS.out ht2)
    have HX2 := Lib.hid hX2
    have HT2 := Lib.hid ht2
    clear hb1 hb2 hc1 ht1 hX2 ht2 HP
    unfold ndV at HC ⊢
    unfold ndA at *
    dsimp only
    go_wp2_with fail
    refine HC.out.mono ?_
    rintro e w3 ⟨rfl, hb3⟩
    have HB3 := Lib.hid (HB2.out.trans (hb3.mono HB2.out.size))
    have HX3 := Lib.hid (HX2.out.below hb3 HX2.out.lt)
    have HT3 := Lib.hid (HT2.out.below hb3)
    rcases HCS.out with ⟨hv, hlong⟩ | ⟨hv, M, hM, hMl⟩
    · rw [hv]
      have hd : decide ((1000 : Int) < (bs.length : Int)) = true := by simp; omega
      clear hb3 HC hv HX2 HT2 HB2 HCS hlong
      unfold txtV
      dsimp only
      go_wp2_with fail
      refine (H5.out _ HB3.out).mono ?_
      rintro e w6 ⟨rfl, hb6⟩
      have HB6 := Lib.hid (HB3.out.trans (hb6.mono HB3.out.size))
      clear hb6
      dsimp only
      go_wp2
      go_light
      go_ret
      exact ⟨rfl, HB6.out⟩
    · have HJ := Lib.hid (parse_show hv)
      rw [hv]
      have hJ := HJ.out
      rw [HSD.out] at hJ
      obtain ⟨hp2, htb, htl, hr⟩ := hJ
      have hV2 : txtV (showT x) = .tuple #[.string (strOf (joinS x.write)), .int .i64 0] := by rw [hv]; rfl
      have HV2 := Lib.hid hV2
      have HMl := Lib.hid hMl
      have HM := Lib.hid hM
      clear hv hM hMl HCS HJ hV2
      generalize joinS x.write = t at *
      obtain ⟨C, W2, hconv, hbt, hbel, hC⟩ := conv_text w3 t htb (by omega)
      have hpt := text_go07 (some ⟨w3.heap.size, 0, none⟩) C t W2 hbt hC
      rw [hp2] at hpt
      have HPT := Lib.hid hpt
      have HX4 := Lib.hid (HX3.out.below hbel HX3.out.lt)
      have HB4 := Lib.hid (HB3.out.trans (hbel.mono HB3.out.size))
      have HT4 := Lib.hid (HT3.out.below hbel)
      have HTB := Lib.hid htb
      have HTL := Lib.hid htl
      clear hb3 hp2 htb htl hr hbt hbel hC hpt HX3 HB3 HX2 HT2 HT3 HB2 HC
      unfold txtV
      dsimp only
      go_wp2_with fail
      clear hconv
      refine HPT.out.mono ?_
      rintro e w5 ⟨B5, cap5, rfl, hb5, hc5, ht5⟩
      have hb6 : Below w5.heap.size w5 ((w5.alloc (.cells (ndA x B5 cap5) 29)).alloc (.cells #[.int .i64 0, .int .i64 0] 32)) := ((Below.refl _ _).alloc (Nat.le_refl _) _).alloc (by simp) _
      have HB6 := Lib.hid ((HB4.out.trans (hb5.mono HB4.out.size)).trans (hb6.mono (by have := HB4.out.size; have := hb5.size; omega)))
      have hX5 := HX4.out.below hb5 HX4.out.lt
      have HX6 := Lib.hid (hX5.below hb6 hX5.lt)
      have HY6 := Lib.hid ((Blk.new w5 29 (ndA x B5 cap5)).alloc (.cells #[.int .i64 0, .int .i64 0] 32))
      have HZ6 := Lib.hid (show Blk ((w5.alloc (.cells (ndA x B5 cap5) 29)).alloc (.cells #[.int .i64 0, .int .i64 0] 32)) (w5.heap.size + 1) 32 #[.int .i64 0, .int .i64 0] from Blk.new_at (by simp))
      have HT6 := Lib.hid ((HT4.out.below hb5).below hb6)
      have HU6 := Lib.hid ((ht5.below hb6).weak (Q := fun b => b < ((w5.alloc (.cells (ndA x B5 cap5) 29)).alloc (.cells #[.int .i64 0, .int .i64 0] 32)).heap.size) (fun b _ h => h))
      have HC2 := H6.out _ HB6.out x B5 cap5 HXS.out HU6.out
      rw [HV2.out] at HC2
      have HC := Lib.hid HC2
      clear hb5 hc5 ht5 hb6 hX5 HX4 HB4 HT4 HPT HC2
      unfold ndV at HC ⊢
      unfold ndA at *
      dsimp only
      go_upto_region 8 with fail
      generalize ((w5.alloc (.cells #[.int .i64 x.kind, .int .u64 ((word (x.set.testBit) 0 : Nat) : Int), .int .u64 ((word (x.set.testBit) 1 : Nat) : Int), .int .u64 ((word (x.set.testBit) 2 : Nat) : Int), .int .u64 ((word (x.set.testBit) 3 : Nat) : Int), .slice B5 x.kids.len cap5, .int .i64 x.lo, .int .i64 x.hi] 29)).alloc (.cells #[.int .i64 0, .int .i64 0] 32)) = w6 at *
      have x0 := HX6.out.cell 0
      have y0 := HY6.out.cell 0
      have y1 := HY6.out.cell 1
      have y2 := HY6.out.cell 2
      have y3 := HY6.out.cell 3
      have y4 := HY6.out.cell 4
      have y5 := HY6.out.cell 5
      have y6 := HY6.out.cell 6
      have y7 := HY6.out.cell 7
      have hly := HY6.out.lt
      simp only [List.getElem?_toArray, List.getElem?_cons_zero, List.getElem?_cons_succ] at x0 y0 y1 y2 y3 y4 y5 y6 y7
      clear x0
      go_wp2_with fail
      refine HC.out.mono ?_
      rintro e w7 ⟨rfl, hb7⟩
      have HX7 := Lib.hid (HX6.out.below hb7 HX6.out.lt)
      have HY7 := Lib.hid (HY6.out.below hb7 HY6.out.lt)
      have HZ7 := Lib.hid (HZ6.out.below hb7 HZ6.out.lt)
      have HT7 := Lib.hid (HT6.out.below hb7)
      have HU7 := Lib.hid (HU6.out.below hb7)
      have HB7 := Lib.hid (HB6.out.trans (hb7.mono HB6.out.size))
      have HC := Lib.hid (HS.out w7 HB7.out)
      clear hb7 HX6 HY6 HZ6 HT6 HU6 HB6 y0 y1 y2 y3 y4 y5 y6 y7 hly HV2 H6
      dsimp only
      go_wp2_with fail
      refine HC.out.mono ?_
      rintro e w8 ⟨v8, rfl, hb8, ho8⟩
      obtain ⟨A8, c8, rfl⟩ := own_slice ho8
      have hbx : Below w8.heap.size w8 (w8.alloc (.cells #[.int .i64 0, .int .i64 0] 32)) := (Below.refl _ _).alloc (Nat.le_refl _) _
      have hX8 := HX7.out.below hb8 HX7.out.lt
      have hY8 := HY7.out.below hb8 HY7.out.lt
      have hZ8 := HZ7.out.below hb8 HZ7.out.lt
      have HX9 := Lib.hid (hX8.below hbx hX8.lt)
      have HY9 := Lib.hid (hY8.below hbx hY8.lt)
      have HZ9 := Lib.hid (hZ8.below hbx hZ8.lt)
      have HT9 := Lib.hid ((HT7.out.below hb8).below hbx)
      have HU9 := Lib.hid ((HU7.out.below hb8).below hbx)
      have HB9 := Lib.hid ((HB7.out.trans (hb8.mono HB7.out.size)).trans (hbx.mono (by have := HB7.out.size; have := hb8.size; omega)))
      clear hb8 ho8 hbx hX8 hY8 hZ8 HX7 HY7 HZ7 HT7 HU7 HB7 HS HC
      dsimp only
      go_upto_region 10 with fail
      generalize w8.alloc (.cells #[.int .i64 0, .int .i64 0] 32) = w9 at *
      obtain ⟨C2, W3, hconv, hbt, hbel, hC2⟩ := conv_text w9 t HTB.out (by have := HTL.out; omega)
      have hst := split_go (some ⟨w9.heap.size, 0, none⟩) C2 t W3 hbt hC2
      rw [HM.out] at hst
      have HC := Lib.hid hst
      have HX10 := Lib.hid (HX9.out.below hbel HX9.out.lt)
      have HY10 := Lib.hid (HY9.out.below hbel HY9.out.lt)
      have HZ10 := Lib.hid (HZ9.out.below hbel HZ9.out.lt)
      have HT10 := Lib.hid (HT9.out.below hbel)
      have HU10 := Lib.hid (HU9.out.below hbel)
      have HB10 := Lib.hid (HB9.out.trans (hbel.mono HB9.out.size))
      clear hbt hbel hC2 hst HX9 HY9 HZ9 HT9 HU9 HB9
      go_wp2_with fail
      clear hconv
      refine HC.out.mono ?_
      rintro e w11 ⟨v11, rfl, hb11, ho11⟩
      obtain ⟨A11, c11, rfl⟩ := own_slice ho11
      have hbx : Below w11.heap.size w11 (w11.alloc (.cells #[.int .i64 0, .int .i64 0] 32)) := (Below.refl _ _).alloc (Nat.le_refl _) _
      have hX11 := HX10.out.below hb11 HX10.out.lt
      have hY11 := HY10.out.below hb11 HY10.out.lt
      have hZ11 := HZ10.out.below hb11 HZ10.out.lt
      have HX12 := Lib.hid (hX11.below hbx hX11.lt)
      have HY12 := Lib.hid (hY11.below hbx hY11.lt)
      have HZ12 := Lib.hid (hZ11.below hbx hZ11.lt)
      have HT12 := Lib.hid ((HT10.out.below hb11).below hbx)
      have HU12 := Lib.hid ((HU10.out.below hb11).below hbx)
      have HB12 := Lib.hid ((HB10.out.trans (hb11.mono HB10.out.size)).trans (hbx.mono (by have := HB10.out.size; have := hb11.size; omega)))
      have hle : (M.length : Int) ≤ (L.length : Int) := by have := HMl.out; have := HLN.out; omega
      clear hb11 ho11 hbx hX11 hY11 hZ11 HX10 HY10 HZ10 HT10 HU10 HB10 HC
      dsimp only
      go_upto_region 11 with fail
      generalize w11.alloc (.cells #[.int .i64 0, .int .i64 0] 32) = w12 at *
      have x0 := HX12.out.cell 0
      have x1 := HX12.out.cell 1
      have x2 := HX12.out.cell 2
      have x3 := HX12.out.cell 3
      have x4 := HX12.out.cell 4
      have x5 := HX12.out.cell 5
      have x6 := HX12.out.cell 6
      have x7 := HX12.out.cell 7
      have hlx := HX12.out.lt
      have y0 := HY12.out.cell 0
      have y1 := HY12.out.cell 1
      have y2 := HY12.out.cell 2
      have y3 := HY12.out.cell 3
      have y4 := HY12.out.cell 4
      have y5 := HY12.out.cell 5
      have y6 := HY12.out.cell 6
      have y7 := HY12.out.cell 7
      have hly := HY12.out.lt
      have z0 := HZ12.out.cell 0
      have hlz := HZ12.out.lt
      simp only [List.getElem?_toArray, List.getElem?_cons_zero, List.getElem?_cons_succ] at x0 x1 x2 x3 x4 x5 x6 x7 y0 y1 y2 y3 y4 y5 y6 y7 z0
      have HSm := tsame_go x _ _ B B5 cap cap5 w12 (by have := HXS.out; omega) HT12.out HU12.out
      have HC := Lib.hid HSm
      clear HSm
      unfold ndV at HC
      go_wp2_with fail
      refine HC.out.mono ?_
      rintro e w13 ⟨rfl, hb13⟩
      have HB13 := Lib.hid (HB12.out.trans (hb13.mono HB12.out.size))
      clear hb13 x0 x1 x2 x3 x4 x5 x6 x7 y0 y1 y2 y3 y4 y5 y6 y7 z0 hlx hly hlz
      dsimp only
      go_wp2_with fail
      refine (H5.out _ HB13.out).mono ?_
      rintro e w6 ⟨rfl, hb6⟩
      have HB6 := Lib.hid (HB13.out.trans (hb6.mono HB13.out.size))
      clear hb6
      dsimp only
      go_wp2
      go_light
      go_ret
      exact ⟨rfl, HB6.out⟩
end Go.Proofs.YtffkppoidollnaaDoor
