/- Texts of the claim. -/
import Derived.Test.YtofbfafnpdaejaaGreatDoorKZ07
import Derived.Test.YtofbfafnpdaejaaGreatDoorKZ04
import Derived.Test.YtofbfafnpdaejaaGreatDoorKMatSl
namespace Go.Proofs.YtofbfafnpdaejaaGreatDoor
open Go.RowKit
set_option linter.unusedSimpArgs false
set_option linter.unusedVariables false
set_option maxRecDepth 100000
set_option maxHeartbeats 8000000
theorem bytes_atS {w w' : World} {A : Option Addr} {bs : List Nat} (h : BytesAt w w.heap.size A bs) (hb : Below w.heap.size w w') : BytesAt w' w'.heap.size A bs := (h.below hb).more hb.size
theorem trees_atS {w w' : World} {F : Trees} {B : Option Addr} (h : TreesAt w (fun b => b < w.heap.size) F B) (hb : Below w.heap.size w w') : TreesAt w' (fun b => b < w'.heap.size) F B := (h.below hb).weak (fun b h _ => Nat.lt_of_lt_of_le h hb.size)
theorem tell_is {N : NfaV} {u : List Nat} {L R : List Int} {x : Int} (h1 : RunOf N u L) (h2 : IsLabels N L R) (h3 : TellOf N u x) : x = R.headD 0 := tell_one h3 ⟨L, R, h1, h2, rfl⟩
theorem csaid_err (F : Trees) (B : Option Addr) (cap : Nat) (A : Option Addr) (cv : Nat) (bs : List Nat) (w : World) (hl : F.len ≤ 140737488355328) (hs : ∀ z ∈ F.list, z.size ≤ 4611686018427387903) (ht : TreesAt w (fun b => b < w.heap.size) F B) (hA : BytesAt w w.heap.size A bs) (hcv : bs.length ≤ cv) (hT : TabAt 0 Lib.deBruijn64tab w) (hw0 : 0 < w.heap.size) {k : Int} (h : ofS F.list = .error k) : Calls Tryz.prog 8 #[.slice B F.len cap, .slice A bs.length cv] w fun e w' => e = .returned (.bool true) ∧ Below w.heap.size w w' := by
 have hof := nof_go F B cap w hl hs ht
 have hk := ofS_badC h
 rw [h] at hof
 have HO := Lib.hid hof
 have HT := Lib.hid hT
 have hne : (k != 0) = true := by rw [bne_iff_ne]; exact hk
 have hnd : decide (k = 0) = false := by rw [decide_eq_false_iff_not]; exact hk
 clear hof ht hs h hk hT hA
 go_enter Tryz.func8, Tryz.ntmps8
 go_wp2_with fail
 refine HO.out.mono ?_
 rintro e w1 ⟨hb1, rfl⟩
 have hbw3 := hb1.alloc hb1.size (.cells #[.int .i64 0, .int .i64 0, .slice none 0 0, .slice none 0 0, .slice none 0 0] 40)
 clear hb1 HO
 dsimp only
 go_upto_region 2 with fail
 generalize w1.alloc (.cells #[.int .i64 0, .int .i64 0, .slice none 0 0, .slice none 0 0, .slice none 0 0] 40) = w3 at *
 have HKn := Lib.hid (knows17_go w3 (TabAt.below hbw3 hw0 HT.out) (by have := (hbw3).size; omega))
 go_wp2_with fail
 refine HKn.out.mono ?_
 rintro e w9 ⟨rfl, hb9⟩
 have HB9 := Lib.hid ((hbw3).trans (hb9.mono (by have := (hbw3).size; omega)))
 clear hb9 HKn
 dsimp only
 go_wp2
 go_light
 go_ret
 exact ⟨rfl, HB9.out⟩
theorem csaid_far (F : Trees) (B : Option Addr) (cap : Nat) (A : Option Addr) (cv : Nat) (bs : List Nat) (w : World) (hl : F.len ≤ 140737488355328) (hs : ∀ z ∈ F.list, z.size ≤ 4611686018427387903) (ht : TreesAt w (fun b => b < w.heap.size) F B) (hA : BytesAt w w.heap.size A bs) (hcv : bs.length ≤ cv) (hT : TabAt 0 Lib.deBruijn64tab w) (hw0 : 0 < w.heap.size) {m : MachS} (h : ofS F.list = .ok m) (hfar : 1000 < m.states ∨ 60 < bs.length) : Calls Tryz.prog 8 #[.slice B F.len cap, .slice A bs.length cv] w fun e w' => e = .returned (.bool true) ∧ Below w.heap.size w w' := by
 have hof := nof_go F B cap w hl hs ht
 obtain ⟨hm, hra, hsz, h64⟩ := ofS_okC h
 rw [h] at hof
 have HO := Lib.hid hof
 have HRT := Lib.hid (mach_rightC hra hsz h64)
 have HFIT := Lib.hid (mach_fits hra hsz).1
 have HFEW := Lib.hid (fun h1 => mach_few (l := F.list) hra h1)
 have HSAY := Lib.hid (fun (L R : List Int) (hb60 : bs.length ≤ 60) (hL : RunOf (machS F.list).toV bs L) (hR : IsLabels (machS F.list).toV L R) => labels_are (p := fun z => fullB z bs) hra (fun x hx => full_says (hra x hx) (by omega)) hL hR)
 rw [← hm] at HRT HFIT HFEW HSAY
 have HS := Lib.hid hs
 have HT := Lib.hid hT
 have HA := Lib.hid hA
 have HTr := Lib.hid ht
 clear hof hra hsz hm hs hT hA ht h
 go_enter Tryz.func8, Tryz.ntmps8
 go_wp2_with fail
 refine HO.out.mono ?_
 rintro e w1 ⟨hb1, L, E, Ac, rfl, hR⟩
 obtain ⟨A1, k1, rfl, hk1⟩ := own_len_cap hR.l
 obtain ⟨A2, k2, rfl, hk2⟩ := own_len_cap hR.e
 obtain ⟨A3, k3, rfl, hk3⟩ := own_len_cap hR.a
 have hA1 := hR.nfaAt HFIT.out
 have hba : Below w1.heap.size w1 (w1.alloc (.cells #[.int .i64 (m.states : Int), .int .i64 0, .slice A1 m.links.length k1, .slice A2 m.edges.length k2, .slice A3 m.accept.length k3] 40)) := (Below.refl _ _).alloc (Nat.le_refl _) _
 have HN := Lib.hid (hA1.below hba)
 have HX := Lib.hid (Blk.new w1 40 #[.int .i64 (m.states : Int), .int .i64 0, .slice A1 m.links.length k1, .slice A2 m.edges.length k2, .slice A3 m.accept.length k3])
 have hB := hb1.trans (hba.mono hb1.size)
 have HB := Lib.hid hB
 clear hb1 hR hA1 hba HO hB
 dsimp only
 obtain ⟨x0, x1, x2, x3, x4⟩ := HX.out.c5
 have hlx := HX.out.lt
 have hbw3 := HB.out
 by_cases h1 : 1000 < m.states
 ·have hd : (1000 : Int) < (m.states : Int) := by omega
  clear hfar HN HX HSAY HS HTr HFIT HFEW HRT HA
  go_upto_region 3 with fail
  generalize w1.alloc (.cells #[.int .i64 (m.states : Int), .int .i64 0, .slice A1 m.links.length k1, .slice A2 m.edges.length k2, .slice A3 m.accept.length k3] 40) = w3 at *
  have HKn := Lib.hid (knows17_go w3 (TabAt.below hbw3 hw0 HT.out) (by have := (hbw3).size; omega))
  go_wp2_with fail
  refine HKn.out.mono ?_
  rintro e w9 ⟨rfl, hb9⟩
  have HB9 := Lib.hid ((hbw3).trans (hb9.mono (by have := (hbw3).size; omega)))
  clear hb9 HKn
  dsimp only
  go_wp2
  go_light
  go_ret
  exact ⟨rfl, HB9.out⟩
 ·have hd1 : decide ((1000 : Int) < (m.states : Int)) = false := by rw [decide_eq_false_iff_not]; omega
  have hd : (60 : Int) < (bs.length : Int) := by omega
  clear hfar HN HX HSAY HS HTr HFIT HFEW HRT HA
  go_upto_region 3 with fail
  generalize w1.alloc (.cells #[.int .i64 (m.states : Int), .int .i64 0, .slice A1 m.links.length k1, .slice A2 m.edges.length k2, .slice A3 m.accept.length k3] 40) = w3 at *
  have HKn := Lib.hid (knows17_go w3 (TabAt.below hbw3 hw0 HT.out) (by have := (hbw3).size; omega))
  go_wp2_with fail
  refine HKn.out.mono ?_
  rintro e w9 ⟨rfl, hb9⟩
  have HB9 := Lib.hid ((hbw3).trans (hb9.mono (by have := (hbw3).size; omega)))
  clear hb9 HKn
  dsimp only
  go_wp2
  go_light
  go_ret
  exact ⟨rfl, HB9.out⟩
theorem csaid_near (F : Trees) (B : Option Addr) (cap : Nat) (A : Option Addr) (cv : Nat) (bs : List Nat) (w : World) (hl : F.len ≤ 140737488355328) (hs : ∀ z ∈ F.list, z.size ≤ 4611686018427387903) (ht : TreesAt w (fun b => b < w.heap.size) F B) (hA : BytesAt w w.heap.size A bs) (hcv : bs.length ≤ cv) (hT : TabAt 0 Lib.deBruijn64tab w) (hw0 : 0 < w.heap.size) {m : MachS} (h : ofS F.list = .ok m) (hst : m.states ≤ 1000) (hbl : bs.length ≤ 60) : Calls Tryz.prog 8 #[.slice B F.len cap, .slice A bs.length cv] w fun e w' => e = .returned (.bool true) ∧ Below w.heap.size w w' := by
 have hof := nof_go F B cap w hl hs ht
 obtain ⟨hm, hra, hsz, h64⟩ := ofS_okC h
 rw [h] at hof
 have HO := Lib.hid hof
 have HRT := Lib.hid (mach_rightC hra hsz h64)
 have HFIT := Lib.hid (mach_fits hra hsz).1
 have HFEW := Lib.hid (fun h1 => mach_few (l := F.list) hra h1)
 have HSAY := Lib.hid (fun (L R : List Int) (hb60 : bs.length ≤ 60) (hL : RunOf (machS F.list).toV bs L) (hR : IsLabels (machS F.list).toV L R) => labels_are (p := fun z => fullB z bs) hra (fun x hx => full_says (hra x hx) (by omega)) hL hR)
 rw [← hm] at HRT HFIT HFEW HSAY
 have HS := Lib.hid hs
 have HT := Lib.hid hT
 have HA := Lib.hid hA
 have HTr := Lib.hid ht
 clear hof hra hsz hm hs hT hA ht h
 go_enter Tryz.func8, Tryz.ntmps8
 go_wp2_with fail
 refine HO.out.mono ?_
 rintro e w1 ⟨hb1, L, E, Ac, rfl, hR⟩
 obtain ⟨A1, k1, rfl, hk1⟩ := own_len_cap hR.l
 obtain ⟨A2, k2, rfl, hk2⟩ := own_len_cap hR.e
 obtain ⟨A3, k3, rfl, hk3⟩ := own_len_cap hR.a
 have hA1 := hR.nfaAt HFIT.out
 have hba : Below w1.heap.size w1 (w1.alloc (.cells #[.int .i64 (m.states : Int), .int .i64 0, .slice A1 m.links.length k1, .slice A2 m.edges.length k2, .slice A3 m.accept.length k3] 40)) := (Below.refl _ _).alloc (Nat.le_refl _) _
 have HN := Lib.hid (hA1.below hba)
 have HX := Lib.hid (Blk.new w1 40 #[.int .i64 (m.states : Int), .int .i64 0, .slice A1 m.links.length k1, .slice A2 m.edges.length k2, .slice A3 m.accept.length k3])
 have hB := hb1.trans (hba.mono hb1.size)
 have HB := Lib.hid hB
 clear hb1 hR hA1 hba HO hB
 dsimp only
 obtain ⟨x0, x1, x2, x3, x4⟩ := HX.out.c5
 have hlx := HX.out.lt
 have hd1 : decide ((1000 : Int) < (m.states : Int)) = false := by rw [decide_eq_false_iff_not]; omega
 have hd : decide ((60 : Int) < (bs.length : Int)) = false := by rw [decide_eq_false_iff_not]; omega
 have hfew : m.links.length ≤ 9000000 ∧ m.edges.length ≤ 9000000 := by
  have := HFEW.out
  have hm' : m.states ≤ 1000 := hst
  exact HFEW.out hm'
 go_upto_region 4 with fail
 generalize w1.alloc (.cells #[.int .i64 (m.states : Int), .int .i64 0, .slice A1 m.links.length k1, .slice A2 m.edges.length k2, .slice A3 m.accept.length k3] 40) = w3 at *
 have HNw := Lib.hid (mnew_go m.toV A1 k1 A2 k2 A3 k3 w3 HN.out (by simp only [MachS.toV, List.length_map]; exact hk1) (by simp only [MachS.toV, List.length_map]; exact hk2) (by simp only [MachS.toV, List.length_map]; exact hk3) (by simp only [MachS.toV, List.length_map]; exact hfew.1) (by simp only [MachS.toV, List.length_map]; exact hfew.2) (TabAt.below HB.out hw0 HT.out) (by have := HB.out.size; omega))
 simp only [nfA, MachS.toV, List.length_map] at HNw
 go_wp2_with fail
 refine HNw.out.mono ?_
 intro e w4 h4
 obtain ⟨hb4, h4⟩ := h4
 rcases h4 with ⟨hno, _⟩ | ⟨_, g, lm, em, A4, k4, rfl, hWk⟩
 ·have := HRT.out
  rw [show rightN m.toV = false from hno] at this
  cases this
 have HWa := Lib.hid (show WorkAt w4 g lm em m.toV A4 k4 from hWk)
 have HB4 := Lib.hid (HB.out.trans (hb4.mono (by have := HB.out.size; omega)))
 clear x0 x1 x2 x3 x4 hlx HNw hb4 hWk HX HN HB hd hd1 hfew
 have HC := Lib.hid (mclos_go HRT.out)
 have HSt := Lib.hid (mstep_go (mclos_go HRT.out))
 have HRu := Lib.hid (mrun_go g lm em m.toV HC.out HSt.out HRT.out A4 k4 w4 HWa.out A cv bs (bytes_atS HA.out HB4.out) hcv)
 dsimp only
 go_wp2_with fail
 refine HRu.out.mono ?_
 rintro e w5 ⟨L, AL, cL, hL, rfl, hb5, hiL, hcL⟩
 have HPL := Lib.hid hL
 have HW5 := Lib.hid (HWa.out.below hb5)
 have HLb := Lib.hid (mlabels_go g lm em m.toV A4 k4 w5 HW5.out HRT.out AL cL L hiL (by have := runof_len HRT.out hL; omega) hcL)
 have HB5 := Lib.hid (HB4.out.trans (hb5.mono (by have := HB4.out.size; omega)))
 clear HRu hL hb5 hiL HWa HB4
 dsimp only
 go_wp2_with fail
 refine HLb.out.mono ?_
 rintro e w6 ⟨R, AR, cR, hRl, rfl, hb6, hiR, hcR⟩
 have HW6 := Lib.hid (HW5.out.below hb6)
 have HB6 := Lib.hid (HB5.out.trans (hb6.mono (by have := HB5.out.size; omega)))
 have HPR := Lib.hid hRl
 have HIR := Lib.hid hiR
 have HRL := Lib.hid (labels_len HRT.out hRl)
 have HD0 := Lib.hid (show R.drop 0 = labsF ((F.list.map fun z => fullB z bs).drop 0) 0 from HSAY.out L R hbl HPL.out hRl)
 clear HLb hRl hb6 hiR HW5 HB5 HSAY HFIT HFEW
 dsimp only
 go_wp2
 go_loopw [10, 11] (fun k' i' wr => ∃ k i : Nat, k' = .int .i64 (k : Int) ∧ i' = .int .i64 (i : Int) ∧ i ≤ F.len ∧ k ≤ i ∧ k ≤ R.length ∧ Hid (R.drop k = labsF ((F.list.map fun z => fullB z bs).drop i) i) ∧ Hid (Below w.heap.size w wr ∧ Below w6.heap.size w6 wr)) (fun _ i' _ => F.len - (intOf i').toNat)
 case atStart => exact ⟨0, 0, rfl, rfl, Nat.zero_le _, Nat.zero_le _, Nat.zero_le _, HD0, Lib.hid ⟨HB6.out, Below.refl _ _⟩⟩
 case round =>
  clear HD0 HB6
  obtain ⟨k, i, rfl, rfl, hi, hki, hkR, HD, HBs⟩ := hrel
  by_cases hlt : i < F.len
  ·obtain ⟨z, hz⟩ : ∃ z, F.list[i]? = some z := ⟨_, List.getElem?_eq_getElem (by rw [Trees.len_list]; exact hlt)⟩
   have htr := trees_atS HTr.out HBs.out.1
   obtain ⟨b, o, C, capc, rfl, hbb, hck, ⟨c0, c1, c2, c3, c4, c5, c6, c7⟩, hkz⟩ := htr.get hz
   have hblk := World.block_lt_of_cell? wr _ c0
   have hdl : (i : Int) < (F.len : Int) := by omega
   have hwi : IntKind.i64.wrap ((i : Int) + 1) = (i : Int) + 1 := by rw [IntKind.wrap_i64]; omega
   have hwk : IntKind.i64.wrap ((k : Int) + 1) = (k : Int) + 1 := by rw [IntKind.wrap_i64]; omega
   have HFl := Lib.hid (pfull_any z C capc A cv bs wr (HS.out z (List.mem_of_getElem? hz)) hck hkz (bytes_atS HA.out HBs.out.1) (TabAt.below HBs.out.1 hw0 HT.out) (by have := HBs.out.1.size; omega))
   have hst := labsF_step HD.out (show (F.list.map fun z => fullB z bs)[i]? = some (fullB z bs) by rw [List.getElem?_map, hz]; rfl)
   unfold ndV at HFl
   clear htr hz hkz hbb hck HD
   have HST := Lib.hid hst
   clear hst
   generalize fullB z bs = f at *
   go_wp2_with fail
   refine HFl.out.mono ?_
   rintro e w7 ⟨rfl, hb7⟩
   have HB7 := Lib.hid (show Below w.heap.size w w7 ∧ Below w6.heap.size w6 w7 from ⟨HBs.out.1.trans (hb7.mono HBs.out.1.size), HBs.out.2.trans (hb7.mono HBs.out.2.size)⟩)
   clear hb7 HFl HBs c0 c1 c2 c3 c4 c5 c6 c7 hblk
   rcases HST.out with ⟨rfl, h1, h2, h3⟩ | ⟨rfl, h3⟩
   ·obtain ⟨b3, o3, rfl, d3⟩ := (HIR.out.below HB7.out.2) k _ h2
    have hb3 := World.block_lt_of_cell? w7 _ d3
    have HD3 := Lib.hid h3
    have hdk : decide (((R.length : Nat) : Int) ≤ (k : Int)) = false := by rw [decide_eq_false_iff_not]; omega
    have hdk2 : (k : Int) < ((R.length : Nat) : Int) := by omega
    clear h2 h3 HST
    dsimp only
    go_wp2
    go_roundw
    case rel => exact ⟨k + 1, i + 1, by go_num, by go_num, by omega, by omega, by omega, HD3, HB7⟩
    case measure => simp [intOf]; omega
   ·have HD3 := Lib.hid h3
    clear h3 HST
    dsimp only
    go_wp2
    go_roundw
    case rel => exact ⟨k, i + 1, rfl, by go_num, by omega, by omega, by omega, HD3, HB7⟩
    case measure => simp [intOf]; omega
  ·obtain rfl : i = F.len := by omega
   have hdl : ¬ ((F.len : Int) < (F.len : Int)) := by omega
   have hRk : R.length = k := drop_nil_len (by rw [HD.out, List.drop_eq_nil_of_le (by rw [List.length_map, Trees.len_list]; exact Nat.le_refl _)]; rfl) hkR
   have HKn := Lib.hid (fun (W' : World) (h : Below wr.heap.size wr W') => knows17_go W' (TabAt.below h (by have := HBs.out.1.size; omega) (TabAt.below HBs.out.1 hw0 HT.out)) (by have := HBs.out.1.size; have := h.size; omega))
   have HTe := Lib.hid (fun (W' : World) (h : Below wr.heap.size wr W') => mtell_go g lm em m.toV HC.out HSt.out HRT.out A4 k4 W' (HW6.out.below (HBs.out.2.trans (h.mono HBs.out.2.size))) A cv bs (bytes_atS HA.out (HBs.out.1.trans (h.mono HBs.out.1.size))) hcv)
   have HBw := Lib.hid HBs.out.1
   have HI2 := Lib.hid (HIR.out.below HBs.out.2)
   subst hRk
   clear HD HBs HC HSt HW6 hkR hlt hi HTr HS HA HT HRT HIR
   go_wp2
   cases R with
   | nil =>
    clear HTe HPL HPR HI2 HRL
    dsimp only [List.length_nil]
    refine wp_region_noPanic ?_
    refine wp_region_held_drew (S := fun w' => (∀ b o, b < wr.heap.size → w'.cell? ⟨b, o, none⟩ = wr.cell? ⟨b, o, none⟩) ∧ Since wr.heap.size wr w') (by kernel_rfl) (since_start (Nat.le_refl _)) (fun hHeld => ?_)
    have hs := since_start (w0 := wr) (Nat.le_refl wr.heap.size)
    refine wpAnyH_take (i := 0) (oi := _) (v := ?_) rfl (by kernel_rfl) (by kernel_rfl) (by kernel_rfl) (fun _ _ _ h => h) (Or.inl ⟨by kernel_rfl, ?_⟩) (by assumption) ?_
    rotate_left
    ·intro w hSw
     try dsimp only at hSw
     go_simp
     try (with_reducible rfl)
    try simp only [Act.put, List.getElem_toArray, List.getElem_cons_zero, List.getElem_cons_succ, List.setIfInBounds_toArray, List.set_cons_zero, List.set_cons_succ]
    refine wpAnyH_take (i := 1) (oi := _) (v := ?_) rfl (by kernel_rfl) (by kernel_rfl) (by kernel_rfl) (fun _ _ _ h => h) (Or.inl ⟨by kernel_rfl, ?_⟩) (by assumption) ?_
    rotate_left
    ·intro w hSw
     try dsimp only at hSw
     go_simp
     try (with_reducible rfl)
    try simp only [Act.put, List.getElem_toArray, List.getElem_cons_zero, List.getElem_cons_succ, List.setIfInBounds_toArray, List.set_cons_zero, List.set_cons_succ]
    refine wpAnyH_take (i := 2) (oi := _) (v := ?_) rfl (by kernel_rfl) (by kernel_rfl) (by kernel_rfl) (fun _ _ _ h => h) (Or.inl ⟨by kernel_rfl, ?_⟩) (by assumption) ?_
    rotate_left
    ·intro w hSw
     try dsimp only at hSw
     go_simp
     try (with_reducible rfl)
    try simp only [Act.put, List.getElem_toArray, List.getElem_cons_zero, List.getElem_cons_succ, List.setIfInBounds_toArray, List.set_cons_zero, List.set_cons_succ]
    refine wpAnyH_take (i := 3) (oi := _) (v := ?_) rfl (by kernel_rfl) (by kernel_rfl) (by kernel_rfl) (fun _ _ _ h => h) (Or.inl ⟨by kernel_rfl, ?_⟩) (by assumption) ?_
    rotate_left
    ·intro w hSw
     try dsimp only at hSw
     go_simp
     try (with_reducible rfl)
    try simp only [Act.put, List.getElem_toArray, List.getElem_cons_zero, List.getElem_cons_succ, List.setIfInBounds_toArray, List.set_cons_zero, List.set_cons_succ]
    refine wpAnyH_take (i := 4) (oi := _) (v := ?_) rfl (by kernel_rfl) (by kernel_rfl) (by kernel_rfl) (fun _ _ _ h => h) (Or.inl ⟨by kernel_rfl, ?_⟩) (by assumption) ?_
    rotate_left
    ·intro w hSw
     try dsimp only at hSw
     go_simp
     try (with_reducible rfl)
    try simp only [Act.put, List.getElem_toArray, List.getElem_cons_zero, List.getElem_cons_succ, List.setIfInBounds_toArray, List.set_cons_zero, List.set_cons_succ]
    refine wpAnyH_take (i := 5) (oi := _) (v := ?_) rfl (by kernel_rfl) (by kernel_rfl) (by kernel_rfl) (fun _ _ _ h => h) (Or.inl ⟨by kernel_rfl, ?_⟩) (by assumption) ?_
    rotate_left
    ·intro w hSw
     try dsimp only at hSw
     go_simp
     try (with_reducible rfl)
    try simp only [Act.put, List.getElem_toArray, List.getElem_cons_zero, List.getElem_cons_succ, List.setIfInBounds_toArray, List.set_cons_zero, List.set_cons_succ]
    refine wpAnyH_take (i := 6) (oi := _) (v := ?_) rfl (by kernel_rfl) (by kernel_rfl) (by kernel_rfl) (fun _ _ _ h => h) (Or.inl ⟨by kernel_rfl, ?_⟩) (by assumption) ?_
    rotate_left
    ·intro w hSw
     try dsimp only at hSw
     go_simp
     try (with_reducible rfl)
    try simp only [Act.put, List.getElem_toArray, List.getElem_cons_zero, List.getElem_cons_succ, List.setIfInBounds_toArray, List.set_cons_zero, List.set_cons_succ]
    refine wpAnyH_take (i := 7) (oi := _) (v := ?_) rfl (by kernel_rfl) (by kernel_rfl) (by kernel_rfl) (fun _ _ _ h => h) (Or.inl ⟨by kernel_rfl, ?_⟩) (by assumption) ?_
    rotate_left
    ·intro w hSw
     try dsimp only at hSw
     go_simp
     try (with_reducible rfl)
    try simp only [Act.put, List.getElem_toArray, List.getElem_cons_zero, List.getElem_cons_succ, List.setIfInBounds_toArray, List.set_cons_zero, List.set_cons_succ]
    refine wpAnyH_take (i := 8) (oi := _) (v := undef) rfl (by kernel_rfl) (by kernel_rfl) (by kernel_rfl) (fun _ _ _ h => h) (Or.inr ⟨by kernel_rfl, rfl⟩) (by assumption) ?_
    try simp only [Act.put, List.getElem_toArray, List.getElem_cons_zero, List.getElem_cons_succ, List.setIfInBounds_toArray, List.set_cons_zero, List.set_cons_succ]
    refine wpAnyH_take (i := 9) (oi := _) (v := undef) rfl (by kernel_rfl) (by kernel_rfl) (by kernel_rfl) (fun _ _ _ h => h) (Or.inr ⟨by kernel_rfl, rfl⟩) (by assumption) ?_
    try simp only [Act.put, List.getElem_toArray, List.getElem_cons_zero, List.getElem_cons_succ, List.setIfInBounds_toArray, List.set_cons_zero, List.set_cons_succ]
    refine wpAnyH_take (i := 10) (oi := _) (v := undef) rfl (by kernel_rfl) (by kernel_rfl) (by kernel_rfl) (fun _ _ _ h => h) (Or.inr ⟨by kernel_rfl, rfl⟩) (by assumption) ?_
    try simp only [Act.put, List.getElem_toArray, List.getElem_cons_zero, List.getElem_cons_succ, List.setIfInBounds_toArray, List.set_cons_zero, List.set_cons_succ]
    refine wpAnyH_take (i := 11) (oi := _) (v := undef) rfl (by kernel_rfl) (by kernel_rfl) (by kernel_rfl) (fun _ _ _ h => h) (Or.inr ⟨by kernel_rfl, rfl⟩) (by assumption) ?_
    try simp only [Act.put, List.getElem_toArray, List.getElem_cons_zero, List.getElem_cons_succ, List.setIfInBounds_toArray, List.set_cons_zero, List.set_cons_succ]
    refine wpAnyH_take (i := 12) (oi := _) (v := undef) rfl (by kernel_rfl) (by kernel_rfl) (by kernel_rfl) (fun _ _ _ h => h) (Or.inr ⟨by kernel_rfl, rfl⟩) (by assumption) ?_
    try simp only [Act.put, List.getElem_toArray, List.getElem_cons_zero, List.getElem_cons_succ, List.setIfInBounds_toArray, List.set_cons_zero, List.set_cons_succ]
    refine wpAnyH_take (i := 13) (oi := _) (v := undef) rfl (by kernel_rfl) (by kernel_rfl) (by kernel_rfl) (fun _ _ _ h => h) (Or.inr ⟨by kernel_rfl, rfl⟩) (by assumption) ?_
    try simp only [Act.put, List.getElem_toArray, List.getElem_cons_zero, List.getElem_cons_succ, List.setIfInBounds_toArray, List.set_cons_zero, List.set_cons_succ]
    refine wpAnyH_take (i := 14) (oi := _) (v := undef) rfl (by kernel_rfl) (by kernel_rfl) (by kernel_rfl) (fun _ _ _ h => h) (Or.inr ⟨by kernel_rfl, rfl⟩) (by assumption) ?_
    try simp only [Act.put, List.getElem_toArray, List.getElem_cons_zero, List.getElem_cons_succ, List.setIfInBounds_toArray, List.set_cons_zero, List.set_cons_succ]
    refine wpAnyH_take (i := 15) (oi := _) (v := ?_) rfl (by kernel_rfl) (by kernel_rfl) (by kernel_rfl) (fun _ _ _ h => h) (Or.inl ⟨by kernel_rfl, ?_⟩) (by assumption) ?_
    rotate_left
    ·intro w hSw
     try dsimp only at hSw
     go_simp
     try (with_reducible rfl)
    try simp only [Act.put, List.getElem_toArray, List.getElem_cons_zero, List.getElem_cons_succ, List.setIfInBounds_toArray, List.set_cons_zero, List.set_cons_succ]
    refine wpAnyH_take (i := 16) (oi := _) (v := ?_) rfl (by kernel_rfl) (by kernel_rfl) (by kernel_rfl) (fun _ _ _ h => h) (Or.inl ⟨by kernel_rfl, ?_⟩) (by assumption) ?_
    rotate_left
    ·intro w hSw
     try dsimp only at hSw
     go_simp
     try (with_reducible rfl)
    try simp only [Act.put, List.getElem_toArray, List.getElem_cons_zero, List.getElem_cons_succ, List.setIfInBounds_toArray, List.set_cons_zero, List.set_cons_succ]
    refine wpAnyH_take (i := 17) (oi := _) (v := ?_) rfl (by kernel_rfl) (by kernel_rfl) (by kernel_rfl) (fun _ _ _ h => h) (Or.inl ⟨by kernel_rfl, ?_⟩) (by assumption) ?_
    rotate_left
    ·intro w hSw
     try dsimp only at hSw
     go_simp
     try (with_reducible rfl)
    try simp only [Act.put, List.getElem_toArray, List.getElem_cons_zero, List.getElem_cons_succ, List.setIfInBounds_toArray, List.set_cons_zero, List.set_cons_succ]
    refine wpAnyH_ready (rs := [18]) (by kernel_rfl) (by simp) ?_
    refine AllReadyH.cons (o := _) rfl (fun K hK => ?_) AllReadyH.nil
    go_simp
    go_at_call 42
    refine (HKn.out _ hs.2.1).mono ?_
    rintro e v8 ⟨rfl, hb'⟩
    have hs := since_step hs hb'
    refine hK.out _ _ hs (fun _ => ?_)
    clear hK K hb'
    try simp only [Act.put, List.getElem_toArray, List.getElem_cons_zero, List.getElem_cons_succ, List.setIfInBounds_toArray, List.set_cons_zero, List.set_cons_succ]
    refine wpAnyH_take (i := 19) (oi := _) (v := ?_) rfl (by kernel_rfl) (by kernel_rfl) (by kernel_rfl) (fun _ _ _ h => h) (Or.inl ⟨by kernel_rfl, ?_⟩) (by assumption) ?_
    rotate_left
    ·intro w hSw
     try dsimp only at hSw
     go_simp
     try (with_reducible rfl)
    try simp only [Act.put, List.getElem_toArray, List.getElem_cons_zero, List.getElem_cons_succ, List.setIfInBounds_toArray, List.set_cons_zero, List.set_cons_succ]
    refine wpAnyH_take (i := 20) (oi := _) (v := ?_) rfl (by kernel_rfl) (by kernel_rfl) (by kernel_rfl) (fun _ _ _ h => h) (Or.inl ⟨by kernel_rfl, ?_⟩) (by assumption) ?_
    rotate_left
    ·intro w hSw
     try dsimp only at hSw
     go_simp
     try (with_reducible rfl)
    try simp only [Act.put, List.getElem_toArray, List.getElem_cons_zero, List.getElem_cons_succ, List.setIfInBounds_toArray, List.set_cons_zero, List.set_cons_succ]
    have HB9 := Lib.hid (HBw.out.trans (hs.2.1.mono HBw.out.size))
    refine wpAnyH_done (by kernel_rfl) ?_ _
    refine NoPanic.normal ?_
    clear hs
    go_wp2
    go_light
    go_ret
    exact ⟨rfl, HB9.out⟩
   | cons r R =>
    obtain ⟨b3, o3, rfl, d3⟩ := HI2.out 0 r rfl
    rw [Nat.add_zero] at d3
    have hb3 := World.block_lt_of_cell? wr _ d3
    have hln : (((r :: R).length : Nat) : Int) ≠ 0 := by rw [List.length_cons]; omega
    have hln2 : (0 : Int) < (((r :: R).length : Nat) : Int) := by rw [List.length_cons]; omega
    have hln3 : 0 < (r :: R).length := by simp
    generalize hrl : (r :: R).length = len at *
    clear HI2
    refine wp_region_noPanic ?_
    refine wp_region_held_drew (S := fun w' => (∀ b o, b < wr.heap.size → w'.cell? ⟨b, o, none⟩ = wr.cell? ⟨b, o, none⟩) ∧ Since wr.heap.size wr w') (by kernel_rfl) (since_start (Nat.le_refl _)) (fun hHeld => ?_)
    have hs := since_start (w0 := wr) (Nat.le_refl wr.heap.size)
    refine wpAnyH_take (i := 0) (oi := _) (v := ?_) rfl (by kernel_rfl) (by kernel_rfl) (by kernel_rfl) (fun _ _ _ h => h) (Or.inl ⟨by kernel_rfl, ?_⟩) (by assumption) ?_
    rotate_left
    ·intro w hSw
     try dsimp only at hSw
     go_simp
     try (with_reducible rfl)
    try simp only [Act.put, List.getElem_toArray, List.getElem_cons_zero, List.getElem_cons_succ, List.setIfInBounds_toArray, List.set_cons_zero, List.set_cons_succ]
    refine wpAnyH_take (i := 1) (oi := _) (v := ?_) rfl (by kernel_rfl) (by kernel_rfl) (by kernel_rfl) (fun _ _ _ h => h) (Or.inl ⟨by kernel_rfl, ?_⟩) (by assumption) ?_
    rotate_left
    ·intro w hSw
     try dsimp only at hSw
     go_simp
     try (with_reducible rfl)
    try simp only [Act.put, List.getElem_toArray, List.getElem_cons_zero, List.getElem_cons_succ, List.setIfInBounds_toArray, List.set_cons_zero, List.set_cons_succ]
    refine wpAnyH_take (i := 2) (oi := _) (v := ?_) rfl (by kernel_rfl) (by kernel_rfl) (by kernel_rfl) (fun _ _ _ h => h) (Or.inl ⟨by kernel_rfl, ?_⟩) (by assumption) ?_
    rotate_left
    ·intro w hSw
     try dsimp only at hSw
     go_simp
     try (with_reducible rfl)
    try simp only [Act.put, List.getElem_toArray, List.getElem_cons_zero, List.getElem_cons_succ, List.setIfInBounds_toArray, List.set_cons_zero, List.set_cons_succ]
    refine wpAnyH_take (i := 3) (oi := _) (v := ?_) rfl (by kernel_rfl) (by kernel_rfl) (by kernel_rfl) (fun _ _ _ h => h) (Or.inl ⟨by kernel_rfl, ?_⟩) (by assumption) ?_
    rotate_left
    ·intro w hSw
     try dsimp only at hSw
     go_simp
     try (with_reducible rfl)
    try simp only [Act.put, List.getElem_toArray, List.getElem_cons_zero, List.getElem_cons_succ, List.setIfInBounds_toArray, List.set_cons_zero, List.set_cons_succ]
    refine wpAnyH_take (i := 4) (oi := _) (v := ?_) rfl (by kernel_rfl) (by kernel_rfl) (by kernel_rfl) (fun _ _ _ h => h) (Or.inl ⟨by kernel_rfl, ?_⟩) (by assumption) ?_
    rotate_left
    ·intro w hSw
     try dsimp only at hSw
     go_simp
     try (with_reducible rfl)
    try simp only [Act.put, List.getElem_toArray, List.getElem_cons_zero, List.getElem_cons_succ, List.setIfInBounds_toArray, List.set_cons_zero, List.set_cons_succ]
    refine wpAnyH_take (i := 5) (oi := _) (v := ?_) rfl (by kernel_rfl) (by kernel_rfl) (by kernel_rfl) (fun _ _ _ h => h) (Or.inl ⟨by kernel_rfl, ?_⟩) (by assumption) ?_
    rotate_left
    ·intro w hSw
     try dsimp only at hSw
     go_simp
     try (with_reducible rfl)
    try simp only [Act.put, List.getElem_toArray, List.getElem_cons_zero, List.getElem_cons_succ, List.setIfInBounds_toArray, List.set_cons_zero, List.set_cons_succ]
    refine wpAnyH_take (i := 6) (oi := _) (v := ?_) rfl (by kernel_rfl) (by kernel_rfl) (by kernel_rfl) (fun _ _ _ h => h) (Or.inl ⟨by kernel_rfl, ?_⟩) (by assumption) ?_
    rotate_left
    ·intro w hSw
     try dsimp only at hSw
     go_simp
     try (with_reducible rfl)
    try simp only [Act.put, List.getElem_toArray, List.getElem_cons_zero, List.getElem_cons_succ, List.setIfInBounds_toArray, List.set_cons_zero, List.set_cons_succ]
    refine wpAnyH_take (i := 7) (oi := _) (v := ?_) rfl (by kernel_rfl) (by kernel_rfl) (by kernel_rfl) (fun _ _ _ h => h) (Or.inl ⟨by kernel_rfl, ?_⟩) (by assumption) ?_
    rotate_left
    ·intro w hSw
     try dsimp only at hSw
     go_simp
     try (with_reducible rfl)
    try simp only [Act.put, List.getElem_toArray, List.getElem_cons_zero, List.getElem_cons_succ, List.setIfInBounds_toArray, List.set_cons_zero, List.set_cons_succ]
    refine wpAnyH_take (i := 8) (oi := _) (v := ?_) rfl (by kernel_rfl) (by kernel_rfl) (by kernel_rfl) (fun _ _ _ h => h) (Or.inl ⟨by kernel_rfl, ?_⟩) (by assumption) ?_
    rotate_left
    ·intro w hSw
     try dsimp only at hSw
     go_simp
     try (with_reducible rfl)
    try simp only [Act.put, List.getElem_toArray, List.getElem_cons_zero, List.getElem_cons_succ, List.setIfInBounds_toArray, List.set_cons_zero, List.set_cons_succ]
    refine wpAnyH_take (i := 9) (oi := _) (v := ?_) rfl (by kernel_rfl) (by kernel_rfl) (by kernel_rfl) (fun _ _ _ h => h) (Or.inl ⟨by kernel_rfl, ?_⟩) (by assumption) ?_
    rotate_left
    ·intro w hSw
     try dsimp only at hSw
     go_simp
     try (with_reducible rfl)
    try simp only [Act.put, List.getElem_toArray, List.getElem_cons_zero, List.getElem_cons_succ, List.setIfInBounds_toArray, List.set_cons_zero, List.set_cons_succ]
    refine wpAnyH_take (i := 11) (oi := _) (v := ?_) rfl (by kernel_rfl) (by kernel_rfl) (by kernel_rfl) (fun _ _ _ h => h) (Or.inl ⟨by kernel_rfl, ?_⟩) (by assumption) ?_
    rotate_left
    ·intro w hSw
     try dsimp only at hSw
     go_simp
     try (with_reducible rfl)
    try simp only [Act.put, List.getElem_toArray, List.getElem_cons_zero, List.getElem_cons_succ, List.setIfInBounds_toArray, List.set_cons_zero, List.set_cons_succ]
    refine wpAnyH_take (i := 12) (oi := _) (v := ?_) rfl (by kernel_rfl) (by kernel_rfl) (by kernel_rfl) (fun _ _ _ h => h) (Or.inl ⟨by kernel_rfl, ?_⟩) (by assumption) ?_
    rotate_left
    ·intro w hSw
     try dsimp only at hSw
     go_simp
     try (with_reducible rfl)
    try simp only [Act.put, List.getElem_toArray, List.getElem_cons_zero, List.getElem_cons_succ, List.setIfInBounds_toArray, List.set_cons_zero, List.set_cons_succ]
    refine wpAnyH_take (i := 13) (oi := _) (v := ?_) rfl (by kernel_rfl) (by kernel_rfl) (by kernel_rfl) (fun _ _ _ h => h) (Or.inl ⟨by kernel_rfl, ?_⟩) (by assumption) ?_
    rotate_left
    ·intro w hSw
     try dsimp only at hSw
     go_simp
     try (with_reducible rfl)
    try simp only [Act.put, List.getElem_toArray, List.getElem_cons_zero, List.getElem_cons_succ, List.setIfInBounds_toArray, List.set_cons_zero, List.set_cons_succ]
    refine wpAnyH_ready (rs := [10]) (by kernel_rfl) (by simp) ?_
    refine AllReadyH.cons (o := _) rfl (fun K hK => ?_) AllReadyH.nil
    go_simp
    rw [if_neg (show ¬ len = 0 by omega)]
    go_at_call 22
    refine (HTe.out _ hs.2.1).mono ?_
    rintro e v7 ⟨x, hx, rfl, hb'⟩
    obtain rfl : x = r := tell_is HPL.out HPR.out hx
    have hs := since_step hs hb'
    refine hK.out _ _ hs (fun _ => ?_)
    clear hK K hb' hx
    try simp only [Act.put, List.getElem_toArray, List.getElem_cons_zero, List.getElem_cons_succ, List.setIfInBounds_toArray, List.set_cons_zero, List.set_cons_succ]
    refine wpAnyH_take (i := 14) (oi := _) (v := ?_) rfl (by kernel_rfl) (by kernel_rfl) (by kernel_rfl) (fun _ _ _ h => h) (Or.inl ⟨by kernel_rfl, ?_⟩) (by assumption) ?_
    rotate_left
    ·intro w hSw
     try dsimp only at hSw
     go_simp
     try (with_reducible rfl)
    try simp only [Act.put, List.getElem_toArray, List.getElem_cons_zero, List.getElem_cons_succ, List.setIfInBounds_toArray, List.set_cons_zero, List.set_cons_succ]
    refine wpAnyH_take (i := 15) (oi := _) (v := ?_) rfl (by kernel_rfl) (by kernel_rfl) (by kernel_rfl) (fun _ _ _ h => h) (Or.inl ⟨by kernel_rfl, ?_⟩) (by assumption) ?_
    rotate_left
    ·intro w hSw
     try dsimp only at hSw
     go_simp
     try (with_reducible rfl)
    try simp only [Act.put, List.getElem_toArray, List.getElem_cons_zero, List.getElem_cons_succ, List.setIfInBounds_toArray, List.set_cons_zero, List.set_cons_succ]
    refine wpAnyH_take (i := 16) (oi := _) (v := ?_) rfl (by kernel_rfl) (by kernel_rfl) (by kernel_rfl) (fun _ _ _ h => h) (Or.inl ⟨by kernel_rfl, ?_⟩) (by assumption) ?_
    rotate_left
    ·intro w hSw
     try dsimp only at hSw
     go_simp
     try (with_reducible rfl)
    try simp only [Act.put, List.getElem_toArray, List.getElem_cons_zero, List.getElem_cons_succ, List.setIfInBounds_toArray, List.set_cons_zero, List.set_cons_succ]
    refine wpAnyH_take (i := 17) (oi := _) (v := ?_) rfl (by kernel_rfl) (by kernel_rfl) (by kernel_rfl) (fun _ _ _ h => h) (Or.inl ⟨by kernel_rfl, ?_⟩) (by assumption) ?_
    rotate_left
    ·intro w hSw
     try dsimp only at hSw
     go_simp
     try (with_reducible rfl)
    try simp only [Act.put, List.getElem_toArray, List.getElem_cons_zero, List.getElem_cons_succ, List.setIfInBounds_toArray, List.set_cons_zero, List.set_cons_succ]
    refine wpAnyH_ready (rs := [18]) (by kernel_rfl) (by simp) ?_
    refine AllReadyH.cons (o := _) rfl (fun K hK => ?_) AllReadyH.nil
    go_simp
    go_at_call 42
    refine (HKn.out _ hs.2.1).mono ?_
    rintro e v8 ⟨rfl, hb'⟩
    have hs := since_step hs hb'
    refine hK.out _ _ hs (fun _ => ?_)
    clear hK K hb'
    try simp only [Act.put, List.getElem_toArray, List.getElem_cons_zero, List.getElem_cons_succ, List.setIfInBounds_toArray, List.set_cons_zero, List.set_cons_succ]
    refine wpAnyH_take (i := 19) (oi := _) (v := ?_) rfl (by kernel_rfl) (by kernel_rfl) (by kernel_rfl) (fun _ _ _ h => h) (Or.inl ⟨by kernel_rfl, ?_⟩) (by assumption) ?_
    rotate_left
    ·intro w hSw
     try dsimp only at hSw
     go_simp
     try (with_reducible rfl)
    try simp only [Act.put, List.getElem_toArray, List.getElem_cons_zero, List.getElem_cons_succ, List.setIfInBounds_toArray, List.set_cons_zero, List.set_cons_succ]
    refine wpAnyH_take (i := 20) (oi := _) (v := ?_) rfl (by kernel_rfl) (by kernel_rfl) (by kernel_rfl) (fun _ _ _ h => h) (Or.inl ⟨by kernel_rfl, ?_⟩) (by assumption) ?_
    rotate_left
    ·intro w hSw
     try dsimp only at hSw
     go_simp
     try (with_reducible rfl)
    try simp only [Act.put, List.getElem_toArray, List.getElem_cons_zero, List.getElem_cons_succ, List.setIfInBounds_toArray, List.set_cons_zero, List.set_cons_succ]
    have HB9 := Lib.hid (HBw.out.trans (hs.2.1.mono HBw.out.size))
    refine wpAnyH_done (by kernel_rfl) ?_ _
    refine NoPanic.normal ?_
    clear hs
    go_wp2
    go_light
    go_ret
    exact ⟨rfl, HB9.out⟩
theorem csaid_law (F : Trees) (B : Option Addr) (cap : Nat) (A : Option Addr) (cv : Nat) (bs : List Nat) (w : World) (hl : F.len ≤ 140737488355328) (hs : ∀ z ∈ F.list, z.size ≤ 4611686018427387903) (ht : TreesAt w (fun b => b < w.heap.size) F B) (hA : BytesAt w w.heap.size A bs) (hcv : bs.length ≤ cv) (hT : TabAt 0 Lib.deBruijn64tab w) (hw0 : 0 < w.heap.size) : Calls Tryz.prog 8 #[.slice B F.len cap, .slice A bs.length cv] w fun e w' => e = .returned (.bool true) ∧ Below w.heap.size w w' := by
 cases h : ofS F.list with
 | error k => exact csaid_err F B cap A cv bs w hl hs ht hA hcv hT hw0 h
 | ok m =>
  by_cases h1 : 1000 < m.states ∨ 60 < bs.length
  ·exact csaid_far F B cap A cv bs w hl hs ht hA hcv hT hw0 h h1
  ·exact csaid_near F B cap A cv bs w hl hs ht hA hcv hT hw0 h (by omega) (by omega)
end Go.Proofs.YtofbfafnpdaejaaGreatDoor
