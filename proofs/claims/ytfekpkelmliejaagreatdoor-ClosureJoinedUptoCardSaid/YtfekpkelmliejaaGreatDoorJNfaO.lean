/- Texts of the claim. -/
import Derived.Test.YtfekpkelmliejaaGreatDoorJNfaG
namespace Go.Proofs.YtfekpkelmliejaaGreatDoor
open Go.RowKit
set_option linter.unusedSimpArgs false
set_option linter.unusedVariables false
set_option maxRecDepth 100000
set_option maxHeartbeats 8000000
theorem sizeone_go (z : Nd) (P : Nat → Prop) (C : Option Addr) (capc : Nat) (w : World) (hlen : z.size ≤ 140737488355328) (hok : ∀ y ∈ z.nodes, numsOk y) (ht : TreesAt w P z.kids C) :
  Calls Tryz.prog 162 #[ndV z C capc] w fun e w' => e = .returned (.int .i64 ((min topN (z.wgt + 1) : Nat) : Int)) ∧ Below w.heap.size w w' := by
 have hb1 : Below w.heap.size w (w.alloc (.cells (ndA z C capc) 28)) := (Below.refl _ _).alloc (Nat.le_refl _) _
 have HB1 := Lib.hid hb1
 have HW := Lib.hid (nwgt_go z P C capc _ hlen hok (ht.below hb1))
 have hwl := z.wgt_le
 clear ht hok hb1
 generalize z.wgt = n at *
 unfold ndV at *
 unfold ndA at *
 go_enter Tryz.func162, Tryz.ntmps162
 go_wp2_with fail
 refine HW.out.mono ?_
 rintro e w3 ⟨rfl, hb3⟩
 have HA := Lib.hid (add2_new w3 w3.heap.size n 1 rfl hwl (by decide))
 have HB3 := Lib.hid (HB1.out.trans (hb3.mono HB1.out.size))
 clear hb3 HW
 dsimp only
 go_wp2_with fail
 refine HA.out.mono ?_
 rintro e w4 ⟨rfl, hb4⟩
 have HB4 := Lib.hid (HB3.out.trans (hb4.mono HB3.out.size))
 clear hb4 HA
 dsimp only
 go_wp2
 go_light
 go_ret
 exact ⟨rfl, HB4.out⟩
theorem size_law : ∀ (l : List Nd), min topN (1 + min topN ((l.map fun z => min topN (z.wgt + 1)).sum)) = sizeW l := by
 have h : ∀ l : List Nd, min topN ((l.map fun z => min topN (z.wgt + 1)).sum) = min topN (wAll l) := by
  intro l
  induction l with
  | nil => rfl
  | cons x l ih =>
   have := x.wgt_U
   simp only [wAll, List.map_cons, List.sum_cons] at *
   omega
 intro l
 rw [h l]
 unfold sizeW
 omega
theorem nsize_go (F : Trees) (P : Nat → Prop) (B : Option Addr) (cap : Nat) (w : World) (hl : F.len ≤ 140737488355328) (hs : ∀ z ∈ F.list, z.size ≤ 140737488355328) (hok : ∀ z ∈ F.list, ∀ y ∈ z.nodes, numsOk y) (ht : TreesAt w P F B) :
  Calls Tryz.prog 118 #[.slice B F.len cap] w fun e w' => e = .returned (.int .i64 ((sizeW F.list : Nat) : Int)) ∧ Below w.heap.size w w' := by
 have HS := Lib.hid (nsum_go 162 (fun z => min topN (z.wgt + 1)) F P B cap w hl ht (fun z => Nat.min_le_left _ _) (fun i z C capc w' hz ht' => sizeone_go z P C capc w' (hs z (List.mem_of_getElem? hz)) (hok z (List.mem_of_getElem? hz)) ht') (enters_of Tryz.func162 (by kernel_rfl) rfl))
 have HL := Lib.hid (size_law F.list)
 have hsl : min topN ((F.list.map fun z => min topN (z.wgt + 1)).sum) ≤ topN := Nat.min_le_left _ _
 clear ht hs hok
 generalize min topN ((F.list.map fun z => min topN (z.wgt + 1)).sum) = s at *
 go_enter Tryz.func118, Tryz.ntmps118
 go_wp2_with fail
 refine HS.out.mono ?_
 rintro e w3 ⟨rfl, hb3⟩
 have HA := Lib.hid (add2_new w3 w3.heap.size 1 s rfl (by decide) hsl)
 have HB3 := Lib.hid hb3
 clear hb3 HS
 dsimp only
 go_wp2_with fail
 refine HA.out.mono ?_
 rintro e w4 ⟨rfl, hb4⟩
 have HB4 := Lib.hid (HB3.out.trans (hb4.mono HB3.out.size))
 clear hb4 HA
 dsimp only
 go_wp2
 go_light
 go_ret
 exact ⟨ret_i (by rw [HL.out]), HB4.out⟩
theorem notright_go (z : Nd) (C : Option Addr) (capc : Nat) (w : World) (hsz : z.size ≤ 4611686018427387903) (ht : TreesAt w (fun b => b < w.heap.size) z.kids C) :
  Calls Tryz.prog 117 #[ndV z C capc] w fun e w' => e = .returned (.bool (!rightT z)) ∧ Below w.heap.size w w' := by
 have hb1 : Below w.heap.size w (w.alloc (.cells (ndA z C capc) 28)) := (Below.refl _ _).alloc (Nat.le_refl _) _
 have HB1 := Lib.hid hb1
 have HR := Lib.hid (tright_any z C capc _ hsz ((ht.below hb1).weak (fun b h _ => by simp; omega)))
 clear ht hb1
 unfold ndV at *
 unfold ndA at *
 go_enter Tryz.func117, Tryz.ntmps117
 go_wp2_with fail
 refine HR.out.mono ?_
 rintro e w3 ⟨rfl, hb3⟩
 have HB3 := Lib.hid (HB1.out.trans (hb3.mono HB1.out.size))
 clear hb3 HR
 dsimp only
 go_wp2
 go_light
 go_ret
 exact ⟨rfl, HB3.out⟩
def IdxOut (l : List Nd) (w : World) (e : Ending) (w' : World) : Prop := ∃ v : Int, e = .returned (.int .i64 v) ∧ ((l.all rightT = true ∧ v = -1) ∨ (l.all rightT = false ∧ 0 ≤ v)) ∧ Below w.heap.size w w'
theorem idxright_go (F : Trees) (B : Option Addr) (cap : Nat) (w : World) (hl : F.len ≤ 140737488355328) (hs : ∀ z ∈ F.list, z.size ≤ 4611686018427387903) (ht : TreesAt w (fun b => b < w.heap.size) F B) :
  Calls Tryz.prog 159 #[.slice B F.len cap, .func (.func 117) #[] #[]] w (IdxOut F.list w) := by
 have HT := Lib.hid ht
 have HS := Lib.hid hs
 clear ht hs
 go_enter Tryz.func159, Tryz.ntmps159
 go_wp2
 go_loopw [8] (fun i' wr => ∃ k : Nat, i' = .int .i64 (k : Int) ∧ k ≤ F.len ∧ Hid (∀ j z, j < k → F.list[j]? = some z → rightT z = true) ∧ Hid (Below w.heap.size w wr)) (fun i' _ => F.len - (intOf i').toNat)
 case atStart => exact ⟨0, rfl, Nat.zero_le _, Lib.hid (fun j z hj => by omega), Lib.hid (Below.refl _ _)⟩
 case round =>
  obtain ⟨k, rfl, hk, HR, HB⟩ := hrel
  by_cases hlt : k < F.len
  ·obtain ⟨z, hz⟩ : ∃ z, F.list[k]? = some z := ⟨_, List.getElem?_eq_getElem (by rw [Trees.len_list]; exact hlt)⟩
   obtain ⟨b, o, C, capc, rfl, _, _, ⟨c0, c1, c2, c3, c4, c5, c6, c7⟩, hkz⟩ := (HT.out.below HB.out).get hz
   have hdl : (k : Int) < (F.len : Int) := by omega
   have hwr := HB.out.size
   have HI := Lib.hid (notright_go z C capc wr (HS.out z (List.mem_of_getElem? hz)) (hkz.weak (fun b h _ => by omega)))
   have HZ := Lib.hid hz
   clear hz hkz
   unfold ndV at HI
   cases hv : rightT z with
   | true =>
    rw [hv] at HI
    have HV := Lib.hid hv
    clear hv
    go_wp2_with fail
    refine HI.out.mono ?_
    rintro e w3 ⟨rfl, hb3⟩
    have HB3 := Lib.hid (HB.out.trans (hb3.mono HB.out.size))
    clear hb3 HI c0 c1 c2 c3 c4 c5 c6 c7
    dsimp only
    go_wp2
    go_roundw
    case rel => exact ⟨k + 1, by go_num, by omega, Lib.hid (fun j y hj hy => by
     rcases Nat.lt_or_ge j k with h | h
     ·exact HR.out j y h hy
     ·obtain rfl : j = k := by omega
      rw [HZ.out] at hy
      cases hy
      exact HV.out), HB3⟩
    case measure => simp [intOf]; omega
   | false =>
    rw [hv] at HI
    have HV := Lib.hid hv
    clear hv
    go_wp2_with fail
    refine HI.out.mono ?_
    rintro e w3 ⟨rfl, hb3⟩
    have HB3 := Lib.hid (HB.out.trans (hb3.mono HB.out.size))
    clear hb3 HI c0 c1 c2 c3 c4 c5 c6 c7
    dsimp only
    go_wp2
    go_light
    go_ret
    exact ⟨k, rfl, .inr ⟨List.all_eq_false.2 ⟨z, List.mem_of_getElem? HZ.out, by rw [HV.out]; decide⟩, by omega⟩, HB3.out⟩
  ·obtain rfl : k = F.len := by omega
   have hdl : ¬ ((F.len : Int) < (F.len : Int)) := by omega
   go_wp2
   go_light
   go_ret
   refine ⟨-1, rfl, .inl ⟨List.all_eq_true.2 (fun z hz => ?_), rfl⟩, HB.out⟩
   obtain ⟨j, hj, e⟩ := List.getElem_of_mem hz
   exact HR.out j z (by rw [Trees.len_list] at hj; exact hj) (by rw [List.getElem?_eq_getElem hj, e])
theorem hasright_go (F : Trees) (B : Option Addr) (cap : Nat) (w : World) (hl : F.len ≤ 140737488355328) (hs : ∀ z ∈ F.list, z.size ≤ 4611686018427387903) (ht : TreesAt w (fun b => b < w.heap.size) F B) :
  Calls Tryz.prog 116 #[.slice B F.len cap, .func (.func 117) #[] #[]] w fun e w' => e = .returned (.bool (!F.list.all rightT)) ∧ Below w.heap.size w w' := by
 have HI := Lib.hid (idxright_go F B cap w hl hs ht)
 clear ht hs
 go_enter Tryz.func116, Tryz.ntmps116
 go_wp2_with fail
 refine HI.out.mono ?_
 rintro e w3 ⟨v, rfl, hv, hb3⟩
 have HB3 := Lib.hid hb3
 clear hb3 HI
 rcases hv with ⟨h1, rfl⟩ | ⟨h1, h2⟩
 ·have HV := Lib.hid h1
  clear h1
  dsimp only
  go_wp2
  go_light
  go_ret
  exact ⟨by rw [HV.out]; rfl, HB3.out⟩
 ·have HV := Lib.hid h1
  clear h1
  dsimp only
  go_wp2
  go_light
  go_ret
  exact ⟨by rw [HV.out]; exact ret_b (by simp [h2]), HB3.out⟩
end Go.Proofs.YtfekpkelmliejaaGreatDoor
