/-
  The reference's Size of chapter 16.
-/
import Derived.Test.YtchfipjclbpomaaGreatQNfaR
import Derived.Test.YtchfipjclbpomaaGreatQNfaC
namespace Go.Proofs.YtchfipjclbpomaaGreat
open Go.RowKit
set_option linter.unusedSimpArgs false
set_option linter.unusedVariables false
set_option maxRecDepth 100000

theorem okays_of {z : Nd} (hr : rightT z = true) : ∀ y ∈ z.nodes, aloneN y = true := fun y hy => by
  unfold rightT at hr
  rw [Bool.and_eq_true] at hr
  exact List.all_eq_true.1 hr.2 y hy
theorem wAll_snoc (l : List Nd) (x : Nd) : wAll (l ++ [x]) = wAll l + (x.wgtU + 1) := by simp [wAll]
set_option maxHeartbeats 2000000 in
/-- The reference's Size of chapter 16. -/
theorem rsize16_go (F : Trees) (P : Nat → Prop) (B : Option Addr) (cap : Nat) (w : World) (hl : F.len ≤ 140737488355328) (hs : ∀ z ∈ F.list, z.size ≤ 140737488355328) (hok : ∀ z ∈ F.list, ∀ y ∈ z.nodes, aloneN y = true) (ht : TreesAt w P F B) :
    Calls Tryz.prog 5 #[.slice B F.len cap] w fun e w' => e = .returned (.int .i64 ((sizeW F.list : Nat) : Int)) ∧ Below w.heap.size w w' := by
  have HT := Lib.hid ht
  have HS := Lib.hid hs
  have HOK := Lib.hid hok
  clear ht hs hok
  go_enter Tryz.func5, Tryz.ntmps5
  go_wp2
  go_loopw [3, 4] (fun v i' wr => ∃ k : Nat, i' = .int .i64 (k : Int) ∧ k ≤ F.len ∧ v = .int .i64 ((min topN (1 + wAll (F.list.take k)) : Nat) : Int) ∧ Hid (Below w.heap.size w wr)) (fun _ i' _ => F.len - (intOf i').toNat)
  case atStart => exact ⟨0, rfl, Nat.zero_le _, rfl, Lib.hid (Below.refl _ _)⟩
  case round =>
    obtain ⟨k, rfl, hk, rfl, HB⟩ := hrel
    by_cases hlt : k < F.len
    · obtain ⟨z, hz⟩ : ∃ z, F.list[k]? = some z := ⟨_, List.getElem?_eq_getElem (by rw [Trees.len_list]; exact hlt)⟩
      obtain ⟨b, o, C, capc, rfl, _, _, ⟨c0, c1, c2, c3, c4, c5, c6, c7⟩, hkz⟩ := (HT.out.below HB.out).get hz
      have hdl : (k : Int) < (F.len : Int) := by omega
      have hmem := List.mem_of_getElem? hz
      have HI := Lib.hid (rwgt_go z P C capc wr (HS.out z hmem) (HOK.out z hmem) hkz)
      have HV := Lib.hid (show min topN (1 + wAll (F.list.take (k + 1))) = min topN (min topN (1 + wAll (F.list.take k)) + z.wgt + 1) by
        rw [take_snocF hz, wAll_snoc, z.wgt_U]
        omega)
      have hvle : min topN (1 + wAll (F.list.take k)) ≤ topN := Nat.min_le_left _ _
      have hzl := z.wgt_le
      clear hz hkz hmem
      generalize min topN (1 + wAll (F.list.take k)) = v at *
      generalize z.wgt = fz at *
      unfold ndV at HI
      go_wp2_with fail
      refine HI.out.mono ?_
      rintro e w3 ⟨rfl, hb3⟩
      have HA := Lib.hid (rnum3_new w3 w3.heap.size v fz 1 rfl hvle hzl (by decide))
      have HB3 := Lib.hid (HB.out.trans (hb3.mono HB.out.size))
      clear hb3 HI c0 c1 c2 c3 c4 c5 c6 c7
      dsimp only
      go_wp2_with fail
      refine HA.out.mono ?_
      rintro e w5 ⟨rfl, hb5⟩
      have HB5 := Lib.hid (HB3.out.trans (hb5.mono HB3.out.size))
      rw [← HV.out]
      clear hb5 HA HB3
      dsimp only
      go_wp2
      go_roundw
      case rel => exact ⟨k + 1, by go_num, by omega, rfl, HB5⟩
      case measure => simp [intOf]; omega
    · obtain rfl : k = F.len := by omega
      have hdl : ¬ ((F.len : Int) < (F.len : Int)) := by omega
      have HV := Lib.hid (show min topN (1 + wAll (F.list.take F.len)) = sizeW F.list by rw [← Trees.len_list, List.take_length]; rfl)
      generalize min topN (1 + wAll (F.list.take F.len)) = v at *
      go_wp2
      go_light
      go_ret
      exact ⟨ret_i (by rw [HV.out]), HB.out⟩
end Go.Proofs.YtchfipjclbpomaaGreat
