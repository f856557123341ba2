/-
  The contract of the reference's Same of chapter 09, at two rows of the same rules.
-/
import Derived.StillTailTactics
import Derived.Test.YtajohcknenngnaaGreatQRRead
import Derived.Test.YtajohcknenngnaaGreatQNSame
namespace Go.Proofs.YtajohcknenngnaaGreat
open Go.RowKit
set_option linter.unusedSimpArgs false
set_option linter.unusedVariables false
set_option maxRecDepth 100000

set_option maxHeartbeats 2000000 in
theorem rrsame_go (A A' : Option Addr) (cap cap' : Nat) (rs : List RuleS) (P P' : Nat → Prop) (w : World) (hA : RulesAt w P rs A) (hA' : RulesAt w P' rs A') (hl : rs.length ≤ 100000) (hsz : ∀ r ∈ rs, r.body.size ≤ 4611686018427387903) :
    Calls Tryz.prog 7 #[.slice A rs.length cap, .slice A' rs.length cap'] w fun e w' => e = .returned (.bool true) ∧ Below w.heap.size w w' := by
  have HA := Lib.hid hA
  have HA' := Lib.hid hA'
  have HS := Lib.hid hsz
  have hn : ((rs.length : Int) != (rs.length : Int)) = false := by simp
  clear hA hA' hsz
  go_enter Tryz.func7, Tryz.ntmps7
  go_wp2
  go_loopw [5] (fun i wr => ∃ k : Nat, i = .int .i64 (k : Int) ∧ k ≤ rs.length ∧ Hid (Below w.heap.size w wr)) (fun i _ => rs.length - (intOf i).toNat)
  case atStart => exact ⟨0, rfl, Nat.zero_le _, Lib.hid (Below.refl _ _)⟩
  case round =>
    obtain ⟨k, rfl, hk, HB⟩ := hrel
    by_cases hlt : k < rs.length
    · obtain ⟨r, hr⟩ : ∃ r, rs[k]? = some r := ⟨_, List.getElem?_eq_getElem hlt⟩
      obtain ⟨b, o, B, capb, rfl, _, _, c, ⟨c0, c1, c2, c3, c4, c5, c6, c7⟩, ht⟩ := (HA.out.below HB.out) k r hr
      obtain ⟨b', o', B', capb', rfl, _, _, d, ⟨d0, d1, d2, d3, d4, d5, d6, d7⟩, ht'⟩ := (HA'.out.below HB.out) k r hr
      have hdl : (k : Int) < (rs.length : Int) := by omega
      have hs : ((strOf r.name).toList == (strOf r.name).toList) = true := by simp
      have hs2 : (!((strOf r.name).toList == (strOf r.name).toList)) = false := by simp
      have HI := Lib.hid (nsame_go r.body P P' B B' capb capb' wr.drew (HS.out r (List.mem_of_getElem? hr)) (ht.below (Below.refl _ _).drew) (ht'.below (Below.refl _ _).drew))
      clear hr ht ht'
      go_wp2
      go_still_tail 22, (by kernel_rfl)
      change wpList _ _ _ _ _ wr.drew
      clear c c0 c1 c2 c3 c4 c5 c6 c7 d d0 d1 d2 d3 d4 d5 d6 d7
      unfold ndV at HI
      go_wp2_with fail
      refine HI.out.mono ?_
      rintro e w3 ⟨rfl, hb3⟩
      have HB3 := Lib.hid (HB.out.drew.trans (hb3.mono HB.out.drew.size))
      clear hb3 HI
      go_wp2
      go_roundw
      case rel => exact ⟨k + 1, by go_num, by omega, HB3⟩
      case measure => simp [intOf]; omega
    · have hdl : ¬ (k : Int) < (rs.length : Int) := by omega
      go_wp2
      go_light
      go_ret
      exact ⟨rfl, HB.out⟩
end Go.Proofs.YtajohcknenngnaaGreat
