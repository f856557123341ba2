/- Texts of the claim. -/
import Derived.Test.YtfekpkelmliejaaGreatDoorQSpcU
import Derived.Test.YtfekpkelmliejaaGreatDoorQKnows09
namespace Go.Proofs.YtfekpkelmliejaaGreatDoor
open Go.RowKit Go.Maps
set_option linter.unusedSimpArgs false
set_option linter.unusedVariables false
set_option maxRecDepth 100000
set_option maxHeartbeats 8000000
theorem texts9_law (A : Option Addr) (cap : Nat) (rs : List RuleS) (bs : List Nat) (w : World) (hA : RulesAt w (fun b => b < w.heap.size) rs A) (hF : Fit rs) (hcap : rs.length ≤ cap) (h256 : ∀ c ∈ bs, c < 256) (hlen : bs.length ≤ 2000000) (hT : TabAt 1 Lib.deBruijn64tab w) (hw0 : 1 < w.heap.size) :
  Calls Tryz.prog 10 #[.slice A rs.length cap, .string (strOf bs)] w fun e w' => e = .returned (.bool true) ∧ Below w.heap.size w w' := by
 have hAt : ∀ w1, Below w.heap.size w w1 → RulesAt w1 (fun b => b < w1.heap.size) rs A := fun w1 hb => (hA.below hb).weak (fun b h _ => Nat.lt_of_lt_of_le h hb.size)
 have H1 := Lib.hid (stext9_go A cap rs w hA hF hT hw0)
 have H2 := Lib.hid (fun w1 (hb : Below w.heap.size w w1) => rtext9_go A cap rs w1 (hAt w1 hb) hF hcap)
 have H3 := Lib.hid (fun w1 (hb : Below w.heap.size w w1) => sspright_go A cap rs w1 (hAt w1 hb) hF)
 have H4 := Lib.hid (fun w1 (hb : Below w.heap.size w w1) => rright9_go A cap rs w1 (hAt w1 hb) hF hcap)
 have H5 := Lib.hid (fun w1 => sname_go bs h256 (by omega) w1)
 have H6 := Lib.hid (fun w1 => rname_go bs h256 (by omega) w1)
 clear hA hF hT hAt
 generalize rightR rs = rr at *
 generalize nameB bs = nb at *
 cases ht : textR rs with
 | ok s =>
  rw [ht] at H1
  rw [ht] at H2
  unfold txtV at H1 H2
  have hee : ((strOf s).toList == (strOf s).toList) = true := by simp
  clear ht
  go_enter Tryz.func10, Tryz.ntmps10
  go_wp2_with fail
  refine H1.out.mono ?_
  rintro e w1 ⟨rfl, hb1⟩
  have HB1 := Lib.hid hb1
  have HC2 := Lib.hid (H2.out w1 hb1)
  clear hb1 H1 H2
  dsimp only
  go_wp2_with fail
  refine HC2.out.mono ?_
  rintro e w2 ⟨rfl, hb2⟩
  have HB2 := Lib.hid (HB1.out.trans (hb2.mono HB1.out.size))
  have HC3 := Lib.hid (H3.out w2 HB2.out)
  clear hb2 HC2 HB1
  dsimp only
  go_wp2_with fail
  refine HC3.out.mono ?_
  rintro e w3 ⟨rfl, hb3⟩
  have HB3 := Lib.hid (HB2.out.trans (hb3.mono HB2.out.size))
  have HC4 := Lib.hid (H4.out w3 HB3.out)
  clear hb3 HC3 HB2
  dsimp only
  go_wp2_with fail
  refine HC4.out.mono ?_
  rintro e w4 ⟨rfl, hb4⟩
  have HB4 := Lib.hid (HB3.out.trans (hb4.mono HB3.out.size))
  clear hb4 HC4 HB3
  dsimp only
  go_wp2_with fail
  refine (H5.out w4).mono ?_
  rintro e _ ⟨rfl, rfl⟩
  dsimp only
  go_wp2_with fail
  refine (H6.out w4).mono ?_
  rintro e _ ⟨rfl, rfl⟩
  dsimp only
  go_wp2_with fail
  refine (knows09_go w4).mono ?_
  rintro e w7 ⟨rfl, hb7⟩
  have HB7 := Lib.hid (HB4.out.trans (hb7.mono HB4.out.size))
  clear hb7 HB4
  dsimp only
  go_wp2
  go_light
  go_ret
  exact ⟨rfl, HB7.out⟩
 | error q =>
  rw [ht] at H1
  rw [ht] at H2
  unfold txtV at H1 H2
  clear ht
  go_enter Tryz.func10, Tryz.ntmps10
  go_wp2_with fail
  refine H1.out.mono ?_
  rintro e w1 ⟨rfl, hb1⟩
  have HB1 := Lib.hid hb1
  have HC2 := Lib.hid (H2.out w1 hb1)
  clear hb1 H1 H2
  dsimp only
  go_wp2_with fail
  refine HC2.out.mono ?_
  rintro e w2 ⟨rfl, hb2⟩
  have HB2 := Lib.hid (HB1.out.trans (hb2.mono HB1.out.size))
  have HC3 := Lib.hid (H3.out w2 HB2.out)
  clear hb2 HC2 HB1
  dsimp only
  go_wp2_with fail
  refine HC3.out.mono ?_
  rintro e w3 ⟨rfl, hb3⟩
  have HB3 := Lib.hid (HB2.out.trans (hb3.mono HB2.out.size))
  have HC4 := Lib.hid (H4.out w3 HB3.out)
  clear hb3 HC3 HB2
  dsimp only
  go_wp2_with fail
  refine HC4.out.mono ?_
  rintro e w4 ⟨rfl, hb4⟩
  have HB4 := Lib.hid (HB3.out.trans (hb4.mono HB3.out.size))
  clear hb4 HC4 HB3
  dsimp only
  go_wp2_with fail
  refine (H5.out w4).mono ?_
  rintro e _ ⟨rfl, rfl⟩
  dsimp only
  go_wp2_with fail
  refine (H6.out w4).mono ?_
  rintro e _ ⟨rfl, rfl⟩
  dsimp only
  go_wp2_with fail
  refine (knows09_go w4).mono ?_
  rintro e w7 ⟨rfl, hb7⟩
  have HB7 := Lib.hid (HB4.out.trans (hb7.mono HB4.out.size))
  clear hb7 HB4
  dsimp only
  go_wp2
  go_light
  go_ret
  exact ⟨rfl, HB7.out⟩
end Go.Proofs.YtfekpkelmliejaaGreatDoor
