/- Texts of the claim. -/
import Derived.Test.YtfekpkelmliejaaGreatDoorQCloKn
import Derived.Test.YtfekpkelmliejaaGreatDoorQCloNil
namespace Go.Proofs.YtfekpkelmliejaaGreatDoor
open Go.RowKit
set_option linter.unusedSimpArgs false
set_option linter.unusedVariables false
set_option maxRecDepth 100000
set_option maxHeartbeats 8000000
theorem cnil_law (A : Option Addr) (cap : Nat) (l : List Int) (B : Option Addr) (cb : Nat) (bs : List Nat) (w : World) (hb : BytesAt w w.heap.size B bs) (hcb : bs.length ≤ cb) (hT : TabAt 1 Lib.deBruijn64tab w) (hw0 : 1 < w.heap.size) :
  Calls Tryz.prog 8 #[.slice A l.length cap, .slice B bs.length cb] w fun e w' => e = .returned (.bool true) ∧ Below w.heap.size w w' := by
 have H1 := Lib.hid (nstart_go w)
 have H2 := Lib.hid (nclosure_go A l.length cap w)
 have H3 := Lib.hid (nstep_go A l.length cap 1 w)
 have H4 := Lib.hid (nrun_go B cb bs w hb hcb)
 have H5 := Lib.hid (nlabels_go A l.length cap w)
 have H6 := Lib.hid (ntell_go B cb bs w hb hcb)
 have H7 := Lib.hid (knows17_go w hT hw0)
 clear hb hcb hT hw0
 go_enter Tryz.func8, Tryz.ntmps8
 go_wp2_with fail
 refine H1.out.mono ?_
 rintro e w1 ⟨rfl, rfl⟩
 dsimp only
 go_wp2_with fail
 refine H2.out.mono ?_
 rintro e w1 ⟨rfl, rfl⟩
 dsimp only
 go_wp2_with fail
 refine H3.out.mono ?_
 rintro e w1 ⟨rfl, rfl⟩
 dsimp only
 go_wp2_with fail
 refine H4.out.mono ?_
 rintro e w1 ⟨rfl, rfl⟩
 dsimp only
 go_wp2_with fail
 refine H5.out.mono ?_
 rintro e w1 ⟨rfl, rfl⟩
 dsimp only
 go_wp2_with fail
 refine H6.out.mono ?_
 rintro e w1 ⟨rfl, rfl⟩
 dsimp only
 go_wp2_with fail
 refine H7.out.mono ?_
 rintro e w7 ⟨rfl, hb7⟩
 have HB := Lib.hid hb7
 clear hb7
 dsimp only
 go_wp2
 go_light
 go_ret
 exact ⟨rfl, HB.out⟩
end Go.Proofs.YtfekpkelmliejaaGreatDoor
