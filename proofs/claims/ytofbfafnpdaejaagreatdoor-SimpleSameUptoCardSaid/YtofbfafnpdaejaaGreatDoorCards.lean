/-
  DERIVED. GIVEN WITH THE SEED: THE CARDS: each row of YtofbfafnpdaejaaGreatDoorRows.lean that lists a variable, with what it lists TIED to the program's text (the seventh form; the later family's looks); each row that meets fmt, with fmt's text TOLD by the authors' own Lean function (tested against real Go, not proved from fmt's source: count such statements apart). THE CARD IS WHAT COUNTS. Prove the row's statement (the work); the ties are given (YtofbfafnpdaejaaGreatDoorTie.lean); close each card by the builder's one call (the guide's Derived/Test/ToyasCard.lean, 'card_holds'). Laid BY PROGRAM, IN A SANDBOX (cutbox-door.mjs). By AI agents, Wed Nov 11 2026. No macro, syntax, notation, axiom, sorry.
-/
import Derived.Test.YtofbfafnpdaejaaGreatDoorRows
import GoSem.ClaimSeven
namespace Go.Proofs.YtofbfafnpdaejaaGreatDoor
namespace Rows

/-- THE TIED CARD OF 'doubletlaw18.MirrorSays'. -/
def mirrorSaysCard : Claim7 := { stood := { row := mirrorSaysRow, standIns := [], harness := (true, "c45dc3be1aec2ab550f20a00bdde9a60327b27f260fda9c26e421f5930496b98"), looks := true }, kinds := [], alts := [], laidByText := true, laidKinds := [.data], laidTests := true, laidLooks := .later }
def MirrorSaysCardSaid : Prop := Claim7.holds Tryz.pinned (.plain (OpenSpec.ofChange mirrorSaysSpec)) mirrorSaysCard

/-- THE TIED CARD OF 'doubletlaw18.MirrorTells'. -/
def mirrorTellsCard : Claim7 := { stood := { row := mirrorTellsRow, standIns := [], harness := (true, "c45dc3be1aec2ab550f20a00bdde9a60327b27f260fda9c26e421f5930496b98"), looks := true }, kinds := [], alts := [], laidByText := true, laidKinds := [.data], laidTests := true, laidLooks := .later }
def MirrorTellsCardSaid : Prop := Claim7.holds Tryz.pinned (.plain (OpenSpec.ofChange mirrorTellsSpec)) mirrorTellsCard

/-- THE TIED CARD OF 'doubletlaw12.SimpleOf'. -/
def simpleOfCard : Claim7 := { stood := { row := simpleOfRow, standIns := [], harness := (true, "c45dc3be1aec2ab550f20a00bdde9a60327b27f260fda9c26e421f5930496b98"), looks := true }, kinds := [], alts := [], laidByText := true, laidKinds := [.data], laidTests := true, laidLooks := .later }
def SimpleOfCardSaid : Prop := Claim7.holds Tryz.pinned (.plain (OpenSpec.ofChange simpleOfSpec)) simpleOfCard

/-- THE TIED CARD OF 'doubletlaw12.SimpleMakes'. -/
def simpleMakesCard : Claim7 := { stood := { row := simpleMakesRow, standIns := [], harness := (true, "c45dc3be1aec2ab550f20a00bdde9a60327b27f260fda9c26e421f5930496b98"), looks := true }, kinds := [], alts := [], laidByText := true, laidKinds := [.data], laidTests := true, laidLooks := .later }
def SimpleMakesCardSaid : Prop := Claim7.holds Tryz.pinned (.plain (OpenSpec.ofChange simpleMakesSpec)) simpleMakesCard

/-- THE TIED CARD OF 'doubletlaw12.SimpleRepeats'. -/
def simpleRepeatsCard : Claim7 := { stood := { row := simpleRepeatsRow, standIns := [], harness := (true, "c45dc3be1aec2ab550f20a00bdde9a60327b27f260fda9c26e421f5930496b98"), looks := true }, kinds := [], alts := [], laidByText := true, laidKinds := [.data], laidTests := true, laidLooks := .later }
def SimpleRepeatsCardSaid : Prop := Claim7.holds Tryz.pinned (.plain (OpenSpec.ofChange simpleRepeatsSpec)) simpleRepeatsCard

/-- THE TIED CARD OF 'doubletlaw17.ClosureSaid'. -/
def closureSaidCard : Claim7 := { stood := { row := closureSaidRow, standIns := [], harness := (true, "c45dc3be1aec2ab550f20a00bdde9a60327b27f260fda9c26e421f5930496b98"), looks := true }, kinds := [], alts := [], laidByText := true, laidKinds := [.data], laidTests := true, laidLooks := .later }
def ClosureSaidCardSaid : Prop := Claim7.holds Tryz.pinned (.plain (OpenSpec.ofChange closureSaidSpec)) closureSaidCard

/-- THE TIED CARD OF 'doubletlaw11.MatchFacts'. -/
def matchFactsCard : Claim7 := { stood := { row := matchFactsRow, standIns := [], harness := (true, "c45dc3be1aec2ab550f20a00bdde9a60327b27f260fda9c26e421f5930496b98"), looks := true }, kinds := [], alts := [], laidByText := true, laidKinds := [.data], laidTests := true, laidLooks := .later }
def MatchFactsCardSaid : Prop := Claim7.holds Tryz.pinned (.plain (OpenSpec.ofChange matchFactsSpec)) matchFactsCard

/-- THE TIED CARD OF 'doubletlaw12.SimpleSame'. -/
def simpleSameCard : Claim7 := { stood := { row := simpleSameRow, standIns := [], harness := (true, "c45dc3be1aec2ab550f20a00bdde9a60327b27f260fda9c26e421f5930496b98"), looks := true }, kinds := [], alts := [], laidByText := true, laidKinds := [.data], laidTests := true, laidLooks := .later }
def SimpleSameCardSaid : Prop := Claim7.holds Tryz.pinned (.plain (OpenSpec.ofChange simpleSameSpec)) simpleSameCard

/-- THE SECOND FORM's CARD OF 'doubletlaw18.MirrorSays'. -/
def mirrorSaysUptoCard : Claim7 := { stood := { row := mirrorSaysUptoRow, standIns := [], harness := (true, "c45dc3be1aec2ab550f20a00bdde9a60327b27f260fda9c26e421f5930496b98"), looks := true }, kinds := [], alts := [], laidByText := true, laidKinds := [.data], laidTests := true, laidLooks := .later }
def MirrorSaysUptoCardSaid : Prop := Claim7.holds Tryz.pinned (.plain (OpenSpec.upto mirrorSaysSpec)) mirrorSaysUptoCard

/-- THE SECOND FORM's CARD OF 'doubletlaw18.MirrorTells'. -/
def mirrorTellsUptoCard : Claim7 := { stood := { row := mirrorTellsUptoRow, standIns := [], harness := (true, "c45dc3be1aec2ab550f20a00bdde9a60327b27f260fda9c26e421f5930496b98"), looks := true }, kinds := [], alts := [], laidByText := true, laidKinds := [.data], laidTests := true, laidLooks := .later }
def MirrorTellsUptoCardSaid : Prop := Claim7.holds Tryz.pinned (.plain (OpenSpec.upto mirrorTellsSpec)) mirrorTellsUptoCard

/-- THE SECOND FORM's CARD OF 'doubletlaw12.SimpleOf'. -/
def simpleOfUptoCard : Claim7 := { stood := { row := simpleOfUptoRow, standIns := [], harness := (true, "c45dc3be1aec2ab550f20a00bdde9a60327b27f260fda9c26e421f5930496b98"), looks := true }, kinds := [], alts := [], laidByText := true, laidKinds := [.data], laidTests := true, laidLooks := .later }
def SimpleOfUptoCardSaid : Prop := Claim7.holds Tryz.pinned (.plain (OpenSpec.upto simpleOfSpec)) simpleOfUptoCard

/-- THE SECOND FORM's CARD OF 'doubletlaw12.SimpleMakes'. -/
def simpleMakesUptoCard : Claim7 := { stood := { row := simpleMakesUptoRow, standIns := [], harness := (true, "c45dc3be1aec2ab550f20a00bdde9a60327b27f260fda9c26e421f5930496b98"), looks := true }, kinds := [], alts := [], laidByText := true, laidKinds := [.data], laidTests := true, laidLooks := .later }
def SimpleMakesUptoCardSaid : Prop := Claim7.holds Tryz.pinned (.plain (OpenSpec.upto simpleMakesSpec)) simpleMakesUptoCard

/-- THE SECOND FORM's CARD OF 'doubletlaw12.SimpleRepeats'. -/
def simpleRepeatsUptoCard : Claim7 := { stood := { row := simpleRepeatsUptoRow, standIns := [], harness := (true, "c45dc3be1aec2ab550f20a00bdde9a60327b27f260fda9c26e421f5930496b98"), looks := true }, kinds := [], alts := [], laidByText := true, laidKinds := [.data], laidTests := true, laidLooks := .later }
def SimpleRepeatsUptoCardSaid : Prop := Claim7.holds Tryz.pinned (.plain (OpenSpec.upto simpleRepeatsSpec)) simpleRepeatsUptoCard

/-- THE SECOND FORM's CARD OF 'doubletlaw17.ClosureSaid'. -/
def closureSaidUptoCard : Claim7 := { stood := { row := closureSaidUptoRow, standIns := [], harness := (true, "c45dc3be1aec2ab550f20a00bdde9a60327b27f260fda9c26e421f5930496b98"), looks := true }, kinds := [], alts := [], laidByText := true, laidKinds := [.data], laidTests := true, laidLooks := .later }
def ClosureSaidUptoCardSaid : Prop := Claim7.holds Tryz.pinned (.plain (OpenSpec.upto closureSaidSpec)) closureSaidUptoCard

/-- THE SECOND FORM's CARD OF 'doubletlaw11.MatchFacts'. -/
def matchFactsUptoCard : Claim7 := { stood := { row := matchFactsUptoRow, standIns := [], harness := (true, "c45dc3be1aec2ab550f20a00bdde9a60327b27f260fda9c26e421f5930496b98"), looks := true }, kinds := [], alts := [], laidByText := true, laidKinds := [.data], laidTests := true, laidLooks := .later }
def MatchFactsUptoCardSaid : Prop := Claim7.holds Tryz.pinned (.plain (OpenSpec.upto matchFactsSpec)) matchFactsUptoCard

/-- THE SECOND FORM's CARD OF 'doubletlaw12.SimpleSame'. -/
def simpleSameUptoCard : Claim7 := { stood := { row := simpleSameUptoRow, standIns := [], harness := (true, "c45dc3be1aec2ab550f20a00bdde9a60327b27f260fda9c26e421f5930496b98"), looks := true }, kinds := [], alts := [], laidByText := true, laidKinds := [.data], laidTests := true, laidLooks := .later }
def SimpleSameUptoCardSaid : Prop := Claim7.holds Tryz.pinned (.plain (OpenSpec.upto simpleSameSpec)) simpleSameUptoCard
end Rows
end Go.Proofs.YtofbfafnpdaejaaGreatDoor
