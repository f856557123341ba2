/-
  DERIVED. GIVEN WITH THE SEED: THE CARDS: each row of YtfekpkelmliejaaGreatDoorRows.lean that lists a variable, with what it lists TIED to the program's text (the seventh form; the later family's looks); each row that meets fmt, with fmt's text TOLD by the authors' own Lean function (tested against real Go, not proved from fmt's source: count such statements apart). THE CARD IS WHAT COUNTS. Prove the row's statement (the work); the ties are given (YtfekpkelmliejaaGreatDoorTie.lean); close each card by the builder's one call (the guide's Derived/Test/ToyasCard.lean, 'card_holds'). Laid BY PROGRAM, IN A SANDBOX (cutbox-door.mjs). By AI agents, Wed Nov 11 2026. No macro, syntax, notation, axiom, sorry.
-/
import Derived.Test.YtfekpkelmliejaaGreatDoorRows
import GoSem.ClaimSeven
namespace Go.Proofs.YtfekpkelmliejaaGreatDoor
namespace Rows

/-- THE TIED CARD OF 'doubletlaw10.FactsLeast'. -/
def factsLeastCard : Claim7 := { stood := { row := factsLeastRow, standIns := [], harness := (true, "0471b5821ee0f02e0c0bf0048e9bb676a569c9657d229325bea5ea2b502badfa"), looks := true }, kinds := [], alts := [], laidByText := true, laidKinds := [.data], laidTests := true, laidLooks := .later }
def FactsLeastCardSaid : Prop := Claim7.holds Tryz.pinned (.plain (OpenSpec.ofChange factsLeastSpec)) factsLeastCard

/-- THE TIED CARD OF 'doubletlaw10.FactsLengths'. -/
def factsLengthsCard : Claim7 := { stood := { row := factsLengthsRow, standIns := [], harness := (true, "0471b5821ee0f02e0c0bf0048e9bb676a569c9657d229325bea5ea2b502badfa"), looks := true }, kinds := [], alts := [], laidByText := true, laidKinds := [.data], laidTests := true, laidLooks := .later }
def FactsLengthsCardSaid : Prop := Claim7.holds Tryz.pinned (.plain (OpenSpec.ofChange factsLengthsSpec)) factsLengthsCard

/-- THE TIED CARD OF 'doubletlaw17.ClosureSteps'. -/
def closureStepsCard : Claim7 := { stood := { row := closureStepsRow, standIns := [], harness := (true, "0471b5821ee0f02e0c0bf0048e9bb676a569c9657d229325bea5ea2b502badfa"), looks := true }, kinds := [], alts := [], laidByText := true, laidKinds := [.data], laidTests := true, laidLooks := .later }
def ClosureStepsCardSaid : Prop := Claim7.holds Tryz.pinned (.plain (OpenSpec.ofChange closureStepsSpec)) closureStepsCard

/-- THE TIED CARD OF 'doubletlaw17.ClosureRuns'. -/
def closureRunsCard : Claim7 := { stood := { row := closureRunsRow, standIns := [], harness := (true, "0471b5821ee0f02e0c0bf0048e9bb676a569c9657d229325bea5ea2b502badfa"), looks := true }, kinds := [], alts := [], laidByText := true, laidKinds := [.data], laidTests := true, laidLooks := .later }
def ClosureRunsCardSaid : Prop := Claim7.holds Tryz.pinned (.plain (OpenSpec.ofChange closureRunsSpec)) closureRunsCard

/-- THE TIED CARD OF 'doubletlaw17.ClosureJoined'. -/
def closureJoinedCard : Claim7 := { stood := { row := closureJoinedRow, standIns := [], harness := (true, "0471b5821ee0f02e0c0bf0048e9bb676a569c9657d229325bea5ea2b502badfa"), looks := true }, kinds := [], alts := [], laidByText := true, laidKinds := [.data], laidTests := true, laidLooks := .later }
def ClosureJoinedCardSaid : Prop := Claim7.holds Tryz.pinned (.plain (OpenSpec.ofChange closureJoinedSpec)) closureJoinedCard

/-- THE TIED CARD OF 'doubletlaw17.ClosureNil'. -/
def closureNilCard : Claim7 := { stood := { row := closureNilRow, standIns := [], harness := (true, "0471b5821ee0f02e0c0bf0048e9bb676a569c9657d229325bea5ea2b502badfa"), looks := true }, kinds := [], alts := [], laidByText := true, laidKinds := [.data], laidTests := true, laidLooks := .later }
def ClosureNilCardSaid : Prop := Claim7.holds Tryz.pinned (.plain (OpenSpec.ofChange closureNilSpec)) closureNilCard

/-- THE TIED CARD OF 'doubletlaw10.FactsJoined'. -/
def factsJoinedCard : Claim7 := { stood := { row := factsJoinedRow, standIns := [], harness := (true, "0471b5821ee0f02e0c0bf0048e9bb676a569c9657d229325bea5ea2b502badfa"), looks := true }, kinds := [], alts := [], laidByText := true, laidKinds := [.data], laidTests := true, laidLooks := .later }
def FactsJoinedCardSaid : Prop := Claim7.holds Tryz.pinned (.plain (OpenSpec.ofChange factsJoinedSpec)) factsJoinedCard

/-- THE TIED CARD OF 'doubletlaw09.SpecTexts'. -/
def specTextsCard : Claim7 := { stood := { row := specTextsRow, standIns := [], harness := (true, "0471b5821ee0f02e0c0bf0048e9bb676a569c9657d229325bea5ea2b502badfa"), looks := true }, kinds := [], alts := [], laidByText := true, laidKinds := [.data], laidTests := true, laidLooks := .later }
def SpecTextsCardSaid : Prop := Claim7.holds Tryz.pinned (.plain (OpenSpec.ofChange specTextsSpec)) specTextsCard

/-- THE TIED CARD OF 'doubletlaw09.SpecBack'. -/
def specBackCard : Claim7 := { stood := { row := specBackRow, standIns := [], harness := (true, "0471b5821ee0f02e0c0bf0048e9bb676a569c9657d229325bea5ea2b502badfa"), looks := true }, kinds := [], alts := [], laidByText := true, laidKinds := [.data], laidTests := true, laidLooks := .later }
def SpecBackCardSaid : Prop := Claim7.holds Tryz.pinned (.plain (OpenSpec.ofChange specBackSpec)) specBackCard

/-- THE SECOND FORM's CARD OF 'doubletlaw10.FactsLeast'. -/
def factsLeastUptoCard : Claim7 := { stood := { row := factsLeastUptoRow, standIns := [], harness := (true, "0471b5821ee0f02e0c0bf0048e9bb676a569c9657d229325bea5ea2b502badfa"), looks := true }, kinds := [], alts := [], laidByText := true, laidKinds := [.data], laidTests := true, laidLooks := .later }
def FactsLeastUptoCardSaid : Prop := Claim7.holds Tryz.pinned (.plain (OpenSpec.upto factsLeastSpec)) factsLeastUptoCard

/-- THE SECOND FORM's CARD OF 'doubletlaw10.FactsLengths'. -/
def factsLengthsUptoCard : Claim7 := { stood := { row := factsLengthsUptoRow, standIns := [], harness := (true, "0471b5821ee0f02e0c0bf0048e9bb676a569c9657d229325bea5ea2b502badfa"), looks := true }, kinds := [], alts := [], laidByText := true, laidKinds := [.data], laidTests := true, laidLooks := .later }
def FactsLengthsUptoCardSaid : Prop := Claim7.holds Tryz.pinned (.plain (OpenSpec.upto factsLengthsSpec)) factsLengthsUptoCard

/-- THE SECOND FORM's CARD OF 'doubletlaw17.ClosureSteps'. -/
def closureStepsUptoCard : Claim7 := { stood := { row := closureStepsUptoRow, standIns := [], harness := (true, "0471b5821ee0f02e0c0bf0048e9bb676a569c9657d229325bea5ea2b502badfa"), looks := true }, kinds := [], alts := [], laidByText := true, laidKinds := [.data], laidTests := true, laidLooks := .later }
def ClosureStepsUptoCardSaid : Prop := Claim7.holds Tryz.pinned (.plain (OpenSpec.upto closureStepsSpec)) closureStepsUptoCard

/-- THE SECOND FORM's CARD OF 'doubletlaw17.ClosureRuns'. -/
def closureRunsUptoCard : Claim7 := { stood := { row := closureRunsUptoRow, standIns := [], harness := (true, "0471b5821ee0f02e0c0bf0048e9bb676a569c9657d229325bea5ea2b502badfa"), looks := true }, kinds := [], alts := [], laidByText := true, laidKinds := [.data], laidTests := true, laidLooks := .later }
def ClosureRunsUptoCardSaid : Prop := Claim7.holds Tryz.pinned (.plain (OpenSpec.upto closureRunsSpec)) closureRunsUptoCard

/-- THE SECOND FORM's CARD OF 'doubletlaw17.ClosureJoined'. -/
def closureJoinedUptoCard : Claim7 := { stood := { row := closureJoinedUptoRow, standIns := [], harness := (true, "0471b5821ee0f02e0c0bf0048e9bb676a569c9657d229325bea5ea2b502badfa"), looks := true }, kinds := [], alts := [], laidByText := true, laidKinds := [.data], laidTests := true, laidLooks := .later }
def ClosureJoinedUptoCardSaid : Prop := Claim7.holds Tryz.pinned (.plain (OpenSpec.upto closureJoinedSpec)) closureJoinedUptoCard

/-- THE SECOND FORM's CARD OF 'doubletlaw17.ClosureNil'. -/
def closureNilUptoCard : Claim7 := { stood := { row := closureNilUptoRow, standIns := [], harness := (true, "0471b5821ee0f02e0c0bf0048e9bb676a569c9657d229325bea5ea2b502badfa"), looks := true }, kinds := [], alts := [], laidByText := true, laidKinds := [.data], laidTests := true, laidLooks := .later }
def ClosureNilUptoCardSaid : Prop := Claim7.holds Tryz.pinned (.plain (OpenSpec.upto closureNilSpec)) closureNilUptoCard

/-- THE SECOND FORM's CARD OF 'doubletlaw10.FactsJoined'. -/
def factsJoinedUptoCard : Claim7 := { stood := { row := factsJoinedUptoRow, standIns := [], harness := (true, "0471b5821ee0f02e0c0bf0048e9bb676a569c9657d229325bea5ea2b502badfa"), looks := true }, kinds := [], alts := [], laidByText := true, laidKinds := [.data], laidTests := true, laidLooks := .later }
def FactsJoinedUptoCardSaid : Prop := Claim7.holds Tryz.pinned (.plain (OpenSpec.upto factsJoinedSpec)) factsJoinedUptoCard

/-- THE SECOND FORM's CARD OF 'doubletlaw09.SpecTexts'. -/
def specTextsUptoCard : Claim7 := { stood := { row := specTextsUptoRow, standIns := [], harness := (true, "0471b5821ee0f02e0c0bf0048e9bb676a569c9657d229325bea5ea2b502badfa"), looks := true }, kinds := [], alts := [], laidByText := true, laidKinds := [.data], laidTests := true, laidLooks := .later }
def SpecTextsUptoCardSaid : Prop := Claim7.holds Tryz.pinned (.plain (OpenSpec.upto specTextsSpec)) specTextsUptoCard

/-- THE SECOND FORM's CARD OF 'doubletlaw09.SpecBack'. -/
def specBackUptoCard : Claim7 := { stood := { row := specBackUptoRow, standIns := [], harness := (true, "0471b5821ee0f02e0c0bf0048e9bb676a569c9657d229325bea5ea2b502badfa"), looks := true }, kinds := [], alts := [], laidByText := true, laidKinds := [.data], laidTests := true, laidLooks := .later }
def SpecBackUptoCardSaid : Prop := Claim7.holds Tryz.pinned (.plain (OpenSpec.upto specBackSpec)) specBackUptoCard
end Rows
end Go.Proofs.YtfekpkelmliejaaGreatDoor
