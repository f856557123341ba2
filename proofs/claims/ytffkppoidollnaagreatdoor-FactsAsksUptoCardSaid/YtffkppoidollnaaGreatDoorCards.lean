/-
  DERIVED. GIVEN WITH THE SEED: THE CARDS: each row of YtffkppoidollnaaGreatDoorRows.lean that lists a variable, with what it lists TIED to the program's text (the seventh form; the later family's looks); each row that meets fmt, with fmt's text TOLD by the authors' own Lean function (tested against real Go, not proved from fmt's source: count such statements apart). THE CARD IS WHAT COUNTS. Prove the row's statement (the work); the ties are given (YtffkppoidollnaaGreatDoorTie.lean); close each card by the builder's one call (the guide's Derived/Test/ToyasCard.lean, 'card_holds'). Laid BY PROGRAM, IN A SANDBOX (cutbox-door.mjs). By AI agents, Wed Nov 11 2026. No macro, syntax, notation, axiom, sorry.
-/
import Derived.Test.YtffkppoidollnaaGreatDoorRows
import GoSem.ClaimSeven
namespace Go.Proofs.YtffkppoidollnaaGreatDoor
namespace Rows

/-- THE TIED CARD OF 'doubletlaw18.MirrorNfa'. -/
def mirrorNfaCard : Claim7 := { stood := { row := mirrorNfaRow, standIns := [], harness := (true, "df7a5a77040094f4628aa68db16f8ffcbf49487f39627d5c7ec3f0d52b4b4e09"), looks := true }, kinds := [], alts := [], laidByText := true, laidKinds := [.data], laidTests := true, laidLooks := .later }
def MirrorNfaCardSaid : Prop := Claim7.holds Tryz.pinned (.plain (OpenSpec.ofChange mirrorNfaSpec)) mirrorNfaCard

/-- THE TIED CARD OF 'doubletlaw10.FactsAsks'. -/
def factsAsksCard : Claim7 := { stood := { row := factsAsksRow, standIns := [], harness := (true, "df7a5a77040094f4628aa68db16f8ffcbf49487f39627d5c7ec3f0d52b4b4e09"), looks := true }, kinds := [], alts := [], laidByText := true, laidKinds := [.data], laidTests := true, laidLooks := .later }
def FactsAsksCardSaid : Prop := Claim7.holds Tryz.pinned (.plain (OpenSpec.ofChange factsAsksSpec)) factsAsksCard

/-- THE TIED CARD OF 'doubletlaw10.FactsLengths'. -/
def factsLengthsCard : Claim7 := { stood := { row := factsLengthsRow, standIns := [], harness := (true, "df7a5a77040094f4628aa68db16f8ffcbf49487f39627d5c7ec3f0d52b4b4e09"), looks := true }, kinds := [], alts := [], laidByText := true, laidKinds := [.data], laidTests := true, laidLooks := .later }
def FactsLengthsCardSaid : Prop := Claim7.holds Tryz.pinned (.plain (OpenSpec.ofChange factsLengthsSpec)) factsLengthsCard

/-- THE TIED CARD OF 'doubletlaw10.FactsLeast'. -/
def factsLeastCard : Claim7 := { stood := { row := factsLeastRow, standIns := [], harness := (true, "df7a5a77040094f4628aa68db16f8ffcbf49487f39627d5c7ec3f0d52b4b4e09"), looks := true }, kinds := [], alts := [], laidByText := true, laidKinds := [.data], laidTests := true, laidLooks := .later }
def FactsLeastCardSaid : Prop := Claim7.holds Tryz.pinned (.plain (OpenSpec.ofChange factsLeastSpec)) factsLeastCard

/-- THE TIED CARD OF 'doubletlaw10.FactsJoined'. -/
def factsJoinedCard : Claim7 := { stood := { row := factsJoinedRow, standIns := [], harness := (true, "df7a5a77040094f4628aa68db16f8ffcbf49487f39627d5c7ec3f0d52b4b4e09"), looks := true }, kinds := [], alts := [], laidByText := true, laidKinds := [.data], laidTests := true, laidLooks := .later }
def FactsJoinedCardSaid : Prop := Claim7.holds Tryz.pinned (.plain (OpenSpec.ofChange factsJoinedSpec)) factsJoinedCard

/-- THE TIED CARD OF 'doubletlaw09.SpecTexts'. -/
def specTextsCard : Claim7 := { stood := { row := specTextsRow, standIns := [], harness := (true, "df7a5a77040094f4628aa68db16f8ffcbf49487f39627d5c7ec3f0d52b4b4e09"), looks := true }, kinds := [], alts := [], laidByText := true, laidKinds := [.data], laidTests := true, laidLooks := .later }
def SpecTextsCardSaid : Prop := Claim7.holds Tryz.pinned (.plain (OpenSpec.ofChange specTextsSpec)) specTextsCard

/-- THE TIED CARD OF 'doubletlaw09.SpecBack'. -/
def specBackCard : Claim7 := { stood := { row := specBackRow, standIns := [], harness := (true, "df7a5a77040094f4628aa68db16f8ffcbf49487f39627d5c7ec3f0d52b4b4e09"), looks := true }, kinds := [], alts := [], laidByText := true, laidKinds := [.data], laidTests := true, laidLooks := .later }
def SpecBackCardSaid : Prop := Claim7.holds Tryz.pinned (.plain (OpenSpec.ofChange specBackSpec)) specBackCard

/-- THE SECOND FORM's CARD OF 'doubletlaw18.MirrorNfa'. -/
def mirrorNfaUptoCard : Claim7 := { stood := { row := mirrorNfaUptoRow, standIns := [], harness := (true, "df7a5a77040094f4628aa68db16f8ffcbf49487f39627d5c7ec3f0d52b4b4e09"), looks := true }, kinds := [], alts := [], laidByText := true, laidKinds := [.data], laidTests := true, laidLooks := .later }
def MirrorNfaUptoCardSaid : Prop := Claim7.holds Tryz.pinned (.plain (OpenSpec.upto mirrorNfaSpec)) mirrorNfaUptoCard

/-- THE SECOND FORM's CARD OF 'doubletlaw10.FactsAsks'. -/
def factsAsksUptoCard : Claim7 := { stood := { row := factsAsksUptoRow, standIns := [], harness := (true, "df7a5a77040094f4628aa68db16f8ffcbf49487f39627d5c7ec3f0d52b4b4e09"), looks := true }, kinds := [], alts := [], laidByText := true, laidKinds := [.data], laidTests := true, laidLooks := .later }
def FactsAsksUptoCardSaid : Prop := Claim7.holds Tryz.pinned (.plain (OpenSpec.upto factsAsksSpec)) factsAsksUptoCard

/-- THE SECOND FORM's CARD OF 'doubletlaw10.FactsLengths'. -/
def factsLengthsUptoCard : Claim7 := { stood := { row := factsLengthsUptoRow, standIns := [], harness := (true, "df7a5a77040094f4628aa68db16f8ffcbf49487f39627d5c7ec3f0d52b4b4e09"), looks := true }, kinds := [], alts := [], laidByText := true, laidKinds := [.data], laidTests := true, laidLooks := .later }
def FactsLengthsUptoCardSaid : Prop := Claim7.holds Tryz.pinned (.plain (OpenSpec.upto factsLengthsSpec)) factsLengthsUptoCard

/-- THE SECOND FORM's CARD OF 'doubletlaw10.FactsLeast'. -/
def factsLeastUptoCard : Claim7 := { stood := { row := factsLeastUptoRow, standIns := [], harness := (true, "df7a5a77040094f4628aa68db16f8ffcbf49487f39627d5c7ec3f0d52b4b4e09"), looks := true }, kinds := [], alts := [], laidByText := true, laidKinds := [.data], laidTests := true, laidLooks := .later }
def FactsLeastUptoCardSaid : Prop := Claim7.holds Tryz.pinned (.plain (OpenSpec.upto factsLeastSpec)) factsLeastUptoCard

/-- THE SECOND FORM's CARD OF 'doubletlaw10.FactsJoined'. -/
def factsJoinedUptoCard : Claim7 := { stood := { row := factsJoinedUptoRow, standIns := [], harness := (true, "df7a5a77040094f4628aa68db16f8ffcbf49487f39627d5c7ec3f0d52b4b4e09"), looks := true }, kinds := [], alts := [], laidByText := true, laidKinds := [.data], laidTests := true, laidLooks := .later }
def FactsJoinedUptoCardSaid : Prop := Claim7.holds Tryz.pinned (.plain (OpenSpec.upto factsJoinedSpec)) factsJoinedUptoCard

/-- THE SECOND FORM's CARD OF 'doubletlaw09.SpecTexts'. -/
def specTextsUptoCard : Claim7 := { stood := { row := specTextsUptoRow, standIns := [], harness := (true, "df7a5a77040094f4628aa68db16f8ffcbf49487f39627d5c7ec3f0d52b4b4e09"), looks := true }, kinds := [], alts := [], laidByText := true, laidKinds := [.data], laidTests := true, laidLooks := .later }
def SpecTextsUptoCardSaid : Prop := Claim7.holds Tryz.pinned (.plain (OpenSpec.upto specTextsSpec)) specTextsUptoCard

/-- THE SECOND FORM's CARD OF 'doubletlaw09.SpecBack'. -/
def specBackUptoCard : Claim7 := { stood := { row := specBackUptoRow, standIns := [], harness := (true, "df7a5a77040094f4628aa68db16f8ffcbf49487f39627d5c7ec3f0d52b4b4e09"), looks := true }, kinds := [], alts := [], laidByText := true, laidKinds := [.data], laidTests := true, laidLooks := .later }
def SpecBackUptoCardSaid : Prop := Claim7.holds Tryz.pinned (.plain (OpenSpec.upto specBackSpec)) specBackUptoCard
end Rows
end Go.Proofs.YtffkppoidollnaaGreatDoor
