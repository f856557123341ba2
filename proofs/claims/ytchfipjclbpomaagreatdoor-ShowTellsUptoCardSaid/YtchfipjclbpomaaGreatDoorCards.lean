/-
  DERIVED. GIVEN WITH THE SEED: THE CARDS: each row of YtchfipjclbpomaaGreatDoorRows.lean that lists a variable, with what it lists TIED to the program's text (the seventh form; the later family's looks); each row that meets fmt, with fmt's text TOLD by the authors' own Lean function (tested against real Go, not proved from fmt's source: count such statements apart). THE CARD IS WHAT COUNTS. Prove the row's statement (the work); the ties are given (YtchfipjclbpomaaGreatDoorTie.lean); close each card by the builder's one call (the guide's Derived/Test/ToyasCard.lean, 'card_holds'). Laid BY PROGRAM, IN A SANDBOX (cutbox-door.mjs). By AI agents, Wed Nov 11 2026. No macro, syntax, notation, axiom, sorry.
-/
import Derived.Test.YtchfipjclbpomaaGreatDoorRows
import GoSem.ClaimSeven
namespace Go.Proofs.YtchfipjclbpomaaGreatDoor
namespace Rows

/-- THE TIED CARD OF 'doubletlaw08.ShowTells'. -/
def showTellsCard : Claim7 := { stood := { row := showTellsRow, standIns := [], harness := (true, "6d87fde664f2ce284dc40c2fddf0357e211a47eeb246aefe554f04609f1d1996"), looks := true }, kinds := [], alts := [], laidByText := true, laidKinds := [.data], laidTests := true, laidLooks := .later }
def ShowTellsCardSaid : Prop := Claim7.holds Tryz.pinned (.plain (OpenSpec.ofChange showTellsSpec)) showTellsCard

/-- THE TIED CARD OF 'doubletlaw18.MirrorNfa'. -/
def mirrorNfaCard : Claim7 := { stood := { row := mirrorNfaRow, standIns := [], harness := (true, "6d87fde664f2ce284dc40c2fddf0357e211a47eeb246aefe554f04609f1d1996"), looks := true }, kinds := [], alts := [], laidByText := true, laidKinds := [.data], laidTests := true, laidLooks := .later }
def MirrorNfaCardSaid : Prop := Claim7.holds Tryz.pinned (.plain (OpenSpec.ofChange mirrorNfaSpec)) mirrorNfaCard

/-- THE SECOND FORM's CARD OF 'doubletlaw08.ShowTells'. -/
def showTellsUptoCard : Claim7 := { stood := { row := showTellsUptoRow, standIns := [], harness := (true, "6d87fde664f2ce284dc40c2fddf0357e211a47eeb246aefe554f04609f1d1996"), looks := true }, kinds := [], alts := [], laidByText := true, laidKinds := [.data], laidTests := true, laidLooks := .later }
def ShowTellsUptoCardSaid : Prop := Claim7.holds Tryz.pinned (.plain (OpenSpec.upto showTellsSpec)) showTellsUptoCard

/-- THE SECOND FORM's CARD OF 'doubletlaw18.MirrorNfa'. -/
def mirrorNfaUptoCard : Claim7 := { stood := { row := mirrorNfaUptoRow, standIns := [], harness := (true, "6d87fde664f2ce284dc40c2fddf0357e211a47eeb246aefe554f04609f1d1996"), looks := true }, kinds := [], alts := [], laidByText := true, laidKinds := [.data], laidTests := true, laidLooks := .later }
def MirrorNfaUptoCardSaid : Prop := Claim7.holds Tryz.pinned (.plain (OpenSpec.upto mirrorNfaSpec)) mirrorNfaUptoCard
end Rows
end Go.Proofs.YtchfipjclbpomaaGreatDoor
