/-
  DERIVED. GIVEN WITH THE SEED: THE CARDS: each row of YtchfipjclbpomaaDoorRows.lean that lists a variable, with what it lists TIED to the program's text (the seventh form; the later family's looks); each row that meets fmt, with fmt's text TOLD by the authors' own Lean function (tested against real Go, not proved from fmt's source: count such statements apart). THE CARD IS WHAT COUNTS. Prove the row's statement (the work); the ties are given (YtchfipjclbpomaaDoorTie.lean); close each card by the builder's one call (the guide's Derived/Test/ToyasCard.lean, 'card_holds'). Laid BY PROGRAM, IN A SANDBOX (cutbox-door.mjs). By AI agents, Wed Nov 11 2026. No macro, syntax, notation, axiom, sorry.
-/
import Derived.Test.YtchfipjclbpomaaDoorRows
import GoSem.ClaimSeven
namespace Go.Proofs.YtchfipjclbpomaaDoor
namespace Rows

/-- THE TIED CARD OF 'doubletlaw08.ShowBack'. -/
def showBackCard : Claim7 := { stood := { row := showBackRow, standIns := [], harness := (true, "581b095e1a2c62ff6954297c8b143c35594208bdbe916a73b49863331fff36e6"), looks := true }, kinds := [], alts := [], laidByText := true, laidKinds := [.data], laidTests := true, laidLooks := .later }
def ShowBackCardSaid : Prop := Claim7.holds Tryd.pinned (.plain (OpenSpec.ofChange showBackSpec)) showBackCard

/-- THE TIED CARD OF 'doubletlaw08.ShowShort'. -/
def showShortCard : Claim7 := { stood := { row := showShortRow, standIns := [], harness := (true, "581b095e1a2c62ff6954297c8b143c35594208bdbe916a73b49863331fff36e6"), looks := true }, kinds := [], alts := [], laidByText := true, laidKinds := [.data], laidTests := true, laidLooks := .later }
def ShowShortCardSaid : Prop := Claim7.holds Tryd.pinned (.plain (OpenSpec.ofChange showShortSpec)) showShortCard

/-- THE TIED CARD OF 'doubletlaw18.MirrorTurns'. -/
def mirrorTurnsCard : Claim7 := { stood := { row := mirrorTurnsRow, standIns := [], harness := (true, "581b095e1a2c62ff6954297c8b143c35594208bdbe916a73b49863331fff36e6"), looks := true }, kinds := [], alts := [], laidByText := true, laidKinds := [.data], laidTests := true, laidLooks := .later }
def MirrorTurnsCardSaid : Prop := Claim7.holds Tryd.pinned (.plain (OpenSpec.ofChange mirrorTurnsSpec)) mirrorTurnsCard

/-- THE SECOND FORM's CARD OF 'doubletlaw08.ShowBack'. -/
def showBackUptoCard : Claim7 := { stood := { row := showBackUptoRow, standIns := [], harness := (true, "581b095e1a2c62ff6954297c8b143c35594208bdbe916a73b49863331fff36e6"), looks := true }, kinds := [], alts := [], laidByText := true, laidKinds := [.data], laidTests := true, laidLooks := .later }
def ShowBackUptoCardSaid : Prop := Claim7.holds Tryd.pinned (.plain (OpenSpec.upto showBackSpec)) showBackUptoCard

/-- THE SECOND FORM's CARD OF 'doubletlaw08.ShowShort'. -/
def showShortUptoCard : Claim7 := { stood := { row := showShortUptoRow, standIns := [], harness := (true, "581b095e1a2c62ff6954297c8b143c35594208bdbe916a73b49863331fff36e6"), looks := true }, kinds := [], alts := [], laidByText := true, laidKinds := [.data], laidTests := true, laidLooks := .later }
def ShowShortUptoCardSaid : Prop := Claim7.holds Tryd.pinned (.plain (OpenSpec.upto showShortSpec)) showShortUptoCard

/-- THE SECOND FORM's CARD OF 'doubletlaw18.MirrorTurns'. -/
def mirrorTurnsUptoCard : Claim7 := { stood := { row := mirrorTurnsUptoRow, standIns := [], harness := (true, "581b095e1a2c62ff6954297c8b143c35594208bdbe916a73b49863331fff36e6"), looks := true }, kinds := [], alts := [], laidByText := true, laidKinds := [.data], laidTests := true, laidLooks := .later }
def MirrorTurnsUptoCardSaid : Prop := Claim7.holds Tryd.pinned (.plain (OpenSpec.upto mirrorTurnsSpec)) mirrorTurnsUptoCard
end Rows
end Go.Proofs.YtchfipjclbpomaaDoor
