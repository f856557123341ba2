/-
  DERIVED. GIVEN WITH THE SEED: THE CARDS: each row of YtfcblmbieiibmaaDoorRows.lean that lists a variable, with what it lists TIED to the program's text (the seventh form; the later family's looks); each row that meets fmt, with fmt's text TOLD by the authors' own Lean function (tested against real Go, not proved from fmt's source: count such statements apart). THE CARD IS WHAT COUNTS. Prove the row's statement (the work); the ties are given (YtfcblmbieiibmaaDoorTie.lean); close each card by the builder's one call (the guide's Derived/Test/ToyasCard.lean, 'card_holds'). Laid BY PROGRAM, IN A SANDBOX (cutbox-door.mjs). By AI agents, Wed Nov 11 2026. No macro, syntax, notation, axiom, sorry.
-/
import Derived.Test.YtfcblmbieiibmaaDoorRows
import GoSem.ClaimSeven
namespace Go.Proofs.YtfcblmbieiibmaaDoor
namespace Rows

/-- THE TIED CARD OF 'doubletlaw11.MatchEnds'. -/
def matchEndsCard : Claim7 := { stood := { row := matchEndsRow, standIns := [], harness := (true, "d229ecc485400dbd9bd1524261e92f3b08d63b9ad17af6d6ca24a2a764c98655"), looks := true }, kinds := [], alts := [], laidByText := true, laidKinds := [.data], laidTests := true, laidLooks := .later }
def MatchEndsCardSaid : Prop := Claim7.holds Tryd.pinned (.plain (OpenSpec.ofChange matchEndsSpec)) matchEndsCard

/-- THE TIED CARD OF 'doubletlaw11.MatchAgain'. -/
def matchAgainCard : Claim7 := { stood := { row := matchAgainRow, standIns := [], harness := (true, "d229ecc485400dbd9bd1524261e92f3b08d63b9ad17af6d6ca24a2a764c98655"), looks := true }, kinds := [], alts := [], laidByText := true, laidKinds := [.data], laidTests := true, laidLooks := .later }
def MatchAgainCardSaid : Prop := Claim7.holds Tryd.pinned (.plain (OpenSpec.ofChange matchAgainSpec)) matchAgainCard

/-- THE TIED CARD OF 'doubletlaw11.MatchJoined'. -/
def matchJoinedCard : Claim7 := { stood := { row := matchJoinedRow, standIns := [], harness := (true, "d229ecc485400dbd9bd1524261e92f3b08d63b9ad17af6d6ca24a2a764c98655"), looks := true }, kinds := [], alts := [], laidByText := true, laidKinds := [.data], laidTests := true, laidLooks := .later }
def MatchJoinedCardSaid : Prop := Claim7.holds Tryd.pinned (.plain (OpenSpec.ofChange matchJoinedSpec)) matchJoinedCard

/-- THE SECOND FORM's CARD OF 'doubletlaw11.MatchEnds'. -/
def matchEndsUptoCard : Claim7 := { stood := { row := matchEndsUptoRow, standIns := [], harness := (true, "d229ecc485400dbd9bd1524261e92f3b08d63b9ad17af6d6ca24a2a764c98655"), looks := true }, kinds := [], alts := [], laidByText := true, laidKinds := [.data], laidTests := true, laidLooks := .later }
def MatchEndsUptoCardSaid : Prop := Claim7.holds Tryd.pinned (.plain (OpenSpec.upto matchEndsSpec)) matchEndsUptoCard

/-- THE SECOND FORM's CARD OF 'doubletlaw11.MatchAgain'. -/
def matchAgainUptoCard : Claim7 := { stood := { row := matchAgainUptoRow, standIns := [], harness := (true, "d229ecc485400dbd9bd1524261e92f3b08d63b9ad17af6d6ca24a2a764c98655"), looks := true }, kinds := [], alts := [], laidByText := true, laidKinds := [.data], laidTests := true, laidLooks := .later }
def MatchAgainUptoCardSaid : Prop := Claim7.holds Tryd.pinned (.plain (OpenSpec.upto matchAgainSpec)) matchAgainUptoCard

/-- THE SECOND FORM's CARD OF 'doubletlaw11.MatchJoined'. -/
def matchJoinedUptoCard : Claim7 := { stood := { row := matchJoinedUptoRow, standIns := [], harness := (true, "d229ecc485400dbd9bd1524261e92f3b08d63b9ad17af6d6ca24a2a764c98655"), looks := true }, kinds := [], alts := [], laidByText := true, laidKinds := [.data], laidTests := true, laidLooks := .later }
def MatchJoinedUptoCardSaid : Prop := Claim7.holds Tryd.pinned (.plain (OpenSpec.upto matchJoinedSpec)) matchJoinedUptoCard
end Rows
end Go.Proofs.YtfcblmbieiibmaaDoor
