/-
  DERIVED. GIVEN WITH THE SEED: THE CARDS: each row of YtkelkadalikibaaDoorRows.lean that lists a variable, with what it lists TIED to the program's text (the seventh form; the later family's looks); each row that meets fmt, with fmt's text TOLD by the authors' own Lean function (tested against real Go, not proved from fmt's source: count such statements apart). THE CARD IS WHAT COUNTS. Prove the row's statement (the work); the ties are given (YtkelkadalikibaaDoorTie.lean); close each card by the builder's one call (the guide's Derived/Test/ToyasCard.lean, 'card_holds'). Laid BY PROGRAM, IN A SANDBOX (cutbox-door.mjs). By AI agents, Wed Nov 11 2026. No macro, syntax, notation, axiom, sorry.
-/
import Derived.Test.YtkelkadalikibaaDoorRows
import GoSem.ClaimSeven
namespace Go.Proofs.YtkelkadalikibaaDoor
namespace Rows

/-- THE TIED CARD OF 'doubletlaw04.ClassReads'. -/
def classReadsCard : Claim7 := { stood := { row := classReadsRow, standIns := [], harness := (true, "5a8519890f45289a85ad54f8409703890703ecbe70d4746f4921459ff6767b89"), looks := false }, kinds := [], alts := [], laidByText := true, laidKinds := [.data], laidTests := true, laidLooks := .later }
def ClassReadsCardSaid : Prop := Claim7.holds Tryd.pinned (.plain (OpenSpec.ofChange classReadsSpec)) classReadsCard

/-- THE TIED CARD OF 'doubletlaw04.ClassShows'. -/
def classShowsCard : Claim7 := { stood := { row := classShowsRow, standIns := [], harness := (true, "5a8519890f45289a85ad54f8409703890703ecbe70d4746f4921459ff6767b89"), looks := false }, kinds := [], alts := [], laidByText := true, laidKinds := [.data], laidTests := true, laidLooks := .later }
def ClassShowsCardSaid : Prop := Claim7.holds Tryd.pinned (.plain (OpenSpec.ofChange classShowsSpec)) classShowsCard

/-- THE TIED CARD OF 'doubletlaw04.ClassBack'. -/
def classBackCard : Claim7 := { stood := { row := classBackRow, standIns := [], harness := (true, "5a8519890f45289a85ad54f8409703890703ecbe70d4746f4921459ff6767b89"), looks := false }, kinds := [], alts := [], laidByText := true, laidKinds := [.data], laidTests := true, laidLooks := .later }
def ClassBackCardSaid : Prop := Claim7.holds Tryd.pinned (.plain (OpenSpec.ofChange classBackSpec)) classBackCard

/-- THE TIED CARD OF 'doubletlaw04.ClassEscapes'. -/
def classEscapesCard : Claim7 := { stood := { row := classEscapesRow, standIns := [], harness := (true, "5a8519890f45289a85ad54f8409703890703ecbe70d4746f4921459ff6767b89"), looks := false }, kinds := [], alts := [], laidByText := true, laidKinds := [.data], laidTests := true, laidLooks := .later }
def ClassEscapesCardSaid : Prop := Claim7.holds Tryd.pinned (.plain (OpenSpec.ofChange classEscapesSpec)) classEscapesCard

/-- THE TIED CARD OF 'doubletlaw05.LexemeJoins'. -/
def lexemeJoinsCard : Claim7 := { stood := { row := lexemeJoinsRow, standIns := [], harness := (true, "5a8519890f45289a85ad54f8409703890703ecbe70d4746f4921459ff6767b89"), looks := false }, kinds := [], alts := [], laidByText := true, laidKinds := [.data], laidTests := true, laidLooks := .later }
def LexemeJoinsCardSaid : Prop := Claim7.holds Tryd.pinned (.plain (OpenSpec.ofChange lexemeJoinsSpec)) lexemeJoinsCard

/-- THE TIED CARD OF 'doubletlaw05.LexemeBack'. -/
def lexemeBackCard : Claim7 := { stood := { row := lexemeBackRow, standIns := [], harness := (true, "5a8519890f45289a85ad54f8409703890703ecbe70d4746f4921459ff6767b89"), looks := false }, kinds := [], alts := [], laidByText := true, laidKinds := [.data], laidTests := true, laidLooks := .later }
def LexemeBackCardSaid : Prop := Claim7.holds Tryd.pinned (.plain (OpenSpec.ofChange lexemeBackSpec)) lexemeBackCard

/-- THE SECOND FORM's CARD OF 'doubletlaw04.ClassReads'. -/
def classReadsUptoCard : Claim7 := { stood := { row := classReadsUptoRow, standIns := [], harness := (true, "5a8519890f45289a85ad54f8409703890703ecbe70d4746f4921459ff6767b89"), looks := false }, kinds := [], alts := [], laidByText := true, laidKinds := [.data], laidTests := true, laidLooks := .later }
def ClassReadsUptoCardSaid : Prop := Claim7.holds Tryd.pinned (.plain (OpenSpec.upto classReadsSpec)) classReadsUptoCard

/-- THE SECOND FORM's CARD OF 'doubletlaw04.ClassShows'. -/
def classShowsUptoCard : Claim7 := { stood := { row := classShowsUptoRow, standIns := [], harness := (true, "5a8519890f45289a85ad54f8409703890703ecbe70d4746f4921459ff6767b89"), looks := false }, kinds := [], alts := [], laidByText := true, laidKinds := [.data], laidTests := true, laidLooks := .later }
def ClassShowsUptoCardSaid : Prop := Claim7.holds Tryd.pinned (.plain (OpenSpec.upto classShowsSpec)) classShowsUptoCard

/-- THE SECOND FORM's CARD OF 'doubletlaw04.ClassBack'. -/
def classBackUptoCard : Claim7 := { stood := { row := classBackUptoRow, standIns := [], harness := (true, "5a8519890f45289a85ad54f8409703890703ecbe70d4746f4921459ff6767b89"), looks := false }, kinds := [], alts := [], laidByText := true, laidKinds := [.data], laidTests := true, laidLooks := .later }
def ClassBackUptoCardSaid : Prop := Claim7.holds Tryd.pinned (.plain (OpenSpec.upto classBackSpec)) classBackUptoCard

/-- THE SECOND FORM's CARD OF 'doubletlaw04.ClassEscapes'. -/
def classEscapesUptoCard : Claim7 := { stood := { row := classEscapesUptoRow, standIns := [], harness := (true, "5a8519890f45289a85ad54f8409703890703ecbe70d4746f4921459ff6767b89"), looks := false }, kinds := [], alts := [], laidByText := true, laidKinds := [.data], laidTests := true, laidLooks := .later }
def ClassEscapesUptoCardSaid : Prop := Claim7.holds Tryd.pinned (.plain (OpenSpec.upto classEscapesSpec)) classEscapesUptoCard

/-- THE SECOND FORM's CARD OF 'doubletlaw05.LexemeJoins'. -/
def lexemeJoinsUptoCard : Claim7 := { stood := { row := lexemeJoinsUptoRow, standIns := [], harness := (true, "5a8519890f45289a85ad54f8409703890703ecbe70d4746f4921459ff6767b89"), looks := false }, kinds := [], alts := [], laidByText := true, laidKinds := [.data], laidTests := true, laidLooks := .later }
def LexemeJoinsUptoCardSaid : Prop := Claim7.holds Tryd.pinned (.plain (OpenSpec.upto lexemeJoinsSpec)) lexemeJoinsUptoCard

/-- THE SECOND FORM's CARD OF 'doubletlaw05.LexemeBack'. -/
def lexemeBackUptoCard : Claim7 := { stood := { row := lexemeBackUptoRow, standIns := [], harness := (true, "5a8519890f45289a85ad54f8409703890703ecbe70d4746f4921459ff6767b89"), looks := false }, kinds := [], alts := [], laidByText := true, laidKinds := [.data], laidTests := true, laidLooks := .later }
def LexemeBackUptoCardSaid : Prop := Claim7.holds Tryd.pinned (.plain (OpenSpec.upto lexemeBackSpec)) lexemeBackUptoCard
end Rows
end Go.Proofs.YtkelkadalikibaaDoor
