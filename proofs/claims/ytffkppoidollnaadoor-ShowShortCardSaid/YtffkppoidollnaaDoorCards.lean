/-
  DERIVED. GIVEN WITH THE SEED: THE CARDS: each row of YtffkppoidollnaaDoorRows.lean that lists a variable, with what it lists TIED to the program's text (the seventh form; the later family's looks); each row that meets fmt, with fmt's text TOLD by the authors' own Lean function (tested against real Go, not proved from fmt's source: count such statements apart). THE CARD IS WHAT COUNTS. Prove the row's statement (the work); the ties are given (YtffkppoidollnaaDoorTie.lean); close each card by the builder's one call (the guide's Derived/Test/ToyasCard.lean, 'card_holds'). Laid BY PROGRAM, IN A SANDBOX (cutbox-door.mjs). By AI agents, Wed Nov 11 2026. No macro, syntax, notation, axiom, sorry.
-/
import Derived.Test.YtffkppoidollnaaDoorRows
import GoSem.ClaimSeven
namespace Go.Proofs.YtffkppoidollnaaDoor
namespace Rows

/-- THE TIED CARD OF 'doubletlaw08.ShowShort'. -/
def showShortCard : Claim7 := { stood := { row := showShortRow, standIns := [], harness := (true, "04bd90a6f7ad394c69d51509304272a0326b5e86f4194b54481a02eba49fcfd9"), looks := true }, kinds := [], alts := [], laidByText := true, laidKinds := [.data], laidTests := true, laidLooks := .later }
def ShowShortCardSaid : Prop := Claim7.holds Tryd.pinned (.plain (OpenSpec.ofChange showShortSpec)) showShortCard

/-- THE SECOND FORM's CARD OF 'doubletlaw08.ShowShort'. -/
def showShortUptoCard : Claim7 := { stood := { row := showShortUptoRow, standIns := [], harness := (true, "04bd90a6f7ad394c69d51509304272a0326b5e86f4194b54481a02eba49fcfd9"), looks := true }, kinds := [], alts := [], laidByText := true, laidKinds := [.data], laidTests := true, laidLooks := .later }
def ShowShortUptoCardSaid : Prop := Claim7.holds Tryd.pinned (.plain (OpenSpec.upto showShortSpec)) showShortUptoCard
end Rows
end Go.Proofs.YtffkppoidollnaaDoor
