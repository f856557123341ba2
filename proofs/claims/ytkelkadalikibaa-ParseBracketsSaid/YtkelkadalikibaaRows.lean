/-
  No cell of these rows narrows 'for every input' (looked for: loops, veiled, ifaces, maps, wideKeys, modest, calm, conditions, laid).
  DERIVED. THE GIVEN ROWS OF THIS SEAT. 6 by the template 'for every input the law returns true; each argument reads behind the call as it read before'; 0 by the template 'total and deterministic' (their statements: YtkelkadalikibaaTotals.lean).
  GIVEN WITH THE SEED: the statements are not yours to turn. If you find one false, say at which input.
  Laid BY PROGRAM, IN A SANDBOX (cutbox-rows.mjs): the forced cells as the released guide's own fill.sh prints them over the translation da6a45fd018e2a67… (all of the seat's roots in one cut). By AI agents, Wed Nov 11 2026. No macro, syntax, notation, axiom, sorry.
-/
import Derived.Test.YtkelkadalikibaaChecked
import GoSem.Claim
import GoSem.ClaimJoined
import GoSem.ClaimMapViews
import Derived.JoinedTies
import Derived.KernelRfl
namespace Go.Proofs.Ytkelkadalikibaa
/- THE CELL 'sum', in the pinned program and in every row, IS THE sha256 OF THE DUMP (.gsa) THAT YtkelkadalikibaaProg.lean LOADS. Nothing in Lean hashes anything: it is a label: what it is worth is what the hold of that sum in a sandbox is worth. -/
noncomputable def Try.pinned : Pinned := { name := "ytkelkadalikibaa", sum := "da6a45fd018e2a67783ac89ce3132fa6b8b7f2bc69ea32d1399e6bd3245ea8fe", checked := Try.checked }
namespace Rows
def none {H : Type} : Left H := { results := [], args := [] }

/-- 'doubletlaw05.LexemeSplits': WHATEVER THE INPUT: true; the input reads as it did. -/
def lexemeSplitsSpec : ChangeSpec := { name := "lexemeSplits", fn := fun _ => fun
  | [d] => { results := [.lit (.bool true)], args := [d] }
  | _ => none }
def lexemeSplitsRow : OpenClaim := { program := "ytkelkadalikibaa", sum := "da6a45fd018e2a67783ac89ce3132fa6b8b7f2bc69ea32d1399e6bd3245ea8fe", func := "doublet/doubletlaw05.LexemeSplits", spec := "lexemeSplits", unfollowed := true, recurses := true, apart := false }
def LexemeSplitsSaid : Prop := lexemeSplitsRow.holds Try.pinned (OpenSpec.ofChange lexemeSplitsSpec)

/-- ITS FALSE NEIGHBOUR: 'it returns false'. Refute it at one input. -/
def lexemeSplitsWrong : ChangeSpec := { name := "lexemeSplits", fn := fun _ => fun
  | [d] => { results := [.lit (.bool false)], args := [d] }
  | _ => none }
def LexemeSplitsWrongFalsely : Prop := lexemeSplitsRow.holds Try.pinned (OpenSpec.ofChange lexemeSplitsWrong)

/-- 'doubletlaw05.LexemeCut': WHATEVER THE INPUT: true; the input reads as it did. -/
def lexemeCutSpec : ChangeSpec := { name := "lexemeCut", fn := fun _ => fun
  | [d1, d2] => { results := [.lit (.bool true)], args := [d1, d2] }
  | _ => none }
def lexemeCutRow : OpenClaim := { program := "ytkelkadalikibaa", sum := "da6a45fd018e2a67783ac89ce3132fa6b8b7f2bc69ea32d1399e6bd3245ea8fe", func := "doublet/doubletlaw05.LexemeCut", spec := "lexemeCut", unfollowed := true, recurses := true, apart := false }
def LexemeCutSaid : Prop := lexemeCutRow.holds Try.pinned (OpenSpec.ofChange lexemeCutSpec)

/-- ITS FALSE NEIGHBOUR: 'it returns false'. Refute it at one input. -/
def lexemeCutWrong : ChangeSpec := { name := "lexemeCut", fn := fun _ => fun
  | [d1, d2] => { results := [.lit (.bool false)], args := [d1, d2] }
  | _ => none }
def LexemeCutWrongFalsely : Prop := lexemeCutRow.holds Try.pinned (OpenSpec.ofChange lexemeCutWrong)

/-- 'doubletlaw07.ParseLexemes': WHATEVER THE INPUT: true; the input reads as it did. -/
def parseLexemesSpec : ChangeSpec := { name := "parseLexemes", fn := fun _ => fun
  | [d] => { results := [.lit (.bool true)], args := [d] }
  | _ => none }
def parseLexemesRow : OpenClaim := { program := "ytkelkadalikibaa", sum := "da6a45fd018e2a67783ac89ce3132fa6b8b7f2bc69ea32d1399e6bd3245ea8fe", func := "doublet/doubletlaw07.ParseLexemes", spec := "parseLexemes", unfollowed := true, recurses := true, apart := false }
def ParseLexemesSaid : Prop := parseLexemesRow.holds Try.pinned (OpenSpec.ofChange parseLexemesSpec)

/-- ITS FALSE NEIGHBOUR: 'it returns false'. Refute it at one input. -/
def parseLexemesWrong : ChangeSpec := { name := "parseLexemes", fn := fun _ => fun
  | [d] => { results := [.lit (.bool false)], args := [d] }
  | _ => none }
def ParseLexemesWrongFalsely : Prop := parseLexemesRow.holds Try.pinned (OpenSpec.ofChange parseLexemesWrong)

/-- 'doubletlaw07.ParseTexts': WHATEVER THE INPUT: true; the input reads as it did. -/
def parseTextsSpec : ChangeSpec := { name := "parseTexts", fn := fun _ => fun
  | [d] => { results := [.lit (.bool true)], args := [d] }
  | _ => none }
def parseTextsRow : OpenClaim := { program := "ytkelkadalikibaa", sum := "da6a45fd018e2a67783ac89ce3132fa6b8b7f2bc69ea32d1399e6bd3245ea8fe", func := "doublet/doubletlaw07.ParseTexts", spec := "parseTexts", unfollowed := true, recurses := true, apart := false }
def ParseTextsSaid : Prop := parseTextsRow.holds Try.pinned (OpenSpec.ofChange parseTextsSpec)

/-- ITS FALSE NEIGHBOUR: 'it returns false'. Refute it at one input. -/
def parseTextsWrong : ChangeSpec := { name := "parseTexts", fn := fun _ => fun
  | [d] => { results := [.lit (.bool false)], args := [d] }
  | _ => none }
def ParseTextsWrongFalsely : Prop := parseTextsRow.holds Try.pinned (OpenSpec.ofChange parseTextsWrong)

/-- 'doubletlaw07.ParseBrackets': WHATEVER THE INPUT: true; the input reads as it did. -/
def parseBracketsSpec : ChangeSpec := { name := "parseBrackets", fn := fun _ => fun
  | [d1, d2] => { results := [.lit (.bool true)], args := [d1, d2] }
  | _ => none }
def parseBracketsRow : OpenClaim := { program := "ytkelkadalikibaa", sum := "da6a45fd018e2a67783ac89ce3132fa6b8b7f2bc69ea32d1399e6bd3245ea8fe", func := "doublet/doubletlaw07.ParseBrackets", spec := "parseBrackets", unfollowed := true, recurses := true, apart := false }
def ParseBracketsSaid : Prop := parseBracketsRow.holds Try.pinned (OpenSpec.ofChange parseBracketsSpec)

/-- ITS FALSE NEIGHBOUR: 'it returns false'. Refute it at one input. -/
def parseBracketsWrong : ChangeSpec := { name := "parseBrackets", fn := fun _ => fun
  | [d1, d2] => { results := [.lit (.bool false)], args := [d1, d2] }
  | _ => none }
def ParseBracketsWrongFalsely : Prop := parseBracketsRow.holds Try.pinned (OpenSpec.ofChange parseBracketsWrong)

/-- 'doubletlaw07.ParseSound': WHATEVER THE INPUT: true; the input reads as it did. -/
def parseSoundSpec : ChangeSpec := { name := "parseSound", fn := fun _ => fun
  | [d] => { results := [.lit (.bool true)], args := [d] }
  | _ => none }
def parseSoundRow : OpenClaim := { program := "ytkelkadalikibaa", sum := "da6a45fd018e2a67783ac89ce3132fa6b8b7f2bc69ea32d1399e6bd3245ea8fe", func := "doublet/doubletlaw07.ParseSound", spec := "parseSound", unfollowed := true, recurses := true, apart := false }
def ParseSoundSaid : Prop := parseSoundRow.holds Try.pinned (OpenSpec.ofChange parseSoundSpec)

/-- ITS FALSE NEIGHBOUR: 'it returns false'. Refute it at one input. -/
def parseSoundWrong : ChangeSpec := { name := "parseSound", fn := fun _ => fun
  | [d] => { results := [.lit (.bool false)], args := [d] }
  | _ => none }
def ParseSoundWrongFalsely : Prop := parseSoundRow.holds Try.pinned (OpenSpec.ofChange parseSoundWrong)

/- THE SECOND FORM. 'bulk': how many values and letters a reading holds, each counted each time it is reached (what is shared counts as often as it is met; a slice's spare places count too). A statement '..UptoSaid' is the law's where the arguments, and the package variables that the reading takes, are together of bulk at most 1048576: NARROWER than '..Said'. Prove '..Said' where nothing that the law and all that it calls make is longer than what came in: it says more and counts as full. Else prove '..UptoSaid'. A law counts once. -/
mutual
def uptoBulk {H : Type} : DataW H → Nat
  | .lit (.string bytes) => bytes.length + 1
  | .lit _ => 1
  | .nil => 1
  | .ptr d => uptoBulk d + 1
  | .slice elems spare => uptoBulkAll elems + uptoBulkAll spare + 1
  | .agg parts => uptoBulkAll parts + 1
  | .iface _ d => uptoBulk d + 1
  | .map entries => uptoBulkEntries entries + 1
  | .held _ => 1
def uptoBulkAll {H : Type} : List (DataW H) → Nat
  | [] => 0
  | d :: r => uptoBulk d + uptoBulkAll r
def uptoBulkEntries {H : Type} : List (Lit × DataW H) → Nat
  | [] => 0
  | x :: r => uptoBulkEntry x + uptoBulkEntries r
def uptoBulkEntry {H : Type} : Lit × DataW H → Nat
  | (.string bytes, d) => bytes.length + uptoBulk d + 1
  | (_, d) => uptoBulk d + 1
 end
def uptoSmall : (H : Type) → List (DataW H) → Bool := fun _ ds => decide (uptoBulkAll ds ≤ 1048576)
def OpenSpec.upto (s : _root_.Go.ChangeSpec) : _root_.Go.OpenSpec := { _root_.Go.OpenSpec.ofChange s with cond := some uptoSmall }

/-- 'doubletlaw05.LexemeSplits', WHERE WHAT IT READS IS OF BULK AT MOST 1048576: true; the input reads as it did. -/
def lexemeSplitsUptoRow : OpenClaim := { program := "ytkelkadalikibaa", sum := "da6a45fd018e2a67783ac89ce3132fa6b8b7f2bc69ea32d1399e6bd3245ea8fe", func := "doublet/doubletlaw05.LexemeSplits", spec := "lexemeSplits", unfollowed := true, recurses := true, apart := false, narrowed := true }
def LexemeSplitsUptoSaid : Prop := lexemeSplitsUptoRow.holds Try.pinned (OpenSpec.upto lexemeSplitsSpec)

/-- 'doubletlaw05.LexemeCut', WHERE WHAT IT READS IS OF BULK AT MOST 1048576: true; the input reads as it did. -/
def lexemeCutUptoRow : OpenClaim := { program := "ytkelkadalikibaa", sum := "da6a45fd018e2a67783ac89ce3132fa6b8b7f2bc69ea32d1399e6bd3245ea8fe", func := "doublet/doubletlaw05.LexemeCut", spec := "lexemeCut", unfollowed := true, recurses := true, apart := false, narrowed := true }
def LexemeCutUptoSaid : Prop := lexemeCutUptoRow.holds Try.pinned (OpenSpec.upto lexemeCutSpec)

/-- 'doubletlaw07.ParseLexemes', WHERE WHAT IT READS IS OF BULK AT MOST 1048576: true; the input reads as it did. -/
def parseLexemesUptoRow : OpenClaim := { program := "ytkelkadalikibaa", sum := "da6a45fd018e2a67783ac89ce3132fa6b8b7f2bc69ea32d1399e6bd3245ea8fe", func := "doublet/doubletlaw07.ParseLexemes", spec := "parseLexemes", unfollowed := true, recurses := true, apart := false, narrowed := true }
def ParseLexemesUptoSaid : Prop := parseLexemesUptoRow.holds Try.pinned (OpenSpec.upto parseLexemesSpec)

/-- 'doubletlaw07.ParseTexts', WHERE WHAT IT READS IS OF BULK AT MOST 1048576: true; the input reads as it did. -/
def parseTextsUptoRow : OpenClaim := { program := "ytkelkadalikibaa", sum := "da6a45fd018e2a67783ac89ce3132fa6b8b7f2bc69ea32d1399e6bd3245ea8fe", func := "doublet/doubletlaw07.ParseTexts", spec := "parseTexts", unfollowed := true, recurses := true, apart := false, narrowed := true }
def ParseTextsUptoSaid : Prop := parseTextsUptoRow.holds Try.pinned (OpenSpec.upto parseTextsSpec)

/-- 'doubletlaw07.ParseBrackets', WHERE WHAT IT READS IS OF BULK AT MOST 1048576: true; the input reads as it did. -/
def parseBracketsUptoRow : OpenClaim := { program := "ytkelkadalikibaa", sum := "da6a45fd018e2a67783ac89ce3132fa6b8b7f2bc69ea32d1399e6bd3245ea8fe", func := "doublet/doubletlaw07.ParseBrackets", spec := "parseBrackets", unfollowed := true, recurses := true, apart := false, narrowed := true }
def ParseBracketsUptoSaid : Prop := parseBracketsUptoRow.holds Try.pinned (OpenSpec.upto parseBracketsSpec)

/-- 'doubletlaw07.ParseSound', WHERE WHAT IT READS IS OF BULK AT MOST 1048576: true; the input reads as it did. -/
def parseSoundUptoRow : OpenClaim := { program := "ytkelkadalikibaa", sum := "da6a45fd018e2a67783ac89ce3132fa6b8b7f2bc69ea32d1399e6bd3245ea8fe", func := "doublet/doubletlaw07.ParseSound", spec := "parseSound", unfollowed := true, recurses := true, apart := false, narrowed := true }
def ParseSoundUptoSaid : Prop := parseSoundUptoRow.holds Try.pinned (OpenSpec.upto parseSoundSpec)

end Rows
end Go.Proofs.Ytkelkadalikibaa
