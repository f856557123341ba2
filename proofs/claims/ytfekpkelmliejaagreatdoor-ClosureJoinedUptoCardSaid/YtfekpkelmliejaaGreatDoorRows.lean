/-
  NARROWER THAN 'FOR EVERY INPUT', by the rows' own cells (each row's printed sentence says how): FactsLeast: loops, laid · FactsLengths: loops, laid · ClosureSteps: laid · ClosureRuns: laid · ClosureJoined: laid · ClosureNil: laid · FactsJoined: loops, laid · SpecTexts: loops, laid · SpecBack: loops, laid.
  DERIVED. THE GIVEN ROWS OF THIS SEAT. 9 by the template 'for every input the law returns true; each argument reads behind the call as it read before'; 0 by the template 'total and deterministic' (their statements: YtfekpkelmliejaaGreatDoorTotals.lean).
  GIVEN WITH THE SEED: the statements are not yours to turn. If you find one false, say at which input.
  Laid BY PROGRAM, IN A SANDBOX (cutbox-rows.mjs): the forced cells as the released guide's own fill.sh prints them over the translation 174bf65eb97fb1ae… (all of the seat's roots in one cut). By AI agents, Wed Nov 11 2026. No macro, syntax, notation, axiom, sorry.
-/
import Derived.Test.YtfekpkelmliejaaGreatDoorChecked
import GoSem.Claim
import GoSem.ClaimJoined
import GoSem.ClaimMapViews
import Derived.JoinedTies
import Derived.KernelRfl
namespace Go.Proofs.YtfekpkelmliejaaGreatDoor
/- THE CELL 'sum', in the pinned program and in every row, IS THE sha256 OF THE DUMP (.gsa) THAT YtfekpkelmliejaaGreatDoorProg.lean LOADS. Nothing in Lean hashes anything: it is a label: what it is worth is what the hold of that sum in a sandbox is worth. -/
noncomputable def Tryz.pinned : Pinned := { name := "ytfekpkelmliejaagreatdoor", sum := "174bf65eb97fb1ae5b1e8e41cb53d68932e0340ccb5ff498a75a5472de9cad2d", checked := Tryz.checked }
namespace Rows
def none {H : Type} : Left H := { results := [], args := [] }

/- WHAT THE LISTED PACKAGE-LEVEL VARIABLES READ AS WHEN THE CALL BEGINS. Each datum BY PROGRAM (the guide's laid-datum.mjs) off the statement by which the dump's own 'gosem.cut.vars' lays the variable. In a bare row this is a premise. The card (YtfekpkelmliejaaGreatDoorCards.lean) ties it to the program's text. -/
def laid_math_bits_deBruijn64tab {H : Type} : DataW H := .agg [.lit (.int .u8 0), .lit (.int .u8 1), .lit (.int .u8 56), .lit (.int .u8 2), .lit (.int .u8 57), .lit (.int .u8 49), .lit (.int .u8 28), .lit (.int .u8 3), .lit (.int .u8 61), .lit (.int .u8 58), .lit (.int .u8 42), .lit (.int .u8 50), .lit (.int .u8 38), .lit (.int .u8 29), .lit (.int .u8 17), .lit (.int .u8 4), .lit (.int .u8 62), .lit (.int .u8 47), .lit (.int .u8 59), .lit (.int .u8 36), .lit (.int .u8 45), .lit (.int .u8 43), .lit (.int .u8 51), .lit (.int .u8 22), .lit (.int .u8 53), .lit (.int .u8 39), .lit (.int .u8 33), .lit (.int .u8 30), .lit (.int .u8 24), .lit (.int .u8 18), .lit (.int .u8 12), .lit (.int .u8 5), .lit (.int .u8 63), .lit (.int .u8 55), .lit (.int .u8 48), .lit (.int .u8 27), .lit (.int .u8 60), .lit (.int .u8 41), .lit (.int .u8 37), .lit (.int .u8 16), .lit (.int .u8 46), .lit (.int .u8 35), .lit (.int .u8 44), .lit (.int .u8 21), .lit (.int .u8 52), .lit (.int .u8 32), .lit (.int .u8 23), .lit (.int .u8 11), .lit (.int .u8 54), .lit (.int .u8 26), .lit (.int .u8 40), .lit (.int .u8 15), .lit (.int .u8 34), .lit (.int .u8 20), .lit (.int .u8 31), .lit (.int .u8 10), .lit (.int .u8 25), .lit (.int .u8 14), .lit (.int .u8 19), .lit (.int .u8 9), .lit (.int .u8 13), .lit (.int .u8 8), .lit (.int .u8 7), .lit (.int .u8 6)]

/-- 'doubletlaw10.FactsLeast': WHATEVER THE INPUT: true; the input reads as it did. -/
def factsLeastSpec : ChangeSpec := { name := "factsLeast", fn := fun _ => fun
  | [d1, d2] => { results := [.lit (.bool true)], args := [d1, d2] }
  | _ => none }
def factsLeastRow : OpenClaim := { program := "ytfekpkelmliejaagreatdoor", sum := "174bf65eb97fb1ae5b1e8e41cb53d68932e0340ccb5ff498a75a5472de9cad2d", func := "doublet/doubletlaw10.FactsLeast", spec := "factsLeast", inPlace := ["internal/bytealg.Compare", "internal/bytealg.MakeNoZero"], unfollowed := true, recurses := true, named := ["math/bits.deBruijn64tab"], loops := true, apart := false, laid := [("math/bits.deBruijn64tab", laid_math_bits_deBruijn64tab)] }
def FactsLeastSaid : Prop := factsLeastRow.holds Tryz.pinned (OpenSpec.ofChange factsLeastSpec)

/-- ITS FALSE NEIGHBOUR: 'it returns false'. Refute it at one input. -/
def factsLeastWrong : ChangeSpec := { name := "factsLeast", fn := fun _ => fun
  | [d1, d2] => { results := [.lit (.bool false)], args := [d1, d2] }
  | _ => none }
def FactsLeastWrongFalsely : Prop := factsLeastRow.holds Tryz.pinned (OpenSpec.ofChange factsLeastWrong)

/-- 'doubletlaw10.FactsLengths': WHATEVER THE INPUT: true; the input reads as it did. -/
def factsLengthsSpec : ChangeSpec := { name := "factsLengths", fn := fun _ => fun
  | [d] => { results := [.lit (.bool true)], args := [d] }
  | _ => none }
def factsLengthsRow : OpenClaim := { program := "ytfekpkelmliejaagreatdoor", sum := "174bf65eb97fb1ae5b1e8e41cb53d68932e0340ccb5ff498a75a5472de9cad2d", func := "doublet/doubletlaw10.FactsLengths", spec := "factsLengths", inPlace := ["internal/bytealg.Compare", "internal/bytealg.MakeNoZero"], unfollowed := true, recurses := true, named := ["math/bits.deBruijn64tab"], loops := true, apart := false, laid := [("math/bits.deBruijn64tab", laid_math_bits_deBruijn64tab)] }
def FactsLengthsSaid : Prop := factsLengthsRow.holds Tryz.pinned (OpenSpec.ofChange factsLengthsSpec)

/-- ITS FALSE NEIGHBOUR: 'it returns false'. Refute it at one input. -/
def factsLengthsWrong : ChangeSpec := { name := "factsLengths", fn := fun _ => fun
  | [d] => { results := [.lit (.bool false)], args := [d] }
  | _ => none }
def FactsLengthsWrongFalsely : Prop := factsLengthsRow.holds Tryz.pinned (OpenSpec.ofChange factsLengthsWrong)

/-- 'doubletlaw17.ClosureSteps': WHATEVER THE INPUT: true; the input reads as it did. -/
def closureStepsSpec : ChangeSpec := { name := "closureSteps", fn := fun _ => fun
  | [d1, d2, d3] => { results := [.lit (.bool true)], args := [d1, d2, d3] }
  | _ => none }
def closureStepsRow : OpenClaim := { program := "ytfekpkelmliejaagreatdoor", sum := "174bf65eb97fb1ae5b1e8e41cb53d68932e0340ccb5ff498a75a5472de9cad2d", func := "doublet/doubletlaw17.ClosureSteps", spec := "closureSteps", unfollowed := true, recurses := true, named := ["math/bits.deBruijn64tab"], apart := false, laid := [("math/bits.deBruijn64tab", laid_math_bits_deBruijn64tab)] }
def ClosureStepsSaid : Prop := closureStepsRow.holds Tryz.pinned (OpenSpec.ofChange closureStepsSpec)

/-- ITS FALSE NEIGHBOUR: 'it returns false'. Refute it at one input. -/
def closureStepsWrong : ChangeSpec := { name := "closureSteps", fn := fun _ => fun
  | [d1, d2, d3] => { results := [.lit (.bool false)], args := [d1, d2, d3] }
  | _ => none }
def ClosureStepsWrongFalsely : Prop := closureStepsRow.holds Tryz.pinned (OpenSpec.ofChange closureStepsWrong)

/-- 'doubletlaw17.ClosureRuns': WHATEVER THE INPUT: true; the input reads as it did. -/
def closureRunsSpec : ChangeSpec := { name := "closureRuns", fn := fun _ => fun
  | [d1, d2] => { results := [.lit (.bool true)], args := [d1, d2] }
  | _ => none }
def closureRunsRow : OpenClaim := { program := "ytfekpkelmliejaagreatdoor", sum := "174bf65eb97fb1ae5b1e8e41cb53d68932e0340ccb5ff498a75a5472de9cad2d", func := "doublet/doubletlaw17.ClosureRuns", spec := "closureRuns", unfollowed := true, recurses := true, named := ["math/bits.deBruijn64tab"], apart := false, laid := [("math/bits.deBruijn64tab", laid_math_bits_deBruijn64tab)] }
def ClosureRunsSaid : Prop := closureRunsRow.holds Tryz.pinned (OpenSpec.ofChange closureRunsSpec)

/-- ITS FALSE NEIGHBOUR: 'it returns false'. Refute it at one input. -/
def closureRunsWrong : ChangeSpec := { name := "closureRuns", fn := fun _ => fun
  | [d1, d2] => { results := [.lit (.bool false)], args := [d1, d2] }
  | _ => none }
def ClosureRunsWrongFalsely : Prop := closureRunsRow.holds Tryz.pinned (OpenSpec.ofChange closureRunsWrong)

/-- 'doubletlaw17.ClosureJoined': WHATEVER THE INPUT: true; the input reads as it did. -/
def closureJoinedSpec : ChangeSpec := { name := "closureJoined", fn := fun _ => fun
  | [d1, d2, d3, d4, d5] => { results := [.lit (.bool true)], args := [d1, d2, d3, d4, d5] }
  | _ => none }
def closureJoinedRow : OpenClaim := { program := "ytfekpkelmliejaagreatdoor", sum := "174bf65eb97fb1ae5b1e8e41cb53d68932e0340ccb5ff498a75a5472de9cad2d", func := "doublet/doubletlaw17.ClosureJoined", spec := "closureJoined", unfollowed := true, recurses := true, named := ["math/bits.deBruijn64tab"], apart := false, laid := [("math/bits.deBruijn64tab", laid_math_bits_deBruijn64tab)] }
def ClosureJoinedSaid : Prop := closureJoinedRow.holds Tryz.pinned (OpenSpec.ofChange closureJoinedSpec)

/-- ITS FALSE NEIGHBOUR: 'it returns false'. Refute it at one input. -/
def closureJoinedWrong : ChangeSpec := { name := "closureJoined", fn := fun _ => fun
  | [d1, d2, d3, d4, d5] => { results := [.lit (.bool false)], args := [d1, d2, d3, d4, d5] }
  | _ => none }
def ClosureJoinedWrongFalsely : Prop := closureJoinedRow.holds Tryz.pinned (OpenSpec.ofChange closureJoinedWrong)

/-- 'doubletlaw17.ClosureNil': WHATEVER THE INPUT: true; the input reads as it did. -/
def closureNilSpec : ChangeSpec := { name := "closureNil", fn := fun _ => fun
  | [d1, d2] => { results := [.lit (.bool true)], args := [d1, d2] }
  | _ => none }
def closureNilRow : OpenClaim := { program := "ytfekpkelmliejaagreatdoor", sum := "174bf65eb97fb1ae5b1e8e41cb53d68932e0340ccb5ff498a75a5472de9cad2d", func := "doublet/doubletlaw17.ClosureNil", spec := "closureNil", unfollowed := true, recurses := true, named := ["math/bits.deBruijn64tab"], apart := false, laid := [("math/bits.deBruijn64tab", laid_math_bits_deBruijn64tab)] }
def ClosureNilSaid : Prop := closureNilRow.holds Tryz.pinned (OpenSpec.ofChange closureNilSpec)

/-- ITS FALSE NEIGHBOUR: 'it returns false'. Refute it at one input. -/
def closureNilWrong : ChangeSpec := { name := "closureNil", fn := fun _ => fun
  | [d1, d2] => { results := [.lit (.bool false)], args := [d1, d2] }
  | _ => none }
def ClosureNilWrongFalsely : Prop := closureNilRow.holds Tryz.pinned (OpenSpec.ofChange closureNilWrong)

/-- 'doubletlaw10.FactsJoined': WHATEVER THE INPUT: true; the input reads as it did. -/
def factsJoinedSpec : ChangeSpec := { name := "factsJoined", fn := fun _ => fun
  | [d1, d2] => { results := [.lit (.bool true)], args := [d1, d2] }
  | _ => none }
def factsJoinedRow : OpenClaim := { program := "ytfekpkelmliejaagreatdoor", sum := "174bf65eb97fb1ae5b1e8e41cb53d68932e0340ccb5ff498a75a5472de9cad2d", func := "doublet/doubletlaw10.FactsJoined", spec := "factsJoined", inPlace := ["internal/bytealg.Compare", "internal/bytealg.MakeNoZero"], unfollowed := true, recurses := true, named := ["math/bits.deBruijn64tab"], loops := true, apart := false, laid := [("math/bits.deBruijn64tab", laid_math_bits_deBruijn64tab)] }
def FactsJoinedSaid : Prop := factsJoinedRow.holds Tryz.pinned (OpenSpec.ofChange factsJoinedSpec)

/-- ITS FALSE NEIGHBOUR: 'it returns false'. Refute it at one input. -/
def factsJoinedWrong : ChangeSpec := { name := "factsJoined", fn := fun _ => fun
  | [d1, d2] => { results := [.lit (.bool false)], args := [d1, d2] }
  | _ => none }
def FactsJoinedWrongFalsely : Prop := factsJoinedRow.holds Tryz.pinned (OpenSpec.ofChange factsJoinedWrong)

/-- 'doubletlaw09.SpecTexts': WHATEVER THE INPUT: true; the input reads as it did. -/
def specTextsSpec : ChangeSpec := { name := "specTexts", fn := fun _ => fun
  | [d1, d2] => { results := [.lit (.bool true)], args := [d1, d2] }
  | _ => none }
def specTextsRow : OpenClaim := { program := "ytfekpkelmliejaagreatdoor", sum := "174bf65eb97fb1ae5b1e8e41cb53d68932e0340ccb5ff498a75a5472de9cad2d", func := "doublet/doubletlaw09.SpecTexts", spec := "specTexts", inPlace := ["internal/bytealg.IndexByte", "internal/bytealg.Index"], unfollowed := true, recurses := true, named := ["math/bits.deBruijn64tab", "internal/bytealg.MaxLen"], loops := true, apart := false, laid := [("math/bits.deBruijn64tab", laid_math_bits_deBruijn64tab)] }
def SpecTextsSaid : Prop := specTextsRow.holds Tryz.pinned (OpenSpec.ofChange specTextsSpec)

/-- ITS FALSE NEIGHBOUR: 'it returns false'. Refute it at one input. -/
def specTextsWrong : ChangeSpec := { name := "specTexts", fn := fun _ => fun
  | [d1, d2] => { results := [.lit (.bool false)], args := [d1, d2] }
  | _ => none }
def SpecTextsWrongFalsely : Prop := specTextsRow.holds Tryz.pinned (OpenSpec.ofChange specTextsWrong)

/-- 'doubletlaw09.SpecBack': WHATEVER THE INPUT: true; the input reads as it did. -/
def specBackSpec : ChangeSpec := { name := "specBack", fn := fun _ => fun
  | [d1, d2] => { results := [.lit (.bool true)], args := [d1, d2] }
  | _ => none }
def specBackRow : OpenClaim := { program := "ytfekpkelmliejaagreatdoor", sum := "174bf65eb97fb1ae5b1e8e41cb53d68932e0340ccb5ff498a75a5472de9cad2d", func := "doublet/doubletlaw09.SpecBack", spec := "specBack", inPlace := ["internal/bytealg.IndexByte", "internal/bytealg.Index"], unfollowed := true, recurses := true, named := ["math/bits.deBruijn64tab", "internal/bytealg.MaxLen"], loops := true, apart := false, laid := [("math/bits.deBruijn64tab", laid_math_bits_deBruijn64tab)] }
def SpecBackSaid : Prop := specBackRow.holds Tryz.pinned (OpenSpec.ofChange specBackSpec)

/-- ITS FALSE NEIGHBOUR: 'it returns false'. Refute it at one input. -/
def specBackWrong : ChangeSpec := { name := "specBack", fn := fun _ => fun
  | [d1, d2] => { results := [.lit (.bool false)], args := [d1, d2] }
  | _ => none }
def SpecBackWrongFalsely : Prop := specBackRow.holds Tryz.pinned (OpenSpec.ofChange specBackWrong)

/- THE SECOND FORM. 'bulk': how many values and letters a reading holds, each counted each time it is reached (what is shared counts as often as it is met; a slice's spare places count too). A statement '..UptoSaid' is the law's where the arguments, and the package variables that the reading takes, are together of bulk at most 1048576: NARROWER than '..Said'. Prove '..Said' where nothing that the law and all that it calls make is longer than what came in: it says more and counts as full. Else prove '..UptoSaid'. A law counts once. -/
mutual
def uptoBulk {H : Type} : DataW H → Nat
  | .lit (.string bytes) => bytes.length + 1
  | .lit _ => 1
  | .nil => 1
  | .ptr d => uptoBulk d + 1
  | .slice elems spare => uptoBulkAll elems + uptoBulkAll spare + 1
  | .agg parts => uptoBulkAll parts + 1
  | .iface _ d => uptoBulk d + 1
  | .map entries => uptoBulkEntries entries + 1
  | .held _ => 1
def uptoBulkAll {H : Type} : List (DataW H) → Nat
  | [] => 0
  | d :: r => uptoBulk d + uptoBulkAll r
def uptoBulkEntries {H : Type} : List (Lit × DataW H) → Nat
  | [] => 0
  | x :: r => uptoBulkEntry x + uptoBulkEntries r
def uptoBulkEntry {H : Type} : Lit × DataW H → Nat
  | (.string bytes, d) => bytes.length + uptoBulk d + 1
  | (_, d) => uptoBulk d + 1
 end
def uptoSmall : (H : Type) → List (DataW H) → Bool := fun _ ds => decide (uptoBulkAll ds ≤ 1048576)
def OpenSpec.upto (s : _root_.Go.ChangeSpec) : _root_.Go.OpenSpec := { _root_.Go.OpenSpec.ofChange s with cond := some uptoSmall }

/-- 'doubletlaw10.FactsLeast', WHERE WHAT IT READS IS OF BULK AT MOST 1048576: true; the input reads as it did. -/
def factsLeastUptoRow : OpenClaim := { program := "ytfekpkelmliejaagreatdoor", sum := "174bf65eb97fb1ae5b1e8e41cb53d68932e0340ccb5ff498a75a5472de9cad2d", func := "doublet/doubletlaw10.FactsLeast", spec := "factsLeast", inPlace := ["internal/bytealg.Compare", "internal/bytealg.MakeNoZero"], unfollowed := true, recurses := true, named := ["math/bits.deBruijn64tab"], loops := true, apart := false, laid := [("math/bits.deBruijn64tab", laid_math_bits_deBruijn64tab)], narrowed := true }
def FactsLeastUptoSaid : Prop := factsLeastUptoRow.holds Tryz.pinned (OpenSpec.upto factsLeastSpec)

/-- 'doubletlaw10.FactsLengths', WHERE WHAT IT READS IS OF BULK AT MOST 1048576: true; the input reads as it did. -/
def factsLengthsUptoRow : OpenClaim := { program := "ytfekpkelmliejaagreatdoor", sum := "174bf65eb97fb1ae5b1e8e41cb53d68932e0340ccb5ff498a75a5472de9cad2d", func := "doublet/doubletlaw10.FactsLengths", spec := "factsLengths", inPlace := ["internal/bytealg.Compare", "internal/bytealg.MakeNoZero"], unfollowed := true, recurses := true, named := ["math/bits.deBruijn64tab"], loops := true, apart := false, laid := [("math/bits.deBruijn64tab", laid_math_bits_deBruijn64tab)], narrowed := true }
def FactsLengthsUptoSaid : Prop := factsLengthsUptoRow.holds Tryz.pinned (OpenSpec.upto factsLengthsSpec)

/-- 'doubletlaw17.ClosureSteps', WHERE WHAT IT READS IS OF BULK AT MOST 1048576: true; the input reads as it did. -/
def closureStepsUptoRow : OpenClaim := { program := "ytfekpkelmliejaagreatdoor", sum := "174bf65eb97fb1ae5b1e8e41cb53d68932e0340ccb5ff498a75a5472de9cad2d", func := "doublet/doubletlaw17.ClosureSteps", spec := "closureSteps", unfollowed := true, recurses := true, named := ["math/bits.deBruijn64tab"], apart := false, laid := [("math/bits.deBruijn64tab", laid_math_bits_deBruijn64tab)], narrowed := true }
def ClosureStepsUptoSaid : Prop := closureStepsUptoRow.holds Tryz.pinned (OpenSpec.upto closureStepsSpec)

/-- 'doubletlaw17.ClosureRuns', WHERE WHAT IT READS IS OF BULK AT MOST 1048576: true; the input reads as it did. -/
def closureRunsUptoRow : OpenClaim := { program := "ytfekpkelmliejaagreatdoor", sum := "174bf65eb97fb1ae5b1e8e41cb53d68932e0340ccb5ff498a75a5472de9cad2d", func := "doublet/doubletlaw17.ClosureRuns", spec := "closureRuns", unfollowed := true, recurses := true, named := ["math/bits.deBruijn64tab"], apart := false, laid := [("math/bits.deBruijn64tab", laid_math_bits_deBruijn64tab)], narrowed := true }
def ClosureRunsUptoSaid : Prop := closureRunsUptoRow.holds Tryz.pinned (OpenSpec.upto closureRunsSpec)

/-- 'doubletlaw17.ClosureJoined', WHERE WHAT IT READS IS OF BULK AT MOST 1048576: true; the input reads as it did. -/
def closureJoinedUptoRow : OpenClaim := { program := "ytfekpkelmliejaagreatdoor", sum := "174bf65eb97fb1ae5b1e8e41cb53d68932e0340ccb5ff498a75a5472de9cad2d", func := "doublet/doubletlaw17.ClosureJoined", spec := "closureJoined", unfollowed := true, recurses := true, named := ["math/bits.deBruijn64tab"], apart := false, laid := [("math/bits.deBruijn64tab", laid_math_bits_deBruijn64tab)], narrowed := true }
def ClosureJoinedUptoSaid : Prop := closureJoinedUptoRow.holds Tryz.pinned (OpenSpec.upto closureJoinedSpec)

/-- 'doubletlaw17.ClosureNil', WHERE WHAT IT READS IS OF BULK AT MOST 1048576: true; the input reads as it did. -/
def closureNilUptoRow : OpenClaim := { program := "ytfekpkelmliejaagreatdoor", sum := "174bf65eb97fb1ae5b1e8e41cb53d68932e0340ccb5ff498a75a5472de9cad2d", func := "doublet/doubletlaw17.ClosureNil", spec := "closureNil", unfollowed := true, recurses := true, named := ["math/bits.deBruijn64tab"], apart := false, laid := [("math/bits.deBruijn64tab", laid_math_bits_deBruijn64tab)], narrowed := true }
def ClosureNilUptoSaid : Prop := closureNilUptoRow.holds Tryz.pinned (OpenSpec.upto closureNilSpec)

/-- 'doubletlaw10.FactsJoined', WHERE WHAT IT READS IS OF BULK AT MOST 1048576: true; the input reads as it did. -/
def factsJoinedUptoRow : OpenClaim := { program := "ytfekpkelmliejaagreatdoor", sum := "174bf65eb97fb1ae5b1e8e41cb53d68932e0340ccb5ff498a75a5472de9cad2d", func := "doublet/doubletlaw10.FactsJoined", spec := "factsJoined", inPlace := ["internal/bytealg.Compare", "internal/bytealg.MakeNoZero"], unfollowed := true, recurses := true, named := ["math/bits.deBruijn64tab"], loops := true, apart := false, laid := [("math/bits.deBruijn64tab", laid_math_bits_deBruijn64tab)], narrowed := true }
def FactsJoinedUptoSaid : Prop := factsJoinedUptoRow.holds Tryz.pinned (OpenSpec.upto factsJoinedSpec)

/-- 'doubletlaw09.SpecTexts', WHERE WHAT IT READS IS OF BULK AT MOST 1048576: true; the input reads as it did. -/
def specTextsUptoRow : OpenClaim := { program := "ytfekpkelmliejaagreatdoor", sum := "174bf65eb97fb1ae5b1e8e41cb53d68932e0340ccb5ff498a75a5472de9cad2d", func := "doublet/doubletlaw09.SpecTexts", spec := "specTexts", inPlace := ["internal/bytealg.IndexByte", "internal/bytealg.Index"], unfollowed := true, recurses := true, named := ["math/bits.deBruijn64tab", "internal/bytealg.MaxLen"], loops := true, apart := false, laid := [("math/bits.deBruijn64tab", laid_math_bits_deBruijn64tab)], narrowed := true }
def SpecTextsUptoSaid : Prop := specTextsUptoRow.holds Tryz.pinned (OpenSpec.upto specTextsSpec)

/-- 'doubletlaw09.SpecBack', WHERE WHAT IT READS IS OF BULK AT MOST 1048576: true; the input reads as it did. -/
def specBackUptoRow : OpenClaim := { program := "ytfekpkelmliejaagreatdoor", sum := "174bf65eb97fb1ae5b1e8e41cb53d68932e0340ccb5ff498a75a5472de9cad2d", func := "doublet/doubletlaw09.SpecBack", spec := "specBack", inPlace := ["internal/bytealg.IndexByte", "internal/bytealg.Index"], unfollowed := true, recurses := true, named := ["math/bits.deBruijn64tab", "internal/bytealg.MaxLen"], loops := true, apart := false, laid := [("math/bits.deBruijn64tab", laid_math_bits_deBruijn64tab)], narrowed := true }
def SpecBackUptoSaid : Prop := specBackUptoRow.holds Tryz.pinned (OpenSpec.upto specBackSpec)

end Rows
end Go.Proofs.YtfekpkelmliejaaGreatDoor
