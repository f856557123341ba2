/-
  NARROWER THAN 'FOR EVERY INPUT', by the rows' own cells (each row's printed sentence says how): MirrorSays: loops, laid · MirrorTells: laid · SimpleOf: loops, laid · SimpleMakes: loops, laid · SimpleRepeats: loops, laid · ClosureSaid: loops, laid · MatchFacts: loops, laid · SimpleSame: loops, laid.
  DERIVED. THE GIVEN ROWS OF THIS SEAT. 8 by the template 'for every input the law returns true; each argument reads behind the call as it read before'; 0 by the template 'total and deterministic' (their statements: YtofbfafnpdaejaaGreatDoorTotals.lean).
  GIVEN WITH THE SEED: the statements are not yours to turn. If you find one false, say at which input.
  Laid BY PROGRAM, IN A SANDBOX (cutbox-rows.mjs): the forced cells as the released guide's own fill.sh prints them over the translation 392720a7c03c1d7a… (all of the seat's roots in one cut). By AI agents, Wed Nov 11 2026. No macro, syntax, notation, axiom, sorry.
-/
import Derived.Test.YtofbfafnpdaejaaGreatDoorChecked
import GoSem.Claim
import GoSem.ClaimJoined
import GoSem.ClaimMapViews
import Derived.JoinedTies
import Derived.KernelRfl
namespace Go.Proofs.YtofbfafnpdaejaaGreatDoor
/- THE CELL 'sum', in the pinned program and in every row, IS THE sha256 OF THE DUMP (.gsa) THAT YtofbfafnpdaejaaGreatDoorProg.lean LOADS. Nothing in Lean hashes anything: it is a label: what it is worth is what the hold of that sum in a sandbox is worth. -/
noncomputable def Tryz.pinned : Pinned := { name := "ytofbfafnpdaejaagreatdoor", sum := "392720a7c03c1d7a721aeef574a136d5d0a2d2a7fda7743b477c0e2be38c517a", checked := Tryz.checked }
namespace Rows
def none {H : Type} : Left H := { results := [], args := [] }

/- WHAT THE LISTED PACKAGE-LEVEL VARIABLES READ AS WHEN THE CALL BEGINS. Each datum BY PROGRAM (the guide's laid-datum.mjs) off the statement by which the dump's own 'gosem.cut.vars' lays the variable. In a bare row this is a premise. The card (YtofbfafnpdaejaaGreatDoorCards.lean) ties it to the program's text. -/
def laid_math_bits_deBruijn64tab {H : Type} : DataW H := .agg [.lit (.int .u8 0), .lit (.int .u8 1), .lit (.int .u8 56), .lit (.int .u8 2), .lit (.int .u8 57), .lit (.int .u8 49), .lit (.int .u8 28), .lit (.int .u8 3), .lit (.int .u8 61), .lit (.int .u8 58), .lit (.int .u8 42), .lit (.int .u8 50), .lit (.int .u8 38), .lit (.int .u8 29), .lit (.int .u8 17), .lit (.int .u8 4), .lit (.int .u8 62), .lit (.int .u8 47), .lit (.int .u8 59), .lit (.int .u8 36), .lit (.int .u8 45), .lit (.int .u8 43), .lit (.int .u8 51), .lit (.int .u8 22), .lit (.int .u8 53), .lit (.int .u8 39), .lit (.int .u8 33), .lit (.int .u8 30), .lit (.int .u8 24), .lit (.int .u8 18), .lit (.int .u8 12), .lit (.int .u8 5), .lit (.int .u8 63), .lit (.int .u8 55), .lit (.int .u8 48), .lit (.int .u8 27), .lit (.int .u8 60), .lit (.int .u8 41), .lit (.int .u8 37), .lit (.int .u8 16), .lit (.int .u8 46), .lit (.int .u8 35), .lit (.int .u8 44), .lit (.int .u8 21), .lit (.int .u8 52), .lit (.int .u8 32), .lit (.int .u8 23), .lit (.int .u8 11), .lit (.int .u8 54), .lit (.int .u8 26), .lit (.int .u8 40), .lit (.int .u8 15), .lit (.int .u8 34), .lit (.int .u8 20), .lit (.int .u8 31), .lit (.int .u8 10), .lit (.int .u8 25), .lit (.int .u8 14), .lit (.int .u8 19), .lit (.int .u8 9), .lit (.int .u8 13), .lit (.int .u8 8), .lit (.int .u8 7), .lit (.int .u8 6)]

/-- 'doubletlaw18.MirrorSays': WHATEVER THE INPUT: true; the input reads as it did. -/
def mirrorSaysSpec : ChangeSpec := { name := "mirrorSays", fn := fun _ => fun
  | [d1, d2] => { results := [.lit (.bool true)], args := [d1, d2] }
  | _ => none }
def mirrorSaysRow : OpenClaim := { program := "ytofbfafnpdaejaagreatdoor", sum := "392720a7c03c1d7a721aeef574a136d5d0a2d2a7fda7743b477c0e2be38c517a", func := "doublet/doubletlaw18.MirrorSays", spec := "mirrorSays", unfollowed := true, recurses := true, named := ["math/bits.deBruijn64tab"], loops := true, plainKeys := false, apart := false, laid := [("math/bits.deBruijn64tab", laid_math_bits_deBruijn64tab)] }
def MirrorSaysSaid : Prop := mirrorSaysRow.holds Tryz.pinned (OpenSpec.ofChange mirrorSaysSpec)

/-- ITS FALSE NEIGHBOUR: 'it returns false'. Refute it at one input. -/
def mirrorSaysWrong : ChangeSpec := { name := "mirrorSays", fn := fun _ => fun
  | [d1, d2] => { results := [.lit (.bool false)], args := [d1, d2] }
  | _ => none }
def MirrorSaysWrongFalsely : Prop := mirrorSaysRow.holds Tryz.pinned (OpenSpec.ofChange mirrorSaysWrong)

/-- 'doubletlaw18.MirrorTells': WHATEVER THE INPUT: true; the input reads as it did. -/
def mirrorTellsSpec : ChangeSpec := { name := "mirrorTells", fn := fun _ => fun
  | [d1, d2, d3] => { results := [.lit (.bool true)], args := [d1, d2, d3] }
  | _ => none }
def mirrorTellsRow : OpenClaim := { program := "ytofbfafnpdaejaagreatdoor", sum := "392720a7c03c1d7a721aeef574a136d5d0a2d2a7fda7743b477c0e2be38c517a", func := "doublet/doubletlaw18.MirrorTells", spec := "mirrorTells", unfollowed := true, recurses := true, named := ["math/bits.deBruijn64tab"], plainKeys := false, apart := false, laid := [("math/bits.deBruijn64tab", laid_math_bits_deBruijn64tab)] }
def MirrorTellsSaid : Prop := mirrorTellsRow.holds Tryz.pinned (OpenSpec.ofChange mirrorTellsSpec)

/-- ITS FALSE NEIGHBOUR: 'it returns false'. Refute it at one input. -/
def mirrorTellsWrong : ChangeSpec := { name := "mirrorTells", fn := fun _ => fun
  | [d1, d2, d3] => { results := [.lit (.bool false)], args := [d1, d2, d3] }
  | _ => none }
def MirrorTellsWrongFalsely : Prop := mirrorTellsRow.holds Tryz.pinned (OpenSpec.ofChange mirrorTellsWrong)

/-- 'doubletlaw12.SimpleOf': WHATEVER THE INPUT: true; the input reads as it did. -/
def simpleOfSpec : ChangeSpec := { name := "simpleOf", fn := fun _ => fun
  | [d] => { results := [.lit (.bool true)], args := [d] }
  | _ => none }
def simpleOfRow : OpenClaim := { program := "ytofbfafnpdaejaagreatdoor", sum := "392720a7c03c1d7a721aeef574a136d5d0a2d2a7fda7743b477c0e2be38c517a", func := "doublet/doubletlaw12.SimpleOf", spec := "simpleOf", unfollowed := true, recurses := true, named := ["math/bits.deBruijn64tab"], loops := true, plainKeys := false, apart := false, laid := [("math/bits.deBruijn64tab", laid_math_bits_deBruijn64tab)] }
def SimpleOfSaid : Prop := simpleOfRow.holds Tryz.pinned (OpenSpec.ofChange simpleOfSpec)

/-- ITS FALSE NEIGHBOUR: 'it returns false'. Refute it at one input. -/
def simpleOfWrong : ChangeSpec := { name := "simpleOf", fn := fun _ => fun
  | [d] => { results := [.lit (.bool false)], args := [d] }
  | _ => none }
def SimpleOfWrongFalsely : Prop := simpleOfRow.holds Tryz.pinned (OpenSpec.ofChange simpleOfWrong)

/-- 'doubletlaw12.SimpleMakes': WHATEVER THE INPUT: true; the input reads as it did. -/
def simpleMakesSpec : ChangeSpec := { name := "simpleMakes", fn := fun _ => fun
  | [d] => { results := [.lit (.bool true)], args := [d] }
  | _ => none }
def simpleMakesRow : OpenClaim := { program := "ytofbfafnpdaejaagreatdoor", sum := "392720a7c03c1d7a721aeef574a136d5d0a2d2a7fda7743b477c0e2be38c517a", func := "doublet/doubletlaw12.SimpleMakes", spec := "simpleMakes", unfollowed := true, recurses := true, named := ["math/bits.deBruijn64tab"], loops := true, plainKeys := false, apart := false, laid := [("math/bits.deBruijn64tab", laid_math_bits_deBruijn64tab)] }
def SimpleMakesSaid : Prop := simpleMakesRow.holds Tryz.pinned (OpenSpec.ofChange simpleMakesSpec)

/-- ITS FALSE NEIGHBOUR: 'it returns false'. Refute it at one input. -/
def simpleMakesWrong : ChangeSpec := { name := "simpleMakes", fn := fun _ => fun
  | [d] => { results := [.lit (.bool false)], args := [d] }
  | _ => none }
def SimpleMakesWrongFalsely : Prop := simpleMakesRow.holds Tryz.pinned (OpenSpec.ofChange simpleMakesWrong)

/-- 'doubletlaw12.SimpleRepeats': WHATEVER THE INPUT: true; the input reads as it did. -/
def simpleRepeatsSpec : ChangeSpec := { name := "simpleRepeats", fn := fun _ => fun
  | [d1, d2, d3] => { results := [.lit (.bool true)], args := [d1, d2, d3] }
  | _ => none }
def simpleRepeatsRow : OpenClaim := { program := "ytofbfafnpdaejaagreatdoor", sum := "392720a7c03c1d7a721aeef574a136d5d0a2d2a7fda7743b477c0e2be38c517a", func := "doublet/doubletlaw12.SimpleRepeats", spec := "simpleRepeats", unfollowed := true, recurses := true, named := ["math/bits.deBruijn64tab"], loops := true, plainKeys := false, apart := false, laid := [("math/bits.deBruijn64tab", laid_math_bits_deBruijn64tab)] }
def SimpleRepeatsSaid : Prop := simpleRepeatsRow.holds Tryz.pinned (OpenSpec.ofChange simpleRepeatsSpec)

/-- ITS FALSE NEIGHBOUR: 'it returns false'. Refute it at one input. -/
def simpleRepeatsWrong : ChangeSpec := { name := "simpleRepeats", fn := fun _ => fun
  | [d1, d2, d3] => { results := [.lit (.bool false)], args := [d1, d2, d3] }
  | _ => none }
def SimpleRepeatsWrongFalsely : Prop := simpleRepeatsRow.holds Tryz.pinned (OpenSpec.ofChange simpleRepeatsWrong)

/-- 'doubletlaw17.ClosureSaid': WHATEVER THE INPUT: true; the input reads as it did. -/
def closureSaidSpec : ChangeSpec := { name := "closureSaid", fn := fun _ => fun
  | [d1, d2] => { results := [.lit (.bool true)], args := [d1, d2] }
  | _ => none }
def closureSaidRow : OpenClaim := { program := "ytofbfafnpdaejaagreatdoor", sum := "392720a7c03c1d7a721aeef574a136d5d0a2d2a7fda7743b477c0e2be38c517a", func := "doublet/doubletlaw17.ClosureSaid", spec := "closureSaid", unfollowed := true, recurses := true, named := ["math/bits.deBruijn64tab"], loops := true, plainKeys := false, apart := false, laid := [("math/bits.deBruijn64tab", laid_math_bits_deBruijn64tab)] }
def ClosureSaidSaid : Prop := closureSaidRow.holds Tryz.pinned (OpenSpec.ofChange closureSaidSpec)

/-- ITS FALSE NEIGHBOUR: 'it returns false'. Refute it at one input. -/
def closureSaidWrong : ChangeSpec := { name := "closureSaid", fn := fun _ => fun
  | [d1, d2] => { results := [.lit (.bool false)], args := [d1, d2] }
  | _ => none }
def ClosureSaidWrongFalsely : Prop := closureSaidRow.holds Tryz.pinned (OpenSpec.ofChange closureSaidWrong)

/-- 'doubletlaw11.MatchFacts': WHATEVER THE INPUT: true; the input reads as it did. -/
def matchFactsSpec : ChangeSpec := { name := "matchFacts", fn := fun _ => fun
  | [d1, d2] => { results := [.lit (.bool true)], args := [d1, d2] }
  | _ => none }
def matchFactsRow : OpenClaim := { program := "ytofbfafnpdaejaagreatdoor", sum := "392720a7c03c1d7a721aeef574a136d5d0a2d2a7fda7743b477c0e2be38c517a", func := "doublet/doubletlaw11.MatchFacts", spec := "matchFacts", inPlace := ["internal/bytealg.Compare", "internal/bytealg.MakeNoZero"], unfollowed := true, recurses := true, named := ["math/bits.deBruijn64tab"], loops := true, plainKeys := false, apart := false, laid := [("math/bits.deBruijn64tab", laid_math_bits_deBruijn64tab)] }
def MatchFactsSaid : Prop := matchFactsRow.holds Tryz.pinned (OpenSpec.ofChange matchFactsSpec)

/-- ITS FALSE NEIGHBOUR: 'it returns false'. Refute it at one input. -/
def matchFactsWrong : ChangeSpec := { name := "matchFacts", fn := fun _ => fun
  | [d1, d2] => { results := [.lit (.bool false)], args := [d1, d2] }
  | _ => none }
def MatchFactsWrongFalsely : Prop := matchFactsRow.holds Tryz.pinned (OpenSpec.ofChange matchFactsWrong)

/-- 'doubletlaw12.SimpleSame': WHATEVER THE INPUT: true; the input reads as it did. -/
def simpleSameSpec : ChangeSpec := { name := "simpleSame", fn := fun _ => fun
  | [d1, d2] => { results := [.lit (.bool true)], args := [d1, d2] }
  | _ => none }
def simpleSameRow : OpenClaim := { program := "ytofbfafnpdaejaagreatdoor", sum := "392720a7c03c1d7a721aeef574a136d5d0a2d2a7fda7743b477c0e2be38c517a", func := "doublet/doubletlaw12.SimpleSame", spec := "simpleSame", unfollowed := true, recurses := true, named := ["math/bits.deBruijn64tab"], loops := true, plainKeys := false, apart := false, laid := [("math/bits.deBruijn64tab", laid_math_bits_deBruijn64tab)] }
def SimpleSameSaid : Prop := simpleSameRow.holds Tryz.pinned (OpenSpec.ofChange simpleSameSpec)

/-- ITS FALSE NEIGHBOUR: 'it returns false'. Refute it at one input. -/
def simpleSameWrong : ChangeSpec := { name := "simpleSame", fn := fun _ => fun
  | [d1, d2] => { results := [.lit (.bool false)], args := [d1, d2] }
  | _ => none }
def SimpleSameWrongFalsely : Prop := simpleSameRow.holds Tryz.pinned (OpenSpec.ofChange simpleSameWrong)

/- THE SECOND FORM. 'bulk': how many values and letters a reading holds, each counted each time it is reached (what is shared counts as often as it is met; a slice's spare places count too). A statement '..UptoSaid' is the law's where the arguments, and the package variables that the reading takes, are together of bulk at most 1048576: NARROWER than '..Said'. Prove '..Said' where nothing that the law and all that it calls make is longer than what came in: it says more and counts as full. Else prove '..UptoSaid'. A law counts once. -/
mutual
def uptoBulk {H : Type} : DataW H → Nat
  | .lit (.string bytes) => bytes.length + 1
  | .lit _ => 1
  | .nil => 1
  | .ptr d => uptoBulk d + 1
  | .slice elems spare => uptoBulkAll elems + uptoBulkAll spare + 1
  | .agg parts => uptoBulkAll parts + 1
  | .iface _ d => uptoBulk d + 1
  | .map entries => uptoBulkEntries entries + 1
  | .held _ => 1
def uptoBulkAll {H : Type} : List (DataW H) → Nat
  | [] => 0
  | d :: r => uptoBulk d + uptoBulkAll r
def uptoBulkEntries {H : Type} : List (Lit × DataW H) → Nat
  | [] => 0
  | x :: r => uptoBulkEntry x + uptoBulkEntries r
def uptoBulkEntry {H : Type} : Lit × DataW H → Nat
  | (.string bytes, d) => bytes.length + uptoBulk d + 1
  | (_, d) => uptoBulk d + 1
 end
def uptoSmall : (H : Type) → List (DataW H) → Bool := fun _ ds => decide (uptoBulkAll ds ≤ 1048576)
def OpenSpec.upto (s : _root_.Go.ChangeSpec) : _root_.Go.OpenSpec := { _root_.Go.OpenSpec.ofChange s with cond := some uptoSmall }

/-- 'doubletlaw18.MirrorSays', WHERE WHAT IT READS IS OF BULK AT MOST 1048576: true; the input reads as it did. -/
def mirrorSaysUptoRow : OpenClaim := { program := "ytofbfafnpdaejaagreatdoor", sum := "392720a7c03c1d7a721aeef574a136d5d0a2d2a7fda7743b477c0e2be38c517a", func := "doublet/doubletlaw18.MirrorSays", spec := "mirrorSays", unfollowed := true, recurses := true, named := ["math/bits.deBruijn64tab"], loops := true, plainKeys := false, apart := false, laid := [("math/bits.deBruijn64tab", laid_math_bits_deBruijn64tab)], narrowed := true }
def MirrorSaysUptoSaid : Prop := mirrorSaysUptoRow.holds Tryz.pinned (OpenSpec.upto mirrorSaysSpec)

/-- 'doubletlaw18.MirrorTells', WHERE WHAT IT READS IS OF BULK AT MOST 1048576: true; the input reads as it did. -/
def mirrorTellsUptoRow : OpenClaim := { program := "ytofbfafnpdaejaagreatdoor", sum := "392720a7c03c1d7a721aeef574a136d5d0a2d2a7fda7743b477c0e2be38c517a", func := "doublet/doubletlaw18.MirrorTells", spec := "mirrorTells", unfollowed := true, recurses := true, named := ["math/bits.deBruijn64tab"], plainKeys := false, apart := false, laid := [("math/bits.deBruijn64tab", laid_math_bits_deBruijn64tab)], narrowed := true }
def MirrorTellsUptoSaid : Prop := mirrorTellsUptoRow.holds Tryz.pinned (OpenSpec.upto mirrorTellsSpec)

/-- 'doubletlaw12.SimpleOf', WHERE WHAT IT READS IS OF BULK AT MOST 1048576: true; the input reads as it did. -/
def simpleOfUptoRow : OpenClaim := { program := "ytofbfafnpdaejaagreatdoor", sum := "392720a7c03c1d7a721aeef574a136d5d0a2d2a7fda7743b477c0e2be38c517a", func := "doublet/doubletlaw12.SimpleOf", spec := "simpleOf", unfollowed := true, recurses := true, named := ["math/bits.deBruijn64tab"], loops := true, plainKeys := false, apart := false, laid := [("math/bits.deBruijn64tab", laid_math_bits_deBruijn64tab)], narrowed := true }
def SimpleOfUptoSaid : Prop := simpleOfUptoRow.holds Tryz.pinned (OpenSpec.upto simpleOfSpec)

/-- 'doubletlaw12.SimpleMakes', WHERE WHAT IT READS IS OF BULK AT MOST 1048576: true; the input reads as it did. -/
def simpleMakesUptoRow : OpenClaim := { program := "ytofbfafnpdaejaagreatdoor", sum := "392720a7c03c1d7a721aeef574a136d5d0a2d2a7fda7743b477c0e2be38c517a", func := "doublet/doubletlaw12.SimpleMakes", spec := "simpleMakes", unfollowed := true, recurses := true, named := ["math/bits.deBruijn64tab"], loops := true, plainKeys := false, apart := false, laid := [("math/bits.deBruijn64tab", laid_math_bits_deBruijn64tab)], narrowed := true }
def SimpleMakesUptoSaid : Prop := simpleMakesUptoRow.holds Tryz.pinned (OpenSpec.upto simpleMakesSpec)

/-- 'doubletlaw12.SimpleRepeats', WHERE WHAT IT READS IS OF BULK AT MOST 1048576: true; the input reads as it did. -/
def simpleRepeatsUptoRow : OpenClaim := { program := "ytofbfafnpdaejaagreatdoor", sum := "392720a7c03c1d7a721aeef574a136d5d0a2d2a7fda7743b477c0e2be38c517a", func := "doublet/doubletlaw12.SimpleRepeats", spec := "simpleRepeats", unfollowed := true, recurses := true, named := ["math/bits.deBruijn64tab"], loops := true, plainKeys := false, apart := false, laid := [("math/bits.deBruijn64tab", laid_math_bits_deBruijn64tab)], narrowed := true }
def SimpleRepeatsUptoSaid : Prop := simpleRepeatsUptoRow.holds Tryz.pinned (OpenSpec.upto simpleRepeatsSpec)

/-- 'doubletlaw17.ClosureSaid', WHERE WHAT IT READS IS OF BULK AT MOST 1048576: true; the input reads as it did. -/
def closureSaidUptoRow : OpenClaim := { program := "ytofbfafnpdaejaagreatdoor", sum := "392720a7c03c1d7a721aeef574a136d5d0a2d2a7fda7743b477c0e2be38c517a", func := "doublet/doubletlaw17.ClosureSaid", spec := "closureSaid", unfollowed := true, recurses := true, named := ["math/bits.deBruijn64tab"], loops := true, plainKeys := false, apart := false, laid := [("math/bits.deBruijn64tab", laid_math_bits_deBruijn64tab)], narrowed := true }
def ClosureSaidUptoSaid : Prop := closureSaidUptoRow.holds Tryz.pinned (OpenSpec.upto closureSaidSpec)

/-- 'doubletlaw11.MatchFacts', WHERE WHAT IT READS IS OF BULK AT MOST 1048576: true; the input reads as it did. -/
def matchFactsUptoRow : OpenClaim := { program := "ytofbfafnpdaejaagreatdoor", sum := "392720a7c03c1d7a721aeef574a136d5d0a2d2a7fda7743b477c0e2be38c517a", func := "doublet/doubletlaw11.MatchFacts", spec := "matchFacts", inPlace := ["internal/bytealg.Compare", "internal/bytealg.MakeNoZero"], unfollowed := true, recurses := true, named := ["math/bits.deBruijn64tab"], loops := true, plainKeys := false, apart := false, laid := [("math/bits.deBruijn64tab", laid_math_bits_deBruijn64tab)], narrowed := true }
def MatchFactsUptoSaid : Prop := matchFactsUptoRow.holds Tryz.pinned (OpenSpec.upto matchFactsSpec)

/-- 'doubletlaw12.SimpleSame', WHERE WHAT IT READS IS OF BULK AT MOST 1048576: true; the input reads as it did. -/
def simpleSameUptoRow : OpenClaim := { program := "ytofbfafnpdaejaagreatdoor", sum := "392720a7c03c1d7a721aeef574a136d5d0a2d2a7fda7743b477c0e2be38c517a", func := "doublet/doubletlaw12.SimpleSame", spec := "simpleSame", unfollowed := true, recurses := true, named := ["math/bits.deBruijn64tab"], loops := true, plainKeys := false, apart := false, laid := [("math/bits.deBruijn64tab", laid_math_bits_deBruijn64tab)], narrowed := true }
def SimpleSameUptoSaid : Prop := simpleSameUptoRow.holds Tryz.pinned (OpenSpec.upto simpleSameSpec)

end Rows
end Go.Proofs.YtofbfafnpdaejaaGreatDoor
