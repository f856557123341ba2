/-
  NARROWER THAN 'FOR EVERY INPUT', by the rows' own cells (each row's printed sentence says how): NfaWeighs: loops · NfaShape: loops.
  DERIVED. THE GIVEN ROWS OF THIS SEAT. 4 by the template 'for every input the law returns true; each argument reads behind the call as it read before'; 0 by the template 'total and deterministic' (their statements: YtgbpcigfbpghgaaTotals.lean).
  GIVEN WITH THE SEED: the statements are not yours to turn. If you find one false, say at which input.
  Laid BY PROGRAM, IN A SANDBOX (cutbox-rows.mjs): the forced cells as the released guide's own fill.sh prints them over the translation e7a1fa12195a1164… (all of the seat's roots in one cut). By AI agents, Wed Nov 11 2026. No macro, syntax, notation, axiom, sorry.
-/
import Derived.Test.YtgbpcigfbpghgaaChecked
import GoSem.Claim
import GoSem.ClaimJoined
import GoSem.ClaimMapViews
import Derived.JoinedTies
import Derived.KernelRfl
namespace Go.Proofs.Ytgbpcigfbpghgaa
/- THE CELL 'sum', in the pinned program and in every row, IS THE sha256 OF THE DUMP (.gsa) THAT YtgbpcigfbpghgaaProg.lean LOADS. Nothing in Lean hashes anything: it is a label: what it is worth is what the hold of that sum in a sandbox is worth. -/
noncomputable def Try.pinned : Pinned := { name := "ytgbpcigfbpghgaa", sum := "e7a1fa12195a116431427047412e744c8b9857cb56fa225f3954df85e33de905", checked := Try.checked }
namespace Rows
def none {H : Type} : Left H := { results := [], args := [] }

/-- 'doubletlaw09.SpecParts': WHATEVER THE INPUT: true; the input reads as it did. -/
def specPartsSpec : ChangeSpec := { name := "specParts", fn := fun _ => fun
  | [d1, d2] => { results := [.lit (.bool true)], args := [d1, d2] }
  | _ => none }
def specPartsRow : OpenClaim := { program := "ytgbpcigfbpghgaa", sum := "e7a1fa12195a116431427047412e744c8b9857cb56fa225f3954df85e33de905", func := "doublet/doubletlaw09.SpecParts", spec := "specParts", inPlace := ["internal/bytealg.IndexByte", "internal/bytealg.Index"], unfollowed := true, recurses := true, named := ["internal/bytealg.MaxLen"], apart := false }
def SpecPartsSaid : Prop := specPartsRow.holds Try.pinned (OpenSpec.ofChange specPartsSpec)

/-- ITS FALSE NEIGHBOUR: 'it returns false'. Refute it at one input. -/
def specPartsWrong : ChangeSpec := { name := "specParts", fn := fun _ => fun
  | [d1, d2] => { results := [.lit (.bool false)], args := [d1, d2] }
  | _ => none }
def SpecPartsWrongFalsely : Prop := specPartsRow.holds Try.pinned (OpenSpec.ofChange specPartsWrong)

/-- 'doubletlaw16.NfaWeighs': WHATEVER THE INPUT: true; the input reads as it did. -/
def nfaWeighsSpec : ChangeSpec := { name := "nfaWeighs", fn := fun _ => fun
  | [d] => { results := [.lit (.bool true)], args := [d] }
  | _ => none }
def nfaWeighsRow : OpenClaim := { program := "ytgbpcigfbpghgaa", sum := "e7a1fa12195a116431427047412e744c8b9857cb56fa225f3954df85e33de905", func := "doublet/doubletlaw16.NfaWeighs", spec := "nfaWeighs", unfollowed := true, recurses := true, loops := true, apart := false }
def NfaWeighsSaid : Prop := nfaWeighsRow.holds Try.pinned (OpenSpec.ofChange nfaWeighsSpec)

/-- ITS FALSE NEIGHBOUR: 'it returns false'. Refute it at one input. -/
def nfaWeighsWrong : ChangeSpec := { name := "nfaWeighs", fn := fun _ => fun
  | [d] => { results := [.lit (.bool false)], args := [d] }
  | _ => none }
def NfaWeighsWrongFalsely : Prop := nfaWeighsRow.holds Try.pinned (OpenSpec.ofChange nfaWeighsWrong)

/-- 'doubletlaw16.NfaShape': WHATEVER THE INPUT: true; the input reads as it did. -/
def nfaShapeSpec : ChangeSpec := { name := "nfaShape", fn := fun _ => fun
  | [d] => { results := [.lit (.bool true)], args := [d] }
  | _ => none }
def nfaShapeRow : OpenClaim := { program := "ytgbpcigfbpghgaa", sum := "e7a1fa12195a116431427047412e744c8b9857cb56fa225f3954df85e33de905", func := "doublet/doubletlaw16.NfaShape", spec := "nfaShape", unfollowed := true, recurses := true, loops := true, apart := false }
def NfaShapeSaid : Prop := nfaShapeRow.holds Try.pinned (OpenSpec.ofChange nfaShapeSpec)

/-- ITS FALSE NEIGHBOUR: 'it returns false'. Refute it at one input. -/
def nfaShapeWrong : ChangeSpec := { name := "nfaShape", fn := fun _ => fun
  | [d] => { results := [.lit (.bool false)], args := [d] }
  | _ => none }
def NfaShapeWrongFalsely : Prop := nfaShapeRow.holds Try.pinned (OpenSpec.ofChange nfaShapeWrong)

/-- 'doubletlaw16.NfaAsks': WHATEVER THE INPUT: true; the input reads as it did. -/
def nfaAsksSpec : ChangeSpec := { name := "nfaAsks", fn := fun _ => fun
  | [d1, d2] => { results := [.lit (.bool true)], args := [d1, d2] }
  | _ => none }
def nfaAsksRow : OpenClaim := { program := "ytgbpcigfbpghgaa", sum := "e7a1fa12195a116431427047412e744c8b9857cb56fa225f3954df85e33de905", func := "doublet/doubletlaw16.NfaAsks", spec := "nfaAsks", unfollowed := true, recurses := true, apart := false }
def NfaAsksSaid : Prop := nfaAsksRow.holds Try.pinned (OpenSpec.ofChange nfaAsksSpec)

/-- ITS FALSE NEIGHBOUR: 'it returns false'. Refute it at one input. -/
def nfaAsksWrong : ChangeSpec := { name := "nfaAsks", fn := fun _ => fun
  | [d1, d2] => { results := [.lit (.bool false)], args := [d1, d2] }
  | _ => none }
def NfaAsksWrongFalsely : Prop := nfaAsksRow.holds Try.pinned (OpenSpec.ofChange nfaAsksWrong)

/- THE SECOND FORM. 'bulk': how many values and letters a reading holds, each counted each time it is reached (what is shared counts as often as it is met; a slice's spare places count too). A statement '..UptoSaid' is the law's where the arguments, and the package variables that the reading takes, are together of bulk at most 1048576: NARROWER than '..Said'. Prove '..Said' where nothing that the law and all that it calls make is longer than what came in: it says more and counts as full. Else prove '..UptoSaid'. A law counts once. -/
mutual
def uptoBulk {H : Type} : DataW H → Nat
  | .lit (.string bytes) => bytes.length + 1
  | .lit _ => 1
  | .nil => 1
  | .ptr d => uptoBulk d + 1
  | .slice elems spare => uptoBulkAll elems + uptoBulkAll spare + 1
  | .agg parts => uptoBulkAll parts + 1
  | .iface _ d => uptoBulk d + 1
  | .map entries => uptoBulkEntries entries + 1
  | .held _ => 1
def uptoBulkAll {H : Type} : List (DataW H) → Nat
  | [] => 0
  | d :: r => uptoBulk d + uptoBulkAll r
def uptoBulkEntries {H : Type} : List (Lit × DataW H) → Nat
  | [] => 0
  | x :: r => uptoBulkEntry x + uptoBulkEntries r
def uptoBulkEntry {H : Type} : Lit × DataW H → Nat
  | (.string bytes, d) => bytes.length + uptoBulk d + 1
  | (_, d) => uptoBulk d + 1
 end
def uptoSmall : (H : Type) → List (DataW H) → Bool := fun _ ds => decide (uptoBulkAll ds ≤ 1048576)
def OpenSpec.upto (s : _root_.Go.ChangeSpec) : _root_.Go.OpenSpec := { _root_.Go.OpenSpec.ofChange s with cond := some uptoSmall }

/-- 'doubletlaw09.SpecParts', WHERE WHAT IT READS IS OF BULK AT MOST 1048576: true; the input reads as it did. -/
def specPartsUptoRow : OpenClaim := { program := "ytgbpcigfbpghgaa", sum := "e7a1fa12195a116431427047412e744c8b9857cb56fa225f3954df85e33de905", func := "doublet/doubletlaw09.SpecParts", spec := "specParts", inPlace := ["internal/bytealg.IndexByte", "internal/bytealg.Index"], unfollowed := true, recurses := true, named := ["internal/bytealg.MaxLen"], apart := false, narrowed := true }
def SpecPartsUptoSaid : Prop := specPartsUptoRow.holds Try.pinned (OpenSpec.upto specPartsSpec)

/-- 'doubletlaw16.NfaWeighs', WHERE WHAT IT READS IS OF BULK AT MOST 1048576: true; the input reads as it did. -/
def nfaWeighsUptoRow : OpenClaim := { program := "ytgbpcigfbpghgaa", sum := "e7a1fa12195a116431427047412e744c8b9857cb56fa225f3954df85e33de905", func := "doublet/doubletlaw16.NfaWeighs", spec := "nfaWeighs", unfollowed := true, recurses := true, loops := true, apart := false, narrowed := true }
def NfaWeighsUptoSaid : Prop := nfaWeighsUptoRow.holds Try.pinned (OpenSpec.upto nfaWeighsSpec)

/-- 'doubletlaw16.NfaShape', WHERE WHAT IT READS IS OF BULK AT MOST 1048576: true; the input reads as it did. -/
def nfaShapeUptoRow : OpenClaim := { program := "ytgbpcigfbpghgaa", sum := "e7a1fa12195a116431427047412e744c8b9857cb56fa225f3954df85e33de905", func := "doublet/doubletlaw16.NfaShape", spec := "nfaShape", unfollowed := true, recurses := true, loops := true, apart := false, narrowed := true }
def NfaShapeUptoSaid : Prop := nfaShapeUptoRow.holds Try.pinned (OpenSpec.upto nfaShapeSpec)

/-- 'doubletlaw16.NfaAsks', WHERE WHAT IT READS IS OF BULK AT MOST 1048576: true; the input reads as it did. -/
def nfaAsksUptoRow : OpenClaim := { program := "ytgbpcigfbpghgaa", sum := "e7a1fa12195a116431427047412e744c8b9857cb56fa225f3954df85e33de905", func := "doublet/doubletlaw16.NfaAsks", spec := "nfaAsks", unfollowed := true, recurses := true, apart := false, narrowed := true }
def NfaAsksUptoSaid : Prop := nfaAsksUptoRow.holds Try.pinned (OpenSpec.upto nfaAsksSpec)

end Rows
end Go.Proofs.Ytgbpcigfbpghgaa
