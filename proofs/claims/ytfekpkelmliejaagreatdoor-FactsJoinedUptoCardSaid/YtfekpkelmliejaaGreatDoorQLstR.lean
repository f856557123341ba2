/-
  The reference of chapter 10: least, small, Least; and facts.Least.
-/
import Derived.Test.YtfekpkelmliejaaGreatDoorQLstP
import Derived.Test.YtfekpkelmliejaaGreatDoorQZ05
import Derived.Test.YtfekpkelmliejaaGreatDoorQRRightX
namespace Go.Proofs.YtfekpkelmliejaaGreatDoor
open Go.RowKit
set_option linter.unusedSimpArgs false
set_option linter.unusedVariables false
set_option maxRecDepth 100000

/-- The node's box, and the empty word behind it. -/
def KidRl (F : Trees) (P : Nat → Prop) (w0 : World) : Prop := ∀ (i : Nat) (z : Nd) (C : Option Addr) (capc : Nat) (W : World), F.list[i]? = some z → z.sum.hollow = false → Below w0.heap.size w0 W → TreesAt W P z.kids C →
  Calls Tryz.prog 65 #[ndV z C capc] W (WordOut z.least W)
theorem KidRl.later {F : Trees} {P : Nat → Prop} {w w2 : World} (h : KidRl F P w) (hb : Below w.heap.size w w2) : KidRl F P w2 := fun i z C capc W hz h1 hW ht => h i z C capc W hz h1 (hb.trans (hW.mono hb.size)) ht
/-! Are all lengths on the way small? -/
end Go.Proofs.YtfekpkelmliejaaGreatDoor
