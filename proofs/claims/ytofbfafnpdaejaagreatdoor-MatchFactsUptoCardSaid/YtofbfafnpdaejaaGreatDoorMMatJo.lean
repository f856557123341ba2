/- Texts of the claim. -/
import Derived.Test.YtofbfafnpdaejaaGreatDoorMMatKn
import Derived.Test.YtofbfafnpdaejaaGreatDoorMMatSl
import Derived.Test.YtofbfafnpdaejaaGreatDoorMTCat
namespace Go.Proofs.YtofbfafnpdaejaaGreatDoor
open Go.RowKit
set_option linter.unusedSimpArgs false
set_option linter.unusedVariables false
set_option maxRecDepth 100000
set_option maxHeartbeats 8000000
structure NodeIn (U : World) (g : Nat) (x : Nd) (B : Option Addr) (cap : Nat) : Prop where
 box : Blk U g 28 (ndA x B cap)
 tree : TreesAt U (fun b => b < U.heap.size) x.kids B
 cap : x.kids.len ≤ cap
theorem NodeIn.next {U U' : World} {g : Nat} {x : Nd} {B : Option Addr} {cap : Nat} (h : NodeIn U g x B cap) (hb : Below U.heap.size U U') : NodeIn U' g x B cap :=
 ⟨h.box.below hb h.box.lt, (h.tree.below hb).weak (fun b h1 _ => Nat.lt_of_lt_of_le h1 hb.size), h.cap⟩
structure WordIn (w U : World) (V : Option Addr) (cv : Nat) (bs : List Nat) : Prop where
 below : Below w.heap.size w U
 bytes : BytesAt U U.heap.size V bs
 cap : bs.length ≤ cv
 tab : TabAt 0 Lib.deBruijn64tab U
 pos : 0 < U.heap.size
theorem WordIn.next {w U U' : World} {V : Option Addr} {cv : Nat} {bs : List Nat} (h : WordIn w U V cv bs) (hb : Below U.heap.size U U') : WordIn w U' V cv bs :=
 ⟨h.below.trans (hb.mono h.below.size), (h.bytes.below hb).more hb.size, h.cap, TabAt.below hb h.pos h.tab, Nat.lt_of_lt_of_le h.pos hb.size⟩
end Go.Proofs.YtofbfafnpdaejaaGreatDoor
