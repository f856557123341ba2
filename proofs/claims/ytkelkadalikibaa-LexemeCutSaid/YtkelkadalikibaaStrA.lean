/-
  Texts as lists of bytes; a slice of bytes made a text.
-/
import Derived.Test.YtkelkadalikibaaMem
import Derived.Test.YtkelkadalikibaaRows
import Derived.Laws.BytesString
import Derived.Laws.Concat
import Derived.OwnWalk
import Derived.Laws.AppendOwn
import Derived.Laws.MakeOwn
namespace Go.Proofs.Ytkelkadalikibaa
open Go.RowKit
set_option linter.unusedSimpArgs false
set_option linter.unusedVariables false
set_option maxRecDepth 100000

/-- The string of some bytes. -/
def strOf (l : List Nat) : ByteArray := ByteArray.mk (l.map UInt8.ofNat).toArray
@[go_sem] theorem strOf_size (l : List Nat) : (strOf l).size = l.length := by simp [strOf, ByteArray.size]
theorem strOf_append (a b : List Nat) : strOf a ++ strOf b = strOf (a ++ b) := by
  unfold strOf; rw [ByteArray.mk_append_mk, List.map_append]

theorem foldl_push (ns : List Nat) : ∀ acc : ByteArray, (ns.map (fun n : Nat => (n : Int))).foldl (fun r n => r.push (UInt8.ofNat n.toNat)) acc = acc ++ strOf ns := by
  induction ns with
  | nil => intro acc; apply ByteArray.ext; simp [strOf]
  | cons n ns ih =>
    intro acc
    rw [List.map_cons, List.foldl_cons, ih]
    apply ByteArray.ext
    simp [strOf, ByteArray.push]

theorem run_str (w : World) (a : Addr) (cap : Nat) (ns : List Nat) (h : ∀ j u, (ns.map (fun n : Nat => Value.int .u8 (n : Int)))[j]? = some u → w.cell? (a.add j) = some u) :
    (convert 22 9 (.slice (some a) ns.length cap)).run Try.prog w = .ok (.string (strOf ns)) w := by
  rw [run_convert_bytes_string w _ _ 5 (some a) _ _ Try.underlying22 Try.underlying5 Try.underlying9]
  have hl := run_loadCells_list (P := Try.prog) w a (ns.map (fun n : Nat => Value.int .u8 (n : Int))) h
  rw [List.length_map] at hl
  rw [run_bytesToString w a ns.length cap (ns.map (fun n : Nat => (n : Int))) (by rw [hl, List.map_map]; rfl), foldl_push]
  congr 2

end Go.Proofs.Ytkelkadalikibaa
