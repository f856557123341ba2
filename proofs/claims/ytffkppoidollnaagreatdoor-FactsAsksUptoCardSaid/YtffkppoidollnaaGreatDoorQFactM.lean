/-
  FactsAsks: the walk.
-/
import Derived.Test.YtffkppoidollnaaGreatDoorQZ06
import Derived.Test.YtffkppoidollnaaGreatDoorQFactL
import Derived.Test.YtffkppoidollnaaGreatDoorQRRightX
namespace Go.Proofs.YtffkppoidollnaaGreatDoor
open Go.RowKit
set_option linter.unusedSimpArgs false
set_option linter.unusedVariables false
set_option maxRecDepth 100000

set_option maxHeartbeats 4000000 in
theorem rnull_go (x : Nd) (B : Option Addr) (cap : Nat) (w : World) (hs : x.size ≤ 140737488355328) (ho : ∀ y ∈ x.nodes, aloneN y = true) (ht : TreesAt w (fun b => b < w.heap.size) x.kids B) :
    Calls Tryz.prog 24 #[ndV x B cap] w fun e w' => e = .returned (.bool (x.sum.short == 0)) ∧ Below w.heap.size w w' := by
  have hb : Below w.heap.size w (w.alloc (.cells #[.int .i64 x.kind, .int .u64 ((word (x.set.testBit) 0 : Nat) : Int), .int .u64 ((word (x.set.testBit) 1 : Nat) : Int), .int .u64 ((word (x.set.testBit) 2 : Nat) : Int), .int .u64 ((word (x.set.testBit) 3 : Nat) : Int), .slice B x.kids.len cap, .int .i64 x.lo, .int .i64 x.hi] 39)) := (Below.refl _ _).alloc (Nat.le_refl _) _
  have HB := Lib.hid hb
  have HN := Lib.hid (Blk.new w 39 #[.int .i64 x.kind, .int .u64 ((word (x.set.testBit) 0 : Nat) : Int), .int .u64 ((word (x.set.testBit) 1 : Nat) : Int), .int .u64 ((word (x.set.testBit) 2 : Nat) : Int), .int .u64 ((word (x.set.testBit) 3 : Nat) : Int), .slice B x.kids.len cap, .int .i64 x.lo, .int .i64 x.hi])
  have HC := Lib.hid (rshort_go x _ B cap (w.alloc (.cells #[.int .i64 x.kind, .int .u64 ((word (x.set.testBit) 0 : Nat) : Int), .int .u64 ((word (x.set.testBit) 1 : Nat) : Int), .int .u64 ((word (x.set.testBit) 2 : Nat) : Int), .int .u64 ((word (x.set.testBit) 3 : Nat) : Int), .slice B x.kids.len cap, .int .i64 x.lo, .int .i64 x.hi] 39)) hs ho (ht.below hb))
  clear hb ht hs ho
  unfold ndV at HC ⊢
  go_enter Tryz.func24, Tryz.ntmps24
  go_wp2_with fail
  refine HC.out.mono ?_
  rintro e w3 ⟨rfl, hb3⟩
  have HB3 := Lib.hid (HB.out.trans (hb3.mono HB.out.size))
  clear hb3 HC HB HN
  dsimp only
  go_wp2
  go_light
  go_ret
  exact ⟨by simp [bne], HB3.out⟩
set_option maxHeartbeats 4000000 in
theorem rbounded_go (x : Nd) (B : Option Addr) (cap : Nat) (w : World) (hs : x.size ≤ 140737488355328) (ho : ∀ y ∈ x.nodes, aloneN y = true) (ht : TreesAt w (fun b => b < w.heap.size) x.kids B) :
    Calls Tryz.prog 25 #[ndV x B cap] w fun e w' => e = .returned (.bool (lonF x.sum != -2)) ∧ Below w.heap.size w w' := by
  have hb : Below w.heap.size w (w.alloc (.cells #[.int .i64 x.kind, .int .u64 ((word (x.set.testBit) 0 : Nat) : Int), .int .u64 ((word (x.set.testBit) 1 : Nat) : Int), .int .u64 ((word (x.set.testBit) 2 : Nat) : Int), .int .u64 ((word (x.set.testBit) 3 : Nat) : Int), .slice B x.kids.len cap, .int .i64 x.lo, .int .i64 x.hi] 39)) := (Below.refl _ _).alloc (Nat.le_refl _) _
  have HB := Lib.hid hb
  have HN := Lib.hid (Blk.new w 39 #[.int .i64 x.kind, .int .u64 ((word (x.set.testBit) 0 : Nat) : Int), .int .u64 ((word (x.set.testBit) 1 : Nat) : Int), .int .u64 ((word (x.set.testBit) 2 : Nat) : Int), .int .u64 ((word (x.set.testBit) 3 : Nat) : Int), .slice B x.kids.len cap, .int .i64 x.lo, .int .i64 x.hi])
  have HC := Lib.hid (rlong_go x _ B cap (w.alloc (.cells #[.int .i64 x.kind, .int .u64 ((word (x.set.testBit) 0 : Nat) : Int), .int .u64 ((word (x.set.testBit) 1 : Nat) : Int), .int .u64 ((word (x.set.testBit) 2 : Nat) : Int), .int .u64 ((word (x.set.testBit) 3 : Nat) : Int), .slice B x.kids.len cap, .int .i64 x.lo, .int .i64 x.hi] 39)) hs ho (ht.below hb))
  clear hb ht hs ho
  unfold ndV at HC ⊢
  go_enter Tryz.func25, Tryz.ntmps25
  go_wp2_with fail
  refine HC.out.mono ?_
  rintro e w3 ⟨rfl, hb3⟩
  have HB3 := Lib.hid (HB.out.trans (hb3.mono HB.out.size))
  clear hb3 HC HB HN
  dsimp only
  go_wp2
  go_light
  go_ret
  exact ⟨by simp [bne], HB3.out⟩
end Go.Proofs.YtffkppoidollnaaGreatDoor
