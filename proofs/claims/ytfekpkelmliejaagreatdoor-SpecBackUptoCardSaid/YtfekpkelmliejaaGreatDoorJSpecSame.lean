/- Texts of the claim. -/
import Derived.Test.YtfekpkelmliejaaGreatDoorJRHas
import Derived.Test.YtfekpkelmliejaaGreatDoorJTSame
import Derived.Test.YtfekpkelmliejaaGreatDoorJNine
namespace Go.Proofs.YtfekpkelmliejaaGreatDoor
open Go.RowKit
set_option linter.unusedSimpArgs false
set_option linter.unusedVariables false
set_option maxRecDepth 100000
set_option maxHeartbeats 8000000
def ruA (r : RuleS) (B : Option Addr) (cap : Nat) : Array Value := #[.string (strOf r.name), .int .i64 r.body.kind, .int .u64 (word r.body.set.testBit 0), .int .u64 (word r.body.set.testBit 1), .int .u64 (word r.body.set.testBit 2), .int .u64 (word r.body.set.testBit 3), .slice B r.body.kids.len cap, .int .i64 r.body.lo, .int .i64 r.body.hi]
theorem rulesame_go (r : RuleS) (P P' : Nat → Prop) (B B' : Option Addr) (cap cap' : Nat) (w : World) (hlen : r.body.size ≤ 4611686018427387903) (ht : TreesAt w P r.body.kids B) (ht' : TreesAt w P' r.body.kids B') :
  Calls Tryz.prog 98 #[.agg (ruA r B cap), .agg (ruA r B' cap')] w fun e w' => e = .returned (.bool true) ∧ Below w.heap.size w w' := by
 have hb2 : Below w.heap.size w ((w.alloc (.cells (ruA r B cap) 120)).alloc (.cells (ruA r B' cap') 120)) := ((Below.refl _ _).alloc (Nat.le_refl _) _).alloc (by simp) _
 have HI := Lib.hid (tsame_go r.body P P' B B' cap cap' _ hlen (ht.below hb2) (ht'.below hb2))
 have HB := Lib.hid hb2
 have hs : ((strOf r.name).toList == (strOf r.name).toList) = true := by simp
 clear ht ht' hb2 hlen
 unfold ruA ndV at *
 go_enter Tryz.func98, Tryz.ntmps98
 go_wp2_with fail
 refine HI.out.mono ?_
 rintro e w3 ⟨rfl, hb3⟩
 have HB3 := Lib.hid (HB.out.trans (hb3.mono HB.out.size))
 clear hb3 HI
 dsimp only
 go_wp2
 go_light
 go_ret
 exact ⟨rfl, HB3.out⟩
theorem rulesequal_go (A A' : Option Addr) (cap cap' : Nat) (rs : List RuleS) (P P' : Nat → Prop) (w : World) (hA : RulesAt w P rs A) (hA' : RulesAt w P' rs A') (hl : rs.length ≤ 100000000) (hsz : ∀ r ∈ rs, r.body.size ≤ 4611686018427387903) :
  Calls Tryz.prog 97 #[.slice A rs.length cap, .slice A' rs.length cap', .func (.func 98) #[] #[]] w fun e w' => e = .returned (.bool true) ∧ Below w.heap.size w w' := by
 have HA := Lib.hid hA
 have HA' := Lib.hid hA'
 have HS := Lib.hid hsz
 have hn : ((rs.length : Int) != (rs.length : Int)) = false := by simp
 clear hA hA' hsz
 go_enter Tryz.func97, Tryz.ntmps97
 go_wp2
 go_loopw [17] (fun i wr => ∃ k : Nat, i = .int .i64 (k : Int) ∧ k ≤ rs.length ∧ Hid (Below w.heap.size w wr)) (fun i _ => rs.length - (intOf i).toNat)
 case atStart => exact ⟨0, rfl, Nat.zero_le _, Lib.hid (Below.refl _ _)⟩
 case round =>
  clear hn
  obtain ⟨k, rfl, hk, HB⟩ := hrel
  by_cases hlt : k < rs.length
  ·obtain ⟨r, hr⟩ : ∃ r, rs[k]? = some r := ⟨_, List.getElem?_eq_getElem hlt⟩
   obtain ⟨b, o, B, capb, rfl, _, _, c, ⟨c0, c1, c2, c3, c4, c5, c6, c7⟩, ht⟩ := (HA.out.below HB.out) k r hr
   obtain ⟨b', o', B', capb', rfl, _, _, d, ⟨d0, d1, d2, d3, d4, d5, d6, d7⟩, ht'⟩ := (HA'.out.below HB.out) k r hr
   have hdl : (k : Int) < (rs.length : Int) := by omega
   have hbl := World.block_lt_of_cell? wr _ c
   have hbl' := World.block_lt_of_cell? wr _ d
   have hb2 : Below wr.heap.size wr ((wr.alloc (.cells (ruA r B capb) 120)).alloc (.cells (ruA r B' capb') 120)) := ((Below.refl _ _).alloc (Nat.le_refl _) _).alloc (by simp) _
   have HI := Lib.hid (rulesame_go r P P' B B' capb capb' _ (HS.out r (List.mem_of_getElem? hr)) (ht.below hb2) (ht'.below hb2))
   have HB2 := Lib.hid (HB.out.trans (hb2.mono HB.out.size))
   clear hr ht ht' hb2
   unfold ruA at HI
   rw [show o + k * 9 + 1 + 1 = o + k * 9 + 2 from rfl] at c1
   rw [show o + k * 9 + 1 + 2 = o + k * 9 + 3 from rfl] at c2
   rw [show o + k * 9 + 1 + 3 = o + k * 9 + 4 from rfl] at c3
   rw [show o + k * 9 + 1 + 4 = o + k * 9 + 5 from rfl] at c4
   rw [show o + k * 9 + 1 + 5 = o + k * 9 + 6 from rfl] at c5
   rw [show o + k * 9 + 1 + 6 = o + k * 9 + 7 from rfl] at c6
   rw [show o + k * 9 + 1 + 7 = o + k * 9 + 8 from rfl] at c7
   rw [show o' + k * 9 + 1 + 1 = o' + k * 9 + 2 from rfl] at d1
   rw [show o' + k * 9 + 1 + 2 = o' + k * 9 + 3 from rfl] at d2
   rw [show o' + k * 9 + 1 + 3 = o' + k * 9 + 4 from rfl] at d3
   rw [show o' + k * 9 + 1 + 4 = o' + k * 9 + 5 from rfl] at d4
   rw [show o' + k * 9 + 1 + 5 = o' + k * 9 + 6 from rfl] at d5
   rw [show o' + k * 9 + 1 + 6 = o' + k * 9 + 7 from rfl] at d6
   rw [show o' + k * 9 + 1 + 7 = o' + k * 9 + 8 from rfl] at d7
   go_wp2_with fail
   refine HI.out.mono ?_
   rintro e w3 ⟨rfl, hb3⟩
   have HB3 := Lib.hid (HB2.out.trans (hb3.mono HB2.out.size))
   clear hb3 HI c c0 c1 c2 c3 c4 c5 c6 c7 d d0 d1 d2 d3 d4 d5 d6 d7
   dsimp only
   go_wp2
   go_roundw
   case rel => exact ⟨k + 1, by go_num, by omega, HB3⟩
   case measure => simp [intOf]; omega
  ·have hdl : ¬ (k : Int) < (rs.length : Int) := by omega
   go_wp2
   go_light
   go_ret
   exact ⟨rfl, HB.out⟩
theorem sspsame_go (A A' : Option Addr) (cap cap' : Nat) (rs : List RuleS) (P P' : Nat → Prop) (w : World) (hA : RulesAt w P rs A) (hA' : RulesAt w P' rs A') (hl : rs.length ≤ 100000000) (hsz : ∀ r ∈ rs, r.body.size ≤ 4611686018427387903) :
  Calls Tryz.prog 56 #[.slice A rs.length cap, .slice A' rs.length cap'] w fun e w' => e = .returned (.bool true) ∧ Below w.heap.size w w' := by
 have HI := Lib.hid (rulesequal_go A A' cap cap' rs P P' w hA hA' hl hsz)
 clear hA hA'
 go_enter Tryz.func56, Tryz.ntmps56
 go_wp2_with fail
 refine HI.out.mono ?_
 rintro e w3 ⟨rfl, hb3⟩
 go_wp2
 go_light
 go_ret
 exact ⟨rfl, hb3⟩
end Go.Proofs.YtfekpkelmliejaaGreatDoor
