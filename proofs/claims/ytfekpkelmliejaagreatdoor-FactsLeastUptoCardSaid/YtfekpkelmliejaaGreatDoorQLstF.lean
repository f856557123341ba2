/-
  The law FactsLeast, walked.
-/
import Derived.Test.YtfekpkelmliejaaGreatDoorQLstL
import Derived.Test.YtfekpkelmliejaaGreatDoorQFactL
namespace Go.Proofs.YtfekpkelmliejaaGreatDoor
open Go.RowKit
set_option linter.unusedSimpArgs false
set_option linter.unusedVariables false
set_option maxRecDepth 100000

set_option maxHeartbeats 4000000 in
theorem ll_far (x : Nd) (most : Int) (B : Option Addr) (cap : Nat) (w : World) (hs : x.size ≤ 2000000) (ht : TreesAt w (fun b => b < w.heap.size) x.kids B) (hT : TabAt 1 Lib.deBruijn64tab w) (hw0 : 1 < w.heap.size) (hm : 2000 < most) : Calls Tryz.prog 3 #[ndV x B cap, .int .i64 most] w fun e w' => e = .returned (.bool true) ∧ Below w.heap.size w w' := by
  have hb : Below w.heap.size w (w.alloc (.cells #[.int .i64 x.kind, .int .u64 ((word (x.set.testBit) 0 : Nat) : Int), .int .u64 ((word (x.set.testBit) 1 : Nat) : Int), .int .u64 ((word (x.set.testBit) 2 : Nat) : Int), .int .u64 ((word (x.set.testBit) 3 : Nat) : Int), .slice B x.kids.len cap, .int .i64 x.lo, .int .i64 x.hi] 28)) := (Below.refl _ _).alloc (Nat.le_refl _) _
  have HB := Lib.hid hb
  have HC := Lib.hid (knows10_go (w.alloc (.cells #[.int .i64 x.kind, .int .u64 ((word (x.set.testBit) 0 : Nat) : Int), .int .u64 ((word (x.set.testBit) 1 : Nat) : Int), .int .u64 ((word (x.set.testBit) 2 : Nat) : Int), .int .u64 ((word (x.set.testBit) 3 : Nat) : Int), .slice B x.kids.len cap, .int .i64 x.lo, .int .i64 x.hi] 28)) (TabAt.below hb hw0 hT) (Nat.lt_of_lt_of_le hw0 hb.size))
  clear hb ht hT hw0 hs
  unfold ndV
  go_enter Tryz.func3, Tryz.ntmps3
  go_upto_region 1 with fail
  generalize w.alloc (.cells #[.int .i64 x.kind, .int .u64 ((word (x.set.testBit) 0 : Nat) : Int), .int .u64 ((word (x.set.testBit) 1 : Nat) : Int), .int .u64 ((word (x.set.testBit) 2 : Nat) : Int), .int .u64 ((word (x.set.testBit) 3 : Nat) : Int), .slice B x.kids.len cap, .int .i64 x.lo, .int .i64 x.hi] 28) = w2 at *
  go_wp2_with fail
  refine HC.out.mono ?_
  rintro e w3 ⟨rfl, hb3⟩
  have HB3 := Lib.hid (HB.out.trans (hb3.mono HB.out.size))
  clear hb3 HC
  dsimp only
  go_wp2
  go_light
  go_ret
  exact ⟨rfl, HB3.out⟩
set_option maxHeartbeats 8000000 in
theorem ll_near (x : Nd) (most : Int) (B : Option Addr) (cap : Nat) (w : World) (hs : x.size ≤ 2000000) (ht : TreesAt w (fun b => b < w.heap.size) x.kids B) (hT : TabAt 1 Lib.deBruijn64tab w) (hw0 : 1 < w.heap.size) (hm : most ≤ 2000) : Calls Tryz.prog 3 #[ndV x B cap, .int .i64 most] w fun e w' => e = .returned (.bool true) ∧ Below w.heap.size w w' := by
  have hb : Below w.heap.size w (w.alloc (.cells #[.int .i64 x.kind, .int .u64 ((word (x.set.testBit) 0 : Nat) : Int), .int .u64 ((word (x.set.testBit) 1 : Nat) : Int), .int .u64 ((word (x.set.testBit) 2 : Nat) : Int), .int .u64 ((word (x.set.testBit) 3 : Nat) : Int), .slice B x.kids.len cap, .int .i64 x.lo, .int .i64 x.hi] 28)) := (Below.refl _ _).alloc (Nat.le_refl _) _
  have HB := Lib.hid hb
  have HN := Lib.hid (Blk.new w 28 #[.int .i64 x.kind, .int .u64 ((word (x.set.testBit) 0 : Nat) : Int), .int .u64 ((word (x.set.testBit) 1 : Nat) : Int), .int .u64 ((word (x.set.testBit) 2 : Nat) : Int), .int .u64 ((word (x.set.testBit) 3 : Nat) : Int), .slice B x.kids.len cap, .int .i64 x.lo, .int .i64 x.hi])
  have ht2 := (ht.below hb).weak (Q := fun b => b < (w.alloc (.cells #[.int .i64 x.kind, .int .u64 ((word (x.set.testBit) 0 : Nat) : Int), .int .u64 ((word (x.set.testBit) 1 : Nat) : Int), .int .u64 ((word (x.set.testBit) 2 : Nat) : Int), .int .u64 ((word (x.set.testBit) 3 : Nat) : Int), .slice B x.kids.len cap, .int .i64 x.lo, .int .i64 x.hi] 28)).heap.size) (fun b _ h => h)
  have HL := Lib.hid (fLeast_go x most B cap _ hs hm ht2 (TabAt.below hb hw0 hT) (Nat.lt_of_lt_of_le hw0 hb.size))
  have HR := Lib.hid (fun (W : World) (hW : Below w.heap.size w W) => rLeast_go x most _ B cap W hs (ht.below hW))
  have HK := Lib.hid (fun (W : World) (hW : Below w.heap.size w W) => knows10_go W (TabAt.below hW hw0 hT) (Nat.lt_of_lt_of_le hw0 hW.size))
  have hm2 : ¬ 2000 < most := by omega
  clear hb ht ht2 hT hw0 hs
  unfold ndV at HL HR ⊢
  go_enter Tryz.func3, Tryz.ntmps3
  go_upto_region 1 with fail
  generalize w.alloc (.cells #[.int .i64 x.kind, .int .u64 ((word (x.set.testBit) 0 : Nat) : Int), .int .u64 ((word (x.set.testBit) 1 : Nat) : Int), .int .u64 ((word (x.set.testBit) 2 : Nat) : Int), .int .u64 ((word (x.set.testBit) 3 : Nat) : Int), .slice B x.kids.len cap, .int .i64 x.lo, .int .i64 x.hi] 28) = w2 at *
  obtain ⟨n0, n1, n2, n3, n4, n5, n6, n7⟩ := ((HN.out)).c8r
  have hln := (HN.out).lt
  go_wp2_with fail
  refine HL.out.mono ?_
  rintro e w3 ⟨A3, k3, rfl, hA3, hb3⟩
  have HN3 := Lib.hid (HN.out.below hb3 HN.out.lt)
  have HB3 := Lib.hid (HB.out.trans (hb3.mono HB.out.size))
  have HA3 := Lib.hid hA3
  clear hb3 hA3 HL HN HB
  clear n0 n1 n2 n3 n4 n5 n6 n7 hln
  obtain ⟨n0, n1, n2, n3, n4, n5, n6, n7⟩ := ((HN3.out)).c8r
  have hln := (HN3.out).lt
  have HC := Lib.hid (HR.out w3 HB3.out)
  clear HR
  generalize hu : wordM x most = u at *
  generalize hk : okM x most = ok at *
  have HU := Lib.hid hu
  have HK2 := Lib.hid hk
  clear hu hk
  dsimp only
  go_wp2_with fail
  refine HC.out.mono ?_
  rintro e w4 ⟨A4, k4, v, is, there, rfl, hA4, hb4, hE⟩
  have HB4 := Lib.hid (HB3.out.trans (hb4.mono HB3.out.size))
  have HA3' := Lib.hid ((HA3.out.below hb4).more hb4.size)
  have s4 := bytes_strM k4 hA4
  have s3 := bytes_strM k3 HA3'.out
  clear hb4 hA4 HC HA3 HA3' HN3 HB3
  clear n0 n1 n2 n3 n4 n5 n6 n7 hln
  cases there with
  | false =>
    clear hE s3 s4 HK
    dsimp only
    go_wp2
    go_light
    go_ret
    exact ⟨rfl, HB4.out⟩
  | true =>
    obtain ⟨e1, e2⟩ := hE rfl
    rw [HU.out] at e1
    rw [HK2.out] at e2
    rw [e1] at s4 ⊢
    rw [e2]
    have hq : (ok == ok) = true := by simp
    have hs : ((strOf u).toList == (strOf u).toList) = true := by simp
    clear e1 e2
    have HC := Lib.hid (HK.out w4 HB4.out)
    clear hE HK
    generalize strOf u = sv at *
    dsimp only
    go_wp2_with fail
    refine HC.out.mono ?_
    rintro e w5 ⟨rfl, hb5⟩
    have HB5 := Lib.hid (HB4.out.trans (hb5.mono HB4.out.size))
    clear hb5 HC
    dsimp only
    go_wp2
    go_light
    go_ret
    exact ⟨rfl, HB5.out⟩
theorem fleast_law (x : Nd) (most : Int) (B : Option Addr) (cap : Nat) (w : World) (hs : x.size ≤ 2000000) (ht : TreesAt w (fun b => b < w.heap.size) x.kids B) (hT : TabAt 1 Lib.deBruijn64tab w) (hw0 : 1 < w.heap.size) : Calls Tryz.prog 3 #[ndV x B cap, .int .i64 most] w fun e w' => e = .returned (.bool true) ∧ Below w.heap.size w w' := by
  rcases Int.lt_or_le 2000 most with h | h
  · exact ll_far x most B cap w hs ht hT hw0 h
  · exact ll_near x most B cap w hs ht hT hw0 h
end Go.Proofs.YtfekpkelmliejaaGreatDoor
