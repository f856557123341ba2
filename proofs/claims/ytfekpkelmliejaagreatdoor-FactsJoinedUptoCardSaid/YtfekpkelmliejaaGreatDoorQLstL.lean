/-
  facts.Least and the document's Least at any tree.
-/
import Derived.Test.YtfekpkelmliejaaGreatDoorQLstR
namespace Go.Proofs.YtfekpkelmliejaaGreatDoor
open Go.RowKit
set_option linter.unusedSimpArgs false
set_option linter.unusedVariables false
set_option maxRecDepth 100000

def okM (x : Nd) (most : Int) : Bool := rightT x && (!x.sum.hollow && decide (x.sum.short ≤ most))
def wordM (x : Nd) (most : Int) : List Nat := if okM x most = true then x.least else []
def LeastOut (x : Nd) (most : Int) (w : World) (e : Ending) (w' : World) : Prop := ∃ A k, e = .returned (.tuple #[.slice A (wordM x most).length k, .bool (okM x most)]) ∧ BytesAt w' w'.heap.size A (wordM x most) ∧ Below w.heap.size w w'
theorem okM_no {x : Nd} {most : Int} (h : okM x most = false) {w w' : World} (hb : Below w.heap.size w w') : LeastOut x most w (.returned (.tuple #[.slice none 0 0, .bool false])) w' := by
  have hw : wordM x most = [] := by unfold wordM; rw [h]; rfl
  refine ⟨none, 0, by rw [hw, h]; rfl, ?_, hb⟩
  rw [hw]
  exact ⟨(fun c hc => by cases hc), Nat.zero_le _, (fun h => absurd h (by decide))⟩
set_option maxHeartbeats 4000000 in
theorem fLeast_no (x : Nd) (most : Int) (B : Option Addr) (cap : Nat) (w : World) (hs : x.size ≤ 2000000) (hm : most ≤ 2000) (ht : TreesAt w (fun b => b < w.heap.size) x.kids B) (hT : TabAt 1 Lib.deBruijn64tab w) (hw0 : 1 < w.heap.size) (hr : rightT x = false) : Calls Tryz.prog 13 #[ndV x B cap, .int .i64 most] w (LeastOut x most w) := by
  have hb : Below w.heap.size w (w.alloc (.cells #[.int .i64 x.kind, .int .u64 ((word (x.set.testBit) 0 : Nat) : Int), .int .u64 ((word (x.set.testBit) 1 : Nat) : Int), .int .u64 ((word (x.set.testBit) 2 : Nat) : Int), .int .u64 ((word (x.set.testBit) 3 : Nat) : Int), .slice B x.kids.len cap, .int .i64 x.lo, .int .i64 x.hi] 28)) := (Below.refl _ _).alloc (Nat.le_refl _) _
  have HB := Lib.hid hb
  have HN := Lib.hid (Blk.new w 28 #[.int .i64 x.kind, .int .u64 ((word (x.set.testBit) 0 : Nat) : Int), .int .u64 ((word (x.set.testBit) 1 : Nat) : Int), .int .u64 ((word (x.set.testBit) 2 : Nat) : Int), .int .u64 ((word (x.set.testBit) 3 : Nat) : Int), .slice B x.kids.len cap, .int .i64 x.lo, .int .i64 x.hi])
  have hC := known_go x B cap (w.alloc (.cells #[.int .i64 x.kind, .int .u64 ((word (x.set.testBit) 0 : Nat) : Int), .int .u64 ((word (x.set.testBit) 1 : Nat) : Int), .int .u64 ((word (x.set.testBit) 2 : Nat) : Int), .int .u64 ((word (x.set.testBit) 3 : Nat) : Int), .slice B x.kids.len cap, .int .i64 x.lo, .int .i64 x.hi] 28)) (by omega) ((ht.below hb).weak (Q := fun b => b < (w.alloc (.cells #[.int .i64 x.kind, .int .u64 ((word (x.set.testBit) 0 : Nat) : Int), .int .u64 ((word (x.set.testBit) 1 : Nat) : Int), .int .u64 ((word (x.set.testBit) 2 : Nat) : Int), .int .u64 ((word (x.set.testBit) 3 : Nat) : Int), .slice B x.kids.len cap, .int .i64 x.lo, .int .i64 x.hi] 28)).heap.size) (fun b _ h => h))
  rw [hr] at hC
  have HC := Lib.hid hC
  have HV := Lib.hid (show okM x most = false by unfold okM; rw [hr]; rfl)
  clear hb ht hC hT hw0 hr hs
  unfold ndV at HC ⊢
  go_enter Tryz.func13, Tryz.ntmps13
  go_upto_region 1 with fail
  generalize w.alloc (.cells #[.int .i64 x.kind, .int .u64 ((word (x.set.testBit) 0 : Nat) : Int), .int .u64 ((word (x.set.testBit) 1 : Nat) : Int), .int .u64 ((word (x.set.testBit) 2 : Nat) : Int), .int .u64 ((word (x.set.testBit) 3 : Nat) : Int), .slice B x.kids.len cap, .int .i64 x.lo, .int .i64 x.hi] 28) = w2 at *
  obtain ⟨n0, n1, n2, n3, n4, n5, n6, n7⟩ := ((HN.out)).c8r
  have hln := (HN.out).lt

  go_wp2_with fail
  refine HC.out.mono ?_
  rintro e w3 ⟨rfl, hb3⟩
  generalize hsx : knownF x = s at *
  have hbx : Below w3.heap.size w3 (w3.alloc (.cells (sumA s) 85)) := (Below.refl _ _).alloc (Nat.le_refl _) _
  have HX := Lib.hid (Blk.new w3 85 (sumA s))
  have hN3 := HN.out.below hb3 HN.out.lt
  have HN4 := Lib.hid (hN3.below hbx hN3.lt)
  have HB4 := Lib.hid ((HB.out.trans (hb3.mono HB.out.size)).trans (hbx.mono (by have := HB.out.size; have := hb3.size; omega)))
  have HSX := Lib.hid hsx
  clear hb3 hbx hN3 HC HB HN hsx
  clear n0 n1 n2 n3 n4 n5 n6 n7 hln

  unfold sumV
  unfold sumA at *
  dsimp only
  go_upto_region 2 with fail
  generalize w3.alloc (.cells #[.bool s.hollow, .int .i64 s.short, .int .i64 s.long, .int .u64 ((word (s.first) 0 : Nat) : Int), .int .u64 ((word (s.first) 1 : Nat) : Int), .int .u64 ((word (s.first) 2 : Nat) : Int), .int .u64 ((word (s.first) 3 : Nat) : Int), .int .u64 ((word (s.last) 0 : Nat) : Int), .int .u64 ((word (s.last) 1 : Nat) : Int), .int .u64 ((word (s.last) 2 : Nat) : Int), .int .u64 ((word (s.last) 3 : Nat) : Int)] 85) = w4 at *
  go_wp2
  go_light
  go_ret2
  exact okM_no HV.out HB4.out
set_option maxHeartbeats 4000000 in
theorem fLeast_hollow (x : Nd) (most : Int) (B : Option Addr) (cap : Nat) (w : World) (hs : x.size ≤ 2000000) (hm : most ≤ 2000) (ht : TreesAt w (fun b => b < w.heap.size) x.kids B) (hT : TabAt 1 Lib.deBruijn64tab w) (hw0 : 1 < w.heap.size) (hr : rightT x = true) (hh : x.sum.hollow = true) : Calls Tryz.prog 13 #[ndV x B cap, .int .i64 most] w (LeastOut x most w) := by
  have hb : Below w.heap.size w (w.alloc (.cells #[.int .i64 x.kind, .int .u64 ((word (x.set.testBit) 0 : Nat) : Int), .int .u64 ((word (x.set.testBit) 1 : Nat) : Int), .int .u64 ((word (x.set.testBit) 2 : Nat) : Int), .int .u64 ((word (x.set.testBit) 3 : Nat) : Int), .slice B x.kids.len cap, .int .i64 x.lo, .int .i64 x.hi] 28)) := (Below.refl _ _).alloc (Nat.le_refl _) _
  have HB := Lib.hid hb
  have HN := Lib.hid (Blk.new w 28 #[.int .i64 x.kind, .int .u64 ((word (x.set.testBit) 0 : Nat) : Int), .int .u64 ((word (x.set.testBit) 1 : Nat) : Int), .int .u64 ((word (x.set.testBit) 2 : Nat) : Int), .int .u64 ((word (x.set.testBit) 3 : Nat) : Int), .slice B x.kids.len cap, .int .i64 x.lo, .int .i64 x.hi])
  have hC := known_go x B cap (w.alloc (.cells #[.int .i64 x.kind, .int .u64 ((word (x.set.testBit) 0 : Nat) : Int), .int .u64 ((word (x.set.testBit) 1 : Nat) : Int), .int .u64 ((word (x.set.testBit) 2 : Nat) : Int), .int .u64 ((word (x.set.testBit) 3 : Nat) : Int), .slice B x.kids.len cap, .int .i64 x.lo, .int .i64 x.hi] 28)) (by omega) ((ht.below hb).weak (Q := fun b => b < (w.alloc (.cells #[.int .i64 x.kind, .int .u64 ((word (x.set.testBit) 0 : Nat) : Int), .int .u64 ((word (x.set.testBit) 1 : Nat) : Int), .int .u64 ((word (x.set.testBit) 2 : Nat) : Int), .int .u64 ((word (x.set.testBit) 3 : Nat) : Int), .slice B x.kids.len cap, .int .i64 x.lo, .int .i64 x.hi] 28)).heap.size) (fun b _ h => h))
  rw [hr] at hC
  have HC := Lib.hid hC
  have HV := Lib.hid (show okM x most = false by unfold okM; rw [hr, hh]; rfl)
  have HS := Lib.hid (show (knownF x).hollow = true by unfold knownF; rw [if_pos hr]; exact hh)
  clear hb ht hC hT hw0 hr hh hs
  unfold ndV at HC ⊢
  go_enter Tryz.func13, Tryz.ntmps13
  go_upto_region 1 with fail
  generalize w.alloc (.cells #[.int .i64 x.kind, .int .u64 ((word (x.set.testBit) 0 : Nat) : Int), .int .u64 ((word (x.set.testBit) 1 : Nat) : Int), .int .u64 ((word (x.set.testBit) 2 : Nat) : Int), .int .u64 ((word (x.set.testBit) 3 : Nat) : Int), .slice B x.kids.len cap, .int .i64 x.lo, .int .i64 x.hi] 28) = w2 at *
  obtain ⟨n0, n1, n2, n3, n4, n5, n6, n7⟩ := ((HN.out)).c8r
  have hln := (HN.out).lt

  go_wp2_with fail
  refine HC.out.mono ?_
  rintro e w3 ⟨rfl, hb3⟩
  generalize hsx : knownF x = s at *
  have hbx : Below w3.heap.size w3 (w3.alloc (.cells (sumA s) 85)) := (Below.refl _ _).alloc (Nat.le_refl _) _
  have HX := Lib.hid (Blk.new w3 85 (sumA s))
  have hN3 := HN.out.below hb3 HN.out.lt
  have HN4 := Lib.hid (hN3.below hbx hN3.lt)
  have HB4 := Lib.hid ((HB.out.trans (hb3.mono HB.out.size)).trans (hbx.mono (by have := HB.out.size; have := hb3.size; omega)))
  have HSX := Lib.hid hsx
  clear hb3 hbx hN3 HC HB HN hsx
  clear n0 n1 n2 n3 n4 n5 n6 n7 hln

  unfold sumV
  unfold sumA at *
  dsimp only
  rw [HS.out] at *
  go_upto_region 2 with fail
  generalize w3.alloc (.cells #[.bool true, .int .i64 s.short, .int .i64 s.long, .int .u64 ((word (s.first) 0 : Nat) : Int), .int .u64 ((word (s.first) 1 : Nat) : Int), .int .u64 ((word (s.first) 2 : Nat) : Int), .int .u64 ((word (s.first) 3 : Nat) : Int), .int .u64 ((word (s.last) 0 : Nat) : Int), .int .u64 ((word (s.last) 1 : Nat) : Int), .int .u64 ((word (s.last) 2 : Nat) : Int), .int .u64 ((word (s.last) 3 : Nat) : Int)] 85) = w4 at *
  have x0 := HX.out.cell 0
  have hlx := HX.out.lt
  simp only [List.getElem?_toArray, List.getElem?_cons_zero, List.getElem?_cons_succ] at x0
  go_wp2
  go_light
  go_ret2
  exact okM_no HV.out HB4.out
set_option maxHeartbeats 4000000 in
theorem fLeast_long (x : Nd) (most : Int) (B : Option Addr) (cap : Nat) (w : World) (hs : x.size ≤ 2000000) (hm : most ≤ 2000) (ht : TreesAt w (fun b => b < w.heap.size) x.kids B) (hT : TabAt 1 Lib.deBruijn64tab w) (hw0 : 1 < w.heap.size) (hr : rightT x = true) (hh : x.sum.hollow = false) (hl : most < x.sum.short) : Calls Tryz.prog 13 #[ndV x B cap, .int .i64 most] w (LeastOut x most w) := by
  have hb : Below w.heap.size w (w.alloc (.cells #[.int .i64 x.kind, .int .u64 ((word (x.set.testBit) 0 : Nat) : Int), .int .u64 ((word (x.set.testBit) 1 : Nat) : Int), .int .u64 ((word (x.set.testBit) 2 : Nat) : Int), .int .u64 ((word (x.set.testBit) 3 : Nat) : Int), .slice B x.kids.len cap, .int .i64 x.lo, .int .i64 x.hi] 28)) := (Below.refl _ _).alloc (Nat.le_refl _) _
  have HB := Lib.hid hb
  have HN := Lib.hid (Blk.new w 28 #[.int .i64 x.kind, .int .u64 ((word (x.set.testBit) 0 : Nat) : Int), .int .u64 ((word (x.set.testBit) 1 : Nat) : Int), .int .u64 ((word (x.set.testBit) 2 : Nat) : Int), .int .u64 ((word (x.set.testBit) 3 : Nat) : Int), .slice B x.kids.len cap, .int .i64 x.lo, .int .i64 x.hi])
  have hC := known_go x B cap (w.alloc (.cells #[.int .i64 x.kind, .int .u64 ((word (x.set.testBit) 0 : Nat) : Int), .int .u64 ((word (x.set.testBit) 1 : Nat) : Int), .int .u64 ((word (x.set.testBit) 2 : Nat) : Int), .int .u64 ((word (x.set.testBit) 3 : Nat) : Int), .slice B x.kids.len cap, .int .i64 x.lo, .int .i64 x.hi] 28)) (by omega) ((ht.below hb).weak (Q := fun b => b < (w.alloc (.cells #[.int .i64 x.kind, .int .u64 ((word (x.set.testBit) 0 : Nat) : Int), .int .u64 ((word (x.set.testBit) 1 : Nat) : Int), .int .u64 ((word (x.set.testBit) 2 : Nat) : Int), .int .u64 ((word (x.set.testBit) 3 : Nat) : Int), .slice B x.kids.len cap, .int .i64 x.lo, .int .i64 x.hi] 28)).heap.size) (fun b _ h => h))
  rw [hr] at hC
  have HC := Lib.hid hC
  have HV := Lib.hid (show okM x most = false by unfold okM; rw [hr, hh, decide_eq_false (by omega)]; rfl)
  have HS := Lib.hid (show (knownF x).hollow = false ∧ most < (knownF x).short by unfold knownF; rw [if_pos hr]; exact ⟨hh, hl⟩)
  clear hb ht hC hT hw0 hr hh hl hs
  unfold ndV at HC ⊢
  go_enter Tryz.func13, Tryz.ntmps13
  go_upto_region 1 with fail
  generalize w.alloc (.cells #[.int .i64 x.kind, .int .u64 ((word (x.set.testBit) 0 : Nat) : Int), .int .u64 ((word (x.set.testBit) 1 : Nat) : Int), .int .u64 ((word (x.set.testBit) 2 : Nat) : Int), .int .u64 ((word (x.set.testBit) 3 : Nat) : Int), .slice B x.kids.len cap, .int .i64 x.lo, .int .i64 x.hi] 28) = w2 at *
  obtain ⟨n0, n1, n2, n3, n4, n5, n6, n7⟩ := ((HN.out)).c8r
  have hln := (HN.out).lt

  go_wp2_with fail
  refine HC.out.mono ?_
  rintro e w3 ⟨rfl, hb3⟩
  generalize hsx : knownF x = s at *
  have hbx : Below w3.heap.size w3 (w3.alloc (.cells (sumA s) 85)) := (Below.refl _ _).alloc (Nat.le_refl _) _
  have HX := Lib.hid (Blk.new w3 85 (sumA s))
  have hN3 := HN.out.below hb3 HN.out.lt
  have HN4 := Lib.hid (hN3.below hbx hN3.lt)
  have HB4 := Lib.hid ((HB.out.trans (hb3.mono HB.out.size)).trans (hbx.mono (by have := HB.out.size; have := hb3.size; omega)))
  have HSX := Lib.hid hsx
  clear hb3 hbx hN3 HC HB HN hsx
  clear n0 n1 n2 n3 n4 n5 n6 n7 hln

  unfold sumV
  unfold sumA at *
  dsimp only
  have hl := HS.out.2
  rw [HS.out.1] at *
  go_upto_region 2 with fail
  generalize w3.alloc (.cells #[.bool false, .int .i64 s.short, .int .i64 s.long, .int .u64 ((word (s.first) 0 : Nat) : Int), .int .u64 ((word (s.first) 1 : Nat) : Int), .int .u64 ((word (s.first) 2 : Nat) : Int), .int .u64 ((word (s.first) 3 : Nat) : Int), .int .u64 ((word (s.last) 0 : Nat) : Int), .int .u64 ((word (s.last) 1 : Nat) : Int), .int .u64 ((word (s.last) 2 : Nat) : Int), .int .u64 ((word (s.last) 3 : Nat) : Int)] 85) = w4 at *
  have x0 := HX.out.cell 0
  have x1 := HX.out.cell 1
  have hlx := HX.out.lt
  simp only [List.getElem?_toArray, List.getElem?_cons_zero, List.getElem?_cons_succ] at x0 x1
  go_wp2
  go_light
  go_ret2
  exact okM_no HV.out HB4.out
set_option maxHeartbeats 4000000 in
theorem fLeast_yes (x : Nd) (most : Int) (B : Option Addr) (cap : Nat) (w : World) (hs : x.size ≤ 2000000) (hm : most ≤ 2000) (ht : TreesAt w (fun b => b < w.heap.size) x.kids B) (hT : TabAt 1 Lib.deBruijn64tab w) (hw0 : 1 < w.heap.size) (hr : rightT x = true) (hh : x.sum.hollow = false) (hl : x.sum.short ≤ most) : Calls Tryz.prog 13 #[ndV x B cap, .int .i64 most] w (LeastOut x most w) := by
  have hb : Below w.heap.size w (w.alloc (.cells #[.int .i64 x.kind, .int .u64 ((word (x.set.testBit) 0 : Nat) : Int), .int .u64 ((word (x.set.testBit) 1 : Nat) : Int), .int .u64 ((word (x.set.testBit) 2 : Nat) : Int), .int .u64 ((word (x.set.testBit) 3 : Nat) : Int), .slice B x.kids.len cap, .int .i64 x.lo, .int .i64 x.hi] 28)) := (Below.refl _ _).alloc (Nat.le_refl _) _
  have HB := Lib.hid hb
  have HN := Lib.hid (Blk.new w 28 #[.int .i64 x.kind, .int .u64 ((word (x.set.testBit) 0 : Nat) : Int), .int .u64 ((word (x.set.testBit) 1 : Nat) : Int), .int .u64 ((word (x.set.testBit) 2 : Nat) : Int), .int .u64 ((word (x.set.testBit) 3 : Nat) : Int), .slice B x.kids.len cap, .int .i64 x.lo, .int .i64 x.hi])
  have hC := known_go x B cap (w.alloc (.cells #[.int .i64 x.kind, .int .u64 ((word (x.set.testBit) 0 : Nat) : Int), .int .u64 ((word (x.set.testBit) 1 : Nat) : Int), .int .u64 ((word (x.set.testBit) 2 : Nat) : Int), .int .u64 ((word (x.set.testBit) 3 : Nat) : Int), .slice B x.kids.len cap, .int .i64 x.lo, .int .i64 x.hi] 28)) (by omega) ((ht.below hb).weak (Q := fun b => b < (w.alloc (.cells #[.int .i64 x.kind, .int .u64 ((word (x.set.testBit) 0 : Nat) : Int), .int .u64 ((word (x.set.testBit) 1 : Nat) : Int), .int .u64 ((word (x.set.testBit) 2 : Nat) : Int), .int .u64 ((word (x.set.testBit) 3 : Nat) : Int), .slice B x.kids.len cap, .int .i64 x.lo, .int .i64 x.hi] 28)).heap.size) (fun b _ h => h))
  rw [hr] at hC
  have HC := Lib.hid hC
  have HV := Lib.hid (show okM x most = true by unfold okM; rw [hr, hh, decide_eq_true hl]; rfl)
  have HS := Lib.hid (show (knownF x).hollow = false ∧ ¬ most < (knownF x).short by unfold knownF; rw [if_pos hr]; exact ⟨hh, by omega⟩)
  have HL := Lib.hid (fun (W : World) (hW : Below w.heap.size w W) => flst_go x _ B cap W (by omega) (rightT_nodes hr) hh (by omega) (ht.below hW) (TabAt.below hW hw0 hT) (Nat.lt_of_lt_of_le hw0 hW.size))
  clear hb ht hC hT hw0 hr hh hl hs
  unfold ndV at HL
  unfold ndV at HC ⊢
  go_enter Tryz.func13, Tryz.ntmps13
  go_upto_region 1 with fail
  generalize w.alloc (.cells #[.int .i64 x.kind, .int .u64 ((word (x.set.testBit) 0 : Nat) : Int), .int .u64 ((word (x.set.testBit) 1 : Nat) : Int), .int .u64 ((word (x.set.testBit) 2 : Nat) : Int), .int .u64 ((word (x.set.testBit) 3 : Nat) : Int), .slice B x.kids.len cap, .int .i64 x.lo, .int .i64 x.hi] 28) = w2 at *
  obtain ⟨n0, n1, n2, n3, n4, n5, n6, n7⟩ := ((HN.out)).c8r
  have hln := (HN.out).lt

  go_wp2_with fail
  refine HC.out.mono ?_
  rintro e w3 ⟨rfl, hb3⟩
  generalize hsx : knownF x = s at *
  have hbx : Below w3.heap.size w3 (w3.alloc (.cells (sumA s) 85)) := (Below.refl _ _).alloc (Nat.le_refl _) _
  have HX := Lib.hid (Blk.new w3 85 (sumA s))
  have hN3 := HN.out.below hb3 HN.out.lt
  have HN4 := Lib.hid (hN3.below hbx hN3.lt)
  have HB4 := Lib.hid ((HB.out.trans (hb3.mono HB.out.size)).trans (hbx.mono (by have := HB.out.size; have := hb3.size; omega)))
  have HSX := Lib.hid hsx
  clear hb3 hbx hN3 HC HB HN hsx
  clear n0 n1 n2 n3 n4 n5 n6 n7 hln

  unfold sumV
  unfold sumA at *
  dsimp only
  have hl := HS.out.2
  rw [HS.out.1] at *
  go_upto_region 2 with fail
  generalize w3.alloc (.cells #[.bool false, .int .i64 s.short, .int .i64 s.long, .int .u64 ((word (s.first) 0 : Nat) : Int), .int .u64 ((word (s.first) 1 : Nat) : Int), .int .u64 ((word (s.first) 2 : Nat) : Int), .int .u64 ((word (s.first) 3 : Nat) : Int), .int .u64 ((word (s.last) 0 : Nat) : Int), .int .u64 ((word (s.last) 1 : Nat) : Int), .int .u64 ((word (s.last) 2 : Nat) : Int), .int .u64 ((word (s.last) 3 : Nat) : Int)] 85) = w4 at *
  have x0 := HX.out.cell 0
  have x1 := HX.out.cell 1
  have hlx := HX.out.lt
  simp only [List.getElem?_toArray, List.getElem?_cons_zero, List.getElem?_cons_succ] at x0 x1
  obtain ⟨n0, n1, n2, n3, n4, n5, n6, n7⟩ := ((HN4.out)).c8r
  have hln := (HN4.out).lt
  have HC := Lib.hid (HL.out w4 HB4.out)
  clear HL
  have HW := Lib.hid (show wordM x most = x.least by unfold wordM; rw [HV.out]; rfl)
  generalize x.least = bs at *
  go_wp2_with fail
  refine HC.out.mono ?_
  rintro e w5 ⟨A5, k5, rfl, hA5, hb5, _⟩
  have HB5 := Lib.hid (HB4.out.trans (hb5.mono HB4.out.size))
  have HA5 := Lib.hid hA5
  clear hb5 hA5 HC x0 x1 hlx
  clear n0 n1 n2 n3 n4 n5 n6 n7 hln
  dsimp only
  go_wp2
  go_light
  go_ret2
  exact ⟨A5, k5, by rw [HW.out, HV.out]; rfl, by rw [HW.out]; exact HA5.out, HB5.out⟩
theorem fLeast_go (x : Nd) (most : Int) (B : Option Addr) (cap : Nat) (w : World) (hs : x.size ≤ 2000000) (hm : most ≤ 2000) (ht : TreesAt w (fun b => b < w.heap.size) x.kids B) (hT : TabAt 1 Lib.deBruijn64tab w) (hw0 : 1 < w.heap.size) : Calls Tryz.prog 13 #[ndV x B cap, .int .i64 most] w (LeastOut x most w) := by
  cases hr : rightT x with
  | false => exact fLeast_no x most B cap w hs hm ht hT hw0 hr
  | true =>
    cases hh : x.sum.hollow with
    | true => exact fLeast_hollow x most B cap w hs hm ht hT hw0 hr hh
    | false =>
      rcases Int.lt_or_le most x.sum.short with h | h
      · exact fLeast_long x most B cap w hs hm ht hT hw0 hr hh h
      · exact fLeast_yes x most B cap w hs hm ht hT hw0 hr hh h
end Go.Proofs.YtfekpkelmliejaaGreatDoor
