/-
  facts.either, facts.behind and facts.repeated. facts.behind, either and repeated at any that is known. facts.fold: what is known of some trees, by a function of two. The text of a lexeme. No program in sight. The text of a lexeme: the contracts of lexeme.rep, lexeme.text and of the reference's text. The text of a lexeme: the contracts of lexeme.text at any lexeme that may be. The text of a lexeme: the contract of the reference's text at any lexeme that may be. The text of lexemes: the contract of lexeme.Join. The lexemes and the text of a tree, in plain words. No program in sight. What is written is read as it was. No program in sight. The contract of the splitter's sign. The contracts of the closures of the splitter's rep. What stands at a place, by its byte. No program in sight. Rows turned round in place: bytes. Rows of nodes turned round in place. A row of nodes cloned and turned round: mirror.turned at nodes. The contract of mirror.Tree. Words turned round: mirror.Word and the reference's Word. The contract of the reference's Same at two trees that are the same. Rows of lexemes appended to a row of one's own; the reference's lex and kid of chapter 08.
-/
import Derived.Lib.AppendStr
import Derived.Deep.QuietTactic
import Derived.BigQuiet
import Derived.Shelf.RegionOpenPlain
import Derived.BigRegion
import Derived.StillTailTactics
import Derived.Deep.Onto
import Derived.Test.YtfekpkelmliejaaGreatDoorQZ03
import Derived.Test.YtfekpkelmliejaaGreatDoorQRShow
import Derived.Test.YtfekpkelmliejaaGreatDoorQZ01
import Derived.Test.YtfekpkelmliejaaGreatDoorQShow
import Derived.Test.YtfekpkelmliejaaGreatDoorQZ02
import Derived.Test.YtfekpkelmliejaaGreatDoorQSame
import Derived.Test.YtfekpkelmliejaaGreatDoorQEscCl
namespace Go.Proofs.YtfekpkelmliejaaGreatDoor
open Go.RowKit
set_option linter.unusedSimpArgs false
set_option linter.unusedVariables false
set_option maxRecDepth 100000


theorem union2_at (p q : Nat → Bool) (w : World) (g : Nat) (hB : Blk w g 25 #[.int .u64 ((word (p) 0 : Nat) : Int), .int .u64 ((word (p) 1 : Nat) : Int), .int .u64 ((word (p) 2 : Nat) : Int), .int .u64 ((word (p) 3 : Nat) : Int), .int .u64 ((word (q) 0 : Nat) : Int), .int .u64 ((word (q) 1 : Nat) : Int), .int .u64 ((word (q) 2 : Nat) : Int), .int .u64 ((word (q) 3 : Nat) : Int)]) :
    Calls Tryz.prog 46 #[.slice (some ⟨g, 0, none⟩) 2 2] w fun e w' => e = .returned (.agg #[.int .u64 ((word (orB p q) 0 : Nat) : Int), .int .u64 ((word (orB p q) 1 : Nat) : Int), .int .u64 ((word (orB p q) 2 : Nat) : Int), .int .u64 ((word (orB p q) 3 : Nat) : Int)]) ∧ Below w.heap.size w w' := by
  have h := union_any (some ⟨g, 0, none⟩) [p, q] 2 w (fun _ => ⟨g, 0, rfl, hB.lt, fun i r hr => by
    match i, hr with
    | 0, hr => cases hr; exact ⟨hB.cell 0, hB.cell 1, hB.cell 2, hB.cell 3⟩
    | 1, hr => cases hr; exact ⟨hB.cell 4, hB.cell 5, hB.cell 6, hB.cell 7⟩
    | (n + 2), hr => simp at hr⟩) (by simp)
  have e : anyOf [p, q] [p, q].length = orB p q := anyOf_two p q
  rw [e] at h
  exact h
set_option maxHeartbeats 8000000 in
theorem either_words (x1 y1 x2 y2 : Int) (f1 l1 f2 l2 : Nat → Bool) (w : World) :
    Calls Tryz.prog 150 #[.agg #[.bool false, .int .i64 x1, .int .i64 y1, .int .u64 ((word (f1) 0 : Nat) : Int), .int .u64 ((word (f1) 1 : Nat) : Int), .int .u64 ((word (f1) 2 : Nat) : Int), .int .u64 ((word (f1) 3 : Nat) : Int), .int .u64 ((word (l1) 0 : Nat) : Int), .int .u64 ((word (l1) 1 : Nat) : Int), .int .u64 ((word (l1) 2 : Nat) : Int), .int .u64 ((word (l1) 3 : Nat) : Int)], .agg #[.bool false, .int .i64 x2, .int .i64 y2, .int .u64 ((word (f2) 0 : Nat) : Int), .int .u64 ((word (f2) 1 : Nat) : Int), .int .u64 ((word (f2) 2 : Nat) : Int), .int .u64 ((word (f2) 3 : Nat) : Int), .int .u64 ((word (l2) 0 : Nat) : Int), .int .u64 ((word (l2) 1 : Nat) : Int), .int .u64 ((word (l2) 2 : Nat) : Int), .int .u64 ((word (l2) 3 : Nat) : Int)]] w fun e w' => e = .returned (sumV (eitherF ⟨false, x1, y1, f1, l1⟩ ⟨false, x2, y2, f2, l2⟩)) ∧ Below w.heap.size w w' := by
  have hb : Below w.heap.size w (((w.alloc (.cells #[.bool false, .int .i64 x1, .int .i64 y1, .int .u64 ((word (f1) 0 : Nat) : Int), .int .u64 ((word (f1) 1 : Nat) : Int), .int .u64 ((word (f1) 2 : Nat) : Int), .int .u64 ((word (f1) 3 : Nat) : Int), .int .u64 ((word (l1) 0 : Nat) : Int), .int .u64 ((word (l1) 1 : Nat) : Int), .int .u64 ((word (l1) 2 : Nat) : Int), .int .u64 ((word (l1) 3 : Nat) : Int)] 85)).alloc (.cells #[.bool false, .int .i64 x2, .int .i64 y2, .int .u64 ((word (f2) 0 : Nat) : Int), .int .u64 ((word (f2) 1 : Nat) : Int), .int .u64 ((word (f2) 2 : Nat) : Int), .int .u64 ((word (f2) 3 : Nat) : Int), .int .u64 ((word (l2) 0 : Nat) : Int), .int .u64 ((word (l2) 1 : Nat) : Int), .int .u64 ((word (l2) 2 : Nat) : Int), .int .u64 ((word (l2) 3 : Nat) : Int)] 85)).alloc (.cells #[.bool false, .int .i64 0, .int .i64 0, .int .u64 0, .int .u64 0, .int .u64 0, .int .u64 0, .int .u64 0, .int .u64 0, .int .u64 0, .int .u64 0] 85)) := (((Below.refl _ _).alloc (Nat.le_refl _) _).alloc (by simp) _).alloc (by simp; omega) _
  have HB := Lib.hid hb
  have HXA := Lib.hid (((Blk.new w 85 #[.bool false, .int .i64 x1, .int .i64 y1, .int .u64 ((word (f1) 0 : Nat) : Int), .int .u64 ((word (f1) 1 : Nat) : Int), .int .u64 ((word (f1) 2 : Nat) : Int), .int .u64 ((word (f1) 3 : Nat) : Int), .int .u64 ((word (l1) 0 : Nat) : Int), .int .u64 ((word (l1) 1 : Nat) : Int), .int .u64 ((word (l1) 2 : Nat) : Int), .int .u64 ((word (l1) 3 : Nat) : Int)]).alloc (.cells #[.bool false, .int .i64 x2, .int .i64 y2, .int .u64 ((word (f2) 0 : Nat) : Int), .int .u64 ((word (f2) 1 : Nat) : Int), .int .u64 ((word (f2) 2 : Nat) : Int), .int .u64 ((word (f2) 3 : Nat) : Int), .int .u64 ((word (l2) 0 : Nat) : Int), .int .u64 ((word (l2) 1 : Nat) : Int), .int .u64 ((word (l2) 2 : Nat) : Int), .int .u64 ((word (l2) 3 : Nat) : Int)] 85)).alloc (.cells #[.bool false, .int .i64 0, .int .i64 0, .int .u64 0, .int .u64 0, .int .u64 0, .int .u64 0, .int .u64 0, .int .u64 0, .int .u64 0, .int .u64 0] 85))
  have HXB := Lib.hid ((show Blk ((w.alloc (.cells #[.bool false, .int .i64 x1, .int .i64 y1, .int .u64 ((word (f1) 0 : Nat) : Int), .int .u64 ((word (f1) 1 : Nat) : Int), .int .u64 ((word (f1) 2 : Nat) : Int), .int .u64 ((word (f1) 3 : Nat) : Int), .int .u64 ((word (l1) 0 : Nat) : Int), .int .u64 ((word (l1) 1 : Nat) : Int), .int .u64 ((word (l1) 2 : Nat) : Int), .int .u64 ((word (l1) 3 : Nat) : Int)] 85)).alloc (.cells #[.bool false, .int .i64 x2, .int .i64 y2, .int .u64 ((word (f2) 0 : Nat) : Int), .int .u64 ((word (f2) 1 : Nat) : Int), .int .u64 ((word (f2) 2 : Nat) : Int), .int .u64 ((word (f2) 3 : Nat) : Int), .int .u64 ((word (l2) 0 : Nat) : Int), .int .u64 ((word (l2) 1 : Nat) : Int), .int .u64 ((word (l2) 2 : Nat) : Int), .int .u64 ((word (l2) 3 : Nat) : Int)] 85)) (w.heap.size + 1) 85 #[.bool false, .int .i64 x2, .int .i64 y2, .int .u64 ((word (f2) 0 : Nat) : Int), .int .u64 ((word (f2) 1 : Nat) : Int), .int .u64 ((word (f2) 2 : Nat) : Int), .int .u64 ((word (f2) 3 : Nat) : Int), .int .u64 ((word (l2) 0 : Nat) : Int), .int .u64 ((word (l2) 1 : Nat) : Int), .int .u64 ((word (l2) 2 : Nat) : Int), .int .u64 ((word (l2) 3 : Nat) : Int)] from Blk.new_at (by simp)).alloc (.cells #[.bool false, .int .i64 0, .int .i64 0, .int .u64 0, .int .u64 0, .int .u64 0, .int .u64 0, .int .u64 0, .int .u64 0, .int .u64 0, .int .u64 0] 85))
  have HXR := Lib.hid (show Blk (((w.alloc (.cells #[.bool false, .int .i64 x1, .int .i64 y1, .int .u64 ((word (f1) 0 : Nat) : Int), .int .u64 ((word (f1) 1 : Nat) : Int), .int .u64 ((word (f1) 2 : Nat) : Int), .int .u64 ((word (f1) 3 : Nat) : Int), .int .u64 ((word (l1) 0 : Nat) : Int), .int .u64 ((word (l1) 1 : Nat) : Int), .int .u64 ((word (l1) 2 : Nat) : Int), .int .u64 ((word (l1) 3 : Nat) : Int)] 85)).alloc (.cells #[.bool false, .int .i64 x2, .int .i64 y2, .int .u64 ((word (f2) 0 : Nat) : Int), .int .u64 ((word (f2) 1 : Nat) : Int), .int .u64 ((word (f2) 2 : Nat) : Int), .int .u64 ((word (f2) 3 : Nat) : Int), .int .u64 ((word (l2) 0 : Nat) : Int), .int .u64 ((word (l2) 1 : Nat) : Int), .int .u64 ((word (l2) 2 : Nat) : Int), .int .u64 ((word (l2) 3 : Nat) : Int)] 85)).alloc (.cells #[.bool false, .int .i64 0, .int .i64 0, .int .u64 0, .int .u64 0, .int .u64 0, .int .u64 0, .int .u64 0, .int .u64 0, .int .u64 0, .int .u64 0] 85)) (w.heap.size + 1 + 1) 85 #[.bool false, .int .i64 0, .int .i64 0, .int .u64 0, .int .u64 0, .int .u64 0, .int .u64 0, .int .u64 0, .int .u64 0, .int .u64 0, .int .u64 0] from Blk.new_at (by simp))
  have HV := Lib.hid (either_full (a := ⟨false, x1, y1, f1, l1⟩) (b := ⟨false, x2, y2, f2, l2⟩) rfl rfl)
  clear hb
  go_enter Tryz.func150, Tryz.ntmps150
  go_upto_region 5 with fail
  generalize (((w.alloc (.cells #[.bool false, .int .i64 x1, .int .i64 y1, .int .u64 ((word (f1) 0 : Nat) : Int), .int .u64 ((word (f1) 1 : Nat) : Int), .int .u64 ((word (f1) 2 : Nat) : Int), .int .u64 ((word (f1) 3 : Nat) : Int), .int .u64 ((word (l1) 0 : Nat) : Int), .int .u64 ((word (l1) 1 : Nat) : Int), .int .u64 ((word (l1) 2 : Nat) : Int), .int .u64 ((word (l1) 3 : Nat) : Int)] 85)).alloc (.cells #[.bool false, .int .i64 x2, .int .i64 y2, .int .u64 ((word (f2) 0 : Nat) : Int), .int .u64 ((word (f2) 1 : Nat) : Int), .int .u64 ((word (f2) 2 : Nat) : Int), .int .u64 ((word (f2) 3 : Nat) : Int), .int .u64 ((word (l2) 0 : Nat) : Int), .int .u64 ((word (l2) 1 : Nat) : Int), .int .u64 ((word (l2) 2 : Nat) : Int), .int .u64 ((word (l2) 3 : Nat) : Int)] 85)).alloc (.cells #[.bool false, .int .i64 0, .int .i64 0, .int .u64 0, .int .u64 0, .int .u64 0, .int .u64 0, .int .u64 0, .int .u64 0, .int .u64 0, .int .u64 0] 85)) = w2 at *
  have a1 := HXA.out.cell 1
  have a2 := HXA.out.cell 2
  have a3 := HXA.out.cell 3
  have a4 := HXA.out.cell 4
  have a5 := HXA.out.cell 5
  have a6 := HXA.out.cell 6
  have a7 := HXA.out.cell 7
  have a8 := HXA.out.cell 8
  have a9 := HXA.out.cell 9
  have a10 := HXA.out.cell 10
  have b1 := HXB.out.cell 1
  have b2 := HXB.out.cell 2
  have b3 := HXB.out.cell 3
  have b4 := HXB.out.cell 4
  have b5 := HXB.out.cell 5
  have b6 := HXB.out.cell 6
  have b7 := HXB.out.cell 7
  have b8 := HXB.out.cell 8
  have b9 := HXB.out.cell 9
  have b10 := HXB.out.cell 10
  have hla := HXA.out.lt
  have hlb := HXB.out.lt
  simp only [List.getElem?_toArray, List.getElem?_cons_zero, List.getElem?_cons_succ] at a1 b1 a2 b2 a3 b3 a4 b4 a5 b5 a6 b6 a7 b7 a8 b8 a9 b9 a10 b10
  have hKl := two_of (Q := fun b => b < w2.heap.size) hla hlb
  have HB0 := Lib.hid ((Below.refl w2.heap.size w2).drew)
  have hk0 : KeepP (fun b' => b' = w.heap.size ∨ b' = w.heap.size + 1) w2 w2.drew := KeepP.start (fun b' => b' = w.heap.size ∨ b' = w.heap.size + 1) w2
  have hKs0 := fun b (hb : (fun b' => b' = w.heap.size ∨ b' = w.heap.size + 1) b) => hKl b hb
  refine wp_region_held_drew (S := fun w' => ∀ b' o', b' = w.heap.size ∨ b' = w.heap.size + 1 → w'.cell? ⟨b', o', none⟩ = w2.cell? ⟨b', o', none⟩) (by kernel_rfl) (KeepP.start (fun b' => b' = w.heap.size ∨ b' = w.heap.size + 1) w2) (fun hHeld => ?_)
  refine wpAnyH_take (i := 0) (oi := _) (v := ?_) rfl (by kernel_rfl) (by kernel_rfl) (by kernel_rfl) (fun _ _ _ h => h) (Or.inl ⟨by kernel_rfl, ?_⟩) (by assumption) ?_
  rotate_left
  · intro w hSw
    try dsimp only at hSw
    go_simp
    try (with_reducible rfl)
  try simp only [Act.put, List.getElem_toArray, List.getElem_cons_zero, List.getElem_cons_succ, List.setIfInBounds_toArray, List.set_cons_zero, List.set_cons_succ]
  refine wpAnyH_take (i := 1) (oi := _) (v := ?_) rfl (by kernel_rfl) (by kernel_rfl) (by kernel_rfl) (fun _ _ _ h => h) (Or.inl ⟨by kernel_rfl, ?_⟩) (by assumption) ?_
  rotate_left
  · intro w hSw
    try dsimp only at hSw
    go_simp
    try (with_reducible rfl)
  try simp only [Act.put, List.getElem_toArray, List.getElem_cons_zero, List.getElem_cons_succ, List.setIfInBounds_toArray, List.set_cons_zero, List.set_cons_succ]
  refine wpAnyH_take (i := 2) (oi := _) (v := ?_) rfl (by kernel_rfl) (by kernel_rfl) (by kernel_rfl) (fun _ _ _ h => h) (Or.inl ⟨by kernel_rfl, ?_⟩) (by assumption) ?_
  rotate_left
  · intro w hSw
    try dsimp only at hSw
    go_simp
    try (with_reducible rfl)
  try simp only [Act.put, List.getElem_toArray, List.getElem_cons_zero, List.getElem_cons_succ, List.setIfInBounds_toArray, List.set_cons_zero, List.set_cons_succ]
  refine wpAnyH_take (i := 3) (oi := _) (v := ?_) rfl (by kernel_rfl) (by kernel_rfl) (by kernel_rfl) (fun _ _ _ h => h) (Or.inl ⟨by kernel_rfl, ?_⟩) (by assumption) ?_
  rotate_left
  · intro w hSw
    try dsimp only at hSw
    go_simp
    try (with_reducible rfl)
  try simp only [Act.put, List.getElem_toArray, List.getElem_cons_zero, List.getElem_cons_succ, List.setIfInBounds_toArray, List.set_cons_zero, List.set_cons_succ]
  refine wpAnyH_take (i := 4) (oi := _) (v := ?_) rfl (by kernel_rfl) (by kernel_rfl) (by kernel_rfl) (fun _ _ _ h => h) (Or.inl ⟨by kernel_rfl, ?_⟩) (by assumption) ?_
  rotate_left
  · intro w hSw
    try dsimp only at hSw
    go_simp
    try (with_reducible rfl)
  try simp only [Act.put, List.getElem_toArray, List.getElem_cons_zero, List.getElem_cons_succ, List.setIfInBounds_toArray, List.set_cons_zero, List.set_cons_succ]
  refine wpAnyH_take (i := 5) (oi := _) (v := ?_) rfl (by kernel_rfl) (by kernel_rfl) (by kernel_rfl) (fun _ _ _ h => h) (Or.inl ⟨by kernel_rfl, ?_⟩) (by assumption) ?_
  rotate_left
  · intro w hSw
    try dsimp only at hSw
    go_simp
    try (with_reducible rfl)
  try simp only [Act.put, List.getElem_toArray, List.getElem_cons_zero, List.getElem_cons_succ, List.setIfInBounds_toArray, List.set_cons_zero, List.set_cons_succ]
  refine wpAnyH_take (i := 6) (oi := _) (v := ?_) rfl (by kernel_rfl) (by kernel_rfl) (by kernel_rfl) (fun _ _ _ h => h) (Or.inl ⟨by kernel_rfl, ?_⟩) (by assumption) ?_
  rotate_left
  · intro w hSw
    try dsimp only at hSw
    go_simp
    try (with_reducible rfl)
  try simp only [Act.put, List.getElem_toArray, List.getElem_cons_zero, List.getElem_cons_succ, List.setIfInBounds_toArray, List.set_cons_zero, List.set_cons_succ]
  refine wpAnyH_take (i := 7) (oi := _) (v := ?_) rfl (by kernel_rfl) (by kernel_rfl) (by kernel_rfl) (fun _ _ _ h => h) (Or.inl ⟨by kernel_rfl, ?_⟩) (by assumption) ?_
  rotate_left
  · intro w hSw
    try dsimp only at hSw
    go_simp
    try (with_reducible rfl)
  try simp only [Act.put, List.getElem_toArray, List.getElem_cons_zero, List.getElem_cons_succ, List.setIfInBounds_toArray, List.set_cons_zero, List.set_cons_succ]
  refine wpAnyH_take (i := 8) (oi := _) (v := ?_) rfl (by kernel_rfl) (by kernel_rfl) (by kernel_rfl) (fun _ _ _ h => h) (Or.inl ⟨by kernel_rfl, ?_⟩) (by assumption) ?_
  rotate_left
  · intro w hSw
    try dsimp only at hSw
    go_simp
    try (with_reducible rfl)
  try simp only [Act.put, List.getElem_toArray, List.getElem_cons_zero, List.getElem_cons_succ, List.setIfInBounds_toArray, List.set_cons_zero, List.set_cons_succ]
  refine wpAnyH_take (i := 9) (oi := _) (v := ?_) rfl (by kernel_rfl) (by kernel_rfl) (by kernel_rfl) (fun _ _ _ h => h) (Or.inl ⟨by kernel_rfl, ?_⟩) (by assumption) ?_
  rotate_left
  · intro w hSw
    try dsimp only at hSw
    go_simp
    try (with_reducible rfl)
  try simp only [Act.put, List.getElem_toArray, List.getElem_cons_zero, List.getElem_cons_succ, List.setIfInBounds_toArray, List.set_cons_zero, List.set_cons_succ]
  refine wpAnyH_take (i := 10) (oi := _) (v := ?_) rfl (by kernel_rfl) (by kernel_rfl) (by kernel_rfl) (fun _ _ _ h => h) (Or.inl ⟨by kernel_rfl, ?_⟩) (by assumption) ?_
  rotate_left
  · intro w hSw
    try dsimp only at hSw
    go_simp
    try (with_reducible rfl)
  try simp only [Act.put, List.getElem_toArray, List.getElem_cons_zero, List.getElem_cons_succ, List.setIfInBounds_toArray, List.set_cons_zero, List.set_cons_succ]
  refine wpAnyH_take (i := 11) (oi := _) (v := ?_) rfl (by kernel_rfl) (by kernel_rfl) (by kernel_rfl) (fun _ _ _ h => h) (Or.inl ⟨by kernel_rfl, ?_⟩) (by assumption) ?_
  rotate_left
  · intro w hSw
    try dsimp only at hSw
    go_simp
    try (with_reducible rfl)
  try simp only [Act.put, List.getElem_toArray, List.getElem_cons_zero, List.getElem_cons_succ, List.setIfInBounds_toArray, List.set_cons_zero, List.set_cons_succ]
  refine wpAnyH_take (i := 12) (oi := _) (v := ?_) rfl (by kernel_rfl) (by kernel_rfl) (by kernel_rfl) (fun _ _ _ h => h) (Or.inl ⟨by kernel_rfl, ?_⟩) (by assumption) ?_
  rotate_left
  · intro w hSw
    try dsimp only at hSw
    go_simp
    try (with_reducible rfl)
  try simp only [Act.put, List.getElem_toArray, List.getElem_cons_zero, List.getElem_cons_succ, List.setIfInBounds_toArray, List.set_cons_zero, List.set_cons_succ]
  refine wpAnyH_take (i := 13) (oi := _) (v := ?_) rfl (by kernel_rfl) (by kernel_rfl) (by kernel_rfl) (fun _ _ _ h => h) (Or.inl ⟨by kernel_rfl, ?_⟩) (by assumption) ?_
  rotate_left
  · intro w hSw
    try dsimp only at hSw
    go_simp
    try (with_reducible rfl)
  try simp only [Act.put, List.getElem_toArray, List.getElem_cons_zero, List.getElem_cons_succ, List.setIfInBounds_toArray, List.set_cons_zero, List.set_cons_succ]
  refine wpAnyH_take (i := 16) (oi := _) (v := ?_) rfl (by kernel_rfl) (by kernel_rfl) (by kernel_rfl) (fun _ _ _ h => h) (Or.inl ⟨by kernel_rfl, ?_⟩) (by assumption) ?_
  rotate_left
  · intro w hSw
    try dsimp only at hSw
    go_simp
    try (with_reducible rfl)
  try simp only [Act.put, List.getElem_toArray, List.getElem_cons_zero, List.getElem_cons_succ, List.setIfInBounds_toArray, List.set_cons_zero, List.set_cons_succ]
  refine wpAnyH_take (i := 17) (oi := _) (v := ?_) rfl (by kernel_rfl) (by kernel_rfl) (by kernel_rfl) (fun _ _ _ h => h) (Or.inl ⟨by kernel_rfl, ?_⟩) (by assumption) ?_
  rotate_left
  · intro w hSw
    try dsimp only at hSw
    go_simp
    try (with_reducible rfl)
  try simp only [Act.put, List.getElem_toArray, List.getElem_cons_zero, List.getElem_cons_succ, List.setIfInBounds_toArray, List.set_cons_zero, List.set_cons_succ]
  refine wpAnyH_take (i := 18) (oi := _) (v := ?_) rfl (by kernel_rfl) (by kernel_rfl) (by kernel_rfl) (fun _ _ _ h => h) (Or.inl ⟨by kernel_rfl, ?_⟩) (by assumption) ?_
  rotate_left
  · intro w hSw
    try dsimp only at hSw
    go_simp
    try (with_reducible rfl)
  try simp only [Act.put, List.getElem_toArray, List.getElem_cons_zero, List.getElem_cons_succ, List.setIfInBounds_toArray, List.set_cons_zero, List.set_cons_succ]
  refine wpAnyH_take (i := 19) (oi := _) (v := ?_) rfl (by kernel_rfl) (by kernel_rfl) (by kernel_rfl) (fun _ _ _ h => h) (Or.inl ⟨by kernel_rfl, ?_⟩) (by assumption) ?_
  rotate_left
  · intro w hSw
    try dsimp only at hSw
    go_simp
    try (with_reducible rfl)
  try simp only [Act.put, List.getElem_toArray, List.getElem_cons_zero, List.getElem_cons_succ, List.setIfInBounds_toArray, List.set_cons_zero, List.set_cons_succ]
  clear a1 b1 a2 b2 a3 b3 a4 b4 a5 b5 a6 b6 a7 b7 a8 b8 a9 b9 a10 b10
  generalize hmn : (if x2 < x1 then x2 else x1) = mn at *
  generalize hmx : (if y1 < y2 then y2 else y1) = mx at *
  have HMN := Lib.hid (show min x1 x2 = mn by rw [← hmn]; split <;> omega)
  have HMX := Lib.hid (show max y1 y2 = mx by rw [← hmx]; split <;> omega)
  clear hmn hmx
  refine wpAnyH_ready (rs := [14, 20]) (by kernel_rfl) (by simp) ?_
  refine AllReadyH.cons (o := _) rfl (fun K hK => ?_) (AllReadyH.cons (o := _) rfl (fun K hK => ?_) AllReadyH.nil)
  · skip
    go_simp
    have HB1 := Lib.hid (HB0.out.alloc HB0.out.size (.cells #[.int .u64 ((word (f1) 0 : Nat) : Int), .int .u64 ((word (f1) 1 : Nat) : Int), .int .u64 ((word (f1) 2 : Nat) : Int), .int .u64 ((word (f1) 3 : Nat) : Int), .int .u64 ((word (f2) 0 : Nat) : Int), .int .u64 ((word (f2) 1 : Nat) : Int), .int .u64 ((word (f2) 2 : Nat) : Int), .int .u64 ((word (f2) 3 : Nat) : Int)] 25))
    have hKs1 := fun b (hb : (fun b' => b' = w.heap.size ∨ b' = w.heap.size + 1) b) => Nat.lt_of_lt_of_le (hKl b hb) HB1.out.size
    have hk1 := KeepP.alloc hk0 hKs0 (.cells #[.int .u64 ((word (f1) 0 : Nat) : Int), .int .u64 ((word (f1) 1 : Nat) : Int), .int .u64 ((word (f1) 2 : Nat) : Int), .int .u64 ((word (f1) 3 : Nat) : Int), .int .u64 ((word (f2) 0 : Nat) : Int), .int .u64 ((word (f2) 1 : Nat) : Int), .int .u64 ((word (f2) 2 : Nat) : Int), .int .u64 ((word (f2) 3 : Nat) : Int)] 25)
    have HS14_1 := Lib.hid (show Blk ((w2.drew).alloc (.cells #[.int .u64 ((word (f1) 0 : Nat) : Int), .int .u64 ((word (f1) 1 : Nat) : Int), .int .u64 ((word (f1) 2 : Nat) : Int), .int .u64 ((word (f1) 3 : Nat) : Int), .int .u64 ((word (f2) 0 : Nat) : Int), .int .u64 ((word (f2) 1 : Nat) : Int), .int .u64 ((word (f2) 2 : Nat) : Int), .int .u64 ((word (f2) 3 : Nat) : Int)] 25)) w2.heap.size 25 #[.int .u64 ((word (f1) 0 : Nat) : Int), .int .u64 ((word (f1) 1 : Nat) : Int), .int .u64 ((word (f1) 2 : Nat) : Int), .int .u64 ((word (f1) 3 : Nat) : Int), .int .u64 ((word (f2) 0 : Nat) : Int), .int .u64 ((word (f2) 1 : Nat) : Int), .int .u64 ((word (f2) 2 : Nat) : Int), .int .u64 ((word (f2) 3 : Nat) : Int)] from Blk.new_at (by simp))
    refine hK.out _ _ hk1 (fun _ => ?_)
    clear hK K
    try simp only [Act.put, List.getElem_toArray, List.getElem_cons_zero, List.getElem_cons_succ, List.setIfInBounds_toArray, List.set_cons_zero, List.set_cons_succ]
    refine wpAnyH_ready (rs := [15, 20]) (by kernel_rfl) (by simp) ?_
    refine AllReadyH.cons (o := _) rfl (fun K hK => ?_) (AllReadyH.cons (o := _) rfl (fun K hK => ?_) AllReadyH.nil)
    · skip
      go_simp
      go_at_call 46
      refine (union2_at f1 f2 _ _ HS14_1.out).mono ?_
      rintro e v2 ⟨rfl, hbc⟩
      have HB2 := Lib.hid (HB1.out.trans (hbc.mono HB1.out.size))
      have hKs2 := fun b (hb : (fun b' => b' = w.heap.size ∨ b' = w.heap.size + 1) b) => Nat.lt_of_lt_of_le (hKl b hb) HB2.out.size
      have hk2 := KeepP.below hk1 hbc hKs1
      have HS14_2 := Lib.hid (HS14_1.out.below hbc HS14_1.out.lt)
      clear hbc
      refine hK.out _ _ hk2 (fun _ => ?_)
      clear hK K
      try simp only [Act.put, List.getElem_toArray, List.getElem_cons_zero, List.getElem_cons_succ, List.setIfInBounds_toArray, List.set_cons_zero, List.set_cons_succ]
      refine wpAnyH_ready (rs := [20]) (by kernel_rfl) (by simp) ?_
      refine AllReadyH.cons (o := _) rfl (fun K hK => ?_) AllReadyH.nil
      go_simp
      have HB3 := Lib.hid (HB2.out.alloc HB2.out.size (.cells #[.int .u64 ((word (l1) 0 : Nat) : Int), .int .u64 ((word (l1) 1 : Nat) : Int), .int .u64 ((word (l1) 2 : Nat) : Int), .int .u64 ((word (l1) 3 : Nat) : Int), .int .u64 ((word (l2) 0 : Nat) : Int), .int .u64 ((word (l2) 1 : Nat) : Int), .int .u64 ((word (l2) 2 : Nat) : Int), .int .u64 ((word (l2) 3 : Nat) : Int)] 25))
      have hKs3 := fun b (hb : (fun b' => b' = w.heap.size ∨ b' = w.heap.size + 1) b) => Nat.lt_of_lt_of_le (hKl b hb) HB3.out.size
      have hk3 := KeepP.alloc hk2 hKs2 (.cells #[.int .u64 ((word (l1) 0 : Nat) : Int), .int .u64 ((word (l1) 1 : Nat) : Int), .int .u64 ((word (l1) 2 : Nat) : Int), .int .u64 ((word (l1) 3 : Nat) : Int), .int .u64 ((word (l2) 0 : Nat) : Int), .int .u64 ((word (l2) 1 : Nat) : Int), .int .u64 ((word (l2) 2 : Nat) : Int), .int .u64 ((word (l2) 3 : Nat) : Int)] 25)
      have HS14_3 := Lib.hid (HS14_2.out.alloc (.cells #[.int .u64 ((word (l1) 0 : Nat) : Int), .int .u64 ((word (l1) 1 : Nat) : Int), .int .u64 ((word (l1) 2 : Nat) : Int), .int .u64 ((word (l1) 3 : Nat) : Int), .int .u64 ((word (l2) 0 : Nat) : Int), .int .u64 ((word (l2) 1 : Nat) : Int), .int .u64 ((word (l2) 2 : Nat) : Int), .int .u64 ((word (l2) 3 : Nat) : Int)] 25))
      have HS20_3 := Lib.hid (show Blk ((v2).alloc (.cells #[.int .u64 ((word (l1) 0 : Nat) : Int), .int .u64 ((word (l1) 1 : Nat) : Int), .int .u64 ((word (l1) 2 : Nat) : Int), .int .u64 ((word (l1) 3 : Nat) : Int), .int .u64 ((word (l2) 0 : Nat) : Int), .int .u64 ((word (l2) 1 : Nat) : Int), .int .u64 ((word (l2) 2 : Nat) : Int), .int .u64 ((word (l2) 3 : Nat) : Int)] 25)) v2.heap.size 25 #[.int .u64 ((word (l1) 0 : Nat) : Int), .int .u64 ((word (l1) 1 : Nat) : Int), .int .u64 ((word (l1) 2 : Nat) : Int), .int .u64 ((word (l1) 3 : Nat) : Int), .int .u64 ((word (l2) 0 : Nat) : Int), .int .u64 ((word (l2) 1 : Nat) : Int), .int .u64 ((word (l2) 2 : Nat) : Int), .int .u64 ((word (l2) 3 : Nat) : Int)] from Blk.new_at (by simp))
      refine hK.out _ _ hk3 (fun _ => ?_)
      clear hK K
      try simp only [Act.put, List.getElem_toArray, List.getElem_cons_zero, List.getElem_cons_succ, List.setIfInBounds_toArray, List.set_cons_zero, List.set_cons_succ]
      refine wpAnyH_ready (rs := [21]) (by kernel_rfl) (by simp) ?_
      refine AllReadyH.cons (o := _) rfl (fun K hK => ?_) AllReadyH.nil
      go_simp
      go_at_call 46
      refine (union2_at l1 l2 _ _ HS20_3.out).mono ?_
      rintro e v4 ⟨rfl, hbc⟩
      have HB4 := Lib.hid (HB3.out.trans (hbc.mono HB3.out.size))
      have hKs4 := fun b (hb : (fun b' => b' = w.heap.size ∨ b' = w.heap.size + 1) b) => Nat.lt_of_lt_of_le (hKl b hb) HB4.out.size
      have hk4 := KeepP.below hk3 hbc hKs3
      have HS14_4 := Lib.hid (HS14_3.out.below hbc HS14_3.out.lt)
      have HS20_4 := Lib.hid (HS20_3.out.below hbc HS20_3.out.lt)
      clear hbc
      refine hK.out _ _ hk4 (fun _ => ?_)
      clear hK K
      try simp only [Act.put, List.getElem_toArray, List.getElem_cons_zero, List.getElem_cons_succ, List.setIfInBounds_toArray, List.set_cons_zero, List.set_cons_succ]
      refine wpAnyH_take (i := 22) (oi := _) (v := ?_) rfl (by kernel_rfl) (by kernel_rfl) (by kernel_rfl) (fun _ _ _ h => h) (Or.inl ⟨by kernel_rfl, ?_⟩) (by assumption) ?_
      rotate_left
      · intro w hSw
        try dsimp only at hSw
        go_simp
        try (with_reducible rfl)
      try simp only [Act.put, List.getElem_toArray, List.getElem_cons_zero, List.getElem_cons_succ, List.setIfInBounds_toArray, List.set_cons_zero, List.set_cons_succ]
      have HR2 := Lib.hid (HXR.out.below HB4.out HXR.out.lt)
      have e0 := HR2.out.cell 0
      have e1 := HR2.out.cell 1
      have e2 := HR2.out.cell 2
      have e3 := HR2.out.cell 3
      have e4 := HR2.out.cell 4
      have e5 := HR2.out.cell 5
      have e6 := HR2.out.cell 6
      have e7 := HR2.out.cell 7
      have e8 := HR2.out.cell 8
      have e9 := HR2.out.cell 9
      have e10 := HR2.out.cell 10
      have q0 := HR2.out.frozen 0
      have q1 := HR2.out.frozen 1
      have q2 := HR2.out.frozen 2
      have q3 := HR2.out.frozen 3
      have q4 := HR2.out.frozen 4
      have q5 := HR2.out.frozen 5
      have q6 := HR2.out.frozen 6
      have q7 := HR2.out.frozen 7
      have q8 := HR2.out.frozen 8
      have q9 := HR2.out.frozen 9
      have q10 := HR2.out.frozen 10
      have hlr := HR2.out.lt
      simp only [List.getElem?_toArray, List.getElem?_cons_zero, List.getElem?_cons_succ] at e0 e1 e2 e3 e4 e5 e6 e7 e8 e9 e10
      refine wpAnyH_ready (rs := [23]) (by kernel_rfl) (by simp) ?_
      refine AllReadyH.cons (o := _) rfl (fun K hK => ?_) AllReadyH.nil
      go_simp
      refine hK.out _ _ (KeepP.set11 hk4 (fun b hb e => by rcases hb with h | h <;> omega)) (fun _ => ?_)
      clear hK K
      try simp only [Act.put, List.getElem_toArray, List.getElem_cons_zero, List.getElem_cons_succ, List.setIfInBounds_toArray, List.set_cons_zero, List.set_cons_succ]
      refine wpAnyH_done (by kernel_rfl) ?_ _
      go_wp2
      refine bodyPost_ret (ret_sum Tryz.results150 rfl (Blk.store11 HR2.out)) rfl ⟨by rw [HV.out, HMN.out, HMX.out]; rfl, below_set11 (HB.out.trans (HB4.out.mono HB.out.size)) (by omega)⟩
    · skip
      go_simp
      have HB2 := Lib.hid (HB1.out.alloc HB1.out.size (.cells #[.int .u64 ((word (l1) 0 : Nat) : Int), .int .u64 ((word (l1) 1 : Nat) : Int), .int .u64 ((word (l1) 2 : Nat) : Int), .int .u64 ((word (l1) 3 : Nat) : Int), .int .u64 ((word (l2) 0 : Nat) : Int), .int .u64 ((word (l2) 1 : Nat) : Int), .int .u64 ((word (l2) 2 : Nat) : Int), .int .u64 ((word (l2) 3 : Nat) : Int)] 25))
      have hKs2 := fun b (hb : (fun b' => b' = w.heap.size ∨ b' = w.heap.size + 1) b) => Nat.lt_of_lt_of_le (hKl b hb) HB2.out.size
      have hk2 := KeepP.alloc hk1 hKs1 (.cells #[.int .u64 ((word (l1) 0 : Nat) : Int), .int .u64 ((word (l1) 1 : Nat) : Int), .int .u64 ((word (l1) 2 : Nat) : Int), .int .u64 ((word (l1) 3 : Nat) : Int), .int .u64 ((word (l2) 0 : Nat) : Int), .int .u64 ((word (l2) 1 : Nat) : Int), .int .u64 ((word (l2) 2 : Nat) : Int), .int .u64 ((word (l2) 3 : Nat) : Int)] 25)
      have HS14_2 := Lib.hid (HS14_1.out.alloc (.cells #[.int .u64 ((word (l1) 0 : Nat) : Int), .int .u64 ((word (l1) 1 : Nat) : Int), .int .u64 ((word (l1) 2 : Nat) : Int), .int .u64 ((word (l1) 3 : Nat) : Int), .int .u64 ((word (l2) 0 : Nat) : Int), .int .u64 ((word (l2) 1 : Nat) : Int), .int .u64 ((word (l2) 2 : Nat) : Int), .int .u64 ((word (l2) 3 : Nat) : Int)] 25))
      have HS20_2 := Lib.hid (show Blk (((w2.drew).alloc (.cells #[.int .u64 ((word (f1) 0 : Nat) : Int), .int .u64 ((word (f1) 1 : Nat) : Int), .int .u64 ((word (f1) 2 : Nat) : Int), .int .u64 ((word (f1) 3 : Nat) : Int), .int .u64 ((word (f2) 0 : Nat) : Int), .int .u64 ((word (f2) 1 : Nat) : Int), .int .u64 ((word (f2) 2 : Nat) : Int), .int .u64 ((word (f2) 3 : Nat) : Int)] 25)).alloc (.cells #[.int .u64 ((word (l1) 0 : Nat) : Int), .int .u64 ((word (l1) 1 : Nat) : Int), .int .u64 ((word (l1) 2 : Nat) : Int), .int .u64 ((word (l1) 3 : Nat) : Int), .int .u64 ((word (l2) 0 : Nat) : Int), .int .u64 ((word (l2) 1 : Nat) : Int), .int .u64 ((word (l2) 2 : Nat) : Int), .int .u64 ((word (l2) 3 : Nat) : Int)] 25)) (w2.heap.size + 1) 25 #[.int .u64 ((word (l1) 0 : Nat) : Int), .int .u64 ((word (l1) 1 : Nat) : Int), .int .u64 ((word (l1) 2 : Nat) : Int), .int .u64 ((word (l1) 3 : Nat) : Int), .int .u64 ((word (l2) 0 : Nat) : Int), .int .u64 ((word (l2) 1 : Nat) : Int), .int .u64 ((word (l2) 2 : Nat) : Int), .int .u64 ((word (l2) 3 : Nat) : Int)] from Blk.new_at (by simp))
      refine hK.out _ _ hk2 (fun _ => ?_)
      clear hK K
      try simp only [Act.put, List.getElem_toArray, List.getElem_cons_zero, List.getElem_cons_succ, List.setIfInBounds_toArray, List.set_cons_zero, List.set_cons_succ]
      refine wpAnyH_ready (rs := [15]) (by kernel_rfl) (by simp) ?_
      refine AllReadyH.cons (o := _) rfl (fun K hK => ?_) AllReadyH.nil
      go_simp
      go_at_call 46
      refine (union2_at f1 f2 _ _ HS14_2.out).mono ?_
      rintro e v3 ⟨rfl, hbc⟩
      have HB3 := Lib.hid (HB2.out.trans (hbc.mono HB2.out.size))
      have hKs3 := fun b (hb : (fun b' => b' = w.heap.size ∨ b' = w.heap.size + 1) b) => Nat.lt_of_lt_of_le (hKl b hb) HB3.out.size
      have hk3 := KeepP.below hk2 hbc hKs2
      have HS14_3 := Lib.hid (HS14_2.out.below hbc HS14_2.out.lt)
      have HS20_3 := Lib.hid (HS20_2.out.below hbc HS20_2.out.lt)
      clear hbc
      refine hK.out _ _ hk3 (fun _ => ?_)
      clear hK K
      try simp only [Act.put, List.getElem_toArray, List.getElem_cons_zero, List.getElem_cons_succ, List.setIfInBounds_toArray, List.set_cons_zero, List.set_cons_succ]
      refine wpAnyH_ready (rs := [21]) (by kernel_rfl) (by simp) ?_
      refine AllReadyH.cons (o := _) rfl (fun K hK => ?_) AllReadyH.nil
      go_simp
      go_at_call 46
      refine (union2_at l1 l2 _ _ HS20_3.out).mono ?_
      rintro e v4 ⟨rfl, hbc⟩
      have HB4 := Lib.hid (HB3.out.trans (hbc.mono HB3.out.size))
      have hKs4 := fun b (hb : (fun b' => b' = w.heap.size ∨ b' = w.heap.size + 1) b) => Nat.lt_of_lt_of_le (hKl b hb) HB4.out.size
      have hk4 := KeepP.below hk3 hbc hKs3
      have HS14_4 := Lib.hid (HS14_3.out.below hbc HS14_3.out.lt)
      have HS20_4 := Lib.hid (HS20_3.out.below hbc HS20_3.out.lt)
      clear hbc
      refine hK.out _ _ hk4 (fun _ => ?_)
      clear hK K
      try simp only [Act.put, List.getElem_toArray, List.getElem_cons_zero, List.getElem_cons_succ, List.setIfInBounds_toArray, List.set_cons_zero, List.set_cons_succ]
      refine wpAnyH_take (i := 22) (oi := _) (v := ?_) rfl (by kernel_rfl) (by kernel_rfl) (by kernel_rfl) (fun _ _ _ h => h) (Or.inl ⟨by kernel_rfl, ?_⟩) (by assumption) ?_
      rotate_left
      · intro w hSw
        try dsimp only at hSw
        go_simp
        try (with_reducible rfl)
      try simp only [Act.put, List.getElem_toArray, List.getElem_cons_zero, List.getElem_cons_succ, List.setIfInBounds_toArray, List.set_cons_zero, List.set_cons_succ]
      have HR2 := Lib.hid (HXR.out.below HB4.out HXR.out.lt)
      have e0 := HR2.out.cell 0
      have e1 := HR2.out.cell 1
      have e2 := HR2.out.cell 2
      have e3 := HR2.out.cell 3
      have e4 := HR2.out.cell 4
      have e5 := HR2.out.cell 5
      have e6 := HR2.out.cell 6
      have e7 := HR2.out.cell 7
      have e8 := HR2.out.cell 8
      have e9 := HR2.out.cell 9
      have e10 := HR2.out.cell 10
      have q0 := HR2.out.frozen 0
      have q1 := HR2.out.frozen 1
      have q2 := HR2.out.frozen 2
      have q3 := HR2.out.frozen 3
      have q4 := HR2.out.frozen 4
      have q5 := HR2.out.frozen 5
      have q6 := HR2.out.frozen 6
      have q7 := HR2.out.frozen 7
      have q8 := HR2.out.frozen 8
      have q9 := HR2.out.frozen 9
      have q10 := HR2.out.frozen 10
      have hlr := HR2.out.lt
      simp only [List.getElem?_toArray, List.getElem?_cons_zero, List.getElem?_cons_succ] at e0 e1 e2 e3 e4 e5 e6 e7 e8 e9 e10
      refine wpAnyH_ready (rs := [23]) (by kernel_rfl) (by simp) ?_
      refine AllReadyH.cons (o := _) rfl (fun K hK => ?_) AllReadyH.nil
      go_simp
      refine hK.out _ _ (KeepP.set11 hk4 (fun b hb e => by rcases hb with h | h <;> omega)) (fun _ => ?_)
      clear hK K
      try simp only [Act.put, List.getElem_toArray, List.getElem_cons_zero, List.getElem_cons_succ, List.setIfInBounds_toArray, List.set_cons_zero, List.set_cons_succ]
      refine wpAnyH_done (by kernel_rfl) ?_ _
      go_wp2
      refine bodyPost_ret (ret_sum Tryz.results150 rfl (Blk.store11 HR2.out)) rfl ⟨by rw [HV.out, HMN.out, HMX.out]; rfl, below_set11 (HB.out.trans (HB4.out.mono HB.out.size)) (by omega)⟩
  · skip
    go_simp
    have HB1 := Lib.hid (HB0.out.alloc HB0.out.size (.cells #[.int .u64 ((word (l1) 0 : Nat) : Int), .int .u64 ((word (l1) 1 : Nat) : Int), .int .u64 ((word (l1) 2 : Nat) : Int), .int .u64 ((word (l1) 3 : Nat) : Int), .int .u64 ((word (l2) 0 : Nat) : Int), .int .u64 ((word (l2) 1 : Nat) : Int), .int .u64 ((word (l2) 2 : Nat) : Int), .int .u64 ((word (l2) 3 : Nat) : Int)] 25))
    have hKs1 := fun b (hb : (fun b' => b' = w.heap.size ∨ b' = w.heap.size + 1) b) => Nat.lt_of_lt_of_le (hKl b hb) HB1.out.size
    have hk1 := KeepP.alloc hk0 hKs0 (.cells #[.int .u64 ((word (l1) 0 : Nat) : Int), .int .u64 ((word (l1) 1 : Nat) : Int), .int .u64 ((word (l1) 2 : Nat) : Int), .int .u64 ((word (l1) 3 : Nat) : Int), .int .u64 ((word (l2) 0 : Nat) : Int), .int .u64 ((word (l2) 1 : Nat) : Int), .int .u64 ((word (l2) 2 : Nat) : Int), .int .u64 ((word (l2) 3 : Nat) : Int)] 25)
    have HS20_1 := Lib.hid (show Blk ((w2.drew).alloc (.cells #[.int .u64 ((word (l1) 0 : Nat) : Int), .int .u64 ((word (l1) 1 : Nat) : Int), .int .u64 ((word (l1) 2 : Nat) : Int), .int .u64 ((word (l1) 3 : Nat) : Int), .int .u64 ((word (l2) 0 : Nat) : Int), .int .u64 ((word (l2) 1 : Nat) : Int), .int .u64 ((word (l2) 2 : Nat) : Int), .int .u64 ((word (l2) 3 : Nat) : Int)] 25)) w2.heap.size 25 #[.int .u64 ((word (l1) 0 : Nat) : Int), .int .u64 ((word (l1) 1 : Nat) : Int), .int .u64 ((word (l1) 2 : Nat) : Int), .int .u64 ((word (l1) 3 : Nat) : Int), .int .u64 ((word (l2) 0 : Nat) : Int), .int .u64 ((word (l2) 1 : Nat) : Int), .int .u64 ((word (l2) 2 : Nat) : Int), .int .u64 ((word (l2) 3 : Nat) : Int)] from Blk.new_at (by simp))
    refine hK.out _ _ hk1 (fun _ => ?_)
    clear hK K
    try simp only [Act.put, List.getElem_toArray, List.getElem_cons_zero, List.getElem_cons_succ, List.setIfInBounds_toArray, List.set_cons_zero, List.set_cons_succ]
    refine wpAnyH_ready (rs := [14]) (by kernel_rfl) (by simp) ?_
    refine AllReadyH.cons (o := _) rfl (fun K hK => ?_) AllReadyH.nil
    go_simp
    have HB2 := Lib.hid (HB1.out.alloc HB1.out.size (.cells #[.int .u64 ((word (f1) 0 : Nat) : Int), .int .u64 ((word (f1) 1 : Nat) : Int), .int .u64 ((word (f1) 2 : Nat) : Int), .int .u64 ((word (f1) 3 : Nat) : Int), .int .u64 ((word (f2) 0 : Nat) : Int), .int .u64 ((word (f2) 1 : Nat) : Int), .int .u64 ((word (f2) 2 : Nat) : Int), .int .u64 ((word (f2) 3 : Nat) : Int)] 25))
    have hKs2 := fun b (hb : (fun b' => b' = w.heap.size ∨ b' = w.heap.size + 1) b) => Nat.lt_of_lt_of_le (hKl b hb) HB2.out.size
    have hk2 := KeepP.alloc hk1 hKs1 (.cells #[.int .u64 ((word (f1) 0 : Nat) : Int), .int .u64 ((word (f1) 1 : Nat) : Int), .int .u64 ((word (f1) 2 : Nat) : Int), .int .u64 ((word (f1) 3 : Nat) : Int), .int .u64 ((word (f2) 0 : Nat) : Int), .int .u64 ((word (f2) 1 : Nat) : Int), .int .u64 ((word (f2) 2 : Nat) : Int), .int .u64 ((word (f2) 3 : Nat) : Int)] 25)
    have HS20_2 := Lib.hid (HS20_1.out.alloc (.cells #[.int .u64 ((word (f1) 0 : Nat) : Int), .int .u64 ((word (f1) 1 : Nat) : Int), .int .u64 ((word (f1) 2 : Nat) : Int), .int .u64 ((word (f1) 3 : Nat) : Int), .int .u64 ((word (f2) 0 : Nat) : Int), .int .u64 ((word (f2) 1 : Nat) : Int), .int .u64 ((word (f2) 2 : Nat) : Int), .int .u64 ((word (f2) 3 : Nat) : Int)] 25))
    have HS14_2 := Lib.hid (show Blk (((w2.drew).alloc (.cells #[.int .u64 ((word (l1) 0 : Nat) : Int), .int .u64 ((word (l1) 1 : Nat) : Int), .int .u64 ((word (l1) 2 : Nat) : Int), .int .u64 ((word (l1) 3 : Nat) : Int), .int .u64 ((word (l2) 0 : Nat) : Int), .int .u64 ((word (l2) 1 : Nat) : Int), .int .u64 ((word (l2) 2 : Nat) : Int), .int .u64 ((word (l2) 3 : Nat) : Int)] 25)).alloc (.cells #[.int .u64 ((word (f1) 0 : Nat) : Int), .int .u64 ((word (f1) 1 : Nat) : Int), .int .u64 ((word (f1) 2 : Nat) : Int), .int .u64 ((word (f1) 3 : Nat) : Int), .int .u64 ((word (f2) 0 : Nat) : Int), .int .u64 ((word (f2) 1 : Nat) : Int), .int .u64 ((word (f2) 2 : Nat) : Int), .int .u64 ((word (f2) 3 : Nat) : Int)] 25)) (w2.heap.size + 1) 25 #[.int .u64 ((word (f1) 0 : Nat) : Int), .int .u64 ((word (f1) 1 : Nat) : Int), .int .u64 ((word (f1) 2 : Nat) : Int), .int .u64 ((word (f1) 3 : Nat) : Int), .int .u64 ((word (f2) 0 : Nat) : Int), .int .u64 ((word (f2) 1 : Nat) : Int), .int .u64 ((word (f2) 2 : Nat) : Int), .int .u64 ((word (f2) 3 : Nat) : Int)] from Blk.new_at (by simp))
    refine hK.out _ _ hk2 (fun _ => ?_)
    clear hK K
    try simp only [Act.put, List.getElem_toArray, List.getElem_cons_zero, List.getElem_cons_succ, List.setIfInBounds_toArray, List.set_cons_zero, List.set_cons_succ]
    refine wpAnyH_ready (rs := [15]) (by kernel_rfl) (by simp) ?_
    refine AllReadyH.cons (o := _) rfl (fun K hK => ?_) AllReadyH.nil
    go_simp
    go_at_call 46
    refine (union2_at f1 f2 _ _ HS14_2.out).mono ?_
    rintro e v3 ⟨rfl, hbc⟩
    have HB3 := Lib.hid (HB2.out.trans (hbc.mono HB2.out.size))
    have hKs3 := fun b (hb : (fun b' => b' = w.heap.size ∨ b' = w.heap.size + 1) b) => Nat.lt_of_lt_of_le (hKl b hb) HB3.out.size
    have hk3 := KeepP.below hk2 hbc hKs2
    have HS20_3 := Lib.hid (HS20_2.out.below hbc HS20_2.out.lt)
    have HS14_3 := Lib.hid (HS14_2.out.below hbc HS14_2.out.lt)
    clear hbc
    refine hK.out _ _ hk3 (fun _ => ?_)
    clear hK K
    try simp only [Act.put, List.getElem_toArray, List.getElem_cons_zero, List.getElem_cons_succ, List.setIfInBounds_toArray, List.set_cons_zero, List.set_cons_succ]
    refine wpAnyH_ready (rs := [21]) (by kernel_rfl) (by simp) ?_
    refine AllReadyH.cons (o := _) rfl (fun K hK => ?_) AllReadyH.nil
    go_simp
    go_at_call 46
    refine (union2_at l1 l2 _ _ HS20_3.out).mono ?_
    rintro e v4 ⟨rfl, hbc⟩
    have HB4 := Lib.hid (HB3.out.trans (hbc.mono HB3.out.size))
    have hKs4 := fun b (hb : (fun b' => b' = w.heap.size ∨ b' = w.heap.size + 1) b) => Nat.lt_of_lt_of_le (hKl b hb) HB4.out.size
    have hk4 := KeepP.below hk3 hbc hKs3
    have HS20_4 := Lib.hid (HS20_3.out.below hbc HS20_3.out.lt)
    have HS14_4 := Lib.hid (HS14_3.out.below hbc HS14_3.out.lt)
    clear hbc
    refine hK.out _ _ hk4 (fun _ => ?_)
    clear hK K
    try simp only [Act.put, List.getElem_toArray, List.getElem_cons_zero, List.getElem_cons_succ, List.setIfInBounds_toArray, List.set_cons_zero, List.set_cons_succ]
    refine wpAnyH_take (i := 22) (oi := _) (v := ?_) rfl (by kernel_rfl) (by kernel_rfl) (by kernel_rfl) (fun _ _ _ h => h) (Or.inl ⟨by kernel_rfl, ?_⟩) (by assumption) ?_
    rotate_left
    · intro w hSw
      try dsimp only at hSw
      go_simp
      try (with_reducible rfl)
    try simp only [Act.put, List.getElem_toArray, List.getElem_cons_zero, List.getElem_cons_succ, List.setIfInBounds_toArray, List.set_cons_zero, List.set_cons_succ]
    have HR2 := Lib.hid (HXR.out.below HB4.out HXR.out.lt)
    have e0 := HR2.out.cell 0
    have e1 := HR2.out.cell 1
    have e2 := HR2.out.cell 2
    have e3 := HR2.out.cell 3
    have e4 := HR2.out.cell 4
    have e5 := HR2.out.cell 5
    have e6 := HR2.out.cell 6
    have e7 := HR2.out.cell 7
    have e8 := HR2.out.cell 8
    have e9 := HR2.out.cell 9
    have e10 := HR2.out.cell 10
    have q0 := HR2.out.frozen 0
    have q1 := HR2.out.frozen 1
    have q2 := HR2.out.frozen 2
    have q3 := HR2.out.frozen 3
    have q4 := HR2.out.frozen 4
    have q5 := HR2.out.frozen 5
    have q6 := HR2.out.frozen 6
    have q7 := HR2.out.frozen 7
    have q8 := HR2.out.frozen 8
    have q9 := HR2.out.frozen 9
    have q10 := HR2.out.frozen 10
    have hlr := HR2.out.lt
    simp only [List.getElem?_toArray, List.getElem?_cons_zero, List.getElem?_cons_succ] at e0 e1 e2 e3 e4 e5 e6 e7 e8 e9 e10
    refine wpAnyH_ready (rs := [23]) (by kernel_rfl) (by simp) ?_
    refine AllReadyH.cons (o := _) rfl (fun K hK => ?_) AllReadyH.nil
    go_simp
    refine hK.out _ _ (KeepP.set11 hk4 (fun b hb e => by rcases hb with h | h <;> omega)) (fun _ => ?_)
    clear hK K
    try simp only [Act.put, List.getElem_toArray, List.getElem_cons_zero, List.getElem_cons_succ, List.setIfInBounds_toArray, List.set_cons_zero, List.set_cons_succ]
    refine wpAnyH_done (by kernel_rfl) ?_ _
    go_wp2
    refine bodyPost_ret (ret_sum Tryz.results150 rfl (Blk.store11 HR2.out)) rfl ⟨by rw [HV.out, HMN.out, HMX.out]; rfl, below_set11 (HB.out.trans (HB4.out.mono HB.out.size)) (by omega)⟩
end Go.Proofs.YtfekpkelmliejaaGreatDoor
namespace Go.Proofs.YtfekpkelmliejaaGreatDoor
open Go.RowKit
set_option linter.unusedSimpArgs false
set_option linter.unusedVariables false
set_option maxRecDepth 100000

set_option maxHeartbeats 2000000 in
theorem behind_no1 (x1 y1 x2 y2 : Int) (f1 l1 f2 l2 : Nat → Bool) (h2 : Bool) (w : World) :
    Calls Tryz.prog 149 #[.agg #[.bool true, .int .i64 x1, .int .i64 y1, .int .u64 ((word (f1) 0 : Nat) : Int), .int .u64 ((word (f1) 1 : Nat) : Int), .int .u64 ((word (f1) 2 : Nat) : Int), .int .u64 ((word (f1) 3 : Nat) : Int), .int .u64 ((word (l1) 0 : Nat) : Int), .int .u64 ((word (l1) 1 : Nat) : Int), .int .u64 ((word (l1) 2 : Nat) : Int), .int .u64 ((word (l1) 3 : Nat) : Int)], .agg #[.bool h2, .int .i64 x2, .int .i64 y2, .int .u64 ((word (f2) 0 : Nat) : Int), .int .u64 ((word (f2) 1 : Nat) : Int), .int .u64 ((word (f2) 2 : Nat) : Int), .int .u64 ((word (f2) 3 : Nat) : Int), .int .u64 ((word (l2) 0 : Nat) : Int), .int .u64 ((word (l2) 1 : Nat) : Int), .int .u64 ((word (l2) 2 : Nat) : Int), .int .u64 ((word (l2) 3 : Nat) : Int)]] w fun e w' => e = .returned (sumV (behindF ⟨true, x1, y1, f1, l1⟩ ⟨h2, x2, y2, f2, l2⟩)) ∧ Below w.heap.size w w' := by
  have HV := Lib.hid (show behindF ⟨true, x1, y1, f1, l1⟩ ⟨h2, x2, y2, f2, l2⟩ = nothingF by unfold behindF; rw [if_pos (by simp)])
  have hb : Below w.heap.size w (((w.alloc (.cells #[.bool true, .int .i64 x1, .int .i64 y1, .int .u64 ((word (f1) 0 : Nat) : Int), .int .u64 ((word (f1) 1 : Nat) : Int), .int .u64 ((word (f1) 2 : Nat) : Int), .int .u64 ((word (f1) 3 : Nat) : Int), .int .u64 ((word (l1) 0 : Nat) : Int), .int .u64 ((word (l1) 1 : Nat) : Int), .int .u64 ((word (l1) 2 : Nat) : Int), .int .u64 ((word (l1) 3 : Nat) : Int)] 85)).alloc (.cells #[.bool h2, .int .i64 x2, .int .i64 y2, .int .u64 ((word (f2) 0 : Nat) : Int), .int .u64 ((word (f2) 1 : Nat) : Int), .int .u64 ((word (f2) 2 : Nat) : Int), .int .u64 ((word (f2) 3 : Nat) : Int), .int .u64 ((word (l2) 0 : Nat) : Int), .int .u64 ((word (l2) 1 : Nat) : Int), .int .u64 ((word (l2) 2 : Nat) : Int), .int .u64 ((word (l2) 3 : Nat) : Int)] 85)).alloc (.cells #[.bool false, .int .i64 0, .int .i64 0, .int .u64 0, .int .u64 0, .int .u64 0, .int .u64 0, .int .u64 0, .int .u64 0, .int .u64 0, .int .u64 0] 85)) := (((Below.refl _ _).alloc (Nat.le_refl _) _).alloc (by simp) _).alloc (by simp; omega) _
  have HB := Lib.hid hb
  have hXA := ((Blk.new w 85 #[.bool true, .int .i64 x1, .int .i64 y1, .int .u64 ((word (f1) 0 : Nat) : Int), .int .u64 ((word (f1) 1 : Nat) : Int), .int .u64 ((word (f1) 2 : Nat) : Int), .int .u64 ((word (f1) 3 : Nat) : Int), .int .u64 ((word (l1) 0 : Nat) : Int), .int .u64 ((word (l1) 1 : Nat) : Int), .int .u64 ((word (l1) 2 : Nat) : Int), .int .u64 ((word (l1) 3 : Nat) : Int)]).alloc (.cells #[.bool h2, .int .i64 x2, .int .i64 y2, .int .u64 ((word (f2) 0 : Nat) : Int), .int .u64 ((word (f2) 1 : Nat) : Int), .int .u64 ((word (f2) 2 : Nat) : Int), .int .u64 ((word (f2) 3 : Nat) : Int), .int .u64 ((word (l2) 0 : Nat) : Int), .int .u64 ((word (l2) 1 : Nat) : Int), .int .u64 ((word (l2) 2 : Nat) : Int), .int .u64 ((word (l2) 3 : Nat) : Int)] 85)).alloc (.cells #[.bool false, .int .i64 0, .int .i64 0, .int .u64 0, .int .u64 0, .int .u64 0, .int .u64 0, .int .u64 0, .int .u64 0, .int .u64 0, .int .u64 0] 85)
  have hXB := (show Blk ((w.alloc (.cells #[.bool true, .int .i64 x1, .int .i64 y1, .int .u64 ((word (f1) 0 : Nat) : Int), .int .u64 ((word (f1) 1 : Nat) : Int), .int .u64 ((word (f1) 2 : Nat) : Int), .int .u64 ((word (f1) 3 : Nat) : Int), .int .u64 ((word (l1) 0 : Nat) : Int), .int .u64 ((word (l1) 1 : Nat) : Int), .int .u64 ((word (l1) 2 : Nat) : Int), .int .u64 ((word (l1) 3 : Nat) : Int)] 85)).alloc (.cells #[.bool h2, .int .i64 x2, .int .i64 y2, .int .u64 ((word (f2) 0 : Nat) : Int), .int .u64 ((word (f2) 1 : Nat) : Int), .int .u64 ((word (f2) 2 : Nat) : Int), .int .u64 ((word (f2) 3 : Nat) : Int), .int .u64 ((word (l2) 0 : Nat) : Int), .int .u64 ((word (l2) 1 : Nat) : Int), .int .u64 ((word (l2) 2 : Nat) : Int), .int .u64 ((word (l2) 3 : Nat) : Int)] 85)) (w.heap.size + 1) 85 #[.bool h2, .int .i64 x2, .int .i64 y2, .int .u64 ((word (f2) 0 : Nat) : Int), .int .u64 ((word (f2) 1 : Nat) : Int), .int .u64 ((word (f2) 2 : Nat) : Int), .int .u64 ((word (f2) 3 : Nat) : Int), .int .u64 ((word (l2) 0 : Nat) : Int), .int .u64 ((word (l2) 1 : Nat) : Int), .int .u64 ((word (l2) 2 : Nat) : Int), .int .u64 ((word (l2) 3 : Nat) : Int)] from Blk.new_at (by simp)).alloc (.cells #[.bool false, .int .i64 0, .int .i64 0, .int .u64 0, .int .u64 0, .int .u64 0, .int .u64 0, .int .u64 0, .int .u64 0, .int .u64 0, .int .u64 0] 85)
  have HXR := Lib.hid (show Blk (((w.alloc (.cells #[.bool true, .int .i64 x1, .int .i64 y1, .int .u64 ((word (f1) 0 : Nat) : Int), .int .u64 ((word (f1) 1 : Nat) : Int), .int .u64 ((word (f1) 2 : Nat) : Int), .int .u64 ((word (f1) 3 : Nat) : Int), .int .u64 ((word (l1) 0 : Nat) : Int), .int .u64 ((word (l1) 1 : Nat) : Int), .int .u64 ((word (l1) 2 : Nat) : Int), .int .u64 ((word (l1) 3 : Nat) : Int)] 85)).alloc (.cells #[.bool h2, .int .i64 x2, .int .i64 y2, .int .u64 ((word (f2) 0 : Nat) : Int), .int .u64 ((word (f2) 1 : Nat) : Int), .int .u64 ((word (f2) 2 : Nat) : Int), .int .u64 ((word (f2) 3 : Nat) : Int), .int .u64 ((word (l2) 0 : Nat) : Int), .int .u64 ((word (l2) 1 : Nat) : Int), .int .u64 ((word (l2) 2 : Nat) : Int), .int .u64 ((word (l2) 3 : Nat) : Int)] 85)).alloc (.cells #[.bool false, .int .i64 0, .int .i64 0, .int .u64 0, .int .u64 0, .int .u64 0, .int .u64 0, .int .u64 0, .int .u64 0, .int .u64 0, .int .u64 0] 85)) (w.heap.size + 1 + 1) 85 #[.bool false, .int .i64 0, .int .i64 0, .int .u64 0, .int .u64 0, .int .u64 0, .int .u64 0, .int .u64 0, .int .u64 0, .int .u64 0, .int .u64 0] from Blk.new_at (by simp))
  clear hb
  go_enter Tryz.func149, Tryz.ntmps149
  go_upto_region 1 with fail
  generalize (((w.alloc (.cells #[.bool true, .int .i64 x1, .int .i64 y1, .int .u64 ((word (f1) 0 : Nat) : Int), .int .u64 ((word (f1) 1 : Nat) : Int), .int .u64 ((word (f1) 2 : Nat) : Int), .int .u64 ((word (f1) 3 : Nat) : Int), .int .u64 ((word (l1) 0 : Nat) : Int), .int .u64 ((word (l1) 1 : Nat) : Int), .int .u64 ((word (l1) 2 : Nat) : Int), .int .u64 ((word (l1) 3 : Nat) : Int)] 85)).alloc (.cells #[.bool h2, .int .i64 x2, .int .i64 y2, .int .u64 ((word (f2) 0 : Nat) : Int), .int .u64 ((word (f2) 1 : Nat) : Int), .int .u64 ((word (f2) 2 : Nat) : Int), .int .u64 ((word (f2) 3 : Nat) : Int), .int .u64 ((word (l2) 0 : Nat) : Int), .int .u64 ((word (l2) 1 : Nat) : Int), .int .u64 ((word (l2) 2 : Nat) : Int), .int .u64 ((word (l2) 3 : Nat) : Int)] 85)).alloc (.cells #[.bool false, .int .i64 0, .int .i64 0, .int .u64 0, .int .u64 0, .int .u64 0, .int .u64 0, .int .u64 0, .int .u64 0, .int .u64 0, .int .u64 0] 85)) = w2 at *
  obtain ⟨a0, a1, a2, a3, a4, a5, a6, a7, a8, a9, a10⟩ := ((hXA)).c11r
  have hla := (hXA).lt
  obtain ⟨b0, b1, b2, b3, b4, b5, b6, b7, b8, b9, b10⟩ := ((hXB)).c11r
  have hlb := (hXB).lt
  clear hXA hXB
  go_wp2_with fail
  refine (nothing_go _).mono ?_
  rintro e w3 ⟨rfl, hb3⟩
  have hR := HXR.out.below hb3 HXR.out.lt
  have HB3 := Lib.hid (HB.out.trans (hb3.mono HB.out.size))
  have HR := Lib.hid hR
  obtain ⟨r0, r1, r2, r3, r4, r5, r6, r7, r8, r9, r10⟩ := ((hR)).c11r
  obtain ⟨q0, q1, q2, q3, q4, q5, q6, q7, q8, q9, q10⟩ := ((hR)).f11r
  have hlr := (hR).lt
  clear hR hb3
  rw [nothing_val]
  dsimp only
  go_wp2
  refine bodyPost_ret (ret_sum Tryz.results149 rfl (Blk.store11 HR.out)) rfl ⟨by rw [HV.out, nothing_val], below_set11 HB3.out (by omega)⟩
set_option maxHeartbeats 2000000 in
theorem behind_no2 (x1 y1 x2 y2 : Int) (f1 l1 f2 l2 : Nat → Bool) (w : World) :
    Calls Tryz.prog 149 #[.agg #[.bool false, .int .i64 x1, .int .i64 y1, .int .u64 ((word (f1) 0 : Nat) : Int), .int .u64 ((word (f1) 1 : Nat) : Int), .int .u64 ((word (f1) 2 : Nat) : Int), .int .u64 ((word (f1) 3 : Nat) : Int), .int .u64 ((word (l1) 0 : Nat) : Int), .int .u64 ((word (l1) 1 : Nat) : Int), .int .u64 ((word (l1) 2 : Nat) : Int), .int .u64 ((word (l1) 3 : Nat) : Int)], .agg #[.bool true, .int .i64 x2, .int .i64 y2, .int .u64 ((word (f2) 0 : Nat) : Int), .int .u64 ((word (f2) 1 : Nat) : Int), .int .u64 ((word (f2) 2 : Nat) : Int), .int .u64 ((word (f2) 3 : Nat) : Int), .int .u64 ((word (l2) 0 : Nat) : Int), .int .u64 ((word (l2) 1 : Nat) : Int), .int .u64 ((word (l2) 2 : Nat) : Int), .int .u64 ((word (l2) 3 : Nat) : Int)]] w fun e w' => e = .returned (sumV (behindF ⟨false, x1, y1, f1, l1⟩ ⟨true, x2, y2, f2, l2⟩)) ∧ Below w.heap.size w w' := by
  have HV := Lib.hid (show behindF ⟨false, x1, y1, f1, l1⟩ ⟨true, x2, y2, f2, l2⟩ = nothingF by unfold behindF; rw [if_pos (by simp)])
  have hb : Below w.heap.size w (((w.alloc (.cells #[.bool false, .int .i64 x1, .int .i64 y1, .int .u64 ((word (f1) 0 : Nat) : Int), .int .u64 ((word (f1) 1 : Nat) : Int), .int .u64 ((word (f1) 2 : Nat) : Int), .int .u64 ((word (f1) 3 : Nat) : Int), .int .u64 ((word (l1) 0 : Nat) : Int), .int .u64 ((word (l1) 1 : Nat) : Int), .int .u64 ((word (l1) 2 : Nat) : Int), .int .u64 ((word (l1) 3 : Nat) : Int)] 85)).alloc (.cells #[.bool true, .int .i64 x2, .int .i64 y2, .int .u64 ((word (f2) 0 : Nat) : Int), .int .u64 ((word (f2) 1 : Nat) : Int), .int .u64 ((word (f2) 2 : Nat) : Int), .int .u64 ((word (f2) 3 : Nat) : Int), .int .u64 ((word (l2) 0 : Nat) : Int), .int .u64 ((word (l2) 1 : Nat) : Int), .int .u64 ((word (l2) 2 : Nat) : Int), .int .u64 ((word (l2) 3 : Nat) : Int)] 85)).alloc (.cells #[.bool false, .int .i64 0, .int .i64 0, .int .u64 0, .int .u64 0, .int .u64 0, .int .u64 0, .int .u64 0, .int .u64 0, .int .u64 0, .int .u64 0] 85)) := (((Below.refl _ _).alloc (Nat.le_refl _) _).alloc (by simp) _).alloc (by simp; omega) _
  have HB := Lib.hid hb
  have hXA := ((Blk.new w 85 #[.bool false, .int .i64 x1, .int .i64 y1, .int .u64 ((word (f1) 0 : Nat) : Int), .int .u64 ((word (f1) 1 : Nat) : Int), .int .u64 ((word (f1) 2 : Nat) : Int), .int .u64 ((word (f1) 3 : Nat) : Int), .int .u64 ((word (l1) 0 : Nat) : Int), .int .u64 ((word (l1) 1 : Nat) : Int), .int .u64 ((word (l1) 2 : Nat) : Int), .int .u64 ((word (l1) 3 : Nat) : Int)]).alloc (.cells #[.bool true, .int .i64 x2, .int .i64 y2, .int .u64 ((word (f2) 0 : Nat) : Int), .int .u64 ((word (f2) 1 : Nat) : Int), .int .u64 ((word (f2) 2 : Nat) : Int), .int .u64 ((word (f2) 3 : Nat) : Int), .int .u64 ((word (l2) 0 : Nat) : Int), .int .u64 ((word (l2) 1 : Nat) : Int), .int .u64 ((word (l2) 2 : Nat) : Int), .int .u64 ((word (l2) 3 : Nat) : Int)] 85)).alloc (.cells #[.bool false, .int .i64 0, .int .i64 0, .int .u64 0, .int .u64 0, .int .u64 0, .int .u64 0, .int .u64 0, .int .u64 0, .int .u64 0, .int .u64 0] 85)
  have hXB := (show Blk ((w.alloc (.cells #[.bool false, .int .i64 x1, .int .i64 y1, .int .u64 ((word (f1) 0 : Nat) : Int), .int .u64 ((word (f1) 1 : Nat) : Int), .int .u64 ((word (f1) 2 : Nat) : Int), .int .u64 ((word (f1) 3 : Nat) : Int), .int .u64 ((word (l1) 0 : Nat) : Int), .int .u64 ((word (l1) 1 : Nat) : Int), .int .u64 ((word (l1) 2 : Nat) : Int), .int .u64 ((word (l1) 3 : Nat) : Int)] 85)).alloc (.cells #[.bool true, .int .i64 x2, .int .i64 y2, .int .u64 ((word (f2) 0 : Nat) : Int), .int .u64 ((word (f2) 1 : Nat) : Int), .int .u64 ((word (f2) 2 : Nat) : Int), .int .u64 ((word (f2) 3 : Nat) : Int), .int .u64 ((word (l2) 0 : Nat) : Int), .int .u64 ((word (l2) 1 : Nat) : Int), .int .u64 ((word (l2) 2 : Nat) : Int), .int .u64 ((word (l2) 3 : Nat) : Int)] 85)) (w.heap.size + 1) 85 #[.bool true, .int .i64 x2, .int .i64 y2, .int .u64 ((word (f2) 0 : Nat) : Int), .int .u64 ((word (f2) 1 : Nat) : Int), .int .u64 ((word (f2) 2 : Nat) : Int), .int .u64 ((word (f2) 3 : Nat) : Int), .int .u64 ((word (l2) 0 : Nat) : Int), .int .u64 ((word (l2) 1 : Nat) : Int), .int .u64 ((word (l2) 2 : Nat) : Int), .int .u64 ((word (l2) 3 : Nat) : Int)] from Blk.new_at (by simp)).alloc (.cells #[.bool false, .int .i64 0, .int .i64 0, .int .u64 0, .int .u64 0, .int .u64 0, .int .u64 0, .int .u64 0, .int .u64 0, .int .u64 0, .int .u64 0] 85)
  have HXR := Lib.hid (show Blk (((w.alloc (.cells #[.bool false, .int .i64 x1, .int .i64 y1, .int .u64 ((word (f1) 0 : Nat) : Int), .int .u64 ((word (f1) 1 : Nat) : Int), .int .u64 ((word (f1) 2 : Nat) : Int), .int .u64 ((word (f1) 3 : Nat) : Int), .int .u64 ((word (l1) 0 : Nat) : Int), .int .u64 ((word (l1) 1 : Nat) : Int), .int .u64 ((word (l1) 2 : Nat) : Int), .int .u64 ((word (l1) 3 : Nat) : Int)] 85)).alloc (.cells #[.bool true, .int .i64 x2, .int .i64 y2, .int .u64 ((word (f2) 0 : Nat) : Int), .int .u64 ((word (f2) 1 : Nat) : Int), .int .u64 ((word (f2) 2 : Nat) : Int), .int .u64 ((word (f2) 3 : Nat) : Int), .int .u64 ((word (l2) 0 : Nat) : Int), .int .u64 ((word (l2) 1 : Nat) : Int), .int .u64 ((word (l2) 2 : Nat) : Int), .int .u64 ((word (l2) 3 : Nat) : Int)] 85)).alloc (.cells #[.bool false, .int .i64 0, .int .i64 0, .int .u64 0, .int .u64 0, .int .u64 0, .int .u64 0, .int .u64 0, .int .u64 0, .int .u64 0, .int .u64 0] 85)) (w.heap.size + 1 + 1) 85 #[.bool false, .int .i64 0, .int .i64 0, .int .u64 0, .int .u64 0, .int .u64 0, .int .u64 0, .int .u64 0, .int .u64 0, .int .u64 0, .int .u64 0] from Blk.new_at (by simp))
  clear hb
  go_enter Tryz.func149, Tryz.ntmps149
  go_upto_region 1 with fail
  generalize (((w.alloc (.cells #[.bool false, .int .i64 x1, .int .i64 y1, .int .u64 ((word (f1) 0 : Nat) : Int), .int .u64 ((word (f1) 1 : Nat) : Int), .int .u64 ((word (f1) 2 : Nat) : Int), .int .u64 ((word (f1) 3 : Nat) : Int), .int .u64 ((word (l1) 0 : Nat) : Int), .int .u64 ((word (l1) 1 : Nat) : Int), .int .u64 ((word (l1) 2 : Nat) : Int), .int .u64 ((word (l1) 3 : Nat) : Int)] 85)).alloc (.cells #[.bool true, .int .i64 x2, .int .i64 y2, .int .u64 ((word (f2) 0 : Nat) : Int), .int .u64 ((word (f2) 1 : Nat) : Int), .int .u64 ((word (f2) 2 : Nat) : Int), .int .u64 ((word (f2) 3 : Nat) : Int), .int .u64 ((word (l2) 0 : Nat) : Int), .int .u64 ((word (l2) 1 : Nat) : Int), .int .u64 ((word (l2) 2 : Nat) : Int), .int .u64 ((word (l2) 3 : Nat) : Int)] 85)).alloc (.cells #[.bool false, .int .i64 0, .int .i64 0, .int .u64 0, .int .u64 0, .int .u64 0, .int .u64 0, .int .u64 0, .int .u64 0, .int .u64 0, .int .u64 0] 85)) = w2 at *
  obtain ⟨a0, a1, a2, a3, a4, a5, a6, a7, a8, a9, a10⟩ := ((hXA)).c11r
  have hla := (hXA).lt
  obtain ⟨b0, b1, b2, b3, b4, b5, b6, b7, b8, b9, b10⟩ := ((hXB)).c11r
  have hlb := (hXB).lt
  clear hXA hXB
  go_wp2_with fail
  refine (nothing_go _).mono ?_
  rintro e w3 ⟨rfl, hb3⟩
  have hR := HXR.out.below hb3 HXR.out.lt
  have HB3 := Lib.hid (HB.out.trans (hb3.mono HB.out.size))
  have HR := Lib.hid hR
  obtain ⟨r0, r1, r2, r3, r4, r5, r6, r7, r8, r9, r10⟩ := ((hR)).c11r
  obtain ⟨q0, q1, q2, q3, q4, q5, q6, q7, q8, q9, q10⟩ := ((hR)).f11r
  have hlr := (hR).lt
  clear hR hb3
  rw [nothing_val]
  dsimp only
  go_wp2
  refine bodyPost_ret (ret_sum Tryz.results149 rfl (Blk.store11 HR.out)) rfl ⟨by rw [HV.out, nothing_val], below_set11 HB3.out (by omega)⟩
theorem fbehind_go (a b : SumS) (w : World) (ha : SumOk a) (hb : SumOk b) :
    Calls Tryz.prog 149 #[sumV a, sumV b] w fun e w' => e = .returned (sumV (behindF a b)) ∧ Below w.heap.size w w' := by
  obtain ⟨h1, x1, y1, f1, l1⟩ := a
  obtain ⟨h2, x2, y2, f2, l2⟩ := b
  cases h1 with
  | true => exact behind_no1 x1 y1 x2 y2 f1 l1 f2 l2 h2 w
  | false =>
    cases h2 with
    | true => exact behind_no2 x1 y1 x2 y2 f1 l1 f2 l2 w
    | false => exact behind_words x1 y1 x2 y2 f1 l1 f2 l2 w ha hb
set_option maxHeartbeats 2000000 in
theorem either_no1 (x1 y1 x2 y2 : Int) (f1 l1 f2 l2 : Nat → Bool) (h2 : Bool) (w : World) :
    Calls Tryz.prog 150 #[.agg #[.bool true, .int .i64 x1, .int .i64 y1, .int .u64 ((word (f1) 0 : Nat) : Int), .int .u64 ((word (f1) 1 : Nat) : Int), .int .u64 ((word (f1) 2 : Nat) : Int), .int .u64 ((word (f1) 3 : Nat) : Int), .int .u64 ((word (l1) 0 : Nat) : Int), .int .u64 ((word (l1) 1 : Nat) : Int), .int .u64 ((word (l1) 2 : Nat) : Int), .int .u64 ((word (l1) 3 : Nat) : Int)], .agg #[.bool h2, .int .i64 x2, .int .i64 y2, .int .u64 ((word (f2) 0 : Nat) : Int), .int .u64 ((word (f2) 1 : Nat) : Int), .int .u64 ((word (f2) 2 : Nat) : Int), .int .u64 ((word (f2) 3 : Nat) : Int), .int .u64 ((word (l2) 0 : Nat) : Int), .int .u64 ((word (l2) 1 : Nat) : Int), .int .u64 ((word (l2) 2 : Nat) : Int), .int .u64 ((word (l2) 3 : Nat) : Int)]] w fun e w' => e = .returned (sumV (eitherF ⟨true, x1, y1, f1, l1⟩ ⟨h2, x2, y2, f2, l2⟩)) ∧ Below w.heap.size w w' := by
  have HV := Lib.hid (show eitherF ⟨true, x1, y1, f1, l1⟩ ⟨h2, x2, y2, f2, l2⟩ = ⟨h2, x2, y2, f2, l2⟩ by unfold eitherF; rw [if_pos rfl])
  have hb : Below w.heap.size w (((w.alloc (.cells #[.bool true, .int .i64 x1, .int .i64 y1, .int .u64 ((word (f1) 0 : Nat) : Int), .int .u64 ((word (f1) 1 : Nat) : Int), .int .u64 ((word (f1) 2 : Nat) : Int), .int .u64 ((word (f1) 3 : Nat) : Int), .int .u64 ((word (l1) 0 : Nat) : Int), .int .u64 ((word (l1) 1 : Nat) : Int), .int .u64 ((word (l1) 2 : Nat) : Int), .int .u64 ((word (l1) 3 : Nat) : Int)] 85)).alloc (.cells #[.bool h2, .int .i64 x2, .int .i64 y2, .int .u64 ((word (f2) 0 : Nat) : Int), .int .u64 ((word (f2) 1 : Nat) : Int), .int .u64 ((word (f2) 2 : Nat) : Int), .int .u64 ((word (f2) 3 : Nat) : Int), .int .u64 ((word (l2) 0 : Nat) : Int), .int .u64 ((word (l2) 1 : Nat) : Int), .int .u64 ((word (l2) 2 : Nat) : Int), .int .u64 ((word (l2) 3 : Nat) : Int)] 85)).alloc (.cells #[.bool false, .int .i64 0, .int .i64 0, .int .u64 0, .int .u64 0, .int .u64 0, .int .u64 0, .int .u64 0, .int .u64 0, .int .u64 0, .int .u64 0] 85)) := (((Below.refl _ _).alloc (Nat.le_refl _) _).alloc (by simp) _).alloc (by simp; omega) _
  have HB := Lib.hid hb
  have hXA := ((Blk.new w 85 #[.bool true, .int .i64 x1, .int .i64 y1, .int .u64 ((word (f1) 0 : Nat) : Int), .int .u64 ((word (f1) 1 : Nat) : Int), .int .u64 ((word (f1) 2 : Nat) : Int), .int .u64 ((word (f1) 3 : Nat) : Int), .int .u64 ((word (l1) 0 : Nat) : Int), .int .u64 ((word (l1) 1 : Nat) : Int), .int .u64 ((word (l1) 2 : Nat) : Int), .int .u64 ((word (l1) 3 : Nat) : Int)]).alloc (.cells #[.bool h2, .int .i64 x2, .int .i64 y2, .int .u64 ((word (f2) 0 : Nat) : Int), .int .u64 ((word (f2) 1 : Nat) : Int), .int .u64 ((word (f2) 2 : Nat) : Int), .int .u64 ((word (f2) 3 : Nat) : Int), .int .u64 ((word (l2) 0 : Nat) : Int), .int .u64 ((word (l2) 1 : Nat) : Int), .int .u64 ((word (l2) 2 : Nat) : Int), .int .u64 ((word (l2) 3 : Nat) : Int)] 85)).alloc (.cells #[.bool false, .int .i64 0, .int .i64 0, .int .u64 0, .int .u64 0, .int .u64 0, .int .u64 0, .int .u64 0, .int .u64 0, .int .u64 0, .int .u64 0] 85)
  have hXB := (show Blk ((w.alloc (.cells #[.bool true, .int .i64 x1, .int .i64 y1, .int .u64 ((word (f1) 0 : Nat) : Int), .int .u64 ((word (f1) 1 : Nat) : Int), .int .u64 ((word (f1) 2 : Nat) : Int), .int .u64 ((word (f1) 3 : Nat) : Int), .int .u64 ((word (l1) 0 : Nat) : Int), .int .u64 ((word (l1) 1 : Nat) : Int), .int .u64 ((word (l1) 2 : Nat) : Int), .int .u64 ((word (l1) 3 : Nat) : Int)] 85)).alloc (.cells #[.bool h2, .int .i64 x2, .int .i64 y2, .int .u64 ((word (f2) 0 : Nat) : Int), .int .u64 ((word (f2) 1 : Nat) : Int), .int .u64 ((word (f2) 2 : Nat) : Int), .int .u64 ((word (f2) 3 : Nat) : Int), .int .u64 ((word (l2) 0 : Nat) : Int), .int .u64 ((word (l2) 1 : Nat) : Int), .int .u64 ((word (l2) 2 : Nat) : Int), .int .u64 ((word (l2) 3 : Nat) : Int)] 85)) (w.heap.size + 1) 85 #[.bool h2, .int .i64 x2, .int .i64 y2, .int .u64 ((word (f2) 0 : Nat) : Int), .int .u64 ((word (f2) 1 : Nat) : Int), .int .u64 ((word (f2) 2 : Nat) : Int), .int .u64 ((word (f2) 3 : Nat) : Int), .int .u64 ((word (l2) 0 : Nat) : Int), .int .u64 ((word (l2) 1 : Nat) : Int), .int .u64 ((word (l2) 2 : Nat) : Int), .int .u64 ((word (l2) 3 : Nat) : Int)] from Blk.new_at (by simp)).alloc (.cells #[.bool false, .int .i64 0, .int .i64 0, .int .u64 0, .int .u64 0, .int .u64 0, .int .u64 0, .int .u64 0, .int .u64 0, .int .u64 0, .int .u64 0] 85)
  have HXR := Lib.hid (show Blk (((w.alloc (.cells #[.bool true, .int .i64 x1, .int .i64 y1, .int .u64 ((word (f1) 0 : Nat) : Int), .int .u64 ((word (f1) 1 : Nat) : Int), .int .u64 ((word (f1) 2 : Nat) : Int), .int .u64 ((word (f1) 3 : Nat) : Int), .int .u64 ((word (l1) 0 : Nat) : Int), .int .u64 ((word (l1) 1 : Nat) : Int), .int .u64 ((word (l1) 2 : Nat) : Int), .int .u64 ((word (l1) 3 : Nat) : Int)] 85)).alloc (.cells #[.bool h2, .int .i64 x2, .int .i64 y2, .int .u64 ((word (f2) 0 : Nat) : Int), .int .u64 ((word (f2) 1 : Nat) : Int), .int .u64 ((word (f2) 2 : Nat) : Int), .int .u64 ((word (f2) 3 : Nat) : Int), .int .u64 ((word (l2) 0 : Nat) : Int), .int .u64 ((word (l2) 1 : Nat) : Int), .int .u64 ((word (l2) 2 : Nat) : Int), .int .u64 ((word (l2) 3 : Nat) : Int)] 85)).alloc (.cells #[.bool false, .int .i64 0, .int .i64 0, .int .u64 0, .int .u64 0, .int .u64 0, .int .u64 0, .int .u64 0, .int .u64 0, .int .u64 0, .int .u64 0] 85)) (w.heap.size + 1 + 1) 85 #[.bool false, .int .i64 0, .int .i64 0, .int .u64 0, .int .u64 0, .int .u64 0, .int .u64 0, .int .u64 0, .int .u64 0, .int .u64 0, .int .u64 0] from Blk.new_at (by simp))
  clear hb
  go_enter Tryz.func150, Tryz.ntmps150
  go_upto_region 1 with fail
  generalize (((w.alloc (.cells #[.bool true, .int .i64 x1, .int .i64 y1, .int .u64 ((word (f1) 0 : Nat) : Int), .int .u64 ((word (f1) 1 : Nat) : Int), .int .u64 ((word (f1) 2 : Nat) : Int), .int .u64 ((word (f1) 3 : Nat) : Int), .int .u64 ((word (l1) 0 : Nat) : Int), .int .u64 ((word (l1) 1 : Nat) : Int), .int .u64 ((word (l1) 2 : Nat) : Int), .int .u64 ((word (l1) 3 : Nat) : Int)] 85)).alloc (.cells #[.bool h2, .int .i64 x2, .int .i64 y2, .int .u64 ((word (f2) 0 : Nat) : Int), .int .u64 ((word (f2) 1 : Nat) : Int), .int .u64 ((word (f2) 2 : Nat) : Int), .int .u64 ((word (f2) 3 : Nat) : Int), .int .u64 ((word (l2) 0 : Nat) : Int), .int .u64 ((word (l2) 1 : Nat) : Int), .int .u64 ((word (l2) 2 : Nat) : Int), .int .u64 ((word (l2) 3 : Nat) : Int)] 85)).alloc (.cells #[.bool false, .int .i64 0, .int .i64 0, .int .u64 0, .int .u64 0, .int .u64 0, .int .u64 0, .int .u64 0, .int .u64 0, .int .u64 0, .int .u64 0] 85)) = w2 at *
  obtain ⟨a0, a1, a2, a3, a4, a5, a6, a7, a8, a9, a10⟩ := ((hXA)).c11r
  have hla := (hXA).lt
  obtain ⟨b0, b1, b2, b3, b4, b5, b6, b7, b8, b9, b10⟩ := ((hXB)).c11r
  have hlb := (hXB).lt
  clear hXA hXB
  have hR := HXR.out
  obtain ⟨r0, r1, r2, r3, r4, r5, r6, r7, r8, r9, r10⟩ := ((hR)).c11r
  obtain ⟨q0, q1, q2, q3, q4, q5, q6, q7, q8, q9, q10⟩ := ((hR)).f11r
  have hlr := (hR).lt
  clear hR
  go_wp2
  refine bodyPost_ret (ret_sum Tryz.results150 rfl (Blk.store11 HXR.out)) rfl ⟨by rw [HV.out]; rfl, below_set11 HB.out (by omega)⟩
set_option maxHeartbeats 2000000 in
theorem either_no2 (x1 y1 x2 y2 : Int) (f1 l1 f2 l2 : Nat → Bool) (w : World) :
    Calls Tryz.prog 150 #[.agg #[.bool false, .int .i64 x1, .int .i64 y1, .int .u64 ((word (f1) 0 : Nat) : Int), .int .u64 ((word (f1) 1 : Nat) : Int), .int .u64 ((word (f1) 2 : Nat) : Int), .int .u64 ((word (f1) 3 : Nat) : Int), .int .u64 ((word (l1) 0 : Nat) : Int), .int .u64 ((word (l1) 1 : Nat) : Int), .int .u64 ((word (l1) 2 : Nat) : Int), .int .u64 ((word (l1) 3 : Nat) : Int)], .agg #[.bool true, .int .i64 x2, .int .i64 y2, .int .u64 ((word (f2) 0 : Nat) : Int), .int .u64 ((word (f2) 1 : Nat) : Int), .int .u64 ((word (f2) 2 : Nat) : Int), .int .u64 ((word (f2) 3 : Nat) : Int), .int .u64 ((word (l2) 0 : Nat) : Int), .int .u64 ((word (l2) 1 : Nat) : Int), .int .u64 ((word (l2) 2 : Nat) : Int), .int .u64 ((word (l2) 3 : Nat) : Int)]] w fun e w' => e = .returned (sumV (eitherF ⟨false, x1, y1, f1, l1⟩ ⟨true, x2, y2, f2, l2⟩)) ∧ Below w.heap.size w w' := by
  have HV := Lib.hid (show eitherF ⟨false, x1, y1, f1, l1⟩ ⟨true, x2, y2, f2, l2⟩ = ⟨false, x1, y1, f1, l1⟩ by unfold eitherF; rw [if_neg (by simp), if_pos rfl])
  have hb : Below w.heap.size w (((w.alloc (.cells #[.bool false, .int .i64 x1, .int .i64 y1, .int .u64 ((word (f1) 0 : Nat) : Int), .int .u64 ((word (f1) 1 : Nat) : Int), .int .u64 ((word (f1) 2 : Nat) : Int), .int .u64 ((word (f1) 3 : Nat) : Int), .int .u64 ((word (l1) 0 : Nat) : Int), .int .u64 ((word (l1) 1 : Nat) : Int), .int .u64 ((word (l1) 2 : Nat) : Int), .int .u64 ((word (l1) 3 : Nat) : Int)] 85)).alloc (.cells #[.bool true, .int .i64 x2, .int .i64 y2, .int .u64 ((word (f2) 0 : Nat) : Int), .int .u64 ((word (f2) 1 : Nat) : Int), .int .u64 ((word (f2) 2 : Nat) : Int), .int .u64 ((word (f2) 3 : Nat) : Int), .int .u64 ((word (l2) 0 : Nat) : Int), .int .u64 ((word (l2) 1 : Nat) : Int), .int .u64 ((word (l2) 2 : Nat) : Int), .int .u64 ((word (l2) 3 : Nat) : Int)] 85)).alloc (.cells #[.bool false, .int .i64 0, .int .i64 0, .int .u64 0, .int .u64 0, .int .u64 0, .int .u64 0, .int .u64 0, .int .u64 0, .int .u64 0, .int .u64 0] 85)) := (((Below.refl _ _).alloc (Nat.le_refl _) _).alloc (by simp) _).alloc (by simp; omega) _
  have HB := Lib.hid hb
  have hXA := ((Blk.new w 85 #[.bool false, .int .i64 x1, .int .i64 y1, .int .u64 ((word (f1) 0 : Nat) : Int), .int .u64 ((word (f1) 1 : Nat) : Int), .int .u64 ((word (f1) 2 : Nat) : Int), .int .u64 ((word (f1) 3 : Nat) : Int), .int .u64 ((word (l1) 0 : Nat) : Int), .int .u64 ((word (l1) 1 : Nat) : Int), .int .u64 ((word (l1) 2 : Nat) : Int), .int .u64 ((word (l1) 3 : Nat) : Int)]).alloc (.cells #[.bool true, .int .i64 x2, .int .i64 y2, .int .u64 ((word (f2) 0 : Nat) : Int), .int .u64 ((word (f2) 1 : Nat) : Int), .int .u64 ((word (f2) 2 : Nat) : Int), .int .u64 ((word (f2) 3 : Nat) : Int), .int .u64 ((word (l2) 0 : Nat) : Int), .int .u64 ((word (l2) 1 : Nat) : Int), .int .u64 ((word (l2) 2 : Nat) : Int), .int .u64 ((word (l2) 3 : Nat) : Int)] 85)).alloc (.cells #[.bool false, .int .i64 0, .int .i64 0, .int .u64 0, .int .u64 0, .int .u64 0, .int .u64 0, .int .u64 0, .int .u64 0, .int .u64 0, .int .u64 0] 85)
  have hXB := (show Blk ((w.alloc (.cells #[.bool false, .int .i64 x1, .int .i64 y1, .int .u64 ((word (f1) 0 : Nat) : Int), .int .u64 ((word (f1) 1 : Nat) : Int), .int .u64 ((word (f1) 2 : Nat) : Int), .int .u64 ((word (f1) 3 : Nat) : Int), .int .u64 ((word (l1) 0 : Nat) : Int), .int .u64 ((word (l1) 1 : Nat) : Int), .int .u64 ((word (l1) 2 : Nat) : Int), .int .u64 ((word (l1) 3 : Nat) : Int)] 85)).alloc (.cells #[.bool true, .int .i64 x2, .int .i64 y2, .int .u64 ((word (f2) 0 : Nat) : Int), .int .u64 ((word (f2) 1 : Nat) : Int), .int .u64 ((word (f2) 2 : Nat) : Int), .int .u64 ((word (f2) 3 : Nat) : Int), .int .u64 ((word (l2) 0 : Nat) : Int), .int .u64 ((word (l2) 1 : Nat) : Int), .int .u64 ((word (l2) 2 : Nat) : Int), .int .u64 ((word (l2) 3 : Nat) : Int)] 85)) (w.heap.size + 1) 85 #[.bool true, .int .i64 x2, .int .i64 y2, .int .u64 ((word (f2) 0 : Nat) : Int), .int .u64 ((word (f2) 1 : Nat) : Int), .int .u64 ((word (f2) 2 : Nat) : Int), .int .u64 ((word (f2) 3 : Nat) : Int), .int .u64 ((word (l2) 0 : Nat) : Int), .int .u64 ((word (l2) 1 : Nat) : Int), .int .u64 ((word (l2) 2 : Nat) : Int), .int .u64 ((word (l2) 3 : Nat) : Int)] from Blk.new_at (by simp)).alloc (.cells #[.bool false, .int .i64 0, .int .i64 0, .int .u64 0, .int .u64 0, .int .u64 0, .int .u64 0, .int .u64 0, .int .u64 0, .int .u64 0, .int .u64 0] 85)
  have HXR := Lib.hid (show Blk (((w.alloc (.cells #[.bool false, .int .i64 x1, .int .i64 y1, .int .u64 ((word (f1) 0 : Nat) : Int), .int .u64 ((word (f1) 1 : Nat) : Int), .int .u64 ((word (f1) 2 : Nat) : Int), .int .u64 ((word (f1) 3 : Nat) : Int), .int .u64 ((word (l1) 0 : Nat) : Int), .int .u64 ((word (l1) 1 : Nat) : Int), .int .u64 ((word (l1) 2 : Nat) : Int), .int .u64 ((word (l1) 3 : Nat) : Int)] 85)).alloc (.cells #[.bool true, .int .i64 x2, .int .i64 y2, .int .u64 ((word (f2) 0 : Nat) : Int), .int .u64 ((word (f2) 1 : Nat) : Int), .int .u64 ((word (f2) 2 : Nat) : Int), .int .u64 ((word (f2) 3 : Nat) : Int), .int .u64 ((word (l2) 0 : Nat) : Int), .int .u64 ((word (l2) 1 : Nat) : Int), .int .u64 ((word (l2) 2 : Nat) : Int), .int .u64 ((word (l2) 3 : Nat) : Int)] 85)).alloc (.cells #[.bool false, .int .i64 0, .int .i64 0, .int .u64 0, .int .u64 0, .int .u64 0, .int .u64 0, .int .u64 0, .int .u64 0, .int .u64 0, .int .u64 0] 85)) (w.heap.size + 1 + 1) 85 #[.bool false, .int .i64 0, .int .i64 0, .int .u64 0, .int .u64 0, .int .u64 0, .int .u64 0, .int .u64 0, .int .u64 0, .int .u64 0, .int .u64 0] from Blk.new_at (by simp))
  clear hb
  go_enter Tryz.func150, Tryz.ntmps150
  go_upto_region 1 with fail
  generalize (((w.alloc (.cells #[.bool false, .int .i64 x1, .int .i64 y1, .int .u64 ((word (f1) 0 : Nat) : Int), .int .u64 ((word (f1) 1 : Nat) : Int), .int .u64 ((word (f1) 2 : Nat) : Int), .int .u64 ((word (f1) 3 : Nat) : Int), .int .u64 ((word (l1) 0 : Nat) : Int), .int .u64 ((word (l1) 1 : Nat) : Int), .int .u64 ((word (l1) 2 : Nat) : Int), .int .u64 ((word (l1) 3 : Nat) : Int)] 85)).alloc (.cells #[.bool true, .int .i64 x2, .int .i64 y2, .int .u64 ((word (f2) 0 : Nat) : Int), .int .u64 ((word (f2) 1 : Nat) : Int), .int .u64 ((word (f2) 2 : Nat) : Int), .int .u64 ((word (f2) 3 : Nat) : Int), .int .u64 ((word (l2) 0 : Nat) : Int), .int .u64 ((word (l2) 1 : Nat) : Int), .int .u64 ((word (l2) 2 : Nat) : Int), .int .u64 ((word (l2) 3 : Nat) : Int)] 85)).alloc (.cells #[.bool false, .int .i64 0, .int .i64 0, .int .u64 0, .int .u64 0, .int .u64 0, .int .u64 0, .int .u64 0, .int .u64 0, .int .u64 0, .int .u64 0] 85)) = w2 at *
  obtain ⟨a0, a1, a2, a3, a4, a5, a6, a7, a8, a9, a10⟩ := ((hXA)).c11r
  have hla := (hXA).lt
  obtain ⟨b0, b1, b2, b3, b4, b5, b6, b7, b8, b9, b10⟩ := ((hXB)).c11r
  have hlb := (hXB).lt
  clear hXA hXB
  have hR := HXR.out
  obtain ⟨r0, r1, r2, r3, r4, r5, r6, r7, r8, r9, r10⟩ := ((hR)).c11r
  obtain ⟨q0, q1, q2, q3, q4, q5, q6, q7, q8, q9, q10⟩ := ((hR)).f11r
  have hlr := (hR).lt
  clear hR
  go_wp2
  refine bodyPost_ret (ret_sum Tryz.results150 rfl (Blk.store11 HXR.out)) rfl ⟨by rw [HV.out]; rfl, below_set11 HB.out (by omega)⟩
theorem feither_go (a b : SumS) (w : World) :
    Calls Tryz.prog 150 #[sumV a, sumV b] w fun e w' => e = .returned (sumV (eitherF a b)) ∧ Below w.heap.size w w' := by
  obtain ⟨h1, x1, y1, f1, l1⟩ := a
  obtain ⟨h2, x2, y2, f2, l2⟩ := b
  cases h1 with
  | true => exact either_no1 x1 y1 x2 y2 f1 l1 f2 l2 h2 w
  | false =>
    cases h2 with
    | true => exact either_no2 x1 y1 x2 y2 f1 l1 f2 l2 w
    | false => exact either_words x1 y1 x2 y2 f1 l1 f2 l2 w
set_option maxHeartbeats 2000000 in
theorem rep_nil1 (h1 : Bool) (x1 y1 : Int) (f1 l1 : Nat → Bool) (lo hi : Int) (w : World) (hh : hi = 0) :
    Calls Tryz.prog 151 #[.agg #[.bool h1, .int .i64 x1, .int .i64 y1, .int .u64 ((word (f1) 0 : Nat) : Int), .int .u64 ((word (f1) 1 : Nat) : Int), .int .u64 ((word (f1) 2 : Nat) : Int), .int .u64 ((word (f1) 3 : Nat) : Int), .int .u64 ((word (l1) 0 : Nat) : Int), .int .u64 ((word (l1) 1 : Nat) : Int), .int .u64 ((word (l1) 2 : Nat) : Int), .int .u64 ((word (l1) 3 : Nat) : Int)], .int .i64 lo, .int .i64 hi] w fun e w' => e = .returned (sumV (repeatedF ⟨h1, x1, y1, f1, l1⟩ lo hi)) ∧ Below w.heap.size w w' := by
  have HV := Lib.hid (show repeatedF ⟨h1, x1, y1, f1, l1⟩ lo hi = fnilF by unfold repeatedF; rw [if_pos (.inl hh)])
  have e1 : (hi == 0) = true := by rw [hh]; rfl
  clear hh
  have hb : Below w.heap.size w ((w.alloc (.cells #[.bool h1, .int .i64 x1, .int .i64 y1, .int .u64 ((word (f1) 0 : Nat) : Int), .int .u64 ((word (f1) 1 : Nat) : Int), .int .u64 ((word (f1) 2 : Nat) : Int), .int .u64 ((word (f1) 3 : Nat) : Int), .int .u64 ((word (l1) 0 : Nat) : Int), .int .u64 ((word (l1) 1 : Nat) : Int), .int .u64 ((word (l1) 2 : Nat) : Int), .int .u64 ((word (l1) 3 : Nat) : Int)] 85)).alloc (.cells #[.bool false, .int .i64 0, .int .i64 0, .int .u64 0, .int .u64 0, .int .u64 0, .int .u64 0, .int .u64 0, .int .u64 0, .int .u64 0, .int .u64 0] 85)) := ((Below.refl _ _).alloc (Nat.le_refl _) _).alloc (by simp) _
  have HB := Lib.hid hb
  have hXA := (Blk.new w 85 #[.bool h1, .int .i64 x1, .int .i64 y1, .int .u64 ((word (f1) 0 : Nat) : Int), .int .u64 ((word (f1) 1 : Nat) : Int), .int .u64 ((word (f1) 2 : Nat) : Int), .int .u64 ((word (f1) 3 : Nat) : Int), .int .u64 ((word (l1) 0 : Nat) : Int), .int .u64 ((word (l1) 1 : Nat) : Int), .int .u64 ((word (l1) 2 : Nat) : Int), .int .u64 ((word (l1) 3 : Nat) : Int)]).alloc (.cells #[.bool false, .int .i64 0, .int .i64 0, .int .u64 0, .int .u64 0, .int .u64 0, .int .u64 0, .int .u64 0, .int .u64 0, .int .u64 0, .int .u64 0] 85)
  have HXA := Lib.hid hXA
  have HXR := Lib.hid (show Blk ((w.alloc (.cells #[.bool h1, .int .i64 x1, .int .i64 y1, .int .u64 ((word (f1) 0 : Nat) : Int), .int .u64 ((word (f1) 1 : Nat) : Int), .int .u64 ((word (f1) 2 : Nat) : Int), .int .u64 ((word (f1) 3 : Nat) : Int), .int .u64 ((word (l1) 0 : Nat) : Int), .int .u64 ((word (l1) 1 : Nat) : Int), .int .u64 ((word (l1) 2 : Nat) : Int), .int .u64 ((word (l1) 3 : Nat) : Int)] 85)).alloc (.cells #[.bool false, .int .i64 0, .int .i64 0, .int .u64 0, .int .u64 0, .int .u64 0, .int .u64 0, .int .u64 0, .int .u64 0, .int .u64 0, .int .u64 0] 85)) (w.heap.size + 1) 85 #[.bool false, .int .i64 0, .int .i64 0, .int .u64 0, .int .u64 0, .int .u64 0, .int .u64 0, .int .u64 0, .int .u64 0, .int .u64 0, .int .u64 0] from Blk.new_at (by simp))
  clear hb
  go_enter Tryz.func151, Tryz.ntmps151
  go_upto_region 1 with fail
  generalize ((w.alloc (.cells #[.bool h1, .int .i64 x1, .int .i64 y1, .int .u64 ((word (f1) 0 : Nat) : Int), .int .u64 ((word (f1) 1 : Nat) : Int), .int .u64 ((word (f1) 2 : Nat) : Int), .int .u64 ((word (f1) 3 : Nat) : Int), .int .u64 ((word (l1) 0 : Nat) : Int), .int .u64 ((word (l1) 1 : Nat) : Int), .int .u64 ((word (l1) 2 : Nat) : Int), .int .u64 ((word (l1) 3 : Nat) : Int)] 85)).alloc (.cells #[.bool false, .int .i64 0, .int .i64 0, .int .u64 0, .int .u64 0, .int .u64 0, .int .u64 0, .int .u64 0, .int .u64 0, .int .u64 0, .int .u64 0] 85)) = w2 at *
  obtain ⟨a0, a1, a2, a3, a4, a5, a6, a7, a8, a9, a10⟩ := ((hXA)).c11r
  have hla := (hXA).lt
  clear hXA
  have hR := HXR.out
  obtain ⟨r0, r1, r2, r3, r4, r5, r6, r7, r8, r9, r10⟩ := ((hR)).c11r
  obtain ⟨q0, q1, q2, q3, q4, q5, q6, q7, q8, q9, q10⟩ := ((hR)).f11r
  have hlr := (hR).lt
  clear hR
  go_wp2
  refine bodyPost_ret (ret_sum Tryz.results151 rfl (Blk.store11 HXR.out)) rfl ⟨by rw [HV.out, fnil_val], below_set11 HB.out (by omega)⟩
set_option maxHeartbeats 2000000 in
theorem rep_nil2 (x1 y1 : Int) (f1 l1 : Nat → Bool) (lo hi : Int) (w : World) (hh : hi ≠ 0) (h0 : lo = 0) :
    Calls Tryz.prog 151 #[.agg #[.bool true, .int .i64 x1, .int .i64 y1, .int .u64 ((word (f1) 0 : Nat) : Int), .int .u64 ((word (f1) 1 : Nat) : Int), .int .u64 ((word (f1) 2 : Nat) : Int), .int .u64 ((word (f1) 3 : Nat) : Int), .int .u64 ((word (l1) 0 : Nat) : Int), .int .u64 ((word (l1) 1 : Nat) : Int), .int .u64 ((word (l1) 2 : Nat) : Int), .int .u64 ((word (l1) 3 : Nat) : Int)], .int .i64 lo, .int .i64 hi] w fun e w' => e = .returned (sumV (repeatedF ⟨true, x1, y1, f1, l1⟩ lo hi)) ∧ Below w.heap.size w w' := by
  have HV := Lib.hid (show repeatedF ⟨true, x1, y1, f1, l1⟩ lo hi = fnilF by unfold repeatedF; rw [if_pos (.inr ⟨rfl, h0⟩)])
  have e1 : (hi == 0) = false := by rw [beq_eq_false_iff_ne]; exact hh
  have e2 : (lo == 0) = true := by rw [h0]; rfl
  clear hh h0
  have hb : Below w.heap.size w ((w.alloc (.cells #[.bool true, .int .i64 x1, .int .i64 y1, .int .u64 ((word (f1) 0 : Nat) : Int), .int .u64 ((word (f1) 1 : Nat) : Int), .int .u64 ((word (f1) 2 : Nat) : Int), .int .u64 ((word (f1) 3 : Nat) : Int), .int .u64 ((word (l1) 0 : Nat) : Int), .int .u64 ((word (l1) 1 : Nat) : Int), .int .u64 ((word (l1) 2 : Nat) : Int), .int .u64 ((word (l1) 3 : Nat) : Int)] 85)).alloc (.cells #[.bool false, .int .i64 0, .int .i64 0, .int .u64 0, .int .u64 0, .int .u64 0, .int .u64 0, .int .u64 0, .int .u64 0, .int .u64 0, .int .u64 0] 85)) := ((Below.refl _ _).alloc (Nat.le_refl _) _).alloc (by simp) _
  have HB := Lib.hid hb
  have hXA := (Blk.new w 85 #[.bool true, .int .i64 x1, .int .i64 y1, .int .u64 ((word (f1) 0 : Nat) : Int), .int .u64 ((word (f1) 1 : Nat) : Int), .int .u64 ((word (f1) 2 : Nat) : Int), .int .u64 ((word (f1) 3 : Nat) : Int), .int .u64 ((word (l1) 0 : Nat) : Int), .int .u64 ((word (l1) 1 : Nat) : Int), .int .u64 ((word (l1) 2 : Nat) : Int), .int .u64 ((word (l1) 3 : Nat) : Int)]).alloc (.cells #[.bool false, .int .i64 0, .int .i64 0, .int .u64 0, .int .u64 0, .int .u64 0, .int .u64 0, .int .u64 0, .int .u64 0, .int .u64 0, .int .u64 0] 85)
  have HXA := Lib.hid hXA
  have HXR := Lib.hid (show Blk ((w.alloc (.cells #[.bool true, .int .i64 x1, .int .i64 y1, .int .u64 ((word (f1) 0 : Nat) : Int), .int .u64 ((word (f1) 1 : Nat) : Int), .int .u64 ((word (f1) 2 : Nat) : Int), .int .u64 ((word (f1) 3 : Nat) : Int), .int .u64 ((word (l1) 0 : Nat) : Int), .int .u64 ((word (l1) 1 : Nat) : Int), .int .u64 ((word (l1) 2 : Nat) : Int), .int .u64 ((word (l1) 3 : Nat) : Int)] 85)).alloc (.cells #[.bool false, .int .i64 0, .int .i64 0, .int .u64 0, .int .u64 0, .int .u64 0, .int .u64 0, .int .u64 0, .int .u64 0, .int .u64 0, .int .u64 0] 85)) (w.heap.size + 1) 85 #[.bool false, .int .i64 0, .int .i64 0, .int .u64 0, .int .u64 0, .int .u64 0, .int .u64 0, .int .u64 0, .int .u64 0, .int .u64 0, .int .u64 0] from Blk.new_at (by simp))
  clear hb
  go_enter Tryz.func151, Tryz.ntmps151
  go_upto_region 1 with fail
  generalize ((w.alloc (.cells #[.bool true, .int .i64 x1, .int .i64 y1, .int .u64 ((word (f1) 0 : Nat) : Int), .int .u64 ((word (f1) 1 : Nat) : Int), .int .u64 ((word (f1) 2 : Nat) : Int), .int .u64 ((word (f1) 3 : Nat) : Int), .int .u64 ((word (l1) 0 : Nat) : Int), .int .u64 ((word (l1) 1 : Nat) : Int), .int .u64 ((word (l1) 2 : Nat) : Int), .int .u64 ((word (l1) 3 : Nat) : Int)] 85)).alloc (.cells #[.bool false, .int .i64 0, .int .i64 0, .int .u64 0, .int .u64 0, .int .u64 0, .int .u64 0, .int .u64 0, .int .u64 0, .int .u64 0, .int .u64 0] 85)) = w2 at *
  obtain ⟨a0, a1, a2, a3, a4, a5, a6, a7, a8, a9, a10⟩ := ((hXA)).c11r
  have hla := (hXA).lt
  clear hXA
  have hR := HXR.out
  obtain ⟨r0, r1, r2, r3, r4, r5, r6, r7, r8, r9, r10⟩ := ((hR)).c11r
  obtain ⟨q0, q1, q2, q3, q4, q5, q6, q7, q8, q9, q10⟩ := ((hR)).f11r
  have hlr := (hR).lt
  clear hR
  go_wp2
  refine bodyPost_ret (ret_sum Tryz.results151 rfl (Blk.store11 HXR.out)) rfl ⟨by rw [HV.out, fnil_val], below_set11 HB.out (by omega)⟩
set_option maxHeartbeats 2000000 in
theorem rep_no (x1 y1 : Int) (f1 l1 : Nat → Bool) (lo hi : Int) (w : World) (hh : hi ≠ 0) (h0 : lo ≠ 0) :
    Calls Tryz.prog 151 #[.agg #[.bool true, .int .i64 x1, .int .i64 y1, .int .u64 ((word (f1) 0 : Nat) : Int), .int .u64 ((word (f1) 1 : Nat) : Int), .int .u64 ((word (f1) 2 : Nat) : Int), .int .u64 ((word (f1) 3 : Nat) : Int), .int .u64 ((word (l1) 0 : Nat) : Int), .int .u64 ((word (l1) 1 : Nat) : Int), .int .u64 ((word (l1) 2 : Nat) : Int), .int .u64 ((word (l1) 3 : Nat) : Int)], .int .i64 lo, .int .i64 hi] w fun e w' => e = .returned (sumV (repeatedF ⟨true, x1, y1, f1, l1⟩ lo hi)) ∧ Below w.heap.size w w' := by
  have HV := Lib.hid (show repeatedF ⟨true, x1, y1, f1, l1⟩ lo hi = nothingF by unfold repeatedF; rw [if_neg (by simp [hh, h0]), if_pos rfl])
  have e1 : (hi == 0) = false := by rw [beq_eq_false_iff_ne]; exact hh
  have e2 : (lo == 0) = false := by rw [beq_eq_false_iff_ne]; exact h0
  clear hh h0
  have hb : Below w.heap.size w ((w.alloc (.cells #[.bool true, .int .i64 x1, .int .i64 y1, .int .u64 ((word (f1) 0 : Nat) : Int), .int .u64 ((word (f1) 1 : Nat) : Int), .int .u64 ((word (f1) 2 : Nat) : Int), .int .u64 ((word (f1) 3 : Nat) : Int), .int .u64 ((word (l1) 0 : Nat) : Int), .int .u64 ((word (l1) 1 : Nat) : Int), .int .u64 ((word (l1) 2 : Nat) : Int), .int .u64 ((word (l1) 3 : Nat) : Int)] 85)).alloc (.cells #[.bool false, .int .i64 0, .int .i64 0, .int .u64 0, .int .u64 0, .int .u64 0, .int .u64 0, .int .u64 0, .int .u64 0, .int .u64 0, .int .u64 0] 85)) := ((Below.refl _ _).alloc (Nat.le_refl _) _).alloc (by simp) _
  have HB := Lib.hid hb
  have hXA := (Blk.new w 85 #[.bool true, .int .i64 x1, .int .i64 y1, .int .u64 ((word (f1) 0 : Nat) : Int), .int .u64 ((word (f1) 1 : Nat) : Int), .int .u64 ((word (f1) 2 : Nat) : Int), .int .u64 ((word (f1) 3 : Nat) : Int), .int .u64 ((word (l1) 0 : Nat) : Int), .int .u64 ((word (l1) 1 : Nat) : Int), .int .u64 ((word (l1) 2 : Nat) : Int), .int .u64 ((word (l1) 3 : Nat) : Int)]).alloc (.cells #[.bool false, .int .i64 0, .int .i64 0, .int .u64 0, .int .u64 0, .int .u64 0, .int .u64 0, .int .u64 0, .int .u64 0, .int .u64 0, .int .u64 0] 85)
  have HXA := Lib.hid hXA
  have HXR := Lib.hid (show Blk ((w.alloc (.cells #[.bool true, .int .i64 x1, .int .i64 y1, .int .u64 ((word (f1) 0 : Nat) : Int), .int .u64 ((word (f1) 1 : Nat) : Int), .int .u64 ((word (f1) 2 : Nat) : Int), .int .u64 ((word (f1) 3 : Nat) : Int), .int .u64 ((word (l1) 0 : Nat) : Int), .int .u64 ((word (l1) 1 : Nat) : Int), .int .u64 ((word (l1) 2 : Nat) : Int), .int .u64 ((word (l1) 3 : Nat) : Int)] 85)).alloc (.cells #[.bool false, .int .i64 0, .int .i64 0, .int .u64 0, .int .u64 0, .int .u64 0, .int .u64 0, .int .u64 0, .int .u64 0, .int .u64 0, .int .u64 0] 85)) (w.heap.size + 1) 85 #[.bool false, .int .i64 0, .int .i64 0, .int .u64 0, .int .u64 0, .int .u64 0, .int .u64 0, .int .u64 0, .int .u64 0, .int .u64 0, .int .u64 0] from Blk.new_at (by simp))
  clear hb
  go_enter Tryz.func151, Tryz.ntmps151
  go_upto_region 1 with fail
  generalize ((w.alloc (.cells #[.bool true, .int .i64 x1, .int .i64 y1, .int .u64 ((word (f1) 0 : Nat) : Int), .int .u64 ((word (f1) 1 : Nat) : Int), .int .u64 ((word (f1) 2 : Nat) : Int), .int .u64 ((word (f1) 3 : Nat) : Int), .int .u64 ((word (l1) 0 : Nat) : Int), .int .u64 ((word (l1) 1 : Nat) : Int), .int .u64 ((word (l1) 2 : Nat) : Int), .int .u64 ((word (l1) 3 : Nat) : Int)] 85)).alloc (.cells #[.bool false, .int .i64 0, .int .i64 0, .int .u64 0, .int .u64 0, .int .u64 0, .int .u64 0, .int .u64 0, .int .u64 0, .int .u64 0, .int .u64 0] 85)) = w2 at *
  obtain ⟨a0, a1, a2, a3, a4, a5, a6, a7, a8, a9, a10⟩ := ((hXA)).c11r
  have hla := (hXA).lt
  clear hXA
  go_wp2_with fail
  refine (nothing_go _).mono ?_
  rintro e w3 ⟨rfl, hb3⟩
  have hR := HXR.out.below hb3 HXR.out.lt
  have HB3 := Lib.hid (HB.out.trans (hb3.mono HB.out.size))
  have HR := Lib.hid hR
  obtain ⟨r0, r1, r2, r3, r4, r5, r6, r7, r8, r9, r10⟩ := ((hR)).c11r
  obtain ⟨q0, q1, q2, q3, q4, q5, q6, q7, q8, q9, q10⟩ := ((hR)).f11r
  have hlr := (hR).lt
  clear hR hb3
  rw [nothing_val]
  dsimp only
  go_wp2
  refine bodyPost_ret (ret_sum Tryz.results151 rfl (Blk.store11 HR.out)) rfl ⟨by rw [HV.out, nothing_val], below_set11 HB3.out (by omega)⟩
set_option maxHeartbeats 4000000 in
theorem rep_yes (x1 y1 : Int) (f1 l1 : Nat → Bool) (lo hi : Int) (w : World) (hh : hi ≠ 0) (ha : SumOk ⟨false, x1, y1, f1, l1⟩) (h0 : 0 ≤ lo ∧ lo ≤ endF) (h1 : 0 ≤ hi ∧ hi ≤ endF) :
    Calls Tryz.prog 151 #[.agg #[.bool false, .int .i64 x1, .int .i64 y1, .int .u64 ((word (f1) 0 : Nat) : Int), .int .u64 ((word (f1) 1 : Nat) : Int), .int .u64 ((word (f1) 2 : Nat) : Int), .int .u64 ((word (f1) 3 : Nat) : Int), .int .u64 ((word (l1) 0 : Nat) : Int), .int .u64 ((word (l1) 1 : Nat) : Int), .int .u64 ((word (l1) 2 : Nat) : Int), .int .u64 ((word (l1) 3 : Nat) : Int)], .int .i64 lo, .int .i64 hi] w fun e w' => e = .returned (sumV (repeatedF ⟨false, x1, y1, f1, l1⟩ lo hi)) ∧ Below w.heap.size w w' := by
  have HV := Lib.hid (show repeatedF ⟨false, x1, y1, f1, l1⟩ lo hi = ⟨false, timF lo x1, timF hi y1, f1, l1⟩ by unfold repeatedF; rw [if_neg (by simp [hh]), if_neg (by simp)])
  have e1 : (hi == 0) = false := by rw [beq_eq_false_iff_ne]; exact hh
  have p1 := ha.short rfl
  have p2 := ha.long rfl
  have te : topI ≤ endF := by decide
  dsimp only at p1 p2
  have hx : 0 ≤ x1 ∧ x1 ≤ endF := by omega
  have hy : 0 ≤ y1 ∧ y1 ≤ endF := by omega
  clear hh p1 p2 te ha
  have hb : Below w.heap.size w ((w.alloc (.cells #[.bool false, .int .i64 x1, .int .i64 y1, .int .u64 ((word (f1) 0 : Nat) : Int), .int .u64 ((word (f1) 1 : Nat) : Int), .int .u64 ((word (f1) 2 : Nat) : Int), .int .u64 ((word (f1) 3 : Nat) : Int), .int .u64 ((word (l1) 0 : Nat) : Int), .int .u64 ((word (l1) 1 : Nat) : Int), .int .u64 ((word (l1) 2 : Nat) : Int), .int .u64 ((word (l1) 3 : Nat) : Int)] 85)).alloc (.cells #[.bool false, .int .i64 0, .int .i64 0, .int .u64 0, .int .u64 0, .int .u64 0, .int .u64 0, .int .u64 0, .int .u64 0, .int .u64 0, .int .u64 0] 85)) := ((Below.refl _ _).alloc (Nat.le_refl _) _).alloc (by simp) _
  have HB := Lib.hid hb
  have hXA := (Blk.new w 85 #[.bool false, .int .i64 x1, .int .i64 y1, .int .u64 ((word (f1) 0 : Nat) : Int), .int .u64 ((word (f1) 1 : Nat) : Int), .int .u64 ((word (f1) 2 : Nat) : Int), .int .u64 ((word (f1) 3 : Nat) : Int), .int .u64 ((word (l1) 0 : Nat) : Int), .int .u64 ((word (l1) 1 : Nat) : Int), .int .u64 ((word (l1) 2 : Nat) : Int), .int .u64 ((word (l1) 3 : Nat) : Int)]).alloc (.cells #[.bool false, .int .i64 0, .int .i64 0, .int .u64 0, .int .u64 0, .int .u64 0, .int .u64 0, .int .u64 0, .int .u64 0, .int .u64 0, .int .u64 0] 85)
  have HXA := Lib.hid hXA
  have HXR := Lib.hid (show Blk ((w.alloc (.cells #[.bool false, .int .i64 x1, .int .i64 y1, .int .u64 ((word (f1) 0 : Nat) : Int), .int .u64 ((word (f1) 1 : Nat) : Int), .int .u64 ((word (f1) 2 : Nat) : Int), .int .u64 ((word (f1) 3 : Nat) : Int), .int .u64 ((word (l1) 0 : Nat) : Int), .int .u64 ((word (l1) 1 : Nat) : Int), .int .u64 ((word (l1) 2 : Nat) : Int), .int .u64 ((word (l1) 3 : Nat) : Int)] 85)).alloc (.cells #[.bool false, .int .i64 0, .int .i64 0, .int .u64 0, .int .u64 0, .int .u64 0, .int .u64 0, .int .u64 0, .int .u64 0, .int .u64 0, .int .u64 0] 85)) (w.heap.size + 1) 85 #[.bool false, .int .i64 0, .int .i64 0, .int .u64 0, .int .u64 0, .int .u64 0, .int .u64 0, .int .u64 0, .int .u64 0, .int .u64 0, .int .u64 0] from Blk.new_at (by simp))
  clear hb
  go_enter Tryz.func151, Tryz.ntmps151
  go_upto_region 1 with fail
  generalize ((w.alloc (.cells #[.bool false, .int .i64 x1, .int .i64 y1, .int .u64 ((word (f1) 0 : Nat) : Int), .int .u64 ((word (f1) 1 : Nat) : Int), .int .u64 ((word (f1) 2 : Nat) : Int), .int .u64 ((word (f1) 3 : Nat) : Int), .int .u64 ((word (l1) 0 : Nat) : Int), .int .u64 ((word (l1) 1 : Nat) : Int), .int .u64 ((word (l1) 2 : Nat) : Int), .int .u64 ((word (l1) 3 : Nat) : Int)] 85)).alloc (.cells #[.bool false, .int .i64 0, .int .i64 0, .int .u64 0, .int .u64 0, .int .u64 0, .int .u64 0, .int .u64 0, .int .u64 0, .int .u64 0, .int .u64 0] 85)) = w2 at *
  obtain ⟨a0, a1, a2, a3, a4, a5, a6, a7, a8, a9, a10⟩ := ((hXA)).c11r
  have hla := (hXA).lt
  clear hXA
  go_wp2_with fail
  refine (ftimes_go _ _ _ h0 hx).mono ?_
  rintro e w3 ⟨rfl, hb3⟩
  have hA3 := HXA.out.below hb3 HXA.out.lt
  have HA4 := Lib.hid (hA3.set_ 1 (.int .i64 (timF lo x1)))
  have HR4 := Lib.hid ((HXR.out.below hb3 HXR.out.lt).far (p := ⟨w.heap.size, 1, none⟩) (by show w.heap.size + 1 ≠ w.heap.size; omega) (.int .i64 (timF lo x1)))
  have HB4 := Lib.hid ((HB.out.trans (hb3.mono HB.out.size)).setCell (p := ⟨w.heap.size, 1, none⟩) (Nat.le_refl _) (.int .i64 (timF lo x1)))
  clear a0 a1 a2 a3 a4 a5 a6 a7 a8 a9 a10
  obtain ⟨c0, c1, c2, c3, c4, c5, c6, c7, c8, c9, c10⟩ := ((hA3)).c11r
  obtain ⟨d0, d1, d2, d3, d4, d5, d6, d7, d8, d9, d10⟩ := ((hA3)).f11r
  have hlc := (hA3).lt
  clear hA3 hb3 HXA HXR HB hla
  dsimp only
  go_upto_region 6 with fail
  clear c0 c1 c2 c3 c4 c5 c6 c7 c8 c9 c10
  clear d0 d1 d2 d3 d4 d5 d6 d7 d8 d9 d10
  clear hlc
  generalize w3.setCell ⟨w.heap.size, 1, none⟩ (.int .i64 (timF lo x1)) = w4 at *
  have a2 := HA4.out.cell 2
  have hla := HA4.out.lt
  simp only [List.setIfInBounds_toArray, List.set_cons_succ, List.set_cons_zero, List.getElem?_toArray, List.getElem?_cons_zero, List.getElem?_cons_succ] at a2
  go_wp2_with fail
  refine (ftimes_go _ _ _ h1 hy).mono ?_
  rintro e w5 ⟨rfl, hb5⟩
  have hA5 := HA4.out.below hb5 HA4.out.lt
  have HA6 := Lib.hid (hA5.set_ 2 (.int .i64 (timF hi y1)))
  have HR6 := Lib.hid ((HR4.out.below hb5 HR4.out.lt).far (p := ⟨w.heap.size, 2, none⟩) (by show w.heap.size + 1 ≠ w.heap.size; omega) (.int .i64 (timF hi y1)))
  have HB6 := Lib.hid ((HB4.out.trans (hb5.mono HB4.out.size)).setCell (p := ⟨w.heap.size, 2, none⟩) (Nat.le_refl _) (.int .i64 (timF hi y1)))
  have c2 := hA5.cell 2
  have d2 := hA5.frozen 2
  have hlc := hA5.lt
  simp only [List.setIfInBounds_toArray, List.set_cons_succ, List.set_cons_zero, List.getElem?_toArray, List.getElem?_cons_zero, List.getElem?_cons_succ] at c2
  clear hA5 hb5 a2 hla HA4 HR4 HB4
  dsimp only
  go_upto_region 7 with fail
  clear c2 d2 hlc
  generalize w5.setCell ⟨w.heap.size, 2, none⟩ (.int .i64 (timF hi y1)) = w6 at *
  have hA6 := HA6.out
  simp only [List.setIfInBounds_toArray, List.set_cons_succ, List.set_cons_zero] at hA6
  obtain ⟨a0, a1, a2, a3, a4, a5, a6, a7, a8, a9, a10⟩ := ((hA6)).c11r
  have hla := (hA6).lt
  obtain ⟨r0, r1, r2, r3, r4, r5, r6, r7, r8, r9, r10⟩ := ((HR6.out)).c11r
  obtain ⟨q0, q1, q2, q3, q4, q5, q6, q7, q8, q9, q10⟩ := ((HR6.out)).f11r
  have hlr := (HR6.out).lt
  clear hA6
  go_wp2
  refine bodyPost_ret (ret_sum Tryz.results151 rfl (Blk.store11 HR6.out)) rfl ⟨by rw [HV.out]; rfl, below_set11 HB6.out (by omega)⟩
theorem frepeated_go (a : SumS) (lo hi : Int) (w : World) (ha : SumOk a) (h0 : 0 ≤ lo ∧ lo ≤ endF) (h1 : 0 ≤ hi ∧ hi ≤ endF) :
    Calls Tryz.prog 151 #[sumV a, .int .i64 lo, .int .i64 hi] w fun e w' => e = .returned (sumV (repeatedF a lo hi)) ∧ Below w.heap.size w w' := by
  obtain ⟨hl, x1, y1, f1, l1⟩ := a
  by_cases hh : hi = 0
  · exact rep_nil1 hl x1 y1 f1 l1 lo hi w hh
  cases hl with
  | false => exact rep_yes x1 y1 f1 l1 lo hi w hh ha h0 h1
  | true =>
    by_cases hz : lo = 0
    · exact rep_nil2 x1 y1 f1 l1 lo hi w hh hz
    · exact rep_no x1 y1 f1 l1 lo hi w hh hz
end Go.Proofs.YtfekpkelmliejaaGreatDoor
namespace Go.Proofs.YtfekpkelmliejaaGreatDoor
open Go.RowKit
set_option linter.unusedSimpArgs false
set_option linter.unusedVariables false
set_option maxRecDepth 100000

theorem far11 {W : World} {g b : Nat} {t : TypeId} {cs : Array Value} {v0 v1 v2 v3 v4 v5 v6 v7 v8 v9 v10 : Value} (h : Blk W b t cs) (hg : b ≠ g) : Blk (((((((((((W.setCell ⟨g, 0, none⟩ v0).setCell ⟨g, 1, none⟩ v1).setCell ⟨g, 2, none⟩ v2).setCell ⟨g, 3, none⟩ v3).setCell ⟨g, 4, none⟩ v4).setCell ⟨g, 5, none⟩ v5).setCell ⟨g, 6, none⟩ v6).setCell ⟨g, 7, none⟩ v7).setCell ⟨g, 8, none⟩ v8).setCell ⟨g, 9, none⟩ v9).setCell ⟨g, 10, none⟩ v10) b t cs :=
  ((((((((((h.far (p := ⟨g, 0, none⟩) hg v0).far (p := ⟨g, 1, none⟩) hg v1).far (p := ⟨g, 2, none⟩) hg v2).far (p := ⟨g, 3, none⟩) hg v3).far (p := ⟨g, 4, none⟩) hg v4).far (p := ⟨g, 5, none⟩) hg v5).far (p := ⟨g, 6, none⟩) hg v6).far (p := ⟨g, 7, none⟩) hg v7).far (p := ⟨g, 8, none⟩) hg v8).far (p := ⟨g, 9, none⟩) hg v9).far (p := ⟨g, 10, none⟩) hg v10
theorem sums_get {F : Trees} {k : Nat} {z : Nd} (h : F.list[k]? = some z) : F.sums[k]? = some z.sum := by rw [F.sums_list, List.getElem?_map, h]; rfl
theorem sums_len (F : Trees) : F.sums.length = F.len := by rw [F.sums_list, List.length_map, F.len_list]
set_option maxHeartbeats 8000000 in
theorem ffold_go (g : FuncId) (f : SumS → SumS → SumS) (F : Trees) (P : Nat → Prop) (B : Option Addr) (cap : Nat) (s0 : SumS) (w : World) (h0 : SumOk s0) (hl : F.len ≤ 140737488355328) (ht : TreesAt w P F B)
    (hf : ∀ a b w', SumOk a → SumOk b → Calls Tryz.prog g #[sumV a, sumV b] w' fun e w'' => e = .returned (sumV (f a b)) ∧ Below w'.heap.size w' w'') (hk : ∀ a b, SumOk a → SumOk b → SumOk (f a b))
    (hG : ∀ (i : Nat) (z : Nd) (C : Option Addr) (capc : Nat) (w' : World), F.list[i]? = some z → TreesAt w' P z.kids C → Calls Tryz.prog 105 #[ndV z C capc] w' fun e w'' => e = .returned (sumV z.sum) ∧ Below w'.heap.size w' w'')
    (hs : ∀ s ∈ F.sums, SumOk s) (henter : ∀ args w, (callFunc g args).run Tryz.prog w = .ok (.enter g args) w) :
    Calls Tryz.prog 148 #[sumV s0, .func (.func g) #[] #[], .slice B F.len cap] w fun e w' => e = .returned (sumV (F.sums.foldl f s0)) ∧ Below w.heap.size w w' := by
  have HT := Lib.hid ht
  have HG := Lib.hid hG
  have HF := Lib.hid hf
  have HK := Lib.hid hk
  have HS := Lib.hid hs
  have hb1 : Below w.heap.size w ((w.alloc (.cells (sumA s0) 85)).alloc (.cells #[.bool false, .int .i64 0, .int .i64 0, .int .u64 0, .int .u64 0, .int .u64 0, .int .u64 0, .int .u64 0, .int .u64 0, .int .u64 0, .int .u64 0] 85)) := ((Below.refl _ _).alloc (Nat.le_refl _) _).alloc (by simp) _
  have HI := Lib.hid (show Blk ((w.alloc (.cells (sumA s0) 85)).alloc (.cells #[.bool false, .int .i64 0, .int .i64 0, .int .u64 0, .int .u64 0, .int .u64 0, .int .u64 0, .int .u64 0, .int .u64 0, .int .u64 0, .int .u64 0] 85)) w.heap.size 85 (sumA s0) ∧ Blk ((w.alloc (.cells (sumA s0) 85)).alloc (.cells #[.bool false, .int .i64 0, .int .i64 0, .int .u64 0, .int .u64 0, .int .u64 0, .int .u64 0, .int .u64 0, .int .u64 0, .int .u64 0, .int .u64 0] 85)) (w.heap.size + 1) 85 #[.bool false, .int .i64 0, .int .i64 0, .int .u64 0, .int .u64 0, .int .u64 0, .int .u64 0, .int .u64 0, .int .u64 0, .int .u64 0, .int .u64 0] ∧ Below w.heap.size w ((w.alloc (.cells (sumA s0) 85)).alloc (.cells #[.bool false, .int .i64 0, .int .i64 0, .int .u64 0, .int .u64 0, .int .u64 0, .int .u64 0, .int .u64 0, .int .u64 0, .int .u64 0, .int .u64 0] 85)) ∧ SumOk s0 from
    ⟨(Blk.new w 85 (sumA s0)).alloc _, Blk.new_at (by simp), hb1, h0⟩)
  clear ht hG hf hk hs h0 hb1
  unfold sumV
  unfold sumA at *
  go_enter Tryz.func148, Tryz.ntmps148
  go_wp2
  go_loopw [8, 11] (fun pv i wr => ∃ (k : Nat) (s : SumS), i = .int .i64 (k : Int) ∧ k ≤ F.len ∧ Hid ((F.sums.take k).foldl f s0 = s) ∧ Hid (Blk wr w.heap.size 85 #[.bool s.hollow, .int .i64 s.short, .int .i64 s.long, .int .u64 ((word (s.first) 0 : Nat) : Int), .int .u64 ((word (s.first) 1 : Nat) : Int), .int .u64 ((word (s.first) 2 : Nat) : Int), .int .u64 ((word (s.first) 3 : Nat) : Int), .int .u64 ((word (s.last) 0 : Nat) : Int), .int .u64 ((word (s.last) 1 : Nat) : Int), .int .u64 ((word (s.last) 2 : Nat) : Int), .int .u64 ((word (s.last) 3 : Nat) : Int)] ∧ Blk wr (w.heap.size + 1) 85 #[.bool false, .int .i64 0, .int .i64 0, .int .u64 0, .int .u64 0, .int .u64 0, .int .u64 0, .int .u64 0, .int .u64 0, .int .u64 0, .int .u64 0] ∧ Below w.heap.size w wr ∧ SumOk s)) (fun _ i _ => F.len - (intOf i).toNat)
  case atStart => exact ⟨0, s0, rfl, Nat.zero_le _, Lib.hid rfl, HI⟩
  case round =>
    clear HI
    obtain ⟨k, s, rfl, hk, HE, HR⟩ := hrel
    by_cases hlt : k < F.len
    · obtain ⟨z, hz⟩ : ∃ z, F.list[k]? = some z := ⟨_, List.getElem?_eq_getElem (by rw [Trees.len_list]; exact hlt)⟩
      obtain ⟨b, o, C, capc, rfl, _, _, ⟨c0, c1, c2, c3, c4, c5, c6, c7⟩, hkz⟩ := (HT.out.below HR.out.2.2.1).get hz
      have hdl : (k : Int) < (F.len : Int) := by omega
      have hbA : Below wr.heap.size wr (wr.alloc (.cells #[.int .i64 z.kind, .int .u64 ((word (z.set.testBit) 0 : Nat) : Int), .int .u64 ((word (z.set.testBit) 1 : Nat) : Int), .int .u64 ((word (z.set.testBit) 2 : Nat) : Int), .int .u64 ((word (z.set.testBit) 3 : Nat) : Int), .slice C z.kids.len capc, .int .i64 z.lo, .int .i64 z.hi] 28)) := (Below.refl _ _).alloc (Nat.le_refl _) _
      have HZ := Lib.hid hz
      have HO := Lib.hid (HS.out z.sum (List.mem_of_getElem? (sums_get hz)))
      have HE2 := Lib.hid (show (F.sums.take (k + 1)).foldl f s0 = f s z.sum by rw [List.take_add_one, sums_get hz, List.foldl_append, HE.out]; rfl)
      have HKZ := Lib.hid (hkz.below hbA)
      have HN := Lib.hid (Blk.new wr 28 #[.int .i64 z.kind, .int .u64 ((word (z.set.testBit) 0 : Nat) : Int), .int .u64 ((word (z.set.testBit) 1 : Nat) : Int), .int .u64 ((word (z.set.testBit) 2 : Nat) : Int), .int .u64 ((word (z.set.testBit) 3 : Nat) : Int), .slice C z.kids.len capc, .int .i64 z.lo, .int .i64 z.hi])
      have HX := Lib.hid (HR.out.1.below hbA HR.out.1.lt)
      have HY := Lib.hid (HR.out.2.1.below hbA HR.out.2.1.lt)
      have HB := Lib.hid (HR.out.2.2.1.trans (hbA.mono HR.out.2.2.1.size))
      have HSk := Lib.hid HR.out.2.2.2
      have hwr : w.heap.size + 1 < wr.heap.size := HR.out.2.1.lt
      clear hz hkz hbA HR
      go_upto_region 4 with fail
      clear c0 c1 c2 c3 c4 c5 c6 c7
      generalize wr.alloc (.cells #[.int .i64 z.kind, .int .u64 ((word (z.set.testBit) 0 : Nat) : Int), .int .u64 ((word (z.set.testBit) 1 : Nat) : Int), .int .u64 ((word (z.set.testBit) 2 : Nat) : Int), .int .u64 ((word (z.set.testBit) 3 : Nat) : Int), .slice C z.kids.len capc, .int .i64 z.lo, .int .i64 z.hi] 28) = w2 at *
      generalize wr.heap.size = gn at *
      obtain ⟨n0, n1, n2, n3, n4, n5, n6, n7⟩ := ((HN.out)).c8r
      have hln := (HN.out).lt
      obtain ⟨x0, x1, x2, x3, x4, x5, x6, x7, x8, x9, x10⟩ := ((HX.out)).c11r
      have hlx := (HX.out).lt
      have hKl : ∀ b', b' = gn → b' < w2.heap.size := fun b' h => by rw [h]; exact hln
      refine wp_region_held_drew (S := fun w' => ∀ b' o', b' = gn → w'.cell? ⟨b', o', none⟩ = w2.cell? ⟨b', o', none⟩) (by kernel_rfl) (KeepP.start (fun b' => b' = gn) w2) (fun hHeld => ?_)
      refine wpAnyH_take (i := 0) (oi := _) (v := ?_) rfl (by kernel_rfl) (by kernel_rfl) (by kernel_rfl) (fun _ _ _ h => h) (Or.inl ⟨by kernel_rfl, ?_⟩) (by assumption) ?_
      rotate_left
      · intro w hSw
        try dsimp only at hSw
        go_simp
        try (with_reducible rfl)
      try simp only [Act.put, List.getElem_toArray, List.getElem_cons_zero, List.getElem_cons_succ, List.setIfInBounds_toArray, List.set_cons_zero, List.set_cons_succ]
      refine wpAnyH_take (i := 2) (oi := _) (v := ?_) rfl (by kernel_rfl) (by kernel_rfl) (by kernel_rfl) (fun _ _ _ h => h) (Or.inl ⟨by kernel_rfl, ?_⟩) (by assumption) ?_
      rotate_left
      · intro w hSw
        try dsimp only at hSw
        go_simp
        try (with_reducible rfl)
      try simp only [Act.put, List.getElem_toArray, List.getElem_cons_zero, List.getElem_cons_succ, List.setIfInBounds_toArray, List.set_cons_zero, List.set_cons_succ]
      refine wpAnyH_ready (rs := [1, 3]) (by kernel_rfl) (by simp) ?_
      refine AllReadyH.cons (o := _) rfl (fun K hK => ?_) (AllReadyH.cons (o := _) rfl (fun K hK => ?_) AllReadyH.nil)
      · skip
        go_simp
        refine hK.out _ _ hHeld (fun _ => ?_)
        clear hK K
        try simp only [Act.put, List.getElem_toArray, List.getElem_cons_zero, List.getElem_cons_succ, List.setIfInBounds_toArray, List.set_cons_zero, List.set_cons_succ]
        refine wpAnyH_ready (rs := [3]) (by kernel_rfl) (by simp) ?_
        refine AllReadyH.cons (o := _) rfl (fun K hK => ?_) AllReadyH.nil
        go_simp
        go_at_call 105
        have HI3 := HG.out k z C capc w2.drew HZ.out (HKZ.out.below (Below.refl _ _).drew)
        unfold ndV sumV sumA at HI3
        refine HI3.mono ?_
        rintro e w3 ⟨rfl, hb3'⟩
        have hb3 : Below w2.heap.size w2 w3 := (Below.refl _ _).drew.trans hb3'
        have hk3 := KeepP.below (KeepP.start (fun b' => b' = gn) w2) hb3' hKl
        refine hK.out _ _ hk3 (fun _ => ?_)
        clear hK K HI3 hHeld hb3'
        try simp only [Act.put, List.getElem_toArray, List.getElem_cons_zero, List.getElem_cons_succ, List.setIfInBounds_toArray, List.set_cons_zero, List.set_cons_succ]
        clear n0 n1 n2 n3 n4 n5 n6 n7
        clear x0 x1 x2 x3 x4 x5 x6 x7 x8 x9 x10
        have HF2 := Lib.hid (HF.out s z.sum w3 HSk.out HO.out)
        have hOk := HK.out s z.sum HSk.out HO.out
        have HE3 := Lib.hid HE2.out
        generalize f s z.sum = r at *
        unfold sumV sumA at HF2
        refine wpAnyH_ready (rs := [4]) (by kernel_rfl) (by simp) ?_
        refine AllReadyH.cons (o := _) rfl (fun K hK => ?_) AllReadyH.nil
        go_simp
        refine HF2.out.mono ?_
        rintro e w4 ⟨rfl, hb4⟩
        have hk4 := KeepP.below hk3 hb4 (fun b' h => Nat.lt_of_lt_of_le (hKl b' h) hb3.size)
        refine hK.out _ _ hk4 (fun _ => ?_)
        clear hK K
        try simp only [Act.put, List.getElem_toArray, List.getElem_cons_zero, List.getElem_cons_succ, List.setIfInBounds_toArray, List.set_cons_zero, List.set_cons_succ]
        have HX4 := Lib.hid ((HX.out.below hb3 HX.out.lt).below hb4 (Nat.lt_of_lt_of_le HX.out.lt hb3.size))
        have HY4 := Lib.hid ((HY.out.below hb3 HY.out.lt).below hb4 (Nat.lt_of_lt_of_le HY.out.lt hb3.size))
        have HB4 := Lib.hid ((HB.out.trans (hb3.mono HB.out.size)).trans (hb4.mono (by have := HB.out.size; have := hb3.size; omega)))
        obtain ⟨x0, x1, x2, x3, x4, x5, x6, x7, x8, x9, x10⟩ := ((HX4.out)).c11r
        obtain ⟨q0, q1, q2, q3, q4, q5, q6, q7, q8, q9, q10⟩ := ((HX4.out)).f11r
        have hlx := (HX4.out).lt
        refine wpAnyH_ready (rs := [5]) (by kernel_rfl) (by simp) ?_
        refine AllReadyH.cons (o := _) rfl (fun K hK => ?_) AllReadyH.nil
        go_simp
        refine hK.out _ _ (KeepP.set11 hk4 (fun b' h e => by omega)) (fun _ => ?_)
        clear hK K
        try simp only [Act.put, List.getElem_toArray, List.getElem_cons_zero, List.getElem_cons_succ, List.setIfInBounds_toArray, List.set_cons_zero, List.set_cons_succ]
        refine wpAnyH_done (by kernel_rfl) ?_ _
        have HRR := Lib.hid (show _ ∧ _ ∧ _ ∧ _ from ⟨Blk.store11 (v0 := .bool r.hollow) (v1 := .int .i64 r.short) (v2 := .int .i64 r.long) (v3 := .int .u64 ((word r.first 0 : Nat) : Int)) (v4 := .int .u64 ((word r.first 1 : Nat) : Int)) (v5 := .int .u64 ((word r.first 2 : Nat) : Int)) (v6 := .int .u64 ((word r.first 3 : Nat) : Int)) (v7 := .int .u64 ((word r.last 0 : Nat) : Int)) (v8 := .int .u64 ((word r.last 1 : Nat) : Int)) (v9 := .int .u64 ((word r.last 2 : Nat) : Int)) (v10 := .int .u64 ((word r.last 3 : Nat) : Int)) HX4.out, far11 (v0 := .bool r.hollow) (v1 := .int .i64 r.short) (v2 := .int .i64 r.long) (v3 := .int .u64 ((word r.first 0 : Nat) : Int)) (v4 := .int .u64 ((word r.first 1 : Nat) : Int)) (v5 := .int .u64 ((word r.first 2 : Nat) : Int)) (v6 := .int .u64 ((word r.first 3 : Nat) : Int)) (v7 := .int .u64 ((word r.last 0 : Nat) : Int)) (v8 := .int .u64 ((word r.last 1 : Nat) : Int)) (v9 := .int .u64 ((word r.last 2 : Nat) : Int)) (v10 := .int .u64 ((word r.last 3 : Nat) : Int)) (g := w.heap.size) HY4.out (by omega), below_set11 (g := w.heap.size) (v0 := .bool r.hollow) (v1 := .int .i64 r.short) (v2 := .int .i64 r.long) (v3 := .int .u64 ((word r.first 0 : Nat) : Int)) (v4 := .int .u64 ((word r.first 1 : Nat) : Int)) (v5 := .int .u64 ((word r.first 2 : Nat) : Int)) (v6 := .int .u64 ((word r.first 3 : Nat) : Int)) (v7 := .int .u64 ((word r.last 0 : Nat) : Int)) (v8 := .int .u64 ((word r.last 1 : Nat) : Int)) (v9 := .int .u64 ((word r.last 2 : Nat) : Int)) (v10 := .int .u64 ((word r.last 3 : Nat) : Int)) HB4.out (Nat.le_refl _), hOk⟩)
        clear HX4 HY4 HB4 hb3 hb4 HF2 hk4 hk3 HX HY HN HKZ hOk HE2 HO HSk HZ HB
        clear x0 x1 x2 x3 x4 x5 x6 x7 x8 x9 x10
        clear q0 q1 q2 q3 q4 q5 q6 q7 q8 q9 q10
        go_wp2
        go_light
        go_roundw
        case rel => exact ⟨k + 1, r, by go_num, by omega, HE3, HRR⟩
        case measure => simp [intOf]; omega
      · skip
        go_simp
        go_at_call 105
        have HI3 := HG.out k z C capc w2.drew HZ.out (HKZ.out.below (Below.refl _ _).drew)
        unfold ndV sumV sumA at HI3
        refine HI3.mono ?_
        rintro e w3 ⟨rfl, hb3'⟩
        have hb3 : Below w2.heap.size w2 w3 := (Below.refl _ _).drew.trans hb3'
        have hk3 := KeepP.below (KeepP.start (fun b' => b' = gn) w2) hb3' hKl
        refine hK.out _ _ hk3 (fun _ => ?_)
        clear hK K HI3 hHeld hb3'
        try simp only [Act.put, List.getElem_toArray, List.getElem_cons_zero, List.getElem_cons_succ, List.setIfInBounds_toArray, List.set_cons_zero, List.set_cons_succ]
        clear n0 n1 n2 n3 n4 n5 n6 n7
        clear x0 x1 x2 x3 x4 x5 x6 x7 x8 x9 x10
        obtain ⟨y0, y1, y2, y3, y4, y5, y6, y7, y8, y9, y10⟩ := ((HX.out.below hb3 HX.out.lt)).c11r
        have hly := (HX.out.below hb3 HX.out.lt).lt
        refine wpAnyH_ready (rs := [1]) (by kernel_rfl) (by simp) ?_
        refine AllReadyH.cons (o := _) rfl (fun K hK => ?_) AllReadyH.nil
        go_simp
        refine hK.out _ _ (by assumption) (fun _ => ?_)
        clear hK K
        try simp only [Act.put, List.getElem_toArray, List.getElem_cons_zero, List.getElem_cons_succ, List.setIfInBounds_toArray, List.set_cons_zero, List.set_cons_succ]
        clear y0 y1 y2 y3 y4 y5 y6 y7 y8 y9 y10
        clear hly
        have HF2 := Lib.hid (HF.out s z.sum w3 HSk.out HO.out)
        have hOk := HK.out s z.sum HSk.out HO.out
        have HE3 := Lib.hid HE2.out
        generalize f s z.sum = r at *
        unfold sumV sumA at HF2
        refine wpAnyH_ready (rs := [4]) (by kernel_rfl) (by simp) ?_
        refine AllReadyH.cons (o := _) rfl (fun K hK => ?_) AllReadyH.nil
        go_simp
        refine HF2.out.mono ?_
        rintro e w4 ⟨rfl, hb4⟩
        have hk4 := KeepP.below hk3 hb4 (fun b' h => Nat.lt_of_lt_of_le (hKl b' h) hb3.size)
        refine hK.out _ _ hk4 (fun _ => ?_)
        clear hK K
        try simp only [Act.put, List.getElem_toArray, List.getElem_cons_zero, List.getElem_cons_succ, List.setIfInBounds_toArray, List.set_cons_zero, List.set_cons_succ]
        have HX4 := Lib.hid ((HX.out.below hb3 HX.out.lt).below hb4 (Nat.lt_of_lt_of_le HX.out.lt hb3.size))
        have HY4 := Lib.hid ((HY.out.below hb3 HY.out.lt).below hb4 (Nat.lt_of_lt_of_le HY.out.lt hb3.size))
        have HB4 := Lib.hid ((HB.out.trans (hb3.mono HB.out.size)).trans (hb4.mono (by have := HB.out.size; have := hb3.size; omega)))
        obtain ⟨x0, x1, x2, x3, x4, x5, x6, x7, x8, x9, x10⟩ := ((HX4.out)).c11r
        obtain ⟨q0, q1, q2, q3, q4, q5, q6, q7, q8, q9, q10⟩ := ((HX4.out)).f11r
        have hlx := (HX4.out).lt
        refine wpAnyH_ready (rs := [5]) (by kernel_rfl) (by simp) ?_
        refine AllReadyH.cons (o := _) rfl (fun K hK => ?_) AllReadyH.nil
        go_simp
        refine hK.out _ _ (KeepP.set11 hk4 (fun b' h e => by omega)) (fun _ => ?_)
        clear hK K
        try simp only [Act.put, List.getElem_toArray, List.getElem_cons_zero, List.getElem_cons_succ, List.setIfInBounds_toArray, List.set_cons_zero, List.set_cons_succ]
        refine wpAnyH_done (by kernel_rfl) ?_ _
        have HRR := Lib.hid (show _ ∧ _ ∧ _ ∧ _ from ⟨Blk.store11 (v0 := .bool r.hollow) (v1 := .int .i64 r.short) (v2 := .int .i64 r.long) (v3 := .int .u64 ((word r.first 0 : Nat) : Int)) (v4 := .int .u64 ((word r.first 1 : Nat) : Int)) (v5 := .int .u64 ((word r.first 2 : Nat) : Int)) (v6 := .int .u64 ((word r.first 3 : Nat) : Int)) (v7 := .int .u64 ((word r.last 0 : Nat) : Int)) (v8 := .int .u64 ((word r.last 1 : Nat) : Int)) (v9 := .int .u64 ((word r.last 2 : Nat) : Int)) (v10 := .int .u64 ((word r.last 3 : Nat) : Int)) HX4.out, far11 (v0 := .bool r.hollow) (v1 := .int .i64 r.short) (v2 := .int .i64 r.long) (v3 := .int .u64 ((word r.first 0 : Nat) : Int)) (v4 := .int .u64 ((word r.first 1 : Nat) : Int)) (v5 := .int .u64 ((word r.first 2 : Nat) : Int)) (v6 := .int .u64 ((word r.first 3 : Nat) : Int)) (v7 := .int .u64 ((word r.last 0 : Nat) : Int)) (v8 := .int .u64 ((word r.last 1 : Nat) : Int)) (v9 := .int .u64 ((word r.last 2 : Nat) : Int)) (v10 := .int .u64 ((word r.last 3 : Nat) : Int)) (g := w.heap.size) HY4.out (by omega), below_set11 (g := w.heap.size) (v0 := .bool r.hollow) (v1 := .int .i64 r.short) (v2 := .int .i64 r.long) (v3 := .int .u64 ((word r.first 0 : Nat) : Int)) (v4 := .int .u64 ((word r.first 1 : Nat) : Int)) (v5 := .int .u64 ((word r.first 2 : Nat) : Int)) (v6 := .int .u64 ((word r.first 3 : Nat) : Int)) (v7 := .int .u64 ((word r.last 0 : Nat) : Int)) (v8 := .int .u64 ((word r.last 1 : Nat) : Int)) (v9 := .int .u64 ((word r.last 2 : Nat) : Int)) (v10 := .int .u64 ((word r.last 3 : Nat) : Int)) HB4.out (Nat.le_refl _), hOk⟩)
        clear HX4 HY4 HB4 hb3 hb4 HF2 hk4 hk3 HX HY HN HKZ hOk HE2 HO HSk HZ HB
        clear x0 x1 x2 x3 x4 x5 x6 x7 x8 x9 x10
        clear q0 q1 q2 q3 q4 q5 q6 q7 q8 q9 q10
        go_wp2
        go_light
        go_roundw
        case rel => exact ⟨k + 1, r, by go_num, by omega, HE3, HRR⟩
        case measure => simp [intOf]; omega
    · obtain rfl : k = F.len := by omega
      have hdl : ¬ ((F.len : Int) < (F.len : Int)) := by omega
      have HV := Lib.hid (show F.sums.foldl f s0 = s by rw [← HE.out, ← sums_len, List.take_length])
      obtain ⟨x0, x1, x2, x3, x4, x5, x6, x7, x8, x9, x10⟩ := ((HR.out.1)).c11r
      have hlx := (HR.out.1).lt
      obtain ⟨r0, r1, r2, r3, r4, r5, r6, r7, r8, r9, r10⟩ := ((HR.out.2.1)).c11r
      obtain ⟨q0, q1, q2, q3, q4, q5, q6, q7, q8, q9, q10⟩ := ((HR.out.2.1)).f11r
      have hlr := (HR.out.2.1).lt
      go_wp2
      refine bodyPost_ret (ret_sum Tryz.results148 rfl (Blk.store11 HR.out.2.1)) rfl ⟨by rw [HV.out], below_set11 HR.out.2.2.1 (by omega)⟩
end Go.Proofs.YtfekpkelmliejaaGreatDoor
namespace Go.Proofs.YtfekpkelmliejaaGreatDoor
open Go.RowKit
set_option linter.unusedSimpArgs false
set_option linter.unusedVariables false
set_option maxRecDepth 100000

end Go.Proofs.YtfekpkelmliejaaGreatDoor
namespace Go.Proofs.YtfekpkelmliejaaGreatDoor
open Go.RowKit
set_option linter.unusedSimpArgs false
set_option linter.unusedVariables false
set_option maxRecDepth 100000

end Go.Proofs.YtfekpkelmliejaaGreatDoor
namespace Go.Proofs.YtfekpkelmliejaaGreatDoor
open Go.RowKit
set_option linter.unusedSimpArgs false
set_option linter.unusedVariables false
set_option maxRecDepth 100000

end Go.Proofs.YtfekpkelmliejaaGreatDoor
namespace Go.Proofs.YtfekpkelmliejaaGreatDoor
open Go.RowKit
set_option linter.unusedSimpArgs false
set_option linter.unusedVariables false
set_option maxRecDepth 100000

@[go_sem] theorem run_str1_next (w : World) (o : Obj) (c : Nat) : (convert 30 9 (.slice (some ⟨w.heap.size + 1, 0, none⟩) 1 1)).run Tryz.prog ((w.alloc o).alloc (.cells #[.int .u8 (c : Int)] 5)) =
    .ok (.string (strOf [c])) ((w.alloc o).alloc (.cells #[.int .u8 (c : Int)] 5)) := by
  have h := run_str1 (w.alloc o) c
  rw [World.size_alloc] at h
  exact h
end Go.Proofs.YtfekpkelmliejaaGreatDoor
namespace Go.Proofs.YtfekpkelmliejaaGreatDoor
open Go.RowKit
set_option linter.unusedSimpArgs false
set_option linter.unusedVariables false
set_option maxRecDepth 100000

end Go.Proofs.YtfekpkelmliejaaGreatDoor
namespace Go.Proofs.YtfekpkelmliejaaGreatDoor
open Go.RowKit
set_option linter.unusedSimpArgs false
set_option linter.unusedVariables false
set_option maxRecDepth 100000

/-- A lexeme of a kind. -/
def lexK (k : Int) : Lex := ⟨k, 0, noSet, 0, 0⟩
/-- Does a kid want brackets? -/
def brS (p k : Int) : Bool := decide (k = 5) || (decide (p ≠ 5) && (decide (k = 4) || decide (k = 2)))
def kidS (p : Int) (q : Int × List Lex) : List Lex := if brS p q.1 = true then lexK 2 :: (q.2 ++ [lexK 3]) else q.2
/-- One or the other. -/
def barsS (l : List (List Lex)) : List Lex := (l.flatMap fun x => lexK 4 :: x).drop 1
def writeK (k : Int) (s : Nat) (lo hi : Int) (ks : List (Int × List Lex)) : List Lex :=
  if k = 1 ∨ k = 3 then [⟨1, 0, s.testBit, 0, 0⟩]
  else if k = 4 then (ks.map (kidS 4)).flatten
  else if k = 5 then barsS (ks.map (kidS 5))
  else if 6 ≤ k ∧ k ≤ 8 then kidS k (ks.headD (0, [])) ++ [lexK (k - 1)]
  else if k = 9 then kidS k (ks.headD (0, [])) ++ [⟨8, 0, noSet, lo, hi⟩]
  else []
/-- The kinds and lexemes of trees. -/
def Trees.writes : Trees → List (Int × List Lex)
  | .nil => []
  | .cons k s ks lo hi r => (k, writeK k s lo hi ks.writes) :: r.writes
/-- The lexemes of a tree. -/
def Nd.write (x : Nd) : List Lex := writeK x.kind x.set x.lo x.hi x.kids.writes
/-! How many they are. -/
/-! They may all be. -/
/-! What is said of a tree. -/
end Go.Proofs.YtfekpkelmliejaaGreatDoor
namespace Go.Proofs.YtfekpkelmliejaaGreatDoor
open Go.RowKit
set_option linter.unusedSimpArgs false
set_option linter.unusedVariables false
set_option maxRecDepth 100000

/-! A tree as a text can say it. -/
def saidK (k : Int) (s : Nat) (lo hi : Int) (l : List Nd) : Nd := if k = 1 then leafN 0 else ⟨k, maskOf s.testBit, Trees.of l, lo, hi⟩
def Trees.said : Trees → List Nd
  | .nil => []
  | .cons k s ks lo hi r => saidK k s lo hi ks.said :: r.said
def Nd.said (x : Nd) : Nd := saidK x.kind x.set x.lo x.hi x.kids.said
/-! Reading, step by step. -/
def StopL (R : List Lex) : Prop := R = [] ∨ ∃ c R', R = c :: R' ∧ (c.kind = 3 ∨ c.kind = 4)
def EndL (R : List Lex) : Prop := R = [] ∨ ∃ c R', R = c :: R' ∧ c.kind = 3
theorem EndL.stop {R : List Lex} (h : EndL R) : StopL R := by
  rcases h with h | ⟨c, R', h, hc⟩
  · exact .inl h
  · exact .inr ⟨c, R', h, .inl hc⟩
theorem one_kid {x : Nd} (h : x.kids.len = 1) : ∃ z, x.kids.list = [z] ∧ x.kids.list[0]? = some z := by
  have : x.kids.list.length = 1 := by rw [Trees.len_list]; exact h
  obtain ⟨z, hz⟩ := List.length_eq_one_iff.1 this
  exact ⟨z, hz, by rw [hz]; rfl⟩
/-! Places tell errors alone. -/
end Go.Proofs.YtfekpkelmliejaaGreatDoor
namespace Go.Proofs.YtfekpkelmliejaaGreatDoor
open Go.RowKit
set_option linter.unusedSimpArgs false
set_option linter.unusedVariables false
set_option maxRecDepth 100000

theorem word_noSet (i : Nat) : word noSet i = 0 := word_none i
theorem put_no (S b o len cap : Nat) (i : Int) (v : Value) (k q : Int) (N : Nat) (L : List Lex) (kind place lo hi next : Int) (W : World) (hS : Spl W S b o len cap i v k q) (hrow : W.ownsRow N 139 8 v L.length (lexCells L)) (hN : N ≤ S) (hL : L.length ≤ 100000) :
    Calls Tryz.prog 231 #[.pointer (some ⟨S, 0, none⟩), .agg #[.int .i64 kind, .int .i64 place, .int .u64 0, .int .u64 0, .int .u64 0, .int .u64 0, .int .i64 lo, .int .i64 hi], .int .i64 next] W (Took S b o len cap N L ⟨kind, i, noSet, lo, hi⟩ next k q W) := by
  have h := put_go S b o len cap i v k q N L ⟨kind, place, noSet, lo, hi⟩ next W hS hrow hN hL
  simp only [word_noSet] at h
  exact h

/-- The world is as it was, but for some draws. -/
def Quiet (v : Value) (W : World) (e : Ending) (W' : World) : Prop := e = .returned v ∧ ∃ n, W' = W.drewN n

set_option maxHeartbeats 2000000 in
theorem sign_no (S b o cap : Nat) (bs : List Nat) (i : Nat) (v : Value) (N : Nat) (W : World) (hS : Spl W S b o bs.length cap i v 0 0) (hA : BytesAt W N (some ⟨b, o, none⟩) bs) (h0 : i < bs.length) (hk : signKind (byteAt bs i) = 0) :
    Calls Tryz.prog 190 #[.pointer (some ⟨S, 0, none⟩)] W (Quiet (.bool false) W) := by
  obtain ⟨s0, s1, s2, s3, s4, f0, f1, f2, f3, f4⟩ := hS.cells
  have hcell := bytesAt_cells hA i h0
  have hl := hA.2.1
  have hc256 := byteAt_lt hA.1 i

  generalize byteAt bs i = c at *
  have hne : c ≠ 40 ∧ c ≠ 41 ∧ c ≠ 124 ∧ c ≠ 42 ∧ c ≠ 43 ∧ c ≠ 63 := by
    unfold signKind at hk
    refine ⟨?_, ?_, ?_, ?_, ?_, ?_⟩ <;> (rintro rfl; revert hk; decide)
  obtain ⟨a1, a2, a3, a4, a5, a6⟩ := hne
  have b1 : ((c : Int) == 40) = false := by simp; omega
  have b2 : ((c : Int) == 41) = false := by simp; omega
  have b3 : ((c : Int) == 124) = false := by simp; omega
  have b4 : ((c : Int) == 42) = false := by simp; omega
  have b5 : ((c : Int) == 43) = false := by simp; omega
  have b6 : ((c : Int) == 63) = false := by simp; omega
  clear hS hA hk a1 a2 a3 a4 a5 a6
  go_enter Tryz.func190, Tryz.ntmps190
  go_wp2
  go_quiet (fail)
  go_wp2
  go_light
  go_ret
  exact ⟨rfl, _, rfl⟩

set_option maxHeartbeats 4000000 in
theorem sign_yes (S b o cap : Nat) (bs : List Nat) (i : Nat) (v : Value) (N : Nat) (L : List Lex) (W : World) (hS : Spl W S b o bs.length cap i v 0 0) (hrow : W.ownsRow N 139 8 v L.length (lexCells L)) (hN : N ≤ S) (hL : L.length ≤ 100000) (hA : BytesAt W N (some ⟨b, o, none⟩) bs) (h0 : i < bs.length) (hk : signKind (byteAt bs i) ≠ 0) :
    Calls Tryz.prog 190 #[.pointer (some ⟨S, 0, none⟩)] W fun e W' => e = .returned (.bool true) ∧ Below N W W' ∧ ∃ v', Spl W' S b o bs.length cap ((i : Int) + 1) v' 0 0 ∧ W'.ownsRow N 139 8 v' (L.length + 1) (lexCells (L ++ [⟨signKind (byteAt bs i), i, noSet, 0, 0⟩])) := by
  obtain ⟨s0, s1, s2, s3, s4, f0, f1, f2, f3, f4⟩ := hS.cells
  have hcell := bytesAt_cells hA i h0
  have hl := hA.2.1
  have hc256 := byteAt_lt hA.1 i

  have hlt := Blk.lt hS
  have hi2 : i < 140737488355328 := by omega
  have hcs : byteAt bs i = 40 ∨ byteAt bs i = 41 ∨ byteAt bs i = 124 ∨ byteAt bs i = 42 ∨ byteAt bs i = 43 ∨ byteAt bs i = 63 := by
    unfold signKind at hk
    by_cases a1 : byteAt bs i = 40
    · omega
    by_cases a2 : byteAt bs i = 41
    · omega
    by_cases a3 : byteAt bs i = 124
    · omega
    by_cases a4 : byteAt bs i = 42
    · omega
    by_cases a5 : byteAt bs i = 43
    · omega
    by_cases a6 : byteAt bs i = 63
    · omega
    rw [if_neg a1, if_neg a2, if_neg a3, if_neg a4, if_neg a5, if_neg a6] at hk
    exact absurd rfl hk
  have hP := fun (kd : Int) (n : Nat) => put_no S b o bs.length cap i v 0 0 N L kd 0 0 0 ((i : Int) + 1) (W.drewN n) hS hrow hN hL
  have HP := Lib.hid hP
  clear hS hA hk hP hrow
  rcases hcs with hc | hc | hc | hc | hc | hc
  · rw [hc] at hcell
    have HK := Lib.hid (show signKind (byteAt bs i) = 2 by rw [hc]; rfl)
    clear hc hc256
    go_enter Tryz.func190, Tryz.ntmps190
    go_wp2
    go_quiet (fail)
    go_wp2_with fail
    refine (HP.out 2 _).mono ?_
    rintro e w4 ⟨rfl, hb4, hv4⟩
    have HV := Lib.hid hv4
    have HB4 := Lib.hid hb4
    clear hv4 hb4
    go_wp2
    go_light
    go_ret
    exact ⟨rfl, (bel_drewN (Below.refl N W) _).trans HB4.out, by rw [HK.out]; exact HV.out⟩
  · rw [hc] at hcell
    have HK := Lib.hid (show signKind (byteAt bs i) = 3 by rw [hc]; rfl)
    clear hc hc256
    go_enter Tryz.func190, Tryz.ntmps190
    go_wp2
    go_quiet (fail)
    go_wp2_with fail
    refine (HP.out 3 _).mono ?_
    rintro e w4 ⟨rfl, hb4, hv4⟩
    have HV := Lib.hid hv4
    have HB4 := Lib.hid hb4
    clear hv4 hb4
    go_wp2
    go_light
    go_ret
    exact ⟨rfl, (bel_drewN (Below.refl N W) _).trans HB4.out, by rw [HK.out]; exact HV.out⟩
  · rw [hc] at hcell
    have HK := Lib.hid (show signKind (byteAt bs i) = 4 by rw [hc]; rfl)
    clear hc hc256
    go_enter Tryz.func190, Tryz.ntmps190
    go_wp2
    go_quiet (fail)
    go_wp2_with fail
    refine (HP.out 4 _).mono ?_
    rintro e w4 ⟨rfl, hb4, hv4⟩
    have HV := Lib.hid hv4
    have HB4 := Lib.hid hb4
    clear hv4 hb4
    go_wp2
    go_light
    go_ret
    exact ⟨rfl, (bel_drewN (Below.refl N W) _).trans HB4.out, by rw [HK.out]; exact HV.out⟩
  · rw [hc] at hcell
    have HK := Lib.hid (show signKind (byteAt bs i) = 5 by rw [hc]; rfl)
    clear hc hc256
    go_enter Tryz.func190, Tryz.ntmps190
    go_wp2
    go_quiet (fail)
    go_wp2_with fail
    refine (HP.out 5 _).mono ?_
    rintro e w4 ⟨rfl, hb4, hv4⟩
    have HV := Lib.hid hv4
    have HB4 := Lib.hid hb4
    clear hv4 hb4
    go_wp2
    go_light
    go_ret
    exact ⟨rfl, (bel_drewN (Below.refl N W) _).trans HB4.out, by rw [HK.out]; exact HV.out⟩
  · rw [hc] at hcell
    have HK := Lib.hid (show signKind (byteAt bs i) = 6 by rw [hc]; rfl)
    clear hc hc256
    go_enter Tryz.func190, Tryz.ntmps190
    go_wp2
    go_quiet (fail)
    go_wp2_with fail
    refine (HP.out 6 _).mono ?_
    rintro e w4 ⟨rfl, hb4, hv4⟩
    have HV := Lib.hid hv4
    have HB4 := Lib.hid hb4
    clear hv4 hb4
    go_wp2
    go_light
    go_ret
    exact ⟨rfl, (bel_drewN (Below.refl N W) _).trans HB4.out, by rw [HK.out]; exact HV.out⟩
  · rw [hc] at hcell
    have HK := Lib.hid (show signKind (byteAt bs i) = 7 by rw [hc]; rfl)
    clear hc hc256
    go_enter Tryz.func190, Tryz.ntmps190
    go_wp2
    go_quiet (fail)
    go_wp2_with fail
    refine (HP.out 7 _).mono ?_
    rintro e w4 ⟨rfl, hb4, hv4⟩
    have HV := Lib.hid hv4
    have HB4 := Lib.hid hb4
    clear hv4 hb4
    go_wp2
    go_light
    go_ret
    exact ⟨rfl, (bel_drewN (Below.refl N W) _).trans HB4.out, by rw [HK.out]; exact HV.out⟩

end Go.Proofs.YtfekpkelmliejaaGreatDoor
namespace Go.Proofs.YtfekpkelmliejaaGreatDoor
open Go.RowKit
set_option linter.unusedSimpArgs false
set_option linter.unusedVariables false
set_option maxRecDepth 100000

/-- What rep has about it: the box of the splitter, the box of the place. -/
structure Ctx (N S T I b o cap : Nat) (bs : List Nat) (i : Nat) (v : Value) (L : List Lex) (W0 : World) (j : Nat) (W : World) : Prop where
  hT : W.cell? ⟨T, 0, none⟩ = some (.pointer (some ⟨S, 0, none⟩))
  hI : Blk W I 3 #[.int .i64 (j : Int)]
  hS : Spl W S b o bs.length cap i v 0 0
  hrow : W.ownsRow N 139 8 v L.length (lexCells L)
  hA : BytesAt W N (some ⟨b, o, none⟩) bs
  hB : Below N W0 W
  hNS : N ≤ S
  hNI : N ≤ I
  hTI : T ≠ I
  hSI : S ≠ I
  hcap : bs.length ≤ cap

section
variable {N S T I b o cap : Nat} {bs : List Nat} {i : Nat} {v : Value} {L : List Lex} {W0 : World} {j : Nat} {W W' : World}
theorem Ctx.drewN (h : Ctx N S T I b o cap bs i v L W0 j W) (n : Nat) : Ctx N S T I b o cap bs i v L W0 j (W.drewN n) :=
  ⟨h.hT, h.hI, h.hS, h.hrow, h.hA, bel_drewN h.hB n, h.hNS, h.hNI, h.hTI, h.hSI, h.hcap⟩
theorem Ctx.below (h : Ctx N S T I b o cap bs i v L W0 j W) (hb : Below W.heap.size W W') : Ctx N S T I b o cap bs i v L W0 j W' :=
  ⟨(hb.cell (p := ⟨T, 0, none⟩) (World.block_lt_of_cell? W _ h.hT)).trans h.hT, h.hI.below hb h.hI.lt, Blk.below h.hS hb (Blk.lt h.hS), own_below h.hrow hb, h.hA.below (hb.mono (Nat.le_of_lt (Nat.lt_of_le_of_lt h.hNS (Blk.lt h.hS)))),
    h.hB.trans (hb.mono (Nat.le_of_lt (Nat.lt_of_le_of_lt h.hNS (Blk.lt h.hS)))), h.hNS, h.hNI, h.hTI, h.hSI, h.hcap⟩
theorem Ctx.set_ (h : Ctx N S T I b o cap bs i v L W0 j W) (m : Nat) : Ctx N S T I b o cap bs i v L W0 m (W.setCell ⟨I, 0, none⟩ (.int .i64 (m : Int))) :=
  ⟨(World.cell?_setCell_other W _ _ _ (fun e => h.hTI (by simpa using (congrArg Addr.block e).symm))).trans h.hT, h.hI.set_ 0 _, Blk.far h.hS (p := ⟨I, 0, none⟩) h.hSI _, own_set h.hrow (blk_not_row h.hI (by decide) h.hrow),
    h.hA.below ((Below.refl N W).setCell (p := ⟨I, 0, none⟩) h.hNI _), h.hB.setCell (p := ⟨I, 0, none⟩) h.hNI _, h.hNS, h.hNI, h.hTI, h.hSI, h.hcap⟩
theorem Ctx.facts (h : Ctx N S T I b o cap bs i v L W0 j W) : W.cell? ⟨T, 0, none⟩ = some (.pointer (some ⟨S, 0, none⟩)) ∧ W.cell? ⟨I, 0, none⟩ = some (.int .i64 (j : Int)) ∧ W.cell? ⟨S, 0, none⟩ = some (.slice (some ⟨b, o, none⟩) bs.length cap) ∧ W.frozen? ⟨I, 0, none⟩ = false ∧
    T < W.heap.size ∧ I < W.heap.size ∧ S < W.heap.size ∧ N ≤ W.heap.size :=
  ⟨h.hT, h.hI.cell 0, (Spl.cells h.hS).1, h.hI.frozen 0, World.block_lt_of_cell? W _ h.hT, h.hI.lt, Blk.lt h.hS, Nat.le_of_lt (Nat.lt_of_le_of_lt h.hNS (Blk.lt h.hS))⟩
end

/-- A call that gives v, and keeps what rep has about it, the place at j. -/
def Kept (N S T I b o cap : Nat) (bs : List Nat) (i : Nat) (u : Value) (L : List Lex) (W0 : World) (j : Nat) (v : Value) (e : Ending) (W' : World) : Prop := e = .returned v ∧ Ctx N S T I b o cap bs i u L W0 j W'

set_option maxHeartbeats 2000000 in
theorem here_yes {N S T I b o cap : Nat} {bs : List Nat} {i : Nat} {v : Value} {L : List Lex} {W0 : World} {j : Nat} {W : World} (h : Ctx N S T I b o cap bs i v L W0 j W) (c : Nat) (hj : j < bs.length) :
    Calls Tryz.prog 230 #[.int .u8 (c : Int), .pointer (some ⟨I, 0, none⟩), .pointer (some ⟨T, 0, none⟩)] W (Kept N S T I b o cap bs i v L W0 j (.bool (hasAt bs j c))) := by
  obtain ⟨c0, c1, c2, f1, l0, l1, l2, _⟩ := h.facts
  have hcell := bytesAt_cells h.hA j hj
  have hl := h.hA.2.1
  have HK := Lib.hid h
  have Hh := Lib.hid (hasAt_in c hj)
  clear h
  generalize byteAt bs j = d at *
  have hd : decide (j < bs.length) = true := by simp; omega
  have hd2 : (j : Int) < (bs.length : Int) := by omega
  go_enter Tryz.func230, Tryz.ntmps230
  go_wp2
  go_quiet (fail)
  go_wp2
  go_light
  go_ret
  refine ⟨ret_b ?_, HK.out.drewN _⟩
  rw [Hh.out]
  rw [Bool.eq_iff_iff]
  simp
  omega
set_option maxHeartbeats 2000000 in
theorem here_end {N S T I b o cap : Nat} {bs : List Nat} {i : Nat} {v : Value} {L : List Lex} {W0 : World} {j : Nat} {W : World} (h : Ctx N S T I b o cap bs i v L W0 j W) (c : Nat) (hj : bs.length ≤ j) :
    Calls Tryz.prog 230 #[.int .u8 (c : Int), .pointer (some ⟨I, 0, none⟩), .pointer (some ⟨T, 0, none⟩)] W (Kept N S T I b o cap bs i v L W0 j (.bool (hasAt bs j c))) := by
  obtain ⟨c0, c1, c2, f1, l0, l1, l2, _⟩ := h.facts
  have hl := h.hA.2.1
  have HK := Lib.hid h
  have Hh := Lib.hid (hasAt_out (bs := bs) (i := (j : Int)) c (by omega))
  clear h
  have hd : decide (j < bs.length) = false := by simp; omega
  go_enter Tryz.func230, Tryz.ntmps230
  go_wp2
  go_quiet (fail)
  go_wp2
  go_light
  go_ret
  exact ⟨ret_b (by rw [Hh.out]), HK.out.drewN _⟩
theorem sphere_go {N S T I b o cap : Nat} {bs : List Nat} {i : Nat} {v : Value} {L : List Lex} {W0 : World} {j : Nat} {W : World} (h : Ctx N S T I b o cap bs i v L W0 j W) (c : Nat) :
    Calls Tryz.prog 230 #[.int .u8 (c : Int), .pointer (some ⟨I, 0, none⟩), .pointer (some ⟨T, 0, none⟩)] W (Kept N S T I b o cap bs i v L W0 j (.bool (hasAt bs j c))) := by
  rcases Nat.lt_or_ge j bs.length with hj | hj
  · exact here_yes h c hj
  · exact here_end h c hj

set_option maxHeartbeats 2000000 in
theorem num_yes {N S T I b o cap : Nat} {bs : List Nat} {i : Nat} {v : Value} {L : List Lex} {W0 : World} {j : Nat} {W : World} (h : Ctx N S T I b o cap bs i v L W0 j W) (hj : j ≤ bs.length) {n m : Nat} (ht : takeS bs j = some (n, m)) :
    Calls Tryz.prog 228 #[.pointer (some ⟨T, 0, none⟩), .pointer (some ⟨I, 0, none⟩)] W (Kept N S T I b o cap bs i v L W0 m (.tuple #[.int .i64 (n : Int), .bool true])) := by
  have Hv := Lib.hid (show takeVal bs j = .tuple #[.int .i64 (n : Int), .int .i64 (m : Int), .int .i64 0] by unfold takeVal; rw [ht])
  clear ht
  obtain ⟨c0, c1, c2, f1, l0, l1, l2, l3⟩ := h.facts
  have hl := h.hA.2.1
  have HK := Lib.hid h
  have HE := Lib.hid (fun w hA => take_at b o cap bs j w hA h.hcap hj)
  clear h
  go_enter Tryz.func228, Tryz.ntmps228
  go_wp2_with fail
  go_region_held3 (fun w' => (∀ b o, b < W.heap.size → w'.cell? ⟨b, o, none⟩ = W.cell? ⟨b, o, none⟩) ∧ Since W.heap.size W w') (first | (with_reducible exact HK2.out) | (with_reducible exact since_start (Nat.le_refl _)))
    (first | (go_at_call 229; refine (HE.out _ (bytes_since (by assumption) HK.out.hA l3)).mono ?_; rintro e w' ⟨rfl, hb'⟩; rw [Hv.out]; have hK := since_step (by assumption) hb'; have HK2 := Lib.hid hK; clear hK))
  have HC := Lib.hid (HK.out.below HK2.out.2.1)
  obtain ⟨k0, k1, k2, g1, _, _, _, _⟩ := HC.out.facts

  go_wp2
  go_light
  go_ret2
  exact ⟨rfl, HC.out.set_ m⟩
set_option maxHeartbeats 2000000 in
theorem num_no {N S T I b o cap : Nat} {bs : List Nat} {i : Nat} {v : Value} {L : List Lex} {W0 : World} {j : Nat} {W : World} (h : Ctx N S T I b o cap bs i v L W0 j W) (hj : j ≤ bs.length) (ht : takeS bs j = none) :
    Calls Tryz.prog 228 #[.pointer (some ⟨T, 0, none⟩), .pointer (some ⟨I, 0, none⟩)] W (Kept N S T I b o cap bs i v L W0 j (.tuple #[.int .i64 0, .bool false])) := by
  have Hv := Lib.hid (show takeVal bs j = .tuple #[.int .i64 0, .int .i64 0, .int .i64 (takeErr bs j)] by unfold takeVal; rw [ht])
  have hk := takeErr_pos bs j
  generalize takeErr bs j = k at *
  have hk0 : (k != 0) = true := by rw [bne_iff_ne]; omega
  clear ht hk
  obtain ⟨c0, c1, c2, f1, l0, l1, l2, l3⟩ := h.facts
  have hl := h.hA.2.1
  have HK := Lib.hid h
  have HE := Lib.hid (fun w hA => take_at b o cap bs j w hA h.hcap hj)
  clear h
  go_enter Tryz.func228, Tryz.ntmps228
  go_wp2_with fail
  go_region_held3 (fun w' => (∀ b o, b < W.heap.size → w'.cell? ⟨b, o, none⟩ = W.cell? ⟨b, o, none⟩) ∧ Since W.heap.size W w') (first | (with_reducible exact HK2.out) | (with_reducible exact since_start (Nat.le_refl _)))
    (first | (go_at_call 229; refine (HE.out _ (bytes_since (by assumption) HK.out.hA l3)).mono ?_; rintro e w' ⟨rfl, hb'⟩; rw [Hv.out]; have hK := since_step (by assumption) hb'; have HK2 := Lib.hid hK; clear hK))
  have HC := Lib.hid (HK.out.below HK2.out.2.1)
  obtain ⟨k0, k1, k2, g1, _, _, _, _⟩ := HC.out.facts

  go_wp2
  go_light
  go_ret2
  exact ⟨rfl, HC.out⟩

end Go.Proofs.YtfekpkelmliejaaGreatDoor
namespace Go.Proofs.YtfekpkelmliejaaGreatDoor
set_option linter.unusedSimpArgs false
set_option linter.unusedVariables false

theorem lexS_dot {bs : List Nat} {i : Nat} (h : byteAt bs i = 46) : lexS bs i = .ok (⟨1, i, dotSet, 0, 0⟩, i + 1) := by
  unfold lexS; rw [if_pos h]
theorem lexS_esc {bs : List Nat} {i c j : Nat} (h : byteAt bs i = 92) (he : escS bs i = some (c, j)) : lexS bs i = .ok (⟨1, i, among [c] 1, 0, 0⟩, j) := by
  unfold lexS; rw [if_neg (by omega), if_pos h, he]
theorem lexS_esc_no {bs : List Nat} {i : Nat} (h : byteAt bs i = 92) (he : escS bs i = none) : lexS bs i = .error (14, i) := by
  unfold lexS; rw [if_neg (by omega), if_pos h, he]
theorem lexS_class {bs : List Nat} {i : Nat} {p : Nat → Bool} {j : Nat} (h : byteAt bs i = 91) (he : readS bs i = .ok (p, j)) : lexS bs i = .ok (⟨1, i, p, 0, 0⟩, j) := by
  unfold lexS; rw [if_neg (by omega), if_neg (by omega), if_pos h, he]
theorem lexS_class_no {bs : List Nat} {i : Nat} {e : Wrong} (h : byteAt bs i = 91) (he : readS bs i = .error e) : lexS bs i = .error e := by
  unfold lexS; rw [if_neg (by omega), if_neg (by omega), if_pos h, he]
theorem lexS_rep {bs : List Nat} {i : Nat} (h : byteAt bs i = 123) : lexS bs i = repS bs i := by
  unfold lexS; rw [if_neg (by omega), if_neg (by omega), if_neg (by omega), if_pos h]
theorem lexS_form {bs : List Nat} {i : Nat} (h : byteAt bs i = 93 ∨ byteAt bs i = 125 ∨ byteAt bs i = 10) : lexS bs i = .error (3, i) := by
  unfold lexS; rw [if_neg (by omega), if_neg (by omega), if_neg (by omega), if_neg (by omega), if_pos h]
/-- A byte that next leaves to sign. -/
def Common (c : Nat) : Prop := c ≠ 46 ∧ c ≠ 92 ∧ c ≠ 91 ∧ c ≠ 123 ∧ c ≠ 93 ∧ c ≠ 125 ∧ c ≠ 10
theorem lexS_sign {bs : List Nat} {i : Nat} (h : Common (byteAt bs i)) (hk : signKind (byteAt bs i) ≠ 0) : lexS bs i = .ok (⟨signKind (byteAt bs i), i, noSet, 0, 0⟩, i + 1) := by
  obtain ⟨h1, h2, h3, h4, h5, h6, h7⟩ := h
  unfold lexS; rw [if_neg h1, if_neg h2, if_neg h3, if_neg h4, if_neg (by omega), if_pos hk]
theorem lexS_own {bs : List Nat} {i : Nat} (h : Common (byteAt bs i)) (hk : signKind (byteAt bs i) = 0) : lexS bs i = .ok (⟨1, i, among [byteAt bs i] 1, 0, 0⟩, i + 1) := by
  obtain ⟨h1, h2, h3, h4, h5, h6, h7⟩ := h
  unfold lexS; rw [if_neg h1, if_neg h2, if_neg h3, if_neg h4, if_neg (by omega), if_neg (by omega)]

end Go.Proofs.YtfekpkelmliejaaGreatDoor
namespace Go.Proofs.YtfekpkelmliejaaGreatDoor
open Go.RowKit
set_option linter.unusedSimpArgs false
set_option linter.unusedVariables false
set_option maxRecDepth 100000

/-- What stands at a place when i rounds have turned a list from its two ends. -/
def revAt {α : Type} (l : List α) (i p : Nat) : Option α := if p < i ∨ l.length - i ≤ p then l[l.length - 1 - p]? else l[p]?
/-- A row of bytes in a block of its own, some rounds turned. -/
def RevB (w0 : World) (g : Nat) (bs : List Nat) (i : Nat) (w : World) : Prop :=
  ∃ cur : Array Value, Blk w g 5 cur ∧ bs.length ≤ cur.size ∧ (∀ p, p < bs.length → cur[p]? = (revAt bs i p).map fun n : Nat => Value.int .u8 (n : Int)) ∧ w0.grownBy w (some g)
theorem RevB.drew {w0 w : World} {g i : Nat} {bs : List Nat} (h : RevB w0 g bs i w) : RevB w0 g bs i w.drew := by
  obtain ⟨cur, h1, h2, h3, h4⟩ := h
  exact ⟨cur, h1.drew, h2, h3, ⟨h4.os, h4.tape, h4.output, h4.size, h4.block⟩⟩
end Go.Proofs.YtfekpkelmliejaaGreatDoor
namespace Go.Proofs.YtfekpkelmliejaaGreatDoor
open Go.RowKit
set_option linter.unusedSimpArgs false
set_option linter.unusedVariables false
set_option maxRecDepth 100000

/-- A row of nodes' cells in a block, some rounds turned. -/
def RevN (w0 : World) (g : Nat) (gs : List (Nd × Option Addr × Nat)) (i : Nat) (w : World) : Prop :=
  ∃ cur : Array Value, Blk w g 28 cur ∧ gs.length * 8 ≤ cur.size ∧ (∀ p a, p < gs.length → revAt gs i p = some a → ∀ j, j < 8 → cur[p * 8 + j]? = (ndCell a.1 a.2.1 a.2.2)[j]?) ∧ w0.grownBy w (some g)
theorem RevN.drew {w0 w : World} {g i : Nat} {gs : List (Nd × Option Addr × Nat)} (h : RevN w0 g gs i w) : RevN w0 g gs i w.drew := by
  obtain ⟨cur, h1, h2, h3, h4⟩ := h
  exact ⟨cur, h1.drew, h2, h3, ⟨h4.os, h4.tape, h4.output, h4.size, h4.block⟩⟩
end Go.Proofs.YtfekpkelmliejaaGreatDoor
namespace Go.Proofs.YtfekpkelmliejaaGreatDoor
open Go.RowKit
set_option linter.unusedSimpArgs false
set_option linter.unusedVariables false
set_option maxRecDepth 100000

theorem addr_plusR (b o j : Nat) : (⟨b, o, none⟩ : Addr).add j = ⟨b, o + j, none⟩ := by unfold Addr.add; split <;> simp_all
end Go.Proofs.YtfekpkelmliejaaGreatDoor
namespace Go.Proofs.YtfekpkelmliejaaGreatDoor
open Go.RowKit
set_option linter.unusedSimpArgs false
set_option linter.unusedVariables false
set_option maxRecDepth 100000

end Go.Proofs.YtfekpkelmliejaaGreatDoor
namespace Go.Proofs.YtfekpkelmliejaaGreatDoor
open Go.RowKit
set_option linter.unusedSimpArgs false
set_option linter.unusedVariables false
set_option maxRecDepth 100000

end Go.Proofs.YtfekpkelmliejaaGreatDoor
namespace Go.Proofs.YtfekpkelmliejaaGreatDoor
open Go.RowKit
set_option linter.unusedSimpArgs false
set_option linter.unusedVariables false
set_option maxRecDepth 100000

end Go.Proofs.YtfekpkelmliejaaGreatDoor
namespace Go.Proofs.YtfekpkelmliejaaGreatDoor
open Go.RowKit
set_option linter.unusedSimpArgs false
set_option linter.unusedVariables false
set_option maxRecDepth 100000

end Go.Proofs.YtfekpkelmliejaaGreatDoor
