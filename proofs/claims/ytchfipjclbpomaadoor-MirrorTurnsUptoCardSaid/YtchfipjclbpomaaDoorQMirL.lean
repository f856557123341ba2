/-
  The walk of MirrorTurns, and knows of chapter 18.
-/
import Derived.Test.YtchfipjclbpomaaDoorQMirT
import Derived.Test.YtchfipjclbpomaaDoorQMirR
import Derived.Test.YtchfipjclbpomaaDoorQMirW
import Derived.Test.YtchfipjclbpomaaDoorQNSame
import Derived.Test.YtchfipjclbpomaaDoorQShowL
import Derived.Test.YtchfipjclbpomaaDoorQText07
import Derived.Test.YtchfipjclbpomaaDoorQZ02
import Derived.Deep.RegionHeldLaw
namespace Go.Proofs.YtchfipjclbpomaaDoor
open Go.RowKit
set_option linter.unusedSimpArgs false
set_option linter.unusedVariables false
set_option maxRecDepth 100000

/-- The string of a slice of bytes. -/
theorem bytes_strM {w : World} {B : Nat} {A : Option Addr} {bs : List Nat} (cap : Nat) (h : BytesAt w B A bs) : (convert 37 9 (.slice A bs.length cap)).run Tryd.prog w = .ok (.string (strOf bs)) w := by
  by_cases h0 : bs = []
  · subst h0
    cases A with
    | none =>
      rw [run_convert_bytes_string w _ _ 5 none _ _ Tryd.underlying37 Tryd.underlying5 Tryd.underlying9]
      rfl
    | some a => exact run_str w a cap [] (fun j u hu => by simp at hu)
  · obtain ⟨b, o, rfl, _, hc⟩ := h.2.2 (List.length_pos_iff.2 h0)
    refine run_str w ⟨b, o, none⟩ cap bs (fun j u hu => ?_)
    have hj : j < bs.length := by
      rcases Nat.lt_or_ge j bs.length with h1 | h1
      · exact h1
      · rw [List.getElem?_eq_none (by simpa using h1)] at hu; cases hu
    rw [addr_plusR, hc j hj]
    rw [List.getElem?_map, List.getElem?_eq_getElem hj] at hu
    rw [← byteAt_get hj]
    simpa using hu
/-- The tree of the chapter's example. -/
def kt18 : Nd := ⟨4, 0, Trees.of [leafN (maskOf (among [97] 1)), ⟨4, 0, Trees.of [leafN (maskOf (among [98] 1)), leafN (maskOf (among [99] 1))], 0, 0⟩], 0, 0⟩
theorem parse18 : parseS [97, 40, 98, 99, 41] = .ok kt18 := by kernel_rfl
theorem text18 : txtV (showT kt18.turn) = .tuple #[.string ⟨#[40, 99, 98, 41, 97]⟩, .int .i64 0] := by kernel_rfl
theorem tree18 (w : World) (n : Nat) (hn : n = w.heap.size) :
    Calls Tryd.prog 8 #[.slice (some ⟨n, 0, none⟩) 5 5] (w.alloc (.cells #[.int .u8 97, .int .u8 40, .int .u8 98, .int .u8 99, .int .u8 41] 5 (5, 6))) (TreeOut (.ok kt18) (w.alloc (.cells #[.int .u8 97, .int .u8 40, .int .u8 98, .int .u8 99, .int .u8 41] 5 (5, 6)))) := by
  have h := text_go07 (some ⟨n, 0, none⟩) 5 [97, 40, 98, 99, 41] _ (bytes_new w n [97, 40, 98, 99, 41] _ (5, 6) hn rfl (by decide) (by decide)) (by decide)
  rw [parse18] at h
  exact h
theorem abc18 (w : World) (n : Nat) (hn : n = w.heap.size) :
    Calls Tryd.prog 12 #[.slice (some ⟨n, 0, none⟩) 3 3] (w.alloc (.cells #[.int .u8 97, .int .u8 98, .int .u8 99] 5 (3, 4))) fun e w' => ∃ A' cap', e = .returned (.slice A' 3 cap') ∧ Below (w.alloc (.cells #[.int .u8 97, .int .u8 98, .int .u8 99] 5 (3, 4))).heap.size (w.alloc (.cells #[.int .u8 97, .int .u8 98, .int .u8 99] 5 (3, 4))) w' ∧ (convert 37 9 (.slice A' 3 cap')).run Tryd.prog w' = .ok (.string ⟨#[99, 98, 97]⟩) w' := by
  have h := word18_go (some ⟨n, 0, none⟩) [97, 98, 99] 3 _ _ (bytes_new w n [97, 98, 99] _ (3, 4) hn rfl (by decide) (by decide))
  refine h.mono ?_
  rintro e w' ⟨A', cap', rfl, hb, hat⟩
  exact ⟨A', cap', rfl, hb, bytes_strM cap' hat⟩
set_option maxHeartbeats 2000000 in
theorem knows18_go (w : World) (hT : TabAt 0 Lib.deBruijn64tab w) (hw0 : 0 < w.heap.size) :
    Calls Tryd.prog 17 #[] w fun e w' => e = .returned (.bool true) ∧ Below w.heap.size w w' := by
  have kc := fun (w : World) (C : Array Value) (n c : Nat) => Lib.run_convert_bytes_const (P := Tryd.prog) w 37 5 C n c Tryd.underlying37 Tryd.underlying5
  have HTB := Lib.hid hT
  clear hT
  go_enter Tryd.func17, Tryd.ntmps17
  go_wp2_with fail
  refine (tree18 _ _ rfl).mono ?_
  rintro e w1 ⟨B, cap, rfl, hb1, hc1, ht1⟩
  have HB1 := Lib.hid (((Below.refl w.heap.size w).alloc (Nat.le_refl _) (.cells #[.int .u8 97, .int .u8 40, .int .u8 98, .int .u8 99, .int .u8 41] 5 (5, 6))).trans (hb1.mono (by simp)))
  have hb2 : Below w1.heap.size w1 ((w1.alloc (.cells (ndA kt18 B cap) 28)).alloc (.cells #[.int .i64 0, .int .i64 0] 34)) := ((Below.refl _ _).alloc (Nat.le_refl _) _).alloc (by simp) _
  have HB2 := Lib.hid (HB1.out.trans (hb2.mono HB1.out.size))
  have hS := turn_go kt18 _ B cap _ (by decide) (ht1.below hb2)
  have HS := Lib.hid hS
  clear hb1 ht1 hc1 hb2 hS
  unfold ndV at HS ⊢
  unfold ndA at HS HB2
  dsimp only
  go_wp2_with fail
  refine HS.out.mono ?_
  rintro e w2 ⟨B3, cap3, rfl, hb3, hc3, ht3⟩
  have HB3 := Lib.hid (HB2.out.trans (hb3.mono HB2.out.size))
  have hX := stext_go kt18.turn B3 cap3 w2 (by decide) (ht3.weak (fun b _ h => h)) (TabAt.below HB3.out hw0 HTB.out) (Nat.lt_of_lt_of_le hw0 HB3.out.size)
  rw [text18] at hX
  have HX := Lib.hid hX
  clear hb3 hc3 ht3 hX HS HB2
  unfold ndV at HX
  dsimp only
  go_wp2_with fail
  refine HX.out.mono ?_
  rintro e w3 ⟨rfl, hb4⟩
  have HB4 := Lib.hid (HB3.out.trans (hb4.mono HB3.out.size))
  clear hb4 HX HB3
  dsimp only
  go_wp2_with fail
  refine (abc18 _ _ rfl).mono ?_
  rintro e w4 ⟨A5, cap5, rfl, hb5, hcv⟩
  have HB5 := Lib.hid ((HB4.out.alloc HB4.out.size (.cells #[.int .u8 97, .int .u8 98, .int .u8 99] 5 (3, 4))).trans (hb5.mono (by have := HB4.out.size; simp; omega)))
  clear hb5 kc
  dsimp only
  go_wp2
  go_light
  go_ret
  exact ⟨rfl, HB5.out⟩
set_option maxHeartbeats 16000000 in
theorem turns_go (A : Option Addr) (cb : Nat) (bs : List Nat) (x : Nd) (B : Option Addr) (cap : Nat) (w : World) (hA : BytesAt w w.heap.size A bs) (hs : x.size ≤ 2000000) (ht : TreesAt w (fun b => b < w.heap.size) x.kids B) (hT : TabAt 0 Lib.deBruijn64tab w) (hw0 : 0 < w.heap.size) :
    Calls Tryd.prog 5 #[.slice A bs.length cb, ndV x B cap] w fun e w' => e = .returned (.bool true) ∧ Below w.heap.size w w' := by
  have hb0 : Below w.heap.size w (w.alloc (.cells #[.int .i64 x.kind, .int .u64 ((word (x.set.testBit) 0 : Nat) : Int), .int .u64 ((word (x.set.testBit) 1 : Nat) : Int), .int .u64 ((word (x.set.testBit) 2 : Nat) : Int), .int .u64 ((word (x.set.testBit) 3 : Nat) : Int), .slice B x.kids.len cap, .int .i64 x.lo, .int .i64 x.hi] 28)) := (Below.refl _ _).alloc (Nat.le_refl _) _
  have HB5 := Lib.hid hb0
  have hX5 := Blk.new w 28 #[.int .i64 x.kind, .int .u64 ((word (x.set.testBit) 0 : Nat) : Int), .int .u64 ((word (x.set.testBit) 1 : Nat) : Int), .int .u64 ((word (x.set.testBit) 2 : Nat) : Int), .int .u64 ((word (x.set.testBit) 3 : Nat) : Int), .slice B x.kids.len cap, .int .i64 x.lo, .int .i64 x.hi]
  have hA5 := (hA.below hb0).more hb0.size
  have ht5 := (ht.below hb0).weak (Q := fun b => b < (w.alloc (.cells #[.int .i64 x.kind, .int .u64 ((word (x.set.testBit) 0 : Nat) : Int), .int .u64 ((word (x.set.testBit) 1 : Nat) : Int), .int .u64 ((word (x.set.testBit) 2 : Nat) : Int), .int .u64 ((word (x.set.testBit) 3 : Nat) : Int), .slice B x.kids.len cap, .int .i64 x.lo, .int .i64 x.hi] 28)).heap.size) (fun b h _ => Nat.lt_of_lt_of_le h hb0.size)
  have hT5 := TabAt.below hb0 hw0 hT
  have hw5 := Nat.lt_of_lt_of_le hw0 hb0.size
  unfold ndV
  clear hA ht hT hw0 hb0
  go_enter Tryd.func5, Tryd.ntmps5
  go_upto_region 1 with fail
  generalize w.alloc (.cells #[.int .i64 x.kind, .int .u64 ((word (x.set.testBit) 0 : Nat) : Int), .int .u64 ((word (x.set.testBit) 1 : Nat) : Int), .int .u64 ((word (x.set.testBit) 2 : Nat) : Int), .int .u64 ((word (x.set.testBit) 3 : Nat) : Int), .slice B x.kids.len cap, .int .i64 x.lo, .int .i64 x.hi] 28) = w5 at *
  have H1 := Lib.hid (fun (w' : World) (h : (∀ b o, b < w5.heap.size → w'.cell? ⟨b, o, none⟩ = w5.cell? ⟨b, o, none⟩) ∧ Since w5.heap.size w5 w') => (word18_go A bs cb w'.heap.size w' ((hA5.below h.2.1).more h.2.1.size)).mono (R' := fun e w2 => ∃ A' cap', e = .returned (.slice A' bs.length cap') ∧ Below w'.heap.size w' w2 ∧ Below w2.heap.size w2 w2 ∧ ∀ W, Below w2.heap.size w2 W → (convert 37 9 (.slice A' bs.length cap')).run Tryd.prog W = .ok (.string (strOf bs.reverse)) W) (fun e w2 hq => by
    obtain ⟨A', cap', rfl, hb, hat⟩ := hq
    refine ⟨A', cap', by rw [List.length_reverse], hb, Below.refl _ _, fun W hW => ?_⟩
    have := bytes_strM cap' (hat.below hW)
    rw [List.length_reverse] at this
    exact this))
  have H2 := Lib.hid (fun (w' : World) (h : (∀ b o, b < w5.heap.size → w'.cell? ⟨b, o, none⟩ = w5.cell? ⟨b, o, none⟩) ∧ Since w5.heap.size w5 w') => (rword18_go A bs cb w' ((hA5.below h.2.1).more h.2.1.size)).mono (R' := fun e w2 => ∃ v, e = .returned v ∧ Below w'.heap.size w' w2 ∧ Below w2.heap.size w2 w2 ∧ ∀ W, Below w2.heap.size w2 W → (convert 37 9 v).run Tryd.prog W = .ok (.string (strOf bs.reverse)) W) (fun e w2 hq => by
    obtain ⟨v, rfl, hb, ho⟩ := hq
    exact ⟨v, rfl, hb, Below.refl _ _, fun W hW => own_text (own_below ho hW)⟩))
  have HTR := Lib.hid (fun (w' : World) (h : (∀ b o, b < w5.heap.size → w'.cell? ⟨b, o, none⟩ = w5.cell? ⟨b, o, none⟩) ∧ Since w5.heap.size w5 w') => turn_go x _ B cap w' (by omega) (ht5.below h.2.1))
  have HRT := Lib.hid (fun (w' : World) (h : (∀ b o, b < w5.heap.size → w'.cell? ⟨b, o, none⟩ = w5.cell? ⟨b, o, none⟩) ∧ Since w5.heap.size w5 w') => rturn_go x _ B cap w' (by omega) (ht5.below h.2.1))
  have HTT := Lib.hid (fun (w' : World) (P' : Nat → Prop) (B' : Option Addr) (cap' : Nat) (hk : TreesAt w' P' x.turn.kids B') => by
    have := turn_go x.turn P' B' cap' w' (by rw [x.turn_size]; omega) hk
    rw [x.turn_turn] at this
    exact this)
  have HS1 := Lib.hid (fun (w' : World) (P1 P2 : Nat → Prop) (B1 B2 : Option Addr) (c1 c2 : Nat) (h1 : TreesAt w' P1 x.turn.kids B1) (h2 : TreesAt w' P2 x.turn.kids B2) => nsame_go x.turn P1 P2 B1 B2 c1 c2 w' (by rw [x.turn_size]; omega) h1 h2)
  have HS2 := Lib.hid (fun (w' : World) (h : (∀ b o, b < w5.heap.size → w'.cell? ⟨b, o, none⟩ = w5.cell? ⟨b, o, none⟩) ∧ Since w5.heap.size w5 w') (P1 : Nat → Prop) (B1 : Option Addr) (c1 : Nat) (h1 : TreesAt w' P1 x.kids B1) => nsame_go x P1 _ B1 B c1 cap w' (by omega) h1 (ht5.below h.2.1))
  have HK := Lib.hid (fun (w' : World) (h : (∀ b o, b < w5.heap.size → w'.cell? ⟨b, o, none⟩ = w5.cell? ⟨b, o, none⟩) ∧ Since w5.heap.size w5 w') => knows18_go w' (TabAt.below h.2.1 hw5 hT5) (Nat.lt_of_lt_of_le hw5 h.2.1.size))
  have n0 := hX5.cell 0
  have n1 := hX5.cell 1
  have n2 := hX5.cell 2
  have n3 := hX5.cell 3
  have n4 := hX5.cell 4
  have n5 := hX5.cell 5
  have n6 := hX5.cell 6
  have n7 := hX5.cell 7
  have hlx := hX5.lt
  simp only [List.getElem?_toArray, List.getElem?_cons_zero, List.getElem?_cons_succ] at n0 n1 n2 n3 n4 n5 n6 n7
  unfold ndV at HTR HRT HTT HS1 HS2
  clear hX5 hA5 ht5 hT5 hw5
  generalize x.turn = y at *
  generalize strOf bs.reverse = sr at *
  have T1 := Lib.hid trivial
  have T2 := Lib.hid trivial
  have T3 := Lib.hid trivial
  refine wp_region_noPanic ?_
  go_region_held_law (fun w' => (∀ b o, b < w5.heap.size → w'.cell? ⟨b, o, none⟩ = w5.cell? ⟨b, o, none⟩) ∧ Since w5.heap.size w5 w') (first | exact since_start (Nat.le_refl _) | exact since_step (by assumption) (by assumption))
    (first
      | (go_at_call 12; refine (H1.out _ (by assumption)).mono ?_; rintro e w' ⟨A', cap', rfl, hb', hr', hcv'⟩)
      | (go_at_call 13; refine (H2.out _ (by assumption)).mono ?_; rintro e w' ⟨v', rfl, hb', hr', hcv'⟩)
      | (go_at_call 15; (first | (clear T1; refine (HTR.out _ (by assumption)).mono ?_) | (clear T2; refine (HTR.out _ (by assumption)).mono ?_) | (refine (HTT.out _ _ _ _ (by assumption)).mono ?_)); rintro e w' ⟨B', cap', rfl, hb', hc', ht'⟩)
      | (go_at_call 16; refine (HRT.out _ (by assumption)).mono ?_; rintro e w' ⟨B', cap', rfl, hb', hc', ht'⟩)
      | (go_at_call 14; (first | (clear T3; refine (HS1.out _ _ _ _ _ _ _ (by first | assumption | exact TreesAt.below (by assumption) (by assumption)) (by first | assumption | exact TreesAt.below (by assumption) (by assumption))).mono ?_) | (refine (HS2.out _ (by assumption) _ _ _ (by assumption)).mono ?_)); rintro e w' ⟨rfl, hb'⟩)
      | (go_at_call 17; refine (HK.out _ (by assumption)).mono ?_; rintro e w' ⟨rfl, hb'⟩))
  all_goals
    refine NoPanic.normal ?_
    rename_i hS9
    have HB9 := Lib.hid (HB5.out.trans (hS9.2.1.mono HB5.out.size))
    clear hS9
    go_wp2
    go_light
    go_ret
    exact ⟨rfl, HB9.out⟩
end Go.Proofs.YtchfipjclbpomaaDoor
