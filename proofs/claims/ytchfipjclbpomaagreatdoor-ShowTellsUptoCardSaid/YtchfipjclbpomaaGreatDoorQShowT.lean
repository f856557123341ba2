/-
  The walk of ShowTells, and knows of chapter 08.
-/
import Derived.Test.YtchfipjclbpomaaGreatDoorQShowL
import Derived.Test.YtchfipjclbpomaaGreatDoorQSame
import Derived.Test.YtchfipjclbpomaaGreatDoorQText07
namespace Go.Proofs.YtchfipjclbpomaaGreatDoor
open Go.RowKit
set_option linter.unusedSimpArgs false
set_option linter.unusedVariables false
set_option maxRecDepth 100000

/-- The tree of the chapter's example. -/
def kt08 : Nd := ⟨4, 0, Trees.of [⟨5, 0, Trees.of [leafN (maskOf (among [97] 1)), leafN (maskOf (among [98] 1))], 0, 0⟩, ⟨6, 0, Trees.of [leafN (maskOf (among [97] 1))], 0, 0⟩], 0, 0⟩
theorem parse08 : parseS [40, 40, 97, 41, 124, 98, 41, 40, 97, 42, 41] = .ok kt08 := by kernel_rfl
theorem text08 : txtV (showT kt08) = .tuple #[.string ⟨#[40, 97, 124, 98, 41, 97, 42]⟩, .int .i64 0] := by kernel_rfl
theorem tree08 (w : World) (n : Nat) (hn : n = w.heap.size) :
    Calls Tryz.prog 23 #[.slice (some ⟨n, 0, none⟩) 11 11] (w.alloc (.cells #[.int .u8 40, .int .u8 40, .int .u8 97, .int .u8 41, .int .u8 124, .int .u8 98, .int .u8 41, .int .u8 40, .int .u8 97, .int .u8 42, .int .u8 41] 5 (11, 12))) (TreeOut (.ok kt08) (w.alloc (.cells #[.int .u8 40, .int .u8 40, .int .u8 97, .int .u8 41, .int .u8 124, .int .u8 98, .int .u8 41, .int .u8 40, .int .u8 97, .int .u8 42, .int .u8 41] 5 (11, 12)))) := by
  have h := text_go07 (some ⟨n, 0, none⟩) 11 [40, 40, 97, 41, 124, 98, 41, 40, 97, 42, 41] _ (bytes_new w n [40, 40, 97, 41, 124, 98, 41, 40, 97, 42, 41] _ (11, 12) hn rfl (by decide) (by decide)) (by decide)
  rw [parse08] at h
  exact h
set_option maxHeartbeats 2000000 in
theorem knows08_go (w : World) (hT : TabAt 0 Lib.deBruijn64tab w) (hw0 : 0 < w.heap.size) :
    Calls Tryz.prog 10 #[] w fun e w' => e = .returned (.bool true) ∧ Below w.heap.size w w' := by
  have kc := fun (w : World) (C : Array Value) (n c : Nat) => Lib.run_convert_bytes_const (P := Tryz.prog) w 60 5 C n c Tryz.underlying60 Tryz.underlying5
  have HTB := Lib.hid hT
  clear hT
  go_enter Tryz.func10, Tryz.ntmps10
  go_wp2_with fail
  refine (tree08 _ _ rfl).mono ?_
  rintro e w1 ⟨B, cap, rfl, hb1, hc1, ht1⟩
  have HB1 := Lib.hid (((Below.refl w.heap.size w).alloc (Nat.le_refl _) (.cells #[.int .u8 40, .int .u8 40, .int .u8 97, .int .u8 41, .int .u8 124, .int .u8 98, .int .u8 41, .int .u8 40, .int .u8 97, .int .u8 42, .int .u8 41] 5 (11, 12))).trans (hb1.mono (by simp)))
  have hb2 : Below w1.heap.size w1 ((w1.alloc (.cells (ndA kt08 B cap) 28)).alloc (.cells #[.int .i64 0, .int .i64 0] 51)) := ((Below.refl _ _).alloc (Nat.le_refl _) _).alloc (by simp) _
  have HB2 := Lib.hid (HB1.out.trans (hb2.mono HB1.out.size))
  have hX := (Blk.new w1 28 (ndA kt08 B cap)).alloc (.cells #[.int .i64 0, .int .i64 0] 51)
  have ht2 := (ht1.below hb2).weak (Q := fun b => b < ((w1.alloc (.cells (ndA kt08 B cap) 28)).alloc (.cells #[.int .i64 0, .int .i64 0] 51)).heap.size) (fun b _ h => h)
  have hS := stext_go kt08 B cap _ (by decide) ht2 (TabAt.below HB2.out hw0 HTB.out) (Nat.lt_of_lt_of_le hw0 HB2.out.size)
  rw [text08] at hS
  have HS := Lib.hid hS
  clear hb1 ht1 hc1 hb2 hX ht2 hS kc
  unfold ndV at HS ⊢
  unfold ndA at HS HB2
  dsimp only
  go_wp2_with fail
  refine HS.out.mono ?_
  rintro e w2 ⟨rfl, hb3⟩
  have HB3 := Lib.hid (HB2.out.trans (hb3.mono HB2.out.size))
  clear hb3 HS
  dsimp only
  go_wp2
  go_light
  go_ret
  exact ⟨rfl, HB3.out⟩
/-- Whatever it is, it is a row of lexemes and a kind. -/
theorem LexsOut.any (r : Except Int (List Lex)) (hr : ∀ L, r = .ok L → L.length ≤ 24576) : ∃ (L : List Lex) (k : Int), L.length ≤ 24576 ∧ ∀ w e w', LexsOut r w e w' → ∃ v, e = .returned (.tuple #[v, .int .i64 k]) ∧ Below w.heap.size w w' ∧ w'.ownsRow w.heap.size 58 8 v L.length (lexCells L) := by
  cases r with
  | error k => exact ⟨[], k, by simp, fun w e w' h => ⟨_, h.2, h.1, World.ownsRow_nil _ _ _ _⟩⟩
  | ok L => exact ⟨L, 0, hr L rfl, fun w e w' h => by obtain ⟨hb, v, he, ho⟩ := h; exact ⟨v, he, hb, ho⟩⟩
theorem txtV_any (r : Except Int (List Nat)) : ∃ (s : ByteArray) (k : Int), txtV r = .tuple #[.string s, .int .i64 k] := by
  cases r with
  | error k => exact ⟨_, _, rfl⟩
  | ok t => exact ⟨_, _, rfl⟩
set_option maxHeartbeats 4000000 in
theorem tells_go (x : Nd) (B : Option Addr) (cap : Nat) (w : World) (hs : x.size ≤ 140737488355328) (ht : TreesAt w (fun b => b < w.heap.size) x.kids B) (hT : TabAt 0 Lib.deBruijn64tab w) (hw0 : 0 < w.heap.size) :
    Calls Tryz.prog 3 #[ndV x B cap] w fun e w' => e = .returned (.bool true) ∧ Below w.heap.size w w' := by
  obtain ⟨L, k, hL, hany⟩ := LexsOut.any (lexsS x) (fun L h => (lexsS_form h).2.1)
  obtain ⟨s, m, htx⟩ := txtV_any (showT x)
  have hF : ∀ w', Below w.heap.size w w' → TreesAt w' (fun b => b < w'.heap.size) x.kids B := fun w' hb => (ht.below hb).weak (fun b h _ => Nat.lt_of_lt_of_le h hb.size)
  have H1 := Lib.hid (fun (w1 : World) (hb : Below w.heap.size w w1) => Calls.mono (slexs_go x B cap w1 (by omega) (hF w1 hb)) (fun e w' h => hany w1 e w' h))
  have H2 := Lib.hid (fun (w1 : World) (hb : Below w.heap.size w w1) => Calls.mono (rlexs_go x B cap w1 hs (hF w1 hb)) (fun e w' h => hany w1 e w' h))
  have H3 := Lib.hid (fun (w1 : World) (hb : Below w.heap.size w w1) => stext_go x B cap w1 (by omega) (hF w1 hb) (TabAt.below hb hw0 hT) (Nat.lt_of_lt_of_le hw0 hb.size))
  have H4 := Lib.hid (fun (w1 : World) (hb : Below w.heap.size w w1) => rtext8_go x B cap w1 hs (hF w1 hb))
  have H5 := Lib.hid (fun (w1 : World) (hb : Below w.heap.size w w1) => knows08_go w1 (TabAt.below hb hw0 hT) (Nat.lt_of_lt_of_le hw0 hb.size))
  rw [htx] at H3 H4
  have HX := Lib.hid (Blk.new w 28 #[.int .i64 x.kind, .int .u64 ((word (x.set.testBit) 0 : Nat) : Int), .int .u64 ((word (x.set.testBit) 1 : Nat) : Int), .int .u64 ((word (x.set.testBit) 2 : Nat) : Int), .int .u64 ((word (x.set.testBit) 3 : Nat) : Int), .slice B x.kids.len cap, .int .i64 x.lo, .int .i64 x.hi])
  have HB := Lib.hid ((Below.refl w.heap.size w).alloc (Nat.le_refl _) (.cells #[.int .i64 x.kind, .int .u64 ((word (x.set.testBit) 0 : Nat) : Int), .int .u64 ((word (x.set.testBit) 1 : Nat) : Int), .int .u64 ((word (x.set.testBit) 2 : Nat) : Int), .int .u64 ((word (x.set.testBit) 3 : Nat) : Int), .slice B x.kids.len cap, .int .i64 x.lo, .int .i64 x.hi] 28))
  have hkk : (k == k) = true := by simp
  have hmm : (m == m) = true := by simp
  clear hF htx hany ht hT
  unfold ndV at H1 H2 H3 H4 ⊢
  have HC := Lib.hid (H1.out _ HB.out)
  go_enter Tryz.func3, Tryz.ntmps3
  go_wp2_with fail
  refine HC.out.mono ?_
  rintro e w1 ⟨v1, rfl, hb1, ho1⟩
  have hX := HX.out.below hb1 HX.out.lt
  have HB1 := Lib.hid (HB.out.trans (hb1.mono HB.out.size))
  have HO1 := Lib.hid ho1
  have HC := Lib.hid (H2.out _ HB1.out)
  have n0 := (hX).cell 0
  have n1 := (hX).cell 1
  have n2 := (hX).cell 2
  have n3 := (hX).cell 3
  have n4 := (hX).cell 4
  have n5 := (hX).cell 5
  have n6 := (hX).cell 6
  have n7 := (hX).cell 7
  have hlx := (hX).lt
  simp only [List.getElem?_toArray, List.getElem?_cons_zero, List.getElem?_cons_succ] at n0 n1 n2 n3 n4 n5 n6 n7
  have HX := Lib.hid hX
  clear hb1 hX ho1
  dsimp only
  go_wp2_with fail
  refine HC.out.mono ?_
  rintro e w2 ⟨v2, rfl, hb2, ho2⟩
  have hX := HX.out.below hb2 HX.out.lt
  have HB2 := Lib.hid (HB1.out.trans (hb2.mono HB1.out.size))
  have HO1 := Lib.hid (own_below HO1.out hb2)
  have HO2 := Lib.hid ho2
  have HC := Lib.hid (H3.out _ HB2.out)
  clear n0 n1 n2 n3 n4 n5 n6 n7 hlx
  have n0 := (hX).cell 0
  have n1 := (hX).cell 1
  have n2 := (hX).cell 2
  have n3 := (hX).cell 3
  have n4 := (hX).cell 4
  have n5 := (hX).cell 5
  have n6 := (hX).cell 6
  have n7 := (hX).cell 7
  have hlx := (hX).lt
  simp only [List.getElem?_toArray, List.getElem?_cons_zero, List.getElem?_cons_succ] at n0 n1 n2 n3 n4 n5 n6 n7
  have HX := Lib.hid hX
  clear hb2 hX ho2
  dsimp only
  go_wp2_with fail
  refine HC.out.mono ?_
  rintro e w3 ⟨rfl, hb3⟩
  have hX := HX.out.below hb3 HX.out.lt
  have HB3 := Lib.hid (HB2.out.trans (hb3.mono HB2.out.size))
  have HO1 := Lib.hid (own_below HO1.out hb3)
  have HO2 := Lib.hid (own_below HO2.out hb3)
  have HC := Lib.hid (H4.out _ HB3.out)
  clear n0 n1 n2 n3 n4 n5 n6 n7 hlx
  have n0 := (hX).cell 0
  have n1 := (hX).cell 1
  have n2 := (hX).cell 2
  have n3 := (hX).cell 3
  have n4 := (hX).cell 4
  have n5 := (hX).cell 5
  have n6 := (hX).cell 6
  have n7 := (hX).cell 7
  have hlx := (hX).lt
  simp only [List.getElem?_toArray, List.getElem?_cons_zero, List.getElem?_cons_succ] at n0 n1 n2 n3 n4 n5 n6 n7
  have HX := Lib.hid hX
  clear hb3 hX
  dsimp only
  go_wp2_with fail
  refine HC.out.mono ?_
  rintro e w4 ⟨rfl, hb4⟩
  have HB4 := Lib.hid (HB3.out.trans (hb4.mono HB3.out.size))
  have HO1 := Lib.hid (own_below HO1.out hb4)
  have HO2 := Lib.hid (own_below HO2.out hb4)
  have HC := Lib.hid (same_go v1 v2 L w4 (lexRow_of HO1.out) (lexRow_of HO2.out) (by omega))
  clear n0 n1 n2 n3 n4 n5 n6 n7 hlx
  clear hb4
  dsimp only
  go_wp2_with fail
  refine HC.out.mono ?_
  rintro e w5 ⟨rfl, n, rfl⟩
  have HC := Lib.hid (H5.out (w4.drewN n) (bel_drewN HB4.out n))
  dsimp only
  go_wp2_with fail
  refine HC.out.mono ?_
  rintro e w6 ⟨rfl, hb6⟩
  have HB6 := Lib.hid ((bel_drewN HB4.out n).trans (hb6.mono (bel_drewN HB4.out n).size))
  clear hb6
  dsimp only
  go_wp2
  go_light
  go_ret
  exact ⟨rfl, HB6.out⟩
end Go.Proofs.YtchfipjclbpomaaGreatDoor
