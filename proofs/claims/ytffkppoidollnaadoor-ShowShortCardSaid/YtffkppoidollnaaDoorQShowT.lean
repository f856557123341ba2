/-
  The walk of ShowTells, and knows of chapter 08.
-/
import Derived.Test.YtffkppoidollnaaDoorQShowL
import Derived.Test.YtffkppoidollnaaDoorQSame
import Derived.Test.YtffkppoidollnaaDoorQText07
namespace Go.Proofs.YtffkppoidollnaaDoor
open Go.RowKit
set_option linter.unusedSimpArgs false
set_option linter.unusedVariables false
set_option maxRecDepth 100000

/-- The tree of the chapter's example. -/
def kt08 : Nd := ⟨4, 0, Trees.of [⟨5, 0, Trees.of [leafN (maskOf (among [97] 1)), leafN (maskOf (among [98] 1))], 0, 0⟩, ⟨6, 0, Trees.of [leafN (maskOf (among [97] 1))], 0, 0⟩], 0, 0⟩
theorem parse08 : parseS [40, 40, 97, 41, 124, 98, 41, 40, 97, 42, 41] = .ok kt08 := by kernel_rfl
theorem text08 : txtV (showT kt08) = .tuple #[.string ⟨#[40, 97, 124, 98, 41, 97, 42]⟩, .int .i64 0] := by kernel_rfl
theorem tree08 (w : World) (n : Nat) (hn : n = w.heap.size) :
    Calls Tryd.prog 4 #[.slice (some ⟨n, 0, none⟩) 11 11] (w.alloc (.cells #[.int .u8 40, .int .u8 40, .int .u8 97, .int .u8 41, .int .u8 124, .int .u8 98, .int .u8 41, .int .u8 40, .int .u8 97, .int .u8 42, .int .u8 41] 5 (11, 12))) (TreeOut (.ok kt08) (w.alloc (.cells #[.int .u8 40, .int .u8 40, .int .u8 97, .int .u8 41, .int .u8 124, .int .u8 98, .int .u8 41, .int .u8 40, .int .u8 97, .int .u8 42, .int .u8 41] 5 (11, 12)))) := by
  have h := text_go07 (some ⟨n, 0, none⟩) 11 [40, 40, 97, 41, 124, 98, 41, 40, 97, 42, 41] _ (bytes_new w n [40, 40, 97, 41, 124, 98, 41, 40, 97, 42, 41] _ (11, 12) hn rfl (by decide) (by decide)) (by decide)
  rw [parse08] at h
  exact h
set_option maxHeartbeats 2000000 in
theorem knows08_go (w : World) (hT : TabAt 0 Lib.deBruijn64tab w) (hw0 : 0 < w.heap.size) :
    Calls Tryd.prog 5 #[] w fun e w' => e = .returned (.bool true) ∧ Below w.heap.size w w' := by
  have kc := fun (w : World) (C : Array Value) (n c : Nat) => Lib.run_convert_bytes_const (P := Tryd.prog) w 22 5 C n c Tryd.underlying22 Tryd.underlying5
  have HTB := Lib.hid hT
  clear hT
  go_enter Tryd.func5, Tryd.ntmps5
  go_wp2_with fail
  refine (tree08 _ _ rfl).mono ?_
  rintro e w1 ⟨B, cap, rfl, hb1, hc1, ht1⟩
  have HB1 := Lib.hid (((Below.refl w.heap.size w).alloc (Nat.le_refl _) (.cells #[.int .u8 40, .int .u8 40, .int .u8 97, .int .u8 41, .int .u8 124, .int .u8 98, .int .u8 41, .int .u8 40, .int .u8 97, .int .u8 42, .int .u8 41] 5 (11, 12))).trans (hb1.mono (by simp)))
  have hb2 : Below w1.heap.size w1 ((w1.alloc (.cells (ndA kt08 B cap) 29)).alloc (.cells #[.int .i64 0, .int .i64 0] 32)) := ((Below.refl _ _).alloc (Nat.le_refl _) _).alloc (by simp) _
  have HB2 := Lib.hid (HB1.out.trans (hb2.mono HB1.out.size))
  have hX := (Blk.new w1 29 (ndA kt08 B cap)).alloc (.cells #[.int .i64 0, .int .i64 0] 32)
  have ht2 := (ht1.below hb2).weak (Q := fun b => b < ((w1.alloc (.cells (ndA kt08 B cap) 29)).alloc (.cells #[.int .i64 0, .int .i64 0] 32)).heap.size) (fun b _ h => h)
  have hS := stext_go kt08 B cap _ (by decide) ht2 (TabAt.below HB2.out hw0 HTB.out) (Nat.lt_of_lt_of_le hw0 HB2.out.size)
  rw [text08] at hS
  have HS := Lib.hid hS
  clear hb1 ht1 hc1 hb2 hX ht2 hS kc
  unfold ndV at HS ⊢
  unfold ndA at HS HB2
  dsimp only
  go_wp2_with fail
  refine HS.out.mono ?_
  rintro e w2 ⟨rfl, hb3⟩
  have HB3 := Lib.hid (HB2.out.trans (hb3.mono HB2.out.size))
  clear hb3 HS
  dsimp only
  go_wp2
  go_light
  go_ret
  exact ⟨rfl, HB3.out⟩
/-- Whatever it is, it is a row of lexemes and a kind. -/
theorem LexsOut.any (r : Except Int (List Lex)) (hr : ∀ L, r = .ok L → L.length ≤ 24576) : ∃ (L : List Lex) (k : Int), L.length ≤ 24576 ∧ ∀ w e w', LexsOut r w e w' → ∃ v, e = .returned (.tuple #[v, .int .i64 k]) ∧ Below w.heap.size w w' ∧ w'.ownsRow w.heap.size 45 8 v L.length (lexCells L) := by
  cases r with
  | error k => exact ⟨[], k, by simp, fun w e w' h => ⟨_, h.2, h.1, World.ownsRow_nil _ _ _ _⟩⟩
  | ok L => exact ⟨L, 0, hr L rfl, fun w e w' h => by obtain ⟨hb, v, he, ho⟩ := h; exact ⟨v, he, hb, ho⟩⟩
end Go.Proofs.YtffkppoidollnaaDoor
