/- Texts of the claim. -/
import Derived.Test.YtofbfafnpdaejaaGreatDoorLShowS
import Derived.Test.YtofbfafnpdaejaaGreatDoorLZ01
import Derived.Test.YtofbfafnpdaejaaGreatDoorLZ03
namespace Go.Proofs.YtofbfafnpdaejaaGreatDoor
open Go.RowKit
set_option linter.unusedSimpArgs false
set_option linter.unusedVariables false
set_option maxRecDepth 100000
set_option maxHeartbeats 8000000
def WrAt (w : World) (base g : Nat) (S : Nat → Prop) (L : List Lex) : Prop :=
 (∀ b, S b → base ≤ b ∧ b < w.heap.size) ∧ S g ∧ ∃ v, Blk w g 181 #[v] ∧ w.ownsRow base 143 8 v L.length (lexCells L) ∧ ∀ b, v.ownBlock = some b → S b
theorem WrAt.keep {w w' : World} {base g : Nat} {S : Nat → Prop} {L : List Lex} (h : WrAt w base g S L) (hs : w.heap.size ≤ w'.heap.size) (hk : ∀ b, S b → w'.heap[b]? = w.heap[b]?) : WrAt w' base g S L := by
 obtain ⟨h0, hg, v, h1, h2, h3⟩ := h
 exact ⟨fun b hb => ⟨(h0 b hb).1, by have := (h0 b hb).2; omega⟩, hg, v, (hk g hg).trans h1, ownsRow_block h2 (fun k e => hk k (h3 k e)), h3⟩
theorem WrAt.lt {w : World} {base g : Nat} {S : Nat → Prop} {L : List Lex} (h : WrAt w base g S L) : ∀ b, S b → b < w.heap.size := fun b hb => (h.1 b hb).2
theorem WrAt.alloc {w : World} {base g : Nat} {S : Nat → Prop} {L : List Lex} (h : WrAt w base g S L) (o : Obj) : WrAt (w.alloc o) base g S L :=
 h.keep (by simp) (fun b hb => Below.heap_alloc w o b (h.lt b hb))
theorem WrAt.below {w w' : World} {base g : Nat} {S : Nat → Prop} {L : List Lex} (h : WrAt w base g S L) (hb : Below w.heap.size w w') : WrAt w' base g S L :=
 h.keep hb.size (fun b hs => hb.block b (h.lt b hs))
theorem WrAt.not {w : World} {base g : Nat} {S : Nat → Prop} {L : List Lex} (h : WrAt w base g S L) {b : Nat} (hb : w.heap.size ≤ b) : ¬ S b := fun h' => by have := h.lt b h'; omega
def WrOut (base g : Nat) (S : Nat → Prop) (w : World) (L : List Lex) (e : Ending) (w' : World) : Prop :=
 e = .returned (.tuple #[]) ∧ ∃ S', WrAt w' base g S' L ∧ Moves base S w S' w'
theorem wr_push {base g gg cap : Nat} {S : Nat → Prop} {L : List Lex} {x : Lex} {w wa w1 : World} {v : Value} {z : Nat} (hH : (∀ b, S b → base ≤ b ∧ b < w.heap.size) ∧ S g ∧ ∀ b, v.ownBlock = some b → S b) (hb : base ≤ w.heap.size) (hG1 : Blk w1 g 181 #[v])
  (ha : Below w.heap.size w wa) (hgrow : wa.grownBy w1 v.ownBlock) (hown : w1.ownsRow base 143 8 (.slice (some ⟨gg, 0, none⟩) (L.length + 1) cap) (L.length + 1) (lexCells L ++ lexCell x)) (hat : v.ownBlock = some gg ∨ gg = z) (hz : w.heap.size ≤ z) :
  ∃ S', WrAt (w1.setCell ⟨g, 0, none⟩ (.slice (some ⟨gg, 0, none⟩) (L.length + 1) cap)) base g S' (L ++ [x]) ∧ Moves base S w S' (w1.setCell ⟨g, 0, none⟩ (.slice (some ⟨gg, 0, none⟩) (L.length + 1) cap)) := by
 obtain ⟨h0, hg, h3⟩ := hH
 have hne := blk_not_row hG1 (by decide) hown
 have hlg := hown.lt gg rfl
 have hM : Moves base S w (fun b => S b ∨ b = gg) w1 := Moves.push h0 hb ha hgrow h3 (by rcases hat with h | h; exact .inl h; exact .inr (by omega))
 have hsz : w.heap.size ≤ w1.heap.size := hM.size
 refine ⟨fun b => S b ∨ b = gg, ⟨fun b hb => ?_, .inl hg, .slice (some ⟨gg, 0, none⟩) (L.length + 1) cap, hG1.set_ 0 _, ?_, fun b h => .inr (by simpa [Value.ownBlock] using h.symm)⟩, hM.setS (p := ⟨g, 0, none⟩) hg (h0 g hg).1 _⟩
 ·simp only [World.setCell, Array.size_modify]
  rcases hb with h | rfl
  ·exact ⟨(h0 b h).1, by have := (h0 b h).2; omega⟩
  ·exact hlg
 ·rw [List.length_append, lexCells_snoc]
  exact own_set hown hne
theorem lexCell_sign (k : Int) : lexCell (lexK k) = [.int .i64 k, .int .i64 0, .int .u64 0, .int .u64 0, .int .u64 0, .int .u64 0, .int .i64 0, .int .i64 0] := rfl
theorem wput_go (base g : Nat) (S : Nat → Prop) (L : List Lex) (k : Int) (w : World) (h : WrAt w base g S L) (hb : base ≤ w.heap.size) (hf : L.length ≤ 100000000) :
  Calls Tryz.prog 207 #[.pointer (some ⟨g, 0, none⟩), .int .i64 k] w (WrOut base g S w (L ++ [lexK k])) := by
 obtain ⟨i0, hi, hz0, hz1, hz2⟩ := info_parts info_lex
 obtain ⟨h0, hg, v, hG, hR, h3⟩ := h
 have s0 := hG.cell 0
 have f0 := hG.frozen 0
 have hlt := Blk.lt hG
 have HG := Lib.hid hG
 have HR := Lib.hid hR
 have HH := Lib.hid (show _ ∧ _ ∧ _ from ⟨h0, hg, h3⟩)
 have hneG := blk_not_row hG (by decide) hR
 have HneG := Lib.hid hneG
 have h63 : L.length + 1 ≤ maxLen := Nat.le_trans (by omega) (show 2000000000000 ≤ maxLen by decide)
 have hby : (L.length + 1) * 64 ≤ 140737488355328 := by omega
 have HS := Lib.hid (lexCell_sign k)
 clear hG hR hneG h0 h3
 go_enter Tryz.func207, Tryz.ntmps207
 go_wp2_with (at_builtin; refine wpList_append_lies _ rfl _ _ 138 rfl base 143 i0 _ 8 64 Tryz.underlying138 hi hz0 hz1 hz2 rfl (by decide) v L.length (lexCells L) rfl (HR.out.alloc _) ⟨w.heap.size, 0, none⟩ 1 1 [.int .i64 k, .int .i64 0, .int .u64 0, .int .u64 0, .int .u64 0, .int .u64 0, .int .i64 0, .int .i64 0] rfl rfl (World.news_of_block (cs := #[.int .i64 k, .int .i64 0, .int .u64 0, .int .u64 0, .int .u64 0, .int .u64 0, .int .i64 0, .int .i64 0]) (t := 143) (fr := (0, 0)) (heap_alloc_new w _)) (by simp [Value.oneCell']) (by decide) h63 hby (by simp; omega) (w.heap.size + 1) (by simp) ?_; intro gg cap' w1 hown1 hgrow hat hlt1; have hG1 := Blk.grown (Blk.alloc HG.out _) hgrow HneG.out; have c0 := hG1.cell 0; have d0 := hG1.frozen 0; have HG1 := Lib.hid hG1; have Hgrow := Lib.hid hgrow; have Hown1 := Lib.hid hown1; have Hat := Lib.hid hat; clear hG1 hgrow hown1 hat)
 go_light
 go_end0
 rw [← HS.out] at Hown1
 exact ⟨rfl, wr_push HH.out hb HG1.out ((Below.refl _ _).alloc (Nat.le_refl _) _) Hgrow.out Hown1.out Hat.out (by omega)⟩
def levelS (k : Int) : Int := if k = 5 then 1 else if k = 4 then 2 else if k = 2 then 0 else 3
theorem level1 (s : Nat) (n : Nat) (lo hi : Int) (B : Option Addr) (cap : Nat) (w : World) :
  Calls Tryz.prog 206 #[.agg #[.int .i64 1, .int .u64 (word s.testBit 0), .int .u64 (word s.testBit 1), .int .u64 (word s.testBit 2), .int .u64 (word s.testBit 3), .slice B n cap, .int .i64 lo, .int .i64 hi]] w fun e w' => e = .returned (.int .i64 3) ∧ Below w.heap.size w w' := by
 have HB := Lib.hid (((Below.refl w.heap.size w).alloc (Nat.le_refl _) (.cells #[.int .i64 1, .int .u64 (word s.testBit 0), .int .u64 (word s.testBit 1), .int .u64 (word s.testBit 2), .int .u64 (word s.testBit 3), .slice B n cap, .int .i64 lo, .int .i64 hi] 28)).alloc (by simp) (.cells #[.int .i64 0, .int .i64 3, .int .i64 0, .int .i64 3, .int .i64 2, .int .i64 1, .int .i64 3, .int .i64 3, .int .i64 3, .int .i64 3] 173))
 go_enter Tryz.func206, Tryz.ntmps206
 go_wp2
 go_light
 go_ret
 exact ⟨rfl, HB.out⟩
theorem level2 (s : Nat) (n : Nat) (lo hi : Int) (B : Option Addr) (cap : Nat) (w : World) :
  Calls Tryz.prog 206 #[.agg #[.int .i64 2, .int .u64 (word s.testBit 0), .int .u64 (word s.testBit 1), .int .u64 (word s.testBit 2), .int .u64 (word s.testBit 3), .slice B n cap, .int .i64 lo, .int .i64 hi]] w fun e w' => e = .returned (.int .i64 0) ∧ Below w.heap.size w w' := by
 have HB := Lib.hid (((Below.refl w.heap.size w).alloc (Nat.le_refl _) (.cells #[.int .i64 2, .int .u64 (word s.testBit 0), .int .u64 (word s.testBit 1), .int .u64 (word s.testBit 2), .int .u64 (word s.testBit 3), .slice B n cap, .int .i64 lo, .int .i64 hi] 28)).alloc (by simp) (.cells #[.int .i64 0, .int .i64 3, .int .i64 0, .int .i64 3, .int .i64 2, .int .i64 1, .int .i64 3, .int .i64 3, .int .i64 3, .int .i64 3] 173))
 go_enter Tryz.func206, Tryz.ntmps206
 go_wp2
 go_light
 go_ret
 exact ⟨rfl, HB.out⟩
theorem level3 (s : Nat) (n : Nat) (lo hi : Int) (B : Option Addr) (cap : Nat) (w : World) :
  Calls Tryz.prog 206 #[.agg #[.int .i64 3, .int .u64 (word s.testBit 0), .int .u64 (word s.testBit 1), .int .u64 (word s.testBit 2), .int .u64 (word s.testBit 3), .slice B n cap, .int .i64 lo, .int .i64 hi]] w fun e w' => e = .returned (.int .i64 3) ∧ Below w.heap.size w w' := by
 have HB := Lib.hid (((Below.refl w.heap.size w).alloc (Nat.le_refl _) (.cells #[.int .i64 3, .int .u64 (word s.testBit 0), .int .u64 (word s.testBit 1), .int .u64 (word s.testBit 2), .int .u64 (word s.testBit 3), .slice B n cap, .int .i64 lo, .int .i64 hi] 28)).alloc (by simp) (.cells #[.int .i64 0, .int .i64 3, .int .i64 0, .int .i64 3, .int .i64 2, .int .i64 1, .int .i64 3, .int .i64 3, .int .i64 3, .int .i64 3] 173))
 go_enter Tryz.func206, Tryz.ntmps206
 go_wp2
 go_light
 go_ret
 exact ⟨rfl, HB.out⟩
theorem level4 (s : Nat) (n : Nat) (lo hi : Int) (B : Option Addr) (cap : Nat) (w : World) :
  Calls Tryz.prog 206 #[.agg #[.int .i64 4, .int .u64 (word s.testBit 0), .int .u64 (word s.testBit 1), .int .u64 (word s.testBit 2), .int .u64 (word s.testBit 3), .slice B n cap, .int .i64 lo, .int .i64 hi]] w fun e w' => e = .returned (.int .i64 2) ∧ Below w.heap.size w w' := by
 have HB := Lib.hid (((Below.refl w.heap.size w).alloc (Nat.le_refl _) (.cells #[.int .i64 4, .int .u64 (word s.testBit 0), .int .u64 (word s.testBit 1), .int .u64 (word s.testBit 2), .int .u64 (word s.testBit 3), .slice B n cap, .int .i64 lo, .int .i64 hi] 28)).alloc (by simp) (.cells #[.int .i64 0, .int .i64 3, .int .i64 0, .int .i64 3, .int .i64 2, .int .i64 1, .int .i64 3, .int .i64 3, .int .i64 3, .int .i64 3] 173))
 go_enter Tryz.func206, Tryz.ntmps206
 go_wp2
 go_light
 go_ret
 exact ⟨rfl, HB.out⟩
theorem level5 (s : Nat) (n : Nat) (lo hi : Int) (B : Option Addr) (cap : Nat) (w : World) :
  Calls Tryz.prog 206 #[.agg #[.int .i64 5, .int .u64 (word s.testBit 0), .int .u64 (word s.testBit 1), .int .u64 (word s.testBit 2), .int .u64 (word s.testBit 3), .slice B n cap, .int .i64 lo, .int .i64 hi]] w fun e w' => e = .returned (.int .i64 1) ∧ Below w.heap.size w w' := by
 have HB := Lib.hid (((Below.refl w.heap.size w).alloc (Nat.le_refl _) (.cells #[.int .i64 5, .int .u64 (word s.testBit 0), .int .u64 (word s.testBit 1), .int .u64 (word s.testBit 2), .int .u64 (word s.testBit 3), .slice B n cap, .int .i64 lo, .int .i64 hi] 28)).alloc (by simp) (.cells #[.int .i64 0, .int .i64 3, .int .i64 0, .int .i64 3, .int .i64 2, .int .i64 1, .int .i64 3, .int .i64 3, .int .i64 3, .int .i64 3] 173))
 go_enter Tryz.func206, Tryz.ntmps206
 go_wp2
 go_light
 go_ret
 exact ⟨rfl, HB.out⟩
theorem level6 (s : Nat) (n : Nat) (lo hi : Int) (B : Option Addr) (cap : Nat) (w : World) :
  Calls Tryz.prog 206 #[.agg #[.int .i64 6, .int .u64 (word s.testBit 0), .int .u64 (word s.testBit 1), .int .u64 (word s.testBit 2), .int .u64 (word s.testBit 3), .slice B n cap, .int .i64 lo, .int .i64 hi]] w fun e w' => e = .returned (.int .i64 3) ∧ Below w.heap.size w w' := by
 have HB := Lib.hid (((Below.refl w.heap.size w).alloc (Nat.le_refl _) (.cells #[.int .i64 6, .int .u64 (word s.testBit 0), .int .u64 (word s.testBit 1), .int .u64 (word s.testBit 2), .int .u64 (word s.testBit 3), .slice B n cap, .int .i64 lo, .int .i64 hi] 28)).alloc (by simp) (.cells #[.int .i64 0, .int .i64 3, .int .i64 0, .int .i64 3, .int .i64 2, .int .i64 1, .int .i64 3, .int .i64 3, .int .i64 3, .int .i64 3] 173))
 go_enter Tryz.func206, Tryz.ntmps206
 go_wp2
 go_light
 go_ret
 exact ⟨rfl, HB.out⟩
theorem level7 (s : Nat) (n : Nat) (lo hi : Int) (B : Option Addr) (cap : Nat) (w : World) :
  Calls Tryz.prog 206 #[.agg #[.int .i64 7, .int .u64 (word s.testBit 0), .int .u64 (word s.testBit 1), .int .u64 (word s.testBit 2), .int .u64 (word s.testBit 3), .slice B n cap, .int .i64 lo, .int .i64 hi]] w fun e w' => e = .returned (.int .i64 3) ∧ Below w.heap.size w w' := by
 have HB := Lib.hid (((Below.refl w.heap.size w).alloc (Nat.le_refl _) (.cells #[.int .i64 7, .int .u64 (word s.testBit 0), .int .u64 (word s.testBit 1), .int .u64 (word s.testBit 2), .int .u64 (word s.testBit 3), .slice B n cap, .int .i64 lo, .int .i64 hi] 28)).alloc (by simp) (.cells #[.int .i64 0, .int .i64 3, .int .i64 0, .int .i64 3, .int .i64 2, .int .i64 1, .int .i64 3, .int .i64 3, .int .i64 3, .int .i64 3] 173))
 go_enter Tryz.func206, Tryz.ntmps206
 go_wp2
 go_light
 go_ret
 exact ⟨rfl, HB.out⟩
theorem level8 (s : Nat) (n : Nat) (lo hi : Int) (B : Option Addr) (cap : Nat) (w : World) :
  Calls Tryz.prog 206 #[.agg #[.int .i64 8, .int .u64 (word s.testBit 0), .int .u64 (word s.testBit 1), .int .u64 (word s.testBit 2), .int .u64 (word s.testBit 3), .slice B n cap, .int .i64 lo, .int .i64 hi]] w fun e w' => e = .returned (.int .i64 3) ∧ Below w.heap.size w w' := by
 have HB := Lib.hid (((Below.refl w.heap.size w).alloc (Nat.le_refl _) (.cells #[.int .i64 8, .int .u64 (word s.testBit 0), .int .u64 (word s.testBit 1), .int .u64 (word s.testBit 2), .int .u64 (word s.testBit 3), .slice B n cap, .int .i64 lo, .int .i64 hi] 28)).alloc (by simp) (.cells #[.int .i64 0, .int .i64 3, .int .i64 0, .int .i64 3, .int .i64 2, .int .i64 1, .int .i64 3, .int .i64 3, .int .i64 3, .int .i64 3] 173))
 go_enter Tryz.func206, Tryz.ntmps206
 go_wp2
 go_light
 go_ret
 exact ⟨rfl, HB.out⟩
theorem level9 (s : Nat) (n : Nat) (lo hi : Int) (B : Option Addr) (cap : Nat) (w : World) :
  Calls Tryz.prog 206 #[.agg #[.int .i64 9, .int .u64 (word s.testBit 0), .int .u64 (word s.testBit 1), .int .u64 (word s.testBit 2), .int .u64 (word s.testBit 3), .slice B n cap, .int .i64 lo, .int .i64 hi]] w fun e w' => e = .returned (.int .i64 3) ∧ Below w.heap.size w w' := by
 have HB := Lib.hid (((Below.refl w.heap.size w).alloc (Nat.le_refl _) (.cells #[.int .i64 9, .int .u64 (word s.testBit 0), .int .u64 (word s.testBit 1), .int .u64 (word s.testBit 2), .int .u64 (word s.testBit 3), .slice B n cap, .int .i64 lo, .int .i64 hi] 28)).alloc (by simp) (.cells #[.int .i64 0, .int .i64 3, .int .i64 0, .int .i64 3, .int .i64 2, .int .i64 1, .int .i64 3, .int .i64 3, .int .i64 3, .int .i64 3] 173))
 go_enter Tryz.func206, Tryz.ntmps206
 go_wp2
 go_light
 go_ret
 exact ⟨rfl, HB.out⟩
theorem level_go (z : Nd) (B : Option Addr) (cap : Nat) (w : World) (h1 : 1 ≤ z.kind) (h9 : z.kind ≤ 9) :
  Calls Tryz.prog 206 #[ndV z B cap] w fun e w' => e = .returned (.int .i64 (levelS z.kind)) ∧ Below w.heap.size w w' := by
 unfold ndV
 rcases (show z.kind = 1 ∨ z.kind = 2 ∨ z.kind = 3 ∨ z.kind = 4 ∨ z.kind = 5 ∨ z.kind = 6 ∨ z.kind = 7 ∨ z.kind = 8 ∨ z.kind = 9 by omega) with h | h | h | h | h | h | h | h | h <;> rw [h]
 ·exact level1 _ _ _ _ _ _ w
 ·exact level2 _ _ _ _ _ _ w
 ·exact level3 _ _ _ _ _ _ w
 ·exact level4 _ _ _ _ _ _ w
 ·exact level5 _ _ _ _ _ _ w
 ·exact level6 _ _ _ _ _ _ w
 ·exact level7 _ _ _ _ _ _ w
 ·exact level8 _ _ _ _ _ _ w
 ·exact level9 _ _ _ _ _ _ w
end Go.Proofs.YtofbfafnpdaejaaGreatDoor
