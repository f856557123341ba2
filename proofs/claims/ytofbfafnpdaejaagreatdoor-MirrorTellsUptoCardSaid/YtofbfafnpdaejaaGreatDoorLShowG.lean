/- Texts of the claim. -/
import Derived.Test.YtofbfafnpdaejaaGreatDoorLShowK
import Derived.Test.YtofbfafnpdaejaaGreatDoorLShowP
import Derived.Test.YtofbfafnpdaejaaGreatDoorLZ03
namespace Go.Proofs.YtofbfafnpdaejaaGreatDoor
open Go.RowKit
set_option linter.unusedSimpArgs false
set_option linter.unusedVariables false
set_option maxRecDepth 100000
set_option maxHeartbeats 8000000
structure WFr (w : World) (base g : Nat) (S : Nat → Prop) (nd : Array Value) (S1 : Nat → Prop) (L : List Lex) (w1 : World) : Prop where
 p : Blk w1 w.heap.size 217 #[.pointer (some ⟨g, 0, none⟩)]
 x : Blk w1 (w.heap.size + 1) 28 nd
 wr : WrAt w1 base g S1 L
 mvs : Moves base S w S1 w1
 np : ¬ S1 w.heap.size
 nx : ¬ S1 (w.heap.size + 1)
 hb : base ≤ w.heap.size
theorem WFr.start {w : World} {base g : Nat} {S : Nat → Prop} {L : List Lex} (nd : Array Value) (h : WrAt w base g S L) (hb : base ≤ w.heap.size) : WFr w base g S nd S L ((w.alloc (.cells #[.pointer (some ⟨g, 0, none⟩)] 217)).alloc (.cells nd 28)) :=
 ⟨(Blk.new w _ _).alloc _, Blk.new_at (by simp), (h.alloc _).alloc _, ((Moves.refl base S w).alloc hb _).alloc hb _, h.not (Nat.le_refl _), h.not (by omega), hb⟩
theorem WFr.go {w w1 : World} {base g : Nat} {S S1 : Nat → Prop} {L : List Lex} {nd : Array Value} (h : WFr w base g S nd S1 L w1) {w2 : World} {S2 : Nat → Prop} {L2 : List Lex} (hm : WrAt w2 base g S2 L2) (hv : Moves base S1 w1 S2 w2) : WFr w base g S nd S2 L2 w2 :=
 ⟨h.p.moves hv h.np, h.x.moves hv h.nx, hm, h.mvs.trans hv, hv.notIn h.p.lt h.np, hv.notIn h.x.lt h.nx, h.hb⟩
theorem WFr.below {w w1 : World} {base g : Nat} {S S1 : Nat → Prop} {L : List Lex} {nd : Array Value} (h : WFr w base g S nd S1 L w1) {w2 : World} (hB : Below w1.heap.size w1 w2) : WFr w base g S nd S1 L w2 :=
 h.go (h.wr.below hB) (Moves.of_below hB (by have := h.mvs.size; have := h.hb; omega))
theorem WFr.size {w w1 : World} {base g : Nat} {S S1 : Nat → Prop} {L : List Lex} {nd : Array Value} (h : WFr w base g S nd S1 L w1) : base ≤ w1.heap.size := by
 have := h.mvs.size; have := h.hb; omega
theorem WFr.out {w w1 : World} {base g : Nat} {S S1 : Nat → Prop} {L : List Lex} {nd : Array Value} (h : WFr w base g S nd S1 L w1) {e : Ending} (he : e = .returned (.tuple #[])) : WrOut base g S w L e w1 := ⟨he, S1, h.wr, h.mvs⟩
def WFrM (w : World) (base g : Nat) (S : Nat → Prop) (nd : Array Value) (L : List Lex) (w1 : World) : Prop := ∃ S1, WFr w base g S nd S1 L w1
theorem flat_take {α : Type} (l : List (List α)) (k : Nat) : (l.take k).flatten.length ≤ l.flatten.length := by
 conv => rhs; rw [← List.take_append_drop k l, List.flatten_append, List.length_append]
 omega
theorem bars_take (l : List (List Lex)) (k : Nat) : (barsS (l.take k)).length ≤ (barsS l).length := by
 unfold barsS
 have : ((l.take k).flatMap fun x => lexK 4 :: x).length ≤ (l.flatMap fun x => lexK 4 :: x).length := by
  conv => rhs; rw [← List.take_append_drop k l, List.flatMap_append, List.length_append]
  omega
 simp only [List.length_drop]
 omega
def KidsW (F : Trees) : Prop := ∀ z ∈ F.list, 1 ≤ z.kind ∧ z.kind ≤ 9 ∧ WriteC z
theorem write_empty (x : Nd) (hK : KidsW x.kids) (B : Option Addr) (cap base g : Nat) (S : Nat → Prop) (L : List Lex) (w : World) (ht : TreesAt w (fun b => ¬ S b) x.kids B) (h : WrAt w base g S L) (hb : base ≤ w.heap.size) (hl : L.length + x.write.length ≤ 90000000) (hkl : x.kids.len ≤ 140737488355328) (hk : x.kind = 2) : Calls Tryz.prog 161 #[.pointer (some ⟨g, 0, none⟩), ndV x B cap] w (WrOut base g S w (L ++ x.write)) := by
 rw [Nd.write_empty hk, List.append_nil]
 have HF2 := Lib.hid (show WFr w base g S #[.int .i64 2, .int .u64 (word x.set.testBit 0), .int .u64 (word x.set.testBit 1), .int .u64 (word x.set.testBit 2), .int .u64 (word x.set.testBit 3), .slice B x.kids.len cap, .int .i64 x.lo, .int .i64 x.hi] S L ((w.alloc (.cells #[.pointer (some ⟨g, 0, none⟩)] 217)).alloc (.cells #[.int .i64 2, .int .u64 (word x.set.testBit 0), .int .u64 (word x.set.testBit 1), .int .u64 (word x.set.testBit 2), .int .u64 (word x.set.testBit 3), .slice B x.kids.len cap, .int .i64 x.lo, .int .i64 x.hi] 28)) from WFr.start #[.int .i64 2, .int .u64 (word x.set.testBit 0), .int .u64 (word x.set.testBit 1), .int .u64 (word x.set.testBit 2), .int .u64 (word x.set.testBit 3), .slice B x.kids.len cap, .int .i64 x.lo, .int .i64 x.hi] h hb)
 have HT := Lib.hid ht
 have HK := Lib.hid hK
 unfold ndV
 rw [hk]
 clear ht hK h
 go_enter Tryz.func161, Tryz.ntmps161
 go_wp2
 go_light
 go_end0
 exact HF2.out.out rfl
theorem write_leaf1 (x : Nd) (hK : KidsW x.kids) (B : Option Addr) (cap base g : Nat) (S : Nat → Prop) (L : List Lex) (w : World) (ht : TreesAt w (fun b => ¬ S b) x.kids B) (h : WrAt w base g S L) (hb : base ≤ w.heap.size) (hl : L.length + x.write.length ≤ 90000000) (hkl : x.kids.len ≤ 140737488355328) (hk : x.kind = 1) : Calls Tryz.prog 161 #[.pointer (some ⟨g, 0, none⟩), ndV x B cap] w (WrOut base g S w (L ++ x.write)) := by
 rw [Nd.write_leaf (.inl hk)] at hl ⊢
 have h63 : L.length + 1 ≤ maxLen := Nat.le_trans (show L.length + 1 ≤ 2000000000 by simp at hl; omega) (by decide)
 have hby : (L.length + 1) * 64 ≤ 140737488355328 := by simp at hl; omega
 have HLC := Lib.hid (show lexCell ⟨1, 0, x.set.testBit, 0, 0⟩ = [.int .i64 1, .int .i64 0, .int .u64 (word x.set.testBit 0), .int .u64 (word x.set.testBit 1), .int .u64 (word x.set.testBit 2), .int .u64 (word x.set.testBit 3), .int .i64 0, .int .i64 0] from rfl)
 have HF2 := Lib.hid (show WFr w base g S #[.int .i64 1, .int .u64 (word x.set.testBit 0), .int .u64 (word x.set.testBit 1), .int .u64 (word x.set.testBit 2), .int .u64 (word x.set.testBit 3), .slice B x.kids.len cap, .int .i64 x.lo, .int .i64 x.hi] S L ((w.alloc (.cells #[.pointer (some ⟨g, 0, none⟩)] 217)).alloc (.cells #[.int .i64 1, .int .u64 (word x.set.testBit 0), .int .u64 (word x.set.testBit 1), .int .u64 (word x.set.testBit 2), .int .u64 (word x.set.testBit 3), .slice B x.kids.len cap, .int .i64 x.lo, .int .i64 x.hi] 28)) from WFr.start #[.int .i64 1, .int .u64 (word x.set.testBit 0), .int .u64 (word x.set.testBit 1), .int .u64 (word x.set.testBit 2), .int .u64 (word x.set.testBit 3), .slice B x.kids.len cap, .int .i64 x.lo, .int .i64 x.hi] h hb)
 have HT := Lib.hid ht
 have HK := Lib.hid hK
 unfold ndV
 rw [hk]
 clear ht hK h
 go_enter Tryz.func161, Tryz.ntmps161
 go_upto_region 5 with fail
 generalize ((w.alloc (.cells #[.pointer (some ⟨g, 0, none⟩)] 217)).alloc (.cells #[.int .i64 1, .int .u64 (word x.set.testBit 0), .int .u64 (word x.set.testBit 1), .int .u64 (word x.set.testBit 2), .int .u64 (word x.set.testBit 3), .slice B x.kids.len cap, .int .i64 x.lo, .int .i64 x.hi] 28)) = w2 at *
 have p0 := (HF2.out).p.cell 0
 have hlp := (HF2.out).p.lt
 simp only [List.getElem?_toArray, List.getElem?_cons_zero, List.getElem?_cons_succ] at p0
 have n0 := (HF2.out).x.cell 0
 have n1 := (HF2.out).x.cell 1
 have n2 := (HF2.out).x.cell 2
 have n3 := (HF2.out).x.cell 3
 have n4 := (HF2.out).x.cell 4
 have n5 := (HF2.out).x.cell 5
 have n6 := (HF2.out).x.cell 6
 have n7 := (HF2.out).x.cell 7
 have hlx := (HF2.out).x.lt
 simp only [List.getElem?_toArray, List.getElem?_cons_zero, List.getElem?_cons_succ] at n0 n1 n2 n3 n4 n5 n6 n7
 have h0 := (HF2).out.wr
 obtain ⟨h0, hg, v, hG, hR, h3⟩ := h0
 obtain ⟨i0, hi, hz0, hz1, hz2⟩ := info_parts info_lex
 have s0 := hG.cell 0
 have f0 := hG.frozen 0
 have hltg := Blk.lt hG
 have HG := Lib.hid hG
 have HR := Lib.hid hR
 have HH := Lib.hid (show _ ∧ _ ∧ _ from ⟨h0, hg, h3⟩)
 have HneG := Lib.hid (blk_not_row hG (by decide) hR)
 have hbw := (HF2).out.size
 clear hG hR h0 h3
 have hKl := two_of (Q := fun b => b < w2.heap.size) hlp hlx
 refine wp_region_held_drew (S := fun w' => ∀ b' o', b' = w.heap.size ∨ b' = w.heap.size + 1 → w'.cell? ⟨b', o', none⟩ = w2.cell? ⟨b', o', none⟩) (by kernel_rfl) (KeepP.start (fun b => b = w.heap.size ∨ b = w.heap.size + 1) w2) (fun hHeld => ?_)
 refine wpAnyH_take (i := 0) (oi := _) (v := ?_) rfl (by kernel_rfl) (by kernel_rfl) (by kernel_rfl) (fun _ _ _ h => h) (Or.inl ⟨by kernel_rfl, ?_⟩) (by assumption) ?_
 rotate_left
 ·intro w hSw
  try dsimp only at hSw
  go_simp
  try (with_reducible rfl)
 try simp only [Act.put, List.getElem_toArray, List.getElem_cons_zero, List.getElem_cons_succ, List.setIfInBounds_toArray, List.set_cons_zero, List.set_cons_succ]
 refine wpAnyH_take (i := 1) (oi := _) (v := ?_) rfl (by kernel_rfl) (by kernel_rfl) (by kernel_rfl) (fun _ _ _ h => h) (Or.inl ⟨by kernel_rfl, ?_⟩) (by assumption) ?_
 rotate_left
 ·intro w hSw
  try dsimp only at hSw
  go_simp
  try (with_reducible rfl)
 try simp only [Act.put, List.getElem_toArray, List.getElem_cons_zero, List.getElem_cons_succ, List.setIfInBounds_toArray, List.set_cons_zero, List.set_cons_succ]
 refine wpAnyH_take (i := 2) (oi := _) (v := ?_) rfl (by kernel_rfl) (by kernel_rfl) (by kernel_rfl) (fun _ _ _ h => h) (Or.inl ⟨by kernel_rfl, ?_⟩) (by assumption) ?_
 rotate_left
 ·intro w hSw
  try dsimp only at hSw
  go_simp
  try (with_reducible rfl)
 try simp only [Act.put, List.getElem_toArray, List.getElem_cons_zero, List.getElem_cons_succ, List.setIfInBounds_toArray, List.set_cons_zero, List.set_cons_succ]
 refine wpAnyH_take (i := 3) (oi := _) (v := ?_) rfl (by kernel_rfl) (by kernel_rfl) (by kernel_rfl) (fun _ _ _ h => h) (Or.inl ⟨by kernel_rfl, ?_⟩) (by assumption) ?_
 rotate_left
 ·intro w hSw
  try dsimp only at hSw
  go_simp
  try (with_reducible rfl)
 try simp only [Act.put, List.getElem_toArray, List.getElem_cons_zero, List.getElem_cons_succ, List.setIfInBounds_toArray, List.set_cons_zero, List.set_cons_succ]
 refine wpAnyH_take (i := 5) (oi := _) (v := ?_) rfl (by kernel_rfl) (by kernel_rfl) (by kernel_rfl) (fun _ _ _ h => h) (Or.inl ⟨by kernel_rfl, ?_⟩) (by assumption) ?_
 rotate_left
 ·intro w hSw
  try dsimp only at hSw
  go_simp
  try (with_reducible rfl)
 try simp only [Act.put, List.getElem_toArray, List.getElem_cons_zero, List.getElem_cons_succ, List.setIfInBounds_toArray, List.set_cons_zero, List.set_cons_succ]
 refine wpAnyH_take (i := 6) (oi := _) (v := ?_) rfl (by kernel_rfl) (by kernel_rfl) (by kernel_rfl) (fun _ _ _ h => h) (Or.inl ⟨by kernel_rfl, ?_⟩) (by assumption) ?_
 rotate_left
 ·intro w hSw
  try dsimp only at hSw
  go_simp
  try (with_reducible rfl)
 try simp only [Act.put, List.getElem_toArray, List.getElem_cons_zero, List.getElem_cons_succ, List.setIfInBounds_toArray, List.set_cons_zero, List.set_cons_succ]
 refine wpAnyH_take (i := 7) (oi := _) (v := ?_) rfl (by kernel_rfl) (by kernel_rfl) (by kernel_rfl) (fun _ _ _ h => h) (Or.inl ⟨by kernel_rfl, ?_⟩) (by assumption) ?_
 rotate_left
 ·intro w hSw
  try dsimp only at hSw
  go_simp
  try (with_reducible rfl)
 try simp only [Act.put, List.getElem_toArray, List.getElem_cons_zero, List.getElem_cons_succ, List.setIfInBounds_toArray, List.set_cons_zero, List.set_cons_succ]
 refine wpAnyH_ready (rs := [4, 8]) (by kernel_rfl) (by simp) ?_
 refine AllReadyH.cons (o := _) rfl (fun K hK => ?_) (AllReadyH.cons (o := _) rfl (fun K hK => ?_) AllReadyH.nil)
 ·skip
  go_simp
  refine hK.out _ _ hHeld (fun _ => ?_)
  clear hK K hHeld
  try simp only [Act.put, List.getElem_toArray, List.getElem_cons_zero, List.getElem_cons_succ, List.setIfInBounds_toArray, List.set_cons_zero, List.set_cons_succ]
  refine wpAnyH_ready (rs := [8]) (by kernel_rfl) (by simp) ?_
  refine AllReadyH.cons (o := _) rfl (fun K hK => ?_) AllReadyH.nil
  go_simp
  refine hK.out _ _ (KeepP.alloc (KeepP.start (fun b => b = w.heap.size ∨ b = w.heap.size + 1) w2) hKl _) (fun _ => ?_)
  clear hK K
  try simp only [Act.put, List.getElem_toArray, List.getElem_cons_zero, List.getElem_cons_succ, List.setIfInBounds_toArray, List.set_cons_zero, List.set_cons_succ]
  refine wpAnyH_ready (rs := [9]) (by kernel_rfl) (by simp) ?_
  refine AllReadyH.cons (o := _) rfl (fun K hK => ?_) AllReadyH.nil
  refine step_append_lies _ (by rfl) _ _ _ (by rfl) base 143 i0 _ 8 64 Tryz.underlying138 hi hz0 hz1 hz2 rfl (by decide) v (L).length (lexCells (L)) (by rfl) (HR.out.drew.alloc _) ⟨w2.heap.size, 0, none⟩ 1 1 ([.int .i64 1, .int .i64 0, .int .u64 (word x.set.testBit 0), .int .u64 (word x.set.testBit 1), .int .u64 (word x.set.testBit 2), .int .u64 (word x.set.testBit 3), .int .i64 0, .int .i64 0]) (by rfl) (by rfl) (World.news_of_block (cs := ([.int .i64 1, .int .i64 0, .int .u64 (word x.set.testBit 0), .int .u64 (word x.set.testBit 1), .int .u64 (word x.set.testBit 2), .int .u64 (word x.set.testBit 3), .int .i64 0, .int .i64 0]).toArray) (t := 143) (fr := (0, 0)) (heap_alloc_new w2.drew _)) (by simp [Value.oneCell']) (by decide) h63 hby (by simp; omega) (w2.heap.size + 1) (by simp) ?_
  intro gg cap' w3 hown1 hgrow hat hlt1
  have hG1 := Blk.grown (Blk.alloc (Blk.drew HG.out) _) hgrow HneG.out
  have c0 := hG1.cell 0
  have d0 := hG1.frozen 0
  have hgl := hG1.lt
  have HKG := Lib.hid (KeepP.grown (KeepP.alloc (KeepP.start (fun b => b = w.heap.size ∨ b = w.heap.size + 1) w2) hKl _) hgrow (two_of (Q := fun b => b < _ ∧ some b ≠ v.ownBlock) ⟨by simp; omega, fun e => HF2.out.np (HH.out.2.2 _ e.symm)⟩ ⟨by simp; omega, fun e => HF2.out.nx (HH.out.2.2 _ e.symm)⟩))
  rw [← HLC.out] at hown1
  have HG1 := Lib.hid hG1
  have Hgrow := Lib.hid hgrow
  have Hown1 := Lib.hid hown1
  have Hat := Lib.hid hat
  clear hG1 hgrow hown1 hat
  refine hK.out _ _ HKG.out (fun _ => ?_)
  clear hK K
  try simp only [Act.put, List.getElem_toArray, List.getElem_cons_zero, List.getElem_cons_succ, List.setIfInBounds_toArray, List.set_cons_zero, List.set_cons_succ]
  refine wpAnyH_take (i := 10) (oi := _) (v := ?_) rfl (by kernel_rfl) (by kernel_rfl) (by kernel_rfl) (fun _ _ _ h => h) (Or.inl ⟨by kernel_rfl, ?_⟩) (by assumption) ?_
  rotate_left
  ·intro w hSw
   try dsimp only at hSw
   go_simp
   try (with_reducible rfl)
  try simp only [Act.put, List.getElem_toArray, List.getElem_cons_zero, List.getElem_cons_succ, List.setIfInBounds_toArray, List.set_cons_zero, List.set_cons_succ]
  refine wpAnyH_take (i := 11) (oi := _) (v := ?_) rfl (by kernel_rfl) (by kernel_rfl) (by kernel_rfl) (fun _ _ _ h => h) (Or.inl ⟨by kernel_rfl, ?_⟩) (by assumption) ?_
  rotate_left
  ·intro w hSw
   try dsimp only at hSw
   go_simp
   try (with_reducible rfl)
  try simp only [Act.put, List.getElem_toArray, List.getElem_cons_zero, List.getElem_cons_succ, List.setIfInBounds_toArray, List.set_cons_zero, List.set_cons_succ]
  refine wpAnyH_ready (rs := [12]) (by kernel_rfl) (by simp) ?_
  refine AllReadyH.cons (o := _) rfl (fun K hK => ?_) AllReadyH.nil
  go_simp
  refine hK.out _ _ (KeepP.set HKG.out (two_of (Q := fun b => b ≠ g) (p := w.heap.size) (q := w.heap.size + 1) (fun e => HF2.out.np (by rw [e]; exact HH.out.2.1)) (fun e => HF2.out.nx (by rw [e]; exact HH.out.2.1))) _) (fun _ => ?_)
  clear hK K
  try simp only [Act.put, List.getElem_toArray, List.getElem_cons_zero, List.getElem_cons_succ, List.setIfInBounds_toArray, List.set_cons_zero, List.set_cons_succ]
  refine wpAnyH_done (by kernel_rfl) ?_ _
  go_wp2
  go_light
  go_end0
  obtain ⟨S', hp1, hp2⟩ := wr_push HH.out hbw HG1.out ((Below.refl w2.heap.size w2).drew.alloc (Nat.le_refl _) _) Hgrow.out Hown1.out Hat.out (by omega)
  exact (HF2.out.go hp1 hp2).out rfl
 ·skip
  go_simp
  refine hK.out _ _ (KeepP.alloc (KeepP.start (fun b => b = w.heap.size ∨ b = w.heap.size + 1) w2) hKl _) (fun _ => ?_)
  clear hK K hHeld
  try simp only [Act.put, List.getElem_toArray, List.getElem_cons_zero, List.getElem_cons_succ, List.setIfInBounds_toArray, List.set_cons_zero, List.set_cons_succ]
  refine wpAnyH_ready (rs := [4]) (by kernel_rfl) (by simp) ?_
  refine AllReadyH.cons (o := _) rfl (fun K hK => ?_) AllReadyH.nil
  go_simp
  refine hK.out _ _ (by assumption) (fun _ => ?_)
  clear hK K
  try simp only [Act.put, List.getElem_toArray, List.getElem_cons_zero, List.getElem_cons_succ, List.setIfInBounds_toArray, List.set_cons_zero, List.set_cons_succ]
  refine wpAnyH_ready (rs := [9]) (by kernel_rfl) (by simp) ?_
  refine AllReadyH.cons (o := _) rfl (fun K hK => ?_) AllReadyH.nil
  refine step_append_lies _ (by rfl) _ _ _ (by rfl) base 143 i0 _ 8 64 Tryz.underlying138 hi hz0 hz1 hz2 rfl (by decide) v (L).length (lexCells (L)) (by rfl) (HR.out.drew.alloc _) ⟨w2.heap.size, 0, none⟩ 1 1 ([.int .i64 1, .int .i64 0, .int .u64 (word x.set.testBit 0), .int .u64 (word x.set.testBit 1), .int .u64 (word x.set.testBit 2), .int .u64 (word x.set.testBit 3), .int .i64 0, .int .i64 0]) (by rfl) (by rfl) (World.news_of_block (cs := ([.int .i64 1, .int .i64 0, .int .u64 (word x.set.testBit 0), .int .u64 (word x.set.testBit 1), .int .u64 (word x.set.testBit 2), .int .u64 (word x.set.testBit 3), .int .i64 0, .int .i64 0]).toArray) (t := 143) (fr := (0, 0)) (heap_alloc_new w2.drew _)) (by simp [Value.oneCell']) (by decide) h63 hby (by simp; omega) (w2.heap.size + 1) (by simp) ?_
  intro gg cap' w3 hown1 hgrow hat hlt1
  have hG1 := Blk.grown (Blk.alloc (Blk.drew HG.out) _) hgrow HneG.out
  have c0 := hG1.cell 0
  have d0 := hG1.frozen 0
  have hgl := hG1.lt
  have HKG := Lib.hid (KeepP.grown (KeepP.alloc (KeepP.start (fun b => b = w.heap.size ∨ b = w.heap.size + 1) w2) hKl _) hgrow (two_of (Q := fun b => b < _ ∧ some b ≠ v.ownBlock) ⟨by simp; omega, fun e => HF2.out.np (HH.out.2.2 _ e.symm)⟩ ⟨by simp; omega, fun e => HF2.out.nx (HH.out.2.2 _ e.symm)⟩))
  rw [← HLC.out] at hown1
  have HG1 := Lib.hid hG1
  have Hgrow := Lib.hid hgrow
  have Hown1 := Lib.hid hown1
  have Hat := Lib.hid hat
  clear hG1 hgrow hown1 hat
  refine hK.out _ _ HKG.out (fun _ => ?_)
  clear hK K
  try simp only [Act.put, List.getElem_toArray, List.getElem_cons_zero, List.getElem_cons_succ, List.setIfInBounds_toArray, List.set_cons_zero, List.set_cons_succ]
  refine wpAnyH_take (i := 10) (oi := _) (v := ?_) rfl (by kernel_rfl) (by kernel_rfl) (by kernel_rfl) (fun _ _ _ h => h) (Or.inl ⟨by kernel_rfl, ?_⟩) (by assumption) ?_
  rotate_left
  ·intro w hSw
   try dsimp only at hSw
   go_simp
   try (with_reducible rfl)
  try simp only [Act.put, List.getElem_toArray, List.getElem_cons_zero, List.getElem_cons_succ, List.setIfInBounds_toArray, List.set_cons_zero, List.set_cons_succ]
  refine wpAnyH_take (i := 11) (oi := _) (v := ?_) rfl (by kernel_rfl) (by kernel_rfl) (by kernel_rfl) (fun _ _ _ h => h) (Or.inl ⟨by kernel_rfl, ?_⟩) (by assumption) ?_
  rotate_left
  ·intro w hSw
   try dsimp only at hSw
   go_simp
   try (with_reducible rfl)
  try simp only [Act.put, List.getElem_toArray, List.getElem_cons_zero, List.getElem_cons_succ, List.setIfInBounds_toArray, List.set_cons_zero, List.set_cons_succ]
  refine wpAnyH_ready (rs := [12]) (by kernel_rfl) (by simp) ?_
  refine AllReadyH.cons (o := _) rfl (fun K hK => ?_) AllReadyH.nil
  go_simp
  refine hK.out _ _ (KeepP.set HKG.out (two_of (Q := fun b => b ≠ g) (p := w.heap.size) (q := w.heap.size + 1) (fun e => HF2.out.np (by rw [e]; exact HH.out.2.1)) (fun e => HF2.out.nx (by rw [e]; exact HH.out.2.1))) _) (fun _ => ?_)
  clear hK K
  try simp only [Act.put, List.getElem_toArray, List.getElem_cons_zero, List.getElem_cons_succ, List.setIfInBounds_toArray, List.set_cons_zero, List.set_cons_succ]
  refine wpAnyH_done (by kernel_rfl) ?_ _
  go_wp2
  go_light
  go_end0
  obtain ⟨S', hp1, hp2⟩ := wr_push HH.out hbw HG1.out ((Below.refl w2.heap.size w2).drew.alloc (Nat.le_refl _) _) Hgrow.out Hown1.out Hat.out (by omega)
  exact (HF2.out.go hp1 hp2).out rfl
theorem write_leaf3 (x : Nd) (hK : KidsW x.kids) (B : Option Addr) (cap base g : Nat) (S : Nat → Prop) (L : List Lex) (w : World) (ht : TreesAt w (fun b => ¬ S b) x.kids B) (h : WrAt w base g S L) (hb : base ≤ w.heap.size) (hl : L.length + x.write.length ≤ 90000000) (hkl : x.kids.len ≤ 140737488355328) (hk : x.kind = 3) : Calls Tryz.prog 161 #[.pointer (some ⟨g, 0, none⟩), ndV x B cap] w (WrOut base g S w (L ++ x.write)) := by
 rw [Nd.write_leaf (.inr hk)] at hl ⊢
 have h63 : L.length + 1 ≤ maxLen := Nat.le_trans (show L.length + 1 ≤ 2000000000 by simp at hl; omega) (by decide)
 have hby : (L.length + 1) * 64 ≤ 140737488355328 := by simp at hl; omega
 have HLC := Lib.hid (show lexCell ⟨1, 0, x.set.testBit, 0, 0⟩ = [.int .i64 1, .int .i64 0, .int .u64 (word x.set.testBit 0), .int .u64 (word x.set.testBit 1), .int .u64 (word x.set.testBit 2), .int .u64 (word x.set.testBit 3), .int .i64 0, .int .i64 0] from rfl)
 have HF2 := Lib.hid (show WFr w base g S #[.int .i64 3, .int .u64 (word x.set.testBit 0), .int .u64 (word x.set.testBit 1), .int .u64 (word x.set.testBit 2), .int .u64 (word x.set.testBit 3), .slice B x.kids.len cap, .int .i64 x.lo, .int .i64 x.hi] S L ((w.alloc (.cells #[.pointer (some ⟨g, 0, none⟩)] 217)).alloc (.cells #[.int .i64 3, .int .u64 (word x.set.testBit 0), .int .u64 (word x.set.testBit 1), .int .u64 (word x.set.testBit 2), .int .u64 (word x.set.testBit 3), .slice B x.kids.len cap, .int .i64 x.lo, .int .i64 x.hi] 28)) from WFr.start #[.int .i64 3, .int .u64 (word x.set.testBit 0), .int .u64 (word x.set.testBit 1), .int .u64 (word x.set.testBit 2), .int .u64 (word x.set.testBit 3), .slice B x.kids.len cap, .int .i64 x.lo, .int .i64 x.hi] h hb)
 have HT := Lib.hid ht
 have HK := Lib.hid hK
 unfold ndV
 rw [hk]
 clear ht hK h
 go_enter Tryz.func161, Tryz.ntmps161
 go_upto_region 5 with fail
 generalize ((w.alloc (.cells #[.pointer (some ⟨g, 0, none⟩)] 217)).alloc (.cells #[.int .i64 3, .int .u64 (word x.set.testBit 0), .int .u64 (word x.set.testBit 1), .int .u64 (word x.set.testBit 2), .int .u64 (word x.set.testBit 3), .slice B x.kids.len cap, .int .i64 x.lo, .int .i64 x.hi] 28)) = w2 at *
 have p0 := (HF2.out).p.cell 0
 have hlp := (HF2.out).p.lt
 simp only [List.getElem?_toArray, List.getElem?_cons_zero, List.getElem?_cons_succ] at p0
 have n0 := (HF2.out).x.cell 0
 have n1 := (HF2.out).x.cell 1
 have n2 := (HF2.out).x.cell 2
 have n3 := (HF2.out).x.cell 3
 have n4 := (HF2.out).x.cell 4
 have n5 := (HF2.out).x.cell 5
 have n6 := (HF2.out).x.cell 6
 have n7 := (HF2.out).x.cell 7
 have hlx := (HF2.out).x.lt
 simp only [List.getElem?_toArray, List.getElem?_cons_zero, List.getElem?_cons_succ] at n0 n1 n2 n3 n4 n5 n6 n7
 have h0 := (HF2).out.wr
 obtain ⟨h0, hg, v, hG, hR, h3⟩ := h0
 obtain ⟨i0, hi, hz0, hz1, hz2⟩ := info_parts info_lex
 have s0 := hG.cell 0
 have f0 := hG.frozen 0
 have hltg := Blk.lt hG
 have HG := Lib.hid hG
 have HR := Lib.hid hR
 have HH := Lib.hid (show _ ∧ _ ∧ _ from ⟨h0, hg, h3⟩)
 have HneG := Lib.hid (blk_not_row hG (by decide) hR)
 have hbw := (HF2).out.size
 clear hG hR h0 h3
 have hKl := two_of (Q := fun b => b < w2.heap.size) hlp hlx
 refine wp_region_held_drew (S := fun w' => ∀ b' o', b' = w.heap.size ∨ b' = w.heap.size + 1 → w'.cell? ⟨b', o', none⟩ = w2.cell? ⟨b', o', none⟩) (by kernel_rfl) (KeepP.start (fun b => b = w.heap.size ∨ b = w.heap.size + 1) w2) (fun hHeld => ?_)
 refine wpAnyH_take (i := 0) (oi := _) (v := ?_) rfl (by kernel_rfl) (by kernel_rfl) (by kernel_rfl) (fun _ _ _ h => h) (Or.inl ⟨by kernel_rfl, ?_⟩) (by assumption) ?_
 rotate_left
 ·intro w hSw
  try dsimp only at hSw
  go_simp
  try (with_reducible rfl)
 try simp only [Act.put, List.getElem_toArray, List.getElem_cons_zero, List.getElem_cons_succ, List.setIfInBounds_toArray, List.set_cons_zero, List.set_cons_succ]
 refine wpAnyH_take (i := 1) (oi := _) (v := ?_) rfl (by kernel_rfl) (by kernel_rfl) (by kernel_rfl) (fun _ _ _ h => h) (Or.inl ⟨by kernel_rfl, ?_⟩) (by assumption) ?_
 rotate_left
 ·intro w hSw
  try dsimp only at hSw
  go_simp
  try (with_reducible rfl)
 try simp only [Act.put, List.getElem_toArray, List.getElem_cons_zero, List.getElem_cons_succ, List.setIfInBounds_toArray, List.set_cons_zero, List.set_cons_succ]
 refine wpAnyH_take (i := 2) (oi := _) (v := ?_) rfl (by kernel_rfl) (by kernel_rfl) (by kernel_rfl) (fun _ _ _ h => h) (Or.inl ⟨by kernel_rfl, ?_⟩) (by assumption) ?_
 rotate_left
 ·intro w hSw
  try dsimp only at hSw
  go_simp
  try (with_reducible rfl)
 try simp only [Act.put, List.getElem_toArray, List.getElem_cons_zero, List.getElem_cons_succ, List.setIfInBounds_toArray, List.set_cons_zero, List.set_cons_succ]
 refine wpAnyH_take (i := 3) (oi := _) (v := ?_) rfl (by kernel_rfl) (by kernel_rfl) (by kernel_rfl) (fun _ _ _ h => h) (Or.inl ⟨by kernel_rfl, ?_⟩) (by assumption) ?_
 rotate_left
 ·intro w hSw
  try dsimp only at hSw
  go_simp
  try (with_reducible rfl)
 try simp only [Act.put, List.getElem_toArray, List.getElem_cons_zero, List.getElem_cons_succ, List.setIfInBounds_toArray, List.set_cons_zero, List.set_cons_succ]
 refine wpAnyH_take (i := 5) (oi := _) (v := ?_) rfl (by kernel_rfl) (by kernel_rfl) (by kernel_rfl) (fun _ _ _ h => h) (Or.inl ⟨by kernel_rfl, ?_⟩) (by assumption) ?_
 rotate_left
 ·intro w hSw
  try dsimp only at hSw
  go_simp
  try (with_reducible rfl)
 try simp only [Act.put, List.getElem_toArray, List.getElem_cons_zero, List.getElem_cons_succ, List.setIfInBounds_toArray, List.set_cons_zero, List.set_cons_succ]
 refine wpAnyH_take (i := 6) (oi := _) (v := ?_) rfl (by kernel_rfl) (by kernel_rfl) (by kernel_rfl) (fun _ _ _ h => h) (Or.inl ⟨by kernel_rfl, ?_⟩) (by assumption) ?_
 rotate_left
 ·intro w hSw
  try dsimp only at hSw
  go_simp
  try (with_reducible rfl)
 try simp only [Act.put, List.getElem_toArray, List.getElem_cons_zero, List.getElem_cons_succ, List.setIfInBounds_toArray, List.set_cons_zero, List.set_cons_succ]
 refine wpAnyH_take (i := 7) (oi := _) (v := ?_) rfl (by kernel_rfl) (by kernel_rfl) (by kernel_rfl) (fun _ _ _ h => h) (Or.inl ⟨by kernel_rfl, ?_⟩) (by assumption) ?_
 rotate_left
 ·intro w hSw
  try dsimp only at hSw
  go_simp
  try (with_reducible rfl)
 try simp only [Act.put, List.getElem_toArray, List.getElem_cons_zero, List.getElem_cons_succ, List.setIfInBounds_toArray, List.set_cons_zero, List.set_cons_succ]
 refine wpAnyH_ready (rs := [4, 8]) (by kernel_rfl) (by simp) ?_
 refine AllReadyH.cons (o := _) rfl (fun K hK => ?_) (AllReadyH.cons (o := _) rfl (fun K hK => ?_) AllReadyH.nil)
 ·skip
  go_simp
  refine hK.out _ _ hHeld (fun _ => ?_)
  clear hK K hHeld
  try simp only [Act.put, List.getElem_toArray, List.getElem_cons_zero, List.getElem_cons_succ, List.setIfInBounds_toArray, List.set_cons_zero, List.set_cons_succ]
  refine wpAnyH_ready (rs := [8]) (by kernel_rfl) (by simp) ?_
  refine AllReadyH.cons (o := _) rfl (fun K hK => ?_) AllReadyH.nil
  go_simp
  refine hK.out _ _ (KeepP.alloc (KeepP.start (fun b => b = w.heap.size ∨ b = w.heap.size + 1) w2) hKl _) (fun _ => ?_)
  clear hK K
  try simp only [Act.put, List.getElem_toArray, List.getElem_cons_zero, List.getElem_cons_succ, List.setIfInBounds_toArray, List.set_cons_zero, List.set_cons_succ]
  refine wpAnyH_ready (rs := [9]) (by kernel_rfl) (by simp) ?_
  refine AllReadyH.cons (o := _) rfl (fun K hK => ?_) AllReadyH.nil
  refine step_append_lies _ (by rfl) _ _ _ (by rfl) base 143 i0 _ 8 64 Tryz.underlying138 hi hz0 hz1 hz2 rfl (by decide) v (L).length (lexCells (L)) (by rfl) (HR.out.drew.alloc _) ⟨w2.heap.size, 0, none⟩ 1 1 ([.int .i64 1, .int .i64 0, .int .u64 (word x.set.testBit 0), .int .u64 (word x.set.testBit 1), .int .u64 (word x.set.testBit 2), .int .u64 (word x.set.testBit 3), .int .i64 0, .int .i64 0]) (by rfl) (by rfl) (World.news_of_block (cs := ([.int .i64 1, .int .i64 0, .int .u64 (word x.set.testBit 0), .int .u64 (word x.set.testBit 1), .int .u64 (word x.set.testBit 2), .int .u64 (word x.set.testBit 3), .int .i64 0, .int .i64 0]).toArray) (t := 143) (fr := (0, 0)) (heap_alloc_new w2.drew _)) (by simp [Value.oneCell']) (by decide) h63 hby (by simp; omega) (w2.heap.size + 1) (by simp) ?_
  intro gg cap' w3 hown1 hgrow hat hlt1
  have hG1 := Blk.grown (Blk.alloc (Blk.drew HG.out) _) hgrow HneG.out
  have c0 := hG1.cell 0
  have d0 := hG1.frozen 0
  have hgl := hG1.lt
  have HKG := Lib.hid (KeepP.grown (KeepP.alloc (KeepP.start (fun b => b = w.heap.size ∨ b = w.heap.size + 1) w2) hKl _) hgrow (two_of (Q := fun b => b < _ ∧ some b ≠ v.ownBlock) ⟨by simp; omega, fun e => HF2.out.np (HH.out.2.2 _ e.symm)⟩ ⟨by simp; omega, fun e => HF2.out.nx (HH.out.2.2 _ e.symm)⟩))
  rw [← HLC.out] at hown1
  have HG1 := Lib.hid hG1
  have Hgrow := Lib.hid hgrow
  have Hown1 := Lib.hid hown1
  have Hat := Lib.hid hat
  clear hG1 hgrow hown1 hat
  refine hK.out _ _ HKG.out (fun _ => ?_)
  clear hK K
  try simp only [Act.put, List.getElem_toArray, List.getElem_cons_zero, List.getElem_cons_succ, List.setIfInBounds_toArray, List.set_cons_zero, List.set_cons_succ]
  refine wpAnyH_take (i := 10) (oi := _) (v := ?_) rfl (by kernel_rfl) (by kernel_rfl) (by kernel_rfl) (fun _ _ _ h => h) (Or.inl ⟨by kernel_rfl, ?_⟩) (by assumption) ?_
  rotate_left
  ·intro w hSw
   try dsimp only at hSw
   go_simp
   try (with_reducible rfl)
  try simp only [Act.put, List.getElem_toArray, List.getElem_cons_zero, List.getElem_cons_succ, List.setIfInBounds_toArray, List.set_cons_zero, List.set_cons_succ]
  refine wpAnyH_take (i := 11) (oi := _) (v := ?_) rfl (by kernel_rfl) (by kernel_rfl) (by kernel_rfl) (fun _ _ _ h => h) (Or.inl ⟨by kernel_rfl, ?_⟩) (by assumption) ?_
  rotate_left
  ·intro w hSw
   try dsimp only at hSw
   go_simp
   try (with_reducible rfl)
  try simp only [Act.put, List.getElem_toArray, List.getElem_cons_zero, List.getElem_cons_succ, List.setIfInBounds_toArray, List.set_cons_zero, List.set_cons_succ]
  refine wpAnyH_ready (rs := [12]) (by kernel_rfl) (by simp) ?_
  refine AllReadyH.cons (o := _) rfl (fun K hK => ?_) AllReadyH.nil
  go_simp
  refine hK.out _ _ (KeepP.set HKG.out (two_of (Q := fun b => b ≠ g) (p := w.heap.size) (q := w.heap.size + 1) (fun e => HF2.out.np (by rw [e]; exact HH.out.2.1)) (fun e => HF2.out.nx (by rw [e]; exact HH.out.2.1))) _) (fun _ => ?_)
  clear hK K
  try simp only [Act.put, List.getElem_toArray, List.getElem_cons_zero, List.getElem_cons_succ, List.setIfInBounds_toArray, List.set_cons_zero, List.set_cons_succ]
  refine wpAnyH_done (by kernel_rfl) ?_ _
  go_wp2
  go_light
  go_end0
  obtain ⟨S', hp1, hp2⟩ := wr_push HH.out hbw HG1.out ((Below.refl w2.heap.size w2).drew.alloc (Nat.le_refl _) _) Hgrow.out Hown1.out Hat.out (by omega)
  exact (HF2.out.go hp1 hp2).out rfl
 ·skip
  go_simp
  refine hK.out _ _ (KeepP.alloc (KeepP.start (fun b => b = w.heap.size ∨ b = w.heap.size + 1) w2) hKl _) (fun _ => ?_)
  clear hK K hHeld
  try simp only [Act.put, List.getElem_toArray, List.getElem_cons_zero, List.getElem_cons_succ, List.setIfInBounds_toArray, List.set_cons_zero, List.set_cons_succ]
  refine wpAnyH_ready (rs := [4]) (by kernel_rfl) (by simp) ?_
  refine AllReadyH.cons (o := _) rfl (fun K hK => ?_) AllReadyH.nil
  go_simp
  refine hK.out _ _ (by assumption) (fun _ => ?_)
  clear hK K
  try simp only [Act.put, List.getElem_toArray, List.getElem_cons_zero, List.getElem_cons_succ, List.setIfInBounds_toArray, List.set_cons_zero, List.set_cons_succ]
  refine wpAnyH_ready (rs := [9]) (by kernel_rfl) (by simp) ?_
  refine AllReadyH.cons (o := _) rfl (fun K hK => ?_) AllReadyH.nil
  refine step_append_lies _ (by rfl) _ _ _ (by rfl) base 143 i0 _ 8 64 Tryz.underlying138 hi hz0 hz1 hz2 rfl (by decide) v (L).length (lexCells (L)) (by rfl) (HR.out.drew.alloc _) ⟨w2.heap.size, 0, none⟩ 1 1 ([.int .i64 1, .int .i64 0, .int .u64 (word x.set.testBit 0), .int .u64 (word x.set.testBit 1), .int .u64 (word x.set.testBit 2), .int .u64 (word x.set.testBit 3), .int .i64 0, .int .i64 0]) (by rfl) (by rfl) (World.news_of_block (cs := ([.int .i64 1, .int .i64 0, .int .u64 (word x.set.testBit 0), .int .u64 (word x.set.testBit 1), .int .u64 (word x.set.testBit 2), .int .u64 (word x.set.testBit 3), .int .i64 0, .int .i64 0]).toArray) (t := 143) (fr := (0, 0)) (heap_alloc_new w2.drew _)) (by simp [Value.oneCell']) (by decide) h63 hby (by simp; omega) (w2.heap.size + 1) (by simp) ?_
  intro gg cap' w3 hown1 hgrow hat hlt1
  have hG1 := Blk.grown (Blk.alloc (Blk.drew HG.out) _) hgrow HneG.out
  have c0 := hG1.cell 0
  have d0 := hG1.frozen 0
  have hgl := hG1.lt
  have HKG := Lib.hid (KeepP.grown (KeepP.alloc (KeepP.start (fun b => b = w.heap.size ∨ b = w.heap.size + 1) w2) hKl _) hgrow (two_of (Q := fun b => b < _ ∧ some b ≠ v.ownBlock) ⟨by simp; omega, fun e => HF2.out.np (HH.out.2.2 _ e.symm)⟩ ⟨by simp; omega, fun e => HF2.out.nx (HH.out.2.2 _ e.symm)⟩))
  rw [← HLC.out] at hown1
  have HG1 := Lib.hid hG1
  have Hgrow := Lib.hid hgrow
  have Hown1 := Lib.hid hown1
  have Hat := Lib.hid hat
  clear hG1 hgrow hown1 hat
  refine hK.out _ _ HKG.out (fun _ => ?_)
  clear hK K
  try simp only [Act.put, List.getElem_toArray, List.getElem_cons_zero, List.getElem_cons_succ, List.setIfInBounds_toArray, List.set_cons_zero, List.set_cons_succ]
  refine wpAnyH_take (i := 10) (oi := _) (v := ?_) rfl (by kernel_rfl) (by kernel_rfl) (by kernel_rfl) (fun _ _ _ h => h) (Or.inl ⟨by kernel_rfl, ?_⟩) (by assumption) ?_
  rotate_left
  ·intro w hSw
   try dsimp only at hSw
   go_simp
   try (with_reducible rfl)
  try simp only [Act.put, List.getElem_toArray, List.getElem_cons_zero, List.getElem_cons_succ, List.setIfInBounds_toArray, List.set_cons_zero, List.set_cons_succ]
  refine wpAnyH_take (i := 11) (oi := _) (v := ?_) rfl (by kernel_rfl) (by kernel_rfl) (by kernel_rfl) (fun _ _ _ h => h) (Or.inl ⟨by kernel_rfl, ?_⟩) (by assumption) ?_
  rotate_left
  ·intro w hSw
   try dsimp only at hSw
   go_simp
   try (with_reducible rfl)
  try simp only [Act.put, List.getElem_toArray, List.getElem_cons_zero, List.getElem_cons_succ, List.setIfInBounds_toArray, List.set_cons_zero, List.set_cons_succ]
  refine wpAnyH_ready (rs := [12]) (by kernel_rfl) (by simp) ?_
  refine AllReadyH.cons (o := _) rfl (fun K hK => ?_) AllReadyH.nil
  go_simp
  refine hK.out _ _ (KeepP.set HKG.out (two_of (Q := fun b => b ≠ g) (p := w.heap.size) (q := w.heap.size + 1) (fun e => HF2.out.np (by rw [e]; exact HH.out.2.1)) (fun e => HF2.out.nx (by rw [e]; exact HH.out.2.1))) _) (fun _ => ?_)
  clear hK K
  try simp only [Act.put, List.getElem_toArray, List.getElem_cons_zero, List.getElem_cons_succ, List.setIfInBounds_toArray, List.set_cons_zero, List.set_cons_succ]
  refine wpAnyH_done (by kernel_rfl) ?_ _
  go_wp2
  go_light
  go_end0
  obtain ⟨S', hp1, hp2⟩ := wr_push HH.out hbw HG1.out ((Below.refl w2.heap.size w2).drew.alloc (Nat.le_refl _) _) Hgrow.out Hown1.out Hat.out (by omega)
  exact (HF2.out.go hp1 hp2).out rfl
theorem write_post6 (x : Nd) (hK : KidsW x.kids) (B : Option Addr) (cap base g : Nat) (S : Nat → Prop) (L : List Lex) (w : World) (ht : TreesAt w (fun b => ¬ S b) x.kids B) (h : WrAt w base g S L) (hb : base ≤ w.heap.size) (hl : L.length + x.write.length ≤ 90000000) (hkl : x.kids.len ≤ 140737488355328) (hk : x.kind = 6) (hk1 : x.kids.len = 1) : Calls Tryz.prog 161 #[.pointer (some ⟨g, 0, none⟩), ndV x B cap] w (WrOut base g S w (L ++ x.write)) := by
 obtain ⟨z, hz1, hz⟩ := one_kid hk1
 have hlk : L.length + (kidS 6 (z.kind, z.write)).length ≤ 90000000 ∧ (L ++ kidS 6 (z.kind, z.write)).length + 1 ≤ 90000000 := by
  rw [Nd.write_post (by omega), Trees.writes_head hz] at hl
  simp only [List.length_append, List.length_cons, List.length_nil, hk] at hl ⊢
  omega
 rw [Nd.write_post (by omega), Trees.writes_head hz]
 have HK1 := Lib.hid hk1
 clear hk1
 have HF2 := Lib.hid (show WFr w base g S #[.int .i64 6, .int .u64 (word x.set.testBit 0), .int .u64 (word x.set.testBit 1), .int .u64 (word x.set.testBit 2), .int .u64 (word x.set.testBit 3), .slice B x.kids.len cap, .int .i64 x.lo, .int .i64 x.hi] S L ((w.alloc (.cells #[.pointer (some ⟨g, 0, none⟩)] 217)).alloc (.cells #[.int .i64 6, .int .u64 (word x.set.testBit 0), .int .u64 (word x.set.testBit 1), .int .u64 (word x.set.testBit 2), .int .u64 (word x.set.testBit 3), .slice B x.kids.len cap, .int .i64 x.lo, .int .i64 x.hi] 28)) from WFr.start #[.int .i64 6, .int .u64 (word x.set.testBit 0), .int .u64 (word x.set.testBit 1), .int .u64 (word x.set.testBit 2), .int .u64 (word x.set.testBit 3), .slice B x.kids.len cap, .int .i64 x.lo, .int .i64 x.hi] h hb)
 have HT := Lib.hid ht
 have HK := Lib.hid hK
 unfold ndV
 rw [hk]
 clear ht hK h
 go_enter Tryz.func161, Tryz.ntmps161
 try rw [hk]
 go_upto_region 23 with fail
 generalize ((w.alloc (.cells #[.pointer (some ⟨g, 0, none⟩)] 217)).alloc (.cells #[.int .i64 6, .int .u64 (word x.set.testBit 0), .int .u64 (word x.set.testBit 1), .int .u64 (word x.set.testBit 2), .int .u64 (word x.set.testBit 3), .slice B x.kids.len cap, .int .i64 x.lo, .int .i64 x.hi] 28)) = w2 at *
 have hk1 := HK1.out
 have hF := HF2.out
 obtain ⟨b, o, C, capc, rfl, hnb, _, ⟨c0, c1, c2, c3, c4, c5, c6, c7⟩, hkz⟩ := (HT.out.movesW hF.mvs).get hz
 have hblk := World.block_lt_of_cell? w2 _ c0
 obtain ⟨k1, k9, hWz⟩ := HK.out z (List.mem_of_getElem? hz)
 simp only [Nat.zero_mul, Nat.add_zero] at c0 c1 c2 c3 c4 c5 c6 c7
 have HC := Lib.hid (kid_go 6 z C capc 3 base g w.heap.size S L w2 hkz hF.wr hF.size (hF.p.cell 0) hF.np k1 k9 hWz hlk.1 (by decide))
 unfold ndV at HC
 have p0 := (hF).p.cell 0
 have hlp := (hF).p.lt
 simp only [List.getElem?_toArray, List.getElem?_cons_zero, List.getElem?_cons_succ] at p0
 have n0 := (hF).x.cell 0
 have n1 := (hF).x.cell 1
 have n2 := (hF).x.cell 2
 have n3 := (hF).x.cell 3
 have n4 := (hF).x.cell 4
 have n5 := (hF).x.cell 5
 have n6 := (hF).x.cell 6
 have n7 := (hF).x.cell 7
 have hlx := (hF).x.lt
 simp only [List.getElem?_toArray, List.getElem?_cons_zero, List.getElem?_cons_succ] at n0 n1 n2 n3 n4 n5 n6 n7
 clear hF hkz hz hz1 k1 k9 hWz hl
 generalize kidS 6 (z.kind, z.write) = lk at *
 go_wp2_with fail
 refine HC.out.mono ?_
 rintro e w5 ⟨rfl, S5, hm5, hv5⟩
 have HF5 := Lib.hid (HF2.out.go hm5 hv5)
 clear hm5 hv5 HC HF2 c0 c1 c2 c3 c4 c5 c6 c7 hblk hnb p0 hlp n0 n1 n2 n3 n4 n5 n6 n7 hlx
 dsimp only
 have p0 := (HF5.out).p.cell 0
 have hlp := (HF5.out).p.lt
 simp only [List.getElem?_toArray, List.getElem?_cons_zero, List.getElem?_cons_succ] at p0
 have n0 := (HF5.out).x.cell 0
 have n1 := (HF5.out).x.cell 1
 have n2 := (HF5.out).x.cell 2
 have n3 := (HF5.out).x.cell 3
 have n4 := (HF5.out).x.cell 4
 have n5 := (HF5.out).x.cell 5
 have n6 := (HF5.out).x.cell 6
 have n7 := (HF5.out).x.cell 7
 have hlx := (HF5.out).x.lt
 simp only [List.getElem?_toArray, List.getElem?_cons_zero, List.getElem?_cons_succ] at n0 n1 n2 n3 n4 n5 n6 n7
 have HP := Lib.hid (wput_go base g S5 (L ++ lk) 5 w5 HF5.out.wr HF5.out.size (by omega))
 go_wp2_with fail
 refine HP.out.mono ?_
 rintro e w6 ⟨rfl, S6, hm6, hv6⟩
 have HF6 := Lib.hid (HF5.out.go hm6 hv6)
 clear hm6 hv6 HP HF5 p0 hlp n0 n1 n2 n3 n4 n5 n6 n7 hlx
 dsimp only
 go_wp2
 go_light
 go_end0
 rw [← List.append_assoc]
 exact HF6.out.out rfl
theorem write_post7 (x : Nd) (hK : KidsW x.kids) (B : Option Addr) (cap base g : Nat) (S : Nat → Prop) (L : List Lex) (w : World) (ht : TreesAt w (fun b => ¬ S b) x.kids B) (h : WrAt w base g S L) (hb : base ≤ w.heap.size) (hl : L.length + x.write.length ≤ 90000000) (hkl : x.kids.len ≤ 140737488355328) (hk : x.kind = 7) (hk1 : x.kids.len = 1) : Calls Tryz.prog 161 #[.pointer (some ⟨g, 0, none⟩), ndV x B cap] w (WrOut base g S w (L ++ x.write)) := by
 obtain ⟨z, hz1, hz⟩ := one_kid hk1
 have hlk : L.length + (kidS 7 (z.kind, z.write)).length ≤ 90000000 ∧ (L ++ kidS 7 (z.kind, z.write)).length + 1 ≤ 90000000 := by
  rw [Nd.write_post (by omega), Trees.writes_head hz] at hl
  simp only [List.length_append, List.length_cons, List.length_nil, hk] at hl ⊢
  omega
 rw [Nd.write_post (by omega), Trees.writes_head hz]
 have HK1 := Lib.hid hk1
 clear hk1
 have HF2 := Lib.hid (show WFr w base g S #[.int .i64 7, .int .u64 (word x.set.testBit 0), .int .u64 (word x.set.testBit 1), .int .u64 (word x.set.testBit 2), .int .u64 (word x.set.testBit 3), .slice B x.kids.len cap, .int .i64 x.lo, .int .i64 x.hi] S L ((w.alloc (.cells #[.pointer (some ⟨g, 0, none⟩)] 217)).alloc (.cells #[.int .i64 7, .int .u64 (word x.set.testBit 0), .int .u64 (word x.set.testBit 1), .int .u64 (word x.set.testBit 2), .int .u64 (word x.set.testBit 3), .slice B x.kids.len cap, .int .i64 x.lo, .int .i64 x.hi] 28)) from WFr.start #[.int .i64 7, .int .u64 (word x.set.testBit 0), .int .u64 (word x.set.testBit 1), .int .u64 (word x.set.testBit 2), .int .u64 (word x.set.testBit 3), .slice B x.kids.len cap, .int .i64 x.lo, .int .i64 x.hi] h hb)
 have HT := Lib.hid ht
 have HK := Lib.hid hK
 unfold ndV
 rw [hk]
 clear ht hK h
 go_enter Tryz.func161, Tryz.ntmps161
 try rw [hk]
 go_upto_region 23 with fail
 generalize ((w.alloc (.cells #[.pointer (some ⟨g, 0, none⟩)] 217)).alloc (.cells #[.int .i64 7, .int .u64 (word x.set.testBit 0), .int .u64 (word x.set.testBit 1), .int .u64 (word x.set.testBit 2), .int .u64 (word x.set.testBit 3), .slice B x.kids.len cap, .int .i64 x.lo, .int .i64 x.hi] 28)) = w2 at *
 have hk1 := HK1.out
 have hF := HF2.out
 obtain ⟨b, o, C, capc, rfl, hnb, _, ⟨c0, c1, c2, c3, c4, c5, c6, c7⟩, hkz⟩ := (HT.out.movesW hF.mvs).get hz
 have hblk := World.block_lt_of_cell? w2 _ c0
 obtain ⟨k1, k9, hWz⟩ := HK.out z (List.mem_of_getElem? hz)
 simp only [Nat.zero_mul, Nat.add_zero] at c0 c1 c2 c3 c4 c5 c6 c7
 have HC := Lib.hid (kid_go 7 z C capc 3 base g w.heap.size S L w2 hkz hF.wr hF.size (hF.p.cell 0) hF.np k1 k9 hWz hlk.1 (by decide))
 unfold ndV at HC
 have p0 := (hF).p.cell 0
 have hlp := (hF).p.lt
 simp only [List.getElem?_toArray, List.getElem?_cons_zero, List.getElem?_cons_succ] at p0
 have n0 := (hF).x.cell 0
 have n1 := (hF).x.cell 1
 have n2 := (hF).x.cell 2
 have n3 := (hF).x.cell 3
 have n4 := (hF).x.cell 4
 have n5 := (hF).x.cell 5
 have n6 := (hF).x.cell 6
 have n7 := (hF).x.cell 7
 have hlx := (hF).x.lt
 simp only [List.getElem?_toArray, List.getElem?_cons_zero, List.getElem?_cons_succ] at n0 n1 n2 n3 n4 n5 n6 n7
 clear hF hkz hz hz1 k1 k9 hWz hl
 generalize kidS 7 (z.kind, z.write) = lk at *
 go_wp2_with fail
 refine HC.out.mono ?_
 rintro e w5 ⟨rfl, S5, hm5, hv5⟩
 have HF5 := Lib.hid (HF2.out.go hm5 hv5)
 clear hm5 hv5 HC HF2 c0 c1 c2 c3 c4 c5 c6 c7 hblk hnb p0 hlp n0 n1 n2 n3 n4 n5 n6 n7 hlx
 dsimp only
 have p0 := (HF5.out).p.cell 0
 have hlp := (HF5.out).p.lt
 simp only [List.getElem?_toArray, List.getElem?_cons_zero, List.getElem?_cons_succ] at p0
 have n0 := (HF5.out).x.cell 0
 have n1 := (HF5.out).x.cell 1
 have n2 := (HF5.out).x.cell 2
 have n3 := (HF5.out).x.cell 3
 have n4 := (HF5.out).x.cell 4
 have n5 := (HF5.out).x.cell 5
 have n6 := (HF5.out).x.cell 6
 have n7 := (HF5.out).x.cell 7
 have hlx := (HF5.out).x.lt
 simp only [List.getElem?_toArray, List.getElem?_cons_zero, List.getElem?_cons_succ] at n0 n1 n2 n3 n4 n5 n6 n7
 have HP := Lib.hid (wput_go base g S5 (L ++ lk) 6 w5 HF5.out.wr HF5.out.size (by omega))
 go_wp2_with fail
 refine HP.out.mono ?_
 rintro e w6 ⟨rfl, S6, hm6, hv6⟩
 have HF6 := Lib.hid (HF5.out.go hm6 hv6)
 clear hm6 hv6 HP HF5 p0 hlp n0 n1 n2 n3 n4 n5 n6 n7 hlx
 dsimp only
 go_wp2
 go_light
 go_end0
 rw [← List.append_assoc]
 exact HF6.out.out rfl
theorem write_post8 (x : Nd) (hK : KidsW x.kids) (B : Option Addr) (cap base g : Nat) (S : Nat → Prop) (L : List Lex) (w : World) (ht : TreesAt w (fun b => ¬ S b) x.kids B) (h : WrAt w base g S L) (hb : base ≤ w.heap.size) (hl : L.length + x.write.length ≤ 90000000) (hkl : x.kids.len ≤ 140737488355328) (hk : x.kind = 8) (hk1 : x.kids.len = 1) : Calls Tryz.prog 161 #[.pointer (some ⟨g, 0, none⟩), ndV x B cap] w (WrOut base g S w (L ++ x.write)) := by
 obtain ⟨z, hz1, hz⟩ := one_kid hk1
 have hlk : L.length + (kidS 8 (z.kind, z.write)).length ≤ 90000000 ∧ (L ++ kidS 8 (z.kind, z.write)).length + 1 ≤ 90000000 := by
  rw [Nd.write_post (by omega), Trees.writes_head hz] at hl
  simp only [List.length_append, List.length_cons, List.length_nil, hk] at hl ⊢
  omega
 rw [Nd.write_post (by omega), Trees.writes_head hz]
 have HK1 := Lib.hid hk1
 clear hk1
 have HF2 := Lib.hid (show WFr w base g S #[.int .i64 8, .int .u64 (word x.set.testBit 0), .int .u64 (word x.set.testBit 1), .int .u64 (word x.set.testBit 2), .int .u64 (word x.set.testBit 3), .slice B x.kids.len cap, .int .i64 x.lo, .int .i64 x.hi] S L ((w.alloc (.cells #[.pointer (some ⟨g, 0, none⟩)] 217)).alloc (.cells #[.int .i64 8, .int .u64 (word x.set.testBit 0), .int .u64 (word x.set.testBit 1), .int .u64 (word x.set.testBit 2), .int .u64 (word x.set.testBit 3), .slice B x.kids.len cap, .int .i64 x.lo, .int .i64 x.hi] 28)) from WFr.start #[.int .i64 8, .int .u64 (word x.set.testBit 0), .int .u64 (word x.set.testBit 1), .int .u64 (word x.set.testBit 2), .int .u64 (word x.set.testBit 3), .slice B x.kids.len cap, .int .i64 x.lo, .int .i64 x.hi] h hb)
 have HT := Lib.hid ht
 have HK := Lib.hid hK
 unfold ndV
 rw [hk]
 clear ht hK h
 go_enter Tryz.func161, Tryz.ntmps161
 try rw [hk]
 go_upto_region 23 with fail
 generalize ((w.alloc (.cells #[.pointer (some ⟨g, 0, none⟩)] 217)).alloc (.cells #[.int .i64 8, .int .u64 (word x.set.testBit 0), .int .u64 (word x.set.testBit 1), .int .u64 (word x.set.testBit 2), .int .u64 (word x.set.testBit 3), .slice B x.kids.len cap, .int .i64 x.lo, .int .i64 x.hi] 28)) = w2 at *
 have hk1 := HK1.out
 have hF := HF2.out
 obtain ⟨b, o, C, capc, rfl, hnb, _, ⟨c0, c1, c2, c3, c4, c5, c6, c7⟩, hkz⟩ := (HT.out.movesW hF.mvs).get hz
 have hblk := World.block_lt_of_cell? w2 _ c0
 obtain ⟨k1, k9, hWz⟩ := HK.out z (List.mem_of_getElem? hz)
 simp only [Nat.zero_mul, Nat.add_zero] at c0 c1 c2 c3 c4 c5 c6 c7
 have HC := Lib.hid (kid_go 8 z C capc 3 base g w.heap.size S L w2 hkz hF.wr hF.size (hF.p.cell 0) hF.np k1 k9 hWz hlk.1 (by decide))
 unfold ndV at HC
 have p0 := (hF).p.cell 0
 have hlp := (hF).p.lt
 simp only [List.getElem?_toArray, List.getElem?_cons_zero, List.getElem?_cons_succ] at p0
 have n0 := (hF).x.cell 0
 have n1 := (hF).x.cell 1
 have n2 := (hF).x.cell 2
 have n3 := (hF).x.cell 3
 have n4 := (hF).x.cell 4
 have n5 := (hF).x.cell 5
 have n6 := (hF).x.cell 6
 have n7 := (hF).x.cell 7
 have hlx := (hF).x.lt
 simp only [List.getElem?_toArray, List.getElem?_cons_zero, List.getElem?_cons_succ] at n0 n1 n2 n3 n4 n5 n6 n7
 clear hF hkz hz hz1 k1 k9 hWz hl
 generalize kidS 8 (z.kind, z.write) = lk at *
 go_wp2_with fail
 refine HC.out.mono ?_
 rintro e w5 ⟨rfl, S5, hm5, hv5⟩
 have HF5 := Lib.hid (HF2.out.go hm5 hv5)
 clear hm5 hv5 HC HF2 c0 c1 c2 c3 c4 c5 c6 c7 hblk hnb p0 hlp n0 n1 n2 n3 n4 n5 n6 n7 hlx
 dsimp only
 have p0 := (HF5.out).p.cell 0
 have hlp := (HF5.out).p.lt
 simp only [List.getElem?_toArray, List.getElem?_cons_zero, List.getElem?_cons_succ] at p0
 have n0 := (HF5.out).x.cell 0
 have n1 := (HF5.out).x.cell 1
 have n2 := (HF5.out).x.cell 2
 have n3 := (HF5.out).x.cell 3
 have n4 := (HF5.out).x.cell 4
 have n5 := (HF5.out).x.cell 5
 have n6 := (HF5.out).x.cell 6
 have n7 := (HF5.out).x.cell 7
 have hlx := (HF5.out).x.lt
 simp only [List.getElem?_toArray, List.getElem?_cons_zero, List.getElem?_cons_succ] at n0 n1 n2 n3 n4 n5 n6 n7
 have HP := Lib.hid (wput_go base g S5 (L ++ lk) 7 w5 HF5.out.wr HF5.out.size (by omega))
 go_wp2_with fail
 refine HP.out.mono ?_
 rintro e w6 ⟨rfl, S6, hm6, hv6⟩
 have HF6 := Lib.hid (HF5.out.go hm6 hv6)
 clear hm6 hv6 HP HF5 p0 hlp n0 n1 n2 n3 n4 n5 n6 n7 hlx
 dsimp only
 go_wp2
 go_light
 go_end0
 rw [← List.append_assoc]
 exact HF6.out.out rfl
theorem write_rep (x : Nd) (hK : KidsW x.kids) (B : Option Addr) (cap base g : Nat) (S : Nat → Prop) (L : List Lex) (w : World) (ht : TreesAt w (fun b => ¬ S b) x.kids B) (h : WrAt w base g S L) (hb : base ≤ w.heap.size) (hl : L.length + x.write.length ≤ 90000000) (hkl : x.kids.len ≤ 140737488355328) (hk : x.kind = 9) (hk1 : x.kids.len = 1) : Calls Tryz.prog 161 #[.pointer (some ⟨g, 0, none⟩), ndV x B cap] w (WrOut base g S w (L ++ x.write)) := by
 obtain ⟨z, hz1, hz⟩ := one_kid hk1
 have hlk : L.length + (kidS 9 (z.kind, z.write)).length ≤ 90000000 ∧ (L ++ kidS 9 (z.kind, z.write)).length + 1 ≤ 90000000 := by
  rw [Nd.write_rep hk, Trees.writes_head hz] at hl
  simp only [List.length_append, List.length_cons, List.length_nil, hk] at hl ⊢
  omega
 rw [Nd.write_rep hk, Trees.writes_head hz]
 have HK1 := Lib.hid hk1
 clear hk1
 have HF2 := Lib.hid (show WFr w base g S #[.int .i64 9, .int .u64 (word x.set.testBit 0), .int .u64 (word x.set.testBit 1), .int .u64 (word x.set.testBit 2), .int .u64 (word x.set.testBit 3), .slice B x.kids.len cap, .int .i64 x.lo, .int .i64 x.hi] S L ((w.alloc (.cells #[.pointer (some ⟨g, 0, none⟩)] 217)).alloc (.cells #[.int .i64 9, .int .u64 (word x.set.testBit 0), .int .u64 (word x.set.testBit 1), .int .u64 (word x.set.testBit 2), .int .u64 (word x.set.testBit 3), .slice B x.kids.len cap, .int .i64 x.lo, .int .i64 x.hi] 28)) from WFr.start #[.int .i64 9, .int .u64 (word x.set.testBit 0), .int .u64 (word x.set.testBit 1), .int .u64 (word x.set.testBit 2), .int .u64 (word x.set.testBit 3), .slice B x.kids.len cap, .int .i64 x.lo, .int .i64 x.hi] h hb)
 have HT := Lib.hid ht
 have HK := Lib.hid hK
 unfold ndV
 rw [hk]
 clear ht hK h
 go_enter Tryz.func161, Tryz.ntmps161
 try rw [hk]
 go_upto_region 26 with fail
 generalize ((w.alloc (.cells #[.pointer (some ⟨g, 0, none⟩)] 217)).alloc (.cells #[.int .i64 9, .int .u64 (word x.set.testBit 0), .int .u64 (word x.set.testBit 1), .int .u64 (word x.set.testBit 2), .int .u64 (word x.set.testBit 3), .slice B x.kids.len cap, .int .i64 x.lo, .int .i64 x.hi] 28)) = w2 at *
 have hk1 := HK1.out
 have hF := HF2.out
 obtain ⟨b, o, C, capc, rfl, hnb, _, ⟨c0, c1, c2, c3, c4, c5, c6, c7⟩, hkz⟩ := (HT.out.movesW hF.mvs).get hz
 have hblk := World.block_lt_of_cell? w2 _ c0
 obtain ⟨k1, k9, hWz⟩ := HK.out z (List.mem_of_getElem? hz)
 simp only [Nat.zero_mul, Nat.add_zero] at c0 c1 c2 c3 c4 c5 c6 c7
 have HC := Lib.hid (kid_go 9 z C capc 3 base g w.heap.size S L w2 hkz hF.wr hF.size (hF.p.cell 0) hF.np k1 k9 hWz hlk.1 (by decide))
 unfold ndV at HC
 have p0 := (hF).p.cell 0
 have hlp := (hF).p.lt
 simp only [List.getElem?_toArray, List.getElem?_cons_zero, List.getElem?_cons_succ] at p0
 have n0 := (hF).x.cell 0
 have n1 := (hF).x.cell 1
 have n2 := (hF).x.cell 2
 have n3 := (hF).x.cell 3
 have n4 := (hF).x.cell 4
 have n5 := (hF).x.cell 5
 have n6 := (hF).x.cell 6
 have n7 := (hF).x.cell 7
 have hlx := (hF).x.lt
 simp only [List.getElem?_toArray, List.getElem?_cons_zero, List.getElem?_cons_succ] at n0 n1 n2 n3 n4 n5 n6 n7
 clear hF hkz hz hz1 k1 k9 hWz hl
 generalize kidS 9 (z.kind, z.write) = lk at *
 go_wp2_with fail
 refine HC.out.mono ?_
 rintro e w5 ⟨rfl, S5, hm5, hv5⟩
 have HF5 := Lib.hid (HF2.out.go hm5 hv5)
 clear hm5 hv5 HC HF2 c0 c1 c2 c3 c4 c5 c6 c7 hblk hnb p0 hlp n0 n1 n2 n3 n4 n5 n6 n7 hlx
 dsimp only
 have h63 : (L ++ lk).length + 1 ≤ maxLen := Nat.le_trans (show (L ++ lk).length + 1 ≤ 2000000000 by omega) (by decide)
 have hby : ((L ++ lk).length + 1) * 64 ≤ 140737488355328 := by omega
 have HLC := Lib.hid (show lexCell ⟨8, 0, noSet, x.lo, x.hi⟩ = [.int .i64 8, .int .i64 0, .int .u64 0, .int .u64 0, .int .u64 0, .int .u64 0, .int .i64 x.lo, .int .i64 x.hi] from rfl)
 go_upto_region 27 with fail
 have p0 := (HF5.out).p.cell 0
 have hlp := (HF5.out).p.lt
 simp only [List.getElem?_toArray, List.getElem?_cons_zero, List.getElem?_cons_succ] at p0
 have n0 := (HF5.out).x.cell 0
 have n1 := (HF5.out).x.cell 1
 have n2 := (HF5.out).x.cell 2
 have n3 := (HF5.out).x.cell 3
 have n4 := (HF5.out).x.cell 4
 have n5 := (HF5.out).x.cell 5
 have n6 := (HF5.out).x.cell 6
 have n7 := (HF5.out).x.cell 7
 have hlx := (HF5.out).x.lt
 simp only [List.getElem?_toArray, List.getElem?_cons_zero, List.getElem?_cons_succ] at n0 n1 n2 n3 n4 n5 n6 n7
 have h0 := (HF5).out.wr
 obtain ⟨h0, hg, v, hG, hR, h3⟩ := h0
 obtain ⟨i0, hi, hz0, hz1, hz2⟩ := info_parts info_lex
 have s0 := hG.cell 0
 have f0 := hG.frozen 0
 have hltg := Blk.lt hG
 have HG := Lib.hid hG
 have HR := Lib.hid hR
 have HH := Lib.hid (show _ ∧ _ ∧ _ from ⟨h0, hg, h3⟩)
 have HneG := Lib.hid (blk_not_row hG (by decide) hR)
 have hbw := (HF5).out.size
 clear hG hR h0 h3
 have hKl := two_of (Q := fun b => b < w5.heap.size) hlp hlx
 refine wp_region_held_drew (S := fun w' => ∀ b' o', b' = w.heap.size ∨ b' = w.heap.size + 1 → w'.cell? ⟨b', o', none⟩ = w5.cell? ⟨b', o', none⟩) (by kernel_rfl) (KeepP.start (fun b => b = w.heap.size ∨ b = w.heap.size + 1) w5) (fun hHeld => ?_)
 refine wpAnyH_take (i := 0) (oi := _) (v := ?_) rfl (by kernel_rfl) (by kernel_rfl) (by kernel_rfl) (fun _ _ _ h => h) (Or.inl ⟨by kernel_rfl, ?_⟩) (by assumption) ?_
 rotate_left
 ·intro w hSw
  try dsimp only at hSw
  go_simp
  try (with_reducible rfl)
 try simp only [Act.put, List.getElem_toArray, List.getElem_cons_zero, List.getElem_cons_succ, List.setIfInBounds_toArray, List.set_cons_zero, List.set_cons_succ]
 refine wpAnyH_take (i := 1) (oi := _) (v := ?_) rfl (by kernel_rfl) (by kernel_rfl) (by kernel_rfl) (fun _ _ _ h => h) (Or.inl ⟨by kernel_rfl, ?_⟩) (by assumption) ?_
 rotate_left
 ·intro w hSw
  try dsimp only at hSw
  go_simp
  try (with_reducible rfl)
 try simp only [Act.put, List.getElem_toArray, List.getElem_cons_zero, List.getElem_cons_succ, List.setIfInBounds_toArray, List.set_cons_zero, List.set_cons_succ]
 refine wpAnyH_take (i := 2) (oi := _) (v := ?_) rfl (by kernel_rfl) (by kernel_rfl) (by kernel_rfl) (fun _ _ _ h => h) (Or.inl ⟨by kernel_rfl, ?_⟩) (by assumption) ?_
 rotate_left
 ·intro w hSw
  try dsimp only at hSw
  go_simp
  try (with_reducible rfl)
 try simp only [Act.put, List.getElem_toArray, List.getElem_cons_zero, List.getElem_cons_succ, List.setIfInBounds_toArray, List.set_cons_zero, List.set_cons_succ]
 refine wpAnyH_take (i := 3) (oi := _) (v := ?_) rfl (by kernel_rfl) (by kernel_rfl) (by kernel_rfl) (fun _ _ _ h => h) (Or.inl ⟨by kernel_rfl, ?_⟩) (by assumption) ?_
 rotate_left
 ·intro w hSw
  try dsimp only at hSw
  go_simp
  try (with_reducible rfl)
 try simp only [Act.put, List.getElem_toArray, List.getElem_cons_zero, List.getElem_cons_succ, List.setIfInBounds_toArray, List.set_cons_zero, List.set_cons_succ]
 refine wpAnyH_take (i := 5) (oi := _) (v := ?_) rfl (by kernel_rfl) (by kernel_rfl) (by kernel_rfl) (fun _ _ _ h => h) (Or.inl ⟨by kernel_rfl, ?_⟩) (by assumption) ?_
 rotate_left
 ·intro w hSw
  try dsimp only at hSw
  go_simp
  try (with_reducible rfl)
 try simp only [Act.put, List.getElem_toArray, List.getElem_cons_zero, List.getElem_cons_succ, List.setIfInBounds_toArray, List.set_cons_zero, List.set_cons_succ]
 refine wpAnyH_take (i := 6) (oi := _) (v := ?_) rfl (by kernel_rfl) (by kernel_rfl) (by kernel_rfl) (fun _ _ _ h => h) (Or.inl ⟨by kernel_rfl, ?_⟩) (by assumption) ?_
 rotate_left
 ·intro w hSw
  try dsimp only at hSw
  go_simp
  try (with_reducible rfl)
 try simp only [Act.put, List.getElem_toArray, List.getElem_cons_zero, List.getElem_cons_succ, List.setIfInBounds_toArray, List.set_cons_zero, List.set_cons_succ]
 refine wpAnyH_take (i := 7) (oi := _) (v := ?_) rfl (by kernel_rfl) (by kernel_rfl) (by kernel_rfl) (fun _ _ _ h => h) (Or.inl ⟨by kernel_rfl, ?_⟩) (by assumption) ?_
 rotate_left
 ·intro w hSw
  try dsimp only at hSw
  go_simp
  try (with_reducible rfl)
 try simp only [Act.put, List.getElem_toArray, List.getElem_cons_zero, List.getElem_cons_succ, List.setIfInBounds_toArray, List.set_cons_zero, List.set_cons_succ]
 refine wpAnyH_take (i := 8) (oi := _) (v := ?_) rfl (by kernel_rfl) (by kernel_rfl) (by kernel_rfl) (fun _ _ _ h => h) (Or.inl ⟨by kernel_rfl, ?_⟩) (by assumption) ?_
 rotate_left
 ·intro w hSw
  try dsimp only at hSw
  go_simp
  try (with_reducible rfl)
 try simp only [Act.put, List.getElem_toArray, List.getElem_cons_zero, List.getElem_cons_succ, List.setIfInBounds_toArray, List.set_cons_zero, List.set_cons_succ]
 refine wpAnyH_take (i := 9) (oi := _) (v := ?_) rfl (by kernel_rfl) (by kernel_rfl) (by kernel_rfl) (fun _ _ _ h => h) (Or.inl ⟨by kernel_rfl, ?_⟩) (by assumption) ?_
 rotate_left
 ·intro w hSw
  try dsimp only at hSw
  go_simp
  try (with_reducible rfl)
 try simp only [Act.put, List.getElem_toArray, List.getElem_cons_zero, List.getElem_cons_succ, List.setIfInBounds_toArray, List.set_cons_zero, List.set_cons_succ]
 refine wpAnyH_ready (rs := [4, 10]) (by kernel_rfl) (by simp) ?_
 refine AllReadyH.cons (o := _) rfl (fun K hK => ?_) (AllReadyH.cons (o := _) rfl (fun K hK => ?_) AllReadyH.nil)
 ·skip
  go_simp
  refine hK.out _ _ hHeld (fun _ => ?_)
  clear hK K hHeld
  try simp only [Act.put, List.getElem_toArray, List.getElem_cons_zero, List.getElem_cons_succ, List.setIfInBounds_toArray, List.set_cons_zero, List.set_cons_succ]
  refine wpAnyH_ready (rs := [10]) (by kernel_rfl) (by simp) ?_
  refine AllReadyH.cons (o := _) rfl (fun K hK => ?_) AllReadyH.nil
  go_simp
  refine hK.out _ _ (KeepP.alloc (KeepP.start (fun b => b = w.heap.size ∨ b = w.heap.size + 1) w5) hKl _) (fun _ => ?_)
  clear hK K
  try simp only [Act.put, List.getElem_toArray, List.getElem_cons_zero, List.getElem_cons_succ, List.setIfInBounds_toArray, List.set_cons_zero, List.set_cons_succ]
  refine wpAnyH_ready (rs := [11]) (by kernel_rfl) (by simp) ?_
  refine AllReadyH.cons (o := _) rfl (fun K hK => ?_) AllReadyH.nil
  refine step_append_lies _ (by rfl) _ _ _ (by rfl) base 143 i0 _ 8 64 Tryz.underlying138 hi hz0 hz1 hz2 rfl (by decide) v (L ++ lk).length (lexCells (L ++ lk)) (by rfl) (HR.out.drew.alloc _) ⟨w5.heap.size, 0, none⟩ 1 1 ([.int .i64 8, .int .i64 0, .int .u64 0, .int .u64 0, .int .u64 0, .int .u64 0, .int .i64 x.lo, .int .i64 x.hi]) (by rfl) (by rfl) (World.news_of_block (cs := ([.int .i64 8, .int .i64 0, .int .u64 0, .int .u64 0, .int .u64 0, .int .u64 0, .int .i64 x.lo, .int .i64 x.hi]).toArray) (t := 143) (fr := (0, 0)) (heap_alloc_new w5.drew _)) (by simp [Value.oneCell']) (by decide) h63 hby (by simp; omega) (w5.heap.size + 1) (by simp) ?_
  intro gg cap' w3 hown1 hgrow hat hlt1
  have hG1 := Blk.grown (Blk.alloc (Blk.drew HG.out) _) hgrow HneG.out
  have c0 := hG1.cell 0
  have d0 := hG1.frozen 0
  have hgl := hG1.lt
  have HKG := Lib.hid (KeepP.grown (KeepP.alloc (KeepP.start (fun b => b = w.heap.size ∨ b = w.heap.size + 1) w5) hKl _) hgrow (two_of (Q := fun b => b < _ ∧ some b ≠ v.ownBlock) ⟨by simp; omega, fun e => HF5.out.np (HH.out.2.2 _ e.symm)⟩ ⟨by simp; omega, fun e => HF5.out.nx (HH.out.2.2 _ e.symm)⟩))
  rw [← HLC.out] at hown1
  have HG1 := Lib.hid hG1
  have Hgrow := Lib.hid hgrow
  have Hown1 := Lib.hid hown1
  have Hat := Lib.hid hat
  clear hG1 hgrow hown1 hat
  refine hK.out _ _ HKG.out (fun _ => ?_)
  clear hK K
  try simp only [Act.put, List.getElem_toArray, List.getElem_cons_zero, List.getElem_cons_succ, List.setIfInBounds_toArray, List.set_cons_zero, List.set_cons_succ]
  refine wpAnyH_take (i := 12) (oi := _) (v := ?_) rfl (by kernel_rfl) (by kernel_rfl) (by kernel_rfl) (fun _ _ _ h => h) (Or.inl ⟨by kernel_rfl, ?_⟩) (by assumption) ?_
  rotate_left
  ·intro w hSw
   try dsimp only at hSw
   go_simp
   try (with_reducible rfl)
  try simp only [Act.put, List.getElem_toArray, List.getElem_cons_zero, List.getElem_cons_succ, List.setIfInBounds_toArray, List.set_cons_zero, List.set_cons_succ]
  refine wpAnyH_take (i := 13) (oi := _) (v := ?_) rfl (by kernel_rfl) (by kernel_rfl) (by kernel_rfl) (fun _ _ _ h => h) (Or.inl ⟨by kernel_rfl, ?_⟩) (by assumption) ?_
  rotate_left
  ·intro w hSw
   try dsimp only at hSw
   go_simp
   try (with_reducible rfl)
  try simp only [Act.put, List.getElem_toArray, List.getElem_cons_zero, List.getElem_cons_succ, List.setIfInBounds_toArray, List.set_cons_zero, List.set_cons_succ]
  refine wpAnyH_ready (rs := [14]) (by kernel_rfl) (by simp) ?_
  refine AllReadyH.cons (o := _) rfl (fun K hK => ?_) AllReadyH.nil
  go_simp
  refine hK.out _ _ (KeepP.set HKG.out (two_of (Q := fun b => b ≠ g) (p := w.heap.size) (q := w.heap.size + 1) (fun e => HF5.out.np (by rw [e]; exact HH.out.2.1)) (fun e => HF5.out.nx (by rw [e]; exact HH.out.2.1))) _) (fun _ => ?_)
  clear hK K
  try simp only [Act.put, List.getElem_toArray, List.getElem_cons_zero, List.getElem_cons_succ, List.setIfInBounds_toArray, List.set_cons_zero, List.set_cons_succ]
  refine wpAnyH_done (by kernel_rfl) ?_ _
  go_wp2
  go_light
  go_end0
  obtain ⟨S', hp1, hp2⟩ := wr_push HH.out hbw HG1.out ((Below.refl w5.heap.size w5).drew.alloc (Nat.le_refl _) _) Hgrow.out Hown1.out Hat.out (by omega)
  have hz9 := (HF5.out.go hp1 hp2).out (e := .returned (.tuple #[])) rfl; rw [List.length_append] at hz9; rw [← List.append_assoc]; exact hz9
 ·skip
  go_simp
  refine hK.out _ _ (KeepP.alloc (KeepP.start (fun b => b = w.heap.size ∨ b = w.heap.size + 1) w5) hKl _) (fun _ => ?_)
  clear hK K hHeld
  try simp only [Act.put, List.getElem_toArray, List.getElem_cons_zero, List.getElem_cons_succ, List.setIfInBounds_toArray, List.set_cons_zero, List.set_cons_succ]
  refine wpAnyH_ready (rs := [4]) (by kernel_rfl) (by simp) ?_
  refine AllReadyH.cons (o := _) rfl (fun K hK => ?_) AllReadyH.nil
  go_simp
  refine hK.out _ _ (by assumption) (fun _ => ?_)
  clear hK K
  try simp only [Act.put, List.getElem_toArray, List.getElem_cons_zero, List.getElem_cons_succ, List.setIfInBounds_toArray, List.set_cons_zero, List.set_cons_succ]
  refine wpAnyH_ready (rs := [11]) (by kernel_rfl) (by simp) ?_
  refine AllReadyH.cons (o := _) rfl (fun K hK => ?_) AllReadyH.nil
  refine step_append_lies _ (by rfl) _ _ _ (by rfl) base 143 i0 _ 8 64 Tryz.underlying138 hi hz0 hz1 hz2 rfl (by decide) v (L ++ lk).length (lexCells (L ++ lk)) (by rfl) (HR.out.drew.alloc _) ⟨w5.heap.size, 0, none⟩ 1 1 ([.int .i64 8, .int .i64 0, .int .u64 0, .int .u64 0, .int .u64 0, .int .u64 0, .int .i64 x.lo, .int .i64 x.hi]) (by rfl) (by rfl) (World.news_of_block (cs := ([.int .i64 8, .int .i64 0, .int .u64 0, .int .u64 0, .int .u64 0, .int .u64 0, .int .i64 x.lo, .int .i64 x.hi]).toArray) (t := 143) (fr := (0, 0)) (heap_alloc_new w5.drew _)) (by simp [Value.oneCell']) (by decide) h63 hby (by simp; omega) (w5.heap.size + 1) (by simp) ?_
  intro gg cap' w3 hown1 hgrow hat hlt1
  have hG1 := Blk.grown (Blk.alloc (Blk.drew HG.out) _) hgrow HneG.out
  have c0 := hG1.cell 0
  have d0 := hG1.frozen 0
  have hgl := hG1.lt
  have HKG := Lib.hid (KeepP.grown (KeepP.alloc (KeepP.start (fun b => b = w.heap.size ∨ b = w.heap.size + 1) w5) hKl _) hgrow (two_of (Q := fun b => b < _ ∧ some b ≠ v.ownBlock) ⟨by simp; omega, fun e => HF5.out.np (HH.out.2.2 _ e.symm)⟩ ⟨by simp; omega, fun e => HF5.out.nx (HH.out.2.2 _ e.symm)⟩))
  rw [← HLC.out] at hown1
  have HG1 := Lib.hid hG1
  have Hgrow := Lib.hid hgrow
  have Hown1 := Lib.hid hown1
  have Hat := Lib.hid hat
  clear hG1 hgrow hown1 hat
  refine hK.out _ _ HKG.out (fun _ => ?_)
  clear hK K
  try simp only [Act.put, List.getElem_toArray, List.getElem_cons_zero, List.getElem_cons_succ, List.setIfInBounds_toArray, List.set_cons_zero, List.set_cons_succ]
  refine wpAnyH_take (i := 12) (oi := _) (v := ?_) rfl (by kernel_rfl) (by kernel_rfl) (by kernel_rfl) (fun _ _ _ h => h) (Or.inl ⟨by kernel_rfl, ?_⟩) (by assumption) ?_
  rotate_left
  ·intro w hSw
   try dsimp only at hSw
   go_simp
   try (with_reducible rfl)
  try simp only [Act.put, List.getElem_toArray, List.getElem_cons_zero, List.getElem_cons_succ, List.setIfInBounds_toArray, List.set_cons_zero, List.set_cons_succ]
  refine wpAnyH_take (i := 13) (oi := _) (v := ?_) rfl (by kernel_rfl) (by kernel_rfl) (by kernel_rfl) (fun _ _ _ h => h) (Or.inl ⟨by kernel_rfl, ?_⟩) (by assumption) ?_
  rotate_left
  ·intro w hSw
   try dsimp only at hSw
   go_simp
   try (with_reducible rfl)
  try simp only [Act.put, List.getElem_toArray, List.getElem_cons_zero, List.getElem_cons_succ, List.setIfInBounds_toArray, List.set_cons_zero, List.set_cons_succ]
  refine wpAnyH_ready (rs := [14]) (by kernel_rfl) (by simp) ?_
  refine AllReadyH.cons (o := _) rfl (fun K hK => ?_) AllReadyH.nil
  go_simp
  refine hK.out _ _ (KeepP.set HKG.out (two_of (Q := fun b => b ≠ g) (p := w.heap.size) (q := w.heap.size + 1) (fun e => HF5.out.np (by rw [e]; exact HH.out.2.1)) (fun e => HF5.out.nx (by rw [e]; exact HH.out.2.1))) _) (fun _ => ?_)
  clear hK K
  try simp only [Act.put, List.getElem_toArray, List.getElem_cons_zero, List.getElem_cons_succ, List.setIfInBounds_toArray, List.set_cons_zero, List.set_cons_succ]
  refine wpAnyH_done (by kernel_rfl) ?_ _
  go_wp2
  go_light
  go_end0
  obtain ⟨S', hp1, hp2⟩ := wr_push HH.out hbw HG1.out ((Below.refl w5.heap.size w5).drew.alloc (Nat.le_refl _) _) Hgrow.out Hown1.out Hat.out (by omega)
  have hz9 := (HF5.out.go hp1 hp2).out (e := .returned (.tuple #[])) rfl; rw [List.length_append] at hz9; rw [← List.append_assoc]; exact hz9
theorem cat_snoc {F : Trees} {k : Nat} {z : Nd} (hz : F.list[k]? = some z) (L : List Lex) : L ++ ((F.writes.take (k + 1)).map (kidS 4)).flatten = L ++ ((F.writes.take k).map (kidS 4)).flatten ++ kidS 4 (z.kind, z.write) := by
 rw [take_snocF (Trees.writes_get hz), List.map_append, List.flatten_append, List.append_assoc]
 simp
theorem write_cat (x : Nd) (hK : KidsW x.kids) (B : Option Addr) (cap base g : Nat) (S : Nat → Prop) (L : List Lex) (w : World) (ht : TreesAt w (fun b => ¬ S b) x.kids B) (h : WrAt w base g S L) (hb : base ≤ w.heap.size) (hl : L.length + x.write.length ≤ 90000000) (hkl : x.kids.len ≤ 140737488355328) (hk : x.kind = 4) : Calls Tryz.prog 161 #[.pointer (some ⟨g, 0, none⟩), ndV x B cap] w (WrOut base g S w (L ++ x.write)) := by
 rw [Nd.write_cat hk] at hl ⊢
 have HF2 := Lib.hid (show WFr w base g S #[.int .i64 4, .int .u64 (word x.set.testBit 0), .int .u64 (word x.set.testBit 1), .int .u64 (word x.set.testBit 2), .int .u64 (word x.set.testBit 3), .slice B x.kids.len cap, .int .i64 x.lo, .int .i64 x.hi] S L ((w.alloc (.cells #[.pointer (some ⟨g, 0, none⟩)] 217)).alloc (.cells #[.int .i64 4, .int .u64 (word x.set.testBit 0), .int .u64 (word x.set.testBit 1), .int .u64 (word x.set.testBit 2), .int .u64 (word x.set.testBit 3), .slice B x.kids.len cap, .int .i64 x.lo, .int .i64 x.hi] 28)) from WFr.start #[.int .i64 4, .int .u64 (word x.set.testBit 0), .int .u64 (word x.set.testBit 1), .int .u64 (word x.set.testBit 2), .int .u64 (word x.set.testBit 3), .slice B x.kids.len cap, .int .i64 x.lo, .int .i64 x.hi] h hb)
 have HT := Lib.hid ht
 have HK := Lib.hid hK
 unfold ndV
 rw [hk]
 clear ht hK h
 go_enter Tryz.func161, Tryz.ntmps161
 have HM0 := Lib.hid (show WFrM w base g S #[.int .i64 4, .int .u64 (word x.set.testBit 0), .int .u64 (word x.set.testBit 1), .int .u64 (word x.set.testBit 2), .int .u64 (word x.set.testBit 3), .slice B x.kids.len cap, .int .i64 x.lo, .int .i64 x.hi] (L ++ ((x.kids.writes.take 0).map (kidS 4)).flatten) ((w.alloc (.cells #[.pointer (some ⟨g, 0, none⟩)] 217)).alloc (.cells #[.int .i64 4, .int .u64 (word x.set.testBit 0), .int .u64 (word x.set.testBit 1), .int .u64 (word x.set.testBit 2), .int .u64 (word x.set.testBit 3), .slice B x.kids.len cap, .int .i64 x.lo, .int .i64 x.hi] 28)) from ⟨S, by simpa using HF2.out⟩)
 clear HF2
 go_wp2
 go_loopw [50] (fun i' wr => ∃ k : Nat, i' = .int .i64 (k : Int) ∧ k ≤ x.kids.len ∧ Hid (WFrM w base g S #[.int .i64 4, .int .u64 (word x.set.testBit 0), .int .u64 (word x.set.testBit 1), .int .u64 (word x.set.testBit 2), .int .u64 (word x.set.testBit 3), .slice B x.kids.len cap, .int .i64 x.lo, .int .i64 x.hi] (L ++ ((x.kids.writes.take k).map (kidS 4)).flatten) wr)) (fun i' _ => x.kids.len - (intOf i').toNat)
 case atStart => exact ⟨0, rfl, Nat.zero_le _, HM0⟩
 case round =>
  clear HM0
  obtain ⟨k, rfl, hk, HM⟩ := hrel
  by_cases hlt : k < x.kids.len
  ·obtain ⟨z, hz⟩ : ∃ z, x.kids.list[k]? = some z := ⟨_, List.getElem?_eq_getElem (by rw [Trees.len_list]; exact hlt)⟩
   have hdl : (k : Int) < (x.kids.len : Int) := by omega
   have hsn := cat_snoc hz L
   have hle : (L ++ ((x.kids.writes.take k).map (kidS 4)).flatten).length + (kidS 4 (z.kind, z.write)).length ≤ 90000000 := by
    have h1 := flat_take (x.kids.writes.map (kidS 4)) (k + 1)
    rw [← List.map_take] at h1
    have h2 := congrArg List.length hsn
    rw [List.length_append, List.length_append] at h2
    omega
   have HS := Lib.hid hsn
   obtain ⟨S1, hF0⟩ := HM.out
   have hF := hF0
   obtain ⟨b, o, C, capc, rfl, hnb, _, ⟨c0, c1, c2, c3, c4, c5, c6, c7⟩, hkz⟩ := (HT.out.movesW hF.mvs).get hz
   have hblk := World.block_lt_of_cell? wr _ c0
   obtain ⟨k1, k9, hWz⟩ := HK.out z (List.mem_of_getElem? hz)
   have hFA := hF0.below ((Below.refl _ _).alloc (Nat.le_refl _) (.cells #[.int .i64 z.kind, .int .u64 (word z.set.testBit 0), .int .u64 (word z.set.testBit 1), .int .u64 (word z.set.testBit 2), .int .u64 (word z.set.testBit 3), .slice C z.kids.len capc, .int .i64 z.lo, .int .i64 z.hi] 28))
   have HC := Lib.hid (kid_go 4 z C capc 3 base g w.heap.size S1 _ _ (hkz.below ((Below.refl _ _).alloc (Nat.le_refl _) _)) hFA.wr hFA.size (hFA.p.cell 0) hFA.np k1 k9 hWz hle (by decide))
   have HFA := Lib.hid hFA
   unfold ndV at HC
   clear hF hF0 hFA hkz hz k1 k9 hWz hl hsn hle HM
   generalize L ++ ((x.kids.writes.take k).map (kidS 4)).flatten = Lk at *
   generalize kidS 4 (z.kind, z.write) = lz at *
   go_wp2_with fail
   refine HC.out.mono ?_
   rintro e w5 ⟨rfl, S5, hm5, hv5⟩
   have HF5 := Lib.hid (HFA.out.go hm5 hv5)
   clear hm5 hv5 HC HFA c0 c1 c2 c3 c4 c5 c6 c7 hblk hnb
   dsimp only
   go_wp2
   go_roundw
   case rel =>
    refine ⟨k + 1, by go_num, by omega, Lib.hid ?_⟩
    rw [HS.out]
    exact ⟨S5, HF5.out⟩
   case measure => simp [intOf]; omega
  ·obtain rfl : k = x.kids.len := by omega
   have hdl : ¬ ((x.kids.len : Int) < (x.kids.len : Int)) := by omega
   obtain ⟨S1, hF0⟩ := HM.out
   rw [show x.kids.writes.take x.kids.len = x.kids.writes by rw [← Trees.writes_len, List.take_length]] at hF0
   have HF0 := Lib.hid hF0
   clear hF0 HM
   go_wp2
   go_light
   go_end0
   exact HF0.out.out rfl
theorem alt_snoc {F : Trees} {k : Nat} {z : Nd} (hz : F.list[k]? = some z) (hk : 0 < k) : barsS ((F.writes.take (k + 1)).map (kidS 5)) = barsS ((F.writes.take k).map (kidS 5)) ++ [lexK 4] ++ kidS 5 (z.kind, z.write) := by
 have hlt := (List.getElem?_eq_some_iff.1 (Trees.writes_get hz)).1
 rw [take_snocF (Trees.writes_get hz), List.map_append, List.map_cons, List.map_nil, barsS_snoc, if_neg (by rw [List.length_map, List.length_take]; omega)]
 simp
theorem alt_first {F : Trees} {z : Nd} (hz : F.list[0]? = some z) : barsS ((F.writes.take (0 + 1)).map (kidS 5)) = kidS 5 (z.kind, z.write) := by
 rw [take_snocF (Trees.writes_get hz), List.take_zero, List.nil_append]
 simp [barsS]
theorem write_alt (x : Nd) (hK : KidsW x.kids) (B : Option Addr) (cap base g : Nat) (S : Nat → Prop) (L : List Lex) (w : World) (ht : TreesAt w (fun b => ¬ S b) x.kids B) (h : WrAt w base g S L) (hb : base ≤ w.heap.size) (hl : L.length + x.write.length ≤ 90000000) (hkl : x.kids.len ≤ 140737488355328) (hk : x.kind = 5) : Calls Tryz.prog 161 #[.pointer (some ⟨g, 0, none⟩), ndV x B cap] w (WrOut base g S w (L ++ x.write)) := by
 rw [Nd.write_alt hk] at hl ⊢
 have HF2 := Lib.hid (show WFr w base g S #[.int .i64 5, .int .u64 (word x.set.testBit 0), .int .u64 (word x.set.testBit 1), .int .u64 (word x.set.testBit 2), .int .u64 (word x.set.testBit 3), .slice B x.kids.len cap, .int .i64 x.lo, .int .i64 x.hi] S L ((w.alloc (.cells #[.pointer (some ⟨g, 0, none⟩)] 217)).alloc (.cells #[.int .i64 5, .int .u64 (word x.set.testBit 0), .int .u64 (word x.set.testBit 1), .int .u64 (word x.set.testBit 2), .int .u64 (word x.set.testBit 3), .slice B x.kids.len cap, .int .i64 x.lo, .int .i64 x.hi] 28)) from WFr.start #[.int .i64 5, .int .u64 (word x.set.testBit 0), .int .u64 (word x.set.testBit 1), .int .u64 (word x.set.testBit 2), .int .u64 (word x.set.testBit 3), .slice B x.kids.len cap, .int .i64 x.lo, .int .i64 x.hi] h hb)
 have HT := Lib.hid ht
 have HK := Lib.hid hK
 unfold ndV
 rw [hk]
 clear ht hK h
 go_enter Tryz.func161, Tryz.ntmps161
 have HM0 := Lib.hid (show WFrM w base g S #[.int .i64 5, .int .u64 (word x.set.testBit 0), .int .u64 (word x.set.testBit 1), .int .u64 (word x.set.testBit 2), .int .u64 (word x.set.testBit 3), .slice B x.kids.len cap, .int .i64 x.lo, .int .i64 x.hi] (L ++ barsS ((x.kids.writes.take 0).map (kidS 5))) ((w.alloc (.cells #[.pointer (some ⟨g, 0, none⟩)] 217)).alloc (.cells #[.int .i64 5, .int .u64 (word x.set.testBit 0), .int .u64 (word x.set.testBit 1), .int .u64 (word x.set.testBit 2), .int .u64 (word x.set.testBit 3), .slice B x.kids.len cap, .int .i64 x.lo, .int .i64 x.hi] 28)) from ⟨S, by simpa [barsS] using HF2.out⟩)
 clear HF2
 go_wp2
 go_loopw [32] (fun i' wr => ∃ k : Nat, i' = .int .i64 (k : Int) ∧ k ≤ x.kids.len ∧ Hid (WFrM w base g S #[.int .i64 5, .int .u64 (word x.set.testBit 0), .int .u64 (word x.set.testBit 1), .int .u64 (word x.set.testBit 2), .int .u64 (word x.set.testBit 3), .slice B x.kids.len cap, .int .i64 x.lo, .int .i64 x.hi] (L ++ barsS ((x.kids.writes.take k).map (kidS 5))) wr)) (fun i' _ => x.kids.len - (intOf i').toNat)
 case atStart => exact ⟨0, rfl, Nat.zero_le _, HM0⟩
 case round =>
  clear HM0
  obtain ⟨k, rfl, hk, HM⟩ := hrel
  by_cases hlt : k < x.kids.len
  ·obtain ⟨z, hz⟩ : ∃ z, x.kids.list[k]? = some z := ⟨_, List.getElem?_eq_getElem (by rw [Trees.len_list]; exact hlt)⟩
   have hdl : (k : Int) < (x.kids.len : Int) := by omega
   have htk := bars_take (x.kids.writes.map (kidS 5)) (k + 1)
   rw [← List.map_take] at htk
   obtain ⟨S1, hF0⟩ := HM.out
   rcases Nat.eq_zero_or_pos k with rfl | hpos
   ·have hsn := alt_first hz
    have hle : L.length + (kidS 5 (z.kind, z.write)).length ≤ 90000000 := by
     rw [hsn] at htk
     omega
    have HS := Lib.hid (congrArg (fun l => L ++ l) hsn)
    have hF := hF0
    obtain ⟨b, o, C, capc, rfl, hnb, _, ⟨c0, c1, c2, c3, c4, c5, c6, c7⟩, hkz⟩ := (HT.out.movesW hF.mvs).get hz
    have hblk := World.block_lt_of_cell? wr _ c0
    obtain ⟨k1, k9, hWz⟩ := HK.out z (List.mem_of_getElem? hz)
    have hFA := hF0.below ((Below.refl _ _).alloc (Nat.le_refl _) (.cells #[.int .i64 z.kind, .int .u64 (word z.set.testBit 0), .int .u64 (word z.set.testBit 1), .int .u64 (word z.set.testBit 2), .int .u64 (word z.set.testBit 3), .slice C z.kids.len capc, .int .i64 z.lo, .int .i64 z.hi] 28))
    simp only [Nat.zero_mul, Nat.add_zero] at c0 c1 c2 c3 c4 c5 c6 c7
    have e0 : L ++ barsS ((x.kids.writes.take 0).map (kidS 5)) = L := by simp [barsS]
    rw [e0] at hFA
    have HC := Lib.hid (kid_go 5 z C capc 2 base g w.heap.size S1 _ _ (hkz.below ((Below.refl _ _).alloc (Nat.le_refl _) _)) hFA.wr hFA.size (hFA.p.cell 0) hFA.np k1 k9 hWz hle (by decide))
    have HFA := Lib.hid hFA
    unfold ndV at HC
    clear hF hF0 hFA hkz hz k1 k9 hWz hl hsn hle HM htk e0
    generalize kidS 5 (z.kind, z.write) = lz at *
    go_wp2_with fail
    refine HC.out.mono ?_
    rintro e w5 ⟨rfl, S5, hm5, hv5⟩
    have HF5 := Lib.hid (HFA.out.go hm5 hv5)
    clear hm5 hv5 HC HFA c0 c1 c2 c3 c4 c5 c6 c7 hblk hnb
    dsimp only
    go_wp2
    go_roundw
    case rel =>
     refine ⟨0 + 1, by go_num, by omega, Lib.hid ?_⟩
     rw [HS.out]
     exact ⟨S5, HF5.out⟩
    case measure => simp [intOf]; omega
   ·have hsn := alt_snoc hz hpos
    have hle : (L ++ barsS ((x.kids.writes.take k).map (kidS 5)) ++ [lexK 4]).length + (kidS 5 (z.kind, z.write)).length ≤ 90000000 := by
     have h2 := congrArg List.length hsn
     simp only [List.length_append, List.length_cons, List.length_nil] at h2 hl ⊢
     omega
    have hdp : (0 : Int) < (k : Int) := by omega
    have HS := Lib.hid (congrArg (fun l => L ++ l) hsn)
    have hF := hF0
    obtain ⟨b, o, C, capc, rfl, hnb, _, ⟨c0, c1, c2, c3, c4, c5, c6, c7⟩, hkz⟩ := (HT.out.movesW hF.mvs).get hz
    have hblk := World.block_lt_of_cell? wr _ c0
    obtain ⟨k1, k9, hWz⟩ := HK.out z (List.mem_of_getElem? hz)
    have hFA := hF0.below ((Below.refl _ _).alloc (Nat.le_refl _) (.cells #[.int .i64 z.kind, .int .u64 (word z.set.testBit 0), .int .u64 (word z.set.testBit 1), .int .u64 (word z.set.testBit 2), .int .u64 (word z.set.testBit 3), .slice C z.kids.len capc, .int .i64 z.lo, .int .i64 z.hi] 28))
    rw [← List.append_assoc, ← List.append_assoc] at HS
    generalize L ++ barsS ((x.kids.writes.take k).map (kidS 5)) = Lk at *
    have HP := Lib.hid (wput_go base g S1 Lk 4 _ hFA.wr hFA.size (by simp only [List.length_append] at hle; omega))
    have p0 := hFA.p.cell 0
    simp only [List.getElem?_toArray, List.getElem?_cons_zero] at p0
    have HQ := Lib.hid (show _ ∧ _ ∧ _ ∧ _ from ⟨hkz.below ((Below.refl _ _).alloc (Nat.le_refl _) (.cells #[.int .i64 z.kind, .int .u64 (word z.set.testBit 0), .int .u64 (word z.set.testBit 1), .int .u64 (word z.set.testBit 2), .int .u64 (word z.set.testBit 3), .slice C z.kids.len capc, .int .i64 z.lo, .int .i64 z.hi] 28)), k1, k9, hWz⟩)
    have HX := Lib.hid (Blk.new wr 28 #[.int .i64 z.kind, .int .u64 (word z.set.testBit 0), .int .u64 (word z.set.testBit 1), .int .u64 (word z.set.testBit 2), .int .u64 (word z.set.testBit 3), .slice C z.kids.len capc, .int .i64 z.lo, .int .i64 z.hi])
    have HFA := Lib.hid hFA
    have HNX := Lib.hid (hF0.wr.not (Nat.le_refl wr.heap.size))
    have HLE := Lib.hid hle
    clear hF hF0 hFA hkz hz k1 k9 hWz hl hsn hle HM htk
    go_wp2_with fail
    refine HP.out.mono ?_
    rintro e w4 ⟨rfl, S4, hm4, hv4⟩
    have hF4 := HFA.out.go hm4 hv4
    have hX4 := HX.out.moves hv4 HNX.out
    have HC := Lib.hid (kid_go 5 z C capc 2 base g w.heap.size S4 (Lk ++ [lexK 4]) w4 (HQ.out.1.movesW hv4) hF4.wr hF4.size (hF4.p.cell 0) hF4.np HQ.out.2.1 HQ.out.2.2.1 HQ.out.2.2.2 HLE.out (by decide))
    unfold ndV at HC
    have HF4 := Lib.hid hF4
    have y0 := hX4.cell 0
    have y1 := hX4.cell 1
    have y2 := hX4.cell 2
    have y3 := hX4.cell 3
    have y4 := hX4.cell 4
    have y5 := hX4.cell 5
    have y6 := hX4.cell 6
    have y7 := hX4.cell 7
    have hly := hX4.lt
    simp only [List.getElem?_toArray, List.getElem?_cons_zero, List.getElem?_cons_succ] at y0 y1 y2 y3 y4 y5 y6 y7
    clear hm4 hv4 hF4 hX4 HP HFA HX HNX HQ HLE p0 c0 c1 c2 c3 c4 c5 c6 c7 hblk hnb
    generalize kidS 5 (z.kind, z.write) = lz at *
    dsimp only
    go_wp2_with fail
    refine HC.out.mono ?_
    rintro e w5 ⟨rfl, S5, hm5, hv5⟩
    have HF5 := Lib.hid (HF4.out.go hm5 hv5)
    clear hm5 hv5 HC HF4 y0 y1 y2 y3 y4 y5 y6 y7 hly
    dsimp only
    go_wp2
    go_roundw
    case rel =>
     refine ⟨k + 1, by go_num, by omega, Lib.hid ?_⟩
     rw [HS.out]
     exact ⟨S5, HF5.out⟩
    case measure => simp [intOf]; omega
  ·obtain rfl : k = x.kids.len := by omega
   have hdl : ¬ ((x.kids.len : Int) < (x.kids.len : Int)) := by omega
   obtain ⟨S1, hF0⟩ := HM.out
   rw [show x.kids.writes.take x.kids.len = x.kids.writes by rw [← Trees.writes_len, List.take_length]] at hF0
   have HF0 := Lib.hid hF0
   clear hF0 HM
   go_wp2
   go_light
   go_end0
   exact HF0.out.out rfl
theorem write_node (x : Nd) (ha : aloneN x = true) (hK : KidsW x.kids) (hkl : x.kids.len ≤ 140737488355328) : WriteC x := fun B cap base g S L w ht h hb hl => by
 obtain ⟨a1, a9, a0, ak1, ak9⟩ := aloneN_kids ha
 rcases (show x.kind = 1 ∨ x.kind = 2 ∨ x.kind = 3 ∨ x.kind = 4 ∨ x.kind = 5 ∨ x.kind = 6 ∨ x.kind = 7 ∨ x.kind = 8 ∨ x.kind = 9 by omega) with hk | hk | hk | hk | hk | hk | hk | hk | hk
 ·exact write_leaf1 x hK B cap base g S L w ht h hb hl hkl hk
 ·exact write_empty x hK B cap base g S L w ht h hb hl hkl hk
 ·exact write_leaf3 x hK B cap base g S L w ht h hb hl hkl hk
 ·exact write_cat x hK B cap base g S L w ht h hb hl hkl hk
 ·exact write_alt x hK B cap base g S L w ht h hb hl hkl hk
 ·exact write_post6 x hK B cap base g S L w ht h hb hl hkl hk (a1 (by omega) ak9)
 ·exact write_post7 x hK B cap base g S L w ht h hb hl hkl hk (a1 (by omega) ak9)
 ·exact write_post8 x hK B cap base g S L w ht h hb hl hkl hk (a1 (by omega) ak9)
 ·exact write_rep x hK B cap base g S L w ht h hb hl hkl hk (a1 (by omega) ak9)
theorem write_all : ∀ (F : Trees), F.size ≤ 100000000 → Okays F → KidsW F
 | .nil, _, _, z, hz => by cases hz
 | .cons k s ks lo hi r, hs, ho, z, hz => by
  rw [Trees.list] at hz
  have hks : Okays ks := fun y hy => ho y (by simp [Trees.nodes, hy])
  have hr : Okays r := fun y hy => ho y (by simp [Trees.nodes, hy])
  have hself : aloneN ⟨k, s, ks, lo, hi⟩ = true := ho _ (by simp [Trees.nodes])
  have hsz : ks.size ≤ 100000000 ∧ r.size ≤ 100000000 := by simp only [Trees.size] at hs; omega
  rcases List.mem_cons.1 hz with rfl | hz
  ·obtain ⟨_, _, _, ak1, ak9⟩ := aloneN_kids hself
   have hl := Trees.len_size ks
   exact ⟨ak1, ak9, write_node _ hself (write_all ks hsz.1 hks) (by simp only; omega)⟩
  ·exact write_all r hsz.2 hr z hz
theorem write_go {x : Nd} (h : rightT x = true) : WriteC x := by
 obtain ⟨h1, h2⟩ := okays_kids h
 have hs := rightT_size h
 unfold Nd.size at hs
 have hl := Trees.len_size x.kids
 exact write_node x h1 (write_all _ (by omega) h2) (by omega)
end Go.Proofs.YtofbfafnpdaejaaGreatDoor
