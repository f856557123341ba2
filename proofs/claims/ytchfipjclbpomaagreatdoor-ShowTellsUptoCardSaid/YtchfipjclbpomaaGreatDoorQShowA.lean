/-
  Rows of lexemes appended to a row of one's own; the reference's lex and kid of chapter 08.
-/
import Derived.Deep.Onto
import Derived.Test.YtchfipjclbpomaaGreatDoorQShowS
import Derived.Test.YtchfipjclbpomaaGreatDoorQZ01
namespace Go.Proofs.YtchfipjclbpomaaGreatDoor
open Go.RowKit
set_option linter.unusedSimpArgs false
set_option linter.unusedVariables false
set_option maxRecDepth 100000

theorem lexCells_len (L : List Lex) : (lexCells L).length = L.length * 8 := by
  induction L with
  | nil => rfl
  | cons x L ih =>
    have e : lexCells (x :: L) = lexCell x ++ lexCells L := by simp [lexCells]
    rw [e, List.length_append, ih, List.length_cons]
    have : (lexCell x).length = 8 := rfl
    omega
theorem lexCells_one (L : List Lex) : ∀ u ∈ lexCells L, u.oneCell' = true := by
  intro u hu
  obtain ⟨x, _, hx⟩ := List.mem_flatMap.1 hu
  simp only [lexCell, List.mem_cons, List.not_mem_nil, or_false] at hx
  rcases hx with rfl | rfl | rfl | rfl | rfl | rfl | rfl | rfl <;> rfl
theorem lexCells_app (L M : List Lex) : lexCells (L ++ M) = lexCells L ++ lexCells M := by simp [lexCells]
/-- A row of lexemes appended to a row of one's own. -/
theorem append_lexs (w : World) (base base2 : Nat) (v v2 : Value) (L M : List Lex) (hown : w.ownsRow base 58 8 v L.length (lexCells L)) (h2 : w.ownsRow base2 58 8 v2 M.length (lexCells M)) (hs : L.length + M.length ≤ 100000000) (hbase : base ≤ w.heap.size) :
    ∃ v' w', (Builtin.append_ #[29, 29] 29 #[v, v2]).run Tryz.prog w = .ok v' w' ∧ w'.ownsRow base 58 8 v' (L ++ M).length (lexCells (L ++ M)) ∧ w.grownBy w' v.ownBlock := by
  obtain ⟨i0, hir, hz0, hz1, hz2⟩ := info_parts info_lex
  have h63 : L.length + M.length ≤ maxLen := Nat.le_trans hs (by decide)
  have hby : (L.length + M.length) * 64 ≤ 140737488355328 := by omega
  rw [List.length_append, lexCells_app]
  have h2' := h2
  rcases h2.2 with ⟨rfl, h0⟩ | ⟨g2, cap2, cur2, rfl, _⟩
  · have : M = [] := List.length_eq_zero_iff.1 h0
    subst this
    refine ⟨v, w, ?_, by simpa [lexCells] using hown, ⟨rfl, rfl, rfl, Nat.le_refl _, fun _ _ _ => rfl⟩⟩
    rcases hown.2 with ⟨rfl, h1⟩ | ⟨g, cap, cur, rfl, _, _, hnc, _⟩
    · have : L = [] := List.length_eq_zero_iff.1 h1
      subst this
      simp [Builtin.append_, run_underlying Tryz.underlying29, sizeOf, typeInfo, hir, Builtin.lenOf, Builtin.firstCells]
    · simp [Builtin.append_, run_underlying Tryz.underlying29, sizeOf, typeInfo, hir, Builtin.lenOf, Builtin.firstCells, hnc, storeCells]
  · obtain ⟨v', w', h1, h3, h4, _⟩ := run_append_own_at (P := Tryz.prog) w base 29 29 58 i0 _ 8 64 Tryz.underlying29 hir hz0 hz1 hz2 rfl (by decide) v L.length (lexCells L) hown ⟨g2, 0, none⟩ M.length cap2 (lexCells M) (lexCells_len M) (fun j u h => h2'.cells (g := g2) rfl j u h) (lexCells_one M) h63 hby hbase
    exact ⟨v', w', h1, h3, h4⟩
/-- A call that makes a row of lexemes. -/
def RowOut (L : List Lex) (w : World) (e : Ending) (w' : World) : Prop := ∃ v, e = .returned v ∧ Below w.heap.size w w' ∧ w'.ownsRow w.heap.size 58 8 v L.length (lexCells L)
theorem wp_append_by {o : Oper} {a : Act} {w : World} {K : Act → World → Prop} {Q : Exit → Act → World → Prop} (sl x : Operand) (t u : TypeId)
    (ho : o.op = .call { callee := .builtin .append, args := #[sl, x], argTypes := #[t, u] }) (v1 v2 v' : Value) (w' : World) (hs : a.eval sl = v1) (hx : a.eval x = v2)
    (hr : (Builtin.append_ #[t, u] o.type #[v1, v2]).run Tryz.prog w = .ok v' w')
    (h : K (a.put o.dst v') w') : o.wp Tryz.prog a w K Q := by
  unfold Oper.wp execOp
  simp only [ho, resolve, invoke, builtin, Sem.run_bind, Sem.run_pure, Result.andThen_ok, List.map_toArray, List.map_cons, List.map_nil, hs, hx, hr]
  exact h
/-- Behind an append: rows made since w. -/
theorem grown_since {w w1 w2 : World} {v : Value} {n : Nat} {xs : List Value} (h : Below w.heap.size w w1) (hown : w1.ownsRow w.heap.size 58 8 v n xs) (hg : w1.grownBy w2 v.ownBlock) : Below w.heap.size w w2 :=
  below_grown h hg hown (Nat.le_refl _) h.size
theorem row_new (w : World) (x : Lex) : (w.alloc (.cells (lexCell x).toArray 58)).ownsRow w.heap.size 58 8 (.slice (some ⟨w.heap.size, 0, none⟩) 1 1) [x].length (lexCells [x]) := by
  have e : lexCells [x] = lexCell x := by simp [lexCells]
  rw [e]
  exact ⟨rfl, .inr ⟨w.heap.size, 1, (lexCell x).toArray, rfl, Nat.le_refl _, heap_alloc_new w _, Nat.le_refl _, (by decide), rfl, rfl⟩⟩
set_option maxHeartbeats 1000000 in
theorem lex_go (k : Int) (w : World) : Calls Tryz.prog 67 #[.int .i64 k] w (RowOut [lexK k] w) := by
  have HR := Lib.hid (row_new w (lexK k))
  have HB := Lib.hid ((Below.refl w.heap.size w).alloc (Nat.le_refl _) (.cells (lexCell (lexK k)).toArray 58))
  go_enter Tryz.func67, Tryz.ntmps67
  go_wp2
  go_light
  go_ret
  exact ⟨_, rfl, HB.out, HR.out⟩

/-- The contract of the reference's writing of a tree. -/
def RWriteC (x : Nd) : Prop := ∀ (P : Nat → Prop) (B : Option Addr) (cap : Nat) (w : World), TreesAt w P x.kids B → x.write.length ≤ 40000000 →
  Calls Tryz.prog 19 #[ndV x B cap] w (RowOut x.write w)
set_option maxHeartbeats 2000000 in
theorem rkid_a (p : Int) (z : Nd) (C : Option Addr) (cap : Nat) (P : Nat → Prop) (w : World) (ht : TreesAt w P z.kids C) (hW : RWriteC z) (hl : z.write.length ≤ 40000000) (hk : z.kind = 5) : Calls Tryz.prog 42 #[ndV z C cap, .int .i64 p] w (RowOut (lexK 2 :: (z.write ++ [lexK 3])) w) := by
  have HI := Lib.hid (hW P C cap (w.alloc (.cells #[.int .i64 z.kind, .int .u64 ((word (z.set.testBit) 0 : Nat) : Int), .int .u64 ((word (z.set.testBit) 1 : Nat) : Int), .int .u64 ((word (z.set.testBit) 2 : Nat) : Int), .int .u64 ((word (z.set.testBit) 3 : Nat) : Int), .slice C z.kids.len cap, .int .i64 z.lo, .int .i64 z.hi] 28)) (ht.below ((Below.refl _ _).alloc (Nat.le_refl _) _)) hl)
  have HX := Lib.hid (Blk.new w 28 #[.int .i64 z.kind, .int .u64 ((word (z.set.testBit) 0 : Nat) : Int), .int .u64 ((word (z.set.testBit) 1 : Nat) : Int), .int .u64 ((word (z.set.testBit) 2 : Nat) : Int), .int .u64 ((word (z.set.testBit) 3 : Nat) : Int), .slice C z.kids.len cap, .int .i64 z.lo, .int .i64 z.hi])
  have HB := Lib.hid ((Below.refl w.heap.size w).alloc (Nat.le_refl _) (.cells #[.int .i64 z.kind, .int .u64 ((word (z.set.testBit) 0 : Nat) : Int), .int .u64 ((word (z.set.testBit) 1 : Nat) : Int), .int .u64 ((word (z.set.testBit) 2 : Nat) : Int), .int .u64 ((word (z.set.testBit) 3 : Nat) : Int), .slice C z.kids.len cap, .int .i64 z.lo, .int .i64 z.hi] 28))
  unfold ndV at HI ⊢
  clear ht hW
  rw [hk] at *
  go_enter Tryz.func42, Tryz.ntmps42
  go_wp2_with fail
  refine HI.out.mono ?_
  rintro e w2 ⟨v2, rfl, hb2, ho2⟩
  have hX := HX.out.below hb2 HX.out.lt
  have n0 := hX.cell 0
  have hlx := hX.lt
  simp only [List.getElem?_toArray, List.getElem?_cons_zero, List.getElem?_cons_succ] at n0
  have HB2 := Lib.hid (HB.out.trans (hb2.mono HB.out.size))
  have HO2 := Lib.hid (ho2.mono (base' := w.heap.size) (by simp))
  clear hb2 ho2 HI HX HB hX
  dsimp only
  have HL := Lib.hid (lex_go 2 w2)
  go_wp2_with fail
  refine HL.out.mono ?_
  rintro e w3 ⟨v3, rfl, hb3, ho3⟩
  have HB3 := Lib.hid (HB2.out.trans (hb3.mono HB2.out.size))
  have HO3 := Lib.hid (ho3.mono (base' := w.heap.size) HB2.out.size)
  have HO2' := Lib.hid (own_below HO2.out hb3)
  obtain ⟨v4, w4, hr4, ho4, hg4⟩ := append_lexs w3 w.heap.size w.heap.size v3 v2 [lexK 2] z.write HO3.out HO2'.out (by simp; omega) HB3.out.size
  have HR4 := Lib.hid hr4
  have HO4 := Lib.hid ho4
  have HB4 := Lib.hid (grown_since HB3.out HO3.out hg4)
  have HL5 := Lib.hid (show w4.heap.size + 1 = (w4.alloc (.cells (lexCell (lexK 3)).toArray 58)).heap.size by simp)
  obtain ⟨v6, w6, hr6, ho6, hg6⟩ := append_lexs (w4.alloc (.cells (lexCell (lexK 3)).toArray 58)) w.heap.size w4.heap.size v4 (.slice (some ⟨w4.heap.size, 0, none⟩) 1 1) ([lexK 2] ++ z.write) [lexK 3] (HO4.out.alloc _) (row_new w4 (lexK 3)) (by simp; omega) (by rw [World.size_alloc]; have := HB4.out.size; omega)
  have HR6 := Lib.hid hr6
  have HQ6 := Lib.hid (show _ ∧ _ from ⟨ho6, grown_since (HB4.out.alloc HB4.out.size _) (HO4.out.alloc _) hg6⟩)
  clear hb3 ho3 hr4 ho4 hg4 hr6 ho6 hg6 HL n0 hlx
  dsimp only
  go_wp2_with (at_builtin; first | (refine wpList_append_by (by rfl) _ _ _ _ rfl _ _ _ _ rfl rfl HR4.out ?_) | (refine wpList_append_by (by rfl) _ _ _ _ rfl _ _ _ _ rfl rfl HR6.out ?_))
  go_light
  go_ret
  have e6 : (lexK 2 :: (z.write ++ [lexK 3])) = [lexK 2] ++ z.write ++ [lexK 3] := by simp
  rw [e6]
  exact ⟨_, rfl, HQ6.out.2, HQ6.out.1⟩
set_option maxHeartbeats 2000000 in
theorem rkid_b (p : Int) (z : Nd) (C : Option Addr) (cap : Nat) (P : Nat → Prop) (w : World) (ht : TreesAt w P z.kids C) (hW : RWriteC z) (hl : z.write.length ≤ 40000000) (hk : z.kind = 4) (hp : (p != 5) = true) : Calls Tryz.prog 42 #[ndV z C cap, .int .i64 p] w (RowOut (lexK 2 :: (z.write ++ [lexK 3])) w) := by
  have HI := Lib.hid (hW P C cap (w.alloc (.cells #[.int .i64 z.kind, .int .u64 ((word (z.set.testBit) 0 : Nat) : Int), .int .u64 ((word (z.set.testBit) 1 : Nat) : Int), .int .u64 ((word (z.set.testBit) 2 : Nat) : Int), .int .u64 ((word (z.set.testBit) 3 : Nat) : Int), .slice C z.kids.len cap, .int .i64 z.lo, .int .i64 z.hi] 28)) (ht.below ((Below.refl _ _).alloc (Nat.le_refl _) _)) hl)
  have HX := Lib.hid (Blk.new w 28 #[.int .i64 z.kind, .int .u64 ((word (z.set.testBit) 0 : Nat) : Int), .int .u64 ((word (z.set.testBit) 1 : Nat) : Int), .int .u64 ((word (z.set.testBit) 2 : Nat) : Int), .int .u64 ((word (z.set.testBit) 3 : Nat) : Int), .slice C z.kids.len cap, .int .i64 z.lo, .int .i64 z.hi])
  have HB := Lib.hid ((Below.refl w.heap.size w).alloc (Nat.le_refl _) (.cells #[.int .i64 z.kind, .int .u64 ((word (z.set.testBit) 0 : Nat) : Int), .int .u64 ((word (z.set.testBit) 1 : Nat) : Int), .int .u64 ((word (z.set.testBit) 2 : Nat) : Int), .int .u64 ((word (z.set.testBit) 3 : Nat) : Int), .slice C z.kids.len cap, .int .i64 z.lo, .int .i64 z.hi] 28))
  unfold ndV at HI ⊢
  clear ht hW
  rw [hk] at *
  go_enter Tryz.func42, Tryz.ntmps42
  go_wp2_with fail
  refine HI.out.mono ?_
  rintro e w2 ⟨v2, rfl, hb2, ho2⟩
  have hX := HX.out.below hb2 HX.out.lt
  have n0 := hX.cell 0
  have hlx := hX.lt
  simp only [List.getElem?_toArray, List.getElem?_cons_zero, List.getElem?_cons_succ] at n0
  have HB2 := Lib.hid (HB.out.trans (hb2.mono HB.out.size))
  have HO2 := Lib.hid (ho2.mono (base' := w.heap.size) (by simp))
  clear hb2 ho2 HI HX HB hX
  dsimp only
  have HL := Lib.hid (lex_go 2 w2)
  go_wp2_with fail
  refine HL.out.mono ?_
  rintro e w3 ⟨v3, rfl, hb3, ho3⟩
  have HB3 := Lib.hid (HB2.out.trans (hb3.mono HB2.out.size))
  have HO3 := Lib.hid (ho3.mono (base' := w.heap.size) HB2.out.size)
  have HO2' := Lib.hid (own_below HO2.out hb3)
  obtain ⟨v4, w4, hr4, ho4, hg4⟩ := append_lexs w3 w.heap.size w.heap.size v3 v2 [lexK 2] z.write HO3.out HO2'.out (by simp; omega) HB3.out.size
  have HR4 := Lib.hid hr4
  have HO4 := Lib.hid ho4
  have HB4 := Lib.hid (grown_since HB3.out HO3.out hg4)
  have HL5 := Lib.hid (show w4.heap.size + 1 = (w4.alloc (.cells (lexCell (lexK 3)).toArray 58)).heap.size by simp)
  obtain ⟨v6, w6, hr6, ho6, hg6⟩ := append_lexs (w4.alloc (.cells (lexCell (lexK 3)).toArray 58)) w.heap.size w4.heap.size v4 (.slice (some ⟨w4.heap.size, 0, none⟩) 1 1) ([lexK 2] ++ z.write) [lexK 3] (HO4.out.alloc _) (row_new w4 (lexK 3)) (by simp; omega) (by rw [World.size_alloc]; have := HB4.out.size; omega)
  have HR6 := Lib.hid hr6
  have HQ6 := Lib.hid (show _ ∧ _ from ⟨ho6, grown_since (HB4.out.alloc HB4.out.size _) (HO4.out.alloc _) hg6⟩)
  clear hb3 ho3 hr4 ho4 hg4 hr6 ho6 hg6 HL n0 hlx
  dsimp only
  go_wp2_with (at_builtin; first | (refine wpList_append_by (by rfl) _ _ _ _ rfl _ _ _ _ rfl rfl HR4.out ?_) | (refine wpList_append_by (by rfl) _ _ _ _ rfl _ _ _ _ rfl rfl HR6.out ?_))
  go_light
  go_ret
  have e6 : (lexK 2 :: (z.write ++ [lexK 3])) = [lexK 2] ++ z.write ++ [lexK 3] := by simp
  rw [e6]
  exact ⟨_, rfl, HQ6.out.2, HQ6.out.1⟩
set_option maxHeartbeats 2000000 in
theorem rkid_c (p : Int) (z : Nd) (C : Option Addr) (cap : Nat) (P : Nat → Prop) (w : World) (ht : TreesAt w P z.kids C) (hW : RWriteC z) (hl : z.write.length ≤ 40000000) (hk : z.kind = 2) (hp : (p != 5) = true) : Calls Tryz.prog 42 #[ndV z C cap, .int .i64 p] w (RowOut (lexK 2 :: (z.write ++ [lexK 3])) w) := by
  have HI := Lib.hid (hW P C cap (w.alloc (.cells #[.int .i64 z.kind, .int .u64 ((word (z.set.testBit) 0 : Nat) : Int), .int .u64 ((word (z.set.testBit) 1 : Nat) : Int), .int .u64 ((word (z.set.testBit) 2 : Nat) : Int), .int .u64 ((word (z.set.testBit) 3 : Nat) : Int), .slice C z.kids.len cap, .int .i64 z.lo, .int .i64 z.hi] 28)) (ht.below ((Below.refl _ _).alloc (Nat.le_refl _) _)) hl)
  have HX := Lib.hid (Blk.new w 28 #[.int .i64 z.kind, .int .u64 ((word (z.set.testBit) 0 : Nat) : Int), .int .u64 ((word (z.set.testBit) 1 : Nat) : Int), .int .u64 ((word (z.set.testBit) 2 : Nat) : Int), .int .u64 ((word (z.set.testBit) 3 : Nat) : Int), .slice C z.kids.len cap, .int .i64 z.lo, .int .i64 z.hi])
  have HB := Lib.hid ((Below.refl w.heap.size w).alloc (Nat.le_refl _) (.cells #[.int .i64 z.kind, .int .u64 ((word (z.set.testBit) 0 : Nat) : Int), .int .u64 ((word (z.set.testBit) 1 : Nat) : Int), .int .u64 ((word (z.set.testBit) 2 : Nat) : Int), .int .u64 ((word (z.set.testBit) 3 : Nat) : Int), .slice C z.kids.len cap, .int .i64 z.lo, .int .i64 z.hi] 28))
  unfold ndV at HI ⊢
  clear ht hW
  rw [hk] at *
  go_enter Tryz.func42, Tryz.ntmps42
  go_wp2_with fail
  refine HI.out.mono ?_
  rintro e w2 ⟨v2, rfl, hb2, ho2⟩
  have hX := HX.out.below hb2 HX.out.lt
  have n0 := hX.cell 0
  have hlx := hX.lt
  simp only [List.getElem?_toArray, List.getElem?_cons_zero, List.getElem?_cons_succ] at n0
  have HB2 := Lib.hid (HB.out.trans (hb2.mono HB.out.size))
  have HO2 := Lib.hid (ho2.mono (base' := w.heap.size) (by simp))
  clear hb2 ho2 HI HX HB hX
  dsimp only
  have HL := Lib.hid (lex_go 2 w2)
  go_wp2_with fail
  refine HL.out.mono ?_
  rintro e w3 ⟨v3, rfl, hb3, ho3⟩
  have HB3 := Lib.hid (HB2.out.trans (hb3.mono HB2.out.size))
  have HO3 := Lib.hid (ho3.mono (base' := w.heap.size) HB2.out.size)
  have HO2' := Lib.hid (own_below HO2.out hb3)
  obtain ⟨v4, w4, hr4, ho4, hg4⟩ := append_lexs w3 w.heap.size w.heap.size v3 v2 [lexK 2] z.write HO3.out HO2'.out (by simp; omega) HB3.out.size
  have HR4 := Lib.hid hr4
  have HO4 := Lib.hid ho4
  have HB4 := Lib.hid (grown_since HB3.out HO3.out hg4)
  have HL5 := Lib.hid (show w4.heap.size + 1 = (w4.alloc (.cells (lexCell (lexK 3)).toArray 58)).heap.size by simp)
  obtain ⟨v6, w6, hr6, ho6, hg6⟩ := append_lexs (w4.alloc (.cells (lexCell (lexK 3)).toArray 58)) w.heap.size w4.heap.size v4 (.slice (some ⟨w4.heap.size, 0, none⟩) 1 1) ([lexK 2] ++ z.write) [lexK 3] (HO4.out.alloc _) (row_new w4 (lexK 3)) (by simp; omega) (by rw [World.size_alloc]; have := HB4.out.size; omega)
  have HR6 := Lib.hid hr6
  have HQ6 := Lib.hid (show _ ∧ _ from ⟨ho6, grown_since (HB4.out.alloc HB4.out.size _) (HO4.out.alloc _) hg6⟩)
  clear hb3 ho3 hr4 ho4 hg4 hr6 ho6 hg6 HL n0 hlx
  dsimp only
  go_wp2_with (at_builtin; first | (refine wpList_append_by (by rfl) _ _ _ _ rfl _ _ _ _ rfl rfl HR4.out ?_) | (refine wpList_append_by (by rfl) _ _ _ _ rfl _ _ _ _ rfl rfl HR6.out ?_))
  go_light
  go_ret
  have e6 : (lexK 2 :: (z.write ++ [lexK 3])) = [lexK 2] ++ z.write ++ [lexK 3] := by simp
  rw [e6]
  exact ⟨_, rfl, HQ6.out.2, HQ6.out.1⟩
set_option maxHeartbeats 2000000 in
theorem rkid_d (p : Int) (z : Nd) (C : Option Addr) (cap : Nat) (P : Nat → Prop) (w : World) (ht : TreesAt w P z.kids C) (hW : RWriteC z) (hl : z.write.length ≤ 40000000) (hk : (z.kind == 5) = false) (hp : (p != 5) = false) : Calls Tryz.prog 42 #[ndV z C cap, .int .i64 p] w (RowOut z.write w) := by
  have HI := Lib.hid (hW P C cap (w.alloc (.cells #[.int .i64 z.kind, .int .u64 ((word (z.set.testBit) 0 : Nat) : Int), .int .u64 ((word (z.set.testBit) 1 : Nat) : Int), .int .u64 ((word (z.set.testBit) 2 : Nat) : Int), .int .u64 ((word (z.set.testBit) 3 : Nat) : Int), .slice C z.kids.len cap, .int .i64 z.lo, .int .i64 z.hi] 28)) (ht.below ((Below.refl _ _).alloc (Nat.le_refl _) _)) hl)
  have HX := Lib.hid (Blk.new w 28 #[.int .i64 z.kind, .int .u64 ((word (z.set.testBit) 0 : Nat) : Int), .int .u64 ((word (z.set.testBit) 1 : Nat) : Int), .int .u64 ((word (z.set.testBit) 2 : Nat) : Int), .int .u64 ((word (z.set.testBit) 3 : Nat) : Int), .slice C z.kids.len cap, .int .i64 z.lo, .int .i64 z.hi])
  have HB := Lib.hid ((Below.refl w.heap.size w).alloc (Nat.le_refl _) (.cells #[.int .i64 z.kind, .int .u64 ((word (z.set.testBit) 0 : Nat) : Int), .int .u64 ((word (z.set.testBit) 1 : Nat) : Int), .int .u64 ((word (z.set.testBit) 2 : Nat) : Int), .int .u64 ((word (z.set.testBit) 3 : Nat) : Int), .slice C z.kids.len cap, .int .i64 z.lo, .int .i64 z.hi] 28))
  unfold ndV at HI ⊢
  clear ht hW
  skip
  go_enter Tryz.func42, Tryz.ntmps42
  go_wp2_with fail
  refine HI.out.mono ?_
  rintro e w2 ⟨v2, rfl, hb2, ho2⟩
  have hX := HX.out.below hb2 HX.out.lt
  have n0 := hX.cell 0
  have hlx := hX.lt
  simp only [List.getElem?_toArray, List.getElem?_cons_zero, List.getElem?_cons_succ] at n0
  have HB2 := Lib.hid (HB.out.trans (hb2.mono HB.out.size))
  have HO2 := Lib.hid (ho2.mono (base' := w.heap.size) (by simp))
  clear hb2 ho2 HI HX HB hX
  dsimp only
  go_wp2
  go_light
  go_ret
  exact ⟨_, rfl, HB2.out, HO2.out⟩
set_option maxHeartbeats 2000000 in
theorem rkid_e (p : Int) (z : Nd) (C : Option Addr) (cap : Nat) (P : Nat → Prop) (w : World) (ht : TreesAt w P z.kids C) (hW : RWriteC z) (hl : z.write.length ≤ 40000000) (hk : (z.kind == 5) = false) (hk4 : (z.kind == 4) = false) (hk2 : (z.kind == 2) = false) (hp : (p != 5) = true) : Calls Tryz.prog 42 #[ndV z C cap, .int .i64 p] w (RowOut z.write w) := by
  have HI := Lib.hid (hW P C cap (w.alloc (.cells #[.int .i64 z.kind, .int .u64 ((word (z.set.testBit) 0 : Nat) : Int), .int .u64 ((word (z.set.testBit) 1 : Nat) : Int), .int .u64 ((word (z.set.testBit) 2 : Nat) : Int), .int .u64 ((word (z.set.testBit) 3 : Nat) : Int), .slice C z.kids.len cap, .int .i64 z.lo, .int .i64 z.hi] 28)) (ht.below ((Below.refl _ _).alloc (Nat.le_refl _) _)) hl)
  have HX := Lib.hid (Blk.new w 28 #[.int .i64 z.kind, .int .u64 ((word (z.set.testBit) 0 : Nat) : Int), .int .u64 ((word (z.set.testBit) 1 : Nat) : Int), .int .u64 ((word (z.set.testBit) 2 : Nat) : Int), .int .u64 ((word (z.set.testBit) 3 : Nat) : Int), .slice C z.kids.len cap, .int .i64 z.lo, .int .i64 z.hi])
  have HB := Lib.hid ((Below.refl w.heap.size w).alloc (Nat.le_refl _) (.cells #[.int .i64 z.kind, .int .u64 ((word (z.set.testBit) 0 : Nat) : Int), .int .u64 ((word (z.set.testBit) 1 : Nat) : Int), .int .u64 ((word (z.set.testBit) 2 : Nat) : Int), .int .u64 ((word (z.set.testBit) 3 : Nat) : Int), .slice C z.kids.len cap, .int .i64 z.lo, .int .i64 z.hi] 28))
  unfold ndV at HI ⊢
  clear ht hW
  skip
  go_enter Tryz.func42, Tryz.ntmps42
  go_wp2_with fail
  refine HI.out.mono ?_
  rintro e w2 ⟨v2, rfl, hb2, ho2⟩
  have hX := HX.out.below hb2 HX.out.lt
  have n0 := hX.cell 0
  have hlx := hX.lt
  simp only [List.getElem?_toArray, List.getElem?_cons_zero, List.getElem?_cons_succ] at n0
  have HB2 := Lib.hid (HB.out.trans (hb2.mono HB.out.size))
  have HO2 := Lib.hid (ho2.mono (base' := w.heap.size) (by simp))
  clear hb2 ho2 HI HX HB hX
  dsimp only
  go_wp2
  go_light
  go_ret
  exact ⟨_, rfl, HB2.out, HO2.out⟩
theorem beqF {a b : Int} (h : a ≠ b) : (a == b) = false := by simpa using h
theorem bneT {a b : Int} (h : a ≠ b) : (a != b) = true := by simpa using h
theorem rkid_go (p : Int) (z : Nd) (C : Option Addr) (cap : Nat) (P : Nat → Prop) (w : World) (ht : TreesAt w P z.kids C) (hW : RWriteC z) (hl : z.write.length ≤ 40000000) : Calls Tryz.prog 42 #[ndV z C cap, .int .i64 p] w (RowOut (kidS p (z.kind, z.write)) w) := by
  unfold kidS brS
  by_cases h5 : z.kind = 5
  · rw [if_pos (by simp [h5])]
    exact rkid_a p z C cap P w ht hW hl h5
  by_cases hp : p = 5
  · rw [if_neg (by simp [h5, hp])]
    exact rkid_d p z C cap P w ht hW hl (beqF h5) (by simp [hp])
  by_cases h4 : z.kind = 4
  · rw [if_pos (by simp [h4, hp])]
    exact rkid_b p z C cap P w ht hW hl h4 (bneT hp)
  by_cases h2 : z.kind = 2
  · rw [if_pos (by simp [h2, hp])]
    exact rkid_c p z C cap P w ht hW hl h2 (bneT hp)
  · rw [if_neg (by simp [h5, h4, h2])]
    exact rkid_e p z C cap P w ht hW hl (beqF h5) (beqF h4) (beqF h2) (bneT hp)
end Go.Proofs.YtchfipjclbpomaaGreatDoor
