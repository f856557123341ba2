/-
  Rows of rules appended to a row of one's own; an append within a guard.
-/
import Derived.Maps.AppendAt
import Derived.Test.YtgbpcigfbpghgaaQSpecSame
import Derived.Test.YtgbpcigfbpghgaaQPartsS
import Derived.Test.YtgbpcigfbpghgaaQZ01
namespace Go.Proofs.Ytgbpcigfbpghgaa
open Go.RowKit
set_option linter.unusedSimpArgs false
set_option linter.unusedVariables false
set_option maxRecDepth 100000

/-- An append whose run is known, within a guard that holds. -/
theorem wpList_append_byw {ops : Array Oper} {rest : List Oper} {o : Oper} {a : Act} {w : World} {Q : Exit → Act → World → Prop} (hgd : Region.wanted o (yielded ops a.tmps) = true) (sl x : Operand) (t u : TypeId)
    (ho : o.op = .call { callee := .builtin .append, args := #[sl, x], argTypes := #[t, u] }) (v1 v2 v' : Value) (w' : World) (hs : a.eval sl = v1) (hx : a.eval x = v2)
    (hr : (Builtin.append_ #[t, u] o.type #[v1, v2]).run Try.prog w = .ok v' w')
    (h : wpList Try.prog ops Q rest (a.put o.dst v') w') : wpList Try.prog ops Q (o :: rest) a w := by
  unfold wpList
  rw [if_pos hgd]
  refine .inl ?_
  unfold Oper.wp execOp
  simp only [ho, resolve, invoke, builtin, Sem.run_bind, Sem.run_pure, Result.andThen_ok, List.map_toArray, List.map_cons, List.map_nil, hs, hx, hr]
  exact h
theorem RulesAre.app {w : World} {P : Nat → Prop} {m : List RuleS} {ds : List Value} (hd : RulesAre w P m ds) : ∀ {l : List RuleS} {cs : List Value}, RulesAre w P l cs → RulesAre w P (l ++ m) (cs ++ ds)
  | [], cs, h => by
    have : cs = [] := h
    subst this
    exact hd
  | y :: l, cs, ⟨B', cap', rest, hcs, hc', ht', hr⟩ => ⟨B', cap', rest ++ ds, by rw [hcs, List.append_assoc], hc', ht', RulesAre.app hd hr⟩
theorem RulesAre.one {w : World} {P : Nat → Prop} : ∀ {l : List RuleS} {cs : List Value}, RulesAre w P l cs → ∀ u ∈ cs, u.oneCell' = true
  | [], cs, h, u, hu => by
    have : cs = [] := h
    subst this
    cases hu
  | y :: l, cs, ⟨B', cap', rest, hcs, hc', ht', hr⟩, u, hu => by
    rw [hcs] at hu
    rcases List.mem_append.1 hu with hu | hu
    · simp [ruleCell, ndCell] at hu
      rcases hu with rfl | rfl | rfl | rfl | rfl | rfl | rfl | rfl | rfl <;> rfl
    · exact hr.one u hu
/-- The cells of a row of rules. -/
theorem rules_cells {w : World} {P : Nat → Prop} {b : Nat} : ∀ {rs : List RuleS} {o : Nat}, RulesAt w P rs (some ⟨b, o, none⟩) → ∃ news, RulesAre w P rs news ∧ ∀ j u, news[j]? = some u → w.cell? ⟨b, o + j, none⟩ = some u
  | [], o, _ => ⟨[], rfl, fun j u h => by simp at h⟩
  | r :: l, o, h => by
    obtain ⟨b', o', B, cap, hA, hb, hc, h0, hn, ht⟩ := h 0 r rfl
    cases hA
    obtain ⟨n0, n1, n2, n3, n4, n5, n6, n7⟩ := hn
    obtain ⟨news, hr, hcl⟩ := rules_cells (rs := l) (o := o + 9) (fun i x hx => by
      obtain ⟨b', o', B, cap, hA, hb, hc, h0, hn, ht⟩ := h (i + 1) x hx
      cases hA
      exact ⟨b, o + 9, B, cap, rfl, hb, hc, by rw [show o + 9 + i * 9 = o + (i + 1) * 9 by omega]; exact h0, by rw [show o + 9 + i * 9 = o + (i + 1) * 9 by omega]; exact hn, ht⟩)
    refine ⟨ruleCell r B cap ++ news, ⟨B, cap, news, rfl, hc, ht, hr⟩, fun j u hj => ?_⟩
    rcases Nat.lt_or_ge j 9 with h9 | h9
    · rw [List.getElem?_append_left (by simpa [ruleCell, ndCell] using h9)] at hj
      rcases j with _ | _ | _ | _ | _ | _ | _ | _ | _ | j
      · rw [← Option.some.inj hj]; exact h0
      · rw [← Option.some.inj hj]; exact n0
      · rw [← Option.some.inj hj]; exact n1
      · rw [← Option.some.inj hj]; exact n2
      · rw [← Option.some.inj hj]; exact n3
      · rw [← Option.some.inj hj]; exact n4
      · rw [← Option.some.inj hj]; exact n5
      · rw [← Option.some.inj hj]; exact n6
      · rw [← Option.some.inj hj]; exact n7
      · omega
    · have hl : (ruleCell r B cap).length = 9 := by simp [ruleCell, ndCell]
      rw [List.getElem?_append_right (by omega), hl] at hj
      have := hcl _ u hj
      rw [show o + 9 + (j - 9) = o + j by omega] at this
      exact this
theorem below_grownN {w w' : World} {B : Nat} {row : Option Nat} (hg : w.grownBy w' row) (hB : B ≤ w.heap.size) (hr : ∀ g, row = some g → B ≤ g) : Below B w w' :=
  ⟨hg.os, hg.tape, hg.output, hg.size, fun k hk => hg.block k (by omega) (fun e => by have := hr k e.symm; omega)⟩
theorem info_ruleN : (Try.prog.info? 39).map (fun i => (i.zero, i.size, i.bytes)) = some (some (.agg #[.string (strOf []), .int .i64 0, .int .u64 0, .int .u64 0, .int .u64 0, .int .u64 0, .slice none 0 0, .int .i64 0, .int .i64 0]), 9, 96) := by kernel_rfl
/-- A row of rules appended to a row of one's own. -/
theorem append_rules (w : World) (base : Nat) (v : Value) (n : Nat) (xs : List Value) (hown : w.ownsRow base 39 9 v n xs) (X : Option Addr) (c : Nat) (rs : List RuleS) {P : Nat → Prop} (hX : RulesAt w P rs X) (hs : n + rs.length ≤ 1000) (hbase : base ≤ w.heap.size) :
    ∃ v' w' news, (Builtin.append_ #[23, 23] 23 #[v, .slice X rs.length c]).run Try.prog w = .ok v' w' ∧ w'.ownsRow base 39 9 v' (n + rs.length) (xs ++ news) ∧ w.grownBy w' v.ownBlock ∧ RulesAre w P rs news := by
  obtain ⟨i0, hir, hz0, hz1, hz2⟩ := info_parts info_ruleN
  have h63 : n + rs.length ≤ maxLen := Nat.le_trans hs (by decide)
  have hby : (n + rs.length) * 96 ≤ 140737488355328 := by omega
  by_cases h0 : rs = []
  · subst h0
    cases X with
    | none =>
      refine ⟨v, w, [], ?_, by simpa using hown, ⟨rfl, rfl, rfl, Nat.le_refl _, fun _ _ _ => rfl⟩, rfl⟩
      rcases hown.2 with ⟨rfl, rfl⟩ | ⟨g, cap, cur, rfl, _, _, hnc, _⟩
      · simp [Builtin.append_, run_underlying Try.underlying23, sizeOf, typeInfo, hir, Builtin.lenOf, Builtin.firstCells]
      · simp [Builtin.append_, run_underlying Try.underlying23, sizeOf, typeInfo, hir, Builtin.lenOf, Builtin.firstCells, hnc, storeCells]
    | some a =>
      obtain ⟨v', w', h1, h2, h3, _⟩ := run_append_own_at (P := Try.prog) w base 23 23 39 i0 _ 9 96 Try.underlying23 hir hz0 hz1 hz2 rfl (by decide) v n xs hown a 0 c [] rfl (fun j u h => by simp at h) (fun u h => by cases h) (by simpa using h63) (by simpa using hby) hbase
      exact ⟨v', w', [], h1, h2, h3, rfl⟩
  · obtain ⟨r, hr⟩ : ∃ r, rs[0]? = some r := by
      cases rs with
      | nil => exact absurd rfl h0
      | cons r l => exact ⟨r, rfl⟩
    obtain ⟨b, o, _, _, rfl, _⟩ := hX 0 r hr
    obtain ⟨news, ha, hc⟩ := rules_cells hX
    obtain ⟨v', w', h1, h2, h3, _⟩ := run_append_own_at (P := Try.prog) w base 23 23 39 i0 _ 9 96 Try.underlying23 hir hz0 hz1 hz2 rfl (by decide) v n xs hown ⟨b, o, none⟩ rs.length c news ha.length (fun j u h => by rw [addr_plusN]; exact hc j u h) ha.one h63 hby hbase
    exact ⟨v', w', news, h1, h2, h3, ha⟩
/-- The rules of two rows, the second appended to the first, the first to a new empty row. -/
theorem append_both (w : World) (X Y : Option Addr) (c d : Nat) (l m : List RuleS) {P Q : Nat → Prop} (hX : RulesAt w P l X) (hY : RulesAt w Q m Y) (hs : l.length + m.length ≤ 1000) :
    ∃ v1 w1 v2 w2, (Builtin.append_ #[23, 23] 23 #[.slice (some ⟨w.heap.size, 0, none⟩) 0 0, .slice X l.length c]).run Try.prog (w.alloc (.cells #[] 39)) = .ok v1 w1 ∧
      (Builtin.append_ #[23, 23] 23 #[v1, .slice Y m.length d]).run Try.prog w1 = .ok v2 w2 ∧ Below w.heap.size w w2 ∧ ∃ A cap, v2 = .slice A (l ++ m).length cap ∧ RulesAt w2 (fun _ => True) (l ++ m) A := by
  have hba : Below w.heap.size w (w.alloc (.cells #[] 39)) := (Below.refl _ _).alloc (Nat.le_refl _) _
  have hown : (w.alloc (.cells #[] 39)).ownsRow w.heap.size 39 9 (.slice (some ⟨w.heap.size, 0, none⟩) 0 0) 0 [] :=
    ⟨rfl, .inr ⟨w.heap.size, 0, #[], rfl, Nat.le_refl _, heap_alloc_new w _, Nat.le_refl _, Nat.zero_le _, rfl, rfl⟩⟩
  have hX' : RulesAt (w.alloc (.cells #[] 39)) (fun b => b < w.heap.size) l X := (hX.weak (fun b _ h => h)).below hba
  obtain ⟨v1, w1, n1, h1, o1, g1, r1⟩ := append_rules _ w.heap.size _ 0 [] hown X c l hX' (by omega) hba.size
  have hb01 : Below w.heap.size (w.alloc (.cells #[] 39)) w1 := below_grownN g1 hba.size (fun g hg => by simp [Value.ownBlock] at hg; omega)
  have hb1 : Below w.heap.size w w1 := hba.trans hb01
  have hY' : RulesAt w1 (fun b => b < w.heap.size) m Y := (hY.weak (fun b _ h => h)).below hb1
  obtain ⟨v2, w2, n2, h2, o2, g2, r2⟩ := append_rules _ w.heap.size _ _ _ o1 Y d m hY' (by omega) hb1.size
  have hb12 : Below w.heap.size w1 w2 := below_grownN g2 hb1.size (fun g hg => (o1.lt g hg).1)
  have hb2 : Below w.heap.size w w2 := hb1.trans hb12
  rw [Nat.zero_add, List.nil_append, ← List.length_append] at o2
  have r1' : RulesAre w2 (fun _ => True) l n1 := r1.keep (fun b o hp _ => (hb01.trans hb12).cell (p := ⟨b, o, none⟩) hp) (fun _ _ _ => trivial)
  have r2' : RulesAre w2 (fun _ => True) m n2 := r2.keep (fun b o hp _ => hb12.cell (p := ⟨b, o, none⟩) hp) (fun _ _ _ => trivial)
  obtain ⟨A, cap, e, _, hA⟩ := rules_of o2 (RulesAre.app r2' r1') (fun _ _ => trivial)
  exact ⟨v1, w1, v2, w2, h1, h2, hb2, A, cap, e, hA⟩
end Go.Proofs.Ytgbpcigfbpghgaa
