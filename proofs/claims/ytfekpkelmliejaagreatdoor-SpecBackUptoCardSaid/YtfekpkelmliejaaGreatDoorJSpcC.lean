/- Texts of the claim. -/
import Derived.Test.YtfekpkelmliejaaGreatDoorJSpcB
import Derived.Test.YtfekpkelmliejaaGreatDoorJShortB
import Derived.Test.YtfekpkelmliejaaGreatDoorJPartsS
namespace Go.Proofs.YtfekpkelmliejaaGreatDoor
set_option linter.unusedSimpArgs false
set_option linter.unusedVariables false
set_option maxRecDepth 100000
set_option maxHeartbeats 8000000
theorem takeWhile_own {p : Nat → Bool} : ∀ {A : List Nat}, (∀ x ∈ A, p x = true) → A.takeWhile p = A
 | [], _ => rfl
 | a :: A, h => by
  rw [List.takeWhile_cons, h a (by simp), takeWhile_own (fun x hx => h x (by simp [hx]))]
  rfl
theorem run_name {line : List Nat} (h0 : runS line ≠ 0) (h1 : runS line ≤ 32) : nameB (line.take (runS line)) = true ∧ (line.take (runS line)).length = runS line := by
 cases line with
 | nil => rw [runS_nil] at h0; exact absurd rfl h0
 | cons c l =>
  rw [runS_cons] at h0 h1 ⊢
  by_cases hc : isNameA c = true
  ·rw [if_pos hc] at h0 h1 ⊢
   have hp := List.prefix_iff_eq_take.1 (List.takeWhile_prefix isNameB (l := l))
   have e : (c :: l).take ((l.takeWhile isNameB).length + 1) = c :: l.takeWhile isNameB := by rw [List.take_succ_cons, ← hp]
   rw [e]
   refine ⟨?_, rfl⟩
   unfold nameB
   rw [runS_cons, if_pos hc, takeWhile_own (takeWhile_all l)]
   simp
   omega
  ·rw [if_neg hc] at h0
   exact absurd rfl h0
theorem parse_text {bs : List Nat} (hb : ∀ x ∈ bs, x < 256) {x : Nd} (h : parseS bs = .ok x) : rightT x = true ∧ x.said = x ∧ ((∃ t, showT x = .ok t ∧ t.length ≤ 65 * bs.length) ∨ 1000 < bs.length) := by
 unfold parseS at h
 split at h
 ·cases h
 rename_i L hL
 obtain ⟨h1, h2, h3, h4, h5⟩ := short_read h
 have htx := h5 _ weigh_text
 have hsg := (seg_text hb ((splitS_seg hb).1 hL).2).2
 refine ⟨h1, h2, ?_⟩
 by_cases hj : 65536 < (joinS x.write).length
 ·refine .inr ?_
  rw [joinS_wS] at hj
  omega
 ·refine .inl ⟨joinS x.write, by unfold showT; rw [h3]; exact if_neg hj, ?_⟩
  rw [joinS_wS]
  omega
def InvR (bs : List Nat) (rs : List RuleS) (i : Nat) : Prop := (∀ r ∈ rs, nameB r.name = true ∧ r.body.said = r.body ∧ rightT r.body = true) ∧ (∀ k r, rs[k]? = some r → called (rs.take k) r.name = false) ∧ rs.length ≤ 64 ∧
 ((∃ s, textGo9 [] rs = some s ∧ s.length ≤ 65 * i) ∨ 1000 < bs.length)
theorem InvR.more {bs : List Nat} {rs : List RuleS} {i j : Nat} (h : InvR bs rs i) (hij : i ≤ j) : InvR bs rs j :=
 ⟨h.1, h.2.1, h.2.2.1, h.2.2.2.imp (fun ⟨s, h1, h2⟩ => ⟨s, h1, by omega⟩) id⟩
theorem InvR.line {bs : List Nat} (hb : ∀ x ∈ bs, x < 256) {rs : List RuleS} {i : Nat} (h : InvR bs rs i) {r : RuleS} (hl : lineS rs (lineAt bs i) = .ok r) : InvR bs (rs ++ [r]) (i + (lineAt bs i).length + 1) := by
 obtain ⟨h1, h2, h3, h4⟩ := h
 obtain ⟨hh, hp⟩ := lineS_ok hl
 have hlt := lineAt_lt hb i
 have hll := lineAt_len bs i
 generalize lineAt bs i = line at *
 obtain ⟨h64, hn, hc⟩ := headS_ok hh
 have hrun : runS line ≠ 0 ∧ runS line ≤ 32 ∧ runS line ≠ line.length := by
  unfold headS at hh
  rw [if_neg h64] at hh
  split at hh
  ·cases hh
  ·split at hh
   ·cases hh
   ·split at hh
    ·cases hh
    ·rename_i a b c
     exact ⟨a, by omega, fun e => c (.inl e)⟩
 obtain ⟨g1, g2⟩ := run_name hrun.1 hrun.2.1
 rw [← hn] at g1 g2
 have hrl := runS_le line
 obtain ⟨q1, q2, q3⟩ := parse_text (fun x hx => hlt x (List.mem_of_mem_drop hx)) hp
 refine ⟨fun x hx => ?_, fun k x hx => ?_, by simp; omega, ?_⟩
 ·rcases List.mem_append.1 hx with hx | hx
  ·exact h1 x hx
  ·rw [List.mem_singleton.1 hx]
   exact ⟨g1, q2, q1⟩
 ·rcases Nat.lt_or_ge k rs.length with hk | hk
  ·rw [List.getElem?_append_left hk] at hx
   rw [List.take_append_of_le_length (by omega)]
   exact h2 k x hx
  ·have hk2 : k = rs.length := by
    have := (List.getElem?_eq_some_iff.1 hx).1
    simp at this
    omega
   subst hk2
   rw [List.take_left]
   simp at hx
   subst hx
   exact hc
 ·rcases h4 with ⟨s, e1, e2⟩ | h4
  ·rcases q3 with ⟨t, e3, e4⟩ | q3
   ·refine .inl ⟨s ++ lineT r.name t, ?_, ?_⟩
    ·rw [textGo9_app, e1]
     show textGo9 s [r] = _
     unfold textGo9
     rw [e3]
     rfl
    ·unfold lineT
     rw [List.length_drop] at e4
     simp
     omega
   ·refine .inr ?_
    rw [List.length_drop] at q3
    omega
  ·exact .inr h4
theorem read_inv {bs : List Nat} (hb : ∀ x ∈ bs, x < 256) (n : Nat) : ∀ {i : Nat} {rs : List RuleS}, i ≤ bs.length + 1 → bs.length - i ≤ n → InvR bs rs i →
  (∀ l, rulesC bs i rs = .ok l → InvR bs l (bs.length + 1)) ∧ ∀ k q, rulesC bs i rs = .error (k, q) → k ≠ 0 ∧ 0 ≤ q ∧ q ≤ bs.length := by
 induction n with
 | zero =>
  intro i rs hi hn h
  rw [rulesC_end (by omega) hi]
  exact ⟨fun l e => (by cases e; exact h.more hi), fun k q e => (by cases e)⟩
 | succ n ih =>
  intro i rs hi hn h
  rcases Nat.lt_or_ge i bs.length with hlt | hge
  ·have hll := lineAt_len bs i
   by_cases hp : lineAt bs i = [] ∨ byteAt bs i = 35
   ·rw [rulesC_pass hlt hp]
    exact ih (by omega) (by omega) (h.more (by omega))
   ·cases hx : lineS rs (lineAt bs i) with
    | error e =>
     obtain ⟨k', q'⟩ := e
     rw [rulesC_bad hlt hp hx]
     have := lineS_kind (lineAt_lt hb i) hx
     refine ⟨fun l e => (by cases e), fun k q e => ?_⟩
     have e2 : (k', q' + (i : Int)) = (k, q) := Except.error.inj e
     injection e2 with e3 e4
     subst e3 e4
     exact ⟨this.1, by omega, by omega⟩
    | ok r =>
     rw [rulesC_ok hlt hp hx]
     exact ih (by omega) (by omega) (h.line hb hx)
  ·rw [rulesC_end hge hi]
   exact ⟨fun l e => (by cases e; exact h.more hi), fun k q e => (by cases e)⟩
theorem inv_start (bs : List Nat) : InvR bs [] 0 := ⟨fun r h => (by cases h), fun k r h => (by simp at h), Nat.zero_le _, .inl ⟨[], rfl, Nat.zero_le _⟩⟩
theorem rulesS_at {bs : List Nat} (hb : ∀ x ∈ bs, x < 256) {k q : Int} (h : rulesS bs = .error (k, q)) : k ≠ 0 ∧ 0 ≤ q ∧ q ≤ bs.length := by
 rcases Nat.lt_or_ge 65536 bs.length with h1 | h1
 ·rw [rulesS_long h1] at h
  cases h
  exact ⟨by decide, by decide, by omega⟩
 ·rw [rulesS_go h1] at h
  exact (read_inv hb _ (by omega) (Nat.le_refl _) (inv_start bs)).2 k q h
theorem read_text {bs : List Nat} (hb : ∀ x ∈ bs, x < 256) {l : List RuleS} (h : rulesS bs = .ok l) : rightR l = true ∧ l.map saidR = l ∧ ((∃ s, textR l = .ok s) ∨ (textR l = .error 4 ∧ 1000 < bs.length)) := by
 have h1 := rulesS_ok_len h
 rw [rulesS_go h1] at h
 obtain ⟨g1, g2, g3, g4⟩ := (read_inv hb _ (by omega) (Nat.le_refl _) (inv_start bs)).1 l h
 have hr : rightR l = true := by
  rw [rightR_all (fun j hj => ?_)]
  ·exact decide_eq_true g3
  ·have hj2 := List.getElem?_eq_getElem hj
   obtain ⟨a1, a2, a3⟩ := g1 _ (List.getElem_mem hj)
   rw [okAt_some hj2, a1, g2 j _ hj2, a3]
   rfl
 refine ⟨hr, ?_, ?_⟩
 ·conv => rhs; rw [← List.map_id l]
  refine List.map_congr_left fun r hr => ?_
  unfold saidR
  rw [(g1 r hr).2.1]
  rfl
 ·rcases g4 with ⟨s, e1, e2⟩ | g4
  ·by_cases hs : 65536 < s.length
   ·exact .inr ⟨by rw [textR_some hr e1, if_pos hs], by omega⟩
   ·exact .inl ⟨s, by rw [textR_some hr e1, if_neg hs]⟩
  ·cases hg : textGo9 [] l with
   | none => exact .inr ⟨textR_none hr hg, g4⟩
   | some s =>
    by_cases hs : 65536 < s.length
    ·exact .inr ⟨by rw [textR_some hr hg, if_pos hs], g4⟩
    ·exact .inl ⟨s, by rw [textR_some hr hg, if_neg hs]⟩
end Go.Proofs.YtfekpkelmliejaaGreatDoor
