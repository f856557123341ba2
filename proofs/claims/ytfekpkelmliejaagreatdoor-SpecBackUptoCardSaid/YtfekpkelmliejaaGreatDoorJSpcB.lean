/- Texts of the claim. -/
import Derived.Test.YtfekpkelmliejaaGreatDoorJSpcT
import Derived.Test.YtfekpkelmliejaaGreatDoorJPShow
import Derived.Test.YtfekpkelmliejaaGreatDoorJSpecL
namespace Go.Proofs.YtfekpkelmliejaaGreatDoor
set_option linter.unusedSimpArgs false
set_option linter.unusedVariables false
set_option maxRecDepth 100000
set_option maxHeartbeats 8000000
theorem chr_ten : ∀ c : Fin 256, ∀ y ∈ chrS c.val, y ≠ 10 := by decide +kernel
theorem lit_ten : ∀ c : Fin 256, ∀ y ∈ litS c.val, y ≠ 10 := by decide +kernel
theorem chr_no10 {c : Nat} (h : c < 256) : ∀ y ∈ chrS c, y ≠ 10 := chr_ten ⟨c, h⟩
theorem showS_no10 (p : Nat → Bool) : ∀ x ∈ showS p, x ≠ 10 := by
 have hp : ∀ l : List (Nat × Nat), (∀ x ∈ l, x.1 ≤ x.2 ∧ x.2 < 256) → ∀ y ∈ piecesS l, y ≠ 10 := by
  intro l
  induction l with
  | nil => intro _ y hy; simp [piecesS] at hy
  | cons x l ih =>
   intro hl y hy
   have hx := hl x (by simp)
   rw [piecesS_cons] at hy
   rcases List.mem_append.1 hy with hy | hy
   ·unfold pieceS at hy
    rcases List.mem_append.1 hy with hy | hy
    ·exact chr_no10 (by omega) y hy
    ·rcases List.mem_append.1 hy with hy | hy
     ·split at hy
      ·simp at hy; omega
      ·simp at hy
     ·split at hy
      ·exact chr_no10 hx.2 y hy
      ·simp at hy
   ·exact ih (fun z hz => hl z (by simp [hz])) y hy
 intro x hx
 unfold showS at hx
 split at hx
 ·simp only [List.mem_append, List.mem_cons, List.not_mem_nil, or_false] at hx
  rcases hx with (h | h) | h | h
  ·omega
  ·omega
  ·exact hp _ (cutsOf_in _) x h
  ·omega
 ·simp only [List.mem_append, List.mem_cons, List.not_mem_nil, or_false] at hx
  rcases hx with h | h | h
  ·omega
  ·exact hp _ (cutsOf_in _) x h
  ·omega
theorem setT_no10 (p : Nat → Bool) : ∀ x ∈ setT p, x ≠ 10 := by
 unfold setT
 split
 ·rename_i h
  obtain ⟨c, hc⟩ := List.length_eq_one_iff.1 h
  rw [hc]
  exact lit_ten ⟨c, elems_lt (m := 256) (p := p) (by rw [hc]; simp)⟩
 ·split
  ·simp
  ·exact showS_no10 p
theorem repT_no10 {lo hi : Int} (h1 : lo ≤ 1000) (h2 : hi ≤ 1000) : ∀ x ∈ repT lo hi, x ≠ 10 := by
 intro x hx
 unfold repT at hx
 have d1 := decS_bytes lo.toNat (by omega)
 have d2 := decS_bytes hi.toNat (by omega)
 simp only [List.mem_append, List.mem_cons, List.not_mem_nil, or_false] at hx
 rcases hx with h | h | h | h
 ·omega
 ·have := d1 x h; omega
 ·split at h
  ·simp at h; omega
  ·split at h
   ·rcases List.mem_cons.1 h with h | h
    ·omega
    ·have := d2 x h; omega
   ·cases h
 ·omega
theorem textS_no10 {x : Lex} (h : rightS x = true) : ∀ y ∈ textS x, y ≠ 10 := by
 obtain ⟨_, h | h | h⟩ := rightS_cases h
 ·unfold textS
  rw [if_pos h.1]
  exact setT_no10 _
 ·unfold textS
  rw [if_neg (by omega), if_pos h.1]
  exact repT_no10 (by omega) (by omega)
 ·unfold textS
  rw [if_neg (by omega), if_neg (by omega)]
  repeat' split
  all_goals simp
theorem showT_no10 {x : Nd} {t : List Nat} (h : showT x = .ok t) : ∀ y ∈ t, y ≠ 10 := by
 unfold showT at h
 cases hl : lexsS x with
 | error k => rw [hl] at h; cases h
 | ok L =>
  rw [hl] at h
  dsimp only at h
  split at h
  ·cases h
  ·obtain ⟨h1, _⟩ := lexsS_form hl
   have e : joinS L = t := by injection h
   subst e
   intro y hy
   obtain ⟨z, hz, hy⟩ := List.mem_flatMap.1 hy
   exact textS_no10 (List.all_eq_true.1 h1 z hz) y hy
theorem nameB_form {s : List Nat} (h : nameB s = true) : ∃ c l, s = c :: l ∧ isNameA c = true ∧ (∀ x ∈ l, isNameB x = true) ∧ s.length ≤ 32 := by
 unfold nameB at h
 rw [Bool.and_eq_true, Bool.and_eq_true] at h
 have h1 := of_decide_eq_true h.1
 have h2 := of_decide_eq_true h.2.1
 have h3 := of_decide_eq_true h.2.2
 cases s with
 | nil => simp at h1
 | cons c l =>
  rw [runS_cons] at h3
  by_cases hc : isNameA c = true
  ·rw [if_pos hc] at h3
   have hl : (l.takeWhile isNameB).length = l.length := by simpa using h3
   have : l.takeWhile isNameB = l := (List.takeWhile_prefix _).eq_of_length hl
   exact ⟨c, l, rfl, hc, fun x hx => by rw [← this] at hx; exact takeWhile_all l x hx, h2⟩
  ·rw [if_neg hc] at h3
   simp at h3
theorem isNameB_ten {c : Nat} (h : isNameB c = true) : c ≠ 10 ∧ c ≠ 58 ∧ c ≠ 35 ∧ c < 256 := by
 unfold isNameB isNameA isDig at h
 simp only [Bool.or_eq_true, beq_iff_eq, Bool.and_eq_true, decide_eq_true_eq] at h
 omega
theorem isNameA_B {c : Nat} (h : isNameA c = true) : isNameB c = true := by unfold isNameB; rw [h]; rfl
theorem name_bytes {s : List Nat} (h : nameB s = true) : ∀ x ∈ s, x ≠ 10 ∧ x ≠ 58 ∧ x ≠ 35 ∧ x < 256 := by
 obtain ⟨c, l, rfl, h1, h2, _⟩ := nameB_form h
 intro x hx
 rcases List.mem_cons.1 hx with rfl | hx
 ·exact isNameB_ten (isNameA_B h1)
 ·exact isNameB_ten (h2 x hx)
theorem name_run {s : List Nat} (h : nameB s = true) (t : List Nat) : runS (s ++ 58 :: t) = s.length := by
 obtain ⟨c, l, rfl, h1, h2, _⟩ := nameB_form h
 rw [List.cons_append, runS_cons, if_pos h1, takeWhile_eq l 58 t h2 (by decide)]
 rfl
theorem line_says {rs : List RuleS} {n t : List Nat} {x : Nd} (hn : nameB n = true) (hl : rs.length < 64) (hc : called rs n = false) (hp : parseS t = .ok x) : lineS rs (n ++ 58 :: t) = .ok ⟨n, x⟩ := by
 have hr := name_run hn t
 obtain ⟨c, l, e, _, _, h32⟩ := nameB_form hn
 have hn1 : 1 ≤ n.length := by rw [e]; simp
 have hb : byteAt (n ++ 58 :: t) n.length = 58 := by simp [byteAt]
 have hh : headS rs (n ++ 58 :: t) = .ok n := by
  unfold headS
  rw [if_neg (by omega), hr, if_neg (by omega), if_neg (by omega), if_neg, List.take_left]
  ·have : (rs.any fun r => decide (r.name = n)) = false := hc
   rw [this, if_neg (by decide)]
  ·rintro (h | h)
   ·simp at h
   ·exact h hb
 unfold lineS
 rw [hh]
 dsimp only
 rw [show n ++ 58 :: t = (n ++ [58]) ++ t by simp, show n.length + 1 = (n ++ [58]).length by simp, List.drop_left, hp]
def saidR (r : RuleS) : RuleS := ⟨r.name, r.body.said⟩
theorem called_said (rs : List RuleS) (n : List Nat) : called (rs.map saidR) n = called rs n := by
 unfold called
 rw [List.any_map]
 rfl
theorem line_cut {n t : List Nat} (hn : nameB n = true) (ht : ∀ y ∈ t, y ≠ 10) (a s : List Nat) : lineAt (a ++ (lineT n t ++ s)) a.length = n ++ 58 :: t := by
 unfold lineAt
 rw [List.drop_left, show lineT n t ++ s = (n ++ 58 :: t) ++ 10 :: s by unfold lineT; simp]
 refine takeWhile_eq _ 10 s (fun x hx => ?_) (by decide)
 have : x ≠ 10 := by
  rcases List.mem_append.1 hx with h | h
  ·exact (name_bytes hn x h).1
  ·rcases List.mem_cons.1 h with rfl | h
   ·decide
   ·exact ht x h
 simp [this]
theorem textGo9_pre : ∀ (l : List RuleS) (a s : List Nat), textGo9 a l = some s → ∃ u, s = a ++ u
 | [], a, s, h => ⟨[], by rw [List.append_nil]; exact (Option.some.inj h).symm⟩
 | r :: l, a, s, h => by
  unfold textGo9 at h
  cases hs : showT r.body with
  | ok t =>
   rw [hs] at h
   obtain ⟨u, hu⟩ := textGo9_pre l _ s h
   exact ⟨lineT r.name t ++ u, by rw [hu, List.append_assoc]⟩
  | error e => rw [hs] at h; cases h
theorem back_go : ∀ (l done : List RuleS) (a s : List Nat), textGo9 a l = some s → done.length + l.length ≤ 64 → (∀ k r, (done ++ l)[k]? = some r → nameB r.name = true ∧ called ((done ++ l).take k) r.name = false) →
  rulesC s a.length (done.map saidR) = .ok ((done ++ l).map saidR)
 | [], done, a, s, h, _, _ => by
  have e : a = s := Option.some.inj h
  subst e
  rw [List.append_nil]
  exact rulesC_end (Nat.le_refl _) (by omega)
 | r :: l, done, a, s, h, hl, hk => by
  have hlen : done.length + (l.length + 1) ≤ 64 := hl
  obtain ⟨h1, h2⟩ := hk done.length r (by simp)
  rw [List.take_left] at h2
  unfold textGo9 at h
  cases hs : showT r.body with
  | error e => rw [hs] at h; cases h
  | ok t =>
   rw [hs] at h
   have h : textGo9 (a ++ lineT r.name t) l = some s := h
   obtain ⟨u, hu⟩ := textGo9_pre l _ s h
   obtain ⟨hp, _⟩ := parse_show hs
   have hcut := line_cut h1 (showT_no10 hs) a u
   rw [← List.append_assoc, ← hu] at hcut
   obtain ⟨c, m, e, hc, _, _⟩ := nameB_form h1
   have hlt : a.length < s.length := by rw [hu]; unfold lineT; simp; omega
   have hb : byteAt s a.length = c := by rw [hu, e]; unfold lineT byteAt; simp
   have hsay := line_says h1 (rs := done.map saidR) (by simp; omega) (by rw [called_said]; exact h2) hp
   rw [rulesC_ok (r := saidR r) hlt (by
    rw [hcut, hb]
    rintro (h | h)
    ·simp at h
    ·subst h; exact absurd hc (by decide)) (by rw [hcut]; exact hsay), hcut]
   have := back_go l (done ++ [r]) (a ++ lineT r.name t) s h (by simp; omega) (by simpa using hk)
   rw [List.map_append, List.append_assoc] at this
   rw [show a.length + (r.name ++ 58 :: t).length + 1 = (a ++ lineT r.name t).length by unfold lineT; simp; omega]
   simpa using this
theorem text_back9 {rs : List RuleS} {s : List Nat} (h : textR rs = .ok s) : rulesS s = .ok (rs.map saidR) ∧ (∀ c ∈ s, c < 256) ∧ s.length ≤ 65536 ∧ rightR rs = true := by
 unfold textR at h
 cases hr : rightR rs with
 | false => rw [hr] at h; cases h
 | true =>
  rw [hr, if_neg (by decide)] at h
  cases hg : textGo9 [] rs with
  | none => rw [hg] at h; cases h
  | some s' =>
   rw [hg] at h
   dsimp only at h
   split at h
   ·cases h
   ·rename_i hlen
    have e : s' = s := by injection h
    subst e
    refine ⟨?_, ?_, by omega, rfl⟩
    ·rw [rulesS_go (by omega)]
     exact back_go rs [] [] s' hg (by have := rightR_few hr; simpa using this) (fun k r hk => by have := rightR_get hr (by simpa using hk); exact ⟨this.1, by simpa using this.2.1⟩)
    ·have hb : ∀ (l : List RuleS) (a s : List Nat), textGo9 a l = some s → (∀ c ∈ a, c < 256) → (∀ r ∈ l, nameB r.name = true) → ∀ c ∈ s, c < 256 := by
      intro l
      induction l with
      | nil => intro a s h ha _; have e : a = s := Option.some.inj h; subst e; exact ha
      | cons r l ih =>
       intro a s h ha hn
       unfold textGo9 at h
       cases hs : showT r.body with
       | error e => rw [hs] at h; cases h
       | ok t =>
        rw [hs] at h
        refine ih _ s h (fun c hc => ?_) (fun q hq => hn q (by simp [hq]))
        unfold lineT at hc
        simp only [List.mem_append, List.mem_cons, List.not_mem_nil, or_false] at hc
        rcases hc with hc | ((hc | hc) | hc) | hc
        ·exact ha c hc
        ·exact (name_bytes (hn r (by simp)) c hc).2.2.2
        ·omega
        ·exact (showT_bytes hs).1 c hc
        ·omega
     exact hb rs [] s' hg (fun c hc => by cases hc) (fun r hr' => by
      obtain ⟨k, hk, rfl⟩ := List.mem_iff_getElem.1 hr'
      exact (rightR_get hr (List.getElem?_eq_getElem hk)).1)
end Go.Proofs.YtfekpkelmliejaaGreatDoor
