/- Texts of the claim. -/
import Derived.Test.YtfekpkelmliejaaGreatDoorJShortA
import Derived.Test.YtfekpkelmliejaaGreatDoorJZ04
import Derived.Test.YtfekpkelmliejaaGreatDoorJZ03
namespace Go.Proofs.YtfekpkelmliejaaGreatDoor
open Go.RowKit
set_option linter.unusedSimpArgs false
set_option linter.unusedVariables false
set_option maxRecDepth 100000
set_option maxHeartbeats 8000000
def bdS (p : Nat → Bool) (c : Nat) : Bool := p c != (decide (0 < c) && p (c - 1))
def chgS (p : Nat → Bool) (m : Nat) : Nat := ((List.range m).filter (bdS p)).length
theorem chgS_succ (p : Nat → Bool) (m : Nat) : chgS p (m + 1) = chgS p m + if bdS p m = true then 1 else 0 := by
 unfold chgS
 rw [List.range_succ, List.filter_append, List.length_append]
 cases h : bdS p m <;> simp [h]
theorem spans_chg (p : Nat → Bool) : ∀ c, c ≤ 256 → (spans (elems p c)).length ≤ chgS p c
 | 0, _ => by simp [elems, spans]
 | c + 1, hc => by
  have ih := spans_chg p c (by omega)
  rw [chgS_succ]
  cases hp : p c
  ·rw [spans_no p c hp]; omega
  ·rw [spans_yes p c (by omega) hp]
   have h1 := push_len (spans (elems p c)) c
   cases hb : bdS p c
   ·have h0 : 0 < c ∧ p (c - 1) = true := by
     unfold bdS at hb
     rw [hp] at hb
     simpa using hb
    obtain ⟨k, rfl⟩ : ∃ k, c = k + 1 := ⟨c - 1, by omega⟩
    rw [Nat.add_sub_cancel] at h0
    obtain ⟨m, a, e⟩ := push_last (spans (elems p k)) k
    rw [spans_yes p k (by omega) h0.2, e] at ih ⊢
    rw [push_on _ _ _ _ rfl]
    simp at ih ⊢
    omega
   ·rw [if_pos rfl]; omega
theorem filter_or_le {f g h : Nat → Bool} (hh : ∀ c, f c = true → g c = true ∨ h c = true) : ∀ l : List Nat, (l.filter f).length ≤ (l.filter g).length + (l.filter h).length
 | [] => Nat.zero_le _
 | a :: l => by
  have ih := filter_or_le hh l
  have := hh a
  cases hf : f a <;> cases hg : g a <;> cases hk : h a <;> simp [hf, hg, hk] at this ⊢ <;> omega
theorem one_of (k : Nat) : ∀ m, ((List.range m).filter (fun c => c == k)).length ≤ 1 ∧ (m ≤ k → ((List.range m).filter (fun c => c == k)).length = 0)
 | 0 => by simp
 | m + 1 => by
  obtain ⟨h1, h2⟩ := one_of k m
  rw [List.range_succ, List.filter_append, List.length_append]
  by_cases h : m = k
  ·have h3 := h2 (by omega)
   have h4 : ([m].filter (fun c => c == k)).length ≤ 1 := Nat.le_trans (List.length_filter_le _ _) (by simp)
   exact ⟨by omega, fun hk => by omega⟩
  ·have h4 : ([m].filter (fun c => c == k)).length = 0 := by
    have hn : (m == k) = false := by simpa using h
    simp [List.filter_cons, hn]
   exact ⟨by omega, fun hk => by have := h2 (by omega); omega⟩
theorem chg_more (p : Nat → Bool) (lo hi m : Nat) : chgS (fun c => p c || between lo hi c) m ≤ chgS p m + 2 := by
 have h1 : chgS (fun c => p c || between lo hi c) m ≤ chgS p m + ((List.range m).filter (fun c => (c == lo) || (c == hi + 1))).length := by
  unfold chgS
  refine filter_or_le (fun c hc => ?_) _
  by_cases hp : bdS p c = true
  ·exact .inl hp
  ·refine .inr ?_
   by_cases e1 : c = lo
   ·simp [e1]
   by_cases e2 : c = hi + 1
   ·simp [e2]
   exfalso
   have hp : bdS p c = false := by simpa using hp
   unfold bdS at hp hc
   by_cases h0 : 0 < c
   ·have hb : between lo hi c = between lo hi (c - 1) := by
     unfold between
     have a1 : decide (lo ≤ c) = decide (lo ≤ c - 1) := by congr 1; exact propext ⟨fun _ => by omega, fun _ => by omega⟩
     have a2 : decide (c ≤ hi) = decide (c - 1 ≤ hi) := by congr 1; exact propext ⟨fun _ => by omega, fun _ => by omega⟩
     rw [a1, a2]
    simp only [h0, decide_true, Bool.true_and] at hp hc
    rw [hb] at hc
    have hpe : p c = p (c - 1) := by simpa using hp
    rw [hpe] at hc
    simp at hc
   ·obtain rfl : c = 0 := by omega
    have hb : between lo hi 0 = false := by
     unfold between
     simp
     omega
    have hp0 : p 0 = false := by simpa using hp
    simp [hb, hp0] at hc
 have h2 := filter_or_le (f := fun c => (c == lo) || (c == hi + 1)) (g := fun c => c == lo) (h := fun c => c == hi + 1) (fun c hc => by simpa using hc) (List.range m)
 have h3 := (one_of lo m).1
 have h4 := (one_of (hi + 1) m).1
 omega
theorem chg_not (p : Nat → Bool) (m : Nat) : chgS (fun c => !p c) m ≤ chgS p m + 1 := by
 have h1 : chgS (fun c => !p c) m ≤ chgS p m + ((List.range m).filter (fun c => c == 0)).length := by
  unfold chgS
  refine filter_or_le (fun c hc => ?_) _
  by_cases h0 : 0 < c
  ·left
   unfold bdS at hc ⊢
   simp only [h0, decide_true, Bool.true_and] at hc ⊢
   cases h1 : p c <;> cases h2 : p (c - 1) <;> simp [h1, h2] at hc ⊢
  ·right
   simp
   omega
 have := (one_of 0 m).1
 omega
theorem chg_none (m : Nat) : chgS (fun _ => false) m = 0 := by
 unfold chgS
 rw [List.length_eq_zero_iff, List.filter_eq_nil_iff]
 intro c _
 unfold bdS
 simp
theorem cuts_chg (p : Nat → Bool) : (cutsOf p).length ≤ chgS p 256 := spans_chg p 256 (Nat.le_refl _)
theorem show_chg (p : Nat → Bool) : (showS p).length ≤ 9 * chgS p 256 + 12 := by
 have h1 := piecesS_len (cutsOf p)
 have h2 := piecesS_len (cutsOf (fun c => !p c))
 have h3 := cuts_chg p
 have h4 := cuts_chg (fun c => !p c)
 have h5 := chg_not p 256
 unfold showS
 split
 ·simp; omega
 ·simp; omega
theorem set_chg (p : Nat → Bool) : (setT p).length ≤ 9 * chgS p 256 + 12 := by
 unfold setT
 split
 ·have := litS_len ((elems p 256).headD 0); omega
 split
 ·simp
 ·exact show_chg p
theorem charS_more {bs : List Nat} (hb : ∀ x ∈ bs, x < 256) {s i c j : Nat} (h : charS bs s i = .ok (c, j)) : i < j := by
 unfold charS at h
 split at h
 ·cases h
 split at h
 ·split at h
  ·rename_i x he
   cases h
   exact (escS_some hb he).1
  ·cases h
 split at h
 ·cases h
 ·cases h
  omega
theorem itemS_more {bs : List Nat} (hb : ∀ x ∈ bs, x < 256) {s i lo hi j : Nat} (h : itemS bs s i = .ok (lo, hi, j)) : i < j := by
 unfold itemS at h
 cases h1 : charS bs s i with
 | error e => rw [h1] at h; cases h
 | ok x =>
  obtain ⟨c, m⟩ := x
  have m1 := charS_more hb h1
  rw [h1] at h
  dsimp only at h
  split at h
  ·cases h2 : charS bs s (m + 1) with
   | error e => rw [h2] at h; cases h
   | ok y =>
    obtain ⟨c2, m2⟩ := y
    have m3 := charS_more hb h2
    rw [h2] at h
    dsimp only at h
    split at h
    ·cases h
    ·cases h
     omega
  ·cases h
   omega
theorem items_chg {bs : List Nat} (hb : ∀ x ∈ bs, x < 256) {s : Nat} : ∀ {f i : Nat} {p q : Nat → Bool} {j : Nat}, itemsS bs s f i p = .ok (q, j) → i + 2 ≤ j ∧ chgS q 256 + 2 ≤ chgS p 256 + 2 * (j - i)
 | 0, i, p, q, j, h => by cases h
 | f + 1, i, p, q, j, h => by
  cases hi : itemS bs s i with
  | error e => rw [itemsS_bad hi] at h; cases h
  | ok x =>
   obtain ⟨lo, hi', k⟩ := x
   have hk := itemS_more hb hi
   have hc := chg_more p lo hi' 256
   rw [itemsS_ok hi] at h
   cases h93 : hasAt bs (k : Int) 93
   ·rw [restS_go h93] at h
    have := items_chg hb h
    omega
   ·rw [restS_end h93] at h
    cases h
    omega
theorem read_chg {bs : List Nat} (hb : ∀ x ∈ bs, x < 256) {i : Nat} {q : Nat → Bool} {j : Nat} (h : readS bs (i : Int) = .ok (q, j)) : i + 3 ≤ j ∧ chgS q 256 ≤ 2 * (j - i) := by
 cases h1 : hasAt bs (i : Int) 91
 ·rw [readS_no h1] at h; cases h
 cases h2 : hasAt bs ((i : Int) + 1) 94
 ·rw [readS_plain h1 h2] at h
  have := items_chg hb h
  have h0 := chg_none 256
  rw [h0] at this
  omega
 ·rw [readS_turned h1 h2] at h
  cases h3 : itemsS bs i (bs.length + 1) (i + 2) (fun _ => false) with
  | error e => rw [h3] at h; cases h
  | ok x =>
   obtain ⟨r, k⟩ := x
   have := items_chg hb h3
   have h0 := chg_none 256
   rw [h0] at this
   rw [h3] at h
   have h4 := Prod.mk.inj (Except.ok.inj h)
   have h5 := chg_not r 256
   rw [← h4.1]
   omega
theorem among_chg (c : Nat) : (setT (among [c] 1)).length ≤ 39 := by
 have h1 : chgS (among [c] 1) 256 ≤ 2 := by
  have h2 := chg_more (fun _ => false) c c 256
  rw [chg_none] at h2
  have e : (fun k => false || between c c k) = among [c] 1 := by
   funext k
   unfold between among
   simp
   rw [Bool.eq_iff_iff]
   simp
   omega
  rw [e] at h2
  omega
 have := set_chg (among [c] 1)
 omega
theorem dot_chg : (setT dotSet).length ≤ 39 := by
 have h : setT dotSet = [46] := by decide +kernel
 rw [h]
 decide
theorem text_one (x : Lex) (h1 : x.kind ≠ 1) : (textS x).length ≤ 11 := by
 unfold textS
 rw [if_neg h1]
 split
 ·exact repT_len _ _
 ·repeat' split
  all_goals simp
theorem text_set1 (x : Lex) (h1 : x.kind = 1) : textS x = setT x.set := by unfold textS; rw [if_pos h1]
theorem lex_text {bs : List Nat} (hb : ∀ x ∈ bs, x < 256) {i : Nat} (hi : i < bs.length) {x : Lex} {j : Nat} (h : lexS bs i = .ok (x, j)) : i < j ∧ (textS x).length ≤ 65 * (j - i) := by
 have hij := (lexS_some hb hi h).1
 refine ⟨hij, ?_⟩
 by_cases h1 : x.kind = 1
 ·rw [text_set1 x h1]
  unfold lexS at h
  split at h
  ·cases h
   have := dot_chg
   show (setT dotSet).length ≤ _
   omega
  split at h
  ·split at h
   ·cases h
    rename_i c he
    have := among_chg c
    show (setT (among [c] 1)).length ≤ _
    omega
   ·cases h
  split at h
  ·split at h
   ·rename_i p j' hr
    cases h
    have h2 := read_chg hb hr
    have h3 := set_chg p
    show (setT p).length ≤ _
    omega
   ·cases h
  split at h
  ·exfalso
   unfold repS at h
   repeat' split at h
   all_goals first | (cases h; done) | (cases h; exact absurd (show (8 : Int) = 1 from h1) (by decide))
  split at h
  ·cases h
  split at h
  ·cases h
   exfalso
   have h2 : signKind (byteAt bs i) = 1 := h1
   unfold signKind at h2
   repeat' split at h2
   all_goals omega
  ·cases h
   have := among_chg (byteAt bs i)
   show (setT (among [byteAt bs i] 1)).length ≤ _
   omega
 ·have := text_one x h1
  omega
theorem seg_text {bs : List Nat} (hb : ∀ x ∈ bs, x < 256) : ∀ {M : List Lex} {i k : Nat}, Seg bs i M k → i ≤ k ∧ wS (fun y => (textS y).length) M ≤ 65 * (k - i)
 | [], i, k, h => by
  cases h
  exact ⟨Nat.le_refl _, Nat.zero_le _⟩
 | x :: M, i, k, ⟨hi, j, hx, h⟩ => by
  obtain ⟨h1, h2⟩ := lex_text hb hi hx
  obtain ⟨h3, h4⟩ := seg_text hb h
  rw [wS_cons]
  exact ⟨by omega, by omega⟩
theorem elems_like {p q : Nat → Bool} (h : ∀ c, c < 256 → p c = q c) : elems p 256 = elems q 256 := by
 unfold elems
 exact List.filter_congr (fun c hc => h c (List.mem_range.1 hc))
theorem setT_like {p q : Nat → Bool} (h : ∀ c, c < 256 → p c = q c) : setT p = setT q := by
 have h1 := elems_like h
 have h2 := elems_like (p := fun c => !p c) (q := fun c => !q c) (fun c hc => by rw [h c hc])
 have h3 : sameSet p dotSet = sameSet q dotSet := by
  unfold sameSet
  rw [word_as h 0 (by decide), word_as h 1 (by decide), word_as h 2 (by decide), word_as h 3 (by decide)]
 unfold setT showS isTurned cutsOf
 rw [h1, h2, h3]
theorem weigh_text : Weigh (fun y => (textS y).length) := by
 refine ⟨fun y hy => ?_, fun y h2 h7 => ?_, fun y hy => ?_⟩
 ·rw [text_set1 _ hy, text_set1 _ rfl]
  refine Nat.le_of_eq (congrArg List.length (setT_like fun c hc => ?_))
  show (maskOf y.set).testBit c = y.set c
  unfold maskOf
  rw [testBit_ofBits]
  simp [hc]
 ·refine Nat.le_of_eq (congrArg List.length ?_)
  have e1 : ¬ y.kind = 1 := by omega
  have e8 : ¬ y.kind = 8 := by omega
  unfold textS lexK
  simp only [e1, e8, if_false]
 ·refine Nat.le_of_eq (congrArg List.length ?_)
  unfold textS
  simp only
  rw [if_neg (by decide), if_pos trivial, if_neg (by omega), if_pos hy]
theorem joinS_wS (L : List Lex) : (joinS L).length = wS (fun y => (textS y).length) L := by
 unfold joinS wS
 rw [List.length_flatMap]
end Go.Proofs.YtfekpkelmliejaaGreatDoor
