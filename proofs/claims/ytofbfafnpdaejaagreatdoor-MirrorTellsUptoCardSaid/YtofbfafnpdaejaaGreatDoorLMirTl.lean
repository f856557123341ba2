/- Texts of the claim. -/
import Derived.Test.YtofbfafnpdaejaaGreatDoorLZ04
namespace Go.Proofs.YtofbfafnpdaejaaGreatDoor
open Go.RowKit
set_option linter.unusedSimpArgs false
set_option linter.unusedVariables false
set_option maxRecDepth 100000
set_option maxHeartbeats 8000000
inductive Way (N : NfaV) : Int → List Nat → Int → Prop
 | nil (s : Int) : Way N s [] s
 | link {s t r : Int} {u : List Nat} : (s, t) ∈ N.links → Way N t u r → Way N s u r
 | edge {s t r : Int} {c b : Nat} {u : List Nat} : (s, c, t) ∈ N.edges → c.testBit b = true → Way N t u r → Way N s (b :: u) r
theorem Way.trans {N : NfaV} {s t r : Int} {u v : List Nat} (h : Way N s u t) (g : Way N t v r) : Way N s (u ++ v) r := by
 induction h with
 | nil s => exact g
 | link h1 _ ih => exact .link h1 (ih g)
 | edge h1 h2 _ ih => exact .edge h1 h2 (ih g)
theorem Way.last {N : NfaV} {s r : Int} {w : List Nat} (h : Way N s w r) : ∀ {v : List Nat} {b : Nat}, w = v ++ [b] → ∃ m c t, Way N s v m ∧ (m, c, t) ∈ N.edges ∧ c.testBit b = true ∧ Way N t [] r := by
 induction h with
 | nil s => intro v b e; simp at e
 | link h1 _ ih =>
  intro v b e
  obtain ⟨m, c, t, g1, g2⟩ := ih e
  exact ⟨m, c, t, .link h1 g1, g2⟩
 | @edge s t r c b' u h1 h2 h3 ih =>
  intro v b e
  cases v with
  | nil =>
   simp at e
   obtain ⟨rfl, rfl⟩ := e
   exact ⟨s, c, t, .nil s, h1, h2, h3⟩
  | cons a v =>
   simp at e
   obtain ⟨rfl, e⟩ := e
   obtain ⟨m, c', t', g1, g2⟩ := ih e
   exact ⟨m, c', t', .edge h1 h2 g1, g2⟩
theorem leads_way {N : NfaV} {P : Int → Prop} {x : Int} : Leads N.links P x ↔ ∃ s, P s ∧ Way N s [] x := by
 constructor
 ·intro h
  induction h with
  | here hs => exact ⟨_, hs, .nil _⟩
  | @link a b _ hk ih =>
   obtain ⟨s, h1, h2⟩ := ih
   have := h2.trans (.link hk (.nil b))
   exact ⟨s, h1, this⟩
 ·rintro ⟨s, h1, h2⟩
  have key : ∀ {s r : Int} {w : List Nat}, Way N s w r → w = [] → Leads N.links P s → Leads N.links P r := by
   intro s r w h
   induction h with
   | nil s => exact fun _ h => h
   | link h1 _ ih => exact fun e h => ih e (.link h h1)
   | edge _ _ _ _ => exact fun e => by simp at e
  exact key h2 rfl (.here h1)
def Sane (N : NfaV) : Prop := (0 ≤ N.start ∧ N.start < N.states) ∧ ∀ s c t, (s, c, t) ∈ N.edges → 0 ≤ t ∧ t < N.states
theorem run_way {N : NfaV} (hN : Sane N) {u : List Nat} {L : List Int} (h : RunOf N u L) : ∀ x, x ∈ L ↔ Way N N.start u x := by
 induction h with
 | nil h1 =>
  intro x
  rw [h1.2 x, leads_way]
  constructor
  ·rintro ⟨s, ⟨h2, _⟩, h3⟩
   simp at h2
   rw [← h2]
   exact h3
  ·exact fun h => ⟨N.start, ⟨by simp, hN.1⟩, h⟩
 | snoc h1 hs ih =>
  intro x
  obtain ⟨O, hO, hc⟩ := hs
  rw [hc.2 x, leads_way]
  constructor
  ·rintro ⟨s, ⟨h2, _⟩, h3⟩
   obtain ⟨⟨m, c, t⟩, h4, h5, h6, h7⟩ := (hO s).1 h2
   have h8 : t = s := h7
   subst h8
   have := ((ih m).1 h5).trans (.edge h4 h6 h3)
   exact this
  ·intro h
   obtain ⟨m, c, t, g1, g2, g3, g4⟩ := h.last rfl
   exact ⟨t, ⟨(hO t).2 ⟨(m, c, t), g2, (ih m).2 g1, g3, rfl⟩, hN.2 m c t g2⟩, g4⟩
theorem Way.turn {N M : NfaV} (hl : ∀ s t, (s, t) ∈ N.links → (t, s) ∈ M.links) (he : ∀ s c t, (s, c, t) ∈ N.edges → (t, c, s) ∈ M.edges) {s r : Int} {u : List Nat} (h : Way N s u r) : Way M r u.reverse s := by
 induction h with
 | nil s => exact .nil s
 | link h1 _ ih =>
  have := ih.trans (.link (hl _ _ h1) (.nil _))
  rw [List.append_nil] at this
  exact this
 | edge h1 h2 _ ih =>
  rw [List.reverse_cons]
  exact ih.trans (.edge (he _ _ _ h1) h2 (.nil _))
theorem rightN_parts {N : NfaV} (h : rightN N = true) : (0 ≤ N.start ∧ N.start < N.states) ∧ (N.accept.length : Int) = N.states ∧ (∀ s t, (s, t) ∈ N.links → (0 ≤ s ∧ s < N.states) ∧ 0 ≤ t ∧ t < N.states) ∧ ∀ s c t, (s, c, t) ∈ N.edges → (0 ≤ s ∧ s < N.states) ∧ 0 ≤ t ∧ t < N.states := by
 unfold rightN at h
 simp only [Bool.and_eq_true, decide_eq_true_eq, List.all_eq_true] at h
 obtain ⟨_, h2, h3, h4, h5, _⟩ := h
 refine ⟨by simpa [isB] using h2, h3, fun s t hm => ?_, fun s c t hm => ?_⟩
 ·have := h4 _ hm
  simpa [linkB, isB] using this
 ·have := h5 _ hm
  simpa [edgeB, isB] using this
theorem mark_iff {N : NfaV} {label : Int} {p : Int × Int} : p ∈ markTo N label N.accept.length ↔ ∃ s : Nat, N.accept[s]? = some label ∧ p = (N.states, (s : Int)) := by
 unfold markTo
 simp only [List.mem_map, List.mem_filter, List.mem_range, beq_iff_eq]
 constructor
 ·rintro ⟨s, ⟨_, h2⟩, rfl⟩
  exact ⟨s, h2, rfl⟩
 ·rintro ⟨s, h2, rfl⟩
  exact ⟨s, ⟨(List.getElem?_eq_some_iff.1 h2).1, h2⟩, rfl⟩
theorem mir_link {N : NfaV} {label : Int} {s t : Int} : (s, t) ∈ (mirV N label).links ↔ (t, s) ∈ N.links ∨ (s = N.states ∧ ∃ m : Nat, N.accept[m]? = some label ∧ t = (m : Int)) := by
 show (s, t) ∈ N.links.map flipL ++ markTo N label N.accept.length ↔ _
 rw [List.mem_append, mark_iff, List.mem_map]
 constructor
 ·rintro (⟨⟨a, b⟩, h1, h2⟩ | ⟨m, h1, h2⟩)
  ·simp [flipL] at h2
   obtain ⟨rfl, rfl⟩ := h2
   exact .inl h1
  ·simp at h2
   exact .inr ⟨h2.1, m, h1, h2.2⟩
 ·rintro (h | ⟨rfl, m, h1, rfl⟩)
  ·exact .inl ⟨(t, s), h, rfl⟩
  ·exact .inr ⟨m, h1, rfl⟩
theorem mir_edge {N : NfaV} {label : Int} {s t : Int} {c : Nat} : (s, c, t) ∈ (mirV N label).edges ↔ (t, c, s) ∈ N.edges := by
 show (s, c, t) ∈ N.edges.map flipE ↔ _
 rw [List.mem_map]
 constructor
 ·rintro ⟨⟨a, c', b⟩, h1, h2⟩
  simp [flipE] at h2
  obtain ⟨rfl, rfl, rfl⟩ := h2
  exact h1
 ·exact fun h => ⟨(t, c, s), h, rfl⟩
theorem mir_sane {N : NfaV} {label : Int} (h : rightN N = true) : Sane (mirV N label) := by
 obtain ⟨h1, h2, h3, h4⟩ := rightN_parts h
 refine ⟨⟨?_, ?_⟩, fun s c t hm => ?_⟩
 ·show 0 ≤ N.states
  omega
 ·show N.states < N.states + 1
  omega
 ·have := h4 _ _ _ (mir_edge.1 hm)
  show 0 ≤ t ∧ t < N.states + 1
  omega
theorem right_sane {N : NfaV} (h : rightN N = true) : Sane N := ⟨(rightN_parts h).1, fun s c t hm => ((rightN_parts h).2.2.2 s c t hm).2⟩
theorem mir_back {N : NfaV} {label : Int} (h : rightN N = true) {s r : Int} {u : List Nat} (hw : Way (mirV N label) s u r) (hs : s < N.states) : Way N r u.reverse s := by
 obtain ⟨h1, h2, h3, h4⟩ := rightN_parts h
 induction hw with
 | nil s => exact .nil s
 | link hl _ ih =>
  rcases mir_link.1 hl with h5 | ⟨rfl, _⟩
  ·have := (ih (h3 _ _ h5).1.2).trans (.link h5 (.nil _))
   rw [List.append_nil] at this
   exact this
  ·omega
 | edge he hb _ ih =>
  have h5 := mir_edge.1 he
  rw [List.reverse_cons]
  exact (ih (h4 _ _ _ h5).1.2).trans (.edge h5 hb (.nil _))
theorem mir_way {N : NfaV} {label : Int} (h : rightN N = true) (u : List Nat) : Way (mirV N label) N.states u.reverse N.start ↔ ∃ m : Nat, N.accept[m]? = some label ∧ Way N N.start u (m : Int) := by
 obtain ⟨h1, h2, h3, h4⟩ := rightN_parts h
 constructor
 ·intro hw
  have key : ∀ {s r : Int} {v : List Nat}, Way (mirV N label) s v r → s = N.states → r ≠ N.states → ∃ m : Nat, N.accept[m]? = some label ∧ Way (mirV N label) (m : Int) v r := by
   intro s r v hw hs hr
   cases hw with
   | nil => exact absurd hs hr
   | link hl hw' =>
    rcases mir_link.1 hl with h5 | ⟨_, m, h6, rfl⟩
    ·have := (h3 _ _ h5).2
     omega
    ·exact ⟨m, h6, hw'⟩
   | edge he hb hw' =>
    have := (h4 _ _ _ (mir_edge.1 he)).2
    omega
  obtain ⟨m, h5, h6⟩ := key hw rfl (by omega)
  have hm : (m : Int) < N.states := by
   have := (List.getElem?_eq_some_iff.1 h5).1
   omega
  have := mir_back h h6 hm
  rw [List.reverse_reverse] at this
  exact ⟨m, h5, this⟩
 ·rintro ⟨m, h5, h6⟩
  refine .link (mir_link.2 (.inr ⟨rfl, m, h5, rfl⟩)) (h6.turn (fun s t hl => mir_link.2 (.inl hl)) (fun s c t he => mir_edge.2 he))
theorem mir_accept {N : NfaV} {label : Int} (h : rightN N = true) {m : Nat} {x : Int} : (mirV N label).accept[m]? = some x ∧ x ≠ 0 ↔ (m : Int) = N.start ∧ x = 1 := by
 obtain ⟨h1, h2, _⟩ := rightN_parts h
 show ((List.replicate (N.states.toNat + 1) (0 : Int)).set N.start.toNat 1)[m]? = some x ∧ x ≠ 0 ↔ _
 rw [List.getElem?_set]
 by_cases hm : N.start.toNat = m
 ·rw [if_pos hm, if_pos (by rw [List.length_replicate]; omega)]
  constructor
  ·rintro ⟨e, _⟩
   simp at e
   exact ⟨by omega, e.symm⟩
  ·rintro ⟨_, rfl⟩
   exact ⟨rfl, by decide⟩
 ·rw [if_neg hm]
  constructor
  ·rintro ⟨e, hx⟩
   rw [List.getElem?_replicate] at e
   split at e
   ·simp at e
    exact absurd e.symm hx
   ·simp at e
  ·rintro ⟨e, _⟩
   omega
theorem mir_tells {N : NfaV} {label : Int} (h : rightN N = true) (hl : 1 ≤ label) {u : List Nat} {L R : List Int} (hL : RunOf N u L) (hR : IsLabels N L R) {x : Int} (hx : TellOf (mirV N label) u.reverse x) : x = 1 ↔ label ∈ R := by
 obtain ⟨L', R', h1, h2, rfl⟩ := hx
 have hrun := run_way (mir_sane (label := label) h) h1
 have hones : ∀ y ∈ R', y = 1 := fun y hy => by
  obtain ⟨h3, m, _, h4⟩ := (h2.2 y).1 hy
  exact ((mir_accept h).1 ⟨h4, h3⟩).2
 have hhead : R'.headD 0 = 1 ↔ (1 : Int) ∈ R' := by
  cases R' with
  | nil => simp
  | cons y l =>
   have := hones y (by simp)
   subst this
   simp
 obtain ⟨g1, g2, _⟩ := rightN_parts h
 have hone : (1 : Int) ∈ R' ↔ N.start ∈ L' := by
  rw [h2.2 1]
  constructor
  ·rintro ⟨h3, m, hm, h4⟩
   rw [← ((mir_accept h).1 ⟨h4, h3⟩).1]
   exact hm
  ·intro hm
   refine ⟨by decide, N.start.toNat, by rw [show ((N.start.toNat : Nat) : Int) = N.start by omega]; exact hm, ?_⟩
   exact ((mir_accept (m := N.start.toNat) (x := 1) h).2 ⟨by omega, rfl⟩).1
 rw [hhead, hone, hrun, show (mirV N label).start = N.states from rfl, mir_way h, hR.2 label]
 constructor
 ·rintro ⟨m, h3, h4⟩
  exact ⟨by omega, m, (run_way (right_sane h) hL m).2 h4, h3⟩
 ·rintro ⟨_, m, h3, h4⟩
  exact ⟨m, h4, (run_way (right_sane h) hL m).1 h3⟩
end Go.Proofs.YtofbfafnpdaejaaGreatDoor
