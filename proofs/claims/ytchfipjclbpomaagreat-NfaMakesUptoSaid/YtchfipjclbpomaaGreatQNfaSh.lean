/-
  What is said of the machine of trees, in plain words: its shape.
-/
import Derived.Test.YtchfipjclbpomaaGreatQNfaS
namespace Go.Proofs.YtchfipjclbpomaaGreat
open Go.RowKit
set_option linter.unusedSimpArgs false
set_option linter.unusedVariables false
set_option maxRecDepth 100000

/-- Links and edges lead from states without a label to states that are not the start. -/
def Shaped (m : MachS) : Prop :=
  (∀ p ∈ m.links, p.1 < m.states ∧ 0 < p.2 ∧ p.2 < m.states ∧ m.accept[p.1]? = some 0) ∧ (∀ p ∈ m.edges, p.1 < m.states ∧ 0 < p.2.2 ∧ p.2.2 < m.states ∧ m.accept[p.1]? = some 0) ∧ m.accept[0]? = some 0
/-- How labels are counted. -/
def countL : List Nat → Nat → Option Nat
  | [], k => some k
  | a :: r, k => if a = 0 then countL r k else if a = k then countL r (k + 1) else none
theorem countL_app : ∀ (xs ys : List Nat) (k : Nat), countL (xs ++ ys) k = (countL xs k).bind (countL ys)
  | [], ys, k => rfl
  | a :: r, ys, k => by
    simp only [List.cons_append, countL]
    split
    · exact countL_app r ys k
    split
    · exact countL_app r ys (k + 1)
    · rfl
theorem countL_zeros : ∀ (n k : Nat), countL (List.replicate n 0) k = some k
  | 0, k => rfl
  | n + 1, k => by rw [List.replicate_succ]; simp only [countL, if_true]; exact countL_zeros n k
/-- One tree more. -/
def layOne (x : Nd) (i : Nat) (m : MachS) : MachS := ((x.lay m 0).1.state (i + 1)).link (x.lay m 0).2 (x.lay m 0).1.states
theorem layAll_cons (x : Nd) (l : List Nd) (i : Nat) (m : MachS) : layAll (x :: l) i m = layAll l (i + 1) (layOne x i m) := rfl
theorem layAll_snoc (x : Nd) : ∀ (l : List Nd) (i : Nat) (m : MachS), layAll (l ++ [x]) i m = layOne x (i + l.length) (layAll l i m)
  | [], i, m => rfl
  | y :: l, i, m => by
    rw [List.cons_append, layAll_cons, layAll_cons, layAll_snoc x l]
    rw [List.length_cons, show i + 1 + l.length = i + (l.length + 1) by omega]
theorem lay_one {x : Nd} (h : rightT x = true) : AddsF x.lay x.wgtU (2 * x.wgtU * x.size) := by
  have ho : Okays (Trees.of [x]) := fun y hy => by
    unfold rightT at h
    rw [Bool.and_eq_true] at h
    refine List.all_eq_true.1 h.2 y ?_
    simpa [Trees.of, Trees.nodes, Nd.nodes] using hy
  exact lay_adds (Trees.of [x]) ho x (by rw [Trees.list_of]; simp)
structure Grown (m : MachS) (n c i : Nat) : Prop where
  states : m.states = n
  shaped : Shaped m
  count : countL m.accept 1 = some (i + 1)
  few : m.links.length + m.edges.length ≤ c
  label : ∀ a ∈ m.accept, a ≤ i
theorem getElem?_repl {a : List Nat} {n k e : Nat} (h : e < a.length + n) (h2 : a.length ≤ e) : (a ++ List.replicate n 0)[e]? = some 0 := by
  rw [List.getElem?_append_right h2, List.getElem?_replicate, if_pos (by omega)]
theorem grown_one {m : MachS} {n c i : Nat} (h : Grown m n c i) (hn : 0 < n) {x : Nd} (hx : rightT x = true) : Grown (layOne x i m) (n + x.wgtU + 1) (c + 2 * x.wgtU * x.size + 1) (i + 1) := by
  have ha := lay_one hx m 0
  unfold layOne
  generalize (x.lay m 0).1 = m1 at *
  generalize (x.lay m 0).2 = e at *
  generalize 2 * x.wgtU * x.size = k at *
  generalize x.wgtU = d at *
  have hs := ha.states
  have he := ha.new
  obtain ⟨L, E, rfl, h1, h2, h3, h4⟩ := ha
  obtain ⟨s0, ⟨s1, s2, s3⟩, s4, s5, s6⟩ := h
  simp only [MachS.states] at *
  have hz : ∀ p, NewS m 0 d p → p < n + d + 1 ∧ ((m.accept ++ List.replicate d 0) ++ [i + 1])[p]? = some 0 := by
    intro p hp
    unfold NewS MachS.states at hp
    rw [s0] at hp
    refine ⟨by omega, ?_⟩
    rcases hp with rfl | ⟨hp, hp2⟩
    · rw [List.getElem?_append_left (by simp; omega), List.getElem?_append_left (by omega)]
      exact s3
    · rw [List.getElem?_append_left (by simp; omega)]
      exact getElem?_repl (k := 0) (by omega) (by omega)
  have hold : ∀ p, p < n → m.accept[p]? = some 0 → ((m.accept ++ List.replicate d 0) ++ [i + 1])[p]? = some 0 := by
    intro p hp h0
    rw [List.getElem?_append_left (by simp; omega), List.getElem?_append_left (by omega)]
    exact h0
  refine ⟨?_, ⟨?_, ?_, ?_⟩, ?_, ?_, ?_⟩
  · simp [MachS.states, MachS.link, MachS.state]; omega
  · intro p hp
    simp only [MachS.link, MachS.state, MachS.states] at hp ⊢
    simp only [List.length_append, List.length_replicate, List.length_singleton]
    rcases List.mem_append.1 hp with hp | hp
    · rcases List.mem_append.1 hp with hp | hp
      · obtain ⟨a1, a2, a3, a4⟩ := s1 p hp
        exact ⟨by omega, a2, by omega, hold _ (by omega) a4⟩
      · obtain ⟨a1, a2, a3⟩ := h1 p hp
        obtain ⟨b1, b2⟩ := hz _ a1
        exact ⟨by omega, by omega, by omega, b2⟩
    · rw [List.mem_singleton.1 hp]
      obtain ⟨b1, b2⟩ := hz _ he
      exact ⟨by simp only; omega, by simp only; omega, by simp only; omega, b2⟩
  · intro p hp
    simp only [MachS.link, MachS.state, MachS.states] at hp ⊢
    simp only [List.length_append, List.length_replicate, List.length_singleton]
    rcases List.mem_append.1 hp with hp | hp
    · obtain ⟨a1, a2, a3, a4⟩ := s2 p hp
      exact ⟨by omega, a2, by omega, hold _ (by omega) a4⟩
    · obtain ⟨a1, a2, a3⟩ := h2 p hp
      obtain ⟨b1, b2⟩ := hz _ a1
      exact ⟨by omega, by omega, by omega, b2⟩
  · exact hold 0 (by omega) s3
  · simp only [MachS.link, MachS.state]
    rw [countL_app, countL_app, s4]
    simp only [Option.bind_some]
    rw [countL_zeros]
    simp [countL]
  · simp [MachS.link, MachS.state]; omega
  · intro a ha
    simp only [MachS.link, MachS.state] at ha
    rcases List.mem_append.1 ha with ha | ha
    · rcases List.mem_append.1 ha with ha | ha
      · have := s6 a ha; omega
      · have := (List.mem_replicate.1 ha).2; omega
    · rw [List.mem_singleton.1 ha]; omega
def cAll (l : List Nd) : Nat := (l.map fun x => 2 * x.wgtU * x.size + 1).sum
theorem grown_all : ∀ (l : List Nd) {m : MachS} {n c i : Nat}, Grown m n c i → 0 < n → (∀ x ∈ l, rightT x = true) → Grown (layAll l i m) (n + wAll l) (c + cAll l) (i + l.length)
  | [], m, n, c, i, h, _, _ => by simpa [layAll, wAll, cAll] using h
  | x :: l, m, n, c, i, h, hn, hr => by
    rw [layAll_cons]
    have h1 := grown_one h hn (hr x (by simp))
    have h2 := grown_all l h1 (by omega) (fun y hy => hr y (by simp [hy]))
    have e1 : n + x.wgtU + 1 + wAll l = n + wAll (x :: l) := by simp [wAll]; omega
    have e2 : c + 2 * x.wgtU * x.size + 1 + cAll l = c + cAll (x :: l) := by simp [cAll]; omega
    have e3 : i + 1 + l.length = i + (x :: l).length := by simp; omega
    rw [← e1, ← e2, ← e3]
    exact h2
theorem grown_mach {l : List Nd} (hr : ∀ x ∈ l, rightT x = true) : Grown (machS l) (1 + wAll l) (cAll l) l.length := by
  have h0 : Grown ⟨[0], [], []⟩ 1 0 0 := ⟨rfl, ⟨by simp, by simp, rfl⟩, rfl, by simp, by simp⟩
  have := grown_all l h0 (by decide) hr
  simpa [machS] using this
theorem cAll_le : ∀ (l : List Nd), (∀ x ∈ l, x.size ≤ 4096) → cAll l ≤ 8192 * wAll l
  | [], _ => by simp [cAll, wAll]
  | x :: l, h => by
    have := cAll_le l (fun y hy => h y (by simp [hy]))
    have hx := h x (by simp)
    have hm : 2 * x.wgtU * x.size ≤ 2 * x.wgtU * 4096 := Nat.mul_le_mul_left _ hx
    simp only [cAll, wAll, List.map_cons, List.sum_cons] at *
    omega
theorem rightT_size {x : Nd} (h : rightT x = true) : x.size ≤ 4096 := by
  unfold rightT at h
  rw [Bool.and_eq_true, decide_eq_true_eq] at h
  rw [← x.nodes_len]
  exact h.1
end Go.Proofs.YtchfipjclbpomaaGreat
