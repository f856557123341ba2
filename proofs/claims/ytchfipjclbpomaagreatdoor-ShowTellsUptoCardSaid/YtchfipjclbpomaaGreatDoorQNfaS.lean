/-
  The machine of trees in plain words, and what a tree adds to a machine.
-/
import Derived.Test.YtchfipjclbpomaaGreatDoorQNfaW
namespace Go.Proofs.YtchfipjclbpomaaGreatDoor
open Go.RowKit
set_option linter.unusedSimpArgs false
set_option linter.unusedVariables false
set_option maxRecDepth 100000

/-- A machine: its states' labels, its links, its edges (from, set, to). -/
structure MachS where
  accept : List Nat
  links : List (Nat × Nat)
  edges : List (Nat × Nat × Nat)
def MachS.states (m : MachS) : Nat := m.accept.length
def MachS.state (m : MachS) (label : Nat) : MachS := ⟨m.accept ++ [label], m.links, m.edges⟩
def MachS.link (m : MachS) (a b : Nat) : MachS := ⟨m.accept, m.links ++ [(a, b)], m.edges⟩
def MachS.edge (m : MachS) (a s b : Nat) : MachS := ⟨m.accept, m.links, m.edges ++ [(a, s, b)]⟩
/-- How a tree is laid: the machine, and the end. -/
abbrev LayF := MachS → Nat → MachS × Nat
def noF : LayF := fun m i => (m, i)
def catF : List LayF → LayF
  | [], m, i => (m, i)
  | f :: l, m, i => catF l (f m i).1 (f m i).2
def altF : List LayF → MachS → Nat → MachS × List Nat
  | [], m, _ => (m, [])
  | f :: l, m, i => ((altF l (f m i).1 i).1, (f m i).2 :: (altF l (f m i).1 i).2)
def linksF (t : Nat) : List Nat → MachS → MachS
  | [], m => m
  | e :: l, m => linksF t l (m.link e t)
def barF (fs : List LayF) : LayF := fun m i => (linksF (altF fs m i).1.states (altF fs m i).2 ((altF fs m i).1.state 0), (altF fs m i).1.states)
def loopF (plus : Bool) (f : LayF) : LayF := fun m i =>
  ((f ((m.state 0).link i m.states) m.states).1.link (f ((m.state 0).link i m.states) m.states).2 m.states, if plus = true then (f ((m.state 0).link i m.states) m.states).2 else m.states)
def optF (f : LayF) : LayF := fun m i => ((((f m i).1.state 0).link (f m i).2 (f m i).1.states).link i (f m i).1.states, (f m i).1.states)
def timesF (f : LayF) : Nat → LayF
  | 0, m, i => (m, i)
  | k + 1, m, i => timesF f k (f m i).1 (f m i).2
def optsF (f : LayF) (t : Nat) : Nat → LayF
  | 0, m, i => (m, i)
  | k + 1, m, i => optsF f t k (f (m.link i t) i).1 (f (m.link i t) i).2
/-- A tree so often, to an end of its own. -/
def upF (f : LayF) (k : Nat) : LayF := fun m i => ((optsF f m.states k (m.state 0) i).1.link (optsF f m.states k (m.state 0) i).2 m.states, m.states)
def repF (n : Nat) (lo hi : Int) (f : LayF) : LayF := fun m i =>
  if n = 0 then (m, i)
  else if hi < 0 then loopF false f (timesF f lo.toNat m i).1 (timesF f lo.toNat m i).2
  else if hi = lo then timesF f lo.toNat m i
  else upF f (hi - lo).toNat (timesF f lo.toNat m i).1 (timesF f lo.toNat m i).2
def setF (s : Nat) : LayF := fun m i => ((m.state 0).edge i s m.states, m.states)
def nilF : LayF := fun m _ => (m.state 0, m.states)
/-- How a node is laid, its kids being laid so; n: what the first one takes. -/
def layK (k : Int) (s : Nat) (lo hi : Int) (fs : List LayF) (n : Nat) : LayF :=
  if k = 2 then noF
  else if k = 3 then setF s
  else if k = 4 then catF fs
  else if k = 5 then barF fs
  else if k = 6 then loopF false (fs.headD noF)
  else if k = 7 then loopF true (fs.headD noF)
  else if k = 8 then optF (fs.headD noF)
  else if k = 9 then repF n lo hi (fs.headD noF)
  else nilF
def Trees.headW : Trees → Nat
  | .nil => 0
  | .cons k _ ks lo hi _ => wgtK k lo hi (min topN ks.wsum)
def Trees.lays : Trees → List LayF
  | .nil => []
  | .cons k s ks lo hi r => layK k s lo hi ks.lays ks.headW :: r.lays
def Nd.lay (x : Nd) : LayF := layK x.kind x.set x.lo x.hi x.kids.lays x.kids.headW
/-! What is added. -/
theorem repl_add (n k : Nat) : List.replicate (n + k) 0 = List.replicate n 0 ++ List.replicate k (0 : Nat) := by
  induction n with
  | zero => simp
  | succ n ih => rw [Nat.succ_add, List.replicate_succ, List.replicate_succ, ih]; rfl
def NewS (m : MachS) (i n a : Nat) : Prop := a = i ∨ m.states ≤ a ∧ a < m.states + n
/-- From a place of a machine on, n states were added, none labelled, and c links and edges at most, to new states, from new ones or that place. -/
def Adds (m : MachS) (i n c : Nat) (m' : MachS) (e : Nat) : Prop :=
  ∃ L E, m' = ⟨m.accept ++ List.replicate n 0, m.links ++ L, m.edges ++ E⟩ ∧ (∀ p ∈ L, NewS m i n p.1 ∧ m.states ≤ p.2 ∧ p.2 < m.states + n) ∧
    (∀ p ∈ E, NewS m i n p.1 ∧ m.states ≤ p.2.2 ∧ p.2.2 < m.states + n) ∧ NewS m i n e ∧ L.length + E.length ≤ c
theorem Adds.states {m m' : MachS} {i n c e : Nat} (h : Adds m i n c m' e) : m'.states = m.states + n := by
  obtain ⟨L, E, rfl, _⟩ := h
  simp [MachS.states]
theorem Adds.new {m m' : MachS} {i n c e : Nat} (h : Adds m i n c m' e) : NewS m i n e := by
  obtain ⟨L, E, _, _, _, h, _⟩ := h
  exact h
theorem Adds.more {m m' : MachS} {i n c c' e : Nat} (h : Adds m i n c m' e) (hc : c ≤ c') : Adds m i n c' m' e := by
  obtain ⟨L, E, h0, h1, h2, h3, h4⟩ := h
  exact ⟨L, E, h0, h1, h2, h3, by omega⟩
theorem Adds.zero (m : MachS) (i : Nat) : Adds m i 0 0 m i := ⟨[], [], by simp, by simp, by simp, .inl rfl, by simp⟩
theorem Adds.then {m m1 m2 : MachS} {i n c e1 j n' c' e2 : Nat} (h : Adds m i n c m1 e1) (h' : Adds m1 j n' c' m2 e2) (hj : NewS m i n j) : Adds m i (n + n') (c + c') m2 e2 := by
  have hs := h.states
  obtain ⟨L, E, rfl, h1, h2, h3, h4⟩ := h
  obtain ⟨L', E', rfl, g1, g2, g3, g4⟩ := h'
  unfold NewS at *
  refine ⟨L ++ L', E ++ E', ?_, ?_, ?_, ?_, ?_⟩
  · simp only [repl_add, List.append_assoc]
  · intro p hp
    rcases List.mem_append.1 hp with hp | hp
    · have := h1 p hp; unfold NewS; omega
    · have := g1 p hp; unfold NewS; omega
  · intro p hp
    rcases List.mem_append.1 hp with hp | hp
    · have := h2 p hp; unfold NewS; omega
    · have := g2 p hp; unfold NewS; omega
  · unfold NewS; omega
  · simp; omega
theorem Adds.state {m m' : MachS} {i n c e : Nat} (h : Adds m i n c m' e) : Adds m i (n + 1) c (m'.state 0) m'.states := by
  have hs := h.states
  obtain ⟨L, E, h0, h1, h2, h3, h4⟩ := h
  refine ⟨L, E, ?_, fun p hp => ?_, fun p hp => ?_, ?_, h4⟩
  · rw [h0]
    simp only [MachS.state, repl_add, List.append_assoc]
    rfl
  · have := h1 p hp; unfold NewS at *; omega
  · have := h2 p hp; unfold NewS at *; omega
  · unfold NewS; omega
theorem Adds.link {m m' : MachS} {i n c e a b : Nat} (h : Adds m i n c m' e) (ha : NewS m i n a) (hb : m.states ≤ b) (hb2 : b < m.states + n) : Adds m i n (c + 1) (m'.link a b) e := by
  obtain ⟨L, E, rfl, h1, h2, h3, h4⟩ := h
  refine ⟨L ++ [(a, b)], E, by simp [MachS.link], fun p hp => ?_, h2, h3, by simp; omega⟩
  rcases List.mem_append.1 hp with hp | hp
  · exact h1 p hp
  · rw [List.mem_singleton.1 hp]; exact ⟨ha, hb, hb2⟩
theorem Adds.edge {m m' : MachS} {i n c e a s b : Nat} (h : Adds m i n c m' e) (ha : NewS m i n a) (hb : m.states ≤ b) (hb2 : b < m.states + n) : Adds m i n (c + 1) (m'.edge a s b) e := by
  obtain ⟨L, E, rfl, h1, h2, h3, h4⟩ := h
  refine ⟨L, E ++ [(a, s, b)], by simp [MachS.edge], h1, fun p hp => ?_, h3, by simp; omega⟩
  rcases List.mem_append.1 hp with hp | hp
  · exact h2 p hp
  · rw [List.mem_singleton.1 hp]; exact ⟨ha, hb, hb2⟩
/-! What nodes take, never stopped. -/
/-! A node that may be, by its kind. -/
theorem aloneN_kids {y : Nd} (h : aloneN y = true) : (6 ≤ y.kind → y.kind ≤ 9 → y.kids.len = 1) ∧ (y.kind = 9 → 0 ≤ y.lo ∧ (y.hi = -1 ∨ y.lo ≤ y.hi)) ∧ (y.kind < 4 → y.kids.len = 0) ∧ 1 ≤ y.kind ∧ y.kind ≤ 9 := by
  unfold aloneN aloneV at h
  by_cases h3 : y.kind = 3
  · rw [if_pos h3] at h
    simp at h
    omega
  rw [if_neg h3] at h
  split at h
  · cases h
  by_cases h9 : y.kind = 9
  · rw [if_pos h9] at h
    unfold timesB at h
    simp at h
    omega
  · rw [if_neg h9] at h
    by_cases k1 : y.kind = 1 ∨ y.kind = 2 ∨ y.kind = 3
    · have e : arityS y.kind = 0 := by unfold arityS; rw [if_pos k1]
      rw [e] at h
      simp at h
      omega
    by_cases k2 : y.kind = 4 ∨ y.kind = 5
    · have e : arityS y.kind = 2 := by unfold arityS; rw [if_neg k1, if_pos k2]
      rw [e] at h
      simp at h
      omega
    by_cases k3 : 6 ≤ y.kind ∧ y.kind ≤ 9
    · have e : arityS y.kind = 1 := by unfold arityS; rw [if_neg k1, if_neg k2, if_pos k3]
      rw [e] at h
      simp at h
      omega
    · have e : arityS y.kind = -1 := by unfold arityS; rw [if_neg k1, if_neg k2, if_neg k3]
      rw [e] at h
      simp at h
def Okays (F : Trees) : Prop := ∀ y ∈ F.nodes, aloneN y = true
/-! All trees. -/
end Go.Proofs.YtchfipjclbpomaaGreatDoor
