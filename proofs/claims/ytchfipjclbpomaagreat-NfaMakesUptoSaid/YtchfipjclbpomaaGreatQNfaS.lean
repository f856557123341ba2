/-
  The machine of trees in plain words, and what a tree adds to a machine.
-/
import Derived.Test.YtchfipjclbpomaaGreatQZ03
namespace Go.Proofs.YtchfipjclbpomaaGreat
open Go.RowKit
set_option linter.unusedSimpArgs false
set_option linter.unusedVariables false
set_option maxRecDepth 100000

/-- A machine: its states' labels, its links, its edges (from, set, to). -/
structure MachS where
  accept : List Nat
  links : List (Nat × Nat)
  edges : List (Nat × Nat × Nat)
def MachS.states (m : MachS) : Nat := m.accept.length
def MachS.state (m : MachS) (label : Nat) : MachS := ⟨m.accept ++ [label], m.links, m.edges⟩
def MachS.link (m : MachS) (a b : Nat) : MachS := ⟨m.accept, m.links ++ [(a, b)], m.edges⟩
def MachS.edge (m : MachS) (a s b : Nat) : MachS := ⟨m.accept, m.links, m.edges ++ [(a, s, b)]⟩
/-- How a tree is laid: the machine, and the end. -/
abbrev LayF := MachS → Nat → MachS × Nat
def noF : LayF := fun m i => (m, i)
def catF : List LayF → LayF
  | [], m, i => (m, i)
  | f :: l, m, i => catF l (f m i).1 (f m i).2
def altF : List LayF → MachS → Nat → MachS × List Nat
  | [], m, _ => (m, [])
  | f :: l, m, i => ((altF l (f m i).1 i).1, (f m i).2 :: (altF l (f m i).1 i).2)
def linksF (t : Nat) : List Nat → MachS → MachS
  | [], m => m
  | e :: l, m => linksF t l (m.link e t)
def barF (fs : List LayF) : LayF := fun m i => (linksF (altF fs m i).1.states (altF fs m i).2 ((altF fs m i).1.state 0), (altF fs m i).1.states)
def loopF (plus : Bool) (f : LayF) : LayF := fun m i =>
  ((f ((m.state 0).link i m.states) m.states).1.link (f ((m.state 0).link i m.states) m.states).2 m.states, if plus = true then (f ((m.state 0).link i m.states) m.states).2 else m.states)
def optF (f : LayF) : LayF := fun m i => ((((f m i).1.state 0).link (f m i).2 (f m i).1.states).link i (f m i).1.states, (f m i).1.states)
def timesF (f : LayF) : Nat → LayF
  | 0, m, i => (m, i)
  | k + 1, m, i => timesF f k (f m i).1 (f m i).2
def optsF (f : LayF) (t : Nat) : Nat → LayF
  | 0, m, i => (m, i)
  | k + 1, m, i => optsF f t k (f (m.link i t) i).1 (f (m.link i t) i).2
/-- A tree so often, to an end of its own. -/
def upF (f : LayF) (k : Nat) : LayF := fun m i => ((optsF f m.states k (m.state 0) i).1.link (optsF f m.states k (m.state 0) i).2 m.states, m.states)
def repF (n : Nat) (lo hi : Int) (f : LayF) : LayF := fun m i =>
  if n = 0 then (m, i)
  else if hi < 0 then loopF false f (timesF f lo.toNat m i).1 (timesF f lo.toNat m i).2
  else if hi = lo then timesF f lo.toNat m i
  else upF f (hi - lo).toNat (timesF f lo.toNat m i).1 (timesF f lo.toNat m i).2
def setF (s : Nat) : LayF := fun m i => ((m.state 0).edge i s m.states, m.states)
def nilF : LayF := fun m _ => (m.state 0, m.states)
/-- How a node is laid, its kids being laid so; n: what the first one takes. -/
def layK (k : Int) (s : Nat) (lo hi : Int) (fs : List LayF) (n : Nat) : LayF :=
  if k = 2 then noF
  else if k = 3 then setF s
  else if k = 4 then catF fs
  else if k = 5 then barF fs
  else if k = 6 then loopF false (fs.headD noF)
  else if k = 7 then loopF true (fs.headD noF)
  else if k = 8 then optF (fs.headD noF)
  else if k = 9 then repF n lo hi (fs.headD noF)
  else nilF
def Trees.headW : Trees → Nat
  | .nil => 0
  | .cons k _ ks lo hi _ => wgtK k lo hi (min topN ks.wsum)
def Trees.lays : Trees → List LayF
  | .nil => []
  | .cons k s ks lo hi r => layK k s lo hi ks.lays ks.headW :: r.lays
def Nd.lay (x : Nd) : LayF := layK x.kind x.set x.lo x.hi x.kids.lays x.kids.headW
theorem Trees.lays_list : ∀ F : Trees, F.lays = F.list.map Nd.lay
  | .nil => rfl
  | .cons k s ks lo hi r => by rw [Trees.lays, Trees.list, List.map_cons, Trees.lays_list r]; rfl
theorem Trees.headW_list {F : Trees} {z : Nd} (h : F.list[0]? = some z) : F.headW = z.wgt := by
  cases F with
  | nil => simp [Trees.list] at h
  | cons k s ks lo hi r =>
    simp [Trees.list] at h
    subst h
    rfl
theorem Trees.lays_head {F : Trees} {z : Nd} (h : F.list[0]? = some z) : F.lays.headD noF = z.lay := by
  cases F with
  | nil => simp [Trees.list] at h
  | cons k s ks lo hi r =>
    simp [Trees.list] at h
    subst h
    rfl

/-! What is added. -/
theorem repl_add (n k : Nat) : List.replicate (n + k) 0 = List.replicate n 0 ++ List.replicate k (0 : Nat) := by
  induction n with
  | zero => simp
  | succ n ih => rw [Nat.succ_add, List.replicate_succ, List.replicate_succ, ih]; rfl
def NewS (m : MachS) (i n a : Nat) : Prop := a = i ∨ m.states ≤ a ∧ a < m.states + n
/-- From a place of a machine on, n states were added, none labelled, and c links and edges at most, to new states, from new ones or that place. -/
def Adds (m : MachS) (i n c : Nat) (m' : MachS) (e : Nat) : Prop :=
  ∃ L E, m' = ⟨m.accept ++ List.replicate n 0, m.links ++ L, m.edges ++ E⟩ ∧ (∀ p ∈ L, NewS m i n p.1 ∧ m.states ≤ p.2 ∧ p.2 < m.states + n) ∧
    (∀ p ∈ E, NewS m i n p.1 ∧ m.states ≤ p.2.2 ∧ p.2.2 < m.states + n) ∧ NewS m i n e ∧ L.length + E.length ≤ c
theorem Adds.states {m m' : MachS} {i n c e : Nat} (h : Adds m i n c m' e) : m'.states = m.states + n := by
  obtain ⟨L, E, rfl, _⟩ := h
  simp [MachS.states]
theorem Adds.new {m m' : MachS} {i n c e : Nat} (h : Adds m i n c m' e) : NewS m i n e := by
  obtain ⟨L, E, _, _, _, h, _⟩ := h
  exact h
theorem Adds.more {m m' : MachS} {i n c c' e : Nat} (h : Adds m i n c m' e) (hc : c ≤ c') : Adds m i n c' m' e := by
  obtain ⟨L, E, h0, h1, h2, h3, h4⟩ := h
  exact ⟨L, E, h0, h1, h2, h3, by omega⟩
theorem Adds.cast {m m' : MachS} {i n n' c c' e : Nat} (h : Adds m i n c m' e) (hn : n = n') (hc : c ≤ c') : Adds m i n' c' m' e := by
  subst hn
  exact h.more hc
theorem Adds.zero (m : MachS) (i : Nat) : Adds m i 0 0 m i := ⟨[], [], by simp, by simp, by simp, .inl rfl, by simp⟩
theorem Adds.then {m m1 m2 : MachS} {i n c e1 j n' c' e2 : Nat} (h : Adds m i n c m1 e1) (h' : Adds m1 j n' c' m2 e2) (hj : NewS m i n j) : Adds m i (n + n') (c + c') m2 e2 := by
  have hs := h.states
  obtain ⟨L, E, rfl, h1, h2, h3, h4⟩ := h
  obtain ⟨L', E', rfl, g1, g2, g3, g4⟩ := h'
  unfold NewS at *
  refine ⟨L ++ L', E ++ E', ?_, ?_, ?_, ?_, ?_⟩
  · simp only [repl_add, List.append_assoc]
  · intro p hp
    rcases List.mem_append.1 hp with hp | hp
    · have := h1 p hp; unfold NewS; omega
    · have := g1 p hp; unfold NewS; omega
  · intro p hp
    rcases List.mem_append.1 hp with hp | hp
    · have := h2 p hp; unfold NewS; omega
    · have := g2 p hp; unfold NewS; omega
  · unfold NewS; omega
  · simp; omega
theorem Adds.end_ {m m' : MachS} {i n c e e' : Nat} (h : Adds m i n c m' e) (he : NewS m i n e') : Adds m i n c m' e' := by
  obtain ⟨L, E, h0, h1, h2, h3, h4⟩ := h
  exact ⟨L, E, h0, h1, h2, he, h4⟩
theorem Adds.state {m m' : MachS} {i n c e : Nat} (h : Adds m i n c m' e) : Adds m i (n + 1) c (m'.state 0) m'.states := by
  have hs := h.states
  obtain ⟨L, E, h0, h1, h2, h3, h4⟩ := h
  refine ⟨L, E, ?_, fun p hp => ?_, fun p hp => ?_, ?_, h4⟩
  · rw [h0]
    simp only [MachS.state, repl_add, List.append_assoc]
    rfl
  · have := h1 p hp; unfold NewS at *; omega
  · have := h2 p hp; unfold NewS at *; omega
  · unfold NewS; omega
theorem Adds.link {m m' : MachS} {i n c e a b : Nat} (h : Adds m i n c m' e) (ha : NewS m i n a) (hb : m.states ≤ b) (hb2 : b < m.states + n) : Adds m i n (c + 1) (m'.link a b) e := by
  obtain ⟨L, E, rfl, h1, h2, h3, h4⟩ := h
  refine ⟨L ++ [(a, b)], E, by simp [MachS.link], fun p hp => ?_, h2, h3, by simp; omega⟩
  rcases List.mem_append.1 hp with hp | hp
  · exact h1 p hp
  · rw [List.mem_singleton.1 hp]; exact ⟨ha, hb, hb2⟩
theorem Adds.edge {m m' : MachS} {i n c e a s b : Nat} (h : Adds m i n c m' e) (ha : NewS m i n a) (hb : m.states ≤ b) (hb2 : b < m.states + n) : Adds m i n (c + 1) (m'.edge a s b) e := by
  obtain ⟨L, E, rfl, h1, h2, h3, h4⟩ := h
  refine ⟨L, E ++ [(a, s, b)], by simp [MachS.edge], h1, fun p hp => ?_, h3, by simp; omega⟩
  rcases List.mem_append.1 hp with hp | hp
  · exact h2 p hp
  · rw [List.mem_singleton.1 hp]; exact ⟨ha, hb, hb2⟩
/-- A way to lay that adds so much. -/
def AddsF (f : LayF) (n c : Nat) : Prop := ∀ m i, Adds m i n c (f m i).1 (f m i).2
theorem addsF_no : AddsF noF 0 0 := fun m i => Adds.zero m i
theorem addsF_nil : AddsF nilF 1 0 := fun m i => ((Adds.zero m i).state).cast (by omega) (by omega)
theorem addsF_set (s : Nat) : AddsF (setF s) 1 1 := fun m i => ((Adds.zero m i).state.edge (.inl rfl) (by omega) (by omega)).cast (by omega) (by omega)
theorem addsF_cat : ∀ (l : List (LayF × Nat × Nat)), (∀ q ∈ l, AddsF q.1 q.2.1 q.2.2) → AddsF (catF (l.map (·.1))) (l.map (·.2.1)).sum (l.map (·.2.2)).sum
  | [], _ => fun m i => Adds.zero m i
  | q :: l, h => fun m i => by
    have h1 := h q (by simp) m i
    have h2 := addsF_cat l (fun q hq => h q (by simp [hq])) (q.1 m i).1 (q.1 m i).2
    have := h1.then h2 h1.new
    simpa [catF] using this
theorem adds_alt : ∀ (l : List (LayF × Nat × Nat)), (∀ q ∈ l, AddsF q.1 q.2.1 q.2.2) → ∀ m i, Adds m i (l.map (·.2.1)).sum (l.map (·.2.2)).sum (altF (l.map (·.1)) m i).1 i ∧ (altF (l.map (·.1)) m i).2.length = l.length ∧ ∀ e ∈ (altF (l.map (·.1)) m i).2, NewS m i (l.map (·.2.1)).sum e
  | [], _, m, i => ⟨Adds.zero m i, rfl, fun e he => by cases he⟩
  | q :: l, h, m, i => by
    have h1 := h q (by simp) m i
    have hs := h1.states
    obtain ⟨h2, h3, h4⟩ := adds_alt l (fun q hq => h q (by simp [hq])) (q.1 m i).1 i
    have h5 := h1.then h2 (.inl rfl)
    have hn := h1.new
    refine ⟨by simpa [altF] using h5, by simp [altF, h3], fun e he => ?_⟩
    simp [altF] at he
    rcases he with rfl | he
    · unfold NewS at *; simp; omega
    · have := h4 e he
      unfold NewS at *
      simp
      omega
theorem adds_links {m : MachS} {i n t : Nat} (ht : m.states ≤ t) (ht2 : t < m.states + n) : ∀ (es : List Nat) {m' : MachS} {c e : Nat}, Adds m i n c m' e → (∀ x ∈ es, NewS m i n x) → Adds m i n (c + es.length) (linksF t es m') e
  | [], m', c, e, h, _ => h
  | x :: l, m', c, e, h, hx => by
    have := adds_links ht ht2 l (h.link (hx x (by simp)) ht ht2) (fun y hy => hx y (by simp [hy]))
    refine this.cast rfl ?_
    simp
    omega
theorem addsF_bar (l : List (LayF × Nat × Nat)) (h : ∀ q ∈ l, AddsF q.1 q.2.1 q.2.2) : AddsF (barF (l.map (·.1))) ((l.map (·.2.1)).sum + 1) ((l.map (·.2.2)).sum + l.length) := fun m i => by
  obtain ⟨h1, h2, h3⟩ := adds_alt l h m i
  have hs := h1.states
  have h4 := adds_links (m := m) (i := i) (n := (l.map (·.2.1)).sum + 1) (t := (altF (l.map (·.1)) m i).1.states) (by omega) (by omega) (altF (l.map (·.1)) m i).2 h1.state (fun x hx => by have := h3 x hx; unfold NewS at *; omega)
  rw [h2] at h4
  exact h4
theorem addsF_loop (plus : Bool) {f : LayF} {n c : Nat} (h : AddsF f n c) : AddsF (loopF plus f) (n + 1) (c + 2) := fun m i => by
  have h1 : Adds m i 1 1 ((m.state 0).link i m.states) m.states := ((Adds.zero m i).state.link (.inl rfl) (by omega) (by omega)).cast (by omega) (by omega)
  have h2 := h ((m.state 0).link i m.states) m.states
  have h3 := h1.then h2 h1.new
  have h4 := (h3.link h3.new (b := m.states) (by omega) (by omega)).cast (n' := n + 1) (c' := c + 2) (by omega) (by omega)
  cases plus with
  | true => exact h4
  | false => exact h4.end_ (e' := m.states) (by unfold NewS; omega)
theorem addsF_opt {f : LayF} {n c : Nat} (h : AddsF f n c) : AddsF (optF f) (n + 1) (c + 2) := fun m i => by
  have h1 := h m i
  have hs := h1.states
  have hn := h1.new
  exact (h1.state.link (a := (f m i).2) (b := (f m i).1.states) (by unfold NewS at *; omega) (by omega) (by omega)).link (a := i) (b := (f m i).1.states) (.inl rfl) (by omega) (by omega)
theorem addsF_times {f : LayF} {n c : Nat} (h : AddsF f n c) : ∀ k, AddsF (timesF f k) (k * n) (k * c)
  | 0 => fun m i => (Adds.zero m i).cast (by omega) (by omega)
  | k + 1 => fun m i => by
    have h1 := h m i
    have h2 := addsF_times h k (f m i).1 (f m i).2
    exact (h1.then h2 h1.new).cast (by rw [Nat.succ_mul]; omega) (by rw [Nat.succ_mul]; omega)
theorem adds_opts {f : LayF} {n c : Nat} (h : AddsF f n c) {m : MachS} {i t : Nat} : ∀ (k : Nat) {n0 c0 : Nat} {m1 : MachS} {e1 : Nat}, Adds m i n0 c0 m1 e1 → m.states ≤ t → t < m.states + n0 → Adds m i (n0 + k * n) (c0 + k * (c + 1)) (optsF f t k m1 e1).1 (optsF f t k m1 e1).2
  | 0, n0, c0, m1, e1, h1, _, _ => h1.cast (by omega) (by omega)
  | k + 1, n0, c0, m1, e1, h1, ht, ht2 => by
    have h2 := h1.link h1.new ht ht2
    have h3 := h (m1.link e1 t) e1
    have h4 := h2.then h3 h1.new
    have h5 := adds_opts h k h4 ht (by omega)
    exact h5.cast (by rw [Nat.succ_mul]; omega) (by rw [Nat.succ_mul]; omega)
theorem addsF_up {f : LayF} {n c : Nat} (h : AddsF f n c) (k : Nat) : AddsF (upF f k) (k * n + 1) (k * (c + 1) + 1) := fun m i => by
  have h0 : Adds m i 1 0 (m.state 0) i := ((Adds.zero m i).state.end_ (.inl rfl)).cast (by omega) (by omega)
  have h1 := adds_opts h (t := m.states) k h0 (by omega) (by omega)
  exact ((h1.link h1.new (b := m.states) (by omega) (by omega)).end_ (e' := m.states) (by unfold NewS; omega)).cast (by omega) (by omega)

/-! What nodes take, never stopped. -/
def wgtU (k lo hi : Int) (n : Nat) : Nat :=
  if k = 2 ∨ k = 4 then n
  else if k = 9 then (if n = 0 then 0 else if hi < 0 then lo.toNat * n + n + 1 else if lo < hi then lo.toNat * n + (hi - lo).toNat * n + 1 else lo.toNat * n)
  else n + 1
def Trees.wsumU : Trees → Nat
  | .nil => 0
  | .cons k _ ks lo hi r => wgtU k lo hi ks.wsumU + r.wsumU
def Nd.wgtU (x : Nd) : Nat := Go.Proofs.YtchfipjclbpomaaGreat.wgtU x.kind x.lo x.hi x.kids.wsumU
theorem min_mul_top (a k : Nat) : min topN (k * min topN a) = min topN (k * a) := by
  rcases Nat.eq_zero_or_pos k with rfl | hk
  · simp
  · rcases Nat.lt_or_ge topN a with h | h
    · have h1 : topN ≤ k * topN := Nat.le_mul_of_pos_left _ hk
      have h2 : topN ≤ k * a := Nat.le_trans (Nat.le_of_lt h) (Nat.le_mul_of_pos_left _ hk)
      rw [Nat.min_eq_left (Nat.le_of_lt h), Nat.min_eq_left h1, Nat.min_eq_left h2]
    · rw [Nat.min_eq_right h]
theorem topN_pos : 0 < topN := by decide
theorem wgtK_U (k lo hi : Int) (n : Nat) : wgtK k lo hi (min topN n) = min topN (wgtU k lo hi n) := by
  have ht := topN_pos
  unfold wgtK wgtU
  split
  · rfl
  split
  · unfold timesW
    by_cases hn : n = 0
    · subst hn
      simp
    rw [if_neg (by omega), if_neg hn]
    split
    · have := min_mul_top n lo.toNat
      omega
    split
    · have h1 := min_mul_top n lo.toNat
      have h2 := min_mul_top n (hi - lo).toNat
      omega
    · exact min_mul_top n _
  · omega
theorem Trees.wsum_U : ∀ F : Trees, min topN F.wsum = min topN F.wsumU
  | .nil => rfl
  | .cons k s ks lo hi r => by
    have h1 := Trees.wsum_U ks
    have h2 := Trees.wsum_U r
    rw [Trees.wsum, Trees.wsumU, h1, wgtK_U]
    omega
theorem Nd.wgt_U (x : Nd) : x.wgt = min topN x.wgtU := by
  unfold Nd.wgt Nd.wgtU
  rw [x.kids.wsum_U, wgtK_U]
theorem Trees.wsumU_list : ∀ F : Trees, F.wsumU = (F.list.map Nd.wgtU).sum
  | .nil => rfl
  | .cons k s ks lo hi r => by rw [Trees.wsumU, Trees.list, List.map_cons, List.sum_cons, Trees.wsumU_list r]; rfl
theorem Trees.size_list : ∀ F : Trees, F.size = (F.list.map Nd.size).sum
  | .nil => rfl
  | .cons k s ks lo hi r => by rw [Trees.size, Trees.list, List.map_cons, List.sum_cons, Trees.size_list r]; rfl

/-! A node that may be, by its kind. -/
theorem aloneN_kids {y : Nd} (h : aloneN y = true) : (6 ≤ y.kind → y.kind ≤ 9 → y.kids.len = 1) ∧ (y.kind = 9 → 0 ≤ y.lo ∧ (y.hi = -1 ∨ y.lo ≤ y.hi)) ∧ (y.kind < 4 → y.kids.len = 0) ∧ 1 ≤ y.kind ∧ y.kind ≤ 9 := by
  unfold aloneN aloneV at h
  by_cases h3 : y.kind = 3
  · rw [if_pos h3] at h
    simp at h
    omega
  rw [if_neg h3] at h
  split at h
  · cases h
  by_cases h9 : y.kind = 9
  · rw [if_pos h9] at h
    unfold timesB at h
    simp at h
    omega
  · rw [if_neg h9] at h
    by_cases k1 : y.kind = 1 ∨ y.kind = 2 ∨ y.kind = 3
    · have e : arityS y.kind = 0 := by unfold arityS; rw [if_pos k1]
      rw [e] at h
      simp at h
      omega
    by_cases k2 : y.kind = 4 ∨ y.kind = 5
    · have e : arityS y.kind = 2 := by unfold arityS; rw [if_neg k1, if_pos k2]
      rw [e] at h
      simp at h
      omega
    by_cases k3 : 6 ≤ y.kind ∧ y.kind ≤ 9
    · have e : arityS y.kind = 1 := by unfold arityS; rw [if_neg k1, if_neg k2, if_pos k3]
      rw [e] at h
      simp at h
      omega
    · have e : arityS y.kind = -1 := by unfold arityS; rw [if_neg k1, if_neg k2, if_neg k3]
      rw [e] at h
      simp at h
theorem exp1 (a S : Nat) : 2 * (a + 1) * (1 + S) = 2 * a * S + 2 * a + 2 * S + 2 := by
  have h : 2 * (a + 1) = 2 * a + 2 := by omega
  rw [h, Nat.mul_add, Nat.mul_one, Nat.add_mul]
  omega
theorem exp2 (a b S : Nat) : 2 * (a + b) * S = 2 * a * S + 2 * b * S := by
  have h : 2 * (a + b) = 2 * a + 2 * b := by omega
  rw [h, Nat.add_mul]
theorem two_mul_le {a b c d : Nat} (h1 : a ≤ c) (h2 : b ≤ d) : 2 * a * b ≤ 2 * c * d := Nat.mul_le_mul (Nat.mul_le_mul_left 2 h1) h2
def Okays (F : Trees) : Prop := ∀ y ∈ F.nodes, aloneN y = true
theorem sum_le_mul : ∀ (l : List Nd), ((l.map fun z => 2 * z.wgtU * z.size).sum) ≤ 2 * (l.map Nd.wgtU).sum * (l.map Nd.size).sum
  | [] => by simp
  | x :: l => by
    have := sum_le_mul l
    simp only [List.map_cons, List.sum_cons]
    generalize (l.map Nd.wgtU).sum = A at *
    generalize (l.map Nd.size).sum = B at *
    rw [exp2, Nat.mul_add, Nat.mul_add]
    omega
theorem lay_adds : ∀ (F : Trees), Okays F → ∀ z ∈ F.list, AddsF z.lay z.wgtU (2 * z.wgtU * z.size)
  | .nil, _, z, hz => by cases hz
  | .cons k s ks lo hi r, ho, z, hz => by
    rw [Trees.list] at hz
    rcases List.mem_cons.1 hz with rfl | hz
    · have hself : aloneN ⟨k, s, ks, lo, hi⟩ = true := ho _ (by simp [Trees.nodes])
      have hks : Okays ks := fun y hy => ho y (by simp [Trees.nodes, hy])
      have ih := lay_adds ks hks
      obtain ⟨a1, a9, a0, ak1, ak9⟩ := aloneN_kids hself
      simp only at a1 a9 a0 ak1 ak9
      unfold Nd.lay Nd.wgtU Nd.size layK Go.Proofs.YtchfipjclbpomaaGreat.wgtU
      simp only
      have hmap : ks.lays = ((ks.list.map fun z => (z.lay, z.wgtU, 2 * z.wgtU * z.size)).map (·.1)) := by rw [Trees.lays_list, List.map_map]; rfl
      have hq : ∀ q ∈ ks.list.map (fun z => (z.lay, z.wgtU, 2 * z.wgtU * z.size)), AddsF q.1 q.2.1 q.2.2 := by
        intro q hq
        obtain ⟨z, hz, rfl⟩ := List.mem_map.1 hq
        exact ih z hz
      have hw : ((ks.list.map fun z => (z.lay, z.wgtU, 2 * z.wgtU * z.size)).map (·.2.1)).sum = ks.wsumU := by rw [List.map_map, Trees.wsumU_list]; rfl
      have hc : ((ks.list.map fun z => (z.lay, z.wgtU, 2 * z.wgtU * z.size)).map (·.2.2)).sum ≤ 2 * ks.wsumU * ks.size := by
        rw [List.map_map, Trees.wsumU_list, Trees.size_list]
        exact sum_le_mul ks.list
      have hl : (ks.list.map fun z => (z.lay, z.wgtU, 2 * z.wgtU * z.size)).length = ks.len := by rw [List.length_map, Trees.len_list]
      have hlen := Trees.len_size ks
      have hone : 6 ≤ k → k ≤ 9 → ∃ z, ks.list = [z] ∧ ks.wsumU = z.wgtU ∧ ks.size = z.size := fun h6 h9 => by
        have h1 := a1 h6 h9
        rw [← Trees.len_list] at h1
        obtain ⟨z, hz⟩ := List.length_eq_one_iff.1 h1
        exact ⟨z, hz, by rw [Trees.wsumU_list, hz]; simp, by rw [Trees.size_list, hz]; simp⟩
      rcases (show k = 1 ∨ k = 2 ∨ k = 3 ∨ k = 4 ∨ k = 5 ∨ k = 6 ∨ k = 7 ∨ k = 8 ∨ k = 9 by omega) with rfl | rfl | rfl | rfl | rfl | rfl | rfl | rfl | rfl
      · have h0 : ks.wsumU = 0 := by
          have := a0 (by decide)
          rw [← Trees.len_list] at this
          rw [Trees.wsumU_list, List.length_eq_zero_iff.1 this]
          rfl
        rw [h0]
        intro m i
        exact (addsF_nil m i).cast rfl (by simp)
      · have h0 : ks.wsumU = 0 := by
          have := a0 (by decide)
          rw [← Trees.len_list] at this
          rw [Trees.wsumU_list, List.length_eq_zero_iff.1 this]
          rfl
        rw [h0]
        exact fun m i => (addsF_no m i).cast rfl (by omega)
      · have h0 : ks.wsumU = 0 := by
          have := a0 (by decide)
          rw [← Trees.len_list] at this
          rw [Trees.wsumU_list, List.length_eq_zero_iff.1 this]
          rfl
        rw [h0]
        exact fun m i => (addsF_set s m i).cast rfl (by simp; omega)
      · have := addsF_cat _ hq
        rw [← hmap, hw] at this
        exact fun m i => (this m i).cast rfl (Nat.le_trans hc (two_mul_le (Nat.le_refl _) (by omega)))
      · have := addsF_bar _ hq
        rw [← hmap, hw, hl] at this
        refine fun m i => (this m i).cast rfl ?_
        have h1 : 2 * (ks.wsumU + 1) * (1 + ks.size) = 2 * ks.wsumU * ks.size + 2 * ks.wsumU + 2 * ks.size + 2 := exp1 _ _
        simp only [show ¬ ((5 : Int) = 2 ∨ (5 : Int) = 4) by decide, if_false, show ¬ ((5 : Int) = 9) by decide]
        omega
      · obtain ⟨z, hz, hw1, hs1⟩ := hone (by decide) (by decide)
        have hh := Trees.lays_head (F := ks) (z := z) (by rw [hz]; rfl)
        have := addsF_loop false (ih z (by rw [hz]; simp))
        rw [← hh] at this
        refine fun m i => (this m i).cast (by simp [hw1]) ?_
        have h1 : 2 * (z.wgtU + 1) * (1 + z.size) = 2 * z.wgtU * z.size + 2 * z.wgtU + 2 * z.size + 2 := exp1 _ _
        simp only [show ¬ ((6 : Int) = 2 ∨ (6 : Int) = 4) by decide, if_false, show ¬ ((6 : Int) = 9) by decide]
        rw [hw1, hs1]
        omega
      · obtain ⟨z, hz, hw1, hs1⟩ := hone (by decide) (by decide)
        have hh := Trees.lays_head (F := ks) (z := z) (by rw [hz]; rfl)
        have := addsF_loop true (ih z (by rw [hz]; simp))
        rw [← hh] at this
        refine fun m i => (this m i).cast (by simp [hw1]) ?_
        have h1 : 2 * (z.wgtU + 1) * (1 + z.size) = 2 * z.wgtU * z.size + 2 * z.wgtU + 2 * z.size + 2 := exp1 _ _
        simp only [show ¬ ((7 : Int) = 2 ∨ (7 : Int) = 4) by decide, if_false, show ¬ ((7 : Int) = 9) by decide]
        rw [hw1, hs1]
        omega
      · obtain ⟨z, hz, hw1, hs1⟩ := hone (by decide) (by decide)
        have hh := Trees.lays_head (F := ks) (z := z) (by rw [hz]; rfl)
        have := addsF_opt (ih z (by rw [hz]; simp))
        rw [← hh] at this
        refine fun m i => (this m i).cast (by simp [hw1]) ?_
        have h1 : 2 * (z.wgtU + 1) * (1 + z.size) = 2 * z.wgtU * z.size + 2 * z.wgtU + 2 * z.size + 2 := exp1 _ _
        simp only [show ¬ ((8 : Int) = 2 ∨ (8 : Int) = 4) by decide, if_false, show ¬ ((8 : Int) = 9) by decide]
        rw [hw1, hs1]
        omega
      · obtain ⟨z, hz, hw1, hs1⟩ := hone (by decide) (by decide)
        have hh := Trees.lays_head (F := ks) (z := z) (by rw [hz]; rfl)
        have hW := Trees.headW_list (F := ks) (z := z) (by rw [hz]; rfl)
        have hWU := z.wgt_U
        have ht := topN_pos
        have hf := ih z (by rw [hz]; simp)
        rw [← hh] at hf
        have hlo := a9 rfl
        rw [hw1, hs1, hW]
        simp only [show ¬ ((9 : Int) = 2 ∨ (9 : Int) = 4) by decide, if_false, if_true]
        simp only [show ¬ ((9 : Int) = 2) by decide, show ¬ ((9 : Int) = 3) by decide, show ¬ ((9 : Int) = 4) by decide, show ¬ ((9 : Int) = 5) by decide, show ¬ ((9 : Int) = 6) by decide, show ¬ ((9 : Int) = 7) by decide, show ¬ ((9 : Int) = 8) by decide, if_false]
        generalize ks.lays.headD noF = f at *
        generalize z.size = S at *
        generalize z.wgt = N at *
        generalize z.wgtU = n at *
        intro m i
        unfold repF
        by_cases h0 : n = 0
        · subst h0
          rw [if_pos rfl, if_pos (by omega)]
          exact (Adds.zero m i).cast rfl (by omega)
        rw [if_neg h0, if_neg (show ¬ N = 0 by omega)]
        have htm := addsF_times hf lo.toNat m i
        have e1 : lo.toNat * (2 * n * S) = 2 * (lo.toNat * n) * S := by rw [← Nat.mul_assoc, ← Nat.mul_assoc, Nat.mul_comm lo.toNat 2, Nat.mul_assoc 2]
        by_cases hh0 : hi < 0
        · rw [if_pos hh0, if_pos hh0]
          have h2 := addsF_loop false hf (timesF f lo.toNat m i).1 (timesF f lo.toNat m i).2
          refine (htm.then h2 htm.new).cast (by omega) ?_
          rw [e1]
          have h1 : 2 * (lo.toNat * n + n + 1) * (1 + S) = 2 * (lo.toNat * n) * S + 2 * n * S + 2 * S + 2 * (lo.toNat * n + n + 1) := by
            rw [exp1, exp2]; omega
          omega
        rw [if_neg hh0, if_neg hh0]
        by_cases hll : hi = lo
        · rw [if_pos hll, if_neg (by omega)]
          refine htm.cast rfl ?_
          rw [e1]
          exact two_mul_le (Nat.le_refl _) (by omega)
        · rw [if_neg hll, if_pos (by omega)]
          have h2 := addsF_up hf (hi - lo).toNat (timesF f lo.toNat m i).1 (timesF f lo.toNat m i).2
          refine (htm.then h2 htm.new).cast (by omega) ?_
          generalize (hi - lo).toNat = d at *
          have e2 : d * (2 * n * S + 1) = 2 * (d * n) * S + d := by
            rw [Nat.mul_add, Nat.mul_one, ← Nat.mul_assoc, ← Nat.mul_assoc, Nat.mul_comm d 2, Nat.mul_assoc 2]
          rw [e1, e2]
          have h1 : 2 * (lo.toNat * n + d * n + 1) * (1 + S) = 2 * (lo.toNat * n) * S + 2 * (d * n) * S + 2 * S + 2 * (lo.toNat * n + d * n + 1) := by
            rw [exp1, exp2]; omega
          have h3 : d ≤ d * n := Nat.le_mul_of_pos_right _ (by omega)
          omega
    · exact lay_adds r (fun y hy => ho y (by simp [Trees.nodes, hy])) z hz

/-! All trees. -/
def layAll : List Nd → Nat → MachS → MachS
  | [], _, m => m
  | x :: l, i, m => layAll l (i + 1) (((x.lay m 0).1.state (i + 1)).link (x.lay m 0).2 (x.lay m 0).1.states)
def machS (l : List Nd) : MachS := layAll l 0 ⟨[0], [], []⟩
def wAll (l : List Nd) : Nat := (l.map fun x => x.wgtU + 1).sum
def sizeW (l : List Nd) : Nat := min topN (1 + wAll l)
/-- The machine of trees, or the kind of error. -/
def ofS (l : List Nd) : Except Int MachS :=
  if 64 < l.length then .error 18 else if (l.all rightT) = false then .error 6 else if 65536 < sizeW l then .error 7 else .ok (machS l)
end Go.Proofs.YtchfipjclbpomaaGreat
