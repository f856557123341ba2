/- Texts of the claim. -/
import Derived.Maps.Own
import Derived.Maps.Views
import Derived.Test.YtfekpkelmliejaaGreatDoorQSpecP
import Derived.Test.YtfekpkelmliejaaGreatDoorQZ01
namespace Go.Proofs.YtfekpkelmliejaaGreatDoor
open Go.RowKit Go.Maps
set_option linter.unusedSimpArgs false
set_option linter.unusedVariables false
set_option maxRecDepth 100000
set_option maxHeartbeats 8000000
def RulesAt (w : World) (P : Nat → Prop) (rs : List RuleS) (A : Option Addr) : Prop := ∀ (i : Nat) (r : RuleS), rs[i]? = some r →
 ∃ b o B cap, A = some ⟨b, o, none⟩ ∧ P b ∧ r.body.kids.len ≤ cap ∧ w.cell? ⟨b, o + i * 9, none⟩ = some (.string (strOf r.name)) ∧
  NdAt w b (o + i * 9 + 1) r.body.kind r.body.set r.body.kids.len r.body.lo r.body.hi B cap ∧ TreesAt w P r.body.kids B
theorem RulesAt.keep {w w' : World} {P Q : Nat → Prop} {rs : List RuleS} {A : Option Addr} (h : RulesAt w P rs A) (hk : ∀ b o, P b → b < w.heap.size → w'.cell? ⟨b, o, none⟩ = w.cell? ⟨b, o, none⟩) (hQ : ∀ b, P b → b < w.heap.size → Q b) : RulesAt w' Q rs A := fun i r hr => by
 obtain ⟨b, o, B, cap, hA, hb, hc, h0, hn, ht⟩ := h i r hr
 have hl := World.block_lt_of_cell? w _ h0
 exact ⟨b, o, B, cap, hA, hQ b hb hl, hc, (hk b _ hb hl).trans h0, hn.keep (fun o => hk b o hb hl), ht.keep hk hQ⟩
theorem RulesAt.below {w w' : World} {P : Nat → Prop} {rs : List RuleS} {A : Option Addr} (h : RulesAt w P rs A) (hb : Below w.heap.size w w') : RulesAt w' P rs A :=
 h.keep (fun b o _ hl => hb.cell (p := ⟨b, o, none⟩) hl) (fun b hp _ => hp)
theorem RulesAt.weak {w : World} {P Q : Nat → Prop} {rs : List RuleS} {A : Option Addr} (h : RulesAt w P rs A) (hQ : ∀ b, P b → b < w.heap.size → Q b) : RulesAt w Q rs A := h.keep (fun _ _ _ _ => rfl) hQ
theorem RulesAt.nil {w : World} {P : Nat → Prop} {A : Option Addr} : RulesAt w P [] A := fun i r h => by simp at h
def ruleCell (r : RuleS) (B : Option Addr) (cap : Nat) : List Value := .string (strOf r.name) :: ndCell r.body B cap
def RulesAre (w : World) (P : Nat → Prop) : List RuleS → List Value → Prop
 | [], cs => cs = []
 | r :: l, cs => ∃ B cap rest, cs = ruleCell r B cap ++ rest ∧ r.body.kids.len ≤ cap ∧ TreesAt w P r.body.kids B ∧ RulesAre w P l rest
theorem RulesAre.keep {w w' : World} {P Q : Nat → Prop} (hk : ∀ b o, P b → b < w.heap.size → w'.cell? ⟨b, o, none⟩ = w.cell? ⟨b, o, none⟩) (hQ : ∀ b, P b → b < w.heap.size → Q b) : ∀ {l : List RuleS} {cs : List Value}, RulesAre w P l cs → RulesAre w' Q l cs
 | [], cs, h => h
 | x :: l, cs, ⟨B, cap, rest, hcs, hc, ht, hr⟩ => ⟨B, cap, rest, hcs, hc, ht.keep hk hQ, hr.keep hk hQ⟩
theorem RulesAre.below {w w' : World} {P : Nat → Prop} (hb : Below w.heap.size w w') {l : List RuleS} {cs : List Value} (h : RulesAre w P l cs) : RulesAre w' P l cs :=
 h.keep (fun b o _ hl => hb.cell (p := ⟨b, o, none⟩) hl) (fun b hp _ => hp)
theorem RulesAre.snoc {w : World} {P : Nat → Prop} {x : RuleS} {B : Option Addr} {cap : Nat} (hc : x.body.kids.len ≤ cap) (ht : TreesAt w P x.body.kids B) : ∀ {l : List RuleS} {cs : List Value}, RulesAre w P l cs → RulesAre w P (l ++ [x]) (cs ++ ruleCell x B cap)
 | [], cs, h => by
  have : cs = [] := h
  subst this
  exact ⟨B, cap, [], by simp, hc, ht, rfl⟩
 | y :: l, cs, ⟨B', cap', rest, hcs, hc', ht', hr⟩ => ⟨B', cap', rest ++ ruleCell x B cap, by rw [hcs, List.append_assoc], hc', ht', hr.snoc hc ht⟩
theorem RulesAre.get {w : World} {P : Nat → Prop} : ∀ {l : List RuleS} {cs : List Value} {i : Nat} {x : RuleS}, RulesAre w P l cs → l[i]? = some x →
  ∃ B cap, x.body.kids.len ≤ cap ∧ TreesAt w P x.body.kids B ∧ ∀ j, j < 9 → cs[i * 9 + j]? = (ruleCell x B cap)[j]?
 | [], cs, i, x, _, hx => by simp at hx
 | y :: l, cs, 0, x, ⟨B, cap, rest, hcs, hc, ht, hr⟩, hx => by
  simp at hx
  subst hx
  refine ⟨B, cap, hc, ht, fun j hj => ?_⟩
  rw [hcs, Nat.zero_mul, Nat.zero_add, List.getElem?_append_left (by simpa [ruleCell, ndCell] using hj)]
 | y :: l, cs, i + 1, x, ⟨B, cap, rest, hcs, hc, ht, hr⟩, hx => by
  obtain ⟨B', cap', hc', ht', hg⟩ := RulesAre.get (i := i) hr (by simpa using hx)
  refine ⟨B', cap', hc', ht', fun j hj => ?_⟩
  have hl : (ruleCell y B cap).length = 9 := by simp [ruleCell, ndCell]
  rw [hcs, List.getElem?_append_right (by omega), hl, show (i + 1) * 9 + j - 9 = i * 9 + j by omega]
  exact hg j hj
theorem rules_of {w : World} {base : Nat} {v : Value} {P : Nat → Prop} {l : List RuleS} {cs : List Value} (h : w.ownsRow base 120 9 v l.length cs) (hc : RulesAre w P l cs) (hP : ∀ g, v.ownBlock = some g → P g) :
  ∃ A cap, v = .slice A l.length cap ∧ l.length ≤ cap ∧ RulesAt w P l A := by
 obtain ⟨h1, h2 | ⟨g, cap, cur, e1, e2, h3⟩⟩ := id h
 ·obtain ⟨rfl, h0⟩ := h2
  have : l = [] := List.length_eq_zero_iff.1 h0
  subst this
  exact ⟨none, 0, rfl, Nat.le_refl _, RulesAt.nil⟩
 ·subst e1
  refine ⟨_, cap, rfl, h3.2.1, fun i x hx => ?_⟩
  obtain ⟨B, cap', hc', ht', hg⟩ := hc.get hx
  have hcl := h.cells (g := g) rfl
  have hat : ∀ j u, j < 9 → (ruleCell x B cap')[j]? = some u → w.cell? ⟨g, 0 + i * 9 + j, none⟩ = some u := fun j u hj hu => by
   have := hcl (i * 9 + j) u ((hg j hj).trans hu)
   have e : (⟨g, 0, none⟩ : Addr).add (i * 9 + j) = ⟨g, 0 + i * 9 + j, none⟩ := by
    rcases Nat.eq_zero_or_pos (i * 9 + j) with hz | hz
    ·rw [show 0 + i * 9 + j = 0 by omega, hz]; rfl
    ·have h1 : ¬ (i * 9 = 0 ∧ j = 0) := by omega
     simp [Addr.add, h1]
   exact e ▸ this
  exact ⟨g, 0, B, cap', rfl, hP g rfl, hc', hat 0 _ (by decide) rfl, ⟨hat 1 _ (by decide) rfl, hat 2 _ (by decide) rfl, hat 3 _ (by decide) rfl, hat 4 _ (by decide) rfl, hat 5 _ (by decide) rfl, hat 6 _ (by decide) rfl, hat 7 _ (by decide) rfl, hat 8 _ (by decide) rfl⟩, ht'⟩
theorem u8_inj {a b : List Nat} (ha : ∀ c ∈ a, c < 256) (hb : ∀ c ∈ b, c < 256) (h : a.map UInt8.ofNat = b.map UInt8.ofNat) : a = b := by
 have e : ∀ l : List Nat, (∀ c ∈ l, c < 256) → (l.map UInt8.ofNat).map UInt8.toNat = l := by
  intro l hl
  rw [List.map_map]
  conv => rhs; rw [← List.map_id l]
  refine List.map_congr_left (fun c hc => ?_)
  have := hl c hc
  simp
  omega
 rw [← e a ha, ← e b hb, h]
theorem strOf_list (l : List Nat) : (strOf l).data.toList = l.map UInt8.ofNat := by simp [strOf]
def NamesAt (w : World) (b : Nat) (rs : List RuleS) : Prop := (∀ r ∈ rs, ∀ c ∈ r.name, c < 256) ∧ ∃ D : DataW Unit, w.ownsMap Tryz.prog 9 (plainElem Tryz.prog 4) b rs.length D ∧ IsMap D ∧
 ∀ nm : List Nat, (∀ c ∈ nm, c < 256) → D.atKey (.string (nm.map UInt8.ofNat)) (.lit (.bool false)) = .lit (.bool (called rs nm))
theorem zero_bool (w : World) : (zeroValue 4).run Tryz.prog w = .ok (.bool false) w := by kernel_rfl
theorem NamesAt.look {w : World} {b : Nat} {rs : List RuleS} (h : NamesAt w b rs) {nm : List Nat} (hn : ∀ c ∈ nm, c < 256) (hl : nm.length ≤ 140737488355328) :
  (Instr.lookup 122 (.map (some b)) (.string (strOf nm)) false).run Tryz.prog w = .ok (.bool (called rs nm)) w := by
 obtain ⟨_, D, hown, _, hat⟩ := h
 obtain ⟨v, ps, hrun, hv⟩ := hown.lookup (string_keyed Tryz.underlying9) Tryz.underlying122 (zero_bool w) (plainElem_bool Tryz.underlying4 false) (WideMaps.keyOf_string_mk Tryz.underlying9 (show (strOf nm).size ≤ maxLen by rw [strOf_size]; exact Nat.le_trans hl (by decide)))
 rw [strOf_list, hat nm hn] at hv
 unfold plainElem at hv
 rw [Tryz.underlying4] at hv
 cases v <;> simp at hv
 rw [hrun, hv.1]
theorem NamesAt.kept {w w' : World} {b : Nat} {rs : List RuleS} {row : Option Nat} (h : NamesAt w b rs) (hg : w.grownBy w' row) (hne : some b ≠ row) : NamesAt w' b rs := by
 obtain ⟨h0, D, hown, h1, h2⟩ := h
 exact ⟨h0, D, hown.kept hg hne, h1, h2⟩
theorem NamesAt.lt {w : World} {b : Nat} {rs : List RuleS} (h : NamesAt w b rs) : b < w.heap.size := by
 obtain ⟨_, D, hown, _⟩ := h
 exact hown.lt
theorem NamesAt.block {w w' : World} {b : Nat} {rs : List RuleS} (h : NamesAt w b rs) (hb : w'.heap[b]? = w.heap[b]?) : NamesAt w' b rs := by
 obtain ⟨h0, D, ⟨es, clock, h1, h2⟩, h3⟩ := h
 exact ⟨h0, D, ⟨es, clock, hb.trans h1, h2⟩, h3⟩
theorem NamesAt.below {w w' : World} {b B : Nat} {rs : List RuleS} (h : NamesAt w b rs) (hb : Below B w w') (hl : b < B) : NamesAt w' b rs := h.block (hb.block b hl)
theorem NamesAt.new (w : World) : NamesAt (w.alloc (.map #[] 0)) w.heap.size [] :=
 ⟨fun r hr => (by cases hr), DataW.map [], World.ownsMap_made w _ _ _, isMap_empty, fun nm _ => rfl⟩
theorem NamesAt.put {w w' : World} {b : Nat} {rs : List RuleS} {D : DataW Unit} {nm : List Nat} {x : Nd} (h0 : ∀ r ∈ rs, ∀ c ∈ r.name, c < 256) (hm : IsMap D) (hat : ∀ nm : List Nat, (∀ c ∈ nm, c < 256) → D.atKey (.string (nm.map UInt8.ofNat)) (.lit (.bool false)) = .lit (.bool (called rs nm)))
  (hn : ∀ c ∈ nm, c < 256) (hown : w'.ownsMap Tryz.prog 9 (plainElem Tryz.prog 4) b (rs.length + 1) (D.put (.string (nm.map UInt8.ofNat)) (.lit (.bool true)))) : NamesAt w' b (rs ++ [⟨nm, x⟩]) := by
 refine ⟨fun r hr => ?_, _, by simpa using hown, hm.put _ _, fun n hn' => ?_⟩
 ·rcases List.mem_append.1 hr with hr | hr
  ·exact h0 r hr
  ·rw [List.mem_singleton.1 hr]; exact hn
 ·rw [called_app]
  by_cases e : n = nm
  ·subst e
   rw [atKey_put_same hm (k := .string (n.map UInt8.ofNat)) trivial]
   simp [called]
  ·rw [atKey_put_other (fun e' => e (u8_inj hn' hn (by simpa using e'))), hat n hn']
   have : called [⟨nm, x⟩] n = false := by simp [called]; exact fun h => e h.symm
   rw [this, Bool.or_false]
end Go.Proofs.YtfekpkelmliejaaGreatDoor
