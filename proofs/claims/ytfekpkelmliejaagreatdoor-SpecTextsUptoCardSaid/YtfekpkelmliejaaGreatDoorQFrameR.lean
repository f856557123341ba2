/- Texts of the claim. -/
import Derived.Test.YtfekpkelmliejaaGreatDoorQFrameT
import Derived.Test.YtfekpkelmliejaaGreatDoorQSpcR
namespace Go.Proofs.YtfekpkelmliejaaGreatDoor
open Go.ChangeShapes Go.WideShapes Go.ChangeAt Go.RowKit
set_option linter.unusedSimpArgs false
set_option linter.unusedVariables false
set_option maxRecDepth 100000
set_option maxHeartbeats 8000000
theorem cellsRule : Tryz.prog.cellsOf 120 = 9 := by kernel_rfl
theorem cellsString9 : Tryz.prog.cellsOf 9 = 1 := by kernel_rfl
theorem str_of_any (s : ByteArray) : ∃ bs : List Nat, s = strOf bs ∧ (∀ c ∈ bs, c < 256) ∧ bs.length = s.size ∧ bs.length = s.data.toList.length := by
 refine ⟨s.data.toList.map UInt8.toNat, ?_, fun c hc => ?_, (List.length_map _).trans Array.length_toList, List.length_map _⟩
 ·unfold strOf
  rw [List.map_map]
  have : (UInt8.ofNat ∘ UInt8.toNat) = id := funext fun c => (show UInt8.ofNat c.toNat = c from UInt8.ofNat_toNat)
  rw [this, List.map_id]
 ·obtain ⟨u, _, rfl⟩ := List.mem_map.1 hc
  exact u.toNat_lt
theorem mem_le_sum : ∀ {l : List Nat} {n : Nat}, n ∈ l → n ≤ l.sum
 | m :: l, n, h => by
  rcases List.mem_cons.1 h with rfl | h
  ·simp
  ·have := mem_le_sum h
   simp
   omega
section
variable {H : Type} {enc : TypeId × Value → H} {W : World}
theorem rule_came {fuel : Nat} {cs : List Value} {y : DataW H × List MemPlace} (h : DataW.trod enc Tryz.prog W 0 (fun _ => true) true fuel 120 cs = some y) :
  ∃ (r : RuleS) (B : Option Addr) (cap : Nat), cs = ruleCell r B cap ∧ r.body.kids.len ≤ cap ∧ TreesAt W (fun b => b < W.heap.size) r.body.kids B ∧ (∀ c ∈ r.name, c < 256) ∧ r.name.length + r.body.size ≤ Rows.uptoBulk y.1 := by
 obtain ⟨xs, n, hfn, hy, hl, hxl, hf⟩ := DataW.trod_struct Tryz.underlying120 h
 rw [cellsRule] at hl
 obtain ⟨v0, v1, v2, v3, v4, v5, v6, v7, v8, rfl⟩ : ∃ v0 v1 v2 v3 v4 v5 v6 v7 v8, cs = [v0, v1, v2, v3, v4, v5, v6, v7, v8] := by
  match cs, hl with
  | [a, b, c, d, e, f, g, h, i], _ => exact ⟨a, b, c, d, e, f, g, h, i, rfl⟩
 have g0 : DataW.trod enc Tryz.prog W 0 (fun _ => true) true n 9 (([v0, v1, v2, v3, v4, v5, v6, v7, v8].drop 0).take (Tryz.prog.cellsOf 9)) = xs[0]? := hf 0 _ rfl
 have g1 : DataW.trod enc Tryz.prog W 0 (fun _ => true) true n 28 (([v0, v1, v2, v3, v4, v5, v6, v7, v8].drop 1).take (Tryz.prog.cellsOf 28)) = xs[1]? := hf 1 _ rfl
 have hs : ∀ i, i < 2 → ∃ z, xs[i]? = some z := fun i hi => ⟨_, List.getElem?_eq_getElem (by rw [hxl]; exact hi)⟩
 obtain ⟨z0, e0⟩ := hs 0 (by decide)
 obtain ⟨z1, e1⟩ := hs 1 (by decide)
 rw [e0, cellsString9] at g0
 rw [e1, cellsNode] at g1
 obtain ⟨s, q0, q1, _⟩ := DataW.trod_string Tryz.underlying9 g0
 obtain ⟨x, B, cap, k1, k2, k3, k4⟩ := node_came (fun m _ => came_all m) g1
 obtain ⟨bs, rfl, hb, _, hbl⟩ := str_of_any s
 simp at q0
 subst q0
 have k1' : [v1, v2, v3, v4, v5, v6, v7, v8] = ndCell x B cap := k1
 have hz : xs = [z0, z1] := by
  match xs, hxl, e0, e1 with
  | [a, b], _, e0, e1 => simp at e0 e1; rw [e0, e1]
 refine ⟨⟨bs, x⟩, B, cap, by unfold ruleCell; rw [← k1'], k2, k3, hb, ?_⟩
 rw [hy, hz, q1]
 simp only [List.map_cons, List.map_nil, Rows.uptoBulk, Rows.uptoBulkAll]
 rw [← hbl]
 show bs.length + x.size ≤ _
 omega
theorem rules_came {A : Option Addr} {len cap : Nat} {d : DataW H} {p : List MemPlace} (h : DataW.Trod enc Tryz.prog W 0 (fun _ => true) true 68 (.slice A len cap) d p) :
  ∃ rs : List RuleS, rs.length = len ∧ RulesAt W (fun b => b < W.heap.size) rs A ∧ len ≤ cap ∧ (∀ r ∈ rs, ∀ c ∈ r.name, c < 256) ∧ (rs.map fun r => r.name.length + r.body.size).sum ≤ Rows.uptoBulk d := by
 obtain ⟨fuel, h⟩ := h
 have h : DataW.trod enc Tryz.prog W 0 (fun _ => true) true fuel 68 [.slice A len cap] = some (d, p) := h
 rcases DataW.trod_slice Tryz.underlying68 h with ⟨hcs, hd⟩ | ⟨a, l, c, elems, rest, n, hfn, hcs, hd, hb, hlc, hm, hel, hc, _, _⟩
 ·simp at hcs
  obtain ⟨rfl, rfl, rfl⟩ := hcs
  exact ⟨[], rfl, RulesAt.nil, Nat.le_refl _, by simp, Nat.zero_le _⟩
 ·simp at hcs
  obtain ⟨rfl, rfl, rfl⟩ := hcs
  rw [cellsRule] at hc
  have hx : ∀ i, i < len → ∃ (r : RuleS) (B : Option Addr) (capx : Nat) (cs : List Value) (e : DataW H × List MemPlace), elems[i]? = some e ∧ W.cells? 0 (a.add (i * 9)) 9 = some cs ∧ cs = ruleCell r B capx ∧ r.body.kids.len ≤ capx ∧ TreesAt W (fun b => b < W.heap.size) r.body.kids B ∧ (∀ c ∈ r.name, c < 256) ∧ r.name.length + r.body.size ≤ Rows.uptoBulk e.1 := by
   intro i hi
   have h1 := hc i hi
   rw [List.getElem?_eq_getElem (by omega)] at h1
   obtain ⟨cs, h2, h3⟩ := Option.bind_eq_some_iff.1 h1
   obtain ⟨x, B, capx, k1, k2, k3, k4, k5⟩ := rule_came h3
   exact ⟨x, B, capx, cs, _, List.getElem?_eq_getElem (by omega), h2, k1, k2, k3, k4, k5⟩
  classical
  let f : Nat → RuleS := fun i => if hi : i < len then Classical.choose (hx i hi) else ⟨[], ⟨0, 0, .nil, 0, 0⟩⟩
  have hf2 : ∀ i (hi : i < len), f i = Classical.choose (hx i hi) := fun i hi => dif_pos hi
  have hspec : ∀ i (hi : i < len), ∃ (B : Option Addr) (capx : Nat) (cs : List Value) (e : DataW H × List MemPlace), elems[i]? = some e ∧ W.cells? 0 (a.add (i * 9)) 9 = some cs ∧ cs = ruleCell (f i) B capx ∧ (f i).body.kids.len ≤ capx ∧ TreesAt W (fun b => b < W.heap.size) (f i).body.kids B ∧ (∀ c ∈ (f i).name, c < 256) ∧ (f i).name.length + (f i).body.size ≤ Rows.uptoBulk e.1 := fun i hi => by
   have := Classical.choose_spec (hx i hi)
   rw [← hf2 i hi] at this
   exact this
  have hget : ∀ i, i < len → ((List.range len).map f)[i]? = some (f i) := fun i hi => by rw [List.getElem?_map, List.getElem?_range hi]; rfl
  refine ⟨(List.range len).map f, by simp, fun i r hr => ?_, hlc, fun r hr => ?_, ?_⟩
  ·have hi : i < len := by
    have := (List.getElem?_eq_some_iff.mp hr).1
    simpa using this
   rw [hget i hi] at hr
   obtain rfl := Option.some.inj hr
   obtain ⟨bl, off, spot⟩ := a
   obtain ⟨B0, c0, cs0, z0, _, hcs0, hx0, _⟩ := hspec 0 (by omega)
   obtain ⟨_, _, hcell0⟩ := World.cells?_some hcs0
   have h00 := hcell0 0 (by decide)
   rw [hx0] at h00
   have hspot : spot = none := by
    have := World.cell?_spot (v := .string (strOf (f 0).name)) (by simpa [ruleCell] using h00)
    simpa [Addr.add] using this
   subst hspot
   obtain ⟨B, capx, cs, e, _, h1, h2, h3, h4, _⟩ := hspec i hi
   obtain ⟨_, _, h5⟩ := World.cells?_some h1
   rw [h2] at h5
   have g : ∀ j u, j < 9 → (ruleCell (f i) B capx)[j]? = some u → W.cell? ⟨bl, off + i * 9 + j, none⟩ = some u := fun j u hj hu => by
    have := h5 j hj
    rw [addr_add, addr_add, hu] at this
    exact this
   have c0 := g 0 _ (by decide) rfl
   exact ⟨bl, off, B, capx, rfl, World.block_lt_of_cell? W _ c0, h3, c0, ⟨g 1 _ (by decide) rfl, g 2 _ (by decide) rfl, g 3 _ (by decide) rfl, g 4 _ (by decide) rfl, g 5 _ (by decide) rfl, g 6 _ (by decide) rfl, g 7 _ (by decide) rfl, g 8 _ (by decide) rfl⟩, h4⟩
  ·obtain ⟨i, hi, rfl⟩ := List.mem_map.1 hr
   obtain ⟨_, _, _, _, _, _, _, _, _, hb, _⟩ := hspec i (List.mem_range.1 hi)
   exact hb
  ·have hd1 : d = _ := congrArg Prod.fst hd
   rw [hd1]
   simp only [Rows.uptoBulk]
   have := bulk_sum (elems.map (·.1)) (((List.range len).map f).map fun r => r.name.length + r.body.size) (by simpa using hel) (fun i d k h1 h2 => by
    have hi : i < len := by
     have := (List.getElem?_eq_some_iff.mp h2).1
     simpa using this
    rw [List.getElem?_map, hget i hi] at h2
    obtain rfl := Option.some.inj h2
    obtain ⟨B, capx, cs, e, he, _, _, _, _, _, h6⟩ := hspec i hi
    rw [List.getElem?_map, he] at h1
    obtain rfl := Option.some.inj h1
    exact h6)
   omega
theorem rules_fit {A : Option Addr} {len cap : Nat} {d : DataW H} {p : List MemPlace} (h : DataW.Trod enc Tryz.prog W 0 (fun _ => true) true 68 (.slice A len cap) d p) (hb : Rows.uptoBulk d ≤ 1048576) :
  ∃ rs : List RuleS, rs.length = len ∧ RulesAt W (fun b => b < W.heap.size) rs A ∧ len ≤ cap ∧ Fit rs := by
 obtain ⟨rs, h1, h2, h3, h4, h5⟩ := rules_came h
 have hm : ∀ r ∈ rs, r.name.length + r.body.size ≤ (rs.map fun r => r.name.length + r.body.size).sum := fun r hr => mem_le_sum (List.mem_map.2 ⟨r, hr, rfl⟩)
 have hp : ∀ l : List RuleS, l.length ≤ (l.map fun r => r.name.length + r.body.size).sum := by
  intro l
  induction l with
  | nil => simp
  | cons r l ih =>
   have : 1 ≤ r.body.size := by unfold Nd.size; omega
   simp only [List.map_cons, List.sum_cons, List.length_cons]
   omega
 exact ⟨rs, h1, h2, h3, h4, fun r hr => by have := hm r hr; omega, fun r hr => by have := hm r hr; omega, by have := hp rs; omega⟩
end
end Go.Proofs.YtfekpkelmliejaaGreatDoor
