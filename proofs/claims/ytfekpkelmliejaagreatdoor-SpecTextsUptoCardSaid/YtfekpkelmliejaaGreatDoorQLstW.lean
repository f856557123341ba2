/- Texts of the claim. -/
import Derived.Lib.BytesEntry
import Derived.Test.YtfekpkelmliejaaGreatDoorQLstS
import Derived.Test.YtfekpkelmliejaaGreatDoorQFactK
namespace Go.Proofs.YtfekpkelmliejaaGreatDoor
open Go.RowKit
set_option linter.unusedSimpArgs false
set_option linter.unusedVariables false
set_option maxRecDepth 100000
set_option maxHeartbeats 8000000
theorem append_own_bytes (w : World) (base : Nat) (v : Value) (acc : List Nat) (hown : w.ownsRow base 5 1 v acc.length (acc.map (fun n : Nat => Value.int .u8 (n : Int)))) {N : Nat} {A : Option Addr} (c : Nat) {bs : List Nat} (hA : BytesAt w N A bs) (hs : acc.length + bs.length ≤ 100000000000) (hbase : base ≤ w.heap.size)
  (t ty : TypeId) (ht : Tryz.prog.underlying t = some (.slice 5)) :
  ∃ v' w', (Builtin.append_ #[t, t] ty #[v, .slice A bs.length c]).run Tryz.prog w = .ok v' w' ∧ w'.ownsRow base 5 1 v' (acc ++ bs).length ((acc ++ bs).map (fun n : Nat => Value.int .u8 (n : Int))) ∧ w.grownBy w' v.ownBlock := by
 obtain ⟨i0, hi, hz0, hz1, hz2⟩ := info_parts byte_info
 have h63 : acc.length + bs.length ≤ maxLen := Nat.le_trans hs (by decide)
 have hby : (acc.length + bs.length) * 1 ≤ 140737488355328 := by omega
 cases A with
 | none =>
  have h0 : bs = [] := by
   by_cases h0 : bs = []
   ·exact h0
   ·obtain ⟨b, o, e, _⟩ := hA.2.2 (List.length_pos_iff.2 h0)
    cases e
  subst h0
  refine ⟨v, w, ?_, by simpa using hown, ⟨rfl, rfl, rfl, Nat.le_refl _, fun _ _ _ => rfl⟩⟩
  rcases hown.2 with ⟨rfl, _⟩ | ⟨g, cap, cur, rfl, _, _, hnc, _⟩
  ·simp [Builtin.append_, run_underlying ht, sizeOf, typeInfo, hi, Builtin.lenOf, Builtin.firstCells]
  ·simp [Builtin.append_, run_underlying ht, sizeOf, typeInfo, hi, Builtin.lenOf, Builtin.firstCells, hnc, storeCells]
 | some a =>
  have hcells : ∀ j u, (bs.map (fun n : Nat => Value.int .u8 (n : Int)))[j]? = some u → w.cell? (a.add j) = some u := fun j u hj => by
   rw [List.getElem?_map] at hj
   have hjl : j < bs.length := by
    rcases Nat.lt_or_ge j bs.length with h1 | h1
    ·exact h1
    ·rw [List.getElem?_eq_none h1] at hj; cases hj
   obtain ⟨b, o, e, _, hc⟩ := hA.2.2 (by omega)
   cases e
   have e2 : (⟨b, o, none⟩ : Addr).add j = ⟨b, o + j, none⟩ := by unfold Addr.add; split <;> simp_all
   rw [e2, hc j hjl]
   rw [List.getElem?_eq_getElem hjl] at hj
   simp only [Option.map_some, Option.some.injEq] at hj
   rw [← hj]
   unfold byteAt
   simp [List.getD, hjl]
  obtain ⟨v', w', h1, h2, h3, _⟩ := run_append_own_at (P := Tryz.prog) w base t ty 5 i0 _ 1 1 ht hi hz0 hz1 hz2 rfl (by decide) v acc.length _ hown a bs.length c (bs.map (fun n : Nat => Value.int .u8 (n : Int))) (by simp) hcells (fun u hu => by obtain ⟨_, _, rfl⟩ := List.mem_map.1 hu; rfl) h63 hby hbase
  exact ⟨v', w', h1, by rw [List.length_append, List.map_append]; exact h2, h3⟩
end Go.Proofs.YtfekpkelmliejaaGreatDoor
