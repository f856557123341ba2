/-
  A text made a slice of bytes, and the bytes of another slice behind it: append([]byte(s), b...).
-/
import Derived.Test.YtkelkadalikibaaStrA
import Derived.Laws.IdiomStrings
import Derived.Deep.AppendSrc
namespace Go.Proofs.Ytkelkadalikibaa
open Go.RowKit
set_option linter.unusedSimpArgs false
set_option linter.unusedVariables false
set_option maxRecDepth 100000

theorem below_setCells {B g : Nat} {a : World} (hg : B ≤ g) : ∀ (vs : List Value) (o : Nat) (w : World), Below B a w → Below B a (w.setCells g o vs)
  | [], _, _, h => h
  | v :: vs, o, w, h => below_setCells hg vs (o + 1) _ (h.setCell (p := ⟨g, o, none⟩) hg v)

theorem byte_info : (Try.prog.info? 5).map (fun i => (i.zero, i.size, i.bytes)) = some (some (.int .u8 0), 1, 1) := by kernel_rfl
theorem row_str (t : List Nat) (h : ∀ x ∈ t, x < 256) (C : Nat) : bytesRow (strOf t) C = (t.map (fun c : Nat => Value.int .u8 (c : Int))).toArray ++ Array.replicate (C - t.length) (.int .u8 0) := by
  unfold bytesRow
  rw [strOf_size]
  congr 1
  unfold strOf
  simp only [List.map_toArray, List.map_map]
  congr 1
  apply List.map_congr_left
  intro x hx
  have := h x hx
  simp
  omega
theorem byteAt_app_left (t bs : List Nat) (i : Nat) (h : i < t.length) : byteAt (t ++ bs) i = byteAt t i := by
  unfold byteAt; rw [List.getD_eq_getElem?_getD, List.getElem?_append_left h, List.getD_eq_getElem?_getD]
theorem byteAt_app_right (t bs : List Nat) (j : Nat) : byteAt (t ++ bs) (t.length + j) = byteAt bs j := by
  unfold byteAt; rw [List.getD_eq_getElem?_getD, List.getElem?_append_right (by omega), Nat.add_sub_cancel_left, List.getD_eq_getElem?_getD]

/-- What a slice of bytes yields to an append. -/
theorem src_bytes {w : World} {B : Nat} {A : Option Addr} {bs : List Nat} (cap : Nat) (h : BytesAt w B A bs) : Src Try.prog 1 22 (.slice A bs.length cap) bs.length (bs.map (fun c : Nat => Value.int .u8 (c : Int))) w := by
  have h1 : ∀ u ∈ bs.map (fun c : Nat => Value.int .u8 (c : Int)), u.oneCell' = true := by
    intro u hu
    obtain ⟨c, _, rfl⟩ := List.mem_map.1 hu
    rfl
  rcases Nat.eq_zero_or_pos bs.length with h0 | h0
  · have e : bs = [] := List.length_eq_zero_iff.1 h0
    subst e
    cases A with
    | none => exact Src.ofNil w Try.underlying22 cap
    | some a => exact Src.ofSlice w Try.underlying22 a 0 cap [] rfl (by simp) (by simp)
  · obtain ⟨b, o, rfl, _, hc⟩ := h.2.2 h0
    refine Src.ofSlice w Try.underlying22 ⟨b, o, none⟩ bs.length cap _ (by simp) ?_ h1
    intro j u hj
    have hlt : j < bs.length := by
      rcases Nat.lt_or_ge j bs.length with h | h
      · exact h
      · rw [List.getElem?_eq_none (by simpa using h)] at hj; cases hj
    have e : (⟨b, o, none⟩ : Addr).add j = ⟨b, o + j, none⟩ := by unfold Addr.add; split <;> simp_all
    rw [e, hc j hlt]
    unfold byteAt
    rw [List.getElem?_map] at hj
    rw [List.getD_eq_getElem?_getD]
    rw [List.getElem?_eq_getElem hlt] at hj ⊢
    simpa using hj

/-- append([]byte(s), b...): a slice that holds both; what was there is as it was. -/
theorem append_str (w : World) (t : List Nat) (ht : ∀ x ∈ t, x < 256) (N : Nat) (A : Option Addr) (cap : Nat) (bs : List Nat) (hA : BytesAt w N A bs) (hN : N ≤ w.heap.size) (hl : t.length + bs.length ≤ 140737488355328) (C : Nat) (hC : C = grownCap w t.length 0 5) (ty : TypeId) :
    ∃ A' cap' w', (Builtin.append_ #[22, 22] ty #[.slice (some ⟨w.heap.size, 0, none⟩) t.length C, .slice A bs.length cap]).run Try.prog (w.drew.alloc (.cells (bytesRow (strOf t) C) 5 ((bytesRow (strOf t) C).size, (bytesRow (strOf t) C).size + 1))) = .ok (.slice A' (t ++ bs).length cap') w' ∧
      BytesAt w' w'.heap.size A' (t ++ bs) ∧ Below w.heap.size w w' := by
  obtain ⟨i0, hi, hz0, hz1, hz2⟩ := info_parts byte_info
  have hCge : t.length ≤ C := by rw [hC]; exact grownCap_ge ..
  have hrow := row_str t ht C
  have hsz : (bytesRow (strOf t) C).size = C := by rw [hrow]; simp; omega
  rw [hsz]
  generalize hW : w.drew.alloc (.cells (bytesRow (strOf t) C) 5 (C, C + 1)) = W
  have hB : Below w.heap.size w W := by subst hW; exact ((Below.refl _ _).drew).alloc (Nat.le_refl _) _
  have hWs : W.heap.size = w.heap.size + 1 := by subst hW; simp
  have hblk : W.heap[w.heap.size]? = some (.cells (bytesRow (strOf t) C) 5 (C, C + 1)) := by
    subst hW
    exact heap_alloc_new w.drew _
  have hAW : BytesAt W N A bs := hA.below (hB.mono hN)
  have hsrc := src_bytes cap hAW
  rw [← hz1] at hsrc
  have hcells : ∀ i, i < t.length → W.cell? ⟨w.heap.size, i, none⟩ = some (.int .u8 ((byteAt t i : Nat) : Int)) := by
    intro i hi
    rw [cell_of_row W w.heap.size i _ 5 (C, C + 1) hblk, hrow, Array.getElem?_append_left (by simpa using hi)]
    unfold byteAt
    simp [hi]
  have h256 : ∀ x ∈ t ++ bs, x < 256 := by
    intro x hx
    rcases List.mem_append.1 hx with h | h
    · exact ht x h
    · exact hA.1 x h
  by_cases hroom : t.length + bs.length ≤ C
  · have hsome : ∀ j, j < (bs.map (fun c : Nat => Value.int .u8 (c : Int))).length → (W.cell? ⟨w.heap.size, 0 + t.length * i0.size + j, none⟩).isSome = true := by
      intro j hj
      have hj' : j < bs.length := by simpa using hj
      rw [hz1, cell_of_row W w.heap.size _ _ 5 (C, C + 1) hblk]
      rw [Array.getElem?_eq_getElem (by rw [hsz]; omega)]
      rfl
    have hfz : ∀ j, j < (bs.map (fun c : Nat => Value.int .u8 (c : Int))).length → W.frozen? ⟨w.heap.size, 0 + t.length * i0.size + j, none⟩ = false := by
      intro j hj
      have hj' : j < bs.length := by simpa using hj
      simp only [World.frozen?, hblk, hz1]
      simp
      omega
    have hrun := run_append_room_src (P := Try.prog) W 22 22 ty 5 i0 Try.underlying22 hi w.heap.size 0 t.length C _ bs.length _ hsrc hroom hsome hfz
    refine ⟨some ⟨w.heap.size, 0, none⟩, C, _, by rw [List.length_append]; exact hrun, ⟨h256, by rw [List.length_append]; exact hl, fun _ => ⟨w.heap.size, 0, rfl, ?_, ?_⟩⟩, below_setCells (Nat.le_refl _) _ _ _ hB⟩
    · have := (below_setCells (B := 0) (a := W) (Nat.zero_le w.heap.size) (bs.map (fun c : Nat => Value.int .u8 (c : Int))) (0 + t.length * i0.size) W (Below.refl _ _)).size
      omega
    · intro i hi
      rw [hz1, Nat.zero_add, Nat.zero_add, Nat.mul_one]
      rw [hz1, Nat.zero_add, Nat.mul_one] at hsome
      by_cases hlt : i < t.length
      · rw [World.cell?_setCells_out _ _ _ _ _ (fun _ _ => .inl hlt), byteAt_app_left t bs i hlt]
        exact hcells i hlt
      · obtain ⟨j, rfl⟩ : ∃ j, i = t.length + j := ⟨i - t.length, by omega⟩
        have hj : j < bs.length := by rw [List.length_append] at hi; omega
        have hj2 : j < (bs.map (fun c : Nat => Value.int .u8 (c : Int))).length := by simpa using hj
        rw [World.cell?_setCells_in _ _ _ _ hsome j hj2, byteAt_app_right]
        unfold byteAt
        simp [hj]
  · have hold : (Builtin.firstCells i0.size t.length (.slice (some ⟨w.heap.size, 0, none⟩) t.length C)).run Try.prog W.drew = .ok (t.map (fun c : Nat => Value.int .u8 (c : Int))).toArray W.drew := by
      refine run_firstCells_some W.drew i0.size t.length ⟨w.heap.size, 0, none⟩ t.length C _ (by rw [hz1]; simp) ?_
      intro j u hj
      have hlt : j < t.length := by
        rcases Nat.lt_or_ge j t.length with h | h
        · exact h
        · rw [List.getElem?_eq_none (by simpa using h)] at hj; cases hj
      have e : (⟨w.heap.size, 0, none⟩ : Addr).add j = ⟨w.heap.size, j, none⟩ := by unfold Addr.add; split <;> simp_all
      rw [e]
      have h := hcells j hlt
      rw [List.getElem?_map, List.getElem?_eq_getElem hlt] at hj
      unfold byteAt at h
      rw [List.getD_eq_getElem?_getD, List.getElem?_eq_getElem hlt] at h
      simp at hj h
      rw [← hj]
      exact h
    have hrun := run_append_grow_src (P := Try.prog) W 22 22 ty 5 i0 (.int .u8 0) Try.underlying22 hi hz0 (some ⟨w.heap.size, 0, none⟩) t.length C _ hold _ bs.length _ hsrc (by omega) (by omega)
      (growslice_fits (by omega) (by rw [hz2]; omega))
    refine ⟨_, _, _, by rw [List.length_append]; exact hrun, ⟨h256, by rw [List.length_append]; exact hl, fun _ => ⟨W.heap.size, 0, rfl, by simp, ?_⟩⟩, (hB.drew).alloc (by simp; omega) _⟩
    intro i hi
    rw [Nat.zero_add, cell_of_row _ W.heap.size i _ 5 (0, 0) (heap_alloc_new W.drew _), Array.getElem?_append_left (by simpa using hi)]
    unfold byteAt
    simp only [List.getElem?_toArray, ← List.map_append, List.getElem?_map, List.getD_eq_getElem?_getD]
    rw [List.getElem?_eq_getElem hi]
    simp

/-- []byte(s), then append(.., b...). -/
theorem append_text (w : World) (t : List Nat) (ht : ∀ x ∈ t, x < 256) (N : Nat) (A : Option Addr) (cap : Nat) (bs : List Nat) (hA : BytesAt w N A bs) (hN : N ≤ w.heap.size) (hl : t.length + bs.length ≤ 140737488355328) :
    ∃ C W2 A' cap' w2, (convert 9 22 (.string (strOf t))).run Try.prog w = .ok (.slice (some ⟨w.heap.size, 0, none⟩) t.length C) W2 ∧
      (∀ ty, (Builtin.append_ #[22, 22] ty #[.slice (some ⟨w.heap.size, 0, none⟩) t.length C, .slice A bs.length cap]).run Try.prog W2 = .ok (.slice A' (t ++ bs).length cap') w2) ∧
      BytesAt w2 w2.heap.size A' (t ++ bs) ∧ Below w.heap.size w w2 := by
  have hk := run_bytes_of_string (P := Try.prog) w 9 22 5 (strOf t) Try.underlying9 Try.underlying22 Try.underlying5
  rw [strOf_size] at hk
  obtain ⟨A', cap', w2, h1, h2, h3⟩ := append_str w t ht N A cap bs hA hN hl _ rfl 0
  refine ⟨_, _, A', cap', w2, hk, ?_, h2, h3⟩
  intro ty
  rw [← h1]
  rfl
/-- []byte(s). -/
theorem conv_text (w : World) (t : List Nat) (ht : ∀ x ∈ t, x < 256) (hl : t.length ≤ 140737488355328) :
    ∃ C W2, (convert 9 22 (.string (strOf t))).run Try.prog w = .ok (.slice (some ⟨w.heap.size, 0, none⟩) t.length C) W2 ∧ BytesAt W2 W2.heap.size (some ⟨w.heap.size, 0, none⟩) t ∧ Below w.heap.size w W2 ∧ t.length ≤ C := by
  have hk := run_bytes_of_string (P := Try.prog) w 9 22 5 (strOf t) Try.underlying9 Try.underlying22 Try.underlying5
  rw [strOf_size] at hk
  refine ⟨_, _, hk, ⟨ht, hl, fun _ => ⟨w.heap.size, 0, rfl, by simp, ?_⟩⟩, ((Below.refl _ _).drew).alloc (Nat.le_refl _) _, grownCap_ge ..⟩
  intro i hi
  rw [Nat.zero_add, cell_of_row _ w.heap.size i _ 5 _ (heap_alloc_new w.drew _), row_str t ht, Array.getElem?_append_left (by simpa using hi)]
  unfold byteAt
  simp [hi]

/-- An append whose run is known. -/
theorem wpList_append_by {ops : Array Oper} {rest : List Oper} {o : Oper} {a : Act} {w : World} {Q : Exit → Act → World → Prop} (hgd : o.guard = none) (sl x : Operand) (t u : TypeId)
    (ho : o.op = .call { callee := .builtin .append, args := #[sl, x], argTypes := #[t, u] }) (v1 v2 v' : Value) (w' : World) (hs : a.eval sl = v1) (hx : a.eval x = v2)
    (hr : (Builtin.append_ #[t, u] o.type #[v1, v2]).run Try.prog w = .ok v' w')
    (h : wpList Try.prog ops Q rest (a.put o.dst v') w') : wpList Try.prog ops Q (o :: rest) a w := by
  refine wpList_plain hgd fun K hK => ?_
  unfold Oper.wp execOp
  simp only [ho, resolve, invoke, builtin, Sem.run_bind, Sem.run_pure, Result.andThen_ok, List.map_toArray, List.map_cons, List.map_nil, hs, hx, hr]
  exact hK _ _ h

end Go.Proofs.Ytkelkadalikibaa
