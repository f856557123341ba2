/- Texts of the claim. -/
import Derived.Test.YtfekpkelmliejaaGreatDoorQFrameT
import Derived.Test.YtfekpkelmliejaaGreatDoorQZ03
namespace Go.Proofs.YtfekpkelmliejaaGreatDoor
open Go.ChangeShapes Go.WideShapes Go.ChangeAt Go.RowKit
set_option linter.unusedSimpArgs false
set_option linter.unusedVariables false
set_option maxRecDepth 100000
set_option maxHeartbeats 8000000
section
variable {H : Type} {enc : TypeId × Value → H} {W : World} {fuel : Nat}
theorem bulk_len2 {H : Type} : ∀ es : List (DataW H), es.length ≤ Rows.uptoBulkAll es
 | [] => Nat.zero_le _
 | d :: r => by
  have := bulk_len2 r
  have := bulk_pos d
  simp only [Rows.uptoBulkAll, List.length_cons]
  omega
theorem row_came {α : Type} (F : α → List Value) (n : Nat) (t e : TypeId) (hu : Tryz.prog.underlying t = some (.slice e)) (hce : Tryz.prog.cellsOf e = n) (hn : 0 < n) (hF : ∀ x, ∃ u, (F x)[0]? = some u) (hFn : ∀ x, (F x).length = n)
  (hel : ∀ (fuel : Nat) (cs : List Value) (y : DataW H × List MemPlace), DataW.trod enc Tryz.prog W 0 (fun _ => true) true fuel e cs = some y → ∃ x : α, cs = F x)
  {v : Value} {y : DataW H × List MemPlace} (h : DataW.trod enc Tryz.prog W 0 (fun _ => true) true fuel t [v] = some y) :
  ∃ (L : List α) (A : Option Addr) (cap : Nat), v = .slice A L.length cap ∧ L.length ≤ cap ∧ L.length ≤ Rows.uptoBulk y.1 ∧ ∀ (i : Nat) (x : α), L[i]? = some x → ∃ b o, A = some ⟨b, o, none⟩ ∧ ∀ j u, j < n → (F x)[j]? = some u → W.cell? ⟨b, o + i * n + j, none⟩ = some u := by
 rcases DataW.trod_slice hu h with ⟨hcs, hd⟩ | ⟨a, l, c, elems, rest, m, _, hcs, hd, hb, hlc, hm, hel2, hc, _, _⟩
 ·simp at hcs
  exact ⟨[], none, 0, hcs, Nat.le_refl _, Nat.zero_le _, fun i x hx => by simp at hx⟩
 ·simp at hcs
  rw [hce] at hc
  have hx : ∀ i, i < l → ∃ x : α, W.cells? 0 (a.add (i * n)) n = some (F x) := by
   intro i hi
   have h1 := hc i hi
   rw [List.getElem?_eq_getElem (by omega)] at h1
   obtain ⟨cs, h2, h3⟩ := Option.bind_eq_some_iff.1 h1
   obtain ⟨x, rfl⟩ := hel _ _ _ h3
   exact ⟨x, h2⟩
  obtain ⟨L, hL⟩ : ∃ L : List α, L.length = l ∧ ∀ i x, L[i]? = some x → W.cells? 0 (a.add (i * n)) n = some (F x) := by
   have : ∀ k, k ≤ l → ∃ L : List α, L.length = k ∧ ∀ i x, L[i]? = some x → W.cells? 0 (a.add (i * n)) n = some (F x) := by
    intro k
    induction k with
    | zero => exact fun _ => ⟨[], rfl, fun i x hx => by simp at hx⟩
    | succ k ih =>
     intro hk
     obtain ⟨L, h1, h2⟩ := ih (by omega)
     obtain ⟨x, hx⟩ := hx k (by omega)
     refine ⟨L ++ [x], by simp [h1], fun i z hz => ?_⟩
     rcases Nat.lt_or_ge i L.length with hi | hi
     ·rw [List.getElem?_append_left hi] at hz
      exact h2 i z hz
     ·rw [List.getElem?_append_right hi] at hz
      have : i - L.length = 0 := by
       rcases Nat.eq_zero_or_pos (i - L.length) with h0 | h0
       ·exact h0
       ·rw [List.getElem?_eq_none (by simp; omega)] at hz; cases hz
      rw [this] at hz
      cases hz
      rw [show i = k by omega]
      exact hx
   exact this l (Nat.le_refl _)
  refine ⟨L, some a, c, by rw [hL.1]; exact hcs, by rw [hL.1]; exact hlc, ?_, fun i x hxi => ?_⟩
  ·rw [hd]
   simp only [Rows.uptoBulk]
   have := bulk_len2 (elems.map (·.1))
   simp at this
   omega
  ·obtain ⟨bl, off, spot⟩ := a
   have h1 := hL.2 i x hxi
   obtain ⟨_, _, h3⟩ := World.cells?_some h1
   have hlt := (List.getElem?_eq_some_iff.1 hxi).1
   obtain ⟨x0, hx0⟩ : ∃ x0, L[0]? = some x0 := ⟨_, List.getElem?_eq_getElem (by omega)⟩
   obtain ⟨_, _, h30⟩ := World.cells?_some (hL.2 0 x0 hx0)
   obtain ⟨u0, hu0⟩ := hF x0
   have h00 := h30 0 hn
   rw [hu0] at h00
   have hsp : spot = none := by
    have := World.cell?_spot h00
    simpa [Addr.add] using this
   subst hsp
   refine ⟨bl, off, rfl, fun j u hj hu => ?_⟩
   have := h3 j hj
   rw [addr_add, addr_add, hu] at this
   exact this
theorem intsf_came {v : Value} {y : DataW H × List MemPlace} (h : DataW.trod enc Tryz.prog W 0 (fun _ => true) true fuel 41 [v] = some y) : ∃ (L : List Int) (A : Option Addr) (cap : Nat), v = .slice A L.length cap ∧ L.length ≤ Rows.uptoBulk y.1 ∧ IntsAt W A L := by
 obtain ⟨L, A, cap, h1, _, h2, h3⟩ := row_came (fun p : Int => [.int .i64 p]) 1 41 3 Tryz.underlying41 cellsInt (by decide) (fun x => ⟨_, rfl⟩) (fun x => rfl) (fun f cs y h => by
  obtain ⟨a, q, _, _⟩ := DataW.trod_int Tryz.underlying3 h
  exact ⟨a, q⟩) h
 refine ⟨L, A, cap, h1, h2, fun i p hp => ?_⟩
 obtain ⟨b, o, hA, hc⟩ := h3 i p hp
 have := hc 0 _ (by decide) rfl
 rw [Nat.mul_one] at this
 exact ⟨b, o, hA, this⟩
theorem ints_came {A : Option Addr} {len cap : Nat} {d : DataW H} {p : List MemPlace} (h : DataW.Trod enc Tryz.prog W 0 (fun _ => true) true 41 (.slice A len cap) d p) : ∃ xs : List Int, xs.length = len ∧ IntsAt W A xs ∧ len ≤ Rows.uptoBulk d := by
 obtain ⟨fuel, hf⟩ := h
 obtain ⟨L, A', cap', e, h1, h2⟩ := intsf_came (y := (d, p)) (v := .slice A len cap) hf
 cases e
 exact ⟨L, rfl, h2, h1⟩
end
end Go.Proofs.YtfekpkelmliejaaGreatDoor
