/-
  The text of lexemes: the contract of lexeme.Join.
-/
import Derived.Lib.AppendStr
import Derived.Test.YtkelkadalikibaaDoorQRTextGo
import Derived.Test.YtkelkadalikibaaDoorQSame
namespace Go.Proofs.YtkelkadalikibaaDoor
open Go.RowKit
set_option linter.unusedSimpArgs false
set_option linter.unusedVariables false
set_option maxRecDepth 100000

/-- The text of lexemes. -/
def joinS (L : List Lex) : List Nat := L.flatMap textS
theorem joinS_len : ∀ (L : List Lex), (joinS L).length ≤ L.length * 2400
  | [] => by simp [joinS]
  | x :: L => by
    have h1 := textS_len x
    have h2 := joinS_len L
    unfold joinS at h2 ⊢
    rw [List.flatMap_cons, List.length_append, List.length_cons]
    omega
theorem joinS_take {L : List Lex} {k : Nat} {x : Lex} (h : L[k]? = some x) : joinS (L.take (k + 1)) = joinS (L.take k) ++ textS x := by
  unfold joinS
  rw [List.take_add_one, h]
  simp
def joinV (L : List Lex) : Value := if L.all rightS = true then .tuple #[.string (strOf (joinS L)), .int .i64 0] else .tuple #[.string ⟨#[]⟩, .int .i64 6]
theorem joinV_bad {L : List Lex} {k : Nat} {x : Lex} (h : L[k]? = some x) (hx : rightS x = false) : joinV L = .tuple #[.string ⟨#[]⟩, .int .i64 6] := by
  refine if_neg fun ha => ?_
  have := List.all_eq_true.1 ha x (List.mem_of_getElem? h)
  rw [hx] at this
  cases this
theorem joinV_ok {L : List Lex} (h : ∀ (k : Nat) x, L[k]? = some x → rightS x = true) : joinV L = .tuple #[.string (strOf (joinS L)), .int .i64 0] := by
  refine if_pos (List.all_eq_true.2 fun x hx => ?_)
  obtain ⟨k, hk, rfl⟩ := List.mem_iff_getElem.1 hx
  exact h k _ (List.getElem?_eq_getElem hk)

theorem showS_bytes' (p : Nat → Bool) : ∀ x ∈ showS p, x < 256 := by
  have hp : ∀ l : List (Nat × Nat), (∀ x ∈ l, x.1 ≤ x.2 ∧ x.2 < 256) → ∀ y ∈ piecesS l, y < 256 := by
    intro l
    induction l with
    | nil => intro _ y hy; simp [piecesS] at hy
    | cons x l ih =>
      intro hl y hy
      have hx := hl x (by simp)
      rw [piecesS_cons] at hy
      rcases List.mem_append.1 hy with hy | hy
      · unfold pieceS at hy
        rcases List.mem_append.1 hy with hy | hy
        · exact (chr_head x.1 (by omega)).2.2.2.2 y hy
        · rcases List.mem_append.1 hy with hy | hy
          · split at hy
            · simp at hy; omega
            · simp at hy
          · split at hy
            · exact (chr_head x.2 hx.2).2.2.2.2 y hy
            · simp at hy
      · exact ih (fun z hz => hl z (by simp [hz])) y hy
  intro x hx
  unfold showS at hx
  split at hx
  · simp only [List.mem_append, List.mem_cons, List.not_mem_nil, or_false] at hx
    rcases hx with (h | h) | h | h
    · omega
    · omega
    · exact hp _ (cutsOf_in _) x h
    · omega
  · simp only [List.mem_append, List.mem_cons, List.not_mem_nil, or_false] at hx
    rcases hx with h | h | h
    · omega
    · exact hp _ (cutsOf_in _) x h
    · omega
theorem setT_bytes (p : Nat → Bool) : ∀ x ∈ setT p, x < 256 := by
  unfold setT
  split
  · rename_i h
    obtain ⟨c, hc⟩ := List.length_eq_one_iff.1 h
    rw [hc]
    exact litS_bytes c (elems_lt (m := 256) (p := p) (by rw [hc]; simp))
  · split
    · simp
    · exact showS_bytes' p
theorem repT_bytes {lo hi : Int} (h1 : lo ≤ 1000) (h2 : hi ≤ 1000) : ∀ x ∈ repT lo hi, x < 256 := by
  intro x hx
  unfold repT at hx
  have d1 := decS_bytes lo.toNat (by omega)
  have d2 := decS_bytes hi.toNat (by omega)
  simp only [List.mem_append, List.mem_cons, List.not_mem_nil, or_false] at hx
  rcases hx with h | h | h | h
  · omega
  · have := d1 x h; omega
  · split at h
    · simp at h; omega
    · split at h
      · rcases List.mem_cons.1 h with h | h
        · omega
        · have := d2 x h; omega
      · cases h
  · omega
theorem textS_bytes {x : Lex} (h : rightS x = true) : ∀ y ∈ textS x, y < 256 := by
  obtain ⟨_, h | h | h⟩ := rightS_cases h
  · unfold textS
    rw [if_pos h.1]
    exact setT_bytes _
  · unfold textS
    rw [if_neg (by omega), if_pos h.1]
    exact repT_bytes (by omega) (by omega)
  · unfold textS
    rw [if_neg (by omega), if_neg (by omega)]
    repeat' split
    all_goals simp
theorem joinS_bytes {L : List Lex} (h : ∀ (k : Nat) x, L[k]? = some x → rightS x = true) : ∀ y ∈ joinS L, y < 256 := by
  intro y hy
  obtain ⟨x, hx, hy⟩ := List.mem_flatMap.1 hy
  obtain ⟨k, hk, rfl⟩ := List.mem_iff_getElem.1 hx
  exact textS_bytes (h k _ (List.getElem?_eq_getElem hk)) y hy

theorem strCells_of (t : List Nat) (h : ∀ x ∈ t, x < 256) : Lib.strCells (strOf t) = t.map (fun c : Nat => Value.int .u8 (c : Int)) := by
  unfold Lib.strCells strOf
  simp only [List.map_map]
  apply List.map_congr_left
  intro x hx
  have := h x hx
  simp
  omega
/-- The string of a row of bytes that is owned. -/
theorem own_text {w : World} {base : Nat} {v : Value} {ns : List Nat} (h : w.ownsRow base 5 1 v ns.length (ns.map (fun n : Nat => Value.int .u8 (n : Int)))) :
    (convert 22 9 v).run Tryd.prog w = .ok (.string (strOf ns)) w := by
  rcases h.2 with ⟨rfl, h0⟩ | ⟨g, cap, cur, hv, hb, hh, _⟩
  · have : ns = [] := List.length_eq_zero_iff.1 h0
    subst this
    rw [run_convert_bytes_string w _ _ 5 none _ _ Tryd.underlying22 Tryd.underlying5 Tryd.underlying9]
    rfl
  · subst hv
    exact run_str w ⟨g, 0, none⟩ cap ns (h.cells (g := g) rfl)

end Go.Proofs.YtkelkadalikibaaDoor
