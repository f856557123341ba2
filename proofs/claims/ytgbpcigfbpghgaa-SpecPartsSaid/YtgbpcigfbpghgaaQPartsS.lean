/-
  What is said of the rules that are read: their kinds of errors, their names' bytes.
-/
import Derived.Test.YtgbpcigfbpghgaaQSpecRead
namespace Go.Proofs.Ytgbpcigfbpghgaa
open Go.RowKit
set_option linter.unusedSimpArgs false
set_option linter.unusedVariables false
set_option maxRecDepth 100000

theorem lineAt_lt {bs : List Nat} (h : ∀ x ∈ bs, x < 256) (i : Nat) : ∀ x ∈ lineAt bs i, x < 256 := fun x hx => by
  unfold lineAt at hx
  exact h x (List.mem_of_mem_drop ((List.takeWhile_sublist _).subset hx))
theorem stepS_kind {bs : List Nat} (hb : ∀ x ∈ bs, x < 256) {rs : List RuleS} {i : Nat} {k q : Int} (h : stepS bs rs i = .error (k, q)) : k ≠ 0 := by
  unfold stepS at h
  split at h
  · cases h
  · cases hx : lineS rs (lineAt bs i) with
    | error e =>
      obtain ⟨k', q'⟩ := e
      rw [hx] at h
      cases h
      exact (lineS_kind (lineAt_lt hb i) hx).1
    | ok r => rw [hx] at h; cases h
theorem foldS_kind {bs : List Nat} (hb : ∀ x ∈ bs, x < 256) : ∀ {l : List Nat} {rs : List RuleS} {k q : Int}, foldS bs rs l = .error (k, q) → k ≠ 0
  | [], rs, k, q, h => by cases h
  | i :: l, rs, k, q, h => by
    unfold foldS at h
    cases hs : stepS bs rs i with
    | error e =>
      obtain ⟨k', q'⟩ := e
      rw [hs] at h
      cases h
      exact stepS_kind hb hs
    | ok r => rw [hs] at h; exact foldS_kind hb h
theorem rulesS_kind {bs : List Nat} (hb : ∀ x ∈ bs, x < 256) {k q : Int} (h : rulesS bs = .error (k, q)) : k ≠ 0 := by
  rcases Nat.lt_or_ge 65536 bs.length with h1 | h1
  · rw [rulesS_long h1] at h; cases h; decide
  · rw [rulesS_fold h1] at h; exact foldS_kind hb h
theorem stepS_lt {bs : List Nat} (hb : ∀ x ∈ bs, x < 256) {rs rs' : List RuleS} {i : Nat} (h : stepS bs rs i = .ok rs') (hl : ∀ r ∈ rs, ∀ c ∈ r.name, c < 256) : ∀ r ∈ rs', ∀ c ∈ r.name, c < 256 := by
  unfold stepS at h
  split at h
  · cases h; exact hl
  · cases hx : lineS rs (lineAt bs i) with
    | error e => rw [hx] at h; cases h
    | ok r =>
      rw [hx] at h
      cases h
      intro x hm
      rcases List.mem_append.1 hm with hm | hm
      · exact hl x hm
      · rw [List.mem_singleton.1 hm, (headS_ok (lineS_ok hx).1).2.1]
        exact fun c hc => lineAt_lt hb i c (List.mem_of_mem_take hc)
theorem foldS_lt {bs : List Nat} (hb : ∀ x ∈ bs, x < 256) : ∀ {l : List Nat} {rs rs' : List RuleS}, foldS bs rs l = .ok rs' → (∀ r ∈ rs, ∀ c ∈ r.name, c < 256) → ∀ r ∈ rs', ∀ c ∈ r.name, c < 256
  | [], rs, rs', h, hl => by cases h; exact hl
  | i :: l, rs, rs', h, hl => by
    unfold foldS at h
    cases hs : stepS bs rs i with
    | error e => rw [hs] at h; cases h
    | ok r => rw [hs] at h; exact foldS_lt hb h (stepS_lt hb hs hl)
theorem rulesS_lt {bs : List Nat} (hb : ∀ x ∈ bs, x < 256) {rs : List RuleS} (h : rulesS bs = .ok rs) : ∀ r ∈ rs, ∀ c ∈ r.name, c < 256 := by
  rw [rulesS_fold (rulesS_ok_len h)] at h
  exact foldS_lt hb h (fun r hr => by cases hr)
/-- The two texts with a newline between them. -/
theorem bothN_str (a b : List Nat) : strOf (a ++ 10 :: b) = (strOf a ++ (⟨#[10]⟩ : ByteArray)) ++ strOf b := by
  rw [show (⟨#[10]⟩ : ByteArray) = strOf [10] from rfl, strOf_append, strOf_append, List.append_assoc]
  rfl
theorem bothN_lt {a b : List Nat} (h : ∀ x ∈ a, x < 256) (h2 : ∀ x ∈ b, x < 256) : ∀ x ∈ a ++ 10 :: b, x < 256 := fun z hz => by
  simp at hz
  rcases hz with hz | rfl | hz
  · exact h z hz
  · decide
  · exact h2 z hz
theorem addr_plusN (b o j : Nat) : (⟨b, o, none⟩ : Addr).add j = ⟨b, o + j, none⟩ := by unfold Addr.add; split <;> simp_all
/-- The string of a slice of bytes. -/
theorem bytes_strN {w : World} {B : Nat} {A : Option Addr} {bs : List Nat} (cap : Nat) (h : BytesAt w B A bs) : (convert 22 9 (.slice A bs.length cap)).run Try.prog w = .ok (.string (strOf bs)) w := by
  by_cases h0 : bs = []
  · subst h0
    cases A with
    | none =>
      rw [run_convert_bytes_string w _ _ 5 none _ _ Try.underlying22 Try.underlying5 Try.underlying9]
      rfl
    | some a => exact run_str w a cap [] (fun j u hu => by simp at hu)
  · obtain ⟨b, o, rfl, _, hc⟩ := h.2.2 (List.length_pos_iff.2 h0)
    refine run_str w ⟨b, o, none⟩ cap bs (fun j u hu => ?_)
    have hj : j < bs.length := by
      rcases Nat.lt_or_ge j bs.length with h1 | h1
      · exact h1
      · rw [List.getElem?_eq_none (by simpa using h1)] at hu; cases hu
    rw [addr_plusN, hc j hj]
    rw [List.getElem?_map, List.getElem?_eq_getElem hj] at hu
    rw [← byteAt_get hj]
    simpa using hu
end Go.Proofs.Ytgbpcigfbpghgaa
