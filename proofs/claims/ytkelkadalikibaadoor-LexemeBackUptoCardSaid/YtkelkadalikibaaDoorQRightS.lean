/-
  May a lexeme be? What is read may be; its places rise. No program in sight.
-/
import Derived.Test.YtkelkadalikibaaDoorQRight
import Derived.Test.YtkelkadalikibaaDoorQCut
namespace Go.Proofs.YtkelkadalikibaaDoor
open Go.RowKit
set_option linter.unusedSimpArgs false
set_option linter.unusedVariables false
set_option maxRecDepth 100000

/-- May a lexeme be? -/
def rightS (x : Lex) : Bool := rightV x.kind x.place (word x.set 0 : Nat) (word x.set 1 : Nat) (word x.set 2 : Nat) (word x.set 3 : Nat) x.lo x.hi
/-- What a lexeme that may be is. -/
theorem rightS_cases {x : Lex} (h : rightS x = true) : 0 ≤ x.place ∧ ((x.kind = 1 ∧ x.lo = 0 ∧ x.hi = 0) ∨
    (x.kind = 8 ∧ 0 ≤ x.lo ∧ x.lo ≤ 1000 ∧ (x.hi = -1 ∨ x.lo ≤ x.hi ∧ x.hi ≤ 1000) ∧ ∀ i, i < 4 → word x.set i = 0) ∨
    (2 ≤ x.kind ∧ x.kind ≤ 7 ∧ x.lo = 0 ∧ x.hi = 0 ∧ ∀ i, i < 4 → word x.set i = 0)) := by
  unfold rightS rightV at h
  rw [Bool.and_eq_true, Bool.and_eq_true, decide_eq_true_eq] at h
  obtain ⟨⟨h1, h2⟩, h3⟩ := h
  refine ⟨h1, ?_⟩
  by_cases hk : x.kind = 1
  · rw [if_neg (by omega)] at h3
    simp at h3
    exact .inl ⟨hk, h3.1.1.1, h3.1.1.2⟩
  rw [Bool.or_eq_true, decide_eq_true_eq] at h2
  have hz := h2.resolve_left hk
  simp at hz
  have hw : ∀ i, i < 4 → word x.set i = 0 := by
    intro i hi
    match i, hi with
    | 0, _ => exact hz.1.1.1
    | 1, _ => exact hz.1.1.2
    | 2, _ => exact hz.1.2
    | 3, _ => exact hz.2
  by_cases h8 : x.kind = 8
  · rw [if_pos h8] at h3
    unfold repV at h3
    simp at h3
    exact .inr (.inl ⟨h8, h3.1.1, h3.1.2, h3.2, hw⟩)
  · rw [if_neg h8] at h3
    simp at h3
    exact .inr (.inr ⟨by omega, by omega, h3.1.1.1, h3.1.1.2, hw⟩)

theorem word_empty (i : Nat) (hi : i < 4) : word noSet i = 0 := by
  match i, hi with
  | 0, _ => rfl
  | 1, _ => rfl
  | 2, _ => rfl
  | 3, _ => rfl

/-! What is read may be; its places rise. -/
theorem right_set (i : Nat) (p : Nat → Bool) : rightS ⟨1, (i : Int), p, 0, 0⟩ = true := by simp [rightS, rightV]
theorem right_rep_of (i : Nat) (lo : Nat) (hi : Int) (h1 : lo ≤ 1000) (h2 : hi = -1 ∨ (lo : Int) ≤ hi ∧ hi ≤ 1000) : rightS ⟨8, (i : Int), noSet, (lo : Int), hi⟩ = true := by
  have e0 := word_empty 0 (by decide)
  have e1 := word_empty 1 (by decide)
  have e2 := word_empty 2 (by decide)
  have e3 := word_empty 3 (by decide)
  unfold rightS rightV repV
  simp [e0, e1, e2, e3]
  omega
theorem right_sign_of (i c : Nat) (h : signKind c ≠ 0) : rightS ⟨signKind c, (i : Int), noSet, 0, 0⟩ = true := by
  have e0 := word_empty 0 (by decide)
  have e1 := word_empty 1 (by decide)
  have e2 := word_empty 2 (by decide)
  have e3 := word_empty 3 (by decide)
  have hk : signKind c = 2 ∨ signKind c = 3 ∨ signKind c = 4 ∨ signKind c = 5 ∨ signKind c = 6 ∨ signKind c = 7 := by
    unfold signKind at h ⊢
    repeat' split
    all_goals simp_all
  unfold rightS rightV
  rcases hk with hk | hk | hk | hk | hk | hk
  all_goals simp [hk, e0, e1, e2, e3]
theorem repS_right {bs : List Nat} {i j : Nat} {x : Lex} (h : repS bs i = .ok (x, j)) : rightS x = true := by
  unfold repS at h
  split at h
  · cases h
  · rename_i lo m hm
    have h1 := takeS_some hm
    split at h
    · split at h
      · rw [← (Prod.mk.inj (Except.ok.inj h)).1]
        exact right_rep_of i lo (-1) h1.1 (.inl rfl)
      · split at h
        · cases h
        · rename_i hi k hk
          have h2 := takeS_some hk
          split at h
          · split at h
            · cases h
            · rw [← (Prod.mk.inj (Except.ok.inj h)).1]
              exact right_rep_of i lo (hi : Int) h1.1 (.inr (by omega))
          · cases h
    · split at h
      · rw [← (Prod.mk.inj (Except.ok.inj h)).1]
        exact right_rep_of i lo (lo : Int) h1.1 (.inr (by omega))
      · cases h
theorem lexS_right {bs : List Nat} {i j : Nat} {x : Lex} (h : lexS bs i = .ok (x, j)) : rightS x = true := by
  unfold lexS at h
  split at h
  · rw [← (Prod.mk.inj (Except.ok.inj h)).1]; exact right_set i _
  split at h
  · split at h
    · rw [← (Prod.mk.inj (Except.ok.inj h)).1]; exact right_set i _
    · cases h
  split at h
  · split at h
    · rw [← (Prod.mk.inj (Except.ok.inj h)).1]; exact right_set i _
    · cases h
  split at h
  · exact repS_right h
  split at h
  · cases h
  split at h
  · rename_i hk
    rw [← (Prod.mk.inj (Except.ok.inj h)).1]; exact right_sign_of i _ hk
  · rw [← (Prod.mk.inj (Except.ok.inj h)).1]; exact right_set i _
theorem seg_right {bs : List Nat} : ∀ {M : List Lex} {i k : Nat}, Seg bs i M k → ∀ x ∈ M, rightS x = true
  | [], i, k, _, x, hx => by cases hx
  | y :: M, i, k, ⟨_, j, hy, h⟩, x, hx => by
    rcases List.mem_cons.1 hx with rfl | hx
    · exact lexS_right hy
    · exact seg_right h x hx
theorem seg_rise {bs : List Nat} (hb : ∀ x ∈ bs, x < 256) : ∀ {M : List Lex} {i k : Nat}, Seg bs i M k → ∀ (n : Nat) x y, M[n]? = some x → M[n + 1]? = some y → x.place < y.place
  | [], i, k, _, n, x, y, hx, _ => by simp at hx
  | z :: M, i, k, ⟨hi, j, hz, h⟩, 0, x, y, hx, hy => by
    have h1 := lexS_place hz
    have h2 := lexS_some hb hi hz
    simp at hx hy
    match M, hy, h with
    | u :: M, hy, ⟨_, j2, hu, _⟩ =>
      have h3 := lexS_place hu
      simp at hy
      rw [← hx, ← hy, h1, h3]
      omega
  | z :: M, i, k, ⟨hi, j, hz, h⟩, n + 1, x, y, hx, hy => seg_rise hb h n x y (by simpa using hx) (by simpa using hy)
theorem splitS_right {bs : List Nat} (hb : ∀ x ∈ bs, x < 256) {M : List Lex} (h : splitS bs = .ok M) :
    (∀ (k : Nat) x, M[k]? = some x → rightS x = true) ∧ (∀ (k : Nat) x y, M[k]? = some x → M[k + 1]? = some y → x.place < y.place) ∧ M.length ≤ 65536 := by
  obtain ⟨h1, h2⟩ := (splitS_seg hb).1 h
  have h3 := (seg_len hb h2).1
  exact ⟨fun k x hx => seg_right h2 x (List.mem_of_getElem? hx), seg_rise hb h2, by omega⟩

/-! Lexemes in memory. -/
/-- The slice at A holds the lexemes L; its block is below B. -/
def LexsAt (w : World) (B : Nat) (A : Option Addr) (L : List Lex) : Prop :=
  0 < L.length → ∃ b o, A = some ⟨b, o, none⟩ ∧ b < B ∧ ∀ (k : Nat) x, L[k]? = some x →
    w.cell? ⟨b, o + k * 8, none⟩ = some (.int .i64 x.kind) ∧ w.cell? ⟨b, o + k * 8 + 1, none⟩ = some (.int .i64 x.place) ∧
    w.cell? ⟨b, o + k * 8 + 2, none⟩ = some (.int .u64 ((word x.set 0 : Nat) : Int)) ∧ w.cell? ⟨b, o + k * 8 + 3, none⟩ = some (.int .u64 ((word x.set 1 : Nat) : Int)) ∧ w.cell? ⟨b, o + k * 8 + 4, none⟩ = some (.int .u64 ((word x.set 2 : Nat) : Int)) ∧ w.cell? ⟨b, o + k * 8 + 5, none⟩ = some (.int .u64 ((word x.set 3 : Nat) : Int)) ∧
    w.cell? ⟨b, o + k * 8 + 6, none⟩ = some (.int .i64 x.lo) ∧ w.cell? ⟨b, o + k * 8 + 7, none⟩ = some (.int .i64 x.hi)
theorem LexsAt.below {w w' : World} {B : Nat} {A : Option Addr} {L : List Lex} (h : LexsAt w B A L) (hb : Below B w w') : LexsAt w' B A L := fun hn => by
  obtain ⟨b, o, ha, hl, hc⟩ := h hn
  refine ⟨b, o, ha, hl, fun k x hx => ?_⟩
  obtain ⟨c0, c1, c2, c3, c4, c5, c6, c7⟩ := hc k x hx
  exact ⟨(hb.cell (p := ⟨b, _, none⟩) hl).trans c0, (hb.cell (p := ⟨b, _, none⟩) hl).trans c1, (hb.cell (p := ⟨b, _, none⟩) hl).trans c2, (hb.cell (p := ⟨b, _, none⟩) hl).trans c3,
    (hb.cell (p := ⟨b, _, none⟩) hl).trans c4, (hb.cell (p := ⟨b, _, none⟩) hl).trans c5, (hb.cell (p := ⟨b, _, none⟩) hl).trans c6, (hb.cell (p := ⟨b, _, none⟩) hl).trans c7⟩
theorem LexsAt.more {w : World} {B B' : Nat} {A : Option Addr} {L : List Lex} (h : LexsAt w B A L) (hB : B ≤ B') : LexsAt w B' A L := fun hn => by
  obtain ⟨b, o, ha, hl, hc⟩ := h hn
  exact ⟨b, o, ha, by omega, hc⟩
/-- What stands first, and what stands behind it. -/
theorem LexsAt.cons {w : World} {B : Nat} {A : Option Addr} {x : Lex} {L : List Lex} (h : LexsAt w B A (x :: L)) : ∃ b o, A = some ⟨b, o, none⟩ ∧ b < B ∧
    (w.cell? ⟨b, o, none⟩ = some (.int .i64 x.kind) ∧ w.cell? ⟨b, o + 1, none⟩ = some (.int .i64 x.place) ∧
    w.cell? ⟨b, o + 2, none⟩ = some (.int .u64 ((word x.set 0 : Nat) : Int)) ∧ w.cell? ⟨b, o + 3, none⟩ = some (.int .u64 ((word x.set 1 : Nat) : Int)) ∧ w.cell? ⟨b, o + 4, none⟩ = some (.int .u64 ((word x.set 2 : Nat) : Int)) ∧ w.cell? ⟨b, o + 5, none⟩ = some (.int .u64 ((word x.set 3 : Nat) : Int)) ∧
    w.cell? ⟨b, o + 6, none⟩ = some (.int .i64 x.lo) ∧ w.cell? ⟨b, o + 7, none⟩ = some (.int .i64 x.hi)) ∧ LexsAt w B (some ⟨b, o + 8, none⟩) L := by
  obtain ⟨b, o, ha, hl, hc⟩ := h (by simp)
  refine ⟨b, o, ha, hl, by simpa using hc 0 x rfl, fun _ => ⟨b, o + 8, rfl, hl, fun k y hy => ?_⟩⟩
  have := hc (k + 1) y (by simpa using hy)
  rw [show o + (k + 1) * 8 = o + 8 + k * 8 by omega] at this
  exact this
theorem LexsAt.nil {w : World} {B : Nat} {A : Option Addr} : LexsAt w B A [] := fun h => absurd h (by simp)

end Go.Proofs.YtkelkadalikibaaDoor
