/-
  The contracts of the reference's part and alternative.
-/
import Derived.Test.YtchfipjclbpomaaGreatDoorQRPiece
namespace Go.Proofs.YtchfipjclbpomaaGreatDoor
open Go.RowKit
set_option linter.unusedSimpArgs false
set_option linter.unusedVariables false
set_option maxRecDepth 100000

theorem suf_drop {L R : List Lex} {i : Nat} (h : R <:+ L.drop i) (hi : i ≤ L.length) : R = L.drop (L.length - R.length) ∧ i ≤ L.length - R.length ∧ L.length - R.length ≤ L.length := by
  have h2 : R <:+ L := h.trans (List.drop_suffix i L)
  have hl := h.length_le
  simp at hl
  exact ⟨List.suffix_iff_eq_drop.1 h2, by omega, by omega⟩
theorem atomG_some {k : Nat} {op : List Int} {M R : List Lex} {x : Nd} (h : atomG k op M = .ok (some x, R)) : ∃ y M', M = y :: M' ∧ (y.kind = 1 ∧ x = leafN (maskOf y.set) ∧ R = M' ∨ y.kind = 2 ∧ ∃ n c, k = n + 1 ∧ altG n (y.place :: op) [] M' = .ok (x, c :: R)) := by
  cases k with
  | zero => rw [atomG] at h; cases h
  | succ n =>
    cases M with
    | nil => rw [atomG_nil] at h; cases h
    | cons y M' =>
      refine ⟨y, M', rfl, ?_⟩
      by_cases h1 : y.kind = 1
      · rw [atomG_set h1] at h
        cases h
        exact .inl ⟨h1, rfl, rfl⟩
      by_cases h2 : y.kind = 2
      · rw [atomG, if_neg h1, if_pos h2] at h
        split at h
        · cases h
        split at h
        · cases h
        · rename_i x' R' hx
          split at h
          · cases h
          · rename_i c R''
            split at h
            · cases h
              exact .inr ⟨h2, n, c, rfl, hx⟩
            · cases h
      rw [atomG, if_neg h1, if_neg h2] at h
      split at h
      · cases h
      split at h <;> cases h
theorem atomG_none {k : Nat} {op : List Int} {M R : List Lex} (h : atomG k op M = .ok (none, R)) : R = M ∧ ∀ y M', M = y :: M' → y.kind ≠ 1 ∧ y.kind ≠ 2 := by
  cases k with
  | zero => rw [atomG] at h; cases h
  | succ n =>
    cases M with
    | nil => rw [atomG_nil] at h; cases h; exact ⟨rfl, fun y M' e => by cases e⟩
    | cons y M' =>
      by_cases h1 : y.kind = 1
      · rw [atomG_set h1] at h; cases h
      by_cases h2 : y.kind = 2
      · rw [atomG, if_neg h1, if_pos h2] at h
        split at h
        · cases h
        split at h
        · cases h
        · split at h
          · cases h
          · split at h <;> cases h
      rw [atomG, if_neg h1, if_neg h2] at h
      split at h
      · cases h
      split at h
      · cases h
      · cases h
        exact ⟨rfl, fun z M'' e => by cases e; exact ⟨h1, h2⟩⟩

def RAltC (n : Nat) : Prop := ∀ (op : List Int) (i : Nat) (x : Nd) (R : List Lex) (A : Option Addr) (cap : Nat) (L : List Lex) (w : World), altG n op [] (L.drop i) = .ok (x, R) → LexsAt w w.heap.size A L → i ≤ L.length → L.length ≤ 90000 →
  Calls Tryz.prog 45 #[.slice A L.length cap, .int .i64 (i : Int)] w (RGives x (L.length - R.length) w)
def RPartC (n : Nat) : Prop := ∀ (op : List Int) (i : Nat) (ps : List Nd) (R : List Lex) (A : Option Addr) (cap : Nat) (L : List Lex) (w : World), piecesG n op [] (L.drop i) = .ok (ps, R) → LexsAt w w.heap.size A L → i ≤ L.length → L.length ≤ 90000 →
  Calls Tryz.prog 68 #[.slice A L.length cap, .int .i64 (i : Int)] w (RGives (partN ps) (L.length - R.length) w)
def RPieceC (n : Nat) : Prop := ∀ (op : List Int) (i : Nat) (x : Nd) (R : List Lex) (A : Option Addr) (cap : Nat) (L : List Lex) (w : World), atomG n op (L.drop i) = .ok (some x, R) → LexsAt w w.heap.size A L → L.length ≤ 90000 →
  Calls Tryz.prog 91 #[.slice A L.length cap, .int .i64 (i : Int)] w (RGives (postsG x R).1 (L.length - (postsG x R).2.length) w)
theorem rpiece_step {n : Nat} (hA : ∀ k, k < n → RAltC k) : RPieceC n := by
  intro op i x R A cap L w h hL hlen
  obtain ⟨y, M', hM, hk⟩ := atomG_some h
  have hlt : i < L.length := by
    rcases Nat.lt_or_ge i L.length with h1 | h1
    · exact h1
    · rw [List.drop_eq_nil_of_le h1] at hM; cases hM
  obtain ⟨y', hy⟩ : ∃ y, L[i]? = some y := ⟨_, List.getElem?_eq_getElem hlt⟩
  rw [drop_cons hy] at hM
  obtain ⟨rfl, rfl⟩ := List.cons.inj hM
  rcases hk with ⟨h1, rfl, rfl⟩ | ⟨h2, k, c, rfl, hx⟩
  · exact piece_set A cap L i y' w hy h1 hL (by omega)
  · have hs := (readG_suf k).1 _ _ _ _ _ hx
    obtain ⟨hd, hj1, hj2⟩ := suf_drop hs (by omega)
    have hl : (c :: R).length = R.length + 1 := rfl
    have hRl := hs.length_le
    simp at hRl
    have hR : R = L.drop (L.length - (c :: R).length + 1) := by
      have h3 : (c :: R).drop 1 = (L.drop (L.length - (c :: R).length)).drop 1 := by rw [← hd]
      rw [List.drop_drop] at h3
      exact h3
    have hp := piece_open A cap L i (L.length - (c :: R).length) y' x w hy h2 hL (by omega) (by omega) (fun w1 hL1 => by
      have := hA k (by omega) _ (i + 1) x (c :: R) A cap L w1 hx hL1 (by omega) hlen
      exact this)
    rw [← hR] at hp
    exact hp

/-! Rows of nodes that the reference makes. -/
def RRow (w : World) (acc : List Nd) (u : Value) (wr : World) : Prop :=
  (∃ cs, wr.ownsRow (w.heap.size + 1) 28 8 u acc.length cs ∧ CellsAre wr (fun b => w.heap.size + 1 ≤ b ∧ some b ≠ u.ownBlock) acc cs) ∧ Blk wr w.heap.size 28 #[.int .i64 0, .int .u64 0, .int .u64 0, .int .u64 0, .int .u64 0, .slice none 0 0, .int .i64 0, .int .i64 0] ∧ Below w.heap.size w wr
section
variable {w wr w2 w' : World} {acc : List Nd} {u : Value}
theorem RRow.own (h : RRow w acc u wr) : ∀ g, u.ownBlock = some g → w.heap.size + 1 ≤ g ∧ g < wr.heap.size := by
  obtain ⟨⟨cs, hr, _⟩, _⟩ := h
  exact hr.lt
theorem RRow.below (h : RRow w acc u wr) (hb : Below wr.heap.size wr w2) : RRow w acc u w2 := by
  obtain ⟨⟨cs, hr, hc⟩, h2, h3⟩ := h
  exact ⟨⟨cs, own_below hr hb, hc.below hb⟩, h2.below hb h2.lt, h3.trans (hb.mono h3.size)⟩
theorem RRow.append {z : Nd} {B : Option Addr} {cap gg capg : Nat} {o : Obj} {cs : List Value} (h : RRow w acc u wr)
    (hz : TreesAt wr (fun b => w.heap.size + 1 ≤ b ∧ some b ≠ u.ownBlock) z.kids B) (hcz : z.kids.len ≤ cap) (hcs : CellsAre wr (fun b => w.heap.size + 1 ≤ b ∧ some b ≠ u.ownBlock) acc cs)
    (hown : w'.ownsRow (w.heap.size + 1) 28 8 (.slice (some ⟨gg, 0, none⟩) (acc.length + 1) capg) (acc.length + 1) (cs ++ ndCell z B cap)) (hgrow : (wr.alloc o).grownBy w' u.ownBlock) (hat : u.ownBlock = some gg ∨ gg = wr.heap.size + 1) :
    RRow w (acc ++ [z]) (.slice (some ⟨gg, 0, none⟩) (acc.length + 1) capg) w' := by
  have hl := h.own
  obtain ⟨_, h2, h3⟩ := h
  have hb : Below wr.heap.size wr (wr.alloc o) := (Below.refl _ _).alloc (Nat.le_refl _) o
  have hk : ∀ b i, (w.heap.size + 1 ≤ b ∧ some b ≠ u.ownBlock) → b < wr.heap.size → w'.cell? ⟨b, i, none⟩ = wr.cell? ⟨b, i, none⟩ := fun b i hb2 hbl =>
    (World.cell?_of_block (hgrow.block b (by simp; omega) hb2.2)).trans (hb.cell (p := ⟨b, i, none⟩) hbl)
  have hq : ∀ b, (w.heap.size + 1 ≤ b ∧ some b ≠ u.ownBlock) → b < wr.heap.size → w.heap.size + 1 ≤ b ∧ some b ≠ (Value.slice (some ⟨gg, 0, none⟩) (acc.length + 1) capg).ownBlock := fun b hb2 hbl => ⟨hb2.1, fun e => by
    have e' : b = gg := by simpa [Value.ownBlock] using e
    rcases hat with hh | hh
    · exact hb2.2 (by rw [e', hh])
    · omega⟩
  refine ⟨⟨cs ++ ndCell z B cap, by simpa using hown, CellsAre.snoc hcz (hz.keep hk hq) (hcs.keep hk hq)⟩, (h2.below hb h2.lt).grown hgrow (fun e => by have := (hl _ e.symm).1; omega),
    (h3.trans (hb.mono h3.size)).grown hgrow (by have := h3.size; simp; omega) (fun k e => by have := (hl k e).1; omega)⟩
theorem RRow.trees (h : RRow w acc u wr) : ∃ A cap, u = .slice A acc.length cap ∧ acc.length ≤ cap ∧ TreesAt wr (fun b => w.heap.size + 1 ≤ b) (Trees.of acc) A := by
  have hl := h.own
  obtain ⟨⟨cs, hr, hc⟩, _⟩ := h
  exact trees_of hr (hc.keep (fun _ _ _ _ => rfl) (fun b hb _ => hb.1)) (fun g e => (hl g e).1)
end
theorem rrow_start (w : World) : RRow w [] (.slice (some ⟨w.heap.size + 1, 0, none⟩) 0 0) ((w.alloc (.cells #[.int .i64 0, .int .u64 0, .int .u64 0, .int .u64 0, .int .u64 0, .slice none 0 0, .int .i64 0, .int .i64 0] 28)).alloc (.cells #[] 28)) := by
  refine ⟨⟨[], ?_, rfl⟩, (Blk.new _ _ _).alloc _, ((Below.refl _ _).alloc (Nat.le_refl _) _).alloc (by simp) _⟩
  have h := World.ownsRow_made (base := w.heap.size + 1) (size := 8) (e := 28) (w.alloc (.cells #[.int .i64 0, .int .u64 0, .int .u64 0, .int .u64 0, .int .u64 0, .slice none 0 0, .int .i64 0, .int .i64 0] 28)) #[] 0 (by simp) (by decide) rfl
  rw [World.size_alloc] at h
  exact h

end Go.Proofs.YtchfipjclbpomaaGreatDoor
