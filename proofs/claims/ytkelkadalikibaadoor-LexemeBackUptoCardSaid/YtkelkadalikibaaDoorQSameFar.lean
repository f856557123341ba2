/-
  The contract of the reference's Same at two rows of lexemes that are the same but for their places; parts of bytes and of rows.
-/
import Derived.Test.YtkelkadalikibaaDoorQLexRow
import Derived.Test.YtkelkadalikibaaDoorQCut
namespace Go.Proofs.YtkelkadalikibaaDoor
open Go.RowKit
set_option linter.unusedSimpArgs false
set_option linter.unusedVariables false
set_option maxRecDepth 100000

/-- A row of lexemes that may be read, from cell o of its block on. -/
def LexRowO (w : World) (o : Nat) (v : Value) (L : List Lex) : Prop :=
  ∃ A cap, v = .slice A L.length cap ∧ ∀ k x, L[k]? = some x → ∃ g, A = some ⟨g, o, none⟩ ∧
    w.cell? ⟨g, o + k * 8, none⟩ = some (.int .i64 x.kind) ∧ w.cell? ⟨g, o + k * 8 + 1, none⟩ = some (.int .i64 x.place) ∧
    w.cell? ⟨g, o + k * 8 + 2, none⟩ = some (.int .u64 ((word x.set 0 : Nat) : Int)) ∧ w.cell? ⟨g, o + k * 8 + 3, none⟩ = some (.int .u64 ((word x.set 1 : Nat) : Int)) ∧ w.cell? ⟨g, o + k * 8 + 4, none⟩ = some (.int .u64 ((word x.set 2 : Nat) : Int)) ∧ w.cell? ⟨g, o + k * 8 + 5, none⟩ = some (.int .u64 ((word x.set 3 : Nat) : Int)) ∧
    w.cell? ⟨g, o + k * 8 + 6, none⟩ = some (.int .i64 x.lo) ∧ w.cell? ⟨g, o + k * 8 + 7, none⟩ = some (.int .i64 x.hi)
/-- The same, but for the place. -/
def Lex.like (x y : Lex) : Prop := x.kind = y.kind ∧ x.set = y.set ∧ x.lo = y.lo ∧ x.hi = y.hi

set_option maxHeartbeats 4000000 in
theorem same_far_go (v v' : Value) (L M : List Lex) (o : Nat) (w : World) (h : LexRow w v M) (h' : LexRowO w o v' L) (hlen : M.length = L.length) (heq : ∀ (k : Nat) x y, M[k]? = some x → L[k]? = some y → x.like y) (hL : L.length ≤ 100000) :
    Calls Tryd.prog 27 #[v, v', .bool false] w fun e w' => e = .returned (.bool true) ∧ ∃ n, w' = w.drewN n := by
  obtain ⟨A, cap, rfl, hc⟩ := h
  obtain ⟨A', cap', rfl, hc'⟩ := h'
  have Hc := Lib.hid hc
  have Hc' := Lib.hid hc'
  have Hq := Lib.hid heq
  have Hlen := Lib.hid hlen
  rw [hlen]
  clear hc hc' heq hlen
  go_enter Tryd.func27, Tryd.ntmps27
  go_wp2
  go_loopw [7] (fun i wr => ∃ k n : Nat, i = .int .i64 (k : Int) ∧ k ≤ L.length ∧ wr = w.drewN n) (fun i _ => L.length - (intOf i).toNat)
  case atStart => exact ⟨0, 0, rfl, Nat.zero_le _, rfl⟩
  case round =>
    obtain ⟨k, n, rfl, hk, rfl⟩ := hrel
    by_cases hlt : k < L.length
    · obtain ⟨y, hy⟩ : ∃ y, L[k]? = some y := ⟨_, List.getElem?_eq_getElem hlt⟩
      obtain ⟨x, hx⟩ : ∃ x, M[k]? = some x := ⟨_, List.getElem?_eq_getElem (by have := Hlen.out; omega)⟩
      obtain ⟨q1, q2, q3, q4⟩ := Hq.out k x y hx hy
      obtain ⟨g, rfl, c0, c1, c2, c3, c4, c5, c6, c7⟩ := Hc.out k x hx
      obtain ⟨g', rfl, d0, d1, d2, d3, d4, d5, d6, d7⟩ := Hc'.out k y hy
      rw [q1] at c0
      rw [q2] at c2 c3 c4 c5
      rw [q3] at c6
      rw [q4] at c7
      have hdl : (k : Int) < (L.length : Int) := by omega
      have eb0 : (((word y.set 0 : Nat) : Int) == ((word y.set 0 : Nat) : Int)) = true := by simp
      have eb1 : (((word y.set 1 : Nat) : Int) == ((word y.set 1 : Nat) : Int)) = true := by simp
      have eb2 : (((word y.set 2 : Nat) : Int) == ((word y.set 2 : Nat) : Int)) = true := by simp
      have eb3 : (((word y.set 3 : Nat) : Int) == ((word y.set 3 : Nat) : Int)) = true := by simp
      have ek : (y.kind != y.kind) = false := by simp
      have el : (y.lo != y.lo) = false := by simp
      have eh : (y.hi != y.hi) = false := by simp
      have c3' : w.cell? ⟨g, k * 8 + 3, none⟩ = some (.int .u64 ((word y.set 1 : Nat) : Int)) := c3
      have c4' : w.cell? ⟨g, k * 8 + 4, none⟩ = some (.int .u64 ((word y.set 2 : Nat) : Int)) := c4
      have c5' : w.cell? ⟨g, k * 8 + 5, none⟩ = some (.int .u64 ((word y.set 3 : Nat) : Int)) := c5
      have d3' : w.cell? ⟨g', o + k * 8 + 2 + 1, none⟩ = some (.int .u64 ((word y.set 1 : Nat) : Int)) := d3
      have d4' : w.cell? ⟨g', o + k * 8 + 2 + 2, none⟩ = some (.int .u64 ((word y.set 2 : Nat) : Int)) := d4
      have d5' : w.cell? ⟨g', o + k * 8 + 2 + 3, none⟩ = some (.int .u64 ((word y.set 3 : Nat) : Int)) := d5
      clear hx hy q1 q2 q3 q4
      go_wp2
      refine wp_region_quiet_lit (by kernel_rfl) (by kernel_rfl) ?_
      iterate 52 (quiet_step (fail))
      refine wpQuiet_step (fun K hK => ?_)
      go_simp
      iterate 13 (generalize ha : Act.mk _ _ = aa; have h2 := hK aa; clear hK; refine h2 ?_; clear h2 K; refine wpQuiet_step (fun K hK => ?_); rw [← ha]; clear ha; go_simp)
      generalize ha : Act.mk _ _ = aa
      have h2 := hK aa
      clear hK
      refine h2 ?_
      clear h2 K
      refine wpQuiet_nil ?_
      rw [← ha]
      clear ha aa
      intro _ hw'
      obtain ⟨nq, hw''⟩ := hw'
      subst hw''
      go_wp2
      go_light
      go_roundw
      case rel => exact ⟨k + 1, _, by go_num, by omega, rfl⟩
      case measure => simp [intOf]; omega
    · have hdl : ¬ (k : Int) < (L.length : Int) := by omega
      go_wp2
      go_light
      go_ret
      exact ⟨rfl, _, rfl⟩

theorem byteAt_take {bs : List Nat} {p i : Nat} (h : i < p) (hp : p ≤ bs.length) : byteAt (bs.take p) i = byteAt bs i := by
  have := (part_take hp i (Nat.zero_le _) h).2.2
  simpa using this
theorem BytesAt.take {w : World} {B : Nat} {A : Option Addr} {bs : List Nat} (h : BytesAt w B A bs) {p : Nat} (hp : p ≤ bs.length) : BytesAt w B A (bs.take p) :=
  ⟨take_le _ _ h.1, by have := h.2.1; simp; omega, fun hn => by
    have hn' : 0 < p := by simp at hn; omega
    obtain ⟨b, o, ha, hl, hc⟩ := h.2.2 (by omega)
    refine ⟨b, o, ha, hl, fun i hi => ?_⟩
    have hi' : i < p := by simp at hi; omega
    rw [byteAt_take hi' hp]
    exact hc i (by omega)⟩
theorem BytesAt.drop {w : World} {B b o : Nat} {bs : List Nat} (h : BytesAt w B (some ⟨b, o, none⟩) bs) {p : Nat} (hp : p < bs.length) : BytesAt w B (some ⟨b, o + p, none⟩) (bs.drop p) :=
  ⟨drop_le _ _ h.1, by have := h.2.1; simp; omega, fun hn => by
    obtain ⟨b', o', ha, hl, hc⟩ := h.2.2 (by omega)
    obtain ⟨rfl, rfl⟩ : b = b' ∧ o = o' := by simpa using ha
    refine ⟨b, o + p, rfl, hl, fun i hi => ?_⟩
    have hi' : i < bs.length - p := by simpa using hi
    rw [byteAt_drop, Nat.add_assoc]
    exact hc (p + i) (by omega)⟩
/-- A part of a row. -/
theorem LexRow.part {w : World} {g cap : Nat} {L : List Lex} (h : LexRow w (.slice (some ⟨g, 0, none⟩) L.length cap) L) (k n c : Nat) (hn : n = L.length - k) : LexRowO w (k * 8) (.slice (some ⟨g, k * 8, none⟩) n c) (L.drop k) := by
  subst hn
  obtain ⟨A, cap', hv, hc⟩ := h
  obtain ⟨rfl, _⟩ : (some ⟨g, 0, none⟩ = A) ∧ cap = cap' := by simpa using hv
  refine ⟨some ⟨g, k * 8, none⟩, c, by simp, fun i x hx => ?_⟩
  rw [List.getElem?_drop] at hx
  obtain ⟨g', hg, c0, c1, c2, c3, c4, c5, c6, c7⟩ := hc (k + i) x hx
  obtain rfl : g = g' := by simpa using hg
  rw [Nat.add_mul] at c0 c1 c2 c3 c4 c5 c6 c7
  exact ⟨g, rfl, c0, c1, c2, c3, c4, c5, c6, c7⟩
theorem LexRow.front {w : World} {g cap : Nat} {L : List Lex} (h : LexRow w (.slice (some ⟨g, 0, none⟩) L.length cap) L) (k : Nat) (hk : k ≤ L.length) (c : Nat) : LexRow w (.slice (some ⟨g, 0, none⟩) k c) (L.take k) := by
  obtain ⟨A, cap', hv, hc⟩ := h
  obtain ⟨rfl, _⟩ : (some ⟨g, 0, none⟩ = A) ∧ cap = cap' := by simpa using hv
  refine ⟨some ⟨g, 0, none⟩, c, by simp; omega, fun i x hx => ?_⟩
  rw [List.getElem?_take] at hx
  split at hx
  · exact hc i x hx
  · cases hx

theorem move_like (x : Lex) (p q : Nat) : (x.move p q).like x := ⟨rfl, rfl, rfl, rfl⟩
theorem map_like {L : List Lex} {p q k : Nat} {x y : Lex} (hx : (L.map (Lex.move · p q))[k]? = some x) (hy : L[k]? = some y) : x.like y := by
  rw [List.getElem?_map, hy] at hx
  have : y.move p q = x := by simpa using hx
  rw [← this]
  exact move_like y p q

end Go.Proofs.YtkelkadalikibaaDoor
