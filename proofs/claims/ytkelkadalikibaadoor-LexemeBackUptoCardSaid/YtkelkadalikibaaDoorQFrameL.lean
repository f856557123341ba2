/-
  An argument that is a slice of lexemes; the bound of the second form.
-/
import Derived.Test.YtkelkadalikibaaDoorQZ01
import Derived.Test.YtkelkadalikibaaDoorQJoinGo
namespace Go.Proofs.YtkelkadalikibaaDoor
open Go.ChangeShapes Go.WideShapes Go.ChangeAt Go.RowKit Go.Shelf
set_option linter.unusedSimpArgs false
set_option linter.unusedVariables false
set_option maxRecDepth 100000

theorem cellsLex : Tryd.prog.cellsOf 46 = 8 := by kernel_rfl
theorem cellsKind : Tryd.prog.cellsOf 44 = 1 := by kernel_rfl
theorem cellsInt : Tryd.prog.cellsOf 3 = 1 := by kernel_rfl

section
variable {H : Type} {enc : TypeId × Value → H} {W : World} {fuel : Nat} {cs : List Value} {y : DataW H × List MemPlace}
theorem lex_came (h : DataW.trod enc Tryd.prog W 0 (fun _ => true) true fuel 46 cs = some y) :
    ∃ x : Lex, cs = [.int .i64 x.kind, .int .i64 x.place, .int .u64 ((word x.set 0 : Nat) : Int), .int .u64 ((word x.set 1 : Nat) : Int), .int .u64 ((word x.set 2 : Nat) : Int), .int .u64 ((word x.set 3 : Nat) : Int), .int .i64 x.lo, .int .i64 x.hi] := by
  obtain ⟨xs, n, _, _, hl, hxl, hf⟩ := DataW.trod_struct Tryd.underlying46 h
  rw [cellsLex] at hl
  obtain ⟨v0, v1, v2, v3, v4, v5, v6, v7, rfl⟩ : ∃ v0 v1 v2 v3 v4 v5 v6 v7, cs = [v0, v1, v2, v3, v4, v5, v6, v7] := by
    match cs, hl with
    | [a, b, c, d, e, f, g, h], _ => exact ⟨a, b, c, d, e, f, g, h, rfl⟩
  have g0 : DataW.trod enc Tryd.prog W 0 (fun _ => true) true n 44 (([v0, v1, v2, v3, v4, v5, v6, v7].drop 0).take (Tryd.prog.cellsOf 44)) = xs[0]? := hf 0 _ rfl
  have g1 : DataW.trod enc Tryd.prog W 0 (fun _ => true) true n 3 (([v0, v1, v2, v3, v4, v5, v6, v7].drop 1).take (Tryd.prog.cellsOf 3)) = xs[1]? := hf 1 _ rfl
  have g2 : DataW.trod enc Tryd.prog W 0 (fun _ => true) true n 25 (([v0, v1, v2, v3, v4, v5, v6, v7].drop 2).take (Tryd.prog.cellsOf 25)) = xs[2]? := hf 2 _ rfl
  have g3 : DataW.trod enc Tryd.prog W 0 (fun _ => true) true n 3 (([v0, v1, v2, v3, v4, v5, v6, v7].drop 6).take (Tryd.prog.cellsOf 3)) = xs[3]? := hf 3 _ rfl
  have g4 : DataW.trod enc Tryd.prog W 0 (fun _ => true) true n 3 (([v0, v1, v2, v3, v4, v5, v6, v7].drop 7).take (Tryd.prog.cellsOf 3)) = xs[4]? := hf 4 _ rfl
  have hs : ∀ i, i < 5 → ∃ z, xs[i]? = some z := fun i hi => ⟨_, List.getElem?_eq_getElem (by rw [hxl]; exact hi)⟩
  obtain ⟨z0, e0⟩ := hs 0 (by decide)
  obtain ⟨z1, e1⟩ := hs 1 (by decide)
  obtain ⟨z2, e2⟩ := hs 2 (by decide)
  obtain ⟨z3, e3⟩ := hs 3 (by decide)
  obtain ⟨z4, e4⟩ := hs 4 (by decide)
  rw [e0] at g0
  rw [e1] at g1
  rw [e2] at g2
  rw [e3] at g3
  rw [e4] at g4
  rw [cellsKind] at g0
  rw [cellsInt] at g1 g3 g4
  rw [cellsSet] at g2
  obtain ⟨a0, q0, _, _⟩ := DataW.trod_int Tryd.underlying44 g0
  obtain ⟨a1, q1, _, _⟩ := DataW.trod_int Tryd.underlying3 g1
  obtain ⟨a3, q3, _, _⟩ := DataW.trod_int Tryd.underlying3 g3
  obtain ⟨a4, q4, _, _⟩ := DataW.trod_int Tryd.underlying3 g4
  obtain ⟨us, m, _, _, _, hul, hu⟩ := DataW.trod_array Tryd.underlying25 g2
  have ht : ∀ i, i < 4 → ∃ z, us[i]? = some z := fun i hi => ⟨_, List.getElem?_eq_getElem (by rw [hul]; exact hi)⟩
  have u0 := hu 0 (by decide)
  have u1 := hu 1 (by decide)
  have u2 := hu 2 (by decide)
  have u3 := hu 3 (by decide)
  obtain ⟨t0, f0⟩ := ht 0 (by decide)
  obtain ⟨t1, f1⟩ := ht 1 (by decide)
  obtain ⟨t2, f2⟩ := ht 2 (by decide)
  obtain ⟨t3, f3⟩ := ht 3 (by decide)
  rw [f0, cellsWord] at u0
  rw [f1, cellsWord] at u1
  rw [f2, cellsWord] at u2
  rw [f3, cellsWord] at u3
  obtain ⟨b0, r0, _, w0⟩ := DataW.trod_int Tryd.underlying23 u0
  obtain ⟨b1, r1, _, w1⟩ := DataW.trod_int Tryd.underlying23 u1
  obtain ⟨b2, r2, _, w2⟩ := DataW.trod_int Tryd.underlying23 u2
  obtain ⟨b3, r3, _, w3⟩ := DataW.trod_int Tryd.underlying23 u3
  simp at q0 q1 q3 q4 r0 r1 r2 r3
  subst q0 q1 q3 q4 r0 r1 r2 r3
  obtain ⟨s0, s0'⟩ := u64_of_wf w0
  obtain ⟨s1, s1'⟩ := u64_of_wf w1
  obtain ⟨s2, s2'⟩ := u64_of_wf w2
  obtain ⟨s3, s3'⟩ := u64_of_wf w3
  obtain ⟨n0, rfl⟩ := Int.eq_ofNat_of_zero_le s0
  obtain ⟨n1, rfl⟩ := Int.eq_ofNat_of_zero_le s1
  obtain ⟨n2, rfl⟩ := Int.eq_ofNat_of_zero_le s2
  obtain ⟨n3, rfl⟩ := Int.eq_ofNat_of_zero_le s3
  obtain ⟨k0, k1, k2, k3⟩ := word_bitsOf (a := n0) (b := n1) (c := n2) (d := n3) (by omega) (by omega) (by omega) (by omega)
  exact ⟨⟨a0, a1, bitsOf n0 n1 n2 n3, a3, a4⟩, by rw [k0, k1, k2, k3]⟩

/-- A slice of lexemes that came in. -/
theorem lexs_came {A : Option Addr} {len cap : Nat} {d : DataW H} {p : List MemPlace}
    (h : DataW.Trod enc Tryd.prog W 0 (fun _ => true) true 40 (.slice A len cap) d p) :
    ∃ L : List Lex, L.length = len ∧ LexsAt W W.heap.size A L ∧ (d = .nil ∧ len = 0 ∨ ∃ es rest : List (DataW H), d = .slice es rest ∧ es.length = len) := by
  obtain ⟨fuel, hf⟩ := h
  rcases DataW.trod_slice Tryd.underlying40 hf with ⟨hcs, hd⟩ | ⟨a, l, c, elems, rest, n, _, hcs, hd, hb, hlc, hm, hel, hc, _, _⟩
  · simp [Value.cells] at hcs
    obtain ⟨rfl, rfl, rfl⟩ := hcs
    exact ⟨[], rfl, fun h => absurd h (by simp), .inl ⟨(Prod.mk.inj hd).1, rfl⟩⟩
  · simp [Value.cells] at hcs
    obtain ⟨rfl, rfl, rfl⟩ := hcs
    have hd' := (Prod.mk.inj hd).1
    rw [cellsLex] at hc
    have hx : ∀ i, i < len → ∃ x : Lex, ∃ cs, W.cells? 0 (a.add (i * 8)) 8 = some cs ∧ cs = [.int .i64 x.kind, .int .i64 x.place, .int .u64 ((word x.set 0 : Nat) : Int), .int .u64 ((word x.set 1 : Nat) : Int), .int .u64 ((word x.set 2 : Nat) : Int), .int .u64 ((word x.set 3 : Nat) : Int), .int .i64 x.lo, .int .i64 x.hi] := by
      intro i hi
      have h1 := hc i hi
      rw [List.getElem?_eq_getElem (by omega)] at h1
      obtain ⟨cs, h2, h3⟩ := Option.bind_eq_some_iff.1 h1
      obtain ⟨x, hx⟩ := lex_came h3
      exact ⟨x, cs, h2, hx⟩
    classical
    let f : Nat → Lex := fun i => if hi : i < len then Classical.choose (hx i hi) else ⟨0, 0, fun _ => false, 0, 0⟩
    have hf2 : ∀ i (hi : i < len), f i = Classical.choose (hx i hi) := fun i hi => dif_pos hi
    refine ⟨(List.range len).map f, by simp, fun hpos => ?_, .inr ⟨_, _, hd', by simpa using hel⟩⟩
    have hpos' : 0 < len := by simpa using hpos
    obtain ⟨bl, off, spot⟩ := a
    obtain ⟨x0, cs0, hcs0, hx0⟩ := hx 0 hpos'
    obtain ⟨_, _, hcell0⟩ := World.cells?_some hcs0
    have h00 := hcell0 0 (by decide)
    rw [hx0] at h00
    have hspot : spot = none := by
      have := World.cell?_spot (v := .int .i64 x0.kind) (by simpa using h00)
      simpa [Addr.add] using this
    subst hspot
    refine ⟨bl, off, rfl, ?_, ?_⟩
    · have := World.block_lt_of_cell? W _ (u := .int .i64 x0.kind) (by simpa using h00)
      simpa [addr_add] using this
    · intro k x hk
      have hkl : k < len := by
        have := (List.getElem?_eq_some_iff.mp hk).1
        simpa using this
      have hkx : f k = x := by
        rw [List.getElem?_map, List.getElem?_range hkl] at hk
        simpa using hk
      have hsp := Classical.choose_spec (hx k hkl)
      rw [← hf2 k hkl, hkx] at hsp
      obtain ⟨cs, h1, h2⟩ := hsp
      obtain ⟨_, _, h3⟩ := World.cells?_some h1
      rw [h2] at h3
      have g : ∀ j u, j < 8 → [Value.int .i64 x.kind, .int .i64 x.place, .int .u64 ((word x.set 0 : Nat) : Int), .int .u64 ((word x.set 1 : Nat) : Int), .int .u64 ((word x.set 2 : Nat) : Int), .int .u64 ((word x.set 3 : Nat) : Int), .int .i64 x.lo, .int .i64 x.hi][j]? = some u → W.cell? ⟨bl, off + k * 8 + j, none⟩ = some u := fun j u hj hu => by
        have := h3 j hj
        rw [addr_add, addr_add, hu] at this
        exact this
      exact ⟨g 0 _ (by decide) rfl, g 1 _ (by decide) rfl, g 2 _ (by decide) rfl, g 3 _ (by decide) rfl, g 4 _ (by decide) rfl, g 5 _ (by decide) rfl, g 6 _ (by decide) rfl, g 7 _ (by decide) rfl⟩
end

/-! The bound. -/
theorem bulk_one {H : Type} (d : DataW H) : 1 ≤ Rows.uptoBulk d := by
  cases d with
  | lit l => cases l <;> simp [Rows.uptoBulk]
  | nil => simp [Rows.uptoBulk]
  | ptr d => simp [Rows.uptoBulk]
  | slice elems spare => simp [Rows.uptoBulk]
  | agg parts => simp [Rows.uptoBulk]
  | iface t d => simp [Rows.uptoBulk]
  | map entries => simp [Rows.uptoBulk]
  | held h => simp [Rows.uptoBulk]
theorem bulk_len {H : Type} (l : List (DataW H)) : l.length ≤ Rows.uptoBulkAll l := by
  induction l with
  | nil => simp [Rows.uptoBulkAll]
  | cons x r ih => have := bulk_one x; simp only [Rows.uptoBulkAll, List.length_cons]; omega
/-- The first argument is a slice: its length. -/
theorem upto_first {H : Type} {es rest : List (DataW H)} {ds gs : List (DataW H)} (hk : Rows.uptoSmall H (.slice es rest :: ds ++ gs) = true) : es.length ≤ 1048576 := by
  have h : Rows.uptoBulkAll (.slice es rest :: ds ++ gs) ≤ 1048576 := of_decide_eq_true hk
  have h1 := bulk_len es
  simp only [List.cons_append, Rows.uptoBulkAll, Rows.uptoBulk] at h
  omega

end Go.Proofs.YtkelkadalikibaaDoor
