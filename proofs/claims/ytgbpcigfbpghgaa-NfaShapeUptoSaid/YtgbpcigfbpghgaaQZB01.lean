/-
  What every proof of a plain row wants: an argument that is a slice of lexemes. What every proof of a row wants whose arguments are trees: a slice of trees that came in, and how many nodes they have. Sums and products that stop at a top: num.Add, num.Mul (of two) and the reference's, at the top 2^40. tree.walk and tree.nodes at any tree: the iterator over the nodes, each ahead of its kids. tree.arity, tree.times and tree.alone at whatever is given. tree.alone at any node. tree.Right: a tree that may be. tree.Right at any tree.
-/
import Derived.Lib.Hide
import Derived.Deep.Light
import Derived.RangeFuncBox
import Derived.Test.YtgbpcigfbpghgaaQZ01
import Derived.Test.YtgbpcigfbpghgaaQWalk
import Derived.Test.YtgbpcigfbpghgaaQAlone
namespace Go.Proofs.Ytgbpcigfbpghgaa
open Go.ChangeShapes Go.WideShapes Go.ChangeAt Go.RowKit
set_option linter.unusedSimpArgs false
set_option linter.unusedVariables false
set_option maxRecDepth 100000

theorem u64_of_wf {n : Int} (h : (Lit.int .u64 n).wf = true) : 0 ≤ n ∧ n < 18446744073709551616 := by
  have hh : (decide (IntKind.min .u64 ≤ n) && decide (n ≤ IntKind.max .u64)) = true := h
  simp only [Bool.and_eq_true, decide_eq_true_eq] at hh
  obtain ⟨h1, h2⟩ := hh
  have e1 : IntKind.min .u64 = 0 := by decide
  have e2 : IntKind.max .u64 = 18446744073709551615 := by decide
  rw [e1] at h1
  rw [e2] at h2
  omega
theorem cellsWord : Try.prog.cellsOf 32 = 1 := by kernel_rfl
theorem cellsSet : Try.prog.cellsOf 34 = 4 := by kernel_rfl
theorem bytesLex : Try.prog.bytesOf 97 = 64 := by kernel_rfl
theorem cellsLex : Try.prog.cellsOf 97 = 8 := by kernel_rfl
theorem cellsKind : Try.prog.cellsOf 95 = 1 := by kernel_rfl
theorem cellsInt : Try.prog.cellsOf 3 = 1 := by kernel_rfl

section
variable {H : Type} {enc : TypeId × Value → H} {W : World} {fuel : Nat} {cs : List Value} {y : DataW H × List MemPlace}
theorem lex_came (h : DataW.trod enc Try.prog W 0 (fun _ => true) true fuel 97 cs = some y) :
    ∃ x : Lex, cs = [.int .i64 x.kind, .int .i64 x.place, .int .u64 ((word x.set 0 : Nat) : Int), .int .u64 ((word x.set 1 : Nat) : Int), .int .u64 ((word x.set 2 : Nat) : Int), .int .u64 ((word x.set 3 : Nat) : Int), .int .i64 x.lo, .int .i64 x.hi] := by
  obtain ⟨xs, n, _, _, hl, hxl, hf⟩ := DataW.trod_struct Try.underlying97 h
  rw [cellsLex] at hl
  obtain ⟨v0, v1, v2, v3, v4, v5, v6, v7, rfl⟩ : ∃ v0 v1 v2 v3 v4 v5 v6 v7, cs = [v0, v1, v2, v3, v4, v5, v6, v7] := by
    match cs, hl with
    | [a, b, c, d, e, f, g, h], _ => exact ⟨a, b, c, d, e, f, g, h, rfl⟩
  have g0 : DataW.trod enc Try.prog W 0 (fun _ => true) true n 95 (([v0, v1, v2, v3, v4, v5, v6, v7].drop 0).take (Try.prog.cellsOf 95)) = xs[0]? := hf 0 _ rfl
  have g1 : DataW.trod enc Try.prog W 0 (fun _ => true) true n 3 (([v0, v1, v2, v3, v4, v5, v6, v7].drop 1).take (Try.prog.cellsOf 3)) = xs[1]? := hf 1 _ rfl
  have g2 : DataW.trod enc Try.prog W 0 (fun _ => true) true n 34 (([v0, v1, v2, v3, v4, v5, v6, v7].drop 2).take (Try.prog.cellsOf 34)) = xs[2]? := hf 2 _ rfl
  have g3 : DataW.trod enc Try.prog W 0 (fun _ => true) true n 3 (([v0, v1, v2, v3, v4, v5, v6, v7].drop 6).take (Try.prog.cellsOf 3)) = xs[3]? := hf 3 _ rfl
  have g4 : DataW.trod enc Try.prog W 0 (fun _ => true) true n 3 (([v0, v1, v2, v3, v4, v5, v6, v7].drop 7).take (Try.prog.cellsOf 3)) = xs[4]? := hf 4 _ rfl
  have hs : ∀ i, i < 5 → ∃ z, xs[i]? = some z := fun i hi => ⟨_, List.getElem?_eq_getElem (by rw [hxl]; exact hi)⟩
  obtain ⟨z0, e0⟩ := hs 0 (by decide)
  obtain ⟨z1, e1⟩ := hs 1 (by decide)
  obtain ⟨z2, e2⟩ := hs 2 (by decide)
  obtain ⟨z3, e3⟩ := hs 3 (by decide)
  obtain ⟨z4, e4⟩ := hs 4 (by decide)
  rw [e0] at g0
  rw [e1] at g1
  rw [e2] at g2
  rw [e3] at g3
  rw [e4] at g4
  rw [cellsKind] at g0
  rw [cellsInt] at g1 g3 g4
  rw [cellsSet] at g2
  obtain ⟨a0, q0, _, _⟩ := DataW.trod_int Try.underlying95 g0
  obtain ⟨a1, q1, _, _⟩ := DataW.trod_int Try.underlying3 g1
  obtain ⟨a3, q3, _, _⟩ := DataW.trod_int Try.underlying3 g3
  obtain ⟨a4, q4, _, _⟩ := DataW.trod_int Try.underlying3 g4
  obtain ⟨us, m, _, _, _, hul, hu⟩ := DataW.trod_array Try.underlying34 g2
  have ht : ∀ i, i < 4 → ∃ z, us[i]? = some z := fun i hi => ⟨_, List.getElem?_eq_getElem (by rw [hul]; exact hi)⟩
  have u0 := hu 0 (by decide)
  have u1 := hu 1 (by decide)
  have u2 := hu 2 (by decide)
  have u3 := hu 3 (by decide)
  obtain ⟨t0, f0⟩ := ht 0 (by decide)
  obtain ⟨t1, f1⟩ := ht 1 (by decide)
  obtain ⟨t2, f2⟩ := ht 2 (by decide)
  obtain ⟨t3, f3⟩ := ht 3 (by decide)
  rw [f0, cellsWord] at u0
  rw [f1, cellsWord] at u1
  rw [f2, cellsWord] at u2
  rw [f3, cellsWord] at u3
  obtain ⟨b0, r0, _, w0⟩ := DataW.trod_int Try.underlying32 u0
  obtain ⟨b1, r1, _, w1⟩ := DataW.trod_int Try.underlying32 u1
  obtain ⟨b2, r2, _, w2⟩ := DataW.trod_int Try.underlying32 u2
  obtain ⟨b3, r3, _, w3⟩ := DataW.trod_int Try.underlying32 u3
  simp at q0 q1 q3 q4 r0 r1 r2 r3
  subst q0 q1 q3 q4 r0 r1 r2 r3
  obtain ⟨s0, s0'⟩ := u64_of_wf w0
  obtain ⟨s1, s1'⟩ := u64_of_wf w1
  obtain ⟨s2, s2'⟩ := u64_of_wf w2
  obtain ⟨s3, s3'⟩ := u64_of_wf w3
  obtain ⟨n0, rfl⟩ := Int.eq_ofNat_of_zero_le s0
  obtain ⟨n1, rfl⟩ := Int.eq_ofNat_of_zero_le s1
  obtain ⟨n2, rfl⟩ := Int.eq_ofNat_of_zero_le s2
  obtain ⟨n3, rfl⟩ := Int.eq_ofNat_of_zero_le s3
  obtain ⟨k0, k1, k2, k3⟩ := word_bitsOf (a := n0) (b := n1) (c := n2) (d := n3) (by omega) (by omega) (by omega) (by omega)
  exact ⟨⟨a0, a1, bitsOf n0 n1 n2 n3, a3, a4⟩, by rw [k0, k1, k2, k3]⟩

/-- A slice of lexemes that came in. -/
theorem lexs_came {A : Option Addr} {len cap : Nat} {d : DataW H} {p : List MemPlace}
    (h : DataW.Trod enc Try.prog W 0 (fun _ => true) true 92 (.slice A len cap) d p) :
    ∃ L : List Lex, L.length = len ∧ LexsAt W W.heap.size A L ∧ len ≤ cap ∧ (d = .nil ∧ len = 0 ∨ ∃ es rest : List (DataW H), d = .slice es rest ∧ es.length = len) := by
  obtain ⟨fuel, hf⟩ := h
  rcases DataW.trod_slice Try.underlying92 hf with ⟨hcs, hd⟩ | ⟨a, l, c, elems, rest, n, _, hcs, hd, hb, hlc, hm, hel, hc, _, _⟩
  · simp [Value.cells] at hcs
    obtain ⟨rfl, rfl, rfl⟩ := hcs
    exact ⟨[], rfl, fun h => absurd h (by simp), Nat.le_refl _, .inl ⟨(Prod.mk.inj hd).1, rfl⟩⟩
  · simp [Value.cells] at hcs
    obtain ⟨rfl, rfl, rfl⟩ := hcs
    have hd' := (Prod.mk.inj hd).1
    rw [cellsLex] at hc
    have hx : ∀ i, i < len → ∃ x : Lex, ∃ cs, W.cells? 0 (a.add (i * 8)) 8 = some cs ∧ cs = [.int .i64 x.kind, .int .i64 x.place, .int .u64 ((word x.set 0 : Nat) : Int), .int .u64 ((word x.set 1 : Nat) : Int), .int .u64 ((word x.set 2 : Nat) : Int), .int .u64 ((word x.set 3 : Nat) : Int), .int .i64 x.lo, .int .i64 x.hi] := by
      intro i hi
      have h1 := hc i hi
      rw [List.getElem?_eq_getElem (by omega)] at h1
      obtain ⟨cs, h2, h3⟩ := Option.bind_eq_some_iff.1 h1
      obtain ⟨x, hx⟩ := lex_came h3
      exact ⟨x, cs, h2, hx⟩
    classical
    let f : Nat → Lex := fun i => if hi : i < len then Classical.choose (hx i hi) else ⟨0, 0, fun _ => false, 0, 0⟩
    have hf2 : ∀ i (hi : i < len), f i = Classical.choose (hx i hi) := fun i hi => dif_pos hi
    refine ⟨(List.range len).map f, by simp, fun hpos => ?_, hlc, .inr ⟨_, _, hd', by simpa using hel⟩⟩
    have hpos' : 0 < len := by simpa using hpos
    obtain ⟨bl, off, spot⟩ := a
    obtain ⟨x0, cs0, hcs0, hx0⟩ := hx 0 hpos'
    obtain ⟨_, _, hcell0⟩ := World.cells?_some hcs0
    have h00 := hcell0 0 (by decide)
    rw [hx0] at h00
    have hspot : spot = none := by
      have := World.cell?_spot (v := .int .i64 x0.kind) (by simpa using h00)
      simpa [Addr.add] using this
    subst hspot
    refine ⟨bl, off, rfl, ?_, ?_⟩
    · have := World.block_lt_of_cell? W _ (u := .int .i64 x0.kind) (by simpa using h00)
      simpa [addr_add] using this
    · intro k x hk
      have hkl : k < len := by
        have := (List.getElem?_eq_some_iff.mp hk).1
        simpa using this
      have hkx : f k = x := by
        rw [List.getElem?_map, List.getElem?_range hkl] at hk
        simpa using hk
      have hsp := Classical.choose_spec (hx k hkl)
      rw [← hf2 k hkl, hkx] at hsp
      obtain ⟨cs, h1, h2⟩ := hsp
      obtain ⟨_, _, h3⟩ := World.cells?_some h1
      rw [h2] at h3
      have g : ∀ j u, j < 8 → [Value.int .i64 x.kind, .int .i64 x.place, .int .u64 ((word x.set 0 : Nat) : Int), .int .u64 ((word x.set 1 : Nat) : Int), .int .u64 ((word x.set 2 : Nat) : Int), .int .u64 ((word x.set 3 : Nat) : Int), .int .i64 x.lo, .int .i64 x.hi][j]? = some u → W.cell? ⟨bl, off + k * 8 + j, none⟩ = some u := fun j u hj hu => by
        have := h3 j hj
        rw [addr_add, addr_add, hu] at this
        exact this
      exact ⟨g 0 _ (by decide) rfl, g 1 _ (by decide) rfl, g 2 _ (by decide) rfl, g 3 _ (by decide) rfl, g 4 _ (by decide) rfl, g 5 _ (by decide) rfl, g 6 _ (by decide) rfl, g 7 _ (by decide) rfl⟩
end

/-- Their number. -/
theorem lexs_few {H : Type} {ts : List TypeId} {ds : List (DataW H)} {j len : Nat} {d : DataW H} (hsz : (DataW.weightsEach Try.prog ts ds).all (· ≤ reachBytes) = true) (ht : ts[j]? = some 92) (hd : ds[j]? = some d)
    (h : d = .nil ∧ len = 0 ∨ ∃ es rest : List (DataW H), d = .slice es rest ∧ es.length = len) : len ≤ 140737488355328 := by
  rcases h with ⟨_, h0⟩ | ⟨es, rest, rfl, he⟩
  · omega
  · have hs := sized_slice hsz ht hd Try.underlying92
    rw [bytesLex] at hs
    have hr : reachBytes = 140737488351232 := by decide
    rw [hr] at hs
    omega

end Go.Proofs.Ytgbpcigfbpghgaa
namespace Go.Proofs.Ytgbpcigfbpghgaa
open Go.ChangeShapes Go.WideShapes Go.ChangeAt Go.RowKit
set_option linter.unusedSimpArgs false
set_option linter.unusedVariables false
set_option maxRecDepth 100000

theorem cellsNode : Try.prog.cellsOf 37 = 8 := by kernel_rfl
theorem cellsNodes : Try.prog.cellsOf 35 = 1 := by kernel_rfl
theorem cellsTKind : Try.prog.cellsOf 31 = 1 := by kernel_rfl
theorem set_words {n0 n1 n2 n3 : Nat} (h0 : n0 < 18446744073709551616) (h1 : n1 < 18446744073709551616) (h2 : n2 < 18446744073709551616) (h3 : n3 < 18446744073709551616) :
    ∃ s : Nat, word s.testBit 0 = n0 ∧ word s.testBit 1 = n1 ∧ word s.testBit 2 = n2 ∧ word s.testBit 3 = n3 := by
  obtain ⟨k0, k1, k2, k3⟩ := word_bitsOf h0 h1 h2 h3
  have h : ∀ i, i < 4 → word (ofBits (bitsOf n0 n1 n2 n3) 256).testBit i = word (bitsOf n0 n1 n2 n3) i := fun i hi => word_congr (fun j hj => by rw [testBit_ofBits]; simp; omega)
  exact ⟨ofBits (bitsOf n0 n1 n2 n3) 256, by rw [h 0 (by decide), k0], by rw [h 1 (by decide), k1], by rw [h 2 (by decide), k2], by rw [h 3 (by decide), k3]⟩
theorem bulk_pos {H : Type} (d : DataW H) : 1 ≤ Rows.uptoBulk d := by
  cases d with
  | lit l => cases l <;> simp [Rows.uptoBulk]
  | _ => simp [Rows.uptoBulk]
theorem bulkAll_mem {H : Type} : ∀ {ds : List (DataW H)} {d : DataW H}, d ∈ ds → Rows.uptoBulk d ≤ Rows.uptoBulkAll ds
  | e :: r, d, h => by
    rcases List.mem_cons.1 h with rfl | h
    · simp [Rows.uptoBulkAll]
    · have := bulkAll_mem h
      simp [Rows.uptoBulkAll]
      omega

section
variable {H : Type} {enc : TypeId × Value → H} {W : World}
/-- What is known of trees that came in by a fuel: a slice of them. -/
def CameF (enc : TypeId × Value → H) (W : World) (fuel : Nat) : Prop := ∀ (A : Option Addr) (len cap : Nat) (y : DataW H × List MemPlace),
  DataW.trod enc Try.prog W 0 (fun _ => true) true fuel 35 [.slice A len cap] = some y → ∃ F : Trees, F.len = len ∧ TreesAt W (fun b => b < W.heap.size) F A ∧ len ≤ cap ∧ F.size ≤ Rows.uptoBulk y.1
theorem node_came {fuel : Nat} {cs : List Value} {y : DataW H × List MemPlace} (ih : ∀ n, n < fuel → CameF enc W n) (h : DataW.trod enc Try.prog W 0 (fun _ => true) true fuel 37 cs = some y) :
    ∃ (x : Nd) (B : Option Addr) (cap : Nat), cs = ndCell x B cap ∧ x.kids.len ≤ cap ∧ TreesAt W (fun b => b < W.heap.size) x.kids B ∧ x.size ≤ Rows.uptoBulk y.1 := by
  obtain ⟨xs, n, hfn, hy, hl, hxl, hf⟩ := DataW.trod_struct Try.underlying37 h
  rw [cellsNode] at hl
  obtain ⟨v0, v1, v2, v3, v4, v5, v6, v7, rfl⟩ : ∃ v0 v1 v2 v3 v4 v5 v6 v7, cs = [v0, v1, v2, v3, v4, v5, v6, v7] := by
    match cs, hl with
    | [a, b, c, d, e, f, g, h], _ => exact ⟨a, b, c, d, e, f, g, h, rfl⟩
  have g0 : DataW.trod enc Try.prog W 0 (fun _ => true) true n 31 (([v0, v1, v2, v3, v4, v5, v6, v7].drop 0).take (Try.prog.cellsOf 31)) = xs[0]? := hf 0 _ rfl
  have g1 : DataW.trod enc Try.prog W 0 (fun _ => true) true n 34 (([v0, v1, v2, v3, v4, v5, v6, v7].drop 1).take (Try.prog.cellsOf 34)) = xs[1]? := hf 1 _ rfl
  have g2 : DataW.trod enc Try.prog W 0 (fun _ => true) true n 35 (([v0, v1, v2, v3, v4, v5, v6, v7].drop 5).take (Try.prog.cellsOf 35)) = xs[2]? := hf 2 _ rfl
  have g3 : DataW.trod enc Try.prog W 0 (fun _ => true) true n 3 (([v0, v1, v2, v3, v4, v5, v6, v7].drop 6).take (Try.prog.cellsOf 3)) = xs[3]? := hf 3 _ rfl
  have g4 : DataW.trod enc Try.prog W 0 (fun _ => true) true n 3 (([v0, v1, v2, v3, v4, v5, v6, v7].drop 7).take (Try.prog.cellsOf 3)) = xs[4]? := hf 4 _ rfl
  have hs : ∀ i, i < 5 → ∃ z, xs[i]? = some z := fun i hi => ⟨_, List.getElem?_eq_getElem (by rw [hxl]; exact hi)⟩
  obtain ⟨z0, e0⟩ := hs 0 (by decide)
  obtain ⟨z1, e1⟩ := hs 1 (by decide)
  obtain ⟨z2, e2⟩ := hs 2 (by decide)
  obtain ⟨z3, e3⟩ := hs 3 (by decide)
  obtain ⟨z4, e4⟩ := hs 4 (by decide)
  rw [e0] at g0
  rw [e1] at g1
  rw [e2] at g2
  rw [e3] at g3
  rw [e4] at g4
  rw [cellsTKind] at g0
  rw [cellsInt] at g3 g4
  rw [cellsNodes] at g2
  rw [cellsSet] at g1
  obtain ⟨a0, q0, _, _⟩ := DataW.trod_int Try.underlying31 g0
  obtain ⟨a3, q3, _, _⟩ := DataW.trod_int Try.underlying3 g3
  obtain ⟨a4, q4, _, _⟩ := DataW.trod_int Try.underlying3 g4
  obtain ⟨us, m, _, _, _, hul, hu⟩ := DataW.trod_array Try.underlying34 g1
  have ht : ∀ i, i < 4 → ∃ z, us[i]? = some z := fun i hi => ⟨_, List.getElem?_eq_getElem (by rw [hul]; exact hi)⟩
  have u0 := hu 0 (by decide)
  have u1 := hu 1 (by decide)
  have u2 := hu 2 (by decide)
  have u3 := hu 3 (by decide)
  obtain ⟨t0, f0⟩ := ht 0 (by decide)
  obtain ⟨t1, f1⟩ := ht 1 (by decide)
  obtain ⟨t2, f2⟩ := ht 2 (by decide)
  obtain ⟨t3, f3⟩ := ht 3 (by decide)
  rw [f0, cellsWord] at u0
  rw [f1, cellsWord] at u1
  rw [f2, cellsWord] at u2
  rw [f3, cellsWord] at u3
  obtain ⟨b0, r0, _, w0⟩ := DataW.trod_int Try.underlying32 u0
  obtain ⟨b1, r1, _, w1⟩ := DataW.trod_int Try.underlying32 u1
  obtain ⟨b2, r2, _, w2⟩ := DataW.trod_int Try.underlying32 u2
  obtain ⟨b3, r3, _, w3⟩ := DataW.trod_int Try.underlying32 u3
  have hv5 : ∃ A len cap, v5 = .slice A len cap := by
    rcases DataW.trod_slice Try.underlying35 g2 with ⟨hcs, _⟩ | ⟨a, l, c, _, _, _, _, hcs, _⟩
    · simp at hcs; exact ⟨_, _, _, hcs⟩
    · simp at hcs; exact ⟨_, _, _, hcs⟩
  obtain ⟨A, len, cap, rfl⟩ := hv5
  obtain ⟨F, hF1, hF2, hF3, hF4⟩ := ih n (by omega) A len cap z2 (by simpa using g2)
  simp at q0 q3 q4 r0 r1 r2 r3
  subst q0 q3 q4 r0 r1 r2 r3
  obtain ⟨s0, s0'⟩ := u64_of_wf w0
  obtain ⟨s1, s1'⟩ := u64_of_wf w1
  obtain ⟨s2, s2'⟩ := u64_of_wf w2
  obtain ⟨s3, s3'⟩ := u64_of_wf w3
  obtain ⟨n0, rfl⟩ := Int.eq_ofNat_of_zero_le s0
  obtain ⟨n1, rfl⟩ := Int.eq_ofNat_of_zero_le s1
  obtain ⟨n2, rfl⟩ := Int.eq_ofNat_of_zero_le s2
  obtain ⟨n3, rfl⟩ := Int.eq_ofNat_of_zero_le s3
  obtain ⟨s, k0, k1, k2, k3⟩ := set_words (n0 := n0) (n1 := n1) (n2 := n2) (n3 := n3) (by omega) (by omega) (by omega) (by omega)
  have hb : Rows.uptoBulk z2.1 ≤ Rows.uptoBulkAll (xs.map (·.1)) := bulkAll_mem (List.mem_map.2 ⟨z2, List.mem_of_getElem? e2, rfl⟩)
  refine ⟨⟨a0, s, F, a3, a4⟩, A, cap, by unfold ndCell; simp only; rw [k0, k1, k2, k3, hF1], by simpa only [hF1] using hF3, hF2, ?_⟩
  rw [hy]
  unfold Nd.size
  simp only [Rows.uptoBulk]
  omega
theorem bulk_sum {H : Type} : ∀ (es : List (DataW H)) (l : List Nat), es.length = l.length → (∀ (i : Nat) (d : DataW H) (k : Nat), es[i]? = some d → l[i]? = some k → k ≤ Rows.uptoBulk d) → l.sum ≤ Rows.uptoBulkAll es
  | [], [], _, _ => by simp
  | [], _ :: _, h, _ => by simp at h
  | _ :: _, [], h, _ => by simp at h
  | d :: es, k :: l, h, hk => by
    have h1 := bulk_sum es l (by simpa using h) (fun i d k h1 h2 => hk (i + 1) d k (by simpa using h1) (by simpa using h2))
    have h2 := hk 0 d k rfl rfl
    simp only [Rows.uptoBulkAll, List.sum_cons]
    omega
theorem size_sum (l : List Nd) : (Trees.of l).size = (l.map Nd.size).sum := by
  induction l with
  | nil => rfl
  | cons x l ih => rw [Trees.of, Trees.size, ih, List.map_cons, List.sum_cons]; rfl
theorem slice_came (fuel : Nat) (ih : ∀ n, n < fuel → CameF enc W n) : CameF enc W fuel := by
  intro A len cap y h
  rcases DataW.trod_slice Try.underlying35 h with ⟨hcs, hd⟩ | ⟨a, l, c, elems, rest, n, hfn, hcs, hd, hb, hlc, hm, hel, hc, _, _⟩
  · simp at hcs
    obtain ⟨rfl, rfl, rfl⟩ := hcs
    exact ⟨.nil, rfl, trivial, Nat.le_refl _, Nat.zero_le _⟩
  · simp at hcs
    obtain ⟨rfl, rfl, rfl⟩ := hcs
    rw [cellsNode] at hc
    have hx : ∀ i, i < len → ∃ (x : Nd) (B : Option Addr) (capx : Nat) (cs : List Value) (e : DataW H × List MemPlace), elems[i]? = some e ∧ W.cells? 0 (a.add (i * 8)) 8 = some cs ∧ cs = ndCell x B capx ∧ x.kids.len ≤ capx ∧ TreesAt W (fun b => b < W.heap.size) x.kids B ∧ x.size ≤ Rows.uptoBulk e.1 := by
      intro i hi
      have h1 := hc i hi
      rw [List.getElem?_eq_getElem (by omega)] at h1
      obtain ⟨cs, h2, h3⟩ := Option.bind_eq_some_iff.1 h1
      obtain ⟨x, B, capx, k1, k2, k3, k4⟩ := node_came (fun m hm => ih m (by omega)) h3
      exact ⟨x, B, capx, cs, _, List.getElem?_eq_getElem (by omega), h2, k1, k2, k3, k4⟩
    classical
    let f : Nat → Nd := fun i => if hi : i < len then Classical.choose (hx i hi) else ⟨0, 0, .nil, 0, 0⟩
    have hf2 : ∀ i (hi : i < len), f i = Classical.choose (hx i hi) := fun i hi => dif_pos hi
    have hspec : ∀ i (hi : i < len), ∃ (B : Option Addr) (capx : Nat) (cs : List Value) (e : DataW H × List MemPlace), elems[i]? = some e ∧ W.cells? 0 (a.add (i * 8)) 8 = some cs ∧ cs = ndCell (f i) B capx ∧ (f i).kids.len ≤ capx ∧ TreesAt W (fun b => b < W.heap.size) (f i).kids B ∧ (f i).size ≤ Rows.uptoBulk e.1 := fun i hi => by
      have := Classical.choose_spec (hx i hi)
      rw [← hf2 i hi] at this
      exact this
    have hget : ∀ i, i < len → ((List.range len).map f)[i]? = some (f i) := fun i hi => by rw [List.getElem?_map, List.getElem?_range hi]; rfl
    refine ⟨Trees.of ((List.range len).map f), by rw [Trees.len_of]; simp, ?_, hlc, ?_⟩
    · rcases Nat.eq_zero_or_pos len with rfl | hpos
      · exact TreesAt.nilAt (by rw [Trees.len_of]; simp)
      obtain ⟨bl, off, spot⟩ := a
      obtain ⟨B0, c0, cs0, z0, _, hcs0, hx0, _⟩ := hspec 0 hpos
      obtain ⟨_, _, hcell0⟩ := World.cells?_some hcs0
      have h00 := hcell0 0 (by decide)
      rw [hx0] at h00
      have hspot : spot = none := by
        have := World.cell?_spot (v := .int .i64 (f 0).kind) (by simpa [ndCell] using h00)
        simpa [Addr.add] using this
      subst hspot
      refine TreesAt.mk ?_ (fun i x hxi => ?_)
      · have := World.block_lt_of_cell? W _ (u := .int .i64 (f 0).kind) (by simpa [ndCell] using h00)
        simpa [addr_add] using this
      · rw [Trees.list_of] at hxi
        have hi : i < len := by
          have := (List.getElem?_eq_some_iff.mp hxi).1
          simpa using this
        rw [hget i hi] at hxi
        obtain rfl := Option.some.inj hxi
        obtain ⟨B, capx, cs, e, _, h1, h2, h3, h4, _⟩ := hspec i hi
        obtain ⟨_, _, h5⟩ := World.cells?_some h1
        rw [h2] at h5
        have g : ∀ j u, j < 8 → (ndCell (f i) B capx)[j]? = some u → W.cell? ⟨bl, off + i * 8 + j, none⟩ = some u := fun j u hj hu => by
          have := h5 j hj
          rw [addr_add, addr_add, hu] at this
          exact this
        exact ⟨B, capx, h3, ⟨g 0 _ (by decide) rfl, g 1 _ (by decide) rfl, g 2 _ (by decide) rfl, g 3 _ (by decide) rfl, g 4 _ (by decide) rfl, g 5 _ (by decide) rfl, g 6 _ (by decide) rfl, g 7 _ (by decide) rfl⟩, h4⟩
    · rw [hd, size_sum]
      simp only [Rows.uptoBulk]
      have := bulk_sum (elems.map (·.1)) (((List.range len).map f).map Nd.size) (by simpa using hel) (fun i d k h1 h2 => by
        have hi : i < len := by
          have := (List.getElem?_eq_some_iff.mp h2).1
          simpa using this
        rw [List.getElem?_map, hget i hi] at h2
        obtain rfl := Option.some.inj h2
        obtain ⟨B, capx, cs, e, he, _, _, _, _, h6⟩ := hspec i hi
        rw [List.getElem?_map, he] at h1
        obtain rfl := Option.some.inj h1
        exact h6)
      omega
theorem came_all : ∀ fuel, CameF enc W fuel := fun fuel => by
  induction fuel using Nat.strongRecOn with
  | _ n ih => exact slice_came n ih
/-- A slice of trees that came in. -/
theorem trees_came {A : Option Addr} {len cap : Nat} {d : DataW H} {p : List MemPlace} (h : DataW.Trod enc Try.prog W 0 (fun _ => true) true 35 (.slice A len cap) d p) :
    ∃ F : Trees, F.len = len ∧ TreesAt W (fun b => b < W.heap.size) F A ∧ len ≤ cap ∧ F.size ≤ Rows.uptoBulk d := by
  obtain ⟨fuel, hf⟩ := h
  exact came_all fuel A len cap (d, p) hf
/-- A tree that came in. -/
theorem tree_came {v : Value} {d : DataW H} {p : List MemPlace} (h : DataW.Trod enc Try.prog W 0 (fun _ => true) true 37 v d p) :
    ∃ (x : Nd) (B : Option Addr) (cap : Nat), v.cells.toList = ndCell x B cap ∧ x.kids.len ≤ cap ∧ TreesAt W (fun b => b < W.heap.size) x.kids B ∧ x.size ≤ Rows.uptoBulk d := by
  obtain ⟨fuel, hf⟩ := h
  exact node_came (fun n _ => came_all n) hf
end
end Go.Proofs.Ytgbpcigfbpghgaa
namespace Go.Proofs.Ytgbpcigfbpghgaa
open Go.RowKit
set_option linter.unusedSimpArgs false
set_option linter.unusedVariables false
set_option maxRecDepth 100000

def topN : Nat := 1099511627776
/-- At A stand numbers. -/
def NumsAt (w : World) (A : Option Addr) (xs : List Nat) : Prop := ∀ i, i < xs.length → ∃ b o, A = some ⟨b, o, none⟩ ∧ w.cell? ⟨b, o + i, none⟩ = some (.int .i64 ((xs.getD i 0 : Nat) : Int))
theorem NumsAt.below {w w' : World} {A : Option Addr} {xs : List Nat} (h : NumsAt w A xs) (hb : Below w.heap.size w w') : NumsAt w' A xs := fun i hi => by
  obtain ⟨b, o, hA, hc⟩ := h i hi
  exact ⟨b, o, hA, (hb.cell (p := ⟨b, _, none⟩) (World.block_lt_of_cell? w _ hc)).trans hc⟩
theorem take_sum (xs : List Nat) (k : Nat) (h : k < xs.length) : (xs.take (k + 1)).sum = (xs.take k).sum + xs.getD k 0 := by
  rw [List.take_succ_eq_append_getElem h, List.sum_append]
  simp [List.getD, h]

theorem add1_go (a b g : Nat) (w : World) (ha : a ≤ topN) (hb : b ≤ topN) (hg : w.cell? ⟨g, 0, none⟩ = some (.int .i64 1099511627776)) :
    Calls Try.prog 59 #[.int .i64 (a : Int), .int .i64 (b : Int), .pointer (some ⟨g, 0, none⟩)] w fun e w' => e = .returned (.int .i64 ((min topN (a + b) : Nat) : Int)) ∧ w = w' := by
  unfold topN at *
  rcases Nat.lt_or_ge 1099511627776 (a + b) with h | h
  · have h1 : (1099511627776 : Int) - a < b := by omega
    go_enter Try.func59, Try.ntmps59
    go_wp2
    go_ret
    exact ⟨ret_i (by omega), rfl⟩
  · have h1 : ¬ (1099511627776 : Int) - a < b := by omega
    go_enter Try.func59, Try.ntmps59
    go_wp2
    go_ret
    exact ⟨ret_i (by omega), rfl⟩
set_option maxHeartbeats 1000000 in
theorem foldadd_go (A : Option Addr) (cap g : Nat) (xs : List Nat) (w : World) (hA : NumsAt w A xs) (hx : ∀ x ∈ xs, x ≤ topN) (hl : xs.length ≤ 100000) (hg : w.cell? ⟨g, 0, none⟩ = some (.int .i64 1099511627776)) :
    Calls Try.prog 58 #[.int .i64 0, .slice A xs.length cap, .func (.func 59) #[] #[.pointer (some ⟨g, 0, none⟩)]] w fun e w' => e = .returned (.int .i64 ((min topN xs.sum : Nat) : Int)) ∧ w = w' := by
  have HA := Lib.hid hA
  have HX := Lib.hid hx
  have HG := Lib.hid hg
  clear hA hx hg
  go_enter Try.func58, Try.ntmps58
  go_wp2
  go_loop [7, 13] (fun v i => ∃ k : Nat, k ≤ xs.length ∧ i = .int .i64 (k : Int) ∧ v = .int .i64 ((min topN (xs.take k).sum : Nat) : Int)) (fun _ i => xs.length - (intOf i).toNat)
  case atStart => exact ⟨0, Nat.zero_le _, rfl, by simp⟩
  case round =>
    obtain ⟨k, hk, rfl, rfl⟩ := hrel
    by_cases hlt : k < xs.length
    · obtain ⟨b, o, rfl, hc⟩ := HA.out k hlt
      have hts := take_sum xs k hlt
      have hxk : xs.getD k 0 ≤ topN := HX.out _ (by simp [List.getD, hlt])
      have HC := Lib.hid (add1_go (min topN (xs.take k).sum) (xs.getD k 0) g w (Nat.min_le_left _ _) hxk HG.out)
      have HR := Lib.hid (show min topN (min topN (xs.take k).sum + xs.getD k 0) = min topN (xs.take (k + 1)).sum by rw [hts]; omega)
      clear hts
      generalize xs.getD k 0 = x at *
      generalize min topN (xs.take k).sum = v at *
      have hx0 : ¬ ((x : Int) < 0) := by omega
      go_wp2_with fail
      refine HC.out.mono ?_
      rintro e w' ⟨rfl, rfl⟩
      rw [HR.out]
      dsimp only
      go_wp2
      go_round
      case rel => exact ⟨k + 1, by omega, by go_num, rfl⟩
      case measure => simp [intOf]; omega
    · obtain rfl : k = xs.length := by omega
      go_wp2
      go_ret
      exact ⟨rfl, rfl⟩
/-- num.Add at the top. -/
theorem nadd_go (A : Option Addr) (cap : Nat) (xs : List Nat) (w : World) (hA : NumsAt w A xs) (hx : ∀ x ∈ xs, x ≤ topN) (hl : xs.length ≤ 100000) :
    Calls Try.prog 32 #[.int .i64 1099511627776, .slice A xs.length cap] w fun e w' => e = .returned (.int .i64 ((min topN xs.sum : Nat) : Int)) ∧ Below w.heap.size w w' := by
  have hb1 : Below w.heap.size w (w.alloc (.cells #[.int .i64 1099511627776] 3)) := (Below.refl _ _).alloc (Nat.le_refl _) _
  have HC := Lib.hid (foldadd_go A cap w.heap.size xs _ (hA.below hb1) hx hl ((Blk.new w 3 #[.int .i64 1099511627776]).cell 0))
  have HB := Lib.hid hb1
  clear hA hx hb1
  go_enter Try.func32, Try.ntmps32
  go_wp2_with fail
  refine HC.out.mono ?_
  rintro e w' ⟨rfl, rfl⟩
  dsimp only
  go_wp2
  go_ret
  exact ⟨rfl, HB.out⟩
set_option maxHeartbeats 1000000 in
theorem radd_go (A : Option Addr) (cap : Nat) (xs : List Nat) (w : World) (hA : NumsAt w A xs) (hx : ∀ x ∈ xs, x ≤ topN) (hl : xs.length ≤ 100000) :
    Calls Try.prog 33 #[.int .i64 1099511627776, .slice A xs.length cap] w fun e w' => e = .returned (.int .i64 ((min topN xs.sum : Nat) : Int)) ∧ w = w' := by
  have HA := Lib.hid hA
  have HX := Lib.hid hx
  have HS := Lib.hid (show ∀ k, (xs.take k).sum ≤ xs.sum from fun k => by
    conv => rhs; rw [← List.take_append_drop k xs, List.sum_append]
    omega)
  clear hA hx
  go_enter Try.func33, Try.ntmps33
  go_wp2
  go_loop [5, 6] (fun v i => ∃ k : Nat, k ≤ xs.length ∧ i = .int .i64 (k : Int) ∧ (xs.take k).sum ≤ 1099511627776 ∧ v = .int .i64 (((xs.take k).sum : Nat) : Int)) (fun _ i => xs.length - (intOf i).toNat)
  case atStart => exact ⟨0, Nat.zero_le _, rfl, by simp, by simp⟩
  case round =>
    obtain ⟨k, hk, rfl, hle, rfl⟩ := hrel
    by_cases hlt : k < xs.length
    · obtain ⟨b, o, rfl, hc⟩ := HA.out k hlt
      have hts := take_sum xs k hlt
      have hxk : xs.getD k 0 ≤ topN := HX.out _ (by simp [List.getD, hlt])
      have hsm := HS.out (k + 1)
      unfold topN at hxk
      have HT := Lib.hid hts
      rcases Nat.lt_or_ge 1099511627776 ((xs.take k).sum + xs.getD k 0) with h | h
      · have HV := Lib.hid (show min topN xs.sum = 1099511627776 by unfold topN; omega)
        clear hts hsm
        generalize xs.getD k 0 = x at *
        generalize (xs.take k).sum = v at *
        have h1 : (1099511627776 : Int) - v < x := by omega
        have h2 : ¬ ((x : Int) < 0) := by omega
        go_wp2
        go_ret
        exact ⟨ret_i (by rw [HV.out]; rfl), rfl⟩
      · clear hts hsm
        rw [← HT.out] at h
        generalize hsx : (xs.take (k + 1)).sum = y at *
        generalize xs.getD k 0 = x at *
        generalize hsv : (xs.take k).sum = v at *
        have HY := Lib.hid hsx
        have hT := HT.out
        have h1 : ¬ (1099511627776 : Int) - v < x := by omega
        have h2 : ¬ ((x : Int) < 0) := by omega
        have Hsv := Lib.hid hsv
        clear hT hsx hsv
        go_wp2
        go_round
        case rel => exact ⟨k + 1, by omega, by go_num, by rw [HY.out]; exact h, congrArg _ (by rw [HY.out, HT.out]; omega)⟩
        case measure => simp [intOf]; omega
    · obtain rfl : k = xs.length := by omega
      rw [List.take_length] at hle ⊢
      have HV := Lib.hid (show min topN xs.sum = xs.sum by unfold topN; omega)
      go_wp2
      go_ret
      exact ⟨ret_i (by rw [HV.out]), rfl⟩

theorem div_lt (x y : Nat) (hy : 0 < y) : (1099511627776 : Int) / (y : Int) < (x : Int) ↔ 1099511627776 < x * y := by
  have e : (1099511627776 : Int) / (y : Int) = ((1099511627776 / y : Nat) : Int) := rfl
  rw [e, Int.ofNat_lt, Nat.div_lt_iff_lt_mul hy]
set_option maxHeartbeats 1000000 in
theorem mul1_ok (a b be g : Nat) (w : World) (ha : a ≤ topN) (hb : b ≤ topN) (hab : a * b ≤ topN) (hbe : w.cell? ⟨be, 0, none⟩ = some (.bool false)) (hg : w.cell? ⟨g, 0, none⟩ = some (.int .i64 1099511627776)) :
    Calls Try.prog 77 #[.int .i64 (a : Int), .int .i64 (b : Int), .pointer (some ⟨be, 0, none⟩), .pointer (some ⟨g, 0, none⟩)] w fun e w' => e = .returned (.int .i64 ((a * b : Nat) : Int)) ∧ w = w' := by
  unfold topN at *
  rcases Nat.eq_zero_or_pos a with rfl | h0
  · rw [Nat.zero_mul]
    go_enter Try.func77, Try.ntmps77
    go_wp2
    go_ret
    exact ⟨rfl, rfl⟩
  rcases Nat.eq_zero_or_pos b with rfl | h1
  · rw [Nat.mul_zero]
    have hz : ((a : Int) == 0) = false := by rw [beq_eq_false_iff_ne]; omega
    go_enter Try.func77, Try.ntmps77
    go_wp2
    go_ret
    exact ⟨rfl, rfl⟩
  have hz : ((a : Int) == 0) = false := by rw [beq_eq_false_iff_ne]; omega
  have hz2 : ((b : Int) == 0) = false := by rw [beq_eq_false_iff_ne]; omega
  have hd : ¬ ((1099511627776 : Int) / (b : Int) < (a : Int)) := by rw [div_lt a b h1]; omega
  have HM := Lib.hid (show ((a * b : Nat) : Int) = (a : Int) * (b : Int) by simp)
  have hm1 : (a : Int) * (b : Int) ≤ 1099511627776 := by rw [← HM.out]; omega
  have hm0 : 0 ≤ (a : Int) * (b : Int) := by rw [← HM.out]; omega
  have hw : IntKind.i64.wrap ((a : Int) * (b : Int)) = (a : Int) * (b : Int) := by rw [IntKind.wrap_i64]; omega
  clear hab
  go_enter Try.func77, Try.ntmps77
  go_wp2
  go_ret
  exact ⟨ret_i HM.out.symm, rfl⟩
set_option maxHeartbeats 1000000 in
theorem mul1_big (a b be g : Nat) (w : World) (ha : a ≤ topN) (hb : b ≤ topN) (hab : topN < a * b) (hbe : w.cell? ⟨be, 0, none⟩ = some (.bool false)) (hfe : w.frozen? ⟨be, 0, none⟩ = false) (hg : w.cell? ⟨g, 0, none⟩ = some (.int .i64 1099511627776)) :
    Calls Try.prog 77 #[.int .i64 (a : Int), .int .i64 (b : Int), .pointer (some ⟨be, 0, none⟩), .pointer (some ⟨g, 0, none⟩)] w fun e w' => e = .returned (.int .i64 (a : Int)) ∧ w.setCell ⟨be, 0, none⟩ (.bool true) = w' := by
  unfold topN at *
  have h0 : 0 < a := by
    rcases Nat.eq_zero_or_pos a with rfl | h
    · simp at hab
    · exact h
  have h1 : 0 < b := by
    rcases Nat.eq_zero_or_pos b with rfl | h
    · simp at hab
    · exact h
  have hz : ((a : Int) == 0) = false := by rw [beq_eq_false_iff_ne]; omega
  have hz2 : ((b : Int) == 0) = false := by rw [beq_eq_false_iff_ne]; omega
  have hd : (1099511627776 : Int) / (b : Int) < (a : Int) := by rw [div_lt a b h1]; omega
  clear hab
  go_enter Try.func77, Try.ntmps77
  go_wp2
  go_ret
  exact ⟨rfl, rfl⟩
set_option maxHeartbeats 2000000 in
theorem foldmul_go (A : Option Addr) (cap be g x y : Nat) (w : World) (hA : NumsAt w A [x, y]) (hx : x ≤ topN) (hy : y ≤ topN) (hbe : w.cell? ⟨be, 0, none⟩ = some (.bool false)) (hfe : w.frozen? ⟨be, 0, none⟩ = false) (hg : w.cell? ⟨g, 0, none⟩ = some (.int .i64 1099511627776)) :
    Calls Try.prog 58 #[.int .i64 1, .slice A 2 cap, .func (.func 77) #[] #[.pointer (some ⟨be, 0, none⟩), .pointer (some ⟨g, 0, none⟩)]] w fun e w' =>
      (x * y ≤ topN ∧ e = .returned (.int .i64 ((x * y : Nat) : Int)) ∧ w = w') ∨ (topN < x * y ∧ e = .returned (.int .i64 (x : Int)) ∧ w.setCell ⟨be, 0, none⟩ (.bool true) = w') := by
  obtain ⟨b, o, rfl, c0⟩ := hA 0 (by simp)
  obtain ⟨_, _, e0, c1⟩ := hA 1 (by simp)
  cases e0
  have c0 : w.cell? ⟨b, o, none⟩ = some (.int .i64 (x : Int)) := c0
  have c1 : w.cell? ⟨b, o + 1, none⟩ = some (.int .i64 (y : Int)) := c1
  have H1 := Lib.hid (mul1_ok 1 x be g w (by decide) hx (by omega) hbe hg)
  rw [Nat.one_mul] at H1
  have hx0 : ¬ ((x : Int) < 0) := by omega
  have hy0 : ¬ ((y : Int) < 0) := by omega
  rcases Nat.lt_or_ge topN (x * y) with h | h
  · have H2 := Lib.hid (mul1_big x y be g w hx hy h hbe hfe hg)
    have HH := Lib.hid h
    clear hA h hbe hfe hg
    go_enter Try.func58, Try.ntmps58
    go_wp2
    refine wp_loop_rounds 3 ?_
    rw [rounds_succ]
    go_wp2_with fail
    refine H1.out.mono ?_
    rintro e w' ⟨rfl, rfl⟩
    dsimp only
    go_wp2
    rw [rounds_succ]
    go_wp2_with fail
    refine H2.out.mono ?_
    rintro e w' ⟨rfl, rfl⟩
    dsimp only
    go_wp2
    rw [rounds_succ]
    go_wp2
    go_ret
    exact .inr ⟨HH.out, rfl, rfl⟩
  · have H2 := Lib.hid (mul1_ok x y be g w hx hy h hbe hg)
    have HH := Lib.hid h
    clear hA h hbe hfe hg
    go_enter Try.func58, Try.ntmps58
    go_wp2
    refine wp_loop_rounds 3 ?_
    rw [rounds_succ]
    go_wp2_with fail
    refine H1.out.mono ?_
    rintro e w' ⟨rfl, rfl⟩
    dsimp only
    go_wp2
    rw [rounds_succ]
    go_wp2_with fail
    refine H2.out.mono ?_
    rintro e w' ⟨rfl, rfl⟩
    dsimp only
    go_wp2
    rw [rounds_succ]
    go_wp2
    go_ret
    exact .inl ⟨HH.out, rfl, rfl⟩

set_option maxHeartbeats 1000000 in
/-- num.Mul of two at the top. -/
theorem nmul_go (A : Option Addr) (cap x y : Nat) (w : World) (hA : NumsAt w A [x, y]) (hx : x ≤ topN) (hy : y ≤ topN) :
    Calls Try.prog 57 #[.int .i64 1099511627776, .slice A 2 cap] w fun e w' => e = .returned (.int .i64 ((min topN (x * y) : Nat) : Int)) ∧ Below w.heap.size w w' := by
  have hb2 : Below w.heap.size w ((w.alloc (.cells #[.int .i64 1099511627776] 3)).alloc (.cells #[.bool false] 4)) := ((Below.refl _ _).alloc (Nat.le_refl _) _).alloc (by simp) _
  have hg2 : Blk ((w.alloc (.cells #[.int .i64 1099511627776] 3)).alloc (.cells #[.bool false] 4)) w.heap.size 3 #[.int .i64 1099511627776] := (Blk.new _ _ _).alloc _
  have he2 : Blk ((w.alloc (.cells #[.int .i64 1099511627776] 3)).alloc (.cells #[.bool false] 4)) (w.heap.size + 1) 4 #[.bool false] := Blk.new_at (by simp)
  have HC := Lib.hid (foldmul_go A cap (w.heap.size + 1) w.heap.size x y _ (hA.below hb2) hx hy (he2.cell 0) (he2.frozen 0) (hg2.cell 0))
  have HX := Lib.hid (show _ ∧ _ ∧ _ from ⟨hb2, hg2, he2⟩)
  have Hxy := Lib.hid (show x ≤ topN from hx)
  clear hA hx hy hb2 hg2 he2
  go_enter Try.func57, Try.ntmps57
  go_wp2_with fail
  refine HC.out.mono ?_
  rintro e w' (⟨h, rfl, rfl⟩ | ⟨h, rfl, rfl⟩)
  · have hxy := h
    obtain ⟨z, hzd⟩ : ∃ z, x * y = z := ⟨_, rfl⟩
    have HV := Lib.hid (show min topN (x * y) = z by omega)
    rw [hzd] at hxy ⊢
    unfold topN at hxy
    clear h hzd
    dsimp only
    have hg := HX.out.2.1.cell 0
    have he := HX.out.2.2.cell 0
    rcases Nat.eq_zero_or_pos z with rfl | hz
    · go_wp2
      go_ret
      exact ⟨ret_i (by rw [HV.out]; rfl), HX.out.1⟩
    · have hz1 : ((z : Int) != 0) = true := by rw [bne_iff_ne]; omega
      go_wp2
      go_ret
      exact ⟨ret_i (by rw [HV.out]), HX.out.1⟩
  · have HV := Lib.hid (show min topN (x * y) = topN by omega)
    have hx0 : 0 < x := by
      rcases Nat.eq_zero_or_pos x with rfl | h0
      · rw [Nat.zero_mul] at h; exact absurd h (by decide)
      · exact h0
    have hz1 : ((x : Int) != 0) = true := by rw [bne_iff_ne]; omega
    clear h
    have hg := (HX.out.2.1.far (p := ⟨w.heap.size + 1, 0, none⟩) (by simp) (.bool true)).cell 0
    have he := (HX.out.2.2.set_ 0 (.bool true)).cell 0
    dsimp only
    go_wp2
    go_ret
    exact ⟨ret_i (by rw [HV.out]; rfl), ((Below.refl _ _).alloc (Nat.le_refl _) _).alloc (by simp) _⟩
theorem toNat_max (n : Nat) : ((n : Int)).toNat = n := Int.toNat_natCast n
set_option maxHeartbeats 2000000 in
/-- The reference's Mul of two at the top. -/
theorem rmul_go (A : Option Addr) (cap x y : Nat) (w : World) (hA : NumsAt w A [x, y]) (hx : x ≤ topN) (hy : y ≤ topN) :
    Calls Try.prog 34 #[.int .i64 1099511627776, .slice A 2 cap] w fun e w' => e = .returned (.int .i64 ((min topN (x * y) : Nat) : Int)) ∧ w = w' := by
  obtain ⟨b, o, rfl, c0⟩ := hA 0 (by simp)
  obtain ⟨_, _, e0, c1⟩ := hA 1 (by simp)
  cases e0
  have c0 : w.cell? ⟨b, o, none⟩ = some (.int .i64 (x : Int)) := c0
  have c1 : w.cell? ⟨b, o + 1, none⟩ = some (.int .i64 (y : Int)) := c1
  unfold topN at hx hy
  clear hA
  rcases Nat.eq_zero_or_pos x with rfl | hx0
  · rw [Nat.zero_mul]
    go_enter Try.func34, Try.ntmps34
    go_wp2
    refine wp_loop_rounds 1 ?_
    rw [rounds_succ]
    go_wp2
    go_ret
    exact ⟨rfl, rfl⟩
  have hx1 : ¬ ((x : Int) ≤ 0) := by omega
  rcases Nat.eq_zero_or_pos y with rfl | hy0
  · rw [Nat.mul_zero]
    go_enter Try.func34, Try.ntmps34
    go_wp2
    refine wp_loop_rounds 2 ?_
    rw [rounds_succ]
    go_wp2
    rw [rounds_succ]
    go_wp2
    go_ret
    exact ⟨rfl, rfl⟩
  have hy1 : ¬ ((y : Int) ≤ 0) := by omega
  have hd1 : ¬ ((1099511627776 : Int) / (x : Int) < 1) := by
    have := div_lt 1 x hx0
    rw [Nat.one_mul] at this
    intro h
    have := this.1 (by simpa using h)
    omega
  rcases Nat.lt_or_ge topN (x * y) with h | h
  · have HV := Lib.hid (show min topN (x * y) = topN by omega)
    have hd2 : (1099511627776 : Int) / (y : Int) < (x : Int) := (div_lt x y hy0).2 h
    clear h
    go_enter Try.func34, Try.ntmps34
    go_wp2
    refine wp_loop_rounds 3 ?_
    rw [rounds_succ]
    go_wp2
    rw [rounds_succ]
    go_wp2
    rw [rounds_succ]
    go_wp2
    refine wp_loop_rounds 2 ?_
    rw [rounds_succ]
    go_wp2
    rw [rounds_succ]
    go_wp2
    go_ret
    exact ⟨ret_i (by rw [HV.out]; rfl), rfl⟩
  · have HV := Lib.hid (show min topN (x * y) = x * y by omega)
    have hd2 : ¬ ((1099511627776 : Int) / (y : Int) < (x : Int)) := fun h2 => by
      have := (div_lt x y hy0).1 h2
      unfold topN at h
      omega
    unfold topN at h
    have HM := Lib.hid (show ((x * y : Nat) : Int) = (x : Int) * (y : Int) by simp)
    have hm1 : (x : Int) * (y : Int) ≤ 1099511627776 := by rw [← HM.out]; omega
    have hm0 : 0 ≤ (x : Int) * (y : Int) := by rw [← HM.out]; omega
    have hw : IntKind.i64.wrap ((x : Int) * (y : Int)) = (x : Int) * (y : Int) := by rw [IntKind.wrap_i64]; omega
    clear h
    go_enter Try.func34, Try.ntmps34
    go_wp2
    refine wp_loop_rounds 3 ?_
    rw [rounds_succ]
    go_wp2
    rw [rounds_succ]
    go_wp2
    rw [rounds_succ]
    go_wp2
    refine wp_loop_rounds 3 ?_
    rw [rounds_succ]
    go_wp2
    rw [rounds_succ]
    go_wp2
    rw [rounds_succ]
    go_wp2
    go_ret
    exact ⟨ret_i (by rw [HV.out]; exact HM.out.symm), rfl⟩

end Go.Proofs.Ytgbpcigfbpghgaa
namespace Go.Proofs.Ytgbpcigfbpghgaa
open Go.RowKit Go.Shelf
set_option linter.unusedSimpArgs false
set_option linter.unusedVariables false
set_option maxRecDepth 100000
attribute [local go_sem] Oper.semAt_some

/-- A node, with the slice of its kids. -/
abbrev ItemX := Nd × Option Addr × Nat
def itemX (q : ItemX) : Array Value := #[ndV q.1 q.2.1 q.2.2]
/-- All nodes, each ahead of its kids. -/
def Trees.nodes : Trees → List Nd
  | .nil => []
  | .cons k s ks lo hi r => ⟨k, s, ks, lo, hi⟩ :: (ks.nodes ++ r.nodes)
def Nd.nodes (x : Nd) : List Nd := x :: x.kids.nodes
theorem Trees.nodes_len : ∀ F : Trees, F.nodes.length = F.size
  | .nil => rfl
  | .cons k s ks lo hi r => by
    have h1 := Trees.nodes_len ks
    have h2 := Trees.nodes_len r
    simp [Trees.nodes, Trees.size, h1, h2]
    omega
theorem Nd.nodes_len (x : Nd) : x.nodes.length = x.size := by
  unfold Nd.nodes Nd.size
  rw [List.length_cons, Trees.nodes_len]
  omega
/-- The nodes of the first trees. -/
def Trees.upto : Trees → Nat → List Nd
  | .nil, _ => []
  | .cons _ _ _ _ _ _, 0 => []
  | .cons k s ks lo hi r, i + 1 => ⟨k, s, ks, lo, hi⟩ :: (ks.nodes ++ r.upto i)
theorem Trees.upto_zero (F : Trees) : F.upto 0 = [] := by cases F <;> rfl
theorem Trees.upto_succ : ∀ {F : Trees} {i : Nat} {z : Nd}, F.list[i]? = some z → F.upto (i + 1) = F.upto i ++ z.nodes
  | .nil, i, z, h => by simp [Trees.list] at h
  | .cons k s ks lo hi r, 0, z, h => by
    simp [Trees.list] at h
    subst h
    simp [Trees.upto, Trees.upto_zero, Nd.nodes]
  | .cons k s ks lo hi r, i + 1, z, h => by
    have := Trees.upto_succ (F := r) (i := i) (by simpa [Trees.list] using h)
    simp only [Trees.upto] at this ⊢
    rw [this]
    simp
theorem Trees.upto_prefix : ∀ (F : Trees) (i : Nat), F.upto i <+: F.nodes
  | .nil, i => List.prefix_refl _
  | .cons k s ks lo hi r, 0 => List.nil_prefix
  | .cons k s ks lo hi r, i + 1 => by
    have := Trees.upto_prefix r i
    obtain ⟨t, ht⟩ := this
    exact ⟨t, by simp [Trees.upto, Trees.nodes, ← ht]⟩
theorem Trees.upto_all : ∀ (F : Trees), F.upto F.len = F.nodes
  | .nil => rfl
  | .cons k s ks lo hi r => by
    have := Trees.upto_all r
    simp [Trees.upto, Trees.nodes, Trees.len, this]

section
variable {l Bn N : Nat} {P : Nat → Prop} {J Jx : List ItemX → World → Prop}
def WalkX (l Bn N : Nat) (P : Nat → Prop) (J Jx : List ItemX → World → Prop) (n : Nat) : Prop := ∀ (m : Nat) (x : Nd) (B : Option Addr) (cap : Nat) (pre : List ItemX) (W : World), x.size ≤ n → Bn < W.heap.size → TreesAt W P x.kids B → J pre W → pre.length + x.size ≤ N →
  CallsIn Fence.wide m Try.prog 79 #[ndV x B cap, .func (.yield l) #[] #[]] W fun e W' =>
    (e = .returned (.bool true) ∧ (∃ ys : List ItemX, ys.map (·.1) = pre.map (·.1) ++ x.nodes ∧ J ys W') ∧ Kc Bn W W') ∨ (e = .returned (.bool false) ∧ ∃ q : List ItemX, q.map (·.1) <+: pre.map (·.1) ++ x.nodes ∧ Jx q W')
set_option maxHeartbeats 2000000 in
theorem walkx_step (hP : ∀ b, P b → b ≠ Bn) (hN : N ≤ 4611686018427387903) (hJ : ∀ s W o, J s W → J s (World.alloc W o))
    (hY : ∀ m pre (x : ItemX) W, J pre W → pre.length < N → YieldAt Fence.wide m Try.prog l (itemX x) W fun e W' =>
      (e = .returned (.bool true) ∧ J (pre ++ [x]) W' ∧ Kc Bn W W') ∨ (e = .returned (.bool false) ∧ Jx (pre ++ [x]) W'))
    {n : Nat} (ih : WalkX l Bn N P J Jx n) : WalkX l Bn N P J Jx (n + 1) := by
  intro m x B cap pre W hsz hBn ht h0 hlen
  have hx1 : 1 ≤ x.size := by unfold Nd.size; omega
  have hxs : x.size = 1 + x.kids.size := rfl
  have hk0 := Trees.len_size x.kids
  have hlk : x.kids.len ≤ 4611686018427387903 := by omega
  have HA := Lib.hid (show Kc Bn W (W.alloc (.cells (ndA x B cap) 37)) from Kc.below ((Below.refl _ _).alloc (Nat.le_refl _) _))
  have HK := Lib.hid (Blk.new W 37 (ndA x B cap))
  obtain ⟨fn, tmps, assign, body, hy, hR⟩ := hY (m - 1) pre (x, B, cap) (W.alloc (.cells (ndA x B cap) 37)) (hJ _ _ _ h0) (by omega)
  have HR := Lib.hid hR
  have HT := Lib.hid ht
  have hne : W.heap.size ≠ Bn := by omega
  clear hR ht
  unfold itemX at hy
  dsimp only at hy
  unfold ndV ndA at hy
  unfold ndV
  refine callsIn_of_wp Try.func79 rfl trivial ?_ rfl
  simp only [Try.ntmps79, List.size_toArray, List.length_cons, List.length_nil, Nat.reduceAdd, Nat.reduceSub, Array.replicate_succ, Array.replicate_zero, List.push_toArray, List.append_toArray, List.nil_append, List.cons_append]
  have hdd : ∀ k : Nat, (Fence.wide.depth.isSome = true → 1 ≤ k) := fun k h => by cases h
  gi_wp2
  refine ⟨hdd _, HR.out.mono ?_⟩
  rintro e W3 (⟨rfl, hJ3, hk3⟩ | ⟨rfl, hJx3⟩)
  · have hK3 := HA.out.trans hk3
    have c5 : W3.cell? ⟨W.heap.size, 5, none⟩ = some (.slice B x.kids.len cap) := hk3.2 ⟨W.heap.size, 5, none⟩ _ hne (HK.out.cell 5)
    have HJ3 := Lib.hid hJ3
    have HK3 := Lib.hid hK3
    clear hJ3 hk3 hK3 HR hy HA HK
    gi_wp2
    gi_loopw [14] (fun v wr => ∃ k : Nat, v = .int .i64 (k : Int) ∧ k ≤ x.kids.len ∧ Hid ((∃ ys : List ItemX, ys.map (·.1) = pre.map (·.1) ++ x :: x.kids.upto k ∧ J ys wr) ∧ Kc Bn W wr)) (fun v _ => x.kids.len - (intOf v).toNat)
    case atStart => exact ⟨0, rfl, Nat.zero_le _, Lib.hid ⟨⟨_, by rw [Trees.upto_zero]; simp, HJ3.out⟩, HK3.out⟩⟩
    case round =>
      obtain ⟨k, rfl, hk, HI⟩ := hrel
      clear HJ3 HK3
      by_cases hlt : k < x.kids.len
      · obtain ⟨z, hz⟩ : ∃ z, x.kids.list[k]? = some z := ⟨_, List.getElem?_eq_getElem (by rw [Trees.len_list]; exact hlt)⟩
        have hzs := Trees.size_get x.kids k z hz
        obtain ⟨⟨ys, hys, hJy⟩, hKy⟩ := HI.out
        obtain ⟨b, o, C, capc, rfl, _, _, ⟨c0, c1, c2, c3, c4, c5, c6, c7⟩, hkz⟩ := (Kc.trees hKy hP HT.out).get hz
        have hf1 := Trees.upto_succ hz
        have hf2 := (Trees.upto_prefix x.kids (k + 1)).length_le
        rw [Trees.nodes_len, hf1, List.length_append, Nd.nodes_len] at hf2
        have hyl := congrArg List.length hys
        simp only [List.length_map, List.length_append, List.length_cons] at hyl
        have hdl : (k : Int) < (x.kids.len : Int) := by omega
        have hkA : Kc Bn wr (wr.alloc (.cells (ndA z C capc) 37)) := Kc.below ((Below.refl _ _).alloc (Nat.le_refl _) _)
        have HC := Lib.hid (ih (m - 1) z C capc ys (wr.alloc (.cells (ndA z C capc) 37)) (by omega) (by have := hKy.1; simp; omega) (Kc.trees hkA hP hkz) (hJ _ _ _ hJy) (by omega))
        have HKy := Lib.hid (hKy.trans hkA)
        have HF := Lib.hid (show ys.map (·.1) ++ z.nodes = pre.map (·.1) ++ x :: x.kids.upto (k + 1) by rw [hys, hf1]; simp)
        clear hyl
        clear hz hzs hys hJy hKy hkz hf1 hf2 hkA HI
        unfold ndV at HC
        gi_wp2
        refine ⟨trivial, hdd _, HC.out.mono ?_⟩
        clear HC
        rintro e W4 (⟨rfl, ⟨ys4, hl4, hJ4⟩, hk4⟩ | ⟨rfl, q, hqp, hq⟩)
        · have HI4 := Lib.hid (show (∃ ys : List ItemX, ys.map (·.1) = pre.map (·.1) ++ x :: x.kids.upto (k + 1) ∧ J ys W4) ∧ Kc Bn W W4 from ⟨⟨ys4, hl4.trans HF.out, hJ4⟩, HKy.out.trans hk4⟩)
          clear hl4 hJ4 hk4 HF HKy c0 c1 c2 c3 c4 c5 c6 c7
          dsimp only
          gi_wp2
          go_roundw
          case rel => exact ⟨k + 1, by go_num, by omega, HI4⟩
          case measure => simp [intOf]; omega
        · have HQ := Lib.hid (show q.map (·.1) <+: pre.map (·.1) ++ x.nodes ∧ Jx q W4 from ⟨by
            rw [HF.out] at hqp
            exact hqp.trans (by unfold Nd.nodes; exact (List.prefix_append_right_inj _).2 (List.cons_prefix_cons.2 ⟨rfl, Trees.upto_prefix _ _⟩)), hq⟩)
          clear hq hqp HF HKy c0 c1 c2 c3 c4 c5 c6 c7
          dsimp only
          gi_wp2
          go_ret
          exact .inr ⟨rfl, q, HQ.out⟩
      · have hdl : ¬ (k : Int) < (x.kids.len : Int) := by omega
        obtain rfl : k = x.kids.len := by omega
        obtain ⟨⟨ys, hys, hJy⟩, hKy⟩ := HI.out
        have HY := Lib.hid (show (∃ ys : List ItemX, ys.map (·.1) = pre.map (·.1) ++ x.nodes ∧ J ys wr) ∧ Kc Bn W wr from ⟨⟨ys, by rw [hys, Trees.upto_all]; rfl, hJy⟩, hKy⟩)
        clear hys hJy hKy HI
        gi_wp2
        go_ret
        exact .inl ⟨rfl, HY.out.1, HY.out.2⟩
  · gi_wp2
    go_ret
    exact .inr ⟨rfl, _, by unfold Nd.nodes; simp, hJx3⟩
theorem walkx_all (hP : ∀ b, P b → b ≠ Bn) (hN : N ≤ 4611686018427387903) (hJ : ∀ s W o, J s W → J s (World.alloc W o))
    (hY : ∀ m pre (x : ItemX) W, J pre W → pre.length < N → YieldAt Fence.wide m Try.prog l (itemX x) W fun e W' =>
      (e = .returned (.bool true) ∧ J (pre ++ [x]) W' ∧ Kc Bn W W') ∨ (e = .returned (.bool false) ∧ Jx (pre ++ [x]) W')) : ∀ n, WalkX l Bn N P J Jx n
  | 0 => fun m x B cap pre W h => by unfold Nd.size at h; omega
  | n + 1 => walkx_step hP hN hJ hY (walkx_all hP hN hJ hY n)
end

set_option maxHeartbeats 1000000 in
theorem nodesx1_in (n : Nat) (x : Nd) (B : Option Addr) (cap : Nat) (l Bs Bn : Nat) (P : Nat → Prop) (hP : ∀ b, P b → b ≠ Bn) (hsz : x.size ≤ 4611686018427387903) (J Jx : List ItemX → World → Prop) (hJ : ∀ s W o, J s W → J s (World.alloc W o))
    (hY : ∀ pre (y : ItemX) W, J pre W → pre.length < x.size → YieldAt Fence.wide (n - 1) Try.prog l (itemX y) W fun e W' =>
      (e = .returned (.bool true) ∧ J (pre ++ [y]) W' ∧ Kc Bn W W') ∨ (e = .returned (.bool false) ∧ Jx (pre ++ [y]) W'))
    (W : World) (hb : Blk W Bs 37 (ndA x B cap)) (hBn : Bn < W.heap.size) (ht : TreesAt W P x.kids B) (h0 : J [] W) :
    CallsIn Fence.wide n Try.prog 78 #[.func (.yield l) #[] #[], .pointer (some ⟨Bs, 0, none⟩)] W fun e W' => (∃ v, e = .returned v) ∧
      ((∃ ys : List ItemX, ys.map (·.1) = x.nodes ∧ J ys W') ∨ (∃ pre : List ItemX, pre.map (·.1) <+: x.nodes ∧ Jx pre W')) := by
  have HC := Lib.hid (walkx_all (N := x.size) hP hsz hJ (fun m pre x W hj hl => yieldAt_any rfl m (hY pre x W hj hl)) x.size (n - 1) x B cap [] W (Nat.le_refl _) hBn ht h0 (by simp))
  have c0 : W.cell? ⟨Bs, 0, none⟩ = some (.int .i64 x.kind) := hb.cell 0
  have c1 : W.cell? ⟨Bs, 1, none⟩ = some (.int .u64 ((word x.set.testBit 0 : Nat) : Int)) := hb.cell 1
  have c2 : W.cell? ⟨Bs, 2, none⟩ = some (.int .u64 ((word x.set.testBit 1 : Nat) : Int)) := hb.cell 2
  have c3 : W.cell? ⟨Bs, 3, none⟩ = some (.int .u64 ((word x.set.testBit 2 : Nat) : Int)) := hb.cell 3
  have c4 : W.cell? ⟨Bs, 4, none⟩ = some (.int .u64 ((word x.set.testBit 3 : Nat) : Int)) := hb.cell 4
  have c5 : W.cell? ⟨Bs, 5, none⟩ = some (.slice B x.kids.len cap) := hb.cell 5
  have c6 : W.cell? ⟨Bs, 6, none⟩ = some (.int .i64 x.lo) := hb.cell 6
  have c7 : W.cell? ⟨Bs, 7, none⟩ = some (.int .i64 x.hi) := hb.cell 7
  have hdd : ∀ k : Nat, (Fence.wide.depth.isSome = true → 1 ≤ k) := fun k h => by cases h
  clear hb ht h0 hY hsz
  refine callsIn_of_wp Try.func78 rfl trivial ?_ rfl
  simp only [Try.ntmps78, List.size_toArray, List.length_cons, List.length_nil, Nat.reduceAdd, Nat.reduceSub, Array.replicate_succ, Array.replicate_zero, List.push_toArray, List.append_toArray, List.nil_append, List.cons_append]
  gi_wp2
  refine ⟨trivial, hdd _, HC.out.mono ?_⟩
  rintro e W1 (⟨rfl, ⟨ys, hys, hJ1⟩, _⟩ | ⟨rfl, q, hqp, hq⟩)
  · dsimp only
    gi_wp2
    go_end0
    exact ⟨⟨_, rfl⟩, .inl ⟨ys, by simpa using hys, hJ1⟩⟩
  · dsimp only
    gi_wp2
    go_end0
    exact ⟨⟨_, rfl⟩, .inr ⟨q, by simpa using hqp, hq⟩⟩
/-- What tree.nodes hands back hands out all nodes, each ahead of its kids. -/
theorem nodesx_stops (n : Nat) (x : Nd) (B : Option Addr) (cap : Nat) (Bs Bn : Nat) (P : Nat → Prop) (w : World) (hP : ∀ b, P b → b ≠ Bn) (hsz : x.size ≤ 4611686018427387903) (hb : Blk w Bs 37 (ndA x B cap)) (hBn : Bn < w.heap.size) (ht : TreesAt w P x.kids B) :
    SeqStopsK Fence.wide n Try.prog 78 #[.pointer (some ⟨Bs, 0, none⟩)] itemX (Kc Bn) (fun ys => ys.map (·.1) = x.nodes) (fun pre => pre.map (·.1) <+: x.nodes) x.size w := fun l J Jx W hW hJ _ hY h0 =>
  nodesx1_in n x B cap l Bs Bn P hP hsz J Jx (fun s W o h => hJ s W _ none h (World.grownBy_alloc W o none) (fun r e => by cases e)) hY W (hb.below hW hb.lt) (by have := hW.size; omega) (ht.below hW) h0

end Go.Proofs.Ytgbpcigfbpghgaa
namespace Go.Proofs.Ytgbpcigfbpghgaa
open Go.RowKit
set_option linter.unusedSimpArgs false
set_option linter.unusedVariables false
set_option maxRecDepth 100000

def arityS (k : Int) : Int := if k = 1 ∨ k = 2 ∨ k = 3 then 0 else if k = 4 ∨ k = 5 then 2 else if 6 ≤ k ∧ k ≤ 9 then 1 else -1
theorem arityx0 (w : World) : Calls Try.prog 81 #[.int .i64 0] w fun e w' => e = .returned (.int .i64 (-1)) ∧ Below w.heap.size w w' := by
  go_enter Try.func81, Try.ntmps81
  go_wp2
  go_light
  go_ret
  exact ⟨rfl, (Below.refl _ _).alloc (Nat.le_refl _) _⟩
theorem arityx1 (w : World) : Calls Try.prog 81 #[.int .i64 1] w fun e w' => e = .returned (.int .i64 (0)) ∧ Below w.heap.size w w' := by
  go_enter Try.func81, Try.ntmps81
  go_wp2
  go_light
  go_ret
  exact ⟨rfl, (Below.refl _ _).alloc (Nat.le_refl _) _⟩
theorem arity_low (k : Int) (w : World) (h : k < 0) : Calls Try.prog 81 #[.int .i64 k] w fun e w' => e = .returned (.int .i64 (-1)) ∧ Below w.heap.size w w' := by
  go_enter Try.func81, Try.ntmps81
  go_wp2
  go_light
  go_ret
  exact ⟨rfl, (Below.refl _ _).alloc (Nat.le_refl _) _⟩
theorem arity_high (k : Int) (w : World) (h : 10 ≤ k) : Calls Try.prog 81 #[.int .i64 k] w fun e w' => e = .returned (.int .i64 (-1)) ∧ Below w.heap.size w w' := by
  have h0 : ¬ k < 0 := by omega
  go_enter Try.func81, Try.ntmps81
  go_wp2
  go_light
  go_ret
  exact ⟨rfl, (Below.refl _ _).alloc (Nat.le_refl _) _⟩
theorem arity_go (k : Int) (w : World) : Calls Try.prog 81 #[.int .i64 k] w fun e w' => e = .returned (.int .i64 (arityS k)) ∧ Below w.heap.size w w' := by
  rcases Int.lt_or_le k 0 with h | h
  · rw [show arityS k = -1 by unfold arityS; rw [if_neg (by omega), if_neg (by omega), if_neg (by omega)]]
    exact arity_low k w h
  · rcases Int.lt_or_le k 10 with h1 | h1
    · have hk : k = 0 ∨ k = 1 ∨ k = 2 ∨ k = 3 ∨ k = 4 ∨ k = 5 ∨ k = 6 ∨ k = 7 ∨ k = 8 ∨ k = 9 := by omega
      rcases hk with rfl | rfl | rfl | rfl | rfl | rfl | rfl | rfl | rfl | rfl
      · exact arityx0 w
      · exact arityx1 w
      · exact arity2 w
      · exact arity3 w
      · exact arity4 w
      · exact arity5 w
      · exact arity6 w
      · exact arity7 w
      · exact arity8 w
      · exact arity9 w
    · rw [show arityS k = -1 by unfold arityS; rw [if_neg (by omega), if_neg (by omega), if_neg (by omega)]]
      exact arity_high k w h1
/-- May numbers of times be? -/
def timesB (lo hi : Int) : Bool := decide (0 ≤ lo) && decide (lo ≤ 1000) && (decide (hi = -1) || decide (lo ≤ hi) && decide (hi ≤ 1000))
theorem times1 (lo hi : Int) (w : World) (h : ¬ 0 ≤ lo) : Calls Try.prog 80 #[.int .i64 lo, .int .i64 hi] w fun e w' => e = .returned (.bool false) ∧ Below w.heap.size w w' := by
  skip
  go_enter Try.func80, Try.ntmps80
  go_wp2
  go_light
  go_ret
  exact ⟨rfl, Below.refl _ _⟩
theorem times2 (lo hi : Int) (w : World) (h0 : 0 ≤ lo) (h : ¬ lo ≤ 1000) : Calls Try.prog 80 #[.int .i64 lo, .int .i64 hi] w fun e w' => e = .returned (.bool false) ∧ Below w.heap.size w w' := by
  skip
  go_enter Try.func80, Try.ntmps80
  go_wp2
  go_light
  go_ret
  exact ⟨rfl, Below.refl _ _⟩
theorem times3 (lo hi : Int) (w : World) (h0 : 0 ≤ lo) (h1 : lo ≤ 1000) (hm : hi ≠ -1) (h : ¬ lo ≤ hi) : Calls Try.prog 80 #[.int .i64 lo, .int .i64 hi] w fun e w' => e = .returned (.bool false) ∧ Below w.heap.size w w' := by
  have hb : (hi == -1) = false := by simpa using hm
  go_enter Try.func80, Try.ntmps80
  go_wp2
  go_light
  go_ret
  exact ⟨rfl, Below.refl _ _⟩
theorem times4 (lo hi : Int) (w : World) (h0 : 0 ≤ lo) (h1 : lo ≤ 1000) (hm : hi ≠ -1) (h2 : lo ≤ hi) (h : ¬ hi ≤ 1000) : Calls Try.prog 80 #[.int .i64 lo, .int .i64 hi] w fun e w' => e = .returned (.bool false) ∧ Below w.heap.size w w' := by
  have hb : (hi == -1) = false := by simpa using hm
  go_enter Try.func80, Try.ntmps80
  go_wp2
  go_light
  go_ret
  exact ⟨rfl, Below.refl _ _⟩
theorem timesB_go (lo hi : Int) (w : World) : Calls Try.prog 80 #[.int .i64 lo, .int .i64 hi] w fun e w' => e = .returned (.bool (timesB lo hi)) ∧ Below w.heap.size w w' := by
  unfold timesB
  by_cases h0 : 0 ≤ lo
  · by_cases h1 : lo ≤ 1000
    · by_cases hm : hi = -1
      · subst hm
        simp only [h0, h1, decide_true, Bool.true_and, Bool.true_or]
        exact times_any lo w h0 h1
      · by_cases h2 : lo ≤ hi
        · by_cases h3 : hi ≤ 1000
          · simp only [h0, h1, hm, h2, h3, decide_true, decide_false, Bool.true_and, Bool.false_or, Bool.and_self]
            exact times_two lo hi w h0 h1 h2 h3
          · simp only [h0, h1, hm, h2, h3, decide_true, decide_false, Bool.true_and, Bool.false_or, Bool.and_false]
            exact times4 lo hi w h0 h1 hm h2 h3
        · simp only [h0, h1, hm, h2, decide_true, decide_false, Bool.true_and, Bool.false_or, Bool.false_and]
          exact times3 lo hi w h0 h1 hm h2
    · simp only [h0, h1, decide_true, decide_false, Bool.true_and, Bool.false_and]
      exact times2 lo hi w h0 h1
  · simp only [h0, decide_false, Bool.false_and]
    exact times1 lo hi w h0

end Go.Proofs.Ytgbpcigfbpghgaa
namespace Go.Proofs.Ytgbpcigfbpghgaa
open Go.RowKit
set_option linter.unusedSimpArgs false
set_option linter.unusedVariables false
set_option maxRecDepth 100000

/-- A set that is not empty where no set may be. -/
theorem aset1 (k a b c d lo hi : Int) (B : Option Addr) (n cap : Nat) (w : World) (h3 : k ≠ 3) (h : a ≠ 0) : Calls Try.prog 62 #[.agg #[.int .i64 k, .int .u64 a, .int .u64 b, .int .u64 c, .int .u64 d, .slice B n cap, .int .i64 lo, .int .i64 hi]] w fun e w' => e = .returned (.bool false) ∧ Below w.heap.size w w' := by
  have hk : (k != 3) = true := by simpa using h3
  have hb : (a == 0) = false := by simpa using h
  go_enter Try.func62, Try.ntmps62
  go_wp2
  go_light
  go_ret
  exact ⟨rfl, (Below.refl _ _).alloc (Nat.le_refl _) _⟩
theorem aset2 (k a b c d lo hi : Int) (B : Option Addr) (n cap : Nat) (w : World) (h3 : k ≠ 3) (h0 : a = 0) (h : b ≠ 0) : Calls Try.prog 62 #[.agg #[.int .i64 k, .int .u64 a, .int .u64 b, .int .u64 c, .int .u64 d, .slice B n cap, .int .i64 lo, .int .i64 hi]] w fun e w' => e = .returned (.bool false) ∧ Below w.heap.size w w' := by
  have hk : (k != 3) = true := by simpa using h3
  subst h0; have hb : (b == 0) = false := by simpa using h
  go_enter Try.func62, Try.ntmps62
  go_wp2
  go_light
  go_ret
  exact ⟨rfl, (Below.refl _ _).alloc (Nat.le_refl _) _⟩
theorem aset3 (k a b c d lo hi : Int) (B : Option Addr) (n cap : Nat) (w : World) (h3 : k ≠ 3) (h0 : a = 0) (h1 : b = 0) (h : c ≠ 0) : Calls Try.prog 62 #[.agg #[.int .i64 k, .int .u64 a, .int .u64 b, .int .u64 c, .int .u64 d, .slice B n cap, .int .i64 lo, .int .i64 hi]] w fun e w' => e = .returned (.bool false) ∧ Below w.heap.size w w' := by
  have hk : (k != 3) = true := by simpa using h3
  subst h0 h1; have hb : (c == 0) = false := by simpa using h
  go_enter Try.func62, Try.ntmps62
  go_wp2
  go_light
  go_ret
  exact ⟨rfl, (Below.refl _ _).alloc (Nat.le_refl _) _⟩
theorem aset4 (k a b c d lo hi : Int) (B : Option Addr) (n cap : Nat) (w : World) (h3 : k ≠ 3) (h0 : a = 0) (h1 : b = 0) (h2 : c = 0) (h : d ≠ 0) : Calls Try.prog 62 #[.agg #[.int .i64 k, .int .u64 a, .int .u64 b, .int .u64 c, .int .u64 d, .slice B n cap, .int .i64 lo, .int .i64 hi]] w fun e w' => e = .returned (.bool false) ∧ Below w.heap.size w w' := by
  have hk : (k != 3) = true := by simpa using h3
  subst h0 h1 h2; have hb : (d == 0) = false := by simpa using h
  go_enter Try.func62, Try.ntmps62
  go_wp2
  go_light
  go_ret
  exact ⟨rfl, (Below.refl _ _).alloc (Nat.le_refl _) _⟩
/-- Numbers of times where none may be. -/
theorem anum1 (k a b c d lo hi : Int) (B : Option Addr) (n cap : Nat) (w : World) (h3 : k ≠ 3) (h9 : k ≠ 9) (h : lo ≠ 0) : Calls Try.prog 62 #[.agg #[.int .i64 k, .int .u64 0, .int .u64 0, .int .u64 0, .int .u64 0, .slice B n cap, .int .i64 lo, .int .i64 hi]] w fun e w' => e = .returned (.bool false) ∧ Below w.heap.size w w' := by
  have hk : (k != 3) = true := (by simpa using h3); have hk9 : (k == 9) = false := (by simpa using h9); have hb : (lo != 0) = true := (by simpa using h)
  go_enter Try.func62, Try.ntmps62
  go_wp2
  go_light
  go_ret
  exact ⟨rfl, (Below.refl _ _).alloc (Nat.le_refl _) _⟩
theorem anum2 (k a b c d lo hi : Int) (B : Option Addr) (n cap : Nat) (w : World) (h3 : k ≠ 3) (h9 : k ≠ 9) (h : hi ≠ 0) : Calls Try.prog 62 #[.agg #[.int .i64 k, .int .u64 0, .int .u64 0, .int .u64 0, .int .u64 0, .slice B n cap, .int .i64 0, .int .i64 hi]] w fun e w' => e = .returned (.bool false) ∧ Below w.heap.size w w' := by
  have hk : (k != 3) = true := (by simpa using h3); have hk9 : (k == 9) = false := (by simpa using h9); have hb : (hi != 0) = true := (by simpa using h)
  go_enter Try.func62, Try.ntmps62
  go_wp2
  go_light
  go_ret
  exact ⟨rfl, (Below.refl _ _).alloc (Nat.le_refl _) _⟩
theorem anum3 (k a b c d lo hi : Int) (B : Option Addr) (n cap : Nat) (w : World) (h : lo ≠ 0) : Calls Try.prog 62 #[.agg #[.int .i64 3, .int .u64 a, .int .u64 b, .int .u64 c, .int .u64 d, .slice B n cap, .int .i64 lo, .int .i64 hi]] w fun e w' => e = .returned (.bool false) ∧ Below w.heap.size w w' := by
  have hb : (lo != 0) = true := (by simpa using h)
  go_enter Try.func62, Try.ntmps62
  go_wp2
  go_light
  go_ret
  exact ⟨rfl, (Below.refl _ _).alloc (Nat.le_refl _) _⟩
theorem anum4 (k a b c d lo hi : Int) (B : Option Addr) (n cap : Nat) (w : World) (h : hi ≠ 0) : Calls Try.prog 62 #[.agg #[.int .i64 3, .int .u64 a, .int .u64 b, .int .u64 c, .int .u64 d, .slice B n cap, .int .i64 0, .int .i64 hi]] w fun e w' => e = .returned (.bool false) ∧ Below w.heap.size w w' := by
  have hb : (hi != 0) = true := (by simpa using h)
  go_enter Try.func62, Try.ntmps62
  go_wp2
  go_light
  go_ret
  exact ⟨rfl, (Below.refl _ _).alloc (Nat.le_refl _) _⟩
theorem anum9 (B : Option Addr) (n cap : Nat) (lo hi : Int) (w : World) (h : timesB lo hi = false) :
    Calls Try.prog 62 #[.agg #[.int .i64 9, .int .u64 0, .int .u64 0, .int .u64 0, .int .u64 0, .slice B n cap, .int .i64 lo, .int .i64 hi]] w fun e w' => e = .returned (.bool false) ∧ Below w.heap.size w w' := by
  have hb1 : Below w.heap.size w (w.alloc (.cells #[.int .i64 9, .int .u64 0, .int .u64 0, .int .u64 0, .int .u64 0, .slice B n cap, .int .i64 lo, .int .i64 hi] 37)) := (Below.refl _ _).alloc (Nat.le_refl _) _
  have HB := Lib.hid hb1
  have hT := timesB_go lo hi (w.alloc (.cells #[.int .i64 9, .int .u64 0, .int .u64 0, .int .u64 0, .int .u64 0, .slice B n cap, .int .i64 lo, .int .i64 hi] 37))
  rw [h] at hT
  have HT := Lib.hid hT
  clear hb1 hT h
  go_enter Try.func62, Try.ntmps62
  go_wp2_with fail
  refine HT.out.mono ?_
  rintro e w2 ⟨rfl, hb2⟩
  have HB2 := Lib.hid (HB.out.trans (hb2.mono HB.out.size))
  clear hb2 HB HT
  dsimp only
  go_wp2
  go_light
  go_ret
  exact ⟨rfl, HB2.out⟩
/-- By the number of kids. -/
theorem akidn (k a b c d : Int) (B : Option Addr) (n cap : Nat) (w : World) (h3 : k ≠ 3) (h9 : k ≠ 9) (hr : arityS k = -1) : Calls Try.prog 62 #[.agg #[.int .i64 k, .int .u64 0, .int .u64 0, .int .u64 0, .int .u64 0, .slice B n cap, .int .i64 0, .int .i64 0]] w fun e w' => e = .returned (.bool false) ∧ Below w.heap.size w w' := by
  have hk : (k != 3) = true := (by simpa using h3); have hk9 : (k == 9) = false := (by simpa using h9)
  have hb1 : Below w.heap.size w (w.alloc (.cells #[.int .i64 k, .int .u64 0, .int .u64 0, .int .u64 0, .int .u64 0, .slice B n cap, .int .i64 0, .int .i64 0] 37)) := (Below.refl _ _).alloc (Nat.le_refl _) _
  have HB := Lib.hid hb1
  have HK := Lib.hid (Blk.new w 37 #[.int .i64 k, .int .u64 0, .int .u64 0, .int .u64 0, .int .u64 0, .slice B n cap, .int .i64 0, .int .i64 0])
  have hR := arity_go k (w.alloc (.cells #[.int .i64 k, .int .u64 0, .int .u64 0, .int .u64 0, .int .u64 0, .slice B n cap, .int .i64 0, .int .i64 0] 37))
  rw [hr] at hR
  have HR := Lib.hid hR
  clear hb1 hR hr
  go_enter Try.func62, Try.ntmps62
  go_wp2_with fail
  refine HR.out.mono ?_
  rintro e w2 ⟨rfl, hb2⟩
  have HB2 := Lib.hid (HB.out.trans (hb2.mono HB.out.size))
  have c5 := (HK.out.below hb2 (by simp)).cell 5
  have c5 : w2.cell? ⟨w.heap.size, 5, none⟩ = some (.slice B n cap) := c5
  clear hb2 HB HR HK
  dsimp only
  go_wp2
  go_light
  go_ret
  exact ⟨rfl, HB2.out⟩
theorem akid0y (k a b c d : Int) (B : Option Addr) (n cap : Nat) (w : World) (h3 : k ≠ 3) (h9 : k ≠ 9) (hr : arityS k = 0) : Calls Try.prog 62 #[.agg #[.int .i64 k, .int .u64 0, .int .u64 0, .int .u64 0, .int .u64 0, .slice B 0 cap, .int .i64 0, .int .i64 0]] w fun e w' => e = .returned (.bool true) ∧ Below w.heap.size w w' := by
  have hk : (k != 3) = true := (by simpa using h3); have hk9 : (k == 9) = false := (by simpa using h9)
  have hb1 : Below w.heap.size w (w.alloc (.cells #[.int .i64 k, .int .u64 0, .int .u64 0, .int .u64 0, .int .u64 0, .slice B 0 cap, .int .i64 0, .int .i64 0] 37)) := (Below.refl _ _).alloc (Nat.le_refl _) _
  have HB := Lib.hid hb1
  have HK := Lib.hid (Blk.new w 37 #[.int .i64 k, .int .u64 0, .int .u64 0, .int .u64 0, .int .u64 0, .slice B 0 cap, .int .i64 0, .int .i64 0])
  have hR := arity_go k (w.alloc (.cells #[.int .i64 k, .int .u64 0, .int .u64 0, .int .u64 0, .int .u64 0, .slice B 0 cap, .int .i64 0, .int .i64 0] 37))
  rw [hr] at hR
  have HR := Lib.hid hR
  clear hb1 hR hr
  go_enter Try.func62, Try.ntmps62
  go_wp2_with fail
  refine HR.out.mono ?_
  rintro e w2 ⟨rfl, hb2⟩
  have HB2 := Lib.hid (HB.out.trans (hb2.mono HB.out.size))
  have c5 := (HK.out.below hb2 (by simp)).cell 5
  have c5 : w2.cell? ⟨w.heap.size, 5, none⟩ = some (.slice B 0 cap) := c5
  clear hb2 HB HR HK
  dsimp only
  go_wp2
  go_light
  go_ret
  exact ⟨rfl, HB2.out⟩
theorem akid0n (k a b c d : Int) (B : Option Addr) (n cap : Nat) (w : World) (h3 : k ≠ 3) (h9 : k ≠ 9) (hr : arityS k = 0) (h : n ≠ 0) : Calls Try.prog 62 #[.agg #[.int .i64 k, .int .u64 0, .int .u64 0, .int .u64 0, .int .u64 0, .slice B n cap, .int .i64 0, .int .i64 0]] w fun e w' => e = .returned (.bool false) ∧ Below w.heap.size w w' := by
  have hk : (k != 3) = true := (by simpa using h3); have hk9 : (k == 9) = false := (by simpa using h9); have hb : ((n : Int) == 0) = false := (by rw [beq_eq_false_iff_ne]; omega)
  have hb1 : Below w.heap.size w (w.alloc (.cells #[.int .i64 k, .int .u64 0, .int .u64 0, .int .u64 0, .int .u64 0, .slice B n cap, .int .i64 0, .int .i64 0] 37)) := (Below.refl _ _).alloc (Nat.le_refl _) _
  have HB := Lib.hid hb1
  have HK := Lib.hid (Blk.new w 37 #[.int .i64 k, .int .u64 0, .int .u64 0, .int .u64 0, .int .u64 0, .slice B n cap, .int .i64 0, .int .i64 0])
  have hR := arity_go k (w.alloc (.cells #[.int .i64 k, .int .u64 0, .int .u64 0, .int .u64 0, .int .u64 0, .slice B n cap, .int .i64 0, .int .i64 0] 37))
  rw [hr] at hR
  have HR := Lib.hid hR
  clear hb1 hR hr
  go_enter Try.func62, Try.ntmps62
  go_wp2_with fail
  refine HR.out.mono ?_
  rintro e w2 ⟨rfl, hb2⟩
  have HB2 := Lib.hid (HB.out.trans (hb2.mono HB.out.size))
  have c5 := (HK.out.below hb2 (by simp)).cell 5
  have c5 : w2.cell? ⟨w.heap.size, 5, none⟩ = some (.slice B n cap) := c5
  clear hb2 HB HR HK
  dsimp only
  go_wp2
  go_light
  go_ret
  exact ⟨rfl, HB2.out⟩
theorem akid1y (k a b c d : Int) (B : Option Addr) (n cap : Nat) (w : World) (h3 : k ≠ 3) (h9 : k ≠ 9) (hr : arityS k = 1) : Calls Try.prog 62 #[.agg #[.int .i64 k, .int .u64 0, .int .u64 0, .int .u64 0, .int .u64 0, .slice B 1 cap, .int .i64 0, .int .i64 0]] w fun e w' => e = .returned (.bool true) ∧ Below w.heap.size w w' := by
  have hk : (k != 3) = true := (by simpa using h3); have hk9 : (k == 9) = false := (by simpa using h9)
  have hb1 : Below w.heap.size w (w.alloc (.cells #[.int .i64 k, .int .u64 0, .int .u64 0, .int .u64 0, .int .u64 0, .slice B 1 cap, .int .i64 0, .int .i64 0] 37)) := (Below.refl _ _).alloc (Nat.le_refl _) _
  have HB := Lib.hid hb1
  have HK := Lib.hid (Blk.new w 37 #[.int .i64 k, .int .u64 0, .int .u64 0, .int .u64 0, .int .u64 0, .slice B 1 cap, .int .i64 0, .int .i64 0])
  have hR := arity_go k (w.alloc (.cells #[.int .i64 k, .int .u64 0, .int .u64 0, .int .u64 0, .int .u64 0, .slice B 1 cap, .int .i64 0, .int .i64 0] 37))
  rw [hr] at hR
  have HR := Lib.hid hR
  clear hb1 hR hr
  go_enter Try.func62, Try.ntmps62
  go_wp2_with fail
  refine HR.out.mono ?_
  rintro e w2 ⟨rfl, hb2⟩
  have HB2 := Lib.hid (HB.out.trans (hb2.mono HB.out.size))
  have c5 := (HK.out.below hb2 (by simp)).cell 5
  have c5 : w2.cell? ⟨w.heap.size, 5, none⟩ = some (.slice B 1 cap) := c5
  clear hb2 HB HR HK
  dsimp only
  go_wp2
  go_light
  go_ret
  exact ⟨rfl, HB2.out⟩
theorem akid1n (k a b c d : Int) (B : Option Addr) (n cap : Nat) (w : World) (h3 : k ≠ 3) (h9 : k ≠ 9) (hr : arityS k = 1) (h : n ≠ 1) : Calls Try.prog 62 #[.agg #[.int .i64 k, .int .u64 0, .int .u64 0, .int .u64 0, .int .u64 0, .slice B n cap, .int .i64 0, .int .i64 0]] w fun e w' => e = .returned (.bool false) ∧ Below w.heap.size w w' := by
  have hk : (k != 3) = true := (by simpa using h3); have hk9 : (k == 9) = false := (by simpa using h9); have hb : ((n : Int) == 1) = false := (by rw [beq_eq_false_iff_ne]; omega)
  have hb1 : Below w.heap.size w (w.alloc (.cells #[.int .i64 k, .int .u64 0, .int .u64 0, .int .u64 0, .int .u64 0, .slice B n cap, .int .i64 0, .int .i64 0] 37)) := (Below.refl _ _).alloc (Nat.le_refl _) _
  have HB := Lib.hid hb1
  have HK := Lib.hid (Blk.new w 37 #[.int .i64 k, .int .u64 0, .int .u64 0, .int .u64 0, .int .u64 0, .slice B n cap, .int .i64 0, .int .i64 0])
  have hR := arity_go k (w.alloc (.cells #[.int .i64 k, .int .u64 0, .int .u64 0, .int .u64 0, .int .u64 0, .slice B n cap, .int .i64 0, .int .i64 0] 37))
  rw [hr] at hR
  have HR := Lib.hid hR
  clear hb1 hR hr
  go_enter Try.func62, Try.ntmps62
  go_wp2_with fail
  refine HR.out.mono ?_
  rintro e w2 ⟨rfl, hb2⟩
  have HB2 := Lib.hid (HB.out.trans (hb2.mono HB.out.size))
  have c5 := (HK.out.below hb2 (by simp)).cell 5
  have c5 : w2.cell? ⟨w.heap.size, 5, none⟩ = some (.slice B n cap) := c5
  clear hb2 HB HR HK
  dsimp only
  go_wp2
  go_light
  go_ret
  exact ⟨rfl, HB2.out⟩
theorem akid2y (k a b c d : Int) (B : Option Addr) (n cap : Nat) (w : World) (h3 : k ≠ 3) (h9 : k ≠ 9) (hr : arityS k = 2) (h : 2 ≤ n) : Calls Try.prog 62 #[.agg #[.int .i64 k, .int .u64 0, .int .u64 0, .int .u64 0, .int .u64 0, .slice B n cap, .int .i64 0, .int .i64 0]] w fun e w' => e = .returned (.bool true) ∧ Below w.heap.size w w' := by
  have hk : (k != 3) = true := (by simpa using h3); have hk9 : (k == 9) = false := (by simpa using h9); have hb : (2 : Int) ≤ (n : Int) := (by omega)
  have hb1 : Below w.heap.size w (w.alloc (.cells #[.int .i64 k, .int .u64 0, .int .u64 0, .int .u64 0, .int .u64 0, .slice B n cap, .int .i64 0, .int .i64 0] 37)) := (Below.refl _ _).alloc (Nat.le_refl _) _
  have HB := Lib.hid hb1
  have HK := Lib.hid (Blk.new w 37 #[.int .i64 k, .int .u64 0, .int .u64 0, .int .u64 0, .int .u64 0, .slice B n cap, .int .i64 0, .int .i64 0])
  have hR := arity_go k (w.alloc (.cells #[.int .i64 k, .int .u64 0, .int .u64 0, .int .u64 0, .int .u64 0, .slice B n cap, .int .i64 0, .int .i64 0] 37))
  rw [hr] at hR
  have HR := Lib.hid hR
  clear hb1 hR hr
  go_enter Try.func62, Try.ntmps62
  go_wp2_with fail
  refine HR.out.mono ?_
  rintro e w2 ⟨rfl, hb2⟩
  have HB2 := Lib.hid (HB.out.trans (hb2.mono HB.out.size))
  have c5 := (HK.out.below hb2 (by simp)).cell 5
  have c5 : w2.cell? ⟨w.heap.size, 5, none⟩ = some (.slice B n cap) := c5
  clear hb2 HB HR HK
  dsimp only
  go_wp2
  go_light
  go_ret
  exact ⟨rfl, HB2.out⟩
theorem akid2n (k a b c d : Int) (B : Option Addr) (n cap : Nat) (w : World) (h3 : k ≠ 3) (h9 : k ≠ 9) (hr : arityS k = 2) (h : ¬ 2 ≤ n) : Calls Try.prog 62 #[.agg #[.int .i64 k, .int .u64 0, .int .u64 0, .int .u64 0, .int .u64 0, .slice B n cap, .int .i64 0, .int .i64 0]] w fun e w' => e = .returned (.bool false) ∧ Below w.heap.size w w' := by
  have hk : (k != 3) = true := (by simpa using h3); have hk9 : (k == 9) = false := (by simpa using h9); have hb : decide ((2 : Int) ≤ (n : Int)) = false := (by rw [decide_eq_false_iff_not]; omega)
  have hb1 : Below w.heap.size w (w.alloc (.cells #[.int .i64 k, .int .u64 0, .int .u64 0, .int .u64 0, .int .u64 0, .slice B n cap, .int .i64 0, .int .i64 0] 37)) := (Below.refl _ _).alloc (Nat.le_refl _) _
  have HB := Lib.hid hb1
  have HK := Lib.hid (Blk.new w 37 #[.int .i64 k, .int .u64 0, .int .u64 0, .int .u64 0, .int .u64 0, .slice B n cap, .int .i64 0, .int .i64 0])
  have hR := arity_go k (w.alloc (.cells #[.int .i64 k, .int .u64 0, .int .u64 0, .int .u64 0, .int .u64 0, .slice B n cap, .int .i64 0, .int .i64 0] 37))
  rw [hr] at hR
  have HR := Lib.hid hR
  clear hb1 hR hr
  go_enter Try.func62, Try.ntmps62
  go_wp2_with fail
  refine HR.out.mono ?_
  rintro e w2 ⟨rfl, hb2⟩
  have HB2 := Lib.hid (HB.out.trans (hb2.mono HB.out.size))
  have c5 := (HK.out.below hb2 (by simp)).cell 5
  have c5 : w2.cell? ⟨w.heap.size, 5, none⟩ = some (.slice B n cap) := c5
  clear hb2 HB HR HK
  dsimp only
  go_wp2
  go_light
  go_ret
  exact ⟨rfl, HB2.out⟩
theorem akid3n (k a b c d : Int) (B : Option Addr) (n cap : Nat) (w : World) (h : n ≠ 0) : Calls Try.prog 62 #[.agg #[.int .i64 3, .int .u64 a, .int .u64 b, .int .u64 c, .int .u64 d, .slice B n cap, .int .i64 0, .int .i64 0]] w fun e w' => e = .returned (.bool false) ∧ Below w.heap.size w w' := by
  have hr : arityS 3 = 0 := rfl; have hb : ((n : Int) == 0) = false := (by rw [beq_eq_false_iff_ne]; omega)
  have hb1 : Below w.heap.size w (w.alloc (.cells #[.int .i64 3, .int .u64 a, .int .u64 b, .int .u64 c, .int .u64 d, .slice B n cap, .int .i64 0, .int .i64 0] 37)) := (Below.refl _ _).alloc (Nat.le_refl _) _
  have HB := Lib.hid hb1
  have HK := Lib.hid (Blk.new w 37 #[.int .i64 3, .int .u64 a, .int .u64 b, .int .u64 c, .int .u64 d, .slice B n cap, .int .i64 0, .int .i64 0])
  have hR := arity_go 3 (w.alloc (.cells #[.int .i64 3, .int .u64 a, .int .u64 b, .int .u64 c, .int .u64 d, .slice B n cap, .int .i64 0, .int .i64 0] 37))
  rw [hr] at hR
  have HR := Lib.hid hR
  clear hb1 hR hr
  go_enter Try.func62, Try.ntmps62
  go_wp2_with fail
  refine HR.out.mono ?_
  rintro e w2 ⟨rfl, hb2⟩
  have HB2 := Lib.hid (HB.out.trans (hb2.mono HB.out.size))
  have c5 := (HK.out.below hb2 (by simp)).cell 5
  have c5 : w2.cell? ⟨w.heap.size, 5, none⟩ = some (.slice B n cap) := c5
  clear hb2 HB HR HK
  dsimp only
  go_wp2
  go_light
  go_ret
  exact ⟨rfl, HB2.out⟩
theorem akid9n (B : Option Addr) (n cap : Nat) (lo hi : Int) (w : World) (hn : n ≠ 1) (h0 : 0 ≤ lo) (h1 : lo ≤ 1000) (h : hi = -1 ∨ lo ≤ hi ∧ hi ≤ 1000) :
    Calls Try.prog 62 #[.agg #[.int .i64 9, .int .u64 0, .int .u64 0, .int .u64 0, .int .u64 0, .slice B n cap, .int .i64 lo, .int .i64 hi]] w fun e w' => e = .returned (.bool false) ∧ Below w.heap.size w w' := by
  have hnb : ((n : Int) == 1) = false := (by rw [beq_eq_false_iff_ne]; omega)
  have hb1 : Below w.heap.size w (w.alloc (.cells #[.int .i64 9, .int .u64 0, .int .u64 0, .int .u64 0, .int .u64 0, .slice B n cap, .int .i64 lo, .int .i64 hi] 37)) := (Below.refl _ _).alloc (Nat.le_refl _) _
  have HB := Lib.hid hb1
  have HK := Lib.hid (Blk.new w 37 #[.int .i64 9, .int .u64 0, .int .u64 0, .int .u64 0, .int .u64 0, .slice B n cap, .int .i64 lo, .int .i64 hi])
  have HT := Lib.hid (times_go lo hi (w.alloc (.cells #[.int .i64 9, .int .u64 0, .int .u64 0, .int .u64 0, .int .u64 0, .slice B n cap, .int .i64 lo, .int .i64 hi] 37)) h0 h1 h)
  clear hb1 h0 h1 h
  go_enter Try.func62, Try.ntmps62
  go_wp2_with fail
  refine HT.out.mono ?_
  rintro e w2 ⟨rfl, hb2⟩
  have HB2 := Lib.hid (HB.out.trans (hb2.mono HB.out.size))
  have HK2 := Lib.hid (HK.out.below hb2 (by simp))
  have c0 : w2.cell? ⟨w.heap.size, 0, none⟩ = some (.int .i64 9) := HK2.out.cell 0
  clear hb2 HB HK HT
  dsimp only
  go_wp2_with fail
  refine (arity9 _).mono ?_
  rintro e w3 ⟨rfl, hb3⟩
  have c5 : w3.cell? ⟨w.heap.size, 5, none⟩ = some (.slice B n cap) := (HK2.out.below hb3 HK2.out.lt).cell 5
  have HB3 := Lib.hid (HB2.out.trans (hb3.mono HB2.out.size))
  clear hb3 HB2 HK2 c0
  dsimp only
  go_wp2
  go_light
  go_ret
  exact ⟨rfl, HB3.out⟩
/-- May a node be, without its kids? -/
def aloneV (k a b c d : Int) (n : Nat) (lo hi : Int) : Bool :=
  if k = 3 then decide (lo = 0) && (decide (hi = 0) && decide (n = 0))
  else if a ≠ 0 ∨ b ≠ 0 ∨ c ≠ 0 ∨ d ≠ 0 then false
  else if k = 9 then timesB lo hi && decide (n = 1)
  else decide (lo = 0) && (decide (hi = 0) && (if arityS k = 0 then decide (n = 0) else if arityS k = 1 then decide (n = 1) else if arityS k = 2 then decide (2 ≤ n) else false))
theorem arityS_of (k : Int) : arityS k = 0 ∨ arityS k = 1 ∨ arityS k = 2 ∨ arityS k = -1 := by
  unfold arityS
  split
  · simp
  split
  · simp
  split <;> simp
/-- tree.alone at any node. -/
theorem alone_any (k a b c d lo hi : Int) (B : Option Addr) (n cap : Nat) (w : World) :
    Calls Try.prog 62 #[.agg #[.int .i64 k, .int .u64 a, .int .u64 b, .int .u64 c, .int .u64 d, .slice B n cap, .int .i64 lo, .int .i64 hi]] w fun e w' => e = .returned (.bool (aloneV k a b c d n lo hi)) ∧ Below w.heap.size w w' := by
  unfold aloneV
  by_cases h3 : k = 3
  · subst h3
    rw [if_pos rfl]
    by_cases h1 : lo = 0
    · subst h1
      by_cases h2 : hi = 0
      · subst h2
        by_cases h4 : n = 0
        · subst h4
          exact alone3 B cap a b c d w
        · simp only [h4, decide_true, decide_false, Bool.true_and]
          exact akid3n 0 a b c d B n cap w h4
      · simp only [h2, decide_true, decide_false, Bool.true_and, Bool.false_and]
        exact anum4 0 a b c d 0 hi B n cap w h2
    · simp only [h1, decide_false, Bool.false_and]
      exact anum3 0 a b c d lo hi B n cap w h1
  rw [if_neg h3]
  by_cases hs : a ≠ 0 ∨ b ≠ 0 ∨ c ≠ 0 ∨ d ≠ 0
  · rw [if_pos hs]
    by_cases ha : a = 0
    · by_cases hb : b = 0
      · by_cases hc : c = 0
        · exact aset4 k a b c d lo hi B n cap w h3 ha hb hc (by omega)
        · exact aset3 k a b c d lo hi B n cap w h3 ha hb hc
      · exact aset2 k a b c d lo hi B n cap w h3 ha hb
    · exact aset1 k a b c d lo hi B n cap w h3 ha
  rw [if_neg hs]
  obtain ⟨rfl, rfl, rfl, rfl⟩ : a = 0 ∧ b = 0 ∧ c = 0 ∧ d = 0 := by omega
  by_cases h9 : k = 9
  · subst h9
    rw [if_pos rfl]
    cases ht : timesB lo hi
    · rw [Bool.false_and]
      exact anum9 B n cap lo hi w ht
    · have ht' := ht
      unfold timesB at ht'
      simp only [Bool.and_eq_true, Bool.or_eq_true, decide_eq_true_eq] at ht'
      obtain ⟨⟨t0, t1⟩, t2⟩ := ht'
      by_cases hn : n = 1
      · subst hn
        exact alone9 B cap lo hi w t0 t1 t2
      · simp only [hn, decide_false, Bool.and_false]
        exact akid9n B n cap lo hi w hn t0 t1 t2
  rw [if_neg h9]
  by_cases h1 : lo = 0
  · subst h1
    by_cases h2 : hi = 0
    · subst h2
      simp only [decide_true, Bool.true_and]
      rcases arityS_of k with hr | hr | hr | hr
      · rw [if_pos hr]
        by_cases hn : n = 0
        · subst hn
          exact akid0y k 0 0 0 0 B 0 cap w h3 h9 hr
        · simp only [hn, decide_false]
          exact akid0n k 0 0 0 0 B n cap w h3 h9 hr hn
      · rw [if_neg (by omega), if_pos hr]
        by_cases hn : n = 1
        · subst hn
          exact akid1y k 0 0 0 0 B 1 cap w h3 h9 hr
        · simp only [hn, decide_false]
          exact akid1n k 0 0 0 0 B n cap w h3 h9 hr hn
      · rw [if_neg (by omega), if_neg (by omega), if_pos hr]
        by_cases hn : 2 ≤ n
        · simp only [hn, decide_true]
          exact akid2y k 0 0 0 0 B n cap w h3 h9 hr hn
        · simp only [hn, decide_false]
          exact akid2n k 0 0 0 0 B n cap w h3 h9 hr hn
      · rw [if_neg (by omega), if_neg (by omega), if_neg (by omega)]
        exact akidn k 0 0 0 0 B n cap w h3 h9 hr
    · simp only [h2, decide_true, decide_false, Bool.true_and, Bool.false_and]
      exact anum2 k 0 0 0 0 0 hi B n cap w h3 h9 h2
  · simp only [h1, decide_false, Bool.false_and]
    exact anum1 k 0 0 0 0 lo hi B n cap w h3 h9 h1

end Go.Proofs.Ytgbpcigfbpghgaa
namespace Go.Proofs.Ytgbpcigfbpghgaa
open Go.RowKit Go.Shelf
set_option linter.unusedSimpArgs false
set_option linter.unusedVariables false
set_option maxRecDepth 100000
attribute [local go_sem] Oper.semAt_some

theorem Kc.put {Bn : Nat} (W : World) (l : Nat) (o o' : Obj) (h : W.heap[l]? = some o) (hc : o.isCells = false) : Kc Bn W (W.putObj l o') :=
  ⟨(grownBy_putObj' W l o').size, fun p v _ hv => cell_kept hv (grownBy_putObj' W l o') (fun r e => by cases e; exact ⟨o, h, hc⟩)⟩
theorem Kc.setCell {Bn : Nat} (W : World) (v : Value) : Kc Bn W (W.setCell ⟨Bn, 0, none⟩ v) :=
  ⟨by simp, fun p u hp hu => (World.cell?_of_block (Below.heap_setCell W ⟨Bn, 0, none⟩ v p.block hp)).trans hu⟩
theorem keepsFrom_below {B : Nat} {W W' : World} (h : Below W.heap.size W W') : KeepsFrom B W W' :=
  ⟨h.size, fun k o _ hk _ => (h.block k (Array.getElem?_eq_some_iff.1 hk).1).trans hk⟩

theorem ret_boolc {fn : Func} {t : Tmp} (h : fn.results = #[.cell t 4]) {tmps : Array Value} {w : World} {g : Nat} {b : Bool}
    (hp : tmps.getD t undef = .pointer (some ⟨g, 0, none⟩)) (hc : w.cell? ⟨g, 0, none⟩ = some (.bool b)) :
    (results fn tmps).run Try.prog w = .ok (.bool b) w := by
  have hp' : tmps[t]?.getD undef = .pointer (some ⟨g, 0, none⟩) := by simpa using hp
  simp [results, h, hp', asAddr, go_sem, hc]
set_option maxHeartbeats 4000000 in
theorem tright_in (n : Nat) (hn : 3 ≤ n) (x : Nd) (B : Option Addr) (cap : Nat) (w : World) (hsz : x.size ≤ 4096) (hs : SoundN x) (ht : TreesAt w (fun b => b < w.heap.size) x.kids B) :
    CallsIn Fence.wide n Try.prog 38 #[ndV x B cap] w fun e w' => e = .returned (.bool true) ∧ Below w.heap.size w w' := by
  have h1 : 1 ≤ n := by omega
  unfold ndV
  refine callsIn_of_wp_marks Try.func38 rfl trivial ?_ rfl
  simp only [Try.ntmps38, List.size_toArray, List.length_cons, List.length_nil, Nat.reduceAdd, Nat.reduceSub, Array.replicate_succ, Array.replicate_zero, List.push_toArray, List.append_toArray, List.nil_append, List.cons_append]
  gi_wp2_with (refine ⟨trivial, ?_⟩; gi_at_call 61; refine (callsIn_wide.2 (nodes_go x B cap _)).mono ?_; rintro e w' ⟨rfl, rfl⟩)
  have bR := ((Boxed.new (w.alloc (.cells (ndA x B cap) 37)) 4 (.bool false)).alloc (.cells #[.int .i64 0] 3)).alloc (.cells (ndA x B cap) 37)
  have bN := (Boxed.new ((w.alloc (.cells (ndA x B cap) 37)).alloc (.cells #[.bool false] 4)) 3 (.int .i64 0)).alloc (.cells (ndA x B cap) 37)
  have bS := Blk.new (((w.alloc (.cells (ndA x B cap) 37)).alloc (.cells #[.bool false] 4)).alloc (.cells #[.int .i64 0] 3)) 37 (ndA x B cap)
  simp only [World.size_alloc] at bR bN bS
  have hB0 : Below w.heap.size w ((((w.alloc (.cells (ndA x B cap) 37)).alloc (.cells #[.bool false] 4)).alloc (.cells #[.int .i64 0] 3)).alloc (.cells (ndA x B cap) 37)) := ((((Below.refl _ w).alloc (Nat.le_refl _) _).alloc (by simp) _).alloc (by simp; omega) _).alloc (by simp; omega) _
  have hsz0 : ((((w.alloc (.cells (ndA x B cap) 37)).alloc (.cells #[.bool false] 4)).alloc (.cells #[.int .i64 0] 3)).alloc (.cells (ndA x B cap) 37)).heap.size = w.heap.size + 4 := by simp
  unfold ndA at bR bN hB0 hsz0
  unfold ndA
  obtain ⟨W0, hW0⟩ : ∃ W0, ((((w.alloc (.cells #[.int .i64 x.kind, .int .u64 ((word x.set.testBit 0 : Nat) : Int), .int .u64 ((word x.set.testBit 1 : Nat) : Int), .int .u64 ((word x.set.testBit 2 : Nat) : Int), .int .u64 ((word x.set.testBit 3 : Nat) : Int), .slice B x.kids.len cap, .int .i64 x.lo, .int .i64 x.hi] 37)).alloc (.cells #[.bool false] 4)).alloc (.cells #[.int .i64 0] 3)).alloc (.cells #[.int .i64 x.kind, .int .u64 ((word x.set.testBit 0 : Nat) : Int), .int .u64 ((word x.set.testBit 1 : Nat) : Int), .int .u64 ((word x.set.testBit 2 : Nat) : Int), .int .u64 ((word x.set.testBit 3 : Nat) : Int), .slice B x.kids.len cap, .int .i64 x.lo, .int .i64 x.hi] 37)) = W0 := ⟨_, rfl⟩
  have bS : Blk W0 (w.heap.size + 1 + 1 + 1) 37 (ndA x B cap) := by rw [← hW0]; exact bS
  rw [hW0] at bR bN hB0 hsz0 ⊢
  clear hW0
  refine wpIn_rangeFunc_ownH rfl h1 (gf := 78) (lb := #[.pointer (some ⟨w.heap.size + 1 + 1 + 1, 0, none⟩)]) rfl trivial (enters_of Try.func78 (by kernel_rfl) rfl)
    (nodes_stops (n - 1) x B cap (w.heap.size + 1 + 1 + 1) (w.heap.size + 1 + 1) (fun b => b < w.heap.size) W0 (fun b hb => by omega) hsz hs bS (by omega) (ht.below hB0)) (fun h k => h.trans k) (fun W l o o' _ ho hc _ => Kc.put W l o o' ho hc) (Below.refl _ _) (fun _ => rfl)
    (fun pre W => (Boxed W (w.heap.size + 1 + 1) 3 (.int .i64 ((pre.length : Nat) : Int)) ∧ Boxed W (w.heap.size + 1) 4 (.bool false)) ∧ Below w.heap.size w W)
    (fun _ _ _ => False)
    (OwnFrom.and (OwnFrom.and (Own.from (boxed_own _ _ _) _) (Own.from (boxed_own _ _ _) _)) (ownFrom_below (Nat.le_refl _) (by omega)))
    (fun _ _ _ _ _ hs _ _ => hs)
    ⟨⟨bN, bR⟩, hB0⟩
    (fun (q : Item) a' W => ∃ Bx, w.heap.size + 1 + 1 < Bx ∧ Blk W Bx 37 (ndA q.1.1 q.1.2.1 q.1.2.2) ∧ a' = { tmps := #[ndV x B cap, .pointer (some ⟨w.heap.size, 0, none⟩), .pointer (some ⟨w.heap.size + 1, 0, none⟩), .pointer (some ⟨w.heap.size + 1 + 1, 0, none⟩), .pointer (some ⟨Bx, 0, none⟩), ndV x B cap, .func (.func 78) #[] #[.pointer (some ⟨w.heap.size + 1 + 1 + 1, 0, none⟩)], ndV q.1.1 q.1.2.1 q.1.2.2, undef, undef, undef, undef, undef, undef, undef, undef, undef], defers := [] })
    (fun q a' _ X Y row hs hg hr => by
      obtain ⟨Bx, h1, h2, h3⟩ := hs
      exact ⟨Bx, h1, h2.grown hg (fun e => by
        obtain ⟨o, ho, hc⟩ := (hr _ e.symm).2
        rw [show X.heap[Bx]? = _ from h2] at ho
        cases ho
        cases hc), h3⟩)
    ?assign ?body ?done ?stop
  case assign =>
    rintro l pre q W K ⟨⟨bN1, bR1⟩, hB1⟩ hK
    unfold itemV ndV
    gi_wp2
    exact hK _ _ ((KeepsOthers.alloc _ _).from _) (Kc.below ((Below.refl _ W).alloc (Nat.le_refl _) _)) ⟨⟨bN1.alloc _, bR1.alloc _⟩, hB1.alloc hB1.size _⟩ ⟨W.heap.size, bN1.lt, Blk.new W 37 _, rfl⟩
  case body =>
    rintro l pre q a' W hl _ ⟨⟨bN1, bR1⟩, hB1⟩ ⟨Bx, hBx, bX, rfl⟩ hlt
    have cN := bN1.cell
    have fN := bN1.frozen
    have x0 : W.cell? ⟨Bx, 0, none⟩ = some (.int .i64 q.1.1.kind) := bX.cell 0
    have x1 : W.cell? ⟨Bx, 1, none⟩ = some (.int .u64 ((word q.1.1.set.testBit 0 : Nat) : Int)) := bX.cell 1
    have x2 : W.cell? ⟨Bx, 2, none⟩ = some (.int .u64 ((word q.1.1.set.testBit 1 : Nat) : Int)) := bX.cell 2
    have x3 : W.cell? ⟨Bx, 3, none⟩ = some (.int .u64 ((word q.1.1.set.testBit 2 : Nat) : Int)) := bX.cell 3
    have x4 : W.cell? ⟨Bx, 4, none⟩ = some (.int .u64 ((word q.1.1.set.testBit 3 : Nat) : Int)) := bX.cell 4
    have x5 : W.cell? ⟨Bx, 5, none⟩ = some (.slice q.1.2.1 q.1.1.kids.len q.1.2.2) := bX.cell 5
    have x6 : W.cell? ⟨Bx, 6, none⟩ = some (.int .i64 q.1.1.lo) := bX.cell 6
    have x7 : W.cell? ⟨Bx, 7, none⟩ = some (.int .i64 q.1.1.hi) := bX.cell 7
    have hn1 : IntKind.i64.wrap (((pre.length : Nat) : Int) + 1) = (((pre ++ [q]).length : Nat) : Int) := by
      rw [IntKind.wrap_i64, List.length_append, List.length_singleton]; omega
    have hle : (((pre ++ [q]).length : Nat) : Int) ≤ 4096 := by simp; omega
    have hA := Lib.hid (alone_go q.1.1 q.1.2.1 q.1.2.2 (W.setCell ⟨w.heap.size + 1 + 1, 0, none⟩ (.int .i64 (((pre ++ [q]).length : Nat) : Int))) q.2)
    have hb1 : Below w.heap.size w (W.setCell ⟨w.heap.size + 1 + 1, 0, none⟩ (.int .i64 (((pre ++ [q]).length : Nat) : Int))) := hB1.setCell (p := ⟨w.heap.size + 1 + 1, 0, none⟩) (by simp; omega) _
    have hN1 := bN1.set (.int .i64 (((pre ++ [q]).length : Nat) : Int))
    have hR1 := bR1.other (B' := w.heap.size + 1 + 1) (by omega) (.int .i64 (((pre ++ [q]).length : Nat) : Int))
    have hk1 := Kc.setCell (Bn := w.heap.size + 1 + 1) W (.int .i64 (((pre ++ [q]).length : Nat) : Int))
    have hf1 := (KeepsOthers.setCell W ⟨w.heap.size + 1 + 1, 0, none⟩ (.int .i64 (((pre ++ [q]).length : Nat) : Int))).from W0.heap.size
    have hdd : ∀ k : Nat, (Fence.wide.depth.isSome = true → 1 ≤ k) := fun k h => by cases h
    have HX := Lib.hid (show _ ∧ _ ∧ _ ∧ _ ∧ _ from ⟨hb1, hN1, hR1, hk1, hf1⟩)
    clear hb1 hN1 hR1 hk1 hf1 bN1 bR1 hB1 bX bN bR bS hB0 hs ht hsz
    generalize hM : (((pre ++ [q]).length : Nat) : Int) = M at *
    unfold ndV at hA
    unfold ndV
    gi_wp2
    refine ⟨trivial, hdd _, (CallsIn.inRound l (callsIn_wide.2 hA.out)).mono ?_⟩
    rintro e W3 ⟨rfl, hb3⟩
    have HZ := Lib.hid (show KeepsFrom W0.heap.size W W3 ∧ Kc (w.heap.size + 1 + 1) W W3 ∧ (Boxed W3 (w.heap.size + 1 + 1) 3 (.int .i64 M) ∧ Boxed W3 (w.heap.size + 1) 4 (.bool false)) ∧ Below w.heap.size w W3 from by
      obtain ⟨hb1, hN1, hR1, hk1, hf1⟩ := HX.out
      exact ⟨hf1.trans (keepsFrom_below hb3), hk1.trans (Kc.below hb3), ⟨(hb3.block _ hN1.lt).trans hN1, (hb3.block _ hR1.lt).trans hR1⟩, hb1.trans (hb3.mono hb1.size)⟩)
    clear HX hb3 hA
    dsimp only
    gi_wp2
    subst hM
    exact HZ.out
  case done =>
    rintro D ys W hD _ ⟨⟨bN1, bR1⟩, hB1⟩ hK
    have cR := bR1.cell
    have fR := bR1.frozen
    gi_wp2
    have hK2 := (KeepsOthers.setCell W ⟨w.heap.size + 1, 0, none⟩ (.bool true)).same D _ hK rfl
    refine ⟨by simp, .inl ⟨_, _, rfl, run_takeDeferred hK2, ?_⟩⟩
    have hc : ((W.setCell ⟨w.heap.size + 1, 0, none⟩ (.bool true)).putObj D (.deferred none)).cell? ⟨w.heap.size + 1, 0, none⟩ = some (.bool true) := cell_kept (bR1.set _).cell (grownBy_putObj' _ D (.deferred none)) (fun r e => by cases e; exact ⟨_, hK2, rfl⟩)
    exact ⟨_, ret_boolc rfl rfl hc, rfl, (hB1.setCell (p := ⟨w.heap.size + 1, 0, none⟩) (by simp) _).trans (belowK_b (w := w) (Nat.le_refl _) _ D _ _ (by omega) hK2 rfl rfl)⟩
  case stop =>
    rintro D c pre W _ _ h _
    exact h.elim
/-- tree.Right: a tree that may be, of no more than 4096 nodes. -/
theorem tright_go (x : Nd) (B : Option Addr) (cap : Nat) (w : World) (hsz : x.size ≤ 4096) (hs : SoundN x) (ht : TreesAt w (fun b => b < w.heap.size) x.kids B) :
    Calls Try.prog 38 #[ndV x B cap] w fun e w' => e = .returned (.bool true) ∧ Below w.heap.size w w' :=
  callsIn_wide.1 (tright_in 3 (Nat.le_refl _) x B cap w hsz hs ht)
end Go.Proofs.Ytgbpcigfbpghgaa
namespace Go.Proofs.Ytgbpcigfbpghgaa
open Go.RowKit Go.Shelf
set_option linter.unusedSimpArgs false
set_option linter.unusedVariables false
set_option maxRecDepth 100000
attribute [local go_sem] Oper.semAt_some

/-- May a node be, without its kids? -/
def aloneN (y : Nd) : Bool := aloneV y.kind (word y.set.testBit 0 : Nat) (word y.set.testBit 1 : Nat) (word y.set.testBit 2 : Nat) (word y.set.testBit 3 : Nat) y.kids.len y.lo y.hi
/-- May a tree be? -/
def rightT (x : Nd) : Bool := decide (x.nodes.length ≤ 4096) && x.nodes.all aloneN
theorem aloneN_go (y : Nd) (B : Option Addr) (cap : Nat) (w : World) :
    Calls Try.prog 62 #[ndV y B cap] w fun e w' => e = .returned (.bool (aloneN y)) ∧ Below w.heap.size w w' :=
  alone_any _ _ _ _ _ _ _ B _ cap w
theorem rightT_yes {x : Nd} {ys : List ItemX} (h : ys.map (·.1) = x.nodes) (h1 : ys.length ≤ 4096) (h2 : ∀ q ∈ ys, aloneN q.1 = true) : rightT x = true := by
  unfold rightT
  rw [← h, Bool.and_eq_true, decide_eq_true_eq, List.all_eq_true]
  refine ⟨by simpa using h1, fun y hy => ?_⟩
  obtain ⟨q, hq, rfl⟩ := List.mem_map.1 hy
  exact h2 q hq
theorem rightT_no {x : Nd} {ys : List ItemX} (h : ys.map (·.1) <+: x.nodes) (h1 : 4096 < ys.length ∨ ∃ q ∈ ys, aloneN q.1 = false) : rightT x = false := by
  unfold rightT
  rcases h1 with h1 | ⟨q, hq, hf⟩
  · have := h.length_le
    rw [List.length_map] at this
    rw [Bool.and_eq_false_iff]
    exact .inl (by rw [decide_eq_false_iff_not]; omega)
  · rw [Bool.and_eq_false_iff]
    refine .inr ?_
    cases ha : x.nodes.all aloneN
    · rfl
    · have := List.all_eq_true.1 ha q.1 (h.subset (List.mem_map.2 ⟨q, hq, rfl⟩))
      rw [hf] at this
      cases this

set_option maxHeartbeats 4000000 in
theorem trightx_in (n : Nat) (hn : 3 ≤ n) (x : Nd) (B : Option Addr) (cap : Nat) (w : World) (hsz : x.size ≤ 4611686018427387903) (ht : TreesAt w (fun b => b < w.heap.size) x.kids B) :
    CallsIn Fence.wide n Try.prog 38 #[ndV x B cap] w fun e w' => e = .returned (.bool (rightT x)) ∧ Below w.heap.size w w' := by
  have h1 : 1 ≤ n := by omega
  unfold ndV
  refine callsIn_of_wp_marks Try.func38 rfl trivial ?_ rfl
  simp only [Try.ntmps38, List.size_toArray, List.length_cons, List.length_nil, Nat.reduceAdd, Nat.reduceSub, Array.replicate_succ, Array.replicate_zero, List.push_toArray, List.append_toArray, List.nil_append, List.cons_append]
  gi_wp2_with (refine ⟨trivial, ?_⟩; gi_at_call 61; refine (callsIn_wide.2 (nodes_go x B cap _)).mono ?_; rintro e w' ⟨rfl, rfl⟩)
  have bR := ((Boxed.new (w.alloc (.cells (ndA x B cap) 37)) 4 (.bool false)).alloc (.cells #[.int .i64 0] 3)).alloc (.cells (ndA x B cap) 37)
  have bN := (Boxed.new ((w.alloc (.cells (ndA x B cap) 37)).alloc (.cells #[.bool false] 4)) 3 (.int .i64 0)).alloc (.cells (ndA x B cap) 37)
  have bS := Blk.new (((w.alloc (.cells (ndA x B cap) 37)).alloc (.cells #[.bool false] 4)).alloc (.cells #[.int .i64 0] 3)) 37 (ndA x B cap)
  simp only [World.size_alloc] at bR bN bS
  have hB0 : Below w.heap.size w ((((w.alloc (.cells (ndA x B cap) 37)).alloc (.cells #[.bool false] 4)).alloc (.cells #[.int .i64 0] 3)).alloc (.cells (ndA x B cap) 37)) := ((((Below.refl _ w).alloc (Nat.le_refl _) _).alloc (by simp) _).alloc (by simp; omega) _).alloc (by simp; omega) _
  have hsz0 : ((((w.alloc (.cells (ndA x B cap) 37)).alloc (.cells #[.bool false] 4)).alloc (.cells #[.int .i64 0] 3)).alloc (.cells (ndA x B cap) 37)).heap.size = w.heap.size + 4 := by simp
  unfold ndA at bR bN hB0 hsz0
  unfold ndA
  obtain ⟨W0, hW0⟩ : ∃ W0, ((((w.alloc (.cells #[.int .i64 x.kind, .int .u64 ((word x.set.testBit 0 : Nat) : Int), .int .u64 ((word x.set.testBit 1 : Nat) : Int), .int .u64 ((word x.set.testBit 2 : Nat) : Int), .int .u64 ((word x.set.testBit 3 : Nat) : Int), .slice B x.kids.len cap, .int .i64 x.lo, .int .i64 x.hi] 37)).alloc (.cells #[.bool false] 4)).alloc (.cells #[.int .i64 0] 3)).alloc (.cells #[.int .i64 x.kind, .int .u64 ((word x.set.testBit 0 : Nat) : Int), .int .u64 ((word x.set.testBit 1 : Nat) : Int), .int .u64 ((word x.set.testBit 2 : Nat) : Int), .int .u64 ((word x.set.testBit 3 : Nat) : Int), .slice B x.kids.len cap, .int .i64 x.lo, .int .i64 x.hi] 37)) = W0 := ⟨_, rfl⟩
  have bS : Blk W0 (w.heap.size + 1 + 1 + 1) 37 (ndA x B cap) := by rw [← hW0]; exact bS
  rw [hW0] at bR bN hB0 hsz0 ⊢
  clear hW0
  refine wpIn_rangeFunc_ownH rfl h1 (gf := 78) (lb := #[.pointer (some ⟨w.heap.size + 1 + 1 + 1, 0, none⟩)]) rfl trivial (enters_of Try.func78 (by kernel_rfl) rfl)
    (nodesx_stops (n - 1) x B cap (w.heap.size + 1 + 1 + 1) (w.heap.size + 1 + 1) (fun b => b < w.heap.size) W0 (fun b hb => by omega) hsz bS (by omega) (ht.below hB0)) (fun h k => h.trans k) (fun W l o o' _ ho hc _ => Kc.put W l o o' ho hc) (Below.refl _ _) (fun _ => rfl)
    (fun pre W => ((Boxed W (w.heap.size + 1 + 1) 3 (.int .i64 ((pre.length : Nat) : Int)) ∧ Boxed W (w.heap.size + 1) 4 (.bool false)) ∧ (pre.length ≤ 4096 ∧ ∀ q ∈ pre, aloneN q.1 = true)) ∧ Below w.heap.size w W)
    (fun c pre W => c = .ret ∧ ((Boxed W (w.heap.size + 1) 4 (.bool false) ∧ (4096 < pre.length ∨ ∃ q ∈ pre, aloneN q.1 = false)) ∧ Below w.heap.size w W))
    (OwnFrom.and (OwnFrom.and (OwnFrom.and (Own.from (boxed_own _ _ _) _) (Own.from (boxed_own _ _ _) _)) (ownFrom_pure _ _)) (ownFrom_below (Nat.le_refl _) (by omega)))
    (fun c => OwnFrom.and (ownFrom_pure _ (fun _ => c = .ret)) (OwnFrom.and (OwnFrom.and (Own.from (boxed_own _ _ _) _) (ownFrom_pure _ _)) (ownFrom_below (Nat.le_refl _) (by omega))))
    ⟨⟨⟨bN, bR⟩, Nat.zero_le _, fun q hq => by cases hq⟩, hB0⟩
    (fun (q : ItemX) a' W => ∃ Bx, w.heap.size + 1 + 1 < Bx ∧ Blk W Bx 37 (ndA q.1 q.2.1 q.2.2) ∧ a' = { tmps := #[ndV x B cap, .pointer (some ⟨w.heap.size, 0, none⟩), .pointer (some ⟨w.heap.size + 1, 0, none⟩), .pointer (some ⟨w.heap.size + 1 + 1, 0, none⟩), .pointer (some ⟨Bx, 0, none⟩), ndV x B cap, .func (.func 78) #[] #[.pointer (some ⟨w.heap.size + 1 + 1 + 1, 0, none⟩)], ndV q.1 q.2.1 q.2.2, undef, undef, undef, undef, undef, undef, undef, undef, undef], defers := [] })
    (fun q a' _ X Y row hs hg hr => by
      obtain ⟨Bx, h1, h2, h3⟩ := hs
      exact ⟨Bx, h1, h2.grown hg (fun e => by
        obtain ⟨o, ho, hc⟩ := (hr _ e.symm).2
        rw [show X.heap[Bx]? = _ from h2] at ho
        cases ho
        cases hc), h3⟩)
    ?assign ?body ?done ?stop
  case assign =>
    rintro l pre q W K ⟨⟨⟨bN1, bR1⟩, hp1⟩, hB1⟩ hK
    unfold itemX ndV
    gi_wp2
    exact hK _ _ ((KeepsOthers.alloc _ _).from _) (Kc.below ((Below.refl _ W).alloc (Nat.le_refl _) _)) ⟨⟨⟨bN1.alloc _, bR1.alloc _⟩, hp1⟩, hB1.alloc hB1.size _⟩ ⟨W.heap.size, bN1.lt, Blk.new W 37 _, rfl⟩
  case body =>
    rintro l pre q a' W hl _ ⟨⟨⟨bN1, bR1⟩, hpl, hpa⟩, hB1⟩ ⟨Bx, hBx, bX, rfl⟩ hlt
    have cN := bN1.cell
    have fN := bN1.frozen
    have cR := bR1.cell
    have fR := bR1.frozen
    have HPA := Lib.hid hpa
    have x0 : W.cell? ⟨Bx, 0, none⟩ = some (.int .i64 q.1.kind) := bX.cell 0
    have x1 : W.cell? ⟨Bx, 1, none⟩ = some (.int .u64 ((word q.1.set.testBit 0 : Nat) : Int)) := bX.cell 1
    have x2 : W.cell? ⟨Bx, 2, none⟩ = some (.int .u64 ((word q.1.set.testBit 1 : Nat) : Int)) := bX.cell 2
    have x3 : W.cell? ⟨Bx, 3, none⟩ = some (.int .u64 ((word q.1.set.testBit 2 : Nat) : Int)) := bX.cell 3
    have x4 : W.cell? ⟨Bx, 4, none⟩ = some (.int .u64 ((word q.1.set.testBit 3 : Nat) : Int)) := bX.cell 4
    have x5 : W.cell? ⟨Bx, 5, none⟩ = some (.slice q.2.1 q.1.kids.len q.2.2) := bX.cell 5
    have x6 : W.cell? ⟨Bx, 6, none⟩ = some (.int .i64 q.1.lo) := bX.cell 6
    have x7 : W.cell? ⟨Bx, 7, none⟩ = some (.int .i64 q.1.hi) := bX.cell 7
    have hn1 : IntKind.i64.wrap (((pre.length : Nat) : Int) + 1) = (((pre ++ [q]).length : Nat) : Int) := by
      rw [IntKind.wrap_i64, List.length_append, List.length_singleton]; omega
    have hA := Lib.hid (aloneN_go q.1 q.2.1 q.2.2 (W.setCell ⟨w.heap.size + 1 + 1, 0, none⟩ (.int .i64 (((pre ++ [q]).length : Nat) : Int))))
    have hb1 : Below w.heap.size w (W.setCell ⟨w.heap.size + 1 + 1, 0, none⟩ (.int .i64 (((pre ++ [q]).length : Nat) : Int))) := hB1.setCell (p := ⟨w.heap.size + 1 + 1, 0, none⟩) (by simp; omega) _
    have hN1 := bN1.set (.int .i64 (((pre ++ [q]).length : Nat) : Int))
    have hR1 := bR1.other (B' := w.heap.size + 1 + 1) (by omega) (.int .i64 (((pre ++ [q]).length : Nat) : Int))
    have hk1 := Kc.setCell (Bn := w.heap.size + 1 + 1) W (.int .i64 (((pre ++ [q]).length : Nat) : Int))
    have hf1 := (KeepsOthers.setCell W ⟨w.heap.size + 1 + 1, 0, none⟩ (.int .i64 (((pre ++ [q]).length : Nat) : Int))).from W0.heap.size
    have hdd : ∀ k : Nat, (Fence.wide.depth.isSome = true → 1 ≤ k) := fun k h => by cases h
    have HX := Lib.hid (show _ ∧ _ ∧ _ ∧ _ ∧ _ from ⟨hb1, hN1, hR1, hk1, hf1⟩)
    clear hb1 hN1 hR1 hk1 hf1 bN1 bR1 hB1 bX bN bR bS hB0 ht hsz hpa
    have HM := Lib.hid (show (((pre ++ [q]).length : Nat) : Int) = (pre.length : Int) + 1 by simp)
    have hM1 : (((pre ++ [q]).length : Nat) : Int) = (pre.length : Int) + 1 := HM.out
    generalize hM : (((pre ++ [q]).length : Nat) : Int) = M at *
    have HMq := Lib.hid hM
    unfold ndV at hA
    unfold ndV
    rcases Nat.lt_or_ge pre.length 4096 with hc | hc
    · have hle : M ≤ 4096 := by omega
      clear hM hM1
      cases hv : aloneN q.1
      all_goals
        rw [hv] at hA
        have HV := Lib.hid hv
        clear hv
        gi_wp2
        refine ⟨trivial, hdd _, (CallsIn.inRound l (callsIn_wide.2 hA.out)).mono ?_⟩
        rintro e W3 ⟨rfl, hb3⟩
        have HZ := Lib.hid (show KeepsFrom W0.heap.size W W3 ∧ Kc (w.heap.size + 1 + 1) W W3 ∧ (Boxed W3 (w.heap.size + 1 + 1) 3 (.int .i64 M) ∧ Boxed W3 (w.heap.size + 1) 4 (.bool false)) ∧ Below w.heap.size w W3 from by
          obtain ⟨hb1, hN1, hR1, hk1, hf1⟩ := HX.out
          exact ⟨hf1.trans (keepsFrom_below hb3), hk1.trans (Kc.below hb3), ⟨(hb3.block _ hN1.lt).trans hN1, (hb3.block _ hR1.lt).trans hR1⟩, hb1.trans (hb3.mono hb1.size)⟩)
        have cR3 := HZ.out.2.2.1.2.cell
        have fR3 := HZ.out.2.2.1.2.frozen
        clear HX hb3 hA cR fR
        dsimp only
        gi_wp2
      · exact ⟨HZ.out.1.trans ((KeepsOthers.setCell _ _ _).from _), rfl, ⟨HZ.out.2.2.1.2.set _, .inr ⟨q, by simp, HV.out⟩⟩, HZ.out.2.2.2.setCell (p := ⟨w.heap.size + 1, 0, none⟩) (by simp) _⟩
      · refine ⟨HZ.out.1, HZ.out.2.1, ⟨⟨by rw [HMq.out]; exact HZ.out.2.2.1.1, HZ.out.2.2.1.2⟩, by simp; omega, fun r hr => ?_⟩, HZ.out.2.2.2⟩
        rcases List.mem_append.1 hr with hr | hr
        · exact HPA.out r hr
        · rw [List.mem_singleton.1 hr]; exact HV.out
    · have hgt : decide ((4096 : Int) < M) = true := (by rw [decide_eq_true_eq]; omega)
      have hgl : 4096 < (pre ++ [q]).length := by simp; omega
      clear hM hM1 hA
      gi_wp2
      refine ⟨trivial, ?_⟩
      gi_wp2
      obtain ⟨hb1, hN1, hR1, hk1, hf1⟩ := HX.out
      exact ⟨hf1.trans ((KeepsOthers.setCell _ _ _).from _), rfl, ⟨hR1.set _, .inl hgl⟩, hb1.setCell (p := ⟨w.heap.size + 1, 0, none⟩) (by simp) _⟩
  case done =>
    rintro D ys W hD hys ⟨⟨⟨bN1, bR1⟩, hpl, hpa⟩, hB1⟩ hK
    have HRT := Lib.hid (rightT_yes hys hpl hpa)
    have cR := bR1.cell
    have fR := bR1.frozen
    gi_wp2
    have hK2 := (KeepsOthers.setCell W ⟨w.heap.size + 1, 0, none⟩ (.bool true)).same D _ hK rfl
    refine ⟨by simp, .inl ⟨_, _, rfl, run_takeDeferred hK2, ?_⟩⟩
    have hc : ((W.setCell ⟨w.heap.size + 1, 0, none⟩ (.bool true)).putObj D (.deferred none)).cell? ⟨w.heap.size + 1, 0, none⟩ = some (.bool true) := cell_kept (bR1.set _).cell (grownBy_putObj' _ D (.deferred none)) (fun r e => by cases e; exact ⟨_, hK2, rfl⟩)
    exact ⟨_, ret_boolc rfl rfl hc, by rw [HRT.out], (hB1.setCell (p := ⟨w.heap.size + 1, 0, none⟩) (by simp) _).trans (belowK_b (w := w) (Nat.le_refl _) _ D _ _ (by omega) hK2 rfl rfl)⟩
  case stop =>
    rintro D c pre W hD hsp ⟨rfl, ⟨bR1, hbad⟩, hB1⟩ hK
    have HRT := Lib.hid (rightT_no hsp hbad)
    gi_wp2
    refine ⟨by simp, .inl ⟨_, _, rfl, run_takeDeferred hK, ?_⟩⟩
    have hc : (W.putObj D (.deferred none)).cell? ⟨w.heap.size + 1, 0, none⟩ = some (.bool false) := cell_kept bR1.cell (grownBy_putObj' _ D (.deferred none)) (fun r e => by cases e; exact ⟨_, hK, rfl⟩)
    exact ⟨_, ret_boolc rfl rfl hc, by rw [HRT.out], hB1.trans (belowK_b (w := w) (Nat.le_refl _) _ D _ _ (by omega) hK rfl rfl)⟩
/-- tree.Right at any tree. -/
theorem tright_any (x : Nd) (B : Option Addr) (cap : Nat) (w : World) (hsz : x.size ≤ 4611686018427387903) (ht : TreesAt w (fun b => b < w.heap.size) x.kids B) :
    Calls Try.prog 38 #[ndV x B cap] w fun e w' => e = .returned (.bool (rightT x)) ∧ Below w.heap.size w w' :=
  callsIn_wide.1 (trightx_in 3 (Nat.le_refl _) x B cap w hsz ht)
end Go.Proofs.Ytgbpcigfbpghgaa
