/- Texts of the claim. -/
import Derived.Test.YtfekpkelmliejaaGreatDoorJFrameT
import Derived.Test.YtfekpkelmliejaaGreatDoorJZ03
namespace Go.Proofs.YtfekpkelmliejaaGreatDoor
open Go.ChangeShapes Go.WideShapes Go.ChangeAt Go.RowKit
set_option linter.unusedSimpArgs false
set_option linter.unusedVariables false
set_option maxRecDepth 100000
set_option maxHeartbeats 8000000
theorem cellsLinkN : Tryz.prog.cellsOf 98 = 2 := by kernel_rfl
theorem cellsEdgeN : Tryz.prog.cellsOf 100 = 6 := by kernel_rfl
theorem cellsNfaN : Tryz.prog.cellsOf 43 = 5 := by kernel_rfl
theorem cellsLinks : Tryz.prog.cellsOf 39 = 1 := by kernel_rfl
theorem cellsEdges : Tryz.prog.cellsOf 40 = 1 := by kernel_rfl
theorem cellsInts : Tryz.prog.cellsOf 41 = 1 := by kernel_rfl
section
variable {H : Type} {enc : TypeId × Value → H} {W : World} {fuel : Nat}
theorem link_came {cs : List Value} {y : DataW H × List MemPlace} (h : DataW.trod enc Tryz.prog W 0 (fun _ => true) true fuel 98 cs = some y) : ∃ p : Int × Int, cs = [.int .i64 p.1, .int .i64 p.2] := by
 obtain ⟨xs, n, _, _, hl, hxl, hf⟩ := DataW.trod_struct Tryz.underlying98 h
 rw [cellsLinkN] at hl
 obtain ⟨v0, v1, rfl⟩ : ∃ v0 v1, cs = [v0, v1] := by
  match cs, hl with
  | [a, b], _ => exact ⟨a, b, rfl⟩
 have g0 : DataW.trod enc Tryz.prog W 0 (fun _ => true) true n 3 (([v0, v1].drop 0).take (Tryz.prog.cellsOf 3)) = xs[0]? := hf 0 _ rfl
 have g1 : DataW.trod enc Tryz.prog W 0 (fun _ => true) true n 3 (([v0, v1].drop 1).take (Tryz.prog.cellsOf 3)) = xs[1]? := hf 1 _ rfl
 rw [List.getElem?_eq_getElem (by rw [hxl]; decide), cellsInt] at g0 g1
 obtain ⟨a0, q0, _, _⟩ := DataW.trod_int Tryz.underlying3 g0
 obtain ⟨a1, q1, _, _⟩ := DataW.trod_int Tryz.underlying3 g1
 simp at q0 q1
 subst q0 q1
 exact ⟨(a0, a1), rfl⟩
theorem setw_came {cs : List Value} {y : DataW H × List MemPlace} (h : DataW.trod enc Tryz.prog W 0 (fun _ => true) true fuel 25 cs = some y) :
  ∃ s : Nat, cs = [.int .u64 (word s.testBit 0), .int .u64 (word s.testBit 1), .int .u64 (word s.testBit 2), .int .u64 (word s.testBit 3)] := by
 obtain ⟨us, m, _, _, hl, hul, hu⟩ := DataW.trod_array Tryz.underlying25 h
 rw [cellsSet] at hl
 obtain ⟨v0, v1, v2, v3, rfl⟩ : ∃ v0 v1 v2 v3, cs = [v0, v1, v2, v3] := by
  match cs, hl with
  | [a, b, c, d], _ => exact ⟨a, b, c, d, rfl⟩
 have u0 := hu 0 (by decide)
 have u1 := hu 1 (by decide)
 have u2 := hu 2 (by decide)
 have u3 := hu 3 (by decide)
 rw [List.getElem?_eq_getElem (by rw [hul]; decide), cellsWord] at u0 u1 u2 u3
 obtain ⟨b0, r0, _, w0⟩ := DataW.trod_int Tryz.underlying23 u0
 obtain ⟨b1, r1, _, w1⟩ := DataW.trod_int Tryz.underlying23 u1
 obtain ⟨b2, r2, _, w2⟩ := DataW.trod_int Tryz.underlying23 u2
 obtain ⟨b3, r3, _, w3⟩ := DataW.trod_int Tryz.underlying23 u3
 simp at r0 r1 r2 r3
 subst r0 r1 r2 r3
 obtain ⟨s0, s0'⟩ := u64_of_wf w0
 obtain ⟨s1, s1'⟩ := u64_of_wf w1
 obtain ⟨s2, s2'⟩ := u64_of_wf w2
 obtain ⟨s3, s3'⟩ := u64_of_wf w3
 obtain ⟨n0, rfl⟩ := Int.eq_ofNat_of_zero_le s0
 obtain ⟨n1, rfl⟩ := Int.eq_ofNat_of_zero_le s1
 obtain ⟨n2, rfl⟩ := Int.eq_ofNat_of_zero_le s2
 obtain ⟨n3, rfl⟩ := Int.eq_ofNat_of_zero_le s3
 obtain ⟨s, k0, k1, k2, k3⟩ := set_words (n0 := n0) (n1 := n1) (n2 := n2) (n3 := n3) (by omega) (by omega) (by omega) (by omega)
 exact ⟨s, by rw [k0, k1, k2, k3]⟩
theorem edge_came {cs : List Value} {y : DataW H × List MemPlace} (h : DataW.trod enc Tryz.prog W 0 (fun _ => true) true fuel 100 cs = some y) :
  ∃ p : Int × Nat × Int, cs = [.int .i64 p.1, .int .u64 (word p.2.1.testBit 0), .int .u64 (word p.2.1.testBit 1), .int .u64 (word p.2.1.testBit 2), .int .u64 (word p.2.1.testBit 3), .int .i64 p.2.2] := by
 obtain ⟨xs, n, _, _, hl, hxl, hf⟩ := DataW.trod_struct Tryz.underlying100 h
 rw [cellsEdgeN] at hl
 obtain ⟨v0, v1, v2, v3, v4, v5, rfl⟩ : ∃ v0 v1 v2 v3 v4 v5, cs = [v0, v1, v2, v3, v4, v5] := by
  match cs, hl with
  | [a, b, c, d, e, f], _ => exact ⟨a, b, c, d, e, f, rfl⟩
 have g0 : DataW.trod enc Tryz.prog W 0 (fun _ => true) true n 3 (([v0, v1, v2, v3, v4, v5].drop 0).take (Tryz.prog.cellsOf 3)) = xs[0]? := hf 0 _ rfl
 have g1 : DataW.trod enc Tryz.prog W 0 (fun _ => true) true n 25 (([v0, v1, v2, v3, v4, v5].drop 1).take (Tryz.prog.cellsOf 25)) = xs[1]? := hf 1 _ rfl
 have g2 : DataW.trod enc Tryz.prog W 0 (fun _ => true) true n 3 (([v0, v1, v2, v3, v4, v5].drop 5).take (Tryz.prog.cellsOf 3)) = xs[2]? := hf 2 _ rfl
 rw [List.getElem?_eq_getElem (by rw [hxl]; decide)] at g0 g1 g2
 rw [cellsInt] at g0 g2
 rw [cellsSet] at g1
 obtain ⟨a0, q0, _, _⟩ := DataW.trod_int Tryz.underlying3 g0
 obtain ⟨a2, q2, _, _⟩ := DataW.trod_int Tryz.underlying3 g2
 obtain ⟨s, q1⟩ := setw_came g1
 simp at q0 q1 q2
 obtain ⟨rfl, rfl, rfl, rfl⟩ := q1
 subst q0 q2
 exact ⟨(a0, s, a2), rfl⟩
theorem bulk_len2 {H : Type} : ∀ es : List (DataW H), es.length ≤ Rows.uptoBulkAll es
 | [] => Nat.zero_le _
 | d :: r => by
  have := bulk_len2 r
  have := bulk_pos d
  simp only [Rows.uptoBulkAll, List.length_cons]
  omega
theorem row_came {α : Type} (F : α → List Value) (n : Nat) (t e : TypeId) (hu : Tryz.prog.underlying t = some (.slice e)) (hce : Tryz.prog.cellsOf e = n) (hn : 0 < n) (hF : ∀ x, ∃ u, (F x)[0]? = some u) (hFn : ∀ x, (F x).length = n)
  (hel : ∀ (fuel : Nat) (cs : List Value) (y : DataW H × List MemPlace), DataW.trod enc Tryz.prog W 0 (fun _ => true) true fuel e cs = some y → ∃ x : α, cs = F x)
  {v : Value} {y : DataW H × List MemPlace} (h : DataW.trod enc Tryz.prog W 0 (fun _ => true) true fuel t [v] = some y) :
  ∃ (L : List α) (A : Option Addr) (cap : Nat), v = .slice A L.length cap ∧ L.length ≤ cap ∧ L.length ≤ Rows.uptoBulk y.1 ∧ ∀ (i : Nat) (x : α), L[i]? = some x → ∃ b o, A = some ⟨b, o, none⟩ ∧ ∀ j u, j < n → (F x)[j]? = some u → W.cell? ⟨b, o + i * n + j, none⟩ = some u := by
 rcases DataW.trod_slice hu h with ⟨hcs, hd⟩ | ⟨a, l, c, elems, rest, m, _, hcs, hd, hb, hlc, hm, hel2, hc, _, _⟩
 ·simp at hcs
  exact ⟨[], none, 0, hcs, Nat.le_refl _, Nat.zero_le _, fun i x hx => by simp at hx⟩
 ·simp at hcs
  rw [hce] at hc
  have hx : ∀ i, i < l → ∃ x : α, W.cells? 0 (a.add (i * n)) n = some (F x) := by
   intro i hi
   have h1 := hc i hi
   rw [List.getElem?_eq_getElem (by omega)] at h1
   obtain ⟨cs, h2, h3⟩ := Option.bind_eq_some_iff.1 h1
   obtain ⟨x, rfl⟩ := hel _ _ _ h3
   exact ⟨x, h2⟩
  obtain ⟨L, hL⟩ : ∃ L : List α, L.length = l ∧ ∀ i x, L[i]? = some x → W.cells? 0 (a.add (i * n)) n = some (F x) := by
   have : ∀ k, k ≤ l → ∃ L : List α, L.length = k ∧ ∀ i x, L[i]? = some x → W.cells? 0 (a.add (i * n)) n = some (F x) := by
    intro k
    induction k with
    | zero => exact fun _ => ⟨[], rfl, fun i x hx => by simp at hx⟩
    | succ k ih =>
     intro hk
     obtain ⟨L, h1, h2⟩ := ih (by omega)
     obtain ⟨x, hx⟩ := hx k (by omega)
     refine ⟨L ++ [x], by simp [h1], fun i z hz => ?_⟩
     rcases Nat.lt_or_ge i L.length with hi | hi
     ·rw [List.getElem?_append_left hi] at hz
      exact h2 i z hz
     ·rw [List.getElem?_append_right hi] at hz
      have : i - L.length = 0 := by
       rcases Nat.eq_zero_or_pos (i - L.length) with h0 | h0
       ·exact h0
       ·rw [List.getElem?_eq_none (by simp; omega)] at hz; cases hz
      rw [this] at hz
      cases hz
      rw [show i = k by omega]
      exact hx
   exact this l (Nat.le_refl _)
  refine ⟨L, some a, c, by rw [hL.1]; exact hcs, by rw [hL.1]; exact hlc, ?_, fun i x hxi => ?_⟩
  ·rw [hd]
   simp only [Rows.uptoBulk]
   have := bulk_len2 (elems.map (·.1))
   simp at this
   omega
  ·obtain ⟨bl, off, spot⟩ := a
   have h1 := hL.2 i x hxi
   obtain ⟨_, _, h3⟩ := World.cells?_some h1
   have hlt := (List.getElem?_eq_some_iff.1 hxi).1
   obtain ⟨x0, hx0⟩ : ∃ x0, L[0]? = some x0 := ⟨_, List.getElem?_eq_getElem (by omega)⟩
   obtain ⟨_, _, h30⟩ := World.cells?_some (hL.2 0 x0 hx0)
   obtain ⟨u0, hu0⟩ := hF x0
   have h00 := h30 0 hn
   rw [hu0] at h00
   have hsp : spot = none := by
    have := World.cell?_spot h00
    simpa [Addr.add] using this
   subst hsp
   refine ⟨bl, off, rfl, fun j u hj hu => ?_⟩
   have := h3 j hj
   rw [addr_add, addr_add, hu] at this
   exact this
theorem links_came {v : Value} {y : DataW H × List MemPlace} (h : DataW.trod enc Tryz.prog W 0 (fun _ => true) true fuel 39 [v] = some y) : ∃ (L : List (Int × Int)) (A : Option Addr) (cap : Nat), v = .slice A L.length cap ∧ L.length ≤ Rows.uptoBulk y.1 ∧ LinksAt W A L := by
 obtain ⟨L, A, cap, h1, _, h2, h3⟩ := row_came (fun p : Int × Int => [.int .i64 p.1, .int .i64 p.2]) 2 39 98 Tryz.underlying39 cellsLinkN (by decide) (fun x => ⟨_, rfl⟩) (fun x => rfl) (fun f cs y h => link_came h) h
 refine ⟨L, A, cap, h1, h2, fun i p hp => ?_⟩
 obtain ⟨b, o, hA, hc⟩ := h3 i p hp
 exact ⟨b, o, hA, hc 0 _ (by decide) rfl, hc 1 _ (by decide) rfl⟩
theorem edges_came {v : Value} {y : DataW H × List MemPlace} (h : DataW.trod enc Tryz.prog W 0 (fun _ => true) true fuel 40 [v] = some y) : ∃ (L : List (Int × Nat × Int)) (A : Option Addr) (cap : Nat), v = .slice A L.length cap ∧ L.length ≤ Rows.uptoBulk y.1 ∧ EdgesAt W A L := by
 obtain ⟨L, A, cap, h1, _, h2, h3⟩ := row_came (fun p : Int × Nat × Int => [.int .i64 p.1, .int .u64 (word p.2.1.testBit 0), .int .u64 (word p.2.1.testBit 1), .int .u64 (word p.2.1.testBit 2), .int .u64 (word p.2.1.testBit 3), .int .i64 p.2.2]) 6 40 100 Tryz.underlying40 cellsEdgeN (by decide) (fun x => ⟨_, rfl⟩) (fun x => rfl) (fun f cs y h => edge_came h) h
 refine ⟨L, A, cap, h1, h2, fun i p hp => ?_⟩
 obtain ⟨b, o, hA, hc⟩ := h3 i p hp
 exact ⟨b, o, hA, hc 0 _ (by decide) rfl, hc 1 _ (by decide) rfl, hc 2 _ (by decide) rfl, hc 3 _ (by decide) rfl, hc 4 _ (by decide) rfl, hc 5 _ (by decide) rfl⟩
theorem intsf_came {v : Value} {y : DataW H × List MemPlace} (h : DataW.trod enc Tryz.prog W 0 (fun _ => true) true fuel 41 [v] = some y) : ∃ (L : List Int) (A : Option Addr) (cap : Nat), v = .slice A L.length cap ∧ L.length ≤ Rows.uptoBulk y.1 ∧ IntsAt W A L := by
 obtain ⟨L, A, cap, h1, _, h2, h3⟩ := row_came (fun p : Int => [.int .i64 p]) 1 41 3 Tryz.underlying41 cellsInt (by decide) (fun x => ⟨_, rfl⟩) (fun x => rfl) (fun f cs y h => by
  obtain ⟨a, q, _, _⟩ := DataW.trod_int Tryz.underlying3 h
  exact ⟨a, q⟩) h
 refine ⟨L, A, cap, h1, h2, fun i p hp => ?_⟩
 obtain ⟨b, o, hA, hc⟩ := h3 i p hp
 have := hc 0 _ (by decide) rfl
 rw [Nat.mul_one] at this
 exact ⟨b, o, hA, this⟩
theorem nfa_came {base : Nat} {v : Value} {d : DataW H} {p : List MemPlace} (hv : Value.okWide Tryz.prog W .any base 43 v) (h : DataW.Trod enc Tryz.prog W 0 (fun _ => true) true 43 v d p) (hbulk : Rows.uptoBulk d ≤ 1048576) :
  ∃ (N : NfaV) (A1 : Option Addr) (k1 : Nat) (A2 : Option Addr) (k2 : Nat) (A3 : Option Addr) (k3 : Nat), v = .agg (nfA N A1 k1 A2 k2 A3 k3) ∧ NfaAt W N A1 A2 A3 ∧ N.links.length ≤ 1048576 ∧ N.edges.length ≤ 1048576 ∧ N.accept.length ≤ 1048576 := by
 simp only [Value.okWide, Tryz.underlying43] at hv
 obtain ⟨cs, rfl, h2, _⟩ := hv
 rw [cellsNfaN] at h2
 obtain ⟨fuel, hf⟩ := h
 obtain ⟨x0, x1, x2, x3, x4, rfl⟩ : ∃ x0 x1 x2 x3 x4, cs = #[x0, x1, x2, x3, x4] := by
  obtain ⟨l⟩ := cs
  match l, h2 with
  | [a, b, c, d, e], _ => exact ⟨a, b, c, d, e, rfl⟩
 have hf : DataW.trod enc Tryz.prog W 0 (fun _ => true) true fuel 43 [x0, x1, x2, x3, x4] = some (d, p) := hf
 obtain ⟨xs, n, _, hy, hl, hxl, hg⟩ := DataW.trod_struct Tryz.underlying43 hf
 have g0 : DataW.trod enc Tryz.prog W 0 (fun _ => true) true n 3 (([x0, x1, x2, x3, x4].drop 0).take (Tryz.prog.cellsOf 3)) = xs[0]? := hg 0 _ rfl
 have g1 : DataW.trod enc Tryz.prog W 0 (fun _ => true) true n 3 (([x0, x1, x2, x3, x4].drop 1).take (Tryz.prog.cellsOf 3)) = xs[1]? := hg 1 _ rfl
 have g2 : DataW.trod enc Tryz.prog W 0 (fun _ => true) true n 39 (([x0, x1, x2, x3, x4].drop 2).take (Tryz.prog.cellsOf 39)) = xs[2]? := hg 2 _ rfl
 have g3 : DataW.trod enc Tryz.prog W 0 (fun _ => true) true n 40 (([x0, x1, x2, x3, x4].drop 3).take (Tryz.prog.cellsOf 40)) = xs[3]? := hg 3 _ rfl
 have g4 : DataW.trod enc Tryz.prog W 0 (fun _ => true) true n 41 (([x0, x1, x2, x3, x4].drop 4).take (Tryz.prog.cellsOf 41)) = xs[4]? := hg 4 _ rfl
 have hs : ∀ i, i < 5 → ∃ z, xs[i]? = some z := fun i hi => ⟨_, List.getElem?_eq_getElem (by rw [hxl]; exact hi)⟩
 obtain ⟨z0, e0⟩ := hs 0 (by decide)
 obtain ⟨z1, e1⟩ := hs 1 (by decide)
 obtain ⟨z2, e2⟩ := hs 2 (by decide)
 obtain ⟨z3, e3⟩ := hs 3 (by decide)
 obtain ⟨z4, e4⟩ := hs 4 (by decide)
 rw [e0, cellsInt] at g0
 rw [e1, cellsInt] at g1
 rw [e2, cellsLinks] at g2
 rw [e3, cellsEdges] at g3
 rw [e4, cellsInts] at g4
 obtain ⟨a0, q0, _, _⟩ := DataW.trod_int Tryz.underlying3 g0
 obtain ⟨a1, q1, _, _⟩ := DataW.trod_int Tryz.underlying3 g1
 obtain ⟨L, A1, k1, rfl, b2, r2⟩ := links_came (by simpa using g2)
 obtain ⟨E, A2, k2, rfl, b3, r3⟩ := edges_came (by simpa using g3)
 obtain ⟨C, A3, k3, rfl, b4, r4⟩ := intsf_came (by simpa using g4)
 simp at q0 q1
 subst q0 q1
 have hb : ∀ (i : Nat) (z : DataW H × List MemPlace), xs[i]? = some z → Rows.uptoBulk z.1 ≤ 1048576 := fun i z hz => by
  have h1 : Rows.uptoBulk z.1 ≤ Rows.uptoBulkAll (xs.map (·.1)) := bulkAll_mem (List.mem_map.2 ⟨z, List.mem_of_getElem? hz, rfl⟩)
  have h2 := (Prod.mk.inj hy).1
  rw [h2] at hbulk
  simp only [Rows.uptoBulk] at hbulk
  omega
 have n2 := hb 2 z2 e2
 have n3 := hb 3 z3 e3
 have n4 := hb 4 z4 e4
 exact ⟨⟨a0, a1, L, E, C⟩, A1, k1, A2, k2, A3, k3, rfl, ⟨r2, r3, r4, by simp only; omega, by simp only; omega, by simp only; omega⟩, by simp only; omega, by simp only; omega, by simp only; omega⟩
theorem ints_came {A : Option Addr} {len cap : Nat} {d : DataW H} {p : List MemPlace} (h : DataW.Trod enc Tryz.prog W 0 (fun _ => true) true 41 (.slice A len cap) d p) : ∃ xs : List Int, xs.length = len ∧ IntsAt W A xs ∧ len ≤ Rows.uptoBulk d := by
 obtain ⟨fuel, hf⟩ := h
 obtain ⟨L, A', cap', e, h1, h2⟩ := intsf_came (y := (d, p)) (v := .slice A len cap) hf
 cases e
 exact ⟨L, rfl, h2, h1⟩
end
end Go.Proofs.YtfekpkelmliejaaGreatDoor
