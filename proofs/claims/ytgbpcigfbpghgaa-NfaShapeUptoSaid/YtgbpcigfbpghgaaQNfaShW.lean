/-
  The walk of NfaShape.
-/
import Derived.Test.YtgbpcigfbpghgaaQNfaRt
import Derived.Test.YtgbpcigfbpghgaaQKnows16
import Derived.Test.YtgbpcigfbpghgaaQSince
namespace Go.Proofs.Ytgbpcigfbpghgaa
open Go.RowKit
set_option linter.unusedSimpArgs false
set_option linter.unusedVariables false
set_option maxRecDepth 100000

/-- A machine of states from 0 on, as any machine. -/
def MachS.toV (m : MachS) : NfaV := ⟨m.states, 0, m.links.map fun p => ((p.1 : Int), (p.2 : Int)), m.edges.map fun p => ((p.1 : Int), p.2.1, (p.2.2 : Int)), m.accept.map fun (a : Nat) => (a : Int)⟩
theorem linkCells_get : ∀ (l : List (Nat × Nat)) (k : Nat) (p : Nat × Nat), l[k]? = some p → (linkCells l)[k * 2]? = some (.int .i64 (p.1 : Int)) ∧ (linkCells l)[k * 2 + 1]? = some (.int .i64 (p.2 : Int))
  | [], k, p, h => by simp at h
  | x :: l, 0, p, h => by simp at h; subst h; exact ⟨rfl, rfl⟩
  | x :: l, k + 1, p, h => by
    obtain ⟨h1, h2⟩ := linkCells_get l k p (by simpa using h)
    have e : linkCells (x :: l) = linkCell x ++ linkCells l := by simp [linkCells]
    have hl : (linkCell x).length = 2 := rfl
    rw [e]
    refine ⟨?_, ?_⟩
    · rw [List.getElem?_append_right (by omega), hl, show (k + 1) * 2 - 2 = k * 2 by omega]; exact h1
    · rw [List.getElem?_append_right (by omega), hl, show (k + 1) * 2 + 1 - 2 = k * 2 + 1 by omega]; exact h2
theorem edgeCells_get : ∀ (l : List (Nat × Nat × Nat)) (k : Nat) (p : Nat × Nat × Nat), l[k]? = some p → ∀ j, j < 6 → (edgeCells l)[k * 6 + j]? = (edgeCell p)[j]?
  | [], k, p, h, _, _ => by simp at h
  | x :: l, 0, p, h, j, hj => by
    simp at h
    subst h
    have e : edgeCells (x :: l) = edgeCell x ++ edgeCells l := by simp [edgeCells]
    rw [e, Nat.zero_mul, Nat.zero_add, List.getElem?_append_left (by simpa [edgeCell] using hj)]
  | x :: l, k + 1, p, h, j, hj => by
    have h1 := edgeCells_get l k p (by simpa using h) j hj
    have e : edgeCells (x :: l) = edgeCell x ++ edgeCells l := by simp [edgeCells]
    have hl : (edgeCell x).length = 6 := rfl
    rw [e, List.getElem?_append_right (by omega), hl, show (k + 1) * 6 + j - 6 = k * 6 + j by omega]
    exact h1
theorem RowsM.nfaAt {w : World} {base : Nat} {m : MachS} {A1 A2 A3 : Option Addr} {n1 n2 n3 k1 k2 k3 : Nat} (h : RowsM w base m (.slice A1 n1 k1) (.slice A2 n2 k2) (.slice A3 n3 k3)) (hf : FitsM m) : NfaAt w m.toV A1 A2 A3 := by
  refine ⟨fun i p hp => ?_, fun i p hp => ?_, fun i a ha => ?_, by simp [MachS.toV]; have := hf.2.1; omega, by simp [MachS.toV]; have := hf.2.2; omega, by simp [MachS.toV]; have := hf.1; unfold MachS.states at this; omega⟩
  · simp only [MachS.toV] at hp
    rw [List.getElem?_map] at hp
    obtain ⟨q, hq, rfl⟩ := Option.map_eq_some_iff.1 hp
    have hi := (List.getElem?_eq_some_iff.1 hq).1
    obtain ⟨g, c, e, _, _⟩ := own_form h.l (by omega)
    cases e
    obtain ⟨c0, c1⟩ := linkCells_get m.links i q hq
    have d0 := h.l.cells (g := g) rfl _ _ c0
    have d1 := h.l.cells (g := g) rfl _ _ c1
    rw [addr_plusE] at d0 d1
    exact ⟨g, 0, rfl, by rw [Nat.zero_add]; exact d0, by rw [Nat.zero_add]; exact d1⟩
  · simp only [MachS.toV] at hp
    rw [List.getElem?_map] at hp
    obtain ⟨q, hq, rfl⟩ := Option.map_eq_some_iff.1 hp
    have hi := (List.getElem?_eq_some_iff.1 hq).1
    obtain ⟨g, c, e, _, _⟩ := own_form h.e (by omega)
    cases e
    have hc := edgeCells_get m.edges i q hq
    have d : ∀ j u, j < 6 → (edgeCell q)[j]? = some u → w.cell? ⟨g, 0 + i * 6 + j, none⟩ = some u := fun j u hj hu => by
      have := h.e.cells (g := g) rfl _ _ ((hc j hj).trans hu)
      rw [addr_plusE] at this
      rw [Nat.zero_add]
      exact this
    exact ⟨g, 0, rfl, d 0 _ (by decide) rfl, d 1 _ (by decide) rfl, d 2 _ (by decide) rfl, d 3 _ (by decide) rfl, d 4 _ (by decide) rfl, d 5 _ (by decide) rfl⟩
  · simp only [MachS.toV] at ha
    rw [List.getElem?_map] at ha
    obtain ⟨q, hq, rfl⟩ := Option.map_eq_some_iff.1 ha
    have hi := (List.getElem?_eq_some_iff.1 hq).1
    obtain ⟨g, c, e, _, _⟩ := own_form h.a (by omega)
    cases e
    have d0 := h.a.cells (g := g) rfl _ _ (accCells_get m.accept i q hq)
    rw [addr_plusE] at d0
    exact ⟨g, 0, rfl, by rw [Nat.zero_add]; exact d0⟩
theorem all_castL (n : Nat) (l : List (Nat × Nat)) (h : ∀ p ∈ l, p.1 < n ∧ p.2 < n) : (l.map fun p => ((p.1 : Int), (p.2 : Int))).all (linkB n) = true := by
  rw [List.all_eq_true]
  intro p hp
  obtain ⟨q, hq, rfl⟩ := List.mem_map.1 hp
  have := h q hq
  unfold linkB
  rw [isB_iff.2 ⟨by simp only; omega, by simp only; omega⟩, isB_iff.2 ⟨by simp only; omega, by simp only; omega⟩]
  rfl
theorem all_castE (n : Nat) (l : List (Nat × Nat × Nat)) (h : ∀ p ∈ l, p.1 < n ∧ p.2.2 < n) : (l.map fun p => ((p.1 : Int), p.2.1, (p.2.2 : Int))).all (edgeB n) = true := by
  rw [List.all_eq_true]
  intro p hp
  obtain ⟨q, hq, rfl⟩ := List.mem_map.1 hp
  have := h q hq
  unfold edgeB
  rw [isB_iff.2 ⟨by simp only; omega, by simp only; omega⟩, isB_iff.2 ⟨by simp only; omega, by simp only; omega⟩]
  rfl
theorem all_castA (l : List Nat) (h : ∀ a ∈ l, a ≤ 64) : (l.map fun (a : Nat) => (a : Int)).all accB = true := by
  rw [List.all_eq_true]
  intro p hp
  obtain ⟨q, hq, rfl⟩ := List.mem_map.1 hp
  have := h q hq
  unfold accB
  rw [decide_eq_true (by omega), decide_eq_true (by omega)]
  rfl
/-- The machine of trees may be. -/
theorem mach_right {l : List Nd} (hr : ∀ x ∈ l, rightT x = true) (hs : sizeW l ≤ 65536) (h64 : l.length ≤ 64) : rightN (machS l).toV = true := by
  have hg := grown_mach hr
  obtain ⟨_, h65⟩ := mach_fits hr hs
  have hpos : 0 < (machS l).states := by have := hg.states; omega
  rw [rightN_tail (by simp only [MachS.toV]; omega) (isB_iff.2 ⟨by simp [MachS.toV], by simp only [MachS.toV]; omega⟩) (by simp [MachS.toV, MachS.states])]
  simp only [MachS.toV]
  rw [all_castL _ _ (fun p hp => by have := hg.shaped.1 p hp; omega), all_castE _ _ (fun p hp => by have := hg.shaped.2.1 p hp; omega), all_castA _ (fun a ha => by have := hg.label a ha; omega)]
  rfl
theorem ofS_ok {l : List Nd} {m : MachS} (h : ofS l = .ok m) : m = machS l ∧ (∀ x ∈ l, rightT x = true) ∧ sizeW l ≤ 65536 ∧ l.length ≤ 64 := by
  unfold ofS at h
  split at h
  · cases h
  split at h
  · cases h
  split at h
  · cases h
  · rename_i h1 h2 h3
    cases h
    refine ⟨rfl, fun x hx => ?_, by omega, by omega⟩
    have : l.all rightT = true := by simpa using h2
    exact List.all_eq_true.1 this x hx
theorem ofS_bad {l : List Nd} {k : Int} (h : ofS l = .error k) : k ≠ 0 := by
  unfold ofS at h
  split at h
  · cases h; decide
  split at h
  · cases h; decide
  split at h
  · cases h; decide
  · cases h
theorem size_mach {l : List Nd} (hr : ∀ x ∈ l, rightT x = true) (hs : sizeW l ≤ 65536) : (machS l).states = sizeW l := by
  have := (grown_mach hr).states
  have ht : (65536 : Nat) < topN := by decide
  unfold sizeW at *
  omega
theorem count_next {xs : List Nat} {k a n r s : Nat} (h : countL xs s = some r) (ha : xs[k]? = some a) (hn : countL (xs.take k) s = some n) : (a = 0 ∧ countL (xs.take (k + 1)) s = some n) ∨ (a ≠ 0 ∧ a = n ∧ countL (xs.take (k + 1)) s = some (n + 1)) := by
  have hts := take_snocF ha
  have hx : xs = xs.take (k + 1) ++ xs.drop (k + 1) := (List.take_append_drop _ _).symm
  have h1 : countL (xs.take (k + 1)) s = countL [a] n := by rw [hts, countL_app, hn]; rfl
  by_cases h0 : a = 0
  · left
    refine ⟨h0, ?_⟩
    rw [h1, h0]
    rfl
  · right
    rw [hx, countL_app, h1] at h
    simp only [countL, if_neg h0] at h1 h
    by_cases hn2 : a = n
    · refine ⟨h0, hn2, ?_⟩
      rw [h1, if_pos hn2]
    · rw [if_neg hn2] at h
      cases h
theorem shape_err (F : Trees) (B : Option Addr) (cap : Nat) (w : World) (hl : F.len ≤ 140737488355328) (hs : ∀ z ∈ F.list, z.size ≤ 4611686018427387903) (ht : TreesAt w (fun b => b < w.heap.size) F B) {k : Int} (h : ofS F.list = .error k) :
    Calls Try.prog 5 #[.slice B F.len cap] w fun e w' => e = .returned (.bool true) ∧ Below w.heap.size w w' := by
  have hof := nof_go F B cap w hl hs ht
  have hk := ofS_bad h
  rw [h] at hof
  have HO := Lib.hid hof
  have hne : (k != 0) = true := by rw [bne_iff_ne]; exact hk
  clear hof ht hs h hk
  go_enter Try.func5, Try.ntmps5
  go_wp2_with fail
  refine HO.out.mono ?_
  rintro e w1 ⟨hb1, rfl⟩
  have HB1 := Lib.hid (hb1.alloc hb1.size (.cells #[.int .i64 0, .int .i64 0, .slice none 0 0, .slice none 0 0, .slice none 0 0] 50))
  clear hb1 HO
  dsimp only
  go_wp2_with fail
  refine (knows16_go _).mono ?_
  rintro e w9 ⟨rfl, hb9⟩
  have HB9 := Lib.hid (HB1.out.trans (hb9.mono HB1.out.size))
  clear hb9
  dsimp only
  go_wp2
  go_light
  go_ret
  exact ⟨rfl, HB9.out⟩
theorem right_since {n : Nat} {w0 w : World} {m : MachS} {A1 A2 A3 : Option Addr} {k1 k2 k3 : Nat} (h : (∀ b o, b < n → w.cell? ⟨b, o, none⟩ = w0.cell? ⟨b, o, none⟩) ∧ Since n w0 w) (hn : w0.heap.size = n) (hA : NfaAt w0 m.toV A1 A2 A3) (hr : rightN m.toV = true) :
    Calls Try.prog 18 #[.agg #[.int .i64 (m.states : Int), .int .i64 0, .slice A1 m.links.length k1, .slice A2 m.edges.length k2, .slice A3 m.accept.length k3]] w fun e w' => e = .returned (.bool true) ∧ Below w.heap.size w w' := by
  subst hn
  have := nright_go m.toV A1 k1 A2 k2 A3 k3 w (hA.below h.2.1)
  rw [hr] at this
  simpa only [nfA, MachS.toV, List.length_map] using this
theorem size_since {n : Nat} {w0 w : World} {F : Trees} {B : Option Addr} {cap b : Nat} (h : (∀ b o, b < n → w.cell? ⟨b, o, none⟩ = w0.cell? ⟨b, o, none⟩) ∧ Since n w0 w) (hn : w0.heap.size = n) (hl : F.len ≤ 140737488355328) (hr : ∀ z ∈ F.list, rightT z = true) (ht : TreesAt w0 (fun x => x < b) F B) :
    Calls Try.prog 15 #[.slice B F.len cap] w fun e w' => e = .returned (.int .i64 ((sizeW F.list : Nat) : Int)) ∧ Below w.heap.size w w' := by
  subst hn
  exact nsize_go F (fun x => x < b) B cap w hl (fun z hz => by have := rightT_size (hr z hz); omega) (fun z hz => rightT_nums (hr z hz)) (ht.below h.2.1)
set_option maxHeartbeats 4000000 in
theorem shape_ok (F : Trees) (B : Option Addr) (cap : Nat) (w : World) (hl : F.len ≤ 140737488355328) (hs : ∀ z ∈ F.list, z.size ≤ 4611686018427387903) (ht : TreesAt w (fun b => b < w.heap.size) F B) {m : MachS} (h : ofS F.list = .ok m) :
    Calls Try.prog 5 #[.slice B F.len cap] w fun e w' => e = .returned (.bool true) ∧ Below w.heap.size w w' := by
  have hof := nof_go F B cap w hl hs ht
  obtain ⟨hm, hra, hsz, h64⟩ := ofS_ok h
  rw [h] at hof
  have HO := Lib.hid hof
  have hright := mach_right hra hsz h64
  have hstates := size_mach hra hsz
  obtain ⟨hfit, h65⟩ := mach_fits hra hsz
  have hgrown := grown_mach hra
  rw [← hm] at hright hstates hfit h65 hgrown
  have HG := Lib.hid hgrown
  have HRT := Lib.hid hright
  have HRA := Lib.hid hra
  have HFIT := Lib.hid hfit
  have HT := Lib.hid ht
  have HST := Lib.hid hstates
  rw [Trees.len_list] at h64
  clear hof ht hs h hm hright hgrown hfit hra hstates hsz
  go_enter Try.func5, Try.ntmps5
  go_wp2_with fail
  refine HO.out.mono ?_
  rintro e w1 ⟨hb1, L, E, A, rfl, hR⟩
  obtain ⟨A1, k1, rfl⟩ := own_slice hR.l
  obtain ⟨A2, k2, rfl⟩ := own_slice hR.e
  obtain ⟨A3, k3, rfl⟩ := own_slice hR.a
  have hA1 := hR.nfaAt HFIT.out
  have hba : Below w1.heap.size w1 (w1.alloc (.cells #[.int .i64 (m.states : Int), .int .i64 0, .slice A1 m.links.length k1, .slice A2 m.edges.length k2, .slice A3 m.accept.length k3] 50)) := (Below.refl _ _).alloc (Nat.le_refl _) _
  have HA2 := Lib.hid (hA1.below hba)
  have HX2 := Lib.hid (Blk.new w1 50 #[.int .i64 (m.states : Int), .int .i64 0, .slice A1 m.links.length k1, .slice A2 m.edges.length k2, .slice A3 m.accept.length k3])
  have HB2 := Lib.hid (hb1.trans (hba.mono hb1.size))
  have HT2 := Lib.hid ((HT.out.below hb1).below hba)
  have hlx : w1.heap.size < (w1.alloc (.cells #[.int .i64 (m.states : Int), .int .i64 0, .slice A1 m.links.length k1, .slice A2 m.edges.length k2, .slice A3 m.accept.length k3] 50)).heap.size := by simp
  clear hb1 hR hA1 hba HO
  dsimp only
  go_upto_region 4 with fail
  have x0 := HX2.out.cell 0
  have x1 := HX2.out.cell 1
  have x2 := HX2.out.cell 2
  have x3 := HX2.out.cell 3
  have x4 := HX2.out.cell 4
  generalize w1.alloc (.cells #[.int .i64 (m.states : Int), .int .i64 0, .slice A1 m.links.length k1, .slice A2 m.edges.length k2, .slice A3 m.accept.length k3] 50) = w2 at *
  obtain ⟨N2, hN2⟩ : ∃ N2, w2.heap.size = N2 := ⟨_, rfl⟩
  rw [hN2] at hlx
  have HN2 := Lib.hid hN2
  clear hN2
  have hss : (((m.states : Nat) : Int) != ((m.states : Nat) : Int)) = false := by simp
  go_region_held3 (fun w' => (∀ b o, b < N2 → w'.cell? ⟨b, o, none⟩ = w2.cell? ⟨b, o, none⟩) ∧ Since N2 w2 w') (first | exact since_start (Nat.le_of_eq HN2.out.symm) | exact since_step (by assumption) (by assumption))
    (first | (go_at_call 18; refine (right_since (by assumption) HN2.out HA2.out HRT.out).mono ?_; rintro e w' ⟨rfl, hb'⟩) | (go_at_call 15; refine (size_since (by assumption) HN2.out hl HRA.out HT2.out).mono ?_; rw [← HST.out]; rintro e w' ⟨rfl, hb'⟩))
  rename_i hS
  have hb4 : Below w2.heap.size w2 w' := by rw [HN2.out]; exact hS.2.1
  have HB4 := Lib.hid (HB2.out.trans (hb4.mono HB2.out.size))
  have HA4 := Lib.hid (HA2.out.below hb4)
  have HX4 := Lib.hid (HX2.out.below hb4 HX2.out.lt)
  clear hS hb4 HB2 HA2 HX2 HT2 x0 x1 x2 x3 x4 hss HN2 hlx HT HRA HRT HST h65
  have hll := HFIT.out.2.1
  have hel := HFIT.out.2.2
  have hal : m.accept.length ≤ 1000000000000 := HFIT.out.1
  go_wp2
  go_loopw [5] (fun i' wr => ∃ k : Nat, i' = .int .i64 (k : Int) ∧ k ≤ m.links.length ∧ Hid (Below w.heap.size w wr) ∧ Hid (NfaAt wr m.toV A1 A2 A3) ∧ Hid (Blk wr w1.heap.size 50 #[.int .i64 (m.states : Int), .int .i64 0, .slice A1 m.links.length k1, .slice A2 m.edges.length k2, .slice A3 m.accept.length k3])) (fun i' _ => m.links.length - (intOf i').toNat)
  case atStart => exact ⟨0, rfl, Nat.zero_le _, HB4, HA4, HX4⟩
  case round =>
    clear HB4 HA4 HX4
    obtain ⟨k, rfl, hk, HB, HA, HX⟩ := hrel
    have x2 : wr.cell? ⟨w1.heap.size, 2, none⟩ = some (.slice A1 m.links.length k1) := HX.out.cell 2
    have hlx := HX.out.lt
    by_cases hlt : k < m.links.length
    · obtain ⟨q, hq⟩ : ∃ q, m.links[k]? = some q := ⟨_, List.getElem?_eq_getElem hlt⟩
      obtain ⟨b, o, rfl, c0, c1⟩ := HA.out.l k ((q.1 : Int), (q.2 : Int)) (by simp only [MachS.toV]; rw [List.getElem?_map, hq]; rfl)
      obtain ⟨g1, g2, g3, g4⟩ := HG.out.shaped.1 q (List.mem_of_getElem? hq)
      obtain ⟨b3, o3, rfl, c3⟩ := HA.out.a q.1 0 (by simp only [MachS.toV]; rw [List.getElem?_map, g4]; rfl)
      have hdl : (k : Int) < (m.links.length : Int) := by omega
      have hz : ((q.2 : Int) == 0) = false := by rw [beq_eq_false_iff_ne]; omega
      have hq1 : q.1 < m.accept.length := g1
      have hd1 : ((q.1 : Nat) : Int) < ((m.accept.length : Nat) : Int) := by omega
      have x4 : wr.cell? ⟨w1.heap.size, 4, none⟩ = some (.slice (some ⟨b3, o3, none⟩) m.accept.length k3) := HX.out.cell 4
      have hb := World.block_lt_of_cell? wr _ c0
      have hb3 := World.block_lt_of_cell? wr _ c3
      clear hq g1 g2 g3 g4
      dsimp only at c0 c1
      generalize q.1 = q1 at *
      generalize q.2 = q2 at *
      go_wp2
      go_quiet (fail)
      go_wp2
      go_roundw
      case rel => exact ⟨k + 1, by go_num, by omega, Lib.hid (bel_drewN HB.out _), Lib.hid (HA.out.below (bel_drewN (Below.refl _ _) _)), Lib.hid (HX.out.drewN _)⟩
      case measure => simp [intOf]; omega
    · obtain rfl : k = m.links.length := by omega
      have hdl : ¬ ((m.links.length : Int) < (m.links.length : Int)) := by omega
      go_wp2
      clear x2 hdl hlt hk
      go_loopw [6] (fun i' wr => ∃ k : Nat, i' = .int .i64 (k : Int) ∧ k ≤ m.edges.length ∧ Hid (Below w.heap.size w wr) ∧ Hid (NfaAt wr m.toV A1 A2 A3) ∧ Hid (Blk wr w1.heap.size 50 #[.int .i64 (m.states : Int), .int .i64 0, .slice A1 m.links.length k1, .slice A2 m.edges.length k2, .slice A3 m.accept.length k3])) (fun i' _ => m.edges.length - (intOf i').toNat)
      case atStart => exact ⟨0, rfl, Nat.zero_le _, HB, HA, HX⟩
      case round =>
        clear HB HA HX hlx
        obtain ⟨k, rfl, hk, HB, HA, HX⟩ := hrel
        have x3 : wr.cell? ⟨w1.heap.size, 3, none⟩ = some (.slice A2 m.edges.length k2) := HX.out.cell 3
        have hlx := HX.out.lt
        by_cases hlt : k < m.edges.length
        · obtain ⟨q, hq⟩ : ∃ q, m.edges[k]? = some q := ⟨_, List.getElem?_eq_getElem hlt⟩
          obtain ⟨b, o, rfl, c0, _, _, _, _, c5⟩ := HA.out.e k ((q.1 : Int), q.2.1, (q.2.2 : Int)) (by simp only [MachS.toV]; rw [List.getElem?_map, hq]; rfl)
          obtain ⟨g1, g2, g3, g4⟩ := HG.out.shaped.2.1 q (List.mem_of_getElem? hq)
          obtain ⟨b3, o3, rfl, c3⟩ := HA.out.a q.1 0 (by simp only [MachS.toV]; rw [List.getElem?_map, g4]; rfl)
          have hdl : (k : Int) < (m.edges.length : Int) := by omega
          have hz : ((q.2.2 : Int) == 0) = false := by rw [beq_eq_false_iff_ne]; omega
          have hq1 : q.1 < m.accept.length := g1
          have hd1 : ((q.1 : Nat) : Int) < ((m.accept.length : Nat) : Int) := by omega
          have x4 : wr.cell? ⟨w1.heap.size, 4, none⟩ = some (.slice (some ⟨b3, o3, none⟩) m.accept.length k3) := HX.out.cell 4
          have hb := World.block_lt_of_cell? wr _ c0
          have hb3 := World.block_lt_of_cell? wr _ c3
          clear hq g1 g2 g3 g4
          dsimp only at c0 c5
          generalize q.1 = q1 at *
          generalize q.2.2 = q2 at *
          go_wp2
          go_quiet (fail)
          go_wp2
          go_roundw
          case rel => exact ⟨k + 1, by go_num, by omega, Lib.hid (bel_drewN HB.out _), Lib.hid (HA.out.below (bel_drewN (Below.refl _ _) _)), Lib.hid (HX.out.drewN _)⟩
          case measure => simp [intOf]; omega
        · obtain rfl : k = m.edges.length := by omega
          have hdl : ¬ ((m.edges.length : Int) < (m.edges.length : Int)) := by omega
          go_wp2
          clear x3 hdl hlt hk
          go_loopw [7, 8] (fun nx i' wr => ∃ k n : Nat, i' = .int .i64 (k : Int) ∧ nx = .int .i64 (n : Int) ∧ k ≤ m.accept.length ∧ n ≤ k + 1 ∧ Hid (countL (m.accept.take k) 1 = some n) ∧ Hid (Below w.heap.size w wr) ∧ Hid (NfaAt wr m.toV A1 A2 A3) ∧ Hid (Blk wr w1.heap.size 50 #[.int .i64 (m.states : Int), .int .i64 0, .slice A1 m.links.length k1, .slice A2 m.edges.length k2, .slice A3 m.accept.length k3])) (fun _ i' _ => m.accept.length - (intOf i').toNat)
          case atStart => exact ⟨0, 1, rfl, rfl, Nat.zero_le _, by omega, Lib.hid rfl, HB, HA, HX⟩
          case round =>
            clear HB HA HX hlx
            obtain ⟨k, n, rfl, rfl, hk, hnk, HCN, HB, HA, HX⟩ := hrel
            have x4 : wr.cell? ⟨w1.heap.size, 4, none⟩ = some (.slice A3 m.accept.length k3) := HX.out.cell 4
            have hlx := HX.out.lt
            by_cases hlt : k < m.accept.length
            · obtain ⟨a, ha⟩ : ∃ a, m.accept[k]? = some a := ⟨_, List.getElem?_eq_getElem hlt⟩
              obtain ⟨b, o, rfl, c0⟩ := HA.out.a k (a : Int) (by simp only [MachS.toV]; rw [List.getElem?_map, ha]; rfl)
              have hdl : (k : Int) < (m.accept.length : Int) := by omega
              have hb := World.block_lt_of_cell? wr _ c0
              rcases count_next HG.out.count ha HCN.out with ⟨rfl, hn⟩ | ⟨h0, rfl, hn⟩
              · have HN := Lib.hid hn
                clear hn ha
                go_wp2
                go_roundw
                case rel => exact ⟨k + 1, n, by go_num, rfl, by omega, by omega, HN, HB, HA, HX⟩
                case measure => simp [intOf]; omega
              · have HN := Lib.hid hn
                have hz : ((a : Int) != 0) = true := by rw [bne_iff_ne]; omega
                have hz2 : ((a : Int) != (a : Int)) = false := by simp
                clear hn ha h0
                go_wp2
                go_roundw
                case rel => exact ⟨k + 1, a + 1, by go_num, by go_num, by omega, by omega, HN, HB, HA, HX⟩
                case measure => simp [intOf]; omega
            · obtain rfl : k = m.accept.length := by omega
              have hdl : ¬ ((m.accept.length : Int) < (m.accept.length : Int)) := by omega
              have hcn := HCN.out
              rw [List.take_length, HG.out.count, Trees.len_list] at hcn
              obtain rfl := Option.some.inj hcn
              have hee : ((((F.len + 1 : Nat)) : Int) == (F.len : Int) + 1) = true := by simp
              have hcast : (((F.len + 1 : Nat)) : Int) = (F.len : Int) + 1 := by omega
              rw [hcast]
              clear hcn HCN hcast hee
              go_wp2_with fail
              refine (knows16_go _).mono ?_
              rintro e w9 ⟨rfl, hb9⟩
              have HB9 := Lib.hid (HB.out.trans (hb9.mono HB.out.size))
              clear hb9
              dsimp only
              go_wp2
              go_light
              go_ret
              exact ⟨rfl, HB9.out⟩
/-- NfaShape. -/
theorem shape_go (F : Trees) (B : Option Addr) (cap : Nat) (w : World) (hl : F.len ≤ 140737488355328) (hs : ∀ z ∈ F.list, z.size ≤ 4611686018427387903) (ht : TreesAt w (fun b => b < w.heap.size) F B) :
    Calls Try.prog 5 #[.slice B F.len cap] w fun e w' => e = .returned (.bool true) ∧ Below w.heap.size w w' := by
  cases h : ofS F.list with
  | error k => exact shape_err F B cap w hl hs ht h
  | ok m => exact shape_ok F B cap w hl hs ht h
end Go.Proofs.Ytgbpcigfbpghgaa
