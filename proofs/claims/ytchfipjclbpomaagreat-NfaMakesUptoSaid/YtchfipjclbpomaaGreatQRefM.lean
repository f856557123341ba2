/-
  The reference's machines as values; the contracts of its state and link.
-/
import Derived.Test.YtchfipjclbpomaaGreatQNfaE
import Derived.Test.YtchfipjclbpomaaGreatQNfaF
namespace Go.Proofs.YtchfipjclbpomaaGreat
open Go.RowKit
set_option linter.unusedSimpArgs false
set_option linter.unusedVariables false
set_option maxRecDepth 100000

@[inline] def mvA (m : MachS) (A1 : Option Addr) (k1 : Nat) (A2 : Option Addr) (k2 : Nat) (A3 : Option Addr) (k3 : Nat) : Array Value := #[.int .i64 (m.states : Int), .int .i64 0, .slice A1 m.links.length k1, .slice A2 m.edges.length k2, .slice A3 m.accept.length k3]
/-- A machine's value, whose rows are owned, their blocks of S. -/
structure MvAt (w : World) (base : Nat) (S : Nat → Prop) (m : MachS) (A1 : Option Addr) (k1 : Nat) (A2 : Option Addr) (k2 : Nat) (A3 : Option Addr) (k3 : Nat) : Prop where
  lt : ∀ b, S b → base ≤ b ∧ b < w.heap.size
  rows : RowsM w base m (.slice A1 m.links.length k1) (.slice A2 m.edges.length k2) (.slice A3 m.accept.length k3)
  in3 : In3 S (.slice A1 m.links.length k1) (.slice A2 m.edges.length k2) (.slice A3 m.accept.length k3)
theorem MvAt.keep {w w' : World} {base : Nat} {S : Nat → Prop} {m : MachS} {A1 A2 A3 : Option Addr} {k1 k2 k3 : Nat} (h : MvAt w base S m A1 k1 A2 k2 A3 k3) (hs : w.heap.size ≤ w'.heap.size) (hk : ∀ b, S b → w'.heap[b]? = w.heap[b]?) : MvAt w' base S m A1 k1 A2 k2 A3 k3 :=
  ⟨fun b hb => ⟨(h.lt b hb).1, by have := (h.lt b hb).2; omega⟩, h.rows.keep h.in3 hk, h.in3⟩
theorem MvAt.alloc {w : World} {base : Nat} {S : Nat → Prop} {m : MachS} {A1 A2 A3 : Option Addr} {k1 k2 k3 : Nat} (h : MvAt w base S m A1 k1 A2 k2 A3 k3) (o : Obj) : MvAt (w.alloc o) base S m A1 k1 A2 k2 A3 k3 :=
  h.keep (by simp) (fun b hb => Below.heap_alloc w o b (h.lt b hb).2)
theorem MvAt.drew {w : World} {base : Nat} {S : Nat → Prop} {m : MachS} {A1 A2 A3 : Option Addr} {k1 k2 k3 : Nat} (h : MvAt w base S m A1 k1 A2 k2 A3 k3) : MvAt w.drew base S m A1 k1 A2 k2 A3 k3 := h.keep (Nat.le_refl _) (fun _ _ => rfl)
theorem MvAt.drewN {w : World} {base : Nat} {S : Nat → Prop} {m : MachS} {A1 A2 A3 : Option Addr} {k1 k2 k3 : Nat} (h : MvAt w base S m A1 k1 A2 k2 A3 k3) (n : Nat) : MvAt (w.drewN n) base S m A1 k1 A2 k2 A3 k3 := h.keep (Nat.le_refl _) (fun _ _ => rfl)
theorem MvAt.set {w : World} {base : Nat} {S : Nat → Prop} {m : MachS} {A1 A2 A3 : Option Addr} {k1 k2 k3 : Nat} (h : MvAt w base S m A1 k1 A2 k2 A3 k3) {p : Addr} (hp : ¬ S p.block) (u : Value) : MvAt (w.setCell p u) base S m A1 k1 A2 k2 A3 k3 :=
  h.keep (by simp [World.setCell]) (fun b hb => Below.heap_setCell w p u b (fun e => hp (e ▸ hb)))
/-- How a call of the reference that gives a machine ends. -/
def MvOut (base : Nat) (S : Nat → Prop) (w : World) (m : MachS) (e : Ending) (w' : World) : Prop :=
  ∃ A1 k1 A2 k2 A3 k3, e = .returned (.agg (mvA m A1 k1 A2 k2 A3 k3)) ∧ ∃ S', MvAt w' base S' m A1 k1 A2 k2 A3 k3 ∧ Moves base S w S' w'
theorem ret_mach {fn : Func} {t : Tmp} (h : fn.results = #[.cell t 36]) {tmps : Array Value} {w : World} {g : Nat} {a0 a1 a2 a3 a4 : Value} (hp : tmps.getD t undef = .pointer (some ⟨g, 0, none⟩)) (hb : Blk w g 36 #[a0, a1, a2, a3, a4]) :
    (results fn tmps).run Tryz.prog w = .ok (.agg #[a0, a1, a2, a3, a4]) w :=
  results_cell_row h tmps w g _ _ _ _ hp hb Tryz.underlying36 rfl (by kernel_rfl)
theorem row_stays {w wa w1 : World} {base size k : Nat} {e : TypeId} {v : Value} {xs : List Value} {r : Option Nat} (hr : w.ownsRow base e size v k xs) (ha : Below w.heap.size w wa) (hne : ∀ k, v.ownBlock = some k → r ≠ some k) (hg : wa.grownBy w1 r) : w1.ownsRow base e size v k xs :=
  ownsRow_block hr (fun k hk => (hg.block k (by have := (hr.lt k hk).2; have := ha.size; omega) (fun e => hne k hk e.symm)).trans (ha.block k (hr.lt k hk).2))
theorem mv_lt {base gg : Nat} {S : Nat → Prop} {w w1 : World} (h : ∀ b, S b → base ≤ b ∧ b < w.heap.size) (hs : w.heap.size ≤ w1.heap.size) (hg : base ≤ gg ∧ gg < w1.heap.size) : ∀ b, (S b ∨ b = gg) → base ≤ b ∧ b < w1.heap.size := by
  rintro b (hb | rfl)
  · exact ⟨(h b hb).1, by have := (h b hb).2; omega⟩
  · exact hg
theorem mv_acc {base gg cap z : Nat} {S : Nat → Prop} {m : MachS} {A1 A2 A3 : Option Addr} {k1 k2 k3 : Nat} {w wa w1 : World} {label : Nat} (h : MvAt w base S m A1 k1 A2 k2 A3 k3) (hb : base ≤ w.heap.size) (ha : Below w.heap.size w wa) (hgrow : wa.grownBy w1 (Value.slice A3 m.accept.length k3).ownBlock)
    (hown : w1.ownsRow base 3 1 (.slice (some ⟨gg, 0, none⟩) (m.accept.length + 1) cap) (m.accept.length + 1) (accCells m.accept ++ accCell label)) (hat : (Value.slice A3 m.accept.length k3).ownBlock = some gg ∨ gg = z) (hz : w.heap.size ≤ z) :
    MvAt w1 base (fun b => S b ∨ b = gg) (m.state label) A1 k1 A2 k2 (some ⟨gg, 0, none⟩) cap ∧ Moves base S w (fun b => S b ∨ b = gg) w1 := by
  have hM : Moves base S w (fun b => S b ∨ b = gg) w1 := Moves.push h.lt hb ha hgrow h.in3.a (by rcases hat with h | h; exact .inl h; exact .inr (by omega))
  have e1 : (m.state label).accept.length = m.accept.length + 1 := by simp [MachS.state]
  have e2 : accCells (m.state label).accept = accCells m.accept ++ accCell label := accCells_snoc _ _
  refine ⟨⟨mv_lt h.lt hM.size (hown.lt gg rfl), ⟨row_stays h.rows.l ha (fun k hk => rows_apart h.rows.l h.rows.a (by decide) hk) hgrow, row_stays h.rows.e ha (fun k hk => rows_apart h.rows.e h.rows.a (by decide) hk) hgrow, by rw [e1, e2]; exact hown⟩, ⟨fun b hb => .inl (h.in3.l b hb), fun b hb => .inl (h.in3.e b hb), fun b hb => .inr (by simpa [Value.ownBlock] using hb.symm)⟩⟩, hM⟩
theorem mv_link {base gg cap z : Nat} {S : Nat → Prop} {m : MachS} {A1 A2 A3 : Option Addr} {k1 k2 k3 : Nat} {w wa w1 : World} {i j : Nat} (h : MvAt w base S m A1 k1 A2 k2 A3 k3) (hb : base ≤ w.heap.size) (ha : Below w.heap.size w wa) (hgrow : wa.grownBy w1 (Value.slice A1 m.links.length k1).ownBlock)
    (hown : w1.ownsRow base 50 2 (.slice (some ⟨gg, 0, none⟩) (m.links.length + 1) cap) (m.links.length + 1) (linkCells m.links ++ linkCell (i, j))) (hat : (Value.slice A1 m.links.length k1).ownBlock = some gg ∨ gg = z) (hz : w.heap.size ≤ z) :
    MvAt w1 base (fun b => S b ∨ b = gg) (m.link i j) (some ⟨gg, 0, none⟩) cap A2 k2 A3 k3 ∧ Moves base S w (fun b => S b ∨ b = gg) w1 := by
  have hM : Moves base S w (fun b => S b ∨ b = gg) w1 := Moves.push h.lt hb ha hgrow h.in3.l (by rcases hat with h | h; exact .inl h; exact .inr (by omega))
  have e1 : (m.link i j).links.length = m.links.length + 1 := by simp [MachS.link]
  have e2 : linkCells (m.link i j).links = linkCells m.links ++ linkCell (i, j) := linkCells_snoc _ _
  refine ⟨⟨mv_lt h.lt hM.size (hown.lt gg rfl), ⟨by rw [e1, e2]; exact hown, row_stays h.rows.e ha (fun k hk => rows_apart h.rows.e h.rows.l (by decide) hk) hgrow, row_stays h.rows.a ha (fun k hk => rows_apart h.rows.a h.rows.l (by decide) hk) hgrow⟩, ⟨fun b hb => .inr (by rw [e1] at hb; simpa [Value.ownBlock] using hb.symm), fun b hb => .inl (h.in3.e b hb), fun b hb => .inl (h.in3.a b hb)⟩⟩, hM⟩
theorem mv_edge {base gg cap z : Nat} {S : Nat → Prop} {m : MachS} {A1 A2 A3 : Option Addr} {k1 k2 k3 : Nat} {w wa w1 : World} {i s j : Nat} (h : MvAt w base S m A1 k1 A2 k2 A3 k3) (hb : base ≤ w.heap.size) (ha : Below w.heap.size w wa) (hgrow : wa.grownBy w1 (Value.slice A2 m.edges.length k2).ownBlock)
    (hown : w1.ownsRow base 62 6 (.slice (some ⟨gg, 0, none⟩) (m.edges.length + 1) cap) (m.edges.length + 1) (edgeCells m.edges ++ edgeCell (i, s, j))) (hat : (Value.slice A2 m.edges.length k2).ownBlock = some gg ∨ gg = z) (hz : w.heap.size ≤ z) :
    MvAt w1 base (fun b => S b ∨ b = gg) (m.edge i s j) A1 k1 (some ⟨gg, 0, none⟩) cap A3 k3 ∧ Moves base S w (fun b => S b ∨ b = gg) w1 := by
  have hM : Moves base S w (fun b => S b ∨ b = gg) w1 := Moves.push h.lt hb ha hgrow h.in3.e (by rcases hat with h | h; exact .inl h; exact .inr (by omega))
  have e1 : (m.edge i s j).edges.length = m.edges.length + 1 := by simp [MachS.edge]
  have e2 : edgeCells (m.edge i s j).edges = edgeCells m.edges ++ edgeCell (i, s, j) := edgeCells_snoc _ _
  refine ⟨⟨mv_lt h.lt hM.size (hown.lt gg rfl), ⟨row_stays h.rows.l ha (fun k hk => rows_apart h.rows.l h.rows.e (by decide) hk) hgrow, by rw [e1, e2]; exact hown, row_stays h.rows.a ha (fun k hk => rows_apart h.rows.a h.rows.e (by decide) hk) hgrow⟩, ⟨fun b hb => .inl (h.in3.l b hb), fun b hb => .inr (by rw [e1] at hb; simpa [Value.ownBlock] using hb.symm), fun b hb => .inl (h.in3.a b hb)⟩⟩, hM⟩
theorem heap_set5N {w : World} {g b : Nat} (hne : b ≠ g) (a0 a1 a2 a3 a4 : Value) : (((((w.setCell ⟨g, 0, none⟩ a0).setCell ⟨g, 1, none⟩ a1).setCell ⟨g, 2, none⟩ a2).setCell ⟨g, 3, none⟩ a3).setCell ⟨g, 4, none⟩ a4).heap[b]? = w.heap[b]? := by
  rw [Below.heap_setCell _ _ _ _ hne, Below.heap_setCell _ _ _ _ hne, Below.heap_setCell _ _ _ _ hne, Below.heap_setCell _ _ _ _ hne, Below.heap_setCell _ _ _ _ hne]
/-- Five stores to a block of one's own. -/
theorem MvAt.set5 {w : World} {base g : Nat} {S : Nat → Prop} {m : MachS} {A1 A2 A3 : Option Addr} {k1 k2 k3 : Nat} (h : MvAt w base S m A1 k1 A2 k2 A3 k3) (hp : ¬ S g) (a0 a1 a2 a3 a4 : Value) : MvAt (((((w.setCell ⟨g, 0, none⟩ a0).setCell ⟨g, 1, none⟩ a1).setCell ⟨g, 2, none⟩ a2).setCell ⟨g, 3, none⟩ a3).setCell ⟨g, 4, none⟩ a4) base S m A1 k1 A2 k2 A3 k3 :=
  h.keep (by simp [World.setCell]) (fun b hb => heap_set5N (show b ≠ g from fun e => hp (by rw [← e]; exact hb)) _ _ _ _ _)
theorem Moves.set5 {base g : Nat} {S S1 : Nat → Prop} {w w1 : World} (h : Moves base S w S1 w1) (hp : w.heap.size ≤ g) (hb : base ≤ w.heap.size) (a0 a1 a2 a3 a4 : Value) : Moves base S w S1 (((((w1.setCell ⟨g, 0, none⟩ a0).setCell ⟨g, 1, none⟩ a1).setCell ⟨g, 2, none⟩ a2).setCell ⟨g, 3, none⟩ a3).setCell ⟨g, 4, none⟩ a4) :=
  ((((h.set (p := ⟨g, 0, none⟩) hp hb _).set (p := ⟨g, 1, none⟩) hp hb _).set (p := ⟨g, 2, none⟩) hp hb _).set (p := ⟨g, 3, none⟩) hp hb _).set (p := ⟨g, 4, none⟩) hp hb _
theorem Blk.set5N {w : World} {g : Nat} {t : TypeId} {b0 b1 b2 b3 b4 : Value} (h : Blk w g t #[b0, b1, b2, b3, b4]) (a0 a1 a2 a3 a4 : Value) : Blk (((((w.setCell ⟨g, 0, none⟩ a0).setCell ⟨g, 1, none⟩ a1).setCell ⟨g, 2, none⟩ a2).setCell ⟨g, 3, none⟩ a3).setCell ⟨g, 4, none⟩ a4) g t #[a0, a1, a2, a3, a4] :=
  ((((h.set_ 0 a0).set_ 1 a1).set_ 2 a2).set_ 3 a3).set_ 4 a4
set_option maxHeartbeats 4000000 in
theorem rstate_go (base : Nat) (S : Nat → Prop) (m : MachS) (A1 : Option Addr) (k1 : Nat) (A2 : Option Addr) (k2 : Nat) (A3 : Option Addr) (k3 : Nat) (label : Nat) (w : World) (h : MvAt w base S m A1 k1 A2 k2 A3 k3) (hb : base ≤ w.heap.size) (hf : m.states ≤ 1000000000000) :
    Calls Tryz.prog 22 #[.agg (mvA m A1 k1 A2 k2 A3 k3), .int .i64 (label : Int)] w (MvOut base S w (m.state label)) := by
  obtain ⟨i0, hi, hz0, hz1, hz2⟩ := info_parts info_intN
  have HM := Lib.hid h
  have hlen : m.accept.length = m.states := rfl
  have h63 : m.accept.length + 1 ≤ maxLen := Nat.le_trans (by omega) (show 2000000000000 ≤ maxLen by decide)
  have hby : (m.accept.length + 1) * 8 ≤ 140737488355328 := by omega
  clear h hlen
  unfold mvA
  go_enter Tryz.func22, Tryz.ntmps22
  go_upto_region 2 with fail
  have hX := (Blk.new w 36 #[.int .i64 ((m.states : Int) + 1), .int .i64 0, .slice A1 m.links.length k1, .slice A2 m.edges.length k2, .slice A3 m.accept.length k3]).alloc (.cells #[.int .i64 0, .int .i64 0, .slice none 0 0, .slice none 0 0, .slice none 0 0] 36)
  have hZ : Blk ((w.alloc (.cells #[.int .i64 ((m.states : Int) + 1), .int .i64 0, .slice A1 m.links.length k1, .slice A2 m.edges.length k2, .slice A3 m.accept.length k3] 36)).alloc (.cells #[.int .i64 0, .int .i64 0, .slice none 0 0, .slice none 0 0, .slice none 0 0] 36)) (w.heap.size + 1) 36 _ := Blk.new_at (by simp)
  have hM2 := (HM.out.alloc (.cells #[.int .i64 ((m.states : Int) + 1), .int .i64 0, .slice A1 m.links.length k1, .slice A2 m.edges.length k2, .slice A3 m.accept.length k3] 36)).alloc (.cells #[.int .i64 0, .int .i64 0, .slice none 0 0, .slice none 0 0, .slice none 0 0] 36)
  have hV2 := ((Moves.refl base S w).alloc hb (.cells #[.int .i64 ((m.states : Int) + 1), .int .i64 0, .slice A1 m.links.length k1, .slice A2 m.edges.length k2, .slice A3 m.accept.length k3] 36)).alloc hb (.cells #[.int .i64 0, .int .i64 0, .slice none 0 0, .slice none 0 0, .slice none 0 0] 36)
  have hsz : ((w.alloc (.cells #[.int .i64 ((m.states : Int) + 1), .int .i64 0, .slice A1 m.links.length k1, .slice A2 m.edges.length k2, .slice A3 m.accept.length k3] 36)).alloc (.cells #[.int .i64 0, .int .i64 0, .slice none 0 0, .slice none 0 0, .slice none 0 0] 36)).heap.size = w.heap.size + 1 + 1 := by simp
  have hnS : ¬ S w.heap.size ∧ ¬ S (w.heap.size + 1) := ⟨fun h => by have := (HM.out.lt _ h).2; omega, fun h => by have := (HM.out.lt _ h).2; omega⟩
  generalize (w.alloc (.cells #[.int .i64 ((m.states : Int) + 1), .int .i64 0, .slice A1 m.links.length k1, .slice A2 m.edges.length k2, .slice A3 m.accept.length k3] 36)).alloc (.cells #[.int .i64 0, .int .i64 0, .slice none 0 0, .slice none 0 0, .slice none 0 0] 36) = w2 at *
  have x4 : w2.cell? ⟨w.heap.size, 4, none⟩ = some (.slice A3 m.accept.length k3) := hX.cell 4
  have f4 := hX.frozen 4
  have hlx := hX.lt
  have HM2 := Lib.hid hM2
  have HV2 := Lib.hid hV2
  have HX := Lib.hid hX
  have HZ := Lib.hid hZ
  have HNS := Lib.hid hnS
  have HSZ := Lib.hid hsz
  have hb2 : base ≤ w2.heap.size := by omega
  clear hX hZ hM2 hV2 hsz hnS
  go_wp2_with (at_builtin; refine wpList_append_lies _ rfl _ _ 34 rfl base 3 i0 _ 1 8 Tryz.underlying34 hi hz0 hz1 hz2 rfl (by decide) (.slice A3 m.accept.length k3) m.accept.length (accCells m.accept) rfl (HM2.out.rows.a.alloc _) ⟨w2.heap.size, 0, none⟩ 1 1 (accCell label) rfl rfl (World.news_of_block (cs := #[.int .i64 (label : Int)]) (t := 3) (fr := (0, 0)) (heap_alloc_new w2 _)) (by simp [accCell, Value.oneCell']) (by decide) h63 hby (by simp; omega) (w2.heap.size + 1) (by simp) ?_; intro gg cap' w3 hown1 hgrow hat hlt1; have hp := mv_acc (label := label) HM2.out hb2 ((Below.refl _ _).alloc (Nat.le_refl _) _) hgrow hown1 hat (by omega); have hX3 := Blk.grown (Blk.alloc HX.out _) hgrow (fun e => HNS.out.1 (HM2.out.in3.a _ e.symm)); have hZ3 := Blk.grown (Blk.alloc HZ.out _) hgrow (fun e => HNS.out.2 (HM2.out.in3.a _ e.symm)); have c0 := hX3.cell 0; have c1 := hX3.cell 1; have c2 := hX3.cell 2; have c3 := hX3.cell 3; have c4 := hX3.cell 4; have g4 := hX3.frozen 4; have d0 := hZ3.cell 0; have d1 := hZ3.cell 1; have d2 := hZ3.cell 2; have d3 := hZ3.cell 3; have d4 := hZ3.cell 4; have e0 := hZ3.frozen 0; have e1 := hZ3.frozen 1; have e2 := hZ3.frozen 2; have e3 := hZ3.frozen 3; have e4 := hZ3.frozen 4; have hltz := hZ3.lt; have HZ3 := Lib.hid hZ3; have HP := Lib.hid hp; have Hat := Lib.hid hat; have Hlt := Lib.hid hlt1; clear hX3 hZ3 hp hown1 hgrow hat hlt1)
  go_light
  have hgg : ¬ (S w.heap.size ∨ w.heap.size = gg) ∧ ¬ (S (w.heap.size + 1) ∨ w.heap.size + 1 = gg) := by
    have := HSZ.out
    rcases Hat.out with h | h
    · have h1 := HM2.out.in3.a _ h
      exact ⟨fun h2 => by
        rcases h2 with h2 | h2
        · exact HNS.out.1 h2
        · exact HNS.out.1 (h2 ▸ h1), fun h2 => by
        rcases h2 with h2 | h2
        · exact HNS.out.2 h2
        · exact HNS.out.2 (h2 ▸ h1)⟩
    · exact ⟨fun h2 => by
        rcases h2 with h2 | h2
        · exact HNS.out.1 h2
        · omega, fun h2 => by
        rcases h2 with h2 | h2
        · exact HNS.out.2 h2
        · omega⟩
  have hes : ((m.state label).states : Int) = (m.states : Int) + 1 := by simp [MachS.states, MachS.state]
  have hel : (m.state label).accept.length = m.accept.length + 1 := by simp [MachS.state]
  have hZ5 := (HZ3.out.far (p := ⟨w.heap.size, 4, none⟩) (by simp) (.slice (some ⟨gg, 0, none⟩) (m.accept.length + 1) cap')).set5N (.int .i64 ((m.states : Int) + 1)) (.int .i64 0) (.slice A1 m.links.length k1) (.slice A2 m.edges.length k2) (.slice (some ⟨gg, 0, none⟩) (m.accept.length + 1) cap')
  refine bodyPost_ret (ret_mach Tryz.results22 rfl hZ5) rfl ⟨A1, k1, A2, k2, some ⟨gg, 0, none⟩, cap', by rw [← hes, ← hel]; rfl, _, (HP.out.1.set (p := ⟨w.heap.size, 4, none⟩) hgg.1 _).set5 hgg.2 _ _ _ _ _, ?_⟩
  exact ((HV2.out.trans HP.out.2).set (p := ⟨w.heap.size, 4, none⟩) (Nat.le_refl _) hb _).set5 (by omega) hb _ _ _ _ _
set_option maxHeartbeats 4000000 in
theorem rlink_go (base : Nat) (S : Nat → Prop) (m : MachS) (A1 : Option Addr) (k1 : Nat) (A2 : Option Addr) (k2 : Nat) (A3 : Option Addr) (k3 : Nat) (x y : Nat) (w : World) (h : MvAt w base S m A1 k1 A2 k2 A3 k3) (hb : base ≤ w.heap.size) (hf : m.links.length ≤ 1000000000000) :
    Calls Tryz.prog 24 #[.agg (mvA m A1 k1 A2 k2 A3 k3), .int .i64 (x : Int), .int .i64 (y : Int)] w (MvOut base S w (m.link x y)) := by
  obtain ⟨i0, hi, hz0, hz1, hz2⟩ := info_parts info_linkN
  have HM := Lib.hid h
  have h63 : m.links.length + 1 ≤ maxLen := Nat.le_trans (by omega) (show 2000000000000 ≤ maxLen by decide)
  have hby : (m.links.length + 1) * 16 ≤ 140737488355328 := by omega
  clear h
  unfold mvA
  go_enter Tryz.func24, Tryz.ntmps24
  go_upto_region 1 with fail
  have hX := (Blk.new w 36 #[.int .i64 (m.states : Int), .int .i64 0, .slice A1 m.links.length k1, .slice A2 m.edges.length k2, .slice A3 m.accept.length k3]).alloc (.cells #[.int .i64 0, .int .i64 0, .slice none 0 0, .slice none 0 0, .slice none 0 0] 36)
  have hZ : Blk ((w.alloc (.cells #[.int .i64 (m.states : Int), .int .i64 0, .slice A1 m.links.length k1, .slice A2 m.edges.length k2, .slice A3 m.accept.length k3] 36)).alloc (.cells #[.int .i64 0, .int .i64 0, .slice none 0 0, .slice none 0 0, .slice none 0 0] 36)) (w.heap.size + 1) 36 _ := Blk.new_at (by simp)
  have hM2 := (HM.out.alloc (.cells #[.int .i64 (m.states : Int), .int .i64 0, .slice A1 m.links.length k1, .slice A2 m.edges.length k2, .slice A3 m.accept.length k3] 36)).alloc (.cells #[.int .i64 0, .int .i64 0, .slice none 0 0, .slice none 0 0, .slice none 0 0] 36)
  have hV2 := ((Moves.refl base S w).alloc hb (.cells #[.int .i64 (m.states : Int), .int .i64 0, .slice A1 m.links.length k1, .slice A2 m.edges.length k2, .slice A3 m.accept.length k3] 36)).alloc hb (.cells #[.int .i64 0, .int .i64 0, .slice none 0 0, .slice none 0 0, .slice none 0 0] 36)
  have hsz : ((w.alloc (.cells #[.int .i64 (m.states : Int), .int .i64 0, .slice A1 m.links.length k1, .slice A2 m.edges.length k2, .slice A3 m.accept.length k3] 36)).alloc (.cells #[.int .i64 0, .int .i64 0, .slice none 0 0, .slice none 0 0, .slice none 0 0] 36)).heap.size = w.heap.size + 1 + 1 := by simp
  have hnS : ¬ S w.heap.size ∧ ¬ S (w.heap.size + 1) := ⟨fun h => by have := (HM.out.lt _ h).2; omega, fun h => by have := (HM.out.lt _ h).2; omega⟩
  generalize (w.alloc (.cells #[.int .i64 (m.states : Int), .int .i64 0, .slice A1 m.links.length k1, .slice A2 m.edges.length k2, .slice A3 m.accept.length k3] 36)).alloc (.cells #[.int .i64 0, .int .i64 0, .slice none 0 0, .slice none 0 0, .slice none 0 0] 36) = w2 at *
  have x4 : w2.cell? ⟨w.heap.size, 2, none⟩ = some (.slice A1 m.links.length k1) := hX.cell 2
  have f4 := hX.frozen 2
  have hlx := hX.lt
  have HM2 := Lib.hid hM2
  have HV2 := Lib.hid hV2
  have HX := Lib.hid hX
  have HZ := Lib.hid hZ
  have HNS := Lib.hid hnS
  have HSZ := Lib.hid hsz
  have hb2 : base ≤ w2.heap.size := by omega
  clear hX hZ hM2 hV2 hsz hnS
  go_wp2_with (at_builtin; refine wpList_append_lies _ rfl _ _ 32 rfl base 50 i0 _ 2 16 Tryz.underlying32 hi hz0 hz1 hz2 rfl (by decide) (.slice A1 m.links.length k1) m.links.length (linkCells m.links) rfl (HM2.out.rows.l.alloc _) ⟨w2.heap.size, 0, none⟩ 1 1 (linkCell (x, y)) rfl rfl (World.news_of_block (cs := #[.int .i64 (x : Int), .int .i64 (y : Int)]) (t := 50) (fr := (0, 0)) (heap_alloc_new w2 _)) (by simp [linkCell, Value.oneCell']) (by decide) h63 hby (by simp; omega) (w2.heap.size + 1) (by simp) ?_; intro gg cap' w3 hown1 hgrow hat hlt1; have hp := mv_link (i := x) (j := y) HM2.out hb2 ((Below.refl _ _).alloc (Nat.le_refl _) _) hgrow hown1 hat (by omega); have hX3 := Blk.grown (Blk.alloc HX.out _) hgrow (fun e => HNS.out.1 (HM2.out.in3.l _ e.symm)); have hZ3 := Blk.grown (Blk.alloc HZ.out _) hgrow (fun e => HNS.out.2 (HM2.out.in3.l _ e.symm)); have c0 := hX3.cell 0; have c1 := hX3.cell 1; have c2 := hX3.cell 2; have c3 := hX3.cell 3; have c4 := hX3.cell 4; have g4 := hX3.frozen 2; have d0 := hZ3.cell 0; have d1 := hZ3.cell 1; have d2 := hZ3.cell 2; have d3 := hZ3.cell 3; have d4 := hZ3.cell 4; have e0 := hZ3.frozen 0; have e1 := hZ3.frozen 1; have e2 := hZ3.frozen 2; have e3 := hZ3.frozen 3; have e4 := hZ3.frozen 4; have hltz := hZ3.lt; have HZ3 := Lib.hid hZ3; have HP := Lib.hid hp; have Hat := Lib.hid hat; have Hlt := Lib.hid hlt1; clear hX3 hZ3 hp hown1 hgrow hat hlt1)
  go_light
  have hgg : ¬ (S w.heap.size ∨ w.heap.size = gg) ∧ ¬ (S (w.heap.size + 1) ∨ w.heap.size + 1 = gg) := by
    have := HSZ.out
    rcases Hat.out with h | h
    · have h1 := HM2.out.in3.l _ h
      exact ⟨fun h2 => by
        rcases h2 with h2 | h2
        · exact HNS.out.1 h2
        · exact HNS.out.1 (h2 ▸ h1), fun h2 => by
        rcases h2 with h2 | h2
        · exact HNS.out.2 h2
        · exact HNS.out.2 (h2 ▸ h1)⟩
    · exact ⟨fun h2 => by
        rcases h2 with h2 | h2
        · exact HNS.out.1 h2
        · omega, fun h2 => by
        rcases h2 with h2 | h2
        · exact HNS.out.2 h2
        · omega⟩
  have hel : (m.link x y).links.length = m.links.length + 1 := by simp [MachS.link]
  have hZ5 := (HZ3.out.far (p := ⟨w.heap.size, 2, none⟩) (by simp) (.slice (some ⟨gg, 0, none⟩) (m.links.length + 1) cap')).set5N (.int .i64 (m.states : Int)) (.int .i64 0) (.slice (some ⟨gg, 0, none⟩) (m.links.length + 1) cap') (.slice A2 m.edges.length k2) (.slice A3 m.accept.length k3)
  refine bodyPost_ret (ret_mach Tryz.results24 rfl hZ5) rfl ⟨some ⟨gg, 0, none⟩, cap', A2, k2, A3, k3, by rw [← hel]; rfl, _, (HP.out.1.set (p := ⟨w.heap.size, 2, none⟩) hgg.1 _).set5 hgg.2 _ _ _ _ _, ?_⟩
  exact ((HV2.out.trans HP.out.2).set (p := ⟨w.heap.size, 2, none⟩) (Nat.le_refl _) hb _).set5 (by omega) hb _ _ _ _ _
end Go.Proofs.YtchfipjclbpomaaGreat
