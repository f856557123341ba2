/-
  The contracts of the layer's state and link, and of an edge laid.
-/
import Derived.Test.YtchfipjclbpomaaGreatQNfaM
namespace Go.Proofs.YtchfipjclbpomaaGreat
open Go.RowKit
set_option linter.unusedSimpArgs false
set_option linter.unusedVariables false
set_option maxRecDepth 100000

theorem rows_apart {w : World} {b1 b2 s1 s2 k1 k2 : Nat} {e1 e2 : TypeId} {v1 v2 : Value} {x1 x2 : List Value} (h1 : w.ownsRow b1 e1 s1 v1 k1 x1) (h2 : w.ownsRow b2 e2 s2 v2 k2 x2) (he : e1 ≠ e2) {b : Nat} (hb : v1.ownBlock = some b) : v2.ownBlock ≠ some b := by
  intro hb2
  rcases h1.2 with ⟨rfl, _⟩ | ⟨g, cap, cur, rfl, _, hg, _⟩
  · simp [Value.ownBlock] at hb
  rcases h2.2 with ⟨rfl, _⟩ | ⟨g', cap', cur', rfl, _, hg', _⟩
  · simp [Value.ownBlock] at hb2
  obtain rfl : g = b := by simpa [Value.ownBlock] using hb
  obtain rfl : g' = g := by simpa [Value.ownBlock] using hb2
  rw [hg] at hg'
  simp at hg'
  exact he hg'.2
theorem info_intN : (Tryz.prog.info? 3).map (fun i => (i.zero, i.size, i.bytes)) = some (some (.int .i64 0), 1, 8) := by kernel_rfl
theorem info_linkN : (Tryz.prog.info? 50).map (fun i => (i.zero, i.size, i.bytes)) = some (some (.agg #[.int .i64 0, .int .i64 0]), 2, 16) := by kernel_rfl
theorem info_edgeN : (Tryz.prog.info? 62).map (fun i => (i.zero, i.size, i.bytes)) = some (some (.agg #[.int .i64 0, .int .u64 0, .int .u64 0, .int .u64 0, .int .u64 0, .int .i64 0]), 6, 48) := by kernel_rfl
/-- A store to a block of S. -/
theorem Moves.setS {base : Nat} {S S1 : Nat → Prop} {w w1 : World} (h : Moves base S w S1 w1) {p : Addr} (hp : S p.block) (hb : base ≤ p.block) (u : Value) : Moves base S w S1 (w1.setCell p u) :=
  ⟨h.below.setCell hb u, by have := h.size; simpa [World.setCell] using this, fun b hlt hn => (Below.heap_setCell w1 p u b (fun e => hn (e ▸ hp))).trans (h.kept b hlt hn), h.fresh⟩
theorem grown_size {w w' : World} {r : Option Nat} (h : w.grownBy w' r) : w.heap.size ≤ w'.heap.size := h.size
/-- An append to a row of the machine. -/
theorem Moves.push {base : Nat} {S : Nat → Prop} {w wa w1 : World} {v : Value} {gg : Nat} (hS : ∀ b, S b → base ≤ b ∧ b < w.heap.size) (hb : base ≤ w.heap.size) (ha : Below w.heap.size w wa) (hgrow : wa.grownBy w1 v.ownBlock) (hv : ∀ b, v.ownBlock = some b → S b) (hat : v.ownBlock = some gg ∨ w.heap.size ≤ gg) :
    Moves base S w (fun b => S b ∨ b = gg) w1 := by
  have hsz := ha.size
  have hs2 : wa.heap.size ≤ w1.heap.size := hgrow.size
  refine ⟨(ha.mono hb).grown hgrow (by omega) (fun k hk => (hS k (hv k hk)).1), by omega, fun b hlt hn => ?_, fun b hb => ?_⟩
  · exact (hgrow.block b (by omega) (fun e => hn (hv b e.symm))).trans (ha.block b hlt)
  · rcases hb with h | rfl
    · exact .inl h
    · rcases hat with h | h
      · exact .inl (hv _ h)
      · exact .inr h
theorem Blk.set5 {w : World} {g i : Nat} {t : TypeId} {cs : Array Value} (h : Blk w g t cs) (u : Value) {cs' : Array Value} (he : cs.setIfInBounds i u = cs') : Blk (w.setCell ⟨g, i, none⟩ u) g t cs' := by
  have := h.set_ i u
  rw [he] at this
  exact this
theorem other_row {w w1 : World} {base size k : Nat} {e : TypeId} {v : Value} {xs : List Value} {r : Option Nat} {o : Obj} (hr : w.ownsRow base e size v k xs) (hne : ∀ k, v.ownBlock = some k → r ≠ some k) (hg : ∀ k, k < (w.alloc o).heap.size → some k ≠ r → w1.heap[k]? = (w.alloc o).heap[k]?) : w1.ownsRow base e size v k xs :=
  ownsRow_block hr (fun k hk => (hg k (by have := (hr.lt k hk).2; simp; omega) (fun e => hne k hk e.symm)).trans (Below.heap_alloc w o k (hr.lt k hk).2))
theorem push_acc {base g gg cap label : Nat} {S : Nat → Prop} {m : MachS} {w w1 : World} {L E A : Value} {o : Obj} (hH : (∀ b, S b → base ≤ b ∧ b < w.heap.size) ∧ S g ∧ In3 S L E A) (hb : base ≤ w.heap.size) (hR : RowsM w base m L E A) (hG : Blk w g 53 #[.int .i64 (m.states : Int), .int .i64 0, L, E, A])
    (hG1 : Blk w1 g 53 #[.int .i64 (m.states : Int), .int .i64 0, L, E, A]) (hgrow : (w.alloc o).grownBy w1 A.ownBlock)
    (hown : w1.ownsRow base 3 1 (.slice (some ⟨gg, 0, none⟩) (m.accept.length + 1) cap) (m.accept.length + 1) (accCells m.accept ++ accCell label)) (hat : A.ownBlock = some gg ∨ gg = w.heap.size + 1) :
    LayAt ((w1.setCell ⟨g, 4, none⟩ (.slice (some ⟨gg, 0, none⟩) (m.accept.length + 1) cap)).setCell ⟨g, 0, none⟩ (.int .i64 ((m.states : Int) + 1))) base g (fun b => S b ∨ b = gg) (m.state label) ∧
    Moves base S w (fun b => S b ∨ b = gg) ((w1.setCell ⟨g, 4, none⟩ (.slice (some ⟨gg, 0, none⟩) (m.accept.length + 1) cap)).setCell ⟨g, 0, none⟩ (.int .i64 ((m.states : Int) + 1))) := by
  obtain ⟨h0, hg, h3⟩ := hH
  have hne := blk_not_row hG1 (by decide) hown
  have hneL := blk_not_row hG (by decide) hR.l
  have hneE := blk_not_row hG (by decide) hR.e
  have hlg := hown.lt gg rfl
  have hM : Moves base S w (fun b => S b ∨ b = gg) w1 := Moves.push h0 hb ((Below.refl _ _).alloc (Nat.le_refl _) o) hgrow h3.a (by rcases hat with h | h; exact .inl h; exact .inr (by omega))
  have hsz : w.heap.size ≤ w1.heap.size := hM.size
  refine ⟨⟨fun b hb => ?_, .inl hg, L, E, .slice (some ⟨gg, 0, none⟩) (m.accept.length + 1) cap, ?_, ⟨own_set (own_set (other_row hR.l (fun k hk => rows_apart hR.l hR.a (by decide) hk) hgrow.block) hneL) hneL, own_set (own_set (other_row hR.e (fun k hk => rows_apart hR.e hR.a (by decide) hk) hgrow.block) hneE) hneE, ?_⟩, ⟨fun b h => .inl (h3.l b h), fun b h => .inl (h3.e b h), fun b h => .inr ?_⟩⟩, (hM.setS (p := ⟨g, 4, none⟩) hg (h0 g hg).1 _).setS (p := ⟨g, 0, none⟩) hg (h0 g hg).1 _⟩
  · simp only [World.setCell, Array.size_modify]
    rcases hb with h | rfl
    · exact ⟨(h0 b h).1, by have := (h0 b h).2; omega⟩
    · exact hlg
  · have := (hG1.set_ 4 (.slice (some ⟨gg, 0, none⟩) (m.accept.length + 1) cap)).set_ 0 (.int .i64 ((m.states : Int) + 1))
    have e : (((m.state label).states : Nat) : Int) = (m.states : Int) + 1 := by simp [MachS.states, MachS.state]
    rw [e]
    exact this
  · have e1 : (m.state label).accept.length = m.accept.length + 1 := by simp [MachS.state]
    have e2 : accCells (m.state label).accept = accCells m.accept ++ accCell label := accCells_snoc _ _
    rw [e1, e2]
    exact own_set (own_set hown hne) hne
  · simpa [Value.ownBlock] using h.symm
theorem push_link {base g gg cap a b' : Nat} {S : Nat → Prop} {m : MachS} {w w1 : World} {L E A : Value} {o : Obj} (hH : (∀ b, S b → base ≤ b ∧ b < w.heap.size) ∧ S g ∧ In3 S L E A) (hb : base ≤ w.heap.size) (hR : RowsM w base m L E A) (hG : Blk w g 53 #[.int .i64 (m.states : Int), .int .i64 0, L, E, A])
    (hG1 : Blk w1 g 53 #[.int .i64 (m.states : Int), .int .i64 0, L, E, A]) (hgrow : (w.alloc o).grownBy w1 L.ownBlock)
    (hown : w1.ownsRow base 50 2 (.slice (some ⟨gg, 0, none⟩) (m.links.length + 1) cap) (m.links.length + 1) (linkCells m.links ++ linkCell (a, b'))) (hat : L.ownBlock = some gg ∨ gg = w.heap.size + 1) :
    LayAt (w1.setCell ⟨g, 2, none⟩ (.slice (some ⟨gg, 0, none⟩) (m.links.length + 1) cap)) base g (fun b => S b ∨ b = gg) (m.link a b') ∧
    Moves base S w (fun b => S b ∨ b = gg) (w1.setCell ⟨g, 2, none⟩ (.slice (some ⟨gg, 0, none⟩) (m.links.length + 1) cap)) := by
  obtain ⟨h0, hg, h3⟩ := hH
  have hne := blk_not_row hG1 (by decide) hown
  have hneA := blk_not_row hG (by decide) hR.a
  have hneE := blk_not_row hG (by decide) hR.e
  have hlg := hown.lt gg rfl
  have hM : Moves base S w (fun b => S b ∨ b = gg) w1 := Moves.push h0 hb ((Below.refl _ _).alloc (Nat.le_refl _) o) hgrow h3.l (by rcases hat with h | h; exact .inl h; exact .inr (by omega))
  have hsz : w.heap.size ≤ w1.heap.size := hM.size
  refine ⟨⟨fun b hb => ?_, .inl hg, .slice (some ⟨gg, 0, none⟩) (m.links.length + 1) cap, E, A, hG1.set_ 2 _, ⟨?_, own_set (other_row hR.e (fun k hk => rows_apart hR.e hR.l (by decide) hk) hgrow.block) hneE, own_set (other_row hR.a (fun k hk => rows_apart hR.a hR.l (by decide) hk) hgrow.block) hneA⟩, ⟨fun b h => .inr ?_, fun b h => .inl (h3.e b h), fun b h => .inl (h3.a b h)⟩⟩, hM.setS (p := ⟨g, 2, none⟩) hg (h0 g hg).1 _⟩
  · simp only [World.setCell, Array.size_modify]
    rcases hb with h | rfl
    · exact ⟨(h0 b h).1, by have := (h0 b h).2; omega⟩
    · exact hlg
  · have e1 : (m.link a b').links.length = m.links.length + 1 := by simp [MachS.link]
    have e2 : linkCells (m.link a b').links = linkCells m.links ++ linkCell (a, b') := linkCells_snoc _ _
    rw [e1, e2]
    exact own_set hown hne
  · simpa [Value.ownBlock] using h.symm
theorem push_edge {base g gg cap a s b' z : Nat} {S : Nat → Prop} {m : MachS} {w w1 : World} {L E A : Value} {o : Obj} (hH : (∀ b, S b → base ≤ b ∧ b < w.heap.size) ∧ S g ∧ In3 S L E A) (hb : base ≤ w.heap.size) (hR : RowsM w base m L E A) (hG : Blk w g 53 #[.int .i64 (m.states : Int), .int .i64 0, L, E, A])
    (hG1 : Blk w1 g 53 #[.int .i64 (m.states : Int), .int .i64 0, L, E, A]) (hgrow : (w.alloc o).drew.grownBy w1 E.ownBlock)
    (hown : w1.ownsRow base 62 6 (.slice (some ⟨gg, 0, none⟩) (m.edges.length + 1) cap) (m.edges.length + 1) (edgeCells m.edges ++ edgeCell (a, s, b'))) (hz : z = w.heap.size + 1) (hat : E.ownBlock = some gg ∨ gg = z) :
    LayAt (w1.setCell ⟨g, 3, none⟩ (.slice (some ⟨gg, 0, none⟩) (m.edges.length + 1) cap)) base g (fun b => S b ∨ b = gg) (m.edge a s b') ∧
    Moves base S w (fun b => S b ∨ b = gg) (w1.setCell ⟨g, 3, none⟩ (.slice (some ⟨gg, 0, none⟩) (m.edges.length + 1) cap)) := by
  obtain ⟨h0, hg, h3⟩ := hH
  have hne := blk_not_row hG1 (by decide) hown
  have hneA := blk_not_row hG (by decide) hR.a
  have hneL := blk_not_row hG (by decide) hR.l
  have hlg := hown.lt gg rfl
  have hM : Moves base S w (fun b => S b ∨ b = gg) w1 := Moves.push h0 hb ((Below.refl _ _).alloc (Nat.le_refl _) o).drew hgrow h3.e (by rcases hat with h | h; exact .inl h; exact .inr (by omega))
  have hsz : w.heap.size ≤ w1.heap.size := hM.size
  refine ⟨⟨fun b hb => ?_, .inl hg, L, .slice (some ⟨gg, 0, none⟩) (m.edges.length + 1) cap, A, hG1.set_ 3 _, ⟨own_set (other_row hR.l (fun k hk => rows_apart hR.l hR.e (by decide) hk) hgrow.block) hneL, ?_, own_set (other_row hR.a (fun k hk => rows_apart hR.a hR.e (by decide) hk) hgrow.block) hneA⟩, ⟨fun b h => .inl (h3.l b h), fun b h => .inr ?_, fun b h => .inl (h3.a b h)⟩⟩, hM.setS (p := ⟨g, 3, none⟩) hg (h0 g hg).1 _⟩
  · simp only [World.setCell, Array.size_modify]
    rcases hb with h | rfl
    · exact ⟨(h0 b h).1, by have := (h0 b h).2; omega⟩
    · exact hlg
  · have e1 : (m.edge a s b').edges.length = m.edges.length + 1 := by simp [MachS.edge]
    have e2 : edgeCells (m.edge a s b').edges = edgeCells m.edges ++ edgeCell (a, s, b') := edgeCells_snoc _ _
    rw [e1, e2]
    exact own_set hown hne
  · simpa [Value.ownBlock] using h.symm
set_option maxHeartbeats 2000000 in
theorem lstate_go (base g : Nat) (S : Nat → Prop) (m : MachS) (label : Nat) (w : World) (h : LayAt w base g S m) (hb : base ≤ w.heap.size) (hf : m.states ≤ 1000000000000) :
    Calls Tryz.prog 19 #[.pointer (some ⟨g, 0, none⟩), .int .i64 (label : Int)] w fun e w' => e = .returned (.int .i64 (m.states : Int)) ∧ ∃ S', LayAt w' base g S' (m.state label) ∧ Moves base S w S' w' := by
  obtain ⟨i0, hi, hz0, hz1, hz2⟩ := info_parts info_intN
  obtain ⟨h0, hg, L, E, A, hG, hR, h3⟩ := h
  have s0 := hG.cell 0
  have s4 := hG.cell 4
  have f0 := hG.frozen 0
  have f4 := hG.frozen 4
  have hlt := Blk.lt hG
  have HG := Lib.hid hG
  have HR := Lib.hid hR
  have HH := Lib.hid (show _ ∧ _ ∧ _ from ⟨h0, hg, h3⟩)
  have hneG := blk_not_row hG (by decide) hR.a
  have HneG := Lib.hid hneG
  have hlen : m.accept.length = m.states := rfl
  have h63 : m.accept.length + 1 ≤ maxLen := Nat.le_trans (by omega) (show 2000000000000 ≤ maxLen by decide)
  have hby : (m.accept.length + 1) * 8 ≤ 140737488355328 := by omega
  clear hG hR hneG h0 h3 hlen
  go_enter Tryz.func19, Tryz.ntmps19
  go_wp2_with (at_builtin; refine wpList_append_lies _ rfl _ _ 34 rfl base 3 i0 _ 1 8 Tryz.underlying34 hi hz0 hz1 hz2 rfl (by decide) A m.accept.length (accCells m.accept) rfl (HR.out.a.alloc _) ⟨w.heap.size, 0, none⟩ 1 1 (accCell label) rfl rfl (World.news_of_block (cs := #[.int .i64 (label : Int)]) (t := 3) (fr := (0, 0)) (heap_alloc_new w _)) (by simp [accCell, Value.oneCell']) (by decide) h63 hby (by simp; omega) (w.heap.size + 1) (by simp) ?_; intro gg cap' w1 hown1 hgrow hat hlt1; have hG1 := Blk.grown (Blk.alloc HG.out _) hgrow HneG.out; have c0 := hG1.cell 0; have c4 := hG1.cell 4; have d0 := hG1.frozen 0; have d4 := hG1.frozen 4; have HG1 := Lib.hid hG1; have Hgrow := Lib.hid hgrow; have Hown1 := Lib.hid hown1; have Hat := Lib.hid hat; clear hG1 hgrow hown1 hat)
  go_light
  go_ret
  exact ⟨rfl, _, push_acc HH.out hb HR.out HG.out HG1.out Hgrow.out Hown1.out Hat.out⟩
set_option maxHeartbeats 2000000 in
theorem llink_go (base g : Nat) (S : Nat → Prop) (m : MachS) (i j : Nat) (w : World) (h : LayAt w base g S m) (hb : base ≤ w.heap.size) (hf : m.links.length ≤ 1000000000000) :
    Calls Tryz.prog 21 #[.pointer (some ⟨g, 0, none⟩), .int .i64 (i : Int), .int .i64 (j : Int)] w fun e w' => e = .returned (.tuple #[]) ∧ ∃ S', LayAt w' base g S' (m.link i j) ∧ Moves base S w S' w' := by
  obtain ⟨i0, hi, hz0, hz1, hz2⟩ := info_parts info_linkN
  obtain ⟨h0, hg, L, E, A, hG, hR, h3⟩ := h
  have s2 := hG.cell 2
  have f2 := hG.frozen 2
  have hlt := Blk.lt hG
  have HG := Lib.hid hG
  have HR := Lib.hid hR
  have HH := Lib.hid (show _ ∧ _ ∧ _ from ⟨h0, hg, h3⟩)
  have hneG := blk_not_row hG (by decide) hR.l
  have HneG := Lib.hid hneG
  have h63 : m.links.length + 1 ≤ maxLen := Nat.le_trans (by omega) (show 2000000000000 ≤ maxLen by decide)
  have hby : (m.links.length + 1) * 16 ≤ 140737488355328 := by omega
  clear hG hR hneG h0 h3
  go_enter Tryz.func21, Tryz.ntmps21
  go_wp2_with (at_builtin; refine wpList_append_lies _ rfl _ _ 32 rfl base 50 i0 _ 2 16 Tryz.underlying32 hi hz0 hz1 hz2 rfl (by decide) L m.links.length (linkCells m.links) rfl (HR.out.l.alloc _) ⟨w.heap.size, 0, none⟩ 1 1 (linkCell (i, j)) rfl rfl (World.news_of_block (cs := #[.int .i64 (i : Int), .int .i64 (j : Int)]) (t := 50) (fr := (0, 0)) (heap_alloc_new w _)) (by simp [linkCell, Value.oneCell']) (by decide) h63 hby (by simp; omega) (w.heap.size + 1) (by simp) ?_; intro gg cap' w1 hown1 hgrow hat hlt1; have hG1 := Blk.grown (Blk.alloc HG.out _) hgrow HneG.out; have c2 := hG1.cell 2; have d2 := hG1.frozen 2; have HG1 := Lib.hid hG1; have Hgrow := Lib.hid hgrow; have Hown1 := Lib.hid hown1; have Hat := Lib.hid hat; clear hG1 hgrow hown1 hat)
  go_light
  go_end0
  exact ⟨rfl, _, push_link HH.out hb HR.out HG.out HG1.out Hgrow.out Hown1.out Hat.out⟩
end Go.Proofs.YtchfipjclbpomaaGreat
