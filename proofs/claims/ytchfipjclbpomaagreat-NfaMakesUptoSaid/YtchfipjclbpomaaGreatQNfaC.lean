/-
  The contracts of the layer's plain, cat, loop and opt, their kids' being known.
-/
import Derived.Test.YtchfipjclbpomaaGreatQNfaL
namespace Go.Proofs.YtchfipjclbpomaaGreat
open Go.RowKit
set_option linter.unusedSimpArgs false
set_option linter.unusedVariables false
set_option maxRecDepth 100000

/-- What is laid fits. -/
def FitsM (m : MachS) : Prop := m.states ≤ 1000000000000 ∧ m.links.length ≤ 1000000000000 ∧ m.edges.length ≤ 1000000000000
def ExtM (m m' : MachS) : Prop := m.states ≤ m'.states ∧ m.links.length ≤ m'.links.length ∧ m.edges.length ≤ m'.edges.length
theorem FitsM.of {m m' : MachS} (h : FitsM m') (he : ExtM m m') : FitsM m := ⟨Nat.le_trans he.1 h.1, Nat.le_trans he.2.1 h.2.1, Nat.le_trans he.2.2 h.2.2⟩
theorem ExtM.refl (m : MachS) : ExtM m m := ⟨Nat.le_refl _, Nat.le_refl _, Nat.le_refl _⟩
theorem ExtM.trans {a b c : MachS} (h : ExtM a b) (h' : ExtM b c) : ExtM a c := ⟨Nat.le_trans h.1 h'.1, Nat.le_trans h.2.1 h'.2.1, Nat.le_trans h.2.2 h'.2.2⟩
theorem ExtM.state (m : MachS) (a : Nat) : ExtM m (m.state a) := ⟨by simp [MachS.states, MachS.state], Nat.le_refl _, Nat.le_refl _⟩
theorem ExtM.link (m : MachS) (a b : Nat) : ExtM m (m.link a b) := ⟨Nat.le_refl _, by simp [MachS.link], Nat.le_refl _⟩
theorem ExtM.edge (m : MachS) (a s b : Nat) : ExtM m (m.edge a s b) := ⟨Nat.le_refl _, Nat.le_refl _, by simp [MachS.edge]⟩
def GrowsF (f : LayF) : Prop := ∀ m i, ExtM m (f m i).1
theorem AddsF.grows {f : LayF} {n c : Nat} (h : AddsF f n c) : GrowsF f := fun m i => by
  obtain ⟨L, E, h0, _⟩ := h m i
  rw [h0]
  exact ⟨by simp [MachS.states], by simp, by simp⟩
theorem catF_snoc (f : LayF) : ∀ (l : List LayF) (m : MachS) (i : Nat), catF (l ++ [f]) m i = f (catF l m i).1 (catF l m i).2
  | [], m, i => rfl
  | g :: l, m, i => by simp only [List.cons_append, catF]; exact catF_snoc f l _ _
theorem catF_app (a : List LayF) : ∀ (b : List LayF) (m : MachS) (i : Nat), catF (a ++ b) m i = catF b (catF a m i).1 (catF a m i).2 := by
  induction a with
  | nil => intros; rfl
  | cons f a ih => intro b m i; simp only [List.cons_append, catF]; exact ih b _ _
theorem catF_grows : ∀ (l : List LayF), (∀ f ∈ l, GrowsF f) → GrowsF (catF l)
  | [], _ => fun m i => ExtM.refl m
  | f :: l, h => fun m i => (h f (by simp) m i).trans (catF_grows l (fun g hg => h g (by simp [hg])) _ _)
theorem catF_part {l : List LayF} (h : ∀ f ∈ l, GrowsF f) (k : Nat) (m : MachS) (i : Nat) : ExtM (catF (l.take k) m i).1 (catF l m i).1 := by
  conv => rhs; rw [← List.take_append_drop k l, catF_app]
  exact catF_grows _ (fun f hf => h f (List.mem_of_mem_drop hf)) _ _
theorem take_snocF {α : Type} {l : List α} {k : Nat} {x : α} (h : l[k]? = some x) : l.take (k + 1) = l.take k ++ [x] := by
  obtain ⟨hk, rfl⟩ := List.getElem?_eq_some_iff.1 h
  rw [List.take_succ_eq_append_getElem hk]

/-- How a call of laying ends. -/
def LayOut (base g : Nat) (S : Nat → Prop) (w : World) (r : MachS × Nat) (e : Ending) (w' : World) : Prop :=
  e = .returned (.int .i64 (r.2 : Int)) ∧ ∃ S', LayAt w' base g S' r.1 ∧ Moves base S w S' w'
/-- The contract of laying a tree. -/
def LayC (x : Nd) : Prop := ∀ (B : Option Addr) (cap i base g : Nat) (S : Nat → Prop) (m : MachS) (w : World), TreesAt w (fun b => b < base) x.kids B → LayAt w base g S m → base ≤ w.heap.size → FitsM (x.lay m i).1 →
  Calls Tryz.prog 20 #[.pointer (some ⟨g, 0, none⟩), ndV x B cap, .int .i64 (i : Int)] w (LayOut base g S w (x.lay m i))
/-- What is known of a node's kids. -/
structure KidsC (F : Trees) : Prop where
  lay : ∀ z ∈ F.list, LayC z
  grows : ∀ f ∈ F.lays, GrowsF f
theorem KidsC.get {F : Trees} (h : KidsC F) {k : Nat} {z : Nd} (hz : F.list[k]? = some z) : LayC z := h.lay z (List.mem_of_getElem? hz)
theorem lays_get {F : Trees} {k : Nat} {z : Nd} (hz : F.list[k]? = some z) : F.lays[k]? = some z.lay := by rw [Trees.lays_list, List.getElem?_map, hz]; rfl
theorem lays_len (F : Trees) : F.lays.length = F.len := by rw [Trees.lays_list, List.length_map, Trees.len_list]

set_option maxHeartbeats 2000000 in
theorem lcat_go (x : Nd) (hK : KidsC x.kids) (B : Option Addr) (cap i base g : Nat) (S : Nat → Prop) (m : MachS) (w : World) (ht : TreesAt w (fun b => b < base) x.kids B) (h : LayAt w base g S m) (hb : base ≤ w.heap.size) (hf : FitsM (catF x.kids.lays m i).1) (hl : x.kids.len ≤ 140737488355328) :
    Calls Tryz.prog 39 #[.pointer (some ⟨g, 0, none⟩), ndV x B cap, .int .i64 (i : Int)] w (LayOut base g S w (catF x.kids.lays m i)) := by
  have HT := Lib.hid ht
  have HK := Lib.hid hK
  have HF := Lib.hid hf
  have HM0 := Lib.hid (show ∃ S', LayAt (w.alloc (.cells (ndA x B cap) 29)) base g S' m ∧ Moves base S w S' (w.alloc (.cells (ndA x B cap) 29)) from ⟨S, h.alloc _, (Moves.refl base S w).alloc hb _⟩)
  have hsz : w.heap.size ≤ (w.alloc (.cells (ndA x B cap) 29)).heap.size := by simp
  clear ht hK hf h
  unfold ndV
  unfold ndA at HM0 hsz
  go_enter Tryz.func39, Tryz.ntmps39
  go_wp2
  go_loopw [2, 12] (fun v i' wr => ∃ k : Nat, i' = .int .i64 (k : Int) ∧ k ≤ x.kids.len ∧ v = .int .i64 ((((catF (x.kids.lays.take k) m i).2 : Nat)) : Int) ∧ Hid (∃ S', LayAt wr base g S' (catF (x.kids.lays.take k) m i).1 ∧ Moves base S w S' wr)) (fun _ i' _ => x.kids.len - (intOf i').toNat)
  case atStart => exact ⟨0, rfl, Nat.zero_le _, rfl, HM0⟩
  case round =>
    obtain ⟨k, rfl, hk, rfl, HM⟩ := hrel
    by_cases hlt : k < x.kids.len
    · obtain ⟨z, hz⟩ : ∃ z, x.kids.list[k]? = some z := ⟨_, List.getElem?_eq_getElem (by rw [Trees.len_list]; exact hlt)⟩
      obtain ⟨S1, hL1, hM1⟩ := HM.out
      obtain ⟨b, o, C, capc, rfl, hbb, _, ⟨c0, c1, c2, c3, c4, c5, c6, c7⟩, hkz⟩ := (HT.out.moves hM1).get hz
      have hdl : (k : Int) < (x.kids.len : Int) := by omega
      have hbr : base ≤ wr.heap.size := by have := hM1.size; omega
      have hblk := World.block_lt_of_cell? wr _ c0
      have hts := take_snocF (lays_get hz)
      have hfit : FitsM (z.lay (catF (x.kids.lays.take k) m i).1 (catF (x.kids.lays.take k) m i).2).1 := by
        have := HF.out.of (catF_part HK.out.grows (k + 1) m i)
        rw [hts, catF_snoc] at this
        exact this
      have hbA : Below wr.heap.size wr (wr.alloc (.cells (ndA z C capc) 29)) := (Below.refl _ _).alloc (Nat.le_refl _) _
      have HI := Lib.hid (HK.out.get hz C capc (catF (x.kids.lays.take k) m i).2 base g S1 (catF (x.kids.lays.take k) m i).1 (wr.alloc (.cells (ndA z C capc) 29)) (hkz.below hbA) (hL1.alloc _) (by simp; omega) hfit)
      have HM2 := Lib.hid (hM1.alloc hb (.cells (ndA z C capc) 29))
      have HS := Lib.hid (show catF (x.kids.lays.take (k + 1)) m i = z.lay (catF (x.kids.lays.take k) m i).1 (catF (x.kids.lays.take k) m i).2 by rw [hts, catF_snoc])
      clear hz hkz hbA hts hfit hL1 hM1 HM hsz
      unfold ndV at HI
      unfold ndA at HM2
      generalize (catF (x.kids.lays.take k) m i).2 = at1 at *
      go_wp2_with fail
      refine HI.out.mono ?_
      rintro e w3 ⟨rfl, hlay⟩
      have HL3 := Lib.hid hlay
      clear hlay HI c0 c1 c2 c3 c4 c5 c6 c7 hbb hblk
      dsimp only
      go_wp2
      go_roundw
      case rel =>
        refine ⟨k + 1, by go_num, by omega, by rw [HS.out], Lib.hid ?_⟩
        rw [HS.out]
        obtain ⟨S3, h1, h2⟩ := HL3.out
        exact ⟨S3, h1, HM2.out.trans h2⟩
      case measure => simp [intOf]; omega
    · obtain rfl : k = x.kids.len := by omega
      have hdl : ¬ ((x.kids.len : Int) < (x.kids.len : Int)) := by omega
      have HV := Lib.hid (show x.kids.lays.take x.kids.len = x.kids.lays by rw [← lays_len, List.take_length])
      rw [HV.out] at HM ⊢
      go_wp2
      go_light
      go_ret
      exact ⟨rfl, HM.out⟩

/-! What has no kids. -/
theorem LayOut.alloc_first {base g : Nat} {S : Nat → Prop} {w : World} {o : Obj} {r : MachS × Nat} {e : Ending} {w' : World} (hb : base ≤ w.heap.size) (h : LayOut base g S (w.alloc o) r e w') : LayOut base g S w r e w' := by
  obtain ⟨he, S', h1, h2⟩ := h
  exact ⟨he, S', h1, ((Moves.refl base S w).alloc hb o).trans h2⟩
set_option maxHeartbeats 2000000 in
theorem lplain_empty (x : Nd) (hk : x.kind = 2) (B : Option Addr) (cap i base g : Nat) (S : Nat → Prop) (m : MachS) (w : World) (h : LayAt w base g S m) (hb : base ≤ w.heap.size) :
    Calls Tryz.prog 38 #[.pointer (some ⟨g, 0, none⟩), ndV x B cap, .int .i64 (i : Int)] w (LayOut base g S w (noF m i)) := by
  have HM0 := Lib.hid (show ∃ S', LayAt (w.alloc (.cells (ndA x B cap) 29)) base g S' m ∧ Moves base S w S' (w.alloc (.cells (ndA x B cap) 29)) from ⟨S, h.alloc _, (Moves.refl base S w).alloc hb _⟩)
  clear h
  unfold ndV
  unfold ndA at HM0
  rw [hk] at *
  clear hk
  go_enter Tryz.func38, Tryz.ntmps38
  go_wp2
  go_light
  go_ret
  exact ⟨rfl, HM0.out⟩
set_option maxHeartbeats 2000000 in
theorem lplain_none (x : Nd) (hk : x.kind = 1) (B : Option Addr) (cap i base g : Nat) (S : Nat → Prop) (m : MachS) (w : World) (h : LayAt w base g S m) (hb : base ≤ w.heap.size) (hf : FitsM (nilF m i).1) :
    Calls Tryz.prog 38 #[.pointer (some ⟨g, 0, none⟩), ndV x B cap, .int .i64 (i : Int)] w (LayOut base g S w (nilF m i)) := by
  have HC := Lib.hid (lstate_go base g S m 0 _ (h.alloc (.cells (ndA x B cap) 29)) (by simp; omega) (hf.of (ExtM.state m 0)).1)
  have HB := Lib.hid hb
  clear h hf
  unfold ndV
  unfold ndA at HC
  rw [hk] at *
  clear hk
  go_enter Tryz.func38, Tryz.ntmps38
  go_wp2_with fail
  refine HC.out.mono ?_
  rintro e w2 ⟨rfl, hl⟩
  have HL := Lib.hid hl
  clear hl HC
  dsimp only
  go_wp2
  go_light
  go_ret
  exact LayOut.alloc_first HB.out ⟨rfl, HL.out⟩
set_option maxHeartbeats 4000000 in
theorem lplain_set (x : Nd) (hk : x.kind = 3) (B : Option Addr) (cap i base g : Nat) (S : Nat → Prop) (m : MachS) (w : World) (h : LayAt w base g S m) (hb : base ≤ w.heap.size) (hf : FitsM (setF x.set m i).1) :
    Calls Tryz.prog 38 #[.pointer (some ⟨g, 0, none⟩), ndV x B cap, .int .i64 (i : Int)] w (LayOut base g S w (setF x.set m i)) := by
  have hf1 := hf.of (ExtM.edge (m.state 0) i x.set m.states)
  have hfe : m.edges.length ≤ 1000000000000 := hf1.2.2
  have HC := Lib.hid (lstate_go base g S m 0 _ (h.alloc (.cells (ndA x B cap) 29)) (by simp; omega) (hf1.of (ExtM.state m 0)).1)
  have HB := Lib.hid hb
  have HX := Lib.hid (show Blk _ w.heap.size 29 (ndA x B cap) ∧ ¬ S w.heap.size from ⟨Blk.new w 29 (ndA x B cap), h.not (Nat.le_refl _)⟩)
  clear h hf hf1
  unfold ndV
  unfold ndA at HC HX
  rw [hk] at *
  clear hk
  go_enter Tryz.func38, Tryz.ntmps38
  go_wp2_with fail
  refine HC.out.mono ?_
  rintro e w2 ⟨rfl, S2, hL2, hM2⟩
  obtain ⟨i0, hi, hz0, hz1, hz2⟩ := info_parts info_edgeN
  obtain ⟨h0, hg, L, E, A, hG, hR, h3⟩ := hL2
  have hX2 := HX.out.1.moves hM2 HX.out.2
  have x1 : w2.cell? ⟨w.heap.size, 1, none⟩ = some (.int .u64 ((word x.set.testBit 0 : Nat) : Int)) := hX2.cell 1
  have x2 : w2.cell? ⟨w.heap.size, 2, none⟩ = some (.int .u64 ((word x.set.testBit 1 : Nat) : Int)) := hX2.cell 2
  have x3 : w2.cell? ⟨w.heap.size, 3, none⟩ = some (.int .u64 ((word x.set.testBit 2 : Nat) : Int)) := hX2.cell 3
  have x4 : w2.cell? ⟨w.heap.size, 4, none⟩ = some (.int .u64 ((word x.set.testBit 3 : Nat) : Int)) := hX2.cell 4
  have s3 := hG.cell 3
  have f3 := hG.frozen 3
  have hlt := Blk.lt hG
  have hltx : w.heap.size < w2.heap.size := hX2.lt
  have hbw : base ≤ w2.heap.size := by omega
  have HG := Lib.hid hG
  have HR := Lib.hid hR
  have HH := Lib.hid (show _ ∧ _ ∧ _ from ⟨h0, hg, h3⟩)
  have hneG := blk_not_row hG (by decide) hR.e
  have HneG := Lib.hid hneG
  have hle : (m.state 0).edges.length = m.edges.length := rfl
  have h63 : (m.state 0).edges.length + 1 ≤ maxLen := Nat.le_trans (by omega) (show 2000000000000 ≤ maxLen by decide)
  have hby : ((m.state 0).edges.length + 1) * 48 ≤ 140737488355328 := by omega
  have HM2 := Lib.hid hM2
  clear hG hR hneG h0 h3 hM2 hX2 HC hle
  dsimp only
  go_wp2
  go_region_law ((refine step_append_lies _ (by rfl) _ _ _ (by rfl) base 62 i0 _ 6 48 Tryz.underlying33 hi hz0 hz1 hz2 rfl (by decide) E (m.state 0).edges.length (edgeCells (m.state 0).edges) (by rfl) ((HR.out.e.alloc _).drew) ⟨w2.heap.size, 0, none⟩ 1 1 (edgeCell (i, x.set, m.states)) (by rfl) (by rfl) (World.news_of_block (cs := #[.int .i64 (i : Int), .int .u64 ((word x.set.testBit 0 : Nat) : Int), .int .u64 ((word x.set.testBit 1 : Nat) : Int), .int .u64 ((word x.set.testBit 2 : Nat) : Int), .int .u64 ((word x.set.testBit 3 : Nat) : Int), .int .i64 (m.states : Int)]) (t := 62) (fr := (0, 0)) (heap_alloc_new w2 _)) (by simp [edgeCell, Value.oneCell']) (by decide) h63 hby (by simp; omega) (w2.heap.size + 1) (by simp) ?_; intro gg cap' w3 hown1 hgrow hat hlt1; have hG1 := Blk.grown (Blk.drew (Blk.alloc HG.out _)) hgrow HneG.out; have c3 := hG1.cell 3; have d3 := hG1.frozen 3; have HG1 := Lib.hid hG1; have Hgrow := Lib.hid hgrow; have Hown1 := Lib.hid hown1; have Hat := Lib.hid hat; clear hG1 hgrow hown1 hat))
  all_goals go_wp2
  all_goals go_light
  all_goals go_ret
  all_goals
    have hp := push_edge HH.out hbw HR.out HG.out HG1.out Hgrow.out Hown1.out rfl Hat.out
    exact ⟨rfl, _, hp.1, ((Moves.refl base S w).alloc HB.out _).trans (HM2.out.trans hp.2)⟩
end Go.Proofs.YtchfipjclbpomaaGreat
