/-
  The contract of the layer's alt.
-/
import Derived.Test.YtchfipjclbpomaaGreatQNfaC
namespace Go.Proofs.YtchfipjclbpomaaGreat
open Go.RowKit
set_option linter.unusedSimpArgs false
set_option linter.unusedVariables false
set_option maxRecDepth 100000

theorem altF_snoc (f : LayF) : ∀ (l : List LayF) (m : MachS) (i : Nat), altF (l ++ [f]) m i = ((f (altF l m i).1 i).1, (altF l m i).2 ++ [(f (altF l m i).1 i).2])
  | [], m, i => rfl
  | g :: l, m, i => by simp only [List.cons_append, altF]; rw [altF_snoc f l]
theorem altF_grows : ∀ (l : List LayF), (∀ f ∈ l, GrowsF f) → ∀ m i, ExtM m (altF l m i).1
  | [], _ => fun m i => ExtM.refl m
  | f :: l, h => fun m i => (h f (by simp) m i).trans (altF_grows l (fun g hg => h g (by simp [hg])) _ _)
theorem altF_app (a : List LayF) : ∀ (b : List LayF) (m : MachS) (i : Nat), (altF (a ++ b) m i).1 = (altF b (altF a m i).1 i).1 := by
  induction a with
  | nil => intros; rfl
  | cons f a ih => intro b m i; simp only [List.cons_append, altF]; exact ih b _ _
theorem altF_part {l : List LayF} (h : ∀ f ∈ l, GrowsF f) (k : Nat) (m : MachS) (i : Nat) : ExtM (altF (l.take k) m i).1 (altF l m i).1 := by
  conv => rhs; rw [← List.take_append_drop k l, altF_app]
  exact altF_grows _ (fun f hf => h f (List.mem_of_mem_drop hf)) _ _
theorem altF_len : ∀ (l : List LayF) (m : MachS) (i : Nat), (altF l m i).2.length = l.length
  | [], m, i => rfl
  | f :: l, m, i => by simp only [altF, List.length_cons]; rw [altF_len l]
theorem linksF_snoc (t e : Nat) : ∀ (l : List Nat) (m : MachS), linksF t (l ++ [e]) m = (linksF t l m).link e t
  | [], m => rfl
  | x :: l, m => by simp only [List.cons_append, linksF]; exact linksF_snoc t e l _
theorem linksF_grows (t : Nat) : ∀ (l : List Nat) (m : MachS), ExtM m (linksF t l m)
  | [], m => ExtM.refl m
  | e :: l, m => (ExtM.link m e t).trans (linksF_grows t l _)
theorem linksF_app (t : Nat) (a : List Nat) : ∀ (b : List Nat) (m : MachS), linksF t (a ++ b) m = linksF t b (linksF t a m) := by
  induction a with
  | nil => intros; rfl
  | cons f a ih => intro b m; simp only [List.cons_append, linksF]; exact ih b _
theorem linksF_part (t : Nat) (l : List Nat) (k : Nat) (m : MachS) : ExtM (linksF t (l.take k) m) (linksF t l m) := by
  conv => rhs; rw [← List.take_append_drop k l, linksF_app]
  exact linksF_grows _ _ _
theorem accCells_len (l : List Nat) : (accCells l).length = l.length := by
  induction l with
  | nil => rfl
  | cons a l ih => simp only [accCells, List.flatMap_cons, List.length_append, List.length_cons] at *; rw [ih]; simp [accCell]; omega
theorem accCells_get : ∀ (l : List Nat) (k a : Nat), l[k]? = some a → (accCells l)[k]? = some (.int .i64 (a : Int))
  | [], k, a, h => by simp at h
  | x :: l, 0, a, h => by simp at h; subst h; rfl
  | x :: l, k + 1, a, h => by
    have := accCells_get l k a (by simpa using h)
    simpa [accCells, accCell] using this
theorem addr_plusE (b j : Nat) : (⟨b, 0, none⟩ : Addr).add j = ⟨b, j, none⟩ := by unfold Addr.add; split <;> simp_all
/-- Where the ends of alt's kids lie while they are laid. -/
def Ends (base g : Nat) (S : Nat → Prop) (w : World) (m : MachS) (v : Value) (es : List Nat) (wr : World) : Prop :=
  ∃ S', LayAt wr base g S' m ∧ Moves base S w S' wr ∧ wr.ownsRow w.heap.size 3 1 v es.length (accCells es) ∧ ∀ b, v.ownBlock = some b → ¬ S' b
set_option maxHeartbeats 4000000 in
theorem lalt_go (x : Nd) (hK : KidsC x.kids) (B : Option Addr) (cap i base g : Nat) (S : Nat → Prop) (m : MachS) (w : World) (ht : TreesAt w (fun b => b < base) x.kids B) (h : LayAt w base g S m) (hb : base ≤ w.heap.size) (hf : FitsM (barF x.kids.lays m i).1) (hl : x.kids.len ≤ 1000000000000) :
    Calls Tryz.prog 40 #[.pointer (some ⟨g, 0, none⟩), ndV x B cap, .int .i64 (i : Int)] w (LayOut base g S w (barF x.kids.lays m i)) := by
  obtain ⟨i0, hi, hz0, hz1, hz2⟩ := info_parts info_intN
  have HT := Lib.hid ht
  have HK := Lib.hid hK
  have hel : (altF x.kids.lays m i).2.length = x.kids.len := by rw [altF_len, lays_len]
  have hfs : FitsM ((altF x.kids.lays m i).1.state 0) := hf.of (linksF_grows _ _ _)
  have HF := Lib.hid (show FitsM (altF x.kids.lays m i).1 ∧ FitsM ((altF x.kids.lays m i).1.state 0) ∧ FitsM (linksF (altF x.kids.lays m i).1.states (altF x.kids.lays m i).2 ((altF x.kids.lays m i).1.state 0)) from ⟨hfs.of (ExtM.state _ _), hfs, hf⟩)
  have HM0 := Lib.hid (show Ends base g S w m (.slice none 0 0) [] (w.alloc (.cells (ndA x B cap) 29)) from ⟨S, h.alloc _, (Moves.refl base S w).alloc hb _, ⟨rfl, .inl ⟨rfl, rfl⟩⟩, fun b hb => by simp [Value.ownBlock] at hb⟩)
  have hsz : w.heap.size ≤ (w.alloc (.cells (ndA x B cap) 29)).heap.size := by simp
  have HEL := Lib.hid hel
  clear ht hK hf h hfs hel
  unfold ndV
  unfold ndA at HM0 hsz
  go_enter Tryz.func40, Tryz.ntmps40
  go_wp2
  go_loopw [7, 16] (fun v i' wr => ∃ (k : Nat) (Av : Option Addr) (capv : Nat), i' = .int .i64 (k : Int) ∧ v = .slice Av k capv ∧ k ≤ x.kids.len ∧ Hid (Ends base g S w (altF (x.kids.lays.take k) m i).1 (.slice Av k capv) (altF (x.kids.lays.take k) m i).2 wr)) (fun _ i' _ => x.kids.len - (intOf i').toNat)
  case atStart => exact ⟨0, none, 0, rfl, rfl, Nat.zero_le _, HM0⟩
  case round =>
    obtain ⟨k, Av, capv, rfl, rfl, hk, HM⟩ := hrel
    by_cases hlt : k < x.kids.len
    · obtain ⟨z, hz⟩ : ∃ z, x.kids.list[k]? = some z := ⟨_, List.getElem?_eq_getElem (by rw [Trees.len_list]; exact hlt)⟩
      obtain ⟨S1, hL1, hM1, hE1, hN1⟩ := HM.out
      obtain ⟨b, o, C, capc, rfl, hbb, _, ⟨c0, c1, c2, c3, c4, c5, c6, c7⟩, hkz⟩ := (HT.out.moves hM1).get hz
      have hdl : (k : Int) < (x.kids.len : Int) := by omega
      have hwr : w.heap.size ≤ wr.heap.size := hM1.size
      have hbr : base ≤ wr.heap.size := by omega
      have hblk := World.block_lt_of_cell? wr _ c0
      have hts := take_snocF (lays_get hz)
      have hfit : FitsM (z.lay (altF (x.kids.lays.take k) m i).1 i).1 := by
        have := HF.out.1.of (altF_part HK.out.grows (k + 1) m i)
        rw [hts, altF_snoc] at this
        exact this
      have hbA : Below wr.heap.size wr (wr.alloc (.cells (ndA z C capc) 29)) := (Below.refl _ _).alloc (Nat.le_refl _) _
      have HI := Lib.hid (HK.out.get hz C capc i base g S1 (altF (x.kids.lays.take k) m i).1 (wr.alloc (.cells (ndA z C capc) 29)) (hkz.below hbA) (hL1.alloc _) (by simp; omega) hfit)
      have HM2 := Lib.hid (hM1.alloc hb (.cells (ndA z C capc) 29))
      have HE2 := Lib.hid (hE1.alloc (.cells (ndA z C capc) 29))
      have HN2 := Lib.hid hN1
      have HS := Lib.hid (show altF (x.kids.lays.take (k + 1)) m i = ((z.lay (altF (x.kids.lays.take k) m i).1 i).1, (altF (x.kids.lays.take k) m i).2 ++ [(z.lay (altF (x.kids.lays.take k) m i).1 i).2]) by rw [hts, altF_snoc])
      have HLEN := Lib.hid (show (altF (x.kids.lays.take k) m i).2.length = k by rw [altF_len, List.length_take, lays_len]; omega)
      have HEB := Lib.hid (show ∀ b, (Value.slice Av k capv).ownBlock = some b → b < wr.heap.size from fun b hb => (hE1.lt b hb).2)
      clear hz hkz hbA hts hfit hL1 hM1 HM hsz hE1 hN1
      unfold ndV at HI
      unfold ndA at HM2 HE2 HI
      go_wp2_with fail
      refine HI.out.mono ?_
      rintro e w3 ⟨rfl, S3, hL3, hM3⟩
      have hE3 := ownsRow_block HE2.out (fun k hk => hM3.kept k (by have := HEB.out k hk; simp; omega) (HN2.out k hk))
      have hN3 : ∀ b, (Value.slice Av k capv).ownBlock = some b → ¬ S3 b := fun b hb => hM3.notIn (by have := HEB.out b hb; simp; omega) (HN2.out b hb)
      rw [HLEN.out] at hE3
      have hs3 := hM3.size
      have hw3 : w.heap.size ≤ w3.heap.size := by simp at hs3; omega
      have HE3 := Lib.hid hE3
      have HL3 := Lib.hid hL3
      have HN3 := Lib.hid hN3
      have HM3 := Lib.hid (HM2.out.trans hM3)
      have h63 : k + 1 ≤ maxLen := Nat.le_trans (by omega) (show 2000000000000 ≤ maxLen by decide)
      have hby : (k + 1) * 8 ≤ 140737488355328 := by omega
      clear hM3 hL3 hE3 hN3 HI c0 c1 c2 c3 c4 c5 c6 c7 hbb hblk hs3 HM2 HE2 HN2 HEB
      dsimp only
      go_wp2_with (at_builtin; refine wpList_append_lies _ rfl _ _ 34 rfl w.heap.size 3 i0 _ 1 8 Tryz.underlying34 hi hz0 hz1 hz2 rfl (by decide) (.slice Av k capv) k (accCells (altF (x.kids.lays.take k) m i).2) rfl (HE3.out.alloc _) ⟨w3.heap.size, 0, none⟩ 1 1 (accCell (z.lay (altF (x.kids.lays.take k) m i).1 i).2) rfl rfl (World.news_of_block (cs := #[.int .i64 (((z.lay (altF (x.kids.lays.take k) m i).1 i).2 : Nat) : Int)]) (t := 3) (fr := (0, 0)) (heap_alloc_new w3 _)) (by simp [accCell, Value.oneCell']) (by decide) h63 hby (by simp; omega) (w3.heap.size + 1) (by simp) ?_; intro gg cap' w4 hown4 hgrow hat hlt1; have Hgrow := Lib.hid hgrow; have Hown4 := Lib.hid hown4; have Hat := Lib.hid hat; clear hgrow hown4 hat)
      go_roundw
      case rel =>
        refine ⟨k + 1, _, _, by go_num, rfl, by omega, Lib.hid ?_⟩
        rw [HS.out]
        refine ⟨S3, ?_, ?_, ?_, ?_⟩
        · exact HL3.out.keep (by have := Hgrow.out.size; simp at this; omega) (fun b hb => (Hgrow.out.block b (by have := HL3.out.lt b hb; simp; omega) (fun e => HN3.out b e.symm hb)).trans (Below.heap_alloc w3 _ b (HL3.out.lt b hb)))
        · have hal := HM3.out.alloc hb (.cells #[.int .i64 (((z.lay (altF (x.kids.lays.take k) m i).1 i).2 : Nat) : Int)] 3)
          have hge : ∀ r, (Value.slice Av k capv).ownBlock = some r → w.heap.size ≤ r := fun r hr => (HE3.out.lt r hr).1
          refine ⟨hal.below.grown Hgrow.out (by have := hal.size; omega) (fun r hr => by have := hge r hr; omega), by have := Hgrow.out.size; have := hal.size; omega, fun b hlb hn => ?_, hal.fresh⟩
          exact (Hgrow.out.block b (by have := hal.size; omega) (fun e => by have := hge b e.symm; omega)).trans (hal.kept b hlb hn)
        · rw [accCells_snoc, List.length_append, HLEN.out]
          exact Hown4.out
        · intro b hb hS
          obtain rfl : gg = b := by simpa [Value.ownBlock] using hb
          rcases Hat.out with h | h
          · exact HN3.out _ h hS
          · have := HL3.out.lt _ hS; omega
      case measure => simp [intOf]; omega
    · obtain rfl : k = x.kids.len := by omega
      have hdl : ¬ ((x.kids.len : Int) < (x.kids.len : Int)) := by omega
      have hV : x.kids.lays.take x.kids.len = x.kids.lays := by rw [← lays_len, List.take_length]
      rw [hV] at HM
      obtain ⟨S1, hL1, hM1, hE1, hN1⟩ := HM.out
      have hwr : w.heap.size ≤ wr.heap.size := hM1.size
      have HBAR := Lib.hid (show barF x.kids.lays m i = (linksF (altF x.kids.lays m i).1.states (altF x.kids.lays m i).2 ((altF x.kids.lays m i).1.state 0), (altF x.kids.lays m i).1.states) from rfl)
      have HC := Lib.hid (lstate_go base g S1 _ 0 wr hL1 (by omega) HF.out.1.1)
      have HM1 := Lib.hid hM1
      have HN1 := Lib.hid hN1
      rw [HEL.out] at hE1
      have HE1 := Lib.hid hE1
      clear hV HM hL1 hM1 hN1 hsz
      clear hE1
      generalize (altF x.kids.lays m i).1 = m1 at *
      generalize (altF x.kids.lays m i).2 = es at *
      go_wp2_with fail
      refine HC.out.mono ?_
      rintro e w2 ⟨rfl, S2, hL2, hM2⟩
      have hE2 := ownsRow_block HE1.out (fun k hk => hM2.kept k (HE1.out.lt k hk).2 (HN1.out k hk))
      have hN2 : ∀ b, (Value.slice Av x.kids.len capv).ownBlock = some b → ¬ S2 b := fun b hb => hM2.notIn (HE1.out.lt b hb).2 (HN1.out b hb)
      have HR0 := Lib.hid (show ∃ S', LayAt w2 base g S' (m1.state 0) ∧ Moves base S w S' w2 ∧ w2.ownsRow w.heap.size 3 1 (.slice Av x.kids.len capv) x.kids.len (accCells es) ∧ ∀ b, (Value.slice Av x.kids.len capv).ownBlock = some b → ¬ S' b from ⟨S2, hL2, HM1.out.trans hM2, hE2, hN2⟩)
      clear hE2 hN2 hL2 hM2 HM1 HE1 HN1 HC
      dsimp only
      go_wp2
      go_loopw [32] (fun i' wr => ∃ k : Nat, i' = .int .i64 (k : Int) ∧ k ≤ x.kids.len ∧ Hid (∃ S', LayAt wr base g S' (linksF m1.states (es.take k) (m1.state 0)) ∧ Moves base S w S' wr ∧ wr.ownsRow w.heap.size 3 1 (.slice Av x.kids.len capv) x.kids.len (accCells es) ∧ ∀ b, (Value.slice Av x.kids.len capv).ownBlock = some b → ¬ S' b)) (fun i' _ => x.kids.len - (intOf i').toNat)
      case atStart => exact ⟨0, rfl, Nat.zero_le _, HR0⟩
      case round =>
        clear HR0
        obtain ⟨k, rfl, hk, HR⟩ := hrel
        by_cases hlt : k < x.kids.len
        · obtain ⟨a, ha⟩ : ∃ a, es[k]? = some a := ⟨_, List.getElem?_eq_getElem (by rw [HEL.out]; exact hlt)⟩
          obtain ⟨S1, hL1, hM1, hE1, hN1⟩ := HR.out
          obtain ⟨b, capb, hv, _, hbl⟩ := own_form hE1 (by omega)
          have hce := hE1.cells (g := b) (by rw [hv]; rfl) k _ (accCells_get es k a ha)
          cases hv
          rw [addr_plusE] at hce
          have hdl : (k : Int) < (x.kids.len : Int) := by omega
          have hwr2 : w.heap.size ≤ wr.heap.size := hM1.size
          have hts := take_snocF ha
          have hfl := HF.out.2.2.of (linksF_part m1.states es k (m1.state 0))
          have HC := Lib.hid (llink_go base g S1 _ a m1.states wr hL1 (by omega) hfl.2.1)
          have HQ := Lib.hid (show _ ∧ _ ∧ _ from ⟨hM1, hE1, hN1⟩)
          have HTS := Lib.hid hts
          clear ha hL1 hM1 hE1 hN1 hts hfl HR
          go_wp2_with fail
          refine HC.out.mono ?_
          rintro e w5 ⟨rfl, S5, hL5, hM5⟩
          have HQ5 := Lib.hid (show ∃ S', LayAt w5 base g S' _ ∧ Moves base S w S' w5 ∧ w5.ownsRow w.heap.size 3 1 (.slice (some ⟨b, 0, none⟩) x.kids.len capv) x.kids.len (accCells es) ∧ ∀ b', (Value.slice (some ⟨b, 0, none⟩) x.kids.len capv).ownBlock = some b' → ¬ S' b' from ⟨S5, hL5, HQ.out.1.trans hM5, ownsRow_block HQ.out.2.1 (fun k hk => hM5.kept k (HQ.out.2.1.lt k hk).2 (HQ.out.2.2 k hk)), fun b hb => hM5.notIn (HQ.out.2.1.lt b hb).2 (HQ.out.2.2 b hb)⟩)
          clear hL5 hM5 HC hce HQ
          dsimp only
          go_wp2
          go_roundw
          case rel => exact ⟨k + 1, by go_num, by omega, by rw [HTS.out, linksF_snoc]; exact HQ5⟩
          case measure => simp [intOf]; omega
        · obtain rfl : k = x.kids.len := by omega
          have hdl : ¬ ((x.kids.len : Int) < (x.kids.len : Int)) := by omega
          have hV : es.take x.kids.len = es := by rw [← HEL.out, List.take_length]
          rw [hV] at HR
          clear hV
          go_wp2
          go_light
          go_ret
          obtain ⟨S1, hL1, hM1, _, _⟩ := HR.out
          refine ⟨?_, S1, by rw [HBAR.out]; exact hL1, hM1⟩
          rw [HBAR.out]
          rfl
end Go.Proofs.YtchfipjclbpomaaGreat
