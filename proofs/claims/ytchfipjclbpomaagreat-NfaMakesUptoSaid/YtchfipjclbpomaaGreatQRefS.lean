/-
  The contract of the reference's Of of chapter 16.
-/
import Derived.Test.YtchfipjclbpomaaGreatQRefG
import Derived.Test.YtchfipjclbpomaaGreatQNfaRz
import Derived.Test.YtchfipjclbpomaaGreatQRRightX
namespace Go.Proofs.YtchfipjclbpomaaGreat
open Go.RowKit
set_option linter.unusedSimpArgs false
set_option linter.unusedVariables false
set_option maxRecDepth 100000

set_option maxHeartbeats 4000000 in
theorem rof16_many (F : Trees) (B : Option Addr) (cap : Nat) (w : World) (hl : F.len ≤ 140737488355328) (h64 : 64 < F.len) :
    Calls Tryz.prog 8 #[.slice B F.len cap] w (NfaOut (ofS F.list) w) := by
  have HV := Lib.hid (show ofS F.list = .error 18 by unfold ofS; rw [if_pos (by rw [Trees.len_list]; exact h64)])
  have hd : (64 : Int) < (F.len : Int) := by omega
  have HX := Lib.hid (Blk.new w 36 #[.int .i64 0, .int .i64 0, .slice none 0 0, .slice none 0 0, .slice none 0 0])
  have HB := Lib.hid (show Below w.heap.size w (w.alloc (.cells #[.int .i64 0, .int .i64 0, .slice none 0 0, .slice none 0 0, .slice none 0 0] 36)) from (Below.refl _ _).alloc (Nat.le_refl _) _)
  go_enter Tryz.func8, Tryz.ntmps8
  go_wp2
  go_light
  refine bodyPost_ret (ret_nfa Tryz.results8 rfl rfl (Blk.new w 36 _)) rfl ?_
  rw [HV.out]
  exact ⟨(Below.refl _ _).alloc (Nat.le_refl _) _, rfl⟩
/-- The frame of Of's second loop: the machine's box, and the machine as it stands. -/
structure OFr (w0 : World) (base nb : Nat) (S1 : Nat → Prop) (m1 : MachS) (A1 : Option Addr) (k1 : Nat) (A2 : Option Addr) (k2 : Nat) (A3 : Option Addr) (k3 : Nat) (w1 : World) : Prop where
  n : Blk w1 nb 36 (mvA m1 A1 k1 A2 k2 A3 k3)
  mv : MvAt w1 base S1 m1 A1 k1 A2 k2 A3 k3
  mvs : Moves base (fun _ => False) w0 S1 w1
  nn : ¬ S1 nb
  nb0 : w0.heap.size ≤ nb
  hb : base ≤ w0.heap.size
def OFrM (w0 : World) (base nb : Nat) (m1 : MachS) (w1 : World) : Prop := ∃ S1 A1 k1 A2 k2 A3 k3, OFr w0 base nb S1 m1 A1 k1 A2 k2 A3 k3 w1
theorem OFr.tree {w0 w1 : World} {base nb : Nat} {S1 : Nat → Prop} {m1 : MachS} {A1 A2 A3 : Option Addr} {k1 k2 k3 : Nat} (h : OFr w0 base nb S1 m1 A1 k1 A2 k2 A3 k3 w1) {F : Trees} {B : Option Addr} (ht : TreesAt w0 (fun b => b < base) F B) : TreesAt w1 (fun b => ¬ S1 b) F B :=
  (ht.moves h.mvs).weak (fun b hb _ hs => by have := (h.mv.lt b hs).1; omega)
def Keep2 (p q : Nat) (w1 w2 : World) : Prop := ∀ b' o', b' = p ∨ b' = q → w2.cell? ⟨b', o', none⟩ = w1.cell? ⟨b', o', none⟩
theorem keep2_drew (p q : Nat) (w : World) : Keep2 p q w w.drew := fun _ _ _ => rfl
theorem Keep2.alloc {p q : Nat} {w1 w2 : World} (h : Keep2 p q w1 w2) (hp : p < w2.heap.size) (hq : q < w2.heap.size) (o : Obj) : Keep2 p q w1 (w2.alloc o) := fun b' o' h' =>
  (cell_block (Below.heap_alloc w2 o b' (by rcases h' with h' | h' <;> omega))).trans (h b' o' h')
theorem Keep2.moves {p q base : Nat} {S S2 : Nat → Prop} {w1 w2 w3 : World} (h : Keep2 p q w1 w2) (hv : Moves base S w2 S2 w3) (hp : p < w2.heap.size) (hq : q < w2.heap.size) (np : ¬ S p) (nq : ¬ S q) : Keep2 p q w1 w3 := fun b' o' h' =>
  (cell_block (hv.kept b' (by rcases h' with h' | h' <;> omega) (by rcases h' with h' | h' <;> rw [h'] <;> assumption))).trans (h b' o' h')
theorem Keep2.set5 {p q g : Nat} {w1 w2 : World} (h : Keep2 p q w1 w2) (hp : p ≠ g) (hq : q ≠ g) (a0 a1 a2 a3 a4 : Value) : Keep2 p q w1 (((((w2.setCell ⟨g, 0, none⟩ a0).setCell ⟨g, 1, none⟩ a1).setCell ⟨g, 2, none⟩ a2).setCell ⟨g, 3, none⟩ a3).setCell ⟨g, 4, none⟩ a4) := fun b' o' h' =>
  (cell_block (heap_set5N (by rcases h' with h' | h' <;> omega) _ _ _ _ _)).trans (h b' o' h')
set_option maxHeartbeats 8000000 in
theorem rof16_rest (F : Trees) (B : Option Addr) (cap : Nat) (w : World) (hl : F.len ≤ 140737488355328) (h64 : F.len ≤ 64) (hs : ∀ z ∈ F.list, z.size ≤ 140737488355328) (ht : TreesAt w (fun b => b < w.heap.size) F B) :
    Calls Tryz.prog 8 #[.slice B F.len cap] w (NfaOut (ofS F.list) w) := by
  go_enter Tryz.func8, Tryz.ntmps8
  have hd' : ¬ (64 : Int) < (F.len : Int) := by omega
  go_wp2
  have hd : ¬ (64 : Int) < (F.len : Int) := by omega
  have HX0 := Lib.hid (Blk.new w 36 #[.int .i64 0, .int .i64 0, .slice none 0 0, .slice none 0 0, .slice none 0 0])
  have HB0 := Lib.hid (show Below w.heap.size w (w.alloc (.cells #[.int .i64 0, .int .i64 0, .slice none 0 0, .slice none 0 0, .slice none 0 0] 36)) from (Below.refl _ _).alloc (Nat.le_refl _) _)
  have HT := Lib.hid (ht.below HB0.out)
  have HS := Lib.hid hs
  have HM0 := Lib.hid (show Below (w.alloc (.cells #[.int .i64 0, .int .i64 0, .slice none 0 0, .slice none 0 0, .slice none 0 0] 36)).heap.size (w.alloc (.cells #[.int .i64 0, .int .i64 0, .slice none 0 0, .slice none 0 0, .slice none 0 0] 36)) (w.alloc (.cells #[.int .i64 0, .int .i64 0, .slice none 0 0, .slice none 0 0, .slice none 0 0] 36)) from Below.refl _ _)
  have hx0 := HX0.out.lt
  clear ht hs
  generalize w.alloc (.cells #[.int .i64 0, .int .i64 0, .slice none 0 0, .slice none 0 0, .slice none 0 0] 36) = w1 at *
  go_loopw [4] (fun i' wr => ∃ k : Nat, i' = .int .i64 (k : Int) ∧ k ≤ F.len ∧ (∀ q y, q < k → F.list[q]? = some y → rightT y = true) ∧ Hid (Below w1.heap.size w1 wr)) (fun i' _ => F.len - (intOf i').toNat)
  case atStart => exact ⟨0, rfl, Nat.zero_le _, fun q y hq => by omega, HM0⟩
  case round =>
    clear HM0
    obtain ⟨k, rfl, hk, hall, HM⟩ := hrel
    have HALL := Lib.hid hall
    clear hall
    by_cases hlt : k < F.len
    · obtain ⟨z, hz⟩ : ∃ z, F.list[k]? = some z := ⟨_, List.getElem?_eq_getElem (by rw [Trees.len_list]; exact hlt)⟩
      have hdl : (k : Int) < (F.len : Int) := by omega
      obtain ⟨b, o, C, capc, rfl, hbb, _, hnd, hkz⟩ := (HT.out.below HM.out).get hz
      obtain ⟨c0, c1, c2, c3, c4, c5, c6, c7⟩ := hnd
      have HC := Lib.hid (rright_any z _ C capc wr (by have := HS.out z (List.mem_of_getElem? hz); omega) hkz)
      have HZ := Lib.hid hz
      clear hz hkz
      unfold ndV at HC
      cases hrz : rightT z with
      | true =>
        rw [hrz] at HC
        have HRZ := Lib.hid hrz
        clear hrz
        go_wp2_with fail
        refine HC.out.mono ?_
        rintro e w3 ⟨rfl, hb3⟩
        have HB3 := Lib.hid (HM.out.trans (hb3.mono HM.out.size))
        clear hb3 HC c0 c1 c2 c3 c4 c5 c6 c7
        dsimp only
        go_wp2
        go_roundw
        case rel =>
          refine ⟨k + 1, by go_num, by omega, fun q y hq hy => ?_, HB3⟩
          rcases Nat.lt_or_ge q k with h | h
          · exact HALL.out q y h hy
          · obtain rfl : q = k := by omega
            rw [HZ.out] at hy
            obtain rfl := Option.some.inj hy
            exact HRZ.out
        case measure => simp [intOf]; omega
      | false =>
        have HV := Lib.hid (show ofS F.list = .error 6 by
          unfold ofS
          rw [if_neg (by rw [Trees.len_list]; omega), if_pos]
          rw [List.all_eq_false]
          exact ⟨z, List.mem_of_getElem? HZ.out, by rw [hrz]; decide⟩)
        rw [hrz] at HC
        clear hrz
        go_wp2_with fail
        refine HC.out.mono ?_
        rintro e w3 ⟨rfl, hb3⟩
        have hB3 := HM.out.trans (hb3.mono HM.out.size)
        have hX3 := HX0.out.below hB3 hx0
        have y0 := (hX3).cell 0
        have y1 := (hX3).cell 1
        have y2 := (hX3).cell 2
        have y3 := (hX3).cell 3
        have y4 := (hX3).cell 4
        have f0 := (hX3).frozen 0
        have f1 := (hX3).frozen 1
        have f2 := (hX3).frozen 2
        have f3 := (hX3).frozen 3
        have f4 := (hX3).frozen 4
        have hly := (hX3).lt
        simp only [List.getElem?_toArray, List.getElem?_cons_zero, List.getElem?_cons_succ] at y0 y1 y2 y3 y4

        have HX3 := Lib.hid hX3
        have HB3 := Lib.hid (HB0.out.trans (hB3.mono HB0.out.size))
        clear hb3 hB3 hX3 HC c0 c1 c2 c3 c4 c5 c6 c7
        dsimp only
        go_wp2
        go_light
        have hX9 := ((((HX3.out.set_ 0 (.int .i64 0)).set_ 1 (.int .i64 0)).set_ 2 (.slice none 0 0)).set_ 3 (.slice none 0 0)).set_ 4 (.slice none 0 0)
        refine bodyPost_ret (ret_nfa Tryz.results8 rfl rfl hX9) rfl ?_
        rw [HV.out]
        exact ⟨((((HB3.out.setCell (p := ⟨w.heap.size, 0, none⟩) (Nat.le_refl _) _).setCell (p := ⟨w.heap.size, 1, none⟩) (Nat.le_refl _) _).setCell (p := ⟨w.heap.size, 2, none⟩) (Nat.le_refl _) _).setCell (p := ⟨w.heap.size, 3, none⟩) (Nat.le_refl _) _).setCell (p := ⟨w.heap.size, 4, none⟩) (Nat.le_refl _) _, rfl⟩
    · obtain rfl : k = F.len := by omega
      have hdl : ¬ ((F.len : Int) < (F.len : Int)) := by omega
      have hra : ∀ z ∈ F.list, rightT z = true := fun z hz => by
        obtain ⟨q, hq⟩ := List.getElem?_of_mem hz
        have hlen := (List.getElem?_eq_some_iff.1 hq).1
        rw [Trees.len_list] at hlen
        exact HALL.out q z hlen hq

      have HRA := Lib.hid hra
      have HC := Lib.hid (rsize16_go F _ B cap wr hl HS.out (fun z hz => okays_of (hra z hz)) (HT.out.below HM.out))
      clear hra
      go_wp2_with fail
      refine HC.out.mono ?_
      rintro e w3 ⟨rfl, hb3⟩
      have hB3 := HM.out.trans (hb3.mono HM.out.size)
      have hX3 := HX0.out.below hB3 hx0
      have y0 := (hX3).cell 0
      have y1 := (hX3).cell 1
      have y2 := (hX3).cell 2
      have y3 := (hX3).cell 3
      have y4 := (hX3).cell 4
      have f0 := (hX3).frozen 0
      have f1 := (hX3).frozen 1
      have f2 := (hX3).frozen 2
      have f3 := (hX3).frozen 3
      have f4 := (hX3).frozen 4
      have hly := (hX3).lt
      simp only [List.getElem?_toArray, List.getElem?_cons_zero, List.getElem?_cons_succ] at y0 y1 y2 y3 y4
      have HX3 := Lib.hid hX3
      have HB3 := Lib.hid (HB0.out.trans (hB3.mono HB0.out.size))
      have HT3 := Lib.hid (HT.out.below hB3)
      clear hb3 hB3 hX3 HC HM HX0 HB0
      dsimp only
      rcases Nat.lt_or_ge 65536 (sizeW F.list) with hbig | hbig
      · have HV := Lib.hid (show ofS F.list = .error 7 by unfold ofS; rw [if_neg (by rw [Trees.len_list]; omega), if_neg (by rw [List.all_eq_true.2 HRA.out]; decide), if_pos hbig])
        have hdb : (65536 : Int) < ((sizeW F.list : Nat) : Int) := by omega
        clear hbig
        generalize sizeW F.list = sz at *
        go_wp2
        go_light
        have hX9 := ((((HX3.out.set_ 0 (.int .i64 0)).set_ 1 (.int .i64 0)).set_ 2 (.slice none 0 0)).set_ 3 (.slice none 0 0)).set_ 4 (.slice none 0 0)
        refine bodyPost_ret (ret_nfa Tryz.results8 rfl rfl hX9) rfl ?_
        rw [HV.out]
        exact ⟨((((HB3.out.setCell (p := ⟨w.heap.size, 0, none⟩) (Nat.le_refl _) _).setCell (p := ⟨w.heap.size, 1, none⟩) (Nat.le_refl _) _).setCell (p := ⟨w.heap.size, 2, none⟩) (Nat.le_refl _) _).setCell (p := ⟨w.heap.size, 3, none⟩) (Nat.le_refl _) _).setCell (p := ⟨w.heap.size, 4, none⟩) (Nat.le_refl _) _, rfl⟩
      · have HV := Lib.hid (show ofS F.list = .ok (machS F.list) by unfold ofS; rw [if_neg (by rw [Trees.len_list]; omega), if_neg (by rw [List.all_eq_true.2 HRA.out]; decide), if_neg (by omega)])
        have HFIT := Lib.hid (mach_fits HRA.out hbig).1
        have hdb : ¬ ((65536 : Int) < ((sizeW F.list : Nat) : Int)) := by omega
        clear hbig
        generalize sizeW F.list = sz at *
        have HM0 := Lib.hid (show MvAt w3 w.heap.size (fun _ => False) ⟨[], [], []⟩ none 0 none 0 none 0 from ⟨fun b hb => hb.elim, ⟨⟨rfl, .inl ⟨rfl, rfl⟩⟩, ⟨rfl, .inl ⟨rfl, rfl⟩⟩, ⟨rfl, .inl ⟨rfl, rfl⟩⟩⟩, ⟨fun b hb => by simp [Value.ownBlock] at hb, fun b hb => by simp [Value.ownBlock] at hb, fun b hb => by simp [Value.ownBlock] at hb⟩⟩)
        have HC := Lib.hid (rstate_go w.heap.size (fun _ => False) ⟨[], [], []⟩ none 0 none 0 none 0 0 w3 HM0.out (by omega) (by simp [MachS.states]))
        have HC' : Hid (Calls Tryz.prog 22 #[.agg #[.int .i64 0, .int .i64 0, .slice none 0 0, .slice none 0 0, .slice none 0 0], .int .i64 0] w3 (MvOut w.heap.size (fun _ => False) w3 ⟨[0], [], []⟩)) := HC
        clear HC HM0
        go_wp2_with fail
        refine HC'.out.mono ?_
        rintro e w4 ⟨A1, k1, A2, k2, A3, k3, rfl, S4, hM, hV⟩
        have HM4 := Lib.hid hM
        have HV4 := Lib.hid hV
        clear hM hV HC'
        unfold mvA
        dsimp only
        go_upto_region 11 with fail
        have HF0 := Lib.hid (show OFrM w3 w.heap.size w4.heap.size ⟨[0], [], []⟩ (w4.alloc (.cells #[.int .i64 (((⟨[0], [], []⟩ : MachS).states : Nat) : Int), .int .i64 0, .slice A1 0 k1, .slice A2 0 k2, .slice A3 1 k3] 36)) from ⟨S4, A1, k1, A2, k2, A3, k3, Blk.new w4 _ _, HM4.out.alloc _, HV4.out.alloc (by omega) _, fun h => by have := (HM4.out.lt _ h).2; omega, HV4.out.size, by omega⟩)
        have hs4 := HV4.out.size
        clear HM4 HV4 y0 y1 y2 y3 y4 f0 f1 f2 f3 f4 HALL
        generalize w4.alloc (.cells #[.int .i64 (((⟨[0], [], []⟩ : MachS).states : Nat) : Int), .int .i64 0, .slice A1 0 k1, .slice A2 0 k2, .slice A3 1 k3] 36) = w5 at *
        generalize w4.heap.size = nb at *
        go_wp2
        generalize (Value.agg #[.int .i64 (((⟨[0], [], []⟩ : MachS).states : Nat) : Int), .int .i64 0, .slice A1 ([] : List (Nat × Nat)).length k1, .slice A2 ([] : List (Nat × Nat × Nat)).length k2, .slice A3 [0].length k3]) = v31
        go_loopw [6] (fun i' wr => ∃ k : Nat, i' = .int .i64 (k : Int) ∧ k ≤ F.len ∧ Hid (OFrM w3 w.heap.size nb (layAll (F.list.take k) 0 ⟨[0], [], []⟩) wr)) (fun i' _ => F.len - (intOf i').toNat)
        case atStart => exact ⟨0, rfl, Nat.zero_le _, HF0⟩
        case round =>
          clear HF0
          obtain ⟨k, rfl, hk, HM⟩ := hrel
          by_cases hlt : k < F.len
          · obtain ⟨z, hz⟩ : ∃ z, F.list[k]? = some z := ⟨_, List.getElem?_eq_getElem (by rw [Trees.len_list]; exact hlt)⟩
            obtain ⟨S1, C1, l1, C2, l2, C3, l3, hF⟩ := HM.out
            obtain ⟨b, o, C, capc, rfl, hnb, _, hnd0, hkz⟩ := (hF.tree HT3.out).get hz
            have hbw : b < wr.heap.size := World.block_lt_of_cell? wr _ hnd0.1
            have hnw : nb < wr.heap.size := hF.n.lt
            have hdl : (k : Int) < (F.len : Int) := by omega
            have hzr := HRA.out z (List.mem_of_getElem? hz)
            have hts := take_snocF hz
            have hlk : (F.list.take k).length = k := by rw [List.length_take, Trees.len_list]; omega
            have hone : layAll (F.list.take (k + 1)) 0 ⟨[0], [], []⟩ = layOne z k (layAll (F.list.take k) 0 ⟨[0], [], []⟩) := by rw [hts, layAll_snoc, hlk, Nat.zero_add]
            have hfk : FitsM (layOne z k (layAll (F.list.take k) 0 ⟨[0], [], []⟩)) := by
              rw [← hone]
              exact HFIT.out.of (layAll_part HRA.out (k + 1) _)
            have HF2 := Lib.hid (show FitsM ((z.lay (layAll (F.list.take k) 0 ⟨[0], [], []⟩) 0).1.state (k + 1)) from hfk.of (ExtM.link _ _ _))
            have HF1 := Lib.hid (show FitsM (z.lay (layAll (F.list.take k) 0 ⟨[0], [], []⟩) 0).1 from HF2.out.of (ExtM.state _ _))
            have HO := Lib.hid hone
            have HK := Lib.hid hkz
            have HR := Lib.hid (rlay_right hzr)
            unfold layOne at HO
            obtain ⟨c0, c1, c2, c3, c4, c5, c6, c7⟩ := id hnd0
            have hFn := hF.n
            unfold mvA at hFn
            have y0 := (hFn).cell 0
            have y1 := (hFn).cell 1
            have y2 := (hFn).cell 2
            have y3 := (hFn).cell 3
            have y4 := (hFn).cell 4
            have f0 := (hFn).frozen 0
            have f1 := (hFn).frozen 1
            have f2 := (hFn).frozen 2
            have f3 := (hFn).frozen 3
            have f4 := (hFn).frozen 4
            have hly := (hFn).lt
            simp only [List.getElem?_toArray, List.getElem?_cons_zero, List.getElem?_cons_succ] at y0 y1 y2 y3 y4
            clear hFn
            have HN := Lib.hid hnd0
            have HF := Lib.hid hF
            clear HM hz hkz hts hlk hone hfk hzr hF hnd0
            generalize layAll (F.list.take k) 0 ⟨[0], [], []⟩ = mk at *
            have HSZ := Lib.hid (show w.heap.size ≤ wr.heap.size by have := HF.out.hb; have := HF.out.mvs.size; omega)
            have HI := Lib.hid (HR.out C capc 0 w.heap.size S1 mk C1 l1 C2 l2 C3 l3 wr.drew (HK.out.below (Below.refl _ _).drew) HF.out.mv.drew HSZ.out HF1.out)
            have HJ := Lib.hid (HR.out C capc 0 w.heap.size S1 mk C1 l1 C2 l2 C3 l3 (wr.drew.alloc (.cells #[.int .i64 0, .int .i64 0, .slice none 0 0, .slice none 0 0, .slice none 0 0] 36)) (HK.out.below ((Below.refl _ _).drew.alloc (Nat.le_refl _) _)) (HF.out.mv.drew.alloc _) (by have := HSZ.out; simp; omega) HF1.out)
            unfold ndV mvA at HI HJ
            generalize z.lay mk 0 = r at *
            go_upto_region 14 with fail
            refine wp_region_held_drew (S := fun w' => ∀ b' o', b' = nb ∨ b' = b → w'.cell? ⟨b', o', none⟩ = wr.cell? ⟨b', o', none⟩) (by kernel_rfl) (keep2_drew nb b wr) (fun hHeld => ?_)
            refine wpAnyH_take (i := 0) (oi := _) (v := ?_) rfl (by kernel_rfl) (by kernel_rfl) (by kernel_rfl) (fun _ _ _ h => h) (Or.inl ⟨by kernel_rfl, ?_⟩) (by assumption) ?_
            rotate_left
            · intro w hSw
              try dsimp only at hSw
              go_simp
              try (with_reducible rfl)
            try simp only [Act.put, List.getElem_toArray, List.getElem_cons_zero, List.getElem_cons_succ, List.setIfInBounds_toArray, List.set_cons_zero, List.set_cons_succ]
            refine wpAnyH_take (i := 1) (oi := _) (v := ?_) rfl (by kernel_rfl) (by kernel_rfl) (by kernel_rfl) (fun _ _ _ h => h) (Or.inl ⟨by kernel_rfl, ?_⟩) (by assumption) ?_
            rotate_left
            · intro w hSw
              try dsimp only at hSw
              go_simp
              try (with_reducible rfl)
            try simp only [Act.put, List.getElem_toArray, List.getElem_cons_zero, List.getElem_cons_succ, List.setIfInBounds_toArray, List.set_cons_zero, List.set_cons_succ]
            refine wpAnyH_take (i := 2) (oi := _) (v := ?_) rfl (by kernel_rfl) (by kernel_rfl) (by kernel_rfl) (fun _ _ _ h => h) (Or.inl ⟨by kernel_rfl, ?_⟩) (by assumption) ?_
            rotate_left
            · intro w hSw
              try dsimp only at hSw
              go_simp
              try (with_reducible rfl)
            try simp only [Act.put, List.getElem_toArray, List.getElem_cons_zero, List.getElem_cons_succ, List.setIfInBounds_toArray, List.set_cons_zero, List.set_cons_succ]
            refine wpAnyH_take (i := 3) (oi := _) (v := ?_) rfl (by kernel_rfl) (by kernel_rfl) (by kernel_rfl) (fun _ _ _ h => h) (Or.inl ⟨by kernel_rfl, ?_⟩) (by assumption) ?_
            rotate_left
            · intro w hSw
              try dsimp only at hSw
              go_simp
              try (with_reducible rfl)
            try simp only [Act.put, List.getElem_toArray, List.getElem_cons_zero, List.getElem_cons_succ, List.setIfInBounds_toArray, List.set_cons_zero, List.set_cons_succ]
            refine wpAnyH_take (i := 4) (oi := _) (v := ?_) rfl (by kernel_rfl) (by kernel_rfl) (by kernel_rfl) (fun _ _ _ h => h) (Or.inl ⟨by kernel_rfl, ?_⟩) (by assumption) ?_
            rotate_left
            · intro w hSw
              try dsimp only at hSw
              go_simp
              try (with_reducible rfl)
            try simp only [Act.put, List.getElem_toArray, List.getElem_cons_zero, List.getElem_cons_succ, List.setIfInBounds_toArray, List.set_cons_zero, List.set_cons_succ]
            refine wpAnyH_ready (rs := [5, 9]) (by kernel_rfl) (by simp) ?_
            refine AllReadyH.cons (o := _) rfl (fun K hK => ?_) (AllReadyH.cons (o := _) rfl (fun K hK => ?_) AllReadyH.nil)
            · skip
              go_simp
              go_at_call 23
              refine HI.out.mono ?_
              rintro e w7 ⟨D1, p1, D2, p2, D3, p3, rfl, S7, hM, hV⟩
              have hKey : Keep2 nb b wr w7 := (keep2_drew nb b wr).moves hV hnw hbw HF.out.nn hnb
              have hm7 := hM.alloc (.cells #[.int .i64 (r.1.states : Int), .int .i64 0, .slice D1 r.1.links.length p1, .slice D2 r.1.edges.length p2, .slice D3 r.1.accept.length p3] 36)
              have hv7 := (HF.out.mvs.drew.trans hV).alloc HF.out.hb (.cells #[.int .i64 (r.1.states : Int), .int .i64 0, .slice D1 r.1.links.length p1, .slice D2 r.1.edges.length p2, .slice D3 r.1.accept.length p3] 36)
              have hn7 := (HF.out.n.drew.moves hV HF.out.nn).alloc (.cells #[.int .i64 (r.1.states : Int), .int .i64 0, .slice D1 r.1.links.length p1, .slice D2 r.1.edges.length p2, .slice D3 r.1.accept.length p3] 36)
              have hnn7 := hV.notIn hnw HF.out.nn
              have hmm7 : ¬ S7 w7.heap.size := fun h => by have := (hM.lt _ h).2; omega
              have hge : w3.heap.size ≤ w7.heap.size := by have := HF.out.mvs.size; have : wr.heap.size ≤ w7.heap.size := hV.size; omega
              have hnlt : nb < w7.heap.size := Nat.lt_of_lt_of_le hnw hV.size
              have hblt : b < w7.heap.size := Nat.lt_of_lt_of_le hbw hV.size
              have HP := Lib.hid (show _ ∧ _ ∧ _ ∧ _ from ⟨hm7, hv7, hn7, Blk.new w7 36 #[.int .i64 (r.1.states : Int), .int .i64 0, .slice D1 r.1.links.length p1, .slice D2 r.1.edges.length p2, .slice D3 r.1.accept.length p3]⟩)
              have HQ := Lib.hid (show _ ∧ _ ∧ _ ∧ _ ∧ _ from ⟨hnn7, hmm7, hge, hnlt, hblt⟩)
              have HKEY := Lib.hid hKey
              clear hm7 hv7 hn7 hnn7 hmm7 hge hKey hM hV HI HJ c0 c1 c2 c3 c4 c5 c6 c7 y0 y1 y2 y3 y4 f0 f1 f2 f3 f4 hly
              unfold mvA
              dsimp only
              refine hK.out _ _ HKEY.out (fun _ => ?_)
              clear hK K hHeld
              try simp only [Act.put, List.getElem_toArray, List.getElem_cons_zero, List.getElem_cons_succ, List.setIfInBounds_toArray, List.set_cons_zero, List.set_cons_succ]
              refine wpAnyH_take (i := 6) (oi := _) (v := ?_) rfl (by kernel_rfl) (by kernel_rfl) (by kernel_rfl) (fun _ _ _ h => h) (Or.inl ⟨by kernel_rfl, ?_⟩) (by assumption) ?_
              rotate_left
              · intro w hSw
                try dsimp only at hSw
                go_simp
                try (with_reducible rfl)
              try simp only [Act.put, List.getElem_toArray, List.getElem_cons_zero, List.getElem_cons_succ, List.setIfInBounds_toArray, List.set_cons_zero, List.set_cons_succ]
              refine wpAnyH_take (i := 7) (oi := _) (v := ?_) rfl (by kernel_rfl) (by kernel_rfl) (by kernel_rfl) (fun _ _ _ h => h) (Or.inl ⟨by kernel_rfl, ?_⟩) (by assumption) ?_
              rotate_left
              · intro w hSw
                try dsimp only at hSw
                go_simp
                try (with_reducible rfl)
              try simp only [Act.put, List.getElem_toArray, List.getElem_cons_zero, List.getElem_cons_succ, List.setIfInBounds_toArray, List.set_cons_zero, List.set_cons_succ]
              refine wpAnyH_take (i := 8) (oi := _) (v := ?_) rfl (by kernel_rfl) (by kernel_rfl) (by kernel_rfl) (fun _ _ _ h => h) (Or.inl ⟨by kernel_rfl, ?_⟩) (by assumption) ?_
              rotate_left
              · intro w hSw
                try dsimp only at hSw
                go_simp
                try (with_reducible rfl)
              try simp only [Act.put, List.getElem_toArray, List.getElem_cons_zero, List.getElem_cons_succ, List.setIfInBounds_toArray, List.set_cons_zero, List.set_cons_succ]
              refine wpAnyH_ready (rs := [9]) (by kernel_rfl) (by simp) ?_
              refine AllReadyH.cons (o := _) rfl (fun K hK => ?_) AllReadyH.nil
              go_simp
              have HKEY9 := Lib.hid (Keep2.alloc HKEY.out HQ.out.2.2.2.1 HQ.out.2.2.2.2 (.cells #[.int .i64 0, .int .i64 0, .slice none 0 0, .slice none 0 0, .slice none 0 0] 36))
              refine hK.out _ _ HKEY9.out (fun _ => ?_)
              clear hK K
              try simp only [Act.put, List.getElem_toArray, List.getElem_cons_zero, List.getElem_cons_succ, List.setIfInBounds_toArray, List.set_cons_zero, List.set_cons_succ]
              refine wpAnyH_ready (rs := [10]) (by kernel_rfl) (by simp) ?_
              refine AllReadyH.cons (o := _) rfl (fun K hK => ?_) AllReadyH.nil
              go_simp
              refine hK.out _ _ (HKEY.out.alloc HQ.out.2.2.2.1 HQ.out.2.2.2.2 _) (fun _ => ?_)
              clear hK K
              try simp only [Act.put, List.getElem_toArray, List.getElem_cons_zero, List.getElem_cons_succ, List.setIfInBounds_toArray, List.set_cons_zero, List.set_cons_succ]
              refine wpAnyH_take (i := 11) (oi := _) (v := ?_) rfl (by kernel_rfl) (by kernel_rfl) (by kernel_rfl) (fun _ _ _ h => h) (Or.inl ⟨by kernel_rfl, ?_⟩) (by assumption) ?_
              rotate_left
              · intro w hSw
                try dsimp only at hSw
                go_simp
                try (with_reducible rfl)
              try simp only [Act.put, List.getElem_toArray, List.getElem_cons_zero, List.getElem_cons_succ, List.setIfInBounds_toArray, List.set_cons_zero, List.set_cons_succ]
              refine wpAnyH_done (by kernel_rfl) ?_ _
              have HM := Lib.hid HP.out.1
              have HV7 := Lib.hid HP.out.2.1
              have HN7 := Lib.hid HP.out.2.2.1
              have HB7 := Lib.hid HP.out.2.2.2
              have HNN := Lib.hid (show _ ∧ _ ∧ w7.heap.size ≠ nb ∧ w3.heap.size ≤ w7.heap.size from ⟨HQ.out.1, HQ.out.2.1, by omega, HQ.out.2.2.1⟩)
              clear HKEY HKEY9 HP HQ
              generalize w7.alloc (.cells #[.int .i64 (r.1.states : Int), .int .i64 0, .slice D1 r.1.links.length p1, .slice D2 r.1.edges.length p2, .slice D3 r.1.accept.length p3] 36) = w8 at *
              generalize w7.heap.size = mb at *
              have HC := Lib.hid (rstate_go w.heap.size S7 r.1 D1 p1 D2 p2 D3 p3 (k + 1) w8.drew HM.out.drew (by have := HV7.out.size; have := HF.out.hb; show w.heap.size ≤ w8.heap.size; omega) HF1.out.1)
              unfold mvA at HC
              have hB7 := HB7.out
              have y0 := (hB7).cell 0
              have y1 := (hB7).cell 1
              have y2 := (hB7).cell 2
              have y3 := (hB7).cell 3
              have y4 := (hB7).cell 4
              have f0 := (hB7).frozen 0
              have f1 := (hB7).frozen 1
              have f2 := (hB7).frozen 2
              have f3 := (hB7).frozen 3
              have f4 := (hB7).frozen 4
              have hly := (hB7).lt
              simp only [List.getElem?_toArray, List.getElem?_cons_zero, List.getElem?_cons_succ] at y0 y1 y2 y3 y4

              have x0 := HN7.out.cell 0
              have x1 := HN7.out.cell 1
              have x2 := HN7.out.cell 2
              have x3 := HN7.out.cell 3
              have x4 := HN7.out.cell 4
              have g0 := HN7.out.frozen 0
              have g1 := HN7.out.frozen 1
              have g2 := HN7.out.frozen 2
              have g3 := HN7.out.frozen 3
              have g4 := HN7.out.frozen 4
              have hln := HN7.out.lt
              clear hB7 x0 x1 x2 x3 x4 g0 g1 g2 g3 g4
              have hwk : IntKind.i64.wrap ((k : Int) + 1) = ((k + 1 : Nat) : Int) := by rw [IntWalk.i64_in _ (by omega)]; rfl
              go_upto_region 15 with fail
              refine wp_region_held_drew (S := fun w' => ∀ b' o', b' = (mb) ∨ b' = (mb) → w'.cell? ⟨b', o', none⟩ = w8.cell? ⟨b', o', none⟩) (by kernel_rfl) (keep2_drew (mb) (mb) w8) (fun hHeld => ?_)
              refine wpAnyH_take (i := 0) (oi := _) (v := ?_) rfl (by kernel_rfl) (by kernel_rfl) (by kernel_rfl) (fun _ _ _ h => h) (Or.inl ⟨by kernel_rfl, ?_⟩) (by assumption) ?_
              rotate_left
              · intro w hSw
                try dsimp only at hSw
                go_simp
                try (with_reducible rfl)
              try simp only [Act.put, List.getElem_toArray, List.getElem_cons_zero, List.getElem_cons_succ, List.setIfInBounds_toArray, List.set_cons_zero, List.set_cons_succ]

              refine wpAnyH_take (i := 1) (oi := _) (v := ?_) rfl (by kernel_rfl) (by kernel_rfl) (by kernel_rfl) (fun _ _ _ h => h) (Or.inl ⟨by kernel_rfl, ?_⟩) (by assumption) ?_
              rotate_left
              · intro w hSw
                try dsimp only at hSw
                go_simp
                try (with_reducible rfl)
              try simp only [Act.put, List.getElem_toArray, List.getElem_cons_zero, List.getElem_cons_succ, List.setIfInBounds_toArray, List.set_cons_zero, List.set_cons_succ]

              refine wpAnyH_take (i := 2) (oi := _) (v := ?_) rfl (by kernel_rfl) (by kernel_rfl) (by kernel_rfl) (fun _ _ _ h => h) (Or.inl ⟨by kernel_rfl, ?_⟩) (by assumption) ?_
              rotate_left
              · intro w hSw
                try dsimp only at hSw
                go_simp
                try (with_reducible rfl)
              try simp only [Act.put, List.getElem_toArray, List.getElem_cons_zero, List.getElem_cons_succ, List.setIfInBounds_toArray, List.set_cons_zero, List.set_cons_succ]

              refine wpAnyH_take (i := 4) (oi := _) (v := ?_) rfl (by kernel_rfl) (by kernel_rfl) (by kernel_rfl) (fun _ _ _ h => h) (Or.inl ⟨by kernel_rfl, ?_⟩) (by assumption) ?_
              rotate_left
              · intro w hSw
                try dsimp only at hSw
                go_simp
                try (with_reducible rfl)
              try simp only [Act.put, List.getElem_toArray, List.getElem_cons_zero, List.getElem_cons_succ, List.setIfInBounds_toArray, List.set_cons_zero, List.set_cons_succ]

              refine wpAnyH_take (i := 5) (oi := _) (v := ?_) rfl (by kernel_rfl) (by kernel_rfl) (by kernel_rfl) (fun _ _ _ h => h) (Or.inl ⟨by kernel_rfl, ?_⟩) (by assumption) ?_
              rotate_left
              · intro w hSw
                try dsimp only at hSw
                go_simp
                try (with_reducible rfl)
              try simp only [Act.put, List.getElem_toArray, List.getElem_cons_zero, List.getElem_cons_succ, List.setIfInBounds_toArray, List.set_cons_zero, List.set_cons_succ]

              refine wpAnyH_take (i := 6) (oi := _) (v := ?_) rfl (by kernel_rfl) (by kernel_rfl) (by kernel_rfl) (fun _ _ _ h => h) (Or.inl ⟨by kernel_rfl, ?_⟩) (by assumption) ?_
              rotate_left
              · intro w hSw
                try dsimp only at hSw
                go_simp
                try (with_reducible rfl)
              try simp only [Act.put, List.getElem_toArray, List.getElem_cons_zero, List.getElem_cons_succ, List.setIfInBounds_toArray, List.set_cons_zero, List.set_cons_succ]

              refine wpAnyH_ready (rs := [3]) (by kernel_rfl) (by simp) ?_
              refine AllReadyH.cons (o := _) rfl (fun K hK => ?_) AllReadyH.nil

              go_simp
              go_at_call 22
              refine HC.out.mono ?_
              rintro e w9 ⟨E1, q1, E2, q2, E3, q3, rfl, S9, hM9, hV9⟩
              have HKEY := Lib.hid (show Keep2 (mb) (mb) w8 w9 from (keep2_drew (mb) (mb) w8).moves hV9 hly hly HNN.out.2.1 HNN.out.2.1)
              have HN9 := Lib.hid (HN7.out.drew.moves hV9 HNN.out.1)
              have HV9 := Lib.hid (HV7.out.drew.trans hV9)
              have HS9 := Lib.hid (show ¬ S9 nb ∧ ¬ S9 (mb) from ⟨hV9.notIn hln HNN.out.1, hV9.notIn hly HNN.out.2.1⟩)
              have HC9 := Lib.hid (rlink_go w.heap.size S9 _ E1 q1 E2 q2 E3 q3 r.2 r.1.states w9 hM9 (by have := HV9.out.size; have := HF.out.hb; omega) HF2.out.2.1)
              have hly9 : (mb) < w9.heap.size := Nat.lt_of_lt_of_le hly hV9.size
              clear hM9 hV9 HC
              unfold mvA at HC9 ⊢
              dsimp only
              refine hK.out _ _ HKEY.out (fun _ => ?_)
              clear hK K hHeld
              try simp only [Act.put, List.getElem_toArray, List.getElem_cons_zero, List.getElem_cons_succ, List.setIfInBounds_toArray, List.set_cons_zero, List.set_cons_succ]

              refine wpAnyH_ready (rs := [7]) (by kernel_rfl) (by simp) ?_
              refine AllReadyH.cons (o := _) rfl (fun K hK => ?_) AllReadyH.nil

              go_simp
              go_at_call 24
              refine HC9.out.mono ?_
              rintro e w10 ⟨G1, j1, G2, j2, G3, j3, rfl, S10, hM10, hV10⟩
              have HK10 := Lib.hid (HKEY.out.moves hV10 hly9 hly9 HS9.out.2 HS9.out.2)
              have hN10 := HN9.out.moves hV10 HS9.out.1
              unfold mvA at hN10
              have x0 := hN10.cell 0
              have x1 := hN10.cell 1
              have x2 := hN10.cell 2
              have x3 := hN10.cell 3
              have x4 := hN10.cell 4
              have g0 := hN10.frozen 0
              have g1 := hN10.frozen 1
              have g2 := hN10.frozen 2
              have g3 := hN10.frozen 3
              have g4 := hN10.frozen 4
              have hl10 := hN10.lt
              simp only [List.getElem?_toArray, List.getElem?_cons_zero, List.getElem?_cons_succ] at x0 x1 x2 x3 x4
              have HR10 := Lib.hid (show _ ∧ _ ∧ _ ∧ ¬ S10 nb from ⟨hN10, hM10, HV9.out.trans hV10, hV10.notIn HN9.out.lt HS9.out.1⟩)
              clear hM10 hV10 hN10 HC9
              unfold mvA
              dsimp only
              refine hK.out _ _ HK10.out (fun _ => ?_)
              clear hK K
              try simp only [Act.put, List.getElem_toArray, List.getElem_cons_zero, List.getElem_cons_succ, List.setIfInBounds_toArray, List.set_cons_zero, List.set_cons_succ]

              refine wpAnyH_ready (rs := [8]) (by kernel_rfl) (by simp) ?_
              refine AllReadyH.cons (o := _) rfl (fun K hK => ?_) AllReadyH.nil

              go_simp
              refine hK.out _ _ (HK10.out.set5 HNN.out.2.2.1 HNN.out.2.2.1 _ _ _ _ _) (fun _ => ?_)
              clear hK K
              try simp only [Act.put, List.getElem_toArray, List.getElem_cons_zero, List.getElem_cons_succ, List.setIfInBounds_toArray, List.set_cons_zero, List.set_cons_succ]

              refine wpAnyH_done (by kernel_rfl) ?_ _
              go_wp2
              go_roundw
              case rel =>
                refine ⟨k + 1, by go_num, by omega, Lib.hid ?_⟩
                rw [HO.out]
                exact ⟨S10, G1, j1, G2, j2, G3, j3, Blk.set5N HR10.out.1 _ _ _ _ _, HR10.out.2.1.set5 HR10.out.2.2.2 _ _ _ _ _, HR10.out.2.2.1.set5 HF.out.nb0 HF.out.hb _ _ _ _ _, HR10.out.2.2.2, HF.out.nb0, HF.out.hb⟩
              case measure => simp [intOf]; omega
            · skip
              go_simp
              have HKEY9 := Lib.hid (Keep2.alloc (keep2_drew nb b wr) hnw hbw (.cells #[.int .i64 0, .int .i64 0, .slice none 0 0, .slice none 0 0, .slice none 0 0] 36))
              refine hK.out _ _ HKEY9.out (fun _ => ?_)
              clear hK K hHeld
              try simp only [Act.put, List.getElem_toArray, List.getElem_cons_zero, List.getElem_cons_succ, List.setIfInBounds_toArray, List.set_cons_zero, List.set_cons_succ]
              refine wpAnyH_ready (rs := [5]) (by kernel_rfl) (by simp) ?_
              refine AllReadyH.cons (o := _) rfl (fun K hK => ?_) AllReadyH.nil
              go_simp
              go_at_call 23
              refine HJ.out.mono ?_
              rintro e w7 ⟨D1, p1, D2, p2, D3, p3, rfl, S7, hM, hV⟩
              have hnS : ¬ S1 wr.heap.size := fun h => by have := (HF.out.mv.lt _ h).2; omega
              have hsz1 : (wr.drew.alloc (.cells #[.int .i64 0, .int .i64 0, .slice none 0 0, .slice none 0 0, .slice none 0 0] 36)).heap.size = wr.heap.size + 1 := by simp
              have hKey : Keep2 nb b wr w7 := HKEY9.out.moves hV (by omega) (by omega) HF.out.nn hnb
              have hv7 := (HF.out.mvs.drew.alloc HF.out.hb (.cells #[.int .i64 0, .int .i64 0, .slice none 0 0, .slice none 0 0, .slice none 0 0] 36)).trans hV
              have hn7 := (HF.out.n.drew.alloc (.cells #[.int .i64 0, .int .i64 0, .slice none 0 0, .slice none 0 0, .slice none 0 0] 36)).moves hV HF.out.nn
              have hb7 : Blk w7 wr.heap.size 36 #[.int .i64 0, .int .i64 0, .slice none 0 0, .slice none 0 0, .slice none 0 0] := (Blk.new_at (w := wr.drew) rfl).moves hV hnS
              have hnn7 := hV.notIn (by omega) HF.out.nn
              have hmm7 : ¬ S7 wr.heap.size := hV.notIn (by omega) hnS
              have HP := Lib.hid (show _ ∧ _ ∧ _ ∧ _ from ⟨hM, hv7, hn7, hb7⟩)
              have HQ := Lib.hid (show _ ∧ _ from ⟨hnn7, hmm7⟩)
              have HKEY := Lib.hid hKey
              have HLT := Lib.hid (show w3.heap.size ≤ wr.heap.size by have := HF.out.mvs.size; omega)
              have y0 := (hb7).cell 0
              have y1 := (hb7).cell 1
              have y2 := (hb7).cell 2
              have y3 := (hb7).cell 3
              have y4 := (hb7).cell 4
              have f0 := (hb7).frozen 0
              have f1 := (hb7).frozen 1
              have f2 := (hb7).frozen 2
              have f3 := (hb7).frozen 3
              have f4 := (hb7).frozen 4
              have hly := (hb7).lt
              simp only [List.getElem?_toArray, List.getElem?_cons_zero, List.getElem?_cons_succ] at y0 y1 y2 y3 y4
              clear hv7 hn7 hnn7 hmm7 hKey hM hV HI HJ c0 c1 c2 c3 c4 c5 c6 c7 hb7 hnS hsz1 HKEY9
              unfold mvA
              dsimp only
              refine hK.out _ _ HKEY.out (fun _ => ?_)
              clear hK K
              try simp only [Act.put, List.getElem_toArray, List.getElem_cons_zero, List.getElem_cons_succ, List.setIfInBounds_toArray, List.set_cons_zero, List.set_cons_succ]
              refine wpAnyH_take (i := 6) (oi := _) (v := ?_) rfl (by kernel_rfl) (by kernel_rfl) (by kernel_rfl) (fun _ _ _ h => h) (Or.inl ⟨by kernel_rfl, ?_⟩) (by assumption) ?_
              rotate_left
              · intro w hSw
                try dsimp only at hSw
                go_simp
                try (with_reducible rfl)
              try simp only [Act.put, List.getElem_toArray, List.getElem_cons_zero, List.getElem_cons_succ, List.setIfInBounds_toArray, List.set_cons_zero, List.set_cons_succ]
              refine wpAnyH_take (i := 7) (oi := _) (v := ?_) rfl (by kernel_rfl) (by kernel_rfl) (by kernel_rfl) (fun _ _ _ h => h) (Or.inl ⟨by kernel_rfl, ?_⟩) (by assumption) ?_
              rotate_left
              · intro w hSw
                try dsimp only at hSw
                go_simp
                try (with_reducible rfl)
              try simp only [Act.put, List.getElem_toArray, List.getElem_cons_zero, List.getElem_cons_succ, List.setIfInBounds_toArray, List.set_cons_zero, List.set_cons_succ]
              refine wpAnyH_take (i := 8) (oi := _) (v := ?_) rfl (by kernel_rfl) (by kernel_rfl) (by kernel_rfl) (fun _ _ _ h => h) (Or.inl ⟨by kernel_rfl, ?_⟩) (by assumption) ?_
              rotate_left
              · intro w hSw
                try dsimp only at hSw
                go_simp
                try (with_reducible rfl)
              try simp only [Act.put, List.getElem_toArray, List.getElem_cons_zero, List.getElem_cons_succ, List.setIfInBounds_toArray, List.set_cons_zero, List.set_cons_succ]
              refine wpAnyH_ready (rs := [10]) (by kernel_rfl) (by simp) ?_
              refine AllReadyH.cons (o := _) rfl (fun K hK => ?_) AllReadyH.nil
              go_simp
              refine hK.out _ _ (HKEY.out.set5 (by omega) (by omega) _ _ _ _ _) (fun _ => ?_)
              clear hK K
              try simp only [Act.put, List.getElem_toArray, List.getElem_cons_zero, List.getElem_cons_succ, List.setIfInBounds_toArray, List.set_cons_zero, List.set_cons_succ]
              refine wpAnyH_take (i := 11) (oi := _) (v := ?_) rfl (by kernel_rfl) (by kernel_rfl) (by kernel_rfl) (fun _ _ _ h => h) (Or.inl ⟨by kernel_rfl, ?_⟩) (by assumption) ?_
              rotate_left
              · intro w hSw
                try dsimp only at hSw
                go_simp
                try (with_reducible rfl)
              try simp only [Act.put, List.getElem_toArray, List.getElem_cons_zero, List.getElem_cons_succ, List.setIfInBounds_toArray, List.set_cons_zero, List.set_cons_succ]
              refine wpAnyH_done (by kernel_rfl) ?_ _
              have HM := Lib.hid (HP.out.1.set5 HQ.out.2 (.int .i64 (r.1.states : Int)) (.int .i64 0) (.slice D1 r.1.links.length p1) (.slice D2 r.1.edges.length p2) (.slice D3 r.1.accept.length p3))
              have HV7 := Lib.hid (HP.out.2.1.set5 HLT.out HF.out.hb (.int .i64 (r.1.states : Int)) (.int .i64 0) (.slice D1 r.1.links.length p1) (.slice D2 r.1.edges.length p2) (.slice D3 r.1.accept.length p3))
              have HN7 : Hid (Blk _ nb 36 _) := Lib.hid ((heap_set5N (show nb ≠ wr.heap.size by omega) (.int .i64 (r.1.states : Int)) (.int .i64 0) (.slice D1 r.1.links.length p1) (.slice D2 r.1.edges.length p2) (.slice D3 r.1.accept.length p3)).trans HP.out.2.2.1)
              have HB7 := Lib.hid (Blk.set5N HP.out.2.2.2 (.int .i64 (r.1.states : Int)) (.int .i64 0) (.slice D1 r.1.links.length p1) (.slice D2 r.1.edges.length p2) (.slice D3 r.1.accept.length p3))
              have HNN := Lib.hid (show _ ∧ _ ∧ wr.heap.size ≠ nb ∧ w3.heap.size ≤ wr.heap.size from ⟨HQ.out.1, HQ.out.2, by omega, HLT.out⟩)
              clear HKEY HP HQ y0 y1 y2 y3 y4 f0 f1 f2 f3 f4 hly
              generalize (((((w7.setCell ⟨wr.heap.size, 0, none⟩ (.int .i64 (r.1.states : Int))).setCell ⟨wr.heap.size, 1, none⟩ (.int .i64 0)).setCell ⟨wr.heap.size, 2, none⟩ (.slice D1 r.1.links.length p1)).setCell ⟨wr.heap.size, 3, none⟩ (.slice D2 r.1.edges.length p2)).setCell ⟨wr.heap.size, 4, none⟩ (.slice D3 r.1.accept.length p3)) = w8 at *
              have HC := Lib.hid (rstate_go w.heap.size S7 r.1 D1 p1 D2 p2 D3 p3 (k + 1) w8.drew HM.out.drew (by have := HV7.out.size; have := HF.out.hb; show w.heap.size ≤ w8.heap.size; omega) HF1.out.1)
              unfold mvA at HC
              have hB7 := HB7.out
              have y0 := (hB7).cell 0
              have y1 := (hB7).cell 1
              have y2 := (hB7).cell 2
              have y3 := (hB7).cell 3
              have y4 := (hB7).cell 4
              have f0 := (hB7).frozen 0
              have f1 := (hB7).frozen 1
              have f2 := (hB7).frozen 2
              have f3 := (hB7).frozen 3
              have f4 := (hB7).frozen 4
              have hly := (hB7).lt
              simp only [List.getElem?_toArray, List.getElem?_cons_zero, List.getElem?_cons_succ] at y0 y1 y2 y3 y4

              have x0 := HN7.out.cell 0
              have x1 := HN7.out.cell 1
              have x2 := HN7.out.cell 2
              have x3 := HN7.out.cell 3
              have x4 := HN7.out.cell 4
              have g0 := HN7.out.frozen 0
              have g1 := HN7.out.frozen 1
              have g2 := HN7.out.frozen 2
              have g3 := HN7.out.frozen 3
              have g4 := HN7.out.frozen 4
              have hln := HN7.out.lt
              clear hB7 x0 x1 x2 x3 x4 g0 g1 g2 g3 g4
              have hwk : IntKind.i64.wrap ((k : Int) + 1) = ((k + 1 : Nat) : Int) := by rw [IntWalk.i64_in _ (by omega)]; rfl
              go_upto_region 15 with fail
              refine wp_region_held_drew (S := fun w' => ∀ b' o', b' = (wr.heap.size) ∨ b' = (wr.heap.size) → w'.cell? ⟨b', o', none⟩ = w8.cell? ⟨b', o', none⟩) (by kernel_rfl) (keep2_drew (wr.heap.size) (wr.heap.size) w8) (fun hHeld => ?_)
              refine wpAnyH_take (i := 0) (oi := _) (v := ?_) rfl (by kernel_rfl) (by kernel_rfl) (by kernel_rfl) (fun _ _ _ h => h) (Or.inl ⟨by kernel_rfl, ?_⟩) (by assumption) ?_
              rotate_left
              · intro w hSw
                try dsimp only at hSw
                go_simp
                try (with_reducible rfl)
              try simp only [Act.put, List.getElem_toArray, List.getElem_cons_zero, List.getElem_cons_succ, List.setIfInBounds_toArray, List.set_cons_zero, List.set_cons_succ]

              refine wpAnyH_take (i := 1) (oi := _) (v := ?_) rfl (by kernel_rfl) (by kernel_rfl) (by kernel_rfl) (fun _ _ _ h => h) (Or.inl ⟨by kernel_rfl, ?_⟩) (by assumption) ?_
              rotate_left
              · intro w hSw
                try dsimp only at hSw
                go_simp
                try (with_reducible rfl)
              try simp only [Act.put, List.getElem_toArray, List.getElem_cons_zero, List.getElem_cons_succ, List.setIfInBounds_toArray, List.set_cons_zero, List.set_cons_succ]

              refine wpAnyH_take (i := 2) (oi := _) (v := ?_) rfl (by kernel_rfl) (by kernel_rfl) (by kernel_rfl) (fun _ _ _ h => h) (Or.inl ⟨by kernel_rfl, ?_⟩) (by assumption) ?_
              rotate_left
              · intro w hSw
                try dsimp only at hSw
                go_simp
                try (with_reducible rfl)
              try simp only [Act.put, List.getElem_toArray, List.getElem_cons_zero, List.getElem_cons_succ, List.setIfInBounds_toArray, List.set_cons_zero, List.set_cons_succ]

              refine wpAnyH_take (i := 4) (oi := _) (v := ?_) rfl (by kernel_rfl) (by kernel_rfl) (by kernel_rfl) (fun _ _ _ h => h) (Or.inl ⟨by kernel_rfl, ?_⟩) (by assumption) ?_
              rotate_left
              · intro w hSw
                try dsimp only at hSw
                go_simp
                try (with_reducible rfl)
              try simp only [Act.put, List.getElem_toArray, List.getElem_cons_zero, List.getElem_cons_succ, List.setIfInBounds_toArray, List.set_cons_zero, List.set_cons_succ]

              refine wpAnyH_take (i := 5) (oi := _) (v := ?_) rfl (by kernel_rfl) (by kernel_rfl) (by kernel_rfl) (fun _ _ _ h => h) (Or.inl ⟨by kernel_rfl, ?_⟩) (by assumption) ?_
              rotate_left
              · intro w hSw
                try dsimp only at hSw
                go_simp
                try (with_reducible rfl)
              try simp only [Act.put, List.getElem_toArray, List.getElem_cons_zero, List.getElem_cons_succ, List.setIfInBounds_toArray, List.set_cons_zero, List.set_cons_succ]

              refine wpAnyH_take (i := 6) (oi := _) (v := ?_) rfl (by kernel_rfl) (by kernel_rfl) (by kernel_rfl) (fun _ _ _ h => h) (Or.inl ⟨by kernel_rfl, ?_⟩) (by assumption) ?_
              rotate_left
              · intro w hSw
                try dsimp only at hSw
                go_simp
                try (with_reducible rfl)
              try simp only [Act.put, List.getElem_toArray, List.getElem_cons_zero, List.getElem_cons_succ, List.setIfInBounds_toArray, List.set_cons_zero, List.set_cons_succ]

              refine wpAnyH_ready (rs := [3]) (by kernel_rfl) (by simp) ?_
              refine AllReadyH.cons (o := _) rfl (fun K hK => ?_) AllReadyH.nil

              go_simp
              go_at_call 22
              refine HC.out.mono ?_
              rintro e w9 ⟨E1, q1, E2, q2, E3, q3, rfl, S9, hM9, hV9⟩
              have HKEY := Lib.hid (show Keep2 (wr.heap.size) (wr.heap.size) w8 w9 from (keep2_drew (wr.heap.size) (wr.heap.size) w8).moves hV9 hly hly HNN.out.2.1 HNN.out.2.1)
              have HN9 := Lib.hid (HN7.out.drew.moves hV9 HNN.out.1)
              have HV9 := Lib.hid (HV7.out.drew.trans hV9)
              have HS9 := Lib.hid (show ¬ S9 nb ∧ ¬ S9 (wr.heap.size) from ⟨hV9.notIn hln HNN.out.1, hV9.notIn hly HNN.out.2.1⟩)
              have HC9 := Lib.hid (rlink_go w.heap.size S9 _ E1 q1 E2 q2 E3 q3 r.2 r.1.states w9 hM9 (by have := HV9.out.size; have := HF.out.hb; omega) HF2.out.2.1)
              have hly9 : (wr.heap.size) < w9.heap.size := Nat.lt_of_lt_of_le hly hV9.size
              clear hM9 hV9 HC
              unfold mvA at HC9 ⊢
              dsimp only
              refine hK.out _ _ HKEY.out (fun _ => ?_)
              clear hK K hHeld
              try simp only [Act.put, List.getElem_toArray, List.getElem_cons_zero, List.getElem_cons_succ, List.setIfInBounds_toArray, List.set_cons_zero, List.set_cons_succ]

              refine wpAnyH_ready (rs := [7]) (by kernel_rfl) (by simp) ?_
              refine AllReadyH.cons (o := _) rfl (fun K hK => ?_) AllReadyH.nil

              go_simp
              go_at_call 24
              refine HC9.out.mono ?_
              rintro e w10 ⟨G1, j1, G2, j2, G3, j3, rfl, S10, hM10, hV10⟩
              have HK10 := Lib.hid (HKEY.out.moves hV10 hly9 hly9 HS9.out.2 HS9.out.2)
              have hN10 := HN9.out.moves hV10 HS9.out.1
              unfold mvA at hN10
              have x0 := hN10.cell 0
              have x1 := hN10.cell 1
              have x2 := hN10.cell 2
              have x3 := hN10.cell 3
              have x4 := hN10.cell 4
              have g0 := hN10.frozen 0
              have g1 := hN10.frozen 1
              have g2 := hN10.frozen 2
              have g3 := hN10.frozen 3
              have g4 := hN10.frozen 4
              have hl10 := hN10.lt
              simp only [List.getElem?_toArray, List.getElem?_cons_zero, List.getElem?_cons_succ] at x0 x1 x2 x3 x4
              have HR10 := Lib.hid (show _ ∧ _ ∧ _ ∧ ¬ S10 nb from ⟨hN10, hM10, HV9.out.trans hV10, hV10.notIn HN9.out.lt HS9.out.1⟩)
              clear hM10 hV10 hN10 HC9
              unfold mvA
              dsimp only
              refine hK.out _ _ HK10.out (fun _ => ?_)
              clear hK K
              try simp only [Act.put, List.getElem_toArray, List.getElem_cons_zero, List.getElem_cons_succ, List.setIfInBounds_toArray, List.set_cons_zero, List.set_cons_succ]

              refine wpAnyH_ready (rs := [8]) (by kernel_rfl) (by simp) ?_
              refine AllReadyH.cons (o := _) rfl (fun K hK => ?_) AllReadyH.nil

              go_simp
              refine hK.out _ _ (HK10.out.set5 HNN.out.2.2.1 HNN.out.2.2.1 _ _ _ _ _) (fun _ => ?_)
              clear hK K
              try simp only [Act.put, List.getElem_toArray, List.getElem_cons_zero, List.getElem_cons_succ, List.setIfInBounds_toArray, List.set_cons_zero, List.set_cons_succ]

              refine wpAnyH_done (by kernel_rfl) ?_ _
              go_wp2
              go_roundw
              case rel =>
                refine ⟨k + 1, by go_num, by omega, Lib.hid ?_⟩
                rw [HO.out]
                exact ⟨S10, G1, j1, G2, j2, G3, j3, Blk.set5N HR10.out.1 _ _ _ _ _, HR10.out.2.1.set5 HR10.out.2.2.2 _ _ _ _ _, HR10.out.2.2.1.set5 HF.out.nb0 HF.out.hb _ _ _ _ _, HR10.out.2.2.2, HF.out.nb0, HF.out.hb⟩
              case measure => simp [intOf]; omega
          · obtain rfl : k = F.len := by omega
            have hdl : ¬ ((F.len : Int) < (F.len : Int)) := by omega
            have hV : F.list.take F.len = F.list := by rw [← Trees.len_list, List.take_length]
            rw [hV] at HM
            have hmm : layAll F.list 0 ⟨[0], [], []⟩ = machS F.list := rfl
            rw [hmm] at HM
            obtain ⟨S1, C1, l1, C2, l2, C3, l3, hF⟩ := HM.out
            have hXr : Blk wr w.heap.size 36 #[.int .i64 0, .int .i64 0, .slice none 0 0, .slice none 0 0, .slice none 0 0] := HX3.out.moves hF.mvs (fun h => h)
            have hn := hF.n
            unfold mvA at hn
            have y0 := (hXr).cell 0
            have y1 := (hXr).cell 1
            have y2 := (hXr).cell 2
            have y3 := (hXr).cell 3
            have y4 := (hXr).cell 4
            have f0 := (hXr).frozen 0
            have f1 := (hXr).frozen 1
            have f2 := (hXr).frozen 2
            have f3 := (hXr).frozen 3
            have f4 := (hXr).frozen 4
            have hly := (hXr).lt
            simp only [List.getElem?_toArray, List.getElem?_cons_zero, List.getElem?_cons_succ] at y0 y1 y2 y3 y4
            have x0 := hn.cell 0
            have x1 := hn.cell 1
            have x2 := hn.cell 2
            have x3 := hn.cell 3
            have x4 := hn.cell 4
            have hln := hn.lt
            simp only [List.getElem?_toArray, List.getElem?_cons_zero, List.getElem?_cons_succ] at x0 x1 x2 x3 x4
            have hns : ¬ S1 w.heap.size := fun h => by
              rcases hF.mvs.fresh _ h with h | h
              · exact h
              · have := HX3.out.lt; omega
            have HQ := Lib.hid (show _ ∧ _ ∧ _ ∧ _ ∧ _ from ⟨hF.mv.rows, hF.mv.in3, hns, HB3.out.trans hF.mvs.below, hXr⟩)
            clear HM hF hXr hn hns hV hmm
            generalize machS F.list = mf at *
            go_wp2
            go_light
            have hX9 := ((((HQ.out.2.2.2.2.set_ 0 (.int .i64 (mf.states : Int))).set_ 1 (.int .i64 0)).set_ 2 (.slice C1 mf.links.length l1)).set_ 3 (.slice C2 mf.edges.length l2)).set_ 4 (.slice C3 mf.accept.length l3)
            refine bodyPost_ret (ret_nfa Tryz.results8 rfl rfl hX9) rfl ?_
            rw [HV.out]
            refine ⟨((((HQ.out.2.2.2.1.setCell (p := ⟨w.heap.size, 0, none⟩) (Nat.le_refl _) _).setCell (p := ⟨w.heap.size, 1, none⟩) (Nat.le_refl _) _).setCell (p := ⟨w.heap.size, 2, none⟩) (Nat.le_refl _) _).setCell (p := ⟨w.heap.size, 3, none⟩) (Nat.le_refl _) _).setCell (p := ⟨w.heap.size, 4, none⟩) (Nat.le_refl _) _, _, _, _, rfl, ?_⟩
            exact HQ.out.1.keep HQ.out.2.1 (fun b hb => heap_set5 (show b ≠ w.heap.size from fun e => HQ.out.2.2.1 (by rw [← e]; exact hb)) _ _ _ _ _)
/-- The reference's Of. -/
theorem rof16_go (F : Trees) (B : Option Addr) (cap : Nat) (w : World) (hl : F.len ≤ 140737488355328) (hs : ∀ z ∈ F.list, z.size ≤ 140737488355328) (ht : TreesAt w (fun b => b < w.heap.size) F B) :
    Calls Tryz.prog 8 #[.slice B F.len cap] w (NfaOut (ofS F.list) w) := by
  rcases Nat.lt_or_ge 64 F.len with h | h
  · exact rof16_many F B cap w hl h
  · exact rof16_rest F B cap w hl h hs ht
end Go.Proofs.YtchfipjclbpomaaGreat
