/- Texts of the claim. -/
import Derived.Test.YtofbfafnpdaejaaGreatDoorJSimH
import Derived.Test.YtofbfafnpdaejaaGreatDoorJSimRt
set_option linter.all false
set_option maxRecDepth 100000
set_option maxHeartbeats 8000000
namespace Go.Proofs.YtofbfafnpdaejaaGreatDoor
open Go.RowKit
def OldT (P : Nat → Prop) (x : Nd) (w : World) (e : Ending) (w' : World) : Prop := ∃ B' cap', e = .returned (ndV x B' cap') ∧ Below w.heap.size w w' ∧ x.kids.len ≤ cap' ∧ TreesAt w' (fun b => P b ∨ w.heap.size ≤ b) x.kids B'
theorem TreesAt.notNew {w : World} {P : Nat → Prop} {g : Nat} (hZ : Blk w g 28 #[.int .i64 0, .int .u64 0, .int .u64 0, .int .u64 0, .int .u64 0, .slice none 0 0, .int .i64 0, .int .i64 0]) : ∀ {F : Trees} {A : Option Addr}, TreesAt w P F A → (∀ y ∈ F.nodes, y.kind ≠ 0) → TreesAt w (fun b => P b ∧ b ≠ g) F A
 | .nil, _, _, _ => trivial
 | .cons k s ks lo hi r, A, ⟨b, o, B, cap, hA, hb, hc, hn, h1, h2⟩, hk => by
  have hne : b ≠ g := fun e => by
   subst e
   have h0 := hn.1
   have hkk : k ≠ 0 := hk ⟨k, s, ks, lo, hi⟩ (by simp [Trees.nodes])
   rcases (by omega : o = 0 ∨ o = 1 ∨ o = 2 ∨ o = 3 ∨ o = 4 ∨ o = 5 ∨ o = 6 ∨ o = 7 ∨ 8 ≤ o) with rfl | rfl | rfl | rfl | rfl | rfl | rfl | rfl | ho
   ·rw [hZ.cell 0] at h0
    simp at h0
    omega
   ·rw [hZ.cell 1] at h0
    simp at h0
   ·rw [hZ.cell 2] at h0
    simp at h0
   ·rw [hZ.cell 3] at h0
    simp at h0
   ·rw [hZ.cell 4] at h0
    simp at h0
   ·rw [hZ.cell 5] at h0
    simp at h0
   ·rw [hZ.cell 6] at h0
    simp at h0
    omega
   ·rw [hZ.cell 7] at h0
    simp at h0
    omega
   ·rw [hZ.cell o] at h0
    rw [Array.getElem?_eq_none (by simpa using ho)] at h0
    cases h0
  exact ⟨b, o, B, cap, hA, ⟨hb, hne⟩, hc, hn, h1.notNew hZ (fun y hy => hk y (by simp [Trees.nodes, hy])), h2.notNew hZ (fun y hy => hk y (by simp [Trees.nodes, hy]))⟩
theorem ok_kind {y : Nd} (h : OkN y) : y.kind ≠ 0 := by
 have := h.2
 omega
theorem sg_kids {x : Nd} (h : SG x) : ∀ y ∈ x.kids.nodes, y.kind ≠ 0 := fun y hy => ok_kind (h y (List.mem_cons_of_mem _ hy)).1
theorem old_put {w w2 : World} {x : Nd} {B : Option Addr} {cap : Nat} (hx : SG x) (hZ : Blk w2 w.heap.size 28 #[.int .i64 0, .int .u64 0, .int .u64 0, .int .u64 0, .int .u64 0, .slice none 0 0, .int .i64 0, .int .i64 0]) (hB : Below w.heap.size w w2) {P P2 : Nat → Prop} (hP : ∀ b, P b → b < w.heap.size) (hP2 : ∀ b, P2 b → P b ∨ w.heap.size ≤ b) (ht : TreesAt w2 P2 x.kids B) {w' : World}
  (hw' : w' = ((((((((w2.setCell ⟨w.heap.size, 0, none⟩ (.int .i64 x.kind)).setCell ⟨w.heap.size, 1, none⟩ (.int .u64 (word x.set.testBit 0))).setCell ⟨w.heap.size, 2, none⟩ (.int .u64 (word x.set.testBit 1))).setCell ⟨w.heap.size, 3, none⟩ (.int .u64 (word x.set.testBit 2))).setCell ⟨w.heap.size, 4, none⟩ (.int .u64 (word x.set.testBit 3))).setCell ⟨w.heap.size, 5, none⟩ (.slice B x.kids.len cap)).setCell ⟨w.heap.size, 6, none⟩ (.int .i64 x.lo)).setCell ⟨w.heap.size, 7, none⟩ (.int .i64 x.hi))) :
  Blk w' w.heap.size 28 (ndA x B cap) ∧ Below w.heap.size w w' ∧ TreesAt w' (fun b => P b ∨ w.heap.size ≤ b) x.kids B := by
 have h := ht.notNew hZ (sg_kids hx)
 exact flat_put (P := P) hZ hB (h.weak (Q := OrNew (fun b => P b ∧ b < w.heap.size) (w.heap.size + 1)) (fun b hb _ => by
  have h2 := hb.2
  rcases hP2 b hb.1 with h1 | h1
  ·exact .inl ⟨h1, hP b h1⟩
  ·right
   omega)) hw'
theorem flatq_sg {k : Int} {l : List Nd} (h : ∀ x ∈ l, SG x) : ∀ z ∈ l.flatMap (flatQ k), SG z := by
 intro z hz
 obtain ⟨x, hx, hz⟩ := List.mem_flatMap.1 hz
 unfold flatQ at hz
 split at hz
 ·exact (sg_iff.1 (h x hx)).2 z hz
 ·obtain rfl : z = x := by simpa using hz
  exact h z hx
theorem filter_take {L : List Nd} {p : Nd → Bool} {i : Nat} {z : Nd} (h : L[i]? = some z) : (L.take (i + 1)).filter p = (L.take i).filter p ++ (if p z = true then [z] else []) := by
 rw [List.take_add_one, h, List.filter_append]
 cases hp : p z <;> simp [hp]
theorem sum_filter (p : Nd → Bool) : ∀ l : List Nd, (l.filter p).length ≤ l.length := fun l => List.length_filter_le p l
theorem rcat12_go (F : Trees) (B : Option Addr) (cap : Nat) (w : World) (hlen : F.size ≤ 20000000) (hgood : ∀ x ∈ F.list, SG x) {P : Nat → Prop} (hP : ∀ b, P b → b < w.heap.size) (ht : TreesAt w P F B) :
  Calls Tryz.prog 28 #[.slice B F.len cap] w (OldT P (catQ F.list) w) := by
 obtain ⟨L, hL⟩ : ∃ L, F.list.flatMap (flatQ 4) = L := ⟨_, rfl⟩
 have hsm := (flatq_small 4 F).2
 have hsg := flatq_sg (k := 4) hgood
 have hres : SG (catQ F.list) := by rw [catQ_eq hgood]; exact catP_sg hgood
 have HV := Lib.hid (show catQ F.list = if L.any (isK 1) = true then noneN else manyN 4 2 (L.filter (fun x => !isK 2 x)) by unfold catQ; rw [hL])
 have HRS := Lib.hid hres
 rw [hL] at hsm hsg
 have HSG := Lib.hid hsg
 have hb1 : Below w.heap.size w (w.alloc (.cells #[.int .i64 0, .int .u64 0, .int .u64 0, .int .u64 0, .int .u64 0, .slice none 0 0, .int .i64 0, .int .i64 0] 28)) := (Below.refl _ _).alloc (Nat.le_refl _) _
 have HB1 := Lib.hid hb1
 have HZ1 := Lib.hid (Blk.new w 28 #[.int .i64 0, .int .u64 0, .int .u64 0, .int .u64 0, .int .u64 0, .slice none 0 0, .int .i64 0, .int .i64 0])
 have HF := Lib.hid (rflat12_go 4 F B cap (w.alloc (.cells #[.int .i64 0, .int .u64 0, .int .u64 0, .int .u64 0, .int .u64 0, .slice none 0 0, .int .i64 0, .int .i64 0] 28)) L hL (by omega) (fun b h => Nat.lt_of_lt_of_le (hP b h) hb1.size) (ht.below hb1))
 clear ht hb1 hL hsg hgood hres
 go_enter Tryz.func28, Tryz.ntmps28
 go_wp2_with fail
 refine HF.out.mono ?_
 rintro e w2 ⟨A2, c2, rfl, hb2, hc2, ht2⟩
 have HZ2 := Lib.hid (HZ1.out.below hb2 HZ1.out.lt)
 have HB2 := Lib.hid (HB1.out.trans (hb2.mono HB1.out.size))
 have HT2 := Lib.hid (ht2.keep (Q := fun b => (P b ∨ w.heap.size ≤ b) ∧ b < w2.heap.size) (fun _ _ _ _ => rfl) (fun b h hl => ⟨h.imp id (fun h => Nat.le_trans HB1.out.size h), hl⟩))
 have HM := Lib.hid (orow_made (fun b => (P b ∨ w.heap.size ≤ b) ∧ b < w2.heap.size) w2)
 clear hb2 ht2 HF HZ1 HB1
 dsimp only
 go_wp2
 go_loopw [4, 5] (fun u i wr => ∃ j : Nat, i = .int .i64 (j : Int) ∧ j ≤ L.length ∧ Hid (∀ (m : Nat) (z : Nd), m < j → L[m]? = some z → z.kind ≠ 1) ∧ Hid (QRow (fun b => (P b ∨ w.heap.size ≤ b) ∧ b < w2.heap.size) w2.heap.size w2 ((L.take j).filter (fun x => !isK 2 x)) u wr)) (fun _ i _ => L.length - (intOf i).toNat)
 case atStart => exact ⟨0, rfl, Nat.zero_le _, Lib.hid (fun m z hm => by omega), HM⟩
 case round =>
  clear HM
  obtain ⟨j, rfl, hk, HN, HR⟩ := hrel
  by_cases hlt : j < L.length
  ·obtain ⟨z, hz⟩ : ∃ z, L[j]? = some z := ⟨_, List.getElem?_eq_getElem hlt⟩
   have htk := filter_take (p := fun x => !isK 2 x) hz
   have hle := sum_filter (fun x => !isK 2 x) (L.take j)
   have hzg := HSG.out z (List.mem_of_getElem? hz)
   obtain ⟨b, o, C, capc, rfl, hbb, hck, ⟨c0, c1, c2', c3, c4, c5, c6, c7⟩, hkz⟩ := (HT2.out.below HR.out.2.1).get (show (Trees.of L).list[j]? = some z by rw [Trees.list_of]; exact hz)
   have hdl : (j : Int) < (L.length : Int) := by omega
   have hbl := World.block_lt_of_cell? wr _ c0
   have HZJ := Lib.hid hz
   rw [List.length_take] at hle
   by_cases k1 : z.kind = 1
   ·have hd : (z.kind == 1) = true := by rw [beq_iff_eq]; exact k1
    have hzn := ok_none (sg_iff.1 hzg).1.1 k1
    have HV1 := Lib.hid (show catQ F.list = z by rw [HV.out, if_pos (List.any_eq_true.2 ⟨z, List.mem_of_getElem? hz, decide_eq_true k1⟩), hzn])
    have HZr := Lib.hid (HZ2.out.below HR.out.2.1 HZ2.out.lt)
    have HBr := Lib.hid (HB2.out.trans (HR.out.2.1.mono HB2.out.size))
    have HKz := Lib.hid hkz
    have HZG := Lib.hid hzg
    clear hz htk k1 hzn hkz HR HN hzg
    obtain ⟨y0, y1, y2, y3, y4, y5, y6, y7, g0, g1, g2, g3, g4, g5, g6, g7⟩ := (HZr.out).z16
    go_wp2
    go_light
    have hF := old_put (x := z) (B := C) (cap := capc) HZG.out HZr.out HBr.out hP (fun b h => h.1) HKz.out rfl
    refine bodyPost_ret (ret_node Tryz.results28 rfl hF.1) rfl ?_
    rw [HV1.out]
    exact ⟨C, capc, rfl, hF.2.1, hck, hF.2.2⟩
   ·have hd : (z.kind == 1) = false := by rw [beq_eq_false_iff_ne]; exact k1
    have HK1 := Lib.hid k1
    have HN2 := Lib.hid (show ∀ (m : Nat) (y : Nd), m < j + 1 → L[m]? = some y → y.kind ≠ 1 from fun m y hm hy => by
     rcases Nat.lt_or_ge m j with h | h
     ·exact HN.out m y h hy
     ·obtain rfl : m = j := by omega
      rw [HZJ.out] at hy
      cases hy
      exact HK1.out)
    by_cases k2 : z.kind = 2
    ·have hd2 : (z.kind != 2) = false := by rw [bne_eq_false_iff_eq]; exact k2
     have hp : (!isK 2 z) = false := by unfold isK; rw [decide_eq_true k2]; rfl
     rw [hp, if_neg (by decide), List.append_nil] at htk
     have HTk := Lib.hid htk
     clear hz htk k1 k2 hp hkz hzg HN
     go_wp2
     go_roundw
     case rel => exact ⟨j + 1, by go_num, by omega, HN2, Lib.hid (by rw [HTk.out]; exact HR.out)⟩
     case measure => simp [intOf]; omega
    ·have hd2 : (z.kind != 2) = true := by rw [bne_iff_ne]; exact k2
     have hp : (!isK 2 z) = true := by unfold isK; rw [decide_eq_false k2]; rfl
     rw [hp, if_pos rfl] at htk
     have HTk := Lib.hid htk
     have hown := HR.out.own
     obtain ⟨v5, w5, hrun, hrow5⟩ := HR.out.one hck (hkz.weak (fun b h _ => ⟨h, fun e => by have := (hown _ e.symm).1; have := h.2; omega⟩)) (by omega)
     have HR5 := Lib.hid hrow5
     unfold ndA at hrun
     clear hz htk k1 k2 hp hkz hzg HN hrow5 HR hck hown
     generalize (L.take j).filter (fun x => !isK 2 x) = acc at *
     go_wp2_with (at_builtin; refine wpList_append_by rfl _ _ 26 26 rfl _ _ _ _ rfl rfl hrun ?_)
     clear hrun
     go_light
     go_roundw
     case rel => exact ⟨j + 1, by go_num, by omega, HN2, Lib.hid (by rw [HTk.out]; exact HR5.out)⟩
     case measure => simp [intOf]; omega
  ·have hdl : ¬ ((j : Int) < (L.length : Int)) := by omega
   obtain rfl : j = L.length := by omega
   have hno : ¬ L.any (isK 1) = true := fun h => by
    obtain ⟨z, hz, hk⟩ := List.any_eq_true.1 h
    obtain ⟨m, hm⟩ := List.getElem?_of_mem hz
    exact HN.out m z (List.getElem?_eq_some_iff.1 hm).1 hm (of_decide_eq_true hk)
   rw [List.take_length] at HR
   have hle := sum_filter (fun x => !isK 2 x) L
   rw [if_neg hno] at HV
   have hV := HV.out
   generalize L.filter (fun x => !isK 2 x) = R at *
   obtain ⟨A5, c5, rfl, hc5, ht5⟩ := HR.out.trees
   have hC := ncatB_go _ A5 c5 R wr (by omega) (ht5.weak (Q := fun b => P b ∨ w.heap.size ≤ b) (fun b h _ => h.elim (fun h => h.1) (fun h => .inr (Nat.le_trans HB2.out.size h))))
   rw [← manyN_part] at hC
   have HC := Lib.hid hC
   have HZr := Lib.hid (HZ2.out.below HR.out.2.1 HZ2.out.lt)
   have HBr := Lib.hid (HB2.out.trans (HR.out.2.1.mono HB2.out.size))
   rw [hV] at HRS
   have HV2 := Lib.hid hV
   clear HR ht5 hno HN hC hV HV HZ2 HB2 HT2
   generalize manyN 4 2 R = x at *
   go_wp2_with fail
   refine HC.out.mono ?_
   rintro e w6 ⟨B6, c6, rfl, hb6, hc6, ht6⟩
   have HZ6 := Lib.hid (HZr.out.below hb6 HZr.out.lt)
   have HB6 := Lib.hid (HBr.out.trans (hb6.mono HBr.out.size))
   have HT6 := Lib.hid (ht6.weak (Q := fun b => P b ∨ w.heap.size ≤ b) (fun b h _ => h.elim id (fun h => .inr (Nat.le_trans HBr.out.size h))))
   clear hb6 ht6 HC HZr HBr
   obtain ⟨y0, y1, y2, y3, y4, y5, y6, y7, g0, g1, g2, g3, g4, g5, g6, g7⟩ := (HZ6.out).z16
   unfold ndV
   dsimp only
   go_wp2
   go_light
   have hF := old_put (x := x) (B := B6) (cap := c6) HRS.out HZ6.out HB6.out hP (fun b h => h) HT6.out rfl
   refine bodyPost_ret (ret_node Tryz.results28 rfl hF.1) rfl ?_
   rw [HV2.out]
   exact ⟨B6, c6, rfl, hF.2.1, hc6, hF.2.2⟩
end Go.Proofs.YtofbfafnpdaejaaGreatDoor
