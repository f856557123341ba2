/- Texts of the claim. -/
import Derived.Test.YtofbfafnpdaejaaGreatDoorJSimP
import Derived.Test.YtofbfafnpdaejaaGreatDoorJSimB
import Derived.Test.YtofbfafnpdaejaaGreatDoorJRead
set_option linter.all false
set_option maxRecDepth 100000
set_option maxHeartbeats 8000000
namespace Go.Proofs.YtofbfafnpdaejaaGreatDoor
open Go.RowKit
theorem sg_fit {x : Nd} (h : SG x) : FitT x := fun y hy => (h y hy).1.1
theorem take_fold {α β : Type} {f : β → α → β} {b : β} {l : List α} {k : Nat} {x : α} (h : l[k]? = some x) : (l.take (k + 1)).foldl f b = f ((l.take k).foldl f b) x := by
 rw [List.take_add_one, h, List.foldl_append]
 rfl
def idxV : Option Nat → Value
 | none => .int .i64 (-1)
 | some i => .int .i64 (i : Int)
theorem join_size (y x : Nd) : (joinN y x).size = y.size := rfl
theorem addP_size {st : List Nd × Option Nat} {x : Nd} {n : Nat} (h : (st.1.map Nd.size).sum ≤ n) : ((addP st x).1.map Nd.size).sum ≤ n + x.size := by
 unfold addP
 split
 ·split
  ·rename_i i _
   have : (st.1.modify i (fun y => joinN y x)).map Nd.size = st.1.map Nd.size := by
    refine List.ext_getElem? fun j => ?_
    rw [List.getElem?_map, List.getElem?_map, List.getElem?_modify]
    cases st.1[j]? with
    | none => rfl
    | some q =>
     show some (Nd.size (if i = j then joinN q x else q)) = some q.size
     split
     ·rw [join_size]
     ·rfl
   show ((st.1.modify i (fun y => joinN y x)).map Nd.size).sum ≤ _
   rw [this]
   omega
  ·show ((st.1 ++ [x]).map Nd.size).sum ≤ _
   rw [List.map_append, List.sum_append_nat]
   simp
   omega
 ·split
  ·omega
  ·show ((st.1 ++ [x]).map Nd.size).sum ≤ _
   rw [List.map_append, List.sum_append_nat]
   simp
   omega
theorem fold_size : ∀ (l : List Nd) (st : List Nd × Option Nat) (n : Nat), (st.1.map Nd.size).sum ≤ n → ((l.foldl addP st).1.map Nd.size).sum ≤ n + (l.map Nd.size).sum
 | [], st, n, h => by simpa using h
 | x :: l, st, n, h => by
  rw [List.foldl_cons, List.map_cons, List.sum_cons]
  have := fold_size l _ _ (addP_size (x := x) h)
  omega
theorem sum_take (l : List Nd) (k : Nat) : ((l.take k).map Nd.size).sum ≤ (l.map Nd.size).sum := by
 conv => rhs; rw [← List.take_append_drop k l, List.map_append, List.sum_append_nat]
 omega
theorem mem_size {l : List Nd} {z : Nd} (h : z ∈ l) : z.size ≤ (l.map Nd.size).sum := by
 induction l with
 | nil => cases h
 | cons a l ih =>
  rw [List.map_cons, List.sum_cons]
  rcases List.mem_cons.1 h with rfl | h
  ·omega
  ·have := ih h
   omega
structure AltAt (n0 : Nat) (w3 : World) (L : List Nd) (k : Nat) (st : List Nd × Option Nat) (u s : Value) (wr : World) : Prop where
 inv : AInv (L.take k) st
 eq : (L.take k).foldl addP ([], none) = st
 row : ORow n0 w3 st.1 u wr
 idx : s = idxV st.2
 size : (st.1.map Nd.size).sum ≤ 90000000
theorem salt_go (F : Trees) (B : Option Addr) (cap : Nat) (w : World) (hlen : F.size ≤ 90000000) (hgood : ∀ x ∈ F.list, SG x) (ht : TreesAt w (fun b => b < w.heap.size) F B) :
  Calls Tryz.prog 29 #[.slice B F.len cap] w (NewT (altP F.list) w) := by
 obtain ⟨L, hL⟩ : ∃ L, F.list.flatMap (flatK 5 1) = L := ⟨_, rfl⟩
 have hsm := flat_small 5 1 F
 have hf5 := flat5 hgood
 rw [hL] at hsm hf5
 have HV := Lib.hid (show altP F.list = manyN 5 1 (L.foldl addP ([], none)).1 by unfold altP; rw [hL])
 have HL := Lib.hid hL
 have HF5 := Lib.hid hf5
 have hb1 : Below w.heap.size w (w.alloc (.cells #[.int .i64 0, .int .u64 0, .int .u64 0, .int .u64 0, .int .u64 0, .slice none 0 0, .int .i64 0, .int .i64 0] 28)) := (Below.refl _ _).alloc (Nat.le_refl _) _
 have HB1 := Lib.hid hb1
 have HZ1 := Lib.hid (Blk.new w 28 #[.int .i64 0, .int .u64 0, .int .u64 0, .int .u64 0, .int .u64 0, .slice none 0 0, .int .i64 0, .int .i64 0])
 have HT1 := Lib.hid (ht.below hb1)
 clear ht hb1 hL hf5 hgood
 go_enter Tryz.func29, Tryz.ntmps29
 go_wp2_with fail
 refine (kidsOf_go 5 1 _).mono ?_
 rintro e w2 ⟨g1, g2, rfl, hb2, hg1, hg2⟩
 have HF := Lib.hid (flatk_go 5 1 F B cap w2 g1 g2 hg1 hg2 hlen ((HT1.out.below hb2).weak (fun b h hl => hl)) L HL.out)
 have hZ2 := HZ1.out.below hb2 HZ1.out.lt
 have HB2 := Lib.hid (HB1.out.trans (hb2.mono HB1.out.size))
 have HZ2 := Lib.hid hZ2
 clear hZ2 hb2 HB1 HZ1
 clear HT1 hg1 hg2
 unfold kidsV at *
 dsimp only
 go_wp2_with fail
 refine HF.out.mono ?_
 rintro e w3 ⟨A3, c3, rfl, hb3, hc3, ht3⟩
 have hZ3 := HZ2.out.below hb3 HZ2.out.lt
 have HB3 := Lib.hid (HB2.out.trans (hb3.mono HB2.out.size))
 have HZ3 := Lib.hid hZ3
 clear hZ3 hb3 HB2 HZ2
 have HT3 := Lib.hid ht3
 have HSM := Lib.hid (show (L.map Nd.size).sum ≤ 90000000 by rw [← size_ofS]; omega)
 have hLl : L.length ≤ 90000000 := by omega
 clear HF ht3 hsm
 dsimp only
 go_wp2
 go_loopw [3, 4, 11] (fun u s i wr => ∃ k : Nat, i = .int .i64 (k : Int) ∧ k ≤ L.length ∧ Hid (∃ st, AltAt w3.heap.size w3 L k st u s wr)) (fun _ _ i _ => L.length - (intOf i).toNat)
 case atStart => exact ⟨0, rfl, Nat.zero_le _, Lib.hid ⟨([], none), ainv_start, rfl, orow_start w3, rfl, Nat.zero_le _⟩⟩
 case round =>
  obtain ⟨k, rfl, hk, HR⟩ := hrel
  by_cases hlt : k < L.length
  ·obtain ⟨x, hx⟩ : ∃ x, L[k]? = some x := ⟨_, List.getElem?_eq_getElem hlt⟩
   obtain ⟨⟨out, si⟩, hA⟩ := HR.out
   have hxg := HF5.out x (List.mem_of_getElem? hx)
   have hstep := addP_step hA.inv hxg.1 hxg.2.1 hxg.2.2
   have htk : L.take (k + 1) = L.take k ++ [x] := by rw [List.take_add_one, hx]; rfl
   rw [← htk] at hstep
   have heq := take_fold (f := addP) (b := (([], none) : List Nd × Option Nat)) hx
   rw [hA.eq] at heq
   have hsize : ((addP (out, si) x).1.map Nd.size).sum ≤ 90000000 := by
    have h1 := fold_size (L.take (k + 1)) ([], none) 0 (Nat.le_refl _)
    have h2 := sum_take L (k + 1)
    have h3 := HSM.out
    rw [heq] at h1
    omega
   have holen : out.length ≤ 90000000 := Nat.le_trans (len_sum out) hA.size
   have hxs : x.size ≤ 90000000 := Nat.le_trans (mem_size (List.mem_of_getElem? hx)) HSM.out
   obtain ⟨b, o, C, capc, rfl, hbb, hck, ⟨c0, c1, c2, c3', c4, c5, c6, c7⟩, hkz⟩ := (HT3.out.below hA.row.2.1).get (show (Trees.of L).list[k]? = some x by rw [Trees.list_of]; exact hx)
   have hdl : (k : Int) < (L.length : Int) := by omega
   have hbl := World.block_lt_of_cell? wr _ c0
   have hb4 : Below wr.heap.size wr (wr.alloc (.cells (ndA x C capc) 28)) := (Below.refl _ _).alloc (Nat.le_refl _) _
   have HX := Lib.hid (Blk.new wr 28 (ndA x C capc))
   have hrow := hA.row.below hb4
   have hidx := hA.idx
   have hinv := hA.inv
   have HKx := Lib.hid (hkz.below hb4)
   have hn3 := hA.row.2.2
   have HST := Lib.hid hstep
   have HEQ := Lib.hid heq
   have HSZ := Lib.hid hsize
   have HRW := Lib.hid hrow
   have HINV := Lib.hid hinv
   have HOWN := Lib.hid hA.row.own
   have HS0 := Lib.hid (show (out.map Nd.size).sum ≤ 90000000 from hA.size)
   dsimp only at hidx
   subst hidx
   clear hA hstep heq hsize hrow hinv hkz hb4 HR htk
   obtain ⟨Au, cu, rfl, hcu, htu⟩ := HRW.out.trees
   have HTU := Lib.hid htu
   have hw3r : w3.heap.size ≤ wr.heap.size := hn3
   clear htu hn3 hbb
   unfold ndA at HX HKx HRW HTU
   generalize hW : (wr.alloc (.cells #[.int .i64 x.kind, .int .u64 (word x.set.testBit 0), .int .u64 (word x.set.testBit 1), .int .u64 (word x.set.testBit 2), .int .u64 (word x.set.testBit 3), .slice C x.kids.len capc, .int .i64 x.lo, .int .i64 x.hi] 28)) = W at *
   have hWs : wr.heap.size < W.heap.size := HX.out.lt
   obtain ⟨p0, p1, p2, p3, p4, p5, p6, p7⟩ : _ ∧ _ ∧ _ ∧ _ ∧ _ ∧ _ ∧ _ ∧ _ := ⟨HX.out.cell 0, HX.out.cell 1, HX.out.cell 2, HX.out.cell 3, HX.out.cell 4, HX.out.cell 5, HX.out.cell 6, HX.out.cell 7⟩
   simp only [getH] at p0 p1 p2 p3 p4 p5 p6 p7
   by_cases k3 : x.kind = 3
   ·have hk3 : (x.kind == 3) = true := by rw [beq_iff_eq]; exact k3
    cases si with
    | none =>
     have hadd : addP (out, none) x = (out ++ [x], some out.length) := by unfold addP; rw [if_pos k3]
     rw [hadd] at HST HEQ HSZ
     have HRA := Lib.hid (show _ ∧ _ ∧ _ from ⟨HST.out, HEQ.out, HSZ.out⟩)
     clear HST HEQ HSZ hadd k3 hxg
     dsimp only [idxV]
     have hbA : Below W.heap.size W (W.alloc (.cells #[.int .i64 x.kind, .int .u64 (word x.set.testBit 0), .int .u64 (word x.set.testBit 1), .int .u64 (word x.set.testBit 2), .int .u64 (word x.set.testBit 3), .slice C x.kids.len capc, .int .i64 x.lo, .int .i64 x.hi] 28)) := (Below.refl _ _).alloc (Nat.le_refl _) _
     have hown := HRW.out.own
     have htr : TreesAt (W.alloc (.cells #[.int .i64 x.kind, .int .u64 (word x.set.testBit 0), .int .u64 (word x.set.testBit 1), .int .u64 (word x.set.testBit 2), .int .u64 (word x.set.testBit 3), .slice C x.kids.len capc, .int .i64 x.lo, .int .i64 x.hi] 28)) (fun b => some b ≠ (Value.slice Au out.length cu).ownBlock) (Trees.of [x]) (some ⟨W.heap.size, 0, none⟩) :=
      row_oneS (Blk.new W _ _) (fun e => by have := (hown _ e.symm).2; omega) hck ((HKx.out.below hbA).weak (fun b h _ e => by have := (hown _ e.symm).1; omega))
     obtain ⟨v5, w5, hrun, hrow5, hgrow5⟩ := (HRW.out.below hbA).appends 1 htr (by rw [Trees.len_of]; simp; omega) 26 26 Tryz.underlying26
     rw [Trees.len_of] at hrun
     rw [Trees.list_of] at hrow5
     simp only [List.length_cons, List.length_nil, Nat.zero_add] at hrun
     have HR5 := Lib.hid hrow5
     clear hbA hown htr hrow5 hgrow5
     go_wp2_with (at_builtin; refine wpList_append_by rfl _ _ 26 26 rfl _ _ _ _ rfl rfl hrun ?_)
     clear hrun
     go_light
     go_roundw
     case rel => exact ⟨k + 1, by go_num, by omega, Lib.hid ⟨(out ++ [x], some out.length), HRA.out.1, HRA.out.2.1, HR5.out, rfl, HRA.out.2.2⟩⟩
     case measure => simp [intOf]; omega
    | some i =>
     have hadd : addP (out, some i) x = (out.modify i (fun y => joinN y x), some i) := by unfold addP; rw [if_pos k3]
     rw [hadd] at HST HEQ HSZ
     obtain ⟨⟨y, hy, ky, sy⟩, _⟩ := HINV.out.yes i rfl
     have hy : out[i]? = some y := hy
     have hil : i < out.length := (List.getElem?_eq_some_iff.1 hy).1
     have HRA := Lib.hid (show _ ∧ _ ∧ _ from ⟨HST.out, HEQ.out, HSZ.out⟩)
     have HY := Lib.hid hy
     obtain ⟨bg, og, Cy, cy, hAu, _, _, ⟨d0, d1, d2, d3, d4, d5, d6, d7⟩, _⟩ := HTU.out.get (show (Trees.of out).list[i]? = some y by rw [Trees.list_of]; exact hy)
     obtain ⟨⟨cs, hcs, _⟩, _⟩ := HRW.out
     obtain ⟨g, cg, e, _, _⟩ := own_form hcs (show 0 < out.length by omega)
     simp only [Value.slice.injEq] at e
     obtain ⟨rfl, _, rfl⟩ := e
     simp only [Option.some.injEq, Addr.mk.injEq] at hAu
     obtain ⟨rfl, rfl, _⟩ := hAu
     have hgl := HOWN.out g rfl
     have HO := Lib.hid (show (fun c => y.set.testBit c || x.set.testBit c) = (y.set ||| x.set).testBit from (funext fun c => (Nat.testBit_or _ _ _).symm))
     have hd1 : decide ((0 : Int) ≤ (i : Int)) = true := decide_eq_true (by omega)
     have hd2 : (i : Int) < (out.length : Int) := by omega
     generalize hbx : wr.heap.size = bx at *
     have hbg : bx ≠ g := by omega
     clear HST HEQ HSZ hadd k3 hxg hcs HTU hy sy ky d0 d5 d6 d7
     dsimp only [idxV]
     simp only [Nat.zero_add] at d1 d2 d3 d4
     have e2 : W.cell? ⟨g, i * 8 + 1 + 1, none⟩ = _ := d2
     have e3 : W.cell? ⟨g, i * 8 + 1 + 2, none⟩ = _ := d3
     have e4 : W.cell? ⟨g, i * 8 + 1 + 3, none⟩ = _ := d4
     clear d2 d3 d4
     go_wp2
     have hs : (fun w' => w'.cell? ⟨bx, 1, none⟩ = some (wV x.set 0) ∧ w'.cell? ⟨bx, 2, none⟩ = some (wV x.set 1) ∧ w'.cell? ⟨bx, 3, none⟩ = some (wV x.set 2) ∧ w'.cell? ⟨bx, 4, none⟩ = some (wV x.set 3)) W.drew := ⟨p1, p2, p3, p4⟩
     have hbD : Below W.heap.size W W.drew := (Below.refl _ _).drew
     have hbA : Below W.drew.heap.size W.drew (W.drew.alloc (.cells #[.int .u64 (word y.set.testBit 0), .int .u64 (word y.set.testBit 1), .int .u64 (word y.set.testBit 2), .int .u64 (word y.set.testBit 3), .int .u64 (word x.set.testBit 0), .int .u64 (word x.set.testBit 1), .int .u64 (word x.set.testBit 2), .int .u64 (word x.set.testBit 3)] 25)) := (Below.refl _ _).alloc (Nat.le_refl _) _
     have hXA := HX.out.below (hbD.trans (hbA.mono hbD.size)) HX.out.lt
     have hs1 : (fun w' => w'.cell? ⟨bx, 1, none⟩ = some (wV x.set 0) ∧ w'.cell? ⟨bx, 2, none⟩ = some (wV x.set 1) ∧ w'.cell? ⟨bx, 3, none⟩ = some (wV x.set 2) ∧ w'.cell? ⟨bx, 4, none⟩ = some (wV x.set 3)) (W.drew.alloc (.cells #[.int .u64 (word y.set.testBit 0), .int .u64 (word y.set.testBit 1), .int .u64 (word y.set.testBit 2), .int .u64 (word y.set.testBit 3), .int .u64 (word x.set.testBit 0), .int .u64 (word x.set.testBit 1), .int .u64 (word x.set.testBit 2), .int .u64 (word x.set.testBit 3)] 25)) := ⟨hXA.cell 1, hXA.cell 2, hXA.cell 3, hXA.cell 4⟩
     have HRWA := Lib.hid (HRW.out.below (hbD.trans (hbA.mono hbD.size)))
     have HUN := Lib.hid (union2_go W.drew y.set.testBit x.set.testBit)
     rw [HO.out] at HUN
     have HXA := Lib.hid hXA
     clear hbD hXA
     refine wp_region_noPanic ?_
     refine wp_region_held_drew (S := fun w' => w'.cell? ⟨bx, 1, none⟩ = some (wV x.set 0) ∧ w'.cell? ⟨bx, 2, none⟩ = some (wV x.set 1) ∧ w'.cell? ⟨bx, 3, none⟩ = some (wV x.set 2) ∧ w'.cell? ⟨bx, 4, none⟩ = some (wV x.set 3)) (by kernel_rfl) hs (fun hHeld => ?_)
     refine wpAnyH_take (i := 0) (oi := _) (v := ?_) rfl (by kernel_rfl) (by kernel_rfl) (by kernel_rfl) (fun _ _ _ h => h) (Or.inl ⟨by kernel_rfl, ?_⟩) (by assumption) ?_
     rotate_left
     ·intro w hSw
      try dsimp only at hSw
      go_simp
      try (with_reducible rfl)
     try simp only [Act.put, nrmH]
     refine wpAnyH_take (i := 1) (oi := _) (v := ?_) rfl (by kernel_rfl) (by kernel_rfl) (by kernel_rfl) (fun _ _ _ h => h) (Or.inl ⟨by kernel_rfl, ?_⟩) (by assumption) ?_
     rotate_left
     ·intro w hSw
      try dsimp only at hSw
      go_simp
      try (with_reducible rfl)
     try simp only [Act.put, nrmH]
     refine wpAnyH_take (i := 2) (oi := _) (v := ?_) rfl (by kernel_rfl) (by kernel_rfl) (by kernel_rfl) (fun _ _ _ h => h) (Or.inl ⟨by kernel_rfl, ?_⟩) (by assumption) ?_
     rotate_left
     ·intro w hSw
      try dsimp only at hSw
      go_simp
      try (with_reducible rfl)
     try simp only [Act.put, nrmH]
     refine wpAnyH_take (i := 3) (oi := _) (v := ?_) rfl (by kernel_rfl) (by kernel_rfl) (by kernel_rfl) (fun _ _ _ h => h) (Or.inl ⟨by kernel_rfl, ?_⟩) (by assumption) ?_
     rotate_left
     ·intro w hSw
      try dsimp only at hSw
      go_simp
      try (with_reducible rfl)
     try simp only [Act.put, nrmH]
     refine wpAnyH_take (i := 4) (oi := _) (v := ?_) rfl (by kernel_rfl) (by kernel_rfl) (by kernel_rfl) (fun _ _ _ h => h) (Or.inl ⟨by kernel_rfl, ?_⟩) (by assumption) ?_
     rotate_left
     ·intro w hSw
      try dsimp only at hSw
      go_simp
      try (with_reducible rfl)
     try simp only [Act.put, nrmH]
     refine wpAnyH_take (i := 5) (oi := _) (v := ?_) rfl (by kernel_rfl) (by kernel_rfl) (by kernel_rfl) (fun _ _ _ h => h) (Or.inl ⟨by kernel_rfl, ?_⟩) (by assumption) ?_
     rotate_left
     ·intro w hSw
      try dsimp only at hSw
      go_simp
      try (with_reducible rfl)
     try simp only [Act.put, nrmH]
     refine wpAnyH_take (i := 7) (oi := _) (v := ?_) rfl (by kernel_rfl) (by kernel_rfl) (by kernel_rfl) (fun _ _ _ h => h) (Or.inl ⟨by kernel_rfl, ?_⟩) (by assumption) ?_
     rotate_left
     ·intro w hSw
      try dsimp only at hSw
      go_simp
      try (with_reducible rfl)
     try simp only [Act.put, nrmH]
     refine wpAnyH_take (i := 8) (oi := _) (v := ?_) rfl (by kernel_rfl) (by kernel_rfl) (by kernel_rfl) (fun _ _ _ h => h) (Or.inl ⟨by kernel_rfl, ?_⟩) (by assumption) ?_
     rotate_left
     ·intro w hSw
      try dsimp only at hSw
      go_simp
      try (with_reducible rfl)
     try simp only [Act.put, nrmH]
     refine wpAnyH_ready (rs := [6]) (by kernel_rfl) (by simp) ?_
     refine AllReadyH.cons (o := _) rfl (fun K hK => ?_) AllReadyH.nil
     go_simp
     refine hK.out _ _ hs (fun _ => ?_)
     clear hK K
     try simp only [Act.put, nrmH]
     refine wpAnyH_ready (rs := [9]) (by kernel_rfl) (by simp) ?_
     refine AllReadyH.cons (o := _) rfl (fun K hK => ?_) AllReadyH.nil
     go_simp
     refine hK.out _ _ hs1 (fun _ => ?_)
     clear hK K
     try simp only [Act.put, nrmH]
     refine wpAnyH_ready (rs := [10]) (by kernel_rfl) (by simp) ?_
     refine AllReadyH.cons (o := _) rfl (fun K hK => ?_) AllReadyH.nil
     go_simp
     go_at_call 83
     refine HUN.out.mono ?_
     rintro e w7 ⟨rfl, hb7⟩
     have hb7' : Below (W.drew.alloc (.cells #[.int .u64 (word y.set.testBit 0), .int .u64 (word y.set.testBit 1), .int .u64 (word y.set.testBit 2), .int .u64 (word y.set.testBit 3), .int .u64 (word x.set.testBit 0), .int .u64 (word x.set.testBit 1), .int .u64 (word x.set.testBit 2), .int .u64 (word x.set.testBit 3)] 25)).heap.size (W.drew.alloc (.cells #[.int .u64 (word y.set.testBit 0), .int .u64 (word y.set.testBit 1), .int .u64 (word y.set.testBit 2), .int .u64 (word y.set.testBit 3), .int .u64 (word x.set.testBit 0), .int .u64 (word x.set.testBit 1), .int .u64 (word x.set.testBit 2), .int .u64 (word x.set.testBit 3)] 25)) w7 := by simpa using hb7
     have hX7 := HXA.out.below hb7' HXA.out.lt
     have hs7 : (fun w' => w'.cell? ⟨bx, 1, none⟩ = some (wV x.set 0) ∧ w'.cell? ⟨bx, 2, none⟩ = some (wV x.set 1) ∧ w'.cell? ⟨bx, 3, none⟩ = some (wV x.set 2) ∧ w'.cell? ⟨bx, 4, none⟩ = some (wV x.set 3)) w7 := ⟨hX7.cell 1, hX7.cell 2, hX7.cell 3, hX7.cell 4⟩
     have HR7 := Lib.hid (HRWA.out.below hb7')
     have hsz7 : W.heap.size ≤ w7.heap.size := by have := hb7'.size; simp at this; omega
     refine hK.out _ _ hs7 (fun _ => ?_)
     clear hK K hb7 hb7' hbA
     try simp only [Act.put, nrmH]
     refine wpAnyH_take (i := 11) (oi := _) (v := ?_) rfl (by kernel_rfl) (by kernel_rfl) (by kernel_rfl) (fun _ _ _ h => h) (Or.inl ⟨by kernel_rfl, ?_⟩) (by assumption) ?_
     rotate_left
     ·intro w hSw
      try dsimp only at hSw
      go_simp
      try (with_reducible rfl)
     try simp only [Act.put, nrmH]
     refine wpAnyH_take (i := 12) (oi := _) (v := ?_) rfl (by kernel_rfl) (by kernel_rfl) (by kernel_rfl) (fun _ _ _ h => h) (Or.inl ⟨by kernel_rfl, ?_⟩) (by assumption) ?_
     rotate_left
     ·intro w hSw
      try dsimp only at hSw
      go_simp
      try (with_reducible rfl)
     try simp only [Act.put, nrmH]
     obtain ⟨Aq, cq, eq_, _, htq⟩ := HR7.out.trees
     simp only [Value.slice.injEq] at eq_
     obtain ⟨rfl, _, rfl⟩ := eq_
     obtain ⟨bq, oq, Cq, cq', hAq, _, _, ⟨_, r1, r2, r3, r4, _, _, _⟩, _⟩ := htq.get (show (Trees.of out).list[i]? = some y by rw [Trees.list_of]; exact HY.out)
     simp only [Option.some.injEq, Addr.mk.injEq] at hAq
     obtain ⟨rfl, rfl, _⟩ := hAq
     simp only [Nat.zero_add] at r1 r2 r3 r4
     have fz : ∀ j, w7.frozen? ⟨g, j, none⟩ = false := by
      obtain ⟨⟨cs, hr7, _⟩, _⟩ := HR7.out
      exact hr7.frozenAt
     have z1 := fz (i * 8 + 1)
     have z2 := fz (i * 8 + 1 + 1)
     have z3 := fz (i * 8 + 1 + 2)
     have z4 := fz (i * 8 + 1 + 3)
     have n1 : (⟨g, i * 8 + 1, none⟩ : Addr) ≠ ⟨g, i * 8 + 1 + 1, none⟩ := fun e => by simp at e
     have s2 : w7.cell? ⟨g, i * 8 + 1 + 1, none⟩ = _ := r2
     have s3 : w7.cell? ⟨g, i * 8 + 1 + 2, none⟩ = _ := r3
     have s4 : w7.cell? ⟨g, i * 8 + 1 + 3, none⟩ = _ := r4
     clear r2 r3 r4
     have hR8 := HR7.out.put (f := fun y => joinN y x) (s := y.set ||| x.set) HY.out rfl
     have hX8 := (((hX7.far (p := ⟨g, i * 8 + 1, none⟩) hbg (wV (y.set ||| x.set) 0)).far (p := ⟨g, i * 8 + 2, none⟩) hbg (wV (y.set ||| x.set) 1)).far (p := ⟨g, i * 8 + 3, none⟩) hbg (wV (y.set ||| x.set) 2)).far (p := ⟨g, i * 8 + 4, none⟩) hbg (wV (y.set ||| x.set) 3)
     have HR8 := Lib.hid hR8
     have HX8 := Lib.hid hX8
     clear hR8 hX8
     refine wpAnyH_ready (rs := [13]) (by kernel_rfl) (by simp) ?_
     refine AllReadyH.cons (o := _) rfl (fun K hK => ?_) AllReadyH.nil
     go_simp
     refine hK.out _ _ ⟨HX8.out.cell 1, HX8.out.cell 2, HX8.out.cell 3, HX8.out.cell 4⟩ (fun _ => ?_)
     clear hK K
     try simp only [Act.put, nrmH]
     refine wpAnyH_done (by kernel_rfl) ?_ _
     refine NoPanic.normal ?_
     clear hs hs1 hs7 hX7 p0 p1 p2 p3 p4 p5 p6 p7 e2 e3 e4 z1 z2 z3 z4 s2 s3 s4 r1 fz
     go_wp2
     go_roundw
     case rel => exact ⟨k + 1, by go_num, by omega, Lib.hid ⟨(out.modify i (fun y => joinN y x), some i), HRA.out.1, HRA.out.2.1, HR8.out, rfl, HRA.out.2.2⟩⟩
     case measure => simp [intOf]; omega
   ·have hk3 : (x.kind == 3) = false := by rw [beq_eq_false_iff_ne]; exact k3
    have HN := Lib.hid (hasn_go (Trees.of out) Au cu W 84 #[.pointer (some ⟨wr.heap.size, 0, none⟩)] (sameN x) _ rfl (by rw [Trees.len_of]; omega) HTU.out enter_alt1 (fun y hy => by
     rw [Trees.list_of] at hy
     exact alt1_go W x y wr.heap.size C capc (by omega) (Nat.le_trans (Nat.le_trans (mem_size hy) HS0.out) (by decide)) (sg_fit hxg.1) (sg_fit (HINV.out.good y hy).1) HX.out (HKx.out.weak (fun b h _ => by omega))))
    rw [Trees.len_of, Trees.list_of] at HN
    have hadd : addP (out, si) x = if out.any (sameN x) = true then (out, si) else (out ++ [x], si) := by unfold addP; rw [if_neg k3]
    cases hq : out.any (sameN x) with
    | true =>
     rw [hq] at HN
     rw [hq, if_pos rfl] at hadd
     rw [hadd] at HST HEQ HSZ
     have HRA := Lib.hid (show _ ∧ _ ∧ _ from ⟨HST.out, HEQ.out, HSZ.out⟩)
     clear HST HEQ HSZ hadd hq k3 hxg
     go_wp2_with fail
     refine HN.out.mono ?_
     rintro e w6 ⟨rfl, hb6⟩
     have HRW6 := Lib.hid (HRW.out.below hb6)
     clear HN HRW hb6 c0 c1 c2 c3' c4 c5 c6 c7 p0 p1 p2 p3 p4 p5 p6 p7
     dsimp only
     go_wp2
     go_roundw
     case rel => exact ⟨k + 1, by go_num, by omega, Lib.hid ⟨(out, si), HRA.out.1, HRA.out.2.1, HRW6.out, rfl, HRA.out.2.2⟩⟩
     case measure => simp [intOf]; omega
    | false =>
     rw [hq] at HN
     rw [hq, if_neg (by decide)] at hadd
     rw [hadd] at HST HEQ HSZ
     have HRA := Lib.hid (show _ ∧ _ ∧ _ from ⟨HST.out, HEQ.out, HSZ.out⟩)
     clear HST HEQ HSZ hadd hq k3 hxg
     go_wp2_with fail
     refine HN.out.mono ?_
     rintro e w6 ⟨rfl, hb6⟩
     have HRW6 := Lib.hid (HRW.out.below hb6)
     have HK6 := Lib.hid (HKx.out.below hb6)
     have HX6 := Lib.hid (HX.out.below hb6 HX.out.lt)
     clear HN HRW hb6 c0 c1 c2 c3' c4 c5 c6 c7 p0 p1 p2 p3 p4 p5 p6 p7 HX HKx
     obtain ⟨p0, p1, p2, p3, p4, p5, p6, p7⟩ : _ ∧ _ ∧ _ ∧ _ ∧ _ ∧ _ ∧ _ ∧ _ := ⟨HX6.out.cell 0, HX6.out.cell 1, HX6.out.cell 2, HX6.out.cell 3, HX6.out.cell 4, HX6.out.cell 5, HX6.out.cell 6, HX6.out.cell 7⟩
     simp only [getH] at p0 p1 p2 p3 p4 p5 p6 p7
     have pl := HX6.out.lt
     dsimp only
     have hbA : Below w6.heap.size w6 (w6.alloc (.cells #[.int .i64 x.kind, .int .u64 (word x.set.testBit 0), .int .u64 (word x.set.testBit 1), .int .u64 (word x.set.testBit 2), .int .u64 (word x.set.testBit 3), .slice C x.kids.len capc, .int .i64 x.lo, .int .i64 x.hi] 28)) := (Below.refl _ _).alloc (Nat.le_refl _) _
     have hown := HRW6.out.own
     have htr : TreesAt (w6.alloc (.cells #[.int .i64 x.kind, .int .u64 (word x.set.testBit 0), .int .u64 (word x.set.testBit 1), .int .u64 (word x.set.testBit 2), .int .u64 (word x.set.testBit 3), .slice C x.kids.len capc, .int .i64 x.lo, .int .i64 x.hi] 28)) (fun b => some b ≠ (Value.slice Au out.length cu).ownBlock) (Trees.of [x]) (some ⟨w6.heap.size, 0, none⟩) :=
      row_oneS (Blk.new w6 _ _) (fun e => by have := (hown _ e.symm).2; omega) hck ((HK6.out.below hbA).weak (fun b h _ e => by have := (hown _ e.symm).1; omega))
     obtain ⟨v5, w5, hrun, hrow5, hgrow5⟩ := (HRW6.out.below hbA).appends 1 htr (by rw [Trees.len_of]; simp; omega) 26 26 Tryz.underlying26
     rw [Trees.len_of] at hrun
     rw [Trees.list_of] at hrow5
     simp only [List.length_cons, List.length_nil, Nat.zero_add] at hrun
     have HR5 := Lib.hid hrow5
     clear hbA hown htr hrow5 hgrow5
     go_wp2_with (at_builtin; refine wpList_append_by rfl _ _ 26 26 rfl _ _ _ _ rfl rfl hrun ?_)
     clear hrun
     go_light
     go_roundw
     case rel => exact ⟨k + 1, by go_num, by omega, Lib.hid ⟨(out ++ [x], si), HRA.out.1, HRA.out.2.1, HR5.out, rfl, HRA.out.2.2⟩⟩
     case measure => simp [intOf]; omega
  ·obtain rfl : k = L.length := by omega
   have hdl : ¬ ((L.length : Int) < (L.length : Int)) := by omega
   obtain ⟨⟨out, si⟩, hA⟩ := HR.out
   have heq := hA.eq
   rw [List.take_length] at heq
   obtain ⟨Au, cu, rfl, hcu, htu⟩ := hA.row.trees
   have hsz : (Trees.of out).size ≤ 100000000 := by
    have := hA.size
    rw [size_ofS]
    dsimp only at this
    omega
   have HC := Lib.hid (talt_any (Trees.of out) _ Au cu wr hsz htu)
   rw [Trees.len_of, Trees.list_of] at HC
   rw [heq] at HV
   have HB4 := Lib.hid (HB3.out.trans (hA.row.2.1.mono HB3.out.size))
   have HZ4 := Lib.hid (HZ3.out.below hA.row.2.1 HZ3.out.lt)
   have hwr : w.heap.size < wr.heap.size := HZ4.out.lt
   clear hA heq htu hsz HR HB3 HZ3 HT3
   dsimp only at *
   go_wp2_with fail
   refine HC.out.mono ?_
   rintro e w5 ⟨B5, c5, rfl, hb5, hc5, ht5⟩
   have HT5 := Lib.hid ht5
   have hZ5 := HZ4.out.below hb5 HZ4.out.lt
   have HB5 := Lib.hid (HB4.out.trans (hb5.mono HB4.out.size))
   have HZ5 := Lib.hid hZ5
   clear hZ5 hb5 HB4 HZ4
   have y0 : w5.cell? ⟨w.heap.size, 0, none⟩ = some (.int .i64 0) := HZ5.out.cell 0
   have y1 : w5.cell? ⟨w.heap.size, 1, none⟩ = some (.int .u64 0) := HZ5.out.cell 1
   have y2 : w5.cell? ⟨w.heap.size, 2, none⟩ = some (.int .u64 0) := HZ5.out.cell 2
   have y3 : w5.cell? ⟨w.heap.size, 3, none⟩ = some (.int .u64 0) := HZ5.out.cell 3
   have y4 : w5.cell? ⟨w.heap.size, 4, none⟩ = some (.int .u64 0) := HZ5.out.cell 4
   have y5 : w5.cell? ⟨w.heap.size, 5, none⟩ = some (.slice none 0 0) := HZ5.out.cell 5
   have y6 : w5.cell? ⟨w.heap.size, 6, none⟩ = some (.int .i64 0) := HZ5.out.cell 6
   have y7 : w5.cell? ⟨w.heap.size, 7, none⟩ = some (.int .i64 0) := HZ5.out.cell 7
   have g0 := HZ5.out.frozen 0
   have g1 := HZ5.out.frozen 1
   have g2 := HZ5.out.frozen 2
   have g3 := HZ5.out.frozen 3
   have g4 := HZ5.out.frozen 4
   have g5 := HZ5.out.frozen 5
   have g6 := HZ5.out.frozen 6
   have g7 := HZ5.out.frozen 7
   clear ht5 HC
   generalize manyN 5 1 out = x at *
   unfold ndV
   dsimp only
   go_wp2
   go_light
   have hF := flat_put (P := fun _ => False) (x := x) (B := B5) (cap := c5) HZ5.out HB5.out (HT5.out.weak (fun b hb _ => .inr (by omega))) rfl
   refine bodyPost_ret (ret_node Tryz.results29 rfl hF.1) rfl ?_
   rw [HV.out]
   exact ⟨B5, c5, rfl, hF.2.1, hc5, hF.2.2.weak (fun b hb _ => hb.elim (fun h => h.elim) id)⟩
end Go.Proofs.YtofbfafnpdaejaaGreatDoor
