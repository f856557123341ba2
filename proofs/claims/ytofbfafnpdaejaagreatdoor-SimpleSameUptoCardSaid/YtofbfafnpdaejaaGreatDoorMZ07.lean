/- Texts of the claim. -/
import Derived.Laws.StructEq
import Derived.StillTailTactics
import Derived.Test.YtofbfafnpdaejaaGreatDoorMZ06
import Derived.Test.YtofbfafnpdaejaaGreatDoorMRead
import Derived.Test.YtofbfafnpdaejaaGreatDoorMZ03
import Derived.Test.YtofbfafnpdaejaaGreatDoorMZ01
set_option linter.all false
set_option maxRecDepth 100000
set_option maxHeartbeats 8000000
namespace Go.Proofs.YtofbfafnpdaejaaGreatDoor
section
open Go.RowKit
theorem sg_fit {x : Nd} (h : SG x) : FitT x := fun y hy => (h y hy).1.1
theorem take_fold {α β : Type} {f : β → α → β} {b : β} {l : List α} {k : Nat} {x : α} (h : l[k]? = some x) : (l.take (k + 1)).foldl f b = f ((l.take k).foldl f b) x := by
 rw [List.take_add_one, h, List.foldl_append]
 rfl
def idxV : Option Nat → Value
 | none => .int .i64 (-1)
 | some i => .int .i64 (i : Int)
theorem join_size (y x : Nd) : (joinN y x).size = y.size := rfl
theorem addP_size {st : List Nd × Option Nat} {x : Nd} {n : Nat} (h : (st.1.map Nd.size).sum ≤ n) : ((addP st x).1.map Nd.size).sum ≤ n + x.size := by
 unfold addP
 split
 ·split
  ·rename_i i _
   have : (st.1.modify i (fun y => joinN y x)).map Nd.size = st.1.map Nd.size := by
    refine List.ext_getElem? fun j => ?_
    rw [List.getElem?_map, List.getElem?_map, List.getElem?_modify]
    cases st.1[j]? with
    | none => rfl
    | some q =>
     show some (Nd.size (if i = j then joinN q x else q)) = some q.size
     split
     ·rw [join_size]
     ·rfl
   show ((st.1.modify i (fun y => joinN y x)).map Nd.size).sum ≤ _
   rw [this]
   omega
  ·show ((st.1 ++ [x]).map Nd.size).sum ≤ _
   rw [List.map_append, List.sum_append_nat]
   simp
   omega
 ·split
  ·omega
  ·show ((st.1 ++ [x]).map Nd.size).sum ≤ _
   rw [List.map_append, List.sum_append_nat]
   simp
   omega
theorem fold_size : ∀ (l : List Nd) (st : List Nd × Option Nat) (n : Nat), (st.1.map Nd.size).sum ≤ n → ((l.foldl addP st).1.map Nd.size).sum ≤ n + (l.map Nd.size).sum
 | [], st, n, h => by simpa using h
 | x :: l, st, n, h => by
  rw [List.foldl_cons, List.map_cons, List.sum_cons]
  have := fold_size l _ _ (addP_size (x := x) h)
  omega
theorem sum_take (l : List Nd) (k : Nat) : ((l.take k).map Nd.size).sum ≤ (l.map Nd.size).sum := by
 conv => rhs; rw [← List.take_append_drop k l, List.map_append, List.sum_append_nat]
 omega
theorem mem_size {l : List Nd} {z : Nd} (h : z ∈ l) : z.size ≤ (l.map Nd.size).sum := by
 induction l with
 | nil => cases h
 | cons a l ih =>
  rw [List.map_cons, List.sum_cons]
  rcases List.mem_cons.1 h with rfl | h
  ·omega
  ·have := ih h
   omega
structure AltAt (n0 : Nat) (w3 : World) (L : List Nd) (k : Nat) (st : List Nd × Option Nat) (u s : Value) (wr : World) : Prop where
 inv : AInv (L.take k) st
 eq : (L.take k).foldl addP ([], none) = st
 row : ORow n0 w3 st.1 u wr
 idx : s = idxV st.2
 size : (st.1.map Nd.size).sum ≤ 90000000
theorem salt_go (F : Trees) (B : Option Addr) (cap : Nat) (w : World) (hlen : F.size ≤ 90000000) (hgood : ∀ x ∈ F.list, SG x) (ht : TreesAt w (fun b => b < w.heap.size) F B) :
  Calls Tryz.prog 29 #[.slice B F.len cap] w (NewT (altP F.list) w) := by
 obtain ⟨L, hL⟩ : ∃ L, F.list.flatMap (flatK 5 1) = L := ⟨_, rfl⟩
 have hsm := flat_small 5 1 F
 have hf5 := flat5 hgood
 rw [hL] at hsm hf5
 have HV := Lib.hid (show altP F.list = manyN 5 1 (L.foldl addP ([], none)).1 by unfold altP; rw [hL])
 have HL := Lib.hid hL
 have HF5 := Lib.hid hf5
 have hb1 : Below w.heap.size w (w.alloc (.cells #[.int .i64 0, .int .u64 0, .int .u64 0, .int .u64 0, .int .u64 0, .slice none 0 0, .int .i64 0, .int .i64 0] 28)) := (Below.refl _ _).alloc (Nat.le_refl _) _
 have HB1 := Lib.hid hb1
 have HZ1 := Lib.hid (Blk.new w 28 #[.int .i64 0, .int .u64 0, .int .u64 0, .int .u64 0, .int .u64 0, .slice none 0 0, .int .i64 0, .int .i64 0])
 have HT1 := Lib.hid (ht.below hb1)
 clear ht hb1 hL hf5 hgood
 go_enter Tryz.func29, Tryz.ntmps29
 go_wp2_with fail
 refine (kidsOf_go 5 1 _).mono ?_
 rintro e w2 ⟨g1, g2, rfl, hb2, hg1, hg2⟩
 have HF := Lib.hid (flatk_go 5 1 F B cap w2 g1 g2 hg1 hg2 hlen ((HT1.out.below hb2).weak (fun b h hl => hl)) L HL.out)
 have hZ2 := HZ1.out.below hb2 HZ1.out.lt
 have HB2 := Lib.hid (HB1.out.trans (hb2.mono HB1.out.size))
 have HZ2 := Lib.hid hZ2
 clear hZ2 hb2 HB1 HZ1
 clear HT1 hg1 hg2
 unfold kidsV at *
 dsimp only
 go_wp2_with fail
 refine HF.out.mono ?_
 rintro e w3 ⟨A3, c3, rfl, hb3, hc3, ht3⟩
 have hZ3 := HZ2.out.below hb3 HZ2.out.lt
 have HB3 := Lib.hid (HB2.out.trans (hb3.mono HB2.out.size))
 have HZ3 := Lib.hid hZ3
 clear hZ3 hb3 HB2 HZ2
 have HT3 := Lib.hid ht3
 have HSM := Lib.hid (show (L.map Nd.size).sum ≤ 90000000 by rw [← size_ofS]; omega)
 have hLl : L.length ≤ 90000000 := by omega
 clear HF ht3 hsm
 dsimp only
 go_wp2
 go_loopw [3, 4, 11] (fun u s i wr => ∃ k : Nat, i = .int .i64 (k : Int) ∧ k ≤ L.length ∧ Hid (∃ st, AltAt w3.heap.size w3 L k st u s wr)) (fun _ _ i _ => L.length - (intOf i).toNat)
 case atStart => exact ⟨0, rfl, Nat.zero_le _, Lib.hid ⟨([], none), ainv_start, rfl, orow_start w3, rfl, Nat.zero_le _⟩⟩
 case round =>
  obtain ⟨k, rfl, hk, HR⟩ := hrel
  by_cases hlt : k < L.length
  ·obtain ⟨x, hx⟩ : ∃ x, L[k]? = some x := ⟨_, List.getElem?_eq_getElem hlt⟩
   obtain ⟨⟨out, si⟩, hA⟩ := HR.out
   have hxg := HF5.out x (List.mem_of_getElem? hx)
   have hstep := addP_step hA.inv hxg.1 hxg.2.1 hxg.2.2
   have htk : L.take (k + 1) = L.take k ++ [x] := by rw [List.take_add_one, hx]; rfl
   rw [← htk] at hstep
   have heq := take_fold (f := addP) (b := (([], none) : List Nd × Option Nat)) hx
   rw [hA.eq] at heq
   have hsize : ((addP (out, si) x).1.map Nd.size).sum ≤ 90000000 := by
    have h1 := fold_size (L.take (k + 1)) ([], none) 0 (Nat.le_refl _)
    have h2 := sum_take L (k + 1)
    have h3 := HSM.out
    rw [heq] at h1
    omega
   have holen : out.length ≤ 90000000 := Nat.le_trans (len_sum out) hA.size
   have hxs : x.size ≤ 90000000 := Nat.le_trans (mem_size (List.mem_of_getElem? hx)) HSM.out
   obtain ⟨b, o, C, capc, rfl, hbb, hck, ⟨c0, c1, c2, c3', c4, c5, c6, c7⟩, hkz⟩ := (HT3.out.below hA.row.2.1).get (show (Trees.of L).list[k]? = some x by rw [Trees.list_of]; exact hx)
   have hdl : (k : Int) < (L.length : Int) := by omega
   have hbl := World.block_lt_of_cell? wr _ c0
   have hb4 : Below wr.heap.size wr (wr.alloc (.cells (ndA x C capc) 28)) := (Below.refl _ _).alloc (Nat.le_refl _) _
   have HX := Lib.hid (Blk.new wr 28 (ndA x C capc))
   have hrow := hA.row.below hb4
   have hidx := hA.idx
   have hinv := hA.inv
   have HKx := Lib.hid (hkz.below hb4)
   have hn3 := hA.row.2.2
   have HST := Lib.hid hstep
   have HEQ := Lib.hid heq
   have HSZ := Lib.hid hsize
   have HRW := Lib.hid hrow
   have HINV := Lib.hid hinv
   have HOWN := Lib.hid hA.row.own
   have HS0 := Lib.hid (show (out.map Nd.size).sum ≤ 90000000 from hA.size)
   dsimp only at hidx
   subst hidx
   clear hA hstep heq hsize hrow hinv hkz hb4 HR htk
   obtain ⟨Au, cu, rfl, hcu, htu⟩ := HRW.out.trees
   have HTU := Lib.hid htu
   have hw3r : w3.heap.size ≤ wr.heap.size := hn3
   clear htu hn3 hbb
   unfold ndA at HX HKx HRW HTU
   generalize hW : (wr.alloc (.cells #[.int .i64 x.kind, .int .u64 (word x.set.testBit 0), .int .u64 (word x.set.testBit 1), .int .u64 (word x.set.testBit 2), .int .u64 (word x.set.testBit 3), .slice C x.kids.len capc, .int .i64 x.lo, .int .i64 x.hi] 28)) = W at *
   have hWs : wr.heap.size < W.heap.size := HX.out.lt
   obtain ⟨p0, p1, p2, p3, p4, p5, p6, p7⟩ : _ ∧ _ ∧ _ ∧ _ ∧ _ ∧ _ ∧ _ ∧ _ := ⟨HX.out.cell 0, HX.out.cell 1, HX.out.cell 2, HX.out.cell 3, HX.out.cell 4, HX.out.cell 5, HX.out.cell 6, HX.out.cell 7⟩
   simp only [getH] at p0 p1 p2 p3 p4 p5 p6 p7
   by_cases k3 : x.kind = 3
   ·have hk3 : (x.kind == 3) = true := by rw [beq_iff_eq]; exact k3
    cases si with
    | none =>
     have hadd : addP (out, none) x = (out ++ [x], some out.length) := by unfold addP; rw [if_pos k3]
     rw [hadd] at HST HEQ HSZ
     have HRA := Lib.hid (show _ ∧ _ ∧ _ from ⟨HST.out, HEQ.out, HSZ.out⟩)
     clear HST HEQ HSZ hadd k3 hxg
     dsimp only [idxV]
     have hbA : Below W.heap.size W (W.alloc (.cells #[.int .i64 x.kind, .int .u64 (word x.set.testBit 0), .int .u64 (word x.set.testBit 1), .int .u64 (word x.set.testBit 2), .int .u64 (word x.set.testBit 3), .slice C x.kids.len capc, .int .i64 x.lo, .int .i64 x.hi] 28)) := (Below.refl _ _).alloc (Nat.le_refl _) _
     have hown := HRW.out.own
     have htr : TreesAt (W.alloc (.cells #[.int .i64 x.kind, .int .u64 (word x.set.testBit 0), .int .u64 (word x.set.testBit 1), .int .u64 (word x.set.testBit 2), .int .u64 (word x.set.testBit 3), .slice C x.kids.len capc, .int .i64 x.lo, .int .i64 x.hi] 28)) (fun b => some b ≠ (Value.slice Au out.length cu).ownBlock) (Trees.of [x]) (some ⟨W.heap.size, 0, none⟩) :=
      row_oneS (Blk.new W _ _) (fun e => by have := (hown _ e.symm).2; omega) hck ((HKx.out.below hbA).weak (fun b h _ e => by have := (hown _ e.symm).1; omega))
     obtain ⟨v5, w5, hrun, hrow5, hgrow5⟩ := (HRW.out.below hbA).appends 1 htr (by rw [Trees.len_of]; simp; omega) 26 26 Tryz.underlying26
     rw [Trees.len_of] at hrun
     rw [Trees.list_of] at hrow5
     simp only [List.length_cons, List.length_nil, Nat.zero_add] at hrun
     have HR5 := Lib.hid hrow5
     clear hbA hown htr hrow5 hgrow5
     go_wp2_with (at_builtin; refine wpList_append_by rfl _ _ 26 26 rfl _ _ _ _ rfl rfl hrun ?_)
     clear hrun
     go_light
     go_roundw
     case rel => exact ⟨k + 1, by go_num, by omega, Lib.hid ⟨(out ++ [x], some out.length), HRA.out.1, HRA.out.2.1, HR5.out, rfl, HRA.out.2.2⟩⟩
     case measure => simp [intOf]; omega
    | some i =>
     have hadd : addP (out, some i) x = (out.modify i (fun y => joinN y x), some i) := by unfold addP; rw [if_pos k3]
     rw [hadd] at HST HEQ HSZ
     obtain ⟨⟨y, hy, ky, sy⟩, _⟩ := HINV.out.yes i rfl
     have hy : out[i]? = some y := hy
     have hil : i < out.length := (List.getElem?_eq_some_iff.1 hy).1
     have HRA := Lib.hid (show _ ∧ _ ∧ _ from ⟨HST.out, HEQ.out, HSZ.out⟩)
     have HY := Lib.hid hy
     obtain ⟨bg, og, Cy, cy, hAu, _, _, ⟨d0, d1, d2, d3, d4, d5, d6, d7⟩, _⟩ := HTU.out.get (show (Trees.of out).list[i]? = some y by rw [Trees.list_of]; exact hy)
     obtain ⟨⟨cs, hcs, _⟩, _⟩ := HRW.out
     obtain ⟨g, cg, e, _, _⟩ := own_form hcs (show 0 < out.length by omega)
     simp only [Value.slice.injEq] at e
     obtain ⟨rfl, _, rfl⟩ := e
     simp only [Option.some.injEq, Addr.mk.injEq] at hAu
     obtain ⟨rfl, rfl, _⟩ := hAu
     have hgl := HOWN.out g rfl
     have HO := Lib.hid (show (fun c => y.set.testBit c || x.set.testBit c) = (y.set ||| x.set).testBit from (funext fun c => (Nat.testBit_or _ _ _).symm))
     have hd1 : decide ((0 : Int) ≤ (i : Int)) = true := decide_eq_true (by omega)
     have hd2 : (i : Int) < (out.length : Int) := by omega
     generalize hbx : wr.heap.size = bx at *
     have hbg : bx ≠ g := by omega
     clear HST HEQ HSZ hadd k3 hxg hcs HTU hy sy ky d0 d5 d6 d7
     dsimp only [idxV]
     simp only [Nat.zero_add] at d1 d2 d3 d4
     have e2 : W.cell? ⟨g, i * 8 + 1 + 1, none⟩ = _ := d2
     have e3 : W.cell? ⟨g, i * 8 + 1 + 2, none⟩ = _ := d3
     have e4 : W.cell? ⟨g, i * 8 + 1 + 3, none⟩ = _ := d4
     clear d2 d3 d4
     go_wp2
     have hs : (fun w' => w'.cell? ⟨bx, 1, none⟩ = some (wV x.set 0) ∧ w'.cell? ⟨bx, 2, none⟩ = some (wV x.set 1) ∧ w'.cell? ⟨bx, 3, none⟩ = some (wV x.set 2) ∧ w'.cell? ⟨bx, 4, none⟩ = some (wV x.set 3)) W.drew := ⟨p1, p2, p3, p4⟩
     have hbD : Below W.heap.size W W.drew := (Below.refl _ _).drew
     have hbA : Below W.drew.heap.size W.drew (W.drew.alloc (.cells #[.int .u64 (word y.set.testBit 0), .int .u64 (word y.set.testBit 1), .int .u64 (word y.set.testBit 2), .int .u64 (word y.set.testBit 3), .int .u64 (word x.set.testBit 0), .int .u64 (word x.set.testBit 1), .int .u64 (word x.set.testBit 2), .int .u64 (word x.set.testBit 3)] 25)) := (Below.refl _ _).alloc (Nat.le_refl _) _
     have hXA := HX.out.below (hbD.trans (hbA.mono hbD.size)) HX.out.lt
     have hs1 : (fun w' => w'.cell? ⟨bx, 1, none⟩ = some (wV x.set 0) ∧ w'.cell? ⟨bx, 2, none⟩ = some (wV x.set 1) ∧ w'.cell? ⟨bx, 3, none⟩ = some (wV x.set 2) ∧ w'.cell? ⟨bx, 4, none⟩ = some (wV x.set 3)) (W.drew.alloc (.cells #[.int .u64 (word y.set.testBit 0), .int .u64 (word y.set.testBit 1), .int .u64 (word y.set.testBit 2), .int .u64 (word y.set.testBit 3), .int .u64 (word x.set.testBit 0), .int .u64 (word x.set.testBit 1), .int .u64 (word x.set.testBit 2), .int .u64 (word x.set.testBit 3)] 25)) := ⟨hXA.cell 1, hXA.cell 2, hXA.cell 3, hXA.cell 4⟩
     have HRWA := Lib.hid (HRW.out.below (hbD.trans (hbA.mono hbD.size)))
     have HUN := Lib.hid (union2_go W.drew y.set.testBit x.set.testBit)
     rw [HO.out] at HUN
     have HXA := Lib.hid hXA
     clear hbD hXA
     refine wp_region_noPanic ?_
     refine wp_region_held_drew (S := fun w' => w'.cell? ⟨bx, 1, none⟩ = some (wV x.set 0) ∧ w'.cell? ⟨bx, 2, none⟩ = some (wV x.set 1) ∧ w'.cell? ⟨bx, 3, none⟩ = some (wV x.set 2) ∧ w'.cell? ⟨bx, 4, none⟩ = some (wV x.set 3)) (by kernel_rfl) hs (fun hHeld => ?_)
     refine wpAnyH_take (i := 0) (oi := _) (v := ?_) rfl (by kernel_rfl) (by kernel_rfl) (by kernel_rfl) (fun _ _ _ h => h) (Or.inl ⟨by kernel_rfl, ?_⟩) (by assumption) ?_
     rotate_left
     ·intro w hSw
      try dsimp only at hSw
      go_simp
      try (with_reducible rfl)
     try simp only [Act.put, nrmH]
     refine wpAnyH_take (i := 1) (oi := _) (v := ?_) rfl (by kernel_rfl) (by kernel_rfl) (by kernel_rfl) (fun _ _ _ h => h) (Or.inl ⟨by kernel_rfl, ?_⟩) (by assumption) ?_
     rotate_left
     ·intro w hSw
      try dsimp only at hSw
      go_simp
      try (with_reducible rfl)
     try simp only [Act.put, nrmH]
     refine wpAnyH_take (i := 2) (oi := _) (v := ?_) rfl (by kernel_rfl) (by kernel_rfl) (by kernel_rfl) (fun _ _ _ h => h) (Or.inl ⟨by kernel_rfl, ?_⟩) (by assumption) ?_
     rotate_left
     ·intro w hSw
      try dsimp only at hSw
      go_simp
      try (with_reducible rfl)
     try simp only [Act.put, nrmH]
     refine wpAnyH_take (i := 3) (oi := _) (v := ?_) rfl (by kernel_rfl) (by kernel_rfl) (by kernel_rfl) (fun _ _ _ h => h) (Or.inl ⟨by kernel_rfl, ?_⟩) (by assumption) ?_
     rotate_left
     ·intro w hSw
      try dsimp only at hSw
      go_simp
      try (with_reducible rfl)
     try simp only [Act.put, nrmH]
     refine wpAnyH_take (i := 4) (oi := _) (v := ?_) rfl (by kernel_rfl) (by kernel_rfl) (by kernel_rfl) (fun _ _ _ h => h) (Or.inl ⟨by kernel_rfl, ?_⟩) (by assumption) ?_
     rotate_left
     ·intro w hSw
      try dsimp only at hSw
      go_simp
      try (with_reducible rfl)
     try simp only [Act.put, nrmH]
     refine wpAnyH_take (i := 5) (oi := _) (v := ?_) rfl (by kernel_rfl) (by kernel_rfl) (by kernel_rfl) (fun _ _ _ h => h) (Or.inl ⟨by kernel_rfl, ?_⟩) (by assumption) ?_
     rotate_left
     ·intro w hSw
      try dsimp only at hSw
      go_simp
      try (with_reducible rfl)
     try simp only [Act.put, nrmH]
     refine wpAnyH_take (i := 7) (oi := _) (v := ?_) rfl (by kernel_rfl) (by kernel_rfl) (by kernel_rfl) (fun _ _ _ h => h) (Or.inl ⟨by kernel_rfl, ?_⟩) (by assumption) ?_
     rotate_left
     ·intro w hSw
      try dsimp only at hSw
      go_simp
      try (with_reducible rfl)
     try simp only [Act.put, nrmH]
     refine wpAnyH_take (i := 8) (oi := _) (v := ?_) rfl (by kernel_rfl) (by kernel_rfl) (by kernel_rfl) (fun _ _ _ h => h) (Or.inl ⟨by kernel_rfl, ?_⟩) (by assumption) ?_
     rotate_left
     ·intro w hSw
      try dsimp only at hSw
      go_simp
      try (with_reducible rfl)
     try simp only [Act.put, nrmH]
     refine wpAnyH_ready (rs := [6]) (by kernel_rfl) (by simp) ?_
     refine AllReadyH.cons (o := _) rfl (fun K hK => ?_) AllReadyH.nil
     go_simp
     refine hK.out _ _ hs (fun _ => ?_)
     clear hK K
     try simp only [Act.put, nrmH]
     refine wpAnyH_ready (rs := [9]) (by kernel_rfl) (by simp) ?_
     refine AllReadyH.cons (o := _) rfl (fun K hK => ?_) AllReadyH.nil
     go_simp
     refine hK.out _ _ hs1 (fun _ => ?_)
     clear hK K
     try simp only [Act.put, nrmH]
     refine wpAnyH_ready (rs := [10]) (by kernel_rfl) (by simp) ?_
     refine AllReadyH.cons (o := _) rfl (fun K hK => ?_) AllReadyH.nil
     go_simp
     go_at_call 83
     refine HUN.out.mono ?_
     rintro e w7 ⟨rfl, hb7⟩
     have hb7' : Below (W.drew.alloc (.cells #[.int .u64 (word y.set.testBit 0), .int .u64 (word y.set.testBit 1), .int .u64 (word y.set.testBit 2), .int .u64 (word y.set.testBit 3), .int .u64 (word x.set.testBit 0), .int .u64 (word x.set.testBit 1), .int .u64 (word x.set.testBit 2), .int .u64 (word x.set.testBit 3)] 25)).heap.size (W.drew.alloc (.cells #[.int .u64 (word y.set.testBit 0), .int .u64 (word y.set.testBit 1), .int .u64 (word y.set.testBit 2), .int .u64 (word y.set.testBit 3), .int .u64 (word x.set.testBit 0), .int .u64 (word x.set.testBit 1), .int .u64 (word x.set.testBit 2), .int .u64 (word x.set.testBit 3)] 25)) w7 := by simpa using hb7
     have hX7 := HXA.out.below hb7' HXA.out.lt
     have hs7 : (fun w' => w'.cell? ⟨bx, 1, none⟩ = some (wV x.set 0) ∧ w'.cell? ⟨bx, 2, none⟩ = some (wV x.set 1) ∧ w'.cell? ⟨bx, 3, none⟩ = some (wV x.set 2) ∧ w'.cell? ⟨bx, 4, none⟩ = some (wV x.set 3)) w7 := ⟨hX7.cell 1, hX7.cell 2, hX7.cell 3, hX7.cell 4⟩
     have HR7 := Lib.hid (HRWA.out.below hb7')
     have hsz7 : W.heap.size ≤ w7.heap.size := by have := hb7'.size; simp at this; omega
     refine hK.out _ _ hs7 (fun _ => ?_)
     clear hK K hb7 hb7' hbA
     try simp only [Act.put, nrmH]
     refine wpAnyH_take (i := 11) (oi := _) (v := ?_) rfl (by kernel_rfl) (by kernel_rfl) (by kernel_rfl) (fun _ _ _ h => h) (Or.inl ⟨by kernel_rfl, ?_⟩) (by assumption) ?_
     rotate_left
     ·intro w hSw
      try dsimp only at hSw
      go_simp
      try (with_reducible rfl)
     try simp only [Act.put, nrmH]
     refine wpAnyH_take (i := 12) (oi := _) (v := ?_) rfl (by kernel_rfl) (by kernel_rfl) (by kernel_rfl) (fun _ _ _ h => h) (Or.inl ⟨by kernel_rfl, ?_⟩) (by assumption) ?_
     rotate_left
     ·intro w hSw
      try dsimp only at hSw
      go_simp
      try (with_reducible rfl)
     try simp only [Act.put, nrmH]
     obtain ⟨Aq, cq, eq_, _, htq⟩ := HR7.out.trees
     simp only [Value.slice.injEq] at eq_
     obtain ⟨rfl, _, rfl⟩ := eq_
     obtain ⟨bq, oq, Cq, cq', hAq, _, _, ⟨_, r1, r2, r3, r4, _, _, _⟩, _⟩ := htq.get (show (Trees.of out).list[i]? = some y by rw [Trees.list_of]; exact HY.out)
     simp only [Option.some.injEq, Addr.mk.injEq] at hAq
     obtain ⟨rfl, rfl, _⟩ := hAq
     simp only [Nat.zero_add] at r1 r2 r3 r4
     have fz : ∀ j, w7.frozen? ⟨g, j, none⟩ = false := by
      obtain ⟨⟨cs, hr7, _⟩, _⟩ := HR7.out
      exact hr7.frozenAt
     have z1 := fz (i * 8 + 1)
     have z2 := fz (i * 8 + 1 + 1)
     have z3 := fz (i * 8 + 1 + 2)
     have z4 := fz (i * 8 + 1 + 3)
     have n1 : (⟨g, i * 8 + 1, none⟩ : Addr) ≠ ⟨g, i * 8 + 1 + 1, none⟩ := fun e => by simp at e
     have s2 : w7.cell? ⟨g, i * 8 + 1 + 1, none⟩ = _ := r2
     have s3 : w7.cell? ⟨g, i * 8 + 1 + 2, none⟩ = _ := r3
     have s4 : w7.cell? ⟨g, i * 8 + 1 + 3, none⟩ = _ := r4
     clear r2 r3 r4
     have hR8 := HR7.out.put (f := fun y => joinN y x) (s := y.set ||| x.set) HY.out rfl
     have hX8 := (((hX7.far (p := ⟨g, i * 8 + 1, none⟩) hbg (wV (y.set ||| x.set) 0)).far (p := ⟨g, i * 8 + 2, none⟩) hbg (wV (y.set ||| x.set) 1)).far (p := ⟨g, i * 8 + 3, none⟩) hbg (wV (y.set ||| x.set) 2)).far (p := ⟨g, i * 8 + 4, none⟩) hbg (wV (y.set ||| x.set) 3)
     have HR8 := Lib.hid hR8
     have HX8 := Lib.hid hX8
     clear hR8 hX8
     refine wpAnyH_ready (rs := [13]) (by kernel_rfl) (by simp) ?_
     refine AllReadyH.cons (o := _) rfl (fun K hK => ?_) AllReadyH.nil
     go_simp
     refine hK.out _ _ ⟨HX8.out.cell 1, HX8.out.cell 2, HX8.out.cell 3, HX8.out.cell 4⟩ (fun _ => ?_)
     clear hK K
     try simp only [Act.put, nrmH]
     refine wpAnyH_done (by kernel_rfl) ?_ _
     refine NoPanic.normal ?_
     clear hs hs1 hs7 hX7 p0 p1 p2 p3 p4 p5 p6 p7 e2 e3 e4 z1 z2 z3 z4 s2 s3 s4 r1 fz
     go_wp2
     go_roundw
     case rel => exact ⟨k + 1, by go_num, by omega, Lib.hid ⟨(out.modify i (fun y => joinN y x), some i), HRA.out.1, HRA.out.2.1, HR8.out, rfl, HRA.out.2.2⟩⟩
     case measure => simp [intOf]; omega
   ·have hk3 : (x.kind == 3) = false := by rw [beq_eq_false_iff_ne]; exact k3
    have HN := Lib.hid (hasn_go (Trees.of out) Au cu W 84 #[.pointer (some ⟨wr.heap.size, 0, none⟩)] (sameN x) _ rfl (by rw [Trees.len_of]; omega) HTU.out enter_alt1 (fun y hy => by
     rw [Trees.list_of] at hy
     exact alt1_go W x y wr.heap.size C capc (by omega) (Nat.le_trans (Nat.le_trans (mem_size hy) HS0.out) (by decide)) (sg_fit hxg.1) (sg_fit (HINV.out.good y hy).1) HX.out (HKx.out.weak (fun b h _ => by omega))))
    rw [Trees.len_of, Trees.list_of] at HN
    have hadd : addP (out, si) x = if out.any (sameN x) = true then (out, si) else (out ++ [x], si) := by unfold addP; rw [if_neg k3]
    cases hq : out.any (sameN x) with
    | true =>
     rw [hq] at HN
     rw [hq, if_pos rfl] at hadd
     rw [hadd] at HST HEQ HSZ
     have HRA := Lib.hid (show _ ∧ _ ∧ _ from ⟨HST.out, HEQ.out, HSZ.out⟩)
     clear HST HEQ HSZ hadd hq k3 hxg
     go_wp2_with fail
     refine HN.out.mono ?_
     rintro e w6 ⟨rfl, hb6⟩
     have HRW6 := Lib.hid (HRW.out.below hb6)
     clear HN HRW hb6 c0 c1 c2 c3' c4 c5 c6 c7 p0 p1 p2 p3 p4 p5 p6 p7
     dsimp only
     go_wp2
     go_roundw
     case rel => exact ⟨k + 1, by go_num, by omega, Lib.hid ⟨(out, si), HRA.out.1, HRA.out.2.1, HRW6.out, rfl, HRA.out.2.2⟩⟩
     case measure => simp [intOf]; omega
    | false =>
     rw [hq] at HN
     rw [hq, if_neg (by decide)] at hadd
     rw [hadd] at HST HEQ HSZ
     have HRA := Lib.hid (show _ ∧ _ ∧ _ from ⟨HST.out, HEQ.out, HSZ.out⟩)
     clear HST HEQ HSZ hadd hq k3 hxg
     go_wp2_with fail
     refine HN.out.mono ?_
     rintro e w6 ⟨rfl, hb6⟩
     have HRW6 := Lib.hid (HRW.out.below hb6)
     have HK6 := Lib.hid (HKx.out.below hb6)
     have HX6 := Lib.hid (HX.out.below hb6 HX.out.lt)
     clear HN HRW hb6 c0 c1 c2 c3' c4 c5 c6 c7 p0 p1 p2 p3 p4 p5 p6 p7 HX HKx
     obtain ⟨p0, p1, p2, p3, p4, p5, p6, p7⟩ : _ ∧ _ ∧ _ ∧ _ ∧ _ ∧ _ ∧ _ ∧ _ := ⟨HX6.out.cell 0, HX6.out.cell 1, HX6.out.cell 2, HX6.out.cell 3, HX6.out.cell 4, HX6.out.cell 5, HX6.out.cell 6, HX6.out.cell 7⟩
     simp only [getH] at p0 p1 p2 p3 p4 p5 p6 p7
     have pl := HX6.out.lt
     dsimp only
     have hbA : Below w6.heap.size w6 (w6.alloc (.cells #[.int .i64 x.kind, .int .u64 (word x.set.testBit 0), .int .u64 (word x.set.testBit 1), .int .u64 (word x.set.testBit 2), .int .u64 (word x.set.testBit 3), .slice C x.kids.len capc, .int .i64 x.lo, .int .i64 x.hi] 28)) := (Below.refl _ _).alloc (Nat.le_refl _) _
     have hown := HRW6.out.own
     have htr : TreesAt (w6.alloc (.cells #[.int .i64 x.kind, .int .u64 (word x.set.testBit 0), .int .u64 (word x.set.testBit 1), .int .u64 (word x.set.testBit 2), .int .u64 (word x.set.testBit 3), .slice C x.kids.len capc, .int .i64 x.lo, .int .i64 x.hi] 28)) (fun b => some b ≠ (Value.slice Au out.length cu).ownBlock) (Trees.of [x]) (some ⟨w6.heap.size, 0, none⟩) :=
      row_oneS (Blk.new w6 _ _) (fun e => by have := (hown _ e.symm).2; omega) hck ((HK6.out.below hbA).weak (fun b h _ e => by have := (hown _ e.symm).1; omega))
     obtain ⟨v5, w5, hrun, hrow5, hgrow5⟩ := (HRW6.out.below hbA).appends 1 htr (by rw [Trees.len_of]; simp; omega) 26 26 Tryz.underlying26
     rw [Trees.len_of] at hrun
     rw [Trees.list_of] at hrow5
     simp only [List.length_cons, List.length_nil, Nat.zero_add] at hrun
     have HR5 := Lib.hid hrow5
     clear hbA hown htr hrow5 hgrow5
     go_wp2_with (at_builtin; refine wpList_append_by rfl _ _ 26 26 rfl _ _ _ _ rfl rfl hrun ?_)
     clear hrun
     go_light
     go_roundw
     case rel => exact ⟨k + 1, by go_num, by omega, Lib.hid ⟨(out ++ [x], si), HRA.out.1, HRA.out.2.1, HR5.out, rfl, HRA.out.2.2⟩⟩
     case measure => simp [intOf]; omega
  ·obtain rfl : k = L.length := by omega
   have hdl : ¬ ((L.length : Int) < (L.length : Int)) := by omega
   obtain ⟨⟨out, si⟩, hA⟩ := HR.out
   have heq := hA.eq
   rw [List.take_length] at heq
   obtain ⟨Au, cu, rfl, hcu, htu⟩ := hA.row.trees
   have hsz : (Trees.of out).size ≤ 100000000 := by
    have := hA.size
    rw [size_ofS]
    dsimp only at this
    omega
   have HC := Lib.hid (talt_any (Trees.of out) _ Au cu wr hsz htu)
   rw [Trees.len_of, Trees.list_of] at HC
   rw [heq] at HV
   have HB4 := Lib.hid (HB3.out.trans (hA.row.2.1.mono HB3.out.size))
   have HZ4 := Lib.hid (HZ3.out.below hA.row.2.1 HZ3.out.lt)
   have hwr : w.heap.size < wr.heap.size := HZ4.out.lt
   clear hA heq htu hsz HR HB3 HZ3 HT3
   dsimp only at *
   go_wp2_with fail
   refine HC.out.mono ?_
   rintro e w5 ⟨B5, c5, rfl, hb5, hc5, ht5⟩
   have HT5 := Lib.hid ht5
   have hZ5 := HZ4.out.below hb5 HZ4.out.lt
   have HB5 := Lib.hid (HB4.out.trans (hb5.mono HB4.out.size))
   have HZ5 := Lib.hid hZ5
   clear hZ5 hb5 HB4 HZ4
   have y0 : w5.cell? ⟨w.heap.size, 0, none⟩ = some (.int .i64 0) := HZ5.out.cell 0
   have y1 : w5.cell? ⟨w.heap.size, 1, none⟩ = some (.int .u64 0) := HZ5.out.cell 1
   have y2 : w5.cell? ⟨w.heap.size, 2, none⟩ = some (.int .u64 0) := HZ5.out.cell 2
   have y3 : w5.cell? ⟨w.heap.size, 3, none⟩ = some (.int .u64 0) := HZ5.out.cell 3
   have y4 : w5.cell? ⟨w.heap.size, 4, none⟩ = some (.int .u64 0) := HZ5.out.cell 4
   have y5 : w5.cell? ⟨w.heap.size, 5, none⟩ = some (.slice none 0 0) := HZ5.out.cell 5
   have y6 : w5.cell? ⟨w.heap.size, 6, none⟩ = some (.int .i64 0) := HZ5.out.cell 6
   have y7 : w5.cell? ⟨w.heap.size, 7, none⟩ = some (.int .i64 0) := HZ5.out.cell 7
   have g0 := HZ5.out.frozen 0
   have g1 := HZ5.out.frozen 1
   have g2 := HZ5.out.frozen 2
   have g3 := HZ5.out.frozen 3
   have g4 := HZ5.out.frozen 4
   have g5 := HZ5.out.frozen 5
   have g6 := HZ5.out.frozen 6
   have g7 := HZ5.out.frozen 7
   clear ht5 HC
   generalize manyN 5 1 out = x at *
   unfold ndV
   dsimp only
   go_wp2
   go_light
   have hF := flat_put (P := fun _ => False) (x := x) (B := B5) (cap := c5) HZ5.out HB5.out (HT5.out.weak (fun b hb _ => .inr (by omega))) rfl
   refine bodyPost_ret (ret_node Tryz.results29 rfl hF.1) rfl ?_
   rw [HV.out]
   exact ⟨B5, c5, rfl, hF.2.1, hc5, hF.2.2.weak (fun b hb _ => hb.elim (fun h => h.elim) id)⟩
end
section
theorem smany_size (k q : Int) (l : List Nd) : (manyN k q l).size ≤ 1 + (l.map Nd.size).sum := by
 match l with
 | [] => simp [manyN, Nd.size, Trees.size]
 | [x] => simp [manyN]
 | x :: y :: m =>
  show 1 + (Trees.of (x :: y :: m)).size ≤ _
  rw [size_ofS]
  exact Nat.le_refl _
theorem catP_size (l : List Nd) : (catP l).size ≤ 1 + (l.map Nd.size).sum := by
 have h := sum_flat (flatK 4 2) (flatK_size 4 2) l
 unfold catP
 split
 ·simp [noneN, Nd.size, Trees.size]
 ·have := smany_size 4 2 (l.flatMap (flatK 4 2))
  omega
theorem altP_size (l : List Nd) : (altP l).size ≤ 1 + (l.map Nd.size).sum := by
 have h := sum_flat (flatK 5 1) (flatK_size 5 1) l
 unfold altP
 have h1 := fold_size (l.flatMap (flatK 5 1)) ([], none) 0 (Nat.le_refl _)
 have := smany_size 5 1 ((l.flatMap (flatK 5 1)).foldl addP ([], none)).1
 omega
theorem size_pos (x : Nd) : 1 ≤ x.size := by unfold Nd.size; omega
theorem sover_size (k : Int) (x : Nd) : (overN k x).size = 1 + x.size := by
 show 1 + (Trees.of [x]).size = _
 rw [size_ofS]
 simp
theorem kid0_size (x : Nd) : (kid0 x).size ≤ x.size := by
 unfold kid0
 cases hl : x.kids.list with
 | nil => exact size_pos x
 | cons z l =>
  have := Trees.size_get x.kids 0 z (by rw [hl]; rfl)
  show z.size ≤ _
  unfold Nd.size
  unfold Nd.size at this
  omega
theorem empty_size : emptyN.size = 1 := rfl
theorem none_size : noneN.size = 1 := rfl
theorem starP_size (x : Nd) : (starP x).size ≤ 1 + x.size := by
 have h1 := size_pos x
 have h2 := kid0_size x
 unfold starP
 split
 ·rw [empty_size]; omega
 split
 ·rw [sover_size]; omega
 ·rw [sover_size]; omega
theorem plusP_size (x : Nd) : (plusP x).size ≤ 1 + x.size := by
 have h1 := size_pos x
 have h2 := kid0_size x
 unfold plusP
 split
 ·omega
 split
 ·rw [sover_size]; omega
 ·rw [sover_size]; omega
theorem optP_size (x : Nd) : (optP x).size ≤ 1 + x.size := by
 have h1 := size_pos x
 have h2 := kid0_size x
 unfold optP
 split
 ·rw [empty_size]; omega
 split
 ·omega
 split
 ·rw [sover_size]; omega
 ·rw [sover_size]; omega
theorem repP_size (x : Nd) (lo hi : Int) : (repP x lo hi).size ≤ 1 + x.size := by
 have h1 := size_pos x
 unfold repP
 split
 ·rw [empty_size]; omega
 split
 ·rw [empty_size]; omega
 split
 ·rw [none_size]; omega
 split
 ·omega
 split
 ·exact starP_size x
 split
 ·exact plusP_size x
 split
 ·exact optP_size x
 ·show 1 + (Trees.of [x]).size ≤ _
  rw [size_ofS]
  simp
theorem simK_size {k : Int} {s : Nat} {ks : Trees} {lo hi : Int} {L : List Nd} (hL : (L.map Nd.size).sum ≤ ks.size) (hne : 6 ≤ k → k ≤ 9 → L ≠ []) : (simK k s ks lo hi L).size ≤ 1 + ks.size := by
 have hh : 6 ≤ k → k ≤ 9 → (L.headD noneN).size ≤ ks.size := fun h h' => by
  have := hne h h'
  cases L with
  | nil => exact absurd rfl this
  | cons z l => exact Nat.le_trans (mem_size (by simp)) hL
 unfold simK
 split
 ·split
  ·rw [none_size]; omega
  ·exact Nat.le_refl _
 split
 ·have := catP_size L
  omega
 split
 ·have := altP_size L
  omega
 split
 ·have := starP_size (L.headD noneN)
  have := hh (by omega) (by omega)
  omega
 split
 ·have := plusP_size (L.headD noneN)
  have := hh (by omega) (by omega)
  omega
 split
 ·have := optP_size (L.headD noneN)
  have := hh (by omega) (by omega)
  omega
 split
 ·have := repP_size (L.headD noneN) lo hi
  have := hh (by omega) (by omega)
  omega
 ·exact Nat.le_refl _
theorem sims_size : ∀ (F : Trees), (∀ y ∈ F.nodes, OkN y) → (F.sims.map Nd.size).sum ≤ F.size
 | .nil, _ => Nat.le_refl _
 | .cons k s ks lo hi r, h => by
  have h1 := sims_size ks (fun y hy => h y (by simp [Trees.nodes, hy]))
  have h2 := sims_size r (fun y hy => h y (by simp [Trees.nodes, hy]))
  have ho := h ⟨k, s, ks, lo, hi⟩ (by simp [Trees.nodes])
  have h3 := simK_size (k := k) (s := s) (ks := ks) (lo := lo) (hi := hi) h1 (fun h6 h9 e => by
   have := sims_len ks
   rw [e] at this
   have := ho.2
   simp only at this
   simp at *
   omega)
  rw [Trees.sims, List.map_cons, List.sum_cons, Trees.size]
  omega
theorem sim_size {x : Nd} (h : ∀ y ∈ x.nodes, OkN y) : x.sim.size ≤ x.size := by
 have h1 := sims_size x.kids (fun y hy => h y (List.mem_cons_of_mem _ hy))
 have ho := h x List.mem_cons_self
 refine simK_size h1 (fun h6 h9 e => ?_)
 have := sims_len x.kids
 rw [e] at this
 have := ho.2
 simp at *
 omega
end
section
open Go.RowKit
def overT (k : Int) (x : Nd) (lo hi : Int) : Nd := ⟨k, 0, Trees.of [x], lo, hi⟩
theorem tover_put {w w3 : World} {k : Int} {x : Nd} {B' : Option Addr} {c' : Nat} (hZ : Blk w3 (w.heap.size + 1) 28 #[.int .i64 0, .int .u64 0, .int .u64 0, .int .u64 0, .int .u64 0, .slice none 0 0, .int .i64 0, .int .i64 0]) (hB : Below w.heap.size w w3) (hc : x.kids.len ≤ c') (ht : TreesAt w3 (fun b => w.heap.size + 2 ≤ b) x.kids B') {w' : World}
  (hw' : w' = (((((((((w3.setCell ⟨w.heap.size + 1, 0, none⟩ (.int .i64 k)).setCell ⟨w.heap.size + 1, 1, none⟩ (.int .u64 0)).setCell ⟨w.heap.size + 1, 2, none⟩ (.int .u64 0)).setCell ⟨w.heap.size + 1, 3, none⟩ (.int .u64 0)).setCell ⟨w.heap.size + 1, 4, none⟩ (.int .u64 0)).setCell ⟨w.heap.size + 1, 5, none⟩ (.slice (some ⟨w3.heap.size, 0, none⟩) 1 1)).setCell ⟨w.heap.size + 1, 6, none⟩ (.int .i64 0)).setCell ⟨w.heap.size + 1, 7, none⟩ (.int .i64 0)).alloc (.cells (ndCell x B' c').toArray 28))) :
  Blk w' (w.heap.size + 1) 28 (ndA (overT k x 0 0) (some ⟨w3.heap.size, 0, none⟩) 1) ∧ Below w.heap.size w w' ∧ TreesAt w' (fun b => w.heap.size ≤ b) (overT k x 0 0).kids (some ⟨w3.heap.size, 0, none⟩) := by
 have hsz := hB.size
 have hlt := hZ.lt
 generalize hS : ((((((((w3.setCell ⟨w.heap.size + 1, 0, none⟩ (.int .i64 k)).setCell ⟨w.heap.size + 1, 1, none⟩ (.int .u64 0)).setCell ⟨w.heap.size + 1, 2, none⟩ (.int .u64 0)).setCell ⟨w.heap.size + 1, 3, none⟩ (.int .u64 0)).setCell ⟨w.heap.size + 1, 4, none⟩ (.int .u64 0)).setCell ⟨w.heap.size + 1, 5, none⟩ (.slice (some ⟨w3.heap.size, 0, none⟩) 1 1)).setCell ⟨w.heap.size + 1, 6, none⟩ (.int .i64 0)).setCell ⟨w.heap.size + 1, 7, none⟩ (.int .i64 0)) = S at hw'
 have hg : w3.grownBy S (some (w.heap.size + 1)) := by rw [← hS]; exact only_put8 _ _ _ _ _ _ _ _ _ _
 have hs3 : S.heap.size = w3.heap.size := by rw [← hS]; simp [World.setCell]
 have hSb : Blk S (w.heap.size + 1) 28 #[.int .i64 k, .int .u64 0, .int .u64 0, .int .u64 0, .int .u64 0, .slice (some ⟨w3.heap.size, 0, none⟩) 1 1, .int .i64 0, .int .i64 0] := by rw [← hS]; exact hZ.put8 _ _ _ _ _ _ _ _
 have hBS : Below w.heap.size w S := by rw [← hS]; exact below_put8 hB (by omega) _ _ _ _ _ _ _ _
 have hN : Blk w' w3.heap.size 28 (ndCell x B' c').toArray := by rw [hw', ← hs3]; exact Blk.new S _ _
 have hal : Below S.heap.size S w' := by rw [hw']; exact (Below.refl _ _).alloc (Nat.le_refl _) _
 refine ⟨?_, hBS.trans (hal.mono (by omega)), w3.heap.size, 0, B', c', rfl, by omega, hc, ⟨hN.cell 0, hN.cell 1, hN.cell 2, hN.cell 3, hN.cell 4, hN.cell 5, hN.cell 6, hN.cell 7⟩, ?_, trivial⟩
 ·have := hSb.below hal hSb.lt
  unfold ndA overT
  simp only [word_zero]
  exact this
 ·refine ht.keep (fun b o hb hl => (hal.cell (p := ⟨b, o, none⟩) (by show b < _; omega)).trans (World.cell?_of_block (hg.block b hl (fun e => by have := Option.some.inj e; omega)))) (fun b hb _ => by omega)
theorem tover_go (k : Int) (x : Nd) (P : Nat → Prop) (B : Option Addr) (cap : Nat) (w : World) (hlen : x.size ≤ 100000000) (ht : TreesAt w P x.kids B) :
  Calls Tryz.prog 139 #[.int .i64 k, ndV x B cap] w fun e w' => ∃ B' cap', e = .returned (ndV (overT k x 0 0) B' cap') ∧ Below w.heap.size w w' ∧ (overT k x 0 0).kids.len ≤ cap' ∧ TreesAt w' (fun b => w.heap.size ≤ b) (overT k x 0 0).kids B' := by
 have hb2 : Below w.heap.size w ((w.alloc (.cells (ndA x B cap) 28)).alloc (.cells #[.int .i64 0, .int .u64 0, .int .u64 0, .int .u64 0, .int .u64 0, .slice none 0 0, .int .i64 0, .int .i64 0] 28)) := ((Below.refl _ _).alloc (Nat.le_refl _) _).alloc (by simp) _
 have HI := Lib.hid (copy_go x P B cap _ hlen (ht.below hb2))
 have HB2 := Lib.hid hb2
 have hX := (show Blk ((w.alloc (.cells (ndA x B cap) 28)).alloc (.cells #[.int .i64 0, .int .u64 0, .int .u64 0, .int .u64 0, .int .u64 0, .slice none 0 0, .int .i64 0, .int .i64 0] 28)) w.heap.size 28 (ndA x B cap) from (Blk.new _ _ _).alloc _)
 have HZ2 := Lib.hid (show Blk ((w.alloc (.cells (ndA x B cap) 28)).alloc (.cells #[.int .i64 0, .int .u64 0, .int .u64 0, .int .u64 0, .int .u64 0, .slice none 0 0, .int .i64 0, .int .i64 0] 28)) (w.heap.size + 1) 28 #[.int .i64 0, .int .u64 0, .int .u64 0, .int .u64 0, .int .u64 0, .slice none 0 0, .int .i64 0, .int .i64 0] from Blk.new_at (by simp))
 clear ht hb2 hlen
 unfold ndV
 unfold ndV ndA at HI
 unfold ndA at HB2 HZ2 hX
 clear hX
 go_enter Tryz.func139, Tryz.ntmps139
 go_wp2_with fail
 refine HI.out.mono ?_
 rintro e w3 ⟨B3, cap3, rfl, hb3, hc3, ht3⟩
 have hZ3 := HZ2.out.below hb3 HZ2.out.lt
 have HB3 := Lib.hid (HB2.out.trans (hb3.mono HB2.out.size))
 have HZ3 := Lib.hid hZ3
 have HC3 := Lib.hid hc3
 have HT3 := Lib.hid (ht3.weak (Q := fun b => w.heap.size + 2 ≤ b) (fun b hb _ => by simpa using hb))
 have y0 : w3.cell? ⟨w.heap.size + 1, 0, none⟩ = some (.int .i64 0) := hZ3.cell 0
 have y1 : w3.cell? ⟨w.heap.size + 1, 1, none⟩ = some (.int .u64 0) := hZ3.cell 1
 have y2 : w3.cell? ⟨w.heap.size + 1, 2, none⟩ = some (.int .u64 0) := hZ3.cell 2
 have y3 : w3.cell? ⟨w.heap.size + 1, 3, none⟩ = some (.int .u64 0) := hZ3.cell 3
 have y4 : w3.cell? ⟨w.heap.size + 1, 4, none⟩ = some (.int .u64 0) := hZ3.cell 4
 have y5 : w3.cell? ⟨w.heap.size + 1, 5, none⟩ = some (.slice none 0 0) := hZ3.cell 5
 have y6 : w3.cell? ⟨w.heap.size + 1, 6, none⟩ = some (.int .i64 0) := hZ3.cell 6
 have y7 : w3.cell? ⟨w.heap.size + 1, 7, none⟩ = some (.int .i64 0) := hZ3.cell 7
 have g0 := hZ3.frozen 0
 have g1 := hZ3.frozen 1
 have g2 := hZ3.frozen 2
 have g3 := hZ3.frozen 3
 have g4 := hZ3.frozen 4
 have g5 := hZ3.frozen 5
 have g6 := hZ3.frozen 6
 have g7 := hZ3.frozen 7
 have lz := hZ3.lt
 clear hZ3 ht3 hb3 hc3 HI HZ2 HB2
 dsimp only
 go_wp2
 go_light
 have hF := tover_put (k := k) HZ3.out HB3.out HC3.out HT3.out rfl
 exact bodyPost_ret (ret_node Tryz.results139 rfl hF.1) rfl ⟨some ⟨w3.heap.size, 0, none⟩, 1, rfl, hF.2.1, Nat.le_refl _, hF.2.2⟩
theorem tstar_go (x : Nd) (P : Nat → Prop) (B : Option Addr) (cap : Nat) (w : World) (hlen : x.size ≤ 100000000) (ht : TreesAt w P x.kids B) :
  Calls Tryz.prog 91 #[ndV x B cap] w fun e w' => ∃ B' cap', e = .returned (ndV (overT 6 x 0 0) B' cap') ∧ Below w.heap.size w w' ∧ (overT 6 x 0 0).kids.len ≤ cap' ∧ TreesAt w' (fun b => w.heap.size ≤ b) (overT 6 x 0 0).kids B' := by
 have hb2 : Below w.heap.size w ((w.alloc (.cells (ndA x B cap) 28)).alloc (.cells #[.int .i64 0, .int .u64 0, .int .u64 0, .int .u64 0, .int .u64 0, .slice none 0 0, .int .i64 0, .int .i64 0] 28)) := ((Below.refl _ _).alloc (Nat.le_refl _) _).alloc (by simp) _
 have HI := Lib.hid (tover_go 6 x P B cap _ hlen (ht.below hb2))
 have HB2 := Lib.hid hb2
 have HZ2 := Lib.hid (show Blk ((w.alloc (.cells (ndA x B cap) 28)).alloc (.cells #[.int .i64 0, .int .u64 0, .int .u64 0, .int .u64 0, .int .u64 0, .slice none 0 0, .int .i64 0, .int .i64 0] 28)) (w.heap.size + 1) 28 #[.int .i64 0, .int .u64 0, .int .u64 0, .int .u64 0, .int .u64 0, .slice none 0 0, .int .i64 0, .int .i64 0] from Blk.new_at (by simp))
 clear ht hb2 hlen
 unfold ndV
 unfold ndV ndA at HI
 unfold ndA at HB2 HZ2
 go_enter Tryz.func91, Tryz.ntmps91
 go_wp2_with fail
 refine HI.out.mono ?_
 rintro e w3 ⟨B3, cap3, rfl, hb3, hc3, ht3⟩
 have hZ3 := HZ2.out.below hb3 HZ2.out.lt
 have HB3 := Lib.hid (HB2.out.trans (hb3.mono HB2.out.size))
 have HZ3 := Lib.hid hZ3
 have HC3 := Lib.hid hc3
 have HT3 := Lib.hid (ht3.weak (Q := fun b => w.heap.size + 2 ≤ b) (fun b hb _ => by simpa using hb))
 have y0 : w3.cell? ⟨w.heap.size + 1, 0, none⟩ = some (.int .i64 0) := hZ3.cell 0
 have y1 : w3.cell? ⟨w.heap.size + 1, 1, none⟩ = some (.int .u64 0) := hZ3.cell 1
 have y2 : w3.cell? ⟨w.heap.size + 1, 2, none⟩ = some (.int .u64 0) := hZ3.cell 2
 have y3 : w3.cell? ⟨w.heap.size + 1, 3, none⟩ = some (.int .u64 0) := hZ3.cell 3
 have y4 : w3.cell? ⟨w.heap.size + 1, 4, none⟩ = some (.int .u64 0) := hZ3.cell 4
 have y5 : w3.cell? ⟨w.heap.size + 1, 5, none⟩ = some (.slice none 0 0) := hZ3.cell 5
 have y6 : w3.cell? ⟨w.heap.size + 1, 6, none⟩ = some (.int .i64 0) := hZ3.cell 6
 have y7 : w3.cell? ⟨w.heap.size + 1, 7, none⟩ = some (.int .i64 0) := hZ3.cell 7
 have g0 := hZ3.frozen 0
 have g1 := hZ3.frozen 1
 have g2 := hZ3.frozen 2
 have g3 := hZ3.frozen 3
 have g4 := hZ3.frozen 4
 have g5 := hZ3.frozen 5
 have g6 := hZ3.frozen 6
 have g7 := hZ3.frozen 7
 have lz := hZ3.lt
 clear hZ3 ht3 hb3 hc3 HI HZ2 HB2
 dsimp only
 go_wp2
 go_light
 have hF := put_next (x := overT 6 x 0 0) (B := B3) (cap := cap3) HZ3.out HB3.out HT3.out rfl
 exact bodyPost_ret (ret_node Tryz.results91 rfl hF.1) rfl ⟨B3, cap3, rfl, hF.2.1, HC3.out, hF.2.2⟩
theorem tplus_go (x : Nd) (P : Nat → Prop) (B : Option Addr) (cap : Nat) (w : World) (hlen : x.size ≤ 100000000) (ht : TreesAt w P x.kids B) :
  Calls Tryz.prog 93 #[ndV x B cap] w fun e w' => ∃ B' cap', e = .returned (ndV (overT 7 x 0 0) B' cap') ∧ Below w.heap.size w w' ∧ (overT 7 x 0 0).kids.len ≤ cap' ∧ TreesAt w' (fun b => w.heap.size ≤ b) (overT 7 x 0 0).kids B' := by
 have hb2 : Below w.heap.size w ((w.alloc (.cells (ndA x B cap) 28)).alloc (.cells #[.int .i64 0, .int .u64 0, .int .u64 0, .int .u64 0, .int .u64 0, .slice none 0 0, .int .i64 0, .int .i64 0] 28)) := ((Below.refl _ _).alloc (Nat.le_refl _) _).alloc (by simp) _
 have HI := Lib.hid (tover_go 7 x P B cap _ hlen (ht.below hb2))
 have HB2 := Lib.hid hb2
 have HZ2 := Lib.hid (show Blk ((w.alloc (.cells (ndA x B cap) 28)).alloc (.cells #[.int .i64 0, .int .u64 0, .int .u64 0, .int .u64 0, .int .u64 0, .slice none 0 0, .int .i64 0, .int .i64 0] 28)) (w.heap.size + 1) 28 #[.int .i64 0, .int .u64 0, .int .u64 0, .int .u64 0, .int .u64 0, .slice none 0 0, .int .i64 0, .int .i64 0] from Blk.new_at (by simp))
 clear ht hb2 hlen
 unfold ndV
 unfold ndV ndA at HI
 unfold ndA at HB2 HZ2
 go_enter Tryz.func93, Tryz.ntmps93
 go_wp2_with fail
 refine HI.out.mono ?_
 rintro e w3 ⟨B3, cap3, rfl, hb3, hc3, ht3⟩
 have hZ3 := HZ2.out.below hb3 HZ2.out.lt
 have HB3 := Lib.hid (HB2.out.trans (hb3.mono HB2.out.size))
 have HZ3 := Lib.hid hZ3
 have HC3 := Lib.hid hc3
 have HT3 := Lib.hid (ht3.weak (Q := fun b => w.heap.size + 2 ≤ b) (fun b hb _ => by simpa using hb))
 have y0 : w3.cell? ⟨w.heap.size + 1, 0, none⟩ = some (.int .i64 0) := hZ3.cell 0
 have y1 : w3.cell? ⟨w.heap.size + 1, 1, none⟩ = some (.int .u64 0) := hZ3.cell 1
 have y2 : w3.cell? ⟨w.heap.size + 1, 2, none⟩ = some (.int .u64 0) := hZ3.cell 2
 have y3 : w3.cell? ⟨w.heap.size + 1, 3, none⟩ = some (.int .u64 0) := hZ3.cell 3
 have y4 : w3.cell? ⟨w.heap.size + 1, 4, none⟩ = some (.int .u64 0) := hZ3.cell 4
 have y5 : w3.cell? ⟨w.heap.size + 1, 5, none⟩ = some (.slice none 0 0) := hZ3.cell 5
 have y6 : w3.cell? ⟨w.heap.size + 1, 6, none⟩ = some (.int .i64 0) := hZ3.cell 6
 have y7 : w3.cell? ⟨w.heap.size + 1, 7, none⟩ = some (.int .i64 0) := hZ3.cell 7
 have g0 := hZ3.frozen 0
 have g1 := hZ3.frozen 1
 have g2 := hZ3.frozen 2
 have g3 := hZ3.frozen 3
 have g4 := hZ3.frozen 4
 have g5 := hZ3.frozen 5
 have g6 := hZ3.frozen 6
 have g7 := hZ3.frozen 7
 have lz := hZ3.lt
 clear hZ3 ht3 hb3 hc3 HI HZ2 HB2
 dsimp only
 go_wp2
 go_light
 have hF := put_next (x := overT 7 x 0 0) (B := B3) (cap := cap3) HZ3.out HB3.out HT3.out rfl
 exact bodyPost_ret (ret_node Tryz.results93 rfl hF.1) rfl ⟨B3, cap3, rfl, hF.2.1, HC3.out, hF.2.2⟩
theorem topt_go (x : Nd) (P : Nat → Prop) (B : Option Addr) (cap : Nat) (w : World) (hlen : x.size ≤ 100000000) (ht : TreesAt w P x.kids B) :
  Calls Tryz.prog 94 #[ndV x B cap] w fun e w' => ∃ B' cap', e = .returned (ndV (overT 8 x 0 0) B' cap') ∧ Below w.heap.size w w' ∧ (overT 8 x 0 0).kids.len ≤ cap' ∧ TreesAt w' (fun b => w.heap.size ≤ b) (overT 8 x 0 0).kids B' := by
 have hb2 : Below w.heap.size w ((w.alloc (.cells (ndA x B cap) 28)).alloc (.cells #[.int .i64 0, .int .u64 0, .int .u64 0, .int .u64 0, .int .u64 0, .slice none 0 0, .int .i64 0, .int .i64 0] 28)) := ((Below.refl _ _).alloc (Nat.le_refl _) _).alloc (by simp) _
 have HI := Lib.hid (tover_go 8 x P B cap _ hlen (ht.below hb2))
 have HB2 := Lib.hid hb2
 have HZ2 := Lib.hid (show Blk ((w.alloc (.cells (ndA x B cap) 28)).alloc (.cells #[.int .i64 0, .int .u64 0, .int .u64 0, .int .u64 0, .int .u64 0, .slice none 0 0, .int .i64 0, .int .i64 0] 28)) (w.heap.size + 1) 28 #[.int .i64 0, .int .u64 0, .int .u64 0, .int .u64 0, .int .u64 0, .slice none 0 0, .int .i64 0, .int .i64 0] from Blk.new_at (by simp))
 clear ht hb2 hlen
 unfold ndV
 unfold ndV ndA at HI
 unfold ndA at HB2 HZ2
 go_enter Tryz.func94, Tryz.ntmps94
 go_wp2_with fail
 refine HI.out.mono ?_
 rintro e w3 ⟨B3, cap3, rfl, hb3, hc3, ht3⟩
 have hZ3 := HZ2.out.below hb3 HZ2.out.lt
 have HB3 := Lib.hid (HB2.out.trans (hb3.mono HB2.out.size))
 have HZ3 := Lib.hid hZ3
 have HC3 := Lib.hid hc3
 have HT3 := Lib.hid (ht3.weak (Q := fun b => w.heap.size + 2 ≤ b) (fun b hb _ => by simpa using hb))
 have y0 : w3.cell? ⟨w.heap.size + 1, 0, none⟩ = some (.int .i64 0) := hZ3.cell 0
 have y1 : w3.cell? ⟨w.heap.size + 1, 1, none⟩ = some (.int .u64 0) := hZ3.cell 1
 have y2 : w3.cell? ⟨w.heap.size + 1, 2, none⟩ = some (.int .u64 0) := hZ3.cell 2
 have y3 : w3.cell? ⟨w.heap.size + 1, 3, none⟩ = some (.int .u64 0) := hZ3.cell 3
 have y4 : w3.cell? ⟨w.heap.size + 1, 4, none⟩ = some (.int .u64 0) := hZ3.cell 4
 have y5 : w3.cell? ⟨w.heap.size + 1, 5, none⟩ = some (.slice none 0 0) := hZ3.cell 5
 have y6 : w3.cell? ⟨w.heap.size + 1, 6, none⟩ = some (.int .i64 0) := hZ3.cell 6
 have y7 : w3.cell? ⟨w.heap.size + 1, 7, none⟩ = some (.int .i64 0) := hZ3.cell 7
 have g0 := hZ3.frozen 0
 have g1 := hZ3.frozen 1
 have g2 := hZ3.frozen 2
 have g3 := hZ3.frozen 3
 have g4 := hZ3.frozen 4
 have g5 := hZ3.frozen 5
 have g6 := hZ3.frozen 6
 have g7 := hZ3.frozen 7
 have lz := hZ3.lt
 clear hZ3 ht3 hb3 hc3 HI HZ2 HB2
 dsimp only
 go_wp2
 go_light
 have hF := put_next (x := overT 8 x 0 0) (B := B3) (cap := cap3) HZ3.out HB3.out HT3.out rfl
 exact bodyPost_ret (ret_node Tryz.results94 rfl hF.1) rfl ⟨B3, cap3, rfl, hF.2.1, HC3.out, hF.2.2⟩
theorem trep_go (lo hi : Int) (x : Nd) (P : Nat → Prop) (B : Option Addr) (cap : Nat) (w : World) (hlen : x.size ≤ 100000000) (ht : TreesAt w P x.kids B) :
  Calls Tryz.prog 95 #[ndV x B cap, .int .i64 lo, .int .i64 hi] w fun e w' => ∃ B' cap', e = .returned (ndV (overT 9 x lo hi) B' cap') ∧ Below w.heap.size w w' ∧ (overT 9 x lo hi).kids.len ≤ cap' ∧ TreesAt w' (fun b => w.heap.size ≤ b) (overT 9 x lo hi).kids B' := by
 have hb2 : Below w.heap.size w ((w.alloc (.cells (ndA x B cap) 28)).alloc (.cells #[.int .i64 0, .int .u64 0, .int .u64 0, .int .u64 0, .int .u64 0, .slice none 0 0, .int .i64 0, .int .i64 0] 28)) := ((Below.refl _ _).alloc (Nat.le_refl _) _).alloc (by simp) _
 have HI := Lib.hid (tover_go 9 x P B cap _ hlen (ht.below hb2))
 have HB2 := Lib.hid hb2
 have HZ2 := Lib.hid (show Blk ((w.alloc (.cells (ndA x B cap) 28)).alloc (.cells #[.int .i64 0, .int .u64 0, .int .u64 0, .int .u64 0, .int .u64 0, .slice none 0 0, .int .i64 0, .int .i64 0] 28)) (w.heap.size + 1) 28 #[.int .i64 0, .int .u64 0, .int .u64 0, .int .u64 0, .int .u64 0, .slice none 0 0, .int .i64 0, .int .i64 0] from Blk.new_at (by simp))
 clear ht hb2 hlen
 unfold ndV
 unfold ndV ndA at HI
 unfold ndA at HB2 HZ2
 go_enter Tryz.func95, Tryz.ntmps95
 go_wp2_with fail
 refine HI.out.mono ?_
 rintro e w3 ⟨B3, cap3, rfl, hb3, hc3, ht3⟩
 have hZ3 := HZ2.out.below hb3 HZ2.out.lt
 have HB3 := Lib.hid (HB2.out.trans (hb3.mono HB2.out.size))
 have HZ3 := Lib.hid hZ3
 have HC3 := Lib.hid hc3
 have HT3 := Lib.hid (ht3.weak (Q := fun b => w.heap.size + 2 ≤ b) (fun b hb _ => by simpa using hb))
 have y0 : w3.cell? ⟨w.heap.size + 1, 0, none⟩ = some (.int .i64 0) := hZ3.cell 0
 have y1 : w3.cell? ⟨w.heap.size + 1, 1, none⟩ = some (.int .u64 0) := hZ3.cell 1
 have y2 : w3.cell? ⟨w.heap.size + 1, 2, none⟩ = some (.int .u64 0) := hZ3.cell 2
 have y3 : w3.cell? ⟨w.heap.size + 1, 3, none⟩ = some (.int .u64 0) := hZ3.cell 3
 have y4 : w3.cell? ⟨w.heap.size + 1, 4, none⟩ = some (.int .u64 0) := hZ3.cell 4
 have y5 : w3.cell? ⟨w.heap.size + 1, 5, none⟩ = some (.slice none 0 0) := hZ3.cell 5
 have y6 : w3.cell? ⟨w.heap.size + 1, 6, none⟩ = some (.int .i64 0) := hZ3.cell 6
 have y7 : w3.cell? ⟨w.heap.size + 1, 7, none⟩ = some (.int .i64 0) := hZ3.cell 7
 have g0 := hZ3.frozen 0
 have g1 := hZ3.frozen 1
 have g2 := hZ3.frozen 2
 have g3 := hZ3.frozen 3
 have g4 := hZ3.frozen 4
 have g5 := hZ3.frozen 5
 have g6 := hZ3.frozen 6
 have g7 := hZ3.frozen 7
 have lz := hZ3.lt
 clear hZ3 ht3 hb3 hc3 HI HZ2 HB2
 dsimp only
 go_wp2
 have hF := put_next (x := overT 9 x lo hi) (B := B3) (cap := cap3) HZ3.out HB3.out HT3.out rfl
 have hal := fun (S : World) (o : Obj) => (show Below S.heap.size S (S.alloc o) from (Below.refl _ _).alloc (Nat.le_refl _) _)
 exact bodyPost_ret (ret_node Tryz.results95 rfl (Blk.alloc hF.1 _)) rfl ⟨B3, cap3, rfl, hF.2.1.trans ((hal _ _).mono hF.2.1.size), HC3.out, (hF.2.2.below (hal _ _)).weak (fun b h _ => h)⟩
theorem none_new (w : World) : Calls Tryz.prog 79 #[] w (NewT noneN w) := (none_go w).mono fun e w' ⟨h1, h2⟩ => ⟨none, 0, by rw [h1]; simp only [ndV, noneN, word_zero]; rfl, h2, Nat.le_refl _, trivial⟩
theorem empty_new (w : World) : Calls Tryz.prog 90 #[] w (NewT emptyN w) := (empty_go w).mono fun e w' ⟨h1, h2⟩ => ⟨none, 0, by rw [h1]; simp only [ndV, emptyN, word_zero]; rfl, h2, Nat.le_refl _, trivial⟩
theorem copy_new (x : Nd) (P : Nat → Prop) (B : Option Addr) (cap : Nat) (w : World) (hlen : x.size ≤ 90000000) (ht : TreesAt w P x.kids B) : Calls Tryz.prog 55 #[ndV x B cap] w (NewT x w) := copy_go x P B cap w (by omega) ht
theorem star_new (x : Nd) (P : Nat → Prop) (B : Option Addr) (cap : Nat) (w : World) (hlen : x.size ≤ 90000000) (ht : TreesAt w P x.kids B) : Calls Tryz.prog 91 #[ndV x B cap] w (NewT (overN 6 x) w) := tstar_go x P B cap w (by omega) ht
theorem plus_new (x : Nd) (P : Nat → Prop) (B : Option Addr) (cap : Nat) (w : World) (hlen : x.size ≤ 90000000) (ht : TreesAt w P x.kids B) : Calls Tryz.prog 93 #[ndV x B cap] w (NewT (overN 7 x) w) := tplus_go x P B cap w (by omega) ht
theorem opt_new (x : Nd) (P : Nat → Prop) (B : Option Addr) (cap : Nat) (w : World) (hlen : x.size ≤ 90000000) (ht : TreesAt w P x.kids B) : Calls Tryz.prog 94 #[ndV x B cap] w (NewT (overN 8 x) w) := topt_go x P B cap w (by omega) ht
theorem kind_no {k c : Int} (h : k ≠ c) : (k == c) = false := by rw [beq_eq_false_iff_ne]; exact h
theorem kind_yes {k c : Int} (h : k = c) : (k == c) = true := by rw [beq_iff_eq]; exact h
theorem sstar1 (x : Nd) (P : Nat → Prop) (B : Option Addr) (cap : Nat) (w : World) (hlen : x.size ≤ 90000000) (ht : TreesAt w P x.kids B) (h0 : x.kind = 1) :
  Calls Tryz.prog 33 #[ndV x B cap] w (NewT (starP x) w) := by
 obtain ⟨hb2, HB2, HX2, HZ2, HW2⟩ := two_hid w x B cap
 have HV := Lib.hid (show starP x = emptyN by unfold starP; rw [if_pos (by omega)])
 have e0 := kind_yes h0
 have HI := Lib.hid (empty_new (W2n w x B cap))
 clear ht hb2 hlen
 clear h0
 unfold ndV at *
 unfold ndA at *
 obtain ⟨x0, x1, x2, x3, x4, x5, x6, x7, hl2⟩ := (HX2.out).c8n
 go_enter Tryz.func33, Tryz.ntmps33
 go_upto_region 1 with fail
 rw [← W2n_lit w x B cap]
 generalize hw2 : W2n w x B cap = w2 at *
 go_wp2_with fail
 refine HI.out.mono ?_
 rintro e w3 ⟨B3, cap3, rfl, hb3, hc3, ht3⟩
 have hZ3 := HZ2.out.below hb3 HZ2.out.lt
 have HB3 := Lib.hid (HB2.out.trans (hb3.mono HB2.out.size))
 have HZ3 := Lib.hid hZ3
 have HT3 := Lib.hid (ht3.weak (Q := fun b => w.heap.size + 2 ≤ b) (fun b hb _ => by have := HZ2.out.lt; have := HW2.out; omega))
 obtain ⟨y0, y1, y2, y3, y4, y5, y6, y7, g0, g1, g2, g3, g4, g5, g6, g7⟩ := hZ3.z16
 clear hZ3 ht3 hb3 HI HZ2 HB2 HX2 x0 x1 x2 x3 x4 x5 x6 x7 hl2
 generalize hy : emptyN = y at *
 have HY := Lib.hid hy
 clear hy
 unfold ndV
 dsimp only
 go_wp2
 go_light
 have hF := put_next (x := y) (B := B3) (cap := cap3) HZ3.out HB3.out HT3.out rfl
 refine bodyPost_ret (ret_node Tryz.results33 rfl hF.1) rfl ?_
 rw [HV.out]
 exact ⟨B3, cap3, rfl, hF.2.1, hc3, hF.2.2⟩
theorem sstar2 (x : Nd) (P : Nat → Prop) (B : Option Addr) (cap : Nat) (w : World) (hlen : x.size ≤ 90000000) (ht : TreesAt w P x.kids B) (h0 : x.kind ≠ 1) (h1 : x.kind = 2) :
  Calls Tryz.prog 33 #[ndV x B cap] w (NewT (starP x) w) := by
 obtain ⟨hb2, HB2, HX2, HZ2, HW2⟩ := two_hid w x B cap
 have HV := Lib.hid (show starP x = emptyN by unfold starP; rw [if_pos (by omega)])
 have e0 := kind_no h0
 have e1 := kind_yes h1
 have HI := Lib.hid (empty_new (W2n w x B cap))
 clear ht hb2 hlen
 clear h0 h1
 unfold ndV at *
 unfold ndA at *
 obtain ⟨x0, x1, x2, x3, x4, x5, x6, x7, hl2⟩ := (HX2.out).c8n
 go_enter Tryz.func33, Tryz.ntmps33
 go_upto_region 1 with fail
 rw [← W2n_lit w x B cap]
 generalize hw2 : W2n w x B cap = w2 at *
 go_wp2_with fail
 refine HI.out.mono ?_
 rintro e w3 ⟨B3, cap3, rfl, hb3, hc3, ht3⟩
 have hZ3 := HZ2.out.below hb3 HZ2.out.lt
 have HB3 := Lib.hid (HB2.out.trans (hb3.mono HB2.out.size))
 have HZ3 := Lib.hid hZ3
 have HT3 := Lib.hid (ht3.weak (Q := fun b => w.heap.size + 2 ≤ b) (fun b hb _ => by have := HZ2.out.lt; have := HW2.out; omega))
 obtain ⟨y0, y1, y2, y3, y4, y5, y6, y7, g0, g1, g2, g3, g4, g5, g6, g7⟩ := hZ3.z16
 clear hZ3 ht3 hb3 HI HZ2 HB2 HX2 x0 x1 x2 x3 x4 x5 x6 x7 hl2
 generalize hy : emptyN = y at *
 have HY := Lib.hid hy
 clear hy
 unfold ndV
 dsimp only
 go_wp2
 go_light
 have hF := put_next (x := y) (B := B3) (cap := cap3) HZ3.out HB3.out HT3.out rfl
 refine bodyPost_ret (ret_node Tryz.results33 rfl hF.1) rfl ?_
 rw [HV.out]
 exact ⟨B3, cap3, rfl, hF.2.1, hc3, hF.2.2⟩
theorem st6 (x : Nd) (P : Nat → Prop) (B : Option Addr) (cap : Nat) (w : World) (hlen : x.size ≤ 90000000) (ht : TreesAt w P x.kids B) (hok : OkN x) (h6 : 6 ≤ x.kind) (h0 : x.kind ≠ 1) (h1 : x.kind ≠ 2) (h2 : x.kind = 6) :
  Calls Tryz.prog 33 #[ndV x B cap] w (NewT (starP x) w) := by
 obtain ⟨hb2, HB2, HX2, HZ2, HW2⟩ := two_hid w x B cap
 have HV := Lib.hid (show starP x = overN 6 (kid0 x) by unfold starP; rw [if_neg (by omega)]; rw [if_pos (by omega)])
 have e0 := kind_no h0
 have e1 := kind_no h1
 have e2 := kind_yes h2
 obtain ⟨z, hz⟩ := ok_one hok h6
 have hk0 : kid0 x = z := kid0_one hz
 have hg : x.kids.list[0]? = some z := by rw [hz]; rfl
 have hzs := Trees.size_get x.kids 0 z hg
 have hlz : x.kids.len = 1 := by rw [← Trees.len_list, hz]; rfl
 obtain ⟨b, o, C, capc, hBe, _, hck, ⟨c0, c1, c2, c3, c4, c5, c6, c7⟩, hkz⟩ := (ht.below hb2).get hg
 simp only [Nat.zero_mul, Nat.add_zero] at c0 c1 c2 c3 c4 c5 c6 c7
 have hbl := World.block_lt_of_cell? _ _ c0
 have HI := Lib.hid (star_new z P C capc (W2n w x B cap) (by unfold Nd.size at hlen; omega) hkz)
 have hd0 : (0 : Int) < (x.kids.len : Int) := by omega
 have HBe := Lib.hid hBe
 clear ht hkz hg hz hb2 hlen hzs hck hBe hlz
 rw [hk0] at HV
 clear h0 h1 h2
 unfold ndV at *
 unfold ndA at *
 obtain ⟨x0, x1, x2, x3, x4, x5, x6, x7, hl2⟩ := (HX2.out).c8n
 go_enter Tryz.func33, Tryz.ntmps33
 go_upto_region 1 with fail
 rw [← W2n_lit w x B cap]
 generalize hw2 : W2n w x B cap = w2 at *
 have hBe := HBe.out
 go_wp2_with fail
 refine HI.out.mono ?_
 rintro e w3 ⟨B3, cap3, rfl, hb3, hc3, ht3⟩
 have hZ3 := HZ2.out.below hb3 HZ2.out.lt
 have HB3 := Lib.hid (HB2.out.trans (hb3.mono HB2.out.size))
 have HZ3 := Lib.hid hZ3
 have HT3 := Lib.hid (ht3.weak (Q := fun b => w.heap.size + 2 ≤ b) (fun b hb _ => by have := HZ2.out.lt; have := HW2.out; omega))
 obtain ⟨y0, y1, y2, y3, y4, y5, y6, y7, g0, g1, g2, g3, g4, g5, g6, g7⟩ := hZ3.z16
 clear hZ3 ht3 hb3 HI HZ2 HB2 HX2 x0 x1 x2 x3 x4 x5 x6 x7 hl2
 generalize hy : overN 6 z = y at *
 have HY := Lib.hid hy
 clear hy
 unfold ndV
 dsimp only
 go_wp2
 go_light
 have hF := put_next (x := y) (B := B3) (cap := cap3) HZ3.out HB3.out HT3.out rfl
 refine bodyPost_ret (ret_node Tryz.results33 rfl hF.1) rfl ?_
 rw [HV.out]
 exact ⟨B3, cap3, rfl, hF.2.1, hc3, hF.2.2⟩
theorem st7 (x : Nd) (P : Nat → Prop) (B : Option Addr) (cap : Nat) (w : World) (hlen : x.size ≤ 90000000) (ht : TreesAt w P x.kids B) (hok : OkN x) (h6 : 6 ≤ x.kind) (h0 : x.kind ≠ 1) (h1 : x.kind ≠ 2) (h2 : x.kind ≠ 6) (h3 : x.kind = 7) :
  Calls Tryz.prog 33 #[ndV x B cap] w (NewT (starP x) w) := by
 obtain ⟨hb2, HB2, HX2, HZ2, HW2⟩ := two_hid w x B cap
 have HV := Lib.hid (show starP x = overN 6 (kid0 x) by unfold starP; rw [if_neg (by omega)]; rw [if_pos (by omega)])
 have e0 := kind_no h0
 have e1 := kind_no h1
 have e2 := kind_no h2
 have e3 := kind_yes h3
 obtain ⟨z, hz⟩ := ok_one hok h6
 have hk0 : kid0 x = z := kid0_one hz
 have hg : x.kids.list[0]? = some z := by rw [hz]; rfl
 have hzs := Trees.size_get x.kids 0 z hg
 have hlz : x.kids.len = 1 := by rw [← Trees.len_list, hz]; rfl
 obtain ⟨b, o, C, capc, hBe, _, hck, ⟨c0, c1, c2, c3, c4, c5, c6, c7⟩, hkz⟩ := (ht.below hb2).get hg
 simp only [Nat.zero_mul, Nat.add_zero] at c0 c1 c2 c3 c4 c5 c6 c7
 have hbl := World.block_lt_of_cell? _ _ c0
 have HI := Lib.hid (star_new z P C capc (W2n w x B cap) (by unfold Nd.size at hlen; omega) hkz)
 have hd0 : (0 : Int) < (x.kids.len : Int) := by omega
 have HBe := Lib.hid hBe
 clear ht hkz hg hz hb2 hlen hzs hck hBe hlz
 rw [hk0] at HV
 clear h0 h1 h2 h3
 unfold ndV at *
 unfold ndA at *
 obtain ⟨x0, x1, x2, x3, x4, x5, x6, x7, hl2⟩ := (HX2.out).c8n
 go_enter Tryz.func33, Tryz.ntmps33
 go_upto_region 1 with fail
 rw [← W2n_lit w x B cap]
 generalize hw2 : W2n w x B cap = w2 at *
 have hBe := HBe.out
 go_wp2_with fail
 refine HI.out.mono ?_
 rintro e w3 ⟨B3, cap3, rfl, hb3, hc3, ht3⟩
 have hZ3 := HZ2.out.below hb3 HZ2.out.lt
 have HB3 := Lib.hid (HB2.out.trans (hb3.mono HB2.out.size))
 have HZ3 := Lib.hid hZ3
 have HT3 := Lib.hid (ht3.weak (Q := fun b => w.heap.size + 2 ≤ b) (fun b hb _ => by have := HZ2.out.lt; have := HW2.out; omega))
 obtain ⟨y0, y1, y2, y3, y4, y5, y6, y7, g0, g1, g2, g3, g4, g5, g6, g7⟩ := hZ3.z16
 clear hZ3 ht3 hb3 HI HZ2 HB2 HX2 x0 x1 x2 x3 x4 x5 x6 x7 hl2
 generalize hy : overN 6 z = y at *
 have HY := Lib.hid hy
 clear hy
 unfold ndV
 dsimp only
 go_wp2
 go_light
 have hF := put_next (x := y) (B := B3) (cap := cap3) HZ3.out HB3.out HT3.out rfl
 refine bodyPost_ret (ret_node Tryz.results33 rfl hF.1) rfl ?_
 rw [HV.out]
 exact ⟨B3, cap3, rfl, hF.2.1, hc3, hF.2.2⟩
theorem st8 (x : Nd) (P : Nat → Prop) (B : Option Addr) (cap : Nat) (w : World) (hlen : x.size ≤ 90000000) (ht : TreesAt w P x.kids B) (hok : OkN x) (h6 : 6 ≤ x.kind) (h0 : x.kind ≠ 1) (h1 : x.kind ≠ 2) (h2 : x.kind ≠ 6) (h3 : x.kind ≠ 7) (h4 : x.kind = 8) :
  Calls Tryz.prog 33 #[ndV x B cap] w (NewT (starP x) w) := by
 obtain ⟨hb2, HB2, HX2, HZ2, HW2⟩ := two_hid w x B cap
 have HV := Lib.hid (show starP x = overN 6 (kid0 x) by unfold starP; rw [if_neg (by omega)]; rw [if_pos (by omega)])
 have e0 := kind_no h0
 have e1 := kind_no h1
 have e2 := kind_no h2
 have e3 := kind_no h3
 have e4 := kind_yes h4
 obtain ⟨z, hz⟩ := ok_one hok h6
 have hk0 : kid0 x = z := kid0_one hz
 have hg : x.kids.list[0]? = some z := by rw [hz]; rfl
 have hzs := Trees.size_get x.kids 0 z hg
 have hlz : x.kids.len = 1 := by rw [← Trees.len_list, hz]; rfl
 obtain ⟨b, o, C, capc, hBe, _, hck, ⟨c0, c1, c2, c3, c4, c5, c6, c7⟩, hkz⟩ := (ht.below hb2).get hg
 simp only [Nat.zero_mul, Nat.add_zero] at c0 c1 c2 c3 c4 c5 c6 c7
 have hbl := World.block_lt_of_cell? _ _ c0
 have HI := Lib.hid (star_new z P C capc (W2n w x B cap) (by unfold Nd.size at hlen; omega) hkz)
 have hd0 : (0 : Int) < (x.kids.len : Int) := by omega
 have HBe := Lib.hid hBe
 clear ht hkz hg hz hb2 hlen hzs hck hBe hlz
 rw [hk0] at HV
 clear h0 h1 h2 h3 h4
 unfold ndV at *
 unfold ndA at *
 obtain ⟨x0, x1, x2, x3, x4, x5, x6, x7, hl2⟩ := (HX2.out).c8n
 go_enter Tryz.func33, Tryz.ntmps33
 go_upto_region 1 with fail
 rw [← W2n_lit w x B cap]
 generalize hw2 : W2n w x B cap = w2 at *
 have hBe := HBe.out
 go_wp2_with fail
 refine HI.out.mono ?_
 rintro e w3 ⟨B3, cap3, rfl, hb3, hc3, ht3⟩
 have hZ3 := HZ2.out.below hb3 HZ2.out.lt
 have HB3 := Lib.hid (HB2.out.trans (hb3.mono HB2.out.size))
 have HZ3 := Lib.hid hZ3
 have HT3 := Lib.hid (ht3.weak (Q := fun b => w.heap.size + 2 ≤ b) (fun b hb _ => by have := HZ2.out.lt; have := HW2.out; omega))
 obtain ⟨y0, y1, y2, y3, y4, y5, y6, y7, g0, g1, g2, g3, g4, g5, g6, g7⟩ := hZ3.z16
 clear hZ3 ht3 hb3 HI HZ2 HB2 HX2 x0 x1 x2 x3 x4 x5 x6 x7 hl2
 generalize hy : overN 6 z = y at *
 have HY := Lib.hid hy
 clear hy
 unfold ndV
 dsimp only
 go_wp2
 go_light
 have hF := put_next (x := y) (B := B3) (cap := cap3) HZ3.out HB3.out HT3.out rfl
 refine bodyPost_ret (ret_node Tryz.results33 rfl hF.1) rfl ?_
 rw [HV.out]
 exact ⟨B3, cap3, rfl, hF.2.1, hc3, hF.2.2⟩
theorem st0 (x : Nd) (P : Nat → Prop) (B : Option Addr) (cap : Nat) (w : World) (hlen : x.size ≤ 90000000) (ht : TreesAt w P x.kids B) (h0 : x.kind ≠ 1) (h1 : x.kind ≠ 2) (h2 : x.kind ≠ 6) (h3 : x.kind ≠ 7) (h4 : x.kind ≠ 8) :
  Calls Tryz.prog 33 #[ndV x B cap] w (NewT (starP x) w) := by
 obtain ⟨hb2, HB2, HX2, HZ2, HW2⟩ := two_hid w x B cap
 have HV := Lib.hid (show starP x = overN 6 x by unfold starP; rw [if_neg (by omega)]; rw [if_neg (by omega)])
 have e0 := kind_no h0
 have e1 := kind_no h1
 have e2 := kind_no h2
 have e3 := kind_no h3
 have e4 := kind_no h4
 have HI := Lib.hid (star_new x P B cap (W2n w x B cap) hlen (ht.below hb2))
 clear ht hb2 hlen
 clear h0 h1 h2 h3 h4
 unfold ndV at *
 unfold ndA at *
 obtain ⟨x0, x1, x2, x3, x4, x5, x6, x7, hl2⟩ := (HX2.out).c8n
 go_enter Tryz.func33, Tryz.ntmps33
 go_upto_region 1 with fail
 rw [← W2n_lit w x B cap]
 generalize hw2 : W2n w x B cap = w2 at *
 go_wp2_with fail
 refine HI.out.mono ?_
 rintro e w3 ⟨B3, cap3, rfl, hb3, hc3, ht3⟩
 have hZ3 := HZ2.out.below hb3 HZ2.out.lt
 have HB3 := Lib.hid (HB2.out.trans (hb3.mono HB2.out.size))
 have HZ3 := Lib.hid hZ3
 have HT3 := Lib.hid (ht3.weak (Q := fun b => w.heap.size + 2 ≤ b) (fun b hb _ => by have := HZ2.out.lt; have := HW2.out; omega))
 obtain ⟨y0, y1, y2, y3, y4, y5, y6, y7, g0, g1, g2, g3, g4, g5, g6, g7⟩ := hZ3.z16
 clear hZ3 ht3 hb3 HI HZ2 HB2 HX2 x0 x1 x2 x3 x4 x5 x6 x7 hl2
 generalize hy : overN 6 x = y at *
 have HY := Lib.hid hy
 clear hy
 unfold ndV
 dsimp only
 go_wp2
 go_light
 have hF := put_next (x := y) (B := B3) (cap := cap3) HZ3.out HB3.out HT3.out rfl
 refine bodyPost_ret (ret_node Tryz.results33 rfl hF.1) rfl ?_
 rw [HV.out]
 exact ⟨B3, cap3, rfl, hF.2.1, hc3, hF.2.2⟩
theorem sstar_go (x : Nd) (P : Nat → Prop) (B : Option Addr) (cap : Nat) (w : World) (hlen : x.size ≤ 90000000) (ht : TreesAt w P x.kids B) (hok : OkN x) : Calls Tryz.prog 33 #[ndV x B cap] w (NewT (starP x) w) := by
 by_cases h1 : x.kind = 1
 ·exact sstar1 x P B cap w hlen ht h1
 by_cases h2 : x.kind = 2
 ·exact sstar2 x P B cap w hlen ht h1 h2
 by_cases h6 : x.kind = 6
 ·exact st6 x P B cap w hlen ht hok (by omega) h1 h2 h6
 by_cases h7 : x.kind = 7
 ·exact st7 x P B cap w hlen ht hok (by omega) h1 h2 h6 h7
 by_cases h8 : x.kind = 8
 ·exact st8 x P B cap w hlen ht hok (by omega) h1 h2 h6 h7 h8
 ·exact st0 x P B cap w hlen ht h1 h2 h6 h7 h8
theorem pl1 (x : Nd) (P : Nat → Prop) (B : Option Addr) (cap : Nat) (w : World) (hlen : x.size ≤ 90000000) (ht : TreesAt w P x.kids B) (h0 : x.kind = 1) :
  Calls Tryz.prog 35 #[ndV x B cap] w (NewT (plusP x) w) := by
 obtain ⟨hb2, HB2, HX2, HZ2, HW2⟩ := two_hid w x B cap
 have HV := Lib.hid (show plusP x = x by unfold plusP; rw [if_pos (by omega)])
 have e0 := kind_yes h0
 have HI := Lib.hid (copy_new x P B cap (W2n w x B cap) hlen (ht.below hb2))
 clear ht hb2 hlen
 clear h0
 unfold ndV at *
 unfold ndA at *
 obtain ⟨x0, x1, x2, x3, x4, x5, x6, x7, hl2⟩ := (HX2.out).c8n
 go_enter Tryz.func35, Tryz.ntmps35
 go_upto_region 1 with fail
 rw [← W2n_lit w x B cap]
 generalize hw2 : W2n w x B cap = w2 at *
 go_wp2_with fail
 refine HI.out.mono ?_
 rintro e w3 ⟨B3, cap3, rfl, hb3, hc3, ht3⟩
 have hZ3 := HZ2.out.below hb3 HZ2.out.lt
 have HB3 := Lib.hid (HB2.out.trans (hb3.mono HB2.out.size))
 have HZ3 := Lib.hid hZ3
 have HT3 := Lib.hid (ht3.weak (Q := fun b => w.heap.size + 2 ≤ b) (fun b hb _ => by have := HZ2.out.lt; have := HW2.out; omega))
 obtain ⟨y0, y1, y2, y3, y4, y5, y6, y7, g0, g1, g2, g3, g4, g5, g6, g7⟩ := hZ3.z16
 clear hZ3 ht3 hb3 HI HZ2 HB2 HX2 x0 x1 x2 x3 x4 x5 x6 x7 hl2
 generalize hy : x = y at *
 have HY := Lib.hid hy
 clear hy
 unfold ndV
 dsimp only
 go_wp2
 go_light
 have hF := put_next (x := y) (B := B3) (cap := cap3) HZ3.out HB3.out HT3.out rfl
 refine bodyPost_ret (ret_node Tryz.results35 rfl hF.1) rfl ?_
 rw [HV.out]
 exact ⟨B3, cap3, rfl, hF.2.1, hc3, hF.2.2⟩
theorem pl2 (x : Nd) (P : Nat → Prop) (B : Option Addr) (cap : Nat) (w : World) (hlen : x.size ≤ 90000000) (ht : TreesAt w P x.kids B) (h0 : x.kind ≠ 1) (h1 : x.kind = 2) :
  Calls Tryz.prog 35 #[ndV x B cap] w (NewT (plusP x) w) := by
 obtain ⟨hb2, HB2, HX2, HZ2, HW2⟩ := two_hid w x B cap
 have HV := Lib.hid (show plusP x = x by unfold plusP; rw [if_pos (by omega)])
 have e0 := kind_no h0
 have e1 := kind_yes h1
 have HI := Lib.hid (copy_new x P B cap (W2n w x B cap) hlen (ht.below hb2))
 clear ht hb2 hlen
 clear h0 h1
 unfold ndV at *
 unfold ndA at *
 obtain ⟨x0, x1, x2, x3, x4, x5, x6, x7, hl2⟩ := (HX2.out).c8n
 go_enter Tryz.func35, Tryz.ntmps35
 go_upto_region 1 with fail
 rw [← W2n_lit w x B cap]
 generalize hw2 : W2n w x B cap = w2 at *
 go_wp2_with fail
 refine HI.out.mono ?_
 rintro e w3 ⟨B3, cap3, rfl, hb3, hc3, ht3⟩
 have hZ3 := HZ2.out.below hb3 HZ2.out.lt
 have HB3 := Lib.hid (HB2.out.trans (hb3.mono HB2.out.size))
 have HZ3 := Lib.hid hZ3
 have HT3 := Lib.hid (ht3.weak (Q := fun b => w.heap.size + 2 ≤ b) (fun b hb _ => by have := HZ2.out.lt; have := HW2.out; omega))
 obtain ⟨y0, y1, y2, y3, y4, y5, y6, y7, g0, g1, g2, g3, g4, g5, g6, g7⟩ := hZ3.z16
 clear hZ3 ht3 hb3 HI HZ2 HB2 HX2 x0 x1 x2 x3 x4 x5 x6 x7 hl2
 generalize hy : x = y at *
 have HY := Lib.hid hy
 clear hy
 unfold ndV
 dsimp only
 go_wp2
 go_light
 have hF := put_next (x := y) (B := B3) (cap := cap3) HZ3.out HB3.out HT3.out rfl
 refine bodyPost_ret (ret_node Tryz.results35 rfl hF.1) rfl ?_
 rw [HV.out]
 exact ⟨B3, cap3, rfl, hF.2.1, hc3, hF.2.2⟩
theorem pl6 (x : Nd) (P : Nat → Prop) (B : Option Addr) (cap : Nat) (w : World) (hlen : x.size ≤ 90000000) (ht : TreesAt w P x.kids B) (h0 : x.kind ≠ 1) (h1 : x.kind ≠ 2) (h2 : x.kind = 6) :
  Calls Tryz.prog 35 #[ndV x B cap] w (NewT (plusP x) w) := by
 obtain ⟨hb2, HB2, HX2, HZ2, HW2⟩ := two_hid w x B cap
 have HV := Lib.hid (show plusP x = x by unfold plusP; rw [if_pos (by omega)])
 have e0 := kind_no h0
 have e1 := kind_no h1
 have e2 := kind_yes h2
 have HI := Lib.hid (copy_new x P B cap (W2n w x B cap) hlen (ht.below hb2))
 clear ht hb2 hlen
 clear h0 h1 h2
 unfold ndV at *
 unfold ndA at *
 obtain ⟨x0, x1, x2, x3, x4, x5, x6, x7, hl2⟩ := (HX2.out).c8n
 go_enter Tryz.func35, Tryz.ntmps35
 go_upto_region 1 with fail
 rw [← W2n_lit w x B cap]
 generalize hw2 : W2n w x B cap = w2 at *
 go_wp2_with fail
 refine HI.out.mono ?_
 rintro e w3 ⟨B3, cap3, rfl, hb3, hc3, ht3⟩
 have hZ3 := HZ2.out.below hb3 HZ2.out.lt
 have HB3 := Lib.hid (HB2.out.trans (hb3.mono HB2.out.size))
 have HZ3 := Lib.hid hZ3
 have HT3 := Lib.hid (ht3.weak (Q := fun b => w.heap.size + 2 ≤ b) (fun b hb _ => by have := HZ2.out.lt; have := HW2.out; omega))
 obtain ⟨y0, y1, y2, y3, y4, y5, y6, y7, g0, g1, g2, g3, g4, g5, g6, g7⟩ := hZ3.z16
 clear hZ3 ht3 hb3 HI HZ2 HB2 HX2 x0 x1 x2 x3 x4 x5 x6 x7 hl2
 generalize hy : x = y at *
 have HY := Lib.hid hy
 clear hy
 unfold ndV
 dsimp only
 go_wp2
 go_light
 have hF := put_next (x := y) (B := B3) (cap := cap3) HZ3.out HB3.out HT3.out rfl
 refine bodyPost_ret (ret_node Tryz.results35 rfl hF.1) rfl ?_
 rw [HV.out]
 exact ⟨B3, cap3, rfl, hF.2.1, hc3, hF.2.2⟩
theorem pl7 (x : Nd) (P : Nat → Prop) (B : Option Addr) (cap : Nat) (w : World) (hlen : x.size ≤ 90000000) (ht : TreesAt w P x.kids B) (h0 : x.kind ≠ 1) (h1 : x.kind ≠ 2) (h2 : x.kind ≠ 6) (h3 : x.kind = 7) :
  Calls Tryz.prog 35 #[ndV x B cap] w (NewT (plusP x) w) := by
 obtain ⟨hb2, HB2, HX2, HZ2, HW2⟩ := two_hid w x B cap
 have HV := Lib.hid (show plusP x = x by unfold plusP; rw [if_pos (by omega)])
 have e0 := kind_no h0
 have e1 := kind_no h1
 have e2 := kind_no h2
 have e3 := kind_yes h3
 have HI := Lib.hid (copy_new x P B cap (W2n w x B cap) hlen (ht.below hb2))
 clear ht hb2 hlen
 clear h0 h1 h2 h3
 unfold ndV at *
 unfold ndA at *
 obtain ⟨x0, x1, x2, x3, x4, x5, x6, x7, hl2⟩ := (HX2.out).c8n
 go_enter Tryz.func35, Tryz.ntmps35
 go_upto_region 1 with fail
 rw [← W2n_lit w x B cap]
 generalize hw2 : W2n w x B cap = w2 at *
 go_wp2_with fail
 refine HI.out.mono ?_
 rintro e w3 ⟨B3, cap3, rfl, hb3, hc3, ht3⟩
 have hZ3 := HZ2.out.below hb3 HZ2.out.lt
 have HB3 := Lib.hid (HB2.out.trans (hb3.mono HB2.out.size))
 have HZ3 := Lib.hid hZ3
 have HT3 := Lib.hid (ht3.weak (Q := fun b => w.heap.size + 2 ≤ b) (fun b hb _ => by have := HZ2.out.lt; have := HW2.out; omega))
 obtain ⟨y0, y1, y2, y3, y4, y5, y6, y7, g0, g1, g2, g3, g4, g5, g6, g7⟩ := hZ3.z16
 clear hZ3 ht3 hb3 HI HZ2 HB2 HX2 x0 x1 x2 x3 x4 x5 x6 x7 hl2
 generalize hy : x = y at *
 have HY := Lib.hid hy
 clear hy
 unfold ndV
 dsimp only
 go_wp2
 go_light
 have hF := put_next (x := y) (B := B3) (cap := cap3) HZ3.out HB3.out HT3.out rfl
 refine bodyPost_ret (ret_node Tryz.results35 rfl hF.1) rfl ?_
 rw [HV.out]
 exact ⟨B3, cap3, rfl, hF.2.1, hc3, hF.2.2⟩
theorem pl8 (x : Nd) (P : Nat → Prop) (B : Option Addr) (cap : Nat) (w : World) (hlen : x.size ≤ 90000000) (ht : TreesAt w P x.kids B) (hok : OkN x) (h6 : 6 ≤ x.kind) (h0 : x.kind ≠ 1) (h1 : x.kind ≠ 2) (h2 : x.kind ≠ 6) (h3 : x.kind ≠ 7) (h4 : x.kind = 8) :
  Calls Tryz.prog 35 #[ndV x B cap] w (NewT (plusP x) w) := by
 obtain ⟨hb2, HB2, HX2, HZ2, HW2⟩ := two_hid w x B cap
 have HV := Lib.hid (show plusP x = overN 6 (kid0 x) by unfold plusP; rw [if_neg (by omega)]; rw [if_pos (by omega)])
 have e0 := kind_no h0
 have e1 := kind_no h1
 have e2 := kind_no h2
 have e3 := kind_no h3
 have e4 := kind_yes h4
 obtain ⟨z, hz⟩ := ok_one hok h6
 have hk0 : kid0 x = z := kid0_one hz
 have hg : x.kids.list[0]? = some z := by rw [hz]; rfl
 have hzs := Trees.size_get x.kids 0 z hg
 have hlz : x.kids.len = 1 := by rw [← Trees.len_list, hz]; rfl
 obtain ⟨b, o, C, capc, hBe, _, hck, ⟨c0, c1, c2, c3, c4, c5, c6, c7⟩, hkz⟩ := (ht.below hb2).get hg
 simp only [Nat.zero_mul, Nat.add_zero] at c0 c1 c2 c3 c4 c5 c6 c7
 have hbl := World.block_lt_of_cell? _ _ c0
 have HI := Lib.hid (star_new z P C capc (W2n w x B cap) (by unfold Nd.size at hlen; omega) hkz)
 have hd0 : (0 : Int) < (x.kids.len : Int) := by omega
 have HBe := Lib.hid hBe
 clear ht hkz hg hz hb2 hlen hzs hck hBe hlz
 rw [hk0] at HV
 clear h0 h1 h2 h3 h4
 unfold ndV at *
 unfold ndA at *
 obtain ⟨x0, x1, x2, x3, x4, x5, x6, x7, hl2⟩ := (HX2.out).c8n
 go_enter Tryz.func35, Tryz.ntmps35
 go_upto_region 1 with fail
 rw [← W2n_lit w x B cap]
 generalize hw2 : W2n w x B cap = w2 at *
 have hBe := HBe.out
 go_wp2_with fail
 refine HI.out.mono ?_
 rintro e w3 ⟨B3, cap3, rfl, hb3, hc3, ht3⟩
 have hZ3 := HZ2.out.below hb3 HZ2.out.lt
 have HB3 := Lib.hid (HB2.out.trans (hb3.mono HB2.out.size))
 have HZ3 := Lib.hid hZ3
 have HT3 := Lib.hid (ht3.weak (Q := fun b => w.heap.size + 2 ≤ b) (fun b hb _ => by have := HZ2.out.lt; have := HW2.out; omega))
 obtain ⟨y0, y1, y2, y3, y4, y5, y6, y7, g0, g1, g2, g3, g4, g5, g6, g7⟩ := hZ3.z16
 clear hZ3 ht3 hb3 HI HZ2 HB2 HX2 x0 x1 x2 x3 x4 x5 x6 x7 hl2
 generalize hy : overN 6 z = y at *
 have HY := Lib.hid hy
 clear hy
 unfold ndV
 dsimp only
 go_wp2
 go_light
 have hF := put_next (x := y) (B := B3) (cap := cap3) HZ3.out HB3.out HT3.out rfl
 refine bodyPost_ret (ret_node Tryz.results35 rfl hF.1) rfl ?_
 rw [HV.out]
 exact ⟨B3, cap3, rfl, hF.2.1, hc3, hF.2.2⟩
theorem pl0 (x : Nd) (P : Nat → Prop) (B : Option Addr) (cap : Nat) (w : World) (hlen : x.size ≤ 90000000) (ht : TreesAt w P x.kids B) (h0 : x.kind ≠ 1) (h1 : x.kind ≠ 2) (h2 : x.kind ≠ 6) (h3 : x.kind ≠ 7) (h4 : x.kind ≠ 8) :
  Calls Tryz.prog 35 #[ndV x B cap] w (NewT (plusP x) w) := by
 obtain ⟨hb2, HB2, HX2, HZ2, HW2⟩ := two_hid w x B cap
 have HV := Lib.hid (show plusP x = overN 7 x by unfold plusP; rw [if_neg (by omega)]; rw [if_neg (by omega)])
 have e0 := kind_no h0
 have e1 := kind_no h1
 have e2 := kind_no h2
 have e3 := kind_no h3
 have e4 := kind_no h4
 have HI := Lib.hid (plus_new x P B cap (W2n w x B cap) hlen (ht.below hb2))
 clear ht hb2 hlen
 clear h0 h1 h2 h3 h4
 unfold ndV at *
 unfold ndA at *
 obtain ⟨x0, x1, x2, x3, x4, x5, x6, x7, hl2⟩ := (HX2.out).c8n
 go_enter Tryz.func35, Tryz.ntmps35
 go_upto_region 1 with fail
 rw [← W2n_lit w x B cap]
 generalize hw2 : W2n w x B cap = w2 at *
 go_wp2_with fail
 refine HI.out.mono ?_
 rintro e w3 ⟨B3, cap3, rfl, hb3, hc3, ht3⟩
 have hZ3 := HZ2.out.below hb3 HZ2.out.lt
 have HB3 := Lib.hid (HB2.out.trans (hb3.mono HB2.out.size))
 have HZ3 := Lib.hid hZ3
 have HT3 := Lib.hid (ht3.weak (Q := fun b => w.heap.size + 2 ≤ b) (fun b hb _ => by have := HZ2.out.lt; have := HW2.out; omega))
 obtain ⟨y0, y1, y2, y3, y4, y5, y6, y7, g0, g1, g2, g3, g4, g5, g6, g7⟩ := hZ3.z16
 clear hZ3 ht3 hb3 HI HZ2 HB2 HX2 x0 x1 x2 x3 x4 x5 x6 x7 hl2
 generalize hy : overN 7 x = y at *
 have HY := Lib.hid hy
 clear hy
 unfold ndV
 dsimp only
 go_wp2
 go_light
 have hF := put_next (x := y) (B := B3) (cap := cap3) HZ3.out HB3.out HT3.out rfl
 refine bodyPost_ret (ret_node Tryz.results35 rfl hF.1) rfl ?_
 rw [HV.out]
 exact ⟨B3, cap3, rfl, hF.2.1, hc3, hF.2.2⟩
theorem splus_go (x : Nd) (P : Nat → Prop) (B : Option Addr) (cap : Nat) (w : World) (hlen : x.size ≤ 90000000) (ht : TreesAt w P x.kids B) (hok : OkN x) : Calls Tryz.prog 35 #[ndV x B cap] w (NewT (plusP x) w) := by
 by_cases h1 : x.kind = 1
 ·exact pl1 x P B cap w hlen ht h1
 by_cases h2 : x.kind = 2
 ·exact pl2 x P B cap w hlen ht h1 h2
 by_cases h6 : x.kind = 6
 ·exact pl6 x P B cap w hlen ht h1 h2 h6
 by_cases h7 : x.kind = 7
 ·exact pl7 x P B cap w hlen ht h1 h2 h6 h7
 by_cases h8 : x.kind = 8
 ·exact pl8 x P B cap w hlen ht hok (by omega) h1 h2 h6 h7 h8
 ·exact pl0 x P B cap w hlen ht h1 h2 h6 h7 h8
theorem op1 (x : Nd) (P : Nat → Prop) (B : Option Addr) (cap : Nat) (w : World) (hlen : x.size ≤ 90000000) (ht : TreesAt w P x.kids B) (h0 : x.kind = 1) :
  Calls Tryz.prog 37 #[ndV x B cap] w (NewT (optP x) w) := by
 obtain ⟨hb2, HB2, HX2, HZ2, HW2⟩ := two_hid w x B cap
 have HV := Lib.hid (show optP x = emptyN by unfold optP; rw [if_pos (by omega)])
 have e0 := kind_yes h0
 have HI := Lib.hid (empty_new (W2n w x B cap))
 clear ht hb2 hlen
 clear h0
 unfold ndV at *
 unfold ndA at *
 obtain ⟨x0, x1, x2, x3, x4, x5, x6, x7, hl2⟩ := (HX2.out).c8n
 go_enter Tryz.func37, Tryz.ntmps37
 go_upto_region 1 with fail
 rw [← W2n_lit w x B cap]
 generalize hw2 : W2n w x B cap = w2 at *
 go_wp2_with fail
 refine HI.out.mono ?_
 rintro e w3 ⟨B3, cap3, rfl, hb3, hc3, ht3⟩
 have hZ3 := HZ2.out.below hb3 HZ2.out.lt
 have HB3 := Lib.hid (HB2.out.trans (hb3.mono HB2.out.size))
 have HZ3 := Lib.hid hZ3
 have HT3 := Lib.hid (ht3.weak (Q := fun b => w.heap.size + 2 ≤ b) (fun b hb _ => by have := HZ2.out.lt; have := HW2.out; omega))
 obtain ⟨y0, y1, y2, y3, y4, y5, y6, y7, g0, g1, g2, g3, g4, g5, g6, g7⟩ := hZ3.z16
 clear hZ3 ht3 hb3 HI HZ2 HB2 HX2 x0 x1 x2 x3 x4 x5 x6 x7 hl2
 generalize hy : emptyN = y at *
 have HY := Lib.hid hy
 clear hy
 unfold ndV
 dsimp only
 go_wp2
 go_light
 have hF := put_next (x := y) (B := B3) (cap := cap3) HZ3.out HB3.out HT3.out rfl
 refine bodyPost_ret (ret_node Tryz.results37 rfl hF.1) rfl ?_
 rw [HV.out]
 exact ⟨B3, cap3, rfl, hF.2.1, hc3, hF.2.2⟩
theorem op2 (x : Nd) (P : Nat → Prop) (B : Option Addr) (cap : Nat) (w : World) (hlen : x.size ≤ 90000000) (ht : TreesAt w P x.kids B) (h0 : x.kind ≠ 1) (h1 : x.kind = 2) :
  Calls Tryz.prog 37 #[ndV x B cap] w (NewT (optP x) w) := by
 obtain ⟨hb2, HB2, HX2, HZ2, HW2⟩ := two_hid w x B cap
 have HV := Lib.hid (show optP x = x by unfold optP; rw [if_neg (by omega)]; rw [if_pos (by omega)])
 have e0 := kind_no h0
 have e1 := kind_yes h1
 have HI := Lib.hid (copy_new x P B cap (W2n w x B cap) hlen (ht.below hb2))
 clear ht hb2 hlen
 clear h0 h1
 unfold ndV at *
 unfold ndA at *
 obtain ⟨x0, x1, x2, x3, x4, x5, x6, x7, hl2⟩ := (HX2.out).c8n
 go_enter Tryz.func37, Tryz.ntmps37
 go_upto_region 1 with fail
 rw [← W2n_lit w x B cap]
 generalize hw2 : W2n w x B cap = w2 at *
 go_wp2_with fail
 refine HI.out.mono ?_
 rintro e w3 ⟨B3, cap3, rfl, hb3, hc3, ht3⟩
 have hZ3 := HZ2.out.below hb3 HZ2.out.lt
 have HB3 := Lib.hid (HB2.out.trans (hb3.mono HB2.out.size))
 have HZ3 := Lib.hid hZ3
 have HT3 := Lib.hid (ht3.weak (Q := fun b => w.heap.size + 2 ≤ b) (fun b hb _ => by have := HZ2.out.lt; have := HW2.out; omega))
 obtain ⟨y0, y1, y2, y3, y4, y5, y6, y7, g0, g1, g2, g3, g4, g5, g6, g7⟩ := hZ3.z16
 clear hZ3 ht3 hb3 HI HZ2 HB2 HX2 x0 x1 x2 x3 x4 x5 x6 x7 hl2
 generalize hy : x = y at *
 have HY := Lib.hid hy
 clear hy
 unfold ndV
 dsimp only
 go_wp2
 go_light
 have hF := put_next (x := y) (B := B3) (cap := cap3) HZ3.out HB3.out HT3.out rfl
 refine bodyPost_ret (ret_node Tryz.results37 rfl hF.1) rfl ?_
 rw [HV.out]
 exact ⟨B3, cap3, rfl, hF.2.1, hc3, hF.2.2⟩
theorem op6 (x : Nd) (P : Nat → Prop) (B : Option Addr) (cap : Nat) (w : World) (hlen : x.size ≤ 90000000) (ht : TreesAt w P x.kids B) (h0 : x.kind ≠ 1) (h1 : x.kind ≠ 2) (h2 : x.kind = 6) :
  Calls Tryz.prog 37 #[ndV x B cap] w (NewT (optP x) w) := by
 obtain ⟨hb2, HB2, HX2, HZ2, HW2⟩ := two_hid w x B cap
 have HV := Lib.hid (show optP x = x by unfold optP; rw [if_neg (by omega)]; rw [if_pos (by omega)])
 have e0 := kind_no h0
 have e1 := kind_no h1
 have e2 := kind_yes h2
 have HI := Lib.hid (copy_new x P B cap (W2n w x B cap) hlen (ht.below hb2))
 clear ht hb2 hlen
 clear h0 h1 h2
 unfold ndV at *
 unfold ndA at *
 obtain ⟨x0, x1, x2, x3, x4, x5, x6, x7, hl2⟩ := (HX2.out).c8n
 go_enter Tryz.func37, Tryz.ntmps37
 go_upto_region 1 with fail
 rw [← W2n_lit w x B cap]
 generalize hw2 : W2n w x B cap = w2 at *
 go_wp2_with fail
 refine HI.out.mono ?_
 rintro e w3 ⟨B3, cap3, rfl, hb3, hc3, ht3⟩
 have hZ3 := HZ2.out.below hb3 HZ2.out.lt
 have HB3 := Lib.hid (HB2.out.trans (hb3.mono HB2.out.size))
 have HZ3 := Lib.hid hZ3
 have HT3 := Lib.hid (ht3.weak (Q := fun b => w.heap.size + 2 ≤ b) (fun b hb _ => by have := HZ2.out.lt; have := HW2.out; omega))
 obtain ⟨y0, y1, y2, y3, y4, y5, y6, y7, g0, g1, g2, g3, g4, g5, g6, g7⟩ := hZ3.z16
 clear hZ3 ht3 hb3 HI HZ2 HB2 HX2 x0 x1 x2 x3 x4 x5 x6 x7 hl2
 generalize hy : x = y at *
 have HY := Lib.hid hy
 clear hy
 unfold ndV
 dsimp only
 go_wp2
 go_light
 have hF := put_next (x := y) (B := B3) (cap := cap3) HZ3.out HB3.out HT3.out rfl
 refine bodyPost_ret (ret_node Tryz.results37 rfl hF.1) rfl ?_
 rw [HV.out]
 exact ⟨B3, cap3, rfl, hF.2.1, hc3, hF.2.2⟩
theorem op8 (x : Nd) (P : Nat → Prop) (B : Option Addr) (cap : Nat) (w : World) (hlen : x.size ≤ 90000000) (ht : TreesAt w P x.kids B) (h0 : x.kind ≠ 1) (h1 : x.kind ≠ 2) (h2 : x.kind ≠ 6) (h3 : x.kind = 8) :
  Calls Tryz.prog 37 #[ndV x B cap] w (NewT (optP x) w) := by
 obtain ⟨hb2, HB2, HX2, HZ2, HW2⟩ := two_hid w x B cap
 have HV := Lib.hid (show optP x = x by unfold optP; rw [if_neg (by omega)]; rw [if_pos (by omega)])
 have e0 := kind_no h0
 have e1 := kind_no h1
 have e2 := kind_no h2
 have e3 := kind_yes h3
 have HI := Lib.hid (copy_new x P B cap (W2n w x B cap) hlen (ht.below hb2))
 clear ht hb2 hlen
 clear h0 h1 h2 h3
 unfold ndV at *
 unfold ndA at *
 obtain ⟨x0, x1, x2, x3, x4, x5, x6, x7, hl2⟩ := (HX2.out).c8n
 go_enter Tryz.func37, Tryz.ntmps37
 go_upto_region 1 with fail
 rw [← W2n_lit w x B cap]
 generalize hw2 : W2n w x B cap = w2 at *
 go_wp2_with fail
 refine HI.out.mono ?_
 rintro e w3 ⟨B3, cap3, rfl, hb3, hc3, ht3⟩
 have hZ3 := HZ2.out.below hb3 HZ2.out.lt
 have HB3 := Lib.hid (HB2.out.trans (hb3.mono HB2.out.size))
 have HZ3 := Lib.hid hZ3
 have HT3 := Lib.hid (ht3.weak (Q := fun b => w.heap.size + 2 ≤ b) (fun b hb _ => by have := HZ2.out.lt; have := HW2.out; omega))
 obtain ⟨y0, y1, y2, y3, y4, y5, y6, y7, g0, g1, g2, g3, g4, g5, g6, g7⟩ := hZ3.z16
 clear hZ3 ht3 hb3 HI HZ2 HB2 HX2 x0 x1 x2 x3 x4 x5 x6 x7 hl2
 generalize hy : x = y at *
 have HY := Lib.hid hy
 clear hy
 unfold ndV
 dsimp only
 go_wp2
 go_light
 have hF := put_next (x := y) (B := B3) (cap := cap3) HZ3.out HB3.out HT3.out rfl
 refine bodyPost_ret (ret_node Tryz.results37 rfl hF.1) rfl ?_
 rw [HV.out]
 exact ⟨B3, cap3, rfl, hF.2.1, hc3, hF.2.2⟩
theorem op7 (x : Nd) (P : Nat → Prop) (B : Option Addr) (cap : Nat) (w : World) (hlen : x.size ≤ 90000000) (ht : TreesAt w P x.kids B) (hok : OkN x) (h6 : 6 ≤ x.kind) (h0 : x.kind ≠ 1) (h1 : x.kind ≠ 2) (h2 : x.kind ≠ 6) (h3 : x.kind ≠ 8) (h4 : x.kind = 7) :
  Calls Tryz.prog 37 #[ndV x B cap] w (NewT (optP x) w) := by
 obtain ⟨hb2, HB2, HX2, HZ2, HW2⟩ := two_hid w x B cap
 have HV := Lib.hid (show optP x = overN 6 (kid0 x) by unfold optP; rw [if_neg (by omega)]; rw [if_neg (by omega)]; rw [if_pos (by omega)])
 have e0 := kind_no h0
 have e1 := kind_no h1
 have e2 := kind_no h2
 have e3 := kind_no h3
 have e4 := kind_yes h4
 obtain ⟨z, hz⟩ := ok_one hok h6
 have hk0 : kid0 x = z := kid0_one hz
 have hg : x.kids.list[0]? = some z := by rw [hz]; rfl
 have hzs := Trees.size_get x.kids 0 z hg
 have hlz : x.kids.len = 1 := by rw [← Trees.len_list, hz]; rfl
 obtain ⟨b, o, C, capc, hBe, _, hck, ⟨c0, c1, c2, c3, c4, c5, c6, c7⟩, hkz⟩ := (ht.below hb2).get hg
 simp only [Nat.zero_mul, Nat.add_zero] at c0 c1 c2 c3 c4 c5 c6 c7
 have hbl := World.block_lt_of_cell? _ _ c0
 have HI := Lib.hid (star_new z P C capc (W2n w x B cap) (by unfold Nd.size at hlen; omega) hkz)
 have hd0 : (0 : Int) < (x.kids.len : Int) := by omega
 have HBe := Lib.hid hBe
 clear ht hkz hg hz hb2 hlen hzs hck hBe hlz
 rw [hk0] at HV
 clear h0 h1 h2 h3 h4
 unfold ndV at *
 unfold ndA at *
 obtain ⟨x0, x1, x2, x3, x4, x5, x6, x7, hl2⟩ := (HX2.out).c8n
 go_enter Tryz.func37, Tryz.ntmps37
 go_upto_region 1 with fail
 rw [← W2n_lit w x B cap]
 generalize hw2 : W2n w x B cap = w2 at *
 have hBe := HBe.out
 go_wp2_with fail
 refine HI.out.mono ?_
 rintro e w3 ⟨B3, cap3, rfl, hb3, hc3, ht3⟩
 have hZ3 := HZ2.out.below hb3 HZ2.out.lt
 have HB3 := Lib.hid (HB2.out.trans (hb3.mono HB2.out.size))
 have HZ3 := Lib.hid hZ3
 have HT3 := Lib.hid (ht3.weak (Q := fun b => w.heap.size + 2 ≤ b) (fun b hb _ => by have := HZ2.out.lt; have := HW2.out; omega))
 obtain ⟨y0, y1, y2, y3, y4, y5, y6, y7, g0, g1, g2, g3, g4, g5, g6, g7⟩ := hZ3.z16
 clear hZ3 ht3 hb3 HI HZ2 HB2 HX2 x0 x1 x2 x3 x4 x5 x6 x7 hl2
 generalize hy : overN 6 z = y at *
 have HY := Lib.hid hy
 clear hy
 unfold ndV
 dsimp only
 go_wp2
 go_light
 have hF := put_next (x := y) (B := B3) (cap := cap3) HZ3.out HB3.out HT3.out rfl
 refine bodyPost_ret (ret_node Tryz.results37 rfl hF.1) rfl ?_
 rw [HV.out]
 exact ⟨B3, cap3, rfl, hF.2.1, hc3, hF.2.2⟩
theorem op0 (x : Nd) (P : Nat → Prop) (B : Option Addr) (cap : Nat) (w : World) (hlen : x.size ≤ 90000000) (ht : TreesAt w P x.kids B) (h0 : x.kind ≠ 1) (h1 : x.kind ≠ 2) (h2 : x.kind ≠ 6) (h3 : x.kind ≠ 8) (h4 : x.kind ≠ 7) :
  Calls Tryz.prog 37 #[ndV x B cap] w (NewT (optP x) w) := by
 obtain ⟨hb2, HB2, HX2, HZ2, HW2⟩ := two_hid w x B cap
 have HV := Lib.hid (show optP x = overN 8 x by unfold optP; rw [if_neg (by omega)]; rw [if_neg (by omega)]; rw [if_neg (by omega)])
 have e0 := kind_no h0
 have e1 := kind_no h1
 have e2 := kind_no h2
 have e3 := kind_no h3
 have e4 := kind_no h4
 have HI := Lib.hid (opt_new x P B cap (W2n w x B cap) hlen (ht.below hb2))
 clear ht hb2 hlen
 clear h0 h1 h2 h3 h4
 unfold ndV at *
 unfold ndA at *
 obtain ⟨x0, x1, x2, x3, x4, x5, x6, x7, hl2⟩ := (HX2.out).c8n
 go_enter Tryz.func37, Tryz.ntmps37
 go_upto_region 1 with fail
 rw [← W2n_lit w x B cap]
 generalize hw2 : W2n w x B cap = w2 at *
 go_wp2_with fail
 refine HI.out.mono ?_
 rintro e w3 ⟨B3, cap3, rfl, hb3, hc3, ht3⟩
 have hZ3 := HZ2.out.below hb3 HZ2.out.lt
 have HB3 := Lib.hid (HB2.out.trans (hb3.mono HB2.out.size))
 have HZ3 := Lib.hid hZ3
 have HT3 := Lib.hid (ht3.weak (Q := fun b => w.heap.size + 2 ≤ b) (fun b hb _ => by have := HZ2.out.lt; have := HW2.out; omega))
 obtain ⟨y0, y1, y2, y3, y4, y5, y6, y7, g0, g1, g2, g3, g4, g5, g6, g7⟩ := hZ3.z16
 clear hZ3 ht3 hb3 HI HZ2 HB2 HX2 x0 x1 x2 x3 x4 x5 x6 x7 hl2
 generalize hy : overN 8 x = y at *
 have HY := Lib.hid hy
 clear hy
 unfold ndV
 dsimp only
 go_wp2
 go_light
 have hF := put_next (x := y) (B := B3) (cap := cap3) HZ3.out HB3.out HT3.out rfl
 refine bodyPost_ret (ret_node Tryz.results37 rfl hF.1) rfl ?_
 rw [HV.out]
 exact ⟨B3, cap3, rfl, hF.2.1, hc3, hF.2.2⟩
theorem sopt_go (x : Nd) (P : Nat → Prop) (B : Option Addr) (cap : Nat) (w : World) (hlen : x.size ≤ 90000000) (ht : TreesAt w P x.kids B) (hok : OkN x) : Calls Tryz.prog 37 #[ndV x B cap] w (NewT (optP x) w) := by
 by_cases h1 : x.kind = 1
 ·exact op1 x P B cap w hlen ht h1
 by_cases h2 : x.kind = 2
 ·exact op2 x P B cap w hlen ht h1 h2
 by_cases h6 : x.kind = 6
 ·exact op6 x P B cap w hlen ht h1 h2 h6
 by_cases h8 : x.kind = 8
 ·exact op8 x P B cap w hlen ht h1 h2 h6 h8
 by_cases h7 : x.kind = 7
 ·exact op7 x P B cap w hlen ht hok (by omega) h1 h2 h6 h8 h7
 ·exact op0 x P B cap w hlen ht h1 h2 h6 h8 h7
@[go_sem] theorem eqTwo (a b a' b' : Int) (w : World) : (Op.equalIn 10000 109 (.agg #[.int .i64 a, .int .i64 b]) (.agg #[.int .i64 a', .int .i64 b'])).run Tryz.prog w = .ok (a == a' && b == b') w := by
 have u3 := Tryz.underlying3
 have a3 := Tryz.isAgg3
 have z3 := Tryz.sizeOf3
 rw [show (10000 : Nat) = 9999 + 1 from rfl, Op.equalIn]
 simp only [Sem.run_bind, run_underlying Tryz.underlying109, Result.andThen_ok]
 simp only [Std.Legacy.Range.forIn_eq_forIn_range', Std.Legacy.Range.size, Nat.sub_zero, Nat.add_sub_cancel, Nat.div_one, List.range'_succ, List.range'_zero, List.forIn_cons, List.forIn_nil]
 go_simp
 by_cases h1 : a = a' <;> by_cases h2 : b = b' <;> simp [h1, h2]
theorem rep_new (lo hi : Int) (x : Nd) (P : Nat → Prop) (B : Option Addr) (cap : Nat) (w : World) (hlen : x.size ≤ 90000000) (ht : TreesAt w P x.kids B) : Calls Tryz.prog 95 #[ndV x B cap, .int .i64 lo, .int .i64 hi] w (NewT ⟨9, 0, Trees.of [x], lo, hi⟩ w) := trep_go lo hi x P B cap w (by omega) ht
theorem isnone_at (x : Nd) (P : Nat → Prop) (B : Option Addr) (cap : Nat) (w : World) (hc : x.kids.len ≤ cap) (ht : TreesAt w P x.kids B) : Calls Tryz.prog 78 #[ndV x B cap] w fun e w' => e = .returned (.bool (isK 1 x)) ∧ Below w.heap.size w w' :=
 isnone_go w x B cap w (Below.refl _ _) hc (ht.keep (fun _ _ _ _ => rfl) (fun b _ h => h))
theorem rp1 (x : Nd) (lo hi : Int) (P : Nat → Prop) (B : Option Addr) (cap : Nat) (w : World) (hlen : x.size ≤ 90000000) (hc : x.kids.len ≤ cap) (ht : TreesAt w P x.kids B) (hok : OkN x) (h : hi = 0) :
  Calls Tryz.prog 39 #[ndV x B cap, .int .i64 lo, .int .i64 hi] w (NewT (repP x lo hi) w) := by
 obtain ⟨hb2, HB2, HX2, HZ2, HW2⟩ := two_hid w x B cap
 have HV := Lib.hid (show repP x lo hi = emptyN by unfold repP; rw [if_pos (by omega)])
 subst h
 have HI := Lib.hid (fun (W : World) (h : Below (W2n w x B cap).heap.size (W2n w x B cap) W) => empty_new W)
 have HIS := Lib.hid (fun (W : World) (h : Below (W2n w x B cap).heap.size (W2n w x B cap) W) => isnone_at x P B cap W hc ((ht.below hb2).below h))
 clear ht hb2 hlen
 unfold ndV at *
 unfold ndA at *
 obtain ⟨x0, x1, x2, x3, x4, x5, x6, x7, hl2⟩ := (HX2.out).c8n
 go_enter Tryz.func39, Tryz.ntmps39
 go_upto_region 1 with fail
 rw [← W2n_lit w x B cap]
 generalize hw2 : W2n w x B cap = w2 at *
 have HWb2 := Lib.hid (Below.refl w2.heap.size w2)
 go_wp2_with fail
 refine (HI.out w2 (HWb2.out)).mono ?_
 rintro e w9 ⟨B3, cap3, rfl, hb3, hc3, ht3⟩
 have hZ9 := HZ2.out.below hb3 HZ2.out.lt
 have HB9 := Lib.hid (HB2.out.trans (hb3.mono HB2.out.size))
 have HZ9 := Lib.hid hZ9
 have HT9 := Lib.hid (ht3.weak (Q := fun b => w.heap.size + 2 ≤ b) (fun b hb _ => by have := HWb2.out.size; have := HW2.out; omega))
 obtain ⟨y0, y1, y2, y3, y4, y5, y6, y7, g0, g1, g2, g3, g4, g5, g6, g7⟩ := hZ9.z16
 clear hZ9 ht3 hb3 HI HZ2 HB2 HX2 x0 x1 x2 x3 x4 x5 x6 x7 hl2
 generalize hy : emptyN = y at *
 have HY := Lib.hid hy
 clear hy
 unfold ndV
 dsimp only
 go_wp2
 go_light
 have hF := put_next (x := y) (B := B3) (cap := cap3) HZ9.out HB9.out HT9.out rfl
 refine bodyPost_ret (ret_node Tryz.results39 rfl hF.1) rfl ?_
 rw [HV.out]
 exact ⟨B3, cap3, rfl, hF.2.1, hc3, hF.2.2⟩
theorem rp2 (x : Nd) (lo hi : Int) (P : Nat → Prop) (B : Option Addr) (cap : Nat) (w : World) (hlen : x.size ≤ 90000000) (hc : x.kids.len ≤ cap) (ht : TreesAt w P x.kids B) (hok : OkN x) (h : hi ≠ 0) (h2 : x.kind = 2) :
  Calls Tryz.prog 39 #[ndV x B cap, .int .i64 lo, .int .i64 hi] w (NewT (repP x lo hi) w) := by
 obtain ⟨hb2, HB2, HX2, HZ2, HW2⟩ := two_hid w x B cap
 have HV := Lib.hid (show repP x lo hi = emptyN by unfold repP; rw [if_pos (by omega)])
 have e0 : (hi == 0) = false := kind_no h
 have e2 := kind_yes h2
 clear h h2
 have HI := Lib.hid (fun (W : World) (h : Below (W2n w x B cap).heap.size (W2n w x B cap) W) => empty_new W)
 have HIS := Lib.hid (fun (W : World) (h : Below (W2n w x B cap).heap.size (W2n w x B cap) W) => isnone_at x P B cap W hc ((ht.below hb2).below h))
 clear ht hb2 hlen
 unfold ndV at *
 unfold ndA at *
 obtain ⟨x0, x1, x2, x3, x4, x5, x6, x7, hl2⟩ := (HX2.out).c8n
 go_enter Tryz.func39, Tryz.ntmps39
 go_upto_region 1 with fail
 rw [← W2n_lit w x B cap]
 generalize hw2 : W2n w x B cap = w2 at *
 have HWb2 := Lib.hid (Below.refl w2.heap.size w2)
 go_wp2_with fail
 refine (HI.out w2 (HWb2.out)).mono ?_
 rintro e w9 ⟨B3, cap3, rfl, hb3, hc3, ht3⟩
 have hZ9 := HZ2.out.below hb3 HZ2.out.lt
 have HB9 := Lib.hid (HB2.out.trans (hb3.mono HB2.out.size))
 have HZ9 := Lib.hid hZ9
 have HT9 := Lib.hid (ht3.weak (Q := fun b => w.heap.size + 2 ≤ b) (fun b hb _ => by have := HWb2.out.size; have := HW2.out; omega))
 obtain ⟨y0, y1, y2, y3, y4, y5, y6, y7, g0, g1, g2, g3, g4, g5, g6, g7⟩ := hZ9.z16
 clear hZ9 ht3 hb3 HI HZ2 HB2 HX2 x0 x1 x2 x3 x4 x5 x6 x7 hl2
 generalize hy : emptyN = y at *
 have HY := Lib.hid hy
 clear hy
 unfold ndV
 dsimp only
 go_wp2
 go_light
 have hF := put_next (x := y) (B := B3) (cap := cap3) HZ9.out HB9.out HT9.out rfl
 refine bodyPost_ret (ret_node Tryz.results39 rfl hF.1) rfl ?_
 rw [HV.out]
 exact ⟨B3, cap3, rfl, hF.2.1, hc3, hF.2.2⟩
theorem rp3 (x : Nd) (lo hi : Int) (P : Nat → Prop) (B : Option Addr) (cap : Nat) (w : World) (hlen : x.size ≤ 90000000) (hc : x.kids.len ≤ cap) (ht : TreesAt w P x.kids B) (hok : OkN x) (h : hi ≠ 0) (h1 : x.kind = 1) (hl : lo = 0) :
  Calls Tryz.prog 39 #[ndV x B cap, .int .i64 lo, .int .i64 hi] w (NewT (repP x lo hi) w) := by
 obtain ⟨hb2, HB2, HX2, HZ2, HW2⟩ := two_hid w x B cap
 have HV := Lib.hid (show repP x lo hi = emptyN by unfold repP; rw [if_neg (by omega)]; rw [if_pos (by omega)])
 have e0 : (hi == 0) = false := kind_no h
 have e2 : (x.kind == 2) = false := kind_no (by omega)
 have hn : isK 1 x = true := decide_eq_true h1
 subst hl
 clear h h1
 have HI := Lib.hid (fun (W : World) (h : Below (W2n w x B cap).heap.size (W2n w x B cap) W) => empty_new W)
 have HIS := Lib.hid (fun (W : World) (h : Below (W2n w x B cap).heap.size (W2n w x B cap) W) => isnone_at x P B cap W hc ((ht.below hb2).below h))
 rw [hn] at HIS
 clear ht hb2 hlen
 unfold ndV at *
 unfold ndA at *
 obtain ⟨x0, x1, x2, x3, x4, x5, x6, x7, hl2⟩ := (HX2.out).c8n
 go_enter Tryz.func39, Tryz.ntmps39
 go_upto_region 1 with fail
 rw [← W2n_lit w x B cap]
 generalize hw2 : W2n w x B cap = w2 at *
 have HWb2 := Lib.hid (Below.refl w2.heap.size w2)
 go_wp2_with fail
 refine (HIS.out w2 (HWb2.out)).mono ?_
 rintro e w3 ⟨rfl, hb3⟩
 have HWb3 := Lib.hid (HWb2.out.trans (hb3.mono HWb2.out.size))
 have HX3 := Lib.hid (HX2.out.below hb3 HX2.out.lt)
 have HZ3 := Lib.hid (HZ2.out.below hb3 HZ2.out.lt)
 have HB3 := Lib.hid (HB2.out.trans (hb3.mono HB2.out.size))
 clear hb3 x0 x1 x2 x3 x4 x5 x6 x7 hl2 HX2 HZ2 HB2
 obtain ⟨x0, x1, x2, x3, x4, x5, x6, x7, hl2⟩ := (HX3.out).c8n
 dsimp only
 go_wp2_with fail
 refine (HI.out w3 (HWb3.out)).mono ?_
 rintro e w9 ⟨B3, cap3, rfl, hb3, hc3, ht3⟩
 have hZ9 := HZ3.out.below hb3 HZ3.out.lt
 have HB9 := Lib.hid (HB3.out.trans (hb3.mono HB3.out.size))
 have HZ9 := Lib.hid hZ9
 have HT9 := Lib.hid (ht3.weak (Q := fun b => w.heap.size + 2 ≤ b) (fun b hb _ => by have := HWb3.out.size; have := HW2.out; omega))
 obtain ⟨y0, y1, y2, y3, y4, y5, y6, y7, g0, g1, g2, g3, g4, g5, g6, g7⟩ := hZ9.z16
 clear hZ9 ht3 hb3 HI HZ3 HB3 HX3 x0 x1 x2 x3 x4 x5 x6 x7 hl2
 generalize hy : emptyN = y at *
 have HY := Lib.hid hy
 clear hy
 unfold ndV
 dsimp only
 go_wp2
 go_light
 have hF := put_next (x := y) (B := B3) (cap := cap3) HZ9.out HB9.out HT9.out rfl
 refine bodyPost_ret (ret_node Tryz.results39 rfl hF.1) rfl ?_
 rw [HV.out]
 exact ⟨B3, cap3, rfl, hF.2.1, hc3, hF.2.2⟩
theorem rp4 (x : Nd) (lo hi : Int) (P : Nat → Prop) (B : Option Addr) (cap : Nat) (w : World) (hlen : x.size ≤ 90000000) (hc : x.kids.len ≤ cap) (ht : TreesAt w P x.kids B) (hok : OkN x) (h : hi ≠ 0) (h1 : x.kind = 1) (hl : lo ≠ 0) :
  Calls Tryz.prog 39 #[ndV x B cap, .int .i64 lo, .int .i64 hi] w (NewT (repP x lo hi) w) := by
 obtain ⟨hb2, HB2, HX2, HZ2, HW2⟩ := two_hid w x B cap
 have HV := Lib.hid (show repP x lo hi = noneN by unfold repP; rw [if_neg (by omega)]; rw [if_neg (by omega)]; rw [if_pos (by omega)])
 have e0 : (hi == 0) = false := kind_no h
 have e2 : (x.kind == 2) = false := kind_no (by omega)
 have hn : isK 1 x = true := decide_eq_true h1
 have el : (lo == 0) = false := kind_no hl
 clear h h1 hl
 have HI := Lib.hid (fun (W : World) (h : Below (W2n w x B cap).heap.size (W2n w x B cap) W) => none_new W)
 have HIS := Lib.hid (fun (W : World) (h : Below (W2n w x B cap).heap.size (W2n w x B cap) W) => isnone_at x P B cap W hc ((ht.below hb2).below h))
 rw [hn] at HIS
 clear ht hb2 hlen
 unfold ndV at *
 unfold ndA at *
 obtain ⟨x0, x1, x2, x3, x4, x5, x6, x7, hl2⟩ := (HX2.out).c8n
 go_enter Tryz.func39, Tryz.ntmps39
 go_upto_region 1 with fail
 rw [← W2n_lit w x B cap]
 generalize hw2 : W2n w x B cap = w2 at *
 have HWb2 := Lib.hid (Below.refl w2.heap.size w2)
 go_wp2_with fail
 refine (HIS.out w2 (HWb2.out)).mono ?_
 rintro e w3 ⟨rfl, hb3⟩
 have HWb3 := Lib.hid (HWb2.out.trans (hb3.mono HWb2.out.size))
 have HX3 := Lib.hid (HX2.out.below hb3 HX2.out.lt)
 have HZ3 := Lib.hid (HZ2.out.below hb3 HZ2.out.lt)
 have HB3 := Lib.hid (HB2.out.trans (hb3.mono HB2.out.size))
 clear hb3 x0 x1 x2 x3 x4 x5 x6 x7 hl2 HX2 HZ2 HB2
 obtain ⟨x0, x1, x2, x3, x4, x5, x6, x7, hl2⟩ := (HX3.out).c8n
 dsimp only
 go_wp2_with fail
 refine (HIS.out w3 (HWb3.out)).mono ?_
 rintro e w4 ⟨rfl, hb4⟩
 have HWb4 := Lib.hid (HWb3.out.trans (hb4.mono HWb3.out.size))
 have HX4 := Lib.hid (HX3.out.below hb4 HX3.out.lt)
 have HZ4 := Lib.hid (HZ3.out.below hb4 HZ3.out.lt)
 have HB4 := Lib.hid (HB3.out.trans (hb4.mono HB3.out.size))
 clear hb4 x0 x1 x2 x3 x4 x5 x6 x7 hl2 HX3 HZ3 HB3
 obtain ⟨x0, x1, x2, x3, x4, x5, x6, x7, hl2⟩ := (HX4.out).c8n
 dsimp only
 go_wp2_with fail
 refine (HI.out w4 (HWb4.out)).mono ?_
 rintro e w9 ⟨B3, cap3, rfl, hb3, hc3, ht3⟩
 have hZ9 := HZ4.out.below hb3 HZ4.out.lt
 have HB9 := Lib.hid (HB4.out.trans (hb3.mono HB4.out.size))
 have HZ9 := Lib.hid hZ9
 have HT9 := Lib.hid (ht3.weak (Q := fun b => w.heap.size + 2 ≤ b) (fun b hb _ => by have := HWb4.out.size; have := HW2.out; omega))
 obtain ⟨y0, y1, y2, y3, y4, y5, y6, y7, g0, g1, g2, g3, g4, g5, g6, g7⟩ := hZ9.z16
 clear hZ9 ht3 hb3 HI HZ4 HB4 HX4 x0 x1 x2 x3 x4 x5 x6 x7 hl2
 generalize hy : noneN = y at *
 have HY := Lib.hid hy
 clear hy
 unfold ndV
 dsimp only
 go_wp2
 go_light
 have hF := put_next (x := y) (B := B3) (cap := cap3) HZ9.out HB9.out HT9.out rfl
 refine bodyPost_ret (ret_node Tryz.results39 rfl hF.1) rfl ?_
 rw [HV.out]
 exact ⟨B3, cap3, rfl, hF.2.1, hc3, hF.2.2⟩
theorem rp5 (x : Nd) (lo hi : Int) (P : Nat → Prop) (B : Option Addr) (cap : Nat) (w : World) (hlen : x.size ≤ 90000000) (hc : x.kids.len ≤ cap) (ht : TreesAt w P x.kids B) (hok : OkN x) (h1 : x.kind ≠ 1) (h2 : x.kind ≠ 2) (hl : lo = 1) (hh : hi = 1) :
  Calls Tryz.prog 39 #[ndV x B cap, .int .i64 lo, .int .i64 hi] w (NewT (repP x lo hi) w) := by
 obtain ⟨hb2, HB2, HX2, HZ2, HW2⟩ := two_hid w x B cap
 have HV := Lib.hid (show repP x lo hi = x by unfold repP; rw [if_neg (by omega)]; rw [if_neg (by omega)]; rw [if_neg (by omega)]; rw [if_pos (by omega)])
 have e2 := kind_no h2
 have hn : isK 1 x = false := decide_eq_false h1
 subst hl hh
 clear h1 h2
 have HI := Lib.hid (fun (W : World) (h : Below (W2n w x B cap).heap.size (W2n w x B cap) W) => copy_new x P B cap W hlen ((ht.below hb2).below h))
 have HIS := Lib.hid (fun (W : World) (h : Below (W2n w x B cap).heap.size (W2n w x B cap) W) => isnone_at x P B cap W hc ((ht.below hb2).below h))
 rw [hn] at HIS
 clear ht hb2 hlen
 unfold ndV at *
 unfold ndA at *
 obtain ⟨x0, x1, x2, x3, x4, x5, x6, x7, hl2⟩ := (HX2.out).c8n
 go_enter Tryz.func39, Tryz.ntmps39
 go_upto_region 1 with fail
 rw [← W2n_lit w x B cap]
 generalize hw2 : W2n w x B cap = w2 at *
 have HWb2 := Lib.hid (Below.refl w2.heap.size w2)
 go_wp2_with fail
 refine (HIS.out w2 (HWb2.out)).mono ?_
 rintro e w3 ⟨rfl, hb3⟩
 have HWb3 := Lib.hid (HWb2.out.trans (hb3.mono HWb2.out.size))
 have HX3 := Lib.hid (HX2.out.below hb3 HX2.out.lt)
 have HZ3 := Lib.hid (HZ2.out.below hb3 HZ2.out.lt)
 have HB3 := Lib.hid (HB2.out.trans (hb3.mono HB2.out.size))
 clear hb3 x0 x1 x2 x3 x4 x5 x6 x7 hl2 HX2 HZ2 HB2
 obtain ⟨x0, x1, x2, x3, x4, x5, x6, x7, hl2⟩ := (HX3.out).c8n
 dsimp only
 go_wp2_with fail
 refine (HIS.out w3 (HWb3.out)).mono ?_
 rintro e w4 ⟨rfl, hb4⟩
 have HWb4 := Lib.hid (HWb3.out.trans (hb4.mono HWb3.out.size))
 have HX4 := Lib.hid (HX3.out.below hb4 HX3.out.lt)
 have HZ4 := Lib.hid (HZ3.out.below hb4 HZ3.out.lt)
 have HB4 := Lib.hid (HB3.out.trans (hb4.mono HB3.out.size))
 clear hb4 x0 x1 x2 x3 x4 x5 x6 x7 hl2 HX3 HZ3 HB3
 obtain ⟨x0, x1, x2, x3, x4, x5, x6, x7, hl2⟩ := (HX4.out).c8n
 dsimp only
 go_wp2_with fail
 refine (HI.out w4 (HWb4.out)).mono ?_
 rintro e w9 ⟨B3, cap3, rfl, hb3, hc3, ht3⟩
 have hZ9 := HZ4.out.below hb3 HZ4.out.lt
 have HB9 := Lib.hid (HB4.out.trans (hb3.mono HB4.out.size))
 have HZ9 := Lib.hid hZ9
 have HT9 := Lib.hid (ht3.weak (Q := fun b => w.heap.size + 2 ≤ b) (fun b hb _ => by have := HWb4.out.size; have := HW2.out; omega))
 obtain ⟨y0, y1, y2, y3, y4, y5, y6, y7, g0, g1, g2, g3, g4, g5, g6, g7⟩ := hZ9.z16
 clear hZ9 ht3 hb3 HI HZ4 HB4 HX4 x0 x1 x2 x3 x4 x5 x6 x7 hl2
 generalize hy : x = y at *
 have HY := Lib.hid hy
 clear hy
 unfold ndV
 dsimp only
 go_wp2
 go_light
 have hF := put_next (x := y) (B := B3) (cap := cap3) HZ9.out HB9.out HT9.out rfl
 refine bodyPost_ret (ret_node Tryz.results39 rfl hF.1) rfl ?_
 rw [HV.out]
 exact ⟨B3, cap3, rfl, hF.2.1, hc3, hF.2.2⟩
theorem rp6 (x : Nd) (lo hi : Int) (P : Nat → Prop) (B : Option Addr) (cap : Nat) (w : World) (hlen : x.size ≤ 90000000) (hc : x.kids.len ≤ cap) (ht : TreesAt w P x.kids B) (hok : OkN x) (h1 : x.kind ≠ 1) (h2 : x.kind ≠ 2) (hl : lo = 0) (hh : hi = -1) :
  Calls Tryz.prog 39 #[ndV x B cap, .int .i64 lo, .int .i64 hi] w (NewT (repP x lo hi) w) := by
 obtain ⟨hb2, HB2, HX2, HZ2, HW2⟩ := two_hid w x B cap
 have HV := Lib.hid (show repP x lo hi = starP x by unfold repP; rw [if_neg (by omega)]; rw [if_neg (by omega)]; rw [if_neg (by omega)]; rw [if_neg (by omega)]; rw [if_pos (by omega)])
 have e2 := kind_no h2
 have hn : isK 1 x = false := decide_eq_false h1
 subst hl hh
 clear h1 h2
 have HI := Lib.hid (fun (W : World) (h : Below (W2n w x B cap).heap.size (W2n w x B cap) W) => sstar_go x P B cap W hlen ((ht.below hb2).below h) hok)
 have HIS := Lib.hid (fun (W : World) (h : Below (W2n w x B cap).heap.size (W2n w x B cap) W) => isnone_at x P B cap W hc ((ht.below hb2).below h))
 rw [hn] at HIS
 clear ht hb2 hlen
 unfold ndV at *
 unfold ndA at *
 obtain ⟨x0, x1, x2, x3, x4, x5, x6, x7, hl2⟩ := (HX2.out).c8n
 go_enter Tryz.func39, Tryz.ntmps39
 go_upto_region 1 with fail
 rw [← W2n_lit w x B cap]
 generalize hw2 : W2n w x B cap = w2 at *
 have HWb2 := Lib.hid (Below.refl w2.heap.size w2)
 go_wp2_with fail
 refine (HIS.out w2 (HWb2.out)).mono ?_
 rintro e w3 ⟨rfl, hb3⟩
 have HWb3 := Lib.hid (HWb2.out.trans (hb3.mono HWb2.out.size))
 have HX3 := Lib.hid (HX2.out.below hb3 HX2.out.lt)
 have HZ3 := Lib.hid (HZ2.out.below hb3 HZ2.out.lt)
 have HB3 := Lib.hid (HB2.out.trans (hb3.mono HB2.out.size))
 clear hb3 x0 x1 x2 x3 x4 x5 x6 x7 hl2 HX2 HZ2 HB2
 obtain ⟨x0, x1, x2, x3, x4, x5, x6, x7, hl2⟩ := (HX3.out).c8n
 dsimp only
 go_wp2_with fail
 refine (HIS.out w3 (HWb3.out)).mono ?_
 rintro e w4 ⟨rfl, hb4⟩
 have HWb4 := Lib.hid (HWb3.out.trans (hb4.mono HWb3.out.size))
 have HX4 := Lib.hid (HX3.out.below hb4 HX3.out.lt)
 have HZ4 := Lib.hid (HZ3.out.below hb4 HZ3.out.lt)
 have HB4 := Lib.hid (HB3.out.trans (hb4.mono HB3.out.size))
 clear hb4 x0 x1 x2 x3 x4 x5 x6 x7 hl2 HX3 HZ3 HB3
 obtain ⟨x0, x1, x2, x3, x4, x5, x6, x7, hl2⟩ := (HX4.out).c8n
 dsimp only
 go_wp2_with fail
 refine (HI.out w4 (HWb4.out)).mono ?_
 rintro e w9 ⟨B3, cap3, rfl, hb3, hc3, ht3⟩
 have hZ9 := HZ4.out.below hb3 HZ4.out.lt
 have HB9 := Lib.hid (HB4.out.trans (hb3.mono HB4.out.size))
 have HZ9 := Lib.hid hZ9
 have HT9 := Lib.hid (ht3.weak (Q := fun b => w.heap.size + 2 ≤ b) (fun b hb _ => by have := HWb4.out.size; have := HW2.out; omega))
 obtain ⟨y0, y1, y2, y3, y4, y5, y6, y7, g0, g1, g2, g3, g4, g5, g6, g7⟩ := hZ9.z16
 clear hZ9 ht3 hb3 HI HZ4 HB4 HX4 x0 x1 x2 x3 x4 x5 x6 x7 hl2
 generalize hy : starP x = y at *
 have HY := Lib.hid hy
 clear hy
 unfold ndV
 dsimp only
 go_wp2
 go_light
 have hF := put_next (x := y) (B := B3) (cap := cap3) HZ9.out HB9.out HT9.out rfl
 refine bodyPost_ret (ret_node Tryz.results39 rfl hF.1) rfl ?_
 rw [HV.out]
 exact ⟨B3, cap3, rfl, hF.2.1, hc3, hF.2.2⟩
theorem rp7 (x : Nd) (lo hi : Int) (P : Nat → Prop) (B : Option Addr) (cap : Nat) (w : World) (hlen : x.size ≤ 90000000) (hc : x.kids.len ≤ cap) (ht : TreesAt w P x.kids B) (hok : OkN x) (h1 : x.kind ≠ 1) (h2 : x.kind ≠ 2) (hl : lo = 1) (hh : hi = -1) :
  Calls Tryz.prog 39 #[ndV x B cap, .int .i64 lo, .int .i64 hi] w (NewT (repP x lo hi) w) := by
 obtain ⟨hb2, HB2, HX2, HZ2, HW2⟩ := two_hid w x B cap
 have HV := Lib.hid (show repP x lo hi = plusP x by unfold repP; rw [if_neg (by omega)]; rw [if_neg (by omega)]; rw [if_neg (by omega)]; rw [if_neg (by omega)]; rw [if_neg (by omega)]; rw [if_pos (by omega)])
 have e2 := kind_no h2
 have hn : isK 1 x = false := decide_eq_false h1
 subst hl hh
 clear h1 h2
 have HI := Lib.hid (fun (W : World) (h : Below (W2n w x B cap).heap.size (W2n w x B cap) W) => splus_go x P B cap W hlen ((ht.below hb2).below h) hok)
 have HIS := Lib.hid (fun (W : World) (h : Below (W2n w x B cap).heap.size (W2n w x B cap) W) => isnone_at x P B cap W hc ((ht.below hb2).below h))
 rw [hn] at HIS
 clear ht hb2 hlen
 unfold ndV at *
 unfold ndA at *
 obtain ⟨x0, x1, x2, x3, x4, x5, x6, x7, hl2⟩ := (HX2.out).c8n
 go_enter Tryz.func39, Tryz.ntmps39
 go_upto_region 1 with fail
 rw [← W2n_lit w x B cap]
 generalize hw2 : W2n w x B cap = w2 at *
 have HWb2 := Lib.hid (Below.refl w2.heap.size w2)
 go_wp2_with fail
 refine (HIS.out w2 (HWb2.out)).mono ?_
 rintro e w3 ⟨rfl, hb3⟩
 have HWb3 := Lib.hid (HWb2.out.trans (hb3.mono HWb2.out.size))
 have HX3 := Lib.hid (HX2.out.below hb3 HX2.out.lt)
 have HZ3 := Lib.hid (HZ2.out.below hb3 HZ2.out.lt)
 have HB3 := Lib.hid (HB2.out.trans (hb3.mono HB2.out.size))
 clear hb3 x0 x1 x2 x3 x4 x5 x6 x7 hl2 HX2 HZ2 HB2
 obtain ⟨x0, x1, x2, x3, x4, x5, x6, x7, hl2⟩ := (HX3.out).c8n
 dsimp only
 go_wp2_with fail
 refine (HIS.out w3 (HWb3.out)).mono ?_
 rintro e w4 ⟨rfl, hb4⟩
 have HWb4 := Lib.hid (HWb3.out.trans (hb4.mono HWb3.out.size))
 have HX4 := Lib.hid (HX3.out.below hb4 HX3.out.lt)
 have HZ4 := Lib.hid (HZ3.out.below hb4 HZ3.out.lt)
 have HB4 := Lib.hid (HB3.out.trans (hb4.mono HB3.out.size))
 clear hb4 x0 x1 x2 x3 x4 x5 x6 x7 hl2 HX3 HZ3 HB3
 obtain ⟨x0, x1, x2, x3, x4, x5, x6, x7, hl2⟩ := (HX4.out).c8n
 dsimp only
 go_wp2_with fail
 refine (HI.out w4 (HWb4.out)).mono ?_
 rintro e w9 ⟨B3, cap3, rfl, hb3, hc3, ht3⟩
 have hZ9 := HZ4.out.below hb3 HZ4.out.lt
 have HB9 := Lib.hid (HB4.out.trans (hb3.mono HB4.out.size))
 have HZ9 := Lib.hid hZ9
 have HT9 := Lib.hid (ht3.weak (Q := fun b => w.heap.size + 2 ≤ b) (fun b hb _ => by have := HWb4.out.size; have := HW2.out; omega))
 obtain ⟨y0, y1, y2, y3, y4, y5, y6, y7, g0, g1, g2, g3, g4, g5, g6, g7⟩ := hZ9.z16
 clear hZ9 ht3 hb3 HI HZ4 HB4 HX4 x0 x1 x2 x3 x4 x5 x6 x7 hl2
 generalize hy : plusP x = y at *
 have HY := Lib.hid hy
 clear hy
 unfold ndV
 dsimp only
 go_wp2
 go_light
 have hF := put_next (x := y) (B := B3) (cap := cap3) HZ9.out HB9.out HT9.out rfl
 refine bodyPost_ret (ret_node Tryz.results39 rfl hF.1) rfl ?_
 rw [HV.out]
 exact ⟨B3, cap3, rfl, hF.2.1, hc3, hF.2.2⟩
theorem rp8 (x : Nd) (lo hi : Int) (P : Nat → Prop) (B : Option Addr) (cap : Nat) (w : World) (hlen : x.size ≤ 90000000) (hc : x.kids.len ≤ cap) (ht : TreesAt w P x.kids B) (hok : OkN x) (h1 : x.kind ≠ 1) (h2 : x.kind ≠ 2) (hl : lo = 0) (hh : hi = 1) :
  Calls Tryz.prog 39 #[ndV x B cap, .int .i64 lo, .int .i64 hi] w (NewT (repP x lo hi) w) := by
 obtain ⟨hb2, HB2, HX2, HZ2, HW2⟩ := two_hid w x B cap
 have HV := Lib.hid (show repP x lo hi = optP x by unfold repP; rw [if_neg (by omega)]; rw [if_neg (by omega)]; rw [if_neg (by omega)]; rw [if_neg (by omega)]; rw [if_neg (by omega)]; rw [if_neg (by omega)]; rw [if_pos (by omega)])
 have e2 := kind_no h2
 have hn : isK 1 x = false := decide_eq_false h1
 subst hl hh
 clear h1 h2
 have HI := Lib.hid (fun (W : World) (h : Below (W2n w x B cap).heap.size (W2n w x B cap) W) => sopt_go x P B cap W hlen ((ht.below hb2).below h) hok)
 have HIS := Lib.hid (fun (W : World) (h : Below (W2n w x B cap).heap.size (W2n w x B cap) W) => isnone_at x P B cap W hc ((ht.below hb2).below h))
 rw [hn] at HIS
 clear ht hb2 hlen
 unfold ndV at *
 unfold ndA at *
 obtain ⟨x0, x1, x2, x3, x4, x5, x6, x7, hl2⟩ := (HX2.out).c8n
 go_enter Tryz.func39, Tryz.ntmps39
 go_upto_region 1 with fail
 rw [← W2n_lit w x B cap]
 generalize hw2 : W2n w x B cap = w2 at *
 have HWb2 := Lib.hid (Below.refl w2.heap.size w2)
 go_wp2_with fail
 refine (HIS.out w2 (HWb2.out)).mono ?_
 rintro e w3 ⟨rfl, hb3⟩
 have HWb3 := Lib.hid (HWb2.out.trans (hb3.mono HWb2.out.size))
 have HX3 := Lib.hid (HX2.out.below hb3 HX2.out.lt)
 have HZ3 := Lib.hid (HZ2.out.below hb3 HZ2.out.lt)
 have HB3 := Lib.hid (HB2.out.trans (hb3.mono HB2.out.size))
 clear hb3 x0 x1 x2 x3 x4 x5 x6 x7 hl2 HX2 HZ2 HB2
 obtain ⟨x0, x1, x2, x3, x4, x5, x6, x7, hl2⟩ := (HX3.out).c8n
 dsimp only
 go_wp2_with fail
 refine (HIS.out w3 (HWb3.out)).mono ?_
 rintro e w4 ⟨rfl, hb4⟩
 have HWb4 := Lib.hid (HWb3.out.trans (hb4.mono HWb3.out.size))
 have HX4 := Lib.hid (HX3.out.below hb4 HX3.out.lt)
 have HZ4 := Lib.hid (HZ3.out.below hb4 HZ3.out.lt)
 have HB4 := Lib.hid (HB3.out.trans (hb4.mono HB3.out.size))
 clear hb4 x0 x1 x2 x3 x4 x5 x6 x7 hl2 HX3 HZ3 HB3
 obtain ⟨x0, x1, x2, x3, x4, x5, x6, x7, hl2⟩ := (HX4.out).c8n
 dsimp only
 go_wp2_with fail
 refine (HI.out w4 (HWb4.out)).mono ?_
 rintro e w9 ⟨B3, cap3, rfl, hb3, hc3, ht3⟩
 have hZ9 := HZ4.out.below hb3 HZ4.out.lt
 have HB9 := Lib.hid (HB4.out.trans (hb3.mono HB4.out.size))
 have HZ9 := Lib.hid hZ9
 have HT9 := Lib.hid (ht3.weak (Q := fun b => w.heap.size + 2 ≤ b) (fun b hb _ => by have := HWb4.out.size; have := HW2.out; omega))
 obtain ⟨y0, y1, y2, y3, y4, y5, y6, y7, g0, g1, g2, g3, g4, g5, g6, g7⟩ := hZ9.z16
 clear hZ9 ht3 hb3 HI HZ4 HB4 HX4 x0 x1 x2 x3 x4 x5 x6 x7 hl2
 generalize hy : optP x = y at *
 have HY := Lib.hid hy
 clear hy
 unfold ndV
 dsimp only
 go_wp2
 go_light
 have hF := put_next (x := y) (B := B3) (cap := cap3) HZ9.out HB9.out HT9.out rfl
 refine bodyPost_ret (ret_node Tryz.results39 rfl hF.1) rfl ?_
 rw [HV.out]
 exact ⟨B3, cap3, rfl, hF.2.1, hc3, hF.2.2⟩
theorem rp9 (x : Nd) (lo hi : Int) (P : Nat → Prop) (B : Option Addr) (cap : Nat) (w : World) (hlen : x.size ≤ 90000000) (hc : x.kids.len ≤ cap) (ht : TreesAt w P x.kids B) (hok : OkN x) (h1 : x.kind ≠ 1) (h2 : x.kind ≠ 2) (h0 : hi ≠ 0) (hl : lo ≠ 0) (hl1 : lo ≠ 1) :
  Calls Tryz.prog 39 #[ndV x B cap, .int .i64 lo, .int .i64 hi] w (NewT (repP x lo hi) w) := by
 obtain ⟨hb2, HB2, HX2, HZ2, HW2⟩ := two_hid w x B cap
 have HV := Lib.hid (show repP x lo hi = ⟨9, 0, Trees.of [x], lo, hi⟩ by unfold repP; rw [if_neg (by omega)]; rw [if_neg (by omega)]; rw [if_neg (by omega)]; rw [if_neg (by omega)]; rw [if_neg (by omega)]; rw [if_neg (by omega)]; rw [if_neg (by omega)])
 have e2 := kind_no h2
 have hn : isK 1 x = false := decide_eq_false h1
 have e0 : (hi == 0) = false := kind_no h0
 have el : (lo == 0) = false := kind_no hl
 have el1 : (lo == 1) = false := kind_no hl1
 clear h1 h2 h0 hl hl1
 have HI := Lib.hid (fun (W : World) (h : Below (W2n w x B cap).heap.size (W2n w x B cap) W) => rep_new lo hi x P B cap W hlen ((ht.below hb2).below h))
 have HIS := Lib.hid (fun (W : World) (h : Below (W2n w x B cap).heap.size (W2n w x B cap) W) => isnone_at x P B cap W hc ((ht.below hb2).below h))
 rw [hn] at HIS
 clear ht hb2 hlen
 unfold ndV at *
 unfold ndA at *
 obtain ⟨x0, x1, x2, x3, x4, x5, x6, x7, hl2⟩ := (HX2.out).c8n
 go_enter Tryz.func39, Tryz.ntmps39
 go_upto_region 1 with fail
 rw [← W2n_lit w x B cap]
 generalize hw2 : W2n w x B cap = w2 at *
 have HWb2 := Lib.hid (Below.refl w2.heap.size w2)
 go_wp2_with fail
 refine (HIS.out w2 (HWb2.out)).mono ?_
 rintro e w3 ⟨rfl, hb3⟩
 have HWb3 := Lib.hid (HWb2.out.trans (hb3.mono HWb2.out.size))
 have HX3 := Lib.hid (HX2.out.below hb3 HX2.out.lt)
 have HZ3 := Lib.hid (HZ2.out.below hb3 HZ2.out.lt)
 have HB3 := Lib.hid (HB2.out.trans (hb3.mono HB2.out.size))
 clear hb3 x0 x1 x2 x3 x4 x5 x6 x7 hl2 HX2 HZ2 HB2
 obtain ⟨x0, x1, x2, x3, x4, x5, x6, x7, hl2⟩ := (HX3.out).c8n
 dsimp only
 go_wp2_with fail
 refine (HIS.out w3 (HWb3.out)).mono ?_
 rintro e w4 ⟨rfl, hb4⟩
 have HWb4 := Lib.hid (HWb3.out.trans (hb4.mono HWb3.out.size))
 have HX4 := Lib.hid (HX3.out.below hb4 HX3.out.lt)
 have HZ4 := Lib.hid (HZ3.out.below hb4 HZ3.out.lt)
 have HB4 := Lib.hid (HB3.out.trans (hb4.mono HB3.out.size))
 clear hb4 x0 x1 x2 x3 x4 x5 x6 x7 hl2 HX3 HZ3 HB3
 obtain ⟨x0, x1, x2, x3, x4, x5, x6, x7, hl2⟩ := (HX4.out).c8n
 dsimp only
 go_wp2_with fail
 refine (HI.out w4 (HWb4.out)).mono ?_
 rintro e w9 ⟨B3, cap3, rfl, hb3, hc3, ht3⟩
 have hZ9 := HZ4.out.below hb3 HZ4.out.lt
 have HB9 := Lib.hid (HB4.out.trans (hb3.mono HB4.out.size))
 have HZ9 := Lib.hid hZ9
 have HT9 := Lib.hid (ht3.weak (Q := fun b => w.heap.size + 2 ≤ b) (fun b hb _ => by have := HWb4.out.size; have := HW2.out; omega))
 obtain ⟨y0, y1, y2, y3, y4, y5, y6, y7, g0, g1, g2, g3, g4, g5, g6, g7⟩ := hZ9.z16
 clear hZ9 ht3 hb3 HI HZ4 HB4 HX4 x0 x1 x2 x3 x4 x5 x6 x7 hl2
 generalize hy : (⟨9, 0, Trees.of [x], lo, hi⟩ : Nd) = y at *
 have HY := Lib.hid hy
 clear hy
 unfold ndV
 dsimp only
 go_wp2
 go_light
 have hF := put_next (x := y) (B := B3) (cap := cap3) HZ9.out HB9.out HT9.out rfl
 refine bodyPost_ret (ret_node Tryz.results39 rfl hF.1) rfl ?_
 rw [HV.out]
 exact ⟨B3, cap3, rfl, hF.2.1, hc3, hF.2.2⟩
theorem rp10 (x : Nd) (lo hi : Int) (P : Nat → Prop) (B : Option Addr) (cap : Nat) (w : World) (hlen : x.size ≤ 90000000) (hc : x.kids.len ≤ cap) (ht : TreesAt w P x.kids B) (hok : OkN x) (h1 : x.kind ≠ 1) (h2 : x.kind ≠ 2) (h0 : hi ≠ 0) (hh1 : hi ≠ 1) (hh2 : hi ≠ -1) :
  Calls Tryz.prog 39 #[ndV x B cap, .int .i64 lo, .int .i64 hi] w (NewT (repP x lo hi) w) := by
 obtain ⟨hb2, HB2, HX2, HZ2, HW2⟩ := two_hid w x B cap
 have HV := Lib.hid (show repP x lo hi = ⟨9, 0, Trees.of [x], lo, hi⟩ by unfold repP; rw [if_neg (by omega)]; rw [if_neg (by omega)]; rw [if_neg (by omega)]; rw [if_neg (by omega)]; rw [if_neg (by omega)]; rw [if_neg (by omega)]; rw [if_neg (by omega)])
 have e2 := kind_no h2
 have hn : isK 1 x = false := decide_eq_false h1
 have e0 : (hi == 0) = false := kind_no h0
 have el : (hi == 1) = false := kind_no hh1
 have el1 : (hi == -1) = false := kind_no hh2
 clear h1 h2 h0 hh1 hh2
 have HI := Lib.hid (fun (W : World) (h : Below (W2n w x B cap).heap.size (W2n w x B cap) W) => rep_new lo hi x P B cap W hlen ((ht.below hb2).below h))
 have HIS := Lib.hid (fun (W : World) (h : Below (W2n w x B cap).heap.size (W2n w x B cap) W) => isnone_at x P B cap W hc ((ht.below hb2).below h))
 rw [hn] at HIS
 clear ht hb2 hlen
 unfold ndV at *
 unfold ndA at *
 obtain ⟨x0, x1, x2, x3, x4, x5, x6, x7, hl2⟩ := (HX2.out).c8n
 go_enter Tryz.func39, Tryz.ntmps39
 go_upto_region 1 with fail
 rw [← W2n_lit w x B cap]
 generalize hw2 : W2n w x B cap = w2 at *
 have HWb2 := Lib.hid (Below.refl w2.heap.size w2)
 go_wp2_with fail
 refine (HIS.out w2 (HWb2.out)).mono ?_
 rintro e w3 ⟨rfl, hb3⟩
 have HWb3 := Lib.hid (HWb2.out.trans (hb3.mono HWb2.out.size))
 have HX3 := Lib.hid (HX2.out.below hb3 HX2.out.lt)
 have HZ3 := Lib.hid (HZ2.out.below hb3 HZ2.out.lt)
 have HB3 := Lib.hid (HB2.out.trans (hb3.mono HB2.out.size))
 clear hb3 x0 x1 x2 x3 x4 x5 x6 x7 hl2 HX2 HZ2 HB2
 obtain ⟨x0, x1, x2, x3, x4, x5, x6, x7, hl2⟩ := (HX3.out).c8n
 dsimp only
 go_wp2_with fail
 refine (HIS.out w3 (HWb3.out)).mono ?_
 rintro e w4 ⟨rfl, hb4⟩
 have HWb4 := Lib.hid (HWb3.out.trans (hb4.mono HWb3.out.size))
 have HX4 := Lib.hid (HX3.out.below hb4 HX3.out.lt)
 have HZ4 := Lib.hid (HZ3.out.below hb4 HZ3.out.lt)
 have HB4 := Lib.hid (HB3.out.trans (hb4.mono HB3.out.size))
 clear hb4 x0 x1 x2 x3 x4 x5 x6 x7 hl2 HX3 HZ3 HB3
 obtain ⟨x0, x1, x2, x3, x4, x5, x6, x7, hl2⟩ := (HX4.out).c8n
 dsimp only
 go_wp2_with fail
 refine (HI.out w4 (HWb4.out)).mono ?_
 rintro e w9 ⟨B3, cap3, rfl, hb3, hc3, ht3⟩
 have hZ9 := HZ4.out.below hb3 HZ4.out.lt
 have HB9 := Lib.hid (HB4.out.trans (hb3.mono HB4.out.size))
 have HZ9 := Lib.hid hZ9
 have HT9 := Lib.hid (ht3.weak (Q := fun b => w.heap.size + 2 ≤ b) (fun b hb _ => by have := HWb4.out.size; have := HW2.out; omega))
 obtain ⟨y0, y1, y2, y3, y4, y5, y6, y7, g0, g1, g2, g3, g4, g5, g6, g7⟩ := hZ9.z16
 clear hZ9 ht3 hb3 HI HZ4 HB4 HX4 x0 x1 x2 x3 x4 x5 x6 x7 hl2
 generalize hy : (⟨9, 0, Trees.of [x], lo, hi⟩ : Nd) = y at *
 have HY := Lib.hid hy
 clear hy
 unfold ndV
 dsimp only
 go_wp2
 go_light
 have hF := put_next (x := y) (B := B3) (cap := cap3) HZ9.out HB9.out HT9.out rfl
 refine bodyPost_ret (ret_node Tryz.results39 rfl hF.1) rfl ?_
 rw [HV.out]
 exact ⟨B3, cap3, rfl, hF.2.1, hc3, hF.2.2⟩
theorem srep_any (x : Nd) (lo hi : Int) (P : Nat → Prop) (B : Option Addr) (cap : Nat) (w : World) (hlen : x.size ≤ 90000000) (hc : x.kids.len ≤ cap) (ht : TreesAt w P x.kids B) (hok : OkN x) : Calls Tryz.prog 39 #[ndV x B cap, .int .i64 lo, .int .i64 hi] w (NewT (repP x lo hi) w) := by
 by_cases h0 : hi = 0
 ·exact rp1 x lo hi P B cap w hlen hc ht hok h0
 by_cases h2 : x.kind = 2
 ·exact rp2 x lo hi P B cap w hlen hc ht hok h0 h2
 by_cases h1 : x.kind = 1
 ·by_cases hl : lo = 0
  ·exact rp3 x lo hi P B cap w hlen hc ht hok h0 h1 hl
  ·exact rp4 x lo hi P B cap w hlen hc ht hok h0 h1 hl
 by_cases hh1 : hi = 1
 ·by_cases hl1 : lo = 1
  ·exact rp5 x lo hi P B cap w hlen hc ht hok h1 h2 hl1 hh1
  by_cases hl0 : lo = 0
  ·exact rp8 x lo hi P B cap w hlen hc ht hok h1 h2 hl0 hh1
  ·exact rp9 x lo hi P B cap w hlen hc ht hok h1 h2 h0 hl0 hl1
 by_cases hh2 : hi = -1
 ·by_cases hl1 : lo = 1
  ·exact rp7 x lo hi P B cap w hlen hc ht hok h1 h2 hl1 hh2
  by_cases hl0 : lo = 0
  ·exact rp6 x lo hi P B cap w hlen hc ht hok h1 h2 hl0 hh2
  ·exact rp9 x lo hi P B cap w hlen hc ht hok h1 h2 h0 hl0 hl1
 ·exact rp10 x lo hi P B cap w hlen hc ht hok h1 h2 h0 hh1 hh2
theorem far8 {w : World} {g h : Nat} {t : TypeId} {cs : Array Value} (hB : Blk w g t cs) (hne : g ≠ h) (a0 a1 a2 a3 a4 a5 a6 a7 : Value) : Blk ((((((((w.setCell ⟨h, 0, none⟩ a0).setCell ⟨h, 1, none⟩ a1).setCell ⟨h, 2, none⟩ a2).setCell ⟨h, 3, none⟩ a3).setCell ⟨h, 4, none⟩ a4).setCell ⟨h, 5, none⟩ a5).setCell ⟨h, 6, none⟩ a6).setCell ⟨h, 7, none⟩ a7) g t cs :=
 (((((((hB.far (p := ⟨h, 0, none⟩) hne a0).far (p := ⟨h, 1, none⟩) hne a1).far (p := ⟨h, 2, none⟩) hne a2).far (p := ⟨h, 3, none⟩) hne a3).far (p := ⟨h, 4, none⟩) hne a4).far (p := ⟨h, 5, none⟩) hne a5).far (p := ⟨h, 6, none⟩) hne a6).far (p := ⟨h, 7, none⟩) hne a7
def OfC (n : Nat) : Prop := ∀ (x : Nd) (P : Nat → Prop) (B : Option Addr) (cap : Nat) (w : World), x.size ≤ n → x.size ≤ 40000000 → (∀ y ∈ x.nodes, OkN y) → x.kids.len ≤ cap → TreesAt w P x.kids B →
 Calls Tryz.prog 72 #[ndV x B cap] w (NewT x.sim w)
noncomputable def sim1 (k : Nd) : List Nd := [k.sim]
theorem enter_of1 (args : Array Value) (W : World) : (callFunc 130 args).run Tryz.prog W = .ok (.enter 130 args) W := enters_go Tryz.func130 (by kernel_rfl) rfl args W
theorem sims_flat (F : Trees) : F.list.flatMap sim1 = F.sims := by
 rw [F.sims_list]
 induction F.list with
 | nil => rfl
 | cons a l ih => rw [List.flatMap_cons, ih, List.map_cons]; rfl
theorem of1_go {n : Nat} (ih : OfC n) (w : World) (x : Nd) (hn : x.size ≤ n) (hs : x.size ≤ 40000000) (ho : ∀ y ∈ x.nodes, OkN y) : ByC 130 #[] sim1 w x := by
 intro C capc W hW hc ht
 have hal : Below W.heap.size W (W.alloc (.cells (ndA x C capc) 28)) := (Below.refl _ _).alloc (Nat.le_refl _) _
 have HX := Lib.hid (Blk.new W 28 (ndA x C capc))
 have HC := Lib.hid (ih x _ C capc (W.alloc (.cells (ndA x C capc) 28)) hn hs ho hc (ht.below hal))
 have HB := Lib.hid hal
 clear ht hal hW ho ih
 unfold ndV at *
 unfold ndA at *
 obtain ⟨p0, p1, p2, p3, p4, p5, p6, p7⟩ : _ ∧ _ ∧ _ ∧ _ ∧ _ ∧ _ ∧ _ ∧ _ := ⟨HX.out.cell 0, HX.out.cell 1, HX.out.cell 2, HX.out.cell 3, HX.out.cell 4, HX.out.cell 5, HX.out.cell 6, HX.out.cell 7⟩
 simp only [getH] at p0 p1 p2 p3 p4 p5 p6 p7
 have pl := HX.out.lt
 go_enter Tryz.func130, Tryz.ntmps130
 go_upto_region 1 with fail
 generalize hW1 : W.alloc (.cells #[.int .i64 x.kind, .int .u64 (word x.set.testBit 0), .int .u64 (word x.set.testBit 1), .int .u64 (word x.set.testBit 2), .int .u64 (word x.set.testBit 3), .slice C x.kids.len capc, .int .i64 x.lo, .int .i64 x.hi] 28) = W1 at *
 have hY := Lib.hid (show sim1 x = [x.sim] from rfl)
 generalize x.sim = y at *
 go_wp2_with fail
 refine HC.out.mono ?_
 rintro e w3 ⟨B3, c3, rfl, hb3, hc3, ht3⟩
 have HB3 := Lib.hid (HB.out.trans (hb3.mono HB.out.size))
 have HT3 := Lib.hid ht3
 have hws : W.heap.size ≤ W1.heap.size := HB.out.size
 clear hb3 HC HB ht3
 unfold ndV
 dsimp only
 go_wp2
 go_light
 go_ret
 rw [hY.out]
 have hbw := (Below.refl w3.heap.size w3).alloc (Nat.le_refl _) (.cells (ndA y B3 c3) 28)
 exact ⟨_, _, rfl, HB3.out.trans (hbw.mono HB3.out.size), Nat.le_refl _, row_oneS (Blk.new w3 _ _) (.inr HB3.out.size) hc3 ((HT3.out.below hbw).weak (fun b h _ => .inr (Nat.le_trans hws h)))⟩
theorem of_start {n : Nat} (ih : OfC n) (x : Nd) (P : Nat → Prop) (B : Option Addr) (cap : Nat) (w : World) (hn : x.size ≤ n + 1) (hs : x.size ≤ 40000000) (ho : ∀ y ∈ x.nodes, OkN y) (ht : TreesAt w P x.kids B) :
  Hid (x.kids.sims.length = x.kids.len) ∧ Hid (∀ z ∈ x.kids.sims, SG z) ∧ Hid (Calls Tryz.prog 75 #[.slice B x.kids.len cap, .func (.func 130) #[] #[]] (W2n w x B cap) fun e w' => ∃ A c, e = .returned (.slice A x.kids.sims.length c) ∧ Below (W2n w x B cap).heap.size (W2n w x B cap) w' ∧ x.kids.sims.length ≤ c ∧ TreesAt w' (fun b => b < w'.heap.size) (Trees.of x.kids.sims) A) ∧
  Hid ((x.kids.sims.map Nd.size).sum ≤ 40000000) ∧ x.kids.size ≤ 40000000 ∧ x.kids.len ≤ x.kids.size := by
 have hks : ∀ z ∈ x.kids.list, ByC 130 #[] sim1 (W2n w x B cap) z := fun z hz => by
  obtain ⟨i, hi⟩ := List.getElem?_of_mem hz
  have := Trees.size_get x.kids i z hi
  unfold Nd.size at hn hs
  exact of1_go ih _ z (by unfold Nd.size at this ⊢; omega) (by unfold Nd.size at this ⊢; omega) (fun y hy => ho y (List.mem_cons_of_mem _ ((nodes_list _ _).2 ⟨z, hz, hy⟩)))
 have hb2 := (two_made w x B cap).1
 have HSL := sims_len x.kids
 have hsz := sims_size x.kids (fun y hy => ho y (List.mem_cons_of_mem _ hy))
 have hkz : x.kids.size ≤ 40000000 := by unfold Nd.size at hs; omega
 have hkl := Trees.len_size x.kids
 exact ⟨Lib.hid HSL, Lib.hid (sims_all x.kids (fun y hy => ho y (List.mem_cons_of_mem _ hy))).1, Lib.hid (sflat_go x.kids B cap (W2n w x B cap) 130 #[] sim1 x.kids.sims (sims_flat x.kids) (by omega) ((ht.below hb2).keep (fun _ _ _ _ => rfl) (fun b _ h => h)) enter_of1 hks (by omega)), Lib.hid (by omega), hkz, hkl⟩
theorem of12 {n : Nat} (ih : OfC n) (x : Nd) (P : Nat → Prop) (B : Option Addr) (cap : Nat) (w : World) (hn : x.size ≤ n + 1) (hs : x.size ≤ 40000000) (ho : ∀ y ∈ x.nodes, OkN y) (hc : x.kids.len ≤ cap) (ht : TreesAt w P x.kids B) (hk : x.kind = 1 ∨ x.kind = 2) : Calls Tryz.prog 72 #[ndV x B cap] w (NewT x.sim w) := by
 have HV := Lib.hid (show x.sim = x by unfold Nd.sim simK; rw [if_neg (by omega)]; rw [if_neg (by omega)]; rw [if_neg (by omega)]; rw [if_neg (by omega)]; rw [if_neg (by omega)]; rw [if_neg (by omega)]; rw [if_neg (by omega)])
 have HNil := Lib.hid (show x.kids = .nil from list_nil (by have := (ho x List.mem_cons_self).2; omega))
 have e3 : (x.kind == 3) = false := kind_no (by omega)
 have e4 : (x.kind == 4) = false := kind_no (by omega)
 have e5 : (x.kind == 5) = false := kind_no (by omega)
 have e6 : (x.kind == 6) = false := kind_no (by omega)
 have e7 : (x.kind == 7) = false := kind_no (by omega)
 have e8 : (x.kind == 8) = false := kind_no (by omega)
 have e9 : (x.kind == 9) = false := kind_no (by omega)
 clear hk
 obtain ⟨HSL, HSG, HF, HSZ, hkz, hkl⟩ := of_start ih x P B cap w hn hs ho ht
 obtain ⟨hb2, HB2, HX2, HZ2, HW2⟩ := two_hid w x B cap
 clear ht hb2 ih hn ho
 generalize x.kids.sims = L at *
 unfold ndV at *
 unfold ndA at *
 obtain ⟨x0, x1, x2, x3, x4, x5, x6, x7, hl2⟩ := (HX2.out).c8n
 go_enter Tryz.func72, Tryz.ntmps72
 go_upto_region 1 with fail
 rw [← W2n_lit w x B cap]
 generalize W2n w x B cap = w2 at *
 go_wp2_with fail
 refine HF.out.mono ?_
 rintro e w3 ⟨A3, c3, rfl, hb3, hc3, ht3⟩
 have HX3 := Lib.hid (HX2.out.below hb3 HX2.out.lt)
 have HZ3 := Lib.hid (HZ2.out.below hb3 HZ2.out.lt)
 have HB3 := Lib.hid (HB2.out.trans (hb3.mono HB2.out.size))
 have HT3 := Lib.hid ht3
 have hw3 : w.heap.size + 2 ≤ w3.heap.size := Nat.le_trans HW2.out hb3.size
 clear hb3 ht3 HF x0 x1 x2 x3 x4 x5 x6 x7 hl2 HX2 HZ2 HB2
 obtain ⟨x0, x1, x2, x3, x4, x5, x6, x7, hl2⟩ := (HX3.out).c8n
 dsimp only
 obtain ⟨y0, y1, y2, y3, y4, y5, y6, y7, g0, g1, g2, g3, g4, g5, g6, g7⟩ := HZ3.out.z16
 go_wp2
 go_light
 have hF := put_next (x := x) (B := B) (cap := cap) HZ3.out HB3.out (by rw [HNil.out]; trivial) rfl
 refine bodyPost_ret (ret_node Tryz.results72 rfl hF.1) rfl ?_
 rw [HV.out]
 exact ⟨B, cap, rfl, hF.2.1, hc, hF.2.2⟩
theorem noset_words {s : Nat} (h : isNoSet s = true) : word s.testBit 0 = 0 ∧ word s.testBit 1 = 0 ∧ word s.testBit 2 = 0 ∧ word s.testBit 3 = 0 := by
 unfold isNoSet at h
 simpa using h
theorem of3n {n : Nat} (ih : OfC n) (x : Nd) (P : Nat → Prop) (B : Option Addr) (cap : Nat) (w : World) (hn : x.size ≤ n + 1) (hs : x.size ≤ 40000000) (ho : ∀ y ∈ x.nodes, OkN y) (hc : x.kids.len ≤ cap) (ht : TreesAt w P x.kids B) (hk : x.kind = 3) (hset : isNoSet x.set = true) : Calls Tryz.prog 72 #[ndV x B cap] w (NewT x.sim w) := by
 have HV := Lib.hid (show x.sim = noneN by unfold Nd.sim simK; rw [if_pos hk, if_pos hset])
 have HWs := Lib.hid (noset_words hset)
 have e3 := kind_yes hk
 clear hk hset
 obtain ⟨HSL, HSG, HF, HSZ, hkz, hkl⟩ := of_start ih x P B cap w hn hs ho ht
 obtain ⟨hb2, HB2, HX2, HZ2, HW2⟩ := two_hid w x B cap
 clear ht hb2 ih hn ho
 generalize x.kids.sims = L at *
 unfold ndV at *
 unfold ndA at *
 obtain ⟨x0, x1, x2, x3, x4, x5, x6, x7, hl2⟩ := (HX2.out).c8n
 go_enter Tryz.func72, Tryz.ntmps72
 go_upto_region 1 with fail
 rw [← W2n_lit w x B cap]
 generalize W2n w x B cap = w2 at *
 go_wp2_with fail
 refine HF.out.mono ?_
 rintro e w3 ⟨A3, c3, rfl, hb3, hc3, ht3⟩
 have HX3 := Lib.hid (HX2.out.below hb3 HX2.out.lt)
 have HZ3 := Lib.hid (HZ2.out.below hb3 HZ2.out.lt)
 have HB3 := Lib.hid (HB2.out.trans (hb3.mono HB2.out.size))
 have HT3 := Lib.hid ht3
 have hw3 : w.heap.size + 2 ≤ w3.heap.size := Nat.le_trans HW2.out hb3.size
 clear hb3 ht3 HF x0 x1 x2 x3 x4 x5 x6 x7 hl2 HX2 HZ2 HB2
 obtain ⟨x0, x1, x2, x3, x4, x5, x6, x7, hl2⟩ := (HX3.out).c8n
 dsimp only
 obtain ⟨n0, n1, n2, n3⟩ := HWs.out
 rw [n0] at x1
 rw [n1] at x2
 rw [n2] at x3
 rw [n3] at x4
 have HI := Lib.hid (none_new w3)
 go_wp2_with fail
 refine HI.out.mono ?_
 rintro e w9 ⟨B9, c9, rfl, hb9, hc9, ht9⟩
 have hZ9 := HZ3.out.below hb9 HZ3.out.lt
 have HB9 := Lib.hid (HB3.out.trans (hb9.mono HB3.out.size))
 have HZ9 := Lib.hid hZ9
 have HT9 := Lib.hid (ht9.weak (Q := fun b => w.heap.size + 2 ≤ b) (fun b hb _ => by omega))
 obtain ⟨y0, y1, y2, y3, y4, y5, y6, y7, g0, g1, g2, g3, g4, g5, g6, g7⟩ := hZ9.z16
 clear hZ9 ht9 hb9 HI HZ3 HB3 HX3 x0 x1 x2 x3 x4 x5 x6 x7 hl2 HT3 HSG HSZ
 generalize hy : noneN = y at *
 have HY := Lib.hid hy
 clear hy
 unfold ndV
 dsimp only
 go_wp2
 go_light
 have hF := put_next (x := y) (B := B9) (cap := c9) HZ9.out HB9.out HT9.out rfl
 refine bodyPost_ret (ret_node Tryz.results72 rfl hF.1) rfl ?_
 rw [HV.out]
 exact ⟨B9, c9, rfl, hF.2.1, hc9, hF.2.2⟩
theorem of3_0 {n : Nat} (ih : OfC n) (x : Nd) (P : Nat → Prop) (B : Option Addr) (cap : Nat) (w : World) (hn : x.size ≤ n + 1) (hs : x.size ≤ 40000000) (ho : ∀ y ∈ x.nodes, OkN y) (hc : x.kids.len ≤ cap) (ht : TreesAt w P x.kids B) (hk : x.kind = 3) (hset : ¬ isNoSet x.set = true) (h0 : (((word x.set.testBit 0 : Nat) : Int) == 0) = false) : Calls Tryz.prog 72 #[ndV x B cap] w (NewT x.sim w) := by
 have HV := Lib.hid (show x.sim = x by unfold Nd.sim simK; rw [if_pos hk, if_neg hset])
 have HNil := Lib.hid (show x.kids = .nil from list_nil (by have := (ho x List.mem_cons_self).2; omega))
 have e3 := kind_yes hk
 clear hk hset
 obtain ⟨HSL, HSG, HF, HSZ, hkz, hkl⟩ := of_start ih x P B cap w hn hs ho ht
 obtain ⟨hb2, HB2, HX2, HZ2, HW2⟩ := two_hid w x B cap
 clear ht hb2 ih hn ho
 generalize x.kids.sims = L at *
 unfold ndV at *
 unfold ndA at *
 obtain ⟨x0, x1, x2, x3, x4, x5, x6, x7, hl2⟩ := (HX2.out).c8n
 go_enter Tryz.func72, Tryz.ntmps72
 go_upto_region 1 with fail
 rw [← W2n_lit w x B cap]
 generalize W2n w x B cap = w2 at *
 go_wp2_with fail
 refine HF.out.mono ?_
 rintro e w3 ⟨A3, c3, rfl, hb3, hc3, ht3⟩
 have HX3 := Lib.hid (HX2.out.below hb3 HX2.out.lt)
 have HZ3 := Lib.hid (HZ2.out.below hb3 HZ2.out.lt)
 have HB3 := Lib.hid (HB2.out.trans (hb3.mono HB2.out.size))
 have HT3 := Lib.hid ht3
 have hw3 : w.heap.size + 2 ≤ w3.heap.size := Nat.le_trans HW2.out hb3.size
 clear hb3 ht3 HF x0 x1 x2 x3 x4 x5 x6 x7 hl2 HX2 HZ2 HB2
 obtain ⟨x0, x1, x2, x3, x4, x5, x6, x7, hl2⟩ := (HX3.out).c8n
 dsimp only
 obtain ⟨y0, y1, y2, y3, y4, y5, y6, y7, g0, g1, g2, g3, g4, g5, g6, g7⟩ := HZ3.out.z16
 go_wp2
 go_light
 have hF := put_next (x := x) (B := B) (cap := cap) HZ3.out HB3.out (by rw [HNil.out]; trivial) rfl
 refine bodyPost_ret (ret_node Tryz.results72 rfl hF.1) rfl ?_
 rw [HV.out]
 exact ⟨B, cap, rfl, hF.2.1, hc, hF.2.2⟩
theorem of3_1 {n : Nat} (ih : OfC n) (x : Nd) (P : Nat → Prop) (B : Option Addr) (cap : Nat) (w : World) (hn : x.size ≤ n + 1) (hs : x.size ≤ 40000000) (ho : ∀ y ∈ x.nodes, OkN y) (hc : x.kids.len ≤ cap) (ht : TreesAt w P x.kids B) (hk : x.kind = 3) (hset : ¬ isNoSet x.set = true) (h0 : (((word x.set.testBit 0 : Nat) : Int) == 0) = true) (h1 : (((word x.set.testBit 1 : Nat) : Int) == 0) = false) : Calls Tryz.prog 72 #[ndV x B cap] w (NewT x.sim w) := by
 have HV := Lib.hid (show x.sim = x by unfold Nd.sim simK; rw [if_pos hk, if_neg hset])
 have HNil := Lib.hid (show x.kids = .nil from list_nil (by have := (ho x List.mem_cons_self).2; omega))
 have e3 := kind_yes hk
 clear hk hset
 obtain ⟨HSL, HSG, HF, HSZ, hkz, hkl⟩ := of_start ih x P B cap w hn hs ho ht
 obtain ⟨hb2, HB2, HX2, HZ2, HW2⟩ := two_hid w x B cap
 clear ht hb2 ih hn ho
 generalize x.kids.sims = L at *
 unfold ndV at *
 unfold ndA at *
 obtain ⟨x0, x1, x2, x3, x4, x5, x6, x7, hl2⟩ := (HX2.out).c8n
 go_enter Tryz.func72, Tryz.ntmps72
 go_upto_region 1 with fail
 rw [← W2n_lit w x B cap]
 generalize W2n w x B cap = w2 at *
 go_wp2_with fail
 refine HF.out.mono ?_
 rintro e w3 ⟨A3, c3, rfl, hb3, hc3, ht3⟩
 have HX3 := Lib.hid (HX2.out.below hb3 HX2.out.lt)
 have HZ3 := Lib.hid (HZ2.out.below hb3 HZ2.out.lt)
 have HB3 := Lib.hid (HB2.out.trans (hb3.mono HB2.out.size))
 have HT3 := Lib.hid ht3
 have hw3 : w.heap.size + 2 ≤ w3.heap.size := Nat.le_trans HW2.out hb3.size
 clear hb3 ht3 HF x0 x1 x2 x3 x4 x5 x6 x7 hl2 HX2 HZ2 HB2
 obtain ⟨x0, x1, x2, x3, x4, x5, x6, x7, hl2⟩ := (HX3.out).c8n
 dsimp only
 obtain ⟨y0, y1, y2, y3, y4, y5, y6, y7, g0, g1, g2, g3, g4, g5, g6, g7⟩ := HZ3.out.z16
 go_wp2
 go_light
 have hF := put_next (x := x) (B := B) (cap := cap) HZ3.out HB3.out (by rw [HNil.out]; trivial) rfl
 refine bodyPost_ret (ret_node Tryz.results72 rfl hF.1) rfl ?_
 rw [HV.out]
 exact ⟨B, cap, rfl, hF.2.1, hc, hF.2.2⟩
theorem of3_2 {n : Nat} (ih : OfC n) (x : Nd) (P : Nat → Prop) (B : Option Addr) (cap : Nat) (w : World) (hn : x.size ≤ n + 1) (hs : x.size ≤ 40000000) (ho : ∀ y ∈ x.nodes, OkN y) (hc : x.kids.len ≤ cap) (ht : TreesAt w P x.kids B) (hk : x.kind = 3) (hset : ¬ isNoSet x.set = true) (h0 : (((word x.set.testBit 0 : Nat) : Int) == 0) = true) (h1 : (((word x.set.testBit 1 : Nat) : Int) == 0) = true) (h2 : (((word x.set.testBit 2 : Nat) : Int) == 0) = false) : Calls Tryz.prog 72 #[ndV x B cap] w (NewT x.sim w) := by
 have HV := Lib.hid (show x.sim = x by unfold Nd.sim simK; rw [if_pos hk, if_neg hset])
 have HNil := Lib.hid (show x.kids = .nil from list_nil (by have := (ho x List.mem_cons_self).2; omega))
 have e3 := kind_yes hk
 clear hk hset
 obtain ⟨HSL, HSG, HF, HSZ, hkz, hkl⟩ := of_start ih x P B cap w hn hs ho ht
 obtain ⟨hb2, HB2, HX2, HZ2, HW2⟩ := two_hid w x B cap
 clear ht hb2 ih hn ho
 generalize x.kids.sims = L at *
 unfold ndV at *
 unfold ndA at *
 obtain ⟨x0, x1, x2, x3, x4, x5, x6, x7, hl2⟩ := (HX2.out).c8n
 go_enter Tryz.func72, Tryz.ntmps72
 go_upto_region 1 with fail
 rw [← W2n_lit w x B cap]
 generalize W2n w x B cap = w2 at *
 go_wp2_with fail
 refine HF.out.mono ?_
 rintro e w3 ⟨A3, c3, rfl, hb3, hc3, ht3⟩
 have HX3 := Lib.hid (HX2.out.below hb3 HX2.out.lt)
 have HZ3 := Lib.hid (HZ2.out.below hb3 HZ2.out.lt)
 have HB3 := Lib.hid (HB2.out.trans (hb3.mono HB2.out.size))
 have HT3 := Lib.hid ht3
 have hw3 : w.heap.size + 2 ≤ w3.heap.size := Nat.le_trans HW2.out hb3.size
 clear hb3 ht3 HF x0 x1 x2 x3 x4 x5 x6 x7 hl2 HX2 HZ2 HB2
 obtain ⟨x0, x1, x2, x3, x4, x5, x6, x7, hl2⟩ := (HX3.out).c8n
 dsimp only
 obtain ⟨y0, y1, y2, y3, y4, y5, y6, y7, g0, g1, g2, g3, g4, g5, g6, g7⟩ := HZ3.out.z16
 go_wp2
 go_light
 have hF := put_next (x := x) (B := B) (cap := cap) HZ3.out HB3.out (by rw [HNil.out]; trivial) rfl
 refine bodyPost_ret (ret_node Tryz.results72 rfl hF.1) rfl ?_
 rw [HV.out]
 exact ⟨B, cap, rfl, hF.2.1, hc, hF.2.2⟩
theorem of3_3 {n : Nat} (ih : OfC n) (x : Nd) (P : Nat → Prop) (B : Option Addr) (cap : Nat) (w : World) (hn : x.size ≤ n + 1) (hs : x.size ≤ 40000000) (ho : ∀ y ∈ x.nodes, OkN y) (hc : x.kids.len ≤ cap) (ht : TreesAt w P x.kids B) (hk : x.kind = 3) (hset : ¬ isNoSet x.set = true) (h0 : (((word x.set.testBit 0 : Nat) : Int) == 0) = true) (h1 : (((word x.set.testBit 1 : Nat) : Int) == 0) = true) (h2 : (((word x.set.testBit 2 : Nat) : Int) == 0) = true) (h3 : (((word x.set.testBit 3 : Nat) : Int) == 0) = false) : Calls Tryz.prog 72 #[ndV x B cap] w (NewT x.sim w) := by
 have HV := Lib.hid (show x.sim = x by unfold Nd.sim simK; rw [if_pos hk, if_neg hset])
 have HNil := Lib.hid (show x.kids = .nil from list_nil (by have := (ho x List.mem_cons_self).2; omega))
 have e3 := kind_yes hk
 clear hk hset
 obtain ⟨HSL, HSG, HF, HSZ, hkz, hkl⟩ := of_start ih x P B cap w hn hs ho ht
 obtain ⟨hb2, HB2, HX2, HZ2, HW2⟩ := two_hid w x B cap
 clear ht hb2 ih hn ho
 generalize x.kids.sims = L at *
 unfold ndV at *
 unfold ndA at *
 obtain ⟨x0, x1, x2, x3, x4, x5, x6, x7, hl2⟩ := (HX2.out).c8n
 go_enter Tryz.func72, Tryz.ntmps72
 go_upto_region 1 with fail
 rw [← W2n_lit w x B cap]
 generalize W2n w x B cap = w2 at *
 go_wp2_with fail
 refine HF.out.mono ?_
 rintro e w3 ⟨A3, c3, rfl, hb3, hc3, ht3⟩
 have HX3 := Lib.hid (HX2.out.below hb3 HX2.out.lt)
 have HZ3 := Lib.hid (HZ2.out.below hb3 HZ2.out.lt)
 have HB3 := Lib.hid (HB2.out.trans (hb3.mono HB2.out.size))
 have HT3 := Lib.hid ht3
 have hw3 : w.heap.size + 2 ≤ w3.heap.size := Nat.le_trans HW2.out hb3.size
 clear hb3 ht3 HF x0 x1 x2 x3 x4 x5 x6 x7 hl2 HX2 HZ2 HB2
 obtain ⟨x0, x1, x2, x3, x4, x5, x6, x7, hl2⟩ := (HX3.out).c8n
 dsimp only
 obtain ⟨y0, y1, y2, y3, y4, y5, y6, y7, g0, g1, g2, g3, g4, g5, g6, g7⟩ := HZ3.out.z16
 go_wp2
 go_light
 have hF := put_next (x := x) (B := B) (cap := cap) HZ3.out HB3.out (by rw [HNil.out]; trivial) rfl
 refine bodyPost_ret (ret_node Tryz.results72 rfl hF.1) rfl ?_
 rw [HV.out]
 exact ⟨B, cap, rfl, hF.2.1, hc, hF.2.2⟩
theorem of4 {n : Nat} (ih : OfC n) (x : Nd) (P : Nat → Prop) (B : Option Addr) (cap : Nat) (w : World) (hn : x.size ≤ n + 1) (hs : x.size ≤ 40000000) (ho : ∀ y ∈ x.nodes, OkN y) (hc : x.kids.len ≤ cap) (ht : TreesAt w P x.kids B) (hk : x.kind = 4) : Calls Tryz.prog 72 #[ndV x B cap] w (NewT x.sim w) := by
 have HV := Lib.hid (show x.sim = catP x.kids.sims by unfold Nd.sim simK; rw [if_neg (by omega)]; rw [if_pos (by omega)])
 have e3 : (x.kind == 3) = false := kind_no (by omega)
 have e4 : (x.kind == 4) = true := kind_yes hk
 clear hk
 obtain ⟨HSL, HSG, HF, HSZ, hkz, hkl⟩ := of_start ih x P B cap w hn hs ho ht
 obtain ⟨hb2, HB2, HX2, HZ2, HW2⟩ := two_hid w x B cap
 clear ht hb2 ih hn ho
 generalize x.kids.sims = L at *
 unfold ndV at *
 unfold ndA at *
 obtain ⟨x0, x1, x2, x3, x4, x5, x6, x7, hl2⟩ := (HX2.out).c8n
 go_enter Tryz.func72, Tryz.ntmps72
 go_upto_region 1 with fail
 rw [← W2n_lit w x B cap]
 generalize W2n w x B cap = w2 at *
 go_wp2_with fail
 refine HF.out.mono ?_
 rintro e w3 ⟨A3, c3, rfl, hb3, hc3, ht3⟩
 have HX3 := Lib.hid (HX2.out.below hb3 HX2.out.lt)
 have HZ3 := Lib.hid (HZ2.out.below hb3 HZ2.out.lt)
 have HB3 := Lib.hid (HB2.out.trans (hb3.mono HB2.out.size))
 have HT3 := Lib.hid ht3
 have hw3 : w.heap.size + 2 ≤ w3.heap.size := Nat.le_trans HW2.out hb3.size
 clear hb3 ht3 HF x0 x1 x2 x3 x4 x5 x6 x7 hl2 HX2 HZ2 HB2
 obtain ⟨x0, x1, x2, x3, x4, x5, x6, x7, hl2⟩ := (HX3.out).c8n
 dsimp only
 have hi := scat_go (Trees.of L) A3 c3 w3 (by rw [size_ofS]; have := HSZ.out; omega) HT3.out
 rw [Trees.len_of, Trees.list_of] at hi
 have HI := Lib.hid hi
 clear hi
 go_wp2_with fail
 refine HI.out.mono ?_
 rintro e w9 ⟨B9, c9, rfl, hb9, hc9, ht9⟩
 have hZ9 := HZ3.out.below hb9 HZ3.out.lt
 have HB9 := Lib.hid (HB3.out.trans (hb9.mono HB3.out.size))
 have HZ9 := Lib.hid hZ9
 have HT9 := Lib.hid (ht9.weak (Q := fun b => w.heap.size + 2 ≤ b) (fun b hb _ => by omega))
 obtain ⟨y0, y1, y2, y3, y4, y5, y6, y7, g0, g1, g2, g3, g4, g5, g6, g7⟩ := hZ9.z16
 clear hZ9 ht9 hb9 HI HZ3 HB3 HX3 x0 x1 x2 x3 x4 x5 x6 x7 hl2 HT3 HSG HSZ
 generalize hy : catP L = y at *
 have HY := Lib.hid hy
 clear hy
 unfold ndV
 dsimp only
 go_wp2
 go_light
 have hF := put_next (x := y) (B := B9) (cap := c9) HZ9.out HB9.out HT9.out rfl
 refine bodyPost_ret (ret_node Tryz.results72 rfl hF.1) rfl ?_
 rw [HV.out]
 exact ⟨B9, c9, rfl, hF.2.1, hc9, hF.2.2⟩
theorem of5 {n : Nat} (ih : OfC n) (x : Nd) (P : Nat → Prop) (B : Option Addr) (cap : Nat) (w : World) (hn : x.size ≤ n + 1) (hs : x.size ≤ 40000000) (ho : ∀ y ∈ x.nodes, OkN y) (hc : x.kids.len ≤ cap) (ht : TreesAt w P x.kids B) (hk : x.kind = 5) : Calls Tryz.prog 72 #[ndV x B cap] w (NewT x.sim w) := by
 have HV := Lib.hid (show x.sim = altP x.kids.sims by unfold Nd.sim simK; rw [if_neg (by omega)]; rw [if_neg (by omega)]; rw [if_pos (by omega)])
 have e3 : (x.kind == 3) = false := kind_no (by omega)
 have e4 : (x.kind == 4) = false := kind_no (by omega)
 have e5 : (x.kind == 5) = true := kind_yes hk
 clear hk
 obtain ⟨HSL, HSG, HF, HSZ, hkz, hkl⟩ := of_start ih x P B cap w hn hs ho ht
 obtain ⟨hb2, HB2, HX2, HZ2, HW2⟩ := two_hid w x B cap
 clear ht hb2 ih hn ho
 generalize x.kids.sims = L at *
 unfold ndV at *
 unfold ndA at *
 obtain ⟨x0, x1, x2, x3, x4, x5, x6, x7, hl2⟩ := (HX2.out).c8n
 go_enter Tryz.func72, Tryz.ntmps72
 go_upto_region 1 with fail
 rw [← W2n_lit w x B cap]
 generalize W2n w x B cap = w2 at *
 go_wp2_with fail
 refine HF.out.mono ?_
 rintro e w3 ⟨A3, c3, rfl, hb3, hc3, ht3⟩
 have HX3 := Lib.hid (HX2.out.below hb3 HX2.out.lt)
 have HZ3 := Lib.hid (HZ2.out.below hb3 HZ2.out.lt)
 have HB3 := Lib.hid (HB2.out.trans (hb3.mono HB2.out.size))
 have HT3 := Lib.hid ht3
 have hw3 : w.heap.size + 2 ≤ w3.heap.size := Nat.le_trans HW2.out hb3.size
 clear hb3 ht3 HF x0 x1 x2 x3 x4 x5 x6 x7 hl2 HX2 HZ2 HB2
 obtain ⟨x0, x1, x2, x3, x4, x5, x6, x7, hl2⟩ := (HX3.out).c8n
 dsimp only
 have hi := salt_go (Trees.of L) A3 c3 w3 (by rw [size_ofS]; have := HSZ.out; omega) (by rw [Trees.list_of]; exact HSG.out) HT3.out
 rw [Trees.len_of, Trees.list_of] at hi
 have HI := Lib.hid hi
 clear hi
 go_wp2_with fail
 refine HI.out.mono ?_
 rintro e w9 ⟨B9, c9, rfl, hb9, hc9, ht9⟩
 have hZ9 := HZ3.out.below hb9 HZ3.out.lt
 have HB9 := Lib.hid (HB3.out.trans (hb9.mono HB3.out.size))
 have HZ9 := Lib.hid hZ9
 have HT9 := Lib.hid (ht9.weak (Q := fun b => w.heap.size + 2 ≤ b) (fun b hb _ => by omega))
 obtain ⟨y0, y1, y2, y3, y4, y5, y6, y7, g0, g1, g2, g3, g4, g5, g6, g7⟩ := hZ9.z16
 clear hZ9 ht9 hb9 HI HZ3 HB3 HX3 x0 x1 x2 x3 x4 x5 x6 x7 hl2 HT3 HSG HSZ
 generalize hy : altP L = y at *
 have HY := Lib.hid hy
 clear hy
 unfold ndV
 dsimp only
 go_wp2
 go_light
 have hF := put_next (x := y) (B := B9) (cap := c9) HZ9.out HB9.out HT9.out rfl
 refine bodyPost_ret (ret_node Tryz.results72 rfl hF.1) rfl ?_
 rw [HV.out]
 exact ⟨B9, c9, rfl, hF.2.1, hc9, hF.2.2⟩
theorem of6 {n : Nat} (ih : OfC n) (x : Nd) (P : Nat → Prop) (B : Option Addr) (cap : Nat) (w : World) (hn : x.size ≤ n + 1) (hs : x.size ≤ 40000000) (ho : ∀ y ∈ x.nodes, OkN y) (hc : x.kids.len ≤ cap) (ht : TreesAt w P x.kids B) (hk : x.kind = 6) : Calls Tryz.prog 72 #[ndV x B cap] w (NewT x.sim w) := by
 have HV := Lib.hid (show x.sim = starP (x.kids.sims.headD noneN) by unfold Nd.sim simK; rw [if_neg (by omega)]; rw [if_neg (by omega)]; rw [if_neg (by omega)]; rw [if_pos (by omega)])
 have HONE := Lib.hid (show x.kids.len = 1 by have := (ho x List.mem_cons_self).2; omega)
 have e3 : (x.kind == 3) = false := kind_no (by omega)
 have e4 : (x.kind == 4) = false := kind_no (by omega)
 have e5 : (x.kind == 5) = false := kind_no (by omega)
 have e6 : (x.kind == 6) = true := kind_yes hk
 clear hk
 obtain ⟨HSL, HSG, HF, HSZ, hkz, hkl⟩ := of_start ih x P B cap w hn hs ho ht
 obtain ⟨hb2, HB2, HX2, HZ2, HW2⟩ := two_hid w x B cap
 clear ht hb2 ih hn ho
 generalize x.kids.sims = L at *
 unfold ndV at *
 unfold ndA at *
 obtain ⟨x0, x1, x2, x3, x4, x5, x6, x7, hl2⟩ := (HX2.out).c8n
 go_enter Tryz.func72, Tryz.ntmps72
 go_upto_region 1 with fail
 rw [← W2n_lit w x B cap]
 generalize W2n w x B cap = w2 at *
 go_wp2_with fail
 refine HF.out.mono ?_
 rintro e w3 ⟨A3, c3, rfl, hb3, hc3, ht3⟩
 have HX3 := Lib.hid (HX2.out.below hb3 HX2.out.lt)
 have HZ3 := Lib.hid (HZ2.out.below hb3 HZ2.out.lt)
 have HB3 := Lib.hid (HB2.out.trans (hb3.mono HB2.out.size))
 have HT3 := Lib.hid ht3
 have hw3 : w.heap.size + 2 ≤ w3.heap.size := Nat.le_trans HW2.out hb3.size
 clear hb3 ht3 HF x0 x1 x2 x3 x4 x5 x6 x7 hl2 HX2 HZ2 HB2
 obtain ⟨x0, x1, x2, x3, x4, x5, x6, x7, hl2⟩ := (HX3.out).c8n
 dsimp only
 obtain ⟨z, hz⟩ : ∃ z, L = [z] := List.length_eq_one_iff.1 (by rw [HSL.out]; exact HONE.out)
 have hg : (Trees.of L).list[0]? = some z := by rw [Trees.list_of, hz]; rfl
 obtain ⟨b, o, C, capc, hBe, _, hck, ⟨c0, c1, c2, c3', c4, c5, c6, c7⟩, hkz3⟩ := HT3.out.get hg
 simp only [Nat.zero_mul, Nat.add_zero] at c0 c1 c2 c3' c4 c5 c6 c7
 have hbl := World.block_lt_of_cell? _ _ c0
 have hzs : z.size ≤ 90000000 := by have := mem_size (show z ∈ L by rw [hz]; simp); have := HSZ.out; omega
 have hzo : OkN z := (sg_iff.1 (HSG.out z (by rw [hz]; simp))).1.1
 have hd0 : (0 : Int) < (L.length : Int) := by rw [hz]; simp
 have hdn : 0 < L.length := by rw [hz]; simp
 have hhd : L.headD noneN = z := by rw [hz]; rfl
 rw [hhd] at HV
 subst hBe
 clear hz hg hhd
 have HI := Lib.hid (sstar_go z _ C capc w3 hzs hkz3 hzo)
 unfold ndV at HI
 go_wp2_with fail
 refine HI.out.mono ?_
 rintro e w9 ⟨B9, c9, rfl, hb9, hc9, ht9⟩
 have hZ9 := HZ3.out.below hb9 HZ3.out.lt
 have HB9 := Lib.hid (HB3.out.trans (hb9.mono HB3.out.size))
 have HZ9 := Lib.hid hZ9
 have HT9 := Lib.hid (ht9.weak (Q := fun b => w.heap.size + 2 ≤ b) (fun b hb _ => by omega))
 obtain ⟨y0, y1, y2, y3, y4, y5, y6, y7, g0, g1, g2, g3, g4, g5, g6, g7⟩ := hZ9.z16
 clear hZ9 ht9 hb9 HI HZ3 HB3 HX3 x0 x1 x2 x3 x4 x5 x6 x7 hl2 HT3 HSG HSZ
 generalize hy : starP z = y at *
 have HY := Lib.hid hy
 clear hy
 unfold ndV
 dsimp only
 go_wp2
 go_light
 have hF := put_next (x := y) (B := B9) (cap := c9) HZ9.out HB9.out HT9.out rfl
 refine bodyPost_ret (ret_node Tryz.results72 rfl hF.1) rfl ?_
 rw [HV.out]
 exact ⟨B9, c9, rfl, hF.2.1, hc9, hF.2.2⟩
theorem of7 {n : Nat} (ih : OfC n) (x : Nd) (P : Nat → Prop) (B : Option Addr) (cap : Nat) (w : World) (hn : x.size ≤ n + 1) (hs : x.size ≤ 40000000) (ho : ∀ y ∈ x.nodes, OkN y) (hc : x.kids.len ≤ cap) (ht : TreesAt w P x.kids B) (hk : x.kind = 7) : Calls Tryz.prog 72 #[ndV x B cap] w (NewT x.sim w) := by
 have HV := Lib.hid (show x.sim = plusP (x.kids.sims.headD noneN) by unfold Nd.sim simK; rw [if_neg (by omega)]; rw [if_neg (by omega)]; rw [if_neg (by omega)]; rw [if_neg (by omega)]; rw [if_pos (by omega)])
 have HONE := Lib.hid (show x.kids.len = 1 by have := (ho x List.mem_cons_self).2; omega)
 have e3 : (x.kind == 3) = false := kind_no (by omega)
 have e4 : (x.kind == 4) = false := kind_no (by omega)
 have e5 : (x.kind == 5) = false := kind_no (by omega)
 have e6 : (x.kind == 6) = false := kind_no (by omega)
 have e7 : (x.kind == 7) = true := kind_yes hk
 clear hk
 obtain ⟨HSL, HSG, HF, HSZ, hkz, hkl⟩ := of_start ih x P B cap w hn hs ho ht
 obtain ⟨hb2, HB2, HX2, HZ2, HW2⟩ := two_hid w x B cap
 clear ht hb2 ih hn ho
 generalize x.kids.sims = L at *
 unfold ndV at *
 unfold ndA at *
 obtain ⟨x0, x1, x2, x3, x4, x5, x6, x7, hl2⟩ := (HX2.out).c8n
 go_enter Tryz.func72, Tryz.ntmps72
 go_upto_region 1 with fail
 rw [← W2n_lit w x B cap]
 generalize W2n w x B cap = w2 at *
 go_wp2_with fail
 refine HF.out.mono ?_
 rintro e w3 ⟨A3, c3, rfl, hb3, hc3, ht3⟩
 have HX3 := Lib.hid (HX2.out.below hb3 HX2.out.lt)
 have HZ3 := Lib.hid (HZ2.out.below hb3 HZ2.out.lt)
 have HB3 := Lib.hid (HB2.out.trans (hb3.mono HB2.out.size))
 have HT3 := Lib.hid ht3
 have hw3 : w.heap.size + 2 ≤ w3.heap.size := Nat.le_trans HW2.out hb3.size
 clear hb3 ht3 HF x0 x1 x2 x3 x4 x5 x6 x7 hl2 HX2 HZ2 HB2
 obtain ⟨x0, x1, x2, x3, x4, x5, x6, x7, hl2⟩ := (HX3.out).c8n
 dsimp only
 obtain ⟨z, hz⟩ : ∃ z, L = [z] := List.length_eq_one_iff.1 (by rw [HSL.out]; exact HONE.out)
 have hg : (Trees.of L).list[0]? = some z := by rw [Trees.list_of, hz]; rfl
 obtain ⟨b, o, C, capc, hBe, _, hck, ⟨c0, c1, c2, c3', c4, c5, c6, c7⟩, hkz3⟩ := HT3.out.get hg
 simp only [Nat.zero_mul, Nat.add_zero] at c0 c1 c2 c3' c4 c5 c6 c7
 have hbl := World.block_lt_of_cell? _ _ c0
 have hzs : z.size ≤ 90000000 := by have := mem_size (show z ∈ L by rw [hz]; simp); have := HSZ.out; omega
 have hzo : OkN z := (sg_iff.1 (HSG.out z (by rw [hz]; simp))).1.1
 have hd0 : (0 : Int) < (L.length : Int) := by rw [hz]; simp
 have hdn : 0 < L.length := by rw [hz]; simp
 have hhd : L.headD noneN = z := by rw [hz]; rfl
 rw [hhd] at HV
 subst hBe
 clear hz hg hhd
 have HI := Lib.hid (splus_go z _ C capc w3 hzs hkz3 hzo)
 unfold ndV at HI
 go_wp2_with fail
 refine HI.out.mono ?_
 rintro e w9 ⟨B9, c9, rfl, hb9, hc9, ht9⟩
 have hZ9 := HZ3.out.below hb9 HZ3.out.lt
 have HB9 := Lib.hid (HB3.out.trans (hb9.mono HB3.out.size))
 have HZ9 := Lib.hid hZ9
 have HT9 := Lib.hid (ht9.weak (Q := fun b => w.heap.size + 2 ≤ b) (fun b hb _ => by omega))
 obtain ⟨y0, y1, y2, y3, y4, y5, y6, y7, g0, g1, g2, g3, g4, g5, g6, g7⟩ := hZ9.z16
 clear hZ9 ht9 hb9 HI HZ3 HB3 HX3 x0 x1 x2 x3 x4 x5 x6 x7 hl2 HT3 HSG HSZ
 generalize hy : plusP z = y at *
 have HY := Lib.hid hy
 clear hy
 unfold ndV
 dsimp only
 go_wp2
 go_light
 have hF := put_next (x := y) (B := B9) (cap := c9) HZ9.out HB9.out HT9.out rfl
 refine bodyPost_ret (ret_node Tryz.results72 rfl hF.1) rfl ?_
 rw [HV.out]
 exact ⟨B9, c9, rfl, hF.2.1, hc9, hF.2.2⟩
theorem of8 {n : Nat} (ih : OfC n) (x : Nd) (P : Nat → Prop) (B : Option Addr) (cap : Nat) (w : World) (hn : x.size ≤ n + 1) (hs : x.size ≤ 40000000) (ho : ∀ y ∈ x.nodes, OkN y) (hc : x.kids.len ≤ cap) (ht : TreesAt w P x.kids B) (hk : x.kind = 8) : Calls Tryz.prog 72 #[ndV x B cap] w (NewT x.sim w) := by
 have HV := Lib.hid (show x.sim = optP (x.kids.sims.headD noneN) by unfold Nd.sim simK; rw [if_neg (by omega)]; rw [if_neg (by omega)]; rw [if_neg (by omega)]; rw [if_neg (by omega)]; rw [if_neg (by omega)]; rw [if_pos (by omega)])
 have HONE := Lib.hid (show x.kids.len = 1 by have := (ho x List.mem_cons_self).2; omega)
 have e3 : (x.kind == 3) = false := kind_no (by omega)
 have e4 : (x.kind == 4) = false := kind_no (by omega)
 have e5 : (x.kind == 5) = false := kind_no (by omega)
 have e6 : (x.kind == 6) = false := kind_no (by omega)
 have e7 : (x.kind == 7) = false := kind_no (by omega)
 have e8 : (x.kind == 8) = true := kind_yes hk
 clear hk
 obtain ⟨HSL, HSG, HF, HSZ, hkz, hkl⟩ := of_start ih x P B cap w hn hs ho ht
 obtain ⟨hb2, HB2, HX2, HZ2, HW2⟩ := two_hid w x B cap
 clear ht hb2 ih hn ho
 generalize x.kids.sims = L at *
 unfold ndV at *
 unfold ndA at *
 obtain ⟨x0, x1, x2, x3, x4, x5, x6, x7, hl2⟩ := (HX2.out).c8n
 go_enter Tryz.func72, Tryz.ntmps72
 go_upto_region 1 with fail
 rw [← W2n_lit w x B cap]
 generalize W2n w x B cap = w2 at *
 go_wp2_with fail
 refine HF.out.mono ?_
 rintro e w3 ⟨A3, c3, rfl, hb3, hc3, ht3⟩
 have HX3 := Lib.hid (HX2.out.below hb3 HX2.out.lt)
 have HZ3 := Lib.hid (HZ2.out.below hb3 HZ2.out.lt)
 have HB3 := Lib.hid (HB2.out.trans (hb3.mono HB2.out.size))
 have HT3 := Lib.hid ht3
 have hw3 : w.heap.size + 2 ≤ w3.heap.size := Nat.le_trans HW2.out hb3.size
 clear hb3 ht3 HF x0 x1 x2 x3 x4 x5 x6 x7 hl2 HX2 HZ2 HB2
 obtain ⟨x0, x1, x2, x3, x4, x5, x6, x7, hl2⟩ := (HX3.out).c8n
 dsimp only
 obtain ⟨z, hz⟩ : ∃ z, L = [z] := List.length_eq_one_iff.1 (by rw [HSL.out]; exact HONE.out)
 have hg : (Trees.of L).list[0]? = some z := by rw [Trees.list_of, hz]; rfl
 obtain ⟨b, o, C, capc, hBe, _, hck, ⟨c0, c1, c2, c3', c4, c5, c6, c7⟩, hkz3⟩ := HT3.out.get hg
 simp only [Nat.zero_mul, Nat.add_zero] at c0 c1 c2 c3' c4 c5 c6 c7
 have hbl := World.block_lt_of_cell? _ _ c0
 have hzs : z.size ≤ 90000000 := by have := mem_size (show z ∈ L by rw [hz]; simp); have := HSZ.out; omega
 have hzo : OkN z := (sg_iff.1 (HSG.out z (by rw [hz]; simp))).1.1
 have hd0 : (0 : Int) < (L.length : Int) := by rw [hz]; simp
 have hdn : 0 < L.length := by rw [hz]; simp
 have hhd : L.headD noneN = z := by rw [hz]; rfl
 rw [hhd] at HV
 subst hBe
 clear hz hg hhd
 have HI := Lib.hid (sopt_go z _ C capc w3 hzs hkz3 hzo)
 unfold ndV at HI
 go_wp2_with fail
 refine HI.out.mono ?_
 rintro e w9 ⟨B9, c9, rfl, hb9, hc9, ht9⟩
 have hZ9 := HZ3.out.below hb9 HZ3.out.lt
 have HB9 := Lib.hid (HB3.out.trans (hb9.mono HB3.out.size))
 have HZ9 := Lib.hid hZ9
 have HT9 := Lib.hid (ht9.weak (Q := fun b => w.heap.size + 2 ≤ b) (fun b hb _ => by omega))
 obtain ⟨y0, y1, y2, y3, y4, y5, y6, y7, g0, g1, g2, g3, g4, g5, g6, g7⟩ := hZ9.z16
 clear hZ9 ht9 hb9 HI HZ3 HB3 HX3 x0 x1 x2 x3 x4 x5 x6 x7 hl2 HT3 HSG HSZ
 generalize hy : optP z = y at *
 have HY := Lib.hid hy
 clear hy
 unfold ndV
 dsimp only
 go_wp2
 go_light
 have hF := put_next (x := y) (B := B9) (cap := c9) HZ9.out HB9.out HT9.out rfl
 refine bodyPost_ret (ret_node Tryz.results72 rfl hF.1) rfl ?_
 rw [HV.out]
 exact ⟨B9, c9, rfl, hF.2.1, hc9, hF.2.2⟩
theorem of9 {n : Nat} (ih : OfC n) (x : Nd) (P : Nat → Prop) (B : Option Addr) (cap : Nat) (w : World) (hn : x.size ≤ n + 1) (hs : x.size ≤ 40000000) (ho : ∀ y ∈ x.nodes, OkN y) (hc : x.kids.len ≤ cap) (ht : TreesAt w P x.kids B) (hk : x.kind = 9) : Calls Tryz.prog 72 #[ndV x B cap] w (NewT x.sim w) := by
 have HV := Lib.hid (show x.sim = repP (x.kids.sims.headD noneN) x.lo x.hi by unfold Nd.sim simK; rw [if_neg (by omega)]; rw [if_neg (by omega)]; rw [if_neg (by omega)]; rw [if_neg (by omega)]; rw [if_neg (by omega)]; rw [if_neg (by omega)]; rw [if_pos (by omega)])
 have HONE := Lib.hid (show x.kids.len = 1 by have := (ho x List.mem_cons_self).2; omega)
 have e3 : (x.kind == 3) = false := kind_no (by omega)
 have e4 : (x.kind == 4) = false := kind_no (by omega)
 have e5 : (x.kind == 5) = false := kind_no (by omega)
 have e6 : (x.kind == 6) = false := kind_no (by omega)
 have e7 : (x.kind == 7) = false := kind_no (by omega)
 have e8 : (x.kind == 8) = false := kind_no (by omega)
 have e9 : (x.kind == 9) = true := kind_yes hk
 clear hk
 obtain ⟨HSL, HSG, HF, HSZ, hkz, hkl⟩ := of_start ih x P B cap w hn hs ho ht
 obtain ⟨hb2, HB2, HX2, HZ2, HW2⟩ := two_hid w x B cap
 clear ht hb2 ih hn ho
 generalize x.kids.sims = L at *
 unfold ndV at *
 unfold ndA at *
 obtain ⟨x0, x1, x2, x3, x4, x5, x6, x7, hl2⟩ := (HX2.out).c8n
 go_enter Tryz.func72, Tryz.ntmps72
 go_upto_region 1 with fail
 rw [← W2n_lit w x B cap]
 generalize W2n w x B cap = w2 at *
 go_wp2_with fail
 refine HF.out.mono ?_
 rintro e w3 ⟨A3, c3, rfl, hb3, hc3, ht3⟩
 have HX3 := Lib.hid (HX2.out.below hb3 HX2.out.lt)
 have HZ3 := Lib.hid (HZ2.out.below hb3 HZ2.out.lt)
 have HB3 := Lib.hid (HB2.out.trans (hb3.mono HB2.out.size))
 have HT3 := Lib.hid ht3
 have hw3 : w.heap.size + 2 ≤ w3.heap.size := Nat.le_trans HW2.out hb3.size
 clear hb3 ht3 HF x0 x1 x2 x3 x4 x5 x6 x7 hl2 HX2 HZ2 HB2
 obtain ⟨x0, x1, x2, x3, x4, x5, x6, x7, hl2⟩ := (HX3.out).c8n
 dsimp only
 obtain ⟨z, hz⟩ : ∃ z, L = [z] := List.length_eq_one_iff.1 (by rw [HSL.out]; exact HONE.out)
 have hg : (Trees.of L).list[0]? = some z := by rw [Trees.list_of, hz]; rfl
 obtain ⟨b, o, C, capc, hBe, _, hck, ⟨c0, c1, c2, c3', c4, c5, c6, c7⟩, hkz3⟩ := HT3.out.get hg
 simp only [Nat.zero_mul, Nat.add_zero] at c0 c1 c2 c3' c4 c5 c6 c7
 have hbl := World.block_lt_of_cell? _ _ c0
 have hzs : z.size ≤ 90000000 := by have := mem_size (show z ∈ L by rw [hz]; simp); have := HSZ.out; omega
 have hzo : OkN z := (sg_iff.1 (HSG.out z (by rw [hz]; simp))).1.1
 have hd0 : (0 : Int) < (L.length : Int) := by rw [hz]; simp
 have hdn : 0 < L.length := by rw [hz]; simp
 have hhd : L.headD noneN = z := by rw [hz]; rfl
 rw [hhd] at HV
 subst hBe
 clear hz hg hhd
 have hbD : Below w3.heap.size w3 w3.drew := (Below.refl _ _).drew
 have HI := Lib.hid (srep_any z x.lo x.hi _ C capc w3.drew hzs hck (hkz3.below hbD) hzo)
 have HZD := Lib.hid (HZ3.out.below hbD HZ3.out.lt)
 have HXD := Lib.hid (HX3.out.below hbD HX3.out.lt)
 have HBD := Lib.hid (HB3.out.trans (hbD.mono HB3.out.size))
 unfold ndV at HI
 clear HZ3 HX3 HB3 hbD HT3 HSG HSZ hkz3
 generalize hrp : repP z x.lo x.hi = y at *
 have HRP := Lib.hid hrp
 clear hrp
 generalize x.lo = lo at *
 generalize x.hi = hi at *
 go_upto_region 17 with fail
 generalize hbx : w.heap.size = bx at *
 have hs : (fun w' => w'.cell? ⟨bx, 6, none⟩ = some (.int .i64 lo) ∧ w'.cell? ⟨bx, 7, none⟩ = some (.int .i64 hi)) w3.drew := ⟨x6, x7⟩
 refine wp_region_noPanic ?_
 refine wp_region_held_drew (S := fun w' => w'.cell? ⟨bx, 6, none⟩ = some (.int .i64 lo) ∧ w'.cell? ⟨bx, 7, none⟩ = some (.int .i64 hi)) (by kernel_rfl) hs (fun hHeld => ?_)
 refine wpAnyH_take (i := 0) (oi := _) (v := ?_) rfl (by kernel_rfl) (by kernel_rfl) (by kernel_rfl) (fun _ _ _ h => h) (Or.inl ⟨by kernel_rfl, ?_⟩) (by assumption) ?_
 rotate_left
 ·intro w hSw
  try dsimp only at hSw
  go_simp
  try (with_reducible rfl)
 try simp only [Act.put, nrmH]
 refine wpAnyH_take (i := 1) (oi := _) (v := ?_) rfl (by kernel_rfl) (by kernel_rfl) (by kernel_rfl) (fun _ _ _ h => h) (Or.inl ⟨by kernel_rfl, ?_⟩) (by assumption) ?_
 rotate_left
 ·intro w hSw
  try dsimp only at hSw
  go_simp
  try (with_reducible rfl)
 try simp only [Act.put, nrmH]
 refine wpAnyH_take (i := 3) (oi := _) (v := ?_) rfl (by kernel_rfl) (by kernel_rfl) (by kernel_rfl) (fun _ _ _ h => h) (Or.inl ⟨by kernel_rfl, ?_⟩) (by assumption) ?_
 rotate_left
 ·intro w hSw
  try dsimp only at hSw
  go_simp
  try (with_reducible rfl)
 try simp only [Act.put, nrmH]
 refine wpAnyH_take (i := 4) (oi := _) (v := ?_) rfl (by kernel_rfl) (by kernel_rfl) (by kernel_rfl) (fun _ _ _ h => h) (Or.inl ⟨by kernel_rfl, ?_⟩) (by assumption) ?_
 rotate_left
 ·intro w hSw
  try dsimp only at hSw
  go_simp
  try (with_reducible rfl)
 try simp only [Act.put, nrmH]
 refine wpAnyH_take (i := 5) (oi := _) (v := ?_) rfl (by kernel_rfl) (by kernel_rfl) (by kernel_rfl) (fun _ _ _ h => h) (Or.inl ⟨by kernel_rfl, ?_⟩) (by assumption) ?_
 rotate_left
 ·intro w hSw
  try dsimp only at hSw
  go_simp
  try (with_reducible rfl)
 try simp only [Act.put, nrmH]
 refine wpAnyH_take (i := 6) (oi := _) (v := ?_) rfl (by kernel_rfl) (by kernel_rfl) (by kernel_rfl) (fun _ _ _ h => h) (Or.inl ⟨by kernel_rfl, ?_⟩) (by assumption) ?_
 rotate_left
 ·intro w hSw
  try dsimp only at hSw
  go_simp
  try (with_reducible rfl)
 try simp only [Act.put, nrmH]
 refine wpAnyH_ready (rs := [2]) (by kernel_rfl) (by simp) ?_
 refine AllReadyH.cons (o := _) rfl (fun K hK => ?_) AllReadyH.nil
 go_simp
 refine hK.out _ _ hs (fun _ => ?_)
 clear hK K
 try simp only [Act.put, nrmH]
 refine wpAnyH_ready (rs := [7]) (by kernel_rfl) (by simp) ?_
 refine AllReadyH.cons (o := _) rfl (fun K hK => ?_) AllReadyH.nil
 go_simp
 go_at_call 39
 refine HI.out.mono ?_
 rintro e w9 ⟨B9, c9, rfl, hb9, hc9, ht9⟩
 have hX9 := HXD.out.below hb9 HXD.out.lt
 have hZ9 := HZD.out.below hb9 HZD.out.lt
 have HB9 := Lib.hid (HBD.out.trans (hb9.mono (show bx ≤ w3.heap.size by omega)))
 have HZ9 := Lib.hid hZ9
 have HT9 := Lib.hid (ht9.weak (Q := fun b => bx + 2 ≤ b) (fun b hb _ => Nat.le_trans hw3 hb))
 have HX9 := Lib.hid hX9
 have hs9 : (fun w' => w'.cell? ⟨bx, 6, none⟩ = some (.int .i64 lo) ∧ w'.cell? ⟨bx, 7, none⟩ = some (.int .i64 hi)) w9 := ⟨hX9.cell 6, hX9.cell 7⟩
 refine hK.out _ _ hs9 (fun _ => ?_)
 clear hK K hb9 ht9 x0 x1 x2 x3 x4 x5 x6 x7 hl2 c0 c1 c2 c3' c4 c5 c6 c7 hs hX9
 try simp only [Act.put, nrmH]
 obtain ⟨y0, y1, y2, y3, y4, y5, y6, y7, g0, g1, g2, g3, g4, g5, g6, g7⟩ := hZ9.z16
 clear hZ9
 unfold ndV
 refine wpAnyH_ready (rs := [8]) (by kernel_rfl) (by simp) ?_
 refine AllReadyH.cons (o := _) rfl (fun K hK => ?_) AllReadyH.nil
 go_simp
 have hXf := far8 HX9.out (show bx ≠ bx + 1 by omega) (.int .i64 y.kind) (.int .u64 (word y.set.testBit 0)) (.int .u64 (word y.set.testBit 1)) (.int .u64 (word y.set.testBit 2)) (.int .u64 (word y.set.testBit 3)) (.slice B9 y.kids.len c9) (.int .i64 y.lo) (.int .i64 y.hi)
 refine hK.out _ _ ⟨hXf.cell 6, hXf.cell 7⟩ (fun _ => ?_)
 clear hK K hXf hs9
 try simp only [Act.put, nrmH]
 refine wpAnyH_done (by kernel_rfl) ?_ _
 refine NoPanic.normal ?_
 go_wp2
 go_light
 subst hbx
 have hF := put_next (x := y) (B := B9) (cap := c9) HZ9.out HB9.out HT9.out rfl
 refine bodyPost_ret (ret_node Tryz.results72 rfl hF.1) rfl ?_
 rw [HV.out]
 exact ⟨B9, c9, rfl, hF.2.1, hc9, hF.2.2⟩
theorem of_step {n : Nat} (ih : OfC n) : OfC (n + 1) := by
 intro x P B cap w hn hs ho hc ht
 by_cases k12 : x.kind = 1 ∨ x.kind = 2
 ·exact of12 ih x P B cap w hn hs ho hc ht k12
 by_cases k3 : x.kind = 3
 ·by_cases hset : isNoSet x.set = true
  ·exact of3n ih x P B cap w hn hs ho hc ht k3 hset
  cases h0 : (((word x.set.testBit 0 : Nat) : Int) == 0) with
  | false => exact of3_0 ih x P B cap w hn hs ho hc ht k3 hset h0
  | true =>
  cases h1 : (((word x.set.testBit 1 : Nat) : Int) == 0) with
  | false => exact of3_1 ih x P B cap w hn hs ho hc ht k3 hset h0 h1
  | true =>
  cases h2 : (((word x.set.testBit 2 : Nat) : Int) == 0) with
  | false => exact of3_2 ih x P B cap w hn hs ho hc ht k3 hset h0 h1 h2
  | true =>
  cases h3 : (((word x.set.testBit 3 : Nat) : Int) == 0) with
  | false => exact of3_3 ih x P B cap w hn hs ho hc ht k3 hset h0 h1 h2 h3
  | true =>
   refine absurd ?_ hset
   rw [beq_iff_eq] at h0 h1 h2 h3
   unfold isNoSet
   rw [show word x.set.testBit 0 = 0 by omega, show word x.set.testBit 1 = 0 by omega, show word x.set.testBit 2 = 0 by omega, show word x.set.testBit 3 = 0 by omega]
   rfl
 by_cases k4 : x.kind = 4
 ·exact of4 ih x P B cap w hn hs ho hc ht k4
 by_cases k5 : x.kind = 5
 ·exact of5 ih x P B cap w hn hs ho hc ht k5
 by_cases k6 : x.kind = 6
 ·exact of6 ih x P B cap w hn hs ho hc ht k6
 by_cases k7 : x.kind = 7
 ·exact of7 ih x P B cap w hn hs ho hc ht k7
 by_cases k8 : x.kind = 8
 ·exact of8 ih x P B cap w hn hs ho hc ht k8
 ·exact of9 ih x P B cap w hn hs ho hc ht (by have := (ho x List.mem_cons_self).2; omega)
theorem sof_go (x : Nd) (P : Nat → Prop) (B : Option Addr) (cap : Nat) (w : World) (hs : x.size ≤ 40000000) (ho : ∀ y ∈ x.nodes, OkN y) (hc : x.kids.len ≤ cap) (ht : TreesAt w P x.kids B) : Calls Tryz.prog 72 #[ndV x B cap] w (NewT x.sim w) := by
 have h : ∀ n, OfC n := by
  intro n
  induction n with
  | zero => exact fun x _ _ _ _ h => by unfold Nd.size at h; omega
  | succ n ih => exact of_step ih
 exact h x.size x P B cap w (Nat.le_refl _) hs ho hc ht
theorem word_cut (s i : Nat) (hi : i < 4) : word (s % 2 ^ 256).testBit i = word s.testBit i := word_congr fun j hj => by
 rw [Nat.testBit_mod_two_pow, decide_eq_true (by omega : 64 * i + j < 256), Bool.true_and]
def Trees.cut : Trees → Trees
 | .nil => .nil
 | .cons k s ks lo hi r => .cons k (s % 2 ^ 256) ks.cut lo hi r.cut
def Nd.cut (x : Nd) : Nd := ⟨x.kind, x.set % 2 ^ 256, x.kids.cut, x.lo, x.hi⟩
theorem Trees.len_cut : ∀ F : Trees, F.cut.len = F.len
 | .nil => rfl
 | .cons k s ks lo hi r => by rw [Trees.cut, Trees.len, Trees.len, r.len_cut]
theorem Trees.size_cut : ∀ F : Trees, F.cut.size = F.size
 | .nil => rfl
 | .cons k s ks lo hi r => by rw [Trees.cut, Trees.size, Trees.size, ks.size_cut, r.size_cut]
theorem Nd.size_cut (x : Nd) : x.cut.size = x.size := by unfold Nd.size Nd.cut; rw [Trees.size_cut]
theorem ndV_cut (x : Nd) (B : Option Addr) (cap : Nat) : ndV x.cut B cap = ndV x B cap := by
 unfold ndV Nd.cut
 dsimp only
 rw [word_cut _ 0 (by decide), word_cut _ 1 (by decide), word_cut _ 2 (by decide), word_cut _ 3 (by decide), Trees.len_cut]
theorem TreesAt.cut {w : World} {P : Nat → Prop} : ∀ {F : Trees} {A : Option Addr}, TreesAt w P F A → TreesAt w P F.cut A
 | .nil, _, _ => trivial
 | .cons k s ks lo hi r, A, ⟨b, o, B, cap, hA, hb, hc, ⟨c0, c1, c2, c3, c4, c5, c6, c7⟩, h1, h2⟩ =>
  ⟨b, o, B, cap, hA, hb, by rw [Trees.len_cut]; exact hc, ⟨c0, by rw [word_cut _ 0 (by decide)]; exact c1, by rw [word_cut _ 1 (by decide)]; exact c2, by rw [word_cut _ 2 (by decide)]; exact c3, by rw [word_cut _ 3 (by decide)]; exact c4, by rw [Trees.len_cut]; exact c5, c6, c7⟩, h1.cut, h2.cut⟩
theorem Trees.fit_cut : ∀ F : Trees, FitF F.cut
 | .nil => fun y hy => by cases hy
 | .cons k s ks lo hi r => fun y hy => by
  simp only [Trees.cut, Trees.nodes, List.mem_cons, List.mem_append] at hy
  rcases hy with rfl | hy | hy
  ·exact Nat.mod_lt _ (by decide)
  ·exact ks.fit_cut y hy
  ·exact r.fit_cut y hy
theorem Nd.fit_cut (x : Nd) : FitT x.cut := fun y hy => by
 rcases List.mem_cons.1 hy with rfl | hy
 ·exact Nat.mod_lt _ (by decide)
 ·exact x.kids.fit_cut y hy
theorem ret_nodeE {fn : Func} {t2 t3 : Tmp} (h : fn.results = #[.cell t2 28, .tmp t3]) {tmps : Array Value} {w : World} {g : Nat} {a0 a1 a2 a3 a4 a5 a6 a7 c : Value}
  (hp : tmps.getD t2 undef = .pointer (some ⟨g, 0, none⟩)) (hc : tmps.getD t3 undef = c) (hb : Blk w g 28 #[a0, a1, a2, a3, a4, a5, a6, a7]) :
  (results fn tmps).run Tryz.prog w = .ok (.tuple #[.agg #[a0, a1, a2, a3, a4, a5, a6, a7], c]) w := by
 have h1 := run_loadVar_row (P := Tryz.prog) w g 28 28 #[a0, a1, a2, a3, a4, a5, a6, a7] (0, 0) _ hb Tryz.underlying28 rfl (by kernel_rfl)
 simp only [results, h]
 simp only [Array.getD_eq_getD_getElem?] at hp hc
 simp [Sem.run_bind, hp, hc, asAddr, h1, Result.andThen]
def OfOut (x : Nd) (w : World) (e : Ending) (w' : World) : Prop := Below w.heap.size w w' ∧
  ((rightT x = false ∧ e = .returned (.tuple #[.agg #[.int .i64 0, .int .u64 0, .int .u64 0, .int .u64 0, .int .u64 0, .slice none 0 0, .int .i64 0, .int .i64 0], .int .i64 6])) ∨
   (rightT x = true ∧ ∃ B' cap', e = .returned (.tuple #[ndV x.sim B' cap', .int .i64 0]) ∧ x.sim.kids.len ≤ cap' ∧ TreesAt w' (fun b => b < w'.heap.size) x.sim.kids B'))
theorem right_oks {x : Nd} (hr : rightT x = true) (hf : FitT x) : ∀ y ∈ x.nodes, OkN y := fun y hy => by
 unfold rightT at hr
 rw [Bool.and_eq_true] at hr
 exact ok_of_alone (List.all_eq_true.1 hr.2 y hy) (hf y hy)
theorem right_few {x : Nd} (hr : rightT x = true) : x.size ≤ 4096 := by
 unfold rightT at hr
 rw [Bool.and_eq_true, decide_eq_true_eq] at hr
 have : x.nodes.length = x.size := by unfold Nd.nodes Nd.size; rw [List.length_cons, Trees.nodes_len]; omega
 omega
theorem sOf_no (x : Nd) (B : Option Addr) (cap : Nat) (w : World) (hs : x.size ≤ 4611686018427387903) (hf : FitT x) (hc : x.kids.len ≤ cap) (ht : TreesAt w (fun b => b < w.heap.size) x.kids B) (hr : rightT x = false) : Calls Tryz.prog 23 #[ndV x B cap] w (OfOut x w) := by
 obtain ⟨hb2, HB2, HX2, HZ2, HW2⟩ := two_hid w x B cap
 have htw := (ht.below hb2).keep (Q := fun b => b < (W2n w x B cap).heap.size) (fun _ _ _ _ => rfl) (fun b _ h => h)
 have HR := Lib.hid (tright_any x B cap (W2n w x B cap) hs htw)
 have HTW := Lib.hid htw
 clear ht hb2 htw
 have HRR := Lib.hid hr
 rw [hr] at HR
 clear hr hf
 unfold ndV at *
 unfold ndA at *
 obtain ⟨x0, x1, x2, x3, x4, x5, x6, x7, hl2⟩ := (HX2.out).c8n
 go_enter Tryz.func23, Tryz.ntmps23
 go_upto_region 1 with fail
 rw [← W2n_lit w x B cap]
 generalize W2n w x B cap = w2 at *
 go_wp2_with fail
 refine HR.out.mono ?_
 rintro e w3 ⟨rfl, hb3⟩
 have HX3 := Lib.hid (HX2.out.below hb3 HX2.out.lt)
 have HZ3 := Lib.hid (HZ2.out.below hb3 HZ2.out.lt)
 have HB3 := Lib.hid (HB2.out.trans (hb3.mono HB2.out.size))
 have HT3 := Lib.hid (HTW.out.below hb3)
 have hw3 : w.heap.size + 2 ≤ w3.heap.size := Nat.le_trans HW2.out hb3.size
 clear hb3 HR HTW x0 x1 x2 x3 x4 x5 x6 x7 hl2 HX2 HZ2 HB2
 obtain ⟨x0, x1, x2, x3, x4, x5, x6, x7, hl2⟩ := (HX3.out).c8n
 obtain ⟨y0, y1, y2, y3, y4, y5, y6, y7, g0, g1, g2, g3, g4, g5, g6, g7⟩ := HZ3.out.z16
 dsimp only
 go_wp2
 go_light
 have hF := put_next (x := ⟨0, 0, .nil, 0, 0⟩) (B := none) (cap := 0) HZ3.out HB3.out (by trivial) (by simp only [word_zero]; rfl)
 refine bodyPost_ret (ret_nodeE Tryz.results23 rfl rfl hF.1) rfl ⟨hF.2.1, .inl ⟨HRR.out, ?_⟩⟩
 simp only [word_zero]
 rfl
theorem sOf_yes (x : Nd) (B : Option Addr) (cap : Nat) (w : World) (hs : x.size ≤ 4611686018427387903) (hf : FitT x) (hc : x.kids.len ≤ cap) (ht : TreesAt w (fun b => b < w.heap.size) x.kids B) (hr : rightT x = true) : Calls Tryz.prog 23 #[ndV x B cap] w (OfOut x w) := by
 have HOK := Lib.hid (right_oks hr hf)
 have hsz := right_few hr
 obtain ⟨hb2, HB2, HX2, HZ2, HW2⟩ := two_hid w x B cap
 have htw := (ht.below hb2).keep (Q := fun b => b < (W2n w x B cap).heap.size) (fun _ _ _ _ => rfl) (fun b _ h => h)
 have HR := Lib.hid (tright_any x B cap (W2n w x B cap) hs htw)
 have HTW := Lib.hid htw
 clear ht hb2 htw
 have HRR := Lib.hid hr
 rw [hr] at HR
 clear hr hf
 unfold ndV at *
 unfold ndA at *
 obtain ⟨x0, x1, x2, x3, x4, x5, x6, x7, hl2⟩ := (HX2.out).c8n
 go_enter Tryz.func23, Tryz.ntmps23
 go_upto_region 1 with fail
 rw [← W2n_lit w x B cap]
 generalize W2n w x B cap = w2 at *
 go_wp2_with fail
 refine HR.out.mono ?_
 rintro e w3 ⟨rfl, hb3⟩
 have HX3 := Lib.hid (HX2.out.below hb3 HX2.out.lt)
 have HZ3 := Lib.hid (HZ2.out.below hb3 HZ2.out.lt)
 have HB3 := Lib.hid (HB2.out.trans (hb3.mono HB2.out.size))
 have HT3 := Lib.hid (HTW.out.below hb3)
 have hw3 : w.heap.size + 2 ≤ w3.heap.size := Nat.le_trans HW2.out hb3.size
 clear hb3 HR HTW x0 x1 x2 x3 x4 x5 x6 x7 hl2 HX2 HZ2 HB2
 obtain ⟨x0, x1, x2, x3, x4, x5, x6, x7, hl2⟩ := (HX3.out).c8n
 have HI := Lib.hid (sof_go x _ B cap w3 (by omega) HOK.out hc HT3.out)
 unfold ndV at HI
 dsimp only
 generalize hy : x.sim = y at *
 have HY := Lib.hid hy
 clear hy
 go_wp2_with fail
 refine HI.out.mono ?_
 rintro e w9 ⟨B9, c9, rfl, hb9, hc9, ht9⟩
 have hZ9 := HZ3.out.below hb9 HZ3.out.lt
 have HB9 := Lib.hid (HB3.out.trans (hb9.mono HB3.out.size))
 have HZ9 := Lib.hid hZ9
 have HT9 := Lib.hid (ht9.weak (Q := fun b => w.heap.size + 2 ≤ b) (fun b hb _ => by omega))
 obtain ⟨y0, y1, y2, y3, y4, y5, y6, y7, g0, g1, g2, g3, g4, g5, g6, g7⟩ := hZ9.z16
 clear hZ9 ht9 hb9 HI HZ3 HB3 HX3 x0 x1 x2 x3 x4 x5 x6 x7 hl2 HT3
 unfold ndV
 dsimp only
 go_wp2
 go_light
 have hF := put_next (x := y) (B := B9) (cap := c9) HZ9.out HB9.out HT9.out rfl
 refine bodyPost_ret (ret_nodeE Tryz.results23 rfl rfl hF.1) rfl ⟨hF.2.1, .inr ⟨HRR.out, ?_⟩⟩
 rw [HY.out]
 exact ⟨B9, c9, rfl, hc9, hF.2.2.keep (fun _ _ _ _ => rfl) (fun b _ h => h)⟩
theorem sOf_go (x : Nd) (B : Option Addr) (cap : Nat) (w : World) (hs : x.size ≤ 4611686018427387903) (hf : FitT x) (hc : x.kids.len ≤ cap) (ht : TreesAt w (fun b => b < w.heap.size) x.kids B) : Calls Tryz.prog 23 #[ndV x B cap] w (OfOut x w) := by
 cases hr : rightT x with
 | false => exact sOf_no x B cap w hs hf hc ht hr
 | true => exact sOf_yes x B cap w hs hf hc ht hr
end
end Go.Proofs.YtofbfafnpdaejaaGreatDoor
