/- Texts of the claim. -/
import Derived.Test.YtofbfafnpdaejaaGreatDoorJSimP
set_option linter.all false
set_option maxRecDepth 100000
set_option maxHeartbeats 8000000
namespace Go.Proofs.YtofbfafnpdaejaaGreatDoor
open Go.RowKit
def QRow (P0 : Nat → Prop) (n0 : Nat) (w : World) (acc : List Nd) (u : Value) (wr : World) : Prop :=
 (∃ cs, wr.ownsRow n0 28 8 u acc.length cs ∧ CellsAre wr (fun b => P0 b ∧ some b ≠ u.ownBlock) acc cs) ∧ Below n0 w wr ∧ n0 ≤ wr.heap.size
section
variable {P0 : Nat → Prop} {n0 : Nat} {w wr w2 w' : World} {acc : List Nd} {u : Value}
theorem QRow.own (h : QRow P0 n0 w acc u wr) : ∀ g, u.ownBlock = some g → n0 ≤ g ∧ g < wr.heap.size := by
 obtain ⟨⟨cs, hr, _⟩, _⟩ := h
 exact hr.lt
theorem QRow.below (h : QRow P0 n0 w acc u wr) (hb : Below wr.heap.size wr w2) : QRow P0 n0 w acc u w2 := by
 obtain ⟨⟨cs, hr, hc⟩, h3, h4⟩ := h
 exact ⟨⟨cs, own_below hr hb, hc.below hb⟩, h3.trans (hb.mono h4), Nat.le_trans h4 hb.size⟩
theorem QRow.trees (h : QRow P0 n0 w acc u wr) : ∃ A cap, u = .slice A acc.length cap ∧ acc.length ≤ cap ∧ TreesAt wr (fun b => P0 b ∨ n0 ≤ b) (Trees.of acc) A := by
 have hl := h.own
 obtain ⟨⟨cs, hr, hc⟩, _⟩ := h
 exact trees_of (P := fun b => P0 b ∨ n0 ≤ b) hr (hc.keep (fun _ _ _ _ => rfl) (fun b hb _ => .inl hb.1)) (fun g e => .inr (hl g e).1)
theorem QRow.appendsC (h : QRow P0 n0 w acc u wr) {a : Addr} {l : List Nd} {ds : List Value} (c : Nat) (hd1 : CellsAre wr (fun b => P0 b ∧ some b ≠ u.ownBlock) l ds) (hd2 : ∀ j v, ds[j]? = some v → wr.cell? (a.add j) = some v) (hs : acc.length + l.length ≤ 200000000) (t ty : TypeId) (ht : Tryz.prog.underlying t = some (.slice 28)) :
  ∃ u' w', (Builtin.append_ #[t, t] ty #[u, .slice (some a) l.length c]).run Tryz.prog wr = .ok u' w' ∧ QRow P0 n0 w (acc ++ l) u' w' ∧ wr.grownBy w' u.ownBlock := by
 obtain ⟨i0, hi, hz0, hz1, hz2⟩ := info_parts info_nd
 have hl := h.own
 have h63 : acc.length + l.length ≤ maxLen := Nat.le_trans hs (by decide)
 have hby : (acc.length + l.length) * 80 ≤ 140737488355328 := by omega
 obtain ⟨⟨cs, hr, hc⟩, h3, h4⟩ := h
 have hdl : ds.length = l.length * 8 := hd1.length
 obtain ⟨u', w', h5, h6, h7, _, h9⟩ := run_append_own_at (P := Tryz.prog) wr n0 t ty 28 i0 _ 8 80 ht hi hz0 hz1 hz2 rfl (by decide) u acc.length cs hr a l.length c ds hdl hd2 (fun v hv => hd1.one v hv) h63 hby h4
 have hk : ∀ b i, (P0 b ∧ some b ≠ u.ownBlock) → b < wr.heap.size → w'.cell? ⟨b, i, none⟩ = wr.cell? ⟨b, i, none⟩ := fun b i hb hbl => World.cell?_of_block (h7.block b hbl hb.2)
 have hq : ∀ b, (P0 b ∧ some b ≠ u.ownBlock) → b < wr.heap.size → P0 b ∧ some b ≠ u'.ownBlock := fun b hb hbl => ⟨hb.1, fun e => by
  rcases h9 with h9 | h9
  ·exact hb.2 (e.trans h9)
  ·rw [h9] at e
   cases e
   omega⟩
 refine ⟨u', w', h5, ⟨⟨cs ++ ds, by rw [List.length_append]; exact h6, (hc.keep hk hq).app (hd1.keep hk hq)⟩, h3.grown h7 h4 (fun k e => (hl k e).1), Nat.le_trans h4 h7.size⟩, h7⟩
theorem QRow.appends (h : QRow P0 n0 w acc u wr) {A : Option Addr} {G : Trees} (c : Nat) (hA : TreesAt wr (fun b => P0 b ∧ some b ≠ u.ownBlock) G A) (hs : acc.length + G.len ≤ 200000000) (t ty : TypeId) (ht : Tryz.prog.underlying t = some (.slice 28)) :
  ∃ u' w', (Builtin.append_ #[t, t] ty #[u, .slice A G.len c]).run Tryz.prog wr = .ok u' w' ∧ QRow P0 n0 w (acc ++ G.list) u' w' ∧ wr.grownBy w' u.ownBlock := by
 cases A with
 | none =>
  obtain ⟨i0, hi, hz0, hz1, hz2⟩ := info_parts info_nd
  obtain ⟨⟨cs, hr, hc⟩, h3, h4⟩ := h
  have h0 : G = .nil := by
   cases G with
   | nil => rfl
   | cons k s ks lo hi r =>
    obtain ⟨b, o, B, cap, e, _⟩ := hA
    cases e
  subst h0
  refine ⟨u, wr, ?_, ?_, ⟨rfl, rfl, rfl, Nat.le_refl _, fun _ _ _ => rfl⟩⟩
  ·rcases hr.2 with ⟨rfl, _⟩ | ⟨g, cap, cur, rfl, _, _, hnc, _⟩
   ·simp [Builtin.append_, run_underlying ht, sizeOf, typeInfo, hi, Builtin.lenOf, Builtin.firstCells, Trees.len]
   ·simp [Builtin.append_, run_underlying ht, sizeOf, typeInfo, hi, Builtin.lenOf, Builtin.firstCells, hnc, storeCells, Trees.len]
  ·rw [show acc ++ Trees.nil.list = acc by simp [Trees.list]]
   exact ⟨⟨cs, hr, hc⟩, h3, h4⟩
 | some a =>
  have hcells : ∃ ds, CellsAre wr (fun b => P0 b ∧ some b ≠ u.ownBlock) G.list ds ∧ ∀ j v, ds[j]? = some v → wr.cell? (a.add j) = some v := by
   cases hG : G with
   | nil => exact ⟨[], rfl, fun j v hv => by cases hv⟩
   | cons k s ks lo hi r =>
    have hA2 := hA
    rw [hG] at hA2
    obtain ⟨b, o, B, cap, e, _⟩ := id hA2
    cases e
    rw [← Trees.of_list (.cons k s ks lo hi r)] at hA2
    obtain ⟨ds, h1, h2⟩ := TreesAt.cells hA2
    exact ⟨ds, h1, fun j v hv => by rw [addr_plus7]; exact h2 j v hv⟩
  obtain ⟨ds, hd1, hd2⟩ := hcells
  have hll := Trees.len_list G
  obtain ⟨u', w', h1, h2, h3⟩ := h.appendsC c hd1 hd2 (by omega) t ty ht
  rw [hll] at h1
  exact ⟨u', w', h1, h2, h3⟩
end
theorem orow_made (P0 : Nat → Prop) (w : World) : QRow P0 w.heap.size w [] (.slice (some ⟨w.heap.size, 0, none⟩) 0 0) (w.alloc (.cells #[] 28)) := by
 have h := World.ownsRow_made (base := w.heap.size) (size := 8) (e := 28) w #[] 0 (Nat.le_refl _) (by decide) rfl
 exact ⟨⟨[], h, rfl⟩, (Below.refl _ _).alloc (Nat.le_refl _) _, by simp⟩
theorem flatQ_size (k : Int) (x : Nd) : ((flatQ k x).map Nd.size).sum ≤ x.size := by
 unfold flatQ
 split
 ·rw [← size_listS]
  unfold Nd.size
  omega
 ·simp
theorem flatq_small (k : Int) (F : Trees) : ((F.list.flatMap (flatQ k)).map Nd.size).sum ≤ F.size ∧ (F.list.flatMap (flatQ k)).length ≤ F.size := by
 have h := sum_flat (flatQ k) (flatQ_size k) F.list
 rw [← size_listS] at h
 exact ⟨h, Nat.le_trans (len_sum _) h⟩
theorem QRow.one {P0 : Nat → Prop} {n0 : Nat} {w wr : World} {acc : List Nd} {u : Value} (h : QRow P0 n0 w acc u wr) {x : Nd} {C : Option Addr} {capc : Nat} (hck : x.kids.len ≤ capc) (hk : TreesAt wr (fun b => P0 b ∧ some b ≠ u.ownBlock) x.kids C) (hs : acc.length + 1 ≤ 200000000) :
  ∃ v5 w5, (Builtin.append_ #[26, 26] 26 #[u, .slice (some ⟨wr.heap.size, 0, none⟩) 1 1]).run Tryz.prog (wr.alloc (.cells (ndA x C capc) 28)) = .ok v5 w5 ∧ QRow P0 n0 w (acc ++ [x]) v5 w5 := by
 have hbA : Below wr.heap.size wr (wr.alloc (.cells (ndA x C capc) 28)) := (Below.refl _ _).alloc (Nat.le_refl _) _
 have hZ : Blk (wr.alloc (.cells (ndA x C capc) 28)) wr.heap.size 28 (ndA x C capc) := Blk.new wr _ _
 have hd1 : CellsAre (wr.alloc (.cells (ndA x C capc) 28)) (fun b => P0 b ∧ some b ≠ u.ownBlock) [x] (ndCell x C capc) := ⟨C, capc, [], by simp, hck, hk.below hbA, rfl⟩
 obtain ⟨v5, w5, hrun, hrow5, _⟩ := (h.below hbA).appendsC (a := ⟨wr.heap.size, 0, none⟩) 1 hd1 (fun j v hv => by
  rw [addr_plus7]
  simp only [Nat.zero_add]
  rw [hZ.cell j, ← hv]
  simp [ndA, ndCell]) (by simpa using hs) 26 26 Tryz.underlying26
 exact ⟨v5, w5, hrun, hrow5⟩
theorem rflat12_go (k : Int) (F : Trees) (B : Option Addr) (cap : Nat) (w : World) (L : List Nd) (hL : F.list.flatMap (flatQ k) = L) (hlen : F.size ≤ 90000000) {P : Nat → Prop} (hP : ∀ b, P b → b < w.heap.size) (ht : TreesAt w P F B) :
  Calls Tryz.prog 81 #[.int .i64 k, .slice B F.len cap] w fun e w' => ∃ A c, e = .returned (.slice A L.length c) ∧ Below w.heap.size w w' ∧ L.length ≤ c ∧ TreesAt w' (fun b => P b ∨ w.heap.size ≤ b) (Trees.of L) A := by
 have HT := Lib.hid ht
 have HL := Lib.hid hL
 have hFl := Lib.hid (Trees.len_list F)
 have hsm := (flatq_small k F).2
 rw [hL] at hsm
 have hfl := Trees.len_size F
 have HM := Lib.hid (orow_made P w)
 clear ht hL
 go_enter Tryz.func81, Tryz.ntmps81
 go_wp2
 go_loopw [5, 6] (fun u i wr => ∃ j : Nat, i = .int .i64 (j : Int) ∧ j ≤ F.len ∧ Hid (QRow P w.heap.size w ((F.list.take j).flatMap (flatQ k)) u wr)) (fun _ i _ => F.len - (intOf i).toNat)
 case atStart => exact ⟨0, rfl, Nat.zero_le _, HM⟩
 case round =>
  clear HM
  obtain ⟨j, rfl, hk, HR⟩ := hrel
  by_cases hlt : j < F.len
  ·obtain ⟨z, hz⟩ : ∃ z, F.list[j]? = some z := ⟨_, List.getElem?_eq_getElem (by rw [hFl.out]; exact hlt)⟩
   have htk := sflat_take (g := flatQ k) hz
   have hle := sflat_len (l := F.list) (g := flatQ k) (j + 1)
   rw [htk, List.length_append, HL.out] at hle
   have HTk := Lib.hid htk
   obtain ⟨b, o, C, capc, rfl, hbb, hck, ⟨c0, c1, c2, c3, c4, c5, c6, c7⟩, hkz⟩ := (HT.out.below HR.out.2.1).get hz
   have hdl : (j : Int) < (F.len : Int) := by omega
   have hbl := World.block_lt_of_cell? wr _ c0
   have hown := HR.out.own
   clear hz htk
   generalize (F.list.take j).flatMap (flatQ k) = acc at *
   by_cases hkk : z.kind = k
   ·have hd : (z.kind == k) = true := by rw [beq_iff_eq]; exact hkk
    have hfz : flatQ k z = z.kids.list := by unfold flatQ; rw [if_pos hkk]
    rw [hfz] at HTk hle
    rw [Trees.len_list] at hle
    obtain ⟨v5, w5, hrun, hrow5, _⟩ := HR.out.appends capc (hkz.weak (fun b h _ => ⟨h, fun e => by have := (hown _ e.symm).1; have := hP b h; omega⟩)) (by omega) 26 26 Tryz.underlying26
    have HR5 := Lib.hid hrow5
    clear hkk hfz hkz hrow5 HR hown hle
    go_wp2_with (at_builtin; refine wpList_append_by rfl _ _ 26 26 rfl _ _ _ _ rfl rfl hrun ?_)
    clear hrun
    go_light
    go_roundw
    case rel => exact ⟨j + 1, by go_num, by omega, Lib.hid (by rw [HTk.out]; exact HR5.out)⟩
    case measure => simp [intOf]; omega
   ·have hd : (z.kind == k) = false := by rw [beq_eq_false_iff_ne]; exact hkk
    have hfz : flatQ k z = [z] := by unfold flatQ; rw [if_neg hkk]
    rw [hfz] at HTk hle
    obtain ⟨v5, w5, hrun, hrow5⟩ := HR.out.one hck (hkz.weak (fun b h _ => ⟨h, fun e => by have := (hown _ e.symm).1; have := hP b h; omega⟩)) (by simp at hle; omega)
    have HR5 := Lib.hid hrow5
    unfold ndA at hrun
    clear hkk hfz hkz hrow5 HR hown hle hck
    go_wp2_with (at_builtin; refine wpList_append_by rfl _ _ 26 26 rfl _ _ _ _ rfl rfl hrun ?_)
    clear hrun
    go_light
    go_roundw
    case rel => exact ⟨j + 1, by go_num, by omega, Lib.hid (by rw [HTk.out]; exact HR5.out)⟩
    case measure => simp [intOf]; omega
  ·have hdl : ¬ (j : Int) < (F.len : Int) := by omega
   obtain rfl : j = F.len := by omega
   have hta : F.list.take F.len = F.list := by rw [← hFl.out]; exact List.take_length
   rw [hta, HL.out] at HR
   obtain ⟨A5, cap5, rfl, hc5, ht5⟩ := HR.out.trees
   have HB5 := Lib.hid HR.out.2.1
   have HT5 := Lib.hid ht5
   clear HR ht5 hta
   go_wp2
   go_light
   go_ret
   exact ⟨A5, cap5, rfl, HB5.out, hc5, HT5.out⟩
end Go.Proofs.YtofbfafnpdaejaaGreatDoor
