/- Texts of the claim. -/
import Derived.Test.YtofbfafnpdaejaaGreatDoorJSimE
import Derived.Test.YtofbfafnpdaejaaGreatDoorJZ03
set_option linter.all false
set_option maxRecDepth 100000
set_option maxHeartbeats 8000000
namespace Go.Proofs.YtofbfafnpdaejaaGreatDoor
open Go.RowKit
def USameD (n : Nat) : Prop := ∀ (x y : Nd) (P P' : Nat → Prop) (B B' : Option Addr) (cap cap' : Nat) (w : World), x.size ≤ n → x.size ≤ 100000000 → y.size ≤ 100000000 → FitT x → FitT y → TreesAt w P x.kids B → TreesAt w P' y.kids B' →
 Calls Tryz.prog 25 #[ndV x B cap, ndV y B' cap'] w fun e w' => e = .returned (.bool (sameN x y)) ∧ Below w.heap.size w w'
theorem us_kind (x y : Nd) (B B' : Option Addr) (cap cap' : Nat) (w : World) (hk : (x.kind != y.kind) = true) : Calls Tryz.prog 25 #[ndV x B cap, ndV y B' cap'] w fun e w' => e = .returned (.bool false) ∧ Below w.heap.size w w' := by
 have HB := Lib.hid (show Below w.heap.size w ((w.alloc (.cells (ndA x B cap) 28)).alloc (.cells (ndA y B' cap') 28)) from ((Below.refl _ _).alloc (Nat.le_refl _) _).alloc (by simp) _)
 unfold ndV
 go_enter Tryz.func25, Tryz.ntmps25
 go_wp2
 go_light
 go_ret
 exact ⟨rfl, HB.out⟩
theorem us_set0 (x y : Nd) (B B' : Option Addr) (cap cap' : Nat) (w : World) (hk : (x.kind != y.kind) = false) (h0 : (((word x.set.testBit 0 : Nat) : Int) == ((word y.set.testBit 0 : Nat) : Int)) = false) : Calls Tryz.prog 25 #[ndV x B cap, ndV y B' cap'] w fun e w' => e = .returned (.bool false) ∧ Below w.heap.size w w' := by
 have HB := Lib.hid (show Below w.heap.size w ((w.alloc (.cells (ndA x B cap) 28)).alloc (.cells (ndA y B' cap') 28)) from ((Below.refl _ _).alloc (Nat.le_refl _) _).alloc (by simp) _)
 unfold ndV
 go_enter Tryz.func25, Tryz.ntmps25
 go_wp2
 go_light
 go_ret
 exact ⟨rfl, HB.out⟩
theorem us_set1 (x y : Nd) (B B' : Option Addr) (cap cap' : Nat) (w : World) (hk : (x.kind != y.kind) = false) (h0 : (((word x.set.testBit 0 : Nat) : Int) == ((word y.set.testBit 0 : Nat) : Int)) = true) (h1 : (((word x.set.testBit 1 : Nat) : Int) == ((word y.set.testBit 1 : Nat) : Int)) = false) : Calls Tryz.prog 25 #[ndV x B cap, ndV y B' cap'] w fun e w' => e = .returned (.bool false) ∧ Below w.heap.size w w' := by
 have HB := Lib.hid (show Below w.heap.size w ((w.alloc (.cells (ndA x B cap) 28)).alloc (.cells (ndA y B' cap') 28)) from ((Below.refl _ _).alloc (Nat.le_refl _) _).alloc (by simp) _)
 unfold ndV
 go_enter Tryz.func25, Tryz.ntmps25
 go_wp2
 go_light
 go_ret
 exact ⟨rfl, HB.out⟩
theorem us_set2 (x y : Nd) (B B' : Option Addr) (cap cap' : Nat) (w : World) (hk : (x.kind != y.kind) = false) (h0 : (((word x.set.testBit 0 : Nat) : Int) == ((word y.set.testBit 0 : Nat) : Int)) = true) (h1 : (((word x.set.testBit 1 : Nat) : Int) == ((word y.set.testBit 1 : Nat) : Int)) = true) (h2 : (((word x.set.testBit 2 : Nat) : Int) == ((word y.set.testBit 2 : Nat) : Int)) = false) : Calls Tryz.prog 25 #[ndV x B cap, ndV y B' cap'] w fun e w' => e = .returned (.bool false) ∧ Below w.heap.size w w' := by
 have HB := Lib.hid (show Below w.heap.size w ((w.alloc (.cells (ndA x B cap) 28)).alloc (.cells (ndA y B' cap') 28)) from ((Below.refl _ _).alloc (Nat.le_refl _) _).alloc (by simp) _)
 unfold ndV
 go_enter Tryz.func25, Tryz.ntmps25
 go_wp2
 go_light
 go_ret
 exact ⟨rfl, HB.out⟩
theorem us_set3 (x y : Nd) (B B' : Option Addr) (cap cap' : Nat) (w : World) (hk : (x.kind != y.kind) = false) (h0 : (((word x.set.testBit 0 : Nat) : Int) == ((word y.set.testBit 0 : Nat) : Int)) = true) (h1 : (((word x.set.testBit 1 : Nat) : Int) == ((word y.set.testBit 1 : Nat) : Int)) = true) (h2 : (((word x.set.testBit 2 : Nat) : Int) == ((word y.set.testBit 2 : Nat) : Int)) = true) (h3 : (((word x.set.testBit 3 : Nat) : Int) == ((word y.set.testBit 3 : Nat) : Int)) = false) : Calls Tryz.prog 25 #[ndV x B cap, ndV y B' cap'] w fun e w' => e = .returned (.bool false) ∧ Below w.heap.size w w' := by
 have HB := Lib.hid (show Below w.heap.size w ((w.alloc (.cells (ndA x B cap) 28)).alloc (.cells (ndA y B' cap') 28)) from ((Below.refl _ _).alloc (Nat.le_refl _) _).alloc (by simp) _)
 unfold ndV
 go_enter Tryz.func25, Tryz.ntmps25
 go_wp2
 go_light
 go_ret
 exact ⟨rfl, HB.out⟩
theorem us_lo (x y : Nd) (B B' : Option Addr) (cap cap' : Nat) (w : World) (hk : (x.kind != y.kind) = false) (h0 : (((word x.set.testBit 0 : Nat) : Int) == ((word y.set.testBit 0 : Nat) : Int)) = true) (h1 : (((word x.set.testBit 1 : Nat) : Int) == ((word y.set.testBit 1 : Nat) : Int)) = true) (h2 : (((word x.set.testBit 2 : Nat) : Int) == ((word y.set.testBit 2 : Nat) : Int)) = true) (h3 : (((word x.set.testBit 3 : Nat) : Int) == ((word y.set.testBit 3 : Nat) : Int)) = true) (hl : (x.lo != y.lo) = true) : Calls Tryz.prog 25 #[ndV x B cap, ndV y B' cap'] w fun e w' => e = .returned (.bool false) ∧ Below w.heap.size w w' := by
 have HB := Lib.hid (show Below w.heap.size w ((w.alloc (.cells (ndA x B cap) 28)).alloc (.cells (ndA y B' cap') 28)) from ((Below.refl _ _).alloc (Nat.le_refl _) _).alloc (by simp) _)
 unfold ndV
 go_enter Tryz.func25, Tryz.ntmps25
 go_wp2
 go_light
 go_ret
 exact ⟨rfl, HB.out⟩
theorem us_hi (x y : Nd) (B B' : Option Addr) (cap cap' : Nat) (w : World) (hk : (x.kind != y.kind) = false) (h0 : (((word x.set.testBit 0 : Nat) : Int) == ((word y.set.testBit 0 : Nat) : Int)) = true) (h1 : (((word x.set.testBit 1 : Nat) : Int) == ((word y.set.testBit 1 : Nat) : Int)) = true) (h2 : (((word x.set.testBit 2 : Nat) : Int) == ((word y.set.testBit 2 : Nat) : Int)) = true) (h3 : (((word x.set.testBit 3 : Nat) : Int) == ((word y.set.testBit 3 : Nat) : Int)) = true) (hl : (x.lo != y.lo) = false) (hh : (x.hi != y.hi) = true) : Calls Tryz.prog 25 #[ndV x B cap, ndV y B' cap'] w fun e w' => e = .returned (.bool false) ∧ Below w.heap.size w w' := by
 have HB := Lib.hid (show Below w.heap.size w ((w.alloc (.cells (ndA x B cap) 28)).alloc (.cells (ndA y B' cap') 28)) from ((Below.refl _ _).alloc (Nat.le_refl _) _).alloc (by simp) _)
 unfold ndV
 go_enter Tryz.func25, Tryz.ntmps25
 go_wp2
 go_light
 go_ret
 exact ⟨rfl, HB.out⟩
theorem us_len (x y : Nd) (B B' : Option Addr) (cap cap' : Nat) (w : World) (hk : (x.kind != y.kind) = false) (h0 : (((word x.set.testBit 0 : Nat) : Int) == ((word y.set.testBit 0 : Nat) : Int)) = true) (h1 : (((word x.set.testBit 1 : Nat) : Int) == ((word y.set.testBit 1 : Nat) : Int)) = true) (h2 : (((word x.set.testBit 2 : Nat) : Int) == ((word y.set.testBit 2 : Nat) : Int)) = true) (h3 : (((word x.set.testBit 3 : Nat) : Int) == ((word y.set.testBit 3 : Nat) : Int)) = true) (hl : (x.lo != y.lo) = false) (hh : (x.hi != y.hi) = false) (hn : ((x.kids.len : Int) != (y.kids.len : Int)) = true) : Calls Tryz.prog 25 #[ndV x B cap, ndV y B' cap'] w fun e w' => e = .returned (.bool false) ∧ Below w.heap.size w w' := by
 have HB := Lib.hid (show Below w.heap.size w ((w.alloc (.cells (ndA x B cap) 28)).alloc (.cells (ndA y B' cap') 28)) from ((Below.refl _ _).alloc (Nat.le_refl _) _).alloc (by simp) _)
 unfold ndV
 go_enter Tryz.func25, Tryz.ntmps25
 go_wp2
 go_light
 go_ret
 exact ⟨rfl, HB.out⟩
theorem us_kids {n : Nat} (ih : USameD n) (x y : Nd) (B B' : Option Addr) (cap cap' : Nat) (w : World) (P P' : Nat → Prop) (hsz : x.size ≤ n + 1) (hlen : x.size ≤ 100000000) (hlen' : y.size ≤ 100000000) (hf : FitT x) (hg : FitT y) (ht : TreesAt w P x.kids B) (ht' : TreesAt w P' y.kids B') (hk : (x.kind != y.kind) = false) (h0 : (((word x.set.testBit 0 : Nat) : Int) == ((word y.set.testBit 0 : Nat) : Int)) = true) (h1 : (((word x.set.testBit 1 : Nat) : Int) == ((word y.set.testBit 1 : Nat) : Int)) = true) (h2 : (((word x.set.testBit 2 : Nat) : Int) == ((word y.set.testBit 2 : Nat) : Int)) = true) (h3 : (((word x.set.testBit 3 : Nat) : Int) == ((word y.set.testBit 3 : Nat) : Int)) = true) (hl : (x.lo != y.lo) = false) (hh : (x.hi != y.hi) = false) (hn : x.kids.len = y.kids.len) :
  Calls Tryz.prog 25 #[ndV x B cap, ndV y B' cap'] w fun e w' => e = .returned (.bool (sameF x.kids y.kids)) ∧ Below w.heap.size w w' := by
 have hb2 : Below w.heap.size w ((w.alloc (.cells (ndA x B cap) 28)).alloc (.cells (ndA y B' cap') 28)) := ((Below.refl _ _).alloc (Nat.le_refl _) _).alloc (by simp) _
 have hX2 : Blk ((w.alloc (.cells (ndA x B cap) 28)).alloc (.cells (ndA y B' cap') 28)) w.heap.size 28 (ndA x B cap) := (Blk.new _ _ _).alloc _
 have hY2 : Blk ((w.alloc (.cells (ndA x B cap) 28)).alloc (.cells (ndA y B' cap') 28)) (w.heap.size + 1) 28 (ndA y B' cap') := Blk.new_at (by simp)
 have H0 := Lib.hid (show Blk _ _ _ _ ∧ Blk _ _ _ _ ∧ Below _ _ _ from ⟨hX2, hY2, hb2⟩)
 have HT := Lib.hid ht
 have HT' := Lib.hid ht'
 have HFX := Lib.hid hf.kids
 have HFY := Lib.hid hg.kids
 have hlk : x.kids.len ≤ 100000000 := by have := Trees.len_size x.kids; unfold Nd.size at hlen; omega
 have hnn : ((x.kids.len : Int) != (y.kids.len : Int)) = false := by rw [bne_eq_false_iff_eq]; omega
 have HN := Lib.hid hn
 clear ht ht' hb2 hX2 hY2 hf hg hn
 unfold ndV
 go_enter Tryz.func25, Tryz.ntmps25
 go_wp2
 go_loopw [5] (fun i wr => ∃ k : Nat, i = .int .i64 (k : Int) ∧ k ≤ x.kids.len ∧ Hid (∀ (j : Nat) (a b : Nd), j < k → x.kids.list[j]? = some a → y.kids.list[j]? = some b → a = b) ∧ Hid (Blk wr w.heap.size 28 (ndA x B cap) ∧ Blk wr (w.heap.size + 1) 28 (ndA y B' cap') ∧ Below w.heap.size w wr)) (fun i _ => x.kids.len - (intOf i).toNat)
 case atStart => exact ⟨0, rfl, Nat.zero_le _, Lib.hid (fun j a b hj => by omega), H0⟩
 case round =>
  clear H0 hk hl hh hnn h0 h1 h2 h3
  obtain ⟨k, rfl, hk, HE, HH⟩ := hrel
  have hX := HH.out.1
  have hY := HH.out.2.1
  have px0 : wr.cell? ⟨w.heap.size, 0, none⟩ = some (.int .i64 x.kind) := hX.cell 0
  have px1 : wr.cell? ⟨w.heap.size, 1, none⟩ = some (.int .u64 (word x.set.testBit 0)) := hX.cell 1
  have px2 : wr.cell? ⟨w.heap.size, 2, none⟩ = some (.int .u64 (word x.set.testBit 1)) := hX.cell 2
  have px3 : wr.cell? ⟨w.heap.size, 3, none⟩ = some (.int .u64 (word x.set.testBit 2)) := hX.cell 3
  have px4 : wr.cell? ⟨w.heap.size, 4, none⟩ = some (.int .u64 (word x.set.testBit 3)) := hX.cell 4
  have px5 : wr.cell? ⟨w.heap.size, 5, none⟩ = some (.slice B x.kids.len cap) := hX.cell 5
  have px6 : wr.cell? ⟨w.heap.size, 6, none⟩ = some (.int .i64 x.lo) := hX.cell 6
  have px7 : wr.cell? ⟨w.heap.size, 7, none⟩ = some (.int .i64 x.hi) := hX.cell 7
  have qx0 : wr.cell? ⟨w.heap.size + 1, 0, none⟩ = some (.int .i64 y.kind) := hY.cell 0
  have qx1 : wr.cell? ⟨w.heap.size + 1, 1, none⟩ = some (.int .u64 (word y.set.testBit 0)) := hY.cell 1
  have qx2 : wr.cell? ⟨w.heap.size + 1, 2, none⟩ = some (.int .u64 (word y.set.testBit 1)) := hY.cell 2
  have qx3 : wr.cell? ⟨w.heap.size + 1, 3, none⟩ = some (.int .u64 (word y.set.testBit 2)) := hY.cell 3
  have qx4 : wr.cell? ⟨w.heap.size + 1, 4, none⟩ = some (.int .u64 (word y.set.testBit 3)) := hY.cell 4
  have qx5 : wr.cell? ⟨w.heap.size + 1, 5, none⟩ = some (.slice B' y.kids.len cap') := hY.cell 5
  have qx6 : wr.cell? ⟨w.heap.size + 1, 6, none⟩ = some (.int .i64 y.lo) := hY.cell 6
  have qx7 : wr.cell? ⟨w.heap.size + 1, 7, none⟩ = some (.int .i64 y.hi) := hY.cell 7
  clear hX hY
  by_cases hlt : k < x.kids.len
  ·obtain ⟨z, hz⟩ : ∃ z, x.kids.list[k]? = some z := ⟨_, List.getElem?_eq_getElem (by rw [Trees.len_list]; exact hlt)⟩
   obtain ⟨v, hv⟩ : ∃ v, y.kids.list[k]? = some v := ⟨_, List.getElem?_eq_getElem (by rw [Trees.len_list, ← HN.out]; exact hlt)⟩
   have hzs := Trees.size_get x.kids k z hz
   have hvs := Trees.size_get y.kids k v hv
   obtain ⟨b, o, C, capc, rfl, _, _, ⟨c0, c1, c2, c3, c4, c5, c6, c7⟩, hkz⟩ := (HT.out.keep (Q := P) (fun b o _ hl => HH.out.2.2.cell (p := ⟨b, o, none⟩) hl) (fun _ h _ => h)).get hz
   obtain ⟨b', o', C', capc', rfl, _, _, ⟨d0, d1, d2, d3, d4, d5, d6, d7⟩, hkz'⟩ := (HT'.out.keep (Q := P') (fun b o _ hl => HH.out.2.2.cell (p := ⟨b, o, none⟩) hl) (fun _ h _ => h)).get hv
   have hdl : (k : Int) < (x.kids.len : Int) := by omega
   have hdg : (k : Int) < (y.kids.len : Int) := by have := HN.out; omega
   have hzz : z.size ≤ n ∧ z.size ≤ 100000000 ∧ v.size ≤ 100000000 := by unfold Nd.size at hsz hlen hlen'; omega
   have HI := Lib.hid (ih z v P P' C C' capc capc' wr.drew hzz.1 hzz.2.1 hzz.2.2 (HFX.out.get (List.mem_of_getElem? hz)) (HFY.out.get (List.mem_of_getElem? hv)) (hkz.below (Below.refl _ _).drew) (hkz'.below (Below.refl _ _).drew))
   have hbl := World.block_lt_of_cell? wr _ c0
   have hbl' := World.block_lt_of_cell? wr _ d0
   have HZY := Lib.hid (show _ ∧ _ from ⟨hz, hv⟩)
   clear hz hv hzs hvs hkz hkz' hsz hlen hlen' hzz
   go_wp2
   go_still_tail 10, (by kernel_rfl)
   change wpList _ _ _ _ _ wr.drew
   clear c0 c1 c2 c3 c4 c5 c6 c7 d0 d1 d2 d3 d4 d5 d6 d7
   unfold ndV at HI
   cases hs : sameN z v with
   | true =>
    rw [hs] at HI
    have HV := Lib.hid (sameN_iff.1 hs)
    clear hs
    go_wp2_with fail
    refine HI.out.mono ?_
    rintro e w3 ⟨rfl, hb3⟩
    have HH3 := Lib.hid (show Blk _ _ _ _ ∧ Blk _ _ _ _ ∧ Below _ _ _ from ⟨HH.out.1.drew.below hb3 HH.out.1.drew.lt, HH.out.2.1.drew.below hb3 HH.out.2.1.drew.lt, HH.out.2.2.drew.trans (hb3.mono HH.out.2.2.drew.size)⟩)
    clear hb3 HI
    go_wp2
    go_roundw
    case rel => exact ⟨k + 1, by go_num, by omega, Lib.hid (fun j a b hj ha hb => by
     rcases Nat.lt_or_ge j k with h | h
     ·exact HE.out j a b h ha hb
     ·obtain rfl : j = k := by omega
      rw [HZY.out.1] at ha
      rw [HZY.out.2] at hb
      cases ha
      cases hb
      exact HV.out), HH3⟩
    case measure => simp [intOf]; omega
   | false =>
    rw [hs] at HI
    have HV := Lib.hid (show sameF x.kids y.kids = false from sameF_no (fun e => by
     have h2 := HZY.out.2
     rw [← e, HZY.out.1] at h2
     cases h2
     rw [sameN_self] at hs
     cases hs))
    clear hs
    go_wp2_with fail
    refine HI.out.mono ?_
    rintro e w3 ⟨rfl, hb3⟩
    have HB3 := Lib.hid (HH.out.2.2.drew.trans (hb3.mono HH.out.2.2.drew.size))
    clear hb3 HI
    go_wp2
    go_light
    go_ret
    exact ⟨by rw [HV.out]; rfl, HB3.out⟩
  ·have hdl : ¬ (k : Int) < (x.kids.len : Int) := by omega
   have HV := Lib.hid (show sameF x.kids y.kids = true from sameF_iff.2 (lists_same HN.out (fun i a b ha hb => HE.out i a b (by
    have := (List.getElem?_eq_some_iff.1 ha).1
    rw [Trees.len_list] at this
    omega) ha hb)))
   go_wp2
   go_light
   go_ret
   exact ⟨by rw [HV.out]; rfl, HH.out.2.2⟩
theorem usamed_step {n : Nat} (ih : USameD n) : USameD (n + 1) := by
 intro x y P P' B B' cap cap' w hsz hlen hlen' hf hg ht ht'
 cases hk : (x.kind != y.kind) with
 | true =>
  rw [sameN_no (fun e => by rw [e] at hk; simp at hk)]
  exact us_kind x y B B' cap cap' w hk
 | false =>
 cases h0 : (((word x.set.testBit 0 : Nat) : Int) == ((word y.set.testBit 0 : Nat) : Int)) with
 | false =>
  rw [sameN_no (fun e => word_ne_of_b h0 (by rw [e]))]
  exact us_set0 x y B B' cap cap' w hk h0
 | true =>
 cases h1 : (((word x.set.testBit 1 : Nat) : Int) == ((word y.set.testBit 1 : Nat) : Int)) with
 | false =>
  rw [sameN_no (fun e => word_ne_of_b h1 (by rw [e]))]
  exact us_set1 x y B B' cap cap' w hk h0 h1
 | true =>
 cases h2 : (((word x.set.testBit 2 : Nat) : Int) == ((word y.set.testBit 2 : Nat) : Int)) with
 | false =>
  rw [sameN_no (fun e => word_ne_of_b h2 (by rw [e]))]
  exact us_set2 x y B B' cap cap' w hk h0 h1 h2
 | true =>
 cases h3 : (((word x.set.testBit 3 : Nat) : Int) == ((word y.set.testBit 3 : Nat) : Int)) with
 | false =>
  rw [sameN_no (fun e => word_ne_of_b h3 (by rw [e]))]
  exact us_set3 x y B B' cap cap' w hk h0 h1 h2 h3
 | true =>
 cases hl : (x.lo != y.lo) with
 | true =>
  rw [sameN_no (fun e => by rw [e] at hl; simp at hl)]
  exact us_lo x y B B' cap cap' w hk h0 h1 h2 h3 hl
 | false =>
 cases hh : (x.hi != y.hi) with
 | true =>
  rw [sameN_no (fun e => by rw [e] at hh; simp at hh)]
  exact us_hi x y B B' cap cap' w hk h0 h1 h2 h3 hl hh
 | false =>
  have hset : x.set = y.set := words_same (hf x List.mem_cons_self) (hg y List.mem_cons_self) (fun i hi => by
   rcases (by omega : i = 0 ∨ i = 1 ∨ i = 2 ∨ i = 3) with rfl | rfl | rfl | rfl
   ·exact word_eq_of_b h0
   ·exact word_eq_of_b h1
   ·exact word_eq_of_b h2
   ·exact word_eq_of_b h3)
  have hv : sameN x y = sameF x.kids y.kids := by
   cases hs : sameF x.kids y.kids with
   | true => exact sameN_iff.2 (nd_same (by rw [bne_eq_false_iff_eq] at hk; exact hk) hset (by rw [bne_eq_false_iff_eq] at hl; exact hl) (by rw [bne_eq_false_iff_eq] at hh; exact hh) (sameF_iff.1 hs))
   | false => exact sameN_no (fun e => by
     rw [sameF_iff.2 (by rw [e])] at hs
     cases hs)
  rw [hv]
  by_cases hn : x.kids.len = y.kids.len
  ·exact us_kids ih x y B B' cap cap' w P P' hsz hlen hlen' hf hg ht ht' hk h0 h1 h2 h3 hl hh hn
  ·rw [sameF_no (fun e => hn (by rw [e]))]
   exact us_len x y B B' cap cap' w hk h0 h1 h2 h3 hl hh (by rw [bne_iff_ne]; omega)
theorem usamed_go (x y : Nd) (P P' : Nat → Prop) (B B' : Option Addr) (cap cap' : Nat) (w : World) (hx : x.size ≤ 100000000) (hy : y.size ≤ 100000000) (fx : FitT x) (fy : FitT y) (ht : TreesAt w P x.kids B) (ht' : TreesAt w P' y.kids B') :
  Calls Tryz.prog 25 #[ndV x B cap, ndV y B' cap'] w fun e w' => e = .returned (.bool (sameN x y)) ∧ Below w.heap.size w w' := by
 have h : ∀ n, USameD n := by
  intro n
  induction n with
  | zero => exact fun x _ _ _ _ _ _ _ _ h => by unfold Nd.size at h; omega
  | succ n ih => exact usamed_step ih
 exact h x.size x y P P' B B' cap cap' w (Nat.le_refl _) hx hy fx fy ht ht'
end Go.Proofs.YtofbfafnpdaejaaGreatDoor
