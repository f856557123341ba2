/-
  The contract of the reference's Same at two trees that are the same.
-/
import Derived.StillTailTactics
import Derived.Test.YtchfipjclbpomaaDoorQZ02
namespace Go.Proofs.YtchfipjclbpomaaDoor
open Go.RowKit
set_option linter.unusedSimpArgs false
set_option linter.unusedVariables false
set_option maxRecDepth 100000

def NSameC (n : Nat) : Prop := ∀ (x : Nd) (P P' : Nat → Prop) (B B' : Option Addr) (cap cap' : Nat) (w : World), x.size ≤ n → x.size ≤ 4611686018427387903 → TreesAt w P x.kids B → TreesAt w P' x.kids B' →
  Calls Tryd.prog 14 #[ndV x B cap, ndV x B' cap'] w fun e w' => e = .returned (.bool true) ∧ Below w.heap.size w w'
set_option maxHeartbeats 4000000 in
theorem nsame_step {n : Nat} (ih : NSameC n) : NSameC (n + 1) := by
  intro x P P' B B' cap cap' w hsz hlen ht ht'
  have hb2 : Below w.heap.size w ((w.alloc (.cells (ndA x B cap) 28)).alloc (.cells (ndA x B' cap') 28)) := ((Below.refl _ _).alloc (Nat.le_refl _) _).alloc (by simp) _
  have hX2 : Blk ((w.alloc (.cells (ndA x B cap) 28)).alloc (.cells (ndA x B' cap') 28)) w.heap.size 28 (ndA x B cap) := (Blk.new _ _ _).alloc _
  have hY2 : Blk ((w.alloc (.cells (ndA x B cap) 28)).alloc (.cells (ndA x B' cap') 28)) (w.heap.size + 1) 28 (ndA x B' cap') := Blk.new_at (by simp)
  have H0 := Lib.hid (show Blk _ _ _ _ ∧ Blk _ _ _ _ ∧ Below _ _ _ from ⟨hX2, hY2, hb2⟩)
  have HT := Lib.hid ht
  have HT' := Lib.hid ht'
  have hlk : x.kids.len ≤ 4611686018427387902 := by have := Trees.len_size x.kids; unfold Nd.size at hlen; omega
  have hk : (x.kind != x.kind) = false := by simp
  have hl : (x.lo != x.lo) = false := by simp
  have hh : (x.hi != x.hi) = false := by simp
  have hn : ((x.kids.len : Int) != (x.kids.len : Int)) = false := by simp
  have eb0 : (((word x.set.testBit 0 : Nat) : Int) == ((word x.set.testBit 0 : Nat) : Int)) = true := by simp
  have eb1 : (((word x.set.testBit 1 : Nat) : Int) == ((word x.set.testBit 1 : Nat) : Int)) = true := by simp
  have eb2 : (((word x.set.testBit 2 : Nat) : Int) == ((word x.set.testBit 2 : Nat) : Int)) = true := by simp
  have eb3 : (((word x.set.testBit 3 : Nat) : Int) == ((word x.set.testBit 3 : Nat) : Int)) = true := by simp
  clear ht ht' hb2 hX2 hY2
  unfold ndV
  go_enter Tryd.func14, Tryd.ntmps14
  go_wp2
  go_loopw [5] (fun i wr => ∃ k : Nat, i = .int .i64 (k : Int) ∧ k ≤ x.kids.len ∧ Hid (Blk wr w.heap.size 28 (ndA x B cap) ∧ Blk wr (w.heap.size + 1) 28 (ndA x B' cap') ∧ Below w.heap.size w wr)) (fun i _ => x.kids.len - (intOf i).toNat)
  case atStart => exact ⟨0, rfl, Nat.zero_le _, H0⟩
  case round =>
    clear H0 hk hl hh hn eb0 eb1 eb2 eb3
    obtain ⟨k, rfl, hk, HH⟩ := hrel
    have hX := HH.out.1
    have hY := HH.out.2.1
    have px0 : wr.cell? ⟨w.heap.size, 0, none⟩ = some (.int .i64 x.kind) := hX.cell 0
    have px1 : wr.cell? ⟨w.heap.size, 1, none⟩ = some (.int .u64 ((word x.set.testBit 0 : Nat) : Int)) := hX.cell 1
    have px2 : wr.cell? ⟨w.heap.size, 2, none⟩ = some (.int .u64 ((word x.set.testBit 1 : Nat) : Int)) := hX.cell 2
    have px3 : wr.cell? ⟨w.heap.size, 3, none⟩ = some (.int .u64 ((word x.set.testBit 2 : Nat) : Int)) := hX.cell 3
    have px4 : wr.cell? ⟨w.heap.size, 4, none⟩ = some (.int .u64 ((word x.set.testBit 3 : Nat) : Int)) := hX.cell 4
    have px5 : wr.cell? ⟨w.heap.size, 5, none⟩ = some (.slice B x.kids.len cap) := hX.cell 5
    have px6 : wr.cell? ⟨w.heap.size, 6, none⟩ = some (.int .i64 x.lo) := hX.cell 6
    have px7 : wr.cell? ⟨w.heap.size, 7, none⟩ = some (.int .i64 x.hi) := hX.cell 7
    have qx0 : wr.cell? ⟨w.heap.size + 1, 0, none⟩ = some (.int .i64 x.kind) := hY.cell 0
    have qx1 : wr.cell? ⟨w.heap.size + 1, 1, none⟩ = some (.int .u64 ((word x.set.testBit 0 : Nat) : Int)) := hY.cell 1
    have qx2 : wr.cell? ⟨w.heap.size + 1, 2, none⟩ = some (.int .u64 ((word x.set.testBit 1 : Nat) : Int)) := hY.cell 2
    have qx3 : wr.cell? ⟨w.heap.size + 1, 3, none⟩ = some (.int .u64 ((word x.set.testBit 2 : Nat) : Int)) := hY.cell 3
    have qx4 : wr.cell? ⟨w.heap.size + 1, 4, none⟩ = some (.int .u64 ((word x.set.testBit 3 : Nat) : Int)) := hY.cell 4
    have qx5 : wr.cell? ⟨w.heap.size + 1, 5, none⟩ = some (.slice B' x.kids.len cap') := hY.cell 5
    have qx6 : wr.cell? ⟨w.heap.size + 1, 6, none⟩ = some (.int .i64 x.lo) := hY.cell 6
    have qx7 : wr.cell? ⟨w.heap.size + 1, 7, none⟩ = some (.int .i64 x.hi) := hY.cell 7
    clear hX hY
    by_cases hlt : k < x.kids.len
    · obtain ⟨z, hz⟩ : ∃ z, x.kids.list[k]? = some z := ⟨_, List.getElem?_eq_getElem (by rw [Trees.len_list]; exact hlt)⟩
      have hzs := Trees.size_get x.kids k z hz
      have hzl := Trees.len_size z.kids
      obtain ⟨b, o, C, capc, rfl, _, _, ⟨c0, c1, c2, c3, c4, c5, c6, c7⟩, hkz⟩ := (HT.out.keep (Q := P) (fun b o _ hl => HH.out.2.2.cell (p := ⟨b, o, none⟩) hl) (fun _ h _ => h)).get hz
      obtain ⟨b', o', C', capc', rfl, _, _, ⟨d0, d1, d2, d3, d4, d5, d6, d7⟩, hkz'⟩ := (HT'.out.keep (Q := P') (fun b o _ hl => HH.out.2.2.cell (p := ⟨b, o, none⟩) hl) (fun _ h _ => h)).get hz
      have hdl : (k : Int) < (x.kids.len : Int) := by omega
      have hzz : z.size ≤ n ∧ z.size ≤ 4611686018427387903 := by unfold Nd.size at hsz hlen; omega
      have HI := Lib.hid (ih z P P' C C' capc capc' wr.drew hzz.1 hzz.2 (hkz.below (Below.refl _ _).drew) (hkz'.below (Below.refl _ _).drew))
      have hbl := World.block_lt_of_cell? wr _ c0
      have hbl' := World.block_lt_of_cell? wr _ d0
      clear hz hzs hzl hkz hkz' hsz hlen hzz
      go_wp2
      go_still_tail 10, (by kernel_rfl)
      change wpList _ _ _ _ _ wr.drew
      clear c0 c1 c2 c3 c4 c5 c6 c7 d0 d1 d2 d3 d4 d5 d6 d7
      unfold ndV at HI
      go_wp2_with fail
      refine HI.out.mono ?_
      rintro e w3 ⟨rfl, hb3⟩
      have HH3 := Lib.hid (show Blk _ _ _ _ ∧ Blk _ _ _ _ ∧ Below _ _ _ from ⟨HH.out.1.drew.below hb3 HH.out.1.drew.lt, HH.out.2.1.drew.below hb3 HH.out.2.1.drew.lt, HH.out.2.2.drew.trans (hb3.mono HH.out.2.2.drew.size)⟩)
      clear hb3 HI
      go_wp2
      go_roundw
      case rel => exact ⟨k + 1, by go_num, by omega, HH3⟩
      case measure => simp [intOf]; omega
    · have hdl : ¬ (k : Int) < (x.kids.len : Int) := by omega
      go_wp2
      go_light
      go_ret
      exact ⟨rfl, HH.out.2.2⟩

theorem nsame_go (x : Nd) (P P' : Nat → Prop) (B B' : Option Addr) (cap cap' : Nat) (w : World) (hlen : x.size ≤ 4611686018427387903) (ht : TreesAt w P x.kids B) (ht' : TreesAt w P' x.kids B') :
    Calls Tryd.prog 14 #[ndV x B cap, ndV x B' cap'] w fun e w' => e = .returned (.bool true) ∧ Below w.heap.size w w' := by
  have h : ∀ n, NSameC n := by
    intro n
    induction n with
    | zero => exact fun x _ _ _ _ _ _ _ h => by unfold Nd.size at h; omega
    | succ n ih => exact nsame_step ih
  exact h x.size x P P' B B' cap cap' w (Nat.le_refl _) hlen ht ht'

end Go.Proofs.YtchfipjclbpomaaDoor
