/- Texts of the claim. -/
import Derived.Test.YtfekpkelmliejaaGreatDoorJZ02
namespace Go.Proofs.YtfekpkelmliejaaGreatDoor
open Go.RowKit
set_option linter.unusedSimpArgs false
set_option linter.unusedVariables false
set_option maxRecDepth 100000
set_option maxHeartbeats 8000000
def TSameC (n : Nat) : Prop := ∀ (x : Nd) (P P' : Nat → Prop) (B B' : Option Addr) (cap cap' : Nat) (w : World), x.size ≤ n → x.size ≤ 4611686018427387903 → TreesAt w P x.kids B → TreesAt w P' x.kids B' →
 Calls Tryz.prog 99 #[ndV x B cap, ndV x B' cap'] w fun e w' => e = .returned (.bool true) ∧ Below w.heap.size w w'
def TEqualC (n : Nat) : Prop := ∀ (F : Trees) (P P' : Nat → Prop) (B B' : Option Addr) (cap cap' : Nat) (w : World), F.size ≤ n → F.size ≤ 4611686018427387903 → TreesAt w P F B → TreesAt w P' F B' →
 Calls Tryz.prog 140 #[.slice B F.len cap, .slice B' F.len cap', .func (.func 99) #[] #[]] w fun e w' => e = .returned (.bool true) ∧ Below w.heap.size w w'
theorem tequal_step {n : Nat} (ih : TSameC n) : TEqualC n := by
 intro F P P' B B' cap cap' w hsz hlen ht ht'
 have HT := Lib.hid ht
 have HT' := Lib.hid ht'
 have hlk : F.len ≤ 4611686018427387903 := by have := Trees.len_size F; omega
 have hn : ((F.len : Int) != (F.len : Int)) = false := by simp
 clear ht ht'
 go_enter Tryz.func140, Tryz.ntmps140
 go_wp2
 go_loopw [17] (fun i wr => ∃ k : Nat, i = .int .i64 (k : Int) ∧ k ≤ F.len ∧ Hid (Below w.heap.size w wr)) (fun i _ => F.len - (intOf i).toNat)
 case atStart => exact ⟨0, rfl, Nat.zero_le _, Lib.hid (Below.refl _ _)⟩
 case round =>
  clear hn
  obtain ⟨k, rfl, hk, HB⟩ := hrel
  by_cases hlt : k < F.len
  ·obtain ⟨z, hz⟩ : ∃ z, F.list[k]? = some z := ⟨_, List.getElem?_eq_getElem (by rw [Trees.len_list]; exact hlt)⟩
   have hzs := Trees.size_get F k z hz
   obtain ⟨b, o, C, capc, rfl, _, _, ⟨c0, c1, c2, c3, c4, c5, c6, c7⟩, hkz⟩ := (HT.out.below HB.out).get hz
   obtain ⟨b', o', C', capc', rfl, _, _, ⟨d0, d1, d2, d3, d4, d5, d6, d7⟩, hkz'⟩ := (HT'.out.below HB.out).get hz
   have hdl : (k : Int) < (F.len : Int) := by omega
   have hbl := World.block_lt_of_cell? wr _ c0
   have hbl' := World.block_lt_of_cell? wr _ d0
   have hb2 : Below wr.heap.size wr ((wr.alloc (.cells (ndA z C capc) 28)).alloc (.cells (ndA z C' capc') 28)) := ((Below.refl _ _).alloc (Nat.le_refl _) _).alloc (by simp) _
   have HI := Lib.hid (ih z P P' C C' capc capc' _ (by omega) (by omega) (hkz.below hb2) (hkz'.below hb2))
   have HB2 := Lib.hid (HB.out.trans (hb2.mono HB.out.size))
   clear hz hzs hkz hkz' hsz hlen hb2
   unfold ndV at HI
   go_wp2_with fail
   refine HI.out.mono ?_
   rintro e w3 ⟨rfl, hb3⟩
   have HB3 := Lib.hid (HB2.out.trans (hb3.mono HB2.out.size))
   clear hb3 HI c0 c1 c2 c3 c4 c5 c6 c7 d0 d1 d2 d3 d4 d5 d6 d7
   dsimp only
   go_wp2
   go_roundw
   case rel => exact ⟨k + 1, by go_num, by omega, HB3⟩
   case measure => simp [intOf]; omega
  ·have hdl : ¬ (k : Int) < (F.len : Int) := by omega
   go_wp2
   go_light
   go_ret
   exact ⟨rfl, HB.out⟩
theorem tsame_step {n : Nat} (ih : TEqualC n) : TSameC (n + 1) := by
 intro x P P' B B' cap cap' w hsz hlen ht ht'
 have hb2 : Below w.heap.size w ((w.alloc (.cells (ndA x B cap) 28)).alloc (.cells (ndA x B' cap') 28)) := ((Below.refl _ _).alloc (Nat.le_refl _) _).alloc (by simp) _
 have HI := Lib.hid (ih x.kids P P' B B' cap cap' _ (by unfold Nd.size at hsz; omega) (by unfold Nd.size at hlen; omega) (ht.below hb2) (ht'.below hb2))
 have HB := Lib.hid hb2
 have hk : (x.kind != x.kind) = false := by simp
 have hl : (x.lo != x.lo) = false := by simp
 have hh : (x.hi != x.hi) = false := by simp
 have eb0 : (((word x.set.testBit 0 : Nat) : Int) == ((word x.set.testBit 0 : Nat) : Int)) = true := by simp
 have eb1 : (((word x.set.testBit 1 : Nat) : Int) == ((word x.set.testBit 1 : Nat) : Int)) = true := by simp
 have eb2 : (((word x.set.testBit 2 : Nat) : Int) == ((word x.set.testBit 2 : Nat) : Int)) = true := by simp
 have eb3 : (((word x.set.testBit 3 : Nat) : Int) == ((word x.set.testBit 3 : Nat) : Int)) = true := by simp
 clear ht ht' hb2 hsz hlen
 unfold ndV
 go_enter Tryz.func99, Tryz.ntmps99
 go_wp2_with fail
 refine HI.out.mono ?_
 rintro e w3 ⟨rfl, hb3⟩
 have HB3 := Lib.hid (HB.out.trans (hb3.mono HB.out.size))
 clear hb3 HI
 dsimp only
 go_wp2
 go_light
 go_ret
 exact ⟨rfl, HB3.out⟩
theorem tsame_go (x : Nd) (P P' : Nat → Prop) (B B' : Option Addr) (cap cap' : Nat) (w : World) (hlen : x.size ≤ 4611686018427387903) (ht : TreesAt w P x.kids B) (ht' : TreesAt w P' x.kids B') :
  Calls Tryz.prog 99 #[ndV x B cap, ndV x B' cap'] w fun e w' => e = .returned (.bool true) ∧ Below w.heap.size w w' := by
 have h : ∀ n, TSameC n := by
  intro n
  induction n with
  | zero => exact fun x _ _ _ _ _ _ _ h => by unfold Nd.size at h; omega
  | succ n ih => exact tsame_step (tequal_step ih)
 exact h x.size x P P' B B' cap cap' w (Nat.le_refl _) hlen ht ht'
end Go.Proofs.YtfekpkelmliejaaGreatDoor
