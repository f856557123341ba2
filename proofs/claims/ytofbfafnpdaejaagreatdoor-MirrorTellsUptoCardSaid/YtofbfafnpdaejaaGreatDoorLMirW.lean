/- Texts of the claim. -/
import Derived.Test.YtofbfafnpdaejaaGreatDoorLZ04
import Derived.Test.YtofbfafnpdaejaaGreatDoorLZ01
namespace Go.Proofs.YtofbfafnpdaejaaGreatDoor
open Go.RowKit
set_option linter.unusedSimpArgs false
set_option linter.unusedVariables false
set_option maxRecDepth 100000
set_option maxHeartbeats 8000000
def bcells (bs : List Nat) : List Value := bs.map fun n : Nat => Value.int .u8 (n : Int)
theorem revb_start {w : World} {base g cap : Nat} {bs : List Nat} (h : w.ownsRow base 5 1 (.slice (some ⟨g, 0, none⟩) bs.length cap) bs.length (bcells bs)) : RevB w g bs 0 w := by
 rcases h.2 with ⟨h0, _⟩ | ⟨g', cap', cur, hv, _, hb, hle, _, hsz, htk⟩
 ·cases h0
 ·obtain ⟨⟨rfl⟩, _, rfl⟩ := Value.slice.inj hv
  refine ⟨cur, hb, by omega, fun p hp => ?_, ⟨rfl, rfl, rfl, Nat.le_refl _, fun _ _ _ => rfl⟩⟩
  rw [revAt_zero bs hp]
  have : (bcells bs)[p]? = (bs[p]?).map fun n : Nat => Value.int .u8 (n : Int) := by unfold bcells; rw [List.getElem?_map]
  rw [← this, ← htk, List.getElem?_take, if_pos (by omega)]
  simp
theorem revb_bytes {w0 w : World} {g i : Nat} {bs : List Nat} (h : RevB w0 g bs i w) (hi : ¬ i < bs.length - 1 - i) (hb : ∀ x ∈ bs, x < 256) (hl : bs.length ≤ 140737488355328) : BytesAt w w.heap.size (some ⟨g, 0, none⟩) bs.reverse := by
 obtain ⟨cur, h1, h2, h3, h4⟩ := h
 refine ⟨fun x hx => hb x (List.mem_reverse.1 hx), by simpa using hl, fun _ => ⟨g, 0, rfl, h1.lt, fun p hp => ?_⟩⟩
 have hp' : p < bs.length := by simpa using hp
 have h5 := h3 p hp'
 rw [revAt_done bs hp' hi, List.getElem?_eq_getElem hp] at h5
 rw [Nat.zero_add, h1.cell p, h5, byteAt_get hp]
 rfl
theorem revb_nil (w : World) : Calls Tryz.prog 115 #[.slice none 0 0] w fun e w' => e = .returned (.tuple #[]) ∧ w' = w := by
 go_enter Tryz.func115, Tryz.ntmps115
 go_wp2
 go_loopw [2, 3] (fun a b wr => a = .int .i64 0 ∧ b = .int .i64 (-1) ∧ wr = w) (fun _ _ _ => 0)
 case atStart => exact ⟨rfl, rfl, rfl⟩
 case round =>
  obtain ⟨rfl, rfl, rfl⟩ := hrel
  go_wp2
  go_light
  go_end0
  exact ⟨rfl, rfl⟩
theorem cloneb_nil (c : Nat) (w : World) : Calls Tryz.prog 114 #[.slice none 0 c] w fun e w' => e = .returned (.slice none 0 0) ∧ w' = w := by
 have q26 : ∀ (w : World) (a : Option Addr) (n c n' c' : Nat), (binOp .eql 29 (.slice a n c) (.slice none n' c')).run Tryz.prog w = .ok (.bool a.isNone) w := fun w a n c n' c' => Lib.run_eql_slice_nil w _ _ a n c n' c' Tryz.underlying29
 go_enter Tryz.func114, Tryz.ntmps114
 go_wp2
 go_light
 go_ret
 exact ⟨rfl, rfl⟩
theorem cloneb_go (a : Addr) (bs : List Nat) (cap B : Nat) (w : World) (hA : BytesAt w B (some a) bs) :
  Calls Tryz.prog 114 #[.slice (some a) bs.length cap] w fun e w' => ∃ g cap', e = .returned (.slice (some ⟨g, 0, none⟩) bs.length cap') ∧ Below w.heap.size w w' ∧ w.heap.size ≤ g ∧
   w'.ownsRow w.heap.size 5 1 (.slice (some ⟨g, 0, none⟩) bs.length cap') bs.length (bcells bs) := by
 have hB1 : Below w.heap.size w (w.alloc (.cells #[] 5)) := (Below.refl _ _).alloc (Nat.le_refl _) _
 obtain ⟨i0, hi, hz0, hz1, hz2⟩ := info_parts info5
 have hat : ∀ j u, (bcells bs)[j]? = some u → (w.alloc (.cells #[] 5)).cell? (a.add j) = some u := fun j u hu => by
  have hj : j < bs.length := by have := (List.getElem?_eq_some_iff.1 hu).1; simpa [bcells] using this
  obtain ⟨b, o, ha, hlt, hc⟩ := hA.2.2 (by omega)
  obtain rfl := Option.some.inj ha
  have e : (⟨b, o, none⟩ : Addr).add j = ⟨b, o + j, none⟩ := by unfold Addr.add; split <;> simp_all
  have hbl := World.block_lt_of_cell? w _ (hc j hj)
  rw [e, hB1.cell (p := ⟨b, o + j, none⟩) hbl, hc j hj]
  unfold bcells at hu
  rw [List.getElem?_map, List.getElem?_eq_getElem hj, Option.map_some, byteAt_get hj] at hu
  exact hu
 obtain ⟨v', w', hr, hown, hgrow, hnn, hblk⟩ := run_append_own_at (P := Tryz.prog) (w.alloc (.cells #[] 5)) w.heap.size 29 29 5 i0 _ 1 1 Tryz.underlying29 hi hz0 hz1 hz2 rfl (by decide) (.slice (some ⟨w.heap.size, 0, none⟩) 0 0) 0 [] (World.ownsRow_made w #[] 0 (Nat.le_refl _) (Nat.zero_le _) rfl) a bs.length cap (bcells bs) (by simp [bcells]) hat (fun u hu => by obtain ⟨n, _, rfl⟩ := List.mem_map.1 hu; rfl) (by have := hA.2.1; unfold maxLen; omega) (by have := hA.2.1; omega) (by simp)
 have q26 : ∀ (w : World) (a : Option Addr) (n c n' c' : Nat), (binOp .eql 29 (.slice a n c) (.slice none n' c')).run Tryz.prog w = .ok (.bool a.isNone) w := fun w a n c n' c' => Lib.run_eql_slice_nil w _ _ a n c n' c' Tryz.underlying29
 have HR := Lib.hid hr
 have hB2 : Below w.heap.size w w' := hB1.grown hgrow (by simp) (fun k hk => by simp [Value.ownBlock] at hk; omega)
 rw [Nat.zero_add, List.nil_append] at hown
 have HQ := Lib.hid (show _ ∧ _ ∧ _ from ⟨hown, hB2, hnn⟩)
 clear hr hown hgrow hblk hB1 hA hB2 hat hnn
 go_enter Tryz.func114, Tryz.ntmps114
 go_wp2_with (at_builtin; refine wpList_append_by (by rfl) _ _ _ _ rfl _ _ _ _ rfl rfl HR.out ?_)
 go_light
 go_ret
 obtain ⟨hown, hB2, hnn⟩ := HQ.out
 rcases hown.2 with ⟨h0, _⟩ | ⟨g, c', cur, hv, hge, _⟩
 ·have := (hnn.1 h0).1
  cases this
 ·subst hv
  exact ⟨g, c', rfl, hB2, hge, hown⟩
theorem own_leW {w : World} {base size n m c : Nat} {e : TypeId} {A : Option Addr} {xs : List Value} (h : w.ownsRow base e size (.slice A m c) n xs) : m ≤ c := by
 rcases h.2 with ⟨h1, h2⟩ | ⟨g, cap, cur, h1, h2, h3⟩
 ·obtain ⟨_, rfl, rfl⟩ := Value.slice.inj h1
  exact Nat.le_refl _
 ·obtain ⟨_, rfl, rfl⟩ := Value.slice.inj h1
  exact h3.2.1
theorem turnedb_go (A : Option Addr) (bs : List Nat) (cap B : Nat) (w : World) (hA : BytesAt w B A bs) :
  Calls Tryz.prog 58 #[.slice A bs.length cap] w fun e w' => ∃ A' cap', e = .returned (.slice A' bs.reverse.length cap') ∧ Below w.heap.size w w' ∧ BytesAt w' w'.heap.size A' bs.reverse ∧ bs.length ≤ cap' := by
 cases A with
 | none =>
  have h0 : bs = [] := by
   cases bs with
   | nil => rfl
   | cons x l => obtain ⟨b, o, h, _⟩ := hA.2.2 (by simp); cases h
  subst h0
  clear hA
  show Calls Tryz.prog 58 #[.slice none 0 cap] w _
  go_enter Tryz.func58, Tryz.ntmps58
  go_wp2_with fail
  refine (cloneb_nil cap w).mono ?_
  rintro e w1 ⟨rfl, rfl⟩
  dsimp only
  go_wp2_with fail
  refine (revb_nil _).mono ?_
  rintro e w2 ⟨rfl, rfl⟩
  dsimp only
  go_wp2
  go_light
  go_ret
  exact ⟨none, 0, rfl, Below.refl _ _, ⟨by simp, by simp, fun h => by simp at h⟩, Nat.le_refl _⟩
 | some a =>
  have HC := Lib.hid (cloneb_go a bs cap B w hA)
  have HP := Lib.hid (show _ ∧ _ from ⟨hA.1, hA.2.1⟩)
  clear hA
  go_enter Tryz.func58, Tryz.ntmps58
  go_wp2_with fail
  refine HC.out.mono ?_
  rintro e w1 ⟨g, cap', rfl, hb1, hg, hown⟩
  have HR := Lib.hid (revb_go g cap' bs w1 (revb_start hown) HP.out.2)
  have HQ := Lib.hid (show _ ∧ _ from ⟨hb1, hg⟩)
  have HLE := Lib.hid (own_leW hown)
  clear hb1 hg hown HC
  dsimp only
  go_wp2_with fail
  refine HR.out.mono ?_
  rintro e w2 ⟨rfl, i, hrev, hi⟩
  have HV := Lib.hid (show _ ∧ _ from ⟨hrev, hi⟩)
  clear hrev hi HR
  dsimp only
  go_wp2
  go_light
  go_ret
  obtain ⟨hb1, hg⟩ := HQ.out
  obtain ⟨hrev, hi⟩ := HV.out
  have hgr : w1.grownBy w2 (some g) := by obtain ⟨_, _, _, _, h4⟩ := hrev; exact h4
  refine ⟨some ⟨g, 0, none⟩, cap', ?_, hb1.grown hgr hb1.size (fun k e => by have := Option.some.inj e; omega), revb_bytes hrev hi HP.out.1 HP.out.2, HLE.out⟩
  show Ending.returned (.slice (some ⟨g, 0, none⟩) bs.length cap') = _
  rw [List.length_reverse]
theorem word18_go (A : Option Addr) (bs : List Nat) (cap B : Nat) (w : World) (hA : BytesAt w B A bs) :
  Calls Tryz.prog 13 #[.slice A bs.length cap] w fun e w' => ∃ A' cap', e = .returned (.slice A' bs.reverse.length cap') ∧ Below w.heap.size w w' ∧ BytesAt w' w'.heap.size A' bs.reverse ∧ bs.length ≤ cap' := by
 have HC := Lib.hid (turnedb_go A bs cap B w hA)
 clear hA
 go_enter Tryz.func13, Tryz.ntmps13
 go_wp2_with fail
 refine HC.out.mono ?_
 rintro e w1 ⟨A', cap', rfl, hb1, hat⟩
 have HQ := Lib.hid (show _ ∧ _ from ⟨hb1, hat⟩)
 clear hb1 hat HC
 dsimp only
 go_wp2
 go_light
 go_ret
 exact ⟨A', cap', rfl, HQ.out.1, HQ.out.2⟩
end Go.Proofs.YtofbfafnpdaejaaGreatDoor
