/- Texts of the claim. -/
import Derived.RangeFuncBox
import Derived.Maps.AppendAt
import Derived.Maps.OwnIn
import Derived.Lib.Hide
import Derived.Test.YtofbfafnpdaejaaGreatDoorKMatEd
namespace Go.Proofs.YtofbfafnpdaejaaGreatDoor
open Go.RowKit Go.Shelf Go.Maps
set_option linter.unusedSimpArgs false
set_option linter.unusedVariables false
set_option maxRecDepth 100000
set_option maxHeartbeats 8000000
attribute [local go_sem] Oper.semAt_some
noncomputable def fullB (x : Nd) (bs : List Nat) : Bool := findB x bs 0 bs.length
theorem pfull_any (x : Nd) (B : Option Addr) (cap : Nat) (V : Option Addr) (cv : Nat) (bs : List Nat) (w : World) (hsz : x.size ≤ 4611686018427387903) (hcap : x.kids.len ≤ cap) (ht : TreesAt w (fun b => b < w.heap.size) x.kids B) (hV : BytesAt w w.heap.size V bs) (hT : TabAt 0 Lib.deBruijn64tab w) (hg : 0 < w.heap.size) : Calls Tryz.prog 12 #[ndV x B cap, .slice V bs.length cv] w fun e w' => e = .returned (.bool (fullB x bs)) ∧ Below w.heap.size w w' := by
 have hX : Blk (w.alloc (.cells (ndA x B cap) 28)) w.heap.size 28 (ndA x B cap) := Blk.new w _ _
 have hal : Below w.heap.size w (w.alloc (.cells (ndA x B cap) 28)) := (Below.refl _ _).alloc (Nat.le_refl _) _
 have HF := Lib.hid (find_go x B cap V cv 0 bs (w.alloc (.cells (ndA x B cap) 28)) hsz hcap ((ht.below hal).weak (fun b h _ => Nat.lt_of_lt_of_le h hal.size)) ((hV.below hal).more hal.size) (TabAt.below hal hg hT) (Nat.lt_of_lt_of_le hg hal.size))
 have HAL := Lib.hid hal
 clear hal hT hV ht
 unfold ndV at HF ⊢
 unfold ndA at hX HF HAL
 obtain ⟨x0, x1, x2, x3, x4, x5, x6, x7⟩ : _ ∧ _ ∧ _ ∧ _ ∧ _ ∧ _ ∧ _ ∧ _ := ⟨hX.cell 0, hX.cell 1, hX.cell 2, hX.cell 3, hX.cell 4, hX.cell 5, hX.cell 6, hX.cell 7⟩
 simp only [List.getElem?_toArray, List.getElem?_cons_zero, List.getElem?_cons_succ] at x0 x1 x2 x3 x4 x5 x6 x7
 have lx := hX.lt
 clear hX
 by_cases he : errF x bs 0 = 0
 ·have HV := Lib.hid (show fullB x bs = findB x bs 0 bs.length from rfl)
  have hlen := (errF_zero he).2.1
  rw [he] at HF
  clear he
  go_enter Tryz.func12, Tryz.ntmps12
  go_wp2_with fail
  refine HF.out.mono ?_
  rintro e w1 ⟨rfl, hb1⟩
  have HB01 := Lib.hid (HAL.out.trans (hb1.mono HAL.out.size))
  have HP := Lib.hid (fun W => phas_go (findB x bs 0) bs.length (by omega) W)
  clear hb1 HF HAL x0 x1 x2 x3 x4 x5 x6 x7 lx
  dsimp only
  go_wp2_with fail
  refine (HP.out _).mono ?_
  rintro e w2 ⟨rfl, hb2⟩
  dsimp only
  go_wp2
  go_light
  go_ret
  exact ⟨by rw [HV.out]; rfl, HB01.out.trans ((((Below.refl w1.heap.size w1).alloc (Nat.le_refl _) _).trans (hb2.mono (by simp))).mono HB01.out.size)⟩
 ·have HV := Lib.hid (show fullB x bs = false from by unfold fullB; rw [findB_no he])
  have hbe : (errF x bs 0 == 0) = false := by simpa using he
  generalize errF x bs 0 = er at *
  go_enter Tryz.func12, Tryz.ntmps12
  go_wp2_with fail
  refine HF.out.mono ?_
  rintro e w1 ⟨rfl, hb1⟩
  have HB01 := Lib.hid (HAL.out.trans (hb1.mono HAL.out.size))
  clear hb1 HF HAL x0 x1 x2 x3 x4 x5 x6 x7 lx
  dsimp only
  go_wp2
  go_light
  go_ret
  exact ⟨by rw [HV.out]; rfl, HB01.out.trans (((Below.refl w1.heap.size w1).alloc (Nat.le_refl _) _).mono HB01.out.size)⟩
end Go.Proofs.YtofbfafnpdaejaaGreatDoor
