/- Texts of the claim. -/
import Derived.Test.YtofbfafnpdaejaaGreatDoorMMatN
import Derived.Test.YtofbfafnpdaejaaGreatDoorMZ03
namespace Go.Proofs.YtofbfafnpdaejaaGreatDoor
open Go.RowKit
set_option linter.unusedSimpArgs false
set_option linter.unusedVariables false
set_option maxRecDepth 100000
set_option maxHeartbeats 8000000
theorem stow_none (W : World) (g : Nat) : stow5 W g (fun _ => false) = ((((W.setCell ⟨g, 0, none⟩ (.int .u64 0)).setCell ⟨g, 1, none⟩ (.int .u64 0)).setCell ⟨g, 2, none⟩ (.int .u64 0)).setCell ⟨g, 3, none⟩ (.int .u64 0)).setCell ⟨g, 4, none⟩ (.int .u64 0) := by
 unfold stow5
 simp only [word_none]
 rfl
theorem look_zero {x z : Nd} {bs : List Nat} {base gm b cp fm cv : Nat} {V : Option Addr} {w W : World} {cs : Array Value} {q : Nat → Bool} {i : Nat} (hM : MatAt w x bs base gm b cp fm V cv) (h : LookI x bs base gm b cp fm cv V w W cs q) (hs : endsB z bs i = fun _ => false) :
  Blk (((((W.setCell ⟨w.heap.size + 1, 0, none⟩ (.int .u64 0)).setCell ⟨w.heap.size + 1, 1, none⟩ (.int .u64 0)).setCell ⟨w.heap.size + 1, 2, none⟩ (.int .u64 0)).setCell ⟨w.heap.size + 1, 3, none⟩ (.int .u64 0)).setCell ⟨w.heap.size + 1, 4, none⟩ (.int .u64 0)) (w.heap.size + 1) 69 #[.int .u64 0, .int .u64 0, .int .u64 0, .int .u64 0, .int .u64 0] ∧ (Ending.returned (.agg #[.int .u64 0, .int .u64 0, .int .u64 0, .int .u64 0, .int .u64 0]) = .returned (.agg #[.int .u64 (word (endsB z bs i) 0), .int .u64 (word (endsB z bs i) 1), .int .u64 (word (endsB z bs i) 2), .int .u64 (word (endsB z bs i) 3), .int .u64 (word (endsB z bs i) 4)]) ∧ MatAt (((((W.setCell ⟨w.heap.size + 1, 0, none⟩ (.int .u64 0)).setCell ⟨w.heap.size + 1, 1, none⟩ (.int .u64 0)).setCell ⟨w.heap.size + 1, 2, none⟩ (.int .u64 0)).setCell ⟨w.heap.size + 1, 3, none⟩ (.int .u64 0)).setCell ⟨w.heap.size + 1, 4, none⟩ (.int .u64 0)) x bs base gm b cp fm V cv ∧ w.grownBy (((((W.setCell ⟨w.heap.size + 1, 0, none⟩ (.int .u64 0)).setCell ⟨w.heap.size + 1, 1, none⟩ (.int .u64 0)).setCell ⟨w.heap.size + 1, 2, none⟩ (.int .u64 0)).setCell ⟨w.heap.size + 1, 3, none⟩ (.int .u64 0)).setCell ⟨w.heap.size + 1, 4, none⟩ (.int .u64 0)) (some fm)) := by
 obtain ⟨e1, e2⟩ := look_done (z := z) (i := i) hM h (fun _ => false) hs
 rw [stow_none] at e1 e2
 simp only [word_none] at e1 e2
 exact ⟨e1, e2⟩
theorem look_set {x z : Nd} {bs : List Nat} (hk : z.kind = 3) : LookC x bs z := by
 intro base gm b cp fm cv V w hM k i B A n1 c1 c2 hkb hi hints hc2
 rw [hk]
 obtain ⟨W0, hW0⟩ : ∃ W0, ((w.alloc (.cells #[.int .i64 (3), .int .u64 (word z.set.testBit 0), .int .u64 (word z.set.testBit 1), .int .u64 (word z.set.testBit 2), .int .u64 (word z.set.testBit 3), .slice B n1 c1, .int .i64 z.lo, .int .i64 z.hi, .slice A (z.kids.len) c2] 172)).alloc (.cells #[.int .u64 0, .int .u64 0, .int .u64 0, .int .u64 0, .int .u64 0] 69)).alloc (.cells #[.int .u64 0, .int .u64 0, .int .u64 0, .int .u64 0, .int .u64 0] 69) = W0 := ⟨_, rfl⟩
 have HM := Lib.hid hM
 have hlen := hM.len
 have H0 := Lib.hid (look_made hM hW0)
 obtain ⟨k0, k1, k2, k3, k4, k5, k6, k7, k8⟩ : _ ∧ _ ∧ _ ∧ _ ∧ _ ∧ _ ∧ _ ∧ _ ∧ _ := ⟨H0.out.bx.cell 0, H0.out.bx.cell 1, H0.out.bx.cell 2, H0.out.bx.cell 3, H0.out.bx.cell 4, H0.out.bx.cell 5, H0.out.bx.cell 6, H0.out.bx.cell 7, H0.out.bx.cell 8⟩
 simp only [List.getElem?_toArray, List.getElem?_cons_zero, List.getElem?_cons_succ] at k0 k1 k2 k3 k4 k5 k6 k7 k8
 obtain ⟨p0, p1, p2, p3, p4⟩ := H0.out.bp.c5w
 simp only [word_none] at p0 p1 p2 p3 p4
 have HKB := Lib.hid hkb
 have HIN := Lib.hid hints
 have lx := H0.out.bx.lt
 have lp := H0.out.bp.lt
 have lr := H0.out.br.lt
 clear hM hkb hints
 go_enter Tryz.func155, Tryz.ntmps155
 have g1 := H0.out.mw.mat.box.cell 1
 simp only [List.getElem?_toArray, List.getElem?_cons_zero, List.getElem?_cons_succ] at g1
 have lg := H0.out.mw.mat.box.lt
 have HD := Lib.hid H0.out.drew
 by_cases hil : i < bs.length
 ·obtain ⟨c, hc⟩ : ∃ c, bs[i]? = some c := ⟨_, List.getElem?_eq_getElem hil⟩
  obtain ⟨hb256, _, hbw⟩ := H0.out.mw.mat.word
  obtain ⟨b', o', rfl, _, hbc⟩ := hbw (by omega)
  have hcell := hbc i hil
  have hbi : byteAt bs i = c := by unfold byteAt; simp [hc]
  have hc256 := hb256 c (List.mem_of_getElem? hc)
  rw [hbi] at hcell
  have lbw : b' < W0.heap.size := World.block_lt_of_cell? W0 _ hcell
  clear hb256 hbw hbc hbi
  have HC := Lib.hid hc
  have hd : decide ((i : Int) < (bs.length : Int)) = true := by simp; omega
  have hd1 : (i : Int) < (bs.length : Int) := by omega
  have HS := Lib.hid (shas11_go z.set.testBit c W0.drew hc256)
  clear hc
  go_wp2
  go_region_held3 (fun w' => (∀ b o, b < W0.heap.size → w'.cell? ⟨b, o, none⟩ = W0.cell? ⟨b, o, none⟩) ∧ Since W0.heap.size W0 w') (first | exact since_start (Nat.le_refl _) | exact since_step (by assumption) (by assumption))
   (first | (go_at_call 50; refine (shas11_go z.set.testBit c _ hc256).mono ?_; rintro _ w' ⟨rfl, hb'⟩))
  rename_i hS
  have H1 := Lib.hid (H0.out.below hS.2.1)
  clear hS p0 p1 p2 p3 p4 H0 hW0 k0 k1 k2 k3 k4 k5 k6 k7 k8 HD lx lp lr hcell lbw g1 lg
  cases hm : z.set.testBit c with
  | true =>
   have HE := Lib.hid (ends_yes hk HC.out hm)
   have hwi : IntKind.i64.wrap ((i : Int) + 1) = ((i + 1 : Nat) : Int) := by rw [IntKind.wrap_i64]; omega
   have H1p := Lib.hid (pput_go (w.heap.size + 2) (fun _ => false) (i + 1) (by omega) w' H1.out.bp)
   try simp only [hm]
   rw [show ((i + 1 : Nat) : Int) = (i : Int) + 1 by omega] at H1p hwi
   go_wp2_with fail
   refine H1p.out.mono ?_
   rintro _ W2 ⟨rfl, hb2, hg2⟩
   have H2 := Lib.hid (H1.out.put HM.out hg2 (show Blk W2 (w.heap.size + 2) _ #[.int .u64 ((word (atB (i + 1)) 0 : Nat) : Int), .int .u64 ((word (atB (i + 1)) 1 : Nat) : Int), .int .u64 ((word (atB (i + 1)) 2 : Nat) : Int), .int .u64 ((word (atB (i + 1)) 3 : Nat) : Int), .int .u64 ((word (atB (i + 1)) 4 : Nat) : Int)] from hb2))
   clear hb2 hg2 H1p H1
   obtain ⟨p0, p1, p2, p3, p4⟩ := H2.out.bp.c5w
   obtain ⟨r0, r1, r2, r3, r4⟩ := H2.out.br.c5w
   obtain ⟨f0, f1, f2, f3, f4⟩ := H2.out.br.f5w
   dsimp only
   go_wp2
   obtain ⟨e1, e2⟩ := look_done HM.out H2.out (atB (i + 1)) HE.out
   exact bodyPost_ret (ret_pl Tryz.results155 rfl e1) rfl e2
  | false =>
   have HE := Lib.hid (ends_no hk (bs := bs) (i := i) (fun c' h => by rw [HC.out] at h; cases h; exact hm))
   obtain ⟨p0, p1, p2, p3, p4⟩ := H1.out.bp.c5w
   simp only [word_none] at p0 p1 p2 p3 p4
   obtain ⟨r0, r1, r2, r3, r4⟩ := H1.out.br.c5w
   obtain ⟨f0, f1, f2, f3, f4⟩ := H1.out.br.f5w
   try simp only [hm]
   go_wp2
   obtain ⟨e1, e2⟩ := look_zero HM.out H1.out HE.out
   exact bodyPost_ret (ret_pl Tryz.results155 rfl e1) rfl e2
 ·have hd : decide ((i : Int) < (bs.length : Int)) = false := by simp; omega
  have HE := Lib.hid (ends_no hk (bs := bs) (i := i) (fun c h => absurd (List.getElem?_eq_some_iff.1 h).1 hil))
  obtain ⟨r0, r1, r2, r3, r4⟩ := H0.out.br.c5w
  obtain ⟨f0, f1, f2, f3, f4⟩ := H0.out.br.f5w
  go_wp2
  go_region
  all_goals go_wp2
  obtain ⟨e1, e2, e3, e4⟩ := look_zero HM.out H0.out HE.out
  exact bodyPost_ret (ret_pl Tryz.results155 rfl e1.drew) rfl ⟨e2, e3.below ⟨rfl, rfl, rfl, Nat.le_refl _, fun _ _ => rfl⟩, grown_drew e4⟩
end Go.Proofs.YtofbfafnpdaejaaGreatDoor
