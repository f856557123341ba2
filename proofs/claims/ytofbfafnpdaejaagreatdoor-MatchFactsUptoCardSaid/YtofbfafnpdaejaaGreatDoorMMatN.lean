/- Texts of the claim. -/
import Derived.Test.YtofbfafnpdaejaaGreatDoorMMatI
import Derived.Test.YtofbfafnpdaejaaGreatDoorMZ02
namespace Go.Proofs.YtofbfafnpdaejaaGreatDoor
open Go.RowKit
set_option linter.unusedSimpArgs false
set_option linter.unusedVariables false
set_option maxRecDepth 100000
set_option maxHeartbeats 8000000
theorem shas11_go (p : Nat → Bool) (c : Nat) (w : World) (h1 : c < 256) :
  Calls Tryz.prog 50 #[.agg #[.int .u64 (word p 0), .int .u64 (word p 1), .int .u64 (word p 2), .int .u64 (word p 3)], .int .u8 (c : Int)] w fun e w' => e = .returned (.bool (p c)) ∧ Below w.heap.size w w' := by
 have h63 : bits .and .u8 (c : Int) 63 = ((c : Int) % 64) := by
  have h63 : (BitVec.ofInt 8 63).toNat = 2 ^ 6 - 1 := by decide
  have key : (BitVec.ofInt 8 (c : Int) &&& BitVec.ofInt 8 63).toNat = ((c : Int) % ((2 ^ 8 : Nat) : Int)).toNat % 2 ^ 6 := by
   rw [BitVec.toNat_and, BitVec.toNat_ofInt, h63, Nat.and_two_pow_sub_one_eq_mod]
  show IntKind.u8.wrap ((BitVec.ofInt 8 (c : Int) &&& BitVec.ofInt 8 63).toNat : Nat) = (c : Int) % 64
  rw [key, IntKind.wrap_u8]
  omega
 have hm0 : 0 ≤ (c : Int) % 64 := by omega
 have hm1 : (c : Int) % 64 < 64 := by omega
 have h0 : (0 : Int) ≤ (c : Int) := by omega
 obtain hq | hq | hq | hq : (c : Int) / 64 = 0 ∨ (c : Int) / 64 = 1 ∨ (c : Int) / 64 = 2 ∨ (c : Int) / 64 = 3 := by omega
 ·have hB := has_bit p (c : Int) 0 h0 hq
  rw [Int.toNat_natCast] at hB
  go_enter Tryz.func50, Tryz.ntmps50
  go_wp2
  go_light
  go_ret
  exact ⟨ret_b hB, (Below.refl _ _).alloc (Nat.le_refl _) _⟩
 ·have hB := has_bit p (c : Int) 1 h0 hq
  rw [Int.toNat_natCast] at hB
  go_enter Tryz.func50, Tryz.ntmps50
  go_wp2
  go_light
  go_ret
  exact ⟨ret_b hB, (Below.refl _ _).alloc (Nat.le_refl _) _⟩
 ·have hB := has_bit p (c : Int) 2 h0 hq
  rw [Int.toNat_natCast] at hB
  go_enter Tryz.func50, Tryz.ntmps50
  go_wp2
  go_light
  go_ret
  exact ⟨ret_b hB, (Below.refl _ _).alloc (Nat.le_refl _) _⟩
 ·have hB := has_bit p (c : Int) 3 h0 hq
  rw [Int.toNat_natCast] at hB
  go_enter Tryz.func50, Tryz.ntmps50
  go_wp2
  go_light
  go_ret
  exact ⟨ret_b hB, (Below.refl _ _).alloc (Nat.le_refl _) _⟩
def LookC (x : Nd) (bs : List Nat) (z : Nd) : Prop := ∀ (base gm b cp fm cv : Nat) (V : Option Addr) (w : World), MatAt w x bs base gm b cp fm V cv → ∀ (k i : Nat) (B A : Option Addr) (n1 c1 c2 : Nat), Below1 x.nodes k z → i ≤ bs.length → IntsAt w A (kidNums (k + 1) z.kids.list) → z.kids.len ≤ c2 →
 Calls Tryz.prog 155 #[.pointer (some ⟨gm, 0, none⟩), .agg #[.int .i64 (z.kind), .int .u64 (word z.set.testBit 0), .int .u64 (word z.set.testBit 1), .int .u64 (word z.set.testBit 2), .int .u64 (word z.set.testBit 3), .slice B n1 c1, .int .i64 z.lo, .int .i64 z.hi, .slice A (z.kids.len) c2], .int .i64 (i : Int)] w fun e w' => e = .returned (.agg #[.int .u64 (word (endsB z bs i) 0), .int .u64 (word (endsB z bs i) 1), .int .u64 (word (endsB z bs i) 2), .int .u64 (word (endsB z bs i) 3), .int .u64 (word (endsB z bs i) 4)]) ∧ MatAt w' x bs base gm b cp fm V cv ∧ w.grownBy w' (some fm)
structure LookI (x : Nd) (bs : List Nat) (base gm b cp fm cv : Nat) (V : Option Addr) (w W : World) (cs : Array Value) (q : Nat → Bool) : Prop where
 mw : MW x bs base gm b cp fm cv V w W
 bx : Blk W w.heap.size 172 cs
 br : Blk W (w.heap.size + 1) 69 #[.int .u64 0, .int .u64 0, .int .u64 0, .int .u64 0, .int .u64 0]
 bp : Blk W (w.heap.size + 2) 69 #[.int .u64 (word q 0), .int .u64 (word q 1), .int .u64 (word q 2), .int .u64 (word q 3), .int .u64 (word q 4)]
 lt : fm < w.heap.size
theorem LookI.call {x : Nd} {bs : List Nat} {base gm b cp fm cv : Nat} {V : Option Addr} {w W W' : World} {cs : Array Value} {q : Nat → Bool} (h : LookI x bs base gm b cp fm cv V w W cs q) (hm : MatAt W' x bs base gm b cp fm V cv) (hg : W.grownBy W' (some fm)) : LookI x bs base gm b cp fm cv V w W' cs q :=
 ⟨h.mw.call hm hg, h.bx.past hg h.lt, h.br.past hg (by have := h.lt; omega), h.bp.past hg (by have := h.lt; omega), h.lt⟩
theorem LookI.below {x : Nd} {bs : List Nat} {base gm b cp fm cv : Nat} {V : Option Addr} {w W W' : World} {cs : Array Value} {q : Nat → Bool} (h : LookI x bs base gm b cp fm cv V w W cs q) (hb : Below W.heap.size W W') : LookI x bs base gm b cp fm cv V w W' cs q :=
 ⟨h.mw.below hb, h.bx.below hb h.bx.lt, h.br.below hb h.br.lt, h.bp.below hb h.bp.lt, h.lt⟩
theorem LookI.drew {x : Nd} {bs : List Nat} {base gm b cp fm cv : Nat} {V : Option Addr} {w W : World} {cs : Array Value} {q : Nat → Bool} (h : LookI x bs base gm b cp fm cv V w W cs q) : LookI x bs base gm b cp fm cv V w W.drew cs q := h.below ⟨rfl, rfl, rfl, Nat.le_refl _, fun _ _ => rfl⟩
theorem LookI.put {x : Nd} {bs : List Nat} {base gm b cp fm cv : Nat} {V : Option Addr} {w W W' : World} {cs : Array Value} {q q' : Nat → Bool} (hM : MatAt w x bs base gm b cp fm V cv) (h : LookI x bs base gm b cp fm cv V w W cs q) (hg : W.grownBy W' (some (w.heap.size + 2))) (hq : Blk W' (w.heap.size + 2) 69 #[.int .u64 (word q' 0), .int .u64 (word q' 1), .int .u64 (word q' 2), .int .u64 (word q' 3), .int .u64 (word q' 4)]) : LookI x bs base gm b cp fm cv V w W' cs q' :=
 ⟨h.mw.step hM hg (fun r e => by cases e; omega), h.bx.grown hg (by simp), h.br.grown hg (by simp), hq, h.lt⟩
theorem LookI.stow {x : Nd} {bs : List Nat} {base gm b cp fm cv : Nat} {V : Option Addr} {w W : World} {cs : Array Value} {q : Nat → Bool} (hM : MatAt w x bs base gm b cp fm V cv) (h : LookI x bs base gm b cp fm cv V w W cs q) (q' : Nat → Bool) : LookI x bs base gm b cp fm cv V w (stow5 W (w.heap.size + 2) q') cs q' :=
 h.put hM (grown5 W _ q') (h.bp.put5 q')
theorem look_made {x : Nd} {bs : List Nat} {base gm b cp fm cv : Nat} {V : Option Addr} {w W0 : World} {cs : Array Value} (hM : MatAt w x bs base gm b cp fm V cv) (h : ((w.alloc (.cells cs 172)).alloc (.cells #[.int .u64 0, .int .u64 0, .int .u64 0, .int .u64 0, .int .u64 0] 69)).alloc (.cells #[.int .u64 0, .int .u64 0, .int .u64 0, .int .u64 0, .int .u64 0] 69) = W0) : LookI x bs base gm b cp fm cv V w W0 cs (fun _ => false) := by
 rw [← h]
 refine ⟨(((MW.refl hM).alloc _).alloc _).alloc _, ((Blk.new w _ _).alloc _).alloc _, (Blk.new_at (by simp)).alloc _, ?_, hM.memo.lt⟩
 simp only [word_none]
 exact Blk.new_at (by simp)
theorem look_done {x z : Nd} {bs : List Nat} {base gm b cp fm cv : Nat} {V : Option Addr} {w W : World} {cs : Array Value} {q : Nat → Bool} {i : Nat} (hM : MatAt w x bs base gm b cp fm V cv) (h : LookI x bs base gm b cp fm cv V w W cs q) (s : Nat → Bool) (hs : endsB z bs i = s) :
  Blk (stow5 W (w.heap.size + 1) s) (w.heap.size + 1) 69 #[.int .u64 (word s 0), .int .u64 (word s 1), .int .u64 (word s 2), .int .u64 (word s 3), .int .u64 (word s 4)] ∧ (Ending.returned (.agg #[.int .u64 (word s 0), .int .u64 (word s 1), .int .u64 (word s 2), .int .u64 (word s 3), .int .u64 (word s 4)]) = .returned (.agg #[.int .u64 (word (endsB z bs i) 0), .int .u64 (word (endsB z bs i) 1), .int .u64 (word (endsB z bs i) 2), .int .u64 (word (endsB z bs i) 3), .int .u64 (word (endsB z bs i) 4)]) ∧ MatAt (stow5 W (w.heap.size + 1) s) x bs base gm b cp fm V cv ∧ w.grownBy (stow5 W (w.heap.size + 1) s) (some fm)) := by
 have := h.mw.stow hM (g := w.heap.size + 1) (by omega) s
 exact ⟨h.br.put5 s, by rw [hs], this.mat, this.grown⟩
theorem ends_empty {z : Nd} (hk : z.kind = 2) (bs : List Nat) (i : Nat) : endsB z bs i = atB i := by
 have : z.rel bs = idR := by unfold Nd.rel saysK; rw [hk, if_pos rfl]
 unfold endsB
 rw [this, imgB_id]
theorem ends_nothing {z : Nd} (hk : z.kind = 1) (bs : List Nat) (i : Nat) : endsB z bs i = fun _ => false := by
 have : z.rel bs = noR := by unfold Nd.rel saysK; rw [hk]; simp
 refine setB_ext fun c => ?_
 rw [endsB_iff, this]
 simp [noR]
theorem rel_set {z : Nd} (hk : z.kind = 3) (bs : List Nat) : z.rel bs = setR z.set bs := by unfold Nd.rel saysK; rw [hk]; simp
theorem ends_yes {z : Nd} (hk : z.kind = 3) {bs : List Nat} {i : Nat} {c : Nat} (hc : bs[i]? = some c) (h : z.set.testBit c = true) : endsB z bs i = atB (i + 1) := by
 refine setB_ext fun j => ?_
 rw [endsB_iff, rel_set hk, atB_iff]
 exact ⟨fun ⟨_, _, _, h4⟩ => h4, fun h4 => ⟨c, hc, h, h4⟩⟩
theorem ends_no {z : Nd} (hk : z.kind = 3) {bs : List Nat} {i : Nat} (h : ∀ c, bs[i]? = some c → z.set.testBit c = false) : endsB z bs i = fun _ => false := by
 refine setB_ext fun j => ?_
 rw [endsB_iff, rel_set hk]
 refine ⟨fun ⟨c, h1, h2, _⟩ => ?_, fun h => by cases h⟩
 rw [h c h1] at h2
 cases h2
theorem look_empty {x z : Nd} {bs : List Nat} (hk : z.kind = 2) : LookC x bs z := by
 intro base gm b cp fm cv V w hM k i B A n1 c1 c2 hkb hi hints hc2
 rw [hk]
 obtain ⟨W0, hW0⟩ : ∃ W0, ((w.alloc (.cells #[.int .i64 (2), .int .u64 (word z.set.testBit 0), .int .u64 (word z.set.testBit 1), .int .u64 (word z.set.testBit 2), .int .u64 (word z.set.testBit 3), .slice B n1 c1, .int .i64 z.lo, .int .i64 z.hi, .slice A (z.kids.len) c2] 172)).alloc (.cells #[.int .u64 0, .int .u64 0, .int .u64 0, .int .u64 0, .int .u64 0] 69)).alloc (.cells #[.int .u64 0, .int .u64 0, .int .u64 0, .int .u64 0, .int .u64 0] 69) = W0 := ⟨_, rfl⟩
 have HM := Lib.hid hM
 have hlen := hM.len
 have H0 := Lib.hid (look_made hM hW0)
 obtain ⟨k0, k1, k2, k3, k4, k5, k6, k7, k8⟩ : _ ∧ _ ∧ _ ∧ _ ∧ _ ∧ _ ∧ _ ∧ _ ∧ _ := ⟨H0.out.bx.cell 0, H0.out.bx.cell 1, H0.out.bx.cell 2, H0.out.bx.cell 3, H0.out.bx.cell 4, H0.out.bx.cell 5, H0.out.bx.cell 6, H0.out.bx.cell 7, H0.out.bx.cell 8⟩
 simp only [List.getElem?_toArray, List.getElem?_cons_zero, List.getElem?_cons_succ] at k0 k1 k2 k3 k4 k5 k6 k7 k8
 obtain ⟨p0, p1, p2, p3, p4⟩ := H0.out.bp.c5w
 simp only [word_none] at p0 p1 p2 p3 p4
 have HKB := Lib.hid hkb
 have HIN := Lib.hid hints
 have lx := H0.out.bx.lt
 have lp := H0.out.bp.lt
 have lr := H0.out.br.lt
 clear hM hkb hints
 go_enter Tryz.func155, Tryz.ntmps155
 go_wp2_with fail
 refine (pput_go (w.heap.size + 2) (fun _ => false) i (by omega) W0 H0.out.bp).mono ?_
 rintro _ W1 ⟨rfl, hb1, hg1⟩
 have H1 := Lib.hid (H0.out.put HM.out hg1 (show Blk W1 (w.heap.size + 2) _ #[.int .u64 (word (atB i) 0), .int .u64 (word (atB i) 1), .int .u64 (word (atB i) 2), .int .u64 (word (atB i) 3), .int .u64 (word (atB i) 4)] from hb1))
 clear hb1 hg1 p0 p1 p2 p3 p4 H0 hW0 k0 k1 k2 k3 k4 k5 k6 k7 k8
 obtain ⟨p0, p1, p2, p3, p4⟩ := H1.out.bp.c5w
 obtain ⟨r0, r1, r2, r3, r4⟩ := H1.out.br.c5w
 obtain ⟨f0, f1, f2, f3, f4⟩ := H1.out.br.f5w
 dsimp only
 go_wp2
 obtain ⟨e1, e2⟩ := look_done HM.out H1.out (atB i) (ends_empty hk bs i)
 exact bodyPost_ret (ret_pl Tryz.results155 rfl e1) rfl e2
theorem look_nothing {x z : Nd} {bs : List Nat} (hk : z.kind = 1) : LookC x bs z := by
 intro base gm b cp fm cv V w hM k i B A n1 c1 c2 hkb hi hints hc2
 rw [hk]
 obtain ⟨W0, hW0⟩ : ∃ W0, ((w.alloc (.cells #[.int .i64 (1), .int .u64 (word z.set.testBit 0), .int .u64 (word z.set.testBit 1), .int .u64 (word z.set.testBit 2), .int .u64 (word z.set.testBit 3), .slice B n1 c1, .int .i64 z.lo, .int .i64 z.hi, .slice A (z.kids.len) c2] 172)).alloc (.cells #[.int .u64 0, .int .u64 0, .int .u64 0, .int .u64 0, .int .u64 0] 69)).alloc (.cells #[.int .u64 0, .int .u64 0, .int .u64 0, .int .u64 0, .int .u64 0] 69) = W0 := ⟨_, rfl⟩
 have HM := Lib.hid hM
 have hlen := hM.len
 have H0 := Lib.hid (look_made hM hW0)
 obtain ⟨k0, k1, k2, k3, k4, k5, k6, k7, k8⟩ : _ ∧ _ ∧ _ ∧ _ ∧ _ ∧ _ ∧ _ ∧ _ ∧ _ := ⟨H0.out.bx.cell 0, H0.out.bx.cell 1, H0.out.bx.cell 2, H0.out.bx.cell 3, H0.out.bx.cell 4, H0.out.bx.cell 5, H0.out.bx.cell 6, H0.out.bx.cell 7, H0.out.bx.cell 8⟩
 simp only [List.getElem?_toArray, List.getElem?_cons_zero, List.getElem?_cons_succ] at k0 k1 k2 k3 k4 k5 k6 k7 k8
 obtain ⟨p0, p1, p2, p3, p4⟩ := H0.out.bp.c5w
 simp only [word_none] at p0 p1 p2 p3 p4
 have HKB := Lib.hid hkb
 have HIN := Lib.hid hints
 have lx := H0.out.bx.lt
 have lp := H0.out.bp.lt
 have lr := H0.out.br.lt
 clear hM hkb hints
 go_enter Tryz.func155, Tryz.ntmps155
 obtain ⟨r0, r1, r2, r3, r4⟩ := H0.out.br.c5w
 obtain ⟨f0, f1, f2, f3, f4⟩ := H0.out.br.f5w
 go_wp2
 obtain ⟨e1, e2⟩ := look_done HM.out H0.out (fun _ => false) (ends_nothing hk bs i)
 simp only [word_none] at e1 e2
 have hst : stow5 W0 (w.heap.size + 1) (fun _ => false) = ((((W0.setCell ⟨w.heap.size + 1, 0, none⟩ (.int .u64 0)).setCell ⟨w.heap.size + 1, 1, none⟩ (.int .u64 0)).setCell ⟨w.heap.size + 1, 2, none⟩ (.int .u64 0)).setCell ⟨w.heap.size + 1, 3, none⟩ (.int .u64 0)).setCell ⟨w.heap.size + 1, 4, none⟩ (.int .u64 0) := by
  unfold stow5
  simp only [word_none]
  rfl
 rw [hst] at e1 e2
 exact bodyPost_ret (ret_pl Tryz.results155 rfl e1) rfl e2
end Go.Proofs.YtofbfafnpdaejaaGreatDoor
