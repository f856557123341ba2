/- Texts of the claim. -/
import Derived.Test.YtofbfafnpdaejaaGreatDoorMMatE
import Derived.Test.YtofbfafnpdaejaaGreatDoorMZ01
namespace Go.Proofs.YtofbfafnpdaejaaGreatDoor
open Go.RowKit
set_option linter.unusedSimpArgs false
set_option linter.unusedVariables false
set_option maxRecDepth 100000
set_option maxHeartbeats 8000000
theorem eqPl5 (a b c d e a' b' c' d' e' : Int) (w : World) : (Op.equalIn 10000 69 (.agg #[.int .u64 a, .int .u64 b, .int .u64 c, .int .u64 d, .int .u64 e]) (.agg #[.int .u64 a', .int .u64 b', .int .u64 c', .int .u64 d', .int .u64 e'])).run Tryz.prog w = .ok (a == a' && b == b' && c == c' && d == d' && e == e') w := by
 have u3 := Tryz.underlying23
 have a3 := Tryz.isAgg23
 have z3 := Tryz.sizeOf23
 rw [show (10000 : Nat) = 9999 + 1 from rfl, Op.equalIn]
 simp only [Sem.run_bind, run_underlying Tryz.underlying69, Result.andThen_ok]
 simp only [Std.Legacy.Range.forIn_eq_forIn_range', Std.Legacy.Range.size, Nat.sub_zero, Nat.add_sub_cancel, Nat.div_one, List.range'_succ, List.range'_zero, List.forIn_cons, List.forIn_nil]
 go_simp
 by_cases h1 : a = a' <;> by_cases h2 : b = b' <;> by_cases h3 : c = c' <;> by_cases h4 : d = d' <;> by_cases h5 : e = e' <;> simp [h1, h2, h3, h4, h5]
def sameB (p q : Nat → Bool) : Bool := word p 0 == word q 0 && word p 1 == word q 1 && word p 2 == word q 2 && word p 3 == word q 3 && word p 4 == word q 4
theorem sameB_words {p q : Nat → Bool} : sameB p q = true ↔ ∀ i, i < 5 → word p i = word q i := by
 unfold sameB
 simp only [Bool.and_eq_true, beq_iff_eq]
 constructor
 ·rintro ⟨⟨⟨⟨h0, h1⟩, h2⟩, h3⟩, h4⟩ i hi
  rcases i with _ | _ | _ | _ | _ | i <;> first | omega | assumption
 ·intro h
  exact ⟨⟨⟨⟨h 0 (by omega), h 1 (by omega)⟩, h 2 (by omega)⟩, h 3 (by omega)⟩, h 4 (by omega)⟩
theorem sameB_iff {p q : Nat → Bool} (hp : ∀ c, p c = true → c < 320) (hq : ∀ c, q c = true → c < 320) : sameB p q = true ↔ p = q := by
 rw [sameB_words]
 constructor
 ·intro h
  funext c
  rcases Nat.lt_or_ge c 320 with hc | hc
  ·have h1 := h (c / 64) (by omega)
   have h2 := congrArg (fun n => n.testBit (c % 64)) h1
   simp only [testBit_word] at h2
   have h3 : 64 * (c / 64) + c % 64 = c := by omega
   rw [h3] at h2
   have h4 : decide (c % 64 < 64) = true := by simp; omega
   rw [h4] at h2
   simpa using h2
  ·have h1 : p c = false := by
    cases h : p c with
    | false => rfl
    | true => have := hp c h; omega
   have h2 : q c = false := by
    cases h : q c with
    | false => rfl
    | true => have := hq c h; omega
   rw [h1, h2]
 ·rintro rfl i _
  rfl
@[go_sem] theorem eqPl (p q : Nat → Bool) (w : World) : (Op.equalIn 10000 69 (.agg #[.int .u64 (word p 0), .int .u64 (word p 1), .int .u64 (word p 2), .int .u64 (word p 3), .int .u64 (word p 4)]) (.agg #[.int .u64 (word q 0), .int .u64 (word q 1), .int .u64 (word q 2), .int .u64 (word q 3), .int .u64 (word q 4)])).run Tryz.prog w = .ok (sameB p q) w := by
 rw [eqPl5]
 congr 1
 unfold sameB
 rw [Bool.eq_iff_iff]
 simp only [Bool.and_eq_true, beq_iff_eq]
 omega
@[go_sem] theorem eqPl0 (p : Nat → Bool) (w : World) : (Op.equalIn 10000 69 (.agg #[.int .u64 (word p 0), .int .u64 (word p 1), .int .u64 (word p 2), .int .u64 (word p 3), .int .u64 (word p 4)]) (.agg #[.int .u64 0, .int .u64 0, .int .u64 0, .int .u64 0, .int .u64 0])).run Tryz.prog w = .ok (sameB p (fun _ => false)) w := by
 have := eqPl p (fun _ => false) w
 simp only [word_none] at this
 exact this
structure MW (x : Nd) (bs : List Nat) (base gm b cp fm cv : Nat) (V : Option Addr) (w W : World) : Prop where
 mat : MatAt W x bs base gm b cp fm V cv
 grown : w.grownBy W (some fm)
theorem MW.refl {x : Nd} {bs : List Nat} {base gm b cp fm cv : Nat} {V : Option Addr} {w : World} (h : MatAt w x bs base gm b cp fm V cv) : MW x bs base gm b cp fm cv V w w := ⟨h, World.grownBy.refl _ _⟩
theorem MW.call {x : Nd} {bs : List Nat} {base gm b cp fm cv : Nat} {V : Option Addr} {w W W' : World} (h : MW x bs base gm b cp fm cv V w W) (hm : MatAt W' x bs base gm b cp fm V cv) (hg : W.grownBy W' (some fm)) : MW x bs base gm b cp fm cv V w W' := ⟨hm, grown_trans h.grown hg⟩
theorem MW.step {x : Nd} {bs : List Nat} {base gm b cp fm cv : Nat} {V : Option Addr} {w W W' : World} {row : Option Nat} (hM : MatAt w x bs base gm b cp fm V cv) (h : MW x bs base gm b cp fm cv V w W) (hg : W.grownBy W' row) (hr : ∀ r, row = some r → w.heap.size ≤ r) : MW x bs base gm b cp fm cv V w W' :=
 ⟨hM.over h.grown h.mat.memo hg hr, grown_over h.grown hg hr⟩
theorem MW.below {x : Nd} {bs : List Nat} {base gm b cp fm cv : Nat} {V : Option Addr} {w W W' : World} (h : MW x bs base gm b cp fm cv V w W) (hb : Below W.heap.size W W') : MW x bs base gm b cp fm cv V w W' := ⟨h.mat.below hb, grown_trans h.grown (grown_below hb)⟩
theorem MW.alloc {x : Nd} {bs : List Nat} {base gm b cp fm cv : Nat} {V : Option Addr} {w W : World} (h : MW x bs base gm b cp fm cv V w W) (o : Obj) : MW x bs base gm b cp fm cv V w (W.alloc o) := h.below ((Below.refl _ _).alloc (Nat.le_refl _) _)
theorem MW.stow {x : Nd} {bs : List Nat} {base gm b cp fm cv g : Nat} {V : Option Addr} {w W : World} (hM : MatAt w x bs base gm b cp fm V cv) (h : MW x bs base gm b cp fm cv V w W) (hg : w.heap.size ≤ g) (p : Nat → Bool) : MW x bs base gm b cp fm cv V w (stow5 W g p) := h.step hM (grown5 W g p) (fun r e => by cases e; exact hg)
theorem MW.drew {x : Nd} {bs : List Nat} {base gm b cp fm cv : Nat} {V : Option Addr} {w W : World} (h : MW x bs base gm b cp fm cv V w W) : MW x bs base gm b cp fm cv V w W.drew := h.below ⟨rfl, rfl, rfl, Nat.le_refl _, fun _ _ => rfl⟩
theorem Blk.past {W W' : World} {g fm : Nat} {t : TypeId} {cs : Array Value} (h : Blk W g t cs) (hg : W.grownBy W' (some fm)) (hf : fm < g) : Blk W' g t cs := h.grown hg (by simp; omega)
theorem img_len {z : Nd} {bs : List Nat} {p : Nat → Bool} (hp : ∀ c, p c = true → c ≤ bs.length) : ∀ c, imgB (z.rel bs) p c = true → c ≤ bs.length := fun c h => by
 obtain ⟨i, h1, h2⟩ := imgB_iff.1 h
 exact rel_len z bs (hp i h1) h2
theorem img_it {z : Nd} {bs : List Nat} {p : Nat → Bool} (hp : ∀ c, p c = true → c ≤ bs.length) : ∀ m c, imgB (itR (z.rel bs) m) p c = true → c ≤ bs.length
 | 0, c, h => by
  obtain ⟨i, h1, h2⟩ := imgB_iff.1 h
  have h2 : i = c := h2
  rw [← h2]
  exact hp i h1
 | m + 1, c, h => by
  rw [← imgB_next] at h
  exact img_len (img_it hp m) c h
theorem img_it0 (R : RelW) (p : Nat → Bool) : imgB (itR R 0) p = p := imgB_id p
theorem just_go {x : Nd} {bs : List Nat} {z : Nd} (hE : EachC x bs z) {base gm b cp fm cv : Nat} {V : Option Addr} (w : World) (hM : MatAt w x bs base gm b cp fm V cv) (k : Nat) (p : Nat → Bool) (m : Nat) (hm : m ≤ 1000000000000) (hk : Below1 x.nodes k z) (hp : ∀ c, p c = true → c ≤ bs.length) :
  Calls Tryz.prog 225 #[.pointer (some ⟨gm, 0, none⟩), .int .i64 (k : Int), .agg #[.int .u64 (word p 0), .int .u64 (word p 1), .int .u64 (word p 2), .int .u64 (word p 3), .int .u64 (word p 4)], .int .i64 (m : Int)] w fun e w' => e = .returned (.agg #[.int .u64 ((word (imgB (itR (z.rel bs) m) p) 0 : Nat) : Int), .int .u64 ((word (imgB (itR (z.rel bs) m) p) 1 : Nat) : Int), .int .u64 ((word (imgB (itR (z.rel bs) m) p) 2 : Nat) : Int), .int .u64 ((word (imgB (itR (z.rel bs) m) p) 3 : Nat) : Int), .int .u64 ((word (imgB (itR (z.rel bs) m) p) 4 : Nat) : Int)]) ∧ MatAt w' x bs base gm b cp fm V cv ∧ w.grownBy w' (some fm) := by
 obtain ⟨W0, hW0⟩ : ∃ W0, (w.alloc (.cells #[.int .u64 (word p 0), .int .u64 (word p 1), .int .u64 (word p 2), .int .u64 (word p 3), .int .u64 (word p 4)] 69)).alloc (.cells #[.int .u64 0, .int .u64 0, .int .u64 0, .int .u64 0, .int .u64 0] 69) = W0 := ⟨_, rfl⟩
 have HM := Lib.hid hM
 have hlt := hM.memo.lt
 have HW0 := Lib.hid (show MW x bs base gm b cp fm cv V w W0 from by rw [← hW0]; exact ((MW.refl hM).alloc _).alloc _)
 have HB0 := Lib.hid (show Blk W0 w.heap.size 69 #[.int .u64 (word p 0), .int .u64 (word p 1), .int .u64 (word p 2), .int .u64 (word p 3), .int .u64 (word p 4)] from by rw [← hW0]; exact (Blk.new _ _ _).alloc _)
 have HR0 := Lib.hid (show Blk W0 (w.heap.size + 1) 69 #[.int .u64 0, .int .u64 0, .int .u64 0, .int .u64 0, .int .u64 0] from by rw [← hW0]; exact Blk.new_at (by simp))
 have HE := Lib.hid hE
 have HKB := Lib.hid hk
 have HP := Lib.hid hp
 have HLN := Lib.hid hM.len
 clear hM hE hk hp
 go_enter Tryz.func225, Tryz.ntmps225
 go_wp2
 clear hW0
 go_loopw [3] (fun v wr => ∃ j : Nat, v = .int .i64 (j : Int) ∧ j ≤ m ∧ Hid (MW x bs base gm b cp fm cv V w wr) ∧ Hid (Blk wr w.heap.size 69 #[.int .u64 ((word (imgB (itR (z.rel bs) (m - j)) p) 0 : Nat) : Int), .int .u64 ((word (imgB (itR (z.rel bs) (m - j)) p) 1 : Nat) : Int), .int .u64 ((word (imgB (itR (z.rel bs) (m - j)) p) 2 : Nat) : Int), .int .u64 ((word (imgB (itR (z.rel bs) (m - j)) p) 3 : Nat) : Int), .int .u64 ((word (imgB (itR (z.rel bs) (m - j)) p) 4 : Nat) : Int)]) ∧ Hid (Blk wr (w.heap.size + 1) 69 #[.int .u64 0, .int .u64 0, .int .u64 0, .int .u64 0, .int .u64 0])) (fun v _ => (intOf v).toNat)
 case atStart => exact ⟨m, rfl, Nat.le_refl _, HW0, by rw [Nat.sub_self, img_it0]; exact HB0, HR0⟩
 case round =>
  clear HW0 HB0 HR0
  obtain ⟨j, rfl, hj, HW, HB, HR⟩ := hrel
  obtain ⟨c0, c1, c2, c3, c4⟩ := HB.out.c5w
  have lb := HB.out.lt
  have lr := HR.out.lt
  by_cases h0 : j = 0
  ·subst h0
   obtain ⟨d0, d1, d2, d3, d4⟩ := HR.out.c5w
   obtain ⟨f0, f1, f2, f3, f4⟩ := HR.out.f5w
   go_wp2
   rw [Nat.sub_zero] at HB
   refine bodyPost_ret (ret_pl Tryz.results225 rfl (HR.out.put5 (imgB (itR (z.rel bs) m) p))) rfl ?_
   have hF := HW.out.stow HM.out (g := w.heap.size + 1) (by omega) (imgB (itR (z.rel bs) m) p)
   exact ⟨rfl, hF.mat, hF.grown⟩
  ·have hgt : decide ((j : Int) > 0) = true := by simp; omega
   have HC := Lib.hid (HE.out base gm b cp fm cv V wr HW.out.mat k (imgB (itR (z.rel bs) (m - j)) p) HKB.out (img_it HP.out _))
   rw [imgB_next] at HC
   go_wp2_with fail
   refine HC.out.mono ?_
   rintro e w4 ⟨rfl, hm4, hg4⟩
   have HW4 := Lib.hid (HW.out.call hm4 hg4)
   have HB4 := Lib.hid (HB.out.past hg4 hlt)
   have HR4 := Lib.hid (HR.out.past hg4 (by omega))
   clear hm4 hg4 HC HW HB HR c0 c1 c2 c3 c4 lb lr
   obtain ⟨c0, c1, c2, c3, c4⟩ := HB4.out.c5w
   obtain ⟨f0, f1, f2, f3, f4⟩ := HB4.out.f5w
   have lb := HB4.out.lt
   have lr := HR4.out.lt
   have hne : w.heap.size ≠ w4.heap.size := by omega
   dsimp only
   have hpb := Lib.hid (img_it (z := z) HP.out (m - j))
   have hpb1 := Lib.hid (img_it (z := z) HP.out (m - j + 1))
   cases hsm : sameB (imgB (itR (z.rel bs) (m - j + 1)) p) (imgB (itR (z.rel bs) (m - j)) p) with
   | true =>
    have HQ := Lib.hid ((sameB_iff (fun c hc => by have := hpb1.out c hc; have := HLN.out; omega) (fun c hc => by have := hpb.out c hc; have := HLN.out; omega)).1 hsm)
    obtain ⟨d0, d1, d2, d3, d4⟩ := HR4.out.c5w
    obtain ⟨e0, e1, e2, e3, e4⟩ := HR4.out.f5w
    go_wp2
    have hfin : imgB (itR (z.rel bs) (m - j)) p = imgB (itR (z.rel bs) m) p := by
     have h5 := imgB_fix (by rw [imgB_next]; exact HQ.out) j
     rw [show m - j + j = m by omega] at h5
     exact h5.symm
    refine bodyPost_ret (ret_pl Tryz.results225 rfl ((HR4.out.put5 (imgB (itR (z.rel bs) (m - j)) p)).alloc _)) rfl ?_
    have hF := (HW4.out.stow HM.out (g := w.heap.size + 1) (by omega) (imgB (itR (z.rel bs) (m - j)) p)).alloc (.cells #[.int .u64 ((word (imgB (itR (z.rel bs) (m - j + 1)) p) 0 : Nat) : Int), .int .u64 ((word (imgB (itR (z.rel bs) (m - j + 1)) p) 1 : Nat) : Int), .int .u64 ((word (imgB (itR (z.rel bs) (m - j + 1)) p) 2 : Nat) : Int), .int .u64 ((word (imgB (itR (z.rel bs) (m - j + 1)) p) 3 : Nat) : Int), .int .u64 ((word (imgB (itR (z.rel bs) (m - j + 1)) p) 4 : Nat) : Int)] 69)
    exact ⟨by rw [hfin], hF.mat, hF.grown⟩
   | false =>
    have hwj : IntKind.i64.wrap ((j : Int) - 1) = (j : Int) - 1 := by rw [IntKind.wrap_i64]; omega
    go_wp2
    refine ⟨⟨j - 1, by rw [show ((j - 1 : Nat) : Int) = (j : Int) - 1 by omega], by omega, ?_, ?_, ?_⟩, ?_⟩
    ·exact Lib.hid ((HW4.out.stow HM.out (g := w.heap.size) (by omega) (imgB (itR (z.rel bs) (m - j + 1)) p)).alloc _)
    ·rw [show m - (j - 1) = m - j + 1 by omega]
     exact Lib.hid ((HB4.out.put5 (imgB (itR (z.rel bs) (m - j + 1)) p)).alloc _)
    ·exact Lib.hid ((HR4.out.grown (grown5 w4 w.heap.size (imgB (itR (z.rel bs) (m - j + 1)) p)) (by simp)).alloc _)
    ·simp [intOf]; omega
end Go.Proofs.YtofbfafnpdaejaaGreatDoor
