/- Texts of the claim. -/
import Derived.Test.YtofbfafnpdaejaaGreatDoorMMatG
namespace Go.Proofs.YtofbfafnpdaejaaGreatDoor
open Go.RowKit
set_option linter.unusedSimpArgs false
set_option linter.unusedVariables false
set_option maxRecDepth 100000
set_option maxHeartbeats 8000000
def readP (w : World) (g : Nat) : Nat → Bool := fun c => (intOf ((w.cell? ⟨g, c / 64, none⟩).getD undef)).toNat.testBit (c % 64)
theorem readP_blk {w : World} {g : Nat} {t : TypeId} {q : Nat → Bool} (h : Blk w g t #[.int .u64 (word q 0), .int .u64 (word q 1), .int .u64 (word q 2), .int .u64 (word q 3), .int .u64 (word q 4)]) {c : Nat} (hc : c < 320) : readP w g c = q c := by
 obtain ⟨c0, c1, c2, c3, c4⟩ := h.c5w
 have key : w.cell? ⟨g, c / 64, none⟩ = some (.int .u64 ((word q (c / 64) : Nat) : Int)) := by
  rcases hd : c / 64 with _ | _ | _ | _ | _ | d
  ·exact c0
  ·exact c1
  ·exact c2
  ·exact c3
  ·exact c4
  ·omega
 unfold readP
 rw [key]
 have h4 : decide (c % 64 < 64) = true := by simp; omega
 show (((word q (c / 64) : Nat) : Int)).toNat.testBit (c % 64) = q c
 rw [Int.toNat_natCast, testBit_word, h4, Bool.true_and, show 64 * (c / 64) + c % 64 = c by omega]
def gapsB (q : Nat → Bool) : Nat := (List.range 320).countP (fun c => !q c)
theorem countP_le2 {f g : Nat → Bool} : ∀ {l : List Nat}, (∀ c ∈ l, f c = true → g c = true) → l.countP f ≤ l.countP g
 | [], _ => Nat.le_refl _
 | a :: l, h => by
  have h1 := countP_le2 (f := f) (g := g) (l := l) (fun c hc => h c (by simp [hc]))
  have h2 := h a (by simp)
  rw [List.countP_cons, List.countP_cons]
  cases hf : f a with
  | false => simp; omega
  | true => rw [h2 hf]; simp; omega
theorem countP_lt2 {f g : Nat → Bool} : ∀ {l : List Nat}, (∀ c ∈ l, f c = true → g c = true) → (∃ c ∈ l, f c = false ∧ g c = true) → l.countP f < l.countP g
 | [], _, ⟨c, h, _⟩ => by simp at h
 | a :: l, h, ⟨c, hc, h3, h4⟩ => by
  have h2 := h a (by simp)
  rw [List.countP_cons, List.countP_cons]
  rcases List.mem_cons.1 hc with rfl | hc
  ·have h1 := countP_le2 (f := f) (g := g) (l := l) (fun c hc => h c (by simp [hc]))
   rw [h3, h4]
   simp
   omega
  ·have h1 := countP_lt2 (f := f) (g := g) (l := l) (fun c hc => h c (by simp [hc])) ⟨c, hc, h3, h4⟩
   cases hf : f a with
   | false => simp; omega
   | true => rw [h2 hf]; simp; omega
theorem gaps_congr {p q : Nat → Bool} (h : ∀ c, c < 320 → p c = q c) : gapsB p = gapsB q := by
 unfold gapsB
 exact List.countP_congr (fun c hc => by rw [h c (by simpa using hc)])
theorem gaps_less {p e : Nat → Bool} {c : Nat} (hc : c < 320) (he : e c = true) (hp : p c = false) : gapsB (fun c => p c || e c) < gapsB p :=
 countP_lt2 (fun d _ h => by cases hd : p d <;> simp_all) ⟨c, by simpa using hc, by simp [he], by simp [hp]⟩
def togo (p e : Nat → Bool) : Nat := 2 * gapsB p + (if (List.range 320).any e then 1 else 0)
theorem togo_congr {p q e f : Nat → Bool} (h : ∀ c, c < 320 → p c = q c) (g : ∀ c, c < 320 → e c = f c) : togo p e = togo q f := by
 unfold togo
 rw [gaps_congr h]
 have : (List.range 320).any e = (List.range 320).any f := by
  rw [Bool.eq_iff_iff, List.any_eq_true, List.any_eq_true]
  exact ⟨fun ⟨c, h1, h2⟩ => ⟨c, h1, by rw [← g c (by simpa using h1)]; exact h2⟩, fun ⟨c, h1, h2⟩ => ⟨c, h1, by rw [g c (by simpa using h1)]; exact h2⟩⟩
 rw [this]
theorem togo_less {p e q : Nat → Bool} (he : ∃ c, c < 320 ∧ e c = true) (hq : ∀ c, q c = true → p c = false) : togo (fun c => p c || q c) q < togo p e := by
 obtain ⟨d, hd1, hd2⟩ := he
 have h1 : (List.range 320).any e = true := List.any_eq_true.2 ⟨d, by simpa using hd1, hd2⟩
 unfold togo
 rw [h1]
 cases h2 : (List.range 320).any q with
 | true =>
  obtain ⟨c, h3, h4⟩ := List.any_eq_true.1 h2
  have := gaps_less (p := p) (by simpa using h3) h4 (hq c h4)
  simp
  omega
 | false =>
  have h5 : gapsB (fun c => p c || q c) = gapsB p := gaps_congr fun c hc => by
   cases h6 : q c with
   | false => simp
   | true =>
    have : (List.range 320).any q = true := List.any_eq_true.2 ⟨c, by simpa using hc, h6⟩
    rw [h2] at this
    cases this
  rw [h5]
  simp
def blockOf : Value → Nat
 | .pointer (some a) => a.block
 | _ => 0
structure AgainI (x : Nd) (bs : List Nat) (base gm b cp fm cv : Nat) (V : Option Addr) (z : Nd) (p : Nat → Bool) (w W : World) (g : Nat) (q e : Nat → Bool) : Prop where
 mw : MW x bs base gm b cp fm cv V w W
 bg : Blk W g 69 #[.int .u64 (word e 0), .int .u64 (word e 1), .int .u64 (word e 2), .int .u64 (word e 3), .int .u64 (word e 4)]
 bq : Blk W w.heap.size 69 #[.int .u64 (word q 0), .int .u64 (word q 1), .int .u64 (word q 2), .int .u64 (word q 3), .int .u64 (word q 4)]
 br : Blk W (w.heap.size + 1) 69 #[.int .u64 0, .int .u64 0, .int .u64 0, .int .u64 0, .int .u64 0]
 far : w.heap.size + 2 ≤ g
 ag : AgainB (z.rel bs) p q e
 lt : fm < w.heap.size
theorem img_star {z : Nd} {bs : List Nat} {p : Nat → Bool} (hp : ∀ c, p c = true → c ≤ bs.length) (c : Nat) (h : imgB (starR (z.rel bs)) p c = true) : c ≤ bs.length := by
 obtain ⟨i, h1, m, h2⟩ := imgB_iff.1 h
 exact img_it hp m c (imgB_iff.2 ⟨i, h1, h2⟩)
theorem again_go {x : Nd} {bs : List Nat} {z : Nd} (hE : EachC x bs z) {base gm b cp fm cv : Nat} {V : Option Addr} (w : World) (hM : MatAt w x bs base gm b cp fm V cv) (k : Nat) (p : Nat → Bool) (hk : Below1 x.nodes k z) (hp : ∀ c, p c = true → c ≤ bs.length) :
  Calls Tryz.prog 188 #[.pointer (some ⟨gm, 0, none⟩), .int .i64 (k : Int), .agg #[.int .u64 (word p 0), .int .u64 (word p 1), .int .u64 (word p 2), .int .u64 (word p 3), .int .u64 (word p 4)]] w fun e w' => e = .returned (.agg #[.int .u64 ((word (imgB (starR (z.rel bs)) p) 0 : Nat) : Int), .int .u64 ((word (imgB (starR (z.rel bs)) p) 1 : Nat) : Int), .int .u64 ((word (imgB (starR (z.rel bs)) p) 2 : Nat) : Int), .int .u64 ((word (imgB (starR (z.rel bs)) p) 3 : Nat) : Int), .int .u64 ((word (imgB (starR (z.rel bs)) p) 4 : Nat) : Int)]) ∧ MatAt w' x bs base gm b cp fm V cv ∧ w.grownBy w' (some fm) := by
 obtain ⟨W0, hW0⟩ : ∃ W0, ((w.alloc (.cells #[.int .u64 (word p 0), .int .u64 (word p 1), .int .u64 (word p 2), .int .u64 (word p 3), .int .u64 (word p 4)] 69)).alloc (.cells #[.int .u64 0, .int .u64 0, .int .u64 0, .int .u64 0, .int .u64 0] 69)).alloc (.cells #[.int .u64 (word p 0), .int .u64 (word p 1), .int .u64 (word p 2), .int .u64 (word p 3), .int .u64 (word p 4)] 69) = W0 := ⟨_, rfl⟩
 have HM := Lib.hid hM
 have hlt := hM.memo.lt
 have HW0 := Lib.hid (show MW x bs base gm b cp fm cv V w W0 from by rw [← hW0]; exact (((MW.refl hM).alloc _).alloc _).alloc _)
 have HB0 := Lib.hid (show Blk W0 w.heap.size 69 #[.int .u64 (word p 0), .int .u64 (word p 1), .int .u64 (word p 2), .int .u64 (word p 3), .int .u64 (word p 4)] from by rw [← hW0]; exact ((Blk.new _ _ _).alloc _).alloc _)
 have HR0 := Lib.hid (show Blk W0 (w.heap.size + 1) 69 #[.int .u64 0, .int .u64 0, .int .u64 0, .int .u64 0, .int .u64 0] from by rw [← hW0]; exact (Blk.new_at (by simp)).alloc _)
 have HG0 := Lib.hid (show Blk W0 (w.heap.size + 2) 69 #[.int .u64 (word p 0), .int .u64 (word p 1), .int .u64 (word p 2), .int .u64 (word p 3), .int .u64 (word p 4)] from by rw [← hW0]; exact Blk.new_at (by simp))
 have HE := Lib.hid hE
 have HKB := Lib.hid hk
 have HP := Lib.hid hp
 have HLN := Lib.hid hM.len
 clear hM hE hk hp
 go_enter Tryz.func188, Tryz.ntmps188
 go_wp2
 go_loopw [7] (fun v wr => ∃ (g : Nat) (q e : Nat → Bool), v = .pointer (some ⟨g, 0, none⟩) ∧ Hid (AgainI x bs base gm b cp fm cv V z p w wr g q e)) (fun v wr => togo (readP wr w.heap.size) (readP wr (blockOf v)))
 case atStart => exact ⟨w.heap.size + 2, p, p, rfl, Lib.hid ⟨HW0.out, HG0.out, HB0.out, HR0.out, Nat.le_refl _, again_start _ _, hlt⟩⟩
 case round =>
  clear HW0 HB0 HR0 HG0
  obtain ⟨g, q, e, rfl, HI⟩ := hrel
  obtain ⟨c0, c1, c2, c3, c4⟩ := HI.out.bg.c5w
  obtain ⟨d0, d1, d2, d3, d4⟩ := HI.out.bq.c5w
  have lb := HI.out.bq.lt
  have lr := HI.out.br.lt
  have lg := HI.out.bg.lt
  have hq := Lib.hid (show ∀ c, q c = true → c ≤ bs.length from fun c hc => img_star HP.out c (HI.out.ag.sound c hc))
  have he := Lib.hid (show ∀ c, e c = true → c ≤ bs.length from fun c hc => hq.out c (HI.out.ag.edge c hc))
  cases hsm : sameB e (fun _ => false) with
  | true =>
   have HQ := Lib.hid ((sameB_iff (fun c hc => by have := he.out c hc; have := HLN.out; omega) (fun c hc => by cases hc)).1 hsm)
   obtain ⟨r0, r1, r2, r3, r4⟩ := HI.out.br.c5w
   obtain ⟨e0, e1, e2, e3, e4⟩ := HI.out.br.f5w
   go_wp2
   have hfin := HI.out.ag.done (fun c => by rw [HQ.out])
   refine bodyPost_ret (ret_pl Tryz.results188 rfl (HI.out.br.put5 q)) rfl ?_
   have hF := HI.out.mw.stow HM.out (g := w.heap.size + 1) (by omega) q
   exact ⟨by rw [hfin], hF.mat, hF.grown⟩
  | false =>
   have hne : ∃ c, c < 320 ∧ e c = true := by
    by_cases h : ∃ c, e c = true
    ·obtain ⟨c, hc⟩ := h
     exact ⟨c, by have := he.out c hc; have := HLN.out; omega, hc⟩
    ·have h1 : e = fun _ => false := funext fun c => by
      cases h2 : e c with
      | false => rfl
      | true => exact absurd ⟨c, h2⟩ h
     rw [h1] at hsm
     have h3 : sameB (fun _ => false) (fun _ => false) = true := sameB_words.2 fun i _ => rfl
     rw [h3] at hsm
     cases hsm
   have HNE := Lib.hid hne
   clear hne
   go_wp2
   have HWd := Lib.hid HI.out.mw.drew
   have hgf := HI.out.far
   go_region_with (first
    | (go_at_call 186; refine (HE.out base gm b cp fm cv V _ HWd.out.mat k e HKB.out he.out).mono ?_; rintro _ w4 ⟨rfl, hm4, hg4⟩; have HW4 := Lib.hid (HWd.out.call hm4 hg4); have HG4 := Lib.hid (Blk.past (W := wr.drew) HI.out.bg hg4 (by omega)); have HQ4 := Lib.hid (Blk.past (W := wr.drew) HI.out.bq hg4 (by omega)); have HR4 := Lib.hid (Blk.past (W := wr.drew) HI.out.br hg4 (by omega)); clear hm4 hg4; obtain ⟨d0, d1, d2, d3, d4⟩ := HQ4.out.c5w)
    | (go_at_call 224; refine (pbut_go _ _ _).mono ?_; rintro _ w5 ⟨rfl, hb5⟩; have HW5 := Lib.hid (HW4.out.below hb5); have HG5 := Lib.hid (HG4.out.below hb5 HG4.out.lt); have HQ5 := Lib.hid (HQ4.out.below hb5 HQ4.out.lt); have HR5 := Lib.hid (HR4.out.below hb5 HR4.out.lt); clear hb5; obtain ⟨c0, c1, c2, c3, c4⟩ := HG5.out.c5w; obtain ⟨f0, f1, f2, f3, f4⟩ := HG5.out.f5w))
   all_goals
    obtain ⟨e2, he2, HN⟩ : ∃ e2, (fun c => imgB (z.rel bs) e c && !q c) = e2 ∧ Hid (∀ c, e2 c = true ↔ imgB (z.rel bs) e c = true ∧ q c = false) := ⟨_, rfl, Lib.hid (fun c => by simp)⟩
    rw [he2]
    have HW6 := Lib.hid (HW5.out.stow HM.out (g := g) (by omega) e2)
    have HG6 := Lib.hid (HG5.out.put5 e2)
    have HQ6 := Lib.hid (HQ5.out.grown (grown5 w5 g e2) (by simp; omega))
    have HR6 := Lib.hid (HR5.out.grown (grown5 w5 g e2) (by simp; omega))
    obtain ⟨W6, hW6⟩ : ∃ W6, stow5 w5 g e2 = W6 := ⟨_, rfl⟩
    rw [hW6] at HW6 HG6 HQ6 HR6
    unfold stow5 at hW6
    rw [hW6]
    clear he2 hW6 HW5 HG5 HQ5 HR5 HW4 HG4 HQ4 HR4 HWd c0 c1 c2 c3 c4 d0 d1 d2 d3 d4 f0 f1 f2 f3 f4 lb lr lg hW0 W0
    obtain ⟨c0, c1, c2, c3, c4⟩ := HG6.out.c5w
    obtain ⟨d0, d1, d2, d3, d4⟩ := HQ6.out.c5w
    go_wp2_with fail
    refine (pwith_go q e2 W6).mono ?_
    rintro _ W7 ⟨rfl, hb7⟩
    have HW7 := Lib.hid (HW6.out.below hb7)
    have HG7 := Lib.hid (HG6.out.below hb7 HG6.out.lt)
    have HQ7 := Lib.hid (HQ6.out.below hb7 HQ6.out.lt)
    have HR7 := Lib.hid (HR6.out.below hb7 HR6.out.lt)
    clear hb7 HW6 HG6 HQ6 HR6 c0 c1 c2 c3 c4 d0 d1 d2 d3 d4
    obtain ⟨c0, c1, c2, c3, c4⟩ := HG7.out.c5w
    obtain ⟨d0, d1, d2, d3, d4⟩ := HQ7.out.c5w
    obtain ⟨f0, f1, f2, f3, f4⟩ := HQ7.out.f5w
    have lg := HG7.out.lt
    have lq := HQ7.out.lt
    have lr := HR7.out.lt
    have hgq : g ≠ w.heap.size := by omega
    dsimp only
    go_wp2
    have hA : AgainI x bs base gm b cp fm cv V z p w ((stow5 W7 w.heap.size (fun c => q c || e2 c)).alloc (.cells #[.int .u64 (word e2 0), .int .u64 (word e2 1), .int .u64 (word e2 2), .int .u64 (word e2 3), .int .u64 (word e2 4)] 69)) W7.heap.size (fun c => q c || e2 c) e2 :=
     ⟨(HW7.out.stow HM.out (g := w.heap.size) (Nat.le_refl _) _).alloc _, Blk.new_at (by simp [stow5]), (HQ7.out.put5 _).alloc _, (HR7.out.grown (grown5 W7 w.heap.size (fun c => q c || e2 c)) (by simp)).alloc _, by omega, HI.out.ag.next HN.out, hlt⟩
    refine ⟨⟨_, fun c => q c || e2 c, e2, rfl, Lib.hid hA⟩, ?_⟩
    have m1 := togo_congr (fun c hc => readP_blk hA.bq hc) (fun c hc => readP_blk hA.bg hc)
    have m2 := togo_congr (fun c hc => readP_blk HI.out.bq hc) (fun c hc => readP_blk HI.out.bg hc)
    exact Nat.lt_of_lt_of_eq (Nat.lt_of_le_of_lt (Nat.le_of_eq m1) (togo_less HNE.out (fun c hc => ((HN.out c).1 hc).2))) m2.symm
end Go.Proofs.YtofbfafnpdaejaaGreatDoor
