/- Texts of the claim. -/
import Derived.Lib.AppendStr
import Derived.Test.YtfcblmbieiibmaaDoorKZ03
import Derived.Test.YtfcblmbieiibmaaDoorKShow
import Derived.Test.YtfcblmbieiibmaaDoorKSame
import Derived.Test.YtfcblmbieiibmaaDoorKZ02
import Derived.Test.YtfcblmbieiibmaaDoorKZ01
namespace Go.Proofs.YtfcblmbieiibmaaDoor
open Go.RowKit
set_option linter.unusedSimpArgs false
set_option linter.unusedVariables false
set_option maxRecDepth 100000
set_option maxHeartbeats 8000000
@[go_sem] theorem run_str1_next (w : World) (o : Obj) (c : Nat) : (convert 29 9 (.slice (some ⟨w.heap.size + 1, 0, none⟩) 1 1)).run Tryd.prog ((w.alloc o).alloc (.cells #[.int .u8 (c : Int)] 5)) =
  .ok (.string (strOf [c])) ((w.alloc o).alloc (.cells #[.int .u8 (c : Int)] 5)) := by
 have h := run_str1 (w.alloc o) c
 rw [World.size_alloc] at h
 exact h
theorem one_int (w : World) (a : Int) : IntsAt (w.alloc (.cells #[.int .i64 a] 3)) (some ⟨w.heap.size, 0, none⟩) [a] := fun i x hx => by
 cases i with
 | zero =>
  have : a = x := by simpa using hx
  subst this
  exact ⟨_, _, rfl, (Blk.new w 3 #[.int .i64 a]).cell 0⟩
 | succ i => simp at hx
theorem ints_made (w : World) : (w.alloc (.cells #[] 3)).ownsRow w.heap.size 3 1 (.slice (some ⟨w.heap.size, 0, none⟩) 0 0) ([] : List Int).length (intsC []) :=
 ⟨rfl, .inr ⟨w.heap.size, 0, #[], rfl, Nat.le_refl _, heap_alloc_new w _, Nat.le_refl _, Nat.zero_le _, rfl, rfl⟩⟩
theorem own_form_capC {w : World} {base size n : Nat} {e : TypeId} {v : Value} {xs : List Value} (h : w.ownsRow base e size v n xs) (hn : 0 < n) : ∃ g cap, v = .slice (some ⟨g, 0, none⟩) n cap ∧ base ≤ g ∧ g < w.heap.size ∧ n ≤ cap := by
 rcases h.2 with ⟨_, h0⟩ | ⟨g, c, cur, hv, hb, hh, hc, _⟩
 ·omega
 ·exact ⟨g, c, hv, hb, (Array.getElem?_eq_some_iff.1 hh).1, hc⟩
theorem push_own_int (w : World) (base : Nat) (v : Value) (acc : List Int) (hown : w.ownsRow base 3 1 v acc.length (intsC acc)) (a : Int) (hs : acc.length + 1 ≤ 10000000000000) (hbase : base ≤ w.heap.size) :
  ∃ v' w', (Builtin.append_ #[32, 32] 32 #[v, .slice (some ⟨w.heap.size, 0, none⟩) 1 1]).run Tryd.prog (w.alloc (.cells #[.int .i64 a] 3)) = .ok v' w' ∧ w'.ownsRow base 3 1 v' (acc ++ [a]).length (intsC (acc ++ [a])) ∧ ∀ B a0, Below B a0 w → B ≤ base → Below B a0 w' := by
 have ho : (w.alloc (.cells #[.int .i64 a] 3)).ownsRow base 3 1 v acc.length (intsC acc) := hown.alloc _
 obtain ⟨v', w', h1, h2, h3⟩ := append_own_ints (w.alloc (.cells #[.int .i64 a] 3)) base v acc ho 1 (one_int w a) (by simpa using hs) (by simp; omega) 32 32 Tryd.underlying32
 exact ⟨v', w', h1, h2, fun B a0 hb hle => below_grown (hb.alloc (by omega) (.cells #[.int .i64 a] 3)) h3 ho hle (by simp; omega)⟩
end Go.Proofs.YtfcblmbieiibmaaDoor
namespace Go.Proofs.YtfcblmbieiibmaaDoor
set_option linter.unusedSimpArgs false
set_option linter.unusedVariables false
set_option maxRecDepth 100000
set_option maxHeartbeats 8000000
def Rises (L : List Int) : Prop := L.Pairwise (· < ·)
theorem rises_ext : ∀ {L M : List Int}, Rises L → Rises M → (∀ x, x ∈ L ↔ x ∈ M) → L = M
 | [], [], _, _, _ => rfl
 | [], b :: M, _, _, h => by have := (h b).2 (by simp); simp at this
 | a :: L, [], _, _, h => by have := (h a).1 (by simp); simp at this
 | a :: L, b :: M, hL, hM, h => by
  obtain ⟨hL1, hL2⟩ := List.pairwise_cons.1 hL
  obtain ⟨hM1, hM2⟩ := List.pairwise_cons.1 hM
  have e : a = b := by
   rcases List.mem_cons.1 ((h a).1 (by simp)) with e | e
   ·exact e
   ·rcases List.mem_cons.1 ((h b).2 (by simp)) with e2 | e2
    ·exact e2.symm
    ·have h1 := hM1 a e
     have h2 := hL1 b e2
     omega
  subst e
  refine congrArg (a :: ·) (rises_ext hL2 hM2 fun x => ⟨fun hx => ?_, fun hx => ?_⟩)
  ·rcases List.mem_cons.1 ((h x).1 (List.mem_cons_of_mem a hx)) with e | e
   ·have := hL1 x hx; omega
   ·exact e
  ·rcases List.mem_cons.1 ((h x).2 (List.mem_cons_of_mem a hx)) with e | e
   ·have := hM1 x hx; omega
   ·exact e
end Go.Proofs.YtfcblmbieiibmaaDoor
namespace Go.Proofs.YtfcblmbieiibmaaDoor
open Go.RowKit
set_option linter.unusedSimpArgs false
set_option linter.unusedVariables false
set_option maxRecDepth 100000
set_option maxHeartbeats 8000000
theorem eqPl5 (a b c d e a' b' c' d' e' : Int) (w : World) : (Op.equalIn 10000 51 (.agg #[.int .u64 a, .int .u64 b, .int .u64 c, .int .u64 d, .int .u64 e]) (.agg #[.int .u64 a', .int .u64 b', .int .u64 c', .int .u64 d', .int .u64 e'])).run Tryd.prog w = .ok (a == a' && b == b' && c == c' && d == d' && e == e') w := by
 have u3 := Tryd.underlying23
 have a3 := Tryd.isAgg23
 have z3 := Tryd.sizeOf23
 rw [show (10000 : Nat) = 9999 + 1 from rfl, Op.equalIn]
 simp only [Sem.run_bind, run_underlying Tryd.underlying51, Result.andThen_ok]
 simp only [Std.Legacy.Range.forIn_eq_forIn_range', Std.Legacy.Range.size, Nat.sub_zero, Nat.add_sub_cancel, Nat.div_one, List.range'_succ, List.range'_zero, List.forIn_cons, List.forIn_nil]
 go_simp
 by_cases h1 : a = a' <;> by_cases h2 : b = b' <;> by_cases h3 : c = c' <;> by_cases h4 : d = d' <;> by_cases h5 : e = e' <;> simp [h1, h2, h3, h4, h5]
def sameB (p q : Nat → Bool) : Bool := word p 0 == word q 0 && word p 1 == word q 1 && word p 2 == word q 2 && word p 3 == word q 3 && word p 4 == word q 4
theorem sameB_words {p q : Nat → Bool} : sameB p q = true ↔ ∀ i, i < 5 → word p i = word q i := by
 unfold sameB
 simp only [Bool.and_eq_true, beq_iff_eq]
 constructor
 ·rintro ⟨⟨⟨⟨h0, h1⟩, h2⟩, h3⟩, h4⟩ i hi
  rcases i with _ | _ | _ | _ | _ | i <;> first | omega | assumption
 ·intro h
  exact ⟨⟨⟨⟨h 0 (by omega), h 1 (by omega)⟩, h 2 (by omega)⟩, h 3 (by omega)⟩, h 4 (by omega)⟩
theorem sameB_iff {p q : Nat → Bool} (hp : ∀ c, p c = true → c < 320) (hq : ∀ c, q c = true → c < 320) : sameB p q = true ↔ p = q := by
 rw [sameB_words]
 constructor
 ·intro h
  funext c
  rcases Nat.lt_or_ge c 320 with hc | hc
  ·have h1 := h (c / 64) (by omega)
   have h2 := congrArg (fun n => n.testBit (c % 64)) h1
   simp only [testBit_word] at h2
   have h3 : 64 * (c / 64) + c % 64 = c := by omega
   rw [h3] at h2
   have h4 : decide (c % 64 < 64) = true := by simp; omega
   rw [h4] at h2
   simpa using h2
  ·have h1 : p c = false := by
    cases h : p c with
    | false => rfl
    | true => have := hp c h; omega
   have h2 : q c = false := by
    cases h : q c with
    | false => rfl
    | true => have := hq c h; omega
   rw [h1, h2]
 ·rintro rfl i _
  rfl
@[go_sem] theorem eqPl (p q : Nat → Bool) (w : World) : (Op.equalIn 10000 51 (.agg #[.int .u64 (word p 0), .int .u64 (word p 1), .int .u64 (word p 2), .int .u64 (word p 3), .int .u64 (word p 4)]) (.agg #[.int .u64 (word q 0), .int .u64 (word q 1), .int .u64 (word q 2), .int .u64 (word q 3), .int .u64 (word q 4)])).run Tryd.prog w = .ok (sameB p q) w := by
 rw [eqPl5]
 congr 1
 unfold sameB
 rw [Bool.eq_iff_iff]
 simp only [Bool.and_eq_true, beq_iff_eq]
 omega
@[go_sem] theorem eqPl0 (p : Nat → Bool) (w : World) : (Op.equalIn 10000 51 (.agg #[.int .u64 (word p 0), .int .u64 (word p 1), .int .u64 (word p 2), .int .u64 (word p 3), .int .u64 (word p 4)]) (.agg #[.int .u64 0, .int .u64 0, .int .u64 0, .int .u64 0, .int .u64 0])).run Tryd.prog w = .ok (sameB p (fun _ => false)) w := by
 have := eqPl p (fun _ => false) w
 simp only [word_none] at this
 exact this
structure MW (x : Nd) (bs : List Nat) (base gm b cp fm cv : Nat) (V : Option Addr) (w W : World) : Prop where
 mat : MatAt W x bs base gm b cp fm V cv
 grown : w.grownBy W (some fm)
theorem MW.refl {x : Nd} {bs : List Nat} {base gm b cp fm cv : Nat} {V : Option Addr} {w : World} (h : MatAt w x bs base gm b cp fm V cv) : MW x bs base gm b cp fm cv V w w := ⟨h, World.grownBy.refl _ _⟩
theorem MW.call {x : Nd} {bs : List Nat} {base gm b cp fm cv : Nat} {V : Option Addr} {w W W' : World} (h : MW x bs base gm b cp fm cv V w W) (hm : MatAt W' x bs base gm b cp fm V cv) (hg : W.grownBy W' (some fm)) : MW x bs base gm b cp fm cv V w W' := ⟨hm, grown_trans h.grown hg⟩
theorem MW.step {x : Nd} {bs : List Nat} {base gm b cp fm cv : Nat} {V : Option Addr} {w W W' : World} {row : Option Nat} (hM : MatAt w x bs base gm b cp fm V cv) (h : MW x bs base gm b cp fm cv V w W) (hg : W.grownBy W' row) (hr : ∀ r, row = some r → w.heap.size ≤ r) : MW x bs base gm b cp fm cv V w W' :=
 ⟨hM.over h.grown h.mat.memo hg hr, grown_over h.grown hg hr⟩
theorem MW.below {x : Nd} {bs : List Nat} {base gm b cp fm cv : Nat} {V : Option Addr} {w W W' : World} (h : MW x bs base gm b cp fm cv V w W) (hb : Below W.heap.size W W') : MW x bs base gm b cp fm cv V w W' := ⟨h.mat.below hb, grown_trans h.grown (grown_below hb)⟩
theorem MW.alloc {x : Nd} {bs : List Nat} {base gm b cp fm cv : Nat} {V : Option Addr} {w W : World} (h : MW x bs base gm b cp fm cv V w W) (o : Obj) : MW x bs base gm b cp fm cv V w (W.alloc o) := h.below ((Below.refl _ _).alloc (Nat.le_refl _) _)
theorem MW.stow {x : Nd} {bs : List Nat} {base gm b cp fm cv g : Nat} {V : Option Addr} {w W : World} (hM : MatAt w x bs base gm b cp fm V cv) (h : MW x bs base gm b cp fm cv V w W) (hg : w.heap.size ≤ g) (p : Nat → Bool) : MW x bs base gm b cp fm cv V w (stow5 W g p) := h.step hM (grown5 W g p) (fun r e => by cases e; exact hg)
theorem MW.drew {x : Nd} {bs : List Nat} {base gm b cp fm cv : Nat} {V : Option Addr} {w W : World} (h : MW x bs base gm b cp fm cv V w W) : MW x bs base gm b cp fm cv V w W.drew := h.below ⟨rfl, rfl, rfl, Nat.le_refl _, fun _ _ => rfl⟩
theorem Blk.past {W W' : World} {g fm : Nat} {t : TypeId} {cs : Array Value} (h : Blk W g t cs) (hg : W.grownBy W' (some fm)) (hf : fm < g) : Blk W' g t cs := h.grown hg (by simp; omega)
theorem img_len {z : Nd} {bs : List Nat} {p : Nat → Bool} (hp : ∀ c, p c = true → c ≤ bs.length) : ∀ c, imgB (z.rel bs) p c = true → c ≤ bs.length := fun c h => by
 obtain ⟨i, h1, h2⟩ := imgB_iff.1 h
 exact rel_len z bs (hp i h1) h2
theorem img_it {z : Nd} {bs : List Nat} {p : Nat → Bool} (hp : ∀ c, p c = true → c ≤ bs.length) : ∀ m c, imgB (itR (z.rel bs) m) p c = true → c ≤ bs.length
 | 0, c, h => by
  obtain ⟨i, h1, h2⟩ := imgB_iff.1 h
  have h2 : i = c := h2
  rw [← h2]
  exact hp i h1
 | m + 1, c, h => by
  rw [← imgB_next] at h
  exact img_len (img_it hp m) c h
theorem img_it0 (R : RelW) (p : Nat → Bool) : imgB (itR R 0) p = p := imgB_id p
theorem just_go {x : Nd} {bs : List Nat} {z : Nd} (hE : EachC x bs z) {base gm b cp fm cv : Nat} {V : Option Addr} (w : World) (hM : MatAt w x bs base gm b cp fm V cv) (k : Nat) (p : Nat → Bool) (m : Nat) (hm : m ≤ 1000000000000) (hk : Below1 x.nodes k z) (hp : ∀ c, p c = true → c ≤ bs.length) :
  Calls Tryd.prog 94 #[.pointer (some ⟨gm, 0, none⟩), .int .i64 (k : Int), .agg #[.int .u64 (word p 0), .int .u64 (word p 1), .int .u64 (word p 2), .int .u64 (word p 3), .int .u64 (word p 4)], .int .i64 (m : Int)] w fun e w' => e = .returned (.agg #[.int .u64 ((word (imgB (itR (z.rel bs) m) p) 0 : Nat) : Int), .int .u64 ((word (imgB (itR (z.rel bs) m) p) 1 : Nat) : Int), .int .u64 ((word (imgB (itR (z.rel bs) m) p) 2 : Nat) : Int), .int .u64 ((word (imgB (itR (z.rel bs) m) p) 3 : Nat) : Int), .int .u64 ((word (imgB (itR (z.rel bs) m) p) 4 : Nat) : Int)]) ∧ MatAt w' x bs base gm b cp fm V cv ∧ w.grownBy w' (some fm) := by
 obtain ⟨W0, hW0⟩ : ∃ W0, (w.alloc (.cells #[.int .u64 (word p 0), .int .u64 (word p 1), .int .u64 (word p 2), .int .u64 (word p 3), .int .u64 (word p 4)] 51)).alloc (.cells #[.int .u64 0, .int .u64 0, .int .u64 0, .int .u64 0, .int .u64 0] 51) = W0 := ⟨_, rfl⟩
 have HM := Lib.hid hM
 have hlt := hM.memo.lt
 have HW0 := Lib.hid (show MW x bs base gm b cp fm cv V w W0 from by rw [← hW0]; exact ((MW.refl hM).alloc _).alloc _)
 have HB0 := Lib.hid (show Blk W0 w.heap.size 51 #[.int .u64 (word p 0), .int .u64 (word p 1), .int .u64 (word p 2), .int .u64 (word p 3), .int .u64 (word p 4)] from by rw [← hW0]; exact (Blk.new _ _ _).alloc _)
 have HR0 := Lib.hid (show Blk W0 (w.heap.size + 1) 51 #[.int .u64 0, .int .u64 0, .int .u64 0, .int .u64 0, .int .u64 0] from by rw [← hW0]; exact Blk.new_at (by simp))
 have HE := Lib.hid hE
 have HKB := Lib.hid hk
 have HP := Lib.hid hp
 have HLN := Lib.hid hM.len
 clear hM hE hk hp
 go_enter Tryd.func94, Tryd.ntmps94
 go_wp2
 clear hW0
 go_loopw [3] (fun v wr => ∃ j : Nat, v = .int .i64 (j : Int) ∧ j ≤ m ∧ Hid (MW x bs base gm b cp fm cv V w wr) ∧ Hid (Blk wr w.heap.size 51 #[.int .u64 ((word (imgB (itR (z.rel bs) (m - j)) p) 0 : Nat) : Int), .int .u64 ((word (imgB (itR (z.rel bs) (m - j)) p) 1 : Nat) : Int), .int .u64 ((word (imgB (itR (z.rel bs) (m - j)) p) 2 : Nat) : Int), .int .u64 ((word (imgB (itR (z.rel bs) (m - j)) p) 3 : Nat) : Int), .int .u64 ((word (imgB (itR (z.rel bs) (m - j)) p) 4 : Nat) : Int)]) ∧ Hid (Blk wr (w.heap.size + 1) 51 #[.int .u64 0, .int .u64 0, .int .u64 0, .int .u64 0, .int .u64 0])) (fun v _ => (intOf v).toNat)
 case atStart => exact ⟨m, rfl, Nat.le_refl _, HW0, by rw [Nat.sub_self, img_it0]; exact HB0, HR0⟩
 case round =>
  clear HW0 HB0 HR0
  obtain ⟨j, rfl, hj, HW, HB, HR⟩ := hrel
  obtain ⟨c0, c1, c2, c3, c4⟩ := HB.out.c5w
  have lb := HB.out.lt
  have lr := HR.out.lt
  by_cases h0 : j = 0
  ·subst h0
   obtain ⟨d0, d1, d2, d3, d4⟩ := HR.out.c5w
   obtain ⟨f0, f1, f2, f3, f4⟩ := HR.out.f5w
   go_wp2
   rw [Nat.sub_zero] at HB
   refine bodyPost_ret (ret_pl Tryd.results94 rfl (HR.out.put5 (imgB (itR (z.rel bs) m) p))) rfl ?_
   have hF := HW.out.stow HM.out (g := w.heap.size + 1) (by omega) (imgB (itR (z.rel bs) m) p)
   exact ⟨rfl, hF.mat, hF.grown⟩
  ·have hgt : decide ((j : Int) > 0) = true := by simp; omega
   have HC := Lib.hid (HE.out base gm b cp fm cv V wr HW.out.mat k (imgB (itR (z.rel bs) (m - j)) p) HKB.out (img_it HP.out _))
   rw [imgB_next] at HC
   go_wp2_with fail
   refine HC.out.mono ?_
   rintro e w4 ⟨rfl, hm4, hg4⟩
   have HW4 := Lib.hid (HW.out.call hm4 hg4)
   have HB4 := Lib.hid (HB.out.past hg4 hlt)
   have HR4 := Lib.hid (HR.out.past hg4 (by omega))
   clear hm4 hg4 HC HW HB HR c0 c1 c2 c3 c4 lb lr
   obtain ⟨c0, c1, c2, c3, c4⟩ := HB4.out.c5w
   obtain ⟨f0, f1, f2, f3, f4⟩ := HB4.out.f5w
   have lb := HB4.out.lt
   have lr := HR4.out.lt
   have hne : w.heap.size ≠ w4.heap.size := by omega
   dsimp only
   have hpb := Lib.hid (img_it (z := z) HP.out (m - j))
   have hpb1 := Lib.hid (img_it (z := z) HP.out (m - j + 1))
   cases hsm : sameB (imgB (itR (z.rel bs) (m - j + 1)) p) (imgB (itR (z.rel bs) (m - j)) p) with
   | true =>
    have HQ := Lib.hid ((sameB_iff (fun c hc => by have := hpb1.out c hc; have := HLN.out; omega) (fun c hc => by have := hpb.out c hc; have := HLN.out; omega)).1 hsm)
    obtain ⟨d0, d1, d2, d3, d4⟩ := HR4.out.c5w
    obtain ⟨e0, e1, e2, e3, e4⟩ := HR4.out.f5w
    go_wp2
    have hfin : imgB (itR (z.rel bs) (m - j)) p = imgB (itR (z.rel bs) m) p := by
     have h5 := imgB_fix (by rw [imgB_next]; exact HQ.out) j
     rw [show m - j + j = m by omega] at h5
     exact h5.symm
    refine bodyPost_ret (ret_pl Tryd.results94 rfl ((HR4.out.put5 (imgB (itR (z.rel bs) (m - j)) p)).alloc _)) rfl ?_
    have hF := (HW4.out.stow HM.out (g := w.heap.size + 1) (by omega) (imgB (itR (z.rel bs) (m - j)) p)).alloc (.cells #[.int .u64 ((word (imgB (itR (z.rel bs) (m - j + 1)) p) 0 : Nat) : Int), .int .u64 ((word (imgB (itR (z.rel bs) (m - j + 1)) p) 1 : Nat) : Int), .int .u64 ((word (imgB (itR (z.rel bs) (m - j + 1)) p) 2 : Nat) : Int), .int .u64 ((word (imgB (itR (z.rel bs) (m - j + 1)) p) 3 : Nat) : Int), .int .u64 ((word (imgB (itR (z.rel bs) (m - j + 1)) p) 4 : Nat) : Int)] 51)
    exact ⟨by rw [hfin], hF.mat, hF.grown⟩
   | false =>
    have hwj : IntKind.i64.wrap ((j : Int) - 1) = (j : Int) - 1 := by rw [IntKind.wrap_i64]; omega
    go_wp2
    refine ⟨⟨j - 1, by rw [show ((j - 1 : Nat) : Int) = (j : Int) - 1 by omega], by omega, ?_, ?_, ?_⟩, ?_⟩
    ·exact Lib.hid ((HW4.out.stow HM.out (g := w.heap.size) (by omega) (imgB (itR (z.rel bs) (m - j + 1)) p)).alloc _)
    ·rw [show m - (j - 1) = m - j + 1 by omega]
     exact Lib.hid ((HB4.out.put5 (imgB (itR (z.rel bs) (m - j + 1)) p)).alloc _)
    ·exact Lib.hid ((HR4.out.grown (grown5 w4 w.heap.size (imgB (itR (z.rel bs) (m - j + 1)) p)) (by simp)).alloc _)
    ·simp [intOf]; omega
def readP (w : World) (g : Nat) : Nat → Bool := fun c => (intOf ((w.cell? ⟨g, c / 64, none⟩).getD undef)).toNat.testBit (c % 64)
theorem readP_blk {w : World} {g : Nat} {t : TypeId} {q : Nat → Bool} (h : Blk w g t #[.int .u64 (word q 0), .int .u64 (word q 1), .int .u64 (word q 2), .int .u64 (word q 3), .int .u64 (word q 4)]) {c : Nat} (hc : c < 320) : readP w g c = q c := by
 obtain ⟨c0, c1, c2, c3, c4⟩ := h.c5w
 have key : w.cell? ⟨g, c / 64, none⟩ = some (.int .u64 ((word q (c / 64) : Nat) : Int)) := by
  rcases hd : c / 64 with _ | _ | _ | _ | _ | d
  ·exact c0
  ·exact c1
  ·exact c2
  ·exact c3
  ·exact c4
  ·omega
 unfold readP
 rw [key]
 have h4 : decide (c % 64 < 64) = true := by simp; omega
 show (((word q (c / 64) : Nat) : Int)).toNat.testBit (c % 64) = q c
 rw [Int.toNat_natCast, testBit_word, h4, Bool.true_and, show 64 * (c / 64) + c % 64 = c by omega]
def gapsB (q : Nat → Bool) : Nat := (List.range 320).countP (fun c => !q c)
theorem countP_le2 {f g : Nat → Bool} : ∀ {l : List Nat}, (∀ c ∈ l, f c = true → g c = true) → l.countP f ≤ l.countP g
 | [], _ => Nat.le_refl _
 | a :: l, h => by
  have h1 := countP_le2 (f := f) (g := g) (l := l) (fun c hc => h c (by simp [hc]))
  have h2 := h a (by simp)
  rw [List.countP_cons, List.countP_cons]
  cases hf : f a with
  | false => simp; omega
  | true => rw [h2 hf]; simp; omega
theorem countP_lt2 {f g : Nat → Bool} : ∀ {l : List Nat}, (∀ c ∈ l, f c = true → g c = true) → (∃ c ∈ l, f c = false ∧ g c = true) → l.countP f < l.countP g
 | [], _, ⟨c, h, _⟩ => by simp at h
 | a :: l, h, ⟨c, hc, h3, h4⟩ => by
  have h2 := h a (by simp)
  rw [List.countP_cons, List.countP_cons]
  rcases List.mem_cons.1 hc with rfl | hc
  ·have h1 := countP_le2 (f := f) (g := g) (l := l) (fun c hc => h c (by simp [hc]))
   rw [h3, h4]
   simp
   omega
  ·have h1 := countP_lt2 (f := f) (g := g) (l := l) (fun c hc => h c (by simp [hc])) ⟨c, hc, h3, h4⟩
   cases hf : f a with
   | false => simp; omega
   | true => rw [h2 hf]; simp; omega
theorem gaps_congr {p q : Nat → Bool} (h : ∀ c, c < 320 → p c = q c) : gapsB p = gapsB q := by
 unfold gapsB
 exact List.countP_congr (fun c hc => by rw [h c (by simpa using hc)])
theorem gaps_less {p e : Nat → Bool} {c : Nat} (hc : c < 320) (he : e c = true) (hp : p c = false) : gapsB (fun c => p c || e c) < gapsB p :=
 countP_lt2 (fun d _ h => by cases hd : p d <;> simp_all) ⟨c, by simpa using hc, by simp [he], by simp [hp]⟩
def togo (p e : Nat → Bool) : Nat := 2 * gapsB p + (if (List.range 320).any e then 1 else 0)
theorem togo_congr {p q e f : Nat → Bool} (h : ∀ c, c < 320 → p c = q c) (g : ∀ c, c < 320 → e c = f c) : togo p e = togo q f := by
 unfold togo
 rw [gaps_congr h]
 have : (List.range 320).any e = (List.range 320).any f := by
  rw [Bool.eq_iff_iff, List.any_eq_true, List.any_eq_true]
  exact ⟨fun ⟨c, h1, h2⟩ => ⟨c, h1, by rw [← g c (by simpa using h1)]; exact h2⟩, fun ⟨c, h1, h2⟩ => ⟨c, h1, by rw [g c (by simpa using h1)]; exact h2⟩⟩
 rw [this]
theorem togo_less {p e q : Nat → Bool} (he : ∃ c, c < 320 ∧ e c = true) (hq : ∀ c, q c = true → p c = false) : togo (fun c => p c || q c) q < togo p e := by
 obtain ⟨d, hd1, hd2⟩ := he
 have h1 : (List.range 320).any e = true := List.any_eq_true.2 ⟨d, by simpa using hd1, hd2⟩
 unfold togo
 rw [h1]
 cases h2 : (List.range 320).any q with
 | true =>
  obtain ⟨c, h3, h4⟩ := List.any_eq_true.1 h2
  have := gaps_less (p := p) (by simpa using h3) h4 (hq c h4)
  simp
  omega
 | false =>
  have h5 : gapsB (fun c => p c || q c) = gapsB p := gaps_congr fun c hc => by
   cases h6 : q c with
   | false => simp
   | true =>
    have : (List.range 320).any q = true := List.any_eq_true.2 ⟨c, by simpa using hc, h6⟩
    rw [h2] at this
    cases this
  rw [h5]
  simp
def blockOf : Value → Nat
 | .pointer (some a) => a.block
 | _ => 0
structure AgainI (x : Nd) (bs : List Nat) (base gm b cp fm cv : Nat) (V : Option Addr) (z : Nd) (p : Nat → Bool) (w W : World) (g : Nat) (q e : Nat → Bool) : Prop where
 mw : MW x bs base gm b cp fm cv V w W
 bg : Blk W g 51 #[.int .u64 (word e 0), .int .u64 (word e 1), .int .u64 (word e 2), .int .u64 (word e 3), .int .u64 (word e 4)]
 bq : Blk W w.heap.size 51 #[.int .u64 (word q 0), .int .u64 (word q 1), .int .u64 (word q 2), .int .u64 (word q 3), .int .u64 (word q 4)]
 br : Blk W (w.heap.size + 1) 51 #[.int .u64 0, .int .u64 0, .int .u64 0, .int .u64 0, .int .u64 0]
 far : w.heap.size + 2 ≤ g
 ag : AgainB (z.rel bs) p q e
 lt : fm < w.heap.size
theorem img_star {z : Nd} {bs : List Nat} {p : Nat → Bool} (hp : ∀ c, p c = true → c ≤ bs.length) (c : Nat) (h : imgB (starR (z.rel bs)) p c = true) : c ≤ bs.length := by
 obtain ⟨i, h1, m, h2⟩ := imgB_iff.1 h
 exact img_it hp m c (imgB_iff.2 ⟨i, h1, h2⟩)
theorem again_go {x : Nd} {bs : List Nat} {z : Nd} (hE : EachC x bs z) {base gm b cp fm cv : Nat} {V : Option Addr} (w : World) (hM : MatAt w x bs base gm b cp fm V cv) (k : Nat) (p : Nat → Bool) (hk : Below1 x.nodes k z) (hp : ∀ c, p c = true → c ≤ bs.length) :
  Calls Tryd.prog 82 #[.pointer (some ⟨gm, 0, none⟩), .int .i64 (k : Int), .agg #[.int .u64 (word p 0), .int .u64 (word p 1), .int .u64 (word p 2), .int .u64 (word p 3), .int .u64 (word p 4)]] w fun e w' => e = .returned (.agg #[.int .u64 ((word (imgB (starR (z.rel bs)) p) 0 : Nat) : Int), .int .u64 ((word (imgB (starR (z.rel bs)) p) 1 : Nat) : Int), .int .u64 ((word (imgB (starR (z.rel bs)) p) 2 : Nat) : Int), .int .u64 ((word (imgB (starR (z.rel bs)) p) 3 : Nat) : Int), .int .u64 ((word (imgB (starR (z.rel bs)) p) 4 : Nat) : Int)]) ∧ MatAt w' x bs base gm b cp fm V cv ∧ w.grownBy w' (some fm) := by
 obtain ⟨W0, hW0⟩ : ∃ W0, ((w.alloc (.cells #[.int .u64 (word p 0), .int .u64 (word p 1), .int .u64 (word p 2), .int .u64 (word p 3), .int .u64 (word p 4)] 51)).alloc (.cells #[.int .u64 0, .int .u64 0, .int .u64 0, .int .u64 0, .int .u64 0] 51)).alloc (.cells #[.int .u64 (word p 0), .int .u64 (word p 1), .int .u64 (word p 2), .int .u64 (word p 3), .int .u64 (word p 4)] 51) = W0 := ⟨_, rfl⟩
 have HM := Lib.hid hM
 have hlt := hM.memo.lt
 have HW0 := Lib.hid (show MW x bs base gm b cp fm cv V w W0 from by rw [← hW0]; exact (((MW.refl hM).alloc _).alloc _).alloc _)
 have HB0 := Lib.hid (show Blk W0 w.heap.size 51 #[.int .u64 (word p 0), .int .u64 (word p 1), .int .u64 (word p 2), .int .u64 (word p 3), .int .u64 (word p 4)] from by rw [← hW0]; exact ((Blk.new _ _ _).alloc _).alloc _)
 have HR0 := Lib.hid (show Blk W0 (w.heap.size + 1) 51 #[.int .u64 0, .int .u64 0, .int .u64 0, .int .u64 0, .int .u64 0] from by rw [← hW0]; exact (Blk.new_at (by simp)).alloc _)
 have HG0 := Lib.hid (show Blk W0 (w.heap.size + 2) 51 #[.int .u64 (word p 0), .int .u64 (word p 1), .int .u64 (word p 2), .int .u64 (word p 3), .int .u64 (word p 4)] from by rw [← hW0]; exact Blk.new_at (by simp))
 have HE := Lib.hid hE
 have HKB := Lib.hid hk
 have HP := Lib.hid hp
 have HLN := Lib.hid hM.len
 clear hM hE hk hp
 go_enter Tryd.func82, Tryd.ntmps82
 go_wp2
 go_loopw [7] (fun v wr => ∃ (g : Nat) (q e : Nat → Bool), v = .pointer (some ⟨g, 0, none⟩) ∧ Hid (AgainI x bs base gm b cp fm cv V z p w wr g q e)) (fun v wr => togo (readP wr w.heap.size) (readP wr (blockOf v)))
 case atStart => exact ⟨w.heap.size + 2, p, p, rfl, Lib.hid ⟨HW0.out, HG0.out, HB0.out, HR0.out, Nat.le_refl _, again_start _ _, hlt⟩⟩
 case round =>
  clear HW0 HB0 HR0 HG0
  obtain ⟨g, q, e, rfl, HI⟩ := hrel
  obtain ⟨c0, c1, c2, c3, c4⟩ := HI.out.bg.c5w
  obtain ⟨d0, d1, d2, d3, d4⟩ := HI.out.bq.c5w
  have lb := HI.out.bq.lt
  have lr := HI.out.br.lt
  have lg := HI.out.bg.lt
  have hq := Lib.hid (show ∀ c, q c = true → c ≤ bs.length from fun c hc => img_star HP.out c (HI.out.ag.sound c hc))
  have he := Lib.hid (show ∀ c, e c = true → c ≤ bs.length from fun c hc => hq.out c (HI.out.ag.edge c hc))
  cases hsm : sameB e (fun _ => false) with
  | true =>
   have HQ := Lib.hid ((sameB_iff (fun c hc => by have := he.out c hc; have := HLN.out; omega) (fun c hc => by cases hc)).1 hsm)
   obtain ⟨r0, r1, r2, r3, r4⟩ := HI.out.br.c5w
   obtain ⟨e0, e1, e2, e3, e4⟩ := HI.out.br.f5w
   go_wp2
   have hfin := HI.out.ag.done (fun c => by rw [HQ.out])
   refine bodyPost_ret (ret_pl Tryd.results82 rfl (HI.out.br.put5 q)) rfl ?_
   have hF := HI.out.mw.stow HM.out (g := w.heap.size + 1) (by omega) q
   exact ⟨by rw [hfin], hF.mat, hF.grown⟩
  | false =>
   have hne : ∃ c, c < 320 ∧ e c = true := by
    by_cases h : ∃ c, e c = true
    ·obtain ⟨c, hc⟩ := h
     exact ⟨c, by have := he.out c hc; have := HLN.out; omega, hc⟩
    ·have h1 : e = fun _ => false := funext fun c => by
      cases h2 : e c with
      | false => rfl
      | true => exact absurd ⟨c, h2⟩ h
     rw [h1] at hsm
     have h3 : sameB (fun _ => false) (fun _ => false) = true := sameB_words.2 fun i _ => rfl
     rw [h3] at hsm
     cases hsm
   have HNE := Lib.hid hne
   clear hne
   go_wp2
   have HWd := Lib.hid HI.out.mw.drew
   have hgf := HI.out.far
   go_region_with (first
    | (go_at_call 80; refine (HE.out base gm b cp fm cv V _ HWd.out.mat k e HKB.out he.out).mono ?_; rintro _ w4 ⟨rfl, hm4, hg4⟩; have HW4 := Lib.hid (HWd.out.call hm4 hg4); have HG4 := Lib.hid (Blk.past (W := wr.drew) HI.out.bg hg4 (by omega)); have HQ4 := Lib.hid (Blk.past (W := wr.drew) HI.out.bq hg4 (by omega)); have HR4 := Lib.hid (Blk.past (W := wr.drew) HI.out.br hg4 (by omega)); clear hm4 hg4; obtain ⟨d0, d1, d2, d3, d4⟩ := HQ4.out.c5w)
    | (go_at_call 93; refine (pbut_go _ _ _).mono ?_; rintro _ w5 ⟨rfl, hb5⟩; have HW5 := Lib.hid (HW4.out.below hb5); have HG5 := Lib.hid (HG4.out.below hb5 HG4.out.lt); have HQ5 := Lib.hid (HQ4.out.below hb5 HQ4.out.lt); have HR5 := Lib.hid (HR4.out.below hb5 HR4.out.lt); clear hb5; obtain ⟨c0, c1, c2, c3, c4⟩ := HG5.out.c5w; obtain ⟨f0, f1, f2, f3, f4⟩ := HG5.out.f5w))
   all_goals
    obtain ⟨e2, he2, HN⟩ : ∃ e2, (fun c => imgB (z.rel bs) e c && !q c) = e2 ∧ Hid (∀ c, e2 c = true ↔ imgB (z.rel bs) e c = true ∧ q c = false) := ⟨_, rfl, Lib.hid (fun c => by simp)⟩
    rw [he2]
    have HW6 := Lib.hid (HW5.out.stow HM.out (g := g) (by omega) e2)
    have HG6 := Lib.hid (HG5.out.put5 e2)
    have HQ6 := Lib.hid (HQ5.out.grown (grown5 w5 g e2) (by simp; omega))
    have HR6 := Lib.hid (HR5.out.grown (grown5 w5 g e2) (by simp; omega))
    obtain ⟨W6, hW6⟩ : ∃ W6, stow5 w5 g e2 = W6 := ⟨_, rfl⟩
    rw [hW6] at HW6 HG6 HQ6 HR6
    unfold stow5 at hW6
    rw [hW6]
    clear he2 hW6 HW5 HG5 HQ5 HR5 HW4 HG4 HQ4 HR4 HWd c0 c1 c2 c3 c4 d0 d1 d2 d3 d4 f0 f1 f2 f3 f4 lb lr lg hW0 W0
    obtain ⟨c0, c1, c2, c3, c4⟩ := HG6.out.c5w
    obtain ⟨d0, d1, d2, d3, d4⟩ := HQ6.out.c5w
    go_wp2_with fail
    refine (pwith_go q e2 W6).mono ?_
    rintro _ W7 ⟨rfl, hb7⟩
    have HW7 := Lib.hid (HW6.out.below hb7)
    have HG7 := Lib.hid (HG6.out.below hb7 HG6.out.lt)
    have HQ7 := Lib.hid (HQ6.out.below hb7 HQ6.out.lt)
    have HR7 := Lib.hid (HR6.out.below hb7 HR6.out.lt)
    clear hb7 HW6 HG6 HQ6 HR6 c0 c1 c2 c3 c4 d0 d1 d2 d3 d4
    obtain ⟨c0, c1, c2, c3, c4⟩ := HG7.out.c5w
    obtain ⟨d0, d1, d2, d3, d4⟩ := HQ7.out.c5w
    obtain ⟨f0, f1, f2, f3, f4⟩ := HQ7.out.f5w
    have lg := HG7.out.lt
    have lq := HQ7.out.lt
    have lr := HR7.out.lt
    have hgq : g ≠ w.heap.size := by omega
    dsimp only
    go_wp2
    have hA : AgainI x bs base gm b cp fm cv V z p w ((stow5 W7 w.heap.size (fun c => q c || e2 c)).alloc (.cells #[.int .u64 (word e2 0), .int .u64 (word e2 1), .int .u64 (word e2 2), .int .u64 (word e2 3), .int .u64 (word e2 4)] 51)) W7.heap.size (fun c => q c || e2 c) e2 :=
     ⟨(HW7.out.stow HM.out (g := w.heap.size) (Nat.le_refl _) _).alloc _, Blk.new_at (by simp [stow5]), (HQ7.out.put5 _).alloc _, (HR7.out.grown (grown5 W7 w.heap.size (fun c => q c || e2 c)) (by simp)).alloc _, by omega, HI.out.ag.next HN.out, hlt⟩
    refine ⟨⟨_, fun c => q c || e2 c, e2, rfl, Lib.hid hA⟩, ?_⟩
    have m1 := togo_congr (fun c hc => readP_blk hA.bq hc) (fun c hc => readP_blk hA.bg hc)
    have m2 := togo_congr (fun c hc => readP_blk HI.out.bq hc) (fun c hc => readP_blk HI.out.bg hc)
    exact Nat.lt_of_lt_of_eq (Nat.lt_of_le_of_lt (Nat.le_of_eq m1) (togo_less HNE.out (fun c hc => ((HN.out c).1 hc).2))) m2.symm
structure TimesI (x : Nd) (bs : List Nat) (base gm b cp fm cv : Nat) (V : Option Addr) (w W : World) (a : Nat) (q s : Nat → Bool) : Prop where
 mw : MW x bs base gm b cp fm cv V w W
 bq : Blk W w.heap.size 51 #[.int .u64 (word q 0), .int .u64 (word q 1), .int .u64 (word q 2), .int .u64 (word q 3), .int .u64 (word q 4)]
 br : Blk W (w.heap.size + 1) 51 #[.int .u64 0, .int .u64 0, .int .u64 0, .int .u64 0, .int .u64 0]
 ba : Blk W a 51 #[.int .u64 (word s 0), .int .u64 (word s 1), .int .u64 (word s 2), .int .u64 (word s 3), .int .u64 (word s 4)]
 far : w.heap.size + 2 ≤ a
 lt : fm < w.heap.size
theorem TimesI.call {x : Nd} {bs : List Nat} {base gm b cp fm cv a : Nat} {V : Option Addr} {w W W' : World} {q s : Nat → Bool} (h : TimesI x bs base gm b cp fm cv V w W a q s) (hm : MatAt W' x bs base gm b cp fm V cv) (hg : W.grownBy W' (some fm)) : TimesI x bs base gm b cp fm cv V w W' a q s :=
 ⟨h.mw.call hm hg, h.bq.past hg h.lt, h.br.past hg (by have := h.lt; omega), h.ba.past hg (by have := h.lt; have := h.far; omega), h.far, h.lt⟩
theorem TimesI.below {x : Nd} {bs : List Nat} {base gm b cp fm cv a : Nat} {V : Option Addr} {w W W' : World} {q s : Nat → Bool} (h : TimesI x bs base gm b cp fm cv V w W a q s) (hb : Below W.heap.size W W') : TimesI x bs base gm b cp fm cv V w W' a q s :=
 ⟨h.mw.below hb, h.bq.below hb h.bq.lt, h.br.below hb h.br.lt, h.ba.below hb h.ba.lt, h.far, h.lt⟩
theorem TimesI.alloc {x : Nd} {bs : List Nat} {base gm b cp fm cv a : Nat} {V : Option Addr} {w W : World} {q s : Nat → Bool} (h : TimesI x bs base gm b cp fm cv V w W a q s) (o : Obj) : TimesI x bs base gm b cp fm cv V w (W.alloc o) a q s := h.below ((Below.refl _ _).alloc (Nat.le_refl _) _)
theorem TimesI.putq {x : Nd} {bs : List Nat} {base gm b cp fm cv a : Nat} {V : Option Addr} {w W : World} {q s : Nat → Bool} (hM : MatAt w x bs base gm b cp fm V cv) (h : TimesI x bs base gm b cp fm cv V w W a q s) (q' : Nat → Bool) : TimesI x bs base gm b cp fm cv V w (stow5 W w.heap.size q') a q' s :=
 have g5 := grown5 W w.heap.size q'
 have := h.far
 ⟨h.mw.stow hM (Nat.le_refl _) q', h.bq.put5 q', h.br.grown g5 (by simp), h.ba.grown g5 (by simp; omega), h.far, h.lt⟩
theorem TimesI.puts {x : Nd} {bs : List Nat} {base gm b cp fm cv a : Nat} {V : Option Addr} {w W : World} {q s : Nat → Bool} (hM : MatAt w x bs base gm b cp fm V cv) (h : TimesI x bs base gm b cp fm cv V w W a q s) (s' : Nat → Bool) : TimesI x bs base gm b cp fm cv V w (stow5 W a s') a q s' :=
 have g5 := grown5 W a s'
 have := h.far
 ⟨h.mw.stow hM (by omega) s', h.bq.grown g5 (by simp; omega), h.br.grown g5 (by simp; omega), h.ba.put5 s', h.far, h.lt⟩
theorem times11_go {x : Nd} {bs : List Nat} {z : Nd} (hE : EachC x bs z) {base gm b cp fm cv : Nat} {V : Option Addr} (w : World) (hM : MatAt w x bs base gm b cp fm V cv) (k : Nat) (p : Nat → Bool) (lo : Nat) (hi : Int) (hlo : lo ≤ 1000000) (hhi : hi ≤ 1000000) (hh : hi < 0 ∨ (lo : Int) ≤ hi) (hmn : -9000000000000000000 ≤ hi) (hk : Below1 x.nodes k z) (hp : ∀ c, p c = true → c ≤ bs.length) :
  Calls Tryd.prog 83 #[.pointer (some ⟨gm, 0, none⟩), .int .i64 (k : Int), .agg #[.int .u64 (word p 0), .int .u64 (word p 1), .int .u64 (word p 2), .int .u64 (word p 3), .int .u64 (word p 4)], .int .i64 (lo : Int), .int .i64 hi] w fun e w' => e = .returned (.agg #[.int .u64 ((word (imgB (repR (lo : Int) hi (z.rel bs)) p) 0 : Nat) : Int), .int .u64 ((word (imgB (repR (lo : Int) hi (z.rel bs)) p) 1 : Nat) : Int), .int .u64 ((word (imgB (repR (lo : Int) hi (z.rel bs)) p) 2 : Nat) : Int), .int .u64 ((word (imgB (repR (lo : Int) hi (z.rel bs)) p) 3 : Nat) : Int), .int .u64 ((word (imgB (repR (lo : Int) hi (z.rel bs)) p) 4 : Nat) : Int)]) ∧ MatAt w' x bs base gm b cp fm V cv ∧ w.grownBy w' (some fm) := by
 obtain ⟨W0, hW0⟩ : ∃ W0, (w.alloc (.cells #[.int .u64 (word p 0), .int .u64 (word p 1), .int .u64 (word p 2), .int .u64 (word p 3), .int .u64 (word p 4)] 51)).alloc (.cells #[.int .u64 0, .int .u64 0, .int .u64 0, .int .u64 0, .int .u64 0] 51) = W0 := ⟨_, rfl⟩
 have HM := Lib.hid hM
 have hlt := hM.memo.lt
 have HW0 := Lib.hid (show MW x bs base gm b cp fm cv V w W0 from by rw [← hW0]; exact ((MW.refl hM).alloc _).alloc _)
 have HB0 := Lib.hid (show Blk W0 w.heap.size 51 #[.int .u64 (word p 0), .int .u64 (word p 1), .int .u64 (word p 2), .int .u64 (word p 3), .int .u64 (word p 4)] from by rw [← hW0]; exact (Blk.new _ _ _).alloc _)
 have HR0 := Lib.hid (show Blk W0 (w.heap.size + 1) 51 #[.int .u64 0, .int .u64 0, .int .u64 0, .int .u64 0, .int .u64 0] from by rw [← hW0]; exact Blk.new_at (by simp))
 have HE := Lib.hid hE
 have HKB := Lib.hid hk
 have HP := Lib.hid hp
 have HLN := Lib.hid hM.len
 have HJ := Lib.hid (just_go hE W0 HW0.out.mat k p lo (by omega) hk hp)
 obtain ⟨c0, c1, c2, c3, c4⟩ := HB0.out.c5w
 have lb := HB0.out.lt
 clear hM hE hk hp
 go_enter Tryd.func83, Tryd.ntmps83
 go_wp2_with fail
 refine HJ.out.mono ?_
 rintro e W1 ⟨rfl, hm1, hg1⟩
 have HW1 := Lib.hid (HW0.out.call hm1 hg1)
 have HB1 := Lib.hid (HB0.out.past hg1 hlt)
 have HR1 := Lib.hid (HR0.out.past hg1 (by omega))
 clear hm1 hg1 HJ HW0 HB0 HR0 hW0 c0 c1 c2 c3 c4
 have hp1 := Lib.hid (img_it (z := z) HP.out lo)
 obtain ⟨c0, c1, c2, c3, c4⟩ := HB1.out.c5w
 obtain ⟨f0, f1, f2, f3, f4⟩ := HB1.out.f5w
 dsimp only
 by_cases hneg : hi < 0
 ·have hd : decide (hi < 0) = true := by simpa using hneg
  have HRe := Lib.hid (show imgB (repR (lo : Int) hi (z.rel bs)) p = imgB (starR (z.rel bs)) (imgB (itR (z.rel bs) lo) p) from by
   rw [imgB_comp]
   exact imgB_congr (rep_endless (z.rel bs) lo hi hneg) p)
  have HF := Lib.hid (HW1.out.stow HM.out (g := w.heap.size) (Nat.le_refl _) (imgB (itR (z.rel bs) lo) p))
  have HBF := Lib.hid (HB1.out.put5 (imgB (itR (z.rel bs) lo) p))
  have HRF := Lib.hid (HR1.out.grown (grown5 W1 w.heap.size (imgB (itR (z.rel bs) lo) p)) (by simp))
  go_wp2_with fail
  refine (again_go HE.out (stow5 W1 w.heap.size (imgB (itR (z.rel bs) lo) p)) HF.out.mat k _ HKB.out hp1.out).mono ?_
  rintro e W2 ⟨rfl, hm2, hg2⟩
  have HW2 := Lib.hid (HF.out.call hm2 hg2)
  have HR2 := Lib.hid (HRF.out.past hg2 (by omega))
  clear hm2 hg2 HF HBF HRF HW1 HB1 HR1 c0 c1 c2 c3 c4 f0 f1 f2 f3 f4
  obtain ⟨c0, c1, c2, c3, c4⟩ := HR2.out.c5w
  obtain ⟨f0, f1, f2, f3, f4⟩ := HR2.out.f5w
  dsimp only
  generalize hq : imgB (starR (z.rel bs)) (imgB (itR (z.rel bs) lo) p) = q at *
  go_wp2
  refine bodyPost_ret (ret_pl Tryd.results83 rfl (HR2.out.put5 q)) rfl ?_
  have hF := HW2.out.stow HM.out (g := w.heap.size + 1) (by omega) q
  exact ⟨by rw [HRe.out], hF.mat, hF.grown⟩
 ·have hd : decide (hi < 0) = false := by simpa using hneg
  obtain ⟨h, rfl⟩ : ∃ h : Nat, hi = (h : Int) := ⟨hi.toNat, by omega⟩
  have hlh : lo ≤ h := by omega
  have hh6 : h ≤ 1000000 := by omega
  have HRe := Lib.hid (show imgB (repR (lo : Int) (h : Int) (z.rel bs)) p = imgB (betweenR (z.rel bs) lo h) p from imgB_congr (rep_between (z.rel bs) lo h) p)
  obtain ⟨W2, hW2⟩ : ∃ W2, (stow5 W1 w.heap.size (imgB (itR (z.rel bs) lo) p)).alloc (.cells #[.int .u64 ((word (imgB (itR (z.rel bs) lo) p) 0 : Nat) : Int), .int .u64 ((word (imgB (itR (z.rel bs) lo) p) 1 : Nat) : Int), .int .u64 ((word (imgB (itR (z.rel bs) lo) p) 2 : Nat) : Int), .int .u64 ((word (imgB (itR (z.rel bs) lo) p) 3 : Nat) : Int), .int .u64 ((word (imgB (itR (z.rel bs) lo) p) 4 : Nat) : Int)] 51) = W2 := ⟨_, rfl⟩
  have hsz : (stow5 W1 w.heap.size (imgB (itR (z.rel bs) lo) p)).heap.size = W1.heap.size := by simp [stow5]
  have hlw : w.heap.size + 2 ≤ W1.heap.size := by have := HR1.out.lt; omega
  have HT0 := Lib.hid (show TimesI x bs base gm b cp fm cv V w W2 W1.heap.size (imgB (itR (z.rel bs) lo) p) (imgB (betweenR (z.rel bs) lo lo) p) from by
   rw [← hW2, between_one]
   exact ⟨(HW1.out.stow HM.out (g := w.heap.size) (Nat.le_refl _) _).alloc _, (HB1.out.put5 _).alloc _, (HR1.out.grown (grown5 W1 w.heap.size _) (by simp)).alloc _, Blk.new_at hsz.symm, hlw, hlt⟩)
  unfold stow5 at hW2
  clear hsz hneg HW1 HB1 HR1 hh hhi hmn
  go_wp2
  generalize W1.heap.size = a at *
  go_loopw [12] (fun v wr => ∃ j : Nat, v = .int .i64 (j : Int) ∧ lo ≤ j ∧ j ≤ h ∧ Hid (TimesI x bs base gm b cp fm cv V w wr a (imgB (itR (z.rel bs) j) p) (imgB (betweenR (z.rel bs) lo j) p))) (fun v _ => h - (intOf v).toNat)
  case atStart => exact ⟨lo, rfl, Nat.le_refl _, hlh, HT0⟩
  case round =>
   clear HT0
   obtain ⟨j, rfl, hj1, hj2, HT⟩ := hrel
   obtain ⟨d0, d1, d2, d3, d4⟩ := HT.out.bq.c5w
   obtain ⟨a0, a1, a2, a3, a4⟩ := HT.out.ba.c5w
   have lb2 := HT.out.bq.lt
   have la := HT.out.ba.lt
   have lr := HT.out.br.lt
   have hfar := HT.out.far
   have hpj := Lib.hid (img_it (z := z) HP.out j)
   have hpj1 := Lib.hid (img_it (z := z) HP.out (j + 1))
   by_cases hjh : j = h
   ·subst hjh
    obtain ⟨r0, r1, r2, r3, r4⟩ := HT.out.br.c5w
    obtain ⟨e0, e1, e2, e3, e4⟩ := HT.out.br.f5w
    go_wp2
    refine bodyPost_ret (ret_pl Tryd.results83 rfl (HT.out.br.put5 (imgB (betweenR (z.rel bs) lo j) p))) rfl ?_
    have hF := HT.out.mw.stow HM.out (g := w.heap.size + 1) (by omega) (imgB (betweenR (z.rel bs) lo j) p)
    exact ⟨by rw [HRe.out], hF.mat, hF.grown⟩
   ·have hdl : (j : Int) < (h : Int) := by omega
    cases hsm : sameB (imgB (itR (z.rel bs) j) p) (fun _ => false) with
    | true =>
     have HFX := Lib.hid (show imgB (betweenR (z.rel bs) lo j) p = imgB (betweenR (z.rel bs) lo h) p from by
      have h1 := (sameB_iff (fun c hc => by have := hpj.out c hc; have := HLN.out; omega) (fun c hc => by cases hc)).1 hsm
      exact between_fix hj1 hj2 (by rw [h1]; exact funext (imgB_none (fun _ => rfl))))
     obtain ⟨r0, r1, r2, r3, r4⟩ := HT.out.br.c5w
     obtain ⟨e0, e1, e2, e3, e4⟩ := HT.out.br.f5w
     go_wp2
     refine bodyPost_ret (ret_pl Tryd.results83 rfl (HT.out.br.put5 (imgB (betweenR (z.rel bs) lo j) p))) rfl ?_
     have hF := HT.out.mw.stow HM.out (g := w.heap.size + 1) (by omega) (imgB (betweenR (z.rel bs) lo j) p)
     exact ⟨by rw [HRe.out, ← HFX.out], hF.mat, hF.grown⟩
    | false =>
     have HC := Lib.hid (HE.out base gm b cp fm cv V wr HT.out.mw.mat k (imgB (itR (z.rel bs) j) p) HKB.out hpj.out)
     rw [imgB_next] at HC
     go_wp2_with fail
     refine HC.out.mono ?_
     rintro e w4 ⟨rfl, hm4, hg4⟩
     have HT4 := Lib.hid (HT.out.call hm4 hg4)
     clear hm4 hg4 HC HT d0 d1 d2 d3 d4 a0 a1 a2 a3 a4 lb2 la lr hsm
     obtain ⟨d0, d1, d2, d3, d4⟩ := HT4.out.bq.c5w
     obtain ⟨a0, a1, a2, a3, a4⟩ := HT4.out.ba.c5w
     have lb2 := HT4.out.bq.lt
     have la := HT4.out.ba.lt
     have lr := HT4.out.br.lt
     have hne1 : w.heap.size ≠ w4.heap.size := by omega
     have hne2 : a ≠ w4.heap.size := by omega
     dsimp only
     cases hsm : sameB (imgB (itR (z.rel bs) (j + 1)) p) (imgB (itR (z.rel bs) j) p) with
     | true =>
      have HFX := Lib.hid (show imgB (betweenR (z.rel bs) lo j) p = imgB (betweenR (z.rel bs) lo h) p from by
       have h1 := (sameB_iff (fun c hc => by have := hpj1.out c hc; have := HLN.out; omega) (fun c hc => by have := hpj.out c hc; have := HLN.out; omega)).1 hsm
       exact between_fix hj1 hj2 (by rw [imgB_next]; exact h1))
      obtain ⟨r0, r1, r2, r3, r4⟩ := HT4.out.br.c5w
      obtain ⟨e0, e1, e2, e3, e4⟩ := HT4.out.br.f5w
      go_wp2
      refine bodyPost_ret (ret_pl Tryd.results83 rfl ((HT4.out.br.put5 (imgB (betweenR (z.rel bs) lo j) p)).alloc _)) rfl ?_
      have hF := (HT4.out.mw.stow HM.out (g := w.heap.size + 1) (by omega) (imgB (betweenR (z.rel bs) lo j) p)).alloc (.cells #[.int .u64 ((word (imgB (itR (z.rel bs) (j + 1)) p) 0 : Nat) : Int), .int .u64 ((word (imgB (itR (z.rel bs) (j + 1)) p) 1 : Nat) : Int), .int .u64 ((word (imgB (itR (z.rel bs) (j + 1)) p) 2 : Nat) : Int), .int .u64 ((word (imgB (itR (z.rel bs) (j + 1)) p) 3 : Nat) : Int), .int .u64 ((word (imgB (itR (z.rel bs) (j + 1)) p) 4 : Nat) : Int)] 51)
      exact ⟨by rw [HRe.out, ← HFX.out], hF.mat, hF.grown⟩
     | false =>
      obtain ⟨f0, f1, f2, f3, f4⟩ := HT4.out.bq.f5w
      obtain ⟨W5, hW5⟩ : ∃ W5, (stow5 w4 w.heap.size (imgB (itR (z.rel bs) (j + 1)) p)).alloc (.cells #[.int .u64 ((word (imgB (itR (z.rel bs) (j + 1)) p) 0 : Nat) : Int), .int .u64 ((word (imgB (itR (z.rel bs) (j + 1)) p) 1 : Nat) : Int), .int .u64 ((word (imgB (itR (z.rel bs) (j + 1)) p) 2 : Nat) : Int), .int .u64 ((word (imgB (itR (z.rel bs) (j + 1)) p) 3 : Nat) : Int), .int .u64 ((word (imgB (itR (z.rel bs) (j + 1)) p) 4 : Nat) : Int)] 51) = W5 := ⟨_, rfl⟩
      have HT5 := Lib.hid (show TimesI x bs base gm b cp fm cv V w W5 a (imgB (itR (z.rel bs) (j + 1)) p) (imgB (betweenR (z.rel bs) lo j) p) from by
       rw [← hW5]
       exact (HT4.out.putq HM.out _).alloc _)
      unfold stow5 at hW5
      obtain ⟨b0, b1, b2, b3, b4⟩ := HT5.out.bq.c5w
      obtain ⟨g0, g1, g2, g3, g4⟩ := HT5.out.ba.c5w
      go_wp2_with fail
      refine (pwith_go (imgB (betweenR (z.rel bs) lo j) p) (imgB (itR (z.rel bs) (j + 1)) p) _).mono ?_
      rintro _ W6 ⟨rfl, hb6⟩
      have HT6 := Lib.hid (HT5.out.below hb6)
      rw [between_more hj1]
      clear hb6 HT5 HT4 hW5 b0 b1 b2 b3 b4 g0 g1 g2 g3 g4 d0 d1 d2 d3 d4 a0 a1 a2 a3 a4 f0 f1 f2 f3 f4 lb2 la lr hsm
      obtain ⟨g0, g1, g2, g3, g4⟩ := HT6.out.ba.c5w
      obtain ⟨f0, f1, f2, f3, f4⟩ := HT6.out.ba.f5w
      have la := HT6.out.ba.lt
      have hwj : IntKind.i64.wrap ((j : Int) + 1) = (j : Int) + 1 := by rw [IntKind.wrap_i64]; omega
      dsimp only
      go_wp2
      refine ⟨⟨j + 1, by rw [show ((j + 1 : Nat) : Int) = (j : Int) + 1 by omega], by omega, by omega, ?_⟩, ?_⟩
      ·exact Lib.hid (HT6.out.puts HM.out (imgB (betweenR (z.rel bs) lo (j + 1)) p))
      ·simp [intOf]; omega
end Go.Proofs.YtfcblmbieiibmaaDoor
