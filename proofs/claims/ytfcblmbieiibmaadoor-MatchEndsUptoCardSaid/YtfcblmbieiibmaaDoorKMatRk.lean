/- Texts of the claim. -/
import Derived.Test.YtfcblmbieiibmaaDoorKRRightX
namespace Go.Proofs.YtfcblmbieiibmaaDoor
open Go.RowKit
set_option linter.unusedSimpArgs false
set_option linter.unusedVariables false
set_option maxRecDepth 100000
set_option maxHeartbeats 8000000
def SomeB (e : Ending) : Prop := ∃ b : Bool, e = .returned (.bool b)
def NumC (f : FuncId) (n : Nat) : Prop := ∀ (x : Nd) (P : Nat → Prop) (B : Option Addr) (cap : Nat) (w : World), x.size ≤ n → x.size ≤ 1000000 → TreesAt w P x.kids B →
 Calls Tryd.prog f #[ndV x B cap] w fun e w' => (∃ m : Int, e = .returned (.int .i64 m)) ∧ Below w.heap.size w w'
theorem rloops_step {n : Nat} (ih : NumC 24 n) : NumC 24 (n + 1) := by
 intro x P B cap w hsz hlen ht
 have H0 := Lib.hid (show Blk (w.alloc (.cells (ndA x B cap) 28)) w.heap.size 28 (ndA x B cap) ∧ Below w.heap.size w (w.alloc (.cells (ndA x B cap) 28)) from ⟨Blk.new _ _ _, (Below.refl _ _).alloc (Nat.le_refl _) _⟩)
 have HT := Lib.hid ht
 have hlk : x.kids.len ≤ 1000000 := by have := Trees.len_size x.kids; unfold Nd.size at hlen; omega
 have hks : x.kids.size + 1 = x.size := by unfold Nd.size; omega
 clear ht
 unfold ndV
 go_enter Tryd.func24, Tryd.ntmps24
 go_wp2
 go_loopw [3, 4] (fun v i wr => ∃ (k : Nat) (m : Int), i = .int .i64 (k : Int) ∧ k ≤ x.kids.len ∧ v = .int .i64 m ∧ Hid (Blk wr w.heap.size 28 (ndA x B cap) ∧ Below w.heap.size w wr)) (fun _ i _ => x.kids.len - (intOf i).toNat)
 case atStart => exact ⟨0, _, rfl, Nat.zero_le _, rfl, H0⟩
 case round =>
  clear H0
  obtain ⟨k, m, rfl, hk, rfl, HH⟩ := hrel
  have hX := HH.out.1
  have y0 : wr.cell? ⟨w.heap.size, 0, none⟩ = some (.int .i64 x.kind) := hX.cell 0
  have y1 : wr.cell? ⟨w.heap.size, 1, none⟩ = some (.int .u64 (word x.set.testBit 0)) := hX.cell 1
  have y2 : wr.cell? ⟨w.heap.size, 2, none⟩ = some (.int .u64 (word x.set.testBit 1)) := hX.cell 2
  have y3 : wr.cell? ⟨w.heap.size, 3, none⟩ = some (.int .u64 (word x.set.testBit 2)) := hX.cell 3
  have y4 : wr.cell? ⟨w.heap.size, 4, none⟩ = some (.int .u64 (word x.set.testBit 3)) := hX.cell 4
  have y5 : wr.cell? ⟨w.heap.size, 5, none⟩ = some (.slice B x.kids.len cap) := hX.cell 5
  have y6 : wr.cell? ⟨w.heap.size, 6, none⟩ = some (.int .i64 x.lo) := hX.cell 6
  have y7 : wr.cell? ⟨w.heap.size, 7, none⟩ = some (.int .i64 x.hi) := hX.cell 7
  by_cases hlt : k < x.kids.len
  ·obtain ⟨z, hz⟩ : ∃ z, x.kids.list[k]? = some z := ⟨_, List.getElem?_eq_getElem (by rw [Trees.len_list]; exact hlt)⟩
   have hzs := Trees.size_get x.kids k z hz
   obtain ⟨b, o, C, capc, rfl, _, _, ⟨c0, c1, c2, c3, c4, c5, c6, c7⟩, hkz⟩ := (HT.out.below HH.out.2).get hz
   have hdl : (k : Int) < (x.kids.len : Int) := by omega
   have HI := Lib.hid (ih z P C capc wr (by omega) (by omega) hkz)
   have hwk : IntKind.i64.wrap ((k : Int) + 1) = (k : Int) + 1 := by rw [IntKind.wrap_i64]; omega
   clear hz hzs hkz hX
   unfold ndV at HI
   go_wp2_with fail
   refine HI.out.mono ?_
   rintro e w3 ⟨⟨mz, rfl⟩, hb3⟩
   have HH3 := Lib.hid (show _ ∧ _ from ⟨HH.out.1.below hb3 HH.out.1.lt, HH.out.2.trans (hb3.mono HH.out.2.size)⟩)
   clear hb3 HI y0 y1 y2 y3 y4 y5 y6 y7 c0 c1 c2 c3 c4 c5 c6 c7
   dsimp only
   go_wp2
   go_roundw
   case rel => exact ⟨k + 1, _, by go_num, by omega, rfl, HH3⟩
   case measure => simp [intOf]; omega
  ·obtain rfl : k = x.kids.len := by omega
   have hdl : ¬ ((x.kids.len : Int) < (x.kids.len : Int)) := by omega
   clear hX
   by_cases hk6 : 6 ≤ x.kind
   all_goals
    go_wp2
    go_light
    go_ret
    exact ⟨⟨_, rfl⟩, HH.out.2⟩
theorem rtimes_step {n : Nat} (ih : NumC 25 n) : NumC 25 (n + 1) := by
 intro x P B cap w hsz hlen ht
 have H0 := Lib.hid (show Blk (w.alloc (.cells (ndA x B cap) 28)) w.heap.size 28 (ndA x B cap) ∧ Below w.heap.size w (w.alloc (.cells (ndA x B cap) 28)) from ⟨Blk.new _ _ _, (Below.refl _ _).alloc (Nat.le_refl _) _⟩)
 have HT := Lib.hid ht
 have hlk : x.kids.len ≤ 1000000 := by have := Trees.len_size x.kids; unfold Nd.size at hlen; omega
 have hks : x.kids.size + 1 = x.size := by unfold Nd.size; omega
 clear ht
 unfold ndV
 go_enter Tryd.func25, Tryd.ntmps25
 go_wp2
 go_loopw [3, 4] (fun v i wr => ∃ (k : Nat) (m : Int), i = .int .i64 (k : Int) ∧ k ≤ x.kids.len ∧ v = .int .i64 m ∧ Hid (Blk wr w.heap.size 28 (ndA x B cap) ∧ Below w.heap.size w wr)) (fun _ i _ => x.kids.len - (intOf i).toNat)
 case atStart => exact ⟨0, _, rfl, Nat.zero_le _, rfl, H0⟩
 case round =>
  clear H0
  obtain ⟨k, m, rfl, hk, rfl, HH⟩ := hrel
  have hX := HH.out.1
  have y0 : wr.cell? ⟨w.heap.size, 0, none⟩ = some (.int .i64 x.kind) := hX.cell 0
  have y1 : wr.cell? ⟨w.heap.size, 1, none⟩ = some (.int .u64 (word x.set.testBit 0)) := hX.cell 1
  have y2 : wr.cell? ⟨w.heap.size, 2, none⟩ = some (.int .u64 (word x.set.testBit 1)) := hX.cell 2
  have y3 : wr.cell? ⟨w.heap.size, 3, none⟩ = some (.int .u64 (word x.set.testBit 2)) := hX.cell 3
  have y4 : wr.cell? ⟨w.heap.size, 4, none⟩ = some (.int .u64 (word x.set.testBit 3)) := hX.cell 4
  have y5 : wr.cell? ⟨w.heap.size, 5, none⟩ = some (.slice B x.kids.len cap) := hX.cell 5
  have y6 : wr.cell? ⟨w.heap.size, 6, none⟩ = some (.int .i64 x.lo) := hX.cell 6
  have y7 : wr.cell? ⟨w.heap.size, 7, none⟩ = some (.int .i64 x.hi) := hX.cell 7
  by_cases hlt : k < x.kids.len
  ·obtain ⟨z, hz⟩ : ∃ z, x.kids.list[k]? = some z := ⟨_, List.getElem?_eq_getElem (by rw [Trees.len_list]; exact hlt)⟩
   have hzs := Trees.size_get x.kids k z hz
   obtain ⟨b, o, C, capc, rfl, _, _, ⟨c0, c1, c2, c3, c4, c5, c6, c7⟩, hkz⟩ := (HT.out.below HH.out.2).get hz
   have hdl : (k : Int) < (x.kids.len : Int) := by omega
   have HI := Lib.hid (ih z P C capc wr (by omega) (by omega) hkz)
   have hwk : IntKind.i64.wrap ((k : Int) + 1) = (k : Int) + 1 := by rw [IntKind.wrap_i64]; omega
   clear hz hzs hkz hX
   unfold ndV at HI
   go_wp2_with fail
   refine HI.out.mono ?_
   rintro e w3 ⟨⟨mz, rfl⟩, hb3⟩
   have HH3 := Lib.hid (show _ ∧ _ from ⟨HH.out.1.below hb3 HH.out.1.lt, HH.out.2.trans (hb3.mono HH.out.2.size)⟩)
   clear hb3 HI y0 y1 y2 y3 y4 y5 y6 y7 c0 c1 c2 c3 c4 c5 c6 c7
   dsimp only
   go_wp2
   go_roundw
   case rel => exact ⟨k + 1, _, by go_num, by omega, rfl, HH3⟩
   case measure => simp [intOf]; omega
  ·obtain rfl : k = x.kids.len := by omega
   have hdl : ¬ ((x.kids.len : Int) < (x.kids.len : Int)) := by omega
   clear hX
   by_cases hk9 : x.kind = 9
   ·have hk : (x.kind == 9) = true := by rw [hk9]; rfl
    clear hk9
    by_cases hl : 20 < x.lo
    all_goals
     go_wp2
     all_goals
      go_light
      go_ret
      exact ⟨⟨_, rfl⟩, HH.out.2⟩
   ·have hk : (x.kind == 9) = false := by rw [beq_eq_false_iff_ne]; exact hk9
    clear hk9
    go_wp2
    all_goals
     go_light
     go_ret
     exact ⟨⟨_, rfl⟩, HH.out.2⟩
theorem rloops_go (x : Nd) (P : Nat → Prop) (B : Option Addr) (cap : Nat) (w : World) (hlen : x.size ≤ 1000000) (ht : TreesAt w P x.kids B) :
  Calls Tryd.prog 24 #[ndV x B cap] w fun e w' => (∃ m : Int, e = .returned (.int .i64 m)) ∧ Below w.heap.size w w' := by
 have h : ∀ n, NumC 24 n := by
  intro n
  induction n with
  | zero => exact fun x _ _ _ _ h => by unfold Nd.size at h; omega
  | succ n ih => exact rloops_step ih
 exact h x.size x P B cap w (Nat.le_refl _) hlen ht
theorem rtimes_go (x : Nd) (P : Nat → Prop) (B : Option Addr) (cap : Nat) (w : World) (hlen : x.size ≤ 1000000) (ht : TreesAt w P x.kids B) :
  Calls Tryd.prog 25 #[ndV x B cap] w fun e w' => (∃ m : Int, e = .returned (.int .i64 m)) ∧ Below w.heap.size w w' := by
 have h : ∀ n, NumC 25 n := by
  intro n
  induction n with
  | zero => exact fun x _ _ _ _ h => by unfold Nd.size at h; omega
  | succ n ih => exact rtimes_step ih
 exact h x.size x P B cap w (Nat.le_refl _) hlen ht
theorem rlight_go (x : Nd) (P : Nat → Prop) (B : Option Addr) (cap : Nat) (w : World) (hlen : x.size ≤ 140737488355328) (ht : TreesAt w P x.kids B) :
  Calls Tryd.prog 6 #[ndV x B cap] w fun e w' => SomeB e ∧ Below w.heap.size w w' := by
 have hal : Below w.heap.size w (w.alloc (.cells (ndA x B cap) 28)) := (Below.refl _ _).alloc (Nat.le_refl _) _
 have H0 := Lib.hid (Blk.new w 28 (ndA x B cap))
 have HB0 := Lib.hid hal
 have HS := Lib.hid (rsize_go x P B cap _ hlen (ht.below hal))
 have HT := Lib.hid ht
 clear ht hal
 unfold ndV at HS ⊢
 unfold ndA at H0 HB0 HS
 obtain ⟨x0, x1, x2, x3, x4, x5, x6, x7⟩ : _ ∧ _ ∧ _ ∧ _ ∧ _ ∧ _ ∧ _ ∧ _ := ⟨(H0.out).cell 0, (H0.out).cell 1, (H0.out).cell 2, (H0.out).cell 3, (H0.out).cell 4, (H0.out).cell 5, (H0.out).cell 6, (H0.out).cell 7⟩
 simp only [List.getElem?_toArray, List.getElem?_cons_zero, List.getElem?_cons_succ, ndA] at x0 x1 x2 x3 x4 x5 x6 x7
 have lx := (H0.out).lt
 go_enter Tryd.func6, Tryd.ntmps6
 go_wp2_with fail
 refine HS.out.mono ?_
 rintro e w1 ⟨rfl, hb1⟩
 have H1 := Lib.hid (H0.out.below hb1 H0.out.lt)
 have HB1 := Lib.hid (HB0.out.trans (hb1.mono HB0.out.size))
 clear hb1 HS H0 HB0 x0 x1 x2 x3 x4 x5 x6 x7 lx
 dsimp only
 by_cases h60 : x.size ≤ 60
 ·have hd : (x.size : Int) ≤ 60 := by omega
  obtain ⟨x0, x1, x2, x3, x4, x5, x6, x7⟩ : _ ∧ _ ∧ _ ∧ _ ∧ _ ∧ _ ∧ _ ∧ _ := ⟨(H1.out).cell 0, (H1.out).cell 1, (H1.out).cell 2, (H1.out).cell 3, (H1.out).cell 4, (H1.out).cell 5, (H1.out).cell 6, (H1.out).cell 7⟩
  simp only [List.getElem?_toArray, List.getElem?_cons_zero, List.getElem?_cons_succ, ndA] at x0 x1 x2 x3 x4 x5 x6 x7
  have lx := (H1.out).lt
  have HL := Lib.hid (rloops_go x P B cap w1 (by omega) (HT.out.below HB1.out))
  unfold ndV at HL
  go_wp2_with fail
  refine HL.out.mono ?_
  rintro e w2 ⟨⟨m, rfl⟩, hb2⟩
  have H2 := Lib.hid (H1.out.below hb2 H1.out.lt)
  have HB2 := Lib.hid (HB1.out.trans (hb2.mono HB1.out.size))
  clear hb2 HL H1 HB1 x0 x1 x2 x3 x4 x5 x6 x7 lx
  dsimp only
  by_cases h4 : m ≤ 4
  ·skip
   obtain ⟨x0, x1, x2, x3, x4, x5, x6, x7⟩ : _ ∧ _ ∧ _ ∧ _ ∧ _ ∧ _ ∧ _ ∧ _ := ⟨(H2.out).cell 0, (H2.out).cell 1, (H2.out).cell 2, (H2.out).cell 3, (H2.out).cell 4, (H2.out).cell 5, (H2.out).cell 6, (H2.out).cell 7⟩
   simp only [List.getElem?_toArray, List.getElem?_cons_zero, List.getElem?_cons_succ, ndA] at x0 x1 x2 x3 x4 x5 x6 x7
   have lx := (H2.out).lt
   have HL := Lib.hid (rtimes_go x P B cap w2 (by omega) (HT.out.below HB2.out))
   unfold ndV at HL
   go_wp2_with fail
   refine HL.out.mono ?_
   rintro e w3 ⟨⟨m3, rfl⟩, hb3⟩
   have HB3 := Lib.hid (HB2.out.trans (hb3.mono HB2.out.size))
   clear hb3 HL H2 HB2 x0 x1 x2 x3 x4 x5 x6 x7 lx
   dsimp only
   go_wp2
   go_light
   go_ret
   exact ⟨⟨_, rfl⟩, HB3.out⟩
  ·go_wp2
   go_light
   go_ret
   exact ⟨⟨_, rfl⟩, HB2.out⟩
 ·have hd : ¬ (x.size : Int) ≤ 60 := by omega
  go_wp2
  go_light
  go_ret
  exact ⟨⟨_, rfl⟩, HB1.out⟩
end Go.Proofs.YtfcblmbieiibmaaDoor
