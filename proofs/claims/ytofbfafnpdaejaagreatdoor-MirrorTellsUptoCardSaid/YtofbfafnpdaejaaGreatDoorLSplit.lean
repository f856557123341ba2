/- Texts of the claim. -/
import Derived.Test.YtofbfafnpdaejaaGreatDoorLNext
import Derived.Test.YtofbfafnpdaejaaGreatDoorLRefEsc
namespace Go.Proofs.YtofbfafnpdaejaaGreatDoor
open Go.RowKit
set_option linter.unusedSimpArgs false
set_option linter.unusedVariables false
set_option maxRecDepth 100000
set_option maxHeartbeats 8000000
theorem ret_split {fn : Func} {t4 t6 : Tmp} (h : fn.results = #[.tmp t4, .cell t6 77]) {tmps : Array Value} {w : World} {g' : Nat} {x y c : Value}
  (hc : tmps.getD t4 undef = c) (hp' : tmps.getD t6 undef = .pointer (some ⟨g', 0, none⟩)) (hb' : Blk w g' 77 #[x, y]) :
  (results fn tmps).run Tryz.prog w = .ok (.tuple #[c, .agg #[x, y]]) w := by
 have h2 := run_loadVar_row (P := Tryz.prog) w g' 77 77 #[x, y] (0, 0) _ hb' Tryz.underlying77 rfl (by kernel_rfl)
 simp only [results, h]
 simp only [Array.getD_eq_getD_getElem?] at hc hp'
 simp [Sem.run_bind, hc, hp', asAddr, h2, Result.andThen]
theorem own_mono {w : World} {base base' size n : Nat} {e : TypeId} {v : Value} {xs : List Value} (h : w.ownsRow base e size v n xs) (hb : base' ≤ base) : w.ownsRow base' e size v n xs := by
 obtain ⟨h1, h2 | ⟨g, cap, cur, e1, e2, h3⟩⟩ := h
 ·exact ⟨h1, .inl h2⟩
 ·exact ⟨h1, .inr ⟨g, cap, cur, e1, Nat.le_trans hb e2, h3⟩⟩
def Cuts (r : Except Wrong (List Lex)) (w : World) (e : Ending) (w' : World) : Prop :=
 match r with
 | .ok l => ∃ v, e = .returned (.tuple #[v, .agg #[.int .i64 0, .int .i64 0]]) ∧ Below w.heap.size w w' ∧ w'.ownsRow w.heap.size 143 8 v l.length (lexCells l)
 | .error (k, q) => e = .returned (.tuple #[.slice none 0 0, .agg #[.int .i64 k, .int .i64 q]]) ∧ Below w.heap.size w w'
theorem split_long (A : Option Addr) (cap : Nat) (bs : List Nat) (w : World) (hlen : 65536 < bs.length) (hmax : bs.length ≤ 140737488355328) :
  Calls Tryz.prog 120 #[.slice A bs.length cap] w (Cuts (splitS bs) w) := by
 have hd : decide ((65536 : Int) < (bs.length : Int)) = true := by simp; omega
 have hd' : (65536 : Int) < (bs.length : Int) := by omega
 have Hb := Lib.hid (Blk.new w 77 #[.int .i64 0, .int .i64 0])
 obtain ⟨b0, b1, x0, x1⟩ := Hb.out.c2
 rw [splitS_long hlen]
 clear hlen
 go_enter Tryz.func120, Tryz.ntmps120
 go_wp2
 go_light
 refine bodyPost_ret (ret_split Tryz.results120 rfl rfl (Blk.new w 77 #[.int .i64 4, .int .i64 65536])) rfl ⟨rfl, (Below.refl w.heap.size w).alloc (Nat.le_refl _) _⟩
theorem split_none (A : Option Addr) (cap : Nat) (w : World) :
  Calls Tryz.prog 120 #[.slice A 0 cap] w (Cuts (splitS []) w) := by
 have Hb := Lib.hid ((Blk.new w 77 #[.int .i64 0, .int .i64 0]).alloc (.cells #[.slice A 0 cap, .int .i64 0, .slice none 0 0, .int .i64 0, .int .i64 0] 175))
 have hs : Blk ((w.alloc (.cells #[.int .i64 0, .int .i64 0] 77)).alloc (.cells #[.slice A 0 cap, .int .i64 0, .slice none 0 0, .int .i64 0, .int .i64 0] 175)) (w.heap.size + 1) 175 #[.slice A 0 cap, .int .i64 0, .slice none 0 0, .int .i64 0, .int .i64 0] := Blk.new_at (by simp)
 obtain ⟨b0, b1, x0, x1⟩ := Hb.out.c2
 have s1 := hs.cell 1
 have s2 := hs.cell 2
 have HB := Lib.hid (((Below.refl w.heap.size w).alloc (Nat.le_refl _) (.cells #[.int .i64 0, .int .i64 0] 77)).alloc (by simp) (.cells #[.slice A 0 cap, .int .i64 0, .slice none 0 0, .int .i64 0, .int .i64 0] 175))
 clear hs
 rw [splitS_go (bs := []) (by simp), splitF_end (by simp)]
 go_enter Tryz.func120, Tryz.ntmps120
 go_wp2
 go_loopw [16] (fun v16 wr => wr = ((w.alloc (.cells #[.int .i64 0, .int .i64 0] 77)).alloc (.cells #[.slice A 0 cap, .int .i64 0, .slice none 0 0, .int .i64 0, .int .i64 0] 175))) (fun _ wr => 0)
 case atStart => rfl
 case round =>
  obtain rfl := hrel
  go_wp2
  go_light
  refine bodyPost_ret (ret_split Tryz.results120 rfl rfl Hb.out) rfl ⟨_, rfl, HB.out, World.ownsRow_nil _ _ _ _⟩
theorem split_some (b o cap : Nat) (bs : List Nat) (w : World) (hA : BytesAt w w.heap.size (some ⟨b, o, none⟩) bs) (hcap : bs.length ≤ cap) (hlen : bs.length ≤ 65536) (h0 : 0 < bs.length) :
  Calls Tryz.prog 120 #[.slice (some ⟨b, o, none⟩) bs.length cap] w (Cuts (splitS bs) w) := by
 have hl := hA.2.1
 have hb := hA.1
 have hd : decide ((65536 : Int) < (bs.length : Int)) = false := by simp; omega
 have hd' : ¬ (65536 : Int) < (bs.length : Int) := by omega
 have Hb0 := Lib.hid ((Blk.new w 77 #[.int .i64 0, .int .i64 0]).alloc (.cells #[.slice (some ⟨b, o, none⟩) bs.length cap, .int .i64 0, .slice none 0 0, .int .i64 0, .int .i64 0] 175))
 have hS0 : Spl ((w.alloc (.cells #[.int .i64 0, .int .i64 0] 77)).alloc (.cells #[.slice (some ⟨b, o, none⟩) bs.length cap, .int .i64 0, .slice none 0 0, .int .i64 0, .int .i64 0] 175)) (w.heap.size + 1) b o bs.length cap 0 (.slice none 0 0) 0 0 := Blk.new_at (by simp)
 have HS0 := Lib.hid hS0
 have HB0 := Lib.hid (((Below.refl w.heap.size w).alloc (Nat.le_refl _) (.cells #[.int .i64 0, .int .i64 0] 77)).alloc (by simp) (.cells #[.slice (some ⟨b, o, none⟩) bs.length cap, .int .i64 0, .slice none 0 0, .int .i64 0, .int .i64 0] 175))
 have HA0 := Lib.hid ((hA.below HB0.out).more (Nat.le_succ _))
 have hz0 : (((w.alloc (.cells #[.int .i64 0, .int .i64 0] 77)).alloc (.cells #[.slice (some ⟨b, o, none⟩) bs.length cap, .int .i64 0, .slice none 0 0, .int .i64 0, .int .i64 0] 175))).heap.size = w.heap.size + 2 := by simp
 have hR0 : w.heap.size < (((w.alloc (.cells #[.int .i64 0, .int .i64 0] 77)).alloc (.cells #[.slice (some ⟨b, o, none⟩) bs.length cap, .int .i64 0, .slice none 0 0, .int .i64 0, .int .i64 0] 175))).heap.size := by omega
 clear hA
 obtain ⟨s0, s1, s2, s3, s4, f0, f1, f2, f3, f4⟩ := hS0.cells
 clear hS0
 go_enter Tryz.func120, Tryz.ntmps120
 go_wp2
 go_loopw [16] (fun v16 wr => ∃ (i f : Nat) (v : Value) (L : List Lex), i ≤ bs.length ∧ L.length ≤ i ∧ bs.length < i + f ∧ splitF bs f i L = splitS bs ∧ Spl wr (w.heap.size + 1) b o bs.length cap i v 0 0 ∧ wr.ownsRow (w.heap.size + 1) 143 8 v L.length (lexCells L) ∧ Below (w.heap.size + 1) ((w.alloc (.cells #[.int .i64 0, .int .i64 0] 77)).alloc (.cells #[.slice (some ⟨b, o, none⟩) bs.length cap, .int .i64 0, .slice none 0 0, .int .i64 0, .int .i64 0] 175)) wr) (fun _ wr => bs.length - (intOf ((wr.cell? ⟨w.heap.size + 1, 1, none⟩).getD undef)).toNat)
 case atStart => exact ⟨0, bs.length + 1, _, [], by omega, by simp, by omega, (splitS_go hlen).symm, HS0.out, World.ownsRow_nil _ _ _ _, Below.refl _ _⟩
 case round =>
  obtain ⟨i, f, v, L, hi, hL, hf, hF, hS, hrow, hB⟩ := hrel
  obtain ⟨t0, t1, t2, t3, t4, g0, g1, g2, g3, g4⟩ := hS.cells
  have hbr := Hb0.out.below hB (by omega)
  obtain ⟨r0, r1, e0, e1⟩ := hbr.c2
  have hsz := hB.size
  by_cases hlt : i < bs.length
  ·have HG := Lib.hid (next_go (w.heap.size + 1) b o cap bs i v (w.heap.size + 1) L wr hS hrow (Nat.le_refl _) (by omega) (HA0.out.below hB) hlt hcap hlen)
   have hdl : (i : Int) < (bs.length : Int) := by omega
   have Hbr := Lib.hid hbr
   have HB := Lib.hid hB
   have HF := Lib.hid hF
   obtain ⟨f, rfl⟩ : ∃ f', f = f' + 1 := ⟨f - 1, by omega⟩
   clear hS hrow hB hbr hF r0 r1 e0 e1 t2 t3 t4
   cases hx : lexS bs i with
   | error x =>
    obtain ⟨k, q⟩ := x
    have hk0 : (k != 0) = true := by rw [bne_iff_ne]; exact lexS_err hb hx
    have HV := Lib.hid (show splitS bs = .error (k, q) by rw [← HF.out]; exact splitF_bad hlt hx)
    have Hx := Lib.hid hx
    clear hx
    go_wp2_with fail
    refine HG.out.mono ?_
    intro e w1 hs
    unfold Stepped at hs
    rw [Hx.out] at hs
    obtain ⟨rfl, hb1, i1, v1, hS1⟩ := hs
    obtain ⟨u0, u1, u2, u3, u4, g0, g1, g2, g3, g4⟩ := hS1.cells
    have hbr1 := Hbr.out.below hb1 (by omega)
    obtain ⟨r0, r1, e0, e1⟩ := hbr1.c2
    have Hbr1 := Lib.hid hbr1
    have HB1 := Lib.hid (HB.out.trans hb1)
    clear hb1 hS1 hbr1
    go_wp2
    go_region
    all_goals go_wp2
    all_goals go_light
    all_goals rw [HV.out]
    refine bodyPost_ret (ret_split Tryz.results120 rfl rfl Hbr1.out.drew.set2) rfl ⟨rfl, below_set2 (HB0.out.trans (HB1.out.mono (Nat.le_succ _))).drew (Nat.le_refl _) _ _⟩
   | ok x =>
    obtain ⟨x, j⟩ := x
    have hj := lexS_some hb hlt hx
    have HV := Lib.hid (show splitF bs f j (L ++ [x]) = splitS bs by rw [← HF.out]; exact (splitF_ok hlt hx).symm)
    have Hx := Lib.hid hx
    clear hx
    go_wp2_with fail
    refine HG.out.mono ?_
    intro e w1 hs
    unfold Stepped at hs
    rw [Hx.out] at hs
    obtain ⟨rfl, hb1, v1, hS1, hrow1⟩ := hs
    obtain ⟨u0, u1, u2, u3, u4, g0, g1, g2, g3, g4⟩ := hS1.cells
    have HS1 := Lib.hid hS1
    have HR1 := Lib.hid hrow1
    have HB1 := Lib.hid (HB.out.trans hb1)
    clear hb1 hS1 hrow1
    go_wp2
    go_roundw
    case rel => exact ⟨j, f, v1, L ++ [x], hj.2, by simp; omega, by omega, HV.out, HS1.out, by simpa using HR1.out, HB1.out⟩
    case measure => rw [t1, u1]; simp [intOf]; omega
  ·have HV := Lib.hid (show splitS bs = .ok L by rw [← hF]; obtain ⟨f, rfl⟩ : ∃ f', f = f' + 1 := ⟨f - 1, by omega⟩; exact splitF_end (by omega))
   have hdl : ¬ (i : Int) < (bs.length : Int) := by omega
   have Hbr := Lib.hid hbr
   have HB := Lib.hid hB
   have HS := Lib.hid hS
   have Hrow := Lib.hid hrow
   have Hne := Lib.hid (blk_not_row hbr (by decide) hrow)
   clear hS hrow hB hbr hF
   go_wp2
   go_light
   rw [HV.out]
   refine bodyPost_ret (ret_split Tryz.results120 rfl rfl Hbr.out.set2) rfl ⟨v, rfl, below_set2 (HB0.out.trans (HB.out.mono (Nat.le_succ _))) (Nat.le_refl _) _ _, own_set (own_set (own_mono Hrow.out (Nat.le_succ _)) Hne.out) Hne.out⟩
theorem split_go (A : Option Addr) (cap : Nat) (bs : List Nat) (w : World) (hA : BytesAt w w.heap.size A bs) (hcap : bs.length ≤ cap) :
  Calls Tryz.prog 120 #[.slice A bs.length cap] w (Cuts (splitS bs) w) := by
 rcases Nat.eq_zero_or_pos bs.length with h0 | h0
 ·obtain rfl : bs = [] := List.length_eq_zero_iff.mp h0
  exact split_none A cap w
 rcases Nat.lt_or_ge 65536 bs.length with h | h
 ·exact split_long A cap bs w h hA.2.1
 obtain ⟨b, o, rfl, _, _⟩ := hA.2.2 h0
 exact split_some b o cap bs w hA hcap h h0
end Go.Proofs.YtofbfafnpdaejaaGreatDoor
