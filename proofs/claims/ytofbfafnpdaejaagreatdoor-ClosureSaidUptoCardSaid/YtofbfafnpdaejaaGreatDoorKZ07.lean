/- Texts of the claim. -/
import Derived.Test.YtofbfafnpdaejaaGreatDoorKNext
import Derived.Test.YtofbfafnpdaejaaGreatDoorKRefEsc
import Derived.Test.YtofbfafnpdaejaaGreatDoorKZ03
import Derived.Test.YtofbfafnpdaejaaGreatDoorKZ02
import Derived.Test.YtofbfafnpdaejaaGreatDoorKZ04
import Derived.Test.YtofbfafnpdaejaaGreatDoorKZ06
import Derived.Test.YtofbfafnpdaejaaGreatDoorKZ01
namespace Go.Proofs.YtofbfafnpdaejaaGreatDoor
open Go.RowKit
set_option linter.unusedSimpArgs false
set_option linter.unusedVariables false
set_option maxRecDepth 100000
set_option maxHeartbeats 8000000
theorem ret_split {fn : Func} {t4 t6 : Tmp} (h : fn.results = #[.tmp t4, .cell t6 77]) {tmps : Array Value} {w : World} {g' : Nat} {x y c : Value}
  (hc : tmps.getD t4 undef = c) (hp' : tmps.getD t6 undef = .pointer (some ⟨g', 0, none⟩)) (hb' : Blk w g' 77 #[x, y]) :
  (results fn tmps).run Tryz.prog w = .ok (.tuple #[c, .agg #[x, y]]) w := by
 have h2 := run_loadVar_row (P := Tryz.prog) w g' 77 77 #[x, y] (0, 0) _ hb' Tryz.underlying77 rfl (by kernel_rfl)
 simp only [results, h]
 simp only [Array.getD_eq_getD_getElem?] at hc hp'
 simp [Sem.run_bind, hc, hp', asAddr, h2, Result.andThen]
theorem own_mono {w : World} {base base' size n : Nat} {e : TypeId} {v : Value} {xs : List Value} (h : w.ownsRow base e size v n xs) (hb : base' ≤ base) : w.ownsRow base' e size v n xs := by
 obtain ⟨h1, h2 | ⟨g, cap, cur, e1, e2, h3⟩⟩ := h
 ·exact ⟨h1, .inl h2⟩
 ·exact ⟨h1, .inr ⟨g, cap, cur, e1, Nat.le_trans hb e2, h3⟩⟩
def Cuts (r : Except Wrong (List Lex)) (w : World) (e : Ending) (w' : World) : Prop :=
 match r with
 | .ok l => ∃ v, e = .returned (.tuple #[v, .agg #[.int .i64 0, .int .i64 0]]) ∧ Below w.heap.size w w' ∧ w'.ownsRow w.heap.size 143 8 v l.length (lexCells l)
 | .error (k, q) => e = .returned (.tuple #[.slice none 0 0, .agg #[.int .i64 k, .int .i64 q]]) ∧ Below w.heap.size w w'
theorem split_long (A : Option Addr) (cap : Nat) (bs : List Nat) (w : World) (hlen : 65536 < bs.length) (hmax : bs.length ≤ 140737488355328) :
  Calls Tryz.prog 120 #[.slice A bs.length cap] w (Cuts (splitS bs) w) := by
 have hd : decide ((65536 : Int) < (bs.length : Int)) = true := by simp; omega
 have hd' : (65536 : Int) < (bs.length : Int) := by omega
 have Hb := Lib.hid (Blk.new w 77 #[.int .i64 0, .int .i64 0])
 obtain ⟨b0, b1, x0, x1⟩ := Hb.out.c2
 rw [splitS_long hlen]
 clear hlen
 go_enter Tryz.func120, Tryz.ntmps120
 go_wp2
 go_light
 refine bodyPost_ret (ret_split Tryz.results120 rfl rfl (Blk.new w 77 #[.int .i64 4, .int .i64 65536])) rfl ⟨rfl, (Below.refl w.heap.size w).alloc (Nat.le_refl _) _⟩
theorem split_none (A : Option Addr) (cap : Nat) (w : World) :
  Calls Tryz.prog 120 #[.slice A 0 cap] w (Cuts (splitS []) w) := by
 have Hb := Lib.hid ((Blk.new w 77 #[.int .i64 0, .int .i64 0]).alloc (.cells #[.slice A 0 cap, .int .i64 0, .slice none 0 0, .int .i64 0, .int .i64 0] 175))
 have hs : Blk ((w.alloc (.cells #[.int .i64 0, .int .i64 0] 77)).alloc (.cells #[.slice A 0 cap, .int .i64 0, .slice none 0 0, .int .i64 0, .int .i64 0] 175)) (w.heap.size + 1) 175 #[.slice A 0 cap, .int .i64 0, .slice none 0 0, .int .i64 0, .int .i64 0] := Blk.new_at (by simp)
 obtain ⟨b0, b1, x0, x1⟩ := Hb.out.c2
 have s1 := hs.cell 1
 have s2 := hs.cell 2
 have HB := Lib.hid (((Below.refl w.heap.size w).alloc (Nat.le_refl _) (.cells #[.int .i64 0, .int .i64 0] 77)).alloc (by simp) (.cells #[.slice A 0 cap, .int .i64 0, .slice none 0 0, .int .i64 0, .int .i64 0] 175))
 clear hs
 rw [splitS_go (bs := []) (by simp), splitF_end (by simp)]
 go_enter Tryz.func120, Tryz.ntmps120
 go_wp2
 go_loopw [16] (fun v16 wr => wr = ((w.alloc (.cells #[.int .i64 0, .int .i64 0] 77)).alloc (.cells #[.slice A 0 cap, .int .i64 0, .slice none 0 0, .int .i64 0, .int .i64 0] 175))) (fun _ wr => 0)
 case atStart => rfl
 case round =>
  obtain rfl := hrel
  go_wp2
  go_light
  refine bodyPost_ret (ret_split Tryz.results120 rfl rfl Hb.out) rfl ⟨_, rfl, HB.out, World.ownsRow_nil _ _ _ _⟩
theorem split_some (b o cap : Nat) (bs : List Nat) (w : World) (hA : BytesAt w w.heap.size (some ⟨b, o, none⟩) bs) (hcap : bs.length ≤ cap) (hlen : bs.length ≤ 65536) (h0 : 0 < bs.length) :
  Calls Tryz.prog 120 #[.slice (some ⟨b, o, none⟩) bs.length cap] w (Cuts (splitS bs) w) := by
 have hl := hA.2.1
 have hb := hA.1
 have hd : decide ((65536 : Int) < (bs.length : Int)) = false := by simp; omega
 have hd' : ¬ (65536 : Int) < (bs.length : Int) := by omega
 have Hb0 := Lib.hid ((Blk.new w 77 #[.int .i64 0, .int .i64 0]).alloc (.cells #[.slice (some ⟨b, o, none⟩) bs.length cap, .int .i64 0, .slice none 0 0, .int .i64 0, .int .i64 0] 175))
 have hS0 : Spl ((w.alloc (.cells #[.int .i64 0, .int .i64 0] 77)).alloc (.cells #[.slice (some ⟨b, o, none⟩) bs.length cap, .int .i64 0, .slice none 0 0, .int .i64 0, .int .i64 0] 175)) (w.heap.size + 1) b o bs.length cap 0 (.slice none 0 0) 0 0 := Blk.new_at (by simp)
 have HS0 := Lib.hid hS0
 have HB0 := Lib.hid (((Below.refl w.heap.size w).alloc (Nat.le_refl _) (.cells #[.int .i64 0, .int .i64 0] 77)).alloc (by simp) (.cells #[.slice (some ⟨b, o, none⟩) bs.length cap, .int .i64 0, .slice none 0 0, .int .i64 0, .int .i64 0] 175))
 have HA0 := Lib.hid ((hA.below HB0.out).more (Nat.le_succ _))
 have hz0 : (((w.alloc (.cells #[.int .i64 0, .int .i64 0] 77)).alloc (.cells #[.slice (some ⟨b, o, none⟩) bs.length cap, .int .i64 0, .slice none 0 0, .int .i64 0, .int .i64 0] 175))).heap.size = w.heap.size + 2 := by simp
 have hR0 : w.heap.size < (((w.alloc (.cells #[.int .i64 0, .int .i64 0] 77)).alloc (.cells #[.slice (some ⟨b, o, none⟩) bs.length cap, .int .i64 0, .slice none 0 0, .int .i64 0, .int .i64 0] 175))).heap.size := by omega
 clear hA
 obtain ⟨s0, s1, s2, s3, s4, f0, f1, f2, f3, f4⟩ := hS0.cells
 clear hS0
 go_enter Tryz.func120, Tryz.ntmps120
 go_wp2
 go_loopw [16] (fun v16 wr => ∃ (i f : Nat) (v : Value) (L : List Lex), i ≤ bs.length ∧ L.length ≤ i ∧ bs.length < i + f ∧ splitF bs f i L = splitS bs ∧ Spl wr (w.heap.size + 1) b o bs.length cap i v 0 0 ∧ wr.ownsRow (w.heap.size + 1) 143 8 v L.length (lexCells L) ∧ Below (w.heap.size + 1) ((w.alloc (.cells #[.int .i64 0, .int .i64 0] 77)).alloc (.cells #[.slice (some ⟨b, o, none⟩) bs.length cap, .int .i64 0, .slice none 0 0, .int .i64 0, .int .i64 0] 175)) wr) (fun _ wr => bs.length - (intOf ((wr.cell? ⟨w.heap.size + 1, 1, none⟩).getD undef)).toNat)
 case atStart => exact ⟨0, bs.length + 1, _, [], by omega, by simp, by omega, (splitS_go hlen).symm, HS0.out, World.ownsRow_nil _ _ _ _, Below.refl _ _⟩
 case round =>
  obtain ⟨i, f, v, L, hi, hL, hf, hF, hS, hrow, hB⟩ := hrel
  obtain ⟨t0, t1, t2, t3, t4, g0, g1, g2, g3, g4⟩ := hS.cells
  have hbr := Hb0.out.below hB (by omega)
  obtain ⟨r0, r1, e0, e1⟩ := hbr.c2
  have hsz := hB.size
  by_cases hlt : i < bs.length
  ·have HG := Lib.hid (next_go (w.heap.size + 1) b o cap bs i v (w.heap.size + 1) L wr hS hrow (Nat.le_refl _) (by omega) (HA0.out.below hB) hlt hcap hlen)
   have hdl : (i : Int) < (bs.length : Int) := by omega
   have Hbr := Lib.hid hbr
   have HB := Lib.hid hB
   have HF := Lib.hid hF
   obtain ⟨f, rfl⟩ : ∃ f', f = f' + 1 := ⟨f - 1, by omega⟩
   clear hS hrow hB hbr hF r0 r1 e0 e1 t2 t3 t4
   cases hx : lexS bs i with
   | error x =>
    obtain ⟨k, q⟩ := x
    have hk0 : (k != 0) = true := by rw [bne_iff_ne]; exact lexS_err hb hx
    have HV := Lib.hid (show splitS bs = .error (k, q) by rw [← HF.out]; exact splitF_bad hlt hx)
    have Hx := Lib.hid hx
    clear hx
    go_wp2_with fail
    refine HG.out.mono ?_
    intro e w1 hs
    unfold Stepped at hs
    rw [Hx.out] at hs
    obtain ⟨rfl, hb1, i1, v1, hS1⟩ := hs
    obtain ⟨u0, u1, u2, u3, u4, g0, g1, g2, g3, g4⟩ := hS1.cells
    have hbr1 := Hbr.out.below hb1 (by omega)
    obtain ⟨r0, r1, e0, e1⟩ := hbr1.c2
    have Hbr1 := Lib.hid hbr1
    have HB1 := Lib.hid (HB.out.trans hb1)
    clear hb1 hS1 hbr1
    go_wp2
    go_region
    all_goals go_wp2
    all_goals go_light
    all_goals rw [HV.out]
    refine bodyPost_ret (ret_split Tryz.results120 rfl rfl Hbr1.out.drew.set2) rfl ⟨rfl, below_set2 (HB0.out.trans (HB1.out.mono (Nat.le_succ _))).drew (Nat.le_refl _) _ _⟩
   | ok x =>
    obtain ⟨x, j⟩ := x
    have hj := lexS_some hb hlt hx
    have HV := Lib.hid (show splitF bs f j (L ++ [x]) = splitS bs by rw [← HF.out]; exact (splitF_ok hlt hx).symm)
    have Hx := Lib.hid hx
    clear hx
    go_wp2_with fail
    refine HG.out.mono ?_
    intro e w1 hs
    unfold Stepped at hs
    rw [Hx.out] at hs
    obtain ⟨rfl, hb1, v1, hS1, hrow1⟩ := hs
    obtain ⟨u0, u1, u2, u3, u4, g0, g1, g2, g3, g4⟩ := hS1.cells
    have HS1 := Lib.hid hS1
    have HR1 := Lib.hid hrow1
    have HB1 := Lib.hid (HB.out.trans hb1)
    clear hb1 hS1 hrow1
    go_wp2
    go_roundw
    case rel => exact ⟨j, f, v1, L ++ [x], hj.2, by simp; omega, by omega, HV.out, HS1.out, by simpa using HR1.out, HB1.out⟩
    case measure => rw [t1, u1]; simp [intOf]; omega
  ·have HV := Lib.hid (show splitS bs = .ok L by rw [← hF]; obtain ⟨f, rfl⟩ : ∃ f', f = f' + 1 := ⟨f - 1, by omega⟩; exact splitF_end (by omega))
   have hdl : ¬ (i : Int) < (bs.length : Int) := by omega
   have Hbr := Lib.hid hbr
   have HB := Lib.hid hB
   have HS := Lib.hid hS
   have Hrow := Lib.hid hrow
   have Hne := Lib.hid (blk_not_row hbr (by decide) hrow)
   clear hS hrow hB hbr hF
   go_wp2
   go_light
   rw [HV.out]
   refine bodyPost_ret (ret_split Tryz.results120 rfl rfl Hbr.out.set2) rfl ⟨v, rfl, below_set2 (HB0.out.trans (HB.out.mono (Nat.le_succ _))) (Nat.le_refl _) _ _, own_set (own_set (own_mono Hrow.out (Nat.le_succ _)) Hne.out) Hne.out⟩
theorem split_go (A : Option Addr) (cap : Nat) (bs : List Nat) (w : World) (hA : BytesAt w w.heap.size A bs) (hcap : bs.length ≤ cap) :
  Calls Tryz.prog 120 #[.slice A bs.length cap] w (Cuts (splitS bs) w) := by
 rcases Nat.eq_zero_or_pos bs.length with h0 | h0
 ·obtain rfl : bs = [] := List.length_eq_zero_iff.mp h0
  exact split_none A cap w
 rcases Nat.lt_or_ge 65536 bs.length with h | h
 ·exact split_long A cap bs w h hA.2.1
 obtain ⟨b, o, rfl, _, _⟩ := hA.2.2 h0
 exact split_some b o cap bs w hA hcap h h0
theorem own_room {w : World} {base size n : Nat} {e : TypeId} {v : Value} {xs : List Value} {a : Option Addr} {cap : Nat} (h : w.ownsRow base e size v n xs) (hv : v = .slice a n cap) : n ≤ cap := by
 rcases h.2 with ⟨rfl, h0⟩ | ⟨g', cap', cur, rfl, _, _, hc, _⟩
 ·have := (Value.slice.inj hv).2.1
  omega
 ·have := (Value.slice.inj hv).2.2
  omega
theorem LexRow.at {w : World} {A : Option Addr} {cap : Nat} {L : List Lex} (h : LexRow w (.slice A L.length cap) L) : LexsAt w w.heap.size A L := fun hl => by
 obtain ⟨A', cap', hv, hc⟩ := h
 obtain ⟨rfl, _⟩ : A = A' ∧ cap = cap' := ⟨(Value.slice.inj hv).1, (Value.slice.inj hv).2.2⟩
 obtain ⟨x, hx⟩ : ∃ x, L[0]? = some x := ⟨_, List.getElem?_eq_getElem hl⟩
 obtain ⟨g, hg, c0, _⟩ := hc 0 x hx
 refine ⟨g, 0, hg, World.block_lt_of_cell? w _ c0, fun k y hy => ?_⟩
 obtain ⟨g', hg', d⟩ := hc k y hy
 obtain rfl : g = g' := by rw [hg] at hg'; simpa using hg'
 simpa using d
theorem one_leaf {x : Lex} (h : rightS x = true) (hk : x.kind = 1) : lexemesS [x] = .ok (leafN (maskOf x.set)) := by
 rw [lexemesS_ok (by simp [h]) (by simp)]
 have e : altG 6 [] [] [x] = .ok (leafN (maskOf x.set), []) := by
  have hp : piecesG 5 [] [] [x] = .ok ([leafN (maskOf x.set)], []) := by
   rw [piecesG_go (atomG_set hk)]
   exact piecesG_end (atomG_nil _ _)
  rw [altG_ok hp]
  rfl
 show (match altG 6 [] [] [x] with | .error e => Except.error e | .ok (x, _) => .ok x) = _
 rw [e]
theorem text_bad (A : Option Addr) (cap : Nat) (bs : List Nat) (w : World) (hA : BytesAt w w.heap.size A bs) (hcap : bs.length ≤ cap) {k q : Int} (hs : splitS bs = .error (k, q)) (hk : k ≠ 0) :
  Calls Tryz.prog 61 #[.slice A bs.length cap] w (TreeOut (parseS bs) w) := by
 have hd : (k != 0) = true := by rw [bne_iff_ne]; exact hk
 have HV := Lib.hid (show parseS bs = .error (k, q) by unfold parseS; rw [hs])
 have hb2 : Below w.heap.size w ((w.alloc (.cells #[.int .i64 0, .int .u64 0, .int .u64 0, .int .u64 0, .int .u64 0, .slice none 0 0, .int .i64 0, .int .i64 0] 28)).alloc (.cells #[.int .i64 0, .int .i64 0] 77)) := ((Below.refl _ _).alloc (Nat.le_refl _) _).alloc (by simp) _
 have HB2 := Lib.hid hb2
 have HG2 := Lib.hid (show Blk ((w.alloc (.cells #[.int .i64 0, .int .u64 0, .int .u64 0, .int .u64 0, .int .u64 0, .slice none 0 0, .int .i64 0, .int .i64 0] 28)).alloc (.cells #[.int .i64 0, .int .i64 0] 77)) w.heap.size 28 _ from (Blk.new w 28 #[.int .i64 0, .int .u64 0, .int .u64 0, .int .u64 0, .int .u64 0, .slice none 0 0, .int .i64 0, .int .i64 0]).alloc _)
 have HH2 := Lib.hid (show Blk ((w.alloc (.cells #[.int .i64 0, .int .u64 0, .int .u64 0, .int .u64 0, .int .u64 0, .slice none 0 0, .int .i64 0, .int .i64 0] 28)).alloc (.cells #[.int .i64 0, .int .i64 0] 77)) (w.heap.size + 1) 77 #[.int .i64 0, .int .i64 0] from Blk.new_at (by simp))
 have h1 := split_go A cap bs _ ((hA.below hb2).more (by simp; omega)) hcap
 rw [hs] at h1
 have H1 := Lib.hid h1
 clear hb2 hA hs h1 hk
 go_enter Tryz.func61, Tryz.ntmps61
 go_wp2_with fail
 refine H1.out.mono ?_
 rintro e w3 ⟨rfl, hb3⟩
 have HB3 := Lib.hid (HB2.out.trans (hb3.mono HB2.out.size))
 have hG3 := HG2.out.below hb3 HG2.out.lt
 have hH3 := HH2.out.below hb3 HH2.out.lt
 have HG3 := Lib.hid hG3
 have HH3 := Lib.hid hH3
 have hlt1 : w.heap.size < w3.heap.size := hG3.lt
 have hlt2 : w.heap.size + 1 < w3.heap.size := hH3.lt
 have hne1 : w.heap.size ≠ w3.heap.size := by omega
 have hne2 : w.heap.size + 1 ≠ w3.heap.size := by omega
 have y0 : w3.cell? ⟨w.heap.size, 0, none⟩ = some (.int .i64 0) := hG3.cell 0
 have y1 : w3.cell? ⟨w.heap.size, 1, none⟩ = some (.int .u64 0) := hG3.cell 1
 have y2 : w3.cell? ⟨w.heap.size, 2, none⟩ = some (.int .u64 0) := hG3.cell 2
 have y3 : w3.cell? ⟨w.heap.size, 3, none⟩ = some (.int .u64 0) := hG3.cell 3
 have y4 : w3.cell? ⟨w.heap.size, 4, none⟩ = some (.int .u64 0) := hG3.cell 4
 have y5 : w3.cell? ⟨w.heap.size, 5, none⟩ = some (.slice none 0 0) := hG3.cell 5
 have y6 : w3.cell? ⟨w.heap.size, 6, none⟩ = some (.int .i64 0) := hG3.cell 6
 have y7 : w3.cell? ⟨w.heap.size, 7, none⟩ = some (.int .i64 0) := hG3.cell 7
 have z0 := hG3.frozen 0
 have z1 := hG3.frozen 1
 have z2 := hG3.frozen 2
 have z3 := hG3.frozen 3
 have z4 := hG3.frozen 4
 have z5 := hG3.frozen 5
 have z6 := hG3.frozen 6
 have z7 := hG3.frozen 7
 obtain ⟨b0, b1, f0, f1⟩ := hH3.c2
 clear hb3 hG3 hH3 H1 HB2 HG2 HH2
 dsimp only
 go_wp2
 go_region
 all_goals go_wp2
 all_goals go_light
 rw [HV.out]
 exact bodyPost_ret (ret_tree Tryz.results61 rfl rfl (((HG3.out.put8 _ _ _ _ _ _ _ _).far2 (by omega) _ _).alloc _).drew (((HH3.out.past8 (by omega) _ _ _ _ _ _ _ _).set2).alloc _).drew) rfl ⟨rfl, ((below_set2 (below_put8 HB3.out (Nat.le_refl _) _ _ _ _ _ _ _ _) (by omega) _ _).alloc (by have := HB3.out.size; simpa [World.setCell] using this) _).drew⟩
theorem laid {n : Nat} {w w6 w7 : World} {x : Nd} {B : Option Addr} {cap : Nat} {k q : Int} (hG : Blk w6 n 28 #[.int .i64 0, .int .u64 0, .int .u64 0, .int .u64 0, .int .u64 0, .slice none 0 0, .int .i64 0, .int .i64 0]) (hH : Blk w6 (n + 1) 77 #[.int .i64 0, .int .i64 0]) (hB : Below n w w6) (hT : TreesAt w6 (fun b => n + 2 ≤ b) x.kids B)
  (hw : w7 = (((((((((w6.setCell ⟨n, 0, none⟩ (.int .i64 x.kind)).setCell ⟨n, 1, none⟩ (.int .u64 (word x.set.testBit 0))).setCell ⟨n, 2, none⟩ (.int .u64 (word x.set.testBit 1))).setCell ⟨n, 3, none⟩ (.int .u64 (word x.set.testBit 2))).setCell ⟨n, 4, none⟩ (.int .u64 (word x.set.testBit 3))).setCell ⟨n, 5, none⟩ (.slice B x.kids.len cap)).setCell ⟨n, 6, none⟩ (.int .i64 x.lo)).setCell ⟨n, 7, none⟩ (.int .i64 x.hi)).setCell ⟨n + 1, 0, none⟩ (.int .i64 k)).setCell ⟨n + 1, 1, none⟩ (.int .i64 q)) :
  Blk w7 n 28 (ndA x B cap) ∧ Blk w7 (n + 1) 77 #[.int .i64 k, .int .i64 q] ∧ Below n w w7 ∧ TreesAt w7 (fun b => n ≤ b) x.kids B := by
 have hg1 := only_put8 w6 n (.int .i64 x.kind) (.int .u64 (word x.set.testBit 0)) (.int .u64 (word x.set.testBit 1)) (.int .u64 (word x.set.testBit 2)) (.int .u64 (word x.set.testBit 3)) (.slice B x.kids.len cap) (.int .i64 x.lo) (.int .i64 x.hi)
 have ht7 := TreesAt.keep (Q := fun b => n + 2 ≤ b) (fun b o (hb : n + 2 ≤ b) hl => World.cell?_of_block (hg1.block b hl (by simp; omega))) (fun b hb _ => hb) hT
 have hg2 := only_set (only_set (only_refl ((((((((w6.setCell ⟨n, 0, none⟩ (.int .i64 x.kind)).setCell ⟨n, 1, none⟩ (.int .u64 (word x.set.testBit 0))).setCell ⟨n, 2, none⟩ (.int .u64 (word x.set.testBit 1))).setCell ⟨n, 3, none⟩ (.int .u64 (word x.set.testBit 2))).setCell ⟨n, 4, none⟩ (.int .u64 (word x.set.testBit 3))).setCell ⟨n, 5, none⟩ (.slice B x.kids.len cap)).setCell ⟨n, 6, none⟩ (.int .i64 x.lo)).setCell ⟨n, 7, none⟩ (.int .i64 x.hi)) (some (n + 1))) 0 (.int .i64 k)) 1 (.int .i64 q)
 have ht8 := TreesAt.keep (Q := fun b => n ≤ b) (fun b o (hb : n + 2 ≤ b) hl => World.cell?_of_block (hg2.block b hl (by simp; omega))) (fun b (hb : n + 2 ≤ b) _ => by omega) ht7
 have hG7 := (hG.put8 (.int .i64 x.kind) (.int .u64 (word x.set.testBit 0)) (.int .u64 (word x.set.testBit 1)) (.int .u64 (word x.set.testBit 2)) (.int .u64 (word x.set.testBit 3)) (.slice B x.kids.len cap) (.int .i64 x.lo) (.int .i64 x.hi)).far2 (g' := n + 1) (by omega) (.int .i64 k) (.int .i64 q)
 have hH7 := (hH.past8 (g' := n) (by omega) (.int .i64 x.kind) (.int .u64 (word x.set.testBit 0)) (.int .u64 (word x.set.testBit 1)) (.int .u64 (word x.set.testBit 2)) (.int .u64 (word x.set.testBit 3)) (.slice B x.kids.len cap) (.int .i64 x.lo) (.int .i64 x.hi)).set2 (a' := .int .i64 k) (b' := .int .i64 q)
 have hb7 := below_set2 (below_put8 hB (Nat.le_refl _) (.int .i64 x.kind) (.int .u64 (word x.set.testBit 0)) (.int .u64 (word x.set.testBit 1)) (.int .u64 (word x.set.testBit 2)) (.int .u64 (word x.set.testBit 3)) (.slice B x.kids.len cap) (.int .i64 x.lo) (.int .i64 x.hi)) (Nat.le_succ n) (.int .i64 k) (.int .i64 q)
 rw [hw]
 exact ⟨hG7, hH7, hb7, ht8⟩
theorem text_many (A : Option Addr) (cap : Nat) (bs : List Nat) (w : World) (hA : BytesAt w w.heap.size A bs) (hcap : bs.length ≤ cap) {L : List Lex} (hs : splitS bs = .ok L) (h1 : L.length ≠ 1) :
  Calls Tryz.prog 61 #[.slice A bs.length cap] w (TreeOut (parseS bs) w) := by
 have hd : ((L.length : Int) == 1) = false := by rw [beq_eq_false_iff_ne]; omega
 have hV : parseS bs = lexemesS L := by unfold parseS; rw [hs]
 clear h1
 cases hx : lexemesS L with
 | error x =>
  obtain ⟨k, q⟩ := x
  have HV := Lib.hid (hV.trans hx)
  have HX := Lib.hid hx
  clear hV hx
  have hL65 := (splitS_right hA.1 hs).2.2
  have hb2 : Below w.heap.size w ((w.alloc (.cells #[.int .i64 0, .int .u64 0, .int .u64 0, .int .u64 0, .int .u64 0, .slice none 0 0, .int .i64 0, .int .i64 0] 28)).alloc (.cells #[.int .i64 0, .int .i64 0] 77)) := ((Below.refl _ _).alloc (Nat.le_refl _) _).alloc (by simp) _
  have HB2 := Lib.hid hb2
  have HG2 := Lib.hid (show Blk ((w.alloc (.cells #[.int .i64 0, .int .u64 0, .int .u64 0, .int .u64 0, .int .u64 0, .slice none 0 0, .int .i64 0, .int .i64 0] 28)).alloc (.cells #[.int .i64 0, .int .i64 0] 77)) w.heap.size 28 _ from (Blk.new w 28 #[.int .i64 0, .int .u64 0, .int .u64 0, .int .u64 0, .int .u64 0, .slice none 0 0, .int .i64 0, .int .i64 0]).alloc _)
  have HH2 := Lib.hid (show Blk ((w.alloc (.cells #[.int .i64 0, .int .u64 0, .int .u64 0, .int .u64 0, .int .u64 0, .slice none 0 0, .int .i64 0, .int .i64 0] 28)).alloc (.cells #[.int .i64 0, .int .i64 0] 77)) (w.heap.size + 1) 77 #[.int .i64 0, .int .i64 0] from Blk.new_at (by simp))
  have h1 := split_go A cap bs _ ((hA.below hb2).more (by simp; omega)) hcap
  rw [hs] at h1
  have H1 := Lib.hid h1
  clear hb2 hA h1
  go_enter Tryz.func61, Tryz.ntmps61
  go_wp2_with fail
  refine H1.out.mono ?_
  rintro e w3 ⟨v, rfl, hb3, hrow3⟩
  obtain ⟨A3, cap3, rfl⟩ := own_slice hrow3
  have hb4 : Below w3.heap.size w3 (w3.alloc (.cells #[.int .i64 0, .int .i64 0] 77)) := (Below.refl _ _).alloc (Nat.le_refl _) _
  have HB4 := Lib.hid (HB2.out.trans ((hb3.trans (hb4.mono hb3.size)).mono HB2.out.size))
  have hG4 := (HG2.out.below hb3 HG2.out.lt).alloc (.cells #[.int .i64 0, .int .i64 0] 77)
  have hH4 := (HH2.out.below hb3 HH2.out.lt).alloc (.cells #[.int .i64 0, .int .i64 0] 77)
  have hc3 := own_room hrow3 rfl
  have HL4 := Lib.hid (((lexRow_of hrow3).at.below hb4).more hb4.size)
  have hsz4 : w.heap.size + 2 < (w3.alloc (.cells #[.int .i64 0, .int .i64 0] 77)).heap.size := by have := hb3.size; simp at this ⊢; omega
  have HG4 := Lib.hid hG4
  have HH4 := Lib.hid hH4
  clear hb3 hrow3 hb4 H1 HB2 HG2 HH2
  dsimp only
  skip
  have hP := lexemes_go _ cap3 L _ HL4.out (by omega) hc3
  rw [HX.out] at hP
  have HP := Lib.hid hP
  clear hP
  go_wp2_with fail
  refine HP.out.mono ?_
  rintro e w6 ⟨rfl, hb6⟩
  have hG6 := HG4.out.below hb6 HG4.out.lt
  have hH6 := HH4.out.below hb6 HH4.out.lt
  have HB6 := Lib.hid (HB4.out.trans (hb6.mono (by omega)))
  have y0 : w6.cell? ⟨w.heap.size, 0, none⟩ = some (.int .i64 0) := hG6.cell 0
  have y1 : w6.cell? ⟨w.heap.size, 1, none⟩ = some (.int .u64 0) := hG6.cell 1
  have y2 : w6.cell? ⟨w.heap.size, 2, none⟩ = some (.int .u64 0) := hG6.cell 2
  have y3 : w6.cell? ⟨w.heap.size, 3, none⟩ = some (.int .u64 0) := hG6.cell 3
  have y4 : w6.cell? ⟨w.heap.size, 4, none⟩ = some (.int .u64 0) := hG6.cell 4
  have y5 : w6.cell? ⟨w.heap.size, 5, none⟩ = some (.slice none 0 0) := hG6.cell 5
  have y6 : w6.cell? ⟨w.heap.size, 6, none⟩ = some (.int .i64 0) := hG6.cell 6
  have y7 : w6.cell? ⟨w.heap.size, 7, none⟩ = some (.int .i64 0) := hG6.cell 7
  have z0 := hG6.frozen 0
  have z1 := hG6.frozen 1
  have z2 := hG6.frozen 2
  have z3 := hG6.frozen 3
  have z4 := hG6.frozen 4
  have z5 := hG6.frozen 5
  have z6 := hG6.frozen 6
  have z7 := hG6.frozen 7
  obtain ⟨b0, b1, f0, f1⟩ := hH6.c2
  have HG6 := Lib.hid hG6
  have HH6 := Lib.hid hH6
  clear hb6 hG6 hH6 HP HG4 HH4 HB4 hG4 hH4
  unfold zeroN
  dsimp only
  go_wp2
  go_light
  rw [HV.out]
  exact bodyPost_ret (ret_tree Tryz.results61 rfl rfl ((HG6.out.put8 _ _ _ _ _ _ _ _).far2 (by omega) _ _) ((HH6.out.past8 (by omega) _ _ _ _ _ _ _ _).set2)) rfl ⟨rfl, below_set2 (below_put8 HB6.out (Nat.le_refl _) _ _ _ _ _ _ _ _) (by omega) _ _⟩
 | ok x =>
  have HV := Lib.hid (hV.trans hx)
  have HX := Lib.hid hx
  clear hV hx
  have hL65 := (splitS_right hA.1 hs).2.2
  have hb2 : Below w.heap.size w ((w.alloc (.cells #[.int .i64 0, .int .u64 0, .int .u64 0, .int .u64 0, .int .u64 0, .slice none 0 0, .int .i64 0, .int .i64 0] 28)).alloc (.cells #[.int .i64 0, .int .i64 0] 77)) := ((Below.refl _ _).alloc (Nat.le_refl _) _).alloc (by simp) _
  have HB2 := Lib.hid hb2
  have HG2 := Lib.hid (show Blk ((w.alloc (.cells #[.int .i64 0, .int .u64 0, .int .u64 0, .int .u64 0, .int .u64 0, .slice none 0 0, .int .i64 0, .int .i64 0] 28)).alloc (.cells #[.int .i64 0, .int .i64 0] 77)) w.heap.size 28 _ from (Blk.new w 28 #[.int .i64 0, .int .u64 0, .int .u64 0, .int .u64 0, .int .u64 0, .slice none 0 0, .int .i64 0, .int .i64 0]).alloc _)
  have HH2 := Lib.hid (show Blk ((w.alloc (.cells #[.int .i64 0, .int .u64 0, .int .u64 0, .int .u64 0, .int .u64 0, .slice none 0 0, .int .i64 0, .int .i64 0] 28)).alloc (.cells #[.int .i64 0, .int .i64 0] 77)) (w.heap.size + 1) 77 #[.int .i64 0, .int .i64 0] from Blk.new_at (by simp))
  have h1 := split_go A cap bs _ ((hA.below hb2).more (by simp; omega)) hcap
  rw [hs] at h1
  have H1 := Lib.hid h1
  clear hb2 hA h1
  go_enter Tryz.func61, Tryz.ntmps61
  go_wp2_with fail
  refine H1.out.mono ?_
  rintro e w3 ⟨v, rfl, hb3, hrow3⟩
  obtain ⟨A3, cap3, rfl⟩ := own_slice hrow3
  have hb4 : Below w3.heap.size w3 (w3.alloc (.cells #[.int .i64 0, .int .i64 0] 77)) := (Below.refl _ _).alloc (Nat.le_refl _) _
  have HB4 := Lib.hid (HB2.out.trans ((hb3.trans (hb4.mono hb3.size)).mono HB2.out.size))
  have hG4 := (HG2.out.below hb3 HG2.out.lt).alloc (.cells #[.int .i64 0, .int .i64 0] 77)
  have hH4 := (HH2.out.below hb3 HH2.out.lt).alloc (.cells #[.int .i64 0, .int .i64 0] 77)
  have hc3 := own_room hrow3 rfl
  have HL4 := Lib.hid (((lexRow_of hrow3).at.below hb4).more hb4.size)
  have hsz4 : w.heap.size + 2 < (w3.alloc (.cells #[.int .i64 0, .int .i64 0] 77)).heap.size := by have := hb3.size; simp at this ⊢; omega
  have HG4 := Lib.hid hG4
  have HH4 := Lib.hid hH4
  clear hb3 hrow3 hb4 H1 HB2 HG2 HH2
  dsimp only
  skip
  have hP := lexemes_go _ cap3 L _ HL4.out (by omega) hc3
  rw [HX.out] at hP
  have HP := Lib.hid hP
  clear hP
  go_wp2_with fail
  refine HP.out.mono ?_
  rintro e w6 ⟨B, cap6, rfl, hb6, hc6, ht6⟩
  have hG6 := HG4.out.below hb6 HG4.out.lt
  have hH6 := HH4.out.below hb6 HH4.out.lt
  have HB6 := Lib.hid (HB4.out.trans (hb6.mono (by omega)))
  have HT6 := Lib.hid (ht6.weak (Q := fun b => w.heap.size + 2 ≤ b) (fun b hb _ => by omega))
  have y0 : w6.cell? ⟨w.heap.size, 0, none⟩ = some (.int .i64 0) := hG6.cell 0
  have y1 : w6.cell? ⟨w.heap.size, 1, none⟩ = some (.int .u64 0) := hG6.cell 1
  have y2 : w6.cell? ⟨w.heap.size, 2, none⟩ = some (.int .u64 0) := hG6.cell 2
  have y3 : w6.cell? ⟨w.heap.size, 3, none⟩ = some (.int .u64 0) := hG6.cell 3
  have y4 : w6.cell? ⟨w.heap.size, 4, none⟩ = some (.int .u64 0) := hG6.cell 4
  have y5 : w6.cell? ⟨w.heap.size, 5, none⟩ = some (.slice none 0 0) := hG6.cell 5
  have y6 : w6.cell? ⟨w.heap.size, 6, none⟩ = some (.int .i64 0) := hG6.cell 6
  have y7 : w6.cell? ⟨w.heap.size, 7, none⟩ = some (.int .i64 0) := hG6.cell 7
  have z0 := hG6.frozen 0
  have z1 := hG6.frozen 1
  have z2 := hG6.frozen 2
  have z3 := hG6.frozen 3
  have z4 := hG6.frozen 4
  have z5 := hG6.frozen 5
  have z6 := hG6.frozen 6
  have z7 := hG6.frozen 7
  obtain ⟨b0, b1, f0, f1⟩ := hH6.c2
  have HG6 := Lib.hid hG6
  have HH6 := Lib.hid hH6
  clear hb6 ht6 hG6 hH6 HP HG4 HH4 HB4 hG4 hH4
  unfold ndV
  dsimp only
  go_wp2
  go_light
  have hF := laid (x := x) (B := B) (cap := cap6) (k := 0) (q := 0) HG6.out HH6.out HB6.out HT6.out rfl
  rw [HV.out]
  exact bodyPost_ret (ret_tree Tryz.results61 rfl rfl hF.1 hF.2.1) rfl ⟨B, cap6, rfl, hF.2.2.1, hc6, hF.2.2.2⟩
theorem text_sign (A : Option Addr) (cap : Nat) (bs : List Nat) (w : World) (hA : BytesAt w w.heap.size A bs) (hcap : bs.length ≤ cap) {y : Lex} (hs : splitS bs = .ok [y]) (h1 : y.kind ≠ 1) :
  Calls Tryz.prog 61 #[.slice A bs.length cap] w (TreeOut (parseS bs) w) := by
 obtain ⟨L, hL⟩ : ∃ L, L = [y] := ⟨_, rfl⟩
 have HLy := Lib.hid hL
 rw [← hL] at hs
 have hlen : L.length = 1 := by rw [hL]; rfl
 clear hL
 have hd : ((L.length : Int) == 1) = true := by rw [beq_iff_eq]; omega
 have hd0 : (0 : Int) < (L.length : Int) := by omega
 have hy : L[0]? = some y := by rw [HLy.out]; rfl
 have Hy := Lib.hid hy
 have hk : (y.kind == 1) = false := by simp; exact h1
 have hV : parseS bs = lexemesS L := by unfold parseS; rw [hs]
 clear h1 hlen hy
 cases hx : lexemesS L with
 | error x =>
  obtain ⟨k, q⟩ := x
  have HV := Lib.hid (hV.trans hx)
  have HX := Lib.hid hx
  clear hV hx
  have hL65 := (splitS_right hA.1 hs).2.2
  have hb2 : Below w.heap.size w ((w.alloc (.cells #[.int .i64 0, .int .u64 0, .int .u64 0, .int .u64 0, .int .u64 0, .slice none 0 0, .int .i64 0, .int .i64 0] 28)).alloc (.cells #[.int .i64 0, .int .i64 0] 77)) := ((Below.refl _ _).alloc (Nat.le_refl _) _).alloc (by simp) _
  have HB2 := Lib.hid hb2
  have HG2 := Lib.hid (show Blk ((w.alloc (.cells #[.int .i64 0, .int .u64 0, .int .u64 0, .int .u64 0, .int .u64 0, .slice none 0 0, .int .i64 0, .int .i64 0] 28)).alloc (.cells #[.int .i64 0, .int .i64 0] 77)) w.heap.size 28 _ from (Blk.new w 28 #[.int .i64 0, .int .u64 0, .int .u64 0, .int .u64 0, .int .u64 0, .slice none 0 0, .int .i64 0, .int .i64 0]).alloc _)
  have HH2 := Lib.hid (show Blk ((w.alloc (.cells #[.int .i64 0, .int .u64 0, .int .u64 0, .int .u64 0, .int .u64 0, .slice none 0 0, .int .i64 0, .int .i64 0] 28)).alloc (.cells #[.int .i64 0, .int .i64 0] 77)) (w.heap.size + 1) 77 #[.int .i64 0, .int .i64 0] from Blk.new_at (by simp))
  have h1 := split_go A cap bs _ ((hA.below hb2).more (by simp; omega)) hcap
  rw [hs] at h1
  have H1 := Lib.hid h1
  clear hb2 hA h1
  go_enter Tryz.func61, Tryz.ntmps61
  go_wp2_with fail
  refine H1.out.mono ?_
  rintro e w3 ⟨v, rfl, hb3, hrow3⟩
  obtain ⟨A3, cap3, rfl⟩ := own_slice hrow3
  have hb4 : Below w3.heap.size w3 (w3.alloc (.cells #[.int .i64 0, .int .i64 0] 77)) := (Below.refl _ _).alloc (Nat.le_refl _) _
  have HB4 := Lib.hid (HB2.out.trans ((hb3.trans (hb4.mono hb3.size)).mono HB2.out.size))
  have hG4 := (HG2.out.below hb3 HG2.out.lt).alloc (.cells #[.int .i64 0, .int .i64 0] 77)
  have hH4 := (HH2.out.below hb3 HH2.out.lt).alloc (.cells #[.int .i64 0, .int .i64 0] 77)
  have hc3 := own_room hrow3 rfl
  have HL4 := Lib.hid (((lexRow_of hrow3).at.below hb4).more hb4.size)
  have hsz4 : w.heap.size + 2 < (w3.alloc (.cells #[.int .i64 0, .int .i64 0] 77)).heap.size := by have := hb3.size; simp at this ⊢; omega
  have HG4 := Lib.hid hG4
  have HH4 := Lib.hid hH4
  clear hb3 hrow3 hb4 H1 HB2 HG2 HH2
  dsimp only
  obtain ⟨b4, o4, rfl, hbl4, hc4⟩ := HL4.out (by omega); obtain ⟨q0, _⟩ := hc4 0 y Hy.out; simp only [Nat.zero_mul, Nat.add_zero] at q0; clear hc4
  have hP := lexemes_go _ cap3 L _ HL4.out (by omega) hc3
  rw [HX.out] at hP
  have HP := Lib.hid hP
  clear hP
  go_wp2_with fail
  refine HP.out.mono ?_
  rintro e w6 ⟨rfl, hb6⟩
  have hG6 := HG4.out.below hb6 HG4.out.lt
  have hH6 := HH4.out.below hb6 HH4.out.lt
  have HB6 := Lib.hid (HB4.out.trans (hb6.mono (by omega)))
  have y0 : w6.cell? ⟨w.heap.size, 0, none⟩ = some (.int .i64 0) := hG6.cell 0
  have y1 : w6.cell? ⟨w.heap.size, 1, none⟩ = some (.int .u64 0) := hG6.cell 1
  have y2 : w6.cell? ⟨w.heap.size, 2, none⟩ = some (.int .u64 0) := hG6.cell 2
  have y3 : w6.cell? ⟨w.heap.size, 3, none⟩ = some (.int .u64 0) := hG6.cell 3
  have y4 : w6.cell? ⟨w.heap.size, 4, none⟩ = some (.int .u64 0) := hG6.cell 4
  have y5 : w6.cell? ⟨w.heap.size, 5, none⟩ = some (.slice none 0 0) := hG6.cell 5
  have y6 : w6.cell? ⟨w.heap.size, 6, none⟩ = some (.int .i64 0) := hG6.cell 6
  have y7 : w6.cell? ⟨w.heap.size, 7, none⟩ = some (.int .i64 0) := hG6.cell 7
  have z0 := hG6.frozen 0
  have z1 := hG6.frozen 1
  have z2 := hG6.frozen 2
  have z3 := hG6.frozen 3
  have z4 := hG6.frozen 4
  have z5 := hG6.frozen 5
  have z6 := hG6.frozen 6
  have z7 := hG6.frozen 7
  obtain ⟨b0, b1, f0, f1⟩ := hH6.c2
  have HG6 := Lib.hid hG6
  have HH6 := Lib.hid hH6
  clear hb6 hG6 hH6 HP HG4 HH4 HB4 hG4 hH4
  unfold zeroN
  dsimp only
  go_wp2
  go_light
  rw [HV.out]
  exact bodyPost_ret (ret_tree Tryz.results61 rfl rfl ((HG6.out.put8 _ _ _ _ _ _ _ _).far2 (by omega) _ _) ((HH6.out.past8 (by omega) _ _ _ _ _ _ _ _).set2)) rfl ⟨rfl, below_set2 (below_put8 HB6.out (Nat.le_refl _) _ _ _ _ _ _ _ _) (by omega) _ _⟩
 | ok x =>
  have HV := Lib.hid (hV.trans hx)
  have HX := Lib.hid hx
  clear hV hx
  have hL65 := (splitS_right hA.1 hs).2.2
  have hb2 : Below w.heap.size w ((w.alloc (.cells #[.int .i64 0, .int .u64 0, .int .u64 0, .int .u64 0, .int .u64 0, .slice none 0 0, .int .i64 0, .int .i64 0] 28)).alloc (.cells #[.int .i64 0, .int .i64 0] 77)) := ((Below.refl _ _).alloc (Nat.le_refl _) _).alloc (by simp) _
  have HB2 := Lib.hid hb2
  have HG2 := Lib.hid (show Blk ((w.alloc (.cells #[.int .i64 0, .int .u64 0, .int .u64 0, .int .u64 0, .int .u64 0, .slice none 0 0, .int .i64 0, .int .i64 0] 28)).alloc (.cells #[.int .i64 0, .int .i64 0] 77)) w.heap.size 28 _ from (Blk.new w 28 #[.int .i64 0, .int .u64 0, .int .u64 0, .int .u64 0, .int .u64 0, .slice none 0 0, .int .i64 0, .int .i64 0]).alloc _)
  have HH2 := Lib.hid (show Blk ((w.alloc (.cells #[.int .i64 0, .int .u64 0, .int .u64 0, .int .u64 0, .int .u64 0, .slice none 0 0, .int .i64 0, .int .i64 0] 28)).alloc (.cells #[.int .i64 0, .int .i64 0] 77)) (w.heap.size + 1) 77 #[.int .i64 0, .int .i64 0] from Blk.new_at (by simp))
  have h1 := split_go A cap bs _ ((hA.below hb2).more (by simp; omega)) hcap
  rw [hs] at h1
  have H1 := Lib.hid h1
  clear hb2 hA h1
  go_enter Tryz.func61, Tryz.ntmps61
  go_wp2_with fail
  refine H1.out.mono ?_
  rintro e w3 ⟨v, rfl, hb3, hrow3⟩
  obtain ⟨A3, cap3, rfl⟩ := own_slice hrow3
  have hb4 : Below w3.heap.size w3 (w3.alloc (.cells #[.int .i64 0, .int .i64 0] 77)) := (Below.refl _ _).alloc (Nat.le_refl _) _
  have HB4 := Lib.hid (HB2.out.trans ((hb3.trans (hb4.mono hb3.size)).mono HB2.out.size))
  have hG4 := (HG2.out.below hb3 HG2.out.lt).alloc (.cells #[.int .i64 0, .int .i64 0] 77)
  have hH4 := (HH2.out.below hb3 HH2.out.lt).alloc (.cells #[.int .i64 0, .int .i64 0] 77)
  have hc3 := own_room hrow3 rfl
  have HL4 := Lib.hid (((lexRow_of hrow3).at.below hb4).more hb4.size)
  have hsz4 : w.heap.size + 2 < (w3.alloc (.cells #[.int .i64 0, .int .i64 0] 77)).heap.size := by have := hb3.size; simp at this ⊢; omega
  have HG4 := Lib.hid hG4
  have HH4 := Lib.hid hH4
  clear hb3 hrow3 hb4 H1 HB2 HG2 HH2
  dsimp only
  obtain ⟨b4, o4, rfl, hbl4, hc4⟩ := HL4.out (by omega); obtain ⟨q0, _⟩ := hc4 0 y Hy.out; simp only [Nat.zero_mul, Nat.add_zero] at q0; clear hc4
  have hP := lexemes_go _ cap3 L _ HL4.out (by omega) hc3
  rw [HX.out] at hP
  have HP := Lib.hid hP
  clear hP
  go_wp2_with fail
  refine HP.out.mono ?_
  rintro e w6 ⟨B, cap6, rfl, hb6, hc6, ht6⟩
  have hG6 := HG4.out.below hb6 HG4.out.lt
  have hH6 := HH4.out.below hb6 HH4.out.lt
  have HB6 := Lib.hid (HB4.out.trans (hb6.mono (by omega)))
  have HT6 := Lib.hid (ht6.weak (Q := fun b => w.heap.size + 2 ≤ b) (fun b hb _ => by omega))
  have y0 : w6.cell? ⟨w.heap.size, 0, none⟩ = some (.int .i64 0) := hG6.cell 0
  have y1 : w6.cell? ⟨w.heap.size, 1, none⟩ = some (.int .u64 0) := hG6.cell 1
  have y2 : w6.cell? ⟨w.heap.size, 2, none⟩ = some (.int .u64 0) := hG6.cell 2
  have y3 : w6.cell? ⟨w.heap.size, 3, none⟩ = some (.int .u64 0) := hG6.cell 3
  have y4 : w6.cell? ⟨w.heap.size, 4, none⟩ = some (.int .u64 0) := hG6.cell 4
  have y5 : w6.cell? ⟨w.heap.size, 5, none⟩ = some (.slice none 0 0) := hG6.cell 5
  have y6 : w6.cell? ⟨w.heap.size, 6, none⟩ = some (.int .i64 0) := hG6.cell 6
  have y7 : w6.cell? ⟨w.heap.size, 7, none⟩ = some (.int .i64 0) := hG6.cell 7
  have z0 := hG6.frozen 0
  have z1 := hG6.frozen 1
  have z2 := hG6.frozen 2
  have z3 := hG6.frozen 3
  have z4 := hG6.frozen 4
  have z5 := hG6.frozen 5
  have z6 := hG6.frozen 6
  have z7 := hG6.frozen 7
  obtain ⟨b0, b1, f0, f1⟩ := hH6.c2
  have HG6 := Lib.hid hG6
  have HH6 := Lib.hid hH6
  clear hb6 ht6 hG6 hH6 HP HG4 HH4 HB4 hG4 hH4
  unfold ndV
  dsimp only
  go_wp2
  go_light
  have hF := laid (x := x) (B := B) (cap := cap6) (k := 0) (q := 0) HG6.out HH6.out HB6.out HT6.out rfl
  rw [HV.out]
  exact bodyPost_ret (ret_tree Tryz.results61 rfl rfl hF.1 hF.2.1) rfl ⟨B, cap6, rfl, hF.2.2.1, hc6, hF.2.2.2⟩
theorem text_set (A : Option Addr) (cap : Nat) (bs : List Nat) (w : World) (hA : BytesAt w w.heap.size A bs) (hcap : bs.length ≤ cap) {y : Lex} (hs : splitS bs = .ok [y]) (h1 : y.kind = 1) :
  Calls Tryz.prog 61 #[.slice A bs.length cap] w (TreeOut (parseS bs) w) := by
 have hr : rightS y = true := (splitS_right hA.1 hs).1 0 y rfl
 have hx := one_leaf hr h1
 have HV := Lib.hid (show parseS bs = .ok (leafN (maskOf y.set)) by unfold parseS; rw [hs]; exact hx)
 obtain ⟨L, hL⟩ : ∃ L, L = [y] := ⟨_, rfl⟩
 have HLy := Lib.hid hL
 rw [← hL] at hs hx
 have HX := Lib.hid hx
 have hlen : L.length = 1 := by rw [hL]; rfl
 clear hL
 have hd : ((L.length : Int) == 1) = true := by rw [beq_iff_eq]; omega
 have hd0 : (0 : Int) < (L.length : Int) := by omega
 have hy : L[0]? = some y := by rw [HLy.out]; rfl
 have Hy := Lib.hid hy
 clear hlen hy hr hx
 have hL65 := (splitS_right hA.1 hs).2.2
 have hb2 : Below w.heap.size w ((w.alloc (.cells #[.int .i64 0, .int .u64 0, .int .u64 0, .int .u64 0, .int .u64 0, .slice none 0 0, .int .i64 0, .int .i64 0] 28)).alloc (.cells #[.int .i64 0, .int .i64 0] 77)) := ((Below.refl _ _).alloc (Nat.le_refl _) _).alloc (by simp) _
 have HB2 := Lib.hid hb2
 have HG2 := Lib.hid (show Blk ((w.alloc (.cells #[.int .i64 0, .int .u64 0, .int .u64 0, .int .u64 0, .int .u64 0, .slice none 0 0, .int .i64 0, .int .i64 0] 28)).alloc (.cells #[.int .i64 0, .int .i64 0] 77)) w.heap.size 28 _ from (Blk.new w 28 #[.int .i64 0, .int .u64 0, .int .u64 0, .int .u64 0, .int .u64 0, .slice none 0 0, .int .i64 0, .int .i64 0]).alloc _)
 have HH2 := Lib.hid (show Blk ((w.alloc (.cells #[.int .i64 0, .int .u64 0, .int .u64 0, .int .u64 0, .int .u64 0, .slice none 0 0, .int .i64 0, .int .i64 0] 28)).alloc (.cells #[.int .i64 0, .int .i64 0] 77)) (w.heap.size + 1) 77 #[.int .i64 0, .int .i64 0] from Blk.new_at (by simp))
 have h1 := split_go A cap bs _ ((hA.below hb2).more (by simp; omega)) hcap
 rw [hs] at h1
 have H1 := Lib.hid h1
 clear hb2 hA h1
 go_enter Tryz.func61, Tryz.ntmps61
 go_wp2_with fail
 refine H1.out.mono ?_
 rintro e w3 ⟨v, rfl, hb3, hrow3⟩
 obtain ⟨A3, cap3, rfl⟩ := own_slice hrow3
 have hb4 : Below w3.heap.size w3 (w3.alloc (.cells #[.int .i64 0, .int .i64 0] 77)) := (Below.refl _ _).alloc (Nat.le_refl _) _
 have HB4 := Lib.hid (HB2.out.trans ((hb3.trans (hb4.mono hb3.size)).mono HB2.out.size))
 have hG4 := (HG2.out.below hb3 HG2.out.lt).alloc (.cells #[.int .i64 0, .int .i64 0] 77)
 have hH4 := (HH2.out.below hb3 HH2.out.lt).alloc (.cells #[.int .i64 0, .int .i64 0] 77)
 have hc3 := own_room hrow3 rfl
 have HL4 := Lib.hid (((lexRow_of hrow3).at.below hb4).more hb4.size)
 have hsz4 : w.heap.size + 2 < (w3.alloc (.cells #[.int .i64 0, .int .i64 0] 77)).heap.size := by have := hb3.size; simp at this ⊢; omega
 have HG4 := Lib.hid hG4
 have HH4 := Lib.hid hH4
 clear hb3 hrow3 hb4 H1 HB2 HG2 HH2
 dsimp only
 obtain ⟨b4, o4, rfl, hbl4, hc4⟩ := HL4.out (by omega)
 obtain ⟨q0, _, q2, q3, q4, q5, _⟩ := hc4 0 y Hy.out
 simp only [Nat.zero_mul, Nat.add_zero] at q0 q2 q3 q4 q5
 rw [h1] at q0
 have q3' : (w3.alloc (.cells #[.int .i64 0, .int .i64 0] 77)).cell? ⟨b4, o4 + 2 + 1, none⟩ = some (.int .u64 (word y.set 1)) := q3
 have q4' : (w3.alloc (.cells #[.int .i64 0, .int .i64 0] 77)).cell? ⟨b4, o4 + 2 + 2, none⟩ = some (.int .u64 (word y.set 2)) := q4
 have q5' : (w3.alloc (.cells #[.int .i64 0, .int .i64 0] 77)).cell? ⟨b4, o4 + 2 + 3, none⟩ = some (.int .u64 (word y.set 3)) := q5
 clear hc4 hG4 hH4
 go_wp2_with fail
 refine (count_go y.set _).mono ?_
 rintro e w5 ⟨rfl, hb5⟩
 have hG5 := HG4.out.below hb5 HG4.out.lt
 have hH5 := HH4.out.below hb5 HH4.out.lt
 have HB5 := Lib.hid (HB4.out.trans (hb5.mono (by omega)))
 have HL5 := Lib.hid ((HL4.out.below hb5).more hb5.size)
 have hsz5 := hb5.size
 have q2 := (hb5.cell (p := ⟨b4, o4 + 2, none⟩) hbl4).trans q2
 have q3' := (hb5.cell (p := ⟨b4, o4 + 2 + 1, none⟩) hbl4).trans q3'
 have q4' := (hb5.cell (p := ⟨b4, o4 + 2 + 2, none⟩) hbl4).trans q4'
 have q5' := (hb5.cell (p := ⟨b4, o4 + 2 + 3, none⟩) hbl4).trans q5'
 have HG5 := Lib.hid hG5
 have HH5 := Lib.hid hH5
 clear hb5 hG5 hH5 HB4 HG4 HH4 HL4 q0
 dsimp only
 by_cases hcn : cnt y.set 256 = 1
 ·rw [hcn]
  clear hcn
  go_wp2_with fail
  refine (tbytes_any y.set _).mono ?_
  rintro e w6 ⟨rfl, hb6⟩
  have hG6 := HG5.out.below hb6 HG5.out.lt
  have hH6 := HH5.out.below hb6 HH5.out.lt
  have HB6 := Lib.hid (HB5.out.trans (hb6.mono (by omega)))
  have HT6 : Hid (TreesAt w6 (fun b => w.heap.size + 2 ≤ b) (leafN (maskOf y.set)).kids none) := Lib.hid trivial
  have y0 : w6.cell? ⟨w.heap.size, 0, none⟩ = some (.int .i64 0) := hG6.cell 0
  have y1 : w6.cell? ⟨w.heap.size, 1, none⟩ = some (.int .u64 0) := hG6.cell 1
  have y2 : w6.cell? ⟨w.heap.size, 2, none⟩ = some (.int .u64 0) := hG6.cell 2
  have y3 : w6.cell? ⟨w.heap.size, 3, none⟩ = some (.int .u64 0) := hG6.cell 3
  have y4 : w6.cell? ⟨w.heap.size, 4, none⟩ = some (.int .u64 0) := hG6.cell 4
  have y5 : w6.cell? ⟨w.heap.size, 5, none⟩ = some (.slice none 0 0) := hG6.cell 5
  have y6 : w6.cell? ⟨w.heap.size, 6, none⟩ = some (.int .i64 0) := hG6.cell 6
  have y7 : w6.cell? ⟨w.heap.size, 7, none⟩ = some (.int .i64 0) := hG6.cell 7
  have z0 := hG6.frozen 0
  have z1 := hG6.frozen 1
  have z2 := hG6.frozen 2
  have z3 := hG6.frozen 3
  have z4 := hG6.frozen 4
  have z5 := hG6.frozen 5
  have z6 := hG6.frozen 6
  have z7 := hG6.frozen 7
  obtain ⟨b0, b1, f0, f1⟩ := hH6.c2
  have HG6 := Lib.hid hG6
  have HH6 := Lib.hid hH6
  clear hb6 hG6 hH6 HG5 HH5 HB5
  have hv3 : ndV (leafN (maskOf y.set)) none 0 = .agg #[.int .i64 3, .int .u64 ((word ((maskOf y.set).testBit) 0 : Nat) : Int), .int .u64 ((word ((maskOf y.set).testBit) 1 : Nat) : Int), .int .u64 ((word ((maskOf y.set).testBit) 2 : Nat) : Int), .int .u64 ((word ((maskOf y.set).testBit) 3 : Nat) : Int), .slice none 0 0, .int .i64 0, .int .i64 0] := rfl
  rw [hv3]
  clear hv3
  dsimp only
  go_wp2
  go_light
  have hF := laid (x := leafN (maskOf y.set)) (B := none) (cap := 0) (k := 0) (q := 0) HG6.out HH6.out HB6.out HT6.out rfl
  rw [HV.out]
  exact bodyPost_ret (ret_tree Tryz.results61 rfl rfl hF.1 hF.2.1) rfl ⟨none, 0, rfl, hF.2.2.1, Nat.le_refl _, hF.2.2.2⟩
 ·have hd2 : (((cnt y.set 256 : Nat) : Int) == 1) = false := by rw [beq_eq_false_iff_ne]; omega
  clear hcn
  have hP := lexemes_go _ cap3 L _ HL5.out (by omega) hc3
  rw [HX.out] at hP
  have HP := Lib.hid hP
  clear hP
  go_wp2_with fail
  refine HP.out.mono ?_
  rintro e w6 ⟨B, cap6, rfl, hb6, hc6, ht6⟩
  have hG6 := HG5.out.below hb6 HG5.out.lt
  have hH6 := HH5.out.below hb6 HH5.out.lt
  have HB6 := Lib.hid (HB5.out.trans (hb6.mono (by omega)))
  have HT6 := Lib.hid (ht6.weak (Q := fun b => w.heap.size + 2 ≤ b) (fun b hb _ => by omega))
  have y0 : w6.cell? ⟨w.heap.size, 0, none⟩ = some (.int .i64 0) := hG6.cell 0
  have y1 : w6.cell? ⟨w.heap.size, 1, none⟩ = some (.int .u64 0) := hG6.cell 1
  have y2 : w6.cell? ⟨w.heap.size, 2, none⟩ = some (.int .u64 0) := hG6.cell 2
  have y3 : w6.cell? ⟨w.heap.size, 3, none⟩ = some (.int .u64 0) := hG6.cell 3
  have y4 : w6.cell? ⟨w.heap.size, 4, none⟩ = some (.int .u64 0) := hG6.cell 4
  have y5 : w6.cell? ⟨w.heap.size, 5, none⟩ = some (.slice none 0 0) := hG6.cell 5
  have y6 : w6.cell? ⟨w.heap.size, 6, none⟩ = some (.int .i64 0) := hG6.cell 6
  have y7 : w6.cell? ⟨w.heap.size, 7, none⟩ = some (.int .i64 0) := hG6.cell 7
  have z0 := hG6.frozen 0
  have z1 := hG6.frozen 1
  have z2 := hG6.frozen 2
  have z3 := hG6.frozen 3
  have z4 := hG6.frozen 4
  have z5 := hG6.frozen 5
  have z6 := hG6.frozen 6
  have z7 := hG6.frozen 7
  obtain ⟨b0, b1, f0, f1⟩ := hH6.c2
  have HG6 := Lib.hid hG6
  have HH6 := Lib.hid hH6
  clear hb6 ht6 hG6 hH6 HP HG5 HH5 HB5
  unfold ndV
  dsimp only
  go_wp2
  go_light
  have hF := laid (x := leafN (maskOf y.set)) (B := B) (cap := cap6) (k := 0) (q := 0) HG6.out HH6.out HB6.out HT6.out rfl
  rw [HV.out]
  exact bodyPost_ret (ret_tree Tryz.results61 rfl rfl hF.1 hF.2.1) rfl ⟨B, cap6, rfl, hF.2.2.1, hc6, hF.2.2.2⟩
theorem splitF_kind {bs : List Nat} (hb : ∀ x ∈ bs, x < 256) : ∀ {f i : Nat} {L : List Lex} {k q : Int}, bs.length < f + i → i ≤ bs.length → splitF bs f i L = .error (k, q) → k ≠ 0
 | 0, i, L, k, q, hf, hi, h => by omega
 | f + 1, i, L, k, q, hf, hi, h => by
  rcases Nat.lt_or_ge i bs.length with h1 | h1
  ·cases hx : lexS bs i with
   | error e =>
    obtain ⟨a, b⟩ := e
    rw [splitF_bad h1 hx] at h
    cases h
    exact lexS_err hb hx
   | ok x =>
    obtain ⟨x, j⟩ := x
    have hj := lexS_some hb h1 hx
    rw [splitF_ok h1 hx] at h
    exact splitF_kind hb (by omega) hj.2 h
  ·rw [splitF_end h1] at h; cases h
theorem splitS_kind {bs : List Nat} (hb : ∀ x ∈ bs, x < 256) {k q : Int} (h : splitS bs = .error (k, q)) : k ≠ 0 := by
 rcases Nat.lt_or_ge 65536 bs.length with h1 | h1
 ·rw [splitS_long h1] at h
  cases h
  decide
 ·rw [splitS_go h1] at h
  exact splitF_kind hb (by omega) (Nat.zero_le _) h
theorem text_go07 (A : Option Addr) (cap : Nat) (bs : List Nat) (w : World) (hA : BytesAt w w.heap.size A bs) (hcap : bs.length ≤ cap) :
  Calls Tryz.prog 61 #[.slice A bs.length cap] w (TreeOut (parseS bs) w) := by
 cases hs : splitS bs with
 | error x =>
  obtain ⟨k, q⟩ := x
  exact text_bad A cap bs w hA hcap hs (splitS_kind hA.1 hs)
 | ok L =>
  by_cases h1 : L.length = 1
  ·obtain ⟨y, rfl⟩ := List.length_eq_one_iff.1 h1
   by_cases hk : y.kind = 1
   ·exact text_set A cap bs w hA hcap hs hk
   ·exact text_sign A cap bs w hA hcap hs hk
  ·exact text_many A cap bs w hA hcap hs h1
theorem parse_a7 : parseS [97] = .ok (leafN (maskOf (among [97] 1))) := by rfl
def starN (s : Nat) : Nd := ⟨6, 0, Trees.of [leafN s], 0, 0⟩
theorem parse_as : parseS [97, 42] = .ok (starN (maskOf (among [97] 1))) := by rfl
theorem of_as (s : Nat) : ofS [leafN s, starN s] = .ok ⟨[0, 0, 1, 0, 0, 2], [(1, 2), (0, 3), (4, 3), (3, 5)], [(0, s, 1), (3, s, 4)]⟩ := by
 unfold ofS
 have h1 : rightT (leafN s) = true := by simp [rightT, leafN, Nd.nodes, Trees.nodes, aloneN, aloneV, Trees.len]
 have h2 : rightT (starN s) = true := by
  simp [rightT, starN, leafN, Trees.of, Nd.nodes, Trees.nodes, aloneN, aloneV, Trees.len]
  decide +kernel
 have h3 : sizeW [leafN s, starN s] = 6 := by rfl
 rw [if_neg (by simp), if_neg (by simp [h1, h2]), if_neg (by omega)]
 rfl
def nE (s : Nat) : NfaV := ⟨6, 0, [(1, 2), (0, 3), (4, 3), (3, 5)], [(0, s, 1), (3, s, 4)], [0, 0, 1, 0, 0, 2]⟩
theorem toV_as (s : Nat) : MachS.toV ⟨[0, 0, 1, 0, 0, 2], [(1, 2), (0, 3), (4, 3), (3, 5)], [(0, s, 1), (3, s, 4)]⟩ = nE s := rfl
theorem right_as (s : Nat) : rightN (nE s) = true := rfl
def stepsB (K : List (Int × Int)) (S : Int) (l : List Int) : List Int → List Int → Bool
 | _, [] => true
 | seen, x :: xs => ((l.contains x && decide (0 ≤ x) && decide (x < S)) || seen.any fun a => K.contains (a, x)) && stepsB K S l (x :: seen) xs
def shutB (K : List (Int × Int)) (S : Int) (l R : List Int) : Bool := (l.all fun s => !(decide (0 ≤ s) && decide (s < S)) || R.contains s) && K.all fun p => !R.contains p.1 || R.contains p.2
theorem steps_lead {K : List (Int × Int)} {S : Int} {l : List Int} : ∀ (xs seen : List Int), stepsB K S l seen xs = true → (∀ x ∈ seen, Leads K (fun s => s ∈ l ∧ 0 ≤ s ∧ s < S) x) → ∀ x ∈ xs, Leads K (fun s => s ∈ l ∧ 0 ≤ s ∧ s < S) x
 | [], _, _, _, x, hx => by simp at hx
 | y :: xs, seen, h, hs, x, hx => by
  unfold stepsB at h
  rw [Bool.and_eq_true, Bool.or_eq_true] at h
  obtain ⟨h1, h2⟩ := h
  have hy : Leads K (fun s => s ∈ l ∧ 0 ≤ s ∧ s < S) y := by
   rcases h1 with h1 | h1
   ·simp at h1
    exact .here ⟨h1.1.1, h1.1.2, h1.2⟩
   ·rw [List.any_eq_true] at h1
    obtain ⟨a, ha, hk⟩ := h1
    exact .link (hs a ha) (by simpa using hk)
  rcases List.mem_cons.1 hx with rfl | hx
  ·exact hy
  ·exact steps_lead xs (y :: seen) h2 (fun z hz => (List.mem_cons.1 hz).elim (fun e => by rw [e]; exact hy) (hs z)) x hx
theorem isclos_of {K : List (Int × Int)} {S : Int} {l R : List Int} (order : List Int) (h1 : Rises R) (h2 : stepsB K S l [] order = true) (h3 : ∀ x, x ∈ R → x ∈ order) (h4 : shutB K S l R = true) : IsClos K S l R := by
 unfold shutB at h4
 rw [Bool.and_eq_true] at h4
 refine ⟨h1, fun x => ⟨fun hx => steps_lead order [] h2 (by simp) x (h3 x hx), fun hx => ?_⟩⟩
 induction hx with
 | @here s hs =>
  have := List.all_eq_true.1 h4.1 s hs.1
  simpa [hs.2.1, hs.2.2] using this
 | @link a b _ hk ih =>
  have := List.all_eq_true.1 h4.2 (a, b) hk
  simpa [ih] using this
variable {s : Nat}
theorem start_as : IsClos (nE s).links (nE s).states [(nE s).start] [0, 3, 5] := isclos_of [0, 3, 5] (by simp [Rises]) (by rfl) (by simp) (by rfl)
theorem run_as0 : RunOf (nE s) [] [0, 3, 5] := .nil start_as
theorem step_as1 (h : s.testBit 97 = true) : IsStep (nE s) [0, 3, 5] 97 [1, 2, 3, 4, 5] :=
 ⟨[1, 4], fun t => by
  simp only [StepTo, nE, List.mem_cons, List.not_mem_nil, or_false]
  constructor
  ·rintro (rfl | rfl)
   ·exact ⟨(0, s, 1), .inl rfl, by simp, h, rfl⟩
   ·exact ⟨(3, s, 4), .inr rfl, by simp, h, rfl⟩
  ·rintro ⟨p, (rfl | rfl), _, _, rfl⟩
   ·exact .inl rfl
   ·exact .inr rfl, isclos_of [1, 2, 4, 3, 5] (by simp [Rises]) (by rfl) (by simp) (by rfl)⟩
theorem run_as1 (h : s.testBit 97 = true) : RunOf (nE s) [97] [1, 2, 3, 4, 5] := .snoc (v := []) run_as0 (step_as1 h)
theorem step_as2 (h : s.testBit 97 = true) : IsStep (nE s) [1, 2, 3, 4, 5] 97 [3, 4, 5] :=
 ⟨[4], fun t => by
  simp only [StepTo, nE, List.mem_cons, List.not_mem_nil, or_false]
  constructor
  ·rintro rfl
   exact ⟨(3, s, 4), .inr rfl, by simp, h, rfl⟩
  ·rintro ⟨p, (rfl | rfl), h1, _, rfl⟩
   ·simp at h1
   ·rfl, isclos_of [4, 3, 5] (by simp [Rises]) (by rfl) (by simp) (by rfl)⟩
theorem run_as2 (h : s.testBit 97 = true) : RunOf (nE s) [97, 97] [3, 4, 5] := .snoc (v := [97]) (run_as1 h) (step_as2 h)
theorem step_asb (h : s.testBit 98 = false) : IsStep (nE s) [0, 3, 5] 98 [] :=
 ⟨[], (fun t => by
  simp only [StepTo, nE, List.mem_cons, List.not_mem_nil, or_false, false_iff]
  rintro ⟨p, (rfl | rfl), _, h1, _⟩
  ·rw [h] at h1
   cases h1
  ·rw [h] at h1
   cases h1), isclos_of [] (by simp [Rises]) (by rfl) (by simp) (by rfl)⟩
theorem run_asb (h : s.testBit 98 = false) : RunOf (nE s) [98] [] := .snoc (v := []) run_as0 (step_asb h)
theorem lab_as1 : IsLabels (nE s) [1, 2, 3, 4, 5] [1, 2] := ⟨by simp [Rises], fun x => by
 constructor
 ·intro hx
  simp at hx
  rcases hx with rfl | rfl
  ·exact ⟨by decide, 2, by simp, rfl⟩
  ·exact ⟨by decide, 5, by simp, rfl⟩
 ·rintro ⟨h0, m, h1, h2⟩
  simp [nE] at h1 h2
  have : m = 1 ∨ m = 2 ∨ m = 3 ∨ m = 4 ∨ m = 5 := by omega
  rcases this with rfl | rfl | rfl | rfl | rfl <;> simp at h2 <;> subst h2 <;> simp at h0 ⊢⟩
theorem lab_as2 : IsLabels (nE s) [3, 4, 5] [2] := ⟨by simp [Rises], fun x => by
 constructor
 ·intro hx
  simp at hx
  subst hx
  exact ⟨by decide, 5, by simp, rfl⟩
 ·rintro ⟨h0, m, h1, h2⟩
  simp [nE] at h1 h2
  have : m = 3 ∨ m = 4 ∨ m = 5 := by omega
  rcases this with rfl | rfl | rfl <;> simp at h2 <;> subst h2 <;> simp at h0 ⊢⟩
theorem lab_asb : IsLabels (nE s) [] [] := ⟨by simp [Rises], fun x => ⟨fun h => by simp at h, fun ⟨_, m, h, _⟩ => by simp at h⟩⟩
theorem tell_as1 (h : s.testBit 97 = true) : TellOf (nE s) [97] 1 := ⟨_, _, run_as1 h, lab_as1, rfl⟩
theorem tell_as2 (h : s.testBit 97 = true) : TellOf (nE s) [97, 97] 2 := ⟨_, _, run_as2 h, lab_as2, rfl⟩
theorem tell_asb (h : s.testBit 98 = false) : TellOf (nE s) [98] 0 := ⟨_, _, run_asb h, lab_asb, rfl⟩
theorem mask_97 : (maskOf (among [97] 1)).testBit 97 = true ∧ (maskOf (among [97] 1)).testBit 98 = false := by decide +kernel
theorem text_a (w : World) (n : Nat) (hn : n = w.heap.size) :
  Calls Tryz.prog 61 #[.slice (some ⟨n, 0, none⟩) 1 1] (w.alloc (.cells #[.int .u8 97] 5 (1, 2))) (TreeOut (.ok (leafN (maskOf (among [97] 1)))) (w.alloc (.cells #[.int .u8 97] 5 (1, 2)))) := by
 have h := text_go07 (some ⟨n, 0, none⟩) 1 [97] _ (bytes_new w n [97] _ (1, 2) hn rfl (by decide) (by decide)) (by decide)
 rw [parse_a7] at h
 exact h
theorem text_as (w : World) (n : Nat) (hn : n = w.heap.size) :
  Calls Tryz.prog 61 #[.slice (some ⟨n, 0, none⟩) 2 2] (w.alloc (.cells #[.int .u8 97, .int .u8 42] 5 (2, 3))) (TreeOut (.ok (starN (maskOf (among [97] 1)))) (w.alloc (.cells #[.int .u8 97, .int .u8 42] 5 (2, 3)))) := by
 have h := text_go07 (some ⟨n, 0, none⟩) 2 [97, 42] _ (bytes_new w n [97, 42] _ (2, 3) hn rfl (by decide) (by decide)) (by decide)
 rw [parse_as] at h
 exact h
theorem same_yes (A B : Option Addr) (ca cb : Nat) {L M : List Int} (e : L = M) (w : World) (hA : IntsAt w A L) (hB : IntsAt w B M) (hl : L.length ≤ 100000000) (hca : L.length ≤ ca) (hcb : M.length ≤ cb) :
  Calls Tryz.prog 101 #[.slice A L.length ca, .slice B M.length cb] w fun e w' => e = .returned (.bool true) ∧ Below w.heap.size w w' :=
 (rsame17_go A B ca cb L M w hA hB hl hca hcb).mono fun _ _ h => ⟨by rw [h.1, decide_eq_true e], h.2⟩
theorem two_int (w : World) : IntsAt (w.alloc (.cells #[.int .i64 1, .int .i64 2] 3)) (some ⟨w.heap.size, 0, none⟩) [1, 2] := fun i a ha => by
 have h := Blk.new w 3 #[.int .i64 1, .int .i64 2]
 match i, ha with
 | 0, ha => simp at ha; subst ha; exact ⟨_, _, rfl, h.cell 0⟩
 | 1, ha => simp at ha; subst ha; exact ⟨_, _, rfl, h.cell 1⟩
 | i + 2, ha => simp at ha
theorem two_rowC {w : World} {P : Nat → Prop} {g : Nat} {a b : Nd} {Ba Bb : Option Addr} {ca cb : Nat} (hB : Blk w g 28 (ndCell a Ba ca ++ ndCell b Bb cb).toArray) (hg : P g) (ha : a.kids.len ≤ ca) (hb : b.kids.len ≤ cb) (hta : TreesAt w P a.kids Ba) (htb : TreesAt w P b.kids Bb) :
  TreesAt w P (Trees.of [a, b]) (some ⟨g, 0, none⟩) :=
 ⟨g, 0, Ba, ca, rfl, hg, ha, ⟨hB.cell 0, hB.cell 1, hB.cell 2, hB.cell 3, hB.cell 4, hB.cell 5, hB.cell 6, hB.cell 7⟩, hta,
  g, 8, Bb, cb, rfl, hg, hb, ⟨hB.cell 8, hB.cell 9, hB.cell 10, hB.cell 11, hB.cell 12, hB.cell 13, hB.cell 14, hB.cell 15⟩, htb, trivial⟩
theorem of_two (w : World) (g s : Nat) (B C : Option Addr) (cb cc : Nat) (hg : g = w.heap.size) (hc : 1 ≤ cc) (ht : TreesAt w (fun b => b < w.heap.size) (Trees.of [leafN s]) C) :
  Calls Tryz.prog 41 #[.slice (some ⟨g, 0, none⟩) 2 2] (w.alloc (.cells (ndCell (leafN s) B cb ++ ndCell (starN s) C cc).toArray 28)) (NfaOut (.ok ⟨[0, 0, 1, 0, 0, 2], [(1, 2), (0, 3), (4, 3), (3, 5)], [(0, s, 1), (3, s, 4)]⟩) (w.alloc (.cells (ndCell (leafN s) B cb ++ ndCell (starN s) C cc).toArray 28))) := by
 have hb : Below w.heap.size w (w.alloc (.cells (ndCell (leafN s) B cb ++ ndCell (starN s) C cc).toArray 28)) := (Below.refl _ _).alloc (Nat.le_refl _) _
 have h := nof_go (Trees.of [leafN s, starN s]) (some ⟨g, 0, none⟩) 2 (w.alloc (.cells (ndCell (leafN s) B cb ++ ndCell (starN s) C cc).toArray 28)) (by simp [Trees.of, Trees.len]) (fun z hz => by
  rw [Trees.list_of] at hz
  simp at hz
  rcases hz with rfl | rfl
  ·simp [leafN, Nd.size, Trees.size]
  ·simp [starN, leafN, Nd.size, Trees.size, Trees.of]) (two_rowC (Blk.new_at hg) (by simp; omega) (Nat.zero_le _) hc trivial ((ht.below hb).weak (fun b h1 _ => by simp; omega)))
 rw [Trees.list_of, of_as] at h
 exact h
theorem Blk.c8 {w : World} {g : Nat} {t : TypeId} {a b c d e f h i : Value} (hB : Blk w g t #[a, b, c, d, e, f, h, i]) : w.cell? ⟨g, 0, none⟩ = some a ∧ w.cell? ⟨g, 1, none⟩ = some b ∧ w.cell? ⟨g, 2, none⟩ = some c ∧ w.cell? ⟨g, 3, none⟩ = some d ∧ w.cell? ⟨g, 4, none⟩ = some e ∧ w.cell? ⟨g, 5, none⟩ = some f ∧ w.cell? ⟨g, 6, none⟩ = some h ∧ w.cell? ⟨g, 7, none⟩ = some i := ⟨hB.cell 0, hB.cell 1, hB.cell 2, hB.cell 3, hB.cell 4, hB.cell 5, hB.cell 6, hB.cell 7⟩
theorem knows17_go (w : World) (hT : TabAt 0 Lib.deBruijn64tab w) (hw0 : 0 < w.heap.size) :
  Calls Tryz.prog 42 #[] w fun e w' => e = .returned (.bool true) ∧ Below w.heap.size w w' := by
 have kc : ∀ (w : World) (g : Nat) (C : Array Value) (n c : Nat), g = w.heap.size → (convert 29 29 (.slice (some ⟨g, 0, none⟩) n c)).run Tryz.prog (w.alloc (.cells C 5)) = .ok (.slice (some ⟨g, 0, none⟩) n c) (w.alloc (.cells C 5 (C.size, C.size + 1))) := fun w g C n c hg => by
  subst hg
  exact Lib.run_convert_bytes_const (P := Tryz.prog) w 29 5 C n c Tryz.underlying29 Tryz.underlying5
 have hm := mask_97
 go_enter Tryz.func42, Tryz.ntmps42
 go_wp2_with fail
 refine (text_a _ _ rfl).mono ?_
 rintro e w1 ⟨B, cap, rfl, hb1, hc1, ht1⟩
 have HB1 := Lib.hid (((Below.refl w.heap.size w).alloc (Nat.le_refl _) (.cells #[.int .u8 97] 5 (1, 2))).trans (hb1.mono (by simp)))
 clear hb1 hc1 ht1
 unfold leafN
 dsimp only
 generalize hs : maskOf (among [97] 1) = s at *
 have HM := Lib.hid hm
 have HSe := Lib.hid hs
 clear hm hs
 unfold ndV
 dsimp only
 go_wp2_with fail
 have hs12 : w1.heap.size + 1 + 1 = ((w1.alloc (.cells #[.int .i64 3, .int .u64 (word (Nat.testBit s) 0), .int .u64 (word (Nat.testBit s) 1), .int .u64 (word (Nat.testBit s) 2), .int .u64 (word (Nat.testBit s) 3), .slice B Trees.nil.len cap, .int .i64 0, .int .i64 0] 28)).alloc (.cells #[.int .i64 0, .int .i64 0] 77)).heap.size := by simp
 have hb12 : Below w1.heap.size w1 ((w1.alloc (.cells #[.int .i64 3, .int .u64 (word (Nat.testBit s) 0), .int .u64 (word (Nat.testBit s) 1), .int .u64 (word (Nat.testBit s) 2), .int .u64 (word (Nat.testBit s) 3), .slice B Trees.nil.len cap, .int .i64 0, .int .i64 0] 28)).alloc (.cells #[.int .i64 0, .int .i64 0] 77)) := ((Below.refl _ _).alloc (Nat.le_refl _) _).alloc (by simp) _
 have HX := Lib.hid ((Blk.new w1 28 #[.int .i64 3, .int .u64 (word (Nat.testBit s) 0), .int .u64 (word (Nat.testBit s) 1), .int .u64 (word (Nat.testBit s) 2), .int .u64 (word (Nat.testBit s) 3), .slice B Trees.nil.len cap, .int .i64 0, .int .i64 0]).alloc (.cells #[.int .i64 0, .int .i64 0] 77))
 have HB2 := Lib.hid (HB1.out.trans (hb12.mono HB1.out.size))
 generalize hbx : w1.heap.size = bx at *
 generalize (w1.alloc (.cells #[.int .i64 3, .int .u64 (word (Nat.testBit s) 0), .int .u64 (word (Nat.testBit s) 1), .int .u64 (word (Nat.testBit s) 2), .int .u64 (word (Nat.testBit s) 3), .slice B Trees.nil.len cap, .int .i64 0, .int .i64 0] 28)).alloc (.cells #[.int .i64 0, .int .i64 0] 77) = w2 at *
 have HC := Lib.hid (text_as w2 (bx + 1 + 1) hs12)
 go_wp2_with fail
 refine HC.out.mono ?_
 rintro e w3 ⟨C, cc, rfl, hb3, hc3, ht3⟩
 rw [HSe.out] at hc3 ht3
 rw [HSe.out]
 have hb03 : Below w2.heap.size w2 w3 := ((Below.refl _ _).alloc (Nat.le_refl _) _).trans (hb3.mono (by simp))
 have HX3 := Lib.hid (HX.out.below hb03 HX.out.lt)
 have HB3 := Lib.hid (HB2.out.trans (hb03.mono HB2.out.size))
 have hw4 : ∀ cs ds, Below w3.heap.size w3 ((w3.alloc (.cells cs 28)).alloc (.cells ds 77)) := fun cs ds => ((Below.refl _ _).alloc (Nat.le_refl _) _).alloc (by simp) _
 have HY := Lib.hid ((Blk.new w3 28 #[.int .i64 6, .int .u64 (word (Nat.testBit 0) 0), .int .u64 (word (Nat.testBit 0) 1), .int .u64 (word (Nat.testBit 0) 2), .int .u64 (word (Nat.testBit 0) 3), .slice C (starN s).kids.len cc, .int .i64 0, .int .i64 0]).alloc (.cells #[.int .i64 0, .int .i64 0] 77))
 have HT4 := Lib.hid ((ht3.below (hw4 #[.int .i64 6, .int .u64 (word (Nat.testBit 0) 0), .int .u64 (word (Nat.testBit 0) 1), .int .u64 (word (Nat.testBit 0) 2), .int .u64 (word (Nat.testBit 0) 3), .slice C (starN s).kids.len cc, .int .i64 0, .int .i64 0] #[.int .i64 0, .int .i64 0])).weak (fun b _ h => h))
 have HX4 := Lib.hid (HX3.out.below (hw4 #[.int .i64 6, .int .u64 (word (Nat.testBit 0) 0), .int .u64 (word (Nat.testBit 0) 1), .int .u64 (word (Nat.testBit 0) 2), .int .u64 (word (Nat.testBit 0) 3), .slice C (starN s).kids.len cc, .int .i64 0, .int .i64 0] #[.int .i64 0, .int .i64 0]) HX3.out.lt)
 have HB4 := Lib.hid (HB3.out.trans ((hw4 #[.int .i64 6, .int .u64 (word (Nat.testBit 0) 0), .int .u64 (word (Nat.testBit 0) 1), .int .u64 (word (Nat.testBit 0) 2), .int .u64 (word (Nat.testBit 0) 3), .slice C (starN s).kids.len cc, .int .i64 0, .int .i64 0] #[.int .i64 0, .int .i64 0]).mono HB3.out.size))
 have HC3 := Lib.hid hc3
 have HKC := Lib.hid kc
 clear hb3 hc3 ht3 hb03 hw4 HX HC kc hs12 hb12 HX3 HB3
 have hst : (starN s).kind = 6 ∧ (starN s).set = 0 ∧ (starN s).lo = 0 ∧ (starN s).hi = 0 := ⟨rfl, rfl, rfl, rfl⟩
 unfold ndV
 rw [hst.1, hst.2.1, hst.2.2.1, hst.2.2.2]
 dsimp only
 go_upto_region 3 with fail
 generalize hby : w3.heap.size = bY at *
 generalize (w3.alloc (.cells #[.int .i64 6, .int .u64 (word (Nat.testBit 0) 0), .int .u64 (word (Nat.testBit 0) 1), .int .u64 (word (Nat.testBit 0) 2), .int .u64 (word (Nat.testBit 0) 3), .slice C (starN s).kids.len cc, .int .i64 0, .int .i64 0] 28)).alloc (.cells #[.int .i64 0, .int .i64 0] 77) = w4 at *
 clear hby hst
 obtain ⟨x0, x1, x2, x3, x4, x5, x6, x7⟩ := HX4.out.c8
 obtain ⟨y0, y1, y2, y3, y4, y5, y6, y7⟩ := HY.out.c8
 have hlx := HX4.out.lt
 have hly := HY.out.lt
 have HO := Lib.hid (of_two w4 w4.heap.size s B C cap cc rfl HC3.out HT4.out)
 have hbo : Below w4.heap.size w4 (w4.alloc (.cells (ndCell (leafN s) B cap ++ ndCell (starN s) C cc).toArray 28)) := (Below.refl _ _).alloc (Nat.le_refl _) _
 have HBo := Lib.hid (HB4.out.trans (hbo.mono HB4.out.size))
 clear hbo
 go_wp2_with fail
 refine HO.out.mono ?_
 rintro e w5 ⟨hb5, L, E, A, rfl, hR⟩
 obtain ⟨A1, k1, rfl, hk1⟩ := own_len_cap hR.l
 obtain ⟨A2, k2, rfl, hk2⟩ := own_len_cap hR.e
 obtain ⟨A3, k3, rfl, hk3⟩ := own_len_cap hR.a
 have hN := hR.nfaAt (by simp [FitsM, MachS.states])
 rw [toV_as] at hN
 have HB5 := Lib.hid (HBo.out.trans (hb5.mono HBo.out.size))
 clear hR HO hb5 x0 x1 x2 x3 x4 x5 x6 x7 y0 y1 y2 y3 y4 y5 y6 y7 hlx hly HX4 HY HT4 HC3 HBo HB4
 have hb6 : Below w5.heap.size w5 (w5.alloc (.cells #[.int .i64 6, .int .i64 0, .slice A1 4 k1, .slice A2 2 k2, .slice A3 6 k3] 40)) := (Below.refl _ _).alloc (Nat.le_refl _) _
 have HB6 := Lib.hid (HB5.out.trans (hb6.mono HB5.out.size))
 have HNw := Lib.hid (mnew_go (nE s) A1 k1 A2 k2 A3 k3 _ (hN.below hb6) hk1 hk2 hk3 (by simp [nE]) (by simp [nE]) (TabAt.below HB6.out hw0 hT) (by have := HB6.out.size; omega))
 clear hN hb6
 unfold nfA nE at HNw
 dsimp only [MachS.states, List.length_cons, List.length_nil] at HNw ⊢
 go_wp2_with fail
 refine HNw.out.mono ?_
 intro e w7 h7
 have h7 : NewC (nE s) _ e w7 := h7
 obtain ⟨hb7, h8⟩ := h7
 rcases h8 with ⟨h9, _⟩ | ⟨_, g, lm, em, A4, k4, rfl, hWk⟩
 ·rw [right_as] at h9
  cases h9
 have HB7 := Lib.hid (HB6.out.trans (hb7.mono HB6.out.size))
 have HW := Lib.hid hWk
 have HC := Lib.hid (mclos_go (right_as s))
 have HS := Lib.hid (mstep_go (mclos_go (right_as s)))
 have kc := HKC.out
 have hbA : Below w7.heap.size w7 (w7.alloc (.cells #[.int .u8 97] 5 (1, 2))) := (Below.refl _ _).alloc (Nat.le_refl _) _
 have HR1 := Lib.hid (mrun_go g lm em (nE s) HC.out HS.out (right_as s) A4 k4 _ (hWk.below hbA) (some ⟨w7.heap.size, 0, none⟩) 1 [97] (bytes_new w7 w7.heap.size [97] _ (1, 2) rfl rfl (by decide) (by decide)) (by simp))
 have HB8 := Lib.hid hbA
 clear hb7 hWk hbA HNw hk1 hk2 hk3 HB5 HB6
 dsimp only
 go_wp2_with fail
 refine HR1.out.mono ?_
 rintro e w8 ⟨R, A8, c8, hr, rfl, hb8, hi8, hc8⟩
 obtain rfl := run_one hr (run_as1 HM.out.1)
 have hb78 := HB8.out.trans (hb8.mono (by simp))
 have HL1 := Lib.hid (mlabels_go g lm em (nE s) A4 k4 w8 (HW.out.below hb78) (right_as s) A8 c8 [1, 2, 3, 4, 5] hi8 (by decide) hc8)
 have HB9 := Lib.hid hb78
 clear hb8 hi8 hc8 hb78 HR1 hr HB8
 dsimp only
 go_wp2_with fail
 refine HL1.out.mono ?_
 rintro e w9 ⟨R, A9, c9, hl, rfl, hb9, hi9, hc9⟩
 obtain rfl := labels_one hl (fun _ => Iff.rfl) lab_as1
 have hb79 := HB9.out.trans (hb9.mono HB9.out.size)
 have hbB : Below w9.heap.size w9 (w9.alloc (.cells #[.int .i64 1, .int .i64 2] 3)) := (Below.refl _ _).alloc (Nat.le_refl _) _
 have HSm := Lib.hid (same_yes A9 (some ⟨w9.heap.size, 0, none⟩) c9 2 (L := [1, 2]) (M := [1, 2]) rfl _ (hi9.below hbB) (two_int w9) (by simp) hc9 (by simp))
 have HBa := Lib.hid (hb79.trans (hbB.mono hb79.size))
 clear hl hb9 hi9 hc9 hb79 hbB HL1 HB9
 dsimp only
 go_wp2_with fail
 refine HSm.out.mono ?_
 rintro e wa ⟨rfl, hba⟩
 have hb7a := HBa.out.trans (hba.mono HBa.out.size)
 have HBb := Lib.hid hb7a
 clear hba hb7a HSm HBa
 dsimp only
 have hbA : Below (wa).heap.size (wa) ((wa).alloc (.cells #[.int .u8 97] 5 (1, 2))) := (Below.refl _ _).alloc (Nat.le_refl _) _
 have HT1 := Lib.hid (mtell_go g lm em (nE s) HC.out HS.out (right_as s) A4 k4 _ (HW.out.below ((HBb).out.trans (hbA.mono (HBb).out.size))) (some ⟨(wa).heap.size, 0, none⟩) 1 [97] (bytes_new (wa) (wa).heap.size [97] _ (1, 2) rfl rfl (by decide) (by decide)) (by simp))
 have HBt := Lib.hid ((HBb).out.trans (hbA.mono (HBb).out.size))
 clear hbA
 go_wp2_with fail
 refine HT1.out.mono ?_
 rintro e wb ⟨x, hx, rfl, hbt⟩
 obtain rfl := tell_one hx (tell_as1 HM.out.1)
 have HBc := Lib.hid (HBt.out.trans (hbt.mono HBt.out.size))
 clear hx hbt HT1 HBt
 dsimp only
 have hbA : Below (wb).heap.size (wb) ((wb).alloc (.cells #[.int .u8 97, .int .u8 97] 5 (2, 3))) := (Below.refl _ _).alloc (Nat.le_refl _) _
 have HT1 := Lib.hid (mtell_go g lm em (nE s) HC.out HS.out (right_as s) A4 k4 _ (HW.out.below ((HBc).out.trans (hbA.mono (HBc).out.size))) (some ⟨(wb).heap.size, 0, none⟩) 2 [97, 97] (bytes_new (wb) (wb).heap.size [97, 97] _ (2, 3) rfl rfl (by decide) (by decide)) (by simp))
 have HBt := Lib.hid ((HBc).out.trans (hbA.mono (HBc).out.size))
 clear hbA
 go_wp2_with fail
 refine HT1.out.mono ?_
 rintro e wc ⟨x, hx, rfl, hbt⟩
 obtain rfl := tell_one hx (tell_as2 HM.out.1)
 have HBd := Lib.hid (HBt.out.trans (hbt.mono HBt.out.size))
 clear hx hbt HT1 HBt
 dsimp only
 have hbA : Below (wc).heap.size (wc) ((wc).alloc (.cells #[.int .u8 98] 5 (1, 2))) := (Below.refl _ _).alloc (Nat.le_refl _) _
 have HT1 := Lib.hid (mtell_go g lm em (nE s) HC.out HS.out (right_as s) A4 k4 _ (HW.out.below ((HBd).out.trans (hbA.mono (HBd).out.size))) (some ⟨(wc).heap.size, 0, none⟩) 1 [98] (bytes_new (wc) (wc).heap.size [98] _ (1, 2) rfl rfl (by decide) (by decide)) (by simp))
 have HBt := Lib.hid ((HBd).out.trans (hbA.mono (HBd).out.size))
 clear hbA
 go_wp2_with fail
 refine HT1.out.mono ?_
 rintro e wd ⟨x, hx, rfl, hbt⟩
 obtain rfl := tell_one hx (tell_asb HM.out.2)
 have HBe := Lib.hid (HBt.out.trans (hbt.mono HBt.out.size))
 clear hx hbt HT1 HBt
 dsimp only
 go_wp2
 go_light
 go_ret
 exact ⟨rfl, HB7.out.trans (HBe.out.mono HB7.out.size)⟩
section
variable {w : List Nat}
theorem cat_ids : ∀ {Rs : List RelW}, (∀ R ∈ Rs, R = idR) → catR Rs = idR
 | [], _ => rfl
 | R :: l, h => by
  have h1 := cat_ids (Rs := l) (fun S hS => h S (by simp [hS]))
  have h2 := h R (by simp)
  rw [catR, h1, h2]
  funext i j
  exact propext ⟨fun ⟨k, a, b⟩ => (show i = k from a).trans b, fun e => ⟨i, rfl, e⟩⟩
theorem rep_id {lo hi : Int} (h0 : 0 ≤ lo) (h1 : hi = -1 ∨ lo ≤ hi) : repR lo hi idR = idR := by
 funext p q
 refine propext ⟨fun ⟨k, _, _, h⟩ => it_id.1 h, fun h => ⟨lo.toNat, by omega, by omega, it_id.2 h⟩⟩
theorem mem_le_sum : ∀ {l : List Nat} {x : Nat}, x ∈ l → x ≤ l.sum
 | y :: l, x, h => by
  rw [List.sum_cons]
  rcases List.mem_cons.1 h with rfl | h
  ·omega
  ·have := mem_le_sum h
   omega
theorem zero_rel : ∀ (F : Trees), Okays F → ∀ z ∈ F.list, z.wgt = 0 → z.rel w = idR
 | .nil, _, z, hz => by cases hz
 | .cons k s ks lo hi r, ho, z, hz => by
  rw [Trees.list] at hz
  rcases List.mem_cons.1 hz with rfl | hz
  ·have hself : aloneN ⟨k, s, ks, lo, hi⟩ = true := ho _ (by simp [Trees.nodes])
   have hks : Okays ks := fun y hy => ho y (by simp [Trees.nodes, hy])
   have ih := zero_rel ks hks
   obtain ⟨a1, a9, a0, ak1, ak9⟩ := aloneN_kids hself
   simp only at a1 a9 a0 ak1 ak9
   have htop := topN_pos
   unfold Nd.wgt wgtK
   intro hw
   simp only at hw
   unfold Nd.rel saysK
   simp only
   by_cases h2 : k = 2
   ·rw [if_pos h2]
   by_cases h4 : k = 4
   ·subst h4
    rw [if_pos (.inr rfl)] at hw
    rw [if_neg (by decide), if_neg (by decide), if_pos rfl]
    refine cat_ids fun R hR => ?_
    rw [Trees.rels_list] at hR
    obtain ⟨y, hy, rfl⟩ := List.mem_map.1 hR
    refine ih y hy ?_
    have h0 : ks.wsum = 0 := by omega
    rw [Trees.wsum_list] at h0
    have := mem_le_sum (List.mem_map.2 ⟨y, hy, rfl⟩ : y.wgt ∈ ks.list.map Nd.wgt)
    omega
   by_cases h9 : k = 9
   ·subst h9
    rw [if_neg (by decide), if_pos rfl] at hw
    obtain ⟨b0, b1⟩ := a9 rfl
    rw [if_neg (by decide), if_neg (by decide), if_neg (by decide), if_neg (by decide), if_neg (by decide), if_neg (by decide), if_neg (by decide), if_pos rfl]
    have hl1 := a1 (by decide) (by decide)
    rw [← Trees.len_list] at hl1
    obtain ⟨y, hy⟩ := List.length_eq_one_iff.1 hl1
    have hr : (ks.rels w).headD noR = y.rel w := by rw [Trees.rels_list, hy]; rfl
    rw [hr]
    unfold timesW at hw
    by_cases hn : min topN ks.wsum = 0
    ·have h0 : ks.wsum = 0 := by omega
     rw [Trees.wsum_list, hy] at h0
     rw [ih y (by rw [hy]; simp) (by simpa using h0), rep_id b0 b1]
    ·rw [if_neg hn] at hw
     split at hw
     ·omega
     split at hw
     ·omega
     ·have hz : lo.toNat * min topN ks.wsum = 0 := by omega
      rcases Nat.mul_eq_zero.1 hz with h | h
      ·have e1 : lo = 0 := by omega
       have e2 : hi = 0 := by omega
       subst e1
       subst e2
       funext p q
       refine propext ⟨fun ⟨j, h1, h2, h3⟩ => ?_, fun h => ⟨0, by omega, by omega, h⟩⟩
       obtain rfl : j = 0 := by omega
       exact h3
      ·exact absurd h hn
   ·rw [if_neg (by omega), if_neg h9] at hw
    omega
  ·exact zero_rel r (fun y hy => ho y (by simp [Trees.nodes, hy])) z hz
theorem allF_map {w : List Nat} : ∀ {l : List Nd}, (∀ z ∈ l, FragOK w z.lay (z.rel w)) → AllF w (l.map Nd.lay) (l.map fun z => z.rel w)
 | [], _ => .nil
 | z :: l, h => .cons (h z (by simp)) (allF_map fun y hy => h y (by simp [hy]))
theorem lay_ok : ∀ (F : Trees), Okays F → ∀ z ∈ F.list, FragOK w z.lay (z.rel w)
 | .nil, _, z, hz => by cases hz
 | .cons k s ks lo hi r, ho, z, hz => by
  rw [Trees.list] at hz
  rcases List.mem_cons.1 hz with rfl | hz
  ·have hself : aloneN ⟨k, s, ks, lo, hi⟩ = true := ho _ (by simp [Trees.nodes])
   have hks : Okays ks := fun y hy => ho y (by simp [Trees.nodes, hy])
   have ih := lay_ok ks hks
   have hz0 := zero_rel (w := w) ks hks
   obtain ⟨a1, a9, a0, ak1, ak9⟩ := aloneN_kids hself
   simp only at a1 a9 a0 ak1 ak9
   have hall : AllF w ks.lays (ks.rels w) := by
    rw [Trees.lays_list, Trees.rels_list]
    exact allF_map ih
   have hone : 6 ≤ k → k ≤ 9 → ∃ z, ks.list = [z] ∧ ks.lays.headD noF = z.lay ∧ (ks.rels w).headD noR = z.rel w ∧ ks.headW = z.wgt ∧ FragOK w z.lay (z.rel w) ∧ (z.wgt = 0 → z.rel w = idR) := fun h6 h9 => by
    have h1 := a1 h6 h9
    rw [← Trees.len_list] at h1
    obtain ⟨z, hz⟩ := List.length_eq_one_iff.1 h1
    exact ⟨z, hz, Trees.lays_head (by rw [hz]; rfl), by rw [Trees.rels_list, hz]; rfl, Trees.headW_list (by rw [hz]; rfl), ih z (by rw [hz]; simp), hz0 z (by rw [hz]; simp)⟩
   unfold Nd.lay Nd.rel layK saysK
   simp only
   rcases (show k = 1 ∨ k = 2 ∨ k = 3 ∨ k = 4 ∨ k = 5 ∨ k = 6 ∨ k = 7 ∨ k = 8 ∨ k = 9 by omega) with rfl | rfl | rfl | rfl | rfl | rfl | rfl | rfl | rfl
   ·exact frag_nil
   ·exact frag_no
   ·exact frag_set s
   ·exact frag_cat hall
   ·exact frag_bar hall
   ·obtain ⟨z, _, h1, h2, _, h4, _⟩ := hone (by decide) (by decide)
    rw [h1, h2]
    exact frag_loop false h4
   ·obtain ⟨z, _, h1, h2, _, h4, _⟩ := hone (by decide) (by decide)
    rw [h1, h2]
    exact frag_loop true h4
   ·obtain ⟨z, _, h1, h2, _, h4, _⟩ := hone (by decide) (by decide)
    rw [h1, h2]
    exact frag_opt h4
   ·obtain ⟨z, _, h1, h2, h3, h4, h5⟩ := hone (by decide) (by decide)
    rw [h1, h2, h3]
    exact frag_rep h4 (a9 rfl).1 (a9 rfl).2 h5
  ·exact lay_ok r (fun y hy => ho y (by simp [Trees.nodes, hy])) z hz
theorem right_okaysZ {x : Nd} (h : rightT x = true) : Okays (Trees.of [x]) := fun y hy => by
 unfold rightT at h
 rw [Bool.and_eq_true, List.all_eq_true] at h
 refine h.2 y ?_
 have e : (Trees.of [x]).nodes = x.nodes := by simp [Trees.of, Trees.nodes, Nd.nodes]
 rw [← e]
 exact hy
theorem lay_right_ok {x : Nd} (h : rightT x = true) : FragOK w x.lay (x.rel w) := lay_ok _ (right_okaysZ h) x (by rw [Trees.list_of]; simp)
theorem lay_right_adds {x : Nd} (h : rightT x = true) : AddsF x.lay x.wgtU (2 * x.wgtU * x.size) := lay_adds _ (right_okaysZ h) x (by rw [Trees.list_of]; simp)
structure MachOK (w : List Nat) (l : List Nd) (m : MachS) : Prop where
 frg : Frg (TrM m) 0 1 m.states 0
 say : ∀ (a lab : Nat), m.accept[a]? = some lab → lab ≠ 0 → ∃ (j : Nat) (z : Nd), lab = j + 1 ∧ l[j]? = some z ∧ 1 ≤ a ∧ ∀ p q, WayP w (TrM m) 0 p a q ↔ z.rel w p q
 all : ∀ (j : Nat) (z : Nd), l[j]? = some z → ∃ a : Nat, m.accept[a]? = some (j + 1)
theorem mach_start : MachOK w [] ⟨[0], [], []⟩ := by
 refine ⟨⟨by simp [MachS.states], by omega, fun s o t h => ?_, fun s o t h => ?_, .inl rfl⟩, fun a lab h h0 => ?_, fun j z h => by simp at h⟩
 ·cases o <;> simp [TrM] at h
 ·cases o <;> simp [TrM] at h
 ·cases a with
  | zero => simp at h; omega
  | succ a => simp at h
theorem MachOK.one {l : List Nd} {m : MachS} (h : MachOK w l m) {x : Nd} (hx : rightT x = true) : MachOK w (l ++ [x]) (((x.lay m 0).1.state (l.length + 1)).link (x.lay m 0).2 (x.lay m 0).1.states) := by
 have hm := h.frg.le
 obtain ⟨T, a1, a2, a3⟩ := lay_right_ok (w := w) hx m 0 (by omega)
 obtain ⟨L, E, hadd, _⟩ := lay_right_adds hx m 0
 have hst : (x.lay m 0).1.states = m.states + x.wgtU := by rw [hadd]; simp [MachS.states]
 have hacc : (x.lay m 0).1.accept = m.accept ++ List.replicate x.wgtU 0 := by rw [hadd]
 generalize x.lay m 0 = r at *
 obtain ⟨m1, e⟩ := r
 simp only at *
 have g2 := a2.en
 obtain ⟨b1, b2⟩ := frag_end (w := w) (E := fun e' => e' = e) a2 (fun e' he => by omega)
 have htr : TrM ((m1.state (l.length + 1)).link e m1.states) = orT (TrM m) (orT T fun a o b => a = e ∧ o = none ∧ b = m1.states) := by
  funext s o t
  refine propext ?_
  rw [trM_link, trM_state, a1]
  unfold orT oneT
  rw [or_assoc]
 have b0 : Frg (orT T fun a o b => a = e ∧ o = none ∧ b = m1.states) 0 m.states (m1.states + 1) 0 := ⟨b1.le, b1.lt, b1.src, b1.tgt, .inl rfl⟩
 have hs : ((m1.state (l.length + 1)).link e m1.states).states = m1.states + 1 := by rw [states_link, states_state]
 have hac : ((m1.state (l.length + 1)).link e m1.states).accept = m.accept ++ List.replicate x.wgtU 0 ++ [l.length + 1] := by
  show m1.accept ++ [l.length + 1] = _
  rw [hacc]
 have hml : m.accept.length = m.states := rfl
 refine ⟨?_, fun a lab ha hl0 => ?_, fun j z hj => ?_⟩
 ·rw [htr, hs]
  exact side_frg h.frg b0
 ·rw [hac] at ha
  rw [htr]
  by_cases c1 : a < m.states
  ·rw [List.append_assoc, List.getElem?_append_left (by omega)] at ha
   obtain ⟨j, z, h1, h2, h3, h4⟩ := h.say a lab ha hl0
   refine ⟨j, z, h1, ?_, h3, fun p q => ?_⟩
   ·rw [List.getElem?_append_left (List.getElem?_eq_some_iff.1 h2).1]
    exact h2
   ·rw [side_way h.frg b0 (.inr ⟨h3, c1⟩), h4]
  by_cases c2 : a < m1.states
  ·rw [List.getElem?_append_left (by rw [List.length_append, List.length_replicate]; omega), List.getElem?_append_right (by omega)] at ha
   have := List.eq_of_mem_replicate (List.mem_of_getElem? ha)
   omega
  ·rw [List.getElem?_append_right (by rw [List.length_append, List.length_replicate]; omega)] at ha
   have hlen : (m.accept ++ List.replicate x.wgtU 0).length = m1.states := by rw [List.length_append, List.length_replicate]; omega
   rw [hlen] at ha
   have hlt := (List.getElem?_eq_some_iff.1 ha).1
   simp at hlt
   obtain rfl : a = m1.states := by omega
   rw [Nat.sub_self] at ha
   have ha : l.length + 1 = lab := by simpa using ha
   refine ⟨l.length, x, ha.symm, by simp, by have := b1.lt; have := a2.le; omega, fun p q => ?_⟩
   rw [side_way2 h.frg b0 (.inr ⟨by have := a2.le; omega, by omega⟩), b2, ← a3]
   exact ⟨fun ⟨e', he, hw⟩ => he ▸ hw, fun hw => ⟨e, rfl, hw⟩⟩
 ·rw [hac]
  by_cases c : j < l.length
  ·rw [List.getElem?_append_left c] at hj
   obtain ⟨a, ha⟩ := h.all j z hj
   refine ⟨a, ?_⟩
   rw [List.append_assoc, List.getElem?_append_left (List.getElem?_eq_some_iff.1 ha).1]
   exact ha
  ·have hlt := (List.getElem?_eq_some_iff.1 hj).1
   simp at hlt
   obtain rfl : j = l.length := by omega
   refine ⟨(m.accept ++ List.replicate x.wgtU 0).length, ?_⟩
   rw [List.getElem?_append_right (Nat.le_refl _), Nat.sub_self]
   rfl
theorem mach_all : ∀ (l l0 : List Nd) (m : MachS), MachOK w l0 m → (∀ x ∈ l, rightT x = true) → MachOK w (l0 ++ l) (layAll l l0.length m)
 | [], l0, m, h, _ => by rw [List.append_nil]; exact h
 | x :: l, l0, m, h, hr => by
  have := mach_all l (l0 ++ [x]) _ (h.one (hr x (by simp))) (fun y hy => hr y (by simp [hy]))
  rw [List.append_assoc, List.length_append] at this
  exact this
theorem mach_ok {l : List Nd} (h : ∀ x ∈ l, rightT x = true) : MachOK w l (machS l) := by
 have := mach_all (w := w) l [] _ mach_start h
 exact this
theorem mem_toV_link {m : MachS} {a b : Nat} : ((a : Int), (b : Int)) ∈ m.toV.links ↔ (a, b) ∈ m.links := by
 show _ ∈ m.links.map _ ↔ _
 rw [List.mem_map]
 constructor
 ·rintro ⟨⟨c, d⟩, h, e⟩
  simp at e
  obtain ⟨e1, e2⟩ := e
  obtain rfl : c = a := by omega
  obtain rfl : d = b := by omega
  exact h
 ·exact fun h => ⟨_, h, rfl⟩
theorem way_of {m : MachS} {s r p q : Nat} (h : WayP w (TrM m) s p r q) : q = w.length → p ≤ w.length → Way m.toV (s : Int) (w.drop p) (r : Int) := by
 induction h with
 | nil s p =>
  rintro rfl _
  rw [List.drop_length]
  exact .nil _
 | link h1 _ ih => exact fun hq hp => .link (mem_toV_link.2 h1) (ih hq hp)
 | @edge s c t b r p q h1 h2 h3 _ ih =>
  intro hq hp
  obtain ⟨hlt, hb⟩ := List.getElem?_eq_some_iff.1 h2
  rw [List.drop_eq_getElem_cons hlt, hb]
  exact .edge (s := (s : Int)) (t := (t : Int)) (c := c) (List.mem_map.2 ⟨_, h1, rfl⟩) h3 (ih hq hlt)
theorem of_way {m : MachS} {S R : Int} {u : List Nat} (h : Way m.toV S u R) : ∀ (s p : Nat), S = (s : Int) → p ≤ w.length → w.drop p = u → ∃ r : Nat, R = (r : Int) ∧ WayP w (TrM m) s p r w.length := by
 induction h with
 | nil S =>
  intro s p hS hp hu
  have : p = w.length := by
   have := List.drop_eq_nil_iff.1 hu
   omega
  subst this
  exact ⟨s, hS, .nil _ _⟩
 | link h1 _ ih =>
  intro s p hS hp hu
  obtain ⟨⟨a, b⟩, h2, e⟩ := List.mem_map.1 h1
  simp at e
  obtain ⟨e1, e2⟩ := e
  obtain ⟨r, hr, hw⟩ := ih b p e2.symm hp hu
  have : a = s := by omega
  subst this
  exact ⟨r, hr, .link h2 hw⟩
 | @edge S c T b R u h1 h2 _ ih =>
  intro s p hS hp hu
  obtain ⟨⟨a, c', d⟩, h3, e⟩ := List.mem_map.1 h1
  simp at e
  obtain ⟨e1, rfl, e2⟩ := e
  have hlt : p < w.length := by
   rcases Nat.lt_or_ge p w.length with h | h
   ·exact h
   ·rw [List.drop_eq_nil_of_le h] at hu
    cases hu
  rw [List.drop_eq_getElem_cons hlt] at hu
  obtain ⟨hb, hu⟩ := List.cons.inj hu
  obtain ⟨r, hr, hw⟩ := ih d (p + 1) e2.symm hlt hu
  have : a = s := by omega
  subst this
  exact ⟨r, hr, .edge h3 (List.getElem?_eq_some_iff.2 ⟨hlt, hb⟩) h2 hw⟩
end
theorem labels_say {l : List Nd} {w : List Nat} (h : ∀ x ∈ l, rightT x = true) {L R : List Int} (hL : RunOf (machS l).toV w L) (hR : IsLabels (machS l).toV L R) (x : Int) : x ∈ R ↔ ∃ j z, x = ((j + 1 : Nat) : Int) ∧ l[j]? = some z ∧ SaysW z w := by
 have hm := mach_ok (w := w) h
 have hle := hm.frg.le
 have hsane : Sane (machS l).toV := by
  refine ⟨⟨by show (0 : Int) ≤ 0; omega, by show (0 : Int) < ((machS l).states : Int); omega⟩, fun s c t hs => ?_⟩
  obtain ⟨⟨a, c', d⟩, h3, e⟩ := List.mem_map.1 hs
  simp at e
  obtain ⟨_, _, rfl⟩ := e
  have := hm.frg.tgt a (some c') d h3
  show 0 ≤ (d : Int) ∧ (d : Int) < ((machS l).states : Int)
  omega
 have hrun := run_way hsane hL
 have hacc : ∀ (a : Nat) (y : Int), (machS l).toV.accept[a]? = some y ↔ ∃ b : Nat, (machS l).accept[a]? = some b ∧ y = (b : Int) := fun a y => by
  show ((machS l).accept.map fun (a : Nat) => (a : Int))[a]? = some y ↔ _
  rw [List.getElem?_map, Option.map_eq_some_iff]
  exact ⟨fun ⟨b, h1, h2⟩ => ⟨b, h1, h2.symm⟩, fun ⟨b, h1, h2⟩ => ⟨b, h1, h2.symm⟩⟩
 rw [hR.2]
 constructor
 ·rintro ⟨h0, a, ha, hx⟩
  obtain ⟨b, hb, rfl⟩ := (hacc a x).1 hx
  obtain ⟨j, z, rfl, hz, _, hw⟩ := hm.say a b hb (by omega)
  refine ⟨j, z, rfl, hz, ?_⟩
  obtain ⟨r, hr, hway⟩ := of_way ((hrun _).1 ha) 0 0 rfl (Nat.zero_le _) rfl
  have : r = a := by omega
  subst this
  exact (hw 0 w.length).1 hway
 ·rintro ⟨j, z, rfl, hz, hs⟩
  obtain ⟨a, ha⟩ := hm.all j z hz
  obtain ⟨j', z', he, hz', _, hw⟩ := hm.say a (j + 1) ha (by omega)
  obtain rfl : j = j' := by omega
  rw [hz] at hz'
  cases hz'
  refine ⟨by omega, a, ?_, (hacc a _).2 ⟨j + 1, ha, rfl⟩⟩
  exact (hrun _).2 (way_of ((hw 0 w.length).2 hs) rfl (Nat.zero_le _))
def labsF : List Bool → Nat → List Int
 | [], _ => []
 | true :: ps, i => ((i : Int) + 1) :: labsF ps (i + 1)
 | false :: ps, i => labsF ps (i + 1)
theorem labsF_mem : ∀ (ps : List Bool) (i : Nat) (x : Int), x ∈ labsF ps i ↔ ∃ j : Nat, x = ((i + j + 1 : Nat) : Int) ∧ ps[j]? = some true
 | [], i, x => by simp [labsF]
 | true :: ps, i, x => by
  rw [labsF, List.mem_cons, labsF_mem ps (i + 1) x]
  constructor
  ·rintro (rfl | ⟨j, rfl, h⟩)
   ·exact ⟨0, by omega, rfl⟩
   ·exact ⟨j + 1, by omega, by simpa using h⟩
  ·rintro ⟨j, rfl, h⟩
   cases j with
   | zero => exact .inl (by omega)
   | succ j => exact .inr ⟨j, by omega, by simpa using h⟩
 | false :: ps, i, x => by
  rw [labsF, labsF_mem ps (i + 1) x]
  constructor
  ·rintro ⟨j, rfl, h⟩
   exact ⟨j + 1, by omega, by simpa using h⟩
  ·rintro ⟨j, rfl, h⟩
   cases j with
   | zero => simp at h
   | succ j => exact ⟨j, by omega, by simpa using h⟩
theorem labsF_rises : ∀ (ps : List Bool) (i : Nat), Rises (labsF ps i)
 | [], i => .nil
 | true :: ps, i => by
  rw [labsF]
  refine List.Pairwise.cons (fun y hy => ?_) (labsF_rises ps (i + 1))
  obtain ⟨j, rfl, _⟩ := (labsF_mem ps (i + 1) y).1 hy
  omega
 | false :: ps, i => labsF_rises ps (i + 1)
theorem drop_cons_facts {R rest : List Int} {k : Nat} {x : Int} (h : R.drop k = x :: rest) : k < R.length ∧ R[k]? = some x ∧ R.drop (k + 1) = rest := by
 have hk : k < R.length := by
  rcases Nat.lt_or_ge k R.length with h1 | h1
  ·exact h1
  ·rw [List.drop_eq_nil_of_le h1] at h
   cases h
 rw [List.drop_eq_getElem_cons hk] at h
 obtain ⟨h1, h2⟩ := List.cons.inj h
 exact ⟨hk, List.getElem?_eq_some_iff.2 ⟨hk, h1⟩, h2⟩
theorem drop_nil_len {R : List Int} {k : Nat} (h : R.drop k = []) (hk : k ≤ R.length) : R.length = k := by
 have := List.drop_eq_nil_iff.1 h
 omega
theorem labsF_step {R : List Int} {ps : List Bool} {i k : Nat} {b : Bool} (h : R.drop k = labsF (ps.drop i) i) (hb : ps[i]? = some b) :
  (b = true ∧ k < R.length ∧ R[k]? = some ((i : Int) + 1) ∧ R.drop (k + 1) = labsF (ps.drop (i + 1)) (i + 1)) ∨ (b = false ∧ R.drop k = labsF (ps.drop (i + 1)) (i + 1)) := by
 obtain ⟨hi, hv⟩ := List.getElem?_eq_some_iff.1 hb
 rw [List.drop_eq_getElem_cons hi, hv] at h
 cases b with
 | true => exact .inl ⟨rfl, drop_cons_facts h⟩
 | false => exact .inr ⟨rfl, h⟩
theorem labels_are {l : List Nd} {w : List Nat} {p : Nd → Bool} (h : ∀ x ∈ l, rightT x = true) (hp : ∀ x ∈ l, p x = true ↔ SaysW x w) {L R : List Int} (hL : RunOf (machS l).toV w L) (hR : IsLabels (machS l).toV L R) : R = labsF (l.map p) 0 := by
 refine rises_ext hR.1 (labsF_rises _ _) (fun x => ?_)
 rw [labels_say h hL hR, labsF_mem]
 constructor
 ·rintro ⟨j, z, rfl, hz, hs⟩
  exact ⟨j, by omega, by rw [List.getElem?_map, hz, Option.map_some, (hp z (List.mem_of_getElem? hz)).2 hs]⟩
 ·rintro ⟨j, rfl, hj⟩
  rw [List.getElem?_map, Option.map_eq_some_iff] at hj
  obtain ⟨z, hz, hpz⟩ := hj
  exact ⟨j, z, by omega, hz, (hp z (List.mem_of_getElem? hz)).1 hpz⟩
theorem all_castLc (n : Nat) (l : List (Nat × Nat)) (h : ∀ p ∈ l, p.1 < n ∧ p.2 < n) : (l.map fun p => ((p.1 : Int), (p.2 : Int))).all (linkB n) = true := by
 rw [List.all_eq_true]
 intro p hp
 obtain ⟨q, hq, rfl⟩ := List.mem_map.1 hp
 have := h q hq
 unfold linkB
 rw [isB_iff.2 ⟨by simp only; omega, by simp only; omega⟩, isB_iff.2 ⟨by simp only; omega, by simp only; omega⟩]
 rfl
theorem all_castEc (n : Nat) (l : List (Nat × Nat × Nat)) (h : ∀ p ∈ l, p.1 < n ∧ p.2.2 < n) : (l.map fun p => ((p.1 : Int), p.2.1, (p.2.2 : Int))).all (edgeB n) = true := by
 rw [List.all_eq_true]
 intro p hp
 obtain ⟨q, hq, rfl⟩ := List.mem_map.1 hp
 have := h q hq
 unfold edgeB
 rw [isB_iff.2 ⟨by simp only; omega, by simp only; omega⟩, isB_iff.2 ⟨by simp only; omega, by simp only; omega⟩]
 rfl
theorem all_castAc (l : List Nat) (h : ∀ a ∈ l, a ≤ 64) : (l.map fun (a : Nat) => (a : Int)).all accB = true := by
 rw [List.all_eq_true]
 intro p hp
 obtain ⟨q, hq, rfl⟩ := List.mem_map.1 hp
 have := h q hq
 unfold accB
 rw [decide_eq_true (by omega), decide_eq_true (by omega)]
 rfl
theorem mach_rightC {l : List Nd} (hr : ∀ x ∈ l, rightT x = true) (hs : sizeW l ≤ 65536) (h64 : l.length ≤ 64) : rightN (machS l).toV = true := by
 have hg := grown_mach hr
 obtain ⟨_, h65⟩ := mach_fits hr hs
 have hpos : 0 < (machS l).states := by have := hg.states; omega
 rw [rightN_tail (by simp only [MachS.toV]; omega) (isB_iff.2 ⟨by simp [MachS.toV], by simp only [MachS.toV]; omega⟩) (by simp [MachS.toV, MachS.states])]
 simp only [MachS.toV]
 rw [all_castLc _ _ (fun p hp => by have := hg.shaped.1 p hp; omega), all_castEc _ _ (fun p hp => by have := hg.shaped.2.1 p hp; omega), all_castAc _ (fun a ha => by have := hg.label a ha; omega)]
 rfl
theorem ofS_okC {l : List Nd} {m : MachS} (h : ofS l = .ok m) : m = machS l ∧ (∀ x ∈ l, rightT x = true) ∧ sizeW l ≤ 65536 ∧ l.length ≤ 64 := by
 unfold ofS at h
 split at h
 ·cases h
 split at h
 ·cases h
 split at h
 ·cases h
 ·rename_i h1 h2 h3
  cases h
  refine ⟨rfl, fun x hx => ?_, by omega, by omega⟩
  have : l.all rightT = true := by simpa using h2
  exact List.all_eq_true.1 this x hx
theorem ofS_badC {l : List Nd} {k : Int} (h : ofS l = .error k) : k ≠ 0 := by
 unfold ofS at h
 split at h
 ·cases h; decide
 split at h
 ·cases h; decide
 split at h
 ·cases h; decide
 ·cases h
theorem mach_few {l : List Nd} (hr : ∀ x ∈ l, rightT x = true) (hs : (machS l).states ≤ 1000) : (machS l).links.length ≤ 9000000 ∧ (machS l).edges.length ≤ 9000000 := by
 have hg := grown_mach hr
 have hc := cAll_le l (fun x hx => rightT_size (hr x hx))
 have h1 := hg.states
 have h2 := hg.few
 omega
end Go.Proofs.YtofbfafnpdaejaaGreatDoor
