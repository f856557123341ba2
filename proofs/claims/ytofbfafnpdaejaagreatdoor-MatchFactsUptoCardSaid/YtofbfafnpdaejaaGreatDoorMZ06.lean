/- Texts of the claim. -/
import Derived.Deep.RegionHeldLaw
import Derived.Lib.BytesEntry
import Derived.Test.YtofbfafnpdaejaaGreatDoorMNext
import Derived.Test.YtofbfafnpdaejaaGreatDoorMRefEsc
import Derived.Test.YtofbfafnpdaejaaGreatDoorMZ04
import Derived.Test.YtofbfafnpdaejaaGreatDoorMZ03
import Derived.Test.YtofbfafnpdaejaaGreatDoorMZ01
import Derived.Test.YtofbfafnpdaejaaGreatDoorMZ05
namespace Go.Proofs.YtofbfafnpdaejaaGreatDoor
open Go.RowKit
set_option linter.unusedSimpArgs false
set_option linter.unusedVariables false
set_option maxRecDepth 100000
set_option maxHeartbeats 8000000
theorem ret_split {fn : Func} {t4 t6 : Tmp} (h : fn.results = #[.tmp t4, .cell t6 77]) {tmps : Array Value} {w : World} {g' : Nat} {x y c : Value}
  (hc : tmps.getD t4 undef = c) (hp' : tmps.getD t6 undef = .pointer (some ⟨g', 0, none⟩)) (hb' : Blk w g' 77 #[x, y]) :
  (results fn tmps).run Tryz.prog w = .ok (.tuple #[c, .agg #[x, y]]) w := by
 have h2 := run_loadVar_row (P := Tryz.prog) w g' 77 77 #[x, y] (0, 0) _ hb' Tryz.underlying77 rfl (by kernel_rfl)
 simp only [results, h]
 simp only [Array.getD_eq_getD_getElem?] at hc hp'
 simp [Sem.run_bind, hc, hp', asAddr, h2, Result.andThen]
theorem own_mono {w : World} {base base' size n : Nat} {e : TypeId} {v : Value} {xs : List Value} (h : w.ownsRow base e size v n xs) (hb : base' ≤ base) : w.ownsRow base' e size v n xs := by
 obtain ⟨h1, h2 | ⟨g, cap, cur, e1, e2, h3⟩⟩ := h
 ·exact ⟨h1, .inl h2⟩
 ·exact ⟨h1, .inr ⟨g, cap, cur, e1, Nat.le_trans hb e2, h3⟩⟩
def Cuts (r : Except Wrong (List Lex)) (w : World) (e : Ending) (w' : World) : Prop :=
 match r with
 | .ok l => ∃ v, e = .returned (.tuple #[v, .agg #[.int .i64 0, .int .i64 0]]) ∧ Below w.heap.size w w' ∧ w'.ownsRow w.heap.size 143 8 v l.length (lexCells l)
 | .error (k, q) => e = .returned (.tuple #[.slice none 0 0, .agg #[.int .i64 k, .int .i64 q]]) ∧ Below w.heap.size w w'
theorem split_long (A : Option Addr) (cap : Nat) (bs : List Nat) (w : World) (hlen : 65536 < bs.length) (hmax : bs.length ≤ 140737488355328) :
  Calls Tryz.prog 120 #[.slice A bs.length cap] w (Cuts (splitS bs) w) := by
 have hd : decide ((65536 : Int) < (bs.length : Int)) = true := by simp; omega
 have hd' : (65536 : Int) < (bs.length : Int) := by omega
 have Hb := Lib.hid (Blk.new w 77 #[.int .i64 0, .int .i64 0])
 obtain ⟨b0, b1, x0, x1⟩ := Hb.out.c2
 rw [splitS_long hlen]
 clear hlen
 go_enter Tryz.func120, Tryz.ntmps120
 go_wp2
 go_light
 refine bodyPost_ret (ret_split Tryz.results120 rfl rfl (Blk.new w 77 #[.int .i64 4, .int .i64 65536])) rfl ⟨rfl, (Below.refl w.heap.size w).alloc (Nat.le_refl _) _⟩
theorem split_none (A : Option Addr) (cap : Nat) (w : World) :
  Calls Tryz.prog 120 #[.slice A 0 cap] w (Cuts (splitS []) w) := by
 have Hb := Lib.hid ((Blk.new w 77 #[.int .i64 0, .int .i64 0]).alloc (.cells #[.slice A 0 cap, .int .i64 0, .slice none 0 0, .int .i64 0, .int .i64 0] 175))
 have hs : Blk ((w.alloc (.cells #[.int .i64 0, .int .i64 0] 77)).alloc (.cells #[.slice A 0 cap, .int .i64 0, .slice none 0 0, .int .i64 0, .int .i64 0] 175)) (w.heap.size + 1) 175 #[.slice A 0 cap, .int .i64 0, .slice none 0 0, .int .i64 0, .int .i64 0] := Blk.new_at (by simp)
 obtain ⟨b0, b1, x0, x1⟩ := Hb.out.c2
 have s1 := hs.cell 1
 have s2 := hs.cell 2
 have HB := Lib.hid (((Below.refl w.heap.size w).alloc (Nat.le_refl _) (.cells #[.int .i64 0, .int .i64 0] 77)).alloc (by simp) (.cells #[.slice A 0 cap, .int .i64 0, .slice none 0 0, .int .i64 0, .int .i64 0] 175))
 clear hs
 rw [splitS_go (bs := []) (by simp), splitF_end (by simp)]
 go_enter Tryz.func120, Tryz.ntmps120
 go_wp2
 go_loopw [16] (fun v16 wr => wr = ((w.alloc (.cells #[.int .i64 0, .int .i64 0] 77)).alloc (.cells #[.slice A 0 cap, .int .i64 0, .slice none 0 0, .int .i64 0, .int .i64 0] 175))) (fun _ wr => 0)
 case atStart => rfl
 case round =>
  obtain rfl := hrel
  go_wp2
  go_light
  refine bodyPost_ret (ret_split Tryz.results120 rfl rfl Hb.out) rfl ⟨_, rfl, HB.out, World.ownsRow_nil _ _ _ _⟩
theorem split_some (b o cap : Nat) (bs : List Nat) (w : World) (hA : BytesAt w w.heap.size (some ⟨b, o, none⟩) bs) (hcap : bs.length ≤ cap) (hlen : bs.length ≤ 65536) (h0 : 0 < bs.length) :
  Calls Tryz.prog 120 #[.slice (some ⟨b, o, none⟩) bs.length cap] w (Cuts (splitS bs) w) := by
 have hl := hA.2.1
 have hb := hA.1
 have hd : decide ((65536 : Int) < (bs.length : Int)) = false := by simp; omega
 have hd' : ¬ (65536 : Int) < (bs.length : Int) := by omega
 have Hb0 := Lib.hid ((Blk.new w 77 #[.int .i64 0, .int .i64 0]).alloc (.cells #[.slice (some ⟨b, o, none⟩) bs.length cap, .int .i64 0, .slice none 0 0, .int .i64 0, .int .i64 0] 175))
 have hS0 : Spl ((w.alloc (.cells #[.int .i64 0, .int .i64 0] 77)).alloc (.cells #[.slice (some ⟨b, o, none⟩) bs.length cap, .int .i64 0, .slice none 0 0, .int .i64 0, .int .i64 0] 175)) (w.heap.size + 1) b o bs.length cap 0 (.slice none 0 0) 0 0 := Blk.new_at (by simp)
 have HS0 := Lib.hid hS0
 have HB0 := Lib.hid (((Below.refl w.heap.size w).alloc (Nat.le_refl _) (.cells #[.int .i64 0, .int .i64 0] 77)).alloc (by simp) (.cells #[.slice (some ⟨b, o, none⟩) bs.length cap, .int .i64 0, .slice none 0 0, .int .i64 0, .int .i64 0] 175))
 have HA0 := Lib.hid ((hA.below HB0.out).more (Nat.le_succ _))
 have hz0 : (((w.alloc (.cells #[.int .i64 0, .int .i64 0] 77)).alloc (.cells #[.slice (some ⟨b, o, none⟩) bs.length cap, .int .i64 0, .slice none 0 0, .int .i64 0, .int .i64 0] 175))).heap.size = w.heap.size + 2 := by simp
 have hR0 : w.heap.size < (((w.alloc (.cells #[.int .i64 0, .int .i64 0] 77)).alloc (.cells #[.slice (some ⟨b, o, none⟩) bs.length cap, .int .i64 0, .slice none 0 0, .int .i64 0, .int .i64 0] 175))).heap.size := by omega
 clear hA
 obtain ⟨s0, s1, s2, s3, s4, f0, f1, f2, f3, f4⟩ := hS0.cells
 clear hS0
 go_enter Tryz.func120, Tryz.ntmps120
 go_wp2
 go_loopw [16] (fun v16 wr => ∃ (i f : Nat) (v : Value) (L : List Lex), i ≤ bs.length ∧ L.length ≤ i ∧ bs.length < i + f ∧ splitF bs f i L = splitS bs ∧ Spl wr (w.heap.size + 1) b o bs.length cap i v 0 0 ∧ wr.ownsRow (w.heap.size + 1) 143 8 v L.length (lexCells L) ∧ Below (w.heap.size + 1) ((w.alloc (.cells #[.int .i64 0, .int .i64 0] 77)).alloc (.cells #[.slice (some ⟨b, o, none⟩) bs.length cap, .int .i64 0, .slice none 0 0, .int .i64 0, .int .i64 0] 175)) wr) (fun _ wr => bs.length - (intOf ((wr.cell? ⟨w.heap.size + 1, 1, none⟩).getD undef)).toNat)
 case atStart => exact ⟨0, bs.length + 1, _, [], by omega, by simp, by omega, (splitS_go hlen).symm, HS0.out, World.ownsRow_nil _ _ _ _, Below.refl _ _⟩
 case round =>
  obtain ⟨i, f, v, L, hi, hL, hf, hF, hS, hrow, hB⟩ := hrel
  obtain ⟨t0, t1, t2, t3, t4, g0, g1, g2, g3, g4⟩ := hS.cells
  have hbr := Hb0.out.below hB (by omega)
  obtain ⟨r0, r1, e0, e1⟩ := hbr.c2
  have hsz := hB.size
  by_cases hlt : i < bs.length
  ·have HG := Lib.hid (next_go (w.heap.size + 1) b o cap bs i v (w.heap.size + 1) L wr hS hrow (Nat.le_refl _) (by omega) (HA0.out.below hB) hlt hcap hlen)
   have hdl : (i : Int) < (bs.length : Int) := by omega
   have Hbr := Lib.hid hbr
   have HB := Lib.hid hB
   have HF := Lib.hid hF
   obtain ⟨f, rfl⟩ : ∃ f', f = f' + 1 := ⟨f - 1, by omega⟩
   clear hS hrow hB hbr hF r0 r1 e0 e1 t2 t3 t4
   cases hx : lexS bs i with
   | error x =>
    obtain ⟨k, q⟩ := x
    have hk0 : (k != 0) = true := by rw [bne_iff_ne]; exact lexS_err hb hx
    have HV := Lib.hid (show splitS bs = .error (k, q) by rw [← HF.out]; exact splitF_bad hlt hx)
    have Hx := Lib.hid hx
    clear hx
    go_wp2_with fail
    refine HG.out.mono ?_
    intro e w1 hs
    unfold Stepped at hs
    rw [Hx.out] at hs
    obtain ⟨rfl, hb1, i1, v1, hS1⟩ := hs
    obtain ⟨u0, u1, u2, u3, u4, g0, g1, g2, g3, g4⟩ := hS1.cells
    have hbr1 := Hbr.out.below hb1 (by omega)
    obtain ⟨r0, r1, e0, e1⟩ := hbr1.c2
    have Hbr1 := Lib.hid hbr1
    have HB1 := Lib.hid (HB.out.trans hb1)
    clear hb1 hS1 hbr1
    go_wp2
    go_region
    all_goals go_wp2
    all_goals go_light
    all_goals rw [HV.out]
    refine bodyPost_ret (ret_split Tryz.results120 rfl rfl Hbr1.out.drew.set2) rfl ⟨rfl, below_set2 (HB0.out.trans (HB1.out.mono (Nat.le_succ _))).drew (Nat.le_refl _) _ _⟩
   | ok x =>
    obtain ⟨x, j⟩ := x
    have hj := lexS_some hb hlt hx
    have HV := Lib.hid (show splitF bs f j (L ++ [x]) = splitS bs by rw [← HF.out]; exact (splitF_ok hlt hx).symm)
    have Hx := Lib.hid hx
    clear hx
    go_wp2_with fail
    refine HG.out.mono ?_
    intro e w1 hs
    unfold Stepped at hs
    rw [Hx.out] at hs
    obtain ⟨rfl, hb1, v1, hS1, hrow1⟩ := hs
    obtain ⟨u0, u1, u2, u3, u4, g0, g1, g2, g3, g4⟩ := hS1.cells
    have HS1 := Lib.hid hS1
    have HR1 := Lib.hid hrow1
    have HB1 := Lib.hid (HB.out.trans hb1)
    clear hb1 hS1 hrow1
    go_wp2
    go_roundw
    case rel => exact ⟨j, f, v1, L ++ [x], hj.2, by simp; omega, by omega, HV.out, HS1.out, by simpa using HR1.out, HB1.out⟩
    case measure => rw [t1, u1]; simp [intOf]; omega
  ·have HV := Lib.hid (show splitS bs = .ok L by rw [← hF]; obtain ⟨f, rfl⟩ : ∃ f', f = f' + 1 := ⟨f - 1, by omega⟩; exact splitF_end (by omega))
   have hdl : ¬ (i : Int) < (bs.length : Int) := by omega
   have Hbr := Lib.hid hbr
   have HB := Lib.hid hB
   have HS := Lib.hid hS
   have Hrow := Lib.hid hrow
   have Hne := Lib.hid (blk_not_row hbr (by decide) hrow)
   clear hS hrow hB hbr hF
   go_wp2
   go_light
   rw [HV.out]
   refine bodyPost_ret (ret_split Tryz.results120 rfl rfl Hbr.out.set2) rfl ⟨v, rfl, below_set2 (HB0.out.trans (HB.out.mono (Nat.le_succ _))) (Nat.le_refl _) _ _, own_set (own_set (own_mono Hrow.out (Nat.le_succ _)) Hne.out) Hne.out⟩
theorem split_go (A : Option Addr) (cap : Nat) (bs : List Nat) (w : World) (hA : BytesAt w w.heap.size A bs) (hcap : bs.length ≤ cap) :
  Calls Tryz.prog 120 #[.slice A bs.length cap] w (Cuts (splitS bs) w) := by
 rcases Nat.eq_zero_or_pos bs.length with h0 | h0
 ·obtain rfl : bs = [] := List.length_eq_zero_iff.mp h0
  exact split_none A cap w
 rcases Nat.lt_or_ge 65536 bs.length with h | h
 ·exact split_long A cap bs w h hA.2.1
 obtain ⟨b, o, rfl, _, _⟩ := hA.2.2 h0
 exact split_some b o cap bs w hA hcap h h0
theorem own_room {w : World} {base size n : Nat} {e : TypeId} {v : Value} {xs : List Value} {a : Option Addr} {cap : Nat} (h : w.ownsRow base e size v n xs) (hv : v = .slice a n cap) : n ≤ cap := by
 rcases h.2 with ⟨rfl, h0⟩ | ⟨g', cap', cur, rfl, _, _, hc, _⟩
 ·have := (Value.slice.inj hv).2.1
  omega
 ·have := (Value.slice.inj hv).2.2
  omega
theorem LexRow.at {w : World} {A : Option Addr} {cap : Nat} {L : List Lex} (h : LexRow w (.slice A L.length cap) L) : LexsAt w w.heap.size A L := fun hl => by
 obtain ⟨A', cap', hv, hc⟩ := h
 obtain ⟨rfl, _⟩ : A = A' ∧ cap = cap' := ⟨(Value.slice.inj hv).1, (Value.slice.inj hv).2.2⟩
 obtain ⟨x, hx⟩ : ∃ x, L[0]? = some x := ⟨_, List.getElem?_eq_getElem hl⟩
 obtain ⟨g, hg, c0, _⟩ := hc 0 x hx
 refine ⟨g, 0, hg, World.block_lt_of_cell? w _ c0, fun k y hy => ?_⟩
 obtain ⟨g', hg', d⟩ := hc k y hy
 obtain rfl : g = g' := by rw [hg] at hg'; simpa using hg'
 simpa using d
theorem one_leaf {x : Lex} (h : rightS x = true) (hk : x.kind = 1) : lexemesS [x] = .ok (leafN (maskOf x.set)) := by
 rw [lexemesS_ok (by simp [h]) (by simp)]
 have e : altG 6 [] [] [x] = .ok (leafN (maskOf x.set), []) := by
  have hp : piecesG 5 [] [] [x] = .ok ([leafN (maskOf x.set)], []) := by
   rw [piecesG_go (atomG_set hk)]
   exact piecesG_end (atomG_nil _ _)
  rw [altG_ok hp]
  rfl
 show (match altG 6 [] [] [x] with | .error e => Except.error e | .ok (x, _) => .ok x) = _
 rw [e]
theorem text_bad (A : Option Addr) (cap : Nat) (bs : List Nat) (w : World) (hA : BytesAt w w.heap.size A bs) (hcap : bs.length ≤ cap) {k q : Int} (hs : splitS bs = .error (k, q)) (hk : k ≠ 0) :
  Calls Tryz.prog 61 #[.slice A bs.length cap] w (TreeOut (parseS bs) w) := by
 have hd : (k != 0) = true := by rw [bne_iff_ne]; exact hk
 have HV := Lib.hid (show parseS bs = .error (k, q) by unfold parseS; rw [hs])
 have hb2 : Below w.heap.size w ((w.alloc (.cells #[.int .i64 0, .int .u64 0, .int .u64 0, .int .u64 0, .int .u64 0, .slice none 0 0, .int .i64 0, .int .i64 0] 28)).alloc (.cells #[.int .i64 0, .int .i64 0] 77)) := ((Below.refl _ _).alloc (Nat.le_refl _) _).alloc (by simp) _
 have HB2 := Lib.hid hb2
 have HG2 := Lib.hid (show Blk ((w.alloc (.cells #[.int .i64 0, .int .u64 0, .int .u64 0, .int .u64 0, .int .u64 0, .slice none 0 0, .int .i64 0, .int .i64 0] 28)).alloc (.cells #[.int .i64 0, .int .i64 0] 77)) w.heap.size 28 _ from (Blk.new w 28 #[.int .i64 0, .int .u64 0, .int .u64 0, .int .u64 0, .int .u64 0, .slice none 0 0, .int .i64 0, .int .i64 0]).alloc _)
 have HH2 := Lib.hid (show Blk ((w.alloc (.cells #[.int .i64 0, .int .u64 0, .int .u64 0, .int .u64 0, .int .u64 0, .slice none 0 0, .int .i64 0, .int .i64 0] 28)).alloc (.cells #[.int .i64 0, .int .i64 0] 77)) (w.heap.size + 1) 77 #[.int .i64 0, .int .i64 0] from Blk.new_at (by simp))
 have h1 := split_go A cap bs _ ((hA.below hb2).more (by simp; omega)) hcap
 rw [hs] at h1
 have H1 := Lib.hid h1
 clear hb2 hA hs h1 hk
 go_enter Tryz.func61, Tryz.ntmps61
 go_wp2_with fail
 refine H1.out.mono ?_
 rintro e w3 ⟨rfl, hb3⟩
 have HB3 := Lib.hid (HB2.out.trans (hb3.mono HB2.out.size))
 have hG3 := HG2.out.below hb3 HG2.out.lt
 have hH3 := HH2.out.below hb3 HH2.out.lt
 have HG3 := Lib.hid hG3
 have HH3 := Lib.hid hH3
 have hlt1 : w.heap.size < w3.heap.size := hG3.lt
 have hlt2 : w.heap.size + 1 < w3.heap.size := hH3.lt
 have hne1 : w.heap.size ≠ w3.heap.size := by omega
 have hne2 : w.heap.size + 1 ≠ w3.heap.size := by omega
 have y0 : w3.cell? ⟨w.heap.size, 0, none⟩ = some (.int .i64 0) := hG3.cell 0
 have y1 : w3.cell? ⟨w.heap.size, 1, none⟩ = some (.int .u64 0) := hG3.cell 1
 have y2 : w3.cell? ⟨w.heap.size, 2, none⟩ = some (.int .u64 0) := hG3.cell 2
 have y3 : w3.cell? ⟨w.heap.size, 3, none⟩ = some (.int .u64 0) := hG3.cell 3
 have y4 : w3.cell? ⟨w.heap.size, 4, none⟩ = some (.int .u64 0) := hG3.cell 4
 have y5 : w3.cell? ⟨w.heap.size, 5, none⟩ = some (.slice none 0 0) := hG3.cell 5
 have y6 : w3.cell? ⟨w.heap.size, 6, none⟩ = some (.int .i64 0) := hG3.cell 6
 have y7 : w3.cell? ⟨w.heap.size, 7, none⟩ = some (.int .i64 0) := hG3.cell 7
 have z0 := hG3.frozen 0
 have z1 := hG3.frozen 1
 have z2 := hG3.frozen 2
 have z3 := hG3.frozen 3
 have z4 := hG3.frozen 4
 have z5 := hG3.frozen 5
 have z6 := hG3.frozen 6
 have z7 := hG3.frozen 7
 obtain ⟨b0, b1, f0, f1⟩ := hH3.c2
 clear hb3 hG3 hH3 H1 HB2 HG2 HH2
 dsimp only
 go_wp2
 go_region
 all_goals go_wp2
 all_goals go_light
 rw [HV.out]
 exact bodyPost_ret (ret_tree Tryz.results61 rfl rfl (((HG3.out.put8 _ _ _ _ _ _ _ _).far2 (by omega) _ _).alloc _).drew (((HH3.out.past8 (by omega) _ _ _ _ _ _ _ _).set2).alloc _).drew) rfl ⟨rfl, ((below_set2 (below_put8 HB3.out (Nat.le_refl _) _ _ _ _ _ _ _ _) (by omega) _ _).alloc (by have := HB3.out.size; simpa [World.setCell] using this) _).drew⟩
theorem laid {n : Nat} {w w6 w7 : World} {x : Nd} {B : Option Addr} {cap : Nat} {k q : Int} (hG : Blk w6 n 28 #[.int .i64 0, .int .u64 0, .int .u64 0, .int .u64 0, .int .u64 0, .slice none 0 0, .int .i64 0, .int .i64 0]) (hH : Blk w6 (n + 1) 77 #[.int .i64 0, .int .i64 0]) (hB : Below n w w6) (hT : TreesAt w6 (fun b => n + 2 ≤ b) x.kids B)
  (hw : w7 = (((((((((w6.setCell ⟨n, 0, none⟩ (.int .i64 x.kind)).setCell ⟨n, 1, none⟩ (.int .u64 (word x.set.testBit 0))).setCell ⟨n, 2, none⟩ (.int .u64 (word x.set.testBit 1))).setCell ⟨n, 3, none⟩ (.int .u64 (word x.set.testBit 2))).setCell ⟨n, 4, none⟩ (.int .u64 (word x.set.testBit 3))).setCell ⟨n, 5, none⟩ (.slice B x.kids.len cap)).setCell ⟨n, 6, none⟩ (.int .i64 x.lo)).setCell ⟨n, 7, none⟩ (.int .i64 x.hi)).setCell ⟨n + 1, 0, none⟩ (.int .i64 k)).setCell ⟨n + 1, 1, none⟩ (.int .i64 q)) :
  Blk w7 n 28 (ndA x B cap) ∧ Blk w7 (n + 1) 77 #[.int .i64 k, .int .i64 q] ∧ Below n w w7 ∧ TreesAt w7 (fun b => n ≤ b) x.kids B := by
 have hg1 := only_put8 w6 n (.int .i64 x.kind) (.int .u64 (word x.set.testBit 0)) (.int .u64 (word x.set.testBit 1)) (.int .u64 (word x.set.testBit 2)) (.int .u64 (word x.set.testBit 3)) (.slice B x.kids.len cap) (.int .i64 x.lo) (.int .i64 x.hi)
 have ht7 := TreesAt.keep (Q := fun b => n + 2 ≤ b) (fun b o (hb : n + 2 ≤ b) hl => World.cell?_of_block (hg1.block b hl (by simp; omega))) (fun b hb _ => hb) hT
 have hg2 := only_set (only_set (only_refl ((((((((w6.setCell ⟨n, 0, none⟩ (.int .i64 x.kind)).setCell ⟨n, 1, none⟩ (.int .u64 (word x.set.testBit 0))).setCell ⟨n, 2, none⟩ (.int .u64 (word x.set.testBit 1))).setCell ⟨n, 3, none⟩ (.int .u64 (word x.set.testBit 2))).setCell ⟨n, 4, none⟩ (.int .u64 (word x.set.testBit 3))).setCell ⟨n, 5, none⟩ (.slice B x.kids.len cap)).setCell ⟨n, 6, none⟩ (.int .i64 x.lo)).setCell ⟨n, 7, none⟩ (.int .i64 x.hi)) (some (n + 1))) 0 (.int .i64 k)) 1 (.int .i64 q)
 have ht8 := TreesAt.keep (Q := fun b => n ≤ b) (fun b o (hb : n + 2 ≤ b) hl => World.cell?_of_block (hg2.block b hl (by simp; omega))) (fun b (hb : n + 2 ≤ b) _ => by omega) ht7
 have hG7 := (hG.put8 (.int .i64 x.kind) (.int .u64 (word x.set.testBit 0)) (.int .u64 (word x.set.testBit 1)) (.int .u64 (word x.set.testBit 2)) (.int .u64 (word x.set.testBit 3)) (.slice B x.kids.len cap) (.int .i64 x.lo) (.int .i64 x.hi)).far2 (g' := n + 1) (by omega) (.int .i64 k) (.int .i64 q)
 have hH7 := (hH.past8 (g' := n) (by omega) (.int .i64 x.kind) (.int .u64 (word x.set.testBit 0)) (.int .u64 (word x.set.testBit 1)) (.int .u64 (word x.set.testBit 2)) (.int .u64 (word x.set.testBit 3)) (.slice B x.kids.len cap) (.int .i64 x.lo) (.int .i64 x.hi)).set2 (a' := .int .i64 k) (b' := .int .i64 q)
 have hb7 := below_set2 (below_put8 hB (Nat.le_refl _) (.int .i64 x.kind) (.int .u64 (word x.set.testBit 0)) (.int .u64 (word x.set.testBit 1)) (.int .u64 (word x.set.testBit 2)) (.int .u64 (word x.set.testBit 3)) (.slice B x.kids.len cap) (.int .i64 x.lo) (.int .i64 x.hi)) (Nat.le_succ n) (.int .i64 k) (.int .i64 q)
 rw [hw]
 exact ⟨hG7, hH7, hb7, ht8⟩
theorem text_many (A : Option Addr) (cap : Nat) (bs : List Nat) (w : World) (hA : BytesAt w w.heap.size A bs) (hcap : bs.length ≤ cap) {L : List Lex} (hs : splitS bs = .ok L) (h1 : L.length ≠ 1) :
  Calls Tryz.prog 61 #[.slice A bs.length cap] w (TreeOut (parseS bs) w) := by
 have hd : ((L.length : Int) == 1) = false := by rw [beq_eq_false_iff_ne]; omega
 have hV : parseS bs = lexemesS L := by unfold parseS; rw [hs]
 clear h1
 cases hx : lexemesS L with
 | error x =>
  obtain ⟨k, q⟩ := x
  have HV := Lib.hid (hV.trans hx)
  have HX := Lib.hid hx
  clear hV hx
  have hL65 := (splitS_right hA.1 hs).2.2
  have hb2 : Below w.heap.size w ((w.alloc (.cells #[.int .i64 0, .int .u64 0, .int .u64 0, .int .u64 0, .int .u64 0, .slice none 0 0, .int .i64 0, .int .i64 0] 28)).alloc (.cells #[.int .i64 0, .int .i64 0] 77)) := ((Below.refl _ _).alloc (Nat.le_refl _) _).alloc (by simp) _
  have HB2 := Lib.hid hb2
  have HG2 := Lib.hid (show Blk ((w.alloc (.cells #[.int .i64 0, .int .u64 0, .int .u64 0, .int .u64 0, .int .u64 0, .slice none 0 0, .int .i64 0, .int .i64 0] 28)).alloc (.cells #[.int .i64 0, .int .i64 0] 77)) w.heap.size 28 _ from (Blk.new w 28 #[.int .i64 0, .int .u64 0, .int .u64 0, .int .u64 0, .int .u64 0, .slice none 0 0, .int .i64 0, .int .i64 0]).alloc _)
  have HH2 := Lib.hid (show Blk ((w.alloc (.cells #[.int .i64 0, .int .u64 0, .int .u64 0, .int .u64 0, .int .u64 0, .slice none 0 0, .int .i64 0, .int .i64 0] 28)).alloc (.cells #[.int .i64 0, .int .i64 0] 77)) (w.heap.size + 1) 77 #[.int .i64 0, .int .i64 0] from Blk.new_at (by simp))
  have h1 := split_go A cap bs _ ((hA.below hb2).more (by simp; omega)) hcap
  rw [hs] at h1
  have H1 := Lib.hid h1
  clear hb2 hA h1
  go_enter Tryz.func61, Tryz.ntmps61
  go_wp2_with fail
  refine H1.out.mono ?_
  rintro e w3 ⟨v, rfl, hb3, hrow3⟩
  obtain ⟨A3, cap3, rfl⟩ := own_slice hrow3
  have hb4 : Below w3.heap.size w3 (w3.alloc (.cells #[.int .i64 0, .int .i64 0] 77)) := (Below.refl _ _).alloc (Nat.le_refl _) _
  have HB4 := Lib.hid (HB2.out.trans ((hb3.trans (hb4.mono hb3.size)).mono HB2.out.size))
  have hG4 := (HG2.out.below hb3 HG2.out.lt).alloc (.cells #[.int .i64 0, .int .i64 0] 77)
  have hH4 := (HH2.out.below hb3 HH2.out.lt).alloc (.cells #[.int .i64 0, .int .i64 0] 77)
  have hc3 := own_room hrow3 rfl
  have HL4 := Lib.hid (((lexRow_of hrow3).at.below hb4).more hb4.size)
  have hsz4 : w.heap.size + 2 < (w3.alloc (.cells #[.int .i64 0, .int .i64 0] 77)).heap.size := by have := hb3.size; simp at this ⊢; omega
  have HG4 := Lib.hid hG4
  have HH4 := Lib.hid hH4
  clear hb3 hrow3 hb4 H1 HB2 HG2 HH2
  dsimp only
  skip
  have hP := lexemes_go _ cap3 L _ HL4.out (by omega) hc3
  rw [HX.out] at hP
  have HP := Lib.hid hP
  clear hP
  go_wp2_with fail
  refine HP.out.mono ?_
  rintro e w6 ⟨rfl, hb6⟩
  have hG6 := HG4.out.below hb6 HG4.out.lt
  have hH6 := HH4.out.below hb6 HH4.out.lt
  have HB6 := Lib.hid (HB4.out.trans (hb6.mono (by omega)))
  have y0 : w6.cell? ⟨w.heap.size, 0, none⟩ = some (.int .i64 0) := hG6.cell 0
  have y1 : w6.cell? ⟨w.heap.size, 1, none⟩ = some (.int .u64 0) := hG6.cell 1
  have y2 : w6.cell? ⟨w.heap.size, 2, none⟩ = some (.int .u64 0) := hG6.cell 2
  have y3 : w6.cell? ⟨w.heap.size, 3, none⟩ = some (.int .u64 0) := hG6.cell 3
  have y4 : w6.cell? ⟨w.heap.size, 4, none⟩ = some (.int .u64 0) := hG6.cell 4
  have y5 : w6.cell? ⟨w.heap.size, 5, none⟩ = some (.slice none 0 0) := hG6.cell 5
  have y6 : w6.cell? ⟨w.heap.size, 6, none⟩ = some (.int .i64 0) := hG6.cell 6
  have y7 : w6.cell? ⟨w.heap.size, 7, none⟩ = some (.int .i64 0) := hG6.cell 7
  have z0 := hG6.frozen 0
  have z1 := hG6.frozen 1
  have z2 := hG6.frozen 2
  have z3 := hG6.frozen 3
  have z4 := hG6.frozen 4
  have z5 := hG6.frozen 5
  have z6 := hG6.frozen 6
  have z7 := hG6.frozen 7
  obtain ⟨b0, b1, f0, f1⟩ := hH6.c2
  have HG6 := Lib.hid hG6
  have HH6 := Lib.hid hH6
  clear hb6 hG6 hH6 HP HG4 HH4 HB4 hG4 hH4
  unfold zeroN
  dsimp only
  go_wp2
  go_light
  rw [HV.out]
  exact bodyPost_ret (ret_tree Tryz.results61 rfl rfl ((HG6.out.put8 _ _ _ _ _ _ _ _).far2 (by omega) _ _) ((HH6.out.past8 (by omega) _ _ _ _ _ _ _ _).set2)) rfl ⟨rfl, below_set2 (below_put8 HB6.out (Nat.le_refl _) _ _ _ _ _ _ _ _) (by omega) _ _⟩
 | ok x =>
  have HV := Lib.hid (hV.trans hx)
  have HX := Lib.hid hx
  clear hV hx
  have hL65 := (splitS_right hA.1 hs).2.2
  have hb2 : Below w.heap.size w ((w.alloc (.cells #[.int .i64 0, .int .u64 0, .int .u64 0, .int .u64 0, .int .u64 0, .slice none 0 0, .int .i64 0, .int .i64 0] 28)).alloc (.cells #[.int .i64 0, .int .i64 0] 77)) := ((Below.refl _ _).alloc (Nat.le_refl _) _).alloc (by simp) _
  have HB2 := Lib.hid hb2
  have HG2 := Lib.hid (show Blk ((w.alloc (.cells #[.int .i64 0, .int .u64 0, .int .u64 0, .int .u64 0, .int .u64 0, .slice none 0 0, .int .i64 0, .int .i64 0] 28)).alloc (.cells #[.int .i64 0, .int .i64 0] 77)) w.heap.size 28 _ from (Blk.new w 28 #[.int .i64 0, .int .u64 0, .int .u64 0, .int .u64 0, .int .u64 0, .slice none 0 0, .int .i64 0, .int .i64 0]).alloc _)
  have HH2 := Lib.hid (show Blk ((w.alloc (.cells #[.int .i64 0, .int .u64 0, .int .u64 0, .int .u64 0, .int .u64 0, .slice none 0 0, .int .i64 0, .int .i64 0] 28)).alloc (.cells #[.int .i64 0, .int .i64 0] 77)) (w.heap.size + 1) 77 #[.int .i64 0, .int .i64 0] from Blk.new_at (by simp))
  have h1 := split_go A cap bs _ ((hA.below hb2).more (by simp; omega)) hcap
  rw [hs] at h1
  have H1 := Lib.hid h1
  clear hb2 hA h1
  go_enter Tryz.func61, Tryz.ntmps61
  go_wp2_with fail
  refine H1.out.mono ?_
  rintro e w3 ⟨v, rfl, hb3, hrow3⟩
  obtain ⟨A3, cap3, rfl⟩ := own_slice hrow3
  have hb4 : Below w3.heap.size w3 (w3.alloc (.cells #[.int .i64 0, .int .i64 0] 77)) := (Below.refl _ _).alloc (Nat.le_refl _) _
  have HB4 := Lib.hid (HB2.out.trans ((hb3.trans (hb4.mono hb3.size)).mono HB2.out.size))
  have hG4 := (HG2.out.below hb3 HG2.out.lt).alloc (.cells #[.int .i64 0, .int .i64 0] 77)
  have hH4 := (HH2.out.below hb3 HH2.out.lt).alloc (.cells #[.int .i64 0, .int .i64 0] 77)
  have hc3 := own_room hrow3 rfl
  have HL4 := Lib.hid (((lexRow_of hrow3).at.below hb4).more hb4.size)
  have hsz4 : w.heap.size + 2 < (w3.alloc (.cells #[.int .i64 0, .int .i64 0] 77)).heap.size := by have := hb3.size; simp at this ⊢; omega
  have HG4 := Lib.hid hG4
  have HH4 := Lib.hid hH4
  clear hb3 hrow3 hb4 H1 HB2 HG2 HH2
  dsimp only
  skip
  have hP := lexemes_go _ cap3 L _ HL4.out (by omega) hc3
  rw [HX.out] at hP
  have HP := Lib.hid hP
  clear hP
  go_wp2_with fail
  refine HP.out.mono ?_
  rintro e w6 ⟨B, cap6, rfl, hb6, hc6, ht6⟩
  have hG6 := HG4.out.below hb6 HG4.out.lt
  have hH6 := HH4.out.below hb6 HH4.out.lt
  have HB6 := Lib.hid (HB4.out.trans (hb6.mono (by omega)))
  have HT6 := Lib.hid (ht6.weak (Q := fun b => w.heap.size + 2 ≤ b) (fun b hb _ => by omega))
  have y0 : w6.cell? ⟨w.heap.size, 0, none⟩ = some (.int .i64 0) := hG6.cell 0
  have y1 : w6.cell? ⟨w.heap.size, 1, none⟩ = some (.int .u64 0) := hG6.cell 1
  have y2 : w6.cell? ⟨w.heap.size, 2, none⟩ = some (.int .u64 0) := hG6.cell 2
  have y3 : w6.cell? ⟨w.heap.size, 3, none⟩ = some (.int .u64 0) := hG6.cell 3
  have y4 : w6.cell? ⟨w.heap.size, 4, none⟩ = some (.int .u64 0) := hG6.cell 4
  have y5 : w6.cell? ⟨w.heap.size, 5, none⟩ = some (.slice none 0 0) := hG6.cell 5
  have y6 : w6.cell? ⟨w.heap.size, 6, none⟩ = some (.int .i64 0) := hG6.cell 6
  have y7 : w6.cell? ⟨w.heap.size, 7, none⟩ = some (.int .i64 0) := hG6.cell 7
  have z0 := hG6.frozen 0
  have z1 := hG6.frozen 1
  have z2 := hG6.frozen 2
  have z3 := hG6.frozen 3
  have z4 := hG6.frozen 4
  have z5 := hG6.frozen 5
  have z6 := hG6.frozen 6
  have z7 := hG6.frozen 7
  obtain ⟨b0, b1, f0, f1⟩ := hH6.c2
  have HG6 := Lib.hid hG6
  have HH6 := Lib.hid hH6
  clear hb6 ht6 hG6 hH6 HP HG4 HH4 HB4 hG4 hH4
  unfold ndV
  dsimp only
  go_wp2
  go_light
  have hF := laid (x := x) (B := B) (cap := cap6) (k := 0) (q := 0) HG6.out HH6.out HB6.out HT6.out rfl
  rw [HV.out]
  exact bodyPost_ret (ret_tree Tryz.results61 rfl rfl hF.1 hF.2.1) rfl ⟨B, cap6, rfl, hF.2.2.1, hc6, hF.2.2.2⟩
theorem text_sign (A : Option Addr) (cap : Nat) (bs : List Nat) (w : World) (hA : BytesAt w w.heap.size A bs) (hcap : bs.length ≤ cap) {y : Lex} (hs : splitS bs = .ok [y]) (h1 : y.kind ≠ 1) :
  Calls Tryz.prog 61 #[.slice A bs.length cap] w (TreeOut (parseS bs) w) := by
 obtain ⟨L, hL⟩ : ∃ L, L = [y] := ⟨_, rfl⟩
 have HLy := Lib.hid hL
 rw [← hL] at hs
 have hlen : L.length = 1 := by rw [hL]; rfl
 clear hL
 have hd : ((L.length : Int) == 1) = true := by rw [beq_iff_eq]; omega
 have hd0 : (0 : Int) < (L.length : Int) := by omega
 have hy : L[0]? = some y := by rw [HLy.out]; rfl
 have Hy := Lib.hid hy
 have hk : (y.kind == 1) = false := by simp; exact h1
 have hV : parseS bs = lexemesS L := by unfold parseS; rw [hs]
 clear h1 hlen hy
 cases hx : lexemesS L with
 | error x =>
  obtain ⟨k, q⟩ := x
  have HV := Lib.hid (hV.trans hx)
  have HX := Lib.hid hx
  clear hV hx
  have hL65 := (splitS_right hA.1 hs).2.2
  have hb2 : Below w.heap.size w ((w.alloc (.cells #[.int .i64 0, .int .u64 0, .int .u64 0, .int .u64 0, .int .u64 0, .slice none 0 0, .int .i64 0, .int .i64 0] 28)).alloc (.cells #[.int .i64 0, .int .i64 0] 77)) := ((Below.refl _ _).alloc (Nat.le_refl _) _).alloc (by simp) _
  have HB2 := Lib.hid hb2
  have HG2 := Lib.hid (show Blk ((w.alloc (.cells #[.int .i64 0, .int .u64 0, .int .u64 0, .int .u64 0, .int .u64 0, .slice none 0 0, .int .i64 0, .int .i64 0] 28)).alloc (.cells #[.int .i64 0, .int .i64 0] 77)) w.heap.size 28 _ from (Blk.new w 28 #[.int .i64 0, .int .u64 0, .int .u64 0, .int .u64 0, .int .u64 0, .slice none 0 0, .int .i64 0, .int .i64 0]).alloc _)
  have HH2 := Lib.hid (show Blk ((w.alloc (.cells #[.int .i64 0, .int .u64 0, .int .u64 0, .int .u64 0, .int .u64 0, .slice none 0 0, .int .i64 0, .int .i64 0] 28)).alloc (.cells #[.int .i64 0, .int .i64 0] 77)) (w.heap.size + 1) 77 #[.int .i64 0, .int .i64 0] from Blk.new_at (by simp))
  have h1 := split_go A cap bs _ ((hA.below hb2).more (by simp; omega)) hcap
  rw [hs] at h1
  have H1 := Lib.hid h1
  clear hb2 hA h1
  go_enter Tryz.func61, Tryz.ntmps61
  go_wp2_with fail
  refine H1.out.mono ?_
  rintro e w3 ⟨v, rfl, hb3, hrow3⟩
  obtain ⟨A3, cap3, rfl⟩ := own_slice hrow3
  have hb4 : Below w3.heap.size w3 (w3.alloc (.cells #[.int .i64 0, .int .i64 0] 77)) := (Below.refl _ _).alloc (Nat.le_refl _) _
  have HB4 := Lib.hid (HB2.out.trans ((hb3.trans (hb4.mono hb3.size)).mono HB2.out.size))
  have hG4 := (HG2.out.below hb3 HG2.out.lt).alloc (.cells #[.int .i64 0, .int .i64 0] 77)
  have hH4 := (HH2.out.below hb3 HH2.out.lt).alloc (.cells #[.int .i64 0, .int .i64 0] 77)
  have hc3 := own_room hrow3 rfl
  have HL4 := Lib.hid (((lexRow_of hrow3).at.below hb4).more hb4.size)
  have hsz4 : w.heap.size + 2 < (w3.alloc (.cells #[.int .i64 0, .int .i64 0] 77)).heap.size := by have := hb3.size; simp at this ⊢; omega
  have HG4 := Lib.hid hG4
  have HH4 := Lib.hid hH4
  clear hb3 hrow3 hb4 H1 HB2 HG2 HH2
  dsimp only
  obtain ⟨b4, o4, rfl, hbl4, hc4⟩ := HL4.out (by omega); obtain ⟨q0, _⟩ := hc4 0 y Hy.out; simp only [Nat.zero_mul, Nat.add_zero] at q0; clear hc4
  have hP := lexemes_go _ cap3 L _ HL4.out (by omega) hc3
  rw [HX.out] at hP
  have HP := Lib.hid hP
  clear hP
  go_wp2_with fail
  refine HP.out.mono ?_
  rintro e w6 ⟨rfl, hb6⟩
  have hG6 := HG4.out.below hb6 HG4.out.lt
  have hH6 := HH4.out.below hb6 HH4.out.lt
  have HB6 := Lib.hid (HB4.out.trans (hb6.mono (by omega)))
  have y0 : w6.cell? ⟨w.heap.size, 0, none⟩ = some (.int .i64 0) := hG6.cell 0
  have y1 : w6.cell? ⟨w.heap.size, 1, none⟩ = some (.int .u64 0) := hG6.cell 1
  have y2 : w6.cell? ⟨w.heap.size, 2, none⟩ = some (.int .u64 0) := hG6.cell 2
  have y3 : w6.cell? ⟨w.heap.size, 3, none⟩ = some (.int .u64 0) := hG6.cell 3
  have y4 : w6.cell? ⟨w.heap.size, 4, none⟩ = some (.int .u64 0) := hG6.cell 4
  have y5 : w6.cell? ⟨w.heap.size, 5, none⟩ = some (.slice none 0 0) := hG6.cell 5
  have y6 : w6.cell? ⟨w.heap.size, 6, none⟩ = some (.int .i64 0) := hG6.cell 6
  have y7 : w6.cell? ⟨w.heap.size, 7, none⟩ = some (.int .i64 0) := hG6.cell 7
  have z0 := hG6.frozen 0
  have z1 := hG6.frozen 1
  have z2 := hG6.frozen 2
  have z3 := hG6.frozen 3
  have z4 := hG6.frozen 4
  have z5 := hG6.frozen 5
  have z6 := hG6.frozen 6
  have z7 := hG6.frozen 7
  obtain ⟨b0, b1, f0, f1⟩ := hH6.c2
  have HG6 := Lib.hid hG6
  have HH6 := Lib.hid hH6
  clear hb6 hG6 hH6 HP HG4 HH4 HB4 hG4 hH4
  unfold zeroN
  dsimp only
  go_wp2
  go_light
  rw [HV.out]
  exact bodyPost_ret (ret_tree Tryz.results61 rfl rfl ((HG6.out.put8 _ _ _ _ _ _ _ _).far2 (by omega) _ _) ((HH6.out.past8 (by omega) _ _ _ _ _ _ _ _).set2)) rfl ⟨rfl, below_set2 (below_put8 HB6.out (Nat.le_refl _) _ _ _ _ _ _ _ _) (by omega) _ _⟩
 | ok x =>
  have HV := Lib.hid (hV.trans hx)
  have HX := Lib.hid hx
  clear hV hx
  have hL65 := (splitS_right hA.1 hs).2.2
  have hb2 : Below w.heap.size w ((w.alloc (.cells #[.int .i64 0, .int .u64 0, .int .u64 0, .int .u64 0, .int .u64 0, .slice none 0 0, .int .i64 0, .int .i64 0] 28)).alloc (.cells #[.int .i64 0, .int .i64 0] 77)) := ((Below.refl _ _).alloc (Nat.le_refl _) _).alloc (by simp) _
  have HB2 := Lib.hid hb2
  have HG2 := Lib.hid (show Blk ((w.alloc (.cells #[.int .i64 0, .int .u64 0, .int .u64 0, .int .u64 0, .int .u64 0, .slice none 0 0, .int .i64 0, .int .i64 0] 28)).alloc (.cells #[.int .i64 0, .int .i64 0] 77)) w.heap.size 28 _ from (Blk.new w 28 #[.int .i64 0, .int .u64 0, .int .u64 0, .int .u64 0, .int .u64 0, .slice none 0 0, .int .i64 0, .int .i64 0]).alloc _)
  have HH2 := Lib.hid (show Blk ((w.alloc (.cells #[.int .i64 0, .int .u64 0, .int .u64 0, .int .u64 0, .int .u64 0, .slice none 0 0, .int .i64 0, .int .i64 0] 28)).alloc (.cells #[.int .i64 0, .int .i64 0] 77)) (w.heap.size + 1) 77 #[.int .i64 0, .int .i64 0] from Blk.new_at (by simp))
  have h1 := split_go A cap bs _ ((hA.below hb2).more (by simp; omega)) hcap
  rw [hs] at h1
  have H1 := Lib.hid h1
  clear hb2 hA h1
  go_enter Tryz.func61, Tryz.ntmps61
  go_wp2_with fail
  refine H1.out.mono ?_
  rintro e w3 ⟨v, rfl, hb3, hrow3⟩
  obtain ⟨A3, cap3, rfl⟩ := own_slice hrow3
  have hb4 : Below w3.heap.size w3 (w3.alloc (.cells #[.int .i64 0, .int .i64 0] 77)) := (Below.refl _ _).alloc (Nat.le_refl _) _
  have HB4 := Lib.hid (HB2.out.trans ((hb3.trans (hb4.mono hb3.size)).mono HB2.out.size))
  have hG4 := (HG2.out.below hb3 HG2.out.lt).alloc (.cells #[.int .i64 0, .int .i64 0] 77)
  have hH4 := (HH2.out.below hb3 HH2.out.lt).alloc (.cells #[.int .i64 0, .int .i64 0] 77)
  have hc3 := own_room hrow3 rfl
  have HL4 := Lib.hid (((lexRow_of hrow3).at.below hb4).more hb4.size)
  have hsz4 : w.heap.size + 2 < (w3.alloc (.cells #[.int .i64 0, .int .i64 0] 77)).heap.size := by have := hb3.size; simp at this ⊢; omega
  have HG4 := Lib.hid hG4
  have HH4 := Lib.hid hH4
  clear hb3 hrow3 hb4 H1 HB2 HG2 HH2
  dsimp only
  obtain ⟨b4, o4, rfl, hbl4, hc4⟩ := HL4.out (by omega); obtain ⟨q0, _⟩ := hc4 0 y Hy.out; simp only [Nat.zero_mul, Nat.add_zero] at q0; clear hc4
  have hP := lexemes_go _ cap3 L _ HL4.out (by omega) hc3
  rw [HX.out] at hP
  have HP := Lib.hid hP
  clear hP
  go_wp2_with fail
  refine HP.out.mono ?_
  rintro e w6 ⟨B, cap6, rfl, hb6, hc6, ht6⟩
  have hG6 := HG4.out.below hb6 HG4.out.lt
  have hH6 := HH4.out.below hb6 HH4.out.lt
  have HB6 := Lib.hid (HB4.out.trans (hb6.mono (by omega)))
  have HT6 := Lib.hid (ht6.weak (Q := fun b => w.heap.size + 2 ≤ b) (fun b hb _ => by omega))
  have y0 : w6.cell? ⟨w.heap.size, 0, none⟩ = some (.int .i64 0) := hG6.cell 0
  have y1 : w6.cell? ⟨w.heap.size, 1, none⟩ = some (.int .u64 0) := hG6.cell 1
  have y2 : w6.cell? ⟨w.heap.size, 2, none⟩ = some (.int .u64 0) := hG6.cell 2
  have y3 : w6.cell? ⟨w.heap.size, 3, none⟩ = some (.int .u64 0) := hG6.cell 3
  have y4 : w6.cell? ⟨w.heap.size, 4, none⟩ = some (.int .u64 0) := hG6.cell 4
  have y5 : w6.cell? ⟨w.heap.size, 5, none⟩ = some (.slice none 0 0) := hG6.cell 5
  have y6 : w6.cell? ⟨w.heap.size, 6, none⟩ = some (.int .i64 0) := hG6.cell 6
  have y7 : w6.cell? ⟨w.heap.size, 7, none⟩ = some (.int .i64 0) := hG6.cell 7
  have z0 := hG6.frozen 0
  have z1 := hG6.frozen 1
  have z2 := hG6.frozen 2
  have z3 := hG6.frozen 3
  have z4 := hG6.frozen 4
  have z5 := hG6.frozen 5
  have z6 := hG6.frozen 6
  have z7 := hG6.frozen 7
  obtain ⟨b0, b1, f0, f1⟩ := hH6.c2
  have HG6 := Lib.hid hG6
  have HH6 := Lib.hid hH6
  clear hb6 ht6 hG6 hH6 HP HG4 HH4 HB4 hG4 hH4
  unfold ndV
  dsimp only
  go_wp2
  go_light
  have hF := laid (x := x) (B := B) (cap := cap6) (k := 0) (q := 0) HG6.out HH6.out HB6.out HT6.out rfl
  rw [HV.out]
  exact bodyPost_ret (ret_tree Tryz.results61 rfl rfl hF.1 hF.2.1) rfl ⟨B, cap6, rfl, hF.2.2.1, hc6, hF.2.2.2⟩
theorem text_set (A : Option Addr) (cap : Nat) (bs : List Nat) (w : World) (hA : BytesAt w w.heap.size A bs) (hcap : bs.length ≤ cap) {y : Lex} (hs : splitS bs = .ok [y]) (h1 : y.kind = 1) :
  Calls Tryz.prog 61 #[.slice A bs.length cap] w (TreeOut (parseS bs) w) := by
 have hr : rightS y = true := (splitS_right hA.1 hs).1 0 y rfl
 have hx := one_leaf hr h1
 have HV := Lib.hid (show parseS bs = .ok (leafN (maskOf y.set)) by unfold parseS; rw [hs]; exact hx)
 obtain ⟨L, hL⟩ : ∃ L, L = [y] := ⟨_, rfl⟩
 have HLy := Lib.hid hL
 rw [← hL] at hs hx
 have HX := Lib.hid hx
 have hlen : L.length = 1 := by rw [hL]; rfl
 clear hL
 have hd : ((L.length : Int) == 1) = true := by rw [beq_iff_eq]; omega
 have hd0 : (0 : Int) < (L.length : Int) := by omega
 have hy : L[0]? = some y := by rw [HLy.out]; rfl
 have Hy := Lib.hid hy
 clear hlen hy hr hx
 have hL65 := (splitS_right hA.1 hs).2.2
 have hb2 : Below w.heap.size w ((w.alloc (.cells #[.int .i64 0, .int .u64 0, .int .u64 0, .int .u64 0, .int .u64 0, .slice none 0 0, .int .i64 0, .int .i64 0] 28)).alloc (.cells #[.int .i64 0, .int .i64 0] 77)) := ((Below.refl _ _).alloc (Nat.le_refl _) _).alloc (by simp) _
 have HB2 := Lib.hid hb2
 have HG2 := Lib.hid (show Blk ((w.alloc (.cells #[.int .i64 0, .int .u64 0, .int .u64 0, .int .u64 0, .int .u64 0, .slice none 0 0, .int .i64 0, .int .i64 0] 28)).alloc (.cells #[.int .i64 0, .int .i64 0] 77)) w.heap.size 28 _ from (Blk.new w 28 #[.int .i64 0, .int .u64 0, .int .u64 0, .int .u64 0, .int .u64 0, .slice none 0 0, .int .i64 0, .int .i64 0]).alloc _)
 have HH2 := Lib.hid (show Blk ((w.alloc (.cells #[.int .i64 0, .int .u64 0, .int .u64 0, .int .u64 0, .int .u64 0, .slice none 0 0, .int .i64 0, .int .i64 0] 28)).alloc (.cells #[.int .i64 0, .int .i64 0] 77)) (w.heap.size + 1) 77 #[.int .i64 0, .int .i64 0] from Blk.new_at (by simp))
 have h1 := split_go A cap bs _ ((hA.below hb2).more (by simp; omega)) hcap
 rw [hs] at h1
 have H1 := Lib.hid h1
 clear hb2 hA h1
 go_enter Tryz.func61, Tryz.ntmps61
 go_wp2_with fail
 refine H1.out.mono ?_
 rintro e w3 ⟨v, rfl, hb3, hrow3⟩
 obtain ⟨A3, cap3, rfl⟩ := own_slice hrow3
 have hb4 : Below w3.heap.size w3 (w3.alloc (.cells #[.int .i64 0, .int .i64 0] 77)) := (Below.refl _ _).alloc (Nat.le_refl _) _
 have HB4 := Lib.hid (HB2.out.trans ((hb3.trans (hb4.mono hb3.size)).mono HB2.out.size))
 have hG4 := (HG2.out.below hb3 HG2.out.lt).alloc (.cells #[.int .i64 0, .int .i64 0] 77)
 have hH4 := (HH2.out.below hb3 HH2.out.lt).alloc (.cells #[.int .i64 0, .int .i64 0] 77)
 have hc3 := own_room hrow3 rfl
 have HL4 := Lib.hid (((lexRow_of hrow3).at.below hb4).more hb4.size)
 have hsz4 : w.heap.size + 2 < (w3.alloc (.cells #[.int .i64 0, .int .i64 0] 77)).heap.size := by have := hb3.size; simp at this ⊢; omega
 have HG4 := Lib.hid hG4
 have HH4 := Lib.hid hH4
 clear hb3 hrow3 hb4 H1 HB2 HG2 HH2
 dsimp only
 obtain ⟨b4, o4, rfl, hbl4, hc4⟩ := HL4.out (by omega)
 obtain ⟨q0, _, q2, q3, q4, q5, _⟩ := hc4 0 y Hy.out
 simp only [Nat.zero_mul, Nat.add_zero] at q0 q2 q3 q4 q5
 rw [h1] at q0
 have q3' : (w3.alloc (.cells #[.int .i64 0, .int .i64 0] 77)).cell? ⟨b4, o4 + 2 + 1, none⟩ = some (.int .u64 (word y.set 1)) := q3
 have q4' : (w3.alloc (.cells #[.int .i64 0, .int .i64 0] 77)).cell? ⟨b4, o4 + 2 + 2, none⟩ = some (.int .u64 (word y.set 2)) := q4
 have q5' : (w3.alloc (.cells #[.int .i64 0, .int .i64 0] 77)).cell? ⟨b4, o4 + 2 + 3, none⟩ = some (.int .u64 (word y.set 3)) := q5
 clear hc4 hG4 hH4
 go_wp2_with fail
 refine (count_go y.set _).mono ?_
 rintro e w5 ⟨rfl, hb5⟩
 have hG5 := HG4.out.below hb5 HG4.out.lt
 have hH5 := HH4.out.below hb5 HH4.out.lt
 have HB5 := Lib.hid (HB4.out.trans (hb5.mono (by omega)))
 have HL5 := Lib.hid ((HL4.out.below hb5).more hb5.size)
 have hsz5 := hb5.size
 have q2 := (hb5.cell (p := ⟨b4, o4 + 2, none⟩) hbl4).trans q2
 have q3' := (hb5.cell (p := ⟨b4, o4 + 2 + 1, none⟩) hbl4).trans q3'
 have q4' := (hb5.cell (p := ⟨b4, o4 + 2 + 2, none⟩) hbl4).trans q4'
 have q5' := (hb5.cell (p := ⟨b4, o4 + 2 + 3, none⟩) hbl4).trans q5'
 have HG5 := Lib.hid hG5
 have HH5 := Lib.hid hH5
 clear hb5 hG5 hH5 HB4 HG4 HH4 HL4 q0
 dsimp only
 by_cases hcn : cnt y.set 256 = 1
 ·rw [hcn]
  clear hcn
  go_wp2_with fail
  refine (tbytes_any y.set _).mono ?_
  rintro e w6 ⟨rfl, hb6⟩
  have hG6 := HG5.out.below hb6 HG5.out.lt
  have hH6 := HH5.out.below hb6 HH5.out.lt
  have HB6 := Lib.hid (HB5.out.trans (hb6.mono (by omega)))
  have HT6 : Hid (TreesAt w6 (fun b => w.heap.size + 2 ≤ b) (leafN (maskOf y.set)).kids none) := Lib.hid trivial
  have y0 : w6.cell? ⟨w.heap.size, 0, none⟩ = some (.int .i64 0) := hG6.cell 0
  have y1 : w6.cell? ⟨w.heap.size, 1, none⟩ = some (.int .u64 0) := hG6.cell 1
  have y2 : w6.cell? ⟨w.heap.size, 2, none⟩ = some (.int .u64 0) := hG6.cell 2
  have y3 : w6.cell? ⟨w.heap.size, 3, none⟩ = some (.int .u64 0) := hG6.cell 3
  have y4 : w6.cell? ⟨w.heap.size, 4, none⟩ = some (.int .u64 0) := hG6.cell 4
  have y5 : w6.cell? ⟨w.heap.size, 5, none⟩ = some (.slice none 0 0) := hG6.cell 5
  have y6 : w6.cell? ⟨w.heap.size, 6, none⟩ = some (.int .i64 0) := hG6.cell 6
  have y7 : w6.cell? ⟨w.heap.size, 7, none⟩ = some (.int .i64 0) := hG6.cell 7
  have z0 := hG6.frozen 0
  have z1 := hG6.frozen 1
  have z2 := hG6.frozen 2
  have z3 := hG6.frozen 3
  have z4 := hG6.frozen 4
  have z5 := hG6.frozen 5
  have z6 := hG6.frozen 6
  have z7 := hG6.frozen 7
  obtain ⟨b0, b1, f0, f1⟩ := hH6.c2
  have HG6 := Lib.hid hG6
  have HH6 := Lib.hid hH6
  clear hb6 hG6 hH6 HG5 HH5 HB5
  have hv3 : ndV (leafN (maskOf y.set)) none 0 = .agg #[.int .i64 3, .int .u64 ((word ((maskOf y.set).testBit) 0 : Nat) : Int), .int .u64 ((word ((maskOf y.set).testBit) 1 : Nat) : Int), .int .u64 ((word ((maskOf y.set).testBit) 2 : Nat) : Int), .int .u64 ((word ((maskOf y.set).testBit) 3 : Nat) : Int), .slice none 0 0, .int .i64 0, .int .i64 0] := rfl
  rw [hv3]
  clear hv3
  dsimp only
  go_wp2
  go_light
  have hF := laid (x := leafN (maskOf y.set)) (B := none) (cap := 0) (k := 0) (q := 0) HG6.out HH6.out HB6.out HT6.out rfl
  rw [HV.out]
  exact bodyPost_ret (ret_tree Tryz.results61 rfl rfl hF.1 hF.2.1) rfl ⟨none, 0, rfl, hF.2.2.1, Nat.le_refl _, hF.2.2.2⟩
 ·have hd2 : (((cnt y.set 256 : Nat) : Int) == 1) = false := by rw [beq_eq_false_iff_ne]; omega
  clear hcn
  have hP := lexemes_go _ cap3 L _ HL5.out (by omega) hc3
  rw [HX.out] at hP
  have HP := Lib.hid hP
  clear hP
  go_wp2_with fail
  refine HP.out.mono ?_
  rintro e w6 ⟨B, cap6, rfl, hb6, hc6, ht6⟩
  have hG6 := HG5.out.below hb6 HG5.out.lt
  have hH6 := HH5.out.below hb6 HH5.out.lt
  have HB6 := Lib.hid (HB5.out.trans (hb6.mono (by omega)))
  have HT6 := Lib.hid (ht6.weak (Q := fun b => w.heap.size + 2 ≤ b) (fun b hb _ => by omega))
  have y0 : w6.cell? ⟨w.heap.size, 0, none⟩ = some (.int .i64 0) := hG6.cell 0
  have y1 : w6.cell? ⟨w.heap.size, 1, none⟩ = some (.int .u64 0) := hG6.cell 1
  have y2 : w6.cell? ⟨w.heap.size, 2, none⟩ = some (.int .u64 0) := hG6.cell 2
  have y3 : w6.cell? ⟨w.heap.size, 3, none⟩ = some (.int .u64 0) := hG6.cell 3
  have y4 : w6.cell? ⟨w.heap.size, 4, none⟩ = some (.int .u64 0) := hG6.cell 4
  have y5 : w6.cell? ⟨w.heap.size, 5, none⟩ = some (.slice none 0 0) := hG6.cell 5
  have y6 : w6.cell? ⟨w.heap.size, 6, none⟩ = some (.int .i64 0) := hG6.cell 6
  have y7 : w6.cell? ⟨w.heap.size, 7, none⟩ = some (.int .i64 0) := hG6.cell 7
  have z0 := hG6.frozen 0
  have z1 := hG6.frozen 1
  have z2 := hG6.frozen 2
  have z3 := hG6.frozen 3
  have z4 := hG6.frozen 4
  have z5 := hG6.frozen 5
  have z6 := hG6.frozen 6
  have z7 := hG6.frozen 7
  obtain ⟨b0, b1, f0, f1⟩ := hH6.c2
  have HG6 := Lib.hid hG6
  have HH6 := Lib.hid hH6
  clear hb6 ht6 hG6 hH6 HP HG5 HH5 HB5
  unfold ndV
  dsimp only
  go_wp2
  go_light
  have hF := laid (x := leafN (maskOf y.set)) (B := B) (cap := cap6) (k := 0) (q := 0) HG6.out HH6.out HB6.out HT6.out rfl
  rw [HV.out]
  exact bodyPost_ret (ret_tree Tryz.results61 rfl rfl hF.1 hF.2.1) rfl ⟨B, cap6, rfl, hF.2.2.1, hc6, hF.2.2.2⟩
theorem splitF_kind {bs : List Nat} (hb : ∀ x ∈ bs, x < 256) : ∀ {f i : Nat} {L : List Lex} {k q : Int}, bs.length < f + i → i ≤ bs.length → splitF bs f i L = .error (k, q) → k ≠ 0
 | 0, i, L, k, q, hf, hi, h => by omega
 | f + 1, i, L, k, q, hf, hi, h => by
  rcases Nat.lt_or_ge i bs.length with h1 | h1
  ·cases hx : lexS bs i with
   | error e =>
    obtain ⟨a, b⟩ := e
    rw [splitF_bad h1 hx] at h
    cases h
    exact lexS_err hb hx
   | ok x =>
    obtain ⟨x, j⟩ := x
    have hj := lexS_some hb h1 hx
    rw [splitF_ok h1 hx] at h
    exact splitF_kind hb (by omega) hj.2 h
  ·rw [splitF_end h1] at h; cases h
theorem splitS_kind {bs : List Nat} (hb : ∀ x ∈ bs, x < 256) {k q : Int} (h : splitS bs = .error (k, q)) : k ≠ 0 := by
 rcases Nat.lt_or_ge 65536 bs.length with h1 | h1
 ·rw [splitS_long h1] at h
  cases h
  decide
 ·rw [splitS_go h1] at h
  exact splitF_kind hb (by omega) (Nat.zero_le _) h
theorem text_go07 (A : Option Addr) (cap : Nat) (bs : List Nat) (w : World) (hA : BytesAt w w.heap.size A bs) (hcap : bs.length ≤ cap) :
  Calls Tryz.prog 61 #[.slice A bs.length cap] w (TreeOut (parseS bs) w) := by
 cases hs : splitS bs with
 | error x =>
  obtain ⟨k, q⟩ := x
  exact text_bad A cap bs w hA hcap hs (splitS_kind hA.1 hs)
 | ok L =>
  by_cases h1 : L.length = 1
  ·obtain ⟨y, rfl⟩ := List.length_eq_one_iff.1 h1
   by_cases hk : y.kind = 1
   ·exact text_set A cap bs w hA hcap hs hk
   ·exact text_sign A cap bs w hA hcap hs hk
  ·exact text_many A cap bs w hA hcap hs h1
end Go.Proofs.YtofbfafnpdaejaaGreatDoor
namespace Go.Proofs.YtofbfafnpdaejaaGreatDoor
set_option linter.unusedSimpArgs false
set_option linter.unusedVariables false
set_option maxRecDepth 100000
set_option maxHeartbeats 8000000
end Go.Proofs.YtofbfafnpdaejaaGreatDoor
namespace Go.Proofs.YtofbfafnpdaejaaGreatDoor
open Go.RowKit
set_option linter.unusedSimpArgs false
set_option linter.unusedVariables false
set_option maxRecDepth 100000
set_option maxHeartbeats 8000000
theorem bytes_strM {w : World} {B : Nat} {A : Option Addr} {bs : List Nat} (cap : Nat) (h : BytesAt w B A bs) : (convert 29 9 (.slice A bs.length cap)).run Tryz.prog w = .ok (.string (strOf bs)) w := by
 by_cases h0 : bs = []
 ·subst h0
  cases A with
  | none =>
   rw [run_convert_bytes_string w _ _ 5 none _ _ Tryz.underlying29 Tryz.underlying5 Tryz.underlying9]
   rfl
  | some a => exact run_str w a cap [] (fun j u hu => by simp at hu)
 ·obtain ⟨b, o, rfl, _, hc⟩ := h.2.2 (List.length_pos_iff.2 h0)
  refine run_str w ⟨b, o, none⟩ cap bs (fun j u hu => ?_)
  have hj : j < bs.length := by
   rcases Nat.lt_or_ge j bs.length with h1 | h1
   ·exact h1
   ·rw [List.getElem?_eq_none (by simpa using h1)] at hu; cases hu
  rw [addr_plusR, hc j hj]
  rw [List.getElem?_map, List.getElem?_eq_getElem hj] at hu
  rw [← byteAt_get hj]
  simpa using hu
@[go_sem] theorem sum_field1 (a b c d e f g h i j k : Value) (w : World) : (Instr.field 121 (.agg #[a, b, c, d, e, f, g, h, i, j, k]) 1).run Tryz.prog w = .ok b w := by kernel_rfl
def WordOut (bs : List Nat) (w : World) (e : Ending) (w' : World) : Prop := ∃ A k, e = .returned (.slice A bs.length k) ∧ BytesAt w' w'.heap.size A bs ∧ Below w.heap.size w w' ∧ (0 < bs.length → ∀ a, A = some a → w.heap.size ≤ a.block)
theorem u8_wrap {c : Nat} (h : c < 256) : IntKind.u8.wrap (c : Int) = (c : Int) := by rw [IntKind.wrap_u8]; omega
theorem least_leaf (x : Nd) (c : Nat) (l0 : List Nat) (hk : x.kind = 3) (hc : elems x.set.testBit 256 = c :: l0) (hc2 : c < 256) (B : Option Addr) (cap : Nat) (w : World) (hT : TabAt 0 Lib.deBruijn64tab w) (hw0 : 0 < w.heap.size) :
  Calls Tryz.prog 106 #[ndV x B cap] w (WordOut [c] w) := by
 have hb : Below w.heap.size w (w.alloc (.cells #[.int .i64 x.kind, .int .u64 (word x.set.testBit 0), .int .u64 (word x.set.testBit 1), .int .u64 (word x.set.testBit 2), .int .u64 (word x.set.testBit 3), .slice B x.kids.len cap, .int .i64 x.lo, .int .i64 x.hi] 28)) := (Below.refl _ _).alloc (Nat.le_refl _) _
 have HB := Lib.hid hb
 have HN := Lib.hid (Blk.new w 28 #[.int .i64 x.kind, .int .u64 (word x.set.testBit 0), .int .u64 (word x.set.testBit 1), .int .u64 (word x.set.testBit 2), .int .u64 (word x.set.testBit 3), .slice B x.kids.len cap, .int .i64 x.lo, .int .i64 x.hi])
 have HC := Lib.hid (leastl_go x.set.testBit c l0 hc _ (TabAt.below hb hw0 hT) (Nat.lt_of_lt_of_le hw0 hb.size))
 have hwr := u8_wrap hc2
 have HC2 := Lib.hid hc2
 clear hb hT hw0 hc
 unfold ndV
 rw [hk] at HN HB HC ⊢
 go_enter Tryz.func106, Tryz.ntmps106
 go_upto_region 1 with fail
 generalize w.alloc (.cells #[.int .i64 3, .int .u64 (word x.set.testBit 0), .int .u64 (word x.set.testBit 1), .int .u64 (word x.set.testBit 2), .int .u64 (word x.set.testBit 3), .slice B x.kids.len cap, .int .i64 x.lo, .int .i64 x.hi] 28) = w2 at *
 have n0 := HN.out.cell 0
 have n1 := HN.out.cell 1
 have n2 := HN.out.cell 2
 have n3 := HN.out.cell 3
 have n4 := HN.out.cell 4
 have hln := HN.out.lt
 simp only [List.getElem?_toArray, List.getElem?_cons_zero, List.getElem?_cons_succ] at n0 n1 n2 n3 n4
 clear hc2
 go_wp2_with fail
 refine HC.out.mono ?_
 rintro e w3 ⟨rfl, hb3⟩
 have HB3 := Lib.hid ((HB.out.trans (hb3.mono HB.out.size)).alloc (by have := HB.out.size; have := hb3.size; omega) (.cells #[.int .u8 (c : Int)] 5))
 have HS := Lib.hid (show w.heap.size ≤ w3.heap.size from Nat.le_trans HB.out.size hb3.size)
 have HA := Lib.hid (bytes_new w3 w3.heap.size [c] #[.int .u8 (c : Int)] (0, 0) rfl rfl (by simpa using HC2.out) (by simp))
 clear hb3 HC n0 n1 n2 n3 n4 hln
 dsimp only
 go_wp2
 go_light
 go_ret
 exact ⟨_, _, rfl, HA.out, HB3.out, fun _ a e => by cases e; exact HS.out⟩
theorem info_word : (Tryz.prog.info? 124).map (fun i => (i.zero, i.size, i.bytes)) = some (some (.slice none 0 0), 1, 24) := by kernel_rfl
theorem least_alt (x : Nd) (bs : List Nat) (hk : x.kind = 5) (B : Option Addr) (cap : Nat) (w : World) (hC : ∀ W, Below w.heap.size w W → Calls Tryz.prog 153 #[.slice B x.kids.len cap] W (WordOut bs W)) :
  Calls Tryz.prog 106 #[ndV x B cap] w (WordOut bs w) := by
 have hb : Below w.heap.size w (w.alloc (.cells #[.int .i64 x.kind, .int .u64 (word x.set.testBit 0), .int .u64 (word x.set.testBit 1), .int .u64 (word x.set.testBit 2), .int .u64 (word x.set.testBit 3), .slice B x.kids.len cap, .int .i64 x.lo, .int .i64 x.hi] 28)) := (Below.refl _ _).alloc (Nat.le_refl _) _
 have HB := Lib.hid hb
 have HN := Lib.hid (Blk.new w 28 #[.int .i64 x.kind, .int .u64 (word x.set.testBit 0), .int .u64 (word x.set.testBit 1), .int .u64 (word x.set.testBit 2), .int .u64 (word x.set.testBit 3), .slice B x.kids.len cap, .int .i64 x.lo, .int .i64 x.hi])
 have HC := Lib.hid (hC _ hb)
 clear hb hC
 unfold ndV
 rw [hk] at HN HB HC ⊢
 go_enter Tryz.func106, Tryz.ntmps106
 go_upto_region 1 with fail
 generalize w.alloc (.cells #[.int .i64 5, .int .u64 (word x.set.testBit 0), .int .u64 (word x.set.testBit 1), .int .u64 (word x.set.testBit 2), .int .u64 (word x.set.testBit 3), .slice B x.kids.len cap, .int .i64 x.lo, .int .i64 x.hi] 28) = w2 at *
 have n0 := (HN.out).cell 0
 have n1 := (HN.out).cell 1
 have n2 := (HN.out).cell 2
 have n3 := (HN.out).cell 3
 have n4 := (HN.out).cell 4
 have n5 := (HN.out).cell 5
 have n6 := (HN.out).cell 6
 have n7 := (HN.out).cell 7
 have hln := (HN.out).lt
 simp only [List.getElem?_toArray, List.getElem?_cons_zero, List.getElem?_cons_succ] at n0 n1 n2 n3 n4 n5 n6 n7
 go_wp2_with fail
 refine HC.out.mono ?_
 rintro e w3 ⟨A3, k3, rfl, hA3, hb3, hn3⟩
 have HNW := Lib.hid (show 0 < bs.length → ∀ a, A3 = some a → w.heap.size ≤ a.block from fun h a e => Nat.le_trans HB.out.size (hn3 h a e))
 have HB3 := Lib.hid (HB.out.trans (hb3.mono HB.out.size))
 clear hn3
 have HA3 := Lib.hid hA3
 clear hb3 hA3 HC
 clear n0 n1 n2 n3 n4 n5 n6 n7 hln
 dsimp only
 go_wp2
 go_light
 go_ret
 exact ⟨_, _, rfl, HA3.out, HB3.out, HNW.out⟩
theorem least_plus (x z : Nd) (bs : List Nat) (hk : x.kind = 7) (hz : x.kids.list[0]? = some z) (hk1 : x.kids.len = 1) (P : Nat → Prop) (B : Option Addr) (cap : Nat) (w : World) (ht : TreesAt w P x.kids B)
  (hC : ∀ W C capc, Below w.heap.size w W → TreesAt W P z.kids C → Calls Tryz.prog 106 #[ndV z C capc] W (WordOut bs W)) :
  Calls Tryz.prog 106 #[ndV x B cap] w (WordOut bs w) := by
 have hb : Below w.heap.size w (w.alloc (.cells #[.int .i64 x.kind, .int .u64 (word x.set.testBit 0), .int .u64 (word x.set.testBit 1), .int .u64 (word x.set.testBit 2), .int .u64 (word x.set.testBit 3), .slice B x.kids.len cap, .int .i64 x.lo, .int .i64 x.hi] 28)) := (Below.refl _ _).alloc (Nat.le_refl _) _
 have HB := Lib.hid hb
 have HN := Lib.hid (Blk.new w 28 #[.int .i64 x.kind, .int .u64 (word x.set.testBit 0), .int .u64 (word x.set.testBit 1), .int .u64 (word x.set.testBit 2), .int .u64 (word x.set.testBit 3), .slice B x.kids.len cap, .int .i64 x.lo, .int .i64 x.hi])
 have HT := Lib.hid (ht.below hb)
 have HCC := Lib.hid hC
 have HK1 := Lib.hid hk1
 clear hb hC ht hk1
 unfold ndV
 rw [hk] at HN HB HT ⊢
 go_enter Tryz.func106, Tryz.ntmps106
 go_upto_region 1 with fail
 generalize w.alloc (.cells #[.int .i64 7, .int .u64 (word x.set.testBit 0), .int .u64 (word x.set.testBit 1), .int .u64 (word x.set.testBit 2), .int .u64 (word x.set.testBit 3), .slice B x.kids.len cap, .int .i64 x.lo, .int .i64 x.hi] 28) = w2 at *
 have hk1 := HK1.out
 obtain ⟨b, o, C, capc, rfl, _, _, ⟨c0, c1, c2, c3, c4, c5, c6, c7⟩, hkz⟩ := HT.out.get hz
 simp only [Nat.zero_mul, Nat.add_zero] at c0 c1 c2 c3 c4 c5 c6 c7
 have hblk := World.block_lt_of_cell? w2 _ c0
 have HC := Lib.hid (HCC.out w2 C capc HB.out hkz)
 unfold ndV at HC
 clear hkz hz
 have n0 := (HN.out).cell 0
 have n1 := (HN.out).cell 1
 have n2 := (HN.out).cell 2
 have n3 := (HN.out).cell 3
 have n4 := (HN.out).cell 4
 have n5 := (HN.out).cell 5
 have n6 := (HN.out).cell 6
 have n7 := (HN.out).cell 7
 have hln := (HN.out).lt
 simp only [List.getElem?_toArray, List.getElem?_cons_zero, List.getElem?_cons_succ] at n0 n1 n2 n3 n4 n5 n6 n7
 go_wp2_with fail
 refine HC.out.mono ?_
 rintro e w3 ⟨A3, k3, rfl, hA3, hb3, hn3⟩
 have HNW := Lib.hid (show 0 < bs.length → ∀ a, A3 = some a → w.heap.size ≤ a.block from fun h a e => Nat.le_trans HB.out.size (hn3 h a e))
 have HB3 := Lib.hid (HB.out.trans (hb3.mono HB.out.size))
 clear hn3
 have HA3 := Lib.hid hA3
 clear hb3 hA3 HC c0 c1 c2 c3 c4 c5 c6 c7 hblk
 clear n0 n1 n2 n3 n4 n5 n6 n7 hln
 dsimp only
 go_wp2
 go_light
 go_ret
 exact ⟨_, _, rfl, HA3.out, HB3.out, HNW.out⟩
theorem u8_lt {a b : Nat} (ha : a < 256) (hb : b < 256) : (UInt8.ofNat a < UInt8.ofNat b) ↔ a < b := by
 rw [UInt8.lt_iff_toNat_lt, UInt8.toNat_ofNat', UInt8.toNat_ofNat', Nat.mod_eq_of_lt (by simpa using ha), Nat.mod_eq_of_lt (by simpa using hb)]
theorem u8_eq {a b : Nat} (ha : a < 256) (hb : b < 256) : (UInt8.ofNat a = UInt8.ofNat b) ↔ a = b := by
 rw [← UInt8.toNat_inj, UInt8.toNat_ofNat', UInt8.toNat_ofNat', Nat.mod_eq_of_lt (by simpa using ha), Nat.mod_eq_of_lt (by simpa using hb)]
theorem less_map : ∀ (a b : List Nat), (∀ c ∈ a, c < 256) → (∀ c ∈ b, c < 256) → Op.bytesLess (a.map UInt8.ofNat) (b.map UInt8.ofNat) = lexLt a b
 | [], [], _, _ => rfl
 | [], _ :: _, _, _ => rfl
 | _ :: _, [], _, _ => rfl
 | a :: x, b :: y, ha, hb => by
  have ih := less_map x y (fun c hc => ha c (by simp [hc])) (fun c hc => hb c (by simp [hc]))
  have h1 := ha a (by simp)
  have h2 := hb b (by simp)
  simp only [List.map_cons, Op.bytesLess, lexLt, ih]
  rw [show decide (UInt8.ofNat a < UInt8.ofNat b) = decide (a < b) from decide_eq_decide.2 (u8_lt h1 h2), show (UInt8.ofNat a == UInt8.ofNat b) = (a == b) by rw [Bool.eq_iff_iff]; simp [u8_eq h1 h2]]
theorem strOf_data (l : List Nat) : (strOf l).data.toList = l.map UInt8.ofNat := by simp [strOf]
theorem less_str {a b : List Nat} (ha : ∀ c ∈ a, c < 256) (hb : ∀ c ∈ b, c < 256) : Op.bytesLess (strOf a).toList (strOf b).toList = lexLt a b := by
 rw [ByteArray.toList_eq, ByteArray.toList_eq, strOf_data, strOf_data, less_map a b ha hb]
theorem cmp_map : ∀ (a b : List Nat), (∀ c ∈ a, c < 256) → (∀ c ∈ b, c < 256) → (Lib.compareBytes (a.map UInt8.ofNat) (b.map UInt8.ofNat) < 0 ↔ lexLt a b = true)
 | [], [], _, _ => by simp [Lib.compareBytes, lexLt]
 | [], _ :: _, _, _ => by simp [Lib.compareBytes, lexLt]
 | _ :: _, [], _, _ => by simp [Lib.compareBytes, lexLt]
 | a :: x, b :: y, ha, hb => by
  have ih := cmp_map x y (fun c hc => ha c (by simp [hc])) (fun c hc => hb c (by simp [hc]))
  have h1 := ha a (by simp)
  have h2 := hb b (by simp)
  simp only [List.map_cons, Lib.compareBytes, lexLt, u8_lt h1 h2, u8_lt h2 h1]
  rcases Nat.lt_trichotomy a b with h | h | h
  ·simp [h]
  ·subst h
   simp [ih]
  ·have h3 : ¬ a < b := by omega
   have h4 : a ≠ b := by omega
   simp [h, h3, h4]
theorem run_bytesOf {w : World} {B : Nat} {A : Option Addr} {bs : List Nat} (cap : Nat) (h : BytesAt w B A bs) : (Extern.Bytes.bytesOf (.slice A bs.length cap)).run Tryz.prog w = .ok (strOf bs) w := by
 cases A with
 | none =>
  have : bs = [] := by
   by_cases h0 : bs = []
   ·exact h0
   ·obtain ⟨b, o, e, _⟩ := h.2.2 (List.length_pos_iff.2 h0)
    cases e
  subst this
  rfl
 | some a =>
  have hl := Lib.run_loadBytesX (P := Tryz.prog) w (bs.map fun n : Nat => (n : Int)) a .empty (fun j x hj => by
   rw [List.getElem?_map] at hj
   have hjl : j < bs.length := by
    rcases Nat.lt_or_ge j bs.length with h1 | h1
    ·exact h1
    ·rw [List.getElem?_eq_none h1] at hj; cases hj
   obtain ⟨b, o, e, _, hc⟩ := h.2.2 (by omega)
   cases e
   have e2 : (⟨b, o, none⟩ : Addr).add j = ⟨b, o + j, none⟩ := by unfold Addr.add; split <;> simp_all
   rw [e2, hc j hjl]
   rw [List.getElem?_eq_getElem hjl] at hj
   simp only [Option.map_some, Option.some.injEq] at hj
   rw [← hj]
   unfold byteAt
   simp [List.getD, hjl])
  rw [List.length_map] at hl
  show (Extern.Bytes.loadBytes a bs.length .empty).run Tryz.prog w = _
  rw [hl]
  congr 1
  apply ByteArray.ext
  unfold strOf
  show (#[] : Array UInt8) ++ (Lib.bytesOf (bs.map fun n : Nat => (n : Int))).toArray = (bs.map UInt8.ofNat).toArray
  simp [Lib.bytesOf, Function.comp_def]
theorem run_bcompare {w : World} {B C : Nat} {A A' : Option Addr} {us bs : List Nat} (cap cap' : Nat) (h : BytesAt w B A us) (h' : BytesAt w C A' bs) :
  ∃ r : Int, (Extern.BytealgCompare.compare #[.slice A us.length cap, .slice A' bs.length cap']).run Tryz.prog w = .ok (.int .i64 r) w ∧ (r < 0 ↔ lexLt us bs = true) := by
 refine ⟨Lib.compareBytes (strOf us).data.toList (strOf bs).data.toList, ?_, by rw [strOf_data, strOf_data]; exact cmp_map us bs h.1 h'.1⟩
 change Sem.run Tryz.prog (do pure (goInt (Extern.BytealgCompare.cmp (← Extern.Bytes.bytesOf (.slice A us.length cap)) (← Extern.Bytes.bytesOf (.slice A' bs.length cap'))))) w = _
 simp only [Sem.run_bind, run_bytesOf cap h, run_bytesOf cap' h', Sem.run_pure, Result.andThen]
 rw [Lib.cmp_eq]
 rfl
theorem isnan_go (a : Int) (w : World) : Calls Tryz.prog 241 #[.int .i64 a] w fun e w' => e = .returned (.bool false) ∧ w = w' := by
 have hk : (a != a) = false := by simp
 go_enter Tryz.func241, Tryz.ntmps241
 go_wp2
 go_ret
 exact ⟨rfl, rfl⟩
def cmpI (a b : Int) : Int := if a < b then -1 else if b < a then 1 else 0
theorem cmpi_go (a b : Int) (w : World) : Calls Tryz.prog 220 #[.int .i64 a, .int .i64 b] w fun e w' => e = .returned (.int .i64 (cmpI a b)) ∧ w = w' := by
 go_enter Tryz.func220, Tryz.ntmps220
 go_wp2_with fail
 refine (isnan_go a _).mono ?_
 rintro e w1 ⟨rfl, rfl⟩
 dsimp only
 go_wp2_with fail
 refine (isnan_go b _).mono ?_
 rintro e w1 ⟨rfl, rfl⟩
 dsimp only
 by_cases h1 : a < b
 ·have HV := Lib.hid (show cmpI a b = -1 by unfold cmpI; rw [if_pos h1])
  go_wp2
  go_ret
  exact ⟨by rw [HV.out]; rfl, rfl⟩
 ·by_cases h2 : b < a
  ·have HV := Lib.hid (show cmpI a b = 1 by unfold cmpI; rw [if_neg h1, if_pos h2])
   go_wp2
   go_ret
   exact ⟨by rw [HV.out]; rfl, rfl⟩
  ·have HV := Lib.hid (show cmpI a b = 0 by unfold cmpI; rw [if_neg h1, if_neg h2])
   go_wp2
   go_ret
   exact ⟨by rw [HV.out]; rfl, rfl⟩
def orI (a b : Int) : Int := if a = 0 then b else a
theorem or_go (g cap : Nat) (a b : Int) (w : World) (c0 : w.cell? ⟨g, 0, none⟩ = some (.int .i64 a)) (c1 : w.cell? ⟨g, 1, none⟩ = some (.int .i64 b)) :
  Calls Tryz.prog 219 #[.slice (some ⟨g, 0, none⟩) 2 cap] w fun e w' => e = .returned (.int .i64 (orI a b)) ∧ w = w' := by
 by_cases h0 : a = 0
 ·subst h0
  have HV := Lib.hid (show orI 0 b = b from if_pos rfl)
  by_cases h1 : b = 0
  ·subst h1
   go_enter Tryz.func219, Tryz.ntmps219
   go_wp2
   refine wp_loop_rounds 3 ?_
   rw [rounds_succ]
   go_wp2
   rw [rounds_succ]
   go_wp2
   rw [rounds_succ]
   go_wp2
   go_ret
   exact ⟨by rw [HV.out]; rfl, rfl⟩
  ·have h2 : (b != 0) = true := by simpa using h1
   clear h1
   go_enter Tryz.func219, Tryz.ntmps219
   go_wp2
   refine wp_loop_rounds 3 ?_
   rw [rounds_succ]
   go_wp2
   rw [rounds_succ]
   go_wp2
   go_ret
   exact ⟨by rw [HV.out]; rfl, rfl⟩
 ·have HV := Lib.hid (show orI a b = a from if_neg h0)
  have h2 : (a != 0) = true := by simpa using h0
  clear h0
  go_enter Tryz.func219, Tryz.ntmps219
  go_wp2
  refine wp_loop_rounds 3 ?_
  rw [rounds_succ]
  go_wp2
  go_ret
  exact ⟨by rw [HV.out]; rfl, rfl⟩
theorem bcmp_go {w : World} {B C : Nat} {A A' : Option Addr} {us bs : List Nat} (cap cap' : Nat) (h : BytesAt w B A us) (h' : BytesAt w C A' bs) :
  Calls Tryz.prog 221 #[.slice A us.length cap, .slice A' bs.length cap'] w fun e w' => (∃ r : Int, e = .returned (.int .i64 r) ∧ (r < 0 ↔ lexLt us bs = true)) ∧ w = w' := by
 obtain ⟨r, hr, h2⟩ := run_bcompare cap cap' h h'
 have HR := Lib.hid hr
 have HE := Lib.hid h2
 clear h h' hr h2
 generalize us.length = n at *
 generalize bs.length = m at *
 go_enter Tryz.func221, Tryz.ntmps221
 go_wp2
 rw [run_callFunc_extern Tryz.func242 (by kernel_rfl) (by kernel_rfl) (by kernel_rfl) (e := Extern.BytealgCompare.compare) (by kernel_rfl), HR.out]
 simp only [Result.andThen]
 rw [Oper.upon_value]
 go_wp2
 go_ret
 exact ⟨⟨r, rfl, HE.out⟩, rfl⟩
theorem cmp_less {us bs : List Nat} {r : Int} (h : r < 0 ↔ lexLt us bs = true) : orI (cmpI us.length bs.length) r < 0 ↔ lessW us bs = true := by
 rcases Nat.lt_trichotomy us.length bs.length with h1 | h1 | h1
 ·rw [show cmpI us.length bs.length = -1 by unfold cmpI; rw [if_pos (by omega)]]
  simp [orI, lessW, h1]
 ·rw [h1, show cmpI bs.length bs.length = 0 by unfold cmpI; rw [if_neg (by omega), if_neg (by omega)]]
  simp [orI, lessW, h1, h]
 ·rw [show cmpI us.length bs.length = 1 by unfold cmpI; rw [if_neg (by omega), if_pos (by omega)]]
  have h2 : ¬ us.length < bs.length := by omega
  have h3 : us.length ≠ bs.length := by omega
  simp [orI, lessW, h2, h3]
theorem compare_go {w : World} {B C : Nat} {A A' : Option Addr} {us bs : List Nat} (cap cap' : Nat) (h : BytesAt w B A us) (h' : BytesAt w C A' bs) :
  Calls Tryz.prog 182 #[.slice A us.length cap, .slice A' bs.length cap'] w fun e w' => (∃ r : Int, e = .returned (.int .i64 r) ∧ (r < 0 ↔ lessW us bs = true)) ∧ Below w.heap.size w w' := by
 have HC := Lib.hid (bcmp_go cap cap' h h')
 have HL := Lib.hid (fun (r : Int) (hr : r < 0 ↔ lexLt us bs = true) => cmp_less hr)
 clear h h'
 generalize hn : us.length = n at *
 generalize hm : bs.length = m at *
 clear hn hm
 go_enter Tryz.func182, Tryz.ntmps182
 go_wp2_with fail
 refine (cmpi_go _ _ _).mono ?_
 rintro e w1 ⟨rfl, rfl⟩
 dsimp only
 generalize cmpI (n : Int) (m : Int) = q at *
 go_wp2_with fail
 refine HC.out.mono ?_
 rintro e w1 ⟨⟨r, rfl, hr⟩, rfl⟩
 have HQ := Lib.hid (HL.out r hr)
 clear hr HC HL
 have hb : Below w.heap.size w (w.alloc (.cells #[.int .i64 q, .int .i64 r] 3)) := (Below.refl _ _).alloc (Nat.le_refl _) _
 have HB := Lib.hid hb
 have HO := Lib.hid (fun cp => or_go w.heap.size cp q r (w.alloc (.cells #[.int .i64 q, .int .i64 r] 3)) ((Blk.new w 3 #[.int .i64 q, .int .i64 r]).cell 0) ((Blk.new w 3 #[.int .i64 q, .int .i64 r]).cell 1))
 clear hb
 dsimp only
 go_wp2_with fail
 refine (HO.out _).mono ?_
 rintro e w1 ⟨rfl, rfl⟩
 dsimp only
 go_wp2
 go_light
 go_ret
 exact ⟨⟨_, rfl, HQ.out⟩, HB.out⟩
def WordIs (w : World) (Q : Nat → Prop) (v : Value) (bs : List Nat) : Prop := ∃ A cap, v = .slice A bs.length cap ∧ BytesAt w w.heap.size A bs ∧ (0 < bs.length → ∀ a, A = some a → Q a.block)
def WordsAre (w : World) (Q : Nat → Prop) : List Value → List (List Nat) → Prop
 | [], [] => True
 | v :: vs, bs :: L => WordIs w Q v bs ∧ WordsAre w Q vs L
 | _, _ => False
theorem WordIs.keep {w w' : World} {Q Q' : Nat → Prop} {v : Value} {bs : List Nat} (hs : w.heap.size ≤ w'.heap.size) (hk : ∀ b, Q b → b < w.heap.size → w'.heap[b]? = w.heap[b]? ∧ Q' b) (h : WordIs w Q v bs) : WordIs w' Q' v bs := by
 obtain ⟨A, cap, hv, hb, hq⟩ := h
 refine ⟨A, cap, hv, ⟨hb.1, hb.2.1, fun hp => ?_⟩, fun hp a ha => ?_⟩
 ·obtain ⟨b, o, e, hl, hc⟩ := hb.2.2 hp
  have := (hk b (hq hp _ e) hl).1
  exact ⟨b, o, e, by omega, fun i hi => (World.cell?_of_block this).trans (hc i hi)⟩
 ·obtain ⟨b, o, e, hl, hc⟩ := hb.2.2 hp
  rw [ha] at e
  cases e
  exact (hk _ (hq hp _ ha) hl).2
theorem WordsAre.keep {w w' : World} {Q Q' : Nat → Prop} (hs : w.heap.size ≤ w'.heap.size) (hk : ∀ b, Q b → b < w.heap.size → w'.heap[b]? = w.heap[b]? ∧ Q' b) : ∀ {vs : List Value} {L : List (List Nat)}, WordsAre w Q vs L → WordsAre w' Q' vs L
 | [], [], _ => trivial
 | v :: vs, bs :: L, ⟨h, h2⟩ => ⟨h.keep hs hk, h2.keep hs hk⟩
 | [], _ :: _, h => h.elim
 | _ :: _, [], h => h.elim
theorem WordsAre.below {w w' : World} {Q : Nat → Prop} (hb : Below w.heap.size w w') {vs : List Value} {L : List (List Nat)} (h : WordsAre w Q vs L) : WordsAre w' Q vs L := h.keep hb.size fun b hq hl => ⟨hb.block b hl, hq⟩
theorem WordsAre.snoc {w : World} {Q : Nat → Prop} {v : Value} {bs : List Nat} (h : WordIs w Q v bs) : ∀ {vs : List Value} {L : List (List Nat)}, WordsAre w Q vs L → WordsAre w Q (vs ++ [v]) (L ++ [bs])
 | [], [], _ => ⟨h, trivial⟩
 | u :: vs, cs :: L, ⟨h1, h2⟩ => ⟨h1, h2.snoc h⟩
 | [], _ :: _, h => h.elim
 | _ :: _, [], h => h.elim
theorem WordsAre.get {w : World} {Q : Nat → Prop} : ∀ {vs : List Value} {L : List (List Nat)} {i : Nat} {bs : List Nat}, WordsAre w Q vs L → L[i]? = some bs → ∃ A cap, vs[i]? = some (.slice A bs.length cap) ∧ BytesAt w w.heap.size A bs ∧ (0 < bs.length → ∀ a, A = some a → Q a.block)
 | [], [], i, bs, _, h => by simp at h
 | v :: vs, b :: L, 0, bs, ⟨⟨A, cap, hv, h1⟩, h2⟩, h => by
  simp at h
  subst h
  exact ⟨A, cap, by rw [hv]; rfl, h1⟩
 | v :: vs, b :: L, i + 1, bs, ⟨_, h2⟩, h => by
  obtain ⟨A, cap, h3, h4⟩ := h2.get (i := i) (by simpa using h)
  exact ⟨A, cap, by simpa using h3, h4⟩
 | [], _ :: _, _, _, h, _ => h.elim
 | _ :: _, [], _, _, h, _ => h.elim
def WordFrom (Q : Nat → Prop) (bs : List Nat) (w : World) (e : Ending) (w' : World) : Prop := ∃ A k, e = .returned (.slice A bs.length k) ∧ BytesAt w' w'.heap.size A bs ∧ Below w.heap.size w w' ∧ (0 < bs.length → ∀ a, A = some a → Q a.block)
theorem minf_go (g cap : Nat) (vs : List Value) (L : List (List Nat)) (w : World) (h0 : L ≠ []) (hl : L.length ≤ 2000000) (Q : Nat → Prop) (hW : WordsAre w Q vs L) (hc : ∀ j u, vs[j]? = some u → w.cell? ⟨g, j, none⟩ = some u) :
  Calls Tryz.prog 181 #[.slice (some ⟨g, 0, none⟩) L.length cap, .func (.func 182) #[] #[]] w (WordFrom Q (minW L) w) := by
 have hp : 0 < L.length := List.length_pos_iff.2 h0
 obtain ⟨b0, hb0⟩ : ∃ b, L[0]? = some b := ⟨_, List.getElem?_eq_getElem hp⟩
 obtain ⟨A0, k0, hv0, hA0, hq0⟩ := hW.get hb0
 have HQ0 := Lib.hid hq0
 clear hq0
 have c0 := hc 0 _ hv0
 have HW := Lib.hid hW
 have HC := Lib.hid hc
 have HA0 := Lib.hid hA0
 have hgl := World.block_lt_of_cell? w _ c0
 have H1 := Lib.hid (show minW (L.take 1) = b0 by
  cases L with
  | nil => exact absurd rfl h0
  | cons a l => simp at hb0; subst hb0; rfl)
 have hnz : ¬ ((L.length : Int) < 1) := by omega
 clear hW hc h0 hv0 hA0 hb0
 go_enter Tryz.func181, Tryz.ntmps181
 go_wp2
 go_loopw [5, 6] (fun u i wr => ∃ (k : Nat) (A : Option Addr) (cp : Nat), i = .int .i64 (k : Int) ∧ 1 ≤ k ∧ k ≤ L.length ∧ u = .slice A (minW (L.take k)).length cp ∧ Hid (BytesAt wr wr.heap.size A (minW (L.take k))) ∧ Hid (0 < (minW (L.take k)).length → ∀ a, A = some a → Q a.block) ∧ Hid (Below w.heap.size w wr)) (fun _ i _ => L.length - (intOf i).toNat)
 case atStart => exact ⟨1, A0, k0, rfl, Nat.le_refl _, by omega, by rw [H1.out], Lib.hid (by rw [H1.out]; exact HA0.out), Lib.hid (by rw [H1.out]; exact HQ0.out), Lib.hid (Below.refl _ _)⟩
 case round =>
  clear c0 HA0 HQ0 H1 hnz
  obtain ⟨k, A, cp, rfl, hk1, hk, rfl, HB, HQ, HS⟩ := hrel
  by_cases hlt : k < L.length
  ·obtain ⟨bs, hbs⟩ : ∃ b, L[k]? = some b := ⟨_, List.getElem?_eq_getElem hlt⟩
   obtain ⟨A', k', hv', hA', hq'⟩ := HW.out.get hbs
   have HQ' := Lib.hid hq'
   clear hq'
   have ck := (HS.out.cell (p := ⟨g, k, none⟩) hgl).trans (HC.out k _ hv')
   have hgr : g < wr.heap.size := Nat.lt_of_lt_of_le hgl HS.out.size
   have HP := Lib.hid (compare_go k' cp ((hA'.below HS.out).more HS.out.size) HB.out)
   have HN := Lib.hid ((hA'.below HS.out).more HS.out.size)
   have HM := Lib.hid (minW_get (by omega) hbs)
   have hdl : (k : Int) < (L.length : Int) := by omega
   clear hbs hv' hA'
   generalize minW (L.take k) = m at *
   generalize hml : m.length = ml at *
   generalize hbl : bs.length = bl at *
   have HML := Lib.hid hml
   have HBL := Lib.hid hbl
   clear hml hbl
   go_wp2_with fail
   refine HP.out.mono ?_
   rintro e w2 ⟨⟨r, rfl, hr⟩, hb2⟩
   have HB2 := Lib.hid ((HB.out.below hb2).more hb2.size)
   have HN2 := Lib.hid ((HN.out.below hb2).more hb2.size)
   have HS2 := Lib.hid (HS.out.trans (hb2.mono HS.out.size))
   have ck2 := (hb2.cell (p := ⟨g, k, none⟩) hgr).trans ck
   have hgr2 : g < w2.heap.size := Nat.lt_of_lt_of_le hgr hb2.size
   clear hb2 ck HP HB HN
   dsimp only
   by_cases hrn : r < 0
   ·have HM2 := Lib.hid (show minW (L.take (k + 1)) = bs by rw [HM.out]; unfold stepW; rw [if_pos (hr.1 hrn)])
    clear hr
    go_wp2
    go_light
    go_roundw
    case rel => exact ⟨k + 1, A', k', by go_num, by omega, by omega, by rw [HM2.out, HBL.out], Lib.hid (by rw [HM2.out]; exact HN2.out), Lib.hid (by rw [HM2.out, HBL.out]; exact HQ'.out), HS2⟩
    case measure => simp [intOf]; omega
   ·have HM2 := Lib.hid (show minW (L.take (k + 1)) = m by rw [HM.out]; unfold stepW; rw [if_neg (fun h => hrn (hr.2 h))])
    clear hr
    go_wp2
    go_light
    go_roundw
    case rel => exact ⟨k + 1, A, cp, by go_num, by omega, by omega, by rw [HM2.out, HML.out], Lib.hid (by rw [HM2.out]; exact HB2.out), Lib.hid (by rw [HM2.out, HML.out]; exact HQ.out), HS2⟩
    case measure => simp [intOf]; omega
  ·have hdl : ¬ (k : Int) < (L.length : Int) := by omega
   obtain rfl : k = L.length := by omega
   rw [List.take_length] at HB HQ ⊢
   go_wp2
   go_light
   go_ret
   exact ⟨_, _, rfl, HB.out, HS.out, HQ.out⟩
theorem own_bytesat {w : World} {base : Nat} {v : Value} {bs : List Nat} (h : w.ownsRow base 5 1 v bs.length (bs.map (fun n : Nat => Value.int .u8 (n : Int)))) (h256 : ∀ c ∈ bs, c < 256) (hl : bs.length ≤ 140737488355328) :
  ∃ A cap, v = .slice A bs.length cap ∧ BytesAt w w.heap.size A bs ∧ ∀ a, A = some a → base ≤ a.block := by
 rcases h.2 with ⟨rfl, h0⟩ | ⟨g, cap, cur, e, _, _, _⟩
 ·have : bs = [] := List.length_eq_zero_iff.1 h0
  subst this
  exact ⟨none, 0, rfl, ⟨(fun c hc => by cases hc), hl, (fun h => absurd h (by decide))⟩, (fun a e => by cases e)⟩
 ·subst e
  refine ⟨_, cap, rfl, ⟨h256, hl, fun _ => ⟨g, 0, rfl, (h.lt g rfl).2, fun i hi => ?_⟩⟩, fun a e => by cases e; exact (h.lt g rfl).1⟩
  have := h.cells (g := g) rfl i (.int .u8 ((byteAt bs i : Nat) : Int)) (by
   rw [List.getElem?_map, List.getElem?_eq_getElem hi]
   unfold byteAt
   simp [List.getD, hi])
  have e2 : (⟨g, 0, none⟩ : Addr).add i = ⟨g, 0 + i, none⟩ := by unfold Addr.add; split <;> simp_all
  rw [← e2]
  exact this
theorem append_own_bytes (w : World) (base : Nat) (v : Value) (acc : List Nat) (hown : w.ownsRow base 5 1 v acc.length (acc.map (fun n : Nat => Value.int .u8 (n : Int)))) {N : Nat} {A : Option Addr} (c : Nat) {bs : List Nat} (hA : BytesAt w N A bs) (hs : acc.length + bs.length ≤ 100000000000) (hbase : base ≤ w.heap.size)
  (t ty : TypeId) (ht : Tryz.prog.underlying t = some (.slice 5)) :
  ∃ v' w', (Builtin.append_ #[t, t] ty #[v, .slice A bs.length c]).run Tryz.prog w = .ok v' w' ∧ w'.ownsRow base 5 1 v' (acc ++ bs).length ((acc ++ bs).map (fun n : Nat => Value.int .u8 (n : Int))) ∧ w.grownBy w' v.ownBlock := by
 obtain ⟨i0, hi, hz0, hz1, hz2⟩ := info_parts byte_info
 have h63 : acc.length + bs.length ≤ maxLen := Nat.le_trans hs (by decide)
 have hby : (acc.length + bs.length) * 1 ≤ 140737488355328 := by omega
 cases A with
 | none =>
  have h0 : bs = [] := by
   by_cases h0 : bs = []
   ·exact h0
   ·obtain ⟨b, o, e, _⟩ := hA.2.2 (List.length_pos_iff.2 h0)
    cases e
  subst h0
  refine ⟨v, w, ?_, by simpa using hown, ⟨rfl, rfl, rfl, Nat.le_refl _, fun _ _ _ => rfl⟩⟩
  rcases hown.2 with ⟨rfl, _⟩ | ⟨g, cap, cur, rfl, _, _, hnc, _⟩
  ·simp [Builtin.append_, run_underlying ht, sizeOf, typeInfo, hi, Builtin.lenOf, Builtin.firstCells]
  ·simp [Builtin.append_, run_underlying ht, sizeOf, typeInfo, hi, Builtin.lenOf, Builtin.firstCells, hnc, storeCells]
 | some a =>
  have hcells : ∀ j u, (bs.map (fun n : Nat => Value.int .u8 (n : Int)))[j]? = some u → w.cell? (a.add j) = some u := fun j u hj => by
   rw [List.getElem?_map] at hj
   have hjl : j < bs.length := by
    rcases Nat.lt_or_ge j bs.length with h1 | h1
    ·exact h1
    ·rw [List.getElem?_eq_none h1] at hj; cases hj
   obtain ⟨b, o, e, _, hc⟩ := hA.2.2 (by omega)
   cases e
   have e2 : (⟨b, o, none⟩ : Addr).add j = ⟨b, o + j, none⟩ := by unfold Addr.add; split <;> simp_all
   rw [e2, hc j hjl]
   rw [List.getElem?_eq_getElem hjl] at hj
   simp only [Option.map_some, Option.some.injEq] at hj
   rw [← hj]
   unfold byteAt
   simp [List.getD, hjl]
  obtain ⟨v', w', h1, h2, h3, _⟩ := run_append_own_at (P := Tryz.prog) w base t ty 5 i0 _ 1 1 ht hi hz0 hz1 hz2 rfl (by decide) v acc.length _ hown a bs.length c (bs.map (fun n : Nat => Value.int .u8 (n : Int))) (by simp) hcells (fun u hu => by obtain ⟨_, _, rfl⟩ := List.mem_map.1 hu; rfl) h63 hby hbase
  exact ⟨v', w', h1, by rw [List.length_append, List.map_append]; exact h2, h3⟩
def KidLe (F : Trees) (P : Nat → Prop) (w0 : World) : Prop := ∀ (i : Nat) (z : Nd) (C : Option Addr) (capc : Nat) (W : World), F.list[i]? = some z → z.sum.hollow = false → z.sum.short ≤ 2000 → Below w0.heap.size w0 W → TreesAt W P z.kids C →
 Calls Tryz.prog 106 #[ndV z C capc] W (WordOut z.least W)
theorem KidLe.later {F : Trees} {P : Nat → Prop} {w w2 : World} (h : KidLe F P w) (hb : Below w.heap.size w w2) : KidLe F P w2 := fun i z C capc W hz h1 h2 hW ht => h i z C capc W hz h1 h2 (hb.trans (hW.mono hb.size)) ht
theorem elems_full {s : Nat} (h : isNoSet s = false) : ∃ c l, elems s.testBit 256 = c :: l ∧ c < 256 := by
 cases he : elems s.testBit 256 with
 | cons c l => exact ⟨c, l, rfl, elems_lt (p := s.testBit) (m := 256) (by rw [he]; simp)⟩
 | nil =>
  exfalso
  have h0 : ∀ i, i < 4 → word s.testBit i = 0 := fun i hi => by
   rw [← word_none i]
   refine word_congr fun j hj => ?_
   cases hb : s.testBit (64 * i + j) with
   | false => rfl
   | true =>
    have : 64 * i + j ∈ elems s.testBit 256 := by
     unfold elems
     rw [List.mem_filter]
     exact ⟨by rw [List.mem_range]; omega, hb⟩
    rw [he] at this
    cases this
  unfold isNoSet at h
  simp [h0 0 (by decide), h0 1 (by decide), h0 2 (by decide), h0 3 (by decide)] at h
theorem word_nilout (w w' : World) (hb : Below w.heap.size w w') : WordOut [] w (.returned (.slice none 0 0)) w' := ⟨none, 0, rfl, ⟨(fun c hc => by cases hc), Nat.zero_le _, (fun h => absurd h (by decide))⟩, hb, (fun h => absurd h (by decide))⟩
theorem least_nil2 (x : Nd) (hk : x.kind = 2) (B : Option Addr) (cap : Nat) (w : World) :
  Calls Tryz.prog 106 #[ndV x B cap] w (WordOut [] w) := by
 have hb : Below w.heap.size w (w.alloc (.cells #[.int .i64 x.kind, .int .u64 (word x.set.testBit 0), .int .u64 (word x.set.testBit 1), .int .u64 (word x.set.testBit 2), .int .u64 (word x.set.testBit 3), .slice B x.kids.len cap, .int .i64 x.lo, .int .i64 x.hi] 28)) := (Below.refl _ _).alloc (Nat.le_refl _) _
 have HB := Lib.hid hb
 have HN := Lib.hid (Blk.new w 28 #[.int .i64 x.kind, .int .u64 (word x.set.testBit 0), .int .u64 (word x.set.testBit 1), .int .u64 (word x.set.testBit 2), .int .u64 (word x.set.testBit 3), .slice B x.kids.len cap, .int .i64 x.lo, .int .i64 x.hi])
 clear hb
 unfold ndV
 rw [hk] at HN HB ⊢
 go_enter Tryz.func106, Tryz.ntmps106
 go_upto_region 1 with fail
 generalize w.alloc (.cells #[.int .i64 2, .int .u64 (word x.set.testBit 0), .int .u64 (word x.set.testBit 1), .int .u64 (word x.set.testBit 2), .int .u64 (word x.set.testBit 3), .slice B x.kids.len cap, .int .i64 x.lo, .int .i64 x.hi] 28) = w2 at *
 obtain ⟨n0, n1, n2, n3, n4, n5, n6, n7⟩ := ((HN.out)).c8r
 have hln := (HN.out).lt
 go_wp2
 go_light
 go_ret
 exact word_nilout w w2 HB.out
theorem least_nil6 (x : Nd) (hk : x.kind = 6) (B : Option Addr) (cap : Nat) (w : World) :
  Calls Tryz.prog 106 #[ndV x B cap] w (WordOut [] w) := by
 have hb : Below w.heap.size w (w.alloc (.cells #[.int .i64 x.kind, .int .u64 (word x.set.testBit 0), .int .u64 (word x.set.testBit 1), .int .u64 (word x.set.testBit 2), .int .u64 (word x.set.testBit 3), .slice B x.kids.len cap, .int .i64 x.lo, .int .i64 x.hi] 28)) := (Below.refl _ _).alloc (Nat.le_refl _) _
 have HB := Lib.hid hb
 have HN := Lib.hid (Blk.new w 28 #[.int .i64 x.kind, .int .u64 (word x.set.testBit 0), .int .u64 (word x.set.testBit 1), .int .u64 (word x.set.testBit 2), .int .u64 (word x.set.testBit 3), .slice B x.kids.len cap, .int .i64 x.lo, .int .i64 x.hi])
 clear hb
 unfold ndV
 rw [hk] at HN HB ⊢
 go_enter Tryz.func106, Tryz.ntmps106
 go_upto_region 1 with fail
 generalize w.alloc (.cells #[.int .i64 6, .int .u64 (word x.set.testBit 0), .int .u64 (word x.set.testBit 1), .int .u64 (word x.set.testBit 2), .int .u64 (word x.set.testBit 3), .slice B x.kids.len cap, .int .i64 x.lo, .int .i64 x.hi] 28) = w2 at *
 obtain ⟨n0, n1, n2, n3, n4, n5, n6, n7⟩ := ((HN.out)).c8r
 have hln := (HN.out).lt
 go_wp2
 go_light
 go_ret
 exact word_nilout w w2 HB.out
theorem least_nil8 (x : Nd) (hk : x.kind = 8) (B : Option Addr) (cap : Nat) (w : World) :
  Calls Tryz.prog 106 #[ndV x B cap] w (WordOut [] w) := by
 have hb : Below w.heap.size w (w.alloc (.cells #[.int .i64 x.kind, .int .u64 (word x.set.testBit 0), .int .u64 (word x.set.testBit 1), .int .u64 (word x.set.testBit 2), .int .u64 (word x.set.testBit 3), .slice B x.kids.len cap, .int .i64 x.lo, .int .i64 x.hi] 28)) := (Below.refl _ _).alloc (Nat.le_refl _) _
 have HB := Lib.hid hb
 have HN := Lib.hid (Blk.new w 28 #[.int .i64 x.kind, .int .u64 (word x.set.testBit 0), .int .u64 (word x.set.testBit 1), .int .u64 (word x.set.testBit 2), .int .u64 (word x.set.testBit 3), .slice B x.kids.len cap, .int .i64 x.lo, .int .i64 x.hi])
 clear hb
 unfold ndV
 rw [hk] at HN HB ⊢
 go_enter Tryz.func106, Tryz.ntmps106
 go_upto_region 1 with fail
 generalize w.alloc (.cells #[.int .i64 8, .int .u64 (word x.set.testBit 0), .int .u64 (word x.set.testBit 1), .int .u64 (word x.set.testBit 2), .int .u64 (word x.set.testBit 3), .slice B x.kids.len cap, .int .i64 x.lo, .int .i64 x.hi] 28) = w2 at *
 obtain ⟨n0, n1, n2, n3, n4, n5, n6, n7⟩ := ((HN.out)).c8r
 have hln := (HN.out).lt
 go_wp2
 go_light
 go_ret
 exact word_nilout w w2 HB.out
theorem least_rep0 (x : Nd) (hk : x.kind = 9) (h0 : x.lo = 0) (B : Option Addr) (cap : Nat) (w : World) :
  Calls Tryz.prog 106 #[ndV x B cap] w (WordOut [] w) := by
 have hb : Below w.heap.size w (w.alloc (.cells #[.int .i64 x.kind, .int .u64 (word x.set.testBit 0), .int .u64 (word x.set.testBit 1), .int .u64 (word x.set.testBit 2), .int .u64 (word x.set.testBit 3), .slice B x.kids.len cap, .int .i64 x.lo, .int .i64 x.hi] 28)) := (Below.refl _ _).alloc (Nat.le_refl _) _
 have HB := Lib.hid hb
 have HN := Lib.hid (Blk.new w 28 #[.int .i64 x.kind, .int .u64 (word x.set.testBit 0), .int .u64 (word x.set.testBit 1), .int .u64 (word x.set.testBit 2), .int .u64 (word x.set.testBit 3), .slice B x.kids.len cap, .int .i64 x.lo, .int .i64 x.hi])
 clear hb
 unfold ndV
 rw [hk, h0] at HN HB ⊢
 go_enter Tryz.func106, Tryz.ntmps106
 go_upto_region 1 with fail
 generalize w.alloc (.cells #[.int .i64 9, .int .u64 (word x.set.testBit 0), .int .u64 (word x.set.testBit 1), .int .u64 (word x.set.testBit 2), .int .u64 (word x.set.testBit 3), .slice B x.kids.len cap, .int .i64 0, .int .i64 x.hi] 28) = w2 at *
 obtain ⟨n0, n1, n2, n3, n4, n5, n6, n7⟩ := ((HN.out)).c8r
 have hln := (HN.out).lt
 go_wp2
 go_light
 go_ret
 exact word_nilout w w2 HB.out
theorem flat_takeW {L : List (List Nat)} {k : Nat} {w : List Nat} (h : L[k]? = some w) : (L.take (k + 1)).flatten = (L.take k).flatten ++ w := by rw [List.take_add_one, h]; simp
theorem flat_part (L : List (List Nat)) (k : Nat) : (L.take k).flatten.length ≤ L.flatten.length := by
 conv => rhs; rw [← List.take_append_drop k L, List.flatten_append, List.length_append]
 omega
theorem leasts_get {F : Trees} {k : Nat} {z : Nd} (h : F.list[k]? = some z) : F.leasts[k]? = some z.least := by rw [F.leasts_list, List.getElem?_map, h]; rfl
theorem sums_getW {F : Trees} {k : Nat} {z : Nd} (h : F.list[k]? = some z) : F.sums[k]? = some z.sum := by rw [F.sums_list, List.getElem?_map, h]; rfl
theorem least_cat (x : Nd) (hk : x.kind = 4) (hl : x.kids.len ≤ 140737488355328) (hp : ∀ (i : Nat) z, x.kids.list[i]? = some z → z.sum.hollow = false ∧ z.sum.short ≤ 2000) (hlen : x.kids.leasts.flatten.length ≤ 2000)
  (P : Nat → Prop) (B : Option Addr) (cap : Nat) (w : World) (ht : TreesAt w P x.kids B) (hG : KidLe x.kids P w) :
  Calls Tryz.prog 106 #[ndV x B cap] w (WordOut x.kids.leasts.flatten w) := by
 have hb : Below w.heap.size w (w.alloc (.cells #[.int .i64 x.kind, .int .u64 (word x.set.testBit 0), .int .u64 (word x.set.testBit 1), .int .u64 (word x.set.testBit 2), .int .u64 (word x.set.testBit 3), .slice B x.kids.len cap, .int .i64 x.lo, .int .i64 x.hi] 28)) := (Below.refl _ _).alloc (Nat.le_refl _) _
 have HB := Lib.hid hb
 have HN := Lib.hid (Blk.new w 28 #[.int .i64 x.kind, .int .u64 (word x.set.testBit 0), .int .u64 (word x.set.testBit 1), .int .u64 (word x.set.testBit 2), .int .u64 (word x.set.testBit 3), .slice B x.kids.len cap, .int .i64 x.lo, .int .i64 x.hi])
 have HT := Lib.hid (ht.below hb)
 have HG := Lib.hid (hG.later hb)
 have HP := Lib.hid hp
 have HL := Lib.hid hlen
 have HFl := Lib.hid (Trees.len_list x.kids)
 have HLs := Lib.hid (fun (k : Nat) (z : Nd) (h : x.kids.list[k]? = some z) => leasts_get h)
 have HLl := Lib.hid (show x.kids.leasts.length = x.kids.len by rw [Trees.leasts_list, List.length_map, Trees.len_list])
 have H256 := Lib.hid (leasts_bytes x.kids)
 clear hb ht hG hp hlen
 unfold ndV
 rw [hk] at HN HB HT HG ⊢
 generalize x.kids.leasts = L at *
 generalize x.kids.len = fl at *
 go_enter Tryz.func106, Tryz.ntmps106
 go_upto_region 1 with fail
 generalize w.alloc (.cells #[.int .i64 4, .int .u64 (word x.set.testBit 0), .int .u64 (word x.set.testBit 1), .int .u64 (word x.set.testBit 2), .int .u64 (word x.set.testBit 3), .slice B fl cap, .int .i64 x.lo, .int .i64 x.hi] 28) = w2 at *
 obtain ⟨n0, n1, n2, n3, n4, n5, n6, n7⟩ := ((HN.out)).c8r
 have hln := (HN.out).lt
 go_wp2
 clear n0 n1 n2 n3 n4 n5 n6 n7 hln
 go_loopw [3, 20] (fun u i wr => ∃ k : Nat, i = .int .i64 (k : Int) ∧ k ≤ fl ∧ Hid (wr.ownsRow w2.heap.size 5 1 u ((L.take k).flatten).length (((L.take k).flatten).map (fun n : Nat => Value.int .u8 (n : Int)))) ∧ Hid (Below w2.heap.size w2 wr)) (fun _ i _ => fl - (intOf i).toNat)
 case atStart => exact ⟨0, rfl, Nat.zero_le _, Lib.hid (World.ownsRow_nil _ _ _ _), Lib.hid (Below.refl _ _)⟩
 case round =>
  obtain ⟨k, rfl, hk, HR, HW⟩ := hrel
  by_cases hlt : k < fl
  ·obtain ⟨z, hz⟩ : ∃ z, x.kids.list[k]? = some z := ⟨_, List.getElem?_eq_getElem (by rw [HFl.out]; exact hlt)⟩
   obtain ⟨b, o, C, capc, rfl, _, _, ⟨c0, c1, c2, c3, c4, c5, c6, c7⟩, hkz⟩ := (HT.out.below HW.out).get hz
   have hdl : (k : Int) < (fl : Int) := by omega
   have hb2 : Below wr.heap.size wr (wr.alloc (.cells #[.int .i64 z.kind, .int .u64 (word z.set.testBit 0), .int .u64 (word z.set.testBit 1), .int .u64 (word z.set.testBit 2), .int .u64 (word z.set.testBit 3), .slice C z.kids.len capc, .int .i64 z.lo, .int .i64 z.hi] 28)) := (Below.refl _ _).alloc (Nat.le_refl _) _
   obtain ⟨hz1, hz2⟩ := HP.out k z hz
   have HC := Lib.hid (HG.out k z C capc (wr.alloc (.cells #[.int .i64 z.kind, .int .u64 (word z.set.testBit 0), .int .u64 (word z.set.testBit 1), .int .u64 (word z.set.testBit 2), .int .u64 (word z.set.testBit 3), .slice C z.kids.len capc, .int .i64 z.lo, .int .i64 z.hi] 28)) hz hz1 hz2 (HW.out.trans (hb2.mono HW.out.size)) (hkz.below hb2))
   have HR2 := Lib.hid (HR.out.alloc (.cells #[.int .i64 z.kind, .int .u64 (word z.set.testBit 0), .int .u64 (word z.set.testBit 1), .int .u64 (word z.set.testBit 2), .int .u64 (word z.set.testBit 3), .slice C z.kids.len capc, .int .i64 z.lo, .int .i64 z.hi] 28))
   have HW2 := Lib.hid (HW.out.trans (hb2.mono HW.out.size))
   have hgz := HLs.out k z hz
   have HF := Lib.hid (flat_takeW hgz)
   have HFp := Lib.hid (flat_part L (k + 1))
   clear hz hz1 hz2 hkz hb2 hgz HR HW
   unfold ndV at HC
   generalize (L.take k).flatten = acc at *
   generalize z.least = bs at *
   go_wp2_with fail
   refine HC.out.mono ?_
   rintro e w4 ⟨A4, k4, rfl, hA4, hb4, _⟩
   have hR4 := own_below HR2.out hb4
   have HW4 := Lib.hid (HW2.out.trans (hb4.mono HW2.out.size))
   obtain ⟨v5, w5, hrun, hown5, hgrow5⟩ := append_own_bytes w4 w2.heap.size u3 acc hR4 k4 hA4 (by have := HFp.out; rw [HF.out, List.length_append] at this; have := HL.out; omega) HW4.out.size 124 124 Tryz.underlying124
   have HR5 := Lib.hid hown5
   have HW5 := Lib.hid (below_grown HW4.out hgrow5 hR4 (Nat.le_refl _) HW4.out.size)
   clear hR4 hown5 hgrow5 hA4 hb4 HC c0 c1 c2 c3 c4 c5 c6 c7
   dsimp only
   go_wp2_with (at_builtin; refine wpList_append_by rfl _ _ 124 124 rfl _ _ _ _ rfl rfl hrun ?_)
   clear hrun
   go_light
   go_roundw
   case rel => exact ⟨k + 1, by go_num, by omega, Lib.hid (by rw [HF.out]; exact HR5.out), HW5⟩
   case measure => simp [intOf]; omega
  ·have hdl : ¬ (k : Int) < (fl : Int) := by omega
   obtain rfl : k = fl := by omega
   have hta : L.take k = L := List.take_of_length_le (Nat.le_of_eq HLl.out)
   rw [hta] at HR
   have h6 := flat_bytes H256.out
   have hfl := HL.out
   clear HL H256 HP HG hta
   generalize L.flatten = fw at *
   obtain ⟨A5, cap5, rfl, h5, h7⟩ := own_bytesat HR.out h6 (by omega)
   have HN5 := Lib.hid (show ∀ a, A5 = some a → w.heap.size ≤ a.block from fun a e => Nat.le_trans HB.out.size (h7 a e))
   clear h7
   have HA5 := Lib.hid h5
   have HB5 := Lib.hid (HB.out.trans (HW.out.mono HB.out.size))
   clear HR h5 h6
   go_wp2
   go_light
   go_ret
   exact ⟨A5, cap5, rfl, HA5.out, HB5.out, fun _ => HN5.out⟩
theorem nodes_getW : ∀ {F : Trees} {k : Nat} {z : Nd}, F.list[k]? = some z → ∀ y ∈ z.nodes, y ∈ F.nodes
 | .nil, k, z, h, y, hy => by simp [Trees.list] at h
 | .cons a s ks lo hi r, 0, z, h, y, hy => by
  simp [Trees.list] at h
  subst h
  simp only [Nd.nodes, List.mem_cons] at hy
  simp only [Trees.nodes, List.mem_cons, List.mem_append]
  rcases hy with rfl | hy
  ·exact .inl rfl
  ·exact .inr (.inl hy)
 | .cons a s ks lo hi r, k + 1, z, h, y, hy => by
  have := nodes_getW (F := r) (k := k) (z := z) (by simpa [Trees.list] using h) y hy
  simp only [Trees.nodes, List.mem_cons, List.mem_append]
  exact .inr (.inr this)
def shortF (S : List SumS) : Int := S.foldl (fun m s => if 0 ≤ s.short then min m s.short else m) endF
theorem short_fold : ∀ (S : List SumS) (a : SumS) (m : Int), SumOk a → (∀ s ∈ S, SumOk s) → (m = if a.hollow = true then endF else a.short) → S.foldl (fun m s => if 0 ≤ s.short then min m s.short else m) m = if (S.foldl eitherF a).hollow = true then endF else (S.foldl eitherF a).short
 | [], a, m, _, _, h => h
 | s :: S, a, m, ha, hS, h => by
  rw [List.foldl_cons, List.foldl_cons]
  have hs := hS s (by simp)
  refine short_fold S _ _ (ok_either ha hs) (fun t ht => hS t (by simp [ht])) ?_
  have htop : topI < endF := by decide
  cases h1 : a.hollow with
  | true =>
   rw [h1, if_pos rfl] at h
   rw [either_left h1]
   cases h2 : s.hollow with
   | true =>
    have : s.short = -1 := by rw [hs.none h2]; rfl
    rw [if_neg (by omega), if_pos rfl, h]
   | false =>
    have := hs.short h2
    rw [if_pos this.1, if_neg (by decide), h]
    omega
  | false =>
   rw [h1, if_neg (by decide)] at h
   cases h2 : s.hollow with
   | true =>
    have : s.short = -1 := by rw [hs.none h2]; rfl
    rw [either_right h1 h2, if_neg (by omega), h1, if_neg (by decide), h]
   | false =>
    have := hs.short h2
    rw [either_full h1 h2, if_pos this.1, h]
    rfl
theorem shortF_eq {S : List SumS} (hS : ∀ s ∈ S, SumOk s) (h : (S.foldl eitherF nothingF).hollow = false) : shortF S = (S.foldl eitherF nothingF).short := by
 unfold shortF
 rw [short_fold S nothingF endF ok_nothing hS (by rfl), if_neg (by rw [h]; decide)]
theorem shortF_take {S : List SumS} {k : Nat} {s : SumS} (h : S[k]? = some s) : shortF (S.take (k + 1)) = if 0 ≤ s.short then min (shortF (S.take k)) s.short else shortF (S.take k) := by
 unfold shortF
 rw [take_snocS h, List.foldl_append]
 rfl
theorem pick_take {m : Int} : ∀ {S : List SumS} {L : List (List Nat)} {k : Nat} {s : SumS} {w : List Nat}, S[k]? = some s → L[k]? = some w → pick m (S.take (k + 1)) (L.take (k + 1)) = pick m (S.take k) (L.take k) ++ (if s.short = m then [w] else [])
 | [], _, k, s, w, h, _ => by simp at h
 | _ :: _, [], k, s, w, _, h => by simp at h
 | a :: S, b :: L, 0, s, w, h, h2 => by
  simp at h h2
  subst h h2
  simp [pick]
 | a :: S, b :: L, k + 1, s, w, h, h2 => by
  have ih := pick_take (m := m) (S := S) (L := L) (k := k) (s := s) (w := w) (by simpa using h) (by simpa using h2)
  simp only [List.take_succ_cons, pick]
  by_cases ha : a.short = m
  ·rw [if_pos ha, if_pos ha, ih, List.cons_append]
  ·rw [if_neg ha, if_neg ha, ih]
theorem leastOf_go (F : Trees) (hl : F.len ≤ 2000000) (hsz : F.size ≤ 140737488355327) (ho : ∀ y ∈ F.nodes, aloneN y = true) (hh : (F.sums.foldl eitherF nothingF).hollow = false) (h2 : (F.sums.foldl eitherF nothingF).short ≤ 2000)
  (P : Nat → Prop) (B : Option Addr) (cap : Nat) (w : World) (ht : TreesAt w P F B) (hG : KidLe F P w) :
  Calls Tryz.prog 153 #[.slice B F.len cap] w (WordOut (minW (pick (F.sums.foldl eitherF nothingF).short F.sums F.leasts)) w) := by
 have hS := ok_sums F ho
 obtain ⟨h0, ⟨t, ht1, ht2, ht3⟩, _⟩ := alt_short hS hh
 have HN := Lib.hid (pick_some F.sums F.leasts (leasts_len F ho) ⟨t, ht1, ht3⟩)
 have HSH := Lib.hid (shortF_eq hS hh)
 have HNO := Lib.hid (fun (s : SumS) (o : SumOk s) (h : s.short = (F.sums.foldl eitherF nothingF).short) => nothing_no o h0 h)
 have HT := Lib.hid ht
 have HG := Lib.hid hG
 have HO := Lib.hid (fun (k : Nat) (z : Nd) (hz : F.list[k]? = some z) (W : World) (C : Option Addr) (c : Nat) (h : TreesAt W P z.kids C) => of_go z P C c W (by have := Trees.size_get F k z hz; omega) (fun y hy => ho y (nodes_getW hz y hy)) h)
 have HOK := Lib.hid (fun (k : Nat) (z : Nd) (hz : F.list[k]? = some z) => ok_sum (x := z) (fun y hy => ho y (nodes_getW hz y hy)))
 have HFl := Lib.hid (Trees.len_list F)
 have HLs := Lib.hid (fun (k : Nat) (z : Nd) (h : F.list[k]? = some z) => leasts_get h)
 have HSs := Lib.hid (fun (k : Nat) (z : Nd) (h : F.list[k]? = some z) => sums_getW h)
 have HSl := Lib.hid (show F.sums.length = F.len by rw [Trees.sums_list, List.length_map, Trees.len_list])
 have HLl := Lib.hid (show F.leasts.length = F.len by rw [Trees.leasts_list, List.length_map, Trees.len_list])
 clear hS ht1 ht2 ht3 ht hG ho hh hsz
 generalize (F.sums.foldl eitherF nothingF).short = m at *
 generalize F.sums = S at *
 generalize F.leasts = L at *
 generalize F.len = fl at *
 have hpl : ∀ k, (pick m (S.take k) (L.take k)).length ≤ k := by
  have hp : ∀ (S : List SumS) (L : List (List Nat)), (pick m S L).length ≤ S.length := by
   intro S
   induction S with
   | nil => intro L; simp [pick]
   | cons s S ih =>
    intro L
    cases L with
    | nil => simp [pick]
    | cons v L =>
     rw [pick]
     have := ih L
     split <;> simp <;> omega
  exact fun k => Nat.le_trans (hp _ _) (by rw [List.length_take]; omega)
 have HPL := Lib.hid hpl
 clear hpl t
 obtain ⟨i0, hi, hz0, hz1, hz2⟩ := info_parts info_word
 go_enter Tryz.func153, Tryz.ntmps153
 go_wp2
 go_loopw [3, 12] (fun s i wr => ∃ k : Nat, i = .int .i64 (k : Int) ∧ k ≤ fl ∧ s = .int .i64 (shortF (S.take k)) ∧ Hid (Below w.heap.size w wr)) (fun _ i _ => fl - (intOf i).toNat)
 case atStart => exact ⟨0, rfl, Nat.zero_le _, rfl, Lib.hid (Below.refl _ _)⟩
 case round =>
  obtain ⟨k, rfl, hk, rfl, HW⟩ := hrel
  by_cases hlt : k < fl
  ·obtain ⟨z, hz⟩ : ∃ z, F.list[k]? = some z := ⟨_, List.getElem?_eq_getElem (by rw [HFl.out]; exact hlt)⟩
   obtain ⟨b, o, C, capc, rfl, _, _, ⟨c0, c1, c2, c3, c4, c5, c6, c7⟩, hkz⟩ := (HT.out.below HW.out).get hz
   have hdl : (k : Int) < (fl : Int) := by omega
   have hb2 : Below wr.heap.size wr (wr.alloc (.cells #[.int .i64 z.kind, .int .u64 (word z.set.testBit 0), .int .u64 (word z.set.testBit 1), .int .u64 (word z.set.testBit 2), .int .u64 (word z.set.testBit 3), .slice C z.kids.len capc, .int .i64 z.lo, .int .i64 z.hi] 28)) := (Below.refl _ _).alloc (Nat.le_refl _) _
   have HC := Lib.hid (HO.out k z hz (wr.alloc (.cells #[.int .i64 z.kind, .int .u64 (word z.set.testBit 0), .int .u64 (word z.set.testBit 1), .int .u64 (word z.set.testBit 2), .int .u64 (word z.set.testBit 3), .slice C z.kids.len capc, .int .i64 z.lo, .int .i64 z.hi] 28)) C capc (hkz.below hb2))
   have HW2 := Lib.hid (HW.out.trans (hb2.mono HW.out.size))
   have HF := Lib.hid (shortF_take (HSs.out k z hz))
   clear hz hkz hb2 HW
   unfold ndV at HC
   generalize shortF (S.take k) = q at *
   go_wp2_with fail
   refine HC.out.mono ?_
   rintro e w4 ⟨rfl, hb4⟩
   have HW4 := Lib.hid (HW2.out.trans (hb4.mono HW2.out.size))
   clear hb4 HC c0 c1 c2 c3 c4 c5 c6 c7
   unfold sumV sumA
   generalize z.sum.short = zs at *
   dsimp only
   by_cases hzs : 0 ≤ zs
   ·have HF2 := Lib.hid (HF.out.trans (if_pos hzs))
    go_wp2
    go_light
    go_roundw
    case rel => exact ⟨k + 1, by go_num, by omega, by rw [HF2.out], HW4⟩
    case measure => simp [intOf]; omega
   ·have HF2 := Lib.hid (HF.out.trans (if_neg hzs))
    have hzs2 : ¬ (0 : Int) ≤ zs := hzs
    go_wp2
    go_light
    go_roundw
    case rel => exact ⟨k + 1, by go_num, by omega, by rw [HF2.out], HW4⟩
    case measure => simp [intOf]; omega
  ·have hdl : ¬ (k : Int) < (fl : Int) := by omega
   obtain rfl : k = fl := by omega
   rw [List.take_of_length_le (Nat.le_of_eq HSl.out), HSH.out]
   have HW1 := HW
   clear HW HSH
   go_wp2
   go_loopw [7, 27] (fun u i wr => ∃ (j : Nat) (vs : List Value), i = .int .i64 (j : Int) ∧ j ≤ k ∧ Hid (wr.ownsRow w.heap.size 124 1 u (pick m (S.take j) (L.take j)).length vs) ∧ Hid (WordsAre wr (fun b => w.heap.size ≤ b ∧ some b ≠ u.ownBlock) vs (pick m (S.take j) (L.take j))) ∧ Hid (Below w.heap.size w wr)) (fun _ i _ => k - (intOf i).toNat)
   case atStart => exact ⟨0, [], rfl, Nat.zero_le _, Lib.hid (by simp only [List.take_zero]; exact World.ownsRow_nil _ _ _ _), Lib.hid trivial, HW1⟩
   case round =>
    clear HW1
    obtain ⟨j, vs, rfl, hj, HR, HV, HW⟩ := hrel
    by_cases hlt : j < k
    ·obtain ⟨z, hz⟩ : ∃ z, F.list[j]? = some z := ⟨_, List.getElem?_eq_getElem (by rw [HFl.out]; exact hlt)⟩
     obtain ⟨b, o, C, capc, rfl, _, _, ⟨c0, c1, c2, c3, c4, c5, c6, c7⟩, hkz⟩ := (HT.out.below HW.out).get hz
     have hdl : (j : Int) < (k : Int) := by omega
     have hb2 : Below wr.heap.size wr (wr.alloc (.cells #[.int .i64 z.kind, .int .u64 (word z.set.testBit 0), .int .u64 (word z.set.testBit 1), .int .u64 (word z.set.testBit 2), .int .u64 (word z.set.testBit 3), .slice C z.kids.len capc, .int .i64 z.lo, .int .i64 z.hi] 28)) := (Below.refl _ _).alloc (Nat.le_refl _) _
     have HC := Lib.hid (HO.out j z hz (wr.alloc (.cells #[.int .i64 z.kind, .int .u64 (word z.set.testBit 0), .int .u64 (word z.set.testBit 1), .int .u64 (word z.set.testBit 2), .int .u64 (word z.set.testBit 3), .slice C z.kids.len capc, .int .i64 z.lo, .int .i64 z.hi] 28)) C capc (hkz.below hb2))
     have HX := Lib.hid (Blk.new wr 28 #[.int .i64 z.kind, .int .u64 (word z.set.testBit 0), .int .u64 (word z.set.testBit 1), .int .u64 (word z.set.testBit 2), .int .u64 (word z.set.testBit 3), .slice C z.kids.len capc, .int .i64 z.lo, .int .i64 z.hi])
     have HW2 := Lib.hid (HW.out.trans (hb2.mono HW.out.size))
     have HR2 := Lib.hid (HR.out.alloc (.cells #[.int .i64 z.kind, .int .u64 (word z.set.testBit 0), .int .u64 (word z.set.testBit 1), .int .u64 (word z.set.testBit 2), .int .u64 (word z.set.testBit 3), .slice C z.kids.len capc, .int .i64 z.lo, .int .i64 z.hi] 28))
     have HV2 := Lib.hid (HV.out.below hb2)
     have HPT := Lib.hid (pick_take (m := m) (HSs.out j z hz) (HLs.out j z hz))
     have HZ := Lib.hid hz
     have HKZ := Lib.hid (hkz.below hb2)
     have hpj := HPL.out j
     clear hz hkz hb2 HW HR HV
     unfold ndV at HC
     generalize pick m (S.take j) (L.take j) = acc at *
     go_wp2_with fail
     refine HC.out.mono ?_
     rintro e w4 ⟨rfl, hb4⟩
     have HX4 := Lib.hid (HX.out.below hb4 HX.out.lt)
     have HW4 := Lib.hid (HW2.out.trans (hb4.mono HW2.out.size))
     have HR4 := Lib.hid (own_below HR2.out hb4)
     have HV4 := Lib.hid (HV2.out.below hb4)
     have HK4 := Lib.hid (HKZ.out.below hb4)
     clear hb4 HC c0 c1 c2 c3 c4 c5 c6 c7 HX HR2 HV2 HKZ HW2
     unfold sumV sumA
     by_cases hzs : z.sum.short = m
     ·have HC := Lib.hid (HG.out j z C capc w4 HZ.out (HNO.out _ (HOK.out j z HZ.out) hzs) (by omega) HW4.out HK4.out)
      have HP2 := Lib.hid (HPT.out.trans (by rw [if_pos hzs]))
      rw [hzs]
      clear hzs
      unfold ndV at HC
      obtain ⟨n0, n1, n2, n3, n4, n5, n6, n7⟩ := ((HX4.out)).c8r
      have hln := (HX4.out).lt
      dsimp only
      go_wp2_with fail
      refine HC.out.mono ?_
      rintro e w5 ⟨A5, k5, rfl, hA5, hb5, hn5⟩
      have hl4 := (HR4.out).lt
      have HWI := Lib.hid (show WordIs w5 (fun b => w.heap.size ≤ b ∧ some b ≠ u7.ownBlock) (.slice A5 z.least.length k5) z.least from ⟨A5, k5, rfl, hA5, fun h a e => ⟨Nat.le_trans HW4.out.size (hn5 h a e), fun e2 => by have := (hl4 _ e2.symm).2; have := hn5 h a e; omega⟩⟩)
      have HW5 := Lib.hid (HW4.out.trans (hb5.mono HW4.out.size))
      have HR5 := Lib.hid (own_below HR4.out hb5)
      have HV5 := Lib.hid (HV4.out.below hb5)
      have HA5 := Lib.hid hA5
      have hws5 : w.heap.size ≤ w5.heap.size := HW5.out.size
      clear n0 n1 n2 n3 n4 n5 n6 n7 hln
      have HL5 := Lib.hid (HR5.out).lt
      clear hb5 hA5 hn5 hl4 HC HR4 HV4 HW4 HK4 HX4
      have h63 : acc.length + 1 ≤ maxLen := Nat.le_trans (by omega) (show 4000000 ≤ maxLen by decide)
      have hby : (acc.length + 1) * 24 ≤ 140737488355328 := by omega
      generalize z.least = bs at *
      generalize hbl : bs.length = bl at *
      have HBL := Lib.hid hbl
      clear hbl
      dsimp only
      go_wp2_with (at_builtin; refine wpList_append_lies _ rfl _ _ 199 rfl w.heap.size 124 i0 _ 1 24 Tryz.underlying199 hi hz0 hz1 hz2 rfl (by decide) u7 acc.length vs rfl (HR5.out.alloc _) ⟨w5.heap.size, 0, none⟩ 1 1 [.slice A5 bl k5] rfl rfl (World.news_of_block (Blk.new_at (cs := #[.slice A5 bl k5]) (t := 124) (by simp))) (by simp [Value.oneCell']) (by decide) h63 hby (by simp; omega) (w5.heap.size + 1) (by simp) ?_; intro gg capg w6 hown6 hgrow6 hat6 hg6; have HO6 := Lib.hid hown6; have HG6 := Lib.hid hgrow6; have HT6 := Lib.hid hat6; clear hown6 hgrow6 hat6)
      have HV6 : Hid (WordsAre w6 (fun b => w.heap.size ≤ b ∧ some b ≠ (Value.slice (some ⟨gg, 0, none⟩) (acc.length + 1) capg).ownBlock) (vs ++ [.slice A5 bl k5]) (acc ++ [bs])) := Lib.hid (by
       have h6 : WordsAre w5 (fun b => w.heap.size ≤ b ∧ some b ≠ u7.ownBlock) (vs ++ [.slice A5 bl k5]) (acc ++ [bs]) := WordsAre.snoc HWI.out HV5.out
       have hsz := HG6.out.size
       refine h6.keep (by simp at hsz; omega) (fun b hq hl => ⟨?_, hq.1, fun e => ?_⟩)
       ·exact (HG6.out.block b (by simp; omega) hq.2).trans (Below.heap_alloc w5 _ b hl)
       ·have e' : b = gg := by simpa [Value.ownBlock] using e
        rcases HT6.out with hh | hh
        ·exact hq.2 (by rw [e', hh])
        ·omega)
      have HW6 := Lib.hid ((HW5.out.alloc hws5 _).grown HG6.out (by simp; omega) (fun k e => (HL5.out k e).1))
      clear HWI HV5 HG6 HT6 HR5 HW5 HL5 hg6 h63 hby
      go_light
      go_roundw
      case rel => exact ⟨j + 1, _, by go_num, by omega, Lib.hid (by rw [HP2.out, List.length_append]; exact HO6.out), Lib.hid (by rw [HP2.out]; exact HV6.out), HW6⟩
      case measure => simp [intOf]; omega
     ·have HP2 := Lib.hid (HPT.out.trans (by rw [if_neg hzs, List.append_nil]))
      have hzs2 : (z.sum.short == m) = false := by rw [beq_eq_false_iff_ne]; exact hzs
      clear hzs
      generalize z.sum.short = zs at *
      dsimp only
      go_wp2
      go_light
      go_roundw
      case rel => exact ⟨j + 1, vs, by go_num, by omega, Lib.hid (by rw [HP2.out]; exact HR4.out), Lib.hid (by rw [HP2.out]; exact HV4.out), HW4⟩
      case measure => simp [intOf]; omega
    ·have hdl : ¬ (j : Int) < (k : Int) := by omega
     obtain rfl : j = k := by omega
     rw [List.take_of_length_le (Nat.le_of_eq HSl.out), List.take_of_length_le (Nat.le_of_eq HLl.out)] at HR HV
     have hpj : (pick m S L).length ≤ 2000000 := by
      have := HPL.out j
      rw [List.take_of_length_le (Nat.le_of_eq HSl.out), List.take_of_length_le (Nat.le_of_eq HLl.out)] at this
      omega
     generalize pick m S L = acc at *
     obtain ⟨gq, cq, rfl, _, _⟩ := own_form HR.out (List.length_pos_iff.2 HN.out)
     have HC := Lib.hid (minf_go gq cq vs acc wr HN.out hpj _ HV.out (fun j u hu => by
      have := HR.out.cells (g := gq) rfl j u hu
      have e2 : (⟨gq, 0, none⟩ : Addr).add j = ⟨gq, 0 + j, none⟩ := by unfold Addr.add; split <;> simp_all
      rw [e2, Nat.zero_add] at this
      exact this))
     clear hpj
     go_wp2_with fail
     refine HC.out.mono ?_
     rintro e w7 ⟨A7, k7, rfl, hA7, hb7, hn7⟩
     have HA7 := Lib.hid hA7
     have HN7 := Lib.hid (show 0 < (minW acc).length → ∀ a, A7 = some a → w.heap.size ≤ a.block from fun h a e => (hn7 h a e).1)
     clear hn7
     have HB7 := Lib.hid (HW.out.trans (hb7.mono HW.out.size))
     clear hA7 hb7 HC
     generalize minW acc = mw at *
     dsimp only
     go_wp2
     go_light
     go_ret
     exact ⟨A7, k7, rfl, HA7.out, HB7.out, HN7.out⟩
theorem least_rep (x z : Nd) (n : Nat) (hk : x.kind = 9) (hlo : x.lo = (n : Int)) (h0 : 0 < n) (h1 : n ≤ 1000) (hz : x.kids.list[0]? = some z) (hk1 : x.kids.len = 1) (hT : z.least.length * n ≤ 8192) (P : Nat → Prop) (B : Option Addr) (cap : Nat) (w : World) (ht : TreesAt w P x.kids B)
  (hC : ∀ W C capc, Below w.heap.size w W → TreesAt W P z.kids C → Calls Tryz.prog 106 #[ndV z C capc] W (WordOut z.least W)) :
  Calls Tryz.prog 106 #[ndV x B cap] w (WordOut (repW n z.least) w) := by
 have hb : Below w.heap.size w (w.alloc (.cells #[.int .i64 x.kind, .int .u64 (word x.set.testBit 0), .int .u64 (word x.set.testBit 1), .int .u64 (word x.set.testBit 2), .int .u64 (word x.set.testBit 3), .slice B x.kids.len cap, .int .i64 x.lo, .int .i64 x.hi] 28)) := (Below.refl _ _).alloc (Nat.le_refl _) _
 have HB := Lib.hid hb
 have HN := Lib.hid (Blk.new w 28 #[.int .i64 x.kind, .int .u64 (word x.set.testBit 0), .int .u64 (word x.set.testBit 1), .int .u64 (word x.set.testBit 2), .int .u64 (word x.set.testBit 3), .slice B x.kids.len cap, .int .i64 x.lo, .int .i64 x.hi])
 have HT := Lib.hid (ht.below hb)
 have HCC := Lib.hid hC
 have HK1 := Lib.hid hk1
 have HTT := Lib.hid hT
 have hn0 : ((n : Int) == 0) = false := by rw [beq_eq_false_iff_ne]; omega
 clear hb hC ht hk1 hT
 unfold ndV
 rw [hk, hlo] at HN HB HT ⊢
 go_enter Tryz.func106, Tryz.ntmps106
 go_upto_region 1 with fail
 generalize w.alloc (.cells #[.int .i64 9, .int .u64 (word x.set.testBit 0), .int .u64 (word x.set.testBit 1), .int .u64 (word x.set.testBit 2), .int .u64 (word x.set.testBit 3), .slice B x.kids.len cap, .int .i64 (n : Int), .int .i64 x.hi] 28) = w2 at *
 have hk1 := HK1.out
 obtain ⟨b, o, C, capc, rfl, _, _, ⟨c0, c1, c2, c3, c4, c5, c6, c7⟩, hkz⟩ := HT.out.get hz
 simp only [Nat.zero_mul, Nat.add_zero] at c0 c1 c2 c3 c4 c5 c6 c7
 have hlb := World.block_lt_of_cell? w2 _ c0
 have HC := Lib.hid (fun (W : World) (hW : Below w2.heap.size w2 W) => HCC.out W C capc (HB.out.trans (hW.mono HB.out.size)) (hkz.below hW))
 unfold ndV at HC
 clear hkz hz
 obtain ⟨n0, n1, n2, n3, n4, n5, n6, n7⟩ := ((HN.out)).c8r
 have hln := (HN.out).lt
 generalize z.least = bs at *
 go_upto_region 19 with fail
 have hKl : ∀ b', (b' = w.heap.size ∨ b' = b) → b' < w2.heap.size := fun b' h => h.elim (fun e => e ▸ hln) (fun e => e ▸ hlb)
 refine wp_region_held_drew (S := fun w' => ∀ b' o', b' = w.heap.size ∨ b' = b → w'.cell? ⟨b', o', none⟩ = w2.cell? ⟨b', o', none⟩) (by kernel_rfl) (KeepP.start (fun b' => b' = w.heap.size ∨ b' = b) w2) (fun hHeld => ?_)
 refine wpAnyH_take (i := 0) (oi := _) (v := ?_) rfl (by kernel_rfl) (by kernel_rfl) (by kernel_rfl) (fun _ _ _ h => h) (Or.inl ⟨by kernel_rfl, ?_⟩) (by assumption) ?_
 rotate_left
 ·intro w hSw
  try dsimp only at hSw
  go_simp
  try (with_reducible rfl)
 try simp only [Act.put, List.getElem_toArray, List.getElem_cons_zero, List.getElem_cons_succ, List.setIfInBounds_toArray, List.set_cons_zero, List.set_cons_succ]
 refine wpAnyH_take (i := 1) (oi := _) (v := ?_) rfl (by kernel_rfl) (by kernel_rfl) (by kernel_rfl) (fun _ _ _ h => h) (Or.inl ⟨by kernel_rfl, ?_⟩) (by assumption) ?_
 rotate_left
 ·intro w hSw
  try dsimp only at hSw
  go_simp
  try (with_reducible rfl)
 try simp only [Act.put, List.getElem_toArray, List.getElem_cons_zero, List.getElem_cons_succ, List.setIfInBounds_toArray, List.set_cons_zero, List.set_cons_succ]
 refine wpAnyH_take (i := 2) (oi := _) (v := ?_) rfl (by kernel_rfl) (by kernel_rfl) (by kernel_rfl) (fun _ _ _ h => h) (Or.inl ⟨by kernel_rfl, ?_⟩) (by assumption) ?_
 rotate_left
 ·intro w hSw
  try dsimp only at hSw
  go_simp
  try (with_reducible rfl)
 try simp only [Act.put, List.getElem_toArray, List.getElem_cons_zero, List.getElem_cons_succ, List.setIfInBounds_toArray, List.set_cons_zero, List.set_cons_succ]
 refine wpAnyH_take (i := 3) (oi := _) (v := ?_) rfl (by kernel_rfl) (by kernel_rfl) (by kernel_rfl) (fun _ _ _ h => h) (Or.inl ⟨by kernel_rfl, ?_⟩) (by assumption) ?_
 rotate_left
 ·intro w hSw
  try dsimp only at hSw
  go_simp
  try (with_reducible rfl)
 try simp only [Act.put, List.getElem_toArray, List.getElem_cons_zero, List.getElem_cons_succ, List.setIfInBounds_toArray, List.set_cons_zero, List.set_cons_succ]
 refine wpAnyH_take (i := 5) (oi := _) (v := ?_) rfl (by kernel_rfl) (by kernel_rfl) (by kernel_rfl) (fun _ _ _ h => h) (Or.inl ⟨by kernel_rfl, ?_⟩) (by assumption) ?_
 rotate_left
 ·intro w hSw
  try dsimp only at hSw
  go_simp
  try (with_reducible rfl)
 try simp only [Act.put, List.getElem_toArray, List.getElem_cons_zero, List.getElem_cons_succ, List.setIfInBounds_toArray, List.set_cons_zero, List.set_cons_succ]
 refine wpAnyH_take (i := 6) (oi := _) (v := ?_) rfl (by kernel_rfl) (by kernel_rfl) (by kernel_rfl) (fun _ _ _ h => h) (Or.inl ⟨by kernel_rfl, ?_⟩) (by assumption) ?_
 rotate_left
 ·intro w hSw
  try dsimp only at hSw
  go_simp
  try (with_reducible rfl)
 try simp only [Act.put, List.getElem_toArray, List.getElem_cons_zero, List.getElem_cons_succ, List.setIfInBounds_toArray, List.set_cons_zero, List.set_cons_succ]
 refine wpAnyH_ready (rs := [4]) (by kernel_rfl) (by simp) ?_
 refine AllReadyH.cons (o := _) rfl (fun K hK => ?_) AllReadyH.nil
 go_simp
 go_at_call 106
 refine (HC.out w2.drew (Below.refl _ _).drew).mono ?_
 rintro e w3 ⟨A3, k3, rfl, hA3, hb3', _⟩
 have hb3 : Below w2.heap.size w2 w3 := (Below.refl _ _).drew.trans hb3'
 have hk3 := KeepP.below (KeepP.start (fun b' => b' = w.heap.size ∨ b' = b) w2) hb3' hKl
 refine hK.out _ _ hk3 (fun _ => ?_)
 clear hK K hHeld hb3'
 try simp only [Act.put, List.getElem_toArray, List.getElem_cons_zero, List.getElem_cons_succ, List.setIfInBounds_toArray, List.set_cons_zero, List.set_cons_succ]
 refine wpAnyH_ready (rs := [7]) (by kernel_rfl) (by simp) ?_
 refine AllReadyH.cons (o := _) rfl (fun K hK => ?_) AllReadyH.nil
 go_simp
 go_at_call 154
 have HB3 := Lib.hid (HB.out.trans (hb3.mono HB.out.size))
 by_cases hbs : bs = []
 ·subst hbs
  refine (repeat0_go w3 A3 k3 n h0 h1).mono ?_
  rintro e w5 ⟨⟨g5, rfl⟩, hb5⟩
  have hk5 := KeepP.below hk3 hb5 (fun b' h => Nat.lt_of_lt_of_le (hKl b' h) hb3.size)
  refine hK.out _ _ hk5 (fun _ => ?_)
  clear hK K hk3
  try simp only [Act.put, List.getElem_toArray, List.getElem_cons_zero, List.getElem_cons_succ, List.setIfInBounds_toArray, List.set_cons_zero, List.set_cons_succ]
  have HB5 := Lib.hid (HB3.out.trans (hb5.mono HB3.out.size))
  clear hb5 hb3
  refine wpAnyH_take (i := 8) (oi := _) (v := ?_) rfl (by kernel_rfl) (by kernel_rfl) (by kernel_rfl) (fun _ _ _ h => h) (Or.inl ⟨by kernel_rfl, ?_⟩) (by assumption) ?_
  rotate_left
  ·intro w hSw
   try dsimp only at hSw
   go_simp
   try (with_reducible rfl)
  try simp only [Act.put, List.getElem_toArray, List.getElem_cons_zero, List.getElem_cons_succ, List.setIfInBounds_toArray, List.set_cons_zero, List.set_cons_succ]
  refine wpAnyH_done (by kernel_rfl) ?_ _
  clear n0 n1 n2 n3 n4 n5 n6 n7 hln
  clear c0 c1 c2 c3 c4 c5 c6 c7 hk5 hKl
  go_wp2
  go_light
  go_ret
  exact ⟨_, _, by rw [repW_nil]; rfl, by rw [repW_nil]; exact ⟨(fun c hc => by cases hc), Nat.zero_le _, (fun h => absurd h (by decide))⟩, HB5.out, by rw [repW_nil]; exact (fun h => absurd h (by decide))⟩
 ·have HS3 := Lib.hid HB3.out.size
  refine (repeat_go w3 w3.heap.size A3 k3 bs hA3 n h0 h1 (List.length_pos_iff.2 hbs) HTT.out).mono ?_
  rintro e w5 ⟨rfl, hA5, hb5⟩
  have hk5 := KeepP.below hk3 hb5 (fun b' h => Nat.lt_of_lt_of_le (hKl b' h) hb3.size)
  refine hK.out _ _ hk5 (fun _ => ?_)
  clear hK K hk3
  try simp only [Act.put, List.getElem_toArray, List.getElem_cons_zero, List.getElem_cons_succ, List.setIfInBounds_toArray, List.set_cons_zero, List.set_cons_succ]
  have HB5 := Lib.hid (HB3.out.trans (hb5.mono HB3.out.size))
  have HA5 := Lib.hid hA5
  clear hb5 hb3 hA5
  generalize repW n bs = rw at *
  refine wpAnyH_take (i := 8) (oi := _) (v := ?_) rfl (by kernel_rfl) (by kernel_rfl) (by kernel_rfl) (fun _ _ _ h => h) (Or.inl ⟨by kernel_rfl, ?_⟩) (by assumption) ?_
  rotate_left
  ·intro w hSw
   try dsimp only at hSw
   go_simp
   try (with_reducible rfl)
  try simp only [Act.put, List.getElem_toArray, List.getElem_cons_zero, List.getElem_cons_succ, List.setIfInBounds_toArray, List.set_cons_zero, List.set_cons_succ]
  refine wpAnyH_done (by kernel_rfl) ?_ _
  clear n0 n1 n2 n3 n4 n5 n6 n7 hln
  clear c0 c1 c2 c3 c4 c5 c6 c7 hk5 hKl
  go_wp2
  go_light
  go_ret
  exact ⟨_, _, rfl, HA5.out, HB5.out, fun _ a e => by cases e; exact HS3.out⟩
def LstC (n : Nat) : Prop := ∀ (x : Nd) (P : Nat → Prop) (B : Option Addr) (cap : Nat) (w : World), x.size ≤ n → x.size ≤ 2000000 → (∀ y ∈ x.nodes, aloneN y = true) → x.sum.hollow = false → x.sum.short ≤ 2000 → TreesAt w P x.kids B → TabAt 0 Lib.deBruijn64tab w → 0 < w.heap.size →
 Calls Tryz.prog 106 #[ndV x B cap] w (WordOut x.least w)
theorem lst_step {n : Nat} (ih : LstC n) : LstC (n + 1) := by
 intro x P B cap w hsz hlen ho hh h2 ht hT hw0
 have hlk : x.kids.len ≤ 2000000 := by have := Trees.len_size x.kids; unfold Nd.size at hlen; omega
 have hks : x.kids.size + 1 = x.size := by unfold Nd.size; omega
 have hG : KidLe x.kids P w := fun i z C capc W hz h3 h4 hW ht' => by
  have := Trees.size_get x.kids i z hz
  exact ih z _ C capc W (by omega) (by omega) (fun y hy => ho y (kid_nodes hz y hy)) h3 h4 ht' (TabAt.below hW hw0 hT) (Nat.lt_of_lt_of_le hw0 hW.size)
 have hko : ∀ y ∈ x.kids.nodes, aloneN y = true := fun y hy => ho y (by simp [Nd.nodes, hy])
 have hS := ok_sums x.kids hko
 obtain ⟨a1, a9, a0, ak1, ak9⟩ := aloneN_kids (ho x (self_nodes x))
 have hxl := least_len ho hh h2
 by_cases k1 : x.kind = 1
 ·rw [sum_none k1] at hh; cases hh
 by_cases k2 : x.kind = 2
 ·have : x.least = [] := by unfold Nd.least leastP; simp [k2]
  rw [this]; exact least_nil2 x k2 B cap w
 by_cases k3 : x.kind = 3
 ·have hns : isNoSet x.set = false := by
   cases h : isNoSet x.set with
   | false => rfl
   | true => rw [sum_set k3, if_pos h] at hh; cases hh
  obtain ⟨c, l, he, hc⟩ := elems_full hns
  have : x.least = [c] := by unfold Nd.least leastP; rw [if_pos k3, he]; rfl
  rw [this]; exact least_leaf x c l k3 he hc B cap w hT hw0
 by_cases k4 : x.kind = 4
 ·have e : x.least = x.kids.leasts.flatten := by unfold Nd.least leastP; rw [if_neg (by omega), if_pos k4]
  rw [sum_cat k4] at hh h2
  obtain ⟨_, _, hp⟩ := cat_mono x.kids.sums fnilF ok_nil hS hh h2
  rw [e] at hxl ⊢
  rw [sum_cat k4] at hxl
  exact least_cat x k4 (by omega) (fun i z hz => hp _ (List.mem_of_getElem? (sums_getW hz))) (by omega) P B cap w ht hG
 by_cases k5 : x.kind = 5
 ·have e : x.least = minW (pick (x.kids.sums.foldl eitherF nothingF).short x.kids.sums x.kids.leasts) := by unfold Nd.least leastP; rw [if_neg (by omega), if_neg (by omega), if_pos k5]
  rw [sum_alt k5] at hh h2
  rw [e]
  exact least_alt x _ k5 B cap w fun W hW => leastOf_go x.kids hlk (by omega) hko hh h2 P B cap W (ht.below hW) (hG.later hW)
 obtain ⟨z, hzl, hz⟩ := one_kid (a1 (by omega) (by omega))
 have hk1 := a1 (by omega) (by omega)
 have hzo : ∀ y ∈ z.nodes, aloneN y = true := fun y hy => ho y (kid_nodes hz y hy)
 have hzok := ok_sum hzo
 by_cases k6 : x.kind = 6
 ·have : x.least = [] := by unfold Nd.least leastP; simp [k6]
  rw [this]; exact least_nil6 x k6 B cap w
 by_cases k7 : x.kind = 7
 ·have e : x.least = z.least := by show leastP x.kind x.set x.lo x.kids.sums x.kids.leasts = z.least; unfold leastP; rw [if_neg (by omega), if_neg (by omega), if_neg (by omega), if_pos k7, Trees.leasts_head hz]
  rw [sum_plus k7 hz] at hh h2
  obtain ⟨h3, h4, h5⟩ := repeated_small hzok (by decide) (by decide) hh h2 (by decide)
  rw [e]
  exact least_plus x z _ k7 hz hk1 P B cap w ht fun W C capc hW ht' => hG 0 z C capc W hz h3 h5 hW ht'
 by_cases k8 : x.kind = 8
 ·have : x.least = [] := by unfold Nd.least leastP; simp [k8]
  rw [this]; exact least_nil8 x k8 B cap w
 have k9 : x.kind = 9 := by omega
 have e : x.least = repW x.lo.toNat z.least := by show leastP x.kind x.set x.lo x.kids.sums x.kids.leasts = _; unfold leastP repW; rw [if_neg (by omega), if_neg (by omega), if_neg (by omega), if_neg (by omega), if_pos k9, Trees.leasts_head hz]
 by_cases h : x.lo = 0
 ·rw [e, h]; exact least_rep0 x k9 h B cap w
 ·obtain ⟨b1, b2, b3, b4⟩ := nine_of (ho x (self_nodes x)) k9
  obtain ⟨f1, f2, f3⟩ := hiF_ok b1 b2 b3 b4
  rw [sum_rep k9 hz] at hh h2
  obtain ⟨h3, h4, h5⟩ := repeated_small hzok (by omega) f1 hh h2 f3
  have hzw := least_len hzo h3 h5
  rw [e]
  refine least_rep x z x.lo.toNat k9 (by omega) (by omega) (by omega) hz hk1 ?_ P B cap w ht fun W C capc hW ht' => hG 0 z C capc W hz h3 h5 hW ht'
  have hxl' : x.least.length = x.lo.toNat * z.least.length := by rw [e, rep_len]
  have h6 : (x.least.length : Int) ≤ 2000 := by rw [hxl, sum_rep k9 hz]; exact h2
  rw [Nat.mul_comm]
  omega
theorem flst_go (x : Nd) (P : Nat → Prop) (B : Option Addr) (cap : Nat) (w : World) (hlen : x.size ≤ 2000000) (ho : ∀ y ∈ x.nodes, aloneN y = true) (hh : x.sum.hollow = false) (h2 : x.sum.short ≤ 2000) (ht : TreesAt w P x.kids B) (hT : TabAt 0 Lib.deBruijn64tab w) (hw0 : 0 < w.heap.size) :
  Calls Tryz.prog 106 #[ndV x B cap] w (WordOut x.least w) := by
 have h : ∀ n, LstC n := by
  intro n
  induction n with
  | zero => exact fun x _ _ _ _ h => by unfold Nd.size at h; omega
  | succ n ih => exact lst_step ih
 exact h x.size x P B cap w (Nat.le_refl _) hlen ho hh h2 ht hT hw0
def okM (x : Nd) (most : Int) : Bool := rightT x && (!x.sum.hollow && decide (x.sum.short ≤ most))
def wordM (x : Nd) (most : Int) : List Nat := if okM x most = true then x.least else []
def LeastOut (x : Nd) (most : Int) (w : World) (e : Ending) (w' : World) : Prop := ∃ A k, e = .returned (.tuple #[.slice A (wordM x most).length k, .bool (okM x most)]) ∧ BytesAt w' w'.heap.size A (wordM x most) ∧ Below w.heap.size w w'
theorem okM_no {x : Nd} {most : Int} (h : okM x most = false) {w w' : World} (hb : Below w.heap.size w w') : LeastOut x most w (.returned (.tuple #[.slice none 0 0, .bool false])) w' := by
 have hw : wordM x most = [] := by unfold wordM; rw [h]; rfl
 refine ⟨none, 0, by rw [hw, h]; rfl, ?_, hb⟩
 rw [hw]
 exact ⟨(fun c hc => by cases hc), Nat.zero_le _, (fun h => absurd h (by decide))⟩
theorem fLeast_no (x : Nd) (most : Int) (B : Option Addr) (cap : Nat) (w : World) (hs : x.size ≤ 2000000) (hm : most ≤ 2000) (ht : TreesAt w (fun b => b < w.heap.size) x.kids B) (hT : TabAt 0 Lib.deBruijn64tab w) (hw0 : 0 < w.heap.size) (hr : rightT x = false) : Calls Tryz.prog 44 #[ndV x B cap, .int .i64 most] w (LeastOut x most w) := by
 have hb : Below w.heap.size w (w.alloc (.cells #[.int .i64 x.kind, .int .u64 (word x.set.testBit 0), .int .u64 (word x.set.testBit 1), .int .u64 (word x.set.testBit 2), .int .u64 (word x.set.testBit 3), .slice B x.kids.len cap, .int .i64 x.lo, .int .i64 x.hi] 28)) := (Below.refl _ _).alloc (Nat.le_refl _) _
 have HB := Lib.hid hb
 have HN := Lib.hid (Blk.new w 28 #[.int .i64 x.kind, .int .u64 (word x.set.testBit 0), .int .u64 (word x.set.testBit 1), .int .u64 (word x.set.testBit 2), .int .u64 (word x.set.testBit 3), .slice B x.kids.len cap, .int .i64 x.lo, .int .i64 x.hi])
 have hC := known_go x B cap (w.alloc (.cells #[.int .i64 x.kind, .int .u64 (word x.set.testBit 0), .int .u64 (word x.set.testBit 1), .int .u64 (word x.set.testBit 2), .int .u64 (word x.set.testBit 3), .slice B x.kids.len cap, .int .i64 x.lo, .int .i64 x.hi] 28)) (by omega) ((ht.below hb).weak (Q := fun b => b < (w.alloc (.cells #[.int .i64 x.kind, .int .u64 (word x.set.testBit 0), .int .u64 (word x.set.testBit 1), .int .u64 (word x.set.testBit 2), .int .u64 (word x.set.testBit 3), .slice B x.kids.len cap, .int .i64 x.lo, .int .i64 x.hi] 28)).heap.size) (fun b _ h => h))
 rw [hr] at hC
 have HC := Lib.hid hC
 have HV := Lib.hid (show okM x most = false by unfold okM; rw [hr]; rfl)
 clear hb ht hC hT hw0 hr hs
 unfold ndV at HC ⊢
 go_enter Tryz.func44, Tryz.ntmps44
 go_upto_region 1 with fail
 generalize w.alloc (.cells #[.int .i64 x.kind, .int .u64 (word x.set.testBit 0), .int .u64 (word x.set.testBit 1), .int .u64 (word x.set.testBit 2), .int .u64 (word x.set.testBit 3), .slice B x.kids.len cap, .int .i64 x.lo, .int .i64 x.hi] 28) = w2 at *
 obtain ⟨n0, n1, n2, n3, n4, n5, n6, n7⟩ := ((HN.out)).c8r
 have hln := (HN.out).lt
 go_wp2_with fail
 refine HC.out.mono ?_
 rintro e w3 ⟨rfl, hb3⟩
 generalize hsx : knownF x = s at *
 have hbx : Below w3.heap.size w3 (w3.alloc (.cells (sumA s) 121)) := (Below.refl _ _).alloc (Nat.le_refl _) _
 have HX := Lib.hid (Blk.new w3 121 (sumA s))
 have hN3 := HN.out.below hb3 HN.out.lt
 have HN4 := Lib.hid (hN3.below hbx hN3.lt)
 have HB4 := Lib.hid ((HB.out.trans (hb3.mono HB.out.size)).trans (hbx.mono (by have := HB.out.size; have := hb3.size; omega)))
 have HSX := Lib.hid hsx
 clear hb3 hbx hN3 HC HB HN hsx
 clear n0 n1 n2 n3 n4 n5 n6 n7 hln
 unfold sumV
 unfold sumA at *
 dsimp only
 go_upto_region 2 with fail
 generalize w3.alloc (.cells #[.bool s.hollow, .int .i64 s.short, .int .i64 s.long, .int .u64 (word s.first 0), .int .u64 (word s.first 1), .int .u64 (word s.first 2), .int .u64 (word s.first 3), .int .u64 (word s.last 0), .int .u64 (word s.last 1), .int .u64 (word s.last 2), .int .u64 (word s.last 3)] 121) = w4 at *
 go_wp2
 go_light
 go_ret2
 exact okM_no HV.out HB4.out
theorem fLeast_hollow (x : Nd) (most : Int) (B : Option Addr) (cap : Nat) (w : World) (hs : x.size ≤ 2000000) (hm : most ≤ 2000) (ht : TreesAt w (fun b => b < w.heap.size) x.kids B) (hT : TabAt 0 Lib.deBruijn64tab w) (hw0 : 0 < w.heap.size) (hr : rightT x = true) (hh : x.sum.hollow = true) : Calls Tryz.prog 44 #[ndV x B cap, .int .i64 most] w (LeastOut x most w) := by
 have hb : Below w.heap.size w (w.alloc (.cells #[.int .i64 x.kind, .int .u64 (word x.set.testBit 0), .int .u64 (word x.set.testBit 1), .int .u64 (word x.set.testBit 2), .int .u64 (word x.set.testBit 3), .slice B x.kids.len cap, .int .i64 x.lo, .int .i64 x.hi] 28)) := (Below.refl _ _).alloc (Nat.le_refl _) _
 have HB := Lib.hid hb
 have HN := Lib.hid (Blk.new w 28 #[.int .i64 x.kind, .int .u64 (word x.set.testBit 0), .int .u64 (word x.set.testBit 1), .int .u64 (word x.set.testBit 2), .int .u64 (word x.set.testBit 3), .slice B x.kids.len cap, .int .i64 x.lo, .int .i64 x.hi])
 have hC := known_go x B cap (w.alloc (.cells #[.int .i64 x.kind, .int .u64 (word x.set.testBit 0), .int .u64 (word x.set.testBit 1), .int .u64 (word x.set.testBit 2), .int .u64 (word x.set.testBit 3), .slice B x.kids.len cap, .int .i64 x.lo, .int .i64 x.hi] 28)) (by omega) ((ht.below hb).weak (Q := fun b => b < (w.alloc (.cells #[.int .i64 x.kind, .int .u64 (word x.set.testBit 0), .int .u64 (word x.set.testBit 1), .int .u64 (word x.set.testBit 2), .int .u64 (word x.set.testBit 3), .slice B x.kids.len cap, .int .i64 x.lo, .int .i64 x.hi] 28)).heap.size) (fun b _ h => h))
 rw [hr] at hC
 have HC := Lib.hid hC
 have HV := Lib.hid (show okM x most = false by unfold okM; rw [hr, hh]; rfl)
 have HS := Lib.hid (show (knownF x).hollow = true by unfold knownF; rw [if_pos hr]; exact hh)
 clear hb ht hC hT hw0 hr hh hs
 unfold ndV at HC ⊢
 go_enter Tryz.func44, Tryz.ntmps44
 go_upto_region 1 with fail
 generalize w.alloc (.cells #[.int .i64 x.kind, .int .u64 (word x.set.testBit 0), .int .u64 (word x.set.testBit 1), .int .u64 (word x.set.testBit 2), .int .u64 (word x.set.testBit 3), .slice B x.kids.len cap, .int .i64 x.lo, .int .i64 x.hi] 28) = w2 at *
 obtain ⟨n0, n1, n2, n3, n4, n5, n6, n7⟩ := ((HN.out)).c8r
 have hln := (HN.out).lt
 go_wp2_with fail
 refine HC.out.mono ?_
 rintro e w3 ⟨rfl, hb3⟩
 generalize hsx : knownF x = s at *
 have hbx : Below w3.heap.size w3 (w3.alloc (.cells (sumA s) 121)) := (Below.refl _ _).alloc (Nat.le_refl _) _
 have HX := Lib.hid (Blk.new w3 121 (sumA s))
 have hN3 := HN.out.below hb3 HN.out.lt
 have HN4 := Lib.hid (hN3.below hbx hN3.lt)
 have HB4 := Lib.hid ((HB.out.trans (hb3.mono HB.out.size)).trans (hbx.mono (by have := HB.out.size; have := hb3.size; omega)))
 have HSX := Lib.hid hsx
 clear hb3 hbx hN3 HC HB HN hsx
 clear n0 n1 n2 n3 n4 n5 n6 n7 hln
 unfold sumV
 unfold sumA at *
 dsimp only
 rw [HS.out] at *
 go_upto_region 2 with fail
 generalize w3.alloc (.cells #[.bool true, .int .i64 s.short, .int .i64 s.long, .int .u64 (word s.first 0), .int .u64 (word s.first 1), .int .u64 (word s.first 2), .int .u64 (word s.first 3), .int .u64 (word s.last 0), .int .u64 (word s.last 1), .int .u64 (word s.last 2), .int .u64 (word s.last 3)] 121) = w4 at *
 have x0 := HX.out.cell 0
 have hlx := HX.out.lt
 simp only [List.getElem?_toArray, List.getElem?_cons_zero, List.getElem?_cons_succ] at x0
 go_wp2
 go_light
 go_ret2
 exact okM_no HV.out HB4.out
theorem fLeast_long (x : Nd) (most : Int) (B : Option Addr) (cap : Nat) (w : World) (hs : x.size ≤ 2000000) (hm : most ≤ 2000) (ht : TreesAt w (fun b => b < w.heap.size) x.kids B) (hT : TabAt 0 Lib.deBruijn64tab w) (hw0 : 0 < w.heap.size) (hr : rightT x = true) (hh : x.sum.hollow = false) (hl : most < x.sum.short) : Calls Tryz.prog 44 #[ndV x B cap, .int .i64 most] w (LeastOut x most w) := by
 have hb : Below w.heap.size w (w.alloc (.cells #[.int .i64 x.kind, .int .u64 (word x.set.testBit 0), .int .u64 (word x.set.testBit 1), .int .u64 (word x.set.testBit 2), .int .u64 (word x.set.testBit 3), .slice B x.kids.len cap, .int .i64 x.lo, .int .i64 x.hi] 28)) := (Below.refl _ _).alloc (Nat.le_refl _) _
 have HB := Lib.hid hb
 have HN := Lib.hid (Blk.new w 28 #[.int .i64 x.kind, .int .u64 (word x.set.testBit 0), .int .u64 (word x.set.testBit 1), .int .u64 (word x.set.testBit 2), .int .u64 (word x.set.testBit 3), .slice B x.kids.len cap, .int .i64 x.lo, .int .i64 x.hi])
 have hC := known_go x B cap (w.alloc (.cells #[.int .i64 x.kind, .int .u64 (word x.set.testBit 0), .int .u64 (word x.set.testBit 1), .int .u64 (word x.set.testBit 2), .int .u64 (word x.set.testBit 3), .slice B x.kids.len cap, .int .i64 x.lo, .int .i64 x.hi] 28)) (by omega) ((ht.below hb).weak (Q := fun b => b < (w.alloc (.cells #[.int .i64 x.kind, .int .u64 (word x.set.testBit 0), .int .u64 (word x.set.testBit 1), .int .u64 (word x.set.testBit 2), .int .u64 (word x.set.testBit 3), .slice B x.kids.len cap, .int .i64 x.lo, .int .i64 x.hi] 28)).heap.size) (fun b _ h => h))
 rw [hr] at hC
 have HC := Lib.hid hC
 have HV := Lib.hid (show okM x most = false by unfold okM; rw [hr, hh, decide_eq_false (by omega)]; rfl)
 have HS := Lib.hid (show (knownF x).hollow = false ∧ most < (knownF x).short by unfold knownF; rw [if_pos hr]; exact ⟨hh, hl⟩)
 clear hb ht hC hT hw0 hr hh hl hs
 unfold ndV at HC ⊢
 go_enter Tryz.func44, Tryz.ntmps44
 go_upto_region 1 with fail
 generalize w.alloc (.cells #[.int .i64 x.kind, .int .u64 (word x.set.testBit 0), .int .u64 (word x.set.testBit 1), .int .u64 (word x.set.testBit 2), .int .u64 (word x.set.testBit 3), .slice B x.kids.len cap, .int .i64 x.lo, .int .i64 x.hi] 28) = w2 at *
 obtain ⟨n0, n1, n2, n3, n4, n5, n6, n7⟩ := ((HN.out)).c8r
 have hln := (HN.out).lt
 go_wp2_with fail
 refine HC.out.mono ?_
 rintro e w3 ⟨rfl, hb3⟩
 generalize hsx : knownF x = s at *
 have hbx : Below w3.heap.size w3 (w3.alloc (.cells (sumA s) 121)) := (Below.refl _ _).alloc (Nat.le_refl _) _
 have HX := Lib.hid (Blk.new w3 121 (sumA s))
 have hN3 := HN.out.below hb3 HN.out.lt
 have HN4 := Lib.hid (hN3.below hbx hN3.lt)
 have HB4 := Lib.hid ((HB.out.trans (hb3.mono HB.out.size)).trans (hbx.mono (by have := HB.out.size; have := hb3.size; omega)))
 have HSX := Lib.hid hsx
 clear hb3 hbx hN3 HC HB HN hsx
 clear n0 n1 n2 n3 n4 n5 n6 n7 hln
 unfold sumV
 unfold sumA at *
 dsimp only
 have hl := HS.out.2
 rw [HS.out.1] at *
 go_upto_region 2 with fail
 generalize w3.alloc (.cells #[.bool false, .int .i64 s.short, .int .i64 s.long, .int .u64 (word s.first 0), .int .u64 (word s.first 1), .int .u64 (word s.first 2), .int .u64 (word s.first 3), .int .u64 (word s.last 0), .int .u64 (word s.last 1), .int .u64 (word s.last 2), .int .u64 (word s.last 3)] 121) = w4 at *
 have x0 := HX.out.cell 0
 have x1 := HX.out.cell 1
 have hlx := HX.out.lt
 simp only [List.getElem?_toArray, List.getElem?_cons_zero, List.getElem?_cons_succ] at x0 x1
 go_wp2
 go_light
 go_ret2
 exact okM_no HV.out HB4.out
theorem fLeast_yes (x : Nd) (most : Int) (B : Option Addr) (cap : Nat) (w : World) (hs : x.size ≤ 2000000) (hm : most ≤ 2000) (ht : TreesAt w (fun b => b < w.heap.size) x.kids B) (hT : TabAt 0 Lib.deBruijn64tab w) (hw0 : 0 < w.heap.size) (hr : rightT x = true) (hh : x.sum.hollow = false) (hl : x.sum.short ≤ most) : Calls Tryz.prog 44 #[ndV x B cap, .int .i64 most] w (LeastOut x most w) := by
 have hb : Below w.heap.size w (w.alloc (.cells #[.int .i64 x.kind, .int .u64 (word x.set.testBit 0), .int .u64 (word x.set.testBit 1), .int .u64 (word x.set.testBit 2), .int .u64 (word x.set.testBit 3), .slice B x.kids.len cap, .int .i64 x.lo, .int .i64 x.hi] 28)) := (Below.refl _ _).alloc (Nat.le_refl _) _
 have HB := Lib.hid hb
 have HN := Lib.hid (Blk.new w 28 #[.int .i64 x.kind, .int .u64 (word x.set.testBit 0), .int .u64 (word x.set.testBit 1), .int .u64 (word x.set.testBit 2), .int .u64 (word x.set.testBit 3), .slice B x.kids.len cap, .int .i64 x.lo, .int .i64 x.hi])
 have hC := known_go x B cap (w.alloc (.cells #[.int .i64 x.kind, .int .u64 (word x.set.testBit 0), .int .u64 (word x.set.testBit 1), .int .u64 (word x.set.testBit 2), .int .u64 (word x.set.testBit 3), .slice B x.kids.len cap, .int .i64 x.lo, .int .i64 x.hi] 28)) (by omega) ((ht.below hb).weak (Q := fun b => b < (w.alloc (.cells #[.int .i64 x.kind, .int .u64 (word x.set.testBit 0), .int .u64 (word x.set.testBit 1), .int .u64 (word x.set.testBit 2), .int .u64 (word x.set.testBit 3), .slice B x.kids.len cap, .int .i64 x.lo, .int .i64 x.hi] 28)).heap.size) (fun b _ h => h))
 rw [hr] at hC
 have HC := Lib.hid hC
 have HV := Lib.hid (show okM x most = true by unfold okM; rw [hr, hh, decide_eq_true hl]; rfl)
 have HS := Lib.hid (show (knownF x).hollow = false ∧ ¬ most < (knownF x).short by unfold knownF; rw [if_pos hr]; exact ⟨hh, by omega⟩)
 have HL := Lib.hid (fun (W : World) (hW : Below w.heap.size w W) => flst_go x _ B cap W (by omega) (rightT_nodes hr) hh (by omega) (ht.below hW) (TabAt.below hW hw0 hT) (Nat.lt_of_lt_of_le hw0 hW.size))
 clear hb ht hC hT hw0 hr hh hl hs
 unfold ndV at HL
 unfold ndV at HC ⊢
 go_enter Tryz.func44, Tryz.ntmps44
 go_upto_region 1 with fail
 generalize w.alloc (.cells #[.int .i64 x.kind, .int .u64 (word x.set.testBit 0), .int .u64 (word x.set.testBit 1), .int .u64 (word x.set.testBit 2), .int .u64 (word x.set.testBit 3), .slice B x.kids.len cap, .int .i64 x.lo, .int .i64 x.hi] 28) = w2 at *
 obtain ⟨n0, n1, n2, n3, n4, n5, n6, n7⟩ := ((HN.out)).c8r
 have hln := (HN.out).lt
 go_wp2_with fail
 refine HC.out.mono ?_
 rintro e w3 ⟨rfl, hb3⟩
 generalize hsx : knownF x = s at *
 have hbx : Below w3.heap.size w3 (w3.alloc (.cells (sumA s) 121)) := (Below.refl _ _).alloc (Nat.le_refl _) _
 have HX := Lib.hid (Blk.new w3 121 (sumA s))
 have hN3 := HN.out.below hb3 HN.out.lt
 have HN4 := Lib.hid (hN3.below hbx hN3.lt)
 have HB4 := Lib.hid ((HB.out.trans (hb3.mono HB.out.size)).trans (hbx.mono (by have := HB.out.size; have := hb3.size; omega)))
 have HSX := Lib.hid hsx
 clear hb3 hbx hN3 HC HB HN hsx
 clear n0 n1 n2 n3 n4 n5 n6 n7 hln
 unfold sumV
 unfold sumA at *
 dsimp only
 have hl := HS.out.2
 rw [HS.out.1] at *
 go_upto_region 2 with fail
 generalize w3.alloc (.cells #[.bool false, .int .i64 s.short, .int .i64 s.long, .int .u64 (word s.first 0), .int .u64 (word s.first 1), .int .u64 (word s.first 2), .int .u64 (word s.first 3), .int .u64 (word s.last 0), .int .u64 (word s.last 1), .int .u64 (word s.last 2), .int .u64 (word s.last 3)] 121) = w4 at *
 have x0 := HX.out.cell 0
 have x1 := HX.out.cell 1
 have hlx := HX.out.lt
 simp only [List.getElem?_toArray, List.getElem?_cons_zero, List.getElem?_cons_succ] at x0 x1
 obtain ⟨n0, n1, n2, n3, n4, n5, n6, n7⟩ := ((HN4.out)).c8r
 have hln := (HN4.out).lt
 have HC := Lib.hid (HL.out w4 HB4.out)
 clear HL
 have HW := Lib.hid (show wordM x most = x.least by unfold wordM; rw [HV.out]; rfl)
 generalize x.least = bs at *
 go_wp2_with fail
 refine HC.out.mono ?_
 rintro e w5 ⟨A5, k5, rfl, hA5, hb5, _⟩
 have HB5 := Lib.hid (HB4.out.trans (hb5.mono HB4.out.size))
 have HA5 := Lib.hid hA5
 clear hb5 hA5 HC x0 x1 hlx
 clear n0 n1 n2 n3 n4 n5 n6 n7 hln
 dsimp only
 go_wp2
 go_light
 go_ret2
 exact ⟨A5, k5, by rw [HW.out, HV.out]; rfl, by rw [HW.out]; exact HA5.out, HB5.out⟩
theorem fLeast_go (x : Nd) (most : Int) (B : Option Addr) (cap : Nat) (w : World) (hs : x.size ≤ 2000000) (hm : most ≤ 2000) (ht : TreesAt w (fun b => b < w.heap.size) x.kids B) (hT : TabAt 0 Lib.deBruijn64tab w) (hw0 : 0 < w.heap.size) : Calls Tryz.prog 44 #[ndV x B cap, .int .i64 most] w (LeastOut x most w) := by
 cases hr : rightT x with
 | false => exact fLeast_no x most B cap w hs hm ht hT hw0 hr
 | true =>
  cases hh : x.sum.hollow with
  | true => exact fLeast_hollow x most B cap w hs hm ht hT hw0 hr hh
  | false =>
   rcases Int.lt_or_le most x.sum.short with h | h
   ·exact fLeast_long x most B cap w hs hm ht hT hw0 hr hh h
   ·exact fLeast_yes x most B cap w hs hm ht hT hw0 hr hh h
end Go.Proofs.YtofbfafnpdaejaaGreatDoor
