/- Texts of the claim. -/
import Derived.Test.YtofbfafnpdaejaaGreatDoorMNext
import Derived.Test.YtofbfafnpdaejaaGreatDoorMRefEsc
import Derived.Test.YtofbfafnpdaejaaGreatDoorMZ03
import Derived.Test.YtofbfafnpdaejaaGreatDoorMZ02
import Derived.Test.YtofbfafnpdaejaaGreatDoorMZ05
import Derived.Test.YtofbfafnpdaejaaGreatDoorMZ04
import Derived.Test.YtofbfafnpdaejaaGreatDoorMZ01
set_option linter.all false
set_option maxRecDepth 100000
set_option maxHeartbeats 8000000
namespace Go.Proofs.YtofbfafnpdaejaaGreatDoor
section
open Go.RowKit
theorem ret_split {fn : Func} {t4 t6 : Tmp} (h : fn.results = #[.tmp t4, .cell t6 77]) {tmps : Array Value} {w : World} {g' : Nat} {x y c : Value}
  (hc : tmps.getD t4 undef = c) (hp' : tmps.getD t6 undef = .pointer (some ⟨g', 0, none⟩)) (hb' : Blk w g' 77 #[x, y]) :
  (results fn tmps).run Tryz.prog w = .ok (.tuple #[c, .agg #[x, y]]) w := by
 have h2 := run_loadVar_row (P := Tryz.prog) w g' 77 77 #[x, y] (0, 0) _ hb' Tryz.underlying77 rfl (by kernel_rfl)
 simp only [results, h]
 simp only [Array.getD_eq_getD_getElem?] at hc hp'
 simp [Sem.run_bind, hc, hp', asAddr, h2, Result.andThen]
theorem own_mono {w : World} {base base' size n : Nat} {e : TypeId} {v : Value} {xs : List Value} (h : w.ownsRow base e size v n xs) (hb : base' ≤ base) : w.ownsRow base' e size v n xs := by
 obtain ⟨h1, h2 | ⟨g, cap, cur, e1, e2, h3⟩⟩ := h
 ·exact ⟨h1, .inl h2⟩
 ·exact ⟨h1, .inr ⟨g, cap, cur, e1, Nat.le_trans hb e2, h3⟩⟩
def Cuts (r : Except Wrong (List Lex)) (w : World) (e : Ending) (w' : World) : Prop :=
 match r with
 | .ok l => ∃ v, e = .returned (.tuple #[v, .agg #[.int .i64 0, .int .i64 0]]) ∧ Below w.heap.size w w' ∧ w'.ownsRow w.heap.size 143 8 v l.length (lexCells l)
 | .error (k, q) => e = .returned (.tuple #[.slice none 0 0, .agg #[.int .i64 k, .int .i64 q]]) ∧ Below w.heap.size w w'
theorem split_long (A : Option Addr) (cap : Nat) (bs : List Nat) (w : World) (hlen : 65536 < bs.length) (hmax : bs.length ≤ 140737488355328) :
  Calls Tryz.prog 120 #[.slice A bs.length cap] w (Cuts (splitS bs) w) := by
 have hd : decide ((65536 : Int) < (bs.length : Int)) = true := by simp; omega
 have hd' : (65536 : Int) < (bs.length : Int) := by omega
 have Hb := Lib.hid (Blk.new w 77 #[.int .i64 0, .int .i64 0])
 obtain ⟨b0, b1, x0, x1⟩ := Hb.out.c2
 rw [splitS_long hlen]
 clear hlen
 go_enter Tryz.func120, Tryz.ntmps120
 go_wp2
 go_light
 refine bodyPost_ret (ret_split Tryz.results120 rfl rfl (Blk.new w 77 #[.int .i64 4, .int .i64 65536])) rfl ⟨rfl, (Below.refl w.heap.size w).alloc (Nat.le_refl _) _⟩
theorem split_none (A : Option Addr) (cap : Nat) (w : World) :
  Calls Tryz.prog 120 #[.slice A 0 cap] w (Cuts (splitS []) w) := by
 have Hb := Lib.hid ((Blk.new w 77 #[.int .i64 0, .int .i64 0]).alloc (.cells #[.slice A 0 cap, .int .i64 0, .slice none 0 0, .int .i64 0, .int .i64 0] 175))
 have hs : Blk ((w.alloc (.cells #[.int .i64 0, .int .i64 0] 77)).alloc (.cells #[.slice A 0 cap, .int .i64 0, .slice none 0 0, .int .i64 0, .int .i64 0] 175)) (w.heap.size + 1) 175 #[.slice A 0 cap, .int .i64 0, .slice none 0 0, .int .i64 0, .int .i64 0] := Blk.new_at (by simp)
 obtain ⟨b0, b1, x0, x1⟩ := Hb.out.c2
 have s1 := hs.cell 1
 have s2 := hs.cell 2
 have HB := Lib.hid (((Below.refl w.heap.size w).alloc (Nat.le_refl _) (.cells #[.int .i64 0, .int .i64 0] 77)).alloc (by simp) (.cells #[.slice A 0 cap, .int .i64 0, .slice none 0 0, .int .i64 0, .int .i64 0] 175))
 clear hs
 rw [splitS_go (bs := []) (by simp), splitF_end (by simp)]
 go_enter Tryz.func120, Tryz.ntmps120
 go_wp2
 go_loopw [16] (fun v16 wr => wr = ((w.alloc (.cells #[.int .i64 0, .int .i64 0] 77)).alloc (.cells #[.slice A 0 cap, .int .i64 0, .slice none 0 0, .int .i64 0, .int .i64 0] 175))) (fun _ wr => 0)
 case atStart => rfl
 case round =>
  obtain rfl := hrel
  go_wp2
  go_light
  refine bodyPost_ret (ret_split Tryz.results120 rfl rfl Hb.out) rfl ⟨_, rfl, HB.out, World.ownsRow_nil _ _ _ _⟩
theorem split_some (b o cap : Nat) (bs : List Nat) (w : World) (hA : BytesAt w w.heap.size (some ⟨b, o, none⟩) bs) (hcap : bs.length ≤ cap) (hlen : bs.length ≤ 65536) (h0 : 0 < bs.length) :
  Calls Tryz.prog 120 #[.slice (some ⟨b, o, none⟩) bs.length cap] w (Cuts (splitS bs) w) := by
 have hl := hA.2.1
 have hb := hA.1
 have hd : decide ((65536 : Int) < (bs.length : Int)) = false := by simp; omega
 have hd' : ¬ (65536 : Int) < (bs.length : Int) := by omega
 have Hb0 := Lib.hid ((Blk.new w 77 #[.int .i64 0, .int .i64 0]).alloc (.cells #[.slice (some ⟨b, o, none⟩) bs.length cap, .int .i64 0, .slice none 0 0, .int .i64 0, .int .i64 0] 175))
 have hS0 : Spl ((w.alloc (.cells #[.int .i64 0, .int .i64 0] 77)).alloc (.cells #[.slice (some ⟨b, o, none⟩) bs.length cap, .int .i64 0, .slice none 0 0, .int .i64 0, .int .i64 0] 175)) (w.heap.size + 1) b o bs.length cap 0 (.slice none 0 0) 0 0 := Blk.new_at (by simp)
 have HS0 := Lib.hid hS0
 have HB0 := Lib.hid (((Below.refl w.heap.size w).alloc (Nat.le_refl _) (.cells #[.int .i64 0, .int .i64 0] 77)).alloc (by simp) (.cells #[.slice (some ⟨b, o, none⟩) bs.length cap, .int .i64 0, .slice none 0 0, .int .i64 0, .int .i64 0] 175))
 have HA0 := Lib.hid ((hA.below HB0.out).more (Nat.le_succ _))
 have hz0 : (((w.alloc (.cells #[.int .i64 0, .int .i64 0] 77)).alloc (.cells #[.slice (some ⟨b, o, none⟩) bs.length cap, .int .i64 0, .slice none 0 0, .int .i64 0, .int .i64 0] 175))).heap.size = w.heap.size + 2 := by simp
 have hR0 : w.heap.size < (((w.alloc (.cells #[.int .i64 0, .int .i64 0] 77)).alloc (.cells #[.slice (some ⟨b, o, none⟩) bs.length cap, .int .i64 0, .slice none 0 0, .int .i64 0, .int .i64 0] 175))).heap.size := by omega
 clear hA
 obtain ⟨s0, s1, s2, s3, s4, f0, f1, f2, f3, f4⟩ := hS0.cells
 clear hS0
 go_enter Tryz.func120, Tryz.ntmps120
 go_wp2
 go_loopw [16] (fun v16 wr => ∃ (i f : Nat) (v : Value) (L : List Lex), i ≤ bs.length ∧ L.length ≤ i ∧ bs.length < i + f ∧ splitF bs f i L = splitS bs ∧ Spl wr (w.heap.size + 1) b o bs.length cap i v 0 0 ∧ wr.ownsRow (w.heap.size + 1) 143 8 v L.length (lexCells L) ∧ Below (w.heap.size + 1) ((w.alloc (.cells #[.int .i64 0, .int .i64 0] 77)).alloc (.cells #[.slice (some ⟨b, o, none⟩) bs.length cap, .int .i64 0, .slice none 0 0, .int .i64 0, .int .i64 0] 175)) wr) (fun _ wr => bs.length - (intOf ((wr.cell? ⟨w.heap.size + 1, 1, none⟩).getD undef)).toNat)
 case atStart => exact ⟨0, bs.length + 1, _, [], by omega, by simp, by omega, (splitS_go hlen).symm, HS0.out, World.ownsRow_nil _ _ _ _, Below.refl _ _⟩
 case round =>
  obtain ⟨i, f, v, L, hi, hL, hf, hF, hS, hrow, hB⟩ := hrel
  obtain ⟨t0, t1, t2, t3, t4, g0, g1, g2, g3, g4⟩ := hS.cells
  have hbr := Hb0.out.below hB (by omega)
  obtain ⟨r0, r1, e0, e1⟩ := hbr.c2
  have hsz := hB.size
  by_cases hlt : i < bs.length
  ·have HG := Lib.hid (next_go (w.heap.size + 1) b o cap bs i v (w.heap.size + 1) L wr hS hrow (Nat.le_refl _) (by omega) (HA0.out.below hB) hlt hcap hlen)
   have hdl : (i : Int) < (bs.length : Int) := by omega
   have Hbr := Lib.hid hbr
   have HB := Lib.hid hB
   have HF := Lib.hid hF
   obtain ⟨f, rfl⟩ : ∃ f', f = f' + 1 := ⟨f - 1, by omega⟩
   clear hS hrow hB hbr hF r0 r1 e0 e1 t2 t3 t4
   cases hx : lexS bs i with
   | error x =>
    obtain ⟨k, q⟩ := x
    have hk0 : (k != 0) = true := by rw [bne_iff_ne]; exact lexS_err hb hx
    have HV := Lib.hid (show splitS bs = .error (k, q) by rw [← HF.out]; exact splitF_bad hlt hx)
    have Hx := Lib.hid hx
    clear hx
    go_wp2_with fail
    refine HG.out.mono ?_
    intro e w1 hs
    unfold Stepped at hs
    rw [Hx.out] at hs
    obtain ⟨rfl, hb1, i1, v1, hS1⟩ := hs
    obtain ⟨u0, u1, u2, u3, u4, g0, g1, g2, g3, g4⟩ := hS1.cells
    have hbr1 := Hbr.out.below hb1 (by omega)
    obtain ⟨r0, r1, e0, e1⟩ := hbr1.c2
    have Hbr1 := Lib.hid hbr1
    have HB1 := Lib.hid (HB.out.trans hb1)
    clear hb1 hS1 hbr1
    go_wp2
    go_region
    all_goals go_wp2
    all_goals go_light
    all_goals rw [HV.out]
    refine bodyPost_ret (ret_split Tryz.results120 rfl rfl Hbr1.out.drew.set2) rfl ⟨rfl, below_set2 (HB0.out.trans (HB1.out.mono (Nat.le_succ _))).drew (Nat.le_refl _) _ _⟩
   | ok x =>
    obtain ⟨x, j⟩ := x
    have hj := lexS_some hb hlt hx
    have HV := Lib.hid (show splitF bs f j (L ++ [x]) = splitS bs by rw [← HF.out]; exact (splitF_ok hlt hx).symm)
    have Hx := Lib.hid hx
    clear hx
    go_wp2_with fail
    refine HG.out.mono ?_
    intro e w1 hs
    unfold Stepped at hs
    rw [Hx.out] at hs
    obtain ⟨rfl, hb1, v1, hS1, hrow1⟩ := hs
    obtain ⟨u0, u1, u2, u3, u4, g0, g1, g2, g3, g4⟩ := hS1.cells
    have HS1 := Lib.hid hS1
    have HR1 := Lib.hid hrow1
    have HB1 := Lib.hid (HB.out.trans hb1)
    clear hb1 hS1 hrow1
    go_wp2
    go_roundw
    case rel => exact ⟨j, f, v1, L ++ [x], hj.2, by simp; omega, by omega, HV.out, HS1.out, by simpa using HR1.out, HB1.out⟩
    case measure => rw [t1, u1]; simp [intOf]; omega
  ·have HV := Lib.hid (show splitS bs = .ok L by rw [← hF]; obtain ⟨f, rfl⟩ : ∃ f', f = f' + 1 := ⟨f - 1, by omega⟩; exact splitF_end (by omega))
   have hdl : ¬ (i : Int) < (bs.length : Int) := by omega
   have Hbr := Lib.hid hbr
   have HB := Lib.hid hB
   have HS := Lib.hid hS
   have Hrow := Lib.hid hrow
   have Hne := Lib.hid (blk_not_row hbr (by decide) hrow)
   clear hS hrow hB hbr hF
   go_wp2
   go_light
   rw [HV.out]
   refine bodyPost_ret (ret_split Tryz.results120 rfl rfl Hbr.out.set2) rfl ⟨v, rfl, below_set2 (HB0.out.trans (HB.out.mono (Nat.le_succ _))) (Nat.le_refl _) _ _, own_set (own_set (own_mono Hrow.out (Nat.le_succ _)) Hne.out) Hne.out⟩
theorem split_go (A : Option Addr) (cap : Nat) (bs : List Nat) (w : World) (hA : BytesAt w w.heap.size A bs) (hcap : bs.length ≤ cap) :
  Calls Tryz.prog 120 #[.slice A bs.length cap] w (Cuts (splitS bs) w) := by
 rcases Nat.eq_zero_or_pos bs.length with h0 | h0
 ·obtain rfl : bs = [] := List.length_eq_zero_iff.mp h0
  exact split_none A cap w
 rcases Nat.lt_or_ge 65536 bs.length with h | h
 ·exact split_long A cap bs w h hA.2.1
 obtain ⟨b, o, rfl, _, _⟩ := hA.2.2 h0
 exact split_some b o cap bs w hA hcap h h0
theorem own_room {w : World} {base size n : Nat} {e : TypeId} {v : Value} {xs : List Value} {a : Option Addr} {cap : Nat} (h : w.ownsRow base e size v n xs) (hv : v = .slice a n cap) : n ≤ cap := by
 rcases h.2 with ⟨rfl, h0⟩ | ⟨g', cap', cur, rfl, _, _, hc, _⟩
 ·have := (Value.slice.inj hv).2.1
  omega
 ·have := (Value.slice.inj hv).2.2
  omega
theorem LexRow.at {w : World} {A : Option Addr} {cap : Nat} {L : List Lex} (h : LexRow w (.slice A L.length cap) L) : LexsAt w w.heap.size A L := fun hl => by
 obtain ⟨A', cap', hv, hc⟩ := h
 obtain ⟨rfl, _⟩ : A = A' ∧ cap = cap' := ⟨(Value.slice.inj hv).1, (Value.slice.inj hv).2.2⟩
 obtain ⟨x, hx⟩ : ∃ x, L[0]? = some x := ⟨_, List.getElem?_eq_getElem hl⟩
 obtain ⟨g, hg, c0, _⟩ := hc 0 x hx
 refine ⟨g, 0, hg, World.block_lt_of_cell? w _ c0, fun k y hy => ?_⟩
 obtain ⟨g', hg', d⟩ := hc k y hy
 obtain rfl : g = g' := by rw [hg] at hg'; simpa using hg'
 simpa using d
theorem one_leaf {x : Lex} (h : rightS x = true) (hk : x.kind = 1) : lexemesS [x] = .ok (leafN (maskOf x.set)) := by
 rw [lexemesS_ok (by simp [h]) (by simp)]
 have e : altG 6 [] [] [x] = .ok (leafN (maskOf x.set), []) := by
  have hp : piecesG 5 [] [] [x] = .ok ([leafN (maskOf x.set)], []) := by
   rw [piecesG_go (atomG_set hk)]
   exact piecesG_end (atomG_nil _ _)
  rw [altG_ok hp]
  rfl
 show (match altG 6 [] [] [x] with | .error e => Except.error e | .ok (x, _) => .ok x) = _
 rw [e]
theorem text_bad (A : Option Addr) (cap : Nat) (bs : List Nat) (w : World) (hA : BytesAt w w.heap.size A bs) (hcap : bs.length ≤ cap) {k q : Int} (hs : splitS bs = .error (k, q)) (hk : k ≠ 0) :
  Calls Tryz.prog 61 #[.slice A bs.length cap] w (TreeOut (parseS bs) w) := by
 have hd : (k != 0) = true := by rw [bne_iff_ne]; exact hk
 have HV := Lib.hid (show parseS bs = .error (k, q) by unfold parseS; rw [hs])
 have hb2 : Below w.heap.size w ((w.alloc (.cells #[.int .i64 0, .int .u64 0, .int .u64 0, .int .u64 0, .int .u64 0, .slice none 0 0, .int .i64 0, .int .i64 0] 28)).alloc (.cells #[.int .i64 0, .int .i64 0] 77)) := ((Below.refl _ _).alloc (Nat.le_refl _) _).alloc (by simp) _
 have HB2 := Lib.hid hb2
 have HG2 := Lib.hid (show Blk ((w.alloc (.cells #[.int .i64 0, .int .u64 0, .int .u64 0, .int .u64 0, .int .u64 0, .slice none 0 0, .int .i64 0, .int .i64 0] 28)).alloc (.cells #[.int .i64 0, .int .i64 0] 77)) w.heap.size 28 _ from (Blk.new w 28 #[.int .i64 0, .int .u64 0, .int .u64 0, .int .u64 0, .int .u64 0, .slice none 0 0, .int .i64 0, .int .i64 0]).alloc _)
 have HH2 := Lib.hid (show Blk ((w.alloc (.cells #[.int .i64 0, .int .u64 0, .int .u64 0, .int .u64 0, .int .u64 0, .slice none 0 0, .int .i64 0, .int .i64 0] 28)).alloc (.cells #[.int .i64 0, .int .i64 0] 77)) (w.heap.size + 1) 77 #[.int .i64 0, .int .i64 0] from Blk.new_at (by simp))
 have h1 := split_go A cap bs _ ((hA.below hb2).more (by simp; omega)) hcap
 rw [hs] at h1
 have H1 := Lib.hid h1
 clear hb2 hA hs h1 hk
 go_enter Tryz.func61, Tryz.ntmps61
 go_wp2_with fail
 refine H1.out.mono ?_
 rintro e w3 ⟨rfl, hb3⟩
 have HB3 := Lib.hid (HB2.out.trans (hb3.mono HB2.out.size))
 have hG3 := HG2.out.below hb3 HG2.out.lt
 have hH3 := HH2.out.below hb3 HH2.out.lt
 have HG3 := Lib.hid hG3
 have HH3 := Lib.hid hH3
 have hlt1 : w.heap.size < w3.heap.size := hG3.lt
 have hlt2 : w.heap.size + 1 < w3.heap.size := hH3.lt
 have hne1 : w.heap.size ≠ w3.heap.size := by omega
 have hne2 : w.heap.size + 1 ≠ w3.heap.size := by omega
 have y0 : w3.cell? ⟨w.heap.size, 0, none⟩ = some (.int .i64 0) := hG3.cell 0
 have y1 : w3.cell? ⟨w.heap.size, 1, none⟩ = some (.int .u64 0) := hG3.cell 1
 have y2 : w3.cell? ⟨w.heap.size, 2, none⟩ = some (.int .u64 0) := hG3.cell 2
 have y3 : w3.cell? ⟨w.heap.size, 3, none⟩ = some (.int .u64 0) := hG3.cell 3
 have y4 : w3.cell? ⟨w.heap.size, 4, none⟩ = some (.int .u64 0) := hG3.cell 4
 have y5 : w3.cell? ⟨w.heap.size, 5, none⟩ = some (.slice none 0 0) := hG3.cell 5
 have y6 : w3.cell? ⟨w.heap.size, 6, none⟩ = some (.int .i64 0) := hG3.cell 6
 have y7 : w3.cell? ⟨w.heap.size, 7, none⟩ = some (.int .i64 0) := hG3.cell 7
 have z0 := hG3.frozen 0
 have z1 := hG3.frozen 1
 have z2 := hG3.frozen 2
 have z3 := hG3.frozen 3
 have z4 := hG3.frozen 4
 have z5 := hG3.frozen 5
 have z6 := hG3.frozen 6
 have z7 := hG3.frozen 7
 obtain ⟨b0, b1, f0, f1⟩ := hH3.c2
 clear hb3 hG3 hH3 H1 HB2 HG2 HH2
 dsimp only
 go_wp2
 go_region
 all_goals go_wp2
 all_goals go_light
 rw [HV.out]
 exact bodyPost_ret (ret_tree Tryz.results61 rfl rfl (((HG3.out.put8 _ _ _ _ _ _ _ _).far2 (by omega) _ _).alloc _).drew (((HH3.out.past8 (by omega) _ _ _ _ _ _ _ _).set2).alloc _).drew) rfl ⟨rfl, ((below_set2 (below_put8 HB3.out (Nat.le_refl _) _ _ _ _ _ _ _ _) (by omega) _ _).alloc (by have := HB3.out.size; simpa [World.setCell] using this) _).drew⟩
theorem laid {n : Nat} {w w6 w7 : World} {x : Nd} {B : Option Addr} {cap : Nat} {k q : Int} (hG : Blk w6 n 28 #[.int .i64 0, .int .u64 0, .int .u64 0, .int .u64 0, .int .u64 0, .slice none 0 0, .int .i64 0, .int .i64 0]) (hH : Blk w6 (n + 1) 77 #[.int .i64 0, .int .i64 0]) (hB : Below n w w6) (hT : TreesAt w6 (fun b => n + 2 ≤ b) x.kids B)
  (hw : w7 = (((((((((w6.setCell ⟨n, 0, none⟩ (.int .i64 x.kind)).setCell ⟨n, 1, none⟩ (.int .u64 (word x.set.testBit 0))).setCell ⟨n, 2, none⟩ (.int .u64 (word x.set.testBit 1))).setCell ⟨n, 3, none⟩ (.int .u64 (word x.set.testBit 2))).setCell ⟨n, 4, none⟩ (.int .u64 (word x.set.testBit 3))).setCell ⟨n, 5, none⟩ (.slice B x.kids.len cap)).setCell ⟨n, 6, none⟩ (.int .i64 x.lo)).setCell ⟨n, 7, none⟩ (.int .i64 x.hi)).setCell ⟨n + 1, 0, none⟩ (.int .i64 k)).setCell ⟨n + 1, 1, none⟩ (.int .i64 q)) :
  Blk w7 n 28 (ndA x B cap) ∧ Blk w7 (n + 1) 77 #[.int .i64 k, .int .i64 q] ∧ Below n w w7 ∧ TreesAt w7 (fun b => n ≤ b) x.kids B := by
 have hg1 := only_put8 w6 n (.int .i64 x.kind) (.int .u64 (word x.set.testBit 0)) (.int .u64 (word x.set.testBit 1)) (.int .u64 (word x.set.testBit 2)) (.int .u64 (word x.set.testBit 3)) (.slice B x.kids.len cap) (.int .i64 x.lo) (.int .i64 x.hi)
 have ht7 := TreesAt.keep (Q := fun b => n + 2 ≤ b) (fun b o (hb : n + 2 ≤ b) hl => World.cell?_of_block (hg1.block b hl (by simp; omega))) (fun b hb _ => hb) hT
 have hg2 := only_set (only_set (only_refl ((((((((w6.setCell ⟨n, 0, none⟩ (.int .i64 x.kind)).setCell ⟨n, 1, none⟩ (.int .u64 (word x.set.testBit 0))).setCell ⟨n, 2, none⟩ (.int .u64 (word x.set.testBit 1))).setCell ⟨n, 3, none⟩ (.int .u64 (word x.set.testBit 2))).setCell ⟨n, 4, none⟩ (.int .u64 (word x.set.testBit 3))).setCell ⟨n, 5, none⟩ (.slice B x.kids.len cap)).setCell ⟨n, 6, none⟩ (.int .i64 x.lo)).setCell ⟨n, 7, none⟩ (.int .i64 x.hi)) (some (n + 1))) 0 (.int .i64 k)) 1 (.int .i64 q)
 have ht8 := TreesAt.keep (Q := fun b => n ≤ b) (fun b o (hb : n + 2 ≤ b) hl => World.cell?_of_block (hg2.block b hl (by simp; omega))) (fun b (hb : n + 2 ≤ b) _ => by omega) ht7
 have hG7 := (hG.put8 (.int .i64 x.kind) (.int .u64 (word x.set.testBit 0)) (.int .u64 (word x.set.testBit 1)) (.int .u64 (word x.set.testBit 2)) (.int .u64 (word x.set.testBit 3)) (.slice B x.kids.len cap) (.int .i64 x.lo) (.int .i64 x.hi)).far2 (g' := n + 1) (by omega) (.int .i64 k) (.int .i64 q)
 have hH7 := (hH.past8 (g' := n) (by omega) (.int .i64 x.kind) (.int .u64 (word x.set.testBit 0)) (.int .u64 (word x.set.testBit 1)) (.int .u64 (word x.set.testBit 2)) (.int .u64 (word x.set.testBit 3)) (.slice B x.kids.len cap) (.int .i64 x.lo) (.int .i64 x.hi)).set2 (a' := .int .i64 k) (b' := .int .i64 q)
 have hb7 := below_set2 (below_put8 hB (Nat.le_refl _) (.int .i64 x.kind) (.int .u64 (word x.set.testBit 0)) (.int .u64 (word x.set.testBit 1)) (.int .u64 (word x.set.testBit 2)) (.int .u64 (word x.set.testBit 3)) (.slice B x.kids.len cap) (.int .i64 x.lo) (.int .i64 x.hi)) (Nat.le_succ n) (.int .i64 k) (.int .i64 q)
 rw [hw]
 exact ⟨hG7, hH7, hb7, ht8⟩
theorem text_many (A : Option Addr) (cap : Nat) (bs : List Nat) (w : World) (hA : BytesAt w w.heap.size A bs) (hcap : bs.length ≤ cap) {L : List Lex} (hs : splitS bs = .ok L) (h1 : L.length ≠ 1) :
  Calls Tryz.prog 61 #[.slice A bs.length cap] w (TreeOut (parseS bs) w) := by
 have hd : ((L.length : Int) == 1) = false := by rw [beq_eq_false_iff_ne]; omega
 have hV : parseS bs = lexemesS L := by unfold parseS; rw [hs]
 clear h1
 cases hx : lexemesS L with
 | error x =>
  obtain ⟨k, q⟩ := x
  have HV := Lib.hid (hV.trans hx)
  have HX := Lib.hid hx
  clear hV hx
  have hL65 := (splitS_right hA.1 hs).2.2
  have hb2 : Below w.heap.size w ((w.alloc (.cells #[.int .i64 0, .int .u64 0, .int .u64 0, .int .u64 0, .int .u64 0, .slice none 0 0, .int .i64 0, .int .i64 0] 28)).alloc (.cells #[.int .i64 0, .int .i64 0] 77)) := ((Below.refl _ _).alloc (Nat.le_refl _) _).alloc (by simp) _
  have HB2 := Lib.hid hb2
  have HG2 := Lib.hid (show Blk ((w.alloc (.cells #[.int .i64 0, .int .u64 0, .int .u64 0, .int .u64 0, .int .u64 0, .slice none 0 0, .int .i64 0, .int .i64 0] 28)).alloc (.cells #[.int .i64 0, .int .i64 0] 77)) w.heap.size 28 _ from (Blk.new w 28 #[.int .i64 0, .int .u64 0, .int .u64 0, .int .u64 0, .int .u64 0, .slice none 0 0, .int .i64 0, .int .i64 0]).alloc _)
  have HH2 := Lib.hid (show Blk ((w.alloc (.cells #[.int .i64 0, .int .u64 0, .int .u64 0, .int .u64 0, .int .u64 0, .slice none 0 0, .int .i64 0, .int .i64 0] 28)).alloc (.cells #[.int .i64 0, .int .i64 0] 77)) (w.heap.size + 1) 77 #[.int .i64 0, .int .i64 0] from Blk.new_at (by simp))
  have h1 := split_go A cap bs _ ((hA.below hb2).more (by simp; omega)) hcap
  rw [hs] at h1
  have H1 := Lib.hid h1
  clear hb2 hA h1
  go_enter Tryz.func61, Tryz.ntmps61
  go_wp2_with fail
  refine H1.out.mono ?_
  rintro e w3 ⟨v, rfl, hb3, hrow3⟩
  obtain ⟨A3, cap3, rfl⟩ := own_slice hrow3
  have hb4 : Below w3.heap.size w3 (w3.alloc (.cells #[.int .i64 0, .int .i64 0] 77)) := (Below.refl _ _).alloc (Nat.le_refl _) _
  have HB4 := Lib.hid (HB2.out.trans ((hb3.trans (hb4.mono hb3.size)).mono HB2.out.size))
  have hG4 := (HG2.out.below hb3 HG2.out.lt).alloc (.cells #[.int .i64 0, .int .i64 0] 77)
  have hH4 := (HH2.out.below hb3 HH2.out.lt).alloc (.cells #[.int .i64 0, .int .i64 0] 77)
  have hc3 := own_room hrow3 rfl
  have HL4 := Lib.hid (((lexRow_of hrow3).at.below hb4).more hb4.size)
  have hsz4 : w.heap.size + 2 < (w3.alloc (.cells #[.int .i64 0, .int .i64 0] 77)).heap.size := by have := hb3.size; simp at this ⊢; omega
  have HG4 := Lib.hid hG4
  have HH4 := Lib.hid hH4
  clear hb3 hrow3 hb4 H1 HB2 HG2 HH2
  dsimp only
  skip
  have hP := lexemes_go _ cap3 L _ HL4.out (by omega) hc3
  rw [HX.out] at hP
  have HP := Lib.hid hP
  clear hP
  go_wp2_with fail
  refine HP.out.mono ?_
  rintro e w6 ⟨rfl, hb6⟩
  have hG6 := HG4.out.below hb6 HG4.out.lt
  have hH6 := HH4.out.below hb6 HH4.out.lt
  have HB6 := Lib.hid (HB4.out.trans (hb6.mono (by omega)))
  have y0 : w6.cell? ⟨w.heap.size, 0, none⟩ = some (.int .i64 0) := hG6.cell 0
  have y1 : w6.cell? ⟨w.heap.size, 1, none⟩ = some (.int .u64 0) := hG6.cell 1
  have y2 : w6.cell? ⟨w.heap.size, 2, none⟩ = some (.int .u64 0) := hG6.cell 2
  have y3 : w6.cell? ⟨w.heap.size, 3, none⟩ = some (.int .u64 0) := hG6.cell 3
  have y4 : w6.cell? ⟨w.heap.size, 4, none⟩ = some (.int .u64 0) := hG6.cell 4
  have y5 : w6.cell? ⟨w.heap.size, 5, none⟩ = some (.slice none 0 0) := hG6.cell 5
  have y6 : w6.cell? ⟨w.heap.size, 6, none⟩ = some (.int .i64 0) := hG6.cell 6
  have y7 : w6.cell? ⟨w.heap.size, 7, none⟩ = some (.int .i64 0) := hG6.cell 7
  have z0 := hG6.frozen 0
  have z1 := hG6.frozen 1
  have z2 := hG6.frozen 2
  have z3 := hG6.frozen 3
  have z4 := hG6.frozen 4
  have z5 := hG6.frozen 5
  have z6 := hG6.frozen 6
  have z7 := hG6.frozen 7
  obtain ⟨b0, b1, f0, f1⟩ := hH6.c2
  have HG6 := Lib.hid hG6
  have HH6 := Lib.hid hH6
  clear hb6 hG6 hH6 HP HG4 HH4 HB4 hG4 hH4
  unfold zeroN
  dsimp only
  go_wp2
  go_light
  rw [HV.out]
  exact bodyPost_ret (ret_tree Tryz.results61 rfl rfl ((HG6.out.put8 _ _ _ _ _ _ _ _).far2 (by omega) _ _) ((HH6.out.past8 (by omega) _ _ _ _ _ _ _ _).set2)) rfl ⟨rfl, below_set2 (below_put8 HB6.out (Nat.le_refl _) _ _ _ _ _ _ _ _) (by omega) _ _⟩
 | ok x =>
  have HV := Lib.hid (hV.trans hx)
  have HX := Lib.hid hx
  clear hV hx
  have hL65 := (splitS_right hA.1 hs).2.2
  have hb2 : Below w.heap.size w ((w.alloc (.cells #[.int .i64 0, .int .u64 0, .int .u64 0, .int .u64 0, .int .u64 0, .slice none 0 0, .int .i64 0, .int .i64 0] 28)).alloc (.cells #[.int .i64 0, .int .i64 0] 77)) := ((Below.refl _ _).alloc (Nat.le_refl _) _).alloc (by simp) _
  have HB2 := Lib.hid hb2
  have HG2 := Lib.hid (show Blk ((w.alloc (.cells #[.int .i64 0, .int .u64 0, .int .u64 0, .int .u64 0, .int .u64 0, .slice none 0 0, .int .i64 0, .int .i64 0] 28)).alloc (.cells #[.int .i64 0, .int .i64 0] 77)) w.heap.size 28 _ from (Blk.new w 28 #[.int .i64 0, .int .u64 0, .int .u64 0, .int .u64 0, .int .u64 0, .slice none 0 0, .int .i64 0, .int .i64 0]).alloc _)
  have HH2 := Lib.hid (show Blk ((w.alloc (.cells #[.int .i64 0, .int .u64 0, .int .u64 0, .int .u64 0, .int .u64 0, .slice none 0 0, .int .i64 0, .int .i64 0] 28)).alloc (.cells #[.int .i64 0, .int .i64 0] 77)) (w.heap.size + 1) 77 #[.int .i64 0, .int .i64 0] from Blk.new_at (by simp))
  have h1 := split_go A cap bs _ ((hA.below hb2).more (by simp; omega)) hcap
  rw [hs] at h1
  have H1 := Lib.hid h1
  clear hb2 hA h1
  go_enter Tryz.func61, Tryz.ntmps61
  go_wp2_with fail
  refine H1.out.mono ?_
  rintro e w3 ⟨v, rfl, hb3, hrow3⟩
  obtain ⟨A3, cap3, rfl⟩ := own_slice hrow3
  have hb4 : Below w3.heap.size w3 (w3.alloc (.cells #[.int .i64 0, .int .i64 0] 77)) := (Below.refl _ _).alloc (Nat.le_refl _) _
  have HB4 := Lib.hid (HB2.out.trans ((hb3.trans (hb4.mono hb3.size)).mono HB2.out.size))
  have hG4 := (HG2.out.below hb3 HG2.out.lt).alloc (.cells #[.int .i64 0, .int .i64 0] 77)
  have hH4 := (HH2.out.below hb3 HH2.out.lt).alloc (.cells #[.int .i64 0, .int .i64 0] 77)
  have hc3 := own_room hrow3 rfl
  have HL4 := Lib.hid (((lexRow_of hrow3).at.below hb4).more hb4.size)
  have hsz4 : w.heap.size + 2 < (w3.alloc (.cells #[.int .i64 0, .int .i64 0] 77)).heap.size := by have := hb3.size; simp at this ⊢; omega
  have HG4 := Lib.hid hG4
  have HH4 := Lib.hid hH4
  clear hb3 hrow3 hb4 H1 HB2 HG2 HH2
  dsimp only
  skip
  have hP := lexemes_go _ cap3 L _ HL4.out (by omega) hc3
  rw [HX.out] at hP
  have HP := Lib.hid hP
  clear hP
  go_wp2_with fail
  refine HP.out.mono ?_
  rintro e w6 ⟨B, cap6, rfl, hb6, hc6, ht6⟩
  have hG6 := HG4.out.below hb6 HG4.out.lt
  have hH6 := HH4.out.below hb6 HH4.out.lt
  have HB6 := Lib.hid (HB4.out.trans (hb6.mono (by omega)))
  have HT6 := Lib.hid (ht6.weak (Q := fun b => w.heap.size + 2 ≤ b) (fun b hb _ => by omega))
  have y0 : w6.cell? ⟨w.heap.size, 0, none⟩ = some (.int .i64 0) := hG6.cell 0
  have y1 : w6.cell? ⟨w.heap.size, 1, none⟩ = some (.int .u64 0) := hG6.cell 1
  have y2 : w6.cell? ⟨w.heap.size, 2, none⟩ = some (.int .u64 0) := hG6.cell 2
  have y3 : w6.cell? ⟨w.heap.size, 3, none⟩ = some (.int .u64 0) := hG6.cell 3
  have y4 : w6.cell? ⟨w.heap.size, 4, none⟩ = some (.int .u64 0) := hG6.cell 4
  have y5 : w6.cell? ⟨w.heap.size, 5, none⟩ = some (.slice none 0 0) := hG6.cell 5
  have y6 : w6.cell? ⟨w.heap.size, 6, none⟩ = some (.int .i64 0) := hG6.cell 6
  have y7 : w6.cell? ⟨w.heap.size, 7, none⟩ = some (.int .i64 0) := hG6.cell 7
  have z0 := hG6.frozen 0
  have z1 := hG6.frozen 1
  have z2 := hG6.frozen 2
  have z3 := hG6.frozen 3
  have z4 := hG6.frozen 4
  have z5 := hG6.frozen 5
  have z6 := hG6.frozen 6
  have z7 := hG6.frozen 7
  obtain ⟨b0, b1, f0, f1⟩ := hH6.c2
  have HG6 := Lib.hid hG6
  have HH6 := Lib.hid hH6
  clear hb6 ht6 hG6 hH6 HP HG4 HH4 HB4 hG4 hH4
  unfold ndV
  dsimp only
  go_wp2
  go_light
  have hF := laid (x := x) (B := B) (cap := cap6) (k := 0) (q := 0) HG6.out HH6.out HB6.out HT6.out rfl
  rw [HV.out]
  exact bodyPost_ret (ret_tree Tryz.results61 rfl rfl hF.1 hF.2.1) rfl ⟨B, cap6, rfl, hF.2.2.1, hc6, hF.2.2.2⟩
theorem text_sign (A : Option Addr) (cap : Nat) (bs : List Nat) (w : World) (hA : BytesAt w w.heap.size A bs) (hcap : bs.length ≤ cap) {y : Lex} (hs : splitS bs = .ok [y]) (h1 : y.kind ≠ 1) :
  Calls Tryz.prog 61 #[.slice A bs.length cap] w (TreeOut (parseS bs) w) := by
 obtain ⟨L, hL⟩ : ∃ L, L = [y] := ⟨_, rfl⟩
 have HLy := Lib.hid hL
 rw [← hL] at hs
 have hlen : L.length = 1 := by rw [hL]; rfl
 clear hL
 have hd : ((L.length : Int) == 1) = true := by rw [beq_iff_eq]; omega
 have hd0 : (0 : Int) < (L.length : Int) := by omega
 have hy : L[0]? = some y := by rw [HLy.out]; rfl
 have Hy := Lib.hid hy
 have hk : (y.kind == 1) = false := by simp; exact h1
 have hV : parseS bs = lexemesS L := by unfold parseS; rw [hs]
 clear h1 hlen hy
 cases hx : lexemesS L with
 | error x =>
  obtain ⟨k, q⟩ := x
  have HV := Lib.hid (hV.trans hx)
  have HX := Lib.hid hx
  clear hV hx
  have hL65 := (splitS_right hA.1 hs).2.2
  have hb2 : Below w.heap.size w ((w.alloc (.cells #[.int .i64 0, .int .u64 0, .int .u64 0, .int .u64 0, .int .u64 0, .slice none 0 0, .int .i64 0, .int .i64 0] 28)).alloc (.cells #[.int .i64 0, .int .i64 0] 77)) := ((Below.refl _ _).alloc (Nat.le_refl _) _).alloc (by simp) _
  have HB2 := Lib.hid hb2
  have HG2 := Lib.hid (show Blk ((w.alloc (.cells #[.int .i64 0, .int .u64 0, .int .u64 0, .int .u64 0, .int .u64 0, .slice none 0 0, .int .i64 0, .int .i64 0] 28)).alloc (.cells #[.int .i64 0, .int .i64 0] 77)) w.heap.size 28 _ from (Blk.new w 28 #[.int .i64 0, .int .u64 0, .int .u64 0, .int .u64 0, .int .u64 0, .slice none 0 0, .int .i64 0, .int .i64 0]).alloc _)
  have HH2 := Lib.hid (show Blk ((w.alloc (.cells #[.int .i64 0, .int .u64 0, .int .u64 0, .int .u64 0, .int .u64 0, .slice none 0 0, .int .i64 0, .int .i64 0] 28)).alloc (.cells #[.int .i64 0, .int .i64 0] 77)) (w.heap.size + 1) 77 #[.int .i64 0, .int .i64 0] from Blk.new_at (by simp))
  have h1 := split_go A cap bs _ ((hA.below hb2).more (by simp; omega)) hcap
  rw [hs] at h1
  have H1 := Lib.hid h1
  clear hb2 hA h1
  go_enter Tryz.func61, Tryz.ntmps61
  go_wp2_with fail
  refine H1.out.mono ?_
  rintro e w3 ⟨v, rfl, hb3, hrow3⟩
  obtain ⟨A3, cap3, rfl⟩ := own_slice hrow3
  have hb4 : Below w3.heap.size w3 (w3.alloc (.cells #[.int .i64 0, .int .i64 0] 77)) := (Below.refl _ _).alloc (Nat.le_refl _) _
  have HB4 := Lib.hid (HB2.out.trans ((hb3.trans (hb4.mono hb3.size)).mono HB2.out.size))
  have hG4 := (HG2.out.below hb3 HG2.out.lt).alloc (.cells #[.int .i64 0, .int .i64 0] 77)
  have hH4 := (HH2.out.below hb3 HH2.out.lt).alloc (.cells #[.int .i64 0, .int .i64 0] 77)
  have hc3 := own_room hrow3 rfl
  have HL4 := Lib.hid (((lexRow_of hrow3).at.below hb4).more hb4.size)
  have hsz4 : w.heap.size + 2 < (w3.alloc (.cells #[.int .i64 0, .int .i64 0] 77)).heap.size := by have := hb3.size; simp at this ⊢; omega
  have HG4 := Lib.hid hG4
  have HH4 := Lib.hid hH4
  clear hb3 hrow3 hb4 H1 HB2 HG2 HH2
  dsimp only
  obtain ⟨b4, o4, rfl, hbl4, hc4⟩ := HL4.out (by omega); obtain ⟨q0, _⟩ := hc4 0 y Hy.out; simp only [Nat.zero_mul, Nat.add_zero] at q0; clear hc4
  have hP := lexemes_go _ cap3 L _ HL4.out (by omega) hc3
  rw [HX.out] at hP
  have HP := Lib.hid hP
  clear hP
  go_wp2_with fail
  refine HP.out.mono ?_
  rintro e w6 ⟨rfl, hb6⟩
  have hG6 := HG4.out.below hb6 HG4.out.lt
  have hH6 := HH4.out.below hb6 HH4.out.lt
  have HB6 := Lib.hid (HB4.out.trans (hb6.mono (by omega)))
  have y0 : w6.cell? ⟨w.heap.size, 0, none⟩ = some (.int .i64 0) := hG6.cell 0
  have y1 : w6.cell? ⟨w.heap.size, 1, none⟩ = some (.int .u64 0) := hG6.cell 1
  have y2 : w6.cell? ⟨w.heap.size, 2, none⟩ = some (.int .u64 0) := hG6.cell 2
  have y3 : w6.cell? ⟨w.heap.size, 3, none⟩ = some (.int .u64 0) := hG6.cell 3
  have y4 : w6.cell? ⟨w.heap.size, 4, none⟩ = some (.int .u64 0) := hG6.cell 4
  have y5 : w6.cell? ⟨w.heap.size, 5, none⟩ = some (.slice none 0 0) := hG6.cell 5
  have y6 : w6.cell? ⟨w.heap.size, 6, none⟩ = some (.int .i64 0) := hG6.cell 6
  have y7 : w6.cell? ⟨w.heap.size, 7, none⟩ = some (.int .i64 0) := hG6.cell 7
  have z0 := hG6.frozen 0
  have z1 := hG6.frozen 1
  have z2 := hG6.frozen 2
  have z3 := hG6.frozen 3
  have z4 := hG6.frozen 4
  have z5 := hG6.frozen 5
  have z6 := hG6.frozen 6
  have z7 := hG6.frozen 7
  obtain ⟨b0, b1, f0, f1⟩ := hH6.c2
  have HG6 := Lib.hid hG6
  have HH6 := Lib.hid hH6
  clear hb6 hG6 hH6 HP HG4 HH4 HB4 hG4 hH4
  unfold zeroN
  dsimp only
  go_wp2
  go_light
  rw [HV.out]
  exact bodyPost_ret (ret_tree Tryz.results61 rfl rfl ((HG6.out.put8 _ _ _ _ _ _ _ _).far2 (by omega) _ _) ((HH6.out.past8 (by omega) _ _ _ _ _ _ _ _).set2)) rfl ⟨rfl, below_set2 (below_put8 HB6.out (Nat.le_refl _) _ _ _ _ _ _ _ _) (by omega) _ _⟩
 | ok x =>
  have HV := Lib.hid (hV.trans hx)
  have HX := Lib.hid hx
  clear hV hx
  have hL65 := (splitS_right hA.1 hs).2.2
  have hb2 : Below w.heap.size w ((w.alloc (.cells #[.int .i64 0, .int .u64 0, .int .u64 0, .int .u64 0, .int .u64 0, .slice none 0 0, .int .i64 0, .int .i64 0] 28)).alloc (.cells #[.int .i64 0, .int .i64 0] 77)) := ((Below.refl _ _).alloc (Nat.le_refl _) _).alloc (by simp) _
  have HB2 := Lib.hid hb2
  have HG2 := Lib.hid (show Blk ((w.alloc (.cells #[.int .i64 0, .int .u64 0, .int .u64 0, .int .u64 0, .int .u64 0, .slice none 0 0, .int .i64 0, .int .i64 0] 28)).alloc (.cells #[.int .i64 0, .int .i64 0] 77)) w.heap.size 28 _ from (Blk.new w 28 #[.int .i64 0, .int .u64 0, .int .u64 0, .int .u64 0, .int .u64 0, .slice none 0 0, .int .i64 0, .int .i64 0]).alloc _)
  have HH2 := Lib.hid (show Blk ((w.alloc (.cells #[.int .i64 0, .int .u64 0, .int .u64 0, .int .u64 0, .int .u64 0, .slice none 0 0, .int .i64 0, .int .i64 0] 28)).alloc (.cells #[.int .i64 0, .int .i64 0] 77)) (w.heap.size + 1) 77 #[.int .i64 0, .int .i64 0] from Blk.new_at (by simp))
  have h1 := split_go A cap bs _ ((hA.below hb2).more (by simp; omega)) hcap
  rw [hs] at h1
  have H1 := Lib.hid h1
  clear hb2 hA h1
  go_enter Tryz.func61, Tryz.ntmps61
  go_wp2_with fail
  refine H1.out.mono ?_
  rintro e w3 ⟨v, rfl, hb3, hrow3⟩
  obtain ⟨A3, cap3, rfl⟩ := own_slice hrow3
  have hb4 : Below w3.heap.size w3 (w3.alloc (.cells #[.int .i64 0, .int .i64 0] 77)) := (Below.refl _ _).alloc (Nat.le_refl _) _
  have HB4 := Lib.hid (HB2.out.trans ((hb3.trans (hb4.mono hb3.size)).mono HB2.out.size))
  have hG4 := (HG2.out.below hb3 HG2.out.lt).alloc (.cells #[.int .i64 0, .int .i64 0] 77)
  have hH4 := (HH2.out.below hb3 HH2.out.lt).alloc (.cells #[.int .i64 0, .int .i64 0] 77)
  have hc3 := own_room hrow3 rfl
  have HL4 := Lib.hid (((lexRow_of hrow3).at.below hb4).more hb4.size)
  have hsz4 : w.heap.size + 2 < (w3.alloc (.cells #[.int .i64 0, .int .i64 0] 77)).heap.size := by have := hb3.size; simp at this ⊢; omega
  have HG4 := Lib.hid hG4
  have HH4 := Lib.hid hH4
  clear hb3 hrow3 hb4 H1 HB2 HG2 HH2
  dsimp only
  obtain ⟨b4, o4, rfl, hbl4, hc4⟩ := HL4.out (by omega); obtain ⟨q0, _⟩ := hc4 0 y Hy.out; simp only [Nat.zero_mul, Nat.add_zero] at q0; clear hc4
  have hP := lexemes_go _ cap3 L _ HL4.out (by omega) hc3
  rw [HX.out] at hP
  have HP := Lib.hid hP
  clear hP
  go_wp2_with fail
  refine HP.out.mono ?_
  rintro e w6 ⟨B, cap6, rfl, hb6, hc6, ht6⟩
  have hG6 := HG4.out.below hb6 HG4.out.lt
  have hH6 := HH4.out.below hb6 HH4.out.lt
  have HB6 := Lib.hid (HB4.out.trans (hb6.mono (by omega)))
  have HT6 := Lib.hid (ht6.weak (Q := fun b => w.heap.size + 2 ≤ b) (fun b hb _ => by omega))
  have y0 : w6.cell? ⟨w.heap.size, 0, none⟩ = some (.int .i64 0) := hG6.cell 0
  have y1 : w6.cell? ⟨w.heap.size, 1, none⟩ = some (.int .u64 0) := hG6.cell 1
  have y2 : w6.cell? ⟨w.heap.size, 2, none⟩ = some (.int .u64 0) := hG6.cell 2
  have y3 : w6.cell? ⟨w.heap.size, 3, none⟩ = some (.int .u64 0) := hG6.cell 3
  have y4 : w6.cell? ⟨w.heap.size, 4, none⟩ = some (.int .u64 0) := hG6.cell 4
  have y5 : w6.cell? ⟨w.heap.size, 5, none⟩ = some (.slice none 0 0) := hG6.cell 5
  have y6 : w6.cell? ⟨w.heap.size, 6, none⟩ = some (.int .i64 0) := hG6.cell 6
  have y7 : w6.cell? ⟨w.heap.size, 7, none⟩ = some (.int .i64 0) := hG6.cell 7
  have z0 := hG6.frozen 0
  have z1 := hG6.frozen 1
  have z2 := hG6.frozen 2
  have z3 := hG6.frozen 3
  have z4 := hG6.frozen 4
  have z5 := hG6.frozen 5
  have z6 := hG6.frozen 6
  have z7 := hG6.frozen 7
  obtain ⟨b0, b1, f0, f1⟩ := hH6.c2
  have HG6 := Lib.hid hG6
  have HH6 := Lib.hid hH6
  clear hb6 ht6 hG6 hH6 HP HG4 HH4 HB4 hG4 hH4
  unfold ndV
  dsimp only
  go_wp2
  go_light
  have hF := laid (x := x) (B := B) (cap := cap6) (k := 0) (q := 0) HG6.out HH6.out HB6.out HT6.out rfl
  rw [HV.out]
  exact bodyPost_ret (ret_tree Tryz.results61 rfl rfl hF.1 hF.2.1) rfl ⟨B, cap6, rfl, hF.2.2.1, hc6, hF.2.2.2⟩
theorem text_set (A : Option Addr) (cap : Nat) (bs : List Nat) (w : World) (hA : BytesAt w w.heap.size A bs) (hcap : bs.length ≤ cap) {y : Lex} (hs : splitS bs = .ok [y]) (h1 : y.kind = 1) :
  Calls Tryz.prog 61 #[.slice A bs.length cap] w (TreeOut (parseS bs) w) := by
 have hr : rightS y = true := (splitS_right hA.1 hs).1 0 y rfl
 have hx := one_leaf hr h1
 have HV := Lib.hid (show parseS bs = .ok (leafN (maskOf y.set)) by unfold parseS; rw [hs]; exact hx)
 obtain ⟨L, hL⟩ : ∃ L, L = [y] := ⟨_, rfl⟩
 have HLy := Lib.hid hL
 rw [← hL] at hs hx
 have HX := Lib.hid hx
 have hlen : L.length = 1 := by rw [hL]; rfl
 clear hL
 have hd : ((L.length : Int) == 1) = true := by rw [beq_iff_eq]; omega
 have hd0 : (0 : Int) < (L.length : Int) := by omega
 have hy : L[0]? = some y := by rw [HLy.out]; rfl
 have Hy := Lib.hid hy
 clear hlen hy hr hx
 have hL65 := (splitS_right hA.1 hs).2.2
 have hb2 : Below w.heap.size w ((w.alloc (.cells #[.int .i64 0, .int .u64 0, .int .u64 0, .int .u64 0, .int .u64 0, .slice none 0 0, .int .i64 0, .int .i64 0] 28)).alloc (.cells #[.int .i64 0, .int .i64 0] 77)) := ((Below.refl _ _).alloc (Nat.le_refl _) _).alloc (by simp) _
 have HB2 := Lib.hid hb2
 have HG2 := Lib.hid (show Blk ((w.alloc (.cells #[.int .i64 0, .int .u64 0, .int .u64 0, .int .u64 0, .int .u64 0, .slice none 0 0, .int .i64 0, .int .i64 0] 28)).alloc (.cells #[.int .i64 0, .int .i64 0] 77)) w.heap.size 28 _ from (Blk.new w 28 #[.int .i64 0, .int .u64 0, .int .u64 0, .int .u64 0, .int .u64 0, .slice none 0 0, .int .i64 0, .int .i64 0]).alloc _)
 have HH2 := Lib.hid (show Blk ((w.alloc (.cells #[.int .i64 0, .int .u64 0, .int .u64 0, .int .u64 0, .int .u64 0, .slice none 0 0, .int .i64 0, .int .i64 0] 28)).alloc (.cells #[.int .i64 0, .int .i64 0] 77)) (w.heap.size + 1) 77 #[.int .i64 0, .int .i64 0] from Blk.new_at (by simp))
 have h1 := split_go A cap bs _ ((hA.below hb2).more (by simp; omega)) hcap
 rw [hs] at h1
 have H1 := Lib.hid h1
 clear hb2 hA h1
 go_enter Tryz.func61, Tryz.ntmps61
 go_wp2_with fail
 refine H1.out.mono ?_
 rintro e w3 ⟨v, rfl, hb3, hrow3⟩
 obtain ⟨A3, cap3, rfl⟩ := own_slice hrow3
 have hb4 : Below w3.heap.size w3 (w3.alloc (.cells #[.int .i64 0, .int .i64 0] 77)) := (Below.refl _ _).alloc (Nat.le_refl _) _
 have HB4 := Lib.hid (HB2.out.trans ((hb3.trans (hb4.mono hb3.size)).mono HB2.out.size))
 have hG4 := (HG2.out.below hb3 HG2.out.lt).alloc (.cells #[.int .i64 0, .int .i64 0] 77)
 have hH4 := (HH2.out.below hb3 HH2.out.lt).alloc (.cells #[.int .i64 0, .int .i64 0] 77)
 have hc3 := own_room hrow3 rfl
 have HL4 := Lib.hid (((lexRow_of hrow3).at.below hb4).more hb4.size)
 have hsz4 : w.heap.size + 2 < (w3.alloc (.cells #[.int .i64 0, .int .i64 0] 77)).heap.size := by have := hb3.size; simp at this ⊢; omega
 have HG4 := Lib.hid hG4
 have HH4 := Lib.hid hH4
 clear hb3 hrow3 hb4 H1 HB2 HG2 HH2
 dsimp only
 obtain ⟨b4, o4, rfl, hbl4, hc4⟩ := HL4.out (by omega)
 obtain ⟨q0, _, q2, q3, q4, q5, _⟩ := hc4 0 y Hy.out
 simp only [Nat.zero_mul, Nat.add_zero] at q0 q2 q3 q4 q5
 rw [h1] at q0
 have q3' : (w3.alloc (.cells #[.int .i64 0, .int .i64 0] 77)).cell? ⟨b4, o4 + 2 + 1, none⟩ = some (.int .u64 (word y.set 1)) := q3
 have q4' : (w3.alloc (.cells #[.int .i64 0, .int .i64 0] 77)).cell? ⟨b4, o4 + 2 + 2, none⟩ = some (.int .u64 (word y.set 2)) := q4
 have q5' : (w3.alloc (.cells #[.int .i64 0, .int .i64 0] 77)).cell? ⟨b4, o4 + 2 + 3, none⟩ = some (.int .u64 (word y.set 3)) := q5
 clear hc4 hG4 hH4
 go_wp2_with fail
 refine (count_go y.set _).mono ?_
 rintro e w5 ⟨rfl, hb5⟩
 have hG5 := HG4.out.below hb5 HG4.out.lt
 have hH5 := HH4.out.below hb5 HH4.out.lt
 have HB5 := Lib.hid (HB4.out.trans (hb5.mono (by omega)))
 have HL5 := Lib.hid ((HL4.out.below hb5).more hb5.size)
 have hsz5 := hb5.size
 have q2 := (hb5.cell (p := ⟨b4, o4 + 2, none⟩) hbl4).trans q2
 have q3' := (hb5.cell (p := ⟨b4, o4 + 2 + 1, none⟩) hbl4).trans q3'
 have q4' := (hb5.cell (p := ⟨b4, o4 + 2 + 2, none⟩) hbl4).trans q4'
 have q5' := (hb5.cell (p := ⟨b4, o4 + 2 + 3, none⟩) hbl4).trans q5'
 have HG5 := Lib.hid hG5
 have HH5 := Lib.hid hH5
 clear hb5 hG5 hH5 HB4 HG4 HH4 HL4 q0
 dsimp only
 by_cases hcn : cnt y.set 256 = 1
 ·rw [hcn]
  clear hcn
  go_wp2_with fail
  refine (tbytes_any y.set _).mono ?_
  rintro e w6 ⟨rfl, hb6⟩
  have hG6 := HG5.out.below hb6 HG5.out.lt
  have hH6 := HH5.out.below hb6 HH5.out.lt
  have HB6 := Lib.hid (HB5.out.trans (hb6.mono (by omega)))
  have HT6 : Hid (TreesAt w6 (fun b => w.heap.size + 2 ≤ b) (leafN (maskOf y.set)).kids none) := Lib.hid trivial
  have y0 : w6.cell? ⟨w.heap.size, 0, none⟩ = some (.int .i64 0) := hG6.cell 0
  have y1 : w6.cell? ⟨w.heap.size, 1, none⟩ = some (.int .u64 0) := hG6.cell 1
  have y2 : w6.cell? ⟨w.heap.size, 2, none⟩ = some (.int .u64 0) := hG6.cell 2
  have y3 : w6.cell? ⟨w.heap.size, 3, none⟩ = some (.int .u64 0) := hG6.cell 3
  have y4 : w6.cell? ⟨w.heap.size, 4, none⟩ = some (.int .u64 0) := hG6.cell 4
  have y5 : w6.cell? ⟨w.heap.size, 5, none⟩ = some (.slice none 0 0) := hG6.cell 5
  have y6 : w6.cell? ⟨w.heap.size, 6, none⟩ = some (.int .i64 0) := hG6.cell 6
  have y7 : w6.cell? ⟨w.heap.size, 7, none⟩ = some (.int .i64 0) := hG6.cell 7
  have z0 := hG6.frozen 0
  have z1 := hG6.frozen 1
  have z2 := hG6.frozen 2
  have z3 := hG6.frozen 3
  have z4 := hG6.frozen 4
  have z5 := hG6.frozen 5
  have z6 := hG6.frozen 6
  have z7 := hG6.frozen 7
  obtain ⟨b0, b1, f0, f1⟩ := hH6.c2
  have HG6 := Lib.hid hG6
  have HH6 := Lib.hid hH6
  clear hb6 hG6 hH6 HG5 HH5 HB5
  have hv3 : ndV (leafN (maskOf y.set)) none 0 = .agg #[.int .i64 3, .int .u64 ((word ((maskOf y.set).testBit) 0 : Nat) : Int), .int .u64 ((word ((maskOf y.set).testBit) 1 : Nat) : Int), .int .u64 ((word ((maskOf y.set).testBit) 2 : Nat) : Int), .int .u64 ((word ((maskOf y.set).testBit) 3 : Nat) : Int), .slice none 0 0, .int .i64 0, .int .i64 0] := rfl
  rw [hv3]
  clear hv3
  dsimp only
  go_wp2
  go_light
  have hF := laid (x := leafN (maskOf y.set)) (B := none) (cap := 0) (k := 0) (q := 0) HG6.out HH6.out HB6.out HT6.out rfl
  rw [HV.out]
  exact bodyPost_ret (ret_tree Tryz.results61 rfl rfl hF.1 hF.2.1) rfl ⟨none, 0, rfl, hF.2.2.1, Nat.le_refl _, hF.2.2.2⟩
 ·have hd2 : (((cnt y.set 256 : Nat) : Int) == 1) = false := by rw [beq_eq_false_iff_ne]; omega
  clear hcn
  have hP := lexemes_go _ cap3 L _ HL5.out (by omega) hc3
  rw [HX.out] at hP
  have HP := Lib.hid hP
  clear hP
  go_wp2_with fail
  refine HP.out.mono ?_
  rintro e w6 ⟨B, cap6, rfl, hb6, hc6, ht6⟩
  have hG6 := HG5.out.below hb6 HG5.out.lt
  have hH6 := HH5.out.below hb6 HH5.out.lt
  have HB6 := Lib.hid (HB5.out.trans (hb6.mono (by omega)))
  have HT6 := Lib.hid (ht6.weak (Q := fun b => w.heap.size + 2 ≤ b) (fun b hb _ => by omega))
  have y0 : w6.cell? ⟨w.heap.size, 0, none⟩ = some (.int .i64 0) := hG6.cell 0
  have y1 : w6.cell? ⟨w.heap.size, 1, none⟩ = some (.int .u64 0) := hG6.cell 1
  have y2 : w6.cell? ⟨w.heap.size, 2, none⟩ = some (.int .u64 0) := hG6.cell 2
  have y3 : w6.cell? ⟨w.heap.size, 3, none⟩ = some (.int .u64 0) := hG6.cell 3
  have y4 : w6.cell? ⟨w.heap.size, 4, none⟩ = some (.int .u64 0) := hG6.cell 4
  have y5 : w6.cell? ⟨w.heap.size, 5, none⟩ = some (.slice none 0 0) := hG6.cell 5
  have y6 : w6.cell? ⟨w.heap.size, 6, none⟩ = some (.int .i64 0) := hG6.cell 6
  have y7 : w6.cell? ⟨w.heap.size, 7, none⟩ = some (.int .i64 0) := hG6.cell 7
  have z0 := hG6.frozen 0
  have z1 := hG6.frozen 1
  have z2 := hG6.frozen 2
  have z3 := hG6.frozen 3
  have z4 := hG6.frozen 4
  have z5 := hG6.frozen 5
  have z6 := hG6.frozen 6
  have z7 := hG6.frozen 7
  obtain ⟨b0, b1, f0, f1⟩ := hH6.c2
  have HG6 := Lib.hid hG6
  have HH6 := Lib.hid hH6
  clear hb6 ht6 hG6 hH6 HP HG5 HH5 HB5
  unfold ndV
  dsimp only
  go_wp2
  go_light
  have hF := laid (x := leafN (maskOf y.set)) (B := B) (cap := cap6) (k := 0) (q := 0) HG6.out HH6.out HB6.out HT6.out rfl
  rw [HV.out]
  exact bodyPost_ret (ret_tree Tryz.results61 rfl rfl hF.1 hF.2.1) rfl ⟨B, cap6, rfl, hF.2.2.1, hc6, hF.2.2.2⟩
theorem splitF_kind {bs : List Nat} (hb : ∀ x ∈ bs, x < 256) : ∀ {f i : Nat} {L : List Lex} {k q : Int}, bs.length < f + i → i ≤ bs.length → splitF bs f i L = .error (k, q) → k ≠ 0
 | 0, i, L, k, q, hf, hi, h => by omega
 | f + 1, i, L, k, q, hf, hi, h => by
  rcases Nat.lt_or_ge i bs.length with h1 | h1
  ·cases hx : lexS bs i with
   | error e =>
    obtain ⟨a, b⟩ := e
    rw [splitF_bad h1 hx] at h
    cases h
    exact lexS_err hb hx
   | ok x =>
    obtain ⟨x, j⟩ := x
    have hj := lexS_some hb h1 hx
    rw [splitF_ok h1 hx] at h
    exact splitF_kind hb (by omega) hj.2 h
  ·rw [splitF_end h1] at h; cases h
theorem splitS_kind {bs : List Nat} (hb : ∀ x ∈ bs, x < 256) {k q : Int} (h : splitS bs = .error (k, q)) : k ≠ 0 := by
 rcases Nat.lt_or_ge 65536 bs.length with h1 | h1
 ·rw [splitS_long h1] at h
  cases h
  decide
 ·rw [splitS_go h1] at h
  exact splitF_kind hb (by omega) (Nat.zero_le _) h
theorem text_go07 (A : Option Addr) (cap : Nat) (bs : List Nat) (w : World) (hA : BytesAt w w.heap.size A bs) (hcap : bs.length ≤ cap) :
  Calls Tryz.prog 61 #[.slice A bs.length cap] w (TreeOut (parseS bs) w) := by
 cases hs : splitS bs with
 | error x =>
  obtain ⟨k, q⟩ := x
  exact text_bad A cap bs w hA hcap hs (splitS_kind hA.1 hs)
 | ok L =>
  by_cases h1 : L.length = 1
  ·obtain ⟨y, rfl⟩ := List.length_eq_one_iff.1 h1
   by_cases hk : y.kind = 1
   ·exact text_set A cap bs w hA hcap hs hk
   ·exact text_sign A cap bs w hA hcap hs hk
  ·exact text_many A cap bs w hA hcap hs h1
structure NodeIn (U : World) (g : Nat) (x : Nd) (B : Option Addr) (cap : Nat) : Prop where
 box : Blk U g 28 (ndA x B cap)
 tree : TreesAt U (fun b => b < U.heap.size) x.kids B
 cap : x.kids.len ≤ cap
theorem NodeIn.next {U U' : World} {g : Nat} {x : Nd} {B : Option Addr} {cap : Nat} (h : NodeIn U g x B cap) (hb : Below U.heap.size U U') : NodeIn U' g x B cap :=
 ⟨h.box.below hb h.box.lt, (h.tree.below hb).weak (fun b h1 _ => Nat.lt_of_lt_of_le h1 hb.size), h.cap⟩
structure WordIn (w U : World) (V : Option Addr) (cv : Nat) (bs : List Nat) : Prop where
 below : Below w.heap.size w U
 bytes : BytesAt U U.heap.size V bs
 cap : bs.length ≤ cv
 tab : TabAt 0 Lib.deBruijn64tab U
 pos : 0 < U.heap.size
theorem WordIn.next {w U U' : World} {V : Option Addr} {cv : Nat} {bs : List Nat} (h : WordIn w U V cv bs) (hb : Below U.heap.size U U') : WordIn w U' V cv bs :=
 ⟨h.below.trans (hb.mono h.below.size), (h.bytes.below hb).more hb.size, h.cap, TabAt.below hb h.pos h.tab, Nat.lt_of_lt_of_le h.pos hb.size⟩
theorem full_in {w U : World} {V : Option Addr} {cv : Nat} {bs : List Nat} {g : Nat} {x : Nd} {B : Option Addr} {cap : Nat} (hN : NodeIn U g x B cap) (hW : WordIn w U V cv bs) (hs : x.size ≤ 4611686018427387903) :
  Calls Tryz.prog 12 #[ndV x B cap, .slice V bs.length cv] U fun e w' => e = .returned (.bool (fullB x bs)) ∧ Below U.heap.size U w' :=
 pfull_go x B cap V cv bs U hs hN.cap hN.tree hW.bytes hW.cap hW.tab hW.pos
end
section
theorem wrongS_kindK : ∀ (L : List Lex) (op : List Int) (p : Bool) {k q : Int}, wrongS op p L = some (k, q) → k ≠ 0
 | [], [], p, k, q, h => by rw [wrongS] at h; cases h
 | [], x :: op, p, k, q, h => by
  rw [wrongS] at h
  cases h
  decide
 | y :: L, op, p, k, q, h => by
  unfold wrongS at h
  split at h
  ·exact wrongS_kindK L _ _ h
  split at h
  ·split at h
   ·cases h; decide
   ·exact wrongS_kindK L _ _ h
  split at h
  ·split at h
   ·cases h; decide
   ·exact wrongS_kindK L _ _ h
  split at h
  ·exact wrongS_kindK L _ _ h
  split at h
  ·cases h; decide
  ·exact wrongS_kindK L _ _ h
theorem lexemesS_kindK {L : List Lex} {k q : Int} (h : lexemesS L = .error (k, q)) : k ≠ 0 := by
 unfold lexemesS at h
 split at h
 ·simp at h; omega
 rename_i hall
 split at h
 ·have h1 := Except.error.inj h
  simp at h1
  omega
 ·have hk : Kinds L := fun y hy => by
   have h1 : rightS y = true := by
    have : L.all rightS = true := by simpa using hall
    exact List.all_eq_true.1 this y hy
   have := rightS_cases h1
   omega
  have hw := read_wrong L hk
  split at h
  ·rename_i e he
   rw [he] at hw
   have h1 := Except.error.inj h
   subst h1
   exact wrongS_kindK L [] false hw
  ·cases h
end
section
open Go.RowKit
structure WFr (w : World) (base g : Nat) (S : Nat → Prop) (nd : Array Value) (S1 : Nat → Prop) (L : List Lex) (w1 : World) : Prop where
 p : Blk w1 w.heap.size 217 #[.pointer (some ⟨g, 0, none⟩)]
 x : Blk w1 (w.heap.size + 1) 28 nd
 wr : WrAt w1 base g S1 L
 mvs : Moves base S w S1 w1
 np : ¬ S1 w.heap.size
 nx : ¬ S1 (w.heap.size + 1)
 hb : base ≤ w.heap.size
theorem WFr.start {w : World} {base g : Nat} {S : Nat → Prop} {L : List Lex} (nd : Array Value) (h : WrAt w base g S L) (hb : base ≤ w.heap.size) : WFr w base g S nd S L ((w.alloc (.cells #[.pointer (some ⟨g, 0, none⟩)] 217)).alloc (.cells nd 28)) :=
 ⟨(Blk.new w _ _).alloc _, Blk.new_at (by simp), (h.alloc _).alloc _, ((Moves.refl base S w).alloc hb _).alloc hb _, h.not (Nat.le_refl _), h.not (by omega), hb⟩
theorem WFr.go {w w1 : World} {base g : Nat} {S S1 : Nat → Prop} {L : List Lex} {nd : Array Value} (h : WFr w base g S nd S1 L w1) {w2 : World} {S2 : Nat → Prop} {L2 : List Lex} (hm : WrAt w2 base g S2 L2) (hv : Moves base S1 w1 S2 w2) : WFr w base g S nd S2 L2 w2 :=
 ⟨h.p.moves hv h.np, h.x.moves hv h.nx, hm, h.mvs.trans hv, hv.notIn h.p.lt h.np, hv.notIn h.x.lt h.nx, h.hb⟩
theorem WFr.below {w w1 : World} {base g : Nat} {S S1 : Nat → Prop} {L : List Lex} {nd : Array Value} (h : WFr w base g S nd S1 L w1) {w2 : World} (hB : Below w1.heap.size w1 w2) : WFr w base g S nd S1 L w2 :=
 h.go (h.wr.below hB) (Moves.of_below hB (by have := h.mvs.size; have := h.hb; omega))
theorem WFr.size {w w1 : World} {base g : Nat} {S S1 : Nat → Prop} {L : List Lex} {nd : Array Value} (h : WFr w base g S nd S1 L w1) : base ≤ w1.heap.size := by
 have := h.mvs.size; have := h.hb; omega
theorem WFr.out {w w1 : World} {base g : Nat} {S S1 : Nat → Prop} {L : List Lex} {nd : Array Value} (h : WFr w base g S nd S1 L w1) {e : Ending} (he : e = .returned (.tuple #[])) : WrOut base g S w L e w1 := ⟨he, S1, h.wr, h.mvs⟩
def WFrM (w : World) (base g : Nat) (S : Nat → Prop) (nd : Array Value) (L : List Lex) (w1 : World) : Prop := ∃ S1, WFr w base g S nd S1 L w1
theorem flat_take {α : Type} (l : List (List α)) (k : Nat) : (l.take k).flatten.length ≤ l.flatten.length := by
 conv => rhs; rw [← List.take_append_drop k l, List.flatten_append, List.length_append]
 omega
theorem bars_take (l : List (List Lex)) (k : Nat) : (barsS (l.take k)).length ≤ (barsS l).length := by
 unfold barsS
 have : ((l.take k).flatMap fun x => lexK 4 :: x).length ≤ (l.flatMap fun x => lexK 4 :: x).length := by
  conv => rhs; rw [← List.take_append_drop k l, List.flatMap_append, List.length_append]
  omega
 simp only [List.length_drop]
 omega
def KidsW (F : Trees) : Prop := ∀ z ∈ F.list, 1 ≤ z.kind ∧ z.kind ≤ 9 ∧ WriteC z
theorem write_empty (x : Nd) (hK : KidsW x.kids) (B : Option Addr) (cap base g : Nat) (S : Nat → Prop) (L : List Lex) (w : World) (ht : TreesAt w (fun b => ¬ S b) x.kids B) (h : WrAt w base g S L) (hb : base ≤ w.heap.size) (hl : L.length + x.write.length ≤ 90000000) (hkl : x.kids.len ≤ 140737488355328) (hk : x.kind = 2) : Calls Tryz.prog 161 #[.pointer (some ⟨g, 0, none⟩), ndV x B cap] w (WrOut base g S w (L ++ x.write)) := by
 rw [Nd.write_empty hk, List.append_nil]
 have HF2 := Lib.hid (show WFr w base g S #[.int .i64 2, .int .u64 (word x.set.testBit 0), .int .u64 (word x.set.testBit 1), .int .u64 (word x.set.testBit 2), .int .u64 (word x.set.testBit 3), .slice B x.kids.len cap, .int .i64 x.lo, .int .i64 x.hi] S L ((w.alloc (.cells #[.pointer (some ⟨g, 0, none⟩)] 217)).alloc (.cells #[.int .i64 2, .int .u64 (word x.set.testBit 0), .int .u64 (word x.set.testBit 1), .int .u64 (word x.set.testBit 2), .int .u64 (word x.set.testBit 3), .slice B x.kids.len cap, .int .i64 x.lo, .int .i64 x.hi] 28)) from WFr.start #[.int .i64 2, .int .u64 (word x.set.testBit 0), .int .u64 (word x.set.testBit 1), .int .u64 (word x.set.testBit 2), .int .u64 (word x.set.testBit 3), .slice B x.kids.len cap, .int .i64 x.lo, .int .i64 x.hi] h hb)
 have HT := Lib.hid ht
 have HK := Lib.hid hK
 unfold ndV
 rw [hk]
 clear ht hK h
 go_enter Tryz.func161, Tryz.ntmps161
 go_wp2
 go_light
 go_end0
 exact HF2.out.out rfl
theorem write_leaf1 (x : Nd) (hK : KidsW x.kids) (B : Option Addr) (cap base g : Nat) (S : Nat → Prop) (L : List Lex) (w : World) (ht : TreesAt w (fun b => ¬ S b) x.kids B) (h : WrAt w base g S L) (hb : base ≤ w.heap.size) (hl : L.length + x.write.length ≤ 90000000) (hkl : x.kids.len ≤ 140737488355328) (hk : x.kind = 1) : Calls Tryz.prog 161 #[.pointer (some ⟨g, 0, none⟩), ndV x B cap] w (WrOut base g S w (L ++ x.write)) := by
 rw [Nd.write_leaf (.inl hk)] at hl ⊢
 have h63 : L.length + 1 ≤ maxLen := Nat.le_trans (show L.length + 1 ≤ 2000000000 by simp at hl; omega) (by decide)
 have hby : (L.length + 1) * 64 ≤ 140737488355328 := by simp at hl; omega
 have HLC := Lib.hid (show lexCell ⟨1, 0, x.set.testBit, 0, 0⟩ = [.int .i64 1, .int .i64 0, .int .u64 (word x.set.testBit 0), .int .u64 (word x.set.testBit 1), .int .u64 (word x.set.testBit 2), .int .u64 (word x.set.testBit 3), .int .i64 0, .int .i64 0] from rfl)
 have HF2 := Lib.hid (show WFr w base g S #[.int .i64 1, .int .u64 (word x.set.testBit 0), .int .u64 (word x.set.testBit 1), .int .u64 (word x.set.testBit 2), .int .u64 (word x.set.testBit 3), .slice B x.kids.len cap, .int .i64 x.lo, .int .i64 x.hi] S L ((w.alloc (.cells #[.pointer (some ⟨g, 0, none⟩)] 217)).alloc (.cells #[.int .i64 1, .int .u64 (word x.set.testBit 0), .int .u64 (word x.set.testBit 1), .int .u64 (word x.set.testBit 2), .int .u64 (word x.set.testBit 3), .slice B x.kids.len cap, .int .i64 x.lo, .int .i64 x.hi] 28)) from WFr.start #[.int .i64 1, .int .u64 (word x.set.testBit 0), .int .u64 (word x.set.testBit 1), .int .u64 (word x.set.testBit 2), .int .u64 (word x.set.testBit 3), .slice B x.kids.len cap, .int .i64 x.lo, .int .i64 x.hi] h hb)
 have HT := Lib.hid ht
 have HK := Lib.hid hK
 unfold ndV
 rw [hk]
 clear ht hK h
 go_enter Tryz.func161, Tryz.ntmps161
 go_upto_region 5 with fail
 generalize ((w.alloc (.cells #[.pointer (some ⟨g, 0, none⟩)] 217)).alloc (.cells #[.int .i64 1, .int .u64 (word x.set.testBit 0), .int .u64 (word x.set.testBit 1), .int .u64 (word x.set.testBit 2), .int .u64 (word x.set.testBit 3), .slice B x.kids.len cap, .int .i64 x.lo, .int .i64 x.hi] 28)) = w2 at *
 have p0 := (HF2.out).p.cell 0
 have hlp := (HF2.out).p.lt
 simp only [getH] at p0
 have n0 := (HF2.out).x.cell 0
 have n1 := (HF2.out).x.cell 1
 have n2 := (HF2.out).x.cell 2
 have n3 := (HF2.out).x.cell 3
 have n4 := (HF2.out).x.cell 4
 have n5 := (HF2.out).x.cell 5
 have n6 := (HF2.out).x.cell 6
 have n7 := (HF2.out).x.cell 7
 have hlx := (HF2.out).x.lt
 simp only [getH] at n0 n1 n2 n3 n4 n5 n6 n7
 have h0 := (HF2).out.wr
 obtain ⟨h0, hg, v, hG, hR, h3⟩ := h0
 obtain ⟨i0, hi, hz0, hz1, hz2⟩ := info_parts info_lex
 have s0 := hG.cell 0
 have f0 := hG.frozen 0
 have hltg := Blk.lt hG
 have HG := Lib.hid hG
 have HR := Lib.hid hR
 have HH := Lib.hid (show _ ∧ _ ∧ _ from ⟨h0, hg, h3⟩)
 have HneG := Lib.hid (blk_not_row hG (by decide) hR)
 have hbw := (HF2).out.size
 clear hG hR h0 h3
 have hKl := two_of (Q := fun b => b < w2.heap.size) hlp hlx
 refine wp_region_held_drew (S := fun w' => ∀ b' o', b' = w.heap.size ∨ b' = w.heap.size + 1 → w'.cell? ⟨b', o', none⟩ = w2.cell? ⟨b', o', none⟩) (by kernel_rfl) (KeepP.start (fun b => b = w.heap.size ∨ b = w.heap.size + 1) w2) (fun hHeld => ?_)
 refine wpAnyH_take (i := 0) (oi := _) (v := ?_) rfl (by kernel_rfl) (by kernel_rfl) (by kernel_rfl) (fun _ _ _ h => h) (Or.inl ⟨by kernel_rfl, ?_⟩) (by assumption) ?_
 rotate_left
 ·intro w hSw
  try dsimp only at hSw
  go_simp
  try (with_reducible rfl)
 try simp only [Act.put, nrmH]
 refine wpAnyH_take (i := 1) (oi := _) (v := ?_) rfl (by kernel_rfl) (by kernel_rfl) (by kernel_rfl) (fun _ _ _ h => h) (Or.inl ⟨by kernel_rfl, ?_⟩) (by assumption) ?_
 rotate_left
 ·intro w hSw
  try dsimp only at hSw
  go_simp
  try (with_reducible rfl)
 try simp only [Act.put, nrmH]
 refine wpAnyH_take (i := 2) (oi := _) (v := ?_) rfl (by kernel_rfl) (by kernel_rfl) (by kernel_rfl) (fun _ _ _ h => h) (Or.inl ⟨by kernel_rfl, ?_⟩) (by assumption) ?_
 rotate_left
 ·intro w hSw
  try dsimp only at hSw
  go_simp
  try (with_reducible rfl)
 try simp only [Act.put, nrmH]
 refine wpAnyH_take (i := 3) (oi := _) (v := ?_) rfl (by kernel_rfl) (by kernel_rfl) (by kernel_rfl) (fun _ _ _ h => h) (Or.inl ⟨by kernel_rfl, ?_⟩) (by assumption) ?_
 rotate_left
 ·intro w hSw
  try dsimp only at hSw
  go_simp
  try (with_reducible rfl)
 try simp only [Act.put, nrmH]
 refine wpAnyH_take (i := 5) (oi := _) (v := ?_) rfl (by kernel_rfl) (by kernel_rfl) (by kernel_rfl) (fun _ _ _ h => h) (Or.inl ⟨by kernel_rfl, ?_⟩) (by assumption) ?_
 rotate_left
 ·intro w hSw
  try dsimp only at hSw
  go_simp
  try (with_reducible rfl)
 try simp only [Act.put, nrmH]
 refine wpAnyH_take (i := 6) (oi := _) (v := ?_) rfl (by kernel_rfl) (by kernel_rfl) (by kernel_rfl) (fun _ _ _ h => h) (Or.inl ⟨by kernel_rfl, ?_⟩) (by assumption) ?_
 rotate_left
 ·intro w hSw
  try dsimp only at hSw
  go_simp
  try (with_reducible rfl)
 try simp only [Act.put, nrmH]
 refine wpAnyH_take (i := 7) (oi := _) (v := ?_) rfl (by kernel_rfl) (by kernel_rfl) (by kernel_rfl) (fun _ _ _ h => h) (Or.inl ⟨by kernel_rfl, ?_⟩) (by assumption) ?_
 rotate_left
 ·intro w hSw
  try dsimp only at hSw
  go_simp
  try (with_reducible rfl)
 try simp only [Act.put, nrmH]
 refine wpAnyH_ready (rs := [4, 8]) (by kernel_rfl) (by simp) ?_
 refine AllReadyH.cons (o := _) rfl (fun K hK => ?_) (AllReadyH.cons (o := _) rfl (fun K hK => ?_) AllReadyH.nil)
 ·skip
  go_simp
  refine hK.out _ _ hHeld (fun _ => ?_)
  clear hK K hHeld
  try simp only [Act.put, nrmH]
  refine wpAnyH_ready (rs := [8]) (by kernel_rfl) (by simp) ?_
  refine AllReadyH.cons (o := _) rfl (fun K hK => ?_) AllReadyH.nil
  go_simp
  refine hK.out _ _ (KeepP.alloc (KeepP.start (fun b => b = w.heap.size ∨ b = w.heap.size + 1) w2) hKl _) (fun _ => ?_)
  clear hK K
  try simp only [Act.put, nrmH]
  refine wpAnyH_ready (rs := [9]) (by kernel_rfl) (by simp) ?_
  refine AllReadyH.cons (o := _) rfl (fun K hK => ?_) AllReadyH.nil
  refine step_append_lies _ (by rfl) _ _ _ (by rfl) base 143 i0 _ 8 64 Tryz.underlying138 hi hz0 hz1 hz2 rfl (by decide) v (L).length (lexCells (L)) (by rfl) (HR.out.drew.alloc _) ⟨w2.heap.size, 0, none⟩ 1 1 ([.int .i64 1, .int .i64 0, .int .u64 (word x.set.testBit 0), .int .u64 (word x.set.testBit 1), .int .u64 (word x.set.testBit 2), .int .u64 (word x.set.testBit 3), .int .i64 0, .int .i64 0]) (by rfl) (by rfl) (World.news_of_block (cs := ([.int .i64 1, .int .i64 0, .int .u64 (word x.set.testBit 0), .int .u64 (word x.set.testBit 1), .int .u64 (word x.set.testBit 2), .int .u64 (word x.set.testBit 3), .int .i64 0, .int .i64 0]).toArray) (t := 143) (fr := (0, 0)) (heap_alloc_new w2.drew _)) (by simp [Value.oneCell']) (by decide) h63 hby (by simp; omega) (w2.heap.size + 1) (by simp) ?_
  intro gg cap' w3 hown1 hgrow hat hlt1
  have hG1 := Blk.grown (Blk.alloc (Blk.drew HG.out) _) hgrow HneG.out
  have c0 := hG1.cell 0
  have d0 := hG1.frozen 0
  have hgl := hG1.lt
  have HKG := Lib.hid (KeepP.grown (KeepP.alloc (KeepP.start (fun b => b = w.heap.size ∨ b = w.heap.size + 1) w2) hKl _) hgrow (two_of (Q := fun b => b < _ ∧ some b ≠ v.ownBlock) ⟨by simp; omega, fun e => HF2.out.np (HH.out.2.2 _ e.symm)⟩ ⟨by simp; omega, fun e => HF2.out.nx (HH.out.2.2 _ e.symm)⟩))
  rw [← HLC.out] at hown1
  have HG1 := Lib.hid hG1
  have Hgrow := Lib.hid hgrow
  have Hown1 := Lib.hid hown1
  have Hat := Lib.hid hat
  clear hG1 hgrow hown1 hat
  refine hK.out _ _ HKG.out (fun _ => ?_)
  clear hK K
  try simp only [Act.put, nrmH]
  refine wpAnyH_take (i := 10) (oi := _) (v := ?_) rfl (by kernel_rfl) (by kernel_rfl) (by kernel_rfl) (fun _ _ _ h => h) (Or.inl ⟨by kernel_rfl, ?_⟩) (by assumption) ?_
  rotate_left
  ·intro w hSw
   try dsimp only at hSw
   go_simp
   try (with_reducible rfl)
  try simp only [Act.put, nrmH]
  refine wpAnyH_take (i := 11) (oi := _) (v := ?_) rfl (by kernel_rfl) (by kernel_rfl) (by kernel_rfl) (fun _ _ _ h => h) (Or.inl ⟨by kernel_rfl, ?_⟩) (by assumption) ?_
  rotate_left
  ·intro w hSw
   try dsimp only at hSw
   go_simp
   try (with_reducible rfl)
  try simp only [Act.put, nrmH]
  refine wpAnyH_ready (rs := [12]) (by kernel_rfl) (by simp) ?_
  refine AllReadyH.cons (o := _) rfl (fun K hK => ?_) AllReadyH.nil
  go_simp
  refine hK.out _ _ (KeepP.set HKG.out (two_of (Q := fun b => b ≠ g) (p := w.heap.size) (q := w.heap.size + 1) (fun e => HF2.out.np (by rw [e]; exact HH.out.2.1)) (fun e => HF2.out.nx (by rw [e]; exact HH.out.2.1))) _) (fun _ => ?_)
  clear hK K
  try simp only [Act.put, nrmH]
  refine wpAnyH_done (by kernel_rfl) ?_ _
  go_wp2
  go_light
  go_end0
  obtain ⟨S', hp1, hp2⟩ := wr_push HH.out hbw HG1.out ((Below.refl w2.heap.size w2).drew.alloc (Nat.le_refl _) _) Hgrow.out Hown1.out Hat.out (by omega)
  exact (HF2.out.go hp1 hp2).out rfl
 ·skip
  go_simp
  refine hK.out _ _ (KeepP.alloc (KeepP.start (fun b => b = w.heap.size ∨ b = w.heap.size + 1) w2) hKl _) (fun _ => ?_)
  clear hK K hHeld
  try simp only [Act.put, nrmH]
  refine wpAnyH_ready (rs := [4]) (by kernel_rfl) (by simp) ?_
  refine AllReadyH.cons (o := _) rfl (fun K hK => ?_) AllReadyH.nil
  go_simp
  refine hK.out _ _ (by assumption) (fun _ => ?_)
  clear hK K
  try simp only [Act.put, nrmH]
  refine wpAnyH_ready (rs := [9]) (by kernel_rfl) (by simp) ?_
  refine AllReadyH.cons (o := _) rfl (fun K hK => ?_) AllReadyH.nil
  refine step_append_lies _ (by rfl) _ _ _ (by rfl) base 143 i0 _ 8 64 Tryz.underlying138 hi hz0 hz1 hz2 rfl (by decide) v (L).length (lexCells (L)) (by rfl) (HR.out.drew.alloc _) ⟨w2.heap.size, 0, none⟩ 1 1 ([.int .i64 1, .int .i64 0, .int .u64 (word x.set.testBit 0), .int .u64 (word x.set.testBit 1), .int .u64 (word x.set.testBit 2), .int .u64 (word x.set.testBit 3), .int .i64 0, .int .i64 0]) (by rfl) (by rfl) (World.news_of_block (cs := ([.int .i64 1, .int .i64 0, .int .u64 (word x.set.testBit 0), .int .u64 (word x.set.testBit 1), .int .u64 (word x.set.testBit 2), .int .u64 (word x.set.testBit 3), .int .i64 0, .int .i64 0]).toArray) (t := 143) (fr := (0, 0)) (heap_alloc_new w2.drew _)) (by simp [Value.oneCell']) (by decide) h63 hby (by simp; omega) (w2.heap.size + 1) (by simp) ?_
  intro gg cap' w3 hown1 hgrow hat hlt1
  have hG1 := Blk.grown (Blk.alloc (Blk.drew HG.out) _) hgrow HneG.out
  have c0 := hG1.cell 0
  have d0 := hG1.frozen 0
  have hgl := hG1.lt
  have HKG := Lib.hid (KeepP.grown (KeepP.alloc (KeepP.start (fun b => b = w.heap.size ∨ b = w.heap.size + 1) w2) hKl _) hgrow (two_of (Q := fun b => b < _ ∧ some b ≠ v.ownBlock) ⟨by simp; omega, fun e => HF2.out.np (HH.out.2.2 _ e.symm)⟩ ⟨by simp; omega, fun e => HF2.out.nx (HH.out.2.2 _ e.symm)⟩))
  rw [← HLC.out] at hown1
  have HG1 := Lib.hid hG1
  have Hgrow := Lib.hid hgrow
  have Hown1 := Lib.hid hown1
  have Hat := Lib.hid hat
  clear hG1 hgrow hown1 hat
  refine hK.out _ _ HKG.out (fun _ => ?_)
  clear hK K
  try simp only [Act.put, nrmH]
  refine wpAnyH_take (i := 10) (oi := _) (v := ?_) rfl (by kernel_rfl) (by kernel_rfl) (by kernel_rfl) (fun _ _ _ h => h) (Or.inl ⟨by kernel_rfl, ?_⟩) (by assumption) ?_
  rotate_left
  ·intro w hSw
   try dsimp only at hSw
   go_simp
   try (with_reducible rfl)
  try simp only [Act.put, nrmH]
  refine wpAnyH_take (i := 11) (oi := _) (v := ?_) rfl (by kernel_rfl) (by kernel_rfl) (by kernel_rfl) (fun _ _ _ h => h) (Or.inl ⟨by kernel_rfl, ?_⟩) (by assumption) ?_
  rotate_left
  ·intro w hSw
   try dsimp only at hSw
   go_simp
   try (with_reducible rfl)
  try simp only [Act.put, nrmH]
  refine wpAnyH_ready (rs := [12]) (by kernel_rfl) (by simp) ?_
  refine AllReadyH.cons (o := _) rfl (fun K hK => ?_) AllReadyH.nil
  go_simp
  refine hK.out _ _ (KeepP.set HKG.out (two_of (Q := fun b => b ≠ g) (p := w.heap.size) (q := w.heap.size + 1) (fun e => HF2.out.np (by rw [e]; exact HH.out.2.1)) (fun e => HF2.out.nx (by rw [e]; exact HH.out.2.1))) _) (fun _ => ?_)
  clear hK K
  try simp only [Act.put, nrmH]
  refine wpAnyH_done (by kernel_rfl) ?_ _
  go_wp2
  go_light
  go_end0
  obtain ⟨S', hp1, hp2⟩ := wr_push HH.out hbw HG1.out ((Below.refl w2.heap.size w2).drew.alloc (Nat.le_refl _) _) Hgrow.out Hown1.out Hat.out (by omega)
  exact (HF2.out.go hp1 hp2).out rfl
theorem write_leaf3 (x : Nd) (hK : KidsW x.kids) (B : Option Addr) (cap base g : Nat) (S : Nat → Prop) (L : List Lex) (w : World) (ht : TreesAt w (fun b => ¬ S b) x.kids B) (h : WrAt w base g S L) (hb : base ≤ w.heap.size) (hl : L.length + x.write.length ≤ 90000000) (hkl : x.kids.len ≤ 140737488355328) (hk : x.kind = 3) : Calls Tryz.prog 161 #[.pointer (some ⟨g, 0, none⟩), ndV x B cap] w (WrOut base g S w (L ++ x.write)) := by
 rw [Nd.write_leaf (.inr hk)] at hl ⊢
 have h63 : L.length + 1 ≤ maxLen := Nat.le_trans (show L.length + 1 ≤ 2000000000 by simp at hl; omega) (by decide)
 have hby : (L.length + 1) * 64 ≤ 140737488355328 := by simp at hl; omega
 have HLC := Lib.hid (show lexCell ⟨1, 0, x.set.testBit, 0, 0⟩ = [.int .i64 1, .int .i64 0, .int .u64 (word x.set.testBit 0), .int .u64 (word x.set.testBit 1), .int .u64 (word x.set.testBit 2), .int .u64 (word x.set.testBit 3), .int .i64 0, .int .i64 0] from rfl)
 have HF2 := Lib.hid (show WFr w base g S #[.int .i64 3, .int .u64 (word x.set.testBit 0), .int .u64 (word x.set.testBit 1), .int .u64 (word x.set.testBit 2), .int .u64 (word x.set.testBit 3), .slice B x.kids.len cap, .int .i64 x.lo, .int .i64 x.hi] S L ((w.alloc (.cells #[.pointer (some ⟨g, 0, none⟩)] 217)).alloc (.cells #[.int .i64 3, .int .u64 (word x.set.testBit 0), .int .u64 (word x.set.testBit 1), .int .u64 (word x.set.testBit 2), .int .u64 (word x.set.testBit 3), .slice B x.kids.len cap, .int .i64 x.lo, .int .i64 x.hi] 28)) from WFr.start #[.int .i64 3, .int .u64 (word x.set.testBit 0), .int .u64 (word x.set.testBit 1), .int .u64 (word x.set.testBit 2), .int .u64 (word x.set.testBit 3), .slice B x.kids.len cap, .int .i64 x.lo, .int .i64 x.hi] h hb)
 have HT := Lib.hid ht
 have HK := Lib.hid hK
 unfold ndV
 rw [hk]
 clear ht hK h
 go_enter Tryz.func161, Tryz.ntmps161
 go_upto_region 5 with fail
 generalize ((w.alloc (.cells #[.pointer (some ⟨g, 0, none⟩)] 217)).alloc (.cells #[.int .i64 3, .int .u64 (word x.set.testBit 0), .int .u64 (word x.set.testBit 1), .int .u64 (word x.set.testBit 2), .int .u64 (word x.set.testBit 3), .slice B x.kids.len cap, .int .i64 x.lo, .int .i64 x.hi] 28)) = w2 at *
 have p0 := (HF2.out).p.cell 0
 have hlp := (HF2.out).p.lt
 simp only [getH] at p0
 have n0 := (HF2.out).x.cell 0
 have n1 := (HF2.out).x.cell 1
 have n2 := (HF2.out).x.cell 2
 have n3 := (HF2.out).x.cell 3
 have n4 := (HF2.out).x.cell 4
 have n5 := (HF2.out).x.cell 5
 have n6 := (HF2.out).x.cell 6
 have n7 := (HF2.out).x.cell 7
 have hlx := (HF2.out).x.lt
 simp only [getH] at n0 n1 n2 n3 n4 n5 n6 n7
 have h0 := (HF2).out.wr
 obtain ⟨h0, hg, v, hG, hR, h3⟩ := h0
 obtain ⟨i0, hi, hz0, hz1, hz2⟩ := info_parts info_lex
 have s0 := hG.cell 0
 have f0 := hG.frozen 0
 have hltg := Blk.lt hG
 have HG := Lib.hid hG
 have HR := Lib.hid hR
 have HH := Lib.hid (show _ ∧ _ ∧ _ from ⟨h0, hg, h3⟩)
 have HneG := Lib.hid (blk_not_row hG (by decide) hR)
 have hbw := (HF2).out.size
 clear hG hR h0 h3
 have hKl := two_of (Q := fun b => b < w2.heap.size) hlp hlx
 refine wp_region_held_drew (S := fun w' => ∀ b' o', b' = w.heap.size ∨ b' = w.heap.size + 1 → w'.cell? ⟨b', o', none⟩ = w2.cell? ⟨b', o', none⟩) (by kernel_rfl) (KeepP.start (fun b => b = w.heap.size ∨ b = w.heap.size + 1) w2) (fun hHeld => ?_)
 refine wpAnyH_take (i := 0) (oi := _) (v := ?_) rfl (by kernel_rfl) (by kernel_rfl) (by kernel_rfl) (fun _ _ _ h => h) (Or.inl ⟨by kernel_rfl, ?_⟩) (by assumption) ?_
 rotate_left
 ·intro w hSw
  try dsimp only at hSw
  go_simp
  try (with_reducible rfl)
 try simp only [Act.put, nrmH]
 refine wpAnyH_take (i := 1) (oi := _) (v := ?_) rfl (by kernel_rfl) (by kernel_rfl) (by kernel_rfl) (fun _ _ _ h => h) (Or.inl ⟨by kernel_rfl, ?_⟩) (by assumption) ?_
 rotate_left
 ·intro w hSw
  try dsimp only at hSw
  go_simp
  try (with_reducible rfl)
 try simp only [Act.put, nrmH]
 refine wpAnyH_take (i := 2) (oi := _) (v := ?_) rfl (by kernel_rfl) (by kernel_rfl) (by kernel_rfl) (fun _ _ _ h => h) (Or.inl ⟨by kernel_rfl, ?_⟩) (by assumption) ?_
 rotate_left
 ·intro w hSw
  try dsimp only at hSw
  go_simp
  try (with_reducible rfl)
 try simp only [Act.put, nrmH]
 refine wpAnyH_take (i := 3) (oi := _) (v := ?_) rfl (by kernel_rfl) (by kernel_rfl) (by kernel_rfl) (fun _ _ _ h => h) (Or.inl ⟨by kernel_rfl, ?_⟩) (by assumption) ?_
 rotate_left
 ·intro w hSw
  try dsimp only at hSw
  go_simp
  try (with_reducible rfl)
 try simp only [Act.put, nrmH]
 refine wpAnyH_take (i := 5) (oi := _) (v := ?_) rfl (by kernel_rfl) (by kernel_rfl) (by kernel_rfl) (fun _ _ _ h => h) (Or.inl ⟨by kernel_rfl, ?_⟩) (by assumption) ?_
 rotate_left
 ·intro w hSw
  try dsimp only at hSw
  go_simp
  try (with_reducible rfl)
 try simp only [Act.put, nrmH]
 refine wpAnyH_take (i := 6) (oi := _) (v := ?_) rfl (by kernel_rfl) (by kernel_rfl) (by kernel_rfl) (fun _ _ _ h => h) (Or.inl ⟨by kernel_rfl, ?_⟩) (by assumption) ?_
 rotate_left
 ·intro w hSw
  try dsimp only at hSw
  go_simp
  try (with_reducible rfl)
 try simp only [Act.put, nrmH]
 refine wpAnyH_take (i := 7) (oi := _) (v := ?_) rfl (by kernel_rfl) (by kernel_rfl) (by kernel_rfl) (fun _ _ _ h => h) (Or.inl ⟨by kernel_rfl, ?_⟩) (by assumption) ?_
 rotate_left
 ·intro w hSw
  try dsimp only at hSw
  go_simp
  try (with_reducible rfl)
 try simp only [Act.put, nrmH]
 refine wpAnyH_ready (rs := [4, 8]) (by kernel_rfl) (by simp) ?_
 refine AllReadyH.cons (o := _) rfl (fun K hK => ?_) (AllReadyH.cons (o := _) rfl (fun K hK => ?_) AllReadyH.nil)
 ·skip
  go_simp
  refine hK.out _ _ hHeld (fun _ => ?_)
  clear hK K hHeld
  try simp only [Act.put, nrmH]
  refine wpAnyH_ready (rs := [8]) (by kernel_rfl) (by simp) ?_
  refine AllReadyH.cons (o := _) rfl (fun K hK => ?_) AllReadyH.nil
  go_simp
  refine hK.out _ _ (KeepP.alloc (KeepP.start (fun b => b = w.heap.size ∨ b = w.heap.size + 1) w2) hKl _) (fun _ => ?_)
  clear hK K
  try simp only [Act.put, nrmH]
  refine wpAnyH_ready (rs := [9]) (by kernel_rfl) (by simp) ?_
  refine AllReadyH.cons (o := _) rfl (fun K hK => ?_) AllReadyH.nil
  refine step_append_lies _ (by rfl) _ _ _ (by rfl) base 143 i0 _ 8 64 Tryz.underlying138 hi hz0 hz1 hz2 rfl (by decide) v (L).length (lexCells (L)) (by rfl) (HR.out.drew.alloc _) ⟨w2.heap.size, 0, none⟩ 1 1 ([.int .i64 1, .int .i64 0, .int .u64 (word x.set.testBit 0), .int .u64 (word x.set.testBit 1), .int .u64 (word x.set.testBit 2), .int .u64 (word x.set.testBit 3), .int .i64 0, .int .i64 0]) (by rfl) (by rfl) (World.news_of_block (cs := ([.int .i64 1, .int .i64 0, .int .u64 (word x.set.testBit 0), .int .u64 (word x.set.testBit 1), .int .u64 (word x.set.testBit 2), .int .u64 (word x.set.testBit 3), .int .i64 0, .int .i64 0]).toArray) (t := 143) (fr := (0, 0)) (heap_alloc_new w2.drew _)) (by simp [Value.oneCell']) (by decide) h63 hby (by simp; omega) (w2.heap.size + 1) (by simp) ?_
  intro gg cap' w3 hown1 hgrow hat hlt1
  have hG1 := Blk.grown (Blk.alloc (Blk.drew HG.out) _) hgrow HneG.out
  have c0 := hG1.cell 0
  have d0 := hG1.frozen 0
  have hgl := hG1.lt
  have HKG := Lib.hid (KeepP.grown (KeepP.alloc (KeepP.start (fun b => b = w.heap.size ∨ b = w.heap.size + 1) w2) hKl _) hgrow (two_of (Q := fun b => b < _ ∧ some b ≠ v.ownBlock) ⟨by simp; omega, fun e => HF2.out.np (HH.out.2.2 _ e.symm)⟩ ⟨by simp; omega, fun e => HF2.out.nx (HH.out.2.2 _ e.symm)⟩))
  rw [← HLC.out] at hown1
  have HG1 := Lib.hid hG1
  have Hgrow := Lib.hid hgrow
  have Hown1 := Lib.hid hown1
  have Hat := Lib.hid hat
  clear hG1 hgrow hown1 hat
  refine hK.out _ _ HKG.out (fun _ => ?_)
  clear hK K
  try simp only [Act.put, nrmH]
  refine wpAnyH_take (i := 10) (oi := _) (v := ?_) rfl (by kernel_rfl) (by kernel_rfl) (by kernel_rfl) (fun _ _ _ h => h) (Or.inl ⟨by kernel_rfl, ?_⟩) (by assumption) ?_
  rotate_left
  ·intro w hSw
   try dsimp only at hSw
   go_simp
   try (with_reducible rfl)
  try simp only [Act.put, nrmH]
  refine wpAnyH_take (i := 11) (oi := _) (v := ?_) rfl (by kernel_rfl) (by kernel_rfl) (by kernel_rfl) (fun _ _ _ h => h) (Or.inl ⟨by kernel_rfl, ?_⟩) (by assumption) ?_
  rotate_left
  ·intro w hSw
   try dsimp only at hSw
   go_simp
   try (with_reducible rfl)
  try simp only [Act.put, nrmH]
  refine wpAnyH_ready (rs := [12]) (by kernel_rfl) (by simp) ?_
  refine AllReadyH.cons (o := _) rfl (fun K hK => ?_) AllReadyH.nil
  go_simp
  refine hK.out _ _ (KeepP.set HKG.out (two_of (Q := fun b => b ≠ g) (p := w.heap.size) (q := w.heap.size + 1) (fun e => HF2.out.np (by rw [e]; exact HH.out.2.1)) (fun e => HF2.out.nx (by rw [e]; exact HH.out.2.1))) _) (fun _ => ?_)
  clear hK K
  try simp only [Act.put, nrmH]
  refine wpAnyH_done (by kernel_rfl) ?_ _
  go_wp2
  go_light
  go_end0
  obtain ⟨S', hp1, hp2⟩ := wr_push HH.out hbw HG1.out ((Below.refl w2.heap.size w2).drew.alloc (Nat.le_refl _) _) Hgrow.out Hown1.out Hat.out (by omega)
  exact (HF2.out.go hp1 hp2).out rfl
 ·skip
  go_simp
  refine hK.out _ _ (KeepP.alloc (KeepP.start (fun b => b = w.heap.size ∨ b = w.heap.size + 1) w2) hKl _) (fun _ => ?_)
  clear hK K hHeld
  try simp only [Act.put, nrmH]
  refine wpAnyH_ready (rs := [4]) (by kernel_rfl) (by simp) ?_
  refine AllReadyH.cons (o := _) rfl (fun K hK => ?_) AllReadyH.nil
  go_simp
  refine hK.out _ _ (by assumption) (fun _ => ?_)
  clear hK K
  try simp only [Act.put, nrmH]
  refine wpAnyH_ready (rs := [9]) (by kernel_rfl) (by simp) ?_
  refine AllReadyH.cons (o := _) rfl (fun K hK => ?_) AllReadyH.nil
  refine step_append_lies _ (by rfl) _ _ _ (by rfl) base 143 i0 _ 8 64 Tryz.underlying138 hi hz0 hz1 hz2 rfl (by decide) v (L).length (lexCells (L)) (by rfl) (HR.out.drew.alloc _) ⟨w2.heap.size, 0, none⟩ 1 1 ([.int .i64 1, .int .i64 0, .int .u64 (word x.set.testBit 0), .int .u64 (word x.set.testBit 1), .int .u64 (word x.set.testBit 2), .int .u64 (word x.set.testBit 3), .int .i64 0, .int .i64 0]) (by rfl) (by rfl) (World.news_of_block (cs := ([.int .i64 1, .int .i64 0, .int .u64 (word x.set.testBit 0), .int .u64 (word x.set.testBit 1), .int .u64 (word x.set.testBit 2), .int .u64 (word x.set.testBit 3), .int .i64 0, .int .i64 0]).toArray) (t := 143) (fr := (0, 0)) (heap_alloc_new w2.drew _)) (by simp [Value.oneCell']) (by decide) h63 hby (by simp; omega) (w2.heap.size + 1) (by simp) ?_
  intro gg cap' w3 hown1 hgrow hat hlt1
  have hG1 := Blk.grown (Blk.alloc (Blk.drew HG.out) _) hgrow HneG.out
  have c0 := hG1.cell 0
  have d0 := hG1.frozen 0
  have hgl := hG1.lt
  have HKG := Lib.hid (KeepP.grown (KeepP.alloc (KeepP.start (fun b => b = w.heap.size ∨ b = w.heap.size + 1) w2) hKl _) hgrow (two_of (Q := fun b => b < _ ∧ some b ≠ v.ownBlock) ⟨by simp; omega, fun e => HF2.out.np (HH.out.2.2 _ e.symm)⟩ ⟨by simp; omega, fun e => HF2.out.nx (HH.out.2.2 _ e.symm)⟩))
  rw [← HLC.out] at hown1
  have HG1 := Lib.hid hG1
  have Hgrow := Lib.hid hgrow
  have Hown1 := Lib.hid hown1
  have Hat := Lib.hid hat
  clear hG1 hgrow hown1 hat
  refine hK.out _ _ HKG.out (fun _ => ?_)
  clear hK K
  try simp only [Act.put, nrmH]
  refine wpAnyH_take (i := 10) (oi := _) (v := ?_) rfl (by kernel_rfl) (by kernel_rfl) (by kernel_rfl) (fun _ _ _ h => h) (Or.inl ⟨by kernel_rfl, ?_⟩) (by assumption) ?_
  rotate_left
  ·intro w hSw
   try dsimp only at hSw
   go_simp
   try (with_reducible rfl)
  try simp only [Act.put, nrmH]
  refine wpAnyH_take (i := 11) (oi := _) (v := ?_) rfl (by kernel_rfl) (by kernel_rfl) (by kernel_rfl) (fun _ _ _ h => h) (Or.inl ⟨by kernel_rfl, ?_⟩) (by assumption) ?_
  rotate_left
  ·intro w hSw
   try dsimp only at hSw
   go_simp
   try (with_reducible rfl)
  try simp only [Act.put, nrmH]
  refine wpAnyH_ready (rs := [12]) (by kernel_rfl) (by simp) ?_
  refine AllReadyH.cons (o := _) rfl (fun K hK => ?_) AllReadyH.nil
  go_simp
  refine hK.out _ _ (KeepP.set HKG.out (two_of (Q := fun b => b ≠ g) (p := w.heap.size) (q := w.heap.size + 1) (fun e => HF2.out.np (by rw [e]; exact HH.out.2.1)) (fun e => HF2.out.nx (by rw [e]; exact HH.out.2.1))) _) (fun _ => ?_)
  clear hK K
  try simp only [Act.put, nrmH]
  refine wpAnyH_done (by kernel_rfl) ?_ _
  go_wp2
  go_light
  go_end0
  obtain ⟨S', hp1, hp2⟩ := wr_push HH.out hbw HG1.out ((Below.refl w2.heap.size w2).drew.alloc (Nat.le_refl _) _) Hgrow.out Hown1.out Hat.out (by omega)
  exact (HF2.out.go hp1 hp2).out rfl
theorem write_post6 (x : Nd) (hK : KidsW x.kids) (B : Option Addr) (cap base g : Nat) (S : Nat → Prop) (L : List Lex) (w : World) (ht : TreesAt w (fun b => ¬ S b) x.kids B) (h : WrAt w base g S L) (hb : base ≤ w.heap.size) (hl : L.length + x.write.length ≤ 90000000) (hkl : x.kids.len ≤ 140737488355328) (hk : x.kind = 6) (hk1 : x.kids.len = 1) : Calls Tryz.prog 161 #[.pointer (some ⟨g, 0, none⟩), ndV x B cap] w (WrOut base g S w (L ++ x.write)) := by
 obtain ⟨z, hz1, hz⟩ := one_kid hk1
 have hlk : L.length + (kidS 6 (z.kind, z.write)).length ≤ 90000000 ∧ (L ++ kidS 6 (z.kind, z.write)).length + 1 ≤ 90000000 := by
  rw [Nd.write_post (by omega), Trees.writes_head hz] at hl
  simp only [List.length_append, List.length_cons, List.length_nil, hk] at hl ⊢
  omega
 rw [Nd.write_post (by omega), Trees.writes_head hz]
 have HK1 := Lib.hid hk1
 clear hk1
 have HF2 := Lib.hid (show WFr w base g S #[.int .i64 6, .int .u64 (word x.set.testBit 0), .int .u64 (word x.set.testBit 1), .int .u64 (word x.set.testBit 2), .int .u64 (word x.set.testBit 3), .slice B x.kids.len cap, .int .i64 x.lo, .int .i64 x.hi] S L ((w.alloc (.cells #[.pointer (some ⟨g, 0, none⟩)] 217)).alloc (.cells #[.int .i64 6, .int .u64 (word x.set.testBit 0), .int .u64 (word x.set.testBit 1), .int .u64 (word x.set.testBit 2), .int .u64 (word x.set.testBit 3), .slice B x.kids.len cap, .int .i64 x.lo, .int .i64 x.hi] 28)) from WFr.start #[.int .i64 6, .int .u64 (word x.set.testBit 0), .int .u64 (word x.set.testBit 1), .int .u64 (word x.set.testBit 2), .int .u64 (word x.set.testBit 3), .slice B x.kids.len cap, .int .i64 x.lo, .int .i64 x.hi] h hb)
 have HT := Lib.hid ht
 have HK := Lib.hid hK
 unfold ndV
 rw [hk]
 clear ht hK h
 go_enter Tryz.func161, Tryz.ntmps161
 try rw [hk]
 go_upto_region 23 with fail
 generalize ((w.alloc (.cells #[.pointer (some ⟨g, 0, none⟩)] 217)).alloc (.cells #[.int .i64 6, .int .u64 (word x.set.testBit 0), .int .u64 (word x.set.testBit 1), .int .u64 (word x.set.testBit 2), .int .u64 (word x.set.testBit 3), .slice B x.kids.len cap, .int .i64 x.lo, .int .i64 x.hi] 28)) = w2 at *
 have hk1 := HK1.out
 have hF := HF2.out
 obtain ⟨b, o, C, capc, rfl, hnb, _, ⟨c0, c1, c2, c3, c4, c5, c6, c7⟩, hkz⟩ := (HT.out.movesW hF.mvs).get hz
 have hblk := World.block_lt_of_cell? w2 _ c0
 obtain ⟨k1, k9, hWz⟩ := HK.out z (List.mem_of_getElem? hz)
 simp only [Nat.zero_mul, Nat.add_zero] at c0 c1 c2 c3 c4 c5 c6 c7
 have HC := Lib.hid (kid_go 6 z C capc 3 base g w.heap.size S L w2 hkz hF.wr hF.size (hF.p.cell 0) hF.np k1 k9 hWz hlk.1 (by decide))
 unfold ndV at HC
 have p0 := (hF).p.cell 0
 have hlp := (hF).p.lt
 simp only [getH] at p0
 have n0 := (hF).x.cell 0
 have n1 := (hF).x.cell 1
 have n2 := (hF).x.cell 2
 have n3 := (hF).x.cell 3
 have n4 := (hF).x.cell 4
 have n5 := (hF).x.cell 5
 have n6 := (hF).x.cell 6
 have n7 := (hF).x.cell 7
 have hlx := (hF).x.lt
 simp only [getH] at n0 n1 n2 n3 n4 n5 n6 n7
 clear hF hkz hz hz1 k1 k9 hWz hl
 generalize kidS 6 (z.kind, z.write) = lk at *
 go_wp2_with fail
 refine HC.out.mono ?_
 rintro e w5 ⟨rfl, S5, hm5, hv5⟩
 have HF5 := Lib.hid (HF2.out.go hm5 hv5)
 clear hm5 hv5 HC HF2 c0 c1 c2 c3 c4 c5 c6 c7 hblk hnb p0 hlp n0 n1 n2 n3 n4 n5 n6 n7 hlx
 dsimp only
 have p0 := (HF5.out).p.cell 0
 have hlp := (HF5.out).p.lt
 simp only [getH] at p0
 have n0 := (HF5.out).x.cell 0
 have n1 := (HF5.out).x.cell 1
 have n2 := (HF5.out).x.cell 2
 have n3 := (HF5.out).x.cell 3
 have n4 := (HF5.out).x.cell 4
 have n5 := (HF5.out).x.cell 5
 have n6 := (HF5.out).x.cell 6
 have n7 := (HF5.out).x.cell 7
 have hlx := (HF5.out).x.lt
 simp only [getH] at n0 n1 n2 n3 n4 n5 n6 n7
 have HP := Lib.hid (wput_go base g S5 (L ++ lk) 5 w5 HF5.out.wr HF5.out.size (by omega))
 go_wp2_with fail
 refine HP.out.mono ?_
 rintro e w6 ⟨rfl, S6, hm6, hv6⟩
 have HF6 := Lib.hid (HF5.out.go hm6 hv6)
 clear hm6 hv6 HP HF5 p0 hlp n0 n1 n2 n3 n4 n5 n6 n7 hlx
 dsimp only
 go_wp2
 go_light
 go_end0
 rw [← List.append_assoc]
 exact HF6.out.out rfl
theorem write_post7 (x : Nd) (hK : KidsW x.kids) (B : Option Addr) (cap base g : Nat) (S : Nat → Prop) (L : List Lex) (w : World) (ht : TreesAt w (fun b => ¬ S b) x.kids B) (h : WrAt w base g S L) (hb : base ≤ w.heap.size) (hl : L.length + x.write.length ≤ 90000000) (hkl : x.kids.len ≤ 140737488355328) (hk : x.kind = 7) (hk1 : x.kids.len = 1) : Calls Tryz.prog 161 #[.pointer (some ⟨g, 0, none⟩), ndV x B cap] w (WrOut base g S w (L ++ x.write)) := by
 obtain ⟨z, hz1, hz⟩ := one_kid hk1
 have hlk : L.length + (kidS 7 (z.kind, z.write)).length ≤ 90000000 ∧ (L ++ kidS 7 (z.kind, z.write)).length + 1 ≤ 90000000 := by
  rw [Nd.write_post (by omega), Trees.writes_head hz] at hl
  simp only [List.length_append, List.length_cons, List.length_nil, hk] at hl ⊢
  omega
 rw [Nd.write_post (by omega), Trees.writes_head hz]
 have HK1 := Lib.hid hk1
 clear hk1
 have HF2 := Lib.hid (show WFr w base g S #[.int .i64 7, .int .u64 (word x.set.testBit 0), .int .u64 (word x.set.testBit 1), .int .u64 (word x.set.testBit 2), .int .u64 (word x.set.testBit 3), .slice B x.kids.len cap, .int .i64 x.lo, .int .i64 x.hi] S L ((w.alloc (.cells #[.pointer (some ⟨g, 0, none⟩)] 217)).alloc (.cells #[.int .i64 7, .int .u64 (word x.set.testBit 0), .int .u64 (word x.set.testBit 1), .int .u64 (word x.set.testBit 2), .int .u64 (word x.set.testBit 3), .slice B x.kids.len cap, .int .i64 x.lo, .int .i64 x.hi] 28)) from WFr.start #[.int .i64 7, .int .u64 (word x.set.testBit 0), .int .u64 (word x.set.testBit 1), .int .u64 (word x.set.testBit 2), .int .u64 (word x.set.testBit 3), .slice B x.kids.len cap, .int .i64 x.lo, .int .i64 x.hi] h hb)
 have HT := Lib.hid ht
 have HK := Lib.hid hK
 unfold ndV
 rw [hk]
 clear ht hK h
 go_enter Tryz.func161, Tryz.ntmps161
 try rw [hk]
 go_upto_region 23 with fail
 generalize ((w.alloc (.cells #[.pointer (some ⟨g, 0, none⟩)] 217)).alloc (.cells #[.int .i64 7, .int .u64 (word x.set.testBit 0), .int .u64 (word x.set.testBit 1), .int .u64 (word x.set.testBit 2), .int .u64 (word x.set.testBit 3), .slice B x.kids.len cap, .int .i64 x.lo, .int .i64 x.hi] 28)) = w2 at *
 have hk1 := HK1.out
 have hF := HF2.out
 obtain ⟨b, o, C, capc, rfl, hnb, _, ⟨c0, c1, c2, c3, c4, c5, c6, c7⟩, hkz⟩ := (HT.out.movesW hF.mvs).get hz
 have hblk := World.block_lt_of_cell? w2 _ c0
 obtain ⟨k1, k9, hWz⟩ := HK.out z (List.mem_of_getElem? hz)
 simp only [Nat.zero_mul, Nat.add_zero] at c0 c1 c2 c3 c4 c5 c6 c7
 have HC := Lib.hid (kid_go 7 z C capc 3 base g w.heap.size S L w2 hkz hF.wr hF.size (hF.p.cell 0) hF.np k1 k9 hWz hlk.1 (by decide))
 unfold ndV at HC
 have p0 := (hF).p.cell 0
 have hlp := (hF).p.lt
 simp only [getH] at p0
 have n0 := (hF).x.cell 0
 have n1 := (hF).x.cell 1
 have n2 := (hF).x.cell 2
 have n3 := (hF).x.cell 3
 have n4 := (hF).x.cell 4
 have n5 := (hF).x.cell 5
 have n6 := (hF).x.cell 6
 have n7 := (hF).x.cell 7
 have hlx := (hF).x.lt
 simp only [getH] at n0 n1 n2 n3 n4 n5 n6 n7
 clear hF hkz hz hz1 k1 k9 hWz hl
 generalize kidS 7 (z.kind, z.write) = lk at *
 go_wp2_with fail
 refine HC.out.mono ?_
 rintro e w5 ⟨rfl, S5, hm5, hv5⟩
 have HF5 := Lib.hid (HF2.out.go hm5 hv5)
 clear hm5 hv5 HC HF2 c0 c1 c2 c3 c4 c5 c6 c7 hblk hnb p0 hlp n0 n1 n2 n3 n4 n5 n6 n7 hlx
 dsimp only
 have p0 := (HF5.out).p.cell 0
 have hlp := (HF5.out).p.lt
 simp only [getH] at p0
 have n0 := (HF5.out).x.cell 0
 have n1 := (HF5.out).x.cell 1
 have n2 := (HF5.out).x.cell 2
 have n3 := (HF5.out).x.cell 3
 have n4 := (HF5.out).x.cell 4
 have n5 := (HF5.out).x.cell 5
 have n6 := (HF5.out).x.cell 6
 have n7 := (HF5.out).x.cell 7
 have hlx := (HF5.out).x.lt
 simp only [getH] at n0 n1 n2 n3 n4 n5 n6 n7
 have HP := Lib.hid (wput_go base g S5 (L ++ lk) 6 w5 HF5.out.wr HF5.out.size (by omega))
 go_wp2_with fail
 refine HP.out.mono ?_
 rintro e w6 ⟨rfl, S6, hm6, hv6⟩
 have HF6 := Lib.hid (HF5.out.go hm6 hv6)
 clear hm6 hv6 HP HF5 p0 hlp n0 n1 n2 n3 n4 n5 n6 n7 hlx
 dsimp only
 go_wp2
 go_light
 go_end0
 rw [← List.append_assoc]
 exact HF6.out.out rfl
theorem write_post8 (x : Nd) (hK : KidsW x.kids) (B : Option Addr) (cap base g : Nat) (S : Nat → Prop) (L : List Lex) (w : World) (ht : TreesAt w (fun b => ¬ S b) x.kids B) (h : WrAt w base g S L) (hb : base ≤ w.heap.size) (hl : L.length + x.write.length ≤ 90000000) (hkl : x.kids.len ≤ 140737488355328) (hk : x.kind = 8) (hk1 : x.kids.len = 1) : Calls Tryz.prog 161 #[.pointer (some ⟨g, 0, none⟩), ndV x B cap] w (WrOut base g S w (L ++ x.write)) := by
 obtain ⟨z, hz1, hz⟩ := one_kid hk1
 have hlk : L.length + (kidS 8 (z.kind, z.write)).length ≤ 90000000 ∧ (L ++ kidS 8 (z.kind, z.write)).length + 1 ≤ 90000000 := by
  rw [Nd.write_post (by omega), Trees.writes_head hz] at hl
  simp only [List.length_append, List.length_cons, List.length_nil, hk] at hl ⊢
  omega
 rw [Nd.write_post (by omega), Trees.writes_head hz]
 have HK1 := Lib.hid hk1
 clear hk1
 have HF2 := Lib.hid (show WFr w base g S #[.int .i64 8, .int .u64 (word x.set.testBit 0), .int .u64 (word x.set.testBit 1), .int .u64 (word x.set.testBit 2), .int .u64 (word x.set.testBit 3), .slice B x.kids.len cap, .int .i64 x.lo, .int .i64 x.hi] S L ((w.alloc (.cells #[.pointer (some ⟨g, 0, none⟩)] 217)).alloc (.cells #[.int .i64 8, .int .u64 (word x.set.testBit 0), .int .u64 (word x.set.testBit 1), .int .u64 (word x.set.testBit 2), .int .u64 (word x.set.testBit 3), .slice B x.kids.len cap, .int .i64 x.lo, .int .i64 x.hi] 28)) from WFr.start #[.int .i64 8, .int .u64 (word x.set.testBit 0), .int .u64 (word x.set.testBit 1), .int .u64 (word x.set.testBit 2), .int .u64 (word x.set.testBit 3), .slice B x.kids.len cap, .int .i64 x.lo, .int .i64 x.hi] h hb)
 have HT := Lib.hid ht
 have HK := Lib.hid hK
 unfold ndV
 rw [hk]
 clear ht hK h
 go_enter Tryz.func161, Tryz.ntmps161
 try rw [hk]
 go_upto_region 23 with fail
 generalize ((w.alloc (.cells #[.pointer (some ⟨g, 0, none⟩)] 217)).alloc (.cells #[.int .i64 8, .int .u64 (word x.set.testBit 0), .int .u64 (word x.set.testBit 1), .int .u64 (word x.set.testBit 2), .int .u64 (word x.set.testBit 3), .slice B x.kids.len cap, .int .i64 x.lo, .int .i64 x.hi] 28)) = w2 at *
 have hk1 := HK1.out
 have hF := HF2.out
 obtain ⟨b, o, C, capc, rfl, hnb, _, ⟨c0, c1, c2, c3, c4, c5, c6, c7⟩, hkz⟩ := (HT.out.movesW hF.mvs).get hz
 have hblk := World.block_lt_of_cell? w2 _ c0
 obtain ⟨k1, k9, hWz⟩ := HK.out z (List.mem_of_getElem? hz)
 simp only [Nat.zero_mul, Nat.add_zero] at c0 c1 c2 c3 c4 c5 c6 c7
 have HC := Lib.hid (kid_go 8 z C capc 3 base g w.heap.size S L w2 hkz hF.wr hF.size (hF.p.cell 0) hF.np k1 k9 hWz hlk.1 (by decide))
 unfold ndV at HC
 have p0 := (hF).p.cell 0
 have hlp := (hF).p.lt
 simp only [getH] at p0
 have n0 := (hF).x.cell 0
 have n1 := (hF).x.cell 1
 have n2 := (hF).x.cell 2
 have n3 := (hF).x.cell 3
 have n4 := (hF).x.cell 4
 have n5 := (hF).x.cell 5
 have n6 := (hF).x.cell 6
 have n7 := (hF).x.cell 7
 have hlx := (hF).x.lt
 simp only [getH] at n0 n1 n2 n3 n4 n5 n6 n7
 clear hF hkz hz hz1 k1 k9 hWz hl
 generalize kidS 8 (z.kind, z.write) = lk at *
 go_wp2_with fail
 refine HC.out.mono ?_
 rintro e w5 ⟨rfl, S5, hm5, hv5⟩
 have HF5 := Lib.hid (HF2.out.go hm5 hv5)
 clear hm5 hv5 HC HF2 c0 c1 c2 c3 c4 c5 c6 c7 hblk hnb p0 hlp n0 n1 n2 n3 n4 n5 n6 n7 hlx
 dsimp only
 have p0 := (HF5.out).p.cell 0
 have hlp := (HF5.out).p.lt
 simp only [getH] at p0
 have n0 := (HF5.out).x.cell 0
 have n1 := (HF5.out).x.cell 1
 have n2 := (HF5.out).x.cell 2
 have n3 := (HF5.out).x.cell 3
 have n4 := (HF5.out).x.cell 4
 have n5 := (HF5.out).x.cell 5
 have n6 := (HF5.out).x.cell 6
 have n7 := (HF5.out).x.cell 7
 have hlx := (HF5.out).x.lt
 simp only [getH] at n0 n1 n2 n3 n4 n5 n6 n7
 have HP := Lib.hid (wput_go base g S5 (L ++ lk) 7 w5 HF5.out.wr HF5.out.size (by omega))
 go_wp2_with fail
 refine HP.out.mono ?_
 rintro e w6 ⟨rfl, S6, hm6, hv6⟩
 have HF6 := Lib.hid (HF5.out.go hm6 hv6)
 clear hm6 hv6 HP HF5 p0 hlp n0 n1 n2 n3 n4 n5 n6 n7 hlx
 dsimp only
 go_wp2
 go_light
 go_end0
 rw [← List.append_assoc]
 exact HF6.out.out rfl
theorem write_rep (x : Nd) (hK : KidsW x.kids) (B : Option Addr) (cap base g : Nat) (S : Nat → Prop) (L : List Lex) (w : World) (ht : TreesAt w (fun b => ¬ S b) x.kids B) (h : WrAt w base g S L) (hb : base ≤ w.heap.size) (hl : L.length + x.write.length ≤ 90000000) (hkl : x.kids.len ≤ 140737488355328) (hk : x.kind = 9) (hk1 : x.kids.len = 1) : Calls Tryz.prog 161 #[.pointer (some ⟨g, 0, none⟩), ndV x B cap] w (WrOut base g S w (L ++ x.write)) := by
 obtain ⟨z, hz1, hz⟩ := one_kid hk1
 have hlk : L.length + (kidS 9 (z.kind, z.write)).length ≤ 90000000 ∧ (L ++ kidS 9 (z.kind, z.write)).length + 1 ≤ 90000000 := by
  rw [Nd.write_rep hk, Trees.writes_head hz] at hl
  simp only [List.length_append, List.length_cons, List.length_nil, hk] at hl ⊢
  omega
 rw [Nd.write_rep hk, Trees.writes_head hz]
 have HK1 := Lib.hid hk1
 clear hk1
 have HF2 := Lib.hid (show WFr w base g S #[.int .i64 9, .int .u64 (word x.set.testBit 0), .int .u64 (word x.set.testBit 1), .int .u64 (word x.set.testBit 2), .int .u64 (word x.set.testBit 3), .slice B x.kids.len cap, .int .i64 x.lo, .int .i64 x.hi] S L ((w.alloc (.cells #[.pointer (some ⟨g, 0, none⟩)] 217)).alloc (.cells #[.int .i64 9, .int .u64 (word x.set.testBit 0), .int .u64 (word x.set.testBit 1), .int .u64 (word x.set.testBit 2), .int .u64 (word x.set.testBit 3), .slice B x.kids.len cap, .int .i64 x.lo, .int .i64 x.hi] 28)) from WFr.start #[.int .i64 9, .int .u64 (word x.set.testBit 0), .int .u64 (word x.set.testBit 1), .int .u64 (word x.set.testBit 2), .int .u64 (word x.set.testBit 3), .slice B x.kids.len cap, .int .i64 x.lo, .int .i64 x.hi] h hb)
 have HT := Lib.hid ht
 have HK := Lib.hid hK
 unfold ndV
 rw [hk]
 clear ht hK h
 go_enter Tryz.func161, Tryz.ntmps161
 try rw [hk]
 go_upto_region 26 with fail
 generalize ((w.alloc (.cells #[.pointer (some ⟨g, 0, none⟩)] 217)).alloc (.cells #[.int .i64 9, .int .u64 (word x.set.testBit 0), .int .u64 (word x.set.testBit 1), .int .u64 (word x.set.testBit 2), .int .u64 (word x.set.testBit 3), .slice B x.kids.len cap, .int .i64 x.lo, .int .i64 x.hi] 28)) = w2 at *
 have hk1 := HK1.out
 have hF := HF2.out
 obtain ⟨b, o, C, capc, rfl, hnb, _, ⟨c0, c1, c2, c3, c4, c5, c6, c7⟩, hkz⟩ := (HT.out.movesW hF.mvs).get hz
 have hblk := World.block_lt_of_cell? w2 _ c0
 obtain ⟨k1, k9, hWz⟩ := HK.out z (List.mem_of_getElem? hz)
 simp only [Nat.zero_mul, Nat.add_zero] at c0 c1 c2 c3 c4 c5 c6 c7
 have HC := Lib.hid (kid_go 9 z C capc 3 base g w.heap.size S L w2 hkz hF.wr hF.size (hF.p.cell 0) hF.np k1 k9 hWz hlk.1 (by decide))
 unfold ndV at HC
 have p0 := (hF).p.cell 0
 have hlp := (hF).p.lt
 simp only [getH] at p0
 have n0 := (hF).x.cell 0
 have n1 := (hF).x.cell 1
 have n2 := (hF).x.cell 2
 have n3 := (hF).x.cell 3
 have n4 := (hF).x.cell 4
 have n5 := (hF).x.cell 5
 have n6 := (hF).x.cell 6
 have n7 := (hF).x.cell 7
 have hlx := (hF).x.lt
 simp only [getH] at n0 n1 n2 n3 n4 n5 n6 n7
 clear hF hkz hz hz1 k1 k9 hWz hl
 generalize kidS 9 (z.kind, z.write) = lk at *
 go_wp2_with fail
 refine HC.out.mono ?_
 rintro e w5 ⟨rfl, S5, hm5, hv5⟩
 have HF5 := Lib.hid (HF2.out.go hm5 hv5)
 clear hm5 hv5 HC HF2 c0 c1 c2 c3 c4 c5 c6 c7 hblk hnb p0 hlp n0 n1 n2 n3 n4 n5 n6 n7 hlx
 dsimp only
 have h63 : (L ++ lk).length + 1 ≤ maxLen := Nat.le_trans (show (L ++ lk).length + 1 ≤ 2000000000 by omega) (by decide)
 have hby : ((L ++ lk).length + 1) * 64 ≤ 140737488355328 := by omega
 have HLC := Lib.hid (show lexCell ⟨8, 0, noSet, x.lo, x.hi⟩ = [.int .i64 8, .int .i64 0, .int .u64 0, .int .u64 0, .int .u64 0, .int .u64 0, .int .i64 x.lo, .int .i64 x.hi] from rfl)
 go_upto_region 27 with fail
 have p0 := (HF5.out).p.cell 0
 have hlp := (HF5.out).p.lt
 simp only [getH] at p0
 have n0 := (HF5.out).x.cell 0
 have n1 := (HF5.out).x.cell 1
 have n2 := (HF5.out).x.cell 2
 have n3 := (HF5.out).x.cell 3
 have n4 := (HF5.out).x.cell 4
 have n5 := (HF5.out).x.cell 5
 have n6 := (HF5.out).x.cell 6
 have n7 := (HF5.out).x.cell 7
 have hlx := (HF5.out).x.lt
 simp only [getH] at n0 n1 n2 n3 n4 n5 n6 n7
 have h0 := (HF5).out.wr
 obtain ⟨h0, hg, v, hG, hR, h3⟩ := h0
 obtain ⟨i0, hi, hz0, hz1, hz2⟩ := info_parts info_lex
 have s0 := hG.cell 0
 have f0 := hG.frozen 0
 have hltg := Blk.lt hG
 have HG := Lib.hid hG
 have HR := Lib.hid hR
 have HH := Lib.hid (show _ ∧ _ ∧ _ from ⟨h0, hg, h3⟩)
 have HneG := Lib.hid (blk_not_row hG (by decide) hR)
 have hbw := (HF5).out.size
 clear hG hR h0 h3
 have hKl := two_of (Q := fun b => b < w5.heap.size) hlp hlx
 refine wp_region_held_drew (S := fun w' => ∀ b' o', b' = w.heap.size ∨ b' = w.heap.size + 1 → w'.cell? ⟨b', o', none⟩ = w5.cell? ⟨b', o', none⟩) (by kernel_rfl) (KeepP.start (fun b => b = w.heap.size ∨ b = w.heap.size + 1) w5) (fun hHeld => ?_)
 refine wpAnyH_take (i := 0) (oi := _) (v := ?_) rfl (by kernel_rfl) (by kernel_rfl) (by kernel_rfl) (fun _ _ _ h => h) (Or.inl ⟨by kernel_rfl, ?_⟩) (by assumption) ?_
 rotate_left
 ·intro w hSw
  try dsimp only at hSw
  go_simp
  try (with_reducible rfl)
 try simp only [Act.put, nrmH]
 refine wpAnyH_take (i := 1) (oi := _) (v := ?_) rfl (by kernel_rfl) (by kernel_rfl) (by kernel_rfl) (fun _ _ _ h => h) (Or.inl ⟨by kernel_rfl, ?_⟩) (by assumption) ?_
 rotate_left
 ·intro w hSw
  try dsimp only at hSw
  go_simp
  try (with_reducible rfl)
 try simp only [Act.put, nrmH]
 refine wpAnyH_take (i := 2) (oi := _) (v := ?_) rfl (by kernel_rfl) (by kernel_rfl) (by kernel_rfl) (fun _ _ _ h => h) (Or.inl ⟨by kernel_rfl, ?_⟩) (by assumption) ?_
 rotate_left
 ·intro w hSw
  try dsimp only at hSw
  go_simp
  try (with_reducible rfl)
 try simp only [Act.put, nrmH]
 refine wpAnyH_take (i := 3) (oi := _) (v := ?_) rfl (by kernel_rfl) (by kernel_rfl) (by kernel_rfl) (fun _ _ _ h => h) (Or.inl ⟨by kernel_rfl, ?_⟩) (by assumption) ?_
 rotate_left
 ·intro w hSw
  try dsimp only at hSw
  go_simp
  try (with_reducible rfl)
 try simp only [Act.put, nrmH]
 refine wpAnyH_take (i := 5) (oi := _) (v := ?_) rfl (by kernel_rfl) (by kernel_rfl) (by kernel_rfl) (fun _ _ _ h => h) (Or.inl ⟨by kernel_rfl, ?_⟩) (by assumption) ?_
 rotate_left
 ·intro w hSw
  try dsimp only at hSw
  go_simp
  try (with_reducible rfl)
 try simp only [Act.put, nrmH]
 refine wpAnyH_take (i := 6) (oi := _) (v := ?_) rfl (by kernel_rfl) (by kernel_rfl) (by kernel_rfl) (fun _ _ _ h => h) (Or.inl ⟨by kernel_rfl, ?_⟩) (by assumption) ?_
 rotate_left
 ·intro w hSw
  try dsimp only at hSw
  go_simp
  try (with_reducible rfl)
 try simp only [Act.put, nrmH]
 refine wpAnyH_take (i := 7) (oi := _) (v := ?_) rfl (by kernel_rfl) (by kernel_rfl) (by kernel_rfl) (fun _ _ _ h => h) (Or.inl ⟨by kernel_rfl, ?_⟩) (by assumption) ?_
 rotate_left
 ·intro w hSw
  try dsimp only at hSw
  go_simp
  try (with_reducible rfl)
 try simp only [Act.put, nrmH]
 refine wpAnyH_take (i := 8) (oi := _) (v := ?_) rfl (by kernel_rfl) (by kernel_rfl) (by kernel_rfl) (fun _ _ _ h => h) (Or.inl ⟨by kernel_rfl, ?_⟩) (by assumption) ?_
 rotate_left
 ·intro w hSw
  try dsimp only at hSw
  go_simp
  try (with_reducible rfl)
 try simp only [Act.put, nrmH]
 refine wpAnyH_take (i := 9) (oi := _) (v := ?_) rfl (by kernel_rfl) (by kernel_rfl) (by kernel_rfl) (fun _ _ _ h => h) (Or.inl ⟨by kernel_rfl, ?_⟩) (by assumption) ?_
 rotate_left
 ·intro w hSw
  try dsimp only at hSw
  go_simp
  try (with_reducible rfl)
 try simp only [Act.put, nrmH]
 refine wpAnyH_ready (rs := [4, 10]) (by kernel_rfl) (by simp) ?_
 refine AllReadyH.cons (o := _) rfl (fun K hK => ?_) (AllReadyH.cons (o := _) rfl (fun K hK => ?_) AllReadyH.nil)
 ·skip
  go_simp
  refine hK.out _ _ hHeld (fun _ => ?_)
  clear hK K hHeld
  try simp only [Act.put, nrmH]
  refine wpAnyH_ready (rs := [10]) (by kernel_rfl) (by simp) ?_
  refine AllReadyH.cons (o := _) rfl (fun K hK => ?_) AllReadyH.nil
  go_simp
  refine hK.out _ _ (KeepP.alloc (KeepP.start (fun b => b = w.heap.size ∨ b = w.heap.size + 1) w5) hKl _) (fun _ => ?_)
  clear hK K
  try simp only [Act.put, nrmH]
  refine wpAnyH_ready (rs := [11]) (by kernel_rfl) (by simp) ?_
  refine AllReadyH.cons (o := _) rfl (fun K hK => ?_) AllReadyH.nil
  refine step_append_lies _ (by rfl) _ _ _ (by rfl) base 143 i0 _ 8 64 Tryz.underlying138 hi hz0 hz1 hz2 rfl (by decide) v (L ++ lk).length (lexCells (L ++ lk)) (by rfl) (HR.out.drew.alloc _) ⟨w5.heap.size, 0, none⟩ 1 1 ([.int .i64 8, .int .i64 0, .int .u64 0, .int .u64 0, .int .u64 0, .int .u64 0, .int .i64 x.lo, .int .i64 x.hi]) (by rfl) (by rfl) (World.news_of_block (cs := ([.int .i64 8, .int .i64 0, .int .u64 0, .int .u64 0, .int .u64 0, .int .u64 0, .int .i64 x.lo, .int .i64 x.hi]).toArray) (t := 143) (fr := (0, 0)) (heap_alloc_new w5.drew _)) (by simp [Value.oneCell']) (by decide) h63 hby (by simp; omega) (w5.heap.size + 1) (by simp) ?_
  intro gg cap' w3 hown1 hgrow hat hlt1
  have hG1 := Blk.grown (Blk.alloc (Blk.drew HG.out) _) hgrow HneG.out
  have c0 := hG1.cell 0
  have d0 := hG1.frozen 0
  have hgl := hG1.lt
  have HKG := Lib.hid (KeepP.grown (KeepP.alloc (KeepP.start (fun b => b = w.heap.size ∨ b = w.heap.size + 1) w5) hKl _) hgrow (two_of (Q := fun b => b < _ ∧ some b ≠ v.ownBlock) ⟨by simp; omega, fun e => HF5.out.np (HH.out.2.2 _ e.symm)⟩ ⟨by simp; omega, fun e => HF5.out.nx (HH.out.2.2 _ e.symm)⟩))
  rw [← HLC.out] at hown1
  have HG1 := Lib.hid hG1
  have Hgrow := Lib.hid hgrow
  have Hown1 := Lib.hid hown1
  have Hat := Lib.hid hat
  clear hG1 hgrow hown1 hat
  refine hK.out _ _ HKG.out (fun _ => ?_)
  clear hK K
  try simp only [Act.put, nrmH]
  refine wpAnyH_take (i := 12) (oi := _) (v := ?_) rfl (by kernel_rfl) (by kernel_rfl) (by kernel_rfl) (fun _ _ _ h => h) (Or.inl ⟨by kernel_rfl, ?_⟩) (by assumption) ?_
  rotate_left
  ·intro w hSw
   try dsimp only at hSw
   go_simp
   try (with_reducible rfl)
  try simp only [Act.put, nrmH]
  refine wpAnyH_take (i := 13) (oi := _) (v := ?_) rfl (by kernel_rfl) (by kernel_rfl) (by kernel_rfl) (fun _ _ _ h => h) (Or.inl ⟨by kernel_rfl, ?_⟩) (by assumption) ?_
  rotate_left
  ·intro w hSw
   try dsimp only at hSw
   go_simp
   try (with_reducible rfl)
  try simp only [Act.put, nrmH]
  refine wpAnyH_ready (rs := [14]) (by kernel_rfl) (by simp) ?_
  refine AllReadyH.cons (o := _) rfl (fun K hK => ?_) AllReadyH.nil
  go_simp
  refine hK.out _ _ (KeepP.set HKG.out (two_of (Q := fun b => b ≠ g) (p := w.heap.size) (q := w.heap.size + 1) (fun e => HF5.out.np (by rw [e]; exact HH.out.2.1)) (fun e => HF5.out.nx (by rw [e]; exact HH.out.2.1))) _) (fun _ => ?_)
  clear hK K
  try simp only [Act.put, nrmH]
  refine wpAnyH_done (by kernel_rfl) ?_ _
  go_wp2
  go_light
  go_end0
  obtain ⟨S', hp1, hp2⟩ := wr_push HH.out hbw HG1.out ((Below.refl w5.heap.size w5).drew.alloc (Nat.le_refl _) _) Hgrow.out Hown1.out Hat.out (by omega)
  have hz9 := (HF5.out.go hp1 hp2).out (e := .returned (.tuple #[])) rfl; rw [List.length_append] at hz9; rw [← List.append_assoc]; exact hz9
 ·skip
  go_simp
  refine hK.out _ _ (KeepP.alloc (KeepP.start (fun b => b = w.heap.size ∨ b = w.heap.size + 1) w5) hKl _) (fun _ => ?_)
  clear hK K hHeld
  try simp only [Act.put, nrmH]
  refine wpAnyH_ready (rs := [4]) (by kernel_rfl) (by simp) ?_
  refine AllReadyH.cons (o := _) rfl (fun K hK => ?_) AllReadyH.nil
  go_simp
  refine hK.out _ _ (by assumption) (fun _ => ?_)
  clear hK K
  try simp only [Act.put, nrmH]
  refine wpAnyH_ready (rs := [11]) (by kernel_rfl) (by simp) ?_
  refine AllReadyH.cons (o := _) rfl (fun K hK => ?_) AllReadyH.nil
  refine step_append_lies _ (by rfl) _ _ _ (by rfl) base 143 i0 _ 8 64 Tryz.underlying138 hi hz0 hz1 hz2 rfl (by decide) v (L ++ lk).length (lexCells (L ++ lk)) (by rfl) (HR.out.drew.alloc _) ⟨w5.heap.size, 0, none⟩ 1 1 ([.int .i64 8, .int .i64 0, .int .u64 0, .int .u64 0, .int .u64 0, .int .u64 0, .int .i64 x.lo, .int .i64 x.hi]) (by rfl) (by rfl) (World.news_of_block (cs := ([.int .i64 8, .int .i64 0, .int .u64 0, .int .u64 0, .int .u64 0, .int .u64 0, .int .i64 x.lo, .int .i64 x.hi]).toArray) (t := 143) (fr := (0, 0)) (heap_alloc_new w5.drew _)) (by simp [Value.oneCell']) (by decide) h63 hby (by simp; omega) (w5.heap.size + 1) (by simp) ?_
  intro gg cap' w3 hown1 hgrow hat hlt1
  have hG1 := Blk.grown (Blk.alloc (Blk.drew HG.out) _) hgrow HneG.out
  have c0 := hG1.cell 0
  have d0 := hG1.frozen 0
  have hgl := hG1.lt
  have HKG := Lib.hid (KeepP.grown (KeepP.alloc (KeepP.start (fun b => b = w.heap.size ∨ b = w.heap.size + 1) w5) hKl _) hgrow (two_of (Q := fun b => b < _ ∧ some b ≠ v.ownBlock) ⟨by simp; omega, fun e => HF5.out.np (HH.out.2.2 _ e.symm)⟩ ⟨by simp; omega, fun e => HF5.out.nx (HH.out.2.2 _ e.symm)⟩))
  rw [← HLC.out] at hown1
  have HG1 := Lib.hid hG1
  have Hgrow := Lib.hid hgrow
  have Hown1 := Lib.hid hown1
  have Hat := Lib.hid hat
  clear hG1 hgrow hown1 hat
  refine hK.out _ _ HKG.out (fun _ => ?_)
  clear hK K
  try simp only [Act.put, nrmH]
  refine wpAnyH_take (i := 12) (oi := _) (v := ?_) rfl (by kernel_rfl) (by kernel_rfl) (by kernel_rfl) (fun _ _ _ h => h) (Or.inl ⟨by kernel_rfl, ?_⟩) (by assumption) ?_
  rotate_left
  ·intro w hSw
   try dsimp only at hSw
   go_simp
   try (with_reducible rfl)
  try simp only [Act.put, nrmH]
  refine wpAnyH_take (i := 13) (oi := _) (v := ?_) rfl (by kernel_rfl) (by kernel_rfl) (by kernel_rfl) (fun _ _ _ h => h) (Or.inl ⟨by kernel_rfl, ?_⟩) (by assumption) ?_
  rotate_left
  ·intro w hSw
   try dsimp only at hSw
   go_simp
   try (with_reducible rfl)
  try simp only [Act.put, nrmH]
  refine wpAnyH_ready (rs := [14]) (by kernel_rfl) (by simp) ?_
  refine AllReadyH.cons (o := _) rfl (fun K hK => ?_) AllReadyH.nil
  go_simp
  refine hK.out _ _ (KeepP.set HKG.out (two_of (Q := fun b => b ≠ g) (p := w.heap.size) (q := w.heap.size + 1) (fun e => HF5.out.np (by rw [e]; exact HH.out.2.1)) (fun e => HF5.out.nx (by rw [e]; exact HH.out.2.1))) _) (fun _ => ?_)
  clear hK K
  try simp only [Act.put, nrmH]
  refine wpAnyH_done (by kernel_rfl) ?_ _
  go_wp2
  go_light
  go_end0
  obtain ⟨S', hp1, hp2⟩ := wr_push HH.out hbw HG1.out ((Below.refl w5.heap.size w5).drew.alloc (Nat.le_refl _) _) Hgrow.out Hown1.out Hat.out (by omega)
  have hz9 := (HF5.out.go hp1 hp2).out (e := .returned (.tuple #[])) rfl; rw [List.length_append] at hz9; rw [← List.append_assoc]; exact hz9
theorem cat_snoc {F : Trees} {k : Nat} {z : Nd} (hz : F.list[k]? = some z) (L : List Lex) : L ++ ((F.writes.take (k + 1)).map (kidS 4)).flatten = L ++ ((F.writes.take k).map (kidS 4)).flatten ++ kidS 4 (z.kind, z.write) := by
 rw [take_snocF (Trees.writes_get hz), List.map_append, List.flatten_append, List.append_assoc]
 simp
theorem write_cat (x : Nd) (hK : KidsW x.kids) (B : Option Addr) (cap base g : Nat) (S : Nat → Prop) (L : List Lex) (w : World) (ht : TreesAt w (fun b => ¬ S b) x.kids B) (h : WrAt w base g S L) (hb : base ≤ w.heap.size) (hl : L.length + x.write.length ≤ 90000000) (hkl : x.kids.len ≤ 140737488355328) (hk : x.kind = 4) : Calls Tryz.prog 161 #[.pointer (some ⟨g, 0, none⟩), ndV x B cap] w (WrOut base g S w (L ++ x.write)) := by
 rw [Nd.write_cat hk] at hl ⊢
 have HF2 := Lib.hid (show WFr w base g S #[.int .i64 4, .int .u64 (word x.set.testBit 0), .int .u64 (word x.set.testBit 1), .int .u64 (word x.set.testBit 2), .int .u64 (word x.set.testBit 3), .slice B x.kids.len cap, .int .i64 x.lo, .int .i64 x.hi] S L ((w.alloc (.cells #[.pointer (some ⟨g, 0, none⟩)] 217)).alloc (.cells #[.int .i64 4, .int .u64 (word x.set.testBit 0), .int .u64 (word x.set.testBit 1), .int .u64 (word x.set.testBit 2), .int .u64 (word x.set.testBit 3), .slice B x.kids.len cap, .int .i64 x.lo, .int .i64 x.hi] 28)) from WFr.start #[.int .i64 4, .int .u64 (word x.set.testBit 0), .int .u64 (word x.set.testBit 1), .int .u64 (word x.set.testBit 2), .int .u64 (word x.set.testBit 3), .slice B x.kids.len cap, .int .i64 x.lo, .int .i64 x.hi] h hb)
 have HT := Lib.hid ht
 have HK := Lib.hid hK
 unfold ndV
 rw [hk]
 clear ht hK h
 go_enter Tryz.func161, Tryz.ntmps161
 have HM0 := Lib.hid (show WFrM w base g S #[.int .i64 4, .int .u64 (word x.set.testBit 0), .int .u64 (word x.set.testBit 1), .int .u64 (word x.set.testBit 2), .int .u64 (word x.set.testBit 3), .slice B x.kids.len cap, .int .i64 x.lo, .int .i64 x.hi] (L ++ ((x.kids.writes.take 0).map (kidS 4)).flatten) ((w.alloc (.cells #[.pointer (some ⟨g, 0, none⟩)] 217)).alloc (.cells #[.int .i64 4, .int .u64 (word x.set.testBit 0), .int .u64 (word x.set.testBit 1), .int .u64 (word x.set.testBit 2), .int .u64 (word x.set.testBit 3), .slice B x.kids.len cap, .int .i64 x.lo, .int .i64 x.hi] 28)) from ⟨S, by simpa using HF2.out⟩)
 clear HF2
 go_wp2
 go_loopw [50] (fun i' wr => ∃ k : Nat, i' = .int .i64 (k : Int) ∧ k ≤ x.kids.len ∧ Hid (WFrM w base g S #[.int .i64 4, .int .u64 (word x.set.testBit 0), .int .u64 (word x.set.testBit 1), .int .u64 (word x.set.testBit 2), .int .u64 (word x.set.testBit 3), .slice B x.kids.len cap, .int .i64 x.lo, .int .i64 x.hi] (L ++ ((x.kids.writes.take k).map (kidS 4)).flatten) wr)) (fun i' _ => x.kids.len - (intOf i').toNat)
 case atStart => exact ⟨0, rfl, Nat.zero_le _, HM0⟩
 case round =>
  clear HM0
  obtain ⟨k, rfl, hk, HM⟩ := hrel
  by_cases hlt : k < x.kids.len
  ·obtain ⟨z, hz⟩ : ∃ z, x.kids.list[k]? = some z := ⟨_, List.getElem?_eq_getElem (by rw [Trees.len_list]; exact hlt)⟩
   have hdl : (k : Int) < (x.kids.len : Int) := by omega
   have hsn := cat_snoc hz L
   have hle : (L ++ ((x.kids.writes.take k).map (kidS 4)).flatten).length + (kidS 4 (z.kind, z.write)).length ≤ 90000000 := by
    have h1 := flat_take (x.kids.writes.map (kidS 4)) (k + 1)
    rw [← List.map_take] at h1
    have h2 := congrArg List.length hsn
    rw [List.length_append, List.length_append] at h2
    omega
   have HS := Lib.hid hsn
   obtain ⟨S1, hF0⟩ := HM.out
   have hF := hF0
   obtain ⟨b, o, C, capc, rfl, hnb, _, ⟨c0, c1, c2, c3, c4, c5, c6, c7⟩, hkz⟩ := (HT.out.movesW hF.mvs).get hz
   have hblk := World.block_lt_of_cell? wr _ c0
   obtain ⟨k1, k9, hWz⟩ := HK.out z (List.mem_of_getElem? hz)
   have hFA := hF0.below ((Below.refl _ _).alloc (Nat.le_refl _) (.cells #[.int .i64 z.kind, .int .u64 (word z.set.testBit 0), .int .u64 (word z.set.testBit 1), .int .u64 (word z.set.testBit 2), .int .u64 (word z.set.testBit 3), .slice C z.kids.len capc, .int .i64 z.lo, .int .i64 z.hi] 28))
   have HC := Lib.hid (kid_go 4 z C capc 3 base g w.heap.size S1 _ _ (hkz.below ((Below.refl _ _).alloc (Nat.le_refl _) _)) hFA.wr hFA.size (hFA.p.cell 0) hFA.np k1 k9 hWz hle (by decide))
   have HFA := Lib.hid hFA
   unfold ndV at HC
   clear hF hF0 hFA hkz hz k1 k9 hWz hl hsn hle HM
   generalize L ++ ((x.kids.writes.take k).map (kidS 4)).flatten = Lk at *
   generalize kidS 4 (z.kind, z.write) = lz at *
   go_wp2_with fail
   refine HC.out.mono ?_
   rintro e w5 ⟨rfl, S5, hm5, hv5⟩
   have HF5 := Lib.hid (HFA.out.go hm5 hv5)
   clear hm5 hv5 HC HFA c0 c1 c2 c3 c4 c5 c6 c7 hblk hnb
   dsimp only
   go_wp2
   go_roundw
   case rel =>
    refine ⟨k + 1, by go_num, by omega, Lib.hid ?_⟩
    rw [HS.out]
    exact ⟨S5, HF5.out⟩
   case measure => simp [intOf]; omega
  ·obtain rfl : k = x.kids.len := by omega
   have hdl : ¬ ((x.kids.len : Int) < (x.kids.len : Int)) := by omega
   obtain ⟨S1, hF0⟩ := HM.out
   rw [show x.kids.writes.take x.kids.len = x.kids.writes by rw [← Trees.writes_len, List.take_length]] at hF0
   have HF0 := Lib.hid hF0
   clear hF0 HM
   go_wp2
   go_light
   go_end0
   exact HF0.out.out rfl
theorem alt_snoc {F : Trees} {k : Nat} {z : Nd} (hz : F.list[k]? = some z) (hk : 0 < k) : barsS ((F.writes.take (k + 1)).map (kidS 5)) = barsS ((F.writes.take k).map (kidS 5)) ++ [lexK 4] ++ kidS 5 (z.kind, z.write) := by
 have hlt := (List.getElem?_eq_some_iff.1 (Trees.writes_get hz)).1
 rw [take_snocF (Trees.writes_get hz), List.map_append, List.map_cons, List.map_nil, barsS_snoc, if_neg (by rw [List.length_map, List.length_take]; omega)]
 simp
theorem alt_first {F : Trees} {z : Nd} (hz : F.list[0]? = some z) : barsS ((F.writes.take (0 + 1)).map (kidS 5)) = kidS 5 (z.kind, z.write) := by
 rw [take_snocF (Trees.writes_get hz), List.take_zero, List.nil_append]
 simp [barsS]
theorem write_alt (x : Nd) (hK : KidsW x.kids) (B : Option Addr) (cap base g : Nat) (S : Nat → Prop) (L : List Lex) (w : World) (ht : TreesAt w (fun b => ¬ S b) x.kids B) (h : WrAt w base g S L) (hb : base ≤ w.heap.size) (hl : L.length + x.write.length ≤ 90000000) (hkl : x.kids.len ≤ 140737488355328) (hk : x.kind = 5) : Calls Tryz.prog 161 #[.pointer (some ⟨g, 0, none⟩), ndV x B cap] w (WrOut base g S w (L ++ x.write)) := by
 rw [Nd.write_alt hk] at hl ⊢
 have HF2 := Lib.hid (show WFr w base g S #[.int .i64 5, .int .u64 (word x.set.testBit 0), .int .u64 (word x.set.testBit 1), .int .u64 (word x.set.testBit 2), .int .u64 (word x.set.testBit 3), .slice B x.kids.len cap, .int .i64 x.lo, .int .i64 x.hi] S L ((w.alloc (.cells #[.pointer (some ⟨g, 0, none⟩)] 217)).alloc (.cells #[.int .i64 5, .int .u64 (word x.set.testBit 0), .int .u64 (word x.set.testBit 1), .int .u64 (word x.set.testBit 2), .int .u64 (word x.set.testBit 3), .slice B x.kids.len cap, .int .i64 x.lo, .int .i64 x.hi] 28)) from WFr.start #[.int .i64 5, .int .u64 (word x.set.testBit 0), .int .u64 (word x.set.testBit 1), .int .u64 (word x.set.testBit 2), .int .u64 (word x.set.testBit 3), .slice B x.kids.len cap, .int .i64 x.lo, .int .i64 x.hi] h hb)
 have HT := Lib.hid ht
 have HK := Lib.hid hK
 unfold ndV
 rw [hk]
 clear ht hK h
 go_enter Tryz.func161, Tryz.ntmps161
 have HM0 := Lib.hid (show WFrM w base g S #[.int .i64 5, .int .u64 (word x.set.testBit 0), .int .u64 (word x.set.testBit 1), .int .u64 (word x.set.testBit 2), .int .u64 (word x.set.testBit 3), .slice B x.kids.len cap, .int .i64 x.lo, .int .i64 x.hi] (L ++ barsS ((x.kids.writes.take 0).map (kidS 5))) ((w.alloc (.cells #[.pointer (some ⟨g, 0, none⟩)] 217)).alloc (.cells #[.int .i64 5, .int .u64 (word x.set.testBit 0), .int .u64 (word x.set.testBit 1), .int .u64 (word x.set.testBit 2), .int .u64 (word x.set.testBit 3), .slice B x.kids.len cap, .int .i64 x.lo, .int .i64 x.hi] 28)) from ⟨S, by simpa [barsS] using HF2.out⟩)
 clear HF2
 go_wp2
 go_loopw [32] (fun i' wr => ∃ k : Nat, i' = .int .i64 (k : Int) ∧ k ≤ x.kids.len ∧ Hid (WFrM w base g S #[.int .i64 5, .int .u64 (word x.set.testBit 0), .int .u64 (word x.set.testBit 1), .int .u64 (word x.set.testBit 2), .int .u64 (word x.set.testBit 3), .slice B x.kids.len cap, .int .i64 x.lo, .int .i64 x.hi] (L ++ barsS ((x.kids.writes.take k).map (kidS 5))) wr)) (fun i' _ => x.kids.len - (intOf i').toNat)
 case atStart => exact ⟨0, rfl, Nat.zero_le _, HM0⟩
 case round =>
  clear HM0
  obtain ⟨k, rfl, hk, HM⟩ := hrel
  by_cases hlt : k < x.kids.len
  ·obtain ⟨z, hz⟩ : ∃ z, x.kids.list[k]? = some z := ⟨_, List.getElem?_eq_getElem (by rw [Trees.len_list]; exact hlt)⟩
   have hdl : (k : Int) < (x.kids.len : Int) := by omega
   have htk := bars_take (x.kids.writes.map (kidS 5)) (k + 1)
   rw [← List.map_take] at htk
   obtain ⟨S1, hF0⟩ := HM.out
   rcases Nat.eq_zero_or_pos k with rfl | hpos
   ·have hsn := alt_first hz
    have hle : L.length + (kidS 5 (z.kind, z.write)).length ≤ 90000000 := by
     rw [hsn] at htk
     omega
    have HS := Lib.hid (congrArg (fun l => L ++ l) hsn)
    have hF := hF0
    obtain ⟨b, o, C, capc, rfl, hnb, _, ⟨c0, c1, c2, c3, c4, c5, c6, c7⟩, hkz⟩ := (HT.out.movesW hF.mvs).get hz
    have hblk := World.block_lt_of_cell? wr _ c0
    obtain ⟨k1, k9, hWz⟩ := HK.out z (List.mem_of_getElem? hz)
    have hFA := hF0.below ((Below.refl _ _).alloc (Nat.le_refl _) (.cells #[.int .i64 z.kind, .int .u64 (word z.set.testBit 0), .int .u64 (word z.set.testBit 1), .int .u64 (word z.set.testBit 2), .int .u64 (word z.set.testBit 3), .slice C z.kids.len capc, .int .i64 z.lo, .int .i64 z.hi] 28))
    simp only [Nat.zero_mul, Nat.add_zero] at c0 c1 c2 c3 c4 c5 c6 c7
    have e0 : L ++ barsS ((x.kids.writes.take 0).map (kidS 5)) = L := by simp [barsS]
    rw [e0] at hFA
    have HC := Lib.hid (kid_go 5 z C capc 2 base g w.heap.size S1 _ _ (hkz.below ((Below.refl _ _).alloc (Nat.le_refl _) _)) hFA.wr hFA.size (hFA.p.cell 0) hFA.np k1 k9 hWz hle (by decide))
    have HFA := Lib.hid hFA
    unfold ndV at HC
    clear hF hF0 hFA hkz hz k1 k9 hWz hl hsn hle HM htk e0
    generalize kidS 5 (z.kind, z.write) = lz at *
    go_wp2_with fail
    refine HC.out.mono ?_
    rintro e w5 ⟨rfl, S5, hm5, hv5⟩
    have HF5 := Lib.hid (HFA.out.go hm5 hv5)
    clear hm5 hv5 HC HFA c0 c1 c2 c3 c4 c5 c6 c7 hblk hnb
    dsimp only
    go_wp2
    go_roundw
    case rel =>
     refine ⟨0 + 1, by go_num, by omega, Lib.hid ?_⟩
     rw [HS.out]
     exact ⟨S5, HF5.out⟩
    case measure => simp [intOf]; omega
   ·have hsn := alt_snoc hz hpos
    have hle : (L ++ barsS ((x.kids.writes.take k).map (kidS 5)) ++ [lexK 4]).length + (kidS 5 (z.kind, z.write)).length ≤ 90000000 := by
     have h2 := congrArg List.length hsn
     simp only [List.length_append, List.length_cons, List.length_nil] at h2 hl ⊢
     omega
    have hdp : (0 : Int) < (k : Int) := by omega
    have HS := Lib.hid (congrArg (fun l => L ++ l) hsn)
    have hF := hF0
    obtain ⟨b, o, C, capc, rfl, hnb, _, ⟨c0, c1, c2, c3, c4, c5, c6, c7⟩, hkz⟩ := (HT.out.movesW hF.mvs).get hz
    have hblk := World.block_lt_of_cell? wr _ c0
    obtain ⟨k1, k9, hWz⟩ := HK.out z (List.mem_of_getElem? hz)
    have hFA := hF0.below ((Below.refl _ _).alloc (Nat.le_refl _) (.cells #[.int .i64 z.kind, .int .u64 (word z.set.testBit 0), .int .u64 (word z.set.testBit 1), .int .u64 (word z.set.testBit 2), .int .u64 (word z.set.testBit 3), .slice C z.kids.len capc, .int .i64 z.lo, .int .i64 z.hi] 28))
    rw [← List.append_assoc, ← List.append_assoc] at HS
    generalize L ++ barsS ((x.kids.writes.take k).map (kidS 5)) = Lk at *
    have HP := Lib.hid (wput_go base g S1 Lk 4 _ hFA.wr hFA.size (by simp only [List.length_append] at hle; omega))
    have p0 := hFA.p.cell 0
    simp only [List.getElem?_toArray, List.getElem?_cons_zero] at p0
    have HQ := Lib.hid (show _ ∧ _ ∧ _ ∧ _ from ⟨hkz.below ((Below.refl _ _).alloc (Nat.le_refl _) (.cells #[.int .i64 z.kind, .int .u64 (word z.set.testBit 0), .int .u64 (word z.set.testBit 1), .int .u64 (word z.set.testBit 2), .int .u64 (word z.set.testBit 3), .slice C z.kids.len capc, .int .i64 z.lo, .int .i64 z.hi] 28)), k1, k9, hWz⟩)
    have HX := Lib.hid (Blk.new wr 28 #[.int .i64 z.kind, .int .u64 (word z.set.testBit 0), .int .u64 (word z.set.testBit 1), .int .u64 (word z.set.testBit 2), .int .u64 (word z.set.testBit 3), .slice C z.kids.len capc, .int .i64 z.lo, .int .i64 z.hi])
    have HFA := Lib.hid hFA
    have HNX := Lib.hid (hF0.wr.not (Nat.le_refl wr.heap.size))
    have HLE := Lib.hid hle
    clear hF hF0 hFA hkz hz k1 k9 hWz hl hsn hle HM htk
    go_wp2_with fail
    refine HP.out.mono ?_
    rintro e w4 ⟨rfl, S4, hm4, hv4⟩
    have hF4 := HFA.out.go hm4 hv4
    have hX4 := HX.out.moves hv4 HNX.out
    have HC := Lib.hid (kid_go 5 z C capc 2 base g w.heap.size S4 (Lk ++ [lexK 4]) w4 (HQ.out.1.movesW hv4) hF4.wr hF4.size (hF4.p.cell 0) hF4.np HQ.out.2.1 HQ.out.2.2.1 HQ.out.2.2.2 HLE.out (by decide))
    unfold ndV at HC
    have HF4 := Lib.hid hF4
    have y0 := hX4.cell 0
    have y1 := hX4.cell 1
    have y2 := hX4.cell 2
    have y3 := hX4.cell 3
    have y4 := hX4.cell 4
    have y5 := hX4.cell 5
    have y6 := hX4.cell 6
    have y7 := hX4.cell 7
    have hly := hX4.lt
    simp only [getH] at y0 y1 y2 y3 y4 y5 y6 y7
    clear hm4 hv4 hF4 hX4 HP HFA HX HNX HQ HLE p0 c0 c1 c2 c3 c4 c5 c6 c7 hblk hnb
    generalize kidS 5 (z.kind, z.write) = lz at *
    dsimp only
    go_wp2_with fail
    refine HC.out.mono ?_
    rintro e w5 ⟨rfl, S5, hm5, hv5⟩
    have HF5 := Lib.hid (HF4.out.go hm5 hv5)
    clear hm5 hv5 HC HF4 y0 y1 y2 y3 y4 y5 y6 y7 hly
    dsimp only
    go_wp2
    go_roundw
    case rel =>
     refine ⟨k + 1, by go_num, by omega, Lib.hid ?_⟩
     rw [HS.out]
     exact ⟨S5, HF5.out⟩
    case measure => simp [intOf]; omega
  ·obtain rfl : k = x.kids.len := by omega
   have hdl : ¬ ((x.kids.len : Int) < (x.kids.len : Int)) := by omega
   obtain ⟨S1, hF0⟩ := HM.out
   rw [show x.kids.writes.take x.kids.len = x.kids.writes by rw [← Trees.writes_len, List.take_length]] at hF0
   have HF0 := Lib.hid hF0
   clear hF0 HM
   go_wp2
   go_light
   go_end0
   exact HF0.out.out rfl
theorem write_node (x : Nd) (ha : aloneN x = true) (hK : KidsW x.kids) (hkl : x.kids.len ≤ 140737488355328) : WriteC x := fun B cap base g S L w ht h hb hl => by
 obtain ⟨a1, a9, a0, ak1, ak9⟩ := aloneN_kids ha
 rcases (show x.kind = 1 ∨ x.kind = 2 ∨ x.kind = 3 ∨ x.kind = 4 ∨ x.kind = 5 ∨ x.kind = 6 ∨ x.kind = 7 ∨ x.kind = 8 ∨ x.kind = 9 by omega) with hk | hk | hk | hk | hk | hk | hk | hk | hk
 ·exact write_leaf1 x hK B cap base g S L w ht h hb hl hkl hk
 ·exact write_empty x hK B cap base g S L w ht h hb hl hkl hk
 ·exact write_leaf3 x hK B cap base g S L w ht h hb hl hkl hk
 ·exact write_cat x hK B cap base g S L w ht h hb hl hkl hk
 ·exact write_alt x hK B cap base g S L w ht h hb hl hkl hk
 ·exact write_post6 x hK B cap base g S L w ht h hb hl hkl hk (a1 (by omega) ak9)
 ·exact write_post7 x hK B cap base g S L w ht h hb hl hkl hk (a1 (by omega) ak9)
 ·exact write_post8 x hK B cap base g S L w ht h hb hl hkl hk (a1 (by omega) ak9)
 ·exact write_rep x hK B cap base g S L w ht h hb hl hkl hk (a1 (by omega) ak9)
theorem write_all : ∀ (F : Trees), F.size ≤ 100000000 → Okays F → KidsW F
 | .nil, _, _, z, hz => by cases hz
 | .cons k s ks lo hi r, hs, ho, z, hz => by
  rw [Trees.list] at hz
  have hks : Okays ks := fun y hy => ho y (by simp [Trees.nodes, hy])
  have hr : Okays r := fun y hy => ho y (by simp [Trees.nodes, hy])
  have hself : aloneN ⟨k, s, ks, lo, hi⟩ = true := ho _ (by simp [Trees.nodes])
  have hsz : ks.size ≤ 100000000 ∧ r.size ≤ 100000000 := by simp only [Trees.size] at hs; omega
  rcases List.mem_cons.1 hz with rfl | hz
  ·obtain ⟨_, _, _, ak1, ak9⟩ := aloneN_kids hself
   have hl := Trees.len_size ks
   exact ⟨ak1, ak9, write_node _ hself (write_all ks hsz.1 hks) (by simp only; omega)⟩
  ·exact write_all r hsz.2 hr z hz
theorem write_go {x : Nd} (h : rightT x = true) : WriteC x := by
 obtain ⟨h1, h2⟩ := okays_kids h
 have hs := rightT_size h
 unfold Nd.size at hs
 have hl := Trees.len_size x.kids
 exact write_node x h1 (write_all _ (by omega) h2) (by omega)
theorem lexs_own {w : World} {base : Nat} {v : Value} {L : List Lex} (h : w.ownsRow base 143 8 v L.length (lexCells L)) : ∃ A cap, v = .slice A L.length cap ∧ L.length ≤ cap ∧ LexsAt w w.heap.size A L := by
 obtain ⟨A, cap, rfl⟩ := own_slice h
 refine ⟨A, cap, rfl, ?_, (lexRow_of h).at⟩
 rcases h.2 with ⟨_, h0⟩ | ⟨g, cap', cur, hv, _, _, hle, _⟩
 ·omega
 ·cases hv; exact hle
def LexsOut (r : Except Int (List Lex)) (w : World) (e : Ending) (w' : World) : Prop := Below w.heap.size w w' ∧ match r with
 | .error k => e = .returned (.tuple #[.slice none 0 0, .int .i64 k])
 | .ok L => ∃ v, e = .returned (.tuple #[v, .int .i64 0]) ∧ w'.ownsRow w.heap.size 143 8 v L.length (lexCells L)
theorem lexsS_no {x : Nd} (h : rightT x = false) : lexsS x = .error 6 := by unfold lexsS; rw [if_pos h]
theorem lexsS_bad {x : Nd} (h : rightT x = true) {e : Wrong} (he : lexemesS x.write = .error e) : lexsS x = .error 4 := by unfold lexsS; rw [if_neg (by rw [h]; decide), he]
theorem lexsS_ok {x z : Nd} (h : rightT x = true) (he : lexemesS x.write = .ok z) : lexsS x = .ok x.write := by unfold lexsS; rw [if_neg (by rw [h]; decide), he]
theorem write_small {x : Nd} (h : rightT x = true) : x.write.length ≤ 24576 := by
 have := x.write_len
 have := rightT_size h
 omega
theorem TreeOut.any (r : Except Wrong Nd) : ∃ (z : Nd) (k q : Int), (k = 0 ↔ ∃ z, r = .ok z) ∧ ∀ w e w', (∀ k' q', r = .error (k', q') → k' ≠ 0) → TreeOut r w e w' → ∃ B cap, e = .returned (.tuple #[ndV z B cap, .agg #[.int .i64 k, .int .i64 q]]) ∧ Below w.heap.size w w' := by
 cases r with
 | error e =>
  obtain ⟨k, q⟩ := e
  by_cases hk : k = 0
  ·refine ⟨⟨0, 0, .nil, 0, 0⟩, 1, q, by simp, fun w e w' hn _ => absurd hk (hn k q rfl)⟩
  ·refine ⟨⟨0, 0, .nil, 0, 0⟩, k, q, by simp [hk], fun w e w' _ h => ⟨none, 0, ?_, h.2⟩⟩
   rw [h.1]
   rfl
 | ok z => exact ⟨z, 0, 0, by simp, fun w e w' _ ⟨B, cap, he, hb, _⟩ => ⟨B, cap, he, hb⟩⟩
theorem slexs_go (x : Nd) (B : Option Addr) (cap : Nat) (w : World) (hs : x.size ≤ 4611686018427387903) (ht : TreesAt w (fun b => b < w.heap.size) x.kids B) :
  Calls Tryz.prog 124 #[ndV x B cap] w (LexsOut (lexsS x) w) := by
 have HR := Lib.hid (tright_any x B cap (w.alloc (.cells #[.int .i64 x.kind, .int .u64 (word x.set.testBit 0), .int .u64 (word x.set.testBit 1), .int .u64 (word x.set.testBit 2), .int .u64 (word x.set.testBit 3), .slice B x.kids.len cap, .int .i64 x.lo, .int .i64 x.hi] 28)) hs ((ht.below ((Below.refl _ _).alloc (Nat.le_refl _) _)).weak (fun b h _ => by simp; omega)))
 have HX := Lib.hid (Blk.new w 28 #[.int .i64 x.kind, .int .u64 (word x.set.testBit 0), .int .u64 (word x.set.testBit 1), .int .u64 (word x.set.testBit 2), .int .u64 (word x.set.testBit 3), .slice B x.kids.len cap, .int .i64 x.lo, .int .i64 x.hi])
 have HB := Lib.hid ((Below.refl w.heap.size w).alloc (Nat.le_refl _) (.cells #[.int .i64 x.kind, .int .u64 (word x.set.testBit 0), .int .u64 (word x.set.testBit 1), .int .u64 (word x.set.testBit 2), .int .u64 (word x.set.testBit 3), .slice B x.kids.len cap, .int .i64 x.lo, .int .i64 x.hi] 28))
 have HT := Lib.hid ht
 unfold ndV at HR ⊢
 clear ht
 go_enter Tryz.func124, Tryz.ntmps124
 go_wp2_with fail
 refine HR.out.mono ?_
 rintro e w2 ⟨rfl, hb2⟩
 have hX := HX.out.below hb2 HX.out.lt
 have HB2 := Lib.hid (HB.out.trans (hb2.mono HB.out.size))
 clear hb2 HR HX HB
 dsimp only
 cases hr : rightT x with
 | false =>
  have HV := Lib.hid (lexsS_no hr)
  clear hr
  go_wp2
  go_light
  go_ret2
  rw [HV.out]
  exact ⟨HB2.out, rfl⟩
 | true =>
  have hsz := HB2.out.size
  have hX3 := hX.alloc (.cells #[.slice none 0 0] 181)
  have hne : ¬ w.heap.size = w2.heap.size := by have := hX.lt; omega
  have hwr : WrAt (w2.alloc (.cells #[.slice none 0 0] 181)) w.heap.size w2.heap.size (fun b => b = w2.heap.size) [] := ⟨fun b hb => by subst hb; exact ⟨hsz, by simp⟩, rfl, .slice none 0 0, Blk.new w2 _ _, World.ownsRow_nil _ _ _ _, fun b h => by simp [Value.ownBlock] at h⟩
  have hW := write_go hr B cap w.heap.size w2.heap.size (fun b => b = w2.heap.size) [] (w2.alloc (.cells #[.slice none 0 0] 181)) ((((HT.out.below HB2.out).below ((Below.refl _ _).alloc (Nat.le_refl _) _))).weak (fun b h _ e => by omega)) hwr (by rw [World.size_alloc]; omega) (by have := write_small hr; simp; omega)
  rw [List.nil_append] at hW
  have HB3 := Lib.hid (HB2.out.alloc hsz (.cells #[.slice none 0 0] 181))
  have HW := Lib.hid hW
  unfold ndV at HW
  have HHR := Lib.hid hr
  have n0 := (hX3).cell 0
  have n1 := (hX3).cell 1
  have n2 := (hX3).cell 2
  have n3 := (hX3).cell 3
  have n4 := (hX3).cell 4
  have n5 := (hX3).cell 5
  have n6 := (hX3).cell 6
  have n7 := (hX3).cell 7
  have hlx := (hX3).lt
  simp only [List.getElem?_toArray, List.getElem?_cons_zero, List.getElem?_cons_succ] at n0 n1 n2 n3 n4 n5 n6 n7
  have HX3 := Lib.hid hX3
  clear hX hX3 hwr hW hr
  go_wp2_with fail
  refine HW.out.mono ?_
  rintro e w4 ⟨rfl, S4, hm4, hv4⟩
  obtain ⟨h0, hg, v, hG, hR4, h3⟩ := hm4
  obtain ⟨A, cv, rfl, hcv, hat⟩ := lexs_own hR4
  have s0 := hG.cell 0
  have hlg := hG.lt
  simp only [List.getElem?_toArray, List.getElem?_cons_zero] at s0
  have HB4 := Lib.hid (HB3.out.trans (hv4.below.mono (by omega)))
  have hkk : ∀ k' q', lexemesS x.write = .error (k', q') → k' ≠ 0 := fun k' q' h => lexemesS_kindK h
  obtain ⟨z, k, q, hk0, hany⟩ := TreeOut.any (lexemesS x.write)
  have HC := Lib.hid (Calls.mono (lexemes_go A cv x.write w4 hat (by have := write_small HHR.out; omega) hcv) (R' := fun e w' => ∃ B cap, e = .returned (.tuple #[ndV z B cap, .agg #[.int .i64 k, .int .i64 q]]) ∧ Below w4.heap.size w4 w') (fun e w' h => hany w4 e w' hkk h))
  have HK0 := Lib.hid hk0
  have HR4 := Lib.hid hR4
  have HGG := Lib.hid hG
  clear h0 h3 hG hR4 hat hany hkk hv4 hk0 HW HX3 n0 n1 n2 n3 n4 n5 n6 n7 hlx
  dsimp only
  go_wp2_with fail
  refine HC.out.mono ?_
  rintro e w5 ⟨B5, cap5, rfl, hb5⟩
  have hG5 := HGG.out.below hb5 HGG.out.lt
  have s5 := hG5.cell 0
  have hlg5 := hG5.lt
  simp only [List.getElem?_toArray, List.getElem?_cons_zero] at s5
  have HB5 := Lib.hid (HB4.out.trans (hb5.mono HB4.out.size))
  have HR5 := Lib.hid (own_below HR4.out hb5)
  clear hb5 hG5 HC s0 hlg HGG
  unfold ndV
  dsimp only
  by_cases hk : k = 0
  ·obtain ⟨u, hu⟩ := HK0.out.1 hk
   have HV := Lib.hid (lexsS_ok HHR.out hu)
   clear hu HK0
   subst hk
   go_wp2
   go_light
   go_ret2
   rw [HV.out]
   exact ⟨(HB5.out.alloc HB5.out.size _).alloc (by have := HB5.out.size; simp; omega) _, _, rfl, (HR5.out.alloc _).alloc _⟩
  ·have HV := Lib.hid (show lexsS x = .error 4 by
    cases h : lexemesS x.write with
    | error e => exact lexsS_bad HHR.out h
    | ok z => exact absurd (HK0.out.2 ⟨z, h⟩) hk)
   have hkn : (k != 0) = true := by simpa using hk
   clear HK0 hk
   go_wp2
   go_light
   go_ret2
   rw [HV.out]
   exact ⟨(HB5.out.alloc HB5.out.size _).alloc (by have := HB5.out.size; simp; omega) _, rfl⟩
def txtV (r : Except Int (List Nat)) : Value := match r with
 | .error k => .tuple #[.string ⟨#[]⟩, .int .i64 k]
 | .ok t => .tuple #[.string (strOf t), .int .i64 0]
theorem showT_err {x : Nd} {k : Int} (h : lexsS x = .error k) : showT x = .error k := by unfold showT; rw [h]
theorem showT_long {x : Nd} {L : List Lex} (h : lexsS x = .ok L) (hl : 65536 < (joinS L).length) : showT x = .error 4 := by unfold showT; rw [h]; exact if_pos hl
theorem showT_ok {x : Nd} {L : List Lex} (h : lexsS x = .ok L) (hl : ¬ 65536 < (joinS L).length) : showT x = .ok (joinS L) := by unfold showT; rw [h]; exact if_neg hl
theorem lexsS_form {x : Nd} {L : List Lex} (h : lexsS x = .ok L) : L.all rightS = true ∧ L.length ≤ 24576 ∧ rightT x = true ∧ L = x.write := by
 unfold lexsS at h
 split at h
 ·cases h
 ·rename_i hr
  have hr' : rightT x = true := by simpa using hr
  split at h
  ·cases h
  ·cases h
   exact ⟨write_right hr', write_small hr', hr', rfl⟩
theorem lexsS_kind {x : Nd} {k : Int} (h : lexsS x = .error k) : k ≠ 0 := by
 unfold lexsS at h
 split at h
 ·cases h; decide
 ·split at h
  ·cases h; decide
  ·cases h
theorem stext_go (x : Nd) (B : Option Addr) (cap : Nat) (w : World) (hs : x.size ≤ 4611686018427387903) (ht : TreesAt w (fun b => b < w.heap.size) x.kids B) (hT : TabAt 0 Lib.deBruijn64tab w) (hw0 : 0 < w.heap.size) :
  Calls Tryz.prog 62 #[ndV x B cap] w fun e w' => e = .returned (txtV (showT x)) ∧ Below w.heap.size w w' := by
 have HR := Lib.hid (slexs_go x B cap (w.alloc (.cells #[.int .i64 x.kind, .int .u64 (word x.set.testBit 0), .int .u64 (word x.set.testBit 1), .int .u64 (word x.set.testBit 2), .int .u64 (word x.set.testBit 3), .slice B x.kids.len cap, .int .i64 x.lo, .int .i64 x.hi] 28)) hs ((ht.below ((Below.refl _ _).alloc (Nat.le_refl _) _)).weak (fun b h _ => by simp; omega)))
 have HB := Lib.hid ((Below.refl w.heap.size w).alloc (Nat.le_refl _) (.cells #[.int .i64 x.kind, .int .u64 (word x.set.testBit 0), .int .u64 (word x.set.testBit 1), .int .u64 (word x.set.testBit 2), .int .u64 (word x.set.testBit 3), .slice B x.kids.len cap, .int .i64 x.lo, .int .i64 x.hi] 28))
 have HTB := Lib.hid hT
 unfold ndV at HR ⊢
 clear ht hT
 go_enter Tryz.func62, Tryz.ntmps62
 go_wp2_with fail
 refine HR.out.mono ?_
 rintro e w2 ⟨hb2, hr⟩
 have HB2 := Lib.hid (HB.out.trans (hb2.mono HB.out.size))
 clear hb2 HR HB
 cases hl : lexsS x with
 | error k =>
  rw [hl] at hr
  simp only at hr
  subst hr
  have HV := Lib.hid (showT_err hl)
  have hkn : (k != 0) = true := by have := lexsS_kind hl; simpa using this
  clear hl
  dsimp only
  go_wp2
  go_light
  go_ret2
  rw [HV.out]
  exact ⟨rfl, HB2.out⟩
 | ok L =>
  rw [hl] at hr
  simp only at hr
  obtain ⟨v, rfl, hR2⟩ := hr
  obtain ⟨A, cv, rfl, hcv, hat⟩ := lexs_own hR2
  have hf := lexsS_form hl
  have hjv := joinV_ok (L := L) (fun k y hy => List.all_eq_true.1 hf.1 y (List.mem_of_getElem? hy))
  have hj := join_go A cv L w2 hat (by omega) (TabAt.below HB2.out hw0 HTB.out) (Nat.lt_of_lt_of_le hw0 HB2.out.size)
  rw [hjv] at hj
  have HJ := Lib.hid hj
  have HL := Lib.hid hl
  clear hR2 hat hf hjv hj hl
  dsimp only
  go_wp2_with fail
  refine HJ.out.mono ?_
  rintro e w3 ⟨rfl, hb3⟩
  have HB3 := Lib.hid (HB2.out.trans (hb3.mono HB2.out.size))
  have hsl := strOf_size (joinS L)
  clear hb3 HJ
  dsimp only
  by_cases hbig : 65536 < (joinS L).length
  ·have HV := Lib.hid (showT_long HL.out hbig)
   have hbi : (65536 : Int) < ((joinS L).length : Int) := by omega
   clear hbig HL
   go_wp2
   go_light
   go_ret2
   rw [HV.out]
   exact ⟨rfl, HB3.out⟩
  ·have HV := Lib.hid (showT_ok HL.out hbig)
   have hbi : ¬ (65536 : Int) < ((joinS L).length : Int) := by omega
   clear hbig HL
   go_wp2
   go_light
   go_ret2
   rw [HV.out]
   exact ⟨rfl, HB3.out⟩
theorem Blk.c8n {w : World} {g : Nat} {t : TypeId} {a0 a1 a2 a3 a4 a5 a6 a7 : Value} (h : Blk w g t #[a0, a1, a2, a3, a4, a5, a6, a7]) : w.cell? ⟨g, 0, none⟩ = some a0 ∧ w.cell? ⟨g, 1, none⟩ = some a1 ∧ w.cell? ⟨g, 2, none⟩ = some a2 ∧ w.cell? ⟨g, 3, none⟩ = some a3 ∧ w.cell? ⟨g, 4, none⟩ = some a4 ∧ w.cell? ⟨g, 5, none⟩ = some a5 ∧ w.cell? ⟨g, 6, none⟩ = some a6 ∧ w.cell? ⟨g, 7, none⟩ = some a7 ∧ g < w.heap.size := ⟨h.cell 0, h.cell 1, h.cell 2, h.cell 3, h.cell 4, h.cell 5, h.cell 6, h.cell 7, h.lt⟩
theorem Blk.z16 {w : World} {g : Nat} {t : TypeId} {a0 a1 a2 a3 a4 a5 a6 a7 : Value} (h : Blk w g t #[a0, a1, a2, a3, a4, a5, a6, a7]) : w.cell? ⟨g, 0, none⟩ = some a0 ∧ w.cell? ⟨g, 1, none⟩ = some a1 ∧ w.cell? ⟨g, 2, none⟩ = some a2 ∧ w.cell? ⟨g, 3, none⟩ = some a3 ∧ w.cell? ⟨g, 4, none⟩ = some a4 ∧ w.cell? ⟨g, 5, none⟩ = some a5 ∧ w.cell? ⟨g, 6, none⟩ = some a6 ∧ w.cell? ⟨g, 7, none⟩ = some a7 ∧ w.frozen? ⟨g, 0, none⟩ = false ∧ w.frozen? ⟨g, 1, none⟩ = false ∧ w.frozen? ⟨g, 2, none⟩ = false ∧ w.frozen? ⟨g, 3, none⟩ = false ∧ w.frozen? ⟨g, 4, none⟩ = false ∧ w.frozen? ⟨g, 5, none⟩ = false ∧ w.frozen? ⟨g, 6, none⟩ = false ∧ w.frozen? ⟨g, 7, none⟩ = false := ⟨h.cell 0, h.cell 1, h.cell 2, h.cell 3, h.cell 4, h.cell 5, h.cell 6, h.cell 7, h.frozen 0, h.frozen 1, h.frozen 2, h.frozen 3, h.frozen 4, h.frozen 5, h.frozen 6, h.frozen 7⟩
def W2n (w : World) (x : Nd) (B : Option Addr) (cap : Nat) : World := (w.alloc (.cells (ndA x B cap) 28)).alloc (.cells #[.int .i64 0, .int .u64 0, .int .u64 0, .int .u64 0, .int .u64 0, .slice none 0 0, .int .i64 0, .int .i64 0] 28)
theorem W2n_lit (w : World) (x : Nd) (B : Option Addr) (cap : Nat) : W2n w x B cap = (w.alloc (.cells #[.int .i64 x.kind, .int .u64 (word x.set.testBit 0), .int .u64 (word x.set.testBit 1), .int .u64 (word x.set.testBit 2), .int .u64 (word x.set.testBit 3), .slice B x.kids.len cap, .int .i64 x.lo, .int .i64 x.hi] 28)).alloc (.cells #[.int .i64 0, .int .u64 0, .int .u64 0, .int .u64 0, .int .u64 0, .slice none 0 0, .int .i64 0, .int .i64 0] 28) := rfl
theorem two_made (w : World) (x : Nd) (B : Option Addr) (cap : Nat) : Below w.heap.size w (W2n w x B cap) ∧ Blk (W2n w x B cap) w.heap.size 28 (ndA x B cap) ∧ Blk (W2n w x B cap) (w.heap.size + 1) 28 #[.int .i64 0, .int .u64 0, .int .u64 0, .int .u64 0, .int .u64 0, .slice none 0 0, .int .i64 0, .int .i64 0] ∧ w.heap.size + 2 ≤ (W2n w x B cap).heap.size ∧ (W2n w x B cap).heap.size = w.heap.size + 2 ∧ Below (w.heap.size + 1) (w.alloc (.cells (ndA x B cap) 28)) (W2n w x B cap) :=
 ⟨((Below.refl _ _).alloc (Nat.le_refl _) _).alloc (by simp) _, (Blk.new _ _ _).alloc _, Blk.new_at (by simp), by simp [W2n], by simp [W2n], (Below.refl _ _).alloc (by simp) _⟩
theorem two_hid (w : World) (x : Nd) (B : Option Addr) (cap : Nat) : Below w.heap.size w (W2n w x B cap) ∧ Hid (Below w.heap.size w (W2n w x B cap)) ∧ Hid (Blk (W2n w x B cap) w.heap.size 28 (ndA x B cap)) ∧ Hid (Blk (W2n w x B cap) (w.heap.size + 1) 28 #[.int .i64 0, .int .u64 0, .int .u64 0, .int .u64 0, .int .u64 0, .slice none 0 0, .int .i64 0, .int .i64 0]) ∧ Hid (w.heap.size + 2 ≤ (W2n w x B cap).heap.size) :=
 have h := two_made w x B cap
 ⟨h.1, Lib.hid h.1, Lib.hid h.2.1, Lib.hid h.2.2.1, Lib.hid h.2.2.2.1⟩
def NewT (x : Nd) (w : World) (e : Ending) (w' : World) : Prop := ∃ B' cap', e = .returned (ndV x B' cap') ∧ Below w.heap.size w w' ∧ x.kids.len ≤ cap' ∧ TreesAt w' (fun b => w.heap.size ≤ b) x.kids B'
theorem many0 (k q : Int) (F : Trees) (P : Nat → Prop) (B : Option Addr) (cap : Nat) (w : World) (hlen : F.size ≤ 100000000) (ht : TreesAt w P F B) (h : F.len = 0) : Calls Tryz.prog 135 #[.int .i64 k, .agg #[.int .i64 q, .int .u64 0, .int .u64 0, .int .u64 0, .int .u64 0, .slice none 0 0, .int .i64 0, .int .i64 0], .slice B F.len cap] w (NewT (manyN k q F.list) w) := by
 have hb2 : Below w.heap.size w ((w.alloc (.cells #[.int .i64 q, .int .u64 0, .int .u64 0, .int .u64 0, .int .u64 0, .slice none 0 0, .int .i64 0, .int .i64 0] 28)).alloc (.cells #[.int .i64 0, .int .u64 0, .int .u64 0, .int .u64 0, .int .u64 0, .slice none 0 0, .int .i64 0, .int .i64 0] 28)) := ((Below.refl _ _).alloc (Nat.le_refl _) _).alloc (by simp) _
 have HB2 := Lib.hid hb2
 have HX2 := Lib.hid (show Blk ((w.alloc (.cells #[.int .i64 q, .int .u64 0, .int .u64 0, .int .u64 0, .int .u64 0, .slice none 0 0, .int .i64 0, .int .i64 0] 28)).alloc (.cells #[.int .i64 0, .int .u64 0, .int .u64 0, .int .u64 0, .int .u64 0, .slice none 0 0, .int .i64 0, .int .i64 0] 28)) w.heap.size 28 #[.int .i64 q, .int .u64 0, .int .u64 0, .int .u64 0, .int .u64 0, .slice none 0 0, .int .i64 0, .int .i64 0] from (Blk.new _ _ _).alloc _)
 have HZ2 := Lib.hid (show Blk ((w.alloc (.cells #[.int .i64 q, .int .u64 0, .int .u64 0, .int .u64 0, .int .u64 0, .slice none 0 0, .int .i64 0, .int .i64 0] 28)).alloc (.cells #[.int .i64 0, .int .u64 0, .int .u64 0, .int .u64 0, .int .u64 0, .slice none 0 0, .int .i64 0, .int .i64 0] 28)) (w.heap.size + 1) 28 #[.int .i64 0, .int .u64 0, .int .u64 0, .int .u64 0, .int .u64 0, .slice none 0 0, .int .i64 0, .int .i64 0] from Blk.new_at (by simp))
 have HV := Lib.hid (show manyN k q F.list = ⟨q, 0, .nil, 0, 0⟩ by rw [list_nil h]; rfl)
 have hl : (F.len : Int) = 0 := by omega
 rw [h]
 clear ht hlen hb2 hl h
 go_enter Tryz.func135, Tryz.ntmps135
 go_upto_region 1 with fail
 generalize (w.alloc (.cells #[.int .i64 q, .int .u64 0, .int .u64 0, .int .u64 0, .int .u64 0, .slice none 0 0, .int .i64 0, .int .i64 0] 28)).alloc (.cells #[.int .i64 0, .int .u64 0, .int .u64 0, .int .u64 0, .int .u64 0, .slice none 0 0, .int .i64 0, .int .i64 0] 28) = w2 at *
 have x0 := HX2.out.cell 0
 have x1 := HX2.out.cell 1
 have x2 := HX2.out.cell 2
 have x3 := HX2.out.cell 3
 have x4 := HX2.out.cell 4
 have x5 := HX2.out.cell 5
 have x6 := HX2.out.cell 6
 have x7 := HX2.out.cell 7
 simp only [List.getElem?_toArray, List.getElem?_cons_zero, List.getElem?_cons_succ] at x0 x1 x2 x3 x4 x5 x6 x7
 have y0 : w2.cell? ⟨w.heap.size + 1, 0, none⟩ = some (.int .i64 0) := HZ2.out.cell 0
 have y1 : w2.cell? ⟨w.heap.size + 1, 1, none⟩ = some (.int .u64 0) := HZ2.out.cell 1
 have y2 : w2.cell? ⟨w.heap.size + 1, 2, none⟩ = some (.int .u64 0) := HZ2.out.cell 2
 have y3 : w2.cell? ⟨w.heap.size + 1, 3, none⟩ = some (.int .u64 0) := HZ2.out.cell 3
 have y4 : w2.cell? ⟨w.heap.size + 1, 4, none⟩ = some (.int .u64 0) := HZ2.out.cell 4
 have y5 : w2.cell? ⟨w.heap.size + 1, 5, none⟩ = some (.slice none 0 0) := HZ2.out.cell 5
 have y6 : w2.cell? ⟨w.heap.size + 1, 6, none⟩ = some (.int .i64 0) := HZ2.out.cell 6
 have y7 : w2.cell? ⟨w.heap.size + 1, 7, none⟩ = some (.int .i64 0) := HZ2.out.cell 7
 have g0 := HZ2.out.frozen 0
 have g1 := HZ2.out.frozen 1
 have g2 := HZ2.out.frozen 2
 have g3 := HZ2.out.frozen 3
 have g4 := HZ2.out.frozen 4
 have g5 := HZ2.out.frozen 5
 have g6 := HZ2.out.frozen 6
 have g7 := HZ2.out.frozen 7
 go_wp2
 go_light
 have hF := put_next (x := ⟨q, 0, .nil, 0, 0⟩) (B := none) (cap := 0) HZ2.out HB2.out (by trivial) (by simp only [word_zero]; rfl)
 refine bodyPost_ret (ret_node Tryz.results135 rfl hF.1) rfl ?_
 rw [HV.out]
 exact ⟨none, 0, rfl, hF.2.1, Nat.le_refl _, hF.2.2⟩
theorem many1 (k q : Int) (F : Trees) (P : Nat → Prop) (B : Option Addr) (cap : Nat) (w : World) (hlen : F.size ≤ 100000000) (ht : TreesAt w P F B) (h : F.len = 1) : Calls Tryz.prog 135 #[.int .i64 k, .agg #[.int .i64 q, .int .u64 0, .int .u64 0, .int .u64 0, .int .u64 0, .slice none 0 0, .int .i64 0, .int .i64 0], .slice B F.len cap] w (NewT (manyN k q F.list) w) := by
 obtain ⟨x, hx⟩ : ∃ x, F.list = [x] := List.length_eq_one_iff.1 (by rw [Trees.len_list]; exact h)
 have hg : F.list[0]? = some x := by rw [hx]; rfl
 have hxs := Trees.size_get F 0 x hg
 have hb2 : Below w.heap.size w ((w.alloc (.cells #[.int .i64 q, .int .u64 0, .int .u64 0, .int .u64 0, .int .u64 0, .slice none 0 0, .int .i64 0, .int .i64 0] 28)).alloc (.cells #[.int .i64 0, .int .u64 0, .int .u64 0, .int .u64 0, .int .u64 0, .slice none 0 0, .int .i64 0, .int .i64 0] 28)) := ((Below.refl _ _).alloc (Nat.le_refl _) _).alloc (by simp) _
 have HB2 := Lib.hid hb2
 have HX2 := Lib.hid (show Blk ((w.alloc (.cells #[.int .i64 q, .int .u64 0, .int .u64 0, .int .u64 0, .int .u64 0, .slice none 0 0, .int .i64 0, .int .i64 0] 28)).alloc (.cells #[.int .i64 0, .int .u64 0, .int .u64 0, .int .u64 0, .int .u64 0, .slice none 0 0, .int .i64 0, .int .i64 0] 28)) w.heap.size 28 #[.int .i64 q, .int .u64 0, .int .u64 0, .int .u64 0, .int .u64 0, .slice none 0 0, .int .i64 0, .int .i64 0] from (Blk.new _ _ _).alloc _)
 have HZ2 := Lib.hid (show Blk ((w.alloc (.cells #[.int .i64 q, .int .u64 0, .int .u64 0, .int .u64 0, .int .u64 0, .slice none 0 0, .int .i64 0, .int .i64 0] 28)).alloc (.cells #[.int .i64 0, .int .u64 0, .int .u64 0, .int .u64 0, .int .u64 0, .slice none 0 0, .int .i64 0, .int .i64 0] 28)) (w.heap.size + 1) 28 #[.int .i64 0, .int .u64 0, .int .u64 0, .int .u64 0, .int .u64 0, .slice none 0 0, .int .i64 0, .int .i64 0] from Blk.new_at (by simp))
 have HV := Lib.hid (show manyN k q F.list = x by rw [hx]; rfl)
 obtain ⟨b, o, C, capc, rfl, _, hck, ⟨c0, c1, c2, c3, c4, c5, c6, c7⟩, hkz⟩ := (ht.below hb2).get hg
 have hbl := World.block_lt_of_cell? _ _ c0
 have HI := Lib.hid (copy_go x P C capc _ (by omega) hkz)
 rw [h]
 clear ht hlen hb2 h hxs hx hg hkz
 unfold ndV at HI
 simp only [Nat.zero_mul, Nat.add_zero] at c0 c1 c2 c3 c4 c5 c6 c7 hbl
 go_enter Tryz.func135, Tryz.ntmps135
 go_upto_region 1 with fail
 generalize hw2 : (w.alloc (.cells #[.int .i64 q, .int .u64 0, .int .u64 0, .int .u64 0, .int .u64 0, .slice none 0 0, .int .i64 0, .int .i64 0] 28)).alloc (.cells #[.int .i64 0, .int .u64 0, .int .u64 0, .int .u64 0, .int .u64 0, .slice none 0 0, .int .i64 0, .int .i64 0] 28) = w2 at *
 go_wp2_with fail
 refine HI.out.mono ?_
 rintro e w3 ⟨B3, cap3, rfl, hb3, hc3, ht3⟩
 have hZ3 := HZ2.out.below hb3 HZ2.out.lt
 have HB3 := Lib.hid (HB2.out.trans (hb3.mono HB2.out.size))
 have HZ3 := Lib.hid hZ3
 have HT3 := Lib.hid (ht3.weak (Q := fun b => w.heap.size + 2 ≤ b) (fun b hb _ => by rw [← hw2] at hb; simpa using hb))
 have y0 : w3.cell? ⟨w.heap.size + 1, 0, none⟩ = some (.int .i64 0) := hZ3.cell 0
 have y1 : w3.cell? ⟨w.heap.size + 1, 1, none⟩ = some (.int .u64 0) := hZ3.cell 1
 have y2 : w3.cell? ⟨w.heap.size + 1, 2, none⟩ = some (.int .u64 0) := hZ3.cell 2
 have y3 : w3.cell? ⟨w.heap.size + 1, 3, none⟩ = some (.int .u64 0) := hZ3.cell 3
 have y4 : w3.cell? ⟨w.heap.size + 1, 4, none⟩ = some (.int .u64 0) := hZ3.cell 4
 have y5 : w3.cell? ⟨w.heap.size + 1, 5, none⟩ = some (.slice none 0 0) := hZ3.cell 5
 have y6 : w3.cell? ⟨w.heap.size + 1, 6, none⟩ = some (.int .i64 0) := hZ3.cell 6
 have y7 : w3.cell? ⟨w.heap.size + 1, 7, none⟩ = some (.int .i64 0) := hZ3.cell 7
 have g0 := hZ3.frozen 0
 have g1 := hZ3.frozen 1
 have g2 := hZ3.frozen 2
 have g3 := hZ3.frozen 3
 have g4 := hZ3.frozen 4
 have g5 := hZ3.frozen 5
 have g6 := hZ3.frozen 6
 have g7 := hZ3.frozen 7
 clear hZ3 ht3 hb3 HI HZ2 HB2 c0 c1 c2 c3 c4 c5 c6 c7
 dsimp only
 go_wp2
 go_light
 have hF := put_next (x := x) (B := B3) (cap := cap3) HZ3.out HB3.out HT3.out rfl
 refine bodyPost_ret (ret_node Tryz.results135 rfl hF.1) rfl ?_
 rw [HV.out]
 exact ⟨B3, cap3, rfl, hF.2.1, hc3, hF.2.2⟩
theorem many2 (k q : Int) (F : Trees) (P : Nat → Prop) (B : Option Addr) (cap : Nat) (w : World) (hlen : F.size ≤ 100000000) (ht : TreesAt w P F B) (h : 2 ≤ F.len) : Calls Tryz.prog 135 #[.int .i64 k, .agg #[.int .i64 q, .int .u64 0, .int .u64 0, .int .u64 0, .int .u64 0, .slice none 0 0, .int .i64 0, .int .i64 0], .slice B F.len cap] w (NewT (manyN k q F.list) w) := by
 have hb2 : Below w.heap.size w ((w.alloc (.cells #[.int .i64 q, .int .u64 0, .int .u64 0, .int .u64 0, .int .u64 0, .slice none 0 0, .int .i64 0, .int .i64 0] 28)).alloc (.cells #[.int .i64 0, .int .u64 0, .int .u64 0, .int .u64 0, .int .u64 0, .slice none 0 0, .int .i64 0, .int .i64 0] 28)) := ((Below.refl _ _).alloc (Nat.le_refl _) _).alloc (by simp) _
 have HB2 := Lib.hid hb2
 have HX2 := Lib.hid (show Blk ((w.alloc (.cells #[.int .i64 q, .int .u64 0, .int .u64 0, .int .u64 0, .int .u64 0, .slice none 0 0, .int .i64 0, .int .i64 0] 28)).alloc (.cells #[.int .i64 0, .int .u64 0, .int .u64 0, .int .u64 0, .int .u64 0, .slice none 0 0, .int .i64 0, .int .i64 0] 28)) w.heap.size 28 #[.int .i64 q, .int .u64 0, .int .u64 0, .int .u64 0, .int .u64 0, .slice none 0 0, .int .i64 0, .int .i64 0] from (Blk.new _ _ _).alloc _)
 have HZ2 := Lib.hid (show Blk ((w.alloc (.cells #[.int .i64 q, .int .u64 0, .int .u64 0, .int .u64 0, .int .u64 0, .slice none 0 0, .int .i64 0, .int .i64 0] 28)).alloc (.cells #[.int .i64 0, .int .u64 0, .int .u64 0, .int .u64 0, .int .u64 0, .slice none 0 0, .int .i64 0, .int .i64 0] 28)) (w.heap.size + 1) 28 #[.int .i64 0, .int .u64 0, .int .u64 0, .int .u64 0, .int .u64 0, .slice none 0 0, .int .i64 0, .int .i64 0] from Blk.new_at (by simp))
 have HV := Lib.hid (show manyN k q F.list = ⟨k, 0, F, 0, 0⟩ by rw [manyN_more k q F.list (by rw [Trees.len_list]; exact h), Trees.of_list])
 have HI := Lib.hid (copies_go F P B cap _ hlen (ht.below hb2))
 have h0 : ((F.len : Int) == 0) = false := by rw [beq_eq_false_iff_ne]; omega
 have h1 : ((F.len : Int) == 1) = false := by rw [beq_eq_false_iff_ne]; omega
 clear ht hlen hb2 h
 go_enter Tryz.func135, Tryz.ntmps135
 go_upto_region 1 with fail
 generalize hw2 : (w.alloc (.cells #[.int .i64 q, .int .u64 0, .int .u64 0, .int .u64 0, .int .u64 0, .slice none 0 0, .int .i64 0, .int .i64 0] 28)).alloc (.cells #[.int .i64 0, .int .u64 0, .int .u64 0, .int .u64 0, .int .u64 0, .slice none 0 0, .int .i64 0, .int .i64 0] 28) = w2 at *
 go_wp2_with fail
 refine HI.out.mono ?_
 rintro e w3 ⟨B3, cap3, rfl, hb3, hc3, ht3⟩
 have hZ3 := HZ2.out.below hb3 HZ2.out.lt
 have HB3 := Lib.hid (HB2.out.trans (hb3.mono HB2.out.size))
 have HZ3 := Lib.hid hZ3
 have HT3 := Lib.hid (ht3.weak (Q := fun b => w.heap.size + 2 ≤ b) (fun b hb _ => by rw [← hw2] at hb; simpa using hb))
 have y0 : w3.cell? ⟨w.heap.size + 1, 0, none⟩ = some (.int .i64 0) := hZ3.cell 0
 have y1 : w3.cell? ⟨w.heap.size + 1, 1, none⟩ = some (.int .u64 0) := hZ3.cell 1
 have y2 : w3.cell? ⟨w.heap.size + 1, 2, none⟩ = some (.int .u64 0) := hZ3.cell 2
 have y3 : w3.cell? ⟨w.heap.size + 1, 3, none⟩ = some (.int .u64 0) := hZ3.cell 3
 have y4 : w3.cell? ⟨w.heap.size + 1, 4, none⟩ = some (.int .u64 0) := hZ3.cell 4
 have y5 : w3.cell? ⟨w.heap.size + 1, 5, none⟩ = some (.slice none 0 0) := hZ3.cell 5
 have y6 : w3.cell? ⟨w.heap.size + 1, 6, none⟩ = some (.int .i64 0) := hZ3.cell 6
 have y7 : w3.cell? ⟨w.heap.size + 1, 7, none⟩ = some (.int .i64 0) := hZ3.cell 7
 have g0 := hZ3.frozen 0
 have g1 := hZ3.frozen 1
 have g2 := hZ3.frozen 2
 have g3 := hZ3.frozen 3
 have g4 := hZ3.frozen 4
 have g5 := hZ3.frozen 5
 have g6 := hZ3.frozen 6
 have g7 := hZ3.frozen 7
 clear hZ3 ht3 hb3 HI HZ2 HB2
 dsimp only
 go_wp2
 go_light
 have hF := put_next (x := ⟨k, 0, F, 0, 0⟩) (B := B3) (cap := cap3) HZ3.out HB3.out HT3.out (by simp only [word_zero]; rfl)
 refine bodyPost_ret (ret_node Tryz.results135 rfl hF.1) rfl ?_
 rw [HV.out]
 exact ⟨B3, cap3, rfl, hF.2.1, hc3, hF.2.2⟩
theorem many_any (k q : Int) (F : Trees) (P : Nat → Prop) (B : Option Addr) (cap : Nat) (w : World) (hlen : F.size ≤ 100000000) (ht : TreesAt w P F B) : Calls Tryz.prog 135 #[.int .i64 k, .agg #[.int .i64 q, .int .u64 0, .int .u64 0, .int .u64 0, .int .u64 0, .slice none 0 0, .int .i64 0, .int .i64 0], .slice B F.len cap] w (NewT (manyN k q F.list) w) := by
 rcases (by omega : F.len = 0 ∨ F.len = 1 ∨ 2 ≤ F.len) with h | h | h
 ·exact many0 k q F P B cap w hlen ht h
 ·exact many1 k q F P B cap w hlen ht h
 ·exact many2 k q F P B cap w hlen ht h
theorem tcat_any (F : Trees) (P : Nat → Prop) (B : Option Addr) (cap : Nat) (w : World) (hlen : F.size ≤ 100000000) (ht : TreesAt w P F B) :
  Calls Tryz.prog 80 #[.slice B F.len cap] w (NewT (manyN 4 2 F.list) w) := by
 have hb1 : Below w.heap.size w (w.alloc (.cells #[.int .i64 0, .int .u64 0, .int .u64 0, .int .u64 0, .int .u64 0, .slice none 0 0, .int .i64 0, .int .i64 0] 28)) := (Below.refl _ _).alloc (Nat.le_refl _) _
 have HB1 := Lib.hid hb1
 have HZ1 := Lib.hid (Blk.new w 28 #[.int .i64 0, .int .u64 0, .int .u64 0, .int .u64 0, .int .u64 0, .slice none 0 0, .int .i64 0, .int .i64 0])
 have HT1 := Lib.hid (ht.below hb1)
 clear ht hb1
 go_enter Tryz.func80, Tryz.ntmps80
 go_wp2_with fail
 refine (empty_go _).mono ?_
 rintro e w2 ⟨rfl, hb2⟩
 have HB2 := Lib.hid (HB1.out.trans (hb2.mono HB1.out.size))
 have HZ2 := Lib.hid (HZ1.out.below hb2 HZ1.out.lt)
 have HT2 := Lib.hid (HT1.out.below hb2)
 clear hb2 HB1 HZ1 HT1
 dsimp only
 go_wp2_with fail
 refine (many_any 4 2 F P B cap w2 hlen HT2.out).mono ?_
 rintro e w3 ⟨B3, cap3, rfl, hb3, hc3, ht3⟩
 have hZ3 := HZ2.out.below hb3 HZ2.out.lt
 have HB3 := Lib.hid (HB2.out.trans (hb3.mono HB2.out.size))
 have HZ3 := Lib.hid hZ3
 have HT3 := Lib.hid ht3
 have hw2 : w.heap.size + 1 ≤ w2.heap.size := HZ2.out.lt
 have y0 : w3.cell? ⟨w.heap.size, 0, none⟩ = some (.int .i64 0) := hZ3.cell 0
 have y1 : w3.cell? ⟨w.heap.size, 1, none⟩ = some (.int .u64 0) := hZ3.cell 1
 have y2 : w3.cell? ⟨w.heap.size, 2, none⟩ = some (.int .u64 0) := hZ3.cell 2
 have y3 : w3.cell? ⟨w.heap.size, 3, none⟩ = some (.int .u64 0) := hZ3.cell 3
 have y4 : w3.cell? ⟨w.heap.size, 4, none⟩ = some (.int .u64 0) := hZ3.cell 4
 have y5 : w3.cell? ⟨w.heap.size, 5, none⟩ = some (.slice none 0 0) := hZ3.cell 5
 have y6 : w3.cell? ⟨w.heap.size, 6, none⟩ = some (.int .i64 0) := hZ3.cell 6
 have y7 : w3.cell? ⟨w.heap.size, 7, none⟩ = some (.int .i64 0) := hZ3.cell 7
 have g0 := hZ3.frozen 0
 have g1 := hZ3.frozen 1
 have g2 := hZ3.frozen 2
 have g3 := hZ3.frozen 3
 have g4 := hZ3.frozen 4
 have g5 := hZ3.frozen 5
 have g6 := hZ3.frozen 6
 have g7 := hZ3.frozen 7
 clear hZ3 ht3 hb3 HZ2 HB2 HT2 hlen
 generalize manyN 4 2 F.list = x at *
 unfold ndV
 dsimp only
 go_wp2
 go_light
 have hF := flat_put (P := fun _ => False) (x := x) (B := B3) (cap := cap3) HZ3.out HB3.out (HT3.out.weak (fun b hb _ => .inr (by omega))) rfl
 exact bodyPost_ret (ret_node Tryz.results80 rfl hF.1) rfl ⟨B3, cap3, rfl, hF.2.1, hc3, hF.2.2.weak (fun b hb _ => hb.elim (fun h => h.elim) id)⟩
theorem talt_any (F : Trees) (P : Nat → Prop) (B : Option Addr) (cap : Nat) (w : World) (hlen : F.size ≤ 100000000) (ht : TreesAt w P F B) :
  Calls Tryz.prog 85 #[.slice B F.len cap] w (NewT (manyN 5 1 F.list) w) := by
 have hb1 : Below w.heap.size w (w.alloc (.cells #[.int .i64 0, .int .u64 0, .int .u64 0, .int .u64 0, .int .u64 0, .slice none 0 0, .int .i64 0, .int .i64 0] 28)) := (Below.refl _ _).alloc (Nat.le_refl _) _
 have HB1 := Lib.hid hb1
 have HZ1 := Lib.hid (Blk.new w 28 #[.int .i64 0, .int .u64 0, .int .u64 0, .int .u64 0, .int .u64 0, .slice none 0 0, .int .i64 0, .int .i64 0])
 have HT1 := Lib.hid (ht.below hb1)
 clear ht hb1
 go_enter Tryz.func85, Tryz.ntmps85
 go_wp2_with fail
 refine (none_go _).mono ?_
 rintro e w2 ⟨rfl, hb2⟩
 have HB2 := Lib.hid (HB1.out.trans (hb2.mono HB1.out.size))
 have HZ2 := Lib.hid (HZ1.out.below hb2 HZ1.out.lt)
 have HT2 := Lib.hid (HT1.out.below hb2)
 clear hb2 HB1 HZ1 HT1
 dsimp only
 go_wp2_with fail
 refine (many_any 5 1 F P B cap w2 hlen HT2.out).mono ?_
 rintro e w3 ⟨B3, cap3, rfl, hb3, hc3, ht3⟩
 have hZ3 := HZ2.out.below hb3 HZ2.out.lt
 have HB3 := Lib.hid (HB2.out.trans (hb3.mono HB2.out.size))
 have HZ3 := Lib.hid hZ3
 have HT3 := Lib.hid ht3
 have hw2 : w.heap.size + 1 ≤ w2.heap.size := HZ2.out.lt
 have y0 : w3.cell? ⟨w.heap.size, 0, none⟩ = some (.int .i64 0) := hZ3.cell 0
 have y1 : w3.cell? ⟨w.heap.size, 1, none⟩ = some (.int .u64 0) := hZ3.cell 1
 have y2 : w3.cell? ⟨w.heap.size, 2, none⟩ = some (.int .u64 0) := hZ3.cell 2
 have y3 : w3.cell? ⟨w.heap.size, 3, none⟩ = some (.int .u64 0) := hZ3.cell 3
 have y4 : w3.cell? ⟨w.heap.size, 4, none⟩ = some (.int .u64 0) := hZ3.cell 4
 have y5 : w3.cell? ⟨w.heap.size, 5, none⟩ = some (.slice none 0 0) := hZ3.cell 5
 have y6 : w3.cell? ⟨w.heap.size, 6, none⟩ = some (.int .i64 0) := hZ3.cell 6
 have y7 : w3.cell? ⟨w.heap.size, 7, none⟩ = some (.int .i64 0) := hZ3.cell 7
 have g0 := hZ3.frozen 0
 have g1 := hZ3.frozen 1
 have g2 := hZ3.frozen 2
 have g3 := hZ3.frozen 3
 have g4 := hZ3.frozen 4
 have g5 := hZ3.frozen 5
 have g6 := hZ3.frozen 6
 have g7 := hZ3.frozen 7
 clear hZ3 ht3 hb3 HZ2 HB2 HT2 hlen
 generalize manyN 5 1 F.list = x at *
 unfold ndV
 dsimp only
 go_wp2
 go_light
 have hF := flat_put (P := fun _ => False) (x := x) (B := B3) (cap := cap3) HZ3.out HB3.out (HT3.out.weak (fun b hb _ => .inr (by omega))) rfl
 exact bodyPost_ret (ret_node Tryz.results85 rfl hF.1) rfl ⟨B3, cap3, rfl, hF.2.1, hc3, hF.2.2.weak (fun b hb _ => hb.elim (fun h => h.elim) id)⟩
theorem size_ofS : ∀ l : List Nd, (Trees.of l).size = (l.map Nd.size).sum
 | [] => rfl
 | x :: l => by
  rw [Trees.of, Trees.size, size_ofS l, List.map_cons, List.sum_cons]
  rfl
theorem size_listS (F : Trees) : F.size = (F.list.map Nd.size).sum := by rw [← size_ofS, Trees.of_list]
theorem sum_flat (g : Nd → List Nd) (hg : ∀ x, ((g x).map Nd.size).sum ≤ x.size) : ∀ l : List Nd, ((l.flatMap g).map Nd.size).sum ≤ (l.map Nd.size).sum
 | [] => Nat.le_refl _
 | x :: l => by
  rw [List.flatMap_cons, List.map_append, List.sum_append_nat, List.map_cons, List.sum_cons]
  have := sum_flat g hg l
  have := hg x
  omega
theorem flatK_size (k q : Int) (x : Nd) : ((flatK k q x).map Nd.size).sum ≤ x.size := by
 unfold flatK
 split
 ·rw [← size_listS]
  unfold Nd.size
  omega
 split
 ·exact Nat.zero_le _
 ·simp
theorem len_sum : ∀ l : List Nd, l.length ≤ (l.map Nd.size).sum
 | [] => Nat.le_refl _
 | x :: l => by
  have := len_sum l
  have : 1 ≤ x.size := by unfold Nd.size; omega
  rw [List.length_cons, List.map_cons, List.sum_cons]
  omega
theorem flat_small (k q : Int) (F : Trees) : (Trees.of (F.list.flatMap (flatK k q))).size ≤ F.size ∧ (F.list.flatMap (flatK k q)).length ≤ F.size := by
 have h := sum_flat (flatK k q) (flatK_size k q) F.list
 rw [← size_listS] at h
 exact ⟨by rw [size_ofS]; exact h, Nat.le_trans (len_sum _) h⟩
theorem enter_kids (args : Array Value) (W : World) : (callFunc 133 args).run Tryz.prog W = .ok (.enter 133 args) W := enters_go Tryz.func133 (by kernel_rfl) rfl args W
theorem flatk_go (k q : Int) (F : Trees) (B : Option Addr) (cap : Nat) (w : World) (g1 g2 : Nat) (hg1 : w.cell? ⟨g1, 0, none⟩ = some (.int .i64 k)) (hg2 : w.cell? ⟨g2, 0, none⟩ = some (.int .i64 q)) (hlen : F.size ≤ 90000000) (ht : TreesAt w (fun b => b < w.heap.size) F B) (L : List Nd) (hL : F.list.flatMap (flatK k q) = L) :
  Calls Tryz.prog 75 #[.slice B F.len cap, kidsV g1 g2] w fun e w' => ∃ A c, e = .returned (.slice A L.length c) ∧ Below w.heap.size w w' ∧ L.length ≤ c ∧ TreesAt w' (fun b => b < w'.heap.size) (Trees.of L) A :=
 sflat_go F B cap w 133 _ (flatK k q) L hL (by have := Trees.len_size F; omega) ht enter_kids (fun x _ => kids1_go k q g1 g2 w x hg1 hg2) (by have := (flat_small k q F).2; rw [hL] at this; omega)
theorem scat_go (F : Trees) (B : Option Addr) (cap : Nat) (w : World) (hlen : F.size ≤ 90000000) (ht : TreesAt w (fun b => b < w.heap.size) F B) :
  Calls Tryz.prog 27 #[.slice B F.len cap] w (NewT (catP F.list) w) := by
 obtain ⟨L, hL⟩ : ∃ L, F.list.flatMap (flatK 4 2) = L := ⟨_, rfl⟩
 have hsm := flat_small 4 2 F
 rw [hL] at hsm
 have HV := Lib.hid (show catP F.list = if L.any (isK 1) = true then noneN else manyN 4 2 L by unfold catP; rw [hL])
 have HL := Lib.hid hL
 have hb1 : Below w.heap.size w (w.alloc (.cells #[.int .i64 0, .int .u64 0, .int .u64 0, .int .u64 0, .int .u64 0, .slice none 0 0, .int .i64 0, .int .i64 0] 28)) := (Below.refl _ _).alloc (Nat.le_refl _) _
 have HB1 := Lib.hid hb1
 have HZ1 := Lib.hid (Blk.new w 28 #[.int .i64 0, .int .u64 0, .int .u64 0, .int .u64 0, .int .u64 0, .slice none 0 0, .int .i64 0, .int .i64 0])
 have HT1 := Lib.hid (ht.below hb1)
 clear ht hb1 hL
 go_enter Tryz.func27, Tryz.ntmps27
 go_wp2_with fail
 refine (kidsOf_go 4 2 _).mono ?_
 rintro e w2 ⟨g1, g2, rfl, hb2, hg1, hg2⟩
 have HF := Lib.hid (flatk_go 4 2 F B cap w2 g1 g2 hg1 hg2 hlen ((HT1.out.below hb2).weak (fun b h hl => hl)) L HL.out)
 have hZ2 := HZ1.out.below hb2 HZ1.out.lt
 have HB2 := Lib.hid (HB1.out.trans (hb2.mono HB1.out.size))
 have HZ2 := Lib.hid hZ2
 clear hZ2 hb2 HB1 HZ1
 clear HT1 hg1 hg2
 unfold kidsV at *
 dsimp only
 go_wp2_with fail
 refine HF.out.mono ?_
 rintro e w3 ⟨A3, c3, rfl, hb3, hc3, ht3⟩
 have hZ3 := HZ2.out.below hb3 HZ2.out.lt
 have HB3 := Lib.hid (HB2.out.trans (hb3.mono HB2.out.size))
 have HZ3 := Lib.hid hZ3
 clear hZ3 hb3 HB2 HZ2
 have HN := Lib.hid (hasn_go (Trees.of L) A3 c3 w3 78 #[] (isK 1) _ rfl (by rw [Trees.len_of]; omega) ht3 enter_isNone (fun x _ => isnone_go w3 x))
 have HT3 := Lib.hid ht3
 rw [Trees.len_of, Trees.list_of] at HN
 clear HF ht3
 dsimp only
 go_wp2_with fail
 refine HN.out.mono ?_
 rintro e w4 ⟨rfl, hb4⟩
 have HT4 := Lib.hid (HT3.out.below hb4)
 have hZ4 := HZ3.out.below hb4 HZ3.out.lt
 have HB4 := Lib.hid (HB3.out.trans (hb4.mono HB3.out.size))
 have HZ4 := Lib.hid hZ4
 clear hZ4 hb4 HB3 HZ3
 clear HN HT3
 generalize L.any (isK 1) = q at *
 cases q with
 | true =>
  rw [if_pos rfl] at HV
  dsimp only
  go_wp2_with fail
  refine (none_go _).mono ?_
  rintro e w5 ⟨rfl, hb5⟩
  have hZ5 := HZ4.out.below hb5 HZ4.out.lt
  have HB5 := Lib.hid (HB4.out.trans (hb5.mono HB4.out.size))
  have HZ5 := Lib.hid hZ5
  clear hZ5 hb5 HB4 HZ4
  have y0 : w5.cell? ⟨w.heap.size, 0, none⟩ = some (.int .i64 0) := HZ5.out.cell 0
  have y1 : w5.cell? ⟨w.heap.size, 1, none⟩ = some (.int .u64 0) := HZ5.out.cell 1
  have y2 : w5.cell? ⟨w.heap.size, 2, none⟩ = some (.int .u64 0) := HZ5.out.cell 2
  have y3 : w5.cell? ⟨w.heap.size, 3, none⟩ = some (.int .u64 0) := HZ5.out.cell 3
  have y4 : w5.cell? ⟨w.heap.size, 4, none⟩ = some (.int .u64 0) := HZ5.out.cell 4
  have y5 : w5.cell? ⟨w.heap.size, 5, none⟩ = some (.slice none 0 0) := HZ5.out.cell 5
  have y6 : w5.cell? ⟨w.heap.size, 6, none⟩ = some (.int .i64 0) := HZ5.out.cell 6
  have y7 : w5.cell? ⟨w.heap.size, 7, none⟩ = some (.int .i64 0) := HZ5.out.cell 7
  have g0 := HZ5.out.frozen 0
  have g1 := HZ5.out.frozen 1
  have g2 := HZ5.out.frozen 2
  have g3 := HZ5.out.frozen 3
  have g4 := HZ5.out.frozen 4
  have g5 := HZ5.out.frozen 5
  have g6 := HZ5.out.frozen 6
  have g7 := HZ5.out.frozen 7
  dsimp only
  go_wp2
  go_light
  have hF := flat_put (P := fun _ => False) (x := noneN) (B := none) (cap := 0) HZ5.out HB5.out (by trivial) (by simp only [noneN, word_zero]; rfl)
  refine bodyPost_ret (ret_node Tryz.results27 rfl hF.1) rfl ?_
  rw [HV.out]
  exact ⟨none, 0, rfl, hF.2.1, Nat.le_refl _, trivial⟩
 | false =>
  have HC := Lib.hid (tcat_any (Trees.of L) _ A3 c3 w4 (by omega) HT4.out)
  rw [Trees.len_of, Trees.list_of] at HC
  dsimp only
  go_wp2_with fail
  refine HC.out.mono ?_
  rintro e w5 ⟨B5, c5, rfl, hb5, hc5, ht5⟩
  have HT5 := Lib.hid ht5
  have hw4 : w.heap.size < w4.heap.size := HZ4.out.lt
  have hZ5 := HZ4.out.below hb5 HZ4.out.lt
  have HB5 := Lib.hid (HB4.out.trans (hb5.mono HB4.out.size))
  have HZ5 := Lib.hid hZ5
  clear hZ5 hb5 HB4 HZ4
  have y0 : w5.cell? ⟨w.heap.size, 0, none⟩ = some (.int .i64 0) := HZ5.out.cell 0
  have y1 : w5.cell? ⟨w.heap.size, 1, none⟩ = some (.int .u64 0) := HZ5.out.cell 1
  have y2 : w5.cell? ⟨w.heap.size, 2, none⟩ = some (.int .u64 0) := HZ5.out.cell 2
  have y3 : w5.cell? ⟨w.heap.size, 3, none⟩ = some (.int .u64 0) := HZ5.out.cell 3
  have y4 : w5.cell? ⟨w.heap.size, 4, none⟩ = some (.int .u64 0) := HZ5.out.cell 4
  have y5 : w5.cell? ⟨w.heap.size, 5, none⟩ = some (.slice none 0 0) := HZ5.out.cell 5
  have y6 : w5.cell? ⟨w.heap.size, 6, none⟩ = some (.int .i64 0) := HZ5.out.cell 6
  have y7 : w5.cell? ⟨w.heap.size, 7, none⟩ = some (.int .i64 0) := HZ5.out.cell 7
  have g0 := HZ5.out.frozen 0
  have g1 := HZ5.out.frozen 1
  have g2 := HZ5.out.frozen 2
  have g3 := HZ5.out.frozen 3
  have g4 := HZ5.out.frozen 4
  have g5 := HZ5.out.frozen 5
  have g6 := HZ5.out.frozen 6
  have g7 := HZ5.out.frozen 7
  clear ht5 HC HT4
  rw [if_neg (by decide)] at HV
  generalize manyN 4 2 L = x at *
  unfold ndV
  dsimp only
  go_wp2
  go_light
  have hF := flat_put (P := fun _ => False) (x := x) (B := B5) (cap := c5) HZ5.out HB5.out (HT5.out.weak (fun b hb _ => .inr (by omega))) rfl
  refine bodyPost_ret (ret_node Tryz.results27 rfl hF.1) rfl ?_
  rw [HV.out]
  exact ⟨B5, c5, rfl, hF.2.1, hc5, hF.2.2.weak (fun b hb _ => hb.elim (fun h => h.elim) id)⟩
def FitT (x : Nd) : Prop := ∀ y ∈ x.nodes, y.set < 2 ^ 256
def FitF (F : Trees) : Prop := ∀ y ∈ F.nodes, y.set < 2 ^ 256
theorem FitT.kids {x : Nd} (h : FitT x) : FitF x.kids := fun y hy => h y (List.mem_cons_of_mem _ hy)
theorem FitF.get {F : Trees} (h : FitF F) {z : Nd} (hz : z ∈ F.list) : FitT z := fun y hy => h y ((nodes_list _ _).2 ⟨z, hz, hy⟩)
noncomputable def sameF (F G : Trees) : Bool := @decide (F = G) (Classical.propDecidable _)
theorem sameF_iff {F G : Trees} : sameF F G = true ↔ F = G := by unfold sameF; exact @decide_eq_true_iff _ (Classical.propDecidable _)
theorem sameF_no {F G : Trees} (h : F ≠ G) : sameF F G = false := by
 cases hb : sameF F G with
 | false => rfl
 | true => exact absurd (sameF_iff.1 hb) h
theorem words_same {s t : Nat} (hs : s < 2 ^ 256) (ht : t < 2 ^ 256) (h : ∀ i, i < 4 → word s.testBit i = word t.testBit i) : s = t := by
 refine Nat.eq_of_testBit_eq fun c => ?_
 rcases Nat.lt_or_ge c 256 with hc | hc
 ·have e := congrArg (fun n => n.testBit (c % 64)) (h (c / 64) (by omega))
  simp only [testBit_word] at e
  rw [decide_eq_true (Nat.mod_lt c (by decide)), Bool.true_and, Bool.true_and, show 64 * (c / 64) + c % 64 = c by omega] at e
  exact e
 ·have hp : 2 ^ 256 ≤ 2 ^ c := Nat.pow_le_pow_right (by decide) hc
  rw [Nat.testBit_lt_two_pow (Nat.lt_of_lt_of_le hs hp), Nat.testBit_lt_two_pow (Nat.lt_of_lt_of_le ht hp)]
theorem lists_same {F G : Trees} (h1 : F.len = G.len) (h2 : ∀ (i : Nat) (a b : Nd), F.list[i]? = some a → G.list[i]? = some b → a = b) : F = G := by
 have : F.list = G.list := by
  refine List.ext_getElem? fun i => ?_
  rcases Nat.lt_or_ge i F.len with hi | hi
  ·obtain ⟨a, ha⟩ : ∃ a, F.list[i]? = some a := ⟨_, List.getElem?_eq_getElem (by rw [Trees.len_list]; exact hi)⟩
   obtain ⟨b, hb⟩ : ∃ b, G.list[i]? = some b := ⟨_, List.getElem?_eq_getElem (by rw [Trees.len_list, ← h1]; exact hi)⟩
   rw [ha, hb, h2 i a b ha hb]
  ·rw [List.getElem?_eq_none (by rw [Trees.len_list]; exact hi), List.getElem?_eq_none (by rw [Trees.len_list, ← h1]; exact hi)]
 rw [← Trees.of_list F, ← Trees.of_list G, this]
theorem nd_same {x y : Nd} (h1 : x.kind = y.kind) (h2 : x.set = y.set) (h3 : x.lo = y.lo) (h4 : x.hi = y.hi) (h5 : x.kids = y.kids) : x = y := by
 obtain ⟨a, b, c, d, e⟩ := x
 obtain ⟨a', b', c', d', e'⟩ := y
 simp only at h1 h2 h3 h4 h5
 subst h1 h2 h3 h4 h5
 rfl
def TSameD (n : Nat) : Prop := ∀ (x y : Nd) (P P' : Nat → Prop) (B B' : Option Addr) (cap cap' : Nat) (w : World), x.size ≤ n → x.size ≤ 100000000 → y.size ≤ 100000000 → FitT x → FitT y → TreesAt w P x.kids B → TreesAt w P' y.kids B' →
 Calls Tryz.prog 53 #[ndV x B cap, ndV y B' cap'] w fun e w' => e = .returned (.bool (sameN x y)) ∧ Below w.heap.size w w'
def TEqualD (n : Nat) : Prop := ∀ (F G : Trees) (P P' : Nat → Prop) (B B' : Option Addr) (cap cap' : Nat) (w : World), F.size ≤ n → F.size ≤ 100000000 → G.size ≤ 100000000 → FitF F → FitF G → TreesAt w P F B → TreesAt w P' G B' →
 Calls Tryz.prog 108 #[.slice B F.len cap, .slice B' G.len cap', .func (.func 53) #[] #[]] w fun e w' => e = .returned (.bool (sameF F G)) ∧ Below w.heap.size w w'
theorem tequald_step {n : Nat} (ih : TSameD n) : TEqualD n := by
 intro F G P P' B B' cap cap' w hsz hlen hlen' hf hg ht ht'
 have HT := Lib.hid ht
 have HT' := Lib.hid ht'
 have HF := Lib.hid hf
 have HG := Lib.hid hg
 have hlk : F.len ≤ 100000000 := by have := Trees.len_size F; omega
 clear ht ht' hf hg
 by_cases hn : F.len = G.len
 ·have hnn : ((F.len : Int) != (G.len : Int)) = false := by rw [bne_eq_false_iff_eq]; omega
  have HN := Lib.hid hn
  clear hn
  go_enter Tryz.func108, Tryz.ntmps108
  go_wp2
  go_loopw [17] (fun i wr => ∃ k : Nat, i = .int .i64 (k : Int) ∧ k ≤ F.len ∧ Hid (∀ (j : Nat) (a b : Nd), j < k → F.list[j]? = some a → G.list[j]? = some b → a = b) ∧ Hid (Below w.heap.size w wr)) (fun i _ => F.len - (intOf i).toNat)
  case atStart => exact ⟨0, rfl, Nat.zero_le _, Lib.hid (fun j a b hj => by omega), Lib.hid (Below.refl _ _)⟩
  case round =>
   clear hnn
   obtain ⟨k, rfl, hk, HE, HB⟩ := hrel
   by_cases hlt : k < F.len
   ·obtain ⟨z, hz⟩ : ∃ z, F.list[k]? = some z := ⟨_, List.getElem?_eq_getElem (by rw [Trees.len_list]; exact hlt)⟩
    obtain ⟨y, hy⟩ : ∃ y, G.list[k]? = some y := ⟨_, List.getElem?_eq_getElem (by rw [Trees.len_list, ← HN.out]; exact hlt)⟩
    have hzs := Trees.size_get F k z hz
    have hys := Trees.size_get G k y hy
    obtain ⟨b, o, C, capc, rfl, _, _, ⟨c0, c1, c2, c3, c4, c5, c6, c7⟩, hkz⟩ := (HT.out.below HB.out).get hz
    obtain ⟨b', o', C', capc', rfl, _, _, ⟨d0, d1, d2, d3, d4, d5, d6, d7⟩, hkz'⟩ := (HT'.out.below HB.out).get hy
    have hdl : (k : Int) < (F.len : Int) := by omega
    have hdg : (k : Int) < (G.len : Int) := by have := HN.out; omega
    have hbl := World.block_lt_of_cell? wr _ c0
    have hbl' := World.block_lt_of_cell? wr _ d0
    have hb2 : Below wr.heap.size wr ((wr.alloc (.cells (ndA z C capc) 28)).alloc (.cells (ndA y C' capc') 28)) := ((Below.refl _ _).alloc (Nat.le_refl _) _).alloc (by simp) _
    have HI := Lib.hid (ih z y P P' C C' capc capc' _ (by omega) (by omega) (by omega) (HF.out.get (List.mem_of_getElem? hz)) (HG.out.get (List.mem_of_getElem? hy)) (hkz.below hb2) (hkz'.below hb2))
    have HB2 := Lib.hid (HB.out.trans (hb2.mono HB.out.size))
    have HZY := Lib.hid (show _ ∧ _ from ⟨hz, hy⟩)
    clear hz hy hzs hys hkz hkz' hsz hlen hlen' hb2
    unfold ndV at HI
    cases hv : sameN z y with
    | true =>
     rw [hv] at HI
     have HV := Lib.hid (sameN_iff.1 hv)
     clear hv
     go_wp2_with fail
     refine HI.out.mono ?_
     rintro e w3 ⟨rfl, hb3⟩
     have HB3 := Lib.hid (HB2.out.trans (hb3.mono HB2.out.size))
     clear hb3 HI c0 c1 c2 c3 c4 c5 c6 c7 d0 d1 d2 d3 d4 d5 d6 d7
     dsimp only
     go_wp2
     go_roundw
     case rel => exact ⟨k + 1, by go_num, by omega, Lib.hid (fun j a b hj ha hb => by
      rcases Nat.lt_or_ge j k with h | h
      ·exact HE.out j a b h ha hb
      ·obtain rfl : j = k := by omega
       rw [HZY.out.1] at ha
       rw [HZY.out.2] at hb
       cases ha
       cases hb
       exact HV.out), HB3⟩
     case measure => simp [intOf]; omega
    | false =>
     rw [hv] at HI
     have HV := Lib.hid (show sameF F G = false from sameF_no (fun e => by
      have h2 := HZY.out.2
      rw [← e, HZY.out.1] at h2
      cases h2
      rw [sameN_self] at hv
      cases hv))
     clear hv
     go_wp2_with fail
     refine HI.out.mono ?_
     rintro e w3 ⟨rfl, hb3⟩
     have HB3 := Lib.hid (HB2.out.trans (hb3.mono HB2.out.size))
     clear hb3 HI c0 c1 c2 c3 c4 c5 c6 c7 d0 d1 d2 d3 d4 d5 d6 d7
     dsimp only
     go_wp2
     go_light
     go_ret
     exact ⟨by rw [HV.out]; rfl, HB3.out⟩
   ·have hdl : ¬ (k : Int) < (F.len : Int) := by omega
    have HV := Lib.hid (show sameF F G = true from sameF_iff.2 (lists_same HN.out (fun i a b ha hb => HE.out i a b (by
     have := (List.getElem?_eq_some_iff.1 ha).1
     rw [Trees.len_list] at this
     omega) ha hb)))
    go_wp2
    go_light
    go_ret
    exact ⟨by rw [HV.out]; rfl, HB.out⟩
 ·have hnn : ((F.len : Int) != (G.len : Int)) = true := by rw [bne_iff_ne]; omega
  have HV := Lib.hid (show sameF F G = false from sameF_no (fun e => hn (by rw [e])))
  go_enter Tryz.func108, Tryz.ntmps108
  go_wp2
  go_light
  go_ret
  exact ⟨by rw [HV.out]; rfl, Below.refl _ _⟩
theorem ts_kind (x y : Nd) (B B' : Option Addr) (cap cap' : Nat) (w : World) (hk : (x.kind != y.kind) = true) : Calls Tryz.prog 53 #[ndV x B cap, ndV y B' cap'] w fun e w' => e = .returned (.bool false) ∧ Below w.heap.size w w' := by
 have HB := Lib.hid (show Below w.heap.size w ((w.alloc (.cells (ndA x B cap) 28)).alloc (.cells (ndA y B' cap') 28)) from ((Below.refl _ _).alloc (Nat.le_refl _) _).alloc (by simp) _)
 unfold ndV
 go_enter Tryz.func53, Tryz.ntmps53
 go_wp2
 go_light
 go_ret
 exact ⟨rfl, HB.out⟩
theorem ts_set0 (x y : Nd) (B B' : Option Addr) (cap cap' : Nat) (w : World) (hk : (x.kind != y.kind) = false) (h0 : (((word x.set.testBit 0 : Nat) : Int) == ((word y.set.testBit 0 : Nat) : Int)) = false) : Calls Tryz.prog 53 #[ndV x B cap, ndV y B' cap'] w fun e w' => e = .returned (.bool false) ∧ Below w.heap.size w w' := by
 have HB := Lib.hid (show Below w.heap.size w ((w.alloc (.cells (ndA x B cap) 28)).alloc (.cells (ndA y B' cap') 28)) from ((Below.refl _ _).alloc (Nat.le_refl _) _).alloc (by simp) _)
 unfold ndV
 go_enter Tryz.func53, Tryz.ntmps53
 go_wp2
 go_light
 go_ret
 exact ⟨rfl, HB.out⟩
theorem ts_set1 (x y : Nd) (B B' : Option Addr) (cap cap' : Nat) (w : World) (hk : (x.kind != y.kind) = false) (h0 : (((word x.set.testBit 0 : Nat) : Int) == ((word y.set.testBit 0 : Nat) : Int)) = true) (h1 : (((word x.set.testBit 1 : Nat) : Int) == ((word y.set.testBit 1 : Nat) : Int)) = false) : Calls Tryz.prog 53 #[ndV x B cap, ndV y B' cap'] w fun e w' => e = .returned (.bool false) ∧ Below w.heap.size w w' := by
 have HB := Lib.hid (show Below w.heap.size w ((w.alloc (.cells (ndA x B cap) 28)).alloc (.cells (ndA y B' cap') 28)) from ((Below.refl _ _).alloc (Nat.le_refl _) _).alloc (by simp) _)
 unfold ndV
 go_enter Tryz.func53, Tryz.ntmps53
 go_wp2
 go_light
 go_ret
 exact ⟨rfl, HB.out⟩
theorem ts_set2 (x y : Nd) (B B' : Option Addr) (cap cap' : Nat) (w : World) (hk : (x.kind != y.kind) = false) (h0 : (((word x.set.testBit 0 : Nat) : Int) == ((word y.set.testBit 0 : Nat) : Int)) = true) (h1 : (((word x.set.testBit 1 : Nat) : Int) == ((word y.set.testBit 1 : Nat) : Int)) = true) (h2 : (((word x.set.testBit 2 : Nat) : Int) == ((word y.set.testBit 2 : Nat) : Int)) = false) : Calls Tryz.prog 53 #[ndV x B cap, ndV y B' cap'] w fun e w' => e = .returned (.bool false) ∧ Below w.heap.size w w' := by
 have HB := Lib.hid (show Below w.heap.size w ((w.alloc (.cells (ndA x B cap) 28)).alloc (.cells (ndA y B' cap') 28)) from ((Below.refl _ _).alloc (Nat.le_refl _) _).alloc (by simp) _)
 unfold ndV
 go_enter Tryz.func53, Tryz.ntmps53
 go_wp2
 go_light
 go_ret
 exact ⟨rfl, HB.out⟩
theorem ts_set3 (x y : Nd) (B B' : Option Addr) (cap cap' : Nat) (w : World) (hk : (x.kind != y.kind) = false) (h0 : (((word x.set.testBit 0 : Nat) : Int) == ((word y.set.testBit 0 : Nat) : Int)) = true) (h1 : (((word x.set.testBit 1 : Nat) : Int) == ((word y.set.testBit 1 : Nat) : Int)) = true) (h2 : (((word x.set.testBit 2 : Nat) : Int) == ((word y.set.testBit 2 : Nat) : Int)) = true) (h3 : (((word x.set.testBit 3 : Nat) : Int) == ((word y.set.testBit 3 : Nat) : Int)) = false) : Calls Tryz.prog 53 #[ndV x B cap, ndV y B' cap'] w fun e w' => e = .returned (.bool false) ∧ Below w.heap.size w w' := by
 have HB := Lib.hid (show Below w.heap.size w ((w.alloc (.cells (ndA x B cap) 28)).alloc (.cells (ndA y B' cap') 28)) from ((Below.refl _ _).alloc (Nat.le_refl _) _).alloc (by simp) _)
 unfold ndV
 go_enter Tryz.func53, Tryz.ntmps53
 go_wp2
 go_light
 go_ret
 exact ⟨rfl, HB.out⟩
theorem ts_lo (x y : Nd) (B B' : Option Addr) (cap cap' : Nat) (w : World) (hk : (x.kind != y.kind) = false) (h0 : (((word x.set.testBit 0 : Nat) : Int) == ((word y.set.testBit 0 : Nat) : Int)) = true) (h1 : (((word x.set.testBit 1 : Nat) : Int) == ((word y.set.testBit 1 : Nat) : Int)) = true) (h2 : (((word x.set.testBit 2 : Nat) : Int) == ((word y.set.testBit 2 : Nat) : Int)) = true) (h3 : (((word x.set.testBit 3 : Nat) : Int) == ((word y.set.testBit 3 : Nat) : Int)) = true) (hl : (x.lo != y.lo) = true) : Calls Tryz.prog 53 #[ndV x B cap, ndV y B' cap'] w fun e w' => e = .returned (.bool false) ∧ Below w.heap.size w w' := by
 have HB := Lib.hid (show Below w.heap.size w ((w.alloc (.cells (ndA x B cap) 28)).alloc (.cells (ndA y B' cap') 28)) from ((Below.refl _ _).alloc (Nat.le_refl _) _).alloc (by simp) _)
 unfold ndV
 go_enter Tryz.func53, Tryz.ntmps53
 go_wp2
 go_light
 go_ret
 exact ⟨rfl, HB.out⟩
theorem ts_hi (x y : Nd) (B B' : Option Addr) (cap cap' : Nat) (w : World) (hk : (x.kind != y.kind) = false) (h0 : (((word x.set.testBit 0 : Nat) : Int) == ((word y.set.testBit 0 : Nat) : Int)) = true) (h1 : (((word x.set.testBit 1 : Nat) : Int) == ((word y.set.testBit 1 : Nat) : Int)) = true) (h2 : (((word x.set.testBit 2 : Nat) : Int) == ((word y.set.testBit 2 : Nat) : Int)) = true) (h3 : (((word x.set.testBit 3 : Nat) : Int) == ((word y.set.testBit 3 : Nat) : Int)) = true) (hl : (x.lo != y.lo) = false) (hh : (x.hi != y.hi) = true) : Calls Tryz.prog 53 #[ndV x B cap, ndV y B' cap'] w fun e w' => e = .returned (.bool false) ∧ Below w.heap.size w w' := by
 have HB := Lib.hid (show Below w.heap.size w ((w.alloc (.cells (ndA x B cap) 28)).alloc (.cells (ndA y B' cap') 28)) from ((Below.refl _ _).alloc (Nat.le_refl _) _).alloc (by simp) _)
 unfold ndV
 go_enter Tryz.func53, Tryz.ntmps53
 go_wp2
 go_light
 go_ret
 exact ⟨rfl, HB.out⟩
theorem word_eq_of_b {a b : Nat} (h : ((a : Int) == (b : Int)) = true) : a = b := by rw [beq_iff_eq] at h; omega
theorem word_ne_of_b {s t : Nat} {i : Nat} (h : (((word s.testBit i : Nat) : Int) == ((word t.testBit i : Nat) : Int)) = false) : s ≠ t := fun e => by
 rw [e] at h
 simp at h
theorem tsamed_step {n : Nat} (ih : TEqualD n) : TSameD (n + 1) := by
 intro x y P P' B B' cap cap' w hsz hlen hlen' hf hg ht ht'
 cases hk : (x.kind != y.kind) with
 | true =>
  rw [sameN_no (fun e => by rw [e] at hk; simp at hk)]
  exact ts_kind x y B B' cap cap' w hk
 | false =>
 cases h0 : (((word x.set.testBit 0 : Nat) : Int) == ((word y.set.testBit 0 : Nat) : Int)) with
 | false =>
  rw [sameN_no (fun e => word_ne_of_b h0 (by rw [e]))]
  exact ts_set0 x y B B' cap cap' w hk h0
 | true =>
 cases h1 : (((word x.set.testBit 1 : Nat) : Int) == ((word y.set.testBit 1 : Nat) : Int)) with
 | false =>
  rw [sameN_no (fun e => word_ne_of_b h1 (by rw [e]))]
  exact ts_set1 x y B B' cap cap' w hk h0 h1
 | true =>
 cases h2 : (((word x.set.testBit 2 : Nat) : Int) == ((word y.set.testBit 2 : Nat) : Int)) with
 | false =>
  rw [sameN_no (fun e => word_ne_of_b h2 (by rw [e]))]
  exact ts_set2 x y B B' cap cap' w hk h0 h1 h2
 | true =>
 cases h3 : (((word x.set.testBit 3 : Nat) : Int) == ((word y.set.testBit 3 : Nat) : Int)) with
 | false =>
  rw [sameN_no (fun e => word_ne_of_b h3 (by rw [e]))]
  exact ts_set3 x y B B' cap cap' w hk h0 h1 h2 h3
 | true =>
 cases hl : (x.lo != y.lo) with
 | true =>
  rw [sameN_no (fun e => by rw [e] at hl; simp at hl)]
  exact ts_lo x y B B' cap cap' w hk h0 h1 h2 h3 hl
 | false =>
 cases hh : (x.hi != y.hi) with
 | true =>
  rw [sameN_no (fun e => by rw [e] at hh; simp at hh)]
  exact ts_hi x y B B' cap cap' w hk h0 h1 h2 h3 hl hh
 | false =>
  have hset : x.set = y.set := words_same (hf x List.mem_cons_self) (hg y List.mem_cons_self) (fun i hi => by
   rcases (by omega : i = 0 ∨ i = 1 ∨ i = 2 ∨ i = 3) with rfl | rfl | rfl | rfl
   ·exact word_eq_of_b h0
   ·exact word_eq_of_b h1
   ·exact word_eq_of_b h2
   ·exact word_eq_of_b h3)
  have hv : sameN x y = sameF x.kids y.kids := by
   cases hs : sameF x.kids y.kids with
   | true => exact sameN_iff.2 (nd_same (by rw [bne_eq_false_iff_eq] at hk; exact hk) hset (by rw [bne_eq_false_iff_eq] at hl; exact hl) (by rw [bne_eq_false_iff_eq] at hh; exact hh) (sameF_iff.1 hs))
   | false => exact sameN_no (fun e => by
     rw [sameF_iff.2 (by rw [e])] at hs
     cases hs)
  rw [hv]
  have hb2 : Below w.heap.size w ((w.alloc (.cells (ndA x B cap) 28)).alloc (.cells (ndA y B' cap') 28)) := ((Below.refl _ _).alloc (Nat.le_refl _) _).alloc (by simp) _
  have HI := Lib.hid (ih x.kids y.kids P P' B B' cap cap' _ (by unfold Nd.size at hsz; omega) (by unfold Nd.size at hlen; omega) (by unfold Nd.size at hlen'; omega) hf.kids hg.kids (ht.below hb2) (ht'.below hb2))
  have HB := Lib.hid hb2
  clear ht ht' hb2 hsz hlen hlen' hf hg hv hset ih
  generalize sameF x.kids y.kids = v at *
  unfold ndV
  go_enter Tryz.func53, Tryz.ntmps53
  go_wp2_with fail
  refine HI.out.mono ?_
  rintro e w3 ⟨rfl, hb3⟩
  have HB3 := Lib.hid (HB.out.trans (hb3.mono HB.out.size))
  clear hb3 HI
  dsimp only
  go_wp2
  go_light
  go_ret
  exact ⟨rfl, HB3.out⟩
theorem tsamed_go (x y : Nd) (P P' : Nat → Prop) (B B' : Option Addr) (cap cap' : Nat) (w : World) (hx : x.size ≤ 100000000) (hy : y.size ≤ 100000000) (fx : FitT x) (fy : FitT y) (ht : TreesAt w P x.kids B) (ht' : TreesAt w P' y.kids B') :
  Calls Tryz.prog 53 #[ndV x B cap, ndV y B' cap'] w fun e w' => e = .returned (.bool (sameN x y)) ∧ Below w.heap.size w w' := by
 have h : ∀ n, TSameD n := by
  intro n
  induction n with
  | zero => exact fun x _ _ _ _ _ _ _ _ h => by unfold Nd.size at h; omega
  | succ n ih => exact tsamed_step (tequald_step ih)
 exact h x.size x y P P' B B' cap cap' w (Nat.le_refl _) hx hy fx fy ht ht'
theorem own_put {w : World} {base n cap g size o : Nat} {e : TypeId} {xs : List Value} (h : w.ownsRow base e size (.slice (some ⟨g, 0, none⟩) n cap) n xs) (u : Value) : (w.setCell ⟨g, o, none⟩ u).ownsRow base e size (.slice (some ⟨g, 0, none⟩) n cap) n (xs.set o u) := by
 obtain ⟨h1, h2 | ⟨g', cap', cur, e1, hb, hg, hn, hm, hs, ht⟩⟩ := h
 ·cases h2.1
 ·cases e1
  refine ⟨by rw [List.length_set]; exact h1, .inr ⟨g, cap, cur.setIfInBounds o u, rfl, hb, heap_setCell_same w g o cur e u hg, hn, hm, by rw [Array.size_setIfInBounds]; exact hs, ?_⟩⟩
  rw [Array.toList_setIfInBounds, List.take_set, ht]
def setW (y : Nd) (s : Nat) : Nd := ⟨y.kind, s, y.kids, y.lo, y.hi⟩
abbrev wV (s j : Nat) : Value := .int .u64 ((word s.testBit j : Nat) : Int)
theorem set_shift (z : Nd) (B : Option Addr) (cap : Nat) (rest : List Value) (i j : Nat) (v : Value) : (ndCell z B cap ++ rest).set ((i + 1) * 8 + j) v = ndCell z B cap ++ rest.set (i * 8 + j) v := by
 rw [List.set_append_right _ _ (by rw [ndCell_len]; omega), ndCell_len, show (i + 1) * 8 + j - 8 = i * 8 + j by omega]
theorem CellsAre.setw {w : World} {P : Nat → Prop} {f : Nd → Nd} {s : Nat} : ∀ {l : List Nd} {cs : List Value} {i : Nat} {y : Nd}, CellsAre w P l cs → l[i]? = some y → f y = setW y s →
  CellsAre w P (l.modify i f) ((((cs.set (i * 8 + 1) (wV s 0)).set (i * 8 + 2) (wV s 1)).set (i * 8 + 3) (wV s 2)).set (i * 8 + 4) (wV s 3))
 | [], cs, i, y, _, hy, _ => by simp at hy
 | z :: l, cs, 0, y, ⟨B, cap, rest, hcs, hc, ht, hr⟩, hy, hf => by
  simp at hy
  subst hy
  rw [List.modify_zero_cons, hf]
  exact ⟨B, cap, rest, by rw [hcs]; rfl, hc, ht, hr⟩
 | z :: l, cs, i + 1, y, ⟨B, cap, rest, hcs, hc, ht, hr⟩, hy, hf => by
  rw [List.modify_succ_cons]
  refine ⟨B, cap, _, ?_, hc, ht, CellsAre.setw (i := i) hr (by simpa using hy) hf⟩
  rw [hcs, set_shift, set_shift, set_shift, set_shift]
theorem ORow.put {n0 : Nat} {w wr : World} {acc : List Nd} {g cap i : Nat} {y : Nd} {f : Nd → Nd} {s : Nat} (h : ORow n0 w acc (.slice (some ⟨g, 0, none⟩) acc.length cap) wr) (hy : acc[i]? = some y) (hf : f y = setW y s) :
  ORow n0 w (acc.modify i f) (.slice (some ⟨g, 0, none⟩) acc.length cap) ((((wr.setCell ⟨g, i * 8 + 1, none⟩ (wV s 0)).setCell ⟨g, i * 8 + 2, none⟩ (wV s 1)).setCell ⟨g, i * 8 + 3, none⟩ (wV s 2)).setCell ⟨g, i * 8 + 4, none⟩ (wV s 3)) := by
 have hl := h.own g rfl
 obtain ⟨⟨cs, hr, hc⟩, h3, h4⟩ := h
 refine ⟨⟨_, ?_, CellsAre.keep ?_ (fun b hb _ => hb) (CellsAre.setw hc hy hf)⟩, ?_, ?_⟩
 ·rw [List.length_modify]
  exact own_put (own_put (own_put (own_put hr _) _) _) _
 ·intro b o hb hbl
  have hne : b ≠ g := fun e => hb (by rw [e]; rfl)
  refine World.cell?_of_block ?_
  rw [Below.heap_setCell _ _ _ _ hne, Below.heap_setCell _ _ _ _ hne, Below.heap_setCell _ _ _ _ hne, Below.heap_setCell _ _ _ _ hne]
 ·exact (((h3.setCell (p := ⟨g, i * 8 + 1, none⟩) hl.1 _).setCell (p := ⟨g, i * 8 + 2, none⟩) hl.1 _).setCell (p := ⟨g, i * 8 + 3, none⟩) hl.1 _).setCell (p := ⟨g, i * 8 + 4, none⟩) hl.1 _
 ·simpa using h4
theorem alt1_go (w : World) (x y : Nd) (g : Nat) (Cx : Option Addr) (cx : Nat) (hx : x.size ≤ 100000000) (hy : y.size ≤ 100000000) (fx : FitT x) (fy : FitT y) (hB : Blk w g 28 (ndA x Cx cx)) (htx : TreesAt w (fun b => b < w.heap.size) x.kids Cx) : PredC 84 #[.pointer (some ⟨g, 0, none⟩)] (sameN x) w y := by
 intro C capc W hW hc ht
 have hal : Below W.heap.size W (W.alloc (.cells (ndA y C capc) 28)) := (Below.refl _ _).alloc (Nat.le_refl _) _
 have hX := (hB.below hW hB.lt).below (hal.mono (Nat.le_refl _)) (by have := hB.lt; have := hW.size; omega)
 have HY := Lib.hid (Blk.new W 28 (ndA y C capc))
 have HS := Lib.hid (tsamed_go x y _ _ Cx C cx capc (W.alloc (.cells (ndA y C capc) 28)) hx hy fx fy ((htx.below hW).below hal) (ht.below hal))
 have HB := Lib.hid hal
 have HX := Lib.hid hX
 clear ht htx hal hX hB hW
 unfold ndV at *
 unfold ndA at *
 obtain ⟨p0, p1, p2, p3, p4, p5, p6, p7⟩ : _ ∧ _ ∧ _ ∧ _ ∧ _ ∧ _ ∧ _ ∧ _ := ⟨HX.out.cell 0, HX.out.cell 1, HX.out.cell 2, HX.out.cell 3, HX.out.cell 4, HX.out.cell 5, HX.out.cell 6, HX.out.cell 7⟩
 obtain ⟨q0, q1, q2, q3, q4, q5, q6, q7⟩ : _ ∧ _ ∧ _ ∧ _ ∧ _ ∧ _ ∧ _ ∧ _ := ⟨HY.out.cell 0, HY.out.cell 1, HY.out.cell 2, HY.out.cell 3, HY.out.cell 4, HY.out.cell 5, HY.out.cell 6, HY.out.cell 7⟩
 simp only [List.getElem?_toArray, List.getElem?_cons_zero, List.getElem?_cons_succ] at p0 p1 p2 p3 p4 p5 p6 p7 q0 q1 q2 q3 q4 q5 q6 q7
 have pl := HX.out.lt
 have ql := HY.out.lt
 generalize sameN x y = v at *
 go_enter Tryz.func84, Tryz.ntmps84
 go_upto_region 1 with fail
 generalize W.alloc (.cells #[.int .i64 y.kind, .int .u64 (word y.set.testBit 0), .int .u64 (word y.set.testBit 1), .int .u64 (word y.set.testBit 2), .int .u64 (word y.set.testBit 3), .slice C y.kids.len capc, .int .i64 y.lo, .int .i64 y.hi] 28) = W1 at *
 go_wp2_with fail
 refine HS.out.mono ?_
 rintro e w3 ⟨rfl, hb3⟩
 have HB3 := Lib.hid (HB.out.trans (hb3.mono HB.out.size))
 clear hb3 HS
 dsimp only
 go_wp2
 go_light
 go_ret
 exact ⟨rfl, HB3.out⟩
theorem enter_alt1 (args : Array Value) (W : World) : (callFunc 84 args).run Tryz.prog W = .ok (.enter 84 args) W := enters_go Tryz.func84 (by kernel_rfl) rfl args W
end
end Go.Proofs.YtofbfafnpdaejaaGreatDoor
