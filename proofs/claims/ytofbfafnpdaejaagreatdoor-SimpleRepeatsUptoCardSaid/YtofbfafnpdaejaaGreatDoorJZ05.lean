/- Texts of the claim. -/
import Derived.Test.YtofbfafnpdaejaaGreatDoorJNext
import Derived.Test.YtofbfafnpdaejaaGreatDoorJRefEsc
import Derived.Test.YtofbfafnpdaejaaGreatDoorJZ03
import Derived.Test.YtofbfafnpdaejaaGreatDoorJZ01
import Derived.Test.YtofbfafnpdaejaaGreatDoorJZ04
import Derived.Test.YtofbfafnpdaejaaGreatDoorJZ02
set_option linter.all false
set_option maxRecDepth 100000
set_option maxHeartbeats 8000000
namespace Go.Proofs.YtofbfafnpdaejaaGreatDoor
section
open Go.RowKit
theorem ret_split {fn : Func} {t4 t6 : Tmp} (h : fn.results = #[.tmp t4, .cell t6 77]) {tmps : Array Value} {w : World} {g' : Nat} {x y c : Value}
  (hc : tmps.getD t4 undef = c) (hp' : tmps.getD t6 undef = .pointer (some ⟨g', 0, none⟩)) (hb' : Blk w g' 77 #[x, y]) :
  (results fn tmps).run Tryz.prog w = .ok (.tuple #[c, .agg #[x, y]]) w := by
 have h2 := run_loadVar_row (P := Tryz.prog) w g' 77 77 #[x, y] (0, 0) _ hb' Tryz.underlying77 rfl (by kernel_rfl)
 simp only [results, h]
 simp only [Array.getD_eq_getD_getElem?] at hc hp'
 simp [Sem.run_bind, hc, hp', asAddr, h2, Result.andThen]
theorem own_mono {w : World} {base base' size n : Nat} {e : TypeId} {v : Value} {xs : List Value} (h : w.ownsRow base e size v n xs) (hb : base' ≤ base) : w.ownsRow base' e size v n xs := by
 obtain ⟨h1, h2 | ⟨g, cap, cur, e1, e2, h3⟩⟩ := h
 ·exact ⟨h1, .inl h2⟩
 ·exact ⟨h1, .inr ⟨g, cap, cur, e1, Nat.le_trans hb e2, h3⟩⟩
def Cuts (r : Except Wrong (List Lex)) (w : World) (e : Ending) (w' : World) : Prop :=
 match r with
 | .ok l => ∃ v, e = .returned (.tuple #[v, .agg #[.int .i64 0, .int .i64 0]]) ∧ Below w.heap.size w w' ∧ w'.ownsRow w.heap.size 143 8 v l.length (lexCells l)
 | .error (k, q) => e = .returned (.tuple #[.slice none 0 0, .agg #[.int .i64 k, .int .i64 q]]) ∧ Below w.heap.size w w'
theorem split_long (A : Option Addr) (cap : Nat) (bs : List Nat) (w : World) (hlen : 65536 < bs.length) (hmax : bs.length ≤ 140737488355328) :
  Calls Tryz.prog 120 #[.slice A bs.length cap] w (Cuts (splitS bs) w) := by
 have hd : decide ((65536 : Int) < (bs.length : Int)) = true := by simp; omega
 have hd' : (65536 : Int) < (bs.length : Int) := by omega
 have Hb := Lib.hid (Blk.new w 77 #[.int .i64 0, .int .i64 0])
 obtain ⟨b0, b1, x0, x1⟩ := Hb.out.c2
 rw [splitS_long hlen]
 clear hlen
 go_enter Tryz.func120, Tryz.ntmps120
 go_wp2
 go_light
 refine bodyPost_ret (ret_split Tryz.results120 rfl rfl (Blk.new w 77 #[.int .i64 4, .int .i64 65536])) rfl ⟨rfl, (Below.refl w.heap.size w).alloc (Nat.le_refl _) _⟩
theorem split_none (A : Option Addr) (cap : Nat) (w : World) :
  Calls Tryz.prog 120 #[.slice A 0 cap] w (Cuts (splitS []) w) := by
 have Hb := Lib.hid ((Blk.new w 77 #[.int .i64 0, .int .i64 0]).alloc (.cells #[.slice A 0 cap, .int .i64 0, .slice none 0 0, .int .i64 0, .int .i64 0] 175))
 have hs : Blk ((w.alloc (.cells #[.int .i64 0, .int .i64 0] 77)).alloc (.cells #[.slice A 0 cap, .int .i64 0, .slice none 0 0, .int .i64 0, .int .i64 0] 175)) (w.heap.size + 1) 175 #[.slice A 0 cap, .int .i64 0, .slice none 0 0, .int .i64 0, .int .i64 0] := Blk.new_at (by simp)
 obtain ⟨b0, b1, x0, x1⟩ := Hb.out.c2
 have s1 := hs.cell 1
 have s2 := hs.cell 2
 have HB := Lib.hid (((Below.refl w.heap.size w).alloc (Nat.le_refl _) (.cells #[.int .i64 0, .int .i64 0] 77)).alloc (by simp) (.cells #[.slice A 0 cap, .int .i64 0, .slice none 0 0, .int .i64 0, .int .i64 0] 175))
 clear hs
 rw [splitS_go (bs := []) (by simp), splitF_end (by simp)]
 go_enter Tryz.func120, Tryz.ntmps120
 go_wp2
 go_loopw [16] (fun v16 wr => wr = ((w.alloc (.cells #[.int .i64 0, .int .i64 0] 77)).alloc (.cells #[.slice A 0 cap, .int .i64 0, .slice none 0 0, .int .i64 0, .int .i64 0] 175))) (fun _ wr => 0)
 case atStart => rfl
 case round =>
  obtain rfl := hrel
  go_wp2
  go_light
  refine bodyPost_ret (ret_split Tryz.results120 rfl rfl Hb.out) rfl ⟨_, rfl, HB.out, World.ownsRow_nil _ _ _ _⟩
theorem split_some (b o cap : Nat) (bs : List Nat) (w : World) (hA : BytesAt w w.heap.size (some ⟨b, o, none⟩) bs) (hcap : bs.length ≤ cap) (hlen : bs.length ≤ 65536) (h0 : 0 < bs.length) :
  Calls Tryz.prog 120 #[.slice (some ⟨b, o, none⟩) bs.length cap] w (Cuts (splitS bs) w) := by
 have hl := hA.2.1
 have hb := hA.1
 have hd : decide ((65536 : Int) < (bs.length : Int)) = false := by simp; omega
 have hd' : ¬ (65536 : Int) < (bs.length : Int) := by omega
 have Hb0 := Lib.hid ((Blk.new w 77 #[.int .i64 0, .int .i64 0]).alloc (.cells #[.slice (some ⟨b, o, none⟩) bs.length cap, .int .i64 0, .slice none 0 0, .int .i64 0, .int .i64 0] 175))
 have hS0 : Spl ((w.alloc (.cells #[.int .i64 0, .int .i64 0] 77)).alloc (.cells #[.slice (some ⟨b, o, none⟩) bs.length cap, .int .i64 0, .slice none 0 0, .int .i64 0, .int .i64 0] 175)) (w.heap.size + 1) b o bs.length cap 0 (.slice none 0 0) 0 0 := Blk.new_at (by simp)
 have HS0 := Lib.hid hS0
 have HB0 := Lib.hid (((Below.refl w.heap.size w).alloc (Nat.le_refl _) (.cells #[.int .i64 0, .int .i64 0] 77)).alloc (by simp) (.cells #[.slice (some ⟨b, o, none⟩) bs.length cap, .int .i64 0, .slice none 0 0, .int .i64 0, .int .i64 0] 175))
 have HA0 := Lib.hid ((hA.below HB0.out).more (Nat.le_succ _))
 have hz0 : (((w.alloc (.cells #[.int .i64 0, .int .i64 0] 77)).alloc (.cells #[.slice (some ⟨b, o, none⟩) bs.length cap, .int .i64 0, .slice none 0 0, .int .i64 0, .int .i64 0] 175))).heap.size = w.heap.size + 2 := by simp
 have hR0 : w.heap.size < (((w.alloc (.cells #[.int .i64 0, .int .i64 0] 77)).alloc (.cells #[.slice (some ⟨b, o, none⟩) bs.length cap, .int .i64 0, .slice none 0 0, .int .i64 0, .int .i64 0] 175))).heap.size := by omega
 clear hA
 obtain ⟨s0, s1, s2, s3, s4, f0, f1, f2, f3, f4⟩ := hS0.cells
 clear hS0
 go_enter Tryz.func120, Tryz.ntmps120
 go_wp2
 go_loopw [16] (fun v16 wr => ∃ (i f : Nat) (v : Value) (L : List Lex), i ≤ bs.length ∧ L.length ≤ i ∧ bs.length < i + f ∧ splitF bs f i L = splitS bs ∧ Spl wr (w.heap.size + 1) b o bs.length cap i v 0 0 ∧ wr.ownsRow (w.heap.size + 1) 143 8 v L.length (lexCells L) ∧ Below (w.heap.size + 1) ((w.alloc (.cells #[.int .i64 0, .int .i64 0] 77)).alloc (.cells #[.slice (some ⟨b, o, none⟩) bs.length cap, .int .i64 0, .slice none 0 0, .int .i64 0, .int .i64 0] 175)) wr) (fun _ wr => bs.length - (intOf ((wr.cell? ⟨w.heap.size + 1, 1, none⟩).getD undef)).toNat)
 case atStart => exact ⟨0, bs.length + 1, _, [], by omega, by simp, by omega, (splitS_go hlen).symm, HS0.out, World.ownsRow_nil _ _ _ _, Below.refl _ _⟩
 case round =>
  obtain ⟨i, f, v, L, hi, hL, hf, hF, hS, hrow, hB⟩ := hrel
  obtain ⟨t0, t1, t2, t3, t4, g0, g1, g2, g3, g4⟩ := hS.cells
  have hbr := Hb0.out.below hB (by omega)
  obtain ⟨r0, r1, e0, e1⟩ := hbr.c2
  have hsz := hB.size
  by_cases hlt : i < bs.length
  ·have HG := Lib.hid (next_go (w.heap.size + 1) b o cap bs i v (w.heap.size + 1) L wr hS hrow (Nat.le_refl _) (by omega) (HA0.out.below hB) hlt hcap hlen)
   have hdl : (i : Int) < (bs.length : Int) := by omega
   have Hbr := Lib.hid hbr
   have HB := Lib.hid hB
   have HF := Lib.hid hF
   obtain ⟨f, rfl⟩ : ∃ f', f = f' + 1 := ⟨f - 1, by omega⟩
   clear hS hrow hB hbr hF r0 r1 e0 e1 t2 t3 t4
   cases hx : lexS bs i with
   | error x =>
    obtain ⟨k, q⟩ := x
    have hk0 : (k != 0) = true := by rw [bne_iff_ne]; exact lexS_err hb hx
    have HV := Lib.hid (show splitS bs = .error (k, q) by rw [← HF.out]; exact splitF_bad hlt hx)
    have Hx := Lib.hid hx
    clear hx
    go_wp2_with fail
    refine HG.out.mono ?_
    intro e w1 hs
    unfold Stepped at hs
    rw [Hx.out] at hs
    obtain ⟨rfl, hb1, i1, v1, hS1⟩ := hs
    obtain ⟨u0, u1, u2, u3, u4, g0, g1, g2, g3, g4⟩ := hS1.cells
    have hbr1 := Hbr.out.below hb1 (by omega)
    obtain ⟨r0, r1, e0, e1⟩ := hbr1.c2
    have Hbr1 := Lib.hid hbr1
    have HB1 := Lib.hid (HB.out.trans hb1)
    clear hb1 hS1 hbr1
    go_wp2
    go_region
    all_goals go_wp2
    all_goals go_light
    all_goals rw [HV.out]
    refine bodyPost_ret (ret_split Tryz.results120 rfl rfl Hbr1.out.drew.set2) rfl ⟨rfl, below_set2 (HB0.out.trans (HB1.out.mono (Nat.le_succ _))).drew (Nat.le_refl _) _ _⟩
   | ok x =>
    obtain ⟨x, j⟩ := x
    have hj := lexS_some hb hlt hx
    have HV := Lib.hid (show splitF bs f j (L ++ [x]) = splitS bs by rw [← HF.out]; exact (splitF_ok hlt hx).symm)
    have Hx := Lib.hid hx
    clear hx
    go_wp2_with fail
    refine HG.out.mono ?_
    intro e w1 hs
    unfold Stepped at hs
    rw [Hx.out] at hs
    obtain ⟨rfl, hb1, v1, hS1, hrow1⟩ := hs
    obtain ⟨u0, u1, u2, u3, u4, g0, g1, g2, g3, g4⟩ := hS1.cells
    have HS1 := Lib.hid hS1
    have HR1 := Lib.hid hrow1
    have HB1 := Lib.hid (HB.out.trans hb1)
    clear hb1 hS1 hrow1
    go_wp2
    go_roundw
    case rel => exact ⟨j, f, v1, L ++ [x], hj.2, by simp; omega, by omega, HV.out, HS1.out, by simpa using HR1.out, HB1.out⟩
    case measure => rw [t1, u1]; simp [intOf]; omega
  ·have HV := Lib.hid (show splitS bs = .ok L by rw [← hF]; obtain ⟨f, rfl⟩ : ∃ f', f = f' + 1 := ⟨f - 1, by omega⟩; exact splitF_end (by omega))
   have hdl : ¬ (i : Int) < (bs.length : Int) := by omega
   have Hbr := Lib.hid hbr
   have HB := Lib.hid hB
   have HS := Lib.hid hS
   have Hrow := Lib.hid hrow
   have Hne := Lib.hid (blk_not_row hbr (by decide) hrow)
   clear hS hrow hB hbr hF
   go_wp2
   go_light
   rw [HV.out]
   refine bodyPost_ret (ret_split Tryz.results120 rfl rfl Hbr.out.set2) rfl ⟨v, rfl, below_set2 (HB0.out.trans (HB.out.mono (Nat.le_succ _))) (Nat.le_refl _) _ _, own_set (own_set (own_mono Hrow.out (Nat.le_succ _)) Hne.out) Hne.out⟩
theorem split_go (A : Option Addr) (cap : Nat) (bs : List Nat) (w : World) (hA : BytesAt w w.heap.size A bs) (hcap : bs.length ≤ cap) :
  Calls Tryz.prog 120 #[.slice A bs.length cap] w (Cuts (splitS bs) w) := by
 rcases Nat.eq_zero_or_pos bs.length with h0 | h0
 ·obtain rfl : bs = [] := List.length_eq_zero_iff.mp h0
  exact split_none A cap w
 rcases Nat.lt_or_ge 65536 bs.length with h | h
 ·exact split_long A cap bs w h hA.2.1
 obtain ⟨b, o, rfl, _, _⟩ := hA.2.2 h0
 exact split_some b o cap bs w hA hcap h h0
theorem own_room {w : World} {base size n : Nat} {e : TypeId} {v : Value} {xs : List Value} {a : Option Addr} {cap : Nat} (h : w.ownsRow base e size v n xs) (hv : v = .slice a n cap) : n ≤ cap := by
 rcases h.2 with ⟨rfl, h0⟩ | ⟨g', cap', cur, rfl, _, _, hc, _⟩
 ·have := (Value.slice.inj hv).2.1
  omega
 ·have := (Value.slice.inj hv).2.2
  omega
theorem LexRow.at {w : World} {A : Option Addr} {cap : Nat} {L : List Lex} (h : LexRow w (.slice A L.length cap) L) : LexsAt w w.heap.size A L := fun hl => by
 obtain ⟨A', cap', hv, hc⟩ := h
 obtain ⟨rfl, _⟩ : A = A' ∧ cap = cap' := ⟨(Value.slice.inj hv).1, (Value.slice.inj hv).2.2⟩
 obtain ⟨x, hx⟩ : ∃ x, L[0]? = some x := ⟨_, List.getElem?_eq_getElem hl⟩
 obtain ⟨g, hg, c0, _⟩ := hc 0 x hx
 refine ⟨g, 0, hg, World.block_lt_of_cell? w _ c0, fun k y hy => ?_⟩
 obtain ⟨g', hg', d⟩ := hc k y hy
 obtain rfl : g = g' := by rw [hg] at hg'; simpa using hg'
 simpa using d
theorem one_leaf {x : Lex} (h : rightS x = true) (hk : x.kind = 1) : lexemesS [x] = .ok (leafN (maskOf x.set)) := by
 rw [lexemesS_ok (by simp [h]) (by simp)]
 have e : altG 6 [] [] [x] = .ok (leafN (maskOf x.set), []) := by
  have hp : piecesG 5 [] [] [x] = .ok ([leafN (maskOf x.set)], []) := by
   rw [piecesG_go (atomG_set hk)]
   exact piecesG_end (atomG_nil _ _)
  rw [altG_ok hp]
  rfl
 show (match altG 6 [] [] [x] with | .error e => Except.error e | .ok (x, _) => .ok x) = _
 rw [e]
theorem text_bad (A : Option Addr) (cap : Nat) (bs : List Nat) (w : World) (hA : BytesAt w w.heap.size A bs) (hcap : bs.length ≤ cap) {k q : Int} (hs : splitS bs = .error (k, q)) (hk : k ≠ 0) :
  Calls Tryz.prog 61 #[.slice A bs.length cap] w (TreeOut (parseS bs) w) := by
 have hd : (k != 0) = true := by rw [bne_iff_ne]; exact hk
 have HV := Lib.hid (show parseS bs = .error (k, q) by unfold parseS; rw [hs])
 have hb2 : Below w.heap.size w ((w.alloc (.cells #[.int .i64 0, .int .u64 0, .int .u64 0, .int .u64 0, .int .u64 0, .slice none 0 0, .int .i64 0, .int .i64 0] 28)).alloc (.cells #[.int .i64 0, .int .i64 0] 77)) := ((Below.refl _ _).alloc (Nat.le_refl _) _).alloc (by simp) _
 have HB2 := Lib.hid hb2
 have HG2 := Lib.hid (show Blk ((w.alloc (.cells #[.int .i64 0, .int .u64 0, .int .u64 0, .int .u64 0, .int .u64 0, .slice none 0 0, .int .i64 0, .int .i64 0] 28)).alloc (.cells #[.int .i64 0, .int .i64 0] 77)) w.heap.size 28 _ from (Blk.new w 28 #[.int .i64 0, .int .u64 0, .int .u64 0, .int .u64 0, .int .u64 0, .slice none 0 0, .int .i64 0, .int .i64 0]).alloc _)
 have HH2 := Lib.hid (show Blk ((w.alloc (.cells #[.int .i64 0, .int .u64 0, .int .u64 0, .int .u64 0, .int .u64 0, .slice none 0 0, .int .i64 0, .int .i64 0] 28)).alloc (.cells #[.int .i64 0, .int .i64 0] 77)) (w.heap.size + 1) 77 #[.int .i64 0, .int .i64 0] from Blk.new_at (by simp))
 have h1 := split_go A cap bs _ ((hA.below hb2).more (by simp; omega)) hcap
 rw [hs] at h1
 have H1 := Lib.hid h1
 clear hb2 hA hs h1 hk
 go_enter Tryz.func61, Tryz.ntmps61
 go_wp2_with fail
 refine H1.out.mono ?_
 rintro e w3 ⟨rfl, hb3⟩
 have HB3 := Lib.hid (HB2.out.trans (hb3.mono HB2.out.size))
 have hG3 := HG2.out.below hb3 HG2.out.lt
 have hH3 := HH2.out.below hb3 HH2.out.lt
 have HG3 := Lib.hid hG3
 have HH3 := Lib.hid hH3
 have hlt1 : w.heap.size < w3.heap.size := hG3.lt
 have hlt2 : w.heap.size + 1 < w3.heap.size := hH3.lt
 have hne1 : w.heap.size ≠ w3.heap.size := by omega
 have hne2 : w.heap.size + 1 ≠ w3.heap.size := by omega
 have y0 : w3.cell? ⟨w.heap.size, 0, none⟩ = some (.int .i64 0) := hG3.cell 0
 have y1 : w3.cell? ⟨w.heap.size, 1, none⟩ = some (.int .u64 0) := hG3.cell 1
 have y2 : w3.cell? ⟨w.heap.size, 2, none⟩ = some (.int .u64 0) := hG3.cell 2
 have y3 : w3.cell? ⟨w.heap.size, 3, none⟩ = some (.int .u64 0) := hG3.cell 3
 have y4 : w3.cell? ⟨w.heap.size, 4, none⟩ = some (.int .u64 0) := hG3.cell 4
 have y5 : w3.cell? ⟨w.heap.size, 5, none⟩ = some (.slice none 0 0) := hG3.cell 5
 have y6 : w3.cell? ⟨w.heap.size, 6, none⟩ = some (.int .i64 0) := hG3.cell 6
 have y7 : w3.cell? ⟨w.heap.size, 7, none⟩ = some (.int .i64 0) := hG3.cell 7
 have z0 := hG3.frozen 0
 have z1 := hG3.frozen 1
 have z2 := hG3.frozen 2
 have z3 := hG3.frozen 3
 have z4 := hG3.frozen 4
 have z5 := hG3.frozen 5
 have z6 := hG3.frozen 6
 have z7 := hG3.frozen 7
 obtain ⟨b0, b1, f0, f1⟩ := hH3.c2
 clear hb3 hG3 hH3 H1 HB2 HG2 HH2
 dsimp only
 go_wp2
 go_region
 all_goals go_wp2
 all_goals go_light
 rw [HV.out]
 exact bodyPost_ret (ret_tree Tryz.results61 rfl rfl (((HG3.out.put8 _ _ _ _ _ _ _ _).far2 (by omega) _ _).alloc _).drew (((HH3.out.past8 (by omega) _ _ _ _ _ _ _ _).set2).alloc _).drew) rfl ⟨rfl, ((below_set2 (below_put8 HB3.out (Nat.le_refl _) _ _ _ _ _ _ _ _) (by omega) _ _).alloc (by have := HB3.out.size; simpa [World.setCell] using this) _).drew⟩
theorem laid {n : Nat} {w w6 w7 : World} {x : Nd} {B : Option Addr} {cap : Nat} {k q : Int} (hG : Blk w6 n 28 #[.int .i64 0, .int .u64 0, .int .u64 0, .int .u64 0, .int .u64 0, .slice none 0 0, .int .i64 0, .int .i64 0]) (hH : Blk w6 (n + 1) 77 #[.int .i64 0, .int .i64 0]) (hB : Below n w w6) (hT : TreesAt w6 (fun b => n + 2 ≤ b) x.kids B)
  (hw : w7 = (((((((((w6.setCell ⟨n, 0, none⟩ (.int .i64 x.kind)).setCell ⟨n, 1, none⟩ (.int .u64 (word x.set.testBit 0))).setCell ⟨n, 2, none⟩ (.int .u64 (word x.set.testBit 1))).setCell ⟨n, 3, none⟩ (.int .u64 (word x.set.testBit 2))).setCell ⟨n, 4, none⟩ (.int .u64 (word x.set.testBit 3))).setCell ⟨n, 5, none⟩ (.slice B x.kids.len cap)).setCell ⟨n, 6, none⟩ (.int .i64 x.lo)).setCell ⟨n, 7, none⟩ (.int .i64 x.hi)).setCell ⟨n + 1, 0, none⟩ (.int .i64 k)).setCell ⟨n + 1, 1, none⟩ (.int .i64 q)) :
  Blk w7 n 28 (ndA x B cap) ∧ Blk w7 (n + 1) 77 #[.int .i64 k, .int .i64 q] ∧ Below n w w7 ∧ TreesAt w7 (fun b => n ≤ b) x.kids B := by
 have hg1 := only_put8 w6 n (.int .i64 x.kind) (.int .u64 (word x.set.testBit 0)) (.int .u64 (word x.set.testBit 1)) (.int .u64 (word x.set.testBit 2)) (.int .u64 (word x.set.testBit 3)) (.slice B x.kids.len cap) (.int .i64 x.lo) (.int .i64 x.hi)
 have ht7 := TreesAt.keep (Q := fun b => n + 2 ≤ b) (fun b o (hb : n + 2 ≤ b) hl => World.cell?_of_block (hg1.block b hl (by simp; omega))) (fun b hb _ => hb) hT
 have hg2 := only_set (only_set (only_refl ((((((((w6.setCell ⟨n, 0, none⟩ (.int .i64 x.kind)).setCell ⟨n, 1, none⟩ (.int .u64 (word x.set.testBit 0))).setCell ⟨n, 2, none⟩ (.int .u64 (word x.set.testBit 1))).setCell ⟨n, 3, none⟩ (.int .u64 (word x.set.testBit 2))).setCell ⟨n, 4, none⟩ (.int .u64 (word x.set.testBit 3))).setCell ⟨n, 5, none⟩ (.slice B x.kids.len cap)).setCell ⟨n, 6, none⟩ (.int .i64 x.lo)).setCell ⟨n, 7, none⟩ (.int .i64 x.hi)) (some (n + 1))) 0 (.int .i64 k)) 1 (.int .i64 q)
 have ht8 := TreesAt.keep (Q := fun b => n ≤ b) (fun b o (hb : n + 2 ≤ b) hl => World.cell?_of_block (hg2.block b hl (by simp; omega))) (fun b (hb : n + 2 ≤ b) _ => by omega) ht7
 have hG7 := (hG.put8 (.int .i64 x.kind) (.int .u64 (word x.set.testBit 0)) (.int .u64 (word x.set.testBit 1)) (.int .u64 (word x.set.testBit 2)) (.int .u64 (word x.set.testBit 3)) (.slice B x.kids.len cap) (.int .i64 x.lo) (.int .i64 x.hi)).far2 (g' := n + 1) (by omega) (.int .i64 k) (.int .i64 q)
 have hH7 := (hH.past8 (g' := n) (by omega) (.int .i64 x.kind) (.int .u64 (word x.set.testBit 0)) (.int .u64 (word x.set.testBit 1)) (.int .u64 (word x.set.testBit 2)) (.int .u64 (word x.set.testBit 3)) (.slice B x.kids.len cap) (.int .i64 x.lo) (.int .i64 x.hi)).set2 (a' := .int .i64 k) (b' := .int .i64 q)
 have hb7 := below_set2 (below_put8 hB (Nat.le_refl _) (.int .i64 x.kind) (.int .u64 (word x.set.testBit 0)) (.int .u64 (word x.set.testBit 1)) (.int .u64 (word x.set.testBit 2)) (.int .u64 (word x.set.testBit 3)) (.slice B x.kids.len cap) (.int .i64 x.lo) (.int .i64 x.hi)) (Nat.le_succ n) (.int .i64 k) (.int .i64 q)
 rw [hw]
 exact ⟨hG7, hH7, hb7, ht8⟩
theorem text_many (A : Option Addr) (cap : Nat) (bs : List Nat) (w : World) (hA : BytesAt w w.heap.size A bs) (hcap : bs.length ≤ cap) {L : List Lex} (hs : splitS bs = .ok L) (h1 : L.length ≠ 1) :
  Calls Tryz.prog 61 #[.slice A bs.length cap] w (TreeOut (parseS bs) w) := by
 have hd : ((L.length : Int) == 1) = false := by rw [beq_eq_false_iff_ne]; omega
 have hV : parseS bs = lexemesS L := by unfold parseS; rw [hs]
 clear h1
 cases hx : lexemesS L with
 | error x =>
  obtain ⟨k, q⟩ := x
  have HV := Lib.hid (hV.trans hx)
  have HX := Lib.hid hx
  clear hV hx
  have hL65 := (splitS_right hA.1 hs).2.2
  have hb2 : Below w.heap.size w ((w.alloc (.cells #[.int .i64 0, .int .u64 0, .int .u64 0, .int .u64 0, .int .u64 0, .slice none 0 0, .int .i64 0, .int .i64 0] 28)).alloc (.cells #[.int .i64 0, .int .i64 0] 77)) := ((Below.refl _ _).alloc (Nat.le_refl _) _).alloc (by simp) _
  have HB2 := Lib.hid hb2
  have HG2 := Lib.hid (show Blk ((w.alloc (.cells #[.int .i64 0, .int .u64 0, .int .u64 0, .int .u64 0, .int .u64 0, .slice none 0 0, .int .i64 0, .int .i64 0] 28)).alloc (.cells #[.int .i64 0, .int .i64 0] 77)) w.heap.size 28 _ from (Blk.new w 28 #[.int .i64 0, .int .u64 0, .int .u64 0, .int .u64 0, .int .u64 0, .slice none 0 0, .int .i64 0, .int .i64 0]).alloc _)
  have HH2 := Lib.hid (show Blk ((w.alloc (.cells #[.int .i64 0, .int .u64 0, .int .u64 0, .int .u64 0, .int .u64 0, .slice none 0 0, .int .i64 0, .int .i64 0] 28)).alloc (.cells #[.int .i64 0, .int .i64 0] 77)) (w.heap.size + 1) 77 #[.int .i64 0, .int .i64 0] from Blk.new_at (by simp))
  have h1 := split_go A cap bs _ ((hA.below hb2).more (by simp; omega)) hcap
  rw [hs] at h1
  have H1 := Lib.hid h1
  clear hb2 hA h1
  go_enter Tryz.func61, Tryz.ntmps61
  go_wp2_with fail
  refine H1.out.mono ?_
  rintro e w3 ⟨v, rfl, hb3, hrow3⟩
  obtain ⟨A3, cap3, rfl⟩ := own_slice hrow3
  have hb4 : Below w3.heap.size w3 (w3.alloc (.cells #[.int .i64 0, .int .i64 0] 77)) := (Below.refl _ _).alloc (Nat.le_refl _) _
  have HB4 := Lib.hid (HB2.out.trans ((hb3.trans (hb4.mono hb3.size)).mono HB2.out.size))
  have hG4 := (HG2.out.below hb3 HG2.out.lt).alloc (.cells #[.int .i64 0, .int .i64 0] 77)
  have hH4 := (HH2.out.below hb3 HH2.out.lt).alloc (.cells #[.int .i64 0, .int .i64 0] 77)
  have hc3 := own_room hrow3 rfl
  have HL4 := Lib.hid (((lexRow_of hrow3).at.below hb4).more hb4.size)
  have hsz4 : w.heap.size + 2 < (w3.alloc (.cells #[.int .i64 0, .int .i64 0] 77)).heap.size := by have := hb3.size; simp at this ⊢; omega
  have HG4 := Lib.hid hG4
  have HH4 := Lib.hid hH4
  clear hb3 hrow3 hb4 H1 HB2 HG2 HH2
  dsimp only
  skip
  have hP := lexemes_go _ cap3 L _ HL4.out (by omega) hc3
  rw [HX.out] at hP
  have HP := Lib.hid hP
  clear hP
  go_wp2_with fail
  refine HP.out.mono ?_
  rintro e w6 ⟨rfl, hb6⟩
  have hG6 := HG4.out.below hb6 HG4.out.lt
  have hH6 := HH4.out.below hb6 HH4.out.lt
  have HB6 := Lib.hid (HB4.out.trans (hb6.mono (by omega)))
  have y0 : w6.cell? ⟨w.heap.size, 0, none⟩ = some (.int .i64 0) := hG6.cell 0
  have y1 : w6.cell? ⟨w.heap.size, 1, none⟩ = some (.int .u64 0) := hG6.cell 1
  have y2 : w6.cell? ⟨w.heap.size, 2, none⟩ = some (.int .u64 0) := hG6.cell 2
  have y3 : w6.cell? ⟨w.heap.size, 3, none⟩ = some (.int .u64 0) := hG6.cell 3
  have y4 : w6.cell? ⟨w.heap.size, 4, none⟩ = some (.int .u64 0) := hG6.cell 4
  have y5 : w6.cell? ⟨w.heap.size, 5, none⟩ = some (.slice none 0 0) := hG6.cell 5
  have y6 : w6.cell? ⟨w.heap.size, 6, none⟩ = some (.int .i64 0) := hG6.cell 6
  have y7 : w6.cell? ⟨w.heap.size, 7, none⟩ = some (.int .i64 0) := hG6.cell 7
  have z0 := hG6.frozen 0
  have z1 := hG6.frozen 1
  have z2 := hG6.frozen 2
  have z3 := hG6.frozen 3
  have z4 := hG6.frozen 4
  have z5 := hG6.frozen 5
  have z6 := hG6.frozen 6
  have z7 := hG6.frozen 7
  obtain ⟨b0, b1, f0, f1⟩ := hH6.c2
  have HG6 := Lib.hid hG6
  have HH6 := Lib.hid hH6
  clear hb6 hG6 hH6 HP HG4 HH4 HB4 hG4 hH4
  unfold zeroN
  dsimp only
  go_wp2
  go_light
  rw [HV.out]
  exact bodyPost_ret (ret_tree Tryz.results61 rfl rfl ((HG6.out.put8 _ _ _ _ _ _ _ _).far2 (by omega) _ _) ((HH6.out.past8 (by omega) _ _ _ _ _ _ _ _).set2)) rfl ⟨rfl, below_set2 (below_put8 HB6.out (Nat.le_refl _) _ _ _ _ _ _ _ _) (by omega) _ _⟩
 | ok x =>
  have HV := Lib.hid (hV.trans hx)
  have HX := Lib.hid hx
  clear hV hx
  have hL65 := (splitS_right hA.1 hs).2.2
  have hb2 : Below w.heap.size w ((w.alloc (.cells #[.int .i64 0, .int .u64 0, .int .u64 0, .int .u64 0, .int .u64 0, .slice none 0 0, .int .i64 0, .int .i64 0] 28)).alloc (.cells #[.int .i64 0, .int .i64 0] 77)) := ((Below.refl _ _).alloc (Nat.le_refl _) _).alloc (by simp) _
  have HB2 := Lib.hid hb2
  have HG2 := Lib.hid (show Blk ((w.alloc (.cells #[.int .i64 0, .int .u64 0, .int .u64 0, .int .u64 0, .int .u64 0, .slice none 0 0, .int .i64 0, .int .i64 0] 28)).alloc (.cells #[.int .i64 0, .int .i64 0] 77)) w.heap.size 28 _ from (Blk.new w 28 #[.int .i64 0, .int .u64 0, .int .u64 0, .int .u64 0, .int .u64 0, .slice none 0 0, .int .i64 0, .int .i64 0]).alloc _)
  have HH2 := Lib.hid (show Blk ((w.alloc (.cells #[.int .i64 0, .int .u64 0, .int .u64 0, .int .u64 0, .int .u64 0, .slice none 0 0, .int .i64 0, .int .i64 0] 28)).alloc (.cells #[.int .i64 0, .int .i64 0] 77)) (w.heap.size + 1) 77 #[.int .i64 0, .int .i64 0] from Blk.new_at (by simp))
  have h1 := split_go A cap bs _ ((hA.below hb2).more (by simp; omega)) hcap
  rw [hs] at h1
  have H1 := Lib.hid h1
  clear hb2 hA h1
  go_enter Tryz.func61, Tryz.ntmps61
  go_wp2_with fail
  refine H1.out.mono ?_
  rintro e w3 ⟨v, rfl, hb3, hrow3⟩
  obtain ⟨A3, cap3, rfl⟩ := own_slice hrow3
  have hb4 : Below w3.heap.size w3 (w3.alloc (.cells #[.int .i64 0, .int .i64 0] 77)) := (Below.refl _ _).alloc (Nat.le_refl _) _
  have HB4 := Lib.hid (HB2.out.trans ((hb3.trans (hb4.mono hb3.size)).mono HB2.out.size))
  have hG4 := (HG2.out.below hb3 HG2.out.lt).alloc (.cells #[.int .i64 0, .int .i64 0] 77)
  have hH4 := (HH2.out.below hb3 HH2.out.lt).alloc (.cells #[.int .i64 0, .int .i64 0] 77)
  have hc3 := own_room hrow3 rfl
  have HL4 := Lib.hid (((lexRow_of hrow3).at.below hb4).more hb4.size)
  have hsz4 : w.heap.size + 2 < (w3.alloc (.cells #[.int .i64 0, .int .i64 0] 77)).heap.size := by have := hb3.size; simp at this ⊢; omega
  have HG4 := Lib.hid hG4
  have HH4 := Lib.hid hH4
  clear hb3 hrow3 hb4 H1 HB2 HG2 HH2
  dsimp only
  skip
  have hP := lexemes_go _ cap3 L _ HL4.out (by omega) hc3
  rw [HX.out] at hP
  have HP := Lib.hid hP
  clear hP
  go_wp2_with fail
  refine HP.out.mono ?_
  rintro e w6 ⟨B, cap6, rfl, hb6, hc6, ht6⟩
  have hG6 := HG4.out.below hb6 HG4.out.lt
  have hH6 := HH4.out.below hb6 HH4.out.lt
  have HB6 := Lib.hid (HB4.out.trans (hb6.mono (by omega)))
  have HT6 := Lib.hid (ht6.weak (Q := fun b => w.heap.size + 2 ≤ b) (fun b hb _ => by omega))
  have y0 : w6.cell? ⟨w.heap.size, 0, none⟩ = some (.int .i64 0) := hG6.cell 0
  have y1 : w6.cell? ⟨w.heap.size, 1, none⟩ = some (.int .u64 0) := hG6.cell 1
  have y2 : w6.cell? ⟨w.heap.size, 2, none⟩ = some (.int .u64 0) := hG6.cell 2
  have y3 : w6.cell? ⟨w.heap.size, 3, none⟩ = some (.int .u64 0) := hG6.cell 3
  have y4 : w6.cell? ⟨w.heap.size, 4, none⟩ = some (.int .u64 0) := hG6.cell 4
  have y5 : w6.cell? ⟨w.heap.size, 5, none⟩ = some (.slice none 0 0) := hG6.cell 5
  have y6 : w6.cell? ⟨w.heap.size, 6, none⟩ = some (.int .i64 0) := hG6.cell 6
  have y7 : w6.cell? ⟨w.heap.size, 7, none⟩ = some (.int .i64 0) := hG6.cell 7
  have z0 := hG6.frozen 0
  have z1 := hG6.frozen 1
  have z2 := hG6.frozen 2
  have z3 := hG6.frozen 3
  have z4 := hG6.frozen 4
  have z5 := hG6.frozen 5
  have z6 := hG6.frozen 6
  have z7 := hG6.frozen 7
  obtain ⟨b0, b1, f0, f1⟩ := hH6.c2
  have HG6 := Lib.hid hG6
  have HH6 := Lib.hid hH6
  clear hb6 ht6 hG6 hH6 HP HG4 HH4 HB4 hG4 hH4
  unfold ndV
  dsimp only
  go_wp2
  go_light
  have hF := laid (x := x) (B := B) (cap := cap6) (k := 0) (q := 0) HG6.out HH6.out HB6.out HT6.out rfl
  rw [HV.out]
  exact bodyPost_ret (ret_tree Tryz.results61 rfl rfl hF.1 hF.2.1) rfl ⟨B, cap6, rfl, hF.2.2.1, hc6, hF.2.2.2⟩
theorem text_sign (A : Option Addr) (cap : Nat) (bs : List Nat) (w : World) (hA : BytesAt w w.heap.size A bs) (hcap : bs.length ≤ cap) {y : Lex} (hs : splitS bs = .ok [y]) (h1 : y.kind ≠ 1) :
  Calls Tryz.prog 61 #[.slice A bs.length cap] w (TreeOut (parseS bs) w) := by
 obtain ⟨L, hL⟩ : ∃ L, L = [y] := ⟨_, rfl⟩
 have HLy := Lib.hid hL
 rw [← hL] at hs
 have hlen : L.length = 1 := by rw [hL]; rfl
 clear hL
 have hd : ((L.length : Int) == 1) = true := by rw [beq_iff_eq]; omega
 have hd0 : (0 : Int) < (L.length : Int) := by omega
 have hy : L[0]? = some y := by rw [HLy.out]; rfl
 have Hy := Lib.hid hy
 have hk : (y.kind == 1) = false := by simp; exact h1
 have hV : parseS bs = lexemesS L := by unfold parseS; rw [hs]
 clear h1 hlen hy
 cases hx : lexemesS L with
 | error x =>
  obtain ⟨k, q⟩ := x
  have HV := Lib.hid (hV.trans hx)
  have HX := Lib.hid hx
  clear hV hx
  have hL65 := (splitS_right hA.1 hs).2.2
  have hb2 : Below w.heap.size w ((w.alloc (.cells #[.int .i64 0, .int .u64 0, .int .u64 0, .int .u64 0, .int .u64 0, .slice none 0 0, .int .i64 0, .int .i64 0] 28)).alloc (.cells #[.int .i64 0, .int .i64 0] 77)) := ((Below.refl _ _).alloc (Nat.le_refl _) _).alloc (by simp) _
  have HB2 := Lib.hid hb2
  have HG2 := Lib.hid (show Blk ((w.alloc (.cells #[.int .i64 0, .int .u64 0, .int .u64 0, .int .u64 0, .int .u64 0, .slice none 0 0, .int .i64 0, .int .i64 0] 28)).alloc (.cells #[.int .i64 0, .int .i64 0] 77)) w.heap.size 28 _ from (Blk.new w 28 #[.int .i64 0, .int .u64 0, .int .u64 0, .int .u64 0, .int .u64 0, .slice none 0 0, .int .i64 0, .int .i64 0]).alloc _)
  have HH2 := Lib.hid (show Blk ((w.alloc (.cells #[.int .i64 0, .int .u64 0, .int .u64 0, .int .u64 0, .int .u64 0, .slice none 0 0, .int .i64 0, .int .i64 0] 28)).alloc (.cells #[.int .i64 0, .int .i64 0] 77)) (w.heap.size + 1) 77 #[.int .i64 0, .int .i64 0] from Blk.new_at (by simp))
  have h1 := split_go A cap bs _ ((hA.below hb2).more (by simp; omega)) hcap
  rw [hs] at h1
  have H1 := Lib.hid h1
  clear hb2 hA h1
  go_enter Tryz.func61, Tryz.ntmps61
  go_wp2_with fail
  refine H1.out.mono ?_
  rintro e w3 ⟨v, rfl, hb3, hrow3⟩
  obtain ⟨A3, cap3, rfl⟩ := own_slice hrow3
  have hb4 : Below w3.heap.size w3 (w3.alloc (.cells #[.int .i64 0, .int .i64 0] 77)) := (Below.refl _ _).alloc (Nat.le_refl _) _
  have HB4 := Lib.hid (HB2.out.trans ((hb3.trans (hb4.mono hb3.size)).mono HB2.out.size))
  have hG4 := (HG2.out.below hb3 HG2.out.lt).alloc (.cells #[.int .i64 0, .int .i64 0] 77)
  have hH4 := (HH2.out.below hb3 HH2.out.lt).alloc (.cells #[.int .i64 0, .int .i64 0] 77)
  have hc3 := own_room hrow3 rfl
  have HL4 := Lib.hid (((lexRow_of hrow3).at.below hb4).more hb4.size)
  have hsz4 : w.heap.size + 2 < (w3.alloc (.cells #[.int .i64 0, .int .i64 0] 77)).heap.size := by have := hb3.size; simp at this ⊢; omega
  have HG4 := Lib.hid hG4
  have HH4 := Lib.hid hH4
  clear hb3 hrow3 hb4 H1 HB2 HG2 HH2
  dsimp only
  obtain ⟨b4, o4, rfl, hbl4, hc4⟩ := HL4.out (by omega); obtain ⟨q0, _⟩ := hc4 0 y Hy.out; simp only [Nat.zero_mul, Nat.add_zero] at q0; clear hc4
  have hP := lexemes_go _ cap3 L _ HL4.out (by omega) hc3
  rw [HX.out] at hP
  have HP := Lib.hid hP
  clear hP
  go_wp2_with fail
  refine HP.out.mono ?_
  rintro e w6 ⟨rfl, hb6⟩
  have hG6 := HG4.out.below hb6 HG4.out.lt
  have hH6 := HH4.out.below hb6 HH4.out.lt
  have HB6 := Lib.hid (HB4.out.trans (hb6.mono (by omega)))
  have y0 : w6.cell? ⟨w.heap.size, 0, none⟩ = some (.int .i64 0) := hG6.cell 0
  have y1 : w6.cell? ⟨w.heap.size, 1, none⟩ = some (.int .u64 0) := hG6.cell 1
  have y2 : w6.cell? ⟨w.heap.size, 2, none⟩ = some (.int .u64 0) := hG6.cell 2
  have y3 : w6.cell? ⟨w.heap.size, 3, none⟩ = some (.int .u64 0) := hG6.cell 3
  have y4 : w6.cell? ⟨w.heap.size, 4, none⟩ = some (.int .u64 0) := hG6.cell 4
  have y5 : w6.cell? ⟨w.heap.size, 5, none⟩ = some (.slice none 0 0) := hG6.cell 5
  have y6 : w6.cell? ⟨w.heap.size, 6, none⟩ = some (.int .i64 0) := hG6.cell 6
  have y7 : w6.cell? ⟨w.heap.size, 7, none⟩ = some (.int .i64 0) := hG6.cell 7
  have z0 := hG6.frozen 0
  have z1 := hG6.frozen 1
  have z2 := hG6.frozen 2
  have z3 := hG6.frozen 3
  have z4 := hG6.frozen 4
  have z5 := hG6.frozen 5
  have z6 := hG6.frozen 6
  have z7 := hG6.frozen 7
  obtain ⟨b0, b1, f0, f1⟩ := hH6.c2
  have HG6 := Lib.hid hG6
  have HH6 := Lib.hid hH6
  clear hb6 hG6 hH6 HP HG4 HH4 HB4 hG4 hH4
  unfold zeroN
  dsimp only
  go_wp2
  go_light
  rw [HV.out]
  exact bodyPost_ret (ret_tree Tryz.results61 rfl rfl ((HG6.out.put8 _ _ _ _ _ _ _ _).far2 (by omega) _ _) ((HH6.out.past8 (by omega) _ _ _ _ _ _ _ _).set2)) rfl ⟨rfl, below_set2 (below_put8 HB6.out (Nat.le_refl _) _ _ _ _ _ _ _ _) (by omega) _ _⟩
 | ok x =>
  have HV := Lib.hid (hV.trans hx)
  have HX := Lib.hid hx
  clear hV hx
  have hL65 := (splitS_right hA.1 hs).2.2
  have hb2 : Below w.heap.size w ((w.alloc (.cells #[.int .i64 0, .int .u64 0, .int .u64 0, .int .u64 0, .int .u64 0, .slice none 0 0, .int .i64 0, .int .i64 0] 28)).alloc (.cells #[.int .i64 0, .int .i64 0] 77)) := ((Below.refl _ _).alloc (Nat.le_refl _) _).alloc (by simp) _
  have HB2 := Lib.hid hb2
  have HG2 := Lib.hid (show Blk ((w.alloc (.cells #[.int .i64 0, .int .u64 0, .int .u64 0, .int .u64 0, .int .u64 0, .slice none 0 0, .int .i64 0, .int .i64 0] 28)).alloc (.cells #[.int .i64 0, .int .i64 0] 77)) w.heap.size 28 _ from (Blk.new w 28 #[.int .i64 0, .int .u64 0, .int .u64 0, .int .u64 0, .int .u64 0, .slice none 0 0, .int .i64 0, .int .i64 0]).alloc _)
  have HH2 := Lib.hid (show Blk ((w.alloc (.cells #[.int .i64 0, .int .u64 0, .int .u64 0, .int .u64 0, .int .u64 0, .slice none 0 0, .int .i64 0, .int .i64 0] 28)).alloc (.cells #[.int .i64 0, .int .i64 0] 77)) (w.heap.size + 1) 77 #[.int .i64 0, .int .i64 0] from Blk.new_at (by simp))
  have h1 := split_go A cap bs _ ((hA.below hb2).more (by simp; omega)) hcap
  rw [hs] at h1
  have H1 := Lib.hid h1
  clear hb2 hA h1
  go_enter Tryz.func61, Tryz.ntmps61
  go_wp2_with fail
  refine H1.out.mono ?_
  rintro e w3 ⟨v, rfl, hb3, hrow3⟩
  obtain ⟨A3, cap3, rfl⟩ := own_slice hrow3
  have hb4 : Below w3.heap.size w3 (w3.alloc (.cells #[.int .i64 0, .int .i64 0] 77)) := (Below.refl _ _).alloc (Nat.le_refl _) _
  have HB4 := Lib.hid (HB2.out.trans ((hb3.trans (hb4.mono hb3.size)).mono HB2.out.size))
  have hG4 := (HG2.out.below hb3 HG2.out.lt).alloc (.cells #[.int .i64 0, .int .i64 0] 77)
  have hH4 := (HH2.out.below hb3 HH2.out.lt).alloc (.cells #[.int .i64 0, .int .i64 0] 77)
  have hc3 := own_room hrow3 rfl
  have HL4 := Lib.hid (((lexRow_of hrow3).at.below hb4).more hb4.size)
  have hsz4 : w.heap.size + 2 < (w3.alloc (.cells #[.int .i64 0, .int .i64 0] 77)).heap.size := by have := hb3.size; simp at this ⊢; omega
  have HG4 := Lib.hid hG4
  have HH4 := Lib.hid hH4
  clear hb3 hrow3 hb4 H1 HB2 HG2 HH2
  dsimp only
  obtain ⟨b4, o4, rfl, hbl4, hc4⟩ := HL4.out (by omega); obtain ⟨q0, _⟩ := hc4 0 y Hy.out; simp only [Nat.zero_mul, Nat.add_zero] at q0; clear hc4
  have hP := lexemes_go _ cap3 L _ HL4.out (by omega) hc3
  rw [HX.out] at hP
  have HP := Lib.hid hP
  clear hP
  go_wp2_with fail
  refine HP.out.mono ?_
  rintro e w6 ⟨B, cap6, rfl, hb6, hc6, ht6⟩
  have hG6 := HG4.out.below hb6 HG4.out.lt
  have hH6 := HH4.out.below hb6 HH4.out.lt
  have HB6 := Lib.hid (HB4.out.trans (hb6.mono (by omega)))
  have HT6 := Lib.hid (ht6.weak (Q := fun b => w.heap.size + 2 ≤ b) (fun b hb _ => by omega))
  have y0 : w6.cell? ⟨w.heap.size, 0, none⟩ = some (.int .i64 0) := hG6.cell 0
  have y1 : w6.cell? ⟨w.heap.size, 1, none⟩ = some (.int .u64 0) := hG6.cell 1
  have y2 : w6.cell? ⟨w.heap.size, 2, none⟩ = some (.int .u64 0) := hG6.cell 2
  have y3 : w6.cell? ⟨w.heap.size, 3, none⟩ = some (.int .u64 0) := hG6.cell 3
  have y4 : w6.cell? ⟨w.heap.size, 4, none⟩ = some (.int .u64 0) := hG6.cell 4
  have y5 : w6.cell? ⟨w.heap.size, 5, none⟩ = some (.slice none 0 0) := hG6.cell 5
  have y6 : w6.cell? ⟨w.heap.size, 6, none⟩ = some (.int .i64 0) := hG6.cell 6
  have y7 : w6.cell? ⟨w.heap.size, 7, none⟩ = some (.int .i64 0) := hG6.cell 7
  have z0 := hG6.frozen 0
  have z1 := hG6.frozen 1
  have z2 := hG6.frozen 2
  have z3 := hG6.frozen 3
  have z4 := hG6.frozen 4
  have z5 := hG6.frozen 5
  have z6 := hG6.frozen 6
  have z7 := hG6.frozen 7
  obtain ⟨b0, b1, f0, f1⟩ := hH6.c2
  have HG6 := Lib.hid hG6
  have HH6 := Lib.hid hH6
  clear hb6 ht6 hG6 hH6 HP HG4 HH4 HB4 hG4 hH4
  unfold ndV
  dsimp only
  go_wp2
  go_light
  have hF := laid (x := x) (B := B) (cap := cap6) (k := 0) (q := 0) HG6.out HH6.out HB6.out HT6.out rfl
  rw [HV.out]
  exact bodyPost_ret (ret_tree Tryz.results61 rfl rfl hF.1 hF.2.1) rfl ⟨B, cap6, rfl, hF.2.2.1, hc6, hF.2.2.2⟩
theorem text_set (A : Option Addr) (cap : Nat) (bs : List Nat) (w : World) (hA : BytesAt w w.heap.size A bs) (hcap : bs.length ≤ cap) {y : Lex} (hs : splitS bs = .ok [y]) (h1 : y.kind = 1) :
  Calls Tryz.prog 61 #[.slice A bs.length cap] w (TreeOut (parseS bs) w) := by
 have hr : rightS y = true := (splitS_right hA.1 hs).1 0 y rfl
 have hx := one_leaf hr h1
 have HV := Lib.hid (show parseS bs = .ok (leafN (maskOf y.set)) by unfold parseS; rw [hs]; exact hx)
 obtain ⟨L, hL⟩ : ∃ L, L = [y] := ⟨_, rfl⟩
 have HLy := Lib.hid hL
 rw [← hL] at hs hx
 have HX := Lib.hid hx
 have hlen : L.length = 1 := by rw [hL]; rfl
 clear hL
 have hd : ((L.length : Int) == 1) = true := by rw [beq_iff_eq]; omega
 have hd0 : (0 : Int) < (L.length : Int) := by omega
 have hy : L[0]? = some y := by rw [HLy.out]; rfl
 have Hy := Lib.hid hy
 clear hlen hy hr hx
 have hL65 := (splitS_right hA.1 hs).2.2
 have hb2 : Below w.heap.size w ((w.alloc (.cells #[.int .i64 0, .int .u64 0, .int .u64 0, .int .u64 0, .int .u64 0, .slice none 0 0, .int .i64 0, .int .i64 0] 28)).alloc (.cells #[.int .i64 0, .int .i64 0] 77)) := ((Below.refl _ _).alloc (Nat.le_refl _) _).alloc (by simp) _
 have HB2 := Lib.hid hb2
 have HG2 := Lib.hid (show Blk ((w.alloc (.cells #[.int .i64 0, .int .u64 0, .int .u64 0, .int .u64 0, .int .u64 0, .slice none 0 0, .int .i64 0, .int .i64 0] 28)).alloc (.cells #[.int .i64 0, .int .i64 0] 77)) w.heap.size 28 _ from (Blk.new w 28 #[.int .i64 0, .int .u64 0, .int .u64 0, .int .u64 0, .int .u64 0, .slice none 0 0, .int .i64 0, .int .i64 0]).alloc _)
 have HH2 := Lib.hid (show Blk ((w.alloc (.cells #[.int .i64 0, .int .u64 0, .int .u64 0, .int .u64 0, .int .u64 0, .slice none 0 0, .int .i64 0, .int .i64 0] 28)).alloc (.cells #[.int .i64 0, .int .i64 0] 77)) (w.heap.size + 1) 77 #[.int .i64 0, .int .i64 0] from Blk.new_at (by simp))
 have h1 := split_go A cap bs _ ((hA.below hb2).more (by simp; omega)) hcap
 rw [hs] at h1
 have H1 := Lib.hid h1
 clear hb2 hA h1
 go_enter Tryz.func61, Tryz.ntmps61
 go_wp2_with fail
 refine H1.out.mono ?_
 rintro e w3 ⟨v, rfl, hb3, hrow3⟩
 obtain ⟨A3, cap3, rfl⟩ := own_slice hrow3
 have hb4 : Below w3.heap.size w3 (w3.alloc (.cells #[.int .i64 0, .int .i64 0] 77)) := (Below.refl _ _).alloc (Nat.le_refl _) _
 have HB4 := Lib.hid (HB2.out.trans ((hb3.trans (hb4.mono hb3.size)).mono HB2.out.size))
 have hG4 := (HG2.out.below hb3 HG2.out.lt).alloc (.cells #[.int .i64 0, .int .i64 0] 77)
 have hH4 := (HH2.out.below hb3 HH2.out.lt).alloc (.cells #[.int .i64 0, .int .i64 0] 77)
 have hc3 := own_room hrow3 rfl
 have HL4 := Lib.hid (((lexRow_of hrow3).at.below hb4).more hb4.size)
 have hsz4 : w.heap.size + 2 < (w3.alloc (.cells #[.int .i64 0, .int .i64 0] 77)).heap.size := by have := hb3.size; simp at this ⊢; omega
 have HG4 := Lib.hid hG4
 have HH4 := Lib.hid hH4
 clear hb3 hrow3 hb4 H1 HB2 HG2 HH2
 dsimp only
 obtain ⟨b4, o4, rfl, hbl4, hc4⟩ := HL4.out (by omega)
 obtain ⟨q0, _, q2, q3, q4, q5, _⟩ := hc4 0 y Hy.out
 simp only [Nat.zero_mul, Nat.add_zero] at q0 q2 q3 q4 q5
 rw [h1] at q0
 have q3' : (w3.alloc (.cells #[.int .i64 0, .int .i64 0] 77)).cell? ⟨b4, o4 + 2 + 1, none⟩ = some (.int .u64 (word y.set 1)) := q3
 have q4' : (w3.alloc (.cells #[.int .i64 0, .int .i64 0] 77)).cell? ⟨b4, o4 + 2 + 2, none⟩ = some (.int .u64 (word y.set 2)) := q4
 have q5' : (w3.alloc (.cells #[.int .i64 0, .int .i64 0] 77)).cell? ⟨b4, o4 + 2 + 3, none⟩ = some (.int .u64 (word y.set 3)) := q5
 clear hc4 hG4 hH4
 go_wp2_with fail
 refine (count_go y.set _).mono ?_
 rintro e w5 ⟨rfl, hb5⟩
 have hG5 := HG4.out.below hb5 HG4.out.lt
 have hH5 := HH4.out.below hb5 HH4.out.lt
 have HB5 := Lib.hid (HB4.out.trans (hb5.mono (by omega)))
 have HL5 := Lib.hid ((HL4.out.below hb5).more hb5.size)
 have hsz5 := hb5.size
 have q2 := (hb5.cell (p := ⟨b4, o4 + 2, none⟩) hbl4).trans q2
 have q3' := (hb5.cell (p := ⟨b4, o4 + 2 + 1, none⟩) hbl4).trans q3'
 have q4' := (hb5.cell (p := ⟨b4, o4 + 2 + 2, none⟩) hbl4).trans q4'
 have q5' := (hb5.cell (p := ⟨b4, o4 + 2 + 3, none⟩) hbl4).trans q5'
 have HG5 := Lib.hid hG5
 have HH5 := Lib.hid hH5
 clear hb5 hG5 hH5 HB4 HG4 HH4 HL4 q0
 dsimp only
 by_cases hcn : cnt y.set 256 = 1
 ·rw [hcn]
  clear hcn
  go_wp2_with fail
  refine (tbytes_any y.set _).mono ?_
  rintro e w6 ⟨rfl, hb6⟩
  have hG6 := HG5.out.below hb6 HG5.out.lt
  have hH6 := HH5.out.below hb6 HH5.out.lt
  have HB6 := Lib.hid (HB5.out.trans (hb6.mono (by omega)))
  have HT6 : Hid (TreesAt w6 (fun b => w.heap.size + 2 ≤ b) (leafN (maskOf y.set)).kids none) := Lib.hid trivial
  have y0 : w6.cell? ⟨w.heap.size, 0, none⟩ = some (.int .i64 0) := hG6.cell 0
  have y1 : w6.cell? ⟨w.heap.size, 1, none⟩ = some (.int .u64 0) := hG6.cell 1
  have y2 : w6.cell? ⟨w.heap.size, 2, none⟩ = some (.int .u64 0) := hG6.cell 2
  have y3 : w6.cell? ⟨w.heap.size, 3, none⟩ = some (.int .u64 0) := hG6.cell 3
  have y4 : w6.cell? ⟨w.heap.size, 4, none⟩ = some (.int .u64 0) := hG6.cell 4
  have y5 : w6.cell? ⟨w.heap.size, 5, none⟩ = some (.slice none 0 0) := hG6.cell 5
  have y6 : w6.cell? ⟨w.heap.size, 6, none⟩ = some (.int .i64 0) := hG6.cell 6
  have y7 : w6.cell? ⟨w.heap.size, 7, none⟩ = some (.int .i64 0) := hG6.cell 7
  have z0 := hG6.frozen 0
  have z1 := hG6.frozen 1
  have z2 := hG6.frozen 2
  have z3 := hG6.frozen 3
  have z4 := hG6.frozen 4
  have z5 := hG6.frozen 5
  have z6 := hG6.frozen 6
  have z7 := hG6.frozen 7
  obtain ⟨b0, b1, f0, f1⟩ := hH6.c2
  have HG6 := Lib.hid hG6
  have HH6 := Lib.hid hH6
  clear hb6 hG6 hH6 HG5 HH5 HB5
  have hv3 : ndV (leafN (maskOf y.set)) none 0 = .agg #[.int .i64 3, .int .u64 ((word ((maskOf y.set).testBit) 0 : Nat) : Int), .int .u64 ((word ((maskOf y.set).testBit) 1 : Nat) : Int), .int .u64 ((word ((maskOf y.set).testBit) 2 : Nat) : Int), .int .u64 ((word ((maskOf y.set).testBit) 3 : Nat) : Int), .slice none 0 0, .int .i64 0, .int .i64 0] := rfl
  rw [hv3]
  clear hv3
  dsimp only
  go_wp2
  go_light
  have hF := laid (x := leafN (maskOf y.set)) (B := none) (cap := 0) (k := 0) (q := 0) HG6.out HH6.out HB6.out HT6.out rfl
  rw [HV.out]
  exact bodyPost_ret (ret_tree Tryz.results61 rfl rfl hF.1 hF.2.1) rfl ⟨none, 0, rfl, hF.2.2.1, Nat.le_refl _, hF.2.2.2⟩
 ·have hd2 : (((cnt y.set 256 : Nat) : Int) == 1) = false := by rw [beq_eq_false_iff_ne]; omega
  clear hcn
  have hP := lexemes_go _ cap3 L _ HL5.out (by omega) hc3
  rw [HX.out] at hP
  have HP := Lib.hid hP
  clear hP
  go_wp2_with fail
  refine HP.out.mono ?_
  rintro e w6 ⟨B, cap6, rfl, hb6, hc6, ht6⟩
  have hG6 := HG5.out.below hb6 HG5.out.lt
  have hH6 := HH5.out.below hb6 HH5.out.lt
  have HB6 := Lib.hid (HB5.out.trans (hb6.mono (by omega)))
  have HT6 := Lib.hid (ht6.weak (Q := fun b => w.heap.size + 2 ≤ b) (fun b hb _ => by omega))
  have y0 : w6.cell? ⟨w.heap.size, 0, none⟩ = some (.int .i64 0) := hG6.cell 0
  have y1 : w6.cell? ⟨w.heap.size, 1, none⟩ = some (.int .u64 0) := hG6.cell 1
  have y2 : w6.cell? ⟨w.heap.size, 2, none⟩ = some (.int .u64 0) := hG6.cell 2
  have y3 : w6.cell? ⟨w.heap.size, 3, none⟩ = some (.int .u64 0) := hG6.cell 3
  have y4 : w6.cell? ⟨w.heap.size, 4, none⟩ = some (.int .u64 0) := hG6.cell 4
  have y5 : w6.cell? ⟨w.heap.size, 5, none⟩ = some (.slice none 0 0) := hG6.cell 5
  have y6 : w6.cell? ⟨w.heap.size, 6, none⟩ = some (.int .i64 0) := hG6.cell 6
  have y7 : w6.cell? ⟨w.heap.size, 7, none⟩ = some (.int .i64 0) := hG6.cell 7
  have z0 := hG6.frozen 0
  have z1 := hG6.frozen 1
  have z2 := hG6.frozen 2
  have z3 := hG6.frozen 3
  have z4 := hG6.frozen 4
  have z5 := hG6.frozen 5
  have z6 := hG6.frozen 6
  have z7 := hG6.frozen 7
  obtain ⟨b0, b1, f0, f1⟩ := hH6.c2
  have HG6 := Lib.hid hG6
  have HH6 := Lib.hid hH6
  clear hb6 ht6 hG6 hH6 HP HG5 HH5 HB5
  unfold ndV
  dsimp only
  go_wp2
  go_light
  have hF := laid (x := leafN (maskOf y.set)) (B := B) (cap := cap6) (k := 0) (q := 0) HG6.out HH6.out HB6.out HT6.out rfl
  rw [HV.out]
  exact bodyPost_ret (ret_tree Tryz.results61 rfl rfl hF.1 hF.2.1) rfl ⟨B, cap6, rfl, hF.2.2.1, hc6, hF.2.2.2⟩
theorem splitF_kind {bs : List Nat} (hb : ∀ x ∈ bs, x < 256) : ∀ {f i : Nat} {L : List Lex} {k q : Int}, bs.length < f + i → i ≤ bs.length → splitF bs f i L = .error (k, q) → k ≠ 0
 | 0, i, L, k, q, hf, hi, h => by omega
 | f + 1, i, L, k, q, hf, hi, h => by
  rcases Nat.lt_or_ge i bs.length with h1 | h1
  ·cases hx : lexS bs i with
   | error e =>
    obtain ⟨a, b⟩ := e
    rw [splitF_bad h1 hx] at h
    cases h
    exact lexS_err hb hx
   | ok x =>
    obtain ⟨x, j⟩ := x
    have hj := lexS_some hb h1 hx
    rw [splitF_ok h1 hx] at h
    exact splitF_kind hb (by omega) hj.2 h
  ·rw [splitF_end h1] at h; cases h
theorem splitS_kind {bs : List Nat} (hb : ∀ x ∈ bs, x < 256) {k q : Int} (h : splitS bs = .error (k, q)) : k ≠ 0 := by
 rcases Nat.lt_or_ge 65536 bs.length with h1 | h1
 ·rw [splitS_long h1] at h
  cases h
  decide
 ·rw [splitS_go h1] at h
  exact splitF_kind hb (by omega) (Nat.zero_le _) h
theorem text_go07 (A : Option Addr) (cap : Nat) (bs : List Nat) (w : World) (hA : BytesAt w w.heap.size A bs) (hcap : bs.length ≤ cap) :
  Calls Tryz.prog 61 #[.slice A bs.length cap] w (TreeOut (parseS bs) w) := by
 cases hs : splitS bs with
 | error x =>
  obtain ⟨k, q⟩ := x
  exact text_bad A cap bs w hA hcap hs (splitS_kind hA.1 hs)
 | ok L =>
  by_cases h1 : L.length = 1
  ·obtain ⟨y, rfl⟩ := List.length_eq_one_iff.1 h1
   by_cases hk : y.kind = 1
   ·exact text_set A cap bs w hA hcap hs hk
   ·exact text_sign A cap bs w hA hcap hs hk
  ·exact text_many A cap bs w hA hcap hs h1
end
section
theorem wrongS_kindK : ∀ (L : List Lex) (op : List Int) (p : Bool) {k q : Int}, wrongS op p L = some (k, q) → k ≠ 0
 | [], [], p, k, q, h => by rw [wrongS] at h; cases h
 | [], x :: op, p, k, q, h => by
  rw [wrongS] at h
  cases h
  decide
 | y :: L, op, p, k, q, h => by
  unfold wrongS at h
  split at h
  ·exact wrongS_kindK L _ _ h
  split at h
  ·split at h
   ·cases h; decide
   ·exact wrongS_kindK L _ _ h
  split at h
  ·split at h
   ·cases h; decide
   ·exact wrongS_kindK L _ _ h
  split at h
  ·exact wrongS_kindK L _ _ h
  split at h
  ·cases h; decide
  ·exact wrongS_kindK L _ _ h
theorem lexemesS_kindK {L : List Lex} {k q : Int} (h : lexemesS L = .error (k, q)) : k ≠ 0 := by
 unfold lexemesS at h
 split at h
 ·simp at h; omega
 rename_i hall
 split at h
 ·have h1 := Except.error.inj h
  simp at h1
  omega
 ·have hk : Kinds L := fun y hy => by
   have h1 : rightS y = true := by
    have : L.all rightS = true := by simpa using hall
    exact List.all_eq_true.1 this y hy
   have := rightS_cases h1
   omega
  have hw := read_wrong L hk
  split at h
  ·rename_i e he
   rw [he] at hw
   have h1 := Except.error.inj h
   subst h1
   exact wrongS_kindK L [] false hw
  ·cases h
end
section
open Go.RowKit
theorem lexs_own {w : World} {base : Nat} {v : Value} {L : List Lex} (h : w.ownsRow base 143 8 v L.length (lexCells L)) : ∃ A cap, v = .slice A L.length cap ∧ L.length ≤ cap ∧ LexsAt w w.heap.size A L := by
 obtain ⟨A, cap, rfl⟩ := own_slice h
 refine ⟨A, cap, rfl, ?_, (lexRow_of h).at⟩
 rcases h.2 with ⟨_, h0⟩ | ⟨g, cap', cur, hv, _, _, hle, _⟩
 ·omega
 ·cases hv; exact hle
def LexsOut (r : Except Int (List Lex)) (w : World) (e : Ending) (w' : World) : Prop := Below w.heap.size w w' ∧ match r with
 | .error k => e = .returned (.tuple #[.slice none 0 0, .int .i64 k])
 | .ok L => ∃ v, e = .returned (.tuple #[v, .int .i64 0]) ∧ w'.ownsRow w.heap.size 143 8 v L.length (lexCells L)
theorem lexsS_no {x : Nd} (h : rightT x = false) : lexsS x = .error 6 := by unfold lexsS; rw [if_pos h]
theorem lexsS_bad {x : Nd} (h : rightT x = true) {e : Wrong} (he : lexemesS x.write = .error e) : lexsS x = .error 4 := by unfold lexsS; rw [if_neg (by rw [h]; decide), he]
theorem lexsS_ok {x z : Nd} (h : rightT x = true) (he : lexemesS x.write = .ok z) : lexsS x = .ok x.write := by unfold lexsS; rw [if_neg (by rw [h]; decide), he]
theorem write_small {x : Nd} (h : rightT x = true) : x.write.length ≤ 24576 := by
 have := x.write_len
 have := rightT_size h
 omega
theorem TreeOut.any (r : Except Wrong Nd) : ∃ (z : Nd) (k q : Int), (k = 0 ↔ ∃ z, r = .ok z) ∧ ∀ w e w', (∀ k' q', r = .error (k', q') → k' ≠ 0) → TreeOut r w e w' → ∃ B cap, e = .returned (.tuple #[ndV z B cap, .agg #[.int .i64 k, .int .i64 q]]) ∧ Below w.heap.size w w' := by
 cases r with
 | error e =>
  obtain ⟨k, q⟩ := e
  by_cases hk : k = 0
  ·refine ⟨⟨0, 0, .nil, 0, 0⟩, 1, q, by simp, fun w e w' hn _ => absurd hk (hn k q rfl)⟩
  ·refine ⟨⟨0, 0, .nil, 0, 0⟩, k, q, by simp [hk], fun w e w' _ h => ⟨none, 0, ?_, h.2⟩⟩
   rw [h.1]
   rfl
 | ok z => exact ⟨z, 0, 0, by simp, fun w e w' _ ⟨B, cap, he, hb, _⟩ => ⟨B, cap, he, hb⟩⟩
theorem slexs_go (x : Nd) (B : Option Addr) (cap : Nat) (w : World) (hs : x.size ≤ 4611686018427387903) (ht : TreesAt w (fun b => b < w.heap.size) x.kids B) :
  Calls Tryz.prog 124 #[ndV x B cap] w (LexsOut (lexsS x) w) := by
 have HR := Lib.hid (tright_any x B cap (w.alloc (.cells #[.int .i64 x.kind, .int .u64 (word x.set.testBit 0), .int .u64 (word x.set.testBit 1), .int .u64 (word x.set.testBit 2), .int .u64 (word x.set.testBit 3), .slice B x.kids.len cap, .int .i64 x.lo, .int .i64 x.hi] 28)) hs ((ht.below ((Below.refl _ _).alloc (Nat.le_refl _) _)).weak (fun b h _ => by simp; omega)))
 have HX := Lib.hid (Blk.new w 28 #[.int .i64 x.kind, .int .u64 (word x.set.testBit 0), .int .u64 (word x.set.testBit 1), .int .u64 (word x.set.testBit 2), .int .u64 (word x.set.testBit 3), .slice B x.kids.len cap, .int .i64 x.lo, .int .i64 x.hi])
 have HB := Lib.hid ((Below.refl w.heap.size w).alloc (Nat.le_refl _) (.cells #[.int .i64 x.kind, .int .u64 (word x.set.testBit 0), .int .u64 (word x.set.testBit 1), .int .u64 (word x.set.testBit 2), .int .u64 (word x.set.testBit 3), .slice B x.kids.len cap, .int .i64 x.lo, .int .i64 x.hi] 28))
 have HT := Lib.hid ht
 unfold ndV at HR ⊢
 clear ht
 go_enter Tryz.func124, Tryz.ntmps124
 go_wp2_with fail
 refine HR.out.mono ?_
 rintro e w2 ⟨rfl, hb2⟩
 have hX := HX.out.below hb2 HX.out.lt
 have HB2 := Lib.hid (HB.out.trans (hb2.mono HB.out.size))
 clear hb2 HR HX HB
 dsimp only
 cases hr : rightT x with
 | false =>
  have HV := Lib.hid (lexsS_no hr)
  clear hr
  go_wp2
  go_light
  go_ret2
  rw [HV.out]
  exact ⟨HB2.out, rfl⟩
 | true =>
  have hsz := HB2.out.size
  have hX3 := hX.alloc (.cells #[.slice none 0 0] 181)
  have hne : ¬ w.heap.size = w2.heap.size := by have := hX.lt; omega
  have hwr : WrAt (w2.alloc (.cells #[.slice none 0 0] 181)) w.heap.size w2.heap.size (fun b => b = w2.heap.size) [] := ⟨fun b hb => by subst hb; exact ⟨hsz, by simp⟩, rfl, .slice none 0 0, Blk.new w2 _ _, World.ownsRow_nil _ _ _ _, fun b h => by simp [Value.ownBlock] at h⟩
  have hW := write_go hr B cap w.heap.size w2.heap.size (fun b => b = w2.heap.size) [] (w2.alloc (.cells #[.slice none 0 0] 181)) ((((HT.out.below HB2.out).below ((Below.refl _ _).alloc (Nat.le_refl _) _))).weak (fun b h _ e => by omega)) hwr (by rw [World.size_alloc]; omega) (by have := write_small hr; simp; omega)
  rw [List.nil_append] at hW
  have HB3 := Lib.hid (HB2.out.alloc hsz (.cells #[.slice none 0 0] 181))
  have HW := Lib.hid hW
  unfold ndV at HW
  have HHR := Lib.hid hr
  have n0 := (hX3).cell 0
  have n1 := (hX3).cell 1
  have n2 := (hX3).cell 2
  have n3 := (hX3).cell 3
  have n4 := (hX3).cell 4
  have n5 := (hX3).cell 5
  have n6 := (hX3).cell 6
  have n7 := (hX3).cell 7
  have hlx := (hX3).lt
  simp only [List.getElem?_toArray, List.getElem?_cons_zero, List.getElem?_cons_succ] at n0 n1 n2 n3 n4 n5 n6 n7
  have HX3 := Lib.hid hX3
  clear hX hX3 hwr hW hr
  go_wp2_with fail
  refine HW.out.mono ?_
  rintro e w4 ⟨rfl, S4, hm4, hv4⟩
  obtain ⟨h0, hg, v, hG, hR4, h3⟩ := hm4
  obtain ⟨A, cv, rfl, hcv, hat⟩ := lexs_own hR4
  have s0 := hG.cell 0
  have hlg := hG.lt
  simp only [List.getElem?_toArray, List.getElem?_cons_zero] at s0
  have HB4 := Lib.hid (HB3.out.trans (hv4.below.mono (by omega)))
  have hkk : ∀ k' q', lexemesS x.write = .error (k', q') → k' ≠ 0 := fun k' q' h => lexemesS_kindK h
  obtain ⟨z, k, q, hk0, hany⟩ := TreeOut.any (lexemesS x.write)
  have HC := Lib.hid (Calls.mono (lexemes_go A cv x.write w4 hat (by have := write_small HHR.out; omega) hcv) (R' := fun e w' => ∃ B cap, e = .returned (.tuple #[ndV z B cap, .agg #[.int .i64 k, .int .i64 q]]) ∧ Below w4.heap.size w4 w') (fun e w' h => hany w4 e w' hkk h))
  have HK0 := Lib.hid hk0
  have HR4 := Lib.hid hR4
  have HGG := Lib.hid hG
  clear h0 h3 hG hR4 hat hany hkk hv4 hk0 HW HX3 n0 n1 n2 n3 n4 n5 n6 n7 hlx
  dsimp only
  go_wp2_with fail
  refine HC.out.mono ?_
  rintro e w5 ⟨B5, cap5, rfl, hb5⟩
  have hG5 := HGG.out.below hb5 HGG.out.lt
  have s5 := hG5.cell 0
  have hlg5 := hG5.lt
  simp only [List.getElem?_toArray, List.getElem?_cons_zero] at s5
  have HB5 := Lib.hid (HB4.out.trans (hb5.mono HB4.out.size))
  have HR5 := Lib.hid (own_below HR4.out hb5)
  clear hb5 hG5 HC s0 hlg HGG
  unfold ndV
  dsimp only
  by_cases hk : k = 0
  ·obtain ⟨u, hu⟩ := HK0.out.1 hk
   have HV := Lib.hid (lexsS_ok HHR.out hu)
   clear hu HK0
   subst hk
   go_wp2
   go_light
   go_ret2
   rw [HV.out]
   exact ⟨(HB5.out.alloc HB5.out.size _).alloc (by have := HB5.out.size; simp; omega) _, _, rfl, (HR5.out.alloc _).alloc _⟩
  ·have HV := Lib.hid (show lexsS x = .error 4 by
    cases h : lexemesS x.write with
    | error e => exact lexsS_bad HHR.out h
    | ok z => exact absurd (HK0.out.2 ⟨z, h⟩) hk)
   have hkn : (k != 0) = true := by simpa using hk
   clear HK0 hk
   go_wp2
   go_light
   go_ret2
   rw [HV.out]
   exact ⟨(HB5.out.alloc HB5.out.size _).alloc (by have := HB5.out.size; simp; omega) _, rfl⟩
def txtV (r : Except Int (List Nat)) : Value := match r with
 | .error k => .tuple #[.string ⟨#[]⟩, .int .i64 k]
 | .ok t => .tuple #[.string (strOf t), .int .i64 0]
theorem showT_err {x : Nd} {k : Int} (h : lexsS x = .error k) : showT x = .error k := by unfold showT; rw [h]
theorem showT_long {x : Nd} {L : List Lex} (h : lexsS x = .ok L) (hl : 65536 < (joinS L).length) : showT x = .error 4 := by unfold showT; rw [h]; exact if_pos hl
theorem showT_ok {x : Nd} {L : List Lex} (h : lexsS x = .ok L) (hl : ¬ 65536 < (joinS L).length) : showT x = .ok (joinS L) := by unfold showT; rw [h]; exact if_neg hl
theorem lexsS_form {x : Nd} {L : List Lex} (h : lexsS x = .ok L) : L.all rightS = true ∧ L.length ≤ 24576 ∧ rightT x = true ∧ L = x.write := by
 unfold lexsS at h
 split at h
 ·cases h
 ·rename_i hr
  have hr' : rightT x = true := by simpa using hr
  split at h
  ·cases h
  ·cases h
   exact ⟨write_right hr', write_small hr', hr', rfl⟩
theorem lexsS_kind {x : Nd} {k : Int} (h : lexsS x = .error k) : k ≠ 0 := by
 unfold lexsS at h
 split at h
 ·cases h; decide
 ·split at h
  ·cases h; decide
  ·cases h
theorem stext_go (x : Nd) (B : Option Addr) (cap : Nat) (w : World) (hs : x.size ≤ 4611686018427387903) (ht : TreesAt w (fun b => b < w.heap.size) x.kids B) (hT : TabAt 0 Lib.deBruijn64tab w) (hw0 : 0 < w.heap.size) :
  Calls Tryz.prog 62 #[ndV x B cap] w fun e w' => e = .returned (txtV (showT x)) ∧ Below w.heap.size w w' := by
 have HR := Lib.hid (slexs_go x B cap (w.alloc (.cells #[.int .i64 x.kind, .int .u64 (word x.set.testBit 0), .int .u64 (word x.set.testBit 1), .int .u64 (word x.set.testBit 2), .int .u64 (word x.set.testBit 3), .slice B x.kids.len cap, .int .i64 x.lo, .int .i64 x.hi] 28)) hs ((ht.below ((Below.refl _ _).alloc (Nat.le_refl _) _)).weak (fun b h _ => by simp; omega)))
 have HB := Lib.hid ((Below.refl w.heap.size w).alloc (Nat.le_refl _) (.cells #[.int .i64 x.kind, .int .u64 (word x.set.testBit 0), .int .u64 (word x.set.testBit 1), .int .u64 (word x.set.testBit 2), .int .u64 (word x.set.testBit 3), .slice B x.kids.len cap, .int .i64 x.lo, .int .i64 x.hi] 28))
 have HTB := Lib.hid hT
 unfold ndV at HR ⊢
 clear ht hT
 go_enter Tryz.func62, Tryz.ntmps62
 go_wp2_with fail
 refine HR.out.mono ?_
 rintro e w2 ⟨hb2, hr⟩
 have HB2 := Lib.hid (HB.out.trans (hb2.mono HB.out.size))
 clear hb2 HR HB
 cases hl : lexsS x with
 | error k =>
  rw [hl] at hr
  simp only at hr
  subst hr
  have HV := Lib.hid (showT_err hl)
  have hkn : (k != 0) = true := by have := lexsS_kind hl; simpa using this
  clear hl
  dsimp only
  go_wp2
  go_light
  go_ret2
  rw [HV.out]
  exact ⟨rfl, HB2.out⟩
 | ok L =>
  rw [hl] at hr
  simp only at hr
  obtain ⟨v, rfl, hR2⟩ := hr
  obtain ⟨A, cv, rfl, hcv, hat⟩ := lexs_own hR2
  have hf := lexsS_form hl
  have hjv := joinV_ok (L := L) (fun k y hy => List.all_eq_true.1 hf.1 y (List.mem_of_getElem? hy))
  have hj := join_go A cv L w2 hat (by omega) (TabAt.below HB2.out hw0 HTB.out) (Nat.lt_of_lt_of_le hw0 HB2.out.size)
  rw [hjv] at hj
  have HJ := Lib.hid hj
  have HL := Lib.hid hl
  clear hR2 hat hf hjv hj hl
  dsimp only
  go_wp2_with fail
  refine HJ.out.mono ?_
  rintro e w3 ⟨rfl, hb3⟩
  have HB3 := Lib.hid (HB2.out.trans (hb3.mono HB2.out.size))
  have hsl := strOf_size (joinS L)
  clear hb3 HJ
  dsimp only
  by_cases hbig : 65536 < (joinS L).length
  ·have HV := Lib.hid (showT_long HL.out hbig)
   have hbi : (65536 : Int) < ((joinS L).length : Int) := by omega
   clear hbig HL
   go_wp2
   go_light
   go_ret2
   rw [HV.out]
   exact ⟨rfl, HB3.out⟩
  ·have HV := Lib.hid (showT_ok HL.out hbig)
   have hbi : ¬ (65536 : Int) < ((joinS L).length : Int) := by omega
   clear hbig HL
   go_wp2
   go_light
   go_ret2
   rw [HV.out]
   exact ⟨rfl, HB3.out⟩
end
section
def noneN : Nd := ⟨1, 0, .nil, 0, 0⟩
noncomputable def sameN (x y : Nd) : Bool := @decide (x = y) (Classical.propDecidable _)
theorem sameN_iff {x y : Nd} : sameN x y = true ↔ x = y := by unfold sameN; exact @decide_eq_true_iff _ (Classical.propDecidable _)
theorem sameN_self (x : Nd) : sameN x x = true := sameN_iff.2 rfl
theorem sameN_no {x y : Nd} (h : x ≠ y) : sameN x y = false := by
 cases hb : sameN x y with
 | false => rfl
 | true => exact absurd (sameN_iff.1 hb) h
def flatK (kind gone : Int) (x : Nd) : List Nd := if x.kind = kind then x.kids.list else if x.kind = gone then [] else [x]
def flatQ (kind : Int) (x : Nd) : List Nd := if x.kind = kind then x.kids.list else [x]
def isK (k : Int) (x : Nd) : Bool := decide (x.kind = k)
def catP (l : List Nd) : Nd := if (l.flatMap (flatK 4 2)).any (isK 1) = true then noneN else manyN 4 2 (l.flatMap (flatK 4 2))
def joinN (y x : Nd) : Nd := ⟨y.kind, y.set ||| x.set, y.kids, y.lo, y.hi⟩
noncomputable def addP (st : List Nd × Option Nat) (x : Nd) : List Nd × Option Nat :=
 if x.kind = 3 then
  match st.2 with
  | some i => (st.1.modify i (fun y => joinN y x), some i)
  | none => (st.1 ++ [x], some st.1.length)
 else if st.1.any (sameN x) = true then st else (st.1 ++ [x], st.2)
noncomputable def altP (l : List Nd) : Nd := manyN 5 1 ((l.flatMap (flatK 5 1)).foldl addP ([], none)).1
def overN (k : Int) (x : Nd) : Nd := ⟨k, 0, Trees.of [x], 0, 0⟩
def kid0 (x : Nd) : Nd := x.kids.list.headD noneN
def starP (x : Nd) : Nd := if x.kind = 1 ∨ x.kind = 2 then emptyN else if x.kind = 6 ∨ x.kind = 7 ∨ x.kind = 8 then overN 6 (kid0 x) else overN 6 x
def plusP (x : Nd) : Nd := if x.kind = 1 ∨ x.kind = 2 ∨ x.kind = 6 ∨ x.kind = 7 then x else if x.kind = 8 then overN 6 (kid0 x) else overN 7 x
def optP (x : Nd) : Nd := if x.kind = 1 then emptyN else if x.kind = 2 ∨ x.kind = 6 ∨ x.kind = 8 then x else if x.kind = 7 then overN 6 (kid0 x) else overN 8 x
def repP (x : Nd) (lo hi : Int) : Nd :=
 if hi = 0 ∨ x.kind = 2 then emptyN else if x.kind = 1 ∧ lo = 0 then emptyN else if x.kind = 1 then noneN
 else if lo = 1 ∧ hi = 1 then x else if lo = 0 ∧ hi = -1 then starP x else if lo = 1 ∧ hi = -1 then plusP x else if lo = 0 ∧ hi = 1 then optP x
 else ⟨9, 0, Trees.of [x], lo, hi⟩
noncomputable def simK (k : Int) (s : Nat) (ks : Trees) (lo hi : Int) (L : List Nd) : Nd :=
 if k = 3 then (if isNoSet s = true then noneN else ⟨k, s, ks, lo, hi⟩)
 else if k = 4 then catP L else if k = 5 then altP L
 else if k = 6 then starP (L.headD noneN) else if k = 7 then plusP (L.headD noneN) else if k = 8 then optP (L.headD noneN)
 else if k = 9 then repP (L.headD noneN) lo hi else ⟨k, s, ks, lo, hi⟩
noncomputable def Trees.sims : Trees → List Nd
 | .nil => []
 | .cons k s ks lo hi r => simK k s ks lo hi ks.sims :: r.sims
noncomputable def Nd.sim (x : Nd) : Nd := simK x.kind x.set x.kids x.lo x.hi x.kids.sims
theorem Trees.sims_list : ∀ F : Trees, F.sims = F.list.map Nd.sim
 | .nil => rfl
 | .cons k s ks lo hi r => by rw [Trees.sims, Trees.list, List.map_cons, Trees.sims_list r]; rfl
def catQ (l : List Nd) : Nd := if (l.flatMap (flatQ 4)).any (isK 1) = true then noneN else manyN 4 2 ((l.flatMap (flatQ 4)).filter (fun x => !isK 2 x))
def unionQ (l : List Nd) : Nat := l.foldl (fun s x => if x.kind = 3 then s ||| x.set else s) 0
def replQ (s : Nat) (x : Nd) : Nd := if x.kind = 3 then ⟨x.kind, s, x.kids, x.lo, x.hi⟩ else x
noncomputable def addQ (s : Nat) (out : List Nd) (x : Nd) : List Nd := if x.kind = 1 ∨ out.any (fun y => sameN y (replQ s x)) = true then out else out ++ [replQ s x]
noncomputable def altQ (l : List Nd) : Nd := manyN 5 1 ((l.flatMap (flatQ 5)).foldl (addQ (unionQ (l.flatMap (flatQ 5)))) [])
def starQ (x : Nd) : Nd := if x.kind = 1 ∨ x.kind = 2 then emptyN else if x.kind = 6 ∨ x.kind = 7 ∨ x.kind = 8 then ⟨6, 0, x.kids, 0, 0⟩ else overN 6 x
def plusQ (x : Nd) : Nd := if x.kind = 1 ∨ x.kind = 2 ∨ x.kind = 6 ∨ x.kind = 7 then x else if x.kind = 8 then ⟨6, 0, x.kids, 0, 0⟩ else overN 7 x
def optQ (x : Nd) : Nd := if x.kind = 1 then emptyN else if x.kind = 2 ∨ x.kind = 6 ∨ x.kind = 8 then x else if x.kind = 7 then ⟨6, 0, x.kids, 0, 0⟩ else overN 8 x
def repQ (x : Nd) (lo hi : Int) : Nd :=
 if hi = 0 ∨ x.kind = 2 ∨ (x.kind = 1 ∧ lo = 0) then emptyN else if x.kind = 1 ∨ (lo = 1 ∧ hi = 1) then x
 else if hi = -1 ∧ lo = 0 then starQ x else if hi = -1 ∧ lo = 1 then plusQ x else if hi = 1 then optQ x else ⟨9, 0, Trees.of [x], lo, hi⟩
noncomputable def simQK (k : Int) (s : Nat) (ks : Trees) (lo hi : Int) (L : List Nd) : Nd :=
 if k = 3 then (if isNoSet s = true then noneN else ⟨k, s, ks, lo, hi⟩)
 else if k = 4 then catQ L else if k = 5 then altQ L
 else if k = 6 then starQ (L.headD noneN) else if k = 7 then plusQ (L.headD noneN) else if k = 8 then optQ (L.headD noneN)
 else if k = 9 then repQ (L.headD noneN) lo hi else ⟨k, s, ks, lo, hi⟩
noncomputable def Trees.simqs : Trees → List Nd
 | .nil => []
 | .cons k s ks lo hi r => simQK k s ks lo hi ks.simqs :: r.simqs
noncomputable def Nd.simq (x : Nd) : Nd := simQK x.kind x.set x.kids x.lo x.hi x.kids.simqs
def OkV (k : Int) (s : Nat) (lo hi : Int) (n : Nat) : Prop :=
 s < 2 ^ 256 ∧ ((1 ≤ k ∧ k ≤ 2 ∧ s = 0 ∧ lo = 0 ∧ hi = 0 ∧ n = 0) ∨ (k = 3 ∧ lo = 0 ∧ hi = 0 ∧ n = 0) ∨ (4 ≤ k ∧ k ≤ 5 ∧ s = 0 ∧ lo = 0 ∧ hi = 0 ∧ 2 ≤ n) ∨ (6 ≤ k ∧ k ≤ 8 ∧ s = 0 ∧ lo = 0 ∧ hi = 0 ∧ n = 1) ∨ (k = 9 ∧ s = 0 ∧ n = 1 ∧ 0 ≤ lo ∧ lo ≤ 1000 ∧ (hi = -1 ∨ lo ≤ hi) ∧ hi ≤ 1000))
def OkN (y : Nd) : Prop := OkV y.kind y.set y.lo y.hi y.kids.len
def FsN (y : Nd) : Prop :=
 (y.kind = 3 → y.set ≠ 0) ∧
 (y.kind = 4 → ∀ z ∈ y.kids.list, z.kind ≠ 1 ∧ z.kind ≠ 2 ∧ z.kind ≠ 4) ∧
 (y.kind = 5 → (∀ z ∈ y.kids.list, z.kind ≠ 1 ∧ z.kind ≠ 5) ∧ y.kids.list.Nodup ∧ (y.kids.list.filter (isK 3)).length ≤ 1) ∧
 (6 ≤ y.kind ∧ y.kind ≤ 8 → ∀ z ∈ y.kids.list, z.kind ≠ 1 ∧ z.kind ≠ 2 ∧ z.kind ≠ 6 ∧ z.kind ≠ 7 ∧ z.kind ≠ 8) ∧
 (y.kind = 9 → (∀ z ∈ y.kids.list, z.kind ≠ 1 ∧ z.kind ≠ 2) ∧ y.hi ≠ 0 ∧ ¬ (y.lo = 1 ∧ y.hi = 1) ∧ ¬ (y.lo = 0 ∧ y.hi = -1) ∧ ¬ (y.lo = 1 ∧ y.hi = -1) ∧ ¬ (y.lo = 0 ∧ y.hi = 1))
def SG (x : Nd) : Prop := ∀ y ∈ x.nodes, OkN y ∧ FsN y
theorem nodes_of : ∀ (l : List Nd) (y : Nd), y ∈ (Trees.of l).nodes ↔ ∃ z ∈ l, y ∈ z.nodes
 | [], y => by simp [Trees.of, Trees.nodes]
 | x :: l, y => by
  rw [Trees.of, Trees.nodes, List.mem_cons, List.mem_append, nodes_of l y]
  constructor
  ·rintro (h | h | ⟨z, hz, h⟩)
   ·exact ⟨x, by simp, by rw [h]; exact List.mem_cons_self⟩
   ·exact ⟨x, by simp, List.mem_cons_of_mem _ h⟩
   ·exact ⟨z, by simp [hz], h⟩
  ·rintro ⟨z, hz, h⟩
   rcases List.mem_cons.1 hz with rfl | hz
   ·rcases List.mem_cons.1 h with h | h
    ·exact .inl h
    ·exact .inr (.inl h)
   ·exact .inr (.inr ⟨z, hz, h⟩)
theorem nodes_list (F : Trees) (y : Nd) : y ∈ F.nodes ↔ ∃ z ∈ F.list, y ∈ z.nodes := by
 have := nodes_of F.list y
 rwa [Trees.of_list] at this
theorem sg_iff {x : Nd} : SG x ↔ (OkN x ∧ FsN x) ∧ ∀ z ∈ x.kids.list, SG z := by
 unfold SG
 constructor
 ·intro h
  exact ⟨h x List.mem_cons_self, fun z hz y hy => h y (List.mem_cons_of_mem _ ((nodes_list _ _).2 ⟨z, hz, hy⟩))⟩
 ·rintro ⟨h1, h2⟩ y hy
  rcases List.mem_cons.1 hy with rfl | hy
  ·exact h1
  ·obtain ⟨z, hz, hy⟩ := (nodes_list _ _).1 hy
   exact h2 z hz y hy
theorem sg_none : SG noneN := sg_iff.2 ⟨⟨⟨by decide, .inl ⟨by decide, by decide, rfl, rfl, rfl, rfl⟩⟩, by simp [FsN, noneN]⟩, fun z hz => by cases hz⟩
theorem sg_empty : SG emptyN := sg_iff.2 ⟨⟨⟨by decide, .inl ⟨by decide, by decide, rfl, rfl, rfl, rfl⟩⟩, by simp [FsN, emptyN]⟩, fun z hz => by cases hz⟩
theorem list_nil {F : Trees} (h : F.len = 0) : F = .nil := by
 cases F with
 | nil => rfl
 | cons k s ks lo hi r => simp [Trees.len] at h
theorem ok_none {x : Nd} (h : OkN x) (hk : x.kind = 1) : x = noneN := by
 obtain ⟨k, s, F, lo, hi⟩ := x
 obtain ⟨_, h⟩ := h
 simp only at h hk
 have hf : F.len = 0 ∧ s = 0 ∧ lo = 0 ∧ hi = 0 := by omega
 obtain ⟨h1, rfl, rfl, rfl⟩ := hf
 rw [list_nil h1, hk]
 rfl
theorem ok_set {x : Nd} (h : OkN x) (hk : x.kind = 3) : x = ⟨3, x.set, .nil, 0, 0⟩ := by
 obtain ⟨k, s, F, lo, hi⟩ := x
 obtain ⟨_, h⟩ := h
 simp only at h hk
 have hf : F.len = 0 ∧ lo = 0 ∧ hi = 0 := by omega
 obtain ⟨h1, rfl, rfl⟩ := hf
 rw [list_nil h1, hk]
theorem ok_one {x : Nd} (h : OkN x) (hk : 6 ≤ x.kind) : ∃ z, x.kids.list = [z] := by
 obtain ⟨_, h⟩ := h
 have hf : x.kids.len = 1 := by omega
 rw [← Trees.len_list] at hf
 exact List.length_eq_one_iff.1 hf
theorem one_trees {F : Trees} {z : Nd} (h : F.list = [z]) : F = Trees.of [z] := by rw [← h, Trees.of_list]
theorem kid0_one {x : Nd} {z : Nd} (h : x.kids.list = [z]) : kid0 x = z := by unfold kid0; rw [h]; rfl
theorem many_sg {k n : Int} {l : List Nd} (he : SG ⟨n, 0, .nil, 0, 0⟩) (hl : ∀ x ∈ l, SG x) (hk : ∀ x y m, l = x :: y :: m → OkN ⟨k, 0, Trees.of l, 0, 0⟩ ∧ FsN ⟨k, 0, Trees.of l, 0, 0⟩) : SG (manyN k n l) := by
 match l, hl, hk with
 | [], _, _ => exact he
 | [x], hl, _ => exact hl x (by simp)
 | x :: y :: m, hl, hk =>
  refine sg_iff.2 ⟨hk x y m rfl, fun z hz => hl z ?_⟩
  have hz : z ∈ (Trees.of (x :: y :: m)).list := hz
  rwa [Trees.list_of] at hz
theorem ok_many {k : Int} (h4 : 4 ≤ k) (h5 : k ≤ 5) (x y : Nd) (m : List Nd) : OkN ⟨k, 0, Trees.of (x :: y :: m), 0, 0⟩ :=
 ⟨by show 0 < 2 ^ 256; decide, .inr (.inr (.inl ⟨h4, h5, rfl, rfl, rfl, by rw [Trees.len_of]; simp⟩))⟩
theorem flat4 {l : List Nd} (h : ∀ x ∈ l, SG x) : ∀ z ∈ l.flatMap (flatK 4 2), SG z ∧ z.kind ≠ 2 ∧ z.kind ≠ 4 := by
 intro z hz
 obtain ⟨x, hx, hz⟩ := List.mem_flatMap.1 hz
 have hs := h x hx
 unfold flatK at hz
 by_cases h4 : x.kind = 4
 ·rw [if_pos h4] at hz
  have hh := sg_iff.1 hs
  have := hh.1.2.2.1 h4 z hz
  exact ⟨hh.2 z hz, this.2.1, this.2.2⟩
 rw [if_neg h4] at hz
 by_cases h2 : x.kind = 2
 ·rw [if_pos h2] at hz
  cases hz
 ·rw [if_neg h2] at hz
  obtain rfl : z = x := by simpa using hz
  exact ⟨hs, h2, h4⟩
theorem catP_sg {l : List Nd} (h : ∀ x ∈ l, SG x) : SG (catP l) := by
 unfold catP
 have hf := flat4 h
 by_cases h1 : (l.flatMap (flatK 4 2)).any (isK 1) = true
 ·rw [if_pos h1]
  exact sg_none
 ·rw [if_neg h1]
  have hn : ∀ z ∈ l.flatMap (flatK 4 2), z.kind ≠ 1 := fun z hz hk => h1 (List.any_eq_true.2 ⟨z, hz, by unfold isK; exact decide_eq_true hk⟩)
  generalize l.flatMap (flatK 4 2) = m at *
  refine many_sg sg_empty (fun x hx => (hf x hx).1) (fun x y r e => ?_)
  rw [e]
  refine ⟨ok_many (by decide) (by decide) x y r, by simp, fun _ z hz => ?_, by simp, by simp, by simp⟩
  have hz : z ∈ (Trees.of (x :: y :: r)).list := hz
  rw [Trees.list_of, ← e] at hz
  exact ⟨hn z hz, (hf z hz).2⟩
theorem flat_filter (x : Nd) (h : SG x) : (flatQ 4 x).filter (fun x => !isK 2 x) = flatK 4 2 x := by
 unfold flatQ flatK
 by_cases h4 : x.kind = 4
 ·rw [if_pos h4, if_pos h4]
  refine List.filter_eq_self.2 fun z hz => ?_
  have := ((sg_iff.1 h).1.2.2.1 h4 z hz).2.1
  unfold isK
  rw [decide_eq_false this]
  rfl
 ·rw [if_neg h4, if_neg h4]
  by_cases h2 : x.kind = 2
  ·rw [if_pos h2]
   simp [isK, h2]
  ·rw [if_neg h2]
   simp [isK, h2]
theorem flat_any (x : Nd) (h : SG x) : (flatQ 4 x).any (isK 1) = (flatK 4 2 x).any (isK 1) := by
 rw [← flat_filter x h, List.any_filter]
 refine congrArg (fun f => (flatQ 4 x).any f) (funext fun z => ?_)
 unfold isK
 by_cases h1 : z.kind = 1
 ·simp [h1]
 ·simp [h1]
theorem catQ_eq {l : List Nd} (h : ∀ x ∈ l, SG x) : catQ l = catP l := by
 have e1 : (l.flatMap (flatQ 4)).any (isK 1) = (l.flatMap (flatK 4 2)).any (isK 1) := by
  rw [List.any_flatMap, List.any_flatMap]
  induction l with
  | nil => rfl
  | cons x l ih => rw [List.any_cons, List.any_cons, ih (fun y hy => h y (by simp [hy])), flat_any x (h x (by simp))]
 have e2 : (l.flatMap (flatQ 4)).filter (fun x => !isK 2 x) = l.flatMap (flatK 4 2) := by
  rw [List.filter_flatMap]
  clear e1
  induction l with
  | nil => rfl
  | cons x l ih => rw [List.flatMap_cons, List.flatMap_cons, ih (fun y hy => h y (by simp [hy])), flat_filter x (h x (by simp))]
 unfold catQ catP
 rw [e1, e2]
theorem flat5 {l : List Nd} (h : ∀ x ∈ l, SG x) : ∀ z ∈ l.flatMap (flatK 5 1), SG z ∧ z.kind ≠ 1 ∧ z.kind ≠ 5 := by
 intro z hz
 obtain ⟨x, hx, hz⟩ := List.mem_flatMap.1 hz
 have hs := h x hx
 unfold flatK at hz
 by_cases h5 : x.kind = 5
 ·rw [if_pos h5] at hz
  have hh := sg_iff.1 hs
  have := (hh.1.2.2.2.1 h5).1 z hz
  exact ⟨hh.2 z hz, this.1, this.2⟩
 rw [if_neg h5] at hz
 by_cases h1 : x.kind = 1
 ·rw [if_pos h1] at hz
  cases hz
 ·rw [if_neg h1] at hz
  obtain rfl : z = x := by simpa using hz
  exact ⟨hs, h1, h5⟩
theorem or_lt {a b : Nat} (ha : a < 2 ^ 256) (hb : b < 2 ^ 256) : a ||| b < 2 ^ 256 := Nat.or_lt_two_pow ha hb
theorem or_ne {a b : Nat} (ha : a ≠ 0) : a ||| b ≠ 0 := fun h => ha (by
 refine Nat.eq_of_testBit_eq fun i => ?_
 have := congrArg (fun n => n.testBit i) h
 simp only [Nat.testBit_or, Nat.zero_testBit, Bool.or_eq_false_iff] at this
 rw [this.1, Nat.zero_testBit])
theorem join_sg {y x : Nd} (hy : SG y) (hx : SG x) (ky : y.kind = 3) (kx : x.kind = 3) : SG (joinN y x) := by
 have h1 := sg_iff.1 hy
 have h2 := sg_iff.1 hx
 have e := ok_set h1.1.1 ky
 have a1 := h1.1.1.1
 have a2 := h2.1.1.1
 have a3 := h1.1.2.1 ky
 unfold joinN
 rw [e]
 refine sg_iff.2 ⟨⟨⟨or_lt a1 a2, .inr (.inl ⟨rfl, rfl, rfl, rfl⟩)⟩, fun _ => or_ne a3, by simp, by simp, by simp, by simp⟩, fun z hz => by cases hz⟩
structure AInv (p : List Nd) (st : List Nd × Option Nat) : Prop where
 good : ∀ z ∈ st.1, SG z ∧ z.kind ≠ 1 ∧ z.kind ≠ 5
 nodup : st.1.Nodup
 no : st.2 = none → (∀ z ∈ st.1, z.kind ≠ 3) ∧ unionQ p = 0
 yes : ∀ i, st.2 = some i → (∃ y, st.1[i]? = some y ∧ y.kind = 3 ∧ y.set = unionQ p) ∧ ∀ j z, st.1[j]? = some z → z.kind = 3 → j = i
 same : ∀ S, st.1.map (replQ S) = p.foldl (addQ S) []
theorem union_snoc (p : List Nd) (x : Nd) : unionQ (p ++ [x]) = if x.kind = 3 then unionQ p ||| x.set else unionQ p := by
 unfold unionQ
 rw [List.foldl_append]
 rfl
theorem repl_kind (S : Nat) (x : Nd) : (replQ S x).kind = x.kind := by
 unfold replQ
 split <;> rfl
theorem repl_other {S : Nat} {x : Nd} (h : x.kind ≠ 3) : replQ S x = x := by unfold replQ; rw [if_neg h]
theorem repl_set {S : Nat} {x : Nd} (h : OkN x) (hk : x.kind = 3) : replQ S x = ⟨3, S, .nil, 0, 0⟩ := by
 have := ok_set h hk
 unfold replQ
 rw [if_pos hk, this]
theorem addQ_in {S : Nat} {out : List Nd} {x : Nd} (h : replQ S x ∈ out) : addQ S out x = out := by
 unfold addQ
 rw [if_pos (.inr (List.any_eq_true.2 ⟨_, h, sameN_self _⟩))]
theorem addQ_out {S : Nat} {out : List Nd} {x : Nd} (h1 : x.kind ≠ 1) (h : replQ S x ∉ out) : addQ S out x = out ++ [replQ S x] := by
 unfold addQ
 rw [if_neg]
 rintro (h2 | h2)
 ·exact h1 h2
 ·obtain ⟨y, hy, e⟩ := List.any_eq_true.1 h2
  rw [sameN_iff.1 e] at hy
  exact h hy
theorem nodup_snoc {l : List Nd} {x : Nd} (h : l.Nodup) (hx : x ∉ l) : (l ++ [x]).Nodup := by
 rw [List.nodup_append]
 exact ⟨h, by simp, fun a ha b hb e => by
  have : b = x := by simpa using hb
  exact hx (by rw [← this, ← e]; exact ha)⟩
theorem modify_get {l : List Nd} {i j : Nat} {f : Nd → Nd} {z : Nd} (h : (l.modify i f)[j]? = some z) : ∃ y, l[j]? = some y ∧ z = if i = j then f y else y := by
 rw [List.getElem?_modify] at h
 cases hy : l[j]? with
 | none => rw [hy] at h; cases h
 | some y =>
  rw [hy] at h
  refine ⟨y, rfl, ?_⟩
  have h : (fun a => if i = j then f a else a) y = z := by simpa using h
  exact h.symm
theorem nodup_get {l : List Nd} : l.Nodup ↔ ∀ (i j : Nat) (z : Nd), l[i]? = some z → l[j]? = some z → i = j := by
 constructor
 ·intro h i j z hi hj
  have h1 := (List.getElem?_eq_some_iff.1 hi).1
  exact (List.getElem?_inj h1 h).1 (hi.trans hj.symm)
 ·intro h
  rw [List.Nodup, List.pairwise_iff_getElem]
  intro i j hi hj hij e
  have hz : l[j]? = some l[j] := List.getElem?_eq_getElem hj
  have hy : l[i]? = some l[j] := by rw [List.getElem?_eq_getElem hi, e]
  have := h i j _ hy hz
  omega
theorem addP_step {p : List Nd} {st : List Nd × Option Nat} {x : Nd} (h : AInv p st) (hx : SG x) (h1 : x.kind ≠ 1) (h5 : x.kind ≠ 5) : AInv (p ++ [x]) (addP st x) := by
 obtain ⟨out, si⟩ := st
 have ox := (sg_iff.1 hx).1.1
 have hfold : ∀ S, (p ++ [x]).foldl (addQ S) [] = addQ S (out.map (replQ S)) x := fun S => by rw [List.foldl_append, ← h.same S]; rfl
 by_cases k3 : x.kind = 3
 ·cases si with
  | none =>
   obtain ⟨n1, n2⟩ := h.no rfl
   have e : addP (out, none) x = (out ++ [x], some out.length) := by unfold addP; rw [if_pos k3]
   rw [e]
   have hnot : x ∉ out := fun hh => n1 x hh k3
   refine ⟨fun z hz => ?_, nodup_snoc h.nodup hnot, fun hh => (by cases hh), fun i hi => ?_, fun S => ?_⟩
   ·rcases List.mem_append.1 hz with hz | hz
    ·exact h.good z hz
    ·obtain rfl : z = x := by simpa using hz
     exact ⟨hx, h1, h5⟩
   ·cases hi
    refine ⟨⟨x, by simp, k3, by rw [union_snoc, if_pos k3, n2, Nat.zero_or]⟩, fun j z hz hk => ?_⟩
    rcases Nat.lt_or_ge j out.length with hj | hj
    ·rw [List.getElem?_append_left hj] at hz
     exact absurd hk (n1 z (List.mem_of_getElem? hz))
    ·have := (List.getElem?_eq_some_iff.1 hz).1
     simp at this
     omega
   ·rw [hfold S, List.map_append, addQ_out h1 (fun hh => ?_)]
    ·rfl
    ·obtain ⟨y, hy, e⟩ := List.mem_map.1 hh
     have := congrArg Nd.kind e
     rw [repl_kind, repl_kind, k3] at this
     exact n1 y hy this
  | some i =>
   obtain ⟨⟨y, hy, ky, sy⟩, huniq⟩ := h.yes i rfl
   have e : addP (out, some i) x = (out.modify i (fun y => joinN y x), some i) := by unfold addP; rw [if_pos k3]
   have gy := h.good y (List.mem_of_getElem? hy)
   rw [e]
   have hget : ∀ j z, (out.modify i (fun y => joinN y x))[j]? = some z → (j = i ∧ z = joinN y x) ∨ (j ≠ i ∧ out[j]? = some z) := fun j z hz => by
    obtain ⟨q, hq, e⟩ := modify_get hz
    by_cases c : i = j
    ·subst c
     rw [hy] at hq
     cases hq
     rw [if_pos rfl] at e
     exact .inl ⟨rfl, e⟩
    ·rw [if_neg c] at e
     exact .inr ⟨fun hh => c hh.symm, by rw [e]; exact hq⟩
   have hkj : (joinN y x).kind = 3 := ky
   refine ⟨fun z hz => ?_, nodup_get.2 (fun a b z ha hb => ?_), fun hh => (by cases hh), fun i' hi => ?_, fun S => ?_⟩
   ·obtain ⟨j, hj⟩ := List.getElem?_of_mem hz
    rcases hget j z hj with ⟨_, rfl⟩ | ⟨_, h2⟩
    ·exact ⟨join_sg gy.1 hx ky k3, by rw [hkj]; decide, by rw [hkj]; decide⟩
    ·exact h.good z (List.mem_of_getElem? h2)
   ·rcases hget a z ha with ⟨rfl, rfl⟩ | ⟨a1, a2⟩
    ·rcases hget b _ hb with ⟨rfl, _⟩ | ⟨b1, b2⟩
     ·rfl
     ·exact absurd (huniq b _ b2 hkj) b1
    ·rcases hget b z hb with ⟨rfl, rfl⟩ | ⟨b1, b2⟩
     ·exact absurd (huniq a _ a2 hkj) a1
     ·exact nodup_get.1 h.nodup a b z a2 b2
   ·cases hi
    refine ⟨⟨joinN y x, ?_, hkj, ?_⟩, fun j z hz hk => ?_⟩
    ·rw [List.getElem?_modify, hy]
     simp
    ·rw [union_snoc, if_pos k3, ← sy]
     rfl
    ·rcases hget j z hz with ⟨h2, _⟩ | ⟨_, h2⟩
     ·exact h2
     ·exact huniq j z h2 hk
   ·have hmap : (out.modify i (fun y => joinN y x)).map (replQ S) = out.map (replQ S) := by
     refine List.ext_getElem? fun j => ?_
     rw [List.getElem?_map, List.getElem?_map, List.getElem?_modify]
     cases hq : out[j]? with
     | none => rfl
     | some q =>
      show some (replQ S (if i = j then joinN q x else q)) = some (replQ S q)
      by_cases c : i = j
      ·subst c
       have hq : out[i]? = some q := hq
       have hy : out[i]? = some y := hy
       rw [hy] at hq
       cases hq
       rw [if_pos rfl]
       unfold replQ
       rw [if_pos hkj, if_pos ky]
       rfl
      ·rw [if_neg c]
    rw [hfold S, hmap, addQ_in]
    rw [repl_set ox k3, ← repl_set (S := S) (sg_iff.1 gy.1).1.1 ky]
    exact List.mem_map.2 ⟨y, List.mem_of_getElem? hy, rfl⟩
 ·have hu : unionQ (p ++ [x]) = unionQ p := by rw [union_snoc, if_neg k3]
  have hiff : ∀ S, replQ S x ∈ out.map (replQ S) ↔ x ∈ out := fun S => by
   rw [repl_other k3]
   constructor
   ·intro hh
    obtain ⟨y, hy, e⟩ := List.mem_map.1 hh
    have := congrArg Nd.kind e
    rw [repl_kind] at this
    rw [repl_other (by rw [this]; exact k3)] at e
    rw [← e]
    exact hy
   ·exact fun hh => List.mem_map.2 ⟨x, hh, repl_other k3⟩
  by_cases hin : x ∈ out
  ·have e : addP (out, si) x = (out, si) := by
    unfold addP
    rw [if_neg k3, if_pos (List.any_eq_true.2 ⟨x, hin, sameN_self x⟩)]
   rw [e]
   exact ⟨h.good, h.nodup, fun hh => by rw [hu]; exact h.no hh, fun i hi => by rw [hu]; exact h.yes i hi, fun S => by rw [hfold S, addQ_in ((hiff S).2 hin)]⟩
  ·have e : addP (out, si) x = (out ++ [x], si) := by
    unfold addP
    rw [if_neg k3, if_neg]
    intro hh
    obtain ⟨y, hy, e⟩ := List.any_eq_true.1 hh
    rw [← sameN_iff.1 e] at hy
    exact hin hy
   rw [e]
   refine ⟨fun z hz => ?_, nodup_snoc h.nodup hin, fun hh => ?_, fun i hi => ?_, fun S => ?_⟩
   ·rcases List.mem_append.1 hz with hz | hz
    ·exact h.good z hz
    ·obtain rfl : z = x := by simpa using hz
     exact ⟨hx, h1, h5⟩
   ·obtain ⟨n1, n2⟩ := h.no hh
    refine ⟨fun z hz => ?_, by rw [hu]; exact n2⟩
    rcases List.mem_append.1 hz with hz | hz
    ·exact n1 z hz
    ·obtain rfl : z = x := by simpa using hz
     exact k3
   ·obtain ⟨⟨y, hy, ky, sy⟩, huniq⟩ := h.yes i hi
    have hil := (List.getElem?_eq_some_iff.1 hy).1
    refine ⟨⟨y, by rw [List.getElem?_append_left hil]; exact hy, ky, by rw [hu]; exact sy⟩, fun j z hz hk => ?_⟩
    rcases Nat.lt_or_ge j out.length with hj | hj
    ·rw [List.getElem?_append_left hj] at hz
     exact huniq j z hz hk
    ·rw [List.getElem?_append_right hj] at hz
     obtain rfl : z = x := by
      have := List.mem_of_getElem? hz
      simpa using this
     exact absurd hk k3
   ·rw [hfold S, List.map_append, addQ_out h1 (fun hh => hin ((hiff S).1 hh))]
    rfl
theorem addP_all : ∀ (l p : List Nd) (st : List Nd × Option Nat), AInv p st → (∀ z ∈ l, SG z ∧ z.kind ≠ 1 ∧ z.kind ≠ 5) → AInv (p ++ l) (l.foldl addP st)
 | [], p, st, h, _ => by rw [List.append_nil]; exact h
 | x :: l, p, st, h, hl => by
  obtain ⟨a, b, c⟩ := hl x (by simp)
  have := addP_all l (p ++ [x]) _ (addP_step h a b c) (fun z hz => hl z (by simp [hz]))
  rw [List.append_assoc] at this
  exact this
theorem ainv_start : AInv [] ([], none) := ⟨(fun z hz => by cases hz), List.Pairwise.nil, (fun _ => ⟨(fun z hz => by cases hz), rfl⟩), (fun i hi => by cases hi), (fun S => rfl)⟩
theorem alt_inv {l : List Nd} (h : ∀ x ∈ l, SG x) : AInv (l.flatMap (flatK 5 1)) ((l.flatMap (flatK 5 1)).foldl addP ([], none)) := addP_all _ [] _ ainv_start (flat5 h)
theorem filter_one {out : List Nd} {si : Option Nat} {p : List Nd} (h : AInv p (out, si)) : (out.filter (isK 3)).length ≤ 1 := by
 have hu : ∀ (j j' : Nat) (z z' : Nd), out[j]? = some z → z.kind = 3 → out[j']? = some z' → z'.kind = 3 → j = j' := fun j j' z z' h1 h2 h3 h4 => by
  cases si with
  | none => exact absurd h2 ((h.no rfl).1 z (List.mem_of_getElem? h1))
  | some i =>
   have := (h.yes i rfl).2
   rw [this j z h1 h2, this j' z' h3 h4]
 have hnd := List.Pairwise.filter (isK 3) h.nodup
 match hf : out.filter (isK 3), hnd with
 | [], _ => simp
 | [a], _ => simp
 | a :: b :: r, hnd =>
  have ha : a ∈ out.filter (isK 3) := by rw [hf]; simp
  have hb : b ∈ out.filter (isK 3) := by rw [hf]; simp
  obtain ⟨a1, a2⟩ := List.mem_filter.1 ha
  obtain ⟨b1, b2⟩ := List.mem_filter.1 hb
  obtain ⟨i, hi⟩ := List.getElem?_of_mem a1
  obtain ⟨j, hj⟩ := List.getElem?_of_mem b1
  have := hu i j a b hi (of_decide_eq_true a2) hj (of_decide_eq_true b2)
  subst this
  rw [hi] at hj
  cases hj
  have := (List.pairwise_cons.1 hnd).1 a (by simp)
  exact absurd rfl this
theorem altP_sg {l : List Nd} (h : ∀ x ∈ l, SG x) : SG (altP l) := by
 have hi := alt_inv h
 unfold altP
 generalize (l.flatMap (flatK 5 1)).foldl addP ([], none) = st at *
 obtain ⟨out, si⟩ := st
 refine many_sg sg_none (fun x hx => (hi.good x hx).1) (fun x y r e => ?_)
 have e : out = x :: y :: r := e
 have hf := filter_one hi
 have hn : out.Nodup := hi.nodup
 have hg := hi.good
 show OkN ⟨5, 0, Trees.of out, 0, 0⟩ ∧ FsN ⟨5, 0, Trees.of out, 0, 0⟩
 subst e
 refine ⟨ok_many (by decide) (by decide) x y r, by simp, by simp, fun _ => ?_, by simp, by simp⟩
 show (∀ z ∈ (Trees.of (x :: y :: r)).list, _) ∧ (Trees.of (x :: y :: r)).list.Nodup ∧ ((Trees.of (x :: y :: r)).list.filter (isK 3)).length ≤ 1
 rw [Trees.list_of]
 exact ⟨fun z hz => (hg z hz).2, hn, hf⟩
theorem flat_filter5 (x : Nd) (h : SG x) : (flatQ 5 x).filter (fun x => !isK 1 x) = flatK 5 1 x := by
 unfold flatQ flatK
 by_cases h5 : x.kind = 5
 ·rw [if_pos h5, if_pos h5]
  refine List.filter_eq_self.2 fun z hz => ?_
  have := (((sg_iff.1 h).1.2.2.2.1 h5).1 z hz).1
  unfold isK
  rw [decide_eq_false this]
  rfl
 ·rw [if_neg h5, if_neg h5]
  by_cases h1 : x.kind = 1
  ·rw [if_pos h1]
   simp [isK, h1]
  ·rw [if_neg h1]
   simp [isK, h1]
theorem flat_all5 : ∀ (l : List Nd), (∀ x ∈ l, SG x) → (l.flatMap (flatQ 5)).filter (fun x => !isK 1 x) = l.flatMap (flatK 5 1)
 | [], _ => rfl
 | x :: l, h => by rw [List.flatMap_cons, List.filter_append, List.flatMap_cons, flat_all5 l (fun y hy => h y (by simp [hy])), flat_filter5 x (h x (by simp))]
theorem union_filter : ∀ (l : List Nd) (s : Nat), (l.filter (fun x => !isK 1 x)).foldl (fun s x => if x.kind = 3 then s ||| x.set else s) s = l.foldl (fun s x => if x.kind = 3 then s ||| x.set else s) s
 | [], s => rfl
 | x :: l, s => by
  rw [List.filter_cons]
  by_cases h1 : x.kind = 1
  ·have : isK 1 x = true := decide_eq_true h1
   rw [this, if_neg (by decide), List.foldl_cons, if_neg (by omega), union_filter l s]
  ·have : isK 1 x = false := decide_eq_false h1
   rw [this, if_pos (by decide), List.foldl_cons, List.foldl_cons, union_filter l _]
theorem add_filter (S : Nat) : ∀ (l out : List Nd), (l.filter (fun x => !isK 1 x)).foldl (addQ S) out = l.foldl (addQ S) out
 | [], out => rfl
 | x :: l, out => by
  rw [List.filter_cons]
  by_cases h1 : x.kind = 1
  ·have : isK 1 x = true := decide_eq_true h1
   rw [this, if_neg (by decide), List.foldl_cons, show addQ S out x = out by unfold addQ; rw [if_pos (.inl h1)], add_filter S l out]
  ·have : isK 1 x = false := decide_eq_false h1
   rw [this, if_pos (by decide), List.foldl_cons, List.foldl_cons, add_filter S l _]
theorem altQ_eq {l : List Nd} (h : ∀ x ∈ l, SG x) : altQ l = altP l := by
 have hi := alt_inv h
 have hf := flat_all5 l h
 have e1 : unionQ (l.flatMap (flatQ 5)) = unionQ (l.flatMap (flatK 5 1)) := by
  unfold unionQ
  rw [← hf, union_filter]
 unfold altQ altP
 rw [e1, ← add_filter, hf]
 generalize (l.flatMap (flatK 5 1)).foldl addP ([], none) = st at *
 rw [← hi.same]
 congr 1
 obtain ⟨out, si⟩ := st
 show out.map _ = out
 refine (List.map_congr_left (fun z hz => ?_)).trans (List.map_id out)
 by_cases k3 : z.kind = 3
 ·cases si with
  | none => exact absurd k3 ((hi.no rfl).1 z hz)
  | some i =>
   obtain ⟨⟨y, hy, ky, sy⟩, huniq⟩ := hi.yes i rfl
   obtain ⟨j, hj⟩ := List.getElem?_of_mem hz
   have := huniq j z hj k3
   subst this
   have hj : out[j]? = some z := hj
   have hy : out[j]? = some y := hy
   rw [hj] at hy
   cases hy
   have ho := (sg_iff.1 (hi.good z hz).1).1.1
   rw [repl_set ho k3, ← sy]
   exact (ok_set ho k3).symm
 ·exact repl_other k3
theorem over_sg {k : Int} {z : Nd} (h6 : 6 ≤ k) (h8 : k ≤ 8) (hz : SG z) (hk : z.kind ≠ 1 ∧ z.kind ≠ 2 ∧ z.kind ≠ 6 ∧ z.kind ≠ 7 ∧ z.kind ≠ 8) : SG (overN k z) := by
 have hl : (Trees.of [z]).list = [z] := Trees.list_of _
 refine sg_iff.2 ⟨⟨⟨by show 0 < 2 ^ 256; decide, .inr (.inr (.inr (.inl ⟨h6, h8, rfl, rfl, rfl, by show (Trees.of [z]).len = 1; rw [Trees.len_of]; rfl⟩)))⟩, ?_, ?_, ?_, ?_, ?_⟩, ?_⟩
 ·show k = 3 → _
  omega
 ·show k = 4 → _
  omega
 ·show k = 5 → _
  omega
 ·intro _ y hy
  have hy : y ∈ (Trees.of [z]).list := hy
  rw [hl] at hy
  obtain rfl : y = z := by simpa using hy
  exact hk
 ·show k = 9 → _
  omega
 ·intro y hy
  have hy : y ∈ (Trees.of [z]).list := hy
  rw [hl] at hy
  obtain rfl : y = z := by simpa using hy
  exact hz
theorem kid0_sg {x : Nd} (h : SG x) (h6 : 6 ≤ x.kind) (h8 : x.kind ≤ 8) : SG (kid0 x) ∧ (kid0 x).kind ≠ 1 ∧ (kid0 x).kind ≠ 2 ∧ (kid0 x).kind ≠ 6 ∧ (kid0 x).kind ≠ 7 ∧ (kid0 x).kind ≠ 8 := by
 have hh := sg_iff.1 h
 obtain ⟨z, hz⟩ := ok_one hh.1.1 h6
 rw [kid0_one hz]
 exact ⟨hh.2 z (by rw [hz]; simp), hh.1.2.2.2.2.1 ⟨h6, h8⟩ z (by rw [hz]; simp)⟩
theorem starP_sg {x : Nd} (h : SG x) : SG (starP x) := by
 unfold starP
 split
 ·exact sg_empty
 split
 ·obtain ⟨a, b⟩ := kid0_sg h (by omega) (by omega)
  exact over_sg (by decide) (by decide) a b
 ·exact over_sg (by decide) (by decide) h (by omega)
theorem plusP_sg {x : Nd} (h : SG x) : SG (plusP x) := by
 unfold plusP
 split
 ·exact h
 split
 ·obtain ⟨a, b⟩ := kid0_sg h (by omega) (by omega)
  exact over_sg (by decide) (by decide) a b
 ·exact over_sg (by decide) (by decide) h (by omega)
theorem optP_sg {x : Nd} (h : SG x) : SG (optP x) := by
 unfold optP
 split
 ·exact sg_empty
 split
 ·exact h
 split
 ·obtain ⟨a, b⟩ := kid0_sg h (by omega) (by omega)
  exact over_sg (by decide) (by decide) a b
 ·exact over_sg (by decide) (by decide) h (by omega)
def TimesOk (lo hi : Int) : Prop := 0 ≤ lo ∧ lo ≤ 1000 ∧ (hi = -1 ∨ lo ≤ hi) ∧ hi ≤ 1000
theorem repP_sg {x : Nd} {lo hi : Int} (h : SG x) (ht : TimesOk lo hi) : SG (repP x lo hi) := by
 unfold repP
 split
 ·exact sg_empty
 split
 ·exact sg_empty
 split
 ·exact sg_none
 split
 ·exact h
 split
 ·exact starP_sg h
 split
 ·exact plusP_sg h
 split
 ·exact optP_sg h
 ·obtain ⟨a, b, c, d⟩ := ht
  have hl : (Trees.of [x]).list = [x] := Trees.list_of _
  refine sg_iff.2 ⟨⟨⟨by show 0 < 2 ^ 256; decide, .inr (.inr (.inr (.inr ⟨rfl, rfl, by show (Trees.of [x]).len = 1; rw [Trees.len_of]; rfl, a, b, c, d⟩)))⟩, by simp, by simp, by simp, by simp, fun _ => ⟨fun y hy => ?_, ?_⟩⟩, fun y hy => ?_⟩
  ·have hy : y ∈ (Trees.of [x]).list := hy
   rw [hl] at hy
   obtain rfl : y = x := by simpa using hy
   omega
  ·show hi ≠ 0 ∧ _
   refine ⟨by omega, ?_⟩
   show ¬ (lo = 1 ∧ hi = 1) ∧ ¬ (lo = 0 ∧ hi = -1) ∧ ¬ (lo = 1 ∧ hi = -1) ∧ ¬ (lo = 0 ∧ hi = 1)
   omega
  ·have hy : y ∈ (Trees.of [x]).list := hy
   rw [hl] at hy
   obtain rfl : y = x := by simpa using hy
   exact h
theorem kids_one {x : Nd} (h : SG x) (h6 : 6 ≤ x.kind) : x.kids = Trees.of [kid0 x] := by
 obtain ⟨z, hz⟩ := ok_one (sg_iff.1 h).1.1 h6
 rw [kid0_one hz]
 exact one_trees hz
theorem starQ_eq {x : Nd} (h : SG x) : starQ x = starP x := by
 unfold starQ starP
 split
 ·rfl
 split
 ·rw [kids_one h (by omega)]
  rfl
 ·rfl
theorem plusQ_eq {x : Nd} (h : SG x) : plusQ x = plusP x := by
 unfold plusQ plusP
 split
 ·rfl
 split
 ·rw [kids_one h (by omega)]
  rfl
 ·rfl
theorem optQ_eq {x : Nd} (h : SG x) : optQ x = optP x := by
 unfold optQ optP
 split
 ·rfl
 split
 ·rfl
 split
 ·rw [kids_one h (by omega)]
  rfl
 ·rfl
theorem repQ_eq {x : Nd} {lo hi : Int} (h : SG x) (ht : TimesOk lo hi) : repQ x lo hi = repP x lo hi := by
 obtain ⟨a, b, c, d⟩ := ht
 unfold repQ repP
 by_cases h1 : hi = 0 ∨ x.kind = 2
 ·rw [if_pos (by omega), if_pos h1]
 rw [if_neg h1]
 by_cases h2 : x.kind = 1 ∧ lo = 0
 ·rw [if_pos (.inr (.inr h2)), if_pos h2]
 rw [if_neg (by omega), if_neg h2]
 by_cases h3 : x.kind = 1
 ·rw [if_pos (.inl h3), if_pos h3]
  exact ok_none (sg_iff.1 h).1.1 h3
 rw [if_neg h3]
 by_cases h4 : lo = 1 ∧ hi = 1
 ·rw [if_pos (.inr h4), if_pos h4]
 rw [if_neg (by omega), if_neg h4]
 by_cases h5 : lo = 0 ∧ hi = -1
 ·rw [if_pos ⟨h5.2, h5.1⟩, if_pos h5, starQ_eq h]
 rw [if_neg (by omega), if_neg h5]
 by_cases h6 : lo = 1 ∧ hi = -1
 ·rw [if_pos ⟨h6.2, h6.1⟩, if_pos h6, plusQ_eq h]
 rw [if_neg (by omega), if_neg h6]
 by_cases h7 : lo = 0 ∧ hi = 1
 ·rw [if_pos h7.2, if_pos h7, optQ_eq h]
 rw [if_neg (by omega), if_neg h7]
theorem noset_ne {s : Nat} (h : ¬ isNoSet s = true) : s ≠ 0 := by
 rintro rfl
 refine h ?_
 decide +kernel
theorem simK_sg {k : Int} {s : Nat} {ks : Trees} {lo hi : Int} {L : List Nd} (ho : OkV k s lo hi ks.len) (hL : ∀ z ∈ L, SG z) (hlen : L.length = ks.len) : SG (simK k s ks lo hi L) ∧ simQK k s ks lo hi L = simK k s ks lo hi L := by
 have hh : 6 ≤ k → SG (L.headD noneN) := fun h6 => by
  have : ks.len = 1 := by have := ho.2; omega
  cases L with
  | nil => exact sg_none
  | cons z l => exact hL z (by simp)
 unfold simK simQK
 by_cases k3 : k = 3
 ·rw [if_pos k3, if_pos k3]
  refine ⟨?_, rfl⟩
  split
  ·exact sg_none
  ·rename_i hn
   have hz : ks.len = 0 := by have := ho.2; omega
   have hks := list_nil hz
   subst hks
   refine sg_iff.2 ⟨⟨ho, fun _ => noset_ne hn, ?_, ?_, ?_, ?_⟩, fun z hz => by cases hz⟩
   ·show k = 4 → _
    omega
   ·show k = 5 → _
    omega
   ·show 6 ≤ k ∧ k ≤ 8 → _
    omega
   ·show k = 9 → _
    omega
 rw [if_neg k3, if_neg k3]
 by_cases k4 : k = 4
 ·rw [if_pos k4, if_pos k4]
  exact ⟨catP_sg hL, catQ_eq hL⟩
 rw [if_neg k4, if_neg k4]
 by_cases k5 : k = 5
 ·rw [if_pos k5, if_pos k5]
  exact ⟨altP_sg hL, altQ_eq hL⟩
 rw [if_neg k5, if_neg k5]
 by_cases k6 : k = 6
 ·rw [if_pos k6, if_pos k6]
  exact ⟨starP_sg (hh (by omega)), starQ_eq (hh (by omega))⟩
 rw [if_neg k6, if_neg k6]
 by_cases k7 : k = 7
 ·rw [if_pos k7, if_pos k7]
  exact ⟨plusP_sg (hh (by omega)), plusQ_eq (hh (by omega))⟩
 rw [if_neg k7, if_neg k7]
 by_cases k8 : k = 8
 ·rw [if_pos k8, if_pos k8]
  exact ⟨optP_sg (hh (by omega)), optQ_eq (hh (by omega))⟩
 rw [if_neg k8, if_neg k8]
 by_cases k9 : k = 9
 ·have ht : TimesOk lo hi := by
   have := ho.2
   unfold TimesOk
   omega
  rw [if_pos k9, if_pos k9]
  exact ⟨repP_sg (hh (by omega)) ht, repQ_eq (hh (by omega)) ht⟩
 ·rw [if_neg k9, if_neg k9]
  refine ⟨?_, rfl⟩
  have h12 : ks.len = 0 ∧ k ≤ 2 := by have := ho.2; omega
  have hks := list_nil h12.1
  subst hks
  refine sg_iff.2 ⟨⟨ho, ?_, ?_, ?_, ?_, ?_⟩, fun z hz => by cases hz⟩
  ·show k = 3 → _
   omega
  ·show k = 4 → _
   omega
  ·show k = 5 → _
   omega
  ·show 6 ≤ k ∧ k ≤ 8 → _
   omega
  ·show k = 9 → _
   omega
theorem sims_len (F : Trees) : F.sims.length = F.len := by rw [F.sims_list, List.length_map, Trees.len_list]
theorem sims_all : ∀ (F : Trees), (∀ y ∈ F.nodes, OkN y) → (∀ z ∈ F.sims, SG z) ∧ F.simqs = F.sims
 | .nil, _ => ⟨(fun z hz => by cases hz), rfl⟩
 | .cons k s ks lo hi r, h => by
  obtain ⟨a, b⟩ := sims_all ks (fun y hy => h y (by simp [Trees.nodes, hy]))
  obtain ⟨c, d⟩ := sims_all r (fun y hy => h y (by simp [Trees.nodes, hy]))
  obtain ⟨e, f⟩ := simK_sg (k := k) (s := s) (ks := ks) (lo := lo) (hi := hi) (h ⟨k, s, ks, lo, hi⟩ (by simp [Trees.nodes])) a (sims_len ks)
  rw [Trees.sims, Trees.simqs, b, d, f]
  refine ⟨fun z hz => ?_, rfl⟩
  rcases List.mem_cons.1 hz with rfl | hz
  ·exact e
  ·exact c z hz
theorem sim_sg {x : Nd} (h : ∀ y ∈ x.nodes, OkN y) : SG x.sim ∧ x.simq = x.sim := by
 obtain ⟨a, b⟩ := sims_all x.kids (fun y hy => h y (List.mem_cons_of_mem _ hy))
 obtain ⟨e, f⟩ := simK_sg (k := x.kind) (s := x.set) (ks := x.kids) (lo := x.lo) (hi := x.hi) (h x List.mem_cons_self) a (sims_len x.kids)
 refine ⟨e, ?_⟩
 unfold Nd.simq
 rw [b]
 exact f
theorem zero_words {s : Nat} (hs : s < 2 ^ 256) (h0 : word s.testBit 0 = 0) (h1 : word s.testBit 1 = 0) (h2 : word s.testBit 2 = 0) (h3 : word s.testBit 3 = 0) : s = 0 := by
 refine Nat.eq_of_testBit_eq fun c => ?_
 rw [Nat.zero_testBit]
 rcases Nat.lt_or_ge c 256 with hc | hc
 ·have hw : ∀ i, i < 4 → word s.testBit i = 0 := fun i hi => by
   rcases (by omega : i = 0 ∨ i = 1 ∨ i = 2 ∨ i = 3) with rfl | rfl | rfl | rfl <;> assumption
  have := word_zeroQ s.testBit (c / 64) (hw (c / 64) (by omega)) (c % 64) (Nat.mod_lt _ (by decide))
  rwa [show 64 * (c / 64) + c % 64 = c by omega] at this
 ·exact Nat.testBit_lt_two_pow (Nat.lt_of_lt_of_le hs (Nat.pow_le_pow_right (by decide) hc))
theorem ok_of_alone {y : Nd} (h : aloneN y = true) (hs : y.set < 2 ^ 256) : OkN y := by
 unfold aloneN aloneV at h
 by_cases k3 : y.kind = 3
 ·rw [if_pos k3] at h
  simp at h
  exact ⟨hs, .inr (.inl ⟨k3, h.1, h.2.1, h.2.2⟩)⟩
 rw [if_neg k3] at h
 by_cases hz : ((word y.set.testBit 0 : Nat) : Int) ≠ 0 ∨ ((word y.set.testBit 1 : Nat) : Int) ≠ 0 ∨ ((word y.set.testBit 2 : Nat) : Int) ≠ 0 ∨ ((word y.set.testBit 3 : Nat) : Int) ≠ 0
 ·rw [if_pos hz] at h
  cases h
 rw [if_neg hz] at h
 have h0 : y.set = 0 := zero_words hs (by omega) (by omega) (by omega) (by omega)
 refine ⟨hs, ?_⟩
 by_cases k9 : y.kind = 9
 ·rw [if_pos k9] at h
  unfold timesB at h
  simp at h
  right; right; right; right
  exact ⟨k9, h0, h.2, h.1.1.1, h.1.1.2, by omega, by omega⟩
 ·rw [if_neg k9] at h
  unfold arityS at h
  simp only [Bool.and_eq_true, decide_eq_true_eq] at h
  obtain ⟨a, b, c⟩ := h
  by_cases c1 : y.kind = 1 ∨ y.kind = 2 ∨ y.kind = 3
  ·rw [if_pos c1] at c
   simp at c
   omega
  rw [if_neg c1] at c
  by_cases c2 : y.kind = 4 ∨ y.kind = 5
  ·rw [if_pos c2] at c
   simp at c
   omega
  rw [if_neg c2] at c
  by_cases c3 : 6 ≤ y.kind ∧ y.kind ≤ 9
  ·rw [if_pos c3] at c
   simp at c
   omega
  ·rw [if_neg c3] at c
   simp at c
end
section
open Go.RowKit
theorem CellsAre.app {w : World} {P : Nat → Prop} : ∀ {l m : List Nd} {cs ds : List Value}, CellsAre w P l cs → CellsAre w P m ds → CellsAre w P (l ++ m) (cs ++ ds)
 | [], m, cs, ds, h, g => by
  have : cs = [] := h
  subst this
  exact g
 | x :: l, m, cs, ds, ⟨B, cap, rest, hcs, hc, ht, hr⟩, g => ⟨B, cap, rest ++ ds, by rw [hcs, List.append_assoc], hc, ht, hr.app g⟩
def ORow (n0 : Nat) (w : World) (acc : List Nd) (u : Value) (wr : World) : Prop :=
 (∃ cs, wr.ownsRow n0 28 8 u acc.length cs ∧ CellsAre wr (fun b => some b ≠ u.ownBlock) acc cs) ∧ Below n0 w wr ∧ n0 ≤ wr.heap.size
section
variable {n0 : Nat} {w wr w2 w' : World} {acc : List Nd} {u : Value}
theorem ORow.own (h : ORow n0 w acc u wr) : ∀ g, u.ownBlock = some g → n0 ≤ g ∧ g < wr.heap.size := by
 obtain ⟨⟨cs, hr, _⟩, _⟩ := h
 exact hr.lt
theorem ORow.below (h : ORow n0 w acc u wr) (hb : Below wr.heap.size wr w2) : ORow n0 w acc u w2 := by
 obtain ⟨⟨cs, hr, hc⟩, h3, h4⟩ := h
 exact ⟨⟨cs, own_below hr hb, hc.below hb⟩, h3.trans (hb.mono h4), Nat.le_trans h4 hb.size⟩
theorem ORow.trees (h : ORow n0 w acc u wr) : ∃ A cap, u = .slice A acc.length cap ∧ acc.length ≤ cap ∧ TreesAt wr (fun b => b < wr.heap.size) (Trees.of acc) A := by
 obtain ⟨⟨cs, hr, hc⟩, _⟩ := h
 obtain ⟨A, cap, h1, h2, h3⟩ := trees_of (P := fun _ => True) hr (hc.keep (fun _ _ _ _ => rfl) (fun b hb _ => trivial)) (fun g e => trivial)
 exact ⟨A, cap, h1, h2, h3.keep (fun _ _ _ _ => rfl) (fun b _ h => h)⟩
theorem orow_start (w : World) : ORow w.heap.size w [] (.slice none 0 0) w := ⟨⟨[], World.ownsRow_nil _ _ _ _, rfl⟩, Below.refl _ _, Nat.le_refl _⟩
theorem ORow.appends (h : ORow n0 w acc u wr) {A : Option Addr} {G : Trees} (c : Nat) (hA : TreesAt wr (fun b => some b ≠ u.ownBlock) G A) (hs : acc.length + G.len ≤ 200000000) (t ty : TypeId) (ht : Tryz.prog.underlying t = some (.slice 28)) :
  ∃ u' w', (Builtin.append_ #[t, t] ty #[u, .slice A G.len c]).run Tryz.prog wr = .ok u' w' ∧ ORow n0 w (acc ++ G.list) u' w' ∧ wr.grownBy w' u.ownBlock := by
 obtain ⟨i0, hi, hz0, hz1, hz2⟩ := info_parts info_nd
 have hl := h.own
 have h63 : acc.length + G.len ≤ maxLen := Nat.le_trans hs (by decide)
 have hby : (acc.length + G.len) * 80 ≤ 140737488355328 := by omega
 obtain ⟨⟨cs, hr, hc⟩, h3, h4⟩ := h
 cases A with
 | none =>
  have h0 : G = .nil := by
   cases G with
   | nil => rfl
   | cons k s ks lo hi r =>
    obtain ⟨b, o, B, cap, e, _⟩ := hA
    cases e
  subst h0
  refine ⟨u, wr, ?_, ?_, ⟨rfl, rfl, rfl, Nat.le_refl _, fun _ _ _ => rfl⟩⟩
  ·rcases hr.2 with ⟨rfl, _⟩ | ⟨g, cap, cur, rfl, _, _, hnc, _⟩
   ·simp [Builtin.append_, run_underlying ht, sizeOf, typeInfo, hi, Builtin.lenOf, Builtin.firstCells, Trees.len]
   ·simp [Builtin.append_, run_underlying ht, sizeOf, typeInfo, hi, Builtin.lenOf, Builtin.firstCells, hnc, storeCells, Trees.len]
  ·rw [show acc ++ Trees.nil.list = acc by simp [Trees.list]]
   exact ⟨⟨cs, hr, hc⟩, h3, h4⟩
 | some a =>
  have hcells : ∃ ds, CellsAre wr (fun b => some b ≠ u.ownBlock) G.list ds ∧ ∀ j v, ds[j]? = some v → wr.cell? (a.add j) = some v := by
   cases hG : G with
   | nil => exact ⟨[], rfl, fun j v hv => by cases hv⟩
   | cons k s ks lo hi r =>
    have hA2 := hA
    rw [hG] at hA2
    obtain ⟨b, o, B, cap, e, _⟩ := id hA2
    cases e
    rw [← Trees.of_list (.cons k s ks lo hi r)] at hA2
    obtain ⟨ds, h1, h2⟩ := TreesAt.cells hA2
    exact ⟨ds, h1, fun j v hv => by rw [addr_plus7]; exact h2 j v hv⟩
  obtain ⟨ds, hd1, hd2⟩ := hcells
  have hdl : ds.length = G.len * 8 := by rw [hd1.length, Trees.len_list]
  obtain ⟨u', w', h5, h6, h7, _, h9⟩ := run_append_own_at (P := Tryz.prog) wr n0 t ty 28 i0 _ 8 80 ht hi hz0 hz1 hz2 rfl (by decide) u acc.length cs hr a G.len c ds hdl hd2 (fun v hv => hd1.one v hv) h63 hby h4
  have hk : ∀ b i, some b ≠ u.ownBlock → b < wr.heap.size → w'.cell? ⟨b, i, none⟩ = wr.cell? ⟨b, i, none⟩ := fun b i hb hbl => World.cell?_of_block (h7.block b hbl hb)
  have hq : ∀ b, some b ≠ u.ownBlock → b < wr.heap.size → some b ≠ u'.ownBlock := fun b hb hbl e => by
   rcases h9 with h9 | h9
   ·exact hb (e.trans h9)
   ·rw [h9] at e
    cases e
    omega
  refine ⟨u', w', h5, ⟨⟨cs ++ ds, by rw [List.length_append, Trees.len_list]; exact h6, (hc.keep hk hq).app (hd1.keep hk hq)⟩, h3.grown h7 h4 (fun k e => (hl k e).1), Nat.le_trans h4 h7.size⟩, h7⟩
end
def ByC (n : Nat) (caps : Array Value) (g : Nd → List Nd) (w : World) (x : Nd) : Prop := ∀ (C : Option Addr) (capc : Nat) (W : World), Below w.heap.size w W → x.kids.len ≤ capc → TreesAt W (fun b => b < w.heap.size) x.kids C →
 Calls Tryz.prog n (#[ndV x C capc] ++ caps) W fun e w' => ∃ A c, e = .returned (.slice A (g x).length c) ∧ Below W.heap.size W w' ∧ (g x).length ≤ c ∧ TreesAt w' (fun b => b < w.heap.size ∨ W.heap.size ≤ b) (Trees.of (g x)) A
theorem sflat_take {F : Trees} {g : Nd → List Nd} {k : Nat} {z : Nd} (h : F.list[k]? = some z) : (F.list.take (k + 1)).flatMap g = (F.list.take k).flatMap g ++ g z := by
 rw [List.take_add_one, h, List.flatMap_append]
 simp
theorem sflat_len {l : List Nd} {g : Nd → List Nd} (k : Nat) : ((l.take k).flatMap g).length ≤ (l.flatMap g).length := by
 conv => rhs; rw [← List.take_append_drop k l, List.flatMap_append, List.length_append]
 omega
theorem sflat_go (F : Trees) (B : Option Addr) (cap : Nat) (w : World) (n : Nat) (caps : Array Value) (g : Nd → List Nd) (L : List Nd) (hL : F.list.flatMap g = L) (hl : F.len ≤ 100000000) (ht : TreesAt w (fun b => b < w.heap.size) F B) (hen : ∀ args W, (callFunc n args).run Tryz.prog W = .ok (.enter n args) W) (hby : ∀ x ∈ F.list, ByC n caps g w x) (hs : L.length ≤ 100000000) :
  Calls Tryz.prog 75 #[.slice B F.len cap, .func (.func n) #[] caps] w fun e w' => ∃ A c, e = .returned (.slice A L.length c) ∧ Below w.heap.size w w' ∧ L.length ≤ c ∧ TreesAt w' (fun b => b < w'.heap.size) (Trees.of L) A := by
 have HT := Lib.hid ht
 have HBy := Lib.hid hby
 have HS := Lib.hid hs
 have HL := Lib.hid hL
 have hFl := Trees.len_list F
 clear ht hby hs hL
 go_enter Tryz.func75, Tryz.ntmps75
 go_wp2
 go_loopw [5, 10] (fun u i wr => ∃ k : Nat, i = .int .i64 (k : Int) ∧ k ≤ F.len ∧ Hid (ORow w.heap.size w ((F.list.take k).flatMap g) u wr)) (fun _ i _ => F.len - (intOf i).toNat)
 case atStart => exact ⟨0, rfl, Nat.zero_le _, Lib.hid (orow_start w)⟩
 case round =>
  obtain ⟨k, rfl, hk, HR⟩ := hrel
  by_cases hlt : k < F.len
  ·obtain ⟨z, hz⟩ : ∃ z, F.list[k]? = some z := ⟨_, List.getElem?_eq_getElem (by omega)⟩
   have htk := sflat_take (g := g) hz
   have hle := sflat_len (l := F.list) (g := g) (k + 1)
   have HTk := Lib.hid htk
   obtain ⟨b, o, C, capc, rfl, _, hck, ⟨c0, c1, c2, c3, c4, c5, c6, c7⟩, hkz⟩ := (HT.out.below HR.out.2.1).get hz
   have hdl : (k : Int) < (F.len : Int) := by omega
   have hbl := World.block_lt_of_cell? wr _ c0
   have hb2 : Below wr.heap.size wr (wr.alloc (.cells (ndA z C capc) 28)) := (Below.refl _ _).alloc (Nat.le_refl _) _
   have hws := HR.out.2.2
   have HI := Lib.hid (HBy.out z (List.mem_of_getElem? hz) C capc (wr.alloc (.cells (ndA z C capc) 28)) (HR.out.2.1.trans (hb2.mono hws)) hck (hkz.below hb2))
   have Hrow2 := Lib.hid (HR.out.below hb2)
   have hsum : ((F.list.take k).flatMap g).length + (g z).length ≤ 100000000 := by
    rw [htk, List.length_append, HL.out] at hle
    have := HS.out
    omega
   clear hz hkz hb2 HR htk hck hle
   generalize (F.list.take k).flatMap g = acc at *
   unfold ndV at HI
   go_wp2_with fail
   refine HI.out.mono ?_
   rintro e w4 ⟨A4, cap4, rfl, hb4, hc4, ht4⟩
   have hl4 := Hrow2.out.own
   have hz4 := ht4.weak (Q := fun b => some b ≠ u5.ownBlock) (fun b hb _ e => by
    have := hl4 b e.symm
    rcases hb with h | h <;> omega)
   obtain ⟨v5, w5, hrun, hrow5, hgrow5⟩ := (Hrow2.out.below hb4).appends cap4 hz4 (by rw [Trees.len_of]; omega) 26 26 Tryz.underlying26
   rw [Trees.len_of] at hrun
   rw [Trees.list_of] at hrow5
   have HR5 := Lib.hid hrow5
   clear hrow5 hgrow5 hz4 ht4 hl4 hb4 HI Hrow2 c0 c1 c2 c3 c4 c5 c6 c7
   dsimp only
   go_wp2_with (at_builtin; refine wpList_append_by rfl _ _ 26 26 rfl _ _ _ _ rfl rfl hrun ?_)
   clear hrun
   go_light
   go_roundw
   case rel => exact ⟨k + 1, by go_num, by omega, Lib.hid (by rw [HTk.out]; exact HR5.out)⟩
   case measure => simp [intOf]; omega
  ·have hdl : ¬ (k : Int) < (F.len : Int) := by omega
   obtain rfl : k = F.len := by omega
   have hta : F.list.take F.len = F.list := by rw [← hFl]; exact List.take_length
   rw [hta, HL.out] at HR
   obtain ⟨A5, cap5, rfl, hc5, ht5⟩ := HR.out.trees
   have HB5 := Lib.hid HR.out.2.1
   have HT5 := Lib.hid ht5
   clear HR ht5 hta
   go_wp2
   go_light
   go_ret
   exact ⟨A5, cap5, rfl, HB5.out, hc5, HT5.out⟩
theorem row_oneS {U : World} {P : Nat → Prop} {g : Nat} {x : Nd} {C : Option Addr} {capc : Nat} (hB : Blk U g 28 (ndA x C capc)) (hP : P g) (hc : x.kids.len ≤ capc) (ht : TreesAt U P x.kids C) : TreesAt U P (Trees.of [x]) (some ⟨g, 0, none⟩) :=
 ⟨g, 0, C, capc, rfl, hP, hc, ⟨hB.cell 0, hB.cell 1, hB.cell 2, hB.cell 3, hB.cell 4, hB.cell 5, hB.cell 6, hB.cell 7⟩, ht, trivial⟩
def kidsV (g1 g2 : Nat) : Value := .func (.func 133) #[] #[.pointer (some ⟨g1, 0, none⟩), .pointer (some ⟨g2, 0, none⟩)]
theorem kidsOf_go (k q : Int) (w : World) :
  Calls Tryz.prog 76 #[.int .i64 k, .int .i64 q] w fun e w' => ∃ g1 g2, e = .returned (kidsV g1 g2) ∧ Below w.heap.size w w' ∧ w'.cell? ⟨g1, 0, none⟩ = some (.int .i64 k) ∧ w'.cell? ⟨g2, 0, none⟩ = some (.int .i64 q) := by
 have h1 : Blk ((w.alloc (.cells #[.int .i64 k] 22)).alloc (.cells #[.int .i64 q] 22)) w.heap.size 22 #[.int .i64 k] := (Blk.new w _ _).alloc _
 have h2 : Blk ((w.alloc (.cells #[.int .i64 k] 22)).alloc (.cells #[.int .i64 q] 22)) (w.heap.size + 1) 22 #[.int .i64 q] := Blk.new_at (by simp)
 go_enter Tryz.func76, Tryz.ntmps76
 go_wp2
 go_light
 go_ret
 exact ⟨_, _, rfl, ((Below.refl _ _).alloc (Nat.le_refl _) _).alloc (by simp) _, h1.cell 0, h2.cell 0⟩
theorem kids1_go (k q : Int) (g1 g2 : Nat) (w : World) (x : Nd) (hg1 : w.cell? ⟨g1, 0, none⟩ = some (.int .i64 k)) (hg2 : w.cell? ⟨g2, 0, none⟩ = some (.int .i64 q)) : ByC 133 #[.pointer (some ⟨g1, 0, none⟩), .pointer (some ⟨g2, 0, none⟩)] (flatK k q) w x := by
 intro C capc W hW hc ht
 have hl1 : g1 < w.heap.size := World.block_lt_of_cell? w _ hg1
 have hl2 : g2 < w.heap.size := World.block_lt_of_cell? w _ hg2
 have hal : Below W.heap.size W (W.alloc (.cells (ndA x C capc) 28)) := (Below.refl _ _).alloc (Nat.le_refl _) _
 have hb1 := hW.trans (hal.mono hW.size)
 have d1 := (hb1.cell (p := ⟨g1, 0, none⟩) hl1).trans hg1
 have d2 := (hb1.cell (p := ⟨g2, 0, none⟩) hl2).trans hg2
 have HX := Lib.hid (Blk.new W 28 (ndA x C capc))
 have HB := Lib.hid hal
 have HT := Lib.hid (ht.below hal)
 have hw2 := hW.size
 obtain ⟨p0, p1, p2, p3, p4, p5, p6, p7⟩ : _ ∧ _ ∧ _ ∧ _ ∧ _ ∧ _ ∧ _ ∧ _ := ⟨(HX.out).cell 0, (HX.out).cell 1, (HX.out).cell 2, (HX.out).cell 3, (HX.out).cell 4, (HX.out).cell 5, (HX.out).cell 6, (HX.out).cell 7⟩
 simp only [List.getElem?_toArray, List.getElem?_cons_zero, List.getElem?_cons_succ, ndA] at p0 p1 p2 p3 p4 p5 p6 p7
 have pl := (HX.out).lt
 clear hal hb1 ht hg1 hg2 hW
 unfold ndV
 unfold ndA at *
 by_cases h1 : x.kind = k
 ·have HF := Lib.hid (show flatK k q x = x.kids.list by unfold flatK; rw [if_pos h1])
  have hd : (x.kind == k) = true := by rw [beq_iff_eq]; exact h1
  have HL := Trees.len_list x.kids
  clear h1
  go_enter Tryz.func133, Tryz.ntmps133
  go_upto_region 1 with fail
  generalize W.alloc (.cells #[.int .i64 x.kind, .int .u64 (word x.set.testBit 0), .int .u64 (word x.set.testBit 1), .int .u64 (word x.set.testBit 2), .int .u64 (word x.set.testBit 3), .slice C x.kids.len capc, .int .i64 x.lo, .int .i64 x.hi] 28) = W1 at *
  go_wp2
  go_light
  go_ret
  rw [HF.out, HL, Trees.of_list]
  exact ⟨C, capc, rfl, HB.out, hc, HT.out.weak (fun b h _ => .inl h)⟩
 ·have hd : (x.kind == k) = false := by rw [beq_eq_false_iff_ne]; exact h1
  by_cases h2 : x.kind = q
  ·have HF := Lib.hid (show flatK k q x = [] by unfold flatK; rw [if_neg h1, if_pos h2])
   have hd2 : (x.kind == q) = true := by rw [beq_iff_eq]; exact h2
   clear h1 h2
   go_enter Tryz.func133, Tryz.ntmps133
   go_upto_region 1 with fail
   generalize W.alloc (.cells #[.int .i64 x.kind, .int .u64 (word x.set.testBit 0), .int .u64 (word x.set.testBit 1), .int .u64 (word x.set.testBit 2), .int .u64 (word x.set.testBit 3), .slice C x.kids.len capc, .int .i64 x.lo, .int .i64 x.hi] 28) = W1 at *
   go_wp2
   go_light
   go_ret
   rw [HF.out]
   exact ⟨none, 0, rfl, HB.out, Nat.le_refl _, trivial⟩
  ·have HF := Lib.hid (show flatK k q x = [x] by unfold flatK; rw [if_neg h1, if_neg h2])
   have hd2 : (x.kind == q) = false := by rw [beq_eq_false_iff_ne]; exact h2
   clear h1 h2
   go_enter Tryz.func133, Tryz.ntmps133
   go_upto_region 1 with fail
   generalize hW1 : W.alloc (.cells #[.int .i64 x.kind, .int .u64 (word x.set.testBit 0), .int .u64 (word x.set.testBit 1), .int .u64 (word x.set.testBit 2), .int .u64 (word x.set.testBit 3), .slice C x.kids.len capc, .int .i64 x.lo, .int .i64 x.hi] 28) = W1 at *
   have hsz : W.heap.size ≤ W1.heap.size := HB.out.size
   go_wp2
   go_light
   go_ret
   rw [HF.out]
   have hbw := (Below.refl W1.heap.size W1).alloc (Nat.le_refl _) (.cells (ndA x C capc) 28)
   exact ⟨_, _, rfl, HB.out.trans (hbw.mono hsz), Nat.le_refl _, row_oneS (Blk.new W1 _ _) (.inr hsz) hc ((HT.out.below hbw).weak (fun b h _ => .inl h))⟩
end
end Go.Proofs.YtofbfafnpdaejaaGreatDoor
