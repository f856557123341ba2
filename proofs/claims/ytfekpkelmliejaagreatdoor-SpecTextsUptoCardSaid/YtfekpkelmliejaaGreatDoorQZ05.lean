/- Texts of the claim. -/
import Derived.Test.YtfekpkelmliejaaGreatDoorQNext
import Derived.Test.YtfekpkelmliejaaGreatDoorQRefEsc
import Derived.Test.YtfekpkelmliejaaGreatDoorQZ04
import Derived.Test.YtfekpkelmliejaaGreatDoorQZ03
import Derived.Test.YtfekpkelmliejaaGreatDoorQZ01
namespace Go.Proofs.YtfekpkelmliejaaGreatDoor
open Go.RowKit
set_option linter.unusedSimpArgs false
set_option linter.unusedVariables false
set_option maxRecDepth 100000
set_option maxHeartbeats 8000000
theorem ret_split {fn : Func} {t4 t6 : Tmp} (h : fn.results = #[.tmp t4, .cell t6 75]) {tmps : Array Value} {w : World} {g' : Nat} {x y c : Value}
  (hc : tmps.getD t4 undef = c) (hp' : tmps.getD t6 undef = .pointer (some ⟨g', 0, none⟩)) (hb' : Blk w g' 75 #[x, y]) :
  (results fn tmps).run Tryz.prog w = .ok (.tuple #[c, .agg #[x, y]]) w := by
 have h2 := run_loadVar_row (P := Tryz.prog) w g' 75 75 #[x, y] (0, 0) _ hb' Tryz.underlying75 rfl (by kernel_rfl)
 simp only [results, h]
 simp only [Array.getD_eq_getD_getElem?] at hc hp'
 simp [Sem.run_bind, hc, hp', asAddr, h2, Result.andThen]
theorem own_mono {w : World} {base base' size n : Nat} {e : TypeId} {v : Value} {xs : List Value} (h : w.ownsRow base e size v n xs) (hb : base' ≤ base) : w.ownsRow base' e size v n xs := by
 obtain ⟨h1, h2 | ⟨g, cap, cur, e1, e2, h3⟩⟩ := h
 ·exact ⟨h1, .inl h2⟩
 ·exact ⟨h1, .inr ⟨g, cap, cur, e1, Nat.le_trans hb e2, h3⟩⟩
def Cuts (r : Except Wrong (List Lex)) (w : World) (e : Ending) (w' : World) : Prop :=
 match r with
 | .ok l => ∃ v, e = .returned (.tuple #[v, .agg #[.int .i64 0, .int .i64 0]]) ∧ Below w.heap.size w w' ∧ w'.ownsRow w.heap.size 139 8 v l.length (lexCells l)
 | .error (k, q) => e = .returned (.tuple #[.slice none 0 0, .agg #[.int .i64 k, .int .i64 q]]) ∧ Below w.heap.size w w'
theorem split_long (A : Option Addr) (cap : Nat) (bs : List Nat) (w : World) (hlen : 65536 < bs.length) (hmax : bs.length ≤ 140737488355328) :
  Calls Tryz.prog 101 #[.slice A bs.length cap] w (Cuts (splitS bs) w) := by
 have hd : decide ((65536 : Int) < (bs.length : Int)) = true := by simp; omega
 have hd' : (65536 : Int) < (bs.length : Int) := by omega
 have Hb := Lib.hid (Blk.new w 75 #[.int .i64 0, .int .i64 0])
 obtain ⟨b0, b1, x0, x1⟩ := Hb.out.c2
 rw [splitS_long hlen]
 clear hlen
 go_enter Tryz.func101, Tryz.ntmps101
 go_wp2
 go_light
 refine bodyPost_ret (ret_split Tryz.results101 rfl rfl (Blk.new w 75 #[.int .i64 4, .int .i64 65536])) rfl ⟨rfl, (Below.refl w.heap.size w).alloc (Nat.le_refl _) _⟩
theorem split_none (A : Option Addr) (cap : Nat) (w : World) :
  Calls Tryz.prog 101 #[.slice A 0 cap] w (Cuts (splitS []) w) := by
 have Hb := Lib.hid ((Blk.new w 75 #[.int .i64 0, .int .i64 0]).alloc (.cells #[.slice A 0 cap, .int .i64 0, .slice none 0 0, .int .i64 0, .int .i64 0] 180))
 have hs : Blk ((w.alloc (.cells #[.int .i64 0, .int .i64 0] 75)).alloc (.cells #[.slice A 0 cap, .int .i64 0, .slice none 0 0, .int .i64 0, .int .i64 0] 180)) (w.heap.size + 1) 180 #[.slice A 0 cap, .int .i64 0, .slice none 0 0, .int .i64 0, .int .i64 0] := Blk.new_at (by simp)
 obtain ⟨b0, b1, x0, x1⟩ := Hb.out.c2
 have s1 := hs.cell 1
 have s2 := hs.cell 2
 have HB := Lib.hid (((Below.refl w.heap.size w).alloc (Nat.le_refl _) (.cells #[.int .i64 0, .int .i64 0] 75)).alloc (by simp) (.cells #[.slice A 0 cap, .int .i64 0, .slice none 0 0, .int .i64 0, .int .i64 0] 180))
 clear hs
 rw [splitS_go (bs := []) (by simp), splitF_end (by simp)]
 go_enter Tryz.func101, Tryz.ntmps101
 go_wp2
 go_loopw [16] (fun v16 wr => wr = ((w.alloc (.cells #[.int .i64 0, .int .i64 0] 75)).alloc (.cells #[.slice A 0 cap, .int .i64 0, .slice none 0 0, .int .i64 0, .int .i64 0] 180))) (fun _ wr => 0)
 case atStart => rfl
 case round =>
  obtain rfl := hrel
  go_wp2
  go_light
  refine bodyPost_ret (ret_split Tryz.results101 rfl rfl Hb.out) rfl ⟨_, rfl, HB.out, World.ownsRow_nil _ _ _ _⟩
theorem split_some (b o cap : Nat) (bs : List Nat) (w : World) (hA : BytesAt w w.heap.size (some ⟨b, o, none⟩) bs) (hcap : bs.length ≤ cap) (hlen : bs.length ≤ 65536) (h0 : 0 < bs.length) :
  Calls Tryz.prog 101 #[.slice (some ⟨b, o, none⟩) bs.length cap] w (Cuts (splitS bs) w) := by
 have hl := hA.2.1
 have hb := hA.1
 have hd : decide ((65536 : Int) < (bs.length : Int)) = false := by simp; omega
 have hd' : ¬ (65536 : Int) < (bs.length : Int) := by omega
 have Hb0 := Lib.hid ((Blk.new w 75 #[.int .i64 0, .int .i64 0]).alloc (.cells #[.slice (some ⟨b, o, none⟩) bs.length cap, .int .i64 0, .slice none 0 0, .int .i64 0, .int .i64 0] 180))
 have hS0 : Spl ((w.alloc (.cells #[.int .i64 0, .int .i64 0] 75)).alloc (.cells #[.slice (some ⟨b, o, none⟩) bs.length cap, .int .i64 0, .slice none 0 0, .int .i64 0, .int .i64 0] 180)) (w.heap.size + 1) b o bs.length cap 0 (.slice none 0 0) 0 0 := Blk.new_at (by simp)
 have HS0 := Lib.hid hS0
 have HB0 := Lib.hid (((Below.refl w.heap.size w).alloc (Nat.le_refl _) (.cells #[.int .i64 0, .int .i64 0] 75)).alloc (by simp) (.cells #[.slice (some ⟨b, o, none⟩) bs.length cap, .int .i64 0, .slice none 0 0, .int .i64 0, .int .i64 0] 180))
 have HA0 := Lib.hid ((hA.below HB0.out).more (Nat.le_succ _))
 have hz0 : (((w.alloc (.cells #[.int .i64 0, .int .i64 0] 75)).alloc (.cells #[.slice (some ⟨b, o, none⟩) bs.length cap, .int .i64 0, .slice none 0 0, .int .i64 0, .int .i64 0] 180))).heap.size = w.heap.size + 2 := by simp
 have hR0 : w.heap.size < (((w.alloc (.cells #[.int .i64 0, .int .i64 0] 75)).alloc (.cells #[.slice (some ⟨b, o, none⟩) bs.length cap, .int .i64 0, .slice none 0 0, .int .i64 0, .int .i64 0] 180))).heap.size := by omega
 clear hA
 obtain ⟨s0, s1, s2, s3, s4, f0, f1, f2, f3, f4⟩ := hS0.cells
 clear hS0
 go_enter Tryz.func101, Tryz.ntmps101
 go_wp2
 go_loopw [16] (fun v16 wr => ∃ (i f : Nat) (v : Value) (L : List Lex), i ≤ bs.length ∧ L.length ≤ i ∧ bs.length < i + f ∧ splitF bs f i L = splitS bs ∧ Spl wr (w.heap.size + 1) b o bs.length cap i v 0 0 ∧ wr.ownsRow (w.heap.size + 1) 139 8 v L.length (lexCells L) ∧ Below (w.heap.size + 1) ((w.alloc (.cells #[.int .i64 0, .int .i64 0] 75)).alloc (.cells #[.slice (some ⟨b, o, none⟩) bs.length cap, .int .i64 0, .slice none 0 0, .int .i64 0, .int .i64 0] 180)) wr) (fun _ wr => bs.length - (intOf ((wr.cell? ⟨w.heap.size + 1, 1, none⟩).getD undef)).toNat)
 case atStart => exact ⟨0, bs.length + 1, _, [], by omega, by simp, by omega, (splitS_go hlen).symm, HS0.out, World.ownsRow_nil _ _ _ _, Below.refl _ _⟩
 case round =>
  obtain ⟨i, f, v, L, hi, hL, hf, hF, hS, hrow, hB⟩ := hrel
  obtain ⟨t0, t1, t2, t3, t4, g0, g1, g2, g3, g4⟩ := hS.cells
  have hbr := Hb0.out.below hB (by omega)
  obtain ⟨r0, r1, e0, e1⟩ := hbr.c2
  have hsz := hB.size
  by_cases hlt : i < bs.length
  ·have HG := Lib.hid (next_go (w.heap.size + 1) b o cap bs i v (w.heap.size + 1) L wr hS hrow (Nat.le_refl _) (by omega) (HA0.out.below hB) hlt hcap hlen)
   have hdl : (i : Int) < (bs.length : Int) := by omega
   have Hbr := Lib.hid hbr
   have HB := Lib.hid hB
   have HF := Lib.hid hF
   obtain ⟨f, rfl⟩ : ∃ f', f = f' + 1 := ⟨f - 1, by omega⟩
   clear hS hrow hB hbr hF r0 r1 e0 e1 t2 t3 t4
   cases hx : lexS bs i with
   | error x =>
    obtain ⟨k, q⟩ := x
    have hk0 : (k != 0) = true := by rw [bne_iff_ne]; exact lexS_err hb hx
    have HV := Lib.hid (show splitS bs = .error (k, q) by rw [← HF.out]; exact splitF_bad hlt hx)
    have Hx := Lib.hid hx
    clear hx
    go_wp2_with fail
    refine HG.out.mono ?_
    intro e w1 hs
    unfold Stepped at hs
    rw [Hx.out] at hs
    obtain ⟨rfl, hb1, i1, v1, hS1⟩ := hs
    obtain ⟨u0, u1, u2, u3, u4, g0, g1, g2, g3, g4⟩ := hS1.cells
    have hbr1 := Hbr.out.below hb1 (by omega)
    obtain ⟨r0, r1, e0, e1⟩ := hbr1.c2
    have Hbr1 := Lib.hid hbr1
    have HB1 := Lib.hid (HB.out.trans hb1)
    clear hb1 hS1 hbr1
    go_wp2
    go_region
    all_goals go_wp2
    all_goals go_light
    all_goals rw [HV.out]
    refine bodyPost_ret (ret_split Tryz.results101 rfl rfl Hbr1.out.drew.set2) rfl ⟨rfl, below_set2 (HB0.out.trans (HB1.out.mono (Nat.le_succ _))).drew (Nat.le_refl _) _ _⟩
   | ok x =>
    obtain ⟨x, j⟩ := x
    have hj := lexS_some hb hlt hx
    have HV := Lib.hid (show splitF bs f j (L ++ [x]) = splitS bs by rw [← HF.out]; exact (splitF_ok hlt hx).symm)
    have Hx := Lib.hid hx
    clear hx
    go_wp2_with fail
    refine HG.out.mono ?_
    intro e w1 hs
    unfold Stepped at hs
    rw [Hx.out] at hs
    obtain ⟨rfl, hb1, v1, hS1, hrow1⟩ := hs
    obtain ⟨u0, u1, u2, u3, u4, g0, g1, g2, g3, g4⟩ := hS1.cells
    have HS1 := Lib.hid hS1
    have HR1 := Lib.hid hrow1
    have HB1 := Lib.hid (HB.out.trans hb1)
    clear hb1 hS1 hrow1
    go_wp2
    go_roundw
    case rel => exact ⟨j, f, v1, L ++ [x], hj.2, by simp; omega, by omega, HV.out, HS1.out, by simpa using HR1.out, HB1.out⟩
    case measure => rw [t1, u1]; simp [intOf]; omega
  ·have HV := Lib.hid (show splitS bs = .ok L by rw [← hF]; obtain ⟨f, rfl⟩ : ∃ f', f = f' + 1 := ⟨f - 1, by omega⟩; exact splitF_end (by omega))
   have hdl : ¬ (i : Int) < (bs.length : Int) := by omega
   have Hbr := Lib.hid hbr
   have HB := Lib.hid hB
   have HS := Lib.hid hS
   have Hrow := Lib.hid hrow
   have Hne := Lib.hid (blk_not_row hbr (by decide) hrow)
   clear hS hrow hB hbr hF
   go_wp2
   go_light
   rw [HV.out]
   refine bodyPost_ret (ret_split Tryz.results101 rfl rfl Hbr.out.set2) rfl ⟨v, rfl, below_set2 (HB0.out.trans (HB.out.mono (Nat.le_succ _))) (Nat.le_refl _) _ _, own_set (own_set (own_mono Hrow.out (Nat.le_succ _)) Hne.out) Hne.out⟩
theorem split_go (A : Option Addr) (cap : Nat) (bs : List Nat) (w : World) (hA : BytesAt w w.heap.size A bs) (hcap : bs.length ≤ cap) :
  Calls Tryz.prog 101 #[.slice A bs.length cap] w (Cuts (splitS bs) w) := by
 rcases Nat.eq_zero_or_pos bs.length with h0 | h0
 ·obtain rfl : bs = [] := List.length_eq_zero_iff.mp h0
  exact split_none A cap w
 rcases Nat.lt_or_ge 65536 bs.length with h | h
 ·exact split_long A cap bs w h hA.2.1
 obtain ⟨b, o, rfl, _, _⟩ := hA.2.2 h0
 exact split_some b o cap bs w hA hcap h h0
theorem own_room {w : World} {base size n : Nat} {e : TypeId} {v : Value} {xs : List Value} {a : Option Addr} {cap : Nat} (h : w.ownsRow base e size v n xs) (hv : v = .slice a n cap) : n ≤ cap := by
 rcases h.2 with ⟨rfl, h0⟩ | ⟨g', cap', cur, rfl, _, _, hc, _⟩
 ·have := (Value.slice.inj hv).2.1
  omega
 ·have := (Value.slice.inj hv).2.2
  omega
theorem LexRow.at {w : World} {A : Option Addr} {cap : Nat} {L : List Lex} (h : LexRow w (.slice A L.length cap) L) : LexsAt w w.heap.size A L := fun hl => by
 obtain ⟨A', cap', hv, hc⟩ := h
 obtain ⟨rfl, _⟩ : A = A' ∧ cap = cap' := ⟨(Value.slice.inj hv).1, (Value.slice.inj hv).2.2⟩
 obtain ⟨x, hx⟩ : ∃ x, L[0]? = some x := ⟨_, List.getElem?_eq_getElem hl⟩
 obtain ⟨g, hg, c0, _⟩ := hc 0 x hx
 refine ⟨g, 0, hg, World.block_lt_of_cell? w _ c0, fun k y hy => ?_⟩
 obtain ⟨g', hg', d⟩ := hc k y hy
 obtain rfl : g = g' := by rw [hg] at hg'; simpa using hg'
 simpa using d
theorem one_leaf {x : Lex} (h : rightS x = true) (hk : x.kind = 1) : lexemesS [x] = .ok (leafN (maskOf x.set)) := by
 rw [lexemesS_ok (by simp [h]) (by simp)]
 have e : altG 6 [] [] [x] = .ok (leafN (maskOf x.set), []) := by
  have hp : piecesG 5 [] [] [x] = .ok ([leafN (maskOf x.set)], []) := by
   rw [piecesG_go (atomG_set hk)]
   exact piecesG_end (atomG_nil _ _)
  rw [altG_ok hp]
  rfl
 show (match altG 6 [] [] [x] with | .error e => Except.error e | .ok (x, _) => .ok x) = _
 rw [e]
theorem text_bad (A : Option Addr) (cap : Nat) (bs : List Nat) (w : World) (hA : BytesAt w w.heap.size A bs) (hcap : bs.length ≤ cap) {k q : Int} (hs : splitS bs = .error (k, q)) (hk : k ≠ 0) :
  Calls Tryz.prog 58 #[.slice A bs.length cap] w (TreeOut (parseS bs) w) := by
 have hd : (k != 0) = true := by rw [bne_iff_ne]; exact hk
 have HV := Lib.hid (show parseS bs = .error (k, q) by unfold parseS; rw [hs])
 have hb2 : Below w.heap.size w ((w.alloc (.cells #[.int .i64 0, .int .u64 0, .int .u64 0, .int .u64 0, .int .u64 0, .slice none 0 0, .int .i64 0, .int .i64 0] 28)).alloc (.cells #[.int .i64 0, .int .i64 0] 75)) := ((Below.refl _ _).alloc (Nat.le_refl _) _).alloc (by simp) _
 have HB2 := Lib.hid hb2
 have HG2 := Lib.hid (show Blk ((w.alloc (.cells #[.int .i64 0, .int .u64 0, .int .u64 0, .int .u64 0, .int .u64 0, .slice none 0 0, .int .i64 0, .int .i64 0] 28)).alloc (.cells #[.int .i64 0, .int .i64 0] 75)) w.heap.size 28 _ from (Blk.new w 28 #[.int .i64 0, .int .u64 0, .int .u64 0, .int .u64 0, .int .u64 0, .slice none 0 0, .int .i64 0, .int .i64 0]).alloc _)
 have HH2 := Lib.hid (show Blk ((w.alloc (.cells #[.int .i64 0, .int .u64 0, .int .u64 0, .int .u64 0, .int .u64 0, .slice none 0 0, .int .i64 0, .int .i64 0] 28)).alloc (.cells #[.int .i64 0, .int .i64 0] 75)) (w.heap.size + 1) 75 #[.int .i64 0, .int .i64 0] from Blk.new_at (by simp))
 have h1 := split_go A cap bs _ ((hA.below hb2).more (by simp; omega)) hcap
 rw [hs] at h1
 have H1 := Lib.hid h1
 clear hb2 hA hs h1 hk
 go_enter Tryz.func58, Tryz.ntmps58
 go_wp2_with fail
 refine H1.out.mono ?_
 rintro e w3 ⟨rfl, hb3⟩
 have HB3 := Lib.hid (HB2.out.trans (hb3.mono HB2.out.size))
 have hG3 := HG2.out.below hb3 HG2.out.lt
 have hH3 := HH2.out.below hb3 HH2.out.lt
 have HG3 := Lib.hid hG3
 have HH3 := Lib.hid hH3
 have hlt1 : w.heap.size < w3.heap.size := hG3.lt
 have hlt2 : w.heap.size + 1 < w3.heap.size := hH3.lt
 have hne1 : w.heap.size ≠ w3.heap.size := by omega
 have hne2 : w.heap.size + 1 ≠ w3.heap.size := by omega
 have y0 : w3.cell? ⟨w.heap.size, 0, none⟩ = some (.int .i64 0) := hG3.cell 0
 have y1 : w3.cell? ⟨w.heap.size, 1, none⟩ = some (.int .u64 0) := hG3.cell 1
 have y2 : w3.cell? ⟨w.heap.size, 2, none⟩ = some (.int .u64 0) := hG3.cell 2
 have y3 : w3.cell? ⟨w.heap.size, 3, none⟩ = some (.int .u64 0) := hG3.cell 3
 have y4 : w3.cell? ⟨w.heap.size, 4, none⟩ = some (.int .u64 0) := hG3.cell 4
 have y5 : w3.cell? ⟨w.heap.size, 5, none⟩ = some (.slice none 0 0) := hG3.cell 5
 have y6 : w3.cell? ⟨w.heap.size, 6, none⟩ = some (.int .i64 0) := hG3.cell 6
 have y7 : w3.cell? ⟨w.heap.size, 7, none⟩ = some (.int .i64 0) := hG3.cell 7
 have z0 := hG3.frozen 0
 have z1 := hG3.frozen 1
 have z2 := hG3.frozen 2
 have z3 := hG3.frozen 3
 have z4 := hG3.frozen 4
 have z5 := hG3.frozen 5
 have z6 := hG3.frozen 6
 have z7 := hG3.frozen 7
 obtain ⟨b0, b1, f0, f1⟩ := hH3.c2
 clear hb3 hG3 hH3 H1 HB2 HG2 HH2
 dsimp only
 go_wp2
 go_region
 all_goals go_wp2
 all_goals go_light
 rw [HV.out]
 exact bodyPost_ret (ret_tree Tryz.results58 rfl rfl (((HG3.out.put8 _ _ _ _ _ _ _ _).far2 (by omega) _ _).alloc _).drew (((HH3.out.past8 (by omega) _ _ _ _ _ _ _ _).set2).alloc _).drew) rfl ⟨rfl, ((below_set2 (below_put8 HB3.out (Nat.le_refl _) _ _ _ _ _ _ _ _) (by omega) _ _).alloc (by have := HB3.out.size; simpa [World.setCell] using this) _).drew⟩
theorem laid {n : Nat} {w w6 w7 : World} {x : Nd} {B : Option Addr} {cap : Nat} {k q : Int} (hG : Blk w6 n 28 #[.int .i64 0, .int .u64 0, .int .u64 0, .int .u64 0, .int .u64 0, .slice none 0 0, .int .i64 0, .int .i64 0]) (hH : Blk w6 (n + 1) 75 #[.int .i64 0, .int .i64 0]) (hB : Below n w w6) (hT : TreesAt w6 (fun b => n + 2 ≤ b) x.kids B)
  (hw : w7 = (((((((((w6.setCell ⟨n, 0, none⟩ (.int .i64 x.kind)).setCell ⟨n, 1, none⟩ (.int .u64 (word x.set.testBit 0))).setCell ⟨n, 2, none⟩ (.int .u64 (word x.set.testBit 1))).setCell ⟨n, 3, none⟩ (.int .u64 (word x.set.testBit 2))).setCell ⟨n, 4, none⟩ (.int .u64 (word x.set.testBit 3))).setCell ⟨n, 5, none⟩ (.slice B x.kids.len cap)).setCell ⟨n, 6, none⟩ (.int .i64 x.lo)).setCell ⟨n, 7, none⟩ (.int .i64 x.hi)).setCell ⟨n + 1, 0, none⟩ (.int .i64 k)).setCell ⟨n + 1, 1, none⟩ (.int .i64 q)) :
  Blk w7 n 28 (ndA x B cap) ∧ Blk w7 (n + 1) 75 #[.int .i64 k, .int .i64 q] ∧ Below n w w7 ∧ TreesAt w7 (fun b => n ≤ b) x.kids B := by
 have hg1 := only_put8 w6 n (.int .i64 x.kind) (.int .u64 (word x.set.testBit 0)) (.int .u64 (word x.set.testBit 1)) (.int .u64 (word x.set.testBit 2)) (.int .u64 (word x.set.testBit 3)) (.slice B x.kids.len cap) (.int .i64 x.lo) (.int .i64 x.hi)
 have ht7 := TreesAt.keep (Q := fun b => n + 2 ≤ b) (fun b o (hb : n + 2 ≤ b) hl => World.cell?_of_block (hg1.block b hl (by simp; omega))) (fun b hb _ => hb) hT
 have hg2 := only_set (only_set (only_refl ((((((((w6.setCell ⟨n, 0, none⟩ (.int .i64 x.kind)).setCell ⟨n, 1, none⟩ (.int .u64 (word x.set.testBit 0))).setCell ⟨n, 2, none⟩ (.int .u64 (word x.set.testBit 1))).setCell ⟨n, 3, none⟩ (.int .u64 (word x.set.testBit 2))).setCell ⟨n, 4, none⟩ (.int .u64 (word x.set.testBit 3))).setCell ⟨n, 5, none⟩ (.slice B x.kids.len cap)).setCell ⟨n, 6, none⟩ (.int .i64 x.lo)).setCell ⟨n, 7, none⟩ (.int .i64 x.hi)) (some (n + 1))) 0 (.int .i64 k)) 1 (.int .i64 q)
 have ht8 := TreesAt.keep (Q := fun b => n ≤ b) (fun b o (hb : n + 2 ≤ b) hl => World.cell?_of_block (hg2.block b hl (by simp; omega))) (fun b (hb : n + 2 ≤ b) _ => by omega) ht7
 have hG7 := (hG.put8 (.int .i64 x.kind) (.int .u64 (word x.set.testBit 0)) (.int .u64 (word x.set.testBit 1)) (.int .u64 (word x.set.testBit 2)) (.int .u64 (word x.set.testBit 3)) (.slice B x.kids.len cap) (.int .i64 x.lo) (.int .i64 x.hi)).far2 (g' := n + 1) (by omega) (.int .i64 k) (.int .i64 q)
 have hH7 := (hH.past8 (g' := n) (by omega) (.int .i64 x.kind) (.int .u64 (word x.set.testBit 0)) (.int .u64 (word x.set.testBit 1)) (.int .u64 (word x.set.testBit 2)) (.int .u64 (word x.set.testBit 3)) (.slice B x.kids.len cap) (.int .i64 x.lo) (.int .i64 x.hi)).set2 (a' := .int .i64 k) (b' := .int .i64 q)
 have hb7 := below_set2 (below_put8 hB (Nat.le_refl _) (.int .i64 x.kind) (.int .u64 (word x.set.testBit 0)) (.int .u64 (word x.set.testBit 1)) (.int .u64 (word x.set.testBit 2)) (.int .u64 (word x.set.testBit 3)) (.slice B x.kids.len cap) (.int .i64 x.lo) (.int .i64 x.hi)) (Nat.le_succ n) (.int .i64 k) (.int .i64 q)
 rw [hw]
 exact ⟨hG7, hH7, hb7, ht8⟩
theorem text_many (A : Option Addr) (cap : Nat) (bs : List Nat) (w : World) (hA : BytesAt w w.heap.size A bs) (hcap : bs.length ≤ cap) {L : List Lex} (hs : splitS bs = .ok L) (h1 : L.length ≠ 1) :
  Calls Tryz.prog 58 #[.slice A bs.length cap] w (TreeOut (parseS bs) w) := by
 have hd : ((L.length : Int) == 1) = false := by rw [beq_eq_false_iff_ne]; omega
 have hV : parseS bs = lexemesS L := by unfold parseS; rw [hs]
 clear h1
 cases hx : lexemesS L with
 | error x =>
  obtain ⟨k, q⟩ := x
  have HV := Lib.hid (hV.trans hx)
  have HX := Lib.hid hx
  clear hV hx
  have hL65 := (splitS_right hA.1 hs).2.2
  have hb2 : Below w.heap.size w ((w.alloc (.cells #[.int .i64 0, .int .u64 0, .int .u64 0, .int .u64 0, .int .u64 0, .slice none 0 0, .int .i64 0, .int .i64 0] 28)).alloc (.cells #[.int .i64 0, .int .i64 0] 75)) := ((Below.refl _ _).alloc (Nat.le_refl _) _).alloc (by simp) _
  have HB2 := Lib.hid hb2
  have HG2 := Lib.hid (show Blk ((w.alloc (.cells #[.int .i64 0, .int .u64 0, .int .u64 0, .int .u64 0, .int .u64 0, .slice none 0 0, .int .i64 0, .int .i64 0] 28)).alloc (.cells #[.int .i64 0, .int .i64 0] 75)) w.heap.size 28 _ from (Blk.new w 28 #[.int .i64 0, .int .u64 0, .int .u64 0, .int .u64 0, .int .u64 0, .slice none 0 0, .int .i64 0, .int .i64 0]).alloc _)
  have HH2 := Lib.hid (show Blk ((w.alloc (.cells #[.int .i64 0, .int .u64 0, .int .u64 0, .int .u64 0, .int .u64 0, .slice none 0 0, .int .i64 0, .int .i64 0] 28)).alloc (.cells #[.int .i64 0, .int .i64 0] 75)) (w.heap.size + 1) 75 #[.int .i64 0, .int .i64 0] from Blk.new_at (by simp))
  have h1 := split_go A cap bs _ ((hA.below hb2).more (by simp; omega)) hcap
  rw [hs] at h1
  have H1 := Lib.hid h1
  clear hb2 hA h1
  go_enter Tryz.func58, Tryz.ntmps58
  go_wp2_with fail
  refine H1.out.mono ?_
  rintro e w3 ⟨v, rfl, hb3, hrow3⟩
  obtain ⟨A3, cap3, rfl⟩ := own_slice hrow3
  have hb4 : Below w3.heap.size w3 (w3.alloc (.cells #[.int .i64 0, .int .i64 0] 75)) := (Below.refl _ _).alloc (Nat.le_refl _) _
  have HB4 := Lib.hid (HB2.out.trans ((hb3.trans (hb4.mono hb3.size)).mono HB2.out.size))
  have hG4 := (HG2.out.below hb3 HG2.out.lt).alloc (.cells #[.int .i64 0, .int .i64 0] 75)
  have hH4 := (HH2.out.below hb3 HH2.out.lt).alloc (.cells #[.int .i64 0, .int .i64 0] 75)
  have hc3 := own_room hrow3 rfl
  have HL4 := Lib.hid (((lexRow_of hrow3).at.below hb4).more hb4.size)
  have hsz4 : w.heap.size + 2 < (w3.alloc (.cells #[.int .i64 0, .int .i64 0] 75)).heap.size := by have := hb3.size; simp at this ⊢; omega
  have HG4 := Lib.hid hG4
  have HH4 := Lib.hid hH4
  clear hb3 hrow3 hb4 H1 HB2 HG2 HH2
  dsimp only
  skip
  have hP := lexemes_go _ cap3 L _ HL4.out (by omega) hc3
  rw [HX.out] at hP
  have HP := Lib.hid hP
  clear hP
  go_wp2_with fail
  refine HP.out.mono ?_
  rintro e w6 ⟨rfl, hb6⟩
  have hG6 := HG4.out.below hb6 HG4.out.lt
  have hH6 := HH4.out.below hb6 HH4.out.lt
  have HB6 := Lib.hid (HB4.out.trans (hb6.mono (by omega)))
  have y0 : w6.cell? ⟨w.heap.size, 0, none⟩ = some (.int .i64 0) := hG6.cell 0
  have y1 : w6.cell? ⟨w.heap.size, 1, none⟩ = some (.int .u64 0) := hG6.cell 1
  have y2 : w6.cell? ⟨w.heap.size, 2, none⟩ = some (.int .u64 0) := hG6.cell 2
  have y3 : w6.cell? ⟨w.heap.size, 3, none⟩ = some (.int .u64 0) := hG6.cell 3
  have y4 : w6.cell? ⟨w.heap.size, 4, none⟩ = some (.int .u64 0) := hG6.cell 4
  have y5 : w6.cell? ⟨w.heap.size, 5, none⟩ = some (.slice none 0 0) := hG6.cell 5
  have y6 : w6.cell? ⟨w.heap.size, 6, none⟩ = some (.int .i64 0) := hG6.cell 6
  have y7 : w6.cell? ⟨w.heap.size, 7, none⟩ = some (.int .i64 0) := hG6.cell 7
  have z0 := hG6.frozen 0
  have z1 := hG6.frozen 1
  have z2 := hG6.frozen 2
  have z3 := hG6.frozen 3
  have z4 := hG6.frozen 4
  have z5 := hG6.frozen 5
  have z6 := hG6.frozen 6
  have z7 := hG6.frozen 7
  obtain ⟨b0, b1, f0, f1⟩ := hH6.c2
  have HG6 := Lib.hid hG6
  have HH6 := Lib.hid hH6
  clear hb6 hG6 hH6 HP HG4 HH4 HB4 hG4 hH4
  unfold zeroN
  dsimp only
  go_wp2
  go_light
  rw [HV.out]
  exact bodyPost_ret (ret_tree Tryz.results58 rfl rfl ((HG6.out.put8 _ _ _ _ _ _ _ _).far2 (by omega) _ _) ((HH6.out.past8 (by omega) _ _ _ _ _ _ _ _).set2)) rfl ⟨rfl, below_set2 (below_put8 HB6.out (Nat.le_refl _) _ _ _ _ _ _ _ _) (by omega) _ _⟩
 | ok x =>
  have HV := Lib.hid (hV.trans hx)
  have HX := Lib.hid hx
  clear hV hx
  have hL65 := (splitS_right hA.1 hs).2.2
  have hb2 : Below w.heap.size w ((w.alloc (.cells #[.int .i64 0, .int .u64 0, .int .u64 0, .int .u64 0, .int .u64 0, .slice none 0 0, .int .i64 0, .int .i64 0] 28)).alloc (.cells #[.int .i64 0, .int .i64 0] 75)) := ((Below.refl _ _).alloc (Nat.le_refl _) _).alloc (by simp) _
  have HB2 := Lib.hid hb2
  have HG2 := Lib.hid (show Blk ((w.alloc (.cells #[.int .i64 0, .int .u64 0, .int .u64 0, .int .u64 0, .int .u64 0, .slice none 0 0, .int .i64 0, .int .i64 0] 28)).alloc (.cells #[.int .i64 0, .int .i64 0] 75)) w.heap.size 28 _ from (Blk.new w 28 #[.int .i64 0, .int .u64 0, .int .u64 0, .int .u64 0, .int .u64 0, .slice none 0 0, .int .i64 0, .int .i64 0]).alloc _)
  have HH2 := Lib.hid (show Blk ((w.alloc (.cells #[.int .i64 0, .int .u64 0, .int .u64 0, .int .u64 0, .int .u64 0, .slice none 0 0, .int .i64 0, .int .i64 0] 28)).alloc (.cells #[.int .i64 0, .int .i64 0] 75)) (w.heap.size + 1) 75 #[.int .i64 0, .int .i64 0] from Blk.new_at (by simp))
  have h1 := split_go A cap bs _ ((hA.below hb2).more (by simp; omega)) hcap
  rw [hs] at h1
  have H1 := Lib.hid h1
  clear hb2 hA h1
  go_enter Tryz.func58, Tryz.ntmps58
  go_wp2_with fail
  refine H1.out.mono ?_
  rintro e w3 ⟨v, rfl, hb3, hrow3⟩
  obtain ⟨A3, cap3, rfl⟩ := own_slice hrow3
  have hb4 : Below w3.heap.size w3 (w3.alloc (.cells #[.int .i64 0, .int .i64 0] 75)) := (Below.refl _ _).alloc (Nat.le_refl _) _
  have HB4 := Lib.hid (HB2.out.trans ((hb3.trans (hb4.mono hb3.size)).mono HB2.out.size))
  have hG4 := (HG2.out.below hb3 HG2.out.lt).alloc (.cells #[.int .i64 0, .int .i64 0] 75)
  have hH4 := (HH2.out.below hb3 HH2.out.lt).alloc (.cells #[.int .i64 0, .int .i64 0] 75)
  have hc3 := own_room hrow3 rfl
  have HL4 := Lib.hid (((lexRow_of hrow3).at.below hb4).more hb4.size)
  have hsz4 : w.heap.size + 2 < (w3.alloc (.cells #[.int .i64 0, .int .i64 0] 75)).heap.size := by have := hb3.size; simp at this ⊢; omega
  have HG4 := Lib.hid hG4
  have HH4 := Lib.hid hH4
  clear hb3 hrow3 hb4 H1 HB2 HG2 HH2
  dsimp only
  skip
  have hP := lexemes_go _ cap3 L _ HL4.out (by omega) hc3
  rw [HX.out] at hP
  have HP := Lib.hid hP
  clear hP
  go_wp2_with fail
  refine HP.out.mono ?_
  rintro e w6 ⟨B, cap6, rfl, hb6, hc6, ht6⟩
  have hG6 := HG4.out.below hb6 HG4.out.lt
  have hH6 := HH4.out.below hb6 HH4.out.lt
  have HB6 := Lib.hid (HB4.out.trans (hb6.mono (by omega)))
  have HT6 := Lib.hid (ht6.weak (Q := fun b => w.heap.size + 2 ≤ b) (fun b hb _ => by omega))
  have y0 : w6.cell? ⟨w.heap.size, 0, none⟩ = some (.int .i64 0) := hG6.cell 0
  have y1 : w6.cell? ⟨w.heap.size, 1, none⟩ = some (.int .u64 0) := hG6.cell 1
  have y2 : w6.cell? ⟨w.heap.size, 2, none⟩ = some (.int .u64 0) := hG6.cell 2
  have y3 : w6.cell? ⟨w.heap.size, 3, none⟩ = some (.int .u64 0) := hG6.cell 3
  have y4 : w6.cell? ⟨w.heap.size, 4, none⟩ = some (.int .u64 0) := hG6.cell 4
  have y5 : w6.cell? ⟨w.heap.size, 5, none⟩ = some (.slice none 0 0) := hG6.cell 5
  have y6 : w6.cell? ⟨w.heap.size, 6, none⟩ = some (.int .i64 0) := hG6.cell 6
  have y7 : w6.cell? ⟨w.heap.size, 7, none⟩ = some (.int .i64 0) := hG6.cell 7
  have z0 := hG6.frozen 0
  have z1 := hG6.frozen 1
  have z2 := hG6.frozen 2
  have z3 := hG6.frozen 3
  have z4 := hG6.frozen 4
  have z5 := hG6.frozen 5
  have z6 := hG6.frozen 6
  have z7 := hG6.frozen 7
  obtain ⟨b0, b1, f0, f1⟩ := hH6.c2
  have HG6 := Lib.hid hG6
  have HH6 := Lib.hid hH6
  clear hb6 ht6 hG6 hH6 HP HG4 HH4 HB4 hG4 hH4
  unfold ndV
  dsimp only
  go_wp2
  go_light
  have hF := laid (x := x) (B := B) (cap := cap6) (k := 0) (q := 0) HG6.out HH6.out HB6.out HT6.out rfl
  rw [HV.out]
  exact bodyPost_ret (ret_tree Tryz.results58 rfl rfl hF.1 hF.2.1) rfl ⟨B, cap6, rfl, hF.2.2.1, hc6, hF.2.2.2⟩
theorem text_sign (A : Option Addr) (cap : Nat) (bs : List Nat) (w : World) (hA : BytesAt w w.heap.size A bs) (hcap : bs.length ≤ cap) {y : Lex} (hs : splitS bs = .ok [y]) (h1 : y.kind ≠ 1) :
  Calls Tryz.prog 58 #[.slice A bs.length cap] w (TreeOut (parseS bs) w) := by
 obtain ⟨L, hL⟩ : ∃ L, L = [y] := ⟨_, rfl⟩
 have HLy := Lib.hid hL
 rw [← hL] at hs
 have hlen : L.length = 1 := by rw [hL]; rfl
 clear hL
 have hd : ((L.length : Int) == 1) = true := by rw [beq_iff_eq]; omega
 have hd0 : (0 : Int) < (L.length : Int) := by omega
 have hy : L[0]? = some y := by rw [HLy.out]; rfl
 have Hy := Lib.hid hy
 have hk : (y.kind == 1) = false := by simp; exact h1
 have hV : parseS bs = lexemesS L := by unfold parseS; rw [hs]
 clear h1 hlen hy
 cases hx : lexemesS L with
 | error x =>
  obtain ⟨k, q⟩ := x
  have HV := Lib.hid (hV.trans hx)
  have HX := Lib.hid hx
  clear hV hx
  have hL65 := (splitS_right hA.1 hs).2.2
  have hb2 : Below w.heap.size w ((w.alloc (.cells #[.int .i64 0, .int .u64 0, .int .u64 0, .int .u64 0, .int .u64 0, .slice none 0 0, .int .i64 0, .int .i64 0] 28)).alloc (.cells #[.int .i64 0, .int .i64 0] 75)) := ((Below.refl _ _).alloc (Nat.le_refl _) _).alloc (by simp) _
  have HB2 := Lib.hid hb2
  have HG2 := Lib.hid (show Blk ((w.alloc (.cells #[.int .i64 0, .int .u64 0, .int .u64 0, .int .u64 0, .int .u64 0, .slice none 0 0, .int .i64 0, .int .i64 0] 28)).alloc (.cells #[.int .i64 0, .int .i64 0] 75)) w.heap.size 28 _ from (Blk.new w 28 #[.int .i64 0, .int .u64 0, .int .u64 0, .int .u64 0, .int .u64 0, .slice none 0 0, .int .i64 0, .int .i64 0]).alloc _)
  have HH2 := Lib.hid (show Blk ((w.alloc (.cells #[.int .i64 0, .int .u64 0, .int .u64 0, .int .u64 0, .int .u64 0, .slice none 0 0, .int .i64 0, .int .i64 0] 28)).alloc (.cells #[.int .i64 0, .int .i64 0] 75)) (w.heap.size + 1) 75 #[.int .i64 0, .int .i64 0] from Blk.new_at (by simp))
  have h1 := split_go A cap bs _ ((hA.below hb2).more (by simp; omega)) hcap
  rw [hs] at h1
  have H1 := Lib.hid h1
  clear hb2 hA h1
  go_enter Tryz.func58, Tryz.ntmps58
  go_wp2_with fail
  refine H1.out.mono ?_
  rintro e w3 ⟨v, rfl, hb3, hrow3⟩
  obtain ⟨A3, cap3, rfl⟩ := own_slice hrow3
  have hb4 : Below w3.heap.size w3 (w3.alloc (.cells #[.int .i64 0, .int .i64 0] 75)) := (Below.refl _ _).alloc (Nat.le_refl _) _
  have HB4 := Lib.hid (HB2.out.trans ((hb3.trans (hb4.mono hb3.size)).mono HB2.out.size))
  have hG4 := (HG2.out.below hb3 HG2.out.lt).alloc (.cells #[.int .i64 0, .int .i64 0] 75)
  have hH4 := (HH2.out.below hb3 HH2.out.lt).alloc (.cells #[.int .i64 0, .int .i64 0] 75)
  have hc3 := own_room hrow3 rfl
  have HL4 := Lib.hid (((lexRow_of hrow3).at.below hb4).more hb4.size)
  have hsz4 : w.heap.size + 2 < (w3.alloc (.cells #[.int .i64 0, .int .i64 0] 75)).heap.size := by have := hb3.size; simp at this ⊢; omega
  have HG4 := Lib.hid hG4
  have HH4 := Lib.hid hH4
  clear hb3 hrow3 hb4 H1 HB2 HG2 HH2
  dsimp only
  obtain ⟨b4, o4, rfl, hbl4, hc4⟩ := HL4.out (by omega); obtain ⟨q0, _⟩ := hc4 0 y Hy.out; simp only [Nat.zero_mul, Nat.add_zero] at q0; clear hc4
  have hP := lexemes_go _ cap3 L _ HL4.out (by omega) hc3
  rw [HX.out] at hP
  have HP := Lib.hid hP
  clear hP
  go_wp2_with fail
  refine HP.out.mono ?_
  rintro e w6 ⟨rfl, hb6⟩
  have hG6 := HG4.out.below hb6 HG4.out.lt
  have hH6 := HH4.out.below hb6 HH4.out.lt
  have HB6 := Lib.hid (HB4.out.trans (hb6.mono (by omega)))
  have y0 : w6.cell? ⟨w.heap.size, 0, none⟩ = some (.int .i64 0) := hG6.cell 0
  have y1 : w6.cell? ⟨w.heap.size, 1, none⟩ = some (.int .u64 0) := hG6.cell 1
  have y2 : w6.cell? ⟨w.heap.size, 2, none⟩ = some (.int .u64 0) := hG6.cell 2
  have y3 : w6.cell? ⟨w.heap.size, 3, none⟩ = some (.int .u64 0) := hG6.cell 3
  have y4 : w6.cell? ⟨w.heap.size, 4, none⟩ = some (.int .u64 0) := hG6.cell 4
  have y5 : w6.cell? ⟨w.heap.size, 5, none⟩ = some (.slice none 0 0) := hG6.cell 5
  have y6 : w6.cell? ⟨w.heap.size, 6, none⟩ = some (.int .i64 0) := hG6.cell 6
  have y7 : w6.cell? ⟨w.heap.size, 7, none⟩ = some (.int .i64 0) := hG6.cell 7
  have z0 := hG6.frozen 0
  have z1 := hG6.frozen 1
  have z2 := hG6.frozen 2
  have z3 := hG6.frozen 3
  have z4 := hG6.frozen 4
  have z5 := hG6.frozen 5
  have z6 := hG6.frozen 6
  have z7 := hG6.frozen 7
  obtain ⟨b0, b1, f0, f1⟩ := hH6.c2
  have HG6 := Lib.hid hG6
  have HH6 := Lib.hid hH6
  clear hb6 hG6 hH6 HP HG4 HH4 HB4 hG4 hH4
  unfold zeroN
  dsimp only
  go_wp2
  go_light
  rw [HV.out]
  exact bodyPost_ret (ret_tree Tryz.results58 rfl rfl ((HG6.out.put8 _ _ _ _ _ _ _ _).far2 (by omega) _ _) ((HH6.out.past8 (by omega) _ _ _ _ _ _ _ _).set2)) rfl ⟨rfl, below_set2 (below_put8 HB6.out (Nat.le_refl _) _ _ _ _ _ _ _ _) (by omega) _ _⟩
 | ok x =>
  have HV := Lib.hid (hV.trans hx)
  have HX := Lib.hid hx
  clear hV hx
  have hL65 := (splitS_right hA.1 hs).2.2
  have hb2 : Below w.heap.size w ((w.alloc (.cells #[.int .i64 0, .int .u64 0, .int .u64 0, .int .u64 0, .int .u64 0, .slice none 0 0, .int .i64 0, .int .i64 0] 28)).alloc (.cells #[.int .i64 0, .int .i64 0] 75)) := ((Below.refl _ _).alloc (Nat.le_refl _) _).alloc (by simp) _
  have HB2 := Lib.hid hb2
  have HG2 := Lib.hid (show Blk ((w.alloc (.cells #[.int .i64 0, .int .u64 0, .int .u64 0, .int .u64 0, .int .u64 0, .slice none 0 0, .int .i64 0, .int .i64 0] 28)).alloc (.cells #[.int .i64 0, .int .i64 0] 75)) w.heap.size 28 _ from (Blk.new w 28 #[.int .i64 0, .int .u64 0, .int .u64 0, .int .u64 0, .int .u64 0, .slice none 0 0, .int .i64 0, .int .i64 0]).alloc _)
  have HH2 := Lib.hid (show Blk ((w.alloc (.cells #[.int .i64 0, .int .u64 0, .int .u64 0, .int .u64 0, .int .u64 0, .slice none 0 0, .int .i64 0, .int .i64 0] 28)).alloc (.cells #[.int .i64 0, .int .i64 0] 75)) (w.heap.size + 1) 75 #[.int .i64 0, .int .i64 0] from Blk.new_at (by simp))
  have h1 := split_go A cap bs _ ((hA.below hb2).more (by simp; omega)) hcap
  rw [hs] at h1
  have H1 := Lib.hid h1
  clear hb2 hA h1
  go_enter Tryz.func58, Tryz.ntmps58
  go_wp2_with fail
  refine H1.out.mono ?_
  rintro e w3 ⟨v, rfl, hb3, hrow3⟩
  obtain ⟨A3, cap3, rfl⟩ := own_slice hrow3
  have hb4 : Below w3.heap.size w3 (w3.alloc (.cells #[.int .i64 0, .int .i64 0] 75)) := (Below.refl _ _).alloc (Nat.le_refl _) _
  have HB4 := Lib.hid (HB2.out.trans ((hb3.trans (hb4.mono hb3.size)).mono HB2.out.size))
  have hG4 := (HG2.out.below hb3 HG2.out.lt).alloc (.cells #[.int .i64 0, .int .i64 0] 75)
  have hH4 := (HH2.out.below hb3 HH2.out.lt).alloc (.cells #[.int .i64 0, .int .i64 0] 75)
  have hc3 := own_room hrow3 rfl
  have HL4 := Lib.hid (((lexRow_of hrow3).at.below hb4).more hb4.size)
  have hsz4 : w.heap.size + 2 < (w3.alloc (.cells #[.int .i64 0, .int .i64 0] 75)).heap.size := by have := hb3.size; simp at this ⊢; omega
  have HG4 := Lib.hid hG4
  have HH4 := Lib.hid hH4
  clear hb3 hrow3 hb4 H1 HB2 HG2 HH2
  dsimp only
  obtain ⟨b4, o4, rfl, hbl4, hc4⟩ := HL4.out (by omega); obtain ⟨q0, _⟩ := hc4 0 y Hy.out; simp only [Nat.zero_mul, Nat.add_zero] at q0; clear hc4
  have hP := lexemes_go _ cap3 L _ HL4.out (by omega) hc3
  rw [HX.out] at hP
  have HP := Lib.hid hP
  clear hP
  go_wp2_with fail
  refine HP.out.mono ?_
  rintro e w6 ⟨B, cap6, rfl, hb6, hc6, ht6⟩
  have hG6 := HG4.out.below hb6 HG4.out.lt
  have hH6 := HH4.out.below hb6 HH4.out.lt
  have HB6 := Lib.hid (HB4.out.trans (hb6.mono (by omega)))
  have HT6 := Lib.hid (ht6.weak (Q := fun b => w.heap.size + 2 ≤ b) (fun b hb _ => by omega))
  have y0 : w6.cell? ⟨w.heap.size, 0, none⟩ = some (.int .i64 0) := hG6.cell 0
  have y1 : w6.cell? ⟨w.heap.size, 1, none⟩ = some (.int .u64 0) := hG6.cell 1
  have y2 : w6.cell? ⟨w.heap.size, 2, none⟩ = some (.int .u64 0) := hG6.cell 2
  have y3 : w6.cell? ⟨w.heap.size, 3, none⟩ = some (.int .u64 0) := hG6.cell 3
  have y4 : w6.cell? ⟨w.heap.size, 4, none⟩ = some (.int .u64 0) := hG6.cell 4
  have y5 : w6.cell? ⟨w.heap.size, 5, none⟩ = some (.slice none 0 0) := hG6.cell 5
  have y6 : w6.cell? ⟨w.heap.size, 6, none⟩ = some (.int .i64 0) := hG6.cell 6
  have y7 : w6.cell? ⟨w.heap.size, 7, none⟩ = some (.int .i64 0) := hG6.cell 7
  have z0 := hG6.frozen 0
  have z1 := hG6.frozen 1
  have z2 := hG6.frozen 2
  have z3 := hG6.frozen 3
  have z4 := hG6.frozen 4
  have z5 := hG6.frozen 5
  have z6 := hG6.frozen 6
  have z7 := hG6.frozen 7
  obtain ⟨b0, b1, f0, f1⟩ := hH6.c2
  have HG6 := Lib.hid hG6
  have HH6 := Lib.hid hH6
  clear hb6 ht6 hG6 hH6 HP HG4 HH4 HB4 hG4 hH4
  unfold ndV
  dsimp only
  go_wp2
  go_light
  have hF := laid (x := x) (B := B) (cap := cap6) (k := 0) (q := 0) HG6.out HH6.out HB6.out HT6.out rfl
  rw [HV.out]
  exact bodyPost_ret (ret_tree Tryz.results58 rfl rfl hF.1 hF.2.1) rfl ⟨B, cap6, rfl, hF.2.2.1, hc6, hF.2.2.2⟩
theorem text_set (A : Option Addr) (cap : Nat) (bs : List Nat) (w : World) (hA : BytesAt w w.heap.size A bs) (hcap : bs.length ≤ cap) {y : Lex} (hs : splitS bs = .ok [y]) (h1 : y.kind = 1) :
  Calls Tryz.prog 58 #[.slice A bs.length cap] w (TreeOut (parseS bs) w) := by
 have hr : rightS y = true := (splitS_right hA.1 hs).1 0 y rfl
 have hx := one_leaf hr h1
 have HV := Lib.hid (show parseS bs = .ok (leafN (maskOf y.set)) by unfold parseS; rw [hs]; exact hx)
 obtain ⟨L, hL⟩ : ∃ L, L = [y] := ⟨_, rfl⟩
 have HLy := Lib.hid hL
 rw [← hL] at hs hx
 have HX := Lib.hid hx
 have hlen : L.length = 1 := by rw [hL]; rfl
 clear hL
 have hd : ((L.length : Int) == 1) = true := by rw [beq_iff_eq]; omega
 have hd0 : (0 : Int) < (L.length : Int) := by omega
 have hy : L[0]? = some y := by rw [HLy.out]; rfl
 have Hy := Lib.hid hy
 clear hlen hy hr hx
 have hL65 := (splitS_right hA.1 hs).2.2
 have hb2 : Below w.heap.size w ((w.alloc (.cells #[.int .i64 0, .int .u64 0, .int .u64 0, .int .u64 0, .int .u64 0, .slice none 0 0, .int .i64 0, .int .i64 0] 28)).alloc (.cells #[.int .i64 0, .int .i64 0] 75)) := ((Below.refl _ _).alloc (Nat.le_refl _) _).alloc (by simp) _
 have HB2 := Lib.hid hb2
 have HG2 := Lib.hid (show Blk ((w.alloc (.cells #[.int .i64 0, .int .u64 0, .int .u64 0, .int .u64 0, .int .u64 0, .slice none 0 0, .int .i64 0, .int .i64 0] 28)).alloc (.cells #[.int .i64 0, .int .i64 0] 75)) w.heap.size 28 _ from (Blk.new w 28 #[.int .i64 0, .int .u64 0, .int .u64 0, .int .u64 0, .int .u64 0, .slice none 0 0, .int .i64 0, .int .i64 0]).alloc _)
 have HH2 := Lib.hid (show Blk ((w.alloc (.cells #[.int .i64 0, .int .u64 0, .int .u64 0, .int .u64 0, .int .u64 0, .slice none 0 0, .int .i64 0, .int .i64 0] 28)).alloc (.cells #[.int .i64 0, .int .i64 0] 75)) (w.heap.size + 1) 75 #[.int .i64 0, .int .i64 0] from Blk.new_at (by simp))
 have h1 := split_go A cap bs _ ((hA.below hb2).more (by simp; omega)) hcap
 rw [hs] at h1
 have H1 := Lib.hid h1
 clear hb2 hA h1
 go_enter Tryz.func58, Tryz.ntmps58
 go_wp2_with fail
 refine H1.out.mono ?_
 rintro e w3 ⟨v, rfl, hb3, hrow3⟩
 obtain ⟨A3, cap3, rfl⟩ := own_slice hrow3
 have hb4 : Below w3.heap.size w3 (w3.alloc (.cells #[.int .i64 0, .int .i64 0] 75)) := (Below.refl _ _).alloc (Nat.le_refl _) _
 have HB4 := Lib.hid (HB2.out.trans ((hb3.trans (hb4.mono hb3.size)).mono HB2.out.size))
 have hG4 := (HG2.out.below hb3 HG2.out.lt).alloc (.cells #[.int .i64 0, .int .i64 0] 75)
 have hH4 := (HH2.out.below hb3 HH2.out.lt).alloc (.cells #[.int .i64 0, .int .i64 0] 75)
 have hc3 := own_room hrow3 rfl
 have HL4 := Lib.hid (((lexRow_of hrow3).at.below hb4).more hb4.size)
 have hsz4 : w.heap.size + 2 < (w3.alloc (.cells #[.int .i64 0, .int .i64 0] 75)).heap.size := by have := hb3.size; simp at this ⊢; omega
 have HG4 := Lib.hid hG4
 have HH4 := Lib.hid hH4
 clear hb3 hrow3 hb4 H1 HB2 HG2 HH2
 dsimp only
 obtain ⟨b4, o4, rfl, hbl4, hc4⟩ := HL4.out (by omega)
 obtain ⟨q0, _, q2, q3, q4, q5, _⟩ := hc4 0 y Hy.out
 simp only [Nat.zero_mul, Nat.add_zero] at q0 q2 q3 q4 q5
 rw [h1] at q0
 have q3' : (w3.alloc (.cells #[.int .i64 0, .int .i64 0] 75)).cell? ⟨b4, o4 + 2 + 1, none⟩ = some (.int .u64 (word y.set 1)) := q3
 have q4' : (w3.alloc (.cells #[.int .i64 0, .int .i64 0] 75)).cell? ⟨b4, o4 + 2 + 2, none⟩ = some (.int .u64 (word y.set 2)) := q4
 have q5' : (w3.alloc (.cells #[.int .i64 0, .int .i64 0] 75)).cell? ⟨b4, o4 + 2 + 3, none⟩ = some (.int .u64 (word y.set 3)) := q5
 clear hc4 hG4 hH4
 go_wp2_with fail
 refine (count_go y.set _).mono ?_
 rintro e w5 ⟨rfl, hb5⟩
 have hG5 := HG4.out.below hb5 HG4.out.lt
 have hH5 := HH4.out.below hb5 HH4.out.lt
 have HB5 := Lib.hid (HB4.out.trans (hb5.mono (by omega)))
 have HL5 := Lib.hid ((HL4.out.below hb5).more hb5.size)
 have hsz5 := hb5.size
 have q2 := (hb5.cell (p := ⟨b4, o4 + 2, none⟩) hbl4).trans q2
 have q3' := (hb5.cell (p := ⟨b4, o4 + 2 + 1, none⟩) hbl4).trans q3'
 have q4' := (hb5.cell (p := ⟨b4, o4 + 2 + 2, none⟩) hbl4).trans q4'
 have q5' := (hb5.cell (p := ⟨b4, o4 + 2 + 3, none⟩) hbl4).trans q5'
 have HG5 := Lib.hid hG5
 have HH5 := Lib.hid hH5
 clear hb5 hG5 hH5 HB4 HG4 HH4 HL4 q0
 dsimp only
 by_cases hcn : cnt y.set 256 = 1
 ·rw [hcn]
  clear hcn
  go_wp2_with fail
  refine (tbytes_any y.set _).mono ?_
  rintro e w6 ⟨rfl, hb6⟩
  have hG6 := HG5.out.below hb6 HG5.out.lt
  have hH6 := HH5.out.below hb6 HH5.out.lt
  have HB6 := Lib.hid (HB5.out.trans (hb6.mono (by omega)))
  have HT6 : Hid (TreesAt w6 (fun b => w.heap.size + 2 ≤ b) (leafN (maskOf y.set)).kids none) := Lib.hid trivial
  have y0 : w6.cell? ⟨w.heap.size, 0, none⟩ = some (.int .i64 0) := hG6.cell 0
  have y1 : w6.cell? ⟨w.heap.size, 1, none⟩ = some (.int .u64 0) := hG6.cell 1
  have y2 : w6.cell? ⟨w.heap.size, 2, none⟩ = some (.int .u64 0) := hG6.cell 2
  have y3 : w6.cell? ⟨w.heap.size, 3, none⟩ = some (.int .u64 0) := hG6.cell 3
  have y4 : w6.cell? ⟨w.heap.size, 4, none⟩ = some (.int .u64 0) := hG6.cell 4
  have y5 : w6.cell? ⟨w.heap.size, 5, none⟩ = some (.slice none 0 0) := hG6.cell 5
  have y6 : w6.cell? ⟨w.heap.size, 6, none⟩ = some (.int .i64 0) := hG6.cell 6
  have y7 : w6.cell? ⟨w.heap.size, 7, none⟩ = some (.int .i64 0) := hG6.cell 7
  have z0 := hG6.frozen 0
  have z1 := hG6.frozen 1
  have z2 := hG6.frozen 2
  have z3 := hG6.frozen 3
  have z4 := hG6.frozen 4
  have z5 := hG6.frozen 5
  have z6 := hG6.frozen 6
  have z7 := hG6.frozen 7
  obtain ⟨b0, b1, f0, f1⟩ := hH6.c2
  have HG6 := Lib.hid hG6
  have HH6 := Lib.hid hH6
  clear hb6 hG6 hH6 HG5 HH5 HB5
  have hv3 : ndV (leafN (maskOf y.set)) none 0 = .agg #[.int .i64 3, .int .u64 ((word ((maskOf y.set).testBit) 0 : Nat) : Int), .int .u64 ((word ((maskOf y.set).testBit) 1 : Nat) : Int), .int .u64 ((word ((maskOf y.set).testBit) 2 : Nat) : Int), .int .u64 ((word ((maskOf y.set).testBit) 3 : Nat) : Int), .slice none 0 0, .int .i64 0, .int .i64 0] := rfl
  rw [hv3]
  clear hv3
  dsimp only
  go_wp2
  go_light
  have hF := laid (x := leafN (maskOf y.set)) (B := none) (cap := 0) (k := 0) (q := 0) HG6.out HH6.out HB6.out HT6.out rfl
  rw [HV.out]
  exact bodyPost_ret (ret_tree Tryz.results58 rfl rfl hF.1 hF.2.1) rfl ⟨none, 0, rfl, hF.2.2.1, Nat.le_refl _, hF.2.2.2⟩
 ·have hd2 : (((cnt y.set 256 : Nat) : Int) == 1) = false := by rw [beq_eq_false_iff_ne]; omega
  clear hcn
  have hP := lexemes_go _ cap3 L _ HL5.out (by omega) hc3
  rw [HX.out] at hP
  have HP := Lib.hid hP
  clear hP
  go_wp2_with fail
  refine HP.out.mono ?_
  rintro e w6 ⟨B, cap6, rfl, hb6, hc6, ht6⟩
  have hG6 := HG5.out.below hb6 HG5.out.lt
  have hH6 := HH5.out.below hb6 HH5.out.lt
  have HB6 := Lib.hid (HB5.out.trans (hb6.mono (by omega)))
  have HT6 := Lib.hid (ht6.weak (Q := fun b => w.heap.size + 2 ≤ b) (fun b hb _ => by omega))
  have y0 : w6.cell? ⟨w.heap.size, 0, none⟩ = some (.int .i64 0) := hG6.cell 0
  have y1 : w6.cell? ⟨w.heap.size, 1, none⟩ = some (.int .u64 0) := hG6.cell 1
  have y2 : w6.cell? ⟨w.heap.size, 2, none⟩ = some (.int .u64 0) := hG6.cell 2
  have y3 : w6.cell? ⟨w.heap.size, 3, none⟩ = some (.int .u64 0) := hG6.cell 3
  have y4 : w6.cell? ⟨w.heap.size, 4, none⟩ = some (.int .u64 0) := hG6.cell 4
  have y5 : w6.cell? ⟨w.heap.size, 5, none⟩ = some (.slice none 0 0) := hG6.cell 5
  have y6 : w6.cell? ⟨w.heap.size, 6, none⟩ = some (.int .i64 0) := hG6.cell 6
  have y7 : w6.cell? ⟨w.heap.size, 7, none⟩ = some (.int .i64 0) := hG6.cell 7
  have z0 := hG6.frozen 0
  have z1 := hG6.frozen 1
  have z2 := hG6.frozen 2
  have z3 := hG6.frozen 3
  have z4 := hG6.frozen 4
  have z5 := hG6.frozen 5
  have z6 := hG6.frozen 6
  have z7 := hG6.frozen 7
  obtain ⟨b0, b1, f0, f1⟩ := hH6.c2
  have HG6 := Lib.hid hG6
  have HH6 := Lib.hid hH6
  clear hb6 ht6 hG6 hH6 HP HG5 HH5 HB5
  unfold ndV
  dsimp only
  go_wp2
  go_light
  have hF := laid (x := leafN (maskOf y.set)) (B := B) (cap := cap6) (k := 0) (q := 0) HG6.out HH6.out HB6.out HT6.out rfl
  rw [HV.out]
  exact bodyPost_ret (ret_tree Tryz.results58 rfl rfl hF.1 hF.2.1) rfl ⟨B, cap6, rfl, hF.2.2.1, hc6, hF.2.2.2⟩
theorem splitF_kind {bs : List Nat} (hb : ∀ x ∈ bs, x < 256) : ∀ {f i : Nat} {L : List Lex} {k q : Int}, bs.length < f + i → i ≤ bs.length → splitF bs f i L = .error (k, q) → k ≠ 0
 | 0, i, L, k, q, hf, hi, h => by omega
 | f + 1, i, L, k, q, hf, hi, h => by
  rcases Nat.lt_or_ge i bs.length with h1 | h1
  ·cases hx : lexS bs i with
   | error e =>
    obtain ⟨a, b⟩ := e
    rw [splitF_bad h1 hx] at h
    cases h
    exact lexS_err hb hx
   | ok x =>
    obtain ⟨x, j⟩ := x
    have hj := lexS_some hb h1 hx
    rw [splitF_ok h1 hx] at h
    exact splitF_kind hb (by omega) hj.2 h
  ·rw [splitF_end h1] at h; cases h
theorem splitS_kind {bs : List Nat} (hb : ∀ x ∈ bs, x < 256) {k q : Int} (h : splitS bs = .error (k, q)) : k ≠ 0 := by
 rcases Nat.lt_or_ge 65536 bs.length with h1 | h1
 ·rw [splitS_long h1] at h
  cases h
  decide
 ·rw [splitS_go h1] at h
  exact splitF_kind hb (by omega) (Nat.zero_le _) h
theorem text_go07 (A : Option Addr) (cap : Nat) (bs : List Nat) (w : World) (hA : BytesAt w w.heap.size A bs) (hcap : bs.length ≤ cap) :
  Calls Tryz.prog 58 #[.slice A bs.length cap] w (TreeOut (parseS bs) w) := by
 cases hs : splitS bs with
 | error x =>
  obtain ⟨k, q⟩ := x
  exact text_bad A cap bs w hA hcap hs (splitS_kind hA.1 hs)
 | ok L =>
  by_cases h1 : L.length = 1
  ·obtain ⟨y, rfl⟩ := List.length_eq_one_iff.1 h1
   by_cases hk : y.kind = 1
   ·exact text_set A cap bs w hA hcap hs hk
   ·exact text_sign A cap bs w hA hcap hs hk
  ·exact text_many A cap bs w hA hcap hs h1
structure WFr (w : World) (base g : Nat) (S : Nat → Prop) (nd : Array Value) (S1 : Nat → Prop) (L : List Lex) (w1 : World) : Prop where
 p : Blk w1 w.heap.size 231 #[.pointer (some ⟨g, 0, none⟩)]
 x : Blk w1 (w.heap.size + 1) 28 nd
 wr : WrAt w1 base g S1 L
 mvs : Moves base S w S1 w1
 np : ¬ S1 w.heap.size
 nx : ¬ S1 (w.heap.size + 1)
 hb : base ≤ w.heap.size
theorem WFr.start {w : World} {base g : Nat} {S : Nat → Prop} {L : List Lex} (nd : Array Value) (h : WrAt w base g S L) (hb : base ≤ w.heap.size) : WFr w base g S nd S L ((w.alloc (.cells #[.pointer (some ⟨g, 0, none⟩)] 231)).alloc (.cells nd 28)) :=
 ⟨(Blk.new w _ _).alloc _, Blk.new_at (by simp), (h.alloc _).alloc _, ((Moves.refl base S w).alloc hb _).alloc hb _, h.not (Nat.le_refl _), h.not (by omega), hb⟩
theorem WFr.go {w w1 : World} {base g : Nat} {S S1 : Nat → Prop} {L : List Lex} {nd : Array Value} (h : WFr w base g S nd S1 L w1) {w2 : World} {S2 : Nat → Prop} {L2 : List Lex} (hm : WrAt w2 base g S2 L2) (hv : Moves base S1 w1 S2 w2) : WFr w base g S nd S2 L2 w2 :=
 ⟨h.p.moves hv h.np, h.x.moves hv h.nx, hm, h.mvs.trans hv, hv.notIn h.p.lt h.np, hv.notIn h.x.lt h.nx, h.hb⟩
theorem WFr.below {w w1 : World} {base g : Nat} {S S1 : Nat → Prop} {L : List Lex} {nd : Array Value} (h : WFr w base g S nd S1 L w1) {w2 : World} (hB : Below w1.heap.size w1 w2) : WFr w base g S nd S1 L w2 :=
 h.go (h.wr.below hB) (Moves.of_below hB (by have := h.mvs.size; have := h.hb; omega))
theorem WFr.size {w w1 : World} {base g : Nat} {S S1 : Nat → Prop} {L : List Lex} {nd : Array Value} (h : WFr w base g S nd S1 L w1) : base ≤ w1.heap.size := by
 have := h.mvs.size; have := h.hb; omega
theorem WFr.out {w w1 : World} {base g : Nat} {S S1 : Nat → Prop} {L : List Lex} {nd : Array Value} (h : WFr w base g S nd S1 L w1) {e : Ending} (he : e = .returned (.tuple #[])) : WrOut base g S w L e w1 := ⟨he, S1, h.wr, h.mvs⟩
def WFrM (w : World) (base g : Nat) (S : Nat → Prop) (nd : Array Value) (L : List Lex) (w1 : World) : Prop := ∃ S1, WFr w base g S nd S1 L w1
theorem flat_take {α : Type} (l : List (List α)) (k : Nat) : (l.take k).flatten.length ≤ l.flatten.length := by
 conv => rhs; rw [← List.take_append_drop k l, List.flatten_append, List.length_append]
 omega
theorem bars_take (l : List (List Lex)) (k : Nat) : (barsS (l.take k)).length ≤ (barsS l).length := by
 unfold barsS
 have : ((l.take k).flatMap fun x => lexK 4 :: x).length ≤ (l.flatMap fun x => lexK 4 :: x).length := by
  conv => rhs; rw [← List.take_append_drop k l, List.flatMap_append, List.length_append]
  omega
 simp only [List.length_drop]
 omega
def KidsW (F : Trees) : Prop := ∀ z ∈ F.list, 1 ≤ z.kind ∧ z.kind ≤ 9 ∧ WriteC z
theorem write_empty (x : Nd) (hK : KidsW x.kids) (B : Option Addr) (cap base g : Nat) (S : Nat → Prop) (L : List Lex) (w : World) (ht : TreesAt w (fun b => ¬ S b) x.kids B) (h : WrAt w base g S L) (hb : base ≤ w.heap.size) (hl : L.length + x.write.length ≤ 90000000) (hkl : x.kids.len ≤ 140737488355328) (hk : x.kind = 2) : Calls Tryz.prog 173 #[.pointer (some ⟨g, 0, none⟩), ndV x B cap] w (WrOut base g S w (L ++ x.write)) := by
 rw [Nd.write_empty hk, List.append_nil]
 have HF2 := Lib.hid (show WFr w base g S #[.int .i64 2, .int .u64 (word x.set.testBit 0), .int .u64 (word x.set.testBit 1), .int .u64 (word x.set.testBit 2), .int .u64 (word x.set.testBit 3), .slice B x.kids.len cap, .int .i64 x.lo, .int .i64 x.hi] S L ((w.alloc (.cells #[.pointer (some ⟨g, 0, none⟩)] 231)).alloc (.cells #[.int .i64 2, .int .u64 (word x.set.testBit 0), .int .u64 (word x.set.testBit 1), .int .u64 (word x.set.testBit 2), .int .u64 (word x.set.testBit 3), .slice B x.kids.len cap, .int .i64 x.lo, .int .i64 x.hi] 28)) from WFr.start #[.int .i64 2, .int .u64 (word x.set.testBit 0), .int .u64 (word x.set.testBit 1), .int .u64 (word x.set.testBit 2), .int .u64 (word x.set.testBit 3), .slice B x.kids.len cap, .int .i64 x.lo, .int .i64 x.hi] h hb)
 have HT := Lib.hid ht
 have HK := Lib.hid hK
 unfold ndV
 rw [hk]
 clear ht hK h
 go_enter Tryz.func173, Tryz.ntmps173
 go_wp2
 go_light
 go_end0
 exact HF2.out.out rfl
theorem write_leaf1 (x : Nd) (hK : KidsW x.kids) (B : Option Addr) (cap base g : Nat) (S : Nat → Prop) (L : List Lex) (w : World) (ht : TreesAt w (fun b => ¬ S b) x.kids B) (h : WrAt w base g S L) (hb : base ≤ w.heap.size) (hl : L.length + x.write.length ≤ 90000000) (hkl : x.kids.len ≤ 140737488355328) (hk : x.kind = 1) : Calls Tryz.prog 173 #[.pointer (some ⟨g, 0, none⟩), ndV x B cap] w (WrOut base g S w (L ++ x.write)) := by
 rw [Nd.write_leaf (.inl hk)] at hl ⊢
 have h63 : L.length + 1 ≤ maxLen := Nat.le_trans (show L.length + 1 ≤ 2000000000 by simp at hl; omega) (by decide)
 have hby : (L.length + 1) * 64 ≤ 140737488355328 := by simp at hl; omega
 have HLC := Lib.hid (show lexCell ⟨1, 0, x.set.testBit, 0, 0⟩ = [.int .i64 1, .int .i64 0, .int .u64 (word x.set.testBit 0), .int .u64 (word x.set.testBit 1), .int .u64 (word x.set.testBit 2), .int .u64 (word x.set.testBit 3), .int .i64 0, .int .i64 0] from rfl)
 have HF2 := Lib.hid (show WFr w base g S #[.int .i64 1, .int .u64 (word x.set.testBit 0), .int .u64 (word x.set.testBit 1), .int .u64 (word x.set.testBit 2), .int .u64 (word x.set.testBit 3), .slice B x.kids.len cap, .int .i64 x.lo, .int .i64 x.hi] S L ((w.alloc (.cells #[.pointer (some ⟨g, 0, none⟩)] 231)).alloc (.cells #[.int .i64 1, .int .u64 (word x.set.testBit 0), .int .u64 (word x.set.testBit 1), .int .u64 (word x.set.testBit 2), .int .u64 (word x.set.testBit 3), .slice B x.kids.len cap, .int .i64 x.lo, .int .i64 x.hi] 28)) from WFr.start #[.int .i64 1, .int .u64 (word x.set.testBit 0), .int .u64 (word x.set.testBit 1), .int .u64 (word x.set.testBit 2), .int .u64 (word x.set.testBit 3), .slice B x.kids.len cap, .int .i64 x.lo, .int .i64 x.hi] h hb)
 have HT := Lib.hid ht
 have HK := Lib.hid hK
 unfold ndV
 rw [hk]
 clear ht hK h
 go_enter Tryz.func173, Tryz.ntmps173
 go_upto_region 5 with fail
 generalize ((w.alloc (.cells #[.pointer (some ⟨g, 0, none⟩)] 231)).alloc (.cells #[.int .i64 1, .int .u64 (word x.set.testBit 0), .int .u64 (word x.set.testBit 1), .int .u64 (word x.set.testBit 2), .int .u64 (word x.set.testBit 3), .slice B x.kids.len cap, .int .i64 x.lo, .int .i64 x.hi] 28)) = w2 at *
 have p0 := (HF2.out).p.cell 0
 have hlp := (HF2.out).p.lt
 simp only [List.getElem?_toArray, List.getElem?_cons_zero, List.getElem?_cons_succ] at p0
 have n0 := (HF2.out).x.cell 0
 have n1 := (HF2.out).x.cell 1
 have n2 := (HF2.out).x.cell 2
 have n3 := (HF2.out).x.cell 3
 have n4 := (HF2.out).x.cell 4
 have n5 := (HF2.out).x.cell 5
 have n6 := (HF2.out).x.cell 6
 have n7 := (HF2.out).x.cell 7
 have hlx := (HF2.out).x.lt
 simp only [List.getElem?_toArray, List.getElem?_cons_zero, List.getElem?_cons_succ] at n0 n1 n2 n3 n4 n5 n6 n7
 have h0 := (HF2).out.wr
 obtain ⟨h0, hg, v, hG, hR, h3⟩ := h0
 obtain ⟨i0, hi, hz0, hz1, hz2⟩ := info_parts info_lex
 have s0 := hG.cell 0
 have f0 := hG.frozen 0
 have hltg := Blk.lt hG
 have HG := Lib.hid hG
 have HR := Lib.hid hR
 have HH := Lib.hid (show _ ∧ _ ∧ _ from ⟨h0, hg, h3⟩)
 have HneG := Lib.hid (blk_not_row hG (by decide) hR)
 have hbw := (HF2).out.size
 clear hG hR h0 h3
 have hKl := two_of (Q := fun b => b < w2.heap.size) hlp hlx
 refine wp_region_held_drew (S := fun w' => ∀ b' o', b' = w.heap.size ∨ b' = w.heap.size + 1 → w'.cell? ⟨b', o', none⟩ = w2.cell? ⟨b', o', none⟩) (by kernel_rfl) (KeepP.start (fun b => b = w.heap.size ∨ b = w.heap.size + 1) w2) (fun hHeld => ?_)
 refine wpAnyH_take (i := 0) (oi := _) (v := ?_) rfl (by kernel_rfl) (by kernel_rfl) (by kernel_rfl) (fun _ _ _ h => h) (Or.inl ⟨by kernel_rfl, ?_⟩) (by assumption) ?_
 rotate_left
 ·intro w hSw
  try dsimp only at hSw
  go_simp
  try (with_reducible rfl)
 try simp only [Act.put, List.getElem_toArray, List.getElem_cons_zero, List.getElem_cons_succ, List.setIfInBounds_toArray, List.set_cons_zero, List.set_cons_succ]
 refine wpAnyH_take (i := 1) (oi := _) (v := ?_) rfl (by kernel_rfl) (by kernel_rfl) (by kernel_rfl) (fun _ _ _ h => h) (Or.inl ⟨by kernel_rfl, ?_⟩) (by assumption) ?_
 rotate_left
 ·intro w hSw
  try dsimp only at hSw
  go_simp
  try (with_reducible rfl)
 try simp only [Act.put, List.getElem_toArray, List.getElem_cons_zero, List.getElem_cons_succ, List.setIfInBounds_toArray, List.set_cons_zero, List.set_cons_succ]
 refine wpAnyH_take (i := 2) (oi := _) (v := ?_) rfl (by kernel_rfl) (by kernel_rfl) (by kernel_rfl) (fun _ _ _ h => h) (Or.inl ⟨by kernel_rfl, ?_⟩) (by assumption) ?_
 rotate_left
 ·intro w hSw
  try dsimp only at hSw
  go_simp
  try (with_reducible rfl)
 try simp only [Act.put, List.getElem_toArray, List.getElem_cons_zero, List.getElem_cons_succ, List.setIfInBounds_toArray, List.set_cons_zero, List.set_cons_succ]
 refine wpAnyH_take (i := 3) (oi := _) (v := ?_) rfl (by kernel_rfl) (by kernel_rfl) (by kernel_rfl) (fun _ _ _ h => h) (Or.inl ⟨by kernel_rfl, ?_⟩) (by assumption) ?_
 rotate_left
 ·intro w hSw
  try dsimp only at hSw
  go_simp
  try (with_reducible rfl)
 try simp only [Act.put, List.getElem_toArray, List.getElem_cons_zero, List.getElem_cons_succ, List.setIfInBounds_toArray, List.set_cons_zero, List.set_cons_succ]
 refine wpAnyH_take (i := 5) (oi := _) (v := ?_) rfl (by kernel_rfl) (by kernel_rfl) (by kernel_rfl) (fun _ _ _ h => h) (Or.inl ⟨by kernel_rfl, ?_⟩) (by assumption) ?_
 rotate_left
 ·intro w hSw
  try dsimp only at hSw
  go_simp
  try (with_reducible rfl)
 try simp only [Act.put, List.getElem_toArray, List.getElem_cons_zero, List.getElem_cons_succ, List.setIfInBounds_toArray, List.set_cons_zero, List.set_cons_succ]
 refine wpAnyH_take (i := 6) (oi := _) (v := ?_) rfl (by kernel_rfl) (by kernel_rfl) (by kernel_rfl) (fun _ _ _ h => h) (Or.inl ⟨by kernel_rfl, ?_⟩) (by assumption) ?_
 rotate_left
 ·intro w hSw
  try dsimp only at hSw
  go_simp
  try (with_reducible rfl)
 try simp only [Act.put, List.getElem_toArray, List.getElem_cons_zero, List.getElem_cons_succ, List.setIfInBounds_toArray, List.set_cons_zero, List.set_cons_succ]
 refine wpAnyH_take (i := 7) (oi := _) (v := ?_) rfl (by kernel_rfl) (by kernel_rfl) (by kernel_rfl) (fun _ _ _ h => h) (Or.inl ⟨by kernel_rfl, ?_⟩) (by assumption) ?_
 rotate_left
 ·intro w hSw
  try dsimp only at hSw
  go_simp
  try (with_reducible rfl)
 try simp only [Act.put, List.getElem_toArray, List.getElem_cons_zero, List.getElem_cons_succ, List.setIfInBounds_toArray, List.set_cons_zero, List.set_cons_succ]
 refine wpAnyH_ready (rs := [4, 8]) (by kernel_rfl) (by simp) ?_
 refine AllReadyH.cons (o := _) rfl (fun K hK => ?_) (AllReadyH.cons (o := _) rfl (fun K hK => ?_) AllReadyH.nil)
 ·skip
  go_simp
  refine hK.out _ _ hHeld (fun _ => ?_)
  clear hK K hHeld
  try simp only [Act.put, List.getElem_toArray, List.getElem_cons_zero, List.getElem_cons_succ, List.setIfInBounds_toArray, List.set_cons_zero, List.set_cons_succ]
  refine wpAnyH_ready (rs := [8]) (by kernel_rfl) (by simp) ?_
  refine AllReadyH.cons (o := _) rfl (fun K hK => ?_) AllReadyH.nil
  go_simp
  refine hK.out _ _ (KeepP.alloc (KeepP.start (fun b => b = w.heap.size ∨ b = w.heap.size + 1) w2) hKl _) (fun _ => ?_)
  clear hK K
  try simp only [Act.put, List.getElem_toArray, List.getElem_cons_zero, List.getElem_cons_succ, List.setIfInBounds_toArray, List.set_cons_zero, List.set_cons_succ]
  refine wpAnyH_ready (rs := [9]) (by kernel_rfl) (by simp) ?_
  refine AllReadyH.cons (o := _) rfl (fun K hK => ?_) AllReadyH.nil
  refine step_append_lies _ (by rfl) _ _ _ (by rfl) base 139 i0 _ 8 64 Tryz.underlying134 hi hz0 hz1 hz2 rfl (by decide) v (L).length (lexCells (L)) (by rfl) (HR.out.drew.alloc _) ⟨w2.heap.size, 0, none⟩ 1 1 ([.int .i64 1, .int .i64 0, .int .u64 (word x.set.testBit 0), .int .u64 (word x.set.testBit 1), .int .u64 (word x.set.testBit 2), .int .u64 (word x.set.testBit 3), .int .i64 0, .int .i64 0]) (by rfl) (by rfl) (World.news_of_block (cs := ([.int .i64 1, .int .i64 0, .int .u64 (word x.set.testBit 0), .int .u64 (word x.set.testBit 1), .int .u64 (word x.set.testBit 2), .int .u64 (word x.set.testBit 3), .int .i64 0, .int .i64 0]).toArray) (t := 139) (fr := (0, 0)) (heap_alloc_new w2.drew _)) (by simp [Value.oneCell']) (by decide) h63 hby (by simp; omega) (w2.heap.size + 1) (by simp) ?_
  intro gg cap' w3 hown1 hgrow hat hlt1
  have hG1 := Blk.grown (Blk.alloc (Blk.drew HG.out) _) hgrow HneG.out
  have c0 := hG1.cell 0
  have d0 := hG1.frozen 0
  have hgl := hG1.lt
  have HKG := Lib.hid (KeepP.grown (KeepP.alloc (KeepP.start (fun b => b = w.heap.size ∨ b = w.heap.size + 1) w2) hKl _) hgrow (two_of (Q := fun b => b < _ ∧ some b ≠ v.ownBlock) ⟨by simp; omega, fun e => HF2.out.np (HH.out.2.2 _ e.symm)⟩ ⟨by simp; omega, fun e => HF2.out.nx (HH.out.2.2 _ e.symm)⟩))
  rw [← HLC.out] at hown1
  have HG1 := Lib.hid hG1
  have Hgrow := Lib.hid hgrow
  have Hown1 := Lib.hid hown1
  have Hat := Lib.hid hat
  clear hG1 hgrow hown1 hat
  refine hK.out _ _ HKG.out (fun _ => ?_)
  clear hK K
  try simp only [Act.put, List.getElem_toArray, List.getElem_cons_zero, List.getElem_cons_succ, List.setIfInBounds_toArray, List.set_cons_zero, List.set_cons_succ]
  refine wpAnyH_take (i := 10) (oi := _) (v := ?_) rfl (by kernel_rfl) (by kernel_rfl) (by kernel_rfl) (fun _ _ _ h => h) (Or.inl ⟨by kernel_rfl, ?_⟩) (by assumption) ?_
  rotate_left
  ·intro w hSw
   try dsimp only at hSw
   go_simp
   try (with_reducible rfl)
  try simp only [Act.put, List.getElem_toArray, List.getElem_cons_zero, List.getElem_cons_succ, List.setIfInBounds_toArray, List.set_cons_zero, List.set_cons_succ]
  refine wpAnyH_take (i := 11) (oi := _) (v := ?_) rfl (by kernel_rfl) (by kernel_rfl) (by kernel_rfl) (fun _ _ _ h => h) (Or.inl ⟨by kernel_rfl, ?_⟩) (by assumption) ?_
  rotate_left
  ·intro w hSw
   try dsimp only at hSw
   go_simp
   try (with_reducible rfl)
  try simp only [Act.put, List.getElem_toArray, List.getElem_cons_zero, List.getElem_cons_succ, List.setIfInBounds_toArray, List.set_cons_zero, List.set_cons_succ]
  refine wpAnyH_ready (rs := [12]) (by kernel_rfl) (by simp) ?_
  refine AllReadyH.cons (o := _) rfl (fun K hK => ?_) AllReadyH.nil
  go_simp
  refine hK.out _ _ (KeepP.set HKG.out (two_of (Q := fun b => b ≠ g) (p := w.heap.size) (q := w.heap.size + 1) (fun e => HF2.out.np (by rw [e]; exact HH.out.2.1)) (fun e => HF2.out.nx (by rw [e]; exact HH.out.2.1))) _) (fun _ => ?_)
  clear hK K
  try simp only [Act.put, List.getElem_toArray, List.getElem_cons_zero, List.getElem_cons_succ, List.setIfInBounds_toArray, List.set_cons_zero, List.set_cons_succ]
  refine wpAnyH_done (by kernel_rfl) ?_ _
  go_wp2
  go_light
  go_end0
  obtain ⟨S', hp1, hp2⟩ := wr_push HH.out hbw HG1.out ((Below.refl w2.heap.size w2).drew.alloc (Nat.le_refl _) _) Hgrow.out Hown1.out Hat.out (by omega)
  exact (HF2.out.go hp1 hp2).out rfl
 ·skip
  go_simp
  refine hK.out _ _ (KeepP.alloc (KeepP.start (fun b => b = w.heap.size ∨ b = w.heap.size + 1) w2) hKl _) (fun _ => ?_)
  clear hK K hHeld
  try simp only [Act.put, List.getElem_toArray, List.getElem_cons_zero, List.getElem_cons_succ, List.setIfInBounds_toArray, List.set_cons_zero, List.set_cons_succ]
  refine wpAnyH_ready (rs := [4]) (by kernel_rfl) (by simp) ?_
  refine AllReadyH.cons (o := _) rfl (fun K hK => ?_) AllReadyH.nil
  go_simp
  refine hK.out _ _ (by assumption) (fun _ => ?_)
  clear hK K
  try simp only [Act.put, List.getElem_toArray, List.getElem_cons_zero, List.getElem_cons_succ, List.setIfInBounds_toArray, List.set_cons_zero, List.set_cons_succ]
  refine wpAnyH_ready (rs := [9]) (by kernel_rfl) (by simp) ?_
  refine AllReadyH.cons (o := _) rfl (fun K hK => ?_) AllReadyH.nil
  refine step_append_lies _ (by rfl) _ _ _ (by rfl) base 139 i0 _ 8 64 Tryz.underlying134 hi hz0 hz1 hz2 rfl (by decide) v (L).length (lexCells (L)) (by rfl) (HR.out.drew.alloc _) ⟨w2.heap.size, 0, none⟩ 1 1 ([.int .i64 1, .int .i64 0, .int .u64 (word x.set.testBit 0), .int .u64 (word x.set.testBit 1), .int .u64 (word x.set.testBit 2), .int .u64 (word x.set.testBit 3), .int .i64 0, .int .i64 0]) (by rfl) (by rfl) (World.news_of_block (cs := ([.int .i64 1, .int .i64 0, .int .u64 (word x.set.testBit 0), .int .u64 (word x.set.testBit 1), .int .u64 (word x.set.testBit 2), .int .u64 (word x.set.testBit 3), .int .i64 0, .int .i64 0]).toArray) (t := 139) (fr := (0, 0)) (heap_alloc_new w2.drew _)) (by simp [Value.oneCell']) (by decide) h63 hby (by simp; omega) (w2.heap.size + 1) (by simp) ?_
  intro gg cap' w3 hown1 hgrow hat hlt1
  have hG1 := Blk.grown (Blk.alloc (Blk.drew HG.out) _) hgrow HneG.out
  have c0 := hG1.cell 0
  have d0 := hG1.frozen 0
  have hgl := hG1.lt
  have HKG := Lib.hid (KeepP.grown (KeepP.alloc (KeepP.start (fun b => b = w.heap.size ∨ b = w.heap.size + 1) w2) hKl _) hgrow (two_of (Q := fun b => b < _ ∧ some b ≠ v.ownBlock) ⟨by simp; omega, fun e => HF2.out.np (HH.out.2.2 _ e.symm)⟩ ⟨by simp; omega, fun e => HF2.out.nx (HH.out.2.2 _ e.symm)⟩))
  rw [← HLC.out] at hown1
  have HG1 := Lib.hid hG1
  have Hgrow := Lib.hid hgrow
  have Hown1 := Lib.hid hown1
  have Hat := Lib.hid hat
  clear hG1 hgrow hown1 hat
  refine hK.out _ _ HKG.out (fun _ => ?_)
  clear hK K
  try simp only [Act.put, List.getElem_toArray, List.getElem_cons_zero, List.getElem_cons_succ, List.setIfInBounds_toArray, List.set_cons_zero, List.set_cons_succ]
  refine wpAnyH_take (i := 10) (oi := _) (v := ?_) rfl (by kernel_rfl) (by kernel_rfl) (by kernel_rfl) (fun _ _ _ h => h) (Or.inl ⟨by kernel_rfl, ?_⟩) (by assumption) ?_
  rotate_left
  ·intro w hSw
   try dsimp only at hSw
   go_simp
   try (with_reducible rfl)
  try simp only [Act.put, List.getElem_toArray, List.getElem_cons_zero, List.getElem_cons_succ, List.setIfInBounds_toArray, List.set_cons_zero, List.set_cons_succ]
  refine wpAnyH_take (i := 11) (oi := _) (v := ?_) rfl (by kernel_rfl) (by kernel_rfl) (by kernel_rfl) (fun _ _ _ h => h) (Or.inl ⟨by kernel_rfl, ?_⟩) (by assumption) ?_
  rotate_left
  ·intro w hSw
   try dsimp only at hSw
   go_simp
   try (with_reducible rfl)
  try simp only [Act.put, List.getElem_toArray, List.getElem_cons_zero, List.getElem_cons_succ, List.setIfInBounds_toArray, List.set_cons_zero, List.set_cons_succ]
  refine wpAnyH_ready (rs := [12]) (by kernel_rfl) (by simp) ?_
  refine AllReadyH.cons (o := _) rfl (fun K hK => ?_) AllReadyH.nil
  go_simp
  refine hK.out _ _ (KeepP.set HKG.out (two_of (Q := fun b => b ≠ g) (p := w.heap.size) (q := w.heap.size + 1) (fun e => HF2.out.np (by rw [e]; exact HH.out.2.1)) (fun e => HF2.out.nx (by rw [e]; exact HH.out.2.1))) _) (fun _ => ?_)
  clear hK K
  try simp only [Act.put, List.getElem_toArray, List.getElem_cons_zero, List.getElem_cons_succ, List.setIfInBounds_toArray, List.set_cons_zero, List.set_cons_succ]
  refine wpAnyH_done (by kernel_rfl) ?_ _
  go_wp2
  go_light
  go_end0
  obtain ⟨S', hp1, hp2⟩ := wr_push HH.out hbw HG1.out ((Below.refl w2.heap.size w2).drew.alloc (Nat.le_refl _) _) Hgrow.out Hown1.out Hat.out (by omega)
  exact (HF2.out.go hp1 hp2).out rfl
theorem write_leaf3 (x : Nd) (hK : KidsW x.kids) (B : Option Addr) (cap base g : Nat) (S : Nat → Prop) (L : List Lex) (w : World) (ht : TreesAt w (fun b => ¬ S b) x.kids B) (h : WrAt w base g S L) (hb : base ≤ w.heap.size) (hl : L.length + x.write.length ≤ 90000000) (hkl : x.kids.len ≤ 140737488355328) (hk : x.kind = 3) : Calls Tryz.prog 173 #[.pointer (some ⟨g, 0, none⟩), ndV x B cap] w (WrOut base g S w (L ++ x.write)) := by
 rw [Nd.write_leaf (.inr hk)] at hl ⊢
 have h63 : L.length + 1 ≤ maxLen := Nat.le_trans (show L.length + 1 ≤ 2000000000 by simp at hl; omega) (by decide)
 have hby : (L.length + 1) * 64 ≤ 140737488355328 := by simp at hl; omega
 have HLC := Lib.hid (show lexCell ⟨1, 0, x.set.testBit, 0, 0⟩ = [.int .i64 1, .int .i64 0, .int .u64 (word x.set.testBit 0), .int .u64 (word x.set.testBit 1), .int .u64 (word x.set.testBit 2), .int .u64 (word x.set.testBit 3), .int .i64 0, .int .i64 0] from rfl)
 have HF2 := Lib.hid (show WFr w base g S #[.int .i64 3, .int .u64 (word x.set.testBit 0), .int .u64 (word x.set.testBit 1), .int .u64 (word x.set.testBit 2), .int .u64 (word x.set.testBit 3), .slice B x.kids.len cap, .int .i64 x.lo, .int .i64 x.hi] S L ((w.alloc (.cells #[.pointer (some ⟨g, 0, none⟩)] 231)).alloc (.cells #[.int .i64 3, .int .u64 (word x.set.testBit 0), .int .u64 (word x.set.testBit 1), .int .u64 (word x.set.testBit 2), .int .u64 (word x.set.testBit 3), .slice B x.kids.len cap, .int .i64 x.lo, .int .i64 x.hi] 28)) from WFr.start #[.int .i64 3, .int .u64 (word x.set.testBit 0), .int .u64 (word x.set.testBit 1), .int .u64 (word x.set.testBit 2), .int .u64 (word x.set.testBit 3), .slice B x.kids.len cap, .int .i64 x.lo, .int .i64 x.hi] h hb)
 have HT := Lib.hid ht
 have HK := Lib.hid hK
 unfold ndV
 rw [hk]
 clear ht hK h
 go_enter Tryz.func173, Tryz.ntmps173
 go_upto_region 5 with fail
 generalize ((w.alloc (.cells #[.pointer (some ⟨g, 0, none⟩)] 231)).alloc (.cells #[.int .i64 3, .int .u64 (word x.set.testBit 0), .int .u64 (word x.set.testBit 1), .int .u64 (word x.set.testBit 2), .int .u64 (word x.set.testBit 3), .slice B x.kids.len cap, .int .i64 x.lo, .int .i64 x.hi] 28)) = w2 at *
 have p0 := (HF2.out).p.cell 0
 have hlp := (HF2.out).p.lt
 simp only [List.getElem?_toArray, List.getElem?_cons_zero, List.getElem?_cons_succ] at p0
 have n0 := (HF2.out).x.cell 0
 have n1 := (HF2.out).x.cell 1
 have n2 := (HF2.out).x.cell 2
 have n3 := (HF2.out).x.cell 3
 have n4 := (HF2.out).x.cell 4
 have n5 := (HF2.out).x.cell 5
 have n6 := (HF2.out).x.cell 6
 have n7 := (HF2.out).x.cell 7
 have hlx := (HF2.out).x.lt
 simp only [List.getElem?_toArray, List.getElem?_cons_zero, List.getElem?_cons_succ] at n0 n1 n2 n3 n4 n5 n6 n7
 have h0 := (HF2).out.wr
 obtain ⟨h0, hg, v, hG, hR, h3⟩ := h0
 obtain ⟨i0, hi, hz0, hz1, hz2⟩ := info_parts info_lex
 have s0 := hG.cell 0
 have f0 := hG.frozen 0
 have hltg := Blk.lt hG
 have HG := Lib.hid hG
 have HR := Lib.hid hR
 have HH := Lib.hid (show _ ∧ _ ∧ _ from ⟨h0, hg, h3⟩)
 have HneG := Lib.hid (blk_not_row hG (by decide) hR)
 have hbw := (HF2).out.size
 clear hG hR h0 h3
 have hKl := two_of (Q := fun b => b < w2.heap.size) hlp hlx
 refine wp_region_held_drew (S := fun w' => ∀ b' o', b' = w.heap.size ∨ b' = w.heap.size + 1 → w'.cell? ⟨b', o', none⟩ = w2.cell? ⟨b', o', none⟩) (by kernel_rfl) (KeepP.start (fun b => b = w.heap.size ∨ b = w.heap.size + 1) w2) (fun hHeld => ?_)
 refine wpAnyH_take (i := 0) (oi := _) (v := ?_) rfl (by kernel_rfl) (by kernel_rfl) (by kernel_rfl) (fun _ _ _ h => h) (Or.inl ⟨by kernel_rfl, ?_⟩) (by assumption) ?_
 rotate_left
 ·intro w hSw
  try dsimp only at hSw
  go_simp
  try (with_reducible rfl)
 try simp only [Act.put, List.getElem_toArray, List.getElem_cons_zero, List.getElem_cons_succ, List.setIfInBounds_toArray, List.set_cons_zero, List.set_cons_succ]
 refine wpAnyH_take (i := 1) (oi := _) (v := ?_) rfl (by kernel_rfl) (by kernel_rfl) (by kernel_rfl) (fun _ _ _ h => h) (Or.inl ⟨by kernel_rfl, ?_⟩) (by assumption) ?_
 rotate_left
 ·intro w hSw
  try dsimp only at hSw
  go_simp
  try (with_reducible rfl)
 try simp only [Act.put, List.getElem_toArray, List.getElem_cons_zero, List.getElem_cons_succ, List.setIfInBounds_toArray, List.set_cons_zero, List.set_cons_succ]
 refine wpAnyH_take (i := 2) (oi := _) (v := ?_) rfl (by kernel_rfl) (by kernel_rfl) (by kernel_rfl) (fun _ _ _ h => h) (Or.inl ⟨by kernel_rfl, ?_⟩) (by assumption) ?_
 rotate_left
 ·intro w hSw
  try dsimp only at hSw
  go_simp
  try (with_reducible rfl)
 try simp only [Act.put, List.getElem_toArray, List.getElem_cons_zero, List.getElem_cons_succ, List.setIfInBounds_toArray, List.set_cons_zero, List.set_cons_succ]
 refine wpAnyH_take (i := 3) (oi := _) (v := ?_) rfl (by kernel_rfl) (by kernel_rfl) (by kernel_rfl) (fun _ _ _ h => h) (Or.inl ⟨by kernel_rfl, ?_⟩) (by assumption) ?_
 rotate_left
 ·intro w hSw
  try dsimp only at hSw
  go_simp
  try (with_reducible rfl)
 try simp only [Act.put, List.getElem_toArray, List.getElem_cons_zero, List.getElem_cons_succ, List.setIfInBounds_toArray, List.set_cons_zero, List.set_cons_succ]
 refine wpAnyH_take (i := 5) (oi := _) (v := ?_) rfl (by kernel_rfl) (by kernel_rfl) (by kernel_rfl) (fun _ _ _ h => h) (Or.inl ⟨by kernel_rfl, ?_⟩) (by assumption) ?_
 rotate_left
 ·intro w hSw
  try dsimp only at hSw
  go_simp
  try (with_reducible rfl)
 try simp only [Act.put, List.getElem_toArray, List.getElem_cons_zero, List.getElem_cons_succ, List.setIfInBounds_toArray, List.set_cons_zero, List.set_cons_succ]
 refine wpAnyH_take (i := 6) (oi := _) (v := ?_) rfl (by kernel_rfl) (by kernel_rfl) (by kernel_rfl) (fun _ _ _ h => h) (Or.inl ⟨by kernel_rfl, ?_⟩) (by assumption) ?_
 rotate_left
 ·intro w hSw
  try dsimp only at hSw
  go_simp
  try (with_reducible rfl)
 try simp only [Act.put, List.getElem_toArray, List.getElem_cons_zero, List.getElem_cons_succ, List.setIfInBounds_toArray, List.set_cons_zero, List.set_cons_succ]
 refine wpAnyH_take (i := 7) (oi := _) (v := ?_) rfl (by kernel_rfl) (by kernel_rfl) (by kernel_rfl) (fun _ _ _ h => h) (Or.inl ⟨by kernel_rfl, ?_⟩) (by assumption) ?_
 rotate_left
 ·intro w hSw
  try dsimp only at hSw
  go_simp
  try (with_reducible rfl)
 try simp only [Act.put, List.getElem_toArray, List.getElem_cons_zero, List.getElem_cons_succ, List.setIfInBounds_toArray, List.set_cons_zero, List.set_cons_succ]
 refine wpAnyH_ready (rs := [4, 8]) (by kernel_rfl) (by simp) ?_
 refine AllReadyH.cons (o := _) rfl (fun K hK => ?_) (AllReadyH.cons (o := _) rfl (fun K hK => ?_) AllReadyH.nil)
 ·skip
  go_simp
  refine hK.out _ _ hHeld (fun _ => ?_)
  clear hK K hHeld
  try simp only [Act.put, List.getElem_toArray, List.getElem_cons_zero, List.getElem_cons_succ, List.setIfInBounds_toArray, List.set_cons_zero, List.set_cons_succ]
  refine wpAnyH_ready (rs := [8]) (by kernel_rfl) (by simp) ?_
  refine AllReadyH.cons (o := _) rfl (fun K hK => ?_) AllReadyH.nil
  go_simp
  refine hK.out _ _ (KeepP.alloc (KeepP.start (fun b => b = w.heap.size ∨ b = w.heap.size + 1) w2) hKl _) (fun _ => ?_)
  clear hK K
  try simp only [Act.put, List.getElem_toArray, List.getElem_cons_zero, List.getElem_cons_succ, List.setIfInBounds_toArray, List.set_cons_zero, List.set_cons_succ]
  refine wpAnyH_ready (rs := [9]) (by kernel_rfl) (by simp) ?_
  refine AllReadyH.cons (o := _) rfl (fun K hK => ?_) AllReadyH.nil
  refine step_append_lies _ (by rfl) _ _ _ (by rfl) base 139 i0 _ 8 64 Tryz.underlying134 hi hz0 hz1 hz2 rfl (by decide) v (L).length (lexCells (L)) (by rfl) (HR.out.drew.alloc _) ⟨w2.heap.size, 0, none⟩ 1 1 ([.int .i64 1, .int .i64 0, .int .u64 (word x.set.testBit 0), .int .u64 (word x.set.testBit 1), .int .u64 (word x.set.testBit 2), .int .u64 (word x.set.testBit 3), .int .i64 0, .int .i64 0]) (by rfl) (by rfl) (World.news_of_block (cs := ([.int .i64 1, .int .i64 0, .int .u64 (word x.set.testBit 0), .int .u64 (word x.set.testBit 1), .int .u64 (word x.set.testBit 2), .int .u64 (word x.set.testBit 3), .int .i64 0, .int .i64 0]).toArray) (t := 139) (fr := (0, 0)) (heap_alloc_new w2.drew _)) (by simp [Value.oneCell']) (by decide) h63 hby (by simp; omega) (w2.heap.size + 1) (by simp) ?_
  intro gg cap' w3 hown1 hgrow hat hlt1
  have hG1 := Blk.grown (Blk.alloc (Blk.drew HG.out) _) hgrow HneG.out
  have c0 := hG1.cell 0
  have d0 := hG1.frozen 0
  have hgl := hG1.lt
  have HKG := Lib.hid (KeepP.grown (KeepP.alloc (KeepP.start (fun b => b = w.heap.size ∨ b = w.heap.size + 1) w2) hKl _) hgrow (two_of (Q := fun b => b < _ ∧ some b ≠ v.ownBlock) ⟨by simp; omega, fun e => HF2.out.np (HH.out.2.2 _ e.symm)⟩ ⟨by simp; omega, fun e => HF2.out.nx (HH.out.2.2 _ e.symm)⟩))
  rw [← HLC.out] at hown1
  have HG1 := Lib.hid hG1
  have Hgrow := Lib.hid hgrow
  have Hown1 := Lib.hid hown1
  have Hat := Lib.hid hat
  clear hG1 hgrow hown1 hat
  refine hK.out _ _ HKG.out (fun _ => ?_)
  clear hK K
  try simp only [Act.put, List.getElem_toArray, List.getElem_cons_zero, List.getElem_cons_succ, List.setIfInBounds_toArray, List.set_cons_zero, List.set_cons_succ]
  refine wpAnyH_take (i := 10) (oi := _) (v := ?_) rfl (by kernel_rfl) (by kernel_rfl) (by kernel_rfl) (fun _ _ _ h => h) (Or.inl ⟨by kernel_rfl, ?_⟩) (by assumption) ?_
  rotate_left
  ·intro w hSw
   try dsimp only at hSw
   go_simp
   try (with_reducible rfl)
  try simp only [Act.put, List.getElem_toArray, List.getElem_cons_zero, List.getElem_cons_succ, List.setIfInBounds_toArray, List.set_cons_zero, List.set_cons_succ]
  refine wpAnyH_take (i := 11) (oi := _) (v := ?_) rfl (by kernel_rfl) (by kernel_rfl) (by kernel_rfl) (fun _ _ _ h => h) (Or.inl ⟨by kernel_rfl, ?_⟩) (by assumption) ?_
  rotate_left
  ·intro w hSw
   try dsimp only at hSw
   go_simp
   try (with_reducible rfl)
  try simp only [Act.put, List.getElem_toArray, List.getElem_cons_zero, List.getElem_cons_succ, List.setIfInBounds_toArray, List.set_cons_zero, List.set_cons_succ]
  refine wpAnyH_ready (rs := [12]) (by kernel_rfl) (by simp) ?_
  refine AllReadyH.cons (o := _) rfl (fun K hK => ?_) AllReadyH.nil
  go_simp
  refine hK.out _ _ (KeepP.set HKG.out (two_of (Q := fun b => b ≠ g) (p := w.heap.size) (q := w.heap.size + 1) (fun e => HF2.out.np (by rw [e]; exact HH.out.2.1)) (fun e => HF2.out.nx (by rw [e]; exact HH.out.2.1))) _) (fun _ => ?_)
  clear hK K
  try simp only [Act.put, List.getElem_toArray, List.getElem_cons_zero, List.getElem_cons_succ, List.setIfInBounds_toArray, List.set_cons_zero, List.set_cons_succ]
  refine wpAnyH_done (by kernel_rfl) ?_ _
  go_wp2
  go_light
  go_end0
  obtain ⟨S', hp1, hp2⟩ := wr_push HH.out hbw HG1.out ((Below.refl w2.heap.size w2).drew.alloc (Nat.le_refl _) _) Hgrow.out Hown1.out Hat.out (by omega)
  exact (HF2.out.go hp1 hp2).out rfl
 ·skip
  go_simp
  refine hK.out _ _ (KeepP.alloc (KeepP.start (fun b => b = w.heap.size ∨ b = w.heap.size + 1) w2) hKl _) (fun _ => ?_)
  clear hK K hHeld
  try simp only [Act.put, List.getElem_toArray, List.getElem_cons_zero, List.getElem_cons_succ, List.setIfInBounds_toArray, List.set_cons_zero, List.set_cons_succ]
  refine wpAnyH_ready (rs := [4]) (by kernel_rfl) (by simp) ?_
  refine AllReadyH.cons (o := _) rfl (fun K hK => ?_) AllReadyH.nil
  go_simp
  refine hK.out _ _ (by assumption) (fun _ => ?_)
  clear hK K
  try simp only [Act.put, List.getElem_toArray, List.getElem_cons_zero, List.getElem_cons_succ, List.setIfInBounds_toArray, List.set_cons_zero, List.set_cons_succ]
  refine wpAnyH_ready (rs := [9]) (by kernel_rfl) (by simp) ?_
  refine AllReadyH.cons (o := _) rfl (fun K hK => ?_) AllReadyH.nil
  refine step_append_lies _ (by rfl) _ _ _ (by rfl) base 139 i0 _ 8 64 Tryz.underlying134 hi hz0 hz1 hz2 rfl (by decide) v (L).length (lexCells (L)) (by rfl) (HR.out.drew.alloc _) ⟨w2.heap.size, 0, none⟩ 1 1 ([.int .i64 1, .int .i64 0, .int .u64 (word x.set.testBit 0), .int .u64 (word x.set.testBit 1), .int .u64 (word x.set.testBit 2), .int .u64 (word x.set.testBit 3), .int .i64 0, .int .i64 0]) (by rfl) (by rfl) (World.news_of_block (cs := ([.int .i64 1, .int .i64 0, .int .u64 (word x.set.testBit 0), .int .u64 (word x.set.testBit 1), .int .u64 (word x.set.testBit 2), .int .u64 (word x.set.testBit 3), .int .i64 0, .int .i64 0]).toArray) (t := 139) (fr := (0, 0)) (heap_alloc_new w2.drew _)) (by simp [Value.oneCell']) (by decide) h63 hby (by simp; omega) (w2.heap.size + 1) (by simp) ?_
  intro gg cap' w3 hown1 hgrow hat hlt1
  have hG1 := Blk.grown (Blk.alloc (Blk.drew HG.out) _) hgrow HneG.out
  have c0 := hG1.cell 0
  have d0 := hG1.frozen 0
  have hgl := hG1.lt
  have HKG := Lib.hid (KeepP.grown (KeepP.alloc (KeepP.start (fun b => b = w.heap.size ∨ b = w.heap.size + 1) w2) hKl _) hgrow (two_of (Q := fun b => b < _ ∧ some b ≠ v.ownBlock) ⟨by simp; omega, fun e => HF2.out.np (HH.out.2.2 _ e.symm)⟩ ⟨by simp; omega, fun e => HF2.out.nx (HH.out.2.2 _ e.symm)⟩))
  rw [← HLC.out] at hown1
  have HG1 := Lib.hid hG1
  have Hgrow := Lib.hid hgrow
  have Hown1 := Lib.hid hown1
  have Hat := Lib.hid hat
  clear hG1 hgrow hown1 hat
  refine hK.out _ _ HKG.out (fun _ => ?_)
  clear hK K
  try simp only [Act.put, List.getElem_toArray, List.getElem_cons_zero, List.getElem_cons_succ, List.setIfInBounds_toArray, List.set_cons_zero, List.set_cons_succ]
  refine wpAnyH_take (i := 10) (oi := _) (v := ?_) rfl (by kernel_rfl) (by kernel_rfl) (by kernel_rfl) (fun _ _ _ h => h) (Or.inl ⟨by kernel_rfl, ?_⟩) (by assumption) ?_
  rotate_left
  ·intro w hSw
   try dsimp only at hSw
   go_simp
   try (with_reducible rfl)
  try simp only [Act.put, List.getElem_toArray, List.getElem_cons_zero, List.getElem_cons_succ, List.setIfInBounds_toArray, List.set_cons_zero, List.set_cons_succ]
  refine wpAnyH_take (i := 11) (oi := _) (v := ?_) rfl (by kernel_rfl) (by kernel_rfl) (by kernel_rfl) (fun _ _ _ h => h) (Or.inl ⟨by kernel_rfl, ?_⟩) (by assumption) ?_
  rotate_left
  ·intro w hSw
   try dsimp only at hSw
   go_simp
   try (with_reducible rfl)
  try simp only [Act.put, List.getElem_toArray, List.getElem_cons_zero, List.getElem_cons_succ, List.setIfInBounds_toArray, List.set_cons_zero, List.set_cons_succ]
  refine wpAnyH_ready (rs := [12]) (by kernel_rfl) (by simp) ?_
  refine AllReadyH.cons (o := _) rfl (fun K hK => ?_) AllReadyH.nil
  go_simp
  refine hK.out _ _ (KeepP.set HKG.out (two_of (Q := fun b => b ≠ g) (p := w.heap.size) (q := w.heap.size + 1) (fun e => HF2.out.np (by rw [e]; exact HH.out.2.1)) (fun e => HF2.out.nx (by rw [e]; exact HH.out.2.1))) _) (fun _ => ?_)
  clear hK K
  try simp only [Act.put, List.getElem_toArray, List.getElem_cons_zero, List.getElem_cons_succ, List.setIfInBounds_toArray, List.set_cons_zero, List.set_cons_succ]
  refine wpAnyH_done (by kernel_rfl) ?_ _
  go_wp2
  go_light
  go_end0
  obtain ⟨S', hp1, hp2⟩ := wr_push HH.out hbw HG1.out ((Below.refl w2.heap.size w2).drew.alloc (Nat.le_refl _) _) Hgrow.out Hown1.out Hat.out (by omega)
  exact (HF2.out.go hp1 hp2).out rfl
theorem write_post6 (x : Nd) (hK : KidsW x.kids) (B : Option Addr) (cap base g : Nat) (S : Nat → Prop) (L : List Lex) (w : World) (ht : TreesAt w (fun b => ¬ S b) x.kids B) (h : WrAt w base g S L) (hb : base ≤ w.heap.size) (hl : L.length + x.write.length ≤ 90000000) (hkl : x.kids.len ≤ 140737488355328) (hk : x.kind = 6) (hk1 : x.kids.len = 1) : Calls Tryz.prog 173 #[.pointer (some ⟨g, 0, none⟩), ndV x B cap] w (WrOut base g S w (L ++ x.write)) := by
 obtain ⟨z, hz1, hz⟩ := one_kid hk1
 have hlk : L.length + (kidS 6 (z.kind, z.write)).length ≤ 90000000 ∧ (L ++ kidS 6 (z.kind, z.write)).length + 1 ≤ 90000000 := by
  rw [Nd.write_post (by omega), Trees.writes_head hz] at hl
  simp only [List.length_append, List.length_cons, List.length_nil, hk] at hl ⊢
  omega
 rw [Nd.write_post (by omega), Trees.writes_head hz]
 have HK1 := Lib.hid hk1
 clear hk1
 have HF2 := Lib.hid (show WFr w base g S #[.int .i64 6, .int .u64 (word x.set.testBit 0), .int .u64 (word x.set.testBit 1), .int .u64 (word x.set.testBit 2), .int .u64 (word x.set.testBit 3), .slice B x.kids.len cap, .int .i64 x.lo, .int .i64 x.hi] S L ((w.alloc (.cells #[.pointer (some ⟨g, 0, none⟩)] 231)).alloc (.cells #[.int .i64 6, .int .u64 (word x.set.testBit 0), .int .u64 (word x.set.testBit 1), .int .u64 (word x.set.testBit 2), .int .u64 (word x.set.testBit 3), .slice B x.kids.len cap, .int .i64 x.lo, .int .i64 x.hi] 28)) from WFr.start #[.int .i64 6, .int .u64 (word x.set.testBit 0), .int .u64 (word x.set.testBit 1), .int .u64 (word x.set.testBit 2), .int .u64 (word x.set.testBit 3), .slice B x.kids.len cap, .int .i64 x.lo, .int .i64 x.hi] h hb)
 have HT := Lib.hid ht
 have HK := Lib.hid hK
 unfold ndV
 rw [hk]
 clear ht hK h
 go_enter Tryz.func173, Tryz.ntmps173
 try rw [hk]
 go_upto_region 23 with fail
 generalize ((w.alloc (.cells #[.pointer (some ⟨g, 0, none⟩)] 231)).alloc (.cells #[.int .i64 6, .int .u64 (word x.set.testBit 0), .int .u64 (word x.set.testBit 1), .int .u64 (word x.set.testBit 2), .int .u64 (word x.set.testBit 3), .slice B x.kids.len cap, .int .i64 x.lo, .int .i64 x.hi] 28)) = w2 at *
 have hk1 := HK1.out
 have hF := HF2.out
 obtain ⟨b, o, C, capc, rfl, hnb, _, ⟨c0, c1, c2, c3, c4, c5, c6, c7⟩, hkz⟩ := (HT.out.movesW hF.mvs).get hz
 have hblk := World.block_lt_of_cell? w2 _ c0
 obtain ⟨k1, k9, hWz⟩ := HK.out z (List.mem_of_getElem? hz)
 simp only [Nat.zero_mul, Nat.add_zero] at c0 c1 c2 c3 c4 c5 c6 c7
 have HC := Lib.hid (kid_go 6 z C capc 3 base g w.heap.size S L w2 hkz hF.wr hF.size (hF.p.cell 0) hF.np k1 k9 hWz hlk.1 (by decide))
 unfold ndV at HC
 have p0 := (hF).p.cell 0
 have hlp := (hF).p.lt
 simp only [List.getElem?_toArray, List.getElem?_cons_zero, List.getElem?_cons_succ] at p0
 have n0 := (hF).x.cell 0
 have n1 := (hF).x.cell 1
 have n2 := (hF).x.cell 2
 have n3 := (hF).x.cell 3
 have n4 := (hF).x.cell 4
 have n5 := (hF).x.cell 5
 have n6 := (hF).x.cell 6
 have n7 := (hF).x.cell 7
 have hlx := (hF).x.lt
 simp only [List.getElem?_toArray, List.getElem?_cons_zero, List.getElem?_cons_succ] at n0 n1 n2 n3 n4 n5 n6 n7
 clear hF hkz hz hz1 k1 k9 hWz hl
 generalize kidS 6 (z.kind, z.write) = lk at *
 go_wp2_with fail
 refine HC.out.mono ?_
 rintro e w5 ⟨rfl, S5, hm5, hv5⟩
 have HF5 := Lib.hid (HF2.out.go hm5 hv5)
 clear hm5 hv5 HC HF2 c0 c1 c2 c3 c4 c5 c6 c7 hblk hnb p0 hlp n0 n1 n2 n3 n4 n5 n6 n7 hlx
 dsimp only
 have p0 := (HF5.out).p.cell 0
 have hlp := (HF5.out).p.lt
 simp only [List.getElem?_toArray, List.getElem?_cons_zero, List.getElem?_cons_succ] at p0
 have n0 := (HF5.out).x.cell 0
 have n1 := (HF5.out).x.cell 1
 have n2 := (HF5.out).x.cell 2
 have n3 := (HF5.out).x.cell 3
 have n4 := (HF5.out).x.cell 4
 have n5 := (HF5.out).x.cell 5
 have n6 := (HF5.out).x.cell 6
 have n7 := (HF5.out).x.cell 7
 have hlx := (HF5.out).x.lt
 simp only [List.getElem?_toArray, List.getElem?_cons_zero, List.getElem?_cons_succ] at n0 n1 n2 n3 n4 n5 n6 n7
 have HP := Lib.hid (wput_go base g S5 (L ++ lk) 5 w5 HF5.out.wr HF5.out.size (by omega))
 go_wp2_with fail
 refine HP.out.mono ?_
 rintro e w6 ⟨rfl, S6, hm6, hv6⟩
 have HF6 := Lib.hid (HF5.out.go hm6 hv6)
 clear hm6 hv6 HP HF5 p0 hlp n0 n1 n2 n3 n4 n5 n6 n7 hlx
 dsimp only
 go_wp2
 go_light
 go_end0
 rw [← List.append_assoc]
 exact HF6.out.out rfl
theorem write_post7 (x : Nd) (hK : KidsW x.kids) (B : Option Addr) (cap base g : Nat) (S : Nat → Prop) (L : List Lex) (w : World) (ht : TreesAt w (fun b => ¬ S b) x.kids B) (h : WrAt w base g S L) (hb : base ≤ w.heap.size) (hl : L.length + x.write.length ≤ 90000000) (hkl : x.kids.len ≤ 140737488355328) (hk : x.kind = 7) (hk1 : x.kids.len = 1) : Calls Tryz.prog 173 #[.pointer (some ⟨g, 0, none⟩), ndV x B cap] w (WrOut base g S w (L ++ x.write)) := by
 obtain ⟨z, hz1, hz⟩ := one_kid hk1
 have hlk : L.length + (kidS 7 (z.kind, z.write)).length ≤ 90000000 ∧ (L ++ kidS 7 (z.kind, z.write)).length + 1 ≤ 90000000 := by
  rw [Nd.write_post (by omega), Trees.writes_head hz] at hl
  simp only [List.length_append, List.length_cons, List.length_nil, hk] at hl ⊢
  omega
 rw [Nd.write_post (by omega), Trees.writes_head hz]
 have HK1 := Lib.hid hk1
 clear hk1
 have HF2 := Lib.hid (show WFr w base g S #[.int .i64 7, .int .u64 (word x.set.testBit 0), .int .u64 (word x.set.testBit 1), .int .u64 (word x.set.testBit 2), .int .u64 (word x.set.testBit 3), .slice B x.kids.len cap, .int .i64 x.lo, .int .i64 x.hi] S L ((w.alloc (.cells #[.pointer (some ⟨g, 0, none⟩)] 231)).alloc (.cells #[.int .i64 7, .int .u64 (word x.set.testBit 0), .int .u64 (word x.set.testBit 1), .int .u64 (word x.set.testBit 2), .int .u64 (word x.set.testBit 3), .slice B x.kids.len cap, .int .i64 x.lo, .int .i64 x.hi] 28)) from WFr.start #[.int .i64 7, .int .u64 (word x.set.testBit 0), .int .u64 (word x.set.testBit 1), .int .u64 (word x.set.testBit 2), .int .u64 (word x.set.testBit 3), .slice B x.kids.len cap, .int .i64 x.lo, .int .i64 x.hi] h hb)
 have HT := Lib.hid ht
 have HK := Lib.hid hK
 unfold ndV
 rw [hk]
 clear ht hK h
 go_enter Tryz.func173, Tryz.ntmps173
 try rw [hk]
 go_upto_region 23 with fail
 generalize ((w.alloc (.cells #[.pointer (some ⟨g, 0, none⟩)] 231)).alloc (.cells #[.int .i64 7, .int .u64 (word x.set.testBit 0), .int .u64 (word x.set.testBit 1), .int .u64 (word x.set.testBit 2), .int .u64 (word x.set.testBit 3), .slice B x.kids.len cap, .int .i64 x.lo, .int .i64 x.hi] 28)) = w2 at *
 have hk1 := HK1.out
 have hF := HF2.out
 obtain ⟨b, o, C, capc, rfl, hnb, _, ⟨c0, c1, c2, c3, c4, c5, c6, c7⟩, hkz⟩ := (HT.out.movesW hF.mvs).get hz
 have hblk := World.block_lt_of_cell? w2 _ c0
 obtain ⟨k1, k9, hWz⟩ := HK.out z (List.mem_of_getElem? hz)
 simp only [Nat.zero_mul, Nat.add_zero] at c0 c1 c2 c3 c4 c5 c6 c7
 have HC := Lib.hid (kid_go 7 z C capc 3 base g w.heap.size S L w2 hkz hF.wr hF.size (hF.p.cell 0) hF.np k1 k9 hWz hlk.1 (by decide))
 unfold ndV at HC
 have p0 := (hF).p.cell 0
 have hlp := (hF).p.lt
 simp only [List.getElem?_toArray, List.getElem?_cons_zero, List.getElem?_cons_succ] at p0
 have n0 := (hF).x.cell 0
 have n1 := (hF).x.cell 1
 have n2 := (hF).x.cell 2
 have n3 := (hF).x.cell 3
 have n4 := (hF).x.cell 4
 have n5 := (hF).x.cell 5
 have n6 := (hF).x.cell 6
 have n7 := (hF).x.cell 7
 have hlx := (hF).x.lt
 simp only [List.getElem?_toArray, List.getElem?_cons_zero, List.getElem?_cons_succ] at n0 n1 n2 n3 n4 n5 n6 n7
 clear hF hkz hz hz1 k1 k9 hWz hl
 generalize kidS 7 (z.kind, z.write) = lk at *
 go_wp2_with fail
 refine HC.out.mono ?_
 rintro e w5 ⟨rfl, S5, hm5, hv5⟩
 have HF5 := Lib.hid (HF2.out.go hm5 hv5)
 clear hm5 hv5 HC HF2 c0 c1 c2 c3 c4 c5 c6 c7 hblk hnb p0 hlp n0 n1 n2 n3 n4 n5 n6 n7 hlx
 dsimp only
 have p0 := (HF5.out).p.cell 0
 have hlp := (HF5.out).p.lt
 simp only [List.getElem?_toArray, List.getElem?_cons_zero, List.getElem?_cons_succ] at p0
 have n0 := (HF5.out).x.cell 0
 have n1 := (HF5.out).x.cell 1
 have n2 := (HF5.out).x.cell 2
 have n3 := (HF5.out).x.cell 3
 have n4 := (HF5.out).x.cell 4
 have n5 := (HF5.out).x.cell 5
 have n6 := (HF5.out).x.cell 6
 have n7 := (HF5.out).x.cell 7
 have hlx := (HF5.out).x.lt
 simp only [List.getElem?_toArray, List.getElem?_cons_zero, List.getElem?_cons_succ] at n0 n1 n2 n3 n4 n5 n6 n7
 have HP := Lib.hid (wput_go base g S5 (L ++ lk) 6 w5 HF5.out.wr HF5.out.size (by omega))
 go_wp2_with fail
 refine HP.out.mono ?_
 rintro e w6 ⟨rfl, S6, hm6, hv6⟩
 have HF6 := Lib.hid (HF5.out.go hm6 hv6)
 clear hm6 hv6 HP HF5 p0 hlp n0 n1 n2 n3 n4 n5 n6 n7 hlx
 dsimp only
 go_wp2
 go_light
 go_end0
 rw [← List.append_assoc]
 exact HF6.out.out rfl
theorem write_post8 (x : Nd) (hK : KidsW x.kids) (B : Option Addr) (cap base g : Nat) (S : Nat → Prop) (L : List Lex) (w : World) (ht : TreesAt w (fun b => ¬ S b) x.kids B) (h : WrAt w base g S L) (hb : base ≤ w.heap.size) (hl : L.length + x.write.length ≤ 90000000) (hkl : x.kids.len ≤ 140737488355328) (hk : x.kind = 8) (hk1 : x.kids.len = 1) : Calls Tryz.prog 173 #[.pointer (some ⟨g, 0, none⟩), ndV x B cap] w (WrOut base g S w (L ++ x.write)) := by
 obtain ⟨z, hz1, hz⟩ := one_kid hk1
 have hlk : L.length + (kidS 8 (z.kind, z.write)).length ≤ 90000000 ∧ (L ++ kidS 8 (z.kind, z.write)).length + 1 ≤ 90000000 := by
  rw [Nd.write_post (by omega), Trees.writes_head hz] at hl
  simp only [List.length_append, List.length_cons, List.length_nil, hk] at hl ⊢
  omega
 rw [Nd.write_post (by omega), Trees.writes_head hz]
 have HK1 := Lib.hid hk1
 clear hk1
 have HF2 := Lib.hid (show WFr w base g S #[.int .i64 8, .int .u64 (word x.set.testBit 0), .int .u64 (word x.set.testBit 1), .int .u64 (word x.set.testBit 2), .int .u64 (word x.set.testBit 3), .slice B x.kids.len cap, .int .i64 x.lo, .int .i64 x.hi] S L ((w.alloc (.cells #[.pointer (some ⟨g, 0, none⟩)] 231)).alloc (.cells #[.int .i64 8, .int .u64 (word x.set.testBit 0), .int .u64 (word x.set.testBit 1), .int .u64 (word x.set.testBit 2), .int .u64 (word x.set.testBit 3), .slice B x.kids.len cap, .int .i64 x.lo, .int .i64 x.hi] 28)) from WFr.start #[.int .i64 8, .int .u64 (word x.set.testBit 0), .int .u64 (word x.set.testBit 1), .int .u64 (word x.set.testBit 2), .int .u64 (word x.set.testBit 3), .slice B x.kids.len cap, .int .i64 x.lo, .int .i64 x.hi] h hb)
 have HT := Lib.hid ht
 have HK := Lib.hid hK
 unfold ndV
 rw [hk]
 clear ht hK h
 go_enter Tryz.func173, Tryz.ntmps173
 try rw [hk]
 go_upto_region 23 with fail
 generalize ((w.alloc (.cells #[.pointer (some ⟨g, 0, none⟩)] 231)).alloc (.cells #[.int .i64 8, .int .u64 (word x.set.testBit 0), .int .u64 (word x.set.testBit 1), .int .u64 (word x.set.testBit 2), .int .u64 (word x.set.testBit 3), .slice B x.kids.len cap, .int .i64 x.lo, .int .i64 x.hi] 28)) = w2 at *
 have hk1 := HK1.out
 have hF := HF2.out
 obtain ⟨b, o, C, capc, rfl, hnb, _, ⟨c0, c1, c2, c3, c4, c5, c6, c7⟩, hkz⟩ := (HT.out.movesW hF.mvs).get hz
 have hblk := World.block_lt_of_cell? w2 _ c0
 obtain ⟨k1, k9, hWz⟩ := HK.out z (List.mem_of_getElem? hz)
 simp only [Nat.zero_mul, Nat.add_zero] at c0 c1 c2 c3 c4 c5 c6 c7
 have HC := Lib.hid (kid_go 8 z C capc 3 base g w.heap.size S L w2 hkz hF.wr hF.size (hF.p.cell 0) hF.np k1 k9 hWz hlk.1 (by decide))
 unfold ndV at HC
 have p0 := (hF).p.cell 0
 have hlp := (hF).p.lt
 simp only [List.getElem?_toArray, List.getElem?_cons_zero, List.getElem?_cons_succ] at p0
 have n0 := (hF).x.cell 0
 have n1 := (hF).x.cell 1
 have n2 := (hF).x.cell 2
 have n3 := (hF).x.cell 3
 have n4 := (hF).x.cell 4
 have n5 := (hF).x.cell 5
 have n6 := (hF).x.cell 6
 have n7 := (hF).x.cell 7
 have hlx := (hF).x.lt
 simp only [List.getElem?_toArray, List.getElem?_cons_zero, List.getElem?_cons_succ] at n0 n1 n2 n3 n4 n5 n6 n7
 clear hF hkz hz hz1 k1 k9 hWz hl
 generalize kidS 8 (z.kind, z.write) = lk at *
 go_wp2_with fail
 refine HC.out.mono ?_
 rintro e w5 ⟨rfl, S5, hm5, hv5⟩
 have HF5 := Lib.hid (HF2.out.go hm5 hv5)
 clear hm5 hv5 HC HF2 c0 c1 c2 c3 c4 c5 c6 c7 hblk hnb p0 hlp n0 n1 n2 n3 n4 n5 n6 n7 hlx
 dsimp only
 have p0 := (HF5.out).p.cell 0
 have hlp := (HF5.out).p.lt
 simp only [List.getElem?_toArray, List.getElem?_cons_zero, List.getElem?_cons_succ] at p0
 have n0 := (HF5.out).x.cell 0
 have n1 := (HF5.out).x.cell 1
 have n2 := (HF5.out).x.cell 2
 have n3 := (HF5.out).x.cell 3
 have n4 := (HF5.out).x.cell 4
 have n5 := (HF5.out).x.cell 5
 have n6 := (HF5.out).x.cell 6
 have n7 := (HF5.out).x.cell 7
 have hlx := (HF5.out).x.lt
 simp only [List.getElem?_toArray, List.getElem?_cons_zero, List.getElem?_cons_succ] at n0 n1 n2 n3 n4 n5 n6 n7
 have HP := Lib.hid (wput_go base g S5 (L ++ lk) 7 w5 HF5.out.wr HF5.out.size (by omega))
 go_wp2_with fail
 refine HP.out.mono ?_
 rintro e w6 ⟨rfl, S6, hm6, hv6⟩
 have HF6 := Lib.hid (HF5.out.go hm6 hv6)
 clear hm6 hv6 HP HF5 p0 hlp n0 n1 n2 n3 n4 n5 n6 n7 hlx
 dsimp only
 go_wp2
 go_light
 go_end0
 rw [← List.append_assoc]
 exact HF6.out.out rfl
theorem write_rep (x : Nd) (hK : KidsW x.kids) (B : Option Addr) (cap base g : Nat) (S : Nat → Prop) (L : List Lex) (w : World) (ht : TreesAt w (fun b => ¬ S b) x.kids B) (h : WrAt w base g S L) (hb : base ≤ w.heap.size) (hl : L.length + x.write.length ≤ 90000000) (hkl : x.kids.len ≤ 140737488355328) (hk : x.kind = 9) (hk1 : x.kids.len = 1) : Calls Tryz.prog 173 #[.pointer (some ⟨g, 0, none⟩), ndV x B cap] w (WrOut base g S w (L ++ x.write)) := by
 obtain ⟨z, hz1, hz⟩ := one_kid hk1
 have hlk : L.length + (kidS 9 (z.kind, z.write)).length ≤ 90000000 ∧ (L ++ kidS 9 (z.kind, z.write)).length + 1 ≤ 90000000 := by
  rw [Nd.write_rep hk, Trees.writes_head hz] at hl
  simp only [List.length_append, List.length_cons, List.length_nil, hk] at hl ⊢
  omega
 rw [Nd.write_rep hk, Trees.writes_head hz]
 have HK1 := Lib.hid hk1
 clear hk1
 have HF2 := Lib.hid (show WFr w base g S #[.int .i64 9, .int .u64 (word x.set.testBit 0), .int .u64 (word x.set.testBit 1), .int .u64 (word x.set.testBit 2), .int .u64 (word x.set.testBit 3), .slice B x.kids.len cap, .int .i64 x.lo, .int .i64 x.hi] S L ((w.alloc (.cells #[.pointer (some ⟨g, 0, none⟩)] 231)).alloc (.cells #[.int .i64 9, .int .u64 (word x.set.testBit 0), .int .u64 (word x.set.testBit 1), .int .u64 (word x.set.testBit 2), .int .u64 (word x.set.testBit 3), .slice B x.kids.len cap, .int .i64 x.lo, .int .i64 x.hi] 28)) from WFr.start #[.int .i64 9, .int .u64 (word x.set.testBit 0), .int .u64 (word x.set.testBit 1), .int .u64 (word x.set.testBit 2), .int .u64 (word x.set.testBit 3), .slice B x.kids.len cap, .int .i64 x.lo, .int .i64 x.hi] h hb)
 have HT := Lib.hid ht
 have HK := Lib.hid hK
 unfold ndV
 rw [hk]
 clear ht hK h
 go_enter Tryz.func173, Tryz.ntmps173
 try rw [hk]
 go_upto_region 26 with fail
 generalize ((w.alloc (.cells #[.pointer (some ⟨g, 0, none⟩)] 231)).alloc (.cells #[.int .i64 9, .int .u64 (word x.set.testBit 0), .int .u64 (word x.set.testBit 1), .int .u64 (word x.set.testBit 2), .int .u64 (word x.set.testBit 3), .slice B x.kids.len cap, .int .i64 x.lo, .int .i64 x.hi] 28)) = w2 at *
 have hk1 := HK1.out
 have hF := HF2.out
 obtain ⟨b, o, C, capc, rfl, hnb, _, ⟨c0, c1, c2, c3, c4, c5, c6, c7⟩, hkz⟩ := (HT.out.movesW hF.mvs).get hz
 have hblk := World.block_lt_of_cell? w2 _ c0
 obtain ⟨k1, k9, hWz⟩ := HK.out z (List.mem_of_getElem? hz)
 simp only [Nat.zero_mul, Nat.add_zero] at c0 c1 c2 c3 c4 c5 c6 c7
 have HC := Lib.hid (kid_go 9 z C capc 3 base g w.heap.size S L w2 hkz hF.wr hF.size (hF.p.cell 0) hF.np k1 k9 hWz hlk.1 (by decide))
 unfold ndV at HC
 have p0 := (hF).p.cell 0
 have hlp := (hF).p.lt
 simp only [List.getElem?_toArray, List.getElem?_cons_zero, List.getElem?_cons_succ] at p0
 have n0 := (hF).x.cell 0
 have n1 := (hF).x.cell 1
 have n2 := (hF).x.cell 2
 have n3 := (hF).x.cell 3
 have n4 := (hF).x.cell 4
 have n5 := (hF).x.cell 5
 have n6 := (hF).x.cell 6
 have n7 := (hF).x.cell 7
 have hlx := (hF).x.lt
 simp only [List.getElem?_toArray, List.getElem?_cons_zero, List.getElem?_cons_succ] at n0 n1 n2 n3 n4 n5 n6 n7
 clear hF hkz hz hz1 k1 k9 hWz hl
 generalize kidS 9 (z.kind, z.write) = lk at *
 go_wp2_with fail
 refine HC.out.mono ?_
 rintro e w5 ⟨rfl, S5, hm5, hv5⟩
 have HF5 := Lib.hid (HF2.out.go hm5 hv5)
 clear hm5 hv5 HC HF2 c0 c1 c2 c3 c4 c5 c6 c7 hblk hnb p0 hlp n0 n1 n2 n3 n4 n5 n6 n7 hlx
 dsimp only
 have h63 : (L ++ lk).length + 1 ≤ maxLen := Nat.le_trans (show (L ++ lk).length + 1 ≤ 2000000000 by omega) (by decide)
 have hby : ((L ++ lk).length + 1) * 64 ≤ 140737488355328 := by omega
 have HLC := Lib.hid (show lexCell ⟨8, 0, noSet, x.lo, x.hi⟩ = [.int .i64 8, .int .i64 0, .int .u64 0, .int .u64 0, .int .u64 0, .int .u64 0, .int .i64 x.lo, .int .i64 x.hi] from rfl)
 go_upto_region 27 with fail
 have p0 := (HF5.out).p.cell 0
 have hlp := (HF5.out).p.lt
 simp only [List.getElem?_toArray, List.getElem?_cons_zero, List.getElem?_cons_succ] at p0
 have n0 := (HF5.out).x.cell 0
 have n1 := (HF5.out).x.cell 1
 have n2 := (HF5.out).x.cell 2
 have n3 := (HF5.out).x.cell 3
 have n4 := (HF5.out).x.cell 4
 have n5 := (HF5.out).x.cell 5
 have n6 := (HF5.out).x.cell 6
 have n7 := (HF5.out).x.cell 7
 have hlx := (HF5.out).x.lt
 simp only [List.getElem?_toArray, List.getElem?_cons_zero, List.getElem?_cons_succ] at n0 n1 n2 n3 n4 n5 n6 n7
 have h0 := (HF5).out.wr
 obtain ⟨h0, hg, v, hG, hR, h3⟩ := h0
 obtain ⟨i0, hi, hz0, hz1, hz2⟩ := info_parts info_lex
 have s0 := hG.cell 0
 have f0 := hG.frozen 0
 have hltg := Blk.lt hG
 have HG := Lib.hid hG
 have HR := Lib.hid hR
 have HH := Lib.hid (show _ ∧ _ ∧ _ from ⟨h0, hg, h3⟩)
 have HneG := Lib.hid (blk_not_row hG (by decide) hR)
 have hbw := (HF5).out.size
 clear hG hR h0 h3
 have hKl := two_of (Q := fun b => b < w5.heap.size) hlp hlx
 refine wp_region_held_drew (S := fun w' => ∀ b' o', b' = w.heap.size ∨ b' = w.heap.size + 1 → w'.cell? ⟨b', o', none⟩ = w5.cell? ⟨b', o', none⟩) (by kernel_rfl) (KeepP.start (fun b => b = w.heap.size ∨ b = w.heap.size + 1) w5) (fun hHeld => ?_)
 refine wpAnyH_take (i := 0) (oi := _) (v := ?_) rfl (by kernel_rfl) (by kernel_rfl) (by kernel_rfl) (fun _ _ _ h => h) (Or.inl ⟨by kernel_rfl, ?_⟩) (by assumption) ?_
 rotate_left
 ·intro w hSw
  try dsimp only at hSw
  go_simp
  try (with_reducible rfl)
 try simp only [Act.put, List.getElem_toArray, List.getElem_cons_zero, List.getElem_cons_succ, List.setIfInBounds_toArray, List.set_cons_zero, List.set_cons_succ]
 refine wpAnyH_take (i := 1) (oi := _) (v := ?_) rfl (by kernel_rfl) (by kernel_rfl) (by kernel_rfl) (fun _ _ _ h => h) (Or.inl ⟨by kernel_rfl, ?_⟩) (by assumption) ?_
 rotate_left
 ·intro w hSw
  try dsimp only at hSw
  go_simp
  try (with_reducible rfl)
 try simp only [Act.put, List.getElem_toArray, List.getElem_cons_zero, List.getElem_cons_succ, List.setIfInBounds_toArray, List.set_cons_zero, List.set_cons_succ]
 refine wpAnyH_take (i := 2) (oi := _) (v := ?_) rfl (by kernel_rfl) (by kernel_rfl) (by kernel_rfl) (fun _ _ _ h => h) (Or.inl ⟨by kernel_rfl, ?_⟩) (by assumption) ?_
 rotate_left
 ·intro w hSw
  try dsimp only at hSw
  go_simp
  try (with_reducible rfl)
 try simp only [Act.put, List.getElem_toArray, List.getElem_cons_zero, List.getElem_cons_succ, List.setIfInBounds_toArray, List.set_cons_zero, List.set_cons_succ]
 refine wpAnyH_take (i := 3) (oi := _) (v := ?_) rfl (by kernel_rfl) (by kernel_rfl) (by kernel_rfl) (fun _ _ _ h => h) (Or.inl ⟨by kernel_rfl, ?_⟩) (by assumption) ?_
 rotate_left
 ·intro w hSw
  try dsimp only at hSw
  go_simp
  try (with_reducible rfl)
 try simp only [Act.put, List.getElem_toArray, List.getElem_cons_zero, List.getElem_cons_succ, List.setIfInBounds_toArray, List.set_cons_zero, List.set_cons_succ]
 refine wpAnyH_take (i := 5) (oi := _) (v := ?_) rfl (by kernel_rfl) (by kernel_rfl) (by kernel_rfl) (fun _ _ _ h => h) (Or.inl ⟨by kernel_rfl, ?_⟩) (by assumption) ?_
 rotate_left
 ·intro w hSw
  try dsimp only at hSw
  go_simp
  try (with_reducible rfl)
 try simp only [Act.put, List.getElem_toArray, List.getElem_cons_zero, List.getElem_cons_succ, List.setIfInBounds_toArray, List.set_cons_zero, List.set_cons_succ]
 refine wpAnyH_take (i := 6) (oi := _) (v := ?_) rfl (by kernel_rfl) (by kernel_rfl) (by kernel_rfl) (fun _ _ _ h => h) (Or.inl ⟨by kernel_rfl, ?_⟩) (by assumption) ?_
 rotate_left
 ·intro w hSw
  try dsimp only at hSw
  go_simp
  try (with_reducible rfl)
 try simp only [Act.put, List.getElem_toArray, List.getElem_cons_zero, List.getElem_cons_succ, List.setIfInBounds_toArray, List.set_cons_zero, List.set_cons_succ]
 refine wpAnyH_take (i := 7) (oi := _) (v := ?_) rfl (by kernel_rfl) (by kernel_rfl) (by kernel_rfl) (fun _ _ _ h => h) (Or.inl ⟨by kernel_rfl, ?_⟩) (by assumption) ?_
 rotate_left
 ·intro w hSw
  try dsimp only at hSw
  go_simp
  try (with_reducible rfl)
 try simp only [Act.put, List.getElem_toArray, List.getElem_cons_zero, List.getElem_cons_succ, List.setIfInBounds_toArray, List.set_cons_zero, List.set_cons_succ]
 refine wpAnyH_take (i := 8) (oi := _) (v := ?_) rfl (by kernel_rfl) (by kernel_rfl) (by kernel_rfl) (fun _ _ _ h => h) (Or.inl ⟨by kernel_rfl, ?_⟩) (by assumption) ?_
 rotate_left
 ·intro w hSw
  try dsimp only at hSw
  go_simp
  try (with_reducible rfl)
 try simp only [Act.put, List.getElem_toArray, List.getElem_cons_zero, List.getElem_cons_succ, List.setIfInBounds_toArray, List.set_cons_zero, List.set_cons_succ]
 refine wpAnyH_take (i := 9) (oi := _) (v := ?_) rfl (by kernel_rfl) (by kernel_rfl) (by kernel_rfl) (fun _ _ _ h => h) (Or.inl ⟨by kernel_rfl, ?_⟩) (by assumption) ?_
 rotate_left
 ·intro w hSw
  try dsimp only at hSw
  go_simp
  try (with_reducible rfl)
 try simp only [Act.put, List.getElem_toArray, List.getElem_cons_zero, List.getElem_cons_succ, List.setIfInBounds_toArray, List.set_cons_zero, List.set_cons_succ]
 refine wpAnyH_ready (rs := [4, 10]) (by kernel_rfl) (by simp) ?_
 refine AllReadyH.cons (o := _) rfl (fun K hK => ?_) (AllReadyH.cons (o := _) rfl (fun K hK => ?_) AllReadyH.nil)
 ·skip
  go_simp
  refine hK.out _ _ hHeld (fun _ => ?_)
  clear hK K hHeld
  try simp only [Act.put, List.getElem_toArray, List.getElem_cons_zero, List.getElem_cons_succ, List.setIfInBounds_toArray, List.set_cons_zero, List.set_cons_succ]
  refine wpAnyH_ready (rs := [10]) (by kernel_rfl) (by simp) ?_
  refine AllReadyH.cons (o := _) rfl (fun K hK => ?_) AllReadyH.nil
  go_simp
  refine hK.out _ _ (KeepP.alloc (KeepP.start (fun b => b = w.heap.size ∨ b = w.heap.size + 1) w5) hKl _) (fun _ => ?_)
  clear hK K
  try simp only [Act.put, List.getElem_toArray, List.getElem_cons_zero, List.getElem_cons_succ, List.setIfInBounds_toArray, List.set_cons_zero, List.set_cons_succ]
  refine wpAnyH_ready (rs := [11]) (by kernel_rfl) (by simp) ?_
  refine AllReadyH.cons (o := _) rfl (fun K hK => ?_) AllReadyH.nil
  refine step_append_lies _ (by rfl) _ _ _ (by rfl) base 139 i0 _ 8 64 Tryz.underlying134 hi hz0 hz1 hz2 rfl (by decide) v (L ++ lk).length (lexCells (L ++ lk)) (by rfl) (HR.out.drew.alloc _) ⟨w5.heap.size, 0, none⟩ 1 1 ([.int .i64 8, .int .i64 0, .int .u64 0, .int .u64 0, .int .u64 0, .int .u64 0, .int .i64 x.lo, .int .i64 x.hi]) (by rfl) (by rfl) (World.news_of_block (cs := ([.int .i64 8, .int .i64 0, .int .u64 0, .int .u64 0, .int .u64 0, .int .u64 0, .int .i64 x.lo, .int .i64 x.hi]).toArray) (t := 139) (fr := (0, 0)) (heap_alloc_new w5.drew _)) (by simp [Value.oneCell']) (by decide) h63 hby (by simp; omega) (w5.heap.size + 1) (by simp) ?_
  intro gg cap' w3 hown1 hgrow hat hlt1
  have hG1 := Blk.grown (Blk.alloc (Blk.drew HG.out) _) hgrow HneG.out
  have c0 := hG1.cell 0
  have d0 := hG1.frozen 0
  have hgl := hG1.lt
  have HKG := Lib.hid (KeepP.grown (KeepP.alloc (KeepP.start (fun b => b = w.heap.size ∨ b = w.heap.size + 1) w5) hKl _) hgrow (two_of (Q := fun b => b < _ ∧ some b ≠ v.ownBlock) ⟨by simp; omega, fun e => HF5.out.np (HH.out.2.2 _ e.symm)⟩ ⟨by simp; omega, fun e => HF5.out.nx (HH.out.2.2 _ e.symm)⟩))
  rw [← HLC.out] at hown1
  have HG1 := Lib.hid hG1
  have Hgrow := Lib.hid hgrow
  have Hown1 := Lib.hid hown1
  have Hat := Lib.hid hat
  clear hG1 hgrow hown1 hat
  refine hK.out _ _ HKG.out (fun _ => ?_)
  clear hK K
  try simp only [Act.put, List.getElem_toArray, List.getElem_cons_zero, List.getElem_cons_succ, List.setIfInBounds_toArray, List.set_cons_zero, List.set_cons_succ]
  refine wpAnyH_take (i := 12) (oi := _) (v := ?_) rfl (by kernel_rfl) (by kernel_rfl) (by kernel_rfl) (fun _ _ _ h => h) (Or.inl ⟨by kernel_rfl, ?_⟩) (by assumption) ?_
  rotate_left
  ·intro w hSw
   try dsimp only at hSw
   go_simp
   try (with_reducible rfl)
  try simp only [Act.put, List.getElem_toArray, List.getElem_cons_zero, List.getElem_cons_succ, List.setIfInBounds_toArray, List.set_cons_zero, List.set_cons_succ]
  refine wpAnyH_take (i := 13) (oi := _) (v := ?_) rfl (by kernel_rfl) (by kernel_rfl) (by kernel_rfl) (fun _ _ _ h => h) (Or.inl ⟨by kernel_rfl, ?_⟩) (by assumption) ?_
  rotate_left
  ·intro w hSw
   try dsimp only at hSw
   go_simp
   try (with_reducible rfl)
  try simp only [Act.put, List.getElem_toArray, List.getElem_cons_zero, List.getElem_cons_succ, List.setIfInBounds_toArray, List.set_cons_zero, List.set_cons_succ]
  refine wpAnyH_ready (rs := [14]) (by kernel_rfl) (by simp) ?_
  refine AllReadyH.cons (o := _) rfl (fun K hK => ?_) AllReadyH.nil
  go_simp
  refine hK.out _ _ (KeepP.set HKG.out (two_of (Q := fun b => b ≠ g) (p := w.heap.size) (q := w.heap.size + 1) (fun e => HF5.out.np (by rw [e]; exact HH.out.2.1)) (fun e => HF5.out.nx (by rw [e]; exact HH.out.2.1))) _) (fun _ => ?_)
  clear hK K
  try simp only [Act.put, List.getElem_toArray, List.getElem_cons_zero, List.getElem_cons_succ, List.setIfInBounds_toArray, List.set_cons_zero, List.set_cons_succ]
  refine wpAnyH_done (by kernel_rfl) ?_ _
  go_wp2
  go_light
  go_end0
  obtain ⟨S', hp1, hp2⟩ := wr_push HH.out hbw HG1.out ((Below.refl w5.heap.size w5).drew.alloc (Nat.le_refl _) _) Hgrow.out Hown1.out Hat.out (by omega)
  have hz9 := (HF5.out.go hp1 hp2).out (e := .returned (.tuple #[])) rfl; rw [List.length_append] at hz9; rw [← List.append_assoc]; exact hz9
 ·skip
  go_simp
  refine hK.out _ _ (KeepP.alloc (KeepP.start (fun b => b = w.heap.size ∨ b = w.heap.size + 1) w5) hKl _) (fun _ => ?_)
  clear hK K hHeld
  try simp only [Act.put, List.getElem_toArray, List.getElem_cons_zero, List.getElem_cons_succ, List.setIfInBounds_toArray, List.set_cons_zero, List.set_cons_succ]
  refine wpAnyH_ready (rs := [4]) (by kernel_rfl) (by simp) ?_
  refine AllReadyH.cons (o := _) rfl (fun K hK => ?_) AllReadyH.nil
  go_simp
  refine hK.out _ _ (by assumption) (fun _ => ?_)
  clear hK K
  try simp only [Act.put, List.getElem_toArray, List.getElem_cons_zero, List.getElem_cons_succ, List.setIfInBounds_toArray, List.set_cons_zero, List.set_cons_succ]
  refine wpAnyH_ready (rs := [11]) (by kernel_rfl) (by simp) ?_
  refine AllReadyH.cons (o := _) rfl (fun K hK => ?_) AllReadyH.nil
  refine step_append_lies _ (by rfl) _ _ _ (by rfl) base 139 i0 _ 8 64 Tryz.underlying134 hi hz0 hz1 hz2 rfl (by decide) v (L ++ lk).length (lexCells (L ++ lk)) (by rfl) (HR.out.drew.alloc _) ⟨w5.heap.size, 0, none⟩ 1 1 ([.int .i64 8, .int .i64 0, .int .u64 0, .int .u64 0, .int .u64 0, .int .u64 0, .int .i64 x.lo, .int .i64 x.hi]) (by rfl) (by rfl) (World.news_of_block (cs := ([.int .i64 8, .int .i64 0, .int .u64 0, .int .u64 0, .int .u64 0, .int .u64 0, .int .i64 x.lo, .int .i64 x.hi]).toArray) (t := 139) (fr := (0, 0)) (heap_alloc_new w5.drew _)) (by simp [Value.oneCell']) (by decide) h63 hby (by simp; omega) (w5.heap.size + 1) (by simp) ?_
  intro gg cap' w3 hown1 hgrow hat hlt1
  have hG1 := Blk.grown (Blk.alloc (Blk.drew HG.out) _) hgrow HneG.out
  have c0 := hG1.cell 0
  have d0 := hG1.frozen 0
  have hgl := hG1.lt
  have HKG := Lib.hid (KeepP.grown (KeepP.alloc (KeepP.start (fun b => b = w.heap.size ∨ b = w.heap.size + 1) w5) hKl _) hgrow (two_of (Q := fun b => b < _ ∧ some b ≠ v.ownBlock) ⟨by simp; omega, fun e => HF5.out.np (HH.out.2.2 _ e.symm)⟩ ⟨by simp; omega, fun e => HF5.out.nx (HH.out.2.2 _ e.symm)⟩))
  rw [← HLC.out] at hown1
  have HG1 := Lib.hid hG1
  have Hgrow := Lib.hid hgrow
  have Hown1 := Lib.hid hown1
  have Hat := Lib.hid hat
  clear hG1 hgrow hown1 hat
  refine hK.out _ _ HKG.out (fun _ => ?_)
  clear hK K
  try simp only [Act.put, List.getElem_toArray, List.getElem_cons_zero, List.getElem_cons_succ, List.setIfInBounds_toArray, List.set_cons_zero, List.set_cons_succ]
  refine wpAnyH_take (i := 12) (oi := _) (v := ?_) rfl (by kernel_rfl) (by kernel_rfl) (by kernel_rfl) (fun _ _ _ h => h) (Or.inl ⟨by kernel_rfl, ?_⟩) (by assumption) ?_
  rotate_left
  ·intro w hSw
   try dsimp only at hSw
   go_simp
   try (with_reducible rfl)
  try simp only [Act.put, List.getElem_toArray, List.getElem_cons_zero, List.getElem_cons_succ, List.setIfInBounds_toArray, List.set_cons_zero, List.set_cons_succ]
  refine wpAnyH_take (i := 13) (oi := _) (v := ?_) rfl (by kernel_rfl) (by kernel_rfl) (by kernel_rfl) (fun _ _ _ h => h) (Or.inl ⟨by kernel_rfl, ?_⟩) (by assumption) ?_
  rotate_left
  ·intro w hSw
   try dsimp only at hSw
   go_simp
   try (with_reducible rfl)
  try simp only [Act.put, List.getElem_toArray, List.getElem_cons_zero, List.getElem_cons_succ, List.setIfInBounds_toArray, List.set_cons_zero, List.set_cons_succ]
  refine wpAnyH_ready (rs := [14]) (by kernel_rfl) (by simp) ?_
  refine AllReadyH.cons (o := _) rfl (fun K hK => ?_) AllReadyH.nil
  go_simp
  refine hK.out _ _ (KeepP.set HKG.out (two_of (Q := fun b => b ≠ g) (p := w.heap.size) (q := w.heap.size + 1) (fun e => HF5.out.np (by rw [e]; exact HH.out.2.1)) (fun e => HF5.out.nx (by rw [e]; exact HH.out.2.1))) _) (fun _ => ?_)
  clear hK K
  try simp only [Act.put, List.getElem_toArray, List.getElem_cons_zero, List.getElem_cons_succ, List.setIfInBounds_toArray, List.set_cons_zero, List.set_cons_succ]
  refine wpAnyH_done (by kernel_rfl) ?_ _
  go_wp2
  go_light
  go_end0
  obtain ⟨S', hp1, hp2⟩ := wr_push HH.out hbw HG1.out ((Below.refl w5.heap.size w5).drew.alloc (Nat.le_refl _) _) Hgrow.out Hown1.out Hat.out (by omega)
  have hz9 := (HF5.out.go hp1 hp2).out (e := .returned (.tuple #[])) rfl; rw [List.length_append] at hz9; rw [← List.append_assoc]; exact hz9
theorem cat_snoc {F : Trees} {k : Nat} {z : Nd} (hz : F.list[k]? = some z) (L : List Lex) : L ++ ((F.writes.take (k + 1)).map (kidS 4)).flatten = L ++ ((F.writes.take k).map (kidS 4)).flatten ++ kidS 4 (z.kind, z.write) := by
 rw [take_snocF (Trees.writes_get hz), List.map_append, List.flatten_append, List.append_assoc]
 simp
theorem write_cat (x : Nd) (hK : KidsW x.kids) (B : Option Addr) (cap base g : Nat) (S : Nat → Prop) (L : List Lex) (w : World) (ht : TreesAt w (fun b => ¬ S b) x.kids B) (h : WrAt w base g S L) (hb : base ≤ w.heap.size) (hl : L.length + x.write.length ≤ 90000000) (hkl : x.kids.len ≤ 140737488355328) (hk : x.kind = 4) : Calls Tryz.prog 173 #[.pointer (some ⟨g, 0, none⟩), ndV x B cap] w (WrOut base g S w (L ++ x.write)) := by
 rw [Nd.write_cat hk] at hl ⊢
 have HF2 := Lib.hid (show WFr w base g S #[.int .i64 4, .int .u64 (word x.set.testBit 0), .int .u64 (word x.set.testBit 1), .int .u64 (word x.set.testBit 2), .int .u64 (word x.set.testBit 3), .slice B x.kids.len cap, .int .i64 x.lo, .int .i64 x.hi] S L ((w.alloc (.cells #[.pointer (some ⟨g, 0, none⟩)] 231)).alloc (.cells #[.int .i64 4, .int .u64 (word x.set.testBit 0), .int .u64 (word x.set.testBit 1), .int .u64 (word x.set.testBit 2), .int .u64 (word x.set.testBit 3), .slice B x.kids.len cap, .int .i64 x.lo, .int .i64 x.hi] 28)) from WFr.start #[.int .i64 4, .int .u64 (word x.set.testBit 0), .int .u64 (word x.set.testBit 1), .int .u64 (word x.set.testBit 2), .int .u64 (word x.set.testBit 3), .slice B x.kids.len cap, .int .i64 x.lo, .int .i64 x.hi] h hb)
 have HT := Lib.hid ht
 have HK := Lib.hid hK
 unfold ndV
 rw [hk]
 clear ht hK h
 go_enter Tryz.func173, Tryz.ntmps173
 have HM0 := Lib.hid (show WFrM w base g S #[.int .i64 4, .int .u64 (word x.set.testBit 0), .int .u64 (word x.set.testBit 1), .int .u64 (word x.set.testBit 2), .int .u64 (word x.set.testBit 3), .slice B x.kids.len cap, .int .i64 x.lo, .int .i64 x.hi] (L ++ ((x.kids.writes.take 0).map (kidS 4)).flatten) ((w.alloc (.cells #[.pointer (some ⟨g, 0, none⟩)] 231)).alloc (.cells #[.int .i64 4, .int .u64 (word x.set.testBit 0), .int .u64 (word x.set.testBit 1), .int .u64 (word x.set.testBit 2), .int .u64 (word x.set.testBit 3), .slice B x.kids.len cap, .int .i64 x.lo, .int .i64 x.hi] 28)) from ⟨S, by simpa using HF2.out⟩)
 clear HF2
 go_wp2
 go_loopw [50] (fun i' wr => ∃ k : Nat, i' = .int .i64 (k : Int) ∧ k ≤ x.kids.len ∧ Hid (WFrM w base g S #[.int .i64 4, .int .u64 (word x.set.testBit 0), .int .u64 (word x.set.testBit 1), .int .u64 (word x.set.testBit 2), .int .u64 (word x.set.testBit 3), .slice B x.kids.len cap, .int .i64 x.lo, .int .i64 x.hi] (L ++ ((x.kids.writes.take k).map (kidS 4)).flatten) wr)) (fun i' _ => x.kids.len - (intOf i').toNat)
 case atStart => exact ⟨0, rfl, Nat.zero_le _, HM0⟩
 case round =>
  clear HM0
  obtain ⟨k, rfl, hk, HM⟩ := hrel
  by_cases hlt : k < x.kids.len
  ·obtain ⟨z, hz⟩ : ∃ z, x.kids.list[k]? = some z := ⟨_, List.getElem?_eq_getElem (by rw [Trees.len_list]; exact hlt)⟩
   have hdl : (k : Int) < (x.kids.len : Int) := by omega
   have hsn := cat_snoc hz L
   have hle : (L ++ ((x.kids.writes.take k).map (kidS 4)).flatten).length + (kidS 4 (z.kind, z.write)).length ≤ 90000000 := by
    have h1 := flat_take (x.kids.writes.map (kidS 4)) (k + 1)
    rw [← List.map_take] at h1
    have h2 := congrArg List.length hsn
    rw [List.length_append, List.length_append] at h2
    omega
   have HS := Lib.hid hsn
   obtain ⟨S1, hF0⟩ := HM.out
   have hF := hF0
   obtain ⟨b, o, C, capc, rfl, hnb, _, ⟨c0, c1, c2, c3, c4, c5, c6, c7⟩, hkz⟩ := (HT.out.movesW hF.mvs).get hz
   have hblk := World.block_lt_of_cell? wr _ c0
   obtain ⟨k1, k9, hWz⟩ := HK.out z (List.mem_of_getElem? hz)
   have hFA := hF0.below ((Below.refl _ _).alloc (Nat.le_refl _) (.cells #[.int .i64 z.kind, .int .u64 (word z.set.testBit 0), .int .u64 (word z.set.testBit 1), .int .u64 (word z.set.testBit 2), .int .u64 (word z.set.testBit 3), .slice C z.kids.len capc, .int .i64 z.lo, .int .i64 z.hi] 28))
   have HC := Lib.hid (kid_go 4 z C capc 3 base g w.heap.size S1 _ _ (hkz.below ((Below.refl _ _).alloc (Nat.le_refl _) _)) hFA.wr hFA.size (hFA.p.cell 0) hFA.np k1 k9 hWz hle (by decide))
   have HFA := Lib.hid hFA
   unfold ndV at HC
   clear hF hF0 hFA hkz hz k1 k9 hWz hl hsn hle HM
   generalize L ++ ((x.kids.writes.take k).map (kidS 4)).flatten = Lk at *
   generalize kidS 4 (z.kind, z.write) = lz at *
   go_wp2_with fail
   refine HC.out.mono ?_
   rintro e w5 ⟨rfl, S5, hm5, hv5⟩
   have HF5 := Lib.hid (HFA.out.go hm5 hv5)
   clear hm5 hv5 HC HFA c0 c1 c2 c3 c4 c5 c6 c7 hblk hnb
   dsimp only
   go_wp2
   go_roundw
   case rel =>
    refine ⟨k + 1, by go_num, by omega, Lib.hid ?_⟩
    rw [HS.out]
    exact ⟨S5, HF5.out⟩
   case measure => simp [intOf]; omega
  ·obtain rfl : k = x.kids.len := by omega
   have hdl : ¬ ((x.kids.len : Int) < (x.kids.len : Int)) := by omega
   obtain ⟨S1, hF0⟩ := HM.out
   rw [show x.kids.writes.take x.kids.len = x.kids.writes by rw [← Trees.writes_len, List.take_length]] at hF0
   have HF0 := Lib.hid hF0
   clear hF0 HM
   go_wp2
   go_light
   go_end0
   exact HF0.out.out rfl
theorem alt_snoc {F : Trees} {k : Nat} {z : Nd} (hz : F.list[k]? = some z) (hk : 0 < k) : barsS ((F.writes.take (k + 1)).map (kidS 5)) = barsS ((F.writes.take k).map (kidS 5)) ++ [lexK 4] ++ kidS 5 (z.kind, z.write) := by
 have hlt := (List.getElem?_eq_some_iff.1 (Trees.writes_get hz)).1
 rw [take_snocF (Trees.writes_get hz), List.map_append, List.map_cons, List.map_nil, barsS_snoc, if_neg (by rw [List.length_map, List.length_take]; omega)]
 simp
theorem alt_first {F : Trees} {z : Nd} (hz : F.list[0]? = some z) : barsS ((F.writes.take (0 + 1)).map (kidS 5)) = kidS 5 (z.kind, z.write) := by
 rw [take_snocF (Trees.writes_get hz), List.take_zero, List.nil_append]
 simp [barsS]
theorem write_alt (x : Nd) (hK : KidsW x.kids) (B : Option Addr) (cap base g : Nat) (S : Nat → Prop) (L : List Lex) (w : World) (ht : TreesAt w (fun b => ¬ S b) x.kids B) (h : WrAt w base g S L) (hb : base ≤ w.heap.size) (hl : L.length + x.write.length ≤ 90000000) (hkl : x.kids.len ≤ 140737488355328) (hk : x.kind = 5) : Calls Tryz.prog 173 #[.pointer (some ⟨g, 0, none⟩), ndV x B cap] w (WrOut base g S w (L ++ x.write)) := by
 rw [Nd.write_alt hk] at hl ⊢
 have HF2 := Lib.hid (show WFr w base g S #[.int .i64 5, .int .u64 (word x.set.testBit 0), .int .u64 (word x.set.testBit 1), .int .u64 (word x.set.testBit 2), .int .u64 (word x.set.testBit 3), .slice B x.kids.len cap, .int .i64 x.lo, .int .i64 x.hi] S L ((w.alloc (.cells #[.pointer (some ⟨g, 0, none⟩)] 231)).alloc (.cells #[.int .i64 5, .int .u64 (word x.set.testBit 0), .int .u64 (word x.set.testBit 1), .int .u64 (word x.set.testBit 2), .int .u64 (word x.set.testBit 3), .slice B x.kids.len cap, .int .i64 x.lo, .int .i64 x.hi] 28)) from WFr.start #[.int .i64 5, .int .u64 (word x.set.testBit 0), .int .u64 (word x.set.testBit 1), .int .u64 (word x.set.testBit 2), .int .u64 (word x.set.testBit 3), .slice B x.kids.len cap, .int .i64 x.lo, .int .i64 x.hi] h hb)
 have HT := Lib.hid ht
 have HK := Lib.hid hK
 unfold ndV
 rw [hk]
 clear ht hK h
 go_enter Tryz.func173, Tryz.ntmps173
 have HM0 := Lib.hid (show WFrM w base g S #[.int .i64 5, .int .u64 (word x.set.testBit 0), .int .u64 (word x.set.testBit 1), .int .u64 (word x.set.testBit 2), .int .u64 (word x.set.testBit 3), .slice B x.kids.len cap, .int .i64 x.lo, .int .i64 x.hi] (L ++ barsS ((x.kids.writes.take 0).map (kidS 5))) ((w.alloc (.cells #[.pointer (some ⟨g, 0, none⟩)] 231)).alloc (.cells #[.int .i64 5, .int .u64 (word x.set.testBit 0), .int .u64 (word x.set.testBit 1), .int .u64 (word x.set.testBit 2), .int .u64 (word x.set.testBit 3), .slice B x.kids.len cap, .int .i64 x.lo, .int .i64 x.hi] 28)) from ⟨S, by simpa [barsS] using HF2.out⟩)
 clear HF2
 go_wp2
 go_loopw [32] (fun i' wr => ∃ k : Nat, i' = .int .i64 (k : Int) ∧ k ≤ x.kids.len ∧ Hid (WFrM w base g S #[.int .i64 5, .int .u64 (word x.set.testBit 0), .int .u64 (word x.set.testBit 1), .int .u64 (word x.set.testBit 2), .int .u64 (word x.set.testBit 3), .slice B x.kids.len cap, .int .i64 x.lo, .int .i64 x.hi] (L ++ barsS ((x.kids.writes.take k).map (kidS 5))) wr)) (fun i' _ => x.kids.len - (intOf i').toNat)
 case atStart => exact ⟨0, rfl, Nat.zero_le _, HM0⟩
 case round =>
  clear HM0
  obtain ⟨k, rfl, hk, HM⟩ := hrel
  by_cases hlt : k < x.kids.len
  ·obtain ⟨z, hz⟩ : ∃ z, x.kids.list[k]? = some z := ⟨_, List.getElem?_eq_getElem (by rw [Trees.len_list]; exact hlt)⟩
   have hdl : (k : Int) < (x.kids.len : Int) := by omega
   have htk := bars_take (x.kids.writes.map (kidS 5)) (k + 1)
   rw [← List.map_take] at htk
   obtain ⟨S1, hF0⟩ := HM.out
   rcases Nat.eq_zero_or_pos k with rfl | hpos
   ·have hsn := alt_first hz
    have hle : L.length + (kidS 5 (z.kind, z.write)).length ≤ 90000000 := by
     rw [hsn] at htk
     omega
    have HS := Lib.hid (congrArg (fun l => L ++ l) hsn)
    have hF := hF0
    obtain ⟨b, o, C, capc, rfl, hnb, _, ⟨c0, c1, c2, c3, c4, c5, c6, c7⟩, hkz⟩ := (HT.out.movesW hF.mvs).get hz
    have hblk := World.block_lt_of_cell? wr _ c0
    obtain ⟨k1, k9, hWz⟩ := HK.out z (List.mem_of_getElem? hz)
    have hFA := hF0.below ((Below.refl _ _).alloc (Nat.le_refl _) (.cells #[.int .i64 z.kind, .int .u64 (word z.set.testBit 0), .int .u64 (word z.set.testBit 1), .int .u64 (word z.set.testBit 2), .int .u64 (word z.set.testBit 3), .slice C z.kids.len capc, .int .i64 z.lo, .int .i64 z.hi] 28))
    simp only [Nat.zero_mul, Nat.add_zero] at c0 c1 c2 c3 c4 c5 c6 c7
    have e0 : L ++ barsS ((x.kids.writes.take 0).map (kidS 5)) = L := by simp [barsS]
    rw [e0] at hFA
    have HC := Lib.hid (kid_go 5 z C capc 2 base g w.heap.size S1 _ _ (hkz.below ((Below.refl _ _).alloc (Nat.le_refl _) _)) hFA.wr hFA.size (hFA.p.cell 0) hFA.np k1 k9 hWz hle (by decide))
    have HFA := Lib.hid hFA
    unfold ndV at HC
    clear hF hF0 hFA hkz hz k1 k9 hWz hl hsn hle HM htk e0
    generalize kidS 5 (z.kind, z.write) = lz at *
    go_wp2_with fail
    refine HC.out.mono ?_
    rintro e w5 ⟨rfl, S5, hm5, hv5⟩
    have HF5 := Lib.hid (HFA.out.go hm5 hv5)
    clear hm5 hv5 HC HFA c0 c1 c2 c3 c4 c5 c6 c7 hblk hnb
    dsimp only
    go_wp2
    go_roundw
    case rel =>
     refine ⟨0 + 1, by go_num, by omega, Lib.hid ?_⟩
     rw [HS.out]
     exact ⟨S5, HF5.out⟩
    case measure => simp [intOf]; omega
   ·have hsn := alt_snoc hz hpos
    have hle : (L ++ barsS ((x.kids.writes.take k).map (kidS 5)) ++ [lexK 4]).length + (kidS 5 (z.kind, z.write)).length ≤ 90000000 := by
     have h2 := congrArg List.length hsn
     simp only [List.length_append, List.length_cons, List.length_nil] at h2 hl ⊢
     omega
    have hdp : (0 : Int) < (k : Int) := by omega
    have HS := Lib.hid (congrArg (fun l => L ++ l) hsn)
    have hF := hF0
    obtain ⟨b, o, C, capc, rfl, hnb, _, ⟨c0, c1, c2, c3, c4, c5, c6, c7⟩, hkz⟩ := (HT.out.movesW hF.mvs).get hz
    have hblk := World.block_lt_of_cell? wr _ c0
    obtain ⟨k1, k9, hWz⟩ := HK.out z (List.mem_of_getElem? hz)
    have hFA := hF0.below ((Below.refl _ _).alloc (Nat.le_refl _) (.cells #[.int .i64 z.kind, .int .u64 (word z.set.testBit 0), .int .u64 (word z.set.testBit 1), .int .u64 (word z.set.testBit 2), .int .u64 (word z.set.testBit 3), .slice C z.kids.len capc, .int .i64 z.lo, .int .i64 z.hi] 28))
    rw [← List.append_assoc, ← List.append_assoc] at HS
    generalize L ++ barsS ((x.kids.writes.take k).map (kidS 5)) = Lk at *
    have HP := Lib.hid (wput_go base g S1 Lk 4 _ hFA.wr hFA.size (by simp only [List.length_append] at hle; omega))
    have p0 := hFA.p.cell 0
    simp only [List.getElem?_toArray, List.getElem?_cons_zero] at p0
    have HQ := Lib.hid (show _ ∧ _ ∧ _ ∧ _ from ⟨hkz.below ((Below.refl _ _).alloc (Nat.le_refl _) (.cells #[.int .i64 z.kind, .int .u64 (word z.set.testBit 0), .int .u64 (word z.set.testBit 1), .int .u64 (word z.set.testBit 2), .int .u64 (word z.set.testBit 3), .slice C z.kids.len capc, .int .i64 z.lo, .int .i64 z.hi] 28)), k1, k9, hWz⟩)
    have HX := Lib.hid (Blk.new wr 28 #[.int .i64 z.kind, .int .u64 (word z.set.testBit 0), .int .u64 (word z.set.testBit 1), .int .u64 (word z.set.testBit 2), .int .u64 (word z.set.testBit 3), .slice C z.kids.len capc, .int .i64 z.lo, .int .i64 z.hi])
    have HFA := Lib.hid hFA
    have HNX := Lib.hid (hF0.wr.not (Nat.le_refl wr.heap.size))
    have HLE := Lib.hid hle
    clear hF hF0 hFA hkz hz k1 k9 hWz hl hsn hle HM htk
    go_wp2_with fail
    refine HP.out.mono ?_
    rintro e w4 ⟨rfl, S4, hm4, hv4⟩
    have hF4 := HFA.out.go hm4 hv4
    have hX4 := HX.out.moves hv4 HNX.out
    have HC := Lib.hid (kid_go 5 z C capc 2 base g w.heap.size S4 (Lk ++ [lexK 4]) w4 (HQ.out.1.movesW hv4) hF4.wr hF4.size (hF4.p.cell 0) hF4.np HQ.out.2.1 HQ.out.2.2.1 HQ.out.2.2.2 HLE.out (by decide))
    unfold ndV at HC
    have HF4 := Lib.hid hF4
    have y0 := hX4.cell 0
    have y1 := hX4.cell 1
    have y2 := hX4.cell 2
    have y3 := hX4.cell 3
    have y4 := hX4.cell 4
    have y5 := hX4.cell 5
    have y6 := hX4.cell 6
    have y7 := hX4.cell 7
    have hly := hX4.lt
    simp only [List.getElem?_toArray, List.getElem?_cons_zero, List.getElem?_cons_succ] at y0 y1 y2 y3 y4 y5 y6 y7
    clear hm4 hv4 hF4 hX4 HP HFA HX HNX HQ HLE p0 c0 c1 c2 c3 c4 c5 c6 c7 hblk hnb
    generalize kidS 5 (z.kind, z.write) = lz at *
    dsimp only
    go_wp2_with fail
    refine HC.out.mono ?_
    rintro e w5 ⟨rfl, S5, hm5, hv5⟩
    have HF5 := Lib.hid (HF4.out.go hm5 hv5)
    clear hm5 hv5 HC HF4 y0 y1 y2 y3 y4 y5 y6 y7 hly
    dsimp only
    go_wp2
    go_roundw
    case rel =>
     refine ⟨k + 1, by go_num, by omega, Lib.hid ?_⟩
     rw [HS.out]
     exact ⟨S5, HF5.out⟩
    case measure => simp [intOf]; omega
  ·obtain rfl : k = x.kids.len := by omega
   have hdl : ¬ ((x.kids.len : Int) < (x.kids.len : Int)) := by omega
   obtain ⟨S1, hF0⟩ := HM.out
   rw [show x.kids.writes.take x.kids.len = x.kids.writes by rw [← Trees.writes_len, List.take_length]] at hF0
   have HF0 := Lib.hid hF0
   clear hF0 HM
   go_wp2
   go_light
   go_end0
   exact HF0.out.out rfl
theorem write_node (x : Nd) (ha : aloneN x = true) (hK : KidsW x.kids) (hkl : x.kids.len ≤ 140737488355328) : WriteC x := fun B cap base g S L w ht h hb hl => by
 obtain ⟨a1, a9, a0, ak1, ak9⟩ := aloneN_kids ha
 rcases (show x.kind = 1 ∨ x.kind = 2 ∨ x.kind = 3 ∨ x.kind = 4 ∨ x.kind = 5 ∨ x.kind = 6 ∨ x.kind = 7 ∨ x.kind = 8 ∨ x.kind = 9 by omega) with hk | hk | hk | hk | hk | hk | hk | hk | hk
 ·exact write_leaf1 x hK B cap base g S L w ht h hb hl hkl hk
 ·exact write_empty x hK B cap base g S L w ht h hb hl hkl hk
 ·exact write_leaf3 x hK B cap base g S L w ht h hb hl hkl hk
 ·exact write_cat x hK B cap base g S L w ht h hb hl hkl hk
 ·exact write_alt x hK B cap base g S L w ht h hb hl hkl hk
 ·exact write_post6 x hK B cap base g S L w ht h hb hl hkl hk (a1 (by omega) ak9)
 ·exact write_post7 x hK B cap base g S L w ht h hb hl hkl hk (a1 (by omega) ak9)
 ·exact write_post8 x hK B cap base g S L w ht h hb hl hkl hk (a1 (by omega) ak9)
 ·exact write_rep x hK B cap base g S L w ht h hb hl hkl hk (a1 (by omega) ak9)
theorem write_all : ∀ (F : Trees), F.size ≤ 100000000 → Okays F → KidsW F
 | .nil, _, _, z, hz => by cases hz
 | .cons k s ks lo hi r, hs, ho, z, hz => by
  rw [Trees.list] at hz
  have hks : Okays ks := fun y hy => ho y (by simp [Trees.nodes, hy])
  have hr : Okays r := fun y hy => ho y (by simp [Trees.nodes, hy])
  have hself : aloneN ⟨k, s, ks, lo, hi⟩ = true := ho _ (by simp [Trees.nodes])
  have hsz : ks.size ≤ 100000000 ∧ r.size ≤ 100000000 := by simp only [Trees.size] at hs; omega
  rcases List.mem_cons.1 hz with rfl | hz
  ·obtain ⟨_, _, _, ak1, ak9⟩ := aloneN_kids hself
   have hl := Trees.len_size ks
   exact ⟨ak1, ak9, write_node _ hself (write_all ks hsz.1 hks) (by simp only; omega)⟩
  ·exact write_all r hsz.2 hr z hz
theorem write_go {x : Nd} (h : rightT x = true) : WriteC x := by
 obtain ⟨h1, h2⟩ := okays_kids h
 have hs := rightT_size h
 unfold Nd.size at hs
 have hl := Trees.len_size x.kids
 exact write_node x h1 (write_all _ (by omega) h2) (by omega)
end Go.Proofs.YtfekpkelmliejaaGreatDoor
namespace Go.Proofs.YtfekpkelmliejaaGreatDoor
set_option linter.unusedSimpArgs false
set_option linter.unusedVariables false
set_option maxRecDepth 100000
set_option maxHeartbeats 8000000
theorem wrongS_kindK : ∀ (L : List Lex) (op : List Int) (p : Bool) {k q : Int}, wrongS op p L = some (k, q) → k ≠ 0
 | [], [], p, k, q, h => by rw [wrongS] at h; cases h
 | [], x :: op, p, k, q, h => by
  rw [wrongS] at h
  cases h
  decide
 | y :: L, op, p, k, q, h => by
  unfold wrongS at h
  split at h
  ·exact wrongS_kindK L _ _ h
  split at h
  ·split at h
   ·cases h; decide
   ·exact wrongS_kindK L _ _ h
  split at h
  ·split at h
   ·cases h; decide
   ·exact wrongS_kindK L _ _ h
  split at h
  ·exact wrongS_kindK L _ _ h
  split at h
  ·cases h; decide
  ·exact wrongS_kindK L _ _ h
theorem lexemesS_kindK {L : List Lex} {k q : Int} (h : lexemesS L = .error (k, q)) : k ≠ 0 := by
 unfold lexemesS at h
 split at h
 ·simp at h; omega
 rename_i hall
 split at h
 ·have h1 := Except.error.inj h
  simp at h1
  omega
 ·have hk : Kinds L := fun y hy => by
   have h1 : rightS y = true := by
    have : L.all rightS = true := by simpa using hall
    exact List.all_eq_true.1 this y hy
   have := rightS_cases h1
   omega
  have hw := read_wrong L hk
  split at h
  ·rename_i e he
   rw [he] at hw
   have h1 := Except.error.inj h
   subst h1
   exact wrongS_kindK L [] false hw
  ·cases h
theorem parseS_kindK {bs : List Nat} (hb : ∀ x ∈ bs, x < 256) {k q : Int} (h : parseS bs = .error (k, q)) : k ≠ 0 := by
 unfold parseS at h
 cases hs : splitS bs with
 | error e =>
  rw [hs] at h
  have h1 := Except.error.inj h
  subst h1
  exact splitS_kind hb hs
 | ok L =>
  rw [hs] at h
  exact lexemesS_kindK h
end Go.Proofs.YtfekpkelmliejaaGreatDoor
namespace Go.Proofs.YtfekpkelmliejaaGreatDoor
open Go.RowKit
set_option linter.unusedSimpArgs false
set_option linter.unusedVariables false
set_option maxRecDepth 100000
set_option maxHeartbeats 8000000
def RInPart (N : Nat) (w : World) (op : List Int) (L : List Lex) (r : Except Wrong (List Nd × List Lex)) (at_ u : Value) (wr : World) : Prop :=
 ∃ acc : List Nd, ∃ j n : Nat, at_ = .int .i64 (j : Int) ∧ j ≤ L.length ∧ piecesG n op acc (L.drop j) = r ∧ n ≤ N ∧ acc.length ≤ j ∧ RRow w acc u wr
theorem rpart_step {N : Nat} (hT : ∀ k, k < N → RPieceC k) : RPartC N := by
 intro op i ps R A cap L w h hL hi hlen
 obtain ⟨i0, hi0, hz0, hz1, hz2⟩ := info_parts info_nd
 have hsf := suf_drop ((readG_suf N).2.1 _ _ _ _ _ h) hi
 have H0 : Hid (RInPart N w op L (.ok (ps, R)) (.int .i64 (i : Int)) (.slice (some ⟨w.heap.size + 1, 0, none⟩) 0 0) ((w.alloc (.cells #[.int .i64 0, .int .u64 0, .int .u64 0, .int .u64 0, .int .u64 0, .slice none 0 0, .int .i64 0, .int .i64 0] 28)).alloc (.cells #[] 28))) :=
  Lib.hid ⟨[], i, N, rfl, hi, h, Nat.le_refl _, Nat.zero_le _, rrow_start w⟩
 have HL := Lib.hid hL
 have HT := Lib.hid hT
 clear h hL hT hsf
 go_enter Tryz.func242, Tryz.ntmps242
 go_wp2
 go_loopw [1, 6] (fun a u wr => RInPart N w op L (.ok (ps, R)) a u wr) (fun a _ _ => L.length - (intOf a).toNat)
 case atStart => exact H0.out
 case round =>
  clear H0
  obtain ⟨acc, j, n, rfl, hj, hr, hN, hacc, hrow⟩ := hrel
  have Hrow := Lib.hid hrow
  have hwr := hrow.2.2.size
  have hzl := hrow.2.1.lt
  clear hrow
  obtain ⟨k, rfl⟩ : ∃ k, n = k + 1 := by
   cases n with
   | zero => rw [piecesG] at hr; cases hr
   | succ k => exact ⟨k, rfl⟩
  cases hx : atomG k op (L.drop j) with
  | error x => rw [piecesG_bad hx] at hr; cases hr
  | ok x =>
   obtain ⟨x, R1⟩ := x
   cases x with
   | none =>
    rw [piecesG_end hx] at hr
    obtain ⟨hR1, hk⟩ := atomG_none hx
    obtain ⟨rfl, rfl⟩ : acc = ps ∧ R1 = R := by simpa using hr
    have Hjl := Lib.hid (show L.length - R1.length = j by rw [hR1]; simp; omega)
    have hHk := Lib.hid hk
    obtain ⟨Au, cu, hu, hcu, htr⟩ := Hrow.out.trees
    subst hu
    have HTr := Lib.hid htr
    clear hr hx hR1 hk htr
    by_cases hlt : j < L.length
    ·obtain ⟨y, hy⟩ : ∃ y, L[j]? = some y := ⟨_, List.getElem?_eq_getElem hlt⟩
     obtain ⟨k1, k2⟩ := hHk.out y _ (drop_cons hy)
     have e1 : (y.kind == 1) = false := by simp; exact k1
     have e2 : (y.kind == 2) = false := by simp; exact k2
     obtain ⟨b, o, rfl, hbl, c0, _⟩ := ((HL.out.below Hrow.out.2.2).more hwr).at' hy
     have hdl : (j : Int) < (L.length : Int) := by omega
     clear hy k1 k2
     go_wp2_with fail
     refine (ncat_go _ Au cu acc _ (by omega) HTr.out).mono ?_
     rintro e w4 ⟨B4, cap4, rfl, hb4, hc4, ht4⟩
     have hrow4 := Hrow.out.below hb4
     have hzb := hrow4.2.1
     have y0 : w4.cell? ⟨w.heap.size, 0, none⟩ = some (.int .i64 0) := hzb.cell 0
     have y1 : w4.cell? ⟨w.heap.size, 1, none⟩ = some (.int .u64 0) := hzb.cell 1
     have y2 : w4.cell? ⟨w.heap.size, 2, none⟩ = some (.int .u64 0) := hzb.cell 2
     have y3 : w4.cell? ⟨w.heap.size, 3, none⟩ = some (.int .u64 0) := hzb.cell 3
     have y4 : w4.cell? ⟨w.heap.size, 4, none⟩ = some (.int .u64 0) := hzb.cell 4
     have y5 : w4.cell? ⟨w.heap.size, 5, none⟩ = some (.slice none 0 0) := hzb.cell 5
     have y6 : w4.cell? ⟨w.heap.size, 6, none⟩ = some (.int .i64 0) := hzb.cell 6
     have y7 : w4.cell? ⟨w.heap.size, 7, none⟩ = some (.int .i64 0) := hzb.cell 7
     have g0 := hzb.frozen 0
     have g1 := hzb.frozen 1
     have g2 := hzb.frozen 2
     have g3 := hzb.frozen 3
     have g4 := hzb.frozen 4
     have g5 := hzb.frozen 5
     have g6 := hzb.frozen 6
     have g7 := hzb.frozen 7
     have Hrow4 := Lib.hid hrow4
     have HT4 := Lib.hid ht4
     clear hb4 hrow4 hzb ht4
     unfold ndV
     dsimp only
     go_wp2
     go_light
     have hF := flat_put (P := fun _ => False) (x := partN acc) (B := B4) (cap := cap4) Hrow4.out.2.1 Hrow4.out.2.2 (HT4.out.weak (fun b hb _ => .inr (by rcases hb with h | h; exact h; omega))) rfl
     exact bodyPost_ret (ret_atom Tryz.results242 rfl rfl hF.1) rfl ⟨B4, cap4, by rw [Hjl.out]; rfl, hF.2.1, hc4, hF.2.2.weak (fun b hb _ => hb.elim (fun h => h.elim) id)⟩
    ·have hdl : ¬ (j : Int) < (L.length : Int) := by omega
     go_wp2_with fail
     refine (ncat_go _ Au cu acc _ (by omega) HTr.out).mono ?_
     rintro e w4 ⟨B4, cap4, rfl, hb4, hc4, ht4⟩
     have hrow4 := Hrow.out.below hb4
     have hzb := hrow4.2.1
     have y0 : w4.cell? ⟨w.heap.size, 0, none⟩ = some (.int .i64 0) := hzb.cell 0
     have y1 : w4.cell? ⟨w.heap.size, 1, none⟩ = some (.int .u64 0) := hzb.cell 1
     have y2 : w4.cell? ⟨w.heap.size, 2, none⟩ = some (.int .u64 0) := hzb.cell 2
     have y3 : w4.cell? ⟨w.heap.size, 3, none⟩ = some (.int .u64 0) := hzb.cell 3
     have y4 : w4.cell? ⟨w.heap.size, 4, none⟩ = some (.int .u64 0) := hzb.cell 4
     have y5 : w4.cell? ⟨w.heap.size, 5, none⟩ = some (.slice none 0 0) := hzb.cell 5
     have y6 : w4.cell? ⟨w.heap.size, 6, none⟩ = some (.int .i64 0) := hzb.cell 6
     have y7 : w4.cell? ⟨w.heap.size, 7, none⟩ = some (.int .i64 0) := hzb.cell 7
     have g0 := hzb.frozen 0
     have g1 := hzb.frozen 1
     have g2 := hzb.frozen 2
     have g3 := hzb.frozen 3
     have g4 := hzb.frozen 4
     have g5 := hzb.frozen 5
     have g6 := hzb.frozen 6
     have g7 := hzb.frozen 7
     have Hrow4 := Lib.hid hrow4
     have HT4 := Lib.hid ht4
     clear hb4 hrow4 hzb ht4
     unfold ndV
     dsimp only
     go_wp2
     go_light
     have hF := flat_put (P := fun _ => False) (x := partN acc) (B := B4) (cap := cap4) Hrow4.out.2.1 Hrow4.out.2.2 (HT4.out.weak (fun b hb _ => .inr (by rcases hb with h | h; exact h; omega))) rfl
     exact bodyPost_ret (ret_atom Tryz.results242 rfl rfl hF.1) rfl ⟨B4, cap4, by rw [Hjl.out]; rfl, hF.2.1, hc4, hF.2.2.weak (fun b hb _ => hb.elim (fun h => h.elim) id)⟩
   | some x =>
    rw [piecesG_go hx] at hr
    obtain ⟨y, M', hM, hk⟩ := atomG_some hx
    have hk12 : y.kind = 1 ∨ y.kind = 2 := by rcases hk with h | h; exact .inl h.1; exact .inr h.1
    have hlt : j < L.length := by
     rcases Nat.lt_or_ge j L.length with h1 | h1
     ·exact h1
     ·rw [List.drop_eq_nil_of_le h1] at hM; cases hM
    obtain ⟨y', hy⟩ : ∃ y, L[j]? = some y := ⟨_, List.getElem?_eq_getElem hlt⟩
    rw [drop_cons hy] at hM
    obtain ⟨rfl, rfl⟩ := List.cons.inj hM
    have hs1 := ((readG_suf k).2.2 _ _ _ _ hx)
    have hl1 := hs1.2 (by simp)
    obtain ⟨hd, hj1, hj2⟩ := suf_drop ((postsG_suf R1 x).trans hs1.1) hj
    have hl2 := (postsG_suf R1 x).length_le
    have hPc := HT.out k (by omega) op j x R1 A cap L wr hx ((HL.out.below Hrow.out.2.2).more hwr) hlen
    generalize postsG x R1 = zr at *
    obtain ⟨z, R2⟩ := zr
    simp only at hr hd hj1 hj2 hl2 hPc
    have HPc := Lib.hid hPc
    have HR := Lib.hid (show piecesG k op (acc ++ [z]) (L.drop (L.length - R2.length)) = .ok (ps, R) by rw [← hd]; exact hr)
    simp at hl1
    obtain ⟨b, o, rfl, hbl, c0, _⟩ := ((HL.out.below Hrow.out.2.2).more hwr).at' hy
    have hdl : (j : Int) < (L.length : Int) := by omega
    have hnj : j < L.length - R2.length := by omega
    generalize L.length - R2.length = j' at *
    clear hM hk hr hx hy hd hs1 hPc hl1 hl2 hj1
    rcases hk12 with hk | hk
    all_goals
     rw [hk] at c0
     go_wp2_with fail
     refine HPc.out.mono ?_
     rintro e w4 ⟨B4, cap4, rfl, hb4, hc4, ht4⟩
     have hrow4 := Hrow.out.below hb4
     obtain ⟨⟨cs, hr4, hcs4⟩, _⟩ := id hrow4
     have hl := Hrow.out.own
     have hz4 := ht4.weak (Q := fun b => w.heap.size + 1 ≤ b ∧ some b ≠ u6.ownBlock) (fun b hb _ => ⟨by omega, fun e => by have := (hl b e.symm).2; omega⟩)
     have hb5 : Below w4.heap.size w4 (w4.alloc (.cells (ndA z B4 cap4) 28)) := (Below.refl _ _).alloc (Nat.le_refl _) _
     have Hrow5 := Lib.hid (hrow4.below hb5)
     have HR5 := Lib.hid (hr4.alloc (.cells (ndA z B4 cap4) 28))
     have HC5 := Lib.hid (hcs4.below hb5)
     have HZ5 := Lib.hid (hz4.below hb5)
     have h63 : acc.length + 1 ≤ maxLen := Nat.le_trans (by omega) (show 200000 ≤ maxLen by decide)
     have hby : (acc.length + 1) * 80 ≤ 140737488355328 := by omega
     have hWs : w.heap.size + 1 ≤ w4.heap.size := by have := hb4.size; omega
     clear hrow4 hr4 hcs4 hz4 ht4 hl hb5 hb4
     unfold ndV
     dsimp only
     go_wp2_with (at_builtin; refine wpList_append_lies _ rfl _ _ 26 rfl (w.heap.size + 1) 28 i0 _ 8 80 Tryz.underlying26 hi0 hz0 hz1 hz2 rfl (by decide) u6 acc.length cs rfl (HR5.out.alloc _) ⟨w4.heap.size + 1, 0, none⟩ 1 1 (ndCell z B4 cap4) rfl rfl (World.news_of_block (Blk.new_at (cs := ndA z B4 cap4) (t := 28) (by simp))) (by simp [ndCell, Value.oneCell']) (by decide) h63 hby (by simp; omega) (w4.heap.size + 2) (by simp) ?_; intro gg capg w5 hown5 hgrow5 hat5 hg5; have HA6 := Lib.hid (Hrow5.out.append HZ5.out hc4 HC5.out hown5 hgrow5 (by simpa using hat5)); clear hown5 hgrow5 hat5)
     go_light
     go_roundw
     case rel => exact ⟨acc ++ [z], j', k, rfl, hj2, HR.out, by omega, by simp; omega, HA6.out⟩
     case measure => simp [intOf]; omega
def RInAlt (N : Nat) (w : World) (op : List Int) (L : List Lex) (r : Except Wrong (Nd × List Lex)) (at_ u : Value) (wr : World) : Prop :=
 ∃ acc : List Nd, ∃ j n : Nat, at_ = .int .i64 (j : Int) ∧ j ≤ L.length ∧ altG n op acc (L.drop j) = r ∧ n ≤ N ∧ acc.length ≤ j ∧ RRow w acc u wr
theorem ralt_step {N : Nat} (hT : ∀ k, k < N → RPartC k) : RAltC N := by
  intro op i x R A cap L w h hL hi hlen
  obtain ⟨i0, hi0, hz0, hz1, hz2⟩ := info_parts info_nd
  have H0 : Hid (RInAlt N w op L (.ok (x, R)) (.int .i64 (i : Int)) (.slice (some ⟨w.heap.size + 1, 0, none⟩) 0 0) ((w.alloc (.cells #[.int .i64 0, .int .u64 0, .int .u64 0, .int .u64 0, .int .u64 0, .slice none 0 0, .int .i64 0, .int .i64 0] 28)).alloc (.cells #[] 28))) :=
    Lib.hid ⟨[], i, N, rfl, hi, h, Nat.le_refl _, Nat.zero_le _, rrow_start w⟩
  have HL := Lib.hid hL
  have HT := Lib.hid hT
  clear h hL hT
  go_enter Tryz.func215, Tryz.ntmps215
  go_wp2
  go_loopw [1, 6] (fun a u wr => RInAlt N w op L (.ok (x, R)) a u wr) (fun a _ _ => L.length - (intOf a).toNat)
  case atStart => exact H0.out
  case round =>
    clear H0
    obtain ⟨acc, j, n, rfl, hj, hr, hN, hacc, hrow⟩ := hrel
    have Hrow := Lib.hid hrow
    have hwr := hrow.2.2.size
    have hzl := hrow.2.1.lt
    clear hrow
    obtain ⟨k, rfl⟩ : ∃ k, n = k + 1 := by
      cases n with
      | zero => rw [altG] at hr; cases hr
      | succ k => exact ⟨k, rfl⟩
    cases hx : piecesG k op [] (L.drop j) with
    | error x => rw [altG_bad hx] at hr; cases hr
    | ok y =>
      obtain ⟨ps, R1⟩ := y
      rw [altG_ok hx] at hr
      obtain ⟨hd, hj1, hj2⟩ := suf_drop ((readG_suf k).2.1 _ _ _ _ _ hx) hj
      have HPc := Lib.hid (HT.out k (by omega) op j ps R1 A cap L wr hx ((HL.out.below Hrow.out.2.2).more hwr) hj hlen)
      have HD := Lib.hid hd
      have HR := Lib.hid hr
      have Hjj := Lib.hid (show L.length - R1.length = L.length - R1.length from rfl)
      clear hx hr hd
      generalize hz : partN ps = z at *
      clear hz
      generalize hj' : L.length - R1.length = j' at *
      have Hj' := Lib.hid hj'
      clear hj' Hjj
      go_wp2_with fail
      refine HPc.out.mono ?_
      rintro e w4 ⟨B4, cap4, rfl, hb4, hc4, ht4⟩
      have hrow4 := Hrow.out.below hb4
      obtain ⟨⟨cs, hr4, hcs4⟩, _⟩ := id hrow4
      have hl := Hrow.out.own
      have hz4 := ht4.weak (Q := fun b => w.heap.size + 1 ≤ b ∧ some b ≠ u6.ownBlock) (fun b hb _ => ⟨by omega, fun e => by have := (hl b e.symm).2; omega⟩)
      have hb5 : Below w4.heap.size w4 (w4.alloc (.cells (ndA z B4 cap4) 28)) := (Below.refl _ _).alloc (Nat.le_refl _) _
      have Hrow5 := Lib.hid (hrow4.below hb5)
      have HR5 := Lib.hid (hr4.alloc (.cells (ndA z B4 cap4) 28))
      have HC5 := Lib.hid (hcs4.below hb5)
      have HZ5 := Lib.hid (hz4.below hb5)
      have h63 : acc.length + 1 ≤ maxLen := Nat.le_trans (by omega) (show 200000 ≤ maxLen by decide)
      have hby : (acc.length + 1) * 80 ≤ 140737488355328 := by omega
      have hWs : w.heap.size + 1 ≤ w4.heap.size := by have := hb4.size; omega
      clear hrow4 hr4 hcs4 hz4 ht4 hl hb5 hb4
      unfold ndV
      dsimp only
      have hcase : (∃ c R', R1 = c :: R' ∧ c.kind = 4) ∨ (∀ c R', R1 = c :: R' → c.kind ≠ 4) := by
        cases R1 with
        | nil => exact .inr (fun c R' e => by cases e)
        | cons c R' =>
          by_cases h4 : c.kind = 4
          · exact .inl ⟨c, R', rfl, h4⟩
          · exact .inr (fun c' R'' e => by cases e; exact h4)
      rcases hcase with ⟨c, R', hRc, h4⟩ | hno
      · have hlt : j' < L.length := by have := Hj'.out; rw [hRc] at this; simp at this; have h5 : (c :: R').length ≤ L.length := by rw [← hRc, HD.out]; simp
                                       simp at h5; omega
        obtain ⟨y, hy⟩ : ∃ y, L[j']? = some y := ⟨_, List.getElem?_eq_getElem hlt⟩
        have hyc : y = c ∧ L.drop (j' + 1) = R' := by
          have := (drop_cons hy).symm.trans (HD.out.symm.trans hRc)
          exact List.cons.inj this
        obtain ⟨rfl, hdr⟩ := hyc
        have HX := Lib.hid (show altG k op (acc ++ [z]) (L.drop (j' + 1)) = .ok (x, R) by rw [hdr]; have := HR.out; rw [hRc, tailG_bar h4] at this; exact this)
        obtain ⟨b, o, hAo, hbl, c0, _⟩ := (HL.out).at' hy
        subst hAo
        rw [h4] at c0
        have hge : ¬ (L.length : Int) ≤ (j' : Int) := by omega
        have hdl : (j' : Int) < (L.length : Int) := by omega
        have Hc0 := Lib.hid c0
        clear hy hdr hRc h4 c0
        go_wp2_with (at_builtin; refine wpList_append_lies _ rfl _ _ 26 rfl (w.heap.size + 1) 28 i0 _ 8 80 Tryz.underlying26 hi0 hz0 hz1 hz2 rfl (by decide) u6 acc.length cs rfl (HR5.out.alloc _) ⟨w4.heap.size + 1, 0, none⟩ 1 1 (ndCell z B4 cap4) rfl rfl (World.news_of_block (Blk.new_at (cs := ndA z B4 cap4) (t := 28) (by simp))) (by simp [ndCell, Value.oneCell']) (by decide) h63 hby (by simp; omega) (w4.heap.size + 2) (by simp) ?_; intro gg capg w5 hown5 hgrow5 hat5 hg5; have hA6 := Hrow5.out.append HZ5.out hc4 HC5.out hown5 hgrow5 (by simpa using hat5); have c0 := (hA6.2.2.cell (p := ⟨b, o + j' * 8, none⟩) hbl).trans Hc0.out; have HA6 := Lib.hid hA6; clear hown5 hgrow5 hat5 hA6)
        go_light
        go_roundw
        case rel => exact ⟨acc ++ [z], j' + 1, k, by go_num, by omega, HX.out, by omega, by simp; omega, HA6.out⟩
        case measure => simp [intOf]; omega
      · have HX := Lib.hid (show (flatN 5 (acc ++ [z]), R1) = (x, R) by
          have := HR.out
          cases R1 with
          | nil => rw [tailG_nil] at this; exact Except.ok.inj this
          | cons c R' => rw [tailG_stop (hno c R' rfl)] at this; exact Except.ok.inj this)
        have hxx := Prod.mk.inj HX.out
        obtain ⟨hx1, hx2⟩ := hxx
        have Hjl := Lib.hid (show L.length - R.length = j' by rw [← hx2]; exact Hj'.out)
        have HX := Lib.hid hx1
        clear hx1 hx2
        by_cases hlt : j' < L.length
        · obtain ⟨y, hy⟩ : ∃ y, L[j']? = some y := ⟨_, List.getElem?_eq_getElem hlt⟩
          have h4 := hno y _ (HD.out.trans (drop_cons hy))
          have e4 : (y.kind != 4) = true := by simp; exact h4
          obtain ⟨b, o, hAo, hbl, c0, _⟩ := (HL.out).at' hy
          subst hAo
          have hge : ¬ (L.length : Int) ≤ (j' : Int) := by omega
          have hdl : (j' : Int) < (L.length : Int) := by omega
          have Hc0 := Lib.hid c0
          clear hy h4 c0 hno
          go_wp2_with (at_builtin; refine wpList_append_lies _ rfl _ _ 26 rfl (w.heap.size + 1) 28 i0 _ 8 80 Tryz.underlying26 hi0 hz0 hz1 hz2 rfl (by decide) u6 acc.length cs rfl (HR5.out.alloc _) ⟨w4.heap.size + 1, 0, none⟩ 1 1 (ndCell z B4 cap4) rfl rfl (World.news_of_block (Blk.new_at (cs := ndA z B4 cap4) (t := 28) (by simp))) (by simp [ndCell, Value.oneCell']) (by decide) h63 hby (by simp; omega) (w4.heap.size + 2) (by simp) ?_; intro gg capg w5 hown5 hgrow5 hat5 hg5; have hA6 := Hrow5.out.append HZ5.out hc4 HC5.out hown5 hgrow5 (by simpa using hat5); have c0 := (hA6.2.2.cell (p := ⟨b, o + j' * 8, none⟩) hbl).trans Hc0.out; have HA6 := Lib.hid hA6; clear hown5 hgrow5 hat5 hA6)
          clear c0 Hc0
          obtain ⟨A6, cap6, hv6, _, ht6⟩ := HA6.out.trees
          obtain ⟨rfl, _, rfl⟩ := Value.slice.inj hv6
          have hN6 := nalt_go _ (some ⟨gg, 0, none⟩) capg (acc ++ [z]) w5 (by simp; omega) ht6
          rw [List.length_append, List.length_singleton] at hN6
          have HN6 := Lib.hid hN6
          have hw5 := HA6.out.2.1.lt
          clear hN6 hv6 ht6
          refine HN6.out.mono ?_
          rintro e w7 ⟨B7, cap7, rfl, hb7, hc7, ht7⟩
          rw [manyN_flat _ (by simp)] at hc7 ht7
          rw [manyN_flat _ (by simp)]
          have hrow7 := HA6.out.below hb7
          have hzb := hrow7.2.1
          have y0 : w7.cell? ⟨w.heap.size, 0, none⟩ = some (.int .i64 0) := hzb.cell 0
          have y1 : w7.cell? ⟨w.heap.size, 1, none⟩ = some (.int .u64 0) := hzb.cell 1
          have y2 : w7.cell? ⟨w.heap.size, 2, none⟩ = some (.int .u64 0) := hzb.cell 2
          have y3 : w7.cell? ⟨w.heap.size, 3, none⟩ = some (.int .u64 0) := hzb.cell 3
          have y4 : w7.cell? ⟨w.heap.size, 4, none⟩ = some (.int .u64 0) := hzb.cell 4
          have y5 : w7.cell? ⟨w.heap.size, 5, none⟩ = some (.slice none 0 0) := hzb.cell 5
          have y6 : w7.cell? ⟨w.heap.size, 6, none⟩ = some (.int .i64 0) := hzb.cell 6
          have y7 : w7.cell? ⟨w.heap.size, 7, none⟩ = some (.int .i64 0) := hzb.cell 7
          have g0 := hzb.frozen 0
          have g1 := hzb.frozen 1
          have g2 := hzb.frozen 2
          have g3 := hzb.frozen 3
          have g4 := hzb.frozen 4
          have g5 := hzb.frozen 5
          have g6 := hzb.frozen 6
          have g7 := hzb.frozen 7
          have Hrow7 := Lib.hid hrow7
          have HT7 := Lib.hid ht7
          clear hb7 hrow7 hzb ht7
          unfold ndV
          dsimp only
          go_wp2
          go_light
          have hF := flat_put (P := fun _ => False) (x := flatN 5 (acc ++ [z])) (B := B7) (cap := cap7) Hrow7.out.2.1 Hrow7.out.2.2 (HT7.out.weak (fun b hb _ => .inr (by rcases hb with h | h; exact h; omega))) rfl
          rw [← HX.out]
          exact bodyPost_ret (ret_atom Tryz.results215 rfl rfl hF.1) rfl ⟨B7, cap7, by rw [Hjl.out]; rfl, hF.2.1, hc7, hF.2.2.weak (fun b hb _ => hb.elim (fun h => h.elim) id)⟩
        · have hge : (L.length : Int) ≤ (j' : Int) := by omega
          clear hno
          go_wp2_with (at_builtin; refine wpList_append_lies _ rfl _ _ 26 rfl (w.heap.size + 1) 28 i0 _ 8 80 Tryz.underlying26 hi0 hz0 hz1 hz2 rfl (by decide) u6 acc.length cs rfl (HR5.out.alloc _) ⟨w4.heap.size + 1, 0, none⟩ 1 1 (ndCell z B4 cap4) rfl rfl (World.news_of_block (Blk.new_at (cs := ndA z B4 cap4) (t := 28) (by simp))) (by simp [ndCell, Value.oneCell']) (by decide) h63 hby (by simp; omega) (w4.heap.size + 2) (by simp) ?_; intro gg capg w5 hown5 hgrow5 hat5 hg5; have hA6 := Hrow5.out.append HZ5.out hc4 HC5.out hown5 hgrow5 (by simpa using hat5); have HA6 := Lib.hid hA6; clear hown5 hgrow5 hat5 hA6)
          obtain ⟨A6, cap6, hv6, _, ht6⟩ := HA6.out.trees
          obtain ⟨rfl, _, rfl⟩ := Value.slice.inj hv6
          have hN6 := nalt_go _ (some ⟨gg, 0, none⟩) capg (acc ++ [z]) w5 (by simp; omega) ht6
          rw [List.length_append, List.length_singleton] at hN6
          have HN6 := Lib.hid hN6
          have hw5 := HA6.out.2.1.lt
          clear hN6 hv6 ht6
          refine HN6.out.mono ?_
          rintro e w7 ⟨B7, cap7, rfl, hb7, hc7, ht7⟩
          rw [manyN_flat _ (by simp)] at hc7 ht7
          rw [manyN_flat _ (by simp)]
          have hrow7 := HA6.out.below hb7
          have hzb := hrow7.2.1
          have y0 : w7.cell? ⟨w.heap.size, 0, none⟩ = some (.int .i64 0) := hzb.cell 0
          have y1 : w7.cell? ⟨w.heap.size, 1, none⟩ = some (.int .u64 0) := hzb.cell 1
          have y2 : w7.cell? ⟨w.heap.size, 2, none⟩ = some (.int .u64 0) := hzb.cell 2
          have y3 : w7.cell? ⟨w.heap.size, 3, none⟩ = some (.int .u64 0) := hzb.cell 3
          have y4 : w7.cell? ⟨w.heap.size, 4, none⟩ = some (.int .u64 0) := hzb.cell 4
          have y5 : w7.cell? ⟨w.heap.size, 5, none⟩ = some (.slice none 0 0) := hzb.cell 5
          have y6 : w7.cell? ⟨w.heap.size, 6, none⟩ = some (.int .i64 0) := hzb.cell 6
          have y7 : w7.cell? ⟨w.heap.size, 7, none⟩ = some (.int .i64 0) := hzb.cell 7
          have g0 := hzb.frozen 0
          have g1 := hzb.frozen 1
          have g2 := hzb.frozen 2
          have g3 := hzb.frozen 3
          have g4 := hzb.frozen 4
          have g5 := hzb.frozen 5
          have g6 := hzb.frozen 6
          have g7 := hzb.frozen 7
          have Hrow7 := Lib.hid hrow7
          have HT7 := Lib.hid ht7
          clear hb7 hrow7 hzb ht7
          unfold ndV
          dsimp only
          go_wp2
          go_light
          have hF := flat_put (P := fun _ => False) (x := flatN 5 (acc ++ [z])) (B := B7) (cap := cap7) Hrow7.out.2.1 Hrow7.out.2.2 (HT7.out.weak (fun b hb _ => .inr (by rcases hb with h | h; exact h; omega))) rfl
          rw [← HX.out]
          exact bodyPost_ret (ret_atom Tryz.results215 rfl rfl hF.1) rfl ⟨B7, cap7, by rw [Hjl.out]; rfl, hF.2.1, hc7, hF.2.2.weak (fun b hb _ => hb.elim (fun h => h.elim) id)⟩
theorem rreads_go (n : Nat) : RAltC n := by
 have h : ∀ m, ∀ k, k ≤ m → RAltC k ∧ RPartC k ∧ RPieceC k := by
  intro m
  induction m with
  | zero =>
   intro k hk
   obtain rfl : k = 0 := by omega
   exact ⟨ralt_step (fun k hk => by omega), rpart_step (fun k hk => by omega), rpiece_step (fun k hk => by omega)⟩
  | succ m ih =>
   intro k hk
   rcases Nat.lt_or_ge k (m + 1) with hlt | hge
   ·exact ih k (by omega)
   ·obtain rfl : k = m + 1 := by omega
    exact ⟨ralt_step (fun k hk => (ih k (by omega)).2.1), rpart_step (fun k hk => (ih k (by omega)).2.2), rpiece_step (fun k hk => (ih k (by omega)).1)⟩
 exact (h n n (Nat.le_refl _)).1
theorem kinds_right {L : List Lex} (h : L.all rightS = true) : Kinds L := fun y hy => by
 obtain ⟨_, h1 | h1 | h1⟩ := rightS_cases (List.all_eq_true.1 h y hy)
 ·omega
 ·omega
 ·omega
theorem wrongS_kind : ∀ (L : List Lex) (op : List Int) (p : Bool) (k q : Int), wrongS op p L = some (k, q) → k ≠ 0
 | [], op, p, k, q, h => by
  cases op with
  | nil => cases h
  | cons x op => cases h; decide
 | y :: L, op, p, k, q, h => by
  unfold wrongS at h
  split at h
  ·exact wrongS_kind L _ _ k q h
  split at h
  ·split at h
   ·cases h; decide
   ·exact wrongS_kind L _ _ k q h
  split at h
  ·split at h
   ·cases h; decide
   ·exact wrongS_kind L _ _ k q h
  split at h
  ·exact wrongS_kind L _ _ k q h
  split at h
  ·cases h; decide
  ·exact wrongS_kind L _ _ k q h
def Z07 (w wr : World) : Prop := Blk wr w.heap.size 28 #[.int .i64 0, .int .u64 0, .int .u64 0, .int .u64 0, .int .u64 0, .slice none 0 0, .int .i64 0, .int .i64 0] ∧ Blk wr (w.heap.size + 1) 75 #[.int .i64 0, .int .i64 0] ∧ Below w.heap.size w wr
theorem Z07.below {w wr w2 : World} (h : Z07 w wr) (hb : Below wr.heap.size wr w2) : Z07 w w2 := ⟨h.1.below hb h.1.lt, h.2.1.below hb h.2.1.lt, h.2.2.trans (hb.mono h.2.2.size)⟩
theorem z07_start (w : World) : Z07 w ((w.alloc (.cells #[.int .i64 0, .int .u64 0, .int .u64 0, .int .u64 0, .int .u64 0, .slice none 0 0, .int .i64 0, .int .i64 0] 28)).alloc (.cells #[.int .i64 0, .int .i64 0] 75)) := ⟨(Blk.new w _ _).alloc _, Blk.new_at (by simp), ((Below.refl _ _).alloc (Nat.le_refl _) _).alloc (by simp) _⟩
theorem rlexemes_go (A : Option Addr) (cap : Nat) (L : List Lex) (w : World) (hA : LexsAt w w.heap.size A L) (hlen : L.length ≤ 140737488355328) :
  Calls Tryz.prog 177 #[.slice A L.length cap] w (TreeOut (lexemesS L) w) := by
 have HA := Lib.hid hA
 have H0 := Lib.hid (z07_start w)
 clear hA
 go_enter Tryz.func177, Tryz.ntmps177
 go_wp2
 go_loopw [4] (fun i wr => ∃ k : Nat, i = .int .i64 (k : Int) ∧ k ≤ L.length ∧ Hid (Z07 w wr) ∧ Hid (∀ j x, j < k → L[j]? = some x → rightS x = true)) (fun i _ => L.length - (intOf i).toNat)
 case atStart => exact ⟨0, rfl, Nat.zero_le _, H0, Lib.hid (fun j x hj => by omega)⟩
 case round =>
  clear H0
  obtain ⟨k, rfl, hk, HZ, HR⟩ := hrel
  have hsz := HZ.out.2.2.size
  by_cases hlt : k < L.length
  ·obtain ⟨x, hx⟩ : ∃ x, L[k]? = some x := ⟨_, List.getElem?_eq_getElem hlt⟩
   obtain ⟨b, o, rfl, hbl, c0, c1, c2, c3, c4, c5, c6, c7⟩ := ((HA.out.below HZ.out.2.2).more hsz).at' hx
   have Hx := Lib.hid hx
   have hdl : (k : Int) < (L.length : Int) := by omega
   clear hx
   go_wp2_with fail
   refine (rright_go _ _ _ _ _ _ _ _ _).mono ?_
   rintro e w1 ⟨rfl, hb1⟩
   have hZ1 := HZ.out.below hb1
   have HZ1 := Lib.hid hZ1
   clear hb1 c0 c1 c2 c3 c4 c5 c6 c7
   cases hr : rightS x
   ·have hr' := hr
    unfold rightS at hr'
    rw [hr']
    have HV := Lib.hid (show lexemesS L = .error (6, 0) by
     have h1 := readyS_bad Hx.out hr
     rw [lexemesS_bad (by rw [h1]; decide), h1])
    have hz1 := hZ1.1
    have y0 : w1.cell? ⟨w.heap.size, 0, none⟩ = some (.int .i64 0) := hz1.cell 0
    have y1 : w1.cell? ⟨w.heap.size, 1, none⟩ = some (.int .u64 0) := hz1.cell 1
    have y2 : w1.cell? ⟨w.heap.size, 2, none⟩ = some (.int .u64 0) := hz1.cell 2
    have y3 : w1.cell? ⟨w.heap.size, 3, none⟩ = some (.int .u64 0) := hz1.cell 3
    have y4 : w1.cell? ⟨w.heap.size, 4, none⟩ = some (.int .u64 0) := hz1.cell 4
    have y5 : w1.cell? ⟨w.heap.size, 5, none⟩ = some (.slice none 0 0) := hz1.cell 5
    have y6 : w1.cell? ⟨w.heap.size, 6, none⟩ = some (.int .i64 0) := hz1.cell 6
    have y7 : w1.cell? ⟨w.heap.size, 7, none⟩ = some (.int .i64 0) := hz1.cell 7
    have z0 := hz1.frozen 0
    have z1 := hz1.frozen 1
    have z2 := hz1.frozen 2
    have z3 := hz1.frozen 3
    have z4 := hz1.frozen 4
    have z5 := hz1.frozen 5
    have z6 := hz1.frozen 6
    have z7 := hz1.frozen 7
    obtain ⟨b0, b1, f0, f1⟩ := hZ1.2.1.c2
    clear hr hr' hZ1 hz1
    go_wp2
    go_light
    rw [HV.out]
    exact bodyPost_ret (ret_tree Tryz.results177 rfl rfl ((HZ1.out.1.put8 _ _ _ _ _ _ _ _).far2 (by omega) _ _) ((HZ1.out.2.1.past8 (by omega) _ _ _ _ _ _ _ _).set2)) rfl ⟨rfl, below_set2 (below_put8 HZ1.out.2.2 (Nat.le_refl _) _ _ _ _ _ _ _ _) (by omega) _ _⟩
   ·have hr' := hr
    unfold rightS at hr'
    rw [hr']
    have Hr := Lib.hid hr
    clear hr hr' hZ1
    go_wp2
    go_roundw
    case rel => exact ⟨k + 1, by go_num, by omega, HZ1, Lib.hid (fun j y hj hy => by
     rcases Nat.lt_or_ge j k with h | h
     ·exact HR.out j y h hy
     ·obtain rfl : j = k := by omega
      have := Hx.out.symm.trans hy
      obtain rfl : x = y := by simpa using this
      exact Hr.out)⟩
    case measure => simp [intOf]; omega
  ·have hdl : ¬ (k : Int) < (L.length : Int) := by omega
   have Hall := Lib.hid (all_right (L := L) (fun j x hx => HR.out j x (by have := (List.getElem?_eq_some_iff.1 hx).1; omega) hx))
   clear HR
   by_cases h1024 : L.length ≤ 1024
   ·have hd : ¬ (1024 : Int) < (L.length : Int) := by omega
    have HV := Lib.hid (lexemesS_ok Hall.out h1024)
    have hW := read_wrong L (kinds_right Hall.out)
    have HWG := Lib.hid (wrong_go A cap L wr ((HA.out.below HZ.out.2.2).more hsz) (by omega))
    cases hx : altG (3 * L.length + 3) [] [] L with
    | error x =>
     obtain ⟨kk, q⟩ := x
     rw [hx] at hW HV
     have HV := Lib.hid (show lexemesS L = .error (kk, q) from HV.out)
     have hk0 : (kk != 0) = true := by rw [bne_iff_ne]; exact wrongS_kind L [] false kk q hW
     rw [show wrongS [] false L = some (kk, q) from hW] at HWG
     clear hx hW
     go_wp2_with fail
     refine HWG.out.mono ?_
     rintro e w1 ⟨rfl, hb1⟩
     have hZ1 := HZ.out.below hb1
     have HZ1 := Lib.hid hZ1
     have hz1 := hZ1.1
     have y0 : w1.cell? ⟨w.heap.size, 0, none⟩ = some (.int .i64 0) := hz1.cell 0
     have y1 : w1.cell? ⟨w.heap.size, 1, none⟩ = some (.int .u64 0) := hz1.cell 1
     have y2 : w1.cell? ⟨w.heap.size, 2, none⟩ = some (.int .u64 0) := hz1.cell 2
     have y3 : w1.cell? ⟨w.heap.size, 3, none⟩ = some (.int .u64 0) := hz1.cell 3
     have y4 : w1.cell? ⟨w.heap.size, 4, none⟩ = some (.int .u64 0) := hz1.cell 4
     have y5 : w1.cell? ⟨w.heap.size, 5, none⟩ = some (.slice none 0 0) := hz1.cell 5
     have y6 : w1.cell? ⟨w.heap.size, 6, none⟩ = some (.int .i64 0) := hz1.cell 6
     have y7 : w1.cell? ⟨w.heap.size, 7, none⟩ = some (.int .i64 0) := hz1.cell 7
     have z0 := hz1.frozen 0
     have z1 := hz1.frozen 1
     have z2 := hz1.frozen 2
     have z3 := hz1.frozen 3
     have z4 := hz1.frozen 4
     have z5 := hz1.frozen 5
     have z6 := hz1.frozen 6
     have z7 := hz1.frozen 7
     obtain ⟨b0, b1, f0, f1⟩ := hZ1.2.1.c2
     have hlt1 := hZ1.1.lt
     have hlt2 := hZ1.2.1.lt
     have hne1 : w.heap.size ≠ w1.heap.size := by omega
     have hne2 : w.heap.size + 1 ≠ w1.heap.size := by omega
     clear hb1 hZ1 hz1 HWG
     unfold badOf
     dsimp only
     go_wp2
     go_region
     all_goals go_wp2
     all_goals go_light
     rw [HV.out]
     exact bodyPost_ret (ret_tree Tryz.results177 rfl rfl (((HZ1.out.1.put8 _ _ _ _ _ _ _ _).far2 (by omega) _ _).alloc _).drew (((HZ1.out.2.1.past8 (by omega) _ _ _ _ _ _ _ _).set2).alloc _).drew) rfl ⟨rfl, ((below_set2 (below_put8 HZ1.out.2.2 (Nat.le_refl _) _ _ _ _ _ _ _ _) (by omega) _ _).alloc (by have := HZ1.out.2.2.size; simpa [World.setCell] using this) _).drew⟩
    | ok x =>
     obtain ⟨x, R⟩ := x
     rw [hx] at hW HV
     have HV := Lib.hid (show lexemesS L = .ok x from HV.out)
     rw [show wrongS [] false L = none from hW.2] at HWG
     have HRd := Lib.hid (fun w1 hL1 => rreads_go (3 * L.length + 3) [] 0 x R A cap L w1 hx hL1 (Nat.zero_le _) (by omega))
     clear hx hW
     go_wp2_with fail
     refine HWG.out.mono ?_
     rintro e w1 ⟨rfl, hb1⟩
     have hb2 : Below w1.heap.size w1 (w1.alloc (.cells #[.int .i64 0, .int .i64 0] 75)) := (Below.refl _ _).alloc (Nat.le_refl _) _
     have HZ2 := Lib.hid ((HZ.out.below hb1).below hb2)
     have HL2 := Lib.hid ((HA.out.below HZ2.out.2.2).more HZ2.out.2.2.size)
     clear hb1 hb2 HWG
     unfold badOf
     dsimp only
     go_wp2_with fail
     refine (HRd.out _ HL2.out).mono ?_
     rintro e w3 ⟨B3, cap3, rfl, hb3, hc3, ht3⟩
     have hw12 := HZ2.out.2.1.lt
     have hb4 : Below w3.heap.size w3 (w3.alloc (.cells (ndA x B3 cap3) 28)) := (Below.refl _ _).alloc (Nat.le_refl _) _
     have hZ3 := HZ2.out.below hb3
     have HZ3 := Lib.hid hZ3
     have HT3 := Lib.hid (ht3.weak (Q := fun b => w.heap.size + 2 ≤ b) (fun b hb _ => by omega))
     have hz3 := hZ3.1
     have y0 : w3.cell? ⟨w.heap.size, 0, none⟩ = some (.int .i64 0) := hz3.cell 0
     have y1 : w3.cell? ⟨w.heap.size, 1, none⟩ = some (.int .u64 0) := hz3.cell 1
     have y2 : w3.cell? ⟨w.heap.size, 2, none⟩ = some (.int .u64 0) := hz3.cell 2
     have y3 : w3.cell? ⟨w.heap.size, 3, none⟩ = some (.int .u64 0) := hz3.cell 3
     have y4 : w3.cell? ⟨w.heap.size, 4, none⟩ = some (.int .u64 0) := hz3.cell 4
     have y5 : w3.cell? ⟨w.heap.size, 5, none⟩ = some (.slice none 0 0) := hz3.cell 5
     have y6 : w3.cell? ⟨w.heap.size, 6, none⟩ = some (.int .i64 0) := hz3.cell 6
     have y7 : w3.cell? ⟨w.heap.size, 7, none⟩ = some (.int .i64 0) := hz3.cell 7
     have z0 := hz3.frozen 0
     have z1 := hz3.frozen 1
     have z2 := hz3.frozen 2
     have z3 := hz3.frozen 3
     have z4 := hz3.frozen 4
     have z5 := hz3.frozen 5
     have z6 := hz3.frozen 6
     have z7 := hz3.frozen 7
     obtain ⟨b0, b1, f0, f1⟩ := hZ3.2.1.c2
     have hlt1 := hZ3.1.lt
     have hlt2 := hZ3.2.1.lt
     clear hb3 ht3 hb4 hZ3 hz3 HRd HL2
     unfold ndV
     dsimp only
     go_wp2
     go_light
     have hF := laid (x := x) (B := B3) (cap := cap3) (k := 0) (q := 0) HZ3.out.1 HZ3.out.2.1 HZ3.out.2.2 HT3.out rfl
     rw [HV.out]
     exact bodyPost_ret (ret_tree Tryz.results177 rfl rfl (Blk.alloc hF.1 _) (Blk.alloc hF.2.1 _)) rfl ⟨B3, cap3, rfl, hF.2.2.1.alloc hF.2.2.1.size _, hc3, hF.2.2.2.below ((Below.refl _ _).alloc (Nat.le_refl _) _)⟩
   ·obtain ⟨x, hx⟩ : ∃ x, L[1024]? = some x := ⟨_, List.getElem?_eq_getElem (by omega)⟩
    have HV := Lib.hid (show lexemesS L = .error (4, x.place) by
     have h1 := readyS_long Hall.out hx
     rw [lexemesS_bad (by rw [h1]; show (4 : Int) ≠ 0; decide), h1])
    have hd : (1024 : Int) < (L.length : Int) := by omega
    obtain ⟨b, o, rfl, hbl, _, c1, _⟩ := ((HA.out.below HZ.out.2.2).more hsz).at' hx
    have c1' : wr.cell? ⟨b, o + 8193, none⟩ = some (.int .i64 x.place) := c1
    have hZ1 := HZ.out
    have hz1 := hZ1.1
    have y0 : wr.cell? ⟨w.heap.size, 0, none⟩ = some (.int .i64 0) := hz1.cell 0
    have y1 : wr.cell? ⟨w.heap.size, 1, none⟩ = some (.int .u64 0) := hz1.cell 1
    have y2 : wr.cell? ⟨w.heap.size, 2, none⟩ = some (.int .u64 0) := hz1.cell 2
    have y3 : wr.cell? ⟨w.heap.size, 3, none⟩ = some (.int .u64 0) := hz1.cell 3
    have y4 : wr.cell? ⟨w.heap.size, 4, none⟩ = some (.int .u64 0) := hz1.cell 4
    have y5 : wr.cell? ⟨w.heap.size, 5, none⟩ = some (.slice none 0 0) := hz1.cell 5
    have y6 : wr.cell? ⟨w.heap.size, 6, none⟩ = some (.int .i64 0) := hz1.cell 6
    have y7 : wr.cell? ⟨w.heap.size, 7, none⟩ = some (.int .i64 0) := hz1.cell 7
    have z0 := hz1.frozen 0
    have z1 := hz1.frozen 1
    have z2 := hz1.frozen 2
    have z3 := hz1.frozen 3
    have z4 := hz1.frozen 4
    have z5 := hz1.frozen 5
    have z6 := hz1.frozen 6
    have z7 := hz1.frozen 7
    obtain ⟨b0, b1, f0, f1⟩ := hZ1.2.1.c2
    clear hx c1 hZ1 hz1 h1024
    go_wp2
    go_region
    all_goals go_wp2
    all_goals go_light
    rw [HV.out]
    exact bodyPost_ret (ret_tree Tryz.results177 rfl rfl ((HZ.out.1.put8 _ _ _ _ _ _ _ _).far2 (by omega) _ _).drew ((HZ.out.2.1.past8 (by omega) _ _ _ _ _ _ _ _).set2).drew) rfl ⟨rfl, (below_set2 (below_put8 HZ.out.2.2 (Nat.le_refl _) _ _ _ _ _ _ _ _) (by omega) _ _).drew⟩
theorem join_go (A : Option Addr) (cap : Nat) (L : List Lex) (w : World) (hA : LexsAt w w.heap.size A L) (hlen : L.length ≤ 1048576) (hT : TabAt 1 Lib.deBruijn64tab w) (hw0 : 1 < w.heap.size) :
  Calls Tryz.prog 133 #[.slice A L.length cap] w fun e w' => e = .returned (joinV L) ∧ Below w.heap.size w w' := by
 obtain ⟨i0, hi, hz0, hz1, hz2⟩ := info_parts byte_info
 have HA := Lib.hid hA
 have HT := Lib.hid hT
 clear hA hT
 go_enter Tryz.func133, Tryz.ntmps133
 go_wp2
 go_loopw [4, 9] (fun v i wr => ∃ k : Nat, i = .int .i64 (k : Int) ∧ k ≤ L.length ∧ Hid (wr.ownsRow w.heap.size 5 1 v (joinS (L.take k)).length ((joinS (L.take k)).map (fun n : Nat => Value.int .u8 (n : Int)))) ∧ Hid (Below w.heap.size w wr) ∧ Hid (∀ (j : Nat) x, j < k → L[j]? = some x → rightS x = true)) (fun _ i _ => L.length - (intOf i).toNat)
 case atStart => exact ⟨0, rfl, Nat.zero_le _, Lib.hid (World.ownsRow_nil _ _ _ _), Lib.hid (Below.refl _ _), Lib.hid (fun j x hj => by omega)⟩
 case round =>
  obtain ⟨k, rfl, hk, Hown, HB, HR⟩ := hrel
  by_cases hlt : k < L.length
  ·obtain ⟨x, hx⟩ : ∃ x, L[k]? = some x := ⟨_, List.getElem?_eq_getElem hlt⟩
   obtain ⟨b, o, rfl, hbl, hc⟩ := HA.out (by omega)
   have hbl' : b < wr.heap.size := Nat.lt_of_lt_of_le hbl HB.out.size
   obtain ⟨c0, c1, c2, c3, c4, c5, c6, c7⟩ := ((HA.out.below HB.out) (by omega)).elim fun b' h => h.elim fun o' h => by
    obtain ⟨e, _, h⟩ := h
    obtain ⟨rfl, rfl⟩ : b = b' ∧ o = o' := by simpa using e
    exact h k x hx
   clear hc
   have Hx := Lib.hid hx
   have hdl : (k : Int) < (L.length : Int) := by omega
   have Hbx := Lib.hid (Blk.new wr 139 #[.int .i64 x.kind, .int .i64 x.place, .int .u64 (word x.set 0), .int .u64 (word x.set 1), .int .u64 (word x.set 2), .int .u64 (word x.set 3), .int .i64 x.lo, .int .i64 x.hi])
   have HBx := Lib.hid (HB.out.alloc HB.out.size (.cells #[.int .i64 x.kind, .int .i64 x.place, .int .u64 (word x.set 0), .int .u64 (word x.set 1), .int .u64 (word x.set 2), .int .u64 (word x.set 3), .int .i64 x.lo, .int .i64 x.hi] 139))
   have Hownx := Lib.hid (Hown.out.alloc (.cells #[.int .i64 x.kind, .int .i64 x.place, .int .u64 (word x.set 0), .int .u64 (word x.set 1), .int .u64 (word x.set 2), .int .u64 (word x.set 3), .int .i64 x.lo, .int .i64 x.hi] 139))
   go_wp2_with fail
   refine (right_go _ _ _ _ _ _ _ _ _).mono ?_
   rintro e w1 ⟨rfl, hb1⟩
   change Hid _ at Hx
   have Hb1 := Lib.hid (Hbx.out.below hb1 Hbx.out.lt)
   have HB1 := Lib.hid (HBx.out.trans (hb1.mono HBx.out.size))
   have Hown1 := Lib.hid (own_below Hownx.out hb1)
   clear hb1 c0 c1 c2 c3 c4 c5 c6 c7
   cases hr : rightS x
   ·have hr' := hr
    unfold rightS at hr'
    rw [hr']
    have HV := Lib.hid (joinV_bad Hx.out hr)
    clear hr hr'
    go_wp2
    go_light
    go_ret2
    exact ⟨by rw [HV.out]; rfl, HB1.out⟩
   ·have hr' := hr
    unfold rightS at hr'
    rw [hr']
    have Hr := Lib.hid hr
    clear hr hr'
    have s0 := Hb1.out.cell 0
    have s1 := Hb1.out.cell 1
    have s2 := Hb1.out.cell 2
    have s3 := Hb1.out.cell 3
    have s4 := Hb1.out.cell 4
    have s5 := Hb1.out.cell 5
    have s6 := Hb1.out.cell 6
    have s7 := Hb1.out.cell 7
    simp at s0 s1 s2 s3 s4 s5 s6 s7
    go_wp2_with fail
    refine (text_go x _ Hr.out (TabAt.below HB1.out hw0 HT.out) (Nat.lt_of_lt_of_le hw0 HB1.out.size)).mono ?_
    rintro e w2 ⟨rfl, hb2⟩
    have HB2 := Lib.hid (HB1.out.trans (hb2.mono HB1.out.size))
    have Hown2 := Lib.hid (own_below Hown1.out hb2)
    clear hb2 s0 s1 s2 s3 s4 s5 s6 s7
    have l1 := joinS_len (L.take k)
    have l2 : (L.take k).length ≤ 1048576 := by rw [List.length_take]; omega
    have l3 := textS_len x
    have Hj := Lib.hid (joinS_take Hx.out)
    have Hs := Lib.hid (strCells_of (textS x) (textS_bytes Hr.out))
    have m1 : (joinS (L.take k)).length + (strOf (textS x)).size ≤ maxLen := by rw [strOf_size]; exact Nat.le_trans (by omega) (show 140737488355328 ≤ maxLen by decide)
    have m2 : (joinS (L.take k)).length + (strOf (textS x)).size ≤ 140737488355328 := by rw [strOf_size]; omega
    go_wp2_with (at_builtin; refine Lib.wpList_append_own_string _ rfl _ _ _ _ rfl w.heap.size 5 i0 Tryz.underlying30 Tryz.underlying9 hi hz0 hz1 hz2 _ _ _ rfl Hown2.out _ rfl m1 m2 HB2.out.size ?_; intro v' w3 hown3 hg3 _)
    have Hown3 : Hid (w3.ownsRow w.heap.size 5 1 v' (joinS (L.take (k + 1))).length ((joinS (L.take (k + 1))).map (fun n : Nat => Value.int .u8 (n : Int)))) := Lib.hid (by
     rw [Hs.out, strOf_size] at hown3
     rw [Hj.out, List.length_append, List.map_append]
     exact hown3)
    have HB3 := Lib.hid (below_grown HB2.out hg3 Hown2.out (Nat.le_refl _) HB2.out.size)
    clear hown3 hg3
    go_light
    go_roundw
    case rel => exact ⟨k + 1, by go_num, by omega, Hown3, HB3, Lib.hid (fun j y hj hy => by
     rcases Nat.lt_or_ge j k with h | h
     ·exact HR.out j y h hy
     ·obtain rfl : j = k := by omega
      rw [Hx.out] at hy
      cases hy
      exact Hr.out)⟩
    case measure => simp [intOf]; omega
  ·have hdl : ¬ (k : Int) < (L.length : Int) := by omega
   obtain rfl : k = L.length := by omega
   have HV := Lib.hid (joinV_ok (fun j x hx => HR.out j x (List.getElem?_eq_some_iff.mp hx).1 hx))
   have hown := Hown.out
   rw [List.take_length] at hown
   have hs := own_text hown
   clear hown
   go_wp2
   go_light
   go_ret2
   exact ⟨by rw [HV.out]; rfl, HB.out⟩
end Go.Proofs.YtfekpkelmliejaaGreatDoor
