/- Texts of the claim. -/
import Derived.Deep.LoopGhost
import Derived.Deep.RegionWith
import Derived.RegionTactic
import Derived.BigRegion
import Derived.Test.YtofbfafnpdaejaaGreatDoorMZ03
import Derived.Test.YtofbfafnpdaejaaGreatDoorMZ01
set_option linter.all false
set_option maxRecDepth 100000
set_option maxHeartbeats 8000000
namespace Go.Proofs.YtofbfafnpdaejaaGreatDoor
open Go.RowKit
def classVal : Except Wrong ((Nat → Bool) × Nat) → Value
 | .ok (p, j) => .tuple #[.agg #[.int .u64 (word p 0), .int .u64 (word p 1), .int .u64 (word p 2), .int .u64 (word p 3)], .int .i64 (j : Int), .agg #[.int .i64 0, .int .i64 0]]
 | .error (k, q) => .tuple #[.agg #[.int .u64 0, .int .u64 0, .int .u64 0, .int .u64 0], .int .i64 0, .agg #[.int .i64 k, .int .i64 q]]
theorem setsAt_pair (W : World) (p q : Nat → Bool) : SetsAt (W.alloc (.cells #[.int .u64 (word p 0), .int .u64 (word p 1), .int .u64 (word p 2), .int .u64 (word p 3), .int .u64 (word q 0), .int .u64 (word q 1), .int .u64 (word q 2), .int .u64 (word q 3)] 25)) (W.heap.size + 1) (some ⟨W.heap.size, 0, none⟩) [p, q] := by
  intro _
  have hb := Blk.new W 25 #[.int .u64 (word p 0), .int .u64 (word p 1), .int .u64 (word p 2), .int .u64 (word p 3), .int .u64 (word q 0), .int .u64 (word q 1), .int .u64 (word q 2), .int .u64 (word q 3)]
  refine ⟨W.heap.size, 0, rfl, by omega, fun i r hi => ?_⟩
  match i, hi with
  | 0, hi => obtain rfl : p = r := by simpa using hi
             exact ⟨hb.cell 0, hb.cell 1, hb.cell 2, hb.cell 3⟩
  | 1, hi => obtain rfl : q = r := by simpa using hi
             exact ⟨hb.cell 4, hb.cell 5, hb.cell 6, hb.cell 7⟩
  | n + 2, hi => simp at hi
theorem anyOf_pair (p q : Nat → Bool) : anyOf [p, q] 2 = fun c => p c || q c := by funext c; simp [anyOf]
theorem union2_go (W : World) (p q : Nat → Bool) :
  Calls Tryz.prog 83 #[.slice (some ⟨W.heap.size, 0, none⟩) 2 2] (W.alloc (.cells #[.int .u64 (word p 0), .int .u64 (word p 1), .int .u64 (word p 2), .int .u64 (word p 3), .int .u64 (word q 0), .int .u64 (word q 1), .int .u64 (word q 2), .int .u64 (word q 3)] 25)) fun e w' => e = .returned (.agg #[.int .u64 (word (fun c => p c || q c) 0), .int .u64 (word (fun c => p c || q c) 1), .int .u64 (word (fun c => p c || q c) 2), .int .u64 (word (fun c => p c || q c) 3)]) ∧ Below (W.heap.size + 1) (W.alloc (.cells #[.int .u64 (word p 0), .int .u64 (word p 1), .int .u64 (word p 2), .int .u64 (word p 3), .int .u64 (word q 0), .int .u64 (word q 1), .int .u64 (word q 2), .int .u64 (word q 3)] 25)) w' := by
 have h := union_any (some ⟨W.heap.size, 0, none⟩) [p, q] 2 (W.alloc (.cells #[.int .u64 (word p 0), .int .u64 (word p 1), .int .u64 (word p 2), .int .u64 (word p 3), .int .u64 (word q 0), .int .u64 (word q 1), .int .u64 (word q 2), .int .u64 (word q 3)] 25)) (by simpa using setsAt_pair W p q) (by simp)
 refine h.mono fun e w' hq => ?_
 simp only [List.length_cons, List.length_nil, Nat.zero_add, Nat.reduceAdd, anyOf_pair] at hq
 exact ⟨hq.1, by simpa using hq.2⟩
theorem ret_read {fn : Func} {t4 t5 t6 : Tmp} (h : fn.results = #[.cell t4 25, .tmp t5, .cell t6 77]) {tmps : Array Value} {w : World} {g g' : Nat} {a b c d x y i : Value}
  (hp : tmps.getD t4 undef = .pointer (some ⟨g, 0, none⟩)) (hi : tmps.getD t5 undef = i) (hp' : tmps.getD t6 undef = .pointer (some ⟨g', 0, none⟩)) (hb : Blk w g 25 #[a, b, c, d]) (hb' : Blk w g' 77 #[x, y]) :
  (results fn tmps).run Tryz.prog w = .ok (.tuple #[.agg #[a, b, c, d], i, .agg #[x, y]]) w := by
 have h1 := run_loadVar_row (P := Tryz.prog) w g 25 25 #[a, b, c, d] (0, 0) _ hb Tryz.underlying25 rfl (by kernel_rfl)
 have h2 := run_loadVar_row (P := Tryz.prog) w g' 77 77 #[x, y] (0, 0) _ hb' Tryz.underlying77 rfl (by kernel_rfl)
 simp only [results, h]
 simp only [Array.getD_eq_getD_getElem?] at hp hi hp'
 simp [Sem.run_bind, hp, hi, hp', asAddr, h1, h2, Result.andThen]
def Laid (w : World) (A : Option Addr) (cap : Nat) (bs : List Nat) (i : Int) : World :=
 ((w.alloc (.cells #[.int .u64 0, .int .u64 0, .int .u64 0, .int .u64 0] 25)).alloc (.cells #[.int .i64 0, .int .i64 0] 77)).alloc (.cells #[.slice A bs.length cap, .int .i64 i, .int .i64 i, .int .i64 0, .int .i64 0] 259)
section
variable (w : World) (A : Option Addr) (cap : Nat) (bs : List Nat) (i : Int)
theorem Laid.rd : Rd (Laid w A cap bs i) (w.heap.size + 1 + 1) A cap bs i i 0 0 := Blk.new_at (by simp)
theorem Laid.set : Blk (Laid w A cap bs i) w.heap.size 25 #[.int .u64 0, .int .u64 0, .int .u64 0, .int .u64 0] := ((Blk.new _ _ _).alloc _).alloc _
theorem Laid.bad : Blk (Laid w A cap bs i) (w.heap.size + 1) 77 #[.int .i64 0, .int .i64 0] := (Blk.new_at (by simp)).alloc _
theorem Laid.below : Below w.heap.size w (Laid w A cap bs i) := (((Below.refl _ _).alloc (Nat.le_refl _) _).alloc (by simp) _).alloc (by simp; omega) _
theorem Laid.size : (Laid w A cap bs i).heap.size = w.heap.size + 1 + 1 + 1 := by simp [Laid]
end
theorem read_no (A : Option Addr) (cap : Nat) (bs : List Nat) (i : Int) (w : World) (hA : BytesAt w w.heap.size A bs) (hh : hasAt bs i 91 = false) :
  Calls Tryz.prog 227 #[.slice A bs.length cap, .int .i64 i] w fun e w' => e = .returned (classVal (readS bs i)) ∧ Below w.heap.size w w' := by
 rw [readS_no hh]
 have Hh := Lib.hid hh
 have HA := Lib.hid (hA.below (Laid.below w A cap bs i))
 clear hh hA
 go_enter Tryz.func227, Tryz.ntmps227
 go_wp2_with fail
 refine (take_no (w.heap.size + 1 + 1) A cap bs _ _ _ _ 91 w.heap.size _ (Laid.rd w A cap bs i) HA.out (by omega) (by omega) Hh.out).mono ?_
 rintro e w1 ⟨rfl, hr1, hg1⟩
 have Hz := Lib.hid ((Laid.set w A cap bs i).grown hg1 (by simp; omega))
 have Hb := Lib.hid ((Laid.bad w A cap bs i).grown hg1 (by simp))
 have Hg1 := Lib.hid hg1
 obtain ⟨z0, z1, z2, z3, y0, y1, y2, y3⟩ := Hz.out.c4
 obtain ⟨b0, b1, x0, x1⟩ := Hb.out.c2
 clear hg1 hr1
 go_wp2
 go_light
 refine bodyPost_ret (ret_read Tryz.results227 rfl rfl rfl (Hz.out.set4.far2 (by omega) _ _) (Hb.out.far4 (by omega) _ _ _ _).set2) rfl ⟨rfl, ?_⟩
 exact below_set2 (below_set4 (below_only (Laid.below w A cap bs i) Hg1.out (by omega) (by rw [Laid.size]; omega)) (Nat.le_refl _) _ _ _ _) (by omega) _ _
theorem Rd.drew {w : World} {g : Nat} {A : Option Addr} {cap : Nat} {bs : List Nat} {i start kind place : Int} (h : Rd w g A cap bs i start kind place) : Rd w.drew g A cap bs i start kind place := h
def Next (bs : List Nat) (i : Nat) (FIN : Except Wrong ((Nat → Bool) × Nat)) (f j : Nat) (p p5 : Nat → Bool) (j5 : Nat) (k5 q5 : Int) : Prop :=
 k5 = 0 ∧ q5 = 0 ∧ j5 ≤ bs.length ∧ j < j5 ∧ FIN = restS bs i (f - 1) j5 (fun c => p c || p5 c) ∨ k5 ≠ 0 ∧ FIN = .error (k5, q5)
theorem item_step {bs : List Nat} {g : Nat} {A : Option Addr} {cap i j f : Nat} {p : Nat → Bool} {FIN : Except Wrong ((Nat → Bool) × Nat)} {w w' : World} {e : Ending} (hb : ∀ x ∈ bs, x < 256) (hc : hasAt bs (j : Int) 93 = false)
  (hF : FIN = restS bs i f j p) (hf : 0 < f) (hp : ItemPost g A cap bs j i w e w') :
  ∃ (p5 : Nat → Bool) (j5 : Nat) (k5 q5 : Int), e = .returned (.agg #[.int .u64 (word p5 0), .int .u64 (word p5 1), .int .u64 (word p5 2), .int .u64 (word p5 3)]) ∧ w.grownBy w' (some g) ∧ Rd w' g A cap bs (j5 : Int) (i : Int) k5 q5 ∧ Next bs i FIN f j p p5 j5 k5 q5 := by
 obtain ⟨m, rfl⟩ : ∃ m, f = m + 1 := ⟨f - 1, by omega⟩
 rw [restS_go hc] at hF
 unfold ItemPost at hp
 cases hI : itemS bs i j with
 | error x =>
  obtain ⟨k, q⟩ := x
  rw [hI] at hp
  obtain ⟨hg, hk, p', j', he, hr⟩ := hp
  exact ⟨p', j', k, q, he, hg, hr, .inr ⟨hk, by rw [hF, itemsS_bad hI]⟩⟩
 | ok x =>
  obtain ⟨lo, hi', j'⟩ := x
  rw [hI] at hp
  obtain ⟨hg, he, hr⟩ := hp
  have hj := itemS_ok hb hI
  exact ⟨between lo hi', j', 0, 0, he, hg, hr, .inl ⟨rfl, rfl, hj.2.1, hj.1, by rw [hF, itemsS_ok hI]; rfl⟩⟩
theorem read_plain (A : Option Addr) (cap : Nat) (bs : List Nat) (i : Nat) (w : World) (hA : BytesAt w w.heap.size A bs) (hh : hasAt bs (i : Int) 91 = true) (ht : hasAt bs ((i : Int) + 1) 94 = false) :
  Calls Tryz.prog 227 #[.slice A bs.length cap, .int .i64 (i : Int)] w fun e w' => e = .returned (classVal (readS bs i)) ∧ Below w.heap.size w w' := by
 obtain ⟨FIN, hfin⟩ : ∃ r, itemsS bs i (bs.length + 1) (i + 1) (fun _ => false) = r := ⟨_, rfl⟩
 have Hfin := Lib.hid hfin
 have HV : Hid (classVal (readS bs i) = classVal FIN) := by
  show classVal _ = _
  rw [readS_plain hh ht, hfin]
 have hi : i + 1 ≤ bs.length := by obtain ⟨k, h1, h2, _⟩ := hasAt_yes hh; omega
 have Hh := Lib.hid hh
 have Ht := Lib.hid ht
 have HA := Lib.hid (hA.below (Laid.below w A cap bs i))
 clear hh hA hfin ht
 go_enter Tryz.func227, Tryz.ntmps227
 go_wp2_with fail
 refine (take_yes (w.heap.size + 1 + 1) A cap bs _ _ _ _ 91 w.heap.size _ (Laid.rd w A cap bs i) HA.out (by omega) (by omega) Hh.out).mono ?_
 rintro e w1 ⟨rfl, hr1, hg1⟩
 have HA1 := Lib.hid (HA.out.only hg1 (by omega) (by rw [Laid.size]; omega))
 have Hr1 := Lib.hid hr1
 have Hg1 := Lib.hid hg1
 clear hr1 hg1
 go_wp2_with fail
 refine (take_no (w.heap.size + 1 + 1) A cap bs _ _ _ _ 94 w.heap.size _ Hr1.out HA1.out (by omega) (by omega) Ht.out).mono ?_
 rintro e w2 ⟨rfl, hr2, hg2⟩
 have HA2 := Lib.hid (HA1.out.only hg2 (by omega) Hr1.out.lt)
 have Hr2 : Hid (Rd w2 (w.heap.size + 1 + 1) A cap bs ((i + 1 : Nat) : Int) (i : Int) 0 0) := by
  show Rd _ _ _ _ _ _ _ _ _
  rw [show ((i + 1 : Nat) : Int) = (i : Int) + 1 by omega]; exact hr2
 have Hg2 := Lib.hid (only_trans Hg1.out hg2)
 clear hr2 hg2
 go_wp2_with fail
 with_reducible refine (item_go (w.heap.size + 1 + 1) A cap bs (i + 1) i w.heap.size w2 Hr2.out HA2.out (by omega) hi).mono ?_
 rintro e w3 hp
 obtain ⟨p0, j0, k0, q0, rfl, hg3, hr3, hst⟩ : ∃ (p : Nat → Bool) (j : Nat) (k q : Int), e = .returned (.agg #[.int .u64 (word p 0), .int .u64 (word p 1), .int .u64 (word p 2), .int .u64 (word p 3)]) ∧ w2.grownBy w3 (some (w.heap.size + 1 + 1)) ∧ Rd w3 (w.heap.size + 1 + 1) A cap bs (j : Int) (i : Int) k q ∧
   Hid (k = 0 ∧ q = 0 ∧ j ≤ bs.length ∧ 0 < j ∧ FIN = restS bs i bs.length j p ∨ k ≠ 0 ∧ FIN = .error (k, q)) := by
  unfold ItemPost at hp
  cases hI : itemS bs i (i + 1) with
  | error x =>
   obtain ⟨k, q⟩ := x
   rw [hI] at hp
   obtain ⟨hg, hk, p, j, he, hr⟩ := hp
   exact ⟨p, j, k, q, he, hg, hr, .inr ⟨hk, by rw [← Hfin.out, itemsS_bad hI]⟩⟩
  | ok x =>
   obtain ⟨lo, hi', j⟩ := x
   rw [hI] at hp
   obtain ⟨hg, he, hr⟩ := hp
   have hj := itemS_ok HA.out.1 hI
   refine ⟨between lo hi', j, 0, 0, he, hg, hr, .inl ⟨rfl, rfl, hj.2.1, by omega, ?_⟩⟩
   rw [← Hfin.out, itemsS_ok hI]
   congr 1
 have Hg3 := Lib.hid (only_trans Hg2.out hg3)
 have HA3 := Lib.hid (HA2.out.only hg3 (by omega) Hr2.out.lt)
 have Hr3 := Lib.hid hr3
 have Hz := Lib.hid ((Laid.set w A cap bs i).grown Hg3.out (by simp; omega))
 have Hb := Lib.hid ((Laid.bad w A cap bs i).grown Hg3.out (by simp))
 have HB3 := Lib.hid (below_only (Laid.below w A cap bs i) Hg3.out (by omega) (by rw [Laid.size]; omega))
 have hlt3 := hr3.lt
 clear hg3 hr3 hp
 go_wp2
 go_loopg [] (bs.length + 1) (fun gk wr => ∃ (p : Nat → Bool) (j : Nat) (k q : Int), Hid (Blk wr w3.heap.size 25 #[.int .u64 (word p 0), .int .u64 (word p 1), .int .u64 (word p 2), .int .u64 (word p 3)]) ∧ Hid (Rd wr (w.heap.size + 1 + 1) A cap bs (j : Int) (i : Int) k q) ∧ Hid (Blk wr w.heap.size 25 #[.int .u64 0, .int .u64 0, .int .u64 0, .int .u64 0]) ∧
   Hid (Blk wr (w.heap.size + 1) 77 #[.int .i64 0, .int .i64 0]) ∧ Hid (BytesAt wr w.heap.size A bs) ∧ Hid (Below w.heap.size w wr) ∧
   Hid (k = 0 ∧ q = 0 ∧ j ≤ bs.length ∧ bs.length + 1 ≤ gk + j ∧ (∃ f, bs.length < f + j ∧ FIN = restS bs i f j p) ∨ k ≠ 0 ∧ FIN = .error (k, q)))
 case atStart =>
  refine ⟨p0, j0, k0, q0, Blk.new _ _ _, Hr3.out.alloc _, Hz.out.alloc _, Hb.out.alloc _, HA3.out.below ((Below.refl _ _).alloc (by omega) _), HB3.out.alloc (by omega) _, ?_⟩
  rcases hst.out with ⟨h1, h2, h3, h4, h5⟩ | h
  ·exact .inl ⟨h1, h2, h3, by omega, bs.length, by omega, h5⟩
  ·exact .inr h
 case round =>
  obtain ⟨p, j, k, q, Hs, Hr, Hz', Hb', HA', HB', Hst⟩ := hrel
  obtain ⟨s0, s1, s2, s3, f0, f1, f2, f3⟩ := Hs.out.c4
  obtain ⟨z0, z1, z2, z3, y0, y1, y2, y3⟩ := Hz'.out.c4
  obtain ⟨b0, b1, x0, x1⟩ := Hb'.out.c2
  obtain ⟨c0, c1, c2, c3, c4, e1, e3, e4⟩ := Hr.out.cells
  have hlts := Hs.out.lt
  by_cases hk : k = 0
  ·obtain ⟨hq, hj, hg, hF⟩ : q = 0 ∧ j ≤ bs.length ∧ bs.length + 1 ≤ gk + j ∧ Hid (∃ f, bs.length < f + j ∧ FIN = restS bs i f j p) := by
    rcases Hst.out with ⟨_, h2, h3, h4, h5⟩ | ⟨h, _⟩
    ·exact ⟨h2, h3, h4, h5⟩
    ·exact absurd hk h
   subst hk hq
   by_cases hc : hasAt bs (j : Int) 93 = true
   ·have Hc := Lib.hid hc
    clear hc Hst
    go_wp2_with fail
    refine (take_yes (w.heap.size + 1 + 1) A cap bs _ _ _ _ 93 w.heap.size _ Hr.out HA'.out (by omega) (by omega) Hc.out).mono ?_
    rintro e w4 ⟨rfl, hr4, hg4⟩
    have Hs4 := Lib.hid (Hs.out.grown hg4 (by simp; omega))
    have Hz4 := Lib.hid (Hz'.out.grown hg4 (by simp; omega))
    have Hb4 := Lib.hid (Hb'.out.grown hg4 (by simp))
    have HB4 := Lib.hid (below_only HB'.out hg4 (by omega) (by omega))
    have hlt4 := Hs4.out.lt
    obtain ⟨s0, s1, s2, s3, f0, f1, f2, f3⟩ := Hs4.out.c4
    obtain ⟨z0, z1, z2, z3, y0, y1, y2, y3⟩ := Hz4.out.c4
    obtain ⟨b0, b1, x0, x1⟩ := Hb4.out.c2
    obtain ⟨c0, c1, c2, c3, c4, e1, e3, e4⟩ := hr4.cells
    have Hr4 := Lib.hid hr4
    have hltr := hr4.lt
    clear hr4 hg4
    have HV2 : Hid (classVal (readS bs i) = .tuple #[.agg #[.int .u64 (word p 0), .int .u64 (word p 1), .int .u64 (word p 2), .int .u64 (word p 3)], .int .i64 ((j : Int) + 1), .agg #[.int .i64 0, .int .i64 0]]) := by
     obtain ⟨f, hf, hFF⟩ := hF.out
     show classVal _ = _
     rw [HV.out, hFF, restS_end Hc.out]
     rfl
    go_wp2
    go_region
    all_goals go_wp2
    all_goals go_light
    all_goals rw [HV2.out] at *
    refine bodyPost_ret (ret_read Tryz.results227 rfl rfl rfl (Hz4.out.set4.far2 (by omega) _ _).drew (Hb4.out.far4 (by omega) _ _ _ _).set2.drew) rfl ⟨rfl, ?_⟩
    exact (below_set2 (below_set4 HB4.out (Nat.le_refl _) _ _ _ _) (by omega) _ _).drew
   ·have hc' : hasAt bs (j : Int) 93 = false := by simpa using hc
    have Hc := Lib.hid hc'
    clear hc hc' Hst
    go_wp2_with fail
    refine (take_no (w.heap.size + 1 + 1) A cap bs _ _ _ _ 93 w.heap.size _ Hr.out HA'.out (by omega) (by omega) Hc.out).mono ?_
    rintro e w4 ⟨rfl, hr4, hg4⟩
    have Hs4 := Lib.hid (Hs.out.grown hg4 (by simp; omega))
    have Hz4 := Lib.hid (Hz'.out.grown hg4 (by simp; omega))
    have Hb4 := Lib.hid (Hb'.out.grown hg4 (by simp))
    have HB4 := Lib.hid (below_only HB'.out hg4 (by omega) (by omega))
    have HA4 := Lib.hid (HA'.out.only hg4 (by omega) Hr.out.lt)
    have Hr4 := Lib.hid hr4
    have hlt4 := Hs4.out.lt
    obtain ⟨s0, s1, s2, s3, f0, f1, f2, f3⟩ := Hs4.out.c4
    clear hr4 hg4
    obtain ⟨f, hf, hFF⟩ := hF.out
    have HF := Lib.hid hFF
    clear hFF
    go_wp2_with fail
    go_region_with (first
     | (go_at_call 246; refine (item_go (w.heap.size + 1 + 1) A cap bs j i w.heap.size w4.drew (Hr4.out.drew) HA4.out.drew (by omega) hj).mono ?_; rintro e w5 hp; obtain ⟨p5, j5, k5, q5, rfl, hg5, hr5, hst5⟩ := item_step HA4.out.1 Hc.out HF.out (by omega) hp; have Hs5 := Lib.hid (Hs4.out.drew.grown hg5 (by simp; omega)); obtain ⟨t0, t1, t2, t3, _, _, _, _⟩ := Hs5.out.c4)
     | (go_at_call 83; refine (union2_go w5 p p5).mono ?_; rintro e w6 ⟨rfl, hb6⟩; have hs6 := (Hs5.out.alloc (.cells #[.int .u64 (word p 0), .int .u64 (word p 1), .int .u64 (word p 2), .int .u64 (word p 3), .int .u64 (word p5 0), .int .u64 (word p5 1), .int .u64 (word p5 2), .int .u64 (word p5 3)] 25)).below hb6 (by have := Hs5.out.lt; omega); obtain ⟨v0, v1, v2, v3, v4, v5, v6, v7⟩ := hs6.c4; have Hs6 := Lib.hid hs6; clear hs6))
    all_goals
     go_wp2
     go_light
     have hz5 : w4.heap.size ≤ w5.heap.size := hg5.size
     have B5 : Below w.heap.size w5 (w5.alloc (.cells #[.int .u64 (word p 0), .int .u64 (word p 1), .int .u64 (word p 2), .int .u64 (word p 3), .int .u64 (word p5 0), .int .u64 (word p5 1), .int .u64 (word p5 2), .int .u64 (word p5 3)] 25)) := (Below.refl _ _).alloc (by omega) _
     have B6 := below_set4 (B5.trans (hb6.mono (by omega))) (show w.heap.size ≤ w3.heap.size by omega) (.int .u64 (word (fun c => p c || p5 c) 0)) (.int .u64 (word (fun c => p c || p5 c) 1)) (.int .u64 (word (fun c => p c || p5 c) 2)) (.int .u64 (word (fun c => p c || p5 c) 3))
     go_roundg (gk - 1)
     case measure => omega
     case rel =>
      refine ⟨fun c => p c || p5 c, j5, k5, q5, Hs6.out.set4, ?_, ?_, ?_, ?_, ?_, ?_⟩
      ·exact ((hr5.alloc _).below hb6 (by have := hr5.lt; omega)).set4 (by omega) _ _ _ _
      ·exact (((Hz4.out.drew.grown hg5 (by simp; omega)).alloc _).below hb6 (by omega)).far4 (by omega) _ _ _ _
      ·exact (((Hb4.out.drew.grown hg5 (by simp)).alloc _).below hb6 (by omega)).far4 (by omega) _ _ _ _
      ·exact (HA4.out.drew.only hg5 (by omega) (by have := Hr4.out.lt; simpa using this)).below B6
      ·exact (below_only HB4.out.drew hg5 (by omega) (by have := Hr4.out.lt; simp; omega)).trans B6
      ·rcases hst5 with ⟨h1, h2, h3, h4, h5⟩ | h
       ·exact .inl ⟨h1, h2, h3, by omega, f - 1, by omega, h5⟩
       ·exact .inr h
  ·have HV3 : Hid (classVal (readS bs i) = .tuple #[.agg #[.int .u64 0, .int .u64 0, .int .u64 0, .int .u64 0], .int .i64 0, .agg #[.int .i64 k, .int .i64 q]]) := by
    show classVal _ = _
    rcases Hst.out with ⟨h, _⟩ | ⟨_, h⟩
    ·exact absurd h hk
    ·rw [HV.out, h]; rfl
   have hkb : (k == 0) = false := by simpa using hk
   have hkn : (k != 0) = true := by simpa using hk
   clear Hst
   go_wp2
   go_region
   all_goals go_wp2
   all_goals go_light
   all_goals rw [HV3.out] at *
   refine bodyPost_ret (ret_read Tryz.results227 rfl rfl rfl (Hz'.out.set4.far2 (by omega) _ _).drew (Hb'.out.far4 (by omega) _ _ _ _).set2.drew) rfl ⟨rfl, ?_⟩
   exact (below_set2 (below_set4 HB'.out (Nat.le_refl _) _ _ _ _) (by omega) _ _).drew
theorem read_turned (A : Option Addr) (cap : Nat) (bs : List Nat) (i : Nat) (w : World) (hA : BytesAt w w.heap.size A bs) (hh : hasAt bs (i : Int) 91 = true) (ht : hasAt bs ((i : Int) + 1) 94 = true) :
  Calls Tryz.prog 227 #[.slice A bs.length cap, .int .i64 (i : Int)] w fun e w' => e = .returned (classVal (readS bs i)) ∧ Below w.heap.size w w' := by
 obtain ⟨FIN, hfin⟩ : ∃ r, itemsS bs i (bs.length + 1) (i + 2) (fun _ => false) = r := ⟨_, rfl⟩
 have Hfin := Lib.hid hfin
 have HV : Hid (classVal (readS bs i) = classVal (turnS FIN)) := by
  show classVal _ = _
  rw [readS_turned hh ht, hfin]
 have hi : i + 2 ≤ bs.length := by obtain ⟨k, h1, h2, _⟩ := hasAt_yes ht; omega
 have Hh := Lib.hid hh
 have Ht := Lib.hid ht
 have HA := Lib.hid (hA.below (Laid.below w A cap bs i))
 clear hh hA hfin ht
 go_enter Tryz.func227, Tryz.ntmps227
 go_wp2_with fail
 refine (take_yes (w.heap.size + 1 + 1) A cap bs _ _ _ _ 91 w.heap.size _ (Laid.rd w A cap bs i) HA.out (by omega) (by omega) Hh.out).mono ?_
 rintro e w1 ⟨rfl, hr1, hg1⟩
 have HA1 := Lib.hid (HA.out.only hg1 (by omega) (by rw [Laid.size]; omega))
 have Hr1 := Lib.hid hr1
 have Hg1 := Lib.hid hg1
 clear hr1 hg1
 go_wp2_with fail
 refine (take_yes (w.heap.size + 1 + 1) A cap bs _ _ _ _ 94 w.heap.size _ Hr1.out HA1.out (by omega) (by omega) Ht.out).mono ?_
 rintro e w2 ⟨rfl, hr2, hg2⟩
 have HA2 := Lib.hid (HA1.out.only hg2 (by omega) Hr1.out.lt)
 have Hr2 : Hid (Rd w2 (w.heap.size + 1 + 1) A cap bs ((i + 2 : Nat) : Int) (i : Int) 0 0) := by
  show Rd _ _ _ _ _ _ _ _ _
  rw [show ((i + 2 : Nat) : Int) = (i : Int) + 1 + 1 by omega]; exact hr2
 have Hg2 := Lib.hid (only_trans Hg1.out hg2)
 clear hr2 hg2
 go_wp2_with fail
 with_reducible refine (item_go (w.heap.size + 1 + 1) A cap bs (i + 2) i w.heap.size w2 Hr2.out HA2.out (by omega) hi).mono ?_
 rintro e w3 hp
 obtain ⟨p0, j0, k0, q0, rfl, hg3, hr3, hst⟩ : ∃ (p : Nat → Bool) (j : Nat) (k q : Int), e = .returned (.agg #[.int .u64 (word p 0), .int .u64 (word p 1), .int .u64 (word p 2), .int .u64 (word p 3)]) ∧ w2.grownBy w3 (some (w.heap.size + 1 + 1)) ∧ Rd w3 (w.heap.size + 1 + 1) A cap bs (j : Int) (i : Int) k q ∧
   Hid (k = 0 ∧ q = 0 ∧ j ≤ bs.length ∧ 0 < j ∧ FIN = restS bs i bs.length j p ∨ k ≠ 0 ∧ FIN = .error (k, q)) := by
  unfold ItemPost at hp
  cases hI : itemS bs i (i + 2) with
  | error x =>
   obtain ⟨k, q⟩ := x
   rw [hI] at hp
   obtain ⟨hg, hk, p, j, he, hr⟩ := hp
   exact ⟨p, j, k, q, he, hg, hr, .inr ⟨hk, by rw [← Hfin.out, itemsS_bad hI]⟩⟩
  | ok x =>
   obtain ⟨lo, hi', j⟩ := x
   rw [hI] at hp
   obtain ⟨hg, he, hr⟩ := hp
   have hj := itemS_ok HA.out.1 hI
   refine ⟨between lo hi', j, 0, 0, he, hg, hr, .inl ⟨rfl, rfl, hj.2.1, by omega, ?_⟩⟩
   rw [← Hfin.out, itemsS_ok hI]
   congr 1
 have Hg3 := Lib.hid (only_trans Hg2.out hg3)
 have HA3 := Lib.hid (HA2.out.only hg3 (by omega) Hr2.out.lt)
 have Hr3 := Lib.hid hr3
 have Hz := Lib.hid ((Laid.set w A cap bs i).grown Hg3.out (by simp; omega))
 have Hb := Lib.hid ((Laid.bad w A cap bs i).grown Hg3.out (by simp))
 have HB3 := Lib.hid (below_only (Laid.below w A cap bs i) Hg3.out (by omega) (by rw [Laid.size]; omega))
 have hlt3 := hr3.lt
 clear hg3 hr3 hp
 go_wp2
 go_loopg [] (bs.length + 1) (fun gk wr => ∃ (p : Nat → Bool) (j : Nat) (k q : Int), Hid (Blk wr w3.heap.size 25 #[.int .u64 (word p 0), .int .u64 (word p 1), .int .u64 (word p 2), .int .u64 (word p 3)]) ∧ Hid (Rd wr (w.heap.size + 1 + 1) A cap bs (j : Int) (i : Int) k q) ∧ Hid (Blk wr w.heap.size 25 #[.int .u64 0, .int .u64 0, .int .u64 0, .int .u64 0]) ∧
   Hid (Blk wr (w.heap.size + 1) 77 #[.int .i64 0, .int .i64 0]) ∧ Hid (BytesAt wr w.heap.size A bs) ∧ Hid (Below w.heap.size w wr) ∧
   Hid (k = 0 ∧ q = 0 ∧ j ≤ bs.length ∧ bs.length + 1 ≤ gk + j ∧ (∃ f, bs.length < f + j ∧ FIN = restS bs i f j p) ∨ k ≠ 0 ∧ FIN = .error (k, q)))
 case atStart =>
  refine ⟨p0, j0, k0, q0, Blk.new _ _ _, Hr3.out.alloc _, Hz.out.alloc _, Hb.out.alloc _, HA3.out.below ((Below.refl _ _).alloc (by omega) _), HB3.out.alloc (by omega) _, ?_⟩
  rcases hst.out with ⟨h1, h2, h3, h4, h5⟩ | h
  ·exact .inl ⟨h1, h2, h3, by omega, bs.length, by omega, h5⟩
  ·exact .inr h
 case round =>
  obtain ⟨p, j, k, q, Hs, Hr, Hz', Hb', HA', HB', Hst⟩ := hrel
  obtain ⟨s0, s1, s2, s3, f0, f1, f2, f3⟩ := Hs.out.c4
  obtain ⟨z0, z1, z2, z3, y0, y1, y2, y3⟩ := Hz'.out.c4
  obtain ⟨b0, b1, x0, x1⟩ := Hb'.out.c2
  obtain ⟨c0, c1, c2, c3, c4, e1, e3, e4⟩ := Hr.out.cells
  have hlts := Hs.out.lt
  by_cases hk : k = 0
  ·obtain ⟨hq, hj, hg, hF⟩ : q = 0 ∧ j ≤ bs.length ∧ bs.length + 1 ≤ gk + j ∧ Hid (∃ f, bs.length < f + j ∧ FIN = restS bs i f j p) := by
    rcases Hst.out with ⟨_, h2, h3, h4, h5⟩ | ⟨h, _⟩
    ·exact ⟨h2, h3, h4, h5⟩
    ·exact absurd hk h
   subst hk hq
   by_cases hc : hasAt bs (j : Int) 93 = true
   ·have Hc := Lib.hid hc
    clear hc Hst
    go_wp2_with fail
    refine (take_yes (w.heap.size + 1 + 1) A cap bs _ _ _ _ 93 w.heap.size _ Hr.out HA'.out (by omega) (by omega) Hc.out).mono ?_
    rintro e w4 ⟨rfl, hr4, hg4⟩
    have Hs4 := Lib.hid (Hs.out.grown hg4 (by simp; omega))
    have Hz4 := Lib.hid (Hz'.out.grown hg4 (by simp; omega))
    have Hb4 := Lib.hid (Hb'.out.grown hg4 (by simp))
    have HB4 := Lib.hid (below_only HB'.out hg4 (by omega) (by omega))
    have hlt4 := Hs4.out.lt
    obtain ⟨s0, s1, s2, s3, f0, f1, f2, f3⟩ := Hs4.out.c4
    obtain ⟨z0, z1, z2, z3, y0, y1, y2, y3⟩ := Hz4.out.c4
    obtain ⟨b0, b1, x0, x1⟩ := Hb4.out.c2
    obtain ⟨c0, c1, c2, c3, c4, e1, e3, e4⟩ := hr4.cells
    have Hr4 := Lib.hid hr4
    have hltr := hr4.lt
    clear hr4 hg4
    have HV2 : Hid (classVal (readS bs i) = .tuple #[.agg #[.int .u64 (word (fun c => !p c) 0), .int .u64 (word (fun c => !p c) 1), .int .u64 (word (fun c => !p c) 2), .int .u64 (word (fun c => !p c) 3)], .int .i64 ((j : Int) + 1), .agg #[.int .i64 0, .int .i64 0]]) := by
     obtain ⟨f, hf, hFF⟩ := hF.out
     show classVal _ = _
     rw [HV.out, hFF, restS_end Hc.out]
     rfl
    go_wp2_with (go_at_call 232; refine (not_any p _).mono ?_; rintro e w5 ⟨rfl, hb5⟩; have hs5 := Hs4.out.below hb5 hlt4; have hz5 := Hz4.out.below hb5 (by omega); have hx5 := Hb4.out.below hb5 (by omega); have hr5 := Hr4.out.below hb5 (by omega); obtain ⟨p0, p1, p2, p3, p4, p5, p6, p7⟩ := hs5.c4; obtain ⟨q0, q1, q2, q3, q4, q5, q6, q7⟩ := hz5.c4; obtain ⟨r0, r1, r2, r3⟩ := hx5.c2; obtain ⟨t0, t1, t2, t3, t4, t5, t6, t7⟩ := hr5.cells; have Hz5 := Lib.hid hz5; have Hb5 := Lib.hid hx5; clear hs5 hz5 hx5 hr5)
    go_region
    all_goals go_wp2
    all_goals go_light
    all_goals rw [HV2.out] at *
    refine bodyPost_ret (ret_read Tryz.results227 rfl rfl rfl (((Hz5.out.far4 (by omega) _ _ _ _).set4).far2 (by omega) _ _).drew (((Hb5.out.far4 (by omega) _ _ _ _).far4 (by omega) _ _ _ _).set2).drew) rfl ⟨rfl, ?_⟩
    exact (below_set2 (below_set4 (below_set4 (HB4.out.trans (hb5.mono (by omega))) (by omega) _ _ _ _) (Nat.le_refl _) _ _ _ _) (by omega) _ _).drew
   ·have hc' : hasAt bs (j : Int) 93 = false := by simpa using hc
    have Hc := Lib.hid hc'
    clear hc hc' Hst
    go_wp2_with fail
    refine (take_no (w.heap.size + 1 + 1) A cap bs _ _ _ _ 93 w.heap.size _ Hr.out HA'.out (by omega) (by omega) Hc.out).mono ?_
    rintro e w4 ⟨rfl, hr4, hg4⟩
    have Hs4 := Lib.hid (Hs.out.grown hg4 (by simp; omega))
    have Hz4 := Lib.hid (Hz'.out.grown hg4 (by simp; omega))
    have Hb4 := Lib.hid (Hb'.out.grown hg4 (by simp))
    have HB4 := Lib.hid (below_only HB'.out hg4 (by omega) (by omega))
    have HA4 := Lib.hid (HA'.out.only hg4 (by omega) Hr.out.lt)
    have Hr4 := Lib.hid hr4
    have hlt4 := Hs4.out.lt
    obtain ⟨s0, s1, s2, s3, f0, f1, f2, f3⟩ := Hs4.out.c4
    clear hr4 hg4
    obtain ⟨f, hf, hFF⟩ := hF.out
    have HF := Lib.hid hFF
    clear hFF
    go_wp2_with fail
    go_region_with (first
     | (go_at_call 246; refine (item_go (w.heap.size + 1 + 1) A cap bs j i w.heap.size w4.drew (Hr4.out.drew) HA4.out.drew (by omega) hj).mono ?_; rintro e w5 hp; obtain ⟨p5, j5, k5, q5, rfl, hg5, hr5, hst5⟩ := item_step HA4.out.1 Hc.out HF.out (by omega) hp; have Hs5 := Lib.hid (Hs4.out.drew.grown hg5 (by simp; omega)); obtain ⟨t0, t1, t2, t3, _, _, _, _⟩ := Hs5.out.c4)
     | (go_at_call 83; refine (union2_go w5 p p5).mono ?_; rintro e w6 ⟨rfl, hb6⟩; have hs6 := (Hs5.out.alloc (.cells #[.int .u64 (word p 0), .int .u64 (word p 1), .int .u64 (word p 2), .int .u64 (word p 3), .int .u64 (word p5 0), .int .u64 (word p5 1), .int .u64 (word p5 2), .int .u64 (word p5 3)] 25)).below hb6 (by have := Hs5.out.lt; omega); obtain ⟨v0, v1, v2, v3, v4, v5, v6, v7⟩ := hs6.c4; have Hs6 := Lib.hid hs6; clear hs6))
    all_goals
     go_wp2
     go_light
     have hz5 : w4.heap.size ≤ w5.heap.size := hg5.size
     have B5 : Below w.heap.size w5 (w5.alloc (.cells #[.int .u64 (word p 0), .int .u64 (word p 1), .int .u64 (word p 2), .int .u64 (word p 3), .int .u64 (word p5 0), .int .u64 (word p5 1), .int .u64 (word p5 2), .int .u64 (word p5 3)] 25)) := (Below.refl _ _).alloc (by omega) _
     have B6 := below_set4 (B5.trans (hb6.mono (by omega))) (show w.heap.size ≤ w3.heap.size by omega) (.int .u64 (word (fun c => p c || p5 c) 0)) (.int .u64 (word (fun c => p c || p5 c) 1)) (.int .u64 (word (fun c => p c || p5 c) 2)) (.int .u64 (word (fun c => p c || p5 c) 3))
     go_roundg (gk - 1)
     case measure => omega
     case rel =>
      refine ⟨fun c => p c || p5 c, j5, k5, q5, Hs6.out.set4, ?_, ?_, ?_, ?_, ?_, ?_⟩
      ·exact ((hr5.alloc _).below hb6 (by have := hr5.lt; omega)).set4 (by omega) _ _ _ _
      ·exact (((Hz4.out.drew.grown hg5 (by simp; omega)).alloc _).below hb6 (by omega)).far4 (by omega) _ _ _ _
      ·exact (((Hb4.out.drew.grown hg5 (by simp)).alloc _).below hb6 (by omega)).far4 (by omega) _ _ _ _
      ·exact (HA4.out.drew.only hg5 (by omega) (by have := Hr4.out.lt; simpa using this)).below B6
      ·exact (below_only HB4.out.drew hg5 (by omega) (by have := Hr4.out.lt; simp; omega)).trans B6
      ·rcases hst5 with ⟨h1, h2, h3, h4, h5⟩ | h
       ·exact .inl ⟨h1, h2, h3, by omega, f - 1, by omega, h5⟩
       ·exact .inr h
  ·have HV3 : Hid (classVal (readS bs i) = .tuple #[.agg #[.int .u64 0, .int .u64 0, .int .u64 0, .int .u64 0], .int .i64 0, .agg #[.int .i64 k, .int .i64 q]]) := by
    show classVal _ = _
    rcases Hst.out with ⟨h, _⟩ | ⟨_, h⟩
    ·exact absurd h hk
    ·rw [HV.out, h]; rfl
   have hkb : (k == 0) = false := by simpa using hk
   have hkn : (k != 0) = true := by simpa using hk
   clear Hst
   go_wp2
   go_region
   all_goals go_wp2
   all_goals go_light
   all_goals rw [HV3.out] at *
   refine bodyPost_ret (ret_read Tryz.results227 rfl rfl rfl (Hz'.out.set4.far2 (by omega) _ _).drew (Hb'.out.far4 (by omega) _ _ _ _).set2.drew) rfl ⟨rfl, ?_⟩
   exact (below_set2 (below_set4 HB'.out (Nat.le_refl _) _ _ _ _) (by omega) _ _).drew
theorem read_go (A : Option Addr) (cap : Nat) (bs : List Nat) (i : Int) (w : World) (hA : BytesAt w w.heap.size A bs) :
  Calls Tryz.prog 227 #[.slice A bs.length cap, .int .i64 i] w fun e w' => e = .returned (classVal (readS bs i)) ∧ Below w.heap.size w w' := by
 cases hh : hasAt bs i 91 with
 | false => exact read_no A cap bs i w hA hh
 | true =>
  obtain ⟨k, rfl, _, _⟩ := hasAt_yes hh
  cases ht : hasAt bs ((k : Int) + 1) 94 with
  | false => exact read_plain A cap bs k w hA hh ht
  | true => exact read_turned A cap bs k w hA hh ht
end Go.Proofs.YtofbfafnpdaejaaGreatDoor
