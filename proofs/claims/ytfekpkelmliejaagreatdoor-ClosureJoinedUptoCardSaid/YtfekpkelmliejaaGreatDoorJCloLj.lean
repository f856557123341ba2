/- Texts of the claim. -/
import Derived.Test.YtfekpkelmliejaaGreatDoorJCloKn
import Derived.Test.YtfekpkelmliejaaGreatDoorJNfaRr
namespace Go.Proofs.YtfekpkelmliejaaGreatDoor
open Go.RowKit
set_option linter.unusedSimpArgs false
set_option linter.unusedVariables false
set_option maxRecDepth 100000
set_option maxHeartbeats 8000000
theorem leads_trans {K : List (Int × Int)} {P Q : Int → Prop} {x : Int} (h : Leads K P x) (hq : ∀ s, P s → Leads K Q s) : Leads K Q x := by
 induction h with
 | here hs => exact hq _ hs
 | link _ hk ih => exact .link ih hk
theorem clos_again {K : List (Int × Int)} {S : Int} {O X T : List Int} (hX : IsClos K S O X) (hT : IsClos K S X T) : T = X :=
 rises_ext hT.1 hX.1 fun x => ⟨fun h => (hX.2 x).2 (leads_trans ((hT.2 x).1 h) fun s hs => (hX.2 s).1 hs.1), fun h => by
  refine (hT.2 x).2 ?_
  have h1 := (hX.2 x).1 h
  refine leads_trans h1 fun s hs => .here ⟨(hX.2 s).2 (.here hs), hs.2⟩⟩
theorem step_both {N : NfaV} {a b X Y Z T : List Int} {c : Nat} (hX : IsStep N a c X) (hY : IsStep N b c Y) (hZ : IsStep N (a ++ b) c Z) (hT : IsClos N.links N.states (X ++ Y) T) : Z = T := by
 obtain ⟨O1, h1, h2⟩ := hX
 obtain ⟨O2, h3, h4⟩ := hY
 obtain ⟨O3, h5, h6⟩ := hZ
 have hO : ∀ s, s ∈ O3 ↔ s ∈ O1 ∨ s ∈ O2 := fun s => by
  rw [h5 s, h1 s, h3 s]
  constructor
  ·rintro ⟨p, q1, q2, q3⟩
   rcases List.mem_append.1 q2 with q | q
   ·exact .inl ⟨p, q1, q, q3⟩
   ·exact .inr ⟨p, q1, q, q3⟩
  ·rintro (⟨p, q1, q2, q3⟩ | ⟨p, q1, q2, q3⟩)
   ·exact ⟨p, q1, List.mem_append.2 (.inl q2), q3⟩
   ·exact ⟨p, q1, List.mem_append.2 (.inr q2), q3⟩
 refine rises_ext h6.1 hT.1 fun x => ⟨fun h => ?_, fun h => ?_⟩
 ·refine (hT.2 x).2 (leads_trans ((h6.2 x).1 h) fun s hs => .here ⟨List.mem_append.2 ?_, hs.2⟩)
  rcases (hO s).1 hs.1 with q | q
  ·exact .inl ((h2.2 s).2 (.here ⟨q, hs.2⟩))
  ·exact .inr ((h4.2 s).2 (.here ⟨q, hs.2⟩))
 ·refine (h6.2 x).2 (leads_trans ((hT.2 x).1 h) fun s hs => ?_)
  rcases List.mem_append.1 hs.1 with q | q
  ·exact leads_trans ((h2.2 s).1 q) fun t ht => .here ⟨(hO t).2 (.inl ht.1), ht.2⟩
  ·exact leads_trans ((h4.2 s).1 q) fun t ht => .here ⟨(hO t).2 (.inr ht.1), ht.2⟩
theorem step_lenJ {N : NfaV} {l R : List Int} {b : Nat} (hR : rightN N = true) (h : IsStep N l b R) : R.length ≤ 65536 := by
 obtain ⟨O, _, h2⟩ := h
 exact isclos_len hR h2
theorem own_bytesC {w : World} {base : Nat} {v : Value} {bs : List Nat} (h : w.ownsRow base 5 1 v bs.length (bs.map (fun n : Nat => Value.int .u8 (n : Int)))) (h256 : ∀ c ∈ bs, c < 256) (hl : bs.length ≤ 140737488355328) :
  ∃ A cap, v = .slice A bs.length cap ∧ BytesAt w w.heap.size A bs ∧ ∀ a, A = some a → base ≤ a.block := by
 rcases h.2 with ⟨rfl, h0⟩ | ⟨g, cap, cur, e, _, _, _⟩
 ·have : bs = [] := List.length_eq_zero_iff.1 h0
  subst this
  exact ⟨none, 0, rfl, ⟨(fun c hc => by cases hc), hl, (fun h => absurd h (by decide))⟩, (fun a e => by cases e)⟩
 ·subst e
  refine ⟨_, cap, rfl, ⟨h256, hl, fun _ => ⟨g, 0, rfl, (h.lt g rfl).2, fun i hi => ?_⟩⟩, fun a e => by cases e; exact (h.lt g rfl).1⟩
  have := h.cells (g := g) rfl i (.int .u8 ((byteAt bs i : Nat) : Int)) (by
   rw [List.getElem?_map, List.getElem?_eq_getElem hi]
   unfold byteAt
   simp [List.getD, hi])
  have e2 : (⟨g, 0, none⟩ : Addr).add i = ⟨g, 0 + i, none⟩ := by unfold Addr.add; split <;> simp_all
  rw [← e2]
  exact this
theorem append_bytesC (w : World) (base : Nat) (v : Value) (acc : List Nat) (hown : w.ownsRow base 5 1 v acc.length (acc.map (fun n : Nat => Value.int .u8 (n : Int)))) {N : Nat} {A : Option Addr} (c : Nat) {bs : List Nat} (hA : BytesAt w N A bs) (hs : acc.length + bs.length ≤ 140737488355328) (hbase : base ≤ w.heap.size)
  (t ty : TypeId) (ht : Tryz.prog.underlying t = some (.slice 5)) :
  ∃ v' w', (Builtin.append_ #[t, t] ty #[v, .slice A bs.length c]).run Tryz.prog w = .ok v' w' ∧ w'.ownsRow base 5 1 v' (acc ++ bs).length ((acc ++ bs).map (fun n : Nat => Value.int .u8 (n : Int))) ∧ w.grownBy w' v.ownBlock := by
 obtain ⟨i0, hi, hz0, hz1, hz2⟩ := info_parts byte_info
 have h63 : acc.length + bs.length ≤ maxLen := Nat.le_trans hs (by decide)
 have hby : (acc.length + bs.length) * 1 ≤ 140737488355328 := by omega
 cases A with
 | none =>
  have h0 : bs = [] := by
   by_cases h0 : bs = []
   ·exact h0
   ·obtain ⟨b, o, e, _⟩ := hA.2.2 (List.length_pos_iff.2 h0)
    cases e
  subst h0
  refine ⟨v, w, ?_, by simpa using hown, ⟨rfl, rfl, rfl, Nat.le_refl _, fun _ _ _ => rfl⟩⟩
  rcases hown.2 with ⟨rfl, _⟩ | ⟨g, cap, cur, rfl, _, _, hnc, _⟩
  ·simp [Builtin.append_, run_underlying ht, sizeOf, typeInfo, hi, Builtin.lenOf, Builtin.firstCells]
  ·simp [Builtin.append_, run_underlying ht, sizeOf, typeInfo, hi, Builtin.lenOf, Builtin.firstCells, hnc, storeCells]
 | some a =>
  have hcells : ∀ j u, (bs.map (fun n : Nat => Value.int .u8 (n : Int)))[j]? = some u → w.cell? (a.add j) = some u := fun j u hj => by
   rw [List.getElem?_map] at hj
   have hjl : j < bs.length := by
    rcases Nat.lt_or_ge j bs.length with h1 | h1
    ·exact h1
    ·rw [List.getElem?_eq_none h1] at hj; cases hj
   obtain ⟨b, o, e, _, hc⟩ := hA.2.2 (by omega)
   cases e
   have e2 : (⟨b, o, none⟩ : Addr).add j = ⟨b, o + j, none⟩ := by unfold Addr.add; split <;> simp_all
   rw [e2, hc j hjl]
   rw [List.getElem?_eq_getElem hjl] at hj
   simp only [Option.map_some, Option.some.injEq] at hj
   rw [← hj]
   unfold byteAt
   simp [List.getD, hjl]
  obtain ⟨v', w', h1, h2, h3, _⟩ := run_append_own_at (P := Tryz.prog) w base t ty 5 i0 _ 1 1 ht hi hz0 hz1 hz2 rfl (by decide) v acc.length _ hown a bs.length c (bs.map (fun n : Nat => Value.int .u8 (n : Int))) (by simp) hcells (fun u hu => by obtain ⟨_, _, rfl⟩ := List.mem_map.1 hu; rfl) h63 hby hbase
  exact ⟨v', w', h1, by rw [List.length_append, List.map_append]; exact h2, h3⟩
theorem bytes_at {w w' : World} {A : Option Addr} {bs : List Nat} (h : BytesAt w w.heap.size A bs) (hb : Below w.heap.size w w') : BytesAt w' w'.heap.size A bs := (h.below hb).more hb.size
theorem both_runs (w : World) {A : Option Addr} (ca : Nat) {a : List Int} (hA : IntsAt w A a) {B : Option Addr} (cb : Nat) {b : List Int} (hB : IntsAt w B b) (hl : a.length + b.length ≤ 10000000000000) {l : List Int} (he : l = a ++ b) :
  ∃ v1 w1 D d w2, (Builtin.append_ #[41, 41] 41 #[.slice (some ⟨w.heap.size, 0, none⟩) 0 0, .slice A a.length ca]).run Tryz.prog (w.alloc (.cells #[] 3)) = .ok v1 w1 ∧
   (Builtin.append_ #[41, 41] 41 #[v1, .slice B b.length cb]).run Tryz.prog w1 = .ok (.slice D l.length d) w2 ∧ Below w.heap.size w w2 ∧ IntsAt w2 D l ∧ l.length ≤ d := by
 subst he
 have hb0 : Below w.heap.size w (w.alloc (.cells #[] 3)) := (Below.refl _ _).alloc (Nat.le_refl _) _
 obtain ⟨v1, w1, hr1, ho1, hg1⟩ := append_own_ints (w.alloc (.cells #[] 3)) w.heap.size _ [] (ints_made w) ca (hA.below hb0) (by simp; omega) (by simp) 41 41 Tryz.underlying41
 have hb1 := below_grown hb0 hg1 (ints_made w) (Nat.le_refl _) (by simp)
 rw [List.nil_append] at ho1
 obtain ⟨v2, w2, hr2, ho2, hg2⟩ := append_own_ints w1 w.heap.size v1 a ho1 cb (hB.below hb1) hl hb1.size 41 41 Tryz.underlying41
 have hb2 := below_grown hb1 hg2 ho1 (Nat.le_refl _) hb1.size
 obtain ⟨D, d, rfl, hi2, hc2⟩ := own_list ho2
 exact ⟨v1, w1, D, d, w2, hr1, hr2, hb2, hi2, hc2⟩
theorem word_runs (w : World) {V : Option Addr} (cv : Nat) {v : List Nat} (hV : BytesAt w w.heap.size V v) (hl : v.length + 1 ≤ 140737488355328) {c : Nat} (hc : c < 256) {l : List Nat} (he : l = v ++ [c]) :
  ∃ v1 w1 D d w2, (Builtin.append_ #[30, 30] 30 #[.slice (some ⟨w.heap.size, 0, none⟩) 0 0, .slice V v.length cv]).run Tryz.prog (w.alloc (.cells #[] 5)) = .ok v1 w1 ∧
   (Builtin.append_ #[30, 30] 30 #[v1, .slice (some ⟨w1.heap.size, 0, none⟩) 1 1]).run Tryz.prog (w1.alloc (.cells #[.int .u8 (c : Int)] 5)) = .ok (.slice D l.length d) w2 ∧ Below w.heap.size w w2 ∧ BytesAt w2 w2.heap.size D l ∧ l.length ≤ d := by
 subst he
 have hb0 : Below w.heap.size w (w.alloc (.cells #[] 5)) := (Below.refl _ _).alloc (Nat.le_refl _) _
 have ho0 : (w.alloc (.cells #[] 5)).ownsRow w.heap.size 5 1 (.slice (some ⟨w.heap.size, 0, none⟩) 0 0) ([] : List Nat).length (([] : List Nat).map (fun n : Nat => Value.int .u8 (n : Int))) :=
  ⟨rfl, .inr ⟨w.heap.size, 0, #[], rfl, Nat.le_refl _, heap_alloc_new w _, Nat.le_refl _, Nat.zero_le _, rfl, rfl⟩⟩
 obtain ⟨v1, w1, hr1, ho1, hg1⟩ := append_bytesC (w.alloc (.cells #[] 5)) w.heap.size _ [] ho0 cv (bytes_at hV hb0) (by simp; omega) (by simp) 30 30 Tryz.underlying30
 have hb1 := below_grown hb0 hg1 ho0 (Nat.le_refl _) (by simp)
 rw [List.nil_append] at ho1
 have hs1 := hb1.size
 have ho1' := ho1.alloc (.cells #[.int .u8 (c : Int)] 5)
 obtain ⟨v2, w2, hr2, ho2, hg2⟩ := append_bytesC (w1.alloc (.cells #[.int .u8 (c : Int)] 5)) w.heap.size v1 v ho1' 1 (bytes_new w1 w1.heap.size [c] #[.int .u8 (c : Int)] (0, 0) rfl rfl (by simpa using hc) (by simp)) (by simpa using hl) (by simp; omega) 30 30 Tryz.underlying30
 have hb2 := below_grown (hb1.alloc hs1 (.cells #[.int .u8 (c : Int)] 5)) hg2 ho1' (Nat.le_refl _) (by simp; omega)
 have hd : ∃ D d, v2 = .slice D (v ++ [c]).length d ∧ (v ++ [c]).length ≤ d := by
  rcases ho2.2 with ⟨rfl, h0⟩ | ⟨g, d, cur, e, _, _, h1, _⟩
  ·simp at h0
  ·exact ⟨_, d, e, h1⟩
 obtain ⟨D, d, rfl, hd2⟩ := hd
 obtain ⟨D', d', e, hB, _⟩ := own_bytesC ho2 (fun x hx => by
  rcases List.mem_append.1 hx with h | h
  ·exact hV.1 x h
  ·rw [List.mem_singleton.1 h]; exact hc) (by simpa using hl)
 cases e
 exact ⟨v1, w1, D, d, w2, hr1, hr2, hb2, hB, hd2⟩
theorem cjoined_law (N : NfaV) (A1 : Option Addr) (k1 : Nat) (A2 : Option Addr) (k2 : Nat) (A3 : Option Addr) (k3 : Nat) (w : World) (hN : NfaAt w N A1 A2 A3) (hk : N.links.length ≤ k1 ∧ N.edges.length ≤ k2 ∧ N.accept.length ≤ k3) (hll : N.links.length ≤ 1048576) (hel : N.edges.length ≤ 1048576) (hT : TabAt 1 Lib.deBruijn64tab w) (hw0 : 1 < w.heap.size) (A : Option Addr) (ca : Nat) (a : List Int) (hA : IntsAt w A a) (hla : a.length ≤ 1048576) (hca : a.length ≤ ca) (B : Option Addr) (cb : Nat) (b : List Int) (hB : IntsAt w B b) (hlb : b.length ≤ 1048576) (hcb : b.length ≤ cb) (c : Nat) (hc : c < 256) (V : Option Addr) (cv : Nat) (v : List Nat) (hV : BytesAt w w.heap.size V v) (hcv : v.length ≤ cv) (hlv : v.length ≤ 140737488351232) :
  Calls Tryz.prog 7 #[.agg (nfA N A1 k1 A2 k2 A3 k3), .slice A a.length ca, .slice B b.length cb, .int .u8 (c : Int), .slice V v.length cv] w fun e w' => e = .returned (.bool true) ∧ Below w.heap.size w w' := by
 have hb1 : Below w.heap.size w (w.alloc (.cells #[.int .i64 N.states, .int .i64 N.start, .slice A1 N.links.length k1, .slice A2 N.edges.length k2, .slice A3 N.accept.length k3] 43)) := (Below.refl _ _).alloc (Nat.le_refl _) _
 have HX := Lib.hid (Blk.new w 43 #[.int .i64 N.states, .int .i64 N.start, .slice A1 N.links.length k1, .slice A2 N.edges.length k2, .slice A3 N.accept.length k3])
 have hx := (Blk.new w 43 #[.int .i64 N.states, .int .i64 N.start, .slice A1 N.links.length k1, .slice A2 N.edges.length k2, .slice A3 N.accept.length k3]).c5
 have HB := Lib.hid hb1
 have HN := Lib.hid (hN.below hb1)
 have HI := Lib.hid (show IntsAt _ A a ∧ IntsAt _ B b ∧ BytesAt _ _ V v from ⟨hA.below hb1, hB.below hb1, bytes_at hV hb1⟩)
 have HNw := Lib.hid (mnew_go N A1 k1 A2 k2 A3 k3 _ (hN.below hb1) hk.1 hk.2.1 hk.2.2 hll hel (TabAt.below hb1 hw0 hT) (by have := hb1.size; omega))
 clear hN hA hB hV hb1
 unfold nfA at *
 go_enter Tryz.func7, Tryz.ntmps7
 go_upto_region 1 with fail
 generalize hg : w.heap.size = gx at *
 generalize w.alloc (.cells #[.int .i64 N.states, .int .i64 N.start, .slice A1 N.links.length k1, .slice A2 N.edges.length k2, .slice A3 N.accept.length k3] 43) = w1 at *
 obtain ⟨x0, x1, x2, x3, x4⟩ := hx
 have hlx0 := HX.out.lt
 go_wp2_with fail
 refine HNw.out.mono ?_
 intro e w2 h2
 obtain ⟨hb2, h3⟩ := h2
 have HX2 := Lib.hid (HX.out.below hb2 HX.out.lt)
 have HN2 := Lib.hid (HN.out.below hb2)
 have HI2 := Lib.hid (show IntsAt w2 A a ∧ IntsAt w2 B b ∧ BytesAt w2 w2.heap.size V v from ⟨HI.out.1.below hb2, HI.out.2.1.below hb2, bytes_at HI.out.2.2 hb2⟩)
 have HB2 := Lib.hid (HB.out.trans (hb2.mono (by omega)))
 clear hb2 HNw x0 x1 x2 x3 x4 HX HN HI hlx0
 rcases h3 with ⟨hR, rfl⟩ | ⟨hR, g, lm, em, A4, k4, rfl, hWk⟩
 ·have HRr := Lib.hid (rright16_go N A1 k1 A2 k2 A3 k3 w2 HN2.out)
  unfold nfA at HRr
  rw [hR] at HRr
  obtain ⟨x0, x1, x2, x3, x4⟩ := HX2.out.c5
  have hlx := HX2.out.lt
  dsimp only
  go_wp2_with fail
  refine HRr.out.mono ?_
  rintro e w3 ⟨rfl, hb3⟩
  have hbw3 : Below gx w w3 := HB2.out.trans (hb3.mono (by omega))
  clear HRr x0 x1 x2 x3 x4 hb3
  dsimp only
  have HKn := Lib.hid (knows17_go w3 (TabAt.below hbw3 hw0 hT) (by have := (hbw3).size; omega))
  go_wp2_with fail
  refine HKn.out.mono ?_
  rintro e w9 ⟨rfl, hb9⟩
  have HB9 := Lib.hid ((hbw3).trans (hb9.mono (by have := (hbw3).size; omega)))
  clear hb9 HKn
  dsimp only
  go_wp2
  go_light
  go_ret
  exact ⟨rfl, by rw [hg]; exact HB9.out⟩
 ·have HW := Lib.hid hWk
  have HC := Lib.hid (mclos_go hR)
  have HS := Lib.hid (mstep_go (mclos_go hR))
  have HRt := Lib.hid hR
  clear hWk hR HX2 HN2
  obtain ⟨ab, hab⟩ : ∃ l, l = a ++ b := ⟨_, rfl⟩
  have HAb := Lib.hid hab
  have hlab : ab.length = a.length + b.length := by rw [hab, List.length_append]
  obtain ⟨v1, wa1, D1, d1, w3, hr1, hr2, hb3, hi3, hd3⟩ := both_runs w2 ca HI2.out.1 cb HI2.out.2.1 (by omega) hab
  have HLab := Lib.hid hlab
  clear hab hlab
  have HR1 := Lib.hid hr1
  have HR2 := Lib.hid hr2
  have HB3 := Lib.hid hb3
  have HI3 := Lib.hid hi3
  clear hr1 hr2 hb3 hi3
  dsimp only
  go_wp2_with (at_builtin; first | refine wpList_append_by rfl _ _ 41 41 rfl _ _ _ _ rfl rfl HR1.out ?_ | refine wpList_append_by rfl _ _ 41 41 rfl _ _ _ _ rfl rfl HR2.out ?_)
  refine (HS.out g lm em A4 k4 w3 (HW.out.below HB3.out) A ca a c (HI2.out.1.below HB3.out) (by omega) hca hc).mono ?_
  rintro e w4 ⟨X, DX, dX, hX, rfl, hb4, hi4, hd4⟩
  have HPX := Lib.hid hX
  have HIX := Lib.hid hi4
  have HB4 := Lib.hid hb4
  clear hX hi4 hb4
  have HJ4 := Lib.hid (HB3.out.trans (HB4.out.mono HB3.out.size))
  dsimp only
  go_wp2_with fail
  refine (HS.out g lm em A4 k4 w4 (HW.out.below HJ4.out) B cb b c (HI2.out.2.1.below HJ4.out) (by omega) hcb hc).mono ?_
  rintro e w5 ⟨Y, DY, dY, hY, rfl, hb5, hi5, hd5⟩
  have HPY := Lib.hid hY
  have HIY := Lib.hid hi5
  have HB5 := Lib.hid hb5
  clear hY hi5 hb5
  have HJ5 := Lib.hid (HJ4.out.trans (HB5.out.mono HJ4.out.size))
  dsimp only
  go_wp2_with fail
  refine (HS.out g lm em A4 k4 w5 (HW.out.below HJ5.out) D1 d1 ab c ((HI3.out.below HB4.out).below HB5.out) (by have := HLab.out; omega) hd3 hc).mono ?_
  rintro e w6 ⟨Z, DZ, dZ, hZ, rfl, hb6, hi6, hd6⟩
  have HPZ := Lib.hid hZ
  have HIZ := Lib.hid hi6
  have HB6 := Lib.hid hb6
  clear hZ hi6 hb6
  have HJ6 := Lib.hid (HJ5.out.trans (HB6.out.mono HJ5.out.size))
  have HlX := Lib.hid (step_lenJ HRt.out HPX.out)
  have HlY := Lib.hid (step_lenJ HRt.out HPY.out)
  have HlZ := Lib.hid (step_lenJ HRt.out HPZ.out)
  obtain ⟨XY, hxy⟩ : ∃ l, l = X ++ Y := ⟨_, rfl⟩
  have HXy := Lib.hid hxy
  have HLxy := Lib.hid (show XY.length = X.length + Y.length by rw [hxy, List.length_append])
  obtain ⟨v6, wa6, D7, d7, w7, hr6, hr7, hb7, hi7, hd7⟩ := both_runs w6 dX ((HIX.out.below HB5.out).below HB6.out) dY (HIY.out.below HB6.out) (by have := HlX.out; have := HlY.out; omega) hxy
  clear hxy
  have HR6 := Lib.hid hr6
  have HR7 := Lib.hid hr7
  have HB7 := Lib.hid hb7
  have HI7 := Lib.hid hi7
  have HJ7 := Lib.hid (HJ6.out.trans (HB7.out.mono HJ6.out.size))
  clear hr6 hr7 hb7 hi7
  dsimp only
  go_wp2_with (at_builtin; first | refine wpList_append_by rfl _ _ 41 41 rfl _ _ _ _ rfl rfl HR6.out ?_ | refine wpList_append_by rfl _ _ 41 41 rfl _ _ _ _ rfl rfl HR7.out ?_)
  refine (HC.out g lm em A4 k4 w7 (HW.out.below HJ7.out) D7 d7 XY HI7.out (by have := HlX.out; have := HlY.out; have := HLxy.out; omega) hd7).mono ?_
  rintro e w8 ⟨T, DT, dT, hT', rfl, hb8, hi8, hd8⟩
  have HPT := Lib.hid hT'
  have HIT := Lib.hid hi8
  have HB8 := Lib.hid hb8
  clear hT' hi8 hb8
  have HJ8 := Lib.hid (HJ7.out.trans (HB8.out.mono HJ7.out.size))
  dsimp only
  go_wp2_with fail
  refine (same_yes DZ DT dZ dT (step_both HPX.out HPY.out (by rw [← HAb.out]; exact HPZ.out) (by rw [← HXy.out]; exact HPT.out)) w8 ((HIZ.out.below HB7.out).below HB8.out) HIT.out (by have := HlZ.out; omega) hd6 hd8).mono ?_
  rintro e w9 ⟨rfl, hb9⟩
  have HB9 := Lib.hid hb9
  clear hb9
  have HJ9 := Lib.hid (HJ8.out.trans (HB9.out.mono HJ8.out.size))
  have HX9 := Lib.hid (((((HIX.out.below HB5.out).below HB6.out).below HB7.out).below HB8.out).below HB9.out)
  dsimp only
  go_wp2_with fail
  refine (HC.out g lm em A4 k4 w9 (HW.out.below HJ9.out) DX dX X HX9.out (by have := HlX.out; omega) hd4).mono ?_
  rintro e wa ⟨T2, D2, d2, hT2, rfl, hba, hia, hda⟩
  have HPT2 := Lib.hid hT2
  have HIT2 := Lib.hid hia
  have HBa := Lib.hid hba
  clear hT2 hia hba
  have HJa := Lib.hid (HJ9.out.trans (HBa.out.mono HJ9.out.size))
  have HE2 := Lib.hid (show T2 = X from by
   obtain ⟨O, _, h2⟩ := HPX.out
   exact clos_again h2 HPT2.out)
  dsimp only
  go_wp2_with fail
  refine (same_yes D2 DX d2 dX HE2.out wa HIT2.out (HX9.out.below HBa.out) (by rw [HE2.out]; have := HlX.out; omega) hda hd4).mono ?_
  rintro e wb ⟨rfl, hbb⟩
  have HBb := Lib.hid hbb
  clear hbb
  have HJb := Lib.hid (HJa.out.trans (HBb.out.mono HJa.out.size))
  dsimp only
  go_wp2_with fail
  refine (mrun_go g lm em N HC.out HS.out HRt.out A4 k4 wb (HW.out.below HJb.out) none 0 [] ⟨by simp, by simp, by simp⟩ (Nat.le_refl _)).mono ?_
  rintro e wc ⟨R0, D0, d0, hR0, rfl, hbc, hic, hdc⟩
  have HPR0 := Lib.hid hR0
  have HIR0 := Lib.hid hic
  have HBc := Lib.hid hbc
  clear hR0 hic hbc
  have HJc := Lib.hid (HJb.out.trans (HBc.out.mono HJb.out.size))
  dsimp only
  go_wp2_with fail
  refine (mstart_go g lm em N HC.out A4 k4 wc (HW.out.below HJc.out)).mono ?_
  rintro e wd ⟨R3, D3, d3, hR3, rfl, hbd, hid, hdd⟩
  have HPR3 := Lib.hid hR3
  have HIR3 := Lib.hid hid
  have HBd := Lib.hid hbd
  clear hR3 hid hbd
  have HJd := Lib.hid (HJc.out.trans (HBd.out.mono HJc.out.size))
  have HE3 := Lib.hid (show R0 = R3 from run_one HPR0.out (.nil HPR3.out))
  dsimp only
  go_wp2_with fail
  refine (same_yes D0 D3 d0 d3 HE3.out wd (HIR0.out.below HBd.out) HIR3.out (by have := runof_len HRt.out HPR0.out; omega) hdc hdd).mono ?_
  rintro e we ⟨rfl, hbe⟩
  have HBe := Lib.hid hbe
  clear hbe
  have HJe := Lib.hid (HJd.out.trans (HBe.out.mono HJd.out.size))
  dsimp only
  obtain ⟨vc, hvc⟩ : ∃ l, l = v ++ [c] := ⟨_, rfl⟩
  have HVc := Lib.hid hvc
  obtain ⟨v8, wa8, D8, d8, wf, hr8, hr9, hbf, hif, hdf⟩ := word_runs we cv (bytes_at HI2.out.2.2 HJe.out) (by omega) hc hvc
  clear hvc
  have HR8 := Lib.hid hr8
  have HR9 := Lib.hid hr9
  have HBf := Lib.hid hbf
  have HIf := Lib.hid hif
  have HJf := Lib.hid (HJe.out.trans (HBf.out.mono HJe.out.size))
  clear hr8 hr9 hbf hif
  go_wp2_with (at_builtin; first | refine wpList_append_by rfl _ _ 30 30 rfl _ _ _ _ rfl rfl HR8.out ?_ | refine wpList_append_by rfl _ _ 30 30 rfl _ _ _ _ rfl rfl HR9.out ?_)
  refine (mrun_go g lm em N HC.out HS.out HRt.out A4 k4 wf (HW.out.below HJf.out) D8 d8 vc HIf.out hdf).mono ?_
  rintro e wg ⟨R5, D5, d5, hR5, rfl, hbg, hig, hdg⟩
  have HPR5 := Lib.hid hR5
  have HIR5 := Lib.hid hig
  have HBg := Lib.hid hbg
  clear hR5 hig hbg
  have HJg := Lib.hid (HJf.out.trans (HBg.out.mono HJf.out.size))
  dsimp only
  go_wp2_with fail
  refine (mrun_go g lm em N HC.out HS.out HRt.out A4 k4 wg (HW.out.below HJg.out) V cv v (bytes_at HI2.out.2.2 HJg.out) hcv).mono ?_
  rintro e wh ⟨L6, D6, d6, hL6, rfl, hbh, hih, hdh⟩
  have HPL6 := Lib.hid hL6
  have HIL6 := Lib.hid hih
  have HBh := Lib.hid hbh
  clear hL6 hih hbh
  have HJh := Lib.hid (HJg.out.trans (HBh.out.mono HJg.out.size))
  dsimp only
  go_wp2_with fail
  refine (HS.out g lm em A4 k4 wh (HW.out.below HJh.out) D6 d6 L6 c HIL6.out (by have := runof_len HRt.out HPL6.out; omega) hdh hc).mono ?_
  rintro e wi ⟨T7, D9, d9, hT7, rfl, hbi, hii, hdi⟩
  have HPT7 := Lib.hid hT7
  have HIT7 := Lib.hid hii
  have HBi := Lib.hid hbi
  clear hT7 hii hbi
  have HJi := Lib.hid (HJh.out.trans (HBi.out.mono HJh.out.size))
  have HE7 := Lib.hid (show R5 = T7 from by
   have h1 := HPR5.out
   rw [HVc.out] at h1
   exact run_one h1 (.snoc HPL6.out HPT7.out))
  dsimp only
  go_wp2_with fail
  refine (same_yes D5 D9 d5 d9 HE7.out wi ((HIR5.out.below HBh.out).below HBi.out) HIT7.out (by have := runof_len HRt.out HPR5.out; omega) hdg hdi).mono ?_
  rintro e wj ⟨rfl, hbj⟩
  have HBj := Lib.hid hbj
  clear hbj
  have hJj := HB2.out.trans ((HJi.out.trans (HBj.out.mono HJi.out.size)).mono (by have := HB2.out.size; omega))
  dsimp only
  have HKn := Lib.hid (knows17_go wj (TabAt.below hJj hw0 hT) (by have := (hJj).size; omega))
  go_wp2_with fail
  refine HKn.out.mono ?_
  rintro e w9 ⟨rfl, hb9⟩
  have HB9 := Lib.hid ((hJj).trans (hb9.mono (by have := (hJj).size; omega)))
  clear hb9 HKn
  dsimp only
  go_wp2
  go_light
  go_ret
  exact ⟨rfl, by rw [hg]; exact HB9.out⟩
end Go.Proofs.YtfekpkelmliejaaGreatDoor
