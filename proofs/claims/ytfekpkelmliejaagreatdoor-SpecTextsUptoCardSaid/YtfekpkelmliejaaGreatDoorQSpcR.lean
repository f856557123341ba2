/- Texts of the claim. -/
import Derived.Test.YtfekpkelmliejaaGreatDoorQSpcN
import Derived.Test.YtfekpkelmliejaaGreatDoorQSpecSame
import Derived.Test.YtfekpkelmliejaaGreatDoorQSpecHead
import Derived.Test.YtfekpkelmliejaaGreatDoorQZ03
import Derived.Test.YtfekpkelmliejaaGreatDoorQZ06
namespace Go.Proofs.YtfekpkelmliejaaGreatDoor
open Go.RowKit Go.Maps
set_option linter.unusedSimpArgs false
set_option linter.unusedVariables false
set_option maxRecDepth 100000
set_option maxHeartbeats 8000000
def okAt (rs : List RuleS) (j : Nat) : Bool := match rs[j]? with
 | some r => nameB r.name && (!called (rs.take j) r.name && rightT r.body)
 | none => true
def rightR (rs : List RuleS) : Bool := decide (rs.length ≤ 64) && (List.range rs.length).all (okAt rs)
theorem okAt_some {rs : List RuleS} {k : Nat} {r : RuleS} (h : rs[k]? = some r) : okAt rs k = (nameB r.name && (!called (rs.take k) r.name && rightT r.body)) := by unfold okAt; rw [h]
theorem rightR_no {rs : List RuleS} {k : Nat} (hk : k < rs.length) (h : okAt rs k = false) : rightR rs = false := by
 unfold rightR
 rw [Bool.and_eq_false_iff]
 exact .inr (List.all_eq_false.2 ⟨k, List.mem_range.2 hk, by rw [h]; decide⟩)
theorem rightR_all {rs : List RuleS} (h : ∀ j, j < rs.length → okAt rs j = true) : rightR rs = decide (rs.length ≤ 64) := by
 unfold rightR
 rw [show (List.range rs.length).all (okAt rs) = true from List.all_eq_true.2 (fun j hj => h j (List.mem_range.1 hj)), Bool.and_true]
theorem rightR_get {rs : List RuleS} (h : rightR rs = true) {k : Nat} {r : RuleS} (hr : rs[k]? = some r) : nameB r.name = true ∧ called (rs.take k) r.name = false ∧ rightT r.body = true := by
 unfold rightR at h
 rw [Bool.and_eq_true, List.all_eq_true] at h
 have := h.2 k (List.mem_range.2 (List.getElem?_eq_some_iff.1 hr).1)
 rw [okAt_some hr, Bool.and_eq_true, Bool.and_eq_true] at this
 exact ⟨this.1, by simpa using this.2.1, this.2.2⟩
theorem rightR_few {rs : List RuleS} (h : rightR rs = true) : rs.length ≤ 64 := by
 unfold rightR at h
 rw [Bool.and_eq_true] at h
 exact of_decide_eq_true h.1
structure Fit (rs : List RuleS) : Prop where
 bytes : ∀ r ∈ rs, ∀ c ∈ r.name, c < 256
 len : ∀ r ∈ rs, r.name.length ≤ 2000000
 size : ∀ r ∈ rs, r.body.size ≤ 2000000
 many : rs.length ≤ 2000000
theorem RulesAt.nine {w : World} {P : Nat → Prop} {rs : List RuleS} {A : Option Addr} (h : RulesAt w P rs A) {k : Nat} {r : RuleS} (hr : rs[k]? = some r) :
  ∃ b o B cap, A = some ⟨b, o, none⟩ ∧ P b ∧ b < w.heap.size ∧ r.body.kids.len ≤ cap ∧ (w.cell? ⟨b, o + k * 9, none⟩ = some (.string (strOf r.name)) ∧ w.cell? ⟨b, o + k * 9 + 1, none⟩ = some (.int .i64 r.body.kind) ∧
   w.cell? ⟨b, o + k * 9 + 2, none⟩ = some (.int .u64 (word r.body.set.testBit 0)) ∧ w.cell? ⟨b, o + k * 9 + 3, none⟩ = some (.int .u64 (word r.body.set.testBit 1)) ∧ w.cell? ⟨b, o + k * 9 + 4, none⟩ = some (.int .u64 (word r.body.set.testBit 2)) ∧
   w.cell? ⟨b, o + k * 9 + 5, none⟩ = some (.int .u64 (word r.body.set.testBit 3)) ∧ w.cell? ⟨b, o + k * 9 + 6, none⟩ = some (.slice B r.body.kids.len cap) ∧ w.cell? ⟨b, o + k * 9 + 7, none⟩ = some (.int .i64 r.body.lo) ∧ w.cell? ⟨b, o + k * 9 + 8, none⟩ = some (.int .i64 r.body.hi)) ∧ TreesAt w P r.body.kids B := by
 obtain ⟨b, o, B, cap, hA, hb, hc, c, ⟨c0, c1, c2, c3, c4, c5, c6, c7⟩, ht⟩ := h k r hr
 exact ⟨b, o, B, cap, hA, hb, World.block_lt_of_cell? w _ c, hc, ⟨c, c0, c1, c2, c3, c4, c5, c6, c7⟩, ht⟩
theorem Blk.c9r {w : World} {g : Nat} {t : TypeId} {a b c d e f i j k : Value} (h : Blk w g t #[a, b, c, d, e, f, i, j, k]) :
  w.cell? ⟨g, 0, none⟩ = some a ∧ w.cell? ⟨g, 1, none⟩ = some b ∧ w.cell? ⟨g, 2, none⟩ = some c ∧ w.cell? ⟨g, 3, none⟩ = some d ∧ w.cell? ⟨g, 4, none⟩ = some e ∧ w.cell? ⟨g, 5, none⟩ = some f ∧ w.cell? ⟨g, 6, none⟩ = some i ∧ w.cell? ⟨g, 7, none⟩ = some j ∧ w.cell? ⟨g, 8, none⟩ = some k ∧ g < w.heap.size :=
 ⟨h.cell 0, h.cell 1, h.cell 2, h.cell 3, h.cell 4, h.cell 5, h.cell 6, h.cell 7, h.cell 8, h.lt⟩
theorem sright_long (A : Option Addr) (cap : Nat) (rs : List RuleS) (w : World) (hA : RulesAt w (fun b => b < w.heap.size) rs A) (hF : Fit rs) (hl : 64 < rs.length) :
  Calls Tryz.prog 50 #[.slice A rs.length cap] w fun e w' => e = .returned (.bool (rightR rs)) ∧ Below w.heap.size w w' := by
 have HV := Lib.hid (show rightR rs = false by unfold rightR; rw [decide_eq_false (by omega)]; rfl)
 have HB := Lib.hid (Below.refl w.heap.size w)
 have hd : (64 : Int) < (rs.length : Int) := by omega
 clear hA hF
 go_enter Tryz.func50, Tryz.ntmps50
 go_wp2
 go_ret
 exact ⟨by rw [HV.out]; rfl, HB.out⟩
theorem sright_go9 (A : Option Addr) (cap : Nat) (rs : List RuleS) (w : World) (hA : RulesAt w (fun b => b < w.heap.size) rs A) (hF : Fit rs) (hl : rs.length ≤ 64) :
  Calls Tryz.prog 50 #[.slice A rs.length cap] w fun e w' => e = .returned (.bool (rightR rs)) ∧ Below w.heap.size w w' := by
 have HA := Lib.hid hA
 have HF := Lib.hid hF
 have hd : ¬ (64 : Int) < (rs.length : Int) := by omega
 clear hA hF
 go_enter Tryz.func50, Tryz.ntmps50
 have hmm := @run_makeMap Tryz.prog
 go_wp2
 clear hmm
 go_loopw [12] (fun i wr => ∃ k : Nat, i = .int .i64 (k : Int) ∧ k ≤ rs.length ∧ Hid (∀ j, j < k → okAt rs j = true) ∧ Hid (NamesAt wr w.heap.size (rs.take k)) ∧ Hid (Below w.heap.size w wr)) (fun i _ => rs.length - (intOf i).toNat)
 case atStart => exact ⟨0, rfl, Nat.zero_le _, Lib.hid (fun j h => absurd h (Nat.not_lt_zero _)), Lib.hid (NamesAt.new w), Lib.hid ((Below.refl _ _).alloc (Nat.le_refl _) _)⟩
 case round =>
  clear hd
  obtain ⟨k, rfl, hk, HO, HN, HB⟩ := hrel
  by_cases hlt : k < rs.length
  ·obtain ⟨r, hr⟩ : ∃ r, rs[k]? = some r := ⟨_, List.getElem?_eq_getElem hlt⟩
   have hrm := List.mem_of_getElem? hr
   obtain ⟨b, o, B, capb, rfl, _, hbl, _, ⟨c0, c1, c2, c3, c4, c5, c6, c7, c8⟩, ht⟩ := (HA.out.below HB.out).nine hr
   have hdl : (k : Int) < (rs.length : Int) := by omega
   have hb2 : Below wr.heap.size wr (wr.alloc (.cells #[.string (strOf r.name), .int .i64 r.body.kind, .int .u64 (word r.body.set.testBit 0), .int .u64 (word r.body.set.testBit 1), .int .u64 (word r.body.set.testBit 2), .int .u64 (word r.body.set.testBit 3), .slice B r.body.kids.len capb, .int .i64 r.body.lo, .int .i64 r.body.hi] 120)) := (Below.refl _ _).alloc (Nat.le_refl _) _
   have HX := Lib.hid (Blk.new wr 120 #[.string (strOf r.name), .int .i64 r.body.kind, .int .u64 (word r.body.set.testBit 0), .int .u64 (word r.body.set.testBit 1), .int .u64 (word r.body.set.testBit 2), .int .u64 (word r.body.set.testBit 3), .slice B r.body.kids.len capb, .int .i64 r.body.lo, .int .i64 r.body.hi])
   have HB2 := Lib.hid (HB.out.trans (hb2.mono HB.out.size))
   have HN2 := Lib.hid (HN.out.below hb2 HN.out.lt)
   have HT2 := Lib.hid ((ht.below hb2).weak (Q := fun b => b < (wr.alloc (.cells #[.string (strOf r.name), .int .i64 r.body.kind, .int .u64 (word r.body.set.testBit 0), .int .u64 (word r.body.set.testBit 1), .int .u64 (word r.body.set.testBit 2), .int .u64 (word r.body.set.testBit 3), .slice B r.body.kids.len capb, .int .i64 r.body.lo, .int .i64 r.body.hi] 120)).heap.size) (fun b _ h => h))
   have HC := Lib.hid (fun W => sname_go r.name (HF.out.bytes r hrm) (by have := HF.out.len r hrm; omega) W)
   have hlook := HN2.out.look (HF.out.bytes r hrm) (by have := HF.out.len r hrm; omega)
   have HOk := Lib.hid (okAt_some hr)
   have HR := Lib.hid hr
   have HSz := Lib.hid (HF.out.size r hrm)
   have HNb := Lib.hid (HF.out.bytes r hrm)
   have HNl := Lib.hid (HF.out.len r hrm)
   clear hr hrm ht hb2 HB HN
   go_upto_region 7 with fail
   clear c0 c1 c2 c3 c4 c5 c6 c7 c8
   generalize hg : wr.heap.size = gx at *
   generalize wr.alloc (.cells #[.string (strOf r.name), .int .i64 r.body.kind, .int .u64 (word r.body.set.testBit 0), .int .u64 (word r.body.set.testBit 1), .int .u64 (word r.body.set.testBit 2), .int .u64 (word r.body.set.testBit 3), .slice B r.body.kids.len capb, .int .i64 r.body.lo, .int .i64 r.body.hi] 120) = w2 at *
   obtain ⟨n0, n1, n2, n3, n4, n5, n6, n7, n8, hln⟩ := (HX.out).c9r
   generalize nameB r.name = nbv at *
   generalize called (rs.take k) r.name = cal at *
   go_wp2_with fail
   refine (HC.out w2).mono ?_
   rintro e w3 ⟨rfl, rfl⟩
   clear HC
   cases nbv with
   | false =>
    have HV := Lib.hid (rightR_no hlt (by rw [HOk.out]; rfl))
    dsimp only
    go_wp2
    go_light
    go_ret
    exact ⟨by rw [HV.out]; rfl, HB2.out⟩
   | true =>
    cases cal with
    | true =>
     have HV := Lib.hid (rightR_no hlt (by rw [HOk.out]; rfl))
     dsimp only
     go_wp2
     go_light
     go_ret
     exact ⟨by rw [HV.out]; rfl, HB2.out⟩
    | false =>
     have HRt := Lib.hid (tright_any r.body B capb w2 (by have := HSz.out; omega) HT2.out)
     generalize hrt : rightT r.body = rt at *
     have HRT := Lib.hid hrt
     clear hrt
     unfold ndV at HRt
     dsimp only
     go_wp2_with fail
     refine HRt.out.mono ?_
     rintro e w3 ⟨rfl, hb3⟩
     have HB3 := Lib.hid (HB2.out.trans (hb3.mono HB2.out.size))
     have HN3 := Lib.hid (HN2.out.below hb3 HN2.out.lt)
     have HX3 := Lib.hid (HX.out.below hb3 HX.out.lt)
     clear hb3 HRt hlook
     clear n0 n1 n2 n3 n4 n5 n6 n7 n8 hln
     cases rt with
     | false =>
      have HV := Lib.hid (rightR_no hlt (by rw [HOk.out]; rfl))
      dsimp only
      go_wp2
      go_light
      go_ret
      exact ⟨by rw [HV.out]; rfl, HB3.out⟩
     | true =>
      have HV := Lib.hid (show okAt rs k = true by rw [HOk.out]; rfl)
      obtain ⟨hn0, D, hown3, hmD, hatD⟩ := HN3.out
      have HD := Lib.hid (show _ ∧ _ ∧ _ from ⟨hn0, hmD, hatD⟩)
      have HO3 := Lib.hid hown3
      have hkey := WideMaps.keyOf_string_mk (P := Tryz.prog) Tryz.underlying9 (s := strOf r.name) (by rw [strOf_size]; exact Nat.le_trans HNl.out (by decide))
      have h63 : (rs.take k).length < maxLen := Nat.lt_of_le_of_lt (show (rs.take k).length ≤ 64 by rw [List.length_take]; omega) (by decide)
      clear hn0 hmD hatD hown3
      obtain ⟨n0, n1, n2, n3, n4, n5, n6, n7, n8, hln⟩ := (HX3.out).c9r
      dsimp only
      go_wp2_with (at_mapUpdate; refine wpList_mapUpdate_own _ rfl _ _ _ 122 rfl 9 4 (string_keyed Tryz.underlying9) Tryz.underlying122 (plainElem Tryz.prog 4) w.heap.size (rs.take k).length D rfl HO3.out h63 _ _ _ rfl rfl hkey _ [] (plainElem_bool Tryz.underlying4 true) ?_; intro W6 hown6 hgrow6)
      rw [strOf_list] at hown6
      have hN6 : NamesAt W6 w.heap.size (rs.take k ++ [⟨r.name, r.body⟩]) := NamesAt.put (w := w3) HD.out.1 HD.out.2.1 HD.out.2.2 HNb.out hown6
      have HN6 := Lib.hid (show NamesAt W6 w.heap.size (rs.take (k + 1)) by rw [List.take_add_one, HR.out]; exact hN6)
      have HB6 := Lib.hid (HB3.out.grown hgrow6 HB3.out.size (fun j e => by cases e; exact Nat.le_refl _))
      clear n0 n1 n2 n3 n4 n5 n6 n7 n8 hln
      clear hN6 hown6 hgrow6 hkey h63 HO3 HN3 HX3 HD
      go_light
      go_roundw
      case rel => exact ⟨k + 1, by go_num, by omega, Lib.hid (fun j hj => by
       rcases Nat.lt_or_ge j k with h | h
       ·exact HO.out j h
       ·obtain rfl : j = k := by omega
        exact HV.out), HN6, HB6⟩
      case measure => simp [intOf]; omega
  ·have hdl : ¬ (k : Int) < (rs.length : Int) := by omega
   obtain rfl : k = rs.length := by omega
   have HV := Lib.hid (show rightR rs = true by rw [rightR_all HO.out, decide_eq_true hl])
   go_wp2
   go_ret
   exact ⟨by rw [HV.out]; rfl, HB.out⟩
theorem sspright_go (A : Option Addr) (cap : Nat) (rs : List RuleS) (w : World) (hA : RulesAt w (fun b => b < w.heap.size) rs A) (hF : Fit rs) : Calls Tryz.prog 50 #[.slice A rs.length cap] w fun e w' => e = .returned (.bool (rightR rs)) ∧ Below w.heap.size w w' := by
 rcases Nat.lt_or_ge 64 rs.length with h | h
 ·exact sright_long A cap rs w hA hF h
 ·exact sright_go9 A cap rs w hA hF h
theorem RulesAt.take {w : World} {P : Nat → Prop} {rs : List RuleS} {A : Option Addr} (h : RulesAt w P rs A) (k : Nat) : RulesAt w P (rs.take k) A := fun i r hr => h i r (by
 rw [List.getElem?_take] at hr
 split at hr
 ·exact hr
 ·cases hr)
theorem rright9_go (A : Option Addr) (cap : Nat) (rs : List RuleS) (w : World) (hA : RulesAt w (fun b => b < w.heap.size) rs A) (hF : Fit rs) (hcap : rs.length ≤ cap) :
  Calls Tryz.prog 51 #[.slice A rs.length cap] w fun e w' => e = .returned (.bool (rightR rs)) ∧ Below w.heap.size w w' := by
 have HA := Lib.hid hA
 have HF := Lib.hid hF
 have hmany := hF.many
 clear hA hF
 go_enter Tryz.func51, Tryz.ntmps51
 go_wp2
 go_loopw [3] (fun i wr => ∃ k : Nat, i = .int .i64 (k : Int) ∧ k ≤ rs.length ∧ Hid (∀ j, j < k → okAt rs j = true) ∧ Hid (Below w.heap.size w wr)) (fun i _ => rs.length - (intOf i).toNat)
 case atStart => exact ⟨0, rfl, Nat.zero_le _, Lib.hid (fun j h => absurd h (Nat.not_lt_zero _)), Lib.hid (Below.refl _ _)⟩
 case round =>
  obtain ⟨k, rfl, hk, HO, HB⟩ := hrel
  by_cases hlt : k < rs.length
  ·obtain ⟨r, hr⟩ : ∃ r, rs[k]? = some r := ⟨_, List.getElem?_eq_getElem hlt⟩
   have hrm := List.mem_of_getElem? hr
   have hA2 := HA.out.below HB.out
   obtain ⟨b, o, B, capb, rfl, _, hbl, _, ⟨c0, c1, c2, c3, c4, c5, c6, c7, c8⟩, ht⟩ := hA2.nine hr
   have hdl : (k : Int) < (rs.length : Int) := by omega
   have hkc : (k : Int) ≤ (cap : Int) := by omega
   have HC := Lib.hid (fun W => rname_go r.name (HF.out.bytes r hrm) (by have := HF.out.len r hrm; omega) W)
   have htl : (rs.take k).length = k := by rw [List.length_take]; omega
   have HH := Lib.hid (rhas_go (some ⟨b, o, none⟩) cap (rs.take k) r.name _ wr.drew ((hA2.take k).keep (fun _ _ _ _ => rfl) (fun _ h _ => h)) (by have := HF.out.many; omega) (fun q hq => HF.out.bytes q (List.mem_of_mem_take hq)) (HF.out.bytes r hrm))
   rw [htl] at HH
   have HRt := Lib.hid (rright_any r.body _ B capb wr.drew (by have := HF.out.size r hrm; omega) (TreesAt.keep (w := wr) (w' := wr.drew) (P := fun b => b < w.heap.size) (Q := fun b => b < w.heap.size) (fun _ _ _ _ => rfl) (fun _ h _ => h) ht))
   have HOk := Lib.hid (okAt_some hr)
   unfold ndV at HRt
   clear hr hrm ht hA2 htl
   generalize nameB r.name = nbv at *
   generalize called (rs.take k) r.name = cal at *
   generalize rightT r.body = rt at *
   go_upto_region 4 with fail
   refine wp_region_held_drew (S := fun w' => ∀ b' o', b' = b → w'.cell? ⟨b', o', none⟩ = wr.cell? ⟨b', o', none⟩) (by kernel_rfl) (KeepP.start (fun b' => b' = b) wr) (fun hHeld => ?_)
   have hs := KeepP.start (fun b' => b' = b) wr
   unfold KeepP at hs
   refine wpAnyH_take (i := 0) (oi := _) (v := ?_) rfl (by kernel_rfl) (by kernel_rfl) (by kernel_rfl) (fun _ _ _ h => h) (Or.inl ⟨by kernel_rfl, ?_⟩) (by assumption) ?_
   rotate_left
   ·intro w hSw
    try dsimp only at hSw
    go_simp
    try (with_reducible rfl)
   try simp only [Act.put, List.getElem_toArray, List.getElem_cons_zero, List.getElem_cons_succ, List.setIfInBounds_toArray, List.set_cons_zero, List.set_cons_succ]
   refine wpAnyH_take (i := 1) (oi := _) (v := ?_) rfl (by kernel_rfl) (by kernel_rfl) (by kernel_rfl) (fun _ _ _ h => h) (Or.inl ⟨by kernel_rfl, ?_⟩) (by assumption) ?_
   rotate_left
   ·intro w hSw
    try dsimp only at hSw
    go_simp
    try (with_reducible rfl)
   try simp only [Act.put, List.getElem_toArray, List.getElem_cons_zero, List.getElem_cons_succ, List.setIfInBounds_toArray, List.set_cons_zero, List.set_cons_succ]
   refine wpAnyH_take (i := 2) (oi := _) (v := ?_) rfl (by kernel_rfl) (by kernel_rfl) (by kernel_rfl) (fun _ _ _ h => h) (Or.inl ⟨by kernel_rfl, ?_⟩) (by assumption) ?_
   rotate_left
   ·intro w hSw
    try dsimp only at hSw
    go_simp
    try (with_reducible rfl)
   try simp only [Act.put, List.getElem_toArray, List.getElem_cons_zero, List.getElem_cons_succ, List.setIfInBounds_toArray, List.set_cons_zero, List.set_cons_succ]
   refine wpAnyH_take (i := 3) (oi := _) (v := ?_) rfl (by kernel_rfl) (by kernel_rfl) (by kernel_rfl) (fun _ _ _ h => h) (Or.inl ⟨by kernel_rfl, ?_⟩) (by assumption) ?_
   rotate_left
   ·intro w hSw
    try dsimp only at hSw
    go_simp
    try (with_reducible rfl)
   try simp only [Act.put, List.getElem_toArray, List.getElem_cons_zero, List.getElem_cons_succ, List.setIfInBounds_toArray, List.set_cons_zero, List.set_cons_succ]
   refine wpAnyH_take (i := 4) (oi := _) (v := ?_) rfl (by kernel_rfl) (by kernel_rfl) (by kernel_rfl) (fun _ _ _ h => h) (Or.inl ⟨by kernel_rfl, ?_⟩) (by assumption) ?_
   rotate_left
   ·intro w hSw
    try dsimp only at hSw
    go_simp
    try (with_reducible rfl)
   try simp only [Act.put, List.getElem_toArray, List.getElem_cons_zero, List.getElem_cons_succ, List.setIfInBounds_toArray, List.set_cons_zero, List.set_cons_succ]
   refine wpAnyH_ready (rs := [5]) (by kernel_rfl) (by simp) ?_
   refine AllReadyH.cons (o := _) rfl (fun K hK => ?_) AllReadyH.nil
   go_simp
   go_at_call 53
   refine (HC.out _).mono ?_
   rintro e w3 ⟨rfl, rfl⟩
   refine hK.out _ _ hs (fun _ => ?_)
   clear hK K HC
   try simp only [Act.put, List.getElem_toArray, List.getElem_cons_zero, List.getElem_cons_succ, List.setIfInBounds_toArray, List.set_cons_zero, List.set_cons_succ]
   refine wpAnyH_take (i := 6) (oi := _) (v := ?_) rfl (by kernel_rfl) (by kernel_rfl) (by kernel_rfl) (fun _ _ _ h => h) (Or.inl ⟨by kernel_rfl, ?_⟩) (by assumption) ?_
   rotate_left
   ·intro w hSw
    try dsimp only at hSw
    go_simp
    try (with_reducible rfl)
   try simp only [Act.put, List.getElem_toArray, List.getElem_cons_zero, List.getElem_cons_succ, List.setIfInBounds_toArray, List.set_cons_zero, List.set_cons_succ]
   refine wpAnyH_take (i := 7) (oi := _) (v := ?_) rfl (by kernel_rfl) (by kernel_rfl) (by kernel_rfl) (fun _ _ _ h => h) (Or.inl ⟨by kernel_rfl, ?_⟩) (by assumption) ?_
   rotate_left
   ·intro w hSw
    try dsimp only at hSw
    go_simp
    try (with_reducible rfl)
   try simp only [Act.put, List.getElem_toArray, List.getElem_cons_zero, List.getElem_cons_succ, List.setIfInBounds_toArray, List.set_cons_zero, List.set_cons_succ]
   cases nbv with
   | false =>
    have HV := Lib.hid (rightR_no hlt (by rw [HOk.out]; rfl))
    refine wpAnyH_take (i := 8) (oi := _) (v := undef) rfl (by kernel_rfl) (by kernel_rfl) (by kernel_rfl) (fun _ _ _ h => h) (Or.inr ⟨by kernel_rfl, rfl⟩) (by assumption) ?_
    refine wpAnyH_take (i := 9) (oi := _) (v := undef) rfl (by kernel_rfl) (by kernel_rfl) (by kernel_rfl) (fun _ _ _ h => h) (Or.inr ⟨by kernel_rfl, rfl⟩) (by assumption) ?_
    refine wpAnyH_take (i := 10) (oi := _) (v := undef) rfl (by kernel_rfl) (by kernel_rfl) (by kernel_rfl) (fun _ _ _ h => h) (Or.inr ⟨by kernel_rfl, rfl⟩) (by assumption) ?_
    refine wpAnyH_take (i := 11) (oi := _) (v := undef) rfl (by kernel_rfl) (by kernel_rfl) (by kernel_rfl) (fun _ _ _ h => h) (Or.inr ⟨by kernel_rfl, rfl⟩) (by assumption) ?_
    refine wpAnyH_take (i := 12) (oi := _) (v := undef) rfl (by kernel_rfl) (by kernel_rfl) (by kernel_rfl) (fun _ _ _ h => h) (Or.inr ⟨by kernel_rfl, rfl⟩) (by assumption) ?_
    refine wpAnyH_take (i := 13) (oi := _) (v := undef) rfl (by kernel_rfl) (by kernel_rfl) (by kernel_rfl) (fun _ _ _ h => h) (Or.inr ⟨by kernel_rfl, rfl⟩) (by assumption) ?_
    refine wpAnyH_take (i := 14) (oi := _) (v := undef) rfl (by kernel_rfl) (by kernel_rfl) (by kernel_rfl) (fun _ _ _ h => h) (Or.inr ⟨by kernel_rfl, rfl⟩) (by assumption) ?_
    refine wpAnyH_take (i := 15) (oi := _) (v := undef) rfl (by kernel_rfl) (by kernel_rfl) (by kernel_rfl) (fun _ _ _ h => h) (Or.inr ⟨by kernel_rfl, rfl⟩) (by assumption) ?_
    refine wpAnyH_ready (rs := [16]) (by kernel_rfl) (by simp) ?_
    refine AllReadyH.cons (o := _) rfl (fun K hK => ?_) AllReadyH.nil
    go_simp
    refine hK.out _ _ hs (fun _ => ?_)
    clear hK K
    try simp only [Act.put, List.getElem_toArray, List.getElem_cons_zero, List.getElem_cons_succ, List.setIfInBounds_toArray, List.set_cons_zero, List.set_cons_succ]
    refine wpAnyH_take (i := 17) (oi := _) (v := ?_) rfl (by kernel_rfl) (by kernel_rfl) (by kernel_rfl) (fun _ _ _ h => h) (Or.inl ⟨by kernel_rfl, ?_⟩) (by assumption) ?_
    rotate_left
    ·intro w hSw
     try dsimp only at hSw
     go_simp
     try (with_reducible rfl)
    try simp only [Act.put, List.getElem_toArray, List.getElem_cons_zero, List.getElem_cons_succ, List.setIfInBounds_toArray, List.set_cons_zero, List.set_cons_succ]
    refine wpAnyH_take (i := 18) (oi := _) (v := ?_) rfl (by kernel_rfl) (by kernel_rfl) (by kernel_rfl) (fun _ _ _ h => h) (Or.inl ⟨by kernel_rfl, ?_⟩) (by assumption) ?_
    rotate_left
    ·intro w hSw
     try dsimp only at hSw
     go_simp
     try (with_reducible rfl)
    try simp only [Act.put, List.getElem_toArray, List.getElem_cons_zero, List.getElem_cons_succ, List.setIfInBounds_toArray, List.set_cons_zero, List.set_cons_succ]
    refine wpAnyH_take (i := 19) (oi := _) (v := undef) rfl (by kernel_rfl) (by kernel_rfl) (by kernel_rfl) (fun _ _ _ h => h) (Or.inr ⟨by kernel_rfl, rfl⟩) (by assumption) ?_
    refine wpAnyH_take (i := 20) (oi := _) (v := undef) rfl (by kernel_rfl) (by kernel_rfl) (by kernel_rfl) (fun _ _ _ h => h) (Or.inr ⟨by kernel_rfl, rfl⟩) (by assumption) ?_
    refine wpAnyH_take (i := 21) (oi := _) (v := undef) rfl (by kernel_rfl) (by kernel_rfl) (by kernel_rfl) (fun _ _ _ h => h) (Or.inr ⟨by kernel_rfl, rfl⟩) (by assumption) ?_
    refine wpAnyH_take (i := 22) (oi := _) (v := undef) rfl (by kernel_rfl) (by kernel_rfl) (by kernel_rfl) (fun _ _ _ h => h) (Or.inr ⟨by kernel_rfl, rfl⟩) (by assumption) ?_
    refine wpAnyH_take (i := 23) (oi := _) (v := undef) rfl (by kernel_rfl) (by kernel_rfl) (by kernel_rfl) (fun _ _ _ h => h) (Or.inr ⟨by kernel_rfl, rfl⟩) (by assumption) ?_
    refine wpAnyH_ready (rs := [24]) (by kernel_rfl) (by simp) ?_
    refine AllReadyH.cons (o := _) rfl (fun K hK => ?_) AllReadyH.nil
    go_simp
    refine hK.out _ _ hs (fun _ => ?_)
    clear hK K
    try simp only [Act.put, List.getElem_toArray, List.getElem_cons_zero, List.getElem_cons_succ, List.setIfInBounds_toArray, List.set_cons_zero, List.set_cons_succ]
    refine wpAnyH_take (i := 25) (oi := _) (v := undef) rfl (by kernel_rfl) (by kernel_rfl) (by kernel_rfl) (fun _ _ _ h => h) (Or.inr ⟨by kernel_rfl, rfl⟩) (by assumption) ?_
    refine wpAnyH_take (i := 26) (oi := _) (v := ?_) rfl (by kernel_rfl) (by kernel_rfl) (by kernel_rfl) (fun _ _ _ h => h) (Or.inl ⟨by kernel_rfl, ?_⟩) (by assumption) ?_
    rotate_left
    ·intro w hSw
     try dsimp only at hSw
     go_simp
     try (with_reducible rfl)
    try simp only [Act.put, List.getElem_toArray, List.getElem_cons_zero, List.getElem_cons_succ, List.setIfInBounds_toArray, List.set_cons_zero, List.set_cons_succ]
    refine wpAnyH_done (by kernel_rfl) ?_ _
    clear c0 c1 c2 c3 c4 c5 c6 c7 c8 hs
    have HB3 := Lib.hid HB.out.drew
    go_wp2
    go_light
    go_ret
    exact ⟨by rw [HV.out]; rfl, HB3.out⟩
   | true =>
    refine wpAnyH_take (i := 8) (oi := _) (v := ?_) rfl (by kernel_rfl) (by kernel_rfl) (by kernel_rfl) (fun _ _ _ h => h) (Or.inl ⟨by kernel_rfl, ?_⟩) (by assumption) ?_
    rotate_left
    ·intro w hSw
     try dsimp only at hSw
     go_simp
     try (with_reducible rfl)
    try simp only [Act.put, List.getElem_toArray, List.getElem_cons_zero, List.getElem_cons_succ, List.setIfInBounds_toArray, List.set_cons_zero, List.set_cons_succ]
    refine wpAnyH_take (i := 9) (oi := _) (v := ?_) rfl (by kernel_rfl) (by kernel_rfl) (by kernel_rfl) (fun _ _ _ h => h) (Or.inl ⟨by kernel_rfl, ?_⟩) (by assumption) ?_
    rotate_left
    ·intro w hSw
     try dsimp only at hSw
     go_simp
     try (with_reducible rfl)
    try simp only [Act.put, List.getElem_toArray, List.getElem_cons_zero, List.getElem_cons_succ, List.setIfInBounds_toArray, List.set_cons_zero, List.set_cons_succ]
    refine wpAnyH_take (i := 10) (oi := _) (v := ?_) rfl (by kernel_rfl) (by kernel_rfl) (by kernel_rfl) (fun _ _ _ h => h) (Or.inl ⟨by kernel_rfl, ?_⟩) (by assumption) ?_
    rotate_left
    ·intro w hSw
     try dsimp only at hSw
     go_simp
     try (with_reducible rfl)
    try simp only [Act.put, List.getElem_toArray, List.getElem_cons_zero, List.getElem_cons_succ, List.setIfInBounds_toArray, List.set_cons_zero, List.set_cons_succ]
    refine wpAnyH_take (i := 11) (oi := _) (v := ?_) rfl (by kernel_rfl) (by kernel_rfl) (by kernel_rfl) (fun _ _ _ h => h) (Or.inl ⟨by kernel_rfl, ?_⟩) (by assumption) ?_
    rotate_left
    ·intro w hSw
     try dsimp only at hSw
     go_simp
     try (with_reducible rfl)
    try simp only [Act.put, List.getElem_toArray, List.getElem_cons_zero, List.getElem_cons_succ, List.setIfInBounds_toArray, List.set_cons_zero, List.set_cons_succ]
    refine wpAnyH_take (i := 12) (oi := _) (v := ?_) rfl (by kernel_rfl) (by kernel_rfl) (by kernel_rfl) (fun _ _ _ h => h) (Or.inl ⟨by kernel_rfl, ?_⟩) (by assumption) ?_
    rotate_left
    ·intro w hSw
     try dsimp only at hSw
     go_simp
     try (with_reducible rfl)
    try simp only [Act.put, List.getElem_toArray, List.getElem_cons_zero, List.getElem_cons_succ, List.setIfInBounds_toArray, List.set_cons_zero, List.set_cons_succ]
    refine wpAnyH_take (i := 13) (oi := _) (v := ?_) rfl (by kernel_rfl) (by kernel_rfl) (by kernel_rfl) (fun _ _ _ h => h) (Or.inl ⟨by kernel_rfl, ?_⟩) (by assumption) ?_
    rotate_left
    ·intro w hSw
     try dsimp only at hSw
     go_simp
     try (with_reducible rfl)
    try simp only [Act.put, List.getElem_toArray, List.getElem_cons_zero, List.getElem_cons_succ, List.setIfInBounds_toArray, List.set_cons_zero, List.set_cons_succ]
    refine wpAnyH_take (i := 14) (oi := _) (v := ?_) rfl (by kernel_rfl) (by kernel_rfl) (by kernel_rfl) (fun _ _ _ h => h) (Or.inl ⟨by kernel_rfl, ?_⟩) (by assumption) ?_
    rotate_left
    ·intro w hSw
     try dsimp only at hSw
     go_simp
     try (with_reducible rfl)
    try simp only [Act.put, List.getElem_toArray, List.getElem_cons_zero, List.getElem_cons_succ, List.setIfInBounds_toArray, List.set_cons_zero, List.set_cons_succ]
    refine wpAnyH_take (i := 15) (oi := _) (v := ?_) rfl (by kernel_rfl) (by kernel_rfl) (by kernel_rfl) (fun _ _ _ h => h) (Or.inl ⟨by kernel_rfl, ?_⟩) (by assumption) ?_
    rotate_left
    ·intro w hSw
     try dsimp only at hSw
     go_simp
     try (with_reducible rfl)
    try simp only [Act.put, List.getElem_toArray, List.getElem_cons_zero, List.getElem_cons_succ, List.setIfInBounds_toArray, List.set_cons_zero, List.set_cons_succ]
    refine wpAnyH_ready (rs := [16]) (by kernel_rfl) (by simp) ?_
    refine AllReadyH.cons (o := _) rfl (fun K hK => ?_) AllReadyH.nil
    go_simp
    go_at_call 92
    refine HH.out.mono ?_
    rintro e w3 ⟨rfl, rfl⟩
    refine hK.out _ _ hs (fun _ => ?_)
    clear hK K HH
    try simp only [Act.put, List.getElem_toArray, List.getElem_cons_zero, List.getElem_cons_succ, List.setIfInBounds_toArray, List.set_cons_zero, List.set_cons_succ]
    refine wpAnyH_take (i := 17) (oi := _) (v := ?_) rfl (by kernel_rfl) (by kernel_rfl) (by kernel_rfl) (fun _ _ _ h => h) (Or.inl ⟨by kernel_rfl, ?_⟩) (by assumption) ?_
    rotate_left
    ·intro w hSw
     try dsimp only at hSw
     go_simp
     try (with_reducible rfl)
    try simp only [Act.put, List.getElem_toArray, List.getElem_cons_zero, List.getElem_cons_succ, List.setIfInBounds_toArray, List.set_cons_zero, List.set_cons_succ]
    refine wpAnyH_take (i := 18) (oi := _) (v := ?_) rfl (by kernel_rfl) (by kernel_rfl) (by kernel_rfl) (fun _ _ _ h => h) (Or.inl ⟨by kernel_rfl, ?_⟩) (by assumption) ?_
    rotate_left
    ·intro w hSw
     try dsimp only at hSw
     go_simp
     try (with_reducible rfl)
    try simp only [Act.put, List.getElem_toArray, List.getElem_cons_zero, List.getElem_cons_succ, List.setIfInBounds_toArray, List.set_cons_zero, List.set_cons_succ]
    cases cal with
    | true =>
     have HV := Lib.hid (rightR_no hlt (by rw [HOk.out]; rfl))
     refine wpAnyH_take (i := 19) (oi := _) (v := undef) rfl (by kernel_rfl) (by kernel_rfl) (by kernel_rfl) (fun _ _ _ h => h) (Or.inr ⟨by kernel_rfl, rfl⟩) (by assumption) ?_
     refine wpAnyH_take (i := 20) (oi := _) (v := undef) rfl (by kernel_rfl) (by kernel_rfl) (by kernel_rfl) (fun _ _ _ h => h) (Or.inr ⟨by kernel_rfl, rfl⟩) (by assumption) ?_
     refine wpAnyH_take (i := 21) (oi := _) (v := undef) rfl (by kernel_rfl) (by kernel_rfl) (by kernel_rfl) (fun _ _ _ h => h) (Or.inr ⟨by kernel_rfl, rfl⟩) (by assumption) ?_
     refine wpAnyH_take (i := 22) (oi := _) (v := undef) rfl (by kernel_rfl) (by kernel_rfl) (by kernel_rfl) (fun _ _ _ h => h) (Or.inr ⟨by kernel_rfl, rfl⟩) (by assumption) ?_
     refine wpAnyH_take (i := 23) (oi := _) (v := undef) rfl (by kernel_rfl) (by kernel_rfl) (by kernel_rfl) (fun _ _ _ h => h) (Or.inr ⟨by kernel_rfl, rfl⟩) (by assumption) ?_
     refine wpAnyH_ready (rs := [24]) (by kernel_rfl) (by simp) ?_
     refine AllReadyH.cons (o := _) rfl (fun K hK => ?_) AllReadyH.nil
     go_simp
     refine hK.out _ _ hs (fun _ => ?_)
     clear hK K
     try simp only [Act.put, List.getElem_toArray, List.getElem_cons_zero, List.getElem_cons_succ, List.setIfInBounds_toArray, List.set_cons_zero, List.set_cons_succ]
     refine wpAnyH_take (i := 25) (oi := _) (v := undef) rfl (by kernel_rfl) (by kernel_rfl) (by kernel_rfl) (fun _ _ _ h => h) (Or.inr ⟨by kernel_rfl, rfl⟩) (by assumption) ?_
     refine wpAnyH_take (i := 26) (oi := _) (v := ?_) rfl (by kernel_rfl) (by kernel_rfl) (by kernel_rfl) (fun _ _ _ h => h) (Or.inl ⟨by kernel_rfl, ?_⟩) (by assumption) ?_
     rotate_left
     ·intro w hSw
      try dsimp only at hSw
      go_simp
      try (with_reducible rfl)
     try simp only [Act.put, List.getElem_toArray, List.getElem_cons_zero, List.getElem_cons_succ, List.setIfInBounds_toArray, List.set_cons_zero, List.set_cons_succ]
     refine wpAnyH_done (by kernel_rfl) ?_ _
     clear c0 c1 c2 c3 c4 c5 c6 c7 c8 hs
     have HB3 := Lib.hid HB.out.drew
     go_wp2
     go_light
     go_ret
     exact ⟨by rw [HV.out]; rfl, HB3.out⟩
    | false =>
     refine wpAnyH_take (i := 19) (oi := _) (v := ?_) rfl (by kernel_rfl) (by kernel_rfl) (by kernel_rfl) (fun _ _ _ h => h) (Or.inl ⟨by kernel_rfl, ?_⟩) (by assumption) ?_
     rotate_left
     ·intro w hSw
      try dsimp only at hSw
      go_simp
      try (with_reducible rfl)
     try simp only [Act.put, List.getElem_toArray, List.getElem_cons_zero, List.getElem_cons_succ, List.setIfInBounds_toArray, List.set_cons_zero, List.set_cons_succ]
     refine wpAnyH_take (i := 20) (oi := _) (v := ?_) rfl (by kernel_rfl) (by kernel_rfl) (by kernel_rfl) (fun _ _ _ h => h) (Or.inl ⟨by kernel_rfl, ?_⟩) (by assumption) ?_
     rotate_left
     ·intro w hSw
      try dsimp only at hSw
      go_simp
      try (with_reducible rfl)
     try simp only [Act.put, List.getElem_toArray, List.getElem_cons_zero, List.getElem_cons_succ, List.setIfInBounds_toArray, List.set_cons_zero, List.set_cons_succ]
     refine wpAnyH_take (i := 21) (oi := _) (v := ?_) rfl (by kernel_rfl) (by kernel_rfl) (by kernel_rfl) (fun _ _ _ h => h) (Or.inl ⟨by kernel_rfl, ?_⟩) (by assumption) ?_
     rotate_left
     ·intro w hSw
      try dsimp only at hSw
      go_simp
      try (with_reducible rfl)
     try simp only [Act.put, List.getElem_toArray, List.getElem_cons_zero, List.getElem_cons_succ, List.setIfInBounds_toArray, List.set_cons_zero, List.set_cons_succ]
     refine wpAnyH_take (i := 22) (oi := _) (v := ?_) rfl (by kernel_rfl) (by kernel_rfl) (by kernel_rfl) (fun _ _ _ h => h) (Or.inl ⟨by kernel_rfl, ?_⟩) (by assumption) ?_
     rotate_left
     ·intro w hSw
      try dsimp only at hSw
      go_simp
      try (with_reducible rfl)
     try simp only [Act.put, List.getElem_toArray, List.getElem_cons_zero, List.getElem_cons_succ, List.setIfInBounds_toArray, List.set_cons_zero, List.set_cons_succ]
     refine wpAnyH_take (i := 23) (oi := _) (v := ?_) rfl (by kernel_rfl) (by kernel_rfl) (by kernel_rfl) (fun _ _ _ h => h) (Or.inl ⟨by kernel_rfl, ?_⟩) (by assumption) ?_
     rotate_left
     ·intro w hSw
      try dsimp only at hSw
      go_simp
      try (with_reducible rfl)
     try simp only [Act.put, List.getElem_toArray, List.getElem_cons_zero, List.getElem_cons_succ, List.setIfInBounds_toArray, List.set_cons_zero, List.set_cons_succ]
     refine wpAnyH_ready (rs := [24]) (by kernel_rfl) (by simp) ?_
     refine AllReadyH.cons (o := _) rfl (fun K hK => ?_) AllReadyH.nil
     go_simp
     go_at_call 15
     refine HRt.out.mono ?_
     rintro e w3 ⟨rfl, hb3⟩
     have hs2 := KeepP.below (P := fun b' => b' = b) hs hb3 (fun b' h => by subst h; exact hbl)
     unfold KeepP at hs2
     refine hK.out _ _ hs2 (fun _ => ?_)
     have HB3 := Lib.hid (HB.out.drew.trans (hb3.mono HB.out.size))
     clear hK K HRt hb3 hs
     try simp only [Act.put, List.getElem_toArray, List.getElem_cons_zero, List.getElem_cons_succ, List.setIfInBounds_toArray, List.set_cons_zero, List.set_cons_succ]
     refine wpAnyH_take (i := 25) (oi := _) (v := ?_) rfl (by kernel_rfl) (by kernel_rfl) (by kernel_rfl) (fun _ _ _ h => h) (Or.inl ⟨by kernel_rfl, ?_⟩) (by assumption) ?_
     rotate_left
     ·intro w hSw
      try dsimp only at hSw
      go_simp
      try (with_reducible rfl)
     try simp only [Act.put, List.getElem_toArray, List.getElem_cons_zero, List.getElem_cons_succ, List.setIfInBounds_toArray, List.set_cons_zero, List.set_cons_succ]
     refine wpAnyH_take (i := 26) (oi := _) (v := ?_) rfl (by kernel_rfl) (by kernel_rfl) (by kernel_rfl) (fun _ _ _ h => h) (Or.inl ⟨by kernel_rfl, ?_⟩) (by assumption) ?_
     rotate_left
     ·intro w hSw
      try dsimp only at hSw
      go_simp
      try (with_reducible rfl)
     try simp only [Act.put, List.getElem_toArray, List.getElem_cons_zero, List.getElem_cons_succ, List.setIfInBounds_toArray, List.set_cons_zero, List.set_cons_succ]
     refine wpAnyH_done (by kernel_rfl) ?_ _
     clear c0 c1 c2 c3 c4 c5 c6 c7 c8 hs2
     cases rt with
     | false =>
      have HV := Lib.hid (rightR_no hlt (by rw [HOk.out]; rfl))
      go_wp2
      go_light
      go_ret
      exact ⟨by rw [HV.out]; rfl, HB3.out⟩
     | true =>
      have HV := Lib.hid (show okAt rs k = true by rw [HOk.out]; rfl)
      go_wp2
      go_light
      go_roundw
      case rel => exact ⟨k + 1, by go_num, by omega, Lib.hid (fun j hj => by
       rcases Nat.lt_or_ge j k with h | h
       ·exact HO.out j h
       ·obtain rfl : j = k := by omega
        exact HV.out), HB3⟩
      case measure => simp [intOf]; omega
  ·have hdl : ¬ (k : Int) < (rs.length : Int) := by omega
   obtain rfl : k = rs.length := by omega
   have HV := Lib.hid (rightR_all HO.out)
   go_wp2
   go_ret
   exact ⟨by rw [HV.out]; simp <;> omega, HB.out⟩
end Go.Proofs.YtfekpkelmliejaaGreatDoor
