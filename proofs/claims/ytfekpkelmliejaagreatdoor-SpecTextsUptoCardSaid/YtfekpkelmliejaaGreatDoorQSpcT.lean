/- Texts of the claim. -/
import Derived.Test.YtfekpkelmliejaaGreatDoorQSpcR
import Derived.Test.YtfekpkelmliejaaGreatDoorQZ06
import Derived.Test.YtfekpkelmliejaaGreatDoorQLstW
namespace Go.Proofs.YtfekpkelmliejaaGreatDoor
open Go.RowKit Go.Maps
set_option linter.unusedSimpArgs false
set_option linter.unusedVariables false
set_option maxRecDepth 100000
set_option maxHeartbeats 8000000
def lineT (name t : List Nat) : List Nat := ((name ++ [58]) ++ t) ++ [10]
def textGo9 : List Nat → List RuleS → Option (List Nat)
 | acc, [] => some acc
 | acc, r :: l => match showT r.body with
  | .ok t => textGo9 (acc ++ lineT r.name t) l
  | .error _ => none
def textR (rs : List RuleS) : Except Int (List Nat) :=
 if rightR rs = false then .error 6
 else match textGo9 [] rs with
  | some s => if 65536 < s.length then .error 4 else .ok s
  | none => .error 4
theorem textGo9_app : ∀ (l m : List RuleS) (a : List Nat), textGo9 a (l ++ m) = (textGo9 a l).bind fun s => textGo9 s m
 | [], m, a => rfl
 | r :: l, m, a => by
  simp only [List.cons_append, textGo9]
  cases showT r.body with
  | ok t => exact textGo9_app l m _
  | error e => rfl
theorem textGo9_take {rs : List RuleS} {k : Nat} {r : RuleS} {acc : List Nat} (h : rs[k]? = some r) (ha : textGo9 [] (rs.take k) = some acc) : textGo9 [] (rs.take (k + 1)) = match showT r.body with
  | .ok t => some (acc ++ lineT r.name t)
  | .error _ => none := by
 rw [List.take_add_one, h]
 show textGo9 [] (rs.take k ++ [r]) = _
 rw [textGo9_app, ha]
 show textGo9 acc [r] = _
 unfold textGo9
 cases showT r.body <;> rfl
theorem textGo9_none {rs : List RuleS} {k : Nat} (h : textGo9 [] (rs.take k) = none) : textGo9 [] rs = none := by
 conv => lhs; rw [← List.take_append_drop k rs]
 rw [textGo9_app, h]
 rfl
theorem textGo9_long : ∀ (l : List RuleS) (a s : List Nat), textGo9 a l = some s → a.length ≤ s.length
 | [], a, s, h => by
  have : a = s := Option.some.inj h
  rw [this]
  exact Nat.le_refl _
 | r :: l, a, s, h => by
  unfold textGo9 at h
  cases hs : showT r.body with
  | ok t =>
   rw [hs] at h
   have := textGo9_long l _ s h
   rw [List.length_append] at this
   omega
  | error e => rw [hs] at h; cases h
theorem textR_wrong {rs : List RuleS} (h : rightR rs = false) : textR rs = .error 6 := by unfold textR; rw [if_pos h]
theorem textR_none {rs : List RuleS} (h : rightR rs = true) (hn : textGo9 [] rs = none) : textR rs = .error 4 := by unfold textR; rw [if_neg (by rw [h]; decide), hn]
theorem textR_some {rs : List RuleS} {s : List Nat} (h : rightR rs = true) (hn : textGo9 [] rs = some s) : textR rs = if 65536 < s.length then .error 4 else .ok s := by unfold textR; rw [if_neg (by rw [h]; decide), hn]
theorem textR_cut {rs : List RuleS} {k : Nat} {acc : List Nat} (h : rightR rs = true) (ha : textGo9 [] (rs.take k) = some acc) (hl : 65536 < acc.length) : textR rs = .error 4 := by
 cases hg : textGo9 [] rs with
 | none => exact textR_none h hg
 | some s =>
  rw [textR_some h hg, if_pos]
  have hg2 := hg
  rw [← List.take_append_drop k rs, textGo9_app, ha] at hg2
  have := textGo9_long _ _ _ hg2
  omega
theorem nameB_le {s : List Nat} (h : nameB s = true) : s.length ≤ 32 := by
 unfold nameB at h
 rw [Bool.and_eq_true, Bool.and_eq_true] at h
 exact of_decide_eq_true h.2.1
theorem showT_bytes {x : Nd} {t : List Nat} (h : showT x = .ok t) : (∀ c ∈ t, c < 256) ∧ t.length ≤ 65536 := by
 unfold showT at h
 cases hl : lexsS x with
 | error k => rw [hl] at h; cases h
 | ok L =>
  rw [hl] at h
  dsimp only at h
  split at h
  ·cases h
  ·rename_i hlen
   obtain ⟨h1, _⟩ := lexsS_form hl
   have : joinS L = t := by injection h
   subst this
   exact ⟨joinS_bytes (fun k x hx => List.all_eq_true.1 h1 x (List.mem_of_getElem? hx)), by omega⟩
theorem showT_bad {x : Nd} {k : Int} (h : showT x = .error k) : k ≠ 0 := by
 unfold showT at h
 cases hl : lexsS x with
 | error e =>
  rw [hl] at h
  have : e = k := by injection h
  subst this
  exact lexsS_kind hl
 | ok L =>
  rw [hl] at h
  dsimp only at h
  split at h
  ·cases h; decide
  ·cases h
theorem append_own_str (w : World) (base : Nat) (v : Value) (acc : List Nat) (hown : w.ownsRow base 5 1 v acc.length (acc.map (fun n : Nat => Value.int .u8 (n : Int)))) {bs : List Nat} (h256 : ∀ c ∈ bs, c < 256) (hs : acc.length + bs.length ≤ 100000000000) (hbase : base ≤ w.heap.size) :
  ∃ v' w', (Builtin.append_ #[30, 9] 30 #[v, .string (strOf bs)]).run Tryz.prog w = .ok v' w' ∧ w'.ownsRow base 5 1 v' (acc ++ bs).length ((acc ++ bs).map (fun n : Nat => Value.int .u8 (n : Int))) ∧ w.grownBy w' v.ownBlock := by
 obtain ⟨i0, hi, hz0, hz1, hz2⟩ := info_parts byte_info
 have h63 : acc.length + (strOf bs).size ≤ maxLen := by rw [strOf_size]; exact Nat.le_trans hs (by decide)
 obtain ⟨v', w', h1, h2, h3, _⟩ := Lib.run_append_own_string (P := Tryz.prog) w base 30 9 30 5 i0 Tryz.underlying30 Tryz.underlying9 hi hz0 hz1 hz2 v acc.length _ hown (strOf bs) h63 (by rw [strOf_size]; omega) hbase
 refine ⟨v', w', h1, ?_, h3⟩
 rw [strOf_size, strCells_of bs h256] at h2
 rw [List.length_append, List.map_append]
 exact h2
theorem append_line (w : World) (base : Nat) (v : Value) (acc : List Nat) (hown : w.ownsRow base 5 1 v acc.length (acc.map (fun n : Nat => Value.int .u8 (n : Int)))) {name bs : List Nat} (hn : ∀ c ∈ name, c < 256) (hb : ∀ c ∈ bs, c < 256) (hs : acc.length + name.length + bs.length ≤ 10000000000) (hbase : base ≤ w.heap.size) :
  ∃ v1 w1 v2 w2 v3 w3 v4 w4, (Builtin.append_ #[30, 9] 30 #[v, .string (strOf name)]).run Tryz.prog w = .ok v1 w1 ∧
   (Builtin.append_ #[30, 30] 30 #[v1, .slice (some ⟨w1.heap.size, 0, none⟩) 1 1]).run Tryz.prog (w1.alloc (.cells #[.int .u8 58] 5)) = .ok v2 w2 ∧
   (Builtin.append_ #[30, 9] 30 #[v2, .string (strOf bs)]).run Tryz.prog w2 = .ok v3 w3 ∧
   (Builtin.append_ #[30, 30] 30 #[v3, .slice (some ⟨w3.heap.size, 0, none⟩) 1 1]).run Tryz.prog (w3.alloc (.cells #[.int .u8 10] 5)) = .ok v4 w4 ∧
   w4.ownsRow base 5 1 v4 (acc ++ lineT name bs).length ((acc ++ lineT name bs).map (fun n : Nat => Value.int .u8 (n : Int))) ∧ ∀ (B : Nat) (a : World), Below B a w → B ≤ base → Below B a w4 := by
 obtain ⟨v1, w1, r1, o1, g1⟩ := append_own_str w base v acc hown hn (by omega) hbase
 have k1 : base ≤ w1.heap.size := Nat.le_trans hbase g1.size
 have b1 := bytes_new w1 w1.heap.size [58] #[.int .u8 58] (0, 0) rfl rfl (by decide) (by decide)
 have a1 : (w1.alloc (.cells #[.int .u8 58] 5)).ownsRow base 5 1 v1 _ _ := o1.alloc _
 have l1 : (acc ++ name).length = acc.length + name.length := List.length_append
 obtain ⟨v2, w2, r2, o2, g2⟩ := append_own_bytes _ base v1 (acc ++ name) a1 1 b1 (by simp; omega) (by simp; omega) 30 30 Tryz.underlying30
 have k2 : base ≤ w2.heap.size := Nat.le_trans k1 (Nat.le_trans (by simp) g2.size)
 obtain ⟨v3, w3, r3, o3, g3⟩ := append_own_str w2 base v2 _ o2 hb (by simp; omega) k2
 have k3 : base ≤ w3.heap.size := Nat.le_trans k2 g3.size
 have b3 := bytes_new w3 w3.heap.size [10] #[.int .u8 10] (0, 0) rfl rfl (by decide) (by decide)
 obtain ⟨v4, w4, r4, o4, g4⟩ := append_own_bytes _ base v3 _ (o3.alloc (.cells #[.int .u8 10] 5)) 1 b3 (by simp; omega) (by simp; omega) 30 30 Tryz.underlying30
 refine ⟨v1, w1, v2, w2, v3, w3, v4, w4, r1, r2, r3, r4, ?_, fun B a hB hle => ?_⟩
 ·have e : acc ++ name ++ [58] ++ bs ++ [10] = acc ++ lineT name bs := by unfold lineT; simp
  rw [e] at o4
  exact o4
 ·have h1 := below_grown hB g1 hown hle (by omega)
  have h2 := below_grown (h1.alloc (by omega) (.cells #[.int .u8 58] 5)) g2 a1 hle (by simp; omega)
  have h3 := below_grown h2 g3 o2 hle (by omega)
  exact below_grown (h3.alloc (by omega) (.cells #[.int .u8 10] 5)) g4 (o3.alloc _) hle (by simp; omega)
theorem stext9_go (A : Option Addr) (cap : Nat) (rs : List RuleS) (w : World) (hA : RulesAt w (fun b => b < w.heap.size) rs A) (hF : Fit rs) (hT : TabAt 1 Lib.deBruijn64tab w) (hw0 : 1 < w.heap.size) : Calls Tryz.prog 48 #[.slice A rs.length cap] w fun e w' => e = .returned (txtV (textR rs)) ∧ Below w.heap.size w w' := by
 have HR := Lib.hid (sspright_go A cap rs w hA hF)
 have HA := Lib.hid hA
 have HF := Lib.hid hF
 have HT := Lib.hid hT
 clear hA hF hT
 cases hr : rightR rs with
 | false =>
  rw [hr] at HR
  have HV := Lib.hid (textR_wrong hr)
  clear hr
  go_enter Tryz.func48, Tryz.ntmps48
  go_wp2_with fail
  refine HR.out.mono ?_
  rintro e w1 ⟨rfl, hb1⟩
  have HB1 := Lib.hid hb1
  clear HR hb1
  dsimp only
  go_wp2
  go_light
  go_ret2
  exact ⟨by rw [HV.out]; rfl, HB1.out⟩
 | true =>
  rw [hr] at HR
  have HRR := Lib.hid hr
  have hl64 := rightR_few hr
  clear hr
  go_enter Tryz.func48, Tryz.ntmps48
  go_wp2_with fail
  refine HR.out.mono ?_
  rintro e w1 ⟨rfl, hb1⟩
  have HB1 := Lib.hid hb1
  clear HR hb1
  dsimp only
  go_wp2
  go_loopw [4, 14] (fun u i wr => ∃ (k : Nat) (acc : List Nat), i = .int .i64 (k : Int) ∧ k ≤ rs.length ∧ acc.length ≤ 65536 + k * 65636 ∧ Hid (textGo9 [] (rs.take k) = some acc) ∧ Hid (wr.ownsRow w1.heap.size 5 1 u acc.length (acc.map (fun n : Nat => Value.int .u8 (n : Int)))) ∧ Hid (Below w1.heap.size w1 wr)) (fun _ i _ => rs.length - (intOf i).toNat)
  case atStart => exact ⟨0, [], rfl, Nat.zero_le _, Nat.zero_le _, Lib.hid rfl, Lib.hid (World.ownsRow_nil _ _ _ _), Lib.hid (Below.refl _ _)⟩
  case round =>
   obtain ⟨k, acc, rfl, hk, hacc, HG, HO, HW⟩ := hrel
   have HB := Lib.hid (show Below w.heap.size w wr from HB1.out.trans (HW.out.mono HB1.out.size))
   obtain ⟨Av, capv, rfl⟩ := own_slice HO.out
   by_cases hlt : k < rs.length
   ·obtain ⟨r, hr⟩ : ∃ r, rs[k]? = some r := ⟨_, List.getElem?_eq_getElem hlt⟩
    have hrm := List.mem_of_getElem? hr
    obtain ⟨b, o, B, capb, rfl, _, hbl, _, ⟨c0, c1, c2, c3, c4, c5, c6, c7, c8⟩, ht⟩ := (HA.out.below HB.out).nine hr
    have hdl : (k : Int) < (rs.length : Int) := by omega
    have hb2 : Below wr.heap.size wr (wr.alloc (.cells #[.string (strOf r.name), .int .i64 r.body.kind, .int .u64 (word r.body.set.testBit 0), .int .u64 (word r.body.set.testBit 1), .int .u64 (word r.body.set.testBit 2), .int .u64 (word r.body.set.testBit 3), .slice B r.body.kids.len capb, .int .i64 r.body.lo, .int .i64 r.body.hi] 120)) := (Below.refl _ _).alloc (Nat.le_refl _) _
    have HX := Lib.hid (Blk.new wr 120 #[.string (strOf r.name), .int .i64 r.body.kind, .int .u64 (word r.body.set.testBit 0), .int .u64 (word r.body.set.testBit 1), .int .u64 (word r.body.set.testBit 2), .int .u64 (word r.body.set.testBit 3), .slice B r.body.kids.len capb, .int .i64 r.body.lo, .int .i64 r.body.hi])
    have HW2 := Lib.hid (HW.out.trans (hb2.mono HW.out.size))
    have HO2 := Lib.hid (HO.out.alloc (.cells #[.string (strOf r.name), .int .i64 r.body.kind, .int .u64 (word r.body.set.testBit 0), .int .u64 (word r.body.set.testBit 1), .int .u64 (word r.body.set.testBit 2), .int .u64 (word r.body.set.testBit 3), .slice B r.body.kids.len capb, .int .i64 r.body.lo, .int .i64 r.body.hi] 120))
    have HC := Lib.hid (stext_go r.body B capb (wr.alloc (.cells #[.string (strOf r.name), .int .i64 r.body.kind, .int .u64 (word r.body.set.testBit 0), .int .u64 (word r.body.set.testBit 1), .int .u64 (word r.body.set.testBit 2), .int .u64 (word r.body.set.testBit 3), .slice B r.body.kids.len capb, .int .i64 r.body.lo, .int .i64 r.body.hi] 120)) (by have := HF.out.size r hrm; omega) ((ht.below hb2).weak (fun b hb hl => hl)) (TabAt.below (HB.out.trans (hb2.mono HB.out.size)) hw0 HT.out) (Nat.lt_of_lt_of_le hw0 (HB.out.trans (hb2.mono HB.out.size)).size))
    have HGT := Lib.hid (textGo9_take hr HG.out)
    have HNb := Lib.hid (HF.out.bytes r hrm)
    have HNl := Lib.hid (rightR_get HRR.out hr)
    have HR3 := Lib.hid hr
    clear hr hrm ht hb2 HO HW HB
    unfold ndV at HC
    go_upto_region 7 with fail
    clear c0 c1 c2 c3 c4 c5 c6 c7 c8
    generalize hg : wr.heap.size = gx at *
    generalize wr.alloc (.cells #[.string (strOf r.name), .int .i64 r.body.kind, .int .u64 (word r.body.set.testBit 0), .int .u64 (word r.body.set.testBit 1), .int .u64 (word r.body.set.testBit 2), .int .u64 (word r.body.set.testBit 3), .slice B r.body.kids.len capb, .int .i64 r.body.lo, .int .i64 r.body.hi] 120) = w2 at *
    obtain ⟨n0, n1, n2, n3, n4, n5, n6, n7, n8, hln⟩ := (HX.out).c9r
    cases hst : showT r.body with
    | error q =>
     rw [hst] at HC HGT
     have hq := showT_bad hst
     have hq2 : (q != 0) = true := by simpa using hq
     have HV := Lib.hid (textR_none HRR.out (textGo9_none (k := k + 1) HGT.out))
     clear hst hq
     unfold txtV at HC
     go_wp2_with fail
     refine HC.out.mono ?_
     rintro e w3 ⟨rfl, hb3⟩
     have HB3 := Lib.hid (HB1.out.trans ((HW2.out.trans (hb3.mono HW2.out.size)).mono HB1.out.size))
     clear n0 n1 n2 n3 n4 n5 n6 n7 n8 hln
     clear hb3 HC
     dsimp only
     go_wp2
     go_light
     go_ret2
     exact ⟨by rw [HV.out]; rfl, HB3.out⟩
    | ok t =>
     rw [hst] at HC HGT
     obtain ⟨ht256, htl⟩ := showT_bytes hst
     have H256 := Lib.hid ht256
     clear hst ht256
     unfold txtV at HC
     go_wp2_with fail
     refine HC.out.mono ?_
     rintro e w3 ⟨rfl, hb3⟩
     have HW3 := Lib.hid (HW2.out.trans (hb3.mono HW2.out.size))
     have HO3 := Lib.hid (own_below HO2.out hb3)
     have HX3 := Lib.hid (HX.out.below hb3 HX.out.lt)
     have hts : (strOf t).size = t.length := strOf_size t
     clear n0 n1 n2 n3 n4 n5 n6 n7 n8 hln
     clear hb3 HC HW2 HO2 HX
     have hn32 : r.name.length ≤ 32 := nameB_le HNl.out.1
     have hlen : (acc ++ lineT r.name t).length = acc.length + (r.name.length + t.length + 2) := by unfold lineT; simp; omega
     try dsimp only at HGT
     by_cases hbig : 65536 - (acc.length : Int) < (t.length : Int)
     ·have HV := Lib.hid (textR_cut HRR.out HGT.out (by omega))
      have HB3 := Lib.hid (HB1.out.trans (HW3.out.mono HB1.out.size))
      dsimp only
      go_wp2
      go_light
      go_ret2
      exact ⟨by rw [HV.out]; rfl, HB3.out⟩
     ·obtain ⟨v1, y1, v2, y2, v3, y3, v4, y4, hr1, hr2, hr3, hr4, ho4, hb4⟩ := append_line w3 w1.heap.size (.slice (Av) acc.length capv) acc HO3.out HNb.out H256.out (by omega) HW3.out.size
      have HR1 := Lib.hid hr1
      have HR2 := Lib.hid hr2
      have HR3' := Lib.hid hr3
      have HR4 := Lib.hid hr4
      have HO4 := Lib.hid ho4
      have HW4 := Lib.hid (hb4 w1.heap.size w1 HW3.out (Nat.le_refl _))
      clear hr1 hr2 hr3 hr4 ho4 hb4
      obtain ⟨n0, n1, n2, n3, n4, n5, n6, n7, n8, hln⟩ := (HX3.out).c9r
      dsimp only
      go_wp2_with (at_builtin; first | refine wpList_append_by rfl _ _ 30 9 rfl _ _ _ _ rfl rfl HR1.out ?_ | refine wpList_append_by rfl _ _ 30 30 rfl _ _ _ _ rfl rfl HR2.out ?_ | refine wpList_append_by rfl _ _ 30 9 rfl _ _ _ _ rfl rfl HR3'.out ?_ | refine wpList_append_by rfl _ _ 30 30 rfl _ _ _ _ rfl rfl HR4.out ?_)
      refine ⟨⟨k + 1, acc ++ lineT r.name t, by go_num, by omega, by rw [hlen]; omega, HGT, HO4, HW4⟩, ?_⟩
      simp [intOf]
      omega
   ·have hdl : ¬ (k : Int) < (rs.length : Int) := by omega
    obtain rfl : k = rs.length := by omega
    rw [List.take_of_length_le (Nat.le_refl _)] at HG
    have HV := Lib.hid (textR_some HRR.out HG.out)
    have HC5 := Lib.hid (own_text HO.out)
    clear HO HW HG HA HT HF
    by_cases hbig : (65536 : Int) < (acc.length : Int)
    ·rw [if_pos (by omega)] at HV
     go_wp2
     go_light
     go_ret2
     exact ⟨by rw [HV.out]; rfl, HB.out⟩
    ·rw [if_neg (by omega)] at HV
     have hs := HC5.out
     clear HC5
     go_wp2
     go_light
     go_ret2
     exact ⟨by rw [HV.out]; rfl, HB.out⟩
end Go.Proofs.YtfekpkelmliejaaGreatDoor
