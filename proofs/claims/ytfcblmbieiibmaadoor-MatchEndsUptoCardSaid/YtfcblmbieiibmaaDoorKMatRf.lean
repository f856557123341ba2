/- Texts of the claim. -/
import Derived.Deep.Onto
import Derived.Deep.RegionHeld3
import Derived.Test.YtfcblmbieiibmaaDoorKZ03
import Derived.Test.YtfcblmbieiibmaaDoorKMatRj
import Derived.Test.YtfcblmbieiibmaaDoorKMatRp
import Derived.Test.YtfcblmbieiibmaaDoorKMatN
namespace Go.Proofs.YtfcblmbieiibmaaDoor
open Go.RowKit
set_option linter.unusedSimpArgs false
set_option linter.unusedVariables false
set_option maxRecDepth 100000
set_option maxHeartbeats 8000000
def FromC (bs : List Nat) (x : Nd) : Prop := bs.length ≤ 256 → ∀ (B : Option Addr) (cap : Nat) (V : Option Addr) (cv : Nat) (A : Option Addr) (ca : Nat) (L : List Int) (w : World), TreesAt w (fun b => b < w.heap.size) x.kids B → x.kids.len ≤ cap → BytesAt w w.heap.size V bs → bs.length ≤ cv → IntsAt w A L → L.length ≤ ca → PlacesL bs.length L →
 Calls Tryd.prog 30 #[ndV x B cap, .slice V bs.length cv, .slice A L.length ca] w (PlOut (EndsL (x.rel bs) L) w)
structure FrI (w wr : World) (x : Nd) (B : Option Addr) (cap : Nat) : Prop where
 below : Below w.heap.size w wr
 box : Blk wr w.heap.size 28 (ndA x B cap)
theorem FrI.next {w U U' : World} {x : Nd} {B : Option Addr} {cap : Nat} (h : FrI w U x B cap) (hb : Below U.heap.size U U') : FrI w U' x B cap :=
 ⟨h.below.trans (hb.mono h.below.size), h.box.below hb h.box.lt⟩
theorem FrI.push {w U U' : World} {x : Nd} {B : Option Addr} {cap : Nat} (h : FrI w U x B cap) (hb : Below (w.heap.size + 1) U U') : FrI w U' x B cap :=
 ⟨h.below.trans (hb.mono (by omega)), h.box.below hb (by omega)⟩
theorem rowBelow {W W' : World} {base size k : Nat} {e : TypeId} {v : Value} {xs : List Value} (hr : W.ownsRow base e size v k xs) (hb : Below W.heap.size W W') : W'.ownsRow base e size v k xs := by
 refine ⟨hr.1, ?_⟩
 rcases hr.2 with h | ⟨g, cap, cur, rfl, h2, h3, h4⟩
 ·exact .inl h
 ·exact .inr ⟨g, cap, cur, rfl, h2, (hb.block g (Array.getElem?_eq_some_iff.1 h3).1).trans h3, h4⟩
def LiIn (w : World) (A : Option Addr) (c n : Nat) (L : List Int) : Prop := IntsAt w A L ∧ L.length ≤ c ∧ PlacesL n L
theorem LiIn.next {U U' : World} {A : Option Addr} {c n : Nat} {L : List Int} (h : LiIn U A c n L) (hb : Below U.heap.size U U') : LiIn U' A c n L := ⟨h.1.below hb, h.2.1, h.2.2⟩
theorem from_made {w : World} {x : Nd} {B : Option Addr} {cap : Nat} {W0 : World} (h : (w.alloc (.cells (ndA x B cap) 28)).alloc (.cells #[] 3) = W0) :
  FrI w W0 x B cap ∧ W0.ownsRow (w.heap.size + 1) 3 1 (.slice (some ⟨w.heap.size + 1, 0, none⟩) 0 0) ([] : List Int).length (intsC []) := by
 have hb : Below w.heap.size w W0 := by rw [← h]; exact ((Below.refl _ _).alloc (Nat.le_refl _) _).alloc (by simp) _
 have hr := ints_made (w.alloc (.cells (ndA x B cap) 28))
 rw [h, World.size_alloc] at hr
 exact ⟨⟨hb, by rw [← h]; exact (Blk.new w _ _).alloc _⟩, hr⟩
theorem from_empty {x : Nd} {bs : List Nat} (hk : x.kind = 2) : FromC bs x := by
 have HE := Lib.hid (show x.rel bs = idR from by show saysK x.kind x.set x.lo x.hi bs (x.kids.rels bs) = _; rw [hk]; simp [saysK])
 intro hbl B cap V cv A ca L w ht hcap hV hcv hA hca hP
 have HBl := Lib.hid hbl
 have HK := Lib.hid hk
 obtain ⟨W0, hW0⟩ : ∃ W0, (w.alloc (.cells (ndA x B cap) 28)).alloc (.cells #[] 3) = W0 := ⟨_, rfl⟩
 obtain ⟨hF, hR⟩ := from_made hW0
 have HF := Lib.hid hF
 have HT := Lib.hid ht
 have HVb := Lib.hid hV
 have HL := Lib.hid (show LiIn w A ca bs.length L from ⟨hA, hca, hP⟩)
 have HR := Lib.hid hR
 have HCap := Lib.hid hcap
 have HCv := Lib.hid hcv
 unfold ndA at hW0
 unfold ndV
 rw [hk] at hW0 ⊢
 obtain ⟨x0, x1, x2, x3, x4, x5, x6, x7⟩ : _ ∧ _ ∧ _ ∧ _ ∧ _ ∧ _ ∧ _ ∧ _ := ⟨(HF.out.box).cell 0, (HF.out.box).cell 1, (HF.out.box).cell 2, (HF.out.box).cell 3, (HF.out.box).cell 4, (HF.out.box).cell 5, (HF.out.box).cell 6, (HF.out.box).cell 7⟩
 simp only [List.getElem?_toArray, List.getElem?_cons_zero, List.getElem?_cons_succ, ndA] at x0 x1 x2 x3 x4 x5 x6 x7
 rw [HK.out] at x0
 have lx := (HF.out.box).lt
 clear ht hV hA hca hP hF hR hk hcap hcv hbl
 go_enter Tryd.func30, Tryd.ntmps30
 go_wp2
 go_light
 go_ret
 exact ⟨L, A, ca, by rw [HE.out]; exact ends_id HL.out.2.2, rfl, HF.out.below, HL.out.1.below HF.out.below, HL.out.2.1⟩
theorem from_nothing {x : Nd} {bs : List Nat} (hk : x.kind = 1) : FromC bs x := by
 have HE := Lib.hid (show x.rel bs = noR from by show saysK x.kind x.set x.lo x.hi bs (x.kids.rels bs) = _; rw [hk]; simp [saysK])
 intro hbl B cap V cv A ca L w ht hcap hV hcv hA hca hP
 have HBl := Lib.hid hbl
 have HK := Lib.hid hk
 obtain ⟨W0, hW0⟩ : ∃ W0, (w.alloc (.cells (ndA x B cap) 28)).alloc (.cells #[] 3) = W0 := ⟨_, rfl⟩
 obtain ⟨hF, hR⟩ := from_made hW0
 have HF := Lib.hid hF
 have HT := Lib.hid ht
 have HVb := Lib.hid hV
 have HL := Lib.hid (show LiIn w A ca bs.length L from ⟨hA, hca, hP⟩)
 have HR := Lib.hid hR
 have HCap := Lib.hid hcap
 have HCv := Lib.hid hcv
 unfold ndA at hW0
 unfold ndV
 rw [hk] at hW0 ⊢
 obtain ⟨x0, x1, x2, x3, x4, x5, x6, x7⟩ : _ ∧ _ ∧ _ ∧ _ ∧ _ ∧ _ ∧ _ ∧ _ := ⟨(HF.out.box).cell 0, (HF.out.box).cell 1, (HF.out.box).cell 2, (HF.out.box).cell 3, (HF.out.box).cell 4, (HF.out.box).cell 5, (HF.out.box).cell 6, (HF.out.box).cell 7⟩
 simp only [List.getElem?_toArray, List.getElem?_cons_zero, List.getElem?_cons_succ, ndA] at x0 x1 x2 x3 x4 x5 x6 x7
 rw [HK.out] at x0
 have lx := (HF.out.box).lt
 clear ht hV hA hca hP hF hR hk hcap hcv hbl
 go_enter Tryd.func30, Tryd.ntmps30
 go_wp2
 go_light
 go_ret
 obtain ⟨A', c, e, h1, h2⟩ := own_listM HR.out
 cases e
 exact ⟨[], some ⟨w.heap.size + 1, 0, none⟩, 0, by rw [HE.out]; exact ends_none _ (fun _ _ h => h) L, rfl, HF.out.below, h1, Nat.le_refl _⟩
theorem stepS_some (s : Nat) {bs : List Nat} {i c : Nat} (h : bs[i]? = some c) : stepS s bs (i : Int) = s.testBit c := by
 unfold stepS
 rw [Int.toNat_natCast, h]
theorem stepS_none (s : Nat) {bs : List Nat} {i : Nat} (h : bs.length ≤ i) : stepS s bs (i : Int) = false := by
 unfold stepS
 rw [Int.toNat_natCast, List.getElem?_eq_none h]
theorem from_set {x : Nd} {bs : List Nat} (hk : x.kind = 3) : FromC bs x := by
 have HE := Lib.hid (show x.rel bs = setR x.set bs from rel_set hk bs)
 intro hbl B cap V cv A ca L w ht hcap hV hcv hA hca hP
 have HBl := Lib.hid hbl
 have HK := Lib.hid hk
 obtain ⟨W0, hW0⟩ : ∃ W0, (w.alloc (.cells (ndA x B cap) 28)).alloc (.cells #[] 3) = W0 := ⟨_, rfl⟩
 obtain ⟨hF, hR⟩ := from_made hW0
 have HF := Lib.hid hF
 have HT := Lib.hid ht
 have HVb := Lib.hid hV
 have HL := Lib.hid (show LiIn w A ca bs.length L from ⟨hA, hca, hP⟩)
 have HR := Lib.hid hR
 have HCap := Lib.hid hcap
 have HCv := Lib.hid hcv
 unfold ndA at hW0
 unfold ndV
 rw [hk] at hW0 ⊢
 obtain ⟨x0, x1, x2, x3, x4, x5, x6, x7⟩ : _ ∧ _ ∧ _ ∧ _ ∧ _ ∧ _ ∧ _ ∧ _ := ⟨(HF.out.box).cell 0, (HF.out.box).cell 1, (HF.out.box).cell 2, (HF.out.box).cell 3, (HF.out.box).cell 4, (HF.out.box).cell 5, (HF.out.box).cell 6, (HF.out.box).cell 7⟩
 simp only [List.getElem?_toArray, List.getElem?_cons_zero, List.getElem?_cons_succ, ndA] at x0 x1 x2 x3 x4 x5 x6 x7
 rw [HK.out] at x0
 have lx := (HF.out.box).lt
 clear ht hV hA hca hP hF hR hk hcap hcv hbl
 go_enter Tryd.func30, Tryd.ntmps30
 go_wp2
 go_loopw [7, 8] (fun v i' wr => ∃ j : Nat, i' = .int .i64 (j : Int) ∧ j ≤ L.length ∧ Hid (FrI w wr x B cap) ∧ Hid (wr.ownsRow (w.heap.size + 1) 3 1 v (setL x.set bs (L.take j)).length (intsC (setL x.set bs (L.take j))))) (fun _ i' _ => L.length - (intOf i').toNat)
 case atStart => exact ⟨0, rfl, Nat.zero_le _, HF, HR⟩
 case round =>
  clear HF HR hW0 x0 x1 x2 x3 x4 x5 x6 x7 lx
  obtain ⟨j, rfl, hj, HF, HR⟩ := hrel
  by_cases hlt : j < L.length
  ·obtain ⟨a, ha⟩ : ∃ a, L[j]? = some a := ⟨_, List.getElem?_eq_getElem hlt⟩
   have ha2 := HL.out.2.2.2 a (List.mem_of_getElem? ha)
   obtain ⟨i, rfl⟩ := Int.eq_ofNat_of_zero_le ha2.1
   have hca := HL.out.2.1
   obtain ⟨b', o', rfl, hc⟩ := (HL.out.1.below HF.out.below) j _ ha
   have hdl : (j : Int) < (L.length : Int) := by omega
   have hdc : (j : Int) < (ca : Int) := by omega
   have hwj : IntKind.i64.wrap ((j : Int) + 1) = (j : Int) + 1 := by rw [IntKind.wrap_i64]; have := places_short HL.out.2.2; have := HVb.out.2.1; omega
   have hwi : IntKind.i64.wrap ((i : Int) + 1) = (i : Int) + 1 := by rw [IntKind.wrap_i64]; have := HVb.out.2.1; omega
   have HYes := Lib.hid (fun h => setL_yes (s := x.set) (bs := bs) ha h)
   have HNo := Lib.hid (fun h => setL_no (s := x.set) (bs := bs) ha h)
   have lbc : b' < wr.heap.size := World.block_lt_of_cell? wr _ hc
   by_cases hil : i < bs.length
   ·obtain ⟨c, hbc⟩ : ∃ c, bs[i]? = some c := ⟨_, List.getElem?_eq_getElem hil⟩
    obtain ⟨hb256, _, hbw⟩ := HVb.out.below HF.out.below
    obtain ⟨b2, o2, rfl, _, hbcell⟩ := hbw (by omega)
    have hcell := hbcell i hil
    have hbi : byteAt bs i = c := by unfold byteAt; simp [hbc]
    have hc256 := hb256 c (List.mem_of_getElem? hbc)
    rw [hbi] at hcell
    have lb2 : b2 < wr.heap.size := World.block_lt_of_cell? wr _ hcell
    have hst := stepS_some x.set hbc
    have hdi : (i : Int) < (bs.length : Int) := by omega
    have hdv : (i : Int) < (cv : Int) := by have := HCv.out; omega
    have hdd : decide ((i : Int) < (bs.length : Int)) = true := by simp; omega
    have Hst := Lib.hid hst
    have hwc : IntKind.i64.wrap (c : Int) = (c : Int) := by rw [IntKind.wrap_i64]; omega
    have HC := Lib.hid (fun W => rhas_any x.set.testBit (c : Int) W (by omega) (by omega))
    clear hb256 hbw hbcell hbi ha ha2 hst hbc
    obtain ⟨x0, x1, x2, x3, x4, x5, x6, x7⟩ : _ ∧ _ ∧ _ ∧ _ ∧ _ ∧ _ ∧ _ ∧ _ := ⟨(HF.out.box).cell 0, (HF.out.box).cell 1, (HF.out.box).cell 2, (HF.out.box).cell 3, (HF.out.box).cell 4, (HF.out.box).cell 5, (HF.out.box).cell 6, (HF.out.box).cell 7⟩
    simp only [List.getElem?_toArray, List.getElem?_cons_zero, List.getElem?_cons_succ, ndA] at x0 x1 x2 x3 x4 x5 x6 x7
    rw [HK.out] at x0
    have lx := (HF.out.box).lt
    rw [Int.toNat_natCast] at HC
    go_wp2
    first
     | (go_region_held3 (fun w' => (∀ b o, b < wr.heap.size → w'.cell? ⟨b, o, none⟩ = wr.cell? ⟨b, o, none⟩) ∧ Since wr.heap.size wr w') (first | exact since_start (Nat.le_refl _) | exact since_step (by assumption) (by assumption))
       (first | (go_at_call 48; refine (HC.out _).mono ?_; rintro _ w' ⟨rfl, hb'⟩)))
     | fail
    rename_i hS
    have HF2 := Lib.hid (HF.out.next hS.2.1)
    have HR2 := Lib.hid (rowBelow HR.out hS.2.1)
    have hc2 := (hS.1 b' (o' + j) lbc).trans hc
    clear hS x0 x1 x2 x3 x4 x5 x6 x7 lx hcell lb2 hc HF HR
    cases hm : x.set.testBit c with
    | true =>
     have HY := Lib.hid (HYes.out (Hst.out.trans hm))
     try simp only [hm]
     clear hm
     obtain ⟨v2, w2, hr2, ho2, hb2⟩ := push_own_int w' (w.heap.size + 1) _ (setL x.set bs (L.take j)) HR2.out ((i : Int) + 1) (by have := setL_len x.set bs (L.take j); have := places_short HL.out.2.2; have := HBl.out; have := List.length_take_le j L; omega) (by have := HF2.out.box.lt; omega)
     have HR3 := Lib.hid hr2
     have HO3 := Lib.hid ho2
     have HF3 := Lib.hid (HF2.out.push (hb2 (w.heap.size + 1) w' (Below.refl _ _) (Nat.le_refl _)))
     clear hr2 ho2 hb2
     go_wp2_with (at_builtin; refine wpList_append_by rfl _ _ 32 32 rfl _ _ _ _ rfl rfl HR3.out ?_)
     refine ⟨⟨j + 1, by rw [show ((j + 1 : Nat) : Int) = (j : Int) + 1 by omega], by omega, HF3, Lib.hid (by rw [HY.out]; exact HO3.out)⟩, ?_⟩
     simp [intOf]
     omega
    | false =>
     have HN := Lib.hid (HNo.out (Hst.out.trans hm))
     try simp only [hm]
     clear hm
     go_wp2
     refine ⟨⟨j + 1, by rw [show ((j + 1 : Nat) : Int) = (j : Int) + 1 by omega], by omega, HF2, Lib.hid (by rw [HN.out]; exact HR2.out)⟩, ?_⟩
     simp [intOf]
     omega
   ·have hdi : ¬ (i : Int) < (bs.length : Int) := by omega
    have hdd : decide ((i : Int) < (bs.length : Int)) = false := by simp; omega
    have HN := Lib.hid (HNo.out (stepS_none x.set (by omega)))
    have HF2 := Lib.hid (HF.out.next (Below.refl _ _).drew)
    have HR2 := Lib.hid (rowBelow HR.out (Below.refl _ _).drew)
    clear ha ha2
    go_wp2
    go_region
    go_wp2
    refine ⟨⟨j + 1, by rw [show ((j + 1 : Nat) : Int) = (j : Int) + 1 by omega], by omega, HF2, Lib.hid (by rw [HN.out]; exact HR2.out)⟩, ?_⟩
    simp [intOf]
    omega
  ·obtain rfl : j = L.length := by omega
   have hdl : ¬ (L.length : Int) < (L.length : Int) := by omega
   rw [List.take_length] at HR
   go_wp2
   go_light
   go_ret
   obtain ⟨A', c, rfl, h1, h2⟩ := own_listM HR.out
   exact ⟨_, A', c, by rw [HE.out]; exact setL_ends HL.out.2.2, rfl, HF.out.below, h1, h2⟩
end Go.Proofs.YtfcblmbieiibmaaDoor
